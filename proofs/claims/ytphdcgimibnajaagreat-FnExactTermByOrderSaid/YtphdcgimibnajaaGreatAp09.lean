/- Contracts: the order of the edges (the reference). Contracts: how often each wire of a graph occurs (the reference). Contract: the leaves of the reference. Contracts: one edge as described, on both sides. -/
import Derived.Test.YtphdcgimibnajaaGreatAp07
import Derived.RegionCalls
import Derived.Deep.RegionWith
import Derived.Deep.RegionHeld3
namespace Go.Proofs.YtphdcgimibnajaaGreat
set_option maxRecDepth 100000
open Go Go.RowKit
def frB (es : List Ed) (op : List Bool) (f : Int) (m : Nat) : Bool := (upL m).all fun e => !(SL op e) || !meetB (edAt es e).outs (edAt es f).ins
theorem frB_succ (es : List Ed) (op : List Bool) (f : Int) (m : Nat) : frB es op f (m + 1) = (frB es op f m && (!(SL op (m : Int)) || !meetB (edAt es (m : Int)).outs (edAt es f).ins)) := by
  unfold frB
  rw [upL_succ, List.all_append]
  simp
theorem frB_fin (es : List Ed) (op : List Bool) (f : Int) : frB es op f es.length = !((ndF es f).any (SL op)) := by
  unfold frB ndF
  rw [List.any_filter, List.all_eq_not_any_not]
  congr 2
  funext e
  rw [meetB_comm]
  cases SL op e <;> cases meetB (edAt es f).ins (edAt es e).outs <;> rfl
set_option maxHeartbeats 4000000 in
theorem hgOrder_c (N : Int) (E : Option Addr) (ec : Nat) (es : List Ed) (I O : Value) (w : World) (hE : RdS EE w E es) (hn : es.length ≤ 60) (hI : ∃ A n c, I = .slice A n c) (hO : ∃ A n c, O = .slice A n c) :
    Calls Tryz.prog 24 #[.agg #[.int .i64 N, .slice E es.length ec, I, O]] w fun e w' => LIo w (orderL es) e w' := by
  obtain ⟨I, il, ic, rfl⟩ := hI
  obtain ⟨O, ol, oc, rfl⟩ := hO
  have hmk := fun W => run_make_bools es.length (by omega) W
  have y0 := (Ex.refl w).alloc (.cells #[.int .i64 N, .slice E es.length ec, .slice I il ic, .slice O ol oc] 34)
  have d0 := VB.new w 34 #[.int .i64 N, .slice E es.length ec, .slice I il ic, .slice O ol oc]
  have S0 := Lib.hid (show (w.alloc (.cells #[.int .i64 N, .slice E es.length ec, .slice I il ic, .slice O ol oc] 34)).heap.size = w.heap.size + 1 by simp)
  go_enter Tryz.func24, Tryz.ntmps24
  go_wp2_with fail
  generalize w.alloc (.cells #[.int .i64 N, .slice E es.length ec, .slice I il ic, .slice O ol oc] 34) = W0 at *
  have y1 := (Ex.refl W0).alloc (.cells (bObj (List.replicate es.length false)) 4)
  have v1 := VB.new W0 4 (bObj (List.replicate es.length false))
  rw [S0.out] at v1
  have S1 : (W0.alloc (.cells (bObj (List.replicate es.length false)) 4)).heap.size = w.heap.size + 1 + 1 := by simp; exact S0.out
  generalize W0.alloc (.cells (bObj (List.replicate es.length false)) 4) = W1 at *
  have d0 := d0.ex y1
  have xx := y0.trans y1
  clear y0 y1 S0
  have H0 := Lib.hid (show ([] : List Int) ++ schM (ndF es) es.length es.length (List.replicate es.length true) = orderL es from rfl)
  have HC := Lib.hid (show (List.replicate es.length true).count true ≤ es.length by simp)
  have em : bObj (List.replicate es.length false) = bObj ((List.replicate es.length true).map fun b => !b) := by simp
  rw [em] at v1
  clear em
  go_loopg [3] es.length (fun f o wi => ∃ (op : List Bool) (out : List Int), op.length = es.length ∧ Hid (op.count true ≤ f) ∧ f ≤ es.length ∧ out.length + f = es.length ∧ AL wi (w.heap.size + 1 + 1) o out ∧ Hid (out ++ schM (ndF es) es.length f op = orderL es) ∧
    VB wi (w.heap.size + 1) 4 (bObj (op.map (fun b => !b))) ∧ VB wi w.heap.size 34 #[.int .i64 N, .slice E es.length ec, .slice I il ic, .slice O ol oc] ∧ Ex w wi)
  case atStart => exact ⟨List.replicate es.length true, [], by simp, HC, Nat.le_refl _, by simp, AL.nil _ _, H0, v1, d0, xx⟩
  case round =>
    obtain ⟨op, out, hlen, Hcnt, hf, hof, hal, Htot, hd1, hd0, he⟩ := hrel
    have q1 := hd0.cell 1 (v := .slice E es.length ec) rfl
    go_wp2_with fail
    clear q1
    go_loopw [5, 16] (fun a i wj => ∃ k : Nat, k ≤ es.length ∧ i = .int .i64 k ∧ a = .int .i64 (idxP (isM (ndF es) (SL op)) (upL k)) ∧ AL wj (w.heap.size + 1 + 1) u3 out ∧ VB wj (w.heap.size + 1) 4 (bObj (op.map (fun b => !b))) ∧ VB wj w.heap.size 34 #[.int .i64 N, .slice E es.length ec, .slice I il ic, .slice O ol oc] ∧ Ex w wj) (fun _ i _ => es.length - (intOf i).toNat)
    case atStart => exact ⟨0, Nat.zero_le _, rfl, rfl, hal, hd1, hd0, he⟩
    case round =>
      clear hal hd1 hd0 he
      obtain ⟨k, hk, rfl, rfl, hal, hd1, hd0, he⟩ := hrel
      by_cases hlt : k < es.length
      · obtain ⟨g, off, x, P, pc, Q, qc, rfl, hx, c0, c1, c2, c3, hP, hQ⟩ := hE.edge hlt
        obtain ⟨bk, hbk⟩ : ∃ bk, op[k]? = some bk := ⟨_, List.getElem?_eq_getElem (by omega)⟩
        have qd := hd1.bcell (i := k) (b := !bk) (by rw [List.getElem?_map, hbk]; rfl)
        have hsn := idxP_snoc (isM (ndF es) (SL op)) k
        have hSk : SL op (k : Int) = bk := by rw [SL_nat, List.getD_eq_getElem?_getD, hbk]; rfl
        obtain ⟨at_, hat⟩ : ∃ a, idxP (isM (ndF es) (SL op)) (upL k) = a := ⟨_, rfl⟩
        rw [hat] at hsn ⊢
        have Hat := Lib.hid hat
        have Hsn := Lib.hid hsn
        have HSk := Lib.hid hSk
        have Hx := Lib.hid hx
        clear hat hsn hSk hx hbk
        cases bk with
        | false =>
          have Hres := Lib.hid (show at_ = idxP (isM (ndF es) (SL op)) (upL (k + 1)) by
            rw [Hsn.out, show isM (ndF es) (SL op) (k : Int) = false by rw [isM, HSk.out]; rfl]
            rcases idxP_cases (isM (ndF es) (SL op)) k with ⟨h1, _⟩ | ⟨i, _, h1, _⟩
            · rw [Hat.out] at h1; subst h1; rfl
            · rw [Hat.out] at h1; rw [if_pos (by omega)])
          go_wp2_with fail
          all_goals go_roundw
          all_goals first
            | exact ⟨k + 1, by omega, by go_num, by rw [← Hres.out], hal, hd1, hd0, he⟩
            | (simp [intOf]; omega)
        | true =>
          by_cases hp : 0 ≤ at_
          · have Hres := Lib.hid (show at_ = idxP (isM (ndF es) (SL op)) (upL (k + 1)) by rw [Hsn.out, if_pos hp])
            go_wp2_with fail
            all_goals go_roundw
            all_goals first
              | exact ⟨k + 1, by omega, by go_num, by rw [← Hres.out], hal, hd1, hd0, he⟩
              | (simp [intOf]; omega)
          · have q1 := hd0.cell 1 (v := .slice (some ⟨g, off, none⟩) es.length ec) rfl
            go_wp2_with fail
            clear q1 qd
            go_loopw [7, 30] (fun r j wm => ∃ m : Nat, m ≤ es.length ∧ j = .int .i64 m ∧ r = .bool (frB es op (k : Int) m) ∧ AL wm (w.heap.size + 1 + 1) u3 out ∧ VB wm (w.heap.size + 1) 4 (bObj (op.map (fun b => !b))) ∧ VB wm w.heap.size 34 #[.int .i64 N, .slice (some ⟨g, off, none⟩) es.length ec, .slice I il ic, .slice O ol oc] ∧ Ex w wm) (fun _ j _ => es.length - (intOf j).toNat)
            case atStart => exact ⟨0, Nat.zero_le _, rfl, rfl, hal, hd1, hd0, he⟩
            case round =>
              clear hal hd1 hd0 he
              obtain ⟨m, hm, rfl, rfl, hal, hd1, hd0, he⟩ := hrel
              by_cases hml : m < es.length
              · obtain ⟨g', off', y, P', pc', Q', qc', hAe, hy, e0, e1, e2, e3, hP', hQ'⟩ := hE.edge hml
                injection hAe with hAe
                injection hAe with a1 a2 _
                subst a1 a2
                obtain ⟨bm, hbm⟩ : ∃ bm, op[m]? = some bm := ⟨_, List.getElem?_eq_getElem (by omega)⟩
                have qd := hd1.bcell (i := m) (b := !bm) (by rw [List.getElem?_map, hbm]; rfl)
                have q1 := hd0.cell 1 (v := .slice (some ⟨g, off, none⟩) es.length ec) rfl
                have hfs := frB_succ es op (k : Int) m
                rw [edAt_nat hy, edAt_nat Hx.out, show SL op (m : Int) = bm by rw [SL_nat, List.getD_eq_getElem?_getD, hbm]; rfl] at hfs
                obtain ⟨rr, hrr⟩ : ∃ r, frB es op (k : Int) m = r := ⟨_, rfl⟩
                rw [hrr] at hfs ⊢
                clear hrr hy hbm
                cases rr with
                | false =>
                  have HF := Lib.hid (show frB es op (k : Int) (m + 1) = false by rw [hfs]; rfl)
                  clear hfs
                  go_wp2_with fail
                  go_quiet (fail)
                  go_wp2_with fail
                  go_roundw
                  case rel => exact ⟨m + 1, by omega, by go_num, by rw [HF.out], hal.drewN _, hd1, hd0, he.drewN _⟩
                  case measure => simp [intOf]; omega
                | true =>
                  cases bm with
                  | false =>
                    have HF := Lib.hid (show frB es op (k : Int) (m + 1) = true by rw [hfs]; rfl)
                    clear hfs
                    go_wp2_with fail
                    go_quiet (fail)
                    go_wp2_with fail
                    go_roundw
                    case rel => exact ⟨m + 1, by omega, by go_num, by rw [HF.out], hal.drewN _, hd1, hd0, he.drewN _⟩
                    case measure => simp [intOf]; omega
                  | true =>
                    have HF := Lib.hid (show frB es op (k : Int) (m + 1) = !meetB y.outs x.ins by rw [hfs]; simp)
                    have k2 := cell_ex he c2
                    have k3 := cell_ex he e3
                    have hmt := fun W (hW : Ex wr W) => hgMeets_c Q' qc' y.outs P pc x.ins W (hQ'.ex (he.trans hW)) (hP.ex (he.trans hW))
                    clear hfs e0 e1 e2 e3 c0 c1 c2 c3
                    have HS : ∀ W, Ex wr W → (Ex wr W ∧ W.cell? ⟨w.heap.size, 1, none⟩ = some (.slice (some ⟨g, off, none⟩) es.length ec) ∧ W.cell? ⟨g, off + k * 4 + 2, none⟩ = some (.slice P x.ins.length pc) ∧ W.cell? ⟨g, off + m * 4 + 3, none⟩ = some (.slice Q' y.outs.length qc') ∧ W.cell? ⟨w.heap.size + 1, m, none⟩ = some (.bool false)) := fun W h => ⟨h, cell_ex h q1, cell_ex h k2, cell_ex h k3, cell_ex h qd⟩
                    have eA := (Ex.refl wr).drew
                    go_wp2_with fail
                    go_region_held3 (fun W => Ex wr W ∧ W.cell? ⟨w.heap.size, 1, none⟩ = some (.slice (some ⟨g, off, none⟩) es.length ec) ∧ W.cell? ⟨g, off + k * 4 + 2, none⟩ = some (.slice P x.ins.length pc) ∧ W.cell? ⟨g, off + m * 4 + 3, none⟩ = some (.slice Q' y.outs.length qc') ∧ W.cell? ⟨w.heap.size + 1, m, none⟩ = some (.bool false)) (first
                      | (exact HS _ x1) | (exact HS _ eA) | (exact HS _ (Ex.refl wr))) (first
                      | (go_at_call 47
                         have hb := (‹Ex wr _ ∧ _›).1
                         refine (hmt _ hb).mono ?_
                         rintro e w1 ⟨rfl, rfl⟩
                         have x1 := hb
                         clear hb))
                    all_goals
                      go_wp2_with fail
                      go_roundw
                      case rel => exact ⟨m + 1, by omega, by go_num, by rw [HF.out], hal.ex x1, hd1.ex x1, hd0.ex x1, he.trans x1⟩
                      case measure => simp [intOf]; omega
              · obtain rfl : m = es.length := by omega
                rw [frB_fin]
                have Hm1 := Lib.hid (show at_ = -1 by
                  rcases idxP_cases (isM (ndF es) (SL op)) k with ⟨h1, _⟩ | ⟨i, _, h1, _⟩
                  · rw [Hat.out] at h1; exact h1
                  · rw [Hat.out] at h1; omega)
                cases hN : (ndF es (k : Int)).any (SL op) with
                | true =>
                  have Hfin := Lib.hid (show idxP (isM (ndF es) (SL op)) (upL (k + 1)) = -1 by
                    rw [Hsn.out, if_neg (by omega), show isM (ndF es) (SL op) (k : Int) = false by rw [isM, HSk.out, hN]; rfl]; rfl)
                  clear hN
                  go_wp2_with fail
                  go_roundw
                  case rel => exact ⟨k + 1, by omega, by go_num, by rw [Hfin.out, Hm1.out], hal, hd1, hd0, he⟩
                  case measure => simp [intOf]; omega
                | false =>
                  have Hfin := Lib.hid (show idxP (isM (ndF es) (SL op)) (upL (k + 1)) = (k : Int) by
                    rw [Hsn.out, if_neg (by omega), show isM (ndF es) (SL op) (k : Int) = true by rw [isM, HSk.out, hN]; rfl]; rfl)
                  clear hN
                  go_wp2_with fail
                  go_roundw
                  case rel => exact ⟨k + 1, by omega, by go_num, by rw [Hfin.out], hal, hd1, hd0, he⟩
                  case measure => simp [intOf]; omega
      · obtain rfl : k = es.length := by omega
        rw [show idxP (isM (ndF es) (SL op)) (upL es.length) = nxM (ndF es) es.length op from rfl]
        rcases nxM_cases (ndF es) es.length op with hneg | ⟨i, hi, hni, _, hoi⟩
        · have HR := Lib.hid (show orderL es = out by rw [← Htot.out, schM_end _ _ _ hneg, List.append_nil])
          obtain ⟨O2, oc2, rfl, fo⟩ := hal.form (by omega)
          generalize nxM (ndF es) es.length op = q at *
          go_wp2_with fail
          go_ret
          rw [HR.out]
          exact ⟨_, rfl, ⟨O2, oc2, rfl, (fo.more (by omega)).fi⟩, he⟩
        · have Hni := Lib.hid hni
          have hgk : ∃ f, gk = f + 1 := ⟨gk - 1, by have := Hcnt.out; have := List.count_pos_iff.2 (List.mem_of_getElem? hoi); omega⟩
          obtain ⟨f, rfl⟩ := hgk
          have Hst := Lib.hid (schM_next (ndF es) es.length f hni)
          have Hcs := Lib.hid (count_set hoi)
          rw [hni]
          have q2 := hd1.bcell (i := i) (b := false) (by rw [List.getElem?_map, hoi]; rfl)
          have qf := hd1.frozen i
          have hd1s := hd1.bset i true
          have hE1 : Ex1 (w.heap.size + 1) wr (wr.setCell ⟨w.heap.size + 1, i, none⟩ (.bool true)) := (Ex1.refl _ _).setCell rfl _
          have em : (op.map (fun b => !b)).set i true = (op.set i false).map (fun b => !b) := by rw [List.map_set]; rfl
          rw [em] at hd1s
          have hal3 := hal.e1 hE1 (by omega)
          have hd03 := hd0.ex1 hE1 (by omega)
          have he3 := he.ex1 hE1 (by omega)
          have hz3 := hE1.size
          have hz4 := he.size
          have hz5 := hd1.lt
          obtain ⟨v', w4, hrun2, hal4, hI⟩ := al_push_i _ (w.heap.size + 1 + 1) u3 out (i : Int) hal3 (by omega) (by omega)
          rw [show (wr.setCell ⟨w.heap.size + 1, i, none⟩ (.bool true)).heap.size = wr.heap.size by simp [World.setCell]] at hrun2
          have hd14 := hd1s.iv hI (by omega)
          have hd04 := hd03.iv hI (by omega)
          have he4 := he3.iv hI (by omega)
          have HT := Lib.hid (show (out ++ [(i : Int)]) ++ schM (ndF es) es.length f (op.set i false) = orderL es by
            have e := Htot.out
            rw [Hst.out] at e
            rw [← e, List.append_assoc]; rfl)
          have HC2 := Lib.hid (show (op.set i false).count true ≤ f by have := Hcs.out; have := Hcnt.out; omega)
          clear hni em hal hd1 hd0 he
          go_wp2_with (at_builtin; refine wpList_append_run rfl _ _ _ rfl rfl rfl hrun2 ?_)
          go_roundg f
          case measure => omega
          case rel => exact ⟨op.set i false, out ++ [(i : Int)], by rw [List.length_set]; exact hlen, HC2, by omega, by rw [List.length_append, List.length_singleton]; omega, hal4, HT, hd14, hd04, he4⟩
end Go.Proofs.YtphdcgimibnajaaGreat
namespace Go.Proofs.YtphdcgimibnajaaGreat
set_option maxRecDepth 100000
open Go Go.RowKit
set_option maxHeartbeats 4000000 in
theorem hgCounts_c (n : Nat) (E : Option Addr) (ec : Nat) (es : List Ed) (I : Option Addr) (ic : Nat) (ins : List Int) (O : Option Addr) (oc : Nat) (outs : List Int) (w : World) (hE : RdS EE w E es) (hI : Rd w I ins) (hO : Rd w O outs) (hn : n ≤ 100)
    (h1 : ∀ k ∈ ins ++ outsL es, 0 ≤ k ∧ k < n) (h2 : ∀ k ∈ outs ++ insL es, 0 ≤ k ∧ k < n) (b1 : (ins ++ outsL es).length ≤ 1000) (b2 : (outs ++ insL es).length ≤ 1000) :
    Calls Tryz.prog 77 #[.agg #[.int .i64 n, .slice E es.length ec, .slice I ins.length ic, .slice O outs.length oc]] w fun e w' =>
      ∃ f t, e = .returned (.tuple #[.slice (some ⟨f, 0, none⟩) n n, .slice (some ⟨t, 0, none⟩) n n]) ∧ w.heap.size ≤ f ∧ f < t ∧ Own w' f (cntL n (ins ++ outsL es)) ∧ Own w' t (cntL n (outs ++ insL es)) ∧ Ex w w' := by
  have hmk := fun W => run_make_ints n (by omega) W
  have hEl := hE.1
  have hIl := hI.len
  have hOl := hO.len
  have H1 := Lib.hid h1
  have H2 := Lib.hid h2
  have B1 := Lib.hid b1
  have B2 := Lib.hid b2
  clear h1 h2 b1 b2
  have y0 := (Ex.refl w).alloc (.cells #[.int .i64 n, .slice E es.length ec, .slice I ins.length ic, .slice O outs.length oc] 34)
  have d0 := VB.new w 34 #[.int .i64 n, .slice E es.length ec, .slice I ins.length ic, .slice O outs.length oc]
  have S0 := Lib.hid (show (w.alloc (.cells #[.int .i64 n, .slice E es.length ec, .slice I ins.length ic, .slice O outs.length oc] 34)).heap.size = w.heap.size + 1 by simp)
  go_enter Tryz.func77, Tryz.ntmps77
  go_wp2_with fail
  generalize w.alloc (.cells #[.int .i64 n, .slice E es.length ec, .slice I ins.length ic, .slice O outs.length oc] 34) = W0 at *
  have y1 := (Ex.refl W0).alloc (iObj (List.replicate n 0))
  have o1 := Own.new W0 (List.replicate n 0)
  rw [S0.out] at o1
  have S1 := Lib.hid (show (W0.alloc (iObj (List.replicate n 0))).heap.size = w.heap.size + 1 + 1 by simp; exact S0.out)
  generalize W0.alloc (iObj (List.replicate n 0)) = W1 at *
  have y2 := (Ex.refl W1).alloc (iObj (List.replicate n 0))
  have o2 := Own.new W1 (List.replicate n 0)
  rw [S1.out] at o2
  generalize W1.alloc (iObj (List.replicate n 0)) = W2 at *
  have o1 := o1.ex y2
  have d0 := (d0.ex y1).ex y2
  have xx := (y0.trans y1).trans y2
  clear y0 y1 y2 S0 S1
  rw [← cntL_nil n] at o1 o2
  go_loopw [25] (fun i wr => ∃ k : Nat, k ≤ ins.length ∧ i = .int .i64 k ∧ Own wr (w.heap.size + 1) (cntL n (ins.take k)) ∧ Own wr (w.heap.size + 1 + 1) (cntL n []) ∧ VB wr w.heap.size 34 #[.int .i64 n, .slice E es.length ec, .slice I ins.length ic, .slice O outs.length oc] ∧ Ex w wr) (fun i _ => ins.length - (intOf i).toNat)
  case atStart => exact ⟨0, Nat.zero_le _, rfl, o1, o2, d0, xx⟩
  case round =>
    obtain ⟨k, hk, rfl, hf, ht, hd, he⟩ := hrel
    by_cases hlt : k < ins.length
    · obtain ⟨g, off, q, rfl, hq, hg, hc⟩ := (hI.ex he).at_ hlt
      have hqb := H1.out q (List.mem_append_left _ (List.mem_of_getElem? hq))
      obtain ⟨qn, rfl⟩ := Int.eq_ofNat_of_zero_le hqb.1
      have hqn : qn < n := by have := hqb.2; omega
      have c1 := hf.cell (cntL_at (l := ins.take k) hqn)
      have f1 := hf.frozen qn
      have hlen : (ins.take k).count (qn : Int) ≤ 1000 := Nat.le_trans (cnt_le _ _) (by rw [List.length_take]; have := B1.out; rw [List.length_append] at this; omega)
      have hf2 := hf.set_ qn (((ins.take k).count (qn : Int) : Nat) + 1)
      rw [cntL_push, show ins.take k ++ [(qn : Int)] = ins.take (k + 1) by rw [List.take_add_one, hq]; rfl] at hf2
      have E1 : Ex1 (w.heap.size + 1) wr (wr.setCell ⟨w.heap.size + 1, qn, none⟩ (.int .i64 (((ins.take k).count (qn : Int) : Nat) + 1))) := (Ex1.refl _ _).setCell rfl _
      have ht2 := ht.ex1 E1 (by omega)
      have hd2 := hd.ex1 E1 (by omega)
      have he2 := he.ex1 E1 (by omega)
      clear hq ht hd he
      generalize hcc : List.count (qn : Int) (ins.take k) = cc at *
      clear hcc
      go_wp2_with fail
      go_roundw
      case rel => exact ⟨k + 1, by omega, by go_num, hf2, ht2, hd2, he2⟩
      case measure => simp [intOf]; omega
    · obtain rfl : k = ins.length := by omega
      rw [List.take_length] at hf
      have q0 := hd.cell 3 (v := .slice O outs.length oc) rfl
      go_wp2_with fail
      clear q0
      go_loopw [39] (fun i wr => ∃ k : Nat, k ≤ outs.length ∧ i = .int .i64 k ∧ Own wr (w.heap.size + 1) (cntL n ins) ∧ Own wr (w.heap.size + 1 + 1) (cntL n (outs.take k)) ∧ VB wr w.heap.size 34 #[.int .i64 n, .slice E es.length ec, .slice I ins.length ic, .slice O outs.length oc] ∧ Ex w wr) (fun i _ => outs.length - (intOf i).toNat)
      case atStart => exact ⟨0, Nat.zero_le _, rfl, hf, ht, hd, he⟩
      case round =>
        clear hf ht hd he
        obtain ⟨k, hk, rfl, hf, ht, hd, he⟩ := hrel
        by_cases hlt : k < outs.length
        · obtain ⟨g, off, q, rfl, hq, hg, hc⟩ := (hO.ex he).at_ hlt
          have hqb := H2.out q (List.mem_append_left _ (List.mem_of_getElem? hq))
          obtain ⟨qn, rfl⟩ := Int.eq_ofNat_of_zero_le hqb.1
          have hqn : qn < n := by have := hqb.2; omega
          have c1 := ht.cell (cntL_at (l := outs.take k) hqn)
          have f1 := ht.frozen qn
          have hlen : (outs.take k).count (qn : Int) ≤ 1000 := Nat.le_trans (cnt_le _ _) (by rw [List.length_take]; have := B2.out; rw [List.length_append] at this; omega)
          have ht2 := ht.set_ qn (((outs.take k).count (qn : Int) : Nat) + 1)
          rw [cntL_push, show outs.take k ++ [(qn : Int)] = outs.take (k + 1) by rw [List.take_add_one, hq]; rfl] at ht2
          have E1 : Ex1 (w.heap.size + 1 + 1) wr (wr.setCell ⟨w.heap.size + 1 + 1, qn, none⟩ (.int .i64 (((outs.take k).count (qn : Int) : Nat) + 1))) := (Ex1.refl _ _).setCell rfl _
          have hf2 := hf.ex1 E1 (by omega)
          have hd2 := hd.ex1 E1 (by omega)
          have he2 := he.ex1 E1 (by omega)
          clear hq hf hd he
          generalize hcc : List.count (qn : Int) (outs.take k) = cc at *
          clear hcc
          go_wp2_with fail
          go_roundw
          case rel => exact ⟨k + 1, by omega, by go_num, hf2, ht2, hd2, he2⟩
          case measure => simp [intOf]; omega
        · obtain rfl : k = outs.length := by omega
          rw [List.take_length] at ht
          have q0 := hd.cell 1 (v := .slice E es.length ec) rfl
          have e1 : outsL ([] : List Ed) = [] := rfl
          have e2 : insL ([] : List Ed) = [] := rfl
          rw [← List.append_nil ins, ← e1] at hf
          rw [← List.append_nil outs, ← e2] at ht
          clear e1 e2
          go_wp2_with fail
          clear q0
          go_loopw [53] (fun i wr => ∃ k : Nat, k ≤ es.length ∧ i = .int .i64 k ∧ Own wr (w.heap.size + 1) (cntL n (ins ++ outsL (es.take k))) ∧ Own wr (w.heap.size + 1 + 1) (cntL n (outs ++ insL (es.take k))) ∧ Ex w wr) (fun i _ => es.length - (intOf i).toNat)
          case atStart => exact ⟨0, Nat.zero_le _, rfl, hf, ht, he⟩
          case round =>
            clear hf ht hd he
            obtain ⟨k, hk, rfl, hf, ht, he⟩ := hrel
            by_cases hlt : k < es.length
            · obtain ⟨g, off, x, P, pc, Q, qc, rfl, hx, c0, c1, c2, c3, hP, hQ⟩ := hE.edge hlt
              replace c0 := cell_ex he c0
              replace c1 := cell_ex he c1
              replace c2 := cell_ex he c2
              replace c3 := cell_ex he c3
              have y3 := (Ex.refl wr).alloc (.cells #[.int .i64 x.kd, .int .i64 x.vl, .slice P x.ins.length pc, .slice Q x.outs.length qc] 69)
              have v3 := VB.new wr 69 #[.int .i64 x.kd, .int .i64 x.vl, .slice P x.ins.length pc, .slice Q x.outs.length qc]
              have hPl := hP.len
              have hQl := hQ.len
              have hs1 := hf.lt
              have hs2 := ht.lt
              have Hx := Lib.hid hx
              go_wp2_with fail
              have hf := hf.ex y3
              have ht := ht.ex y3
              have he := he.trans y3
              have hz3 := y3.size
              clear c0 c1 c2 c3 hx y3
              generalize wr.alloc (.cells #[.int .i64 x.kd, .int .i64 x.vl, .slice P x.ins.length pc, .slice Q x.outs.length qc] 69) = W3 at *
              obtain ⟨b, hbe⟩ : ∃ b, wr.heap.size = b := ⟨_, rfl⟩
              rw [hbe] at v3 hz3 hs1 hs2 ⊢
              clear hbe
              rw [← List.append_nil (ins ++ outsL (es.take k))] at hf
              go_loopw [60] (fun i wi => ∃ j : Nat, j ≤ x.outs.length ∧ i = .int .i64 j ∧ Own wi (w.heap.size + 1) (cntL n (ins ++ outsL (es.take k) ++ x.outs.take j)) ∧ Own wi (w.heap.size + 1 + 1) (cntL n (outs ++ insL (es.take k))) ∧ VB wi b 69 #[.int .i64 x.kd, .int .i64 x.vl, .slice P x.ins.length pc, .slice Q x.outs.length qc] ∧ Ex w wi) (fun i _ => x.outs.length - (intOf i).toNat)
              case atStart => exact ⟨0, Nat.zero_le _, rfl, hf, ht, v3, he⟩
              case round =>
                clear hf ht he v3
                obtain ⟨j, hj, rfl, hf, ht, v3, he⟩ := hrel
                by_cases hjl : j < x.outs.length
                · obtain ⟨g', off', q, rfl, hq, hg', hc'⟩ := (hQ.ex he).at_ hjl
                  have hqb := H1.out q (List.mem_append_right _ (mem_outsL_of (List.mem_of_getElem? Hx.out) (List.mem_of_getElem? hq)))
                  obtain ⟨qn, rfl⟩ := Int.eq_ofNat_of_zero_le hqb.1
                  have hqn : qn < n := by have := hqb.2; omega
                  have c1 := hf.cell (cntL_at (l := ins ++ outsL (es.take k) ++ x.outs.take j) hqn)
                  have f1 := hf.frozen qn
                  have hlen : (ins ++ outsL (es.take k) ++ x.outs.take j).count (qn : Int) ≤ 1000 := Nat.le_trans (cnt_le _ _) (by have := outsL_pre Hx.out; have := B1.out; simp only [List.length_append, List.length_take] at *; omega)
                  have hf2 := hf.set_ qn (((ins ++ outsL (es.take k) ++ x.outs.take j).count (qn : Int) : Nat) + 1)
                  rw [cntL_push, List.append_assoc _ _ [(qn : Int)], show x.outs.take j ++ [(qn : Int)] = x.outs.take (j + 1) by rw [List.take_add_one, hq]; rfl] at hf2
                  have E1 : Ex1 (w.heap.size + 1) wr (wr.setCell ⟨w.heap.size + 1, qn, none⟩ (.int .i64 (((ins ++ outsL (es.take k) ++ x.outs.take j).count (qn : Int) : Nat) + 1))) := (Ex1.refl _ _).setCell rfl _
                  have ht2 := ht.ex1 E1 (by omega)
                  have v4 := v3.ex1 E1 (by omega)
                  have he2 := he.ex1 E1 (by omega)
                  clear hq ht v3 he
                  generalize hcc : List.count (qn : Int) (ins ++ outsL (es.take k) ++ x.outs.take j) = cc at *
                  clear hcc
                  go_wp2_with fail
                  go_roundw
                  case rel => exact ⟨j + 1, by omega, by go_num, hf2, ht2, v4, he2⟩
                  case measure => simp [intOf]; omega
                · obtain rfl : j = x.outs.length := by omega
                  rw [List.take_length] at hf
                  rw [← List.append_nil (outs ++ insL (es.take k))] at ht
                  have q2 := v3.cell 2 (v := .slice P x.ins.length pc) rfl
                  go_wp2_with fail
                  clear q2
                  go_loopw [74] (fun i wi => ∃ j : Nat, j ≤ x.ins.length ∧ i = .int .i64 j ∧ Own wi (w.heap.size + 1) (cntL n (ins ++ outsL (es.take k) ++ x.outs)) ∧ Own wi (w.heap.size + 1 + 1) (cntL n (outs ++ insL (es.take k) ++ x.ins.take j)) ∧ VB wi b 69 #[.int .i64 x.kd, .int .i64 x.vl, .slice P x.ins.length pc, .slice Q x.outs.length qc] ∧ Ex w wi) (fun i _ => x.ins.length - (intOf i).toNat)
                  case atStart => exact ⟨0, Nat.zero_le _, rfl, hf, ht, v3, he⟩
                  case round =>
                    clear hf ht he v3
                    obtain ⟨j, hj, rfl, hf, ht, v3, he⟩ := hrel
                    by_cases hjl : j < x.ins.length
                    · obtain ⟨g', off', q, rfl, hq, hg', hc'⟩ := (hP.ex he).at_ hjl
                      have hqb := H2.out q (List.mem_append_right _ (mem_insL_of (List.mem_of_getElem? Hx.out) (List.mem_of_getElem? hq)))
                      obtain ⟨qn, rfl⟩ := Int.eq_ofNat_of_zero_le hqb.1
                      have hqn : qn < n := by have := hqb.2; omega
                      have c1 := ht.cell (cntL_at (l := outs ++ insL (es.take k) ++ x.ins.take j) hqn)
                      have f1 := ht.frozen qn
                      have hlen : (outs ++ insL (es.take k) ++ x.ins.take j).count (qn : Int) ≤ 1000 := Nat.le_trans (cnt_le _ _) (by have := insL_pre Hx.out; have := B2.out; simp only [List.length_append, List.length_take] at *; omega)
                      have hf2 := ht.set_ qn (((outs ++ insL (es.take k) ++ x.ins.take j).count (qn : Int) : Nat) + 1)
                      rw [cntL_push, List.append_assoc _ _ [(qn : Int)], show x.ins.take j ++ [(qn : Int)] = x.ins.take (j + 1) by rw [List.take_add_one, hq]; rfl] at hf2
                      have E1 : Ex1 (w.heap.size + 1 + 1) wr (wr.setCell ⟨w.heap.size + 1 + 1, qn, none⟩ (.int .i64 (((outs ++ insL (es.take k) ++ x.ins.take j).count (qn : Int) : Nat) + 1))) := (Ex1.refl _ _).setCell rfl _
                      have ht2 := hf.ex1 E1 (by omega)
                      have v4 := v3.ex1 E1 (by omega)
                      have he2 := he.ex1 E1 (by omega)
                      clear hq hf v3 he
                      generalize hcc : List.count (qn : Int) (outs ++ insL (es.take k) ++ x.ins.take j) = cc at *
                      clear hcc
                      go_wp2_with fail
                      go_roundw
                      case rel => exact ⟨j + 1, by omega, by go_num, ht2, hf2, v4, he2⟩
                      case measure => simp [intOf]; omega
                    · obtain rfl : j = x.ins.length := by omega
                      rw [List.take_length] at ht
                      rw [List.append_assoc, ← outsL_snoc Hx.out] at hf
                      rw [List.append_assoc, ← insL_snoc Hx.out] at ht
                      go_wp2_with fail
                      go_roundw
                      case rel => exact ⟨k + 1, by omega, by go_num, hf, ht, he⟩
                      case measure => simp [intOf]; omega
            · obtain rfl : k = es.length := by omega
              rw [List.take_length] at hf ht
              go_wp2_with fail
              go_ret2
              exact ⟨_, _, rfl, by omega, by omega, hf, ht, he⟩
end Go.Proofs.YtphdcgimibnajaaGreat
namespace Go.Proofs.YtphdcgimibnajaaGreat
set_option maxRecDepth 100000
open Go Go.RowKit
set_option maxHeartbeats 2000000 in
theorem tmLeaf_c (k v : Int) (h : inB 3 14 k = true) (w : World) : Calls Tryz.prog 98 #[.agg #[.int .i64 k, .int .i64 v, .string { data := #[] }]] w fun e w' => e = .returned (.bool (vlB k v)) ∧ Ex w w' := by
  have x0 := (Ex.refl w).alloc (.cells #[.int .i64 k, .int .i64 v, .string { data := #[] }] 84)
  have h1 : inB 1 14 k = true := by simp [inB] at h ⊢; omega
  have hk := fun W => l1In_c k 1 14 W
  rw [h1] at hk
  have hv := fun W => l1In_c v 0 96 W
  obtain ⟨R, hR⟩ : ∃ R, vlB k v = R := ⟨_, rfl⟩
  rw [hR]
  unfold vlB at hR
  by_cases h7 : k = 7 ∨ k = 13
  · rw [if_pos h7] at hR
    rw [hR] at hv
    clear h h1 hR
    rcases h7 with rfl | rfl
    all_goals
      go_enter Tryz.func98, Tryz.ntmps98
      go_wp2_with fail
      refine (hk _).mono ?_
      rintro e _ ⟨rfl, rfl⟩
      go_wp2_with fail
      refine (hv _).mono ?_
      rintro e _ ⟨rfl, rfl⟩
      go_wp2
      go_ret
      exact ⟨rfl, x0⟩
  · rw [if_neg h7] at hR
    have n1 : (k == 1) = false := by simp [inB] at h; simp; omega
    have n7 : (k == 7) = false := by simp; omega
    have n13 : (k == 13) = false := by simp; omega
    have HR := Lib.hid hR
    clear h h1 hR h7
    go_enter Tryz.func98, Tryz.ntmps98
    go_wp2_with fail
    refine (hk _).mono ?_
    rintro e _ ⟨rfl, rfl⟩
    clear hk hv
    go_wp2
    all_goals go_ret
    all_goals exact ⟨ret_bool (by rw [← HR.out]; first | rfl | simp), x0⟩
end Go.Proofs.YtphdcgimibnajaaGreat
namespace Go.Proofs.YtphdcgimibnajaaGreat
set_option maxRecDepth 100000
open Go Go.RowKit
theorem run_eql_wires (a b c d : Int) (W : World) : (binOp .eql 124 (.agg #[.int .i64 a, .int .i64 b]) (.agg #[.int .i64 c, .int .i64 d])).run Tryz.prog W = .ok (.bool (decide (a = c) && decide (b = d))) W := by
  by_cases h1 : a = c <;> by_cases h2 : b = d <;> simp [go_sem, Tryz.underlying124, Tryz.underlying3, h1, h2]
set_option maxHeartbeats 2000000 in
theorem isEdge_c (kd vl : Int) (P : Option Addr) (ni pc : Nat) (Q : Option Addr) (no qc : Nat) (w : World) (hi : ni ≤ 1099511627776) (ho : no ≤ 1099511627776) :
    Calls Tryz.prog 102 #[.agg #[.int .i64 kd, .int .i64 vl, .slice P ni pc, .slice Q no qc]] w fun e w' => e = .returned (.bool (edB kd vl ni no)) ∧ Ex w w' := by
  have x0 := (Ex.refl w).alloc (.cells #[.int .i64 kd, .int .i64 vl, .slice P ni pc, .slice Q no qc] 69)
  have v0 := VB.new w 69 #[.int .i64 kd, .int .i64 vl, .slice P ni pc, .slice Q no qc]
  obtain ⟨R, hR⟩ : ∃ R, edB kd vl ni no = R := ⟨_, rfl⟩
  rw [hR]
  unfold edB at hR
  have hg := fun W => isGenerator_c kd W
  cases h1 : inB 3 14 kd with
  | false =>
    rw [h1] at hR hg
    have HR := Lib.hid hR
    clear hR h1
    go_enter Tryz.func102, Tryz.ntmps102
    go_wp2_with (go_at_call 108; refine (hg _).mono ?_; rintro e w' ⟨rfl, rfl⟩)
    all_goals go_ret
    all_goals exact ⟨ret_bool (by rw [← HR.out]; rfl), x0⟩
  | true =>
    rw [h1, Bool.true_and] at hR
    rw [h1] at hg
    have hv := fun W => isGeneratorValue_c kd vl W
    have hw := fun W => generatorWires_c kd h1 W
    clear h1
    cases h2 : vlB kd vl with
    | false =>
      rw [h2] at hR hv
      have HR := Lib.hid hR
      clear hR h2 hw
      go_enter Tryz.func102, Tryz.ntmps102
      go_wp2_with (first | (go_at_call 108; refine (hg _).mono ?_; rintro e w' ⟨rfl, rfl⟩) | (go_at_call 109; refine (hv _).mono ?_; rintro e w' ⟨rfl, rfl⟩))
      all_goals go_ret
      all_goals exact ⟨ret_bool (by rw [← HR.out]; rfl), x0⟩
    | true =>
      rw [h2, Bool.true_and] at hR
      rw [h2] at hv
      have HR := Lib.hid hR
      clear hR h2
      go_enter Tryz.func102, Tryz.ntmps102
      go_wp2_with (first | (go_at_call 108; refine (hg _).mono ?_; rintro e w' ⟨rfl, rfl⟩) | (go_at_call 109; refine (hv _).mono ?_; rintro e w' ⟨rfl, rfl⟩) | fail)
      have c0 := v0.cell 0 (v := .int .i64 kd) rfl
      have c2 := v0.cell 2 (v := .slice P ni pc) rfl
      have c3 := v0.cell 3 (v := .slice Q no qc) rfl
      generalize (w.alloc (Obj.cells #[Value.int .i64 kd, Value.int .i64 vl, Value.slice P ni pc, Value.slice Q no qc] 69)) = W0 at *
      have HS : ∀ W, Ex W0 W → (Ex W0 W ∧ W.cell? ⟨w.heap.size, 0, none⟩ = some (.int .i64 kd) ∧ W.cell? ⟨w.heap.size, 2, none⟩ = some (.slice P ni pc) ∧ W.cell? ⟨w.heap.size, 3, none⟩ = some (.slice Q no qc)) := fun W h => ⟨h, cell_ex h c0, cell_ex h c2, cell_ex h c3⟩
      have eA := (Ex.refl W0).drew
      have hq := fun W => run_eql_wires (gw kd).1 (gw kd).2 ni no W
      rw [HR.out] at hq
      go_region_held3 (fun W => Ex W0 W ∧ W.cell? ⟨w.heap.size, 0, none⟩ = some (.int .i64 kd) ∧ W.cell? ⟨w.heap.size, 2, none⟩ = some (.slice P ni pc) ∧ W.cell? ⟨w.heap.size, 3, none⟩ = some (.slice Q no qc)) (first
        | (exact HS _ x1) | (exact HS _ (x1.alloc _)) | (exact HS _ eA) | (exact HS _ (Ex.refl W0)) | (exact HS _ ((Ex.refl W0).alloc _)) | (exact HS _ (eA.alloc _))) (first
        | (go_at_call 110
           have hb := (‹Ex W0 _ ∧ _›).1
           refine (hw _).mono ?_
           rintro e w1 ⟨rfl, x1'⟩
           have x1 := hb.trans x1'
           clear hb))
      all_goals
        go_wp2
        go_ret
        exact ⟨rfl, x0.trans x1⟩
set_option maxHeartbeats 2000000 in
theorem hgEdge_c (kd vl : Int) (P : Option Addr) (pc : Nat) (ins : List Int) (Q : Option Addr) (qc : Nat) (outs : List Int) (n : Int) (w : World) (hP : Rd w P ins) (hQ : Rd w Q outs) (h0 : 0 ≤ n) (h1 : n ≤ 100) :
    Calls Tryz.prog 97 #[.agg #[.int .i64 kd, .int .i64 vl, .slice P ins.length pc, .slice Q outs.length qc], .int .i64 n] w fun e w' => e = .returned (.bool (edB kd vl ins.length outs.length && ins.all (inB 0 (n - 1)) && outs.all (inB 0 (n - 1)))) ∧ Ex w w' := by
  have x0 := (Ex.refl w).alloc (.cells #[.int .i64 kd, .int .i64 vl, .slice P ins.length pc, .slice Q outs.length qc] 69)
  obtain ⟨R, hR⟩ : ∃ R, (edB kd vl ins.length outs.length && ins.all (inB 0 (n - 1)) && outs.all (inB 0 (n - 1))) = R := ⟨_, rfl⟩
  rw [hR]
  unfold edB at hR
  have hg := fun W => l1In_c kd 3 14 W
  cases h1 : inB 3 14 kd with
  | false =>
    rw [h1] at hR hg
    have HR := Lib.hid hR
    clear hR h1
    go_enter Tryz.func97, Tryz.ntmps97
    go_wp2_with (go_at_call 95; refine (hg _).mono ?_; rintro e w' ⟨rfl, rfl⟩)
    all_goals go_ret
    all_goals exact ⟨ret_bool (by rw [← HR.out]; rfl), x0⟩
  | true =>
    rw [h1, Bool.true_and] at hR
    rw [h1] at hg
    have hk := fun W => tmKind_c kd h1 W
    have hl := fun W => tmLeaf_c kd vl h1 W
    have hi := fun W (x : Ex w W) => l1All_c P pc ins 0 (n - 1) W (hP.ex x)
    have ho := fun W (x : Ex w W) => l1All_c Q qc outs 0 (n - 1) W (hQ.ex x)
    have hPl := hP.len
    have hQl := hQ.len
    clear h1
    cases h2 : vlB kd vl with
    | false =>
      rw [h2] at hR hl
      have HR := Lib.hid hR
      clear hR h2
      go_enter Tryz.func97, Tryz.ntmps97
      go_wp2_with (first | (go_at_call 95; refine (hg _).mono ?_; rintro e w' ⟨rfl, rfl⟩) | fail)
      refine (hl _).mono ?_
      rintro e w2 ⟨rfl, x2⟩
      go_wp2
      go_ret
      exact ⟨ret_bool (by rw [← HR.out]; rfl), x0.trans x2⟩
    | true =>
      rw [h2, Bool.true_and] at hR
      rw [h2] at hl
      clear h2
      have y0 := VB.new w 69 #[.int .i64 kd, .int .i64 vl, .slice P ins.length pc, .slice Q outs.length qc]
      go_enter Tryz.func97, Tryz.ntmps97
      go_wp2_with (first | (go_at_call 95; refine (hg _).mono ?_; rintro e w' ⟨rfl, rfl⟩) | fail)
      refine (hl _).mono ?_
      rintro e w2 ⟨rfl, x2⟩
      replace x0 := x0.trans x2
      replace y0 := y0.ex x2
      have c0 := y0.cell 0 (v := .int .i64 kd) rfl
      have c2 := y0.cell 2 (v := .slice P ins.length pc) rfl
      have c3 := y0.cell 3 (v := .slice Q outs.length qc) rfl
      clear hl x2
      go_wp2_with fail
      refine (hk _).mono ?_
      rintro e w3 ⟨rfl, x3⟩
      replace x0 := x0.trans x3
      replace y0 := y0.ex x3
      have c2 := y0.cell 2 (v := .slice P ins.length pc) rfl
      have c3 := y0.cell 3 (v := .slice Q outs.length qc) rfl
      clear c0 hk x3
      by_cases h3 : (gw kd).1 = ins.length
      · rw [decide_eq_true h3, Bool.true_and] at hR
        by_cases h4 : (gw kd).2 = outs.length
        · rw [decide_eq_true h4, Bool.true_and] at hR
          cases h5 : ins.all (inB 0 (n - 1)) with
          | false =>
            rw [h5] at hR hi
            have HR := Lib.hid hR
            rw [h3, h4]
            clear hR h3 h4 h5
            go_wp2_with fail
            refine (hi _ x0).mono ?_
            rintro e _ ⟨rfl, rfl⟩
            go_wp2
            go_ret
            exact ⟨ret_bool (by rw [← HR.out]; rfl), x0⟩
          | true =>
            rw [h5, Bool.true_and] at hR
            rw [h5] at hi
            have HR := Lib.hid hR
            rw [h3, h4]
            clear hR h3 h4 h5
            go_wp2_with fail
            refine (hi _ x0).mono ?_
            rintro e _ ⟨rfl, rfl⟩
            go_wp2_with fail
            refine (ho _ x0).mono ?_
            rintro e _ ⟨rfl, rfl⟩
            go_wp2
            go_ret
            exact ⟨ret_bool (by rw [← HR.out]), x0⟩
        · rw [decide_eq_false h4] at hR
          have HR := Lib.hid hR
          rw [h3]
          clear hR h3
          have h4' : ((outs.length : Int) == (gw kd).2) = false := by simp; omega
          generalize (gw kd).2 = q2 at *
          go_wp2
          go_ret
          exact ⟨ret_bool (by rw [← HR.out]; rfl), x0⟩
      · rw [decide_eq_false h3] at hR
        have HR := Lib.hid hR
        clear hR
        have h3' : ((ins.length : Int) == (gw kd).1) = false := by simp; omega
        generalize (gw kd).1 = q1 at *
        generalize (gw kd).2 = q2 at *
        go_wp2
        go_ret
        exact ⟨ret_bool (by rw [← HR.out]; rfl), x0⟩
end Go.Proofs.YtphdcgimibnajaaGreat
