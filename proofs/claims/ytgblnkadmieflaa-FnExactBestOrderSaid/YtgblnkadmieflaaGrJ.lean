/- Contracts: the order of the edges (the reference). -/
import Derived.Test.YtgblnkadmieflaaGrG
namespace Go.Proofs.Ytgblnkadmieflaa
set_option maxRecDepth 100000
open Go Go.RowKit
def frB (es : List Ed) (op : List Bool) (f : Int) (m : Nat) : Bool := (upL m).all fun e => !(SL op e) || !meetB (edAt es e).outs (edAt es f).ins
theorem frB_succ (es : List Ed) (op : List Bool) (f : Int) (m : Nat) : frB es op f (m + 1) = (frB es op f m && (!(SL op (m : Int)) || !meetB (edAt es (m : Int)).outs (edAt es f).ins)) := by
  unfold frB
  rw [upL_succ, List.all_append]
  simp
theorem frB_fin (es : List Ed) (op : List Bool) (f : Int) : frB es op f es.length = !((ndF es f).any (SL op)) := by
  unfold frB ndF
  rw [List.any_filter, List.all_eq_not_any_not]
  congr 2
  funext e
  rw [meetB_comm]
  cases SL op e <;> cases meetB (edAt es f).ins (edAt es e).outs <;> rfl
set_option maxHeartbeats 4000000 in
theorem hgOrder_c (N : Int) (E : Option Addr) (ec : Nat) (es : List Ed) (I O : Value) (w : World) (hE : RdS EE w E es) (hn : es.length ≤ 60) (hI : ∃ A n c, I = .slice A n c) (hO : ∃ A n c, O = .slice A n c) :
    Calls Try.prog 65 #[.agg #[.int .i64 N, .slice E es.length ec, I, O]] w fun e w' => LIo w (orderL es) e w' := by
  obtain ⟨I, il, ic, rfl⟩ := hI
  obtain ⟨O, ol, oc, rfl⟩ := hO
  have hmk := fun W => run_make_bools es.length (by omega) W
  have y0 := (Ex.refl w).alloc (.cells #[.int .i64 N, .slice E es.length ec, .slice I il ic, .slice O ol oc] 31)
  have d0 := VB.new w 31 #[.int .i64 N, .slice E es.length ec, .slice I il ic, .slice O ol oc]
  have S0 := Lib.hid (show (w.alloc (.cells #[.int .i64 N, .slice E es.length ec, .slice I il ic, .slice O ol oc] 31)).heap.size = w.heap.size + 1 by simp)
  go_enter Try.func65, Try.ntmps65
  go_wp2_with fail
  generalize w.alloc (.cells #[.int .i64 N, .slice E es.length ec, .slice I il ic, .slice O ol oc] 31) = W0 at *
  have y1 := (Ex.refl W0).alloc (.cells (bObj (List.replicate es.length false)) 4)
  have v1 := VB.new W0 4 (bObj (List.replicate es.length false))
  rw [S0.out] at v1
  have S1 : (W0.alloc (.cells (bObj (List.replicate es.length false)) 4)).heap.size = w.heap.size + 1 + 1 := by simp; exact S0.out
  generalize W0.alloc (.cells (bObj (List.replicate es.length false)) 4) = W1 at *
  have d0 := d0.ex y1
  have xx := y0.trans y1
  clear y0 y1 S0
  have H0 := Lib.hid (show ([] : List Int) ++ schM (ndF es) es.length es.length (List.replicate es.length true) = orderL es from rfl)
  have HC := Lib.hid (show (List.replicate es.length true).count true ≤ es.length by simp)
  have em : bObj (List.replicate es.length false) = bObj ((List.replicate es.length true).map fun b => !b) := by simp
  rw [em] at v1
  clear em
  go_loopg [3] es.length (fun f o wi => ∃ (op : List Bool) (out : List Int), op.length = es.length ∧ Hid (op.count true ≤ f) ∧ f ≤ es.length ∧ out.length + f = es.length ∧ AL wi (w.heap.size + 1 + 1) o out ∧ Hid (out ++ schM (ndF es) es.length f op = orderL es) ∧
    VB wi (w.heap.size + 1) 4 (bObj (op.map (fun b => !b))) ∧ VB wi w.heap.size 31 #[.int .i64 N, .slice E es.length ec, .slice I il ic, .slice O ol oc] ∧ Ex w wi)
  case atStart => exact ⟨List.replicate es.length true, [], by simp, HC, Nat.le_refl _, by simp, AL.nil _ _, H0, v1, d0, xx⟩
  case round =>
    obtain ⟨op, out, hlen, Hcnt, hf, hof, hal, Htot, hd1, hd0, he⟩ := hrel
    have q1 := hd0.cell 1 (v := .slice E es.length ec) rfl
    go_wp2_with fail
    clear q1
    go_loopw [5, 16] (fun a i wj => ∃ k : Nat, k ≤ es.length ∧ i = .int .i64 k ∧ a = .int .i64 (idxP (isM (ndF es) (SL op)) (upL k)) ∧ AL wj (w.heap.size + 1 + 1) u3 out ∧ VB wj (w.heap.size + 1) 4 (bObj (op.map (fun b => !b))) ∧ VB wj w.heap.size 31 #[.int .i64 N, .slice E es.length ec, .slice I il ic, .slice O ol oc] ∧ Ex w wj) (fun _ i _ => es.length - (intOf i).toNat)
    case atStart => exact ⟨0, Nat.zero_le _, rfl, rfl, hal, hd1, hd0, he⟩
    case round =>
      clear hal hd1 hd0 he
      obtain ⟨k, hk, rfl, rfl, hal, hd1, hd0, he⟩ := hrel
      by_cases hlt : k < es.length
      · obtain ⟨g, off, x, P, pc, Q, qc, rfl, hx, c0, c1, c2, c3, hP, hQ⟩ := hE.edge hlt
        obtain ⟨bk, hbk⟩ : ∃ bk, op[k]? = some bk := ⟨_, List.getElem?_eq_getElem (by omega)⟩
        have qd := hd1.bcell (i := k) (b := !bk) (by rw [List.getElem?_map, hbk]; rfl)
        have hsn := idxP_snoc (isM (ndF es) (SL op)) k
        have hSk : SL op (k : Int) = bk := by rw [SL_nat, List.getD_eq_getElem?_getD, hbk]; rfl
        obtain ⟨at_, hat⟩ : ∃ a, idxP (isM (ndF es) (SL op)) (upL k) = a := ⟨_, rfl⟩
        rw [hat] at hsn ⊢
        have Hat := Lib.hid hat
        have Hsn := Lib.hid hsn
        have HSk := Lib.hid hSk
        have Hx := Lib.hid hx
        clear hat hsn hSk hx hbk
        cases bk with
        | false =>
          have Hres := Lib.hid (show at_ = idxP (isM (ndF es) (SL op)) (upL (k + 1)) by
            rw [Hsn.out, show isM (ndF es) (SL op) (k : Int) = false by rw [isM, HSk.out]; rfl]
            rcases idxP_cases (isM (ndF es) (SL op)) k with ⟨h1, _⟩ | ⟨i, _, h1, _⟩
            · rw [Hat.out] at h1; subst h1; rfl
            · rw [Hat.out] at h1; rw [if_pos (by omega)])
          go_wp2_with fail
          all_goals go_roundw
          all_goals first
            | exact ⟨k + 1, by omega, by go_num, by rw [← Hres.out], hal, hd1, hd0, he⟩
            | (simp [intOf]; omega)
        | true =>
          by_cases hp : 0 ≤ at_
          · have Hres := Lib.hid (show at_ = idxP (isM (ndF es) (SL op)) (upL (k + 1)) by rw [Hsn.out, if_pos hp])
            go_wp2_with fail
            all_goals go_roundw
            all_goals first
              | exact ⟨k + 1, by omega, by go_num, by rw [← Hres.out], hal, hd1, hd0, he⟩
              | (simp [intOf]; omega)
          · have q1 := hd0.cell 1 (v := .slice (some ⟨g, off, none⟩) es.length ec) rfl
            go_wp2_with fail
            clear q1 qd
            go_loopw [7, 30] (fun r j wm => ∃ m : Nat, m ≤ es.length ∧ j = .int .i64 m ∧ r = .bool (frB es op (k : Int) m) ∧ AL wm (w.heap.size + 1 + 1) u3 out ∧ VB wm (w.heap.size + 1) 4 (bObj (op.map (fun b => !b))) ∧ VB wm w.heap.size 31 #[.int .i64 N, .slice (some ⟨g, off, none⟩) es.length ec, .slice I il ic, .slice O ol oc] ∧ Ex w wm) (fun _ j _ => es.length - (intOf j).toNat)
            case atStart => exact ⟨0, Nat.zero_le _, rfl, rfl, hal, hd1, hd0, he⟩
            case round =>
              clear hal hd1 hd0 he
              obtain ⟨m, hm, rfl, rfl, hal, hd1, hd0, he⟩ := hrel
              by_cases hml : m < es.length
              · obtain ⟨g', off', y, P', pc', Q', qc', hAe, hy, e0, e1, e2, e3, hP', hQ'⟩ := hE.edge hml
                injection hAe with hAe
                injection hAe with a1 a2 _
                subst a1 a2
                obtain ⟨bm, hbm⟩ : ∃ bm, op[m]? = some bm := ⟨_, List.getElem?_eq_getElem (by omega)⟩
                have qd := hd1.bcell (i := m) (b := !bm) (by rw [List.getElem?_map, hbm]; rfl)
                have q1 := hd0.cell 1 (v := .slice (some ⟨g, off, none⟩) es.length ec) rfl
                have hfs := frB_succ es op (k : Int) m
                rw [edAt_nat hy, edAt_nat Hx.out, show SL op (m : Int) = bm by rw [SL_nat, List.getD_eq_getElem?_getD, hbm]; rfl] at hfs
                obtain ⟨rr, hrr⟩ : ∃ r, frB es op (k : Int) m = r := ⟨_, rfl⟩
                rw [hrr] at hfs ⊢
                clear hrr hy hbm
                cases rr with
                | false =>
                  have HF := Lib.hid (show frB es op (k : Int) (m + 1) = false by rw [hfs]; rfl)
                  clear hfs
                  go_wp2_with fail
                  go_quiet (fail)
                  go_wp2_with fail
                  go_roundw
                  case rel => exact ⟨m + 1, by omega, by go_num, by rw [HF.out], hal.drewN _, hd1, hd0, he.drewN _⟩
                  case measure => simp [intOf]; omega
                | true =>
                  cases bm with
                  | false =>
                    have HF := Lib.hid (show frB es op (k : Int) (m + 1) = true by rw [hfs]; rfl)
                    clear hfs
                    go_wp2_with fail
                    go_quiet (fail)
                    go_wp2_with fail
                    go_roundw
                    case rel => exact ⟨m + 1, by omega, by go_num, by rw [HF.out], hal.drewN _, hd1, hd0, he.drewN _⟩
                    case measure => simp [intOf]; omega
                  | true =>
                    have HF := Lib.hid (show frB es op (k : Int) (m + 1) = !meetB y.outs x.ins by rw [hfs]; simp)
                    have k2 := cell_ex he c2
                    have k3 := cell_ex he e3
                    have hmt := fun W (hW : Ex wr W) => hgMeets_c Q' qc' y.outs P pc x.ins W (hQ'.ex (he.trans hW)) (hP.ex (he.trans hW))
                    clear hfs e0 e1 e2 e3 c0 c1 c2 c3
                    have HS : ∀ W, Ex wr W → (Ex wr W ∧ W.cell? ⟨w.heap.size, 1, none⟩ = some (.slice (some ⟨g, off, none⟩) es.length ec) ∧ W.cell? ⟨g, off + k * 4 + 2, none⟩ = some (.slice P x.ins.length pc) ∧ W.cell? ⟨g, off + m * 4 + 3, none⟩ = some (.slice Q' y.outs.length qc') ∧ W.cell? ⟨w.heap.size + 1, m, none⟩ = some (.bool false)) := fun W h => ⟨h, cell_ex h q1, cell_ex h k2, cell_ex h k3, cell_ex h qd⟩
                    have eA := (Ex.refl wr).drew
                    go_wp2_with fail
                    go_region_held3 (fun W => Ex wr W ∧ W.cell? ⟨w.heap.size, 1, none⟩ = some (.slice (some ⟨g, off, none⟩) es.length ec) ∧ W.cell? ⟨g, off + k * 4 + 2, none⟩ = some (.slice P x.ins.length pc) ∧ W.cell? ⟨g, off + m * 4 + 3, none⟩ = some (.slice Q' y.outs.length qc') ∧ W.cell? ⟨w.heap.size + 1, m, none⟩ = some (.bool false)) (first
                      | (exact HS _ x1) | (exact HS _ eA) | (exact HS _ (Ex.refl wr))) (first
                      | (go_at_call 57
                         have hb := (‹Ex wr _ ∧ _›).1
                         refine (hmt _ hb).mono ?_
                         rintro e w1 ⟨rfl, rfl⟩
                         have x1 := hb
                         clear hb))
                    all_goals
                      go_wp2_with fail
                      go_roundw
                      case rel => exact ⟨m + 1, by omega, by go_num, by rw [HF.out], hal.ex x1, hd1.ex x1, hd0.ex x1, he.trans x1⟩
                      case measure => simp [intOf]; omega
              · obtain rfl : m = es.length := by omega
                rw [frB_fin]
                have Hm1 := Lib.hid (show at_ = -1 by
                  rcases idxP_cases (isM (ndF es) (SL op)) k with ⟨h1, _⟩ | ⟨i, _, h1, _⟩
                  · rw [Hat.out] at h1; exact h1
                  · rw [Hat.out] at h1; omega)
                cases hN : (ndF es (k : Int)).any (SL op) with
                | true =>
                  have Hfin := Lib.hid (show idxP (isM (ndF es) (SL op)) (upL (k + 1)) = -1 by
                    rw [Hsn.out, if_neg (by omega), show isM (ndF es) (SL op) (k : Int) = false by rw [isM, HSk.out, hN]; rfl]; rfl)
                  clear hN
                  go_wp2_with fail
                  go_roundw
                  case rel => exact ⟨k + 1, by omega, by go_num, by rw [Hfin.out, Hm1.out], hal, hd1, hd0, he⟩
                  case measure => simp [intOf]; omega
                | false =>
                  have Hfin := Lib.hid (show idxP (isM (ndF es) (SL op)) (upL (k + 1)) = (k : Int) by
                    rw [Hsn.out, if_neg (by omega), show isM (ndF es) (SL op) (k : Int) = true by rw [isM, HSk.out, hN]; rfl]; rfl)
                  clear hN
                  go_wp2_with fail
                  go_roundw
                  case rel => exact ⟨k + 1, by omega, by go_num, by rw [Hfin.out], hal, hd1, hd0, he⟩
                  case measure => simp [intOf]; omega
      · obtain rfl : k = es.length := by omega
        rw [show idxP (isM (ndF es) (SL op)) (upL es.length) = nxM (ndF es) es.length op from rfl]
        rcases nxM_cases (ndF es) es.length op with hneg | ⟨i, hi, hni, _, hoi⟩
        · have HR := Lib.hid (show orderL es = out by rw [← Htot.out, schM_end _ _ _ hneg, List.append_nil])
          obtain ⟨O2, oc2, rfl, fo⟩ := hal.form (by omega)
          generalize nxM (ndF es) es.length op = q at *
          go_wp2_with fail
          go_ret
          rw [HR.out]
          exact ⟨_, rfl, ⟨O2, oc2, rfl, (fo.more (by omega)).fi⟩, he⟩
        · have Hni := Lib.hid hni
          have hgk : ∃ f, gk = f + 1 := ⟨gk - 1, by have := Hcnt.out; have := List.count_pos_iff.2 (List.mem_of_getElem? hoi); omega⟩
          obtain ⟨f, rfl⟩ := hgk
          have Hst := Lib.hid (schM_next (ndF es) es.length f hni)
          have Hcs := Lib.hid (count_set hoi)
          rw [hni]
          have q2 := hd1.bcell (i := i) (b := false) (by rw [List.getElem?_map, hoi]; rfl)
          have qf := hd1.frozen i
          have hd1s := hd1.bset i true
          have hE1 : Ex1 (w.heap.size + 1) wr (wr.setCell ⟨w.heap.size + 1, i, none⟩ (.bool true)) := (Ex1.refl _ _).setCell rfl _
          have em : (op.map (fun b => !b)).set i true = (op.set i false).map (fun b => !b) := by rw [List.map_set]; rfl
          rw [em] at hd1s
          have hal3 := hal.e1 hE1 (by omega)
          have hd03 := hd0.ex1 hE1 (by omega)
          have he3 := he.ex1 hE1 (by omega)
          have hz3 := hE1.size
          have hz4 := he.size
          have hz5 := hd1.lt
          obtain ⟨v', w4, hrun2, hal4, hI⟩ := al_push_i _ (w.heap.size + 1 + 1) u3 out (i : Int) hal3 (by omega) (by omega)
          rw [show (wr.setCell ⟨w.heap.size + 1, i, none⟩ (.bool true)).heap.size = wr.heap.size by simp [World.setCell]] at hrun2
          have hd14 := hd1s.iv hI (by omega)
          have hd04 := hd03.iv hI (by omega)
          have he4 := he3.iv hI (by omega)
          have HT := Lib.hid (show (out ++ [(i : Int)]) ++ schM (ndF es) es.length f (op.set i false) = orderL es by
            have e := Htot.out
            rw [Hst.out] at e
            rw [← e, List.append_assoc]; rfl)
          have HC2 := Lib.hid (show (op.set i false).count true ≤ f by have := Hcs.out; have := Hcnt.out; omega)
          clear hni em hal hd1 hd0 he
          go_wp2_with (at_builtin; refine wpList_append_run rfl _ _ _ rfl rfl rfl hrun2 ?_)
          go_roundg f
          case measure => omega
          case rel => exact ⟨op.set i false, out ++ [(i : Int)], by rw [List.length_set]; exact hlen, HC2, by omega, by rw [List.length_append, List.length_singleton]; omega, hal4, HT, hd14, hd04, he4⟩
end Go.Proofs.Ytgblnkadmieflaa
