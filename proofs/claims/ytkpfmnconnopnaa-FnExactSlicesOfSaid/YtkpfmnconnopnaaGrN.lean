/- Contracts: the levels of the edges (the reference); EdgeLevels on both sides. -/
import Derived.Test.YtkpfmnconnopnaaGrM
namespace Go.Proofs.Ytkpfmnconnopnaa
set_option maxRecDepth 100000
open Go Go.RowKit
def lvT (es : List Ed) (e : Int) (out : List Int) (f : Int) : List Int := if meetB (edAt es f).outs (edAt es e).ins then lvS e out f else out
theorem lvT_all (es : List Ed) (e : Int) (out : List Int) : (upL es.length).foldl (lvT es e) out = lvR es out e := by
  unfold lvR ndF
  rw [List.foldl_filter]
  congr 1
  funext o f
  unfold lvT
  rw [meetB_comm]
theorem lvT_len (es : List Ed) (e : Int) (out : List Int) (f : Int) : (lvT es e out f).length = out.length := by
  unfold lvT
  split
  · exact lvS_len e out f
  · rfl
theorem lvTs_len (es : List Ed) (e : Int) : ∀ (l : List Int) (out : List Int), (l.foldl (lvT es e) out).length = out.length
  | [], out => rfl
  | f :: l, out => by rw [List.foldl_cons, lvTs_len es e l, lvT_len]
theorem Bd.foldT (es : List Ed) {e : Int} : ∀ (l : List Int) {out : List Int} {c : Int}, Bd out c → Bd (l.foldl (lvT es e) out) (c + l.length)
  | [], out, c, h => by simpa using h
  | f :: l, out, c, h => by
    rw [List.foldl_cons, List.length_cons]
    have h1 : Bd (lvT es e out f) (c + 1) := by
      unfold lvT
      split
      · exact h.step e f
      · exact h.mono (by omega)
    exact (Bd.foldT es l h1).mono (by push_cast; omega)
theorem upL_take {n k : Nat} (h : k ≤ n) : (upL n).take k = upL k := by
  unfold upL
  rw [← List.map_take, List.take_range, Nat.min_eq_left h]
theorem l1Most_g (a b : Int) (w : World) : Calls Try.prog 63 #[.int .i64 a, .int .i64 b] w fun e w' => e = .returned (.int .i64 (max a b)) ∧ w = w' := by
  by_cases h : b < a
  · go_enter Try.func63, Try.ntmps63
    go_wp2
    go_ret
    exact ⟨by rw [Int.max_eq_left (by omega)]; rfl, rfl⟩
  · go_enter Try.func63, Try.ntmps63
    go_wp2
    go_ret
    exact ⟨by rw [Int.max_eq_right (by omega)]; rfl, rfl⟩
set_option maxHeartbeats 2000000 in
theorem rbNeeds_c (N : Int) (E : Option Addr) (ec : Nat) (es : List Ed) (I O : Value) (e f : Nat) (w : World) (hE : RdS EE w E es) (he : e < es.length) (hf : f < es.length) (hn : es.length ≤ 60) (hI : ∃ A n c, I = .slice A n c) (hO : ∃ A n c, O = .slice A n c) :
    Calls Try.prog 60 #[.agg #[.int .i64 N, .slice E es.length ec, I, O], .int .i64 e, .int .i64 f] w fun e' w' => e' = .returned (.bool (meetB (edAt es f).outs (edAt es e).ins)) ∧ Ex w w' := by
  obtain ⟨I, il, ic, rfl⟩ := hI
  obtain ⟨O, ol, oc, rfl⟩ := hO
  obtain ⟨g, off, x, P, pc, Q, qc, rfl, hx, c0, c1, c2, c3, hP, hQ⟩ := hE.edge he
  obtain ⟨g', off', y, P', pc', Q', qc', hAe, hy, e0, e1, e2, e3, hP', hQ'⟩ := hE.edge hf
  injection hAe with hAe
  injection hAe with a1 a2 _
  subst a1 a2
  rw [edAt_nat hx, edAt_nat hy]
  have y0 := (Ex.refl w).alloc (.cells #[.int .i64 N, .slice (some ⟨g, off, none⟩) es.length ec, .slice I il ic, .slice O ol oc] 30)
  have d0 := VB.new w 30 #[.int .i64 N, .slice (some ⟨g, off, none⟩) es.length ec, .slice I il ic, .slice O ol oc]
  clear hx hy
  go_enter Try.func60, Try.ntmps60
  go_wp2_with fail
  generalize w.alloc (.cells #[.int .i64 N, .slice (some ⟨g, off, none⟩) es.length ec, .slice I il ic, .slice O ol oc] 30) = W0 at *
  have q1 := d0.cell 1 (v := .slice (some ⟨g, off, none⟩) es.length ec) rfl
  have k2 := cell_ex y0 c2
  have k3 := cell_ex y0 e3
  have HS : ∀ W, Ex W0 W → (Ex W0 W ∧ W.cell? ⟨w.heap.size, 1, none⟩ = some (.slice (some ⟨g, off, none⟩) es.length ec) ∧ W.cell? ⟨g, off + e * 4 + 2, none⟩ = some (.slice P x.ins.length pc) ∧ W.cell? ⟨g, off + f * 4 + 3, none⟩ = some (.slice Q' y.outs.length qc')) := fun W h => ⟨h, cell_ex h q1, cell_ex h k2, cell_ex h k3⟩
  have eA := (Ex.refl W0).drew
  have hm := fun W (hW : Ex W0 W) => hgMeets_c Q' qc' y.outs P pc x.ins W (hQ'.ex (y0.trans hW)) (hP.ex (y0.trans hW))
  go_region_held3 (fun W => Ex W0 W ∧ W.cell? ⟨w.heap.size, 1, none⟩ = some (.slice (some ⟨g, off, none⟩) es.length ec) ∧ W.cell? ⟨g, off + e * 4 + 2, none⟩ = some (.slice P x.ins.length pc) ∧ W.cell? ⟨g, off + f * 4 + 3, none⟩ = some (.slice Q' y.outs.length qc')) (first
    | (exact HS _ x1) | (exact HS _ eA) | (exact HS _ (Ex.refl W0))) (first
    | (go_at_call 52
       have hb := (‹Ex W0 _ ∧ _›).1
       refine (hm _ hb).mono ?_
       rintro e _ ⟨rfl, rfl⟩
       have x1 := hb
       clear hb))
  all_goals
    go_wp2
    go_ret
    exact ⟨rfl, y0.trans x1⟩
set_option maxHeartbeats 4000000 in
theorem rbLevels_c (N : Int) (E : Option Addr) (ec : Nat) (es : List Ed) (I O : Value) (w : World) (hE : RdS EE w E es) (hn : es.length ≤ 60) (hI : ∃ A n c, I = .slice A n c) (hO : ∃ A n c, O = .slice A n c) :
    Calls Try.prog 42 #[.agg #[.int .i64 N, .slice E es.length ec, I, O]] w fun e w' => LIo w (levL es) e w' := by
  obtain ⟨I, il, ic, rfl⟩ := hI
  obtain ⟨O, ol, oc, rfl⟩ := hO
  have hmk := fun W => run_make_ints es.length (by omega) W
  have y0 := (Ex.refl w).alloc (.cells #[.int .i64 N, .slice E es.length ec, .slice I il ic, .slice O ol oc] 30)
  have d0 := VB.new w 30 #[.int .i64 N, .slice E es.length ec, .slice I il ic, .slice O ol oc]
  have S0 := Lib.hid (show (w.alloc (.cells #[.int .i64 N, .slice E es.length ec, .slice I il ic, .slice O ol oc] 30)).heap.size = w.heap.size + 1 by simp)
  go_enter Try.func42, Try.ntmps42
  go_wp2_with fail
  generalize w.alloc (.cells #[.int .i64 N, .slice E es.length ec, .slice I il ic, .slice O ol oc] 30) = W0 at *
  have y1 := (Ex.refl W0).alloc (iObj (List.replicate es.length 0))
  have o1 := Own.new W0 (List.replicate es.length 0)
  rw [S0.out] at o1
  have S1 : (W0.alloc (iObj (List.replicate es.length 0))).heap.size = w.heap.size + 1 + 1 := by simp; exact S0.out
  generalize W0.alloc (iObj (List.replicate es.length 0)) = W1 at *
  have d1 := d0.ex y1
  have xx := y0.trans y1
  clear y0 y1 S0 d0
  refine (hgOrder_c N E ec es (.slice I il ic) (.slice O ol oc) W1 (hE.ex xx) hn ⟨_, _, _, rfl⟩ ⟨_, _, _, rfl⟩).mono ?_
  rintro e w3 ⟨_, rfl, ⟨V, vc, rfl, fi⟩, x3⟩
  have o3 := o1.ex x3
  have d3 := d1.ex x3
  have y3 := xx.trans x3
  clear o1 d1 xx
  go_wp2_with fail
  have hoL := orderL_len es
  have hVl := fi.rd.len
  have hb0 := Bd.rep es.length
  have hw3 := x3.size
  clear x3
  go_loopw [14] (fun i wr => ∃ k : Nat, k ≤ (orderL es).length ∧ i = .int .i64 k ∧ Own wr (w.heap.size + 1) (((orderL es).take k).foldl (lvR es) (List.replicate es.length 0)) ∧ VB wr w.heap.size 30 #[.int .i64 N, .slice E es.length ec, .slice I il ic, .slice O ol oc] ∧ OI wr W1.heap.size w3.heap.size (.slice V (orderL es).length vc) (orderL es) ∧ Ex w wr) (fun i _ => (orderL es).length - (intOf i).toNat)
  case atStart => exact ⟨0, Nat.zero_le _, rfl, o3, d3, ⟨V, vc, rfl, fi⟩, y3⟩
  case round =>
    clear o3 d3 fi y3
    obtain ⟨k, hk, rfl, ho, hd, hOI, he⟩ := hrel
    by_cases hlt : k < (orderL es).length
    · obtain ⟨V', vc', hV, hfi⟩ := hOI
      injection hV with e1 _ e3
      subst e1 e3
      obtain ⟨g', off, x, rfl, hx, hg', hc'⟩ := hfi.rd.at_ hlt
      have hOI : OI wr W1.heap.size w3.heap.size (.slice (some ⟨g', off, none⟩) (orderL es).length vc) (orderL es) := ⟨_, _, rfl, hfi⟩
      have hxm := orderL_mem (List.mem_of_getElem? hx)
      obtain ⟨xn, rfl⟩ := Int.eq_ofNat_of_zero_le hxm.1
      have hxn : xn < es.length := by omega
      have HF := Lib.hid (fold_take_succ (lvR es) (List.replicate es.length 0) hx)
      obtain ⟨B0, hB0⟩ : ∃ B, ((orderL es).take k).foldl (lvR es) (List.replicate es.length 0) = B := ⟨_, rfl⟩
      have hB0l : B0.length = es.length := by rw [← hB0, lvO_len, List.length_replicate]
      have hbd : Bd B0 3600 := by
        rw [← hB0]
        refine (Bd.folds es ((orderL es).take k) hb0).mono ?_
        have h1 : ((orderL es).take k).length ≤ 60 := by rw [List.length_take]; omega
        have : (es.length : Int) * (((orderL es).take k).length : Int) ≤ 60 * 60 := Int.mul_le_mul (by omega) (by omega) (by omega) (by omega)
        omega
      rw [hB0] at ho HF
      clear hx hxm hB0 hfi
      have q1 := hd.cell 1 (v := .slice E es.length ec) rfl
      go_wp2_with fail
      clear q1
      go_loopw [21] (fun i wi => ∃ q : Nat, q ≤ es.length ∧ i = .int .i64 q ∧ Own wi (w.heap.size + 1) ((upL q).foldl (lvT es (xn : Int)) B0) ∧ VB wi w.heap.size 30 #[.int .i64 N, .slice E es.length ec, .slice I il ic, .slice O ol oc] ∧ OI wi W1.heap.size w3.heap.size (.slice (some ⟨g', off, none⟩) (orderL es).length vc) (orderL es) ∧ Ex w wi) (fun i _ => es.length - (intOf i).toNat)
      case atStart => exact ⟨0, Nat.zero_le _, rfl, ho, hd, hOI, he⟩
      case round =>
        clear ho hd hOI he
        obtain ⟨q, hq, rfl, ho, hd, hOI, he⟩ := hrel
        by_cases hql : q < es.length
        · have HT := Lib.hid (show (upL (q + 1)).foldl (lvT es (xn : Int)) B0 = lvT es (xn : Int) ((upL q).foldl (lvT es (xn : Int)) B0) (q : Int) by rw [upL_succ, List.foldl_append]; rfl)
          have hbq := Bd.foldT es (e := (xn : Int)) (upL q) hbd
          have hlq := lvTs_len es (xn : Int) (upL q) B0
          rw [hB0l] at hlq
          rw [upL_len] at hbq
          have q0 := hd.cell 0 (v := .int .i64 N) rfl
          have q1 := hd.cell 1 (v := .slice E es.length ec) rfl
          have q2 := hd.cell 2 (v := .slice I il ic) rfl
          have q3 := hd.cell 3 (v := .slice O ol oc) rfl
          have hnd := rbNeeds_c N E ec es (.slice I il ic) (.slice O ol oc) xn q wr (hE.ex he) hxn hql hn ⟨_, _, _, rfl⟩ ⟨_, _, _, rfl⟩
          generalize (upL q).foldl (lvT es (xn : Int)) B0 = C at *
          go_wp2_with fail
          refine hnd.mono ?_
          rintro e w5 ⟨rfl, x5⟩
          have ho5 := ho.ex x5
          have hd5 := hd.ex x5
          have hOI5 := hOI.ex x5
          have he5 := he.trans x5
          clear q0 q1 q2 q3 hnd ho hd hOI he
          unfold lvT at HT
          cases hm : meetB (edAt es (q : Int)).outs (edAt es (xn : Int)).ins with
          | false =>
            rw [hm] at HT
            have HT2 := Lib.hid (HT.out.trans (if_neg (by decide)))
            clear hm HT
            go_wp2_with fail
            go_roundw
            case rel => exact ⟨q + 1, by omega, by go_num, by unfold lvT; rw [HT2.out]; exact ho5, hd5, hOI5, he5⟩
            case measure => simp [intOf]; omega
          | true =>
            rw [hm] at HT
            have b1 := hbq xn
            have b2 := hbq q
            have k1 := ho5.cell (getD_some (l := C) (i := xn) (by omega))
            have k2 := ho5.cell (getD_some (l := C) (i := q) (by omega))
            have kf := ho5.frozen xn
            have hst := ho5.set_ xn (max (C.getD xn 0) (C.getD q 0 + 1))
            have HT2 := Lib.hid ((HT.out.trans (if_pos rfl)).trans (show lvS (xn : Int) C (q : Int) = C.set xn (max (C.getD xn 0) (C.getD q 0 + 1)) from rfl))
            rw [← HT2.out] at hst
            have hE1 := (Ex1.refl (w.heap.size + 1) w5).setCell (p := ⟨w.heap.size + 1, xn, none⟩) rfl (.int .i64 (max (C.getD xn 0) (C.getD q 0 + 1)))
            have hd6 := hd5.ex1 hE1 (by omega)
            have hOI6 := hOI5.e1 hE1 (by omega)
            have he6 := he5.ex1 hE1 (by omega)
            have E8 := (Ex.refl (w5.setCell ⟨w.heap.size + 1, xn, none⟩ (.int .i64 (max (C.getD xn 0) (C.getD q 0 + 1))))).drew
            have E9 := Ex.refl (w5.setCell ⟨w.heap.size + 1, xn, none⟩ (.int .i64 (max (C.getD xn 0) (C.getD q 0 + 1))))
            clear HT HT2 hbq hlq hE1 ho5 hd5 hOI5 he5 hm
            generalize C.getD xn 0 = A at *
            generalize C.getD q 0 = B at *
            have a1 : 0 ≤ A := b1.1
            have a2 : A ≤ 4000 := by omega
            have a3 : 0 ≤ B := b2.1
            have a4 : B ≤ 4000 := by omega
            have a5 : IntKind.i64.wrap (B + 1) = B + 1 := by rw [IntKind.wrap_i64]; omega
            clear b1 b2
            go_wp2_with fail
            have hmm := fun W => l1Most_g A (B + 1) W
            go_region_with (first
              | (try rw [a5]
                 go_at_call 63
                 refine (hmm _).mono ?_
                 rintro e _ ⟨rfl, rfl⟩))
            all_goals
              go_wp2_with fail
              go_roundw
              case rel => first
                | exact ⟨q + 1, by omega, by go_num, by unfold lvT; exact hst.ex E8, hd6.ex E8, hOI6.ex E8, he6.trans E8⟩
                | exact ⟨q + 1, by omega, by go_num, by unfold lvT; exact hst.ex E9, hd6.ex E9, hOI6.ex E9, he6.trans E9⟩
              case measure => simp [intOf]; omega
        · obtain rfl : q = es.length := by omega
          rw [lvT_all] at ho
          go_wp2_with fail
          go_roundw
          case rel => exact ⟨k + 1, by omega, by go_num, by rw [HF.out]; exact ho, hd, hOI, he⟩
          case measure => simp [intOf]; omega
    · obtain rfl : k = (orderL es).length := by omega
      rw [List.take_length] at ho
      have HL := Lib.hid (levL_len es)
      go_wp2
      go_ret
      have hfr := (ho.fr (B := w.heap.size) (c := es.length) (by show (levL es).length ≤ _; rw [HL.out]; omega) (by omega) (by show (levL es).length ≤ _; rw [HL.out]; omega)).fi
      refine ⟨_, rfl, ⟨some ⟨w.heap.size + 1, 0, none⟩, es.length, ?_, hfr⟩, he⟩
      rw [HL.out]
      rfl
end Go.Proofs.Ytkpfmnconnopnaa
