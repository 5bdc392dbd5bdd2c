/- Contracts: SeriesOf, on both sides. -/
import Derived.Test.YtpiplogjbeofoaaDoorSer3
import Derived.Test.YtpiplogjbeofoaaDoorField
import Derived.RegionCalls
import Derived.Deep.RegionWith
namespace Go.Proofs.YtpiplogjbeofoaaDoor
set_option maxRecDepth 100000
open Go Go.RowKit
theorem serR_no {p : Int} {num den : List Int} {n : Int} (h : ¬ (fracB p num den = true ∧ causB den = true ∧ inB 0 60 n = true)) : serR p num den n = ([], false) := if_neg h
theorem serR_yes {p : Int} {num den : List Int} {n : Int} (h : fracB p num den = true ∧ causB den = true ∧ inB 0 60 n = true) : serR p num den n = (serL p num den (invM p (cf den 0)) n.toNat, true) := if_pos h
set_option maxHeartbeats 2000000 in
theorem spSeriesOf_c (p : Int) (A B : Option Addr) (c d : Nat) (num den : List Int) (n : Int) (w : World) (hn : Rd w A num) (hd : Rd w B den) :
    Calls Tryd.prog 55 #[.int .i64 p, .agg #[.slice A num.length c, .slice B den.length d], .int .i64 n] w fun e w' => LB w (serR p num den n) e w' := by
  have l1 := hn.len
  have l2 := hd.len
  cases hp : fracB p num den with
  | false =>
    have H := Lib.hid (serR_no (fun h => by rw [hp] at h; cases h.1) : serR p num den n = ([], false))
    have xw := Ex.refl w
    go_enter Tryd.func55, Tryd.ntmps55
    go_wp2_with fail
    have xa := (Ex.refl w).alloc (.cells #[.slice A num.length c, .slice B den.length d] 37)
    have vx := VB.new w 37 #[.slice A num.length c, .slice B den.length d]
    have Su1 := Lib.hid (show (w.alloc (.cells #[.slice A num.length c, .slice B den.length d] 37)).heap.size = w.heap.size + 1 by simp)
    generalize w.alloc (.cells #[.slice A num.length c, .slice B den.length d] 37) = u1 at *
    have Sy := Su1; clear Su1
    have Sz := Sy; clear Sy
    replace xw := xw.trans xa; clear xa
    have zu1 : w.heap.size + 1 ≤ u1.heap.size := Nat.le_of_eq (by have := Sz.out; omega)
    clear Sz
    refine (frGood_c p A B c d num den u1 (hn.ex xw) (hd.ex xw)).mono ?_
    rintro e u2 ⟨rfl, xu2⟩
    replace vx := vx.ex xu2
    replace xw := xw.trans xu2
    have zu2 := xu2.size
    rw [hp]
    go_wp2
    go_ret2
    exact LB.nil_ rfl H.out xw
  | true =>
  have hdl : 0 < den.length := List.length_pos_iff.2 (fracB_parts hp).2.2.2.2.2.1
  cases hc : causB den with
  | false =>
    have H := Lib.hid (serR_no (fun h => by rw [hc] at h; cases h.2.1) : serR p num den n = ([], false))
    have xw := Ex.refl w
    go_enter Tryd.func55, Tryd.ntmps55
    go_wp2_with fail
    have xa := (Ex.refl w).alloc (.cells #[.slice A num.length c, .slice B den.length d] 37)
    have vx := VB.new w 37 #[.slice A num.length c, .slice B den.length d]
    have Su1 := Lib.hid (show (w.alloc (.cells #[.slice A num.length c, .slice B den.length d] 37)).heap.size = w.heap.size + 1 by simp)
    generalize w.alloc (.cells #[.slice A num.length c, .slice B den.length d] 37) = u1 at *
    have Sy := Su1; clear Su1
    have Sz := Sy; clear Sy
    replace xw := xw.trans xa; clear xa
    have zu1 : w.heap.size + 1 ≤ u1.heap.size := Nat.le_of_eq (by have := Sz.out; omega)
    clear Sz
    refine (frGood_c p A B c d num den u1 (hn.ex xw) (hd.ex xw)).mono ?_
    rintro e u2 ⟨rfl, xu2⟩
    replace vx := vx.ex xu2
    replace xw := xw.trans xu2
    have zu2 := xu2.size
    rw [hp]
    have qvx0 := vx.cell 0 (v := .slice A num.length c) rfl
    have qvx1 := vx.cell 1 (v := .slice B den.length d) rfl
    go_wp2_with fail
    clear qvx0 qvx1
    refine (spCausal_c A B c d num den u2 (hn.ex xw) (hd.ex xw) hdl).mono ?_
    rintro e u3 ⟨rfl, xu3⟩
    replace vx := vx.ex xu3
    replace xw := xw.trans xu3
    have zu3 := xu3.size
    rw [hc]
    go_wp2
    go_ret2
    exact LB.nil_ rfl H.out xw
  | true =>
  cases hi : inB 0 60 n with
  | false =>
    have H := Lib.hid (serR_no (fun h => by rw [hi] at h; cases h.2.2) : serR p num den n = ([], false))
    have xw := Ex.refl w
    go_enter Tryd.func55, Tryd.ntmps55
    go_wp2_with fail
    have xa := (Ex.refl w).alloc (.cells #[.slice A num.length c, .slice B den.length d] 37)
    have vx := VB.new w 37 #[.slice A num.length c, .slice B den.length d]
    have Su1 := Lib.hid (show (w.alloc (.cells #[.slice A num.length c, .slice B den.length d] 37)).heap.size = w.heap.size + 1 by simp)
    generalize w.alloc (.cells #[.slice A num.length c, .slice B den.length d] 37) = u1 at *
    have Sy := Su1; clear Su1
    have Sz := Sy; clear Sy
    replace xw := xw.trans xa; clear xa
    have zu1 : w.heap.size + 1 ≤ u1.heap.size := Nat.le_of_eq (by have := Sz.out; omega)
    clear Sz
    refine (frGood_c p A B c d num den u1 (hn.ex xw) (hd.ex xw)).mono ?_
    rintro e u2 ⟨rfl, xu2⟩
    replace vx := vx.ex xu2
    replace xw := xw.trans xu2
    have zu2 := xu2.size
    rw [hp]
    have qvx0 := vx.cell 0 (v := .slice A num.length c) rfl
    have qvx1 := vx.cell 1 (v := .slice B den.length d) rfl
    go_wp2_with fail
    clear qvx0 qvx1
    refine (spCausal_c A B c d num den u2 (hn.ex xw) (hd.ex xw) hdl).mono ?_
    rintro e u3 ⟨rfl, xu3⟩
    replace vx := vx.ex xu3
    replace xw := xw.trans xu3
    have zu3 := xu3.size
    rw [hc]
    go_wp2_with fail
    refine (l1In_c n 0 60 u3).mono ?_
    rintro e _ ⟨rfl, rfl⟩
    rw [hi]
    go_wp2
    go_ret2
    exact LB.nil_ rfl H.out xw
  | true =>
    obtain ⟨m, hm, hm60⟩ : ∃ m : Nat, n = (m : Int) ∧ m ≤ 60 := by
      simp only [inB, Bool.and_eq_true, decide_eq_true_eq] at hi
      exact ⟨n.toNat, by omega, by omega⟩
    have H := Lib.hid (serR_yes ⟨hp, hc, hi⟩)
    have HP := Lib.hid hp
    have HC := Lib.hid hc
    have HI := Lib.hid hi
    obtain ⟨hF, h1, h2, k1, k2, hd0, hc1, hg⟩ := fracB_parts hp
    obtain ⟨_, _, hne, tn⟩ := polyB_parts h1
    obtain ⟨_, _, hde, td⟩ := polyB_parts h2
    have HF := Lib.hid hF
    have Hne := Lib.hid hne
    have Hde := Lib.hid hde
    have g2 := fieldB_lo hF
    have g97 := fieldB_hi hF
    have hz : cf den 0 ≠ 0 := by
      simp only [causB, decide_eq_true_eq, List.getD_eq_getElem?_getD] at hc
      exact hc
    have Hz := Lib.hid hz
    have hmn : n.toNat = m := by omega
    rw [hmn] at H
    have Hm := Lib.hid hm
    clear hp hc hi h1 h2 hF hne hde hz hd0 hc1 hg hm hmn
    have xw := Ex.refl w
    go_enter Tryd.func55, Tryd.ntmps55
    go_wp2_with fail
    have xa := (Ex.refl w).alloc (.cells #[.slice A num.length c, .slice B den.length d] 37)
    have vx := VB.new w 37 #[.slice A num.length c, .slice B den.length d]
    have Su1 := Lib.hid (show (w.alloc (.cells #[.slice A num.length c, .slice B den.length d] 37)).heap.size = w.heap.size + 1 by simp)
    generalize w.alloc (.cells #[.slice A num.length c, .slice B den.length d] 37) = u1 at *
    have Sy := Su1; clear Su1
    have Sz := Sy; clear Sy
    replace xw := xw.trans xa; clear xa
    have zu1 : w.heap.size + 1 ≤ u1.heap.size := Nat.le_of_eq (by have := Sz.out; omega)
    clear Sz
    refine (frGood_c p A B c d num den u1 (hn.ex xw) (hd.ex xw)).mono ?_
    rintro e u2 ⟨rfl, xu2⟩
    replace vx := vx.ex xu2
    replace xw := xw.trans xu2
    have zu2 := xu2.size
    rw [HP.out]
    have qvx0 := vx.cell 0 (v := .slice A num.length c) rfl
    have qvx1 := vx.cell 1 (v := .slice B den.length d) rfl
    go_wp2_with fail
    clear qvx0 qvx1
    refine (spCausal_c A B c d num den u2 (hn.ex xw) (hd.ex xw) hdl).mono ?_
    rintro e u3 ⟨rfl, xu3⟩
    replace vx := vx.ex xu3
    replace xw := xw.trans xu3
    have zu3 := xu3.size
    rw [HC.out]
    go_wp2_with fail
    refine (l1In_c n 0 60 u3).mono ?_
    rintro e _ ⟨rfl, rfl⟩
    rw [HI.out]
    have qvx0 := vx.cell 0 (v := .slice A num.length c) rfl
    have qvx1 := vx.cell 1 (v := .slice B den.length d) rfl
    go_wp2_with fail
    clear qvx0 qvx1
    rw [Hm.out]
    refine (frSeries_c p A B c d m num den u3 (hn.ex xw) (hd.ex xw) HF.out Hne.out Hde.out hdl Hz.out hm60).mono ?_
    rintro e u4 ⟨A2, c2, rfl, f2, xu4⟩
    replace vx := vx.ex xu4
    replace xw := xw.trans xu4
    have zu4 := xu4.size
    go_wp2
    go_ret2
    exact LB.mk_ rfl (by rw [H.out]) (by rw [H.out]) (by rw [H.out]; exact f2.more (by omega)) xw
set_option maxHeartbeats 2000000 in
theorem SeriesOf_c (p : Int) (A B : Option Addr) (c d : Nat) (num den : List Int) (n : Int) (w : World) (hn : Rd w A num) (hd : Rd w B den) (ht : Tb w) :
    Calls Tryd.prog 56 #[.int .i64 p, .agg #[.slice A num.length c, .slice B den.length d], .int .i64 n] w fun e w' => LB w (serR p num den n) e w' := by
  have l1 := hn.len
  have l2 := hd.len
  cases hp : fracB p num den with
  | false =>
    have H := Lib.hid (serR_no (fun h => by rw [hp] at h; cases h.1) : serR p num den n = ([], false))
    have xw := Ex.refl w
    go_enter Tryd.func56, Tryd.ntmps56
    go_wp2_with fail
    have xa := (Ex.refl w).alloc (.cells #[.slice A num.length c, .slice B den.length d] 37)
    have vx := VB.new w 37 #[.slice A num.length c, .slice B den.length d]
    have Su1 := Lib.hid (show (w.alloc (.cells #[.slice A num.length c, .slice B den.length d] 37)).heap.size = w.heap.size + 1 by simp)
    generalize w.alloc (.cells #[.slice A num.length c, .slice B den.length d] 37) = u1 at *
    have Sy := Su1; clear Su1
    have Sz := Sy; clear Sy
    replace xw := xw.trans xa; clear xa
    have xa := (Ex.refl u1).alloc (.cells #[.slice A num.length c, .slice B den.length d] 37)
    have va := VB.new u1 37 #[.slice A num.length c, .slice B den.length d]
    have Su2 := Lib.hid (show (u1.alloc (.cells #[.slice A num.length c, .slice B den.length d] 37)).heap.size = u1.heap.size + 1 by simp)
    rw [Sz.out] at va
    generalize u1.alloc (.cells #[.slice A num.length c, .slice B den.length d] 37) = u2 at *
    have Sy := Lib.hid (Su2.out.trans (congrArg (· + 1) Sz.out)); clear Sz Su2
    have Sz := Sy; clear Sy
    replace vx := vx.ex xa
    replace xw := xw.trans xa; clear xa
    have zu2 : w.heap.size + 2 ≤ u2.heap.size := Nat.le_of_eq (by have := Sz.out; omega)
    clear Sz
    refine (areFractions_c p (some ⟨w.heap.size + 1, 0, none⟩) 1 [(num, den)] u2 (RdF.one (va.cell 0 rfl) (va.cell 1 rfl) (hn.ex xw) (hd.ex xw)) (ht.ex xw)).mono ?_
    rintro e u3 ⟨rfl, xu3⟩
    replace vx := vx.ex xu3
    replace va := va.ex xu3
    replace xw := xw.trans xu3
    have zu3 := xu3.size
    rw [fracB_field, hp]
    clear va
    go_wp2
    go_ret2
    exact LB.nil_ rfl H.out xw
  | true =>
  have hdl : 0 < den.length := List.length_pos_iff.2 (fracB_parts hp).2.2.2.2.2.1
  cases hc : causB den with
  | false =>
    have H := Lib.hid (serR_no (fun h => by rw [hc] at h; cases h.2.1) : serR p num den n = ([], false))
    have xw := Ex.refl w
    go_enter Tryd.func56, Tryd.ntmps56
    go_wp2_with fail
    have xa := (Ex.refl w).alloc (.cells #[.slice A num.length c, .slice B den.length d] 37)
    have vx := VB.new w 37 #[.slice A num.length c, .slice B den.length d]
    have Su1 := Lib.hid (show (w.alloc (.cells #[.slice A num.length c, .slice B den.length d] 37)).heap.size = w.heap.size + 1 by simp)
    generalize w.alloc (.cells #[.slice A num.length c, .slice B den.length d] 37) = u1 at *
    have Sy := Su1; clear Su1
    have Sz := Sy; clear Sy
    replace xw := xw.trans xa; clear xa
    have xa := (Ex.refl u1).alloc (.cells #[.slice A num.length c, .slice B den.length d] 37)
    have va := VB.new u1 37 #[.slice A num.length c, .slice B den.length d]
    have Su2 := Lib.hid (show (u1.alloc (.cells #[.slice A num.length c, .slice B den.length d] 37)).heap.size = u1.heap.size + 1 by simp)
    rw [Sz.out] at va
    generalize u1.alloc (.cells #[.slice A num.length c, .slice B den.length d] 37) = u2 at *
    have Sy := Lib.hid (Su2.out.trans (congrArg (· + 1) Sz.out)); clear Sz Su2
    have Sz := Sy; clear Sy
    replace vx := vx.ex xa
    replace xw := xw.trans xa; clear xa
    have zu2 : w.heap.size + 2 ≤ u2.heap.size := Nat.le_of_eq (by have := Sz.out; omega)
    clear Sz
    refine (areFractions_c p (some ⟨w.heap.size + 1, 0, none⟩) 1 [(num, den)] u2 (RdF.one (va.cell 0 rfl) (va.cell 1 rfl) (hn.ex xw) (hd.ex xw)) (ht.ex xw)).mono ?_
    rintro e u3 ⟨rfl, xu3⟩
    replace vx := vx.ex xu3
    replace va := va.ex xu3
    replace xw := xw.trans xu3
    have zu3 := xu3.size
    rw [fracB_field, hp]
    clear va
    have qvx0 := vx.cell 0 (v := .slice A num.length c) rfl
    have qvx1 := vx.cell 1 (v := .slice B den.length d) rfl
    go_wp2_with fail
    clear qvx0 qvx1
    refine (isCausal_c A B c d num den u3 (hn.ex xw) (hd.ex xw) hdl).mono ?_
    rintro e u4 ⟨rfl, xu4⟩
    replace vx := vx.ex xu4
    replace xw := xw.trans xu4
    have zu4 := xu4.size
    rw [hc]
    go_wp2
    go_ret2
    exact LB.nil_ rfl H.out xw
  | true =>
  cases hi : inB 0 60 n with
  | false =>
    have H := Lib.hid (serR_no (fun h => by rw [hi] at h; cases h.2.2) : serR p num den n = ([], false))
    have xw := Ex.refl w
    go_enter Tryd.func56, Tryd.ntmps56
    go_wp2_with fail
    have xa := (Ex.refl w).alloc (.cells #[.slice A num.length c, .slice B den.length d] 37)
    have vx := VB.new w 37 #[.slice A num.length c, .slice B den.length d]
    have Su1 := Lib.hid (show (w.alloc (.cells #[.slice A num.length c, .slice B den.length d] 37)).heap.size = w.heap.size + 1 by simp)
    generalize w.alloc (.cells #[.slice A num.length c, .slice B den.length d] 37) = u1 at *
    have Sy := Su1; clear Su1
    have Sz := Sy; clear Sy
    replace xw := xw.trans xa; clear xa
    have xa := (Ex.refl u1).alloc (.cells #[.slice A num.length c, .slice B den.length d] 37)
    have va := VB.new u1 37 #[.slice A num.length c, .slice B den.length d]
    have Su2 := Lib.hid (show (u1.alloc (.cells #[.slice A num.length c, .slice B den.length d] 37)).heap.size = u1.heap.size + 1 by simp)
    rw [Sz.out] at va
    generalize u1.alloc (.cells #[.slice A num.length c, .slice B den.length d] 37) = u2 at *
    have Sy := Lib.hid (Su2.out.trans (congrArg (· + 1) Sz.out)); clear Sz Su2
    have Sz := Sy; clear Sy
    replace vx := vx.ex xa
    replace xw := xw.trans xa; clear xa
    have zu2 : w.heap.size + 2 ≤ u2.heap.size := Nat.le_of_eq (by have := Sz.out; omega)
    clear Sz
    refine (areFractions_c p (some ⟨w.heap.size + 1, 0, none⟩) 1 [(num, den)] u2 (RdF.one (va.cell 0 rfl) (va.cell 1 rfl) (hn.ex xw) (hd.ex xw)) (ht.ex xw)).mono ?_
    rintro e u3 ⟨rfl, xu3⟩
    replace vx := vx.ex xu3
    replace va := va.ex xu3
    replace xw := xw.trans xu3
    have zu3 := xu3.size
    rw [fracB_field, hp]
    clear va
    have qvx0 := vx.cell 0 (v := .slice A num.length c) rfl
    have qvx1 := vx.cell 1 (v := .slice B den.length d) rfl
    go_wp2_with fail
    clear qvx0 qvx1
    refine (isCausal_c A B c d num den u3 (hn.ex xw) (hd.ex xw) hdl).mono ?_
    rintro e u4 ⟨rfl, xu4⟩
    replace vx := vx.ex xu4
    replace xw := xw.trans xu4
    have zu4 := xu4.size
    rw [hc]
    go_wp2_with fail
    refine (within_c n 0 60 u4).mono ?_
    rintro e _ ⟨rfl, rfl⟩
    rw [hi]
    go_wp2
    go_ret2
    exact LB.nil_ rfl H.out xw
  | true =>
    obtain ⟨m, hm, hm60⟩ : ∃ m : Nat, n = (m : Int) ∧ m ≤ 60 := by
      simp only [inB, Bool.and_eq_true, decide_eq_true_eq] at hi
      exact ⟨n.toNat, by omega, by omega⟩
    have H := Lib.hid (serR_yes ⟨hp, hc, hi⟩)
    have HP := Lib.hid hp
    have HC := Lib.hid hc
    have HI := Lib.hid hi
    obtain ⟨hF, h1, h2, k1, k2, hd0, hc1, hg⟩ := fracB_parts hp
    obtain ⟨_, _, hne, tn⟩ := polyB_parts h1
    obtain ⟨_, _, hde, td⟩ := polyB_parts h2
    have HF := Lib.hid hF
    have Hne := Lib.hid hne
    have Hde := Lib.hid hde
    have g2 := fieldB_lo hF
    have g97 := fieldB_hi hF
    have hz : cf den 0 ≠ 0 := by
      simp only [causB, decide_eq_true_eq, List.getD_eq_getElem?_getD] at hc
      exact hc
    have Hz := Lib.hid hz
    have hmn : n.toNat = m := by omega
    rw [hmn] at H
    have Hm := Lib.hid hm
    clear hp hc hi h1 h2 hF hne hde hz hd0 hc1 hg hm hmn
    have xw := Ex.refl w
    go_enter Tryd.func56, Tryd.ntmps56
    go_wp2_with fail
    have xa := (Ex.refl w).alloc (.cells #[.slice A num.length c, .slice B den.length d] 37)
    have vx := VB.new w 37 #[.slice A num.length c, .slice B den.length d]
    have Su1 := Lib.hid (show (w.alloc (.cells #[.slice A num.length c, .slice B den.length d] 37)).heap.size = w.heap.size + 1 by simp)
    generalize w.alloc (.cells #[.slice A num.length c, .slice B den.length d] 37) = u1 at *
    have Sy := Su1; clear Su1
    have Sz := Sy; clear Sy
    replace xw := xw.trans xa; clear xa
    have xa := (Ex.refl u1).alloc (.cells #[.slice A num.length c, .slice B den.length d] 37)
    have va := VB.new u1 37 #[.slice A num.length c, .slice B den.length d]
    have Su2 := Lib.hid (show (u1.alloc (.cells #[.slice A num.length c, .slice B den.length d] 37)).heap.size = u1.heap.size + 1 by simp)
    rw [Sz.out] at va
    generalize u1.alloc (.cells #[.slice A num.length c, .slice B den.length d] 37) = u2 at *
    have Sy := Lib.hid (Su2.out.trans (congrArg (· + 1) Sz.out)); clear Sz Su2
    have Sz := Sy; clear Sy
    replace vx := vx.ex xa
    replace xw := xw.trans xa; clear xa
    have zu2 : w.heap.size + 2 ≤ u2.heap.size := Nat.le_of_eq (by have := Sz.out; omega)
    clear Sz
    refine (areFractions_c p (some ⟨w.heap.size + 1, 0, none⟩) 1 [(num, den)] u2 (RdF.one (va.cell 0 rfl) (va.cell 1 rfl) (hn.ex xw) (hd.ex xw)) (ht.ex xw)).mono ?_
    rintro e u3 ⟨rfl, xu3⟩
    replace vx := vx.ex xu3
    replace va := va.ex xu3
    replace xw := xw.trans xu3
    have zu3 := xu3.size
    rw [fracB_field, HP.out]
    clear va
    have qvx0 := vx.cell 0 (v := .slice A num.length c) rfl
    have qvx1 := vx.cell 1 (v := .slice B den.length d) rfl
    go_wp2_with fail
    clear qvx0 qvx1
    refine (isCausal_c A B c d num den u3 (hn.ex xw) (hd.ex xw) hdl).mono ?_
    rintro e u4 ⟨rfl, xu4⟩
    replace vx := vx.ex xu4
    replace xw := xw.trans xu4
    have zu4 := xu4.size
    rw [HC.out]
    go_wp2_with fail
    refine (within_c n 0 60 u4).mono ?_
    rintro e _ ⟨rfl, rfl⟩
    rw [HI.out]
    have qvx0 := vx.cell 0 (v := .slice A num.length c) rfl
    have qvx1 := vx.cell 1 (v := .slice B den.length d) rfl
    go_wp2_with fail
    clear qvx0 qvx1
    rw [Hm.out]
    refine (series_c p A B c d m num den u4 (hn.ex xw) (hd.ex xw) g2 g97 Hne.out Hde.out hdl hm60).mono ?_
    rintro e u5 ⟨g, rfl, hg, b2, xu5⟩
    replace vx := vx.ex xu5
    replace xw := xw.trans xu5
    have zu5 := xu5.size
    go_wp2
    go_ret2
    exact LB.mk_ rfl (by rw [H.out]; exact (serL_len _ _ _ _ _).symm) (by rw [H.out]) (by rw [H.out]; exact b2.fr (by rw [serL_len]; omega) (by omega) (Nat.le_of_eq (serL_len _ _ _ _ _))) xw
end Go.Proofs.YtpiplogjbeofoaaDoor
