/- Contracts: OrderOfFraction, on both sides. -/
import Derived.Test.YtpiplogjbeofoaaDoorFrac5
import Derived.RegionCalls
import Derived.Deep.RegionWith
namespace Go.Proofs.YtpiplogjbeofoaaDoor
set_option maxRecDepth 100000
open Go Go.RowKit
set_option maxHeartbeats 1000000 in
theorem spOrderOfFraction_c (p : Int) (A B : Option Addr) (c d : Nat) (num den : List Int) (w : World) (hn : Rd w A num) (hd : Rd w B den) :
    Calls Tryd.prog 21 #[.int .i64 p, .agg #[.slice A num.length c, .slice B den.length d]] w fun e w' => IB w (ordR p num den) e w' := by
  have l1 := hn.len
  have l2 := hd.len
  cases hp : fracB p num den with
  | false =>
    have H := Lib.hid (show ordR p num den = (0, false) by simp [ordR, hp])
    have xw := Ex.refl w
    go_enter Tryd.func21, Tryd.ntmps21
    go_wp2_with fail
    have xa := (Ex.refl w).alloc (.cells #[.slice A num.length c, .slice B den.length d] 37)
    have vx := VB.new w 37 #[.slice A num.length c, .slice B den.length d]
    have Su1 := Lib.hid (show (w.alloc (.cells #[.slice A num.length c, .slice B den.length d] 37)).heap.size = w.heap.size + 1 by simp)
    generalize w.alloc (.cells #[.slice A num.length c, .slice B den.length d] 37) = u1 at *
    have Sy := Su1; clear Su1
    have Sz := Sy; clear Sy
    replace xw := xw.trans xa; clear xa
    have zu1 : w.heap.size + 1 ≤ u1.heap.size := Nat.le_of_eq (by have := Sz.out; omega)
    clear Sz
    refine (frGood_c p A B c d num den u1 (hn.ex xw) (hd.ex xw)).mono ?_
    rintro e u2 ⟨rfl, xu2⟩
    replace vx := vx.ex xu2
    replace xw := xw.trans xu2
    have zu2 := xu2.size
    rw [hp]
    go_wp2
    go_ret2
    exact ⟨by rw [H.out]; rfl, xw⟩
  | true =>
    have H := Lib.hid (show ordR p num den = (max ((den.length : Int) - 1) (num.length : Int), true) by simp [ordR, hp])
    have xw := Ex.refl w
    go_enter Tryd.func21, Tryd.ntmps21
    go_wp2_with fail
    have xa := (Ex.refl w).alloc (.cells #[.slice A num.length c, .slice B den.length d] 37)
    have vx := VB.new w 37 #[.slice A num.length c, .slice B den.length d]
    have Su1 := Lib.hid (show (w.alloc (.cells #[.slice A num.length c, .slice B den.length d] 37)).heap.size = w.heap.size + 1 by simp)
    generalize w.alloc (.cells #[.slice A num.length c, .slice B den.length d] 37) = u1 at *
    have Sy := Su1; clear Su1
    have Sz := Sy; clear Sy
    replace xw := xw.trans xa; clear xa
    have zu1 : w.heap.size + 1 ≤ u1.heap.size := Nat.le_of_eq (by have := Sz.out; omega)
    clear Sz
    refine (frGood_c p A B c d num den u1 (hn.ex xw) (hd.ex xw)).mono ?_
    rintro e u2 ⟨rfl, xu2⟩
    replace vx := vx.ex xu2
    replace xw := xw.trans xu2
    have zu2 := xu2.size
    rw [hp]
    have qvx0 := vx.cell 0 (v := .slice A num.length c) rfl
    have qvx1 := vx.cell 1 (v := .slice B den.length d) rfl
    go_wp2_with fail
    clear qvx0 qvx1
    refine (frOrder_c A B c d _ _ u2 l1 l2).mono ?_
    rintro e u3 ⟨rfl, xu3⟩
    replace vx := vx.ex xu3
    replace xw := xw.trans xu3
    have zu3 := xu3.size
    go_wp2
    go_ret2
    exact ⟨by rw [H.out]; rfl, xw⟩
set_option maxHeartbeats 1000000 in
theorem OrderOfFraction_c (p : Int) (A B : Option Addr) (c d : Nat) (num den : List Int) (w : World) (hn : Rd w A num) (hd : Rd w B den) (ht : Tb w) :
    Calls Tryd.prog 23 #[.int .i64 p, .agg #[.slice A num.length c, .slice B den.length d]] w fun e w' => IB w (ordR p num den) e w' := by
  have l1 := hn.len
  have l2 := hd.len
  cases hp : fracB p num den with
  | false =>
    have H := Lib.hid (show ordR p num den = (0, false) by simp [ordR, hp])
    have xw := Ex.refl w
    go_enter Tryd.func23, Tryd.ntmps23
    go_wp2_with fail
    have xa := (Ex.refl w).alloc (.cells #[.slice A num.length c, .slice B den.length d] 37)
    have vx := VB.new w 37 #[.slice A num.length c, .slice B den.length d]
    have Su1 := Lib.hid (show (w.alloc (.cells #[.slice A num.length c, .slice B den.length d] 37)).heap.size = w.heap.size + 1 by simp)
    generalize w.alloc (.cells #[.slice A num.length c, .slice B den.length d] 37) = u1 at *
    have Sy := Su1; clear Su1
    have Sz := Sy; clear Sy
    replace xw := xw.trans xa; clear xa
    have xa := (Ex.refl u1).alloc (.cells #[.slice A num.length c, .slice B den.length d] 37)
    have va := VB.new u1 37 #[.slice A num.length c, .slice B den.length d]
    have Su2 := Lib.hid (show (u1.alloc (.cells #[.slice A num.length c, .slice B den.length d] 37)).heap.size = u1.heap.size + 1 by simp)
    rw [Sz.out] at va
    generalize u1.alloc (.cells #[.slice A num.length c, .slice B den.length d] 37) = u2 at *
    have Sy := Lib.hid (Su2.out.trans (congrArg (· + 1) Sz.out)); clear Sz Su2
    have Sz := Sy; clear Sy
    replace vx := vx.ex xa
    replace xw := xw.trans xa; clear xa
    have zu2 : w.heap.size + 2 ≤ u2.heap.size := Nat.le_of_eq (by have := Sz.out; omega)
    clear Sz
    refine (areFractions_c p (some ⟨w.heap.size + 1, 0, none⟩) 1 [(num, den)] u2 (RdF.one (va.cell 0 rfl) (va.cell 1 rfl) (hn.ex xw) (hd.ex xw)) (ht.ex xw)).mono ?_
    rintro e u3 ⟨rfl, xu3⟩
    replace vx := vx.ex xu3
    replace va := va.ex xu3
    replace xw := xw.trans xu3
    have zu3 := xu3.size
    rw [fracB_field, hp]
    clear va
    go_wp2
    go_ret2
    exact ⟨by rw [H.out]; rfl, xw⟩
  | true =>
    have H := Lib.hid (show ordR p num den = (max ((den.length : Int) - 1) (num.length : Int), true) by simp [ordR, hp])
    have xw := Ex.refl w
    go_enter Tryd.func23, Tryd.ntmps23
    go_wp2_with fail
    have xa := (Ex.refl w).alloc (.cells #[.slice A num.length c, .slice B den.length d] 37)
    have vx := VB.new w 37 #[.slice A num.length c, .slice B den.length d]
    have Su1 := Lib.hid (show (w.alloc (.cells #[.slice A num.length c, .slice B den.length d] 37)).heap.size = w.heap.size + 1 by simp)
    generalize w.alloc (.cells #[.slice A num.length c, .slice B den.length d] 37) = u1 at *
    have Sy := Su1; clear Su1
    have Sz := Sy; clear Sy
    replace xw := xw.trans xa; clear xa
    have xa := (Ex.refl u1).alloc (.cells #[.slice A num.length c, .slice B den.length d] 37)
    have va := VB.new u1 37 #[.slice A num.length c, .slice B den.length d]
    have Su2 := Lib.hid (show (u1.alloc (.cells #[.slice A num.length c, .slice B den.length d] 37)).heap.size = u1.heap.size + 1 by simp)
    rw [Sz.out] at va
    generalize u1.alloc (.cells #[.slice A num.length c, .slice B den.length d] 37) = u2 at *
    have Sy := Lib.hid (Su2.out.trans (congrArg (· + 1) Sz.out)); clear Sz Su2
    have Sz := Sy; clear Sy
    replace vx := vx.ex xa
    replace xw := xw.trans xa; clear xa
    have zu2 : w.heap.size + 2 ≤ u2.heap.size := Nat.le_of_eq (by have := Sz.out; omega)
    clear Sz
    refine (areFractions_c p (some ⟨w.heap.size + 1, 0, none⟩) 1 [(num, den)] u2 (RdF.one (va.cell 0 rfl) (va.cell 1 rfl) (hn.ex xw) (hd.ex xw)) (ht.ex xw)).mono ?_
    rintro e u3 ⟨rfl, xu3⟩
    replace vx := vx.ex xu3
    replace va := va.ex xu3
    replace xw := xw.trans xu3
    have zu3 := xu3.size
    rw [fracB_field, hp]
    clear va
    have qvx0 := vx.cell 0 (v := .slice A num.length c) rfl
    have qvx1 := vx.cell 1 (v := .slice B den.length d) rfl
    go_wp2_with fail
    clear qvx0 qvx1
    refine (orderOf_c A B c d _ _ u3 l1 l2).mono ?_
    rintro e u4 ⟨rfl, xu4⟩
    replace vx := vx.ex xu4
    replace xw := xw.trans xu4
    have zu4 := xu4.size
    go_wp2
    go_ret2
    exact ⟨by rw [H.out]; rfl, xw⟩
end Go.Proofs.YtpiplogjbeofoaaDoor
