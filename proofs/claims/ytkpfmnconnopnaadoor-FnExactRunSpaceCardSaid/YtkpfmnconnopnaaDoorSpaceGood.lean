/- Contracts: valid state spaces, on both sides. -/
import Derived.Test.YtkpfmnconnopnaaDoorLawSpace
namespace Go.Proofs.YtkpfmnconnopnaaDoor
set_option maxRecDepth 100000
open Go Go.RowKit
def ssB (p x y z : Int) (ra rb rc rd : List (List Int)) : Bool := fieldB p && inB 0 24 x && inB 0 8 y && inB 0 8 z && tabB p x x ra && tabB p y x rb && tabB p x z rc && tabB p y z rd
set_option maxHeartbeats 2000000 in
theorem ssGood_c (p x y z : Int) (A B C D : Option Addr) (a b c d : Nat) (ra rb rc rd : List (List Int)) (w : World) (ha : RdM w A ra) (hb : RdM w B rb) (hc : RdM w C rc) (hd : RdM w D rd) :
    Calls Tryd.prog 46 #[.int .i64 p, .agg #[.int .i64 x, .int .i64 y, .int .i64 z, .slice A ra.length a, .slice B rb.length b, .slice C rc.length c, .slice D rd.length d]] w fun e w' => e = .returned (.bool (ssB p x y z ra rb rc rd)) ∧ Ex w w' := by
  have x0 := (Ex.refl w).alloc (.cells #[.int .i64 x, .int .i64 y, .int .i64 z, .slice A ra.length a, .slice B rb.length b, .slice C rc.length c, .slice D rd.length d] 29)
  cases k0 : fieldB p with
  | false =>
    have H := Lib.hid (show ssB p x y z ra rb rc rd = false by simp only [ssB]; simp [k0])
    have K0 := Lib.hid k0
    clear k0
    go_enter Tryd.func46, Tryd.ntmps46
    go_wp2_with fail
    refine (fdGood_c p _).mono ?_
    rintro e w1 ⟨rfl, rfl⟩
    rw [K0.out]
    go_wp2
    go_ret
    exact ⟨by rw [H.out]; rfl, x0⟩
  | true =>
  cases k1 : inB 0 24 x with
  | false =>
    have H := Lib.hid (show ssB p x y z ra rb rc rd = false by simp only [ssB]; simp [k0, k1])
    have K0 := Lib.hid k0
    have K1 := Lib.hid k1
    have h2 := fieldB_lo k0
    have h97 := fieldB_hi k0
    clear k0 k1
    go_enter Tryd.func46, Tryd.ntmps46
    go_wp2_with fail
    refine (fdGood_c p _).mono ?_
    rintro e w1 ⟨rfl, rfl⟩
    rw [K0.out]
    go_wp2_with fail
    refine (l1In_c x 0 24 _).mono ?_
    rintro e w1 ⟨rfl, rfl⟩
    rw [K1.out]
    go_wp2
    go_ret
    exact ⟨by rw [H.out]; rfl, x0⟩
  | true =>
  cases k2 : inB 0 8 y with
  | false =>
    have H := Lib.hid (show ssB p x y z ra rb rc rd = false by simp only [ssB]; simp [k0, k1, k2])
    have K0 := Lib.hid k0
    have K1 := Lib.hid k1
    have K2 := Lib.hid k2
    have h2 := fieldB_lo k0
    have h97 := fieldB_hi k0
    clear k0 k1 k2
    go_enter Tryd.func46, Tryd.ntmps46
    go_wp2_with fail
    refine (fdGood_c p _).mono ?_
    rintro e w1 ⟨rfl, rfl⟩
    rw [K0.out]
    go_wp2_with fail
    refine (l1In_c x 0 24 _).mono ?_
    rintro e w1 ⟨rfl, rfl⟩
    rw [K1.out]
    go_wp2_with fail
    refine (l1In_c y 0 8 _).mono ?_
    rintro e w1 ⟨rfl, rfl⟩
    rw [K2.out]
    go_wp2
    go_ret
    exact ⟨by rw [H.out]; rfl, x0⟩
  | true =>
  cases k3 : inB 0 8 z with
  | false =>
    have H := Lib.hid (show ssB p x y z ra rb rc rd = false by simp only [ssB]; simp [k0, k1, k2, k3])
    have K0 := Lib.hid k0
    have K1 := Lib.hid k1
    have K2 := Lib.hid k2
    have K3 := Lib.hid k3
    have h2 := fieldB_lo k0
    have h97 := fieldB_hi k0
    clear k0 k1 k2 k3
    go_enter Tryd.func46, Tryd.ntmps46
    go_wp2_with fail
    refine (fdGood_c p _).mono ?_
    rintro e w1 ⟨rfl, rfl⟩
    rw [K0.out]
    go_wp2_with fail
    refine (l1In_c x 0 24 _).mono ?_
    rintro e w1 ⟨rfl, rfl⟩
    rw [K1.out]
    go_wp2_with fail
    refine (l1In_c y 0 8 _).mono ?_
    rintro e w1 ⟨rfl, rfl⟩
    rw [K2.out]
    go_wp2_with fail
    refine (l1In_c z 0 8 _).mono ?_
    rintro e w1 ⟨rfl, rfl⟩
    rw [K3.out]
    go_wp2
    go_ret
    exact ⟨by rw [H.out]; rfl, x0⟩
  | true =>
  cases k4 : tabB p x x ra with
  | false =>
    have H := Lib.hid (show ssB p x y z ra rb rc rd = false by simp only [ssB]; simp [k0, k1, k2, k3, k4])
    have K0 := Lib.hid k0
    have K1 := Lib.hid k1
    have K2 := Lib.hid k2
    have K3 := Lib.hid k3
    have K4 := Lib.hid k4
    have h2 := fieldB_lo k0
    have h97 := fieldB_hi k0
    clear k0 k1 k2 k3 k4
    go_enter Tryd.func46, Tryd.ntmps46
    go_wp2_with fail
    refine (fdGood_c p _).mono ?_
    rintro e w1 ⟨rfl, rfl⟩
    rw [K0.out]
    go_wp2_with fail
    refine (l1In_c x 0 24 _).mono ?_
    rintro e w1 ⟨rfl, rfl⟩
    rw [K1.out]
    go_wp2_with fail
    refine (l1In_c y 0 8 _).mono ?_
    rintro e w1 ⟨rfl, rfl⟩
    rw [K2.out]
    go_wp2_with fail
    refine (l1In_c z 0 8 _).mono ?_
    rintro e w1 ⟨rfl, rfl⟩
    rw [K3.out]
    go_wp2_with fail
    refine (ssTable_c p x x A a ra _ (ha.ex x0) h2 h97).mono ?_
    rintro e w1 ⟨rfl, rfl⟩
    rw [K4.out]
    go_wp2
    go_ret
    exact ⟨by rw [H.out]; rfl, x0⟩
  | true =>
  cases k5 : tabB p y x rb with
  | false =>
    have H := Lib.hid (show ssB p x y z ra rb rc rd = false by simp only [ssB]; simp [k0, k1, k2, k3, k4, k5])
    have K0 := Lib.hid k0
    have K1 := Lib.hid k1
    have K2 := Lib.hid k2
    have K3 := Lib.hid k3
    have K4 := Lib.hid k4
    have K5 := Lib.hid k5
    have h2 := fieldB_lo k0
    have h97 := fieldB_hi k0
    clear k0 k1 k2 k3 k4 k5
    go_enter Tryd.func46, Tryd.ntmps46
    go_wp2_with fail
    refine (fdGood_c p _).mono ?_
    rintro e w1 ⟨rfl, rfl⟩
    rw [K0.out]
    go_wp2_with fail
    refine (l1In_c x 0 24 _).mono ?_
    rintro e w1 ⟨rfl, rfl⟩
    rw [K1.out]
    go_wp2_with fail
    refine (l1In_c y 0 8 _).mono ?_
    rintro e w1 ⟨rfl, rfl⟩
    rw [K2.out]
    go_wp2_with fail
    refine (l1In_c z 0 8 _).mono ?_
    rintro e w1 ⟨rfl, rfl⟩
    rw [K3.out]
    go_wp2_with fail
    refine (ssTable_c p x x A a ra _ (ha.ex x0) h2 h97).mono ?_
    rintro e w1 ⟨rfl, rfl⟩
    rw [K4.out]
    go_wp2_with fail
    refine (ssTable_c p y x B b rb _ (hb.ex x0) h2 h97).mono ?_
    rintro e w1 ⟨rfl, rfl⟩
    rw [K5.out]
    go_wp2
    go_ret
    exact ⟨by rw [H.out]; rfl, x0⟩
  | true =>
  cases k6 : tabB p x z rc with
  | false =>
    have H := Lib.hid (show ssB p x y z ra rb rc rd = false by simp only [ssB]; simp [k0, k1, k2, k3, k4, k5, k6])
    have K0 := Lib.hid k0
    have K1 := Lib.hid k1
    have K2 := Lib.hid k2
    have K3 := Lib.hid k3
    have K4 := Lib.hid k4
    have K5 := Lib.hid k5
    have K6 := Lib.hid k6
    have h2 := fieldB_lo k0
    have h97 := fieldB_hi k0
    clear k0 k1 k2 k3 k4 k5 k6
    go_enter Tryd.func46, Tryd.ntmps46
    go_wp2_with fail
    refine (fdGood_c p _).mono ?_
    rintro e w1 ⟨rfl, rfl⟩
    rw [K0.out]
    go_wp2_with fail
    refine (l1In_c x 0 24 _).mono ?_
    rintro e w1 ⟨rfl, rfl⟩
    rw [K1.out]
    go_wp2_with fail
    refine (l1In_c y 0 8 _).mono ?_
    rintro e w1 ⟨rfl, rfl⟩
    rw [K2.out]
    go_wp2_with fail
    refine (l1In_c z 0 8 _).mono ?_
    rintro e w1 ⟨rfl, rfl⟩
    rw [K3.out]
    go_wp2_with fail
    refine (ssTable_c p x x A a ra _ (ha.ex x0) h2 h97).mono ?_
    rintro e w1 ⟨rfl, rfl⟩
    rw [K4.out]
    go_wp2_with fail
    refine (ssTable_c p y x B b rb _ (hb.ex x0) h2 h97).mono ?_
    rintro e w1 ⟨rfl, rfl⟩
    rw [K5.out]
    go_wp2_with fail
    refine (ssTable_c p x z C c rc _ (hc.ex x0) h2 h97).mono ?_
    rintro e w1 ⟨rfl, rfl⟩
    rw [K6.out]
    go_wp2
    go_ret
    exact ⟨by rw [H.out]; rfl, x0⟩
  | true =>
  cases k7 : tabB p y z rd with
  | false =>
    have H := Lib.hid (show ssB p x y z ra rb rc rd = false by simp only [ssB]; simp [k0, k1, k2, k3, k4, k5, k6, k7])
    have K0 := Lib.hid k0
    have K1 := Lib.hid k1
    have K2 := Lib.hid k2
    have K3 := Lib.hid k3
    have K4 := Lib.hid k4
    have K5 := Lib.hid k5
    have K6 := Lib.hid k6
    have K7 := Lib.hid k7
    have h2 := fieldB_lo k0
    have h97 := fieldB_hi k0
    clear k0 k1 k2 k3 k4 k5 k6 k7
    go_enter Tryd.func46, Tryd.ntmps46
    go_wp2_with fail
    refine (fdGood_c p _).mono ?_
    rintro e w1 ⟨rfl, rfl⟩
    rw [K0.out]
    go_wp2_with fail
    refine (l1In_c x 0 24 _).mono ?_
    rintro e w1 ⟨rfl, rfl⟩
    rw [K1.out]
    go_wp2_with fail
    refine (l1In_c y 0 8 _).mono ?_
    rintro e w1 ⟨rfl, rfl⟩
    rw [K2.out]
    go_wp2_with fail
    refine (l1In_c z 0 8 _).mono ?_
    rintro e w1 ⟨rfl, rfl⟩
    rw [K3.out]
    go_wp2_with fail
    refine (ssTable_c p x x A a ra _ (ha.ex x0) h2 h97).mono ?_
    rintro e w1 ⟨rfl, rfl⟩
    rw [K4.out]
    go_wp2_with fail
    refine (ssTable_c p y x B b rb _ (hb.ex x0) h2 h97).mono ?_
    rintro e w1 ⟨rfl, rfl⟩
    rw [K5.out]
    go_wp2_with fail
    refine (ssTable_c p x z C c rc _ (hc.ex x0) h2 h97).mono ?_
    rintro e w1 ⟨rfl, rfl⟩
    rw [K6.out]
    go_wp2_with fail
    refine (ssTable_c p y z D d rd _ (hd.ex x0) h2 h97).mono ?_
    rintro e w1 ⟨rfl, rfl⟩
    rw [K7.out]
    go_wp2
    go_ret
    exact ⟨by rw [H.out]; rfl, x0⟩
  | true =>
    have H := Lib.hid (show ssB p x y z ra rb rc rd = true by simp only [ssB]; simp [k0, k1, k2, k3, k4, k5, k6, k7])
    have K0 := Lib.hid k0
    have K1 := Lib.hid k1
    have K2 := Lib.hid k2
    have K3 := Lib.hid k3
    have K4 := Lib.hid k4
    have K5 := Lib.hid k5
    have K6 := Lib.hid k6
    have K7 := Lib.hid k7
    have h2 := fieldB_lo k0
    have h97 := fieldB_hi k0
    clear k0 k1 k2 k3 k4 k5 k6 k7
    go_enter Tryd.func46, Tryd.ntmps46
    go_wp2_with fail
    refine (fdGood_c p _).mono ?_
    rintro e w1 ⟨rfl, rfl⟩
    rw [K0.out]
    go_wp2_with fail
    refine (l1In_c x 0 24 _).mono ?_
    rintro e w1 ⟨rfl, rfl⟩
    rw [K1.out]
    go_wp2_with fail
    refine (l1In_c y 0 8 _).mono ?_
    rintro e w1 ⟨rfl, rfl⟩
    rw [K2.out]
    go_wp2_with fail
    refine (l1In_c z 0 8 _).mono ?_
    rintro e w1 ⟨rfl, rfl⟩
    rw [K3.out]
    go_wp2_with fail
    refine (ssTable_c p x x A a ra _ (ha.ex x0) h2 h97).mono ?_
    rintro e w1 ⟨rfl, rfl⟩
    rw [K4.out]
    go_wp2_with fail
    refine (ssTable_c p y x B b rb _ (hb.ex x0) h2 h97).mono ?_
    rintro e w1 ⟨rfl, rfl⟩
    rw [K5.out]
    go_wp2_with fail
    refine (ssTable_c p x z C c rc _ (hc.ex x0) h2 h97).mono ?_
    rintro e w1 ⟨rfl, rfl⟩
    rw [K6.out]
    go_wp2_with fail
    refine (ssTable_c p y z D d rd _ (hd.ex x0) h2 h97).mono ?_
    rintro e w1 ⟨rfl, rfl⟩
    rw [K7.out]
    go_wp2
    go_ret
    exact ⟨by rw [H.out]; rfl, x0⟩
theorem tabB_eq (p r c : Int) (m : List (List Int)) : tabB p r c m = (shapeB r c m && rowsB p c m) := by
  simp only [tabB, shapeB, rowsB, Bool.and_assoc]
  congr 1
  rw [Bool.eq_iff_iff]
  simp only [Bool.and_eq_true, List.all_eq_true, decide_eq_true_eq]
  constructor
  · intro h; exact ⟨fun r hr => (h r hr).1, h⟩
  · intro h; exact h.2
set_option maxHeartbeats 2000000 in
theorem isStateSpace_c (p x y z : Int) (A B C D : Option Addr) (a b c d : Nat) (ra rb rc rd : List (List Int)) (w : World) (ha : RdM w A ra) (hb : RdM w B rb) (hc : RdM w C rc) (hd : RdM w D rd) (ht : Tb w) :
    Calls Tryd.prog 49 #[.int .i64 p, .agg #[.int .i64 x, .int .i64 y, .int .i64 z, .slice A ra.length a, .slice B rb.length b, .slice C rc.length c, .slice D rd.length d]] w fun e w' => e = .returned (.bool (ssB p x y z ra rb rc rd)) ∧ Ex w w' := by
  have x0 := (Ex.refl w).alloc (.cells #[.int .i64 x, .int .i64 y, .int .i64 z, .slice A ra.length a, .slice B rb.length b, .slice C rc.length c, .slice D rd.length d] 29)
  cases k0 : fieldB p with
  | false =>
    have H := Lib.hid (show ssB p x y z ra rb rc rd = false by simp only [ssB, tabB_eq]; simp [k0])
    have K0 := Lib.hid k0
    clear k0
    go_enter Tryd.func49, Tryd.ntmps49
    go_wp2_with fail
    refine (isField_c p _ (ht.ex x0)).mono ?_
    rintro e w1 ⟨rfl, rfl⟩
    rw [K0.out]
    go_wp2
    go_ret
    exact ⟨by rw [H.out]; rfl, x0⟩
  | true =>
  cases k1 : inB 0 24 x with
  | false =>
    have H := Lib.hid (show ssB p x y z ra rb rc rd = false by simp only [ssB, tabB_eq]; simp [k0, k1])
    have K0 := Lib.hid k0
    have K1 := Lib.hid k1
    have h2 := fieldB_lo k0
    have h97 := fieldB_hi k0
    clear k0 k1
    go_enter Tryd.func49, Tryd.ntmps49
    go_wp2_with fail
    refine (isField_c p _ (ht.ex x0)).mono ?_
    rintro e w1 ⟨rfl, rfl⟩
    rw [K0.out]
    go_wp2_with fail
    refine (within_c x 0 24 _).mono ?_
    rintro e w1 ⟨rfl, rfl⟩
    rw [K1.out]
    go_wp2
    go_ret
    exact ⟨by rw [H.out]; rfl, x0⟩
  | true =>
  cases k2 : inB 0 8 y with
  | false =>
    have H := Lib.hid (show ssB p x y z ra rb rc rd = false by simp only [ssB, tabB_eq]; simp [k0, k1, k2])
    have K0 := Lib.hid k0
    have K1 := Lib.hid k1
    have K2 := Lib.hid k2
    have h2 := fieldB_lo k0
    have h97 := fieldB_hi k0
    clear k0 k1 k2
    go_enter Tryd.func49, Tryd.ntmps49
    go_wp2_with fail
    refine (isField_c p _ (ht.ex x0)).mono ?_
    rintro e w1 ⟨rfl, rfl⟩
    rw [K0.out]
    go_wp2_with fail
    refine (within_c x 0 24 _).mono ?_
    rintro e w1 ⟨rfl, rfl⟩
    rw [K1.out]
    go_wp2_with fail
    refine (within_c y 0 8 _).mono ?_
    rintro e w1 ⟨rfl, rfl⟩
    rw [K2.out]
    go_wp2
    go_ret
    exact ⟨by rw [H.out]; rfl, x0⟩
  | true =>
  cases k3 : inB 0 8 z with
  | false =>
    have H := Lib.hid (show ssB p x y z ra rb rc rd = false by simp only [ssB, tabB_eq]; simp [k0, k1, k2, k3])
    have K0 := Lib.hid k0
    have K1 := Lib.hid k1
    have K2 := Lib.hid k2
    have K3 := Lib.hid k3
    have h2 := fieldB_lo k0
    have h97 := fieldB_hi k0
    clear k0 k1 k2 k3
    go_enter Tryd.func49, Tryd.ntmps49
    go_wp2_with fail
    refine (isField_c p _ (ht.ex x0)).mono ?_
    rintro e w1 ⟨rfl, rfl⟩
    rw [K0.out]
    go_wp2_with fail
    refine (within_c x 0 24 _).mono ?_
    rintro e w1 ⟨rfl, rfl⟩
    rw [K1.out]
    go_wp2_with fail
    refine (within_c y 0 8 _).mono ?_
    rintro e w1 ⟨rfl, rfl⟩
    rw [K2.out]
    go_wp2_with fail
    refine (within_c z 0 8 _).mono ?_
    rintro e w1 ⟨rfl, rfl⟩
    rw [K3.out]
    go_wp2
    go_ret
    exact ⟨by rw [H.out]; rfl, x0⟩
  | true =>
  cases k4 : shapeB x x ra with
  | false =>
    have H := Lib.hid (show ssB p x y z ra rb rc rd = false by simp only [ssB, tabB_eq]; simp [k0, k1, k2, k3, k4])
    have K0 := Lib.hid k0
    have K1 := Lib.hid k1
    have K2 := Lib.hid k2
    have K3 := Lib.hid k3
    have K4 := Lib.hid k4
    have h2 := fieldB_lo k0
    have h97 := fieldB_hi k0
    clear k0 k1 k2 k3 k4
    go_enter Tryd.func49, Tryd.ntmps49
    go_wp2_with fail
    refine (isField_c p _ (ht.ex x0)).mono ?_
    rintro e w1 ⟨rfl, rfl⟩
    rw [K0.out]
    go_wp2_with fail
    refine (within_c x 0 24 _).mono ?_
    rintro e w1 ⟨rfl, rfl⟩
    rw [K1.out]
    go_wp2_with fail
    refine (within_c y 0 8 _).mono ?_
    rintro e w1 ⟨rfl, rfl⟩
    rw [K2.out]
    go_wp2_with fail
    refine (within_c z 0 8 _).mono ?_
    rintro e w1 ⟨rfl, rfl⟩
    rw [K3.out]
    go_wp2_with fail
    refine (hasShape_c x x A a ra _ (ha.ex x0)).mono ?_
    rintro e w1 ⟨rfl, rfl⟩
    rw [K4.out]
    go_wp2
    go_ret
    exact ⟨by rw [H.out]; rfl, x0⟩
  | true =>
  cases k5 : shapeB y x rb with
  | false =>
    have H := Lib.hid (show ssB p x y z ra rb rc rd = false by simp only [ssB, tabB_eq]; simp [k0, k1, k2, k3, k4, k5])
    have K0 := Lib.hid k0
    have K1 := Lib.hid k1
    have K2 := Lib.hid k2
    have K3 := Lib.hid k3
    have K4 := Lib.hid k4
    have K5 := Lib.hid k5
    have h2 := fieldB_lo k0
    have h97 := fieldB_hi k0
    clear k0 k1 k2 k3 k4 k5
    go_enter Tryd.func49, Tryd.ntmps49
    go_wp2_with fail
    refine (isField_c p _ (ht.ex x0)).mono ?_
    rintro e w1 ⟨rfl, rfl⟩
    rw [K0.out]
    go_wp2_with fail
    refine (within_c x 0 24 _).mono ?_
    rintro e w1 ⟨rfl, rfl⟩
    rw [K1.out]
    go_wp2_with fail
    refine (within_c y 0 8 _).mono ?_
    rintro e w1 ⟨rfl, rfl⟩
    rw [K2.out]
    go_wp2_with fail
    refine (within_c z 0 8 _).mono ?_
    rintro e w1 ⟨rfl, rfl⟩
    rw [K3.out]
    go_wp2_with fail
    refine (hasShape_c x x A a ra _ (ha.ex x0)).mono ?_
    rintro e w1 ⟨rfl, rfl⟩
    rw [K4.out]
    go_wp2_with fail
    refine (hasShape_c y x B b rb _ (hb.ex x0)).mono ?_
    rintro e w1 ⟨rfl, rfl⟩
    rw [K5.out]
    go_wp2
    go_ret
    exact ⟨by rw [H.out]; rfl, x0⟩
  | true =>
  cases k6 : shapeB x z rc with
  | false =>
    have H := Lib.hid (show ssB p x y z ra rb rc rd = false by simp only [ssB, tabB_eq]; simp [k0, k1, k2, k3, k4, k5, k6])
    have K0 := Lib.hid k0
    have K1 := Lib.hid k1
    have K2 := Lib.hid k2
    have K3 := Lib.hid k3
    have K4 := Lib.hid k4
    have K5 := Lib.hid k5
    have K6 := Lib.hid k6
    have h2 := fieldB_lo k0
    have h97 := fieldB_hi k0
    clear k0 k1 k2 k3 k4 k5 k6
    go_enter Tryd.func49, Tryd.ntmps49
    go_wp2_with fail
    refine (isField_c p _ (ht.ex x0)).mono ?_
    rintro e w1 ⟨rfl, rfl⟩
    rw [K0.out]
    go_wp2_with fail
    refine (within_c x 0 24 _).mono ?_
    rintro e w1 ⟨rfl, rfl⟩
    rw [K1.out]
    go_wp2_with fail
    refine (within_c y 0 8 _).mono ?_
    rintro e w1 ⟨rfl, rfl⟩
    rw [K2.out]
    go_wp2_with fail
    refine (within_c z 0 8 _).mono ?_
    rintro e w1 ⟨rfl, rfl⟩
    rw [K3.out]
    go_wp2_with fail
    refine (hasShape_c x x A a ra _ (ha.ex x0)).mono ?_
    rintro e w1 ⟨rfl, rfl⟩
    rw [K4.out]
    go_wp2_with fail
    refine (hasShape_c y x B b rb _ (hb.ex x0)).mono ?_
    rintro e w1 ⟨rfl, rfl⟩
    rw [K5.out]
    go_wp2_with fail
    refine (hasShape_c x z C c rc _ (hc.ex x0)).mono ?_
    rintro e w1 ⟨rfl, rfl⟩
    rw [K6.out]
    go_wp2
    go_ret
    exact ⟨by rw [H.out]; rfl, x0⟩
  | true =>
  cases k7 : shapeB y z rd with
  | false =>
    have H := Lib.hid (show ssB p x y z ra rb rc rd = false by simp only [ssB, tabB_eq]; simp [k0, k1, k2, k3, k4, k5, k6, k7])
    have K0 := Lib.hid k0
    have K1 := Lib.hid k1
    have K2 := Lib.hid k2
    have K3 := Lib.hid k3
    have K4 := Lib.hid k4
    have K5 := Lib.hid k5
    have K6 := Lib.hid k6
    have K7 := Lib.hid k7
    have h2 := fieldB_lo k0
    have h97 := fieldB_hi k0
    clear k0 k1 k2 k3 k4 k5 k6 k7
    go_enter Tryd.func49, Tryd.ntmps49
    go_wp2_with fail
    refine (isField_c p _ (ht.ex x0)).mono ?_
    rintro e w1 ⟨rfl, rfl⟩
    rw [K0.out]
    go_wp2_with fail
    refine (within_c x 0 24 _).mono ?_
    rintro e w1 ⟨rfl, rfl⟩
    rw [K1.out]
    go_wp2_with fail
    refine (within_c y 0 8 _).mono ?_
    rintro e w1 ⟨rfl, rfl⟩
    rw [K2.out]
    go_wp2_with fail
    refine (within_c z 0 8 _).mono ?_
    rintro e w1 ⟨rfl, rfl⟩
    rw [K3.out]
    go_wp2_with fail
    refine (hasShape_c x x A a ra _ (ha.ex x0)).mono ?_
    rintro e w1 ⟨rfl, rfl⟩
    rw [K4.out]
    go_wp2_with fail
    refine (hasShape_c y x B b rb _ (hb.ex x0)).mono ?_
    rintro e w1 ⟨rfl, rfl⟩
    rw [K5.out]
    go_wp2_with fail
    refine (hasShape_c x z C c rc _ (hc.ex x0)).mono ?_
    rintro e w1 ⟨rfl, rfl⟩
    rw [K6.out]
    go_wp2_with fail
    refine (hasShape_c y z D d rd _ (hd.ex x0)).mono ?_
    rintro e w1 ⟨rfl, rfl⟩
    rw [K7.out]
    go_wp2
    go_ret
    exact ⟨by rw [H.out]; rfl, x0⟩
  | true =>
  cases k8 : rowsB p x ra with
  | false =>
    have H := Lib.hid (show ssB p x y z ra rb rc rd = false by simp only [ssB, tabB_eq]; simp [k0, k1, k2, k3, k4, k5, k6, k7, k8])
    have K0 := Lib.hid k0
    have K1 := Lib.hid k1
    have K2 := Lib.hid k2
    have K3 := Lib.hid k3
    have K4 := Lib.hid k4
    have K5 := Lib.hid k5
    have K6 := Lib.hid k6
    have K7 := Lib.hid k7
    have K8 := Lib.hid k8
    have h2 := fieldB_lo k0
    have h97 := fieldB_hi k0
    clear k0 k1 k2 k3 k4 k5 k6 k7 k8
    go_enter Tryd.func49, Tryd.ntmps49
    go_wp2_with fail
    refine (isField_c p _ (ht.ex x0)).mono ?_
    rintro e w1 ⟨rfl, rfl⟩
    rw [K0.out]
    go_wp2_with fail
    refine (within_c x 0 24 _).mono ?_
    rintro e w1 ⟨rfl, rfl⟩
    rw [K1.out]
    go_wp2_with fail
    refine (within_c y 0 8 _).mono ?_
    rintro e w1 ⟨rfl, rfl⟩
    rw [K2.out]
    go_wp2_with fail
    refine (within_c z 0 8 _).mono ?_
    rintro e w1 ⟨rfl, rfl⟩
    rw [K3.out]
    go_wp2_with fail
    refine (hasShape_c x x A a ra _ (ha.ex x0)).mono ?_
    rintro e w1 ⟨rfl, rfl⟩
    rw [K4.out]
    go_wp2_with fail
    refine (hasShape_c y x B b rb _ (hb.ex x0)).mono ?_
    rintro e w1 ⟨rfl, rfl⟩
    rw [K5.out]
    go_wp2_with fail
    refine (hasShape_c x z C c rc _ (hc.ex x0)).mono ?_
    rintro e w1 ⟨rfl, rfl⟩
    rw [K6.out]
    go_wp2_with fail
    refine (hasShape_c y z D d rd _ (hd.ex x0)).mono ?_
    rintro e w1 ⟨rfl, rfl⟩
    rw [K7.out]
    go_wp2_with fail
    refine (areVectors_c p x A a ra _ (ha.ex x0)).mono ?_
    rintro e w1 ⟨rfl, rfl⟩
    rw [K8.out]
    go_wp2
    go_ret
    exact ⟨by rw [H.out]; rfl, x0⟩
  | true =>
  cases k9 : rowsB p x rb with
  | false =>
    have H := Lib.hid (show ssB p x y z ra rb rc rd = false by simp only [ssB, tabB_eq]; simp [k0, k1, k2, k3, k4, k5, k6, k7, k8, k9])
    have K0 := Lib.hid k0
    have K1 := Lib.hid k1
    have K2 := Lib.hid k2
    have K3 := Lib.hid k3
    have K4 := Lib.hid k4
    have K5 := Lib.hid k5
    have K6 := Lib.hid k6
    have K7 := Lib.hid k7
    have K8 := Lib.hid k8
    have K9 := Lib.hid k9
    have h2 := fieldB_lo k0
    have h97 := fieldB_hi k0
    clear k0 k1 k2 k3 k4 k5 k6 k7 k8 k9
    go_enter Tryd.func49, Tryd.ntmps49
    go_wp2_with fail
    refine (isField_c p _ (ht.ex x0)).mono ?_
    rintro e w1 ⟨rfl, rfl⟩
    rw [K0.out]
    go_wp2_with fail
    refine (within_c x 0 24 _).mono ?_
    rintro e w1 ⟨rfl, rfl⟩
    rw [K1.out]
    go_wp2_with fail
    refine (within_c y 0 8 _).mono ?_
    rintro e w1 ⟨rfl, rfl⟩
    rw [K2.out]
    go_wp2_with fail
    refine (within_c z 0 8 _).mono ?_
    rintro e w1 ⟨rfl, rfl⟩
    rw [K3.out]
    go_wp2_with fail
    refine (hasShape_c x x A a ra _ (ha.ex x0)).mono ?_
    rintro e w1 ⟨rfl, rfl⟩
    rw [K4.out]
    go_wp2_with fail
    refine (hasShape_c y x B b rb _ (hb.ex x0)).mono ?_
    rintro e w1 ⟨rfl, rfl⟩
    rw [K5.out]
    go_wp2_with fail
    refine (hasShape_c x z C c rc _ (hc.ex x0)).mono ?_
    rintro e w1 ⟨rfl, rfl⟩
    rw [K6.out]
    go_wp2_with fail
    refine (hasShape_c y z D d rd _ (hd.ex x0)).mono ?_
    rintro e w1 ⟨rfl, rfl⟩
    rw [K7.out]
    go_wp2_with fail
    refine (areVectors_c p x A a ra _ (ha.ex x0)).mono ?_
    rintro e w1 ⟨rfl, rfl⟩
    rw [K8.out]
    go_wp2_with fail
    refine (areVectors_c p x B b rb _ (hb.ex x0)).mono ?_
    rintro e w1 ⟨rfl, rfl⟩
    rw [K9.out]
    go_wp2
    go_ret
    exact ⟨by rw [H.out]; rfl, x0⟩
  | true =>
  cases k10 : rowsB p z rc with
  | false =>
    have H := Lib.hid (show ssB p x y z ra rb rc rd = false by simp only [ssB, tabB_eq]; simp [k0, k1, k2, k3, k4, k5, k6, k7, k8, k9, k10])
    have K0 := Lib.hid k0
    have K1 := Lib.hid k1
    have K2 := Lib.hid k2
    have K3 := Lib.hid k3
    have K4 := Lib.hid k4
    have K5 := Lib.hid k5
    have K6 := Lib.hid k6
    have K7 := Lib.hid k7
    have K8 := Lib.hid k8
    have K9 := Lib.hid k9
    have K10 := Lib.hid k10
    have h2 := fieldB_lo k0
    have h97 := fieldB_hi k0
    clear k0 k1 k2 k3 k4 k5 k6 k7 k8 k9 k10
    go_enter Tryd.func49, Tryd.ntmps49
    go_wp2_with fail
    refine (isField_c p _ (ht.ex x0)).mono ?_
    rintro e w1 ⟨rfl, rfl⟩
    rw [K0.out]
    go_wp2_with fail
    refine (within_c x 0 24 _).mono ?_
    rintro e w1 ⟨rfl, rfl⟩
    rw [K1.out]
    go_wp2_with fail
    refine (within_c y 0 8 _).mono ?_
    rintro e w1 ⟨rfl, rfl⟩
    rw [K2.out]
    go_wp2_with fail
    refine (within_c z 0 8 _).mono ?_
    rintro e w1 ⟨rfl, rfl⟩
    rw [K3.out]
    go_wp2_with fail
    refine (hasShape_c x x A a ra _ (ha.ex x0)).mono ?_
    rintro e w1 ⟨rfl, rfl⟩
    rw [K4.out]
    go_wp2_with fail
    refine (hasShape_c y x B b rb _ (hb.ex x0)).mono ?_
    rintro e w1 ⟨rfl, rfl⟩
    rw [K5.out]
    go_wp2_with fail
    refine (hasShape_c x z C c rc _ (hc.ex x0)).mono ?_
    rintro e w1 ⟨rfl, rfl⟩
    rw [K6.out]
    go_wp2_with fail
    refine (hasShape_c y z D d rd _ (hd.ex x0)).mono ?_
    rintro e w1 ⟨rfl, rfl⟩
    rw [K7.out]
    go_wp2_with fail
    refine (areVectors_c p x A a ra _ (ha.ex x0)).mono ?_
    rintro e w1 ⟨rfl, rfl⟩
    rw [K8.out]
    go_wp2_with fail
    refine (areVectors_c p x B b rb _ (hb.ex x0)).mono ?_
    rintro e w1 ⟨rfl, rfl⟩
    rw [K9.out]
    go_wp2_with fail
    refine (areVectors_c p z C c rc _ (hc.ex x0)).mono ?_
    rintro e w1 ⟨rfl, rfl⟩
    rw [K10.out]
    go_wp2
    go_ret
    exact ⟨by rw [H.out]; rfl, x0⟩
  | true =>
  cases k11 : rowsB p z rd with
  | false =>
    have H := Lib.hid (show ssB p x y z ra rb rc rd = false by simp only [ssB, tabB_eq]; simp [k0, k1, k2, k3, k4, k5, k6, k7, k8, k9, k10, k11])
    have K0 := Lib.hid k0
    have K1 := Lib.hid k1
    have K2 := Lib.hid k2
    have K3 := Lib.hid k3
    have K4 := Lib.hid k4
    have K5 := Lib.hid k5
    have K6 := Lib.hid k6
    have K7 := Lib.hid k7
    have K8 := Lib.hid k8
    have K9 := Lib.hid k9
    have K10 := Lib.hid k10
    have K11 := Lib.hid k11
    have h2 := fieldB_lo k0
    have h97 := fieldB_hi k0
    clear k0 k1 k2 k3 k4 k5 k6 k7 k8 k9 k10 k11
    go_enter Tryd.func49, Tryd.ntmps49
    go_wp2_with fail
    refine (isField_c p _ (ht.ex x0)).mono ?_
    rintro e w1 ⟨rfl, rfl⟩
    rw [K0.out]
    go_wp2_with fail
    refine (within_c x 0 24 _).mono ?_
    rintro e w1 ⟨rfl, rfl⟩
    rw [K1.out]
    go_wp2_with fail
    refine (within_c y 0 8 _).mono ?_
    rintro e w1 ⟨rfl, rfl⟩
    rw [K2.out]
    go_wp2_with fail
    refine (within_c z 0 8 _).mono ?_
    rintro e w1 ⟨rfl, rfl⟩
    rw [K3.out]
    go_wp2_with fail
    refine (hasShape_c x x A a ra _ (ha.ex x0)).mono ?_
    rintro e w1 ⟨rfl, rfl⟩
    rw [K4.out]
    go_wp2_with fail
    refine (hasShape_c y x B b rb _ (hb.ex x0)).mono ?_
    rintro e w1 ⟨rfl, rfl⟩
    rw [K5.out]
    go_wp2_with fail
    refine (hasShape_c x z C c rc _ (hc.ex x0)).mono ?_
    rintro e w1 ⟨rfl, rfl⟩
    rw [K6.out]
    go_wp2_with fail
    refine (hasShape_c y z D d rd _ (hd.ex x0)).mono ?_
    rintro e w1 ⟨rfl, rfl⟩
    rw [K7.out]
    go_wp2_with fail
    refine (areVectors_c p x A a ra _ (ha.ex x0)).mono ?_
    rintro e w1 ⟨rfl, rfl⟩
    rw [K8.out]
    go_wp2_with fail
    refine (areVectors_c p x B b rb _ (hb.ex x0)).mono ?_
    rintro e w1 ⟨rfl, rfl⟩
    rw [K9.out]
    go_wp2_with fail
    refine (areVectors_c p z C c rc _ (hc.ex x0)).mono ?_
    rintro e w1 ⟨rfl, rfl⟩
    rw [K10.out]
    go_wp2_with fail
    refine (areVectors_c p z D d rd _ (hd.ex x0)).mono ?_
    rintro e w1 ⟨rfl, rfl⟩
    rw [K11.out]
    go_wp2
    go_ret
    exact ⟨by rw [H.out]; rfl, x0⟩
  | true =>
    have H := Lib.hid (show ssB p x y z ra rb rc rd = true by simp only [ssB, tabB_eq]; simp [k0, k1, k2, k3, k4, k5, k6, k7, k8, k9, k10, k11])
    have K0 := Lib.hid k0
    have K1 := Lib.hid k1
    have K2 := Lib.hid k2
    have K3 := Lib.hid k3
    have K4 := Lib.hid k4
    have K5 := Lib.hid k5
    have K6 := Lib.hid k6
    have K7 := Lib.hid k7
    have K8 := Lib.hid k8
    have K9 := Lib.hid k9
    have K10 := Lib.hid k10
    have K11 := Lib.hid k11
    have h2 := fieldB_lo k0
    have h97 := fieldB_hi k0
    clear k0 k1 k2 k3 k4 k5 k6 k7 k8 k9 k10 k11
    go_enter Tryd.func49, Tryd.ntmps49
    go_wp2_with fail
    refine (isField_c p _ (ht.ex x0)).mono ?_
    rintro e w1 ⟨rfl, rfl⟩
    rw [K0.out]
    go_wp2_with fail
    refine (within_c x 0 24 _).mono ?_
    rintro e w1 ⟨rfl, rfl⟩
    rw [K1.out]
    go_wp2_with fail
    refine (within_c y 0 8 _).mono ?_
    rintro e w1 ⟨rfl, rfl⟩
    rw [K2.out]
    go_wp2_with fail
    refine (within_c z 0 8 _).mono ?_
    rintro e w1 ⟨rfl, rfl⟩
    rw [K3.out]
    go_wp2_with fail
    refine (hasShape_c x x A a ra _ (ha.ex x0)).mono ?_
    rintro e w1 ⟨rfl, rfl⟩
    rw [K4.out]
    go_wp2_with fail
    refine (hasShape_c y x B b rb _ (hb.ex x0)).mono ?_
    rintro e w1 ⟨rfl, rfl⟩
    rw [K5.out]
    go_wp2_with fail
    refine (hasShape_c x z C c rc _ (hc.ex x0)).mono ?_
    rintro e w1 ⟨rfl, rfl⟩
    rw [K6.out]
    go_wp2_with fail
    refine (hasShape_c y z D d rd _ (hd.ex x0)).mono ?_
    rintro e w1 ⟨rfl, rfl⟩
    rw [K7.out]
    go_wp2_with fail
    refine (areVectors_c p x A a ra _ (ha.ex x0)).mono ?_
    rintro e w1 ⟨rfl, rfl⟩
    rw [K8.out]
    go_wp2_with fail
    refine (areVectors_c p x B b rb _ (hb.ex x0)).mono ?_
    rintro e w1 ⟨rfl, rfl⟩
    rw [K9.out]
    go_wp2_with fail
    refine (areVectors_c p z C c rc _ (hc.ex x0)).mono ?_
    rintro e w1 ⟨rfl, rfl⟩
    rw [K10.out]
    go_wp2_with fail
    refine (areVectors_c p z D d rd _ (hd.ex x0)).mono ?_
    rintro e w1 ⟨rfl, rfl⟩
    rw [K11.out]
    go_wp2
    go_ret
    exact ⟨by rw [H.out]; rfl, x0⟩
end Go.Proofs.YtkpfmnconnopnaaDoor
