/- Contracts: PolyPowerModulo, on both sides. -/
import Derived.Test.YtjkomgoncmbgiaaDoorIrr
import Derived.Test.YtjkomgoncmbgiaaDoorSeries
namespace Go.Proofs.YtjkomgoncmbgiaaDoor
open Go Go.RowKit
theorem within_c (n lo hi : Int) (w : World) : Calls Tryd.prog 45 #[.int .i64 n, .int .i64 lo, .int .i64 hi] w fun e w' => e = .returned (.bool (inB lo hi n)) ∧ w = w' := by
  go_enter Tryd.func45, Tryd.ntmps45
  go_wp2
  all_goals go_ret
  all_goals exact ⟨ret_bool (by simp [inB]; try omega), rfl⟩
/-- What PolyPowerModulo answers. -/
def ppmR (p : Int) (f : List Int) (n : Int) (m : List Int) : List Int × Bool := if polyB p f = true ∧ polyB p m = true ∧ inB 0 1000000 n = true ∧ 2 ≤ m.length then (powM p f n.toNat m, true) else ([], false)
theorem OK.of_poly {p : Int} {f : List Int} (h : polyB p f = true) : OK p 1048576 f := by
  obtain ⟨_, h1, h2, h3⟩ := polyB_parts h
  exact ⟨h2, h3, by omega⟩
set_option maxHeartbeats 1000000 in
theorem spPolyPowerModulo_c (p : Int) (A B : Option Addr) (c d : Nat) (n : Int) (f m : List Int) (w : World) (hf : Rd w A f) (hm : Rd w B m) :
    Calls Tryd.prog 20 #[.int .i64 p, .slice A f.length c, .int .i64 n, .slice B m.length d] w fun e w' => LB w (ppmR p f n m) e w' := by
  have hl := hm.len
  by_cases hall : polyB p f = true ∧ polyB p m = true ∧ inB 0 1000000 n = true ∧ 2 ≤ m.length
  · have H := Lib.hid (show ppmR p f n m = (powM p f n.toNat m, true) by rw [ppmR, if_pos hall])
    obtain ⟨h1, h2, h3, h4⟩ := hall
    have hb : 0 ≤ n ∧ n ≤ 1000000 := by simpa [inB] using h3
    have H1 := Lib.hid h1
    have H2 := Lib.hid h2
    go_enter Tryd.func20, Tryd.ntmps20
    go_wp2_with fail
    refine (poGood_c _ _ _ _ _ hf).mono ?_
    rintro e w1 ⟨rfl, rfl⟩
    rw [h1]
    go_wp2_with fail
    refine (poGood_c _ _ _ _ _ hm).mono ?_
    rintro e w1 ⟨rfl, rfl⟩
    rw [h2]
    go_wp2_with fail
    refine (l1In_c _ _ _ _).mono ?_
    rintro e w1 ⟨rfl, rfl⟩
    rw [h3]
    go_wp2_with fail
    refine (poPower_i p A B c d n f m _ hf hm (polyB_parts H1.out).1 (OK.of_poly H1.out) (OK.of_poly H2.out) h4 hb.1 hb.2).mono ?_
    rintro e w1 ⟨A1, c1, rfl, r1, x1⟩
    go_wp2
    go_ret2
    rw [H.out]
    exact LB.mk_ rfl rfl rfl r1 x1
  · have H := Lib.hid (show ppmR p f n m = ([], false) by rw [ppmR, if_neg hall])
    cases h1 : polyB p f with
    | false =>
      go_enter Tryd.func20, Tryd.ntmps20
      go_wp2_with fail
      refine (poGood_c _ _ _ _ _ hf).mono ?_
      rintro e w1 ⟨rfl, rfl⟩
      rw [h1]
      go_wp2
      go_ret2
      exact LB.nil_ rfl H.out (Ex.refl _)
    | true =>
    cases h2 : polyB p m with
    | false =>
      go_enter Tryd.func20, Tryd.ntmps20
      go_wp2_with fail
      refine (poGood_c _ _ _ _ _ hf).mono ?_
      rintro e w1 ⟨rfl, rfl⟩
      rw [h1]
      go_wp2_with fail
      refine (poGood_c _ _ _ _ _ hm).mono ?_
      rintro e w1 ⟨rfl, rfl⟩
      rw [h2]
      go_wp2
      go_ret2
      exact LB.nil_ rfl H.out (Ex.refl _)
    | true =>
    cases h3 : inB 0 1000000 n with
    | false =>
      go_enter Tryd.func20, Tryd.ntmps20
      go_wp2_with fail
      refine (poGood_c _ _ _ _ _ hf).mono ?_
      rintro e w1 ⟨rfl, rfl⟩
      rw [h1]
      go_wp2_with fail
      refine (poGood_c _ _ _ _ _ hm).mono ?_
      rintro e w1 ⟨rfl, rfl⟩
      rw [h2]
      go_wp2_with fail
      refine (l1In_c _ _ _ _).mono ?_
      rintro e w1 ⟨rfl, rfl⟩
      rw [h3]
      go_wp2
      go_ret2
      exact LB.nil_ rfl H.out (Ex.refl _)
    | true =>
      have h4 : ¬ 2 ≤ m.length := fun h4 => hall ⟨h1, h2, h3, h4⟩
      clear hall
      go_enter Tryd.func20, Tryd.ntmps20
      go_wp2_with fail
      refine (poGood_c _ _ _ _ _ hf).mono ?_
      rintro e w1 ⟨rfl, rfl⟩
      rw [h1]
      go_wp2_with fail
      refine (poGood_c _ _ _ _ _ hm).mono ?_
      rintro e w1 ⟨rfl, rfl⟩
      rw [h2]
      go_wp2_with fail
      refine (l1In_c _ _ _ _).mono ?_
      rintro e w1 ⟨rfl, rfl⟩
      rw [h3]
      go_wp2
      go_ret2
      exact LB.nil_ rfl H.out (Ex.refl _)
theorem polyB_two (p : Int) (f h : List Int) : ([f, h].all (polyB p) && fieldB p) = (polyB p f && polyB p h) := by
  simp only [List.all_cons, List.all_nil, Bool.and_true]
  cases h1 : polyB p f
  · rfl
  · rw [(polyB_parts h1).1, Bool.and_true]
theorem arePolys2_d (p : Int) (g : Nat) (A B : Option Addr) (c d : Nat) (f h : List Int) (w : World) (h0 : w.cell? ⟨g, 0, none⟩ = some (.slice A f.length c)) (h1 : w.cell? ⟨g, 1, none⟩ = some (.slice B h.length d)) (r1 : Rd w A f) (r2 : Rd w B h) (ht : Tb w) :
    Calls Tryd.prog 43 #[.int .i64 p, .slice (some ⟨g, 0, none⟩) 2 2] w fun e w' => e = .returned (.bool (polyB p f && polyB p h)) ∧ w = w' := by
  have := arePolys_c p (some ⟨g, 0, none⟩) 2 [.slice A f.length c, .slice B h.length d] [f, h] w ⟨by simp, fun j v hj => by
      match j with
      | 0 => injection hj with hj; subst hj; exact ⟨g, 0, rfl, h0⟩
      | 1 => injection hj with hj; subst hj; exact ⟨g, 0, rfl, h1⟩
      | j + 2 => cases hj⟩ (fun j v hj => by
      match j with
      | 0 => injection hj with hj; subst hj; exact ⟨f, rfl, A, c, rfl, r1⟩
      | 1 => injection hj with hj; subst hj; exact ⟨h, rfl, B, d, rfl, r2⟩
      | j + 2 => cases hj) rfl ht
  rw [polyB_two] at this
  exact this
set_option maxHeartbeats 1000000 in
theorem PolyPowerModulo_c (p : Int) (A B : Option Addr) (c d : Nat) (n : Int) (f m : List Int) (w : World) (hf : Rd w A f) (hm : Rd w B m) (ht : Tb w) :
    Calls Tryd.prog 21 #[.int .i64 p, .slice A f.length c, .int .i64 n, .slice B m.length d] w fun e w' => LB w (ppmR p f n m) e w' := by
  have hl := hm.len
  have x0 := (Ex.refl w).alloc (.cells #[.slice A f.length c, .slice B m.length d] 22)
  have v0 := VB.new w 22 #[.slice A f.length c, .slice B m.length d]
  have s0 : w.heap.size ≤ (w.alloc (.cells #[.slice A f.length c, .slice B m.length d] 22)).heap.size := x0.size
  cases h12 : (polyB p f && polyB p m) with
  | false =>
    have H := Lib.hid (show ppmR p f n m = ([], false) by rw [ppmR, if_neg (by intro h; rw [h.1, h.2.1] at h12; cases h12)])
    go_enter Tryd.func21, Tryd.ntmps21
    go_wp2_with fail
    refine (arePolys2_d p _ A B c d f m _ (v0.cell 0 rfl) (v0.cell 1 rfl) (hf.ex x0) (hm.ex x0) (ht.ex x0)).mono ?_
    rintro e w1 ⟨rfl, rfl⟩
    rw [h12]
    go_wp2
    go_ret2
    exact LB.nil_ rfl H.out x0
  | true =>
  by_cases h4 : 2 ≤ m.length
  case neg =>
    have H := Lib.hid (show ppmR p f n m = ([], false) by rw [ppmR, if_neg (by intro h; exact h4 h.2.2.2)])
    go_enter Tryd.func21, Tryd.ntmps21
    go_wp2_with fail
    refine (arePolys2_d p _ A B c d f m _ (v0.cell 0 rfl) (v0.cell 1 rfl) (hf.ex x0) (hm.ex x0) (ht.ex x0)).mono ?_
    rintro e w1 ⟨rfl, rfl⟩
    rw [h12]
    go_wp2_with (go_at_call 44; refine (degree_c _ _ _ _ (by omega)).mono ?_; rintro e w' ⟨rfl, rfl⟩)
    go_ret2
    exact LB.nil_ rfl H.out x0
  cases h3 : inB 0 1000000 n with
  | false =>
    have H := Lib.hid (show ppmR p f n m = ([], false) by rw [ppmR, if_neg (by intro h; rw [h.2.2.1] at h3; cases h3)])
    go_enter Tryd.func21, Tryd.ntmps21
    go_wp2_with fail
    refine (arePolys2_d p _ A B c d f m _ (v0.cell 0 rfl) (v0.cell 1 rfl) (hf.ex x0) (hm.ex x0) (ht.ex x0)).mono ?_
    rintro e w1 ⟨rfl, rfl⟩
    rw [h12]
    go_wp2_with (go_at_call 44; refine (degree_c _ _ _ _ (by omega)).mono ?_; rintro e w' ⟨rfl, rfl⟩)
    refine (within_c _ _ _ _).mono ?_
    rintro e w1 ⟨rfl, rfl⟩
    rw [h3]
    go_wp2
    go_ret2
    exact LB.nil_ rfl H.out x0
  | true =>
    have h1 : polyB p f = true := by cases h : polyB p f <;> simp_all
    have h2 : polyB p m = true := by cases h : polyB p m <;> simp_all
    have hb : 0 ≤ n ∧ n ≤ 1000000 := by simpa [inB] using h3
    have H := Lib.hid (show ppmR p f n m = (powM p f n.toNat m, true) by rw [ppmR, if_pos ⟨h1, h2, h3, h4⟩])
    have H1 := Lib.hid h1
    have H2 := Lib.hid h2
    clear h1 h2
    go_enter Tryd.func21, Tryd.ntmps21
    go_wp2_with fail
    refine (arePolys2_d p _ A B c d f m _ (v0.cell 0 rfl) (v0.cell 1 rfl) (hf.ex x0) (hm.ex x0) (ht.ex x0)).mono ?_
    rintro e w1 ⟨rfl, rfl⟩
    rw [h12]
    go_wp2_with (go_at_call 44; refine (degree_c _ _ _ _ (by omega)).mono ?_; rintro e w' ⟨rfl, rfl⟩)
    refine (within_c _ _ _ _).mono ?_
    rintro e w1 ⟨rfl, rfl⟩
    rw [h3]
    go_wp2_with fail
    refine (powerModulo_i p A B c d n f m _ (hf.ex x0) (hm.ex x0) (polyB_parts H1.out).1 (OK.of_poly H1.out) (OK.of_poly H2.out) h4 hb.1 hb.2).mono ?_
    rintro e w1 ⟨A1, c1, rfl, r1, x1⟩
    go_wp2
    go_ret2
    rw [H.out]
    exact LB.mk_ rfl rfl rfl (r1.more s0) (x0.trans x1)
end Go.Proofs.YtjkomgoncmbgiaaDoor
