/- Contracts: multiples, greatest common divisors, valid polynomials, on both sides. -/
import Derived.Test.YtfggacnkediolaaDoorPoly2
namespace Go.Proofs.YtfggacnkediolaaDoor
set_option maxRecDepth 100000
open Go Go.RowKit
theorem ne_of_tr_test {x : Int} : (x != 0) = decide (x ≠ 0) := by by_cases h : x = 0 <;> simp [h]
set_option maxHeartbeats 1000000 in
theorem isPoly_c (p : Int) (A : Option Addr) (c : Nat) (f : List Int) (w : World) (hf : Rd w A f) (ht : Tb w) :
    Calls Tryd.prog 15 #[.int .i64 p, .slice A f.length c] w fun e w' => e = .returned (.bool (polyB p f)) ∧ w = w' := by
  have hl := hf.len
  cases hF : fieldB p with
  | false =>
    have H := Lib.hid (show polyB p f = false by simp [polyB, hF])
    go_enter Tryd.func15, Tryd.ntmps15
    go_wp2_with (go_at_call 24; refine (isField_c _ _ ht).mono ?_; rintro e w' ⟨rfl, rfl⟩)
    go_ret
    exact ⟨by rw [H.out]; rfl, rfl⟩
  | true =>
  by_cases h41 : f.length ≤ 41
  case neg =>
    have H := Lib.hid (show polyB p f = false by simp [polyB, h41])
    go_enter Tryd.func15, Tryd.ntmps15
    go_wp2_with (go_at_call 24; refine (isField_c _ _ ht).mono ?_; rintro e w' ⟨rfl, rfl⟩)
    go_ret
    exact ⟨by rw [H.out]; rfl, rfl⟩
  cases hE : allEl p f with
  | false =>
    have H := Lib.hid (show polyB p f = false by simp [polyB, hE])
    go_enter Tryd.func15, Tryd.ntmps15
    go_wp2_with (first | (go_at_call 24; refine (isField_c _ _ ht).mono ?_; rintro e w' ⟨rfl, rfl⟩) | (go_at_call 25; refine (isVector_c _ _ _ _ _ _ hf).mono ?_; rintro e w' ⟨rfl, rfl⟩))
    go_ret
    exact ⟨by rw [H.out]; rfl, rfl⟩
  | true =>
  by_cases h0 : f = []
  · subst h0
    have H := Lib.hid (show polyB p [] = true by simp [polyB, hF, hE])
    go_enter Tryd.func15, Tryd.ntmps15
    go_wp2_with (first | (go_at_call 24; refine (isField_c _ _ ht).mono ?_; rintro e w' ⟨rfl, rfl⟩) | (go_at_call 25; refine (isVector_c _ _ _ [] _ _ hf).mono ?_; rintro e w' ⟨rfl, rfl⟩))
    go_ret
    exact ⟨by rw [H.out]; rfl, rfl⟩
  · have hfl := List.length_pos_iff.2 h0
    have hb0 : ((f.length : Int) == 0) = false := by simp; omega
    obtain ⟨gl, hgl⟩ : ∃ gl : Nat, f.length = gl + 1 := ⟨f.length - 1, by omega⟩
    obtain ⟨gA, goff, x, rfl, hx, hgA, hcell⟩ := hf.at_ (by omega : gl < f.length)
    have hcx : cf f (f.length - 1) = x := by rw [hgl]; exact cf_of hx
    have H := Lib.hid (show polyB p f = (x != 0) by simp only [polyB, hF, hE, h41, hcx, ne_of_tr_test]; simp; intro h; exact absurd h h0)
    have hgi : (f.length : Int) - 1 = (gl : Int) := by omega
    have hgl2 : gl < f.length := by omega
    clear hgl hx hcx h0
    go_enter Tryd.func15, Tryd.ntmps15
    go_wp2_with (first | (go_at_call 24; refine (isField_c _ _ ht).mono ?_; rintro e w' ⟨rfl, rfl⟩) | (go_at_call 25; refine (isVector_c _ _ _ _ _ _ hf).mono ?_; rintro e w' ⟨rfl, rfl⟩))
    go_ret
    exact ⟨by rw [H.out]; rfl, rfl⟩
end Go.Proofs.YtfggacnkediolaaDoor
