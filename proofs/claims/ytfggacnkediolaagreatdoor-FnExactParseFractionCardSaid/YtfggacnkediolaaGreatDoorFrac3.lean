/- Contracts: the reference's valid fractions; the laws' helpers on fractions. -/
import Derived.Test.YtfggacnkediolaaGreatDoorFrac2
namespace Go.Proofs.YtfggacnkediolaaGreatDoor
set_option maxRecDepth 100000
open Go Go.RowKit
set_option maxHeartbeats 400000 in
theorem frSize_c (A : Option Addr) (c n : Nat) (w : World) (hn : n ≤ 1099511627776) : Calls Tryz.prog 23 #[.slice A n c] w fun e w' => e = .returned (.bool (decide (n ≤ 21))) ∧ w = w' := by
  go_enter Tryz.func23, Tryz.ntmps23
  go_wp2
  go_ret
  exact ⟨ret_bool (by simp; omega), rfl⟩
set_option maxHeartbeats 2000000 in
theorem frGood_c (p : Int) (A B : Option Addr) (c d : Nat) (num den : List Int) (w : World) (hn : Rd w A num) (hd : Rd w B den) :
    Calls Tryz.prog 10 #[.int .i64 p, .agg #[.slice A num.length c, .slice B den.length d]] w fun e w' => e = .returned (.bool (fracB p num den)) ∧ Ex w w' := by
  have hl1 := hn.len
  have hl2 := hd.len
  have x0 : ∀ (a : Obj), Ex w (w.alloc a) := fun a => (Ex.refl w).alloc a
  cases h1 : polyB p num with
  | false =>
    have H := Lib.hid (show fracB p num den = false by simp [fracB, h1])
    go_enter Tryz.func10, Tryz.ntmps10
    go_wp2_with (go_at_call 22; refine (poGood_c _ _ _ _ _ (hn.ex (x0 _))).mono ?_; rintro e w' ⟨rfl, rfl⟩)
    go_ret
    exact ⟨by rw [H.out]; rfl, x0 _⟩
  | true =>
  cases h2 : polyB p den with
  | false =>
    have H := Lib.hid (show fracB p num den = false by simp [fracB, h2])
    go_enter Tryz.func10, Tryz.ntmps10
    go_wp2_with fail
    refine (poGood_c _ _ _ _ _ (hn.ex (x0 _))).mono ?_
    rintro e w' ⟨rfl, rfl⟩
    go_wp2_with fail
    refine (poGood_c _ _ _ _ _ (hd.ex (x0 _))).mono ?_
    rintro e w' ⟨rfl, rfl⟩
    go_wp2
    go_ret
    exact ⟨by rw [H.out]; rfl, x0 _⟩
  | true =>
  by_cases h3 : num.length ≤ 21
  case neg =>
    have H := Lib.hid (show fracB p num den = false by simp [fracB, h3])
    have h3' : decide (num.length ≤ 21) = false := by simpa using h3
    go_enter Tryz.func10, Tryz.ntmps10
    go_wp2_with fail
    refine (poGood_c _ _ _ _ _ (hn.ex (x0 _))).mono ?_
    rintro e w' ⟨rfl, rfl⟩
    go_wp2_with fail
    refine (poGood_c _ _ _ _ _ (hd.ex (x0 _))).mono ?_
    rintro e w' ⟨rfl, rfl⟩
    go_wp2_with (go_at_call 23; refine (frSize_c _ _ _ _ (by omega)).mono ?_; rintro e w' ⟨rfl, rfl⟩)
    go_ret
    exact ⟨by rw [H.out]; rfl, x0 _⟩
  by_cases h4 : den.length ≤ 21
  case neg =>
    have H := Lib.hid (show fracB p num den = false by simp [fracB, h4])
    go_enter Tryz.func10, Tryz.ntmps10
    go_wp2_with fail
    refine (poGood_c _ _ _ _ _ (hn.ex (x0 _))).mono ?_
    rintro e w' ⟨rfl, rfl⟩
    go_wp2_with fail
    refine (poGood_c _ _ _ _ _ (hd.ex (x0 _))).mono ?_
    rintro e w' ⟨rfl, rfl⟩
    go_wp2_with (go_at_call 23; refine (frSize_c _ _ _ _ (by omega)).mono ?_; rintro e w' ⟨rfl, rfl⟩)
    go_ret
    exact ⟨by rw [H.out]; rfl, x0 _⟩
  by_cases h5 : den = []
  · have H := Lib.hid (show fracB p num den = false by simp [fracB, h5])
    subst h5
    go_enter Tryz.func10, Tryz.ntmps10
    go_wp2_with fail
    refine (poGood_c _ _ _ _ _ (hn.ex (x0 _))).mono ?_
    rintro e w' ⟨rfl, rfl⟩
    go_wp2_with fail
    refine (poGood_c _ _ _ [] _ (hd.ex (x0 _))).mono ?_
    rintro e w' ⟨rfl, rfl⟩
    go_wp2_with (go_at_call 23; refine (frSize_c _ _ _ _ (by omega)).mono ?_; rintro e w' ⟨rfl, rfl⟩)
    go_ret
    exact ⟨by rw [H.out]; rfl, x0 _⟩
  have hdl := List.length_pos_iff.2 h5
  have hdb : ((den.length : Int) == 0) = false := by simp; omega
  obtain ⟨gl, hgl⟩ : ∃ gl : Nat, den.length = gl + 1 := ⟨den.length - 1, by omega⟩
  obtain ⟨gA, goff, x, rfl, hx, hgA, hcell⟩ := hd.at_ (by omega : gl < den.length)
  have hcx : cf den (den.length - 1) = x := by rw [hgl]; exact cf_of hx
  have hgi : (den.length : Int) - 1 = (gl : Int) := by omega
  have hgl2 : gl < den.length := by omega
  have hc1 : ∀ o, (w.alloc o).cell? ⟨gA, goff + gl, none⟩ = some (.int .i64 x) := fun o => cell_ex (x0 o) hcell
  by_cases h6 : x = 1
  · subst h6
    obtain ⟨hF, _, hne, tn⟩ := polyB_parts h1
    obtain ⟨_, _, hde, td⟩ := polyB_parts h2
    have H := Lib.hid (show fracB p num den = decide ((gcdM p num den).length = 1) by simp [fracB, h1, h2, h3, h4, h5, hcx])
    have HF := Lib.hid hF
    have Hne := Lib.hid hne
    have Hde := Lib.hid hde
    have H5 := Lib.hid h5
    clear hgl hx hcx hcell hF hne hde h5
    go_enter Tryz.func10, Tryz.ntmps10
    go_wp2_with fail
    refine (poGood_c _ _ _ _ _ (hn.ex (x0 _))).mono ?_
    rintro e w' ⟨rfl, rfl⟩
    go_wp2_with fail
    refine (poGood_c _ _ _ _ _ (hd.ex (x0 _))).mono ?_
    rintro e w' ⟨rfl, rfl⟩
    go_wp2_with (go_at_call 23; refine (frSize_c _ _ _ _ (by omega)).mono ?_; rintro e w' ⟨rfl, rfl⟩)
    refine (poGcd_c p A _ c d num den _ (hn.ex (x0 _)) (hd.ex (x0 _)) HF.out Hne.out Hde.out tn td (.inr H5.out)).mono ?_
    rintro e w1 ⟨A1, c1, rfl, f1, x1⟩
    have xx := (x0 _).trans x1
    clear hc1 x0 h1 h2
    go_wp2_with fail
    go_ret
    exact ⟨by rw [H.out]; exact ret_bool (by rw [Bool.eq_iff_iff]; simp; omega), xx⟩
  · have H := Lib.hid (show fracB p num den = false by simp [fracB, hcx, h6])
    have hxb : (x != 1) = true := by simpa using h6
    clear hgl hx hcx hcell h5 h6
    go_enter Tryz.func10, Tryz.ntmps10
    go_wp2_with fail
    refine (poGood_c _ _ _ _ _ (hn.ex (x0 _))).mono ?_
    rintro e w' ⟨rfl, rfl⟩
    go_wp2_with fail
    refine (poGood_c _ _ _ _ _ (hd.ex (x0 _))).mono ?_
    rintro e w' ⟨rfl, rfl⟩
    go_wp2_with (go_at_call 23; refine (frSize_c _ _ _ _ (by omega)).mono ?_; rintro e w' ⟨rfl, rfl⟩)
    go_ret
    exact ⟨by rw [H.out]; rfl, x0 _⟩
end Go.Proofs.YtfggacnkediolaaGreatDoor
