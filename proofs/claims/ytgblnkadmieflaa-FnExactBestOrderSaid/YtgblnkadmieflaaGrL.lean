/- Contract: the leaves of the reference. -/
import Derived.Test.YtgblnkadmieflaaGrK
namespace Go.Proofs.Ytgblnkadmieflaa
set_option maxRecDepth 100000
open Go Go.RowKit
set_option maxHeartbeats 2000000 in
theorem tmLeaf_c (k v : Int) (h : inB 3 14 k = true) (w : World) : Calls Try.prog 72 #[.agg #[.int .i64 k, .int .i64 v, .string { data := #[] }]] w fun e w' => e = .returned (.bool (vlB k v)) ∧ Ex w w' := by
  have x0 := (Ex.refl w).alloc (.cells #[.int .i64 k, .int .i64 v, .string { data := #[] }] 87)
  have h1 : inB 1 14 k = true := by simp [inB] at h ⊢; omega
  have hk := fun W => l1In_c k 1 14 W
  rw [h1] at hk
  have hv := fun W => l1In_c v 0 96 W
  obtain ⟨R, hR⟩ : ∃ R, vlB k v = R := ⟨_, rfl⟩
  rw [hR]
  unfold vlB at hR
  by_cases h7 : k = 7 ∨ k = 13
  · rw [if_pos h7] at hR
    rw [hR] at hv
    clear h h1 hR
    rcases h7 with rfl | rfl
    all_goals
      go_enter Try.func72, Try.ntmps72
      go_wp2_with fail
      refine (hk _).mono ?_
      rintro e _ ⟨rfl, rfl⟩
      go_wp2_with fail
      refine (hv _).mono ?_
      rintro e _ ⟨rfl, rfl⟩
      go_wp2
      go_ret
      exact ⟨rfl, x0⟩
  · rw [if_neg h7] at hR
    have n1 : (k == 1) = false := by simp [inB] at h; simp; omega
    have n7 : (k == 7) = false := by simp; omega
    have n13 : (k == 13) = false := by simp; omega
    have HR := Lib.hid hR
    clear h h1 hR h7
    go_enter Try.func72, Try.ntmps72
    go_wp2_with fail
    refine (hk _).mono ?_
    rintro e _ ⟨rfl, rfl⟩
    clear hk hv
    go_wp2
    all_goals go_ret
    all_goals exact ⟨ret_bool (by rw [← HR.out]; first | rfl | simp), x0⟩
end Go.Proofs.Ytgblnkadmieflaa
