/- IsCircuit and ScheduleOf, on both sides, in the uniform words. -/
import Derived.Test.YtgblnkadmieflaaDoorCir5
namespace Go.Proofs.YtgblnkadmieflaaDoor
set_option maxRecDepth 100000
open Go Go.RowKit
def schU (p : Int) (x : Circ) : List Int × Bool := if circB p x then schedR x.gs else ([], false)
theorem circB_parts {p : Int} {x : Circ} (h : circB p x = true) : fieldB p = true ∧ 0 ≤ x.n ∧ x.n ≤ 8 ∧ 1 ≤ x.gs.length ∧ x.gs.length ≤ 40 ∧ x.outs.length ≤ 8 ∧ x.outs.all (inB 0 ((x.gs.length : Int) - 1)) = true ∧ x.gs.all (gateB p x.n x.gs.length) = true ∧ (schedR x.gs).2 = true := by
  simp only [circB, Bool.and_eq_true, inB, decide_eq_true_eq] at h
  obtain ⟨h1, h2, h3, h4, h5, h6, h7⟩ := h
  exact ⟨h1, h2.1, h2.2, by omega, by omega, by omega, by simpa [inB] using h5, h6, h7⟩
theorem schedR_true {gs : List Gt} (h : (schedR gs).2 = true) : schedR gs = ((schedL gs).1, true) := by
  unfold schedR at h ⊢
  split at h
  · rename_i e; rw [if_pos e]
  · cases h
end Go.Proofs.YtgblnkadmieflaaDoor
