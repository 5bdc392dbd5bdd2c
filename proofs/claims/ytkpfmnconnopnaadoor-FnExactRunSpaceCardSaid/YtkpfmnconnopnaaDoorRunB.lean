/- The size of a run's answer. -/
import Derived.Test.YtkpfmnconnopnaaDoorRun4
import Derived.Test.YtkpfmnconnopnaaDoorMarkSS
namespace Go.Proofs.YtkpfmnconnopnaaDoor
set_option maxRecDepth 100000
open Go Go.RowKit
theorem rys_tot (p : Int) (n q : Nat) (ra rb rc rd us : List (List Int)) (k : Nat) : tot (rys p n q ra rb rc rd us k) = (k : Int) * q := by
  induction k with
  | zero => simp [rys, tot]
  | succ k ih =>
    rw [rys_succ]
    simp only [tot, List.map_append, List.sum_append, List.map_cons, List.map_nil, List.sum_cons, List.sum_nil, ry_len] at ih ⊢
    push_cast
    rw [Int.add_mul, Int.one_mul]
    omega
theorem runR_tot (p x y z : Int) (ra rb rc rd us : List (List Int)) : tot (runR p x y z ra rb rc rd us).1 ≤ 480 := by
  by_cases h : ssB p x y z ra rb rc rd = true ∧ (decide ((us.length : Int) ≤ 60) && rowsB p y us) = true
  · rw [runR_yes h]
    show tot (rys _ _ _ _ _ _ _ _ _) ≤ _
    rw [rys_tot]
    obtain ⟨_, _, _, i3, _⟩ := ssB_parts h.1
    have h2 := h.2
    simp only [inB, Bool.and_eq_true, decide_eq_true_eq] at i3 h2
    have h3 : (us.length : Int) ≤ 60 := h2.1
    have h4 : ((z.toNat : Nat) : Int) ≤ 8 := by omega
    have := Int.mul_le_mul h3 h4 (Int.natCast_nonneg _) (by omega)
    omega
  · rw [runR_no h]
    simp [tot]
end Go.Proofs.YtkpfmnconnopnaaDoor
