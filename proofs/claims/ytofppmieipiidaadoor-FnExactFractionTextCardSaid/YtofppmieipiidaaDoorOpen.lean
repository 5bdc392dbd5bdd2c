/- Arguments opened: a slice of ints from its reading; a struct of two slices. -/
import Derived.Test.YtofppmieipiidaaDoorRowG
import Derived.Lib.SmallJoins
namespace Go.Proofs.YtofppmieipiidaaDoor
set_option maxRecDepth 100000
open Go.ChangeShapes Go.WideShapes Go.ChangeAt Go.RowKit Go.Joins
/-- A slice of ints from its reading alone. -/
theorem open_t {H : Type} {enc : TypeId × Value → H} {W : World} {base fuel : Nat} {sp : Nat → Bool} {hd : Bool} {v : Value} {x : DataW H × List MemPlace}
    (h : DataW.trod enc Tryd.prog W base sp hd fuel 22 [v] = some x) : ∃ A n c, v = .slice A n c ∧ n ≤ 9223372036854775807 ∧ (n ≤ 1099511627776 → ∃ xs, xs.length = n ∧ Rd W A xs) := by
  rcases open_ints Tryd.underlying22 Tryd.underlying3 cellsInt h with ⟨hcs, _⟩ | ⟨a, len, cap, zs, hcs, _, hl, hm, hz, _, hcell, _⟩
  · injection hcs with hcs
    subst hcs
    exact ⟨none, 0, 0, rfl, by omega, fun _ => ⟨[], rfl, Rd.nil _ _⟩⟩
  · injection hcs with hcs
    subst hcs
    refine ⟨_, _, _, rfl, by unfold maxLen at hm; omega, fun hlen => ?_⟩
    have hlz : len ≤ zs.length := by rw [hz]; split <;> omega
    refine ⟨zs.take len, by simp; omega, by simp; omega, fun j hj => ?_⟩
    have hj' : j < len := by simp at hj; omega
    have hc := hcell j (by omega)
    obtain ⟨g, off, spot⟩ := a
    cases spot with
    | some s =>
      exfalso
      have hc0 := hcell 0 (by omega)
      have e0 : (⟨g, off, some s⟩ : Addr).add 0 = ⟨g, off, some s⟩ := by simp [Addr.add]
      rw [e0] at hc0
      unfold World.cell? at hc0
      split at hc0 <;> simp at hc0
    | none =>
      refine ⟨g, off, rfl, ?_⟩
      have e : ((⟨g, off, none⟩ : Addr).add j) = ⟨g, off + j, none⟩ := by unfold Addr.add; split <;> simp_all
      rw [e] at hc
      rw [hc]
      simp [hj']
theorem open_fr {H : Type} {enc : TypeId × Value → H} {W : World} {base b0 : Nat} {sp : Nat → Bool} {hd : Bool} {r : Reach} {v : Value} {d : DataW H} {p : List MemPlace} (hv : Value.okWide Tryd.prog W r b0 29 v)
    (h : DataW.Trod enc Tryd.prog W base sp hd 29 v d p) : ∃ A n c B m k, v = .agg #[.slice A n c, .slice B m k] ∧ n ≤ 9223372036854775807 ∧ m ≤ 9223372036854775807 ∧ (n ≤ 1099511627776 → ∃ xs, xs.length = n ∧ Rd W A xs) ∧ (m ≤ 1099511627776 → ∃ xs, xs.length = m ∧ Rd W B xs) := by
  obtain ⟨v0, v1, y0, y1, n, rfl, _, _, h0, h1⟩ := open_agg2 Tryd.underlying29 (by kernel_rfl) (by kernel_rfl) hv h
  obtain ⟨A, n, c, rfl, ln, rn⟩ := open_t h0
  obtain ⟨B, m, k, rfl, lm, rm⟩ := open_t h1
  exact ⟨A, n, c, B, m, k, rfl, ln, lm, rn, rm⟩
end Go.Proofs.YtofppmieipiidaaDoor
