/- Arguments opened, in the uniform words: lists of ints. -/
import Derived.Test.YtgblnkadmieflaaDoorOpen
import Derived.Test.YtgblnkadmieflaaDoorU
import Derived.Deep.Fields
namespace Go.Proofs.YtgblnkadmieflaaDoor
set_option maxRecDepth 100000
open Go.ChangeShapes Go.WideShapes Go.ChangeAt Go.RowKit Go.Joins Go.Deep
theorem fopen_IntS {H : Type} {enc : TypeId × Value → H} {W : World} {base fuel : Nat} {sp : Nat → Bool} {hd : Bool} {v : Value} {x : DataW H × List MemPlace}
    (h : DataW.trod enc Tryd.prog W base sp hd fuel 23 [v] = some x) : ∃ z : Int, 0 ≤ z ∧ QS 38 W v z ∧ (z ≤ 1048576 → ∃ x : List Int, RI W v x) := by
  obtain ⟨A, n, c, rfl, hn, k⟩ := open_t h
  refine ⟨n, Int.natCast_nonneg _, szIntS_q A n c W hn, fun hz => ?_⟩
  obtain ⟨xs, hx, r⟩ := k (by omega)
  subst hx
  exact ⟨xs, A, c, rfl, r⟩
theorem open_IntS {H : Type} {enc : TypeId × Value → H} {W : World} {base b0 : Nat} {sp : Nat → Bool} {hd : Bool} {r : Reach} {v : Value} {d : DataW H} {p : List MemPlace} (hv : Value.okWide Tryd.prog W r b0 23 v)
    (h : DataW.Trod enc Tryd.prog W base sp hd 23 v d p) : ∃ (c : Value) (z : Int), v = c ∧ 0 ≤ z ∧ QS 38 W c z ∧ (z ≤ 1048576 → ∃ x : List Int, RI W c x) := by
  obtain ⟨a0, len, cap, rfl⟩ := okWide_slice Tryd.underlying23 hv
  obtain ⟨fuel, hf⟩ := h
  obtain ⟨z, h1, h2, h3⟩ := fopen_IntS (v := .slice a0 len cap) hf
  exact ⟨_, z, rfl, h1, h2, h3⟩
end Go.Proofs.YtgblnkadmieflaaDoor
