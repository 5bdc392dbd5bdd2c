/- Arguments opened, in the uniform words: lists of lists of ints. -/
import Derived.Test.YtkpfmnconnopnaaDoorUO
import Derived.Test.YtkpfmnconnopnaaDoorUM
import Derived.Test.YtkpfmnconnopnaaDoorOpenM
namespace Go.Proofs.YtkpfmnconnopnaaDoor
set_option maxRecDepth 100000
open Go.ChangeShapes Go.WideShapes Go.ChangeAt Go.RowKit Go.Joins Go.Deep
theorem fopen_IntSS {H : Type} {enc : TypeId × Value → H} {W : World} {base fuel : Nat} {sp : Nat → Bool} {hd : Bool} {v : Value} {x : DataW H × List MemPlace}
    (h : DataW.trod enc Tryd.prog W base sp hd fuel 22 [v] = some x) : ∃ z : Int, 0 ≤ z ∧ QS 11 W v z ∧ (z ≤ 1048576 → ∃ x : List (List Int), RM W v x) := by
  obtain ⟨A, c, ns, rfl, hn, hr, k⟩ := open_m h
  refine ⟨((ns.length + ns.sum : Nat) : Int), Int.natCast_nonneg _, szIntSS_q A c ns W hn hr, fun hz => ?_⟩
  obtain ⟨xs, hx, r⟩ := k (by omega)
  subst hx
  exact ⟨xs, ⟨A, c, by rw [List.length_map], r⟩, by show (((xs.map List.length).sum : Nat) : Int) ≤ _; omega⟩
theorem open_IntSS {H : Type} {enc : TypeId × Value → H} {W : World} {base b0 : Nat} {sp : Nat → Bool} {hd : Bool} {r : Reach} {v : Value} {d : DataW H} {p : List MemPlace} (hv : Value.okWide Tryd.prog W r b0 22 v)
    (h : DataW.Trod enc Tryd.prog W base sp hd 22 v d p) : ∃ (c : Value) (z : Int), v = c ∧ 0 ≤ z ∧ QS 11 W c z ∧ (z ≤ 1048576 → ∃ x : List (List Int), RM W c x) := by
  obtain ⟨a0, len, cap, rfl⟩ := okWide_slice Tryd.underlying22 hv
  obtain ⟨fuel, hf⟩ := h
  obtain ⟨z, h1, h2, h3⟩ := fopen_IntSS (v := .slice a0 len cap) hf
  exact ⟨_, z, rfl, h1, h2, h3⟩
end Go.Proofs.YtkpfmnconnopnaaDoor
