/- Arguments opened, in the uniform words: lists of lists of ints. Arguments opened, in the uniform words: Relation. Printed by a program of mine. -/
import Derived.Test.YtmekhjnhcgmphaaDoorAp03
import Derived.Test.YtmekhjnhcgmphaaDoorAp10
import Derived.Deep.Fields
import Derived.Test.YtmekhjnhcgmphaaDoorAp24
import Derived.Test.YtmekhjnhcgmphaaDoorAp29
namespace Go.Proofs.YtmekhjnhcgmphaaDoor
set_option maxRecDepth 100000
open Go.ChangeShapes Go.WideShapes Go.ChangeAt Go.RowKit Go.Joins Go.Deep
theorem fopen_IntSS {H : Type} {enc : TypeId × Value → H} {W : World} {base fuel : Nat} {sp : Nat → Bool} {hd : Bool} {v : Value} {x : DataW H × List MemPlace}
    (h : DataW.trod enc Tryd.prog W base sp hd fuel 22 [v] = some x) : ∃ z : Int, 0 ≤ z ∧ QS 22 W v z ∧ (z ≤ 1048576 → ∃ x : List (List Int), RM W v x) := by
  obtain ⟨A, c, ns, rfl, hn, hr, k⟩ := open_m h
  refine ⟨((ns.length + ns.sum : Nat) : Int), Int.natCast_nonneg _, szIntSS_q A c ns W hn hr, fun hz => ?_⟩
  obtain ⟨xs, hx, r⟩ := k (by omega)
  subst hx
  exact ⟨xs, ⟨A, c, by rw [List.length_map], r⟩, by show (((xs.map List.length).sum : Nat) : Int) ≤ _; omega⟩
end Go.Proofs.YtmekhjnhcgmphaaDoor
namespace Go.Proofs.YtmekhjnhcgmphaaDoor
set_option maxRecDepth 100000
open Go.ChangeShapes Go.WideShapes Go.ChangeAt Go.RowKit Go.Joins Go.Deep
theorem array_Relation {α : Type} {cs : Array α} (h : cs.size = 3) : ∃ c0 c1 c2, cs = #[c0, c1, c2] := by
  obtain ⟨l⟩ := cs
  match l, h with
  | [c0, c1, c2], _ => exact ⟨c0, c1, c2, rfl⟩
theorem open_Relation {H : Type} {enc : TypeId × Value → H} {W : World} {base b0 : Nat} {sp : Nat → Bool} {hd : Bool} {r : Reach} {v : Value} {d : DataW H} {p : List MemPlace} (hv : Value.okWide Tryd.prog W r b0 24 v)
    (h : DataW.Trod enc Tryd.prog W base sp hd 24 v d p) : ∃ (c0 c1 c2 : Value) (z : Int), v = .agg #[c0, c1, c2] ∧ 0 ≤ z ∧ QS 5 W (.agg #[c0, c1, c2]) z ∧ (z ≤ 1048576 → ∃ (x : Rln) (v0 : Value), c0 = .int .i64 x.l ∧ c1 = .int .i64 x.r ∧ c2 = v0 ∧ RRln W v0 x) := by
  obtain ⟨cs, rfl, hsz, hf⟩ := open_agg_all Tryd.underlying24 (by kernel_rfl) (by kernel_rfl) hv h
  obtain ⟨c0, c1, c2, rfl⟩ := array_Relation (hsz.trans (by rfl))
  obtain ⟨_, _, h0⟩ := hf 0 _ _ rfl rfl
  obtain ⟨_, _, h1⟩ := hf 1 _ _ rfl rfl
  obtain ⟨_, _, h2⟩ := hf 2 _ _ rfl rfl
  obtain ⟨e0, j0, _, _⟩ := DataW.trod_int Tryd.underlying3 h0
  injection j0 with j0
  subst j0
  obtain ⟨e1, j1, _, _⟩ := DataW.trod_int Tryd.underlying3 h1
  injection j1 with j1
  subst j1
  obtain ⟨z0, n0, q0, k0⟩ := fopen_IntSS h2
  refine ⟨_, _, _, z0, rfl, by omega, szRelation_q _ _ _ z0 W q0 n0, fun hz => ?_⟩
  obtain ⟨x0, r0⟩ := k0 (by omega)
  exact ⟨⟨e0, e1, x0⟩, _, rfl, rfl, rfl, r0⟩
end Go.Proofs.YtmekhjnhcgmphaaDoor
