/- Arguments opened, in the uniform words: Graph. Printed by a program of mine. -/
import Derived.Test.YtgblnkadmieflaaUGr
import Derived.Test.YtgblnkadmieflaaUEO
import Derived.Test.YtgblnkadmieflaaUO
import Derived.Test.YtgblnkadmieflaaUO
namespace Go.Proofs.Ytgblnkadmieflaa
set_option maxRecDepth 100000
open Go.ChangeShapes Go.WideShapes Go.ChangeAt Go.RowKit Go.Joins Go.Deep
theorem array_Graph {α : Type} {cs : Array α} (h : cs.size = 4) : ∃ c0 c1 c2 c3, cs = #[c0, c1, c2, c3] := by
  obtain ⟨l⟩ := cs
  match l, h with
  | [c0, c1, c2, c3], _ => exact ⟨c0, c1, c2, c3, rfl⟩
theorem open_Graph {H : Type} {enc : TypeId × Value → H} {W : World} {base b0 : Nat} {sp : Nat → Bool} {hd : Bool} {r : Reach} {v : Value} {d : DataW H} {p : List MemPlace} (hv : Value.okWide Try.prog W r b0 25 v)
    (h : DataW.Trod enc Try.prog W base sp hd 25 v d p) : ∃ (c0 c1 c2 c3 : Value) (z : Int), v = .agg #[c0, c1, c2, c3] ∧ 0 ≤ z ∧ QS 5 W (.agg #[c0, c1, c2, c3]) z ∧ (z ≤ 1048576 → ∃ (x : Gr) (v0 v1 v2 : Value), c0 = .int .i64 x.wires ∧ c1 = v0 ∧ c2 = v1 ∧ c3 = v2 ∧ RGr W v0 v1 v2 x) := by
  obtain ⟨cs, rfl, hsz, hf⟩ := open_agg_all Try.underlying25 (by kernel_rfl) (by kernel_rfl) hv h
  obtain ⟨c0, c1, c2, c3, rfl⟩ := array_Graph (hsz.trans (by rfl))
  obtain ⟨_, _, h0⟩ := hf 0 _ _ rfl rfl
  obtain ⟨_, _, h1⟩ := hf 1 _ _ rfl rfl
  obtain ⟨_, _, h2⟩ := hf 2 _ _ rfl rfl
  obtain ⟨_, _, h3⟩ := hf 3 _ _ rfl rfl
  obtain ⟨e0, j0, _, _⟩ := DataW.trod_int Try.underlying3 h0
  injection j0 with j0
  subst j0
  obtain ⟨z0, n0, q0, k0⟩ := fopen_EdgeS h1
  obtain ⟨z1, n1, q1, k1⟩ := fopen_IntS h2
  obtain ⟨z2, n2, q2, k2⟩ := fopen_IntS h3
  refine ⟨_, _, _, _, z0 + z1 + z2, rfl, by omega, szGraph_q _ _ _ _ z0 z1 z2 W q0 n0 q1 n1 q2 n2, fun hz => ?_⟩
  obtain ⟨x0, r0⟩ := k0 (by omega)
  obtain ⟨x1, r1⟩ := k1 (by omega)
  obtain ⟨x2, r2⟩ := k2 (by omega)
  exact ⟨⟨e0, x0, x1, x2⟩, _, _, _, rfl, rfl, rfl, rfl, r0, r1, r2⟩
end Go.Proofs.Ytgblnkadmieflaa
