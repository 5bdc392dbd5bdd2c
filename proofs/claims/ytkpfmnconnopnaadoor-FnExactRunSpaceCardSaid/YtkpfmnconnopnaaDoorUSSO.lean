/- Arguments opened, in the uniform words: StateSpace. Printed by a program of mine. -/
import Derived.Test.YtkpfmnconnopnaaDoorUSS
import Derived.Test.YtkpfmnconnopnaaDoorUMO
import Derived.Test.YtkpfmnconnopnaaDoorUO
namespace Go.Proofs.YtkpfmnconnopnaaDoor
set_option maxRecDepth 100000
open Go.ChangeShapes Go.WideShapes Go.ChangeAt Go.RowKit Go.Joins Go.Deep
theorem array_StateSpace {α : Type} {cs : Array α} (h : cs.size = 7) : ∃ c0 c1 c2 c3 c4 c5 c6, cs = #[c0, c1, c2, c3, c4, c5, c6] := by
  obtain ⟨l⟩ := cs
  match l, h with
  | [c0, c1, c2, c3, c4, c5, c6], _ => exact ⟨c0, c1, c2, c3, c4, c5, c6, rfl⟩
theorem open_StateSpace {H : Type} {enc : TypeId × Value → H} {W : World} {base b0 : Nat} {sp : Nat → Bool} {hd : Bool} {r : Reach} {v : Value} {d : DataW H} {p : List MemPlace} (hv : Value.okWide Tryd.prog W r b0 24 v)
    (h : DataW.Trod enc Tryd.prog W base sp hd 24 v d p) : ∃ (c0 c1 c2 c3 c4 c5 c6 : Value) (z : Int), v = .agg #[c0, c1, c2, c3, c4, c5, c6] ∧ 0 ≤ z ∧ QS 10 W (.agg #[c0, c1, c2, c3, c4, c5, c6]) z ∧ (z ≤ 1048576 → ∃ (x : SSp) (v0 v1 v2 v3 : Value), c0 = .int .i64 x.n ∧ c1 = .int .i64 x.m ∧ c2 = .int .i64 x.q ∧ c3 = v0 ∧ c4 = v1 ∧ c5 = v2 ∧ c6 = v3 ∧ RSSp W v0 v1 v2 v3 x) := by
  obtain ⟨cs, rfl, hsz, hf⟩ := open_agg_all Tryd.underlying24 (by kernel_rfl) (by kernel_rfl) hv h
  obtain ⟨c0, c1, c2, c3, c4, c5, c6, rfl⟩ := array_StateSpace (hsz.trans (by rfl))
  obtain ⟨_, _, h0⟩ := hf 0 _ _ rfl rfl
  obtain ⟨_, _, h1⟩ := hf 1 _ _ rfl rfl
  obtain ⟨_, _, h2⟩ := hf 2 _ _ rfl rfl
  obtain ⟨_, _, h3⟩ := hf 3 _ _ rfl rfl
  obtain ⟨_, _, h4⟩ := hf 4 _ _ rfl rfl
  obtain ⟨_, _, h5⟩ := hf 5 _ _ rfl rfl
  obtain ⟨_, _, h6⟩ := hf 6 _ _ rfl rfl
  obtain ⟨e0, j0, _, _⟩ := DataW.trod_int Tryd.underlying3 h0
  injection j0 with j0
  subst j0
  obtain ⟨e1, j1, _, _⟩ := DataW.trod_int Tryd.underlying3 h1
  injection j1 with j1
  subst j1
  obtain ⟨e2, j2, _, _⟩ := DataW.trod_int Tryd.underlying3 h2
  injection j2 with j2
  subst j2
  obtain ⟨z0, n0, q0, k0⟩ := fopen_IntSS h3
  obtain ⟨z1, n1, q1, k1⟩ := fopen_IntSS h4
  obtain ⟨z2, n2, q2, k2⟩ := fopen_IntSS h5
  obtain ⟨z3, n3, q3, k3⟩ := fopen_IntSS h6
  refine ⟨_, _, _, _, _, _, _, z0 + z1 + z2 + z3, rfl, by omega, szStateSpace_q _ _ _ _ _ _ _ z0 z1 z2 z3 W q0 n0 q1 n1 q2 n2 q3 n3, fun hz => ?_⟩
  obtain ⟨x0, r0⟩ := k0 (by omega)
  obtain ⟨x1, r1⟩ := k1 (by omega)
  obtain ⟨x2, r2⟩ := k2 (by omega)
  obtain ⟨x3, r3⟩ := k3 (by omega)
  exact ⟨⟨e0, e1, e2, x0, x1, x2, x3⟩, _, _, _, _, rfl, rfl, rfl, rfl, rfl, rfl, rfl, r0, r1, r2, r3⟩
end Go.Proofs.YtkpfmnconnopnaaDoor
