/- Arguments opened, in the uniform words: Circuit. Printed by a program of mine. -/
import Derived.Test.YtgblnkadmieflaaDoorUC
import Derived.Test.YtgblnkadmieflaaDoorUGO
import Derived.Test.YtgblnkadmieflaaDoorUO
import Derived.Test.YtgblnkadmieflaaDoorUO
namespace Go.Proofs.YtgblnkadmieflaaDoor
set_option maxRecDepth 100000
open Go.ChangeShapes Go.WideShapes Go.ChangeAt Go.RowKit Go.Joins Go.Deep
theorem array_Circuit {α : Type} {cs : Array α} (h : cs.size = 3) : ∃ c0 c1 c2, cs = #[c0, c1, c2] := by
  obtain ⟨l⟩ := cs
  match l, h with
  | [c0, c1, c2], _ => exact ⟨c0, c1, c2, rfl⟩
theorem open_Circuit {H : Type} {enc : TypeId × Value → H} {W : World} {base b0 : Nat} {sp : Nat → Bool} {hd : Bool} {r : Reach} {v : Value} {d : DataW H} {p : List MemPlace} (hv : Value.okWide Tryd.prog W r b0 25 v)
    (h : DataW.Trod enc Tryd.prog W base sp hd 25 v d p) : ∃ (c0 c1 c2 : Value) (z : Int), v = .agg #[c0, c1, c2] ∧ 0 ≤ z ∧ QS 8 W (.agg #[c0, c1, c2]) z ∧ (z ≤ 1048576 → ∃ (x : Circ) (v0 v1 : Value), c0 = .int .i64 x.n ∧ c1 = v0 ∧ c2 = v1 ∧ RCirc W v0 v1 x) := by
  obtain ⟨cs, rfl, hsz, hf⟩ := open_agg_all Tryd.underlying25 (by kernel_rfl) (by kernel_rfl) hv h
  obtain ⟨c0, c1, c2, rfl⟩ := array_Circuit (hsz.trans (by rfl))
  obtain ⟨_, _, h0⟩ := hf 0 _ _ rfl rfl
  obtain ⟨_, _, h1⟩ := hf 1 _ _ rfl rfl
  obtain ⟨_, _, h2⟩ := hf 2 _ _ rfl rfl
  obtain ⟨e0, j0, _, _⟩ := DataW.trod_int Tryd.underlying3 h0
  injection j0 with j0
  subst j0
  obtain ⟨z0, n0, q0, k0⟩ := fopen_GateS h1
  obtain ⟨z1, n1, q1, k1⟩ := fopen_IntS h2
  refine ⟨_, _, _, z0 + z1, rfl, by omega, szCircuit_q _ _ _ z0 z1 W q0 n0 q1 n1, fun hz => ?_⟩
  obtain ⟨x0, r0⟩ := k0 (by omega)
  obtain ⟨x1, r1⟩ := k1 (by omega)
  exact ⟨⟨e0, x0, x1⟩, _, _, rfl, rfl, rfl, r0, r1⟩
end Go.Proofs.YtgblnkadmieflaaDoor
