/- The table of primes out of the row's list; a world for the witness. -/
import Derived.Test.YtpeogfapnofeoaaGreatDoorCards
import Derived.Test.YtpeogfapnofeoaaGreatDoorTie
import Derived.Test.YtpeogfapnofeoaaGreatDoorRowG
import Derived.Test.YtpeogfapnofeoaaGreatDoorField
import Derived.Lib.LaidTab
namespace Go.Proofs.YtpeogfapnofeoaaGreatDoor
set_option maxRecDepth 100000
open Go.ChangeShapes Go.WideShapes Go.ChangeAt Go.RowKit
theorem gPrimes : Tryz.prog.globalNamed "loop.example/g01073/impl.smallPrimes" = some 0 := by kernel_rfl
theorem gPrimesType : (Tryz.prog.globals[0]?).map (·.type) = some 90 := by kernel_rfl
theorem cellsPrimes : Tryz.prog.cellsOf 90 = 4 := by kernel_rfl
theorem hvsPrimes : ∀ n ∈ ["loop.example/g01073/impl.smallPrimes"], ∀ g t, Tryz.prog.globalNamed n = some g → (Tryz.prog.globals[g]?).map (·.type) = some t → Tryz.prog.readableRec t = true ∧ t < Tryz.prog.types.size := by
  intro n hn g t h1 h2
  obtain rfl : n = "loop.example/g01073/impl.smallPrimes" := by simpa using hn
  obtain rfl : 0 = g := Option.some.inj (gPrimes.symm.trans h1)
  obtain rfl : 90 = t := Option.some.inj (gPrimesType.symm.trans h2)
  exact ⟨by kernel_rfl, of_decide_eq_true (by kernel_rfl)⟩
theorem table {W : World} (h : laidMetH Tryz.prog [("loop.example/g01073/impl.smallPrimes", Rows.laid_loop_example_g01073_impl_smallPrimes)] W) : Tb W := by
  have hT : Lib.TabIs Tryz.prog W "loop.example/g01073/impl.smallPrimes" .i64 [2, 3, 5, 7] := Lib.tabIs_of_head (rest := []) gPrimes gPrimesType Tryz.underlying90 Tryz.underlying3 cellsInt cellsPrimes h
  exact ⟨hT.cell gPrimes 0 (by decide), hT.cell gPrimes 1 (by decide), hT.cell gPrimes 2 (by decide), hT.cell gPrimes 3 (by decide)⟩
/-- A world for the witness: the settled one, the table holding what its initialiser lays. -/
noncomputable def laidWorld (os : Os) : World :=
  { World.holding Tryz.prog os ⟨#[], #[], []⟩ with heap := (World.holding Tryz.prog os ⟨#[], #[], []⟩).heap.modify 0 fun
      | .cells _ t frozen => .cells #[.int .i64 2, .int .i64 3, .int .i64 5, .int .i64 7] t frozen
      | o => o }
end Go.Proofs.YtpeogfapnofeoaaGreatDoor
