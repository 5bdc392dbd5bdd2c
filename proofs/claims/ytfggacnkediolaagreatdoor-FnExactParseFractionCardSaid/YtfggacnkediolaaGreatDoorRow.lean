/- The table of primes out of the row's list; a world for the witness. -/
import Derived.Test.YtfggacnkediolaaGreatDoorCards
import Derived.Test.YtfggacnkediolaaGreatDoorTie
import Derived.Test.YtfggacnkediolaaGreatDoorRowG
import Derived.Test.YtfggacnkediolaaGreatDoorField
import Derived.Lib.LaidTab
namespace Go.Proofs.YtfggacnkediolaaGreatDoor
set_option maxRecDepth 100000
open Go.ChangeShapes Go.WideShapes Go.ChangeAt Go.RowKit
theorem gPrimes : Tryz.prog.globalNamed "loop.example/g01073/impl.smallPrimes" = some 1 := by kernel_rfl
theorem gPrimesType : (Tryz.prog.globals[1]?).map (·.type) = some 88 := by kernel_rfl
theorem cellsPrimes : Tryz.prog.cellsOf 88 = 4 := by kernel_rfl
theorem hvsPrimes : ∀ n ∈ ["loop.example/g01073/impl.smallPrimes"], ∀ g t, Tryz.prog.globalNamed n = some g → (Tryz.prog.globals[g]?).map (·.type) = some t → Tryz.prog.readableRec t = true ∧ t < Tryz.prog.types.size := by
  intro n hn g t h1 h2
  obtain rfl : n = "loop.example/g01073/impl.smallPrimes" := by simpa using hn
  obtain rfl : 1 = g := Option.some.inj (gPrimes.symm.trans h1)
  obtain rfl : 88 = t := Option.some.inj (gPrimesType.symm.trans h2)
  exact ⟨by kernel_rfl, of_decide_eq_true (by kernel_rfl)⟩
theorem table {W : World} (h : laidMetH Tryz.prog [("loop.example/g01073/impl.smallPrimes", Rows.laid_loop_example_g01073_impl_smallPrimes)] W) : Tb W := by
  have hT : Lib.TabIs Tryz.prog W "loop.example/g01073/impl.smallPrimes" .i64 [2, 3, 5, 7] := Lib.tabIs_of_head (rest := []) gPrimes gPrimesType Tryz.underlying88 Tryz.underlying3 cellsInt cellsPrimes h
  exact ⟨hT.cell gPrimes 0 (by decide), hT.cell gPrimes 1 (by decide), hT.cell gPrimes 2 (by decide), hT.cell gPrimes 3 (by decide)⟩
end Go.Proofs.YtfggacnkediolaaGreatDoor
