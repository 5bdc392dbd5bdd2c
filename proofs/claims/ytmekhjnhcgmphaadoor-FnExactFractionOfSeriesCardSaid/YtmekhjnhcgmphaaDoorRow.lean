/- The table of primes out of the row's list; a world for the witness. -/
import Derived.Test.YtmekhjnhcgmphaaDoorCards
import Derived.Test.YtmekhjnhcgmphaaDoorTie
import Derived.Test.YtmekhjnhcgmphaaDoorRowG
import Derived.Test.YtmekhjnhcgmphaaDoorField
import Derived.Lib.LaidTab
namespace Go.Proofs.YtmekhjnhcgmphaaDoor
set_option maxRecDepth 100000
open Go.ChangeShapes Go.WideShapes Go.ChangeAt Go.RowKit
theorem gPrimes : Tryd.prog.globalNamed "loop.example/g01073/impl.smallPrimes" = some 0 := by kernel_rfl
theorem gPrimesType : (Tryd.prog.globals[0]?).map (·.type) = some 94 := by kernel_rfl
theorem cellsPrimes : Tryd.prog.cellsOf 94 = 4 := by kernel_rfl
theorem hvsPrimes : ∀ n ∈ ["loop.example/g01073/impl.smallPrimes"], ∀ g t, Tryd.prog.globalNamed n = some g → (Tryd.prog.globals[g]?).map (·.type) = some t → Tryd.prog.readableRec t = true ∧ t < Tryd.prog.types.size := by
  intro n hn g t h1 h2
  obtain rfl : n = "loop.example/g01073/impl.smallPrimes" := by simpa using hn
  obtain rfl : 0 = g := Option.some.inj (gPrimes.symm.trans h1)
  obtain rfl : 94 = t := Option.some.inj (gPrimesType.symm.trans h2)
  exact ⟨by kernel_rfl, of_decide_eq_true (by kernel_rfl)⟩
theorem table {W : World} (h : laidMetH Tryd.prog [("loop.example/g01073/impl.smallPrimes", Rows.laid_loop_example_g01073_impl_smallPrimes)] W) : Tb W := by
  have hT : Lib.TabIs Tryd.prog W "loop.example/g01073/impl.smallPrimes" .i64 [2, 3, 5, 7] := Lib.tabIs_of_head (rest := []) gPrimes gPrimesType Tryd.underlying94 Tryd.underlying3 cellsInt cellsPrimes h
  exact ⟨hT.cell gPrimes 0 (by decide), hT.cell gPrimes 1 (by decide), hT.cell gPrimes 2 (by decide), hT.cell gPrimes 3 (by decide)⟩
/-- A world for the witness: the settled one, the table holding what its initialiser lays. -/
noncomputable def laidWorld (os : Os) : World :=
  { World.holding Tryd.prog os ⟨#[], #[], []⟩ with heap := (World.holding Tryd.prog os ⟨#[], #[], []⟩).heap.modify 0 fun
      | .cells _ t frozen => .cells #[.int .i64 2, .int .i64 3, .int .i64 5, .int .i64 7] t frozen
      | o => o }
end Go.Proofs.YtmekhjnhcgmphaaDoor
