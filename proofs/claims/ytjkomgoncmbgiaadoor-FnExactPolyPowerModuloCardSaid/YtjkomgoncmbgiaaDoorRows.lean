/-
  NARROWER THAN 'FOR EVERY INPUT', by the rows' own cells (each row's printed sentence says how): FnExactConvolveSeries: laid · FnExactIsStateSpace: laid · FnExactPolyPowerModulo: laid · FnExactIsFraction: laid · FnExactIsCausal: laid · FnExactIsIrreducible: laid.
  DERIVED. THE GIVEN ROWS OF THIS SEAT. 6 by the template 'for every input the law returns true; each argument reads behind the call as it read before'; 0 by the template 'total and deterministic' (their statements: YtjkomgoncmbgiaaDoorTotals.lean).
  GIVEN WITH THE SEED: the statements are not yours to turn. If you find one false, say at which input.
  Laid BY PROGRAM, IN A SANDBOX (cutbox-rows.mjs): the forced cells as the released guide's own fill.sh prints them over the translation 2276021a4118770b… (all of the seat's roots in one cut). By AI agents, Wed Nov 11 2026. No macro, syntax, notation, axiom, sorry.
-/
import Derived.Test.YtjkomgoncmbgiaaDoorChecked
import GoSem.Claim
import GoSem.ClaimJoined
import GoSem.ClaimMapViews
import Derived.JoinedTies
import Derived.KernelRfl
namespace Go.Proofs.YtjkomgoncmbgiaaDoor
/- THE CELL 'sum', in the pinned program and in every row, IS THE sha256 OF THE DUMP (.gsa) THAT YtjkomgoncmbgiaaDoorProg.lean LOADS. Nothing in Lean hashes anything: it is a label: what it is worth is what the hold of that sum in a sandbox is worth. -/
noncomputable def Tryd.pinned : Pinned := { name := "ytjkomgoncmbgiaadoor", sum := "2276021a4118770bf1df056297642ce0b76210932c5c84293852e19014e942b9", checked := Tryd.checked }
namespace Rows
def none {H : Type} : Left H := { results := [], args := [] }

/- WHAT THE LISTED PACKAGE-LEVEL VARIABLES READ AS WHEN THE CALL BEGINS. Each datum BY PROGRAM (the guide's laid-datum.mjs) off the statement by which the dump's own 'gosem.cut.vars' lays the variable. In a bare row this is a premise. The card (YtjkomgoncmbgiaaDoorCards.lean) ties it to the program's text. -/
def laid_loop_example_g01073_impl_smallPrimes {H : Type} : DataW H := .agg [.lit (.int .i64 2), .lit (.int .i64 3), .lit (.int .i64 5), .lit (.int .i64 7)]

/-- 'laws.FnExactConvolveSeries': WHATEVER THE INPUT: true; the input reads as it did. -/
def fnExactConvolveSeriesSpec : ChangeSpec := { name := "fnExactConvolveSeries", vars := ["loop.example/g01073/impl.smallPrimes"], fn := fun _ => fun
  | [d1, d2, d3, g1] => { results := [.lit (.bool true)], args := [d1, d2, d3], vars := [g1] }
  | _ => none }
def fnExactConvolveSeriesRow : OpenClaim := { program := "ytjkomgoncmbgiaadoor", sum := "2276021a4118770bf1df056297642ce0b76210932c5c84293852e19014e942b9", func := "loop.example/g01073/laws.FnExactConvolveSeries", spec := "fnExactConvolveSeries", named := ["loop.example/g01073/impl.smallPrimes"], apart := false, laid := [("loop.example/g01073/impl.smallPrimes", laid_loop_example_g01073_impl_smallPrimes)] }
def FnExactConvolveSeriesSaid : Prop := fnExactConvolveSeriesRow.holds Tryd.pinned (OpenSpec.ofChange fnExactConvolveSeriesSpec)

/-- ITS FALSE NEIGHBOUR: 'it returns false'. Refute it at one input. -/
def fnExactConvolveSeriesWrong : ChangeSpec := { name := "fnExactConvolveSeries", vars := ["loop.example/g01073/impl.smallPrimes"], fn := fun _ => fun
  | [d1, d2, d3, g1] => { results := [.lit (.bool false)], args := [d1, d2, d3], vars := [g1] }
  | _ => none }
def FnExactConvolveSeriesWrongFalsely : Prop := fnExactConvolveSeriesRow.holds Tryd.pinned (OpenSpec.ofChange fnExactConvolveSeriesWrong)

/-- 'laws.FnExactIsStateSpace': WHATEVER THE INPUT: true; the input reads as it did. -/
def fnExactIsStateSpaceSpec : ChangeSpec := { name := "fnExactIsStateSpace", vars := ["loop.example/g01073/impl.smallPrimes"], fn := fun _ => fun
  | [d1, d2, g1] => { results := [.lit (.bool true)], args := [d1, d2], vars := [g1] }
  | _ => none }
def fnExactIsStateSpaceRow : OpenClaim := { program := "ytjkomgoncmbgiaadoor", sum := "2276021a4118770bf1df056297642ce0b76210932c5c84293852e19014e942b9", func := "loop.example/g01073/laws.FnExactIsStateSpace", spec := "fnExactIsStateSpace", named := ["loop.example/g01073/impl.smallPrimes"], apart := false, laid := [("loop.example/g01073/impl.smallPrimes", laid_loop_example_g01073_impl_smallPrimes)] }
def FnExactIsStateSpaceSaid : Prop := fnExactIsStateSpaceRow.holds Tryd.pinned (OpenSpec.ofChange fnExactIsStateSpaceSpec)

/-- ITS FALSE NEIGHBOUR: 'it returns false'. Refute it at one input. -/
def fnExactIsStateSpaceWrong : ChangeSpec := { name := "fnExactIsStateSpace", vars := ["loop.example/g01073/impl.smallPrimes"], fn := fun _ => fun
  | [d1, d2, g1] => { results := [.lit (.bool false)], args := [d1, d2], vars := [g1] }
  | _ => none }
def FnExactIsStateSpaceWrongFalsely : Prop := fnExactIsStateSpaceRow.holds Tryd.pinned (OpenSpec.ofChange fnExactIsStateSpaceWrong)

/-- 'laws.FnExactPolyPowerModulo': WHATEVER THE INPUT: true; the input reads as it did. -/
def fnExactPolyPowerModuloSpec : ChangeSpec := { name := "fnExactPolyPowerModulo", vars := ["loop.example/g01073/impl.smallPrimes"], fn := fun _ => fun
  | [d1, d2, d3, d4, g1] => { results := [.lit (.bool true)], args := [d1, d2, d3, d4], vars := [g1] }
  | _ => none }
def fnExactPolyPowerModuloRow : OpenClaim := { program := "ytjkomgoncmbgiaadoor", sum := "2276021a4118770bf1df056297642ce0b76210932c5c84293852e19014e942b9", func := "loop.example/g01073/laws.FnExactPolyPowerModulo", spec := "fnExactPolyPowerModulo", unfollowed := true, recurses := true, named := ["loop.example/g01073/impl.smallPrimes"], apart := false, laid := [("loop.example/g01073/impl.smallPrimes", laid_loop_example_g01073_impl_smallPrimes)] }
def FnExactPolyPowerModuloSaid : Prop := fnExactPolyPowerModuloRow.holds Tryd.pinned (OpenSpec.ofChange fnExactPolyPowerModuloSpec)

/-- ITS FALSE NEIGHBOUR: 'it returns false'. Refute it at one input. -/
def fnExactPolyPowerModuloWrong : ChangeSpec := { name := "fnExactPolyPowerModulo", vars := ["loop.example/g01073/impl.smallPrimes"], fn := fun _ => fun
  | [d1, d2, d3, d4, g1] => { results := [.lit (.bool false)], args := [d1, d2, d3, d4], vars := [g1] }
  | _ => none }
def FnExactPolyPowerModuloWrongFalsely : Prop := fnExactPolyPowerModuloRow.holds Tryd.pinned (OpenSpec.ofChange fnExactPolyPowerModuloWrong)

/-- 'laws.FnExactIsFraction': WHATEVER THE INPUT: true; the input reads as it did. -/
def fnExactIsFractionSpec : ChangeSpec := { name := "fnExactIsFraction", vars := ["loop.example/g01073/impl.smallPrimes"], fn := fun _ => fun
  | [d1, d2, g1] => { results := [.lit (.bool true)], args := [d1, d2], vars := [g1] }
  | _ => none }
def fnExactIsFractionRow : OpenClaim := { program := "ytjkomgoncmbgiaadoor", sum := "2276021a4118770bf1df056297642ce0b76210932c5c84293852e19014e942b9", func := "loop.example/g01073/laws.FnExactIsFraction", spec := "fnExactIsFraction", named := ["loop.example/g01073/impl.smallPrimes"], apart := false, laid := [("loop.example/g01073/impl.smallPrimes", laid_loop_example_g01073_impl_smallPrimes)] }
def FnExactIsFractionSaid : Prop := fnExactIsFractionRow.holds Tryd.pinned (OpenSpec.ofChange fnExactIsFractionSpec)

/-- ITS FALSE NEIGHBOUR: 'it returns false'. Refute it at one input. -/
def fnExactIsFractionWrong : ChangeSpec := { name := "fnExactIsFraction", vars := ["loop.example/g01073/impl.smallPrimes"], fn := fun _ => fun
  | [d1, d2, g1] => { results := [.lit (.bool false)], args := [d1, d2], vars := [g1] }
  | _ => none }
def FnExactIsFractionWrongFalsely : Prop := fnExactIsFractionRow.holds Tryd.pinned (OpenSpec.ofChange fnExactIsFractionWrong)

/-- 'laws.FnExactIsCausal': WHATEVER THE INPUT: true; the input reads as it did. -/
def fnExactIsCausalSpec : ChangeSpec := { name := "fnExactIsCausal", vars := ["loop.example/g01073/impl.smallPrimes"], fn := fun _ => fun
  | [d1, d2, g1] => { results := [.lit (.bool true)], args := [d1, d2], vars := [g1] }
  | _ => none }
def fnExactIsCausalRow : OpenClaim := { program := "ytjkomgoncmbgiaadoor", sum := "2276021a4118770bf1df056297642ce0b76210932c5c84293852e19014e942b9", func := "loop.example/g01073/laws.FnExactIsCausal", spec := "fnExactIsCausal", named := ["loop.example/g01073/impl.smallPrimes"], apart := false, laid := [("loop.example/g01073/impl.smallPrimes", laid_loop_example_g01073_impl_smallPrimes)] }
def FnExactIsCausalSaid : Prop := fnExactIsCausalRow.holds Tryd.pinned (OpenSpec.ofChange fnExactIsCausalSpec)

/-- ITS FALSE NEIGHBOUR: 'it returns false'. Refute it at one input. -/
def fnExactIsCausalWrong : ChangeSpec := { name := "fnExactIsCausal", vars := ["loop.example/g01073/impl.smallPrimes"], fn := fun _ => fun
  | [d1, d2, g1] => { results := [.lit (.bool false)], args := [d1, d2], vars := [g1] }
  | _ => none }
def FnExactIsCausalWrongFalsely : Prop := fnExactIsCausalRow.holds Tryd.pinned (OpenSpec.ofChange fnExactIsCausalWrong)

/-- 'laws.FnExactIsIrreducible': WHATEVER THE INPUT: true; the input reads as it did. -/
def fnExactIsIrreducibleSpec : ChangeSpec := { name := "fnExactIsIrreducible", vars := ["loop.example/g01073/impl.smallPrimes"], fn := fun _ => fun
  | [d1, d2, g1] => { results := [.lit (.bool true)], args := [d1, d2], vars := [g1] }
  | _ => none }
def fnExactIsIrreducibleRow : OpenClaim := { program := "ytjkomgoncmbgiaadoor", sum := "2276021a4118770bf1df056297642ce0b76210932c5c84293852e19014e942b9", func := "loop.example/g01073/laws.FnExactIsIrreducible", spec := "fnExactIsIrreducible", unfollowed := true, recurses := true, named := ["loop.example/g01073/impl.smallPrimes"], apart := false, laid := [("loop.example/g01073/impl.smallPrimes", laid_loop_example_g01073_impl_smallPrimes)] }
def FnExactIsIrreducibleSaid : Prop := fnExactIsIrreducibleRow.holds Tryd.pinned (OpenSpec.ofChange fnExactIsIrreducibleSpec)

/-- ITS FALSE NEIGHBOUR: 'it returns false'. Refute it at one input. -/
def fnExactIsIrreducibleWrong : ChangeSpec := { name := "fnExactIsIrreducible", vars := ["loop.example/g01073/impl.smallPrimes"], fn := fun _ => fun
  | [d1, d2, g1] => { results := [.lit (.bool false)], args := [d1, d2], vars := [g1] }
  | _ => none }
def FnExactIsIrreducibleWrongFalsely : Prop := fnExactIsIrreducibleRow.holds Tryd.pinned (OpenSpec.ofChange fnExactIsIrreducibleWrong)

/- THE SECOND FORM. 'bulk': how many values and letters a reading holds, each counted each time it is reached (what is shared counts as often as it is met; a slice's spare places count too). A statement '..UptoSaid' is the law's where the arguments, and the package variables that the reading takes, are together of bulk at most 1048576: NARROWER than '..Said'. Prove '..Said' where nothing that the law and all that it calls make is longer than what came in: it says more and counts as full. Else prove '..UptoSaid'. A law counts once. -/
mutual
def uptoBulk {H : Type} : DataW H → Nat
  | .lit (.string bytes) => bytes.length + 1
  | .lit _ => 1
  | .nil => 1
  | .ptr d => uptoBulk d + 1
  | .slice elems spare => uptoBulkAll elems + uptoBulkAll spare + 1
  | .agg parts => uptoBulkAll parts + 1
  | .iface _ d => uptoBulk d + 1
  | .map entries => uptoBulkEntries entries + 1
  | .held _ => 1
def uptoBulkAll {H : Type} : List (DataW H) → Nat
  | [] => 0
  | d :: r => uptoBulk d + uptoBulkAll r
def uptoBulkEntries {H : Type} : List (Lit × DataW H) → Nat
  | [] => 0
  | x :: r => uptoBulkEntry x + uptoBulkEntries r
def uptoBulkEntry {H : Type} : Lit × DataW H → Nat
  | (.string bytes, d) => bytes.length + uptoBulk d + 1
  | (_, d) => uptoBulk d + 1
 end
def uptoSmall : (H : Type) → List (DataW H) → Bool := fun _ ds => decide (uptoBulkAll ds ≤ 1048576)
def OpenSpec.upto (s : _root_.Go.ChangeSpec) : _root_.Go.OpenSpec := { _root_.Go.OpenSpec.ofChange s with cond := some uptoSmall }

/-- 'laws.FnExactConvolveSeries', WHERE WHAT IT READS IS OF BULK AT MOST 1048576: true; the input reads as it did. -/
def fnExactConvolveSeriesUptoRow : OpenClaim := { program := "ytjkomgoncmbgiaadoor", sum := "2276021a4118770bf1df056297642ce0b76210932c5c84293852e19014e942b9", func := "loop.example/g01073/laws.FnExactConvolveSeries", spec := "fnExactConvolveSeries", named := ["loop.example/g01073/impl.smallPrimes"], apart := false, laid := [("loop.example/g01073/impl.smallPrimes", laid_loop_example_g01073_impl_smallPrimes)], narrowed := true }
def FnExactConvolveSeriesUptoSaid : Prop := fnExactConvolveSeriesUptoRow.holds Tryd.pinned (OpenSpec.upto fnExactConvolveSeriesSpec)

/-- 'laws.FnExactIsStateSpace', WHERE WHAT IT READS IS OF BULK AT MOST 1048576: true; the input reads as it did. -/
def fnExactIsStateSpaceUptoRow : OpenClaim := { program := "ytjkomgoncmbgiaadoor", sum := "2276021a4118770bf1df056297642ce0b76210932c5c84293852e19014e942b9", func := "loop.example/g01073/laws.FnExactIsStateSpace", spec := "fnExactIsStateSpace", named := ["loop.example/g01073/impl.smallPrimes"], apart := false, laid := [("loop.example/g01073/impl.smallPrimes", laid_loop_example_g01073_impl_smallPrimes)], narrowed := true }
def FnExactIsStateSpaceUptoSaid : Prop := fnExactIsStateSpaceUptoRow.holds Tryd.pinned (OpenSpec.upto fnExactIsStateSpaceSpec)

/-- 'laws.FnExactPolyPowerModulo', WHERE WHAT IT READS IS OF BULK AT MOST 1048576: true; the input reads as it did. -/
def fnExactPolyPowerModuloUptoRow : OpenClaim := { program := "ytjkomgoncmbgiaadoor", sum := "2276021a4118770bf1df056297642ce0b76210932c5c84293852e19014e942b9", func := "loop.example/g01073/laws.FnExactPolyPowerModulo", spec := "fnExactPolyPowerModulo", unfollowed := true, recurses := true, named := ["loop.example/g01073/impl.smallPrimes"], apart := false, laid := [("loop.example/g01073/impl.smallPrimes", laid_loop_example_g01073_impl_smallPrimes)], narrowed := true }
def FnExactPolyPowerModuloUptoSaid : Prop := fnExactPolyPowerModuloUptoRow.holds Tryd.pinned (OpenSpec.upto fnExactPolyPowerModuloSpec)

/-- 'laws.FnExactIsFraction', WHERE WHAT IT READS IS OF BULK AT MOST 1048576: true; the input reads as it did. -/
def fnExactIsFractionUptoRow : OpenClaim := { program := "ytjkomgoncmbgiaadoor", sum := "2276021a4118770bf1df056297642ce0b76210932c5c84293852e19014e942b9", func := "loop.example/g01073/laws.FnExactIsFraction", spec := "fnExactIsFraction", named := ["loop.example/g01073/impl.smallPrimes"], apart := false, laid := [("loop.example/g01073/impl.smallPrimes", laid_loop_example_g01073_impl_smallPrimes)], narrowed := true }
def FnExactIsFractionUptoSaid : Prop := fnExactIsFractionUptoRow.holds Tryd.pinned (OpenSpec.upto fnExactIsFractionSpec)

/-- 'laws.FnExactIsCausal', WHERE WHAT IT READS IS OF BULK AT MOST 1048576: true; the input reads as it did. -/
def fnExactIsCausalUptoRow : OpenClaim := { program := "ytjkomgoncmbgiaadoor", sum := "2276021a4118770bf1df056297642ce0b76210932c5c84293852e19014e942b9", func := "loop.example/g01073/laws.FnExactIsCausal", spec := "fnExactIsCausal", named := ["loop.example/g01073/impl.smallPrimes"], apart := false, laid := [("loop.example/g01073/impl.smallPrimes", laid_loop_example_g01073_impl_smallPrimes)], narrowed := true }
def FnExactIsCausalUptoSaid : Prop := fnExactIsCausalUptoRow.holds Tryd.pinned (OpenSpec.upto fnExactIsCausalSpec)

/-- 'laws.FnExactIsIrreducible', WHERE WHAT IT READS IS OF BULK AT MOST 1048576: true; the input reads as it did. -/
def fnExactIsIrreducibleUptoRow : OpenClaim := { program := "ytjkomgoncmbgiaadoor", sum := "2276021a4118770bf1df056297642ce0b76210932c5c84293852e19014e942b9", func := "loop.example/g01073/laws.FnExactIsIrreducible", spec := "fnExactIsIrreducible", unfollowed := true, recurses := true, named := ["loop.example/g01073/impl.smallPrimes"], apart := false, laid := [("loop.example/g01073/impl.smallPrimes", laid_loop_example_g01073_impl_smallPrimes)], narrowed := true }
def FnExactIsIrreducibleUptoSaid : Prop := fnExactIsIrreducibleUptoRow.holds Tryd.pinned (OpenSpec.upto fnExactIsIrreducibleSpec)

end Rows
end Go.Proofs.YtjkomgoncmbgiaaDoor
