/-
  NARROWER THAN 'FOR EVERY INPUT', by the rows' own cells (each row's printed sentence says how): FnExactIsStateSpace: laid · FnExactOrderOfFraction: laid · FnExactIsCircuit: laid · FnExactMakeFraction: laid · FnExactPolyBezout: laid · FnExactRunSpace: laid · FnExactFractionAt: laid · FnExactFractionInverse: laid · FnExactScheduleOf: laid · FnExactSeriesOf: laid · FnExactFractionMul: laid · FnExactFractionAdd: laid.
  DERIVED. THE GIVEN ROWS OF THIS SEAT. 12 by the template 'for every input the law returns true; each argument reads behind the call as it read before'; 0 by the template 'total and deterministic' (their statements: YtpiplogjbeofoaaDoorTotals.lean).
  GIVEN WITH THE SEED: the statements are not yours to turn. If you find one false, say at which input.
  Laid BY PROGRAM, IN A SANDBOX (cutbox-rows.mjs): the forced cells as the released guide's own fill.sh prints them over the translation 5f4d1a7a40417570… (all of the seat's roots in one cut). By AI agents, Wed Nov 11 2026. No macro, syntax, notation, axiom, sorry.
-/
import Derived.Test.YtpiplogjbeofoaaDoorChecked
import GoSem.Claim
import GoSem.ClaimJoined
import GoSem.ClaimMapViews
import Derived.JoinedTies
import Derived.KernelRfl
namespace Go.Proofs.YtpiplogjbeofoaaDoor
/- THE CELL 'sum', in the pinned program and in every row, IS THE sha256 OF THE DUMP (.gsa) THAT YtpiplogjbeofoaaDoorProg.lean LOADS. Nothing in Lean hashes anything: it is a label: what it is worth is what the hold of that sum in a sandbox is worth. -/
noncomputable def Tryd.pinned : Pinned := { name := "ytpiplogjbeofoaadoor", sum := "5f4d1a7a4041757043f8b7827b5b4e07123ad1ff8b67a2b5961e85e409766712", checked := Tryd.checked }
namespace Rows
def none {H : Type} : Left H := { results := [], args := [] }

/- WHAT THE LISTED PACKAGE-LEVEL VARIABLES READ AS WHEN THE CALL BEGINS. Each datum BY PROGRAM (the guide's laid-datum.mjs) off the statement by which the dump's own 'gosem.cut.vars' lays the variable. In a bare row this is a premise. The card (YtpiplogjbeofoaaDoorCards.lean) ties it to the program's text. -/
def laid_loop_example_g01073_impl_smallPrimes {H : Type} : DataW H := .agg [.lit (.int .i64 2), .lit (.int .i64 3), .lit (.int .i64 5), .lit (.int .i64 7)]

/-- 'laws.FnExactIsStateSpace': WHATEVER THE INPUT: true; the input reads as it did. -/
def fnExactIsStateSpaceSpec : ChangeSpec := { name := "fnExactIsStateSpace", vars := ["loop.example/g01073/impl.smallPrimes"], fn := fun _ => fun
  | [d1, d2, g1] => { results := [.lit (.bool true)], args := [d1, d2], vars := [g1] }
  | _ => none }
def fnExactIsStateSpaceRow : OpenClaim := { program := "ytpiplogjbeofoaadoor", sum := "5f4d1a7a4041757043f8b7827b5b4e07123ad1ff8b67a2b5961e85e409766712", func := "loop.example/g01073/laws.FnExactIsStateSpace", spec := "fnExactIsStateSpace", named := ["loop.example/g01073/impl.smallPrimes"], apart := false, laid := [("loop.example/g01073/impl.smallPrimes", laid_loop_example_g01073_impl_smallPrimes)] }
def FnExactIsStateSpaceSaid : Prop := fnExactIsStateSpaceRow.holds Tryd.pinned (OpenSpec.ofChange fnExactIsStateSpaceSpec)

/-- ITS FALSE NEIGHBOUR: 'it returns false'. Refute it at one input. -/
def fnExactIsStateSpaceWrong : ChangeSpec := { name := "fnExactIsStateSpace", vars := ["loop.example/g01073/impl.smallPrimes"], fn := fun _ => fun
  | [d1, d2, g1] => { results := [.lit (.bool false)], args := [d1, d2], vars := [g1] }
  | _ => none }
def FnExactIsStateSpaceWrongFalsely : Prop := fnExactIsStateSpaceRow.holds Tryd.pinned (OpenSpec.ofChange fnExactIsStateSpaceWrong)

/-- 'laws.FnExactOrderOfFraction': WHATEVER THE INPUT: true; the input reads as it did. -/
def fnExactOrderOfFractionSpec : ChangeSpec := { name := "fnExactOrderOfFraction", vars := ["loop.example/g01073/impl.smallPrimes"], fn := fun _ => fun
  | [d1, d2, g1] => { results := [.lit (.bool true)], args := [d1, d2], vars := [g1] }
  | _ => none }
def fnExactOrderOfFractionRow : OpenClaim := { program := "ytpiplogjbeofoaadoor", sum := "5f4d1a7a4041757043f8b7827b5b4e07123ad1ff8b67a2b5961e85e409766712", func := "loop.example/g01073/laws.FnExactOrderOfFraction", spec := "fnExactOrderOfFraction", named := ["loop.example/g01073/impl.smallPrimes"], apart := false, laid := [("loop.example/g01073/impl.smallPrimes", laid_loop_example_g01073_impl_smallPrimes)] }
def FnExactOrderOfFractionSaid : Prop := fnExactOrderOfFractionRow.holds Tryd.pinned (OpenSpec.ofChange fnExactOrderOfFractionSpec)

/-- ITS FALSE NEIGHBOUR: 'it returns false'. Refute it at one input. -/
def fnExactOrderOfFractionWrong : ChangeSpec := { name := "fnExactOrderOfFraction", vars := ["loop.example/g01073/impl.smallPrimes"], fn := fun _ => fun
  | [d1, d2, g1] => { results := [.lit (.bool false)], args := [d1, d2], vars := [g1] }
  | _ => none }
def FnExactOrderOfFractionWrongFalsely : Prop := fnExactOrderOfFractionRow.holds Tryd.pinned (OpenSpec.ofChange fnExactOrderOfFractionWrong)

/-- 'laws.FnExactIsCircuit': WHATEVER THE INPUT: true; the input reads as it did. -/
def fnExactIsCircuitSpec : ChangeSpec := { name := "fnExactIsCircuit", vars := ["loop.example/g01073/impl.smallPrimes"], fn := fun _ => fun
  | [d1, d2, g1] => { results := [.lit (.bool true)], args := [d1, d2], vars := [g1] }
  | _ => none }
def fnExactIsCircuitRow : OpenClaim := { program := "ytpiplogjbeofoaadoor", sum := "5f4d1a7a4041757043f8b7827b5b4e07123ad1ff8b67a2b5961e85e409766712", func := "loop.example/g01073/laws.FnExactIsCircuit", spec := "fnExactIsCircuit", unfollowed := true, recurses := true, named := ["loop.example/g01073/impl.smallPrimes"], apart := false, laid := [("loop.example/g01073/impl.smallPrimes", laid_loop_example_g01073_impl_smallPrimes)] }
def FnExactIsCircuitSaid : Prop := fnExactIsCircuitRow.holds Tryd.pinned (OpenSpec.ofChange fnExactIsCircuitSpec)

/-- ITS FALSE NEIGHBOUR: 'it returns false'. Refute it at one input. -/
def fnExactIsCircuitWrong : ChangeSpec := { name := "fnExactIsCircuit", vars := ["loop.example/g01073/impl.smallPrimes"], fn := fun _ => fun
  | [d1, d2, g1] => { results := [.lit (.bool false)], args := [d1, d2], vars := [g1] }
  | _ => none }
def FnExactIsCircuitWrongFalsely : Prop := fnExactIsCircuitRow.holds Tryd.pinned (OpenSpec.ofChange fnExactIsCircuitWrong)

/-- 'laws.FnExactMakeFraction': WHATEVER THE INPUT: true; the input reads as it did. -/
def fnExactMakeFractionSpec : ChangeSpec := { name := "fnExactMakeFraction", vars := ["loop.example/g01073/impl.smallPrimes"], fn := fun _ => fun
  | [d1, d2, d3, g1] => { results := [.lit (.bool true)], args := [d1, d2, d3], vars := [g1] }
  | _ => none }
def fnExactMakeFractionRow : OpenClaim := { program := "ytpiplogjbeofoaadoor", sum := "5f4d1a7a4041757043f8b7827b5b4e07123ad1ff8b67a2b5961e85e409766712", func := "loop.example/g01073/laws.FnExactMakeFraction", spec := "fnExactMakeFraction", named := ["loop.example/g01073/impl.smallPrimes"], apart := false, laid := [("loop.example/g01073/impl.smallPrimes", laid_loop_example_g01073_impl_smallPrimes)] }
def FnExactMakeFractionSaid : Prop := fnExactMakeFractionRow.holds Tryd.pinned (OpenSpec.ofChange fnExactMakeFractionSpec)

/-- ITS FALSE NEIGHBOUR: 'it returns false'. Refute it at one input. -/
def fnExactMakeFractionWrong : ChangeSpec := { name := "fnExactMakeFraction", vars := ["loop.example/g01073/impl.smallPrimes"], fn := fun _ => fun
  | [d1, d2, d3, g1] => { results := [.lit (.bool false)], args := [d1, d2, d3], vars := [g1] }
  | _ => none }
def FnExactMakeFractionWrongFalsely : Prop := fnExactMakeFractionRow.holds Tryd.pinned (OpenSpec.ofChange fnExactMakeFractionWrong)

/-- 'laws.FnExactPolyBezout': WHATEVER THE INPUT: true; the input reads as it did. -/
def fnExactPolyBezoutSpec : ChangeSpec := { name := "fnExactPolyBezout", vars := ["loop.example/g01073/impl.smallPrimes"], fn := fun _ => fun
  | [d1, d2, d3, g1] => { results := [.lit (.bool true)], args := [d1, d2, d3], vars := [g1] }
  | _ => none }
def fnExactPolyBezoutRow : OpenClaim := { program := "ytpiplogjbeofoaadoor", sum := "5f4d1a7a4041757043f8b7827b5b4e07123ad1ff8b67a2b5961e85e409766712", func := "loop.example/g01073/laws.FnExactPolyBezout", spec := "fnExactPolyBezout", named := ["loop.example/g01073/impl.smallPrimes"], apart := false, laid := [("loop.example/g01073/impl.smallPrimes", laid_loop_example_g01073_impl_smallPrimes)] }
def FnExactPolyBezoutSaid : Prop := fnExactPolyBezoutRow.holds Tryd.pinned (OpenSpec.ofChange fnExactPolyBezoutSpec)

/-- ITS FALSE NEIGHBOUR: 'it returns false'. Refute it at one input. -/
def fnExactPolyBezoutWrong : ChangeSpec := { name := "fnExactPolyBezout", vars := ["loop.example/g01073/impl.smallPrimes"], fn := fun _ => fun
  | [d1, d2, d3, g1] => { results := [.lit (.bool false)], args := [d1, d2, d3], vars := [g1] }
  | _ => none }
def FnExactPolyBezoutWrongFalsely : Prop := fnExactPolyBezoutRow.holds Tryd.pinned (OpenSpec.ofChange fnExactPolyBezoutWrong)

/-- 'laws.FnExactRunSpace': WHATEVER THE INPUT: true; the input reads as it did. -/
def fnExactRunSpaceSpec : ChangeSpec := { name := "fnExactRunSpace", vars := ["loop.example/g01073/impl.smallPrimes"], fn := fun _ => fun
  | [d1, d2, d3, g1] => { results := [.lit (.bool true)], args := [d1, d2, d3], vars := [g1] }
  | _ => none }
def fnExactRunSpaceRow : OpenClaim := { program := "ytpiplogjbeofoaadoor", sum := "5f4d1a7a4041757043f8b7827b5b4e07123ad1ff8b67a2b5961e85e409766712", func := "loop.example/g01073/laws.FnExactRunSpace", spec := "fnExactRunSpace", named := ["loop.example/g01073/impl.smallPrimes"], apart := false, laid := [("loop.example/g01073/impl.smallPrimes", laid_loop_example_g01073_impl_smallPrimes)] }
def FnExactRunSpaceSaid : Prop := fnExactRunSpaceRow.holds Tryd.pinned (OpenSpec.ofChange fnExactRunSpaceSpec)

/-- ITS FALSE NEIGHBOUR: 'it returns false'. Refute it at one input. -/
def fnExactRunSpaceWrong : ChangeSpec := { name := "fnExactRunSpace", vars := ["loop.example/g01073/impl.smallPrimes"], fn := fun _ => fun
  | [d1, d2, d3, g1] => { results := [.lit (.bool false)], args := [d1, d2, d3], vars := [g1] }
  | _ => none }
def FnExactRunSpaceWrongFalsely : Prop := fnExactRunSpaceRow.holds Tryd.pinned (OpenSpec.ofChange fnExactRunSpaceWrong)

/-- 'laws.FnExactFractionAt': WHATEVER THE INPUT: true; the input reads as it did. -/
def fnExactFractionAtSpec : ChangeSpec := { name := "fnExactFractionAt", vars := ["loop.example/g01073/impl.smallPrimes"], fn := fun _ => fun
  | [d1, d2, d3, g1] => { results := [.lit (.bool true)], args := [d1, d2, d3], vars := [g1] }
  | _ => none }
def fnExactFractionAtRow : OpenClaim := { program := "ytpiplogjbeofoaadoor", sum := "5f4d1a7a4041757043f8b7827b5b4e07123ad1ff8b67a2b5961e85e409766712", func := "loop.example/g01073/laws.FnExactFractionAt", spec := "fnExactFractionAt", unfollowed := true, recurses := true, named := ["loop.example/g01073/impl.smallPrimes"], apart := false, laid := [("loop.example/g01073/impl.smallPrimes", laid_loop_example_g01073_impl_smallPrimes)] }
def FnExactFractionAtSaid : Prop := fnExactFractionAtRow.holds Tryd.pinned (OpenSpec.ofChange fnExactFractionAtSpec)

/-- ITS FALSE NEIGHBOUR: 'it returns false'. Refute it at one input. -/
def fnExactFractionAtWrong : ChangeSpec := { name := "fnExactFractionAt", vars := ["loop.example/g01073/impl.smallPrimes"], fn := fun _ => fun
  | [d1, d2, d3, g1] => { results := [.lit (.bool false)], args := [d1, d2, d3], vars := [g1] }
  | _ => none }
def FnExactFractionAtWrongFalsely : Prop := fnExactFractionAtRow.holds Tryd.pinned (OpenSpec.ofChange fnExactFractionAtWrong)

/-- 'laws.FnExactFractionInverse': WHATEVER THE INPUT: true; the input reads as it did. -/
def fnExactFractionInverseSpec : ChangeSpec := { name := "fnExactFractionInverse", vars := ["loop.example/g01073/impl.smallPrimes"], fn := fun _ => fun
  | [d1, d2, g1] => { results := [.lit (.bool true)], args := [d1, d2], vars := [g1] }
  | _ => none }
def fnExactFractionInverseRow : OpenClaim := { program := "ytpiplogjbeofoaadoor", sum := "5f4d1a7a4041757043f8b7827b5b4e07123ad1ff8b67a2b5961e85e409766712", func := "loop.example/g01073/laws.FnExactFractionInverse", spec := "fnExactFractionInverse", named := ["loop.example/g01073/impl.smallPrimes"], apart := false, laid := [("loop.example/g01073/impl.smallPrimes", laid_loop_example_g01073_impl_smallPrimes)] }
def FnExactFractionInverseSaid : Prop := fnExactFractionInverseRow.holds Tryd.pinned (OpenSpec.ofChange fnExactFractionInverseSpec)

/-- ITS FALSE NEIGHBOUR: 'it returns false'. Refute it at one input. -/
def fnExactFractionInverseWrong : ChangeSpec := { name := "fnExactFractionInverse", vars := ["loop.example/g01073/impl.smallPrimes"], fn := fun _ => fun
  | [d1, d2, g1] => { results := [.lit (.bool false)], args := [d1, d2], vars := [g1] }
  | _ => none }
def FnExactFractionInverseWrongFalsely : Prop := fnExactFractionInverseRow.holds Tryd.pinned (OpenSpec.ofChange fnExactFractionInverseWrong)

/-- 'laws.FnExactScheduleOf': WHATEVER THE INPUT: true; the input reads as it did. -/
def fnExactScheduleOfSpec : ChangeSpec := { name := "fnExactScheduleOf", vars := ["loop.example/g01073/impl.smallPrimes"], fn := fun _ => fun
  | [d1, d2, g1] => { results := [.lit (.bool true)], args := [d1, d2], vars := [g1] }
  | _ => none }
def fnExactScheduleOfRow : OpenClaim := { program := "ytpiplogjbeofoaadoor", sum := "5f4d1a7a4041757043f8b7827b5b4e07123ad1ff8b67a2b5961e85e409766712", func := "loop.example/g01073/laws.FnExactScheduleOf", spec := "fnExactScheduleOf", unfollowed := true, recurses := true, named := ["loop.example/g01073/impl.smallPrimes"], apart := false, laid := [("loop.example/g01073/impl.smallPrimes", laid_loop_example_g01073_impl_smallPrimes)] }
def FnExactScheduleOfSaid : Prop := fnExactScheduleOfRow.holds Tryd.pinned (OpenSpec.ofChange fnExactScheduleOfSpec)

/-- ITS FALSE NEIGHBOUR: 'it returns false'. Refute it at one input. -/
def fnExactScheduleOfWrong : ChangeSpec := { name := "fnExactScheduleOf", vars := ["loop.example/g01073/impl.smallPrimes"], fn := fun _ => fun
  | [d1, d2, g1] => { results := [.lit (.bool false)], args := [d1, d2], vars := [g1] }
  | _ => none }
def FnExactScheduleOfWrongFalsely : Prop := fnExactScheduleOfRow.holds Tryd.pinned (OpenSpec.ofChange fnExactScheduleOfWrong)

/-- 'laws.FnExactSeriesOf': WHATEVER THE INPUT: true; the input reads as it did. -/
def fnExactSeriesOfSpec : ChangeSpec := { name := "fnExactSeriesOf", vars := ["loop.example/g01073/impl.smallPrimes"], fn := fun _ => fun
  | [d1, d2, d3, g1] => { results := [.lit (.bool true)], args := [d1, d2, d3], vars := [g1] }
  | _ => none }
def fnExactSeriesOfRow : OpenClaim := { program := "ytpiplogjbeofoaadoor", sum := "5f4d1a7a4041757043f8b7827b5b4e07123ad1ff8b67a2b5961e85e409766712", func := "loop.example/g01073/laws.FnExactSeriesOf", spec := "fnExactSeriesOf", named := ["loop.example/g01073/impl.smallPrimes"], apart := false, laid := [("loop.example/g01073/impl.smallPrimes", laid_loop_example_g01073_impl_smallPrimes)] }
def FnExactSeriesOfSaid : Prop := fnExactSeriesOfRow.holds Tryd.pinned (OpenSpec.ofChange fnExactSeriesOfSpec)

/-- ITS FALSE NEIGHBOUR: 'it returns false'. Refute it at one input. -/
def fnExactSeriesOfWrong : ChangeSpec := { name := "fnExactSeriesOf", vars := ["loop.example/g01073/impl.smallPrimes"], fn := fun _ => fun
  | [d1, d2, d3, g1] => { results := [.lit (.bool false)], args := [d1, d2, d3], vars := [g1] }
  | _ => none }
def FnExactSeriesOfWrongFalsely : Prop := fnExactSeriesOfRow.holds Tryd.pinned (OpenSpec.ofChange fnExactSeriesOfWrong)

/-- 'laws.FnExactFractionMul': WHATEVER THE INPUT: true; the input reads as it did. -/
def fnExactFractionMulSpec : ChangeSpec := { name := "fnExactFractionMul", vars := ["loop.example/g01073/impl.smallPrimes"], fn := fun _ => fun
  | [d1, d2, d3, g1] => { results := [.lit (.bool true)], args := [d1, d2, d3], vars := [g1] }
  | _ => none }
def fnExactFractionMulRow : OpenClaim := { program := "ytpiplogjbeofoaadoor", sum := "5f4d1a7a4041757043f8b7827b5b4e07123ad1ff8b67a2b5961e85e409766712", func := "loop.example/g01073/laws.FnExactFractionMul", spec := "fnExactFractionMul", named := ["loop.example/g01073/impl.smallPrimes"], apart := false, laid := [("loop.example/g01073/impl.smallPrimes", laid_loop_example_g01073_impl_smallPrimes)] }
def FnExactFractionMulSaid : Prop := fnExactFractionMulRow.holds Tryd.pinned (OpenSpec.ofChange fnExactFractionMulSpec)

/-- ITS FALSE NEIGHBOUR: 'it returns false'. Refute it at one input. -/
def fnExactFractionMulWrong : ChangeSpec := { name := "fnExactFractionMul", vars := ["loop.example/g01073/impl.smallPrimes"], fn := fun _ => fun
  | [d1, d2, d3, g1] => { results := [.lit (.bool false)], args := [d1, d2, d3], vars := [g1] }
  | _ => none }
def FnExactFractionMulWrongFalsely : Prop := fnExactFractionMulRow.holds Tryd.pinned (OpenSpec.ofChange fnExactFractionMulWrong)

/-- 'laws.FnExactFractionAdd': WHATEVER THE INPUT: true; the input reads as it did. -/
def fnExactFractionAddSpec : ChangeSpec := { name := "fnExactFractionAdd", vars := ["loop.example/g01073/impl.smallPrimes"], fn := fun _ => fun
  | [d1, d2, d3, g1] => { results := [.lit (.bool true)], args := [d1, d2, d3], vars := [g1] }
  | _ => none }
def fnExactFractionAddRow : OpenClaim := { program := "ytpiplogjbeofoaadoor", sum := "5f4d1a7a4041757043f8b7827b5b4e07123ad1ff8b67a2b5961e85e409766712", func := "loop.example/g01073/laws.FnExactFractionAdd", spec := "fnExactFractionAdd", unfollowed := true, recurses := true, named := ["loop.example/g01073/impl.smallPrimes"], apart := false, laid := [("loop.example/g01073/impl.smallPrimes", laid_loop_example_g01073_impl_smallPrimes)] }
def FnExactFractionAddSaid : Prop := fnExactFractionAddRow.holds Tryd.pinned (OpenSpec.ofChange fnExactFractionAddSpec)

/-- ITS FALSE NEIGHBOUR: 'it returns false'. Refute it at one input. -/
def fnExactFractionAddWrong : ChangeSpec := { name := "fnExactFractionAdd", vars := ["loop.example/g01073/impl.smallPrimes"], fn := fun _ => fun
  | [d1, d2, d3, g1] => { results := [.lit (.bool false)], args := [d1, d2, d3], vars := [g1] }
  | _ => none }
def FnExactFractionAddWrongFalsely : Prop := fnExactFractionAddRow.holds Tryd.pinned (OpenSpec.ofChange fnExactFractionAddWrong)

/- THE SECOND FORM. 'bulk': how many values and letters a reading holds, each counted each time it is reached (what is shared counts as often as it is met; a slice's spare places count too). A statement '..UptoSaid' is the law's where the arguments, and the package variables that the reading takes, are together of bulk at most 1048576: NARROWER than '..Said'. Prove '..Said' where nothing that the law and all that it calls make is longer than what came in: it says more and counts as full. Else prove '..UptoSaid'. A law counts once. -/
mutual
def uptoBulk {H : Type} : DataW H → Nat
  | .lit (.string bytes) => bytes.length + 1
  | .lit _ => 1
  | .nil => 1
  | .ptr d => uptoBulk d + 1
  | .slice elems spare => uptoBulkAll elems + uptoBulkAll spare + 1
  | .agg parts => uptoBulkAll parts + 1
  | .iface _ d => uptoBulk d + 1
  | .map entries => uptoBulkEntries entries + 1
  | .held _ => 1
def uptoBulkAll {H : Type} : List (DataW H) → Nat
  | [] => 0
  | d :: r => uptoBulk d + uptoBulkAll r
def uptoBulkEntries {H : Type} : List (Lit × DataW H) → Nat
  | [] => 0
  | x :: r => uptoBulkEntry x + uptoBulkEntries r
def uptoBulkEntry {H : Type} : Lit × DataW H → Nat
  | (.string bytes, d) => bytes.length + uptoBulk d + 1
  | (_, d) => uptoBulk d + 1
 end
def uptoSmall : (H : Type) → List (DataW H) → Bool := fun _ ds => decide (uptoBulkAll ds ≤ 1048576)
def OpenSpec.upto (s : _root_.Go.ChangeSpec) : _root_.Go.OpenSpec := { _root_.Go.OpenSpec.ofChange s with cond := some uptoSmall }

/-- 'laws.FnExactIsStateSpace', WHERE WHAT IT READS IS OF BULK AT MOST 1048576: true; the input reads as it did. -/
def fnExactIsStateSpaceUptoRow : OpenClaim := { program := "ytpiplogjbeofoaadoor", sum := "5f4d1a7a4041757043f8b7827b5b4e07123ad1ff8b67a2b5961e85e409766712", func := "loop.example/g01073/laws.FnExactIsStateSpace", spec := "fnExactIsStateSpace", named := ["loop.example/g01073/impl.smallPrimes"], apart := false, laid := [("loop.example/g01073/impl.smallPrimes", laid_loop_example_g01073_impl_smallPrimes)], narrowed := true }
def FnExactIsStateSpaceUptoSaid : Prop := fnExactIsStateSpaceUptoRow.holds Tryd.pinned (OpenSpec.upto fnExactIsStateSpaceSpec)

/-- 'laws.FnExactOrderOfFraction', WHERE WHAT IT READS IS OF BULK AT MOST 1048576: true; the input reads as it did. -/
def fnExactOrderOfFractionUptoRow : OpenClaim := { program := "ytpiplogjbeofoaadoor", sum := "5f4d1a7a4041757043f8b7827b5b4e07123ad1ff8b67a2b5961e85e409766712", func := "loop.example/g01073/laws.FnExactOrderOfFraction", spec := "fnExactOrderOfFraction", named := ["loop.example/g01073/impl.smallPrimes"], apart := false, laid := [("loop.example/g01073/impl.smallPrimes", laid_loop_example_g01073_impl_smallPrimes)], narrowed := true }
def FnExactOrderOfFractionUptoSaid : Prop := fnExactOrderOfFractionUptoRow.holds Tryd.pinned (OpenSpec.upto fnExactOrderOfFractionSpec)

/-- 'laws.FnExactIsCircuit', WHERE WHAT IT READS IS OF BULK AT MOST 1048576: true; the input reads as it did. -/
def fnExactIsCircuitUptoRow : OpenClaim := { program := "ytpiplogjbeofoaadoor", sum := "5f4d1a7a4041757043f8b7827b5b4e07123ad1ff8b67a2b5961e85e409766712", func := "loop.example/g01073/laws.FnExactIsCircuit", spec := "fnExactIsCircuit", unfollowed := true, recurses := true, named := ["loop.example/g01073/impl.smallPrimes"], apart := false, laid := [("loop.example/g01073/impl.smallPrimes", laid_loop_example_g01073_impl_smallPrimes)], narrowed := true }
def FnExactIsCircuitUptoSaid : Prop := fnExactIsCircuitUptoRow.holds Tryd.pinned (OpenSpec.upto fnExactIsCircuitSpec)

/-- 'laws.FnExactMakeFraction', WHERE WHAT IT READS IS OF BULK AT MOST 1048576: true; the input reads as it did. -/
def fnExactMakeFractionUptoRow : OpenClaim := { program := "ytpiplogjbeofoaadoor", sum := "5f4d1a7a4041757043f8b7827b5b4e07123ad1ff8b67a2b5961e85e409766712", func := "loop.example/g01073/laws.FnExactMakeFraction", spec := "fnExactMakeFraction", named := ["loop.example/g01073/impl.smallPrimes"], apart := false, laid := [("loop.example/g01073/impl.smallPrimes", laid_loop_example_g01073_impl_smallPrimes)], narrowed := true }
def FnExactMakeFractionUptoSaid : Prop := fnExactMakeFractionUptoRow.holds Tryd.pinned (OpenSpec.upto fnExactMakeFractionSpec)

/-- 'laws.FnExactPolyBezout', WHERE WHAT IT READS IS OF BULK AT MOST 1048576: true; the input reads as it did. -/
def fnExactPolyBezoutUptoRow : OpenClaim := { program := "ytpiplogjbeofoaadoor", sum := "5f4d1a7a4041757043f8b7827b5b4e07123ad1ff8b67a2b5961e85e409766712", func := "loop.example/g01073/laws.FnExactPolyBezout", spec := "fnExactPolyBezout", named := ["loop.example/g01073/impl.smallPrimes"], apart := false, laid := [("loop.example/g01073/impl.smallPrimes", laid_loop_example_g01073_impl_smallPrimes)], narrowed := true }
def FnExactPolyBezoutUptoSaid : Prop := fnExactPolyBezoutUptoRow.holds Tryd.pinned (OpenSpec.upto fnExactPolyBezoutSpec)

/-- 'laws.FnExactRunSpace', WHERE WHAT IT READS IS OF BULK AT MOST 1048576: true; the input reads as it did. -/
def fnExactRunSpaceUptoRow : OpenClaim := { program := "ytpiplogjbeofoaadoor", sum := "5f4d1a7a4041757043f8b7827b5b4e07123ad1ff8b67a2b5961e85e409766712", func := "loop.example/g01073/laws.FnExactRunSpace", spec := "fnExactRunSpace", named := ["loop.example/g01073/impl.smallPrimes"], apart := false, laid := [("loop.example/g01073/impl.smallPrimes", laid_loop_example_g01073_impl_smallPrimes)], narrowed := true }
def FnExactRunSpaceUptoSaid : Prop := fnExactRunSpaceUptoRow.holds Tryd.pinned (OpenSpec.upto fnExactRunSpaceSpec)

/-- 'laws.FnExactFractionAt', WHERE WHAT IT READS IS OF BULK AT MOST 1048576: true; the input reads as it did. -/
def fnExactFractionAtUptoRow : OpenClaim := { program := "ytpiplogjbeofoaadoor", sum := "5f4d1a7a4041757043f8b7827b5b4e07123ad1ff8b67a2b5961e85e409766712", func := "loop.example/g01073/laws.FnExactFractionAt", spec := "fnExactFractionAt", unfollowed := true, recurses := true, named := ["loop.example/g01073/impl.smallPrimes"], apart := false, laid := [("loop.example/g01073/impl.smallPrimes", laid_loop_example_g01073_impl_smallPrimes)], narrowed := true }
def FnExactFractionAtUptoSaid : Prop := fnExactFractionAtUptoRow.holds Tryd.pinned (OpenSpec.upto fnExactFractionAtSpec)

/-- 'laws.FnExactFractionInverse', WHERE WHAT IT READS IS OF BULK AT MOST 1048576: true; the input reads as it did. -/
def fnExactFractionInverseUptoRow : OpenClaim := { program := "ytpiplogjbeofoaadoor", sum := "5f4d1a7a4041757043f8b7827b5b4e07123ad1ff8b67a2b5961e85e409766712", func := "loop.example/g01073/laws.FnExactFractionInverse", spec := "fnExactFractionInverse", named := ["loop.example/g01073/impl.smallPrimes"], apart := false, laid := [("loop.example/g01073/impl.smallPrimes", laid_loop_example_g01073_impl_smallPrimes)], narrowed := true }
def FnExactFractionInverseUptoSaid : Prop := fnExactFractionInverseUptoRow.holds Tryd.pinned (OpenSpec.upto fnExactFractionInverseSpec)

/-- 'laws.FnExactScheduleOf', WHERE WHAT IT READS IS OF BULK AT MOST 1048576: true; the input reads as it did. -/
def fnExactScheduleOfUptoRow : OpenClaim := { program := "ytpiplogjbeofoaadoor", sum := "5f4d1a7a4041757043f8b7827b5b4e07123ad1ff8b67a2b5961e85e409766712", func := "loop.example/g01073/laws.FnExactScheduleOf", spec := "fnExactScheduleOf", unfollowed := true, recurses := true, named := ["loop.example/g01073/impl.smallPrimes"], apart := false, laid := [("loop.example/g01073/impl.smallPrimes", laid_loop_example_g01073_impl_smallPrimes)], narrowed := true }
def FnExactScheduleOfUptoSaid : Prop := fnExactScheduleOfUptoRow.holds Tryd.pinned (OpenSpec.upto fnExactScheduleOfSpec)

/-- 'laws.FnExactSeriesOf', WHERE WHAT IT READS IS OF BULK AT MOST 1048576: true; the input reads as it did. -/
def fnExactSeriesOfUptoRow : OpenClaim := { program := "ytpiplogjbeofoaadoor", sum := "5f4d1a7a4041757043f8b7827b5b4e07123ad1ff8b67a2b5961e85e409766712", func := "loop.example/g01073/laws.FnExactSeriesOf", spec := "fnExactSeriesOf", named := ["loop.example/g01073/impl.smallPrimes"], apart := false, laid := [("loop.example/g01073/impl.smallPrimes", laid_loop_example_g01073_impl_smallPrimes)], narrowed := true }
def FnExactSeriesOfUptoSaid : Prop := fnExactSeriesOfUptoRow.holds Tryd.pinned (OpenSpec.upto fnExactSeriesOfSpec)

/-- 'laws.FnExactFractionMul', WHERE WHAT IT READS IS OF BULK AT MOST 1048576: true; the input reads as it did. -/
def fnExactFractionMulUptoRow : OpenClaim := { program := "ytpiplogjbeofoaadoor", sum := "5f4d1a7a4041757043f8b7827b5b4e07123ad1ff8b67a2b5961e85e409766712", func := "loop.example/g01073/laws.FnExactFractionMul", spec := "fnExactFractionMul", named := ["loop.example/g01073/impl.smallPrimes"], apart := false, laid := [("loop.example/g01073/impl.smallPrimes", laid_loop_example_g01073_impl_smallPrimes)], narrowed := true }
def FnExactFractionMulUptoSaid : Prop := fnExactFractionMulUptoRow.holds Tryd.pinned (OpenSpec.upto fnExactFractionMulSpec)

/-- 'laws.FnExactFractionAdd', WHERE WHAT IT READS IS OF BULK AT MOST 1048576: true; the input reads as it did. -/
def fnExactFractionAddUptoRow : OpenClaim := { program := "ytpiplogjbeofoaadoor", sum := "5f4d1a7a4041757043f8b7827b5b4e07123ad1ff8b67a2b5961e85e409766712", func := "loop.example/g01073/laws.FnExactFractionAdd", spec := "fnExactFractionAdd", unfollowed := true, recurses := true, named := ["loop.example/g01073/impl.smallPrimes"], apart := false, laid := [("loop.example/g01073/impl.smallPrimes", laid_loop_example_g01073_impl_smallPrimes)], narrowed := true }
def FnExactFractionAddUptoSaid : Prop := fnExactFractionAddUptoRow.holds Tryd.pinned (OpenSpec.upto fnExactFractionAddSpec)

end Rows
end Go.Proofs.YtpiplogjbeofoaaDoor
