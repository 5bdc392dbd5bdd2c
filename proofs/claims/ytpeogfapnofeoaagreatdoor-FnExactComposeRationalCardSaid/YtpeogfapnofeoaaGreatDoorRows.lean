/-
  NARROWER THAN 'FOR EVERY INPUT', by the rows' own cells (each row's printed sentence says how): FnExactHasRatPair: laid · FnExactRatRelationFrom: laid · FnExactConverseRational: laid · FnExactTensorRational: laid · FnExactComposeRational: laid.
  DERIVED. THE GIVEN ROWS OF THIS SEAT. 5 by the template 'for every input the law returns true; each argument reads behind the call as it read before'; 0 by the template 'total and deterministic' (their statements: YtpeogfapnofeoaaGreatDoorTotals.lean).
  GIVEN WITH THE SEED: the statements are not yours to turn. If you find one false, say at which input.
  Laid BY PROGRAM, IN A SANDBOX (cutbox-rows.mjs): the forced cells as the released guide's own fill.sh prints them over the translation dfcdf646fda00b08… (all of the seat's roots in one cut). By AI agents, Wed Nov 11 2026. No macro, syntax, notation, axiom, sorry.
-/
import Derived.Test.YtpeogfapnofeoaaGreatDoorChecked
import GoSem.Claim
import GoSem.ClaimJoined
import GoSem.ClaimMapViews
import Derived.JoinedTies
import Derived.KernelRfl
namespace Go.Proofs.YtpeogfapnofeoaaGreatDoor
/- THE CELL 'sum', in the pinned program and in every row, IS THE sha256 OF THE DUMP (.gsa) THAT YtpeogfapnofeoaaGreatDoorProg.lean LOADS. Nothing in Lean hashes anything: it is a label: what it is worth is what the hold of that sum in a sandbox is worth. -/
noncomputable def Tryz.pinned : Pinned := { name := "ytpeogfapnofeoaagreatdoor", sum := "dfcdf646fda00b08a0e5bb1fd4d6c992f505dc2e2dd9688176fd25633b90a8c5", checked := Tryz.checked }
namespace Rows
def none {H : Type} : Left H := { results := [], args := [] }

/- WHAT THE LISTED PACKAGE-LEVEL VARIABLES READ AS WHEN THE CALL BEGINS. Each datum BY PROGRAM (the guide's laid-datum.mjs) off the statement by which the dump's own 'gosem.cut.vars' lays the variable. In a bare row this is a premise. The card (YtpeogfapnofeoaaGreatDoorCards.lean) ties it to the program's text. -/
def laid_loop_example_g01073_impl_smallPrimes {H : Type} : DataW H := .agg [.lit (.int .i64 2), .lit (.int .i64 3), .lit (.int .i64 5), .lit (.int .i64 7)]

/-- 'laws.FnExactHasRatPair': WHATEVER THE INPUT: true; the input reads as it did. -/
def fnExactHasRatPairSpec : ChangeSpec := { name := "fnExactHasRatPair", vars := ["loop.example/g01073/impl.smallPrimes"], fn := fun _ => fun
  | [d1, d2, d3, d4, g1] => { results := [.lit (.bool true)], args := [d1, d2, d3, d4], vars := [g1] }
  | _ => none }
def fnExactHasRatPairRow : OpenClaim := { program := "ytpeogfapnofeoaagreatdoor", sum := "dfcdf646fda00b08a0e5bb1fd4d6c992f505dc2e2dd9688176fd25633b90a8c5", func := "loop.example/g01073/laws.FnExactHasRatPair", spec := "fnExactHasRatPair", unfollowed := true, recurses := true, named := ["loop.example/g01073/impl.smallPrimes"], apart := false, laid := [("loop.example/g01073/impl.smallPrimes", laid_loop_example_g01073_impl_smallPrimes)] }
def FnExactHasRatPairSaid : Prop := fnExactHasRatPairRow.holds Tryz.pinned (OpenSpec.ofChange fnExactHasRatPairSpec)

/-- ITS FALSE NEIGHBOUR: 'it returns false'. Refute it at one input. -/
def fnExactHasRatPairWrong : ChangeSpec := { name := "fnExactHasRatPair", vars := ["loop.example/g01073/impl.smallPrimes"], fn := fun _ => fun
  | [d1, d2, d3, d4, g1] => { results := [.lit (.bool false)], args := [d1, d2, d3, d4], vars := [g1] }
  | _ => none }
def FnExactHasRatPairWrongFalsely : Prop := fnExactHasRatPairRow.holds Tryz.pinned (OpenSpec.ofChange fnExactHasRatPairWrong)

/-- 'laws.FnExactRatRelationFrom': WHATEVER THE INPUT: true; the input reads as it did. -/
def fnExactRatRelationFromSpec : ChangeSpec := { name := "fnExactRatRelationFrom", vars := ["loop.example/g01073/impl.smallPrimes"], fn := fun _ => fun
  | [d1, d2, d3, d4, g1] => { results := [.lit (.bool true)], args := [d1, d2, d3, d4], vars := [g1] }
  | _ => none }
def fnExactRatRelationFromRow : OpenClaim := { program := "ytpeogfapnofeoaagreatdoor", sum := "dfcdf646fda00b08a0e5bb1fd4d6c992f505dc2e2dd9688176fd25633b90a8c5", func := "loop.example/g01073/laws.FnExactRatRelationFrom", spec := "fnExactRatRelationFrom", unfollowed := true, recurses := true, named := ["loop.example/g01073/impl.smallPrimes"], apart := false, laid := [("loop.example/g01073/impl.smallPrimes", laid_loop_example_g01073_impl_smallPrimes)] }
def FnExactRatRelationFromSaid : Prop := fnExactRatRelationFromRow.holds Tryz.pinned (OpenSpec.ofChange fnExactRatRelationFromSpec)

/-- ITS FALSE NEIGHBOUR: 'it returns false'. Refute it at one input. -/
def fnExactRatRelationFromWrong : ChangeSpec := { name := "fnExactRatRelationFrom", vars := ["loop.example/g01073/impl.smallPrimes"], fn := fun _ => fun
  | [d1, d2, d3, d4, g1] => { results := [.lit (.bool false)], args := [d1, d2, d3, d4], vars := [g1] }
  | _ => none }
def FnExactRatRelationFromWrongFalsely : Prop := fnExactRatRelationFromRow.holds Tryz.pinned (OpenSpec.ofChange fnExactRatRelationFromWrong)

/-- 'laws.FnExactConverseRational': WHATEVER THE INPUT: true; the input reads as it did. -/
def fnExactConverseRationalSpec : ChangeSpec := { name := "fnExactConverseRational", vars := ["loop.example/g01073/impl.smallPrimes"], fn := fun _ => fun
  | [d1, d2, g1] => { results := [.lit (.bool true)], args := [d1, d2], vars := [g1] }
  | _ => none }
def fnExactConverseRationalRow : OpenClaim := { program := "ytpeogfapnofeoaagreatdoor", sum := "dfcdf646fda00b08a0e5bb1fd4d6c992f505dc2e2dd9688176fd25633b90a8c5", func := "loop.example/g01073/laws.FnExactConverseRational", spec := "fnExactConverseRational", unfollowed := true, recurses := true, named := ["loop.example/g01073/impl.smallPrimes"], apart := false, laid := [("loop.example/g01073/impl.smallPrimes", laid_loop_example_g01073_impl_smallPrimes)] }
def FnExactConverseRationalSaid : Prop := fnExactConverseRationalRow.holds Tryz.pinned (OpenSpec.ofChange fnExactConverseRationalSpec)

/-- ITS FALSE NEIGHBOUR: 'it returns false'. Refute it at one input. -/
def fnExactConverseRationalWrong : ChangeSpec := { name := "fnExactConverseRational", vars := ["loop.example/g01073/impl.smallPrimes"], fn := fun _ => fun
  | [d1, d2, g1] => { results := [.lit (.bool false)], args := [d1, d2], vars := [g1] }
  | _ => none }
def FnExactConverseRationalWrongFalsely : Prop := fnExactConverseRationalRow.holds Tryz.pinned (OpenSpec.ofChange fnExactConverseRationalWrong)

/-- 'laws.FnExactTensorRational': WHATEVER THE INPUT: true; the input reads as it did. -/
def fnExactTensorRationalSpec : ChangeSpec := { name := "fnExactTensorRational", vars := ["loop.example/g01073/impl.smallPrimes"], fn := fun _ => fun
  | [d1, d2, d3, g1] => { results := [.lit (.bool true)], args := [d1, d2, d3], vars := [g1] }
  | _ => none }
def fnExactTensorRationalRow : OpenClaim := { program := "ytpeogfapnofeoaagreatdoor", sum := "dfcdf646fda00b08a0e5bb1fd4d6c992f505dc2e2dd9688176fd25633b90a8c5", func := "loop.example/g01073/laws.FnExactTensorRational", spec := "fnExactTensorRational", unfollowed := true, recurses := true, named := ["loop.example/g01073/impl.smallPrimes"], apart := false, laid := [("loop.example/g01073/impl.smallPrimes", laid_loop_example_g01073_impl_smallPrimes)] }
def FnExactTensorRationalSaid : Prop := fnExactTensorRationalRow.holds Tryz.pinned (OpenSpec.ofChange fnExactTensorRationalSpec)

/-- ITS FALSE NEIGHBOUR: 'it returns false'. Refute it at one input. -/
def fnExactTensorRationalWrong : ChangeSpec := { name := "fnExactTensorRational", vars := ["loop.example/g01073/impl.smallPrimes"], fn := fun _ => fun
  | [d1, d2, d3, g1] => { results := [.lit (.bool false)], args := [d1, d2, d3], vars := [g1] }
  | _ => none }
def FnExactTensorRationalWrongFalsely : Prop := fnExactTensorRationalRow.holds Tryz.pinned (OpenSpec.ofChange fnExactTensorRationalWrong)

/-- 'laws.FnExactComposeRational': WHATEVER THE INPUT: true; the input reads as it did. -/
def fnExactComposeRationalSpec : ChangeSpec := { name := "fnExactComposeRational", vars := ["loop.example/g01073/impl.smallPrimes"], fn := fun _ => fun
  | [d1, d2, d3, g1] => { results := [.lit (.bool true)], args := [d1, d2, d3], vars := [g1] }
  | _ => none }
def fnExactComposeRationalRow : OpenClaim := { program := "ytpeogfapnofeoaagreatdoor", sum := "dfcdf646fda00b08a0e5bb1fd4d6c992f505dc2e2dd9688176fd25633b90a8c5", func := "loop.example/g01073/laws.FnExactComposeRational", spec := "fnExactComposeRational", unfollowed := true, recurses := true, named := ["loop.example/g01073/impl.smallPrimes"], apart := false, laid := [("loop.example/g01073/impl.smallPrimes", laid_loop_example_g01073_impl_smallPrimes)] }
def FnExactComposeRationalSaid : Prop := fnExactComposeRationalRow.holds Tryz.pinned (OpenSpec.ofChange fnExactComposeRationalSpec)

/-- ITS FALSE NEIGHBOUR: 'it returns false'. Refute it at one input. -/
def fnExactComposeRationalWrong : ChangeSpec := { name := "fnExactComposeRational", vars := ["loop.example/g01073/impl.smallPrimes"], fn := fun _ => fun
  | [d1, d2, d3, g1] => { results := [.lit (.bool false)], args := [d1, d2, d3], vars := [g1] }
  | _ => none }
def FnExactComposeRationalWrongFalsely : Prop := fnExactComposeRationalRow.holds Tryz.pinned (OpenSpec.ofChange fnExactComposeRationalWrong)

/- THE SECOND FORM. 'bulk': how many values and letters a reading holds, each counted each time it is reached (what is shared counts as often as it is met; a slice's spare places count too). A statement '..UptoSaid' is the law's where the arguments, and the package variables that the reading takes, are together of bulk at most 1048576: NARROWER than '..Said'. Prove '..Said' where nothing that the law and all that it calls make is longer than what came in: it says more and counts as full. Else prove '..UptoSaid'. A law counts once. -/
mutual
def uptoBulk {H : Type} : DataW H → Nat
  | .lit (.string bytes) => bytes.length + 1
  | .lit _ => 1
  | .nil => 1
  | .ptr d => uptoBulk d + 1
  | .slice elems spare => uptoBulkAll elems + uptoBulkAll spare + 1
  | .agg parts => uptoBulkAll parts + 1
  | .iface _ d => uptoBulk d + 1
  | .map entries => uptoBulkEntries entries + 1
  | .held _ => 1
def uptoBulkAll {H : Type} : List (DataW H) → Nat
  | [] => 0
  | d :: r => uptoBulk d + uptoBulkAll r
def uptoBulkEntries {H : Type} : List (Lit × DataW H) → Nat
  | [] => 0
  | x :: r => uptoBulkEntry x + uptoBulkEntries r
def uptoBulkEntry {H : Type} : Lit × DataW H → Nat
  | (.string bytes, d) => bytes.length + uptoBulk d + 1
  | (_, d) => uptoBulk d + 1
 end
def uptoSmall : (H : Type) → List (DataW H) → Bool := fun _ ds => decide (uptoBulkAll ds ≤ 1048576)
def OpenSpec.upto (s : _root_.Go.ChangeSpec) : _root_.Go.OpenSpec := { _root_.Go.OpenSpec.ofChange s with cond := some uptoSmall }

/-- 'laws.FnExactHasRatPair', WHERE WHAT IT READS IS OF BULK AT MOST 1048576: true; the input reads as it did. -/
def fnExactHasRatPairUptoRow : OpenClaim := { program := "ytpeogfapnofeoaagreatdoor", sum := "dfcdf646fda00b08a0e5bb1fd4d6c992f505dc2e2dd9688176fd25633b90a8c5", func := "loop.example/g01073/laws.FnExactHasRatPair", spec := "fnExactHasRatPair", unfollowed := true, recurses := true, named := ["loop.example/g01073/impl.smallPrimes"], apart := false, laid := [("loop.example/g01073/impl.smallPrimes", laid_loop_example_g01073_impl_smallPrimes)], narrowed := true }
def FnExactHasRatPairUptoSaid : Prop := fnExactHasRatPairUptoRow.holds Tryz.pinned (OpenSpec.upto fnExactHasRatPairSpec)

/-- 'laws.FnExactRatRelationFrom', WHERE WHAT IT READS IS OF BULK AT MOST 1048576: true; the input reads as it did. -/
def fnExactRatRelationFromUptoRow : OpenClaim := { program := "ytpeogfapnofeoaagreatdoor", sum := "dfcdf646fda00b08a0e5bb1fd4d6c992f505dc2e2dd9688176fd25633b90a8c5", func := "loop.example/g01073/laws.FnExactRatRelationFrom", spec := "fnExactRatRelationFrom", unfollowed := true, recurses := true, named := ["loop.example/g01073/impl.smallPrimes"], apart := false, laid := [("loop.example/g01073/impl.smallPrimes", laid_loop_example_g01073_impl_smallPrimes)], narrowed := true }
def FnExactRatRelationFromUptoSaid : Prop := fnExactRatRelationFromUptoRow.holds Tryz.pinned (OpenSpec.upto fnExactRatRelationFromSpec)

/-- 'laws.FnExactConverseRational', WHERE WHAT IT READS IS OF BULK AT MOST 1048576: true; the input reads as it did. -/
def fnExactConverseRationalUptoRow : OpenClaim := { program := "ytpeogfapnofeoaagreatdoor", sum := "dfcdf646fda00b08a0e5bb1fd4d6c992f505dc2e2dd9688176fd25633b90a8c5", func := "loop.example/g01073/laws.FnExactConverseRational", spec := "fnExactConverseRational", unfollowed := true, recurses := true, named := ["loop.example/g01073/impl.smallPrimes"], apart := false, laid := [("loop.example/g01073/impl.smallPrimes", laid_loop_example_g01073_impl_smallPrimes)], narrowed := true }
def FnExactConverseRationalUptoSaid : Prop := fnExactConverseRationalUptoRow.holds Tryz.pinned (OpenSpec.upto fnExactConverseRationalSpec)

/-- 'laws.FnExactTensorRational', WHERE WHAT IT READS IS OF BULK AT MOST 1048576: true; the input reads as it did. -/
def fnExactTensorRationalUptoRow : OpenClaim := { program := "ytpeogfapnofeoaagreatdoor", sum := "dfcdf646fda00b08a0e5bb1fd4d6c992f505dc2e2dd9688176fd25633b90a8c5", func := "loop.example/g01073/laws.FnExactTensorRational", spec := "fnExactTensorRational", unfollowed := true, recurses := true, named := ["loop.example/g01073/impl.smallPrimes"], apart := false, laid := [("loop.example/g01073/impl.smallPrimes", laid_loop_example_g01073_impl_smallPrimes)], narrowed := true }
def FnExactTensorRationalUptoSaid : Prop := fnExactTensorRationalUptoRow.holds Tryz.pinned (OpenSpec.upto fnExactTensorRationalSpec)

/-- 'laws.FnExactComposeRational', WHERE WHAT IT READS IS OF BULK AT MOST 1048576: true; the input reads as it did. -/
def fnExactComposeRationalUptoRow : OpenClaim := { program := "ytpeogfapnofeoaagreatdoor", sum := "dfcdf646fda00b08a0e5bb1fd4d6c992f505dc2e2dd9688176fd25633b90a8c5", func := "loop.example/g01073/laws.FnExactComposeRational", spec := "fnExactComposeRational", unfollowed := true, recurses := true, named := ["loop.example/g01073/impl.smallPrimes"], apart := false, laid := [("loop.example/g01073/impl.smallPrimes", laid_loop_example_g01073_impl_smallPrimes)], narrowed := true }
def FnExactComposeRationalUptoSaid : Prop := fnExactComposeRationalUptoRow.holds Tryz.pinned (OpenSpec.upto fnExactComposeRationalSpec)

end Rows
end Go.Proofs.YtpeogfapnofeoaaGreatDoor
