/-
  NARROWER THAN 'FOR EVERY INPUT', by the rows' own cells (each row's printed sentence says how): FnExactDenoteRational: laid · FnExactEqualRational: laid · FnExactIsCausalTerm: laid.
  DERIVED. THE GIVEN ROWS OF THIS SEAT. 3 by the template 'for every input the law returns true; each argument reads behind the call as it read before'; 0 by the template 'total and deterministic' (their statements: YthgiffhlfcmgaaaGreatDoorTotals.lean).
  GIVEN WITH THE SEED: the statements are not yours to turn. If you find one false, say at which input.
  Laid BY PROGRAM, IN A SANDBOX (cutbox-rows.mjs): the forced cells as the released guide's own fill.sh prints them over the translation aad5e44e3242d379… (all of the seat's roots in one cut). By AI agents, Wed Nov 11 2026. No macro, syntax, notation, axiom, sorry.
-/
import Derived.Test.YthgiffhlfcmgaaaGreatDoorChecked
import GoSem.Claim
import GoSem.ClaimJoined
import GoSem.ClaimMapViews
import Derived.JoinedTies
import Derived.KernelRfl
namespace Go.Proofs.YthgiffhlfcmgaaaGreatDoor
/- THE CELL 'sum', in the pinned program and in every row, IS THE sha256 OF THE DUMP (.gsa) THAT YthgiffhlfcmgaaaGreatDoorProg.lean LOADS. Nothing in Lean hashes anything: it is a label: what it is worth is what the hold of that sum in a sandbox is worth. -/
noncomputable def Tryz.pinned : Pinned := { name := "ythgiffhlfcmgaaagreatdoor", sum := "aad5e44e3242d37912feead36d9ad65526760a92b4e0ae4741fbe5d0a0f7817c", checked := Tryz.checked }
namespace Rows
def none {H : Type} : Left H := { results := [], args := [] }

/- WHAT THE LISTED PACKAGE-LEVEL VARIABLES READ AS WHEN THE CALL BEGINS. Each datum BY PROGRAM (the guide's laid-datum.mjs) off the statement by which the dump's own 'gosem.cut.vars' lays the variable. In a bare row this is a premise. The card (YthgiffhlfcmgaaaGreatDoorCards.lean) ties it to the program's text. -/
def laid_loop_example_g01073_impl_smallPrimes {H : Type} : DataW H := .agg [.lit (.int .i64 2), .lit (.int .i64 3), .lit (.int .i64 5), .lit (.int .i64 7)]

/-- 'laws.FnExactDenoteRational': WHATEVER THE INPUT: true; the input reads as it did. -/
def fnExactDenoteRationalSpec : ChangeSpec := { name := "fnExactDenoteRational", vars := ["loop.example/g01073/impl.smallPrimes"], fn := fun _ => fun
  | [d1, d2, g1] => { results := [.lit (.bool true)], args := [d1, d2], vars := [g1] }
  | _ => none }
def fnExactDenoteRationalRow : OpenClaim := { program := "ythgiffhlfcmgaaagreatdoor", sum := "aad5e44e3242d37912feead36d9ad65526760a92b4e0ae4741fbe5d0a0f7817c", func := "loop.example/g01073/laws.FnExactDenoteRational", spec := "fnExactDenoteRational", unfollowed := true, recurses := true, named := ["loop.example/g01073/impl.smallPrimes"], apart := false, laid := [("loop.example/g01073/impl.smallPrimes", laid_loop_example_g01073_impl_smallPrimes)] }
def FnExactDenoteRationalSaid : Prop := fnExactDenoteRationalRow.holds Tryz.pinned (OpenSpec.ofChange fnExactDenoteRationalSpec)

/-- ITS FALSE NEIGHBOUR: 'it returns false'. Refute it at one input. -/
def fnExactDenoteRationalWrong : ChangeSpec := { name := "fnExactDenoteRational", vars := ["loop.example/g01073/impl.smallPrimes"], fn := fun _ => fun
  | [d1, d2, g1] => { results := [.lit (.bool false)], args := [d1, d2], vars := [g1] }
  | _ => none }
def FnExactDenoteRationalWrongFalsely : Prop := fnExactDenoteRationalRow.holds Tryz.pinned (OpenSpec.ofChange fnExactDenoteRationalWrong)

/-- 'laws.FnExactEqualRational': WHATEVER THE INPUT: true; the input reads as it did. -/
def fnExactEqualRationalSpec : ChangeSpec := { name := "fnExactEqualRational", vars := ["loop.example/g01073/impl.smallPrimes"], fn := fun _ => fun
  | [d1, d2, d3, g1] => { results := [.lit (.bool true)], args := [d1, d2, d3], vars := [g1] }
  | _ => none }
def fnExactEqualRationalRow : OpenClaim := { program := "ythgiffhlfcmgaaagreatdoor", sum := "aad5e44e3242d37912feead36d9ad65526760a92b4e0ae4741fbe5d0a0f7817c", func := "loop.example/g01073/laws.FnExactEqualRational", spec := "fnExactEqualRational", unfollowed := true, recurses := true, named := ["loop.example/g01073/impl.smallPrimes"], apart := false, laid := [("loop.example/g01073/impl.smallPrimes", laid_loop_example_g01073_impl_smallPrimes)] }
def FnExactEqualRationalSaid : Prop := fnExactEqualRationalRow.holds Tryz.pinned (OpenSpec.ofChange fnExactEqualRationalSpec)

/-- ITS FALSE NEIGHBOUR: 'it returns false'. Refute it at one input. -/
def fnExactEqualRationalWrong : ChangeSpec := { name := "fnExactEqualRational", vars := ["loop.example/g01073/impl.smallPrimes"], fn := fun _ => fun
  | [d1, d2, d3, g1] => { results := [.lit (.bool false)], args := [d1, d2, d3], vars := [g1] }
  | _ => none }
def FnExactEqualRationalWrongFalsely : Prop := fnExactEqualRationalRow.holds Tryz.pinned (OpenSpec.ofChange fnExactEqualRationalWrong)

/-- 'laws.FnExactIsCausalTerm': WHATEVER THE INPUT: true; the input reads as it did. -/
def fnExactIsCausalTermSpec : ChangeSpec := { name := "fnExactIsCausalTerm", vars := ["loop.example/g01073/impl.smallPrimes"], fn := fun _ => fun
  | [d1, d2, g1] => { results := [.lit (.bool true)], args := [d1, d2], vars := [g1] }
  | _ => none }
def fnExactIsCausalTermRow : OpenClaim := { program := "ythgiffhlfcmgaaagreatdoor", sum := "aad5e44e3242d37912feead36d9ad65526760a92b4e0ae4741fbe5d0a0f7817c", func := "loop.example/g01073/laws.FnExactIsCausalTerm", spec := "fnExactIsCausalTerm", unfollowed := true, recurses := true, named := ["loop.example/g01073/impl.smallPrimes"], apart := false, laid := [("loop.example/g01073/impl.smallPrimes", laid_loop_example_g01073_impl_smallPrimes)] }
def FnExactIsCausalTermSaid : Prop := fnExactIsCausalTermRow.holds Tryz.pinned (OpenSpec.ofChange fnExactIsCausalTermSpec)

/-- ITS FALSE NEIGHBOUR: 'it returns false'. Refute it at one input. -/
def fnExactIsCausalTermWrong : ChangeSpec := { name := "fnExactIsCausalTerm", vars := ["loop.example/g01073/impl.smallPrimes"], fn := fun _ => fun
  | [d1, d2, g1] => { results := [.lit (.bool false)], args := [d1, d2], vars := [g1] }
  | _ => none }
def FnExactIsCausalTermWrongFalsely : Prop := fnExactIsCausalTermRow.holds Tryz.pinned (OpenSpec.ofChange fnExactIsCausalTermWrong)

/- THE SECOND FORM. 'bulk': how many values and letters a reading holds, each counted each time it is reached (what is shared counts as often as it is met; a slice's spare places count too). A statement '..UptoSaid' is the law's where the arguments, and the package variables that the reading takes, are together of bulk at most 1048576: NARROWER than '..Said'. Prove '..Said' where nothing that the law and all that it calls make is longer than what came in: it says more and counts as full. Else prove '..UptoSaid'. A law counts once. -/
mutual
def uptoBulk {H : Type} : DataW H → Nat
  | .lit (.string bytes) => bytes.length + 1
  | .lit _ => 1
  | .nil => 1
  | .ptr d => uptoBulk d + 1
  | .slice elems spare => uptoBulkAll elems + uptoBulkAll spare + 1
  | .agg parts => uptoBulkAll parts + 1
  | .iface _ d => uptoBulk d + 1
  | .map entries => uptoBulkEntries entries + 1
  | .held _ => 1
def uptoBulkAll {H : Type} : List (DataW H) → Nat
  | [] => 0
  | d :: r => uptoBulk d + uptoBulkAll r
def uptoBulkEntries {H : Type} : List (Lit × DataW H) → Nat
  | [] => 0
  | x :: r => uptoBulkEntry x + uptoBulkEntries r
def uptoBulkEntry {H : Type} : Lit × DataW H → Nat
  | (.string bytes, d) => bytes.length + uptoBulk d + 1
  | (_, d) => uptoBulk d + 1
 end
def uptoSmall : (H : Type) → List (DataW H) → Bool := fun _ ds => decide (uptoBulkAll ds ≤ 1048576)
def OpenSpec.upto (s : _root_.Go.ChangeSpec) : _root_.Go.OpenSpec := { _root_.Go.OpenSpec.ofChange s with cond := some uptoSmall }

/-- 'laws.FnExactDenoteRational', WHERE WHAT IT READS IS OF BULK AT MOST 1048576: true; the input reads as it did. -/
def fnExactDenoteRationalUptoRow : OpenClaim := { program := "ythgiffhlfcmgaaagreatdoor", sum := "aad5e44e3242d37912feead36d9ad65526760a92b4e0ae4741fbe5d0a0f7817c", func := "loop.example/g01073/laws.FnExactDenoteRational", spec := "fnExactDenoteRational", unfollowed := true, recurses := true, named := ["loop.example/g01073/impl.smallPrimes"], apart := false, laid := [("loop.example/g01073/impl.smallPrimes", laid_loop_example_g01073_impl_smallPrimes)], narrowed := true }
def FnExactDenoteRationalUptoSaid : Prop := fnExactDenoteRationalUptoRow.holds Tryz.pinned (OpenSpec.upto fnExactDenoteRationalSpec)

/-- 'laws.FnExactEqualRational', WHERE WHAT IT READS IS OF BULK AT MOST 1048576: true; the input reads as it did. -/
def fnExactEqualRationalUptoRow : OpenClaim := { program := "ythgiffhlfcmgaaagreatdoor", sum := "aad5e44e3242d37912feead36d9ad65526760a92b4e0ae4741fbe5d0a0f7817c", func := "loop.example/g01073/laws.FnExactEqualRational", spec := "fnExactEqualRational", unfollowed := true, recurses := true, named := ["loop.example/g01073/impl.smallPrimes"], apart := false, laid := [("loop.example/g01073/impl.smallPrimes", laid_loop_example_g01073_impl_smallPrimes)], narrowed := true }
def FnExactEqualRationalUptoSaid : Prop := fnExactEqualRationalUptoRow.holds Tryz.pinned (OpenSpec.upto fnExactEqualRationalSpec)

/-- 'laws.FnExactIsCausalTerm', WHERE WHAT IT READS IS OF BULK AT MOST 1048576: true; the input reads as it did. -/
def fnExactIsCausalTermUptoRow : OpenClaim := { program := "ythgiffhlfcmgaaagreatdoor", sum := "aad5e44e3242d37912feead36d9ad65526760a92b4e0ae4741fbe5d0a0f7817c", func := "loop.example/g01073/laws.FnExactIsCausalTerm", spec := "fnExactIsCausalTerm", unfollowed := true, recurses := true, named := ["loop.example/g01073/impl.smallPrimes"], apart := false, laid := [("loop.example/g01073/impl.smallPrimes", laid_loop_example_g01073_impl_smallPrimes)], narrowed := true }
def FnExactIsCausalTermUptoSaid : Prop := fnExactIsCausalTermUptoRow.holds Tryz.pinned (OpenSpec.upto fnExactIsCausalTermSpec)

end Rows
end Go.Proofs.YthgiffhlfcmgaaaGreatDoor
