/-
  No cell of these rows narrows 'for every input' (looked for: loops, veiled, ifaces, maps, wideKeys, modest, calm, conditions, laid).
  DERIVED. THE GIVEN ROWS OF THIS SEAT. 5 by the template 'for every input the law returns true; each argument reads behind the call as it read before'; 0 by the template 'total and deterministic' (their statements: YtkpfmnconnopnaaTotals.lean).
  GIVEN WITH THE SEED: the statements are not yours to turn. If you find one false, say at which input.
  Laid BY PROGRAM, IN A SANDBOX (cutbox-rows.mjs): the forced cells as the released guide's own fill.sh prints them over the translation 100508fb053f4242… (all of the seat's roots in one cut). By AI agents, Wed Nov 11 2026. No macro, syntax, notation, axiom, sorry.
-/
import Derived.Test.YtkpfmnconnopnaaChecked
import GoSem.Claim
import GoSem.ClaimJoined
import GoSem.ClaimMapViews
import Derived.JoinedTies
import Derived.KernelRfl
namespace Go.Proofs.Ytkpfmnconnopnaa
/- THE CELL 'sum', in the pinned program and in every row, IS THE sha256 OF THE DUMP (.gsa) THAT YtkpfmnconnopnaaProg.lean LOADS. Nothing in Lean hashes anything: it is a label: what it is worth is what the hold of that sum in a sandbox is worth. -/
noncomputable def Try.pinned : Pinned := { name := "ytkpfmnconnopnaa", sum := "100508fb053f4242b390a06a1e2eff43be21846dfe22279730b009817e496815", checked := Try.checked }
namespace Rows
def none {H : Type} : Left H := { results := [], args := [] }

/-- 'laws.FnExactIsAcyclic': WHATEVER THE INPUT: true; the input reads as it did. -/
def fnExactIsAcyclicSpec : ChangeSpec := { name := "fnExactIsAcyclic", fn := fun _ => fun
  | [d] => { results := [.lit (.bool true)], args := [d] }
  | _ => none }
def fnExactIsAcyclicRow : OpenClaim := { program := "ytkpfmnconnopnaa", sum := "100508fb053f4242b390a06a1e2eff43be21846dfe22279730b009817e496815", func := "loop.example/g01073/laws.FnExactIsAcyclic", spec := "fnExactIsAcyclic", unfollowed := true, recurses := true, apart := false }
def FnExactIsAcyclicSaid : Prop := fnExactIsAcyclicRow.holds Try.pinned (OpenSpec.ofChange fnExactIsAcyclicSpec)

/-- ITS FALSE NEIGHBOUR: 'it returns false'. Refute it at one input. -/
def fnExactIsAcyclicWrong : ChangeSpec := { name := "fnExactIsAcyclic", fn := fun _ => fun
  | [d] => { results := [.lit (.bool false)], args := [d] }
  | _ => none }
def FnExactIsAcyclicWrongFalsely : Prop := fnExactIsAcyclicRow.holds Try.pinned (OpenSpec.ofChange fnExactIsAcyclicWrong)

/-- 'laws.FnExactEdgeOrder': WHATEVER THE INPUT: true; the input reads as it did. -/
def fnExactEdgeOrderSpec : ChangeSpec := { name := "fnExactEdgeOrder", fn := fun _ => fun
  | [d] => { results := [.lit (.bool true)], args := [d] }
  | _ => none }
def fnExactEdgeOrderRow : OpenClaim := { program := "ytkpfmnconnopnaa", sum := "100508fb053f4242b390a06a1e2eff43be21846dfe22279730b009817e496815", func := "loop.example/g01073/laws.FnExactEdgeOrder", spec := "fnExactEdgeOrder", unfollowed := true, recurses := true, apart := false }
def FnExactEdgeOrderSaid : Prop := fnExactEdgeOrderRow.holds Try.pinned (OpenSpec.ofChange fnExactEdgeOrderSpec)

/-- ITS FALSE NEIGHBOUR: 'it returns false'. Refute it at one input. -/
def fnExactEdgeOrderWrong : ChangeSpec := { name := "fnExactEdgeOrder", fn := fun _ => fun
  | [d] => { results := [.lit (.bool false)], args := [d] }
  | _ => none }
def FnExactEdgeOrderWrongFalsely : Prop := fnExactEdgeOrderRow.holds Try.pinned (OpenSpec.ofChange fnExactEdgeOrderWrong)

/-- 'laws.FnExactIsEdgeOrder': WHATEVER THE INPUT: true; the input reads as it did. -/
def fnExactIsEdgeOrderSpec : ChangeSpec := { name := "fnExactIsEdgeOrder", fn := fun _ => fun
  | [d1, d2] => { results := [.lit (.bool true)], args := [d1, d2] }
  | _ => none }
def fnExactIsEdgeOrderRow : OpenClaim := { program := "ytkpfmnconnopnaa", sum := "100508fb053f4242b390a06a1e2eff43be21846dfe22279730b009817e496815", func := "loop.example/g01073/laws.FnExactIsEdgeOrder", spec := "fnExactIsEdgeOrder", unfollowed := true, recurses := true, apart := false }
def FnExactIsEdgeOrderSaid : Prop := fnExactIsEdgeOrderRow.holds Try.pinned (OpenSpec.ofChange fnExactIsEdgeOrderSpec)

/-- ITS FALSE NEIGHBOUR: 'it returns false'. Refute it at one input. -/
def fnExactIsEdgeOrderWrong : ChangeSpec := { name := "fnExactIsEdgeOrder", fn := fun _ => fun
  | [d1, d2] => { results := [.lit (.bool false)], args := [d1, d2] }
  | _ => none }
def FnExactIsEdgeOrderWrongFalsely : Prop := fnExactIsEdgeOrderRow.holds Try.pinned (OpenSpec.ofChange fnExactIsEdgeOrderWrong)

/-- 'laws.FnExactEdgeLevels': WHATEVER THE INPUT: true; the input reads as it did. -/
def fnExactEdgeLevelsSpec : ChangeSpec := { name := "fnExactEdgeLevels", fn := fun _ => fun
  | [d] => { results := [.lit (.bool true)], args := [d] }
  | _ => none }
def fnExactEdgeLevelsRow : OpenClaim := { program := "ytkpfmnconnopnaa", sum := "100508fb053f4242b390a06a1e2eff43be21846dfe22279730b009817e496815", func := "loop.example/g01073/laws.FnExactEdgeLevels", spec := "fnExactEdgeLevels", unfollowed := true, recurses := true, apart := false }
def FnExactEdgeLevelsSaid : Prop := fnExactEdgeLevelsRow.holds Try.pinned (OpenSpec.ofChange fnExactEdgeLevelsSpec)

/-- ITS FALSE NEIGHBOUR: 'it returns false'. Refute it at one input. -/
def fnExactEdgeLevelsWrong : ChangeSpec := { name := "fnExactEdgeLevels", fn := fun _ => fun
  | [d] => { results := [.lit (.bool false)], args := [d] }
  | _ => none }
def FnExactEdgeLevelsWrongFalsely : Prop := fnExactEdgeLevelsRow.holds Try.pinned (OpenSpec.ofChange fnExactEdgeLevelsWrong)

/-- 'laws.FnExactSlicesOf': WHATEVER THE INPUT: true; the input reads as it did. -/
def fnExactSlicesOfSpec : ChangeSpec := { name := "fnExactSlicesOf", fn := fun _ => fun
  | [d] => { results := [.lit (.bool true)], args := [d] }
  | _ => none }
def fnExactSlicesOfRow : OpenClaim := { program := "ytkpfmnconnopnaa", sum := "100508fb053f4242b390a06a1e2eff43be21846dfe22279730b009817e496815", func := "loop.example/g01073/laws.FnExactSlicesOf", spec := "fnExactSlicesOf", unfollowed := true, recurses := true, apart := false }
def FnExactSlicesOfSaid : Prop := fnExactSlicesOfRow.holds Try.pinned (OpenSpec.ofChange fnExactSlicesOfSpec)

/-- ITS FALSE NEIGHBOUR: 'it returns false'. Refute it at one input. -/
def fnExactSlicesOfWrong : ChangeSpec := { name := "fnExactSlicesOf", fn := fun _ => fun
  | [d] => { results := [.lit (.bool false)], args := [d] }
  | _ => none }
def FnExactSlicesOfWrongFalsely : Prop := fnExactSlicesOfRow.holds Try.pinned (OpenSpec.ofChange fnExactSlicesOfWrong)

/- THE SECOND FORM. 'bulk': how many values and letters a reading holds, each counted each time it is reached (what is shared counts as often as it is met; a slice's spare places count too). A statement '..UptoSaid' is the law's where the arguments, and the package variables that the reading takes, are together of bulk at most 1048576: NARROWER than '..Said'. Prove '..Said' where nothing that the law and all that it calls make is longer than what came in: it says more and counts as full. Else prove '..UptoSaid'. A law counts once. -/
mutual
def uptoBulk {H : Type} : DataW H → Nat
  | .lit (.string bytes) => bytes.length + 1
  | .lit _ => 1
  | .nil => 1
  | .ptr d => uptoBulk d + 1
  | .slice elems spare => uptoBulkAll elems + uptoBulkAll spare + 1
  | .agg parts => uptoBulkAll parts + 1
  | .iface _ d => uptoBulk d + 1
  | .map entries => uptoBulkEntries entries + 1
  | .held _ => 1
def uptoBulkAll {H : Type} : List (DataW H) → Nat
  | [] => 0
  | d :: r => uptoBulk d + uptoBulkAll r
def uptoBulkEntries {H : Type} : List (Lit × DataW H) → Nat
  | [] => 0
  | x :: r => uptoBulkEntry x + uptoBulkEntries r
def uptoBulkEntry {H : Type} : Lit × DataW H → Nat
  | (.string bytes, d) => bytes.length + uptoBulk d + 1
  | (_, d) => uptoBulk d + 1
 end
def uptoSmall : (H : Type) → List (DataW H) → Bool := fun _ ds => decide (uptoBulkAll ds ≤ 1048576)
def OpenSpec.upto (s : _root_.Go.ChangeSpec) : _root_.Go.OpenSpec := { _root_.Go.OpenSpec.ofChange s with cond := some uptoSmall }

/-- 'laws.FnExactIsAcyclic', WHERE WHAT IT READS IS OF BULK AT MOST 1048576: true; the input reads as it did. -/
def fnExactIsAcyclicUptoRow : OpenClaim := { program := "ytkpfmnconnopnaa", sum := "100508fb053f4242b390a06a1e2eff43be21846dfe22279730b009817e496815", func := "loop.example/g01073/laws.FnExactIsAcyclic", spec := "fnExactIsAcyclic", unfollowed := true, recurses := true, apart := false, narrowed := true }
def FnExactIsAcyclicUptoSaid : Prop := fnExactIsAcyclicUptoRow.holds Try.pinned (OpenSpec.upto fnExactIsAcyclicSpec)

/-- 'laws.FnExactEdgeOrder', WHERE WHAT IT READS IS OF BULK AT MOST 1048576: true; the input reads as it did. -/
def fnExactEdgeOrderUptoRow : OpenClaim := { program := "ytkpfmnconnopnaa", sum := "100508fb053f4242b390a06a1e2eff43be21846dfe22279730b009817e496815", func := "loop.example/g01073/laws.FnExactEdgeOrder", spec := "fnExactEdgeOrder", unfollowed := true, recurses := true, apart := false, narrowed := true }
def FnExactEdgeOrderUptoSaid : Prop := fnExactEdgeOrderUptoRow.holds Try.pinned (OpenSpec.upto fnExactEdgeOrderSpec)

/-- 'laws.FnExactIsEdgeOrder', WHERE WHAT IT READS IS OF BULK AT MOST 1048576: true; the input reads as it did. -/
def fnExactIsEdgeOrderUptoRow : OpenClaim := { program := "ytkpfmnconnopnaa", sum := "100508fb053f4242b390a06a1e2eff43be21846dfe22279730b009817e496815", func := "loop.example/g01073/laws.FnExactIsEdgeOrder", spec := "fnExactIsEdgeOrder", unfollowed := true, recurses := true, apart := false, narrowed := true }
def FnExactIsEdgeOrderUptoSaid : Prop := fnExactIsEdgeOrderUptoRow.holds Try.pinned (OpenSpec.upto fnExactIsEdgeOrderSpec)

/-- 'laws.FnExactEdgeLevels', WHERE WHAT IT READS IS OF BULK AT MOST 1048576: true; the input reads as it did. -/
def fnExactEdgeLevelsUptoRow : OpenClaim := { program := "ytkpfmnconnopnaa", sum := "100508fb053f4242b390a06a1e2eff43be21846dfe22279730b009817e496815", func := "loop.example/g01073/laws.FnExactEdgeLevels", spec := "fnExactEdgeLevels", unfollowed := true, recurses := true, apart := false, narrowed := true }
def FnExactEdgeLevelsUptoSaid : Prop := fnExactEdgeLevelsUptoRow.holds Try.pinned (OpenSpec.upto fnExactEdgeLevelsSpec)

/-- 'laws.FnExactSlicesOf', WHERE WHAT IT READS IS OF BULK AT MOST 1048576: true; the input reads as it did. -/
def fnExactSlicesOfUptoRow : OpenClaim := { program := "ytkpfmnconnopnaa", sum := "100508fb053f4242b390a06a1e2eff43be21846dfe22279730b009817e496815", func := "loop.example/g01073/laws.FnExactSlicesOf", spec := "fnExactSlicesOf", unfollowed := true, recurses := true, apart := false, narrowed := true }
def FnExactSlicesOfUptoSaid : Prop := fnExactSlicesOfUptoRow.holds Try.pinned (OpenSpec.upto fnExactSlicesOfSpec)

end Rows
end Go.Proofs.Ytkpfmnconnopnaa
