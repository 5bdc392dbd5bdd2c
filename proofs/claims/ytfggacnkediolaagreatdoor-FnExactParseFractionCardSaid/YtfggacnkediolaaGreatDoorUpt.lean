/- What has come when k rounds of a range over a list from its end are over. -/
import Derived.Lib.Strings
namespace Go.Proofs.YtfggacnkediolaaGreatDoor
set_option maxRecDepth 100000
/-- What has come when k rounds are over. -/
def upto {α : Type} (f : Nat → α) (k : Nat) : List α := (List.range k).map f
theorem upto_succ {α : Type} (f : Nat → α) (k : Nat) : upto f (k + 1) = upto f k ++ [f k] := by simp [upto, List.range_succ]
theorem upto_length {α : Type} (f : Nat → α) (k : Nat) : (upto f k).length = k := by simp [upto]
/-- The pair that comes in round j. -/
def bwAt (zs : List Int) (j : Nat) : Nat × Int := (zs.length - 1 - j, zs[zs.length - 1 - j]?.getD 0)
end Go.Proofs.YtfggacnkediolaaGreatDoor
