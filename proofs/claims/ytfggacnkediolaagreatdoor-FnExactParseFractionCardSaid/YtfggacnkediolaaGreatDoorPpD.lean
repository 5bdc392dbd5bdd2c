/- Splitting a text at a byte, step by step: what both readers' loops keep. -/
import Derived.Test.YtfggacnkediolaaGreatDoorPpC
namespace Go.Proofs.YtfggacnkediolaaGreatDoor
set_option maxRecDepth 100000
open Go
theorem drop_cons_at {s : List UInt8} {i : Nat} {c : UInt8} (h : s[i]? = some c) : s.drop i = c :: s.drop (i + 1) := by
  obtain ⟨hi, e⟩ := List.getElem?_eq_some_iff.1 h
  rw [List.drop_eq_getElem_cons hi, e]
/-- A part that ends at the byte i. -/
theorem spl_step {c : UInt8} {s : List UInt8} {a i : Nat} (hai : a ≤ i) (hn : c ∉ (s.drop a).take (i - a)) (hi : s[i]? = some c) :
    spl c (s.drop a) = (s.drop a).take (i - a) :: spl c (s.drop (i + 1)) := by
  have e : s.drop a = (s.drop a).take (i - a) ++ c :: s.drop (i + 1) := by
    conv => lhs; rw [← List.take_append_drop (i - a) (s.drop a)]
    rw [List.drop_drop, show a + (i - a) = i by omega, drop_cons_at hi]
  conv => lhs; rw [e]
  exact spl_more _ hn
/-- The last part. -/
theorem spl_end {c : UInt8} {s : List UInt8} {a : Nat} (hn : c ∉ s.drop a) : spl c (s.drop a) = [s.drop a] := spl_one hn
/-- The part under way takes one byte more. -/
theorem part_more {c b : UInt8} {s : List UInt8} {a i : Nat} (hai : a ≤ i) (hn : c ∉ (s.drop a).take (i - a)) (hi : s[i]? = some b) (hb : b ≠ c) : c ∉ (s.drop a).take (i + 1 - a) := by
  have e : (s.drop a).take (i + 1 - a) = (s.drop a).take (i - a) ++ [b] := by
    rw [show i + 1 - a = (i - a) + 1 by omega, List.take_add_one]
    rw [List.getElem?_drop, show a + (i - a) = i by omega, hi]
    rfl
  rw [e, List.mem_append]
  rintro (h | h)
  · exact hn h
  · exact hb (List.mem_singleton.1 h).symm
theorem piO_app : ∀ (xs ys : List (List UInt8)) (o : List Int), piO (xs ++ ys) o = (piO xs o).bind (piO ys)
  | [], _, _ => rfl
  | x :: xs, ys, o => by
    rw [List.cons_append, piO, piO]
    split
    · split
      · exact piO_app xs ys _
      · rfl
    · rfl
end Go.Proofs.YtfggacnkediolaaGreatDoor
