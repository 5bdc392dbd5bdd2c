/- The text of a polynomial, in plain terms: its terms from the greatest exponent on, with plus signs between them. -/
import Derived.Test.YtfggacnkediolaaGreatDoorUpt
import Derived.Lib.Join
import Derived.Lib.ItoaNum
namespace Go.Proofs.YtfggacnkediolaaGreatDoor
set_option maxRecDepth 100000
open Go
def ptT (a : Int) (e : Nat) : List UInt8 := ((if a ≠ 1 ∨ e = 0 then Lib.decDigits a.toNat else []) ++ (if 0 < e then [120] else [])) ++ (if 1 < e then 94 :: Lib.decDigits e else [])
theorem dec_ne (u : Nat) : Lib.decDigits u ≠ [] := by
  rw [Lib.decDigits]
  split
  · simp
  · simp
theorem dec_small {u : Nat} (h : u < 10) : Lib.decDigits u = [UInt8.ofNat (48 + u)] := by rw [Lib.decDigits, dif_pos h]
theorem dec_big {u : Nat} (h : ¬ u < 10) : Lib.decDigits u = Lib.decDigits (u / 10) ++ [UInt8.ofNat (48 + u % 10)] := by rw [Lib.decDigits, dif_neg h]
theorem dec_len {u : Nat} (h : u < 100) : (Lib.decDigits u).length ≤ 2 := by
  by_cases h1 : u < 10
  · rw [dec_small h1]; simp
  · rw [dec_big h1, dec_small (by omega)]; simp
theorem ptT_ne (a : Int) (e : Nat) : ptT a e ≠ [] := by
  unfold ptT
  by_cases h : e = 0
  · rw [if_pos (.inr h)]
    have := dec_ne a.toNat
    simp [this]
  · rw [if_pos (show 0 < e by omega)]
    simp
theorem ptT_len {a : Int} {e : Nat} (ha : a < 100) (he : e < 100) : (ptT a e).length ≤ 6 := by
  unfold ptT
  rw [List.length_append, List.length_append]
  have h1 : (if a ≠ 1 ∨ e = 0 then Lib.decDigits a.toNat else []).length ≤ 2 := by split; exact dec_len (by omega); simp
  have h2 : (if 0 < e then [(120 : UInt8)] else []).length ≤ 1 := by split <;> simp
  have h3 : (if 1 < e then 94 :: Lib.decDigits e else []).length ≤ 3 := by
    split
    · have := dec_len he; simp; omega
    · simp
  omega
def ptL (pre : List (Nat × Int)) : List (List UInt8) := (pre.filter fun z => z.2 != 0).map fun z => ptT z.2 z.1
theorem ptL_zero {pre : List (Nat × Int)} {z : Nat × Int} (h : z.2 = 0) : ptL (pre ++ [z]) = ptL pre := by simp [ptL, h]
theorem ptL_more {pre : List (Nat × Int)} {z : Nat × Int} (h : z.2 ≠ 0) : ptL (pre ++ [z]) = ptL pre ++ [ptT z.2 z.1] := by simp [ptL, h]
theorem ptL_ne {pre : List (Nat × Int)} : ∀ t ∈ ptL pre, t ≠ [] := fun t ht => by
  obtain ⟨z, _, rfl⟩ := List.mem_map.1 ht
  exact ptT_ne _ _
theorem ptL_num (pre : List (Nat × Int)) : (ptL pre).length ≤ pre.length := by
  unfold ptL
  rw [List.length_map]
  exact List.length_filter_le _ _
theorem join_snoc (xs : List (List UInt8)) (t sep : List UInt8) : Lib.join (xs ++ [t]) sep = if xs = [] then t else Lib.join xs sep ++ sep ++ t := by
  cases xs with
  | nil => rw [List.nil_append, Lib.join_one, if_pos rfl]
  | cons x r =>
    rw [if_neg (by simp), List.cons_append, Lib.join_cons, Lib.join_cons]
    unfold Lib.joinTail
    rw [List.map_append, List.flatten_append]
    simp
theorem join_nil_iff {xs : List (List UInt8)} {sep : List UInt8} (h : ∀ t ∈ xs, t ≠ []) : Lib.join xs sep = [] ↔ xs = [] := by
  constructor
  · intro e
    cases xs with
    | nil => rfl
    | cons x r =>
      rw [Lib.join_cons] at e
      exact absurd (List.append_eq_nil_iff.1 e).1 (h x (by simp))
  · rintro rfl; rfl
theorem join_len {sep : List UInt8} (hs : sep.length ≤ 1) : ∀ {xs : List (List UInt8)}, (∀ t ∈ xs, t.length ≤ 6) → (Lib.join xs sep).length ≤ 7 * xs.length
  | [], _ => by simp [Lib.join_nil]
  | x :: r, h => by
    rw [Lib.join_cons, List.length_append]
    have hx := h x (by simp)
    have : ∀ r : List (List UInt8), (∀ t ∈ r, t.length ≤ 6) → (Lib.joinTail sep r).length ≤ 7 * r.length := by
      intro r
      induction r with
      | nil => intro _; simp [Lib.joinTail]
      | cons y r ih =>
        intro h
        have h1 := h y (by simp)
        have h2 := ih fun t ht => h t (by simp [ht])
        unfold Lib.joinTail at h2 ⊢
        rw [List.map_cons, List.flatten_cons, List.length_append, List.length_append, List.length_cons]
        omega
    have := this r fun t ht => h t (by simp [ht])
    rw [List.length_cons]
    omega
/-- What has been written when k terms have been looked at. -/
def ptJ (f : List Int) (k : Nat) : List UInt8 := Lib.join (ptL (upto (bwAt f) k)) [43]
def ptX (f : List Int) : List UInt8 := if ptJ f f.length = [] then [48] else ptJ f f.length
theorem bw_small {f : List Int} {k : Nat} (hk : k < f.length) (hl : f.length ≤ 41) (hf : ∀ x ∈ f, 0 ≤ x ∧ x < 97) : (bwAt f k).1 < 41 ∧ 0 ≤ (bwAt f k).2 ∧ (bwAt f k).2 < 97 ∧ f[f.length - 1 - k]? = some (bwAt f k).2 ∧ (bwAt f k).1 = f.length - 1 - k := by
  have hi : f.length - 1 - k < f.length := by omega
  have he : (bwAt f k).2 = f[f.length - 1 - k] := by simp [bwAt, List.getElem?_eq_getElem hi]
  have hm := hf _ (List.getElem_mem hi)
  refine ⟨?_, ?_, ?_, ?_, rfl⟩
  · show f.length - 1 - k < 41; omega
  · rw [he]; exact hm.1
  · rw [he]; exact hm.2
  · rw [he]; exact List.getElem?_eq_getElem hi
theorem ptL_small {f : List Int} (hl : f.length ≤ 41) (hf : ∀ x ∈ f, 0 ≤ x ∧ x < 97) {k : Nat} (hk : k ≤ f.length) : ∀ t ∈ ptL (upto (bwAt f) k), t.length ≤ 6 := fun t ht => by
  obtain ⟨z, hz, rfl⟩ := List.mem_map.1 ht
  have hz := (List.mem_filter.1 hz).1
  unfold upto at hz
  obtain ⟨j, hj, rfl⟩ := List.mem_map.1 hz
  have := bw_small (k := j) (by have := List.mem_range.1 hj; omega) hl hf
  exact ptT_len (by omega) (by omega)
theorem ptJ_len {f : List Int} (hl : f.length ≤ 41) (hf : ∀ x ∈ f, 0 ≤ x ∧ x < 97) {k : Nat} (hk : k ≤ f.length) : (ptJ f k).length ≤ 287 := by
  have h1 := join_len (sep := [43]) (by simp) (ptL_small hl hf hk)
  have h2 := ptL_num (upto (bwAt f) k)
  rw [upto_length] at h2
  unfold ptJ
  omega
theorem ptJ_zero {f : List Int} {k : Nat} (h : (bwAt f k).2 = 0) : ptJ f (k + 1) = ptJ f k := by
  unfold ptJ
  rw [upto_succ, ptL_zero h]
theorem ptJ_more {f : List Int} {k : Nat} (h : (bwAt f k).2 ≠ 0) : ptJ f (k + 1) = (if ptJ f k = [] then [] else ptJ f k ++ [43]) ++ ptT (bwAt f k).2 (bwAt f k).1 := by
  unfold ptJ
  rw [upto_succ, ptL_more h, join_snoc]
  by_cases e : ptL (upto (bwAt f) k) = []
  · rw [if_pos e, if_pos ((join_nil_iff ptL_ne).2 e)]; rfl
  · rw [if_neg e, if_neg fun h => e ((join_nil_iff ptL_ne).1 h)]
end Go.Proofs.YtfggacnkediolaaGreatDoor
