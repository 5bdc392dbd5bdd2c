/- Plain arithmetic, no program in sight: the primes up to 97, inverses modulo p, lists of coefficients, their sums, products, quotients and greatest common divisors. -/
import Derived.WalkKit
namespace Go.Proofs.YtfggacnkediolaaDoor
set_option maxRecDepth 100000
/-- p is a prime up to 97. -/
def fieldB (p : Int) : Bool := decide (2 ≤ p) && decide (p ≤ 97) && (([2, 3, 5, 7] : List Int).all fun q => decide (p % q ≠ 0) || decide (p = q))
def elB (p a : Int) : Bool := decide (0 ≤ a) && decide (a < p)
def inB (lo hi n : Int) : Bool := decide (lo ≤ n) && decide (n ≤ hi)
def allEl (p : Int) (xs : List Int) : Bool := xs.all (elB p)
theorem fieldB_lo {p : Int} (h : fieldB p = true) : 2 ≤ p := by simp [fieldB] at h; exact h.1.1
theorem fieldB_hi {p : Int} (h : fieldB p = true) : p ≤ 97 := by simp [fieldB] at h; exact h.1.2
theorem fdGood_dec : ∀ p : Nat, p < 98 → 2 ≤ p → (fieldB (p : Int) = (List.range 10).all fun k => decide (k < 2) || decide ((p : Int) < (k : Int) * (k : Int)) || decide ((p : Int) % (k : Int) ≠ 0)) := by decide +kernel
theorem fdGood_no {p : Int} (h2 : 2 ≤ p) (h97 : p ≤ 97) (k : Nat) (hk : 2 ≤ k) (hkk : (k : Int) * (k : Int) ≤ p) (hm : p % (k : Int) = 0) : fieldB p = false := by
  obtain ⟨n, rfl⟩ := Int.eq_ofNat_of_zero_le (by omega : 0 ≤ p)
  have hk10 : k < 10 := by
    rcases Nat.lt_or_ge k 10 with h | h
    · exact h
    · have : (10 : Int) * 10 ≤ (k : Int) * (k : Int) := Int.mul_le_mul (by omega) (by omega) (by omega) (by omega)
      omega
  rw [show fieldB (n : Int) = _ from fdGood_dec n (by omega) (by omega)]
  rw [List.all_eq_false]
  exact ⟨k, by simpa using hk10, by simp; omega⟩
theorem fdGood_yes {p : Int} (h2 : 2 ≤ p) (h97 : p ≤ 97) (k : Nat) (hkk : p < (k : Int) * (k : Int)) (hall : ∀ j : Nat, 2 ≤ j → j < k → p % (j : Int) ≠ 0) : fieldB p = true := by
  obtain ⟨n, rfl⟩ := Int.eq_ofNat_of_zero_le (by omega : 0 ≤ p)
  rw [show fieldB (n : Int) = _ from fdGood_dec n (by omega) (by omega)]
  rw [List.all_eq_true]
  intro j hj
  by_cases h1 : j < 2
  · simp [h1]
  by_cases hjk : j < k
  · simp [hall j (by omega) hjk]
  · have : (k : Int) * (k : Int) ≤ (j : Int) * (j : Int) := Int.mul_le_mul (by omega) (by omega) (by omega) (by omega)
    simp; omega
theorem allEl_at {p : Int} {xs : List Int} (h : allEl p xs = true) {i : Nat} {x : Int} (hx : xs[i]? = some x) : 0 ≤ x ∧ x < p := by
  have := List.all_eq_true.1 h x (List.mem_of_getElem? hx)
  simpa [elB] using this
theorem allEl_of {p : Int} {xs : List Int} (h : ∀ (i : Nat) (x : Int), xs[i]? = some x → 0 ≤ x ∧ x < p) : allEl p xs = true := by
  rw [allEl, List.all_eq_true]
  intro x hx
  obtain ⟨i, hi⟩ := List.getElem?_of_mem hx
  simpa [elB] using h i x hi
/-! ### Inverses -/
/-! ### Lists of coefficients -/
/-- The coefficient of a power. -/
def cf (xs : List Int) (i : Nat) : Int := xs[i]?.getD 0
theorem cf_of {xs : List Int} {i : Nat} {x : Int} (h : xs[i]? = some x) : cf xs i = x := by simp [cf, h]
theorem cf_ge {xs : List Int} {i : Nat} (h : xs.length ≤ i) : cf xs i = 0 := by simp [cf, List.getElem?_eq_none h]
theorem cf_bd {p : Int} {xs : List Int} (h : allEl p xs = true) (hp : 0 < p) (i : Nat) : 0 ≤ cf xs i ∧ cf xs i < p := by
  rcases Nat.lt_or_ge i xs.length with hi | hi
  · exact cf_of (List.getElem?_eq_getElem hi) ▸ allEl_at h (List.getElem?_eq_getElem hi)
  · rw [cf_ge hi]; omega
/-- Without the zeros at the end. -/
def trim : List Int → List Int
  | [] => []
  | x :: xs => match trim xs with
    | [] => if x = 0 then [] else [x]
    | ys => x :: ys
theorem trim_cons (x : Int) (xs : List Int) : trim (x :: xs) = if trim xs = [] ∧ x = 0 then [] else x :: trim xs := by
  rw [trim]
  split
  · rename_i h; rw [h]; simp
  · rename_i h; rw [if_neg (by intro ⟨h1, _⟩; exact h h1)]
theorem cf_nil (i : Nat) : cf [] i = 0 := rfl
theorem cf_zero (x : Int) (xs : List Int) : cf (x :: xs) 0 = x := rfl
theorem cf_succ (x : Int) (xs : List Int) (i : Nat) : cf (x :: xs) (i + 1) = cf xs i := rfl
theorem trim_cf : ∀ (xs : List Int) (i : Nat), cf (trim xs) i = cf xs i
  | [], _ => rfl
  | x :: xs, i => by
    rw [trim_cons]
    split
    · rename_i h
      cases i with
      | zero => rw [cf_zero, h.2]; rfl
      | succ i => rw [cf_succ, ← trim_cf xs i, h.1]; rfl
    · cases i with
      | zero => rfl
      | succ i => rw [cf_succ, cf_succ, trim_cf xs i]
theorem trim_nil_iff : ∀ (xs : List Int), trim xs = [] ↔ ∀ i, cf xs i = 0
  | [] => by simp [trim, cf_nil]
  | x :: xs => by
    rw [trim_cons]
    constructor
    · intro h
      split at h
      · rename_i h'
        intro i
        cases i with
        | zero => exact h'.2
        | succ i => exact (trim_nil_iff xs).1 h'.1 i
      · cases h
    · intro h
      rw [if_pos ⟨(trim_nil_iff xs).2 fun i => h (i + 1), h 0⟩]
theorem trim_ext : ∀ {xs ys : List Int}, (∀ i, cf xs i = cf ys i) → trim xs = trim ys
  | [], ys, h => by
    symm
    exact (trim_nil_iff ys).2 fun i => (h i).symm
  | x :: xs, [], h => (trim_nil_iff _).2 h
  | x :: xs, y :: ys, h => by
    have e : trim xs = trim ys := trim_ext fun i => h (i + 1)
    have e0 : x = y := h 0
    rw [trim_cons, trim_cons, e, e0]
theorem trim_trim (xs : List Int) : trim (trim xs) = trim xs := trim_ext (trim_cf xs)
theorem trim_take : ∀ (xs : List Int), trim xs = xs.take (trim xs).length
  | [] => rfl
  | x :: xs => by
    rw [trim_cons]
    split
    · rfl
    · rw [List.length_cons, List.take_succ_cons, ← trim_take xs]
theorem trim_snoc0 (xs : List Int) : trim (xs ++ [0]) = trim xs := trim_ext fun i => by
  simp only [cf, List.getElem?_append]
  split
  · rfl
  · rename_i h
    rw [List.getElem?_eq_none (by omega : xs.length ≤ i)]
    cases hk : i - xs.length with
    | zero => rfl
    | succ k => rfl
theorem trim_snoc (xs : List Int) {a : Int} (h : a ≠ 0) : trim (xs ++ [a]) = xs ++ [a] := by
  induction xs with
  | nil => simp [trim, h]
  | cons x xs ih =>
    rw [List.cons_append, trim_cons, ih, if_neg]
    intro ⟨h1, _⟩
    simp at h1
/-- No zero at the end. -/
def Tr (xs : List Int) : Prop := trim xs = xs
theorem Tr.trim (xs : List Int) : Tr (trim xs) := trim_trim xs
theorem Tr.nil : Tr [] := rfl
theorem Tr.of_last {xs : List Int} (h : xs ≠ []) (hl : cf xs (xs.length - 1) ≠ 0) : Tr xs := by
  obtain ⟨ys, a, rfl⟩ : ∃ ys a, xs = ys ++ [a] := ⟨xs.dropLast, xs.getLast h, (List.dropLast_concat_getLast h).symm⟩
  exact trim_snoc ys (by simpa [cf] using hl)
/-! ### Sums -/
/-! ### Products -/
/-! ### Quotients -/
/-! ### Greatest common divisors -/
/-- p is a field and f a polynomial over it. -/
def polyB (p : Int) (f : List Int) : Bool := fieldB p && decide (f.length ≤ 41) && allEl p f && (decide (f.length = 0) || decide (cf f (f.length - 1) ≠ 0))
theorem polyB_parts {p : Int} {f : List Int} (h : polyB p f = true) : fieldB p = true ∧ f.length ≤ 41 ∧ allEl p f = true ∧ Tr f := by
  simp only [polyB, Bool.and_eq_true, Bool.or_eq_true, decide_eq_true_eq] at h
  refine ⟨h.1.1.1, h.1.1.2, h.1.2, ?_⟩
  by_cases h0 : f = []
  · subst h0; exact Tr.nil
  · have hfl := List.length_pos_iff.2 h0
    exact Tr.of_last h0 (h.2.resolve_left (by omega))
end Go.Proofs.YtfggacnkediolaaDoor
