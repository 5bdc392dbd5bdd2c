/- Plain arithmetic, no program in sight: the primes up to 97, inverses modulo p, lists of coefficients, their sums, products, quotients and greatest common divisors. The shortest recurrence of a list, in plain terms: Massey's lemma, and one step of the search. Plain lemmas of mine. The shortest recurrence of a list: what the search keeps. Plain lemmas of mine. The shortest recurrence of a list, as the program searches for it. Plain lemmas of mine. -/
import Derived.WalkKit
namespace Go.Proofs.YtmekhjnhcgmphaaDoor
set_option maxRecDepth 100000
/-- p is a prime up to 97. -/
def fieldB (p : Int) : Bool := decide (2 ≤ p) && decide (p ≤ 97) && (([2, 3, 5, 7] : List Int).all fun q => decide (p % q ≠ 0) || decide (p = q))
def elB (p a : Int) : Bool := decide (0 ≤ a) && decide (a < p)
def inB (lo hi n : Int) : Bool := decide (lo ≤ n) && decide (n ≤ hi)
def allEl (p : Int) (xs : List Int) : Bool := xs.all (elB p)
theorem fieldB_lo {p : Int} (h : fieldB p = true) : 2 ≤ p := by simp [fieldB] at h; exact h.1.1
theorem fieldB_hi {p : Int} (h : fieldB p = true) : p ≤ 97 := by simp [fieldB] at h; exact h.1.2
theorem inB_el (p : Int) : inB 0 (p - 1) = elB p := by
  funext a
  simp only [inB, elB]
  congr 1
  exact decide_eq_decide.2 (by omega)
theorem fdGood_dec : ∀ p : Nat, p < 98 → 2 ≤ p → (fieldB (p : Int) = (List.range 10).all fun k => decide (k < 2) || decide ((p : Int) < (k : Int) * (k : Int)) || decide ((p : Int) % (k : Int) ≠ 0)) := by decide +kernel
theorem fdGood_no {p : Int} (h2 : 2 ≤ p) (h97 : p ≤ 97) (k : Nat) (hk : 2 ≤ k) (hkk : (k : Int) * (k : Int) ≤ p) (hm : p % (k : Int) = 0) : fieldB p = false := by
  obtain ⟨n, rfl⟩ := Int.eq_ofNat_of_zero_le (by omega : 0 ≤ p)
  have hk10 : k < 10 := by
    rcases Nat.lt_or_ge k 10 with h | h
    · exact h
    · have : (10 : Int) * 10 ≤ (k : Int) * (k : Int) := Int.mul_le_mul (by omega) (by omega) (by omega) (by omega)
      omega
  rw [show fieldB (n : Int) = _ from fdGood_dec n (by omega) (by omega)]
  rw [List.all_eq_false]
  exact ⟨k, by simpa using hk10, by simp; omega⟩
theorem fdGood_yes {p : Int} (h2 : 2 ≤ p) (h97 : p ≤ 97) (k : Nat) (hkk : p < (k : Int) * (k : Int)) (hall : ∀ j : Nat, 2 ≤ j → j < k → p % (j : Int) ≠ 0) : fieldB p = true := by
  obtain ⟨n, rfl⟩ := Int.eq_ofNat_of_zero_le (by omega : 0 ≤ p)
  rw [show fieldB (n : Int) = _ from fdGood_dec n (by omega) (by omega)]
  rw [List.all_eq_true]
  intro j hj
  by_cases h1 : j < 2
  · simp [h1]
  by_cases hjk : j < k
  · simp [hall j (by omega) hjk]
  · have : (k : Int) * (k : Int) ≤ (j : Int) * (j : Int) := Int.mul_le_mul (by omega) (by omega) (by omega) (by omega)
    simp; omega
theorem allEl_at {p : Int} {xs : List Int} (h : allEl p xs = true) {i : Nat} {x : Int} (hx : xs[i]? = some x) : 0 ≤ x ∧ x < p := by
  have := List.all_eq_true.1 h x (List.mem_of_getElem? hx)
  simpa [elB] using this
theorem allEl_of {p : Int} {xs : List Int} (h : ∀ (i : Nat) (x : Int), xs[i]? = some x → 0 ≤ x ∧ x < p) : allEl p xs = true := by
  rw [allEl, List.all_eq_true]
  intro x hx
  obtain ⟨i, hi⟩ := List.getElem?_of_mem hx
  simpa [elB] using h i x hi
theorem mul_bd {x y : Int} (hx : 0 ≤ x ∧ x ≤ 96) (hy : 0 ≤ y ∧ y ≤ 96) : 0 ≤ x * y ∧ x * y ≤ 9216 :=
  ⟨Int.mul_nonneg hx.1 hy.1, by have := Int.mul_le_mul hx.2 hy.2 hy.1 (by omega); omega⟩
/-! ### Inverses -/
/-- The inverse of an element. -/
def invM (p a : Int) : Int := a ^ (p - 2 + if p = 2 then 1 else 0).toNat % p
/-- The least x from k on, of n, with a x = 1. -/
def invS (p a : Int) : Nat → Int → Int
  | 0, _ => 0
  | n + 1, k => if a * k % p = 1 then k else invS p a n (k + 1)
theorem inv_dec : ((List.range 98).all fun p => !(fieldB (p : Int)) || (List.range p).all fun a => decide (a = 0) || (decide ((a : Int) * invM (p : Int) (a : Int) % (p : Int) = 1) && decide (invS (p : Int) (a : Int) (p - 1) 1 = invM (p : Int) (a : Int)))) = true := by decide +kernel
theorem noz_dec : ((List.range 98).all fun p => !(fieldB (p : Int)) || (List.range p).all fun a => (List.range p).all fun b => decide (a = 0) || decide (b = 0) || decide (a * b % p ≠ 0)) = true := by decide +kernel
theorem inv_both {p a : Int} (hf : fieldB p = true) (h0 : 0 < a) (ha : a < p) : a * invM p a % p = 1 ∧ invS p a (p - 1).toNat 1 = invM p a := by
  have h2 := fieldB_lo hf
  have h97 := fieldB_hi hf
  obtain ⟨n, rfl⟩ := Int.eq_ofNat_of_zero_le (by omega : 0 ≤ p)
  obtain ⟨m, rfl⟩ := Int.eq_ofNat_of_zero_le (by omega : 0 ≤ a)
  have h := List.all_eq_true.1 inv_dec n (by simp; omega)
  rw [hf] at h
  simp only [Bool.not_true, Bool.false_or] at h
  have h' := List.all_eq_true.1 h m (by simp; omega)
  simp only [Bool.or_eq_true, Bool.and_eq_true, decide_eq_true_eq] at h'
  rcases h' with h' | h'
  · omega
  · refine ⟨h'.1, ?_⟩
    have e : ((n : Int) - 1).toNat = n - 1 := by omega
    rw [e]; exact h'.2
theorem inv_mul {p a : Int} (hf : fieldB p = true) (h0 : 0 < a) (ha : a < p) : a * invM p a % p = 1 := (inv_both hf h0 ha).1
theorem invM_bd {p : Int} (a : Int) (h2 : 2 ≤ p) : 0 ≤ invM p a ∧ invM p a < p := ⟨Int.emod_nonneg _ (by omega), Int.emod_lt_of_pos _ (by omega)⟩
theorem noz {p a b : Int} (hf : fieldB p = true) (ha : 0 < a ∧ a < p) (hb : 0 < b ∧ b < p) : a * b % p ≠ 0 := by
  have h2 := fieldB_lo hf
  have h97 := fieldB_hi hf
  obtain ⟨n, rfl⟩ := Int.eq_ofNat_of_zero_le (by omega : 0 ≤ p)
  obtain ⟨k, rfl⟩ := Int.eq_ofNat_of_zero_le (by omega : 0 ≤ a)
  obtain ⟨l, rfl⟩ := Int.eq_ofNat_of_zero_le (by omega : 0 ≤ b)
  have h := List.all_eq_true.1 noz_dec n (by simp; omega)
  rw [hf] at h
  simp only [Bool.not_true, Bool.false_or] at h
  have h' := List.all_eq_true.1 (List.all_eq_true.1 h k (by simp; omega)) l (by simp; omega)
  simp only [Bool.or_eq_true, decide_eq_true_eq] at h'
  rcases h' with (h' | h') | h'
  · omega
  · omega
  · intro e; apply h'; have : ((k * l % n : Nat) : Int) = 0 := by push_cast; exact e
    exact_mod_cast this

/-! ### Lists of coefficients -/
/-- The coefficient of a power. -/
def cf (xs : List Int) (i : Nat) : Int := xs[i]?.getD 0
theorem cf_of {xs : List Int} {i : Nat} {x : Int} (h : xs[i]? = some x) : cf xs i = x := by simp [cf, h]
theorem cf_ge {xs : List Int} {i : Nat} (h : xs.length ≤ i) : cf xs i = 0 := by simp [cf, List.getElem?_eq_none h]
theorem cf_bd {p : Int} {xs : List Int} (h : allEl p xs = true) (hp : 0 < p) (i : Nat) : 0 ≤ cf xs i ∧ cf xs i < p := by
  rcases Nat.lt_or_ge i xs.length with hi | hi
  · exact cf_of (List.getElem?_eq_getElem hi) ▸ allEl_at h (List.getElem?_eq_getElem hi)
  · rw [cf_ge hi]; omega
theorem cf_ext {xs ys : List Int} (hl : xs.length = ys.length) (h : ∀ i, cf xs i = cf ys i) : xs = ys := by
  apply List.ext_getElem hl
  intro i h1 h2
  have := h i
  rwa [cf, cf, List.getElem?_eq_getElem h1, List.getElem?_eq_getElem h2] at this
/-- Without the zeros at the end. -/
def trim : List Int → List Int
  | [] => []
  | x :: xs => match trim xs with
    | [] => if x = 0 then [] else [x]
    | ys => x :: ys
theorem trim_cons (x : Int) (xs : List Int) : trim (x :: xs) = if trim xs = [] ∧ x = 0 then [] else x :: trim xs := by
  rw [trim]
  split
  · rename_i h; rw [h]; simp
  · rename_i h; rw [if_neg (by intro ⟨h1, _⟩; exact h h1)]
theorem cf_nil (i : Nat) : cf [] i = 0 := rfl
theorem cf_zero (x : Int) (xs : List Int) : cf (x :: xs) 0 = x := rfl
theorem cf_succ (x : Int) (xs : List Int) (i : Nat) : cf (x :: xs) (i + 1) = cf xs i := rfl
theorem trim_cf : ∀ (xs : List Int) (i : Nat), cf (trim xs) i = cf xs i
  | [], _ => rfl
  | x :: xs, i => by
    rw [trim_cons]
    split
    · rename_i h
      cases i with
      | zero => rw [cf_zero, h.2]; rfl
      | succ i => rw [cf_succ, ← trim_cf xs i, h.1]; rfl
    · cases i with
      | zero => rfl
      | succ i => rw [cf_succ, cf_succ, trim_cf xs i]
theorem trim_nil_iff : ∀ (xs : List Int), trim xs = [] ↔ ∀ i, cf xs i = 0
  | [] => by simp [trim, cf_nil]
  | x :: xs => by
    rw [trim_cons]
    constructor
    · intro h
      split at h
      · rename_i h'
        intro i
        cases i with
        | zero => exact h'.2
        | succ i => exact (trim_nil_iff xs).1 h'.1 i
      · cases h
    · intro h
      rw [if_pos ⟨(trim_nil_iff xs).2 fun i => h (i + 1), h 0⟩]
theorem trim_ext : ∀ {xs ys : List Int}, (∀ i, cf xs i = cf ys i) → trim xs = trim ys
  | [], ys, h => by
    symm
    exact (trim_nil_iff ys).2 fun i => (h i).symm
  | x :: xs, [], h => (trim_nil_iff _).2 h
  | x :: xs, y :: ys, h => by
    have e : trim xs = trim ys := trim_ext fun i => h (i + 1)
    have e0 : x = y := h 0
    rw [trim_cons, trim_cons, e, e0]
theorem trim_trim (xs : List Int) : trim (trim xs) = trim xs := trim_ext (trim_cf xs)
theorem trim_le : ∀ (xs : List Int), (trim xs).length ≤ xs.length
  | [] => Nat.le_refl _
  | x :: xs => by
    have := trim_le xs
    rw [trim_cons]
    split <;> simp <;> omega
theorem trim_take : ∀ (xs : List Int), trim xs = xs.take (trim xs).length
  | [] => rfl
  | x :: xs => by
    rw [trim_cons]
    split
    · rfl
    · rw [List.length_cons, List.take_succ_cons, ← trim_take xs]
theorem trim_snoc0 (xs : List Int) : trim (xs ++ [0]) = trim xs := trim_ext fun i => by
  simp only [cf, List.getElem?_append]
  split
  · rfl
  · rename_i h
    rw [List.getElem?_eq_none (by omega : xs.length ≤ i)]
    cases hk : i - xs.length with
    | zero => rfl
    | succ k => rfl
theorem trim_snoc (xs : List Int) {a : Int} (h : a ≠ 0) : trim (xs ++ [a]) = xs ++ [a] := by
  induction xs with
  | nil => simp [trim, h]
  | cons x xs ih =>
    rw [List.cons_append, trim_cons, ih, if_neg]
    intro ⟨h1, _⟩
    simp at h1
/-- No zero at the end. -/
def Tr (xs : List Int) : Prop := trim xs = xs
theorem Tr.trim (xs : List Int) : Tr (trim xs) := trim_trim xs
theorem Tr.nil : Tr [] := rfl
theorem Tr.of_last {xs : List Int} (h : xs ≠ []) (hl : cf xs (xs.length - 1) ≠ 0) : Tr xs := by
  obtain ⟨ys, a, rfl⟩ : ∃ ys a, xs = ys ++ [a] := ⟨xs.dropLast, xs.getLast h, (List.dropLast_concat_getLast h).symm⟩
  exact trim_snoc ys (by simpa [cf] using hl)
theorem Tr.last {xs : List Int} (h : Tr xs) (hn : xs ≠ []) : cf xs (xs.length - 1) ≠ 0 := by
  obtain ⟨ys, a, rfl⟩ : ∃ ys a, xs = ys ++ [a] := ⟨xs.dropLast, xs.getLast hn, (List.dropLast_concat_getLast hn).symm⟩
  intro h0
  have ha : a = 0 := by simpa [cf] using h0
  subst ha
  unfold Tr at h
  rw [trim_snoc0] at h
  have := trim_le ys
  rw [h] at this
  simp at this
  omega
theorem trim_len_le {xs : List Int} {n : Nat} (h : ∀ i, n ≤ i → cf xs i = 0) : (trim xs).length ≤ n := by
  rcases Nat.lt_or_ge n (trim xs).length with hl | hl
  · exfalso
    have hne : trim xs ≠ [] := by intro e; rw [e] at hl; simp at hl
    have := (Tr.trim xs).last hne
    rw [trim_cf] at this
    exact this (h _ (by omega))
  · exact hl
theorem trim_el {p : Int} {xs : List Int} (h : allEl p xs = true) : allEl p (trim xs) = true := allEl_of fun i x hx => by
  rw [trim_take, List.getElem?_take] at hx
  split at hx
  · exact allEl_at h hx
  · cases hx
/-! ### Sums -/
/-- by times w is added to v from place s on. -/
def addAt (p : Int) (v : List Int) (s : Nat) (by_ : Int) (w : List Int) : List Int :=
  (List.range v.length).map fun i => if s ≤ i ∧ i - s < w.length then (cf v i + by_ * cf w (i - s)) % p else cf v i
theorem addAt_len (p : Int) (v : List Int) (s : Nat) (b : Int) (w : List Int) : (addAt p v s b w).length = v.length := by simp [addAt]
theorem range_cf {n : Nat} {f : Nat → Int} (i : Nat) : cf ((List.range n).map f) i = if i < n then f i else 0 := by
  simp only [cf, List.getElem?_map]
  split
  · rename_i h; simp [h]
  · rename_i h; rw [List.getElem?_eq_none (by simpa using h)]; rfl
theorem addAt_cf (p : Int) (v : List Int) (s : Nat) (b : Int) (w : List Int) (i : Nat) : cf (addAt p v s b w) i = if i < v.length then (if s ≤ i ∧ i - s < w.length then (cf v i + b * cf w (i - s)) % p else cf v i) else 0 := by
  rw [addAt, range_cf]
theorem addAt_el {p : Int} {v : List Int} (h : allEl p v = true) (hp : 0 < p) (s : Nat) (b : Int) (w : List Int) : allEl p (addAt p v s b w) = true := allEl_of fun i x hx => by
  have hc := cf_of hx
  rw [addAt_cf] at hc
  split at hc
  · split at hc
    · rw [← hc]; exact ⟨Int.emod_nonneg _ (by omega), Int.emod_lt_of_pos _ hp⟩
    · rw [← hc]; exact cf_bd h hp i
  · rename_i hh
    rw [List.getElem?_eq_none (by rw [addAt_len]; omega)] at hx; cases hx
/-- The first k places are done. -/
theorem addAt_take_succ (p : Int) (v : List Int) (s : Nat) (b : Int) (w : List Int) (k : Nat) (hk : k < w.length) :
    (addAt p v s b (w.take k)).set (s + k) ((cf v (s + k) + b * cf w k) % p) = addAt p v s b (w.take (k + 1)) := by
  apply List.ext_getElem?
  intro i
  by_cases hi : i < v.length
  · rw [List.getElem?_set]
    have e1 : (addAt p v s b (w.take (k + 1)))[i]? = some (cf (addAt p v s b (w.take (k + 1))) i) := by rw [List.getElem?_eq_getElem (by rw [addAt_len]; exact hi)]; rw [cf, List.getElem?_eq_getElem (by rw [addAt_len]; exact hi)]; rfl
    have e2 : (addAt p v s b (w.take k))[i]? = some (cf (addAt p v s b (w.take k)) i) := by rw [List.getElem?_eq_getElem (by rw [addAt_len]; exact hi)]; rw [cf, List.getElem?_eq_getElem (by rw [addAt_len]; exact hi)]; rfl
    rw [e1, e2, addAt_cf, addAt_cf, if_pos hi, if_pos hi, addAt_len]
    have ct : ∀ m j, j < m → cf (w.take m) j = cf w j := fun m j hj => by simp [cf, hj]
    simp only [List.length_take]
    by_cases hs : s + k = i
    · rw [if_pos hs, if_pos (by omega), if_pos (by omega)]
      have : i - s = k := by omega
      rw [this, ct _ _ (by omega), hs]
    · rw [if_neg hs]
      by_cases hc : s ≤ i ∧ i - s < k
      · rw [if_pos (by omega), if_pos (by omega), ct _ _ hc.2, ct _ _ (by omega)]
      · rw [if_neg (by omega), if_neg (by omega)]
  · rw [List.getElem?_eq_none (by rw [List.length_set, addAt_len]; omega), List.getElem?_eq_none (by rw [addAt_len]; omega)]
theorem addAt_nil (p : Int) (v : List Int) (s : Nat) (b : Int) : addAt p v s b [] = v := cf_ext (addAt_len _ _ _ _ _) fun i => by
  rw [addAt_cf]
  split
  · rw [if_neg (by simp)]
  · rename_i h; rw [cf_ge (by omega)]
theorem addAt_at {p : Int} {v : List Int} {s : Nat} {b : Int} {w : List Int} {i : Nat} (hi : i < v.length) (h : s + w.length ≤ i) : (addAt p v s b w)[i]? = some (cf v i) := by
  have e : (addAt p v s b w)[i]? = some (cf (addAt p v s b w) i) := by rw [List.getElem?_eq_getElem (by rw [addAt_len]; exact hi)]; rw [cf, List.getElem?_eq_getElem (by rw [addAt_len]; exact hi)]; rfl
  rw [e, addAt_cf, if_pos hi, if_neg (by omega)]
/-- f, filled up with zeros to n. -/
def padTo (f : List Int) (n : Nat) : List Int := f ++ List.replicate (n - f.length) 0
theorem padTo_len {f : List Int} {n : Nat} (h : f.length ≤ n) : (padTo f n).length = n := by simp [padTo]; omega
theorem padTo_cf (f : List Int) (n i : Nat) : cf (padTo f n) i = cf f i := by
  simp only [cf, padTo, List.getElem?_append]
  split
  · rfl
  · rename_i h
    rw [List.getElem?_eq_none (by omega : f.length ≤ i), List.getElem?_replicate]
    split <;> rfl
theorem padTo_el {p : Int} {f : List Int} (h : allEl p f = true) (hp : 0 < p) (n : Nat) : allEl p (padTo f n) = true := allEl_of fun i x hx => by
  have := cf_bd h hp i
  rw [← padTo_cf f n i, cf_of hx] at this
  exact this
/-- f plus by times g. -/
def pAdd (p : Int) (f : List Int) (b : Int) (g : List Int) : List Int := trim (addAt p (padTo f (max f.length g.length)) 0 b g)
theorem pAdd_cf (p : Int) {f : List Int} (b : Int) (g : List Int) (hf : allEl p f = true) (hp : 0 < p) (i : Nat) : cf (pAdd p f b g) i = (cf f i + b * cf g i) % p := by
  rw [pAdd, trim_cf, addAt_cf, padTo_len (by omega), padTo_cf]
  have hb := cf_bd hf hp i
  have hm : cf f i % p = cf f i := Int.emod_eq_of_lt hb.1 hb.2
  split
  · split
    · simp
    · rename_i h
      rw [cf_ge (by omega : g.length ≤ i)]; simp [hm]
  · rw [cf_ge (by omega : f.length ≤ i), cf_ge (by omega : g.length ≤ i)]; simp
theorem pAdd_el {p : Int} {f : List Int} (hf : allEl p f = true) (hp : 0 < p) (b : Int) (g : List Int) : allEl p (pAdd p f b g) = true := trim_el (addAt_el (padTo_el hf hp _) hp _ _ _)
theorem pAdd_tr (p : Int) (f : List Int) (b : Int) (g : List Int) : Tr (pAdd p f b g) := Tr.trim _
theorem pAdd_le (p : Int) (f : List Int) (b : Int) (g : List Int) : (pAdd p f b g).length ≤ max f.length g.length := by
  have := trim_le (addAt p (padTo f (max f.length g.length)) 0 b g)
  rw [addAt_len, padTo_len (by omega)] at this
  exact this
/-- by times g. -/
def pScale (p b : Int) (g : List Int) : List Int := pAdd p [] b g
theorem allEl_nil (p : Int) : allEl p [] = true := rfl

/-! ### Products -/
/-- The first k rows of the product. -/
def mulTo (p : Int) (f g : List Int) : Nat → List Int
  | 0 => List.replicate (f.length + g.length - 1) 0
  | k + 1 => addAt p (mulTo p f g k) k (cf f k) g
theorem mulTo_len (p : Int) (f g : List Int) (k : Nat) : (mulTo p f g k).length = f.length + g.length - 1 := by
  induction k with
  | zero => simp [mulTo]
  | succ k ih => rw [mulTo, addAt_len, ih]
theorem rep_el {p : Int} (hp : 0 < p) (n : Nat) : allEl p (List.replicate n 0) = true := allEl_of fun i x hx => by
  rw [List.getElem?_replicate] at hx; split at hx
  · injection hx with hx; subst hx; exact ⟨by omega, hp⟩
  · cases hx
theorem rep_cf (n i : Nat) : cf (List.replicate n 0) i = 0 := by
  rw [cf, List.getElem?_replicate]; split <;> rfl
theorem mulTo_el {p : Int} (hp : 0 < p) (f g : List Int) (k : Nat) : allEl p (mulTo p f g k) = true := by
  induction k with
  | zero => exact rep_el hp _
  | succ k ih => exact addAt_el ih hp _ _ _
/-- The sum of f[i] g[n - i] for i below k (and not above n). -/
def cvS (f g : List Int) (n : Nat) : Nat → Int
  | 0 => 0
  | k + 1 => cvS f g n k + if k ≤ n then cf f k * cf g (n - k) else 0
theorem mulTo_cf {p : Int} (_hp : 0 < p) (f g : List Int) (k : Nat) (hk : k ≤ f.length) (i : Nat) : cf (mulTo p f g k) i = cvS f g i k % p := by
  induction k with
  | zero => simp [mulTo, rep_cf, cvS]
  | succ k ih =>
    have ih := ih (by omega)
    rw [mulTo, addAt_cf, mulTo_len, ih, cvS]
    split
    · split
      · rename_i h; rw [if_pos h.1]; rw [Int.emod_add_emod]
      · rename_i h
        split
        · rename_i h'; rw [cf_ge (by omega : g.length ≤ i - k)]; simp
        · simp
    · rename_i h
      have h0 : cf (mulTo p f g k) i = 0 := cf_ge (by rw [mulTo_len]; omega)
      rw [ih] at h0
      split
      · rw [cf_ge (by omega : g.length ≤ i - k)]; simp [h0]
      · simp [h0]
/-- The product, as the reference has it (no zero at the end is cut off). -/
def pMulR (p : Int) (f g : List Int) : List Int := if f = [] ∨ g = [] then [] else mulTo p f g f.length
/-- The product. -/
def pMul (p : Int) (f g : List Int) : List Int := trim (pMulR p f g)
theorem pMulR_el {p : Int} (hp : 0 < p) (f g : List Int) : allEl p (pMulR p f g) = true := by
  rw [pMulR]; split
  · rfl
  · exact mulTo_el hp _ _ _
theorem pMul_el {p : Int} (hp : 0 < p) (f g : List Int) : allEl p (pMul p f g) = true := trim_el (pMulR_el hp f g)
theorem pMulR_cf {p : Int} (hp : 0 < p) (f g : List Int) (i : Nat) : cf (pMulR p f g) i = cvS f g i f.length % p := by
  rw [pMulR]; split
  · rename_i h
    rcases h with h | h
    · subst h; simp [cvS, cf_nil]
    · subst h
      have : ∀ k, cvS f [] i k = 0 := fun k => by
        induction k with
        | zero => rfl
        | succ k ih => rw [cvS, ih]; simp [cf_nil]
      rw [this]; simp [cf_nil]
  · exact mulTo_cf hp f g _ (Nat.le_refl _) i
theorem cvS_top (f g : List Int) (hf : f ≠ []) : cvS f g (f.length + g.length - 2) f.length = cf f (f.length - 1) * cf g (g.length - 1) ∨ g = [] := by
  by_cases hg : g = []
  · exact .inr hg
  left
  obtain ⟨n, hn⟩ : ∃ n, f.length = n + 1 := ⟨f.length - 1, by have := List.length_pos_iff.2 hf; omega⟩
  obtain ⟨m, hm⟩ : ∃ m, g.length = m + 1 := ⟨g.length - 1, by have := List.length_pos_iff.2 hg; omega⟩
  have hz : ∀ k, k ≤ n → cvS f g (n + 1 + g.length - 2) k = 0 := by
    intro k hk
    induction k with
    | zero => rfl
    | succ k ih => rw [cvS, ih (by omega), cf_ge (by omega : g.length ≤ n + 1 + g.length - 2 - k)]; simp
  rw [hn, cvS, hz n (Nat.le_refl _), if_pos (by omega)]
  have e : n + 1 + g.length - 2 - n = g.length - 1 := by omega
  rw [e]; simp
/-- The product of two polynomials without zeros at the end has none. -/
theorem pMulR_tr {p : Int} (hF : fieldB p = true) {f g : List Int} (hf : allEl p f = true) (hg : allEl p g = true) (tf : Tr f) (tg : Tr g) : Tr (pMulR p f g) := by
  have h2 := fieldB_lo hF
  by_cases hn : f = [] ∨ g = []
  · rw [pMulR, if_pos hn]; exact Tr.nil
  · have hf0 : f ≠ [] := fun e => hn (.inl e)
    have hg0 : g ≠ [] := fun e => hn (.inr e)
    have hfl := List.length_pos_iff.2 hf0
    have hgl := List.length_pos_iff.2 hg0
    have hl : (pMulR p f g).length = f.length + g.length - 1 := by rw [pMulR, if_neg hn, mulTo_len]
    refine Tr.of_last (by intro e; rw [e] at hl; simp at hl; omega) ?_
    rw [hl, pMulR_cf (by omega), show f.length + g.length - 1 - 1 = f.length + g.length - 2 by omega]
    rcases cvS_top f g hf0 with h | h
    · rw [h]
      have b1 := cf_bd hf (by omega) (f.length - 1)
      have b2 := cf_bd hg (by omega) (g.length - 1)
      have n1 := tf.last hf0
      have n2 := tg.last hg0
      exact noz hF ⟨by omega, b1.2⟩ ⟨by omega, b2.2⟩
    · exact absurd h hg0
theorem pMul_eq {p : Int} (hF : fieldB p = true) {f g : List Int} (hf : allEl p f = true) (hg : allEl p g = true) (tf : Tr f) (tg : Tr g) : pMulR p f g = pMul p f g := (pMulR_tr hF hf hg tf tg).symm
theorem pMul_len {p : Int} (hF : fieldB p = true) {f g : List Int} (hf : allEl p f = true) (hg : allEl p g = true) (tf : Tr f) (tg : Tr g) (h1 : f ≠ []) (h2 : g ≠ []) : (pMul p f g).length = f.length + g.length - 1 := by
  rw [← pMul_eq hF hf hg tf tg, pMulR, if_neg (by simp [h1, h2]), mulTo_len]
/-! ### Quotients -/
/-- The steps at the places below k: the quotient's coefficients there, and what is left. -/
def divGo (p : Int) (g : List Int) (b : Int) : Nat → List Int → List Int × List Int
  | 0, r => ([], r)
  | k + 1, r => ((divGo p g b k (addAt p r k (-(cf r (k + g.length - 1) * b % p)) g)).1 ++ [cf r (k + g.length - 1) * b % p],
      (divGo p g b k (addAt p r k (-(cf r (k + g.length - 1) * b % p)) g)).2)
theorem divGo_len (p : Int) (g : List Int) (b : Int) (k : Nat) : ∀ r, (divGo p g b k r).1.length = k ∧ (divGo p g b k r).2.length = r.length := by
  induction k with
  | zero => intro r; exact ⟨rfl, rfl⟩
  | succ k ih => intro r; simp [divGo, ih, addAt_len]
def pDivQ (p : Int) (f g : List Int) : List Int := if f.length < g.length then [] else trim (divGo p g (invM p (cf g (g.length - 1))) (f.length - g.length + 1) f).1
def pDivR (p : Int) (f g : List Int) : List Int := if f.length < g.length then f else trim (divGo p g (invM p (cf g (g.length - 1))) (f.length - g.length + 1) f).2
theorem divGo_el {p : Int} (hp : 0 < p) (g : List Int) (b : Int) (k : Nat) : ∀ r, allEl p r = true → allEl p (divGo p g b k r).1 = true ∧ allEl p (divGo p g b k r).2 = true := by
  induction k with
  | zero => intro r hr; exact ⟨rfl, hr⟩
  | succ k ih =>
    intro r hr
    have := ih _ (addAt_el hr hp k (-(cf r (k + g.length - 1) * b % p)) g)
    refine ⟨?_, this.2⟩
    rw [divGo, allEl, List.all_append, ← allEl, this.1]
    simp [elB]
    exact ⟨Int.emod_nonneg _ (by omega), Int.emod_lt_of_pos _ hp⟩
theorem pDivQ_el {p : Int} (hp : 0 < p) {f : List Int} (hf : allEl p f = true) (g : List Int) : allEl p (pDivQ p f g) = true := by
  rw [pDivQ]; split
  · rfl
  · exact trim_el (divGo_el hp _ _ _ _ hf).1
theorem pDivR_el {p : Int} (hp : 0 < p) {f : List Int} (hf : allEl p f = true) (g : List Int) : allEl p (pDivR p f g) = true := by
  rw [pDivR]; split
  · exact hf
  · exact trim_el (divGo_el hp _ _ _ _ hf).2
theorem pDivQ_tr (p : Int) (f g : List Int) : Tr (pDivQ p f g) := by
  rw [pDivQ]; split
  · exact Tr.nil
  · exact Tr.trim _
theorem pDivR_tr (p : Int) {f : List Int} (hf : Tr f) (g : List Int) : Tr (pDivR p f g) := by
  rw [pDivR]; split
  · exact hf
  · exact Tr.trim _
theorem pDivQ_le (p : Int) (f g : List Int) : (pDivQ p f g).length ≤ f.length - g.length + 1 := by
  rw [pDivQ]; split
  · simp
  · refine Nat.le_trans (trim_le _) ?_
    rw [(divGo_len _ _ _ _ _).1]; exact Nat.le_refl _
/-- A step takes the top coefficient away. -/
theorem div_top {p : Int} (hF : fieldB p = true) {g : List Int} (hg : allEl p g = true) (tg : Tr g) (hn : g ≠ []) {r : List Int} (_hr : allEl p r = true) (k : Nat) (hk : k + g.length ≤ r.length) :
    cf (addAt p r k (-(cf r (k + g.length - 1) * invM p (cf g (g.length - 1)) % p)) g) (k + g.length - 1) = 0 := by
  have h2 := fieldB_lo hF
  have hgl := List.length_pos_iff.2 hn
  rw [addAt_cf, if_pos (by omega), if_pos (by omega)]
  have b1 := cf_bd hg (by omega) (g.length - 1)
  have n1 := tg.last hn
  have hi := inv_mul hF (show 0 < cf g (g.length - 1) by omega) b1.2
  have e : k + g.length - 1 - k = g.length - 1 := by omega
  rw [e]
  generalize cf r (k + g.length - 1) = x
  generalize cf g (g.length - 1) = y at *
  generalize invM p y = z at *
  have h1 : (x * z % p) * y % p = x % p := by
    rw [Int.mul_emod (x * z % p) y p, Int.emod_emod, ← Int.mul_emod, Int.mul_assoc, Int.mul_comm z y, Int.mul_emod x, hi]; simp
  rw [Int.neg_mul, ← Int.sub_eq_add_neg, Int.sub_emod, h1, Int.sub_self, Int.zero_emod]
theorem divGo_small {p : Int} (hF : fieldB p = true) {g : List Int} (hg : allEl p g = true) (tg : Tr g) (hn : g ≠ []) (k : Nat) :
    ∀ r, allEl p r = true → r.length ≤ k + g.length - 1 + (r.length - (k + g.length - 1)) → k + g.length - 1 ≤ r.length → (∀ i, k + g.length - 1 ≤ i → cf r i = 0) → ∀ i, g.length - 1 ≤ i → cf (divGo p g (invM p (cf g (g.length - 1))) k r).2 i = 0 := by
  have h2 := fieldB_lo hF
  have hgl := List.length_pos_iff.2 hn
  induction k with
  | zero => intro r _ _ _ hz i hi; exact hz i (by omega)
  | succ k ih =>
    intro r hr _ hlen hz i hi
    rw [divGo]
    refine ih _ (addAt_el hr (by omega) _ _ _) (by omega) (by rw [addAt_len]; omega) ?_ i hi
    intro j hj
    by_cases hjk : j = k + g.length - 1
    · subst hjk; exact div_top hF hg tg hn hr k (by omega)
    · rw [addAt_cf]
      split
      · rw [if_neg (by omega)]; exact hz j (by omega)
      · rfl
/-- The remainder is shorter than the divisor. -/
theorem pDivR_lt {p : Int} (hF : fieldB p = true) {f g : List Int} (hf : allEl p f = true) (hg : allEl p g = true) (tg : Tr g) (hn : g ≠ []) : (pDivR p f g).length < g.length := by
  have hgl := List.length_pos_iff.2 hn
  rw [pDivR]; split
  · assumption
  · have := trim_len_le (n := g.length - 1) (divGo_small hF hg tg hn (f.length - g.length + 1) f hf (by omega) (by omega) (fun i hi => cf_ge (by omega)))
    omega

/-! ### Greatest common divisors -/
def gcdL (p : Int) : Nat → List Int → List Int → List Int
  | 0, f, _ => f
  | n + 1, f, g => if g = [] then f else gcdL p n g (pDivR p f g)
theorem gcdL_nil (p : Int) (n : Nat) (f : List Int) : gcdL p n f [] = f := by cases n <;> simp [gcdL]
theorem gcdL_step (p : Int) (n : Nat) (f : List Int) {g : List Int} (h : g ≠ []) : gcdL p (n + 1) f g = gcdL p n g (pDivR p f g) := by rw [gcdL, if_neg h]
/-- Enough fuel is enough. -/
theorem gcdL_fuel {p : Int} (hF : fieldB p = true) : ∀ (n m : Nat) {f g : List Int}, allEl p f = true → allEl p g = true → Tr f → Tr g → g.length ≤ n → g.length ≤ m → gcdL p n f g = gcdL p m f g
  | n, m, f, g, hf, hg, tf, tg, hn, hm => by
    by_cases h0 : g = []
    · subst h0; rw [gcdL_nil, gcdL_nil]
    · have hgl := List.length_pos_iff.2 h0
      obtain ⟨n, rfl⟩ : ∃ k, n = k + 1 := ⟨n - 1, by omega⟩
      obtain ⟨m, rfl⟩ : ∃ k, m = k + 1 := ⟨m - 1, by omega⟩
      rw [gcdL_step _ _ _ h0, gcdL_step _ _ _ h0]
      have hl := pDivR_lt hF hf hg tg h0
      exact gcdL_fuel hF n m hg (pDivR_el (by have := fieldB_lo hF; omega) hf g) tg (pDivR_tr p tf g) (by omega) (by omega)
def gcdE (p : Int) (f g : List Int) : List Int := gcdL p (g.length + 1) f g
theorem gcdL_el {p : Int} (hp : 0 < p) (n : Nat) : ∀ {f g : List Int}, allEl p f = true → allEl p g = true → allEl p (gcdL p n f g) = true := by
  induction n with
  | zero => intro f g hf _; exact hf
  | succ n ih =>
    intro f g hf hg
    rw [gcdL]; split
    · exact hf
    · exact ih hg (pDivR_el hp hf g)
theorem gcdL_tr (p : Int) (n : Nat) : ∀ {f g : List Int}, Tr f → Tr g → Tr (gcdL p n f g) := by
  induction n with
  | zero => intro f g hf _; exact hf
  | succ n ih =>
    intro f g hf hg
    rw [gcdL]; split
    · exact hf
    · exact ih hg (pDivR_tr p hf g)
theorem gcdL_ne1 (p : Int) (n : Nat) : ∀ {f g : List Int}, f ≠ [] → gcdL p n f g ≠ [] := by
  induction n with
  | zero => intro f g h; exact h
  | succ n ih =>
    intro f g h
    rw [gcdL]; split
    · exact h
    · rename_i hg; exact ih hg
theorem gcdE_ne (p : Int) {f g : List Int} (h : f ≠ [] ∨ g ≠ []) : gcdE p f g ≠ [] := by
  rw [gcdE]
  by_cases hg : g = []
  · subst hg
    rcases h with h | h
    · exact gcdL_ne1 p _ h
    · exact absurd rfl h
  · rw [gcdL_step _ _ _ hg]; exact gcdL_ne1 p _ hg
theorem gcdE_step {p : Int} (hF : fieldB p = true) {f g : List Int} (hf : allEl p f = true) (hg : allEl p g = true) (tf : Tr f) (tg : Tr g) (h0 : g ≠ []) : gcdE p f g = gcdE p g (pDivR p f g) := by
  rw [gcdE, gcdL_step _ _ _ h0, gcdE]
  have hl := pDivR_lt hF hf hg tg h0
  exact gcdL_fuel hF _ _ hg (pDivR_el (by have := fieldB_lo hF; omega) hf g) tg (pDivR_tr p tf g) (by omega) (by omega)
theorem gcdE_nil (p : Int) (f : List Int) : gcdE p f [] = f := gcdL_nil p _ f
theorem gcdE_el {p : Int} (hp : 0 < p) {f g : List Int} (hf : allEl p f = true) (hg : allEl p g = true) : allEl p (gcdE p f g) = true := gcdL_el hp _ hf hg
theorem gcdE_tr (p : Int) {f g : List Int} (hf : Tr f) (hg : Tr g) : Tr (gcdE p f g) := gcdL_tr p _ hf hg
/-- The monic multiple. -/
def monicM (p : Int) (f : List Int) : List Int := pScale p (invM p (cf f (f.length - 1))) f
/-- The monic greatest common divisor. -/
def gcdM (p : Int) (f g : List Int) : List Int := monicM p (gcdE p f g)
theorem gcdM_el {p : Int} (hp : 0 < p) (f g : List Int) : allEl p (gcdM p f g) = true := pAdd_el (allEl_nil p) hp _ _
theorem gcdM_tr (p : Int) (f g : List Int) : Tr (gcdM p f g) := pAdd_tr _ _ _ _
theorem pScale_cf (p : Int) (b : Int) (g : List Int) (hp : 0 < p) (i : Nat) : cf (pScale p b g) i = b * cf g i % p := by
  rw [pScale, pAdd_cf p b g (allEl_nil p) hp, cf_nil, Int.zero_add]
/-- The monic multiple has the same length. -/
theorem monicM_len {p : Int} (hF : fieldB p = true) {f : List Int} (hf : allEl p f = true) (tf : Tr f) (h0 : f ≠ []) : (monicM p f).length = f.length ∧ cf (monicM p f) (f.length - 1) = 1 := by
  have h2 := fieldB_lo hF
  have hfl := List.length_pos_iff.2 h0
  have hb := cf_bd hf (by omega) (f.length - 1)
  have hn := tf.last h0
  have h1 : cf (monicM p f) (f.length - 1) = 1 := by
    rw [monicM, pScale_cf p _ _ (by omega), Int.mul_comm]
    exact inv_mul hF (by omega) hb.2
  have hle : (monicM p f).length ≤ f.length := by have := pAdd_le p [] (invM p (cf f (f.length - 1))) f; simpa [monicM, pScale] using this
  refine ⟨?_, h1⟩
  rcases Nat.lt_or_ge (monicM p f).length f.length with h | h
  · rw [cf_ge (by omega)] at h1; cases h1
  · omega
/-- p is a field and f a polynomial over it. -/
def polyB (p : Int) (f : List Int) : Bool := fieldB p && decide (f.length ≤ 41) && allEl p f && (decide (f.length = 0) || decide (cf f (f.length - 1) ≠ 0))
theorem polyB_parts {p : Int} {f : List Int} (h : polyB p f = true) : fieldB p = true ∧ f.length ≤ 41 ∧ allEl p f = true ∧ Tr f := by
  simp only [polyB, Bool.and_eq_true, Bool.or_eq_true, decide_eq_true_eq] at h
  refine ⟨h.1.1.1, h.1.1.2, h.1.2, ?_⟩
  by_cases h0 : f = []
  · subst h0; exact Tr.nil
  · have hfl := List.length_pos_iff.2 h0
    exact Tr.of_last h0 (h.2.resolve_left (by omega))
end Go.Proofs.YtmekhjnhcgmphaaDoor
namespace Go.Proofs.YtmekhjnhcgmphaaDoor
set_option maxRecDepth 100000
/-- The sum of the first n values. -/
def sg (f : Nat → Int) : Nat → Int
  | 0 => 0
  | n + 1 => sg f n + f n
/-- What coefficients make of the list at k. -/
def Dg (s c : Nat → Int) (l k : Nat) : Int := sg (fun i => c i * s (k - i)) (l + 1)
end Go.Proofs.YtmekhjnhcgmphaaDoor
namespace Go.Proofs.YtmekhjnhcgmphaaDoor
set_option maxRecDepth 100000
def shB (b : Nat → Int) (sh i : Nat) : Int := if sh ≤ i then b (i - sh) else 0
/-- The polynomial now of length L is a shortest recurrence of the first n elements; the one before it fails sh elements back, by last. -/
structure Bm (p : Int) (s : Nat → Int) (n : Nat) (now before : Nat → Int) (L sh : Nat) (last : Int) : Prop where
  c0 : now 0 = 1
  deg : ∀ i, L < i → now i = 0
  goes : ∀ k, L ≤ k → k < n → p ∣ Dg s now L k
  least : ∀ (c : Nat → Int) (l : Nat), c 0 = 1 → (∀ k, l ≤ k → k < n → p ∣ Dg s c l k) → L ≤ l
  len : L ≤ n
  sh1 : 1 ≤ sh
  nl : ¬ p ∣ last
  back : (L = 0 ∧ sh = n + 1 ∧ ∀ i, 0 < i → before i = 0) ∨ ∃ nb Lb, sh + nb = n ∧ L + Lb = nb + 1 ∧ (∀ i, Lb < i → before i = 0) ∧ Lb ≤ nb ∧ (∀ k, Lb ≤ k → k < nb → p ∣ Dg s before Lb k) ∧ p ∣ Dg s before Lb nb - last
theorem Bm.start {p : Int} (hp : 2 ≤ p) (s : Nat → Int) {o : Nat → Int} (h0 : o 0 = 1) (h1 : ∀ i, 0 < i → o i = 0) : Bm p s 0 o o 0 1 1 where
  c0 := h0
  deg := h1
  goes := fun k _ h => by omega
  least := fun _ _ _ _ => Nat.zero_le _
  len := Nat.le_refl _
  sh1 := Nat.le_refl _
  nl := fun h => by have := Int.le_of_dvd (by decide) h; omega
  back := .inl ⟨rfl, rfl, h1⟩
theorem Bm.skip {p : Int} {s now before : Nat → Int} {n L sh : Nat} {last : Int} (h : Bm p s n now before L sh last) (hg : p ∣ Dg s now L n) : Bm p s (n + 1) now before L (sh + 1) last where
  c0 := h.c0
  deg := h.deg
  goes := fun k h1 h2 => by
    by_cases e : k = n
    · rw [e]; exact hg
    · exact h.goes k h1 (by omega)
  least := fun c l hc hl => h.least c l hc fun k h1 h2 => hl k h1 (by omega)
  len := by have := h.len; omega
  sh1 := by omega
  nl := h.nl
  back := by
    rcases h.back with ⟨a, b, c⟩ | ⟨nb, Lb, a, b⟩
    · exact .inl ⟨a, by omega, c⟩
    · exact .inr ⟨nb, Lb, by omega, b⟩
/-- What the new polynomial has in common with the old one. -/
structure BmN (p q : Int) (now before next : Nat → Int) (sh : Nat) : Prop where
  c0 : next 0 = 1
  lin : ∀ i, p ∣ next i - (now i - q * shB before sh i)
  zero : ∀ i, now i = 0 → shB before sh i = 0 → next i = 0
end Go.Proofs.YtmekhjnhcgmphaaDoor
namespace Go.Proofs.YtmekhjnhcgmphaaDoor
set_option maxRecDepth 100000
/-- Where the search stands. -/
structure BmS where
  now : List Int
  before : List Int
  L : Nat
  sh : Nat
  last : Int
/-- What the search keeps, with bounds. -/
structure BmG (p : Int) (s : List Int) (n : Nat) (x : BmS) : Prop where
  good : Bm p (cf s) n (cf x.now) (cf x.before) x.L x.sh x.last
  ne : allEl p x.now = true
  be : allEl p x.before = true
  nt : Tr x.now
  l0 : 0 < x.last
  l1 : x.last < p
  shl : x.sh ≤ n + 1
  nl : x.now.length ≤ x.L + 1
  bl : x.before.length ≤ n + 1
end Go.Proofs.YtmekhjnhcgmphaaDoor
