/- The power series of a fraction: plain theory; the contracts of both sides. -/
import Derived.Test.YtkpfmnconnopnaaDoorFrac5
import Derived.Test.YtkpfmnconnopnaaDoorSeries
import Derived.Deep.RegionHeld3
namespace Go.Proofs.YtkpfmnconnopnaaDoor
set_option maxRecDepth 100000
open Go Go.RowKit
/-- The sum behind the coefficient k, of which j terms are done. -/
def sv (num den out : List Int) (k : Nat) : Nat → Int
  | 0 => cf num k
  | j + 1 => sv num den out k j - cf den (j + 1) * cf out (k - (j + 1))
/-- The first coefficients of the series. -/
def serL (p : Int) (num den : List Int) (b : Int) : Nat → List Int
  | 0 => []
  | k + 1 => serL p num den b k ++ [sv num den (serL p num den b k) k k % p * b % p]
theorem serL_len (p : Int) (num den : List Int) (b : Int) (n : Nat) : (serL p num den b n).length = n := by
  induction n with
  | zero => rfl
  | succ n ih => rw [serL, List.length_append, ih]; rfl
theorem serL_el {p : Int} (hp : 0 < p) (num den : List Int) (b : Int) (n : Nat) : allEl p (serL p num den b n) = true := by
  induction n with
  | zero => rfl
  | succ n ih =>
    rw [serL]
    simp only [allEl, List.all_append, List.all_cons, List.all_nil, Bool.and_true, Bool.and_eq_true] at ih ⊢
    refine ⟨ih, ?_⟩
    have h1 := Int.emod_nonneg (sv num den (serL p num den b n) n n % p * b) (show p ≠ 0 by omega)
    have h2 := Int.emod_lt_of_pos (sv num den (serL p num den b n) n n % p * b) hp
    simp [elB]; omega
theorem sv_bd {p : Int} {num den out : List Int} (hn : allEl p num = true) (hd : allEl p den = true) (ho : allEl p out = true) (h2 : 2 ≤ p) (h97 : p ≤ 97) (k j : Nat) : -(9216 * (j : Int)) ≤ sv num den out k j ∧ sv num den out k j ≤ 96 := by
  induction j with
  | zero => have := cf_bd hn (show 0 < p by omega) k; simp [sv]; omega
  | succ j ih =>
    have b1 := cf_bd hd (show 0 < p by omega) (j + 1)
    have b2 := cf_bd ho (show 0 < p by omega) (k - (j + 1))
    have := mul_bd (x := cf den (j + 1)) (y := cf out (k - (j + 1))) ⟨by omega, by omega⟩ ⟨by omega, by omega⟩
    simp only [sv]
    omega
/-- The sum looks at what is done alone. -/
theorem sv_ext (num den : List Int) {out out' : List Int} (k : Nat) (h : ∀ i, i < k → cf out i = cf out' i) : ∀ j, j ≤ k → sv num den out k j = sv num den out' k j
  | 0, _ => rfl
  | j + 1, hj => by rw [sv, sv, sv_ext num den k h j (by omega), h _ (by omega)]
/-- Behind the denominator's end nothing comes. -/
theorem sv_stop (num den out : List Int) (k : Nat) : ∀ (j i : Nat), den.length ≤ j + 1 → sv num den out k (j + i) = sv num den out k j
  | j, 0, _ => rfl
  | j, i + 1, h => by rw [show j + (i + 1) = (j + i) + 1 by omega, sv, cf_ge (by omega), Int.zero_mul, Int.sub_zero, sv_stop num den out k j i h]
theorem sub_mod2 (p a b : Int) : (a % p - b % p) % p = (a - b) % p := (Int.sub_emod a b p).symm
theorem ser_pad (p : Int) (num den : List Int) (b : Int) (n k : Nat) (hk : k < n) : (serL p num den b k ++ List.replicate (n - k) 0).set k (sv num den (serL p num den b k) k k % p * b % p) = serL p num den b (k + 1) ++ List.replicate (n - (k + 1)) 0 := by
  have hl := serL_len p num den b k
  rw [List.set_append_right _ _ (by omega), hl, Nat.sub_self, serL, List.append_assoc]
  congr 1
  obtain ⟨m, hm⟩ : ∃ m, n - k = m + 1 := ⟨n - k - 1, by omega⟩
  rw [hm, show n - (k + 1) = m by omega, List.replicate_succ]
  rfl
theorem pad_at (p : Int) (num den : List Int) (b : Int) (n k i : Nat) (hi : i < k) : (serL p num den b k ++ List.replicate (n - k) (0 : Int))[i]? = some (cf (serL p num den b k) i) := by
  have hl := serL_len p num den b k
  rw [List.getElem?_append_left (by omega), List.getElem?_eq_getElem (by omega), cf, List.getElem?_eq_getElem (by omega)]
  rfl
theorem pad_at0 (p : Int) (num den : List Int) (b : Int) (n k : Nat) (hk : k < n) : (serL p num den b k ++ List.replicate (n - k) (0 : Int))[k]? = some 0 := by
  have hl := serL_len p num den b k
  rw [List.getElem?_append_right (by omega), hl, Nat.sub_self, List.getElem?_replicate, if_pos (by omega)]
/-- What SeriesOf answers. -/
def serR (p : Int) (num den : List Int) (n : Int) : List Int × Bool := if fracB p num den = true ∧ causB den = true ∧ inB 0 60 n = true then (serL p num den (invM p (cf den 0)) n.toNat, true) else ([], false)
theorem getD_cf (xs : List Int) (i : Nat) : xs[i]?.getD 0 = cf xs i := rfl
end Go.Proofs.YtkpfmnconnopnaaDoor
