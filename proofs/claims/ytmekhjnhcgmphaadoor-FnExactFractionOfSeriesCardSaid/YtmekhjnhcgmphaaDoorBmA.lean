/- The shortest recurrence of a list, in plain terms: Massey's lemma, and one step of the search. Plain lemmas of mine. -/
import Derived.Test.YtmekhjnhcgmphaaDoorNum
namespace Go.Proofs.YtmekhjnhcgmphaaDoor
set_option maxRecDepth 100000
/-- The sum of the first n values. -/
def sg (f : Nat → Int) : Nat → Int
  | 0 => 0
  | n + 1 => sg f n + f n
theorem sg_congr {f g : Nat → Int} : ∀ {n : Nat}, (∀ i, i < n → f i = g i) → sg f n = sg g n
  | 0, _ => rfl
  | n + 1, h => by rw [sg, sg, sg_congr fun i hi => h i (by omega), h n (by omega)]
theorem sg_add (f g : Nat → Int) : ∀ n, sg (fun i => f i + g i) n = sg f n + sg g n
  | 0 => rfl
  | n + 1 => by rw [sg, sg, sg, sg_add f g n]; omega
theorem sg_mul (c : Int) (f : Nat → Int) : ∀ n, sg (fun i => c * f i) n = c * sg f n
  | 0 => by simp [sg]
  | n + 1 => by rw [sg, sg, sg_mul c f n, Int.mul_add]
theorem sg_zero {f : Nat → Int} {n : Nat} (h : ∀ i, i < n → f i = 0) : sg f n = 0 := by
  induction n with
  | zero => rfl
  | succ n ih => rw [sg, ih fun i hi => h i (by omega), h n (by omega)]; rfl
theorem sg_dvd {p : Int} {f : Nat → Int} : ∀ {n : Nat}, (∀ i, i < n → p ∣ f i) → p ∣ sg f n
  | 0, _ => Int.dvd_zero p
  | n + 1, h => Int.dvd_add (sg_dvd fun i hi => h i (by omega)) (h n (by omega))
theorem sg_first (f : Nat → Int) : ∀ n, sg f (n + 1) = f 0 + sg (fun i => f (i + 1)) n
  | 0 => by simp [sg]
  | n + 1 => by rw [sg, sg_first f n, sg]; omega
theorem sg_swap (f : Nat → Nat → Int) (m : Nat) : ∀ n, sg (fun i => sg (fun j => f i j) m) n = sg (fun j => sg (fun i => f i j) n) m
  | 0 => (sg_zero fun _ _ => rfl).symm
  | n + 1 => by rw [sg, sg_swap f m n, ← sg_add]; rfl
theorem sg_more {f : Nat → Int} {n m : Nat} (h : n ≤ m) (hz : ∀ i, n ≤ i → i < m → f i = 0) : sg f m = sg f n := by
  induction m with
  | zero => rw [Nat.le_zero.1 h]
  | succ m ih =>
    by_cases e : n = m + 1
    · rw [e]
    · rw [sg, ih (by omega) fun i h1 h2 => hz i h1 (by omega), hz m (by omega) (by omega), Int.add_zero]
/-- What coefficients make of the list at k. -/
def Dg (s c : Nat → Int) (l k : Nat) : Int := sg (fun i => c i * s (k - i)) (l + 1)
theorem Dg_more {s c : Nat → Int} {l l' : Nat} (h : l ≤ l') (hz : ∀ i, l < i → c i = 0) (k : Nat) : Dg s c l' k = Dg s c l k :=
  sg_more (by omega) fun i h1 _ => by rw [hz i (by omega), Int.zero_mul]
theorem sg_shift {s b : Nat → Int} (lb : Nat) : ∀ (sh k : Nat), sg (fun j => (if sh ≤ j then b (j - sh) else 0) * s (k - j)) (lb + sh + 1) = sg (fun i => b i * s (k - sh - i)) (lb + 1)
  | 0, k => sg_congr fun i _ => by simp
  | sh + 1, k => by
    rw [show lb + (sh + 1) + 1 = (lb + sh + 1) + 1 by omega, sg_first, if_neg (by omega), Int.zero_mul, Int.zero_add]
    have e : ∀ i, (if sh + 1 ≤ i + 1 then b (i + 1 - (sh + 1)) else 0) * s (k - (i + 1)) = (fun j => (if sh ≤ j then b (j - sh) else 0) * s (k - 1 - j)) i := fun i => by
      simp only [Nat.add_le_add_iff_right, Nat.add_sub_add_right]
      rw [show k - (i + 1) = k - 1 - i by omega]
    rw [sg_congr fun i _ => e i, sg_shift lb sh (k - 1), show k - 1 - sh = k - (sh + 1) by omega]
theorem Dg_shift {s b : Nat → Int} (lb sh k : Nat) : Dg s (fun i => if sh ≤ i then b (i - sh) else 0) (lb + sh) k = Dg s b lb (k - sh) := sg_shift lb sh k
/-- Massey's lemma: a recurrence that goes on where another one stops is long. -/
theorem massey {p : Int} {s c c' : Nat → Int} {l l' m : Nat} (hc0 : c 0 = 1) (hc : ∀ k, l ≤ k → k ≤ m → p ∣ Dg s c l k) (hc' : ∀ k, l' ≤ k → k < m → p ∣ Dg s c' l' k) (hf : ¬ p ∣ Dg s c' l' m) : m < l + l' := by
  rcases Nat.lt_or_ge m (l + l') with h | h
  · exact h
  · exfalso
    have hA : p ∣ sg (fun j => c' j * Dg s c l (m - j)) (l' + 1) := sg_dvd fun j hj => Int.dvd_mul_of_dvd_right (hc _ (by omega) (by omega))
    have e1 : sg (fun j => c' j * Dg s c l (m - j)) (l' + 1) = sg (fun i => c i * Dg s c' l' (m - i)) (l + 1) := by
      unfold Dg
      have a : ∀ j, c' j * sg (fun i => c i * s (m - j - i)) (l + 1) = sg (fun i => c' j * (c i * s (m - j - i))) (l + 1) := fun j => (sg_mul _ _ _).symm
      have b : ∀ i, c i * sg (fun j => c' j * s (m - i - j)) (l' + 1) = sg (fun j => c i * (c' j * s (m - i - j))) (l' + 1) := fun i => (sg_mul _ _ _).symm
      rw [sg_congr fun j _ => a j, sg_congr (f := fun i => c i * sg (fun j => c' j * s (m - i - j)) (l' + 1)) fun i _ => b i, sg_swap]
      refine sg_congr fun i _ => sg_congr fun j _ => ?_
      rw [Nat.sub_right_comm, ← Int.mul_assoc, ← Int.mul_assoc, Int.mul_comm (c' j)]
    rw [e1, sg_first, hc0, Int.one_mul, Nat.sub_zero] at hA
    have hB : p ∣ sg (fun i => c (i + 1) * Dg s c' l' (m - (i + 1))) l := sg_dvd fun i hi => Int.dvd_mul_of_dvd_right (hc' _ (by omega) (by omega))
    exact hf ((Int.dvd_add_left hB).1 hA)
end Go.Proofs.YtmekhjnhcgmphaaDoor
