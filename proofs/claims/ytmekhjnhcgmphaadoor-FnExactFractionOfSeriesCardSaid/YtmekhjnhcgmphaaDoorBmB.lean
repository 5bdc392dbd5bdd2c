/- The shortest recurrence of a list: what the search keeps. Plain lemmas of mine. -/
import Derived.Test.YtmekhjnhcgmphaaDoorBmA
namespace Go.Proofs.YtmekhjnhcgmphaaDoor
set_option maxRecDepth 100000
def shB (b : Nat → Int) (sh i : Nat) : Int := if sh ≤ i then b (i - sh) else 0
/-- The polynomial now of length L is a shortest recurrence of the first n elements; the one before it fails sh elements back, by last. -/
structure Bm (p : Int) (s : Nat → Int) (n : Nat) (now before : Nat → Int) (L sh : Nat) (last : Int) : Prop where
  c0 : now 0 = 1
  deg : ∀ i, L < i → now i = 0
  goes : ∀ k, L ≤ k → k < n → p ∣ Dg s now L k
  least : ∀ (c : Nat → Int) (l : Nat), c 0 = 1 → (∀ k, l ≤ k → k < n → p ∣ Dg s c l k) → L ≤ l
  len : L ≤ n
  sh1 : 1 ≤ sh
  nl : ¬ p ∣ last
  back : (L = 0 ∧ sh = n + 1 ∧ ∀ i, 0 < i → before i = 0) ∨ ∃ nb Lb, sh + nb = n ∧ L + Lb = nb + 1 ∧ (∀ i, Lb < i → before i = 0) ∧ Lb ≤ nb ∧ (∀ k, Lb ≤ k → k < nb → p ∣ Dg s before Lb k) ∧ p ∣ Dg s before Lb nb - last
theorem Bm.start {p : Int} (hp : 2 ≤ p) (s : Nat → Int) {o : Nat → Int} (h0 : o 0 = 1) (h1 : ∀ i, 0 < i → o i = 0) : Bm p s 0 o o 0 1 1 where
  c0 := h0
  deg := h1
  goes := fun k _ h => by omega
  least := fun _ _ _ _ => Nat.zero_le _
  len := Nat.le_refl _
  sh1 := Nat.le_refl _
  nl := fun h => by have := Int.le_of_dvd (by decide) h; omega
  back := .inl ⟨rfl, rfl, h1⟩
theorem Bm.skip {p : Int} {s now before : Nat → Int} {n L sh : Nat} {last : Int} (h : Bm p s n now before L sh last) (hg : p ∣ Dg s now L n) : Bm p s (n + 1) now before L (sh + 1) last where
  c0 := h.c0
  deg := h.deg
  goes := fun k h1 h2 => by
    by_cases e : k = n
    · rw [e]; exact hg
    · exact h.goes k h1 (by omega)
  least := fun c l hc hl => h.least c l hc fun k h1 h2 => hl k h1 (by omega)
  len := by have := h.len; omega
  sh1 := by omega
  nl := h.nl
  back := by
    rcases h.back with ⟨a, b, c⟩ | ⟨nb, Lb, a, b⟩
    · exact .inl ⟨a, by omega, c⟩
    · exact .inr ⟨nb, Lb, by omega, b⟩
theorem Dg_lin {p q : Int} {s now b next : Nat → Int} (h : ∀ i, p ∣ next i - (now i - q * b i)) (l k : Nat) : p ∣ Dg s next l k - (Dg s now l k - q * Dg s b l k) := by
  have e : Dg s next l k - (Dg s now l k - q * Dg s b l k) = sg (fun i => (next i - (now i - q * b i)) * s (k - i)) (l + 1) := by
    unfold Dg
    have e2 : ∀ i, (next i - (now i - q * b i)) * s (k - i) = (fun i => next i * s (k - i) + (-1) * (now i * s (k - i))) i + (fun i => q * (b i * s (k - i))) i := fun i => by
      simp only [Int.sub_mul, Int.mul_assoc]; omega
    rw [sg_congr fun i _ => e2 i, sg_add, sg_add, sg_mul, sg_mul]
    omega
  rw [e]
  exact sg_dvd fun i _ => Int.dvd_mul_of_dvd_left (h i)
/-- What the new polynomial has in common with the old one. -/
structure BmN (p q : Int) (now before next : Nat → Int) (sh : Nat) : Prop where
  c0 : next 0 = 1
  lin : ∀ i, p ∣ next i - (now i - q * shB before sh i)
  zero : ∀ i, now i = 0 → shB before sh i = 0 → next i = 0
theorem shB_zero {b : Nat → Int} {sh l i : Nat} (h : ∀ i, l < i → b i = 0) (hi : l + sh < i) : shB b sh i = 0 := by
  unfold shB
  split
  · exact h _ (by omega)
  · rfl
theorem Bm.goes_on {p q gap : Int} {s now before next : Nat → Int} {n L sh L' : Nat} {last : Int} (h : Bm p s n now before L sh last) (hn : BmN p q now before next sh) (hg : p ∣ Dg s now L n - gap) (hq : p ∣ q * last - gap) (hL : L ≤ L') (hL2 : n + 1 ≤ L' + L) :
    (∀ i, L' < i → next i = 0) ∧ ∀ k, L' ≤ k → k < n + 1 → p ∣ Dg s next L' k := by
  have h1 := h.len
  have h2 := h.sh1
  rcases h.back with ⟨a, b, c⟩ | ⟨nb, Lb, a, b, hbz, hbl, hbg, hbf⟩
  · refine ⟨fun i hi => hn.zero i (h.deg i (by omega)) (shB_zero (l := 0) c (by omega)), fun k k1 k2 => by omega⟩
  · refine ⟨fun i hi => hn.zero i (h.deg i (by omega)) (shB_zero hbz (by omega)), fun k k1 k2 => ?_⟩
    have e1 := Dg_lin (s := s) hn.lin L' k
    have e2 : Dg s now L' k = Dg s now L k := Dg_more hL h.deg k
    have e3 : Dg s (shB before sh) L' k = Dg s before Lb (k - sh) := by
      rw [Dg_more (l := Lb + sh) (by omega) (fun i hi => shB_zero hbz hi)]
      exact Dg_shift Lb sh k
    rw [e2, e3] at e1
    refine (Int.dvd_iff_dvd_of_dvd_sub e1).2 ?_
    by_cases e : k = n
    · subst e
      rw [show k - sh = nb by omega]
      have e4 : Dg s now L k - q * Dg s before Lb nb = (Dg s now L k - gap) - (q * (Dg s before Lb nb - last) + (q * last - gap)) := by rw [Int.mul_sub]; omega
      rw [e4]
      exact Int.dvd_sub hg (Int.dvd_add (Int.dvd_mul_of_dvd_right hbf) hq)
    · exact Int.dvd_sub (h.goes k (by omega) (by omega)) (Int.dvd_mul_of_dvd_right (hbg _ (by omega) (by omega)))
theorem Bm.grow {p q gap : Int} {s now before next : Nat → Int} {n L sh : Nat} {last : Int} (h : Bm p s n now before L sh last) (hn : BmN p q now before next sh) (hg : p ∣ Dg s now L n - gap) (hq : p ∣ q * last - gap) (hf : ¬ p ∣ gap) (h2 : 2 * L ≤ n) :
    Bm p s (n + 1) next now (n + 1 - L) 1 gap := by
  have hf' : ¬ p ∣ Dg s now L n := fun hd => hf ((Int.dvd_iff_dvd_of_dvd_sub hg).1 hd)
  obtain ⟨g1, g2⟩ := h.goes_on (L' := n + 1 - L) hn hg hq (by omega) (by omega)
  refine ⟨hn.c0, g1, g2, fun c l hc hl => ?_, by omega, Nat.le_refl _, hf, .inr ⟨n, L, by omega, by omega, h.deg, by omega, h.goes, hg⟩⟩
  by_cases e : l ≤ n
  · have := massey hc (fun k k1 k2 => hl k k1 (by omega)) h.goes hf'
    omega
  · omega
theorem Bm.stay {p q gap : Int} {s now before next : Nat → Int} {n L sh : Nat} {last : Int} (h : Bm p s n now before L sh last) (hn : BmN p q now before next sh) (hg : p ∣ Dg s now L n - gap) (hq : p ∣ q * last - gap) (h2 : n < 2 * L) :
    Bm p s (n + 1) next before L (sh + 1) last := by
  obtain ⟨g1, g2⟩ := h.goes_on (L' := L) hn hg hq (Nat.le_refl _) (by omega)
  have h1 := h.len
  refine ⟨hn.c0, g1, g2, fun c l hc hl => h.least c l hc fun k k1 k2 => hl k k1 (by omega), by omega, by omega, h.nl, ?_⟩
  rcases h.back with ⟨a, b, c⟩ | ⟨nb, Lb, a, b⟩
  · omega
  · exact .inr ⟨nb, Lb, by omega, b⟩
/-- Two shortest recurrences of a list that is twice as long are one. -/
theorem rec_unique {p : Int} {s c d : Nat → Int} {L n : Nat} (h2 : 2 * L ≤ n) (hc0 : c 0 = 1) (hd0 : d 0 = 1) (hc : ∀ k, L ≤ k → k < n → p ∣ Dg s c L k) (hd : ∀ k, L ≤ k → k < n → p ∣ Dg s d L k)
    (hl : ∀ (e : Nat → Int) (l : Nat), e 0 = 1 → (∀ k, l ≤ k → k < n → p ∣ Dg s e l k) → L ≤ l) (hinv : ∀ x : Int, ¬ p ∣ x → ∃ y, p ∣ y * x - 1) (i : Nat) (hi : i ≤ L) : p ∣ c i - d i := by
  induction i using Nat.strongRecOn with
  | ind j ih =>
    rcases Classical.em (p ∣ c j - d j) with h | h
    · exact h
    · exfalso
      have hj : 1 ≤ j := by
        rcases Nat.eq_zero_or_pos j with e | e
        · subst e; exact (h (by rw [hc0, hd0]; exact Int.dvd_zero p)).elim
        · exact e
      obtain ⟨y, hy⟩ := hinv _ h
      obtain ⟨E, hE⟩ : ∃ E : Nat → Int, E = fun i => if i = 0 then 1 else y * (c (i + j) - d (i + j)) := ⟨_, rfl⟩
      have hE0 : E 0 = 1 := by rw [hE]; rfl
      have low : ∀ m, L - j ≤ m → m < n - j → p ∣ Dg s E (L - j) m := fun m m1 m2 => by
        have a1 := hc (m + j) (by omega) (by omega)
        have a2 := hd (m + j) (by omega) (by omega)
        have a3 : p ∣ sg (fun i => (c i - d i) * s (m + j - i)) (L + 1) := by
          have e : Dg s c L (m + j) - Dg s d L (m + j) = sg (fun i => (c i - d i) * s (m + j - i)) (L + 1) := by
            unfold Dg
            have e2 : ∀ i, (c i - d i) * s (m + j - i) = c i * s (m + j - i) + (-1) * (d i * s (m + j - i)) := fun i => by rw [Int.sub_mul]; omega
            rw [sg_congr fun i _ => e2 i, sg_add, sg_mul]; omega
          rw [← e]; exact Int.dvd_sub a1 a2
        -- the terms below j are multiples of p; the others are E's
        have split : ∀ t, sg (fun i => (c i - d i) * s (m + j - i)) (j + t) = sg (fun i => (c i - d i) * s (m + j - i)) j + sg (fun i => (c (i + j) - d (i + j)) * s (m - i)) t := fun t => by
          induction t with
          | zero => simp [sg]
          | succ t iht => rw [← Nat.add_assoc, sg, iht, sg, Nat.add_comm j t, show m + j - (t + j) = m - t by omega]; omega
        have b1 := split (L - j + 1)
        rw [show j + (L - j + 1) = L + 1 by omega] at b1
        have b2 : p ∣ sg (fun i => (c i - d i) * s (m + j - i)) j := sg_dvd fun i hi2 => Int.dvd_mul_of_dvd_left (ih i hi2 (by omega))
        rw [b1] at a3
        have b3 : p ∣ sg (fun i => (c (i + j) - d (i + j)) * s (m - i)) (L - j + 1) := (Int.dvd_add_right b2).1 a3
        have b4 : p ∣ sg (fun i => y * ((c (i + j) - d (i + j)) * s (m - i))) (L - j + 1) := by rw [sg_mul]; exact Int.dvd_mul_of_dvd_right b3
        have b5 : p ∣ Dg s E (L - j) m - sg (fun i => y * ((c (i + j) - d (i + j)) * s (m - i))) (L - j + 1) := by
          unfold Dg
          rw [sg_first, sg_first (fun i => y * ((c (i + j) - d (i + j)) * s (m - i)))]
          have e : sg (fun i => E (i + 1) * s (m - (i + 1))) (L - j) = sg (fun i => y * ((c (i + 1 + j) - d (i + 1 + j)) * s (m - (i + 1)))) (L - j) := sg_congr fun i _ => by
            rw [hE]; simp only [Nat.add_eq_zero_iff, Nat.succ_ne_self, and_false, if_false]; rw [Int.mul_assoc]
          rw [e, hE0]
          have e3 : ∀ A B X : Int, (A + X) - (B + X) = A - B := fun A B X => by omega
          rw [e3, Nat.zero_add, Nat.sub_zero, ← Int.mul_assoc, ← Int.sub_mul]
          exact Int.dvd_mul_of_dvd_left (by
            have := Int.dvd_neg.2 hy
            rwa [show -(y * (c j - d j) - 1) = 1 - y * (c j - d j) by omega] at this)
        exact (Int.dvd_iff_dvd_of_dvd_sub b5).2 b4
      have all : ∀ m, L - j ≤ m → m < n → p ∣ Dg s E (L - j) m := fun m => by
        induction m using Nat.strongRecOn with
        | ind m ihm =>
          intro m1 m2
          rcases Nat.lt_or_ge m (n - j) with h3 | h3
          · exact low m m1 h3
          · rcases Classical.em (p ∣ Dg s E (L - j) m) with h4 | h4
            · exact h4
            · have := massey hc0 (fun k k1 k2 => hc k k1 (by omega)) (fun k k1 k2 => ihm k k2 k1 (by omega)) h4
              omega
      have := hl E (L - j) hE0 all
      omega
end Go.Proofs.YtmekhjnhcgmphaaDoor
