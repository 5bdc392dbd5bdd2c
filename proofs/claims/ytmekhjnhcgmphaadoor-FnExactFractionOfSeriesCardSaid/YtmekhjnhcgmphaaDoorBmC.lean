/- The shortest recurrence of a list, as the program searches for it. Plain lemmas of mine. -/
import Derived.Test.YtmekhjnhcgmphaaDoorBmB
namespace Go.Proofs.YtmekhjnhcgmphaaDoor
set_option maxRecDepth 100000
/-- Where the search stands. -/
structure BmS where
  now : List Int
  before : List Int
  L : Nat
  sh : Nat
  last : Int
def bmGap (p : Int) (s : List Int) (n : Nat) (x : BmS) : Int := Dg (cf s) (cf x.now) x.L n % p
def bmNext (p : Int) (s : List Int) (n : Nat) (x : BmS) : List Int := pAdd p x.now (-bmGap p s n x * invM p x.last) (List.replicate x.sh 0 ++ x.before)
def bmStep (p : Int) (s : List Int) (n : Nat) (x : BmS) : BmS :=
  if bmGap p s n x = 0 then { x with sh := x.sh + 1 }
  else if 2 * x.L ≤ n then { now := bmNext p s n x, before := x.now, L := n + 1 - x.L, sh := 1, last := bmGap p s n x }
  else { x with now := bmNext p s n x, sh := x.sh + 1 }
def bmRun (p : Int) (s : List Int) : Nat → BmS
  | 0 => { now := [1], before := [1], L := 0, sh := 1, last := 1 }
  | n + 1 => bmStep p s n (bmRun p s n)
theorem cf_app (a b : List Int) (i : Nat) : cf (a ++ b) i = if i < a.length then cf a i else cf b (i - a.length) := by
  unfold cf
  split
  · rename_i h; rw [List.getElem?_append_left h]
  · rename_i h; rw [List.getElem?_append_right (by omega)]
theorem cf_rep0 (n i : Nat) : cf (List.replicate n (0 : Int)) i = 0 := by
  unfold cf
  rw [List.getElem?_replicate]
  split <;> rfl
theorem cf_step (b : List Int) (sh i : Nat) : cf (List.replicate sh 0 ++ b) i = shB (cf b) sh i := by
  rw [cf_app, List.length_replicate, cf_rep0]
  unfold shB
  by_cases h : i < sh
  · rw [if_pos h, if_neg (by omega)]
  · rw [if_neg h, if_pos (by omega)]
theorem dvd_mod (p x : Int) : p ∣ x % p - x := by
  refine ⟨-(x / p), ?_⟩
  have := Int.emod_add_mul_ediv x p
  rw [Int.mul_neg]
  omega
theorem dvd_small {p x : Int} (h : p ∣ x) (h0 : 0 ≤ x) (h1 : x < p) : x = 0 := by
  have := Int.emod_eq_zero_of_dvd h
  rwa [Int.emod_eq_of_lt h0 h1] at this
/-- What the search keeps, with bounds. -/
structure BmG (p : Int) (s : List Int) (n : Nat) (x : BmS) : Prop where
  good : Bm p (cf s) n (cf x.now) (cf x.before) x.L x.sh x.last
  ne : allEl p x.now = true
  be : allEl p x.before = true
  nt : Tr x.now
  l0 : 0 < x.last
  l1 : x.last < p
  shl : x.sh ≤ n + 1
  nl : x.now.length ≤ x.L + 1
  bl : x.before.length ≤ n + 1
theorem one_zero {i : Nat} (h : 0 < i) : cf [1] i = 0 := cf_ge (by simp; omega)
theorem len_of_zero {f : List Int} {L : Nat} (ht : Tr f) (h : ∀ i, L < i → cf f i = 0) : f.length ≤ L + 1 := by
  rcases Nat.lt_or_ge (L + 1) f.length with h1 | h1
  · exfalso
    have hne : f ≠ [] := by intro e; rw [e] at h1; simp at h1
    exact ht.last hne (h _ (by omega))
  · exact h1
theorem bm_good {p : Int} (hF : fieldB p = true) (s : List Int) : ∀ n, BmG p s n (bmRun p s n)
  | 0 => by
    have h2 := fieldB_lo hF
    have e1 : allEl p [1] = true := by simp [allEl, elB]; omega
    exact ⟨Bm.start h2 _ rfl fun i hi => one_zero hi, e1, e1, rfl, by show (0 : Int) < 1; decide, by show (1 : Int) < p; omega, Nat.le_refl _, by simp [bmRun], by simp [bmRun]⟩
  | n + 1 => by
    have h := bm_good hF s n
    have h2 := fieldB_lo hF
    obtain ⟨x, hx⟩ : ∃ x, bmRun p s n = x := ⟨_, rfl⟩
    rw [bmRun, hx]
    rw [hx] at h
    have hL := h.good.len
    have hg0 : p ∣ Dg (cf s) (cf x.now) x.L n - bmGap p s n x := by
      have := Int.dvd_neg.2 (dvd_mod p (Dg (cf s) (cf x.now) x.L n))
      rwa [show -(Dg (cf s) (cf x.now) x.L n % p - Dg (cf s) (cf x.now) x.L n) = Dg (cf s) (cf x.now) x.L n - bmGap p s n x by unfold bmGap; omega] at this
    have hgl : 0 ≤ bmGap p s n x := Int.emod_nonneg _ (by omega)
    have hgh : bmGap p s n x < p := Int.emod_lt_of_pos _ (by omega)
    unfold bmStep
    by_cases hz : bmGap p s n x = 0
    · rw [if_pos hz]
      exact ⟨h.good.skip (by rw [hz, Int.sub_zero] at hg0; exact hg0), h.ne, h.be, h.nt, h.l0, h.l1, by have := h.shl; show x.sh + 1 ≤ _; omega, h.nl, by have := h.bl; show x.before.length ≤ _; omega⟩
    · rw [if_neg hz]
      have hq : p ∣ (bmGap p s n x * invM p x.last) * x.last - bmGap p s n x := by
        have hi := inv_mul hF h.l0 h.l1
        have h3 : p ∣ x.last * invM p x.last - 1 := by
          have := dvd_mod p (x.last * invM p x.last)
          rw [hi] at this
          have := Int.dvd_neg.2 this
          rwa [show -(1 - x.last * invM p x.last) = x.last * invM p x.last - 1 by omega] at this
        have h4 : p ∣ bmGap p s n x * (x.last * invM p x.last - 1) := Int.dvd_mul_of_dvd_right h3
        rwa [Int.mul_sub, Int.mul_one, Int.mul_comm x.last, ← Int.mul_assoc] at h4
      have hcf : ∀ i, cf (bmNext p s n x) i = (cf x.now i + -bmGap p s n x * invM p x.last * shB (cf x.before) x.sh i) % p := fun i => by
        unfold bmNext
        rw [pAdd_cf p _ _ h.ne (by omega), cf_step]
      have hN : BmN p (bmGap p s n x * invM p x.last) (cf x.now) (cf x.before) (cf (bmNext p s n x)) x.sh := by
        refine ⟨?_, fun i => ?_, fun i h5 h6 => ?_⟩
        · rw [hcf, h.good.c0]
          have : shB (cf x.before) x.sh 0 = 0 := if_neg (by have := h.good.sh1; omega)
          rw [this, Int.mul_zero, Int.add_zero]
          exact Int.emod_eq_of_lt (by decide) (by omega)
        · rw [hcf, Int.neg_mul, Int.neg_mul, ← Int.sub_eq_add_neg]
          exact dvd_mod _ _
        · rw [hcf, h5, h6, Int.mul_zero, Int.add_zero, Int.zero_emod]
      have hnp : ¬ p ∣ bmGap p s n x := fun hd => hz (dvd_small hd hgl hgh)
      have hne := pAdd_el h.ne (by omega : 0 < p) (-bmGap p s n x * invM p x.last) (List.replicate x.sh 0 ++ x.before)
      have hnt := pAdd_tr p x.now (-bmGap p s n x * invM p x.last) (List.replicate x.sh 0 ++ x.before)
      by_cases h2L : 2 * x.L ≤ n
      · rw [if_pos h2L]
        have hb := h.good.grow hN hg0 hq hnp h2L
        exact ⟨hb, hne, h.ne, hnt, by show 0 < bmGap p s n x; omega, hgh, by show 1 ≤ _; omega, len_of_zero hnt hb.deg, by have := h.nl; show x.now.length ≤ _; omega⟩
      · rw [if_neg h2L]
        have hb := h.good.stay hN hg0 hq (by omega)
        exact ⟨hb, hne, h.be, hnt, h.l0, h.l1, by have := h.shl; show x.sh + 1 ≤ _; omega, len_of_zero hnt hb.deg, by have := h.bl; show x.before.length ≤ _; omega⟩
end Go.Proofs.YtmekhjnhcgmphaaDoor
