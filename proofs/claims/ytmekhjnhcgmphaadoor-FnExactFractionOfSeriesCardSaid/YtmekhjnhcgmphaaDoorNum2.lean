/- Plain arithmetic on fractions: when a pair of polynomials is a fraction in lowest terms. -/
import Derived.Test.YtmekhjnhcgmphaaDoorNum
namespace Go.Proofs.YtmekhjnhcgmphaaDoor
set_option maxRecDepth 100000
theorem gcdL_len {p : Int} (hF : fieldB p = true) : ∀ (n : Nat) {f g : List Int}, allEl p f = true → allEl p g = true → Tr f → Tr g → (gcdL p n f g).length ≤ max f.length g.length
  | 0, f, g, _, _, _, _ => by rw [gcdL]; omega
  | n + 1, f, g, hf, hg, tf, tg => by
    rw [gcdL]
    split
    · omega
    · rename_i h0
      have h2 := fieldB_lo hF
      have hl := pDivR_lt hF hf hg tg h0
      have := gcdL_len hF n hg (pDivR_el (by omega) hf g) tg (pDivR_tr p tf g)
      omega
theorem gcdE_len {p : Int} (hF : fieldB p = true) {f g : List Int} (hf : allEl p f = true) (hg : allEl p g = true) (tf : Tr f) (tg : Tr g) (h0 : g ≠ []) : (gcdE p f g).length ≤ g.length := by
  have h2 := fieldB_lo hF
  have hl := pDivR_lt hF hf hg tg h0
  rw [gcdE_step hF hf hg tf tg h0, gcdE]
  have := gcdL_len hF ((pDivR p f g).length + 1) hg (pDivR_el (by omega) hf g) tg (pDivR_tr p tf g)
  omega
theorem gcdM_len {p : Int} (hF : fieldB p = true) {f g : List Int} (hf : allEl p f = true) (hg : allEl p g = true) (tf : Tr f) (tg : Tr g) (h0 : f ≠ [] ∨ g ≠ []) : (gcdM p f g).length = (gcdE p f g).length ∧ cf (gcdM p f g) ((gcdM p f g).length - 1) = 1 := by
  have h2 := fieldB_lo hF
  have := monicM_len hF (gcdE_el (by omega) hf hg) (gcdE_tr p tf tg) (gcdE_ne p h0)
  refine ⟨this.1, ?_⟩
  rw [gcdM, this.1]; exact this.2
theorem gcdM_ne {p : Int} (hF : fieldB p = true) {f g : List Int} (hf : allEl p f = true) (hg : allEl p g = true) (tf : Tr f) (tg : Tr g) (h0 : f ≠ [] ∨ g ≠ []) : gcdM p f g ≠ [] := by
  intro e
  have := (gcdM_len hF hf hg tf tg h0).1
  rw [e] at this
  exact gcdE_ne p h0 (List.eq_nil_of_length_eq_zero this.symm)
theorem divGo_last (p : Int) (g : List Int) (b : Int) (k : Nat) (r : List Int) : cf (divGo p g b (k + 1) r).1 k = cf r (k + g.length - 1) * b % p := by
  rw [divGo]
  simp only [cf]
  rw [List.getElem?_append_right (by rw [(divGo_len _ _ _ _ _).1]; exact Nat.le_refl _), (divGo_len _ _ _ _ _).1]
  simp
/-- The quotient's length. -/
theorem pDivQ_len {p : Int} (hF : fieldB p = true) {f g : List Int} (hf : allEl p f = true) (hg : allEl p g = true) (tf : Tr f) (tg : Tr g) (hg0 : g ≠ []) (hle : g.length ≤ f.length) : (pDivQ p f g).length = f.length - g.length + 1 := by
  have h2 := fieldB_lo hF
  have hgl := List.length_pos_iff.2 hg0
  have hf0 : f ≠ [] := by intro e; rw [e] at hle; simp at hle; exact hg0 hle
  rw [pDivQ, if_neg (by omega)]
  have hlen := (divGo_len p g (invM p (cf g (g.length - 1))) (f.length - g.length + 1) f).1
  have ht : Tr (divGo p g (invM p (cf g (g.length - 1))) (f.length - g.length + 1) f).1 := by
    refine Tr.of_last (by intro e; rw [e] at hlen; simp at hlen) ?_
    rw [hlen, Nat.add_sub_cancel, divGo_last]
    have b1 := cf_bd hf (show 0 < p by omega) (f.length - 1)
    have b2 := cf_bd hg (show 0 < p by omega) (g.length - 1)
    have n1 := tf.last hf0
    have n2 := tg.last hg0
    have e : f.length - g.length + g.length - 1 = f.length - 1 := by omega
    rw [e]
    have hi := invM_bd (cf g (g.length - 1)) h2
    have hg1 : 0 < cf g (g.length - 1) := by omega
    have hm := inv_mul hF hg1 b2.2
    have hi0 : invM p (cf g (g.length - 1)) ≠ 0 := by intro e; rw [e] at hm; simp at hm
    exact noz hF ⟨by omega, b1.2⟩ ⟨by have := hi.1; omega, hi.2⟩
  rw [ht, hlen]
/-! ### Division by 1 -/
theorem inv_one {p : Int} (h2 : 2 ≤ p) : invM p 1 = 1 := by rw [invM, Int.one_pow]; exact Int.emod_eq_of_lt (by omega) (by omega)
theorem el_one {p : Int} (h2 : 2 ≤ p) : allEl p [1] = true := by simp [allEl, elB]; omega
theorem divGo_one {p : Int} (h2 : 2 ≤ p) (k : Nat) : ∀ {r : List Int}, allEl p r = true → k ≤ r.length → (divGo p [1] 1 k r).1 = r.take k := by
  induction k with
  | zero => intro r _ _; rfl
  | succ k ih =>
    intro r hr hk
    rw [divGo, ih (addAt_el hr (by omega) _ _ _) (by rw [addAt_len]; omega)]
    simp only [List.length_singleton, Nat.add_sub_cancel, Int.mul_one]
    have hb := cf_bd hr (show 0 < p by omega) k
    rw [Int.emod_eq_of_lt hb.1 hb.2, List.take_add_one]
    have hk' : r[k]? = some (cf r k) := by rw [cf, List.getElem?_eq_getElem (by omega)]; rfl
    rw [hk']
    congr 1
    apply cf_ext (by rw [List.length_take, List.length_take, addAt_len])
    intro i
    by_cases hi : i < k
    · simp only [cf, List.getElem?_take, if_pos hi]
      have := addAt_cf p r k (-cf r k) [1] i
      simp only [cf] at this
      rw [this]
      rw [if_pos (by omega), if_neg (by omega)]
    · rw [cf_ge (by rw [List.length_take]; omega), cf_ge (by rw [List.length_take]; omega)]
theorem pDivQ_one {p : Int} (h2 : 2 ≤ p) {f : List Int} (hf : allEl p f = true) (tf : Tr f) : pDivQ p f [1] = f := by
  rw [pDivQ]
  split
  · rename_i h
    simp at h
    exact h.symm
  · rename_i h
    have e : invM p (cf [1] (([1] : List Int).length - 1)) = 1 := inv_one h2
    have hfl : 1 ≤ f.length := by simp at h; exact List.length_pos_iff.2 h
    rw [e, divGo_one h2 _ hf (by simp; omega)]
    rw [List.take_of_length_le (by simp; omega)]
    exact tf
theorem pScale_one {p : Int} (h2 : 2 ≤ p) {f : List Int} (hf : allEl p f = true) (tf : Tr f) : pScale p 1 f = f := by
  have t1 := pAdd_tr p [] 1 f
  unfold Tr at t1 tf
  rw [← tf, pScale]
  conv => lhs; rw [tf]
  rw [← t1]
  refine trim_ext fun i => ?_
  have := pScale_cf p 1 f (by omega) i
  rw [pScale] at this
  have hb := cf_bd hf (show 0 < p by omega) i
  rw [this, Int.one_mul, Int.emod_eq_of_lt hb.1 hb.2]
theorem pScale_len {p : Int} (hF : fieldB p = true) {b : Int} (hb : 0 < b ∧ b < p) {f : List Int} (hf : allEl p f = true) (tf : Tr f) : (pScale p b f).length = f.length := by
  have h2 := fieldB_lo hF
  by_cases h0 : f = []
  · subst h0; rfl
  have hfl := List.length_pos_iff.2 h0
  have hle : (pScale p b f).length ≤ f.length := by have := pAdd_le p [] b f; simpa [pScale] using this
  rcases Nat.lt_or_ge (pScale p b f).length f.length with h | h
  · have h1 := pScale_cf p b f (by omega) (f.length - 1)
    rw [cf_ge (by omega)] at h1
    have b1 := cf_bd hf (show 0 < p by omega) (f.length - 1)
    have n1 := tf.last h0
    exact absurd h1.symm (noz hF hb ⟨by omega, b1.2⟩)
  · omega

/-! ### Fractions -/
/-- The fraction num / den in lowest terms. -/
def lowM (p : Int) (num den : List Int) : List Int := pDivQ p den (gcdM p num den)
def lowBy (p : Int) (num den : List Int) : Int := invM p (cf (lowM p num den) ((lowM p num den).length - 1))
def lowN (p : Int) (num den : List Int) : List Int := if num = [] then [] else pScale p (lowBy p num den) (pDivQ p num (gcdM p num den))
def lowD (p : Int) (num den : List Int) : List Int := if num = [] then [1] else pScale p (lowBy p num den) (lowM p num den)
/-- num / den is a fraction in lowest terms. -/
def fracB (p : Int) (num den : List Int) : Bool := polyB p num && polyB p den && decide (num.length ≤ 21) && decide (den.length ≤ 21) && decide (den ≠ []) && decide (cf den (den.length - 1) = 1) && decide ((gcdM p num den).length = 1)
theorem lowM_len {p : Int} (hF : fieldB p = true) {num den : List Int} (hn : allEl p num = true) (hd : allEl p den = true) (tn : Tr num) (td : Tr den) (hd0 : den ≠ []) :
    (lowM p num den).length = den.length - (gcdM p num den).length + 1 ∧ 1 ≤ (gcdM p num den).length ∧ (gcdM p num den).length ≤ den.length := by
  have h2 := fieldB_lo hF
  have hg := gcdM_len hF hn hd tn td (.inr hd0)
  have hgl := gcdE_len hF hn hd tn td hd0
  have hgn := List.length_pos_iff.2 (gcdM_ne hF hn hd tn td (.inr hd0))
  refine ⟨pDivQ_len hF hd (gcdM_el (by omega) _ _) td (gcdM_tr _ _ _) (gcdM_ne hF hn hd tn td (.inr hd0)) (by omega), hgn, by omega⟩
theorem gcdM_one {p : Int} (hF : fieldB p = true) {num den : List Int} (hn : allEl p num = true) (hd : allEl p den = true) (tn : Tr num) (td : Tr den) (hd0 : den ≠ []) (h1 : (gcdM p num den).length = 1) : gcdM p num den = [1] := by
  have hg := (gcdM_len hF hn hd tn td (.inr hd0)).2
  rw [h1] at hg
  match hm : gcdM p num den, h1 with
  | [x], _ => rw [hm] at hg; simp [cf] at hg; rw [hg]
/-- A pair of polynomials equals its own form in lowest terms just if the denominator is monic and the greatest common divisor is 1. -/
theorem low_self {p : Int} (hF : fieldB p = true) {num den : List Int} (hn : allEl p num = true) (hd : allEl p den = true) (tn : Tr num) (td : Tr den) (hd0 : den ≠ []) :
    (lowN p num den = num ∧ lowD p num den = den) ↔ (cf den (den.length - 1) = 1 ∧ (gcdM p num den).length = 1) := by
  have h2 := fieldB_lo hF
  have hdl := List.length_pos_iff.2 hd0
  by_cases hn0 : num = []
  · subst hn0
    have hr : pDivR p [] den = [] := by rw [pDivR, if_pos (by simpa using hdl)]
    have hE : gcdE p [] den = den := by rw [gcdE_step hF hn hd tn td hd0, hr, gcdE_nil]
    have hgl := (gcdM_len hF hn hd tn td (.inr hd0)).1
    rw [hE] at hgl
    rw [lowN, lowD, if_pos rfl, if_pos rfl, hgl]
    constructor
    · rintro ⟨_, h⟩; rw [← h]; exact ⟨rfl, rfl⟩
    · rintro ⟨h1, h2⟩
      refine ⟨rfl, ?_⟩
      match den, h2 with
      | [x], _ => simp [cf] at h1; rw [h1]
  · obtain ⟨hml, hg1, hgd⟩ := lowM_len hF hn hd tn td hd0
    have hme : allEl p (lowM p num den) = true := pDivQ_el (by omega) hd _
    have hmt : Tr (lowM p num den) := pDivQ_tr _ _ _
    have hm0 : lowM p num den ≠ [] := by intro e; rw [e] at hml; simp at hml
    have hmon := monicM_len hF hme hmt hm0
    have hLD : lowD p num den = monicM p (lowM p num den) := by rw [lowD, if_neg hn0, lowBy, monicM]
    constructor
    · rintro ⟨_, h⟩
      rw [hLD] at h
      have hl := hmon.1
      rw [h] at hl
      refine ⟨?_, by omega⟩
      have := hmon.2
      rw [h, ← hl] at this
      exact this
    · rintro ⟨hmo, h1⟩
      have hg := gcdM_one hF hn hd tn td hd0 h1
      have hM : lowM p num den = den := by rw [lowM, hg, pDivQ_one h2 hd td]
      have hB : lowBy p num den = 1 := by rw [lowBy, hM, hmo, inv_one h2]
      rw [lowN, lowD, if_neg hn0, if_neg hn0, hB, hM, hg, pDivQ_one h2 hn tn, pScale_one h2 hn tn, pScale_one h2 hd td]
      exact ⟨rfl, rfl⟩
end Go.Proofs.YtmekhjnhcgmphaaDoor
