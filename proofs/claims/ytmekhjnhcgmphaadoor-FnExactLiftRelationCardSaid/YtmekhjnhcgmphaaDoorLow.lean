/- Plain arithmetic: lowest terms have no common divisor; their own lowest terms are themselves. -/
import Derived.Test.YtmekhjnhcgmphaaDoorAp06
namespace Go.Proofs.YtmekhjnhcgmphaaDoor
set_option maxRecDepth 100000
/-- A divisor's quotient. -/
theorem quot_cong {p : Int} (hF : fieldB p = true) {f d : List Int} (hf : allEl p f = true) (hd : allEl p d = true) (td : Tr d) (hd0 : d ≠ []) (h : InId p d (cf f)) : Cong p (cf f) (act (pDivQ p f d) (cf d)) := by
  have h2 := fieldB_lo hF
  have hc := pDiv_cong (p := p) f hd0
  have hr : Cong p (cf (pDivR p f d)) (fun _ => 0) := by
    refine InId.small hF hd td hd0 ?_ ?_
    · refine (h.sub (InId.self p d (pDivQ p f d))).cong ?_
      intro n
      have := hc n
      have e : cf (pDivR p f d) n - (cf f n - act (pDivQ p f d) (cf d) n) = -(cf f n - (act (pDivQ p f d) (cf d) n + cf (pDivR p f d) n)) := by omega
      rw [e]
      exact Int.dvd_neg.2 this
    · intro n hn
      have hl := pDivR_lt hF hf hd td hd0
      rw [cf_ge (by omega)]
      exact Int.dvd_zero _
  refine hc.trans ?_
  intro n
  have := hr n
  rw [Int.sub_zero] at this
  have e : act (pDivQ p f d) (cf d) n + cf (pDivR p f d) n - act (pDivQ p f d) (cf d) n = cf (pDivR p f d) n := by omega
  rw [e]; exact this
/-- A common divisor of the quotients times the divisor divides the whole. -/
theorem mul_div {p : Int} (hp : 0 < p) {f q d e : List Int} (h : Cong p (cf f) (act q (cf d))) (k : InId p e (cf q)) : InId p (pMul p d e) (cf f) := by
  obtain ⟨s, hs⟩ := k
  refine ⟨s, h.trans ?_⟩
  rw [act_cf_comm]
  refine (hs.act d).trans ?_
  rw [act_comm]
  exact ((pMul_cong hp d e).symm).act s
theorem inv_pos {p a : Int} (hF : fieldB p = true) (h0 : 0 < a) (ha : a < p) : 0 < invM p a ∧ invM p a < p := by
  have h2 := fieldB_lo hF
  have hi := invM_bd a h2
  have hm := inv_mul hF h0 ha
  have : invM p a ≠ 0 := by intro e; rw [e] at hm; simp at hm
  omega
theorem lowBy_pos {p : Int} (hF : fieldB p = true) {num den : List Int} (hn : allEl p num = true) (hd : allEl p den = true) (tn : Tr num) (td : Tr den) (hd0 : den ≠ []) : 0 < lowBy p num den ∧ lowBy p num den < p := by
  have h2 := fieldB_lo hF
  have hml := lowM_len hF hn hd tn td hd0
  have hme : allEl p (lowM p num den) = true := pDivQ_el (by omega) hd _
  have hmt : Tr (lowM p num den) := pDivQ_tr _ _ _
  have hm0 : lowM p num den ≠ [] := by intro e; rw [e] at hml; simp at hml
  have hb := cf_bd hme (show 0 < p by omega) ((lowM p num den).length - 1)
  have hl := hmt.last hm0
  exact inv_pos hF (by omega) hb.2
theorem low_parts {p : Int} (hF : fieldB p = true) {num den : List Int} (hn : allEl p num = true) (hd : allEl p den = true) (tn : Tr num) (td : Tr den) (hd0 : den ≠ []) :
    allEl p (lowN p num den) = true ∧ allEl p (lowD p num den) = true ∧ Tr (lowN p num den) ∧ Tr (lowD p num den) ∧ lowD p num den ≠ [] ∧ (lowN p num den).length ≤ num.length ∧ (lowD p num den).length ≤ den.length ∧ cf (lowD p num den) ((lowD p num den).length - 1) = 1 := by
  have h2 := fieldB_lo hF
  have hdl := List.length_pos_iff.2 hd0
  by_cases hn0 : num = []
  · rw [lowN, lowD, if_pos hn0, if_pos hn0]
    exact ⟨rfl, el_one h2, rfl, rfl, by simp, by simp, by simp; omega, rfl⟩
  · obtain ⟨hml, hg1, hgd⟩ := lowM_len hF hn hd tn td hd0
    have hme : allEl p (lowM p num den) = true := pDivQ_el (by omega) hd _
    have hmt : Tr (lowM p num den) := pDivQ_tr _ _ _
    have hm0 : lowM p num den ≠ [] := by intro e; rw [e] at hml; simp at hml
    have hmon := monicM_len hF hme hmt hm0
    have hLD : lowD p num den = monicM p (lowM p num den) := by rw [lowD, if_neg hn0, lowBy, monicM]
    have hby := lowBy_pos hF hn hd tn td hd0
    have hg0 := gcdM_ne hF hn hd tn td (.inr hd0)
    have hge := gcdM_el (p := p) (show 0 < p by omega) num den
    have hgt := gcdM_tr p num den
    have hnl := List.length_pos_iff.2 hn0
    have hqe : allEl p (pDivQ p num (gcdM p num den)) = true := pDivQ_el (by omega) hn _
    have hqt : Tr (pDivQ p num (gcdM p num den)) := pDivQ_tr _ _ _
    refine ⟨?_, ?_, ?_, ?_, ?_, ?_, ?_, ?_⟩
    · rw [lowN, if_neg hn0]; exact pAdd_el (allEl_nil p) (by omega) _ _
    · rw [lowD, if_neg hn0]; exact pAdd_el (allEl_nil p) (by omega) _ _
    · rw [lowN, if_neg hn0]; exact pAdd_tr _ _ _ _
    · rw [lowD, if_neg hn0]; exact pAdd_tr _ _ _ _
    · intro e; rw [hLD] at e; have := hmon.1; rw [e] at this; exact hm0 (List.eq_nil_of_length_eq_zero this.symm)
    · rw [lowN, if_neg hn0, pScale_len hF hby hqe hqt]
      have := pDivQ_le p num (gcdM p num den)
      omega
    · rw [hLD, hmon.1, hml]; omega
    · rw [hLD, hmon.1]; exact hmon.2
/-- Lowest terms are coprime. -/
theorem low_gcd {p : Int} (hF : fieldB p = true) {num den : List Int} (hn : allEl p num = true) (hd : allEl p den = true) (tn : Tr num) (td : Tr den) (hd0 : den ≠ []) :
    (gcdM p (lowN p num den) (lowD p num den)).length = 1 := by
  have h2 := fieldB_lo hF
  have hp : 0 < p := by omega
  by_cases hn0 : num = []
  · rw [lowN, lowD, if_pos hn0, if_pos hn0]
    have := (low_self hF (num := []) (den := [1]) rfl (el_one h2) rfl rfl (by simp)).1 ⟨by rw [lowN, if_pos rfl], by rw [lowD, if_pos rfl]⟩
    exact this.2
  · obtain ⟨hNe, hDe, hNt, hDt, hD0, _, _, _⟩ := low_parts hF hn hd tn td hd0
    have hby := lowBy_pos hF hn hd tn td hd0
    have hg0 := gcdM_ne hF hn hd tn td (.inr hd0)
    have hge := gcdM_el (p := p) hp num den
    have hgt := gcdM_tr p num den
    have hdiv := gcdM_div hF hn hd tn td (.inr hd0)
    have hdiv' := gcdM_div hF hNe hDe hNt hDt (.inr hD0)
    have hne' := gcdM_ne hF hNe hDe hNt hDt (.inr hD0)
    have hge' := gcdM_el (p := p) hp (lowN p num den) (lowD p num den)
    have hgt' := gcdM_tr p (lowN p num den) (lowD p num den)
    generalize hd' : gcdM p (lowN p num den) (lowD p num den) = d' at *
    have hb : lowBy p num den * invM p (lowBy p num den) % p = 1 % p := by
      rw [inv_mul hF hby.1 hby.2, Int.emod_eq_of_lt (by omega) (by omega)]
    have eN : lowN p num den = pScale p (lowBy p num den) (pDivQ p num (gcdM p num den)) := by rw [lowN, if_neg hn0]
    have eD : lowD p num den = pScale p (lowBy p num den) (pDivQ p den (gcdM p num den)) := by rw [lowD, if_neg hn0, lowM]
    have k1 : InId p d' (cf (pDivQ p num (gcdM p num den))) := (div_scale hp hb _).trans (by rw [← eN]; exact hdiv'.1)
    have k2 : InId p d' (cf (pDivQ p den (gcdM p num den))) := (div_scale hp hb _).trans (by rw [← eD]; exact hdiv'.2)
    have m1 := mul_div hp (quot_cong hF hn hge hgt hg0 hdiv.1) k1
    have m2 := mul_div hp (quot_cong hF hd hge hgt hg0 hdiv.2) k2
    have m3 := gcdM_of hF hn hd tn td (.inr hd0) m1 m2
    have hlen := pMul_len hF hge hge' hgt hgt' hg0 hne'
    have hpe := pMul_el (p := p) hp (gcdM p num den) d'
    have hpt : Tr (pMul p (gcdM p num den) d') := Tr.trim _
    have l1 := List.length_pos_iff.2 hg0
    have l2 := List.length_pos_iff.2 hne'
    have hp0 : pMul p (gcdM p num den) d' ≠ [] := by intro e; rw [e] at hlen; simp at hlen; omega
    obtain ⟨q, _, _, hq0, _, hle⟩ := InId.le hF hpe hpt hp0 hge hgt hg0 m3
    have l3 := List.length_pos_iff.2 hq0
    omega
theorem polyB_of {p : Int} {f : List Int} (hF : fieldB p = true) (hl : f.length ≤ 41) (he : allEl p f = true) (ht : Tr f) : polyB p f = true := by
  simp only [polyB, hF, he, Bool.true_and, Bool.and_true, Bool.and_eq_true, Bool.or_eq_true, decide_eq_true_eq]
  refine ⟨hl, ?_⟩
  by_cases h : f = []
  · left; rw [h]; rfl
  · right; exact ht.last h
end Go.Proofs.YtmekhjnhcgmphaaDoor
