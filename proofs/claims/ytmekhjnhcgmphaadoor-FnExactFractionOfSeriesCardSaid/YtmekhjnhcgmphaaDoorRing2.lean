/- Greatest common divisors and powers modulo a polynomial, no program in sight. -/
import Derived.Test.YtmekhjnhcgmphaaDoorRing
namespace Go.Proofs.YtmekhjnhcgmphaaDoor
set_option maxRecDepth 100000
theorem Cong.len {p : Int} {f g : List Int} (h : Cong p (cf f) (cf g)) (hp : 0 < p) (hf : allEl p f = true) (hg : allEl p g = true) (tf : Tr f) (tg : Tr g) : f = g := h.list hp hf hg tf tg
/-- What divides a list that is not 0 is no longer than it. -/
theorem InId.le {p : Int} (hF : fieldB p = true) {m f : List Int} (hm : allEl p m = true) (tm : Tr m) (hm0 : m ≠ []) (hf : allEl p f = true) (tf : Tr f) (hf0 : f ≠ []) (h : InId p m (cf f)) :
    ∃ q, allEl p q = true ∧ Tr q ∧ q ≠ [] ∧ Cong p (cf f) (Go.Proofs.YtmekhjnhcgmphaaDoor.act q (cf m)) ∧ q.length + m.length - 1 ≤ f.length := by
  have h2 := fieldB_lo hF
  obtain ⟨q, hq⟩ := h
  have hq' : Cong p (cf f) (Go.Proofs.YtmekhjnhcgmphaaDoor.act (red p q) (cf m)) := hq.trans ((red_cong p q).symm.actl m)
  have hml := List.length_pos_iff.2 hm0
  have hr0 : red p q ≠ [] := by
    intro e
    rw [e] at hq'
    exact hf0 (Cong.list (g := []) hq' (by omega) hf rfl tf Tr.nil)
  refine ⟨red p q, red_el (by omega) q, red_tr p q, hr0, hq', ?_⟩
  have hrl := List.length_pos_iff.2 hr0
  rcases Nat.lt_or_ge f.length ((red p q).length + m.length - 1) with hl | hl
  · exfalso
    have hk := hq' ((red p q).length + m.length - 2)
    rw [act_top _ _ hr0 hm0, cf_ge (by omega : f.length ≤ (red p q).length + m.length - 2)] at hk
    have hd : p ∣ cf (red p q) ((red p q).length - 1) * cf m (m.length - 1) := by
      have := Int.dvd_neg.2 hk
      simpa using this
    have b1 := cf_bd (red_el (show 0 < p by omega) q) (show 0 < p by omega) ((red p q).length - 1)
    have b2 := cf_bd hm (show 0 < p by omega) (m.length - 1)
    have n1 := (red_tr p q).last hr0
    have n2 := tm.last hm0
    exact noz hF ⟨by omega, b1.2⟩ ⟨by omega, b2.2⟩ (Int.emod_eq_zero_of_dvd hd)
  · exact hl
/-- A scaled list divides the same. -/
theorem gcdL_div {p : Int} (hF : fieldB p = true) : ∀ (n : Nat) {f g : List Int}, allEl p f = true → allEl p g = true → Tr f → Tr g → g.length ≤ n → InId p (gcdL p n f g) (cf f) ∧ InId p (gcdL p n f g) (cf g)
  | n, f, g, hf, hg, tf, tg, hn => by
    by_cases h0 : g = []
    · subst h0; rw [gcdL_nil]; exact ⟨InId.self' _ _, InId.zero _ _⟩
    · have hgl := List.length_pos_iff.2 h0
      obtain ⟨n, rfl⟩ : ∃ k, n = k + 1 := ⟨n - 1, by omega⟩
      have h2 := fieldB_lo hF
      have hl := pDivR_lt hF hf hg tg h0
      rw [gcdL_step _ _ _ h0]
      obtain ⟨i1, i2⟩ := gcdL_div hF n hg (pDivR_el (by omega) hf g) tg (pDivR_tr p tf g) (by omega)
      exact ⟨((i1.act (pDivQ p f g)).add i2).cong (pDiv_cong f h0), i1⟩
theorem gcdL_of {p : Int} {k : List Int} : ∀ (n : Nat) {f g : List Int}, InId p k (cf f) → InId p k (cf g) → InId p k (cf (gcdL p n f g))
  | 0, f, g, h, _ => h
  | n + 1, f, g, h, h' => by
    rw [gcdL]
    split
    · exact h
    · rename_i h0
      refine gcdL_of n h' ?_
      have := h.sub (h'.act (pDivQ p f g))
      refine this.cong ?_
      have hc := pDiv_cong (p := p) f h0
      intro i
      have := Int.dvd_neg.2 (hc i)
      rwa [show ∀ x y z : Int, -(x - (y + z)) = z - (x - y) by intros; omega] at this
theorem gcdE_div {p : Int} (hF : fieldB p = true) {f g : List Int} (hf : allEl p f = true) (hg : allEl p g = true) (tf : Tr f) (tg : Tr g) : InId p (gcdE p f g) (cf f) ∧ InId p (gcdE p f g) (cf g) := gcdL_div hF _ hf hg tf tg (by omega)
theorem gcdE_of {p : Int} {k f g : List Int} (h : InId p k (cf f)) (h' : InId p k (cf g)) : InId p k (cf (gcdE p f g)) := gcdL_of _ h h'
theorem scale_div {p : Int} (hp : 0 < p) (b : Int) (g : List Int) : InId p g (cf (pScale p b g)) := by
  have h := pAdd_cong hp (f := []) rfl b g
  refine ((InId.self' p g).mul b).cong ?_
  refine h.trans (Cong.of_eq ?_)
  funext n; simp [cf_nil]
theorem div_scale {p : Int} (hp : 0 < p) {b c : Int} (hbc : b * c % p = 1 % p) (g : List Int) : InId p (pScale p b g) (cf g) := by
  have h := pAdd_cong hp (f := []) rfl b g
  refine ((InId.self' p (pScale p b g)).mul c).cong ?_
  intro n
  have h1 : p ∣ b * c - 1 := Int.dvd_of_emod_eq_zero (by rw [Int.sub_emod, hbc, Int.sub_self, Int.zero_emod])
  have h2 := Int.dvd_trans (h n) (Int.dvd_mul_left c _)
  have h3 := Int.dvd_trans h1 (Int.dvd_mul_left (cf g n) _)
  show p ∣ cf g n - c * cf (pScale p b g) n
  have := Int.dvd_neg.2 (Int.dvd_add h2 h3)
  simp only [cf_nil, Int.zero_add] at this
  rw [Int.mul_sub, Int.mul_sub, Int.mul_one, ← Int.mul_assoc, Int.mul_comm c b, Int.mul_comm (cf g n) (b * c)] at this
  rwa [pScale, show ∀ x y z : Int, z - x = -(x - y + (y - z)) by intros; omega]
theorem gcdM_sc {p : Int} (hF : fieldB p = true) {f g : List Int} (hf : allEl p f = true) (hg : allEl p g = true) (tf : Tr f) (tg : Tr g) (h0 : f ≠ [] ∨ g ≠ []) : InId p (gcdM p f g) (cf (gcdE p f g)) ∧ InId p (gcdE p f g) (cf (gcdM p f g)) := by
  have h2 := fieldB_lo hF
  have hE := gcdE_el (show 0 < p by omega) hf hg
  have hT := gcdE_tr p tf tg
  have hN := gcdE_ne p h0
  have b := cf_bd hE (show 0 < p by omega) ((gcdE p f g).length - 1)
  have n1 := hT.last hN
  refine ⟨?_, scale_div (by omega) _ _⟩
  rw [gcdM, monicM]
  exact div_scale (by omega) (c := cf (gcdE p f g) ((gcdE p f g).length - 1)) (by rw [Int.mul_comm, inv_mul hF (by omega) b.2, Int.emod_eq_of_lt (by omega) (by omega)]) _
theorem gcdM_div {p : Int} (hF : fieldB p = true) {f g : List Int} (hf : allEl p f = true) (hg : allEl p g = true) (tf : Tr f) (tg : Tr g) (h0 : f ≠ [] ∨ g ≠ []) : InId p (gcdM p f g) (cf f) ∧ InId p (gcdM p f g) (cf g) := by
  have h := gcdM_sc hF hf hg tf tg h0
  have k := gcdE_div hF hf hg tf tg
  exact ⟨k.1.trans h.1, k.2.trans h.1⟩
theorem gcdM_of {p : Int} (hF : fieldB p = true) {k f g : List Int} (hf : allEl p f = true) (hg : allEl p g = true) (tf : Tr f) (tg : Tr g) (h0 : f ≠ [] ∨ g ≠ []) (h : InId p k (cf f)) (h' : InId p k (cf g)) : InId p k (cf (gcdM p f g)) :=
  (gcdM_sc hF hf hg tf tg h0).2.trans (gcdE_of h h')
/-! ### Powers -/
end Go.Proofs.YtmekhjnhcgmphaaDoor
