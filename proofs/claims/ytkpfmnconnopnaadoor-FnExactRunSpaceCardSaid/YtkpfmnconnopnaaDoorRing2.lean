/- Greatest common divisors and powers modulo a polynomial, no program in sight. -/
import Derived.Test.YtkpfmnconnopnaaDoorRing
namespace Go.Proofs.YtkpfmnconnopnaaDoor
set_option maxRecDepth 100000
theorem Cong.len {p : Int} {f g : List Int} (h : Cong p (cf f) (cf g)) (hp : 0 < p) (hf : allEl p f = true) (hg : allEl p g = true) (tf : Tr f) (tg : Tr g) : f = g := h.list hp hf hg tf tg
/-- What divides a list that is not 0 is no longer than it. -/
theorem InId.le {p : Int} (hF : fieldB p = true) {m f : List Int} (hm : allEl p m = true) (tm : Tr m) (hm0 : m ≠ []) (hf : allEl p f = true) (tf : Tr f) (hf0 : f ≠ []) (h : InId p m (cf f)) :
    ∃ q, allEl p q = true ∧ Tr q ∧ q ≠ [] ∧ Cong p (cf f) (Go.Proofs.YtkpfmnconnopnaaDoor.act q (cf m)) ∧ q.length + m.length - 1 ≤ f.length := by
  have h2 := fieldB_lo hF
  obtain ⟨q, hq⟩ := h
  have hq' : Cong p (cf f) (Go.Proofs.YtkpfmnconnopnaaDoor.act (red p q) (cf m)) := hq.trans ((red_cong p q).symm.actl m)
  have hml := List.length_pos_iff.2 hm0
  have hr0 : red p q ≠ [] := by
    intro e
    rw [e] at hq'
    exact hf0 (Cong.list (g := []) hq' (by omega) hf rfl tf Tr.nil)
  refine ⟨red p q, red_el (by omega) q, red_tr p q, hr0, hq', ?_⟩
  have hrl := List.length_pos_iff.2 hr0
  rcases Nat.lt_or_ge f.length ((red p q).length + m.length - 1) with hl | hl
  · exfalso
    have hk := hq' ((red p q).length + m.length - 2)
    rw [act_top _ _ hr0 hm0, cf_ge (by omega : f.length ≤ (red p q).length + m.length - 2)] at hk
    have hd : p ∣ cf (red p q) ((red p q).length - 1) * cf m (m.length - 1) := by
      have := Int.dvd_neg.2 hk
      simpa using this
    have b1 := cf_bd (red_el (show 0 < p by omega) q) (show 0 < p by omega) ((red p q).length - 1)
    have b2 := cf_bd hm (show 0 < p by omega) (m.length - 1)
    have n1 := (red_tr p q).last hr0
    have n2 := tm.last hm0
    exact noz hF ⟨by omega, b1.2⟩ ⟨by omega, b2.2⟩ (Int.emod_eq_zero_of_dvd hd)
  · exact hl
/-- Monic lists that divide one another are equal. -/
theorem InId.monic {p : Int} (hF : fieldB p = true) {m f : List Int} (hm : allEl p m = true) (tm : Tr m) (hm0 : m ≠ []) (hf : allEl p f = true) (tf : Tr f) (hf0 : f ≠ []) (h : InId p m (cf f)) (k : InId p f (cf m))
    (hm1 : cf m (m.length - 1) = 1) (hf1 : cf f (f.length - 1) = 1) : m = f := by
  have h2 := fieldB_lo hF
  obtain ⟨q, hq, tq, hq0, hc, hl⟩ := h.le hF hm tm hm0 hf tf hf0
  obtain ⟨r, hr, tr, hr0, hc', hl'⟩ := k.le hF hf tf hf0 hm tm hm0
  have hql := List.length_pos_iff.2 hq0
  have hrl := List.length_pos_iff.2 hr0
  have hml := List.length_pos_iff.2 hm0
  have hfl := List.length_pos_iff.2 hf0
  have hq1 : q.length = 1 := by omega
  have htop := hc (q.length + m.length - 2)
  rw [act_top _ _ hq0 hm0, hm1, show q.length + m.length - 2 = f.length - 1 by omega, hf1] at htop
  match q, hq1 with
  | [c], _ =>
    have bc := cf_bd hq (show 0 < p by omega) 0
    simp only [List.length_singleton, Nat.sub_self, cf_zero, Int.mul_one] at htop bc
    have hc1 : c = 1 := by
      obtain ⟨z, hz⟩ := htop
      rcases Int.lt_trichotomy z 0 with hzz | hzz | hzz
      · have := Int.mul_le_mul_of_nonneg_left (show z ≤ -1 by omega) (show 0 ≤ p by omega); omega
      · subst hzz; omega
      · have := Int.mul_le_mul_of_nonneg_left (show 1 ≤ z by omega) (show 0 ≤ p by omega); omega
    subst hc1
    rw [act_one] at hc
    exact (Cong.list hc (by omega) hf hm tf tm).symm
/-- A scaled list divides the same. -/
theorem gcdL_div {p : Int} (hF : fieldB p = true) : ∀ (n : Nat) {f g : List Int}, allEl p f = true → allEl p g = true → Tr f → Tr g → g.length ≤ n → InId p (gcdL p n f g) (cf f) ∧ InId p (gcdL p n f g) (cf g)
  | n, f, g, hf, hg, tf, tg, hn => by
    by_cases h0 : g = []
    · subst h0; rw [gcdL_nil]; exact ⟨InId.self' _ _, InId.zero _ _⟩
    · have hgl := List.length_pos_iff.2 h0
      obtain ⟨n, rfl⟩ : ∃ k, n = k + 1 := ⟨n - 1, by omega⟩
      have h2 := fieldB_lo hF
      have hl := pDivR_lt hF hf hg tg h0
      rw [gcdL_step _ _ _ h0]
      obtain ⟨i1, i2⟩ := gcdL_div hF n hg (pDivR_el (by omega) hf g) tg (pDivR_tr p tf g) (by omega)
      exact ⟨((i1.act (pDivQ p f g)).add i2).cong (pDiv_cong f h0), i1⟩
theorem gcdL_of {p : Int} {k : List Int} : ∀ (n : Nat) {f g : List Int}, InId p k (cf f) → InId p k (cf g) → InId p k (cf (gcdL p n f g))
  | 0, f, g, h, _ => h
  | n + 1, f, g, h, h' => by
    rw [gcdL]
    split
    · exact h
    · rename_i h0
      refine gcdL_of n h' ?_
      have := h.sub (h'.act (pDivQ p f g))
      refine this.cong ?_
      have hc := pDiv_cong (p := p) f h0
      intro i
      have := Int.dvd_neg.2 (hc i)
      rwa [show ∀ x y z : Int, -(x - (y + z)) = z - (x - y) by intros; omega] at this
theorem gcdE_div {p : Int} (hF : fieldB p = true) {f g : List Int} (hf : allEl p f = true) (hg : allEl p g = true) (tf : Tr f) (tg : Tr g) : InId p (gcdE p f g) (cf f) ∧ InId p (gcdE p f g) (cf g) := gcdL_div hF _ hf hg tf tg (by omega)
theorem gcdE_of {p : Int} {k f g : List Int} (h : InId p k (cf f)) (h' : InId p k (cf g)) : InId p k (cf (gcdE p f g)) := gcdL_of _ h h'
theorem scale_div {p : Int} (hp : 0 < p) (b : Int) (g : List Int) : InId p g (cf (pScale p b g)) := by
  have h := pAdd_cong hp (f := []) rfl b g
  refine ((InId.self' p g).mul b).cong ?_
  refine h.trans (Cong.of_eq ?_)
  funext n; simp [cf_nil]
theorem div_scale {p : Int} (hp : 0 < p) {b c : Int} (hbc : b * c % p = 1 % p) (g : List Int) : InId p (pScale p b g) (cf g) := by
  have h := pAdd_cong hp (f := []) rfl b g
  refine ((InId.self' p (pScale p b g)).mul c).cong ?_
  intro n
  have h1 : p ∣ b * c - 1 := Int.dvd_of_emod_eq_zero (by rw [Int.sub_emod, hbc, Int.sub_self, Int.zero_emod])
  have h2 := Int.dvd_trans (h n) (Int.dvd_mul_left c _)
  have h3 := Int.dvd_trans h1 (Int.dvd_mul_left (cf g n) _)
  show p ∣ cf g n - c * cf (pScale p b g) n
  have := Int.dvd_neg.2 (Int.dvd_add h2 h3)
  simp only [cf_nil, Int.zero_add] at this
  rw [Int.mul_sub, Int.mul_sub, Int.mul_one, ← Int.mul_assoc, Int.mul_comm c b, Int.mul_comm (cf g n) (b * c)] at this
  rwa [pScale, show ∀ x y z : Int, z - x = -(x - y + (y - z)) by intros; omega]
theorem gcdM_sc {p : Int} (hF : fieldB p = true) {f g : List Int} (hf : allEl p f = true) (hg : allEl p g = true) (tf : Tr f) (tg : Tr g) (h0 : f ≠ [] ∨ g ≠ []) : InId p (gcdM p f g) (cf (gcdE p f g)) ∧ InId p (gcdE p f g) (cf (gcdM p f g)) := by
  have h2 := fieldB_lo hF
  have hE := gcdE_el (show 0 < p by omega) hf hg
  have hT := gcdE_tr p tf tg
  have hN := gcdE_ne p h0
  have b := cf_bd hE (show 0 < p by omega) ((gcdE p f g).length - 1)
  have n1 := hT.last hN
  refine ⟨?_, scale_div (by omega) _ _⟩
  rw [gcdM, monicM]
  exact div_scale (by omega) (c := cf (gcdE p f g) ((gcdE p f g).length - 1)) (by rw [Int.mul_comm, inv_mul hF (by omega) b.2, Int.emod_eq_of_lt (by omega) (by omega)]) _
theorem gcdM_div {p : Int} (hF : fieldB p = true) {f g : List Int} (hf : allEl p f = true) (hg : allEl p g = true) (tf : Tr f) (tg : Tr g) (h0 : f ≠ [] ∨ g ≠ []) : InId p (gcdM p f g) (cf f) ∧ InId p (gcdM p f g) (cf g) := by
  have h := gcdM_sc hF hf hg tf tg h0
  have k := gcdE_div hF hf hg tf tg
  exact ⟨k.1.trans h.1, k.2.trans h.1⟩
theorem gcdM_of {p : Int} (hF : fieldB p = true) {k f g : List Int} (hf : allEl p f = true) (hg : allEl p g = true) (tf : Tr f) (tg : Tr g) (h0 : f ≠ [] ∨ g ≠ []) (h : InId p k (cf f)) (h' : InId p k (cf g)) : InId p k (cf (gcdM p f g)) :=
  (gcdM_sc hF hf hg tf tg h0).2.trans (gcdE_of h h')
theorem gcdM_comm {p : Int} (hF : fieldB p = true) {f g : List Int} (hf : allEl p f = true) (hg : allEl p g = true) (tf : Tr f) (tg : Tr g) (h0 : f ≠ [] ∨ g ≠ []) : gcdM p f g = gcdM p g f := by
  have h2 := fieldB_lo hF
  have h0' := h0.symm
  have d1 := gcdM_div hF hf hg tf tg h0
  have d2 := gcdM_div hF hg hf tg tf h0'
  exact InId.monic hF (gcdM_el (by omega) _ _) (gcdM_tr _ _ _) (gcdM_ne hF hf hg tf tg h0) (gcdM_el (by omega) _ _) (gcdM_tr _ _ _) (gcdM_ne hF hg hf tg tf h0') (gcdM_of hF hg hf tg tf h0' d1.2 d1.1) (gcdM_of hF hf hg tf tg h0 d2.2 d2.1) (gcdM_len hF hf hg tf tg h0).2 (gcdM_len hF hg hf tg tf h0').2

/-! ### Powers -/
/-- Square and multiply modulo m. -/
def powL (p : Int) (m : List Int) : Nat → Nat → List Int → List Int → List Int
  | 0, _, out, _ => out
  | k + 1, n, out, f => if n = 0 then out else powL p m k (n / 2) (if n % 2 = 1 then pDivR p (pMul p out f) m else out) (pDivR p (pMul p f f) m)
theorem powL_zero (p : Int) (m : List Int) (k : Nat) (out f : List Int) : powL p m k 0 out f = out := by cases k <;> rfl
theorem powL_step (p : Int) (m : List Int) (k : Nat) {n : Nat} (hn : n ≠ 0) (out f : List Int) : powL p m (k + 1) n out f = powL p m k (n / 2) (if n % 2 = 1 then pDivR p (pMul p out f) m else out) (pDivR p (pMul p f f) m) := by rw [powL, if_neg hn]
/-- f^n modulo m. -/
def powM (p : Int) (f : List Int) (n : Nat) (m : List Int) : List Int := powL p m n n [1] f
theorem pDivR_small {p : Int} {f m : List Int} (h : f.length < m.length) : pDivR p f m = f := by rw [pDivR, if_pos h]
theorem mul_congl {p : Int} (hp : 0 < p) {m f f' : List Int} (g : List Int) (h : InId p m (fun n => cf f n - cf f' n)) : InId p m (fun n => cf (pMul p g f) n - cf (pMul p g f') n) := by
  refine (h.act g).cong ?_
  rw [act_sub]
  exact (pMul_cong hp g f).sub (pMul_cong hp g f')
theorem mul_congr {p : Int} (hp : 0 < p) {m f f' : List Int} (g : List Int) (h : InId p m (fun n => cf f n - cf f' n)) : InId p m (fun n => cf (pMul p f g) n - cf (pMul p f' g) n) := by
  refine (h.act g).cong ?_
  rw [act_sub]
  refine Cong.sub ?_ ?_
  · rw [act_cf_comm]; exact pMul_cong hp f g
  · rw [act_cf_comm g f']; exact pMul_cong hp f' g
/-- The power of a polynomial modulo m is that of its remainder. -/
theorem powM_rest {p : Int} (hF : fieldB p = true) {f m : List Int} (hf : allEl p f = true) (tf : Tr f) (hm : allEl p m = true) (tm : Tr m) (hl : 2 ≤ m.length) (n : Nat) :
    powL p m n n (pDivR p [1] m) (pDivR p f m) = powM p f n m := by
  have h2 := fieldB_lo hF
  have hm0 : m ≠ [] := by intro e; rw [e] at hl; simp at hl
  rw [powM, pDivR_small (by simp; omega)]
  cases n with
  | zero => rfl
  | succ n =>
    have hi := pDivR_InId (p := p) f hm0
    have hp : 0 < p := by omega
    have e1 : ∀ g, pDivR p (pMul p g (pDivR p f m)) m = pDivR p (pMul p g f) m := fun g =>
      (pDivR_eq hF hm tm hm0 (pMul_el hp _ _) (pMul_el hp _ _) (Tr.trim _) (Tr.trim _) (mul_congl hp g hi)).symm
    have e2 : pDivR p (pMul p (pDivR p f m) (pDivR p f m)) m = pDivR p (pMul p f f) m := by
      rw [e1]
      exact (pDivR_eq hF hm tm hm0 (pMul_el hp _ _) (pMul_el hp _ _) (Tr.trim _) (Tr.trim _) (mul_congr hp f hi)).symm
    rw [powL_step _ _ _ (by omega), powL_step _ _ _ (by omega), e1, e2]
theorem powL_fuel (p : Int) (m : List Int) : ∀ (k l n : Nat) (out f : List Int), n ≤ k → n ≤ l → powL p m k n out f = powL p m l n out f
  | k, l, n, out, f, hk, hl => by
    by_cases h0 : n = 0
    · subst h0; rw [powL_zero, powL_zero]
    · obtain ⟨k, rfl⟩ : ∃ j, k = j + 1 := ⟨k - 1, by omega⟩
      obtain ⟨l, rfl⟩ : ∃ j, l = j + 1 := ⟨l - 1, by omega⟩
      rw [powL_step _ _ _ h0, powL_step _ _ _ h0]
      exact powL_fuel p m k l (n / 2) _ _ (by omega) (by omega)
theorem powL_el {p : Int} (hF : fieldB p = true) {m : List Int} (hm : allEl p m = true) : ∀ (k n : Nat) {out f : List Int}, allEl p out = true → allEl p f = true → allEl p (powL p m k n out f) = true
  | 0, n, out, f, ho, _ => ho
  | k + 1, n, out, f, ho, hf => by
    have h2 := fieldB_lo hF
    rw [powL]
    split
    · exact ho
    · refine powL_el hF hm k _ ?_ (pDivR_el (by omega) (pMul_el (by omega) _ _) m)
      split
      · exact pDivR_el (by omega) (pMul_el (by omega) _ _) m
      · exact ho
theorem powL_tr (p : Int) (m : List Int) : ∀ (k n : Nat) {out f : List Int}, Tr out → Tr f → Tr (powL p m k n out f)
  | 0, n, out, f, ho, _ => ho
  | k + 1, n, out, f, ho, hf => by
    rw [powL]
    split
    · exact ho
    · refine powL_tr p m k _ ?_ (pDivR_tr p (Tr.trim _) m)
      split
      · exact pDivR_tr p (Tr.trim _) m
      · exact ho
theorem powM_el {p : Int} (hF : fieldB p = true) {f m : List Int} (hf : allEl p f = true) (hm : allEl p m = true) (n : Nat) : allEl p (powM p f n m) = true := powL_el hF hm n n (el_one (fieldB_lo hF)) hf
theorem powM_tr (p : Int) {f m : List Int} (tf : Tr f) (n : Nat) : Tr (powM p f n m) := powL_tr p m n n tr_one tf
end Go.Proofs.YtkpfmnconnopnaaDoor
