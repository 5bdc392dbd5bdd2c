/- Linear algebra: the null list of a reduced list spans the kernel; so do the unit rows beside an elimination. Plain lemmas of mine. -/
import Derived.Test.YtmekhjnhcgmphaaDoorLinM
namespace Go.Proofs.YtmekhjnhcgmphaaDoor
set_option maxRecDepth 100000
variable {K : Type}
theorem Ech.lead {F : Fld K} {R : List (List K)} {n : Nat} {P : List Nat} (h : Ech F R R.length n P) (hw : Wid n R) {t : Nat} {r : List K} (hr : R[t]? = some r) : ∃ p, P[t]? = some p ∧ F.lead r = p ∧ p < n := by
  have ht := (List.getElem?_eq_some_iff.1 hr).1
  have hpl := h.pl
  have hp : P[t]? = some (P[t]'(by omega)) := List.getElem?_eq_getElem _
  have hl := h.lt _ (List.mem_of_getElem? hp)
  refine ⟨_, hp, lead_of F.toOps ?_ (by rw [hw r (List.mem_of_getElem? hr)]; exact hl) fun j hj => (F.isz_iff _).2 (h.led t _ r hp hr j hj), hl⟩
  rw [h.one t _ r hp hr]
  cases hb : F.isz F.o with
  | false => rfl
  | true => exact absurd ((F.isz_iff _).1 hb) F.o_ne
theorem Ech.inj {F : Fld K} {R : List (List K)} {n : Nat} {P : List Nat} (h : Ech F R R.length n P) {t t' p : Nat} (a : P[t]? = some p) (b : P[t']? = some p) : t = t' := by
  have ha := (List.getElem?_eq_some_iff.1 a).1
  have hb := (List.getElem?_eq_some_iff.1 b).1
  have e1 := (List.getElem?_eq_some_iff.1 a).2
  have e2 := (List.getElem?_eq_some_iff.1 b).2
  have hasc := List.pairwise_iff_getElem.1 h.asc
  rcases Nat.lt_trichotomy t t' with q | q | q
  · have := hasc t t' ha hb q; omega
  · exact q
  · have := hasc t' t hb ha q; omega
/-- What stands in the vector of place j at a place without a pivot. -/
theorem nullv_at {F : Fld K} {R : List (List K)} {n : Nat} {P : List Nat} (h : Ech F R R.length n P) (hw : Wid n R) {j : Nat} (hj : j < n) {i : Nat} (hi : i ∉ P) : F.el (F.nullv n R j) i = if i = j then F.o else F.z := by
  unfold Ops.nullv
  rw [nset_out F j i R _ fun r hr => by
    obtain ⟨t, ht⟩ := List.getElem?_of_mem hr
    obtain ⟨p, hp, e, _⟩ := h.lead hw ht
    rw [e]
    exact fun q => hi (q ▸ List.mem_of_getElem? hp), el_set]
  by_cases e : i = j
  · rw [if_pos ⟨e.symm, by rw [List.length_replicate]; omega⟩, if_pos e]
  · rw [if_neg fun q => e q.1.symm, if_neg e]
    unfold Ops.el
    rw [List.getD_eq_getElem?_getD, List.getElem?_replicate]
    split <;> rfl
theorem nullv_ker {F : Fld K} {R : List (List K)} {n : Nat} {P : List Nat} (h : Ech F R R.length n P) (hw : Wid n R) {j : Nat} (hj : j < n) (hjP : j ∉ P) : Ker F n (F.fns R) (F.fn (F.nullv n R j)) := by
  refine ⟨fun i hi => Ops.el_out _ (by rw [nullv_len]; exact hi), fun a ha => ?_⟩
  obtain ⟨r, hr, rfl⟩ := List.mem_map.1 ha
  obtain ⟨t, ht⟩ := List.getElem?_of_mem hr
  obtain ⟨p, hp, hlead, hpn⟩ := h.lead hw ht
  have htl := (List.getElem?_eq_some_iff.1 ht).1
  have hsplit : R = R.take t ++ r :: R.drop (t + 1) := by
    conv => lhs; rw [← List.take_append_drop t R]
    rw [List.drop_eq_getElem_cons htl, (List.getElem?_eq_some_iff.1 ht).2]
  have oth : ∀ (t' : Nat) (r' : List K), R[t']? = some r' → t' ≠ t → F.fn r (F.lead r') = F.z ∧ F.lead r' ≠ p := fun t' r' ht' hne => by
    obtain ⟨p', hp', e', _⟩ := h.lead hw ht'
    rw [e']
    refine ⟨h.zer t' t p' r hp' ht fun q => hne q.symm, fun q => hne ?_⟩
    subst q
    exact h.inj hp' hp
  have inT : ∀ r' ∈ R.take t, F.fn r (F.lead r') = F.z ∧ F.lead r' ≠ p := fun r' hr' => by
    obtain ⟨i, hi⟩ := List.getElem?_of_mem hr'
    rw [List.getElem?_take] at hi
    split at hi
    · exact oth i r' hi (by omega)
    · cases hi
  have inD : ∀ r' ∈ R.drop (t + 1), F.fn r (F.lead r') = F.z ∧ F.lead r' ≠ p := fun r' hr' => by
    obtain ⟨i, hi⟩ := List.getElem?_of_mem hr'
    rw [List.getElem?_drop] at hi
    exact oth _ r' hi (by omega)
  have hjp : j ≠ p := fun q => hjP (q ▸ List.mem_of_getElem? hp)
  have hrj : F.dot n (F.fn r) (F.fn ((List.replicate n F.z).set j F.o)) = F.el r j := by
    unfold Fld.dot
    have hrep : ∀ i, F.el (List.replicate n F.z) i = F.z := fun i => by
      unfold Ops.el
      rw [List.getD_eq_getElem?_getD, List.getElem?_replicate]
      split <;> rfl
    rw [F.sumN_only (p := j) hj fun i _ hne => by
      show F.mul _ (F.el _ i) = F.z
      rw [el_set, if_neg fun q => hne q.1.symm, hrep, F.mul_z]]
    show F.mul (F.el r j) (F.el _ j) = _
    rw [el_set, if_pos ⟨rfl, by rw [List.length_replicate]; exact hj⟩, F.mul_o]
  unfold Ops.nullv
  rw [hsplit, nset_app]
  show F.dot n (F.fn r) (F.fn (F.nset (R.drop (t + 1)) j ((F.nset (R.take t) j ((List.replicate n F.z).set j F.o)).set (F.lead r) (F.neg (F.el r j))))) = F.z
  rw [nset_dot0 F _ _ fun x hx => (inD x hx).1, hlead, dot_set F _ (by
    rw [nset_out F j p _ _ fun x hx => (inT x hx).2, el_set, if_neg fun q => hjp q.1]
    unfold Ops.el
    rw [List.getD_eq_getElem?_getD, List.getElem?_replicate]
    split <;> rfl) (by rw [nset_len, List.length_set, List.length_replicate]; exact hpn) hpn, nset_dot0 F _ _ fun x hx => (inT x hx).1, hrj]
  show F.add (F.el r j) (F.mul (F.el r p) _) = F.z
  rw [h.one t p r hp ht, F.o_mul, F.add_neg]
/-- Which vectors stand in the null list. -/
theorem nullGo_mem {F : Fld K} {R : List (List K)} {n : Nat} {P : List Nat} (h : Ech F R R.length n P) (hw : Wid n R) : ∀ (m j t : Nat), (∀ (i p : Nat), P[i]? = some p → (i < t ↔ p < j)) → ∀ v, v ∈ F.nullGo n R m j t ↔ ∃ i, j ≤ i ∧ i < j + m ∧ i ∉ P ∧ v = F.nullv n R i
  | 0, j, t, _, v => by
    rw [Ops.nullGo]
    constructor
    · intro q; cases q
    · rintro ⟨i, h1, h2, _⟩; omega
  | m + 1, j, t, hP, v => by
    rw [Ops.nullGo]
    have hpl := h.pl
    split
    · rename_i hc
      have ht : R[t]? = some (R.getD t []) := by rw [List.getD_eq_getElem?_getD, List.getElem?_eq_getElem hc.1]; rfl
      obtain ⟨p, hp, e, _⟩ := h.lead hw ht
      have hpj : p = j := by rw [← e]; exact hc.2
      subst hpj
      rw [nullGo_mem h hw m (p + 1) (t + 1) (fun i q hq => by
        by_cases e1 : i = t
        · subst e1
          rw [hp] at hq; injection hq with hq
          omega
        · have h1 := hP i q hq
          have h2 : q ≠ p := fun e2 => e1 (h.inj (e2 ▸ hq) hp)
          omega)]
      constructor
      · rintro ⟨i, h1, h2, h3, h4⟩; exact ⟨i, by omega, by omega, h3, h4⟩
      · rintro ⟨i, h1, h2, h3, h4⟩
        have : i ≠ p := fun e1 => h3 (e1 ▸ List.mem_of_getElem? hp)
        exact ⟨i, by omega, by omega, h3, h4⟩
    · rename_i hc
      have hjP : j ∉ P := fun hj => by
        obtain ⟨i, hi⟩ := List.getElem?_of_mem hj
        have hil := (List.getElem?_eq_some_iff.1 hi).1
        have h1 := hP i j hi
        have hit : i = t := by
          apply Classical.byContradiction
          intro hne
          have htl : t < P.length := by omega
          have h2 := hP t P[t] (List.getElem?_eq_getElem htl)
          have h3 := List.pairwise_iff_getElem.1 h.asc t i htl hil (by omega)
          have h4 := (List.getElem?_eq_some_iff.1 hi).2
          omega
        subst hit
        refine hc ⟨by omega, ?_⟩
        have ht : R[i]? = some (R.getD i []) := by rw [List.getD_eq_getElem?_getD, List.getElem?_eq_getElem (show i < R.length by omega)]; rfl
        obtain ⟨p, hp, e, _⟩ := h.lead hw ht
        rw [hi] at hp; injection hp with hp
        rw [e, hp]
      rw [List.mem_cons, nullGo_mem h hw m (j + 1) t (fun i q hq => by
        have h1 := hP i q hq
        have h2 : q ≠ j := fun e2 => hjP (e2 ▸ List.mem_of_getElem? hq)
        omega)]
      constructor
      · rintro (q | ⟨i, h1, h2, h3, h4⟩)
        · exact ⟨j, by omega, by omega, hjP, q⟩
        · exact ⟨i, by omega, by omega, h3, h4⟩
      · rintro ⟨i, h1, h2, h3, h4⟩
        by_cases e : i = j
        · subst e; exact .inl h4
        · exact .inr ⟨i, by omega, by omega, h3, h4⟩
theorem nullL_mem {F : Fld K} {R : List (List K)} {n : Nat} {P : List Nat} (h : Ech F R R.length n P) (hw : Wid n R) (v : List K) : v ∈ F.nullL n R ↔ ∃ i, i < n ∧ i ∉ P ∧ v = F.nullv n R i := by
  unfold Ops.nullL
  rw [nullGo_mem h hw n 0 0 fun i p _ => by omega]
  constructor
  · rintro ⟨i, h1, h2, h3, h4⟩; exact ⟨i, by omega, h3, h4⟩
  · rintro ⟨i, h1, h3, h4⟩; exact ⟨i, by omega, by omega, h3, h4⟩
theorem ker_zero {F : Fld K} {R : List (List K)} {n : Nat} {P : List Nat} (h : Ech F R R.length n P) {u : Nat → K} (hu : Ker F n (F.fns R) u) (h0 : ∀ j, j < n → j ∉ P → u j = F.z) (j : Nat) : u j = F.z := by
  by_cases hj : j < n
  · by_cases hP : j ∈ P
    · obtain ⟨t, ht⟩ := List.getElem?_of_mem hP
      have htl := (List.getElem?_eq_some_iff.1 ht).1
      have hpl := h.pl
      have hr : R[t]? = some (R[t]'(by omega)) := List.getElem?_eq_getElem _
      have := hu.2 _ (List.mem_map.2 ⟨_, List.mem_of_getElem? hr, rfl⟩)
      unfold Fld.dot at this
      rw [F.sumN_only (p := j) hj fun i hi hne => by
        by_cases hiP : i ∈ P
        · obtain ⟨t', ht'⟩ := List.getElem?_of_mem hiP
          show F.mul (F.el _ i) _ = F.z
          rw [h.zer t' t i _ ht' hr fun e => by subst e; rw [ht] at ht'; injection ht' with q; exact hne q.symm, F.z_mul]
        · rw [h0 i hi hiP, F.mul_z]] at this
      rw [show F.fn R[t] j = F.o from h.one t j _ ht hr, F.o_mul] at this
      exact this
    · exact h0 j hj hP
  · exact hu.1 j (by omega)
/-- The null list spans the kernel. -/
theorem nullL_span {F : Fld K} {R : List (List K)} {n : Nat} {P : List Nat} (h : Ech F R R.length n P) (hw : Wid n R) (k : Nat → K) : Sp F (F.fns (F.nullL n R)) k ↔ Ker F n (F.fns R) k := by
  constructor
  · refine Ker.sp fun q hq => ?_
    obtain ⟨v, hv, rfl⟩ := List.mem_map.1 hq
    obtain ⟨i, hi, hP, rfl⟩ := (nullL_mem h hw v).1 hv
    exact nullv_ker h hw hi hP
  · intro hk
    have : ∀ t, t ≤ n → ∃ x, Sp F (F.fns (F.nullL n R)) x ∧ ∀ j, j < t → j ∉ P → F.add (k j) (F.mul (F.neg F.o) (x j)) = F.z := by
      intro t
      induction t with
      | zero => intro _; exact ⟨F.vz, Sp.zero F _, fun j hj => by omega⟩
      | succ t ih =>
        intro ht
        obtain ⟨x, hx, hz⟩ := ih (by omega)
        by_cases hP : t ∈ P
        · exact ⟨x, hx, fun j hj hjP => hz j (by have : j ≠ t := fun e => hjP (e ▸ hP); omega) hjP⟩
        · refine ⟨F.va x (F.vs (F.add (k t) (F.mul (F.neg F.o) (x t))) (F.fn (F.nullv n R t))), hx.step (List.mem_map.2 ⟨_, (nullL_mem h hw _).2 ⟨t, by omega, hP, rfl⟩, rfl⟩) _, fun j hj hjP => ?_⟩
          show F.add (k j) (F.mul (F.neg F.o) (F.add (x j) (F.mul _ (F.el (F.nullv n R t) j)))) = F.z
          rw [nullv_at h hw (by omega) hjP]
          by_cases e : j = t
          · subst e
            rw [if_pos rfl, F.mul_o, F.distrib, ← F.add_assoc, F.neg_mul F.o (F.add _ _), F.o_mul, F.add_neg]
          · rw [if_neg e, F.mul_z, F.add_z]
            exact hz j (by omega) hjP
    obtain ⟨x, hx, hz⟩ := this n (Nat.le_refl n)
    have hxk : Ker F n (F.fns R) x := Ker.sp (fun q hq => by
      obtain ⟨v, hv, rfl⟩ := List.mem_map.1 hq
      obtain ⟨i, hi, hP, rfl⟩ := (nullL_mem h hw v).1 hv
      exact nullv_ker h hw hi hP) hx
    have h0 := ker_zero h (hk.step hxk (F.neg F.o)) fun j hj hP => hz j hj hP
    have : k = x := funext fun j => by
      have e : F.add (k j) (F.mul (F.neg F.o) (x j)) = F.z := h0 j
      rw [F.neg_mul, F.o_mul] at e
      rw [F.neg_of e, F.neg_neg]
    rw [this]
    exact hx
end Go.Proofs.YtmekhjnhcgmphaaDoor
