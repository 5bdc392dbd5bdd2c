/- The kernel of rows over Z/p, as the reference finds it; a recurrence is a vector of a kernel. Plain lemmas of mine. -/
import Derived.Test.YtmekhjnhcgmphaaDoorBmC
import Derived.Test.YtmekhjnhcgmphaaDoorLinP
import Derived.Test.YtmekhjnhcgmphaaDoorFldZ
namespace Go.Proofs.YtmekhjnhcgmphaaDoor
set_option maxRecDepth 100000
variable {K : Type}
def Ops.nullF (O : Ops K) (n : Nat) (R : List (List K)) : List (List K) := ((List.range n).filter fun j => R.all fun r => O.lead r != j).map (O.nullv n R)
def Ops.spNull (O : Ops K) (n : Nat) (rows : List (List K)) : List (List K) := O.rref n (O.nullF n (O.rref n rows))
theorem nullF_wid (O : Ops K) (n : Nat) (R : List (List K)) : Wid n (O.nullF n R) := fun v hv => by
  obtain ⟨j, _, rfl⟩ := List.mem_map.1 hv
  exact nullv_len O n R j
theorem nullF_mem {F : Fld K} {R : List (List K)} {n : Nat} {P : List Nat} (h : Ech F R R.length n P) (hw : Wid n R) (v : List K) : v ∈ F.nullF n R ↔ v ∈ F.nullL n R := by
  rw [nullL_mem h hw]
  have hP : ∀ i, (R.all fun r => F.lead r != i) = true ↔ i ∉ P := fun i => by
    rw [List.all_eq_true]
    constructor
    · intro ha hi
      obtain ⟨t, ht⟩ := List.getElem?_of_mem hi
      have hl := (List.getElem?_eq_some_iff.1 ht).1
      have hr : R[t]? = some (R[t]'(by rw [← h.pl]; exact hl)) := List.getElem?_eq_getElem _
      obtain ⟨q, hq, e, _⟩ := h.lead hw hr
      rw [ht] at hq
      injection hq with hq
      have := ha _ (List.mem_of_getElem? hr)
      rw [e, hq] at this
      simp at this
    · intro hi r hr
      obtain ⟨t, ht⟩ := List.getElem?_of_mem hr
      obtain ⟨q, hq, e, _⟩ := h.lead hw ht
      rw [e, bne_iff_ne]
      exact fun e2 => hi (e2 ▸ List.mem_of_getElem? hq)
  constructor
  · intro hv
    obtain ⟨j, hj, rfl⟩ := List.mem_map.1 hv
    obtain ⟨h1, h2⟩ := List.mem_filter.1 hj
    exact ⟨j, List.mem_range.1 h1, (hP j).1 h2, rfl⟩
  · rintro ⟨j, h1, h2, rfl⟩
    exact List.mem_map.2 ⟨j, List.mem_filter.2 ⟨List.mem_range.2 h1, (hP j).2 h2⟩, rfl⟩
theorem fns_mem {O : Ops K} {A B : List (List K)} (h : ∀ v, v ∈ A → v ∈ B) : ∀ r ∈ O.fns A, r ∈ O.fns B := fun r hr => by
  obtain ⟨v, hv, rfl⟩ := List.mem_map.1 hr
  exact List.mem_map.2 ⟨v, h v hv, rfl⟩
theorem spNull_span (F : Fld K) {n : Nat} {rows : List (List K)} (hw : Wid n rows) (k : Nat → K) : Sp F (F.fns (F.spNull n rows)) k ↔ Ker F n (F.fns rows) k := by
  obtain ⟨h1, P, h2⟩ := rref_is F hw
  unfold Ops.spNull
  rw [rref_span F (nullF_wid F.toOps n _), ← Ker.same (rref_span F hw) k, ← nullL_span h2 h1 k]
  exact ⟨fun h => h.sub (fns_mem fun v hv => (nullF_mem h2 h1 v).1 hv), fun h => h.sub (fns_mem fun v hv => (nullF_mem h2 h1 v).2 hv)⟩
theorem Hom.nullF {A : Type} {O : Ops K} {O' : Ops A} {f : K → A} (h : Hom O O' f) (n : Nat) (R : List (List K)) : O'.nullF n (mp2 f R) = mp2 f (O.nullF n R) := by
  unfold Ops.nullF
  have e : ((List.range n).filter fun j => (mp2 f R).all fun r => O'.lead r != j) = (List.range n).filter fun j => R.all fun r => O.lead r != j := List.filter_congr fun j _ => by
    unfold mp2
    rw [List.all_map]
    congr 1
    funext r
    show (O'.lead (r.map f) != j) = _
    rw [h.lead]
  rw [e]
  unfold mp2
  rw [List.map_map]
  exact List.map_congr_left fun j _ => h.nullv n R j
theorem Hom.spNull {A : Type} {O : Ops K} {O' : Ops A} {f : K → A} (h : Hom O O' f) (n : Nat) (rows : List (List K)) : O'.spNull n (mp2 f rows) = mp2 f (O.spNull n rows) := by
  unfold Ops.spNull
  rw [h.rref, h.nullF, h.rref]
theorem sumN_val {p : Int} (hF : fieldB p = true) (f : Nat → {a : Int // elB p a = true}) : ∀ n, ((zpFld p hF).sumN n f).1 = sg (fun i => (f i).1) n % p
  | 0 => (Int.zero_emod p).symm
  | n + 1 => by
    show (((zpFld p hF).sumN n f).1 + (f n).1) % p = _
    rw [sumN_val hF f n, sg, Int.emod_add_emod]
theorem dot_val {p : Int} (hF : fieldB p = true) (n : Nat) (a k : Nat → {a : Int // elB p a = true}) : (zpFld p hF).dot n a k = (zpFld p hF).z ↔ p ∣ sg (fun i => (a i).1 * (k i).1) n := by
  have e : ((zpFld p hF).dot n a k).1 = sg (fun i => (a i).1 * (k i).1 % p) n % p := sumN_val hF _ n
  have e2 : p ∣ sg (fun i => (a i).1 * (k i).1 % p) n - sg (fun i => (a i).1 * (k i).1) n := by
    have : sg (fun i => (a i).1 * (k i).1 % p) n - sg (fun i => (a i).1 * (k i).1) n = sg (fun i => (a i).1 * (k i).1 % p - (a i).1 * (k i).1) n := by
      have e3 : ∀ i, (a i).1 * (k i).1 % p - (a i).1 * (k i).1 = (a i).1 * (k i).1 % p + (-1) * ((a i).1 * (k i).1) := fun i => by omega
      rw [sg_congr fun i _ => e3 i, sg_add, sg_mul]; omega
    rw [this]
    exact sg_dvd fun i _ => dvd_mod _ _
  rw [← Int.dvd_iff_dvd_of_dvd_sub e2, Int.dvd_iff_emod_eq_zero, ← e]
  exact ⟨fun h => by rw [h]; rfl, fun h => Subtype.ext h⟩
theorem cf_el (p : Int) (v : List Int) (i : Nat) : (zpOps p).el v i = cf v i := by
  unfold Ops.el cf
  rw [List.getD_eq_getElem?_getD]; rfl
theorem val_el {p : Int} (hF : fieldB p = true) (v : List {a : Int // elB p a = true}) (i : Nat) : ((zpFld p hF).fn v i).1 = cf (v.map Subtype.val) i := by
  rw [← cf_el p, (zpHom p hF).el]; rfl
/-- The reduced basis of a kernel, for vectors with a 1 ahead. -/
theorem sp_lead {p : Int} (hF : fieldB p = true) {n : Nat} (hn : 1 ≤ n) {rows : List (List Int)} (hw : Wid n rows) (he : ∀ r ∈ rows, allEl p r = true) :
    (∀ c : Nat → Int, c 0 = 1 → (∀ r ∈ rows, p ∣ sg (fun i => cf r i * c i) n) → ∃ v ∈ (zpOps p).spNull n rows, cf v 0 ≠ 0) ∧
    ∀ v ∈ (zpOps p).spNull n rows, v.length = n ∧ allEl p v = true ∧ (cf v 0 ≠ 0 → cf v 0 = 1) ∧ ∀ r ∈ rows, p ∣ sg (fun i => cf r i * cf v i) n := by
  have h2 := fieldB_lo hF
  obtain ⟨rows', rfl⟩ := lift2 (P := fun a => elB p a = true) rows fun v hv x hx => by
    have := he v hv
    unfold allEl at this
    exact List.all_eq_true.1 this x hx
  have hw' : Wid n rows' := Wid.mp2.1 hw
  rw [(zpHom p hF).spNull]
  have hR := rref_is (zpFld p hF) (nullF_wid (zpFld p hF).toOps n ((zpFld p hF).rref n rows'))
  obtain ⟨w1, P, w2⟩ := hR
  have hs := fun k => spNull_span (zpFld p hF) hw' k
  refine ⟨fun c hc0 hc => ?_, fun v hv => ?_⟩
  · rcases Classical.em (∃ v ∈ mp2 Subtype.val ((zpFld p hF).spNull n rows'), cf v 0 ≠ 0) with h | h
    · exact h
    · exfalso
      have hz : ∀ r ∈ (zpFld p hF).fns ((zpFld p hF).spNull n rows'), r 0 = (zpFld p hF).z := fun r hr => by
        obtain ⟨v, hv, rfl⟩ := List.mem_map.1 hr
        refine Subtype.ext ?_
        rw [val_el]
        rcases Classical.em (cf (v.map Subtype.val) 0 = 0) with e | e
        · rw [e]; rfl
        · exact (h ⟨_, List.mem_map.2 ⟨v, hv, rfl⟩, e⟩).elim
      obtain ⟨k, hk⟩ : ∃ k : Nat → {a : Int // elB p a = true}, k = fun i => if i < n then ⟨c i % p, el_mod (by omega) _⟩ else (zpFld p hF).z := ⟨_, rfl⟩
      have hker : Ker (zpFld p hF) n ((zpFld p hF).fns rows') k := by
        refine ⟨fun j hj => by rw [hk]; exact if_neg (by omega), fun a ha => ?_⟩
        obtain ⟨r, hr, rfl⟩ := List.mem_map.1 ha
        rw [dot_val]
        have h3 := hc (r.map Subtype.val) (List.mem_map.2 ⟨r, hr, rfl⟩)
        have e : p ∣ sg (fun i => ((zpFld p hF).fn r i).1 * (k i).1) n - sg (fun i => cf (r.map Subtype.val) i * c i) n := by
          have : sg (fun i => ((zpFld p hF).fn r i).1 * (k i).1) n - sg (fun i => cf (r.map Subtype.val) i * c i) n = sg (fun i => cf (r.map Subtype.val) i * (c i % p - c i)) n := by
            have e3 : ∀ i, i < n → cf (r.map Subtype.val) i * (c i % p - c i) = ((zpFld p hF).fn r i).1 * (k i).1 + (-1) * (cf (r.map Subtype.val) i * c i) := fun i hi => by
              rw [val_el, hk]
              simp only [if_pos hi]
              rw [Int.mul_sub]; omega
            rw [sg_congr e3, sg_add, sg_mul]; omega
          rw [this]
          exact sg_dvd fun i _ => Int.dvd_mul_of_dvd_right (dvd_mod _ _)
        exact (Int.dvd_iff_dvd_of_dvd_sub e).2 h3
      have := ((hs k).2 hker).ind 0 hz
      have e1 := congrArg Subtype.val this
      rw [hk] at e1
      simp only [if_pos (show 0 < n by omega), hc0] at e1
      have e2 : (1 : Int) % p = 0 := e1
      rw [Int.emod_eq_of_lt (by decide) (by omega)] at e2
      cases e2
  · obtain ⟨v', hv', rfl⟩ := List.mem_map.1 hv
    refine ⟨by rw [List.length_map]; exact w1 v' hv', ?_, fun hne => ?_, fun r hr => ?_⟩
    · unfold allEl
      rw [List.all_eq_true]
      intro x hx
      obtain ⟨y, _, rfl⟩ := List.mem_map.1 hx
      exact y.2
    · obtain ⟨t, ht⟩ := List.getElem?_of_mem hv'
      have hl := (List.getElem?_eq_some_iff.1 ht).1
      have hp : P[t]? = some (P[t]'(by rw [w2.pl]; exact hl)) := List.getElem?_eq_getElem _
      have h0 : P[t]'(by rw [w2.pl]; exact hl) = 0 := by
        rcases Nat.eq_zero_or_pos (P[t]'(by rw [w2.pl]; exact hl)) with e | e
        · exact e
        · have := w2.led t _ v' hp ht 0 e
          exact (hne (by rw [← val_el hF]; show ((zpFld p hF).el v' 0).1 = 0; rw [this]; rfl)).elim
      have h1 := w2.one t _ v' hp ht
      rw [h0] at h1
      rw [← val_el hF]
      show ((zpFld p hF).el v' 0).1 = 1
      rw [h1]; rfl
    · obtain ⟨r', hr', rfl⟩ := List.mem_map.1 hr
      have hk := (hs ((zpFld p hF).fn v')).1 (Sp.mem (List.mem_map.2 ⟨v', hv', rfl⟩))
      have h3 := (dot_val hF n _ _).1 (hk.2 _ (List.mem_map.2 ⟨r', hr', rfl⟩))
      have e : sg (fun i => ((zpFld p hF).fn r' i).1 * ((zpFld p hF).fn v' i).1) n = sg (fun i => cf (r'.map Subtype.val) i * cf (v'.map Subtype.val) i) n := sg_congr fun i _ => by rw [val_el, val_el]
      rwa [e] at h3
end Go.Proofs.YtmekhjnhcgmphaaDoor
