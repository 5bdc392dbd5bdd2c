/- Linear algebra: sums; more unknowns than equations. Plain lemmas of mine. Linear algebra: linear maps of spans; the lists whose product with each row is 0, found in two ways. Plain lemmas of mine. Linear algebra: the null list of a reduced list spans the kernel; so do the unit rows beside an elimination. Plain lemmas of mine. Linear algebra: unit rows beside an elimination span the kernel; compositions. Plain lemmas of mine. Linear algebra: the composition of relations, in two ways, also over what stands for a field. Plain lemmas of mine. Linear algebra: which of the given rows an elimination's rows are made of. Plain lemmas of mine. Linear algebra: a combination of the given rows that vanishes at the pivots is a multiple of an elimination's row. Plain lemmas of mine. The field of the elements 0 .. p - 1. Plain lemmas of mine. Polynomials: more unknown coefficients than equations. Plain lemmas of mine. Degrees in an elimination of fractions: every element of every stage is a quotient of two polynomials of bounded degree. Plain lemmas of mine. Degrees in an elimination of fractions: the bound. Plain lemmas of mine. Degrees in an elimination of fractions: the bound at every stage. Plain lemmas of mine. -/
import Derived.Test.YtpeogfapnofeoaaGreatDoorPkD
import Derived.Test.YtpeogfapnofeoaaGreatDoorNum
import Derived.Test.YtpeogfapnofeoaaGreatDoorFldF
import Derived.Test.YtpeogfapnofeoaaGreatDoorPkE
import Derived.Test.YtpeogfapnofeoaaGreatDoorPkI
namespace Go.Proofs.YtpeogfapnofeoaaGreatDoor
set_option maxRecDepth 100000
variable {K : Type}
def Fld.sumN (F : Fld K) : Nat → (Nat → K) → K
  | 0, _ => F.z
  | n + 1, f => F.add (Fld.sumN F n f) (f n)
theorem Fld.sumN_congr (F : Fld K) {f g : Nat → K} : ∀ {n : Nat}, (∀ j, j < n → f j = g j) → F.sumN n f = F.sumN n g
  | 0, _ => rfl
  | n + 1, h => by
    rw [Fld.sumN, Fld.sumN, F.sumN_congr (n := n) fun j hj => h j (by omega), h n (by omega)]
theorem Fld.sumN_zero (F : Fld K) {f : Nat → K} : ∀ {n : Nat}, (∀ j, j < n → f j = F.z) → F.sumN n f = F.z
  | 0, _ => rfl
  | n + 1, h => by
    rw [Fld.sumN, F.sumN_zero (n := n) fun j hj => h j (by omega), h n (by omega), F.z_add]
theorem Fld.sumN_add (F : Fld K) (f g : Nat → K) : ∀ n : Nat, F.sumN n (fun j => F.add (f j) (g j)) = F.add (F.sumN n f) (F.sumN n g)
  | 0 => (F.z_add F.z).symm
  | n + 1 => by
    rw [Fld.sumN, F.sumN_add f g n, F.swap4]; rfl
theorem Fld.sumN_mul (F : Fld K) (c : K) (f : Nat → K) : ∀ n : Nat, F.sumN n (fun j => F.mul c (f j)) = F.mul c (F.sumN n f)
  | 0 => (F.mul_z c).symm
  | n + 1 => by
    rw [Fld.sumN, F.sumN_mul c f n, ← F.distrib]; rfl
def skp (j0 j : Nat) : Nat := if j < j0 then j else j + 1
theorem Fld.sumN_skip (F : Fld K) (f : Nat → K) {j0 : Nat} : ∀ {n : Nat}, j0 < n + 1 → F.sumN (n + 1) f = F.add (f j0) (F.sumN n fun j => f (skp j0 j))
  | 0, h => by
    obtain rfl : j0 = 0 := by omega
    show F.add F.z (f 0) = F.add (f 0) F.z
    rw [F.add_comm]
  | n + 1, h => by
    by_cases e : j0 = n + 1
    · subst e
      rw [Fld.sumN, F.add_comm]
      congr 1
      refine F.sumN_congr fun j hj => ?_
      rw [skp, if_pos hj]
    · rw [Fld.sumN, F.sumN_skip f (j0 := j0) (n := n) (by omega), F.add_assoc]
      congr 1
      show _ = F.add (F.sumN n fun j => f (skp j0 j)) (f (skp j0 n))
      rw [skp, if_neg (by omega)]
theorem skp_ne (j0 j : Nat) : skp j0 j ≠ j0 := by unfold skp; split <;> omega
theorem skp_lt {j0 j n : Nat} (h : j < n) : skp j0 j < n + 1 := by unfold skp; split <;> omega
/-- More unknowns than equations: a solution other than 0. -/
theorem hom_sys (F : Fld K) : ∀ (m n : Nat) (A : Nat → Nat → K), m < n → ∃ x : Nat → K, (∃ j, j < n ∧ x j ≠ F.z) ∧ ∀ i, i < m → F.sumN n (fun j => F.mul (A i j) (x j)) = F.z
  | 0, n, A, h => ⟨fun _ => F.o, ⟨0, h, F.o_ne⟩, fun i hi => by omega⟩
  | m + 1, n, A, h => by
    by_cases hz : ∀ j, j < n → A m j = F.z
    · obtain ⟨x, hx, hs⟩ := hom_sys F m n A (by omega)
      refine ⟨x, hx, fun i hi => ?_⟩
      by_cases e : i = m
      · subst e
        exact F.sumN_zero fun j hj => by rw [hz j hj, F.z_mul]
      · exact hs i (by omega)
    · obtain ⟨j0, hj0⟩ := Classical.not_forall.1 hz
      obtain ⟨hjn, hne⟩ := Classical.not_imp.1 hj0
      obtain ⟨k, rfl⟩ : ∃ k, n = k + 1 := ⟨n - 1, by omega⟩
      obtain ⟨y, ⟨j1, hj1, hy⟩, hs⟩ := hom_sys F m k (fun i j => F.add (A i (skp j0 j)) (F.mul (F.neg (F.mul (A i j0) (F.inv (A m j0)))) (A m (skp j0 j)))) (by omega)
      obtain ⟨S, hS⟩ : ∃ S, F.sumN k (fun j => F.mul (A m (skp j0 j)) (y j)) = S := ⟨_, rfl⟩
      obtain ⟨x, hx0, hxs⟩ : ∃ x : Nat → K, x j0 = F.neg (F.mul (F.inv (A m j0)) S) ∧ ∀ j, x (skp j0 j) = y j := by
        refine ⟨fun j => if j = j0 then F.neg (F.mul (F.inv (A m j0)) S) else y (if j < j0 then j else j - 1), if_pos rfl, fun j => ?_⟩
        show (if skp j0 j = j0 then _ else _) = _
        rw [if_neg (skp_ne j0 j)]
        congr 1
        unfold skp
        by_cases e : j < j0
        · rw [if_pos e, if_pos e]
        · rw [if_neg e, if_neg (by omega)]; omega
      have hsum : ∀ i, F.sumN (k + 1) (fun j => F.mul (A i j) (x j)) = F.add (F.mul (A i j0) (x j0)) (F.sumN k fun j => F.mul (A i (skp j0 j)) (y j)) := fun i => by
        rw [F.sumN_skip _ hjn]
        congr 1
        exact F.sumN_congr fun j _ => by rw [hxs]
      refine ⟨x, ⟨skp j0 j1, skp_lt hj1, by rw [hxs]; exact hy⟩, fun i hi => ?_⟩
      rw [hsum, hx0]
      by_cases e : i = m
      · subst e
        rw [hS, ← F.neg_mul, ← F.mul_assoc, F.mul_comm (A i j0), F.neg_mul, F.inv_mul _ hne, F.neg_mul, F.o_mul, F.neg_add]
      · have h2 := hs i (by omega)
        have h3 : F.sumN k (fun j => F.mul (F.add (A i (skp j0 j)) (F.mul (F.neg (F.mul (A i j0) (F.inv (A m j0)))) (A m (skp j0 j)))) (y j)) = F.add (F.sumN k fun j => F.mul (A i (skp j0 j)) (y j)) (F.mul (F.neg (F.mul (A i j0) (F.inv (A m j0)))) S) := by
          rw [← hS, ← F.sumN_mul, ← F.sumN_add]
          exact F.sumN_congr fun j _ => by rw [F.distrib_r, F.mul_assoc]
        rw [h3] at h2
        rw [← h2, F.add_comm]
        congr 1
        rw [F.neg_mul, F.mul_comm (A i j0) (F.neg _), F.neg_mul]
        congr 1
        rw [F.mul_comm, ← F.mul_assoc]
end Go.Proofs.YtpeogfapnofeoaaGreatDoor
namespace Go.Proofs.YtpeogfapnofeoaaGreatDoor
set_option maxRecDepth 100000
variable {K : Type}
theorem Sp.map {F : Fld K} {φ : (Nat → K) → (Nat → K)} (hz : φ F.vz = F.vz) (ha : ∀ u r c, φ (F.va u (F.vs c r)) = F.va (φ u) (F.vs c (φ r))) {R : List (Nat → K)} {v : Nat → K} (h : Sp F R v) : Sp F (R.map φ) (φ v) :=
  h (fun x => Sp F (R.map φ) (φ x)) (by rw [hz]; exact Sp.zero F _) fun u hu r hr c => by
    rw [ha]
    exact hu.step (List.mem_map.2 ⟨r, hr, rfl⟩) c
theorem Sp.map_same {F : Fld K} {φ : (Nat → K) → (Nat → K)} (hz : φ F.vz = F.vz) (ha : ∀ u r c, φ (F.va u (F.vs c r)) = F.va (φ u) (F.vs c (φ r))) {R S : List (Nat → K)} (h : ∀ v, Sp F R v ↔ Sp F S v) (v : Nat → K) : Sp F (R.map φ) v ↔ Sp F (S.map φ) v := by
  constructor
  · refine Sp.mono fun q hq => ?_
    obtain ⟨r, hr, rfl⟩ := List.mem_map.1 hq
    exact ((h r).1 (Sp.mem hr)).map hz ha
  · refine Sp.mono fun q hq => ?_
    obtain ⟨r, hr, rfl⟩ := List.mem_map.1 hq
    exact ((h r).2 (Sp.mem hr)).map hz ha
theorem Sp.sumN {F : Fld K} {R : List (Nat → K)} {g : Nat → Nat → K} : ∀ {m : Nat}, (∀ i, i < m → Sp F R (g i)) → Sp F R (fun j => F.sumN m fun i => g i j)
  | 0, _ => Sp.zero F R
  | m + 1, h => (Sp.sumN (m := m) fun i hi => h i (by omega)).add (h m (by omega))
/-- One term of a sum has changed. -/
theorem Fld.sumN_upd (F : Fld K) {f g : Nat → K} {p : Nat} {d : K} (hp : f p = F.add (g p) d) : ∀ {s : Nat}, p < s → (∀ i, i < s → i ≠ p → f i = g i) → F.sumN s f = F.add (F.sumN s g) d
  | 0, h, _ => by omega
  | s + 1, h, he => by
    by_cases e : p = s
    · subst e
      rw [Fld.sumN, Fld.sumN, hp, ← F.add_assoc, F.sumN_congr (n := p) (f := f) (g := g) fun i hi => he i (by omega) (by omega)]
    · rw [Fld.sumN, Fld.sumN, F.sumN_upd hp (s := s) (by omega) fun i hi => he i (by omega), he s (by omega) (by omega), F.add_assoc, F.add_assoc, F.add_comm d]
theorem Fld.sumN_only (F : Fld K) {f : Nat → K} {p s : Nat} (hp : p < s) (h : ∀ i, i < s → i ≠ p → f i = F.z) : F.sumN s f = f p := by
  rw [F.sumN_upd (f := f) (g := fun _ => F.z) (p := p) (d := f p) (F.z_add _).symm hp h, F.sumN_zero fun _ _ => rfl, F.z_add]
def Fld.dot (F : Fld K) (s : Nat) (a k : Nat → K) : K := F.sumN s fun i => F.mul (a i) (k i)
theorem Fld.dot_z (F : Fld K) (s : Nat) (a : Nat → K) : F.dot s a F.vz = F.z := F.sumN_zero fun _ _ => F.mul_z _
theorem Fld.z_dot (F : Fld K) (s : Nat) (a : Nat → K) : F.dot s F.vz a = F.z := F.sumN_zero fun _ _ => F.z_mul _
theorem Fld.dot_comm (F : Fld K) (s : Nat) (a k : Nat → K) : F.dot s a k = F.dot s k a := F.sumN_congr fun _ _ => F.mul_comm _ _
theorem Fld.dot_step (F : Fld K) (s : Nat) (a u r : Nat → K) (c : K) : F.dot s a (F.va u (F.vs c r)) = F.add (F.dot s a u) (F.mul c (F.dot s a r)) := by
  unfold Fld.dot
  rw [← F.sumN_mul, ← F.sumN_add]
  refine F.sumN_congr fun i _ => ?_
  show F.mul (a i) (F.add (u i) (F.mul c (r i))) = _
  rw [F.distrib, ← F.mul_assoc, F.mul_comm (a i) c, F.mul_assoc]
/-- k stands on s places and its product with each of the rows is 0. -/
def Ker (F : Fld K) (s : Nat) (M : List (Nat → K)) (k : Nat → K) : Prop := (∀ j, s ≤ j → k j = F.z) ∧ ∀ a ∈ M, F.dot s a k = F.z
theorem Ker.zero (F : Fld K) (s : Nat) (M : List (Nat → K)) : Ker F s M F.vz := ⟨fun _ _ => rfl, fun a _ => F.dot_z s a⟩
theorem Ker.step {F : Fld K} {s : Nat} {M : List (Nat → K)} {u r : Nat → K} (h : Ker F s M u) (k : Ker F s M r) (c : K) : Ker F s M (F.va u (F.vs c r)) :=
  ⟨fun j hj => by show F.add (u j) (F.mul c (r j)) = F.z; rw [h.1 j hj, k.1 j hj, F.mul_z, F.z_add], fun a ha => by rw [F.dot_step, h.2 a ha, k.2 a ha, F.mul_z, F.z_add]⟩
theorem Ker.sp {F : Fld K} {s : Nat} {M R : List (Nat → K)} (h : ∀ r ∈ R, Ker F s M r) {v : Nat → K} (hv : Sp F R v) : Ker F s M v :=
  hv (Ker F s M) (Ker.zero F s M) fun _ hu r hr c => hu.step (h r hr) c
theorem Ker.mono {F : Fld K} {s : Nat} {M M' : List (Nat → K)} (h : ∀ a ∈ M', Sp F M a) {k : Nat → K} (hk : Ker F s M k) : Ker F s M' k :=
  ⟨hk.1, fun a ha => h a ha (fun x => F.dot s x k = F.z) (F.z_dot s k) fun u hu r hr c => by
    rw [F.dot_comm, F.dot_step, F.dot_comm s k u, F.dot_comm s k r, hu, hk.2 r hr, F.mul_z, F.z_add]⟩
theorem Ker.same {F : Fld K} {s : Nat} {M M' : List (Nat → K)} (h : ∀ v, Sp F M v ↔ Sp F M' v) (k : Nat → K) : Ker F s M k ↔ Ker F s M' k :=
  ⟨Ker.mono fun a ha => (h a).2 (Sp.mem ha), Ker.mono fun a ha => (h a).1 (Sp.mem ha)⟩
theorem el_set (F : Fld K) (v : List K) (p : Nat) (c : K) (i : Nat) : F.el (v.set p c) i = if p = i ∧ i < v.length then c else F.el v i := by
  unfold Ops.el
  rw [List.getD_eq_getElem?_getD, List.getD_eq_getElem?_getD, List.getElem?_set]
  by_cases e : p = i
  · subst e
    by_cases h : p < v.length
    · rw [if_pos rfl, if_pos h, if_pos ⟨rfl, h⟩]; rfl
    · rw [if_pos rfl, if_neg h, if_neg (fun q => h q.2), List.getElem?_eq_none (by omega)]
  · rw [if_neg e, if_neg (fun q => e q.1)]
theorem dot_set0 (F : Fld K) {s : Nat} {a : Nat → K} {v : List K} {p : Nat} (c : K) (ha : a p = F.z) : F.dot s a (F.fn (v.set p c)) = F.dot s a (F.fn v) :=
  F.sumN_congr fun i _ => by
    show F.mul (a i) (F.el (v.set p c) i) = F.mul (a i) (F.el v i)
    rw [el_set]
    split
    · rename_i h
      rw [← h.1, ha, F.z_mul, F.z_mul]
    · rfl
theorem dot_set (F : Fld K) {s : Nat} {a : Nat → K} {v : List K} {p : Nat} (c : K) (hv : F.el v p = F.z) (hp : p < v.length) (hs : p < s) : F.dot s a (F.fn (v.set p c)) = F.add (F.dot s a (F.fn v)) (F.mul (a p) c) := by
  refine F.sumN_upd (p := p) ?_ hs fun i _ hne => ?_
  · show F.mul (a p) (F.el (v.set p c) p) = F.add (F.mul (a p) (F.el v p)) _
    rw [el_set, if_pos ⟨rfl, hp⟩, hv, F.mul_z, F.z_add]
  · show F.mul (a i) (F.el (v.set p c) i) = F.mul (a i) (F.el v i)
    rw [el_set, if_neg fun q => hne q.1.symm]
/-- The vector that belongs to a place without a pivot. -/
def Ops.nset (O : Ops K) (R : List (List K)) (j : Nat) (v : List K) : List K := R.foldl (fun v r => v.set (O.lead r) (O.neg (O.el r j))) v
def Ops.nullv (O : Ops K) (s : Nat) (R : List (List K)) (j : Nat) : List K := O.nset R j ((List.replicate s O.z).set j O.o)
def Ops.nullGo (O : Ops K) (s : Nat) (R : List (List K)) : Nat → Nat → Nat → List (List K)
  | 0, _, _ => []
  | m + 1, j, t => if t < R.length ∧ O.lead (R.getD t []) = j then Ops.nullGo O s R m (j + 1) (t + 1) else O.nullv s R j :: Ops.nullGo O s R m (j + 1) t
def Ops.nullL (O : Ops K) (s : Nat) (R : List (List K)) : List (List K) := O.nullGo s R s 0 0
theorem nset_len (O : Ops K) (j : Nat) : ∀ (R : List (List K)) (v : List K), (O.nset R j v).length = v.length
  | [], _ => rfl
  | r :: R, v => by
    show (O.nset R j (v.set _ _)).length = _
    rw [nset_len O j R, List.length_set]
theorem nullv_len (O : Ops K) (s : Nat) (R : List (List K)) (j : Nat) : (O.nullv s R j).length = s := by
  unfold Ops.nullv
  rw [nset_len, List.length_set, List.length_replicate]
theorem nset_out (F : Fld K) (j i : Nat) : ∀ (R : List (List K)) (v : List K), (∀ r ∈ R, F.lead r ≠ i) → F.el (F.nset R j v) i = F.el v i
  | [], _, _ => rfl
  | r :: R, v, h => by
    show F.el (F.nset R j (v.set _ _)) i = _
    rw [nset_out F j i R _ (fun x hx => h x (by simp [hx])), el_set, if_neg fun q => h r (by simp) q.1]
theorem nset_dot0 (F : Fld K) {s j : Nat} {a : Nat → K} : ∀ (R : List (List K)) (v : List K), (∀ r ∈ R, a (F.lead r) = F.z) → F.dot s a (F.fn (F.nset R j v)) = F.dot s a (F.fn v)
  | [], _, _ => rfl
  | r :: R, v, h => by
    show F.dot s a (F.fn (F.nset R j (v.set _ _))) = _
    rw [nset_dot0 F R _ (fun x hx => h x (by simp [hx])), dot_set0 F _ (h r (by simp))]
theorem nset_app (O : Ops K) (R S : List (List K)) (j : Nat) (v : List K) : O.nset (R ++ S) j v = O.nset S j (O.nset R j v) := List.foldl_append ..
end Go.Proofs.YtpeogfapnofeoaaGreatDoor
namespace Go.Proofs.YtpeogfapnofeoaaGreatDoor
set_option maxRecDepth 100000
variable {K : Type}
theorem Ech.lead {F : Fld K} {R : List (List K)} {n : Nat} {P : List Nat} (h : Ech F R R.length n P) (hw : Wid n R) {t : Nat} {r : List K} (hr : R[t]? = some r) : ∃ p, P[t]? = some p ∧ F.lead r = p ∧ p < n := by
  have ht := (List.getElem?_eq_some_iff.1 hr).1
  have hpl := h.pl
  have hp : P[t]? = some (P[t]'(by omega)) := List.getElem?_eq_getElem _
  have hl := h.lt _ (List.mem_of_getElem? hp)
  refine ⟨_, hp, lead_of F.toOps ?_ (by rw [hw r (List.mem_of_getElem? hr)]; exact hl) fun j hj => (F.isz_iff _).2 (h.led t _ r hp hr j hj), hl⟩
  rw [h.one t _ r hp hr]
  cases hb : F.isz F.o with
  | false => rfl
  | true => exact absurd ((F.isz_iff _).1 hb) F.o_ne
theorem Ech.inj {F : Fld K} {R : List (List K)} {n : Nat} {P : List Nat} (h : Ech F R R.length n P) {t t' p : Nat} (a : P[t]? = some p) (b : P[t']? = some p) : t = t' := by
  have ha := (List.getElem?_eq_some_iff.1 a).1
  have hb := (List.getElem?_eq_some_iff.1 b).1
  have e1 := (List.getElem?_eq_some_iff.1 a).2
  have e2 := (List.getElem?_eq_some_iff.1 b).2
  have hasc := List.pairwise_iff_getElem.1 h.asc
  rcases Nat.lt_trichotomy t t' with q | q | q
  · have := hasc t t' ha hb q; omega
  · exact q
  · have := hasc t' t hb ha q; omega
/-- What stands in the vector of place j at a place without a pivot. -/
theorem nullv_at {F : Fld K} {R : List (List K)} {n : Nat} {P : List Nat} (h : Ech F R R.length n P) (hw : Wid n R) {j : Nat} (hj : j < n) {i : Nat} (hi : i ∉ P) : F.el (F.nullv n R j) i = if i = j then F.o else F.z := by
  unfold Ops.nullv
  rw [nset_out F j i R _ fun r hr => by
    obtain ⟨t, ht⟩ := List.getElem?_of_mem hr
    obtain ⟨p, hp, e, _⟩ := h.lead hw ht
    rw [e]
    exact fun q => hi (q ▸ List.mem_of_getElem? hp), el_set]
  by_cases e : i = j
  · rw [if_pos ⟨e.symm, by rw [List.length_replicate]; omega⟩, if_pos e]
  · rw [if_neg fun q => e q.1.symm, if_neg e]
    unfold Ops.el
    rw [List.getD_eq_getElem?_getD, List.getElem?_replicate]
    split <;> rfl
theorem nullv_ker {F : Fld K} {R : List (List K)} {n : Nat} {P : List Nat} (h : Ech F R R.length n P) (hw : Wid n R) {j : Nat} (hj : j < n) (hjP : j ∉ P) : Ker F n (F.fns R) (F.fn (F.nullv n R j)) := by
  refine ⟨fun i hi => Ops.el_out _ (by rw [nullv_len]; exact hi), fun a ha => ?_⟩
  obtain ⟨r, hr, rfl⟩ := List.mem_map.1 ha
  obtain ⟨t, ht⟩ := List.getElem?_of_mem hr
  obtain ⟨p, hp, hlead, hpn⟩ := h.lead hw ht
  have htl := (List.getElem?_eq_some_iff.1 ht).1
  have hsplit : R = R.take t ++ r :: R.drop (t + 1) := by
    conv => lhs; rw [← List.take_append_drop t R]
    rw [List.drop_eq_getElem_cons htl, (List.getElem?_eq_some_iff.1 ht).2]
  have oth : ∀ (t' : Nat) (r' : List K), R[t']? = some r' → t' ≠ t → F.fn r (F.lead r') = F.z ∧ F.lead r' ≠ p := fun t' r' ht' hne => by
    obtain ⟨p', hp', e', _⟩ := h.lead hw ht'
    rw [e']
    refine ⟨h.zer t' t p' r hp' ht fun q => hne q.symm, fun q => hne ?_⟩
    subst q
    exact h.inj hp' hp
  have inT : ∀ r' ∈ R.take t, F.fn r (F.lead r') = F.z ∧ F.lead r' ≠ p := fun r' hr' => by
    obtain ⟨i, hi⟩ := List.getElem?_of_mem hr'
    rw [List.getElem?_take] at hi
    split at hi
    · exact oth i r' hi (by omega)
    · cases hi
  have inD : ∀ r' ∈ R.drop (t + 1), F.fn r (F.lead r') = F.z ∧ F.lead r' ≠ p := fun r' hr' => by
    obtain ⟨i, hi⟩ := List.getElem?_of_mem hr'
    rw [List.getElem?_drop] at hi
    exact oth _ r' hi (by omega)
  have hjp : j ≠ p := fun q => hjP (q ▸ List.mem_of_getElem? hp)
  have hrj : F.dot n (F.fn r) (F.fn ((List.replicate n F.z).set j F.o)) = F.el r j := by
    unfold Fld.dot
    have hrep : ∀ i, F.el (List.replicate n F.z) i = F.z := fun i => by
      unfold Ops.el
      rw [List.getD_eq_getElem?_getD, List.getElem?_replicate]
      split <;> rfl
    rw [F.sumN_only (p := j) hj fun i _ hne => by
      show F.mul _ (F.el _ i) = F.z
      rw [el_set, if_neg fun q => hne q.1.symm, hrep, F.mul_z]]
    show F.mul (F.el r j) (F.el _ j) = _
    rw [el_set, if_pos ⟨rfl, by rw [List.length_replicate]; exact hj⟩, F.mul_o]
  unfold Ops.nullv
  rw [hsplit, nset_app]
  show F.dot n (F.fn r) (F.fn (F.nset (R.drop (t + 1)) j ((F.nset (R.take t) j ((List.replicate n F.z).set j F.o)).set (F.lead r) (F.neg (F.el r j))))) = F.z
  rw [nset_dot0 F _ _ fun x hx => (inD x hx).1, hlead, dot_set F _ (by
    rw [nset_out F j p _ _ fun x hx => (inT x hx).2, el_set, if_neg fun q => hjp q.1]
    unfold Ops.el
    rw [List.getD_eq_getElem?_getD, List.getElem?_replicate]
    split <;> rfl) (by rw [nset_len, List.length_set, List.length_replicate]; exact hpn) hpn, nset_dot0 F _ _ fun x hx => (inT x hx).1, hrj]
  show F.add (F.el r j) (F.mul (F.el r p) _) = F.z
  rw [h.one t p r hp ht, F.o_mul, F.add_neg]
/-- Which vectors stand in the null list. -/
theorem nullGo_mem {F : Fld K} {R : List (List K)} {n : Nat} {P : List Nat} (h : Ech F R R.length n P) (hw : Wid n R) : ∀ (m j t : Nat), (∀ (i p : Nat), P[i]? = some p → (i < t ↔ p < j)) → ∀ v, v ∈ F.nullGo n R m j t ↔ ∃ i, j ≤ i ∧ i < j + m ∧ i ∉ P ∧ v = F.nullv n R i
  | 0, j, t, _, v => by
    rw [Ops.nullGo]
    constructor
    · intro q; cases q
    · rintro ⟨i, h1, h2, _⟩; omega
  | m + 1, j, t, hP, v => by
    rw [Ops.nullGo]
    have hpl := h.pl
    split
    · rename_i hc
      have ht : R[t]? = some (R.getD t []) := by rw [List.getD_eq_getElem?_getD, List.getElem?_eq_getElem hc.1]; rfl
      obtain ⟨p, hp, e, _⟩ := h.lead hw ht
      have hpj : p = j := by rw [← e]; exact hc.2
      subst hpj
      rw [nullGo_mem h hw m (p + 1) (t + 1) (fun i q hq => by
        by_cases e1 : i = t
        · subst e1
          rw [hp] at hq; injection hq with hq
          omega
        · have h1 := hP i q hq
          have h2 : q ≠ p := fun e2 => e1 (h.inj (e2 ▸ hq) hp)
          omega)]
      constructor
      · rintro ⟨i, h1, h2, h3, h4⟩; exact ⟨i, by omega, by omega, h3, h4⟩
      · rintro ⟨i, h1, h2, h3, h4⟩
        have : i ≠ p := fun e1 => h3 (e1 ▸ List.mem_of_getElem? hp)
        exact ⟨i, by omega, by omega, h3, h4⟩
    · rename_i hc
      have hjP : j ∉ P := fun hj => by
        obtain ⟨i, hi⟩ := List.getElem?_of_mem hj
        have hil := (List.getElem?_eq_some_iff.1 hi).1
        have h1 := hP i j hi
        have hit : i = t := by
          apply Classical.byContradiction
          intro hne
          have htl : t < P.length := by omega
          have h2 := hP t P[t] (List.getElem?_eq_getElem htl)
          have h3 := List.pairwise_iff_getElem.1 h.asc t i htl hil (by omega)
          have h4 := (List.getElem?_eq_some_iff.1 hi).2
          omega
        subst hit
        refine hc ⟨by omega, ?_⟩
        have ht : R[i]? = some (R.getD i []) := by rw [List.getD_eq_getElem?_getD, List.getElem?_eq_getElem (show i < R.length by omega)]; rfl
        obtain ⟨p, hp, e, _⟩ := h.lead hw ht
        rw [hi] at hp; injection hp with hp
        rw [e, hp]
      rw [List.mem_cons, nullGo_mem h hw m (j + 1) t (fun i q hq => by
        have h1 := hP i q hq
        have h2 : q ≠ j := fun e2 => hjP (e2 ▸ List.mem_of_getElem? hq)
        omega)]
      constructor
      · rintro (q | ⟨i, h1, h2, h3, h4⟩)
        · exact ⟨j, by omega, by omega, hjP, q⟩
        · exact ⟨i, by omega, by omega, h3, h4⟩
      · rintro ⟨i, h1, h2, h3, h4⟩
        by_cases e : i = j
        · subst e; exact .inl h4
        · exact .inr ⟨i, by omega, by omega, h3, h4⟩
theorem nullL_mem {F : Fld K} {R : List (List K)} {n : Nat} {P : List Nat} (h : Ech F R R.length n P) (hw : Wid n R) (v : List K) : v ∈ F.nullL n R ↔ ∃ i, i < n ∧ i ∉ P ∧ v = F.nullv n R i := by
  unfold Ops.nullL
  rw [nullGo_mem h hw n 0 0 fun i p _ => by omega]
  constructor
  · rintro ⟨i, h1, h2, h3, h4⟩; exact ⟨i, by omega, h3, h4⟩
  · rintro ⟨i, h1, h3, h4⟩; exact ⟨i, by omega, by omega, h3, h4⟩
theorem ker_zero {F : Fld K} {R : List (List K)} {n : Nat} {P : List Nat} (h : Ech F R R.length n P) {u : Nat → K} (hu : Ker F n (F.fns R) u) (h0 : ∀ j, j < n → j ∉ P → u j = F.z) (j : Nat) : u j = F.z := by
  by_cases hj : j < n
  · by_cases hP : j ∈ P
    · obtain ⟨t, ht⟩ := List.getElem?_of_mem hP
      have htl := (List.getElem?_eq_some_iff.1 ht).1
      have hpl := h.pl
      have hr : R[t]? = some (R[t]'(by omega)) := List.getElem?_eq_getElem _
      have := hu.2 _ (List.mem_map.2 ⟨_, List.mem_of_getElem? hr, rfl⟩)
      unfold Fld.dot at this
      rw [F.sumN_only (p := j) hj fun i hi hne => by
        by_cases hiP : i ∈ P
        · obtain ⟨t', ht'⟩ := List.getElem?_of_mem hiP
          show F.mul (F.el _ i) _ = F.z
          rw [h.zer t' t i _ ht' hr fun e => by subst e; rw [ht] at ht'; injection ht' with q; exact hne q.symm, F.z_mul]
        · rw [h0 i hi hiP, F.mul_z]] at this
      rw [show F.fn R[t] j = F.o from h.one t j _ ht hr, F.o_mul] at this
      exact this
    · exact h0 j hj hP
  · exact hu.1 j (by omega)
/-- The null list spans the kernel. -/
theorem nullL_span {F : Fld K} {R : List (List K)} {n : Nat} {P : List Nat} (h : Ech F R R.length n P) (hw : Wid n R) (k : Nat → K) : Sp F (F.fns (F.nullL n R)) k ↔ Ker F n (F.fns R) k := by
  constructor
  · refine Ker.sp fun q hq => ?_
    obtain ⟨v, hv, rfl⟩ := List.mem_map.1 hq
    obtain ⟨i, hi, hP, rfl⟩ := (nullL_mem h hw v).1 hv
    exact nullv_ker h hw hi hP
  · intro hk
    have : ∀ t, t ≤ n → ∃ x, Sp F (F.fns (F.nullL n R)) x ∧ ∀ j, j < t → j ∉ P → F.add (k j) (F.mul (F.neg F.o) (x j)) = F.z := by
      intro t
      induction t with
      | zero => intro _; exact ⟨F.vz, Sp.zero F _, fun j hj => by omega⟩
      | succ t ih =>
        intro ht
        obtain ⟨x, hx, hz⟩ := ih (by omega)
        by_cases hP : t ∈ P
        · exact ⟨x, hx, fun j hj hjP => hz j (by have : j ≠ t := fun e => hjP (e ▸ hP); omega) hjP⟩
        · refine ⟨F.va x (F.vs (F.add (k t) (F.mul (F.neg F.o) (x t))) (F.fn (F.nullv n R t))), hx.step (List.mem_map.2 ⟨_, (nullL_mem h hw _).2 ⟨t, by omega, hP, rfl⟩, rfl⟩) _, fun j hj hjP => ?_⟩
          show F.add (k j) (F.mul (F.neg F.o) (F.add (x j) (F.mul _ (F.el (F.nullv n R t) j)))) = F.z
          rw [nullv_at h hw (by omega) hjP]
          by_cases e : j = t
          · subst e
            rw [if_pos rfl, F.mul_o, F.distrib, ← F.add_assoc, F.neg_mul F.o (F.add _ _), F.o_mul, F.add_neg]
          · rw [if_neg e, F.mul_z, F.add_z]
            exact hz j (by omega) hjP
    obtain ⟨x, hx, hz⟩ := this n (Nat.le_refl n)
    have hxk : Ker F n (F.fns R) x := Ker.sp (fun q hq => by
      obtain ⟨v, hv, rfl⟩ := List.mem_map.1 hq
      obtain ⟨i, hi, hP, rfl⟩ := (nullL_mem h hw v).1 hv
      exact nullv_ker h hw hi hP) hx
    have h0 := ker_zero h (hk.step hxk (F.neg F.o)) fun j hj hP => hz j hj hP
    have : k = x := funext fun j => by
      have e : F.add (k j) (F.mul (F.neg F.o) (x j)) = F.z := h0 j
      rw [F.neg_mul, F.o_mul] at e
      rw [F.neg_of e, F.neg_neg]
    rw [this]
    exact hx
end Go.Proofs.YtpeogfapnofeoaaGreatDoor
namespace Go.Proofs.YtpeogfapnofeoaaGreatDoor
set_option maxRecDepth 100000
variable {K : Type}
def Ops.unit (O : Ops K) (s i : Nat) : List K := (List.replicate s O.z).set i O.o
theorem unit_len (O : Ops K) (s i : Nat) : (O.unit s i).length = s := by
  unfold Ops.unit
  rw [List.length_set, List.length_replicate]
theorem el_rep (F : Fld K) (s i : Nat) : F.el (List.replicate s F.z) i = F.z := by
  unfold Ops.el
  rw [List.getD_eq_getElem?_getD, List.getElem?_replicate]
  split <;> rfl
theorem el_unit (F : Fld K) {s i : Nat} (hi : i < s) (j : Nat) : F.el (F.unit s i) j = if j = i then F.o else F.z := by
  unfold Ops.unit
  rw [el_set]
  by_cases e : i = j
  · rw [if_pos ⟨e, by rw [List.length_replicate]; omega⟩, if_pos e.symm]
  · rw [if_neg fun q => e q.1, if_neg fun q => e q.symm, el_rep]
theorem el_app (F : Fld K) (a b : List K) (j : Nat) : F.el (a ++ b) j = if j < a.length then F.el a j else F.el b (j - a.length) := by
  unfold Ops.el
  rw [List.getD_eq_getElem?_getD, List.getElem?_append]
  split <;> rw [List.getD_eq_getElem?_getD]
theorem el_drop (F : Fld K) (a : List K) (n j : Nat) : F.el (a.drop n) j = F.el a (n + j) := by
  unfold Ops.el
  rw [List.getD_eq_getElem?_getD, List.getElem?_drop, List.getD_eq_getElem?_getD]
theorem el_take (F : Fld K) (a : List K) (n j : Nat) : F.el (a.take n) j = if j < n then F.el a j else F.z := by
  unfold Ops.el
  rw [List.getD_eq_getElem?_getD, List.getElem?_take]
  split
  · rw [List.getD_eq_getElem?_getD]
  · rfl
def Ops.beside (O : Ops K) (rows : List (List K)) : List (List K) := rows.mapIdx fun i r => r ++ O.unit rows.length i
theorem beside_len (O : Ops K) (rows : List (List K)) : (O.beside rows).length = rows.length := by simp [Ops.beside]
theorem beside_at (O : Ops K) (rows : List (List K)) (i : Nat) : (O.beside rows)[i]? = (rows[i]?).map fun r => r ++ O.unit rows.length i := by
  unfold Ops.beside
  rw [List.getElem?_mapIdx]
theorem beside_wid {O : Ops K} {n : Nat} {rows : List (List K)} (h : Wid n rows) : Wid (n + rows.length) (O.beside rows) := fun v hv => by
  obtain ⟨i, hi⟩ := List.getElem?_of_mem hv
  rw [beside_at] at hi
  cases hr : rows[i]? with
  | none => rw [hr] at hi; cases hi
  | some r =>
    rw [hr] at hi; injection hi with hi
    rw [← hi, List.length_append, unit_len, h r (List.mem_of_getElem? hr)]
def Ops.kerL (O : Ops K) (n : Nat) (rows : List (List K)) : List (List K) := ((O.red n 0 0 (O.beside rows)).1.drop (O.red n 0 0 (O.beside rows)).2).map (List.drop n)
/-- The columns. -/
def Ops.tr (O : Ops K) (n : Nat) (rows : List (List K)) : List (Nat → K) := (List.range n).map fun j i => O.el (rows.getD i []) j
theorem beside_span {F : Fld K} {n : Nat} {rows : List (List K)} (hw : Wid n rows) {v : Nat → K} (hv : Sp F (F.fns (F.beside rows)) v) : (∀ j, n + rows.length ≤ j → v j = F.z) ∧ ∀ j, j < n → v j = F.sumN rows.length fun i => F.mul (F.el (rows.getD i []) j) (v (n + i)) := by
  refine hv (fun v => (∀ j, n + rows.length ≤ j → v j = F.z) ∧ ∀ j, j < n → v j = F.sumN rows.length fun i => F.mul (F.el (rows.getD i []) j) (v (n + i))) ⟨fun _ _ => rfl, fun j _ => (F.sumN_zero fun i _ => F.mul_z _).symm⟩ ?_
  rintro u ⟨h1, h2⟩ r hr c
  obtain ⟨z, hz, rfl⟩ := List.mem_map.1 hr
  obtain ⟨i, hi⟩ := List.getElem?_of_mem hz
  rw [beside_at] at hi
  cases hri : rows[i]? with
  | none => rw [hri] at hi; cases hi
  | some r =>
    rw [hri] at hi; injection hi with hi
    have hrl := hw r (List.mem_of_getElem? hri)
    have hil := (List.getElem?_eq_some_iff.1 hri).1
    have hzl : z.length = n + rows.length := by rw [← hi, List.length_append, unit_len, hrl]
    refine ⟨fun j hj => ?_, fun j hj => ?_⟩
    · show F.add (u j) (F.mul c (F.el z j)) = F.z
      rw [h1 j hj, Ops.el_out _ (by omega), F.mul_z, F.z_add]
    · have e0 : F.el z j = F.el r j := by rw [← hi, el_app, if_pos (by omega)]
      show F.add (u j) (F.mul c (F.el z j)) = F.sumN rows.length fun i => F.mul (F.el (rows.getD i []) j) (F.add (u (n + i)) (F.mul c (F.el z (n + i))))
      rw [h2 j hj, e0]
      symm
      refine F.sumN_upd (p := i) ?_ hil fun t ht hne => ?_
      · rw [show F.el z (n + i) = F.o by rw [← hi, el_app, if_neg (by omega), hrl, Nat.add_sub_cancel_left, el_unit F hil, if_pos rfl], F.mul_o, F.distrib, F.mul_comm _ c, show rows.getD i [] = r by rw [List.getD_eq_getElem?_getD, hri]; rfl]
      · rw [show F.el z (n + t) = F.z by rw [← hi, el_app, if_neg (by omega), hrl, Nat.add_sub_cancel_left, el_unit F hil, if_neg hne], F.mul_z, F.add_z]
theorem beside_of {F : Fld K} {n : Nat} {rows : List (List K)} (hw : Wid n rows) {v : Nat → K} (h1 : ∀ j, n + rows.length ≤ j → v j = F.z) (h2 : ∀ j, j < n → v j = F.sumN rows.length fun i => F.mul (F.el (rows.getD i []) j) (v (n + i))) : Sp F (F.fns (F.beside rows)) v := by
  have hs : Sp F (F.fns (F.beside rows)) (fun j => F.sumN rows.length fun i => F.vs (v (n + i)) (F.fn ((F.beside rows).getD i [])) j) := by
    refine Sp.sumN (g := fun i => F.vs (v (n + i)) (F.fn ((F.beside rows).getD i []))) fun i hi => Sp.smul (Sp.mem (List.mem_map.2 ⟨_, ?_, rfl⟩)) _
    rw [List.getD_eq_getElem?_getD, List.getElem?_eq_getElem (show i < (F.beside rows).length by rw [beside_len]; exact hi)]
    exact List.getElem_mem _
  have hz : ∀ i, i < rows.length → (F.beside rows).getD i [] = rows.getD i [] ++ F.unit rows.length i ∧ (rows.getD i []).length = n := fun i hi => by
    rw [List.getD_eq_getElem?_getD, beside_at, List.getElem?_eq_getElem hi, List.getD_eq_getElem?_getD, List.getElem?_eq_getElem hi]
    exact ⟨rfl, hw _ (List.getElem_mem _)⟩
  have e : v = fun j => F.sumN rows.length fun i => F.vs (v (n + i)) (F.fn ((F.beside rows).getD i [])) j := funext fun j => by
    by_cases hj : j < n
    · rw [h2 j hj]
      refine F.sumN_congr fun i hi => ?_
      show _ = F.mul (v (n + i)) (F.el ((F.beside rows).getD i []) j)
      rw [(hz i hi).1, el_app, if_pos (by rw [(hz i hi).2]; exact hj), F.mul_comm]
    · by_cases hj2 : j < n + rows.length
      · rw [F.sumN_only (p := j - n) (by omega) fun i hi hne => by
          show F.mul (v (n + i)) (F.el ((F.beside rows).getD i []) j) = F.z
          rw [(hz i hi).1, el_app, if_neg (by rw [(hz i hi).2]; exact hj), (hz i hi).2, el_unit F hi, if_neg (by omega), F.mul_z]]
        show _ = F.mul (v (n + (j - n))) (F.el ((F.beside rows).getD (j - n) []) j)
        rw [(hz (j - n) (by omega)).1, el_app, if_neg (by rw [(hz (j - n) (by omega)).2]; exact hj), (hz (j - n) (by omega)).2, el_unit F (by omega), if_pos rfl, F.mul_o, show n + (j - n) = j by omega]
      · rw [h1 j (by omega), F.sumN_zero fun i hi => ?_]
        show F.mul _ (F.el ((F.beside rows).getD i []) j) = F.z
        rw [Ops.el_out _ (by rw [(hz i hi).1, List.length_append, unit_len, (hz i hi).2]; omega), F.mul_z]
  rw [e]
  exact hs
/-- The unit rows beside what has become zero span the kernel. -/
theorem kerL_span {F : Fld K} {n : Nat} {rows : List (List K)} (hw : Wid n rows) (k : Nat → K) : Sp F (F.fns (F.kerL n rows)) k ↔ Ker F rows.length (F.tr n rows) k := by
  obtain ⟨P, hE, hW⟩ := Ech.red (F := F) n 0 0 (F.beside rows) [] (beside_wid hw) (Ech.start F _)
  rw [Nat.zero_add] at hE
  have hsp := red_span (F := F) n 0 0 (F.beside rows) (beside_wid hw)
  have hk : F.fns (F.kerL n rows) = (F.fns ((F.red n 0 0 (F.beside rows)).1.drop (F.red n 0 0 (F.beside rows)).2)).map fun v j => v (n + j) := by
    unfold Ops.kerL Ops.fns
    rw [List.map_map, List.map_map]
    refine List.map_congr_left fun v _ => funext fun j => ?_
    exact el_drop F v n j
  constructor
  · refine Ker.sp fun q hq => ?_
    rw [hk] at hq
    obtain ⟨u, hu, rfl⟩ := List.mem_map.1 hq
    obtain ⟨z, hz, rfl⟩ := List.mem_map.1 hu
    have hz1 := List.mem_of_mem_drop hz
    obtain ⟨h1, h2⟩ := beside_span hw ((hsp _).1 (Sp.mem (List.mem_map.2 ⟨z, hz1, rfl⟩)))
    refine ⟨fun j hj => h1 _ (by omega), fun a ha => ?_⟩
    obtain ⟨j, hj, rfl⟩ := List.mem_map.1 ha
    rw [List.mem_range] at hj
    have := h2 j hj
    unfold Fld.dot
    rw [← this]
    obtain ⟨i, hi⟩ := List.getElem?_of_mem hz
    rw [List.getElem?_drop] at hi
    exact hE.low _ z (by omega) hi j hj
  · intro hKer
    have hv : Sp F (F.fns (F.beside rows)) (fun j => if j < n then F.z else k (j - n)) := by
      refine beside_of hw (fun j hj => ?_) fun j hj => ?_
      · rw [if_neg (by omega)]
        exact hKer.1 _ (by omega)
      · rw [if_pos hj]
        have := hKer.2 _ (List.mem_map.2 ⟨j, List.mem_range.2 hj, rfl⟩)
        rw [← this]
        refine F.sumN_congr fun i _ => ?_
        rw [if_neg (by omega), Nat.add_sub_cancel_left]
    have hl := hE.low_span ((hsp _).2 hv) fun j hj => by rw [if_pos hj]
    have := hl.map (φ := fun v j => v (n + j)) rfl fun u r c => rfl
    rw [hk]
    refine Eq.mp (congrArg _ (funext fun j => ?_)) this
    show (if n + j < n then F.z else k (n + j - n)) = k j
    rw [if_neg (by omega), Nat.add_sub_cancel_left]
/-- A linear combination of rows. -/
def Ops.cmb (O : Ops K) (w : Nat) (k : List K) (R : List (List K)) : List K := (k.zip R).foldl (fun v q => O.less v (O.neg q.1) q.2) (List.replicate w O.z)
theorem cmb_take (F : Fld K) {w : Nat} {k : List K} {R : List (List K)} (hR : Wid w R) (hl : k.length = R.length) : ∀ m, m ≤ R.length → (((k.zip R).take m).foldl (fun v q => F.less v (F.neg q.1) q.2) (List.replicate w F.z)).length = w ∧ ∀ j, F.el (((k.zip R).take m).foldl (fun v q => F.less v (F.neg q.1) q.2) (List.replicate w F.z)) j = F.sumN m fun i => F.mul (F.el k i) (F.el (R.getD i []) j)
  | 0, _ => ⟨by simp, fun j => el_rep F w j⟩
  | m + 1, hm => by
    obtain ⟨h1, h2⟩ := cmb_take F hR hl m (by omega)
    have hz : (k.zip R)[m]? = some (k[m]'(by omega), R[m]'(by omega)) := by
      rw [List.getElem?_zip_eq_some]
      exact ⟨List.getElem?_eq_getElem _, List.getElem?_eq_getElem _⟩
    rw [List.take_add_one, hz, Option.toList_some, List.foldl_append]
    have hRl : (R[m]'(by omega)).length = w := hR _ (List.getElem_mem _)
    refine ⟨less_len F.toOps h1 hRl _, fun j => ?_⟩
    show F.el (F.less _ (F.neg k[m]) R[m]) j = _
    rw [el_less F (by rw [h1, hRl]), h2, F.neg_neg, Fld.sumN, Ops.el_in F.toOps (v := k) (List.getElem?_eq_getElem (show m < k.length by omega)), List.getD_eq_getElem?_getD, List.getElem?_eq_getElem (show m < R.length by omega)]; rfl
theorem cmb_len (F : Fld K) {w : Nat} {k : List K} {R : List (List K)} (hR : Wid w R) (hl : k.length = R.length) : (F.cmb w k R).length = w := by
  have := (cmb_take F hR hl R.length (Nat.le_refl _)).1
  rwa [List.take_of_length_le (by rw [List.length_zip]; omega)] at this
theorem cmb_el (F : Fld K) {w : Nat} {k : List K} {R : List (List K)} (hR : Wid w R) (hl : k.length = R.length) (j : Nat) : F.el (F.cmb w k R) j = F.sumN R.length fun i => F.mul (F.el k i) (F.el (R.getD i []) j) := by
  have := (cmb_take F hR hl R.length (Nat.le_refl _)).2 j
  rwa [List.take_of_length_le (by rw [List.length_zip]; omega)] at this
/-- The pair that a vector of the kernel makes. -/
def Ops.cmpR (O : Ops K) (la mid rb : Nat) (A B : List (List K)) (k : List K) : List K := (O.cmb (la + mid) (k.take A.length) A).take la ++ (O.cmb (mid + rb) (k.drop A.length) B).drop mid
theorem cmpR_len (F : Fld K) {la mid rb : Nat} {A B : List (List K)} (hA : Wid (la + mid) A) (hB : Wid (mid + rb) B) {k : List K} (hk : k.length = A.length + B.length) : (F.cmpR la mid rb A B k).length = la + rb := by
  unfold Ops.cmpR
  rw [List.length_append, List.length_take, List.length_drop, cmb_len F hA (by rw [List.length_take]; omega), cmb_len F hB (by rw [List.length_drop]; omega)]
  omega
/-- Two lists that span the same make pairs that span the same. -/
theorem cmp_same (F : Fld K) {la mid rb : Nat} {A B N N' : List (List K)} (hA : Wid (la + mid) A) (hB : Wid (mid + rb) B) (hN : Wid (A.length + B.length) N) (hN' : Wid (A.length + B.length) N') (hs : ∀ v, Sp F (F.fns N) v ↔ Sp F (F.fns N') v) :
    F.rref (la + rb) (N.map (F.cmpR la mid rb A B)) = F.rref (la + rb) (N'.map (F.cmpR la mid rb A B)) := by
  have hm : ∀ N : List (List K), Wid (A.length + B.length) N → F.fns (N.map (F.cmpR la mid rb A B)) = (F.fns N).map fun c j => if j < la then F.sumN A.length (fun i => F.mul (c i) (F.el (A.getD i []) j)) else F.sumN B.length (fun i => F.mul (c (A.length + i)) (F.el (B.getD i []) (mid + (j - la)))) := fun N hN => by
    unfold Ops.fns
    rw [List.map_map, List.map_map]
    refine List.map_congr_left fun k hk => funext fun j => ?_
    have hkl := hN k hk
    show F.el (F.cmpR la mid rb A B k) j = if j < la then F.sumN A.length (fun i => F.mul (F.el k i) (F.el (A.getD i []) j)) else F.sumN B.length (fun i => F.mul (F.el k (A.length + i)) (F.el (B.getD i []) (mid + (j - la))))
    unfold Ops.cmpR
    have hta : (k.take A.length).length = A.length := by rw [List.length_take]; omega
    have htb : (k.drop A.length).length = B.length := by rw [List.length_drop]; omega
    rw [el_app, show ((F.cmb (la + mid) (k.take A.length) A).take la).length = la by rw [List.length_take, cmb_len F hA hta]; omega]
    split
    · rename_i hj
      rw [el_take, if_pos hj, cmb_el F hA hta]
      refine F.sumN_congr fun i hi => ?_
      rw [el_take, if_pos hi]
    · rw [el_drop, cmb_el F hB htb]
      refine F.sumN_congr fun i hi => ?_
      rw [el_drop]
  have hw : ∀ N : List (List K), Wid (A.length + B.length) N → Wid (la + rb) (N.map (F.cmpR la mid rb A B)) := fun N hN v hv => by
    obtain ⟨k, hk, rfl⟩ := List.mem_map.1 hv
    exact cmpR_len F hA hB (hN k hk)
  refine rref_of_span F (hw N hN) (hw N' hN') fun v => ?_
  rw [hm N hN, hm N' hN']
  refine Sp.map_same (funext fun j => ?_) (fun u r c => funext fun j => ?_) hs v
  · show (if j < la then _ else _) = F.z
    split
    · exact F.sumN_zero fun _ _ => F.z_mul _
    · exact F.sumN_zero fun _ _ => F.z_mul _
  · show (if j < la then _ else _) = F.add (if j < la then _ else _) (F.mul c (if j < la then _ else _))
    split
    · rw [← F.sumN_mul, ← F.sumN_add]
      refine F.sumN_congr fun i _ => ?_
      show F.mul (F.add (u i) (F.mul c (r i))) _ = _
      rw [F.distrib_r, F.mul_assoc]
    · rw [← F.sumN_mul, ← F.sumN_add]
      refine F.sumN_congr fun i _ => ?_
      show F.mul (F.add (u _) (F.mul c (r _))) _ = _
      rw [F.distrib_r, F.mul_assoc]
end Go.Proofs.YtpeogfapnofeoaaGreatDoor
namespace Go.Proofs.YtpeogfapnofeoaaGreatDoor
set_option maxRecDepth 100000
variable {K : Type}
theorem nullL_wid {O : Ops K} (n : Nat) (R : List (List K)) : Wid n (O.nullL n R) := by
  have : ∀ (m j t : Nat), Wid n (O.nullGo n R m j t) := by
    intro m
    induction m with
    | zero => intro j t v hv; cases hv
    | succ m ih =>
      intro j t v hv
      rw [Ops.nullGo] at hv
      split at hv
      · exact ih _ _ v hv
      · rcases List.mem_cons.1 hv with e | hv
        · rw [e]; exact nullv_len O n R j
        · exact ih _ _ v hv
  exact this n 0 0
theorem kerL_wid {F : Fld K} {n : Nat} {rows : List (List K)} (hw : Wid n rows) : Wid rows.length (F.kerL n rows) := fun v hv => by
  obtain ⟨P, _, hW⟩ := Ech.red (F := F) n 0 0 (F.beside rows) [] (beside_wid hw) (Ech.start F _)
  obtain ⟨z, hz, rfl⟩ := List.mem_map.1 hv
  rw [List.length_drop, hW z (List.mem_of_mem_drop hz)]
  omega
theorem rref_wid {F : Fld K} {n : Nat} {rows : List (List K)} (hw : Wid n rows) : Wid n (F.rref n rows) := (rref_is F hw).1
theorem ker_same {F : Fld K} {n s : Nat} {M rows : List (List K)} (hM : Wid s M) (hw : Wid n rows) (hs : rows.length = s) (hl : M.length = n) (he : ∀ j i, j < n → i < s → F.el (M.getD j []) i = F.el (rows.getD i []) j) (v : Nat → K) : Sp F (F.fns (F.rref s (F.nullL s (F.rref s M)))) v ↔ Sp F (F.fns (F.kerL n rows)) v := by
  obtain ⟨hRw, P, hE⟩ := rref_is F hM
  rw [rref_span F (nullL_wid s _), nullL_span hE hRw, kerL_span hw, Ker.same (rref_span F hM), hs]
  have hd : ∀ (j : Nat) (k : Nat → K), j < n → F.dot s (F.fn (M.getD j [])) k = F.dot s (fun i => F.el (rows.getD i []) j) k := fun j k hj => F.sumN_congr fun i hi => by
    show F.mul (F.el _ i) _ = _
    rw [he j i hj hi]
  constructor
  · rintro ⟨h1, h2⟩
    refine ⟨h1, fun a ha => ?_⟩
    obtain ⟨j, hj, rfl⟩ := List.mem_map.1 ha
    rw [List.mem_range] at hj
    rw [← hd j v hj]
    refine h2 _ (List.mem_map.2 ⟨_, ?_, rfl⟩)
    rw [List.getD_eq_getElem?_getD, List.getElem?_eq_getElem (show j < M.length by omega)]
    exact List.getElem_mem _
  · rintro ⟨h1, h2⟩
    refine ⟨h1, fun a ha => ?_⟩
    obtain ⟨u, hu, rfl⟩ := List.mem_map.1 ha
    obtain ⟨j, hj⟩ := List.getElem?_of_mem hu
    have hjl := (List.getElem?_eq_some_iff.1 hj).1
    have := hd j v (by omega)
    rw [List.getD_eq_getElem?_getD, hj, Option.getD_some] at this
    rw [this]
    exact h2 _ (List.mem_map.2 ⟨j, List.mem_range.2 (by omega), rfl⟩)
def Ops.midS (O : Ops K) (la mid : Nat) (A B : List (List K)) : List (List K) := (List.range mid).map fun j => A.map (fun r => O.el r (la + j)) ++ B.map (fun r => O.neg (O.el r j))
def Ops.midI (O : Ops K) (la mid : Nat) (A B : List (List K)) : List (List K) := A.map (List.drop la) ++ B.map (fun r => (r.take mid).map O.neg)
def Ops.cmpS (O : Ops K) (la mid rb : Nat) (A B : List (List K)) : List (List K) := O.rref (la + rb) ((O.rref (A.length + B.length) (O.nullL (A.length + B.length) (O.rref (A.length + B.length) (O.midS la mid A B)))).map (O.cmpR la mid rb A B))
def Ops.cmpI (O : Ops K) (la mid rb : Nat) (A B : List (List K)) : List (List K) := O.rref (la + rb) ((O.kerL mid (O.midI la mid A B)).map (O.cmpR la mid rb A B))
theorem el_mapneg (F : Fld K) (v : List K) (j : Nat) : F.el (v.map F.neg) j = F.neg (F.el v j) := by
  unfold Ops.el
  rw [List.getD_eq_getElem?_getD, List.getD_eq_getElem?_getD, List.getElem?_map]
  cases v[j]? with
  | none => exact F.neg_z.symm
  | some x => rfl
/-- Both ways to compose give the same reduced list. -/
theorem cmp_eq (F : Fld K) {la mid rb : Nat} {A B : List (List K)} (hA : Wid (la + mid) A) (hB : Wid (mid + rb) B) : F.cmpS la mid rb A B = F.cmpI la mid rb A B := by
  have hI : Wid mid (F.midI la mid A B) := fun v hv => by
    rcases List.mem_append.1 hv with hv | hv
    · obtain ⟨r, hr, rfl⟩ := List.mem_map.1 hv
      rw [List.length_drop, hA r hr]; omega
    · obtain ⟨r, hr, rfl⟩ := List.mem_map.1 hv
      rw [List.length_map, List.length_take, hB r hr]; omega
  have hS : Wid (A.length + B.length) (F.midS la mid A B) := fun v hv => by
    obtain ⟨j, _, rfl⟩ := List.mem_map.1 hv
    rw [List.length_append, List.length_map, List.length_map]
  have hIl : (F.midI la mid A B).length = A.length + B.length := by unfold Ops.midI; rw [List.length_append, List.length_map, List.length_map]
  refine cmp_same F hA hB (rref_wid (nullL_wid _ _)) (hIl ▸ kerL_wid hI) (ker_same hS hI hIl (by unfold Ops.midS; rw [List.length_map, List.length_range]) fun j i hj hi => ?_)
  have e1 : (F.midS la mid A B).getD j [] = A.map (fun r => F.el r (la + j)) ++ B.map (fun r => F.neg (F.el r j)) := by
    unfold Ops.midS
    rw [List.getD_eq_getElem?_getD, List.getElem?_map, List.getElem?_range hj]; rfl
  rw [e1, el_app, List.length_map]
  unfold Ops.midI
  split
  · rename_i hia
    rw [Ops.el_in F.toOps (x := F.el (A[i]'hia) (la + j)) (by rw [List.getElem?_map, List.getElem?_eq_getElem hia]; rfl), List.getD_eq_getElem?_getD, List.getElem?_append_left (by rw [List.length_map]; exact hia), List.getElem?_map, List.getElem?_eq_getElem hia]
    exact (el_drop F _ la j).symm
  · rename_i hia
    have hib : i - A.length < B.length := by omega
    rw [Ops.el_in F.toOps (x := F.neg (F.el (B[i - A.length]'hib) j)) (by rw [List.getElem?_map, List.getElem?_eq_getElem hib]; rfl), List.getD_eq_getElem?_getD, List.getElem?_append_right (by rw [List.length_map]; omega), List.length_map, List.getElem?_map, List.getElem?_eq_getElem hib]
    show _ = F.el ((B[i - A.length].take mid).map F.neg) j
    rw [el_mapneg, el_take, if_pos hj]
variable {A : Type} {O : Ops K} {O' : Ops A} {f : K → A}
theorem Hom.reps (h : Hom O O' f) (n : Nat) : List.replicate n O'.z = (List.replicate n O.z).map f := by rw [List.map_replicate, h.z]
theorem Hom.unit (h : Hom O O' f) (s i : Nat) : O'.unit s i = (O.unit s i).map f := by
  unfold Ops.unit
  rw [h.reps, h.o, List.map_set]
theorem Hom.beside (h : Hom O O' f) (rows : List (List K)) : O'.beside (mp2 f rows) = mp2 f (O.beside rows) := by
  unfold Ops.beside
  refine List.ext_getElem? fun i => ?_
  rw [List.getElem?_mapIdx, List.getElem?_map, List.getElem?_map, List.getElem?_mapIdx, Option.map_map, Option.map_map, List.length_map]
  congr 1
  funext v
  show v.map f ++ O'.unit _ _ = (v ++ O.unit _ _).map f
  rw [h.unit, List.map_append]
theorem Hom.kerL (h : Hom O O' f) (n : Nat) (rows : List (List K)) : O'.kerL n (mp2 f rows) = mp2 f (O.kerL n rows) := by
  unfold Ops.kerL
  rw [h.beside, h.red]
  show List.map _ (List.drop _ (List.map _ _)) = List.map _ (List.map _ _)
  rw [← List.map_drop, List.map_map, List.map_map]
  exact List.map_congr_left fun v _ => List.map_drop.symm
theorem Hom.nset (h : Hom O O' f) (j : Nat) : ∀ (R : List (List K)) (v : List K), O'.nset (mp2 f R) j (v.map f) = (O.nset R j v).map f
  | [], _ => rfl
  | r :: R, v => by
    show O'.nset (mp2 f R) j ((v.map f).set (O'.lead (r.map f)) (O'.neg (O'.el (r.map f) j))) = (O.nset R j (v.set (O.lead r) (O.neg (O.el r j)))).map f
    rw [h.lead, h.el, h.neg, ← List.map_set, Hom.nset h j R]
theorem Hom.nullv (h : Hom O O' f) (s : Nat) (R : List (List K)) (j : Nat) : O'.nullv s (mp2 f R) j = (O.nullv s R j).map f := by
  unfold Ops.nullv
  rw [h.reps, h.o, ← List.map_set, h.nset]
theorem Hom.nullGo (h : Hom O O' f) (s : Nat) (R : List (List K)) : ∀ (m j t : Nat), O'.nullGo s (mp2 f R) m j t = mp2 f (O.nullGo s R m j t)
  | 0, _, _ => rfl
  | m + 1, j, t => by
    rw [Ops.nullGo, Ops.nullGo, getD_mp2, h.lead, List.length_map, Hom.nullGo h s R m, Hom.nullGo h s R m, h.nullv]
    split <;> rfl
theorem Hom.nullL (h : Hom O O' f) (s : Nat) (R : List (List K)) : O'.nullL s (mp2 f R) = mp2 f (O.nullL s R) := h.nullGo s R s 0 0
theorem Hom.cmb (h : Hom O O' f) (w : Nat) (k : List K) (R : List (List K)) : O'.cmb w (k.map f) (mp2 f R) = (O.cmb w k R).map f := by
  unfold Ops.cmb
  rw [h.reps, List.zip_map]
  have : ∀ (l : List (K × List K)) (v : List K), (l.map (Prod.map f (List.map f))).foldl (fun v q => O'.less v (O'.neg q.1) q.2) (v.map f) = (l.foldl (fun v q => O.less v (O.neg q.1) q.2) v).map f := by
    intro l
    induction l with
    | nil => intro v; rfl
    | cons q l ih =>
      intro v
      show (l.map _).foldl _ (O'.less (v.map f) (O'.neg (f q.1)) (q.2.map f)) = _
      rw [h.neg, h.less, ih]; rfl
  exact this _ _
theorem Hom.cmpR (h : Hom O O' f) (la mid rb : Nat) (a b : List (List K)) (k : List K) : O'.cmpR la mid rb (mp2 f a) (mp2 f b) (k.map f) = (O.cmpR la mid rb a b k).map f := by
  unfold Ops.cmpR
  rw [List.length_map, ← List.map_take, ← List.map_drop, h.cmb, h.cmb, ← List.map_take, ← List.map_drop, List.map_append]
theorem Hom.cmpRs (h : Hom O O' f) (la mid rb : Nat) (a b N : List (List K)) : (mp2 f N).map (O'.cmpR la mid rb (mp2 f a) (mp2 f b)) = mp2 f (N.map (O.cmpR la mid rb a b)) := by
  show _ = List.map _ (List.map _ _)
  rw [List.map_map, List.map_map]
  exact List.map_congr_left fun k _ => h.cmpR la mid rb a b k
theorem Hom.midS (h : Hom O O' f) (la mid : Nat) (a b : List (List K)) : O'.midS la mid (mp2 f a) (mp2 f b) = mp2 f (O.midS la mid a b) := by
  unfold Ops.midS
  show _ = List.map _ (List.map _ _)
  rw [List.map_map]
  refine List.map_congr_left fun j _ => ?_
  show _ = List.map f (_ ++ _)
  rw [List.map_append, List.map_map, List.map_map, List.map_map, List.map_map]
  congr 1
  · exact List.map_congr_left fun r _ => h.el r _
  · refine List.map_congr_left fun r _ => ?_
    show O'.neg (O'.el (r.map f) j) = f (O.neg (O.el r j))
    rw [h.el, h.neg]
theorem Hom.midI (h : Hom O O' f) (la mid : Nat) (a b : List (List K)) : O'.midI la mid (mp2 f a) (mp2 f b) = mp2 f (O.midI la mid a b) := by
  unfold Ops.midI
  show _ = List.map _ (_ ++ _)
  rw [List.map_append, List.map_map, List.map_map, List.map_map, List.map_map]
  congr 1
  · exact List.map_congr_left fun r _ => List.map_drop.symm
  · refine List.map_congr_left fun r _ => ?_
    show ((r.map f).take mid).map O'.neg = ((r.take mid).map O.neg).map f
    rw [← List.map_take, List.map_map, List.map_map]
    exact List.map_congr_left fun x _ => h.neg x
theorem Hom.cmpS (h : Hom O O' f) (la mid rb : Nat) (a b : List (List K)) : O'.cmpS la mid rb (mp2 f a) (mp2 f b) = mp2 f (O.cmpS la mid rb a b) := by
  unfold Ops.cmpS
  rw [List.length_map, List.length_map, h.midS, h.rref, h.nullL, h.rref (a.length + b.length), h.cmpRs, h.rref]
theorem Hom.cmpI (h : Hom O O' f) (la mid rb : Nat) (a b : List (List K)) : O'.cmpI la mid rb (mp2 f a) (mp2 f b) = mp2 f (O.cmpI la mid rb a b) := by
  unfold Ops.cmpI
  rw [h.midI, h.kerL, h.cmpRs, h.rref]
end Go.Proofs.YtpeogfapnofeoaaGreatDoor
namespace Go.Proofs.YtpeogfapnofeoaaGreatDoor
set_option maxRecDepth 100000
variable {K : Type}
/-- u less v. -/
def Fld.vd (F : Fld K) (u v : Nat → K) : Nat → K := F.va u (F.vs (F.neg F.o) v)
theorem Fld.vd_add (F : Fld K) (u v : Nat → K) : F.va (F.vd u v) v = u := funext fun j => by
  show F.add (F.add (u j) (F.mul (F.neg F.o) (v j))) (v j) = u j
  rw [F.add_assoc, F.neg_mul, F.o_mul, F.neg_add, F.add_z]
theorem Fld.va_vd (F : Fld K) (u v : Nat → K) : F.vd (F.va u v) v = u := funext fun j => by
  show F.add (F.add (u j) (v j)) (F.mul (F.neg F.o) (v j)) = u j
  rw [F.add_assoc, F.neg_mul, F.o_mul, F.add_neg, F.add_z]
theorem Fld.vd_self (F : Fld K) (u : Nat → K) : F.vd u u = F.vz := funext fun j => by
  show F.add (u j) (F.mul (F.neg F.o) (u j)) = F.z
  rw [F.neg_mul, F.o_mul, F.add_neg]
theorem Sp.of_vd {F : Fld K} {R : List (Nat → K)} {u v : Nat → K} (h : Sp F R (F.vd u v)) (k : Sp F R v) : Sp F R u := by
  have := h.add k
  rwa [F.vd_add] at this
theorem Sp.vd {F : Fld K} {R : List (Nat → K)} {u v : Nat → K} (h : Sp F R u) (k : Sp F R v) : Sp F R (F.vd u v) := h.add (k.smul _)
theorem Fld.vd_va (F : Fld K) (u v s : Nat → K) : F.vd (F.va u s) v = F.va (F.vd u v) s := by
  unfold Fld.vd
  rw [F.va_assoc, F.va_comm s, ← F.va_assoc]
theorem fns_app (F : Fld K) (a b : List (List K)) : F.fns (a ++ b) = F.fns a ++ F.fns b := by unfold Ops.fns; rw [List.map_append]
structure Orig (F : Fld K) (Z0 rows : List (List K)) (r : Nat) (O : List (List K)) : Prop where
  len : O.length = rows.length
  mem : ∀ v ∈ O, v ∈ Z0
  fin : ∀ (i : Nat) (v : List K), i < r → rows[i]? = some v → Sp F (F.fns (O.take r)) (F.fn v)
  rest : ∀ (i : Nat) (v o : List K), r ≤ i → rows[i]? = some v → O[i]? = some o → Sp F (F.fns (O.take r)) (F.vd (F.fn v) (F.fn o))
  back : ∀ v, Sp F (F.fns (O.take r)) v → Sp F (F.fns (rows.take r)) v
  ind : ∀ (k : Nat) (o : List K), k < r → O[k]? = some o → ¬ Sp F (F.fns (O.take k)) (F.fn o)
theorem Orig.start (F : Fld K) (Z0 : List (List K)) : Orig F Z0 Z0 0 Z0 :=
  ⟨rfl, fun _ h => h, fun _ _ h => absurd h (Nat.not_lt_zero _), fun i v o _ h1 h2 => by
    rw [h1] at h2; injection h2 with h2; subst h2
    rw [F.vd_self]; exact Sp.zero F _, fun _ h => h, fun _ _ h => absurd h (Nat.not_lt_zero _)⟩
theorem Orig.piv {F : Fld K} {Z0 rows : List (List K)} {n r c k : Nat} {O : List (List K)} {P : List Nat} (h : Orig F Z0 rows r O) (he : Ech F rows r c P) (hw : Wid n rows) (hrk : r ≤ k) (hk : k < rows.length) (hx : F.el (rows.getD k []) c ≠ F.z) : Orig F Z0 (F.piv rows r c k) (r + 1) (swpL O r k) := by
  have hr : r < rows.length := by omega
  have hol := h.len
  obtain ⟨vk, hvk⟩ : ∃ v, rows[k]? = some v := ⟨_, List.getElem?_eq_getElem hk⟩
  obtain ⟨ok, hok⟩ : ∃ v, O[k]? = some v := ⟨_, List.getElem?_eq_getElem (by omega)⟩
  have ekd : rows.getD k [] = vk := by rw [List.getD_eq_getElem?_getD, hvk]; rfl
  have eod : O.getD k [] = ok := by rw [List.getD_eq_getElem?_getD, hok]; rfl
  rw [ekd] at hx
  obtain ⟨L, hL⟩ : ∃ L, F.nrm vk c = L := ⟨_, rfl⟩
  have hlenL : L.length = n := by rw [← hL, nrm_len]; exact hw vk (List.mem_of_getElem? hvk)
  -- the given rows, exchanged
  have o1 : ∀ i, i < r → (swpL O r k)[i]? = O[i]? := fun i hi => by
    rw [swpL_at (by omega) (by omega) i (by omega), if_neg (by omega), if_neg (by omega), List.getD_eq_getElem?_getD, List.getElem?_eq_getElem (by omega)]; rfl
  have o2 : (swpL O r k)[r]? = some ok := by
    rw [swpL_at (by omega) (by omega) r (by omega)]
    by_cases e : r = k
    · rw [if_pos e, e, eod]
    · rw [if_neg e, if_pos rfl, eod]
  have ot : (swpL O r k).take r = O.take r := List.ext_getElem? fun i => by
    rw [List.getElem?_take, List.getElem?_take]
    split
    · rename_i hi; exact o1 i hi
    · rfl
  have otk : ∀ j, j ≤ r → (swpL O r k).take j = O.take j := fun j hj => List.ext_getElem? fun i => by
    rw [List.getElem?_take, List.getElem?_take]
    split
    · rename_i hi; exact o1 i (by omega)
    · rfl
  have ot1 : (swpL O r k).take (r + 1) = O.take r ++ [ok] := by rw [List.take_add_one, ot, o2]; rfl
  have inc : ∀ v, Sp F (F.fns (O.take r)) v → Sp F (F.fns ((swpL O r k).take (r + 1))) v := fun v hv => by
    rw [ot1, fns_app]
    exact hv.sub fun q hq => List.mem_append_left _ hq
  have hokS : Sp F (F.fns ((swpL O r k).take (r + 1))) (F.fn ok) := by
    rw [ot1, fns_app]
    exact Sp.mem (List.mem_append_right _ (List.mem_map.2 ⟨ok, by simp, rfl⟩))
  have hvkS : Sp F (F.fns ((swpL O r k).take (r + 1))) (F.fn vk) := (inc _ (h.rest k vk ok hrk hvk hok)).of_vd hokS
  have hLS : Sp F (F.fns ((swpL O r k).take (r + 1))) (F.fn L) := by
    have := hvkS.smul (F.inv (F.el vk c))
    rw [← fn_nrm, hL] at this
    exact this
  -- a row of the list behind
  have rowat : ∀ (i : Nat) (v : List K), (F.piv rows r c k)[i]? = some v → i < rows.length ∧ ((i = r ∧ v = L) ∨ (i ≠ r ∧ ∃ u, rows[if i = k then r else i]? = some u ∧ ∃ y, F.fn v = F.va (F.fn u) (F.vs y (F.fn L)))) := fun i v hv => by
    have hil : i < rows.length := by have := (List.getElem?_eq_some_iff.1 hv).1; rwa [piv_len] at this
    rw [piv_at F.toOps hr hk c i hil, ekd, hL] at hv
    injection hv with hv
    refine ⟨hil, ?_⟩
    unfold Ops.clr at hv
    by_cases e : i = r
    · rw [if_pos e] at hv
      exact .inl ⟨e, hv.symm⟩
    · rw [if_neg e] at hv
      have hsl : (if i = k then r else i) < rows.length := by split <;> omega
      obtain ⟨s, hs⟩ : ∃ s, (if i = k then r else i) = s := ⟨_, rfl⟩
      have e2 : (if i = k then r else if i = r then k else i) = s := by rw [← hs, if_neg e]
      rw [e2] at hv
      rw [hs] at hsl ⊢
      obtain ⟨u, hu⟩ : ∃ u, rows[s]? = some u := ⟨_, List.getElem?_eq_getElem hsl⟩
      have eu : rows.getD s [] = u := by rw [List.getD_eq_getElem?_getD, hu]; rfl
      rw [eu] at hv
      have hul : u.length = L.length := by rw [hlenL]; exact hw _ (List.mem_of_getElem? hu)
      refine .inr ⟨e, u, hu, ?_⟩
      by_cases hz : F.isz (F.el u c) = true
      · rw [if_pos hz] at hv
        exact ⟨F.z, by rw [← hv]; exact funext fun j => by show _ = F.add _ (F.mul F.z _); rw [F.z_mul, F.add_z]⟩
      · rw [if_neg hz] at hv
        exact ⟨_, by rw [← hv, fn_less F hul]⟩
  have lead : (F.piv rows r c k)[r]? = some L := by
    rw [piv_at F.toOps hr hk c r hr, ekd, hL]
    unfold Ops.clr
    rw [if_pos rfl]
  have pS : ∀ (i : Nat) (v : List K), i < r + 1 → (F.piv rows r c k)[i]? = some v → Sp F (F.fns ((F.piv rows r c k).take (r + 1))) (F.fn v) := fun i v hi hv =>
    Sp.mem (List.mem_map.2 ⟨v, List.mem_iff_getElem?.2 ⟨i, by rw [List.getElem?_take, if_pos hi]; exact hv⟩, rfl⟩)
  have rowsS : ∀ v, Sp F (F.fns (rows.take r)) v → Sp F (F.fns ((F.piv rows r c k).take (r + 1))) v := fun v hv => hv.mono fun q hq => by
    obtain ⟨u, hu, rfl⟩ := List.mem_map.1 hq
    obtain ⟨i, hi⟩ := List.getElem?_of_mem hu
    rw [List.getElem?_take] at hi
    split at hi
    · rename_i hir
      obtain ⟨v', hv'⟩ : ∃ v', (F.piv rows r c k)[i]? = some v' := ⟨_, List.getElem?_eq_getElem (by rw [piv_len]; omega)⟩
      obtain ⟨_, hh⟩ := rowat i v' hv'
      rcases hh with ⟨e, _⟩ | ⟨_, u', hu', y, hy⟩
      · omega
      · rw [if_neg (by omega), hi] at hu'
        injection hu' with hu'
        subst hu'
        have h1 := (pS i v' (by omega) hv').vd ((pS r L (by omega) lead).smul y)
        rwa [hy, F.va_vd] at h1
    · cases hi
  have hvkR : Sp F (F.fns ((F.piv rows r c k).take (r + 1))) (F.fn vk) := by
    have := (pS r L (by omega) lead).smul (F.el vk c)
    rwa [← hL, fn_nrm, F.vs_vs, F.mul_inv hx, F.vs_o] at this
  have hokR : Sp F (F.fns ((F.piv rows r c k).take (r + 1))) (F.fn ok) := by
    have h1 := rowsS _ (h.back _ (h.rest k vk ok hrk hvk hok))
    have h2 := hvkR.vd h1
    have : F.vd (F.fn vk) (F.vd (F.fn vk) (F.fn ok)) = F.fn ok := funext fun j => by
      show F.add (F.el vk j) (F.mul (F.neg F.o) (F.add (F.el vk j) (F.mul (F.neg F.o) (F.el ok j)))) = F.el ok j
      rw [F.distrib, F.neg_mul, F.o_mul, F.neg_mul, F.o_mul, F.neg_mul, F.o_mul, F.neg_neg, ← F.add_assoc, F.add_neg, F.z_add]
    rwa [this] at h2
  refine ⟨by rw [swpL_len, piv_len]; exact hol, fun v hv => ?_, fun i v hi hv => ?_, fun i v o hi hv ho => ?_, fun v hv => ?_, fun j o hj ho hs => ?_⟩
  · obtain ⟨i, hi⟩ := List.getElem?_of_mem hv
    have hil : i < O.length := by have := (List.getElem?_eq_some_iff.1 hi).1; rwa [swpL_len] at this
    rw [swpL_at (by omega) (by omega) i hil] at hi
    injection hi with hi
    have hsl := swp_lt (n := O.length) hil (show r < O.length by omega) (show k < O.length by omega)
    rw [List.getD_eq_getElem?_getD, List.getElem?_eq_getElem hsl] at hi
    rw [← hi]
    exact h.mem _ (List.getElem_mem hsl)
  · obtain ⟨hil, hh⟩ := rowat i v hv
    rcases hh with ⟨e, e2⟩ | ⟨e, u, hu, y, hy⟩
    · rw [e2]; exact hLS
    · rw [if_neg (by omega)] at hu
      rw [hy]
      exact (inc _ (h.fin i u (by omega) hu)).add (hLS.smul y)
  · obtain ⟨hil, hh⟩ := rowat i v hv
    rcases hh with ⟨e, _⟩ | ⟨e, u, hu, y, hy⟩
    · omega
    · rw [hy, F.vd_va]
      refine (inc _ ?_).add (hLS.smul y)
      rw [swpL_at (by omega) (by omega) i (by omega)] at ho
      injection ho with ho
      by_cases e3 : i = k
      · rw [if_pos e3] at hu ho
        exact h.rest r u o (Nat.le_refl _) hu (by rw [← ho, List.getD_eq_getElem?_getD, List.getElem?_eq_getElem (by omega)]; rfl)
      · rw [if_neg e3] at hu
        rw [if_neg e3, if_neg e] at ho
        exact h.rest i u o (by omega) hu (by rw [← ho, List.getD_eq_getElem?_getD, List.getElem?_eq_getElem (by omega)]; rfl)
  · rw [ot1, fns_app] at hv
    refine hv.mono fun q hq => ?_
    rcases List.mem_append.1 hq with hq | hq
    · exact rowsS _ (h.back _ (Sp.mem hq))
    · obtain ⟨u, hu, rfl⟩ := List.mem_map.1 hq
      rw [List.mem_singleton.1 hu]
      exact hokR
  · rw [otk j (by omega)] at hs
    by_cases e : j = r
    · subst e
      rw [o2] at ho
      injection ho with ho
      subst ho
      have h1 := h.back _ ((h.rest k vk ok hrk hvk hok).of_vd hs)
      have h2 := he.take.zero_of h1 fun p hp => he.low k vk hrk hvk p (he.lt p hp)
      exact hx (congrFun h2 c)
    · rw [o1 j (by omega)] at ho
      exact h.ind j o (by omega) ho hs
end Go.Proofs.YtpeogfapnofeoaaGreatDoor
namespace Go.Proofs.YtpeogfapnofeoaaGreatDoor
set_option maxRecDepth 100000
variable {K : Type}
/-- The combination of the first m rows. -/
def Fld.cmb (F : Fld K) (O : List (List K)) (y : Nat → K) (m : Nat) : Nat → K := fun j => F.sumN m fun k => F.mul (y k) (F.el (O.getD k []) j)
theorem cmb_succ (F : Fld K) (O : List (List K)) (y : Nat → K) (m : Nat) : F.cmb O y (m + 1) = F.va (F.cmb O y m) (F.vs (y m) (F.fn (O.getD m []))) := rfl
theorem cmb_sp {F : Fld K} {O : List (List K)} (y : Nat → K) : ∀ m, m ≤ O.length → Sp F (F.fns (O.take m)) (F.cmb O y m)
  | 0, _ => Sp.zero F _
  | m + 1, h => by
    obtain ⟨o, ho⟩ : ∃ o, O[m]? = some o := ⟨_, List.getElem?_eq_getElem (by omega)⟩
    have e : O.getD m [] = o := by rw [List.getD_eq_getElem?_getD, ho]; rfl
    rw [cmb_succ, e, List.take_add_one, ho, fns_app]
    exact ((cmb_sp y m (by omega)).sub fun q hq => List.mem_append_left _ hq).add ((Sp.mem (List.mem_append_right _ (List.mem_map.2 ⟨o, by simp, rfl⟩))).smul _)
theorem Orig.indep {F : Fld K} {Z0 rows : List (List K)} {r : Nat} {O : List (List K)} (h : Orig F Z0 rows r O) (hr : r ≤ rows.length) (y : Nat → K) : ∀ m, m ≤ r → F.cmb O y m = F.vz → ∀ k, k < m → y k = F.z
  | 0, _, _, k, hk => absurd hk (Nat.not_lt_zero _)
  | m + 1, hm, h0, k, hk => by
    have hol := h.len
    obtain ⟨o, ho⟩ : ∃ o, O[m]? = some o := ⟨_, List.getElem?_eq_getElem (by omega)⟩
    have e : O.getD m [] = o := by rw [List.getD_eq_getElem?_getD, ho]; rfl
    rw [cmb_succ, e] at h0
    have hym : y m = F.z := by
      apply Classical.byContradiction
      intro hne
      refine h.ind m o (by omega) ho ?_
      have h1 := (cmb_sp (F := F) (O := O) y m (by omega)).smul (F.neg (F.inv (y m)))
      have h2 : F.vs (F.neg (F.inv (y m))) (F.cmb O y m) = F.fn o := funext fun j => by
        have h3 : F.add (F.cmb O y m j) (F.mul (y m) (F.el o j)) = F.z := congrFun h0 j
        show F.mul (F.neg (F.inv (y m))) (F.cmb O y m j) = F.el o j
        rw [F.neg_of h3, F.neg_mul, F.mul_comm (F.inv (y m)), F.neg_mul, F.neg_neg, F.mul_comm (F.mul _ _), ← F.mul_assoc, F.inv_mul _ hne, F.o_mul]
      rwa [h2] at h1
    have h0' : F.cmb O y m = F.vz := by
      rw [← h0]
      exact funext fun j => by
        show _ = F.add _ (F.mul (y m) _)
        rw [hym, F.z_mul, F.add_z]
    rcases Nat.lt_or_ge k m with q | q
    · exact h.indep hr y m (by omega) h0' k q
    · obtain rfl : k = m := by omega
      exact hym
/-- At a row that waits. -/
theorem Orig.mul_rest {F : Fld K} {Z0 rows : List (List K)} {r c i : Nat} {O : List (List K)} {P : List Nat} (h : Orig F Z0 rows r O) (he : Ech F rows r c P) (hi : r ≤ i) {v o : List K} (hv : rows[i]? = some v) (ho : O[i]? = some o) (y : Nat → K) (yr : K)
    (h0 : ∀ p ∈ P, F.add (F.cmb O y r p) (F.mul yr (F.el o p)) = F.z) (hne : yr ≠ F.z ∨ ∃ k, k < r ∧ y k ≠ F.z) : yr ≠ F.z ∧ ∀ j, F.add (F.cmb O y r j) (F.mul yr (F.el o j)) = F.mul yr (F.el v j) := by
  have hol := h.len
  have hr := he.hr
  -- the difference is a combination of the first r rows
  have hd := h.back _ ((cmb_sp (F := F) (O := O) y r (by omega)).vd ((h.rest i v o hi hv ho).smul yr))
  have hz := he.take.zero_of hd fun p hp => by
    show F.add (F.cmb O y r p) (F.mul (F.neg F.o) (F.mul yr (F.add (F.el v p) (F.mul (F.neg F.o) (F.el o p))))) = F.z
    rw [he.low i v hi hv p (he.lt p hp), F.z_add, F.neg_mul, F.o_mul, F.neg_mul, F.o_mul, F.mul_comm yr, F.neg_mul, F.neg_neg, F.mul_comm (F.el o p)]
    exact h0 p hp
  have hall : ∀ j, F.add (F.cmb O y r j) (F.mul yr (F.el o j)) = F.mul yr (F.el v j) := fun j => by
    have h3 : F.add (F.cmb O y r j) (F.mul (F.neg F.o) (F.mul yr (F.add (F.el v j) (F.mul (F.neg F.o) (F.el o j))))) = F.z := congrFun hz j
    rw [F.neg_mul, F.o_mul] at h3
    have h4 := F.neg_of h3
    rw [F.neg_neg] at h4
    rw [h4, F.distrib, F.neg_mul, F.o_mul, F.mul_comm yr (F.neg _), F.neg_mul, F.mul_comm (F.el o j), F.add_assoc, F.neg_add, F.add_z]
  refine ⟨fun e => ?_, hall⟩
  rcases hne with q | ⟨k, hk, q⟩
  · exact q e
  · refine q (h.indep he.hr y r (Nat.le_refl _) (funext fun j => ?_) k hk)
    have := hall j
    rwa [e, F.z_mul, F.add_z, F.z_mul] at this
/-- At a row that is done. -/
theorem Orig.mul_fin {F : Fld K} {Z0 rows : List (List K)} {r c i p0 : Nat} {O : List (List K)} {P : List Nat} (h : Orig F Z0 rows r O) (he : Ech F rows r c P) (hi : i < r) {v : List K} (hv : rows[i]? = some v) (hp0 : P[i]? = some p0) (y : Nat → K)
    (h0 : ∀ (j p : Nat), P[j]? = some p → j ≠ i → F.cmb O y r p = F.z) (hne : ∃ k, k < r ∧ y k ≠ F.z) : F.cmb O y r p0 ≠ F.z ∧ ∀ j, F.cmb O y r j = F.mul (F.cmb O y r p0) (F.el v j) := by
  have hol := h.len
  have hr := he.hr
  have hd := h.back _ (cmb_sp (F := F) (O := O) y r (by omega))
  have hvt : (rows.take r)[i]? = some v := by rw [List.getElem?_take, if_pos hi]; exact hv
  have hz := he.take.zero_of (hd.vd ((Sp.mem (F := F) (List.mem_map.2 ⟨v, List.mem_of_getElem? hvt, rfl⟩)).smul (F.cmb O y r p0))) fun p hp => by
    obtain ⟨j, hj⟩ := List.getElem?_of_mem hp
    show F.add (F.cmb O y r p) (F.mul (F.neg F.o) (F.mul (F.cmb O y r p0) (F.el v p))) = F.z
    by_cases e : j = i
    · subst e
      rw [hp0] at hj
      injection hj with hj
      subst hj
      rw [he.one j p0 v hp0 hv, F.mul_o, F.neg_mul, F.o_mul, F.add_neg]
    · rw [h0 j p hj e, he.zer j i p v hj hv (fun q => e q.symm), F.mul_z, F.mul_z, F.z_add]
  have hall : ∀ j, F.cmb O y r j = F.mul (F.cmb O y r p0) (F.el v j) := fun j => by
    have h3 : F.add (F.cmb O y r j) (F.mul (F.neg F.o) (F.mul (F.cmb O y r p0) (F.el v j))) = F.z := congrFun hz j
    rw [F.neg_mul, F.o_mul] at h3
    rw [F.neg_of h3, F.neg_neg]
  refine ⟨fun e => ?_, hall⟩
  obtain ⟨k, hk, q⟩ := hne
  refine q (h.indep he.hr y r (Nat.le_refl _) (funext fun j => ?_) k hk)
  rw [hall j, e, F.z_mul]; rfl
end Go.Proofs.YtpeogfapnofeoaaGreatDoor
namespace Go.Proofs.YtpeogfapnofeoaaGreatDoor
set_option maxRecDepth 100000
theorem el_mod {p : Int} (hp : 0 < p) (a : Int) : elB p (a % p) = true := by
  simp [elB]
  exact ⟨Int.emod_nonneg _ (by omega), Int.emod_lt_of_pos _ hp⟩
theorem el_lt {p a : Int} (h : elB p a = true) : 0 ≤ a ∧ a < p := by simpa [elB] using h
theorem mod_el {p a : Int} (h : elB p a = true) : a % p = a := Int.emod_eq_of_lt (el_lt h).1 (el_lt h).2
def zpFld (p : Int) (hF : fieldB p = true) : Fld {a : Int // elB p a = true} where
  add x y := ⟨(x.1 + y.1) % p, el_mod (by have := fieldB_lo hF; omega) _⟩
  mul x y := ⟨x.1 * y.1 % p, el_mod (by have := fieldB_lo hF; omega) _⟩
  neg x := ⟨(-x.1) % p, el_mod (by have := fieldB_lo hF; omega) _⟩
  inv x := ⟨invM p x.1, by have := invM_bd (p := p) x.1 (fieldB_lo hF); simp [elB]; exact this⟩
  z := ⟨0, by have := fieldB_lo hF; simp [elB]; omega⟩
  o := ⟨1, by have := fieldB_lo hF; simp [elB]; omega⟩
  isz x := decide (x.1 = 0)
  add_comm x y := Subtype.ext (by show (x.1 + y.1) % p = (y.1 + x.1) % p; rw [Int.add_comm])
  add_assoc x y z := Subtype.ext (by
    show ((x.1 + y.1) % p + z.1) % p = (x.1 + (y.1 + z.1) % p) % p
    rw [Int.emod_add_emod, Int.add_emod_emod, Int.add_assoc])
  z_add x := Subtype.ext (by show (0 + x.1) % p = x.1; rw [Int.zero_add]; exact mod_el x.2)
  neg_add x := Subtype.ext (by
    show ((-x.1) % p + x.1) % p = 0
    rw [Int.emod_add_emod, Int.add_left_neg]; rfl)
  mul_comm x y := Subtype.ext (by show x.1 * y.1 % p = y.1 * x.1 % p; rw [Int.mul_comm])
  mul_assoc x y z := Subtype.ext (by
    show (x.1 * y.1 % p) * z.1 % p = x.1 * (y.1 * z.1 % p) % p
    rw [Int.mul_emod, Int.emod_emod, ← Int.mul_emod, Int.mul_emod x.1 (y.1 * z.1 % p), Int.emod_emod, ← Int.mul_emod, Int.mul_assoc])
  o_mul x := Subtype.ext (by show 1 * x.1 % p = x.1; rw [Int.one_mul]; exact mod_el x.2)
  distrib x y z := Subtype.ext (by
    show x.1 * ((y.1 + z.1) % p) % p = (x.1 * y.1 % p + x.1 * z.1 % p) % p
    rw [Int.mul_emod, Int.emod_emod, ← Int.mul_emod, Int.emod_add_emod, Int.add_emod_emod, Int.mul_add])
  inv_mul x hx := Subtype.ext (by
    show invM p x.1 * x.1 % p = 1
    have h := el_lt x.2
    have h0 : x.1 ≠ 0 := fun e => hx (Subtype.ext e)
    rw [Int.mul_comm]
    exact inv_mul hF (by omega) h.2)
  o_ne e := by
    have := congrArg Subtype.val e
    exact absurd this (by show ¬ (1 : Int) = 0; omega)
  isz_iff x := by
    rw [decide_eq_true_eq]
    exact ⟨fun e => Subtype.ext e, fun e => by rw [e]⟩
end Go.Proofs.YtpeogfapnofeoaaGreatDoor
namespace Go.Proofs.YtpeogfapnofeoaaGreatDoor
set_option maxRecDepth 100000
def isum : Nat → (Nat → Int) → Int
  | 0, _ => 0
  | n + 1, f => isum n f + f n
theorem isum_add (f : Nat → Int) (a : Nat) : ∀ b, isum (a + b) f = isum a f + isum b fun t => f (a + t)
  | 0 => by rw [Nat.add_zero]; show _ = _ + 0; omega
  | b + 1 => by
    rw [← Nat.add_assoc, isum, isum_add f a b, isum]
    omega
theorem isum_flat (g : Nat → Int) (e : Nat) : ∀ s, isum (s * e) g = isum s fun k => isum e fun t => g (k * e + t)
  | 0 => by rw [Nat.zero_mul]; rfl
  | s + 1 => by rw [Nat.succ_mul, isum_add, isum_flat g e s]; rfl
theorem isum_mod (p : Int) {f g : Nat → Int} : ∀ {n : Nat}, (∀ j, j < n → f j % p = g j % p) → isum n f % p = isum n g % p
  | 0, _ => rfl
  | n + 1, h => by rw [isum, isum, Int.add_emod, isum_mod p (n := n) fun j hj => h j (by omega), h n (by omega), ← Int.add_emod]
theorem sumN_val {p : Int} (hF : fieldB p = true) (f : Nat → {a : Int // elB p a = true}) : ∀ n, ((zpFld p hF).sumN n f).1 % p = isum n (fun j => (f j).1) % p
  | 0 => rfl
  | n + 1 => by
    show (((zpFld p hF).sumN n f).1 + (f n).1) % p % p = _
    rw [Int.emod_emod, Int.add_emod, sumN_val hF f n, ← Int.add_emod]
    rfl
theorem act_isum (f : Nat → Int) (u : Nat → Int) (n : Nat) : ∀ e, act ((List.range e).map f) u n = isum e fun t => f t * (if t ≤ n then u (n - t) else 0)
  | 0 => rfl
  | e + 1 => by
    rw [List.range_succ, List.map_append]
    show act ((List.range e).map f ++ [f e]) u n = _
    rw [act_snoc, act_isum f u n e, isum, List.length_map, List.length_range]
    congr 1
    split
    · rfl
    · rw [Int.mul_zero]
def psum (p : Int) : Nat → (Nat → List Int) → List Int
  | 0, _ => []
  | n + 1, f => pAdd p (psum p n f) 1 (f n)
theorem PN.psum {p : Int} (hp : 0 < p) (f : Nat → List Int) : ∀ n, PN p (psum p n f)
  | 0 => PN.nil p
  | n + 1 => (PN.psum hp f n).add hp 1 _
theorem psum_cong {p : Int} (hp : 0 < p) (f : Nat → List Int) (u : Nat) : ∀ n, cf (psum p n f) u % p = isum n (fun k => cf (f k) u) % p
  | 0 => rfl
  | n + 1 => by
    have := (padd_cong hp (PN.psum hp f n) (f n)).emod_eq u
    rw [isum, Int.add_emod, ← psum_cong hp f u n, ← Int.add_emod]
    exact this
theorem poly_sys {p : Int} (hF : fieldB p = true) (s a L e : Nat) (R : Nat → Nat → List Int) (hR : ∀ k i, k < s → i < a → PN p (R k i) ∧ (R k i).length ≤ L) (hlt : a * (e + L) < s * e) :
    ∃ q : Nat → List Int, (∀ k, PN p (q k) ∧ (q k).length ≤ e) ∧ (∃ k, k < s ∧ q k ≠ []) ∧ ∀ i, i < a → psum p s (fun k => pMul p (q k) (R k i)) = [] := by
  have hp : 0 < p := by have := fieldB_lo hF; omega
  have he : 0 < e := by
    rcases Nat.eq_zero_or_pos e with h | h
    · rw [h, Nat.mul_zero] at hlt; omega
    · exact h
  obtain ⟨x, ⟨j, hj, hx⟩, hs⟩ := hom_sys (zpFld p hF) (a * (e + L)) (s * e) (fun idx un => ⟨(if un % e ≤ idx % (e + L) then cf (R (un / e) (idx / (e + L))) (idx % (e + L) - un % e) else 0) % p, el_mod hp _⟩) hlt
  have hxe : ∀ j, 0 ≤ (x j).1 ∧ (x j).1 < p := fun j => el_lt (x j).2
  have hcf : ∀ k t, cf (trim ((List.range e).map fun t => (x (k * e + t)).1)) t = if t < e then (x (k * e + t)).1 else 0 := fun k t => by rw [trim_cf, range_cf]
  refine ⟨fun k => trim ((List.range e).map fun t => (x (k * e + t)).1), fun k => ⟨⟨trim_el (allEl_of fun i y hi => ?_), Tr.trim _⟩, Nat.le_trans (trim_le _) (by simp)⟩, ⟨j / e, Nat.div_lt_of_lt_mul (by rw [Nat.mul_comm]; exact hj), fun h0 => hx (Subtype.ext ?_)⟩, fun i hi => ?_⟩
  · obtain ⟨h1, h2⟩ := List.getElem?_eq_some_iff.1 hi
    rw [List.getElem_map] at h2
    rw [← h2]
    exact hxe _
  · have h1 := hcf (j / e) (j % e)
    dsimp only at h0
    rw [h0, if_pos (Nat.mod_lt _ he), Nat.mul_comm, Nat.div_add_mod] at h1
    exact h1.symm
  · refine PN.eq hp (PN.psum hp _ _) (PN.nil p) fun u => ?_
    rw [cf_nil, Int.sub_zero]
    refine Int.dvd_of_emod_eq_zero ?_
    rw [psum_cong hp]
    by_cases hu : u < e + L
    · have heq := hs (i * (e + L) + u) (by
        have : (i + 1) * (e + L) ≤ a * (e + L) := Nat.mul_le_mul_right _ hi
        rw [Nat.succ_mul] at this
        omega)
      have hv := sumN_val hF (fun un => (zpFld p hF).mul ⟨(if un % e ≤ (i * (e + L) + u) % (e + L) then cf (R (un / e) ((i * (e + L) + u) / (e + L))) ((i * (e + L) + u) % (e + L) - un % e) else 0) % p, el_mod hp _⟩ (x un)) (s * e)
      rw [heq] at hv
      have e1 : (i * (e + L) + u) % (e + L) = u := by rw [Nat.mul_comm, Nat.mul_add_mod]; exact Nat.mod_eq_of_lt hu
      have e2 : (i * (e + L) + u) / (e + L) = i := by rw [Nat.mul_comm, Nat.mul_add_div (by omega), Nat.div_eq_of_lt hu, Nat.add_zero]
      rw [e1, e2, isum_flat] at hv
      have h0 : ((zpFld p hF).z).1 % p = 0 := rfl
      rw [h0] at hv
      rw [hv]
      refine isum_mod p fun k hk => ?_
      rw [(pMul_cong hp _ (R k i)).emod_eq u, (Cong.actl (Cong.of_eq (funext fun t => trim_cf _ t)) (R k i)).emod_eq u, act_isum]
      refine isum_mod p fun t ht => ?_
      have e3 : (k * e + t) % e = t := by rw [Nat.mul_comm, Nat.mul_add_mod]; exact Nat.mod_eq_of_lt ht
      have e4 : (k * e + t) / e = k := by rw [Nat.mul_comm, Nat.mul_add_div he, Nat.div_eq_of_lt ht, Nat.add_zero]
      show _ = ((if (k * e + t) % e ≤ u then cf (R ((k * e + t) / e) i) (u - (k * e + t) % e) else 0) % p * (x (k * e + t)).1 % p) % p
      rw [e3, e4, Int.emod_emod, Int.mul_emod _ (x (k * e + t)).1, Int.emod_emod, ← Int.mul_emod, Int.mul_comm]
    · have : ∀ k, k < s → cf (pMul p (trim ((List.range e).map fun t => (x (k * e + t)).1)) (R k i)) u % p = (0 : Int) % p := fun k hk => by
        rw [cf_ge]
        have h1 := pMul_le p (trim ((List.range e).map fun t => (x (k * e + t)).1)) (R k i)
        have h2 : (trim ((List.range e).map fun t => (x (k * e + t)).1)).length ≤ e := Nat.le_trans (trim_le _) (by simp)
        have h3 := (hR k i hk hi).2
        omega
      have h0 : isum s (fun _ => (0 : Int)) = 0 := by
        clear this hR hlt hs hx hj
        induction s with
        | zero => rfl
        | succ s ih => rw [isum, ih]; rfl
      rw [isum_mod p this, h0]
      rfl
end Go.Proofs.YtpeogfapnofeoaaGreatDoor
namespace Go.Proofs.YtpeogfapnofeoaaGreatDoor
set_option maxRecDepth 100000
open Classical in
/-- A polynomial as a fraction. -/
noncomputable def pe {p : Int} (hF : fieldB p = true) (f : List Int) : {x : Fra // FV p x} := if h : PN p f then ⟨⟨f, [1]⟩, FV.one_den hF h⟩ else (frFld p hF).z
theorem pe_val {p : Int} (hF : fieldB p = true) {f : List Int} (h : PN p f) : (pe hF f).1 = ⟨f, [1]⟩ := by rw [pe, dif_pos h]
theorem pe_eqv {p : Int} (hF : fieldB p = true) {f : List Int} (h : PN p f) : Eqv p (pe hF f).1 f [1] := by rw [pe_val hF h]; exact Eqv.self p _
theorem pe_of {p : Int} (hF : fieldB p = true) {f : List Int} (h : PN p f) {x : {x : Fra // FV p x}} (hx : Eqv p x.1 f [1]) : x = pe hF f :=
  Subtype.ext (Eqv.uniq x.2 (pe hF f).2 (PN.one (fieldB_lo hF)) (by simp) hx (pe_eqv hF h))
theorem pe_add {p : Int} (hF : fieldB p = true) {f g : List Int} (hf : PN p f) (hg : PN p g) : (frFld p hF).add (pe hF f) (pe hF g) = pe hF (pAdd p f 1 g) := by
  have h2 := fieldB_lo hF
  have hp : 0 < p := by omega
  have h1 := Eqv.add (pe hF f).2 (pe hF g).2 hf hg (pe_eqv hF hf) (pe_eqv hF hg)
  rw [pmul_one h2 hf, pmul_one h2 hg, pmul_one h2 (PN.one h2)] at h1
  exact pe_of hF (hf.add hp 1 g) h1
theorem pe_mul {p : Int} (hF : fieldB p = true) {f g : List Int} (hf : PN p f) (hg : PN p g) : (frFld p hF).mul (pe hF f) (pe hF g) = pe hF (pMul p f g) := by
  have h2 := fieldB_lo hF
  have hp : 0 < p := by omega
  have h1 := Eqv.mul (pe hF f).2 (pe hF g).2 (pe_eqv hF hf) (pe_eqv hF hg)
  rw [pmul_one h2 (PN.one h2)] at h1
  exact pe_of hF (PN.mul hp f g) h1
theorem pe_nil {p : Int} (hF : fieldB p = true) : pe hF [] = (frFld p hF).z := Subtype.ext (pe_val hF (PN.nil p))
theorem pe_ne {p : Int} (hF : fieldB p = true) {f : List Int} (hf : PN p f) (h : f ≠ []) : pe hF f ≠ (frFld p hF).z := fun e => by
  have h1 : (pe hF f).1.n = [] := by rw [e]; rfl
  rw [pe_val hF hf] at h1
  exact h h1
theorem pe_ne' {p : Int} (hF : fieldB p = true) {f : List Int} (h : pe hF f ≠ (frFld p hF).z) : f ≠ [] := fun e => h (by rw [e]; exact pe_nil hF)
theorem pe_den {p : Int} (hF : fieldB p = true) (x : {x : Fra // FV p x}) : (frFld p hF).mul (pe hF x.1.d) x = pe hF x.1.n := by
  have h2 := fieldB_lo hF
  have hp : 0 < p := by omega
  have h1 := Eqv.mul (pe hF x.1.d).2 x.2 (pe_eqv hF x.2.d) (Eqv.self p x.1)
  refine pe_of hF x.2.n (Eqv.change ((pe hF x.1.d).2.mul x.2) (PN.mul hp _ _) (pmul_ne hF (PN.one h2) x.2.d (by simp) x.2.d0) h1 ?_)
  rw [pmul_one h2 (PN.mul hp _ _), pmul_comm hp [1], pmul_one h2 x.2.d, pmul_comm hp]
theorem fr_noz {p : Int} (hF : fieldB p = true) {a b : {x : Fra // FV p x}} (ha : a ≠ (frFld p hF).z) (hb : b ≠ (frFld p hF).z) : (frFld p hF).mul a b ≠ (frFld p hF).z := fun e => by
  have h1 := congrArg ((frFld p hF).mul ((frFld p hF).inv a)) e
  rw [← (frFld p hF).mul_assoc, (frFld p hF).inv_mul a ha, (frFld p hF).o_mul, (frFld p hF).mul_z] at h1
  exact hb h1
theorem fl_of {p : Int} (hF : fieldB p = true) {f g : List Int} (hf : PN p f) (hg : PN p g) (hg0 : g ≠ []) {x : {x : Fra // FV p x}} (h : (frFld p hF).mul (pe hF g) x = pe hF f) {B : Nat} (h1 : f.length ≤ B) (h2 : g.length ≤ B) : FL B x.1 := by
  have hlo := fieldB_lo hF
  have hp : 0 < p := by omega
  have e := Eqv.mul (pe hF g).2 x.2 (pe_eqv hF hg) (Eqv.self p x.1)
  have e2 : ((frFld p hF).mul (pe hF g) x).1 = mulF p (pe hF g).1 x.1 := rfl
  rw [← e2, h, pe_val hF hf] at e
  have e3 : pMul p f (pMul p [1] x.1.d) = pMul p (pMul p g x.1.n) [1] := e
  rw [pmul_comm hp [1], pmul_one hlo x.2.d, pmul_one hlo (PN.mul hp _ _)] at e3
  have e4 : Eqv p x.1 f g := by
    show pMul p x.1.n g = pMul p f x.1.d
    rw [e3, pmul_comm hp]
  have e5 := Eqv.uniq x.2 (FV.low hF hf hg hg0) hg hg0 e4 (Eqv.low hF hf hg hg0)
  have := lowF_len hF hf hg hg0
  rw [e5]
  exact ⟨Nat.le_trans this.1 h1, Nat.le_trans this.2 h2⟩
/-- Some fractions over one denominator. -/
theorem scale_row {p : Int} (hF : fieldB p = true) {L : Nat} : ∀ (l : List {x : Fra // FV p x}), (∀ x ∈ l, FL L x.1) → ∃ D, PN p D ∧ D ≠ [] ∧ D.length ≤ l.length * L + 1 ∧ ∀ x ∈ l, ∃ f, PN p f ∧ f.length ≤ l.length * L + 1 ∧ (frFld p hF).mul (pe hF D) x = pe hF f
  | [], _ => ⟨[1], PN.one (fieldB_lo hF), by simp, by simp, fun x hx => by simp at hx⟩
  | x :: l, h => by
    have hp : 0 < p := by have := fieldB_lo hF; omega
    obtain ⟨D, h1, h2, h3, h4⟩ := scale_row hF l fun y hy => h y (List.mem_cons_of_mem _ hy)
    obtain ⟨q1, q2⟩ := h x List.mem_cons_self
    have hlen : (x :: l).length * L + 1 = (l.length * L + 1) + L := by rw [List.length_cons, Nat.succ_mul]; omega
    rw [hlen]
    refine ⟨pMul p x.1.d D, PN.mul hp _ _, pmul_ne hF x.2.d h1 x.2.d0 h2, ?_, fun y hy => ?_⟩
    · have := pmul_le hF x.2.d h1; omega
    · rcases List.mem_cons.1 hy with rfl | hy
      · refine ⟨pMul p D y.1.n, PN.mul hp _ _, by have := pmul_le hF h1 y.2.n; omega, ?_⟩
        rw [pmul_comm hp, ← pe_mul hF h1 y.2.d, (frFld p hF).mul_assoc, pe_den, pe_mul hF h1 y.2.n]
      · obtain ⟨f, f1, f2, f3⟩ := h4 y hy
        refine ⟨pMul p x.1.d f, PN.mul hp _ _, by have := pmul_le hF x.2.d f1; omega, ?_⟩
        rw [← pe_mul hF x.2.d h1, (frFld p hF).mul_assoc, f3, pe_mul hF x.2.d f1]
theorem pe_psum {p : Int} (hF : fieldB p = true) (f : Nat → List Int) : ∀ n, (∀ k, k < n → PN p (f k)) → (frFld p hF).sumN n (fun k => pe hF (f k)) = pe hF (psum p n f)
  | 0, _ => (pe_nil hF).symm
  | n + 1, h => by
    have hp : 0 < p := by have := fieldB_lo hF; omega
    rw [Fld.sumN, pe_psum hF f n fun k hk => h k (by omega), pe_add hF (PN.psum hp f n) (h n (by omega))]; rfl
theorem psum_len (p : Int) (f : Nat → List Int) {B : Nat} : ∀ n, (∀ k, k < n → (f k).length ≤ B) → (psum p n f).length ≤ B
  | 0, _ => Nat.zero_le _
  | n + 1, h => by
    have h1 := psum_len p f n fun k hk => h k (by omega)
    have h2 := h n (by omega)
    have h3 := padd_le p (psum p n f) 1 (f n)
    show (pAdd p (psum p n f) 1 (f n)).length ≤ B
    omega
end Go.Proofs.YtpeogfapnofeoaaGreatDoor
namespace Go.Proofs.YtpeogfapnofeoaaGreatDoor
set_option maxRecDepth 100000
theorem skp_at {i t r : Nat} (hi : i < r) (ht : t < r) (h : t ≠ i) : ∃ u, u < r - 1 ∧ skp i u = t := by
  by_cases e : t < i
  · exact ⟨t, by omega, by unfold skp; rw [if_pos e]⟩
  · exact ⟨t - 1, by omega, by unfold skp; rw [if_neg (by omega)]; omega⟩
/-- The rows of a family over polynomials, at some columns. -/
theorem scale_fam {p : Int} (hF : fieldB p = true) {L : Nat} (Ok : Nat → List {x : Fra // FV p x}) (cols : List Nat) (hel : ∀ k c, FL L ((frFld p hF).el (Ok k) c).1) :
    ∃ (D : Nat → List Int) (f : Nat → Nat → List Int), ∀ k, (PN p (D k) ∧ D k ≠ [] ∧ (D k).length ≤ cols.length * L + 1) ∧ ∀ c, c ∈ cols → PN p (f k c) ∧ (f k c).length ≤ cols.length * L + 1 ∧ (frFld p hF).mul (pe hF (D k)) ((frFld p hF).el (Ok k) c) = pe hF (f k c) := by
  have h1 : ∀ k, ∃ Df : List Int × (Nat → List Int), (PN p Df.1 ∧ Df.1 ≠ [] ∧ Df.1.length ≤ cols.length * L + 1) ∧ ∀ c, c ∈ cols → PN p (Df.2 c) ∧ (Df.2 c).length ≤ cols.length * L + 1 ∧ (frFld p hF).mul (pe hF Df.1) ((frFld p hF).el (Ok k) c) = pe hF (Df.2 c) := fun k => by
    obtain ⟨D, d1, d2, d3, d4⟩ := scale_row hF (L := L) (cols.map fun c => (frFld p hF).el (Ok k) c) (fun x hx => by
      obtain ⟨c, _, rfl⟩ := List.mem_map.1 hx
      exact hel k c)
    rw [List.length_map] at d3 d4
    have : ∀ c, ∃ f, c ∈ cols → PN p f ∧ f.length ≤ cols.length * L + 1 ∧ (frFld p hF).mul (pe hF D) ((frFld p hF).el (Ok k) c) = pe hF f := fun c => by
      by_cases hc : c ∈ cols
      · obtain ⟨f, hf⟩ := d4 _ (List.mem_map.2 ⟨c, hc, rfl⟩)
        exact ⟨f, fun _ => hf⟩
      · exact ⟨[], fun h => absurd h hc⟩
    obtain ⟨f, hf⟩ := Classical.axiomOfChoice this
    exact ⟨(D, f), ⟨d1, d2, d3⟩, hf⟩
  obtain ⟨Df, hDf⟩ := Classical.axiomOfChoice h1
  exact ⟨fun k => (Df k).1, fun k => (Df k).2, hDf⟩
theorem cmb_pe {p : Int} (hF : fieldB p = true) {Ok : Nat → List {x : Fra // FV p x}} {D : Nat → List Int} {f : Nat → Nat → List Int} {q : Nat → List Int} {c n : Nat} (hq : ∀ k, PN p (q k)) (hf : ∀ k, k < n → PN p (D k) ∧ PN p (f k c) ∧ (frFld p hF).mul (pe hF (D k)) ((frFld p hF).el (Ok k) c) = pe hF (f k c)) :
    (frFld p hF).sumN n (fun k => (frFld p hF).mul ((frFld p hF).mul (pe hF (q k)) (pe hF (D k))) ((frFld p hF).el (Ok k) c)) = pe hF (psum p n fun k => pMul p (q k) (f k c)) := by
  have hp : 0 < p := by have := fieldB_lo hF; omega
  rw [← pe_psum hF _ n fun k _ => PN.mul hp _ _]
  exact (frFld p hF).sumN_congr fun k hk => by
    obtain ⟨h1, h2, h3⟩ := hf k hk
    rw [(frFld p hF).mul_assoc, h3, pe_mul hF (hq k) h2]
def cramB (r L : Nat) : Nat := (r * ((r + 1) * L + 1) + 1) + ((r + 1) * L + 1)
theorem row_bd {p : Int} (hF : fieldB p = true) {Z0 rows : List (List {x : Fra // FV p x})} {r c : Nat} {O : List (List {x : Fra // FV p x})} {P : List Nat} (h : Orig (frFld p hF) Z0 rows r O) (he : Ech (frFld p hF) rows r c P) {L : Nat} (hL1 : 1 ≤ L) (hL : ∀ v ∈ Z0, ∀ x ∈ v, FL L x.1) {i : Nat} {v : List {x : Fra // FV p x}} (hv : rows[i]? = some v) (j : Nat) : FL (cramB r L) ((frFld p hF).el v j).1 := by
  have hp : 0 < p := by have := fieldB_lo hF; omega
  have hol := h.len
  have hil := (List.getElem?_eq_some_iff.1 hv).1
  have hpl := he.pl
  have hel0 : ∀ (o : List {x : Fra // FV p x}), (∀ x ∈ o, FL L x.1) → ∀ c, FL L ((frFld p hF).el o c).1 := fun o ho c => by
    by_cases hc : c < o.length
    · rw [Ops.el_in _ (List.getElem?_eq_getElem hc)]
      exact ho _ (List.getElem_mem hc)
    · rw [Ops.el_out _ (by omega)]
      exact ⟨Nat.zero_le _, hL1⟩
  have hmem : ∀ k, ∀ x ∈ O.getD k [], FL L x.1 := fun k x hx => by
    rw [List.getD_eq_getElem?_getD] at hx
    cases ho : O[k]? with
    | none => rw [ho] at hx; simp at hx
    | some o => rw [ho] at hx; exact hL o (h.mem o (List.mem_of_getElem? ho)) x hx
  have hcl : (P ++ [j]).length = r + 1 := by simp [hpl]
  rcases Nat.lt_or_ge i r with hir | hir
  · -- a row that is done
    obtain ⟨p0, hp0⟩ : ∃ p0, P[i]? = some p0 := ⟨_, List.getElem?_eq_getElem (by omega)⟩
    obtain ⟨D, f, hDf⟩ := scale_fam hF (fun k => O.getD k []) (P ++ [j]) (fun k c => hel0 _ (hmem k) c)
    rw [hcl] at hDf
    have hPm : ∀ t, t < r → P.getD t 0 ∈ P ++ [j] := fun t ht => by
      rw [List.getD_eq_getElem?_getD, List.getElem?_eq_getElem (by omega)]
      exact List.mem_append_left _ (List.getElem_mem _)
    obtain ⟨q, hq, ⟨k0, hk0, hne⟩, hz⟩ := poly_sys hF r (r - 1) ((r + 1) * L + 1) (r * ((r + 1) * L + 1) + 1) (fun k t => f k (P.getD (skp i t) 0)) (fun k t hk ht => by
      have := (hDf k).2 _ (hPm (skp i t) (by have := skp_lt (j0 := i) ht; omega))
      exact ⟨this.1, this.2.1⟩) (by
      obtain ⟨s, rfl⟩ : ∃ s, r = s + 1 := ⟨r - 1, by omega⟩
      rw [Nat.add_sub_cancel]
      generalize (s + 1 + 1) * L + 1 = B
      rw [Nat.mul_add, Nat.succ_mul s ((s + 1) * B + 1), Nat.succ_mul s B]
      omega)
    have hsum : ∀ c, c ∈ P ++ [j] → (frFld p hF).cmb O (fun k => (frFld p hF).mul (pe hF (q k)) (pe hF (D k))) r c = pe hF (psum p r fun k => pMul p (q k) (f k c)) := fun c hc =>
      cmb_pe hF (Ok := fun k => O.getD k []) (fun k => (hq k).1) fun k _ => ⟨(hDf k).1.1, ((hDf k).2 c hc).1, ((hDf k).2 c hc).2.2⟩
    have hlen : ∀ c, c ∈ P ++ [j] → (psum p r fun k => pMul p (q k) (f k c)).length ≤ cramB r L := fun c hc => psum_len p _ r fun k _ => by
      have h1 := pmul_le hF (hq k).1 ((hDf k).2 c hc).1
      have h2 := (hq k).2
      have h3 := ((hDf k).2 c hc).2.1
      unfold cramB
      omega
    have hp0m : p0 ∈ P ++ [j] := List.mem_append_left _ (List.mem_of_getElem? hp0)
    have hjm : j ∈ P ++ [j] := by simp
    obtain ⟨m1, m2⟩ := h.mul_fin he hir hv hp0 (fun k => (frFld p hF).mul (pe hF (q k)) (pe hF (D k))) (fun t pt ht hti => by
      have htr : t < r := by have := (List.getElem?_eq_some_iff.1 ht).1; omega
      obtain ⟨u, hu, hsk⟩ := skp_at hir htr hti
      have e1 : P.getD (skp i u) 0 = pt := by rw [hsk, List.getD_eq_getElem?_getD, ht]; rfl
      have := hz u hu
      rw [e1] at this
      rw [hsum pt (List.mem_append_left _ (List.mem_of_getElem? ht)), this, pe_nil]) ⟨k0, hk0, fr_noz hF (pe_ne hF (hq k0).1 hne) (pe_ne hF (hDf k0).1.1 (hDf k0).1.2.1)⟩
    have m3 := m2 j
    rw [hsum p0 hp0m] at m1 m3
    rw [hsum j hjm] at m3
    exact fl_of hF (PN.psum hp _ _) (PN.psum hp _ _) (pe_ne' hF m1) m3.symm (hlen j hjm) (hlen p0 hp0m)
  · -- a row that waits
    obtain ⟨o, ho⟩ : ∃ o, O[i]? = some o := ⟨_, List.getElem?_eq_getElem (by omega)⟩
    obtain ⟨D, f, hDf⟩ := scale_fam hF (fun k => if k < r then O.getD k [] else o) (P ++ [j]) (fun k c => by
      show FL L ((frFld p hF).el (if k < r then O.getD k [] else o) c).1
      split
      · exact hel0 _ (hmem k) c
      · exact hel0 o (fun x hx => hL o (h.mem o (List.mem_of_getElem? ho)) x hx) c)
    rw [hcl] at hDf
    have hPm : ∀ t, t < r → P.getD t 0 ∈ P ++ [j] := fun t ht => by
      rw [List.getD_eq_getElem?_getD, List.getElem?_eq_getElem (by omega)]
      exact List.mem_append_left _ (List.getElem_mem _)
    obtain ⟨q, hq, ⟨k0, hk0, hne⟩, hz⟩ := poly_sys hF (r + 1) r ((r + 1) * L + 1) (r * ((r + 1) * L + 1) + 1) (fun k t => f k (P.getD t 0)) (fun k t hk ht => by
      have := (hDf k).2 _ (hPm t ht)
      exact ⟨this.1, this.2.1⟩) (by
      generalize (r + 1) * L + 1 = B
      rw [Nat.mul_add, Nat.succ_mul r (r * B + 1)]
      omega)
    have hsum : ∀ c, c ∈ P ++ [j] → (frFld p hF).add ((frFld p hF).cmb O (fun k => (frFld p hF).mul (pe hF (q k)) (pe hF (D k))) r c) ((frFld p hF).mul ((frFld p hF).mul (pe hF (q r)) (pe hF (D r))) ((frFld p hF).el o c)) = pe hF (psum p (r + 1) fun k => pMul p (q k) (f k c)) := fun c hc => by
      have h1 := cmb_pe hF (Ok := fun k => if k < r then O.getD k [] else o) (c := c) (n := r + 1) (fun k => (hq k).1) fun k _ => ⟨(hDf k).1.1, ((hDf k).2 c hc).1, ((hDf k).2 c hc).2.2⟩
      rw [← h1, Fld.sumN]
      congr 1
      · exact (frFld p hF).sumN_congr fun k hk => by rw [if_pos hk]
      · rw [if_neg (Nat.lt_irrefl r)]
    have hlen : ∀ c, c ∈ P ++ [j] → (psum p (r + 1) fun k => pMul p (q k) (f k c)).length ≤ cramB r L := fun c hc => psum_len p _ (r + 1) fun k _ => by
      have h1 := pmul_le hF (hq k).1 ((hDf k).2 c hc).1
      have h2 := (hq k).2
      have h3 := ((hDf k).2 c hc).2.1
      unfold cramB
      omega
    have hjm : j ∈ P ++ [j] := by simp
    have nz : ∀ k, q k ≠ [] → (frFld p hF).mul (pe hF (q k)) (pe hF (D k)) ≠ (frFld p hF).z := fun k hk => fr_noz hF (pe_ne hF (hq k).1 hk) (pe_ne hF (hDf k).1.1 (hDf k).1.2.1)
    obtain ⟨m1, m2⟩ := h.mul_rest he hir hv ho (fun k => (frFld p hF).mul (pe hF (q k)) (pe hF (D k))) ((frFld p hF).mul (pe hF (q r)) (pe hF (D r))) (fun pt hpt => by
      obtain ⟨t, ht⟩ := List.getElem?_of_mem hpt
      have htr : t < r := by have := (List.getElem?_eq_some_iff.1 ht).1; omega
      have e1 : P.getD t 0 = pt := by rw [List.getD_eq_getElem?_getD, ht]; rfl
      have := hz t htr
      rw [e1] at this
      rw [hsum pt (List.mem_append_left _ hpt), this, pe_nil]) (by
      rcases Nat.lt_or_ge k0 r with e | e
      · exact .inr ⟨k0, e, nz k0 hne⟩
      · obtain rfl : k0 = r := by omega
        exact .inl (nz k0 hne))
    have m3 := m2 j
    rw [hsum j hjm, pe_mul hF (hq r).1 (hDf r).1.1] at m3
    rw [pe_mul hF (hq r).1 (hDf r).1.1] at m1
    refine fl_of hF (PN.psum hp _ _) (PN.mul hp _ _) (pe_ne' hF m1) m3.symm (hlen j hjm) ?_
    have h1 := pmul_le hF (hq r).1 (hDf r).1.1
    have h2 := (hq r).2
    have h3 := (hDf r).1.2.2
    unfold cramB
    omega
end Go.Proofs.YtpeogfapnofeoaaGreatDoor
namespace Go.Proofs.YtpeogfapnofeoaaGreatDoor
set_option maxRecDepth 100000
theorem stg_orig {K : Type} {F : Fld K} {N : Nat} {Z0 : List (List K)} (hW : Wid N Z0) : ∀ c, c ≤ N → ∃ O P, Orig F Z0 (stg F.toOps Z0 c).1 (stg F.toOps Z0 c).2 O ∧ Ech F (stg F.toOps Z0 c).1 (stg F.toOps Z0 c).2 c P ∧ Wid N (stg F.toOps Z0 c).1 ∧ (stg F.toOps Z0 c).2 ≤ c
  | 0, _ => ⟨Z0, [], Orig.start F Z0, Ech.start F Z0, hW, Nat.le_refl _⟩
  | c + 1, hc => by
    obtain ⟨O, P, h1, h2, h3, h4⟩ := stg_orig (F := F) hW c (by omega)
    rw [stg]
    split
    · rename_i hf
      obtain ⟨hrk, hx⟩ := fnd_some F.toOps hf
      have hx' : F.el ((stg F.toOps Z0 c).1.getD (F.fnd (stg F.toOps Z0 c).1 (stg F.toOps Z0 c).2 c) []) c ≠ F.z := fun e => by rw [(F.isz_iff _).2 e] at hx; cases hx
      exact ⟨_, _, h1.piv h2 h3 hrk hf hx', h2.piv h3 hrk hf hx', h3.piv (by omega) hf, by show _ + 1 ≤ c + 1; omega⟩
    · rename_i hf
      exact ⟨O, P, h1, h2.skip fun i v hi hv => (F.isz_iff _).1 (fnd_none F.toOps hf i v hi hv), h3, by omega⟩
theorem Hom.stg {K A : Type} {O : Ops K} {O' : Ops A} {f : K → A} (h : Hom O O' f) (Z : List (List K)) : ∀ c, Go.Proofs.YtpeogfapnofeoaaGreatDoor.stg O' (mp2 f Z) c = (mp2 f (Go.Proofs.YtpeogfapnofeoaaGreatDoor.stg O Z c).1, (Go.Proofs.YtpeogfapnofeoaaGreatDoor.stg O Z c).2)
  | 0 => rfl
  | c + 1 => by
    rw [Go.Proofs.YtpeogfapnofeoaaGreatDoor.stg, Go.Proofs.YtpeogfapnofeoaaGreatDoor.stg, h.stg Z c]
    dsimp only
    rw [h.fnd, List.length_map]
    split
    · rename_i hf
      rw [h.piv _ _ _ _ (fnd_some O hf).2]
    · rfl
end Go.Proofs.YtpeogfapnofeoaaGreatDoor
