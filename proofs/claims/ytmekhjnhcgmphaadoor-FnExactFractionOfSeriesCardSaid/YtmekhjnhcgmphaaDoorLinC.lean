/- Linear algebra: elements that stand for those of a field; reduced lists by their leading elements. Plain lemmas of mine. -/
import Derived.Test.YtmekhjnhcgmphaaDoorLinB
namespace Go.Proofs.YtmekhjnhcgmphaaDoor
set_option maxRecDepth 100000
/-- f takes the elements of a field to the elements of a program. -/
structure Hom {K A : Type} (O : Ops K) (O' : Ops A) (f : K → A) : Prop where
  add : ∀ a b, O'.add (f a) (f b) = f (O.add a b)
  mul : ∀ a b, O'.mul (f a) (f b) = f (O.mul a b)
  neg : ∀ a, O'.neg (f a) = f (O.neg a)
  inv : ∀ a, O.isz a = false → O'.inv (f a) = f (O.inv a)
  z : O'.z = f O.z
  o : O'.o = f O.o
  isz : ∀ a, O'.isz (f a) = O.isz a
abbrev mp2 {K A : Type} (f : K → A) (rows : List (List K)) : List (List A) := rows.map (List.map f)
theorem Hom.el {K A : Type} {O : Ops K} {O' : Ops A} {f : K → A} (h : Hom O O' f) (v : List K) (j : Nat) : O'.el (v.map f) j = f (O.el v j) := by
  unfold Ops.el
  rw [List.getD_eq_getElem?_getD, List.getD_eq_getElem?_getD, List.getElem?_map]
  cases v[j]? with
  | none => exact h.z
  | some x => rfl
theorem Hom.nrm {K A : Type} {O : Ops K} {O' : Ops A} {f : K → A} (h : Hom O O' f) (v : List K) (c : Nat) (hx : O.isz (O.el v c) = false) : O'.nrm (v.map f) c = (O.nrm v c).map f := by
  unfold Ops.nrm
  rw [List.map_map, List.map_map, h.el, h.inv _ hx]
  exact List.map_congr_left fun x _ => h.mul _ _
theorem Hom.less {K A : Type} {O : Ops K} {O' : Ops A} {f : K → A} (h : Hom O O' f) (v : List K) (k : K) (w : List K) : O'.less (v.map f) (f k) (w.map f) = (O.less v k w).map f := by
  unfold Ops.less
  rw [List.zipWith_map, List.map_zipWith]
  congr 1
  funext x y
  rw [h.neg, h.mul, h.add]
theorem Hom.clr {K A : Type} {O : Ops K} {O' : Ops A} {f : K → A} (h : Hom O O' f) (r c : Nat) (l : List K) (i : Nat) (v : List K) : O'.clr r c (l.map f) i (v.map f) = (O.clr r c l i v).map f := by
  unfold Ops.clr
  rw [h.el, h.isz]
  split
  · rfl
  · split
    · rfl
    · exact h.less v _ l
theorem getD_mp2 {K A : Type} (f : K → A) (rows : List (List K)) (i : Nat) : (mp2 f rows).getD i [] = (rows.getD i []).map f := by
  rw [List.getD_eq_getElem?_getD, List.getD_eq_getElem?_getD, List.getElem?_map]
  cases rows[i]? <;> rfl
theorem swpL_mp2 {K A : Type} (f : K → A) (rows : List (List K)) (i k : Nat) : swpL (mp2 f rows) i k = mp2 f (swpL rows i k) := by
  unfold swpL
  rw [getD_mp2, getD_mp2]
  show _ = List.map _ _
  rw [List.map_set, List.map_set]
theorem Hom.fnd {K A : Type} {O : Ops K} {O' : Ops A} {f : K → A} (h : Hom O O' f) (rows : List (List K)) (r c : Nat) : O'.fnd (mp2 f rows) r c = O.fnd rows r c := by
  unfold Ops.fnd
  rw [← List.map_drop, List.findIdx_map]
  congr 2
  funext v
  show (!O'.isz (O'.el (v.map f) c)) = _
  rw [h.el, h.isz]
theorem Hom.piv {K A : Type} {O : Ops K} {O' : Ops A} {f : K → A} (h : Hom O O' f) (rows : List (List K)) (r c k : Nat) (hx : O.isz (O.el (rows.getD k []) c) = false) : O'.piv (mp2 f rows) r c k = mp2 f (O.piv rows r c k) := by
  unfold Ops.piv
  rw [swpL_mp2, getD_mp2, h.nrm _ _ hx]
  refine List.ext_getElem? fun i => ?_
  rw [List.getElem?_mapIdx, List.getElem?_map, List.getElem?_map, List.getElem?_mapIdx, Option.map_map, Option.map_map]
  congr 1
  funext v
  exact h.clr r c _ i v
theorem Hom.red {K A : Type} {O : Ops K} {O' : Ops A} {f : K → A} (h : Hom O O' f) : ∀ (m c r : Nat) (rows : List (List K)), O'.red m c r (mp2 f rows) = (mp2 f (O.red m c r rows).1, (O.red m c r rows).2)
  | 0, _, _, _ => rfl
  | m + 1, c, r, rows => by
    rw [Ops.red, Ops.red, h.fnd, List.length_map]
    split
    · rename_i hf
      rw [h.piv rows r c _ (fnd_some O hf).2, h.red m]
    · rw [h.red m]
theorem Hom.rref {K A : Type} {O : Ops K} {O' : Ops A} {f : K → A} (h : Hom O O' f) (n : Nat) (rows : List (List K)) : O'.rref n (mp2 f rows) = mp2 f (O.rref n rows) := by
  unfold Ops.rref
  rw [h.red]
  exact List.map_take.symm
/-- Rows of good elements come from the field. -/
theorem lift1 {A : Type} {P : A → Prop} : ∀ (v : List A), (∀ x ∈ v, P x) → ∃ u : List {x // P x}, v = u.map Subtype.val
  | [], _ => ⟨[], rfl⟩
  | x :: v, h => by
    obtain ⟨u, hu⟩ := lift1 v fun y hy => h y (by simp [hy])
    exact ⟨⟨x, h x (by simp)⟩ :: u, by rw [List.map_cons, ← hu]⟩
theorem lift2 {A : Type} {P : A → Prop} : ∀ (rows : List (List A)), (∀ v ∈ rows, ∀ x ∈ v, P x) → ∃ u : List (List {x // P x}), rows = mp2 Subtype.val u
  | [], _ => ⟨[], rfl⟩
  | v :: rows, h => by
    obtain ⟨u, hu⟩ := lift2 rows fun y hy => h y (by simp [hy])
    obtain ⟨u1, hu1⟩ := lift1 v (h v (by simp))
    exact ⟨u1 :: u, by rw [mp2, List.map_cons, ← hu1, hu]⟩
theorem Wid.mp2 {K A : Type} {f : K → A} {n : Nat} {rows : List (List K)} : Wid n (mp2 f rows) ↔ Wid n rows := by
  constructor
  · intro h v hv
    have := h (v.map f) (List.mem_map.2 ⟨v, hv, rfl⟩)
    rwa [List.length_map] at this
  · intro h v hv
    obtain ⟨u, hu, rfl⟩ := List.mem_map.1 hv
    rw [List.length_map]
    exact h u hu
/-- The index of the first element other than 0, or the length. -/
def Ops.lead {K : Type} (O : Ops K) (v : List K) : Nat := v.findIdx fun x => !O.isz x
theorem Hom.lead {K A : Type} {O : Ops K} {O' : Ops A} {f : K → A} (h : Hom O O' f) (v : List K) : O'.lead (v.map f) = O.lead v := by
  unfold Ops.lead
  rw [List.findIdx_map]
  congr 1
  funext x
  show (!O'.isz (f x)) = _
  rw [h.isz]
/-- What makes a reduced list: told by the rows' leading elements. -/
structure RrP {A : Type} (O : Ops A) (n : Nat) (R : List (List A)) : Prop where
  len : Wid n R
  one : ∀ v ∈ R, O.lead v < n ∧ O.el v (O.lead v) = O.o
  asc : ∀ (i : Nat) (u v : List A), R[i]? = some u → R[i + 1]? = some v → O.lead u < O.lead v
  zer : ∀ (i k : Nat) (u v : List A), R[i]? = some u → R[k]? = some v → i ≠ k → O.isz (O.el v (O.lead u)) = true
theorem lead_zero {K : Type} (O : Ops K) {v : List K} {j : Nat} (h : j < O.lead v) (hl : j < v.length) : O.isz (O.el v j) = true := by
  rw [O.el_in (List.getElem?_eq_getElem hl)]
  have := List.not_of_lt_findIdx (p := fun x => !O.isz x) (xs := v) h
  simpa using this
theorem lead_at {K : Type} (O : Ops K) {v : List K} (h : O.lead v < v.length) : O.isz (O.el v (O.lead v)) = false := by
  rw [O.el_in (List.getElem?_eq_getElem h)]
  have := List.findIdx_getElem (p := fun x => !O.isz x) (xs := v) (w := h)
  rw [Bool.not_eq_true'] at this
  exact this
theorem lead_of {K : Type} (O : Ops K) {v : List K} {p : Nat} (hp : O.isz (O.el v p) = false) (hl : p < v.length) (h0 : ∀ j, j < p → O.isz (O.el v j) = true) : O.lead v = p := by
  rcases Nat.lt_trichotomy (O.lead v) p with h | h | h
  · have := lead_at O (Nat.lt_trans h hl)
    rw [h0 _ h] at this; cases this
  · exact h
  · have := lead_zero O h hl
    rw [hp] at this; cases this
end Go.Proofs.YtmekhjnhcgmphaaDoor
