/- Linear algebra over a field, no program in sight: reduced lists are told by their span; kernels. Plain lemmas of mine. Linear algebra: elements that stand for those of a field; reduced lists by their leading elements. Plain lemmas of mine. Uniform words for the laws' helpers: a value that reads, that is owned in an interval of blocks; sizes as a word; lists of ints. Plain lemmas of mine. The words and the laws' helpers on Fraction: it reads, it is owned in an interval of blocks; copied, compared, marked, held. Printed by a program of mine. -/
import Derived.Test.YtmekhjnhcgmphaaDoorAp09
import Derived.Test.YtmekhjnhcgmphaaDoorIv
namespace Go.Proofs.YtmekhjnhcgmphaaDoor
set_option maxRecDepth 100000
/-- A reduced list of rows of n elements. -/
def IsRref {K : Type} (F : Fld K) (n : Nat) (R : List (List K)) : Prop := Wid n R ∧ ∃ P, Ech F R R.length n P
theorem Ech.take {K : Type} {F : Fld K} {rows : List (List K)} {r c : Nat} {P : List Nat} (h : Ech F rows r c P) : Ech F (rows.take r) (rows.take r).length c P := by
  have hr := h.hr
  have hl : (rows.take r).length = r := by rw [List.length_take]; omega
  have at_ : ∀ (i : Nat) (v : List K), (rows.take r)[i]? = some v → rows[i]? = some v := fun i v hv => by
    rw [List.getElem?_take] at hv
    split at hv
    · exact hv
    · cases hv
  exact ⟨by rw [hl]; exact h.pl, Nat.le_refl _, h.asc, h.lt, fun i p v hp hv => h.one i p v hp (at_ i v hv), fun i i' p v hp hv hne => h.zer i i' p v hp (at_ i' v hv) hne, fun i p v hp hv => h.led i p v hp (at_ i v hv), fun i v hi hv => by
    have := (List.getElem?_eq_some_iff.1 hv).1
    omega⟩
theorem Wid.take {K : Type} {n : Nat} {rows : List (List K)} (h : Wid n rows) (r : Nat) : Wid n (rows.take r) := fun v hv => h v (List.mem_of_mem_take hv)
theorem rref_is {K : Type} (F : Fld K) {n : Nat} {rows : List (List K)} (hw : Wid n rows) : IsRref F n (F.rref n rows) := by
  obtain ⟨P, h, hw'⟩ := Ech.red (F := F) n 0 0 rows [] hw (Ech.start F rows)
  rw [Nat.zero_add] at h
  exact ⟨hw'.take _, P, h.take⟩
theorem take_span {K : Type} {F : Fld K} {n : Nat} {rows : List (List K)} {r : Nat} {P : List Nat} (h : Ech F rows r n P) (hw : Wid n rows) (v : Nat → K) : Sp F (F.fns (rows.take r)) v ↔ Sp F (F.fns rows) v := by
  constructor
  · refine Sp.sub fun q hq => ?_
    obtain ⟨u, hu, rfl⟩ := List.mem_map.1 hq
    exact List.mem_map.2 ⟨u, List.mem_of_mem_take hu, rfl⟩
  · refine Sp.mono fun q hq => ?_
    obtain ⟨u, hu, rfl⟩ := List.mem_map.1 hq
    obtain ⟨i, hi⟩ := List.getElem?_of_mem hu
    by_cases hir : i < r
    · exact Sp.mem (List.mem_map.2 ⟨u, List.mem_iff_getElem?.2 ⟨i, by rw [List.getElem?_take, if_pos hir]; exact hi⟩, rfl⟩)
    · have : F.fn u = F.vz := funext fun j => by
        by_cases hj : j < n
        · exact h.low i u (by omega) hi j hj
        · exact Ops.el_out _ (by rw [hw u hu]; omega)
      rw [this]
      exact Sp.zero F _
theorem rref_span {K : Type} (F : Fld K) {n : Nat} {rows : List (List K)} (hw : Wid n rows) (v : Nat → K) : Sp F (F.fns (F.rref n rows)) v ↔ Sp F (F.fns rows) v := by
  obtain ⟨P, h, hw'⟩ := Ech.red (F := F) n 0 0 rows [] hw (Ech.start F rows)
  rw [Nat.zero_add] at h
  exact (take_span h hw' v).trans (red_span n 0 0 rows hw v)
theorem Ech.rep0 {K : Type} {F : Fld K} {R : List (List K)} {n : Nat} {P : List Nat} (h : Ech F R R.length n P) {v : Nat → K} (hv : Sp F (F.fns R) v) (j : Nat) : v j = sumP F ((F.fns R).zip P) v j := by
  obtain ⟨u, hu, hj⟩ := h.rep hv
  rw [List.drop_length] at hu
  have hu0 := Sp.nil hu
  have := hj j
  rw [hu0, List.take_length] at this
  rw [this]
  exact F.add_z _
theorem Ech.zip_at {K : Type} {F : Fld K} {R : List (List K)} {n : Nat} {P : List Nat} (_ : Ech F R R.length n P) {i : Nat} {q : (Nat → K) × Nat} (hq : ((F.fns R).zip P)[i]? = some q) : P[i]? = some q.2 ∧ ∃ u, R[i]? = some u ∧ q.1 = F.fn u := by
  rw [List.getElem?_zip_eq_some] at hq
  obtain ⟨h1, h2⟩ := hq
  unfold Ops.fns at h1
  rw [List.getElem?_map] at h1
  cases hu : R[i]? with
  | none => rw [hu] at h1; cases h1
  | some u => rw [hu] at h1; injection h1 with h1; exact ⟨h2, u, rfl, h1.symm⟩
/-- A vector of the span that is 0 at the pivots is 0. -/
theorem Ech.zero_of {K : Type} {F : Fld K} {R : List (List K)} {n : Nat} {P : List Nat} (h : Ech F R R.length n P) {v : Nat → K} (hv : Sp F (F.fns R) v) (h0 : ∀ p ∈ P, v p = F.z) : v = F.vz := funext fun j => by
  rw [h.rep0 hv j]
  refine sumP_zero F j v _ fun q hq => ?_
  obtain ⟨i, hi⟩ := List.getElem?_of_mem hq
  exact .inl (h0 _ (List.mem_of_getElem? (h.zip_at hi).1))
theorem pivot_sub {K : Type} {F : Fld K} {R S : List (List K)} {n m : Nat} {P Q : List Nat} (h : Ech F R R.length n P) (k : Ech F S S.length m Q) (hs : ∀ v, Sp F (F.fns R) v → Sp F (F.fns S) v) : ∀ p ∈ P, p ∈ Q := fun p hp => by
  apply Classical.byContradiction
  intro hn
  obtain ⟨i, hi⟩ := List.getElem?_of_mem hp
  have hil : i < R.length := by have := (List.getElem?_eq_some_iff.1 hi).1; have := h.pl; omega
  obtain ⟨u, hu⟩ : ∃ u, R[i]? = some u := ⟨_, List.getElem?_eq_getElem hil⟩
  have hsp := hs _ (Sp.mem (F := F) (List.mem_map.2 ⟨u, List.mem_of_getElem? hu, rfl⟩))
  have h1 : F.fn u p = F.o := h.one i p u hi hu
  refine F.o_ne ?_
  rw [← h1, k.rep0 hsp p]
  refine sumP_zero F p _ _ fun q hq => ?_
  obtain ⟨i', hi'⟩ := List.getElem?_of_mem hq
  obtain ⟨hq2, w, hw, hq1⟩ := k.zip_at hi'
  have hne : q.2 ≠ p := fun e => hn (by rw [← e]; exact List.mem_of_getElem? hq2)
  by_cases hlt : q.2 < p
  · exact .inl (h.led i p u hi hu _ hlt)
  · refine .inr ?_
    rw [hq1]
    exact k.led i' q.2 w hq2 hw p (by omega)
theorem ascN_ext : ∀ {a b : List Nat}, a.Pairwise (· < ·) → b.Pairwise (· < ·) → (∀ k, k ∈ a → k ∈ b) → (∀ k, k ∈ b → k ∈ a) → a = b
  | [], [], _, _, _, _ => rfl
  | [], y :: b, _, _, _, h => by have := h y (by simp); simp at this
  | x :: a, [], _, _, h, _ => by have := h x (by simp); simp at this
  | x :: a, y :: b, ha, hb, h, h' => by
    rw [List.pairwise_cons] at ha hb
    have hxy : x = y := by
      rcases List.mem_cons.1 (h x (by simp)) with e | hx
      · exact e
      · rcases List.mem_cons.1 (h' y (by simp)) with e | hy
        · exact e.symm
        · have h1 := ha.1 y hy
          have h2 := hb.1 x hx
          omega
    subst hxy
    congr 1
    refine ascN_ext ha.2 hb.2 (fun k hk => ?_) (fun k hk => ?_)
    · rcases List.mem_cons.1 (h k (by simp [hk])) with e | hk'
      · have := ha.1 k hk; omega
      · exact hk'
    · rcases List.mem_cons.1 (h' k (by simp [hk])) with e | hk'
      · have := hb.1 k hk; omega
      · exact hk'
theorem Sp.dif {K : Type} {F : Fld K} {R : List (Nat → K)} {u v : Nat → K} (hu : Sp F R u) (hv : Sp F R v) : Sp F R (F.va u (F.vs (F.neg F.o) v)) := hu.add (hv.smul _)
/-- A reduced list is told by its span. -/
theorem rref_unique {K : Type} {F : Fld K} {n : Nat} {R S : List (List K)} (h : IsRref F n R) (k : IsRref F n S) (hs : ∀ v, Sp F (F.fns R) v ↔ Sp F (F.fns S) v) : R = S := by
  obtain ⟨hw, P, h⟩ := h
  obtain ⟨kw, Q, k⟩ := k
  obtain rfl : P = Q := ascN_ext h.asc k.asc (pivot_sub h k fun v => (hs v).1) (pivot_sub k h fun v => (hs v).2)
  have hl : R.length = S.length := by rw [← h.pl, ← k.pl]
  refine List.ext_getElem? fun i => ?_
  by_cases hi : i < R.length
  · have hi' : i < S.length := by omega
    obtain ⟨u, hu⟩ : ∃ u, R[i]? = some u := ⟨_, List.getElem?_eq_getElem hi⟩
    obtain ⟨v, hv⟩ : ∃ v, S[i]? = some v := ⟨_, List.getElem?_eq_getElem hi'⟩
    rw [hu, hv]
    congr 1
    have hum := List.mem_of_getElem? hu
    have hvm := List.mem_of_getElem? hv
    have s1 : Sp F (F.fns R) (F.fn u) := Sp.mem (List.mem_map.2 ⟨u, hum, rfl⟩)
    have s2 : Sp F (F.fns R) (F.fn v) := (hs _).2 (Sp.mem (List.mem_map.2 ⟨v, hvm, rfl⟩))
    have h0 := h.zero_of (s1.dif s2) fun p hp => by
      obtain ⟨i', hi2⟩ := List.getElem?_of_mem hp
      show F.add (F.el u p) (F.mul (F.neg F.o) (F.el v p)) = F.z
      by_cases e : i = i'
      · subst e
        rw [h.one i p u hi2 hu, k.one i p v hi2 hv, F.mul_o, F.add_neg]
      · rw [h.zer i' i p u hi2 hu e, k.zer i' i p v hi2 hv e, F.mul_z, F.z_add]
    refine Ops.el_ext F.toOps (by rw [hw u hum, kw v hvm]) fun j => ?_
    have := congrFun h0 j
    have e : F.add (F.el u j) (F.mul (F.neg F.o) (F.el v j)) = F.z := this
    rw [F.neg_mul, F.o_mul] at e
    rw [F.neg_of e, F.neg_neg]
  · rw [List.getElem?_eq_none (by omega), List.getElem?_eq_none (by omega)]
theorem rref_self {K : Type} {F : Fld K} {n : Nat} {R : List (List K)} (h : IsRref F n R) : F.rref n R = R := rref_unique (rref_is F h.1) h fun v => rref_span F h.1 v
theorem rref_iff {K : Type} (F : Fld K) {n : Nat} {R : List (List K)} (hw : Wid n R) : F.rref n R = R ↔ IsRref F n R := ⟨fun h => by rw [← h]; exact rref_is F hw, rref_self⟩
theorem rref_len {K : Type} (F : Fld K) {n : Nat} {R : List (List K)} (h : IsRref F n R) : R.length ≤ n := by
  obtain ⟨_, P, h⟩ := h
  have h1 : ∀ (k : Nat) (l : List Nat), l.Pairwise (· < ·) → (∀ p ∈ l, k ≤ p ∧ p < n) → l.length ≤ n - k := by
    intro k l
    induction l generalizing k with
    | nil => intro _ _; simp
    | cons x l ih =>
      intro ha hb
      rw [List.pairwise_cons] at ha
      have := ih (x + 1) ha.2 fun p hp => ⟨ha.1 p hp, (hb p (by simp [hp])).2⟩
      have := hb x (by simp)
      rw [List.length_cons]
      omega
  have := h1 0 P h.asc fun p hp => ⟨Nat.zero_le _, h.lt p hp⟩
  rw [h.pl] at this
  omega
end Go.Proofs.YtmekhjnhcgmphaaDoor
namespace Go.Proofs.YtmekhjnhcgmphaaDoor
set_option maxRecDepth 100000
/-- f takes the elements of a field to the elements of a program. -/
structure Hom {K A : Type} (O : Ops K) (O' : Ops A) (f : K → A) : Prop where
  add : ∀ a b, O'.add (f a) (f b) = f (O.add a b)
  mul : ∀ a b, O'.mul (f a) (f b) = f (O.mul a b)
  neg : ∀ a, O'.neg (f a) = f (O.neg a)
  inv : ∀ a, O.isz a = false → O'.inv (f a) = f (O.inv a)
  z : O'.z = f O.z
  o : O'.o = f O.o
  isz : ∀ a, O'.isz (f a) = O.isz a
abbrev mp2 {K A : Type} (f : K → A) (rows : List (List K)) : List (List A) := rows.map (List.map f)
theorem Hom.el {K A : Type} {O : Ops K} {O' : Ops A} {f : K → A} (h : Hom O O' f) (v : List K) (j : Nat) : O'.el (v.map f) j = f (O.el v j) := by
  unfold Ops.el
  rw [List.getD_eq_getElem?_getD, List.getD_eq_getElem?_getD, List.getElem?_map]
  cases v[j]? with
  | none => exact h.z
  | some x => rfl
theorem Hom.nrm {K A : Type} {O : Ops K} {O' : Ops A} {f : K → A} (h : Hom O O' f) (v : List K) (c : Nat) (hx : O.isz (O.el v c) = false) : O'.nrm (v.map f) c = (O.nrm v c).map f := by
  unfold Ops.nrm
  rw [List.map_map, List.map_map, h.el, h.inv _ hx]
  exact List.map_congr_left fun x _ => h.mul _ _
theorem Hom.less {K A : Type} {O : Ops K} {O' : Ops A} {f : K → A} (h : Hom O O' f) (v : List K) (k : K) (w : List K) : O'.less (v.map f) (f k) (w.map f) = (O.less v k w).map f := by
  unfold Ops.less
  rw [List.zipWith_map, List.map_zipWith]
  congr 1
  funext x y
  rw [h.neg, h.mul, h.add]
theorem Hom.clr {K A : Type} {O : Ops K} {O' : Ops A} {f : K → A} (h : Hom O O' f) (r c : Nat) (l : List K) (i : Nat) (v : List K) : O'.clr r c (l.map f) i (v.map f) = (O.clr r c l i v).map f := by
  unfold Ops.clr
  rw [h.el, h.isz]
  split
  · rfl
  · split
    · rfl
    · exact h.less v _ l
theorem getD_mp2 {K A : Type} (f : K → A) (rows : List (List K)) (i : Nat) : (mp2 f rows).getD i [] = (rows.getD i []).map f := by
  rw [List.getD_eq_getElem?_getD, List.getD_eq_getElem?_getD, List.getElem?_map]
  cases rows[i]? <;> rfl
theorem swpL_mp2 {K A : Type} (f : K → A) (rows : List (List K)) (i k : Nat) : swpL (mp2 f rows) i k = mp2 f (swpL rows i k) := by
  unfold swpL
  rw [getD_mp2, getD_mp2]
  show _ = List.map _ _
  rw [List.map_set, List.map_set]
theorem Hom.fnd {K A : Type} {O : Ops K} {O' : Ops A} {f : K → A} (h : Hom O O' f) (rows : List (List K)) (r c : Nat) : O'.fnd (mp2 f rows) r c = O.fnd rows r c := by
  unfold Ops.fnd
  rw [← List.map_drop, List.findIdx_map]
  congr 2
  funext v
  show (!O'.isz (O'.el (v.map f) c)) = _
  rw [h.el, h.isz]
theorem Hom.piv {K A : Type} {O : Ops K} {O' : Ops A} {f : K → A} (h : Hom O O' f) (rows : List (List K)) (r c k : Nat) (hx : O.isz (O.el (rows.getD k []) c) = false) : O'.piv (mp2 f rows) r c k = mp2 f (O.piv rows r c k) := by
  unfold Ops.piv
  rw [swpL_mp2, getD_mp2, h.nrm _ _ hx]
  refine List.ext_getElem? fun i => ?_
  rw [List.getElem?_mapIdx, List.getElem?_map, List.getElem?_map, List.getElem?_mapIdx, Option.map_map, Option.map_map]
  congr 1
  funext v
  exact h.clr r c _ i v
theorem Hom.red {K A : Type} {O : Ops K} {O' : Ops A} {f : K → A} (h : Hom O O' f) : ∀ (m c r : Nat) (rows : List (List K)), O'.red m c r (mp2 f rows) = (mp2 f (O.red m c r rows).1, (O.red m c r rows).2)
  | 0, _, _, _ => rfl
  | m + 1, c, r, rows => by
    rw [Ops.red, Ops.red, h.fnd, List.length_map]
    split
    · rename_i hf
      rw [h.piv rows r c _ (fnd_some O hf).2, h.red m]
    · rw [h.red m]
theorem Hom.rref {K A : Type} {O : Ops K} {O' : Ops A} {f : K → A} (h : Hom O O' f) (n : Nat) (rows : List (List K)) : O'.rref n (mp2 f rows) = mp2 f (O.rref n rows) := by
  unfold Ops.rref
  rw [h.red]
  exact List.map_take.symm
/-- Rows of good elements come from the field. -/
theorem lift1 {A : Type} {P : A → Prop} : ∀ (v : List A), (∀ x ∈ v, P x) → ∃ u : List {x // P x}, v = u.map Subtype.val
  | [], _ => ⟨[], rfl⟩
  | x :: v, h => by
    obtain ⟨u, hu⟩ := lift1 v fun y hy => h y (by simp [hy])
    exact ⟨⟨x, h x (by simp)⟩ :: u, by rw [List.map_cons, ← hu]⟩
theorem lift2 {A : Type} {P : A → Prop} : ∀ (rows : List (List A)), (∀ v ∈ rows, ∀ x ∈ v, P x) → ∃ u : List (List {x // P x}), rows = mp2 Subtype.val u
  | [], _ => ⟨[], rfl⟩
  | v :: rows, h => by
    obtain ⟨u, hu⟩ := lift2 rows fun y hy => h y (by simp [hy])
    obtain ⟨u1, hu1⟩ := lift1 v (h v (by simp))
    exact ⟨u1 :: u, by rw [mp2, List.map_cons, ← hu1, hu]⟩
theorem map_inj {K A : Type} {f : K → A} (hf : ∀ a b, f a = f b → a = b) : ∀ {u v : List K}, u.map f = v.map f → u = v
  | [], [], _ => rfl
  | [], _ :: _, h => by simp at h
  | _ :: _, [], h => by simp at h
  | x :: u, y :: v, h => by
    rw [List.map_cons, List.map_cons, List.cons.injEq] at h
    rw [hf _ _ h.1, map_inj hf h.2]
theorem mp2_inj {K A : Type} {f : K → A} (hf : ∀ a b, f a = f b → a = b) {u v : List (List K)} (h : mp2 f u = mp2 f v) : u = v := map_inj (fun _ _ => map_inj hf) h
theorem Wid.mp2 {K A : Type} {f : K → A} {n : Nat} {rows : List (List K)} : Wid n (mp2 f rows) ↔ Wid n rows := by
  constructor
  · intro h v hv
    have := h (v.map f) (List.mem_map.2 ⟨v, hv, rfl⟩)
    rwa [List.length_map] at this
  · intro h v hv
    obtain ⟨u, hu, rfl⟩ := List.mem_map.1 hv
    rw [List.length_map]
    exact h u hu
/-- The index of the first element other than 0, or the length. -/
def Ops.lead {K : Type} (O : Ops K) (v : List K) : Nat := v.findIdx fun x => !O.isz x
theorem Hom.lead {K A : Type} {O : Ops K} {O' : Ops A} {f : K → A} (h : Hom O O' f) (v : List K) : O'.lead (v.map f) = O.lead v := by
  unfold Ops.lead
  rw [List.findIdx_map]
  congr 1
  funext x
  show (!O'.isz (f x)) = _
  rw [h.isz]
/-- What makes a reduced list: told by the rows' leading elements. -/
structure RrP {A : Type} (O : Ops A) (n : Nat) (R : List (List A)) : Prop where
  len : Wid n R
  one : ∀ v ∈ R, O.lead v < n ∧ O.el v (O.lead v) = O.o
  asc : ∀ (i : Nat) (u v : List A), R[i]? = some u → R[i + 1]? = some v → O.lead u < O.lead v
  zer : ∀ (i k : Nat) (u v : List A), R[i]? = some u → R[k]? = some v → i ≠ k → O.isz (O.el v (O.lead u)) = true
theorem Hom.rrp {K A : Type} {O : Ops K} {O' : Ops A} {f : K → A} (h : Hom O O' f) (hf : ∀ a b, f a = f b → a = b) {n : Nat} {R : List (List K)} : RrP O' n (mp2 f R) ↔ RrP O n R := by
  have hat : ∀ (i : Nat) (u : List K), R[i]? = some u → (mp2 f R)[i]? = some (u.map f) := fun i u hu => by rw [List.getElem?_map, hu]; rfl
  constructor
  · intro k
    refine ⟨Wid.mp2.1 k.len, fun v hv => ?_, fun i u v hu hv => ?_, fun i j u v hu hv hne => ?_⟩
    · have := k.one (v.map f) (List.mem_map.2 ⟨v, hv, rfl⟩)
      rw [h.lead, h.el, h.o] at this
      exact ⟨this.1, hf _ _ this.2⟩
    · have := k.asc i _ _ (hat i u hu) (hat _ v hv)
      rwa [h.lead, h.lead] at this
    · have := k.zer i j _ _ (hat i u hu) (hat _ v hv) hne
      rwa [h.lead, h.el, h.isz] at this
  · intro k
    have hinv : ∀ (i : Nat) (u : List A), (mp2 f R)[i]? = some u → ∃ x, R[i]? = some x ∧ u = x.map f := fun i u hu => by
      rw [List.getElem?_map] at hu
      cases hx : R[i]? with
      | none => rw [hx] at hu; cases hu
      | some x => rw [hx] at hu; injection hu with hu; exact ⟨x, rfl, hu.symm⟩
    refine ⟨Wid.mp2.2 k.len, fun v hv => ?_, fun i u v hu hv => ?_, fun i j u v hu hv hne => ?_⟩
    · obtain ⟨x, hx, rfl⟩ := List.mem_map.1 hv
      have := k.one x hx
      rw [h.lead, h.el, h.o, this.2]
      exact ⟨this.1, rfl⟩
    · obtain ⟨x, hx, rfl⟩ := hinv i u hu
      obtain ⟨y, hy, rfl⟩ := hinv _ v hv
      rw [h.lead, h.lead]
      exact k.asc i x y hx hy
    · obtain ⟨x, hx, rfl⟩ := hinv i u hu
      obtain ⟨y, hy, rfl⟩ := hinv _ v hv
      rw [h.lead, h.el, h.isz]
      exact k.zer i j x y hx hy hne
theorem lead_zero {K : Type} (O : Ops K) {v : List K} {j : Nat} (h : j < O.lead v) (hl : j < v.length) : O.isz (O.el v j) = true := by
  rw [O.el_in (List.getElem?_eq_getElem hl)]
  have := List.not_of_lt_findIdx (p := fun x => !O.isz x) (xs := v) h
  simpa using this
theorem lead_at {K : Type} (O : Ops K) {v : List K} (h : O.lead v < v.length) : O.isz (O.el v (O.lead v)) = false := by
  rw [O.el_in (List.getElem?_eq_getElem h)]
  have := List.findIdx_getElem (p := fun x => !O.isz x) (xs := v) (w := h)
  rw [Bool.not_eq_true'] at this
  exact this
theorem lead_le {K : Type} (O : Ops K) (v : List K) : O.lead v ≤ v.length := List.findIdx_le_length
theorem lead_of {K : Type} (O : Ops K) {v : List K} {p : Nat} (hp : O.isz (O.el v p) = false) (hl : p < v.length) (h0 : ∀ j, j < p → O.isz (O.el v j) = true) : O.lead v = p := by
  rcases Nat.lt_trichotomy (O.lead v) p with h | h | h
  · have := lead_at O (Nat.lt_trans h hl)
    rw [h0 _ h] at this; cases this
  · exact h
  · have := lead_zero O h hl
    rw [hp] at this; cases this
theorem rrp_iff {K : Type} (F : Fld K) {n : Nat} {R : List (List K)} : RrP F.toOps n R ↔ IsRref F n R := by
  constructor
  · intro h
    have hasc : ∀ (d i : Nat) (u v : List K), R[i]? = some u → R[i + (d + 1)]? = some v → F.lead u < F.lead v := by
      intro d
      induction d with
      | zero => exact h.asc
      | succ d ih =>
        intro i u v hu hv
        have hl := (List.getElem?_eq_some_iff.1 hv).1
        obtain ⟨x, hx⟩ : ∃ x, R[i + (d + 1)]? = some x := ⟨_, List.getElem?_eq_getElem (by omega)⟩
        exact Nat.lt_trans (ih i u x hu hx) (h.asc _ x v hx hv)
    have hP : ∀ (i p : Nat), (R.map F.lead)[i]? = some p → ∃ u, R[i]? = some u ∧ p = F.lead u := fun i p hp => by
      rw [List.getElem?_map] at hp
      cases hx : R[i]? with
      | none => rw [hx] at hp; cases hp
      | some x => rw [hx] at hp; injection hp with hp; exact ⟨x, rfl, hp.symm⟩
    refine ⟨h.len, R.map F.lead, by simp, Nat.le_refl _, ?_, ?_, ?_, ?_, ?_, ?_⟩
    · rw [List.pairwise_iff_getElem]
      intro i j hi hj hij
      rw [List.length_map] at hi hj
      rw [List.getElem_map, List.getElem_map]
      refine hasc (j - i - 1) i _ _ (List.getElem?_eq_getElem hi) ?_
      rw [show i + (j - i - 1 + 1) = j by omega]
      exact List.getElem?_eq_getElem hj
    · intro p hp
      obtain ⟨v, hv, rfl⟩ := List.mem_map.1 hp
      exact (h.one v hv).1
    · intro i p v hp hv
      obtain ⟨u, hu, rfl⟩ := hP i p hp
      rw [hu] at hv; injection hv with hv; subst hv
      exact (h.one u (List.mem_of_getElem? hu)).2
    · intro i i' p v hp hv hne
      obtain ⟨u, hu, rfl⟩ := hP i p hp
      exact (F.isz_iff _).1 (h.zer i i' u v hu hv (fun e => hne e.symm))
    · intro i p v hp hv j hj
      obtain ⟨u, hu, rfl⟩ := hP i p hp
      rw [hu] at hv; injection hv with hv; subst hv
      exact (F.isz_iff _).1 (lead_zero F.toOps hj (by have := lead_le F.toOps u; omega))
    · intro i v hi hv
      have := (List.getElem?_eq_some_iff.1 hv).1
      omega
  · rintro ⟨hw, P, h⟩
    have hlead : ∀ (i : Nat) (v : List K), R[i]? = some v → ∃ p, P[i]? = some p ∧ F.lead v = p ∧ p < n := fun i v hv => by
      have hl := (List.getElem?_eq_some_iff.1 hv).1
      obtain ⟨p, hp⟩ : ∃ p, P[i]? = some p := ⟨_, List.getElem?_eq_getElem (by rw [h.pl]; exact hl)⟩
      have hpn := h.lt p (List.mem_of_getElem? hp)
      refine ⟨p, hp, lead_of F.toOps ?_ (by rw [hw v (List.mem_of_getElem? hv)]; exact hpn) fun j hj => (F.isz_iff _).2 (h.led i p v hp hv j hj), hpn⟩
      cases hb : F.isz (F.el v p) with
      | false => rfl
      | true => exact absurd (((F.isz_iff _).1 hb).symm.trans (h.one i p v hp hv)) (fun e => F.o_ne e.symm)
    refine ⟨hw, fun v hv => ?_, fun i u v hu hv => ?_, fun i k u v hu hv hne => ?_⟩
    · obtain ⟨i, hi⟩ := List.getElem?_of_mem hv
      obtain ⟨p, hp, e, hpn⟩ := hlead i v hi
      rw [e]
      exact ⟨hpn, h.one i p v hp hi⟩
    · obtain ⟨p, hp, e, _⟩ := hlead i u hu
      obtain ⟨q, hq, e2, _⟩ := hlead _ v hv
      rw [e, e2]
      have hpl := (List.getElem?_eq_some_iff.1 hp)
      have hql := (List.getElem?_eq_some_iff.1 hq)
      have := List.pairwise_iff_getElem.1 h.asc i (i + 1) hpl.1 hql.1 (by omega)
      rwa [hpl.2, hql.2] at this
    · obtain ⟨p, hp, e, _⟩ := hlead i u hu
      rw [e]
      exact (F.isz_iff _).2 (h.zer i k p v hp hv (fun e => hne e.symm))
end Go.Proofs.YtmekhjnhcgmphaaDoor
namespace Go.Proofs.YtmekhjnhcgmphaaDoor
set_option maxRecDepth 100000
open Go Go.RowKit
/-- From w on, the size function f takes z off what is left. -/
def QS (f : FuncId) (w : World) (v : Value) (z : Int) : Prop := ∀ (u : World) (l : Int), Ex w u → 0 ≤ l → l ≤ 1048576 →
  Calls Tryd.prog f #[v, .int .i64 l] u fun e u' => e = .returned (.int .i64 (if l < z then -1 else l - z)) ∧ Ex u u'
theorem QS.ex {f : FuncId} {w w' : World} {v : Value} {z : Int} (h : QS f w v z) (he : Ex w w') : QS f w' v z := fun u l hu => h u l (he.trans hu)
theorem ExI.of_ex1 {g : Nat} {w w' : World} (h : Ex1 g w w') : ExI g (g + 1) w w' := ⟨h.os, h.tape, h.output, h.size, fun k hk ho => h.block k hk (by intro e; injection e; omega)⟩
theorem VB.st2 {w : World} {g : Nat} {t : TypeId} {a b : Value} (h : VB w g t #[a, b]) (u0 u1 : Value) : VB ((w.setCell ⟨g, 0, none⟩ u0).setCell ⟨g, 1, none⟩ u1) g t #[u0, u1] ∧ Ex1 g w ((w.setCell ⟨g, 0, none⟩ u0).setCell ⟨g, 1, none⟩ u1) :=
  ⟨(h.set_ 0 u0).set_ 1 u1, ((Ex1.refl g w).setCell (p := ⟨g, 0, none⟩) rfl u0).setCell (p := ⟨g, 1, none⟩) rfl u1⟩
theorem VB.st3 {w : World} {g : Nat} {t : TypeId} {a b c : Value} (h : VB w g t #[a, b, c]) (u0 u1 u2 : Value) : VB (((w.setCell ⟨g, 0, none⟩ u0).setCell ⟨g, 1, none⟩ u1).setCell ⟨g, 2, none⟩ u2) g t #[u0, u1, u2] ∧ Ex1 g w (((w.setCell ⟨g, 0, none⟩ u0).setCell ⟨g, 1, none⟩ u1).setCell ⟨g, 2, none⟩ u2) :=
  ⟨((h.set_ 0 u0).set_ 1 u1).set_ 2 u2, (((Ex1.refl g w).setCell (p := ⟨g, 0, none⟩) rfl u0).setCell (p := ⟨g, 1, none⟩) rfl u1).setCell (p := ⟨g, 2, none⟩) rfl u2⟩
/-- v reads as the ints xs. -/
def RI (w : World) (v : Value) (xs : List Int) : Prop := ∃ A c, v = .slice A xs.length c ∧ Rd w A xs
def totI (xs : List Int) : Int := xs.length
def mkI (k : Int) (xs : List Int) : List Int := mk k xs.length
theorem totI_nn (xs : List Int) : 0 ≤ totI xs := Int.natCast_nonneg _
theorem RI.ex {w w' : World} {v : Value} {xs : List Int} (h : RI w v xs) (he : Ex w w') : RI w' v xs := by
  obtain ⟨A, c, e, r⟩ := h
  exact ⟨A, c, e, r.ex he⟩
theorem RI.form {w : World} {v : Value} {xs : List Int} (h : RI w v xs) : ∃ A n c, v = .slice A n c := by
  obtain ⟨A, c, e, r⟩ := h
  exact ⟨A, _, c, e⟩
theorem RI.tot {w : World} {v : Value} {xs : List Int} (h : RI w v xs) : totI xs ≤ 1125899906842624 := by
  obtain ⟨A, c, e, r⟩ := h
  have := r.len
  show ((xs.length : Nat) : Int) ≤ _
  omega
def OI (w : World) (a b : Nat) (v : Value) (xs : List Int) : Prop := ∃ A c, v = .slice A xs.length c ∧ FI w a b A c xs
theorem OI.rd {w : World} {a b : Nat} {v : Value} {xs : List Int} (h : OI w a b v xs) : RI w v xs := by
  obtain ⟨A, c, e, r⟩ := h
  exact ⟨A, c, e, r.rd⟩
theorem OI.ex {w w' : World} {a b : Nat} {v : Value} {xs : List Int} (h : OI w a b v xs) (he : Ex w w') : OI w' a b v xs := by
  obtain ⟨A, c, e, r⟩ := h
  exact ⟨A, c, e, r.ex he⟩
theorem OI.iv {w w' : World} {a b a' b' : Nat} {v : Value} {xs : List Int} (h : OI w a b v xs) (k : ExI a' b' w w') (hd : b ≤ a' ∨ b' ≤ a) : OI w' a b v xs := by
  obtain ⟨A, c, e, r⟩ := h
  exact ⟨A, c, e, r.iv k hd⟩
theorem OI.e1 {w w' : World} {a b g : Nat} {v : Value} {xs : List Int} (h : OI w a b v xs) (k : Ex1 g w w') (hd : g < a ∨ b ≤ g) : OI w' a b v xs := h.iv (ExI.of_ex1 k) (by omega)
theorem OI.more {w : World} {a b a' b' : Nat} {v : Value} {xs : List Int} (h : OI w a b v xs) (ha : a' ≤ a) (hb : b ≤ b') : OI w a' b' v xs := by
  obtain ⟨A, c, e, r⟩ := h
  exact ⟨A, c, e, r.more ha hb⟩
theorem eqIntS_u (x : List Int) (v u : Value) (w : World) (h : RI w v x) (h' : RI w u x) :
    Calls Tryd.prog 18 #[v, u] w fun e w' => e = .returned (.bool true) ∧ Ex w w' := by
  obtain ⟨A, c, rfl, r⟩ := h
  obtain ⟨A', c', rfl, r'⟩ := h'
  exact (eqIntS_c A A' c c' x w r r').mono fun _ _ h => h
theorem markIntS_u (lo hi : Nat) (x : List Int) (v : Value) (k : Int) (w : World) (h : OI w lo hi v x) (_ : hi ≤ w.heap.size) (hk0 : 0 ≤ k) (hk : k + totI x ≤ 4611686018427387904) :
    Calls Tryd.prog 19 #[v, .int .i64 k] w fun e w' => e = .returned (.int .i64 (k + totI x)) ∧ OI w' lo hi v (mkI k x) ∧ ExI lo hi w w' := by
  obtain ⟨A, c, rfl, r⟩ := h
  have hn := totI_nn x
  refine (markIntS_i lo hi A c x k w r hk0 (by omega)).mono ?_
  rintro e w' ⟨rfl, m, z⟩
  exact ⟨rfl, ⟨A, c, by rw [mkI, mk_len], m⟩, z⟩
theorem heldIntS_u (x : List Int) (v : Value) (k : Int) (w : World) (h : RI w v (mkI k x)) (hk0 : 0 ≤ k) (hk : k + totI x ≤ 4611686018427387904) :
    Calls Tryd.prog 43 #[v, .int .i64 k] w fun e w' => e = .returned (.int .i64 (k + totI x)) ∧ Ex w w' := by
  obtain ⟨A, c, e, r⟩ := h
  rw [mkI, mk_len] at e
  subst e
  have hn := totI_nn x
  refine (heldIntS_c A c k x.length w r hk0 (by omega)).mono ?_
  rintro e w' ⟨rfl, rfl⟩
  exact ⟨rfl, Ex.refl _⟩
end Go.Proofs.YtmekhjnhcgmphaaDoor
namespace Go.Proofs.YtmekhjnhcgmphaaDoor
set_option maxRecDepth 100000
open Go Go.RowKit
structure Fra where
  n : List Int
  d : List Int
def RFra (w : World) (v0 v1 : Value) (x : Fra) : Prop := RI w v0 x.n ∧ RI w v1 x.d
def totFra (x : Fra) : Int := totI x.n + totI x.d
def mkFra (k : Int) (x : Fra) : Fra := ⟨mkI (k) x.n, mkI (k + totI x.n) x.d⟩
theorem totFra_nn (x : Fra) : 0 ≤ totFra x := by
  unfold totFra
  have h0 := totI_nn x.n
  have h1 := totI_nn x.d
  omega
theorem RFra.ex {w w' : World} {v0 v1 : Value} {x : Fra} (h : RFra w v0 v1 x) (he : Ex w w') : RFra w' v0 v1 x := by
  obtain ⟨h0, h1⟩ := h
  exact ⟨h0.ex he, h1.ex he⟩
theorem RFra.tot {w : World} {v0 v1 : Value} {x : Fra} (h : RFra w v0 v1 x) : totFra x ≤ 2251799813685248 := by
  obtain ⟨h0, h1⟩ := h
  have t0 := h0.tot
  have t1 := h1.tot
  unfold totFra
  omega
theorem RFra.form {w : World} {v0 v1 : Value} {x : Fra} (h : RFra w v0 v1 x) : ∃ A0 n0 c0 A1 n1 c1, v0 = .slice A0 n0 c0 ∧ v1 = .slice A1 n1 c1 := by
  obtain ⟨h0, h1⟩ := h
  obtain ⟨A0, n0, c0, e0⟩ := h0.form
  obtain ⟨A1, n1, c1, e1⟩ := h1.form
  exact ⟨A0, n0, c0, A1, n1, c1, e0, e1⟩
def OFra (w : World) (lo hi : Nat) (v0 v1 : Value) (x : Fra) : Prop := ∃ (a0 b0 a1 b1 : Nat), OI w a0 b0 v0 x.n ∧ OI w a1 b1 v1 x.d ∧ lo ≤ a0 ∧ b0 ≤ hi ∧ lo ≤ a1 ∧ b1 ≤ hi ∧ (b0 ≤ a1 ∨ b1 ≤ a0)
theorem OFra.rd {w : World} {lo hi : Nat} {v0 v1 : Value} {x : Fra} (h : OFra w lo hi v0 v1 x) : RFra w v0 v1 x := by
  obtain ⟨a0, b0, a1, b1, m0, m1, c0, c1, c2, c3, c4⟩ := h
  exact ⟨m0.rd, m1.rd⟩
theorem OFra.ex {w w' : World} {lo hi : Nat} {v0 v1 : Value} {x : Fra} (h : OFra w lo hi v0 v1 x) (he : Ex w w') : OFra w' lo hi v0 v1 x := by
  obtain ⟨a0, b0, a1, b1, m0, m1, c0, c1, c2, c3, c4⟩ := h
  exact ⟨a0, b0, a1, b1, m0.ex he, m1.ex he, c0, c1, c2, c3, c4⟩
theorem OFra.iv {w w' : World} {lo hi : Nat} {v0 v1 : Value} {x : Fra} (h : OFra w lo hi v0 v1 x) {a b : Nat} (q : ExI a b w w') (hd : hi ≤ a ∨ b ≤ lo) : OFra w' lo hi v0 v1 x := by
  obtain ⟨a0, b0, a1, b1, m0, m1, c0, c1, c2, c3, c4⟩ := h
  exact ⟨a0, b0, a1, b1, m0.iv q (by omega), m1.iv q (by omega), c0, c1, c2, c3, c4⟩
theorem OFra.e1 {w w' : World} {lo hi : Nat} {v0 v1 : Value} {x : Fra} (h : OFra w lo hi v0 v1 x) {g : Nat} (q : Ex1 g w w') (hd : g < lo ∨ hi ≤ g) : OFra w' lo hi v0 v1 x := by
  obtain ⟨a0, b0, a1, b1, m0, m1, c0, c1, c2, c3, c4⟩ := h
  exact ⟨a0, b0, a1, b1, m0.e1 q (by omega), m1.e1 q (by omega), c0, c1, c2, c3, c4⟩
theorem OFra.more {w : World} {lo hi lo' hi' : Nat} {v0 v1 : Value} {x : Fra} (h : OFra w lo hi v0 v1 x) (h1 : lo' ≤ lo) (h2 : hi ≤ hi') : OFra w lo' hi' v0 v1 x := by
  obtain ⟨a0, b0, a1, b1, m0, m1, c0, c1, c2, c3, c4⟩ := h
  exact ⟨a0, b0, a1, b1, m0, m1, by omega, by omega, by omega, by omega, by omega⟩
set_option maxHeartbeats 4000000 in
set_option maxRecDepth 100000 in
theorem eqFraction_u (x : Fra) (v0 v1 u0 u1 : Value) (w : World) (h : RFra w v0 v1 x) (h' : RFra w u0 u1 x) :
    Calls Tryd.prog 17 #[.agg #[v0, v1], .agg #[u0, u1]] w fun e w' => e = .returned (.bool true) ∧ Ex w w' := by
  obtain ⟨x0, x1⟩ := x
  obtain ⟨h0, h1⟩ := h
  obtain ⟨g0, g1⟩ := h'
  dsimp only at h0 g0 h1 g1 ⊢
  have x1 := (Ex.refl w).alloc (.cells #[v0, v1] 40)
  have d1 := VB.new w 40 #[v0, v1]
  have S1 := Lib.hid (show (w.alloc (.cells #[v0, v1] 40)).heap.size = w.heap.size + 1 by simp)
  go_enter Tryd.func17, Tryd.ntmps17
  go_wp2_with fail
  generalize w.alloc (.cells #[v0, v1] 40) = W1 at *
  have y2 := (Ex.refl W1).alloc (.cells #[u0, u1] 40)
  have d2 := VB.new W1 40 #[u0, u1]
  rw [S1.out] at d2
  generalize W1.alloc (.cells #[u0, u1] 40) = V0 at *
  have xx := x1.trans y2
  have dA := d1.ex y2
  have dB := d2
  clear x1 d1 d2 y2 S1
  refine (eqIntS_u x0 v0 u0 V0 (h0.ex xx) (g0.ex xx)).mono ?_
  rintro e V1 ⟨rfl, z0⟩
  replace dA := dA.ex z0
  replace dB := dB.ex z0
  replace xx := xx.trans z0
  have q0 := dA.cell 1 (v := v1) rfl
  have q1 := dB.cell 1 (v := u1) rfl
  go_wp2_with fail
  clear q0 q1
  refine (eqIntS_u x1 v1 u1 V1 (h1.ex xx) (g1.ex xx)).mono ?_
  rintro e V2 ⟨rfl, z1⟩
  replace dA := dA.ex z1
  replace dB := dB.ex z1
  replace xx := xx.trans z1
  go_wp2
  go_ret
  exact ⟨rfl, xx⟩
end Go.Proofs.YtmekhjnhcgmphaaDoor
