/- Linear algebra over a field, no program in sight: reduced lists are told by their span; kernels. Plain lemmas of mine. -/
import Derived.Test.YtmekhjnhcgmphaaDoorLinA
namespace Go.Proofs.YtmekhjnhcgmphaaDoor
set_option maxRecDepth 100000
/-- A reduced list of rows of n elements. -/
def IsRref {K : Type} (F : Fld K) (n : Nat) (R : List (List K)) : Prop := Wid n R ∧ ∃ P, Ech F R R.length n P
theorem Ech.take {K : Type} {F : Fld K} {rows : List (List K)} {r c : Nat} {P : List Nat} (h : Ech F rows r c P) : Ech F (rows.take r) (rows.take r).length c P := by
  have hr := h.hr
  have hl : (rows.take r).length = r := by rw [List.length_take]; omega
  have at_ : ∀ (i : Nat) (v : List K), (rows.take r)[i]? = some v → rows[i]? = some v := fun i v hv => by
    rw [List.getElem?_take] at hv
    split at hv
    · exact hv
    · cases hv
  exact ⟨by rw [hl]; exact h.pl, Nat.le_refl _, h.asc, h.lt, fun i p v hp hv => h.one i p v hp (at_ i v hv), fun i i' p v hp hv hne => h.zer i i' p v hp (at_ i' v hv) hne, fun i p v hp hv => h.led i p v hp (at_ i v hv), fun i v hi hv => by
    have := (List.getElem?_eq_some_iff.1 hv).1
    omega⟩
theorem Wid.take {K : Type} {n : Nat} {rows : List (List K)} (h : Wid n rows) (r : Nat) : Wid n (rows.take r) := fun v hv => h v (List.mem_of_mem_take hv)
theorem rref_is {K : Type} (F : Fld K) {n : Nat} {rows : List (List K)} (hw : Wid n rows) : IsRref F n (F.rref n rows) := by
  obtain ⟨P, h, hw'⟩ := Ech.red (F := F) n 0 0 rows [] hw (Ech.start F rows)
  rw [Nat.zero_add] at h
  exact ⟨hw'.take _, P, h.take⟩
theorem take_span {K : Type} {F : Fld K} {n : Nat} {rows : List (List K)} {r : Nat} {P : List Nat} (h : Ech F rows r n P) (hw : Wid n rows) (v : Nat → K) : Sp F (F.fns (rows.take r)) v ↔ Sp F (F.fns rows) v := by
  constructor
  · refine Sp.sub fun q hq => ?_
    obtain ⟨u, hu, rfl⟩ := List.mem_map.1 hq
    exact List.mem_map.2 ⟨u, List.mem_of_mem_take hu, rfl⟩
  · refine Sp.mono fun q hq => ?_
    obtain ⟨u, hu, rfl⟩ := List.mem_map.1 hq
    obtain ⟨i, hi⟩ := List.getElem?_of_mem hu
    by_cases hir : i < r
    · exact Sp.mem (List.mem_map.2 ⟨u, List.mem_iff_getElem?.2 ⟨i, by rw [List.getElem?_take, if_pos hir]; exact hi⟩, rfl⟩)
    · have : F.fn u = F.vz := funext fun j => by
        by_cases hj : j < n
        · exact h.low i u (by omega) hi j hj
        · exact Ops.el_out _ (by rw [hw u hu]; omega)
      rw [this]
      exact Sp.zero F _
theorem rref_span {K : Type} (F : Fld K) {n : Nat} {rows : List (List K)} (hw : Wid n rows) (v : Nat → K) : Sp F (F.fns (F.rref n rows)) v ↔ Sp F (F.fns rows) v := by
  obtain ⟨P, h, hw'⟩ := Ech.red (F := F) n 0 0 rows [] hw (Ech.start F rows)
  rw [Nat.zero_add] at h
  exact (take_span h hw' v).trans (red_span n 0 0 rows hw v)
theorem rref_len {K : Type} (F : Fld K) {n : Nat} {R : List (List K)} (h : IsRref F n R) : R.length ≤ n := by
  obtain ⟨_, P, h⟩ := h
  have h1 : ∀ (k : Nat) (l : List Nat), l.Pairwise (· < ·) → (∀ p ∈ l, k ≤ p ∧ p < n) → l.length ≤ n - k := by
    intro k l
    induction l generalizing k with
    | nil => intro _ _; simp
    | cons x l ih =>
      intro ha hb
      rw [List.pairwise_cons] at ha
      have := ih (x + 1) ha.2 fun p hp => ⟨ha.1 p hp, (hb p (by simp [hp])).2⟩
      have := hb x (by simp)
      rw [List.length_cons]
      omega
  have := h1 0 P h.asc fun p hp => ⟨Nat.zero_le _, h.lt p hp⟩
  rw [h.pl] at this
  omega
end Go.Proofs.YtmekhjnhcgmphaaDoor
