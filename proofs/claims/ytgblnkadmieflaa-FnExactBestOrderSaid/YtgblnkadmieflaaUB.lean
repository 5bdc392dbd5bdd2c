/- A slice of structs that a loop fills, element by element. Plain lemmas of mine. -/
import Derived.Test.YtgblnkadmieflaaUS
namespace Go.Proofs.Ytgblnkadmieflaa
set_option maxRecDepth 100000
open Go Go.RowKit
variable {α : Type}
/-- The first k elements of xs lie in block g, the others are zero; each element's own memory lies behind that of the one before. -/
def Mk (E : EK α) (t : TypeId) (z : List Value) (w : World) (g : Nat) (xs : List α) (k : Nat) : Prop :=
  ∃ (us : List (List Value)) (al bl : Nat → Nat), us.length = k ∧ (∀ u ∈ us, u.length = E.k) ∧ VB w g t ((us ++ List.replicate (xs.length - k) z).flatten).toArray ∧ (∀ j, j < k → g < al j ∧ bl j ≤ w.heap.size) ∧ (∀ i j, i < j → j < k → bl i ≤ al j) ∧
    ∀ j x vs, xs[j]? = some x → us[j]? = some vs → E.O w (al j) (bl j) vs x
theorem Mk.start {E : EK α} {t : TypeId} {z : List Value} {w : World} {g : Nat} {xs : List α} (h : VB w g t ((List.replicate xs.length z).flatten).toArray) : Mk E t z w g xs 0 :=
  ⟨[], fun _ => 0, fun _ => 0, rfl, by simp, by simpa using h, fun j hj => by omega, fun i j _ hj => by omega, fun j x vs _ h => by simp at h⟩
theorem Mk.ex {E : EK α} {t : TypeId} {z : List Value} {w w' : World} {g k : Nat} {xs : List α} (h : Mk E t z w g xs k) (he : Ex w w') : Mk E t z w' g xs k := by
  obtain ⟨us, al, bl, h1, h2, h3, h4, h5, h6⟩ := h
  exact ⟨us, al, bl, h1, h2, h3.ex he, fun j hj => ⟨(h4 j hj).1, Nat.le_trans (h4 j hj).2 he.size⟩, h5, fun j x vs hj hu => E.oex (h6 j x vs hj hu) he⟩
theorem Mk.lt {E : EK α} {t : TypeId} {z : List Value} {w : World} {g k : Nat} {xs : List α} (h : Mk E t z w g xs k) : g < w.heap.size := by
  obtain ⟨us, al, bl, h1, h2, h3, _⟩ := h
  exact h3.lt
theorem Mk.frozen {E : EK α} {t : TypeId} {z : List Value} {w : World} {g k : Nat} {xs : List α} (h : Mk E t z w g xs k) (i : Nat) : w.frozen? ⟨g, i, none⟩ = false := by
  obtain ⟨us, al, bl, h1, h2, h3, _⟩ := h
  exact h3.frozen i
theorem Mk.zero {E : EK α} {t : TypeId} {z : List Value} {w : World} {g k : Nat} {xs : List α} (h : Mk E t z w g xs k) (hk : k < xs.length) {q : Nat} {u : Value} (hq : z[q]? = some u) : w.cell? ⟨g, k * E.k + q, none⟩ = some u := by
  obtain ⟨us, al, bl, h1, h2, h3, _⟩ := h
  have hf : us.flatten.length = k * E.k := by rw [flatten_len h2, h1]
  rw [show xs.length - k = (xs.length - (k + 1)) + 1 by omega, List.replicate_succ] at h3
  refine h3.cell (k * E.k + q) ?_
  have hql := (List.getElem?_eq_some_iff.1 hq).1
  rw [List.getElem?_toArray, List.flatten_append, List.getElem?_append_right (by rw [hf]; omega), hf, show k * E.k + q - k * E.k = q by omega, List.flatten_cons, List.getElem?_append_left hql, hq]
theorem Mk.put4 {E : EK α} {t : TypeId} {z : List Value} {w w1 : World} {g k : Nat} {xs : List α} (h : Mk E t z w g xs k) (hE : E.k = 4) (hz : z.length = 4) {x : α} (hx : xs[k]? = some x) (he : Ex w w1) {a b c d : Value} (ho : E.O w1 w.heap.size w1.heap.size [a, b, c, d] x) :
    Mk E t z ((((w1.setCell ⟨g, k * 4, none⟩ a).setCell ⟨g, k * 4 + 1, none⟩ b).setCell ⟨g, k * 4 + 2, none⟩ c).setCell ⟨g, k * 4 + 3, none⟩ d) g xs (k + 1) := by
  obtain ⟨us, al, bl, h1, h2, h3, h4, h5, h6⟩ := h
  have hlt := (List.getElem?_eq_some_iff.1 hx).1
  have hgl := h3.lt
  have hf : us.flatten.length = k * 4 := by rw [flatten_len h2, h1, hE]
  have v1 := h3.ex he
  rw [show xs.length - k = (xs.length - (k + 1)) + 1 by omega, List.replicate_succ] at v1
  have E1 : Ex1 g w1 ((((w1.setCell ⟨g, k * 4, none⟩ a).setCell ⟨g, k * 4 + 1, none⟩ b).setCell ⟨g, k * 4 + 2, none⟩ c).setCell ⟨g, k * 4 + 3, none⟩ d) := ((((Ex1.refl g w1).setCell (p := ⟨g, k * 4, none⟩) rfl a).setCell (p := ⟨g, k * 4 + 1, none⟩) rfl b).setCell (p := ⟨g, k * 4 + 2, none⟩) rfl c).setCell (p := ⟨g, k * 4 + 3, none⟩) rfl d
  have hv := (((v1.set_ (k * 4) a).set_ (k * 4 + 1) b).set_ (k * 4 + 2) c).set_ (k * 4 + 3) d
  simp only [List.setIfInBounds_toArray] at hv
  match z, hz with
  | [z0, z1, z2, z3], _ =>
    rw [flat_put4 (rest := List.replicate (xs.length - (k + 1)) [z0, z1, z2, z3]) hf z0 z1 z2 z3 a b c d] at hv
    generalize ((((w1.setCell ⟨g, k * 4, none⟩ a).setCell ⟨g, k * 4 + 1, none⟩ b).setCell ⟨g, k * 4 + 2, none⟩ c).setCell ⟨g, k * 4 + 3, none⟩ d) = w2 at *
    have s1 := he.size
    have s2 := E1.size
    refine ⟨us ++ [[a, b, c, d]], fun j => if j < k then al j else w.heap.size, fun j => if j < k then bl j else w1.heap.size, by simp [h1], fun u hu => ?_, by rw [List.append_assoc]; exact hv, fun j hj => ?_, fun i j hij hj => ?_, fun j y vs hj hu => ?_⟩
    · rcases List.mem_append.1 hu with hu | hu
      · exact h2 u hu
      · simp at hu; subst hu; exact hE.symm
    · dsimp only
      by_cases hjk : j < k
      · rw [if_pos hjk, if_pos hjk]; have := h4 j hjk; omega
      · rw [if_neg hjk, if_neg hjk]; omega
    · dsimp only
      have hik : i < k := by omega
      rw [if_pos hik]
      by_cases hjk : j < k
      · rw [if_pos hjk]; exact h5 i j hij hjk
      · rw [if_neg hjk]; exact (h4 i hik).2
    · dsimp only
      by_cases hjk : j < k
      · rw [if_pos hjk, if_pos hjk]
        rw [List.getElem?_append_left (by omega)] at hu
        have := h4 j hjk
        exact E.oiv (E.oex (h6 j y vs hj hu) he) (ExI.of_ex1 E1) (by omega)
      · rw [if_neg hjk, if_neg hjk]
        have hjk' : j = k := by
          have := (List.getElem?_eq_some_iff.1 hu).1
          rw [List.length_append, h1, List.length_singleton] at this
          omega
        subst hjk'
        rw [List.getElem?_append_right (by omega), h1, Nat.sub_self] at hu
        simp at hu
        subst hu
        rw [hx] at hj
        injection hj with hj
        subst hj
        exact E.oiv ho (ExI.of_ex1 E1) (by omega)
theorem Mk.done {E : EK α} {t : TypeId} {z : List Value} {w : World} {g : Nat} {xs : List α} (h : Mk E t z w g xs xs.length) (hl : xs.length ≤ 1099511627776) {lo : Nat} (hlo : lo ≤ g) : OwS E t w lo w.heap.size (some ⟨g, 0, none⟩) xs := by
  obtain ⟨us, al, bl, h1, h2, h3, h4, h5, h6⟩ := h
  rw [Nat.sub_self, List.replicate_zero, List.append_nil] at h3
  refine OwS.of_flat hl h1 h2 h3 al bl (fun j x vs hj hu => ?_) (fun i j hi hj hne => ?_) hlo h3.lt
  · have hjl := (List.getElem?_eq_some_iff.1 hj).1
    have := h4 j hjl
    exact ⟨h6 j x vs hj hu, by omega, by omega, .inl (by omega)⟩
  · rcases Nat.lt_or_gt_of_ne hne with hh | hh
    · exact .inl (h5 i j hh hj)
    · exact .inr (h5 j i hh hi)
theorem zsum_take_succ {zs : List Int} {k : Nat} {z : Int} (h : zs[k]? = some z) : (zs.take (k + 1)).sum = (zs.take k).sum + z := by
  rw [List.take_add_one, h]
  simp
theorem zsum_nn {zs : List Int} (h : ∀ (i : Nat) (z : Int), zs[i]? = some z → 0 ≤ z) : 0 ≤ zs.sum := by
  induction zs with
  | nil => simp
  | cons z zs ih =>
    rw [List.sum_cons]
    have h0 := h 0 z rfl
    have := ih (fun i y hy => h (i + 1) y (by simpa using hy))
    omega
theorem zsum_take_le {zs : List Int} (h : ∀ (i : Nat) (z : Int), zs[i]? = some z → 0 ≤ z) (k : Nat) : (zs.take k).sum ≤ zs.sum := by
  have e := List.take_append_drop k zs
  have : zs.sum = (zs.take k).sum + (zs.drop k).sum := by
    conv => lhs; rw [← e]
    simp only [List.sum_append]
  have := zsum_nn (zs := zs.drop k) (fun i z hz => h (k + i) z (by rw [List.getElem?_drop] at hz; exact hz))
  omega
end Go.Proofs.Ytgblnkadmieflaa
