/- Rows of elements in blocks of their own: memory. -/
import Derived.Test.YtmekhjnhcgmphaaDoorMat
import Derived.Test.YtmekhjnhcgmphaaDoorFldZ
namespace Go.Proofs.YtmekhjnhcgmphaaDoor
set_option maxRecDepth 100000
open Go Go.RowKit
/-- Block G lists rows of n elements; row j lies in block bs[j]; no two blocks are one. -/
structure IM (w : World) (G n : Nat) (bs : List Nat) (rows : List (List Int)) : Prop where
  out : ∃ cur : Array Value, w.heap[G]? = some (.cells cur 38 (0, 0)) ∧ ∀ (j b : Nat), bs[j]? = some b → ∃ c, n ≤ c ∧ cur[j]? = some (.slice (some ⟨b, 0, none⟩) n c)
  len : bs.length = rows.length
  row : ∀ (j b : Nat) (r : List Int), bs[j]? = some b → rows[j]? = some r → Own w b r ∧ r.length = n
  nd : ∀ (i j b : Nat), bs[i]? = some b → bs[j]? = some b → i = j
  ng : ∀ (j b : Nat), bs[j]? = some b → b ≠ G
theorem IM.lt {w : World} {G n : Nat} {bs : List Nat} {rows : List (List Int)} (h : IM w G n bs rows) : G < w.heap.size := by obtain ⟨_, h, _⟩ := h.out; exact heap_lt_of h
theorem IM.frozen {w : World} {G n : Nat} {bs : List Nat} {rows : List (List Int)} (h : IM w G n bs rows) (i : Nat) : w.frozen? ⟨G, i, none⟩ = false := by
  obtain ⟨cur, hc, _⟩ := h.out
  simp [World.frozen?, hc]
theorem IM.at_ {w : World} {G n : Nat} {bs : List Nat} {rows : List (List Int)} (h : IM w G n bs rows) {j : Nat} (hj : j < rows.length) : ∃ b r c, n ≤ c ∧ bs[j]? = some b ∧ rows[j]? = some r ∧ r.length = n ∧ Own w b r ∧ b ≠ G ∧ w.cell? ⟨G, j, none⟩ = some (.slice (some ⟨b, 0, none⟩) n c) := by
  obtain ⟨b, hb⟩ : ∃ b, bs[j]? = some b := ⟨_, List.getElem?_eq_getElem (by rw [h.len]; exact hj)⟩
  obtain ⟨r, hr⟩ : ∃ r, rows[j]? = some r := ⟨_, List.getElem?_eq_getElem hj⟩
  obtain ⟨cur, hc, hx⟩ := h.out
  obtain ⟨c, hnc, hcc⟩ := hx j b hb
  obtain ⟨h1, h2⟩ := h.row j b r hb hr
  exact ⟨b, r, c, hnc, hb, hr, h2, h1, h.ng j b hb, by simp [World.cell?, hc, hcc]⟩
theorem IM.keep {w w' : World} {G n : Nat} {bs : List Nat} {rows : List (List Int)} (h : IM w G n bs rows) (k : ∀ q, q < w.heap.size → (q = G ∨ ∃ j : Nat, bs[j]? = some q) → w'.heap[q]? = w.heap[q]?) : IM w' G n bs rows := by
  have hl := h.lt
  obtain ⟨cur, hc, hx⟩ := h.out
  refine ⟨⟨cur, (k G hl (.inl rfl)).trans hc, hx⟩, h.len, fun j b r h1 h2 => ?_, h.nd, h.ng⟩
  obtain ⟨⟨cu, q1, q2⟩, q3⟩ := h.row j b r h1 h2
  exact ⟨⟨cu, (k b (heap_lt_of q1) (.inr ⟨j, h1⟩)).trans q1, q2⟩, q3⟩
theorem IM.ex {w w' : World} {G n : Nat} {bs : List Nat} {rows : List (List Int)} (h : IM w G n bs rows) (k : Ex w w') : IM w' G n bs rows := h.keep fun _ hq _ => k.block hq
/-- One row has been turned. -/
theorem IM.turn {w w' : World} {G n : Nat} {bs : List Nat} {rows : List (List Int)} (h : IM w G n bs rows) {i b : Nat} (hi : bs[i]? = some b) {r' : List Int} (hr : Own w' b r') (hl : r'.length = n) (k : Ex1 b w w') : IM w' G n bs (rows.set i r') := by
  have hgl := h.lt
  have hgb := h.ng i b hi
  have hil := (List.getElem?_eq_some_iff.1 hi).1
  obtain ⟨cur, hc, hx⟩ := h.out
  refine ⟨⟨cur, (k.block G hgl (by intro e; injection e with e; exact hgb e.symm)).trans hc, hx⟩, by rw [List.length_set]; exact h.len, fun j b' r h1 h2 => ?_, h.nd, h.ng⟩
  rw [List.getElem?_set] at h2
  by_cases e : i = j
  · subst e
    rw [if_pos rfl, if_pos (by rw [← h.len]; exact hil)] at h2
    injection h2 with h2
    subst h2
    rw [hi] at h1
    injection h1 with h1
    subst h1
    exact ⟨hr, hl⟩
  · rw [if_neg e] at h2
    obtain ⟨⟨cu, q1, q2⟩, q3⟩ := h.row j b' r h1 h2
    exact ⟨⟨cu, (k.block b' (heap_lt_of q1) (by intro e2; injection e2 with e2; subst e2; exact e (h.nd i j b' hi h1))).trans q1, q2⟩, q3⟩
/-- Two rows have been exchanged. -/
theorem IM.swap {w : World} {G n : Nat} {bs : List Nat} {rows : List (List Int)} (h : IM w G n bs rows) {i k bi bk ci ck : Nat} {ri rk : List Int} (hi : bs[i]? = some bi) (hk : bs[k]? = some bk) (hri : rows[i]? = some ri) (hrk : rows[k]? = some rk) (hci : n ≤ ci) (hck : n ≤ ck) :
    IM ((w.setCell ⟨G, i, none⟩ (.slice (some ⟨bk, 0, none⟩) n ck)).setCell ⟨G, k, none⟩ (.slice (some ⟨bi, 0, none⟩) n ci)) G n ((bs.set i bk).set k bi) ((rows.set i rk).set k ri) := by
  have hil := (List.getElem?_eq_some_iff.1 hi).1
  have hkl := (List.getElem?_eq_some_iff.1 hk).1
  have kx : Ex1 G w ((w.setCell ⟨G, i, none⟩ (.slice (some ⟨bk, 0, none⟩) n ck)).setCell ⟨G, k, none⟩ (.slice (some ⟨bi, 0, none⟩) n ci)) := ((Ex1.refl G w).setCell (p := ⟨G, i, none⟩) rfl _).setCell (p := ⟨G, k, none⟩) rfl _
  have at2 : ∀ {α : Type} (l : List α) (a b : α) (j : Nat) (x : α), i < l.length → k < l.length → ((l.set i a).set k b)[j]? = some x → (j = k ∧ x = b) ∨ (j ≠ k ∧ j = i ∧ x = a) ∨ (j ≠ k ∧ j ≠ i ∧ l[j]? = some x) := by
    intro α l a b j x h1 h2 h3
    rw [List.getElem?_set] at h3
    split at h3
    · rename_i e
      rw [if_pos (by rw [List.length_set]; omega)] at h3
      injection h3 with h3
      exact .inl ⟨e.symm, h3.symm⟩
    · rename_i e
      rw [List.getElem?_set] at h3
      split at h3
      · rename_i e2
        try rw [if_pos (by omega)] at h3
        injection h3 with h3
        exact .inr (.inl ⟨fun e3 => e e3.symm, e2.symm, h3.symm⟩)
      · rename_i e2
        exact .inr (.inr ⟨fun e3 => e e3.symm, fun e3 => e2 e3.symm, h3⟩)
  have hri' := h.row i bi ri hi hri
  have hrk' := h.row k bk rk hk hrk
  have hgl := h.lt
  have hlen := h.len
  have keep : ∀ (b : Nat) (r : List Int) (j : Nat), bs[j]? = some b → Own w b r → Own ((w.setCell ⟨G, i, none⟩ (.slice (some ⟨bk, 0, none⟩) n ck)).setCell ⟨G, k, none⟩ (.slice (some ⟨bi, 0, none⟩) n ci)) b r := fun b r j h1 ⟨cu, q1, q2⟩ => ⟨cu, (kx.block b (heap_lt_of q1) (by intro e; injection e with e; exact h.ng j b h1 e)).trans q1, q2⟩
  obtain ⟨cur, hc, hx⟩ := h.out
  refine ⟨⟨(cur.setIfInBounds i (.slice (some ⟨bk, 0, none⟩) n ck)).setIfInBounds k (.slice (some ⟨bi, 0, none⟩) n ci), by simp [World.setCell, Array.getElem?_modify, hc], fun j b hj => ?_⟩, by simp [hlen], fun j b r h1 h2 => ?_, fun a b z h1 h2 => ?_, fun j b hj => ?_⟩
  · obtain ⟨_, _, hi1⟩ := hx i bi hi
    obtain ⟨_, _, hk1⟩ := hx k bk hk
    have l1 : i < cur.size := (Array.getElem?_eq_some_iff.1 hi1).1
    have l2 : k < cur.size := (Array.getElem?_eq_some_iff.1 hk1).1
    rcases at2 bs bk bi j b hil hkl hj with ⟨e, e2⟩ | ⟨e, e2, e3⟩ | ⟨e, e2, e3⟩
    · subst e e2
      exact ⟨ci, hci, by rw [Array.getElem?_setIfInBounds, if_pos rfl, if_pos (by simpa using l2)]⟩
    · subst e2 e3
      exact ⟨ck, hck, by rw [Array.getElem?_setIfInBounds, if_neg (fun h => e h.symm), Array.getElem?_setIfInBounds, if_pos rfl, if_pos l1]⟩
    · obtain ⟨c, hnc, hc'⟩ := hx j b e3
      exact ⟨c, hnc, by rw [Array.getElem?_setIfInBounds, if_neg (fun h => e h.symm), Array.getElem?_setIfInBounds, if_neg (fun h => e2 h.symm)]; exact hc'⟩
  · rcases at2 bs bk bi j b hil hkl h1 with ⟨e, e2⟩ | ⟨e, e2, e3⟩ | ⟨e, e2, e3⟩
    · subst e e2
      rcases at2 rows rk ri j r (by omega) (by omega) h2 with ⟨_, e4⟩ | ⟨e4, _⟩ | ⟨e4, _⟩
      · subst e4; exact ⟨keep _ _ i hi hri'.1, hri'.2⟩
      · exact absurd rfl e4
      · exact absurd rfl e4
    · subst e2 e3
      rcases at2 rows rk ri j r (by omega) (by omega) h2 with ⟨e4, _⟩ | ⟨_, _, e4⟩ | ⟨_, e4, _⟩
      · exact absurd e4 e
      · subst e4; exact ⟨keep _ _ k hk hrk'.1, hrk'.2⟩
      · exact absurd rfl e4
    · rcases at2 rows rk ri j r (by omega) (by omega) h2 with ⟨e4, _⟩ | ⟨_, e4, _⟩ | ⟨_, _, e4⟩
      · exact absurd e4 e
      · exact absurd e4 e2
      · exact ⟨keep _ _ j e3 (h.row j b r e3 e4).1, (h.row j b r e3 e4).2⟩
  · rcases at2 bs bk bi a _ hil hkl h1 with ⟨e1, q1⟩ | ⟨e1, f1, q1⟩ | ⟨e1, f1, q1⟩ <;> rcases at2 bs bk bi b _ hil hkl h2 with ⟨e2, q2⟩ | ⟨e2, f2, q2⟩ | ⟨e2, f2, q2⟩
    · omega
    · rw [← q1] at hi; rw [← q2] at hk; have := h.nd i k z hi hk; omega
    · rw [← q1] at hi; have := h.nd i b z hi q2; omega
    · rw [← q1] at hk; rw [← q2] at hi; have := h.nd i k z hi hk; omega
    · omega
    · rw [← q1] at hk; have := h.nd k b z hk q2; omega
    · rw [← q2] at hi; have := h.nd a i z q1 hi; omega
    · rw [← q2] at hk; have := h.nd a k z q1 hk; omega
    · exact h.nd a b z q1 q2
  · rcases at2 bs bk bi j _ hil hkl hj with ⟨e1, q1⟩ | ⟨e1, f1, q1⟩ | ⟨e1, f1, q1⟩
    · rw [← q1] at hi; exact h.ng i b hi
    · rw [← q1] at hk; exact h.ng k b hk
    · exact h.ng j b q1
/-- Block G lists R slices that are nil. -/
def NilM (w : World) (G R : Nat) : Prop := ∃ cur : Array Value, w.heap[G]? = some (.cells cur 38 (0, 0)) ∧ ∀ j, j < R → cur[j]? = some (.slice none 0 0)
theorem NilM.cell {w : World} {G R j : Nat} (h : NilM w G R) (hj : j < R) : w.cell? ⟨G, j, none⟩ = some (.slice none 0 0) := by
  obtain ⟨cur, hc, hx⟩ := h
  simp [World.cell?, hc, hx j hj]
theorem NilM.frozen {w : World} {G R : Nat} (h : NilM w G R) (i : Nat) : w.frozen? ⟨G, i, none⟩ = false := by
  obtain ⟨cur, hc, _⟩ := h
  simp [World.frozen?, hc]
theorem NilM.lt {w : World} {G R : Nat} (h : NilM w G R) : G < w.heap.size := by obtain ⟨_, h, _⟩ := h; exact heap_lt_of h
theorem NilM.keep {w w' : World} {G R : Nat} (h : NilM w G R) (k : w'.heap[G]? = w.heap[G]?) : NilM w' G R := by
  obtain ⟨cur, hc, hx⟩ := h
  exact ⟨cur, k.trans hc, hx⟩
theorem NilM.set {w : World} {G R : Nat} (h : NilM w G R) (i : Nat) : NilM (w.setCell ⟨G, i, none⟩ (.slice none 0 0)) G R := by
  obtain ⟨cur, hc, hx⟩ := h
  refine ⟨cur.setIfInBounds i (.slice none 0 0), by simp [World.setCell, Array.getElem?_modify, hc], fun j hj => ?_⟩
  rw [Array.getElem?_setIfInBounds]
  split
  · split
    · rfl
    · rename_i e h2
      subst e
      have := (Array.getElem?_eq_some_iff.1 (hx _ hj)).1
      omega
  · exact hx j hj
end Go.Proofs.YtmekhjnhcgmphaaDoor
