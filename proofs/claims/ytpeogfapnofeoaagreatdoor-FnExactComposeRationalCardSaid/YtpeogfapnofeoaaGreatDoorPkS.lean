/- slices.Grow of an empty list of fractions; lists of pairs of values. slices.Concat of rows of fractions. Rows put together by append and by slices.Concat, as rows of a call's own that read in all good worlds. -/
import Derived.Test.YtpeogfapnofeoaaGreatDoorRfA
import Derived.Lib.AppendZeros
namespace Go.Proofs.YtpeogfapnofeoaaGreatDoor
set_option maxRecDepth 100000
open Go Go.RowKit
/-- Two values, a cell each. -/
def ELW : EL (Value × Value) where
  k := 2
  O := fun _ _ _ vs x => vs = [x.1, x.2] ∧ x.1.oneCell' = true ∧ x.2.oneCell' = true
  rlen := fun h => by rw [h.1]; rfl
  keep := fun h _ => h
  one := fun h u hu => by
    rw [h.1] at hu
    simp at hu
    rcases hu with rfl | rfl
    · exact h.2.1
    · exact h.2.2
/-- Pairs that stand for fractions read by w. -/
theorem pairs_rds {t : TypeId} {w : World} {B H : Nat} {v : Value} {prs : List (Value × Value)} {xs : List Fra} (h : GE ELW t w B H v prs) (hn : prs.length = xs.length) (hl : xs.length ≤ 1099511627776) (hr : ∀ (j : Nat) (x : Fra), xs[j]? = some x → ∃ a b, prs[j]? = some (a, b) ∧ RFra w a b x) : ∃ A c, v = .slice A xs.length c ∧ RdS EF w A xs := by
  by_cases hv : v = .slice none 0 0
  · subst hv
    have := h.len0
    subst this
    have : xs = [] := List.eq_nil_of_length_eq_zero hn.symm
    subst this
    exact ⟨none, 0, rfl, by simp, fun j x hj => by simp at hj⟩
  · obtain ⟨g, c, rfl, hgc, _⟩ := h.form hv
    obtain ⟨cur, al, bl, _, hB, hH, hh, h1, h2⟩ := h.at_
    refine ⟨_, c, by rw [hn], hl, fun j r hj => ?_⟩
    obtain ⟨a, b, q1, q2⟩ := hr j r hj
    obtain ⟨u, k1, ⟨k2, _⟩, _⟩ := h1 j _ q1
    refine ⟨g, 0, u, rfl, fun i y hy => ?_, _, _, k2, q2⟩
    rw [Nat.zero_add]
    exact cell_of_cur hh (k1 i y hy)
theorem choose_lstV {α : Type} {Q : Nat → α → Prop} : ∀ (n : Nat), (∀ j, j < n → ∃ a, Q j a) → ∃ l : List α, l.length = n ∧ ∀ (j : Nat) (a : α), l[j]? = some a → Q j a
  | 0, _ => ⟨[], rfl, fun j a h => by simp at h⟩
  | n + 1, h => by
    obtain ⟨l, h1, h2⟩ := choose_lstV n (fun j hj => h j (by omega))
    obtain ⟨a, ha⟩ := h n (by omega)
    refine ⟨l ++ [a], by simp [h1], fun j b hb => ?_⟩
    by_cases e : j < l.length
    · rw [List.getElem?_append_left e] at hb
      exact h2 j b hb
    · rw [List.getElem?_append_right (by omega)] at hb
      have : j - l.length = 0 := by
        rcases Nat.eq_zero_or_pos (j - l.length) with h0 | h0
        · exact h0
        · rw [List.getElem?_eq_none (by simp; omega)] at hb; cases hb
      rw [this] at hb
      injection hb with hb
      subst hb
      rw [show j = n by omega]
      exact ha
def pr2 (p : Value × Value) : List Value := [p.1, p.2]
theorem pr2_len (prs : List (Value × Value)) : (prs.map pr2).flatten.length = prs.length * 2 := by
  induction prs with
  | nil => rfl
  | cons p prs ih => rw [List.map_cons, List.flatten_cons, List.length_append, ih, List.length_cons]; show 2 + _ = _; omega
theorem pr2_at {prs : List (Value × Value)} {q : Nat} {v : Value} (h : (prs.map pr2).flatten[q]? = some v) : ∃ (j i : Nat) (p : Value × Value), q = j * 2 + i ∧ prs[j]? = some p ∧ (pr2 p)[i]? = some v := by
  have hq := (List.getElem?_eq_some_iff.1 h).1
  rw [pr2_len] at hq
  have hj : q / 2 < prs.length := by omega
  have hus : (prs.map pr2)[q / 2]? = some (pr2 prs[q / 2]) := by rw [List.getElem?_map, List.getElem?_eq_getElem hj]; rfl
  have hi : q % 2 < (pr2 prs[q / 2]).length := Nat.mod_lt _ (by omega)
  have := flatten_at (k := 2) (us := prs.map pr2) (fun u hu => by obtain ⟨p, _, rfl⟩ := List.mem_map.1 hu; rfl) hus (List.getElem?_eq_getElem hi)
  rw [show q / 2 * 2 + q % 2 = q by omega, h] at this
  injection this with this
  exact ⟨q / 2, q % 2, prs[q / 2], by omega, List.getElem?_eq_getElem hj, by rw [List.getElem?_eq_getElem hi, this]⟩
theorem ELW.row {t : TypeId} {w : World} {B H : Nat} {v : Value} {prs : List (Value × Value)} (h : GE ELW t w B H v prs) : w.ownsRow B t 2 v prs.length (prs.map pr2).flatten ∧ ∀ p ∈ prs, p.1.oneCell' = true ∧ p.2.oneCell' = true := by
  obtain ⟨_, us, al, bl, hl, ho, h1, _⟩ := h
  have hus : us = prs.map pr2 := by
    refine List.ext_getElem? fun j => ?_
    rw [List.getElem?_map]
    cases hj : prs[j]? with
    | none => rw [List.getElem?_eq_none (by have := List.getElem?_eq_none_iff.1 hj; omega)]; rfl
    | some p =>
      obtain ⟨u, q1, ⟨q2, _⟩, _⟩ := h1 j p hj
      rw [q1, q2]; rfl
  rw [← hus]
  refine ⟨ho, fun p hp => ?_⟩
  obtain ⟨j, hj⟩ := List.getElem?_of_mem hp
  obtain ⟨u, _, ⟨_, q⟩, _⟩ := h1 j p hj
  exact q
theorem ELW.mk {t : TypeId} {w : World} {B H : Nat} {v : Value} {prs : List (Value × Value)} (hB : B ≤ H) (ho : w.ownsRow B t 2 v prs.length (prs.map pr2).flatten) (hown : ∀ k, v.ownBlock = some k → B ≤ k ∧ k < H) (h1 : ∀ p ∈ prs, p.1.oneCell' = true ∧ p.2.oneCell' = true) : GE ELW t w B H v prs :=
  ⟨hown, prs.map pr2, fun _ => B, fun _ => B, by simp, ho, fun j p hj => ⟨pr2 p, by rw [List.getElem?_map, hj]; rfl, ⟨rfl, h1 p (List.mem_of_getElem? hj)⟩, Nat.le_refl _, hB, fun k e => .inr (hown k e).1⟩, fun i j hi hj hne => .inl (Nat.le_refl _)⟩
end Go.Proofs.YtpeogfapnofeoaaGreatDoor
namespace Go.Proofs.YtpeogfapnofeoaaGreatDoor
set_option maxRecDepth 100000
open Go Go.RowKit
end Go.Proofs.YtpeogfapnofeoaaGreatDoor
namespace Go.Proofs.YtpeogfapnofeoaaGreatDoor
set_option maxRecDepth 100000
open Go Go.RowKit
/-- The slice that begins at P holds values that stand, in all good worlds, for the fractions r. -/
def RowQ (Good : World → Prop) (w : World) (P : Option Addr) (r : List Fra) : Prop :=
  r.length ≤ 1099511627776 ∧ ∀ (j : Nat) (x : Fra), r[j]? = some x → ∃ g off u v, P = some ⟨g, off, none⟩ ∧ w.cell? ⟨g, off + j * 2, none⟩ = some u ∧ w.cell? ⟨g, off + j * 2 + 1, none⟩ = some v ∧ u.oneCell' = true ∧ v.oneCell' = true ∧ ∀ w2, Good w2 → RFra w2 u v x
theorem RowQ.ex {Good : World → Prop} {w w' : World} {P : Option Addr} {r : List Fra} (h : RowQ Good w P r) (he : Ex w w') : RowQ Good w' P r := ⟨h.1, fun j x hj => by
  obtain ⟨g, off, u, v, e, q0, q1, o⟩ := h.2 j x hj
  exact ⟨g, off, u, v, e, cell_ex he q0, cell_ex he q1, o⟩⟩
theorem RowQ.mono {Good Good' : World → Prop} {w : World} {P : Option Addr} {r : List Fra} (h : RowQ Good w P r) (hg : ∀ w2, Good' w2 → Good w2) : RowQ Good' w P r := ⟨h.1, fun j x hj => by
  obtain ⟨g, off, u, v, e, q0, q1, o0, o1, hR⟩ := h.2 j x hj
  exact ⟨g, off, u, v, e, q0, q1, o0, o1, fun w2 hw => hR w2 (hg w2 hw)⟩⟩
theorem RowQ.tk {Good : World → Prop} {w : World} {P : Option Addr} {r : List Fra} (h : RowQ Good w P r) (k : Nat) : RowQ Good w P (r.take k) := ⟨Nat.le_trans (List.length_take_le' _ _) h.1, fun j x hj => h.2 j x (by rw [List.getElem?_take] at hj; split at hj; exact hj; cases hj)⟩
theorem RowQ.dp {Good : World → Prop} {w : World} {g off : Nat} {r : List Fra} (h : RowQ Good w (some ⟨g, off, none⟩) r) (k : Nat) : RowQ Good w (some ⟨g, off + k * 2, none⟩) (r.drop k) := ⟨by rw [List.length_drop]; have := h.1; omega, fun j x hj => by
  rw [List.getElem?_drop] at hj
  obtain ⟨g', off', u, v, e, q0, q1, o⟩ := h.2 (k + j) x hj
  injection e with e
  injection e with e1 e2
  subst e1 e2
  refine ⟨g, _, u, v, rfl, ?_, ?_, o⟩
  · rwa [Nat.add_mul, ← Nat.add_assoc] at q0
  · rwa [Nat.add_mul, ← Nat.add_assoc] at q1⟩
theorem RowQ.nil (Good : World → Prop) (w : World) (P : Option Addr) : RowQ Good w P [] := ⟨by simp, fun j x hj => by simp at hj⟩
/-- Rows that stand for lists of fractions in all good worlds. -/
def RowsQ (Good : World → Prop) (w : World) (A : Option Addr) (rows : List (List Fra)) : Prop :=
  ∀ (j : Nat) (r : List Fra), rows[j]? = some r → ∃ g off P pc, A = some ⟨g, off, none⟩ ∧ w.cell? ⟨g, off + j, none⟩ = some (.slice P r.length pc) ∧ RowQ Good w P r
theorem RowsQ.ex {Good : World → Prop} {w w' : World} {A : Option Addr} {rows : List (List Fra)} (h : RowsQ Good w A rows) (he : Ex w w') : RowsQ Good w' A rows := fun j r hj => by
  obtain ⟨g, off, P, pc, e, q, k⟩ := h j r hj
  exact ⟨g, off, P, pc, e, cell_ex he q, k.ex he⟩
theorem RowsQ.at_ {Good : World → Prop} {w : World} {A : Option Addr} {rows : List (List Fra)} (h : RowsQ Good w A rows) {j : Nat} (hj : j < rows.length) : ∃ g off r P pc, A = some ⟨g, off, none⟩ ∧ rows[j]? = some r ∧ w.cell? ⟨g, off + j, none⟩ = some (.slice P r.length pc) ∧ RowQ Good w P r := by
  obtain ⟨g, off, P, pc, e, q, k⟩ := h j _ (List.getElem?_eq_getElem hj)
  exact ⟨g, off, _, P, pc, e, List.getElem?_eq_getElem hj, q, k⟩
/-- A row that a call has put together of such values. -/
def RowP (Good : World → Prop) (w : World) (a b : Nat) (v : Value) (r : List Fra) : Prop :=
  ∃ prs : List (Value × Value), GE ELW 58 w a b v prs ∧ prs.length = r.length ∧ ∀ (j : Nat) (x : Fra), r[j]? = some x → ∃ u z, prs[j]? = some (u, z) ∧ ∀ w2, Good w2 → RFra w2 u z x
theorem RowP.keep {Good : World → Prop} {w w' : World} {a b : Nat} {v : Value} {r : List Fra} (h : RowP Good w a b v r) (hk : ∀ k, a ≤ k → k < b → k < w.heap.size → w'.heap[k]? = w.heap[k]?) : RowP Good w' a b v r := by
  obtain ⟨prs, h1, h2⟩ := h
  exact ⟨prs, h1.keep hk, h2⟩
theorem RowP.rds {Good : World → Prop} {w : World} {a b : Nat} {v : Value} {r : List Fra} (h : RowP Good w a b v r) (hl : r.length ≤ 1099511627776) (hg : Good w) : ∃ A c, v = .slice A r.length c ∧ RdS EF w A r := by
  obtain ⟨prs, h1, h2, h3⟩ := h
  exact pairs_rds h1 h2 hl fun j x hj => by
    obtain ⟨u, z, q1, q2⟩ := h3 j x hj
    exact ⟨u, z, q1, q2 w hg⟩
theorem RowP.form {Good : World → Prop} {w : World} {a b : Nat} {v : Value} {r : List Fra} (h : RowP Good w a b v r) : ∃ A c, v = .slice A r.length c := by
  obtain ⟨prs, h1, h2, _⟩ := h
  obtain ⟨A, c, e⟩ := h1.nilv
  exact ⟨A, c, by rw [e, h2]⟩
/-- A row that reads in all worlds that keep W0 and the row's own blocks. -/
def ELQ (W0 : World) : EL (List Fra) where
  k := 1
  O := fun w a b vs x => ∃ A c, vs = [.slice A x.length c] ∧ ∀ w2, Ex W0 w2 → (∀ k, a ≤ k → k < b → k < w.heap.size → w2.heap[k]? = w.heap[k]?) → RdS EF w2 A x
  rlen := fun h => by obtain ⟨_, _, rfl, _⟩ := h; rfl
  keep := fun {w w' a b vs x} h hk => by
    obtain ⟨A, c, e, h⟩ := h
    refine ⟨A, c, e, fun w2 h0 h2 => h w2 h0 fun k h3 h4 h5 => ?_⟩
    have h6 := hk k h3 h4 h5
    refine (h2 k h3 h4 ?_).trans h6
    rcases Nat.lt_or_ge k w'.heap.size with q | q
    · exact q
    · rw [Array.getElem?_eq_none q, Array.getElem?_eq_getElem h5] at h6; cases h6
  one := fun h u hu => by
    obtain ⟨A, c, e, _⟩ := h
    subst e
    simp at hu
    subst hu; rfl
theorem RowP.elq {Good : World → Prop} {W0 w : World} {a b : Nat} {v : Value} {r : List Fra} (h : RowP Good w a b v r) (hl : r.length ≤ 1099511627776) (hg : ∀ w2, Ex W0 w2 → (∀ k, a ≤ k → k < b → k < w.heap.size → w2.heap[k]? = w.heap[k]?) → Good w2) : (ELQ W0).O w a b [v] r := by
  obtain ⟨A, c, e⟩ := h.form
  refine ⟨A, c, by rw [e], fun w2 h0 hk => ?_⟩
  obtain ⟨A', c', e', hr⟩ := (h.keep hk).rds hl (hg w2 h0 hk)
  rw [e] at e'
  injection e' with e1
  rw [e1]; exact hr
theorem push_rowsQ {W0 w : World} {B H : Nat} {v : Value} {xs : List (List Fra)} (h : GE (ELQ W0) 34 w B H v xs) (hH : H ≤ w.heap.size) {v0 : Value} {x : List Fra} {a b : Nat} (hu : (ELQ W0).O w a b [v0] x) (ha : H ≤ a) (hab : a ≤ b) (hb : b ≤ w.heap.size) (hB : B ≤ H) (hl : xs.length + 1 ≤ 1099511627776) :
    ∃ v' w', (Builtin.append_ #[30, 30] 30 #[v, .slice (some ⟨w.heap.size, 0, none⟩) 1 1]).run Tryz.prog (w.alloc (.cells #[v0] 34)) = .ok v' w' ∧
      GE (ELQ W0) 34 w' B w'.heap.size v' (xs ++ [x]) ∧ ExO v.ownBlock w w' ∧ v' ≠ .slice none 0 0 ∧ ∀ b', Ex b' w → b'.heap.size ≤ B → Ex b' w' := by
  obtain ⟨i, hi, hz, hs, hby⟩ := info_parts fracsInfo
  obtain ⟨v', w', h1, h2, h3, _, h5, h6⟩ := GE.push (ELQ W0) Tryz.underlying30 hi hz hs hby rfl (by show 0 < 1; omega) (by omega) h hH hu ha hab hb hB hl
  exact ⟨v', w', h1, h2, h3, h5, h6⟩
theorem GE.rowsQ {W0 w : World} {B H : Nat} {v : Value} {xs : List (List Fra)} (h : GE (ELQ W0) 34 w B H v xs) (hl : xs.length ≤ 1099511627776) (he : Ex W0 w) : ∃ A c, v = .slice A xs.length c ∧ RdS EFF w A xs := by
  by_cases hv : v = .slice none 0 0
  · subst hv
    have := h.len0
    subst this
    exact ⟨none, 0, rfl, by simp, fun j x hj => by simp at hj⟩
  · obtain ⟨g, c, rfl, hgc, _⟩ := h.form hv
    obtain ⟨cur, al, bl, _, hB, hH, hh, h1, h2⟩ := h.at_
    refine ⟨_, c, rfl, hl, fun j r hj => ?_⟩
    obtain ⟨u, k1, ⟨A, c2, k2, k3⟩, _⟩ := h1 j r hj
    subst k2
    refine ⟨g, 0, [.slice A r.length c2], rfl, fun i y hy => ?_, _, rfl, A, c2, rfl, k3 w he fun _ _ _ _ => rfl⟩
    rw [Nat.zero_add]
    exact cell_of_cur hh (k1 i y hy)
end Go.Proofs.YtpeogfapnofeoaaGreatDoor
