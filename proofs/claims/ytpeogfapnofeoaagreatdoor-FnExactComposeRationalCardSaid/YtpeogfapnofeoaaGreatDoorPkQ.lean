/- The reference's elimination: memory of the rows; a row divided; plain lemmas on the search. The reference's elimination: rrReduce. -/
import Derived.Test.YtpeogfapnofeoaaGreatDoorSRt
import Derived.Test.YtpeogfapnofeoaaGreatDoorPkI
import Derived.Test.YtpeogfapnofeoaaGreatDoorRfA
import Derived.Test.YtpeogfapnofeoaaGreatDoorPkAB
namespace Go.Proofs.YtpeogfapnofeoaaGreatDoor
set_option maxRecDepth 100000
open Go Go.RowKit
theorem choose_vals {α : Type} {Q : Nat → α → Prop} : ∀ (n : Nat), (∀ j, j < n → ∃ a, Q j a) → ∃ l : List α, l.length = n ∧ ∀ (j : Nat) (a : α), l[j]? = some a → Q j a
  | 0, _ => ⟨[], rfl, fun j a h => by simp at h⟩
  | n + 1, h => by
    obtain ⟨l, h1, h2⟩ := choose_vals n (fun j hj => h j (by omega))
    obtain ⟨a, ha⟩ := h n (by omega)
    refine ⟨l ++ [a], by simp [h1], fun j b hb => ?_⟩
    by_cases e : j < l.length
    · rw [List.getElem?_append_left e] at hb
      exact h2 j b hb
    · rw [List.getElem?_append_right (by omega)] at hb
      have : j - l.length = 0 := by
        rcases Nat.eq_zero_or_pos (j - l.length) with h0 | h0
        · exact h0
        · rw [List.getElem?_eq_none (by simp; omega)] at hb; cases hb
      rw [this] at hb
      injection hb with hb
      subst hb
      rw [show j = n by omega]
      exact ha
theorem fnd_at {K : Type} {O : Ops K} {Z : List (List K)} {r c t : Nat} (hr : r ≤ t) (h : ∀ (i : Nat) (v : List K), r ≤ i → i < t → Z[i]? = some v → O.isz (O.el v c) = true) {v : List K} (hv : Z[t]? = some v) (hz : O.isz (O.el v c) = false) : O.fnd Z r c = t := by
  have htl := (List.getElem?_eq_some_iff.1 hv).1
  have : (Z.drop r).findIdx (fun row => !O.isz (O.el row c)) = t - r := by
    rw [List.findIdx_eq (by rw [List.length_drop]; omega)]
    refine ⟨by rw [List.getElem_drop]; have e : Z[r + (t - r)]'(by omega) = v := by have := (List.getElem?_eq_some_iff.1 hv).2; rw [← this]; congr 1; omega
               rw [e, hz]; rfl, fun j hj => by
      rw [List.getElem_drop, h (r + j) _ (by omega) (by omega) (List.getElem?_eq_getElem _)]; rfl⟩
  unfold Ops.fnd
  rw [this]; omega
theorem fnd_no {K : Type} {O : Ops K} {Z : List (List K)} {r c : Nat} (hr : r ≤ Z.length) (h : ∀ (i : Nat) (v : List K), r ≤ i → i < Z.length → Z[i]? = some v → O.isz (O.el v c) = true) : ¬ O.fnd Z r c < Z.length := by
  have : (Z.drop r).findIdx (fun row => !O.isz (O.el row c)) = Z.length - r := by
    rw [← List.length_drop, List.findIdx_eq_length]
    intro v hv
    obtain ⟨j, hj⟩ := List.getElem?_of_mem hv
    rw [List.getElem?_drop] at hj
    rw [h (r + j) v (by omega) (List.getElem?_eq_some_iff.1 hj).1 hj]; rfl
  unfold Ops.fnd
  rw [this]; omega
theorem GdR.app {p : Int} {L : Nat} {u v : List Fra} (h : GdR p L u) (k : GdR p L v) : GdR p L (u ++ v) := fun x hx => by
  rcases List.mem_append.1 hx with e | e
  · exact h x e
  · exact k x e
/-- What a valid relation's rows are. -/
theorem rrB_has {p : Int} {x : RRel} (h : rrB p x = true) : ∃ l r : Nat, x.l = (l : Int) ∧ x.r = (r : Int) ∧ l + r ≤ 12 ∧ GdM p 21 x.b ∧ Wid (l + r) x.b ∧ (∀ v ∈ x.b, leadF v < l + r) ∧ x.b.length ≤ 12 ∧ fieldB p = true := by
  obtain ⟨h1, h2, h3, h4⟩ := rrB_iff.1 h
  have h5 := fit_lt h2
  have h6 := rrp_len h1 (gd_fv (okRows_gd h3)) h4
  obtain ⟨l, hl⟩ : ∃ l : Nat, x.l = (l : Int) := ⟨x.l.toNat, by omega⟩
  obtain ⟨r, hr⟩ : ∃ r : Nat, x.r = (r : Int) := ⟨x.r.toNat, by omega⟩
  have e : (x.l + x.r).toNat = l + r := by omega
  rw [e] at h3 h4 h6
  exact ⟨l, r, hl, hr, by omega, okRows_gd h3, okRows_wid h3, fun v hv => (h4.one v hv).1, by omega, h1⟩
theorem RdS.tkk {α : Type} {E : EK α} {w : World} {A : Option Addr} {xs : List α} (h : RdS E w A xs) (k : Nat) : RdS E w A (xs.take k) := by
  obtain ⟨hl, h⟩ := h
  exact ⟨Nat.le_trans (List.length_take_le' _ _) hl, fun j x hj => h j x (by rw [List.getElem?_take] at hj; split at hj; exact hj; cases hj)⟩
/-- A row that reads whatever becomes of block G and of the blocks of S. -/
def RdN (S : Nat → Prop) (G : Nat) (w : World) (P : Option Addr) (r : List Fra) : Prop := ∀ w', ExS (fun k => k = G ∨ S k) w w' → RdS EF w' P r
theorem RdN.rd {S : Nat → Prop} {G : Nat} {w : World} {P : Option Addr} {r : List Fra} (h : RdN S G w P r) : RdS EF w P r := h w (ExS.refl _ _)
theorem RdN.k1 {S : Nat → Prop} {G : Nat} {w w' : World} {P : Option Addr} {r : List Fra} (h : RdN S G w P r) (k : Ex1 G w w') : RdN S G w' P r := fun w2 h2 => h w2 ((ExS.of_ex1 (S := fun k => k = G ∨ S k) k (.inl rfl)).trans h2 (fun _ _ h => h))
theorem RdN.ex {S : Nat → Prop} {G : Nat} {w w' : World} {P : Option Addr} {r : List Fra} (h : RdN S G w P r) (k : Ex w w') : RdN S G w' P r := h.k1 (Ex1.of_ex k)
theorem RdN.iv {S : Nat → Prop} {G : Nat} {w w' : World} {P : Option Addr} {r : List Fra} (h : RdN S G w P r) (k : ExS S w w') : RdS EF w' P r := h w' (k.widen fun _ _ h => .inr h)
theorem Ex1.cell {G : Nat} {w w' : World} (k : Ex1 G w w') {g o : Nat} (hg : g ≠ G) {v : Value} (h : w.cell? ⟨g, o, none⟩ = some v) : w'.cell? ⟨g, o, none⟩ = some v :=
  (World.cell?_of_block (w := w) (a := ⟨g, o, none⟩) (k.block g (cell_lt (p := ⟨g, o, none⟩) h) (fun e => by injection e with e; exact hg e))).trans h
theorem RdN.frac {S : Nat → Prop} {G : Nat} {w : World} {P : Option Addr} {r : List Fra} (h : RdN S G w P r) {j : Nat} (hj : j < r.length) :
    ∃ g off x X xc Y yc, P = some ⟨g, off, none⟩ ∧ r[j]? = some x ∧ ¬ (g = G) ∧ w.cell? ⟨g, off + j * 2, none⟩ = some (.slice X x.n.length xc) ∧ w.cell? ⟨g, off + j * 2 + 1, none⟩ = some (.slice Y x.d.length yc) ∧ ∀ w', Ex1 G w w' → Rd w' X x.n ∧ Rd w' Y x.d := by
  obtain ⟨g, off, x, X, xc, Y, yc, rfl, hx, c0, c1, hX, hY⟩ := h.rd.frac hj
  have hne : ¬ (g = G) := fun e => by
    subst e
    obtain ⟨w2, hw2⟩ : ∃ w2 : World, w2 = { w with heap := w.heap.modify g fun _ => .cells #[] 0 (0, 0) } := ⟨_, rfl⟩
    have k : Ex1 g w w2 := by
      subst hw2
      refine ⟨rfl, rfl, rfl, by simp, fun i hi hn => ?_⟩
      simp only [Array.getElem?_modify]
      rw [if_neg (fun e => hn (by rw [e]))]
    obtain ⟨g', off', x', X', xc', Y', yc', e, _, c0', _⟩ := (h w2 (ExS.of_ex1 k (.inl rfl))).frac hj
    injection e with e
    injection e with e1 e2
    subst e1
    have hlt := cell_lt (p := ⟨g, off + j * 2, none⟩) c0
    rw [hw2] at c0'
    simp [World.cell?, Array.getElem?_modify, Array.getElem?_eq_getElem hlt] at c0'
  refine ⟨g, off, x, X, xc, Y, yc, rfl, hx, hne, c0, c1, fun w' k => ?_⟩
  obtain ⟨g', off', x', X', xc', Y', yc', e, hx', c0', c1', hX', hY'⟩ := (h w' (ExS.of_ex1 k (.inl rfl))).frac hj
  injection e with e
  injection e with e1 e2
  subst e1 e2
  rw [hx] at hx'
  injection hx' with hx'
  subst hx'
  have d0 := Ex1.cell k hne c0
  have d1 := Ex1.cell k hne c1
  rw [c0'] at d0
  rw [c1'] at d1
  injection d0 with d0
  injection d0 with d0
  injection d1 with d1
  injection d1 with d1
  subst d0 d1
  exact ⟨hX', hY'⟩
theorem piv_mix {K : Type} {O : Ops K} {Z : List (List K)} {r c t : Nat} {zt zr : List K} (hzt : Z[t]? = some zt) (hzr : Z[r]? = some zr) {k : Nat} {u : List K} (hu : ((Z.set t zr).set r (O.nrm zt c))[k]? = some u) :
    (O.piv Z r c t)[k]? = some (if k = r then O.nrm zt c else if O.isz (O.el u c) then u else O.less u (O.el u c) (O.nrm zt c)) := by
  have htl := (List.getElem?_eq_some_iff.1 hzt).1
  have hrl := (List.getElem?_eq_some_iff.1 hzr).1
  have hkl : k < Z.length := by have := (List.getElem?_eq_some_iff.1 hu).1; simpa using this
  have e1 : Z.getD t [] = zt := by rw [List.getD_eq_getElem?_getD, hzt]; rfl
  rw [piv_at O hrl htl c k hkl, e1]
  unfold Ops.clr
  by_cases e : k = r
  · rw [if_pos e, if_pos e]
  · have : Z.getD (if k = t then r else if k = r then t else k) [] = u := by
      rw [List.getElem?_set, if_neg (fun h => e h.symm), List.getElem?_set] at hu
      by_cases e2 : k = t
      · rw [if_pos e2.symm, if_pos htl] at hu
        injection hu with hu
        rw [if_pos e2, List.getD_eq_getElem?_getD, hzr, ← hu]; rfl
      · rw [if_neg (fun h => e2 h.symm)] at hu
        rw [if_neg e2, if_neg e, List.getD_eq_getElem?_getD, hu]; rfl
    rw [this]
theorem GE.rdn {w : World} {S : Nat → Prop} {B H m c G : Nat} {P : Option Addr} {xs : List Fra} (h : GE ELF 58 w B H (.slice P m c) xs) (hG : G < B) (hb : ∀ k, S k → k < B) (hl : xs.length ≤ 1099511627776) : RdN S G w P xs := fun w' k => by
  obtain ⟨A, c', e, _, o⟩ := (h.keep (w' := w') fun i h1 _ hi => k.block i hi (fun e => e.elim (fun e => by omega) (fun e => by have := hb i e; omega))).ox (E' := EXF) hl rfl elf_exf
  injection e with e1 _ _
  subst e1
  exact o.rds rfl exf_rd
/-- Block G holds the rows, of n fractions each; the first q have their room. -/
structure MR (w : World) (S : Nat → Prop) (G n q : Nat) (rows : List (List Fra)) : Prop where
  out : ∃ cur : Array Value, w.heap[G]? = some (.cells cur 34 (0, 0)) ∧ ∀ (j : Nat) (r : List Fra), rows[j]? = some r → r.length = n ∧ ∃ P c, cur[j]? = some (.slice P n c) ∧ (j < q → n ≤ c) ∧ RdN S G w P r
theorem MR.lt {w : World} {S : Nat → Prop} {G n q : Nat} {rows : List (List Fra)} (h : MR w S G n q rows) : G < w.heap.size := by obtain ⟨_, h, _⟩ := h.out; exact heap_lt_of h
theorem MR.frozen {w : World} {S : Nat → Prop} {G n q : Nat} {rows : List (List Fra)} (h : MR w S G n q rows) (i : Nat) : w.frozen? ⟨G, i, none⟩ = false := by
  obtain ⟨cur, hc, _⟩ := h.out
  simp [World.frozen?, hc]
theorem MR.at_ {w : World} {S : Nat → Prop} {G n q : Nat} {rows : List (List Fra)} (h : MR w S G n q rows) {j : Nat} {r : List Fra} (hj : rows[j]? = some r) : ∃ P c, w.cell? ⟨G, j, none⟩ = some (.slice P n c) ∧ RdN S G w P r := by
  obtain ⟨cur, hc, hx⟩ := h.out
  obtain ⟨_, P, c, h1, _, h2⟩ := hx j r hj
  exact ⟨P, c, by simp [World.cell?, hc, h1], h2⟩
theorem MR.len {w : World} {S : Nat → Prop} {G n q : Nat} {rows : List (List Fra)} (h : MR w S G n q rows) {j : Nat} {r : List Fra} (hj : rows[j]? = some r) : r.length = n := by
  obtain ⟨cur, hc, hx⟩ := h.out
  exact (hx j r hj).1
theorem MR.ex {w w' : World} {S : Nat → Prop} {G n q : Nat} {rows : List (List Fra)} (h : MR w S G n q rows) (k : Ex w w') : MR w' S G n q rows := by
  have hl := h.lt
  obtain ⟨cur, hc, hx⟩ := h.out
  refine ⟨cur, (k.block hl).trans hc, fun j r hj => ?_⟩
  obtain ⟨h0, P, c, h1, hr, h2⟩ := hx j r hj
  exact ⟨h0, P, c, h1, hr, h2.ex k⟩
theorem MR.put {w : World} {S : Nat → Prop} {G n q : Nat} {rows : List (List Fra)} (h : MR w S G n q rows) (i : Nat) {r : List Fra} {P : Option Addr} {c : Nat} (hr : RdN S G w P r) (hn : r.length = n) {q' : Nat} (hroom : i < q' → n ≤ c) (hq : ∀ j, j < q' → j ≠ i → j < q) : MR (w.setCell ⟨G, i, none⟩ (.slice P n c)) S G n q' (rows.set i r) := by
  have k : Ex1 G w (w.setCell ⟨G, i, none⟩ (.slice P n c)) := (Ex1.refl _ _).setCell (p := ⟨G, i, none⟩) rfl _
  obtain ⟨cur, hc, hx⟩ := h.out
  refine ⟨cur.setIfInBounds i (.slice P n c), by simp [World.setCell, Array.getElem?_modify, hc], fun j z hj => ?_⟩
  rw [List.getElem?_set] at hj
  split at hj
  · rename_i e
    subst e
    split at hj
    · rename_i hl
      injection hj with hj
      subst hj
      obtain ⟨_, _, _, h1, _⟩ := hx i _ (List.getElem?_eq_getElem hl)
      exact ⟨hn, P, c, by rw [Array.getElem?_setIfInBounds, if_pos rfl, if_pos (Array.getElem?_eq_some_iff.1 h1).1], hroom, hr.k1 k⟩
    · cases hj
  · rename_i e
    obtain ⟨h0, P', c', h1, h3, h2⟩ := hx j z hj
    exact ⟨h0, P', c', by rw [Array.getElem?_setIfInBounds, if_neg e]; exact h1, fun hj => h3 (hq j hj fun e2 => e e2.symm), h2.k1 k⟩
theorem MR.rds {w : World} {S : Nat → Prop} {G n q : Nat} {rows : List (List Fra)} (h : MR w S G n q rows) (hl : rows.length ≤ 1099511627776) (hb : ¬ S G) {w' : World} (k : ExS S w w') : RdS EFF w' (some ⟨G, 0, none⟩) rows := by
  have hgl := h.lt
  obtain ⟨cur, hc, hx⟩ := h.out
  refine ⟨hl, fun j r hj => ?_⟩
  obtain ⟨h0, P, c, h1, _, h2⟩ := hx j r hj
  subst h0
  refine ⟨G, 0, [.slice P r.length c], rfl, fun i u hi => ?_, _, rfl, P, c, rfl, h2.iv k⟩
  rcases i with _ | i
  · injection hi with hi
    subst hi
    rw [show EFF.k = 1 from rfl, Nat.mul_one, Nat.zero_add, Nat.add_zero]
    have hc2 := (k.block G hgl hb).trans hc
    simp [World.cell?, hc2, h1]
  · simp at hi
theorem MR.rdc {w : World} {S : Nat → Prop} {G n q : Nat} {rows : List (List Fra)} (h : MR w S G n q rows) (hl : rows.length ≤ 1099511627776) (hb : ¬ S G) {w' : World} (k : ExS S w w') : RdC w' (some ⟨G, 0, none⟩) (rows.take q) := by
  refine ⟨(h.rds hl hb k).tkk q, fun j r hj => ?_⟩
  have hgl := h.lt
  obtain ⟨cur, hc, hx⟩ := h.out
  have hjq : j < q := by
    rw [List.getElem?_take] at hj
    split at hj
    · assumption
    · cases hj
  rw [List.getElem?_take, if_pos hjq] at hj
  obtain ⟨h0, P, c, h1, h3, h2⟩ := hx j r hj
  subst h0
  have hc2 := (k.block G hgl hb).trans hc
  exact ⟨G, 0, P, c, rfl, by simp [World.cell?, hc2, h1], h3 hjq, h2.iv k⟩
/-- Rows that read whatever becomes of the blocks of S. -/
def RowsN (S : Nat → Prop) (w : World) (A : Option Addr) (rows : List (List Fra)) : Prop :=
  rows.length ≤ 1099511627776 ∧ ∀ (j : Nat) (r : List Fra), rows[j]? = some r → ∃ g off P pc, A = some ⟨g, off, none⟩ ∧ w.cell? ⟨g, off + j, none⟩ = some (.slice P r.length pc) ∧ ∀ w2, ExS S w w2 → RdS EF w2 P r
theorem RowsN.ex {S T : Nat → Prop} {w w' : World} {A : Option Addr} {rows : List (List Fra)} (h : RowsN S w A rows) (he : Ex w w') (hS : ∀ k, T k → S k ∨ w.heap.size ≤ k) : RowsN T w' A rows := ⟨h.1, fun j r hj => by
  obtain ⟨g, off, P, pc, e, q, k⟩ := h.2 j r hj
  exact ⟨g, off, P, pc, e, cell_ex he q, fun w2 h2 => k w2 ((ExS.of_ex (S := S) he).trans h2 (fun i hi ht => (hS i ht).elim id (fun q => by omega)))⟩⟩
/-- m := append([][]Fraction{}, rows...) -/
theorem run_copy_rows {w : World} {S : Nat → Prop} {A : Option Addr} {c n : Nat} {rows : List (List Fra)} (h : RowsN S w A rows) (hS : ∀ k, S k → k < w.heap.size) (hw : Wid n rows) (hl : rows.length ≤ 1000) :
    ∃ G C w', (Builtin.append_ #[30, 30] 30 #[.slice (some ⟨w.heap.size, 0, none⟩) 0 0, .slice A rows.length c]).run Tryz.prog (w.alloc (.cells #[] 34)) = .ok (.slice (some ⟨G, 0, none⟩) rows.length C) w' ∧ rows.length ≤ C ∧ w.heap.size ≤ G ∧ MR w' S G n 0 rows ∧ Ex w w' := by
  obtain ⟨i, hi, hz, hs, hby⟩ := info_parts fracsInfo
  have x1 := (Ex.refl w).alloc (.cells #[] 34)
  have hs1 : (w.alloc (.cells #[] 34)).heap.size = w.heap.size + 1 := by simp
  have h1 : (w.alloc (.cells #[] 34)).ownsRow w.heap.size 34 1 (.slice (some ⟨w.heap.size, 0, none⟩) 0 0) 0 [] := ⟨by simp, .inr ⟨w.heap.size, 0, #[], rfl, Nat.le_refl _, heap_alloc_new w _, Nat.le_refl _, Nat.zero_le _, by simp, by simp⟩⟩
  rcases A with _ | ad
  · have hx : rows = [] := by
      cases rows with
      | nil => rfl
      | cons x xs => obtain ⟨g, off, P, pc, hA, _⟩ := h.2 0 x rfl; cases hA
    subst hx
    refine ⟨w.heap.size, 0, _, ?_, Nat.le_refl _, Nat.le_refl _, ⟨#[], heap_alloc_new w _, fun j r hj => by simp at hj⟩, x1⟩
    simp [Builtin.append_, run_underlying Tryz.underlying30, sizeOf, typeInfo, hi, Builtin.lenOf, Builtin.firstCells, storeCells]
  · obtain ⟨vals, k1, k2⟩ := choose_vals (Q := fun j (v : Value) => ∃ r g off P pc, ad = ⟨g, off, none⟩ ∧ rows[j]? = some r ∧ r.length = n ∧ v = .slice P n pc ∧ w.cell? ⟨g, off + j, none⟩ = some v ∧ ∀ w2, ExS S w w2 → RdS EF w2 P r) rows.length (fun j hj => by
      obtain ⟨g, off, P, pc, hA, b0, hP⟩ := h.2 j _ (List.getElem?_eq_getElem hj)
      injection hA with hA
      subst hA
      have hrn := hw rows[j] (List.getElem_mem hj)
      exact ⟨.slice P n pc, rows[j], g, off, P, pc, rfl, List.getElem?_eq_getElem hj, hrn, rfl, by rw [← hrn]; exact b0, hP⟩)
    have hnews : ∀ (q : Nat) (u : Value), vals[q]? = some u → (w.alloc (.cells #[] 34)).cell? (ad.add q) = some u := fun q u hu => by
      obtain ⟨r, g, off, P, pc, rfl, _, _, _, q0, _⟩ := k2 q u hu
      have e : (⟨g, off, none⟩ : Addr).add q = ⟨g, off + q, none⟩ := by unfold Addr.add; split <;> simp_all
      rw [e]
      exact cell_ex x1 q0
    obtain ⟨v', w', hrun, h2, h3, h4, h5⟩ := run_append_own_at (P := Tryz.prog) (w.alloc (.cells #[] 34)) w.heap.size 30 30 34 i (.slice none 0 0) 1 24 Tryz.underlying30 hi hz hs hby rfl (by omega) _ 0 [] h1 ad rows.length c vals (by rw [k1, Nat.mul_one]) hnews (by
      intro u hu
      obtain ⟨j, hj⟩ := List.getElem?_of_mem hu
      obtain ⟨r, g, off, P, pc, _, _, _, rfl, _⟩ := k2 j u hj
      rfl) (by unfold maxLen; omega) (by omega) (by omega)
    rw [Nat.zero_add, List.nil_append] at h2
    have xw : Ex w w' := x1.exo h3 (fun g e => by simp [Value.ownBlock] at e; omega)
    rcases h2.2 with ⟨e, _⟩ | ⟨G, C, cur, e, hB, hh, hnc, _, _, ht⟩
    · exact absurd (h4.1 e).1 (by simp)
    · subst e
      refine ⟨G, C, w', hrun, hnc, hB, ⟨cur, hh, fun j r hj => ?_⟩, xw⟩
      have hjl := (List.getElem?_eq_some_iff.1 hj).1
      obtain ⟨v, hv⟩ : ∃ v, vals[j]? = some v := ⟨_, List.getElem?_eq_getElem (by omega)⟩
      obtain ⟨r', g, off, P, pc, _, hr', hrn, rfl, _, hP⟩ := k2 j v hv
      rw [hj] at hr'
      injection hr' with hr'
      subst hr'
      refine ⟨hrn, P, pc, ?_, fun e => by omega, fun w2 hw2 => hP w2 ((ExS.of_ex (S := S) xw).trans hw2 (fun i hi e => e.elim (fun e => by omega) id))⟩
      have : (cur.toList.take (rows.length * 1))[j]? = some (.slice P n pc) := by rw [ht]; exact hv
      rw [List.getElem?_take] at this
      split at this
      · simpa using this
      · cases this
end Go.Proofs.YtpeogfapnofeoaaGreatDoor
namespace Go.Proofs.YtpeogfapnofeoaaGreatDoor
set_option maxRecDepth 100000
open Go Go.RowKit
set_option maxHeartbeats 16000000 in
theorem rrReduceC_c (S : Nat → Prop) (p : Int) (n : Nat) (rows : List (List Fra)) (A : Option Addr) (c : Nat) (w : World) (hF : fieldB p = true) (h : RowsN S w A rows) (hS : ∀ k, S k → k < w.heap.size) (hw : Wid n rows) (hGd : ∀ c, c ≤ n → GdM p 17179869184 (stg (frOps p) rows c).1) (hn : n ≤ 1000) (hR : rows.length ≤ 1000) :
    Calls Tryz.prog 79 #[.int .i64 p, .int .i64 n, .slice A rows.length c] w fun e w' => ∃ A' c', e = .returned (.slice A' ((frOps p).rref n rows).length c') ∧ (∀ w2, ExS S w' w2 → RdC w2 A' ((frOps p).rref n rows)) ∧ Ex w w' := by
  obtain ⟨FIN, hFIN⟩ : ∃ FIN, (frOps p).red n 0 0 rows = FIN := ⟨_, rfl⟩
  have HRR := Lib.hid (show (frOps p).rref n rows = FIN.1.take FIN.2 by unfold Ops.rref; rw [hFIN])
  have HF := Lib.hid hF
  have HG0 := Lib.hid (show stg (frOps p) rows 0 = (rows, 0) from rfl)
  have HGd := Lib.hid hGd
  have HFIN := Lib.hid (show (frOps p).red (n - 0) 0 0 rows = FIN from hFIN)
  obtain ⟨G, C, w1, hrun, hRC, hG, hM, x1⟩ := run_copy_rows (c := c) h hS hw hR
  have hSG : ¬ S G := fun e => by have := hS G e; omega
  have HS := Lib.hid hS
  have HW0 := Lib.hid hw
  obtain ⟨R, hRl⟩ : ∃ R, rows.length = R := ⟨_, rfl⟩
  have HR0 := Lib.hid hRl
  rw [hRl] at hrun hRC hR ⊢
  have hl := h.1
  clear hF hGd hFIN hw hRl h hS
  go_enter Tryz.func79, Tryz.ntmps79
  go_wp2_with (at_builtin; refine wpList_append_run rfl _ _ _ rfl rfl rfl hrun ?_)
  clear hrun
  go_loopw [8, 9] (fun s8 s9 wr => ∃ (c r : Nat) (Z : List (List Fra)), c ≤ n ∧ s8 = .int .i64 r ∧ s9 = .int .i64 c ∧ MR wr S G n r Z ∧ Hid (Wid n Z) ∧ Hid (stg (frOps p) rows c = (Z, r)) ∧ Hid (Z.length = R) ∧ r ≤ R ∧ Hid ((frOps p).red (n - c) c r Z = FIN) ∧ Ex w wr) (fun _ s9 _ => n - (intOf s9).toNat)
  case atStart => exact ⟨0, 0, rows, Nat.zero_le _, rfl, rfl, hM, HW0, HG0, HR0, Nat.zero_le _, HFIN, x1⟩
  case round =>
    rename World => wi
    clear hM HW0 HG0 HR0 HFIN x1
    obtain ⟨c, r, Z, hcn, rfl, rfl, hM, HW, HG, HZ, hrR, HFIN, he⟩ := hrel
    have HGm := Lib.hid (show GdM p 17179869184 Z by have := HGd.out c hcn; rw [HG.out] at this; exact this)
    by_cases hlt : c < n ∧ r < R
    case neg =>
      have HE := Lib.hid (show FIN = (Z, r) by
        rw [← HFIN.out]
        by_cases e : c < n
        · exact red_full _ _ _ _ _ (by rw [HZ.out]; omega)
        · rw [show n - c = 0 by omega]; rfl)
      have hrr : ∀ w2, ExS S wi w2 → RdC w2 (some ⟨G, 0, none⟩) (Z.take r) := fun w2 k => hM.rdc (by rw [HZ.out]; omega) hSG k
      have HT := Lib.hid (show (Z.take r).length = r by rw [List.length_take, HZ.out]; omega)
      have hrC : r ≤ C := by omega
      by_cases e : c < n
      · have e2 : ¬ r < R := fun e2 => hlt ⟨e, e2⟩
        clear hlt HFIN HG
        go_wp2_with fail
        go_ret
        rw [HRR.out, HE.out]
        exact ⟨some ⟨G, 0, none⟩, C, by rw [HT.out]; rfl, hrr, he⟩
      · clear hlt HFIN HG
        go_wp2_with fail
        go_ret
        rw [HRR.out, HE.out]
        exact ⟨some ⟨G, 0, none⟩, C, by rw [HT.out]; rfl, hrr, he⟩
    obtain ⟨hc1, hr1⟩ := hlt
    go_wp2_with fail
    go_loopw [10] (fun s10 wr => ∃ t : Nat, r ≤ t ∧ t ≤ R ∧ s10 = .int .i64 t ∧ Hid (∀ (i : Nat) (v : List Fra), r ≤ i → i < t → Z[i]? = some v → iszF ((frOps p).el v c) = true) ∧ Ex wi wr) (fun s10 _ => R - (intOf s10).toNat)
    case atStart => exact ⟨r, Nat.le_refl _, hrR, rfl, Lib.hid (fun i v h1 h2 => by omega), Ex.refl _⟩
    case round =>
      rename World => wj
      obtain ⟨t, hrt, htR, rfl, Hz, hej⟩ := hrel
      by_cases htl : t < R
      · obtain ⟨zt, hzt⟩ : ∃ z, Z[t]? = some z := ⟨_, List.getElem?_eq_getElem (by rw [HZ.out]; exact htl)⟩
        have Hzt := Lib.hid hzt
        obtain ⟨P, pc, etc, hP⟩ := (hM.ex hej).at_ hzt
        have hztl := Lib.hid (HW.out zt (List.mem_of_getElem? hzt))
        obtain ⟨g2, off2, x, X, xc, Y, yc, rfl, hx, hgG, c0, c1, hXY⟩ := hP.frac (j := c) (by rw [hztl.out]; exact hc1)
        have Hx := Lib.hid hx
        have hX := (hXY _ (Ex1.refl _ _)).1
        have hel : (frOps p).el zt c = x := (frOps p).el_in hx
        have Hel := Lib.hid hel
        have cIz := rrIsZero_c X Y xc yc x wj hX.len
        clear hzt hx hel
        cases hb : iszF x with
        | true =>
          have Hb := Lib.hid hb
          rw [hb] at cIz
          clear hb
          go_wp2_with fail
          refine cIz.mono ?_
          rintro e w2 ⟨rfl, x2⟩
          go_wp2_with fail
          go_roundw
          case rel => exact ⟨t + 1, by omega, by omega, by go_num, Lib.hid (fun i v h1 h2 h3 => by
            by_cases e : i = t
            · subst e; rw [Hzt.out] at h3; injection h3 with h3; rw [← h3, Hel.out]; exact Hb.out
            · exact Hz.out i v h1 (by omega) h3), hej.trans x2⟩
          case measure => simp [intOf]; omega
        | false =>
          have hfd := fnd_at (O := frOps p) hrt (fun i v h1 h2 h3 => Hz.out i v h1 h2 h3) Hzt.out (by rw [Hel.out]; exact hb)
          have HSk := Lib.hid (show stg (frOps p) rows (c + 1) = ((frOps p).piv Z r c t, r + 1) by rw [stg, HG.out]; dsimp only; rw [hfd, if_pos (by rw [HZ.out]; exact htl)])
          have HFk := Lib.hid (show (frOps p).red (n - (c + 1)) (c + 1) (r + 1) ((frOps p).piv Z r c t) = FIN by rw [← HFIN.out, show n - c = (n - (c + 1)) + 1 by omega, Ops.red, hfd, if_pos (by rw [HZ.out]; exact htl)])
          have Hb := Lib.hid hb
          obtain ⟨zr, hzr⟩ : ∃ z, Z[r]? = some z := ⟨_, List.getElem?_eq_getElem (by rw [HZ.out]; exact hr1)⟩
          obtain ⟨Q, qc, er, hQ⟩ := (hM.ex hej).at_ hzr
          have Hzr := Lib.hid hzr
          have Hzrl := Lib.hid (HW.out zr (List.mem_of_getElem? hzr))
          have HMIX := Lib.hid (fun (k : Nat) (u : List Fra) => piv_mix (O := frOps p) (c := c) Hzt.out hzr (k := k) (u := u))
          have HTW := Lib.hid (show Wid n ((frOps p).piv Z r c t) from HW.out.piv (by rw [HZ.out]; exact hr1) (by rw [HZ.out]; exact htl))
          have HTl := Lib.hid (show ((frOps p).piv Z r c t).length = R by rw [piv_len, HZ.out])
          have Hztg := Lib.hid (HGm.out zt (List.mem_of_getElem? Hzt.out))
          have Hxg := Lib.hid (Hztg.out x (List.mem_of_getElem? Hx.out))
          have Hxn := Lib.hid (show x.n ≠ [] from fun e => by have := Hb.out; rw [iszF_iff.2 e] at this; cases this)
          have hltg := (hM.ex hej).lt
          rw [hb] at cIz
          have htb : ((t : Int) == (R : Int)) = false := by simp; omega
          clear hb hfd hzr
          go_wp2_with fail
          refine cIz.mono ?_
          rintro e w2 ⟨rfl, x2⟩
          have e2 := Ex1.of_ex (g := G) x2
          have et := cell_ex x2 etc
          replace er := cell_ex x2 er
          replace c0 := cell_ex x2 c0
          replace c1 := cell_ex x2 c1
          have hM2 := hM.ex (hej.trans x2)
          have fz := hM2.frozen t
          have hM3 := hM2.put t (c := qc) (hQ.ex x2) Hzrl.out (q' := r) (fun h => by omega) (fun j h _ => h)
          have k3 : Ex1 G w2 (w2.setCell ⟨G, t, none⟩ (.slice Q n qc)) := (Ex1.refl _ _).setCell (p := ⟨G, t, none⟩) rfl _
          have K3 : Ex1 G wj (w2.setCell ⟨G, t, none⟩ (.slice Q n qc)) := e2.trans k3
          have cInv := frInv_c p X Y xc yc x.n x.d (w2.setCell ⟨G, t, none⟩ (.slice Q n qc)) (hXY _ K3).1 (hXY _ K3).2 HF.out Hxg.out.1.n.e Hxg.out.1.d.e Hxg.out.1.n.t Hxg.out.1.d.t Hxn.out
          go_wp2_with fail
          have C0 := Ex1.cell k3 hgG c0
          have C1 := Ex1.cell k3 hgG c1
          clear et er c0 c1 fz cIz htb hM2
          generalize w2.setCell ⟨G, t, none⟩ (.slice Q n qc) = W3 at *
          refine cInv.mono ?_
          rintro e w4 ⟨I, ic, J, jc, rfl, fI, fJ, apI, x4⟩
          clear cInv
          obtain ⟨iv, hiv⟩ : ∃ iv : Fra, invF p x = iv := ⟨_, rfl⟩
          have Hiv := Lib.hid hiv
          have hivn : lowN p x.d x.n = iv.n := by rw [← hiv]; rfl
          have hivd : lowD p x.d x.n = iv.d := by rw [← hiv]; rfl
          rw [hivn] at fI ⊢
          rw [hivd] at fJ ⊢
          have HIV := Lib.hid (show FV p iv ∧ FL 17179869184 iv by rw [← hiv]; exact ⟨Hxg.out.1.inv Hxn.out, FL.inv Hxg.out.1 Hxn.out Hxg.out.2⟩)
          clear hiv hivn hivd
          have y4 := (Ex.refl w4).alloc (.cells #[.slice I iv.n.length ic, .slice J iv.d.length jc] 58)
          have dI := VB.new w4 58 #[.slice I iv.n.length ic, .slice J iv.d.length jc]
          go_wp2_with fail
          generalize w4.alloc (.cells #[.slice I iv.n.length ic, .slice J iv.d.length jc] 58) = W4 at *
          have X4 := x4.trans y4
          have rI := fI.rd.ex y4
          have rJ := fJ.rd.ex y4
          have K4 : Ex1 G wj W4 := K3.trans (Ex1.of_ex X4)
          have hM4 := hM3.ex X4
          obtain ⟨L, hL⟩ : ∃ L, (frOps p).nrm zt c = L := ⟨_, rfl⟩
          have HL := Lib.hid hL
          have HLl := Lib.hid (show L.length = n by rw [← hL, nrm_len]; exact hztl.out)
          have HLat := Lib.hid (show ∀ (k : Nat) (y : Fra), zt[k]? = some y → L.take (k + 1) = L.take k ++ [mulF p iv y] from fun k y hy => by
            have : L[k]? = some (mulF p iv y) := by
              rw [← hL, ← Hiv.out]
              unfold Ops.nrm
              rw [List.getElem?_map, hy, Hel.out]; rfl
            rw [List.take_add_one, this]; rfl)
          have HLg := Lib.hid (show GdR p 34359738368 L by rw [← hL]; exact Hztg.out.nrm (by rw [hztl.out]; exact hc1) (by rw [Hel.out]; exact Hb.out))
          rw [hL] at HMIX
          clear hL hM3 fI fJ apI x4 y4 K3 k3 C0 C1
          have hGW : G < W4.heap.size := hM4.lt
          go_loopw [13, 71] (fun o s71 wr => ∃ k : Nat, k ≤ n ∧ s71 = .int .i64 k ∧ GE ELF 58 wr W4.heap.size wr.heap.size o (L.take k) ∧ Ex W4 wr) (fun _ s71 _ => n - (intOf s71).toNat)
          case atStart => exact ⟨0, Nat.zero_le _, rfl, GE.nil _ _ _ _ _, Ex.refl _⟩
          case round =>
            rename World => wl
            obtain ⟨k, hk, rfl, hge, hel⟩ := hrel
            have Kl : Ex1 G wj wl := K4.trans (Ex1.of_ex hel)
            have dIl := dI.ex hel
            by_cases hkn : k < n
            · obtain ⟨g3, off3, y, P2, pc2, Q2, qc2, eP, hy, hgG3, e0, e1, hPQ⟩ := hP.frac (j := k) (by rw [hztl.out]; exact hkn)
              injection eP with eP
              injection eP with ea eb
              subst ea eb
              have HT := Lib.hid (HLat.out k y hy)
              have Hyg := Lib.hid (Hztg.out y (List.mem_of_getElem? hy))
              have E0 := Ex1.cell Kl hgG3 e0
              have E1 := Ex1.cell Kl hgG3 e1
              have hP2 := (hPQ _ Kl).1
              have hQ2 := (hPQ _ Kl).2
              have htl2 : (L.take k).length ≤ k := List.length_take_le _ _
              have hzl := hel.size
              have cMul : ∀ W, Ex wl W → Calls Tryz.prog 98 #[.int .i64 p, .agg #[.slice I iv.n.length ic, .slice J iv.d.length jc], .agg #[.slice P2 y.n.length pc2, .slice Q2 y.d.length qc2]] W fun e w' => FFx W (mulF p iv y) e w' := fun W hW =>
                frMul_b p I J ic jc iv.n iv.d P2 Q2 pc2 qc2 y.n y.d W (rI.ex (hel.trans hW)) (rJ.ex (hel.trans hW)) (hP2.ex hW) (hQ2.ex hW) (HIV.out.1.okb (by have := HIV.out.2.1; omega) (by have := HIV.out.2.2; omega)) (Hyg.out.1.okb (by have := Hyg.out.2.1; omega) (by have := Hyg.out.2.2; omega))
              obtain ⟨z, hz⟩ : ∃ z, mulF p iv y = z := ⟨_, rfl⟩
              rw [hz] at cMul HT
              have y1 := (Ex.refl wl).alloc (.cells #[.slice P2 y.n.length pc2, .slice Q2 y.d.length qc2] 58)
              have dy := VB.new wl 58 #[.slice P2 y.n.length pc2, .slice Q2 y.d.length qc2]
              have q0 := dy.cell 0 (v := .slice P2 y.n.length pc2) rfl
              have q1 := dy.cell 1 (v := .slice Q2 y.d.length qc2) rfl
              have q2 := (dIl.ex y1).cell 0 (v := .slice I iv.n.length ic) rfl
              have q3 := (dIl.ex y1).cell 1 (v := .slice J iv.d.length jc) rfl
              clear hy hz hPQ e0 e1
              go_wp2_with fail
              generalize wl.alloc (.cells #[.slice P2 y.n.length pc2, .slice Q2 y.d.length qc2] 58) = W5 at *
              refine (cMul W5 y1).mono ?_
              rintro e w6 ⟨A6, c6, B6, d6, rfl, f6, g6, ap6, x6⟩
              have z6 := x6.size
              have z5 := y1.size
              obtain ⟨v7, w7, hrun, hge7, _, _, hE7⟩ := push_frac (hge.ex (y1.trans x6)) (by omega) (ofra_of_fr (x := z) f6 g6 ap6 z6) (by omega) z6 (Nat.le_refl _) hzl (by omega)
              rw [← HT.out] at hge7
              have x7 := hE7 W4 (hel.trans (y1.trans x6)) (Nat.le_refl _)
              clear hE7 HT htl2 cMul hge q0 q1 q2 q3 dIl
              go_wp2_with (at_builtin; refine wpList_append_run rfl _ _ _ rfl rfl rfl hrun ?_)
              go_roundw
              case rel => exact ⟨k + 1, by omega, by go_num, hge7, x7⟩
              case measure => simp [intOf]; omega
            · obtain rfl : n = k := by omega
              rw [List.take_of_length_le (by rw [HLl.out]; exact Nat.le_refl _)] at hge
              obtain ⟨LA, lc, ev, hlc, _⟩ := hge.ox (E' := EXF) (by rw [HLl.out]; omega) rfl elf_exf
              rw [HLl.out] at ev hlc
              subst ev
              have hRdn : RdN S G wl LA L := hge.rdn hGW (fun i hi => by have := HS.out i hi; have := (he.trans hej).size; have := K4.size'; omega) (by rw [HLl.out]; omega)
              have hMl := hM4.ex hel
              have fz := hMl.frozen r
              obtain ⟨ro, hro⟩ : ∃ ro, (Z.set t zr)[r]? = some ro := ⟨_, List.getElem?_eq_getElem (by rw [List.length_set, HZ.out]; exact hr1)⟩
              obtain ⟨_, _, er2, _⟩ := hMl.at_ hro
              have hM6 := hMl.put r (c := lc) hRdn HLl.out (q' := r + 1) (fun _ => hlc) (fun j h1 h2 => by omega)
              have k6 : Ex1 G wl (wl.setCell ⟨G, r, none⟩ (.slice LA n lc)) := (Ex1.refl _ _).setCell (p := ⟨G, r, none⟩) rfl _
              have xw6 : Ex w (wl.setCell ⟨G, r, none⟩ (.slice LA n lc)) := (he.trans hej).ex1 (Kl.trans k6) hG
              have hR6 := hRdn.k1 k6
              clear hge hro hMl hM4
              go_wp2_with fail
              clear fz er2 hRdn k6
              generalize wl.setCell ⟨G, r, none⟩ (.slice LA n lc) = W6 at *
              have HZ1l := Lib.hid (show ((Z.set t zr).set r L).length = R by rw [List.length_set, List.length_set, HZ.out])
              have HZ1r := Lib.hid (show ((Z.set t zr).set r L)[r]? = some L by rw [List.getElem?_set, if_pos rfl, if_pos (by rw [List.length_set, HZ.out]; exact hr1)])
              have HZ1g := Lib.hid (show ∀ (k : Nat) (u : List Fra), k ≠ r → ((Z.set t zr).set r L)[k]? = some u → GdR p 17179869184 u from fun k u hne hu => by
                rw [List.getElem?_set, if_neg (fun h => hne h.symm), List.getElem?_set] at hu
                split at hu
                · split at hu
                  · injection hu with hu; rw [← hu]; exact HGm.out zr (List.mem_of_getElem? Hzr.out)
                  · cases hu
                · exact HGm.out u (List.mem_of_getElem? hu))
              generalize (Z.set t zr).set r L = Z1 at *
              generalize (frOps p).piv Z r c t = T at *
              go_loopw [89] (fun s89 wr => ∃ k : Nat, k ≤ R ∧ s89 = .int .i64 k ∧ MR wr S G n (r + 1) (T.take k ++ Z1.drop k) ∧ RdN S G wr LA L ∧ Ex w wr) (fun s89 _ => R - (intOf s89).toNat)
              case atStart => exact ⟨0, Nat.zero_le _, rfl, by simpa using hM6, hR6, xw6⟩
              case round =>
                rename World => wm
                clear hM6 hR6 xw6
                obtain ⟨i, hi, rfl, hMm, hLm, hem⟩ := hrel
                by_cases hiR : i < R
                · obtain ⟨u, hu⟩ : ∃ u, Z1[i]? = some u := ⟨_, List.getElem?_eq_getElem (by rw [HZ1l.out]; exact hiR)⟩
                  have hmu : (T.take i ++ Z1.drop i)[i]? = some u := by
                    rw [mix_at T Z1 (by rw [HTl.out, HZ1l.out]) i (by rw [HZ1l.out]; exact hiR)]; exact hu
                  have HTk := Lib.hid (HMIX.out i u hu)
                  have Hu := Lib.hid hu
                  by_cases hir : i = r
                  · have hnb : ((i : Int) != (r : Int)) = false := by simp; omega
                    have HSm := Lib.hid (mix_same T Z1 (by rw [HTl.out, HZ1l.out]) i L (by rw [HTk.out, if_pos hir]) (by rw [hir]; exact HZ1r.out))
                    clear hir hu hmu
                    go_wp2_with fail
                    go_roundw
                    case rel => exact ⟨i + 1, by omega, by go_num, by rw [← HSm.out]; exact hMm, hLm, hem⟩
                    case measure => simp [intOf]; omega
                  · have hnb : ((i : Int) != (r : Int)) = true := by simp; omega
                    obtain ⟨Pu, puc, eu, hPu⟩ := hMm.at_ hmu
                    have Hul := Lib.hid (hMm.len hmu)
                    obtain ⟨g5, off5, y, P5, pc5, Q5, qc5, rfl, hy, hgG5, e0, e1, hPQ⟩ := hPu.frac (j := c) (by rw [Hul.out]; exact hc1)
                    have hyel := Lib.hid (show (frOps p).el u c = y from (frOps p).el_in hy)
                    have hP5 := (hPQ _ (Ex1.refl _ _)).1
                    have hQ5 := (hPQ _ (Ex1.refl _ _)).2
                    have cIz2 := rrIsZero_c P5 Q5 pc5 qc5 y wm hP5.len
                    have Hug := Lib.hid (HZ1g.out i u hir hu)
                    have Hyg := Lib.hid (Hug.out y (List.mem_of_getElem? hy))
                    have HTk2 := Lib.hid (show T[i]? = some (if iszF y = true then u else (frOps p).less u y L) by
                      rw [HTk.out, if_neg hir, hyel.out]; rfl)
                    cases hb2 : iszF y with
                    | true =>
                      rw [hb2] at cIz2
                      have HSm := Lib.hid (mix_same T Z1 (by rw [HTl.out, HZ1l.out]) i u (by rw [HTk2.out, if_pos hb2]) hu)
                      clear hir hu hmu hy hb2
                      go_wp2_with fail
                      refine cIz2.mono ?_
                      rintro e w7 ⟨rfl, x7⟩
                      go_wp2_with fail
                      go_roundw
                      case rel => exact ⟨i + 1, by omega, by go_num, by rw [← HSm.out]; exact hMm.ex x7, hLm.ex x7, hem.trans x7⟩
                      case measure => simp [intOf]; omega
                    | false =>
                      rw [hb2] at cIz2
                      have HSm := Lib.hid (mix_set T Z1 (by rw [HTl.out, HZ1l.out]) i ((frOps p).less u y L) (by rw [HTk2.out, hb2]; rfl))
                      have HNl := Lib.hid (show ((frOps p).less u y L).length = n from less_len _ Hul.out HLl.out _)
                      have cLess : ∀ W, Ex wm W → Calls Tryz.prog 67 #[.int .i64 p, .slice (some ⟨g5, off5, none⟩) n puc, .slice LA n lc, .agg #[.slice P5 y.n.length pc5, .slice Q5 y.d.length qc5]] W fun e w' => ∃ A9 c9, e = .returned (.slice A9 n c9) ∧ n ≤ c9 ∧ RdN S G w' A9 ((frOps p).less u y L) ∧ Ex W w' := fun W hW => by
                        have hq := rrLess_c p u L y (some ⟨g5, off5, none⟩) LA P5 Q5 puc lc pc5 qc5 W (hPu.rd.ex hW) (hLm.rd.ex hW) (by rw [Hul.out, HLl.out]) (hP5.ex hW) (hQ5.ex hW) (Hug.out.mono (by omega)) (HLg.out.mono (by omega)) Hyg.out.1 (Hyg.out.2.mono (by omega))
                        rw [Hul.out, HLl.out] at hq
                        refine hq.mono ?_
                        rintro e w' ⟨v, rfl, ge, xx⟩
                        obtain ⟨A9, c9, ev, hc9, _⟩ := ge.ox (E' := EXF) (by rw [HNl.out]; omega) rfl elf_exf
                        rw [HNl.out] at ev hc9
                        subst ev
                        have hGm := hMm.lt
                        have hWs := hW.size
                        exact ⟨A9, c9, rfl, hc9, ge.rdn (by omega) (fun i hi => by have := HS.out i hi; have := hem.size; omega) (by rw [HNl.out]; omega), xx⟩
                      clear hir hu hmu hy hb2 hPu hPQ
                      go_wp2_with fail
                      refine cIz2.mono ?_
                      rintro e w7 ⟨rfl, x7⟩
                      clear cIz2
                      replace eu := cell_ex x7 eu
                      replace e0 := cell_ex x7 e0
                      replace e1 := cell_ex x7 e1
                      go_wp2_with fail
                      go_region_law (first
                        | (go_simp
                           go_at_call 67
                           refine (cLess _ (x7.trans (Ex.refl w7).drew)).mono ?_
                           rintro e w9 ⟨A9, c9, rfl, hc9, r9, x9⟩
                           replace x9 := ((Ex.refl w7).drew).trans x9
                           have l0 := cell_ex x9 eu
                           have hM9 := hMm.ex (x7.trans x9)
                           have n0 := hM9.frozen i))
                      all_goals
                        have hM10 := hM9.put i (c := c9) r9 HNl.out (q' := r + 1) (fun _ => hc9) (fun j h _ => h)
                        rw [HSm.out] at hM10
                        have k10 : Ex1 G w9 (w9.setCell ⟨G, i, none⟩ (.slice A9 n c9)) := (Ex1.refl _ _).setCell (p := ⟨G, i, none⟩) rfl _
                        have hL10 := (hLm.ex (x7.trans x9)).k1 k10
                        have hx10 := (hem.trans (x7.trans x9)).ex1 k10 hG
                        clear cLess eu e0 e1 l0 n0 hM9 hMm hLm
                        go_wp2_with fail
                        go_roundw
                        case rel => exact ⟨i + 1, by omega, by go_num, hM10, hL10, hx10⟩
                        case measure => simp [intOf]; omega
                · obtain rfl : i = R := by omega
                  rw [List.take_of_length_le (by rw [HTl.out]; exact Nat.le_refl _), List.drop_of_length_le (by rw [HZ1l.out]; exact Nat.le_refl _), List.append_nil] at hMm
                  go_wp2_with fail
                  go_roundw
                  case rel => exact ⟨c + 1, r + 1, T, by omega, by go_num, by go_num, hMm, HTW, HSk, HTl, by omega, HFk, hem⟩
                  case measure => simp [intOf]; omega
      · obtain rfl : t = R := by omega
        have HN := Lib.hid (fnd_no (O := frOps p) (by rw [HZ.out]; exact hrR) (fun i v h1 h2 h3 => Hz.out i v h1 (by rw [← HZ.out]; exact h2) h3))
        have HSk := Lib.hid (show stg (frOps p) rows (c + 1) = (Z, r) by rw [stg, HG.out]; exact if_neg HN.out)
        have HFk := Lib.hid (show (frOps p).red (n - (c + 1)) (c + 1) r Z = FIN by rw [← HFIN.out, show n - c = (n - (c + 1)) + 1 by omega, Ops.red, if_neg HN.out])
        clear Hz HN
        go_wp2_with fail
        go_roundw
        case rel => exact ⟨c + 1, r, Z, by omega, rfl, by go_num, hM.ex hej, HW, HSk, HZ, hrR, HFk, he.trans hej⟩
        case measure => simp [intOf]; omega
theorem rrReduce_c (S : Nat → Prop) (p : Int) (n : Nat) (rows : List (List Fra)) (A : Option Addr) (c : Nat) (w : World) (hF : fieldB p = true) (h : RowsN S w A rows) (hS : ∀ k, S k → k < w.heap.size) (hw : Wid n rows) (hGd : ∀ c, c ≤ n → GdM p 17179869184 (stg (frOps p) rows c).1) (hn : n ≤ 1000) (hR : rows.length ≤ 1000) :
    Calls Tryz.prog 79 #[.int .i64 p, .int .i64 n, .slice A rows.length c] w fun e w' => ∃ A' c', e = .returned (.slice A' ((frOps p).rref n rows).length c') ∧ (∀ w2, ExS S w' w2 → RdS EFF w2 A' ((frOps p).rref n rows)) ∧ Ex w w' := by
  refine (rrReduceC_c S p n rows A c w hF h hS hw hGd hn hR).mono ?_
  rintro e w' ⟨A', c', rfl, hR, x⟩
  exact ⟨A', c', rfl, fun w2 hw2 => (hR w2 hw2).1, x⟩
end Go.Proofs.YtpeogfapnofeoaaGreatDoor
