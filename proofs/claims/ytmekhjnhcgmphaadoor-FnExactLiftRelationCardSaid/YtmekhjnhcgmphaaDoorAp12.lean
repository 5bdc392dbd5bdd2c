/- Rational rows that are turned in place: memory; ratAddTimes. Lists of rational rows that are turned in place: memory; the search for a pivot. The elimination of rational rows in plain terms: the program's steps are those of Ops.red; degrees. The elimination of rational rows: memory of the rows and of what is turned beside them; the search's closure. -/
import Derived.Test.YtmekhjnhcgmphaaDoorAp11
import Derived.Deep.RegionLaw
import Derived.Deep.LoopGhost
import Derived.Deep.Cut
import Derived.Deep.CutRange
import Derived.Deep.RegionWith
namespace Go.Proofs.YtmekhjnhcgmphaaDoor
set_option maxRecDepth 100000
open Go Go.RowKit
theorem Rd.sx_k {w w' : World} {S : Nat → Prop} {A : Option Addr} {xs : List Int} (h : Rd w A xs) (k : ExS S w w') (hd : xs ≠ [] → ∀ a, A = some a → ¬ S a.block) : Rd w' A xs := by
  by_cases hx : xs = []
  · subst hx; exact Rd.nil _ _
  · exact h.keep fun a e hl => k.block _ hl (hd hx a e)
/-- It reads as l, in none of the blocks of S. -/
def RX (w : World) (S : Nat → Prop) (A : Option Addr) (l : List Int) : Prop := Rd w A l ∧ (l ≠ [] → ∀ a, A = some a → ¬ S a.block)
theorem RX.sx {w w' : World} {S T : Nat → Prop} {A : Option Addr} {l : List Int} (h : RX w S A l) (k : ExS T w w') (hT : ∀ i, T i → S i) : RX w' S A l := ⟨h.1.sx_k k fun hn a e ht => h.2 hn a e (hT _ ht), h.2⟩
theorem RX.ex {w w' : World} {S : Nat → Prop} {A : Option Addr} {l : List Int} (h : RX w S A l) (k : Ex w w') : RX w' S A l := ⟨h.1.ex k, h.2⟩
/-- Block b holds the row xs of fractions; their numbers lie in none of the blocks of S. -/
def FBk (w : World) (S : Nat → Prop) (b : Nat) (xs : List Fra) : Prop :=
  ∃ cur : Array Value, w.heap[b]? = some (.cells cur 40 (0, 0)) ∧ ∀ (i : Nat) (x : Fra), xs[i]? = some x → ∃ A c B d, cur[i * 2]? = some (.slice A x.n.length c) ∧ cur[i * 2 + 1]? = some (.slice B x.d.length d) ∧ RX w S A x.n ∧ RX w S B x.d
theorem FBk.lt {w : World} {S : Nat → Prop} {b : Nat} {xs : List Fra} (h : FBk w S b xs) : b < w.heap.size := by obtain ⟨_, h, _⟩ := h; exact heap_lt_of h
theorem FBk.at_ {w : World} {S : Nat → Prop} {b : Nat} {xs : List Fra} (h : FBk w S b xs) {i : Nat} {x : Fra} (hi : xs[i]? = some x) :
    ∃ A c B d, w.cell? ⟨b, i * 2, none⟩ = some (.slice A x.n.length c) ∧ w.cell? ⟨b, i * 2 + 1, none⟩ = some (.slice B x.d.length d) ∧ RX w S A x.n ∧ RX w S B x.d := by
  obtain ⟨cur, hc, hx⟩ := h
  obtain ⟨A, c, B, d, h1, h2, h3, h4⟩ := hx i x hi
  exact ⟨A, c, B, d, by simp [World.cell?, hc, h1], by simp [World.cell?, hc, h2], h3, h4⟩
theorem FBk.frozen {w : World} {S : Nat → Prop} {b : Nat} {xs : List Fra} (h : FBk w S b xs) (i : Nat) : w.frozen? ⟨b, i, none⟩ = false := by
  obtain ⟨cur, hc, _⟩ := h
  simp [World.frozen?, hc]
theorem FBk.sx {w w' : World} {S T : Nat → Prop} {b : Nat} {xs : List Fra} (h : FBk w S b xs) (k : ExS T w w') (hT : ∀ i, T i → S i) (hb : ¬ T b) : FBk w' S b xs := by
  have hl := h.lt
  obtain ⟨cur, hc, hx⟩ := h
  refine ⟨cur, (k.block b hl hb).trans hc, fun i x hi => ?_⟩
  obtain ⟨A, c, B, d, h1, h2, h3, h4⟩ := hx i x hi
  exact ⟨A, c, B, d, h1, h2, h3.sx k hT, h4.sx k hT⟩
theorem FBk.ex {w w' : World} {S : Nat → Prop} {b : Nat} {xs : List Fra} (h : FBk w S b xs) (k : Ex w w') : FBk w' S b xs := h.sx (ExS.of_ex (S := fun _ => False) k) (fun _ h => h.elim) id
theorem FBk.put {w : World} {S : Nat → Prop} {b : Nat} {xs : List Fra} (h : FBk w S b xs) (hb : S b) (i : Nat) (x : Fra) {A B : Option Addr} {c d : Nat} (hA : RX w S A x.n) (hB : RX w S B x.d) :
    FBk ((w.setCell ⟨b, i * 2, none⟩ (.slice A x.n.length c)).setCell ⟨b, i * 2 + 1, none⟩ (.slice B x.d.length d)) S b (xs.set i x) := by
  have k : ExS (fun z => z = b) w ((w.setCell ⟨b, i * 2, none⟩ (.slice A x.n.length c)).setCell ⟨b, i * 2 + 1, none⟩ (.slice B x.d.length d)) :=
    ExS.of_ex1 (((Ex1.refl b w).setCell (p := ⟨b, i * 2, none⟩) rfl _).setCell (p := ⟨b, i * 2 + 1, none⟩) rfl _) rfl
  have hT : ∀ z, z = b → S z := fun z e => e ▸ hb
  obtain ⟨cur, hc, hx⟩ := h
  refine ⟨(cur.setIfInBounds (i * 2) (.slice A x.n.length c)).setIfInBounds (i * 2 + 1) (.slice B x.d.length d), by simp [World.setCell, Array.getElem?_modify, hc], fun j y hj => ?_⟩
  rw [List.getElem?_set] at hj
  split at hj
  · rename_i e
    subst e
    split at hj
    · rename_i hl
      injection hj with hj
      subst hj
      obtain ⟨A', c', B', d', h1, h2, _⟩ := hx i _ (List.getElem?_eq_getElem hl)
      have l1 : i * 2 < cur.size := (Array.getElem?_eq_some_iff.1 h1).1
      have l2 : i * 2 + 1 < cur.size := (Array.getElem?_eq_some_iff.1 h2).1
      refine ⟨A, c, B, d, ?_, ?_, hA.sx k hT, hB.sx k hT⟩
      · rw [Array.getElem?_setIfInBounds, if_neg (by omega), Array.getElem?_setIfInBounds, if_pos rfl, if_pos l1]
      · rw [Array.getElem?_setIfInBounds, if_pos rfl, if_pos (by simpa using l2)]
    · cases hj
  · rename_i e
    obtain ⟨A', c', B', d', h1, h2, h3, h4⟩ := hx j y hj
    refine ⟨A', c', B', d', ?_, ?_, h3.sx k hT, h4.sx k hT⟩
    · rw [Array.getElem?_setIfInBounds, if_neg (by omega), Array.getElem?_setIfInBounds, if_neg (by omega)]; exact h1
    · rw [Array.getElem?_setIfInBounds, if_neg (by omega), Array.getElem?_setIfInBounds, if_neg (by omega)]; exact h2
/-- The numbers that lie in the cells of R are owned: each block of ints is whole, unfrozen, none of S, and told apart from all the others. -/
def Ow (w : World) (S : Nat → Prop) (R : Nat → Nat → Prop) : Prop :=
  ∀ (b o : Nat) (a : Addr) (n c : Nat), R b o → w.cell? ⟨b, o, none⟩ = some (.slice (some a) n c) →
    (¬ S a.block ∧ n ≤ c ∧ ∃ cur, w.heap[a.block]? = some (.cells cur 3 (0, 0))) ∧
      ∀ (b' o' : Nat) (a' : Addr) (n' c' : Nat), R b' o' → w.cell? ⟨b', o', none⟩ = some (.slice (some a') n' c') → a'.block = a.block → b' = b ∧ o' = o
theorem Ow.sx {w w' : World} {S T : Nat → Prop} {R : Nat → Nat → Prop} (h : Ow w S R) (hR : ∀ b o, R b o → b < w.heap.size) (k : ExS T w w') (hTS : ∀ i, T i → S i) (hTR : ∀ i o, T i → ¬ R i o) : Ow w' S R := by
  have hc : ∀ (b o : Nat), R b o → w'.cell? ⟨b, o, none⟩ = w.cell? ⟨b, o, none⟩ := fun b o hb =>
    World.cell?_of_block (w := w) (a := ⟨b, o, none⟩) (k.block b (hR b o hb) (fun ht => hTR b o ht hb))
  intro b o a n c hb he
  rw [hc b o hb] at he
  obtain ⟨⟨h1, h2, cur, h3⟩, h4⟩ := h b o a n c hb he
  refine ⟨⟨h1, h2, cur, (k.block _ (heap_lt_of h3) (fun ht => h1 (hTS _ ht))).trans h3⟩, fun b' o' a' n' c' hb' he' e => ?_⟩
  rw [hc b' o' hb'] at he'
  exact h4 b' o' a' n' c' hb' he' e
/-- From w to w' what is owned through block b stays owned. -/
def OwK (S : Nat → Prop) (b : Nat) (w w' : World) : Prop := w.heap.size ≤ w'.heap.size ∧ (S b → ∀ (S' : Nat → Prop) (R : Nat → Nat → Prop), (∀ z, S z → S' z) → (∀ z o, R z o → S' z) → (∀ z, S' z → z < w.heap.size) → Ow w S' R → Ow w' S' R)
theorem OwK.refl (S : Nat → Prop) (b : Nat) (w : World) : OwK S b w w := ⟨Nat.le_refl _, fun _ _ _ _ _ _ h => h⟩
theorem OwK.trans {S : Nat → Prop} {b : Nat} {u v w : World} (h : OwK S b u v) (k : OwK S b v w) : OwK S b u w :=
  ⟨Nat.le_trans h.1 k.1, fun hb S' R h1 h2 h3 h4 => k.2 hb S' R h1 h2 (fun z hz => Nat.lt_of_lt_of_le (h3 z hz) h.1) (h.2 hb S' R h1 h2 h3 h4)⟩
theorem OwK.of_ex {S : Nat → Prop} {b : Nat} {v w : World} (h : Ex v w) : OwK S b v w :=
  ⟨h.size, fun _ _ _ _ h2 h3 h4 => h4.sx (fun z o hz => h3 z (h2 z o hz)) (ExS.of_ex (S := fun _ => False) h) (fun _ h => h.elim) (fun _ _ h => h.elim)⟩
end Go.Proofs.YtmekhjnhcgmphaaDoor
namespace Go.Proofs.YtmekhjnhcgmphaaDoor
set_option maxRecDepth 100000
open Go Go.RowKit
def pB (ob : Option Nat) : Option Addr := ob.map fun b => ⟨b, 0, none⟩
/-- A row of fractions behind an optional block. -/
def FBo (w : World) (S : Nat → Prop) (ob : Option Nat) (xs : List Fra) : Prop := match ob with
  | none => xs = []
  | some b => FBk w S b xs ∧ S b
theorem FBo.sx {w w' : World} {S T : Nat → Prop} {ob : Option Nat} {xs : List Fra} (h : FBo w S ob xs) (k : ExS T w w') (hT : ∀ i, T i → S i) (hb : ∀ b, ob = some b → ¬ T b) : FBo w' S ob xs := by
  cases ob with
  | none => exact h
  | some b => exact ⟨h.1.sx k hT (hb b rfl), h.2⟩
/-- Block G holds the list of rows; each lies in a block of its own; all these blocks are of S, the numbers' blocks are not. -/
structure RatM (w : World) (S : Nat → Prop) (G : Nat) (bs : List (Option Nat)) (rows : List (List Fra)) (n : Nat) : Prop where
  out : ∃ cur : Array Value, w.heap[G]? = some (.cells cur 70 (0, 0)) ∧ ∀ (j : Nat) (ob : Option Nat), bs[j]? = some ob → ∃ c, n ≤ c ∧ cur[j]? = some (.slice (pB ob) n c)
  len : bs.length = rows.length
  row : ∀ (j : Nat) (ob : Option Nat) (r : List Fra), bs[j]? = some ob → rows[j]? = some r → FBo w S ob r ∧ r.length = n
  nd : ∀ (i j : Nat) (b : Nat), bs[i]? = some (some b) → bs[j]? = some (some b) → i = j
  sg : S G
  ng : ∀ (j : Nat) (b : Nat), bs[j]? = some (some b) → b ≠ G
theorem RatM.lt {w : World} {S : Nat → Prop} {G : Nat} {bs : List (Option Nat)} {rows : List (List Fra)} {n : Nat} (h : RatM w S G bs rows n) : G < w.heap.size := by obtain ⟨_, h, _⟩ := h.out; exact heap_lt_of h
theorem RatM.at_ {w : World} {S : Nat → Prop} {G : Nat} {bs : List (Option Nat)} {rows : List (List Fra)} {n : Nat} (h : RatM w S G bs rows n) {j : Nat} (hj : j < rows.length) :
    ∃ ob r c, bs[j]? = some ob ∧ rows[j]? = some r ∧ r.length = n ∧ FBo w S ob r ∧ w.cell? ⟨G, j, none⟩ = some (.slice (pB ob) n c) := by
  obtain ⟨ob, hob⟩ : ∃ ob, bs[j]? = some ob := ⟨_, List.getElem?_eq_getElem (by rw [h.len]; exact hj)⟩
  obtain ⟨r, hr⟩ : ∃ r, rows[j]? = some r := ⟨_, List.getElem?_eq_getElem hj⟩
  obtain ⟨cur, hc, hx⟩ := h.out
  obtain ⟨c, _, hcc⟩ := hx j ob hob
  obtain ⟨h1, h2⟩ := h.row j ob r hob hr
  exact ⟨ob, r, c, hob, hr, h2, h1, by simp [World.cell?, hc, hcc]⟩
theorem RatM.frozen {w : World} {S : Nat → Prop} {G : Nat} {bs : List (Option Nat)} {rows : List (List Fra)} {n : Nat} (h : RatM w S G bs rows n) (i : Nat) : w.frozen? ⟨G, i, none⟩ = false := by
  obtain ⟨cur, hc, _⟩ := h.out
  simp [World.frozen?, hc]
theorem RatM.sx {w w' : World} {S T : Nat → Prop} {G : Nat} {bs : List (Option Nat)} {rows : List (List Fra)} {n : Nat} (h : RatM w S G bs rows n) (k : ExS T w w') (hT : ∀ i, T i → S i) (hG : ¬ T G) (hb : ∀ (j : Nat) (b : Nat), bs[j]? = some (some b) → ¬ T b) : RatM w' S G bs rows n := by
  have hl := h.lt
  obtain ⟨cur, hc, hx⟩ := h.out
  exact ⟨⟨cur, (k.block G hl hG).trans hc, hx⟩, h.len, fun j ob r h1 h2 => ⟨(h.row j ob r h1 h2).1.sx k hT fun b e => hb j b (by rw [← e]; exact h1), (h.row j ob r h1 h2).2⟩, h.nd, h.sg, h.ng⟩
theorem RatM.ex {w w' : World} {S : Nat → Prop} {G : Nat} {bs : List (Option Nat)} {rows : List (List Fra)} {n : Nat} (h : RatM w S G bs rows n) (k : Ex w w') : RatM w' S G bs rows n := h.sx (ExS.of_ex (S := fun _ => False) k) (fun _ h => h.elim) id (fun _ _ _ => id)
/-- One row has been turned. -/
theorem RatM.turn {w w' : World} {S : Nat → Prop} {G : Nat} {bs : List (Option Nat)} {rows : List (List Fra)} {n : Nat} (h : RatM w S G bs rows n) {i : Nat} {ob : Option Nat} (hi : bs[i]? = some ob) {r' : List Fra} (hr : FBo w' S ob r') (hl : r'.length = n) (k : ExS (fun z => ob = some z) w w') : RatM w' S G bs (rows.set i r') n := by
  have hS : ∀ z, ob = some z → S z := fun z e => by
    subst e
    exact hr.2
  have hil := (List.getElem?_eq_some_iff.1 hi).1
  have hg : ¬ (ob = some G) := fun e => h.ng i G (by rw [hi, e]) rfl
  have hgl := h.lt
  obtain ⟨cur, hc, hx⟩ := h.out
  refine ⟨⟨cur, (k.block G hgl hg).trans hc, hx⟩, by rw [List.length_set]; exact h.len, fun j ob' r h1 h2 => ?_, h.nd, h.sg, h.ng⟩
  rw [List.getElem?_set] at h2
  by_cases e : i = j
  · subst e
    rw [if_pos rfl, if_pos (by rw [← h.len]; exact hil)] at h2
    injection h2 with h2
    subst h2
    rw [hi] at h1
    injection h1 with h1
    subst h1
    exact ⟨hr, hl⟩
  · rw [if_neg e] at h2
    refine ⟨(h.row j ob' r h1 h2).1.sx k hS fun b e2 e3 => e ?_, (h.row j ob' r h1 h2).2⟩
    subst e2 e3
    exact h.nd i j b hi h1
/-- Two rows have been exchanged. -/
theorem RatM.swap {w : World} {S : Nat → Prop} {G : Nat} {bs : List (Option Nat)} {rows : List (List Fra)} {n : Nat} (h : RatM w S G bs rows n) {i k : Nat} {oi ok : Option Nat} {ri rk : List Fra} {ci ck : Nat} (hi : bs[i]? = some oi) (hk : bs[k]? = some ok) (hri : rows[i]? = some ri) (hrk : rows[k]? = some rk) (hci : n ≤ ci) (hck : n ≤ ck) :
    RatM ((w.setCell ⟨G, i, none⟩ (.slice (pB ok) n ck)).setCell ⟨G, k, none⟩ (.slice (pB oi) n ci)) S G ((bs.set i ok).set k oi) ((rows.set i rk).set k ri) n := by
  have hil := (List.getElem?_eq_some_iff.1 hi).1
  have hkl := (List.getElem?_eq_some_iff.1 hk).1
  have kx : ExS (fun z => z = G) w ((w.setCell ⟨G, i, none⟩ (.slice (pB ok) n ck)).setCell ⟨G, k, none⟩ (.slice (pB oi) n ci)) :=
    ExS.of_ex1 (((Ex1.refl G w).setCell (p := ⟨G, i, none⟩) rfl _).setCell (p := ⟨G, k, none⟩) rfl _) rfl
  have hT : ∀ z, z = G → S z := fun z e => e ▸ h.sg
  have at2 : ∀ {α : Type} (l : List α) (a b : α) (j : Nat) (x : α), i < l.length → k < l.length → ((l.set i a).set k b)[j]? = some x → (j = k ∧ x = b) ∨ (j ≠ k ∧ j = i ∧ x = a) ∨ (j ≠ k ∧ j ≠ i ∧ l[j]? = some x) := by
    intro α l a b j x h1 h2 h3
    rw [List.getElem?_set] at h3
    split at h3
    · rename_i e
      rw [if_pos (by rw [List.length_set]; omega)] at h3
      injection h3 with h3
      exact .inl ⟨e.symm, h3.symm⟩
    · rename_i e
      rw [List.getElem?_set] at h3
      split at h3
      · rename_i e2
        try rw [if_pos (by omega)] at h3
        injection h3 with h3
        exact .inr (.inl ⟨fun e3 => e e3.symm, e2.symm, h3.symm⟩)
      · rename_i e2
        exact .inr (.inr ⟨fun e3 => e e3.symm, fun e3 => e2 e3.symm, h3⟩)
  have hri' := (h.row i oi ri hi hri)
  have hrk' := (h.row k ok rk hk hrk)
  have hgl := h.lt
  have hlen := h.len
  have keep : ∀ (ob : Option Nat) (r : List Fra) (j : Nat), bs[j]? = some ob → FBo w S ob r → FBo ((w.setCell ⟨G, i, none⟩ (.slice (pB ok) n ck)).setCell ⟨G, k, none⟩ (.slice (pB oi) n ci)) S ob r := fun ob r j h1 h2 => h2.sx kx hT fun b e e2 => h.ng j b (by rw [h1, e]) e2
  obtain ⟨cur, hc, hx⟩ := h.out
  refine ⟨⟨(cur.setIfInBounds i (.slice (pB ok) n ck)).setIfInBounds k (.slice (pB oi) n ci), by simp [World.setCell, Array.getElem?_modify, hc], fun j ob hj => ?_⟩, by simp [hlen], fun j ob r h1 h2 => ?_, fun a b z h1 h2 => ?_, h.sg, fun j b hj => ?_⟩
  · obtain ⟨_, _, hi1⟩ := hx i oi hi
    obtain ⟨_, _, hk1⟩ := hx k ok hk
    have l1 : i < cur.size := (Array.getElem?_eq_some_iff.1 hi1).1
    have l2 : k < cur.size := (Array.getElem?_eq_some_iff.1 hk1).1
    rcases at2 bs ok oi j ob hil hkl hj with ⟨e, e2⟩ | ⟨e, e2, e3⟩ | ⟨e, e2, e3⟩
    · subst e e2
      exact ⟨ci, hci, by rw [Array.getElem?_setIfInBounds, if_pos rfl, if_pos (by simpa using l2)]⟩
    · subst e2 e3
      exact ⟨ck, hck, by rw [Array.getElem?_setIfInBounds, if_neg (fun h => e h.symm), Array.getElem?_setIfInBounds, if_pos rfl, if_pos l1]⟩
    · obtain ⟨c, hnc, hc'⟩ := hx j ob e3
      exact ⟨c, hnc, by rw [Array.getElem?_setIfInBounds, if_neg (fun h => e h.symm), Array.getElem?_setIfInBounds, if_neg (fun h => e2 h.symm)]; exact hc'⟩
  · rcases at2 bs ok oi j ob hil hkl h1 with ⟨e, e2⟩ | ⟨e, e2, e3⟩ | ⟨e, e2, e3⟩
    · subst e e2
      rcases at2 rows rk ri j r (by omega) (by omega) h2 with ⟨_, e4⟩ | ⟨e4, _⟩ | ⟨e4, _⟩
      · subst e4; exact ⟨keep _ _ i hi hri'.1, hri'.2⟩
      · exact absurd rfl e4
      · exact absurd rfl e4
    · subst e2 e3
      rcases at2 rows rk ri j r (by omega) (by omega) h2 with ⟨e4, _⟩ | ⟨_, _, e4⟩ | ⟨_, e4, _⟩
      · exact absurd e4 e
      · subst e4; exact ⟨keep _ _ k hk hrk'.1, hrk'.2⟩
      · exact absurd rfl e4
    · rcases at2 rows rk ri j r (by omega) (by omega) h2 with ⟨e4, _⟩ | ⟨_, e4, _⟩ | ⟨_, _, e4⟩
      · exact absurd e4 e
      · exact absurd e4 e2
      · exact ⟨keep _ _ j e3 (h.row j ob r e3 e4).1, (h.row j ob r e3 e4).2⟩
  · rcases at2 bs ok oi a _ hil hkl h1 with ⟨e1, q1⟩ | ⟨e1, f1, q1⟩ | ⟨e1, f1, q1⟩ <;> rcases at2 bs ok oi b _ hil hkl h2 with ⟨e2, q2⟩ | ⟨e2, f2, q2⟩ | ⟨e2, f2, q2⟩
    · omega
    · rw [← q1] at hi; rw [← q2] at hk; have := h.nd i k z hi hk; omega
    · rw [← q1] at hi; have := h.nd i b z hi q2; omega
    · rw [← q1] at hk; rw [← q2] at hi; have := h.nd i k z hi hk; omega
    · omega
    · rw [← q1] at hk; have := h.nd k b z hk q2; omega
    · rw [← q2] at hi; have := h.nd a i z q1 hi; omega
    · rw [← q2] at hk; have := h.nd a k z q1 hk; omega
    · exact h.nd a b z q1 q2
  · rcases at2 bs ok oi j _ hil hkl hj with ⟨e1, q1⟩ | ⟨e1, f1, q1⟩ | ⟨e1, f1, q1⟩
    · rw [← q1] at hi; exact h.ng i b hi
    · rw [← q1] at hk; exact h.ng k b hk
    · exact h.ng j b q1
end Go.Proofs.YtmekhjnhcgmphaaDoor
namespace Go.Proofs.YtmekhjnhcgmphaaDoor
set_option maxRecDepth 100000
/-- All elements are fractions in lowest terms of at most L coefficients. -/
def GdR (p : Int) (L : Nat) (v : List Fra) : Prop := ∀ x ∈ v, FV p x ∧ FL L x
def GdM (p : Int) (L : Nat) (Z : List (List Fra)) : Prop := ∀ z ∈ Z, GdR p L z
theorem GdR.mono {p : Int} {L M : Nat} {v : List Fra} (h : GdR p L v) (hm : L ≤ M) : GdR p M v := fun x hx => ⟨(h x hx).1, (h x hx).2.mono hm⟩
theorem GdM.mono {p : Int} {L M : Nat} {Z : List (List Fra)} (h : GdM p L Z) (hm : L ≤ M) : GdM p M Z := fun z hz => (h z hz).mono hm
theorem GdR.take {p : Int} {L : Nat} {v : List Fra} (h : GdR p L v) (n : Nat) : GdR p L (v.take n) := fun x hx => h x (List.mem_of_mem_take hx)
theorem GdR.drop {p : Int} {L : Nat} {v : List Fra} (h : GdR p L v) (n : Nat) : GdR p L (v.drop n) := fun x hx => h x (List.mem_of_mem_drop hx)
theorem GdR.nrm {p : Int} {L : Nat} {v : List Fra} (h : GdR p L v) {c : Nat} (hc : c < v.length) (hz : iszF ((frOps p).el v c) = false) : GdR p (L + L) ((frOps p).nrm v c) := fun x hx => by
  obtain ⟨y, hy, rfl⟩ := List.mem_map.1 hx
  have he : (frOps p).el v c = v[c] := (frOps p).el_in (List.getElem?_eq_getElem hc)
  rw [he] at hz ⊢
  obtain ⟨h1, h2⟩ := h v[c] (List.getElem_mem hc)
  have h0 : v[c].n ≠ [] := fun e => by rw [iszF_iff.2 e] at hz; cases hz
  obtain ⟨h3, h4⟩ := h y hy
  exact ⟨(h1.inv h0).mul h3, (h2.inv h1 h0).mul (h1.inv h0) h3 h4⟩
theorem GdR.less {p : Int} {L M : Nat} {v w : List Fra} (h : GdR p L v) (k : GdR p M w) {x : Fra} (hx : FV p x) (hl : FL L x) : GdR p (L + (L + M)) ((frOps p).less v x w) := fun y hy => by
  unfold Ops.less at hy
  obtain ⟨i, hi⟩ := List.getElem?_of_mem hy
  rw [List.getElem?_zipWith_eq_some] at hi
  obtain ⟨a, b, ha, hb, rfl⟩ := hi
  obtain ⟨h1, h2⟩ := h a (List.mem_of_getElem? ha)
  obtain ⟨h3, h4⟩ := k b (List.mem_of_getElem? hb)
  exact ⟨h1.add (hx.neg.mul h3), h2.add h1 (hx.neg.mul h3) (hl.neg.mul hx.neg h3 h4)⟩
theorem el_good {p : Int} {L : Nat} {v : List Fra} (h : GdR p L v) {c : Nat} (hc : c < v.length) : FV p ((frOps p).el v c) ∧ FL L ((frOps p).el v c) := by
  rw [(frOps p).el_in (List.getElem?_eq_getElem hc)]
  exact h _ (List.getElem_mem hc)
theorem GdM.piv {p : Int} {L N : Nat} {Z : List (List Fra)} (h : GdM p L Z) (hw : Wid N Z) {r c k : Nat} (hr : r < Z.length) (hk : k < Z.length) (hc : c < N) (hz : iszF ((frOps p).el (Z.getD k []) c) = false) : GdM p (4 * L) ((frOps p).piv Z r c k) := fun z hz' => by
  obtain ⟨i, hi⟩ := List.getElem?_of_mem hz'
  have hil : i < Z.length := by have := (List.getElem?_eq_some_iff.1 hi).1; rwa [piv_len] at this
  rw [piv_at (frOps p) hr hk c i hil] at hi
  injection hi with hi
  have hat : ∀ j, j < Z.length → GdR p L (Z.getD j []) := fun j hj => by
    rw [List.getD_eq_getElem?_getD, List.getElem?_eq_getElem hj]
    exact h _ (List.getElem_mem hj)
  have hsl := swp_lt hil hr hk
  have hlead := (hat k hk).nrm (p := p) (c := c) (by rw [hw.at_ hk]; exact hc) hz
  rw [← hi]
  generalize (if i = k then r else if i = r then k else i) = s at hsl
  unfold Ops.clr
  split
  · have h4 : L + L ≤ 4 * L := by omega
    exact hlead.mono h4
  · split
    · have h4 : L ≤ 4 * L := by omega
      exact (hat _ hsl).mono h4
    · obtain ⟨e1, e2⟩ := el_good (hat _ hsl) (c := c) (by rw [hw.at_ hsl]; exact hc)
      have h4 : L + (L + (L + L)) ≤ 4 * L := by omega
      exact ((hat _ hsl).less hlead e1 e2).mono h4
end Go.Proofs.YtmekhjnhcgmphaaDoor
namespace Go.Proofs.YtmekhjnhcgmphaaDoor
set_option maxRecDepth 100000
open Go Go.RowKit
/-- The rows and what is turned beside them. -/
structure RtTwo (w : World) (S K : Nat → Prop) (G G' : Nat) (bs bs' : List (Option Nat)) (Z : List (List Fra)) (n m : Nat) : Prop where
  r : RatM w S G bs (Z.map (List.take n)) n
  a : RatM w S G' bs' (Z.map (List.drop n)) m
  ne : G ≠ G'
  d : ∀ (i j b : Nat), bs[i]? = some (some b) → bs'[j]? = some (some b) → False
  d1 : ∀ (j b : Nat), bs[j]? = some (some b) → b ≠ G'
  d2 : ∀ (j b : Nat), bs'[j]? = some (some b) → b ≠ G
  sl : ∀ z, S z → z < w.heap.size
  kl : ∀ z, K z → z < w.heap.size
  own : ∃ R : Nat → Nat → Prop, Ow w (fun z => S z ∨ K z) R ∧ (∀ z o, R z o → S z) ∧ (∀ o, ¬ R G o) ∧ (∀ o, ¬ R G' o) ∧ (∀ (j b : Nat), bs[j]? = some (some b) → S b ∧ ∀ o, o < 2 * n → R b o) ∧ (∀ (j b : Nat), bs'[j]? = some (some b) → S b ∧ ∀ o, o < 2 * m → R b o)
theorem RtTwo.ex {w w' : World} {S K : Nat → Prop} {G G' : Nat} {bs bs' : List (Option Nat)} {Z : List (List Fra)} {n m : Nat} (h : RtTwo w S K G G' bs bs' Z n m) (k : Ex w w') : RtTwo w' S K G G' bs bs' Z n m := ⟨h.r.ex k, h.a.ex k, h.ne, h.d, h.d1, h.d2, fun z hz => Nat.lt_of_lt_of_le (h.sl z hz) k.size, fun z hz => Nat.lt_of_lt_of_le (h.kl z hz) k.size, by
  obtain ⟨R, hO, h1, h2⟩ := h.own
  exact ⟨R, hO.sx (fun z o hz => h.sl z (h1 z o hz)) (ExS.of_ex (S := fun _ => False) k) (fun _ h => h.elim) (fun _ _ h => h.elim), h1, h2⟩⟩
/-- Two rows have been exchanged, and what lies beside them. -/
theorem RtTwo.swap {w w1 w2 : World} {S K : Nat → Prop} {G G' : Nat} {bs bs' : List (Option Nat)} {Z : List (List Fra)} {n m : Nat} (h : RtTwo w S K G G' bs bs' Z n m) {i k : Nat} {oi ok ai ak : Option Nat} {zi zk : List Fra} (hi : bs[i]? = some oi) (hk : bs[k]? = some ok) (hai : bs'[i]? = some ai) (hak : bs'[k]? = some ak) (hzi : Z[i]? = some zi) (hzk : Z[k]? = some zk) {ci ck di dk : Nat} (hcap : (n ≤ ci ∧ n ≤ ck) ∧ m ≤ di ∧ m ≤ dk)
    (e1 : w1 = ((w.setCell ⟨G, i, none⟩ (.slice (pB ok) n ck)).setCell ⟨G, k, none⟩ (.slice (pB oi) n ci)).drew) (e2 : w2 = ((w1.setCell ⟨G', i, none⟩ (.slice (pB ak) m dk)).setCell ⟨G', k, none⟩ (.slice (pB ai) m di)).drew) :
    RtTwo w2 S K G G' ((bs.set i ok).set k oi) ((bs'.set i ak).set k ai) (swpL Z i k) n m ∧ ExS S w w2 := by
  have hil := (List.getElem?_eq_some_iff.1 hi).1
  have hkl := (List.getElem?_eq_some_iff.1 hk).1
  have hs : swpL Z i k = (Z.set i zk).set k zi := by
    unfold swpL
    rw [List.getD_eq_getElem?_getD, List.getD_eq_getElem?_getD, hzi, hzk]; rfl
  have k1 : ExS (fun z => z = G) w w1 := by rw [e1]; exact ExS.of_ex1 ((((Ex1.refl G w).setCell (p := ⟨G, i, none⟩) rfl _).setCell (p := ⟨G, k, none⟩) rfl _).drew) rfl
  have k2 : ExS (fun z => z = G') w1 w2 := by rw [e2]; exact ExS.of_ex1 ((((Ex1.refl G' w1).setCell (p := ⟨G', i, none⟩) rfl _).setCell (p := ⟨G', k, none⟩) rfl _).drew) rfl
  have t1 : ∀ z, z = G → S z := fun z e => e ▸ h.r.sg
  have t2 : ∀ z, z = G' → S z := fun z e => e ▸ h.a.sg
  have hr1 : RatM w1 S G ((bs.set i ok).set k oi) ((Z.set i zk).set k zi |>.map (List.take n)) n := by
    rw [List.map_set, List.map_set, e1]
    exact (h.r.swap hi hk (by rw [List.getElem?_map, hzi]; rfl) (by rw [List.getElem?_map, hzk]; rfl) hcap.1.1 hcap.1.2).ex (Ex.refl _).drew
  have ha1 : RatM w1 S G' bs' (Z.map (List.drop n)) m := h.a.sx k1 t1 (fun e => h.ne e.symm) (fun j b hb e => h.d2 j b hb e)
  have sub : ∀ (l : List (Option Nat)) (a b : Option Nat) (j : Nat) (x : Option Nat), l[i]? = some b → l[k]? = some a → ((l.set i a).set k b)[j]? = some x → ∃ j' : Nat, l[j']? = some x := by
    intro l a b j x h1 h2 h3
    rw [List.getElem?_set] at h3
    split at h3
    · split at h3
      · injection h3 with h3; exact ⟨i, by rw [← h3]; exact h1⟩
      · cases h3
    · rw [List.getElem?_set] at h3
      split at h3
      · split at h3
        · injection h3 with h3; exact ⟨k, by rw [← h3]; exact h2⟩
        · cases h3
      · exact ⟨j, h3⟩
  have dd1 : ∀ (j b : Nat), ((bs.set i ok).set k oi)[j]? = some (some b) → b ≠ G' := fun j b hb => by
    obtain ⟨j', hj'⟩ := sub bs ok oi j _ hi hk hb
    exact h.d1 j' b hj'
  rw [hs]
  refine ⟨⟨hr1.sx k2 t2 h.ne (fun j b hb e => dd1 j b hb e), ?_, h.ne, fun a b z h1 h2 => ?_, dd1, fun j b hb => ?_, fun z hz => Nat.lt_of_lt_of_le (h.sl z hz) (Nat.le_trans k1.size k2.size), fun z hz => Nat.lt_of_lt_of_le (h.kl z hz) (Nat.le_trans k1.size k2.size), ?_⟩, (k1.widen (fun z _ e => t1 z e)).trans (k2.widen (fun z _ e => t2 z e)) (fun _ _ h => h)⟩
  · rw [List.map_set, List.map_set, e2]
    exact (ha1.swap hai hak (by rw [List.getElem?_map, hzi]; rfl) (by rw [List.getElem?_map, hzk]; rfl) hcap.2.1 hcap.2.2).ex (Ex.refl _).drew
  · obtain ⟨j1, q1⟩ := sub bs ok oi a _ hi hk h1
    obtain ⟨j2, q2⟩ := sub bs' ak ai b _ hai hak h2
    exact h.d j1 j2 z q1 q2
  · obtain ⟨j', hj'⟩ := sub bs' ak ai j _ hai hak hb
    exact h.d2 j' b hj'
  · obtain ⟨R, hO, r1, r2, r3, r4, r5⟩ := h.own
    have hs := fun z o hz => h.sl z (r1 z o hz)
    have hO1 := hO.sx hs k1 (fun z e => .inl (t1 z e)) (fun i o e hr => r2 o (e ▸ hr))
    exact ⟨R, hO1.sx (fun z o hz => Nat.lt_of_lt_of_le (hs z o hz) k1.size) k2 (fun z e => .inl (t2 z e)) (fun i o e hr => r3 o (e ▸ hr)), r1, r2, r3, fun j b hb => by
      obtain ⟨j', hj'⟩ := sub bs ok oi j _ hi hk hb
      exact r4 j' b hj', fun j b hb => by
      obtain ⟨j', hj'⟩ := sub bs' ak ai j _ hai hak hb
      exact r5 j' b hj'⟩
end Go.Proofs.YtmekhjnhcgmphaaDoor
