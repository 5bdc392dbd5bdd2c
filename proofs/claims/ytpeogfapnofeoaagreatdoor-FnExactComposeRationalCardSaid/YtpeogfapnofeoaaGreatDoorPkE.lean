/- Lists of rational rows that are turned in place: memory; the search for a pivot. The elimination of rational rows in plain terms: the program's steps are those of Ops.red; degrees. The elimination of rational rows: memory of the rows and of what is turned beside them; the search's closure. The elimination of rational rows: a multiple of one row is added to another, in the memory of both halves. -/
import Derived.Test.YtpeogfapnofeoaaGreatDoorPkAA
import Derived.Deep.LoopGhost
import Derived.Deep.Cut
import Derived.Deep.CutRange
import Derived.Deep.RegionWith
namespace Go.Proofs.YtpeogfapnofeoaaGreatDoor
set_option maxRecDepth 100000
open Go Go.RowKit
/-- The index of the first true, or -1. -/
def idxB (q : List Bool) : Int := match q.findIdx? id with | some i => (i : Int) | none => -1
theorem idxB_none {q : List Bool} (h : q.all (fun x => !x) = true) : idxB q = -1 := by
  have : q.findIdx? id = none := by
    rw [List.findIdx?_eq_none_iff]
    intro x hx
    simpa using List.all_eq_true.1 h x hx
  rw [idxB, this]
theorem idxB_some {q : List Bool} {k : Nat} (hx : q[k]? = some true) (h : (q.take k).all (fun x => !x) = true) : idxB q = k := by
  have hk := (List.getElem?_eq_some_iff.1 hx).1
  have : q.findIdx? id = some k := by
    rw [List.findIdx?_eq_some_iff_getElem]
    refine ⟨hk, by have := (List.getElem?_eq_some_iff.1 hx).2; simpa using this, fun j hj => ?_⟩
    have := List.all_eq_true.1 h (q[j]'(by omega)) (List.mem_iff_getElem?.2 ⟨j, by rw [List.getElem?_take, if_pos hj]; exact List.getElem?_eq_getElem _⟩)
    simpa using this
  rw [idxB, this]
set_option maxHeartbeats 400000 in
theorem idxRows_c (g : FuncId) (eg : ∀ args w, (callFunc g args).run Tryz.prog w = .ok (.enter g args) w) (lb : Array Value) (q : List Bool) (A : Option Addr) (c : Nat) (vs : List Value) (w : World) (h : RdV w A vs) (hq : q.length = vs.length)
    (hf : ∀ (W : World) (i : Nat) (v : Value) (b : Bool), Ex w W → vs[i]? = some v → q[i]? = some b → Calls Tryz.prog g (#[v] ++ lb) W fun e W' => e = .returned (.bool b) ∧ Ex W W') :
    Calls Tryz.prog 138 #[.slice A vs.length c, .func (.func g) #[] lb] w fun e w' => e = .returned (.int .i64 (idxB q)) ∧ Ex w w' := by
  have hl := h.1
  have Hq := Lib.hid hq
  clear hq
  go_enter Tryz.func138, Tryz.ntmps138
  go_wp2
  go_loopw [8] (fun i wr => ∃ k : Nat, k ≤ vs.length ∧ Hid ((q.take k).all (fun x => !x) = true) ∧ i = .int .i64 k ∧ Ex w wr) (fun i _ => vs.length - (intOf i).toNat)
  case atStart => exact ⟨0, Nat.zero_le _, Lib.hid rfl, rfl, Ex.refl w⟩
  case round =>
    obtain ⟨k, hk, Hall, rfl, he⟩ := hrel
    by_cases hlt : k < vs.length
    · obtain ⟨g', off, v, rfl, hx, hg, hc⟩ := (h.ex he).at_ hlt
      obtain ⟨b, hb⟩ : ∃ b, q[k]? = some b := ⟨_, List.getElem?_eq_getElem (by rw [Hq.out]; exact hlt)⟩
      have hcall := hf wr k v b he hx hb
      have Hb := Lib.hid hb
      clear hx hf hb
      cases b with
      | true =>
        have H := Lib.hid (idxB_some Hb.out Hall.out)
        go_wp2_with fail
        refine hcall.mono ?_
        rintro e w' ⟨rfl, hb'⟩
        go_wp2
        go_ret
        exact ⟨by rw [H.out]; rfl, he.trans hb'⟩
      | false =>
        have H := Lib.hid (show (q.take (k + 1)).all (fun x => !x) = true by rw [List.take_add_one, Hb.out, List.all_append, Hall.out]; rfl)
        go_wp2_with fail
        refine hcall.mono ?_
        rintro e w' ⟨rfl, hb'⟩
        go_wp2_with fail
        go_roundw
        case rel => exact ⟨k + 1, by omega, H, by go_num, he.trans hb'⟩
        case measure => simp [intOf]; omega
    · obtain rfl : k = vs.length := by omega
      have H := Lib.hid (idxB_none (q := q) (by have := Hall.out; rwa [← Hq.out, List.take_length] at this))
      clear hf
      go_wp2
      go_ret
      exact ⟨by rw [H.out]; rfl, he⟩
def pB (ob : Option Nat) : Option Addr := ob.map fun b => ⟨b, 0, none⟩
/-- A row of fractions behind an optional block. -/
def FBo (w : World) (S : Nat → Prop) (ob : Option Nat) (xs : List Fra) : Prop := match ob with
  | none => xs = []
  | some b => FBk w S b xs ∧ S b
theorem FBo.sx {w w' : World} {S T : Nat → Prop} {ob : Option Nat} {xs : List Fra} (h : FBo w S ob xs) (k : ExS T w w') (hT : ∀ i, T i → S i) (hb : ∀ b, ob = some b → ¬ T b) : FBo w' S ob xs := by
  cases ob with
  | none => exact h
  | some b => exact ⟨h.1.sx k hT (hb b rfl), h.2⟩
/-- Block G holds the list of rows; each lies in a block of its own; all these blocks are of S, the numbers' blocks are not. -/
structure RatM (w : World) (S : Nat → Prop) (G : Nat) (bs : List (Option Nat)) (rows : List (List Fra)) (n : Nat) : Prop where
  out : ∃ cur : Array Value, w.heap[G]? = some (.cells cur 34 (0, 0)) ∧ ∀ (j : Nat) (ob : Option Nat), bs[j]? = some ob → ∃ c, n ≤ c ∧ cur[j]? = some (.slice (pB ob) n c)
  len : bs.length = rows.length
  row : ∀ (j : Nat) (ob : Option Nat) (r : List Fra), bs[j]? = some ob → rows[j]? = some r → FBo w S ob r ∧ r.length = n
  nd : ∀ (i j : Nat) (b : Nat), bs[i]? = some (some b) → bs[j]? = some (some b) → i = j
  sg : S G
  ng : ∀ (j : Nat) (b : Nat), bs[j]? = some (some b) → b ≠ G
theorem RatM.lt {w : World} {S : Nat → Prop} {G : Nat} {bs : List (Option Nat)} {rows : List (List Fra)} {n : Nat} (h : RatM w S G bs rows n) : G < w.heap.size := by obtain ⟨_, h, _⟩ := h.out; exact heap_lt_of h
theorem RatM.at_ {w : World} {S : Nat → Prop} {G : Nat} {bs : List (Option Nat)} {rows : List (List Fra)} {n : Nat} (h : RatM w S G bs rows n) {j : Nat} (hj : j < rows.length) :
    ∃ ob r c, bs[j]? = some ob ∧ rows[j]? = some r ∧ r.length = n ∧ FBo w S ob r ∧ w.cell? ⟨G, j, none⟩ = some (.slice (pB ob) n c) := by
  obtain ⟨ob, hob⟩ : ∃ ob, bs[j]? = some ob := ⟨_, List.getElem?_eq_getElem (by rw [h.len]; exact hj)⟩
  obtain ⟨r, hr⟩ : ∃ r, rows[j]? = some r := ⟨_, List.getElem?_eq_getElem hj⟩
  obtain ⟨cur, hc, hx⟩ := h.out
  obtain ⟨c, _, hcc⟩ := hx j ob hob
  obtain ⟨h1, h2⟩ := h.row j ob r hob hr
  exact ⟨ob, r, c, hob, hr, h2, h1, by simp [World.cell?, hc, hcc]⟩
theorem RatM.at_c {w : World} {S : Nat → Prop} {G : Nat} {bs : List (Option Nat)} {rows : List (List Fra)} {n : Nat} (h : RatM w S G bs rows n) {j : Nat} (hj : j < rows.length) :
    ∃ ob r c, n ≤ c ∧ bs[j]? = some ob ∧ rows[j]? = some r ∧ r.length = n ∧ FBo w S ob r ∧ w.cell? ⟨G, j, none⟩ = some (.slice (pB ob) n c) := by
  obtain ⟨ob, hob⟩ : ∃ ob, bs[j]? = some ob := ⟨_, List.getElem?_eq_getElem (by rw [h.len]; exact hj)⟩
  obtain ⟨r, hr⟩ : ∃ r, rows[j]? = some r := ⟨_, List.getElem?_eq_getElem hj⟩
  obtain ⟨cur, hc, hx⟩ := h.out
  obtain ⟨c, hnc, hcc⟩ := hx j ob hob
  obtain ⟨h1, h2⟩ := h.row j ob r hob hr
  exact ⟨ob, r, c, hnc, hob, hr, h2, h1, by simp [World.cell?, hc, hcc]⟩
theorem RatM.frozen {w : World} {S : Nat → Prop} {G : Nat} {bs : List (Option Nat)} {rows : List (List Fra)} {n : Nat} (h : RatM w S G bs rows n) (i : Nat) : w.frozen? ⟨G, i, none⟩ = false := by
  obtain ⟨cur, hc, _⟩ := h.out
  simp [World.frozen?, hc]
theorem RatM.sx {w w' : World} {S T : Nat → Prop} {G : Nat} {bs : List (Option Nat)} {rows : List (List Fra)} {n : Nat} (h : RatM w S G bs rows n) (k : ExS T w w') (hT : ∀ i, T i → S i) (hG : ¬ T G) (hb : ∀ (j : Nat) (b : Nat), bs[j]? = some (some b) → ¬ T b) : RatM w' S G bs rows n := by
  have hl := h.lt
  obtain ⟨cur, hc, hx⟩ := h.out
  exact ⟨⟨cur, (k.block G hl hG).trans hc, hx⟩, h.len, fun j ob r h1 h2 => ⟨(h.row j ob r h1 h2).1.sx k hT fun b e => hb j b (by rw [← e]; exact h1), (h.row j ob r h1 h2).2⟩, h.nd, h.sg, h.ng⟩
theorem RatM.ex {w w' : World} {S : Nat → Prop} {G : Nat} {bs : List (Option Nat)} {rows : List (List Fra)} {n : Nat} (h : RatM w S G bs rows n) (k : Ex w w') : RatM w' S G bs rows n := h.sx (ExS.of_ex (S := fun _ => False) k) (fun _ h => h.elim) id (fun _ _ _ => id)
/-- One row has been turned. -/
theorem RatM.turn {w w' : World} {S : Nat → Prop} {G : Nat} {bs : List (Option Nat)} {rows : List (List Fra)} {n : Nat} (h : RatM w S G bs rows n) {i : Nat} {ob : Option Nat} (hi : bs[i]? = some ob) {r' : List Fra} (hr : FBo w' S ob r') (hl : r'.length = n) (k : ExS (fun z => ob = some z) w w') : RatM w' S G bs (rows.set i r') n := by
  have hS : ∀ z, ob = some z → S z := fun z e => by
    subst e
    exact hr.2
  have hil := (List.getElem?_eq_some_iff.1 hi).1
  have hg : ¬ (ob = some G) := fun e => h.ng i G (by rw [hi, e]) rfl
  have hgl := h.lt
  obtain ⟨cur, hc, hx⟩ := h.out
  refine ⟨⟨cur, (k.block G hgl hg).trans hc, hx⟩, by rw [List.length_set]; exact h.len, fun j ob' r h1 h2 => ?_, h.nd, h.sg, h.ng⟩
  rw [List.getElem?_set] at h2
  by_cases e : i = j
  · subst e
    rw [if_pos rfl, if_pos (by rw [← h.len]; exact hil)] at h2
    injection h2 with h2
    subst h2
    rw [hi] at h1
    injection h1 with h1
    subst h1
    exact ⟨hr, hl⟩
  · rw [if_neg e] at h2
    refine ⟨(h.row j ob' r h1 h2).1.sx k hS fun b e2 e3 => e ?_, (h.row j ob' r h1 h2).2⟩
    subst e2 e3
    exact h.nd i j b hi h1
/-- Two rows have been exchanged. -/
theorem RatM.swap {w : World} {S : Nat → Prop} {G : Nat} {bs : List (Option Nat)} {rows : List (List Fra)} {n : Nat} (h : RatM w S G bs rows n) {i k : Nat} {oi ok : Option Nat} {ri rk : List Fra} {ci ck : Nat} (hi : bs[i]? = some oi) (hk : bs[k]? = some ok) (hri : rows[i]? = some ri) (hrk : rows[k]? = some rk) (hci : n ≤ ci) (hck : n ≤ ck) :
    RatM ((w.setCell ⟨G, i, none⟩ (.slice (pB ok) n ck)).setCell ⟨G, k, none⟩ (.slice (pB oi) n ci)) S G ((bs.set i ok).set k oi) ((rows.set i rk).set k ri) n := by
  have hil := (List.getElem?_eq_some_iff.1 hi).1
  have hkl := (List.getElem?_eq_some_iff.1 hk).1
  have kx : ExS (fun z => z = G) w ((w.setCell ⟨G, i, none⟩ (.slice (pB ok) n ck)).setCell ⟨G, k, none⟩ (.slice (pB oi) n ci)) :=
    ExS.of_ex1 (((Ex1.refl G w).setCell (p := ⟨G, i, none⟩) rfl _).setCell (p := ⟨G, k, none⟩) rfl _) rfl
  have hT : ∀ z, z = G → S z := fun z e => e ▸ h.sg
  have at2 : ∀ {α : Type} (l : List α) (a b : α) (j : Nat) (x : α), i < l.length → k < l.length → ((l.set i a).set k b)[j]? = some x → (j = k ∧ x = b) ∨ (j ≠ k ∧ j = i ∧ x = a) ∨ (j ≠ k ∧ j ≠ i ∧ l[j]? = some x) := by
    intro α l a b j x h1 h2 h3
    rw [List.getElem?_set] at h3
    split at h3
    · rename_i e
      rw [if_pos (by rw [List.length_set]; omega)] at h3
      injection h3 with h3
      exact .inl ⟨e.symm, h3.symm⟩
    · rename_i e
      rw [List.getElem?_set] at h3
      split at h3
      · rename_i e2
        try rw [if_pos (by omega)] at h3
        injection h3 with h3
        exact .inr (.inl ⟨fun e3 => e e3.symm, e2.symm, h3.symm⟩)
      · rename_i e2
        exact .inr (.inr ⟨fun e3 => e e3.symm, fun e3 => e2 e3.symm, h3⟩)
  have hri' := (h.row i oi ri hi hri)
  have hrk' := (h.row k ok rk hk hrk)
  have hgl := h.lt
  have hlen := h.len
  have keep : ∀ (ob : Option Nat) (r : List Fra) (j : Nat), bs[j]? = some ob → FBo w S ob r → FBo ((w.setCell ⟨G, i, none⟩ (.slice (pB ok) n ck)).setCell ⟨G, k, none⟩ (.slice (pB oi) n ci)) S ob r := fun ob r j h1 h2 => h2.sx kx hT fun b e e2 => h.ng j b (by rw [h1, e]) e2
  obtain ⟨cur, hc, hx⟩ := h.out
  refine ⟨⟨(cur.setIfInBounds i (.slice (pB ok) n ck)).setIfInBounds k (.slice (pB oi) n ci), by simp [World.setCell, Array.getElem?_modify, hc], fun j ob hj => ?_⟩, by simp [hlen], fun j ob r h1 h2 => ?_, fun a b z h1 h2 => ?_, h.sg, fun j b hj => ?_⟩
  · obtain ⟨_, _, hi1⟩ := hx i oi hi
    obtain ⟨_, _, hk1⟩ := hx k ok hk
    have l1 : i < cur.size := (Array.getElem?_eq_some_iff.1 hi1).1
    have l2 : k < cur.size := (Array.getElem?_eq_some_iff.1 hk1).1
    rcases at2 bs ok oi j ob hil hkl hj with ⟨e, e2⟩ | ⟨e, e2, e3⟩ | ⟨e, e2, e3⟩
    · subst e e2
      exact ⟨ci, hci, by rw [Array.getElem?_setIfInBounds, if_pos rfl, if_pos (by simpa using l2)]⟩
    · subst e2 e3
      exact ⟨ck, hck, by rw [Array.getElem?_setIfInBounds, if_neg (fun h => e h.symm), Array.getElem?_setIfInBounds, if_pos rfl, if_pos l1]⟩
    · obtain ⟨c, hnc, hc'⟩ := hx j ob e3
      exact ⟨c, hnc, by rw [Array.getElem?_setIfInBounds, if_neg (fun h => e h.symm), Array.getElem?_setIfInBounds, if_neg (fun h => e2 h.symm)]; exact hc'⟩
  · rcases at2 bs ok oi j ob hil hkl h1 with ⟨e, e2⟩ | ⟨e, e2, e3⟩ | ⟨e, e2, e3⟩
    · subst e e2
      rcases at2 rows rk ri j r (by omega) (by omega) h2 with ⟨_, e4⟩ | ⟨e4, _⟩ | ⟨e4, _⟩
      · subst e4; exact ⟨keep _ _ i hi hri'.1, hri'.2⟩
      · exact absurd rfl e4
      · exact absurd rfl e4
    · subst e2 e3
      rcases at2 rows rk ri j r (by omega) (by omega) h2 with ⟨e4, _⟩ | ⟨_, _, e4⟩ | ⟨_, e4, _⟩
      · exact absurd e4 e
      · subst e4; exact ⟨keep _ _ k hk hrk'.1, hrk'.2⟩
      · exact absurd rfl e4
    · rcases at2 rows rk ri j r (by omega) (by omega) h2 with ⟨e4, _⟩ | ⟨_, e4, _⟩ | ⟨_, _, e4⟩
      · exact absurd e4 e
      · exact absurd e4 e2
      · exact ⟨keep _ _ j e3 (h.row j ob r e3 e4).1, (h.row j ob r e3 e4).2⟩
  · rcases at2 bs ok oi a _ hil hkl h1 with ⟨e1, q1⟩ | ⟨e1, f1, q1⟩ | ⟨e1, f1, q1⟩ <;> rcases at2 bs ok oi b _ hil hkl h2 with ⟨e2, q2⟩ | ⟨e2, f2, q2⟩ | ⟨e2, f2, q2⟩
    · omega
    · rw [← q1] at hi; rw [← q2] at hk; have := h.nd i k z hi hk; omega
    · rw [← q1] at hi; have := h.nd i b z hi q2; omega
    · rw [← q1] at hk; rw [← q2] at hi; have := h.nd i k z hi hk; omega
    · omega
    · rw [← q1] at hk; have := h.nd k b z hk q2; omega
    · rw [← q2] at hi; have := h.nd a i z q1 hi; omega
    · rw [← q2] at hk; have := h.nd a k z q1 hk; omega
    · exact h.nd a b z q1 q2
  · rcases at2 bs ok oi j _ hil hkl hj with ⟨e1, q1⟩ | ⟨e1, f1, q1⟩ | ⟨e1, f1, q1⟩
    · rw [← q1] at hi; exact h.ng i b hi
    · rw [← q1] at hk; exact h.ng k b hk
    · exact h.ng j b q1
end Go.Proofs.YtpeogfapnofeoaaGreatDoor
namespace Go.Proofs.YtpeogfapnofeoaaGreatDoor
set_option maxRecDepth 100000
/-- All elements are fractions in lowest terms of at most L coefficients. -/
def GdR (p : Int) (L : Nat) (v : List Fra) : Prop := ∀ x ∈ v, FV p x ∧ FL L x
def GdM (p : Int) (L : Nat) (Z : List (List Fra)) : Prop := ∀ z ∈ Z, GdR p L z
theorem GdR.mono {p : Int} {L M : Nat} {v : List Fra} (h : GdR p L v) (hm : L ≤ M) : GdR p M v := fun x hx => ⟨(h x hx).1, (h x hx).2.mono hm⟩
theorem GdM.mono {p : Int} {L M : Nat} {Z : List (List Fra)} (h : GdM p L Z) (hm : L ≤ M) : GdM p M Z := fun z hz => (h z hz).mono hm
theorem GdR.take {p : Int} {L : Nat} {v : List Fra} (h : GdR p L v) (n : Nat) : GdR p L (v.take n) := fun x hx => h x (List.mem_of_mem_take hx)
theorem GdR.drop {p : Int} {L : Nat} {v : List Fra} (h : GdR p L v) (n : Nat) : GdR p L (v.drop n) := fun x hx => h x (List.mem_of_mem_drop hx)
theorem addF_zero {p : Int} {x y : Fra} (hx : FV p x) (hy : FV p y) (hz : y.n = []) : addF p x y = x := by
  have := (frFld p hx.f).add_z ⟨x, hx⟩
  have hy0 : y = zF := cross_eq hy (FV.zero hx.f) (by rw [hz, pnil_mul]; exact (pnil_mul p _).symm)
  rw [hy0]
  exact congrArg Subtype.val this
theorem mulF_zero {p : Int} {x y : Fra} (hx : FV p x) (hy : FV p y) (hz : y.n = []) : (mulF p x y).n = [] := by
  have := (frFld p hx.f).mul_z ⟨x, hx⟩
  have hy0 : y = zF := cross_eq hy (FV.zero hx.f) (by rw [hz, pnil_mul]; exact (pnil_mul p _).symm)
  rw [hy0]
  exact congrArg (fun q => q.1.n) this
theorem negF_nil {p : Int} {x : Fra} (hx : FV p x) : (negF p x).n = [] ↔ x.n = [] := by
  constructor
  · intro h
    apply Classical.byContradiction
    intro h2
    exact pneg_ne hx.pos hx.n h2 h
  · intro h
    show pNeg p x.n = []
    rw [h]; rfl
theorem addR1_all {p : Int} {k v x : Fra} (hk : FV p k) (hv : FV p v) (hx : FV p x) : addR1 p k v x = addF p v (mulF p k x) := by
  unfold addR1
  split
  · rename_i h
    exact (addF_zero hv (hk.mul hx) (mulF_zero hk hx (iszF_iff.1 h))).symm
  · rfl
theorem addTm_less {p : Int} {k : Fra} (hk : FV p k) : ∀ {vs ws : List Fra}, (∀ x ∈ vs, FV p x) → (∀ x ∈ ws, FV p x) → addTm p vs (negF p k) ws = if iszF k = true then vs else (frOps p).less vs k ws := by
  intro vs ws hv hw
  unfold addTm
  have hi : iszF (negF p k) = iszF k := by
    rw [Bool.eq_iff_iff, iszF_iff, iszF_iff, negF_nil hk]
  rw [hi]
  split
  · rfl
  · unfold addRw Ops.less
    clear hi
    induction vs generalizing ws with
    | nil => rfl
    | cons v vs ih =>
      cases ws with
      | nil => rfl
      | cons x ws =>
        rw [List.zipWith_cons_cons, List.zipWith_cons_cons, addR1_all hk.neg (hv v (by simp)) (hw x (by simp)), ih (fun y hy => hv y (by simp [hy])) (fun y hy => hw y (by simp [hy]))]
        rfl
theorem less_take {K : Type} (O : Ops K) (v : List K) (k : K) (w : List K) (n : Nat) : (O.less v k w).take n = O.less (v.take n) k (w.take n) := by unfold Ops.less; rw [List.take_zipWith]
theorem less_drop {K : Type} (O : Ops K) (v : List K) (k : K) (w : List K) (n : Nat) : (O.less v k w).drop n = O.less (v.drop n) k (w.drop n) := by unfold Ops.less; rw [List.drop_zipWith]
theorem red_full {K : Type} (O : Ops K) : ∀ (m c r : Nat) (rows : List (List K)), rows.length ≤ r → O.red m c r rows = (rows, r)
  | 0, _, _, _, _ => rfl
  | m + 1, c, r, rows, h => by
    rw [Ops.red, if_neg (by unfold Ops.fnd; omega), red_full O m (c + 1) r rows h]
/-- The search of the program. -/
theorem fnd_idx {p : Int} (rows : List (List Fra)) (r c : Nat) (q : List Bool) (hq : q = (rows.drop r).map fun row => !iszF ((frOps p).el row c)) (hr : r ≤ rows.length) :
    (idxB q = -1 ∧ ¬ (frOps p).fnd rows r c < rows.length) ∨ ∃ k : Nat, idxB q = k ∧ (frOps p).fnd rows r c = r + k ∧ r + k < rows.length := by
  have hf : (frOps p).fnd rows r c = r + q.findIdx id := by
    unfold Ops.fnd
    rw [hq, List.findIdx_map]
    rfl
  have hql : q.length = rows.length - r := by rw [hq, List.length_map, List.length_drop]
  rw [hf]
  unfold idxB
  cases h : q.findIdx? id with
  | none =>
    refine .inl ⟨rfl, ?_⟩
    have := List.findIdx?_eq_none_iff_findIdx_eq.1 h
    omega
  | some k =>
    refine .inr ⟨k, rfl, ?_⟩
    obtain ⟨h1, h2⟩ := List.findIdx?_eq_some_iff_findIdx_eq.1 h
    omega
theorem GdR.nrm {p : Int} {L : Nat} {v : List Fra} (h : GdR p L v) {c : Nat} (hc : c < v.length) (hz : iszF ((frOps p).el v c) = false) : GdR p (L + L) ((frOps p).nrm v c) := fun x hx => by
  obtain ⟨y, hy, rfl⟩ := List.mem_map.1 hx
  have he : (frOps p).el v c = v[c] := (frOps p).el_in (List.getElem?_eq_getElem hc)
  rw [he] at hz ⊢
  obtain ⟨h1, h2⟩ := h v[c] (List.getElem_mem hc)
  have h0 : v[c].n ≠ [] := fun e => by rw [iszF_iff.2 e] at hz; cases hz
  obtain ⟨h3, h4⟩ := h y hy
  exact ⟨(h1.inv h0).mul h3, (h2.inv h1 h0).mul (h1.inv h0) h3 h4⟩
theorem GdR.less {p : Int} {L M : Nat} {v w : List Fra} (h : GdR p L v) (k : GdR p M w) {x : Fra} (hx : FV p x) (hl : FL L x) : GdR p (L + (L + M)) ((frOps p).less v x w) := fun y hy => by
  unfold Ops.less at hy
  obtain ⟨i, hi⟩ := List.getElem?_of_mem hy
  rw [List.getElem?_zipWith_eq_some] at hi
  obtain ⟨a, b, ha, hb, rfl⟩ := hi
  obtain ⟨h1, h2⟩ := h a (List.mem_of_getElem? ha)
  obtain ⟨h3, h4⟩ := k b (List.mem_of_getElem? hb)
  exact ⟨h1.add (hx.neg.mul h3), h2.add h1 (hx.neg.mul h3) (hl.neg.mul hx.neg h3 h4)⟩
theorem el_good {p : Int} {L : Nat} {v : List Fra} (h : GdR p L v) {c : Nat} (hc : c < v.length) : FV p ((frOps p).el v c) ∧ FL L ((frOps p).el v c) := by
  rw [(frOps p).el_in (List.getElem?_eq_getElem hc)]
  exact h _ (List.getElem_mem hc)
theorem GdM.piv {p : Int} {L N : Nat} {Z : List (List Fra)} (h : GdM p L Z) (hw : Wid N Z) {r c k : Nat} (hr : r < Z.length) (hk : k < Z.length) (hc : c < N) (hz : iszF ((frOps p).el (Z.getD k []) c) = false) : GdM p (4 * L) ((frOps p).piv Z r c k) := fun z hz' => by
  obtain ⟨i, hi⟩ := List.getElem?_of_mem hz'
  have hil : i < Z.length := by have := (List.getElem?_eq_some_iff.1 hi).1; rwa [piv_len] at this
  rw [piv_at (frOps p) hr hk c i hil] at hi
  injection hi with hi
  have hat : ∀ j, j < Z.length → GdR p L (Z.getD j []) := fun j hj => by
    rw [List.getD_eq_getElem?_getD, List.getElem?_eq_getElem hj]
    exact h _ (List.getElem_mem hj)
  have hsl := swp_lt hil hr hk
  have hlead := (hat k hk).nrm (p := p) (c := c) (by rw [hw.at_ hk]; exact hc) hz
  rw [← hi]
  generalize (if i = k then r else if i = r then k else i) = s at hsl
  unfold Ops.clr
  split
  · have h4 : L + L ≤ 4 * L := by omega
    exact hlead.mono h4
  · split
    · have h4 : L ≤ 4 * L := by omega
      exact (hat _ hsl).mono h4
    · obtain ⟨e1, e2⟩ := el_good (hat _ hsl) (c := c) (by rw [hw.at_ hsl]; exact hc)
      have h4 : L + (L + (L + L)) ≤ 4 * L := by omega
      exact ((hat _ hsl).less hlead e1 e2).mono h4
end Go.Proofs.YtpeogfapnofeoaaGreatDoor
namespace Go.Proofs.YtpeogfapnofeoaaGreatDoor
set_option maxRecDepth 100000
open Go Go.RowKit
theorem RatM.vals {w : World} {S : Nat → Prop} {G : Nat} {bs : List (Option Nat)} {rows : List (List Fra)} {n : Nat} (h : RatM w S G bs rows n) (hl : rows.length ≤ 1099511627776) :
    ∃ vs : List Value, vs.length = rows.length ∧ (∀ (j : Nat) (ob : Option Nat), bs[j]? = some ob → ∃ c, vs[j]? = some (.slice (pB ob) n c)) ∧ ∀ r, RdV w (some ⟨G, r, none⟩) (vs.drop r) := by
  obtain ⟨cur, hc, hx⟩ := h.out
  have hsz : rows.length ≤ cur.size := by
    apply Classical.byContradiction
    intro hn
    obtain ⟨ob, hob⟩ : ∃ ob, bs[cur.size]? = some ob := ⟨_, List.getElem?_eq_getElem (by rw [h.len]; omega)⟩
    obtain ⟨c, _, hcc⟩ := hx _ ob hob
    have := (Array.getElem?_eq_some_iff.1 hcc).1
    omega
  refine ⟨cur.toList.take rows.length, by simp; omega, fun j ob hj => ?_, fun r => ⟨by simp; omega, fun j v hj => ⟨G, r, rfl, ?_⟩⟩⟩
  · obtain ⟨c, _, hcc⟩ := hx j ob hj
    have hjl := (List.getElem?_eq_some_iff.1 hj).1
    rw [h.len] at hjl
    exact ⟨c, by rw [List.getElem?_take, if_pos hjl]; simpa using hcc⟩
  · rw [List.getElem?_drop, List.getElem?_take] at hj
    split at hj
    · simp [World.cell?, hc]
      simpa using hj
    · cases hj
/-- The rows and what is turned beside them. -/
structure RtTwo (w : World) (S K : Nat → Prop) (G G' : Nat) (bs bs' : List (Option Nat)) (Z : List (List Fra)) (n m : Nat) : Prop where
  r : RatM w S G bs (Z.map (List.take n)) n
  a : RatM w S G' bs' (Z.map (List.drop n)) m
  ne : G ≠ G'
  d : ∀ (i j b : Nat), bs[i]? = some (some b) → bs'[j]? = some (some b) → False
  d1 : ∀ (j b : Nat), bs[j]? = some (some b) → b ≠ G'
  d2 : ∀ (j b : Nat), bs'[j]? = some (some b) → b ≠ G
  sl : ∀ z, S z → z < w.heap.size
  kl : ∀ z, K z → z < w.heap.size
  own : ∃ R : Nat → Nat → Prop, Ow w (fun z => S z ∨ K z) R ∧ (∀ z o, R z o → S z) ∧ (∀ o, ¬ R G o) ∧ (∀ o, ¬ R G' o) ∧ (∀ (j b : Nat), bs[j]? = some (some b) → S b ∧ ∀ o, o < 2 * n → R b o) ∧ (∀ (j b : Nat), bs'[j]? = some (some b) → S b ∧ ∀ o, o < 2 * m → R b o)
theorem RtTwo.ex {w w' : World} {S K : Nat → Prop} {G G' : Nat} {bs bs' : List (Option Nat)} {Z : List (List Fra)} {n m : Nat} (h : RtTwo w S K G G' bs bs' Z n m) (k : Ex w w') : RtTwo w' S K G G' bs bs' Z n m := ⟨h.r.ex k, h.a.ex k, h.ne, h.d, h.d1, h.d2, fun z hz => Nat.lt_of_lt_of_le (h.sl z hz) k.size, fun z hz => Nat.lt_of_lt_of_le (h.kl z hz) k.size, by
  obtain ⟨R, hO, h1, h2⟩ := h.own
  exact ⟨R, hO.sx (fun z o hz => h.sl z (h1 z o hz)) (ExS.of_ex (S := fun _ => False) k) (fun _ h => h.elim) (fun _ _ h => h.elim), h1, h2⟩⟩
/-- A row has been turned. -/
theorem RtTwo.turnR {w w' : World} {S K : Nat → Prop} {G G' : Nat} {bs bs' : List (Option Nat)} {Z : List (List Fra)} {n m : Nat} (h : RtTwo w S K G G' bs bs' Z n m) {i : Nat} {z : List Fra} (hz : Z[i]? = some z) {ob : Option Nat} (hi : bs[i]? = some ob) {r' : List Fra} (hr : FBo w' S ob r') (hl : r'.length = n) (k : ExS (fun q => ob = some q) w w') (ko : ∀ q, ob = some q → OwK S q w w') :
    RtTwo w' S K G G' bs bs' (Z.set i (r' ++ z.drop n)) n m := by
  have hS : ∀ q, ob = some q → S q := fun q e => by subst e; exact hr.2
  have e1 : (Z.set i (r' ++ z.drop n)).map (List.take n) = (Z.map (List.take n)).set i r' := by
    rw [List.map_set, List.take_left' hl]
  have e2 : (Z.set i (r' ++ z.drop n)).map (List.drop n) = Z.map (List.drop n) := by
    rw [List.map_set, List.drop_left' hl]
    refine List.ext_getElem? fun j => ?_
    rw [List.getElem?_set]
    split
    · rename_i e
      subst e
      rw [List.getElem?_map, hz, if_pos (by rw [List.length_map]; exact (List.getElem?_eq_some_iff.1 hz).1)]
      rfl
    · rfl
  have q1 : RatM w' S G' bs' (Z.map (List.drop n)) m := h.a.sx k hS (fun e => h.d1 i G' (by rw [hi, e]) rfl) (fun j b hb e => h.d i j b (by rw [hi, e]) hb)
  exact ⟨by rw [e1]; exact h.r.turn hi hr hl k, by rw [e2]; exact q1, h.ne, h.d, h.d1, h.d2, fun z hz => Nat.lt_of_lt_of_le (h.sl z hz) k.size, fun z hz => Nat.lt_of_lt_of_le (h.kl z hz) k.size, by
    obtain ⟨R, hO, h1, h2, h3, h4, h5⟩ := h.own
    refine ⟨R, ?_, h1, h2, h3, h4, h5⟩
    cases ob with
    | none => exact hO.sx (fun z o hz => h.sl z (h1 z o hz)) k (fun i e => by cases e) (fun i o e => by cases e)
    | some q => exact (ko q rfl).2 (hS q rfl) _ R (fun z hz => .inl hz) (fun z o hz => .inl (h1 z o hz)) (fun z hz => hz.elim (h.sl z) (h.kl z)) hO⟩
/-- What lies beside a row has been turned. -/
theorem RtTwo.turnA {w w' : World} {S K : Nat → Prop} {G G' : Nat} {bs bs' : List (Option Nat)} {Z : List (List Fra)} {n m : Nat} (h : RtTwo w S K G G' bs bs' Z n m) {i : Nat} {z : List Fra} (hz : Z[i]? = some z) (hzl : n ≤ z.length) {ob : Option Nat} (hi : bs'[i]? = some ob) {a' : List Fra} (hr : FBo w' S ob a') (hl : a'.length = m) (k : ExS (fun q => ob = some q) w w') (ko : ∀ q, ob = some q → OwK S q w w') :
    RtTwo w' S K G G' bs bs' (Z.set i (z.take n ++ a')) n m := by
  have hS : ∀ q, ob = some q → S q := fun q e => by subst e; exact hr.2
  have htl : (z.take n).length = n := by rw [List.length_take]; omega
  have e1 : (Z.set i (z.take n ++ a')).map (List.drop n) = (Z.map (List.drop n)).set i a' := by
    rw [List.map_set, List.drop_left' htl]
  have e2 : (Z.set i (z.take n ++ a')).map (List.take n) = Z.map (List.take n) := by
    rw [List.map_set, List.take_left' htl]
    refine List.ext_getElem? fun j => ?_
    rw [List.getElem?_set]
    split
    · rename_i e
      subst e
      rw [List.getElem?_map, hz, if_pos (by rw [List.length_map]; exact (List.getElem?_eq_some_iff.1 hz).1)]
      rfl
    · rfl
  have q1 : RatM w' S G bs (Z.map (List.take n)) n := h.r.sx k hS (fun e => h.d2 i G (by rw [hi, e]) rfl) (fun j b hb e => h.d j i b hb (by rw [hi, e]))
  exact ⟨by rw [e2]; exact q1, by rw [e1]; exact h.a.turn hi hr hl k, h.ne, h.d, h.d1, h.d2, fun z hz => Nat.lt_of_lt_of_le (h.sl z hz) k.size, fun z hz => Nat.lt_of_lt_of_le (h.kl z hz) k.size, by
    obtain ⟨R, hO, h1, h2, h3, h4, h5⟩ := h.own
    refine ⟨R, ?_, h1, h2, h3, h4, h5⟩
    cases ob with
    | none => exact hO.sx (fun z o hz => h.sl z (h1 z o hz)) k (fun i e => by cases e) (fun i o e => by cases e)
    | some q => exact (ko q rfl).2 (hS q rfl) _ R (fun z hz => .inl hz) (fun z o hz => .inl (h1 z o hz)) (fun z hz => hz.elim (h.sl z) (h.kl z)) hO⟩
/-- Two rows have been exchanged, and what lies beside them. -/
theorem RtTwo.swap {w w1 w2 : World} {S K : Nat → Prop} {G G' : Nat} {bs bs' : List (Option Nat)} {Z : List (List Fra)} {n m : Nat} (h : RtTwo w S K G G' bs bs' Z n m) {i k : Nat} {oi ok ai ak : Option Nat} {zi zk : List Fra} (hi : bs[i]? = some oi) (hk : bs[k]? = some ok) (hai : bs'[i]? = some ai) (hak : bs'[k]? = some ak) (hzi : Z[i]? = some zi) (hzk : Z[k]? = some zk) {ci ck di dk : Nat} (hcap : (n ≤ ci ∧ n ≤ ck) ∧ m ≤ di ∧ m ≤ dk)
    (e1 : w1 = ((w.setCell ⟨G, i, none⟩ (.slice (pB ok) n ck)).setCell ⟨G, k, none⟩ (.slice (pB oi) n ci)).drew) (e2 : w2 = ((w1.setCell ⟨G', i, none⟩ (.slice (pB ak) m dk)).setCell ⟨G', k, none⟩ (.slice (pB ai) m di)).drew) :
    RtTwo w2 S K G G' ((bs.set i ok).set k oi) ((bs'.set i ak).set k ai) (swpL Z i k) n m ∧ ExS S w w2 := by
  have hil := (List.getElem?_eq_some_iff.1 hi).1
  have hkl := (List.getElem?_eq_some_iff.1 hk).1
  have hs : swpL Z i k = (Z.set i zk).set k zi := by
    unfold swpL
    rw [List.getD_eq_getElem?_getD, List.getD_eq_getElem?_getD, hzi, hzk]; rfl
  have k1 : ExS (fun z => z = G) w w1 := by rw [e1]; exact ExS.of_ex1 ((((Ex1.refl G w).setCell (p := ⟨G, i, none⟩) rfl _).setCell (p := ⟨G, k, none⟩) rfl _).drew) rfl
  have k2 : ExS (fun z => z = G') w1 w2 := by rw [e2]; exact ExS.of_ex1 ((((Ex1.refl G' w1).setCell (p := ⟨G', i, none⟩) rfl _).setCell (p := ⟨G', k, none⟩) rfl _).drew) rfl
  have t1 : ∀ z, z = G → S z := fun z e => e ▸ h.r.sg
  have t2 : ∀ z, z = G' → S z := fun z e => e ▸ h.a.sg
  have hr1 : RatM w1 S G ((bs.set i ok).set k oi) ((Z.set i zk).set k zi |>.map (List.take n)) n := by
    rw [List.map_set, List.map_set, e1]
    exact (h.r.swap hi hk (by rw [List.getElem?_map, hzi]; rfl) (by rw [List.getElem?_map, hzk]; rfl) hcap.1.1 hcap.1.2).ex (Ex.refl _).drew
  have ha1 : RatM w1 S G' bs' (Z.map (List.drop n)) m := h.a.sx k1 t1 (fun e => h.ne e.symm) (fun j b hb e => h.d2 j b hb e)
  have sub : ∀ (l : List (Option Nat)) (a b : Option Nat) (j : Nat) (x : Option Nat), l[i]? = some b → l[k]? = some a → ((l.set i a).set k b)[j]? = some x → ∃ j' : Nat, l[j']? = some x := by
    intro l a b j x h1 h2 h3
    rw [List.getElem?_set] at h3
    split at h3
    · split at h3
      · injection h3 with h3; exact ⟨i, by rw [← h3]; exact h1⟩
      · cases h3
    · rw [List.getElem?_set] at h3
      split at h3
      · split at h3
        · injection h3 with h3; exact ⟨k, by rw [← h3]; exact h2⟩
        · cases h3
      · exact ⟨j, h3⟩
  have dd1 : ∀ (j b : Nat), ((bs.set i ok).set k oi)[j]? = some (some b) → b ≠ G' := fun j b hb => by
    obtain ⟨j', hj'⟩ := sub bs ok oi j _ hi hk hb
    exact h.d1 j' b hj'
  rw [hs]
  refine ⟨⟨hr1.sx k2 t2 h.ne (fun j b hb e => dd1 j b hb e), ?_, h.ne, fun a b z h1 h2 => ?_, dd1, fun j b hb => ?_, fun z hz => Nat.lt_of_lt_of_le (h.sl z hz) (Nat.le_trans k1.size k2.size), fun z hz => Nat.lt_of_lt_of_le (h.kl z hz) (Nat.le_trans k1.size k2.size), ?_⟩, (k1.widen (fun z _ e => t1 z e)).trans (k2.widen (fun z _ e => t2 z e)) (fun _ _ h => h)⟩
  · rw [List.map_set, List.map_set, e2]
    exact (ha1.swap hai hak (by rw [List.getElem?_map, hzi]; rfl) (by rw [List.getElem?_map, hzk]; rfl) hcap.2.1 hcap.2.2).ex (Ex.refl _).drew
  · obtain ⟨j1, q1⟩ := sub bs ok oi a _ hi hk h1
    obtain ⟨j2, q2⟩ := sub bs' ak ai b _ hai hak h2
    exact h.d j1 j2 z q1 q2
  · obtain ⟨j', hj'⟩ := sub bs' ak ai j _ hai hak hb
    exact h.d2 j' b hj'
  · obtain ⟨R, hO, r1, r2, r3, r4, r5⟩ := h.own
    have hs := fun z o hz => h.sl z (r1 z o hz)
    have hO1 := hO.sx hs k1 (fun z e => .inl (t1 z e)) (fun i o e hr => r2 o (e ▸ hr))
    exact ⟨R, hO1.sx (fun z o hz => Nat.lt_of_lt_of_le (hs z o hz) k1.size) k2 (fun z e => .inl (t2 z e)) (fun i o e hr => r3 o (e ▸ hr)), r1, r2, r3, fun j b hb => by
      obtain ⟨j', hj'⟩ := sub bs ok oi j _ hi hk hb
      exact r4 j' b hj', fun j b hb => by
      obtain ⟨j', hj'⟩ := sub bs' ak ai j _ hai hak hb
      exact r5 j' b hj'⟩
theorem ratRed1_c (p : Int) (S : Nat → Prop) (ob : Option Nat) (v : List Fra) (c cap q : Nat) (w : World) (h : FBo w S ob v) (hc : c < v.length) (hq : w.cell? ⟨q, 0, none⟩ = some (.int .i64 c)) (_ : v.length ≤ 1000) (b : Bool) (hb : b = !iszF ((frOps p).el v c)) :
    Calls Tryz.prog 139 #[.slice (pB ob) v.length cap, .pointer (some ⟨q, 0, none⟩)] w fun e w' => e = .returned (.bool b) ∧ Ex w w' := by
  cases ob with
  | none =>
    have : v = [] := h
    rw [this] at hc; simp at hc
  | some g =>
    obtain ⟨hF, _⟩ := h
    obtain ⟨x, hx⟩ : ∃ x, v[c]? = some x := ⟨_, List.getElem?_eq_getElem hc⟩
    obtain ⟨A, ca, B, cb, e0, e1, hA, _⟩ := hF.at_ hx
    have hel : (frOps p).el v c = x := (frOps p).el_in hx
    have hno := fun W => isNought_c A B ca cb x.n x.d W hA.1.len
    have HB := Lib.hid (show b = !decide (x.n = []) by
      rw [hb, hel]
      congr 1
      rw [Bool.eq_iff_iff, iszF_iff]
      simp)
    have hpb : pB (some g) = some ⟨g, 0, none⟩ := rfl
    rw [hpb]
    clear hx hel hb hpb
    go_enter Tryz.func139, Tryz.ntmps139
    go_wp2_with fail
    refine (hno w).mono ?_
    rintro e w1 ⟨rfl, x1⟩
    go_wp2
    go_ret
    exact ⟨ret_bool (by rw [HB.out]), x1⟩
theorem frsInfo : (Tryz.prog.info? 34).map (fun i => (i.zero, i.size, i.bytes)) = some (some (.slice none 0 0), 1, 24) := by kernel_rfl
theorem idx2_0 (A B : Option Addr) (n c m d : Nat) (w : World) : (Instr.index 126 (.agg #[.slice A n c, .slice B m d]) (.int .i64 0)).run Tryz.prog w = .ok (.slice A n c) w := by
  have hu : Tryz.prog.underlying 126 = some (.array 2 34) := by kernel_rfl
  obtain ⟨i, hi, hz, hs, hb⟩ := info_parts frsInfo
  simp [Instr.index, run_underlying hu, asIntOf, sizeOf, typeInfo, hi, hs, part]
theorem idx2_1 (A B : Option Addr) (n c m d : Nat) (w : World) : (Instr.index 126 (.agg #[.slice A n c, .slice B m d]) (.int .i64 1)).run Tryz.prog w = .ok (.slice B m d) w := by
  have hu : Tryz.prog.underlying 126 = some (.array 2 34) := by kernel_rfl
  obtain ⟨i, hi, hz, hs, hb⟩ := info_parts frsInfo
  simp [Instr.index, run_underlying hu, asIntOf, sizeOf, typeInfo, hi, hs, part]
end Go.Proofs.YtpeogfapnofeoaaGreatDoor
namespace Go.Proofs.YtpeogfapnofeoaaGreatDoor
set_option maxRecDepth 100000
open Go Go.RowKit
theorem ratAddTimes_nil (p : Int) (k : Fra) (A B D E : Option Addr) (c d c1 c2 : Nat) (w : World) (hA : Rd w A k.n) :
    Calls Tryz.prog 42 #[.int .i64 p, .slice D 0 c1, .agg #[.slice A k.n.length c, .slice B k.d.length d], .slice E 0 c2] w fun e w' => e = .returned (.tuple #[]) ∧ Ex w w' := by
  have hknl := hA.len
  have x0 := (Ex.refl w).alloc (.cells #[.slice A k.n.length c, .slice B k.d.length d] 58)
  have v0 := VB.new w 58 #[.slice A k.n.length c, .slice B k.d.length d]
  go_enter Tryz.func42, Tryz.ntmps42
  go_wp2_with fail
  generalize w.alloc (.cells #[.slice A k.n.length c, .slice B k.d.length d] 58) = W0 at *
  refine (isNought_c A B c d k.n k.d W0 hknl).mono ?_
  rintro e w1 ⟨rfl, x1⟩
  have v0 := v0.ex x1
  have xx := x0.trans x1
  by_cases hz : k.n = []
  · rw [decide_eq_true hz]
    clear hz
    go_wp2_with fail
    first | rw [Exit.noGoto_ret] | skip
    refine bodyPost_ret (results_none rfl _ _ _) rfl ?_
    exact ⟨rfl, xx⟩
  · rw [decide_eq_false hz]
    clear hz
    obtain ⟨wl, hwl⟩ : ∃ W, W = w1 := ⟨_, rfl⟩
    subst hwl
    go_wp2_with fail
    go_loopw [14] (fun i wi => i = .int .i64 0 ∧ wi = wl) (fun _ _ => 0)
    case atStart => exact ⟨rfl, rfl⟩
    case round =>
      obtain ⟨rfl, ew⟩ := hrel
      subst ew
      go_wp2_with fail
      first | rw [Exit.noGoto_ret] | skip
      refine bodyPost_end (results_none rfl _ _ _) rfl ?_
      exact ⟨rfl, xx⟩
theorem ex_st2 {b u : World} {g : Nat} {v0 v1 : Value} (h : Ex b u) (hg : b.heap.size ≤ g) : Ex b ((u.setCell ⟨g, 0, none⟩ v0).setCell ⟨g, 1, none⟩ v1) := (h.setCell (p := ⟨g, 0, none⟩) hg v0).setCell (p := ⟨g, 1, none⟩) hg v1
theorem RtTwo.addR {p : Int} {w : World} {S K : Nat → Prop} {G G' : Nat} {bs bs' : List (Option Nat)} {Z : List (List Fra)} {n m : Nat} (h : RtTwo w S K G G' bs bs' Z n m) (hS : ∀ z, S z → z < w.heap.size) {i r : Nat} (hir : i ≠ r) {z l : List Fra} (hz : Z[i]? = some z) (hl : Z[r]? = some l) {ob ob' : Option Nat} (hi : bs[i]? = some ob) (hr : bs[r]? = some ob') (hn0 : 0 < n) (hn : n ≤ 1000)
    {k : Fra} {A B : Option Addr} {c d c1 c2 : Nat} (hA : RX w S A k.n) (hB : RX w S B k.d) (hzg : GdR p 137438953472 (z.take n)) (hlg : GdR p 68719476736 (l.take n)) (hk : FV p k) (hkl : FL 68719476736 k) :
    Calls Tryz.prog 42 #[.int .i64 p, .slice (pB ob) n c1, .agg #[.slice A k.n.length c, .slice B k.d.length d], .slice (pB ob') n c2] w fun e w' => e = .returned (.tuple #[]) ∧ RtTwo w' S K G G' bs bs' (Z.set i (addTm p (z.take n) k (l.take n) ++ z.drop n)) n m ∧ ExS (fun q => ob = some q) w w' ∧ (∀ q, ob = some q → S q) := by
  obtain ⟨f1, e1⟩ := h.r.row i ob (z.take n) hi (by rw [List.getElem?_map, hz]; rfl)
  obtain ⟨f2, e2⟩ := h.r.row r ob' (l.take n) hr (by rw [List.getElem?_map, hl]; rfl)
  cases ob with
  | none => have : z.take n = [] := f1; rw [this] at e1; simp at e1; omega
  | some g =>
    cases ob' with
    | none => have : l.take n = [] := f2; rw [this] at e2; simp at e2; omega
    | some g' =>
      have hne : g ≠ g' := fun e => hir (h.r.nd i r g hi (by rw [hr, e]))
      have hc := ratAddTimes_c p S g g' (z.take n) (l.take n) k A B c d c1 c2 w hS f1.2 f2.2 hne f1.1 f2.1 (by rw [e1, e2]) hA hB hzg hlg hk hkl (by rw [e2]; exact hn)
      rw [e1, e2] at hc
      refine hc.mono ?_
      rintro e w' ⟨rfl, hF, x, ok⟩
      have hx : ExS (fun q => some g = some q) w w' := x.widen (fun z _ e => by rw [e])
      refine ⟨rfl, h.turnR hz hi ⟨hF, f1.2⟩ ?_ hx (fun q e => by cases e; exact ok), hx, fun q e => by injection e with e; exact e ▸ f1.2⟩
      unfold addTm addRw
      split
      · exact e1
      · rw [List.length_zipWith, e1, e2, Nat.min_self]
theorem RtTwo.addA {p : Int} {w : World} {S K : Nat → Prop} {G G' : Nat} {bs bs' : List (Option Nat)} {Z : List (List Fra)} {n m : Nat} (h : RtTwo w S K G G' bs bs' Z n m) (hS : ∀ z, S z → z < w.heap.size) {i r : Nat} (hir : i ≠ r) {z l : List Fra} (hz : Z[i]? = some z) (hl : Z[r]? = some l) (hzn : n ≤ z.length) {ob ob' : Option Nat} (hi : bs'[i]? = some ob) (hr : bs'[r]? = some ob') (hm : m ≤ 1000)
    {k : Fra} {A B : Option Addr} {c d c1 c2 : Nat} (hA : RX w S A k.n) (hB : RX w S B k.d) (hzg : GdR p 137438953472 (z.drop n)) (hlg : GdR p 68719476736 (l.drop n)) (hk : FV p k) (hkl : FL 68719476736 k) :
    Calls Tryz.prog 42 #[.int .i64 p, .slice (pB ob) m c1, .agg #[.slice A k.n.length c, .slice B k.d.length d], .slice (pB ob') m c2] w fun e w' => e = .returned (.tuple #[]) ∧ RtTwo w' S K G G' bs bs' (Z.set i (z.take n ++ addTm p (z.drop n) k (l.drop n))) n m ∧ ExS (fun q => ob = some q) w w' := by
  obtain ⟨f1, e1⟩ := h.a.row i ob (z.drop n) hi (by rw [List.getElem?_map, hz]; rfl)
  obtain ⟨f2, e2⟩ := h.a.row r ob' (l.drop n) hr (by rw [List.getElem?_map, hl]; rfl)
  by_cases hm0 : m = 0
  · subst hm0
    have q1 : z.drop n = [] := List.eq_nil_of_length_eq_zero e1
    refine (ratAddTimes_nil p k A B (pB ob) (pB ob') c d c1 c2 w hA.1).mono ?_
    rintro e w' ⟨rfl, x⟩
    have ha : addTm p (z.drop n) k (l.drop n) = z.drop n := by
      rw [q1]; unfold addTm addRw; split <;> rfl
    rw [ha, List.take_append_drop]
    have hs : Z.set i z = Z := by
      refine List.ext_getElem? fun j => ?_
      rw [List.getElem?_set]
      split
      · rename_i e; subst e; rw [hz, if_pos (List.getElem?_eq_some_iff.1 hz).1]
      · rfl
    rw [hs]
    exact ⟨rfl, h.ex x, ExS.of_ex x⟩
  · cases ob with
    | none => have : z.drop n = [] := f1; rw [this] at e1; simp at e1; omega
    | some g =>
      cases ob' with
      | none => have : l.drop n = [] := f2; rw [this] at e2; simp at e2; omega
      | some g' =>
        have hne : g ≠ g' := fun e => hir (h.a.nd i r g hi (by rw [hr, e]))
        have hc := ratAddTimes_c p S g g' (z.drop n) (l.drop n) k A B c d c1 c2 w hS f1.2 f2.2 hne f1.1 f2.1 (by rw [e1, e2]) hA hB hzg hlg hk hkl (by rw [e2]; exact hm)
        rw [e1, e2] at hc
        refine hc.mono ?_
        rintro e w' ⟨rfl, hF, x, ok⟩
        have hx : ExS (fun q => some g = some q) w w' := x.widen (fun z _ e => by rw [e])
        refine ⟨rfl, h.turnA hz hzn hi ⟨hF, f1.2⟩ ?_ hx (fun q e => by cases e; exact ok), hx⟩
        unfold addTm addRw
        split
        · exact e1
        · rw [List.length_zipWith, e1, e2, Nat.min_self]
end Go.Proofs.YtpeogfapnofeoaaGreatDoor
