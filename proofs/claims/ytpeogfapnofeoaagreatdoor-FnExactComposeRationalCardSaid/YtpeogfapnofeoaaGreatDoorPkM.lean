/- Marks and holds on lists of lists of ints, by intervals of blocks. Convolution of series: the contracts of both sides. Contracts: tables of elements, state spaces, on both sides. The laws' helpers on state spaces. Marks on state spaces, by intervals of blocks. Copies of state spaces, each matrix in an interval of blocks of its own. Uniform words and the laws' helpers on lists of lists of ints. The words and the laws' helpers on Relation: it reads, it is owned in an interval of blocks; copied, compared, marked, held. Printed by a program of mine. -/
import Derived.Test.YtpeogfapnofeoaaGreatDoorMat
import Derived.Test.YtpeogfapnofeoaaGreatDoorIv
import Derived.Test.YtpeogfapnofeoaaGreatDoorField
import Derived.StillTailTactics
import Derived.BigRegion
import Derived.Test.YtpeogfapnofeoaaGreatDoorU
namespace Go.Proofs.YtpeogfapnofeoaaGreatDoor
set_option maxRecDepth 100000
open Go Go.RowKit
/-- A list of lists of its own in the blocks from lo on and below hi: its headers in one block, each row in an interval of its own. -/
def FMI (w : World) (lo hi : Nat) (A : Option Addr) (rows : List (List Int)) : Prop :=
  rows.length ≤ 1099511627776 ∧ ∃ (al bl : Nat → Nat), (∀ (j : Nat) (r : List Int), rows[j]? = some r → ∃ g off A' c, A = some ⟨g, off, none⟩ ∧ lo ≤ g ∧ g < hi ∧ w.cell? ⟨g, off + j, none⟩ = some (.slice A' r.length c) ∧
      FI w (al j) (bl j) A' c r ∧ lo ≤ al j ∧ bl j ≤ hi ∧ (g < al j ∨ bl j ≤ g)) ∧
    ∀ i j, i < rows.length → j < rows.length → i ≠ j → (bl i ≤ al j ∨ bl j ≤ al i)
theorem FMI.rd {w : World} {lo hi : Nat} {A : Option Addr} {rows : List (List Int)} (h : FMI w lo hi A rows) : RdM w A rows := by
  obtain ⟨hl, al, bl, h1, _⟩ := h
  refine ⟨hl, fun j r hj => ?_⟩
  obtain ⟨g, off, A', c, hA, _, _, hc, hf, _⟩ := h1 j r hj
  exact ⟨g, off, A', c, hA, hc, hf.rd⟩
theorem FMI.nil (w : World) (lo hi : Nat) (A : Option Addr) : FMI w lo hi A [] := ⟨by simp, fun _ => 0, fun _ => 0, fun j r hj => by simp at hj, fun i j hi => by simp at hi⟩
theorem FMI.more {w : World} {lo hi lo' hi' : Nat} {A : Option Addr} {rows : List (List Int)} (h : FMI w lo hi A rows) (h1 : lo' ≤ lo) (h2 : hi ≤ hi') : FMI w lo' hi' A rows := by
  obtain ⟨hl, al, bl, k1, k2⟩ := h
  refine ⟨hl, al, bl, fun j r hj => ?_, k2⟩
  obtain ⟨g, off, A', c, hA, hg1, hg2, hc, hf, ha, hb, hd⟩ := k1 j r hj
  exact ⟨g, off, A', c, hA, by omega, by omega, hc, hf, by omega, by omega, hd⟩
theorem FMI.ex {w w' : World} {lo hi : Nat} {A : Option Addr} {rows : List (List Int)} (h : FMI w lo hi A rows) (he : Ex w w') : FMI w' lo hi A rows := by
  obtain ⟨hl, al, bl, k1, k2⟩ := h
  refine ⟨hl, al, bl, fun j r hj => ?_, k2⟩
  obtain ⟨g, off, A', c, hA, hg1, hg2, hc, hf, ha, hb, hd⟩ := k1 j r hj
  exact ⟨g, off, A', c, hA, hg1, hg2, cell_ex he hc, hf.ex he, ha, hb, hd⟩
theorem cell_iv {w w' : World} {a b g o : Nat} {v : Value} (k : ExI a b w w') (hc : w.cell? ⟨g, o, none⟩ = some v) (hd : g < a ∨ b ≤ g) : w'.cell? ⟨g, o, none⟩ = some v :=
  (World.cell?_of_block (w := w) (a := ⟨g, o, none⟩) (k.block g (cell_lt (p := ⟨g, o, none⟩) hc) hd)).trans hc
theorem FMI.iv {w w' : World} {lo hi a b : Nat} {A : Option Addr} {rows : List (List Int)} (h : FMI w lo hi A rows) (k : ExI a b w w') (hd : hi ≤ a ∨ b ≤ lo) : FMI w' lo hi A rows := by
  obtain ⟨hl, al, bl, k1, k2⟩ := h
  refine ⟨hl, al, bl, fun j r hj => ?_, k2⟩
  obtain ⟨g, off, A', c, hA, hg1, hg2, hc, hf, ha, hb, hd'⟩ := k1 j r hj
  exact ⟨g, off, A', c, hA, hg1, hg2, cell_iv k hc (by omega), hf.iv k (by omega), ha, hb, hd'⟩
/-- One row turned in place. -/
theorem FMI.row {w : World} {lo hi : Nat} {A : Option Addr} {rows : List (List Int)} (h : FMI w lo hi A rows) {i : Nat} {r : List Int} (hi' : rows[i]? = some r) :
    ∃ g off A' c a b, A = some ⟨g, off, none⟩ ∧ w.cell? ⟨g, off + i, none⟩ = some (.slice A' r.length c) ∧ FI w a b A' c r ∧ lo ≤ a ∧ b ≤ hi ∧
      ∀ w' r', ExI a b w w' → FI w' a b A' c r' → r'.length = r.length → FMI w' lo hi A (rows.set i r') := by
  obtain ⟨hl, al, bl, k1, k2⟩ := h
  have hlt := (List.getElem?_eq_some_iff.1 hi').1
  obtain ⟨g, off, A', c, hA, hg1, hg2, hc, hf, ha, hb, hd⟩ := k1 i r hi'
  refine ⟨g, off, A', c, al i, bl i, hA, hc, hf, ha, hb, fun w' r' k hf' hlen => ⟨by simpa using hl, al, bl, fun j q hj => ?_, by simpa using k2⟩⟩
  rw [List.getElem?_set] at hj
  split at hj
  · rename_i e
    subst e
    injection hj with hj
    subst hj
    exact ⟨g, off, A', c, hA, hg1, hg2, by rw [hlen]; exact cell_iv k hc hd, hf', ha, hb, hd⟩
  · rename_i e
    have hjl := (List.getElem?_eq_some_iff.1 hj).1
    obtain ⟨g2, off2, A2, c2, hA2, hg12, hg22, hc2, hf2, ha2, hb2, hd2⟩ := k1 j q hj
    rw [hA] at hA2
    injection hA2 with hA2
    injection hA2 with e1 e2 _
    subst e1 e2
    exact ⟨g, off, A2, c2, hA, hg1, hg2, cell_iv k hc2 hd, hf2.iv k (by have := k2 i j hlt hjl e; omega), ha2, hb2, hd2⟩
end Go.Proofs.YtpeogfapnofeoaaGreatDoor
namespace Go.Proofs.YtpeogfapnofeoaaGreatDoor
set_option maxRecDepth 100000
open Go Go.RowKit

/-- The sum of a[i] b[k - i] for i below j. -/
def cv (a b : List Int) (k : Nat) : Nat → Int
  | 0 => 0
  | j + 1 => cv a b k j + a[j]?.getD 0 * b[k - j]?.getD 0
end Go.Proofs.YtpeogfapnofeoaaGreatDoor
namespace Go.Proofs.YtpeogfapnofeoaaGreatDoor
set_option maxRecDepth 100000
open Go Go.RowKit
end Go.Proofs.YtpeogfapnofeoaaGreatDoor
namespace Go.Proofs.YtpeogfapnofeoaaGreatDoor
set_option maxRecDepth 100000
open Go Go.RowKit
/-- u is a copy of rows, made from block B on. -/
def CM (w : World) (B : Nat) (u : Value) (rows : List (List Int)) : Prop := ∃ g gs, u = .slice (some ⟨g, 0, none⟩) rows.length rows.length ∧ FM w B g gs rows
theorem CM.ex {w w' : World} {B : Nat} {u : Value} {rows : List (List Int)} (h : CM w B u rows) (he : Ex w w') : CM w' B u rows := by
  obtain ⟨g, gs, e, f⟩ := h
  exact ⟨g, gs, e, f.ex he⟩
theorem FM.ex1 {w w' : World} {B g k : Nat} {gs : List Nat} {rows : List (List Int)} (h : FM w B g gs rows) (he : Ex1 k w w') (hk : k < B) : FM w' B g gs rows :=
  ⟨h.low, h.len, h.head.ex1 he (by have := h.low; omega), fun j b r hg hr => ⟨(h.row j b r hg hr).1, (h.row j b r hg hr).2.ex1 he (by have := (h.row j b r hg hr).1; have := h.low; omega)⟩, h.up⟩
theorem CM.ex1 {w w' : World} {B k : Nat} {u : Value} {rows : List (List Int)} (h : CM w B u rows) (he : Ex1 k w w') (hk : k < B) : CM w' B u rows := by
  obtain ⟨g, gs, e, f⟩ := h
  exact ⟨g, gs, e, f.ex1 he hk⟩
theorem FM.more {w : World} {B B' g : Nat} {gs : List Nat} {rows : List (List Int)} (h : FM w B g gs rows) (hb : B' ≤ B) : FM w B' g gs rows := ⟨Nat.le_trans hb h.low, h.len, h.head, h.row, h.up⟩
theorem CM.more {w : World} {B B' : Nat} {u : Value} {rows : List (List Int)} (h : CM w B u rows) (hb : B' ≤ B) : CM w B' u rows := by
  obtain ⟨g, gs, e, f⟩ := h
  exact ⟨g, gs, e, f.more hb⟩
theorem RdM.ex1 {w w' : World} {A : Option Addr} {rows : List (List Int)} {g : Nat} (h : RdM w A rows) (he : Ex1 g w w') (hg : w.heap.size ≤ g) : RdM w' A rows := h.ex (Ex.ex1 (Ex.refl w) he hg)
end Go.Proofs.YtpeogfapnofeoaaGreatDoor
namespace Go.Proofs.YtpeogfapnofeoaaGreatDoor
set_option maxRecDepth 100000
open Go Go.RowKit
def tot (rows : List (List Int)) : Int := ((rows.map List.length).sum : Int)
end Go.Proofs.YtpeogfapnofeoaaGreatDoor
namespace Go.Proofs.YtpeogfapnofeoaaGreatDoor
set_option maxRecDepth 100000
open Go Go.RowKit
theorem FMI.ex1 {w w' : World} {lo hi k : Nat} {A : Option Addr} {rows : List (List Int)} (h : FMI w lo hi A rows) (he : Ex1 k w w') (hk : k < lo) : FMI w' lo hi A rows :=
  h.iv (a := k) (b := k + 1) (ExI.of_exo (A := some ⟨k, 0, none⟩) he (fun a e => by injection e with e; rw [← e]; exact Nat.le_refl _) (fun a e => by injection e with e; rw [← e]; exact Nat.lt_succ_self _)) (by omega)
theorem RdM.rows {w : World} {A : Option Addr} {rows : List (List Int)} (h : RdM w A rows) : ∀ r ∈ rows, r.length ≤ 1099511627776 := fun r hr => by
  obtain ⟨j, hj⟩ := List.mem_iff_getElem?.1 hr
  obtain ⟨_, _, _, _, _, _, q⟩ := h.2 j r hj
  exact q.len
/-- u is a copy of rows in the blocks from lo on and below hi. -/
def CI (w : World) (lo hi : Nat) (u : Value) (rows : List (List Int)) : Prop := ∃ g, u = .slice (some ⟨g, 0, none⟩) rows.length rows.length ∧ FMI w lo hi (some ⟨g, 0, none⟩) rows
theorem CI.ex {w w' : World} {lo hi : Nat} {u : Value} {rows : List (List Int)} (h : CI w lo hi u rows) (he : Ex w w') : CI w' lo hi u rows := by
  obtain ⟨g, e, f⟩ := h
  exact ⟨g, e, f.ex he⟩
theorem CI.ex1 {w w' : World} {lo hi k : Nat} {u : Value} {rows : List (List Int)} (h : CI w lo hi u rows) (he : Ex1 k w w') (hk : k < lo) : CI w' lo hi u rows := by
  obtain ⟨g, e, f⟩ := h
  exact ⟨g, e, f.ex1 he hk⟩
end Go.Proofs.YtpeogfapnofeoaaGreatDoor
namespace Go.Proofs.YtpeogfapnofeoaaGreatDoor
set_option maxRecDepth 100000
open Go Go.RowKit
def totM (x : List (List Int)) : Int := tot x
def RM (w : World) (v : Value) (x : List (List Int)) : Prop := (∃ A c, v = .slice A x.length c ∧ RdM w A x) ∧ totM x ≤ 1125899906842624
theorem RM.ex {w w' : World} {v : Value} {x : List (List Int)} (h : RM w v x) (he : Ex w w') : RM w' v x := by
  obtain ⟨⟨A, c, e, r⟩, t⟩ := h
  exact ⟨⟨A, c, e, r.ex he⟩, t⟩
theorem RM.form {w : World} {v : Value} {x : List (List Int)} (h : RM w v x) : ∃ A n c, v = .slice A n c := by
  obtain ⟨⟨A, c, e, r⟩, _⟩ := h
  exact ⟨A, _, c, e⟩
theorem RM.tot {w : World} {v : Value} {x : List (List Int)} (h : RM w v x) : totM x ≤ 1125899906842624 := h.2
def OM2 (w : World) (a b : Nat) (v : Value) (x : List (List Int)) : Prop := (∃ A c, v = .slice A x.length c ∧ FMI w a b A x) ∧ totM x ≤ 1125899906842624
theorem OM2.rd {w : World} {a b : Nat} {v : Value} {x : List (List Int)} (h : OM2 w a b v x) : RM w v x := by
  obtain ⟨⟨A, c, e, r⟩, t⟩ := h
  exact ⟨⟨A, c, e, r.rd⟩, t⟩
theorem OM2.ex {w w' : World} {a b : Nat} {v : Value} {x : List (List Int)} (h : OM2 w a b v x) (he : Ex w w') : OM2 w' a b v x := by
  obtain ⟨⟨A, c, e, r⟩, t⟩ := h
  exact ⟨⟨A, c, e, r.ex he⟩, t⟩
theorem OM2.iv {w w' : World} {a b a' b' : Nat} {v : Value} {x : List (List Int)} (h : OM2 w a b v x) (k : ExI a' b' w w') (hd : b ≤ a' ∨ b' ≤ a) : OM2 w' a b v x := by
  obtain ⟨⟨A, c, e, r⟩, t⟩ := h
  exact ⟨⟨A, c, e, r.iv k hd⟩, t⟩
theorem OM2.e1 {w w' : World} {a b g : Nat} {v : Value} {x : List (List Int)} (h : OM2 w a b v x) (k : Ex1 g w w') (hd : g < a ∨ b ≤ g) : OM2 w' a b v x := h.iv (ExI.of_ex1 k) (by omega)
theorem OM2.more {w : World} {a b a' b' : Nat} {v : Value} {x : List (List Int)} (h : OM2 w a b v x) (ha : a' ≤ a) (hb : b ≤ b') : OM2 w a' b' v x := by
  obtain ⟨⟨A, c, e, r⟩, t⟩ := h
  exact ⟨⟨A, c, e, r.more ha hb⟩, t⟩
end Go.Proofs.YtpeogfapnofeoaaGreatDoor
namespace Go.Proofs.YtpeogfapnofeoaaGreatDoor
set_option maxRecDepth 100000
open Go Go.RowKit
structure Rln where
  l : Int
  r : Int
  b : List (List Int)
def RRln (w : World) (v0 : Value) (x : Rln) : Prop := RM w v0 x.b
def totRln (x : Rln) : Int := totM x.b
theorem RRln.ex {w w' : World} {v0 : Value} {x : Rln} (h : RRln w v0 x) (he : Ex w w') : RRln w' v0 x := RM.ex h he
theorem RRln.tot {w : World} {v0 : Value} {x : Rln} (h : RRln w v0 x) : totRln x ≤ 1125899906842624 := RM.tot h
theorem RRln.form {w : World} {v0 : Value} {x : Rln} (h : RRln w v0 x) : ∃ A0 n0 c0, v0 = .slice A0 n0 c0 := by
  have h0 : RM w v0 _ := h
  obtain ⟨A0, n0, c0, e0⟩ := h0.form
  exact ⟨A0, n0, c0, e0⟩
def ORln (w : World) (lo hi : Nat) (v0 : Value) (x : Rln) : Prop := ∃ (a0 b0 : Nat), OM2 w a0 b0 v0 x.b ∧ lo ≤ a0 ∧ b0 ≤ hi
theorem ORln.rd {w : World} {lo hi : Nat} {v0 : Value} {x : Rln} (h : ORln w lo hi v0 x) : RRln w v0 x := by
  obtain ⟨a0, b0, m0, c0, c1⟩ := h
  exact m0.rd
theorem ORln.ex {w w' : World} {lo hi : Nat} {v0 : Value} {x : Rln} (h : ORln w lo hi v0 x) (he : Ex w w') : ORln w' lo hi v0 x := by
  obtain ⟨a0, b0, m0, c0, c1⟩ := h
  exact ⟨a0, b0, m0.ex he, c0, c1⟩
theorem ORln.iv {w w' : World} {lo hi : Nat} {v0 : Value} {x : Rln} (h : ORln w lo hi v0 x) {a b : Nat} (q : ExI a b w w') (hd : hi ≤ a ∨ b ≤ lo) : ORln w' lo hi v0 x := by
  obtain ⟨a0, b0, m0, c0, c1⟩ := h
  exact ⟨a0, b0, m0.iv q (by omega), c0, c1⟩
theorem ORln.e1 {w w' : World} {lo hi : Nat} {v0 : Value} {x : Rln} (h : ORln w lo hi v0 x) {g : Nat} (q : Ex1 g w w') (hd : g < lo ∨ hi ≤ g) : ORln w' lo hi v0 x := by
  obtain ⟨a0, b0, m0, c0, c1⟩ := h
  exact ⟨a0, b0, m0.e1 q (by omega), c0, c1⟩
theorem ORln.more {w : World} {lo hi lo' hi' : Nat} {v0 : Value} {x : Rln} (h : ORln w lo hi v0 x) (h1 : lo' ≤ lo) (h2 : hi ≤ hi') : ORln w lo' hi' v0 x := by
  obtain ⟨a0, b0, m0, c0, c1⟩ := h
  exact ⟨a0, b0, m0, by omega, by omega⟩
end Go.Proofs.YtpeogfapnofeoaaGreatDoor
