/- The laws' helpers on state spaces. -/
import Derived.Test.YtphdcgimibnajaaGreatAp08
import Derived.Test.YtphdcgimibnajaaGreatAp17
namespace Go.Proofs.YtphdcgimibnajaaGreat
set_option maxRecDepth 100000
open Go Go.RowKit
/-- u is a copy of rows, made from block B on. -/
def CM (w : World) (B : Nat) (u : Value) (rows : List (List Int)) : Prop := ∃ g gs, u = .slice (some ⟨g, 0, none⟩) rows.length rows.length ∧ FM w B g gs rows
theorem CM.ex {w w' : World} {B : Nat} {u : Value} {rows : List (List Int)} (h : CM w B u rows) (he : Ex w w') : CM w' B u rows := by
  obtain ⟨g, gs, e, f⟩ := h
  exact ⟨g, gs, e, f.ex he⟩
theorem FM.ex1 {w w' : World} {B g k : Nat} {gs : List Nat} {rows : List (List Int)} (h : FM w B g gs rows) (he : Ex1 k w w') (hk : k < B) : FM w' B g gs rows :=
  ⟨h.low, h.len, h.head.ex1 he (by have := h.low; omega), fun j b r hg hr => ⟨(h.row j b r hg hr).1, (h.row j b r hg hr).2.ex1 he (by have := (h.row j b r hg hr).1; have := h.low; omega)⟩, h.up⟩
theorem CM.ex1 {w w' : World} {B k : Nat} {u : Value} {rows : List (List Int)} (h : CM w B u rows) (he : Ex1 k w w') (hk : k < B) : CM w' B u rows := by
  obtain ⟨g, gs, e, f⟩ := h
  exact ⟨g, gs, e, f.ex1 he hk⟩
theorem FM.more {w : World} {B B' g : Nat} {gs : List Nat} {rows : List (List Int)} (h : FM w B g gs rows) (hb : B' ≤ B) : FM w B' g gs rows := ⟨Nat.le_trans hb h.low, h.len, h.head, h.row, h.up⟩
theorem CM.more {w : World} {B B' : Nat} {u : Value} {rows : List (List Int)} (h : CM w B u rows) (hb : B' ≤ B) : CM w B' u rows := by
  obtain ⟨g, gs, e, f⟩ := h
  exact ⟨g, gs, e, f.more hb⟩
theorem RdM.ex1 {w w' : World} {A : Option Addr} {rows : List (List Int)} {g : Nat} (h : RdM w A rows) (he : Ex1 g w w') (hg : w.heap.size ≤ g) : RdM w' A rows := h.ex (Ex.ex1 (Ex.refl w) he hg)
end Go.Proofs.YtphdcgimibnajaaGreat
