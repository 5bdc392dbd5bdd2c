/- Uniform words for the laws' helpers: a value that reads, that is owned in an interval of blocks; sizes as a word; lists of ints. Plain lemmas of mine. -/
import Derived.Test.YtmekhjnhcgmphaaDoorIv
namespace Go.Proofs.YtmekhjnhcgmphaaDoor
set_option maxRecDepth 100000
open Go Go.RowKit
/-- From w on, the size function f takes z off what is left. -/
def QS (f : FuncId) (w : World) (v : Value) (z : Int) : Prop := ∀ (u : World) (l : Int), Ex w u → 0 ≤ l → l ≤ 1048576 →
  Calls Tryd.prog f #[v, .int .i64 l] u fun e u' => e = .returned (.int .i64 (if l < z then -1 else l - z)) ∧ Ex u u'
theorem QS.ex {f : FuncId} {w w' : World} {v : Value} {z : Int} (h : QS f w v z) (he : Ex w w') : QS f w' v z := fun u l hu => h u l (he.trans hu)
theorem ExI.of_ex1 {g : Nat} {w w' : World} (h : Ex1 g w w') : ExI g (g + 1) w w' := ⟨h.os, h.tape, h.output, h.size, fun k hk ho => h.block k hk (by intro e; injection e; omega)⟩
theorem VB.st2 {w : World} {g : Nat} {t : TypeId} {a b : Value} (h : VB w g t #[a, b]) (u0 u1 : Value) : VB ((w.setCell ⟨g, 0, none⟩ u0).setCell ⟨g, 1, none⟩ u1) g t #[u0, u1] ∧ Ex1 g w ((w.setCell ⟨g, 0, none⟩ u0).setCell ⟨g, 1, none⟩ u1) :=
  ⟨(h.set_ 0 u0).set_ 1 u1, ((Ex1.refl g w).setCell (p := ⟨g, 0, none⟩) rfl u0).setCell (p := ⟨g, 1, none⟩) rfl u1⟩
/-- v reads as the ints xs. -/
def RI (w : World) (v : Value) (xs : List Int) : Prop := ∃ A c, v = .slice A xs.length c ∧ Rd w A xs
def totI (xs : List Int) : Int := xs.length
theorem RI.ex {w w' : World} {v : Value} {xs : List Int} (h : RI w v xs) (he : Ex w w') : RI w' v xs := by
  obtain ⟨A, c, e, r⟩ := h
  exact ⟨A, c, e, r.ex he⟩
theorem RI.form {w : World} {v : Value} {xs : List Int} (h : RI w v xs) : ∃ A n c, v = .slice A n c := by
  obtain ⟨A, c, e, r⟩ := h
  exact ⟨A, _, c, e⟩
theorem RI.tot {w : World} {v : Value} {xs : List Int} (h : RI w v xs) : totI xs ≤ 1125899906842624 := by
  obtain ⟨A, c, e, r⟩ := h
  have := r.len
  show ((xs.length : Nat) : Int) ≤ _
  omega
def OI (w : World) (a b : Nat) (v : Value) (xs : List Int) : Prop := ∃ A c, v = .slice A xs.length c ∧ FI w a b A c xs
theorem OI.rd {w : World} {a b : Nat} {v : Value} {xs : List Int} (h : OI w a b v xs) : RI w v xs := by
  obtain ⟨A, c, e, r⟩ := h
  exact ⟨A, c, e, r.rd⟩
theorem OI.ex {w w' : World} {a b : Nat} {v : Value} {xs : List Int} (h : OI w a b v xs) (he : Ex w w') : OI w' a b v xs := by
  obtain ⟨A, c, e, r⟩ := h
  exact ⟨A, c, e, r.ex he⟩
theorem OI.iv {w w' : World} {a b a' b' : Nat} {v : Value} {xs : List Int} (h : OI w a b v xs) (k : ExI a' b' w w') (hd : b ≤ a' ∨ b' ≤ a) : OI w' a b v xs := by
  obtain ⟨A, c, e, r⟩ := h
  exact ⟨A, c, e, r.iv k hd⟩
theorem OI.e1 {w w' : World} {a b g : Nat} {v : Value} {xs : List Int} (h : OI w a b v xs) (k : Ex1 g w w') (hd : g < a ∨ b ≤ g) : OI w' a b v xs := h.iv (ExI.of_ex1 k) (by omega)
theorem OI.more {w : World} {a b a' b' : Nat} {v : Value} {xs : List Int} (h : OI w a b v xs) (ha : a' ≤ a) (hb : b ≤ b') : OI w a' b' v xs := by
  obtain ⟨A, c, e, r⟩ := h
  exact ⟨A, c, e, r.more ha hb⟩
end Go.Proofs.YtmekhjnhcgmphaaDoor
