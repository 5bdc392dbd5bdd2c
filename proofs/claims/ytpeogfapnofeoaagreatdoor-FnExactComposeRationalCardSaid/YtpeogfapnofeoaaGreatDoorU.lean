/- Uniform words for the laws' helpers: a value that reads, that is owned in an interval of blocks; sizes as a word; lists of ints. Plain lemmas of mine. -/
import Derived.Test.YtpeogfapnofeoaaGreatDoorIv
namespace Go.Proofs.YtpeogfapnofeoaaGreatDoor
set_option maxRecDepth 100000
open Go Go.RowKit
/-- From w on, the size function f takes z off what is left. -/
def QS (f : FuncId) (w : World) (v : Value) (z : Int) : Prop := ∀ (u : World) (l : Int), Ex w u → 0 ≤ l → l ≤ 1048576 →
  Calls Tryz.prog f #[v, .int .i64 l] u fun e u' => e = .returned (.int .i64 (if l < z then -1 else l - z)) ∧ Ex u u'
theorem QS.ex {f : FuncId} {w w' : World} {v : Value} {z : Int} (h : QS f w v z) (he : Ex w w') : QS f w' v z := fun u l hu => h u l (he.trans hu)
theorem ExI.of_ex1 {g : Nat} {w w' : World} (h : Ex1 g w w') : ExI g (g + 1) w w' := ⟨h.os, h.tape, h.output, h.size, fun k hk ho => h.block k hk (by intro e; injection e; omega)⟩
theorem ex_stores2 {b u : World} {g : Nat} {v0 v1 : Value} (h : Ex b u) (hg : b.heap.size ≤ g) : Ex b ((u.setCell ⟨g, 0, none⟩ v0).setCell ⟨g, 1, none⟩ v1) := (h.setCell (p := ⟨g, 0, none⟩) hg v0).setCell (p := ⟨g, 1, none⟩) hg v1
theorem ex_stores3 {b u : World} {g : Nat} {v0 v1 v2 : Value} (h : Ex b u) (hg : b.heap.size ≤ g) : Ex b (((u.setCell ⟨g, 0, none⟩ v0).setCell ⟨g, 1, none⟩ v1).setCell ⟨g, 2, none⟩ v2) := (ex_stores2 h hg).setCell (p := ⟨g, 2, none⟩) hg v2
theorem VB.st2 {w : World} {g : Nat} {t : TypeId} {a b : Value} (h : VB w g t #[a, b]) (u0 u1 : Value) : VB ((w.setCell ⟨g, 0, none⟩ u0).setCell ⟨g, 1, none⟩ u1) g t #[u0, u1] ∧ Ex1 g w ((w.setCell ⟨g, 0, none⟩ u0).setCell ⟨g, 1, none⟩ u1) :=
  ⟨(h.set_ 0 u0).set_ 1 u1, ((Ex1.refl g w).setCell (p := ⟨g, 0, none⟩) rfl u0).setCell (p := ⟨g, 1, none⟩) rfl u1⟩
theorem VB.st3 {w : World} {g : Nat} {t : TypeId} {a b c : Value} (h : VB w g t #[a, b, c]) (u0 u1 u2 : Value) : VB (((w.setCell ⟨g, 0, none⟩ u0).setCell ⟨g, 1, none⟩ u1).setCell ⟨g, 2, none⟩ u2) g t #[u0, u1, u2] ∧ Ex1 g w (((w.setCell ⟨g, 0, none⟩ u0).setCell ⟨g, 1, none⟩ u1).setCell ⟨g, 2, none⟩ u2) :=
  ⟨((h.set_ 0 u0).set_ 1 u1).set_ 2 u2, (((Ex1.refl g w).setCell (p := ⟨g, 0, none⟩) rfl u0).setCell (p := ⟨g, 1, none⟩) rfl u1).setCell (p := ⟨g, 2, none⟩) rfl u2⟩
/-- v reads as the ints xs. -/
def RI (w : World) (v : Value) (xs : List Int) : Prop := ∃ A c, v = .slice A xs.length c ∧ Rd w A xs
def totI (xs : List Int) : Int := xs.length
def mkI (k : Int) (xs : List Int) : List Int := mk k xs.length
theorem totI_nn (xs : List Int) : 0 ≤ totI xs := Int.natCast_nonneg _
theorem RI.ex {w w' : World} {v : Value} {xs : List Int} (h : RI w v xs) (he : Ex w w') : RI w' v xs := by
  obtain ⟨A, c, e, r⟩ := h
  exact ⟨A, c, e, r.ex he⟩
theorem RI.form {w : World} {v : Value} {xs : List Int} (h : RI w v xs) : ∃ A n c, v = .slice A n c := by
  obtain ⟨A, c, e, r⟩ := h
  exact ⟨A, _, c, e⟩
theorem RI.tot {w : World} {v : Value} {xs : List Int} (h : RI w v xs) : totI xs ≤ 1125899906842624 := by
  obtain ⟨A, c, e, r⟩ := h
  have := r.len
  show ((xs.length : Nat) : Int) ≤ _
  omega
def OI (w : World) (a b : Nat) (v : Value) (xs : List Int) : Prop := ∃ A c, v = .slice A xs.length c ∧ FI w a b A c xs
theorem OI.rd {w : World} {a b : Nat} {v : Value} {xs : List Int} (h : OI w a b v xs) : RI w v xs := by
  obtain ⟨A, c, e, r⟩ := h
  exact ⟨A, c, e, r.rd⟩
theorem OI.ex {w w' : World} {a b : Nat} {v : Value} {xs : List Int} (h : OI w a b v xs) (he : Ex w w') : OI w' a b v xs := by
  obtain ⟨A, c, e, r⟩ := h
  exact ⟨A, c, e, r.ex he⟩
theorem OI.iv {w w' : World} {a b a' b' : Nat} {v : Value} {xs : List Int} (h : OI w a b v xs) (k : ExI a' b' w w') (hd : b ≤ a' ∨ b' ≤ a) : OI w' a b v xs := by
  obtain ⟨A, c, e, r⟩ := h
  exact ⟨A, c, e, r.iv k hd⟩
theorem OI.e1 {w w' : World} {a b g : Nat} {v : Value} {xs : List Int} (h : OI w a b v xs) (k : Ex1 g w w') (hd : g < a ∨ b ≤ g) : OI w' a b v xs := h.iv (ExI.of_ex1 k) (by omega)
theorem OI.more {w : World} {a b a' b' : Nat} {v : Value} {xs : List Int} (h : OI w a b v xs) (ha : a' ≤ a) (hb : b ≤ b') : OI w a' b' v xs := by
  obtain ⟨A, c, e, r⟩ := h
  exact ⟨A, c, e, r.more ha hb⟩
theorem szIntS_q (A : Option Addr) (n c : Nat) (w : World) (hm : n ≤ 9223372036854775807) : QS 64 w (.slice A n c) (n : Int) := fun u l _ h0 hl => by
  by_cases hb : l < (n : Int)
  · rw [if_pos hb]; exact (szIntS_big A c n l u hb hm h0 hl).mono fun _ _ ⟨h1, h2⟩ => ⟨h1, by subst h2; exact Ex.refl _⟩
  · rw [if_neg hb]; exact (szIntS_ok A c n l u (by omega) hl).mono fun _ _ ⟨h1, h2⟩ => ⟨h1, by subst h2; exact Ex.refl _⟩
theorem toIntS_u (x : List Int) (v : Value) (w : World) (h : RI w v x) :
    Calls Tryz.prog 69 #[v] w fun e w' => ∃ y, e = .returned y ∧ OI w' w.heap.size w'.heap.size y x ∧ Ex w w' := by
  obtain ⟨A, c, rfl, r⟩ := h
  refine (toIntS_c A c x w r).mono ?_
  rintro e w' ⟨g, rfl, hg, b, z⟩
  exact ⟨_, rfl, ⟨_, _, rfl, (b.fr (B := w.heap.size) r.len hg (Nat.le_refl _)).fi⟩, z⟩
theorem eqIntS_u (x : List Int) (v u : Value) (w : World) (h : RI w v x) (h' : RI w u x) :
    Calls Tryz.prog 77 #[v, u] w fun e w' => e = .returned (.bool true) ∧ Ex w w' := by
  obtain ⟨A, c, rfl, r⟩ := h
  obtain ⟨A', c', rfl, r'⟩ := h'
  exact (eqIntS_c A A' c c' x w r r').mono fun _ _ h => h
theorem markIntS_u (lo hi : Nat) (x : List Int) (v : Value) (k : Int) (w : World) (h : OI w lo hi v x) (_ : hi ≤ w.heap.size) (hk0 : 0 ≤ k) (hk : k + totI x ≤ 4611686018427387904) :
    Calls Tryz.prog 82 #[v, .int .i64 k] w fun e w' => e = .returned (.int .i64 (k + totI x)) ∧ OI w' lo hi v (mkI k x) ∧ ExI lo hi w w' := by
  obtain ⟨A, c, rfl, r⟩ := h
  have hn := totI_nn x
  refine (markIntS_i lo hi A c x k w r hk0 (by omega)).mono ?_
  rintro e w' ⟨rfl, m, z⟩
  exact ⟨rfl, ⟨A, c, by rw [mkI, mk_len], m⟩, z⟩
theorem heldIntS_u (x : List Int) (v : Value) (k : Int) (w : World) (h : RI w v (mkI k x)) (hk0 : 0 ≤ k) (hk : k + totI x ≤ 4611686018427387904) :
    Calls Tryz.prog 112 #[v, .int .i64 k] w fun e w' => e = .returned (.int .i64 (k + totI x)) ∧ Ex w w' := by
  obtain ⟨A, c, e, r⟩ := h
  rw [mkI, mk_len] at e
  subst e
  have hn := totI_nn x
  refine (heldIntS_c A c k x.length w r hk0 (by omega)).mono ?_
  rintro e w' ⟨rfl, rfl⟩
  exact ⟨rfl, Ex.refl _⟩
end Go.Proofs.YtpeogfapnofeoaaGreatDoor
