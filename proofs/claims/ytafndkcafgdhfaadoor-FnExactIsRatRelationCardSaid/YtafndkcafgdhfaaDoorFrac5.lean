/- Contracts: fractions made, checked and handed back, on both sides. -/
import Derived.Test.YtafndkcafgdhfaaDoorPkL
import Derived.Test.YtafndkcafgdhfaaDoorPkC
import Derived.Test.YtafndkcafgdhfaaDoorIv
import Derived.RegionCalls
import Derived.Deep.RegionWith
namespace Go.Proofs.YtafndkcafgdhfaaDoor
set_option maxRecDepth 100000
open Go Go.RowKit
/-- A block of two cells, both stored. -/
theorem st2 {w : World} {g : Nat} {t : TypeId} {u v : Value} (h : VB w g t #[u, v]) (a b : Value) :
    VB ((w.setCell ⟨g, 0, none⟩ a).setCell ⟨g, 1, none⟩ b) g t #[a, b] ∧ Ex1 g w ((w.setCell ⟨g, 0, none⟩ a).setCell ⟨g, 1, none⟩ b) :=
  ⟨(h.set_ 0 a).set_ 1 b, ((Ex1.refl g w).setCell (p := ⟨g, 0, none⟩) rfl _).setCell (p := ⟨g, 1, none⟩) rfl _⟩
/-- An int and a Bool. -/
def IB (w : World) (r : Int × Bool) (e : Ending) (w' : World) : Prop := e = .returned (.tuple #[.int .i64 r.1, .bool r.2]) ∧ Ex w w'
/-- What OrderOfFraction answers. -/
def ordR (p : Int) (num den : List Int) : Int × Bool := if fracB p num den then (max ((den.length : Int) - 1) (num.length : Int), true) else (0, false)
/-- A fraction that is handed back if it is not too long. -/
def ifR (n d : List Int) : List Int × List Int × Bool := if n.length ≤ 21 ∧ d.length ≤ 21 then (n, d, true) else ([], [], false)
def mkR (p : Int) (num den : List Int) : List Int × List Int × Bool := if polyB p num = true ∧ polyB p den = true ∧ den ≠ [] then ifR (lowN p num den) (lowD p num den) else ([], [], false)
/-- A fresh fraction and a Bool. -/
def FRB (w : World) (r : List Int × List Int × Bool) (e : Ending) (w' : World) : Prop :=
  ∃ A c B d, e = .returned (.tuple #[.agg #[.slice A r.1.length c, .slice B r.2.1.length d], .bool r.2.2]) ∧ Fr w' w.heap.size A c r.1 ∧ Fr w' w.heap.size B d r.2.1 ∧ Apart A B ∧ Ex w w'
theorem FRB.nil_ {w w' : World} {r : List Int × List Int × Bool} {e : Ending} (he : e = .returned (.tuple #[.agg #[.slice none 0 0, .slice none 0 0], .bool false])) (hr : r = ([], [], false)) (hx : Ex w w') : FRB w r e w' := by
  subst hr
  exact ⟨none, 0, none, 0, he, Fr.nil _ _ _, Fr.nil _ _ _, (fun a a' e => by cases e), hx⟩
theorem FRB.yes_ {w w' : World} {r : List Int × List Int × Bool} {e : Ending} {n m : List Int} {A B : Option Addr} {c d : Nat} (he : e = .returned (.tuple #[.agg #[.slice A n.length c, .slice B m.length d], .bool true])) (hr : r = (n, m, true))
    (h1 : Fr w' w.heap.size A c n) (h2 : Fr w' w.heap.size B d m) (ha : Apart A B) (hx : Ex w w') : FRB w r e w' := by
  subst hr
  exact ⟨A, c, B, d, he, h1, h2, ha, hx⟩
theorem ifR_yes {n d : List Int} (h : n.length ≤ 21 ∧ d.length ≤ 21) : ifR n d = (n, d, true) := if_pos h
theorem ifR_no {n d : List Int} (h : ¬ (n.length ≤ 21 ∧ d.length ≤ 21)) : ifR n d = ([], [], false) := if_neg h
theorem low_ifR {p : Int} (hF : fieldB p = true) {num den : List Int} (hn : allEl p num = true) (hd : allEl p den = true) (tn : Tr num) (td : Tr den) (hd0 : den ≠ []) :
    ((lowN p num den).length ≤ 21 ∧ (lowD p num den).length ≤ 21) ↔ fracB p (lowN p num den) (lowD p num den) = true := by
  rw [low_frac hF hn hd tn td hd0]; simp
end Go.Proofs.YtafndkcafgdhfaaDoor
