/- Contracts: fractions made, checked and handed back, on both sides. -/
import Derived.Test.YtfggacnkediolaaGreatDoorFrac4
import Derived.Test.YtfggacnkediolaaGreatDoorRing2
import Derived.Test.YtfggacnkediolaaGreatDoorIv
import Derived.RegionCalls
import Derived.Deep.RegionWith
namespace Go.Proofs.YtfggacnkediolaaGreatDoor
set_option maxRecDepth 100000
open Go Go.RowKit
/-- A block of two cells, both stored. -/
theorem st2 {w : World} {g : Nat} {t : TypeId} {u v : Value} (h : VB w g t #[u, v]) (a b : Value) :
    VB ((w.setCell ⟨g, 0, none⟩ a).setCell ⟨g, 1, none⟩ b) g t #[a, b] ∧ Ex1 g w ((w.setCell ⟨g, 0, none⟩ a).setCell ⟨g, 1, none⟩ b) :=
  ⟨(h.set_ 0 a).set_ 1 b, ((Ex1.refl g w).setCell (p := ⟨g, 0, none⟩) rfl _).setCell (p := ⟨g, 1, none⟩) rfl _⟩
set_option maxHeartbeats 1000000 in
theorem validFraction_yes (p : Int) (A B : Option Addr) (c d : Nat) (num den : List Int) (w : World) (hn : Rd w A num) (hd : Rd w B den) (ht : Tb w) (h : fracB p num den = true) :
    Calls Tryz.prog 13 #[.int .i64 p, .agg #[.slice A num.length c, .slice B den.length d]] w fun e w' => e = .returned (.tuple #[.agg #[.slice A num.length c, .slice B den.length d], .bool true]) ∧ Ex w w' := by
  have x0 := (Ex.refl w).alloc (.cells #[.slice A num.length c, .slice B den.length d] 24)
  have v0 := VB.new w 24 #[.slice A num.length c, .slice B den.length d]
  have S0 := Lib.hid (show (w.alloc (.cells #[.slice A num.length c, .slice B den.length d] 24)).heap.size = w.heap.size + 1 by simp)
  go_enter Tryz.func13, Tryz.ntmps13
  go_wp2_with fail
  generalize w.alloc (.cells #[.slice A num.length c, .slice B den.length d] 24) = W at *
  have y1 := (Ex.refl W).alloc (.cells #[.slice none 0 0, .slice none 0 0] 24)
  have v1 := VB.new W 24 #[.slice none 0 0, .slice none 0 0]
  rw [S0.out] at v1
  have v0 := v0.ex y1
  have x0 := x0.trans y1
  generalize W.alloc (.cells #[.slice none 0 0, .slice none 0 0] 24) = W1 at *
  refine (isFraction_c p A B c d num den W1 (hn.ex x0) (hd.ex x0) (ht.ex x0)).mono ?_
  rintro e w1 ⟨rfl, x1⟩
  rw [h]
  have q0 := (v0.ex x1).cell 0 (v := .slice A num.length c) rfl
  have q1 := (v0.ex x1).cell 1 (v := .slice B den.length d) rfl
  have r0 := (v1.ex x1).cell 0 (v := .slice none 0 0) rfl
  have r1 := (v1.ex x1).cell 1 (v := .slice none 0 0) rfl
  have f0 := (v1.ex x1).frozen 0
  have f1 := (v1.ex x1).frozen 1
  go_wp2_with fail
  have z : Ex1 (w.heap.size + 1) w1 ((w1.setCell ⟨w.heap.size + 1, 0, none⟩ (.slice A num.length c)).setCell ⟨w.heap.size + 1, 1, none⟩ (.slice B den.length d)) := ((Ex1.refl _ w1).setCell (p := ⟨w.heap.size + 1, 0, none⟩) rfl _).setCell (p := ⟨w.heap.size + 1, 1, none⟩) rfl _
  have dd : VB ((w1.setCell ⟨w.heap.size + 1, 0, none⟩ (.slice A num.length c)).setCell ⟨w.heap.size + 1, 1, none⟩ (.slice B den.length d)) (w.heap.size + 1) 24 #[.slice A num.length c, .slice B den.length d] := ((v1.ex x1).set_ 0 _).set_ 1 _
  generalize (w1.setCell ⟨w.heap.size + 1, 0, none⟩ (.slice A num.length c)).setCell ⟨w.heap.size + 1, 1, none⟩ (.slice B den.length d) = W2 at *
  have d0 := dd.cell 0 (v := .slice A num.length c) rfl
  have d1 := dd.cell 1 (v := .slice B den.length d) rfl
  refine bodyPost_ret (v := .tuple #[.agg #[.slice A num.length c, .slice B den.length d], .bool true]) (by simp [results, Tryz.results13, go_sem, d0, d1]) rfl ?_
  exact ⟨rfl, (x0.trans x1).ex1 z (by omega)⟩
set_option maxHeartbeats 1000000 in
theorem validFraction_no (p : Int) (A B : Option Addr) (c d : Nat) (num den : List Int) (w : World) (hn : Rd w A num) (hd : Rd w B den) (ht : Tb w) (h : fracB p num den = false) :
    Calls Tryz.prog 13 #[.int .i64 p, .agg #[.slice A num.length c, .slice B den.length d]] w fun e w' => e = .returned (.tuple #[.agg #[.slice none 0 0, .slice none 0 0], .bool false]) ∧ Ex w w' := by
  have x0 := (Ex.refl w).alloc (.cells #[.slice A num.length c, .slice B den.length d] 24)
  have S0 := Lib.hid (show (w.alloc (.cells #[.slice A num.length c, .slice B den.length d] 24)).heap.size = w.heap.size + 1 by simp)
  go_enter Tryz.func13, Tryz.ntmps13
  go_wp2_with fail
  generalize w.alloc (.cells #[.slice A num.length c, .slice B den.length d] 24) = W at *
  have y1 := (Ex.refl W).alloc (.cells #[.slice none 0 0, .slice none 0 0] 24)
  have v1 := VB.new W 24 #[.slice none 0 0, .slice none 0 0]
  rw [S0.out] at v1
  have x0 := x0.trans y1
  generalize W.alloc (.cells #[.slice none 0 0, .slice none 0 0] 24) = W1 at *
  refine (isFraction_c p A B c d num den W1 (hn.ex x0) (hd.ex x0) (ht.ex x0)).mono ?_
  rintro e w1 ⟨rfl, x1⟩
  rw [h]
  have r0 := (v1.ex x1).cell 0 (v := .slice none 0 0) rfl
  have r1 := (v1.ex x1).cell 1 (v := .slice none 0 0) rfl
  have f0 := (v1.ex x1).frozen 0
  have f1 := (v1.ex x1).frozen 1
  go_wp2_with fail
  obtain ⟨dd, z⟩ := st2 (v1.ex x1) (.slice none 0 0) (.slice none 0 0)
  generalize (w1.setCell ⟨w.heap.size + 1, 0, none⟩ (.slice none 0 0)).setCell ⟨w.heap.size + 1, 1, none⟩ (.slice none 0 0) = W2 at *
  have d0 := dd.cell 0 (v := .slice none 0 0) rfl
  have d1 := dd.cell 1 (v := .slice none 0 0) rfl
  refine bodyPost_ret (v := .tuple #[.agg #[.slice none 0 0, .slice none 0 0], .bool false]) (by simp [results, Tryz.results13, go_sem, d0, d1]) rfl ?_
  exact ⟨rfl, (x0.trans x1).ex1 z (by omega)⟩
/-- A fresh fraction and a Bool. -/
def FRB (w : World) (r : List Int × List Int × Bool) (e : Ending) (w' : World) : Prop :=
  ∃ A c B d, e = .returned (.tuple #[.agg #[.slice A r.1.length c, .slice B r.2.1.length d], .bool r.2.2]) ∧ Fr w' w.heap.size A c r.1 ∧ Fr w' w.heap.size B d r.2.1 ∧ Apart A B ∧ Ex w w'
theorem FRB.nil_ {w w' : World} {r : List Int × List Int × Bool} {e : Ending} (he : e = .returned (.tuple #[.agg #[.slice none 0 0, .slice none 0 0], .bool false])) (hr : r = ([], [], false)) (hx : Ex w w') : FRB w r e w' := by
  subst hr
  exact ⟨none, 0, none, 0, he, Fr.nil _ _ _, Fr.nil _ _ _, (fun a a' e => by cases e), hx⟩
theorem FRB.yes_ {w w' : World} {r : List Int × List Int × Bool} {e : Ending} {n m : List Int} {A B : Option Addr} {c d : Nat} (he : e = .returned (.tuple #[.agg #[.slice A n.length c, .slice B m.length d], .bool true])) (hr : r = (n, m, true))
    (h1 : Fr w' w.heap.size A c n) (h2 : Fr w' w.heap.size B d m) (ha : Apart A B) (hx : Ex w w') : FRB w r e w' := by
  subst hr
  exact ⟨A, c, B, d, he, h1, h2, ha, hx⟩
end Go.Proofs.YtfggacnkediolaaGreatDoor
