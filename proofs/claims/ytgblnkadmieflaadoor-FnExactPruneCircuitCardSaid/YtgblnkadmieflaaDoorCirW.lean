/- withOperands with whatever function. -/
import Derived.Test.YtgblnkadmieflaaDoorCirA
namespace Go.Proofs.YtgblnkadmieflaaDoor
set_option maxRecDepth 100000
open Go Go.RowKit
set_option maxHeartbeats 1000000 in
theorem withOperands_c (g : FuncId) (eg : ∀ args w, (callFunc g args).run Tryd.prog w = .ok (.enter g args) w) (lb : Array Value) (x : Gt) (to : List Int) (w : World)
    (hf : ∀ (W : World) (k : Nat) (y : Int), Ex w W → to[k]? = some y → Calls Tryd.prog g (#[.int .i64 k] ++ lb) W fun e W' => e = .returned (.int .i64 y) ∧ W' = W) (hx : ∀ k ∈ opnd x, 0 ≤ k ∧ k < to.length) :
    Calls Tryd.prog 97 #[gtV x, .func (.func g) #[] lb] w fun e w' => e = .returned (gtV (movG to x)) ∧ Ex w w' := by
  obtain ⟨kd, a, b, vl⟩ := x
  unfold gtV
  dsimp only
  by_cases h3 : kd = 3
  · subst h3
    obtain ⟨h1a, h1b⟩ := hx a (by simp [opnd])
    obtain ⟨h2a, h2b⟩ := hx b (by simp [opnd])
    obtain ⟨an, rfl⟩ := Int.eq_ofNat_of_zero_le h1a
    obtain ⟨bn, rfl⟩ := Int.eq_ofNat_of_zero_le h2a
    obtain ⟨y, hy⟩ : ∃ y, to[an]? = some y := ⟨_, List.getElem?_eq_getElem (by omega)⟩
    obtain ⟨z, hz⟩ : ∃ z, to[bn]? = some z := ⟨_, List.getElem?_eq_getElem (by omega)⟩
    have k1 := fun o1 o2 => hf ((w.alloc o1).alloc o2).drew an y ((((Ex.refl w).alloc o1).alloc o2).drew) hy
    have k2 := fun o1 o2 => hf ((w.alloc o1).alloc o2).drew bn z ((((Ex.refl w).alloc o1).alloc o2).drew) hz
    have H := Lib.hid (show movG to ⟨3, an, bn, vl⟩ = ⟨3, y, z, vl⟩ by simp [movG, List.getD_eq_getElem?_getD, hy, hz])
    clear hy hz hx hf
    have x1 := ((Ex.refl w).alloc (.cells #[.int .i64 3, .int .i64 an, .int .i64 bn, .int .i64 vl] 103)).alloc (.cells #[.int .i64 0, .int .i64 0, .int .i64 0, .int .i64 0] 103)
    have d0 := (VB.new w 103 #[.int .i64 3, .int .i64 an, .int .i64 bn, .int .i64 vl]).ex ((Ex.refl _).alloc (.cells #[.int .i64 0, .int .i64 0, .int .i64 0, .int .i64 0] 103))
    have d1 := VB.new (w.alloc (.cells #[.int .i64 3, .int .i64 an, .int .i64 bn, .int .i64 vl] 103)) 103 #[.int .i64 0, .int .i64 0, .int .i64 0, .int .i64 0]
    rw [show (w.alloc (.cells #[.int .i64 3, .int .i64 an, .int .i64 bn, .int .i64 vl] 103)).heap.size = w.heap.size + 1 by simp] at d1
    have k1 := k1 (.cells #[.int .i64 3, .int .i64 an, .int .i64 bn, .int .i64 vl] 103) (.cells #[.int .i64 0, .int .i64 0, .int .i64 0, .int .i64 0] 103)
    have k2 := k2 (.cells #[.int .i64 3, .int .i64 an, .int .i64 bn, .int .i64 vl] 103) (.cells #[.int .i64 0, .int .i64 0, .int .i64 0, .int .i64 0] 103)
    go_enter Tryd.func97, Tryd.ntmps97
    go_wp2_with fail
    generalize (w.alloc (.cells #[.int .i64 3, .int .i64 an, .int .i64 bn, .int .i64 vl] 103)).alloc (.cells #[.int .i64 0, .int .i64 0, .int .i64 0, .int .i64 0] 103) = W1 at *
    have q0 := d0.cell 0 (v := .int .i64 3) rfl
    have q1 := d0.cell 1 (v := .int .i64 an) rfl
    have q2 := d0.cell 2 (v := .int .i64 bn) rfl
    have q3 := d0.cell 3 (v := .int .i64 vl) rfl
    have f1 := d0.frozen 1
    have f2 := d0.frozen 2
    go_region_with (first
      | (refine k1.mono ?_
         rintro e _ ⟨rfl, rfl⟩)
      | (refine k2.mono ?_
         rintro e _ ⟨rfl, rfl⟩))
    all_goals
      have hE : Ex1 w.heap.size W1 ((W1.setCell ⟨w.heap.size, 1, none⟩ (.int .i64 y)).setCell ⟨w.heap.size, 2, none⟩ (.int .i64 z)).drew := (((Ex1.refl _ W1).setCell (p := ⟨w.heap.size, 1, none⟩) rfl _).setCell (p := ⟨w.heap.size, 2, none⟩) rfl _).drew
      have D0 : VB ((W1.setCell ⟨w.heap.size, 1, none⟩ (.int .i64 y)).setCell ⟨w.heap.size, 2, none⟩ (.int .i64 z)).drew w.heap.size 103 #[.int .i64 3, .int .i64 y, .int .i64 z, .int .i64 vl] := (d0.set_ 1 (.int .i64 y)).set_ 2 (.int .i64 z)
      have D1 := d1.ex1 hE (by omega)
      have X1 := x1.ex1 hE (Nat.le_refl _)
      clear q0 q1 q2 q3 f1 f2 k1 k2 hE
      generalize ((W1.setCell ⟨w.heap.size, 1, none⟩ (.int .i64 y)).setCell ⟨w.heap.size, 2, none⟩ (.int .i64 z)).drew = W3 at *
      have Q0 := D0.cell 0 (v := .int .i64 3) rfl
      have Q1 := D0.cell 1 (v := .int .i64 y) rfl
      have Q2 := D0.cell 2 (v := .int .i64 z) rfl
      have Q3 := D0.cell 3 (v := .int .i64 vl) rfl
      have R0 := D1.cell 0 (v := .int .i64 0) rfl
      have R1 := D1.cell 1 (v := .int .i64 0) rfl
      have R2 := D1.cell 2 (v := .int .i64 0) rfl
      have R3 := D1.cell 3 (v := .int .i64 0) rfl
      have F0 := D1.frozen 0
      have F1 := D1.frozen 1
      have F2 := D1.frozen 2
      have F3 := D1.frozen 3
      go_wp2_with fail
      obtain ⟨D2, hE2⟩ := D1.st4 (.int .i64 3) (.int .i64 y) (.int .i64 z) (.int .i64 vl)
      have X2 := X1.ex1 hE2 (by omega)
      have C0 := D2.cell 0 (v := .int .i64 3) rfl
      have C1 := D2.cell 1 (v := .int .i64 y) rfl
      have C2 := D2.cell 2 (v := .int .i64 z) rfl
      have C3 := D2.cell 3 (v := .int .i64 vl) rfl
      refine bodyPost_ret (v := .agg #[.int .i64 3, .int .i64 y, .int .i64 z, .int .i64 vl]) (by simp [results, Tryd.results97, go_sem, C0, C1, C2, C3]) rfl ?_
      rw [H.out]
      exact ⟨rfl, X2⟩
  by_cases h4 : kd = 4
  · subst h4
    obtain ⟨h1a, h1b⟩ := hx a (by simp [opnd])
    obtain ⟨an, rfl⟩ := Int.eq_ofNat_of_zero_le h1a
    obtain ⟨y, hy⟩ : ∃ y, to[an]? = some y := ⟨_, List.getElem?_eq_getElem (by omega)⟩
    have k1 := fun o1 o2 => hf ((w.alloc o1).alloc o2) an y (((Ex.refl w).alloc o1).alloc o2) hy
    have k1d := fun o1 o2 => hf ((w.alloc o1).alloc o2).drew an y ((((Ex.refl w).alloc o1).alloc o2).drew) hy
    have H := Lib.hid (show movG to ⟨4, an, b, vl⟩ = ⟨4, y, b, vl⟩ by simp [movG, List.getD_eq_getElem?_getD, hy])
    clear hy hx hf k1d
    go_enter Tryd.func97, Tryd.ntmps97
    go_wp2_with fail
    refine (k1 _ _).mono ?_
    rintro e _ ⟨rfl, rfl⟩
    go_wp2_with fail
    refine bodyPost_ret (v := .agg #[.int .i64 4, .int .i64 y, .int .i64 b, .int .i64 vl]) (by simp [results, Tryd.results97, go_sem]) rfl ?_
    rw [H.out]
    exact ⟨rfl, ((Ex.refl w).alloc _).alloc _⟩
  by_cases h5 : kd = 5
  · subst h5
    obtain ⟨h1a, h1b⟩ := hx a (by simp [opnd])
    obtain ⟨an, rfl⟩ := Int.eq_ofNat_of_zero_le h1a
    obtain ⟨y, hy⟩ : ∃ y, to[an]? = some y := ⟨_, List.getElem?_eq_getElem (by omega)⟩
    have k1 := fun o1 o2 => hf ((w.alloc o1).alloc o2) an y (((Ex.refl w).alloc o1).alloc o2) hy
    have k1d := fun o1 o2 => hf ((w.alloc o1).alloc o2).drew an y ((((Ex.refl w).alloc o1).alloc o2).drew) hy
    have H := Lib.hid (show movG to ⟨5, an, b, vl⟩ = ⟨5, y, b, vl⟩ by simp [movG, List.getD_eq_getElem?_getD, hy])
    clear hy hx hf k1d
    go_enter Tryd.func97, Tryd.ntmps97
    go_wp2_with fail
    refine (k1 _ _).mono ?_
    rintro e _ ⟨rfl, rfl⟩
    go_wp2_with fail
    refine bodyPost_ret (v := .agg #[.int .i64 5, .int .i64 y, .int .i64 b, .int .i64 vl]) (by simp [results, Tryd.results97, go_sem]) rfl ?_
    rw [H.out]
    exact ⟨rfl, ((Ex.refl w).alloc _).alloc _⟩
  · have H := Lib.hid (show movG to ⟨kd, a, b, vl⟩ = ⟨kd, a, b, vl⟩ by simp [movG, h3, h4, h5])
    clear hx hf
    go_enter Tryd.func97, Tryd.ntmps97
    go_wp2_with fail
    refine bodyPost_ret (v := .agg #[.int .i64 kd, .int .i64 a, .int .i64 b, .int .i64 vl]) (by simp [results, Tryd.results97, go_sem]) rfl ?_
    rw [H.out]
    exact ⟨rfl, ((Ex.refl w).alloc _).alloc _⟩
end Go.Proofs.YtgblnkadmieflaaDoor
