/- IsCircuit and ScheduleOf, on both sides, in the uniform words. -/
import Derived.Test.YtkpfmnconnopnaaDoorCir5
namespace Go.Proofs.YtkpfmnconnopnaaDoor
set_option maxRecDepth 100000
open Go Go.RowKit
def schU (p : Int) (x : Circ) : List Int × Bool := if circB p x then schedR x.gs else ([], false)
theorem circB_parts {p : Int} {x : Circ} (h : circB p x = true) : fieldB p = true ∧ 0 ≤ x.n ∧ x.n ≤ 8 ∧ 1 ≤ x.gs.length ∧ x.gs.length ≤ 40 ∧ x.outs.length ≤ 8 ∧ x.outs.all (inB 0 ((x.gs.length : Int) - 1)) = true ∧ x.gs.all (gateB p x.n x.gs.length) = true ∧ (schedR x.gs).2 = true := by
  simp only [circB, Bool.and_eq_true, inB, decide_eq_true_eq] at h
  obtain ⟨h1, h2, h3, h4, h5, h6, h7⟩ := h
  exact ⟨h1, h2.1, h2.2, by omega, by omega, by omega, by simpa [inB] using h5, h6, h7⟩
theorem schedR_true {gs : List Gt} (h : (schedR gs).2 = true) : schedR gs = ((schedL gs).1, true) := by
  unfold schedR at h ⊢
  split at h
  · rename_i e; rw [if_pos e]
  · cases h
theorem spIsCircuit_u (p : Int) (x : Circ) (v0 v1 : Value) (w : World) (h : RCirc w v0 v1 x) :
    Calls Tryd.prog 22 #[.int .i64 p, .agg #[.int .i64 x.n, v0, v1]] w fun e w' => e = .returned (.bool (circB p x)) ∧ Ex w w' := by
  obtain ⟨⟨⟨A, c, rfl, h⟩, _⟩, ⟨B, d, rfl, ho⟩⟩ := h
  have x0 := (Ex.refl w).alloc (.cells #[.int .i64 x.n, .slice A x.gs.length c, .slice B x.outs.length d] 44)
  go_enter Tryd.func22, Tryd.ntmps22
  go_wp2_with fail
  refine (crGood_c p x.n A c x.gs B d x.outs _ (h.ex x0) (ho.ex x0)).mono ?_
  rintro e w1 ⟨rfl, x1⟩
  go_wp2
  go_ret
  exact ⟨rfl, x0.trans x1⟩
theorem IsCircuit_u (p : Int) (x : Circ) (v0 v1 : Value) (w : World) (h : RCirc w v0 v1 x) (ht : Tb w) :
    Calls Tryd.prog 24 #[.int .i64 p, .agg #[.int .i64 x.n, v0, v1]] w fun e w' => e = .returned (.bool (circB p x)) ∧ Ex w w' := by
  obtain ⟨⟨⟨A, c, rfl, h⟩, _⟩, ⟨B, d, rfl, ho⟩⟩ := h
  have x0 := (Ex.refl w).alloc (.cells #[.int .i64 x.n, .slice A x.gs.length c, .slice B x.outs.length d] 44)
  go_enter Tryd.func24, Tryd.ntmps24
  go_wp2_with fail
  refine (isCircuit_c p x.n A c x.gs B d x.outs _ (h.ex x0) (ho.ex x0) (ht.ex x0)).mono ?_
  rintro e w1 ⟨rfl, x1⟩
  go_wp2
  go_ret
  exact ⟨rfl, x0.trans x1⟩
set_option maxHeartbeats 1000000 in
theorem spScheduleOf_u (p : Int) (x : Circ) (v0 v1 : Value) (w : World) (h : RCirc w v0 v1 x) :
    Calls Tryd.prog 26 #[.int .i64 p, .agg #[.int .i64 x.n, v0, v1]] w fun e w' => ∃ y, e = .returned (.tuple #[y, .bool (schU p x).2]) ∧ RI w' y (schU p x).1 ∧ Ex w w' := by
  obtain ⟨⟨⟨A, c, rfl, h⟩, _⟩, ⟨B, d, rfl, ho⟩⟩ := h
  have x0 := (Ex.refl w).alloc (.cells #[.int .i64 x.n, .slice A x.gs.length c, .slice B x.outs.length d] 44)
  have d0 := VB.new w 44 #[.int .i64 x.n, .slice A x.gs.length c, .slice B x.outs.length d]
  go_enter Tryd.func26, Tryd.ntmps26
  go_wp2_with fail
  generalize w.alloc (.cells #[.int .i64 x.n, .slice A x.gs.length c, .slice B x.outs.length d] 44) = W0 at *
  refine (crGood_c p x.n A c x.gs B d x.outs W0 (h.ex x0) (ho.ex x0)).mono ?_
  rintro e w1 ⟨rfl, x1⟩
  have d1 := d0.ex x1
  have q0 := d1.cell 0 (v := .int .i64 x.n) rfl
  have q1 := d1.cell 1 (v := .slice A x.gs.length c) rfl
  have q2 := d1.cell 2 (v := .slice B x.outs.length d) rfl
  cases hb : circB p x with
  | false =>
    have H := Lib.hid (show schU p x = ([], false) by rw [schU, hb]; rfl)
    clear hb
    go_wp2
    go_ret2
    rw [H.out]
    exact ⟨_, rfl, (OI.nil _ 0 0).rd, x0.trans x1⟩
  | true =>
    obtain ⟨_, _, _, _, h40, _, _, hg, hs⟩ := circB_parts hb
    have H := Lib.hid (show schU p x = ((schedL x.gs).1, true) by rw [schU, hb, if_pos rfl, schedR_true hs])
    have hc := crOrder_c x.n A c x.gs B x.outs.length d w1 (h.ex (x0.trans x1)) h40 (all_gates hg)
    clear hb hg hs
    go_wp2_with fail
    refine hc.mono ?_
    rintro e w2 ⟨v, rfl, f, x2⟩
    go_wp2
    go_ret2
    rw [H.out]
    exact ⟨_, rfl, f.rd, (x0.trans x1).trans x2⟩
set_option maxHeartbeats 1000000 in
theorem ScheduleOf_u (p : Int) (x : Circ) (v0 v1 : Value) (w : World) (h : RCirc w v0 v1 x) (ht : Tb w) :
    Calls Tryd.prog 27 #[.int .i64 p, .agg #[.int .i64 x.n, v0, v1]] w fun e w' => ∃ y, e = .returned (.tuple #[y, .bool (schU p x).2]) ∧ OI w' w.heap.size w'.heap.size y (schU p x).1 ∧ Ex w w' := by
  obtain ⟨⟨⟨A, c, rfl, h⟩, _⟩, ⟨B, d, rfl, ho⟩⟩ := h
  have x0 := (Ex.refl w).alloc (.cells #[.int .i64 x.n, .slice A x.gs.length c, .slice B x.outs.length d] 44)
  have d0 := VB.new w 44 #[.int .i64 x.n, .slice A x.gs.length c, .slice B x.outs.length d]
  go_enter Tryd.func27, Tryd.ntmps27
  go_wp2_with fail
  generalize w.alloc (.cells #[.int .i64 x.n, .slice A x.gs.length c, .slice B x.outs.length d] 44) = W0 at *
  refine (isCircuit_c p x.n A c x.gs B d x.outs W0 (h.ex x0) (ho.ex x0) (ht.ex x0)).mono ?_
  rintro e w1 ⟨rfl, x1⟩
  have d1 := d0.ex x1
  have q0 := d1.cell 0 (v := .int .i64 x.n) rfl
  have q1 := d1.cell 1 (v := .slice A x.gs.length c) rfl
  have q2 := d1.cell 2 (v := .slice B x.outs.length d) rfl
  cases hb : circB p x with
  | false =>
    have H := Lib.hid (show schU p x = ([], false) by rw [schU, hb]; rfl)
    clear hb
    go_wp2
    go_ret2
    rw [H.out]
    exact ⟨_, rfl, OI.nil _ _ _, x0.trans x1⟩
  | true =>
    obtain ⟨_, _, _, _, h40, _, _, hg, hs⟩ := circB_parts hb
    have H := Lib.hid (show schU p x = schedR x.gs by rw [schU, hb, if_pos rfl])
    have hn := all_gates hg
    have hc := schedule_c x.n A c x.gs B x.outs.length d w1 (h.ex (x0.trans x1)) h40 (fun y hy k hk => ⟨by have := (hn y hy k hk).1; omega, by have := (hn y hy k hk).2; omega⟩)
    have hz := (x0.trans x1).size
    clear hb hg hs hn
    go_wp2_with fail
    refine hc.mono ?_
    rintro e w2 ⟨v, rfl, f, x2⟩
    go_wp2
    go_ret2
    rw [H.out]
    exact ⟨_, rfl, f.more hz (Nat.le_refl _), (x0.trans x1).trans x2⟩
end Go.Proofs.YtkpfmnconnopnaaDoor
