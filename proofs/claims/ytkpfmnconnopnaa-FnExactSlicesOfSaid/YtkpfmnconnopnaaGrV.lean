/- IsAcyclic and EdgeOrder, on both sides. Printed by a program of mine. -/
import Derived.Test.YtkpfmnconnopnaaGrU
namespace Go.Proofs.Ytkpfmnconnopnaa
set_option maxRecDepth 100000
open Go Go.RowKit
theorem ordU_no {x : Gr} (h : acyB x = false) : ordU x = ([], false) := by simp [ordU, h]
theorem ordU_yes {x : Gr} (h : acyB x = true) : ordU x = (orderL x.es, true) := by simp [ordU, h]
set_option maxHeartbeats 4000000 in
theorem rbGood_c (x : Gr) (E : Option Addr) (ec : Nat) (I : Option Addr) (ic : Nat) (O : Option Addr) (oc : Nat) (w : World) (hE : RdS EE w E x.es) (hI : Rd w I x.ins) (hO : Rd w O x.outs) :
    Calls Try.prog 36 #[.agg #[.int .i64 x.wires, .slice E x.es.length ec, .slice I x.ins.length ic, .slice O x.outs.length oc]] w fun e w' => e = .returned (.bool (acyB x)) ∧ Ex w w' := by
  have hEl := hE.1
  have x0 := (Ex.refl w).alloc (.cells #[.int .i64 x.wires, .slice E x.es.length ec, .slice I x.ins.length ic, .slice O x.outs.length oc] 30)
  have d0 := VB.new w 30 #[.int .i64 x.wires, .slice E x.es.length ec, .slice I x.ins.length ic, .slice O x.outs.length oc]
  go_enter Try.func36, Try.ntmps36
  go_wp2_with fail
  generalize w.alloc (.cells #[.int .i64 x.wires, .slice E x.es.length ec, .slice I x.ins.length ic, .slice O x.outs.length oc] 30) = W0 at *
  have q0 := d0.cell 0 (v := .int .i64 x.wires) rfl
  have q1 := d0.cell 1 (v := .slice E x.es.length ec) rfl
  have q2 := d0.cell 2 (v := .slice I x.ins.length ic) rfl
  have q3 := d0.cell 3 (v := .slice O x.outs.length oc) rfl
  have HS : ∀ W, Ex W0 W → (Ex W0 W ∧ W.cell? ⟨w.heap.size, 0, none⟩ = some (.int .i64 x.wires) ∧ W.cell? ⟨w.heap.size, 1, none⟩ = some (.slice E x.es.length ec) ∧ W.cell? ⟨w.heap.size, 2, none⟩ = some (.slice I x.ins.length ic) ∧ W.cell? ⟨w.heap.size, 3, none⟩ = some (.slice O x.outs.length oc)) := fun W h => ⟨h, cell_ex h q0, cell_ex h q1, cell_ex h q2, cell_ex h q3⟩
  have eA := (Ex.refl W0).drew
  have hv := fun W (y : Ex W0 W) => hgValid_c x E ec I ic O oc W (hE.ex (x0.trans y)) (hI.ex (x0.trans y)) (hO.ex (x0.trans y))
  cases hb : validB x with
  | false =>
    rw [hb] at hv
    have H := Lib.hid (show acyB x = false by rw [acyB, hb]; rfl)
    clear hb
    refine (hv _ (Ex.refl W0)).mono ?_
    rintro e w1 ⟨rfl, x1⟩
    go_wp2
    go_ret
    exact ⟨ret_bool H.out.symm, x0.trans x1⟩
  | true =>
    rw [hb] at hv
    have hes := validB_es hb
    have H := Lib.hid (show acyB x = decide ((orderL x.es).length = x.es.length) by rw [acyB, hb, Bool.true_and])
    clear hb
    refine (hv _ (Ex.refl W0)).mono ?_
    rintro e w1 ⟨rfl, x1⟩
    have d1 := d0.ex x1
    have q0 := d1.cell 0 (v := .int .i64 x.wires) rfl
    have q1 := d1.cell 1 (v := .slice E x.es.length ec) rfl
    have q2 := d1.cell 2 (v := .slice I x.ins.length ic) rfl
    have q3 := d1.cell 3 (v := .slice O x.outs.length oc) rfl
    go_wp2_with fail
    refine (hgAcyclic_c x E ec I ic O oc w1 (hE.ex (x0.trans x1)) hes).mono ?_
    rintro e w2 ⟨rfl, x2⟩
    go_wp2
    go_ret
    exact ⟨ret_bool (by rw [H.out]), (x0.trans x1).trans x2⟩
set_option maxHeartbeats 4000000 in
theorem spIsAcyclic_c (x : Gr) (E : Option Addr) (ec : Nat) (I : Option Addr) (ic : Nat) (O : Option Addr) (oc : Nat) (w : World) (hE : RdS EE w E x.es) (hI : Rd w I x.ins) (hO : Rd w O x.outs) :
    Calls Try.prog 9 #[.agg #[.int .i64 x.wires, .slice E x.es.length ec, .slice I x.ins.length ic, .slice O x.outs.length oc]] w fun e w' => e = .returned (.bool (acyB x)) ∧ Ex w w' := by
  have hEl := hE.1
  have x0 := (Ex.refl w).alloc (.cells #[.int .i64 x.wires, .slice E x.es.length ec, .slice I x.ins.length ic, .slice O x.outs.length oc] 30)
  have d0 := VB.new w 30 #[.int .i64 x.wires, .slice E x.es.length ec, .slice I x.ins.length ic, .slice O x.outs.length oc]
  go_enter Try.func9, Try.ntmps9
  go_wp2_with fail
  generalize w.alloc (.cells #[.int .i64 x.wires, .slice E x.es.length ec, .slice I x.ins.length ic, .slice O x.outs.length oc] 30) = W0 at *
  have q0 := d0.cell 0 (v := .int .i64 x.wires) rfl
  have q1 := d0.cell 1 (v := .slice E x.es.length ec) rfl
  have q2 := d0.cell 2 (v := .slice I x.ins.length ic) rfl
  have q3 := d0.cell 3 (v := .slice O x.outs.length oc) rfl
  have HS : ∀ W, Ex W0 W → (Ex W0 W ∧ W.cell? ⟨w.heap.size, 0, none⟩ = some (.int .i64 x.wires) ∧ W.cell? ⟨w.heap.size, 1, none⟩ = some (.slice E x.es.length ec) ∧ W.cell? ⟨w.heap.size, 2, none⟩ = some (.slice I x.ins.length ic) ∧ W.cell? ⟨w.heap.size, 3, none⟩ = some (.slice O x.outs.length oc)) := fun W h => ⟨h, cell_ex h q0, cell_ex h q1, cell_ex h q2, cell_ex h q3⟩
  have eA := (Ex.refl W0).drew
  have hv := fun W (y : Ex W0 W) => hgValid_c x E ec I ic O oc W (hE.ex (x0.trans y)) (hI.ex (x0.trans y)) (hO.ex (x0.trans y))
  cases hb : validB x with
  | false =>
    rw [hb] at hv
    have H := Lib.hid (show acyB x = false by rw [acyB, hb]; rfl)
    clear hb
    refine (hv _ (Ex.refl W0)).mono ?_
    rintro e w1 ⟨rfl, x1⟩
    go_wp2
    go_ret
    exact ⟨ret_bool H.out.symm, x0.trans x1⟩
  | true =>
    rw [hb] at hv
    have hes := validB_es hb
    have H := Lib.hid (show acyB x = decide ((orderL x.es).length = x.es.length) by rw [acyB, hb, Bool.true_and])
    clear hb
    refine (hv _ (Ex.refl W0)).mono ?_
    rintro e w1 ⟨rfl, x1⟩
    have d1 := d0.ex x1
    have q0 := d1.cell 0 (v := .int .i64 x.wires) rfl
    have q1 := d1.cell 1 (v := .slice E x.es.length ec) rfl
    have q2 := d1.cell 2 (v := .slice I x.ins.length ic) rfl
    have q3 := d1.cell 3 (v := .slice O x.outs.length oc) rfl
    go_wp2_with fail
    refine (hgAcyclic_c x E ec I ic O oc w1 (hE.ex (x0.trans x1)) hes).mono ?_
    rintro e w2 ⟨rfl, x2⟩
    go_wp2
    go_ret
    exact ⟨ret_bool (by rw [H.out]), (x0.trans x1).trans x2⟩
theorem spIsAcyclic_u (x : Gr) (v0 v1 v2 : Value) (w : World) (h : RGr w v0 v1 v2 x) :
    Calls Try.prog 9 #[.agg #[.int .i64 x.wires, v0, v1, v2]] w fun e w' => e = .returned (.bool (acyB x)) ∧ Ex w w' := by
  obtain ⟨⟨⟨E, ec, rfl, hE⟩, _⟩, ⟨I, ic, rfl, hI⟩, ⟨O, oc, rfl, hO⟩⟩ := h
  exact spIsAcyclic_c x E ec I ic O oc w hE hI hO
theorem IsAcyclic_u (x : Gr) (v0 v1 v2 : Value) (w : World) (h : RGr w v0 v1 v2 x) :
    Calls Try.prog 11 #[.agg #[.int .i64 x.wires, v0, v1, v2]] w fun e w' => e = .returned (.bool (acyB x)) ∧ Ex w w' := by
  obtain ⟨⟨⟨E, ec, rfl, hE⟩, hEt⟩, ⟨I, ic, rfl, hI⟩, ⟨O, oc, rfl, hO⟩⟩ := h
  have x0 := (Ex.refl w).alloc (.cells #[.int .i64 x.wires, .slice E x.es.length ec, .slice I x.ins.length ic, .slice O x.outs.length oc] 30)
  go_enter Try.func11, Try.ntmps11
  go_wp2_with fail
  refine (isAcyclic_c x _ _ _ _ ⟨⟨⟨E, ec, rfl, hE.ex x0⟩, hEt⟩, ⟨I, ic, rfl, hI.ex x0⟩, ⟨O, oc, rfl, hO.ex x0⟩⟩).mono ?_
  rintro e w1 ⟨rfl, x1⟩
  go_wp2
  go_ret
  exact ⟨rfl, x0.trans x1⟩
set_option maxHeartbeats 2000000 in
theorem spEdgeOrder_u (x : Gr) (v0 v1 v2 : Value) (w : World) (h : RGr w v0 v1 v2 x) :
    Calls Try.prog 13 #[.agg #[.int .i64 x.wires, v0, v1, v2]] w fun e w' => ∃ y, e = .returned (.tuple #[y, .bool (ordU x).2]) ∧ RI w' y (ordU x).1 ∧ Ex w w' := by
  obtain ⟨⟨⟨E, ec, rfl, hE⟩, hEt⟩, ⟨I, ic, rfl, hI⟩, ⟨O, oc, rfl, hO⟩⟩ := h
  have x0 := (Ex.refl w).alloc (.cells #[.int .i64 x.wires, .slice E x.es.length ec, .slice I x.ins.length ic, .slice O x.outs.length oc] 30)
  have d0 := VB.new w 30 #[.int .i64 x.wires, .slice E x.es.length ec, .slice I x.ins.length ic, .slice O x.outs.length oc]
  go_enter Try.func13, Try.ntmps13
  go_wp2_with fail
  generalize w.alloc (.cells #[.int .i64 x.wires, .slice E x.es.length ec, .slice I x.ins.length ic, .slice O x.outs.length oc] 30) = W0 at *
  refine (rbGood_c x E ec I ic O oc W0 (hE.ex x0) (hI.ex x0) (hO.ex x0)).mono ?_
  rintro e w1 ⟨rfl, x1⟩
  have d1 := d0.ex x1
  have q0 := d1.cell 0 (v := .int .i64 x.wires) rfl
  have q1 := d1.cell 1 (v := .slice E x.es.length ec) rfl
  have q2 := d1.cell 2 (v := .slice I x.ins.length ic) rfl
  have q3 := d1.cell 3 (v := .slice O x.outs.length oc) rfl
  have y1 := x0.trans x1
  cases hb : acyB x with
  | false =>
    have H := Lib.hid (ordU_no hb)
    clear hb
    go_wp2
    go_ret2
    rw [H.out]
    exact ⟨_, rfl, (OI.nil _ 0 0).rd, y1⟩
  | true =>
    have H := Lib.hid (ordU_yes hb)
    have hes := acyB_es hb
    have hz := y1.size
    have hc := hgOrder_c x.wires E ec x.es (.slice I x.ins.length ic) (.slice O x.outs.length oc) w1 (hE.ex y1) hes ⟨_, _, _, rfl⟩ ⟨_, _, _, rfl⟩
    clear hb
    go_wp2_with fail
    refine hc.mono ?_
    rintro e w2 ⟨v, rfl, f, x2⟩
    go_wp2
    go_ret2
    rw [H.out]
    exact ⟨_, rfl, f.rd, y1.trans x2⟩
set_option maxHeartbeats 2000000 in
theorem EdgeOrder_u (x : Gr) (v0 v1 v2 : Value) (w : World) (h : RGr w v0 v1 v2 x) :
    Calls Try.prog 14 #[.agg #[.int .i64 x.wires, v0, v1, v2]] w fun e w' => ∃ y, e = .returned (.tuple #[y, .bool (ordU x).2]) ∧ OI w' w.heap.size w'.heap.size y (ordU x).1 ∧ Ex w w' := by
  obtain ⟨⟨⟨E, ec, rfl, hE⟩, hEt⟩, ⟨I, ic, rfl, hI⟩, ⟨O, oc, rfl, hO⟩⟩ := h
  have x0 := (Ex.refl w).alloc (.cells #[.int .i64 x.wires, .slice E x.es.length ec, .slice I x.ins.length ic, .slice O x.outs.length oc] 30)
  have d0 := VB.new w 30 #[.int .i64 x.wires, .slice E x.es.length ec, .slice I x.ins.length ic, .slice O x.outs.length oc]
  go_enter Try.func14, Try.ntmps14
  go_wp2_with fail
  generalize w.alloc (.cells #[.int .i64 x.wires, .slice E x.es.length ec, .slice I x.ins.length ic, .slice O x.outs.length oc] 30) = W0 at *
  refine (isAcyclic_c x _ _ _ W0 ⟨⟨⟨E, ec, rfl, hE.ex x0⟩, hEt⟩, ⟨I, ic, rfl, hI.ex x0⟩, ⟨O, oc, rfl, hO.ex x0⟩⟩).mono ?_
  rintro e w1 ⟨rfl, x1⟩
  have d1 := d0.ex x1
  have q0 := d1.cell 0 (v := .int .i64 x.wires) rfl
  have q1 := d1.cell 1 (v := .slice E x.es.length ec) rfl
  have q2 := d1.cell 2 (v := .slice I x.ins.length ic) rfl
  have q3 := d1.cell 3 (v := .slice O x.outs.length oc) rfl
  have y1 := x0.trans x1
  cases hb : acyB x with
  | false =>
    have H := Lib.hid (ordU_no hb)
    clear hb
    go_wp2
    go_ret2
    rw [H.out]
    exact ⟨_, rfl, OI.nil _ _ _, y1⟩
  | true =>
    have H := Lib.hid (ordU_yes hb)
    have hes := acyB_es hb
    have hz := y1.size
    have hc := edgeOrder_c x.wires E ec x.es (.slice I x.ins.length ic) (.slice O x.outs.length oc) w1 (hE.ex y1) hes ⟨_, _, _, rfl⟩ ⟨_, _, _, rfl⟩
    clear hb
    go_wp2_with fail
    refine hc.mono ?_
    rintro e w2 ⟨v, rfl, f, x2⟩
    go_wp2
    go_ret2
    rw [H.out]
    exact ⟨_, rfl, f.more hz (Nat.le_refl _), y1.trans x2⟩
end Go.Proofs.Ytkpfmnconnopnaa
