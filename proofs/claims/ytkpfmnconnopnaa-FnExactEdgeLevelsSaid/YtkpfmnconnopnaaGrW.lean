/- EdgeLevels, on both sides. Printed by a program of mine. -/
import Derived.Test.YtkpfmnconnopnaaGrN
namespace Go.Proofs.Ytkpfmnconnopnaa
set_option maxRecDepth 100000
open Go Go.RowKit
set_option maxHeartbeats 2000000 in
theorem spEdgeLevels_u (x : Gr) (v0 v1 v2 : Value) (w : World) (h : RGr w v0 v1 v2 x) :
    Calls Try.prog 22 #[.agg #[.int .i64 x.wires, v0, v1, v2]] w fun e w' => ∃ y, e = .returned (.tuple #[y, .bool (levU x).2]) ∧ RI w' y (levU x).1 ∧ Ex w w' := by
  obtain ⟨⟨⟨E, ec, rfl, hE⟩, hEt⟩, ⟨I, ic, rfl, hI⟩, ⟨O, oc, rfl, hO⟩⟩ := h
  have x0 := (Ex.refl w).alloc (.cells #[.int .i64 x.wires, .slice E x.es.length ec, .slice I x.ins.length ic, .slice O x.outs.length oc] 30)
  have d0 := VB.new w 30 #[.int .i64 x.wires, .slice E x.es.length ec, .slice I x.ins.length ic, .slice O x.outs.length oc]
  go_enter Try.func22, Try.ntmps22
  go_wp2_with fail
  generalize w.alloc (.cells #[.int .i64 x.wires, .slice E x.es.length ec, .slice I x.ins.length ic, .slice O x.outs.length oc] 30) = W0 at *
  refine (rbGood_c x E ec I ic O oc W0 (hE.ex x0) (hI.ex x0) (hO.ex x0)).mono ?_
  rintro e w1 ⟨rfl, x1⟩
  have d1 := d0.ex x1
  have q0 := d1.cell 0 (v := .int .i64 x.wires) rfl
  have q1 := d1.cell 1 (v := .slice E x.es.length ec) rfl
  have q2 := d1.cell 2 (v := .slice I x.ins.length ic) rfl
  have q3 := d1.cell 3 (v := .slice O x.outs.length oc) rfl
  have y1 := x0.trans x1
  cases hb : acyB x with
  | false =>
    have H := Lib.hid (levU_no hb)
    clear hb
    go_wp2
    go_ret2
    rw [H.out]
    exact ⟨_, rfl, (OI.nil _ 0 0).rd, y1⟩
  | true =>
    have H := Lib.hid (levU_yes hb)
    have hes := acyB_es hb
    have hz := y1.size
    have hc := rbLevels_c x.wires E ec x.es (.slice I x.ins.length ic) (.slice O x.outs.length oc) w1 (hE.ex y1) hes ⟨_, _, _, rfl⟩ ⟨_, _, _, rfl⟩
    clear hb
    go_wp2_with fail
    refine hc.mono ?_
    rintro e w2 ⟨v, rfl, f, x2⟩
    go_wp2
    go_ret2
    rw [H.out]
    exact ⟨_, rfl, f.rd, y1.trans x2⟩
set_option maxHeartbeats 2000000 in
theorem EdgeLevels_u (x : Gr) (v0 v1 v2 : Value) (w : World) (h : RGr w v0 v1 v2 x) :
    Calls Try.prog 23 #[.agg #[.int .i64 x.wires, v0, v1, v2]] w fun e w' => ∃ y, e = .returned (.tuple #[y, .bool (levU x).2]) ∧ OI w' w.heap.size w'.heap.size y (levU x).1 ∧ Ex w w' := by
  obtain ⟨⟨⟨E, ec, rfl, hE⟩, hEt⟩, ⟨I, ic, rfl, hI⟩, ⟨O, oc, rfl, hO⟩⟩ := h
  have x0 := (Ex.refl w).alloc (.cells #[.int .i64 x.wires, .slice E x.es.length ec, .slice I x.ins.length ic, .slice O x.outs.length oc] 30)
  have d0 := VB.new w 30 #[.int .i64 x.wires, .slice E x.es.length ec, .slice I x.ins.length ic, .slice O x.outs.length oc]
  go_enter Try.func23, Try.ntmps23
  go_wp2_with fail
  generalize w.alloc (.cells #[.int .i64 x.wires, .slice E x.es.length ec, .slice I x.ins.length ic, .slice O x.outs.length oc] 30) = W0 at *
  refine (isAcyclic_c x _ _ _ W0 ⟨⟨⟨E, ec, rfl, hE.ex x0⟩, hEt⟩, ⟨I, ic, rfl, hI.ex x0⟩, ⟨O, oc, rfl, hO.ex x0⟩⟩).mono ?_
  rintro e w1 ⟨rfl, x1⟩
  have d1 := d0.ex x1
  have q0 := d1.cell 0 (v := .int .i64 x.wires) rfl
  have q1 := d1.cell 1 (v := .slice E x.es.length ec) rfl
  have q2 := d1.cell 2 (v := .slice I x.ins.length ic) rfl
  have q3 := d1.cell 3 (v := .slice O x.outs.length oc) rfl
  have y1 := x0.trans x1
  cases hb : acyB x with
  | false =>
    have H := Lib.hid (levU_no hb)
    clear hb
    go_wp2
    go_ret2
    rw [H.out]
    exact ⟨_, rfl, OI.nil _ _ _, y1⟩
  | true =>
    have H := Lib.hid (levU_yes hb)
    have hes := acyB_es hb
    have hz := y1.size
    have hc := levels_c x.wires E ec x.es (.slice I x.ins.length ic) (.slice O x.outs.length oc) w1 (hE.ex y1) hes ⟨_, _, _, rfl⟩ ⟨_, _, _, rfl⟩
    clear hb
    go_wp2_with fail
    refine hc.mono ?_
    rintro e w2 ⟨v, rfl, f, x2⟩
    go_wp2
    go_ret2
    rw [H.out]
    exact ⟨_, rfl, f.more hz (Nat.le_refl _), y1.trans x2⟩
end Go.Proofs.Ytkpfmnconnopnaa
