/- IsEdgeOrder, on both sides. Printed by a program of mine. -/
import Derived.Test.YtkpfmnconnopnaaGrQ
namespace Go.Proofs.Ytkpfmnconnopnaa
set_option maxRecDepth 100000
open Go Go.RowKit
set_option maxHeartbeats 2000000 in
theorem spIsEdgeOrder_u (x : Gr) (v0 v1 v2 : Value) (l : List Int) (vl : Value) (w : World) (h : RGr w v0 v1 v2 x) (hl : RIc w vl l) :
    Calls Try.prog 19 #[.agg #[.int .i64 x.wires, v0, v1, v2], vl] w fun e w' => e = .returned (.bool (isoU x l)) ∧ Ex w w' := by
  obtain ⟨⟨⟨E, ec, rfl, hE⟩, hEt⟩, ⟨I, ic, rfl, hI⟩, ⟨O, oc, rfl, hO⟩⟩ := h
  obtain ⟨A, ac, rfl, hA, hac⟩ := hl
  have hEl := hE.1
  have x0 := (Ex.refl w).alloc (.cells #[.int .i64 x.wires, .slice E x.es.length ec, .slice I x.ins.length ic, .slice O x.outs.length oc] 30)
  have d0 := VB.new w 30 #[.int .i64 x.wires, .slice E x.es.length ec, .slice I x.ins.length ic, .slice O x.outs.length oc]
  go_enter Try.func19, Try.ntmps19
  go_wp2_with fail
  generalize w.alloc (.cells #[.int .i64 x.wires, .slice E x.es.length ec, .slice I x.ins.length ic, .slice O x.outs.length oc] 30) = W0 at *
  refine (rbGood_c x E ec I ic O oc W0 (hE.ex x0) (hI.ex x0) (hO.ex x0)).mono ?_
  rintro e w1 ⟨rfl, x1⟩
  have d1 := d0.ex x1
  have q0 := d1.cell 0 (v := .int .i64 x.wires) rfl
  have q1 := d1.cell 1 (v := .slice E x.es.length ec) rfl
  have q2 := d1.cell 2 (v := .slice I x.ins.length ic) rfl
  have q3 := d1.cell 3 (v := .slice O x.outs.length oc) rfl
  have y1 := x0.trans x1
  cases hb : acyB x with
  | false =>
    have H := Lib.hid (show isoU x l = false by rw [isoU, hb]; rfl)
    clear hb
    go_wp2
    go_ret
    exact ⟨ret_bool H.out.symm, y1⟩
  | true =>
    have H := Lib.hid (show isoU x l = ioB x.es l by rw [isoU, hb, Bool.true_and])
    have hes := acyB_es hb
    have hc := rbIs_c x.wires E ec x.es (.slice I x.ins.length ic) (.slice O x.outs.length oc) A ac l w1 (hE.ex y1) (hA.ex y1) hac hes ⟨_, _, _, rfl⟩ ⟨_, _, _, rfl⟩
    clear hb
    go_wp2_with fail
    refine hc.mono ?_
    rintro e w2 ⟨rfl, x2⟩
    go_wp2
    go_ret
    exact ⟨ret_bool (by rw [H.out]), y1.trans x2⟩
set_option maxHeartbeats 2000000 in
theorem IsEdgeOrder_u (x : Gr) (v0 v1 v2 : Value) (l : List Int) (vl : Value) (w : World) (h : RGr w v0 v1 v2 x) (hl : RIc w vl l) :
    Calls Try.prog 21 #[.agg #[.int .i64 x.wires, v0, v1, v2], vl] w fun e w' => e = .returned (.bool (isoU x l)) ∧ Ex w w' := by
  obtain ⟨⟨⟨E, ec, rfl, hE⟩, hEt⟩, ⟨I, ic, rfl, hI⟩, ⟨O, oc, rfl, hO⟩⟩ := h
  obtain ⟨A, ac, rfl, hA, hac⟩ := hl
  have hEl := hE.1
  have x0 := (Ex.refl w).alloc (.cells #[.int .i64 x.wires, .slice E x.es.length ec, .slice I x.ins.length ic, .slice O x.outs.length oc] 30)
  have d0 := VB.new w 30 #[.int .i64 x.wires, .slice E x.es.length ec, .slice I x.ins.length ic, .slice O x.outs.length oc]
  go_enter Try.func21, Try.ntmps21
  go_wp2_with fail
  generalize w.alloc (.cells #[.int .i64 x.wires, .slice E x.es.length ec, .slice I x.ins.length ic, .slice O x.outs.length oc] 30) = W0 at *
  refine (isAcyclic_c x _ _ _ W0 ⟨⟨⟨E, ec, rfl, hE.ex x0⟩, hEt⟩, ⟨I, ic, rfl, hI.ex x0⟩, ⟨O, oc, rfl, hO.ex x0⟩⟩).mono ?_
  rintro e w1 ⟨rfl, x1⟩
  have d1 := d0.ex x1
  have q0 := d1.cell 0 (v := .int .i64 x.wires) rfl
  have q1 := d1.cell 1 (v := .slice E x.es.length ec) rfl
  have q2 := d1.cell 2 (v := .slice I x.ins.length ic) rfl
  have q3 := d1.cell 3 (v := .slice O x.outs.length oc) rfl
  have y1 := x0.trans x1
  cases hb : acyB x with
  | false =>
    have H := Lib.hid (show isoU x l = false by rw [isoU, hb]; rfl)
    clear hb
    go_wp2
    go_ret
    exact ⟨ret_bool H.out.symm, y1⟩
  | true =>
    have H := Lib.hid (show isoU x l = ioB x.es l by rw [isoU, hb, Bool.true_and])
    have hes := acyB_es hb
    have hc := isEdgeOrder_c x.wires E ec x.es (.slice I x.ins.length ic) (.slice O x.outs.length oc) A ac l w1 (hE.ex y1) (hA.ex y1) hes ⟨_, _, _, rfl⟩ ⟨_, _, _, rfl⟩
    clear hb
    go_wp2_with fail
    refine hc.mono ?_
    rintro e w2 ⟨rfl, x2⟩
    go_wp2
    go_ret
    exact ⟨ret_bool (by rw [H.out]), y1.trans x2⟩
end Go.Proofs.Ytkpfmnconnopnaa
