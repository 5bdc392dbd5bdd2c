/- IsAcyclic and EdgeOrder, on both sides. Printed by a program of mine. -/
import Derived.Test.YtgblnkadmieflaaGrU
namespace Go.Proofs.Ytgblnkadmieflaa
set_option maxRecDepth 100000
open Go Go.RowKit
theorem ordU_no {x : Gr} (h : acyB x = false) : ordU x = ([], false) := by simp [ordU, h]
theorem ordU_yes {x : Gr} (h : acyB x = true) : ordU x = (orderL x.es, true) := by simp [ordU, h]
set_option maxHeartbeats 4000000 in
theorem rbGood_c (x : Gr) (E : Option Addr) (ec : Nat) (I : Option Addr) (ic : Nat) (O : Option Addr) (oc : Nat) (w : World) (hE : RdS EE w E x.es) (hI : Rd w I x.ins) (hO : Rd w O x.outs) :
    Calls Try.prog 34 #[.agg #[.int .i64 x.wires, .slice E x.es.length ec, .slice I x.ins.length ic, .slice O x.outs.length oc]] w fun e w' => e = .returned (.bool (acyB x)) ∧ Ex w w' := by
  have hEl := hE.1
  have x0 := (Ex.refl w).alloc (.cells #[.int .i64 x.wires, .slice E x.es.length ec, .slice I x.ins.length ic, .slice O x.outs.length oc] 31)
  have d0 := VB.new w 31 #[.int .i64 x.wires, .slice E x.es.length ec, .slice I x.ins.length ic, .slice O x.outs.length oc]
  go_enter Try.func34, Try.ntmps34
  go_wp2_with fail
  generalize w.alloc (.cells #[.int .i64 x.wires, .slice E x.es.length ec, .slice I x.ins.length ic, .slice O x.outs.length oc] 31) = W0 at *
  have q0 := d0.cell 0 (v := .int .i64 x.wires) rfl
  have q1 := d0.cell 1 (v := .slice E x.es.length ec) rfl
  have q2 := d0.cell 2 (v := .slice I x.ins.length ic) rfl
  have q3 := d0.cell 3 (v := .slice O x.outs.length oc) rfl
  have HS : ∀ W, Ex W0 W → (Ex W0 W ∧ W.cell? ⟨w.heap.size, 0, none⟩ = some (.int .i64 x.wires) ∧ W.cell? ⟨w.heap.size, 1, none⟩ = some (.slice E x.es.length ec) ∧ W.cell? ⟨w.heap.size, 2, none⟩ = some (.slice I x.ins.length ic) ∧ W.cell? ⟨w.heap.size, 3, none⟩ = some (.slice O x.outs.length oc)) := fun W h => ⟨h, cell_ex h q0, cell_ex h q1, cell_ex h q2, cell_ex h q3⟩
  have eA := (Ex.refl W0).drew
  have hv := fun W (y : Ex W0 W) => hgValid_c x E ec I ic O oc W (hE.ex (x0.trans y)) (hI.ex (x0.trans y)) (hO.ex (x0.trans y))
  cases hb : validB x with
  | false =>
    rw [hb] at hv
    have H := Lib.hid (show acyB x = false by rw [acyB, hb]; rfl)
    clear hb
    refine (hv _ (Ex.refl W0)).mono ?_
    rintro e w1 ⟨rfl, x1⟩
    go_wp2
    go_ret
    exact ⟨ret_bool H.out.symm, x0.trans x1⟩
  | true =>
    rw [hb] at hv
    have hes := validB_es hb
    have H := Lib.hid (show acyB x = decide ((orderL x.es).length = x.es.length) by rw [acyB, hb, Bool.true_and])
    clear hb
    refine (hv _ (Ex.refl W0)).mono ?_
    rintro e w1 ⟨rfl, x1⟩
    have d1 := d0.ex x1
    have q0 := d1.cell 0 (v := .int .i64 x.wires) rfl
    have q1 := d1.cell 1 (v := .slice E x.es.length ec) rfl
    have q2 := d1.cell 2 (v := .slice I x.ins.length ic) rfl
    have q3 := d1.cell 3 (v := .slice O x.outs.length oc) rfl
    go_wp2_with fail
    refine (hgAcyclic_c x E ec I ic O oc w1 (hE.ex (x0.trans x1)) hes).mono ?_
    rintro e w2 ⟨rfl, x2⟩
    go_wp2
    go_ret
    exact ⟨ret_bool (by rw [H.out]), (x0.trans x1).trans x2⟩
end Go.Proofs.Ytgblnkadmieflaa
