/- IsAcyclic and EdgeOrder, on both sides. -/
import Derived.Test.YtgblnkadmieflaaGrI
import Derived.Test.YtgblnkadmieflaaGrJ
import Derived.Test.YtgblnkadmieflaaGrD
import Derived.Test.YtgblnkadmieflaaGrF
import Derived.Deep.RegionLaw
namespace Go.Proofs.Ytgblnkadmieflaa
set_option maxRecDepth 100000
open Go Go.RowKit
theorem validB_es {x : Gr} (h : validB x = true) : x.es.length ≤ 60 := by
  simp only [validB, dimB, Bool.and_eq_true, decide_eq_true_eq] at h
  omega
theorem acyB_es {x : Gr} (h : acyB x = true) : x.es.length ≤ 60 := by
  simp only [acyB, Bool.and_eq_true] at h
  exact validB_es h.1
set_option maxHeartbeats 2000000 in
theorem isAcyclic_c (x : Gr) (v0 v1 v2 : Value) (w : World) (h : RGr w v0 v1 v2 x) :
    Calls Try.prog 40 #[.agg #[.int .i64 x.wires, v0, v1, v2]] w fun e w' => e = .returned (.bool (acyB x)) ∧ Ex w w' := by
  obtain ⟨⟨⟨E, ec, rfl, hE⟩, _⟩, ⟨I, ic, rfl, hI⟩, ⟨O, oc, rfl, hO⟩⟩ := h
  have hEl := hE.1
  have hl := orderL_len x.es
  have x0 := (Ex.refl w).alloc (.cells #[.int .i64 x.wires, .slice E x.es.length ec, .slice I x.ins.length ic, .slice O x.outs.length oc] 31)
  have d0 := VB.new w 31 #[.int .i64 x.wires, .slice E x.es.length ec, .slice I x.ins.length ic, .slice O x.outs.length oc]
  go_enter Try.func40, Try.ntmps40
  go_wp2_with fail
  generalize w.alloc (.cells #[.int .i64 x.wires, .slice E x.es.length ec, .slice I x.ins.length ic, .slice O x.outs.length oc] 31) = W0 at *
  have q0 := d0.cell 0 (v := .int .i64 x.wires) rfl
  have q1 := d0.cell 1 (v := .slice E x.es.length ec) rfl
  have q2 := d0.cell 2 (v := .slice I x.ins.length ic) rfl
  have q3 := d0.cell 3 (v := .slice O x.outs.length oc) rfl
  have HS : ∀ W, Ex W0 W → (Ex W0 W ∧ W.cell? ⟨w.heap.size, 0, none⟩ = some (.int .i64 x.wires) ∧ W.cell? ⟨w.heap.size, 1, none⟩ = some (.slice E x.es.length ec) ∧ W.cell? ⟨w.heap.size, 2, none⟩ = some (.slice I x.ins.length ic) ∧ W.cell? ⟨w.heap.size, 3, none⟩ = some (.slice O x.outs.length oc)) := fun W h => ⟨h, cell_ex h q0, cell_ex h q1, cell_ex h q2, cell_ex h q3⟩
  have eA := (Ex.refl W0).drew
  have hv := fun W (y : Ex W0 W) => isGraph_c x E ec I ic O oc W (hE.ex (x0.trans y)) (hI.ex (x0.trans y)) (hO.ex (x0.trans y))
  cases hb : validB x with
  | false =>
    rw [hb] at hv
    have H := Lib.hid (show acyB x = false by rw [acyB, hb]; rfl)
    clear hb
    first
    | go_region_with (first
        | (go_at_call 58
           refine (hv _ eA).mono ?_
           rintro e w1 ⟨rfl, x1'⟩
           have x1 := eA.trans x1'))
    | fail "region"
    all_goals
      go_wp2
      go_ret
      exact ⟨ret_bool H.out.symm, x0.trans x1⟩
  | true =>
    rw [hb] at hv
    have hes := validB_es hb
    have H := Lib.hid (show acyB x = decide ((orderL x.es).length = x.es.length) by rw [acyB, hb, Bool.true_and])
    have hc := fun W (y : Ex w W) => edgeOrder_c x.wires E ec x.es (.slice I x.ins.length ic) (.slice O x.outs.length oc) W (hE.ex y) hes ⟨_, _, _, rfl⟩ ⟨_, _, _, rfl⟩
    clear hb
    go_region_held3 (fun W => Ex W0 W ∧ W.cell? ⟨w.heap.size, 0, none⟩ = some (.int .i64 x.wires) ∧ W.cell? ⟨w.heap.size, 1, none⟩ = some (.slice E x.es.length ec) ∧ W.cell? ⟨w.heap.size, 2, none⟩ = some (.slice I x.ins.length ic) ∧ W.cell? ⟨w.heap.size, 3, none⟩ = some (.slice O x.outs.length oc)) (first
      | (exact HS _ x2) | (exact HS _ x1) | (exact HS _ eA) | (exact HS _ (Ex.refl W0))) (first
      | (go_at_call 58
         have hb := (‹Ex W0 _ ∧ _›).1
         refine (hv _ hb).mono ?_
         rintro e w1 ⟨rfl, x1'⟩
         have x1 := hb.trans x1'
         clear hb)
      | (go_at_call 60
         have hb := (‹Ex W0 _ ∧ _›).1
         refine (hc _ (x0.trans hb)).mono ?_
         rintro e w2 ⟨v, rfl, ⟨V, vc, rfl, fi⟩, x2'⟩
         have hfl := fi.rd.len
         have x2 := hb.trans x2'
         clear hb))
    all_goals
      go_wp2
      all_goals go_ret
      all_goals exact ⟨ret_bool (by rw [H.out]; first | rfl | (rw [Bool.eq_iff_iff]; simp; omega)), x0.trans x2⟩
set_option maxHeartbeats 2000000 in
theorem hgAcyclic_c (x : Gr) (E : Option Addr) (ec : Nat) (I : Option Addr) (ic : Nat) (O : Option Addr) (oc : Nat) (w : World) (hE : RdS EE w E x.es) (hes : x.es.length ≤ 60) :
    Calls Try.prog 53 #[.agg #[.int .i64 x.wires, .slice E x.es.length ec, .slice I x.ins.length ic, .slice O x.outs.length oc]] w fun e w' => e = .returned (.bool (decide ((orderL x.es).length = x.es.length))) ∧ Ex w w' := by
  have x0 := (Ex.refl w).alloc (.cells #[.int .i64 x.wires, .slice E x.es.length ec, .slice I x.ins.length ic, .slice O x.outs.length oc] 31)
  have d0 := VB.new w 31 #[.int .i64 x.wires, .slice E x.es.length ec, .slice I x.ins.length ic, .slice O x.outs.length oc]
  have hl := orderL_len x.es
  have hEl := hE.1
  have hc := fun W (y : Ex w W) => hgOrder_c x.wires E ec x.es (.slice I x.ins.length ic) (.slice O x.outs.length oc) W (hE.ex y) hes ⟨_, _, _, rfl⟩ ⟨_, _, _, rfl⟩
  go_enter Try.func53, Try.ntmps53
  go_wp2_with fail
  generalize w.alloc (.cells #[.int .i64 x.wires, .slice E x.es.length ec, .slice I x.ins.length ic, .slice O x.outs.length oc] 31) = W0 at *
  have q0 := d0.cell 0 (v := .int .i64 x.wires) rfl
  have q1 := d0.cell 1 (v := .slice E x.es.length ec) rfl
  have q2 := d0.cell 2 (v := .slice I x.ins.length ic) rfl
  have q3 := d0.cell 3 (v := .slice O x.outs.length oc) rfl
  have HS : ∀ W, Ex W0 W → (Ex W0 W ∧ W.cell? ⟨w.heap.size, 0, none⟩ = some (.int .i64 x.wires) ∧ W.cell? ⟨w.heap.size, 1, none⟩ = some (.slice E x.es.length ec) ∧ W.cell? ⟨w.heap.size, 2, none⟩ = some (.slice I x.ins.length ic) ∧ W.cell? ⟨w.heap.size, 3, none⟩ = some (.slice O x.outs.length oc)) := fun W h => ⟨h, cell_ex h q0, cell_ex h q1, cell_ex h q2, cell_ex h q3⟩
  have eA := (Ex.refl W0).drew
  go_region_held3 (fun W => Ex W0 W ∧ W.cell? ⟨w.heap.size, 0, none⟩ = some (.int .i64 x.wires) ∧ W.cell? ⟨w.heap.size, 1, none⟩ = some (.slice E x.es.length ec) ∧ W.cell? ⟨w.heap.size, 2, none⟩ = some (.slice I x.ins.length ic) ∧ W.cell? ⟨w.heap.size, 3, none⟩ = some (.slice O x.outs.length oc)) (first
    | (exact HS _ x2) | (exact HS _ eA) | (exact HS _ (Ex.refl W0))) (first
    | (go_at_call 65
       have hb := (‹Ex W0 _ ∧ _›).1
       refine (hc _ (x0.trans hb)).mono ?_
       rintro e w2 ⟨v, rfl, ⟨V, vc, rfl, fi⟩, x2'⟩
       have hfl := fi.rd.len
       have x2 := hb.trans x2'
       clear hb))
  all_goals
    go_wp2
    all_goals go_ret
    all_goals exact ⟨ret_bool (by first | rfl | (rw [Bool.eq_iff_iff]; simp; omega)), x0.trans x2⟩
end Go.Proofs.Ytgblnkadmieflaa
