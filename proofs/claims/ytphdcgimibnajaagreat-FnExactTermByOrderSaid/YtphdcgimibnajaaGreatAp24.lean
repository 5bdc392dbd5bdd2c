/- The order that the edges are worked off in is an order of the edges; what TermOf and TermByOrder answer (plain). TermOf and TermByOrder (the reference). termByOrder (the program). TermOf and TermByOrder (the program). -/
import Derived.Test.YtphdcgimibnajaaGreatAp23
import Derived.Test.YtphdcgimibnajaaGreatAp15
import Derived.Test.YtphdcgimibnajaaGreatAp09
import Derived.Test.YtphdcgimibnajaaGreatAp11
import Derived.Deep.RegionHeld3
import Derived.Test.YtphdcgimibnajaaGreatAp21
import Derived.Laws.EntriesVeiled
import Derived.Test.YtphdcgimibnajaaGreatAp08
namespace Go.Proofs.YtphdcgimibnajaaGreat
set_option maxRecDepth 100000
/-- A term, if it is one. -/
def tmR (l : List Nd) : Tm × Bool := if trmB l = true then (⟨l⟩, true) else (⟨[]⟩, false)
def tbU (x : Gr) (l : List Int) : Tm × Bool := if drwB x = true ∧ ioB x.es l = true then tmR (tFin x l [] x.ins) else (⟨[]⟩, false)
theorem tbU_no {x : Gr} {l : List Int} (h : ¬ (drwB x = true ∧ ioB x.es l = true)) : tbU x l = (⟨[]⟩, false) := if_neg h
theorem tbU_yes {x : Gr} {l : List Int} (h1 : drwB x = true) (h2 : ioB x.es l = true) : tbU x l = tmR (tFin x l [] x.ins) := if_pos ⟨h1, h2⟩
theorem tmR_no {l : List Nd} (h : trmB l = false) : tmR l = (⟨[]⟩, false) := if_neg (by rw [h]; decide)
theorem tmR_yes {l : List Nd} (h : trmB l = true) : tmR l = (⟨l⟩, true) := if_pos h
theorem trmB_len {l : List Nd} (h : trmB l = true) : 1 ≤ l.length ∧ l.length ≤ 400 := by
  unfold trmB typO at h
  split at h
  · assumption
  · cases h
end Go.Proofs.YtphdcgimibnajaaGreat
namespace Go.Proofs.YtphdcgimibnajaaGreat
set_option maxRecDepth 100000
open Go Go.RowKit
theorem RTm.of {w : World} {A : Option Addr} {c : Nat} {l : List Nd} (h : RdS EN w A l) (hl : l.length ≤ 1000) : RTm w (.slice A l.length c) ⟨l⟩ :=
  ⟨⟨A, c, rfl, h⟩, by show totS EN l ≤ _; rw [totN_eq]; omega⟩
theorem RTm.zero (w : World) : RTm w (.slice none 0 0) ⟨[]⟩ :=
  ⟨⟨none, 0, rfl, ⟨by simp, fun j x hj => by simp at hj⟩⟩, by show totS EN [] ≤ _; rw [totN_eq]; simp⟩
set_option maxHeartbeats 4000000 in
theorem tmScan_c (l : List Nd) (A : Option Addr) (c : Nat) (w : World) (h : RdS EN w A l) :
    Calls Tryz.prog 39 #[.agg #[.slice A l.length c]] w fun e w' => ∃ F fn fc I in_ ic O on oc, e = .returned (.tuple #[.agg #[.slice F fn fc, .slice I in_ ic, .slice O on oc], .bool (trmB l)]) ∧ Ex w w' := by
  have x0 := (Ex.refl w).alloc (.cells #[.slice A l.length c] 29)
  have v0 := VB.new w 29 #[.slice A l.length c]
  obtain ⟨W0, hW0⟩ : ∃ W, w.alloc (.cells #[.slice A l.length c] 29) = W := ⟨_, rfl⟩
  have s0 : W0.heap.size = w.heap.size + 1 := by rw [← hW0]; simp
  rw [hW0] at x0 v0
  have x1 := (Ex.refl W0).alloc (.cells #[.slice none 0 0, .slice none 0 0, .slice none 0 0] 65)
  have v1 := VB.new W0 65 #[.slice none 0 0, .slice none 0 0, .slice none 0 0]
  obtain ⟨W1, hW1⟩ : ∃ W, W0.alloc (.cells #[.slice none 0 0, .slice none 0 0, .slice none 0 0] 65) = W := ⟨_, rfl⟩
  rw [hW1] at x1 v1
  rw [s0] at v1
  have q0 := (v0.ex x1).cell 0 (v := .slice A l.length c) rfl
  go_enter Tryz.func39, Tryz.ntmps39
  go_wp2_with fail
  refine (lbScan_c l A c _ (h.ex (x0.trans x1))).mono ?_
  rintro e w2 ⟨F, fn, fc, I, in_, ic, O, on, oc, rfl, x2⟩
  have hv := v1.ex x2
  have r0 := hv.cell 0 (v := .slice none 0 0) rfl
  have r1 := hv.cell 1 (v := .slice none 0 0) rfl
  have r2 := hv.cell 2 (v := .slice none 0 0) rfl
  have z0 := hv.frozen 0
  have z1 := hv.frozen 1
  have z2 := hv.frozen 2
  obtain ⟨dd, zz⟩ := hv.st3 (.slice F fn fc) (.slice I in_ ic) (.slice O on oc)
  have C0 := dd.cell 0 (v := .slice F fn fc) rfl
  have C1 := dd.cell 1 (v := .slice I in_ ic) rfl
  have C2 := dd.cell 2 (v := .slice O on oc) rfl
  have eF := ((x0.trans x1).trans x2).ex1 zz (Nat.le_succ _)
  clear q0 v0 v1 hv dd zz
  go_wp2_with fail
  refine bodyPost_ret (v := .tuple #[.agg #[.slice F fn fc, .slice I in_ ic, .slice O on oc], .bool (trmB l)]) (by simp [results, Tryz.results39, go_sem, C0, C1, C2]) rfl ?_
  exact ⟨_, _, _, _, _, _, _, _, _, rfl, eF⟩
set_option maxHeartbeats 4000000 in
theorem tmIf_c (l : List Nd) (A : Option Addr) (c : Nat) (w : World) (h : RdS EN w A l) :
    Calls Tryz.prog 22 #[.agg #[.slice A l.length c]] w fun e w' => e = .returned (if trmB l = true then .tuple #[.agg #[.slice A l.length c], .bool true] else .tuple #[.agg #[.slice none 0 0], .bool false]) ∧ Ex w w' := by
  obtain ⟨R, hR⟩ : ∃ R : Value, (if trmB l = true then Value.tuple #[.agg #[.slice A l.length c], .bool true] else .tuple #[.agg #[.slice none 0 0], .bool false]) = R := ⟨_, rfl⟩
  have HR := Lib.hid hR
  rw [hR]
  clear hR
  have x0 := (Ex.refl w).alloc (.cells #[.slice A l.length c] 29)
  have v0 := VB.new w 29 #[.slice A l.length c]
  obtain ⟨W0, hW0⟩ : ∃ W, w.alloc (.cells #[.slice A l.length c] 29) = W := ⟨_, rfl⟩
  have s0 : W0.heap.size = w.heap.size + 1 := by rw [← hW0]; simp
  rw [hW0] at x0 v0
  have x1 := (Ex.refl W0).alloc (.cells #[.slice none 0 0] 29)
  have v1 := VB.new W0 29 #[.slice none 0 0]
  obtain ⟨W1, hW1⟩ : ∃ W, W0.alloc (.cells #[.slice none 0 0] 29) = W := ⟨_, rfl⟩
  rw [hW1] at x1 v1
  rw [s0] at v1
  have q0 := (v0.ex x1).cell 0 (v := .slice A l.length c) rfl
  go_enter Tryz.func22, Tryz.ntmps22
  go_wp2_with fail
  refine (tmScan_c l A c _ (h.ex (x0.trans x1))).mono ?_
  rintro e w2 ⟨F, fn, fc, I, in_, ic, O, on, oc, rfl, x2⟩
  have X := (x0.trans x1).trans x2
  have d0 := (v0.ex x1).ex x2
  have d1 := v1.ex x2
  clear q0 v0 v1
  have y3 := (Ex.refl w2).alloc (.cells #[.slice F fn fc, .slice I in_ ic, .slice O on oc] 65)
  obtain ⟨W3, hW3⟩ : ∃ W, w2.alloc (.cells #[.slice F fn fc, .slice I in_ ic, .slice O on oc] 65) = W := ⟨_, rfl⟩
  rw [hW3] at y3
  have d0 := d0.ex y3
  have d1 := d1.ex y3
  have X := X.trans y3
  have q0 := d0.cell 0 (v := .slice A l.length c) rfl
  have r0 := d1.cell 0 (v := .slice none 0 0) rfl
  have z0 := d1.frozen 0
  cases hb : trmB l with
  | false =>
    have dd := d1.set_ 0 (.slice none 0 0)
    have C0 := dd.cell 0 (v := .slice none 0 0) rfl
    have eF := X.setCell (p := ⟨w.heap.size + 1, 0, none⟩) (Nat.le_succ _) (.slice none 0 0)
    go_wp2_with fail
    refine bodyPost_ret (v := .tuple #[.agg #[.slice none 0 0], .bool false]) (by simp [results, Tryz.results22, go_sem, C0]) rfl ?_
    exact ⟨by rw [← HR.out, hb]; rfl, eF⟩
  | true =>
    have dd := d1.set_ 0 (.slice A l.length c)
    have C0 := dd.cell 0 (v := .slice A l.length c) rfl
    have eF := X.setCell (p := ⟨w.heap.size + 1, 0, none⟩) (Nat.le_succ _) (.slice A l.length c)
    go_wp2_with fail
    refine bodyPost_ret (v := .tuple #[.agg #[.slice A l.length c], .bool true]) (by simp [results, Tryz.results22, go_sem, C0]) rfl ?_
    exact ⟨by rw [← HR.out, hb]; rfl, eF⟩
set_option maxHeartbeats 4000000 in
theorem spTermByOrder_u (x : Gr) (v0 v1 v2 : Value) (l : List Int) (vl : Value) (w : World) (h : RGr w v0 v1 v2 x) (hl : RIc w vl l) :
    Calls Tryz.prog 14 #[.agg #[.int .i64 x.wires, v0, v1, v2], vl] w fun e w' => ∃ y, e = .returned (.tuple #[.agg #[y], .bool (tbU x l).2]) ∧ RTm w' y (tbU x l).1 ∧ Ex w w' := by
  obtain ⟨⟨⟨E, ec, rfl, hE⟩, hEt⟩, ⟨I, ic, rfl, hI⟩, ⟨O, oc, rfl, hO⟩⟩ := h
  obtain ⟨A, ac, rfl, hA, hac⟩ := hl
  have hEl := hE.1
  have hAl := hA.len
  have hIl := hI.len
  have x0 := (Ex.refl w).alloc (.cells #[.int .i64 x.wires, .slice E x.es.length ec, .slice I x.ins.length ic, .slice O x.outs.length oc] 34)
  have d0 := VB.new w 34 #[.int .i64 x.wires, .slice E x.es.length ec, .slice I x.ins.length ic, .slice O x.outs.length oc]
  obtain ⟨W0, hW0⟩ : ∃ W, w.alloc (.cells #[.int .i64 x.wires, .slice E x.es.length ec, .slice I x.ins.length ic, .slice O x.outs.length oc] 34) = W := ⟨_, rfl⟩
  have s0 : W0.heap.size = w.heap.size + 1 := by rw [← hW0]; simp
  rw [hW0] at x0 d0
  have y1 := (Ex.refl W0).alloc (.cells #[.slice none 0 0] 29)
  have b1 := VB.new W0 29 #[.slice none 0 0]
  obtain ⟨W1, hW1⟩ : ∃ W, W0.alloc (.cells #[.slice none 0 0] 29) = W := ⟨_, rfl⟩
  rw [hW1] at y1 b1
  rw [s0] at b1
  have d1 := d0.ex y1
  have x1 := x0.trans y1
  have q0 := d1.cell 0 (v := .int .i64 x.wires) rfl
  have q1 := d1.cell 1 (v := .slice E x.es.length ec) rfl
  have q2 := d1.cell 2 (v := .slice I x.ins.length ic) rfl
  have q3 := d1.cell 3 (v := .slice O x.outs.length oc) rfl
  clear d0 y1 x0
  go_enter Tryz.func14, Tryz.ntmps14
  go_wp2_with fail
  refine (rbPlain_c x E ec I ic O oc W1 (hE.ex x1) (hI.ex x1) (hO.ex x1)).mono ?_
  rintro e w2 ⟨rfl, y2⟩
  have d2 := d1.ex y2
  have b2 := b1.ex y2
  have x2 := x1.trans y2
  clear q0 q1 q2 q3 d1 b1
  have hno : ∀ (W : World), VB W (w.heap.size + 1) 29 #[.slice none 0 0] → Ex w W → ∃ W', W' = W.setCell ⟨w.heap.size + 1, 0, none⟩ (.slice none 0 0) ∧ W'.cell? ⟨w.heap.size + 1, 0, none⟩ = some (.slice none 0 0) ∧ Ex w W' := fun W hb hx =>
    ⟨_, rfl, (hb.set_ 0 (.slice none 0 0)).cell 0 rfl, hx.setCell (p := ⟨w.heap.size + 1, 0, none⟩) (Nat.le_succ _) (.slice none 0 0)⟩
  cases hb : drwB x with
  | false =>
    have H := Lib.hid (tbU_no (l := l) (x := x) (by simp [hb]))
    obtain ⟨W', hW', C0, eF⟩ := hno w2 b2 x2
    have r0 := b2.cell 0 (v := .slice none 0 0) rfl
    have f0 := b2.frozen 0
    subst hW'
    clear hb hno
    go_wp2_with fail
    refine bodyPost_ret (v := .tuple #[.agg #[.slice none 0 0], .bool false]) (by simp [results, Tryz.results14, go_sem, C0]) rfl ?_
    rw [H.out]
    exact ⟨_, rfl, RTm.zero _, eF⟩
  | true =>
    have Hb := Lib.hid hb
    have hes := acyB_es (drwB_parts hb).1
    have hc := rbIs_c x.wires E ec x.es (.slice I x.ins.length ic) (.slice O x.outs.length oc) A ac l w2 (hE.ex x2) (hA.ex x2) hac hes ⟨_, _, _, rfl⟩ ⟨_, _, _, rfl⟩
    have q0 := d2.cell 0 (v := .int .i64 x.wires) rfl
    have q1 := d2.cell 1 (v := .slice E x.es.length ec) rfl
    have q2 := d2.cell 2 (v := .slice I x.ins.length ic) rfl
    have q3 := d2.cell 3 (v := .slice O x.outs.length oc) rfl
    clear hb
    go_wp2_with fail
    refine hc.mono ?_
    rintro e w3 ⟨rfl, y3⟩
    have d3 := d2.ex y3
    have b3 := b2.ex y3
    have x3 := x2.trans y3
    clear hc q0 q1 q2 q3 d2 b2
    cases hi : ioB x.es l with
    | false =>
      have H := Lib.hid (tbU_no (l := l) (x := x) (by simp [hi]))
      obtain ⟨W', hW', C0, eF⟩ := hno w3 b3 x3
      have r0 := b3.cell 0 (v := .slice none 0 0) rfl
      have f0 := b3.frozen 0
      subst hW'
      clear hi hno
      go_wp2_with fail
      refine bodyPost_ret (v := .tuple #[.agg #[.slice none 0 0], .bool false]) (by simp [results, Tryz.results14, go_sem, C0]) rfl ?_
      rw [H.out]
      exact ⟨_, rfl, RTm.zero _, eF⟩
    | true =>
      have H := Lib.hid (tbU_yes Hb.out hi)
      have hc := rbTerm_c x E ec I ic O oc A ac l w3 (hE.ex x3) (hI.ex x3) (hO.ex x3) (hA.ex x3) Hb.out hi
      have q0 := d3.cell 0 (v := .int .i64 x.wires) rfl
      have q1 := d3.cell 1 (v := .slice E x.es.length ec) rfl
      have q2 := d3.cell 2 (v := .slice I x.ins.length ic) rfl
      have q3 := d3.cell 3 (v := .slice O x.outs.length oc) rfl
      clear hi hno
      obtain ⟨F, hF⟩ : ∃ F, tFin x l [] x.ins = F := ⟨_, rfl⟩
      rw [hF] at hc H
      clear hF
      go_wp2_with fail
      refine hc.mono ?_
      clear hc
      rintro e w4 ⟨Y, c, rfl, hy, y4⟩
      have b4 := b3.ex y4
      have x4 := x3.trans y4
      have hc := tmIf_c F Y c w4 hy
      clear q0 q1 q2 q3 d3 b3
      obtain ⟨yv, bv, hR, hY⟩ : ∃ (yv : Value) (bv : Bool), (if trmB F = true then Value.tuple #[.agg #[.slice Y F.length c], .bool true] else .tuple #[.agg #[.slice none 0 0], .bool false]) = .tuple #[.agg #[yv], .bool bv] ∧ ((tmR F).2 = bv ∧ (∃ Z n m, yv = .slice Z n m) ∧ ∀ W W', Ex w4 W → Ex1 (w.heap.size + 1) W W' → RTm W' yv (tmR F).1) := by
        cases hT : trmB F with
        | true => exact ⟨_, _, if_pos rfl, by rw [tmR_yes hT], ⟨_, _, _, rfl⟩, fun W W' hW hE => by rw [tmR_yes hT]; exact RTm.of ((hy.ex hW).n_vb (b4.ex hW) (fun i e => by cases e) hE) (by have := trmB_len hT; omega)⟩
        | false => exact ⟨_, _, if_neg (by decide), by rw [tmR_no hT], ⟨_, _, _, rfl⟩, fun _ W _ _ => by rw [tmR_no hT]; exact RTm.zero W⟩
      rw [hR] at hc
      obtain ⟨hB, ⟨Z, n, m, rfl⟩, hY⟩ := hY
      have HB := Lib.hid hB
      clear hR hB
      go_wp2_with fail
      refine hc.mono ?_
      rintro e w5 ⟨rfl, y5⟩
      have b5 := b4.ex y5
      have x5 := x4.trans y5
      have r0 := b5.cell 0 (v := .slice none 0 0) rfl
      have f0 := b5.frozen 0
      have dd := b5.set_ 0 (.slice Z n m)
      have C0 := dd.cell 0 (v := .slice Z n m) rfl
      have hb5 := b4.lt
      have hz := x3.size
      have E5 : Ex1 (w.heap.size + 1) w5 (w5.setCell ⟨w.heap.size + 1, 0, none⟩ (.slice Z n m)) := (Ex1.refl _ _).setCell (p := ⟨w.heap.size + 1, 0, none⟩) rfl _
      have eF := x5.ex1 E5 (Nat.le_succ _)
      go_wp2_with fail
      refine bodyPost_ret (v := .tuple #[.agg #[.slice Z n m], .bool bv]) (by simp [results, Tryz.results14, go_sem, C0]) rfl ?_
      rw [H.out, HB.out]
      exact ⟨_, rfl, hY _ _ y5 E5, eF⟩
end Go.Proofs.YtphdcgimibnajaaGreat
namespace Go.Proofs.YtphdcgimibnajaaGreat
set_option maxRecDepth 100000
open Go Go.RowKit
theorem enters_turn : ∀ args w, (callFunc 53 args).run Tryz.prog w = .ok (.enter 53 args) w := enters_of Tryz.func53 (by kernel_rfl) rfl
set_option maxHeartbeats 8000000 in
theorem termByOrder_c (x : Gr) (E : Option Addr) (ec : Nat) (I : Option Addr) (ic : Nat) (O : Option Addr) (oc : Nat) (A : Option Addr) (ac : Nat) (order : List Int) (w : World) (hE : RdS EE w E x.es) (hI : Rd w I x.ins) (hO : Rd w O x.outs) (hA : Rd w A order) (hd : drwB x = true) (ho : ioB x.es order = true) :
    Calls Tryz.prog 27 #[.agg #[.int .i64 x.wires, .slice E x.es.length ec, .slice I x.ins.length ic, .slice O x.outs.length oc], .slice A order.length ac] w fun e w' => ∃ v, e = .returned (.tuple #[.agg #[v], .bool (trmB (tFin x order [] x.ins))]) ∧ (trmB (tFin x order [] x.ins) = true → AN w' w.heap.size v (tFin x order [] x.ins)) ∧ (trmB (tFin x order [] x.ins) = false → v = .slice none 0 0) ∧ Ex w w' := by
  have hmf : ∀ (fn : Fn) (first cap : Array Value) (w : World), (Instr.makeFunc fn first cap).run Tryz.prog w = .ok (.func fn first cap) w := fun _ _ _ _ => rfl
  have eg1 := enters_add
  have eg2 := enters_turn
  have hEl := hE.1
  have hAl := hA.len
  have hIl := hI.len
  have hOl := hO.len
  obtain ⟨_, hm⟩ := drwB_parts hd
  obtain ⟨_, _, hes, hin, hou, hk, _⟩ := validB_dims (acyB_valid (drwB_parts hd).1)
  have hp : permB x.es.length order = true := by simp only [ioB, Bool.and_eq_true] at ho; exact ho.1
  obtain ⟨hpl, hpr, _⟩ := permB_parts hp
  have Hm := Lib.hid hm
  have Ho := Lib.hid ho
  have Hk := Lib.hid hk
  have Hpr := Lib.hid hpr
  have hol60 : order.length ≤ 60 := by omega
  have HPL := Lib.hid hpl
  clear hm ho hk hpr hp hd hpl
  have x0 := (Ex.refl w).alloc (.cells #[.int .i64 x.wires, .slice E x.es.length ec, .slice I x.ins.length ic, .slice O x.outs.length oc] 34)
  have d0 := VB.new w 34 #[.int .i64 x.wires, .slice E x.es.length ec, .slice I x.ins.length ic, .slice O x.outs.length oc]
  obtain ⟨W0, hW0⟩ : ∃ W, w.alloc (.cells #[.int .i64 x.wires, .slice E x.es.length ec, .slice I x.ins.length ic, .slice O x.outs.length oc] 34) = W := ⟨_, rfl⟩
  have s0 : W0.heap.size = w.heap.size + 1 := by rw [← hW0]; simp
  rw [hW0] at x0 d0
  have x1 := (Ex.refl W0).alloc (.cells #[.slice none 0 0] 29)
  have d1 := VB.new W0 29 #[.slice none 0 0]
  obtain ⟨W1, hW1⟩ : ∃ W, W0.alloc (.cells #[.slice none 0 0] 29) = W := ⟨_, rfl⟩
  have s1 : W1.heap.size = w.heap.size + 1 + 1 := by rw [← hW1]; simp [s0]
  rw [hW1] at x1 d1
  rw [s0] at d1
  have x2 := (Ex.refl W1).alloc (.cells #[] 84)
  have a2 : AN (W1.alloc (.cells #[] 84)) W1.heap.size (.slice (some ⟨W1.heap.size, 0, none⟩) 0 0) [] := AF.empty W1 (Nat.le_refl _)
  obtain ⟨W2, hW2⟩ : ∃ W, W1.alloc (.cells #[] 84) = W := ⟨_, rfl⟩
  have s2 : W2.heap.size = w.heap.size + 1 + 1 + 1 := by rw [← hW2]; simp [s1]
  rw [hW2] at x2 a2
  rw [s1] at a2
  have x3 := (Ex.refl W2).alloc (.cells #[.slice (some ⟨w.heap.size + 1 + 1, 0, none⟩) 0 0] 27)
  have d3 := VB.new W2 27 #[.slice (some ⟨w.heap.size + 1 + 1, 0, none⟩) 0 0]
  obtain ⟨W3, hW3⟩ : ∃ W, W2.alloc (.cells #[.slice (some ⟨w.heap.size + 1 + 1, 0, none⟩) 0 0] 27) = W := ⟨_, rfl⟩
  have s3 : W3.heap.size = w.heap.size + 1 + 1 + 1 + 1 := by rw [← hW3]; simp [s2]
  rw [hW3] at x3 d3
  rw [s2] at d3
  have x4 := (Ex.refl W3).alloc (.cells #[.func (.func 51) #[] #[.pointer (some ⟨w.heap.size + 1 + 1 + 1, 0, none⟩)]] 79)
  have d4 := VB.new W3 79 #[.func (.func 51) #[] #[.pointer (some ⟨w.heap.size + 1 + 1 + 1, 0, none⟩)]]
  obtain ⟨W4, hW4⟩ : ∃ W, W3.alloc (.cells #[.func (.func 51) #[] #[.pointer (some ⟨w.heap.size + 1 + 1 + 1, 0, none⟩)]] 79) = W := ⟨_, rfl⟩
  have s4 : W4.heap.size = w.heap.size + 1 + 1 + 1 + 1 + 1 := by rw [← hW4]; simp [s3]
  rw [hW4] at x4 d4
  rw [s3] at d4
  have X4 := (((x0.trans x1).trans x2).trans x3).trans x4
  have D0 := (((d0.ex x1).ex x2).ex x3).ex x4
  have D1 := ((d1.ex x2).ex x3).ex x4
  have D3 := d3.ex x4
  have A4 := (a2.ex x3).ex x4
  clear x0 x1 x2 x3 x4 d0 d1 d3 a2
  have p2 := D0.cell 2 (v := .slice I x.ins.length ic) rfl
  go_enter Tryz.func27, Tryz.ntmps27
  go_wp2_with fail
  clear p2 hW0 hW1 hW2 hW3 hW4 s0 s1 s2 s3
  go_loopw [9, 22] (fun s9 s22 wr => ∃ (k : Nat) (cut : List Int) (C : Option Addr) (cc : Nat) (ov : Value) (out : List Nd), k ≤ order.length ∧ s22 = .int .i64 k ∧ s9 = .slice C cut.length cc ∧ Rd wr C cut ∧ Hid (CutI x (order.take k) cut) ∧ Hid (tFin x order [] x.ins = tFin x (order.drop k) out cut) ∧ cut.length ≤ 12 + 2 * k ∧ out.length ≤ 3000 ∧
      AN wr (w.heap.size + 1 + 1) ov out ∧ ov.ownBlock ≠ some (w.heap.size + 1 + 1 + 1) ∧
      VB wr w.heap.size 34 #[.int .i64 x.wires, .slice E x.es.length ec, .slice I x.ins.length ic, .slice O x.outs.length oc] ∧ VB wr (w.heap.size + 1) 29 #[.slice none 0 0] ∧
      VB wr (w.heap.size + 1 + 1 + 1) 27 #[ov] ∧ VB wr (w.heap.size + 1 + 1 + 1 + 1) 79 #[.func (.func 51) #[] #[.pointer (some ⟨w.heap.size + 1 + 1 + 1, 0, none⟩)]] ∧
      Ex w wr ∧ w.heap.size + 1 + 1 + 1 + 1 + 1 ≤ wr.heap.size) (fun _ i _ => order.length - (intOf i).toNat)
  case atStart => exact ⟨0, x.ins, I, ic, _, [], Nat.zero_le _, rfl, rfl, hI.ex X4, Lib.hid (CutI.nil Hm.out), Lib.hid rfl, by omega, by simp, A4, (fun e => by simp [Value.ownBlock] at e), D0, D1, D3, d4, X4, by omega⟩
  case round =>
    clear A4 D0 D1 D3 d4 X4 s4
    obtain ⟨k, cut, C, cc, ov, out, hk, rfl, rfl, hC, HC, HF, hcl, hol, ha, hot, D0, D1, D3, D4, he, hsz⟩ := hrel
    obtain ⟨Y, yc, rfl, _⟩ := ha.form
    obtain ⟨N, hN⟩ : ∃ N, out.length = N := ⟨_, rfl⟩
    have HN := Lib.hid hN
    rw [hN] at ha hot D3 hol
    clear hN
    have t6 := D3.cell 0 (v := .slice Y N yc) rfl
    have t7 := D4.cell 0 (v := .func (.func 51) #[] #[.pointer (some ⟨w.heap.size + 1 + 1 + 1, 0, none⟩)]) rfl
    by_cases hlt : k < order.length
    · obtain ⟨g, off, i, rfl, hi, _, c1⟩ := (hA.ex he).at_ hlt
      have hib := Hpr.out i (List.mem_of_getElem? hi)
      obtain ⟨m, rfl⟩ := Int.eq_ofNat_of_zero_le hib.1
      have hml : m < x.es.length := by have := hib.2; omega
      obtain ⟨g', off', e, P, pc, Q, qc, rfl, hx, e0', e1', e2', e3', hP, hQ⟩ := hE.edge hml
      have e0 := cell_ex he e0'
      have e1 := cell_ex he e1'
      have e2 := cell_ex he e2'
      have e3 := cell_ex he e3'
      clear e0' e1' e2' e3'
      have HI := Lib.hid hi
      have HX := Lib.hid (edAt_nat hx)
      have hkx := Hk.out e (List.mem_of_getElem? hx)
      have HKE := Lib.hid (edK_parts hkx)
      have he1 := edK_len hkx
      have HDR := Lib.hid (show order.drop k = (m : Int) :: order.drop (k + 1) by
        rw [List.drop_eq_getElem_cons hlt]
        congr 1
        have := List.getElem?_eq_getElem hlt
        rw [hi] at this
        injection this with this
        exact this.symm)
      obtain ⟨hCS, hCL⟩ := HC.out.step Hm.out Ho.out hi
      rw [edAt_nat hx] at hCS hCL
      have HCS := Lib.hid hCS
      have HCL := Lib.hid hCL
      have q1 := D0.cell 1 (v := .slice (some ⟨g', off', none⟩) x.es.length ec) rfl
      have hPl := hP.len
      have hQl := hQ.len
      have hcl2 := hC.len
      clear hi hx hkx hCS hCL hib
      have y1 := (Ex.refl wr).alloc (.cells #[.int .i64 e.kd, .int .i64 e.vl, .slice P e.ins.length pc, .slice Q e.outs.length qc] 69)
      have v1 := VB.new wr 69 #[.int .i64 e.kd, .int .i64 e.vl, .slice P e.ins.length pc, .slice Q e.outs.length qc]
      obtain ⟨V1, hV1⟩ : ∃ W, wr.alloc (.cells #[.int .i64 e.kd, .int .i64 e.vl, .slice P e.ins.length pc, .slice Q e.outs.length qc] 69) = W := ⟨_, rfl⟩
      have z1 : V1.heap.size = wr.heap.size + 1 := by rw [← hV1]; simp
      rw [hV1] at y1 v1
      have r2 := v1.cell 2 (v := .slice P e.ins.length pc) rfl
      go_wp2_with fail
      refine (others_c C cc cut P pc e.ins _ (hC.ex y1) (hP.ex (he.trans y1))).mono ?_
      rintro ee w2 ⟨_, rfl, ⟨R, rc, rfl, f2⟩, y2⟩
      obtain ⟨rest, hrest⟩ : ∃ r, (cut.filter fun x => !decide (x ∈ e.ins)) = r := ⟨_, rfl⟩
      rw [hrest] at f2 ⊢
      have HR := Lib.hid (show rstL cut e = rest from hrest)
      have hrl : rest.length + e.ins.length = cut.length := by
        have := HCL.out
        rw [cutB_eq, List.length_append, HR.out] at this
        omega
      clear hrest
      have y12 := y1.trans y2
      have he2 := he.trans y12
      have V2 := v1.ex y2
      have D02 := D0.ex y12
      have D12 := D1.ex y12
      have D32 := D3.ex y12
      have D42 := D4.ex y12
      have hC2 := hC.ex y12
      have ha2 := ha.ex y12
      have z2 := y12.size
      clear q1 r2 t6 t7 D0 D1 D3 D4 hC ha v1 e0 e1 e2 e3 c1 hV1
      have t6 := D32.cell 0 (v := .slice Y N yc) rfl
      have t7 := D42.cell 0 (v := .func (.func 51) #[] #[.pointer (some ⟨w.heap.size + 1 + 1 + 1, 0, none⟩)]) rfl
      by_cases hstop : 12 < cut.length ∨ 400 < N
      · have HT := Lib.hid (show trmB (tFin x order [] x.ins) = false by
          rw [HF.out]
          rcases hstop with h | h
          · rw [HDR.out]
            refine fin_wide x _ _ out cut ?_ ?_ ?_ ?_ h
            · rw [HX.out]; exact HKE.out.1
            · rw [HX.out]; exact HKE.out.2.1
            · rw [HX.out]; exact he1.1
            · rw [HX.out, HR.out]; exact hrl
          · exact fin_long x _ out cut (by rw [HN.out]; exact h))
        have dd := D12.set_ 0 (.slice none 0 0)
        have r0 := D12.cell 0 (v := .slice none 0 0) rfl
        have f0 := D12.frozen 0
        have C0 := dd.cell 0 (v := .slice none 0 0) rfl
        have eF := he2.setCell (p := ⟨w.heap.size + 1, 0, none⟩) (Nat.le_succ _) (.slice none 0 0)
        have key : ((12 : Int) < (cut.length : Int)) ∨ (¬ ((12 : Int) < (cut.length : Int)) ∧ ((400 : Int) < (N : Int))) := by omega
        clear hstop
        rcases key with h | ⟨h, h'⟩
        all_goals
          go_wp2_with fail
          refine bodyPost_ret (v := .tuple #[.agg #[.slice none 0 0], .bool false]) (by simp [results, Tryz.results27, go_sem, C0]) rfl ?_
          rw [HT.out]
          exact ⟨_, rfl, fun e => Bool.noConfusion e, fun _ => rfl, eF⟩
      · have h12 : ¬ ((12 : Int) < (cut.length : Int)) := by omega
        have h400 : ¬ ((400 : Int) < (N : Int)) := by omega
        have hc12 : cut.length ≤ 12 := by omega
        have hN400 : N ≤ 400 := by omega
        clear hstop
        have hr3 := rdm_two (w := w2) (c := pc) (c' := rc) (hP.ex he2) f2.rd
        have y3 := (Ex.refl w2).alloc (.cells #[.slice P e.ins.length pc, .slice R rest.length rc] 23)
        obtain ⟨V3, hV3⟩ : ∃ W, w2.alloc (.cells #[.slice P e.ins.length pc, .slice R rest.length rc] 23) = W := ⟨_, rfl⟩
        rw [hV3] at hr3 y3
        have r2 := V2.cell 2 (v := .slice P e.ins.length pc) rfl
        go_wp2_with fail
        refine (joined_c (some ⟨w2.heap.size, 0, none⟩) 2 [e.ins, rest] V3 hr3 (by simp; omega)).mono ?_
        rintro ee w4 ⟨_, rfl, ⟨J, jc, rfl, f4⟩, y4⟩
        rw [show [e.ins, rest].flatten = e.ins ++ rest by simp] at f4 ⊢
        obtain ⟨tg, htg⟩ : ∃ t, e.ins ++ rest = t := ⟨_, rfl⟩
        have HTG := Lib.hid (show e.ins ++ rstL cut e = tg by rw [HR.out]; exact htg)
        rw [htg] at f4 ⊢
        clear htg
        have y24 := y3.trans y4
        have he4 := he2.trans y24
        have V4 := V2.ex y24
        have D04 := D02.ex y24
        have D14 := D12.ex y24
        have D34 := D32.ex y24
        have D44 := D42.ex y24
        have hC4 := hC2.ex y24
        have ha4 := ha2.ex y24
        have z4 := y24.size
        clear D02 D12 D32 D42 hC2 ha2 V2 r2 t6 t7 hV3
        go_wp2_with fail
        refine (turn_c (w.heap.size + 1 + 1 + 1) (w.heap.size + 1 + 1 + 1 + 1) (w.heap.size + 1 + 1) 79 (.slice Y N yc) out C J cc jc cut tg w4 D34 D44 (by omega) ha4 (by rw [HN.out]; omega) (by omega) hot hC4 f4.rd HC.out.1 (by rw [← HTG.out]; exact cut_sub cut e) (by omega)).mono ?_
        rintro ee w5 ⟨rfl, v5, D35, ha5, hot5, y5⟩
        have z5 := y5.size
        have he5 := he4.ex1 y5 (by omega)
        have V5 := V4.ex1 y5 (by omega)
        have D05 := D04.ex1 y5 (by omega)
        have D15 := D14.ex1 y5 (by omega)
        have D45 := D44.ex1 y5 (by omega)
        have hC5 := hC4.ex1_vb D34 (fun i e => by cases e) y5
        have hmo := mvA_len out cut tg
        rw [HN.out] at hmo
        have hcc : cut.length * cut.length ≤ 12 * 12 := Nat.mul_le_mul hc12 hc12
        obtain ⟨out5, hout5⟩ : ∃ o, mvA out cut tg = o := ⟨_, rfl⟩
        have HO5 := Lib.hid hout5
        rw [hout5] at ha5 hmo
        have hol5 : out5.length ≤ 1300 := by omega
        obtain ⟨Y5, yc5, eY5, _⟩ := ha5.form
        obtain ⟨n5, hn5⟩ : ∃ n, out5.length = n := ⟨_, rfl⟩
        have HN5 := Lib.hid hn5
        rw [hn5] at eY5
        subst eY5
        clear hn5
        clear hout5 hmo hcc D04 D14 D34 D44 hC4 ha4 V4 y5 hot
        have q0 := V5.cell 0 (v := .int .i64 e.kd) rfl
        have q1 := V5.cell 1 (v := .int .i64 e.vl) rfl
        go_wp2_with fail
        refine (leafOf_c e.kd e.vl w5).mono ?_
        rintro ee w6 ⟨rfl, y6⟩
        have z6 := y6.size
        have o7 := one_rd w6 e.kd e.vl
        have n7 := an_one w6 (B := w5.heap.size) (by omega) e.kd e.vl
        have y7 := y6.trans ((Ex.refl w6).alloc (.cells #[.int .i64 e.kd, .int .i64 e.vl, .string ⟨#[]⟩] 84))
        obtain ⟨V7, hV7⟩ : ∃ W, w6.alloc (.cells #[.int .i64 e.kd, .int .i64 e.vl, .string ⟨#[]⟩] 84) = W := ⟨_, rfl⟩
        rw [hV7] at o7 n7 y7
        by_cases h0 : 0 < rest.length
        · have hg0 : (0 : Int) < (rest.length : Int) := by omega
          have HLY := Lib.hid (show layL 0 [nd e.kd e.vl] rest.length = jn 16 [nd e.kd e.vl] [nd 1 rest.length] by unfold layL layF; rw [if_pos h0, if_neg (Nat.lt_irrefl 0)])
          clear h0 n7
          go_wp2_with fail
          refine (leafOf_c 1 rest.length V7).mono ?_
          rintro ee w8 ⟨rfl, y8⟩
          have o9 := one_rd w8 1 rest.length
          have y9 := y8.trans ((Ex.refl w8).alloc (.cells #[.int .i64 1, .int .i64 rest.length, .string ⟨#[]⟩] 84))
          obtain ⟨V9, hV9⟩ : ∃ W, w8.alloc (.cells #[.int .i64 1, .int .i64 rest.length, .string ⟨#[]⟩] 84) = W := ⟨_, rfl⟩
          rw [hV9] at o9 y9
          go_wp2_with fail
          refine (joinNodes_c 16 [nd e.kd e.vl] [nd 1 rest.length] (some ⟨w6.heap.size, 0, none⟩) (some ⟨w8.heap.size, 0, none⟩) 1 1 V9 (o7.ex y9) o9 (by simp) (by simp)).mono ?_
          rintro ee w10 ⟨v10, rfl, aF, y10⟩
          obtain ⟨F, fc, eF, _⟩ := aF.form
          obtain ⟨nf, hnf⟩ : ∃ n, (jn 16 [nd e.kd e.vl] [nd 1 rest.length]).length = n := ⟨_, rfl⟩
          rw [hnf] at eF
          subst eF
          clear hnf
          rw [← HLY.out] at aF
          have YW := (y7.trans y9).trans y10
          replace aF := aF.more (B' := w5.heap.size) (y7.trans y9).size
          clear hV7 hV9 o7 o9
          have V8 := V5.ex YW
          have D08 := D05.ex YW
          have D18 := D15.ex YW
          have D38 := D35.ex YW
          have D48 := D45.ex YW
          have hC8 := hC5.ex YW
          have ha8 := ha5.ex YW
          have he8 := he5.trans YW
          have z8 := YW.size
          have t7 := D48.cell 0 (v := .func (.func 51) #[] #[.pointer (some ⟨w.heap.size + 1 + 1 + 1, 0, none⟩)]) rfl
          have hLl := layL_len 0 [nd e.kd e.vl] rest.length
          have hAl := addL_len out5 (layL 0 [nd e.kd e.vl] rest.length)
          simp only [List.length_cons, List.length_nil] at hLl
          have HF2 := Lib.hid (show tFin x order [] x.ins = tFin x (order.drop (k + 1)) (addL out5 (layL 0 [nd e.kd e.vl] rest.length)) (cutB cut e) by
            rw [HF.out, HDR.out, tFin_cons, HX.out, tStep, HTG.out, HO5.out, HR.out])
          have hcl' : (cutB cut e).length ≤ 12 + 2 * (k + 1) := by have := HCL.out; omega
          clear D05 D15 D35 D45 hC5 ha5 V5 q0 q1
          go_wp2_with fail
          refine (add_c (w.heap.size + 1 + 1 + 1) (w.heap.size + 1 + 1) (.slice Y5 n5 yc5) (.slice F nf fc) out5 (layL 0 [nd e.kd e.vl] rest.length) w10 D38 ha8 (aF.more (by omega)) (by omega) (by omega) (by omega) (fun e => by have := (aF.lt _ e).1; omega)).mono ?_
          rintro ee w11 ⟨rfl, v11, D311, ha11, hot11, y11⟩
          have V11 := V8.ex1 y11 (by omega)
          have D011 := D08.ex1 y11 (by omega)
          have D111 := D18.ex1 y11 (by omega)
          have D411 := D48.ex1 y11 (by omega)
          have he11 := he8.ex1 y11 (by omega)
          have hC11 := hC8.ex1_vb D38 (fun i e => by cases e) y11
          have z11 := y11.size
          have p0 := V11.cell 0 (v := .int .i64 e.kd) rfl
          have p1 := V11.cell 1 (v := .int .i64 e.vl) rfl
          have p2 := V11.cell 2 (v := .slice P e.ins.length pc) rfl
          have p3 := V11.cell 3 (v := .slice Q e.outs.length qc) rfl
          clear D08 D18 D38 D48 hC8 ha8 V8 y11 t7 aF
          go_wp2_with fail
          refine (cutBehind_c C cc cut e P pc Q qc w11 hC11 (hP.ex he11) (hQ.ex he11) (by omega)).mono ?_
          rintro ee w12 ⟨_, rfl, ⟨K, kc, rfl, f12⟩, y12'⟩
          have z12 := y12'.size
          clear p0 p1 p2 p3
          go_wp2_with fail
          go_roundw
          case rel => exact ⟨k + 1, cutB cut e, K, kc, v11, _, by omega, by go_num, rfl, f12.rd, HCS, HF2, hcl', by omega, ha11.ex y12', hot11, D011.ex y12', D111.ex y12', D311.ex y12', D411.ex y12', he11.trans y12', by omega⟩
          case measure => simp [intOf]; omega
        · have hg0 : ¬ ((0 : Int) < (rest.length : Int)) := by omega
          have HLY := Lib.hid (show layL 0 [nd e.kd e.vl] rest.length = [nd e.kd e.vl] by unfold layL layF; rw [if_neg h0, if_neg (Nat.lt_irrefl 0)])
          have aF := n7
          rw [← HLY.out] at aF
          have YW := y7
          clear h0 n7 o7
          have V8 := V5.ex YW
          have D08 := D05.ex YW
          have D18 := D15.ex YW
          have D38 := D35.ex YW
          have D48 := D45.ex YW
          have hC8 := hC5.ex YW
          have ha8 := ha5.ex YW
          have he8 := he5.trans YW
          have z8 := YW.size
          have t7 := D48.cell 0 (v := .func (.func 51) #[] #[.pointer (some ⟨w.heap.size + 1 + 1 + 1, 0, none⟩)]) rfl
          have hLl := layL_len 0 [nd e.kd e.vl] rest.length
          have hAl := addL_len out5 (layL 0 [nd e.kd e.vl] rest.length)
          simp only [List.length_cons, List.length_nil] at hLl
          have HF2 := Lib.hid (show tFin x order [] x.ins = tFin x (order.drop (k + 1)) (addL out5 (layL 0 [nd e.kd e.vl] rest.length)) (cutB cut e) by
            rw [HF.out, HDR.out, tFin_cons, HX.out, tStep, HTG.out, HO5.out, HR.out])
          have hcl' : (cutB cut e).length ≤ 12 + 2 * (k + 1) := by have := HCL.out; omega
          clear D05 D15 D35 D45 hC5 ha5 V5 q0 q1
          go_wp2_with fail
          refine (add_c (w.heap.size + 1 + 1 + 1) (w.heap.size + 1 + 1) (.slice Y5 n5 yc5) (.slice (some ⟨w6.heap.size, 0, none⟩) 1 1) out5 (layL 0 [nd e.kd e.vl] rest.length) V7 D38 ha8 (aF.more (by omega)) (by omega) (by omega) (by omega) (fun e => by have := (aF.lt _ e).1; omega)).mono ?_
          rintro ee w11 ⟨rfl, v11, D311, ha11, hot11, y11⟩
          have V11 := V8.ex1 y11 (by omega)
          have D011 := D08.ex1 y11 (by omega)
          have D111 := D18.ex1 y11 (by omega)
          have D411 := D48.ex1 y11 (by omega)
          have he11 := he8.ex1 y11 (by omega)
          have hC11 := hC8.ex1_vb D38 (fun i e => by cases e) y11
          have z11 := y11.size
          have p0 := V11.cell 0 (v := .int .i64 e.kd) rfl
          have p1 := V11.cell 1 (v := .int .i64 e.vl) rfl
          have p2 := V11.cell 2 (v := .slice P e.ins.length pc) rfl
          have p3 := V11.cell 3 (v := .slice Q e.outs.length qc) rfl
          clear D08 D18 D38 D48 hC8 ha8 V8 y11 t7 aF
          go_wp2_with fail
          refine (cutBehind_c C cc cut e P pc Q qc w11 hC11 (hP.ex he11) (hQ.ex he11) (by omega)).mono ?_
          rintro ee w12 ⟨_, rfl, ⟨K, kc, rfl, f12⟩, y12'⟩
          have z12 := y12'.size
          clear p0 p1 p2 p3
          go_wp2_with fail
          go_roundw
          case rel => exact ⟨k + 1, cutB cut e, K, kc, v11, _, by omega, by go_num, rfl, f12.rd, HCS, HF2, hcl', by omega, ha11.ex y12', hot11, D011.ex y12', D111.ex y12', D311.ex y12', D411.ex y12', he11.trans y12', by omega⟩
          case measure => simp [intOf]; omega
    · obtain rfl : k = order.length := by omega
      have hci := HC.out
      rw [List.take_length] at hci
      have hfi := CutI.fin Hm.out Ho.out hci
      have HF1 := Lib.hid (show tFin x order [] x.ins = tEnd (mvA out cut x.outs) x.ins.length by rw [HF.out, List.drop_length]; rfl)
      have q3 := D0.cell 3 (v := .slice O x.outs.length oc) rfl
      go_wp2_with fail
      refine (turn_c (w.heap.size + 1 + 1 + 1) (w.heap.size + 1 + 1 + 1 + 1) (w.heap.size + 1 + 1) 79 (.slice Y N yc) out C O cc oc cut x.outs wr D3 D4 (by omega) ha (by rw [HN.out]; omega) (by omega) hot hC (hO.ex he) hci.1 hfi (by omega)).mono ?_
      rintro ee w5 ⟨rfl, v5, D35, ha5, hot5, y5⟩
      have z5 := y5.size
      have he5 := he.ex1 y5 (by omega)
      have D05 := D0.ex1 y5 (by omega)
      have D15 := D1.ex1 y5 (by omega)
      have hmo := mvA_len out cut x.outs
      have hcc : cut.length * cut.length ≤ 132 * 132 := Nat.mul_le_mul (by omega) (by omega)
      rw [HN.out] at hmo
      obtain ⟨out5, hout5⟩ : ∃ o, mvA out cut x.outs = o := ⟨_, rfl⟩
      rw [hout5] at ha5 hmo HF1
      have hol5 : out5.length ≤ 1000000 := by omega
      obtain ⟨Y5, yc5, eY5, rF⟩ := ha5.rd (by omega)
      subst eY5
      clear hout5 hmo hcc D0 D1 D3 D4 hC ha hot y5 t6 t7 q3 hci hfi
      have t6 := D35.cell 0 (v := .slice Y5 out5.length yc5) rfl
      by_cases h0 : out5.length = 0
      · have HE := Lib.hid (show tEnd out5 x.ins.length = [nd 1 x.ins.length] from if_pos h0)
        have hg0 : (out5.length : Int) = 0 := by omega
        have q2 := D05.cell 2 (v := .slice I x.ins.length ic) rfl
        clear h0
        go_wp2_with fail
        refine (leafOf_c 1 x.ins.length w5).mono ?_
        rintro ee w6 ⟨rfl, y6⟩
        have z6 := y6.size
        have n7 := an_one w6 (B := w5.heap.size) (by omega) 1 x.ins.length
        have y7 := y6.trans ((Ex.refl w6).alloc (.cells #[.int .i64 1, .int .i64 x.ins.length, .string ⟨#[]⟩] 84))
        obtain ⟨V7, hV7⟩ : ∃ W, w6.alloc (.cells #[.int .i64 1, .int .i64 x.ins.length, .string ⟨#[]⟩] 84) = W := ⟨_, rfl⟩
        rw [hV7] at n7 y7
        have D37 := D35.ex y7
        have E8 : Ex1 (w.heap.size + 1 + 1 + 1) V7 (V7.setCell ⟨w.heap.size + 1 + 1 + 1, 0, none⟩ (.slice (some ⟨w6.heap.size, 0, none⟩) 1 1)) := (Ex1.refl _ _).setCell (p := ⟨w.heap.size + 1 + 1 + 1, 0, none⟩) rfl _
        have D38 := D37.set_ 0 (.slice (some ⟨w6.heap.size, 0, none⟩) 1 1)
        have t6' := D37.cell 0 (v := .slice Y5 out5.length yc5) rfl
        have f6' := D37.frozen 0
        have t6 := D38.cell 0 (v := .slice (some ⟨w6.heap.size, 0, none⟩) 1 1) rfl
        have aF := n7.k1 E8 (fun e => by injection e with e; have e : w6.heap.size = w.heap.size + 1 + 1 + 1 := e; omega)
        have D17 := (D15.ex y7).ex1 E8 (by omega)
        have he7 := (he5.trans y7).ex1 E8 (by omega)
        obtain ⟨V8, hV8⟩ : ∃ W, V7.setCell ⟨w.heap.size + 1 + 1 + 1, 0, none⟩ (.slice (some ⟨w6.heap.size, 0, none⟩) 1 1) = W := ⟨_, rfl⟩
        rw [hV8] at D38 t6 aF D17 he7
        obtain ⟨A9, c9, eA9, rF⟩ := aF.rd (by simp)
        injection eA9 with eA9 eA11 eA10
        subst eA9 eA10
        clear eA11
        have HFF := Lib.hid (show tFin x order [] x.ins = [nd 1 x.ins.length] by rw [HF1.out, HE.out])
        have hne : (Value.slice (some ⟨w6.heap.size, 0, none⟩) 1 1).ownBlock ≠ some (w.heap.size + 1) := fun e => by have := (aF.lt _ e).1; omega
        clear E8 D35 D37 D38 D05 D15
        have YW := he7
        go_wp2_with fail
        refine (validTerm_c [nd 1 x.ins.length] (some ⟨w6.heap.size, 0, none⟩) 1 V8 rF).mono ?_
        rintro ee w9 ⟨rfl, y9⟩
        have D19 := D17.ex y9
        have he9 := YW.trans y9
        have aF9 := aF.ex y9
        have r0 := D19.cell 0 (v := .slice none 0 0) rfl
        have f0 := D19.frozen 0
        cases hT : trmB [nd 1 x.ins.length] with
        | false =>
          have HT := Lib.hid (show trmB (tFin x order [] x.ins) = false by rw [HFF.out]; exact hT)
          have dd := D19.set_ 0 (.slice none 0 0)
          have C0 := dd.cell 0 (v := .slice none 0 0) rfl
          have eF := he9.setCell (p := ⟨w.heap.size + 1, 0, none⟩) (Nat.le_succ _) (.slice none 0 0)
          rw [if_neg (by decide)]
          clear hT
          go_wp2_with fail
          refine bodyPost_ret (v := .tuple #[.agg #[.slice none 0 0], .bool false]) (by simp [results, Tryz.results27, go_sem, C0]) rfl ?_
          rw [HT.out]
          exact ⟨_, rfl, fun e => Bool.noConfusion e, fun _ => rfl, eF⟩
        | true =>
          have HT := Lib.hid (show trmB (tFin x order [] x.ins) = true by rw [HFF.out]; exact hT)
          have dd := D19.set_ 0 (.slice (some ⟨w6.heap.size, 0, none⟩) 1 1)
          have C0 := dd.cell 0 (v := .slice (some ⟨w6.heap.size, 0, none⟩) 1 1) rfl
          have eF := he9.setCell (p := ⟨w.heap.size + 1, 0, none⟩) (Nat.le_succ _) (.slice (some ⟨w6.heap.size, 0, none⟩) 1 1)
          have aR := aF9.k1 ((Ex1.refl (w.heap.size + 1) w9).setCell (p := ⟨w.heap.size + 1, 0, none⟩) rfl (.slice (some ⟨w6.heap.size, 0, none⟩) 1 1)) hne
          rw [if_pos rfl]
          clear hT
          go_wp2_with fail
          refine bodyPost_ret (v := .tuple #[.agg #[.slice (some ⟨w6.heap.size, 0, none⟩) 1 1], .bool true]) (by simp [results, Tryz.results27, go_sem, C0]) rfl ?_
          rw [HT.out, HFF.out]
          exact ⟨_, rfl, fun _ => aR.more (by omega), fun e => Bool.noConfusion e, eF⟩
      · have HE := Lib.hid (show tEnd out5 x.ins.length = out5 from if_neg h0)
        have hg0 : ¬ ((out5.length : Int) = 0) := by omega
        obtain ⟨outF, houtF⟩ : ∃ o, out5 = o := ⟨_, rfl⟩
        subst houtF
        have HFF := Lib.hid (show tFin x order [] x.ins = out5 by rw [HF1.out, HE.out])
        have aF := ha5
        have he7 := he5
        have D17 := D15
        have hne : (Value.slice Y5 out5.length yc5).ownBlock ≠ some (w.heap.size + 1) := fun e => by have := (ha5.lt _ e).1; omega
        clear h0
        have YW := he7
        go_wp2_with fail
        refine (validTerm_c out5 Y5 yc5 w5 rF).mono ?_
        rintro ee w9 ⟨rfl, y9⟩
        have D19 := D17.ex y9
        have he9 := YW.trans y9
        have aF9 := aF.ex y9
        have r0 := D19.cell 0 (v := .slice none 0 0) rfl
        have f0 := D19.frozen 0
        cases hT : trmB out5 with
        | false =>
          have HT := Lib.hid (show trmB (tFin x order [] x.ins) = false by rw [HFF.out]; exact hT)
          have dd := D19.set_ 0 (.slice none 0 0)
          have C0 := dd.cell 0 (v := .slice none 0 0) rfl
          have eF := he9.setCell (p := ⟨w.heap.size + 1, 0, none⟩) (Nat.le_succ _) (.slice none 0 0)
          rw [if_neg (by decide)]
          clear hT
          go_wp2_with fail
          refine bodyPost_ret (v := .tuple #[.agg #[.slice none 0 0], .bool false]) (by simp [results, Tryz.results27, go_sem, C0]) rfl ?_
          rw [HT.out]
          exact ⟨_, rfl, fun e => Bool.noConfusion e, fun _ => rfl, eF⟩
        | true =>
          have HT := Lib.hid (show trmB (tFin x order [] x.ins) = true by rw [HFF.out]; exact hT)
          have dd := D19.set_ 0 (.slice Y5 out5.length yc5)
          have C0 := dd.cell 0 (v := .slice Y5 out5.length yc5) rfl
          have eF := he9.setCell (p := ⟨w.heap.size + 1, 0, none⟩) (Nat.le_succ _) (.slice Y5 out5.length yc5)
          have aR := aF9.k1 ((Ex1.refl (w.heap.size + 1) w9).setCell (p := ⟨w.heap.size + 1, 0, none⟩) rfl (.slice Y5 out5.length yc5)) hne
          rw [if_pos rfl]
          clear hT
          go_wp2_with fail
          refine bodyPost_ret (v := .tuple #[.agg #[.slice Y5 out5.length yc5], .bool true]) (by simp [results, Tryz.results27, go_sem, C0]) rfl ?_
          rw [HT.out, HFF.out]
          exact ⟨_, rfl, fun _ => aR.more (by omega), fun e => Bool.noConfusion e, eF⟩
end Go.Proofs.YtphdcgimibnajaaGreat
namespace Go.Proofs.YtphdcgimibnajaaGreat
set_option maxRecDepth 100000
open Go Go.RowKit
theorem OTm.zero (w : World) (a b : Nat) (h : a ≤ b) : OTm w a b (.slice none 0 0) ⟨[]⟩ := by
  have h1 : AN w a (.slice none 0 0) [] := AF.nil w a
  refine ⟨a, a, ⟨⟨none, 0, rfl, OwS.nil _ _ _ _ _ _⟩, ?_⟩, Nat.le_refl _, h⟩
  show totS EN [] ≤ _
  rw [totN_eq]; simp
theorem AN.tm {w : World} {a : Nat} {v : Value} {l : List Nd} (h : AN w a v l) (hl : l.length ≤ 1000) : OTm w a w.heap.size v ⟨l⟩ := ⟨_, _, h.on (by omega), Nat.le_refl _, Nat.le_refl _⟩
set_option maxHeartbeats 4000000 in
theorem TermByOrder_u (x : Gr) (v0 v1 v2 : Value) (l : List Int) (vl : Value) (w : World) (h : RGr w v0 v1 v2 x) (hl : RIc w vl l) :
    Calls Tryz.prog 16 #[.agg #[.int .i64 x.wires, v0, v1, v2], vl] w fun e w' => ∃ y, e = .returned (.tuple #[.agg #[y], .bool (tbU x l).2]) ∧ OTm w' w.heap.size w'.heap.size y (tbU x l).1 ∧ Ex w w' := by
  obtain ⟨⟨⟨E, ec, rfl, hE⟩, hEt⟩, ⟨I, ic, rfl, hI⟩, ⟨O, oc, rfl, hO⟩⟩ := h
  obtain ⟨A, ac, rfl, hA, hac⟩ := hl
  have hEl := hE.1
  have hAl := hA.len
  have hIl := hI.len
  have x0 := (Ex.refl w).alloc (.cells #[.int .i64 x.wires, .slice E x.es.length ec, .slice I x.ins.length ic, .slice O x.outs.length oc] 34)
  have d0 := VB.new w 34 #[.int .i64 x.wires, .slice E x.es.length ec, .slice I x.ins.length ic, .slice O x.outs.length oc]
  obtain ⟨W0, hW0⟩ : ∃ W, w.alloc (.cells #[.int .i64 x.wires, .slice E x.es.length ec, .slice I x.ins.length ic, .slice O x.outs.length oc] 34) = W := ⟨_, rfl⟩
  have s0 : W0.heap.size = w.heap.size + 1 := by rw [← hW0]; simp
  rw [hW0] at x0 d0
  have y1 := (Ex.refl W0).alloc (.cells #[.slice none 0 0] 29)
  have b1 := VB.new W0 29 #[.slice none 0 0]
  obtain ⟨W1, hW1⟩ : ∃ W, W0.alloc (.cells #[.slice none 0 0] 29) = W := ⟨_, rfl⟩
  rw [hW1] at y1 b1
  rw [s0] at b1
  have d1 := d0.ex y1
  have x1 := x0.trans y1
  have q0 := d1.cell 0 (v := .int .i64 x.wires) rfl
  have q1 := d1.cell 1 (v := .slice E x.es.length ec) rfl
  have q2 := d1.cell 2 (v := .slice I x.ins.length ic) rfl
  have q3 := d1.cell 3 (v := .slice O x.outs.length oc) rfl
  clear d0 y1 x0
  go_enter Tryz.func16, Tryz.ntmps16
  go_wp2_with fail
  refine (isDrawn_c x _ _ _ W1 ⟨⟨⟨E, ec, rfl, hE.ex x1⟩, hEt⟩, ⟨I, ic, rfl, hI.ex x1⟩, ⟨O, oc, rfl, hO.ex x1⟩⟩).mono ?_
  rintro e w2 ⟨rfl, y2⟩
  have d2 := d1.ex y2
  have b2 := b1.ex y2
  have x2 := x1.trans y2
  clear q0 q1 q2 q3 d1 b1
  have hno : ∀ (W : World), VB W (w.heap.size + 1) 29 #[.slice none 0 0] → Ex w W → ∃ W', W' = W.setCell ⟨w.heap.size + 1, 0, none⟩ (.slice none 0 0) ∧ W'.cell? ⟨w.heap.size + 1, 0, none⟩ = some (.slice none 0 0) ∧ Ex w W' := fun W hb hx =>
    ⟨_, rfl, (hb.set_ 0 (.slice none 0 0)).cell 0 rfl, hx.setCell (p := ⟨w.heap.size + 1, 0, none⟩) (Nat.le_succ _) (.slice none 0 0)⟩
  cases hb : drwB x with
  | false =>
    have H := Lib.hid (tbU_no (l := l) (x := x) (by simp [hb]))
    obtain ⟨W', hW', C0, eF⟩ := hno w2 b2 x2
    have r0 := b2.cell 0 (v := .slice none 0 0) rfl
    have f0 := b2.frozen 0
    subst hW'
    clear hb hno
    go_wp2_with fail
    refine bodyPost_ret (v := .tuple #[.agg #[.slice none 0 0], .bool false]) (by simp [results, Tryz.results16, go_sem, C0]) rfl ?_
    rw [H.out]
    exact ⟨_, rfl, OTm.zero _ _ _ eF.size, eF⟩
  | true =>
    have Hb := Lib.hid hb
    have hes := acyB_es (drwB_parts hb).1
    have hc := isEdgeOrder_c x.wires E ec x.es (.slice I x.ins.length ic) (.slice O x.outs.length oc) A ac l w2 (hE.ex x2) (hA.ex x2) hes ⟨_, _, _, rfl⟩ ⟨_, _, _, rfl⟩
    have q0 := d2.cell 0 (v := .int .i64 x.wires) rfl
    have q1 := d2.cell 1 (v := .slice E x.es.length ec) rfl
    have q2 := d2.cell 2 (v := .slice I x.ins.length ic) rfl
    have q3 := d2.cell 3 (v := .slice O x.outs.length oc) rfl
    clear hb
    go_wp2_with fail
    refine hc.mono ?_
    rintro e w3 ⟨rfl, y3⟩
    have d3 := d2.ex y3
    have b3 := b2.ex y3
    have x3 := x2.trans y3
    clear hc q0 q1 q2 q3 d2 b2
    cases hi : ioB x.es l with
    | false =>
      have H := Lib.hid (tbU_no (l := l) (x := x) (by simp [hi]))
      obtain ⟨W', hW', C0, eF⟩ := hno w3 b3 x3
      have r0 := b3.cell 0 (v := .slice none 0 0) rfl
      have f0 := b3.frozen 0
      subst hW'
      clear hi hno
      go_wp2_with fail
      refine bodyPost_ret (v := .tuple #[.agg #[.slice none 0 0], .bool false]) (by simp [results, Tryz.results16, go_sem, C0]) rfl ?_
      rw [H.out]
      exact ⟨_, rfl, OTm.zero _ _ _ eF.size, eF⟩
    | true =>
      have H := Lib.hid (tbU_yes Hb.out hi)
      have hc := termByOrder_c x E ec I ic O oc A ac l w3 (hE.ex x3) (hI.ex x3) (hO.ex x3) (hA.ex x3) Hb.out hi
      have q0 := d3.cell 0 (v := .int .i64 x.wires) rfl
      have q1 := d3.cell 1 (v := .slice E x.es.length ec) rfl
      have q2 := d3.cell 2 (v := .slice I x.ins.length ic) rfl
      have q3 := d3.cell 3 (v := .slice O x.outs.length oc) rfl
      have z3 := x3.size
      clear hi hno
      obtain ⟨F, hF⟩ : ∃ F, tFin x l [] x.ins = F := ⟨_, rfl⟩
      rw [hF] at hc H
      clear hF
      go_wp2_with fail
      refine hc.mono ?_
      clear hc
      rintro e w4 ⟨v, rfl, hy, hn, y4⟩
      have HY := Lib.hid hy
      have HN := Lib.hid hn
      obtain ⟨Y, n, c, hv⟩ : ∃ Y n c, v = .slice Y n c := by
        cases hT : trmB F with
        | false => exact ⟨_, _, _, hn hT⟩
        | true => obtain ⟨Y, c, e, _⟩ := (hy hT).form; exact ⟨_, _, _, e⟩
      subst hv
      have b4 := b3.ex y4
      have x4 := x3.trans y4
      have r0 := b4.cell 0 (v := .slice none 0 0) rfl
      have f0 := b4.frozen 0
      have dd := b4.set_ 0 (.slice Y n c)
      have C0 := dd.cell 0 (v := .slice Y n c) rfl
      have E5 : Ex1 (w.heap.size + 1) w4 (w4.setCell ⟨w.heap.size + 1, 0, none⟩ (.slice Y n c)) := (Ex1.refl _ _).setCell (p := ⟨w.heap.size + 1, 0, none⟩) rfl _
      have eF := x4.ex1 E5 (Nat.le_succ _)
      have hbl := b3.lt
      clear hy hn q0 q1 q2 q3 d3 b3
      go_wp2_with fail
      refine bodyPost_ret (v := .tuple #[.agg #[.slice Y n c], .bool (trmB F)]) (by simp [results, Tryz.results16, go_sem, C0]) rfl ?_
      rw [H.out]
      cases hT : trmB F with
      | false =>
        rw [tmR_no hT]
        have := HN.out hT
        rw [this] at eF ⊢
        exact ⟨_, rfl, OTm.zero _ _ _ eF.size, eF⟩
      | true =>
        rw [tmR_yes hT]
        have ha := (HY.out hT).k1 E5 (fun e => by have := ((HY.out hT).lt _ e).1; omega)
        exact ⟨_, rfl, (ha.tm (by have := trmB_len hT; omega)).more z3 (Nat.le_refl _), eF⟩
end Go.Proofs.YtphdcgimibnajaaGreat
