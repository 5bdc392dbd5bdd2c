/- The reference's elimination on rational rows: negatives, zeros, rows less a multiple. -/
import Derived.Test.YtpeogfapnofeoaaGreatDoorPkAC
import Derived.Test.YtpeogfapnofeoaaGreatDoorRtH
import Derived.Test.YtpeogfapnofeoaaGreatDoorPkE
import Derived.Test.YtpeogfapnofeoaaGreatDoorPkN
namespace Go.Proofs.YtpeogfapnofeoaaGreatDoor
set_option maxRecDepth 100000
open Go Go.RowKit
set_option maxHeartbeats 2000000 in
theorem frNeg_c (p : Int) (x : Fra) (A B : Option Addr) (c d : Nat) (w : World) (hx : FV p x) (hA : Rd w A x.n) (hB : Rd w B x.d) :
    Calls Tryz.prog 86 #[.int .i64 p, .agg #[.slice A x.n.length c, .slice B x.d.length d]] w fun e w' => FFx w (negF p x) e w' := by
  have h2 := fieldB_lo hx.f
  have h97 := fieldB_hi hx.f
  have hne := hx.n.e
  have hw : IntKind.i64.wrap (p - 1) = p - 1 := IntWalk.i64_in _ (by omega)
  obtain ⟨n, m⟩ := x
  dsimp only at hA hB hne ⊢
  clear hx
  have x0 := (Ex.refl w).alloc (.cells #[.slice A n.length c, .slice B m.length d] 58)
  have v0 := VB.new w 58 #[.slice A n.length c, .slice B m.length d]
  have s0 : (w.alloc (.cells #[.slice A n.length c, .slice B m.length d] 58)).heap.size = w.heap.size + 1 := by simp
  go_enter Tryz.func86, Tryz.ntmps86
  go_wp2_with fail
  generalize w.alloc (.cells #[.slice A n.length c, .slice B m.length d] 58) = W0 at *
  have x1 := (Ex.refl W0).alloc (.cells #[.slice none 0 0, .slice none 0 0] 58)
  have v1 := VB.new W0 58 #[.slice none 0 0, .slice none 0 0]
  have s1 : (W0.alloc (.cells #[.slice none 0 0, .slice none 0 0] 58)).heap.size = w.heap.size + 1 + 1 := by simp; exact s0
  rw [s0] at v1
  generalize W0.alloc (.cells #[.slice none 0 0, .slice none 0 0] 58) = W1 at *
  have v0 := v0.ex x1
  have xx := x0.trans x1
  clear x0 x1
  have q0 := v0.cell 0 (v := .slice A n.length c) rfl
  have q1 := v0.cell 1 (v := .slice B m.length d) rfl
  have hSe : ∀ W, Ex1 (w.heap.size + 1) W1 W → (Ex1 (w.heap.size + 1) W1 W ∧ W.cell? ⟨w.heap.size, 0, none⟩ = some (.slice A n.length c) ∧ W.cell? ⟨w.heap.size, 1, none⟩ = some (.slice B m.length d)) := fun W h => ⟨h, (v0.ex1 h (by omega)).cell 0 rfl, (v0.ex1 h (by omega)).cell 1 rfl⟩
  have eA := (Ex1.refl (w.heap.size + 1) W1).drew
  go_region_held3 (fun W => Ex1 (w.heap.size + 1) W1 W ∧ W.cell? ⟨w.heap.size, 0, none⟩ = some (.slice A n.length c) ∧ W.cell? ⟨w.heap.size, 1, none⟩ = some (.slice B m.length d)) (first
    | (exact hSe _ ((e5.setCell rfl _).setCell rfl _)) | (exact hSe _ e5) | (exact hSe _ e4) | (exact hSe _ e3) | (exact hSe _ eA) | (exact hSe _ (Ex1.refl _ _))) (first
    | (go_at_call_of 115 (Value.slice A n.length c)
       have hb := (‹Ex1 (w.heap.size + 1) W1 _ ∧ _›).1
       refine (poTimes_c p A c (p - 1) n _ (hA.ex (xx.ex1 hb (by omega))) h2 h97 hne ⟨by omega, by omega⟩).mono ?_
       rintro e w3 ⟨A3, c3, rfl, f3, x3⟩
       have e3 := hb.trans (Ex1.of_ex x3)
       have z3 := hb.size'
       have y3 := x3.size
       clear hb)
    | (go_at_call 78
       refine (l1Own_c A3 c3 (pScale p (p - 1) n) w3 f3.rd).mono ?_
       rintro e w4 ⟨g4, c4, rfl, hc4, hg4, o4, x4⟩
       have e4 := e3.trans (Ex1.of_ex x4)
       have z4 := x4.size)
    | (go_at_call_of 78 (Value.slice B m.length d)
       refine (l1Own_c B d m w4 (hB.ex (xx.ex1 e4 (by omega)))).mono ?_
       rintro e w5 ⟨g5, c5, rfl, hc5, hg5, o5, x5⟩
       have e5 := e4.trans (Ex1.of_ex x5)
       have z5 := x5.size
       have v5 : VB w5 (w.heap.size + 1) 58 #[.slice none 0 0, .slice none 0 0] := by first | exact ((v1.ex x3).ex x4).ex x5 | exact ((VB.ex (w := W1.drew) v1 x3).ex x4).ex x5
       have r0 := v5.cell 0 (v := .slice none 0 0) rfl
       have r1 := v5.cell 1 (v := .slice none 0 0) rfl
       have k0 := v5.frozen 0
       have k1 := v5.frozen 1))
  all_goals
    have hl4 := o4.lt
    have E5 : Ex1 (w.heap.size + 1) w5 ((w5.setCell ⟨w.heap.size + 1, 0, none⟩ (.slice (some ⟨g4, 0, none⟩) (pScale p (p - 1) n).length c4)).setCell ⟨w.heap.size + 1, 1, none⟩ (.slice (some ⟨g5, 0, none⟩) m.length c5)) := ((Ex1.refl _ w5).setCell (p := ⟨w.heap.size + 1, 0, none⟩) rfl _).setCell (p := ⟨w.heap.size + 1, 1, none⟩) rfl _
    have v6 : VB ((w5.setCell ⟨w.heap.size + 1, 0, none⟩ (.slice (some ⟨g4, 0, none⟩) (pScale p (p - 1) n).length c4)).setCell ⟨w.heap.size + 1, 1, none⟩ (.slice (some ⟨g5, 0, none⟩) m.length c5)) (w.heap.size + 1) 58 #[.slice (some ⟨g4, 0, none⟩) (pScale p (p - 1) n).length c4, .slice (some ⟨g5, 0, none⟩) m.length c5] := (v5.set_ 0 _).set_ 1 _
    have D0 := v6.cell 0 (v := .slice (some ⟨g4, 0, none⟩) (pScale p (p - 1) n).length c4) rfl
    have D1 := v6.cell 1 (v := .slice (some ⟨g5, 0, none⟩) m.length c5) rfl
    have yy : Ex w _ := (xx.ex1 e5 (by omega)).ex1 E5 (by omega)
    have zx := xx.size
    have F4 := (((o4.ex x5).ex1 E5 (by omega)).fr f3.rd.len (B := w.heap.size) (by omega) hc4)
    have F5 := ((o5.ex1 E5 (by omega)).fr hB.len (B := w.heap.size) (by omega) hc5)
    clear hw
    go_wp2_with fail
    refine bodyPost_ret (v := .agg #[.slice (some ⟨g4, 0, none⟩) (pScale p (p - 1) n).length c4, .slice (some ⟨g5, 0, none⟩) m.length c5]) (by simp [results, Tryz.results86, go_sem, D0, D1]) rfl ?_
    exact ⟨_, c4, _, c5, rfl, F4, F5, apart_ne (by omega), yy⟩
set_option maxHeartbeats 4000000 in
theorem rrLess_c (p : Int) (vs ws : List Fra) (x : Fra) (A B P Q : Option Addr) (c d pc qc : Nat) (w : World) (hv : RdS EF w A vs) (hw : RdS EF w B ws) (hl : vs.length = ws.length) (hP : Rd w P x.n) (hQ : Rd w Q x.d)
    (hvv : GdR p 137438953472 vs) (hww : GdR p 68719476736 ws) (hx : FV p x) (hxl : FL 68719476736 x) :
    Calls Tryz.prog 67 #[.int .i64 p, .slice A vs.length c, .slice B ws.length d, .agg #[.slice P x.n.length pc, .slice Q x.d.length qc]] w fun e w' => ∃ v, e = .returned v ∧ GE ELF 58 w' w.heap.size w'.heap.size v ((frOps p).less vs x ws) ∧ Ex w w' := by
  have Hvv := Lib.hid hvv
  have Hww := Lib.hid hww
  have HX := Lib.hid hx
  have HXL := Lib.hid hxl
  have Hl := Lib.hid hl
  have hvl := hv.1
  have x0 := (Ex.refl w).alloc (.cells #[.slice P x.n.length pc, .slice Q x.d.length qc] 58)
  have v0 := VB.new w 58 #[.slice P x.n.length pc, .slice Q x.d.length qc]
  have s0 : (w.alloc (.cells #[.slice P x.n.length pc, .slice Q x.d.length qc] 58)).heap.size = w.heap.size + 1 := by simp
  clear hvv hww hx hxl hl
  go_enter Tryz.func67, Tryz.ntmps67
  go_wp2_with fail
  generalize w.alloc (.cells #[.slice P x.n.length pc, .slice Q x.d.length qc] 58) = W0 at *
  refine (frNeg_c p x P Q pc qc W0 HX.out (hP.ex x0) (hQ.ex x0)).mono ?_
  rintro e w1 ⟨M, mc, N, nc, rfl, fM, fN, apM, x1⟩
  obtain ⟨m, hm⟩ : ∃ m, negF p x = m := ⟨_, rfl⟩
  have Hm := Lib.hid hm
  rw [hm] at fM fN ⊢
  clear hm
  have HM := Lib.hid (show FV p m by rw [← Hm.out]; exact HX.out.neg)
  have HML := Lib.hid (show FL 68719476736 m by rw [← Hm.out]; exact HXL.out.neg)
  have y1 := (Ex.refl w1).alloc (.cells #[.slice M m.n.length mc, .slice N m.d.length nc] 58)
  have d1 := VB.new w1 58 #[.slice M m.n.length mc, .slice N m.d.length nc]
  have s1 : (w1.alloc (.cells #[.slice M m.n.length mc, .slice N m.d.length nc] 58)).heap.size = w1.heap.size + 1 := by simp
  go_wp2_with fail
  generalize w1.alloc (.cells #[.slice M m.n.length mc, .slice N m.d.length nc] 58) = W1 at *
  have xW := (x0.trans x1).trans y1
  have rM := fM.rd.ex y1
  have rN := fN.rd.ex y1
  have zW := xW.size
  clear x0 x1 y1 v0 s0 fM fN apM
  go_loopw [10, 18] (fun o i wr => ∃ k : Nat, k ≤ vs.length ∧ i = .int .i64 k ∧ GE ELF 58 wr W1.heap.size wr.heap.size o (((frOps p).less vs x ws).take k) ∧ Ex W1 wr) (fun _ i _ => vs.length - (intOf i).toNat)
  case atStart => exact ⟨0, Nat.zero_le _, rfl, GE.nil _ _ _ _ _, Ex.refl _⟩
  case round =>
    rename World => wi
    obtain ⟨k, hk, rfl, hge, he⟩ := hrel
    by_cases hlt : k < vs.length
    · have hlt2 : k < ws.length := by have := Hl.out; omega
      obtain ⟨g, off, y, P2, pc2, Q2, qc2, rfl, hy, c0, c1, hP2, hQ2⟩ := (hv.ex (xW.trans he)).frac hlt
      obtain ⟨g', off', u, P3, pc3, Q3, qc3, rfl, hu, bW0, bW1, hP3W, hQ3W⟩ := (hw.ex xW).frac hlt2
      have b0 := cell_ex he bW0
      have b1 := cell_ex he bW1
      have hP3 := hP3W.ex he
      have hQ3 := hQ3W.ex he
      clear hP3W hQ3W
      have HY := Lib.hid (Hvv.out y (List.mem_of_getElem? hy))
      have HU := Lib.hid (Hww.out u (List.mem_of_getElem? hu))
      have HT := Lib.hid (show ((frOps p).less vs x ws).take (k + 1) = ((frOps p).less vs x ws).take k ++ [addF p y (mulF p m u)] by
        rw [List.take_add_one]
        congr 1
        unfold Ops.less
        rw [List.getElem?_zipWith, hy, hu, ← Hm.out]
        rfl)
      clear hy hu
      have htl : (((frOps p).less vs x ws).take k).length ≤ k := List.length_take_le _ _
      have cMul : ∀ W, Ex wi W → Calls Tryz.prog 98 #[.int .i64 p, .agg #[.slice M m.n.length mc, .slice N m.d.length nc], .agg #[.slice P3 u.n.length pc3, .slice Q3 u.d.length qc3]] W fun e w' => FFx W (mulF p m u) e w' := fun W hW =>
        frMul_b p M N mc nc m.n m.d P3 Q3 pc3 qc3 u.n u.d W (rM.ex (he.trans hW)) (rN.ex (he.trans hW)) (hP3.ex hW) (hQ3.ex hW) (HM.out.okb (by have := HML.out.1; omega) (by have := HML.out.2; omega)) (HU.out.1.okb (by have := HU.out.2.1; omega) (by have := HU.out.2.2; omega))
      have HZ := Lib.hid (show FV p (mulF p m u) ∧ FL 137438953472 (mulF p m u) from ⟨HM.out.mul HU.out.1, (FL.mul HM.out HU.out.1 HML.out HU.out.2).mono (by omega)⟩)
      obtain ⟨z, hz⟩ : ∃ z, mulF p m u = z := ⟨_, rfl⟩
      rw [hz] at cMul HT HZ
      clear hz
      have cAdd : ∀ (A5 B5 : Option Addr) (c5 d5 : Nat) (W : World), Ex wi W → Rd W A5 z.n → Rd W B5 z.d → Calls Tryz.prog 97 #[.int .i64 p, .agg #[.slice P2 y.n.length pc2, .slice Q2 y.d.length qc2], .agg #[.slice A5 z.n.length c5, .slice B5 z.d.length d5]] W fun e w' => FFx W (addF p y z) e w' := fun A5 B5 c5 d5 W hW r1 r2 =>
        frAdd_b p P2 Q2 pc2 qc2 y.n y.d A5 B5 c5 d5 z.n z.d W (hP2.ex hW) (hQ2.ex hW) r1 r2 (HY.out.1.okb (by have := HY.out.2.1; omega) (by have := HY.out.2.2; omega)) (HZ.out.1.okb (by have := HZ.out.2.1; omega) (by have := HZ.out.2.2; omega))
      have y1 := (Ex.refl wi).alloc (.cells #[.slice P2 y.n.length pc2, .slice Q2 y.d.length qc2] 58)
      have dy := VB.new wi 58 #[.slice P2 y.n.length pc2, .slice Q2 y.d.length qc2]
      have d1w := d1.ex he
      go_wp2_with fail
      generalize wi.alloc (.cells #[.slice P2 y.n.length pc2, .slice Q2 y.d.length qc2] 58) = W3 at *
      have hzi := he.size
      have zy1 := y1.size
      have hd1 := d1.lt
      have q0 := dy.cell 0 (v := .slice P2 y.n.length pc2) rfl
      have q1 := dy.cell 1 (v := .slice Q2 y.d.length qc2) rfl
      have q2 := (d1w.ex y1).cell 0 (v := .slice M m.n.length mc) rfl
      have q3 := (d1w.ex y1).cell 1 (v := .slice N m.d.length nc) rfl
      have q4 := cell_ex y1 b0
      have q5 := cell_ex y1 b1
      have hS : ∀ W, Ex W3 W → (W.cell? ⟨wi.heap.size, 0, none⟩ = some (.slice P2 y.n.length pc2) ∧ W.cell? ⟨wi.heap.size, 1, none⟩ = some (.slice Q2 y.d.length qc2) ∧ W.cell? ⟨w1.heap.size, 0, none⟩ = some (.slice M m.n.length mc) ∧ W.cell? ⟨w1.heap.size, 1, none⟩ = some (.slice N m.d.length nc) ∧ W.cell? ⟨g', off' + k * 2, none⟩ = some (.slice P3 u.n.length pc3) ∧ W.cell? ⟨g', off' + k * 2 + 1, none⟩ = some (.slice Q3 u.d.length qc3)) := fun W h => ⟨cell_ex h q0, cell_ex h q1, cell_ex h q2, cell_ex h q3, cell_ex h q4, cell_ex h q5⟩
      go_region_held3 (fun W => W.cell? ⟨wi.heap.size, 0, none⟩ = some (.slice P2 y.n.length pc2) ∧ W.cell? ⟨wi.heap.size, 1, none⟩ = some (.slice Q2 y.d.length qc2) ∧ W.cell? ⟨w1.heap.size, 0, none⟩ = some (.slice M m.n.length mc) ∧ W.cell? ⟨w1.heap.size, 1, none⟩ = some (.slice N m.d.length nc) ∧ W.cell? ⟨g', off' + k * 2, none⟩ = some (.slice P3 u.n.length pc3) ∧ W.cell? ⟨g', off' + k * 2 + 1, none⟩ = some (.slice Q3 u.d.length qc3)) (first
        | (exact hS _ (Ex.refl _)) | (exact hS _ (Ex.refl _).drew) | (exact hS _ e4) | (exact hS _ E5) | (exact hS _ (E5.alloc _)) | (exact hK6)) (first
        | (go_at_call 98
           refine (cMul W3.drew y1.drew).mono ?_
           rintro e w4 ⟨A4, c4, B4, d4, rfl, f4, g4, ap4, x4⟩
           have e4 : Ex W3 w4 := (Ex.refl W3).drew.trans x4)
        | (go_at_call 97
           refine (cAdd A4 B4 c4 d4 w4 (y1.trans e4) f4.rd g4.rd).mono ?_
           rintro e w5 ⟨A5, c5, B5, d5, rfl, f5, g5, ap5, x5⟩
           have E5 : Ex W3 w5 := e4.trans x5
           have z5 := x5.size
           have z4 := e4.size
           obtain ⟨v6, w6, hrun, hge6, hO6, hnn6, hE6⟩ := push_frac (hge.ex (y1.trans E5)) (by omega) (ofra_of_fr (x := addF p y z) f5 g5 ap5 z5) (by omega) z5 (Nat.le_refl _) hzi (by omega)
           have hK6 : w6.cell? ⟨wi.heap.size, 0, none⟩ = some (.slice P2 y.n.length pc2) ∧ w6.cell? ⟨wi.heap.size, 1, none⟩ = some (.slice Q2 y.d.length qc2) ∧ w6.cell? ⟨w1.heap.size, 0, none⟩ = some (.slice M m.n.length mc) ∧ w6.cell? ⟨w1.heap.size, 1, none⟩ = some (.slice N m.d.length nc) ∧ w6.cell? ⟨g', off' + k * 2, none⟩ = some (.slice P3 u.n.length pc3) ∧ w6.cell? ⟨g', off' + k * 2 + 1, none⟩ = some (.slice Q3 u.d.length qc3) := by
             have dy6 : VB w6 wi.heap.size 58 #[.slice P2 y.n.length pc2, .slice Q2 y.d.length qc2] := (hO6.block wi.heap.size (dy.ex E5).lt (fun e => by have := hge.own _ e.symm; omega)).trans (dy.ex E5)
             have x6 := hE6 W1 (he.trans (y1.trans E5)) (Nat.le_refl _)
             have d6 := d1.ex x6
             have hw6 := (hw.ex xW)
             exact ⟨dy6.cell 0 rfl, dy6.cell 1 rfl, d6.cell 0 rfl, d6.cell 1 rfl, cell_ex x6 bW0, cell_ex x6 bW1⟩)
        | (refine step_append_run rfl _ _ _ rfl rfl rfl hrun ?_))
      all_goals
        have x6 := hE6 W1 (he.trans (y1.trans E5)) (Nat.le_refl _)
        rw [← HT.out] at hge6
        clear q0 q1 q2 q3 q4 q5 hS hK6 hE6 hO6 hrun hge HT htl cMul cAdd
        go_wp2_with fail
        go_roundw
        case rel => exact ⟨k + 1, by omega, by go_num, hge6, x6⟩
        case measure => simp [intOf]; omega
    · obtain rfl : k = vs.length := by omega
      have hfull : ((frOps p).less vs x ws).length = vs.length := less_len (frOps p) rfl Hl.out.symm x
      rw [List.take_of_length_le (by omega)] at hge
      go_wp2_with fail
      go_ret
      exact ⟨_, rfl, hge.more zW (Nat.le_refl _), xW.trans he⟩
end Go.Proofs.YtpeogfapnofeoaaGreatDoor
