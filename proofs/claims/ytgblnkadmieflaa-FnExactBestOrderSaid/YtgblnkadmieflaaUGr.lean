/- The words and the laws' helpers on Graph: it reads, it is owned in an interval of blocks; copied, compared, marked, held. Printed by a program of mine. -/
import Derived.Test.YtgblnkadmieflaaU
import Derived.Test.YtgblnkadmieflaaUE
namespace Go.Proofs.Ytgblnkadmieflaa
set_option maxRecDepth 100000
open Go Go.RowKit
structure Gr where
  wires : Int
  es : List Ed
  ins : List Int
  outs : List Int
def RGr (w : World) (v0 v1 v2 : Value) (x : Gr) : Prop := RE w v0 x.es ∧ RI w v1 x.ins ∧ RI w v2 x.outs
def totGr (x : Gr) : Int := totE x.es + totI x.ins + totI x.outs
def mkGr (k : Int) (x : Gr) : Gr := ⟨x.wires, mkE (k) x.es, mkI (k + totE x.es) x.ins, mkI (k + totE x.es + totI x.ins) x.outs⟩
theorem totGr_nn (x : Gr) : 0 ≤ totGr x := by
  unfold totGr
  have h0 := totE_nn x.es
  have h1 := totI_nn x.ins
  have h2 := totI_nn x.outs
  omega
theorem RGr.ex {w w' : World} {v0 v1 v2 : Value} {x : Gr} (h : RGr w v0 v1 v2 x) (he : Ex w w') : RGr w' v0 v1 v2 x := by
  obtain ⟨h0, h1, h2⟩ := h
  exact ⟨h0.ex he, h1.ex he, h2.ex he⟩
theorem RGr.tot {w : World} {v0 v1 v2 : Value} {x : Gr} (h : RGr w v0 v1 v2 x) : totGr x ≤ 3377699720527872 := by
  obtain ⟨h0, h1, h2⟩ := h
  have t0 := h0.tot
  have t1 := h1.tot
  have t2 := h2.tot
  unfold totGr
  omega
theorem RGr.form {w : World} {v0 v1 v2 : Value} {x : Gr} (h : RGr w v0 v1 v2 x) : ∃ A0 n0 c0 A1 n1 c1 A2 n2 c2, v0 = .slice A0 n0 c0 ∧ v1 = .slice A1 n1 c1 ∧ v2 = .slice A2 n2 c2 := by
  obtain ⟨h0, h1, h2⟩ := h
  obtain ⟨A0, n0, c0, e0⟩ := h0.form
  obtain ⟨A1, n1, c1, e1⟩ := h1.form
  obtain ⟨A2, n2, c2, e2⟩ := h2.form
  exact ⟨A0, n0, c0, A1, n1, c1, A2, n2, c2, e0, e1, e2⟩
def OGr (w : World) (lo hi : Nat) (v0 v1 v2 : Value) (x : Gr) : Prop := ∃ (a0 b0 a1 b1 a2 b2 : Nat), OE w a0 b0 v0 x.es ∧ OI w a1 b1 v1 x.ins ∧ OI w a2 b2 v2 x.outs ∧ lo ≤ a0 ∧ b0 ≤ hi ∧ lo ≤ a1 ∧ b1 ≤ hi ∧ lo ≤ a2 ∧ b2 ≤ hi ∧ (b0 ≤ a1 ∨ b1 ≤ a0) ∧ (b0 ≤ a2 ∨ b2 ≤ a0) ∧ (b1 ≤ a2 ∨ b2 ≤ a1)
theorem OGr.rd {w : World} {lo hi : Nat} {v0 v1 v2 : Value} {x : Gr} (h : OGr w lo hi v0 v1 v2 x) : RGr w v0 v1 v2 x := by
  obtain ⟨a0, b0, a1, b1, a2, b2, m0, m1, m2, c0, c1, c2, c3, c4, c5, c6, c7, c8⟩ := h
  exact ⟨m0.rd, m1.rd, m2.rd⟩
theorem OGr.ex {w w' : World} {lo hi : Nat} {v0 v1 v2 : Value} {x : Gr} (h : OGr w lo hi v0 v1 v2 x) (he : Ex w w') : OGr w' lo hi v0 v1 v2 x := by
  obtain ⟨a0, b0, a1, b1, a2, b2, m0, m1, m2, c0, c1, c2, c3, c4, c5, c6, c7, c8⟩ := h
  exact ⟨a0, b0, a1, b1, a2, b2, m0.ex he, m1.ex he, m2.ex he, c0, c1, c2, c3, c4, c5, c6, c7, c8⟩
theorem OGr.iv {w w' : World} {lo hi : Nat} {v0 v1 v2 : Value} {x : Gr} (h : OGr w lo hi v0 v1 v2 x) {a b : Nat} (q : ExI a b w w') (hd : hi ≤ a ∨ b ≤ lo) : OGr w' lo hi v0 v1 v2 x := by
  obtain ⟨a0, b0, a1, b1, a2, b2, m0, m1, m2, c0, c1, c2, c3, c4, c5, c6, c7, c8⟩ := h
  exact ⟨a0, b0, a1, b1, a2, b2, m0.iv q (by omega), m1.iv q (by omega), m2.iv q (by omega), c0, c1, c2, c3, c4, c5, c6, c7, c8⟩
theorem OGr.e1 {w w' : World} {lo hi : Nat} {v0 v1 v2 : Value} {x : Gr} (h : OGr w lo hi v0 v1 v2 x) {g : Nat} (q : Ex1 g w w') (hd : g < lo ∨ hi ≤ g) : OGr w' lo hi v0 v1 v2 x := by
  obtain ⟨a0, b0, a1, b1, a2, b2, m0, m1, m2, c0, c1, c2, c3, c4, c5, c6, c7, c8⟩ := h
  exact ⟨a0, b0, a1, b1, a2, b2, m0.e1 q (by omega), m1.e1 q (by omega), m2.e1 q (by omega), c0, c1, c2, c3, c4, c5, c6, c7, c8⟩
theorem OGr.more {w : World} {lo hi lo' hi' : Nat} {v0 v1 v2 : Value} {x : Gr} (h : OGr w lo hi v0 v1 v2 x) (h1 : lo' ≤ lo) (h2 : hi ≤ hi') : OGr w lo' hi' v0 v1 v2 x := by
  obtain ⟨a0, b0, a1, b1, a2, b2, m0, m1, m2, c0, c1, c2, c3, c4, c5, c6, c7, c8⟩ := h
  exact ⟨a0, b0, a1, b1, a2, b2, m0, m1, m2, by omega, by omega, by omega, by omega, by omega, by omega, by omega, by omega, by omega⟩
set_option maxHeartbeats 4000000 in
set_option maxRecDepth 100000 in
theorem szGraph_q (c0 v0 v1 v2 : Value) (z0 z1 z2 : Int) (w : World) (q0 : QS 17 w v0 z0) (n0 : 0 ≤ z0) (q1 : QS 18 w v1 z1) (n1 : 0 ≤ z1) (q2 : QS 18 w v2 z2) (n2 : 0 ≤ z2) : QS 5 w (.agg #[c0, v0, v1, v2]) (z0 + z1 + z2) := by
  intro u l hx h0 hl
  have x0 := (Ex.refl u).alloc (.cells #[c0, v0, v1, v2] 25)
  have d0 := VB.new u 25 #[c0, v0, v1, v2]
  go_enter Try.func5, Try.ntmps5
  go_wp2_with fail
  generalize u.alloc (.cells #[c0, v0, v1, v2] 25) = W0 at *
  have hs := q0 W0 (l) (hx.trans x0) (by omega) (by omega)
  by_cases g0 : l < z0
  · rw [if_pos g0] at hs
    refine hs.mono ?_
    clear hs
    rintro e W1 ⟨rfl, x1⟩
    go_wp2
    go_ret
    exact ⟨by first | rfl | (rw [if_pos (by omega)]; rfl), x0.trans x1⟩
  rw [if_neg g0] at hs
  refine hs.mono ?_
  clear hs
  rintro e W1 ⟨rfl, x1⟩
  replace x0 := x0.trans x1
  replace d0 := d0.ex x1
  clear x1
  have y := d0.cell 2 (v := v1) rfl
  go_wp2_with fail
  clear y
  have hs := q1 W1 (l - z0) (hx.trans x0) (by omega) (by omega)
  by_cases g1 : l - z0 < z1
  · rw [if_pos g1] at hs
    refine hs.mono ?_
    clear hs
    rintro e W2 ⟨rfl, x1⟩
    go_wp2
    go_ret
    exact ⟨by first | rfl | (rw [if_pos (by omega)]; rfl), x0.trans x1⟩
  rw [if_neg g1] at hs
  refine hs.mono ?_
  clear hs
  rintro e W2 ⟨rfl, x1⟩
  replace x0 := x0.trans x1
  replace d0 := d0.ex x1
  clear x1
  have y := d0.cell 3 (v := v2) rfl
  go_wp2_with fail
  clear y
  have hs := q2 W2 (l - z0 - z1) (hx.trans x0) (by omega) (by omega)
  by_cases g2 : l - z0 - z1 < z2
  · rw [if_pos g2] at hs
    refine hs.mono ?_
    clear hs
    rintro e W3 ⟨rfl, x1⟩
    go_wp2
    go_ret
    exact ⟨by first | rfl | (rw [if_pos (by omega)]; rfl), x0.trans x1⟩
  rw [if_neg g2] at hs
  refine hs.mono ?_
  clear hs
  rintro e W3 ⟨rfl, x1⟩
  replace x0 := x0.trans x1
  replace d0 := d0.ex x1
  clear x1
  have HE := Lib.hid (show (if l < z0 + z1 + z2 then (-1 : Int) else l - (z0 + z1 + z2)) = l - z0 - z1 - z2 by rw [if_neg (by omega)]; omega)
  have HF := Lib.hid (show l - (z0 + z1 + z2) = l - z0 - z1 - z2 by omega)
  go_wp2
  go_ret
  exact ⟨by first | (rw [HE.out]; rfl) | (rw [HF.out]; rfl) | rfl, x0⟩
set_option maxHeartbeats 4000000 in
set_option maxRecDepth 100000 in
theorem toGraph_u (x : Gr) (v0 v1 v2 : Value) (w : World) (h : RGr w v0 v1 v2 x) :
    Calls Try.prog 7 #[.agg #[.int .i64 x.wires, v0, v1, v2]] w fun e w' => ∃ y0 y1 y2, e = .returned (.agg #[.int .i64 x.wires, y0, y1, y2]) ∧ OGr w' w.heap.size w'.heap.size y0 y1 y2 x ∧ Ex w w' := by
  obtain ⟨wires, x0, x1, x2⟩ := x
  obtain ⟨h0, h1, h2⟩ := h
  dsimp only at h0 h1 h2 ⊢
  have y0 := (Ex.refl w).alloc (.cells #[.int .i64 wires, v0, v1, v2] 25)
  have d0 := VB.new w 25 #[.int .i64 wires, v0, v1, v2]
  have S0 := Lib.hid (show (w.alloc (.cells #[.int .i64 wires, v0, v1, v2] 25)).heap.size = w.heap.size + 1 by simp)
  go_enter Try.func7, Try.ntmps7
  go_wp2_with fail
  generalize w.alloc (.cells #[.int .i64 wires, v0, v1, v2] 25) = W0 at *
  have y1 := (Ex.refl W0).alloc (.cells #[.int .i64 0, .slice none 0 0, .slice none 0 0, .slice none 0 0] 31)
  have d1 := VB.new W0 31 #[.int .i64 0, .slice none 0 0, .slice none 0 0, .slice none 0 0]
  rw [S0.out] at d1
  have S1 := Lib.hid (show (W0.alloc (.cells #[.int .i64 0, .slice none 0 0, .slice none 0 0, .slice none 0 0] 31)).heap.size = w.heap.size + 1 + 1 by simp; exact S0.out)
  generalize W0.alloc (.cells #[.int .i64 0, .slice none 0 0, .slice none 0 0, .slice none 0 0] 31) = W1 at *
  have y2 := (Ex.refl W1).alloc (.cells #[.int .i64 wires, .slice none 0 0, .slice none 0 0, .slice none 0 0] 31)
  have d2 := VB.new W1 31 #[.int .i64 wires, .slice none 0 0, .slice none 0 0, .slice none 0 0]
  rw [S1.out] at d2
  have S2 := Lib.hid (show (W1.alloc (.cells #[.int .i64 wires, .slice none 0 0, .slice none 0 0, .slice none 0 0] 31)).heap.size = w.heap.size + 1 + 1 + 1 by simp; exact S1.out)
  generalize W1.alloc (.cells #[.int .i64 wires, .slice none 0 0, .slice none 0 0, .slice none 0 0] 31) = W2 at *
  have xx := (y0.trans y1).trans y2
  have dA := (d0.ex y1).ex y2
  have dB := d1.ex y2
  have dC := d2
  have sz : w.heap.size + 1 + 1 + 1 ≤ W2.heap.size := Nat.le_of_eq S2.out.symm
  clear d0 d1 d2 y0 y1 y2 S0 S1 S2
  refine (toEdgeS_u x0 v0 W2 (h0.ex xx)).mono ?_
  rintro e u0 ⟨y0, rfl, m0, z0⟩
  obtain ⟨Y0, N0, C0, rfl⟩ := m0.rd.form
  have tz0 := z0.size
  replace dA := dA.ex z0
  replace dB := dB.ex z0
  replace dC := dC.ex z0
  replace xx := xx.trans z0
  have sz0 := sz
  replace sz := Nat.le_trans sz z0.size
  have q0 := dA.cell 2 (v := v1) rfl
  have q1 := dC.cell 1 (v := .slice none 0 0) rfl
  have q2 := dC.frozen 1
  go_wp2_with fail
  clear q0 q1 q2
  have p1 : Ex1 (w.heap.size + 1 + 1) u0 (u0.setCell ⟨w.heap.size + 1 + 1, 1, none⟩ (.slice Y0 N0 C0)) := (Ex1.refl _ _).setCell rfl _
  replace dC : VB (u0.setCell ⟨w.heap.size + 1 + 1, 1, none⟩ (.slice Y0 N0 C0)) (w.heap.size + 1 + 1) 31 #[.int .i64 wires, .slice Y0 N0 C0, .slice none 0 0, .slice none 0 0] := dC.set_ 1 _
  replace dA := dA.ex1 p1 (by omega)
  replace dB := dB.ex1 p1 (by omega)
  replace m0 := m0.e1 p1 (by omega)
  replace sz := Nat.le_trans sz p1.size
  have tp0 := p1.size
  replace xx := xx.ex1 p1 (by omega)
  clear p1 z0
  generalize (u0.setCell ⟨w.heap.size + 1 + 1, 1, none⟩ (.slice Y0 N0 C0)) = V0 at *
  refine (toIntS_u x1 v1 V0 (h1.ex xx)).mono ?_
  rintro e u1 ⟨y1, rfl, m1, z1⟩
  obtain ⟨Y1, N1, C1, rfl⟩ := m1.rd.form
  have tz1 := z1.size
  replace m0 := m0.ex z1
  replace dA := dA.ex z1
  replace dB := dB.ex z1
  replace dC := dC.ex z1
  replace xx := xx.trans z1
  have sz1 := sz
  replace sz := Nat.le_trans sz z1.size
  have q0 := dA.cell 3 (v := v2) rfl
  have q1 := dC.cell 2 (v := .slice none 0 0) rfl
  have q2 := dC.frozen 2
  go_wp2_with fail
  clear q0 q1 q2
  have p1 : Ex1 (w.heap.size + 1 + 1) u1 (u1.setCell ⟨w.heap.size + 1 + 1, 2, none⟩ (.slice Y1 N1 C1)) := (Ex1.refl _ _).setCell rfl _
  replace dC : VB (u1.setCell ⟨w.heap.size + 1 + 1, 2, none⟩ (.slice Y1 N1 C1)) (w.heap.size + 1 + 1) 31 #[.int .i64 wires, .slice Y0 N0 C0, .slice Y1 N1 C1, .slice none 0 0] := dC.set_ 2 _
  replace dA := dA.ex1 p1 (by omega)
  replace dB := dB.ex1 p1 (by omega)
  replace m0 := m0.e1 p1 (by omega)
  replace m1 := m1.e1 p1 (by omega)
  replace sz := Nat.le_trans sz p1.size
  have tp1 := p1.size
  replace xx := xx.ex1 p1 (by omega)
  clear p1 z1
  generalize (u1.setCell ⟨w.heap.size + 1 + 1, 2, none⟩ (.slice Y1 N1 C1)) = V1 at *
  refine (toIntS_u x2 v2 V1 (h2.ex xx)).mono ?_
  rintro e u2 ⟨y2, rfl, m2, z2⟩
  obtain ⟨Y2, N2, C2, rfl⟩ := m2.rd.form
  have tz2 := z2.size
  replace m0 := m0.ex z2
  replace m1 := m1.ex z2
  replace dA := dA.ex z2
  replace dB := dB.ex z2
  replace dC := dC.ex z2
  replace xx := xx.trans z2
  have sz2 := sz
  replace sz := Nat.le_trans sz z2.size
  have q1 := dC.cell 3 (v := .slice none 0 0) rfl
  have q2 := dC.frozen 3
  have r0 := dC.cell 0 (v := .int .i64 wires) rfl
  have r1 := dC.cell 1 (v := .slice Y0 N0 C0) rfl
  have r2 := dC.cell 2 (v := .slice Y1 N1 C1) rfl
  have t0 := dB.cell 0 (v := .int .i64 0) rfl
  have s0 := dB.frozen 0
  have t1 := dB.cell 1 (v := .slice none 0 0) rfl
  have s1 := dB.frozen 1
  have t2 := dB.cell 2 (v := .slice none 0 0) rfl
  have s2 := dB.frozen 2
  have t3 := dB.cell 3 (v := .slice none 0 0) rfl
  have s3 := dB.frozen 3
  go_wp2_with fail
  clear q1 q2 r0 r1 r2 t0 s0 t1 s1 t2 s2 t3 s3
  have p1 : Ex1 (w.heap.size + 1 + 1) u2 (u2.setCell ⟨w.heap.size + 1 + 1, 3, none⟩ (.slice Y2 N2 C2)) := (Ex1.refl _ _).setCell rfl _
  replace dC : VB (u2.setCell ⟨w.heap.size + 1 + 1, 3, none⟩ (.slice Y2 N2 C2)) (w.heap.size + 1 + 1) 31 #[.int .i64 wires, .slice Y0 N0 C0, .slice Y1 N1 C1, .slice Y2 N2 C2] := dC.set_ 3 _
  replace dA := dA.ex1 p1 (by omega)
  replace dB := dB.ex1 p1 (by omega)
  replace m0 := m0.e1 p1 (by omega)
  replace m1 := m1.e1 p1 (by omega)
  replace m2 := m2.e1 p1 (by omega)
  replace sz := Nat.le_trans sz p1.size
  have tp2 := p1.size
  replace xx := xx.ex1 p1 (by omega)
  clear p1 z2
  generalize (u2.setCell ⟨w.heap.size + 1 + 1, 3, none⟩ (.slice Y2 N2 C2)) = V2 at *
  have p1 : Ex1 (w.heap.size + 1) V2 ((((V2.setCell ⟨w.heap.size + 1, 0, none⟩ (.int .i64 wires)).setCell ⟨w.heap.size + 1, 1, none⟩ (.slice Y0 N0 C0)).setCell ⟨w.heap.size + 1, 2, none⟩ (.slice Y1 N1 C1)).setCell ⟨w.heap.size + 1, 3, none⟩ (.slice Y2 N2 C2)) := ((((Ex1.refl (w.heap.size + 1) V2).setCell (p := ⟨w.heap.size + 1, 0, none⟩) rfl _).setCell (p := ⟨w.heap.size + 1, 1, none⟩) rfl _).setCell (p := ⟨w.heap.size + 1, 2, none⟩) rfl _).setCell (p := ⟨w.heap.size + 1, 3, none⟩) rfl _
  replace dB : VB ((((V2.setCell ⟨w.heap.size + 1, 0, none⟩ (.int .i64 wires)).setCell ⟨w.heap.size + 1, 1, none⟩ (.slice Y0 N0 C0)).setCell ⟨w.heap.size + 1, 2, none⟩ (.slice Y1 N1 C1)).setCell ⟨w.heap.size + 1, 3, none⟩ (.slice Y2 N2 C2)) (w.heap.size + 1) 31 #[.int .i64 wires, .slice Y0 N0 C0, .slice Y1 N1 C1, .slice Y2 N2 C2] := ((((dB.set_ 0 _).set_ 1 _).set_ 2 _).set_ 3 _)
  replace m0 := m0.e1 p1 (by omega)
  replace m1 := m1.e1 p1 (by omega)
  replace m2 := m2.e1 p1 (by omega)
  replace xx := xx.ex1 p1 (by omega)
  have tq := p1.size
  clear p1
  generalize ((((V2.setCell ⟨w.heap.size + 1, 0, none⟩ (.int .i64 wires)).setCell ⟨w.heap.size + 1, 1, none⟩ (.slice Y0 N0 C0)).setCell ⟨w.heap.size + 1, 2, none⟩ (.slice Y1 N1 C1)).setCell ⟨w.heap.size + 1, 3, none⟩ (.slice Y2 N2 C2)) = VE at *
  have c0 := dB.cell 0 (v := .int .i64 wires) rfl
  have c1 := dB.cell 1 (v := .slice Y0 N0 C0) rfl
  have c2 := dB.cell 2 (v := .slice Y1 N1 C1) rfl
  have c3 := dB.cell 3 (v := .slice Y2 N2 C2) rfl
  refine bodyPost_ret (v := .agg #[.int .i64 wires, .slice Y0 N0 C0, .slice Y1 N1 C1, .slice Y2 N2 C2]) (by simp [results, Try.results7, go_sem, c0, c1, c2, c3]) rfl ?_
  exact ⟨_, _, _, rfl, ⟨W2.heap.size, u0.heap.size, V0.heap.size, u1.heap.size, V1.heap.size, u2.heap.size, m0, m1, m2, by omega, by omega, by omega, by omega, by omega, by omega, by omega, by omega, by omega⟩, xx⟩
set_option maxHeartbeats 4000000 in
set_option maxRecDepth 100000 in
theorem eqGraph_u (x : Gr) (v0 v1 v2 u0 u1 u2 : Value) (w : World) (h : RGr w v0 v1 v2 x) (h' : RGr w u0 u1 u2 x) :
    Calls Try.prog 11 #[.agg #[.int .i64 x.wires, v0, v1, v2], .agg #[.int .i64 x.wires, u0, u1, u2]] w fun e w' => e = .returned (.bool true) ∧ Ex w w' := by
  obtain ⟨wires, x0, x1, x2⟩ := x
  obtain ⟨h0, h1, h2⟩ := h
  obtain ⟨g0, g1, g2⟩ := h'
  dsimp only at h0 g0 h1 g1 h2 g2 ⊢
  have x1 := (Ex.refl w).alloc (.cells #[.int .i64 wires, v0, v1, v2] 31)
  have d1 := VB.new w 31 #[.int .i64 wires, v0, v1, v2]
  have S1 := Lib.hid (show (w.alloc (.cells #[.int .i64 wires, v0, v1, v2] 31)).heap.size = w.heap.size + 1 by simp)
  go_enter Try.func11, Try.ntmps11
  go_wp2_with fail
  generalize w.alloc (.cells #[.int .i64 wires, v0, v1, v2] 31) = W1 at *
  have y2 := (Ex.refl W1).alloc (.cells #[.int .i64 wires, u0, u1, u2] 31)
  have d2 := VB.new W1 31 #[.int .i64 wires, u0, u1, u2]
  rw [S1.out] at d2
  generalize W1.alloc (.cells #[.int .i64 wires, u0, u1, u2] 31) = V0 at *
  have xx := x1.trans y2
  have dA := d1.ex y2
  have dB := d2
  clear x1 d1 d2 y2 S1
  refine (eqEdgeS_u x0 v0 u0 V0 (h0.ex xx) (g0.ex xx)).mono ?_
  rintro e V1 ⟨rfl, z0⟩
  replace dA := dA.ex z0
  replace dB := dB.ex z0
  replace xx := xx.trans z0
  have q0 := dA.cell 2 (v := v1) rfl
  have q1 := dB.cell 2 (v := u1) rfl
  go_wp2_with fail
  clear q0 q1
  refine (eqIntS_u x1 v1 u1 V1 (h1.ex xx) (g1.ex xx)).mono ?_
  rintro e V2 ⟨rfl, z1⟩
  replace dA := dA.ex z1
  replace dB := dB.ex z1
  replace xx := xx.trans z1
  have q0 := dA.cell 3 (v := v2) rfl
  have q1 := dB.cell 3 (v := u2) rfl
  go_wp2_with fail
  clear q0 q1
  refine (eqIntS_u x2 v2 u2 V2 (h2.ex xx) (g2.ex xx)).mono ?_
  rintro e V3 ⟨rfl, z2⟩
  replace dA := dA.ex z2
  replace dB := dB.ex z2
  replace xx := xx.trans z2
  go_wp2
  go_ret
  exact ⟨rfl, xx⟩
set_option maxHeartbeats 4000000 in
set_option maxRecDepth 100000 in
theorem markGraph_u (lo hi : Nat) (x : Gr) (v0 v1 v2 : Value) (k : Int) (w : World) (h : OGr w lo hi v0 v1 v2 x) (hb : hi ≤ w.heap.size) (hk0 : 0 ≤ k) (hk : k + totGr x ≤ 4611686018427387904) :
    Calls Try.prog 12 #[.agg #[.int .i64 x.wires, v0, v1, v2], .int .i64 k] w fun e w' => e = .returned (.int .i64 (k + totGr x)) ∧ OGr w' lo hi v0 v1 v2 (mkGr k x) ∧ ExI lo hi w w' := by
  obtain ⟨wires, x0, x1, x2⟩ := x
  obtain ⟨a0, b0, a1, b1, a2, b2, m0, m1, m2, c0, c1, c2, c3, c4, c5, c6, c7, c8⟩ := h
  dsimp only at m0 m1 m2 ⊢
  have t0 := totE_nn x0
  have t1 := totI_nn x1
  have t2 := totI_nn x2
  have ek : k + totGr ⟨wires, x0, x1, x2⟩ = k + totE x0 + totI x1 + totI x2 := by simp only [totGr]; omega
  rw [ek] at hk ⊢
  clear ek
  have xe := (Ex.refl w).alloc (.cells #[.int .i64 wires, v0, v1, v2] 31)
  have d0 := VB.new w 31 #[.int .i64 wires, v0, v1, v2]
  have dl := d0.lt
  go_enter Try.func12, Try.ntmps12
  go_wp2_with fail
  generalize w.alloc (.cells #[.int .i64 wires, v0, v1, v2] 31) = W0 at *
  replace m0 := m0.ex xe
  replace m1 := m1.ex xe
  replace m2 := m2.ex xe
  have zz := xe.size
  have ee := ExI.of_ex (a := lo) (b := hi) xe
  clear xe
  refine (markEdgeS_u a0 b0 x0 v0 (k) W0 m0 (by omega) (by omega) (by omega)).mono ?_
  clear m0
  rintro e u0 ⟨rfl, m0, z0⟩
  replace m1 := m1.iv z0 (by omega)
  replace m2 := m2.iv z0 (by omega)
  replace d0 := d0.iv z0 (by omega)
  replace ee := ee.trans (z0.widen (by omega) (by omega))
  replace zz := Nat.le_trans zz z0.size
  clear z0
  have q := d0.cell 2 (v := v1) rfl
  go_wp2_with fail
  clear q
  refine (markIntS_u a1 b1 x1 v1 (k + totE x0) u0 m1 (by omega) (by omega) (by omega)).mono ?_
  clear m1
  rintro e u1 ⟨rfl, m1, z1⟩
  replace m0 := m0.iv z1 (by omega)
  replace m2 := m2.iv z1 (by omega)
  replace d0 := d0.iv z1 (by omega)
  replace ee := ee.trans (z1.widen (by omega) (by omega))
  replace zz := Nat.le_trans zz z1.size
  clear z1
  have q := d0.cell 3 (v := v2) rfl
  go_wp2_with fail
  clear q
  refine (markIntS_u a2 b2 x2 v2 (k + totE x0 + totI x1) u1 m2 (by omega) (by omega) (by omega)).mono ?_
  clear m2
  rintro e u2 ⟨rfl, m2, z2⟩
  replace m0 := m0.iv z2 (by omega)
  replace m1 := m1.iv z2 (by omega)
  replace d0 := d0.iv z2 (by omega)
  replace ee := ee.trans (z2.widen (by omega) (by omega))
  replace zz := Nat.le_trans zz z2.size
  clear z2
  go_wp2
  go_ret
  exact ⟨rfl, ⟨a0, b0, a1, b1, a2, b2, m0, m1, m2, c0, c1, c2, c3, c4, c5, c6, c7, c8⟩, ee⟩
end Go.Proofs.Ytgblnkadmieflaa
