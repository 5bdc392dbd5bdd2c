/- The words and the laws' helpers on Fraction: it reads, it is owned in an interval of blocks; copied, compared, marked, held. Printed by a program of mine. -/
import Derived.Test.YtpeogfapnofeoaaGreatDoorU
namespace Go.Proofs.YtpeogfapnofeoaaGreatDoor
set_option maxRecDepth 100000
open Go Go.RowKit
structure Fra where
  n : List Int
  d : List Int
def RFra (w : World) (v0 v1 : Value) (x : Fra) : Prop := RI w v0 x.n ∧ RI w v1 x.d
def totFra (x : Fra) : Int := totI x.n + totI x.d
def mkFra (k : Int) (x : Fra) : Fra := ⟨mkI (k) x.n, mkI (k + totI x.n) x.d⟩
theorem totFra_nn (x : Fra) : 0 ≤ totFra x := by
  unfold totFra
  have h0 := totI_nn x.n
  have h1 := totI_nn x.d
  omega
theorem RFra.ex {w w' : World} {v0 v1 : Value} {x : Fra} (h : RFra w v0 v1 x) (he : Ex w w') : RFra w' v0 v1 x := by
  obtain ⟨h0, h1⟩ := h
  exact ⟨h0.ex he, h1.ex he⟩
theorem RFra.tot {w : World} {v0 v1 : Value} {x : Fra} (h : RFra w v0 v1 x) : totFra x ≤ 2251799813685248 := by
  obtain ⟨h0, h1⟩ := h
  have t0 := h0.tot
  have t1 := h1.tot
  unfold totFra
  omega
theorem RFra.form {w : World} {v0 v1 : Value} {x : Fra} (h : RFra w v0 v1 x) : ∃ A0 n0 c0 A1 n1 c1, v0 = .slice A0 n0 c0 ∧ v1 = .slice A1 n1 c1 := by
  obtain ⟨h0, h1⟩ := h
  obtain ⟨A0, n0, c0, e0⟩ := h0.form
  obtain ⟨A1, n1, c1, e1⟩ := h1.form
  exact ⟨A0, n0, c0, A1, n1, c1, e0, e1⟩
def OFra (w : World) (lo hi : Nat) (v0 v1 : Value) (x : Fra) : Prop := ∃ (a0 b0 a1 b1 : Nat), OI w a0 b0 v0 x.n ∧ OI w a1 b1 v1 x.d ∧ lo ≤ a0 ∧ b0 ≤ hi ∧ lo ≤ a1 ∧ b1 ≤ hi ∧ (b0 ≤ a1 ∨ b1 ≤ a0)
theorem OFra.rd {w : World} {lo hi : Nat} {v0 v1 : Value} {x : Fra} (h : OFra w lo hi v0 v1 x) : RFra w v0 v1 x := by
  obtain ⟨a0, b0, a1, b1, m0, m1, c0, c1, c2, c3, c4⟩ := h
  exact ⟨m0.rd, m1.rd⟩
theorem OFra.ex {w w' : World} {lo hi : Nat} {v0 v1 : Value} {x : Fra} (h : OFra w lo hi v0 v1 x) (he : Ex w w') : OFra w' lo hi v0 v1 x := by
  obtain ⟨a0, b0, a1, b1, m0, m1, c0, c1, c2, c3, c4⟩ := h
  exact ⟨a0, b0, a1, b1, m0.ex he, m1.ex he, c0, c1, c2, c3, c4⟩
theorem OFra.iv {w w' : World} {lo hi : Nat} {v0 v1 : Value} {x : Fra} (h : OFra w lo hi v0 v1 x) {a b : Nat} (q : ExI a b w w') (hd : hi ≤ a ∨ b ≤ lo) : OFra w' lo hi v0 v1 x := by
  obtain ⟨a0, b0, a1, b1, m0, m1, c0, c1, c2, c3, c4⟩ := h
  exact ⟨a0, b0, a1, b1, m0.iv q (by omega), m1.iv q (by omega), c0, c1, c2, c3, c4⟩
theorem OFra.e1 {w w' : World} {lo hi : Nat} {v0 v1 : Value} {x : Fra} (h : OFra w lo hi v0 v1 x) {g : Nat} (q : Ex1 g w w') (hd : g < lo ∨ hi ≤ g) : OFra w' lo hi v0 v1 x := by
  obtain ⟨a0, b0, a1, b1, m0, m1, c0, c1, c2, c3, c4⟩ := h
  exact ⟨a0, b0, a1, b1, m0.e1 q (by omega), m1.e1 q (by omega), c0, c1, c2, c3, c4⟩
theorem OFra.more {w : World} {lo hi lo' hi' : Nat} {v0 v1 : Value} {x : Fra} (h : OFra w lo hi v0 v1 x) (h1 : lo' ≤ lo) (h2 : hi ≤ hi') : OFra w lo' hi' v0 v1 x := by
  obtain ⟨a0, b0, a1, b1, m0, m1, c0, c1, c2, c3, c4⟩ := h
  exact ⟨a0, b0, a1, b1, m0, m1, by omega, by omega, by omega, by omega, by omega⟩
set_option maxHeartbeats 4000000 in
set_option maxRecDepth 100000 in
theorem szFraction_q (v0 v1 : Value) (z0 z1 : Int) (w : World) (q0 : QS 64 w v0 z0) (n0 : 0 ≤ z0) (q1 : QS 64 w v1 z1) (n1 : 0 ≤ z1) : QS 30 w (.agg #[v0, v1]) (z0 + z1) := by
  intro u l hx h0 hl
  have x0 := (Ex.refl u).alloc (.cells #[v0, v1] 54)
  have d0 := VB.new u 54 #[v0, v1]
  go_enter Tryz.func30, Tryz.ntmps30
  go_wp2_with fail
  generalize u.alloc (.cells #[v0, v1] 54) = W0 at *
  have hs := q0 W0 (l) (hx.trans x0) (by omega) (by omega)
  by_cases g0 : l < z0
  · rw [if_pos g0] at hs
    refine hs.mono ?_
    clear hs
    rintro e W1 ⟨rfl, x1⟩
    go_wp2
    go_ret
    exact ⟨by first | rfl | (rw [if_pos (by omega)]; rfl), x0.trans x1⟩
  rw [if_neg g0] at hs
  refine hs.mono ?_
  clear hs
  rintro e W1 ⟨rfl, x1⟩
  replace x0 := x0.trans x1
  replace d0 := d0.ex x1
  clear x1
  have y := d0.cell 1 (v := v1) rfl
  go_wp2_with fail
  clear y
  have hs := q1 W1 (l - z0) (hx.trans x0) (by omega) (by omega)
  by_cases g1 : l - z0 < z1
  · rw [if_pos g1] at hs
    refine hs.mono ?_
    clear hs
    rintro e W2 ⟨rfl, x1⟩
    go_wp2
    go_ret
    exact ⟨by first | rfl | (rw [if_pos (by omega)]; rfl), x0.trans x1⟩
  rw [if_neg g1] at hs
  refine hs.mono ?_
  clear hs
  rintro e W2 ⟨rfl, x1⟩
  replace x0 := x0.trans x1
  replace d0 := d0.ex x1
  clear x1
  have HE := Lib.hid (show (if l < z0 + z1 then (-1 : Int) else l - (z0 + z1)) = l - z0 - z1 by rw [if_neg (by omega)] <;> omega)
  have HF := Lib.hid (show l - (z0 + z1) = l - z0 - z1 by omega)
  go_wp2
  go_ret
  exact ⟨by first | (rw [HE.out]; rfl) | (rw [HF.out]; rfl) | rfl, x0⟩
set_option maxHeartbeats 4000000 in
set_option maxRecDepth 100000 in
theorem toFraction_u (x : Fra) (v0 v1 : Value) (w : World) (h : RFra w v0 v1 x) :
    Calls Tryz.prog 34 #[.agg #[v0, v1]] w fun e w' => ∃ y0 y1, e = .returned (.agg #[y0, y1]) ∧ OFra w' w.heap.size w'.heap.size y0 y1 x ∧ Ex w w' := by
  obtain ⟨x0, x1⟩ := x
  obtain ⟨h0, h1⟩ := h
  dsimp only at h0 h1 ⊢
  have y0 := (Ex.refl w).alloc (.cells #[v0, v1] 54)
  have d0 := VB.new w 54 #[v0, v1]
  have S0 := Lib.hid (show (w.alloc (.cells #[v0, v1] 54)).heap.size = w.heap.size + 1 by simp)
  go_enter Tryz.func34, Tryz.ntmps34
  go_wp2_with fail
  generalize w.alloc (.cells #[v0, v1] 54) = W0 at *
  have y1 := (Ex.refl W0).alloc (.cells #[.slice none 0 0, .slice none 0 0] 58)
  have d1 := VB.new W0 58 #[.slice none 0 0, .slice none 0 0]
  rw [S0.out] at d1
  have S1 := Lib.hid (show (W0.alloc (.cells #[.slice none 0 0, .slice none 0 0] 58)).heap.size = w.heap.size + 1 + 1 by simp; exact S0.out)
  generalize W0.alloc (.cells #[.slice none 0 0, .slice none 0 0] 58) = W1 at *
  have y2 := (Ex.refl W1).alloc (.cells #[.slice none 0 0, .slice none 0 0] 58)
  have d2 := VB.new W1 58 #[.slice none 0 0, .slice none 0 0]
  rw [S1.out] at d2
  have S2 := Lib.hid (show (W1.alloc (.cells #[.slice none 0 0, .slice none 0 0] 58)).heap.size = w.heap.size + 1 + 1 + 1 by simp; exact S1.out)
  generalize W1.alloc (.cells #[.slice none 0 0, .slice none 0 0] 58) = W2 at *
  have xx := (y0.trans y1).trans y2
  have dA := (d0.ex y1).ex y2
  have dB := d1.ex y2
  have dC := d2
  have sz : w.heap.size + 1 + 1 + 1 ≤ W2.heap.size := Nat.le_of_eq S2.out.symm
  clear d0 d1 d2 y0 y1 y2 S0 S1 S2
  refine (toIntS_u x0 v0 W2 (h0.ex xx)).mono ?_
  rintro e u0 ⟨y0, rfl, m0, z0⟩
  obtain ⟨Y0, N0, C0, rfl⟩ := m0.rd.form
  have tz0 := z0.size
  replace dA := dA.ex z0
  replace dB := dB.ex z0
  replace dC := dC.ex z0
  replace xx := xx.trans z0
  have sz0 := sz
  replace sz := Nat.le_trans sz z0.size
  have q0 := dA.cell 1 (v := v1) rfl
  have q1 := dC.cell 0 (v := .slice none 0 0) rfl
  have q2 := dC.frozen 0
  go_wp2_with fail
  clear q0 q1 q2
  have p1 : Ex1 (w.heap.size + 1 + 1) u0 (u0.setCell ⟨w.heap.size + 1 + 1, 0, none⟩ (.slice Y0 N0 C0)) := (Ex1.refl _ _).setCell rfl _
  replace dC : VB (u0.setCell ⟨w.heap.size + 1 + 1, 0, none⟩ (.slice Y0 N0 C0)) (w.heap.size + 1 + 1) 58 #[.slice Y0 N0 C0, .slice none 0 0] := dC.set_ 0 _
  replace dA := dA.ex1 p1 (by omega)
  replace dB := dB.ex1 p1 (by omega)
  replace m0 := m0.e1 p1 (by omega)
  replace sz := Nat.le_trans sz p1.size
  have tp0 := p1.size
  replace xx := xx.ex1 p1 (by omega)
  clear p1 z0
  generalize (u0.setCell ⟨w.heap.size + 1 + 1, 0, none⟩ (.slice Y0 N0 C0)) = V0 at *
  refine (toIntS_u x1 v1 V0 (h1.ex xx)).mono ?_
  rintro e u1 ⟨y1, rfl, m1, z1⟩
  obtain ⟨Y1, N1, C1, rfl⟩ := m1.rd.form
  have tz1 := z1.size
  replace m0 := m0.ex z1
  replace dA := dA.ex z1
  replace dB := dB.ex z1
  replace dC := dC.ex z1
  replace xx := xx.trans z1
  have sz1 := sz
  replace sz := Nat.le_trans sz z1.size
  have q1 := dC.cell 1 (v := .slice none 0 0) rfl
  have q2 := dC.frozen 1
  have r0 := dC.cell 0 (v := .slice Y0 N0 C0) rfl
  have t0 := dB.cell 0 (v := .slice none 0 0) rfl
  have s0 := dB.frozen 0
  have t1 := dB.cell 1 (v := .slice none 0 0) rfl
  have s1 := dB.frozen 1
  go_wp2_with fail
  clear q1 q2 r0 t0 s0 t1 s1
  have p1 : Ex1 (w.heap.size + 1 + 1) u1 (u1.setCell ⟨w.heap.size + 1 + 1, 1, none⟩ (.slice Y1 N1 C1)) := (Ex1.refl _ _).setCell rfl _
  replace dC : VB (u1.setCell ⟨w.heap.size + 1 + 1, 1, none⟩ (.slice Y1 N1 C1)) (w.heap.size + 1 + 1) 58 #[.slice Y0 N0 C0, .slice Y1 N1 C1] := dC.set_ 1 _
  replace dA := dA.ex1 p1 (by omega)
  replace dB := dB.ex1 p1 (by omega)
  replace m0 := m0.e1 p1 (by omega)
  replace m1 := m1.e1 p1 (by omega)
  replace sz := Nat.le_trans sz p1.size
  have tp1 := p1.size
  replace xx := xx.ex1 p1 (by omega)
  clear p1 z1
  generalize (u1.setCell ⟨w.heap.size + 1 + 1, 1, none⟩ (.slice Y1 N1 C1)) = V1 at *
  have p1 : Ex1 (w.heap.size + 1) V1 ((V1.setCell ⟨w.heap.size + 1, 0, none⟩ (.slice Y0 N0 C0)).setCell ⟨w.heap.size + 1, 1, none⟩ (.slice Y1 N1 C1)) := ((Ex1.refl (w.heap.size + 1) V1).setCell (p := ⟨w.heap.size + 1, 0, none⟩) rfl _).setCell (p := ⟨w.heap.size + 1, 1, none⟩) rfl _
  replace dB : VB ((V1.setCell ⟨w.heap.size + 1, 0, none⟩ (.slice Y0 N0 C0)).setCell ⟨w.heap.size + 1, 1, none⟩ (.slice Y1 N1 C1)) (w.heap.size + 1) 58 #[.slice Y0 N0 C0, .slice Y1 N1 C1] := ((dB.set_ 0 _).set_ 1 _)
  replace m0 := m0.e1 p1 (by omega)
  replace m1 := m1.e1 p1 (by omega)
  replace xx := xx.ex1 p1 (by omega)
  have tq := p1.size
  clear p1
  generalize ((V1.setCell ⟨w.heap.size + 1, 0, none⟩ (.slice Y0 N0 C0)).setCell ⟨w.heap.size + 1, 1, none⟩ (.slice Y1 N1 C1)) = VE at *
  have c0 := dB.cell 0 (v := .slice Y0 N0 C0) rfl
  have c1 := dB.cell 1 (v := .slice Y1 N1 C1) rfl
  refine bodyPost_ret (v := .agg #[.slice Y0 N0 C0, .slice Y1 N1 C1]) (by simp [results, Tryz.results34, go_sem, c0, c1]) rfl ?_
  exact ⟨_, _, rfl, ⟨W2.heap.size, u0.heap.size, V0.heap.size, u1.heap.size, m0, m1, by omega, by omega, by omega, by omega, by omega⟩, xx⟩
set_option maxHeartbeats 4000000 in
set_option maxRecDepth 100000 in
theorem eqFraction_u (x : Fra) (v0 v1 u0 u1 : Value) (w : World) (h : RFra w v0 v1 x) (h' : RFra w u0 u1 x) :
    Calls Tryz.prog 46 #[.agg #[v0, v1], .agg #[u0, u1]] w fun e w' => e = .returned (.bool true) ∧ Ex w w' := by
  obtain ⟨x0, x1⟩ := x
  obtain ⟨h0, h1⟩ := h
  obtain ⟨g0, g1⟩ := h'
  dsimp only at h0 g0 h1 g1 ⊢
  have x1 := (Ex.refl w).alloc (.cells #[v0, v1] 58)
  have d1 := VB.new w 58 #[v0, v1]
  have S1 := Lib.hid (show (w.alloc (.cells #[v0, v1] 58)).heap.size = w.heap.size + 1 by simp)
  go_enter Tryz.func46, Tryz.ntmps46
  go_wp2_with fail
  generalize w.alloc (.cells #[v0, v1] 58) = W1 at *
  have y2 := (Ex.refl W1).alloc (.cells #[u0, u1] 58)
  have d2 := VB.new W1 58 #[u0, u1]
  rw [S1.out] at d2
  generalize W1.alloc (.cells #[u0, u1] 58) = V0 at *
  have xx := x1.trans y2
  have dA := d1.ex y2
  have dB := d2
  clear x1 d1 d2 y2 S1
  refine (eqIntS_u x0 v0 u0 V0 (h0.ex xx) (g0.ex xx)).mono ?_
  rintro e V1 ⟨rfl, z0⟩
  replace dA := dA.ex z0
  replace dB := dB.ex z0
  replace xx := xx.trans z0
  have q0 := dA.cell 1 (v := v1) rfl
  have q1 := dB.cell 1 (v := u1) rfl
  go_wp2_with fail
  clear q0 q1
  refine (eqIntS_u x1 v1 u1 V1 (h1.ex xx) (g1.ex xx)).mono ?_
  rintro e V2 ⟨rfl, z1⟩
  replace dA := dA.ex z1
  replace dB := dB.ex z1
  replace xx := xx.trans z1
  go_wp2
  go_ret
  exact ⟨rfl, xx⟩
end Go.Proofs.YtpeogfapnofeoaaGreatDoor
