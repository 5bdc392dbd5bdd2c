/- The words and the laws' helpers on StateSpace: it reads, it is owned in an interval of blocks; copied, compared, marked, held. Printed by a program of mine. -/
import Derived.Test.YtkpfmnconnopnaaDoorU
import Derived.Test.YtkpfmnconnopnaaDoorUM
namespace Go.Proofs.YtkpfmnconnopnaaDoor
set_option maxRecDepth 100000
open Go Go.RowKit
structure SSp where
  n : Int
  m : Int
  q : Int
  A : List (List Int)
  B : List (List Int)
  C : List (List Int)
  D : List (List Int)
def RSSp (w : World) (v0 v1 v2 v3 : Value) (x : SSp) : Prop := RM w v0 x.A ∧ RM w v1 x.B ∧ RM w v2 x.C ∧ RM w v3 x.D
def totSSp (x : SSp) : Int := totM x.A + totM x.B + totM x.C + totM x.D
def mkSSp (k : Int) (x : SSp) : SSp := ⟨x.n, x.m, x.q, mkM' (k) x.A, mkM' (k + totM x.A) x.B, mkM' (k + totM x.A + totM x.B) x.C, mkM' (k + totM x.A + totM x.B + totM x.C) x.D⟩
theorem totSSp_nn (x : SSp) : 0 ≤ totSSp x := by
  unfold totSSp
  have h0 := totM_nn x.A
  have h1 := totM_nn x.B
  have h2 := totM_nn x.C
  have h3 := totM_nn x.D
  omega
theorem RSSp.ex {w w' : World} {v0 v1 v2 v3 : Value} {x : SSp} (h : RSSp w v0 v1 v2 v3 x) (he : Ex w w') : RSSp w' v0 v1 v2 v3 x := by
  obtain ⟨h0, h1, h2, h3⟩ := h
  exact ⟨h0.ex he, h1.ex he, h2.ex he, h3.ex he⟩
theorem RSSp.tot {w : World} {v0 v1 v2 v3 : Value} {x : SSp} (h : RSSp w v0 v1 v2 v3 x) : totSSp x ≤ 4503599627370496 := by
  obtain ⟨h0, h1, h2, h3⟩ := h
  have t0 := h0.tot
  have t1 := h1.tot
  have t2 := h2.tot
  have t3 := h3.tot
  unfold totSSp
  omega
theorem RSSp.form {w : World} {v0 v1 v2 v3 : Value} {x : SSp} (h : RSSp w v0 v1 v2 v3 x) : ∃ A0 n0 c0 A1 n1 c1 A2 n2 c2 A3 n3 c3, v0 = .slice A0 n0 c0 ∧ v1 = .slice A1 n1 c1 ∧ v2 = .slice A2 n2 c2 ∧ v3 = .slice A3 n3 c3 := by
  obtain ⟨h0, h1, h2, h3⟩ := h
  obtain ⟨A0, n0, c0, e0⟩ := h0.form
  obtain ⟨A1, n1, c1, e1⟩ := h1.form
  obtain ⟨A2, n2, c2, e2⟩ := h2.form
  obtain ⟨A3, n3, c3, e3⟩ := h3.form
  exact ⟨A0, n0, c0, A1, n1, c1, A2, n2, c2, A3, n3, c3, e0, e1, e2, e3⟩
def OSSp (w : World) (lo hi : Nat) (v0 v1 v2 v3 : Value) (x : SSp) : Prop := ∃ (a0 b0 a1 b1 a2 b2 a3 b3 : Nat), OM2 w a0 b0 v0 x.A ∧ OM2 w a1 b1 v1 x.B ∧ OM2 w a2 b2 v2 x.C ∧ OM2 w a3 b3 v3 x.D ∧ lo ≤ a0 ∧ b0 ≤ hi ∧ lo ≤ a1 ∧ b1 ≤ hi ∧ lo ≤ a2 ∧ b2 ≤ hi ∧ lo ≤ a3 ∧ b3 ≤ hi ∧ (b0 ≤ a1 ∨ b1 ≤ a0) ∧ (b0 ≤ a2 ∨ b2 ≤ a0) ∧ (b0 ≤ a3 ∨ b3 ≤ a0) ∧ (b1 ≤ a2 ∨ b2 ≤ a1) ∧ (b1 ≤ a3 ∨ b3 ≤ a1) ∧ (b2 ≤ a3 ∨ b3 ≤ a2)
theorem OSSp.rd {w : World} {lo hi : Nat} {v0 v1 v2 v3 : Value} {x : SSp} (h : OSSp w lo hi v0 v1 v2 v3 x) : RSSp w v0 v1 v2 v3 x := by
  obtain ⟨a0, b0, a1, b1, a2, b2, a3, b3, m0, m1, m2, m3, c0, c1, c2, c3, c4, c5, c6, c7, c8, c9, c10, c11, c12, c13⟩ := h
  exact ⟨m0.rd, m1.rd, m2.rd, m3.rd⟩
theorem OSSp.ex {w w' : World} {lo hi : Nat} {v0 v1 v2 v3 : Value} {x : SSp} (h : OSSp w lo hi v0 v1 v2 v3 x) (he : Ex w w') : OSSp w' lo hi v0 v1 v2 v3 x := by
  obtain ⟨a0, b0, a1, b1, a2, b2, a3, b3, m0, m1, m2, m3, c0, c1, c2, c3, c4, c5, c6, c7, c8, c9, c10, c11, c12, c13⟩ := h
  exact ⟨a0, b0, a1, b1, a2, b2, a3, b3, m0.ex he, m1.ex he, m2.ex he, m3.ex he, c0, c1, c2, c3, c4, c5, c6, c7, c8, c9, c10, c11, c12, c13⟩
theorem OSSp.iv {w w' : World} {lo hi : Nat} {v0 v1 v2 v3 : Value} {x : SSp} (h : OSSp w lo hi v0 v1 v2 v3 x) {a b : Nat} (q : ExI a b w w') (hd : hi ≤ a ∨ b ≤ lo) : OSSp w' lo hi v0 v1 v2 v3 x := by
  obtain ⟨a0, b0, a1, b1, a2, b2, a3, b3, m0, m1, m2, m3, c0, c1, c2, c3, c4, c5, c6, c7, c8, c9, c10, c11, c12, c13⟩ := h
  exact ⟨a0, b0, a1, b1, a2, b2, a3, b3, m0.iv q (by omega), m1.iv q (by omega), m2.iv q (by omega), m3.iv q (by omega), c0, c1, c2, c3, c4, c5, c6, c7, c8, c9, c10, c11, c12, c13⟩
theorem OSSp.e1 {w w' : World} {lo hi : Nat} {v0 v1 v2 v3 : Value} {x : SSp} (h : OSSp w lo hi v0 v1 v2 v3 x) {g : Nat} (q : Ex1 g w w') (hd : g < lo ∨ hi ≤ g) : OSSp w' lo hi v0 v1 v2 v3 x := by
  obtain ⟨a0, b0, a1, b1, a2, b2, a3, b3, m0, m1, m2, m3, c0, c1, c2, c3, c4, c5, c6, c7, c8, c9, c10, c11, c12, c13⟩ := h
  exact ⟨a0, b0, a1, b1, a2, b2, a3, b3, m0.e1 q (by omega), m1.e1 q (by omega), m2.e1 q (by omega), m3.e1 q (by omega), c0, c1, c2, c3, c4, c5, c6, c7, c8, c9, c10, c11, c12, c13⟩
theorem OSSp.more {w : World} {lo hi lo' hi' : Nat} {v0 v1 v2 v3 : Value} {x : SSp} (h : OSSp w lo hi v0 v1 v2 v3 x) (h1 : lo' ≤ lo) (h2 : hi ≤ hi') : OSSp w lo' hi' v0 v1 v2 v3 x := by
  obtain ⟨a0, b0, a1, b1, a2, b2, a3, b3, m0, m1, m2, m3, c0, c1, c2, c3, c4, c5, c6, c7, c8, c9, c10, c11, c12, c13⟩ := h
  exact ⟨a0, b0, a1, b1, a2, b2, a3, b3, m0, m1, m2, m3, by omega, by omega, by omega, by omega, by omega, by omega, by omega, by omega, by omega, by omega, by omega, by omega, by omega, by omega⟩
set_option maxHeartbeats 4000000 in
set_option maxRecDepth 100000 in
theorem szStateSpace_q (c0 c1 c2 v0 v1 v2 v3 : Value) (z0 z1 z2 z3 : Int) (w : World) (q0 : QS 11 w v0 z0) (n0 : 0 ≤ z0) (q1 : QS 11 w v1 z1) (n1 : 0 ≤ z1) (q2 : QS 11 w v2 z2) (n2 : 0 ≤ z2) (q3 : QS 11 w v3 z3) (n3 : 0 ≤ z3) : QS 10 w (.agg #[c0, c1, c2, v0, v1, v2, v3]) (z0 + z1 + z2 + z3) := by
  intro u l hx h0 hl
  have x0 := (Ex.refl u).alloc (.cells #[c0, c1, c2, v0, v1, v2, v3] 24)
  have d0 := VB.new u 24 #[c0, c1, c2, v0, v1, v2, v3]
  go_enter Tryd.func10, Tryd.ntmps10
  go_wp2_with fail
  generalize u.alloc (.cells #[c0, c1, c2, v0, v1, v2, v3] 24) = W0 at *
  have hs := q0 W0 (l) (hx.trans x0) (by omega) (by omega)
  by_cases g0 : l < z0
  · rw [if_pos g0] at hs
    refine hs.mono ?_
    clear hs
    rintro e W1 ⟨rfl, x1⟩
    go_wp2
    go_ret
    exact ⟨by first | rfl | (rw [if_pos (by omega)]; rfl), x0.trans x1⟩
  rw [if_neg g0] at hs
  refine hs.mono ?_
  clear hs
  rintro e W1 ⟨rfl, x1⟩
  replace x0 := x0.trans x1
  replace d0 := d0.ex x1
  clear x1
  have y := d0.cell 4 (v := v1) rfl
  go_wp2_with fail
  clear y
  have hs := q1 W1 (l - z0) (hx.trans x0) (by omega) (by omega)
  by_cases g1 : l - z0 < z1
  · rw [if_pos g1] at hs
    refine hs.mono ?_
    clear hs
    rintro e W2 ⟨rfl, x1⟩
    go_wp2
    go_ret
    exact ⟨by first | rfl | (rw [if_pos (by omega)]; rfl), x0.trans x1⟩
  rw [if_neg g1] at hs
  refine hs.mono ?_
  clear hs
  rintro e W2 ⟨rfl, x1⟩
  replace x0 := x0.trans x1
  replace d0 := d0.ex x1
  clear x1
  have y := d0.cell 5 (v := v2) rfl
  go_wp2_with fail
  clear y
  have hs := q2 W2 (l - z0 - z1) (hx.trans x0) (by omega) (by omega)
  by_cases g2 : l - z0 - z1 < z2
  · rw [if_pos g2] at hs
    refine hs.mono ?_
    clear hs
    rintro e W3 ⟨rfl, x1⟩
    go_wp2
    go_ret
    exact ⟨by first | rfl | (rw [if_pos (by omega)]; rfl), x0.trans x1⟩
  rw [if_neg g2] at hs
  refine hs.mono ?_
  clear hs
  rintro e W3 ⟨rfl, x1⟩
  replace x0 := x0.trans x1
  replace d0 := d0.ex x1
  clear x1
  have y := d0.cell 6 (v := v3) rfl
  go_wp2_with fail
  clear y
  have hs := q3 W3 (l - z0 - z1 - z2) (hx.trans x0) (by omega) (by omega)
  by_cases g3 : l - z0 - z1 - z2 < z3
  · rw [if_pos g3] at hs
    refine hs.mono ?_
    clear hs
    rintro e W4 ⟨rfl, x1⟩
    go_wp2
    go_ret
    exact ⟨by first | rfl | (rw [if_pos (by omega)]; rfl), x0.trans x1⟩
  rw [if_neg g3] at hs
  refine hs.mono ?_
  clear hs
  rintro e W4 ⟨rfl, x1⟩
  replace x0 := x0.trans x1
  replace d0 := d0.ex x1
  clear x1
  have HE := Lib.hid (show (if l < z0 + z1 + z2 + z3 then (-1 : Int) else l - (z0 + z1 + z2 + z3)) = l - z0 - z1 - z2 - z3 by rw [if_neg (by omega)]; omega)
  have HF := Lib.hid (show l - (z0 + z1 + z2 + z3) = l - z0 - z1 - z2 - z3 by omega)
  go_wp2
  go_ret
  exact ⟨by first | (rw [HE.out]; rfl) | (rw [HF.out]; rfl) | rfl, x0⟩
set_option maxHeartbeats 4000000 in
set_option maxRecDepth 100000 in
theorem toStateSpace_u (x : SSp) (v0 v1 v2 v3 : Value) (w : World) (h : RSSp w v0 v1 v2 v3 x) :
    Calls Tryd.prog 13 #[.agg #[.int .i64 x.n, .int .i64 x.m, .int .i64 x.q, v0, v1, v2, v3]] w fun e w' => ∃ y0 y1 y2 y3, e = .returned (.agg #[.int .i64 x.n, .int .i64 x.m, .int .i64 x.q, y0, y1, y2, y3]) ∧ OSSp w' w.heap.size w'.heap.size y0 y1 y2 y3 x ∧ Ex w w' := by
  obtain ⟨n, m, q, x0, x1, x2, x3⟩ := x
  obtain ⟨h0, h1, h2, h3⟩ := h
  dsimp only at h0 h1 h2 h3 ⊢
  have y0 := (Ex.refl w).alloc (.cells #[.int .i64 n, .int .i64 m, .int .i64 q, v0, v1, v2, v3] 24)
  have d0 := VB.new w 24 #[.int .i64 n, .int .i64 m, .int .i64 q, v0, v1, v2, v3]
  have S0 := Lib.hid (show (w.alloc (.cells #[.int .i64 n, .int .i64 m, .int .i64 q, v0, v1, v2, v3] 24)).heap.size = w.heap.size + 1 by simp)
  go_enter Tryd.func13, Tryd.ntmps13
  go_wp2_with fail
  generalize w.alloc (.cells #[.int .i64 n, .int .i64 m, .int .i64 q, v0, v1, v2, v3] 24) = W0 at *
  have y1 := (Ex.refl W0).alloc (.cells #[.int .i64 0, .int .i64 0, .int .i64 0, .slice none 0 0, .slice none 0 0, .slice none 0 0, .slice none 0 0] 29)
  have d1 := VB.new W0 29 #[.int .i64 0, .int .i64 0, .int .i64 0, .slice none 0 0, .slice none 0 0, .slice none 0 0, .slice none 0 0]
  rw [S0.out] at d1
  have S1 := Lib.hid (show (W0.alloc (.cells #[.int .i64 0, .int .i64 0, .int .i64 0, .slice none 0 0, .slice none 0 0, .slice none 0 0, .slice none 0 0] 29)).heap.size = w.heap.size + 1 + 1 by simp; exact S0.out)
  generalize W0.alloc (.cells #[.int .i64 0, .int .i64 0, .int .i64 0, .slice none 0 0, .slice none 0 0, .slice none 0 0, .slice none 0 0] 29) = W1 at *
  have y2 := (Ex.refl W1).alloc (.cells #[.int .i64 n, .int .i64 m, .int .i64 q, .slice none 0 0, .slice none 0 0, .slice none 0 0, .slice none 0 0] 29)
  have d2 := VB.new W1 29 #[.int .i64 n, .int .i64 m, .int .i64 q, .slice none 0 0, .slice none 0 0, .slice none 0 0, .slice none 0 0]
  rw [S1.out] at d2
  have S2 := Lib.hid (show (W1.alloc (.cells #[.int .i64 n, .int .i64 m, .int .i64 q, .slice none 0 0, .slice none 0 0, .slice none 0 0, .slice none 0 0] 29)).heap.size = w.heap.size + 1 + 1 + 1 by simp; exact S1.out)
  generalize W1.alloc (.cells #[.int .i64 n, .int .i64 m, .int .i64 q, .slice none 0 0, .slice none 0 0, .slice none 0 0, .slice none 0 0] 29) = W2 at *
  have xx := (y0.trans y1).trans y2
  have dA := (d0.ex y1).ex y2
  have dB := d1.ex y2
  have dC := d2
  have sz : w.heap.size + 1 + 1 + 1 ≤ W2.heap.size := Nat.le_of_eq S2.out.symm
  clear d0 d1 d2 y0 y1 y2 S0 S1 S2
  refine (toIntSS_u x0 v0 W2 (h0.ex xx)).mono ?_
  rintro e u0 ⟨y0, rfl, m0, z0⟩
  obtain ⟨Y0, N0, C0, rfl⟩ := m0.rd.form
  have tz0 := z0.size
  replace dA := dA.ex z0
  replace dB := dB.ex z0
  replace dC := dC.ex z0
  replace xx := xx.trans z0
  have sz0 := sz
  replace sz := Nat.le_trans sz z0.size
  have q0 := dA.cell 4 (v := v1) rfl
  have q1 := dC.cell 3 (v := .slice none 0 0) rfl
  have q2 := dC.frozen 3
  go_wp2_with fail
  clear q0 q1 q2
  have p1 : Ex1 (w.heap.size + 1 + 1) u0 (u0.setCell ⟨w.heap.size + 1 + 1, 3, none⟩ (.slice Y0 N0 C0)) := (Ex1.refl _ _).setCell rfl _
  replace dC : VB (u0.setCell ⟨w.heap.size + 1 + 1, 3, none⟩ (.slice Y0 N0 C0)) (w.heap.size + 1 + 1) 29 #[.int .i64 n, .int .i64 m, .int .i64 q, .slice Y0 N0 C0, .slice none 0 0, .slice none 0 0, .slice none 0 0] := dC.set_ 3 _
  replace dA := dA.ex1 p1 (by omega)
  replace dB := dB.ex1 p1 (by omega)
  replace m0 := m0.e1 p1 (by omega)
  replace sz := Nat.le_trans sz p1.size
  have tp0 := p1.size
  replace xx := xx.ex1 p1 (by omega)
  clear p1 z0
  generalize (u0.setCell ⟨w.heap.size + 1 + 1, 3, none⟩ (.slice Y0 N0 C0)) = V0 at *
  refine (toIntSS_u x1 v1 V0 (h1.ex xx)).mono ?_
  rintro e u1 ⟨y1, rfl, m1, z1⟩
  obtain ⟨Y1, N1, C1, rfl⟩ := m1.rd.form
  have tz1 := z1.size
  replace m0 := m0.ex z1
  replace dA := dA.ex z1
  replace dB := dB.ex z1
  replace dC := dC.ex z1
  replace xx := xx.trans z1
  have sz1 := sz
  replace sz := Nat.le_trans sz z1.size
  have q0 := dA.cell 5 (v := v2) rfl
  have q1 := dC.cell 4 (v := .slice none 0 0) rfl
  have q2 := dC.frozen 4
  go_wp2_with fail
  clear q0 q1 q2
  have p1 : Ex1 (w.heap.size + 1 + 1) u1 (u1.setCell ⟨w.heap.size + 1 + 1, 4, none⟩ (.slice Y1 N1 C1)) := (Ex1.refl _ _).setCell rfl _
  replace dC : VB (u1.setCell ⟨w.heap.size + 1 + 1, 4, none⟩ (.slice Y1 N1 C1)) (w.heap.size + 1 + 1) 29 #[.int .i64 n, .int .i64 m, .int .i64 q, .slice Y0 N0 C0, .slice Y1 N1 C1, .slice none 0 0, .slice none 0 0] := dC.set_ 4 _
  replace dA := dA.ex1 p1 (by omega)
  replace dB := dB.ex1 p1 (by omega)
  replace m0 := m0.e1 p1 (by omega)
  replace m1 := m1.e1 p1 (by omega)
  replace sz := Nat.le_trans sz p1.size
  have tp1 := p1.size
  replace xx := xx.ex1 p1 (by omega)
  clear p1 z1
  generalize (u1.setCell ⟨w.heap.size + 1 + 1, 4, none⟩ (.slice Y1 N1 C1)) = V1 at *
  refine (toIntSS_u x2 v2 V1 (h2.ex xx)).mono ?_
  rintro e u2 ⟨y2, rfl, m2, z2⟩
  obtain ⟨Y2, N2, C2, rfl⟩ := m2.rd.form
  have tz2 := z2.size
  replace m0 := m0.ex z2
  replace m1 := m1.ex z2
  replace dA := dA.ex z2
  replace dB := dB.ex z2
  replace dC := dC.ex z2
  replace xx := xx.trans z2
  have sz2 := sz
  replace sz := Nat.le_trans sz z2.size
  have q0 := dA.cell 6 (v := v3) rfl
  have q1 := dC.cell 5 (v := .slice none 0 0) rfl
  have q2 := dC.frozen 5
  go_wp2_with fail
  clear q0 q1 q2
  have p1 : Ex1 (w.heap.size + 1 + 1) u2 (u2.setCell ⟨w.heap.size + 1 + 1, 5, none⟩ (.slice Y2 N2 C2)) := (Ex1.refl _ _).setCell rfl _
  replace dC : VB (u2.setCell ⟨w.heap.size + 1 + 1, 5, none⟩ (.slice Y2 N2 C2)) (w.heap.size + 1 + 1) 29 #[.int .i64 n, .int .i64 m, .int .i64 q, .slice Y0 N0 C0, .slice Y1 N1 C1, .slice Y2 N2 C2, .slice none 0 0] := dC.set_ 5 _
  replace dA := dA.ex1 p1 (by omega)
  replace dB := dB.ex1 p1 (by omega)
  replace m0 := m0.e1 p1 (by omega)
  replace m1 := m1.e1 p1 (by omega)
  replace m2 := m2.e1 p1 (by omega)
  replace sz := Nat.le_trans sz p1.size
  have tp2 := p1.size
  replace xx := xx.ex1 p1 (by omega)
  clear p1 z2
  generalize (u2.setCell ⟨w.heap.size + 1 + 1, 5, none⟩ (.slice Y2 N2 C2)) = V2 at *
  refine (toIntSS_u x3 v3 V2 (h3.ex xx)).mono ?_
  rintro e u3 ⟨y3, rfl, m3, z3⟩
  obtain ⟨Y3, N3, C3, rfl⟩ := m3.rd.form
  have tz3 := z3.size
  replace m0 := m0.ex z3
  replace m1 := m1.ex z3
  replace m2 := m2.ex z3
  replace dA := dA.ex z3
  replace dB := dB.ex z3
  replace dC := dC.ex z3
  replace xx := xx.trans z3
  have sz3 := sz
  replace sz := Nat.le_trans sz z3.size
  have q1 := dC.cell 6 (v := .slice none 0 0) rfl
  have q2 := dC.frozen 6
  have r0 := dC.cell 0 (v := .int .i64 n) rfl
  have r1 := dC.cell 1 (v := .int .i64 m) rfl
  have r2 := dC.cell 2 (v := .int .i64 q) rfl
  have r3 := dC.cell 3 (v := .slice Y0 N0 C0) rfl
  have r4 := dC.cell 4 (v := .slice Y1 N1 C1) rfl
  have r5 := dC.cell 5 (v := .slice Y2 N2 C2) rfl
  have t0 := dB.cell 0 (v := .int .i64 0) rfl
  have s0 := dB.frozen 0
  have t1 := dB.cell 1 (v := .int .i64 0) rfl
  have s1 := dB.frozen 1
  have t2 := dB.cell 2 (v := .int .i64 0) rfl
  have s2 := dB.frozen 2
  have t3 := dB.cell 3 (v := .slice none 0 0) rfl
  have s3 := dB.frozen 3
  have t4 := dB.cell 4 (v := .slice none 0 0) rfl
  have s4 := dB.frozen 4
  have t5 := dB.cell 5 (v := .slice none 0 0) rfl
  have s5 := dB.frozen 5
  have t6 := dB.cell 6 (v := .slice none 0 0) rfl
  have s6 := dB.frozen 6
  go_wp2_with fail
  clear q1 q2 r0 r1 r2 r3 r4 r5 t0 s0 t1 s1 t2 s2 t3 s3 t4 s4 t5 s5 t6 s6
  have p1 : Ex1 (w.heap.size + 1 + 1) u3 (u3.setCell ⟨w.heap.size + 1 + 1, 6, none⟩ (.slice Y3 N3 C3)) := (Ex1.refl _ _).setCell rfl _
  replace dC : VB (u3.setCell ⟨w.heap.size + 1 + 1, 6, none⟩ (.slice Y3 N3 C3)) (w.heap.size + 1 + 1) 29 #[.int .i64 n, .int .i64 m, .int .i64 q, .slice Y0 N0 C0, .slice Y1 N1 C1, .slice Y2 N2 C2, .slice Y3 N3 C3] := dC.set_ 6 _
  replace dA := dA.ex1 p1 (by omega)
  replace dB := dB.ex1 p1 (by omega)
  replace m0 := m0.e1 p1 (by omega)
  replace m1 := m1.e1 p1 (by omega)
  replace m2 := m2.e1 p1 (by omega)
  replace m3 := m3.e1 p1 (by omega)
  replace sz := Nat.le_trans sz p1.size
  have tp3 := p1.size
  replace xx := xx.ex1 p1 (by omega)
  clear p1 z3
  generalize (u3.setCell ⟨w.heap.size + 1 + 1, 6, none⟩ (.slice Y3 N3 C3)) = V3 at *
  have p1 : Ex1 (w.heap.size + 1) V3 (((((((V3.setCell ⟨w.heap.size + 1, 0, none⟩ (.int .i64 n)).setCell ⟨w.heap.size + 1, 1, none⟩ (.int .i64 m)).setCell ⟨w.heap.size + 1, 2, none⟩ (.int .i64 q)).setCell ⟨w.heap.size + 1, 3, none⟩ (.slice Y0 N0 C0)).setCell ⟨w.heap.size + 1, 4, none⟩ (.slice Y1 N1 C1)).setCell ⟨w.heap.size + 1, 5, none⟩ (.slice Y2 N2 C2)).setCell ⟨w.heap.size + 1, 6, none⟩ (.slice Y3 N3 C3)) := (((((((Ex1.refl (w.heap.size + 1) V3).setCell (p := ⟨w.heap.size + 1, 0, none⟩) rfl _).setCell (p := ⟨w.heap.size + 1, 1, none⟩) rfl _).setCell (p := ⟨w.heap.size + 1, 2, none⟩) rfl _).setCell (p := ⟨w.heap.size + 1, 3, none⟩) rfl _).setCell (p := ⟨w.heap.size + 1, 4, none⟩) rfl _).setCell (p := ⟨w.heap.size + 1, 5, none⟩) rfl _).setCell (p := ⟨w.heap.size + 1, 6, none⟩) rfl _
  replace dB : VB (((((((V3.setCell ⟨w.heap.size + 1, 0, none⟩ (.int .i64 n)).setCell ⟨w.heap.size + 1, 1, none⟩ (.int .i64 m)).setCell ⟨w.heap.size + 1, 2, none⟩ (.int .i64 q)).setCell ⟨w.heap.size + 1, 3, none⟩ (.slice Y0 N0 C0)).setCell ⟨w.heap.size + 1, 4, none⟩ (.slice Y1 N1 C1)).setCell ⟨w.heap.size + 1, 5, none⟩ (.slice Y2 N2 C2)).setCell ⟨w.heap.size + 1, 6, none⟩ (.slice Y3 N3 C3)) (w.heap.size + 1) 29 #[.int .i64 n, .int .i64 m, .int .i64 q, .slice Y0 N0 C0, .slice Y1 N1 C1, .slice Y2 N2 C2, .slice Y3 N3 C3] := (((((((dB.set_ 0 _).set_ 1 _).set_ 2 _).set_ 3 _).set_ 4 _).set_ 5 _).set_ 6 _)
  replace m0 := m0.e1 p1 (by omega)
  replace m1 := m1.e1 p1 (by omega)
  replace m2 := m2.e1 p1 (by omega)
  replace m3 := m3.e1 p1 (by omega)
  replace xx := xx.ex1 p1 (by omega)
  have tq := p1.size
  clear p1
  generalize (((((((V3.setCell ⟨w.heap.size + 1, 0, none⟩ (.int .i64 n)).setCell ⟨w.heap.size + 1, 1, none⟩ (.int .i64 m)).setCell ⟨w.heap.size + 1, 2, none⟩ (.int .i64 q)).setCell ⟨w.heap.size + 1, 3, none⟩ (.slice Y0 N0 C0)).setCell ⟨w.heap.size + 1, 4, none⟩ (.slice Y1 N1 C1)).setCell ⟨w.heap.size + 1, 5, none⟩ (.slice Y2 N2 C2)).setCell ⟨w.heap.size + 1, 6, none⟩ (.slice Y3 N3 C3)) = VE at *
  have c0 := dB.cell 0 (v := .int .i64 n) rfl
  have c1 := dB.cell 1 (v := .int .i64 m) rfl
  have c2 := dB.cell 2 (v := .int .i64 q) rfl
  have c3 := dB.cell 3 (v := .slice Y0 N0 C0) rfl
  have c4 := dB.cell 4 (v := .slice Y1 N1 C1) rfl
  have c5 := dB.cell 5 (v := .slice Y2 N2 C2) rfl
  have c6 := dB.cell 6 (v := .slice Y3 N3 C3) rfl
  refine bodyPost_ret (v := .agg #[.int .i64 n, .int .i64 m, .int .i64 q, .slice Y0 N0 C0, .slice Y1 N1 C1, .slice Y2 N2 C2, .slice Y3 N3 C3]) (by simp [results, Tryd.results13, go_sem, c0, c1, c2, c3, c4, c5, c6]) rfl ?_
  exact ⟨_, _, _, _, rfl, ⟨W2.heap.size, u0.heap.size, V0.heap.size, u1.heap.size, V1.heap.size, u2.heap.size, V2.heap.size, u3.heap.size, m0, m1, m2, m3, by omega, by omega, by omega, by omega, by omega, by omega, by omega, by omega, by omega, by omega, by omega, by omega, by omega, by omega⟩, xx⟩
set_option maxHeartbeats 4000000 in
set_option maxRecDepth 100000 in
theorem eqStateSpace_u (x : SSp) (v0 v1 v2 v3 u0 u1 u2 u3 : Value) (w : World) (h : RSSp w v0 v1 v2 v3 x) (h' : RSSp w u0 u1 u2 u3 x) :
    Calls Tryd.prog 17 #[.agg #[.int .i64 x.n, .int .i64 x.m, .int .i64 x.q, v0, v1, v2, v3], .agg #[.int .i64 x.n, .int .i64 x.m, .int .i64 x.q, u0, u1, u2, u3]] w fun e w' => e = .returned (.bool true) ∧ Ex w w' := by
  obtain ⟨n, m, q, x0, x1, x2, x3⟩ := x
  obtain ⟨h0, h1, h2, h3⟩ := h
  obtain ⟨g0, g1, g2, g3⟩ := h'
  dsimp only at h0 g0 h1 g1 h2 g2 h3 g3 ⊢
  have x1 := (Ex.refl w).alloc (.cells #[.int .i64 n, .int .i64 m, .int .i64 q, v0, v1, v2, v3] 29)
  have d1 := VB.new w 29 #[.int .i64 n, .int .i64 m, .int .i64 q, v0, v1, v2, v3]
  have S1 := Lib.hid (show (w.alloc (.cells #[.int .i64 n, .int .i64 m, .int .i64 q, v0, v1, v2, v3] 29)).heap.size = w.heap.size + 1 by simp)
  go_enter Tryd.func17, Tryd.ntmps17
  go_wp2_with fail
  generalize w.alloc (.cells #[.int .i64 n, .int .i64 m, .int .i64 q, v0, v1, v2, v3] 29) = W1 at *
  have y2 := (Ex.refl W1).alloc (.cells #[.int .i64 n, .int .i64 m, .int .i64 q, u0, u1, u2, u3] 29)
  have d2 := VB.new W1 29 #[.int .i64 n, .int .i64 m, .int .i64 q, u0, u1, u2, u3]
  rw [S1.out] at d2
  generalize W1.alloc (.cells #[.int .i64 n, .int .i64 m, .int .i64 q, u0, u1, u2, u3] 29) = V0 at *
  have xx := x1.trans y2
  have dA := d1.ex y2
  have dB := d2
  clear x1 d1 d2 y2 S1
  refine (eqIntSS_u x0 v0 u0 V0 (h0.ex xx) (g0.ex xx)).mono ?_
  rintro e V1 ⟨rfl, z0⟩
  replace dA := dA.ex z0
  replace dB := dB.ex z0
  replace xx := xx.trans z0
  have q0 := dA.cell 4 (v := v1) rfl
  have q1 := dB.cell 4 (v := u1) rfl
  go_wp2_with fail
  clear q0 q1
  refine (eqIntSS_u x1 v1 u1 V1 (h1.ex xx) (g1.ex xx)).mono ?_
  rintro e V2 ⟨rfl, z1⟩
  replace dA := dA.ex z1
  replace dB := dB.ex z1
  replace xx := xx.trans z1
  have q0 := dA.cell 5 (v := v2) rfl
  have q1 := dB.cell 5 (v := u2) rfl
  go_wp2_with fail
  clear q0 q1
  refine (eqIntSS_u x2 v2 u2 V2 (h2.ex xx) (g2.ex xx)).mono ?_
  rintro e V3 ⟨rfl, z2⟩
  replace dA := dA.ex z2
  replace dB := dB.ex z2
  replace xx := xx.trans z2
  have q0 := dA.cell 6 (v := v3) rfl
  have q1 := dB.cell 6 (v := u3) rfl
  go_wp2_with fail
  clear q0 q1
  refine (eqIntSS_u x3 v3 u3 V3 (h3.ex xx) (g3.ex xx)).mono ?_
  rintro e V4 ⟨rfl, z3⟩
  replace dA := dA.ex z3
  replace dB := dB.ex z3
  replace xx := xx.trans z3
  go_wp2
  go_ret
  exact ⟨rfl, xx⟩
set_option maxHeartbeats 4000000 in
set_option maxRecDepth 100000 in
theorem markStateSpace_u (lo hi : Nat) (x : SSp) (v0 v1 v2 v3 : Value) (k : Int) (w : World) (h : OSSp w lo hi v0 v1 v2 v3 x) (hb : hi ≤ w.heap.size) (hk0 : 0 ≤ k) (hk : k + totSSp x ≤ 4611686018427387904) :
    Calls Tryd.prog 18 #[.agg #[.int .i64 x.n, .int .i64 x.m, .int .i64 x.q, v0, v1, v2, v3], .int .i64 k] w fun e w' => e = .returned (.int .i64 (k + totSSp x)) ∧ OSSp w' lo hi v0 v1 v2 v3 (mkSSp k x) ∧ ExI lo hi w w' := by
  obtain ⟨n, m, q, x0, x1, x2, x3⟩ := x
  obtain ⟨a0, b0, a1, b1, a2, b2, a3, b3, m0, m1, m2, m3, c0, c1, c2, c3, c4, c5, c6, c7, c8, c9, c10, c11, c12, c13⟩ := h
  dsimp only at m0 m1 m2 m3 ⊢
  have t0 := totM_nn x0
  have t1 := totM_nn x1
  have t2 := totM_nn x2
  have t3 := totM_nn x3
  have ek : k + totSSp ⟨n, m, q, x0, x1, x2, x3⟩ = k + totM x0 + totM x1 + totM x2 + totM x3 := by simp only [totSSp]; omega
  rw [ek] at hk ⊢
  clear ek
  have x0 := (Ex.refl w).alloc (.cells #[.int .i64 n, .int .i64 m, .int .i64 q, v0, v1, v2, v3] 29)
  have d0 := VB.new w 29 #[.int .i64 n, .int .i64 m, .int .i64 q, v0, v1, v2, v3]
  have dl := d0.lt
  go_enter Tryd.func18, Tryd.ntmps18
  go_wp2_with fail
  generalize w.alloc (.cells #[.int .i64 n, .int .i64 m, .int .i64 q, v0, v1, v2, v3] 29) = W0 at *
  replace m0 := m0.ex x0
  replace m1 := m1.ex x0
  replace m2 := m2.ex x0
  replace m3 := m3.ex x0
  have zz := x0.size
  have ee := ExI.of_ex (a := lo) (b := hi) x0
  clear x0
  refine (markIntSS_u a0 b0 x0 v0 (k) W0 m0 (by omega) (by omega) (by omega)).mono ?_
  clear m0
  rintro e u0 ⟨rfl, m0, z0⟩
  replace m1 := m1.iv z0 (by omega)
  replace m2 := m2.iv z0 (by omega)
  replace m3 := m3.iv z0 (by omega)
  replace d0 := d0.iv z0 (by omega)
  replace ee := ee.trans (z0.widen (by omega) (by omega))
  replace zz := Nat.le_trans zz z0.size
  clear z0
  have q := d0.cell 4 (v := v1) rfl
  go_wp2_with fail
  clear q
  refine (markIntSS_u a1 b1 x1 v1 (k + totM x0) u0 m1 (by omega) (by omega) (by omega)).mono ?_
  clear m1
  rintro e u1 ⟨rfl, m1, z1⟩
  replace m0 := m0.iv z1 (by omega)
  replace m2 := m2.iv z1 (by omega)
  replace m3 := m3.iv z1 (by omega)
  replace d0 := d0.iv z1 (by omega)
  replace ee := ee.trans (z1.widen (by omega) (by omega))
  replace zz := Nat.le_trans zz z1.size
  clear z1
  have q := d0.cell 5 (v := v2) rfl
  go_wp2_with fail
  clear q
  refine (markIntSS_u a2 b2 x2 v2 (k + totM x0 + totM x1) u1 m2 (by omega) (by omega) (by omega)).mono ?_
  clear m2
  rintro e u2 ⟨rfl, m2, z2⟩
  replace m0 := m0.iv z2 (by omega)
  replace m1 := m1.iv z2 (by omega)
  replace m3 := m3.iv z2 (by omega)
  replace d0 := d0.iv z2 (by omega)
  replace ee := ee.trans (z2.widen (by omega) (by omega))
  replace zz := Nat.le_trans zz z2.size
  clear z2
  have q := d0.cell 6 (v := v3) rfl
  go_wp2_with fail
  clear q
  refine (markIntSS_u a3 b3 x3 v3 (k + totM x0 + totM x1 + totM x2) u2 m3 (by omega) (by omega) (by omega)).mono ?_
  clear m3
  rintro e u3 ⟨rfl, m3, z3⟩
  replace m0 := m0.iv z3 (by omega)
  replace m1 := m1.iv z3 (by omega)
  replace m2 := m2.iv z3 (by omega)
  replace d0 := d0.iv z3 (by omega)
  replace ee := ee.trans (z3.widen (by omega) (by omega))
  replace zz := Nat.le_trans zz z3.size
  clear z3
  go_wp2
  go_ret
  exact ⟨rfl, ⟨a0, b0, a1, b1, a2, b2, a3, b3, m0, m1, m2, m3, c0, c1, c2, c3, c4, c5, c6, c7, c8, c9, c10, c11, c12, c13⟩, ee⟩
end Go.Proofs.YtkpfmnconnopnaaDoor
