/- Copies of state spaces, each matrix in an interval of blocks of its own. -/
import Derived.Test.YtkpfmnconnopnaaDoorMarkSS
namespace Go.Proofs.YtkpfmnconnopnaaDoor
set_option maxRecDepth 100000
open Go Go.RowKit
theorem FMI.ex1 {w w' : World} {lo hi k : Nat} {A : Option Addr} {rows : List (List Int)} (h : FMI w lo hi A rows) (he : Ex1 k w w') (hk : k < lo) : FMI w' lo hi A rows :=
  h.iv (a := k) (b := k + 1) (ExI.of_exo (A := some ⟨k, 0, none⟩) he (fun a e => by injection e with e; rw [← e]; exact Nat.le_refl _) (fun a e => by injection e with e; rw [← e]; exact Nat.lt_succ_self _)) (by omega)
theorem RdM.rows {w : World} {A : Option Addr} {rows : List (List Int)} (h : RdM w A rows) : ∀ r ∈ rows, r.length ≤ 1099511627776 := fun r hr => by
  obtain ⟨j, hj⟩ := List.mem_iff_getElem?.1 hr
  obtain ⟨_, _, _, _, _, _, q⟩ := h.2 j r hj
  exact q.len
/-- u is a copy of rows in the blocks from lo on and below hi. -/
def CI (w : World) (lo hi : Nat) (u : Value) (rows : List (List Int)) : Prop := ∃ g, u = .slice (some ⟨g, 0, none⟩) rows.length rows.length ∧ FMI w lo hi (some ⟨g, 0, none⟩) rows
theorem CI.ex {w w' : World} {lo hi : Nat} {u : Value} {rows : List (List Int)} (h : CI w lo hi u rows) (he : Ex w w') : CI w' lo hi u rows := by
  obtain ⟨g, e, f⟩ := h
  exact ⟨g, e, f.ex he⟩
theorem CI.ex1 {w w' : World} {lo hi k : Nat} {u : Value} {rows : List (List Int)} (h : CI w lo hi u rows) (he : Ex1 k w w') (hk : k < lo) : CI w' lo hi u rows := by
  obtain ⟨g, e, f⟩ := h
  exact ⟨g, e, f.ex1 he hk⟩
set_option maxHeartbeats 2000000 in
theorem toStateSpace_i (x y z : Int) (A B C D : Option Addr) (a b c d : Nat) (ra rb rc rd : List (List Int)) (w : World) (ha : RdM w A ra) (hb : RdM w B rb) (hc : RdM w C rc) (hd : RdM w D rd) :
    Calls Tryd.prog 13 #[.agg #[.int .i64 x, .int .i64 y, .int .i64 z, .slice A ra.length a, .slice B rb.length b, .slice C rc.length c, .slice D rd.length d]] w fun e w' =>
      ∃ u1 u2 u3 u4 i1 j1 i2 j2 i3 j3 i4 j4, e = .returned (.agg #[.int .i64 x, .int .i64 y, .int .i64 z, u1, u2, u3, u4]) ∧ CI w' i1 j1 u1 ra ∧ CI w' i2 j2 u2 rb ∧ CI w' i3 j3 u3 rc ∧ CI w' i4 j4 u4 rd ∧ w.heap.size ≤ i1 ∧ i1 ≤ j1 ∧ j1 ≤ i2 ∧ i2 ≤ j2 ∧ j2 ≤ i3 ∧ i3 ≤ j3 ∧ j3 ≤ i4 ∧ i4 ≤ j4 ∧ j4 ≤ w'.heap.size ∧ Ex w w' := by
  go_enter Tryd.func13, Tryd.ntmps13
  go_wp2_with fail
  have x1 := (Ex.refl w).alloc (.cells #[.int .i64 x, .int .i64 y, .int .i64 z, .slice A ra.length a, .slice B rb.length b, .slice C rc.length c, .slice D rd.length d] 24)
  have d1 := VB.new w 24 #[.int .i64 x, .int .i64 y, .int .i64 z, .slice A ra.length a, .slice B rb.length b, .slice C rc.length c, .slice D rd.length d]
  have S1 := Lib.hid (show (w.alloc (.cells #[.int .i64 x, .int .i64 y, .int .i64 z, .slice A ra.length a, .slice B rb.length b, .slice C rc.length c, .slice D rd.length d] 24)).heap.size = w.heap.size + 1 by simp)
  generalize w.alloc (.cells #[.int .i64 x, .int .i64 y, .int .i64 z, .slice A ra.length a, .slice B rb.length b, .slice C rc.length c, .slice D rd.length d] 24) = W1 at *
  have y2 := (Ex.refl W1).alloc (.cells #[.int .i64 0, .int .i64 0, .int .i64 0, .slice none 0 0, .slice none 0 0, .slice none 0 0, .slice none 0 0] 29)
  have d2 := VB.new W1 29 #[.int .i64 0, .int .i64 0, .int .i64 0, .slice none 0 0, .slice none 0 0, .slice none 0 0, .slice none 0 0]
  rw [S1.out] at d2
  have S2 := Lib.hid (show (W1.alloc (.cells #[.int .i64 0, .int .i64 0, .int .i64 0, .slice none 0 0, .slice none 0 0, .slice none 0 0, .slice none 0 0] 29)).heap.size = w.heap.size + 1 + 1 by simp; exact S1.out)
  generalize W1.alloc (.cells #[.int .i64 0, .int .i64 0, .int .i64 0, .slice none 0 0, .slice none 0 0, .slice none 0 0, .slice none 0 0] 29) = W2 at *
  have y3 := (Ex.refl W2).alloc (.cells #[.int .i64 x, .int .i64 y, .int .i64 z, .slice none 0 0, .slice none 0 0, .slice none 0 0, .slice none 0 0] 29)
  have d3 := VB.new W2 29 #[.int .i64 x, .int .i64 y, .int .i64 z, .slice none 0 0, .slice none 0 0, .slice none 0 0, .slice none 0 0]
  rw [S2.out] at d3
  have S3 := Lib.hid (show (W2.alloc (.cells #[.int .i64 x, .int .i64 y, .int .i64 z, .slice none 0 0, .slice none 0 0, .slice none 0 0, .slice none 0 0] 29)).heap.size = w.heap.size + 1 + 1 + 1 by simp; exact S2.out)
  generalize W2.alloc (.cells #[.int .i64 x, .int .i64 y, .int .i64 z, .slice none 0 0, .slice none 0 0, .slice none 0 0, .slice none 0 0] 29) = V0 at *
  have xx := (x1.trans y2).trans y3
  have dA := (d1.ex y2).ex y3
  have dB := d2.ex y3
  have dC := d3
  have sz : w.heap.size + 1 + 1 + 1 ≤ V0.heap.size := Nat.le_of_eq S3.out.symm
  clear d1 d2 d3 y2 y3 x1 S1 S2 S3
  refine (toIntSS_c A a ra V0 (ha.ex xx)).mono ?_
  rintro e w0 ⟨g0, gs0, rfl, f0, z0⟩
  have m0 : CI w0 V0.heap.size w0.heap.size (.slice (some ⟨g0, 0, none⟩) ra.length ra.length) ra := ⟨g0, rfl, f0.fmi ha.1 ha.rows⟩
  have tz0 := z0.size
  have sz0 := sz
  have dA := dA.ex z0
  have dB := dB.ex z0
  have dC := dC.ex z0
  have xx := xx.trans z0
  have sz := Nat.le_trans sz z0.size
  have q0 := dA.cell 4 (v := .slice B rb.length b) rfl
  have q1 := dC.cell 3 (v := .slice none 0 0) rfl
  have q2 := dC.frozen 3
  go_wp2_with fail
  clear q0 q1 q2
  have p1 : Ex1 (w.heap.size + 1 + 1) w0 (w0.setCell ⟨w.heap.size + 1 + 1, 3, none⟩ (.slice (some ⟨g0, 0, none⟩) ra.length ra.length)) := (Ex1.refl _ _).setCell rfl _
  have dC : VB (w0.setCell ⟨w.heap.size + 1 + 1, 3, none⟩ (.slice (some ⟨g0, 0, none⟩) ra.length ra.length)) (w.heap.size + 1 + 1) 29 #[.int .i64 x, .int .i64 y, .int .i64 z, .slice (some ⟨g0, 0, none⟩) ra.length ra.length, .slice none 0 0, .slice none 0 0, .slice none 0 0] := dC.set_ 3 _
  have dA := dA.ex1 p1 (by omega)
  have dB := dB.ex1 p1 (by omega)
  have m0 := m0.ex1 p1 (by omega)
  have sz := Nat.le_trans sz p1.size
  have tp := p1.size
  have xx := xx.ex1 p1 (by omega)
  clear p1 z0
  generalize w0.setCell ⟨w.heap.size + 1 + 1, 3, none⟩ (.slice (some ⟨g0, 0, none⟩) ra.length ra.length) = V1 at *
  refine (toIntSS_c B b rb V1 (hb.ex xx)).mono ?_
  rintro e w1 ⟨g1, gs1, rfl, f1, z1⟩
  have m1 : CI w1 V1.heap.size w1.heap.size (.slice (some ⟨g1, 0, none⟩) rb.length rb.length) rb := ⟨g1, rfl, f1.fmi hb.1 hb.rows⟩
  have tz1 := z1.size
  have sz1 := sz
  have m0 := m0.ex z1
  have dA := dA.ex z1
  have dB := dB.ex z1
  have dC := dC.ex z1
  have xx := xx.trans z1
  have sz := Nat.le_trans sz z1.size
  have q0 := dA.cell 5 (v := .slice C rc.length c) rfl
  have q1 := dC.cell 4 (v := .slice none 0 0) rfl
  have q2 := dC.frozen 4
  go_wp2_with fail
  clear q0 q1 q2
  have p1 : Ex1 (w.heap.size + 1 + 1) w1 (w1.setCell ⟨w.heap.size + 1 + 1, 4, none⟩ (.slice (some ⟨g1, 0, none⟩) rb.length rb.length)) := (Ex1.refl _ _).setCell rfl _
  have dC : VB (w1.setCell ⟨w.heap.size + 1 + 1, 4, none⟩ (.slice (some ⟨g1, 0, none⟩) rb.length rb.length)) (w.heap.size + 1 + 1) 29 #[.int .i64 x, .int .i64 y, .int .i64 z, .slice (some ⟨g0, 0, none⟩) ra.length ra.length, .slice (some ⟨g1, 0, none⟩) rb.length rb.length, .slice none 0 0, .slice none 0 0] := dC.set_ 4 _
  have dA := dA.ex1 p1 (by omega)
  have dB := dB.ex1 p1 (by omega)
  have m0 := m0.ex1 p1 (by omega)
  have m1 := m1.ex1 p1 (by omega)
  have sz := Nat.le_trans sz p1.size
  have tp := p1.size
  have xx := xx.ex1 p1 (by omega)
  clear p1 z1
  generalize w1.setCell ⟨w.heap.size + 1 + 1, 4, none⟩ (.slice (some ⟨g1, 0, none⟩) rb.length rb.length) = V2 at *
  refine (toIntSS_c C c rc V2 (hc.ex xx)).mono ?_
  rintro e w2 ⟨g2, gs2, rfl, f2, z2⟩
  have m2 : CI w2 V2.heap.size w2.heap.size (.slice (some ⟨g2, 0, none⟩) rc.length rc.length) rc := ⟨g2, rfl, f2.fmi hc.1 hc.rows⟩
  have tz2 := z2.size
  have sz2 := sz
  have m0 := m0.ex z2
  have m1 := m1.ex z2
  have dA := dA.ex z2
  have dB := dB.ex z2
  have dC := dC.ex z2
  have xx := xx.trans z2
  have sz := Nat.le_trans sz z2.size
  have q0 := dA.cell 6 (v := .slice D rd.length d) rfl
  have q1 := dC.cell 5 (v := .slice none 0 0) rfl
  have q2 := dC.frozen 5
  go_wp2_with fail
  clear q0 q1 q2
  have p1 : Ex1 (w.heap.size + 1 + 1) w2 (w2.setCell ⟨w.heap.size + 1 + 1, 5, none⟩ (.slice (some ⟨g2, 0, none⟩) rc.length rc.length)) := (Ex1.refl _ _).setCell rfl _
  have dC : VB (w2.setCell ⟨w.heap.size + 1 + 1, 5, none⟩ (.slice (some ⟨g2, 0, none⟩) rc.length rc.length)) (w.heap.size + 1 + 1) 29 #[.int .i64 x, .int .i64 y, .int .i64 z, .slice (some ⟨g0, 0, none⟩) ra.length ra.length, .slice (some ⟨g1, 0, none⟩) rb.length rb.length, .slice (some ⟨g2, 0, none⟩) rc.length rc.length, .slice none 0 0] := dC.set_ 5 _
  have dA := dA.ex1 p1 (by omega)
  have dB := dB.ex1 p1 (by omega)
  have m0 := m0.ex1 p1 (by omega)
  have m1 := m1.ex1 p1 (by omega)
  have m2 := m2.ex1 p1 (by omega)
  have sz := Nat.le_trans sz p1.size
  have tp := p1.size
  have xx := xx.ex1 p1 (by omega)
  clear p1 z2
  generalize w2.setCell ⟨w.heap.size + 1 + 1, 5, none⟩ (.slice (some ⟨g2, 0, none⟩) rc.length rc.length) = V3 at *
  refine (toIntSS_c D d rd V3 (hd.ex xx)).mono ?_
  rintro e w3 ⟨g3, gs3, rfl, f3, z3⟩
  have m3 : CI w3 V3.heap.size w3.heap.size (.slice (some ⟨g3, 0, none⟩) rd.length rd.length) rd := ⟨g3, rfl, f3.fmi hd.1 hd.rows⟩
  have tz3 := z3.size
  have sz3 := sz
  have m0 := m0.ex z3
  have m1 := m1.ex z3
  have m2 := m2.ex z3
  have dA := dA.ex z3
  have dB := dB.ex z3
  have dC := dC.ex z3
  have xx := xx.trans z3
  have sz := Nat.le_trans sz z3.size
  have c0 := dC.cell 0 (v := .int .i64 x) rfl
  have c1 := dC.cell 1 (v := .int .i64 y) rfl
  have c2 := dC.cell 2 (v := .int .i64 z) rfl
  have c3 := dC.cell 3 (v := .slice (some ⟨g0, 0, none⟩) ra.length ra.length) rfl
  have c4 := dC.cell 4 (v := .slice (some ⟨g1, 0, none⟩) rb.length rb.length) rfl
  have c5 := dC.cell 5 (v := .slice (some ⟨g2, 0, none⟩) rc.length rc.length) rfl
  have c6 := dC.cell 6 (v := .slice none 0 0) rfl
  have q2 := dC.frozen 6
  have t0 := dB.cell 0 (v := .int .i64 0) rfl
  have s0 := dB.frozen 0
  have t1 := dB.cell 1 (v := .int .i64 0) rfl
  have s1 := dB.frozen 1
  have t2 := dB.cell 2 (v := .int .i64 0) rfl
  have s2 := dB.frozen 2
  have t3 := dB.cell 3 (v := .slice none 0 0) rfl
  have s3 := dB.frozen 3
  have t4 := dB.cell 4 (v := .slice none 0 0) rfl
  have s4 := dB.frozen 4
  have t5 := dB.cell 5 (v := .slice none 0 0) rfl
  have s5 := dB.frozen 5
  have t6 := dB.cell 6 (v := .slice none 0 0) rfl
  have s6 := dB.frozen 6
  go_wp2_with fail
  clear q2 c0 t0 s0 c1 t1 s1 c2 t2 s2 c3 t3 s3 c4 t4 s4 c5 t5 s5 c6 t6 s6
  have p1 : Ex1 (w.heap.size + 1 + 1) w3 (w3.setCell ⟨w.heap.size + 1 + 1, 6, none⟩ (.slice (some ⟨g3, 0, none⟩) rd.length rd.length)) := (Ex1.refl _ _).setCell rfl _
  have dC : VB (w3.setCell ⟨w.heap.size + 1 + 1, 6, none⟩ (.slice (some ⟨g3, 0, none⟩) rd.length rd.length)) (w.heap.size + 1 + 1) 29 #[.int .i64 x, .int .i64 y, .int .i64 z, .slice (some ⟨g0, 0, none⟩) ra.length ra.length, .slice (some ⟨g1, 0, none⟩) rb.length rb.length, .slice (some ⟨g2, 0, none⟩) rc.length rc.length, .slice (some ⟨g3, 0, none⟩) rd.length rd.length] := dC.set_ 6 _
  have dA := dA.ex1 p1 (by omega)
  have dB := dB.ex1 p1 (by omega)
  have m0 := m0.ex1 p1 (by omega)
  have m1 := m1.ex1 p1 (by omega)
  have m2 := m2.ex1 p1 (by omega)
  have m3 := m3.ex1 p1 (by omega)
  have sz := Nat.le_trans sz p1.size
  have tp := p1.size
  have xx := xx.ex1 p1 (by omega)
  have tr := p1.size
  clear p1 z3
  generalize w3.setCell ⟨w.heap.size + 1 + 1, 6, none⟩ (.slice (some ⟨g3, 0, none⟩) rd.length rd.length) = V4 at *
  have p1 : Ex1 (w.heap.size + 1) V4 ((((((((V4).setCell ⟨w.heap.size + 1, 0, none⟩ (.int .i64 x)).setCell ⟨w.heap.size + 1, 1, none⟩ (.int .i64 y)).setCell ⟨w.heap.size + 1, 2, none⟩ (.int .i64 z)).setCell ⟨w.heap.size + 1, 3, none⟩ (.slice (some ⟨g0, 0, none⟩) ra.length ra.length)).setCell ⟨w.heap.size + 1, 4, none⟩ (.slice (some ⟨g1, 0, none⟩) rb.length rb.length)).setCell ⟨w.heap.size + 1, 5, none⟩ (.slice (some ⟨g2, 0, none⟩) rc.length rc.length)).setCell ⟨w.heap.size + 1, 6, none⟩ (.slice (some ⟨g3, 0, none⟩) rd.length rd.length)) := ((((((((Ex1.refl (w.heap.size + 1) V4)).setCell (p := ⟨w.heap.size + 1, 0, none⟩) rfl _).setCell (p := ⟨w.heap.size + 1, 1, none⟩) rfl _).setCell (p := ⟨w.heap.size + 1, 2, none⟩) rfl _).setCell (p := ⟨w.heap.size + 1, 3, none⟩) rfl _).setCell (p := ⟨w.heap.size + 1, 4, none⟩) rfl _).setCell (p := ⟨w.heap.size + 1, 5, none⟩) rfl _).setCell (p := ⟨w.heap.size + 1, 6, none⟩) rfl _
  have dB : VB ((((((((V4).setCell ⟨w.heap.size + 1, 0, none⟩ (.int .i64 x)).setCell ⟨w.heap.size + 1, 1, none⟩ (.int .i64 y)).setCell ⟨w.heap.size + 1, 2, none⟩ (.int .i64 z)).setCell ⟨w.heap.size + 1, 3, none⟩ (.slice (some ⟨g0, 0, none⟩) ra.length ra.length)).setCell ⟨w.heap.size + 1, 4, none⟩ (.slice (some ⟨g1, 0, none⟩) rb.length rb.length)).setCell ⟨w.heap.size + 1, 5, none⟩ (.slice (some ⟨g2, 0, none⟩) rc.length rc.length)).setCell ⟨w.heap.size + 1, 6, none⟩ (.slice (some ⟨g3, 0, none⟩) rd.length rd.length)) (w.heap.size + 1) 29 #[.int .i64 x, .int .i64 y, .int .i64 z, .slice (some ⟨g0, 0, none⟩) ra.length ra.length, .slice (some ⟨g1, 0, none⟩) rb.length rb.length, .slice (some ⟨g2, 0, none⟩) rc.length rc.length, .slice (some ⟨g3, 0, none⟩) rd.length rd.length] := (((((((dB).set_ 0 _).set_ 1 _).set_ 2 _).set_ 3 _).set_ 4 _).set_ 5 _).set_ 6 _
  have m0 := m0.ex1 p1 (by omega)
  have m1 := m1.ex1 p1 (by omega)
  have m2 := m2.ex1 p1 (by omega)
  have m3 := m3.ex1 p1 (by omega)
  have xx := xx.ex1 p1 (by omega)
  have tq := p1.size
  clear p1
  generalize (((((((V4).setCell ⟨w.heap.size + 1, 0, none⟩ (.int .i64 x)).setCell ⟨w.heap.size + 1, 1, none⟩ (.int .i64 y)).setCell ⟨w.heap.size + 1, 2, none⟩ (.int .i64 z)).setCell ⟨w.heap.size + 1, 3, none⟩ (.slice (some ⟨g0, 0, none⟩) ra.length ra.length)).setCell ⟨w.heap.size + 1, 4, none⟩ (.slice (some ⟨g1, 0, none⟩) rb.length rb.length)).setCell ⟨w.heap.size + 1, 5, none⟩ (.slice (some ⟨g2, 0, none⟩) rc.length rc.length)).setCell ⟨w.heap.size + 1, 6, none⟩ (.slice (some ⟨g3, 0, none⟩) rd.length rd.length) = V5 at *
  have c0 := dB.cell 0 (v := .int .i64 x) rfl
  have c1 := dB.cell 1 (v := .int .i64 y) rfl
  have c2 := dB.cell 2 (v := .int .i64 z) rfl
  have c3 := dB.cell 3 (v := .slice (some ⟨g0, 0, none⟩) ra.length ra.length) rfl
  have c4 := dB.cell 4 (v := .slice (some ⟨g1, 0, none⟩) rb.length rb.length) rfl
  have c5 := dB.cell 5 (v := .slice (some ⟨g2, 0, none⟩) rc.length rc.length) rfl
  have c6 := dB.cell 6 (v := .slice (some ⟨g3, 0, none⟩) rd.length rd.length) rfl
  refine bodyPost_ret (v := .agg #[.int .i64 x, .int .i64 y, .int .i64 z, .slice (some ⟨g0, 0, none⟩) ra.length ra.length, .slice (some ⟨g1, 0, none⟩) rb.length rb.length, .slice (some ⟨g2, 0, none⟩) rc.length rc.length, .slice (some ⟨g3, 0, none⟩) rd.length rd.length]) (by simp [results, Tryd.results13, go_sem, c0, c1, c2, c3, c4, c5, c6]) rfl ?_
  exact ⟨_, _, _, _, V0.heap.size, w0.heap.size, V1.heap.size, w1.heap.size, V2.heap.size, w2.heap.size, V3.heap.size, w3.heap.size, rfl, m0, m1, m2, m3, by omega, by omega, by omega, by omega, by omega, by omega, by omega, by omega, by omega, xx⟩
end Go.Proofs.YtkpfmnconnopnaaDoor
