/- The laws' helpers on state spaces. -/
import Derived.Test.YtkpfmnconnopnaaDoorSpace
namespace Go.Proofs.YtkpfmnconnopnaaDoor
set_option maxRecDepth 100000
open Go Go.RowKit
theorem szAll_le {l : Int} {ns : List Nat} (h : 0 ≤ szAll l ns) : ((ns.length + ns.sum : Nat) : Int) + szAll l ns = l := by
  rw [szAll] at h ⊢
  split at h
  · omega
  · rename_i hh
    rw [if_neg hh]
    have := szGo_le ns _ h
    omega
theorem szGo_lo : ∀ (ns : List Nat) (l : Int), 0 ≤ l → -1 ≤ szGo l ns ∧ szGo l ns ≤ l
  | [], l, h => by simp [szGo]; omega
  | n :: ns, l, h => by
    rw [szGo]
    split
    · omega
    · have := szGo_lo ns (l - (n : Int)) (by omega)
      omega
theorem szAll_lo (ns : List Nat) (l : Int) (h : 0 ≤ l) : -1 ≤ szAll l ns ∧ szAll l ns ≤ l := by
  rw [szAll]
  split
  · omega
  · have := szGo_lo ns (l - (ns.length : Int)) (by omega)
    omega
def szS (l : Int) : List (List Nat) → Int
  | [] => l
  | ns :: rest => if szAll l ns < 0 then -1 else szS (szAll l ns) rest
set_option maxHeartbeats 1000000 in
theorem szStateSpace_c (x y z : Int) (A B C D : Option Addr) (a b c d : Nat) (ra rb rc rd : List Nat) (l : Int) (w : World) (ha : RdH w A ra) (hb : RdH w B rb) (hc : RdH w C rc) (hd : RdH w D rd)
    (na : ra.length ≤ 9223372036854775807) (nb : rb.length ≤ 9223372036854775807) (nc : rc.length ≤ 9223372036854775807) (nd : rd.length ≤ 9223372036854775807) (h0 : 0 ≤ l) (hl : l ≤ 1048576) :
    Calls Tryd.prog 10 #[.agg #[.int .i64 x, .int .i64 y, .int .i64 z, .slice A ra.length a, .slice B rb.length b, .slice C rc.length c, .slice D rd.length d], .int .i64 l] w fun e w' => e = .returned (.int .i64 (szS l [ra, rb, rc, rd])) ∧ Ex w w' := by
  have x0 := (Ex.refl w).alloc (.cells #[.int .i64 x, .int .i64 y, .int .i64 z, .slice A ra.length a, .slice B rb.length b, .slice C rc.length c, .slice D rd.length d] 24)
  have v0 := VB.new w 24 #[.int .i64 x, .int .i64 y, .int .i64 z, .slice A ra.length a, .slice B rb.length b, .slice C rc.length c, .slice D rd.length d]
  go_enter Tryd.func10, Tryd.ntmps10
  go_wp2_with fail
  generalize w.alloc (.cells #[.int .i64 x, .int .i64 y, .int .i64 z, .slice A ra.length a, .slice B rb.length b, .slice C rc.length c, .slice D rd.length d] 24) = W at *
  have q1 := v0.cell 4 (v := .slice B rb.length b) rfl
  have q2 := v0.cell 5 (v := .slice C rc.length c) rfl
  have q3 := v0.cell 6 (v := .slice D rd.length d) rfl
  refine (szIntSS_c A a _ ra l W (ha.ex x0) rfl na h0 hl).mono ?_
  rintro e w1 ⟨rfl, rfl⟩
  have b1 := szAll_lo ra l h0
  have H1 := Lib.hid (show szS l [ra, rb, rc, rd] = if szAll l ra < 0 then -1 else szS (szAll l ra) [rb, rc, rd] from rfl)
  generalize szAll l ra = l1 at *
  by_cases g1 : l1 < 0
  · have H := Lib.hid (show szS l [ra, rb, rc, rd] = -1 by rw [H1.out, if_pos g1])
    go_wp2
    go_ret
    exact ⟨by rw [H.out]; rfl, x0⟩
  have H1 := Lib.hid (show szS l [ra, rb, rc, rd] = szS l1 [rb, rc, rd] by rw [H1.out, if_neg g1])
  go_wp2_with fail
  refine (szIntSS_c B b _ rb l1 W (hb.ex x0) rfl nb (by omega) (by omega)).mono ?_
  rintro e w1 ⟨rfl, rfl⟩
  have b2 := szAll_lo rb l1 (by omega)
  have H2 := Lib.hid (show szS l1 [rb, rc, rd] = if szAll l1 rb < 0 then -1 else szS (szAll l1 rb) [rc, rd] from rfl)
  generalize szAll l1 rb = l2 at *
  by_cases g2 : l2 < 0
  · have H := Lib.hid (show szS l [ra, rb, rc, rd] = -1 by rw [H1.out, H2.out, if_pos g2])
    go_wp2
    go_ret
    exact ⟨by rw [H.out]; rfl, x0⟩
  have H2 := Lib.hid (show szS l [ra, rb, rc, rd] = szS l2 [rc, rd] by rw [H1.out, H2.out, if_neg g2])
  go_wp2_with fail
  refine (szIntSS_c C c _ rc l2 W (hc.ex x0) rfl nc (by omega) (by omega)).mono ?_
  rintro e w1 ⟨rfl, rfl⟩
  have b3 := szAll_lo rc l2 (by omega)
  have H3 := Lib.hid (show szS l2 [rc, rd] = if szAll l2 rc < 0 then -1 else szS (szAll l2 rc) [rd] from rfl)
  generalize szAll l2 rc = l3 at *
  by_cases g3 : l3 < 0
  · have H := Lib.hid (show szS l [ra, rb, rc, rd] = -1 by rw [H2.out, H3.out, if_pos g3])
    go_wp2
    go_ret
    exact ⟨by rw [H.out]; rfl, x0⟩
  have H3 := Lib.hid (show szS l [ra, rb, rc, rd] = szS l3 [rd] by rw [H2.out, H3.out, if_neg g3])
  go_wp2_with fail
  refine (szIntSS_c D d _ rd l3 W (hd.ex x0) rfl nd (by omega) (by omega)).mono ?_
  rintro e w1 ⟨rfl, rfl⟩
  have b4 := szAll_lo rd l3 (by omega)
  have H4 := Lib.hid (show szS l3 [rd] = if szAll l3 rd < 0 then -1 else szAll l3 rd from rfl)
  generalize szAll l3 rd = l4 at *
  by_cases g4 : l4 < 0
  · have H := Lib.hid (show szS l [ra, rb, rc, rd] = -1 by rw [H3.out, H4.out, if_pos g4])
    go_wp2
    go_ret
    exact ⟨by rw [H.out]; rfl, x0⟩
  · have H := Lib.hid (show szS l [ra, rb, rc, rd] = l4 by rw [H3.out, H4.out, if_neg g4])
    go_wp2
    go_ret
    exact ⟨by rw [H.out]; rfl, x0⟩
/-- The cells of a state space. -/
def ssC (x y z : Int) (u1 u2 u3 u4 : Value) : Array Value := #[.int .i64 x, .int .i64 y, .int .i64 z, u1, u2, u3, u4]
/-- u is a copy of rows, made from block B on. -/
def CM (w : World) (B : Nat) (u : Value) (rows : List (List Int)) : Prop := ∃ g gs, u = .slice (some ⟨g, 0, none⟩) rows.length rows.length ∧ FM w B g gs rows
theorem CM.ex {w w' : World} {B : Nat} {u : Value} {rows : List (List Int)} (h : CM w B u rows) (he : Ex w w') : CM w' B u rows := by
  obtain ⟨g, gs, e, f⟩ := h
  exact ⟨g, gs, e, f.ex he⟩
theorem FM.ex1 {w w' : World} {B g k : Nat} {gs : List Nat} {rows : List (List Int)} (h : FM w B g gs rows) (he : Ex1 k w w') (hk : k < B) : FM w' B g gs rows :=
  ⟨h.low, h.len, h.head.ex1 he (by have := h.low; omega), fun j b r hg hr => ⟨(h.row j b r hg hr).1, (h.row j b r hg hr).2.ex1 he (by have := (h.row j b r hg hr).1; have := h.low; omega)⟩, h.up⟩
theorem CM.ex1 {w w' : World} {B k : Nat} {u : Value} {rows : List (List Int)} (h : CM w B u rows) (he : Ex1 k w w') (hk : k < B) : CM w' B u rows := by
  obtain ⟨g, gs, e, f⟩ := h
  exact ⟨g, gs, e, f.ex1 he hk⟩
theorem FM.more {w : World} {B B' g : Nat} {gs : List Nat} {rows : List (List Int)} (h : FM w B g gs rows) (hb : B' ≤ B) : FM w B' g gs rows := ⟨Nat.le_trans hb h.low, h.len, h.head, h.row, h.up⟩
theorem CM.more {w : World} {B B' : Nat} {u : Value} {rows : List (List Int)} (h : CM w B u rows) (hb : B' ≤ B) : CM w B' u rows := by
  obtain ⟨g, gs, e, f⟩ := h
  exact ⟨g, gs, e, f.more hb⟩
theorem RdM.ex1 {w w' : World} {A : Option Addr} {rows : List (List Int)} {g : Nat} (h : RdM w A rows) (he : Ex1 g w w') (hg : w.heap.size ≤ g) : RdM w' A rows := h.ex (Ex.ex1 (Ex.refl w) he hg)
set_option maxHeartbeats 2000000 in
theorem toStateSpace_c (x y z : Int) (A B C D : Option Addr) (a b c d : Nat) (ra rb rc rd : List (List Int)) (w : World) (ha : RdM w A ra) (hb : RdM w B rb) (hc : RdM w C rc) (hd : RdM w D rd) :
    Calls Tryd.prog 13 #[.agg #[.int .i64 x, .int .i64 y, .int .i64 z, .slice A ra.length a, .slice B rb.length b, .slice C rc.length c, .slice D rd.length d]] w fun e w' =>
      ∃ u1 u2 u3 u4, e = .returned (.agg #[.int .i64 x, .int .i64 y, .int .i64 z, u1, u2, u3, u4]) ∧ CM w' w.heap.size u1 ra ∧ CM w' w.heap.size u2 rb ∧ CM w' w.heap.size u3 rc ∧ CM w' w.heap.size u4 rd ∧ Ex w w' := by
  go_enter Tryd.func13, Tryd.ntmps13
  go_wp2_with fail
  have x1 := (Ex.refl w).alloc (.cells #[.int .i64 x, .int .i64 y, .int .i64 z, .slice A ra.length a, .slice B rb.length b, .slice C rc.length c, .slice D rd.length d] 24)
  have d1 := VB.new w 24 #[.int .i64 x, .int .i64 y, .int .i64 z, .slice A ra.length a, .slice B rb.length b, .slice C rc.length c, .slice D rd.length d]
  have S1 := Lib.hid (show (w.alloc (.cells #[.int .i64 x, .int .i64 y, .int .i64 z, .slice A ra.length a, .slice B rb.length b, .slice C rc.length c, .slice D rd.length d] 24)).heap.size = w.heap.size + 1 by simp)
  generalize w.alloc (.cells #[.int .i64 x, .int .i64 y, .int .i64 z, .slice A ra.length a, .slice B rb.length b, .slice C rc.length c, .slice D rd.length d] 24) = W1 at *
  have y2 := (Ex.refl W1).alloc (.cells #[.int .i64 0, .int .i64 0, .int .i64 0, .slice none 0 0, .slice none 0 0, .slice none 0 0, .slice none 0 0] 29)
  have d2 := VB.new W1 29 #[.int .i64 0, .int .i64 0, .int .i64 0, .slice none 0 0, .slice none 0 0, .slice none 0 0, .slice none 0 0]
  rw [S1.out] at d2
  have S2 := Lib.hid (show (W1.alloc (.cells #[.int .i64 0, .int .i64 0, .int .i64 0, .slice none 0 0, .slice none 0 0, .slice none 0 0, .slice none 0 0] 29)).heap.size = w.heap.size + 1 + 1 by simp; exact S1.out)
  generalize W1.alloc (.cells #[.int .i64 0, .int .i64 0, .int .i64 0, .slice none 0 0, .slice none 0 0, .slice none 0 0, .slice none 0 0] 29) = W2 at *
  have y3 := (Ex.refl W2).alloc (.cells #[.int .i64 x, .int .i64 y, .int .i64 z, .slice none 0 0, .slice none 0 0, .slice none 0 0, .slice none 0 0] 29)
  have d3 := VB.new W2 29 #[.int .i64 x, .int .i64 y, .int .i64 z, .slice none 0 0, .slice none 0 0, .slice none 0 0, .slice none 0 0]
  rw [S2.out] at d3
  have S3 := Lib.hid (show (W2.alloc (.cells #[.int .i64 x, .int .i64 y, .int .i64 z, .slice none 0 0, .slice none 0 0, .slice none 0 0, .slice none 0 0] 29)).heap.size = w.heap.size + 1 + 1 + 1 by simp; exact S2.out)
  generalize W2.alloc (.cells #[.int .i64 x, .int .i64 y, .int .i64 z, .slice none 0 0, .slice none 0 0, .slice none 0 0, .slice none 0 0] 29) = V0 at *
  have xx := (x1.trans y2).trans y3
  have dA := (d1.ex y2).ex y3
  have dB := d2.ex y3
  have dC := d3
  have sz : w.heap.size + 1 + 1 + 1 ≤ V0.heap.size := Nat.le_of_eq S3.out.symm
  clear d1 d2 d3 y2 y3 x1 S1 S2 S3
  refine (toIntSS_c A a ra V0 (ha.ex xx)).mono ?_
  rintro e w0 ⟨g0, gs0, rfl, f0, z0⟩
  have m0 : CM w0 (w.heap.size + 1 + 1 + 1) (.slice (some ⟨g0, 0, none⟩) ra.length ra.length) ra := ⟨_, _, rfl, f0.more sz⟩
  have dA := dA.ex z0
  have dB := dB.ex z0
  have dC := dC.ex z0
  have xx := xx.trans z0
  have sz := Nat.le_trans sz z0.size
  have q0 := dA.cell 4 (v := .slice B rb.length b) rfl
  have q1 := dC.cell 3 (v := .slice none 0 0) rfl
  have q2 := dC.frozen 3
  go_wp2_with fail
  clear q0 q1 q2
  have p1 : Ex1 (w.heap.size + 1 + 1) w0 (w0.setCell ⟨w.heap.size + 1 + 1, 3, none⟩ (.slice (some ⟨g0, 0, none⟩) ra.length ra.length)) := (Ex1.refl _ _).setCell rfl _
  have dC : VB (w0.setCell ⟨w.heap.size + 1 + 1, 3, none⟩ (.slice (some ⟨g0, 0, none⟩) ra.length ra.length)) (w.heap.size + 1 + 1) 29 #[.int .i64 x, .int .i64 y, .int .i64 z, .slice (some ⟨g0, 0, none⟩) ra.length ra.length, .slice none 0 0, .slice none 0 0, .slice none 0 0] := dC.set_ 3 _
  have dA := dA.ex1 p1 (by omega)
  have dB := dB.ex1 p1 (by omega)
  have m0 := m0.ex1 p1 (by omega)
  have sz := Nat.le_trans sz p1.size
  have xx := xx.ex1 p1 (by omega)
  clear p1 z0
  generalize w0.setCell ⟨w.heap.size + 1 + 1, 3, none⟩ (.slice (some ⟨g0, 0, none⟩) ra.length ra.length) = V1 at *
  refine (toIntSS_c B b rb V1 (hb.ex xx)).mono ?_
  rintro e w1 ⟨g1, gs1, rfl, f1, z1⟩
  have m1 : CM w1 (w.heap.size + 1 + 1 + 1) (.slice (some ⟨g1, 0, none⟩) rb.length rb.length) rb := ⟨_, _, rfl, f1.more sz⟩
  have m0 := m0.ex z1
  have dA := dA.ex z1
  have dB := dB.ex z1
  have dC := dC.ex z1
  have xx := xx.trans z1
  have sz := Nat.le_trans sz z1.size
  have q0 := dA.cell 5 (v := .slice C rc.length c) rfl
  have q1 := dC.cell 4 (v := .slice none 0 0) rfl
  have q2 := dC.frozen 4
  go_wp2_with fail
  clear q0 q1 q2
  have p1 : Ex1 (w.heap.size + 1 + 1) w1 (w1.setCell ⟨w.heap.size + 1 + 1, 4, none⟩ (.slice (some ⟨g1, 0, none⟩) rb.length rb.length)) := (Ex1.refl _ _).setCell rfl _
  have dC : VB (w1.setCell ⟨w.heap.size + 1 + 1, 4, none⟩ (.slice (some ⟨g1, 0, none⟩) rb.length rb.length)) (w.heap.size + 1 + 1) 29 #[.int .i64 x, .int .i64 y, .int .i64 z, .slice (some ⟨g0, 0, none⟩) ra.length ra.length, .slice (some ⟨g1, 0, none⟩) rb.length rb.length, .slice none 0 0, .slice none 0 0] := dC.set_ 4 _
  have dA := dA.ex1 p1 (by omega)
  have dB := dB.ex1 p1 (by omega)
  have m0 := m0.ex1 p1 (by omega)
  have m1 := m1.ex1 p1 (by omega)
  have sz := Nat.le_trans sz p1.size
  have xx := xx.ex1 p1 (by omega)
  clear p1 z1
  generalize w1.setCell ⟨w.heap.size + 1 + 1, 4, none⟩ (.slice (some ⟨g1, 0, none⟩) rb.length rb.length) = V2 at *
  refine (toIntSS_c C c rc V2 (hc.ex xx)).mono ?_
  rintro e w2 ⟨g2, gs2, rfl, f2, z2⟩
  have m2 : CM w2 (w.heap.size + 1 + 1 + 1) (.slice (some ⟨g2, 0, none⟩) rc.length rc.length) rc := ⟨_, _, rfl, f2.more sz⟩
  have m0 := m0.ex z2
  have m1 := m1.ex z2
  have dA := dA.ex z2
  have dB := dB.ex z2
  have dC := dC.ex z2
  have xx := xx.trans z2
  have sz := Nat.le_trans sz z2.size
  have q0 := dA.cell 6 (v := .slice D rd.length d) rfl
  have q1 := dC.cell 5 (v := .slice none 0 0) rfl
  have q2 := dC.frozen 5
  go_wp2_with fail
  clear q0 q1 q2
  have p1 : Ex1 (w.heap.size + 1 + 1) w2 (w2.setCell ⟨w.heap.size + 1 + 1, 5, none⟩ (.slice (some ⟨g2, 0, none⟩) rc.length rc.length)) := (Ex1.refl _ _).setCell rfl _
  have dC : VB (w2.setCell ⟨w.heap.size + 1 + 1, 5, none⟩ (.slice (some ⟨g2, 0, none⟩) rc.length rc.length)) (w.heap.size + 1 + 1) 29 #[.int .i64 x, .int .i64 y, .int .i64 z, .slice (some ⟨g0, 0, none⟩) ra.length ra.length, .slice (some ⟨g1, 0, none⟩) rb.length rb.length, .slice (some ⟨g2, 0, none⟩) rc.length rc.length, .slice none 0 0] := dC.set_ 5 _
  have dA := dA.ex1 p1 (by omega)
  have dB := dB.ex1 p1 (by omega)
  have m0 := m0.ex1 p1 (by omega)
  have m1 := m1.ex1 p1 (by omega)
  have m2 := m2.ex1 p1 (by omega)
  have sz := Nat.le_trans sz p1.size
  have xx := xx.ex1 p1 (by omega)
  clear p1 z2
  generalize w2.setCell ⟨w.heap.size + 1 + 1, 5, none⟩ (.slice (some ⟨g2, 0, none⟩) rc.length rc.length) = V3 at *
  refine (toIntSS_c D d rd V3 (hd.ex xx)).mono ?_
  rintro e w3 ⟨g3, gs3, rfl, f3, z3⟩
  have m3 : CM w3 (w.heap.size + 1 + 1 + 1) (.slice (some ⟨g3, 0, none⟩) rd.length rd.length) rd := ⟨_, _, rfl, f3.more sz⟩
  have m0 := m0.ex z3
  have m1 := m1.ex z3
  have m2 := m2.ex z3
  have dA := dA.ex z3
  have dB := dB.ex z3
  have dC := dC.ex z3
  have xx := xx.trans z3
  have sz := Nat.le_trans sz z3.size
  have c0 := dC.cell 0 (v := .int .i64 x) rfl
  have c1 := dC.cell 1 (v := .int .i64 y) rfl
  have c2 := dC.cell 2 (v := .int .i64 z) rfl
  have c3 := dC.cell 3 (v := .slice (some ⟨g0, 0, none⟩) ra.length ra.length) rfl
  have c4 := dC.cell 4 (v := .slice (some ⟨g1, 0, none⟩) rb.length rb.length) rfl
  have c5 := dC.cell 5 (v := .slice (some ⟨g2, 0, none⟩) rc.length rc.length) rfl
  have c6 := dC.cell 6 (v := .slice none 0 0) rfl
  have q2 := dC.frozen 6
  have t0 := dB.cell 0 (v := .int .i64 0) rfl
  have s0 := dB.frozen 0
  have t1 := dB.cell 1 (v := .int .i64 0) rfl
  have s1 := dB.frozen 1
  have t2 := dB.cell 2 (v := .int .i64 0) rfl
  have s2 := dB.frozen 2
  have t3 := dB.cell 3 (v := .slice none 0 0) rfl
  have s3 := dB.frozen 3
  have t4 := dB.cell 4 (v := .slice none 0 0) rfl
  have s4 := dB.frozen 4
  have t5 := dB.cell 5 (v := .slice none 0 0) rfl
  have s5 := dB.frozen 5
  have t6 := dB.cell 6 (v := .slice none 0 0) rfl
  have s6 := dB.frozen 6
  go_wp2_with fail
  clear q2 c0 t0 s0 c1 t1 s1 c2 t2 s2 c3 t3 s3 c4 t4 s4 c5 t5 s5 c6 t6 s6
  have p1 : Ex1 (w.heap.size + 1 + 1) w3 (w3.setCell ⟨w.heap.size + 1 + 1, 6, none⟩ (.slice (some ⟨g3, 0, none⟩) rd.length rd.length)) := (Ex1.refl _ _).setCell rfl _
  have dC : VB (w3.setCell ⟨w.heap.size + 1 + 1, 6, none⟩ (.slice (some ⟨g3, 0, none⟩) rd.length rd.length)) (w.heap.size + 1 + 1) 29 #[.int .i64 x, .int .i64 y, .int .i64 z, .slice (some ⟨g0, 0, none⟩) ra.length ra.length, .slice (some ⟨g1, 0, none⟩) rb.length rb.length, .slice (some ⟨g2, 0, none⟩) rc.length rc.length, .slice (some ⟨g3, 0, none⟩) rd.length rd.length] := dC.set_ 6 _
  have dA := dA.ex1 p1 (by omega)
  have dB := dB.ex1 p1 (by omega)
  have m0 := m0.ex1 p1 (by omega)
  have m1 := m1.ex1 p1 (by omega)
  have m2 := m2.ex1 p1 (by omega)
  have m3 := m3.ex1 p1 (by omega)
  have sz := Nat.le_trans sz p1.size
  have xx := xx.ex1 p1 (by omega)
  clear p1 z3
  generalize w3.setCell ⟨w.heap.size + 1 + 1, 6, none⟩ (.slice (some ⟨g3, 0, none⟩) rd.length rd.length) = V4 at *
  have p1 : Ex1 (w.heap.size + 1) V4 ((((((((V4).setCell ⟨w.heap.size + 1, 0, none⟩ (.int .i64 x)).setCell ⟨w.heap.size + 1, 1, none⟩ (.int .i64 y)).setCell ⟨w.heap.size + 1, 2, none⟩ (.int .i64 z)).setCell ⟨w.heap.size + 1, 3, none⟩ (.slice (some ⟨g0, 0, none⟩) ra.length ra.length)).setCell ⟨w.heap.size + 1, 4, none⟩ (.slice (some ⟨g1, 0, none⟩) rb.length rb.length)).setCell ⟨w.heap.size + 1, 5, none⟩ (.slice (some ⟨g2, 0, none⟩) rc.length rc.length)).setCell ⟨w.heap.size + 1, 6, none⟩ (.slice (some ⟨g3, 0, none⟩) rd.length rd.length)) := ((((((((Ex1.refl (w.heap.size + 1) V4)).setCell (p := ⟨w.heap.size + 1, 0, none⟩) rfl _).setCell (p := ⟨w.heap.size + 1, 1, none⟩) rfl _).setCell (p := ⟨w.heap.size + 1, 2, none⟩) rfl _).setCell (p := ⟨w.heap.size + 1, 3, none⟩) rfl _).setCell (p := ⟨w.heap.size + 1, 4, none⟩) rfl _).setCell (p := ⟨w.heap.size + 1, 5, none⟩) rfl _).setCell (p := ⟨w.heap.size + 1, 6, none⟩) rfl _
  have dB : VB ((((((((V4).setCell ⟨w.heap.size + 1, 0, none⟩ (.int .i64 x)).setCell ⟨w.heap.size + 1, 1, none⟩ (.int .i64 y)).setCell ⟨w.heap.size + 1, 2, none⟩ (.int .i64 z)).setCell ⟨w.heap.size + 1, 3, none⟩ (.slice (some ⟨g0, 0, none⟩) ra.length ra.length)).setCell ⟨w.heap.size + 1, 4, none⟩ (.slice (some ⟨g1, 0, none⟩) rb.length rb.length)).setCell ⟨w.heap.size + 1, 5, none⟩ (.slice (some ⟨g2, 0, none⟩) rc.length rc.length)).setCell ⟨w.heap.size + 1, 6, none⟩ (.slice (some ⟨g3, 0, none⟩) rd.length rd.length)) (w.heap.size + 1) 29 #[.int .i64 x, .int .i64 y, .int .i64 z, .slice (some ⟨g0, 0, none⟩) ra.length ra.length, .slice (some ⟨g1, 0, none⟩) rb.length rb.length, .slice (some ⟨g2, 0, none⟩) rc.length rc.length, .slice (some ⟨g3, 0, none⟩) rd.length rd.length] := (((((((dB).set_ 0 _).set_ 1 _).set_ 2 _).set_ 3 _).set_ 4 _).set_ 5 _).set_ 6 _
  have m0 := m0.ex1 p1 (by omega)
  have m1 := m1.ex1 p1 (by omega)
  have m2 := m2.ex1 p1 (by omega)
  have m3 := m3.ex1 p1 (by omega)
  have xx := xx.ex1 p1 (by omega)
  clear p1
  generalize (((((((V4).setCell ⟨w.heap.size + 1, 0, none⟩ (.int .i64 x)).setCell ⟨w.heap.size + 1, 1, none⟩ (.int .i64 y)).setCell ⟨w.heap.size + 1, 2, none⟩ (.int .i64 z)).setCell ⟨w.heap.size + 1, 3, none⟩ (.slice (some ⟨g0, 0, none⟩) ra.length ra.length)).setCell ⟨w.heap.size + 1, 4, none⟩ (.slice (some ⟨g1, 0, none⟩) rb.length rb.length)).setCell ⟨w.heap.size + 1, 5, none⟩ (.slice (some ⟨g2, 0, none⟩) rc.length rc.length)).setCell ⟨w.heap.size + 1, 6, none⟩ (.slice (some ⟨g3, 0, none⟩) rd.length rd.length) = V5 at *
  have c0 := dB.cell 0 (v := .int .i64 x) rfl
  have c1 := dB.cell 1 (v := .int .i64 y) rfl
  have c2 := dB.cell 2 (v := .int .i64 z) rfl
  have c3 := dB.cell 3 (v := .slice (some ⟨g0, 0, none⟩) ra.length ra.length) rfl
  have c4 := dB.cell 4 (v := .slice (some ⟨g1, 0, none⟩) rb.length rb.length) rfl
  have c5 := dB.cell 5 (v := .slice (some ⟨g2, 0, none⟩) rc.length rc.length) rfl
  have c6 := dB.cell 6 (v := .slice (some ⟨g3, 0, none⟩) rd.length rd.length) rfl
  refine bodyPost_ret (v := .agg #[.int .i64 x, .int .i64 y, .int .i64 z, .slice (some ⟨g0, 0, none⟩) ra.length ra.length, .slice (some ⟨g1, 0, none⟩) rb.length rb.length, .slice (some ⟨g2, 0, none⟩) rc.length rc.length, .slice (some ⟨g3, 0, none⟩) rd.length rd.length]) (by simp [results, Tryd.results13, go_sem, c0, c1, c2, c3, c4, c5, c6]) rfl ?_
  exact ⟨_, _, _, _, rfl, m0.more (by omega), m1.more (by omega), m2.more (by omega), m3.more (by omega), xx⟩
set_option maxHeartbeats 1000000 in
theorem eqStateSpace_c (x y z : Int) (A B C D A' B' C' D' : Option Addr) (a b c d a' b' c' d' : Nat) (ra rb rc rd : List (List Int)) (w : World) (ha : RdM w A ra) (ka : RdM w A' ra) (hb : RdM w B rb) (kb : RdM w B' rb) (hc : RdM w C rc) (kc : RdM w C' rc) (hd : RdM w D rd) (kd : RdM w D' rd) :
    Calls Tryd.prog 17 #[.agg #[.int .i64 x, .int .i64 y, .int .i64 z, .slice A ra.length a, .slice B rb.length b, .slice C rc.length c, .slice D rd.length d], .agg #[.int .i64 x, .int .i64 y, .int .i64 z, .slice A' ra.length a', .slice B' rb.length b', .slice C' rc.length c', .slice D' rd.length d']] w fun e w' => e = .returned (.bool true) ∧ Ex w w' := by
  have x1 := (Ex.refl w).alloc (.cells #[.int .i64 x, .int .i64 y, .int .i64 z, .slice A ra.length a, .slice B rb.length b, .slice C rc.length c, .slice D rd.length d] 29)
  have d1 := VB.new w 29 #[.int .i64 x, .int .i64 y, .int .i64 z, .slice A ra.length a, .slice B rb.length b, .slice C rc.length c, .slice D rd.length d]
  have S1 := Lib.hid (show (w.alloc (.cells #[.int .i64 x, .int .i64 y, .int .i64 z, .slice A ra.length a, .slice B rb.length b, .slice C rc.length c, .slice D rd.length d] 29)).heap.size = w.heap.size + 1 by simp)
  go_enter Tryd.func17, Tryd.ntmps17
  go_wp2_with fail
  generalize w.alloc (.cells #[.int .i64 x, .int .i64 y, .int .i64 z, .slice A ra.length a, .slice B rb.length b, .slice C rc.length c, .slice D rd.length d] 29) = W1 at *
  have y2 := (Ex.refl W1).alloc (.cells #[.int .i64 x, .int .i64 y, .int .i64 z, .slice A' ra.length a', .slice B' rb.length b', .slice C' rc.length c', .slice D' rd.length d'] 29)
  have d2 := VB.new W1 29 #[.int .i64 x, .int .i64 y, .int .i64 z, .slice A' ra.length a', .slice B' rb.length b', .slice C' rc.length c', .slice D' rd.length d']
  rw [S1.out] at d2
  generalize W1.alloc (.cells #[.int .i64 x, .int .i64 y, .int .i64 z, .slice A' ra.length a', .slice B' rb.length b', .slice C' rc.length c', .slice D' rd.length d'] 29) = V0 at *
  have xx := x1.trans y2
  have dA := d1.ex y2
  have dB := d2
  clear x1 d1 d2 y2 S1
  refine (eqIntSS_c A A' a a' ra V0 (ha.ex xx) (ka.ex xx)).mono ?_
  rintro e V1 ⟨rfl, z0⟩
  have dA := dA.ex z0
  have dB := dB.ex z0
  have xx := xx.trans z0
  have q0 := dA.cell 4 (v := .slice B rb.length b) rfl
  have q1 := dB.cell 4 (v := .slice B' rb.length b') rfl
  go_wp2_with fail
  clear q0 q1
  refine (eqIntSS_c B B' b b' rb V1 (hb.ex xx) (kb.ex xx)).mono ?_
  rintro e V2 ⟨rfl, z1⟩
  have dA := dA.ex z1
  have dB := dB.ex z1
  have xx := xx.trans z1
  have q0 := dA.cell 5 (v := .slice C rc.length c) rfl
  have q1 := dB.cell 5 (v := .slice C' rc.length c') rfl
  go_wp2_with fail
  clear q0 q1
  refine (eqIntSS_c C C' c c' rc V2 (hc.ex xx) (kc.ex xx)).mono ?_
  rintro e V3 ⟨rfl, z2⟩
  have dA := dA.ex z2
  have dB := dB.ex z2
  have xx := xx.trans z2
  have q0 := dA.cell 6 (v := .slice D rd.length d) rfl
  have q1 := dB.cell 6 (v := .slice D' rd.length d') rfl
  go_wp2_with fail
  clear q0 q1
  refine (eqIntSS_c D D' d d' rd V3 (hd.ex xx) (kd.ex xx)).mono ?_
  rintro e V4 ⟨rfl, z3⟩
  have dA := dA.ex z3
  have dB := dB.ex z3
  have xx := xx.trans z3
  go_wp2
  go_ret
  exact ⟨rfl, xx⟩
end Go.Proofs.YtkpfmnconnopnaaDoor
