/- The law on IsStateSpace: the program's answer is the reference's; the walk of the law's own text. -/
import Derived.Test.YtpiplogjbeofoaaDoorSpaceGood
import Derived.RegionCalls
import Derived.Deep.RegionWith
namespace Go.Proofs.YtpiplogjbeofoaaDoor
set_option maxRecDepth 100000
open Go Go.RowKit
set_option maxHeartbeats 400000 in
theorem spIsStateSpace_c (p x y z : Int) (A B C D : Option Addr) (a b c d : Nat) (ra rb rc rd : List (List Int)) (w : World) (ha : RdM w A ra) (hb : RdM w B rb) (hc : RdM w C rc) (hd : RdM w D rd) :
    Calls Tryd.prog 16 #[.int .i64 p, .agg #[.int .i64 x, .int .i64 y, .int .i64 z, .slice A ra.length a, .slice B rb.length b, .slice C rc.length c, .slice D rd.length d]] w fun e w' => e = .returned (.bool (ssB p x y z ra rb rc rd)) ∧ Ex w w' := by
  have x0 := (Ex.refl w).alloc (.cells #[.int .i64 x, .int .i64 y, .int .i64 z, .slice A ra.length a, .slice B rb.length b, .slice C rc.length c, .slice D rd.length d] 27)
  go_enter Tryd.func16, Tryd.ntmps16
  go_wp2_with fail
  refine (ssGood_c p x y z A B C D a b c d ra rb rc rd _ (ha.ex x0) (hb.ex x0) (hc.ex x0) (hd.ex x0)).mono ?_
  rintro e w1 ⟨rfl, x1⟩
  go_wp2
  go_ret
  exact ⟨rfl, x0.trans x1⟩
set_option maxHeartbeats 400000 in
theorem IsStateSpace_c (p x y z : Int) (A B C D : Option Addr) (a b c d : Nat) (ra rb rc rd : List (List Int)) (w : World) (ha : RdM w A ra) (hb : RdM w B rb) (hc : RdM w C rc) (hd : RdM w D rd) (ht : Tb w) :
    Calls Tryd.prog 18 #[.int .i64 p, .agg #[.int .i64 x, .int .i64 y, .int .i64 z, .slice A ra.length a, .slice B rb.length b, .slice C rc.length c, .slice D rd.length d]] w fun e w' => e = .returned (.bool (ssB p x y z ra rb rc rd)) ∧ Ex w w' := by
  have x0 := (Ex.refl w).alloc (.cells #[.int .i64 x, .int .i64 y, .int .i64 z, .slice A ra.length a, .slice B rb.length b, .slice C rc.length c, .slice D rd.length d] 27)
  go_enter Tryd.func18, Tryd.ntmps18
  go_wp2_with fail
  refine (isStateSpace_c p x y z A B C D a b c d ra rb rc rd _ (ha.ex x0) (hb.ex x0) (hc.ex x0) (hd.ex x0) (ht.ex x0)).mono ?_
  rintro e w1 ⟨rfl, x1⟩
  go_wp2
  go_ret
  exact ⟨rfl, x0.trans x1⟩
set_option maxHeartbeats 2000000 in
set_option maxRecDepth 100000 in
theorem lawIsStateSpace_big (p x y z : Int) (A B C D : Option Addr) (a b c d : Nat) (ra rb rc rd : List Nat) (w : World) (ha : RdH w A ra) (hb : RdH w B rb) (hc : RdH w C rc) (hd : RdH w D rd) (na : ra.length ≤ 9223372036854775807) (nb : rb.length ≤ 9223372036854775807) (nc : rc.length ≤ 9223372036854775807) (nd : rd.length ≤ 9223372036854775807) (hneg : szS 1048576 [ra, rb, rc, rd] < 0) :
    Calls Tryd.prog 3 #[.int .i64 p, .agg #[.int .i64 x, .int .i64 y, .int .i64 z, .slice A ra.length a, .slice B rb.length b, .slice C rc.length c, .slice D rd.length d]] w fun e w' => e = .returned (.bool true) ∧ Ex w w' := by
  have x0 := (Ex.refl w).alloc (.cells #[.int .i64 x, .int .i64 y, .int .i64 z, .slice A ra.length a, .slice B rb.length b, .slice C rc.length c, .slice D rd.length d] 24)
  go_enter Tryd.func3, Tryd.ntmps3
  go_wp2_with fail
  refine (szStateSpace_c x y z A B C D a b c d ra rb rc rd 1048576 _ (ha.ex x0) (hb.ex x0) (hc.ex x0) (hd.ex x0) na nb nc nd (by omega) (by omega)).mono ?_
  rintro e w1 ⟨rfl, x1⟩
  go_wp2
  go_ret
  exact ⟨rfl, x0.trans x1⟩
theorem RdM.hd {w : World} {A : Option Addr} {rows : List (List Int)} (h : RdM w A rows) : RdH w A (rows.map List.length) := fun j n hj => by
  rw [List.getElem?_map] at hj
  cases hr : rows[j]? with
  | none => rw [hr] at hj; cases hj
  | some r =>
    rw [hr] at hj
    injection hj with hj
    subst hj
    obtain ⟨g, off, A', c, hA, hc, hrd⟩ := h.2 j r hr
    exact ⟨by have := hrd.len; omega, g, off, A', c, hA, hc⟩
theorem CM.rd {w : World} {B : Nat} {u : Value} {rows : List (List Int)} (h : CM w B u rows) (hl : rows.length ≤ 1099511627776) (hr : ∀ r ∈ rows, r.length ≤ 1099511627776) : ∃ A c, u = .slice A rows.length c ∧ RdM w A rows := by
  obtain ⟨g, gs, e, f⟩ := h
  exact ⟨_, _, e, f.rd hl hr⟩
theorem RdM.rows {w : World} {A : Option Addr} {rows : List (List Int)} (h : RdM w A rows) : ∀ r ∈ rows, r.length ≤ 1099511627776 := fun r hr => by
  obtain ⟨j, hj⟩ := List.getElem?_of_mem hr
  obtain ⟨g, off, A', c, hA, hc, hrd⟩ := h.2 j r hj
  exact hrd.len
set_option maxHeartbeats 4000000 in
set_option maxRecDepth 100000 in
theorem lawIsStateSpace_walk (p x y z : Int) (A B C D : Option Addr) (a b c d : Nat) (ra rb rc rd : List (List Int)) (w : World) (ha : RdM w A ra) (hb : RdM w B rb) (hc : RdM w C rc) (hd : RdM w D rd) (hs : 0 ≤ szS 1048576 [ra.map List.length, rb.map List.length, rc.map List.length, rd.map List.length]) (ht : Tb w) :
    Calls Tryd.prog 3 #[.int .i64 p, .agg #[.int .i64 x, .int .i64 y, .int .i64 z, .slice A ra.length a, .slice B rb.length b, .slice C rc.length c, .slice D rd.length d]] w fun e w' => e = .returned (.bool true) ∧ Ex w w' := by
  have x0 := (Ex.refl w).alloc (.cells #[.int .i64 x, .int .i64 y, .int .i64 z, .slice A ra.length a, .slice B rb.length b, .slice C rc.length c, .slice D rd.length d] 24)
  have v0 := VB.new w 24 #[.int .i64 x, .int .i64 y, .int .i64 z, .slice A ra.length a, .slice B rb.length b, .slice C rc.length c, .slice D rd.length d]
  go_enter Tryd.func3, Tryd.ntmps3
  go_wp2_with fail
  generalize w.alloc (.cells #[.int .i64 x, .int .i64 y, .int .i64 z, .slice A ra.length a, .slice B rb.length b, .slice C rc.length c, .slice D rd.length d] 24) = W at *
  have hsz := szStateSpace_c x y z A B C D a b c d _ _ _ _ 1048576 W (ha.ex x0).hd (hb.ex x0).hd (hc.ex x0).hd (hd.ex x0).hd (by rw [List.length_map]; have := ha.1; omega) (by rw [List.length_map]; have := hb.1; omega) (by rw [List.length_map]; have := hc.1; omega) (by rw [List.length_map]; have := hd.1; omega) (by omega) (by omega)
  simp only [List.length_map] at hsz
  refine hsz.mono ?_
  rintro e w1 ⟨rfl, x1⟩
  generalize szS 1048576 [ra.map List.length, rb.map List.length, rc.map List.length, rd.map List.length] = left at *
  clear hsz
  have v1 := v0.ex x1
  have y1 := x0.trans x1
  have q0 := v1.cell 0 (v := .int .i64 x) rfl
  have q1 := v1.cell 1 (v := .int .i64 y) rfl
  have q2 := v1.cell 2 (v := .int .i64 z) rfl
  have q3 := v1.cell 3 (v := .slice A ra.length a) rfl
  have q4 := v1.cell 4 (v := .slice B rb.length b) rfl
  have q5 := v1.cell 5 (v := .slice C rc.length c) rfl
  have q6 := v1.cell 6 (v := .slice D rd.length d) rfl
  go_wp2_with fail
  refine (toStateSpace_c x y z A B C D a b c d ra rb rc rd w1 (ha.ex y1) (hb.ex y1) (hc.ex y1) (hd.ex y1)).mono ?_
  rintro e w2 ⟨_, _, _, _, rfl, m1, m2, m3, m4, x2⟩
  obtain ⟨Aw2, aw2, rfl, maw2⟩ := m1.rd ha.1 ha.rows
  obtain ⟨Bw2, bw2, rfl, mbw2⟩ := m2.rd hb.1 hb.rows
  obtain ⟨Cw2, cw2, rfl, mcw2⟩ := m3.rd hc.1 hc.rows
  obtain ⟨Dw2, dw2, rfl, mdw2⟩ := m4.rd hd.1 hd.rows
  clear m1 m2 m3 m4
  clear q0 q1 q2 q3 q4 q5 q6
  go_wp2_with fail
  refine (spIsStateSpace_c p x y z Aw2 Bw2 Cw2 Dw2 aw2 bw2 cw2 dw2 ra rb rc rd w2 maw2 mbw2 mcw2 mdw2).mono ?_
  rintro e w3 ⟨rfl, x3⟩
  have y3 := (y1.trans x2).trans x3
  have v3 := (v1.ex x2).ex x3
  have q0 := v3.cell 0 (v := .int .i64 x) rfl
  have q1 := v3.cell 1 (v := .int .i64 y) rfl
  have q2 := v3.cell 2 (v := .int .i64 z) rfl
  have q3 := v3.cell 3 (v := .slice A ra.length a) rfl
  have q4 := v3.cell 4 (v := .slice B rb.length b) rfl
  have q5 := v3.cell 5 (v := .slice C rc.length c) rfl
  have q6 := v3.cell 6 (v := .slice D rd.length d) rfl
  go_wp2_with fail
  refine (toStateSpace_c x y z A B C D a b c d ra rb rc rd w3 (ha.ex y3) (hb.ex y3) (hc.ex y3) (hd.ex y3)).mono ?_
  rintro e w4 ⟨_, _, _, _, rfl, m1, m2, m3, m4, x4⟩
  obtain ⟨Aw4, aw4, rfl, maw4⟩ := m1.rd ha.1 ha.rows
  obtain ⟨Bw4, bw4, rfl, mbw4⟩ := m2.rd hb.1 hb.rows
  obtain ⟨Cw4, cw4, rfl, mcw4⟩ := m3.rd hc.1 hc.rows
  obtain ⟨Dw4, dw4, rfl, mdw4⟩ := m4.rd hd.1 hd.rows
  clear m1 m2 m3 m4
  have y4 := y3.trans x4
  have v4 := v3.ex x4
  clear q0 q1 q2 q3 q4 q5 q6
  go_wp2_with fail
  have x5 := (Ex.refl w4).alloc (.cells #[.int .i64 x, .int .i64 y, .int .i64 z, .slice Aw4 ra.length aw4, .slice Bw4 rb.length bw4, .slice Cw4 rc.length cw4, .slice Dw4 rd.length dw4] 27)
  have v5 := VB.new w4 27 #[.int .i64 x, .int .i64 y, .int .i64 z, .slice Aw4 ra.length aw4, .slice Bw4 rb.length bw4, .slice Cw4 rc.length cw4, .slice Dw4 rd.length dw4]
  generalize w4.alloc (.cells #[.int .i64 x, .int .i64 y, .int .i64 z, .slice Aw4 ra.length aw4, .slice Bw4 rb.length bw4, .slice Cw4 rc.length cw4, .slice Dw4 rd.length dw4] 27) = W5 at *
  generalize w4.heap.size = s4 at *
  have y5 := y4.trans x5
  refine (IsStateSpace_c p x y z Aw4 Bw4 Cw4 Dw4 aw4 bw4 cw4 dw4 ra rb rc rd W5 (maw4.ex x5) (mbw4.ex x5) (mcw4.ex x5) (mdw4.ex x5) (ht.ex y5)).mono ?_
  rintro e w6 ⟨rfl, x6⟩
  have y6 := y5.trans x6
  have v6 := v5.ex x6
  have v46 := (v4.ex x5).ex x6
  have q0 := v46.cell 0 (v := .int .i64 x) rfl
  have q1 := v46.cell 1 (v := .int .i64 y) rfl
  have q2 := v46.cell 2 (v := .int .i64 z) rfl
  have q3 := v46.cell 3 (v := .slice A ra.length a) rfl
  have q4 := v46.cell 4 (v := .slice B rb.length b) rfl
  have q5 := v46.cell 5 (v := .slice C rc.length c) rfl
  have q6 := v46.cell 6 (v := .slice D rd.length d) rfl
  have t0 := v6.cell 0 (v := .int .i64 x) rfl
  have t1 := v6.cell 1 (v := .int .i64 y) rfl
  have t2 := v6.cell 2 (v := .int .i64 z) rfl
  have t3 := v6.cell 3 (v := .slice Aw4 ra.length aw4) rfl
  have t4 := v6.cell 4 (v := .slice Bw4 rb.length bw4) rfl
  have t5 := v6.cell 5 (v := .slice Cw4 rc.length cw4) rfl
  have t6 := v6.cell 6 (v := .slice Dw4 rd.length dw4) rfl
  have ma := (maw4.ex x5).ex x6
  have mb := (mbw4.ex x5).ex x6
  have mc := (mcw4.ex x5).ex x6
  have md := (mdw4.ex x5).ex x6
  go_wp2_with fail
  have z6 := y6.drew
  have ha6 := ha.ex y6.drew
  have hb6 := hb.ex y6.drew
  have hc6 := hc.ex y6.drew
  have hd6 := hd.ex y6.drew
  have na6 := ma.ex (Ex.refl w6).drew
  have nb6 := mb.ex (Ex.refl w6).drew
  have nc6 := mc.ex (Ex.refl w6).drew
  have nd6 := md.ex (Ex.refl w6).drew
  generalize w.heap.size = s0 at *
  go_region_with (first
    | (go_at_call 17
       refine (toStateSpace_c x y z A B C D a b c d ra rb rc rd w6.drew ha6 hb6 hc6 hd6).mono ?_
       rintro e w7 ⟨_, _, _, _, rfl, m1, m2, m3, m4, x7⟩
       obtain ⟨A7, a7, rfl, ma7⟩ := m1.rd ha.1 ha.rows
       obtain ⟨B7, b7, rfl, mb7⟩ := m2.rd hb.1 hb.rows
       obtain ⟨C7, c7, rfl, mc7⟩ := m3.rd hc.1 hc.rows
       obtain ⟨D7, d7, rfl, md7⟩ := m4.rd hd.1 hd.rows
       have t0x := cell_ex x7 (g := s4) (o := 0) (v := .int .i64 x) t0
       have t1x := cell_ex x7 (g := s4) (o := 1) (v := .int .i64 y) t1
       have t2x := cell_ex x7 (g := s4) (o := 2) (v := .int .i64 z) t2
       have t3x := cell_ex x7 (g := s4) (o := 3) (v := .slice Aw4 ra.length aw4) t3
       have t4x := cell_ex x7 (g := s4) (o := 4) (v := .slice Bw4 rb.length bw4) t4
       have t5x := cell_ex x7 (g := s4) (o := 5) (v := .slice Cw4 rc.length cw4) t5
       have t6x := cell_ex x7 (g := s4) (o := 6) (v := .slice Dw4 rd.length dw4) t6)
    | (go_at_call 19
       refine (eqStateSpace_c x y z Aw4 Bw4 Cw4 Dw4 A7 B7 C7 D7 aw4 bw4 cw4 dw4 a7 b7 c7 d7 ra rb rc rd _ (na6.ex x7) ma7 (nb6.ex x7) mb7 (nc6.ex x7) mc7 (nd6.ex x7) md7).mono ?_
       rintro e w8 ⟨rfl, x8⟩))
  all_goals go_wp2
  all_goals go_ret
  all_goals exact ⟨rfl, (z6.trans x7).trans x8⟩
end Go.Proofs.YtpiplogjbeofoaaDoor
