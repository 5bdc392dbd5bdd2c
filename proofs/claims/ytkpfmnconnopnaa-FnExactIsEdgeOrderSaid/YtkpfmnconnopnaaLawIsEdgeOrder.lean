/- The law on IsEdgeOrder: the program's answer is the reference's, for all arguments; the walk of the law's own text. No conditions. -/
import Derived.Test.YtkpfmnconnopnaaGrX
import Derived.Test.YtkpfmnconnopnaaU
import Derived.RegionCalls
import Derived.Deep.RegionWith
import Derived.Deep.RegionHeld3
import Derived.Deep.Cut
namespace Go.Proofs.Ytkpfmnconnopnaa
set_option maxRecDepth 100000
open Go Go.RowKit
set_option maxHeartbeats 8000000 in
set_option maxRecDepth 100000 in
theorem lawIsEdgeOrder_big1 (g_c0 g_c1 g_c2 g_c3 : Value) (gz : Int) (orderA : Option Addr) (ordern orderc : Nat) (w : World) (gq : QS 8 w (.agg #[g_c0, g_c1, g_c2, g_c3]) gz) (h0g : 0 ≤ gz) (hborder : ordern ≤ 1048576) (hbig : 1048576 < gz) :
    Calls Try.prog 5 #[.agg #[g_c0, g_c1, g_c2, g_c3], .slice orderA ordern orderc] w fun e w' => e = .returned (.bool true) ∧ Ex w w' := by
  have xw := (Ex.refl w).alloc (.cells #[g_c0, g_c1, g_c2, g_c3] 25)
  have v_g := VB.new w 25 #[g_c0, g_c1, g_c2, g_c3]
  go_enter Try.func5, Try.ntmps5
  go_wp2_with fail
  generalize w.alloc (.cells #[g_c0, g_c1, g_c2, g_c3] 25) = Wp0 at *
  have hs := gq Wp0 (1048576) xw (by omega) (by omega)
  rw [if_pos (by omega)] at hs
  refine hs.mono ?_
  clear hs
  rintro e wz ⟨rfl, xz⟩
  go_wp2
  go_ret
  exact ⟨rfl, xw.trans xz⟩
set_option maxHeartbeats 8000000 in
set_option maxRecDepth 100000 in
theorem lawIsEdgeOrder_len_order (g_c0 g_c1 g_c2 g_c3 : Value) (orderA : Option Addr) (ordern orderc : Nat) (w : World) (hbig : 1048576 < ordern) (hm : ordern ≤ 9223372036854775807) :
    Calls Try.prog 5 #[.agg #[g_c0, g_c1, g_c2, g_c3], .slice orderA ordern orderc] w fun e w' => e = .returned (.bool true) ∧ Ex w w' := by
  have xw := (Ex.refl w).alloc (.cells #[g_c0, g_c1, g_c2, g_c3] 25)
  have v_g := VB.new w 25 #[g_c0, g_c1, g_c2, g_c3]
  go_enter Try.func5, Try.ntmps5
  go_wp2_with fail
  generalize w.alloc (.cells #[g_c0, g_c1, g_c2, g_c3] 25) = Wp0 at *
  go_ret
  exact ⟨rfl, xw⟩
set_option maxHeartbeats 8000000 in
set_option maxRecDepth 100000 in
theorem lawIsEdgeOrder_walk (g : Gr) (g_0 g_1 g_2 : Value) (gz : Int) (order : List Int) (order_0 : Value) (w : World) (gh : RGr w g_0 g_1 g_2 g) (gq : QS 8 w (.agg #[.int .i64 g.wires, g_0, g_1, g_2]) gz) (h0g : 0 ≤ gz) (orderh : RI w order_0 order) (hborder : order.length ≤ 1048576) (hl : gz ≤ 1048576) :
    Calls Try.prog 5 #[.agg #[.int .i64 g.wires, g_0, g_1, g_2], order_0] w fun e w' => e = .returned (.bool true) ∧ Ex w w' := by
  obtain ⟨r0, hr⟩ : ∃ r0, isoU g order = (r0) := ⟨_, rfl⟩
  have Hr := Lib.hid hr
  clear hr
  obtain ⟨orderA, orderc, rfl, orderR⟩ := orderh
  have orderh : RI w (.slice orderA order.length orderc) order := ⟨orderA, orderc, rfl, orderR⟩
  have tn_g := totGr_nn g
  have tb_g := gh.tot
  have tn_order := totI_nn order
  have tb_order := orderh.tot
  have xw := (Ex.refl w).alloc (.cells #[.int .i64 g.wires, g_0, g_1, g_2] 25)
  have v_g := VB.new w 25 #[.int .i64 g.wires, g_0, g_1, g_2]
  go_enter Try.func5, Try.ntmps5
  go_wp2_with fail
  generalize w.alloc (.cells #[.int .i64 g.wires, g_0, g_1, g_2] 25) = Wp0 at *
  have zWp := xw.size
  have xp := Ex.refl Wp0
  have hs := gq Wp0 (1048576) xw (by omega) (by omega)
  rw [if_neg (by omega)] at hs
  refine hs.mono ?_
  clear hs
  rintro e o1 ⟨rfl, xo1⟩
  replace xw := xw.trans xo1
  replace xp := xp.trans xo1
  have zo1 := xo1.size
  have qv_g0 := (v_g.ex xp).cell 0 (v := .int .i64 g.wires) rfl
  have qv_g1 := (v_g.ex xp).cell 1 (v := g_0) rfl
  have qv_g2 := (v_g.ex xp).cell 2 (v := g_1) rfl
  have qv_g3 := (v_g.ex xp).cell 3 (v := g_2) rfl
  go_wp2_with fail
  clear qv_g0 qv_g1 qv_g2 qv_g3
  refine (toGraph_u g g_0 g_1 g_2 o1 (gh.ex xw)).mono ?_
  rintro e o2 ⟨o2_0, o2_1, o2_2, rfl, fo2, xo2⟩
  obtain ⟨o2A0, o2N0, o2C0, o2A1, o2N1, o2C1, o2A2, o2N2, o2C2, rfl, rfl, rfl⟩ := fo2.rd.form
  replace xw := xw.trans xo2
  replace xp := xp.trans xo2
  have zo2 := xo2.size
  go_wp2_with fail
  refine (toIntS_u order (.slice orderA order.length orderc) o2 (orderh.ex xw)).mono ?_
  rintro e o3 ⟨o3_0, rfl, fo3, xo3⟩
  obtain ⟨o3A0, o3N0, o3C0, rfl⟩ := fo3.rd.form
  replace xw := xw.trans xo3
  replace xp := xp.trans xo3
  replace fo2 := fo2.ex xo3
  have zo3 := xo3.size
  go_wp2_with fail
  refine (spIsEdgeOrder_u _ _ _ _  _ _ o3 fo2.rd fo3.rdc).mono ?_
  intro e o4 ho4
  rw [Hr.out] at ho4
  obtain ⟨rfl, xo4⟩ := ho4
  dsimp only
  replace xw := xw.trans xo4
  replace xp := xp.trans xo4
  replace fo2 := fo2.ex xo4
  replace fo3 := fo3.ex xo4
  have zo4 := xo4.size
  clear fo2
  clear fo3
  have xs := Ex.refl o4
  have qv_g0 := (v_g.ex xp).cell 0 (v := .int .i64 g.wires) rfl
  have qv_g1 := (v_g.ex xp).cell 1 (v := g_0) rfl
  have qv_g2 := (v_g.ex xp).cell 2 (v := g_1) rfl
  have qv_g3 := (v_g.ex xp).cell 3 (v := g_2) rfl
  go_wp2_with fail
  clear qv_g0 qv_g1 qv_g2 qv_g3
  refine (toGraph_u g g_0 g_1 g_2 o4 (gh.ex xw)).mono ?_
  rintro e o5 ⟨o5_0, o5_1, o5_2, rfl, fo5, xo5⟩
  obtain ⟨o5A0, o5N0, o5C0, o5A1, o5N1, o5C1, o5A2, o5N2, o5C2, rfl, rfl, rfl⟩ := fo5.rd.form
  replace xw := xw.trans xo5
  replace xp := xp.trans xo5
  replace xs := xs.trans xo5
  have zo5 := xo5.size
  go_wp2_with fail
  have xa := (Ex.refl o5).alloc (.cells #[.int .i64 g.wires, (.slice o5A0 o5N0 o5C0), (.slice o5A1 o5N1 o5C1), (.slice o5A2 o5N2 o5C2)] 30)
  have vx_g := VB.new o5 30 #[.int .i64 g.wires, (.slice o5A0 o5N0 o5C0), (.slice o5A1 o5N1 o5C1), (.slice o5A2 o5N2 o5C2)]
  have vx_gl := vx_g.lt
  generalize o5.alloc (.cells #[.int .i64 g.wires, (.slice o5A0 o5N0 o5C0), (.slice o5A1 o5N1 o5C1), (.slice o5A2 o5N2 o5C2)] 30) = o6 at *
  replace xw := xw.trans xa
  replace xp := xp.trans xa
  replace xs := xs.trans xa
  replace fo5 := fo5.ex xa
  have zo6 := xa.size
  clear xa
  refine (toIntS_u order (.slice orderA order.length orderc) o6 (orderh.ex xw)).mono ?_
  rintro e o7 ⟨o7_0, rfl, fo7, xo7⟩
  obtain ⟨o7A0, o7N0, o7C0, rfl⟩ := fo7.rd.form
  replace xw := xw.trans xo7
  replace xp := xp.trans xo7
  replace xs := xs.trans xo7
  replace fo5 := fo5.ex xo7
  replace vx_g := vx_g.ex xo7
  have zo7 := xo7.size
  have qvx_g0 := vx_g.cell 0 (v := .int .i64 g.wires) rfl
  have qvx_g1 := vx_g.cell 1 (v := (.slice o5A0 o5N0 o5C0)) rfl
  have qvx_g2 := vx_g.cell 2 (v := (.slice o5A1 o5N1 o5C1)) rfl
  have qvx_g3 := vx_g.cell 3 (v := (.slice o5A2 o5N2 o5C2)) rfl
  go_wp2_with fail
  clear qvx_g0 qvx_g1 qvx_g2 qvx_g3
  refine (IsEdgeOrder_u _ _ _ _  _ _ o7 fo5.rd fo7.rdc).mono ?_
  intro e o8 ho8
  rw [Hr.out] at ho8
  obtain ⟨rfl, xo8⟩ := ho8
  dsimp only
  replace xw := xw.trans xo8
  replace xp := xp.trans xo8
  replace xs := xs.trans xo8
  replace fo5 := fo5.ex xo8
  replace vx_g := vx_g.ex xo8
  replace fo7 := fo7.ex xo8
  have zo8 := xo8.size
  have qvx_g0 := vx_g.cell 0 (v := .int .i64 g.wires) rfl
  have qvx_g1 := vx_g.cell 1 (v := (.slice o5A0 o5N0 o5C0)) rfl
  have qvx_g2 := vx_g.cell 2 (v := (.slice o5A1 o5N1 o5C1)) rfl
  have qvx_g3 := vx_g.cell 3 (v := (.slice o5A2 o5N2 o5C2)) rfl
  have qv_g0 := (v_g.ex xp).cell 0 (v := .int .i64 g.wires) rfl
  have qv_g1 := (v_g.ex xp).cell 1 (v := g_0) rfl
  have qv_g2 := (v_g.ex xp).cell 2 (v := g_1) rfl
  have qv_g3 := (v_g.ex xp).cell 3 (v := g_2) rfl
  go_wp2_with fail
  go_region_held3 (fun W => W.cell? ⟨o5.heap.size, 0, none⟩ = some (.int .i64 g.wires) ∧ W.cell? ⟨o5.heap.size, 1, none⟩ = some ((.slice o5A0 o5N0 o5C0)) ∧ W.cell? ⟨o5.heap.size, 2, none⟩ = some ((.slice o5A1 o5N1 o5C1)) ∧ W.cell? ⟨o5.heap.size, 3, none⟩ = some ((.slice o5A2 o5N2 o5C2)) ∧ W.cell? ⟨w.heap.size, 0, none⟩ = some (.int .i64 g.wires) ∧ W.cell? ⟨w.heap.size, 1, none⟩ = some (g_0) ∧ W.cell? ⟨w.heap.size, 2, none⟩ = some (g_1) ∧ W.cell? ⟨w.heap.size, 3, none⟩ = some (g_2)) (first | (exact ⟨(cell_ex xo10 (cell_ex xo9 qvx_g0)), (cell_ex xo10 (cell_ex xo9 qvx_g1)), (cell_ex xo10 (cell_ex xo9 qvx_g2)), (cell_ex xo10 (cell_ex xo9 qvx_g3)), (cell_ex xo10 (cell_ex xo9 qv_g0)), (cell_ex xo10 (cell_ex xo9 qv_g1)), (cell_ex xo10 (cell_ex xo9 qv_g2)), (cell_ex xo10 (cell_ex xo9 qv_g3))⟩) | (exact ⟨(cell_ex xo9 qvx_g0), (cell_ex xo9 qvx_g1), (cell_ex xo9 qvx_g2), (cell_ex xo9 qvx_g3), (cell_ex xo9 qv_g0), (cell_ex xo9 qv_g1), (cell_ex xo9 qv_g2), (cell_ex xo9 qv_g3)⟩) | (exact ⟨qvx_g0, qvx_g1, qvx_g2, qvx_g3, qv_g0, qv_g1, qv_g2, qv_g3⟩)) (first
    | (go_at_call 10
       refine (toGraph_u g g_0 g_1 g_2 o8.drew (gh.ex xw.drew)).mono ?_
       rintro e o9 ⟨o9_0, o9_1, o9_2, rfl, fo9, xo9⟩)
    | (go_at_call 12
       refine (eqGraph_u g (.slice o5A0 o5N0 o5C0) (.slice o5A1 o5N1 o5C1) (.slice o5A2 o5N2 o5C2) o9_0 o9_1 o9_2 _ ((fo5.rd.ex (Ex.refl o8).drew).ex xo9) fo9.rd).mono ?_
       rintro e o10 ⟨rfl, xo10⟩))
  have xd : Ex o8 o10 := ((Ex.refl o8).drew.trans xo9).trans xo10
  clear qvx_g0 qvx_g1 qvx_g2 qvx_g3 qv_g0 qv_g1 qv_g2 qv_g3 fo9 xo9 xo10
  replace xw := xw.trans xd
  replace xp := xp.trans xd
  replace xs := xs.trans xd
  replace fo5 := fo5.ex xd
  replace vx_g := vx_g.ex xd
  replace fo7 := fo7.ex xd
  have zo10 := xd.size
  clear xd
  go_wp2_with fail
  refine (toIntS_u order (.slice orderA order.length orderc) o10 (orderh.ex xw)).mono ?_
  rintro e o11 ⟨o11_0, rfl, fo11, xo11⟩
  obtain ⟨o11A0, o11N0, o11C0, rfl⟩ := fo11.rd.form
  replace xw := xw.trans xo11
  replace xp := xp.trans xo11
  replace xs := xs.trans xo11
  replace fo5 := fo5.ex xo11
  replace vx_g := vx_g.ex xo11
  replace fo7 := fo7.ex xo11
  have zo11 := xo11.size
  go_wp2_with fail
  refine (eqIntS_u order (.slice o7A0 o7N0 o7C0) (.slice o11A0 o11N0 o11C0) o11 fo7.rd fo11.rd).mono ?_
  rintro e o12 ⟨rfl, xo12⟩
  replace xw := xw.trans xo12
  replace xp := xp.trans xo12
  replace xs := xs.trans xo12
  replace fo5 := fo5.ex xo12
  replace vx_g := vx_g.ex xo12
  replace fo7 := fo7.ex xo12
  replace fo11 := fo11.ex xo12
  have zo12 := xo12.size
  clear fo11
  go_wp2
  all_goals go_ret
  exact ⟨rfl, xw⟩
end Go.Proofs.Ytkpfmnconnopnaa
