/- The law on IsAcyclic: the program's answer is the reference's, for all arguments; the walk of the law's own text. No conditions. -/
import Derived.Test.YtkpfmnconnopnaaGrV
import Derived.Test.YtkpfmnconnopnaaU
import Derived.RegionCalls
import Derived.Deep.RegionWith
import Derived.Deep.RegionHeld3
import Derived.Deep.Cut
namespace Go.Proofs.Ytkpfmnconnopnaa
set_option maxRecDepth 100000
open Go Go.RowKit
set_option maxHeartbeats 8000000 in
set_option maxRecDepth 100000 in
theorem lawIsAcyclic_big1 (g_c0 g_c1 g_c2 g_c3 : Value) (gz : Int) (w : World) (gq : QS 8 w (.agg #[g_c0, g_c1, g_c2, g_c3]) gz) (h0g : 0 ≤ gz) (hbig : 1048576 < gz) :
    Calls Try.prog 3 #[.agg #[g_c0, g_c1, g_c2, g_c3]] w fun e w' => e = .returned (.bool true) ∧ Ex w w' := by
  have xw := (Ex.refl w).alloc (.cells #[g_c0, g_c1, g_c2, g_c3] 25)
  have v_g := VB.new w 25 #[g_c0, g_c1, g_c2, g_c3]
  go_enter Try.func3, Try.ntmps3
  go_wp2_with fail
  generalize w.alloc (.cells #[g_c0, g_c1, g_c2, g_c3] 25) = Wp0 at *
  have hs := gq Wp0 (1048576) xw (by omega) (by omega)
  rw [if_pos (by omega)] at hs
  refine hs.mono ?_
  clear hs
  rintro e wz ⟨rfl, xz⟩
  go_wp2
  go_ret
  exact ⟨rfl, xw.trans xz⟩
set_option maxHeartbeats 8000000 in
set_option maxRecDepth 100000 in
theorem lawIsAcyclic_walk (g : Gr) (g_0 g_1 g_2 : Value) (gz : Int) (w : World) (gh : RGr w g_0 g_1 g_2 g) (gq : QS 8 w (.agg #[.int .i64 g.wires, g_0, g_1, g_2]) gz) (h0g : 0 ≤ gz) (hl : gz ≤ 1048576) :
    Calls Try.prog 3 #[.agg #[.int .i64 g.wires, g_0, g_1, g_2]] w fun e w' => e = .returned (.bool true) ∧ Ex w w' := by
  obtain ⟨r0, hr⟩ : ∃ r0, acyB g = (r0) := ⟨_, rfl⟩
  have Hr := Lib.hid hr
  clear hr
  have tn_g := totGr_nn g
  have tb_g := gh.tot
  have xw := (Ex.refl w).alloc (.cells #[.int .i64 g.wires, g_0, g_1, g_2] 25)
  have v_g := VB.new w 25 #[.int .i64 g.wires, g_0, g_1, g_2]
  go_enter Try.func3, Try.ntmps3
  go_wp2_with fail
  generalize w.alloc (.cells #[.int .i64 g.wires, g_0, g_1, g_2] 25) = Wp0 at *
  have zWp := xw.size
  have xp := Ex.refl Wp0
  have hs := gq Wp0 (1048576) xw (by omega) (by omega)
  rw [if_neg (by omega)] at hs
  refine hs.mono ?_
  clear hs
  rintro e o1 ⟨rfl, xo1⟩
  replace xw := xw.trans xo1
  replace xp := xp.trans xo1
  have zo1 := xo1.size
  have qv_g0 := (v_g.ex xp).cell 0 (v := .int .i64 g.wires) rfl
  have qv_g1 := (v_g.ex xp).cell 1 (v := g_0) rfl
  have qv_g2 := (v_g.ex xp).cell 2 (v := g_1) rfl
  have qv_g3 := (v_g.ex xp).cell 3 (v := g_2) rfl
  go_wp2_with fail
  clear qv_g0 qv_g1 qv_g2 qv_g3
  refine (toGraph_u g g_0 g_1 g_2 o1 (gh.ex xw)).mono ?_
  rintro e o2 ⟨o2_0, o2_1, o2_2, rfl, fo2, xo2⟩
  obtain ⟨o2A0, o2N0, o2C0, o2A1, o2N1, o2C1, o2A2, o2N2, o2C2, rfl, rfl, rfl⟩ := fo2.rd.form
  replace xw := xw.trans xo2
  replace xp := xp.trans xo2
  have zo2 := xo2.size
  go_wp2_with fail
  refine (spIsAcyclic_u _ _ _ _ o2 fo2.rd).mono ?_
  intro e o3 ho3
  rw [Hr.out] at ho3
  obtain ⟨rfl, xo3⟩ := ho3
  dsimp only
  replace xw := xw.trans xo3
  replace xp := xp.trans xo3
  replace fo2 := fo2.ex xo3
  have zo3 := xo3.size
  clear fo2
  have xs := Ex.refl o3
  have qv_g0 := (v_g.ex xp).cell 0 (v := .int .i64 g.wires) rfl
  have qv_g1 := (v_g.ex xp).cell 1 (v := g_0) rfl
  have qv_g2 := (v_g.ex xp).cell 2 (v := g_1) rfl
  have qv_g3 := (v_g.ex xp).cell 3 (v := g_2) rfl
  go_wp2_with fail
  clear qv_g0 qv_g1 qv_g2 qv_g3
  refine (toGraph_u g g_0 g_1 g_2 o3 (gh.ex xw)).mono ?_
  rintro e o4 ⟨o4_0, o4_1, o4_2, rfl, fo4, xo4⟩
  obtain ⟨o4A0, o4N0, o4C0, o4A1, o4N1, o4C1, o4A2, o4N2, o4C2, rfl, rfl, rfl⟩ := fo4.rd.form
  replace xw := xw.trans xo4
  replace xp := xp.trans xo4
  replace xs := xs.trans xo4
  have zo4 := xo4.size
  go_wp2_with fail
  have xa := (Ex.refl o4).alloc (.cells #[.int .i64 g.wires, (.slice o4A0 o4N0 o4C0), (.slice o4A1 o4N1 o4C1), (.slice o4A2 o4N2 o4C2)] 30)
  have vx_g := VB.new o4 30 #[.int .i64 g.wires, (.slice o4A0 o4N0 o4C0), (.slice o4A1 o4N1 o4C1), (.slice o4A2 o4N2 o4C2)]
  have vx_gl := vx_g.lt
  generalize o4.alloc (.cells #[.int .i64 g.wires, (.slice o4A0 o4N0 o4C0), (.slice o4A1 o4N1 o4C1), (.slice o4A2 o4N2 o4C2)] 30) = o5 at *
  replace xw := xw.trans xa
  replace xp := xp.trans xa
  replace xs := xs.trans xa
  replace fo4 := fo4.ex xa
  have zo5 := xa.size
  clear xa
  refine (IsAcyclic_u _ _ _ _ o5 fo4.rd).mono ?_
  intro e o6 ho6
  rw [Hr.out] at ho6
  obtain ⟨rfl, xo6⟩ := ho6
  dsimp only
  replace xw := xw.trans xo6
  replace xp := xp.trans xo6
  replace xs := xs.trans xo6
  replace fo4 := fo4.ex xo6
  replace vx_g := vx_g.ex xo6
  have zo6 := xo6.size
  have qvx_g0 := vx_g.cell 0 (v := .int .i64 g.wires) rfl
  have qvx_g1 := vx_g.cell 1 (v := (.slice o4A0 o4N0 o4C0)) rfl
  have qvx_g2 := vx_g.cell 2 (v := (.slice o4A1 o4N1 o4C1)) rfl
  have qvx_g3 := vx_g.cell 3 (v := (.slice o4A2 o4N2 o4C2)) rfl
  have qv_g0 := (v_g.ex xp).cell 0 (v := .int .i64 g.wires) rfl
  have qv_g1 := (v_g.ex xp).cell 1 (v := g_0) rfl
  have qv_g2 := (v_g.ex xp).cell 2 (v := g_1) rfl
  have qv_g3 := (v_g.ex xp).cell 3 (v := g_2) rfl
  go_wp2_with fail
  go_region_held3 (fun W => W.cell? ⟨o4.heap.size, 0, none⟩ = some (.int .i64 g.wires) ∧ W.cell? ⟨o4.heap.size, 1, none⟩ = some ((.slice o4A0 o4N0 o4C0)) ∧ W.cell? ⟨o4.heap.size, 2, none⟩ = some ((.slice o4A1 o4N1 o4C1)) ∧ W.cell? ⟨o4.heap.size, 3, none⟩ = some ((.slice o4A2 o4N2 o4C2)) ∧ W.cell? ⟨w.heap.size, 0, none⟩ = some (.int .i64 g.wires) ∧ W.cell? ⟨w.heap.size, 1, none⟩ = some (g_0) ∧ W.cell? ⟨w.heap.size, 2, none⟩ = some (g_1) ∧ W.cell? ⟨w.heap.size, 3, none⟩ = some (g_2)) (first | (exact ⟨(cell_ex xo8 (cell_ex xo7 qvx_g0)), (cell_ex xo8 (cell_ex xo7 qvx_g1)), (cell_ex xo8 (cell_ex xo7 qvx_g2)), (cell_ex xo8 (cell_ex xo7 qvx_g3)), (cell_ex xo8 (cell_ex xo7 qv_g0)), (cell_ex xo8 (cell_ex xo7 qv_g1)), (cell_ex xo8 (cell_ex xo7 qv_g2)), (cell_ex xo8 (cell_ex xo7 qv_g3))⟩) | (exact ⟨(cell_ex xo7 qvx_g0), (cell_ex xo7 qvx_g1), (cell_ex xo7 qvx_g2), (cell_ex xo7 qvx_g3), (cell_ex xo7 qv_g0), (cell_ex xo7 qv_g1), (cell_ex xo7 qv_g2), (cell_ex xo7 qv_g3)⟩) | (exact ⟨qvx_g0, qvx_g1, qvx_g2, qvx_g3, qv_g0, qv_g1, qv_g2, qv_g3⟩)) (first
    | (go_at_call 10
       refine (toGraph_u g g_0 g_1 g_2 o6.drew (gh.ex xw.drew)).mono ?_
       rintro e o7 ⟨o7_0, o7_1, o7_2, rfl, fo7, xo7⟩)
    | (go_at_call 12
       refine (eqGraph_u g (.slice o4A0 o4N0 o4C0) (.slice o4A1 o4N1 o4C1) (.slice o4A2 o4N2 o4C2) o7_0 o7_1 o7_2 _ ((fo4.rd.ex (Ex.refl o6).drew).ex xo7) fo7.rd).mono ?_
       rintro e o8 ⟨rfl, xo8⟩))
  have xd : Ex o6 o8 := ((Ex.refl o6).drew.trans xo7).trans xo8
  clear qvx_g0 qvx_g1 qvx_g2 qvx_g3 qv_g0 qv_g1 qv_g2 qv_g3 fo7 xo7 xo8
  replace xw := xw.trans xd
  replace xp := xp.trans xd
  replace xs := xs.trans xd
  replace fo4 := fo4.ex xd
  replace vx_g := vx_g.ex xd
  have zo8 := xd.size
  clear xd
  go_wp2
  all_goals go_ret
  exact ⟨rfl, xw⟩
end Go.Proofs.Ytkpfmnconnopnaa
