/- The law on BestOrder: the program's answer is the reference's, for all arguments; the walk of the law's own text. No conditions. -/
import Derived.Test.YtgblnkadmieflaaGrBc
import Derived.Test.YtgblnkadmieflaaGrBb
import Derived.Test.YtgblnkadmieflaaU
import Derived.RegionCalls
import Derived.Deep.RegionWith
import Derived.Deep.RegionHeld3
import Derived.Deep.Cut
namespace Go.Proofs.Ytgblnkadmieflaa
set_option maxRecDepth 100000
open Go Go.RowKit
set_option maxHeartbeats 8000000 in
set_option maxRecDepth 100000 in
theorem lawBestOrder_big1 (g_c0 g_c1 g_c2 g_c3 : Value) (gz : Int) (w : World) (gq : QS 5 w (.agg #[g_c0, g_c1, g_c2, g_c3]) gz) (h0g : 0 ≤ gz) (hbig : 1048576 < gz) :
    Calls Try.prog 4 #[.agg #[g_c0, g_c1, g_c2, g_c3]] w fun e w' => e = .returned (.bool true) ∧ Ex w w' := by
  have xw := (Ex.refl w).alloc (.cells #[g_c0, g_c1, g_c2, g_c3] 25)
  have v_g := VB.new w 25 #[g_c0, g_c1, g_c2, g_c3]
  go_enter Try.func4, Try.ntmps4
  go_wp2_with fail
  generalize w.alloc (.cells #[g_c0, g_c1, g_c2, g_c3] 25) = Wp0 at *
  have hs := gq Wp0 (1048576) xw (by omega) (by omega)
  rw [if_pos (by omega)] at hs
  refine hs.mono ?_
  clear hs
  rintro e wz ⟨rfl, xz⟩
  go_wp2
  go_ret
  exact ⟨rfl, xw.trans xz⟩
set_option maxHeartbeats 8000000 in
set_option maxRecDepth 100000 in
theorem lawBestOrder_walk (g : Gr) (g_0 g_1 g_2 : Value) (gz : Int) (w : World) (gh : RGr w g_0 g_1 g_2 g) (gq : QS 5 w (.agg #[.int .i64 g.wires, g_0, g_1, g_2]) gz) (h0g : 0 ≤ gz) (hl : gz ≤ 1048576) :
    Calls Try.prog 4 #[.agg #[.int .i64 g.wires, g_0, g_1, g_2]] w fun e w' => e = .returned (.bool true) ∧ Ex w w' := by
  obtain ⟨r0, r1, r2, hr⟩ : ∃ r0 r1 r2, boU g = (r0, r1, r2) := ⟨_, _, _, rfl⟩
  have Hr := Lib.hid hr
  clear hr
  have tn_g := totGr_nn g
  have tb_g := gh.tot
  have xw := (Ex.refl w).alloc (.cells #[.int .i64 g.wires, g_0, g_1, g_2] 25)
  have v_g := VB.new w 25 #[.int .i64 g.wires, g_0, g_1, g_2]
  go_enter Try.func4, Try.ntmps4
  go_wp2_with fail
  generalize w.alloc (.cells #[.int .i64 g.wires, g_0, g_1, g_2] 25) = Wp0 at *
  have zWp := xw.size
  have xp := Ex.refl Wp0
  have hs := gq Wp0 (1048576) xw (by omega) (by omega)
  rw [if_neg (by omega)] at hs
  refine hs.mono ?_
  clear hs
  rintro e o1 ⟨rfl, xo1⟩
  replace xw := xw.trans xo1
  replace xp := xp.trans xo1
  have zo1 := xo1.size
  have qv_g0 := (v_g.ex xp).cell 0 (v := .int .i64 g.wires) rfl
  have qv_g1 := (v_g.ex xp).cell 1 (v := g_0) rfl
  have qv_g2 := (v_g.ex xp).cell 2 (v := g_1) rfl
  have qv_g3 := (v_g.ex xp).cell 3 (v := g_2) rfl
  go_wp2_with fail
  clear qv_g0 qv_g1 qv_g2 qv_g3
  refine (toGraph_u g g_0 g_1 g_2 o1 (gh.ex xw)).mono ?_
  rintro e o2 ⟨o2_0, o2_1, o2_2, rfl, fo2, xo2⟩
  obtain ⟨o2A0, o2N0, o2C0, o2A1, o2N1, o2C1, o2A2, o2N2, o2C2, rfl, rfl, rfl⟩ := fo2.rd.form
  replace xw := xw.trans xo2
  replace xp := xp.trans xo2
  have zo2 := xo2.size
  go_wp2_with fail
  refine (spBestOrder_u _ _ _ _ o2 fo2.rd).mono ?_
  intro e o3 ho3
  rw [Hr.out] at ho3
  obtain ⟨o3r0_0, rfl, fo30, xo3⟩ := ho3
  dsimp only at fo30 ⊢
  obtain ⟨o3r0A0, o3r0N0, o3r0C0, rfl⟩ := fo30.form
  have tnfo30 := totI_nn r0
  have tbfo30 := fo30.tot
  replace xw := xw.trans xo3
  replace xp := xp.trans xo3
  replace fo2 := fo2.ex xo3
  have zo3 := xo3.size
  clear fo2
  have w0_0 := fo30
  clear fo30
  have xs := Ex.refl o3
  have qv_g0 := (v_g.ex xp).cell 0 (v := .int .i64 g.wires) rfl
  have qv_g1 := (v_g.ex xp).cell 1 (v := g_0) rfl
  have qv_g2 := (v_g.ex xp).cell 2 (v := g_1) rfl
  have qv_g3 := (v_g.ex xp).cell 3 (v := g_2) rfl
  go_wp2_with fail
  clear qv_g0 qv_g1 qv_g2 qv_g3
  refine (toGraph_u g g_0 g_1 g_2 o3 (gh.ex xw)).mono ?_
  rintro e o4 ⟨o4_0, o4_1, o4_2, rfl, fo4, xo4⟩
  obtain ⟨o4A0, o4N0, o4C0, o4A1, o4N1, o4C1, o4A2, o4N2, o4C2, rfl, rfl, rfl⟩ := fo4.rd.form
  replace xw := xw.trans xo4
  replace xp := xp.trans xo4
  replace xs := xs.trans xo4
  have zo4 := xo4.size
  go_wp2_with fail
  have xa := (Ex.refl o4).alloc (.cells #[.int .i64 g.wires, (.slice o4A0 o4N0 o4C0), (.slice o4A1 o4N1 o4C1), (.slice o4A2 o4N2 o4C2)] 31)
  have vx_g := VB.new o4 31 #[.int .i64 g.wires, (.slice o4A0 o4N0 o4C0), (.slice o4A1 o4N1 o4C1), (.slice o4A2 o4N2 o4C2)]
  have vx_gl := vx_g.lt
  generalize o4.alloc (.cells #[.int .i64 g.wires, (.slice o4A0 o4N0 o4C0), (.slice o4A1 o4N1 o4C1), (.slice o4A2 o4N2 o4C2)] 31) = o5 at *
  replace xw := xw.trans xa
  replace xp := xp.trans xa
  replace xs := xs.trans xa
  replace fo4 := fo4.ex xa
  have zo5 := xa.size
  clear xa
  refine (BestOrder_u _ _ _ _ o5 fo4.rd).mono ?_
  intro e o6 ho6
  rw [Hr.out] at ho6
  obtain ⟨o6r0_0, rfl, fo60, xo6⟩ := ho6
  dsimp only at fo60 ⊢
  obtain ⟨o6r0A0, o6r0N0, o6r0C0, rfl⟩ := fo60.rd.form
  replace xw := xw.trans xo6
  replace xp := xp.trans xo6
  replace xs := xs.trans xo6
  replace fo4 := fo4.ex xo6
  replace vx_g := vx_g.ex xo6
  have zo6 := xo6.size
  go_wp2_with fail
  refine (eqIntS_u r0 (.slice o6r0A0 o6r0N0 o6r0C0) (.slice o3r0A0 o3r0N0 o3r0C0) o6 fo60.rd (w0_0.ex xs)).mono ?_
  rintro e o7 ⟨rfl, xo7⟩
  replace xw := xw.trans xo7
  replace xp := xp.trans xo7
  replace xs := xs.trans xo7
  replace fo4 := fo4.ex xo7
  replace vx_g := vx_g.ex xo7
  replace fo60 := fo60.ex xo7
  have zo7 := xo7.size
  have qvx_g0 := vx_g.cell 0 (v := .int .i64 g.wires) rfl
  have qvx_g1 := vx_g.cell 1 (v := (.slice o4A0 o4N0 o4C0)) rfl
  have qvx_g2 := vx_g.cell 2 (v := (.slice o4A1 o4N1 o4C1)) rfl
  have qvx_g3 := vx_g.cell 3 (v := (.slice o4A2 o4N2 o4C2)) rfl
  have qv_g0 := (v_g.ex xp).cell 0 (v := .int .i64 g.wires) rfl
  have qv_g1 := (v_g.ex xp).cell 1 (v := g_0) rfl
  have qv_g2 := (v_g.ex xp).cell 2 (v := g_1) rfl
  have qv_g3 := (v_g.ex xp).cell 3 (v := g_2) rfl
  go_wp2_with fail
  go_region_held3 (fun W => W.cell? ⟨o4.heap.size, 0, none⟩ = some (.int .i64 g.wires) ∧ W.cell? ⟨o4.heap.size, 1, none⟩ = some ((.slice o4A0 o4N0 o4C0)) ∧ W.cell? ⟨o4.heap.size, 2, none⟩ = some ((.slice o4A1 o4N1 o4C1)) ∧ W.cell? ⟨o4.heap.size, 3, none⟩ = some ((.slice o4A2 o4N2 o4C2)) ∧ W.cell? ⟨w.heap.size, 0, none⟩ = some (.int .i64 g.wires) ∧ W.cell? ⟨w.heap.size, 1, none⟩ = some (g_0) ∧ W.cell? ⟨w.heap.size, 2, none⟩ = some (g_1) ∧ W.cell? ⟨w.heap.size, 3, none⟩ = some (g_2)) (first | (exact ⟨(cell_ex xo9 (cell_ex xo8 qvx_g0)), (cell_ex xo9 (cell_ex xo8 qvx_g1)), (cell_ex xo9 (cell_ex xo8 qvx_g2)), (cell_ex xo9 (cell_ex xo8 qvx_g3)), (cell_ex xo9 (cell_ex xo8 qv_g0)), (cell_ex xo9 (cell_ex xo8 qv_g1)), (cell_ex xo9 (cell_ex xo8 qv_g2)), (cell_ex xo9 (cell_ex xo8 qv_g3))⟩) | (exact ⟨(cell_ex xo8 qvx_g0), (cell_ex xo8 qvx_g1), (cell_ex xo8 qvx_g2), (cell_ex xo8 qvx_g3), (cell_ex xo8 qv_g0), (cell_ex xo8 qv_g1), (cell_ex xo8 qv_g2), (cell_ex xo8 qv_g3)⟩) | (exact ⟨qvx_g0, qvx_g1, qvx_g2, qvx_g3, qv_g0, qv_g1, qv_g2, qv_g3⟩)) (first
    | (go_at_call 7
       refine (toGraph_u g g_0 g_1 g_2 o7.drew (gh.ex xw.drew)).mono ?_
       rintro e o8 ⟨o8_0, o8_1, o8_2, rfl, fo8, xo8⟩)
    | (go_at_call 11
       refine (eqGraph_u g (.slice o4A0 o4N0 o4C0) (.slice o4A1 o4N1 o4C1) (.slice o4A2 o4N2 o4C2) o8_0 o8_1 o8_2 _ ((fo4.rd.ex (Ex.refl o7).drew).ex xo8) fo8.rd).mono ?_
       rintro e o9 ⟨rfl, xo9⟩))
  have xd : Ex o7 o9 := ((Ex.refl o7).drew.trans xo8).trans xo9
  clear qvx_g0 qvx_g1 qvx_g2 qvx_g3 qv_g0 qv_g1 qv_g2 qv_g3 fo8 xo8 xo9
  replace xw := xw.trans xd
  replace xp := xp.trans xd
  replace xs := xs.trans xd
  replace fo4 := fo4.ex xd
  replace vx_g := vx_g.ex xd
  replace fo60 := fo60.ex xd
  have zo9 := xd.size
  clear xd
  have qvx_g0 := vx_g.cell 0 (v := .int .i64 g.wires) rfl
  have qvx_g1 := vx_g.cell 1 (v := (.slice o4A0 o4N0 o4C0)) rfl
  have qvx_g2 := vx_g.cell 2 (v := (.slice o4A1 o4N1 o4C1)) rfl
  have qvx_g3 := vx_g.cell 3 (v := (.slice o4A2 o4N2 o4C2)) rfl
  go_wp2_with fail
  clear qvx_g0 qvx_g1 qvx_g2 qvx_g3
  refine (markGraph_u (o3.heap.size) (o4.heap.size) g (.slice o4A0 o4N0 o4C0) (.slice o4A1 o4N1 o4C1) (.slice o4A2 o4N2 o4C2) (1) o9 fo4 (by omega) (by omega) (by omega)).mono ?_
  rintro e o10 ⟨rfl, mo10, io10⟩
  clear fo4
  replace xw := xw.iv io10 (by omega)
  replace xp := xp.iv io10 (by omega)
  replace xs := xs.iv io10 (by omega)
  replace vx_g := vx_g.iv io10 (by omega)
  replace fo60 := fo60.iv io10 (by omega)
  have zo10 := io10.size
  clear mo10
  clear vx_g
  go_wp2_with fail
  refine (eqIntS_u r0 (.slice o6r0A0 o6r0N0 o6r0C0) (.slice o3r0A0 o3r0N0 o3r0C0) o10 fo60.rd (w0_0.ex xs)).mono ?_
  rintro e o11 ⟨rfl, xo11⟩
  replace xw := xw.trans xo11
  replace xp := xp.trans xo11
  replace xs := xs.trans xo11
  replace fo60 := fo60.ex xo11
  have zo11 := xo11.size
  go_wp2_with fail
  refine (markIntS_u (o5.heap.size) (o6.heap.size) r0 (.slice o6r0A0 o6r0N0 o6r0C0) (1) o11 fo60 (by omega) (by omega) (by omega)).mono ?_
  rintro e o12 ⟨rfl, mo12, io12⟩
  clear fo60
  replace xw := xw.iv io12 (by omega)
  replace xp := xp.iv io12 (by omega)
  replace xs := xs.iv io12 (by omega)
  have zo12 := io12.size
  go_wp2_with fail
  refine (heldIntS_u r0 (.slice o6r0A0 o6r0N0 o6r0C0) (1) o12 mo12.rd (by omega) (by omega)).mono ?_
  rintro e o13 ⟨rfl, xo13⟩
  replace xw := xw.trans xo13
  replace xp := xp.trans xo13
  replace xs := xs.trans xo13
  replace mo12 := mo12.ex xo13
  have zo13 := xo13.size
  have qv_g0 := (v_g.ex xp).cell 0 (v := .int .i64 g.wires) rfl
  have qv_g1 := (v_g.ex xp).cell 1 (v := g_0) rfl
  have qv_g2 := (v_g.ex xp).cell 2 (v := g_1) rfl
  have qv_g3 := (v_g.ex xp).cell 3 (v := g_2) rfl
  go_wp2_with fail
  clear qv_g0 qv_g1 qv_g2 qv_g3
  refine (toGraph_u g g_0 g_1 g_2 o13 (gh.ex xw)).mono ?_
  rintro e o14 ⟨o14_0, o14_1, o14_2, rfl, fo14, xo14⟩
  obtain ⟨o14A0, o14N0, o14C0, o14A1, o14N1, o14C1, o14A2, o14N2, o14C2, rfl, rfl, rfl⟩ := fo14.rd.form
  replace xw := xw.trans xo14
  replace xp := xp.trans xo14
  replace xs := xs.trans xo14
  replace mo12 := mo12.ex xo14
  have zo14 := xo14.size
  go_wp2_with fail
  refine (BestOrder_u _ _ _ _ o14 fo14.rd).mono ?_
  intro e o15 ho15
  rw [Hr.out] at ho15
  obtain ⟨o15r0_0, rfl, fo150, xo15⟩ := ho15
  dsimp only at fo150 ⊢
  obtain ⟨o15r0A0, o15r0N0, o15r0C0, rfl⟩ := fo150.rd.form
  replace xw := xw.trans xo15
  replace xp := xp.trans xo15
  replace xs := xs.trans xo15
  replace mo12 := mo12.ex xo15
  replace fo14 := fo14.ex xo15
  have zo15 := xo15.size
  clear fo14
  go_wp2_with fail
  refine (eqIntS_u r0 (.slice o15r0A0 o15r0N0 o15r0C0) (.slice o3r0A0 o3r0N0 o3r0C0) o15 fo150.rd (w0_0.ex xs)).mono ?_
  rintro e o16 ⟨rfl, xo16⟩
  replace xw := xw.trans xo16
  replace xp := xp.trans xo16
  replace xs := xs.trans xo16
  replace mo12 := mo12.ex xo16
  replace fo150 := fo150.ex xo16
  have zo16 := xo16.size
  go_wp2_with fail
  refine (heldIntS_u r0 (.slice o6r0A0 o6r0N0 o6r0C0) (1) o16 mo12.rd (by omega) (by omega)).mono ?_
  rintro e o17 ⟨rfl, xo17⟩
  replace xw := xw.trans xo17
  replace xp := xp.trans xo17
  replace xs := xs.trans xo17
  replace mo12 := mo12.ex xo17
  replace fo150 := fo150.ex xo17
  have zo17 := xo17.size
  clear Hr
  go_wp2
  all_goals go_ret
  exact ⟨rfl, xw⟩
end Go.Proofs.Ytgblnkadmieflaa
