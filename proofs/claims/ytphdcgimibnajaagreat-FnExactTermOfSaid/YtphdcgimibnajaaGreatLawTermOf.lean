/- The law on TermOf: the program's answer is the reference's, for all arguments; the walk of the law's own text. No conditions. -/
import Derived.Test.YtphdcgimibnajaaGreatAp24
import Derived.Test.YtphdcgimibnajaaGreatAp06
import Derived.Test.YtphdcgimibnajaaGreatAp23
import Derived.Test.YtphdcgimibnajaaGreatAp04
import Derived.RegionCalls
import Derived.Deep.RegionWith
import Derived.Deep.RegionHeld3
import Derived.Deep.Cut
namespace Go.Proofs.YtphdcgimibnajaaGreat
set_option maxRecDepth 100000
open Go Go.RowKit
set_option maxHeartbeats 8000000 in
set_option maxRecDepth 100000 in
theorem lawTermOf_big1 (g_c0 g_c1 g_c2 g_c3 : Value) (gz : Int) (w : World) (gq : QS 5 w (.agg #[g_c0, g_c1, g_c2, g_c3]) gz) (_h0g : 0 ≤ gz) (hbig : 1048576 < gz) :
    Calls Tryz.prog 3 #[.agg #[g_c0, g_c1, g_c2, g_c3]] w fun e w' => e = .returned (.bool true) ∧ Ex w w' := by
  have xw := (Ex.refl w).alloc (.cells #[g_c0, g_c1, g_c2, g_c3] 25)
  have v_g := VB.new w 25 #[g_c0, g_c1, g_c2, g_c3]
  go_enter Tryz.func3, Tryz.ntmps3
  go_wp2_with fail
  generalize w.alloc (.cells #[g_c0, g_c1, g_c2, g_c3] 25) = Wp0 at *
  have hs := gq Wp0 (1048576) xw (by omega) (by omega)
  rw [if_pos (by omega)] at hs
  refine hs.mono ?_
  clear hs
  rintro e wz ⟨rfl, xz⟩
  go_wp2
  go_ret
  exact ⟨rfl, xw.trans xz⟩
set_option maxHeartbeats 8000000 in
set_option maxRecDepth 100000 in
theorem lawTermOf_walk (g : Gr) (g_0 g_1 g_2 : Value) (gz : Int) (w : World) (gh : RGr w g_0 g_1 g_2 g) (gq : QS 5 w (.agg #[.int .i64 g.wires, g_0, g_1, g_2]) gz) (h0g : 0 ≤ gz) (hl : gz ≤ 1048576) :
    Calls Tryz.prog 3 #[.agg #[.int .i64 g.wires, g_0, g_1, g_2]] w fun e w' => e = .returned (.bool true) ∧ Ex w w' := by
  obtain ⟨r0, r1, hr⟩ : ∃ r0 r1, toU g = (r0, r1) := ⟨_, _, rfl⟩
  have Hr := Lib.hid hr
  clear hr
  have tn_g := totGr_nn g
  have tb_g := gh.tot
  have xw := (Ex.refl w).alloc (.cells #[.int .i64 g.wires, g_0, g_1, g_2] 25)
  have v_g := VB.new w 25 #[.int .i64 g.wires, g_0, g_1, g_2]
  go_enter Tryz.func3, Tryz.ntmps3
  go_wp2_with fail
  generalize w.alloc (.cells #[.int .i64 g.wires, g_0, g_1, g_2] 25) = Wp0 at *
  have zWp := xw.size
  have xp := Ex.refl Wp0
  have hs := gq Wp0 (1048576) xw (by omega) (by omega)
  rw [if_neg (by omega)] at hs
  refine hs.mono ?_
  clear hs
  rintro e o1 ⟨rfl, xo1⟩
  replace xw := xw.trans xo1
  replace xp := xp.trans xo1
  have zo1 := xo1.size
  have qv_g0 := (v_g.ex xp).cell 0 (v := .int .i64 g.wires) rfl
  have qv_g1 := (v_g.ex xp).cell 1 (v := g_0) rfl
  have qv_g2 := (v_g.ex xp).cell 2 (v := g_1) rfl
  have qv_g3 := (v_g.ex xp).cell 3 (v := g_2) rfl
  go_wp2_with fail
  clear qv_g0 qv_g1 qv_g2 qv_g3
  refine (toGraph_u g g_0 g_1 g_2 o1 (gh.ex xw)).mono ?_
  rintro e o2 ⟨o2_0, o2_1, o2_2, rfl, fo2, xo2⟩
  obtain ⟨o2A0, o2N0, o2C0, o2A1, o2N1, o2C1, o2A2, o2N2, o2C2, rfl, rfl, rfl⟩ := fo2.rd.form
  replace xw := xw.trans xo2
  replace xp := xp.trans xo2
  have zo2 := xo2.size
  go_wp2_with fail
  refine (spTermOf_u _ _ _ _ o2 fo2.rd).mono ?_
  intro e o3 ho3
  rw [Hr.out] at ho3
  obtain ⟨o3r0_0, rfl, fo30, xo3⟩ := ho3
  dsimp only at fo30 ⊢
  obtain ⟨o3r0A0, o3r0N0, o3r0C0, rfl⟩ := fo30.form
  have tnfo30 := totTm_nn r0
  have tbfo30 := fo30.tot
  replace xw := xw.trans xo3
  replace xp := xp.trans xo3
  replace fo2 := fo2.ex xo3
  have zo3 := xo3.size
  clear fo2
  have w0_0 := fo30
  clear fo30
  have xs := Ex.refl o3
  have qv_g0 := ((v_g.ex xp).ex ((Ex.refl o3).alloc (.cells #[(.slice o3r0A0 o3r0N0 o3r0C0)] 29))).cell 0 (v := .int .i64 g.wires) rfl
  have qv_g1 := ((v_g.ex xp).ex ((Ex.refl o3).alloc (.cells #[(.slice o3r0A0 o3r0N0 o3r0C0)] 29))).cell 1 (v := g_0) rfl
  have qv_g2 := ((v_g.ex xp).ex ((Ex.refl o3).alloc (.cells #[(.slice o3r0A0 o3r0N0 o3r0C0)] 29))).cell 2 (v := g_1) rfl
  have qv_g3 := ((v_g.ex xp).ex ((Ex.refl o3).alloc (.cells #[(.slice o3r0A0 o3r0N0 o3r0C0)] 29))).cell 3 (v := g_2) rfl
  go_wp2_with fail
  clear qv_g0 qv_g1 qv_g2 qv_g3
  have xa := (Ex.refl o3).alloc (.cells #[(.slice o3r0A0 o3r0N0 o3r0C0)] 29)
  have vw0 := VB.new o3 29 #[(.slice o3r0A0 o3r0N0 o3r0C0)]
  have vw0l := vw0.lt
  generalize o3.alloc (.cells #[(.slice o3r0A0 o3r0N0 o3r0C0)] 29) = o4 at *
  replace xw := xw.trans xa
  replace xp := xp.trans xa
  replace xs := xs.trans xa
  have zo4 := xa.size
  clear xa
  have xvvw0 := Ex.refl o4
  refine (toGraph_u g g_0 g_1 g_2 o4 (gh.ex xw)).mono ?_
  rintro e o5 ⟨o5_0, o5_1, o5_2, rfl, fo5, xo5⟩
  obtain ⟨o5A0, o5N0, o5C0, o5A1, o5N1, o5C1, o5A2, o5N2, o5C2, rfl, rfl, rfl⟩ := fo5.rd.form
  replace xw := xw.trans xo5
  replace xp := xp.trans xo5
  replace xs := xs.trans xo5
  replace xvvw0 := xvvw0.trans xo5
  have zo5 := xo5.size
  go_wp2_with fail
  have xa := (Ex.refl o5).alloc (.cells #[.int .i64 g.wires, (.slice o5A0 o5N0 o5C0), (.slice o5A1 o5N1 o5C1), (.slice o5A2 o5N2 o5C2)] 34)
  have vx_g := VB.new o5 34 #[.int .i64 g.wires, (.slice o5A0 o5N0 o5C0), (.slice o5A1 o5N1 o5C1), (.slice o5A2 o5N2 o5C2)]
  have vx_gl := vx_g.lt
  generalize o5.alloc (.cells #[.int .i64 g.wires, (.slice o5A0 o5N0 o5C0), (.slice o5A1 o5N1 o5C1), (.slice o5A2 o5N2 o5C2)] 34) = o6 at *
  replace xw := xw.trans xa
  replace xp := xp.trans xa
  replace xs := xs.trans xa
  replace xvvw0 := xvvw0.trans xa
  replace fo5 := fo5.ex xa
  have zo6 := xa.size
  clear xa
  refine (TermOf_u _ _ _ _ o6 fo5.rd).mono ?_
  intro e o7 ho7
  rw [Hr.out] at ho7
  obtain ⟨o7r0_0, rfl, fo70, xo7⟩ := ho7
  dsimp only at fo70 ⊢
  obtain ⟨o7r0A0, o7r0N0, o7r0C0, rfl⟩ := fo70.rd.form
  replace xw := xw.trans xo7
  replace xp := xp.trans xo7
  replace xs := xs.trans xo7
  replace xvvw0 := xvvw0.trans xo7
  replace fo5 := fo5.ex xo7
  replace vx_g := vx_g.ex xo7
  have zo7 := xo7.size
  have qvw00 := ((vw0.ex xvvw0).ex ((Ex.refl o7).alloc (.cells #[(.slice o7r0A0 o7r0N0 o7r0C0)] 29))).cell 0 (v := (.slice o3r0A0 o3r0N0 o3r0C0)) rfl
  go_wp2_with fail
  clear qvw00
  have xa := (Ex.refl o7).alloc (.cells #[(.slice o7r0A0 o7r0N0 o7r0C0)] 29)
  have vg0 := VB.new o7 29 #[(.slice o7r0A0 o7r0N0 o7r0C0)]
  have vg0l := vg0.lt
  generalize o7.alloc (.cells #[(.slice o7r0A0 o7r0N0 o7r0C0)] 29) = o8 at *
  replace xw := xw.trans xa
  replace xp := xp.trans xa
  replace xs := xs.trans xa
  replace xvvw0 := xvvw0.trans xa
  replace fo5 := fo5.ex xa
  replace vx_g := vx_g.ex xa
  replace fo70 := fo70.ex xa
  have zo8 := xa.size
  clear xa
  refine (eqTerm_u r0 (.slice o7r0A0 o7r0N0 o7r0C0) (.slice o3r0A0 o3r0N0 o3r0C0) o8 fo70.rd (w0_0.ex xs)).mono ?_
  rintro e o9 ⟨rfl, xo9⟩
  replace xw := xw.trans xo9
  replace xp := xp.trans xo9
  replace xs := xs.trans xo9
  replace xvvw0 := xvvw0.trans xo9
  replace fo5 := fo5.ex xo9
  replace vx_g := vx_g.ex xo9
  replace fo70 := fo70.ex xo9
  replace vg0 := vg0.ex xo9
  have zo9 := xo9.size
  have qvx_g0 := vx_g.cell 0 (v := .int .i64 g.wires) rfl
  have qvx_g1 := vx_g.cell 1 (v := (.slice o5A0 o5N0 o5C0)) rfl
  have qvx_g2 := vx_g.cell 2 (v := (.slice o5A1 o5N1 o5C1)) rfl
  have qvx_g3 := vx_g.cell 3 (v := (.slice o5A2 o5N2 o5C2)) rfl
  have qv_g0 := (v_g.ex xp).cell 0 (v := .int .i64 g.wires) rfl
  have qv_g1 := (v_g.ex xp).cell 1 (v := g_0) rfl
  have qv_g2 := (v_g.ex xp).cell 2 (v := g_1) rfl
  have qv_g3 := (v_g.ex xp).cell 3 (v := g_2) rfl
  go_wp2_with fail
  go_region_held3 (fun W => W.cell? ⟨o5.heap.size, 0, none⟩ = some (.int .i64 g.wires) ∧ W.cell? ⟨o5.heap.size, 1, none⟩ = some ((.slice o5A0 o5N0 o5C0)) ∧ W.cell? ⟨o5.heap.size, 2, none⟩ = some ((.slice o5A1 o5N1 o5C1)) ∧ W.cell? ⟨o5.heap.size, 3, none⟩ = some ((.slice o5A2 o5N2 o5C2)) ∧ W.cell? ⟨w.heap.size, 0, none⟩ = some (.int .i64 g.wires) ∧ W.cell? ⟨w.heap.size, 1, none⟩ = some (g_0) ∧ W.cell? ⟨w.heap.size, 2, none⟩ = some (g_1) ∧ W.cell? ⟨w.heap.size, 3, none⟩ = some (g_2)) (first | (exact ⟨(cell_ex xo11 (cell_ex xo10 qvx_g0)), (cell_ex xo11 (cell_ex xo10 qvx_g1)), (cell_ex xo11 (cell_ex xo10 qvx_g2)), (cell_ex xo11 (cell_ex xo10 qvx_g3)), (cell_ex xo11 (cell_ex xo10 qv_g0)), (cell_ex xo11 (cell_ex xo10 qv_g1)), (cell_ex xo11 (cell_ex xo10 qv_g2)), (cell_ex xo11 (cell_ex xo10 qv_g3))⟩) | (exact ⟨(cell_ex xo10 qvx_g0), (cell_ex xo10 qvx_g1), (cell_ex xo10 qvx_g2), (cell_ex xo10 qvx_g3), (cell_ex xo10 qv_g0), (cell_ex xo10 qv_g1), (cell_ex xo10 qv_g2), (cell_ex xo10 qv_g3)⟩) | (exact ⟨qvx_g0, qvx_g1, qvx_g2, qvx_g3, qv_g0, qv_g1, qv_g2, qv_g3⟩)) (first
    | (go_at_call 7
       refine (toGraph_u g g_0 g_1 g_2 o9.drew (gh.ex xw.drew)).mono ?_
       rintro e o10 ⟨o10_0, o10_1, o10_2, rfl, fo10, xo10⟩)
    | (go_at_call 10
       refine (eqGraph_u g (.slice o5A0 o5N0 o5C0) (.slice o5A1 o5N1 o5C1) (.slice o5A2 o5N2 o5C2) o10_0 o10_1 o10_2 _ ((fo5.rd.ex (Ex.refl o9).drew).ex xo10) fo10.rd).mono ?_
       rintro e o11 ⟨rfl, xo11⟩))
  have xd : Ex o9 o11 := ((Ex.refl o9).drew.trans xo10).trans xo11
  clear qvx_g0 qvx_g1 qvx_g2 qvx_g3 qv_g0 qv_g1 qv_g2 qv_g3 fo10 xo10 xo11
  replace xw := xw.trans xd
  replace xp := xp.trans xd
  replace xs := xs.trans xd
  replace xvvw0 := xvvw0.trans xd
  replace fo5 := fo5.ex xd
  replace vx_g := vx_g.ex xd
  replace fo70 := fo70.ex xd
  replace vg0 := vg0.ex xd
  have zo11 := xd.size
  clear xd
  have qvx_g0 := vx_g.cell 0 (v := .int .i64 g.wires) rfl
  have qvx_g1 := vx_g.cell 1 (v := (.slice o5A0 o5N0 o5C0)) rfl
  have qvx_g2 := vx_g.cell 2 (v := (.slice o5A1 o5N1 o5C1)) rfl
  have qvx_g3 := vx_g.cell 3 (v := (.slice o5A2 o5N2 o5C2)) rfl
  go_wp2_with fail
  clear qvx_g0 qvx_g1 qvx_g2 qvx_g3
  refine (markGraph_u (o4.heap.size) (o5.heap.size) g (.slice o5A0 o5N0 o5C0) (.slice o5A1 o5N1 o5C1) (.slice o5A2 o5N2 o5C2) (1) o11 fo5 (by omega) (by omega) (by omega)).mono ?_
  rintro e o12 ⟨rfl, mo12, io12⟩
  clear fo5
  replace xw := xw.iv io12 (by omega)
  replace xp := xp.iv io12 (by omega)
  replace xs := xs.iv io12 (by omega)
  replace xvvw0 := xvvw0.iv io12 (by omega)
  replace vx_g := vx_g.iv io12 (by omega)
  replace fo70 := fo70.iv io12 (by omega)
  replace vg0 := vg0.iv io12 (by omega)
  have zo12 := io12.size
  clear mo12
  clear vx_g
  have qvg00 := vg0.cell 0 (v := (.slice o7r0A0 o7r0N0 o7r0C0)) rfl
  have qvw00 := (vw0.ex xvvw0).cell 0 (v := (.slice o3r0A0 o3r0N0 o3r0C0)) rfl
  go_wp2_with fail
  clear qvg00 qvw00
  refine (eqTerm_u r0 (.slice o7r0A0 o7r0N0 o7r0C0) (.slice o3r0A0 o3r0N0 o3r0C0) o12 fo70.rd (w0_0.ex xs)).mono ?_
  rintro e o13 ⟨rfl, xo13⟩
  replace xw := xw.trans xo13
  replace xp := xp.trans xo13
  replace xs := xs.trans xo13
  replace xvvw0 := xvvw0.trans xo13
  replace fo70 := fo70.ex xo13
  replace vg0 := vg0.ex xo13
  have zo13 := xo13.size
  have qvg00 := vg0.cell 0 (v := (.slice o7r0A0 o7r0N0 o7r0C0)) rfl
  go_wp2_with fail
  clear qvg00
  refine (markTerm_u (o6.heap.size) (o7.heap.size) r0 (.slice o7r0A0 o7r0N0 o7r0C0) (1) o13 fo70 (by omega) (by omega) (by omega)).mono ?_
  rintro e o14 ⟨rfl, mo14, io14⟩
  clear fo70
  replace xw := xw.iv io14 (by omega)
  replace xp := xp.iv io14 (by omega)
  replace xs := xs.iv io14 (by omega)
  replace xvvw0 := xvvw0.iv io14 (by omega)
  replace vg0 := vg0.iv io14 (by omega)
  have zo14 := io14.size
  have qvg00 := vg0.cell 0 (v := (.slice o7r0A0 o7r0N0 o7r0C0)) rfl
  go_wp2_with fail
  clear qvg00
  refine (heldTerm_u r0 (.slice o7r0A0 o7r0N0 o7r0C0) (1) o14 mo14.rd (by omega) (by omega)).mono ?_
  rintro e o15 ⟨rfl, xo15⟩
  replace xw := xw.trans xo15
  replace xp := xp.trans xo15
  replace xs := xs.trans xo15
  replace xvvw0 := xvvw0.trans xo15
  replace vg0 := vg0.ex xo15
  replace mo14 := mo14.ex xo15
  have zo15 := xo15.size
  have qv_g0 := (v_g.ex xp).cell 0 (v := .int .i64 g.wires) rfl
  have qv_g1 := (v_g.ex xp).cell 1 (v := g_0) rfl
  have qv_g2 := (v_g.ex xp).cell 2 (v := g_1) rfl
  have qv_g3 := (v_g.ex xp).cell 3 (v := g_2) rfl
  go_wp2_with fail
  clear qv_g0 qv_g1 qv_g2 qv_g3
  refine (toGraph_u g g_0 g_1 g_2 o15 (gh.ex xw)).mono ?_
  rintro e o16 ⟨o16_0, o16_1, o16_2, rfl, fo16, xo16⟩
  obtain ⟨o16A0, o16N0, o16C0, o16A1, o16N1, o16C1, o16A2, o16N2, o16C2, rfl, rfl, rfl⟩ := fo16.rd.form
  replace xw := xw.trans xo16
  replace xp := xp.trans xo16
  replace xs := xs.trans xo16
  replace xvvw0 := xvvw0.trans xo16
  replace vg0 := vg0.ex xo16
  replace mo14 := mo14.ex xo16
  have zo16 := xo16.size
  go_wp2_with fail
  refine (TermOf_u _ _ _ _ o16 fo16.rd).mono ?_
  intro e o17 ho17
  rw [Hr.out] at ho17
  obtain ⟨o17r0_0, rfl, fo170, xo17⟩ := ho17
  dsimp only at fo170 ⊢
  obtain ⟨o17r0A0, o17r0N0, o17r0C0, rfl⟩ := fo170.rd.form
  replace xw := xw.trans xo17
  replace xp := xp.trans xo17
  replace xs := xs.trans xo17
  replace xvvw0 := xvvw0.trans xo17
  replace vg0 := vg0.ex xo17
  replace mo14 := mo14.ex xo17
  replace fo16 := fo16.ex xo17
  have zo17 := xo17.size
  clear fo16
  have qvw00 := ((vw0.ex xvvw0).ex ((Ex.refl o17).alloc (.cells #[(.slice o17r0A0 o17r0N0 o17r0C0)] 29))).cell 0 (v := (.slice o3r0A0 o3r0N0 o3r0C0)) rfl
  go_wp2_with fail
  clear qvw00
  have xa := (Ex.refl o17).alloc (.cells #[(.slice o17r0A0 o17r0N0 o17r0C0)] 29)
  have vh0 := VB.new o17 29 #[(.slice o17r0A0 o17r0N0 o17r0C0)]
  have vh0l := vh0.lt
  generalize o17.alloc (.cells #[(.slice o17r0A0 o17r0N0 o17r0C0)] 29) = o18 at *
  replace xw := xw.trans xa
  replace xp := xp.trans xa
  replace xs := xs.trans xa
  replace xvvw0 := xvvw0.trans xa
  replace vg0 := vg0.ex xa
  replace mo14 := mo14.ex xa
  replace fo170 := fo170.ex xa
  have zo18 := xa.size
  clear xa
  refine (eqTerm_u r0 (.slice o17r0A0 o17r0N0 o17r0C0) (.slice o3r0A0 o3r0N0 o3r0C0) o18 fo170.rd (w0_0.ex xs)).mono ?_
  rintro e o19 ⟨rfl, xo19⟩
  replace xw := xw.trans xo19
  replace xp := xp.trans xo19
  replace xs := xs.trans xo19
  replace xvvw0 := xvvw0.trans xo19
  replace vg0 := vg0.ex xo19
  replace mo14 := mo14.ex xo19
  replace fo170 := fo170.ex xo19
  replace vh0 := vh0.ex xo19
  have zo19 := xo19.size
  have qvg00 := vg0.cell 0 (v := (.slice o7r0A0 o7r0N0 o7r0C0)) rfl
  go_wp2_with fail
  clear qvg00
  refine (heldTerm_u r0 (.slice o7r0A0 o7r0N0 o7r0C0) (1) o19 mo14.rd (by omega) (by omega)).mono ?_
  rintro e o20 ⟨rfl, xo20⟩
  replace xw := xw.trans xo20
  replace xp := xp.trans xo20
  replace xs := xs.trans xo20
  replace xvvw0 := xvvw0.trans xo20
  replace vg0 := vg0.ex xo20
  replace mo14 := mo14.ex xo20
  replace fo170 := fo170.ex xo20
  replace vh0 := vh0.ex xo20
  have zo20 := xo20.size
  clear Hr
  go_wp2
  all_goals go_ret
  exact ⟨rfl, xw⟩
end Go.Proofs.YtphdcgimibnajaaGreat
