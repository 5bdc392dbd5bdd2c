/- The law on CutWidths: the program's answer is the reference's, for all arguments; the walk of the law's own text. No conditions. -/
import Derived.Test.YtgblnkadmieflaaGrT
import Derived.Test.YtgblnkadmieflaaU
import Derived.RegionCalls
import Derived.Deep.RegionWith
import Derived.Deep.RegionHeld3
import Derived.Deep.Cut
namespace Go.Proofs.Ytgblnkadmieflaa
set_option maxRecDepth 100000
open Go Go.RowKit
set_option maxHeartbeats 8000000 in
set_option maxRecDepth 100000 in
theorem lawCutWidths_big1 (g_c0 g_c1 g_c2 g_c3 : Value) (gz : Int) (orderA : Option Addr) (ordern orderc : Nat) (w : World) (gq : QS 5 w (.agg #[g_c0, g_c1, g_c2, g_c3]) gz) (h0g : 0 ≤ gz) (hborder : ordern ≤ 1048576) (hbig : 1048576 < gz) :
    Calls Try.prog 3 #[.agg #[g_c0, g_c1, g_c2, g_c3], .slice orderA ordern orderc] w fun e w' => e = .returned (.bool true) ∧ Ex w w' := by
  have xw := (Ex.refl w).alloc (.cells #[g_c0, g_c1, g_c2, g_c3] 25)
  have v_g := VB.new w 25 #[g_c0, g_c1, g_c2, g_c3]
  go_enter Try.func3, Try.ntmps3
  go_wp2_with fail
  generalize w.alloc (.cells #[g_c0, g_c1, g_c2, g_c3] 25) = Wp0 at *
  have hs := gq Wp0 (1048576) xw (by omega) (by omega)
  rw [if_pos (by omega)] at hs
  refine hs.mono ?_
  clear hs
  rintro e wz ⟨rfl, xz⟩
  go_wp2
  go_ret
  exact ⟨rfl, xw.trans xz⟩
set_option maxHeartbeats 8000000 in
set_option maxRecDepth 100000 in
theorem lawCutWidths_len_order (g_c0 g_c1 g_c2 g_c3 : Value) (orderA : Option Addr) (ordern orderc : Nat) (w : World) (hbig : 1048576 < ordern) (hm : ordern ≤ 9223372036854775807) :
    Calls Try.prog 3 #[.agg #[g_c0, g_c1, g_c2, g_c3], .slice orderA ordern orderc] w fun e w' => e = .returned (.bool true) ∧ Ex w w' := by
  have xw := (Ex.refl w).alloc (.cells #[g_c0, g_c1, g_c2, g_c3] 25)
  have v_g := VB.new w 25 #[g_c0, g_c1, g_c2, g_c3]
  go_enter Try.func3, Try.ntmps3
  go_wp2_with fail
  generalize w.alloc (.cells #[g_c0, g_c1, g_c2, g_c3] 25) = Wp0 at *
  go_ret
  exact ⟨rfl, xw⟩
set_option maxHeartbeats 8000000 in
set_option maxRecDepth 100000 in
theorem lawCutWidths_walk (g : Gr) (g_0 g_1 g_2 : Value) (gz : Int) (order : List Int) (order_0 : Value) (w : World) (gh : RGr w g_0 g_1 g_2 g) (gq : QS 5 w (.agg #[.int .i64 g.wires, g_0, g_1, g_2]) gz) (h0g : 0 ≤ gz) (orderh : RI w order_0 order) (hborder : order.length ≤ 1048576) (hl : gz ≤ 1048576) :
    Calls Try.prog 3 #[.agg #[.int .i64 g.wires, g_0, g_1, g_2], order_0] w fun e w' => e = .returned (.bool true) ∧ Ex w w' := by
  obtain ⟨r0, r1, hr⟩ : ∃ r0 r1, cwU g order = (r0, r1) := ⟨_, _, rfl⟩
  have Hr := Lib.hid hr
  clear hr
  obtain ⟨orderA, orderc, rfl, orderR⟩ := orderh
  have orderh : RI w (.slice orderA order.length orderc) order := ⟨orderA, orderc, rfl, orderR⟩
  have tn_g := totGr_nn g
  have tb_g := gh.tot
  have tn_order := totI_nn order
  have tb_order := orderh.tot
  have xw := (Ex.refl w).alloc (.cells #[.int .i64 g.wires, g_0, g_1, g_2] 25)
  have v_g := VB.new w 25 #[.int .i64 g.wires, g_0, g_1, g_2]
  go_enter Try.func3, Try.ntmps3
  go_wp2_with fail
  generalize w.alloc (.cells #[.int .i64 g.wires, g_0, g_1, g_2] 25) = Wp0 at *
  have zWp := xw.size
  have xp := Ex.refl Wp0
  have hs := gq Wp0 (1048576) xw (by omega) (by omega)
  rw [if_neg (by omega)] at hs
  refine hs.mono ?_
  clear hs
  rintro e o1 ⟨rfl, xo1⟩
  replace xw := xw.trans xo1
  replace xp := xp.trans xo1
  have zo1 := xo1.size
  have qv_g0 := (v_g.ex xp).cell 0 (v := .int .i64 g.wires) rfl
  have qv_g1 := (v_g.ex xp).cell 1 (v := g_0) rfl
  have qv_g2 := (v_g.ex xp).cell 2 (v := g_1) rfl
  have qv_g3 := (v_g.ex xp).cell 3 (v := g_2) rfl
  go_wp2_with fail
  clear qv_g0 qv_g1 qv_g2 qv_g3
  refine (toGraph_u g g_0 g_1 g_2 o1 (gh.ex xw)).mono ?_
  rintro e o2 ⟨o2_0, o2_1, o2_2, rfl, fo2, xo2⟩
  obtain ⟨o2A0, o2N0, o2C0, o2A1, o2N1, o2C1, o2A2, o2N2, o2C2, rfl, rfl, rfl⟩ := fo2.rd.form
  replace xw := xw.trans xo2
  replace xp := xp.trans xo2
  have zo2 := xo2.size
  go_wp2_with fail
  refine (toIntS_u order (.slice orderA order.length orderc) o2 (orderh.ex xw)).mono ?_
  rintro e o3 ⟨o3_0, rfl, fo3, xo3⟩
  obtain ⟨o3A0, o3N0, o3C0, rfl⟩ := fo3.rd.form
  replace xw := xw.trans xo3
  replace xp := xp.trans xo3
  replace fo2 := fo2.ex xo3
  have zo3 := xo3.size
  go_wp2_with fail
  refine (spCutWidths_u _ _ _ _  _ _ o3 fo2.rd fo3.rdc).mono ?_
  intro e o4 ho4
  rw [Hr.out] at ho4
  obtain ⟨o4r0_0, rfl, fo40, xo4⟩ := ho4
  dsimp only at fo40 ⊢
  obtain ⟨o4r0A0, o4r0N0, o4r0C0, rfl⟩ := fo40.form
  have tnfo40 := totI_nn r0
  have tbfo40 := fo40.tot
  replace xw := xw.trans xo4
  replace xp := xp.trans xo4
  replace fo2 := fo2.ex xo4
  replace fo3 := fo3.ex xo4
  have zo4 := xo4.size
  clear fo2
  clear fo3
  have w0_0 := fo40
  clear fo40
  have xs := Ex.refl o4
  have qv_g0 := (v_g.ex xp).cell 0 (v := .int .i64 g.wires) rfl
  have qv_g1 := (v_g.ex xp).cell 1 (v := g_0) rfl
  have qv_g2 := (v_g.ex xp).cell 2 (v := g_1) rfl
  have qv_g3 := (v_g.ex xp).cell 3 (v := g_2) rfl
  go_wp2_with fail
  clear qv_g0 qv_g1 qv_g2 qv_g3
  refine (toGraph_u g g_0 g_1 g_2 o4 (gh.ex xw)).mono ?_
  rintro e o5 ⟨o5_0, o5_1, o5_2, rfl, fo5, xo5⟩
  obtain ⟨o5A0, o5N0, o5C0, o5A1, o5N1, o5C1, o5A2, o5N2, o5C2, rfl, rfl, rfl⟩ := fo5.rd.form
  replace xw := xw.trans xo5
  replace xp := xp.trans xo5
  replace xs := xs.trans xo5
  have zo5 := xo5.size
  go_wp2_with fail
  have xa := (Ex.refl o5).alloc (.cells #[.int .i64 g.wires, (.slice o5A0 o5N0 o5C0), (.slice o5A1 o5N1 o5C1), (.slice o5A2 o5N2 o5C2)] 31)
  have vx_g := VB.new o5 31 #[.int .i64 g.wires, (.slice o5A0 o5N0 o5C0), (.slice o5A1 o5N1 o5C1), (.slice o5A2 o5N2 o5C2)]
  have vx_gl := vx_g.lt
  generalize o5.alloc (.cells #[.int .i64 g.wires, (.slice o5A0 o5N0 o5C0), (.slice o5A1 o5N1 o5C1), (.slice o5A2 o5N2 o5C2)] 31) = o6 at *
  replace xw := xw.trans xa
  replace xp := xp.trans xa
  replace xs := xs.trans xa
  replace fo5 := fo5.ex xa
  have zo6 := xa.size
  clear xa
  refine (toIntS_u order (.slice orderA order.length orderc) o6 (orderh.ex xw)).mono ?_
  rintro e o7 ⟨o7_0, rfl, fo7, xo7⟩
  obtain ⟨o7A0, o7N0, o7C0, rfl⟩ := fo7.rd.form
  replace xw := xw.trans xo7
  replace xp := xp.trans xo7
  replace xs := xs.trans xo7
  replace fo5 := fo5.ex xo7
  replace vx_g := vx_g.ex xo7
  have zo7 := xo7.size
  have qvx_g0 := vx_g.cell 0 (v := .int .i64 g.wires) rfl
  have qvx_g1 := vx_g.cell 1 (v := (.slice o5A0 o5N0 o5C0)) rfl
  have qvx_g2 := vx_g.cell 2 (v := (.slice o5A1 o5N1 o5C1)) rfl
  have qvx_g3 := vx_g.cell 3 (v := (.slice o5A2 o5N2 o5C2)) rfl
  go_wp2_with fail
  clear qvx_g0 qvx_g1 qvx_g2 qvx_g3
  refine (CutWidths_u _ _ _ _  _ _ o7 fo5.rd fo7.rdc).mono ?_
  intro e o8 ho8
  rw [Hr.out] at ho8
  obtain ⟨o8r0_0, rfl, fo80, xo8⟩ := ho8
  dsimp only at fo80 ⊢
  obtain ⟨o8r0A0, o8r0N0, o8r0C0, rfl⟩ := fo80.rd.form
  replace xw := xw.trans xo8
  replace xp := xp.trans xo8
  replace xs := xs.trans xo8
  replace fo5 := fo5.ex xo8
  replace vx_g := vx_g.ex xo8
  replace fo7 := fo7.ex xo8
  have zo8 := xo8.size
  go_wp2_with fail
  refine (eqIntS_u r0 (.slice o8r0A0 o8r0N0 o8r0C0) (.slice o4r0A0 o4r0N0 o4r0C0) o8 fo80.rd (w0_0.ex xs)).mono ?_
  rintro e o9 ⟨rfl, xo9⟩
  replace xw := xw.trans xo9
  replace xp := xp.trans xo9
  replace xs := xs.trans xo9
  replace fo5 := fo5.ex xo9
  replace vx_g := vx_g.ex xo9
  replace fo7 := fo7.ex xo9
  replace fo80 := fo80.ex xo9
  have zo9 := xo9.size
  have qvx_g0 := vx_g.cell 0 (v := .int .i64 g.wires) rfl
  have qvx_g1 := vx_g.cell 1 (v := (.slice o5A0 o5N0 o5C0)) rfl
  have qvx_g2 := vx_g.cell 2 (v := (.slice o5A1 o5N1 o5C1)) rfl
  have qvx_g3 := vx_g.cell 3 (v := (.slice o5A2 o5N2 o5C2)) rfl
  have qv_g0 := (v_g.ex xp).cell 0 (v := .int .i64 g.wires) rfl
  have qv_g1 := (v_g.ex xp).cell 1 (v := g_0) rfl
  have qv_g2 := (v_g.ex xp).cell 2 (v := g_1) rfl
  have qv_g3 := (v_g.ex xp).cell 3 (v := g_2) rfl
  go_wp2_with fail
  go_region_held3 (fun W => W.cell? ⟨o5.heap.size, 0, none⟩ = some (.int .i64 g.wires) ∧ W.cell? ⟨o5.heap.size, 1, none⟩ = some ((.slice o5A0 o5N0 o5C0)) ∧ W.cell? ⟨o5.heap.size, 2, none⟩ = some ((.slice o5A1 o5N1 o5C1)) ∧ W.cell? ⟨o5.heap.size, 3, none⟩ = some ((.slice o5A2 o5N2 o5C2)) ∧ W.cell? ⟨w.heap.size, 0, none⟩ = some (.int .i64 g.wires) ∧ W.cell? ⟨w.heap.size, 1, none⟩ = some (g_0) ∧ W.cell? ⟨w.heap.size, 2, none⟩ = some (g_1) ∧ W.cell? ⟨w.heap.size, 3, none⟩ = some (g_2)) (first | (exact ⟨(cell_ex xo11 (cell_ex xo10 qvx_g0)), (cell_ex xo11 (cell_ex xo10 qvx_g1)), (cell_ex xo11 (cell_ex xo10 qvx_g2)), (cell_ex xo11 (cell_ex xo10 qvx_g3)), (cell_ex xo11 (cell_ex xo10 qv_g0)), (cell_ex xo11 (cell_ex xo10 qv_g1)), (cell_ex xo11 (cell_ex xo10 qv_g2)), (cell_ex xo11 (cell_ex xo10 qv_g3))⟩) | (exact ⟨(cell_ex xo10 qvx_g0), (cell_ex xo10 qvx_g1), (cell_ex xo10 qvx_g2), (cell_ex xo10 qvx_g3), (cell_ex xo10 qv_g0), (cell_ex xo10 qv_g1), (cell_ex xo10 qv_g2), (cell_ex xo10 qv_g3)⟩) | (exact ⟨qvx_g0, qvx_g1, qvx_g2, qvx_g3, qv_g0, qv_g1, qv_g2, qv_g3⟩)) (first
    | (go_at_call 7
       refine (toGraph_u g g_0 g_1 g_2 o9.drew (gh.ex xw.drew)).mono ?_
       rintro e o10 ⟨o10_0, o10_1, o10_2, rfl, fo10, xo10⟩)
    | (go_at_call 11
       refine (eqGraph_u g (.slice o5A0 o5N0 o5C0) (.slice o5A1 o5N1 o5C1) (.slice o5A2 o5N2 o5C2) o10_0 o10_1 o10_2 _ ((fo5.rd.ex (Ex.refl o9).drew).ex xo10) fo10.rd).mono ?_
       rintro e o11 ⟨rfl, xo11⟩))
  have xd : Ex o9 o11 := ((Ex.refl o9).drew.trans xo10).trans xo11
  clear qvx_g0 qvx_g1 qvx_g2 qvx_g3 qv_g0 qv_g1 qv_g2 qv_g3 fo10 xo10 xo11
  replace xw := xw.trans xd
  replace xp := xp.trans xd
  replace xs := xs.trans xd
  replace fo5 := fo5.ex xd
  replace vx_g := vx_g.ex xd
  replace fo7 := fo7.ex xd
  replace fo80 := fo80.ex xd
  have zo11 := xd.size
  clear xd
  go_wp2_with fail
  refine (toIntS_u order (.slice orderA order.length orderc) o11 (orderh.ex xw)).mono ?_
  rintro e o12 ⟨o12_0, rfl, fo12, xo12⟩
  obtain ⟨o12A0, o12N0, o12C0, rfl⟩ := fo12.rd.form
  replace xw := xw.trans xo12
  replace xp := xp.trans xo12
  replace xs := xs.trans xo12
  replace fo5 := fo5.ex xo12
  replace vx_g := vx_g.ex xo12
  replace fo7 := fo7.ex xo12
  replace fo80 := fo80.ex xo12
  have zo12 := xo12.size
  go_wp2_with fail
  refine (eqIntS_u order (.slice o7A0 o7N0 o7C0) (.slice o12A0 o12N0 o12C0) o12 fo7.rd fo12.rd).mono ?_
  rintro e o13 ⟨rfl, xo13⟩
  replace xw := xw.trans xo13
  replace xp := xp.trans xo13
  replace xs := xs.trans xo13
  replace fo5 := fo5.ex xo13
  replace vx_g := vx_g.ex xo13
  replace fo7 := fo7.ex xo13
  replace fo80 := fo80.ex xo13
  replace fo12 := fo12.ex xo13
  have zo13 := xo13.size
  clear fo12
  have qvx_g0 := vx_g.cell 0 (v := .int .i64 g.wires) rfl
  have qvx_g1 := vx_g.cell 1 (v := (.slice o5A0 o5N0 o5C0)) rfl
  have qvx_g2 := vx_g.cell 2 (v := (.slice o5A1 o5N1 o5C1)) rfl
  have qvx_g3 := vx_g.cell 3 (v := (.slice o5A2 o5N2 o5C2)) rfl
  go_wp2_with fail
  clear qvx_g0 qvx_g1 qvx_g2 qvx_g3
  refine (markGraph_u (o4.heap.size) (o5.heap.size) g (.slice o5A0 o5N0 o5C0) (.slice o5A1 o5N1 o5C1) (.slice o5A2 o5N2 o5C2) (1) o13 fo5 (by omega) (by omega) (by omega)).mono ?_
  rintro e o14 ⟨rfl, mo14, io14⟩
  clear fo5
  replace xw := xw.iv io14 (by omega)
  replace xp := xp.iv io14 (by omega)
  replace xs := xs.iv io14 (by omega)
  replace vx_g := vx_g.iv io14 (by omega)
  replace fo7 := fo7.iv io14 (by omega)
  replace fo80 := fo80.iv io14 (by omega)
  have zo14 := io14.size
  clear mo14
  clear vx_g
  go_wp2_with fail
  refine (markIntS_u (o6.heap.size) (o7.heap.size) order (.slice o7A0 o7N0 o7C0) (1 + totGr g) o14 fo7 (by omega) (by omega) (by omega)).mono ?_
  rintro e o15 ⟨rfl, mo15, io15⟩
  clear fo7
  replace xw := xw.iv io15 (by omega)
  replace xp := xp.iv io15 (by omega)
  replace xs := xs.iv io15 (by omega)
  replace fo80 := fo80.iv io15 (by omega)
  have zo15 := io15.size
  clear mo15
  go_wp2_with fail
  refine (eqIntS_u r0 (.slice o8r0A0 o8r0N0 o8r0C0) (.slice o4r0A0 o4r0N0 o4r0C0) o15 fo80.rd (w0_0.ex xs)).mono ?_
  rintro e o16 ⟨rfl, xo16⟩
  replace xw := xw.trans xo16
  replace xp := xp.trans xo16
  replace xs := xs.trans xo16
  replace fo80 := fo80.ex xo16
  have zo16 := xo16.size
  go_wp2_with fail
  refine (markIntS_u (o7.heap.size) (o8.heap.size) r0 (.slice o8r0A0 o8r0N0 o8r0C0) (1) o16 fo80 (by omega) (by omega) (by omega)).mono ?_
  rintro e o17 ⟨rfl, mo17, io17⟩
  clear fo80
  replace xw := xw.iv io17 (by omega)
  replace xp := xp.iv io17 (by omega)
  replace xs := xs.iv io17 (by omega)
  have zo17 := io17.size
  go_wp2_with fail
  refine (heldIntS_u r0 (.slice o8r0A0 o8r0N0 o8r0C0) (1) o17 mo17.rd (by omega) (by omega)).mono ?_
  rintro e o18 ⟨rfl, xo18⟩
  replace xw := xw.trans xo18
  replace xp := xp.trans xo18
  replace xs := xs.trans xo18
  replace mo17 := mo17.ex xo18
  have zo18 := xo18.size
  have qv_g0 := (v_g.ex xp).cell 0 (v := .int .i64 g.wires) rfl
  have qv_g1 := (v_g.ex xp).cell 1 (v := g_0) rfl
  have qv_g2 := (v_g.ex xp).cell 2 (v := g_1) rfl
  have qv_g3 := (v_g.ex xp).cell 3 (v := g_2) rfl
  go_wp2_with fail
  clear qv_g0 qv_g1 qv_g2 qv_g3
  refine (toGraph_u g g_0 g_1 g_2 o18 (gh.ex xw)).mono ?_
  rintro e o19 ⟨o19_0, o19_1, o19_2, rfl, fo19, xo19⟩
  obtain ⟨o19A0, o19N0, o19C0, o19A1, o19N1, o19C1, o19A2, o19N2, o19C2, rfl, rfl, rfl⟩ := fo19.rd.form
  replace xw := xw.trans xo19
  replace xp := xp.trans xo19
  replace xs := xs.trans xo19
  replace mo17 := mo17.ex xo19
  have zo19 := xo19.size
  go_wp2_with fail
  refine (toIntS_u order (.slice orderA order.length orderc) o19 (orderh.ex xw)).mono ?_
  rintro e o20 ⟨o20_0, rfl, fo20, xo20⟩
  obtain ⟨o20A0, o20N0, o20C0, rfl⟩ := fo20.rd.form
  replace xw := xw.trans xo20
  replace xp := xp.trans xo20
  replace xs := xs.trans xo20
  replace mo17 := mo17.ex xo20
  replace fo19 := fo19.ex xo20
  have zo20 := xo20.size
  go_wp2_with fail
  refine (CutWidths_u _ _ _ _  _ _ o20 fo19.rd fo20.rdc).mono ?_
  intro e o21 ho21
  rw [Hr.out] at ho21
  obtain ⟨o21r0_0, rfl, fo210, xo21⟩ := ho21
  dsimp only at fo210 ⊢
  obtain ⟨o21r0A0, o21r0N0, o21r0C0, rfl⟩ := fo210.rd.form
  replace xw := xw.trans xo21
  replace xp := xp.trans xo21
  replace xs := xs.trans xo21
  replace mo17 := mo17.ex xo21
  replace fo19 := fo19.ex xo21
  replace fo20 := fo20.ex xo21
  have zo21 := xo21.size
  clear fo19
  clear fo20
  go_wp2_with fail
  refine (eqIntS_u r0 (.slice o21r0A0 o21r0N0 o21r0C0) (.slice o4r0A0 o4r0N0 o4r0C0) o21 fo210.rd (w0_0.ex xs)).mono ?_
  rintro e o22 ⟨rfl, xo22⟩
  replace xw := xw.trans xo22
  replace xp := xp.trans xo22
  replace xs := xs.trans xo22
  replace mo17 := mo17.ex xo22
  replace fo210 := fo210.ex xo22
  have zo22 := xo22.size
  go_wp2_with fail
  refine (heldIntS_u r0 (.slice o8r0A0 o8r0N0 o8r0C0) (1) o22 mo17.rd (by omega) (by omega)).mono ?_
  rintro e o23 ⟨rfl, xo23⟩
  replace xw := xw.trans xo23
  replace xp := xp.trans xo23
  replace xs := xs.trans xo23
  replace mo17 := mo17.ex xo23
  replace fo210 := fo210.ex xo23
  have zo23 := xo23.size
  clear Hr
  go_wp2
  all_goals go_ret
  exact ⟨rfl, xw⟩
end Go.Proofs.Ytgblnkadmieflaa
