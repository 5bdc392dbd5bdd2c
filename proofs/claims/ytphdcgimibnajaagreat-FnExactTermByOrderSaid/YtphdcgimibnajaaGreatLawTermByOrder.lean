/- The law on TermByOrder: the program's answer is the reference's, for all arguments; the walk of the law's own text. No conditions. -/
import Derived.Test.YtphdcgimibnajaaGreatAp24
import Derived.Test.YtphdcgimibnajaaGreatAp06
import Derived.Test.YtphdcgimibnajaaGreatAp23
import Derived.Test.YtphdcgimibnajaaGreatUL
import Derived.Test.YtphdcgimibnajaaGreatAp04
import Derived.RegionCalls
import Derived.Deep.RegionWith
import Derived.Deep.RegionHeld3
import Derived.Deep.Cut
namespace Go.Proofs.YtphdcgimibnajaaGreat
set_option maxRecDepth 100000
open Go Go.RowKit
set_option maxHeartbeats 8000000 in
set_option maxRecDepth 100000 in
theorem lawTermByOrder_big1 (g_c0 g_c1 g_c2 g_c3 : Value) (gz : Int) (orderA : Option Addr) (ordern orderc : Nat) (w : World) (gq : QS 5 w (.agg #[g_c0, g_c1, g_c2, g_c3]) gz) (_h0g : 0 ≤ gz) (hborder : ordern ≤ 1048576) (hbig : 1048576 < gz) :
    Calls Tryz.prog 4 #[.agg #[g_c0, g_c1, g_c2, g_c3], .slice orderA ordern orderc] w fun e w' => e = .returned (.bool true) ∧ Ex w w' := by
  have xw := (Ex.refl w).alloc (.cells #[g_c0, g_c1, g_c2, g_c3] 25)
  have v_g := VB.new w 25 #[g_c0, g_c1, g_c2, g_c3]
  go_enter Tryz.func4, Tryz.ntmps4
  go_wp2_with fail
  generalize w.alloc (.cells #[g_c0, g_c1, g_c2, g_c3] 25) = Wp0 at *
  have hs := gq Wp0 (1048576) xw (by omega) (by omega)
  rw [if_pos (by omega)] at hs
  refine hs.mono ?_
  clear hs
  rintro e wz ⟨rfl, xz⟩
  go_wp2
  go_ret
  exact ⟨rfl, xw.trans xz⟩
set_option maxHeartbeats 8000000 in
set_option maxRecDepth 100000 in
theorem lawTermByOrder_len_order (g_c0 g_c1 g_c2 g_c3 : Value) (orderA : Option Addr) (ordern orderc : Nat) (w : World) (hbig : 1048576 < ordern) (hm : ordern ≤ 9223372036854775807) :
    Calls Tryz.prog 4 #[.agg #[g_c0, g_c1, g_c2, g_c3], .slice orderA ordern orderc] w fun e w' => e = .returned (.bool true) ∧ Ex w w' := by
  have xw := (Ex.refl w).alloc (.cells #[g_c0, g_c1, g_c2, g_c3] 25)
  have v_g := VB.new w 25 #[g_c0, g_c1, g_c2, g_c3]
  go_enter Tryz.func4, Tryz.ntmps4
  go_wp2_with fail
  generalize w.alloc (.cells #[g_c0, g_c1, g_c2, g_c3] 25) = Wp0 at *
  go_ret
  exact ⟨rfl, xw⟩
set_option maxHeartbeats 8000000 in
set_option maxRecDepth 100000 in
theorem lawTermByOrder_walk (g : Gr) (g_0 g_1 g_2 : Value) (gz : Int) (order : List Int) (order_0 : Value) (w : World) (gh : RGr w g_0 g_1 g_2 g) (gq : QS 5 w (.agg #[.int .i64 g.wires, g_0, g_1, g_2]) gz) (h0g : 0 ≤ gz) (orderh : RI w order_0 order) (hborder : order.length ≤ 1048576) (hl : gz ≤ 1048576) :
    Calls Tryz.prog 4 #[.agg #[.int .i64 g.wires, g_0, g_1, g_2], order_0] w fun e w' => e = .returned (.bool true) ∧ Ex w w' := by
  obtain ⟨r0, r1, hr⟩ : ∃ r0 r1, tbU g order = (r0, r1) := ⟨_, _, rfl⟩
  have Hr := Lib.hid hr
  clear hr
  obtain ⟨orderA, orderc, rfl, orderR⟩ := orderh
  have orderh : RI w (.slice orderA order.length orderc) order := ⟨orderA, orderc, rfl, orderR⟩
  have tn_g := totGr_nn g
  have tb_g := gh.tot
  have tn_order := totI_nn order
  have tb_order := orderh.tot
  have xw := (Ex.refl w).alloc (.cells #[.int .i64 g.wires, g_0, g_1, g_2] 25)
  have v_g := VB.new w 25 #[.int .i64 g.wires, g_0, g_1, g_2]
  go_enter Tryz.func4, Tryz.ntmps4
  go_wp2_with fail
  generalize w.alloc (.cells #[.int .i64 g.wires, g_0, g_1, g_2] 25) = Wp0 at *
  have zWp := xw.size
  have xp := Ex.refl Wp0
  have hs := gq Wp0 (1048576) xw (by omega) (by omega)
  rw [if_neg (by omega)] at hs
  refine hs.mono ?_
  clear hs
  rintro e o1 ⟨rfl, xo1⟩
  replace xw := xw.trans xo1
  replace xp := xp.trans xo1
  have zo1 := xo1.size
  have qv_g0 := (v_g.ex xp).cell 0 (v := .int .i64 g.wires) rfl
  have qv_g1 := (v_g.ex xp).cell 1 (v := g_0) rfl
  have qv_g2 := (v_g.ex xp).cell 2 (v := g_1) rfl
  have qv_g3 := (v_g.ex xp).cell 3 (v := g_2) rfl
  go_wp2_with fail
  clear qv_g0 qv_g1 qv_g2 qv_g3
  refine (toGraph_u g g_0 g_1 g_2 o1 (gh.ex xw)).mono ?_
  rintro e o2 ⟨o2_0, o2_1, o2_2, rfl, fo2, xo2⟩
  obtain ⟨o2A0, o2N0, o2C0, o2A1, o2N1, o2C1, o2A2, o2N2, o2C2, rfl, rfl, rfl⟩ := fo2.rd.form
  replace xw := xw.trans xo2
  replace xp := xp.trans xo2
  have zo2 := xo2.size
  go_wp2_with fail
  refine (toIntS_u order (.slice orderA order.length orderc) o2 (orderh.ex xw)).mono ?_
  rintro e o3 ⟨o3_0, rfl, fo3, xo3⟩
  obtain ⟨o3A0, o3N0, o3C0, rfl⟩ := fo3.rd.form
  replace xw := xw.trans xo3
  replace xp := xp.trans xo3
  replace fo2 := fo2.ex xo3
  have zo3 := xo3.size
  go_wp2_with fail
  refine (spTermByOrder_u _ _ _ _  _ _ o3 fo2.rd fo3.rdc).mono ?_
  intro e o4 ho4
  rw [Hr.out] at ho4
  obtain ⟨o4r0_0, rfl, fo40, xo4⟩ := ho4
  dsimp only at fo40 ⊢
  obtain ⟨o4r0A0, o4r0N0, o4r0C0, rfl⟩ := fo40.form
  have tnfo40 := totTm_nn r0
  have tbfo40 := fo40.tot
  replace xw := xw.trans xo4
  replace xp := xp.trans xo4
  replace fo2 := fo2.ex xo4
  replace fo3 := fo3.ex xo4
  have zo4 := xo4.size
  clear fo2
  clear fo3
  have w0_0 := fo40
  clear fo40
  have xs := Ex.refl o4
  have qv_g0 := ((v_g.ex xp).ex ((Ex.refl o4).alloc (.cells #[(.slice o4r0A0 o4r0N0 o4r0C0)] 29))).cell 0 (v := .int .i64 g.wires) rfl
  have qv_g1 := ((v_g.ex xp).ex ((Ex.refl o4).alloc (.cells #[(.slice o4r0A0 o4r0N0 o4r0C0)] 29))).cell 1 (v := g_0) rfl
  have qv_g2 := ((v_g.ex xp).ex ((Ex.refl o4).alloc (.cells #[(.slice o4r0A0 o4r0N0 o4r0C0)] 29))).cell 2 (v := g_1) rfl
  have qv_g3 := ((v_g.ex xp).ex ((Ex.refl o4).alloc (.cells #[(.slice o4r0A0 o4r0N0 o4r0C0)] 29))).cell 3 (v := g_2) rfl
  go_wp2_with fail
  clear qv_g0 qv_g1 qv_g2 qv_g3
  have xa := (Ex.refl o4).alloc (.cells #[(.slice o4r0A0 o4r0N0 o4r0C0)] 29)
  have vw0 := VB.new o4 29 #[(.slice o4r0A0 o4r0N0 o4r0C0)]
  have vw0l := vw0.lt
  generalize o4.alloc (.cells #[(.slice o4r0A0 o4r0N0 o4r0C0)] 29) = o5 at *
  replace xw := xw.trans xa
  replace xp := xp.trans xa
  replace xs := xs.trans xa
  have zo5 := xa.size
  clear xa
  have xvvw0 := Ex.refl o5
  refine (toGraph_u g g_0 g_1 g_2 o5 (gh.ex xw)).mono ?_
  rintro e o6 ⟨o6_0, o6_1, o6_2, rfl, fo6, xo6⟩
  obtain ⟨o6A0, o6N0, o6C0, o6A1, o6N1, o6C1, o6A2, o6N2, o6C2, rfl, rfl, rfl⟩ := fo6.rd.form
  replace xw := xw.trans xo6
  replace xp := xp.trans xo6
  replace xs := xs.trans xo6
  replace xvvw0 := xvvw0.trans xo6
  have zo6 := xo6.size
  go_wp2_with fail
  have xa := (Ex.refl o6).alloc (.cells #[.int .i64 g.wires, (.slice o6A0 o6N0 o6C0), (.slice o6A1 o6N1 o6C1), (.slice o6A2 o6N2 o6C2)] 34)
  have vx_g := VB.new o6 34 #[.int .i64 g.wires, (.slice o6A0 o6N0 o6C0), (.slice o6A1 o6N1 o6C1), (.slice o6A2 o6N2 o6C2)]
  have vx_gl := vx_g.lt
  generalize o6.alloc (.cells #[.int .i64 g.wires, (.slice o6A0 o6N0 o6C0), (.slice o6A1 o6N1 o6C1), (.slice o6A2 o6N2 o6C2)] 34) = o7 at *
  replace xw := xw.trans xa
  replace xp := xp.trans xa
  replace xs := xs.trans xa
  replace xvvw0 := xvvw0.trans xa
  replace fo6 := fo6.ex xa
  have zo7 := xa.size
  clear xa
  refine (toIntS_u order (.slice orderA order.length orderc) o7 (orderh.ex xw)).mono ?_
  rintro e o8 ⟨o8_0, rfl, fo8, xo8⟩
  obtain ⟨o8A0, o8N0, o8C0, rfl⟩ := fo8.rd.form
  replace xw := xw.trans xo8
  replace xp := xp.trans xo8
  replace xs := xs.trans xo8
  replace xvvw0 := xvvw0.trans xo8
  replace fo6 := fo6.ex xo8
  replace vx_g := vx_g.ex xo8
  have zo8 := xo8.size
  have qvx_g0 := vx_g.cell 0 (v := .int .i64 g.wires) rfl
  have qvx_g1 := vx_g.cell 1 (v := (.slice o6A0 o6N0 o6C0)) rfl
  have qvx_g2 := vx_g.cell 2 (v := (.slice o6A1 o6N1 o6C1)) rfl
  have qvx_g3 := vx_g.cell 3 (v := (.slice o6A2 o6N2 o6C2)) rfl
  go_wp2_with fail
  clear qvx_g0 qvx_g1 qvx_g2 qvx_g3
  refine (TermByOrder_u _ _ _ _  _ _ o8 fo6.rd fo8.rdc).mono ?_
  intro e o9 ho9
  rw [Hr.out] at ho9
  obtain ⟨o9r0_0, rfl, fo90, xo9⟩ := ho9
  dsimp only at fo90 ⊢
  obtain ⟨o9r0A0, o9r0N0, o9r0C0, rfl⟩ := fo90.rd.form
  replace xw := xw.trans xo9
  replace xp := xp.trans xo9
  replace xs := xs.trans xo9
  replace xvvw0 := xvvw0.trans xo9
  replace fo6 := fo6.ex xo9
  replace vx_g := vx_g.ex xo9
  replace fo8 := fo8.ex xo9
  have zo9 := xo9.size
  have qvw00 := ((vw0.ex xvvw0).ex ((Ex.refl o9).alloc (.cells #[(.slice o9r0A0 o9r0N0 o9r0C0)] 29))).cell 0 (v := (.slice o4r0A0 o4r0N0 o4r0C0)) rfl
  go_wp2_with fail
  clear qvw00
  have xa := (Ex.refl o9).alloc (.cells #[(.slice o9r0A0 o9r0N0 o9r0C0)] 29)
  have vg0 := VB.new o9 29 #[(.slice o9r0A0 o9r0N0 o9r0C0)]
  have vg0l := vg0.lt
  generalize o9.alloc (.cells #[(.slice o9r0A0 o9r0N0 o9r0C0)] 29) = o10 at *
  replace xw := xw.trans xa
  replace xp := xp.trans xa
  replace xs := xs.trans xa
  replace xvvw0 := xvvw0.trans xa
  replace fo6 := fo6.ex xa
  replace vx_g := vx_g.ex xa
  replace fo8 := fo8.ex xa
  replace fo90 := fo90.ex xa
  have zo10 := xa.size
  clear xa
  refine (eqTerm_u r0 (.slice o9r0A0 o9r0N0 o9r0C0) (.slice o4r0A0 o4r0N0 o4r0C0) o10 fo90.rd (w0_0.ex xs)).mono ?_
  rintro e o11 ⟨rfl, xo11⟩
  replace xw := xw.trans xo11
  replace xp := xp.trans xo11
  replace xs := xs.trans xo11
  replace xvvw0 := xvvw0.trans xo11
  replace fo6 := fo6.ex xo11
  replace vx_g := vx_g.ex xo11
  replace fo8 := fo8.ex xo11
  replace fo90 := fo90.ex xo11
  replace vg0 := vg0.ex xo11
  have zo11 := xo11.size
  have qvx_g0 := vx_g.cell 0 (v := .int .i64 g.wires) rfl
  have qvx_g1 := vx_g.cell 1 (v := (.slice o6A0 o6N0 o6C0)) rfl
  have qvx_g2 := vx_g.cell 2 (v := (.slice o6A1 o6N1 o6C1)) rfl
  have qvx_g3 := vx_g.cell 3 (v := (.slice o6A2 o6N2 o6C2)) rfl
  have qv_g0 := (v_g.ex xp).cell 0 (v := .int .i64 g.wires) rfl
  have qv_g1 := (v_g.ex xp).cell 1 (v := g_0) rfl
  have qv_g2 := (v_g.ex xp).cell 2 (v := g_1) rfl
  have qv_g3 := (v_g.ex xp).cell 3 (v := g_2) rfl
  go_wp2_with fail
  go_region_held3 (fun W => W.cell? ⟨o6.heap.size, 0, none⟩ = some (.int .i64 g.wires) ∧ W.cell? ⟨o6.heap.size, 1, none⟩ = some ((.slice o6A0 o6N0 o6C0)) ∧ W.cell? ⟨o6.heap.size, 2, none⟩ = some ((.slice o6A1 o6N1 o6C1)) ∧ W.cell? ⟨o6.heap.size, 3, none⟩ = some ((.slice o6A2 o6N2 o6C2)) ∧ W.cell? ⟨w.heap.size, 0, none⟩ = some (.int .i64 g.wires) ∧ W.cell? ⟨w.heap.size, 1, none⟩ = some (g_0) ∧ W.cell? ⟨w.heap.size, 2, none⟩ = some (g_1) ∧ W.cell? ⟨w.heap.size, 3, none⟩ = some (g_2)) (first | (exact ⟨(cell_ex xo13 (cell_ex xo12 qvx_g0)), (cell_ex xo13 (cell_ex xo12 qvx_g1)), (cell_ex xo13 (cell_ex xo12 qvx_g2)), (cell_ex xo13 (cell_ex xo12 qvx_g3)), (cell_ex xo13 (cell_ex xo12 qv_g0)), (cell_ex xo13 (cell_ex xo12 qv_g1)), (cell_ex xo13 (cell_ex xo12 qv_g2)), (cell_ex xo13 (cell_ex xo12 qv_g3))⟩) | (exact ⟨(cell_ex xo12 qvx_g0), (cell_ex xo12 qvx_g1), (cell_ex xo12 qvx_g2), (cell_ex xo12 qvx_g3), (cell_ex xo12 qv_g0), (cell_ex xo12 qv_g1), (cell_ex xo12 qv_g2), (cell_ex xo12 qv_g3)⟩) | (exact ⟨qvx_g0, qvx_g1, qvx_g2, qvx_g3, qv_g0, qv_g1, qv_g2, qv_g3⟩)) (first
    | (go_at_call 7
       refine (toGraph_u g g_0 g_1 g_2 o11.drew (gh.ex xw.drew)).mono ?_
       rintro e o12 ⟨o12_0, o12_1, o12_2, rfl, fo12, xo12⟩)
    | (go_at_call 10
       refine (eqGraph_u g (.slice o6A0 o6N0 o6C0) (.slice o6A1 o6N1 o6C1) (.slice o6A2 o6N2 o6C2) o12_0 o12_1 o12_2 _ ((fo6.rd.ex (Ex.refl o11).drew).ex xo12) fo12.rd).mono ?_
       rintro e o13 ⟨rfl, xo13⟩))
  have xd : Ex o11 o13 := ((Ex.refl o11).drew.trans xo12).trans xo13
  clear qvx_g0 qvx_g1 qvx_g2 qvx_g3 qv_g0 qv_g1 qv_g2 qv_g3 fo12 xo12 xo13
  replace xw := xw.trans xd
  replace xp := xp.trans xd
  replace xs := xs.trans xd
  replace xvvw0 := xvvw0.trans xd
  replace fo6 := fo6.ex xd
  replace vx_g := vx_g.ex xd
  replace fo8 := fo8.ex xd
  replace fo90 := fo90.ex xd
  replace vg0 := vg0.ex xd
  have zo13 := xd.size
  clear xd
  go_wp2_with fail
  refine (toIntS_u order (.slice orderA order.length orderc) o13 (orderh.ex xw)).mono ?_
  rintro e o14 ⟨o14_0, rfl, fo14, xo14⟩
  obtain ⟨o14A0, o14N0, o14C0, rfl⟩ := fo14.rd.form
  replace xw := xw.trans xo14
  replace xp := xp.trans xo14
  replace xs := xs.trans xo14
  replace xvvw0 := xvvw0.trans xo14
  replace fo6 := fo6.ex xo14
  replace vx_g := vx_g.ex xo14
  replace fo8 := fo8.ex xo14
  replace fo90 := fo90.ex xo14
  replace vg0 := vg0.ex xo14
  have zo14 := xo14.size
  go_wp2_with fail
  refine (eqIntS_u order (.slice o8A0 o8N0 o8C0) (.slice o14A0 o14N0 o14C0) o14 fo8.rd fo14.rd).mono ?_
  rintro e o15 ⟨rfl, xo15⟩
  replace xw := xw.trans xo15
  replace xp := xp.trans xo15
  replace xs := xs.trans xo15
  replace xvvw0 := xvvw0.trans xo15
  replace fo6 := fo6.ex xo15
  replace vx_g := vx_g.ex xo15
  replace fo8 := fo8.ex xo15
  replace fo90 := fo90.ex xo15
  replace vg0 := vg0.ex xo15
  replace fo14 := fo14.ex xo15
  have zo15 := xo15.size
  clear fo14
  have qvx_g0 := vx_g.cell 0 (v := .int .i64 g.wires) rfl
  have qvx_g1 := vx_g.cell 1 (v := (.slice o6A0 o6N0 o6C0)) rfl
  have qvx_g2 := vx_g.cell 2 (v := (.slice o6A1 o6N1 o6C1)) rfl
  have qvx_g3 := vx_g.cell 3 (v := (.slice o6A2 o6N2 o6C2)) rfl
  go_wp2_with fail
  clear qvx_g0 qvx_g1 qvx_g2 qvx_g3
  refine (markGraph_u (o5.heap.size) (o6.heap.size) g (.slice o6A0 o6N0 o6C0) (.slice o6A1 o6N1 o6C1) (.slice o6A2 o6N2 o6C2) (1) o15 fo6 (by omega) (by omega) (by omega)).mono ?_
  rintro e o16 ⟨rfl, mo16, io16⟩
  clear fo6
  replace xw := xw.iv io16 (by omega)
  replace xp := xp.iv io16 (by omega)
  replace xs := xs.iv io16 (by omega)
  replace xvvw0 := xvvw0.iv io16 (by omega)
  replace vx_g := vx_g.iv io16 (by omega)
  replace fo8 := fo8.iv io16 (by omega)
  replace fo90 := fo90.iv io16 (by omega)
  replace vg0 := vg0.iv io16 (by omega)
  have zo16 := io16.size
  clear mo16
  clear vx_g
  go_wp2_with fail
  refine (markIntS_u (o7.heap.size) (o8.heap.size) order (.slice o8A0 o8N0 o8C0) (1 + totGr g) o16 fo8 (by omega) (by omega) (by omega)).mono ?_
  rintro e o17 ⟨rfl, mo17, io17⟩
  clear fo8
  replace xw := xw.iv io17 (by omega)
  replace xp := xp.iv io17 (by omega)
  replace xs := xs.iv io17 (by omega)
  replace xvvw0 := xvvw0.iv io17 (by omega)
  replace fo90 := fo90.iv io17 (by omega)
  replace vg0 := vg0.iv io17 (by omega)
  have zo17 := io17.size
  clear mo17
  have qvg00 := vg0.cell 0 (v := (.slice o9r0A0 o9r0N0 o9r0C0)) rfl
  have qvw00 := (vw0.ex xvvw0).cell 0 (v := (.slice o4r0A0 o4r0N0 o4r0C0)) rfl
  go_wp2_with fail
  clear qvg00 qvw00
  refine (eqTerm_u r0 (.slice o9r0A0 o9r0N0 o9r0C0) (.slice o4r0A0 o4r0N0 o4r0C0) o17 fo90.rd (w0_0.ex xs)).mono ?_
  rintro e o18 ⟨rfl, xo18⟩
  replace xw := xw.trans xo18
  replace xp := xp.trans xo18
  replace xs := xs.trans xo18
  replace xvvw0 := xvvw0.trans xo18
  replace fo90 := fo90.ex xo18
  replace vg0 := vg0.ex xo18
  have zo18 := xo18.size
  have qvg00 := vg0.cell 0 (v := (.slice o9r0A0 o9r0N0 o9r0C0)) rfl
  go_wp2_with fail
  clear qvg00
  refine (markTerm_u (o8.heap.size) (o9.heap.size) r0 (.slice o9r0A0 o9r0N0 o9r0C0) (1) o18 fo90 (by omega) (by omega) (by omega)).mono ?_
  rintro e o19 ⟨rfl, mo19, io19⟩
  clear fo90
  replace xw := xw.iv io19 (by omega)
  replace xp := xp.iv io19 (by omega)
  replace xs := xs.iv io19 (by omega)
  replace xvvw0 := xvvw0.iv io19 (by omega)
  replace vg0 := vg0.iv io19 (by omega)
  have zo19 := io19.size
  have qvg00 := vg0.cell 0 (v := (.slice o9r0A0 o9r0N0 o9r0C0)) rfl
  go_wp2_with fail
  clear qvg00
  refine (heldTerm_u r0 (.slice o9r0A0 o9r0N0 o9r0C0) (1) o19 mo19.rd (by omega) (by omega)).mono ?_
  rintro e o20 ⟨rfl, xo20⟩
  replace xw := xw.trans xo20
  replace xp := xp.trans xo20
  replace xs := xs.trans xo20
  replace xvvw0 := xvvw0.trans xo20
  replace vg0 := vg0.ex xo20
  replace mo19 := mo19.ex xo20
  have zo20 := xo20.size
  have qv_g0 := (v_g.ex xp).cell 0 (v := .int .i64 g.wires) rfl
  have qv_g1 := (v_g.ex xp).cell 1 (v := g_0) rfl
  have qv_g2 := (v_g.ex xp).cell 2 (v := g_1) rfl
  have qv_g3 := (v_g.ex xp).cell 3 (v := g_2) rfl
  go_wp2_with fail
  clear qv_g0 qv_g1 qv_g2 qv_g3
  refine (toGraph_u g g_0 g_1 g_2 o20 (gh.ex xw)).mono ?_
  rintro e o21 ⟨o21_0, o21_1, o21_2, rfl, fo21, xo21⟩
  obtain ⟨o21A0, o21N0, o21C0, o21A1, o21N1, o21C1, o21A2, o21N2, o21C2, rfl, rfl, rfl⟩ := fo21.rd.form
  replace xw := xw.trans xo21
  replace xp := xp.trans xo21
  replace xs := xs.trans xo21
  replace xvvw0 := xvvw0.trans xo21
  replace vg0 := vg0.ex xo21
  replace mo19 := mo19.ex xo21
  have zo21 := xo21.size
  go_wp2_with fail
  refine (toIntS_u order (.slice orderA order.length orderc) o21 (orderh.ex xw)).mono ?_
  rintro e o22 ⟨o22_0, rfl, fo22, xo22⟩
  obtain ⟨o22A0, o22N0, o22C0, rfl⟩ := fo22.rd.form
  replace xw := xw.trans xo22
  replace xp := xp.trans xo22
  replace xs := xs.trans xo22
  replace xvvw0 := xvvw0.trans xo22
  replace vg0 := vg0.ex xo22
  replace mo19 := mo19.ex xo22
  replace fo21 := fo21.ex xo22
  have zo22 := xo22.size
  go_wp2_with fail
  refine (TermByOrder_u _ _ _ _  _ _ o22 fo21.rd fo22.rdc).mono ?_
  intro e o23 ho23
  rw [Hr.out] at ho23
  obtain ⟨o23r0_0, rfl, fo230, xo23⟩ := ho23
  dsimp only at fo230 ⊢
  obtain ⟨o23r0A0, o23r0N0, o23r0C0, rfl⟩ := fo230.rd.form
  replace xw := xw.trans xo23
  replace xp := xp.trans xo23
  replace xs := xs.trans xo23
  replace xvvw0 := xvvw0.trans xo23
  replace vg0 := vg0.ex xo23
  replace mo19 := mo19.ex xo23
  replace fo21 := fo21.ex xo23
  replace fo22 := fo22.ex xo23
  have zo23 := xo23.size
  clear fo21
  clear fo22
  have qvw00 := ((vw0.ex xvvw0).ex ((Ex.refl o23).alloc (.cells #[(.slice o23r0A0 o23r0N0 o23r0C0)] 29))).cell 0 (v := (.slice o4r0A0 o4r0N0 o4r0C0)) rfl
  go_wp2_with fail
  clear qvw00
  have xa := (Ex.refl o23).alloc (.cells #[(.slice o23r0A0 o23r0N0 o23r0C0)] 29)
  have vh0 := VB.new o23 29 #[(.slice o23r0A0 o23r0N0 o23r0C0)]
  have vh0l := vh0.lt
  generalize o23.alloc (.cells #[(.slice o23r0A0 o23r0N0 o23r0C0)] 29) = o24 at *
  replace xw := xw.trans xa
  replace xp := xp.trans xa
  replace xs := xs.trans xa
  replace xvvw0 := xvvw0.trans xa
  replace vg0 := vg0.ex xa
  replace mo19 := mo19.ex xa
  replace fo230 := fo230.ex xa
  have zo24 := xa.size
  clear xa
  refine (eqTerm_u r0 (.slice o23r0A0 o23r0N0 o23r0C0) (.slice o4r0A0 o4r0N0 o4r0C0) o24 fo230.rd (w0_0.ex xs)).mono ?_
  rintro e o25 ⟨rfl, xo25⟩
  replace xw := xw.trans xo25
  replace xp := xp.trans xo25
  replace xs := xs.trans xo25
  replace xvvw0 := xvvw0.trans xo25
  replace vg0 := vg0.ex xo25
  replace mo19 := mo19.ex xo25
  replace fo230 := fo230.ex xo25
  replace vh0 := vh0.ex xo25
  have zo25 := xo25.size
  have qvg00 := vg0.cell 0 (v := (.slice o9r0A0 o9r0N0 o9r0C0)) rfl
  go_wp2_with fail
  clear qvg00
  refine (heldTerm_u r0 (.slice o9r0A0 o9r0N0 o9r0C0) (1) o25 mo19.rd (by omega) (by omega)).mono ?_
  rintro e o26 ⟨rfl, xo26⟩
  replace xw := xw.trans xo26
  replace xp := xp.trans xo26
  replace xs := xs.trans xo26
  replace xvvw0 := xvvw0.trans xo26
  replace vg0 := vg0.ex xo26
  replace mo19 := mo19.ex xo26
  replace fo230 := fo230.ex xo26
  replace vh0 := vh0.ex xo26
  have zo26 := xo26.size
  clear Hr
  go_wp2
  all_goals go_ret
  exact ⟨rfl, xw⟩
end Go.Proofs.YtphdcgimibnajaaGreat
