/- The law on ScheduleOf: the program's answer is the reference's, for all arguments; the walk of the law's own text. No conditions. -/
import Derived.Test.YtkpfmnconnopnaaDoorCirU
import Derived.Test.YtkpfmnconnopnaaDoorU
import Derived.RegionCalls
import Derived.Deep.RegionWith
import Derived.Deep.RegionHeld3
import Derived.Deep.Cut
namespace Go.Proofs.YtkpfmnconnopnaaDoor
set_option maxRecDepth 100000
open Go Go.RowKit
set_option maxHeartbeats 8000000 in
set_option maxRecDepth 100000 in
theorem lawScheduleOf_big1 (p : Int) (c_c0 c_c1 c_c2 : Value) (cz : Int) (w : World) (cq : QS 21 w (.agg #[c_c0, c_c1, c_c2]) cz) (h0c : 0 ≤ cz) (hbig : 1048576 < cz) :
    Calls Tryd.prog 5 #[.int .i64 p, .agg #[c_c0, c_c1, c_c2]] w fun e w' => e = .returned (.bool true) ∧ Ex w w' := by
  have xw := (Ex.refl w).alloc (.cells #[c_c0, c_c1, c_c2] 39)
  have v_c := VB.new w 39 #[c_c0, c_c1, c_c2]
  go_enter Tryd.func5, Tryd.ntmps5
  go_wp2_with fail
  generalize w.alloc (.cells #[c_c0, c_c1, c_c2] 39) = Wp0 at *
  have hs := cq Wp0 (1048576) xw (by omega) (by omega)
  rw [if_pos (by omega)] at hs
  refine hs.mono ?_
  clear hs
  rintro e wz ⟨rfl, xz⟩
  go_wp2
  go_ret
  exact ⟨rfl, xw.trans xz⟩
set_option maxHeartbeats 8000000 in
set_option maxRecDepth 100000 in
theorem lawScheduleOf_walk (p : Int) (c : Circ) (c_0 c_1 : Value) (cz : Int) (w : World) (ch : RCirc w c_0 c_1 c) (cq : QS 21 w (.agg #[.int .i64 c.n, c_0, c_1]) cz) (h0c : 0 ≤ cz) (hl : cz ≤ 1048576) (ht : Tb w) :
    Calls Tryd.prog 5 #[.int .i64 p, .agg #[.int .i64 c.n, c_0, c_1]] w fun e w' => e = .returned (.bool true) ∧ Ex w w' := by
  obtain ⟨r0, r1, hr⟩ : ∃ r0 r1, schU p c = (r0, r1) := ⟨_, _, rfl⟩
  have Hr := Lib.hid hr
  clear hr
  have tn_c := totCirc_nn c
  have tb_c := ch.tot
  have xw := (Ex.refl w).alloc (.cells #[.int .i64 c.n, c_0, c_1] 39)
  have v_c := VB.new w 39 #[.int .i64 c.n, c_0, c_1]
  go_enter Tryd.func5, Tryd.ntmps5
  go_wp2_with fail
  generalize w.alloc (.cells #[.int .i64 c.n, c_0, c_1] 39) = Wp0 at *
  have zWp := xw.size
  have xp := Ex.refl Wp0
  have hs := cq Wp0 (1048576) xw (by omega) (by omega)
  rw [if_neg (by omega)] at hs
  refine hs.mono ?_
  clear hs
  rintro e o1 ⟨rfl, xo1⟩
  replace xw := xw.trans xo1
  replace xp := xp.trans xo1
  have zo1 := xo1.size
  have qv_c0 := (v_c.ex xp).cell 0 (v := .int .i64 c.n) rfl
  have qv_c1 := (v_c.ex xp).cell 1 (v := c_0) rfl
  have qv_c2 := (v_c.ex xp).cell 2 (v := c_1) rfl
  go_wp2_with fail
  clear qv_c0 qv_c1 qv_c2
  refine (toCircuit_u c c_0 c_1 o1 (ch.ex xw)).mono ?_
  rintro e o2 ⟨o2_0, o2_1, rfl, fo2, xo2⟩
  obtain ⟨o2A0, o2N0, o2C0, o2A1, o2N1, o2C1, rfl, rfl⟩ := fo2.rd.form
  replace xw := xw.trans xo2
  replace xp := xp.trans xo2
  have zo2 := xo2.size
  go_wp2_with fail
  refine (spScheduleOf_u _  _ _ _ o2 fo2.rd).mono ?_
  intro e o3 ho3
  rw [Hr.out] at ho3
  obtain ⟨o3r0_0, rfl, fo30, xo3⟩ := ho3
  dsimp only at fo30 ⊢
  obtain ⟨o3r0A0, o3r0N0, o3r0C0, rfl⟩ := fo30.form
  have tnfo30 := totI_nn r0
  have tbfo30 := fo30.tot
  replace xw := xw.trans xo3
  replace xp := xp.trans xo3
  replace fo2 := fo2.ex xo3
  have zo3 := xo3.size
  clear fo2
  have w0_0 := fo30
  clear fo30
  have xs := Ex.refl o3
  have qv_c0 := (v_c.ex xp).cell 0 (v := .int .i64 c.n) rfl
  have qv_c1 := (v_c.ex xp).cell 1 (v := c_0) rfl
  have qv_c2 := (v_c.ex xp).cell 2 (v := c_1) rfl
  go_wp2_with fail
  clear qv_c0 qv_c1 qv_c2
  refine (toCircuit_u c c_0 c_1 o3 (ch.ex xw)).mono ?_
  rintro e o4 ⟨o4_0, o4_1, rfl, fo4, xo4⟩
  obtain ⟨o4A0, o4N0, o4C0, o4A1, o4N1, o4C1, rfl, rfl⟩ := fo4.rd.form
  replace xw := xw.trans xo4
  replace xp := xp.trans xo4
  replace xs := xs.trans xo4
  have zo4 := xo4.size
  go_wp2_with fail
  have xa := (Ex.refl o4).alloc (.cells #[.int .i64 c.n, (.slice o4A0 o4N0 o4C0), (.slice o4A1 o4N1 o4C1)] 44)
  have vx_c := VB.new o4 44 #[.int .i64 c.n, (.slice o4A0 o4N0 o4C0), (.slice o4A1 o4N1 o4C1)]
  have vx_cl := vx_c.lt
  generalize o4.alloc (.cells #[.int .i64 c.n, (.slice o4A0 o4N0 o4C0), (.slice o4A1 o4N1 o4C1)] 44) = o5 at *
  replace xw := xw.trans xa
  replace xp := xp.trans xa
  replace xs := xs.trans xa
  replace fo4 := fo4.ex xa
  have zo5 := xa.size
  clear xa
  refine (ScheduleOf_u _  _ _ _ o5 fo4.rd (ht.ex xw)).mono ?_
  intro e o6 ho6
  rw [Hr.out] at ho6
  obtain ⟨o6r0_0, rfl, fo60, xo6⟩ := ho6
  dsimp only at fo60 ⊢
  obtain ⟨o6r0A0, o6r0N0, o6r0C0, rfl⟩ := fo60.rd.form
  replace xw := xw.trans xo6
  replace xp := xp.trans xo6
  replace xs := xs.trans xo6
  replace fo4 := fo4.ex xo6
  replace vx_c := vx_c.ex xo6
  have zo6 := xo6.size
  go_wp2_with fail
  refine (eqIntS_u r0 (.slice o6r0A0 o6r0N0 o6r0C0) (.slice o3r0A0 o3r0N0 o3r0C0) o6 fo60.rd (w0_0.ex xs)).mono ?_
  rintro e o7 ⟨rfl, xo7⟩
  replace xw := xw.trans xo7
  replace xp := xp.trans xo7
  replace xs := xs.trans xo7
  replace fo4 := fo4.ex xo7
  replace vx_c := vx_c.ex xo7
  replace fo60 := fo60.ex xo7
  have zo7 := xo7.size
  have qvx_c0 := vx_c.cell 0 (v := .int .i64 c.n) rfl
  have qvx_c1 := vx_c.cell 1 (v := (.slice o4A0 o4N0 o4C0)) rfl
  have qvx_c2 := vx_c.cell 2 (v := (.slice o4A1 o4N1 o4C1)) rfl
  have qv_c0 := (v_c.ex xp).cell 0 (v := .int .i64 c.n) rfl
  have qv_c1 := (v_c.ex xp).cell 1 (v := c_0) rfl
  have qv_c2 := (v_c.ex xp).cell 2 (v := c_1) rfl
  go_wp2_with fail
  go_region_held3 (fun W => W.cell? ⟨o4.heap.size, 0, none⟩ = some (.int .i64 c.n) ∧ W.cell? ⟨o4.heap.size, 1, none⟩ = some ((.slice o4A0 o4N0 o4C0)) ∧ W.cell? ⟨o4.heap.size, 2, none⟩ = some ((.slice o4A1 o4N1 o4C1)) ∧ W.cell? ⟨w.heap.size, 0, none⟩ = some (.int .i64 c.n) ∧ W.cell? ⟨w.heap.size, 1, none⟩ = some (c_0) ∧ W.cell? ⟨w.heap.size, 2, none⟩ = some (c_1)) (first | (exact ⟨(cell_ex xo9 (cell_ex xo8 qvx_c0)), (cell_ex xo9 (cell_ex xo8 qvx_c1)), (cell_ex xo9 (cell_ex xo8 qvx_c2)), (cell_ex xo9 (cell_ex xo8 qv_c0)), (cell_ex xo9 (cell_ex xo8 qv_c1)), (cell_ex xo9 (cell_ex xo8 qv_c2))⟩) | (exact ⟨(cell_ex xo8 qvx_c0), (cell_ex xo8 qvx_c1), (cell_ex xo8 qvx_c2), (cell_ex xo8 qv_c0), (cell_ex xo8 qv_c1), (cell_ex xo8 qv_c2)⟩) | (exact ⟨qvx_c0, qvx_c1, qvx_c2, qv_c0, qv_c1, qv_c2⟩)) (first
    | (go_at_call 23
       refine (toCircuit_u c c_0 c_1 o7.drew (ch.ex xw.drew)).mono ?_
       rintro e o8 ⟨o8_0, o8_1, rfl, fo8, xo8⟩)
    | (go_at_call 25
       refine (eqCircuit_u c (.slice o4A0 o4N0 o4C0) (.slice o4A1 o4N1 o4C1) o8_0 o8_1 _ ((fo4.rd.ex (Ex.refl o7).drew).ex xo8) fo8.rd).mono ?_
       rintro e o9 ⟨rfl, xo9⟩))
  have xd : Ex o7 o9 := ((Ex.refl o7).drew.trans xo8).trans xo9
  clear qvx_c0 qvx_c1 qvx_c2 qv_c0 qv_c1 qv_c2 fo8 xo8 xo9
  replace xw := xw.trans xd
  replace xp := xp.trans xd
  replace xs := xs.trans xd
  replace fo4 := fo4.ex xd
  replace vx_c := vx_c.ex xd
  replace fo60 := fo60.ex xd
  have zo9 := xd.size
  clear xd
  have qvx_c0 := vx_c.cell 0 (v := .int .i64 c.n) rfl
  have qvx_c1 := vx_c.cell 1 (v := (.slice o4A0 o4N0 o4C0)) rfl
  have qvx_c2 := vx_c.cell 2 (v := (.slice o4A1 o4N1 o4C1)) rfl
  go_wp2_with fail
  clear qvx_c0 qvx_c1 qvx_c2
  refine (markCircuit_u (o3.heap.size) (o4.heap.size) c (.slice o4A0 o4N0 o4C0) (.slice o4A1 o4N1 o4C1) (1) o9 fo4 (by omega) (by omega) (by omega)).mono ?_
  rintro e o10 ⟨rfl, mo10, io10⟩
  clear fo4
  replace xw := xw.iv io10 (by omega)
  replace xp := xp.iv io10 (by omega)
  replace xs := xs.iv io10 (by omega)
  replace vx_c := vx_c.iv io10 (by omega)
  replace fo60 := fo60.iv io10 (by omega)
  have zo10 := io10.size
  clear mo10
  clear vx_c
  go_wp2_with fail
  refine (eqIntS_u r0 (.slice o6r0A0 o6r0N0 o6r0C0) (.slice o3r0A0 o3r0N0 o3r0C0) o10 fo60.rd (w0_0.ex xs)).mono ?_
  rintro e o11 ⟨rfl, xo11⟩
  replace xw := xw.trans xo11
  replace xp := xp.trans xo11
  replace xs := xs.trans xo11
  replace fo60 := fo60.ex xo11
  have zo11 := xo11.size
  go_wp2_with fail
  refine (markIntS_u (o5.heap.size) (o6.heap.size) r0 (.slice o6r0A0 o6r0N0 o6r0C0) (1) o11 fo60 (by omega) (by omega) (by omega)).mono ?_
  rintro e o12 ⟨rfl, mo12, io12⟩
  clear fo60
  replace xw := xw.iv io12 (by omega)
  replace xp := xp.iv io12 (by omega)
  replace xs := xs.iv io12 (by omega)
  have zo12 := io12.size
  go_wp2_with fail
  refine (heldIntS_u r0 (.slice o6r0A0 o6r0N0 o6r0C0) (1) o12 mo12.rd (by omega) (by omega)).mono ?_
  rintro e o13 ⟨rfl, xo13⟩
  replace xw := xw.trans xo13
  replace xp := xp.trans xo13
  replace xs := xs.trans xo13
  replace mo12 := mo12.ex xo13
  have zo13 := xo13.size
  have qv_c0 := (v_c.ex xp).cell 0 (v := .int .i64 c.n) rfl
  have qv_c1 := (v_c.ex xp).cell 1 (v := c_0) rfl
  have qv_c2 := (v_c.ex xp).cell 2 (v := c_1) rfl
  go_wp2_with fail
  clear qv_c0 qv_c1 qv_c2
  refine (toCircuit_u c c_0 c_1 o13 (ch.ex xw)).mono ?_
  rintro e o14 ⟨o14_0, o14_1, rfl, fo14, xo14⟩
  obtain ⟨o14A0, o14N0, o14C0, o14A1, o14N1, o14C1, rfl, rfl⟩ := fo14.rd.form
  replace xw := xw.trans xo14
  replace xp := xp.trans xo14
  replace xs := xs.trans xo14
  replace mo12 := mo12.ex xo14
  have zo14 := xo14.size
  go_wp2_with fail
  refine (ScheduleOf_u _  _ _ _ o14 fo14.rd (ht.ex xw)).mono ?_
  intro e o15 ho15
  rw [Hr.out] at ho15
  obtain ⟨o15r0_0, rfl, fo150, xo15⟩ := ho15
  dsimp only at fo150 ⊢
  obtain ⟨o15r0A0, o15r0N0, o15r0C0, rfl⟩ := fo150.rd.form
  replace xw := xw.trans xo15
  replace xp := xp.trans xo15
  replace xs := xs.trans xo15
  replace mo12 := mo12.ex xo15
  replace fo14 := fo14.ex xo15
  have zo15 := xo15.size
  clear fo14
  go_wp2_with fail
  refine (eqIntS_u r0 (.slice o15r0A0 o15r0N0 o15r0C0) (.slice o3r0A0 o3r0N0 o3r0C0) o15 fo150.rd (w0_0.ex xs)).mono ?_
  rintro e o16 ⟨rfl, xo16⟩
  replace xw := xw.trans xo16
  replace xp := xp.trans xo16
  replace xs := xs.trans xo16
  replace mo12 := mo12.ex xo16
  replace fo150 := fo150.ex xo16
  have zo16 := xo16.size
  go_wp2_with fail
  refine (heldIntS_u r0 (.slice o6r0A0 o6r0N0 o6r0C0) (1) o16 mo12.rd (by omega) (by omega)).mono ?_
  rintro e o17 ⟨rfl, xo17⟩
  replace xw := xw.trans xo17
  replace xp := xp.trans xo17
  replace xs := xs.trans xo17
  replace mo12 := mo12.ex xo17
  replace fo150 := fo150.ex xo17
  have zo17 := xo17.size
  clear Hr
  go_wp2
  all_goals go_ret
  exact ⟨rfl, xw⟩
end Go.Proofs.YtkpfmnconnopnaaDoor
