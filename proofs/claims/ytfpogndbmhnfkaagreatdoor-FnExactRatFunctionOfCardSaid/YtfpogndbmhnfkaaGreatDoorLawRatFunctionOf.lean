/- The law on RatFunctionOf: the program's answer is the reference's, for all arguments; the walk of the law's own text. No conditions. -/
import Derived.Test.YtfpogndbmhnfkaaGreatDoorRfG
import Derived.Test.YtfpogndbmhnfkaaGreatDoorPkJ
import Derived.Test.YtfpogndbmhnfkaaGreatDoorU
import Derived.RegionCalls
import Derived.Deep.RegionWith
import Derived.Deep.RegionHeld3
import Derived.Deep.Cut
namespace Go.Proofs.YtfpogndbmhnfkaaGreatDoor
set_option maxRecDepth 100000
open Go Go.RowKit
set_option maxHeartbeats 8000000 in
set_option maxRecDepth 100000 in
theorem lawRatFunctionOf_big1 (p : Int) (r_c0 r_c1 r_c2 : Value) (rz : Int) (w : World) (rq : QS 10 w (.agg #[r_c0, r_c1, r_c2]) rz) (h0r : 0 ≤ rz) (hbig : 1048576 < rz) :
    Calls Tryz.prog 5 #[.int .i64 p, .agg #[r_c0, r_c1, r_c2]] w fun e w' => e = .returned (.bool true) ∧ Ex w w' := by
  have xw := (Ex.refl w).alloc (.cells #[r_c0, r_c1, r_c2] 24)
  have v_r := VB.new w 24 #[r_c0, r_c1, r_c2]
  go_enter Tryz.func5, Tryz.ntmps5
  go_wp2_with fail
  generalize w.alloc (.cells #[r_c0, r_c1, r_c2] 24) = Wp0 at *
  have hs := rq Wp0 (1048576) xw (by omega) (by omega)
  rw [if_pos (by omega)] at hs
  refine hs.mono ?_
  clear hs
  rintro e wz ⟨rfl, xz⟩
  go_wp2
  go_ret
  exact ⟨rfl, xw.trans xz⟩
set_option maxHeartbeats 8000000 in
set_option maxRecDepth 100000 in
theorem lawRatFunctionOf_walk (p : Int) (r : RRel) (r_0 : Value) (rz : Int) (w : World) (rh : RRRel w r_0 r) (rq : QS 10 w (.agg #[.int .i64 r.l, .int .i64 r.r, r_0]) rz) (h0r : 0 ≤ rz) (hl : rz ≤ 1048576) (ht : Tb w) :
    Calls Tryz.prog 5 #[.int .i64 p, .agg #[.int .i64 r.l, .int .i64 r.r, r_0]] w fun e w' => e = .returned (.bool true) ∧ Ex w w' := by
  obtain ⟨r0, r1, hr⟩ : ∃ r0 r1, rfU p r = (r0, r1) := ⟨_, _, rfl⟩
  have Hr := Lib.hid hr
  clear hr
  have tn_r := totRRel_nn r
  have tb_r := rh.tot
  have xw := (Ex.refl w).alloc (.cells #[.int .i64 r.l, .int .i64 r.r, r_0] 24)
  have v_r := VB.new w 24 #[.int .i64 r.l, .int .i64 r.r, r_0]
  go_enter Tryz.func5, Tryz.ntmps5
  go_wp2_with fail
  generalize w.alloc (.cells #[.int .i64 r.l, .int .i64 r.r, r_0] 24) = Wp0 at *
  have zWp := xw.size
  have xp := Ex.refl Wp0
  have hs := rq Wp0 (1048576) xw (by omega) (by omega)
  rw [if_neg (by omega)] at hs
  refine hs.mono ?_
  clear hs
  rintro e o1 ⟨rfl, xo1⟩
  replace xw := xw.trans xo1
  replace xp := xp.trans xo1
  have zo1 := xo1.size
  have qv_r0 := (v_r.ex xp).cell 0 (v := .int .i64 r.l) rfl
  have qv_r1 := (v_r.ex xp).cell 1 (v := .int .i64 r.r) rfl
  have qv_r2 := (v_r.ex xp).cell 2 (v := r_0) rfl
  go_wp2_with fail
  clear qv_r0 qv_r1 qv_r2
  refine (toRatRelation_u r r_0 o1 (rh.ex xw)).mono ?_
  rintro e o2 ⟨o2_0, rfl, fo2, xo2⟩
  obtain ⟨o2A0, o2N0, o2C0, rfl⟩ := fo2.rd.form
  replace xw := xw.trans xo2
  replace xp := xp.trans xo2
  have zo2 := xo2.size
  go_wp2_with fail
  refine (spRatFunctionOf_u _  _ _ o2 fo2.rdc).mono ?_
  intro e o3 ho3
  rw [Hr.out] at ho3
  obtain ⟨o3r0_0, rfl, fo30, xo3⟩ := ho3
  dsimp only at fo30 ⊢
  obtain ⟨o3r0A0, o3r0N0, o3r0C0, rfl⟩ := fo30.form
  have tnfo30 := totFF_nn r0
  have tbfo30 := fo30.tot
  replace xw := xw.trans xo3
  replace xp := xp.trans xo3
  replace fo2 := fo2.ex xo3
  have zo3 := xo3.size
  clear fo2
  have w0_0 := fo30
  clear fo30
  have xs := Ex.refl o3
  have qv_r0 := (v_r.ex xp).cell 0 (v := .int .i64 r.l) rfl
  have qv_r1 := (v_r.ex xp).cell 1 (v := .int .i64 r.r) rfl
  have qv_r2 := (v_r.ex xp).cell 2 (v := r_0) rfl
  go_wp2_with fail
  clear qv_r0 qv_r1 qv_r2
  refine (toRatRelation_u r r_0 o3 (rh.ex xw)).mono ?_
  rintro e o4 ⟨o4_0, rfl, fo4, xo4⟩
  obtain ⟨o4A0, o4N0, o4C0, rfl⟩ := fo4.rd.form
  replace xw := xw.trans xo4
  replace xp := xp.trans xo4
  replace xs := xs.trans xo4
  have zo4 := xo4.size
  go_wp2_with fail
  have xa := (Ex.refl o4).alloc (.cells #[.int .i64 r.l, .int .i64 r.r, (.slice o4A0 o4N0 o4C0)] 32)
  have vx_r := VB.new o4 32 #[.int .i64 r.l, .int .i64 r.r, (.slice o4A0 o4N0 o4C0)]
  have vx_rl := vx_r.lt
  generalize o4.alloc (.cells #[.int .i64 r.l, .int .i64 r.r, (.slice o4A0 o4N0 o4C0)] 32) = o5 at *
  replace xw := xw.trans xa
  replace xp := xp.trans xa
  replace xs := xs.trans xa
  replace fo4 := fo4.ex xa
  have zo5 := xa.size
  clear xa
  refine (RatFunctionOf_u _  _ _ o5 fo4.rdc (ht.ex xw)).mono ?_
  intro e o6 ho6
  rw [Hr.out] at ho6
  obtain ⟨o6r0_0, rfl, fo60, xo6⟩ := ho6
  dsimp only at fo60 ⊢
  obtain ⟨o6r0A0, o6r0N0, o6r0C0, rfl⟩ := fo60.rd.form
  replace xw := xw.trans xo6
  replace xp := xp.trans xo6
  replace xs := xs.trans xo6
  replace fo4 := fo4.ex xo6
  replace vx_r := vx_r.ex xo6
  have zo6 := xo6.size
  go_wp2_with fail
  refine (eqFractionSS_u r0 (.slice o6r0A0 o6r0N0 o6r0C0) (.slice o3r0A0 o3r0N0 o3r0C0) o6 fo60.rd (w0_0.ex xs)).mono ?_
  rintro e o7 ⟨rfl, xo7⟩
  replace xw := xw.trans xo7
  replace xp := xp.trans xo7
  replace xs := xs.trans xo7
  replace fo4 := fo4.ex xo7
  replace vx_r := vx_r.ex xo7
  replace fo60 := fo60.ex xo7
  have zo7 := xo7.size
  have qvx_r0 := vx_r.cell 0 (v := .int .i64 r.l) rfl
  have qvx_r1 := vx_r.cell 1 (v := .int .i64 r.r) rfl
  have qvx_r2 := vx_r.cell 2 (v := (.slice o4A0 o4N0 o4C0)) rfl
  have qv_r0 := (v_r.ex xp).cell 0 (v := .int .i64 r.l) rfl
  have qv_r1 := (v_r.ex xp).cell 1 (v := .int .i64 r.r) rfl
  have qv_r2 := (v_r.ex xp).cell 2 (v := r_0) rfl
  go_wp2_with fail
  go_region_held3 (fun W => W.cell? ⟨o4.heap.size, 0, none⟩ = some (.int .i64 r.l) ∧ W.cell? ⟨o4.heap.size, 1, none⟩ = some (.int .i64 r.r) ∧ W.cell? ⟨o4.heap.size, 2, none⟩ = some ((.slice o4A0 o4N0 o4C0)) ∧ W.cell? ⟨w.heap.size, 0, none⟩ = some (.int .i64 r.l) ∧ W.cell? ⟨w.heap.size, 1, none⟩ = some (.int .i64 r.r) ∧ W.cell? ⟨w.heap.size, 2, none⟩ = some (r_0)) (first | (exact ⟨(cell_ex xo9 (cell_ex xo8 qvx_r0)), (cell_ex xo9 (cell_ex xo8 qvx_r1)), (cell_ex xo9 (cell_ex xo8 qvx_r2)), (cell_ex xo9 (cell_ex xo8 qv_r0)), (cell_ex xo9 (cell_ex xo8 qv_r1)), (cell_ex xo9 (cell_ex xo8 qv_r2))⟩) | (exact ⟨(cell_ex xo8 qvx_r0), (cell_ex xo8 qvx_r1), (cell_ex xo8 qvx_r2), (cell_ex xo8 qv_r0), (cell_ex xo8 qv_r1), (cell_ex xo8 qv_r2)⟩) | (exact ⟨qvx_r0, qvx_r1, qvx_r2, qv_r0, qv_r1, qv_r2⟩)) (first
    | (go_at_call 13
       refine (toRatRelation_u r r_0 o7.drew (rh.ex xw.drew)).mono ?_
       rintro e o8 ⟨o8_0, rfl, fo8, xo8⟩)
    | (go_at_call 16
       refine (eqRatRelation_u r (.slice o4A0 o4N0 o4C0) o8_0 _ ((fo4.rd.ex (Ex.refl o7).drew).ex xo8) fo8.rd).mono ?_
       rintro e o9 ⟨rfl, xo9⟩))
  have xd : Ex o7 o9 := ((Ex.refl o7).drew.trans xo8).trans xo9
  clear qvx_r0 qvx_r1 qvx_r2 qv_r0 qv_r1 qv_r2 fo8 xo8 xo9
  replace xw := xw.trans xd
  replace xp := xp.trans xd
  replace xs := xs.trans xd
  replace fo4 := fo4.ex xd
  replace vx_r := vx_r.ex xd
  replace fo60 := fo60.ex xd
  have zo9 := xd.size
  clear xd
  have qvx_r0 := vx_r.cell 0 (v := .int .i64 r.l) rfl
  have qvx_r1 := vx_r.cell 1 (v := .int .i64 r.r) rfl
  have qvx_r2 := vx_r.cell 2 (v := (.slice o4A0 o4N0 o4C0)) rfl
  go_wp2_with fail
  clear qvx_r0 qvx_r1 qvx_r2
  refine (markRatRelation_u (o3.heap.size) (o4.heap.size) r (.slice o4A0 o4N0 o4C0) (1) o9 fo4 (by omega) (by omega) (by omega)).mono ?_
  rintro e o10 ⟨rfl, mo10, io10⟩
  clear fo4
  replace xw := xw.iv io10 (by omega)
  replace xp := xp.iv io10 (by omega)
  replace xs := xs.iv io10 (by omega)
  replace vx_r := vx_r.iv io10 (by omega)
  replace fo60 := fo60.iv io10 (by omega)
  have zo10 := io10.size
  clear mo10
  clear vx_r
  go_wp2_with fail
  refine (eqFractionSS_u r0 (.slice o6r0A0 o6r0N0 o6r0C0) (.slice o3r0A0 o3r0N0 o3r0C0) o10 fo60.rd (w0_0.ex xs)).mono ?_
  rintro e o11 ⟨rfl, xo11⟩
  replace xw := xw.trans xo11
  replace xp := xp.trans xo11
  replace xs := xs.trans xo11
  replace fo60 := fo60.ex xo11
  have zo11 := xo11.size
  go_wp2_with fail
  refine (markFractionSS_u (o5.heap.size) (o6.heap.size) r0 (.slice o6r0A0 o6r0N0 o6r0C0) (1) o11 fo60 (by omega) (by omega) (by omega)).mono ?_
  rintro e o12 ⟨rfl, mo12, io12⟩
  clear fo60
  replace xw := xw.iv io12 (by omega)
  replace xp := xp.iv io12 (by omega)
  replace xs := xs.iv io12 (by omega)
  have zo12 := io12.size
  go_wp2_with fail
  refine (heldFractionSS_u r0 (.slice o6r0A0 o6r0N0 o6r0C0) (1) o12 mo12.rd (by omega) (by omega)).mono ?_
  rintro e o13 ⟨rfl, xo13⟩
  replace xw := xw.trans xo13
  replace xp := xp.trans xo13
  replace xs := xs.trans xo13
  replace mo12 := mo12.ex xo13
  have zo13 := xo13.size
  have qv_r0 := (v_r.ex xp).cell 0 (v := .int .i64 r.l) rfl
  have qv_r1 := (v_r.ex xp).cell 1 (v := .int .i64 r.r) rfl
  have qv_r2 := (v_r.ex xp).cell 2 (v := r_0) rfl
  go_wp2_with fail
  clear qv_r0 qv_r1 qv_r2
  refine (toRatRelation_u r r_0 o13 (rh.ex xw)).mono ?_
  rintro e o14 ⟨o14_0, rfl, fo14, xo14⟩
  obtain ⟨o14A0, o14N0, o14C0, rfl⟩ := fo14.rd.form
  replace xw := xw.trans xo14
  replace xp := xp.trans xo14
  replace xs := xs.trans xo14
  replace mo12 := mo12.ex xo14
  have zo14 := xo14.size
  go_wp2_with fail
  refine (RatFunctionOf_u _  _ _ o14 fo14.rdc (ht.ex xw)).mono ?_
  intro e o15 ho15
  rw [Hr.out] at ho15
  obtain ⟨o15r0_0, rfl, fo150, xo15⟩ := ho15
  dsimp only at fo150 ⊢
  obtain ⟨o15r0A0, o15r0N0, o15r0C0, rfl⟩ := fo150.rd.form
  replace xw := xw.trans xo15
  replace xp := xp.trans xo15
  replace xs := xs.trans xo15
  replace mo12 := mo12.ex xo15
  replace fo14 := fo14.ex xo15
  have zo15 := xo15.size
  clear fo14
  go_wp2_with fail
  refine (eqFractionSS_u r0 (.slice o15r0A0 o15r0N0 o15r0C0) (.slice o3r0A0 o3r0N0 o3r0C0) o15 fo150.rd (w0_0.ex xs)).mono ?_
  rintro e o16 ⟨rfl, xo16⟩
  replace xw := xw.trans xo16
  replace xp := xp.trans xo16
  replace xs := xs.trans xo16
  replace mo12 := mo12.ex xo16
  replace fo150 := fo150.ex xo16
  have zo16 := xo16.size
  go_wp2_with fail
  refine (heldFractionSS_u r0 (.slice o6r0A0 o6r0N0 o6r0C0) (1) o16 mo12.rd (by omega) (by omega)).mono ?_
  rintro e o17 ⟨rfl, xo17⟩
  replace xw := xw.trans xo17
  replace xp := xp.trans xo17
  replace xs := xs.trans xo17
  replace mo12 := mo12.ex xo17
  replace fo150 := fo150.ex xo17
  have zo17 := xo17.size
  clear Hr
  go_wp2
  all_goals go_ret
  exact ⟨rfl, xw⟩
end Go.Proofs.YtfpogndbmhnfkaaGreatDoor
