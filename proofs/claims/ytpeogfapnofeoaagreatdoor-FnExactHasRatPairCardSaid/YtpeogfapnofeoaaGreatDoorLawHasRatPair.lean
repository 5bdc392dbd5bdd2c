/- The law on HasRatPair: the program's answer is the reference's, for all arguments; the walk of the law's own text. No conditions. -/
import Derived.Test.YtpeogfapnofeoaaGreatDoorHrB
import Derived.Test.YtpeogfapnofeoaaGreatDoorPkJ
import Derived.Test.YtpeogfapnofeoaaGreatDoorU
import Derived.RegionCalls
import Derived.Deep.RegionWith
import Derived.Deep.RegionHeld3
import Derived.Deep.Cut
namespace Go.Proofs.YtpeogfapnofeoaaGreatDoor
set_option maxRecDepth 100000
open Go Go.RowKit
set_option maxHeartbeats 8000000 in
set_option maxRecDepth 100000 in
theorem lawHasRatPair_big1 (p : Int) (r_c0 r_c1 r_c2 : Value) (rz : Int) (x_c0 : Value) (xz : Int) (y_c0 : Value) (yz : Int) (w : World) (rq : QS 8 w (.agg #[r_c0, r_c1, r_c2]) rz) (h0r : 0 ≤ rz) (hbig : 1048576 < rz) :
    Calls Tryz.prog 3 #[.int .i64 p, .agg #[r_c0, r_c1, r_c2], x_c0, y_c0] w fun e w' => e = .returned (.bool true) ∧ Ex w w' := by
  have xw := (Ex.refl w).alloc (.cells #[r_c0, r_c1, r_c2] 24)
  have v_r := VB.new w 24 #[r_c0, r_c1, r_c2]
  go_enter Tryz.func3, Tryz.ntmps3
  go_wp2_with fail
  generalize w.alloc (.cells #[r_c0, r_c1, r_c2] 24) = Wp0 at *
  have hs := rq Wp0 (1048576) xw (by omega) (by omega)
  rw [if_pos (by omega)] at hs
  refine hs.mono ?_
  clear hs
  rintro e wz ⟨rfl, xz⟩
  go_wp2
  go_ret
  exact ⟨rfl, xw.trans xz⟩
set_option maxHeartbeats 8000000 in
set_option maxRecDepth 100000 in
theorem lawHasRatPair_big2 (p : Int) (r_c0 r_c1 r_c2 : Value) (rz : Int) (x_c0 : Value) (xz : Int) (y_c0 : Value) (yz : Int) (w : World) (rq : QS 8 w (.agg #[r_c0, r_c1, r_c2]) rz) (h0r : 0 ≤ rz) (xq : QS 9 w (x_c0) xz) (h0x : 0 ≤ xz) (hokr : rz ≤ 1048576) (hbig : 1048576 - rz < xz) :
    Calls Tryz.prog 3 #[.int .i64 p, .agg #[r_c0, r_c1, r_c2], x_c0, y_c0] w fun e w' => e = .returned (.bool true) ∧ Ex w w' := by
  have xw := (Ex.refl w).alloc (.cells #[r_c0, r_c1, r_c2] 24)
  have v_r := VB.new w 24 #[r_c0, r_c1, r_c2]
  go_enter Tryz.func3, Tryz.ntmps3
  go_wp2_with fail
  generalize w.alloc (.cells #[r_c0, r_c1, r_c2] 24) = Wp0 at *
  have hs := rq Wp0 (1048576) xw (by omega) (by omega)
  rw [if_neg (by omega)] at hs
  refine hs.mono ?_
  clear hs
  rintro e wsr ⟨rfl, xsr⟩
  replace v_r := v_r.ex xsr
  replace xw := xw.trans xsr
  go_wp2_with fail
  have hs := xq wsr (1048576 - rz) xw (by omega) (by omega)
  rw [if_pos (by omega)] at hs
  refine hs.mono ?_
  clear hs
  rintro e wz ⟨rfl, xz⟩
  go_wp2
  go_ret
  exact ⟨rfl, xw.trans xz⟩
set_option maxHeartbeats 8000000 in
set_option maxRecDepth 100000 in
theorem lawHasRatPair_big3 (p : Int) (r_c0 r_c1 r_c2 : Value) (rz : Int) (x_c0 : Value) (xz : Int) (y_c0 : Value) (yz : Int) (w : World) (rq : QS 8 w (.agg #[r_c0, r_c1, r_c2]) rz) (h0r : 0 ≤ rz) (xq : QS 9 w (x_c0) xz) (h0x : 0 ≤ xz) (yq : QS 9 w (y_c0) yz) (h0y : 0 ≤ yz) (hokr : rz ≤ 1048576) (hokx : xz ≤ 1048576 - rz) (hbig : 1048576 - rz - xz < yz) :
    Calls Tryz.prog 3 #[.int .i64 p, .agg #[r_c0, r_c1, r_c2], x_c0, y_c0] w fun e w' => e = .returned (.bool true) ∧ Ex w w' := by
  have xw := (Ex.refl w).alloc (.cells #[r_c0, r_c1, r_c2] 24)
  have v_r := VB.new w 24 #[r_c0, r_c1, r_c2]
  go_enter Tryz.func3, Tryz.ntmps3
  go_wp2_with fail
  generalize w.alloc (.cells #[r_c0, r_c1, r_c2] 24) = Wp0 at *
  have hs := rq Wp0 (1048576) xw (by omega) (by omega)
  rw [if_neg (by omega)] at hs
  refine hs.mono ?_
  clear hs
  rintro e wsr ⟨rfl, xsr⟩
  replace v_r := v_r.ex xsr
  replace xw := xw.trans xsr
  go_wp2_with fail
  have hs := xq wsr (1048576 - rz) xw (by omega) (by omega)
  rw [if_neg (by omega)] at hs
  refine hs.mono ?_
  clear hs
  rintro e wsx ⟨rfl, xsx⟩
  replace v_r := v_r.ex xsx
  replace xw := xw.trans xsx
  go_wp2_with fail
  have hs := yq wsx (1048576 - rz - xz) xw (by omega) (by omega)
  rw [if_pos (by omega)] at hs
  refine hs.mono ?_
  clear hs
  rintro e wz ⟨rfl, xz⟩
  go_wp2
  go_ret
  exact ⟨rfl, xw.trans xz⟩
set_option maxHeartbeats 8000000 in
set_option maxRecDepth 100000 in
theorem lawHasRatPair_walk (p : Int) (r : RRel) (r_0 : Value) (rz : Int) (x : List Fra) (x_0 : Value) (xz : Int) (y : List Fra) (y_0 : Value) (yz : Int) (w : World) (rh : RRRel w r_0 r) (rq : QS 8 w (.agg #[.int .i64 r.l, .int .i64 r.r, r_0]) rz) (h0r : 0 ≤ rz) (xh : RF w x_0 x) (xq : QS 9 w (x_0) xz) (h0x : 0 ≤ xz) (yh : RF w y_0 y) (yq : QS 9 w (y_0) yz) (h0y : 0 ≤ yz) (hl : rz + xz + yz ≤ 1048576) (ht : Tb w) :
    Calls Tryz.prog 3 #[.int .i64 p, .agg #[.int .i64 r.l, .int .i64 r.r, r_0], x_0, y_0] w fun e w' => e = .returned (.bool true) ∧ Ex w w' := by
  obtain ⟨r0, r1, hr⟩ : ∃ r0 r1, hasU p r x y = (r0, r1) := ⟨_, _, rfl⟩
  have Hr := Lib.hid hr
  clear hr
  have tn_r := totRRel_nn r
  have tb_r := rh.tot
  have tn_x := totF_nn x
  have tb_x := xh.tot
  have tn_y := totF_nn y
  have tb_y := yh.tot
  have xw := (Ex.refl w).alloc (.cells #[.int .i64 r.l, .int .i64 r.r, r_0] 24)
  have v_r := VB.new w 24 #[.int .i64 r.l, .int .i64 r.r, r_0]
  go_enter Tryz.func3, Tryz.ntmps3
  go_wp2_with fail
  generalize w.alloc (.cells #[.int .i64 r.l, .int .i64 r.r, r_0] 24) = Wp0 at *
  have zWp := xw.size
  have xp := Ex.refl Wp0
  have hs := rq Wp0 (1048576) xw (by omega) (by omega)
  rw [if_neg (by omega)] at hs
  refine hs.mono ?_
  clear hs
  rintro e o1 ⟨rfl, xo1⟩
  replace xw := xw.trans xo1
  replace xp := xp.trans xo1
  have zo1 := xo1.size
  go_wp2_with fail
  have hs := xq o1 (1048576 - rz) xw (by omega) (by omega)
  rw [if_neg (by omega)] at hs
  refine hs.mono ?_
  clear hs
  rintro e o2 ⟨rfl, xo2⟩
  replace xw := xw.trans xo2
  replace xp := xp.trans xo2
  have zo2 := xo2.size
  go_wp2_with fail
  have hs := yq o2 (1048576 - rz - xz) xw (by omega) (by omega)
  rw [if_neg (by omega)] at hs
  refine hs.mono ?_
  clear hs
  rintro e o3 ⟨rfl, xo3⟩
  replace xw := xw.trans xo3
  replace xp := xp.trans xo3
  have zo3 := xo3.size
  have qv_r0 := (v_r.ex xp).cell 0 (v := .int .i64 r.l) rfl
  have qv_r1 := (v_r.ex xp).cell 1 (v := .int .i64 r.r) rfl
  have qv_r2 := (v_r.ex xp).cell 2 (v := r_0) rfl
  go_wp2_with fail
  clear qv_r0 qv_r1 qv_r2
  refine (toRatRelation_u r r_0 o3 (rh.ex xw)).mono ?_
  rintro e o4 ⟨o4_0, rfl, fo4, xo4⟩
  obtain ⟨o4A0, o4N0, o4C0, rfl⟩ := fo4.rd.form
  replace xw := xw.trans xo4
  replace xp := xp.trans xo4
  have zo4 := xo4.size
  go_wp2_with fail
  refine (toFractionS_u x x_0 o4 (xh.ex xw)).mono ?_
  rintro e o5 ⟨o5_0, rfl, fo5, xo5⟩
  obtain ⟨o5A0, o5N0, o5C0, rfl⟩ := fo5.rd.form
  replace xw := xw.trans xo5
  replace xp := xp.trans xo5
  replace fo4 := fo4.ex xo5
  have zo5 := xo5.size
  go_wp2_with fail
  refine (toFractionS_u y y_0 o5 (yh.ex xw)).mono ?_
  rintro e o6 ⟨o6_0, rfl, fo6, xo6⟩
  obtain ⟨o6A0, o6N0, o6C0, rfl⟩ := fo6.rd.form
  replace xw := xw.trans xo6
  replace xp := xp.trans xo6
  replace fo4 := fo4.ex xo6
  replace fo5 := fo5.ex xo6
  have zo6 := xo6.size
  go_wp2_with fail
  refine (spHasRatPair_u _  _ _  _ _  _ _ o6 fo4.rd fo5.rd fo6.rd).mono ?_
  intro e o7 ho7
  rw [Hr.out] at ho7
  obtain ⟨rfl, xo7⟩ := ho7
  dsimp only
  replace xw := xw.trans xo7
  replace xp := xp.trans xo7
  replace fo4 := fo4.ex xo7
  replace fo5 := fo5.ex xo7
  replace fo6 := fo6.ex xo7
  have zo7 := xo7.size
  clear fo4
  clear fo5
  clear fo6
  have xs := Ex.refl o7
  have qv_r0 := (v_r.ex xp).cell 0 (v := .int .i64 r.l) rfl
  have qv_r1 := (v_r.ex xp).cell 1 (v := .int .i64 r.r) rfl
  have qv_r2 := (v_r.ex xp).cell 2 (v := r_0) rfl
  go_wp2_with fail
  clear qv_r0 qv_r1 qv_r2
  refine (toRatRelation_u r r_0 o7 (rh.ex xw)).mono ?_
  rintro e o8 ⟨o8_0, rfl, fo8, xo8⟩
  obtain ⟨o8A0, o8N0, o8C0, rfl⟩ := fo8.rd.form
  replace xw := xw.trans xo8
  replace xp := xp.trans xo8
  replace xs := xs.trans xo8
  have zo8 := xo8.size
  go_wp2_with fail
  have xa := (Ex.refl o8).alloc (.cells #[.int .i64 r.l, .int .i64 r.r, (.slice o8A0 o8N0 o8C0)] 32)
  have vx_r := VB.new o8 32 #[.int .i64 r.l, .int .i64 r.r, (.slice o8A0 o8N0 o8C0)]
  have vx_rl := vx_r.lt
  generalize o8.alloc (.cells #[.int .i64 r.l, .int .i64 r.r, (.slice o8A0 o8N0 o8C0)] 32) = o9 at *
  replace xw := xw.trans xa
  replace xp := xp.trans xa
  replace xs := xs.trans xa
  replace fo8 := fo8.ex xa
  have zo9 := xa.size
  clear xa
  refine (toFractionS_u x x_0 o9 (xh.ex xw)).mono ?_
  rintro e o10 ⟨o10_0, rfl, fo10, xo10⟩
  obtain ⟨o10A0, o10N0, o10C0, rfl⟩ := fo10.rd.form
  replace xw := xw.trans xo10
  replace xp := xp.trans xo10
  replace xs := xs.trans xo10
  replace fo8 := fo8.ex xo10
  replace vx_r := vx_r.ex xo10
  have zo10 := xo10.size
  go_wp2_with fail
  refine (toFractionS_u y y_0 o10 (yh.ex xw)).mono ?_
  rintro e o11 ⟨o11_0, rfl, fo11, xo11⟩
  obtain ⟨o11A0, o11N0, o11C0, rfl⟩ := fo11.rd.form
  replace xw := xw.trans xo11
  replace xp := xp.trans xo11
  replace xs := xs.trans xo11
  replace fo8 := fo8.ex xo11
  replace vx_r := vx_r.ex xo11
  replace fo10 := fo10.ex xo11
  have zo11 := xo11.size
  have qvx_r0 := vx_r.cell 0 (v := .int .i64 r.l) rfl
  have qvx_r1 := vx_r.cell 1 (v := .int .i64 r.r) rfl
  have qvx_r2 := vx_r.cell 2 (v := (.slice o8A0 o8N0 o8C0)) rfl
  go_wp2_with fail
  clear qvx_r0 qvx_r1 qvx_r2
  refine (HasRatPair_u _  _ _  _ _  _ _ o11 fo8.rd fo10.rd fo11.rd (ht.ex xw)).mono ?_
  intro e o12 ho12
  rw [Hr.out] at ho12
  obtain ⟨rfl, xo12⟩ := ho12
  dsimp only
  replace xw := xw.trans xo12
  replace xp := xp.trans xo12
  replace xs := xs.trans xo12
  replace fo8 := fo8.ex xo12
  replace vx_r := vx_r.ex xo12
  replace fo10 := fo10.ex xo12
  replace fo11 := fo11.ex xo12
  have zo12 := xo12.size
  have qvx_r0 := vx_r.cell 0 (v := .int .i64 r.l) rfl
  have qvx_r1 := vx_r.cell 1 (v := .int .i64 r.r) rfl
  have qvx_r2 := vx_r.cell 2 (v := (.slice o8A0 o8N0 o8C0)) rfl
  have qv_r0 := (v_r.ex xp).cell 0 (v := .int .i64 r.l) rfl
  have qv_r1 := (v_r.ex xp).cell 1 (v := .int .i64 r.r) rfl
  have qv_r2 := (v_r.ex xp).cell 2 (v := r_0) rfl
  go_wp2_with fail
  go_region_held3 (fun W => W.cell? ⟨o8.heap.size, 0, none⟩ = some (.int .i64 r.l) ∧ W.cell? ⟨o8.heap.size, 1, none⟩ = some (.int .i64 r.r) ∧ W.cell? ⟨o8.heap.size, 2, none⟩ = some ((.slice o8A0 o8N0 o8C0)) ∧ W.cell? ⟨w.heap.size, 0, none⟩ = some (.int .i64 r.l) ∧ W.cell? ⟨w.heap.size, 1, none⟩ = some (.int .i64 r.r) ∧ W.cell? ⟨w.heap.size, 2, none⟩ = some (r_0)) (first | (exact ⟨(cell_ex xo14 (cell_ex xo13 qvx_r0)), (cell_ex xo14 (cell_ex xo13 qvx_r1)), (cell_ex xo14 (cell_ex xo13 qvx_r2)), (cell_ex xo14 (cell_ex xo13 qv_r0)), (cell_ex xo14 (cell_ex xo13 qv_r1)), (cell_ex xo14 (cell_ex xo13 qv_r2))⟩) | (exact ⟨(cell_ex xo13 qvx_r0), (cell_ex xo13 qvx_r1), (cell_ex xo13 qvx_r2), (cell_ex xo13 qv_r0), (cell_ex xo13 qv_r1), (cell_ex xo13 qv_r2)⟩) | (exact ⟨qvx_r0, qvx_r1, qvx_r2, qv_r0, qv_r1, qv_r2⟩)) (first
    | (go_at_call 11
       refine (toRatRelation_u r r_0 o12.drew (rh.ex xw.drew)).mono ?_
       rintro e o13 ⟨o13_0, rfl, fo13, xo13⟩)
    | (go_at_call 14
       refine (eqRatRelation_u r (.slice o8A0 o8N0 o8C0) o13_0 _ ((fo8.rd.ex (Ex.refl o12).drew).ex xo13) fo13.rd).mono ?_
       rintro e o14 ⟨rfl, xo14⟩))
  have xd : Ex o12 o14 := ((Ex.refl o12).drew.trans xo13).trans xo14
  clear qvx_r0 qvx_r1 qvx_r2 qv_r0 qv_r1 qv_r2 fo13 xo13 xo14
  replace xw := xw.trans xd
  replace xp := xp.trans xd
  replace xs := xs.trans xd
  replace fo8 := fo8.ex xd
  replace vx_r := vx_r.ex xd
  replace fo10 := fo10.ex xd
  replace fo11 := fo11.ex xd
  have zo14 := xd.size
  clear xd
  go_wp2_with fail
  refine (toFractionS_u x x_0 o14 (xh.ex xw)).mono ?_
  rintro e o15 ⟨o15_0, rfl, fo15, xo15⟩
  obtain ⟨o15A0, o15N0, o15C0, rfl⟩ := fo15.rd.form
  replace xw := xw.trans xo15
  replace xp := xp.trans xo15
  replace xs := xs.trans xo15
  replace fo8 := fo8.ex xo15
  replace vx_r := vx_r.ex xo15
  replace fo10 := fo10.ex xo15
  replace fo11 := fo11.ex xo15
  have zo15 := xo15.size
  go_wp2_with fail
  refine (eqFractionS_u x (.slice o10A0 o10N0 o10C0) (.slice o15A0 o15N0 o15C0) o15 fo10.rd fo15.rd).mono ?_
  rintro e o16 ⟨rfl, xo16⟩
  replace xw := xw.trans xo16
  replace xp := xp.trans xo16
  replace xs := xs.trans xo16
  replace fo8 := fo8.ex xo16
  replace vx_r := vx_r.ex xo16
  replace fo10 := fo10.ex xo16
  replace fo11 := fo11.ex xo16
  replace fo15 := fo15.ex xo16
  have zo16 := xo16.size
  clear fo15
  go_wp2_with fail
  refine (toFractionS_u y y_0 o16 (yh.ex xw)).mono ?_
  rintro e o17 ⟨o17_0, rfl, fo17, xo17⟩
  obtain ⟨o17A0, o17N0, o17C0, rfl⟩ := fo17.rd.form
  replace xw := xw.trans xo17
  replace xp := xp.trans xo17
  replace xs := xs.trans xo17
  replace fo8 := fo8.ex xo17
  replace vx_r := vx_r.ex xo17
  replace fo10 := fo10.ex xo17
  replace fo11 := fo11.ex xo17
  have zo17 := xo17.size
  go_wp2_with fail
  refine (eqFractionS_u y (.slice o11A0 o11N0 o11C0) (.slice o17A0 o17N0 o17C0) o17 fo11.rd fo17.rd).mono ?_
  rintro e o18 ⟨rfl, xo18⟩
  replace xw := xw.trans xo18
  replace xp := xp.trans xo18
  replace xs := xs.trans xo18
  replace fo8 := fo8.ex xo18
  replace vx_r := vx_r.ex xo18
  replace fo10 := fo10.ex xo18
  replace fo11 := fo11.ex xo18
  replace fo17 := fo17.ex xo18
  have zo18 := xo18.size
  clear fo17
  go_wp2
  all_goals go_ret
  exact ⟨rfl, xw⟩
end Go.Proofs.YtpeogfapnofeoaaGreatDoor
