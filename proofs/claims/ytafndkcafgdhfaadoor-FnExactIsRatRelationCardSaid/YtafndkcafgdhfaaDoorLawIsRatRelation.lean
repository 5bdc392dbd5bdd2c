/- The law on IsRatRelation: the program's answer is the reference's, for all arguments; the walk of the law's own text. No conditions. -/
import Derived.Test.YtafndkcafgdhfaaDoorPkK
import Derived.Test.YtafndkcafgdhfaaDoorPkJ
import Derived.Test.YtafndkcafgdhfaaDoorU
import Derived.RegionCalls
import Derived.Deep.RegionWith
import Derived.Deep.RegionHeld3
import Derived.Deep.Cut
namespace Go.Proofs.YtafndkcafgdhfaaDoor
set_option maxRecDepth 100000
open Go Go.RowKit
set_option maxHeartbeats 8000000 in
set_option maxRecDepth 100000 in
theorem lawIsRatRelation_big1 (p : Int) (r_c0 r_c1 r_c2 : Value) (rz : Int) (w : World) (rq : QS 5 w (.agg #[r_c0, r_c1, r_c2]) rz) (h0r : 0 ≤ rz) (hbig : 1048576 < rz) :
    Calls Tryd.prog 3 #[.int .i64 p, .agg #[r_c0, r_c1, r_c2]] w fun e w' => e = .returned (.bool true) ∧ Ex w w' := by
  have xw := (Ex.refl w).alloc (.cells #[r_c0, r_c1, r_c2] 24)
  have v_r := VB.new w 24 #[r_c0, r_c1, r_c2]
  go_enter Tryd.func3, Tryd.ntmps3
  go_wp2_with fail
  generalize w.alloc (.cells #[r_c0, r_c1, r_c2] 24) = Wp0 at *
  have hs := rq Wp0 (1048576) xw (by omega) (by omega)
  rw [if_pos (by omega)] at hs
  refine hs.mono ?_
  clear hs
  rintro e wz ⟨rfl, xz⟩
  go_wp2
  go_ret
  exact ⟨rfl, xw.trans xz⟩
set_option maxHeartbeats 8000000 in
set_option maxRecDepth 100000 in
theorem lawIsRatRelation_walk (p : Int) (r : RRel) (r_0 : Value) (rz : Int) (w : World) (rh : RRRel w r_0 r) (rq : QS 5 w (.agg #[.int .i64 r.l, .int .i64 r.r, r_0]) rz) (h0r : 0 ≤ rz) (hl : rz ≤ 1048576) (ht : Tb w) :
    Calls Tryd.prog 3 #[.int .i64 p, .agg #[.int .i64 r.l, .int .i64 r.r, r_0]] w fun e w' => e = .returned (.bool true) ∧ Ex w w' := by
  obtain ⟨r0, hr⟩ : ∃ r0, rrB p r = (r0) := ⟨_, rfl⟩
  have Hr := Lib.hid hr
  clear hr
  have tn_r := totRRel_nn r
  have tb_r := rh.tot
  have xw := (Ex.refl w).alloc (.cells #[.int .i64 r.l, .int .i64 r.r, r_0] 24)
  have v_r := VB.new w 24 #[.int .i64 r.l, .int .i64 r.r, r_0]
  go_enter Tryd.func3, Tryd.ntmps3
  go_wp2_with fail
  generalize w.alloc (.cells #[.int .i64 r.l, .int .i64 r.r, r_0] 24) = Wp0 at *
  have zWp := xw.size
  have xp := Ex.refl Wp0
  have hs := rq Wp0 (1048576) xw (by omega) (by omega)
  rw [if_neg (by omega)] at hs
  refine hs.mono ?_
  clear hs
  rintro e o1 ⟨rfl, xo1⟩
  replace xw := xw.trans xo1
  replace xp := xp.trans xo1
  have zo1 := xo1.size
  have qv_r0 := (v_r.ex xp).cell 0 (v := .int .i64 r.l) rfl
  have qv_r1 := (v_r.ex xp).cell 1 (v := .int .i64 r.r) rfl
  have qv_r2 := (v_r.ex xp).cell 2 (v := r_0) rfl
  go_wp2_with fail
  clear qv_r0 qv_r1 qv_r2
  refine (toRatRelation_u r r_0 o1 (rh.ex xw)).mono ?_
  rintro e o2 ⟨o2_0, rfl, fo2, xo2⟩
  obtain ⟨o2A0, o2N0, o2C0, rfl⟩ := fo2.rd.form
  replace xw := xw.trans xo2
  replace xp := xp.trans xo2
  have zo2 := xo2.size
  go_wp2_with fail
  refine (spIsRatRelation_u _  _ _ o2 fo2.rd).mono ?_
  intro e o3 ho3
  rw [Hr.out] at ho3
  obtain ⟨rfl, xo3⟩ := ho3
  dsimp only
  replace xw := xw.trans xo3
  replace xp := xp.trans xo3
  replace fo2 := fo2.ex xo3
  have zo3 := xo3.size
  clear fo2
  have xs := Ex.refl o3
  have qv_r0 := (v_r.ex xp).cell 0 (v := .int .i64 r.l) rfl
  have qv_r1 := (v_r.ex xp).cell 1 (v := .int .i64 r.r) rfl
  have qv_r2 := (v_r.ex xp).cell 2 (v := r_0) rfl
  go_wp2_with fail
  clear qv_r0 qv_r1 qv_r2
  refine (toRatRelation_u r r_0 o3 (rh.ex xw)).mono ?_
  rintro e o4 ⟨o4_0, rfl, fo4, xo4⟩
  obtain ⟨o4A0, o4N0, o4C0, rfl⟩ := fo4.rd.form
  replace xw := xw.trans xo4
  replace xp := xp.trans xo4
  replace xs := xs.trans xo4
  have zo4 := xo4.size
  go_wp2_with fail
  have xa := (Ex.refl o4).alloc (.cells #[.int .i64 r.l, .int .i64 r.r, (.slice o4A0 o4N0 o4C0)] 29)
  have vx_r := VB.new o4 29 #[.int .i64 r.l, .int .i64 r.r, (.slice o4A0 o4N0 o4C0)]
  have vx_rl := vx_r.lt
  generalize o4.alloc (.cells #[.int .i64 r.l, .int .i64 r.r, (.slice o4A0 o4N0 o4C0)] 29) = o5 at *
  replace xw := xw.trans xa
  replace xp := xp.trans xa
  replace xs := xs.trans xa
  replace fo4 := fo4.ex xa
  have zo5 := xa.size
  clear xa
  refine (IsRatRelation_u _  _ _ o5 fo4.rd (ht.ex xw)).mono ?_
  intro e o6 ho6
  rw [Hr.out] at ho6
  obtain ⟨rfl, xo6⟩ := ho6
  dsimp only
  replace xw := xw.trans xo6
  replace xp := xp.trans xo6
  replace xs := xs.trans xo6
  replace fo4 := fo4.ex xo6
  replace vx_r := vx_r.ex xo6
  have zo6 := xo6.size
  have qvx_r0 := vx_r.cell 0 (v := .int .i64 r.l) rfl
  have qvx_r1 := vx_r.cell 1 (v := .int .i64 r.r) rfl
  have qvx_r2 := vx_r.cell 2 (v := (.slice o4A0 o4N0 o4C0)) rfl
  have qv_r0 := (v_r.ex xp).cell 0 (v := .int .i64 r.l) rfl
  have qv_r1 := (v_r.ex xp).cell 1 (v := .int .i64 r.r) rfl
  have qv_r2 := (v_r.ex xp).cell 2 (v := r_0) rfl
  go_wp2_with fail
  go_region_held3 (fun W => W.cell? ⟨o4.heap.size, 0, none⟩ = some (.int .i64 r.l) ∧ W.cell? ⟨o4.heap.size, 1, none⟩ = some (.int .i64 r.r) ∧ W.cell? ⟨o4.heap.size, 2, none⟩ = some ((.slice o4A0 o4N0 o4C0)) ∧ W.cell? ⟨w.heap.size, 0, none⟩ = some (.int .i64 r.l) ∧ W.cell? ⟨w.heap.size, 1, none⟩ = some (.int .i64 r.r) ∧ W.cell? ⟨w.heap.size, 2, none⟩ = some (r_0)) (first | (exact ⟨(cell_ex xo8 (cell_ex xo7 qvx_r0)), (cell_ex xo8 (cell_ex xo7 qvx_r1)), (cell_ex xo8 (cell_ex xo7 qvx_r2)), (cell_ex xo8 (cell_ex xo7 qv_r0)), (cell_ex xo8 (cell_ex xo7 qv_r1)), (cell_ex xo8 (cell_ex xo7 qv_r2))⟩) | (exact ⟨(cell_ex xo7 qvx_r0), (cell_ex xo7 qvx_r1), (cell_ex xo7 qvx_r2), (cell_ex xo7 qv_r0), (cell_ex xo7 qv_r1), (cell_ex xo7 qv_r2)⟩) | (exact ⟨qvx_r0, qvx_r1, qvx_r2, qv_r0, qv_r1, qv_r2⟩)) (first
    | (go_at_call 7
       refine (toRatRelation_u r r_0 o6.drew (rh.ex xw.drew)).mono ?_
       rintro e o7 ⟨o7_0, rfl, fo7, xo7⟩)
    | (go_at_call 9
       refine (eqRatRelation_u r (.slice o4A0 o4N0 o4C0) o7_0 _ ((fo4.rd.ex (Ex.refl o6).drew).ex xo7) fo7.rd).mono ?_
       rintro e o8 ⟨rfl, xo8⟩))
  have xd : Ex o6 o8 := ((Ex.refl o6).drew.trans xo7).trans xo8
  clear qvx_r0 qvx_r1 qvx_r2 qv_r0 qv_r1 qv_r2 fo7 xo7 xo8
  replace xw := xw.trans xd
  replace xp := xp.trans xd
  replace xs := xs.trans xd
  replace fo4 := fo4.ex xd
  replace vx_r := vx_r.ex xd
  have zo8 := xd.size
  clear xd
  go_wp2
  all_goals go_ret
  exact ⟨rfl, xw⟩
end Go.Proofs.YtafndkcafgdhfaaDoor
