/- The law on LiftRelation: the program's answer is the reference's, for all arguments; the walk of the law's own text. No conditions. -/
import Derived.Test.YtmekhjnhcgmphaaDoorAp28
import Derived.Test.YtmekhjnhcgmphaaDoorAp15
import Derived.Test.YtmekhjnhcgmphaaDoorAp29
import Derived.Test.YtmekhjnhcgmphaaDoorAp03
import Derived.Test.YtmekhjnhcgmphaaDoorAp10
import Derived.Deep.Fields
import Derived.Test.YtmekhjnhcgmphaaDoorAp30
import Derived.RegionCalls
import Derived.Deep.RegionWith
import Derived.Deep.RegionHeld3
import Derived.Deep.Cut
namespace Go.Proofs.YtmekhjnhcgmphaaDoor
set_option maxRecDepth 100000
open Go Go.RowKit
set_option maxHeartbeats 8000000 in
set_option maxRecDepth 100000 in
theorem lawLiftRelation_big1 (p : Int) (r_c0 r_c1 r_c2 : Value) (rz : Int) (w : World) (rq : QS 5 w (.agg #[r_c0, r_c1, r_c2]) rz) (h0r : 0 ≤ rz) (hbig : 1048576 < rz) :
    Calls Tryd.prog 3 #[.int .i64 p, .agg #[r_c0, r_c1, r_c2]] w fun e w' => e = .returned (.bool true) ∧ Ex w w' := by
  have xw := (Ex.refl w).alloc (.cells #[r_c0, r_c1, r_c2] 24)
  have v_r := VB.new w 24 #[r_c0, r_c1, r_c2]
  go_enter Tryd.func3, Tryd.ntmps3
  go_wp2_with fail
  generalize w.alloc (.cells #[r_c0, r_c1, r_c2] 24) = Wp0 at *
  have hs := rq Wp0 (1048576) xw (by omega) (by omega)
  rw [if_pos (by omega)] at hs
  refine hs.mono ?_
  clear hs
  rintro e wz ⟨rfl, xz⟩
  go_wp2
  go_ret
  exact ⟨rfl, xw.trans xz⟩
set_option maxHeartbeats 8000000 in
set_option maxRecDepth 100000 in
theorem lawLiftRelation_walk (p : Int) (r : Rln) (r_0 : Value) (rz : Int) (w : World) (rh : RRln w r_0 r) (rq : QS 5 w (.agg #[.int .i64 r.l, .int .i64 r.r, r_0]) rz) (h0r : 0 ≤ rz) (hl : rz ≤ 1048576) (ht : Tb w) :
    Calls Tryd.prog 3 #[.int .i64 p, .agg #[.int .i64 r.l, .int .i64 r.r, r_0]] w fun e w' => e = .returned (.bool true) ∧ Ex w w' := by
  obtain ⟨r0, r1, hr⟩ : ∃ r0 r1, lfU p r = (r0, r1) := ⟨_, _, rfl⟩
  have Hr := Lib.hid hr
  clear hr
  have tn_r := totRln_nn r
  have tb_r := rh.tot
  have xw := (Ex.refl w).alloc (.cells #[.int .i64 r.l, .int .i64 r.r, r_0] 24)
  have v_r := VB.new w 24 #[.int .i64 r.l, .int .i64 r.r, r_0]
  go_enter Tryd.func3, Tryd.ntmps3
  go_wp2_with fail
  generalize w.alloc (.cells #[.int .i64 r.l, .int .i64 r.r, r_0] 24) = Wp0 at *
  have zWp := xw.size
  have xp := Ex.refl Wp0
  have hs := rq Wp0 (1048576) xw (by omega) (by omega)
  rw [if_neg (by omega)] at hs
  refine hs.mono ?_
  clear hs
  rintro e o1 ⟨rfl, xo1⟩
  replace xw := xw.trans xo1
  replace xp := xp.trans xo1
  have zo1 := xo1.size
  have qv_r0 := (v_r.ex xp).cell 0 (v := .int .i64 r.l) rfl
  have qv_r1 := (v_r.ex xp).cell 1 (v := .int .i64 r.r) rfl
  have qv_r2 := (v_r.ex xp).cell 2 (v := r_0) rfl
  go_wp2_with fail
  clear qv_r0 qv_r1 qv_r2
  refine (toRelation_u r r_0 o1 (rh.ex xw)).mono ?_
  rintro e o2 ⟨o2_0, rfl, fo2, xo2⟩
  obtain ⟨o2A0, o2N0, o2C0, rfl⟩ := fo2.rd.form
  replace xw := xw.trans xo2
  replace xp := xp.trans xo2
  have zo2 := xo2.size
  go_wp2_with fail
  refine (spLiftRelation_u _  _ _ o2 fo2.rd).mono ?_
  intro e o3 ho3
  rw [Hr.out] at ho3
  obtain ⟨o3r0_0, rfl, fo30, xo3⟩ := ho3
  dsimp only at fo30 ⊢
  obtain ⟨o3r0A0, o3r0N0, o3r0C0, rfl⟩ := fo30.form
  have tnfo30 := totRRel_nn r0
  have tbfo30 := fo30.tot
  replace xw := xw.trans xo3
  replace xp := xp.trans xo3
  replace fo2 := fo2.ex xo3
  have zo3 := xo3.size
  clear fo2
  have w0_0 := fo30
  clear fo30
  have xs := Ex.refl o3
  have qv_r0 := ((v_r.ex xp).ex ((Ex.refl o3).alloc (.cells #[.int .i64 r0.l, .int .i64 r0.r, (.slice o3r0A0 o3r0N0 o3r0C0)] 28))).cell 0 (v := .int .i64 r.l) rfl
  have qv_r1 := ((v_r.ex xp).ex ((Ex.refl o3).alloc (.cells #[.int .i64 r0.l, .int .i64 r0.r, (.slice o3r0A0 o3r0N0 o3r0C0)] 28))).cell 1 (v := .int .i64 r.r) rfl
  have qv_r2 := ((v_r.ex xp).ex ((Ex.refl o3).alloc (.cells #[.int .i64 r0.l, .int .i64 r0.r, (.slice o3r0A0 o3r0N0 o3r0C0)] 28))).cell 2 (v := r_0) rfl
  go_wp2_with fail
  clear qv_r0 qv_r1 qv_r2
  have xa := (Ex.refl o3).alloc (.cells #[.int .i64 r0.l, .int .i64 r0.r, (.slice o3r0A0 o3r0N0 o3r0C0)] 28)
  have vw0 := VB.new o3 28 #[.int .i64 r0.l, .int .i64 r0.r, (.slice o3r0A0 o3r0N0 o3r0C0)]
  have vw0l := vw0.lt
  generalize o3.alloc (.cells #[.int .i64 r0.l, .int .i64 r0.r, (.slice o3r0A0 o3r0N0 o3r0C0)] 28) = o4 at *
  replace xw := xw.trans xa
  replace xp := xp.trans xa
  replace xs := xs.trans xa
  have zo4 := xa.size
  clear xa
  have xvvw0 := Ex.refl o4
  refine (toRelation_u r r_0 o4 (rh.ex xw)).mono ?_
  rintro e o5 ⟨o5_0, rfl, fo5, xo5⟩
  obtain ⟨o5A0, o5N0, o5C0, rfl⟩ := fo5.rd.form
  replace xw := xw.trans xo5
  replace xp := xp.trans xo5
  replace xs := xs.trans xo5
  replace xvvw0 := xvvw0.trans xo5
  have zo5 := xo5.size
  go_wp2_with fail
  have xa := (Ex.refl o5).alloc (.cells #[.int .i64 r.l, .int .i64 r.r, (.slice o5A0 o5N0 o5C0)] 31)
  have vx_r := VB.new o5 31 #[.int .i64 r.l, .int .i64 r.r, (.slice o5A0 o5N0 o5C0)]
  have vx_rl := vx_r.lt
  generalize o5.alloc (.cells #[.int .i64 r.l, .int .i64 r.r, (.slice o5A0 o5N0 o5C0)] 31) = o6 at *
  replace xw := xw.trans xa
  replace xp := xp.trans xa
  replace xs := xs.trans xa
  replace xvvw0 := xvvw0.trans xa
  replace fo5 := fo5.ex xa
  have zo6 := xa.size
  clear xa
  refine (LiftRelation_u _  _ _ o6 fo5.rd (ht.ex xw)).mono ?_
  intro e o7 ho7
  rw [Hr.out] at ho7
  obtain ⟨o7r0_0, rfl, fo70, xo7⟩ := ho7
  dsimp only at fo70 ⊢
  obtain ⟨o7r0A0, o7r0N0, o7r0C0, rfl⟩ := fo70.rd.form
  replace xw := xw.trans xo7
  replace xp := xp.trans xo7
  replace xs := xs.trans xo7
  replace xvvw0 := xvvw0.trans xo7
  replace fo5 := fo5.ex xo7
  replace vx_r := vx_r.ex xo7
  have zo7 := xo7.size
  have qvw00 := ((vw0.ex xvvw0).ex ((Ex.refl o7).alloc (.cells #[.int .i64 r0.l, .int .i64 r0.r, (.slice o7r0A0 o7r0N0 o7r0C0)] 28))).cell 0 (v := .int .i64 r0.l) rfl
  have qvw01 := ((vw0.ex xvvw0).ex ((Ex.refl o7).alloc (.cells #[.int .i64 r0.l, .int .i64 r0.r, (.slice o7r0A0 o7r0N0 o7r0C0)] 28))).cell 1 (v := .int .i64 r0.r) rfl
  have qvw02 := ((vw0.ex xvvw0).ex ((Ex.refl o7).alloc (.cells #[.int .i64 r0.l, .int .i64 r0.r, (.slice o7r0A0 o7r0N0 o7r0C0)] 28))).cell 2 (v := (.slice o3r0A0 o3r0N0 o3r0C0)) rfl
  go_wp2_with fail
  clear qvw00 qvw01 qvw02
  have xa := (Ex.refl o7).alloc (.cells #[.int .i64 r0.l, .int .i64 r0.r, (.slice o7r0A0 o7r0N0 o7r0C0)] 28)
  have vg0 := VB.new o7 28 #[.int .i64 r0.l, .int .i64 r0.r, (.slice o7r0A0 o7r0N0 o7r0C0)]
  have vg0l := vg0.lt
  generalize o7.alloc (.cells #[.int .i64 r0.l, .int .i64 r0.r, (.slice o7r0A0 o7r0N0 o7r0C0)] 28) = o8 at *
  replace xw := xw.trans xa
  replace xp := xp.trans xa
  replace xs := xs.trans xa
  replace xvvw0 := xvvw0.trans xa
  replace fo5 := fo5.ex xa
  replace vx_r := vx_r.ex xa
  replace fo70 := fo70.ex xa
  have zo8 := xa.size
  clear xa
  refine (eqRatRelation_u r0 (.slice o7r0A0 o7r0N0 o7r0C0) (.slice o3r0A0 o3r0N0 o3r0C0) o8 fo70.rd (w0_0.ex xs)).mono ?_
  rintro e o9 ⟨rfl, xo9⟩
  replace xw := xw.trans xo9
  replace xp := xp.trans xo9
  replace xs := xs.trans xo9
  replace xvvw0 := xvvw0.trans xo9
  replace fo5 := fo5.ex xo9
  replace vx_r := vx_r.ex xo9
  replace fo70 := fo70.ex xo9
  replace vg0 := vg0.ex xo9
  have zo9 := xo9.size
  have qvx_r0 := vx_r.cell 0 (v := .int .i64 r.l) rfl
  have qvx_r1 := vx_r.cell 1 (v := .int .i64 r.r) rfl
  have qvx_r2 := vx_r.cell 2 (v := (.slice o5A0 o5N0 o5C0)) rfl
  have qv_r0 := (v_r.ex xp).cell 0 (v := .int .i64 r.l) rfl
  have qv_r1 := (v_r.ex xp).cell 1 (v := .int .i64 r.r) rfl
  have qv_r2 := (v_r.ex xp).cell 2 (v := r_0) rfl
  go_wp2_with fail
  go_region_held3 (fun W => W.cell? ⟨o5.heap.size, 0, none⟩ = some (.int .i64 r.l) ∧ W.cell? ⟨o5.heap.size, 1, none⟩ = some (.int .i64 r.r) ∧ W.cell? ⟨o5.heap.size, 2, none⟩ = some ((.slice o5A0 o5N0 o5C0)) ∧ W.cell? ⟨w.heap.size, 0, none⟩ = some (.int .i64 r.l) ∧ W.cell? ⟨w.heap.size, 1, none⟩ = some (.int .i64 r.r) ∧ W.cell? ⟨w.heap.size, 2, none⟩ = some (r_0)) (first | (exact ⟨(cell_ex xo11 (cell_ex xo10 qvx_r0)), (cell_ex xo11 (cell_ex xo10 qvx_r1)), (cell_ex xo11 (cell_ex xo10 qvx_r2)), (cell_ex xo11 (cell_ex xo10 qv_r0)), (cell_ex xo11 (cell_ex xo10 qv_r1)), (cell_ex xo11 (cell_ex xo10 qv_r2))⟩) | (exact ⟨(cell_ex xo10 qvx_r0), (cell_ex xo10 qvx_r1), (cell_ex xo10 qvx_r2), (cell_ex xo10 qv_r0), (cell_ex xo10 qv_r1), (cell_ex xo10 qv_r2)⟩) | (exact ⟨qvx_r0, qvx_r1, qvx_r2, qv_r0, qv_r1, qv_r2⟩)) (first
    | (go_at_call 7
       refine (toRelation_u r r_0 o9.drew (rh.ex xw.drew)).mono ?_
       rintro e o10 ⟨o10_0, rfl, fo10, xo10⟩)
    | (go_at_call 10
       refine (eqRelation_u r (.slice o5A0 o5N0 o5C0) o10_0 _ ((fo5.rd.ex (Ex.refl o9).drew).ex xo10) fo10.rd).mono ?_
       rintro e o11 ⟨rfl, xo11⟩))
  have xd : Ex o9 o11 := ((Ex.refl o9).drew.trans xo10).trans xo11
  clear qvx_r0 qvx_r1 qvx_r2 qv_r0 qv_r1 qv_r2 fo10 xo10 xo11
  replace xw := xw.trans xd
  replace xp := xp.trans xd
  replace xs := xs.trans xd
  replace xvvw0 := xvvw0.trans xd
  replace fo5 := fo5.ex xd
  replace vx_r := vx_r.ex xd
  replace fo70 := fo70.ex xd
  replace vg0 := vg0.ex xd
  have zo11 := xd.size
  clear xd
  have qvx_r0 := vx_r.cell 0 (v := .int .i64 r.l) rfl
  have qvx_r1 := vx_r.cell 1 (v := .int .i64 r.r) rfl
  have qvx_r2 := vx_r.cell 2 (v := (.slice o5A0 o5N0 o5C0)) rfl
  go_wp2_with fail
  clear qvx_r0 qvx_r1 qvx_r2
  refine (markRelation_u (o4.heap.size) (o5.heap.size) r (.slice o5A0 o5N0 o5C0) (1) o11 fo5 (by omega) (by omega) (by omega)).mono ?_
  rintro e o12 ⟨rfl, mo12, io12⟩
  clear fo5
  replace xw := xw.iv io12 (by omega)
  replace xp := xp.iv io12 (by omega)
  replace xs := xs.iv io12 (by omega)
  replace xvvw0 := xvvw0.iv io12 (by omega)
  replace vx_r := vx_r.iv io12 (by omega)
  replace fo70 := fo70.iv io12 (by omega)
  replace vg0 := vg0.iv io12 (by omega)
  have zo12 := io12.size
  clear mo12
  clear vx_r
  have qvg00 := vg0.cell 0 (v := .int .i64 r0.l) rfl
  have qvg01 := vg0.cell 1 (v := .int .i64 r0.r) rfl
  have qvg02 := vg0.cell 2 (v := (.slice o7r0A0 o7r0N0 o7r0C0)) rfl
  have qvw00 := (vw0.ex xvvw0).cell 0 (v := .int .i64 r0.l) rfl
  have qvw01 := (vw0.ex xvvw0).cell 1 (v := .int .i64 r0.r) rfl
  have qvw02 := (vw0.ex xvvw0).cell 2 (v := (.slice o3r0A0 o3r0N0 o3r0C0)) rfl
  go_wp2_with fail
  clear qvg00 qvg01 qvg02 qvw00 qvw01 qvw02
  refine (eqRatRelation_u r0 (.slice o7r0A0 o7r0N0 o7r0C0) (.slice o3r0A0 o3r0N0 o3r0C0) o12 fo70.rd (w0_0.ex xs)).mono ?_
  rintro e o13 ⟨rfl, xo13⟩
  replace xw := xw.trans xo13
  replace xp := xp.trans xo13
  replace xs := xs.trans xo13
  replace xvvw0 := xvvw0.trans xo13
  replace fo70 := fo70.ex xo13
  replace vg0 := vg0.ex xo13
  have zo13 := xo13.size
  have qvg00 := vg0.cell 0 (v := .int .i64 r0.l) rfl
  have qvg01 := vg0.cell 1 (v := .int .i64 r0.r) rfl
  have qvg02 := vg0.cell 2 (v := (.slice o7r0A0 o7r0N0 o7r0C0)) rfl
  go_wp2_with fail
  clear qvg00 qvg01 qvg02
  refine (markRatRelation_u (o6.heap.size) (o7.heap.size) r0 (.slice o7r0A0 o7r0N0 o7r0C0) (1) o13 fo70 (by omega) (by omega) (by omega)).mono ?_
  rintro e o14 ⟨rfl, mo14, io14⟩
  clear fo70
  replace xw := xw.iv io14 (by omega)
  replace xp := xp.iv io14 (by omega)
  replace xs := xs.iv io14 (by omega)
  replace xvvw0 := xvvw0.iv io14 (by omega)
  replace vg0 := vg0.iv io14 (by omega)
  have zo14 := io14.size
  have qvg00 := vg0.cell 0 (v := .int .i64 r0.l) rfl
  have qvg01 := vg0.cell 1 (v := .int .i64 r0.r) rfl
  have qvg02 := vg0.cell 2 (v := (.slice o7r0A0 o7r0N0 o7r0C0)) rfl
  go_wp2_with fail
  clear qvg00 qvg01 qvg02
  refine (heldRatRelation_u r0 (.slice o7r0A0 o7r0N0 o7r0C0) (1) o14 mo14.rd (by omega) (by omega)).mono ?_
  rintro e o15 ⟨rfl, xo15⟩
  replace xw := xw.trans xo15
  replace xp := xp.trans xo15
  replace xs := xs.trans xo15
  replace xvvw0 := xvvw0.trans xo15
  replace vg0 := vg0.ex xo15
  replace mo14 := mo14.ex xo15
  have zo15 := xo15.size
  have qv_r0 := (v_r.ex xp).cell 0 (v := .int .i64 r.l) rfl
  have qv_r1 := (v_r.ex xp).cell 1 (v := .int .i64 r.r) rfl
  have qv_r2 := (v_r.ex xp).cell 2 (v := r_0) rfl
  go_wp2_with fail
  clear qv_r0 qv_r1 qv_r2
  refine (toRelation_u r r_0 o15 (rh.ex xw)).mono ?_
  rintro e o16 ⟨o16_0, rfl, fo16, xo16⟩
  obtain ⟨o16A0, o16N0, o16C0, rfl⟩ := fo16.rd.form
  replace xw := xw.trans xo16
  replace xp := xp.trans xo16
  replace xs := xs.trans xo16
  replace xvvw0 := xvvw0.trans xo16
  replace vg0 := vg0.ex xo16
  replace mo14 := mo14.ex xo16
  have zo16 := xo16.size
  go_wp2_with fail
  refine (LiftRelation_u _  _ _ o16 fo16.rd (ht.ex xw)).mono ?_
  intro e o17 ho17
  rw [Hr.out] at ho17
  obtain ⟨o17r0_0, rfl, fo170, xo17⟩ := ho17
  dsimp only at fo170 ⊢
  obtain ⟨o17r0A0, o17r0N0, o17r0C0, rfl⟩ := fo170.rd.form
  replace xw := xw.trans xo17
  replace xp := xp.trans xo17
  replace xs := xs.trans xo17
  replace xvvw0 := xvvw0.trans xo17
  replace vg0 := vg0.ex xo17
  replace mo14 := mo14.ex xo17
  replace fo16 := fo16.ex xo17
  have zo17 := xo17.size
  clear fo16
  have qvw00 := ((vw0.ex xvvw0).ex ((Ex.refl o17).alloc (.cells #[.int .i64 r0.l, .int .i64 r0.r, (.slice o17r0A0 o17r0N0 o17r0C0)] 28))).cell 0 (v := .int .i64 r0.l) rfl
  have qvw01 := ((vw0.ex xvvw0).ex ((Ex.refl o17).alloc (.cells #[.int .i64 r0.l, .int .i64 r0.r, (.slice o17r0A0 o17r0N0 o17r0C0)] 28))).cell 1 (v := .int .i64 r0.r) rfl
  have qvw02 := ((vw0.ex xvvw0).ex ((Ex.refl o17).alloc (.cells #[.int .i64 r0.l, .int .i64 r0.r, (.slice o17r0A0 o17r0N0 o17r0C0)] 28))).cell 2 (v := (.slice o3r0A0 o3r0N0 o3r0C0)) rfl
  go_wp2_with fail
  clear qvw00 qvw01 qvw02
  have xa := (Ex.refl o17).alloc (.cells #[.int .i64 r0.l, .int .i64 r0.r, (.slice o17r0A0 o17r0N0 o17r0C0)] 28)
  have vh0 := VB.new o17 28 #[.int .i64 r0.l, .int .i64 r0.r, (.slice o17r0A0 o17r0N0 o17r0C0)]
  have vh0l := vh0.lt
  generalize o17.alloc (.cells #[.int .i64 r0.l, .int .i64 r0.r, (.slice o17r0A0 o17r0N0 o17r0C0)] 28) = o18 at *
  replace xw := xw.trans xa
  replace xp := xp.trans xa
  replace xs := xs.trans xa
  replace xvvw0 := xvvw0.trans xa
  replace vg0 := vg0.ex xa
  replace mo14 := mo14.ex xa
  replace fo170 := fo170.ex xa
  have zo18 := xa.size
  clear xa
  refine (eqRatRelation_u r0 (.slice o17r0A0 o17r0N0 o17r0C0) (.slice o3r0A0 o3r0N0 o3r0C0) o18 fo170.rd (w0_0.ex xs)).mono ?_
  rintro e o19 ⟨rfl, xo19⟩
  replace xw := xw.trans xo19
  replace xp := xp.trans xo19
  replace xs := xs.trans xo19
  replace xvvw0 := xvvw0.trans xo19
  replace vg0 := vg0.ex xo19
  replace mo14 := mo14.ex xo19
  replace fo170 := fo170.ex xo19
  replace vh0 := vh0.ex xo19
  have zo19 := xo19.size
  have qvg00 := vg0.cell 0 (v := .int .i64 r0.l) rfl
  have qvg01 := vg0.cell 1 (v := .int .i64 r0.r) rfl
  have qvg02 := vg0.cell 2 (v := (.slice o7r0A0 o7r0N0 o7r0C0)) rfl
  go_wp2_with fail
  clear qvg00 qvg01 qvg02
  refine (heldRatRelation_u r0 (.slice o7r0A0 o7r0N0 o7r0C0) (1) o19 mo14.rd (by omega) (by omega)).mono ?_
  rintro e o20 ⟨rfl, xo20⟩
  replace xw := xw.trans xo20
  replace xp := xp.trans xo20
  replace xs := xs.trans xo20
  replace xvvw0 := xvvw0.trans xo20
  replace vg0 := vg0.ex xo20
  replace mo14 := mo14.ex xo20
  replace fo170 := fo170.ex xo20
  replace vh0 := vh0.ex xo20
  have zo20 := xo20.size
  clear Hr
  go_wp2
  all_goals go_ret
  exact ⟨rfl, xw⟩
end Go.Proofs.YtmekhjnhcgmphaaDoor
