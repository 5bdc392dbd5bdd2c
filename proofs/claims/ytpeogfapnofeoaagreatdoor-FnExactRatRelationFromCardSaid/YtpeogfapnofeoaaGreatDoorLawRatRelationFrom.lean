/- The law on RatRelationFrom: the program's answer is the reference's, for all arguments; the walk of the law's own text. No conditions. -/
import Derived.Test.YtpeogfapnofeoaaGreatDoorPkR
import Derived.Test.YtpeogfapnofeoaaGreatDoorPkJ
import Derived.Test.YtpeogfapnofeoaaGreatDoorU
import Derived.RegionCalls
import Derived.Deep.RegionWith
import Derived.Deep.RegionHeld3
import Derived.Deep.Cut
namespace Go.Proofs.YtpeogfapnofeoaaGreatDoor
set_option maxRecDepth 100000
open Go Go.RowKit
set_option maxHeartbeats 8000000 in
set_option maxRecDepth 100000 in
theorem lawRatRelationFrom_big1 (p : Int) (left : Int) (right : Int) (rows_c0 : Value) (rowsz : Int) (w : World) (rowsq : QS 16 w (rows_c0) rowsz) (h0rows : 0 ≤ rowsz) (hbig : 1048576 < rowsz) :
    Calls Tryz.prog 4 #[.int .i64 p, .int .i64 left, .int .i64 right, rows_c0] w fun e w' => e = .returned (.bool true) ∧ Ex w w' := by
  have xw := Ex.refl w
  go_enter Tryz.func4, Tryz.ntmps4
  go_wp2_with fail
  have hs := rowsq w (1048576) xw (by omega) (by omega)
  rw [if_pos (by omega)] at hs
  refine hs.mono ?_
  clear hs
  rintro e wz ⟨rfl, xz⟩
  go_wp2
  go_ret
  exact ⟨rfl, xw.trans xz⟩
set_option maxHeartbeats 8000000 in
set_option maxRecDepth 100000 in
theorem lawRatRelationFrom_walk (p : Int) (left : Int) (right : Int) (rows : List (List Fra)) (rows_0 : Value) (rowsz : Int) (w : World) (rowsh : RFF w rows_0 rows) (rowsq : QS 16 w (rows_0) rowsz) (h0rows : 0 ≤ rowsz) (hl : rowsz ≤ 1048576) (ht : Tb w) :
    Calls Tryz.prog 4 #[.int .i64 p, .int .i64 left, .int .i64 right, rows_0] w fun e w' => e = .returned (.bool true) ∧ Ex w w' := by
  obtain ⟨r0, r1, hr⟩ : ∃ r0 r1, fromU p left right rows = (r0, r1) := ⟨_, _, rfl⟩
  have Hr := Lib.hid hr
  clear hr
  have tn_rows := totFF_nn rows
  have tb_rows := rowsh.tot
  have xw := Ex.refl w
  go_enter Tryz.func4, Tryz.ntmps4
  go_wp2_with fail
  have zWp := xw.size
  have xp := Ex.refl w
  have hs := rowsq w (1048576) xw (by omega) (by omega)
  rw [if_neg (by omega)] at hs
  refine hs.mono ?_
  clear hs
  rintro e o1 ⟨rfl, xo1⟩
  replace xw := xw.trans xo1
  replace xp := xp.trans xo1
  have zo1 := xo1.size
  go_wp2_with fail
  refine (toFractionSS_u rows rows_0 o1 (rowsh.ex xw)).mono ?_
  rintro e o2 ⟨o2_0, rfl, fo2, xo2⟩
  obtain ⟨o2A0, o2N0, o2C0, rfl⟩ := fo2.rd.form
  replace xw := xw.trans xo2
  replace xp := xp.trans xo2
  have zo2 := xo2.size
  go_wp2_with fail
  refine (spRatRelationFrom_u _  _  _  _ _ o2 fo2.rd).mono ?_
  intro e o3 ho3
  rw [Hr.out] at ho3
  obtain ⟨o3r0_0, rfl, fo30, xo3⟩ := ho3
  dsimp only at fo30 ⊢
  obtain ⟨o3r0A0, o3r0N0, o3r0C0, rfl⟩ := fo30.form
  have tnfo30 := totRRel_nn r0
  have tbfo30 := fo30.tot
  replace xw := xw.trans xo3
  replace xp := xp.trans xo3
  replace fo2 := fo2.ex xo3
  have zo3 := xo3.size
  clear fo2
  have w0_0 := fo30
  clear fo30
  have xs := Ex.refl o3
  go_wp2_with fail
  have xa := (Ex.refl o3).alloc (.cells #[.int .i64 r0.l, .int .i64 r0.r, (.slice o3r0A0 o3r0N0 o3r0C0)] 32)
  have vw0 := VB.new o3 32 #[.int .i64 r0.l, .int .i64 r0.r, (.slice o3r0A0 o3r0N0 o3r0C0)]
  have vw0l := vw0.lt
  generalize o3.alloc (.cells #[.int .i64 r0.l, .int .i64 r0.r, (.slice o3r0A0 o3r0N0 o3r0C0)] 32) = o4 at *
  replace xw := xw.trans xa
  replace xp := xp.trans xa
  replace xs := xs.trans xa
  have zo4 := xa.size
  clear xa
  have xvvw0 := Ex.refl o4
  refine (toFractionSS_u rows rows_0 o4 (rowsh.ex xw)).mono ?_
  rintro e o5 ⟨o5_0, rfl, fo5, xo5⟩
  obtain ⟨o5A0, o5N0, o5C0, rfl⟩ := fo5.rd.form
  replace xw := xw.trans xo5
  replace xp := xp.trans xo5
  replace xs := xs.trans xo5
  replace xvvw0 := xvvw0.trans xo5
  have zo5 := xo5.size
  go_wp2_with fail
  refine (RatRelationFrom_u _  _  _  _ _ o5 fo5.rd (ht.ex xw)).mono ?_
  intro e o6 ho6
  rw [Hr.out] at ho6
  obtain ⟨o6r0_0, rfl, fo60, xo6⟩ := ho6
  dsimp only at fo60 ⊢
  obtain ⟨o6r0A0, o6r0N0, o6r0C0, rfl⟩ := fo60.rd.form
  replace xw := xw.trans xo6
  replace xp := xp.trans xo6
  replace xs := xs.trans xo6
  replace xvvw0 := xvvw0.trans xo6
  replace fo5 := fo5.ex xo6
  have zo6 := xo6.size
  have qvw00 := ((vw0.ex xvvw0).ex ((Ex.refl o6).alloc (.cells #[.int .i64 r0.l, .int .i64 r0.r, (.slice o6r0A0 o6r0N0 o6r0C0)] 32))).cell 0 (v := .int .i64 r0.l) rfl
  have qvw01 := ((vw0.ex xvvw0).ex ((Ex.refl o6).alloc (.cells #[.int .i64 r0.l, .int .i64 r0.r, (.slice o6r0A0 o6r0N0 o6r0C0)] 32))).cell 1 (v := .int .i64 r0.r) rfl
  have qvw02 := ((vw0.ex xvvw0).ex ((Ex.refl o6).alloc (.cells #[.int .i64 r0.l, .int .i64 r0.r, (.slice o6r0A0 o6r0N0 o6r0C0)] 32))).cell 2 (v := (.slice o3r0A0 o3r0N0 o3r0C0)) rfl
  go_wp2_with fail
  clear qvw00 qvw01 qvw02
  have xa := (Ex.refl o6).alloc (.cells #[.int .i64 r0.l, .int .i64 r0.r, (.slice o6r0A0 o6r0N0 o6r0C0)] 32)
  have vg0 := VB.new o6 32 #[.int .i64 r0.l, .int .i64 r0.r, (.slice o6r0A0 o6r0N0 o6r0C0)]
  have vg0l := vg0.lt
  generalize o6.alloc (.cells #[.int .i64 r0.l, .int .i64 r0.r, (.slice o6r0A0 o6r0N0 o6r0C0)] 32) = o7 at *
  replace xw := xw.trans xa
  replace xp := xp.trans xa
  replace xs := xs.trans xa
  replace xvvw0 := xvvw0.trans xa
  replace fo5 := fo5.ex xa
  replace fo60 := fo60.ex xa
  have zo7 := xa.size
  clear xa
  refine (eqRatRelation_u r0 (.slice o6r0A0 o6r0N0 o6r0C0) (.slice o3r0A0 o3r0N0 o3r0C0) o7 fo60.rd (w0_0.ex xs)).mono ?_
  rintro e o8 ⟨rfl, xo8⟩
  replace xw := xw.trans xo8
  replace xp := xp.trans xo8
  replace xs := xs.trans xo8
  replace xvvw0 := xvvw0.trans xo8
  replace fo5 := fo5.ex xo8
  replace fo60 := fo60.ex xo8
  replace vg0 := vg0.ex xo8
  have zo8 := xo8.size
  go_wp2_with fail
  refine (toFractionSS_u rows rows_0 o8 (rowsh.ex xw)).mono ?_
  rintro e o9 ⟨o9_0, rfl, fo9, xo9⟩
  obtain ⟨o9A0, o9N0, o9C0, rfl⟩ := fo9.rd.form
  replace xw := xw.trans xo9
  replace xp := xp.trans xo9
  replace xs := xs.trans xo9
  replace xvvw0 := xvvw0.trans xo9
  replace fo5 := fo5.ex xo9
  replace fo60 := fo60.ex xo9
  replace vg0 := vg0.ex xo9
  have zo9 := xo9.size
  go_wp2_with fail
  refine (eqFractionSS_u rows (.slice o5A0 o5N0 o5C0) (.slice o9A0 o9N0 o9C0) o9 fo5.rd fo9.rd).mono ?_
  rintro e o10 ⟨rfl, xo10⟩
  replace xw := xw.trans xo10
  replace xp := xp.trans xo10
  replace xs := xs.trans xo10
  replace xvvw0 := xvvw0.trans xo10
  replace fo5 := fo5.ex xo10
  replace fo60 := fo60.ex xo10
  replace vg0 := vg0.ex xo10
  replace fo9 := fo9.ex xo10
  have zo10 := xo10.size
  clear fo9
  go_wp2_with fail
  refine (markFractionSS_u (o4.heap.size) (o5.heap.size) rows (.slice o5A0 o5N0 o5C0) (1) o10 fo5 (by omega) (by omega) (by omega)).mono ?_
  rintro e o11 ⟨rfl, mo11, io11⟩
  clear fo5
  replace xw := xw.iv io11 (by omega)
  replace xp := xp.iv io11 (by omega)
  replace xs := xs.iv io11 (by omega)
  replace xvvw0 := xvvw0.iv io11 (by omega)
  replace fo60 := fo60.iv io11 (by omega)
  replace vg0 := vg0.iv io11 (by omega)
  have zo11 := io11.size
  clear mo11
  have qvg00 := vg0.cell 0 (v := .int .i64 r0.l) rfl
  have qvg01 := vg0.cell 1 (v := .int .i64 r0.r) rfl
  have qvg02 := vg0.cell 2 (v := (.slice o6r0A0 o6r0N0 o6r0C0)) rfl
  have qvw00 := (vw0.ex xvvw0).cell 0 (v := .int .i64 r0.l) rfl
  have qvw01 := (vw0.ex xvvw0).cell 1 (v := .int .i64 r0.r) rfl
  have qvw02 := (vw0.ex xvvw0).cell 2 (v := (.slice o3r0A0 o3r0N0 o3r0C0)) rfl
  go_wp2_with fail
  clear qvg00 qvg01 qvg02 qvw00 qvw01 qvw02
  refine (eqRatRelation_u r0 (.slice o6r0A0 o6r0N0 o6r0C0) (.slice o3r0A0 o3r0N0 o3r0C0) o11 fo60.rd (w0_0.ex xs)).mono ?_
  rintro e o12 ⟨rfl, xo12⟩
  replace xw := xw.trans xo12
  replace xp := xp.trans xo12
  replace xs := xs.trans xo12
  replace xvvw0 := xvvw0.trans xo12
  replace fo60 := fo60.ex xo12
  replace vg0 := vg0.ex xo12
  have zo12 := xo12.size
  have qvg00 := vg0.cell 0 (v := .int .i64 r0.l) rfl
  have qvg01 := vg0.cell 1 (v := .int .i64 r0.r) rfl
  have qvg02 := vg0.cell 2 (v := (.slice o6r0A0 o6r0N0 o6r0C0)) rfl
  go_wp2_with fail
  clear qvg00 qvg01 qvg02
  refine (markRatRelation_u (o5.heap.size) (o6.heap.size) r0 (.slice o6r0A0 o6r0N0 o6r0C0) (1) o12 fo60 (by omega) (by omega) (by omega)).mono ?_
  rintro e o13 ⟨rfl, mo13, io13⟩
  clear fo60
  replace xw := xw.iv io13 (by omega)
  replace xp := xp.iv io13 (by omega)
  replace xs := xs.iv io13 (by omega)
  replace xvvw0 := xvvw0.iv io13 (by omega)
  replace vg0 := vg0.iv io13 (by omega)
  have zo13 := io13.size
  have qvg00 := vg0.cell 0 (v := .int .i64 r0.l) rfl
  have qvg01 := vg0.cell 1 (v := .int .i64 r0.r) rfl
  have qvg02 := vg0.cell 2 (v := (.slice o6r0A0 o6r0N0 o6r0C0)) rfl
  go_wp2_with fail
  clear qvg00 qvg01 qvg02
  refine (heldRatRelation_u r0 (.slice o6r0A0 o6r0N0 o6r0C0) (1) o13 mo13.rd (by omega) (by omega)).mono ?_
  rintro e o14 ⟨rfl, xo14⟩
  replace xw := xw.trans xo14
  replace xp := xp.trans xo14
  replace xs := xs.trans xo14
  replace xvvw0 := xvvw0.trans xo14
  replace vg0 := vg0.ex xo14
  replace mo13 := mo13.ex xo14
  have zo14 := xo14.size
  go_wp2_with fail
  refine (toFractionSS_u rows rows_0 o14 (rowsh.ex xw)).mono ?_
  rintro e o15 ⟨o15_0, rfl, fo15, xo15⟩
  obtain ⟨o15A0, o15N0, o15C0, rfl⟩ := fo15.rd.form
  replace xw := xw.trans xo15
  replace xp := xp.trans xo15
  replace xs := xs.trans xo15
  replace xvvw0 := xvvw0.trans xo15
  replace vg0 := vg0.ex xo15
  replace mo13 := mo13.ex xo15
  have zo15 := xo15.size
  go_wp2_with fail
  refine (RatRelationFrom_u _  _  _  _ _ o15 fo15.rd (ht.ex xw)).mono ?_
  intro e o16 ho16
  rw [Hr.out] at ho16
  obtain ⟨o16r0_0, rfl, fo160, xo16⟩ := ho16
  dsimp only at fo160 ⊢
  obtain ⟨o16r0A0, o16r0N0, o16r0C0, rfl⟩ := fo160.rd.form
  replace xw := xw.trans xo16
  replace xp := xp.trans xo16
  replace xs := xs.trans xo16
  replace xvvw0 := xvvw0.trans xo16
  replace vg0 := vg0.ex xo16
  replace mo13 := mo13.ex xo16
  replace fo15 := fo15.ex xo16
  have zo16 := xo16.size
  clear fo15
  have qvw00 := ((vw0.ex xvvw0).ex ((Ex.refl o16).alloc (.cells #[.int .i64 r0.l, .int .i64 r0.r, (.slice o16r0A0 o16r0N0 o16r0C0)] 32))).cell 0 (v := .int .i64 r0.l) rfl
  have qvw01 := ((vw0.ex xvvw0).ex ((Ex.refl o16).alloc (.cells #[.int .i64 r0.l, .int .i64 r0.r, (.slice o16r0A0 o16r0N0 o16r0C0)] 32))).cell 1 (v := .int .i64 r0.r) rfl
  have qvw02 := ((vw0.ex xvvw0).ex ((Ex.refl o16).alloc (.cells #[.int .i64 r0.l, .int .i64 r0.r, (.slice o16r0A0 o16r0N0 o16r0C0)] 32))).cell 2 (v := (.slice o3r0A0 o3r0N0 o3r0C0)) rfl
  go_wp2_with fail
  clear qvw00 qvw01 qvw02
  have xa := (Ex.refl o16).alloc (.cells #[.int .i64 r0.l, .int .i64 r0.r, (.slice o16r0A0 o16r0N0 o16r0C0)] 32)
  have vh0 := VB.new o16 32 #[.int .i64 r0.l, .int .i64 r0.r, (.slice o16r0A0 o16r0N0 o16r0C0)]
  have vh0l := vh0.lt
  generalize o16.alloc (.cells #[.int .i64 r0.l, .int .i64 r0.r, (.slice o16r0A0 o16r0N0 o16r0C0)] 32) = o17 at *
  replace xw := xw.trans xa
  replace xp := xp.trans xa
  replace xs := xs.trans xa
  replace xvvw0 := xvvw0.trans xa
  replace vg0 := vg0.ex xa
  replace mo13 := mo13.ex xa
  replace fo160 := fo160.ex xa
  have zo17 := xa.size
  clear xa
  refine (eqRatRelation_u r0 (.slice o16r0A0 o16r0N0 o16r0C0) (.slice o3r0A0 o3r0N0 o3r0C0) o17 fo160.rd (w0_0.ex xs)).mono ?_
  rintro e o18 ⟨rfl, xo18⟩
  replace xw := xw.trans xo18
  replace xp := xp.trans xo18
  replace xs := xs.trans xo18
  replace xvvw0 := xvvw0.trans xo18
  replace vg0 := vg0.ex xo18
  replace mo13 := mo13.ex xo18
  replace fo160 := fo160.ex xo18
  replace vh0 := vh0.ex xo18
  have zo18 := xo18.size
  have qvg00 := vg0.cell 0 (v := .int .i64 r0.l) rfl
  have qvg01 := vg0.cell 1 (v := .int .i64 r0.r) rfl
  have qvg02 := vg0.cell 2 (v := (.slice o6r0A0 o6r0N0 o6r0C0)) rfl
  go_wp2_with fail
  clear qvg00 qvg01 qvg02
  refine (heldRatRelation_u r0 (.slice o6r0A0 o6r0N0 o6r0C0) (1) o18 mo13.rd (by omega) (by omega)).mono ?_
  rintro e o19 ⟨rfl, xo19⟩
  replace xw := xw.trans xo19
  replace xp := xp.trans xo19
  replace xs := xs.trans xo19
  replace xvvw0 := xvvw0.trans xo19
  replace vg0 := vg0.ex xo19
  replace mo13 := mo13.ex xo19
  replace fo160 := fo160.ex xo19
  replace vh0 := vh0.ex xo19
  have zo19 := xo19.size
  clear Hr
  go_wp2
  all_goals go_ret
  exact ⟨rfl, xw⟩
end Go.Proofs.YtpeogfapnofeoaaGreatDoor
