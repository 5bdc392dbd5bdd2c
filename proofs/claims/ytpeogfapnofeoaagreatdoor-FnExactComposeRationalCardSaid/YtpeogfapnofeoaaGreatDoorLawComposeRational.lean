/- The law on ComposeRational: the program's answer is the reference's, for all arguments; the walk of the law's own text. No conditions. -/
import Derived.Test.YtpeogfapnofeoaaGreatDoorPkZ
import Derived.Test.YtpeogfapnofeoaaGreatDoorPkJ
import Derived.Test.YtpeogfapnofeoaaGreatDoorU
import Derived.RegionCalls
import Derived.Deep.RegionWith
import Derived.Deep.RegionHeld3
import Derived.Deep.Cut
namespace Go.Proofs.YtpeogfapnofeoaaGreatDoor
set_option maxRecDepth 100000
open Go Go.RowKit
set_option maxHeartbeats 8000000 in
set_option maxRecDepth 100000 in
theorem lawComposeRational_big1 (p : Int) (a_c0 a_c1 a_c2 : Value) (az : Int) (b_c0 b_c1 b_c2 : Value) (bz : Int) (w : World) (aq : QS 8 w (.agg #[a_c0, a_c1, a_c2]) az) (h0a : 0 ≤ az) (hbig : 1048576 < az) :
    Calls Tryz.prog 7 #[.int .i64 p, .agg #[a_c0, a_c1, a_c2], .agg #[b_c0, b_c1, b_c2]] w fun e w' => e = .returned (.bool true) ∧ Ex w w' := by
  have xw := (Ex.refl w).alloc (.cells #[a_c0, a_c1, a_c2] 24)
  have v_a := VB.new w 24 #[a_c0, a_c1, a_c2]
  have S0 := Lib.hid (show (w.alloc (.cells #[a_c0, a_c1, a_c2] 24)).heap.size = w.heap.size + 1 by simp)
  go_enter Tryz.func7, Tryz.ntmps7
  go_wp2_with fail
  generalize w.alloc (.cells #[a_c0, a_c1, a_c2] 24) = Wp0 at *
  have yw := (Ex.refl Wp0).alloc (.cells #[b_c0, b_c1, b_c2] 24)
  have v_b := VB.new Wp0 24 #[b_c0, b_c1, b_c2]
  rw [S0.out] at v_b
  replace v_a := v_a.ex yw
  replace xw := xw.trans yw
  generalize Wp0.alloc (.cells #[b_c0, b_c1, b_c2] 24) = Wp1 at *
  have hs := aq Wp1 (1048576) xw (by omega) (by omega)
  rw [if_pos (by omega)] at hs
  refine hs.mono ?_
  clear hs
  rintro e wz ⟨rfl, xz⟩
  go_wp2
  go_ret
  exact ⟨rfl, xw.trans xz⟩
set_option maxHeartbeats 8000000 in
set_option maxRecDepth 100000 in
theorem lawComposeRational_big2 (p : Int) (a_c0 a_c1 a_c2 : Value) (az : Int) (b_c0 b_c1 b_c2 : Value) (bz : Int) (w : World) (aq : QS 8 w (.agg #[a_c0, a_c1, a_c2]) az) (h0a : 0 ≤ az) (bq : QS 8 w (.agg #[b_c0, b_c1, b_c2]) bz) (h0b : 0 ≤ bz) (hoka : az ≤ 1048576) (hbig : 1048576 - az < bz) :
    Calls Tryz.prog 7 #[.int .i64 p, .agg #[a_c0, a_c1, a_c2], .agg #[b_c0, b_c1, b_c2]] w fun e w' => e = .returned (.bool true) ∧ Ex w w' := by
  have xw := (Ex.refl w).alloc (.cells #[a_c0, a_c1, a_c2] 24)
  have v_a := VB.new w 24 #[a_c0, a_c1, a_c2]
  have S0 := Lib.hid (show (w.alloc (.cells #[a_c0, a_c1, a_c2] 24)).heap.size = w.heap.size + 1 by simp)
  go_enter Tryz.func7, Tryz.ntmps7
  go_wp2_with fail
  generalize w.alloc (.cells #[a_c0, a_c1, a_c2] 24) = Wp0 at *
  have yw := (Ex.refl Wp0).alloc (.cells #[b_c0, b_c1, b_c2] 24)
  have v_b := VB.new Wp0 24 #[b_c0, b_c1, b_c2]
  rw [S0.out] at v_b
  replace v_a := v_a.ex yw
  replace xw := xw.trans yw
  generalize Wp0.alloc (.cells #[b_c0, b_c1, b_c2] 24) = Wp1 at *
  have hs := aq Wp1 (1048576) xw (by omega) (by omega)
  rw [if_neg (by omega)] at hs
  refine hs.mono ?_
  clear hs
  rintro e wsa ⟨rfl, xsa⟩
  replace v_a := v_a.ex xsa
  replace v_b := v_b.ex xsa
  replace xw := xw.trans xsa
  have qv_b0 := v_b.cell 0 (v := b_c0) rfl
  have qv_b1 := v_b.cell 1 (v := b_c1) rfl
  have qv_b2 := v_b.cell 2 (v := b_c2) rfl
  go_wp2_with fail
  clear qv_b0 qv_b1 qv_b2
  have hs := bq wsa (1048576 - az) xw (by omega) (by omega)
  rw [if_pos (by omega)] at hs
  refine hs.mono ?_
  clear hs
  rintro e wz ⟨rfl, xz⟩
  go_wp2
  go_ret
  exact ⟨rfl, xw.trans xz⟩
set_option maxHeartbeats 8000000 in
set_option maxRecDepth 100000 in
theorem lawComposeRational_walk (p : Int) (a : RRel) (a_0 : Value) (az : Int) (b : RRel) (b_0 : Value) (bz : Int) (w : World) (ah : RRRel w a_0 a) (aq : QS 8 w (.agg #[.int .i64 a.l, .int .i64 a.r, a_0]) az) (h0a : 0 ≤ az) (bh : RRRel w b_0 b) (bq : QS 8 w (.agg #[.int .i64 b.l, .int .i64 b.r, b_0]) bz) (h0b : 0 ≤ bz) (hl : az + bz ≤ 1048576) (ht : Tb w) :
    Calls Tryz.prog 7 #[.int .i64 p, .agg #[.int .i64 a.l, .int .i64 a.r, a_0], .agg #[.int .i64 b.l, .int .i64 b.r, b_0]] w fun e w' => e = .returned (.bool true) ∧ Ex w w' := by
  obtain ⟨r0, r1, hr⟩ : ∃ r0 r1, cmpU p a b = (r0, r1) := ⟨_, _, rfl⟩
  have Hr := Lib.hid hr
  clear hr
  have tn_a := totRRel_nn a
  have tb_a := ah.tot
  have tn_b := totRRel_nn b
  have tb_b := bh.tot
  have xw := (Ex.refl w).alloc (.cells #[.int .i64 a.l, .int .i64 a.r, a_0] 24)
  have v_a := VB.new w 24 #[.int .i64 a.l, .int .i64 a.r, a_0]
  have S0 := Lib.hid (show (w.alloc (.cells #[.int .i64 a.l, .int .i64 a.r, a_0] 24)).heap.size = w.heap.size + 1 by simp)
  go_enter Tryz.func7, Tryz.ntmps7
  go_wp2_with fail
  generalize w.alloc (.cells #[.int .i64 a.l, .int .i64 a.r, a_0] 24) = Wp0 at *
  have yw := (Ex.refl Wp0).alloc (.cells #[.int .i64 b.l, .int .i64 b.r, b_0] 24)
  have v_b := VB.new Wp0 24 #[.int .i64 b.l, .int .i64 b.r, b_0]
  rw [S0.out] at v_b
  replace v_a := v_a.ex yw
  replace xw := xw.trans yw
  generalize Wp0.alloc (.cells #[.int .i64 b.l, .int .i64 b.r, b_0] 24) = Wp1 at *
  have zWp := xw.size
  have xp := Ex.refl Wp1
  have hs := aq Wp1 (1048576) xw (by omega) (by omega)
  rw [if_neg (by omega)] at hs
  refine hs.mono ?_
  clear hs
  rintro e o1 ⟨rfl, xo1⟩
  replace xw := xw.trans xo1
  replace xp := xp.trans xo1
  have zo1 := xo1.size
  have qv_b0 := (v_b.ex xp).cell 0 (v := .int .i64 b.l) rfl
  have qv_b1 := (v_b.ex xp).cell 1 (v := .int .i64 b.r) rfl
  have qv_b2 := (v_b.ex xp).cell 2 (v := b_0) rfl
  go_wp2_with fail
  clear qv_b0 qv_b1 qv_b2
  have hs := bq o1 (1048576 - az) xw (by omega) (by omega)
  rw [if_neg (by omega)] at hs
  refine hs.mono ?_
  clear hs
  rintro e o2 ⟨rfl, xo2⟩
  replace xw := xw.trans xo2
  replace xp := xp.trans xo2
  have zo2 := xo2.size
  have qv_a0 := (v_a.ex xp).cell 0 (v := .int .i64 a.l) rfl
  have qv_a1 := (v_a.ex xp).cell 1 (v := .int .i64 a.r) rfl
  have qv_a2 := (v_a.ex xp).cell 2 (v := a_0) rfl
  have qv_b0 := (v_b.ex xp).cell 0 (v := .int .i64 b.l) rfl
  have qv_b1 := (v_b.ex xp).cell 1 (v := .int .i64 b.r) rfl
  have qv_b2 := (v_b.ex xp).cell 2 (v := b_0) rfl
  go_wp2_with fail
  have HS : ∀ W, Ex o2 W → (Ex o2 W ∧ W.cell? ⟨w.heap.size, 0, none⟩ = some (.int .i64 a.l) ∧ W.cell? ⟨w.heap.size, 1, none⟩ = some (.int .i64 a.r) ∧ W.cell? ⟨w.heap.size, 2, none⟩ = some (a_0) ∧ W.cell? ⟨w.heap.size + 1, 0, none⟩ = some (.int .i64 b.l) ∧ W.cell? ⟨w.heap.size + 1, 1, none⟩ = some (.int .i64 b.r) ∧ W.cell? ⟨w.heap.size + 1, 2, none⟩ = some (b_0)) := fun W h => ⟨h, cell_ex h qv_a0, cell_ex h qv_a1, cell_ex h qv_a2, cell_ex h qv_b0, cell_ex h qv_b1, cell_ex h qv_b2⟩
  go_cut [8, 9] from 19 (fun s8 s9 W => ∃ (Go30 : Nat) (o3r0_0 : Value), s8 = .pointer (some ⟨Go30, 0, none⟩) ∧ s9 = .bool r1 ∧ VB W Go30 32 #[.int .i64 r0.l, .int .i64 r0.r, o3r0_0] ∧ RRRel W o3r0_0 r0 ∧ Ex o2 W)
  case first =>
    go_region_held3 (fun W => Ex o2 W ∧ W.cell? ⟨w.heap.size, 0, none⟩ = some (.int .i64 a.l) ∧ W.cell? ⟨w.heap.size, 1, none⟩ = some (.int .i64 a.r) ∧ W.cell? ⟨w.heap.size, 2, none⟩ = some (a_0) ∧ W.cell? ⟨w.heap.size + 1, 0, none⟩ = some (.int .i64 b.l) ∧ W.cell? ⟨w.heap.size + 1, 1, none⟩ = some (.int .i64 b.r) ∧ W.cell? ⟨w.heap.size + 1, 2, none⟩ = some (b_0)) (first | (exact HS _ (ex_stores3 ho3 (by first | exact Nat.le_refl _ | exact ho4.size | exact ho5.size | exact ho3.size))) | (exact HS _ (ho3.alloc _)) | (exact HS _ (ho5.alloc _)) | (exact HS _ (ho4.alloc _)) | (exact HS _ (((Ex.refl o2).drew).alloc _)) | (exact HS _ ((Ex.refl o2).alloc _)) | (exact HS _ ((Ex.refl o2).alloc _).drew) | (exact HS _ ho3) | (exact HS _ ho5) | (exact HS _ ho4) | (exact HS _ (Ex.refl o2).drew)) (first
      | (go_at_call_of 11 (Value.agg #[.int .i64 a.l, .int .i64 a.r, a_0])
         have hb := (‹Ex o2 _ ∧ _›).1
         refine (toRatRelation_u a a_0 _ (ah.ex (xw.trans hb))).mono ?_
         rintro e o4 ⟨o4_0, rfl, fo4, xo4⟩
         replace fo4 := fo4.rdc
         have ho4 := hb.trans xo4
         clear hb
         first | (have vz := (VB.new (o2) 32 #[.int .i64 0, .int .i64 0, .slice none 0 0]).drew.ex xo4) | (have vz := (VB.new (o2.drew) 32 #[.int .i64 0, .int .i64 0, .slice none 0 0]).ex xo4) | (replace vz := vz.ex xo4) | skip)
      | (go_at_call_of 11 (Value.agg #[.int .i64 b.l, .int .i64 b.r, b_0])
         have hb := (‹Ex o2 _ ∧ _›).1
         refine (toRatRelation_u b b_0 _ (bh.ex (xw.trans hb))).mono ?_
         rintro e o5 ⟨o5_0, rfl, fo5, xo5⟩
         replace fo5 := fo5.rdc
         have ho5 := hb.trans xo5
         clear hb
         replace fo4 := fo4.ex (by first | exact xo5 | exact ((Ex.refl o4).alloc _).trans xo5)
         first | (have vz := (VB.new (o2) 32 #[.int .i64 0, .int .i64 0, .slice none 0 0]).drew.ex xo5) | (have vz := (VB.new (o4) 32 #[.int .i64 0, .int .i64 0, .slice none 0 0]).ex xo5) | (replace vz := vz.ex xo5) | skip)
      | (go_at_call 28
         have hb := (‹Ex o2 _ ∧ _›).1
         have sl := (VB.new o5 32 #[.int .i64 0, .int .i64 0, .slice none 0 0]).lt
         try have vl := vz.lt
         first | (have hc := Ex.refl o5; refine (spComposeRational_u _  _ _  _ _ _ (fo4.ex hc) (fo5.ex hc)).mono ?_) | (have hc := (Ex.refl o5).alloc (.cells #[.int .i64 0, .int .i64 0, .slice none 0 0] 32); refine (spComposeRational_u _  _ _  _ _ _ (fo4.ex hc) (fo5.ex hc)).mono ?_)
         intro e o3 ho3
         rw [Hr.out] at ho3
         obtain ⟨o3r0_0, rfl, fo30, xo3⟩ := ho3
         dsimp only at fo30 ⊢
         obtain ⟨o3r0A0, o3r0N0, o3r0C0, rfl⟩ := fo30.rd.form
         have ho3 := hb.trans xo3
         clear hb
         first | (have vz := (VB.new (o5) 32 #[.int .i64 0, .int .i64 0, .slice none 0 0]).ex xo3) | (replace vz := vz.ex xo3) | skip
         try (have zc0 := vz.cell 0 (v := .int .i64 0) rfl; have zf0 := vz.frozen 0; have zc1 := vz.cell 1 (v := .int .i64 0) rfl; have zf1 := vz.frozen 1; have zc2 := vz.cell 2 (v := .slice none 0 0) rfl; have zf2 := vz.frozen 2)))
    all_goals
      go_wp2_with fail
      go_meet
      first | exact ⟨_, _, rfl, rfl, VB.new _ _ _, fo30.rd.ex ((Ex.refl _).alloc _), (‹Ex o2 _ ∧ _›).1⟩ | (obtain ⟨dd, zz⟩ := vz.st3 (.int .i64 r0.l) (.int .i64 r0.r) ((.slice o3r0A0 o3r0N0 o3r0C0)); exact ⟨_, _, rfl, rfl, dd, (fo30.e1 zz (by omega)).rd, (‹Ex o2 _ ∧ _›).1⟩)
  case rest =>
    obtain ⟨o6, rfl⟩ : ∃ q, q = wc := ⟨_, rfl⟩
    obtain ⟨Go6, o3r0_0, rfl, rfl, vw0, rd_fo30, xd⟩ := hcut
    clear qv_a0 qv_a1 qv_a2 qv_b0 qv_b1 qv_b2 HS
    replace xw := xw.trans xd
    replace xp := xp.trans xd
    have zo6 := xd.size
    clear xd
    obtain ⟨o6r0A0, o6r0N0, o6r0C0, rfl⟩ := rd_fo30.form
    have tnrd_fo30 := totRRel_nn r0
    have tbrd_fo30 := rd_fo30.tot
    have w0_0 := rd_fo30
    clear rd_fo30
    have xs := Ex.refl o6
    have xvvw0 := Ex.refl o6
    have qv_a0 := (v_a.ex xp).cell 0 (v := .int .i64 a.l) rfl
    have qv_a1 := (v_a.ex xp).cell 1 (v := .int .i64 a.r) rfl
    have qv_a2 := (v_a.ex xp).cell 2 (v := a_0) rfl
    go_wp2_with fail
    clear qv_a0 qv_a1 qv_a2
    refine (toRatRelation_u a a_0 o6 (ah.ex xw)).mono ?_
    rintro e o7 ⟨o7_0, rfl, fo7, xo7⟩
    obtain ⟨o7A0, o7N0, o7C0, rfl⟩ := fo7.rd.form
    replace xw := xw.trans xo7
    replace xp := xp.trans xo7
    replace xs := xs.trans xo7
    replace xvvw0 := xvvw0.trans xo7
    have zo7 := xo7.size
    have qv_b0 := ((v_b.ex xp).ex ((Ex.refl o7).alloc (.cells #[.int .i64 a.l, .int .i64 a.r, (.slice o7A0 o7N0 o7C0)] 32))).cell 0 (v := .int .i64 b.l) rfl
    have qv_b1 := ((v_b.ex xp).ex ((Ex.refl o7).alloc (.cells #[.int .i64 a.l, .int .i64 a.r, (.slice o7A0 o7N0 o7C0)] 32))).cell 1 (v := .int .i64 b.r) rfl
    have qv_b2 := ((v_b.ex xp).ex ((Ex.refl o7).alloc (.cells #[.int .i64 a.l, .int .i64 a.r, (.slice o7A0 o7N0 o7C0)] 32))).cell 2 (v := b_0) rfl
    go_wp2_with fail
    clear qv_b0 qv_b1 qv_b2
    have xa := (Ex.refl o7).alloc (.cells #[.int .i64 a.l, .int .i64 a.r, (.slice o7A0 o7N0 o7C0)] 32)
    have vx_a := VB.new o7 32 #[.int .i64 a.l, .int .i64 a.r, (.slice o7A0 o7N0 o7C0)]
    have vx_al := vx_a.lt
    generalize o7.alloc (.cells #[.int .i64 a.l, .int .i64 a.r, (.slice o7A0 o7N0 o7C0)] 32) = o8 at *
    replace xw := xw.trans xa
    replace xp := xp.trans xa
    replace xs := xs.trans xa
    replace xvvw0 := xvvw0.trans xa
    replace fo7 := fo7.ex xa
    have zo8 := xa.size
    clear xa
    refine (toRatRelation_u b b_0 o8 (bh.ex xw)).mono ?_
    rintro e o9 ⟨o9_0, rfl, fo9, xo9⟩
    obtain ⟨o9A0, o9N0, o9C0, rfl⟩ := fo9.rd.form
    replace xw := xw.trans xo9
    replace xp := xp.trans xo9
    replace xs := xs.trans xo9
    replace xvvw0 := xvvw0.trans xo9
    replace fo7 := fo7.ex xo9
    replace vx_a := vx_a.ex xo9
    have zo9 := xo9.size
    have qvx_a0 := (vx_a.ex ((Ex.refl o9).alloc (.cells #[.int .i64 b.l, .int .i64 b.r, (.slice o9A0 o9N0 o9C0)] 32))).cell 0 (v := .int .i64 a.l) rfl
    have qvx_a1 := (vx_a.ex ((Ex.refl o9).alloc (.cells #[.int .i64 b.l, .int .i64 b.r, (.slice o9A0 o9N0 o9C0)] 32))).cell 1 (v := .int .i64 a.r) rfl
    have qvx_a2 := (vx_a.ex ((Ex.refl o9).alloc (.cells #[.int .i64 b.l, .int .i64 b.r, (.slice o9A0 o9N0 o9C0)] 32))).cell 2 (v := (.slice o7A0 o7N0 o7C0)) rfl
    go_wp2_with fail
    clear qvx_a0 qvx_a1 qvx_a2
    have xa := (Ex.refl o9).alloc (.cells #[.int .i64 b.l, .int .i64 b.r, (.slice o9A0 o9N0 o9C0)] 32)
    have vx_b := VB.new o9 32 #[.int .i64 b.l, .int .i64 b.r, (.slice o9A0 o9N0 o9C0)]
    have vx_bl := vx_b.lt
    generalize o9.alloc (.cells #[.int .i64 b.l, .int .i64 b.r, (.slice o9A0 o9N0 o9C0)] 32) = o10 at *
    replace xw := xw.trans xa
    replace xp := xp.trans xa
    replace xs := xs.trans xa
    replace xvvw0 := xvvw0.trans xa
    replace fo7 := fo7.ex xa
    replace vx_a := vx_a.ex xa
    replace fo9 := fo9.ex xa
    have zo10 := xa.size
    clear xa
    refine (ComposeRational_u _  _ _  _ _ o10 fo7.rdc fo9.rdc (ht.ex xw)).mono ?_
    intro e o11 ho11
    rw [Hr.out] at ho11
    obtain ⟨o11r0_0, rfl, fo110, xo11⟩ := ho11
    dsimp only at fo110 ⊢
    obtain ⟨o11r0A0, o11r0N0, o11r0C0, rfl⟩ := fo110.rd.form
    replace xw := xw.trans xo11
    replace xp := xp.trans xo11
    replace xs := xs.trans xo11
    replace xvvw0 := xvvw0.trans xo11
    replace fo7 := fo7.ex xo11
    replace vx_a := vx_a.ex xo11
    replace fo9 := fo9.ex xo11
    replace vx_b := vx_b.ex xo11
    have zo11 := xo11.size
    have qvw00 := ((vw0.ex xvvw0).ex ((Ex.refl o11).alloc (.cells #[.int .i64 r0.l, .int .i64 r0.r, (.slice o11r0A0 o11r0N0 o11r0C0)] 32))).cell 0 (v := .int .i64 r0.l) rfl
    have qvw01 := ((vw0.ex xvvw0).ex ((Ex.refl o11).alloc (.cells #[.int .i64 r0.l, .int .i64 r0.r, (.slice o11r0A0 o11r0N0 o11r0C0)] 32))).cell 1 (v := .int .i64 r0.r) rfl
    have qvw02 := ((vw0.ex xvvw0).ex ((Ex.refl o11).alloc (.cells #[.int .i64 r0.l, .int .i64 r0.r, (.slice o11r0A0 o11r0N0 o11r0C0)] 32))).cell 2 (v := (.slice o6r0A0 o6r0N0 o6r0C0)) rfl
    go_wp2_with fail
    clear qvw00 qvw01 qvw02
    have xa := (Ex.refl o11).alloc (.cells #[.int .i64 r0.l, .int .i64 r0.r, (.slice o11r0A0 o11r0N0 o11r0C0)] 32)
    have vg0 := VB.new o11 32 #[.int .i64 r0.l, .int .i64 r0.r, (.slice o11r0A0 o11r0N0 o11r0C0)]
    have vg0l := vg0.lt
    generalize o11.alloc (.cells #[.int .i64 r0.l, .int .i64 r0.r, (.slice o11r0A0 o11r0N0 o11r0C0)] 32) = o12 at *
    replace xw := xw.trans xa
    replace xp := xp.trans xa
    replace xs := xs.trans xa
    replace xvvw0 := xvvw0.trans xa
    replace fo7 := fo7.ex xa
    replace vx_a := vx_a.ex xa
    replace fo9 := fo9.ex xa
    replace vx_b := vx_b.ex xa
    replace fo110 := fo110.ex xa
    have zo12 := xa.size
    clear xa
    refine (eqRatRelation_u r0 (.slice o11r0A0 o11r0N0 o11r0C0) (.slice o6r0A0 o6r0N0 o6r0C0) o12 fo110.rd (w0_0.ex xs)).mono ?_
    rintro e o13 ⟨rfl, xo13⟩
    replace xw := xw.trans xo13
    replace xp := xp.trans xo13
    replace xs := xs.trans xo13
    replace xvvw0 := xvvw0.trans xo13
    replace fo7 := fo7.ex xo13
    replace vx_a := vx_a.ex xo13
    replace fo9 := fo9.ex xo13
    replace vx_b := vx_b.ex xo13
    replace fo110 := fo110.ex xo13
    replace vg0 := vg0.ex xo13
    have zo13 := xo13.size
    have qvx_a0 := vx_a.cell 0 (v := .int .i64 a.l) rfl
    have qvx_a1 := vx_a.cell 1 (v := .int .i64 a.r) rfl
    have qvx_a2 := vx_a.cell 2 (v := (.slice o7A0 o7N0 o7C0)) rfl
    have qv_a0 := (v_a.ex xp).cell 0 (v := .int .i64 a.l) rfl
    have qv_a1 := (v_a.ex xp).cell 1 (v := .int .i64 a.r) rfl
    have qv_a2 := (v_a.ex xp).cell 2 (v := a_0) rfl
    go_wp2_with fail
    go_region_held3 (fun W => W.cell? ⟨o7.heap.size, 0, none⟩ = some (.int .i64 a.l) ∧ W.cell? ⟨o7.heap.size, 1, none⟩ = some (.int .i64 a.r) ∧ W.cell? ⟨o7.heap.size, 2, none⟩ = some ((.slice o7A0 o7N0 o7C0)) ∧ W.cell? ⟨w.heap.size, 0, none⟩ = some (.int .i64 a.l) ∧ W.cell? ⟨w.heap.size, 1, none⟩ = some (.int .i64 a.r) ∧ W.cell? ⟨w.heap.size, 2, none⟩ = some (a_0)) (first | (exact ⟨(cell_ex xo15 (cell_ex xo14 qvx_a0)), (cell_ex xo15 (cell_ex xo14 qvx_a1)), (cell_ex xo15 (cell_ex xo14 qvx_a2)), (cell_ex xo15 (cell_ex xo14 qv_a0)), (cell_ex xo15 (cell_ex xo14 qv_a1)), (cell_ex xo15 (cell_ex xo14 qv_a2))⟩) | (exact ⟨(cell_ex xo14 qvx_a0), (cell_ex xo14 qvx_a1), (cell_ex xo14 qvx_a2), (cell_ex xo14 qv_a0), (cell_ex xo14 qv_a1), (cell_ex xo14 qv_a2)⟩) | (exact ⟨qvx_a0, qvx_a1, qvx_a2, qv_a0, qv_a1, qv_a2⟩)) (first
      | (go_at_call 11
         refine (toRatRelation_u a a_0 o13.drew (ah.ex xw.drew)).mono ?_
         rintro e o14 ⟨o14_0, rfl, fo14, xo14⟩)
      | (go_at_call 14
         refine (eqRatRelation_u a (.slice o7A0 o7N0 o7C0) o14_0 _ ((fo7.rd.ex (Ex.refl o13).drew).ex xo14) fo14.rd).mono ?_
         rintro e o15 ⟨rfl, xo15⟩))
    have xd : Ex o13 o15 := ((Ex.refl o13).drew.trans xo14).trans xo15
    clear qvx_a0 qvx_a1 qvx_a2 qv_a0 qv_a1 qv_a2 fo14 xo14 xo15
    replace xw := xw.trans xd
    replace xp := xp.trans xd
    replace xs := xs.trans xd
    replace xvvw0 := xvvw0.trans xd
    replace fo7 := fo7.ex xd
    replace vx_a := vx_a.ex xd
    replace fo9 := fo9.ex xd
    replace vx_b := vx_b.ex xd
    replace fo110 := fo110.ex xd
    replace vg0 := vg0.ex xd
    have zo15 := xd.size
    clear xd
    have qvx_b0 := vx_b.cell 0 (v := .int .i64 b.l) rfl
    have qvx_b1 := vx_b.cell 1 (v := .int .i64 b.r) rfl
    have qvx_b2 := vx_b.cell 2 (v := (.slice o9A0 o9N0 o9C0)) rfl
    have qv_b0 := (v_b.ex xp).cell 0 (v := .int .i64 b.l) rfl
    have qv_b1 := (v_b.ex xp).cell 1 (v := .int .i64 b.r) rfl
    have qv_b2 := (v_b.ex xp).cell 2 (v := b_0) rfl
    go_wp2_with fail
    go_region_held3 (fun W => W.cell? ⟨o9.heap.size, 0, none⟩ = some (.int .i64 b.l) ∧ W.cell? ⟨o9.heap.size, 1, none⟩ = some (.int .i64 b.r) ∧ W.cell? ⟨o9.heap.size, 2, none⟩ = some ((.slice o9A0 o9N0 o9C0)) ∧ W.cell? ⟨w.heap.size + 1, 0, none⟩ = some (.int .i64 b.l) ∧ W.cell? ⟨w.heap.size + 1, 1, none⟩ = some (.int .i64 b.r) ∧ W.cell? ⟨w.heap.size + 1, 2, none⟩ = some (b_0)) (first | (exact ⟨(cell_ex xo17 (cell_ex xo16 qvx_b0)), (cell_ex xo17 (cell_ex xo16 qvx_b1)), (cell_ex xo17 (cell_ex xo16 qvx_b2)), (cell_ex xo17 (cell_ex xo16 qv_b0)), (cell_ex xo17 (cell_ex xo16 qv_b1)), (cell_ex xo17 (cell_ex xo16 qv_b2))⟩) | (exact ⟨(cell_ex xo16 qvx_b0), (cell_ex xo16 qvx_b1), (cell_ex xo16 qvx_b2), (cell_ex xo16 qv_b0), (cell_ex xo16 qv_b1), (cell_ex xo16 qv_b2)⟩) | (exact ⟨qvx_b0, qvx_b1, qvx_b2, qv_b0, qv_b1, qv_b2⟩)) (first
      | (go_at_call 11
         refine (toRatRelation_u b b_0 o15.drew (bh.ex xw.drew)).mono ?_
         rintro e o16 ⟨o16_0, rfl, fo16, xo16⟩)
      | (go_at_call 14
         refine (eqRatRelation_u b (.slice o9A0 o9N0 o9C0) o16_0 _ ((fo9.rd.ex (Ex.refl o15).drew).ex xo16) fo16.rd).mono ?_
         rintro e o17 ⟨rfl, xo17⟩))
    have xd : Ex o15 o17 := ((Ex.refl o15).drew.trans xo16).trans xo17
    clear qvx_b0 qvx_b1 qvx_b2 qv_b0 qv_b1 qv_b2 fo16 xo16 xo17
    replace xw := xw.trans xd
    replace xp := xp.trans xd
    replace xs := xs.trans xd
    replace xvvw0 := xvvw0.trans xd
    replace fo7 := fo7.ex xd
    replace vx_a := vx_a.ex xd
    replace fo9 := fo9.ex xd
    replace vx_b := vx_b.ex xd
    replace fo110 := fo110.ex xd
    replace vg0 := vg0.ex xd
    have zo17 := xd.size
    clear xd
    have qvx_a0 := vx_a.cell 0 (v := .int .i64 a.l) rfl
    have qvx_a1 := vx_a.cell 1 (v := .int .i64 a.r) rfl
    have qvx_a2 := vx_a.cell 2 (v := (.slice o7A0 o7N0 o7C0)) rfl
    go_wp2_with fail
    clear qvx_a0 qvx_a1 qvx_a2
    refine (markRatRelation_u (o6.heap.size) (o7.heap.size) a (.slice o7A0 o7N0 o7C0) (1) o17 fo7 (by omega) (by omega) (by omega)).mono ?_
    rintro e o18 ⟨rfl, mo18, io18⟩
    clear fo7
    replace xw := xw.iv io18 (by omega)
    replace xp := xp.iv io18 (by omega)
    replace xs := xs.iv io18 (by omega)
    replace xvvw0 := xvvw0.iv io18 (by omega)
    replace vx_a := vx_a.iv io18 (by omega)
    replace fo9 := fo9.iv io18 (by omega)
    replace vx_b := vx_b.iv io18 (by omega)
    replace fo110 := fo110.iv io18 (by omega)
    replace vg0 := vg0.iv io18 (by omega)
    have zo18 := io18.size
    clear mo18
    clear vx_a
    have qvx_b0 := vx_b.cell 0 (v := .int .i64 b.l) rfl
    have qvx_b1 := vx_b.cell 1 (v := .int .i64 b.r) rfl
    have qvx_b2 := vx_b.cell 2 (v := (.slice o9A0 o9N0 o9C0)) rfl
    go_wp2_with fail
    clear qvx_b0 qvx_b1 qvx_b2
    refine (markRatRelation_u (o8.heap.size) (o9.heap.size) b (.slice o9A0 o9N0 o9C0) (1 + totRRel a) o18 fo9 (by omega) (by omega) (by omega)).mono ?_
    rintro e o19 ⟨rfl, mo19, io19⟩
    clear fo9
    replace xw := xw.iv io19 (by omega)
    replace xp := xp.iv io19 (by omega)
    replace xs := xs.iv io19 (by omega)
    replace xvvw0 := xvvw0.iv io19 (by omega)
    replace vx_b := vx_b.iv io19 (by omega)
    replace fo110 := fo110.iv io19 (by omega)
    replace vg0 := vg0.iv io19 (by omega)
    have zo19 := io19.size
    clear mo19
    clear vx_b
    have qvg00 := vg0.cell 0 (v := .int .i64 r0.l) rfl
    have qvg01 := vg0.cell 1 (v := .int .i64 r0.r) rfl
    have qvg02 := vg0.cell 2 (v := (.slice o11r0A0 o11r0N0 o11r0C0)) rfl
    have qvw00 := (vw0.ex xvvw0).cell 0 (v := .int .i64 r0.l) rfl
    have qvw01 := (vw0.ex xvvw0).cell 1 (v := .int .i64 r0.r) rfl
    have qvw02 := (vw0.ex xvvw0).cell 2 (v := (.slice o6r0A0 o6r0N0 o6r0C0)) rfl
    go_wp2_with fail
    clear qvg00 qvg01 qvg02 qvw00 qvw01 qvw02
    refine (eqRatRelation_u r0 (.slice o11r0A0 o11r0N0 o11r0C0) (.slice o6r0A0 o6r0N0 o6r0C0) o19 fo110.rd (w0_0.ex xs)).mono ?_
    rintro e o20 ⟨rfl, xo20⟩
    replace xw := xw.trans xo20
    replace xp := xp.trans xo20
    replace xs := xs.trans xo20
    replace xvvw0 := xvvw0.trans xo20
    replace fo110 := fo110.ex xo20
    replace vg0 := vg0.ex xo20
    have zo20 := xo20.size
    have qvg00 := vg0.cell 0 (v := .int .i64 r0.l) rfl
    have qvg01 := vg0.cell 1 (v := .int .i64 r0.r) rfl
    have qvg02 := vg0.cell 2 (v := (.slice o11r0A0 o11r0N0 o11r0C0)) rfl
    go_wp2_with fail
    clear qvg00 qvg01 qvg02
    refine (markRatRelation_u (o10.heap.size) (o11.heap.size) r0 (.slice o11r0A0 o11r0N0 o11r0C0) (1) o20 fo110 (by omega) (by omega) (by omega)).mono ?_
    rintro e o21 ⟨rfl, mo21, io21⟩
    clear fo110
    replace xw := xw.iv io21 (by omega)
    replace xp := xp.iv io21 (by omega)
    replace xs := xs.iv io21 (by omega)
    replace xvvw0 := xvvw0.iv io21 (by omega)
    replace vg0 := vg0.iv io21 (by omega)
    have zo21 := io21.size
    have qvg00 := vg0.cell 0 (v := .int .i64 r0.l) rfl
    have qvg01 := vg0.cell 1 (v := .int .i64 r0.r) rfl
    have qvg02 := vg0.cell 2 (v := (.slice o11r0A0 o11r0N0 o11r0C0)) rfl
    go_wp2_with fail
    clear qvg00 qvg01 qvg02
    refine (heldRatRelation_u r0 (.slice o11r0A0 o11r0N0 o11r0C0) (1) o21 mo21.rd (by omega) (by omega)).mono ?_
    rintro e o22 ⟨rfl, xo22⟩
    replace xw := xw.trans xo22
    replace xp := xp.trans xo22
    replace xs := xs.trans xo22
    replace xvvw0 := xvvw0.trans xo22
    replace vg0 := vg0.ex xo22
    replace mo21 := mo21.ex xo22
    have zo22 := xo22.size
    have qv_a0 := (v_a.ex xp).cell 0 (v := .int .i64 a.l) rfl
    have qv_a1 := (v_a.ex xp).cell 1 (v := .int .i64 a.r) rfl
    have qv_a2 := (v_a.ex xp).cell 2 (v := a_0) rfl
    have qv_b0 := (v_b.ex xp).cell 0 (v := .int .i64 b.l) rfl
    have qv_b1 := (v_b.ex xp).cell 1 (v := .int .i64 b.r) rfl
    have qv_b2 := (v_b.ex xp).cell 2 (v := b_0) rfl
    go_wp2_with fail
    have HS : ∀ W, Ex o22 W → (Ex o22 W ∧ W.cell? ⟨w.heap.size, 0, none⟩ = some (.int .i64 a.l) ∧ W.cell? ⟨w.heap.size, 1, none⟩ = some (.int .i64 a.r) ∧ W.cell? ⟨w.heap.size, 2, none⟩ = some (a_0) ∧ W.cell? ⟨w.heap.size + 1, 0, none⟩ = some (.int .i64 b.l) ∧ W.cell? ⟨w.heap.size + 1, 1, none⟩ = some (.int .i64 b.r) ∧ W.cell? ⟨w.heap.size + 1, 2, none⟩ = some (b_0)) := fun W h => ⟨h, cell_ex h qv_a0, cell_ex h qv_a1, cell_ex h qv_a2, cell_ex h qv_b0, cell_ex h qv_b1, cell_ex h qv_b2⟩
    go_cut [17, 18] from 19 (fun s17 s18 W => ∃ (Go230 : Nat) (o23r0_0 : Value), s17 = .pointer (some ⟨Go230, 0, none⟩) ∧ s18 = .bool r1 ∧ VB W Go230 32 #[.int .i64 r0.l, .int .i64 r0.r, o23r0_0] ∧ RRRel W o23r0_0 r0 ∧ Ex o22 W)
    case first =>
      go_region_held3 (fun W => Ex o22 W ∧ W.cell? ⟨w.heap.size, 0, none⟩ = some (.int .i64 a.l) ∧ W.cell? ⟨w.heap.size, 1, none⟩ = some (.int .i64 a.r) ∧ W.cell? ⟨w.heap.size, 2, none⟩ = some (a_0) ∧ W.cell? ⟨w.heap.size + 1, 0, none⟩ = some (.int .i64 b.l) ∧ W.cell? ⟨w.heap.size + 1, 1, none⟩ = some (.int .i64 b.r) ∧ W.cell? ⟨w.heap.size + 1, 2, none⟩ = some (b_0)) (first | (exact HS _ (ex_stores3 ho23 (by first | exact Nat.le_refl _ | exact ho24.size | exact ho25.size | exact ho23.size))) | (exact HS _ (ho23.alloc _)) | (exact HS _ (ho25.alloc _)) | (exact HS _ (ho24.alloc _)) | (exact HS _ (((Ex.refl o22).drew).alloc _)) | (exact HS _ ((Ex.refl o22).alloc _)) | (exact HS _ ((Ex.refl o22).alloc _).drew) | (exact HS _ ho23) | (exact HS _ ho25) | (exact HS _ ho24) | (exact HS _ (Ex.refl o22).drew)) (first
        | (go_at_call_of 11 (Value.agg #[.int .i64 a.l, .int .i64 a.r, a_0])
           have hb := (‹Ex o22 _ ∧ _›).1
           refine (toRatRelation_u a a_0 _ (ah.ex (xw.trans hb))).mono ?_
           rintro e o24 ⟨o24_0, rfl, fo24, xo24⟩
           replace fo24 := fo24.rdc
           have ho24 := hb.trans xo24
           clear hb
           first | (have vz := (VB.new (o22) 32 #[.int .i64 0, .int .i64 0, .slice none 0 0]).drew.ex xo24) | (have vz := (VB.new (o22.drew) 32 #[.int .i64 0, .int .i64 0, .slice none 0 0]).ex xo24) | (replace vz := vz.ex xo24) | skip)
        | (go_at_call_of 11 (Value.agg #[.int .i64 b.l, .int .i64 b.r, b_0])
           have hb := (‹Ex o22 _ ∧ _›).1
           refine (toRatRelation_u b b_0 _ (bh.ex (xw.trans hb))).mono ?_
           rintro e o25 ⟨o25_0, rfl, fo25, xo25⟩
           replace fo25 := fo25.rdc
           have ho25 := hb.trans xo25
           clear hb
           replace fo24 := fo24.ex (by first | exact xo25 | exact ((Ex.refl o24).alloc _).trans xo25)
           first | (have vz := (VB.new (o22) 32 #[.int .i64 0, .int .i64 0, .slice none 0 0]).drew.ex xo25) | (have vz := (VB.new (o24) 32 #[.int .i64 0, .int .i64 0, .slice none 0 0]).ex xo25) | (replace vz := vz.ex xo25) | skip)
        | (go_at_call 29
           have hb := (‹Ex o22 _ ∧ _›).1
           have sl := (VB.new o25 32 #[.int .i64 0, .int .i64 0, .slice none 0 0]).lt
           try have vl := vz.lt
           first | (have hc := Ex.refl o25; refine (ComposeRational_u _  _ _  _ _ _ (fo24.ex hc) (fo25.ex hc) (ht.ex (xw.trans hb))).mono ?_) | (have hc := (Ex.refl o25).alloc (.cells #[.int .i64 0, .int .i64 0, .slice none 0 0] 32); refine (ComposeRational_u _  _ _  _ _ _ (fo24.ex hc) (fo25.ex hc) (ht.ex (xw.trans hb))).mono ?_)
           intro e o23 ho23
           rw [Hr.out] at ho23
           obtain ⟨o23r0_0, rfl, fo230, xo23⟩ := ho23
           dsimp only at fo230 ⊢
           obtain ⟨o23r0A0, o23r0N0, o23r0C0, rfl⟩ := fo230.rd.form
           have ho23 := hb.trans xo23
           clear hb
           first | (have vz := (VB.new (o25) 32 #[.int .i64 0, .int .i64 0, .slice none 0 0]).ex xo23) | (replace vz := vz.ex xo23) | skip
           try (have zc0 := vz.cell 0 (v := .int .i64 0) rfl; have zf0 := vz.frozen 0; have zc1 := vz.cell 1 (v := .int .i64 0) rfl; have zf1 := vz.frozen 1; have zc2 := vz.cell 2 (v := .slice none 0 0) rfl; have zf2 := vz.frozen 2)))
      all_goals
        go_wp2_with fail
        go_meet
        first | exact ⟨_, _, rfl, rfl, VB.new _ _ _, fo230.rd.ex ((Ex.refl _).alloc _), (‹Ex o22 _ ∧ _›).1⟩ | (obtain ⟨dd, zz⟩ := vz.st3 (.int .i64 r0.l) (.int .i64 r0.r) ((.slice o23r0A0 o23r0N0 o23r0C0)); exact ⟨_, _, rfl, rfl, dd, (fo230.e1 zz (by omega)).rd, (‹Ex o22 _ ∧ _›).1⟩)
    case rest =>
      obtain ⟨o26, rfl⟩ : ∃ q, q = wc := ⟨_, rfl⟩
      obtain ⟨Go26, o23r0_0, rfl, rfl, vh0, rd_fo230, xd⟩ := hcut
      clear qv_a0 qv_a1 qv_a2 qv_b0 qv_b1 qv_b2 HS
      replace xw := xw.trans xd
      replace xp := xp.trans xd
      replace xs := xs.trans xd
      replace xvvw0 := xvvw0.trans xd
      replace vg0 := vg0.ex xd
      replace mo21 := mo21.ex xd
      have zo26 := xd.size
      clear xd
      obtain ⟨o26r0A0, o26r0N0, o26r0C0, rfl⟩ := rd_fo230.form
      have qvh00 := vh0.cell 0 (v := .int .i64 r0.l) rfl
      have qvh01 := vh0.cell 1 (v := .int .i64 r0.r) rfl
      have qvh02 := vh0.cell 2 (v := (.slice o26r0A0 o26r0N0 o26r0C0)) rfl
      have qvw00 := (vw0.ex xvvw0).cell 0 (v := .int .i64 r0.l) rfl
      have qvw01 := (vw0.ex xvvw0).cell 1 (v := .int .i64 r0.r) rfl
      have qvw02 := (vw0.ex xvvw0).cell 2 (v := (.slice o6r0A0 o6r0N0 o6r0C0)) rfl
      go_wp2_with fail
      clear qvh00 qvh01 qvh02 qvw00 qvw01 qvw02
      refine (eqRatRelation_u r0 (.slice o26r0A0 o26r0N0 o26r0C0) (.slice o6r0A0 o6r0N0 o6r0C0) o26 rd_fo230 (w0_0.ex xs)).mono ?_
      rintro e o27 ⟨rfl, xo27⟩
      replace xw := xw.trans xo27
      replace xp := xp.trans xo27
      replace xs := xs.trans xo27
      replace xvvw0 := xvvw0.trans xo27
      replace vg0 := vg0.ex xo27
      replace mo21 := mo21.ex xo27
      replace rd_fo230 := rd_fo230.ex xo27
      replace vh0 := vh0.ex xo27
      have zo27 := xo27.size
      have qvg00 := vg0.cell 0 (v := .int .i64 r0.l) rfl
      have qvg01 := vg0.cell 1 (v := .int .i64 r0.r) rfl
      have qvg02 := vg0.cell 2 (v := (.slice o11r0A0 o11r0N0 o11r0C0)) rfl
      go_wp2_with fail
      clear qvg00 qvg01 qvg02
      refine (heldRatRelation_u r0 (.slice o11r0A0 o11r0N0 o11r0C0) (1) o27 mo21.rd (by omega) (by omega)).mono ?_
      rintro e o28 ⟨rfl, xo28⟩
      replace xw := xw.trans xo28
      replace xp := xp.trans xo28
      replace xs := xs.trans xo28
      replace xvvw0 := xvvw0.trans xo28
      replace vg0 := vg0.ex xo28
      replace mo21 := mo21.ex xo28
      replace rd_fo230 := rd_fo230.ex xo28
      replace vh0 := vh0.ex xo28
      have zo28 := xo28.size
      clear Hr
      go_wp2
      all_goals go_ret
      exact ⟨rfl, xw⟩
end Go.Proofs.YtpeogfapnofeoaaGreatDoor
