/- The law on FractionAdd: the program's answer is the reference's, for all arguments; the walk of the law's own text. No conditions. -/
import Derived.Test.YtpiplogjbeofoaaDoorFrac12
import Derived.Test.YtpiplogjbeofoaaDoorLawFrac2
import Derived.RegionCalls
import Derived.Deep.RegionWith
import Derived.Deep.RegionHeld3
import Derived.Deep.Cut
namespace Go.Proofs.YtpiplogjbeofoaaDoor
set_option maxRecDepth 100000
open Go Go.RowKit
set_option maxHeartbeats 4000000 in
set_option maxRecDepth 100000 in
theorem lawFractionAdd_big1 (p : Int) (xA xB : Option Addr) (xc xe xy xz : Nat) (yA yB : Option Addr) (yc ye yy yz : Nat) (w : World) (hbig : 1048576 < (xy : Int) + (xz : Int)) (hmxy : xy ≤ 9223372036854775807) (hmxz : xz ≤ 9223372036854775807) :
    Calls Tryd.prog 14 #[.int .i64 p, .agg #[.slice xA xy xc, .slice xB xz xe], .agg #[.slice yA yy yc, .slice yB yz ye]] w fun e w' => e = .returned (.bool true) ∧ Ex w w' := by
  have xw := (Ex.refl w).alloc (.cells #[.slice xA xy xc, .slice xB xz xe] 33)
  have v_x := VB.new w 33 #[.slice xA xy xc, .slice xB xz xe]
  have S0 := Lib.hid (show (w.alloc (.cells #[.slice xA xy xc, .slice xB xz xe] 33)).heap.size = w.heap.size + 1 by simp)
  go_enter Tryd.func14, Tryd.ntmps14
  go_wp2_with fail
  generalize w.alloc (.cells #[.slice xA xy xc, .slice xB xz xe] 33) = Wp0 at *
  have yw := (Ex.refl Wp0).alloc (.cells #[.slice yA yy yc, .slice yB yz ye] 33)
  have v_y := VB.new Wp0 33 #[.slice yA yy yc, .slice yB yz ye]
  rw [S0.out] at v_y
  replace v_x := v_x.ex yw
  replace xw := xw.trans yw
  generalize Wp0.alloc (.cells #[.slice yA yy yc, .slice yB yz ye] 33) = Wp1 at *
  refine (szFraction_big xA xB xc xe xy xz (1048576) Wp1 (by omega) hmxy hmxz (by omega) (by omega)).mono ?_
  rintro e wz ⟨rfl, xz⟩
  go_wp2
  go_ret
  exact ⟨rfl, xw.trans xz⟩
set_option maxHeartbeats 4000000 in
set_option maxRecDepth 100000 in
theorem lawFractionAdd_big2 (p : Int) (xA xB : Option Addr) (xc xe xy xz : Nat) (yA yB : Option Addr) (yc ye yy yz : Nat) (w : World) (hokx : (xy : Int) + (xz : Int) ≤ 1048576) (hbig : 1048576 - (xy : Int) - (xz : Int) < (yy : Int) + (yz : Int)) (hmxy : xy ≤ 9223372036854775807) (hmxz : xz ≤ 9223372036854775807) (hmyy : yy ≤ 9223372036854775807) (hmyz : yz ≤ 9223372036854775807) :
    Calls Tryd.prog 14 #[.int .i64 p, .agg #[.slice xA xy xc, .slice xB xz xe], .agg #[.slice yA yy yc, .slice yB yz ye]] w fun e w' => e = .returned (.bool true) ∧ Ex w w' := by
  have xw := (Ex.refl w).alloc (.cells #[.slice xA xy xc, .slice xB xz xe] 33)
  have v_x := VB.new w 33 #[.slice xA xy xc, .slice xB xz xe]
  have S0 := Lib.hid (show (w.alloc (.cells #[.slice xA xy xc, .slice xB xz xe] 33)).heap.size = w.heap.size + 1 by simp)
  go_enter Tryd.func14, Tryd.ntmps14
  go_wp2_with fail
  generalize w.alloc (.cells #[.slice xA xy xc, .slice xB xz xe] 33) = Wp0 at *
  have yw := (Ex.refl Wp0).alloc (.cells #[.slice yA yy yc, .slice yB yz ye] 33)
  have v_y := VB.new Wp0 33 #[.slice yA yy yc, .slice yB yz ye]
  rw [S0.out] at v_y
  replace v_x := v_x.ex yw
  replace xw := xw.trans yw
  generalize Wp0.alloc (.cells #[.slice yA yy yc, .slice yB yz ye] 33) = Wp1 at *
  refine (szFraction_ok xA xB xc xe xy xz (1048576) Wp1 (by omega) (by omega)).mono ?_
  rintro e wsx ⟨rfl, xsx⟩
  replace v_x := v_x.ex xsx
  replace v_y := v_y.ex xsx
  replace xw := xw.trans xsx
  have qv_y0 := v_y.cell 0 (v := .slice yA yy yc) rfl
  have qv_y1 := v_y.cell 1 (v := .slice yB yz ye) rfl
  go_wp2_with fail
  clear qv_y0 qv_y1
  refine (szFraction_big yA yB yc ye yy yz (1048576 - (xy : Int) - (xz : Int)) wsx (by omega) hmyy hmyz (by omega) (by omega)).mono ?_
  rintro e wz ⟨rfl, xz⟩
  go_wp2
  go_ret
  exact ⟨rfl, xw.trans xz⟩
set_option maxHeartbeats 4000000 in
set_option maxRecDepth 100000 in
theorem lawFractionAdd_walk (p : Int) (xA xB : Option Addr) (xc xe : Nat) (xn xd : List Int) (yA yB : Option Addr) (yc ye : Nat) (yn yd : List Int) (w : World) (xh : Rd w xA xn) (xk : Rd w xB xd) (yh : Rd w yA yn) (yk : Rd w yB yd) (hl : (xn.length : Int) + (xd.length : Int) + (yn.length : Int) + (yd.length : Int) ≤ 1048576) (ht : Tb w) :
    Calls Tryd.prog 14 #[.int .i64 p, .agg #[.slice xA xn.length xc, .slice xB xd.length xe], .agg #[.slice yA yn.length yc, .slice yB yd.length ye]] w fun e w' => e = .returned (.bool true) ∧ Ex w w' := by
  obtain ⟨r0n, r0d, r1, hr⟩ : ∃ r0n r0d r1, addR p xn xd yn yd = (r0n, r0d, r1) := ⟨_, _, _, rfl⟩
  have Hr := Lib.hid hr
  clear hr
  have xw := (Ex.refl w).alloc (.cells #[.slice xA xn.length xc, .slice xB xd.length xe] 33)
  have v_x := VB.new w 33 #[.slice xA xn.length xc, .slice xB xd.length xe]
  have S0 := Lib.hid (show (w.alloc (.cells #[.slice xA xn.length xc, .slice xB xd.length xe] 33)).heap.size = w.heap.size + 1 by simp)
  go_enter Tryd.func14, Tryd.ntmps14
  go_wp2_with fail
  generalize w.alloc (.cells #[.slice xA xn.length xc, .slice xB xd.length xe] 33) = Wp0 at *
  have yw := (Ex.refl Wp0).alloc (.cells #[.slice yA yn.length yc, .slice yB yd.length ye] 33)
  have v_y := VB.new Wp0 33 #[.slice yA yn.length yc, .slice yB yd.length ye]
  rw [S0.out] at v_y
  replace v_x := v_x.ex yw
  replace xw := xw.trans yw
  generalize Wp0.alloc (.cells #[.slice yA yn.length yc, .slice yB yd.length ye] 33) = Wp1 at *
  have zWp := xw.size
  have xp := Ex.refl Wp1
  refine (szFraction_ok xA xB xc xe xn.length xd.length (1048576) Wp1 (by omega) (by omega)).mono ?_
  rintro e o1 ⟨rfl, xo1⟩
  replace xw := xw.trans xo1
  replace xp := xp.trans xo1
  have zo1 := xo1.size
  have qv_y0 := (v_y.ex xp).cell 0 (v := .slice yA yn.length yc) rfl
  have qv_y1 := (v_y.ex xp).cell 1 (v := .slice yB yd.length ye) rfl
  go_wp2_with fail
  clear qv_y0 qv_y1
  refine (szFraction_ok yA yB yc ye yn.length yd.length (1048576 - (xn.length : Int) - (xd.length : Int)) o1 (by omega) (by omega)).mono ?_
  rintro e o2 ⟨rfl, xo2⟩
  replace xw := xw.trans xo2
  replace xp := xp.trans xo2
  have zo2 := xo2.size
  have qv_x0 := (v_x.ex xp).cell 0 (v := .slice xA xn.length xc) rfl
  have qv_x1 := (v_x.ex xp).cell 1 (v := .slice xB xd.length xe) rfl
  have qv_y0 := (v_y.ex xp).cell 0 (v := .slice yA yn.length yc) rfl
  have qv_y1 := (v_y.ex xp).cell 1 (v := .slice yB yd.length ye) rfl
  go_wp2_with fail
  have HS : ∀ W, Ex o2 W → (Ex o2 W ∧ W.cell? ⟨w.heap.size, 0, none⟩ = some (.slice xA xn.length xc) ∧ W.cell? ⟨w.heap.size, 1, none⟩ = some (.slice xB xd.length xe) ∧ W.cell? ⟨w.heap.size + 1, 0, none⟩ = some (.slice yA yn.length yc) ∧ W.cell? ⟨w.heap.size + 1, 1, none⟩ = some (.slice yB yd.length ye)) := fun W h => ⟨h, cell_ex h qv_x0, cell_ex h qv_x1, cell_ex h qv_y0, cell_ex h qv_y1⟩
  go_cut [8, 9] from 19 (fun s8 s9 W => ∃ (Go30 : Nat) (Ao3 : Option Addr) (co3 : Nat) (Bo3 : Option Addr) (do3 : Nat), s8 = .pointer (some ⟨Go30, 0, none⟩) ∧ s9 = .bool r1 ∧ VB W Go30 37 #[.slice Ao3 r0n.length co3, .slice Bo3 r0d.length do3] ∧ Rd W Ao3 r0n ∧ Rd W Bo3 r0d ∧ Ex o2 W)
  case first =>
    go_region_held3 (fun W => Ex o2 W ∧ W.cell? ⟨w.heap.size, 0, none⟩ = some (.slice xA xn.length xc) ∧ W.cell? ⟨w.heap.size, 1, none⟩ = some (.slice xB xd.length xe) ∧ W.cell? ⟨w.heap.size + 1, 0, none⟩ = some (.slice yA yn.length yc) ∧ W.cell? ⟨w.heap.size + 1, 1, none⟩ = some (.slice yB yd.length ye)) (first | (exact HS _ (ex_store2 ho3 (by first | exact Nat.le_refl _ | exact ho4.size | exact ho5.size | exact ho3.size))) | (exact HS _ (ho3.alloc _)) | (exact HS _ (ho5.alloc _)) | (exact HS _ (ho4.alloc _)) | (exact HS _ (((Ex.refl o2).drew).alloc _)) | (exact HS _ ((Ex.refl o2).alloc _)) | (exact HS _ ((Ex.refl o2).alloc _).drew) | (exact HS _ ho3) | (exact HS _ ho5) | (exact HS _ ho4) | (exact HS _ (Ex.refl o2).drew)) (first
      | (go_at_call_of 22 (Value.agg #[.slice xA xn.length xc, .slice xB xd.length xe])
         have hb := (‹Ex o2 _ ∧ _›).1
         refine (toFraction_c xA xB xc xe xn xd _ (xh.ex (xw.trans hb)) (xk.ex (xw.trans hb))).mono ?_
         rintro e o4 ⟨Ao4, co4, Bo4, do4, rfl, fo4, ko4, apo4, xo4⟩
         replace fo4 := fo4.rd
         replace ko4 := ko4.rd
         have ho4 := hb.trans xo4
         clear hb
         first | (have vz := (VB.new (o2) 37 #[.slice none 0 0, .slice none 0 0]).drew.ex xo4) | (have vz := (VB.new (o2.drew) 37 #[.slice none 0 0, .slice none 0 0]).ex xo4) | (replace vz := vz.ex xo4) | skip)
      | (go_at_call_of 22 (Value.agg #[.slice yA yn.length yc, .slice yB yd.length ye])
         have hb := (‹Ex o2 _ ∧ _›).1
         refine (toFraction_c yA yB yc ye yn yd _ (yh.ex (xw.trans hb)) (yk.ex (xw.trans hb))).mono ?_
         rintro e o5 ⟨Ao5, co5, Bo5, do5, rfl, fo5, ko5, apo5, xo5⟩
         replace fo5 := fo5.rd
         replace ko5 := ko5.rd
         have ho5 := hb.trans xo5
         clear hb
         replace fo4 := fo4.ex (by first | exact xo5 | exact ((Ex.refl o4).alloc _).trans xo5)
         replace ko4 := ko4.ex (by first | exact xo5 | exact ((Ex.refl o4).alloc _).trans xo5)
         first | (have vz := (VB.new (o2) 37 #[.slice none 0 0, .slice none 0 0]).drew.ex xo5) | (have vz := (VB.new (o4) 37 #[.slice none 0 0, .slice none 0 0]).ex xo5) | (replace vz := vz.ex xo5) | skip)
      | (go_at_call 59
         have hb := (‹Ex o2 _ ∧ _›).1
         have sl := (VB.new o5 37 #[.slice none 0 0, .slice none 0 0]).lt
         try have vl := vz.lt
         first | (have hc := Ex.refl o5; refine (spFractionAdd_c _  _ _ _ _ _ _  _ _ _ _ _ _ _ (fo4.ex hc) (ko4.ex hc) (fo5.ex hc) (ko5.ex hc)).mono ?_) | (have hc := (Ex.refl o5).alloc (.cells #[.slice none 0 0, .slice none 0 0] 37); refine (spFractionAdd_c _  _ _ _ _ _ _  _ _ _ _ _ _ _ (fo4.ex hc) (ko4.ex hc) (fo5.ex hc) (ko5.ex hc)).mono ?_)
         intro e o3 ho3
         rw [Hr.out] at ho3
         obtain ⟨Ao3, co3, Bo3, do3, rfl, fo3, ko3, apo3, xo3⟩ := ho3
         dsimp only at fo3 ko3 ⊢
         have ho3 := hb.trans xo3
         clear hb
         first | (have vz := (VB.new (o5) 37 #[.slice none 0 0, .slice none 0 0]).ex xo3) | (replace vz := vz.ex xo3) | skip
         try (have zc0 := vz.cell 0 (v := .slice none 0 0) rfl; have zc1 := vz.cell 1 (v := .slice none 0 0) rfl; have zf0 := vz.frozen 0; have zf1 := vz.frozen 1)))
    all_goals
      go_wp2_with fail
      go_meet
      first | exact ⟨_, _, _, _, _, rfl, rfl, VB.new _ _ _, fo3.rd.ex ((Ex.refl _).alloc _), ko3.rd.ex ((Ex.refl _).alloc _), (‹Ex o2 _ ∧ _›).1⟩ | (obtain ⟨dd, zz⟩ := st2 vz (.slice Ao3 r0n.length co3) (.slice Bo3 r0d.length do3); exact ⟨_, _, _, _, _, rfl, rfl, dd, (fo3.ex1 zz (fo3.hi.off (by omega))).rd, (ko3.ex1 zz (ko3.hi.off (by omega))).rd, (‹Ex o2 _ ∧ _›).1⟩)
  case rest =>
    obtain ⟨o6, rfl⟩ : ∃ q, q = wc := ⟨_, rfl⟩
    obtain ⟨Go6, Ao3, co3, Bo3, do3, rfl, rfl, vw0, rd_fo3, rd_ko3, xd⟩ := hcut
    clear qv_x0 qv_x1 qv_y0 qv_y1 HS
    replace xw := xw.trans xd
    replace xp := xp.trans xd
    have zo6 := xd.size
    clear xd
    have w0_rd_fo3 := rd_fo3
    clear rd_fo3
    have w0_rd_ko3 := rd_ko3
    clear rd_ko3
    have lnrd_fo3 := w0_rd_fo3.len
    have lnrd_ko3 := w0_rd_ko3.len
    have xs := Ex.refl o6
    have xv := Ex.refl o6
    have qv_x0 := (v_x.ex xp).cell 0 (v := .slice xA xn.length xc) rfl
    have qv_x1 := (v_x.ex xp).cell 1 (v := .slice xB xd.length xe) rfl
    go_wp2_with fail
    clear qv_x0 qv_x1
    refine (toFraction_c xA xB xc xe xn xd o6 (xh.ex xw) (xk.ex xw)).mono ?_
    rintro e o7 ⟨Ao7, co7, Bo7, do7, rfl, fo7, ko7, apo7, xo7⟩
    replace fo7 := fo7.fi
    replace ko7 := ko7.fi
    replace xw := xw.trans xo7
    replace xp := xp.trans xo7
    replace xs := xs.trans xo7
    replace xv := xv.trans xo7
    have zo7 := xo7.size
    have qv_y0 := ((v_y.ex xp).ex ((Ex.refl o7).alloc (.cells #[.slice Ao7 xn.length co7, .slice Bo7 xd.length do7] 37))).cell 0 (v := .slice yA yn.length yc) rfl
    have qv_y1 := ((v_y.ex xp).ex ((Ex.refl o7).alloc (.cells #[.slice Ao7 xn.length co7, .slice Bo7 xd.length do7] 37))).cell 1 (v := .slice yB yd.length ye) rfl
    go_wp2_with fail
    clear qv_y0 qv_y1
    have xa := (Ex.refl o7).alloc (.cells #[.slice Ao7 xn.length co7, .slice Bo7 xd.length do7] 37)
    have vx_x := VB.new o7 37 #[.slice Ao7 xn.length co7, .slice Bo7 xd.length do7]
    have vx_xl := vx_x.lt
    generalize o7.alloc (.cells #[.slice Ao7 xn.length co7, .slice Bo7 xd.length do7] 37) = o8 at *
    replace xw := xw.trans xa
    replace xp := xp.trans xa
    replace xs := xs.trans xa
    replace xv := xv.trans xa
    replace fo7 := fo7.ex xa
    replace ko7 := ko7.ex xa
    have zo8 := xa.size
    clear xa
    refine (toFraction_c yA yB yc ye yn yd o8 (yh.ex xw) (yk.ex xw)).mono ?_
    rintro e o9 ⟨Ao9, co9, Bo9, do9, rfl, fo9, ko9, apo9, xo9⟩
    replace fo9 := fo9.fi
    replace ko9 := ko9.fi
    replace xw := xw.trans xo9
    replace xp := xp.trans xo9
    replace xs := xs.trans xo9
    replace xv := xv.trans xo9
    replace fo7 := fo7.ex xo9
    replace ko7 := ko7.ex xo9
    replace vx_x := vx_x.ex xo9
    have zo9 := xo9.size
    have qvx_x0 := (vx_x.ex ((Ex.refl o9).alloc (.cells #[.slice Ao9 yn.length co9, .slice Bo9 yd.length do9] 37))).cell 0 (v := .slice Ao7 xn.length co7) rfl
    have qvx_x1 := (vx_x.ex ((Ex.refl o9).alloc (.cells #[.slice Ao9 yn.length co9, .slice Bo9 yd.length do9] 37))).cell 1 (v := .slice Bo7 xd.length do7) rfl
    go_wp2_with fail
    clear qvx_x0 qvx_x1
    have xa := (Ex.refl o9).alloc (.cells #[.slice Ao9 yn.length co9, .slice Bo9 yd.length do9] 37)
    have vx_y := VB.new o9 37 #[.slice Ao9 yn.length co9, .slice Bo9 yd.length do9]
    have vx_yl := vx_y.lt
    generalize o9.alloc (.cells #[.slice Ao9 yn.length co9, .slice Bo9 yd.length do9] 37) = o10 at *
    replace xw := xw.trans xa
    replace xp := xp.trans xa
    replace xs := xs.trans xa
    replace xv := xv.trans xa
    replace fo7 := fo7.ex xa
    replace ko7 := ko7.ex xa
    replace vx_x := vx_x.ex xa
    replace fo9 := fo9.ex xa
    replace ko9 := ko9.ex xa
    have zo10 := xa.size
    clear xa
    refine (FractionAdd_c _  _ _ _ _ _ _  _ _ _ _ _ _ o10 fo7.rd ko7.rd fo9.rd ko9.rd (ht.ex xw)).mono ?_
    intro e o11 ho11
    rw [Hr.out] at ho11
    obtain ⟨Ao11, co11, Bo11, do11, rfl, fo11, ko11, apo11, xo11⟩ := ho11
    dsimp only at fo11 ko11 ⊢
    replace fo11 := fo11.fi
    replace ko11 := ko11.fi
    replace xw := xw.trans xo11
    replace xp := xp.trans xo11
    replace xs := xs.trans xo11
    replace xv := xv.trans xo11
    replace fo7 := fo7.ex xo11
    replace ko7 := ko7.ex xo11
    replace vx_x := vx_x.ex xo11
    replace fo9 := fo9.ex xo11
    replace ko9 := ko9.ex xo11
    replace vx_y := vx_y.ex xo11
    have zo11 := xo11.size
    have qvw00 := ((vw0.ex xv).ex ((Ex.refl o11).alloc (.cells #[.slice Ao11 r0n.length co11, .slice Bo11 r0d.length do11] 37))).cell 0 (v := .slice Ao3 r0n.length co3) rfl
    have qvw01 := ((vw0.ex xv).ex ((Ex.refl o11).alloc (.cells #[.slice Ao11 r0n.length co11, .slice Bo11 r0d.length do11] 37))).cell 1 (v := .slice Bo3 r0d.length do3) rfl
    go_wp2_with fail
    clear qvw00 qvw01
    have xa := (Ex.refl o11).alloc (.cells #[.slice Ao11 r0n.length co11, .slice Bo11 r0d.length do11] 37)
    have vg0 := VB.new o11 37 #[.slice Ao11 r0n.length co11, .slice Bo11 r0d.length do11]
    have vg0l := vg0.lt
    generalize o11.alloc (.cells #[.slice Ao11 r0n.length co11, .slice Bo11 r0d.length do11] 37) = o12 at *
    replace xw := xw.trans xa
    replace xp := xp.trans xa
    replace xs := xs.trans xa
    replace xv := xv.trans xa
    replace fo7 := fo7.ex xa
    replace ko7 := ko7.ex xa
    replace vx_x := vx_x.ex xa
    replace fo9 := fo9.ex xa
    replace ko9 := ko9.ex xa
    replace vx_y := vx_y.ex xa
    replace fo11 := fo11.ex xa
    replace ko11 := ko11.ex xa
    have zo12 := xa.size
    clear xa
    refine (eqFraction_c Ao11 Bo11 Ao3 Bo3 co11 do11 co3 do3 r0n r0d o12 fo11.rd ko11.rd (w0_rd_fo3.ex xs) (w0_rd_ko3.ex xs)).mono ?_
    rintro e o13 ⟨rfl, xo13⟩
    replace xw := xw.trans xo13
    replace xp := xp.trans xo13
    replace xs := xs.trans xo13
    replace xv := xv.trans xo13
    replace fo7 := fo7.ex xo13
    replace ko7 := ko7.ex xo13
    replace vx_x := vx_x.ex xo13
    replace fo9 := fo9.ex xo13
    replace ko9 := ko9.ex xo13
    replace vx_y := vx_y.ex xo13
    replace fo11 := fo11.ex xo13
    replace ko11 := ko11.ex xo13
    replace vg0 := vg0.ex xo13
    have zo13 := xo13.size
    have qvx_x0 := vx_x.cell 0 (v := .slice Ao7 xn.length co7) rfl
    have qvx_x1 := vx_x.cell 1 (v := .slice Bo7 xd.length do7) rfl
    have qv_x0 := (v_x.ex xp).cell 0 (v := .slice xA xn.length xc) rfl
    have qv_x1 := (v_x.ex xp).cell 1 (v := .slice xB xd.length xe) rfl
    go_wp2_with fail
    go_region_held3 (fun W => W.cell? ⟨o7.heap.size, 0, none⟩ = some (.slice Ao7 xn.length co7) ∧ W.cell? ⟨o7.heap.size, 1, none⟩ = some (.slice Bo7 xd.length do7) ∧ W.cell? ⟨w.heap.size, 0, none⟩ = some (.slice xA xn.length xc) ∧ W.cell? ⟨w.heap.size, 1, none⟩ = some (.slice xB xd.length xe)) (first | (exact ⟨(cell_ex xo15 (cell_ex xo14 qvx_x0)), (cell_ex xo15 (cell_ex xo14 qvx_x1)), (cell_ex xo15 (cell_ex xo14 qv_x0)), (cell_ex xo15 (cell_ex xo14 qv_x1))⟩) | (exact ⟨(cell_ex xo14 qvx_x0), (cell_ex xo14 qvx_x1), (cell_ex xo14 qv_x0), (cell_ex xo14 qv_x1)⟩) | (exact ⟨qvx_x0, qvx_x1, qv_x0, qv_x1⟩)) (first
      | (go_at_call 22
         refine (toFraction_c xA xB xc xe xn xd o13.drew (xh.ex xw.drew) (xk.ex xw.drew)).mono ?_
         rintro e o14 ⟨Ao14, co14, Bo14, do14, rfl, fo14, ko14, apo14, xo14⟩)
      | (go_at_call 24
         refine (eqFraction_c Ao7 Bo7 Ao14 Bo14 co7 do7 co14 do14 xn xd _ ((fo7.rd.drew).ex xo14) ((ko7.rd.drew).ex xo14) fo14.rd ko14.rd).mono ?_
         rintro e o15 ⟨rfl, xo15⟩))
    have xd : Ex o13 o15 := ((Ex.refl o13).drew.trans xo14).trans xo15
    clear qvx_x0 qvx_x1 qv_x0 qv_x1 fo14 ko14 apo14 xo14 xo15
    replace xw := xw.trans xd
    replace xp := xp.trans xd
    replace xs := xs.trans xd
    replace xv := xv.trans xd
    replace fo7 := fo7.ex xd
    replace ko7 := ko7.ex xd
    replace vx_x := vx_x.ex xd
    replace fo9 := fo9.ex xd
    replace ko9 := ko9.ex xd
    replace vx_y := vx_y.ex xd
    replace fo11 := fo11.ex xd
    replace ko11 := ko11.ex xd
    replace vg0 := vg0.ex xd
    have zo15 := xd.size
    clear xd
    have qvx_y0 := vx_y.cell 0 (v := .slice Ao9 yn.length co9) rfl
    have qvx_y1 := vx_y.cell 1 (v := .slice Bo9 yd.length do9) rfl
    have qv_y0 := (v_y.ex xp).cell 0 (v := .slice yA yn.length yc) rfl
    have qv_y1 := (v_y.ex xp).cell 1 (v := .slice yB yd.length ye) rfl
    go_wp2_with fail
    go_region_held3 (fun W => W.cell? ⟨o9.heap.size, 0, none⟩ = some (.slice Ao9 yn.length co9) ∧ W.cell? ⟨o9.heap.size, 1, none⟩ = some (.slice Bo9 yd.length do9) ∧ W.cell? ⟨w.heap.size + 1, 0, none⟩ = some (.slice yA yn.length yc) ∧ W.cell? ⟨w.heap.size + 1, 1, none⟩ = some (.slice yB yd.length ye)) (first | (exact ⟨(cell_ex xo17 (cell_ex xo16 qvx_y0)), (cell_ex xo17 (cell_ex xo16 qvx_y1)), (cell_ex xo17 (cell_ex xo16 qv_y0)), (cell_ex xo17 (cell_ex xo16 qv_y1))⟩) | (exact ⟨(cell_ex xo16 qvx_y0), (cell_ex xo16 qvx_y1), (cell_ex xo16 qv_y0), (cell_ex xo16 qv_y1)⟩) | (exact ⟨qvx_y0, qvx_y1, qv_y0, qv_y1⟩)) (first
      | (go_at_call 22
         refine (toFraction_c yA yB yc ye yn yd o15.drew (yh.ex xw.drew) (yk.ex xw.drew)).mono ?_
         rintro e o16 ⟨Ao16, co16, Bo16, do16, rfl, fo16, ko16, apo16, xo16⟩)
      | (go_at_call 24
         refine (eqFraction_c Ao9 Bo9 Ao16 Bo16 co9 do9 co16 do16 yn yd _ ((fo9.rd.drew).ex xo16) ((ko9.rd.drew).ex xo16) fo16.rd ko16.rd).mono ?_
         rintro e o17 ⟨rfl, xo17⟩))
    have xd : Ex o15 o17 := ((Ex.refl o15).drew.trans xo16).trans xo17
    clear qvx_y0 qvx_y1 qv_y0 qv_y1 fo16 ko16 apo16 xo16 xo17
    replace xw := xw.trans xd
    replace xp := xp.trans xd
    replace xs := xs.trans xd
    replace xv := xv.trans xd
    replace fo7 := fo7.ex xd
    replace ko7 := ko7.ex xd
    replace vx_x := vx_x.ex xd
    replace fo9 := fo9.ex xd
    replace ko9 := ko9.ex xd
    replace vx_y := vx_y.ex xd
    replace fo11 := fo11.ex xd
    replace ko11 := ko11.ex xd
    replace vg0 := vg0.ex xd
    have zo17 := xd.size
    clear xd
    have qvx_x0 := vx_x.cell 0 (v := .slice Ao7 xn.length co7) rfl
    have qvx_x1 := vx_x.cell 1 (v := .slice Bo7 xd.length do7) rfl
    go_wp2_with fail
    clear qvx_x0 qvx_x1
    refine (markFraction_i o6.heap.size o7.heap.size Ao7 Bo7 co7 do7 xn xd (1) o17 fo7 ko7 apo7 (by omega) (by omega) (by omega)).mono ?_
    rintro e o18 ⟨rfl, mo18, no18, io18⟩
    clear fo7 ko7
    replace xw := xw.iv io18 (by omega)
    replace xp := xp.iv io18 (by omega)
    replace xs := xs.iv io18 (by omega)
    replace xv := xv.iv io18 (by omega)
    replace vx_x := vx_x.iv io18 (by omega)
    replace fo9 := fo9.iv io18 (by omega)
    replace ko9 := ko9.iv io18 (by omega)
    replace vx_y := vx_y.iv io18 (by omega)
    replace fo11 := fo11.iv io18 (by omega)
    replace ko11 := ko11.iv io18 (by omega)
    replace vg0 := vg0.iv io18 (by omega)
    have zo18 := io18.size
    clear mo18 no18
    clear vx_x
    have qvx_y0 := vx_y.cell 0 (v := .slice Ao9 yn.length co9) rfl
    have qvx_y1 := vx_y.cell 1 (v := .slice Bo9 yd.length do9) rfl
    go_wp2_with fail
    clear qvx_y0 qvx_y1
    refine (markFraction_i o8.heap.size o9.heap.size Ao9 Bo9 co9 do9 yn yd (1 + (xn.length : Int) + (xd.length : Int)) o18 fo9 ko9 apo9 (by omega) (by omega) (by omega)).mono ?_
    rintro e o19 ⟨rfl, mo19, no19, io19⟩
    clear fo9 ko9
    replace xw := xw.iv io19 (by omega)
    replace xp := xp.iv io19 (by omega)
    replace xs := xs.iv io19 (by omega)
    replace xv := xv.iv io19 (by omega)
    replace vx_y := vx_y.iv io19 (by omega)
    replace fo11 := fo11.iv io19 (by omega)
    replace ko11 := ko11.iv io19 (by omega)
    replace vg0 := vg0.iv io19 (by omega)
    have zo19 := io19.size
    clear mo19 no19
    clear vx_y
    have qvg00 := vg0.cell 0 (v := .slice Ao11 r0n.length co11) rfl
    have qvg01 := vg0.cell 1 (v := .slice Bo11 r0d.length do11) rfl
    have qvw00 := (vw0.ex xv).cell 0 (v := .slice Ao3 r0n.length co3) rfl
    have qvw01 := (vw0.ex xv).cell 1 (v := .slice Bo3 r0d.length do3) rfl
    go_wp2_with fail
    clear qvg00 qvg01 qvw00 qvw01
    refine (eqFraction_c Ao11 Bo11 Ao3 Bo3 co11 do11 co3 do3 r0n r0d o19 fo11.rd ko11.rd (w0_rd_fo3.ex xs) (w0_rd_ko3.ex xs)).mono ?_
    rintro e o20 ⟨rfl, xo20⟩
    replace xw := xw.trans xo20
    replace xp := xp.trans xo20
    replace xs := xs.trans xo20
    replace xv := xv.trans xo20
    replace fo11 := fo11.ex xo20
    replace ko11 := ko11.ex xo20
    replace vg0 := vg0.ex xo20
    have zo20 := xo20.size
    have qvg00 := vg0.cell 0 (v := .slice Ao11 r0n.length co11) rfl
    have qvg01 := vg0.cell 1 (v := .slice Bo11 r0d.length do11) rfl
    go_wp2_with fail
    clear qvg00 qvg01
    refine (markFraction_i o10.heap.size o11.heap.size Ao11 Bo11 co11 do11 r0n r0d (1) o20 fo11 ko11 apo11 (by omega) (by omega) (by omega)).mono ?_
    rintro e o21 ⟨rfl, mo21, no21, io21⟩
    clear fo11 ko11
    replace xw := xw.iv io21 (by omega)
    replace xp := xp.iv io21 (by omega)
    replace xs := xs.iv io21 (by omega)
    replace xv := xv.iv io21 (by omega)
    replace vg0 := vg0.iv io21 (by omega)
    have zo21 := io21.size
    have qvg00 := vg0.cell 0 (v := .slice Ao11 r0n.length co11) rfl
    have qvg01 := vg0.cell 1 (v := .slice Bo11 r0d.length do11) rfl
    go_wp2_with fail
    clear qvg00 qvg01
    refine (heldFraction_c Ao11 Bo11 co11 do11 r0n.length r0d.length (1) o21 mo21.rd no21.rd (by omega) (by omega)).mono ?_
    rintro e o22 ⟨rfl, xo22⟩
    replace xw := xw.trans xo22
    replace xp := xp.trans xo22
    replace xs := xs.trans xo22
    replace xv := xv.trans xo22
    replace vg0 := vg0.ex xo22
    replace mo21 := mo21.ex xo22
    replace no21 := no21.ex xo22
    have zo22 := xo22.size
    have qv_x0 := (v_x.ex xp).cell 0 (v := .slice xA xn.length xc) rfl
    have qv_x1 := (v_x.ex xp).cell 1 (v := .slice xB xd.length xe) rfl
    have qv_y0 := (v_y.ex xp).cell 0 (v := .slice yA yn.length yc) rfl
    have qv_y1 := (v_y.ex xp).cell 1 (v := .slice yB yd.length ye) rfl
    go_wp2_with fail
    have HS : ∀ W, Ex o22 W → (Ex o22 W ∧ W.cell? ⟨w.heap.size, 0, none⟩ = some (.slice xA xn.length xc) ∧ W.cell? ⟨w.heap.size, 1, none⟩ = some (.slice xB xd.length xe) ∧ W.cell? ⟨w.heap.size + 1, 0, none⟩ = some (.slice yA yn.length yc) ∧ W.cell? ⟨w.heap.size + 1, 1, none⟩ = some (.slice yB yd.length ye)) := fun W h => ⟨h, cell_ex h qv_x0, cell_ex h qv_x1, cell_ex h qv_y0, cell_ex h qv_y1⟩
    go_cut [17, 18] from 19 (fun s17 s18 W => ∃ (Go230 : Nat) (Ao23 : Option Addr) (co23 : Nat) (Bo23 : Option Addr) (do23 : Nat), s17 = .pointer (some ⟨Go230, 0, none⟩) ∧ s18 = .bool r1 ∧ VB W Go230 37 #[.slice Ao23 r0n.length co23, .slice Bo23 r0d.length do23] ∧ Rd W Ao23 r0n ∧ Rd W Bo23 r0d ∧ Ex o22 W)
    case first =>
      go_region_held3 (fun W => Ex o22 W ∧ W.cell? ⟨w.heap.size, 0, none⟩ = some (.slice xA xn.length xc) ∧ W.cell? ⟨w.heap.size, 1, none⟩ = some (.slice xB xd.length xe) ∧ W.cell? ⟨w.heap.size + 1, 0, none⟩ = some (.slice yA yn.length yc) ∧ W.cell? ⟨w.heap.size + 1, 1, none⟩ = some (.slice yB yd.length ye)) (first | (exact HS _ (ex_store2 ho23 (by first | exact Nat.le_refl _ | exact ho24.size | exact ho25.size | exact ho23.size))) | (exact HS _ (ho23.alloc _)) | (exact HS _ (ho25.alloc _)) | (exact HS _ (ho24.alloc _)) | (exact HS _ (((Ex.refl o22).drew).alloc _)) | (exact HS _ ((Ex.refl o22).alloc _)) | (exact HS _ ((Ex.refl o22).alloc _).drew) | (exact HS _ ho23) | (exact HS _ ho25) | (exact HS _ ho24) | (exact HS _ (Ex.refl o22).drew)) (first
        | (go_at_call_of 22 (Value.agg #[.slice xA xn.length xc, .slice xB xd.length xe])
           have hb := (‹Ex o22 _ ∧ _›).1
           refine (toFraction_c xA xB xc xe xn xd _ (xh.ex (xw.trans hb)) (xk.ex (xw.trans hb))).mono ?_
           rintro e o24 ⟨Ao24, co24, Bo24, do24, rfl, fo24, ko24, apo24, xo24⟩
           replace fo24 := fo24.rd
           replace ko24 := ko24.rd
           have ho24 := hb.trans xo24
           clear hb
           first | (have vz := (VB.new (o22) 37 #[.slice none 0 0, .slice none 0 0]).drew.ex xo24) | (have vz := (VB.new (o22.drew) 37 #[.slice none 0 0, .slice none 0 0]).ex xo24) | (replace vz := vz.ex xo24) | skip)
        | (go_at_call_of 22 (Value.agg #[.slice yA yn.length yc, .slice yB yd.length ye])
           have hb := (‹Ex o22 _ ∧ _›).1
           refine (toFraction_c yA yB yc ye yn yd _ (yh.ex (xw.trans hb)) (yk.ex (xw.trans hb))).mono ?_
           rintro e o25 ⟨Ao25, co25, Bo25, do25, rfl, fo25, ko25, apo25, xo25⟩
           replace fo25 := fo25.rd
           replace ko25 := ko25.rd
           have ho25 := hb.trans xo25
           clear hb
           replace fo24 := fo24.ex (by first | exact xo25 | exact ((Ex.refl o24).alloc _).trans xo25)
           replace ko24 := ko24.ex (by first | exact xo25 | exact ((Ex.refl o24).alloc _).trans xo25)
           first | (have vz := (VB.new (o22) 37 #[.slice none 0 0, .slice none 0 0]).drew.ex xo25) | (have vz := (VB.new (o24) 37 #[.slice none 0 0, .slice none 0 0]).ex xo25) | (replace vz := vz.ex xo25) | skip)
        | (go_at_call 60
           have hb := (‹Ex o22 _ ∧ _›).1
           have sl := (VB.new o25 37 #[.slice none 0 0, .slice none 0 0]).lt
           try have vl := vz.lt
           first | (have hc := Ex.refl o25; refine (FractionAdd_c _  _ _ _ _ _ _  _ _ _ _ _ _ _ (fo24.ex hc) (ko24.ex hc) (fo25.ex hc) (ko25.ex hc) (ht.ex (xw.trans hb))).mono ?_) | (have hc := (Ex.refl o25).alloc (.cells #[.slice none 0 0, .slice none 0 0] 37); refine (FractionAdd_c _  _ _ _ _ _ _  _ _ _ _ _ _ _ (fo24.ex hc) (ko24.ex hc) (fo25.ex hc) (ko25.ex hc) (ht.ex (xw.trans hb))).mono ?_)
           intro e o23 ho23
           rw [Hr.out] at ho23
           obtain ⟨Ao23, co23, Bo23, do23, rfl, fo23, ko23, apo23, xo23⟩ := ho23
           dsimp only at fo23 ko23 ⊢
           have ho23 := hb.trans xo23
           clear hb
           first | (have vz := (VB.new (o25) 37 #[.slice none 0 0, .slice none 0 0]).ex xo23) | (replace vz := vz.ex xo23) | skip
           try (have zc0 := vz.cell 0 (v := .slice none 0 0) rfl; have zc1 := vz.cell 1 (v := .slice none 0 0) rfl; have zf0 := vz.frozen 0; have zf1 := vz.frozen 1)))
      all_goals
        go_wp2_with fail
        go_meet
        first | exact ⟨_, _, _, _, _, rfl, rfl, VB.new _ _ _, fo23.rd.ex ((Ex.refl _).alloc _), ko23.rd.ex ((Ex.refl _).alloc _), (‹Ex o22 _ ∧ _›).1⟩ | (obtain ⟨dd, zz⟩ := st2 vz (.slice Ao23 r0n.length co23) (.slice Bo23 r0d.length do23); exact ⟨_, _, _, _, _, rfl, rfl, dd, (fo23.ex1 zz (fo23.hi.off (by omega))).rd, (ko23.ex1 zz (ko23.hi.off (by omega))).rd, (‹Ex o22 _ ∧ _›).1⟩)
    case rest =>
      obtain ⟨o26, rfl⟩ : ∃ q, q = wc := ⟨_, rfl⟩
      obtain ⟨Go26, Ao23, co23, Bo23, do23, rfl, rfl, vh0, rd_fo23, rd_ko23, xd⟩ := hcut
      clear qv_x0 qv_x1 qv_y0 qv_y1 HS
      replace xw := xw.trans xd
      replace xp := xp.trans xd
      replace xs := xs.trans xd
      replace xv := xv.trans xd
      replace vg0 := vg0.ex xd
      replace mo21 := mo21.ex xd
      replace no21 := no21.ex xd
      have zo26 := xd.size
      clear xd
      have qvh00 := vh0.cell 0 (v := .slice Ao23 r0n.length co23) rfl
      have qvh01 := vh0.cell 1 (v := .slice Bo23 r0d.length do23) rfl
      have qvw00 := (vw0.ex xv).cell 0 (v := .slice Ao3 r0n.length co3) rfl
      have qvw01 := (vw0.ex xv).cell 1 (v := .slice Bo3 r0d.length do3) rfl
      go_wp2_with fail
      clear qvh00 qvh01 qvw00 qvw01
      refine (eqFraction_c Ao23 Bo23 Ao3 Bo3 co23 do23 co3 do3 r0n r0d o26 rd_fo23 rd_ko23 (w0_rd_fo3.ex xs) (w0_rd_ko3.ex xs)).mono ?_
      rintro e o27 ⟨rfl, xo27⟩
      replace xw := xw.trans xo27
      replace xp := xp.trans xo27
      replace xs := xs.trans xo27
      replace xv := xv.trans xo27
      replace vg0 := vg0.ex xo27
      replace mo21 := mo21.ex xo27
      replace no21 := no21.ex xo27
      replace rd_fo23 := rd_fo23.ex xo27
      replace rd_ko23 := rd_ko23.ex xo27
      replace vh0 := vh0.ex xo27
      have zo27 := xo27.size
      have qvg00 := vg0.cell 0 (v := .slice Ao11 r0n.length co11) rfl
      have qvg01 := vg0.cell 1 (v := .slice Bo11 r0d.length do11) rfl
      go_wp2_with fail
      clear qvg00 qvg01
      refine (heldFraction_c Ao11 Bo11 co11 do11 r0n.length r0d.length (1) o27 mo21.rd no21.rd (by omega) (by omega)).mono ?_
      rintro e o28 ⟨rfl, xo28⟩
      replace xw := xw.trans xo28
      replace xp := xp.trans xo28
      replace xs := xs.trans xo28
      replace xv := xv.trans xo28
      replace vg0 := vg0.ex xo28
      replace mo21 := mo21.ex xo28
      replace no21 := no21.ex xo28
      replace rd_fo23 := rd_fo23.ex xo28
      replace rd_ko23 := rd_ko23.ex xo28
      replace vh0 := vh0.ex xo28
      have zo28 := xo28.size
      clear ht Hr 
      go_wp2
      all_goals go_ret
      exact ⟨rfl, xw⟩
end Go.Proofs.YtpiplogjbeofoaaDoor
