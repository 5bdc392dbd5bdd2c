/- The law on SeriesOf: the program's answer is the reference's, for all arguments; the walk of the law's own text. No conditions. -/
import Derived.Test.YtpiplogjbeofoaaDoorSer4
import Derived.Test.YtpiplogjbeofoaaDoorLawFrac2
import Derived.RegionCalls
import Derived.Deep.RegionWith
import Derived.Deep.RegionHeld3
import Derived.Deep.Cut
namespace Go.Proofs.YtpiplogjbeofoaaDoor
set_option maxRecDepth 100000
open Go Go.RowKit
set_option maxHeartbeats 4000000 in
set_option maxRecDepth 100000 in
theorem lawSeriesOf_big1 (p : Int) (xA xB : Option Addr) (xc xe xy xz : Nat) (n : Int) (w : World) (hbig : 1048576 < (xy : Int) + (xz : Int)) (hmxy : xy ≤ 9223372036854775807) (hmxz : xz ≤ 9223372036854775807) :
    Calls Tryd.prog 12 #[.int .i64 p, .agg #[.slice xA xy xc, .slice xB xz xe], .int .i64 n] w fun e w' => e = .returned (.bool true) ∧ Ex w w' := by
  have xw := (Ex.refl w).alloc (.cells #[.slice xA xy xc, .slice xB xz xe] 33)
  have v_x := VB.new w 33 #[.slice xA xy xc, .slice xB xz xe]
  go_enter Tryd.func12, Tryd.ntmps12
  go_wp2_with fail
  generalize w.alloc (.cells #[.slice xA xy xc, .slice xB xz xe] 33) = Wp0 at *
  refine (szFraction_big xA xB xc xe xy xz (1048576) Wp0 (by omega) hmxy hmxz (by omega) (by omega)).mono ?_
  rintro e wz ⟨rfl, xz⟩
  go_wp2
  go_ret
  exact ⟨rfl, xw.trans xz⟩
set_option maxHeartbeats 4000000 in
set_option maxRecDepth 100000 in
theorem lawSeriesOf_walk (p : Int) (xA xB : Option Addr) (xc xe : Nat) (xn xd : List Int) (n : Int) (w : World) (xh : Rd w xA xn) (xk : Rd w xB xd) (hl : (xn.length : Int) + (xd.length : Int) ≤ 1048576) (ht : Tb w) :
    Calls Tryd.prog 12 #[.int .i64 p, .agg #[.slice xA xn.length xc, .slice xB xd.length xe], .int .i64 n] w fun e w' => e = .returned (.bool true) ∧ Ex w w' := by
  obtain ⟨r0, r1, hr⟩ : ∃ r0 r1, serR p xn xd n = (r0, r1) := ⟨_, _, rfl⟩
  have Hr := Lib.hid hr
  clear hr
  have xw := (Ex.refl w).alloc (.cells #[.slice xA xn.length xc, .slice xB xd.length xe] 33)
  have v_x := VB.new w 33 #[.slice xA xn.length xc, .slice xB xd.length xe]
  go_enter Tryd.func12, Tryd.ntmps12
  go_wp2_with fail
  generalize w.alloc (.cells #[.slice xA xn.length xc, .slice xB xd.length xe] 33) = Wp0 at *
  have zWp := xw.size
  have xp := Ex.refl Wp0
  refine (szFraction_ok xA xB xc xe xn.length xd.length (1048576) Wp0 (by omega) (by omega)).mono ?_
  rintro e o1 ⟨rfl, xo1⟩
  replace xw := xw.trans xo1
  replace xp := xp.trans xo1
  have zo1 := xo1.size
  have qv_x0 := (v_x.ex xp).cell 0 (v := .slice xA xn.length xc) rfl
  have qv_x1 := (v_x.ex xp).cell 1 (v := .slice xB xd.length xe) rfl
  go_wp2_with fail
  clear qv_x0 qv_x1
  refine (toFraction_c xA xB xc xe xn xd o1 (xh.ex xw) (xk.ex xw)).mono ?_
  rintro e o2 ⟨Ao2, co2, Bo2, do2, rfl, fo2, ko2, apo2, xo2⟩
  replace fo2 := fo2.fi
  replace ko2 := ko2.fi
  replace xw := xw.trans xo2
  replace xp := xp.trans xo2
  have zo2 := xo2.size
  go_wp2_with fail
  refine (spSeriesOf_c _  _ _ _ _ _ _  _ o2 fo2.rd ko2.rd).mono ?_
  intro e o3 ho3
  rw [Hr.out] at ho3
  obtain ⟨Ao30, co30, rfl, fo30, xo3⟩ := ho3
  dsimp only at fo30 ⊢
  replace fo30 := fo30.fi
  have lnfo30 := fo30.rd.len
  replace xw := xw.trans xo3
  replace xp := xp.trans xo3
  replace fo2 := fo2.ex xo3
  replace ko2 := ko2.ex xo3
  have zo3 := xo3.size
  clear fo2 ko2
  have w0_fo30 := fo30.rd
  clear fo30
  have xs := Ex.refl o3
  have qv_x0 := (v_x.ex xp).cell 0 (v := .slice xA xn.length xc) rfl
  have qv_x1 := (v_x.ex xp).cell 1 (v := .slice xB xd.length xe) rfl
  go_wp2_with fail
  clear qv_x0 qv_x1
  refine (toFraction_c xA xB xc xe xn xd o3 (xh.ex xw) (xk.ex xw)).mono ?_
  rintro e o4 ⟨Ao4, co4, Bo4, do4, rfl, fo4, ko4, apo4, xo4⟩
  replace fo4 := fo4.fi
  replace ko4 := ko4.fi
  replace xw := xw.trans xo4
  replace xp := xp.trans xo4
  replace xs := xs.trans xo4
  have zo4 := xo4.size
  go_wp2_with fail
  have xa := (Ex.refl o4).alloc (.cells #[.slice Ao4 xn.length co4, .slice Bo4 xd.length do4] 37)
  have vx_x := VB.new o4 37 #[.slice Ao4 xn.length co4, .slice Bo4 xd.length do4]
  have vx_xl := vx_x.lt
  generalize o4.alloc (.cells #[.slice Ao4 xn.length co4, .slice Bo4 xd.length do4] 37) = o5 at *
  replace xw := xw.trans xa
  replace xp := xp.trans xa
  replace xs := xs.trans xa
  replace fo4 := fo4.ex xa
  replace ko4 := ko4.ex xa
  have zo5 := xa.size
  clear xa
  refine (SeriesOf_c _  _ _ _ _ _ _  _ o5 fo4.rd ko4.rd (ht.ex xw)).mono ?_
  intro e o6 ho6
  rw [Hr.out] at ho6
  obtain ⟨Ao60, co60, rfl, fo60, xo6⟩ := ho6
  dsimp only at fo60 ⊢
  replace fo60 := fo60.fi
  replace xw := xw.trans xo6
  replace xp := xp.trans xo6
  replace xs := xs.trans xo6
  replace fo4 := fo4.ex xo6
  replace ko4 := ko4.ex xo6
  replace vx_x := vx_x.ex xo6
  have zo6 := xo6.size
  go_wp2_with fail
  refine (eqIntS_c Ao60 Ao30 co60 co30 r0 o6 fo60.rd (w0_fo30.ex xs)).mono ?_
  rintro e o7 ⟨rfl, xo7⟩
  replace xw := xw.trans xo7
  replace xp := xp.trans xo7
  replace xs := xs.trans xo7
  replace fo4 := fo4.ex xo7
  replace ko4 := ko4.ex xo7
  replace vx_x := vx_x.ex xo7
  replace fo60 := fo60.ex xo7
  have zo7 := xo7.size
  have qvx_x0 := vx_x.cell 0 (v := .slice Ao4 xn.length co4) rfl
  have qvx_x1 := vx_x.cell 1 (v := .slice Bo4 xd.length do4) rfl
  have qv_x0 := (v_x.ex xp).cell 0 (v := .slice xA xn.length xc) rfl
  have qv_x1 := (v_x.ex xp).cell 1 (v := .slice xB xd.length xe) rfl
  go_wp2_with fail
  go_region_held3 (fun W => W.cell? ⟨o4.heap.size, 0, none⟩ = some (.slice Ao4 xn.length co4) ∧ W.cell? ⟨o4.heap.size, 1, none⟩ = some (.slice Bo4 xd.length do4) ∧ W.cell? ⟨w.heap.size, 0, none⟩ = some (.slice xA xn.length xc) ∧ W.cell? ⟨w.heap.size, 1, none⟩ = some (.slice xB xd.length xe)) (first | (exact ⟨(cell_ex xo9 (cell_ex xo8 qvx_x0)), (cell_ex xo9 (cell_ex xo8 qvx_x1)), (cell_ex xo9 (cell_ex xo8 qv_x0)), (cell_ex xo9 (cell_ex xo8 qv_x1))⟩) | (exact ⟨(cell_ex xo8 qvx_x0), (cell_ex xo8 qvx_x1), (cell_ex xo8 qv_x0), (cell_ex xo8 qv_x1)⟩) | (exact ⟨qvx_x0, qvx_x1, qv_x0, qv_x1⟩)) (first
    | (go_at_call 22
       refine (toFraction_c xA xB xc xe xn xd o7.drew (xh.ex xw.drew) (xk.ex xw.drew)).mono ?_
       rintro e o8 ⟨Ao8, co8, Bo8, do8, rfl, fo8, ko8, apo8, xo8⟩)
    | (go_at_call 24
       refine (eqFraction_c Ao4 Bo4 Ao8 Bo8 co4 do4 co8 do8 xn xd _ ((fo4.rd.drew).ex xo8) ((ko4.rd.drew).ex xo8) fo8.rd ko8.rd).mono ?_
       rintro e o9 ⟨rfl, xo9⟩))
  have xd : Ex o7 o9 := ((Ex.refl o7).drew.trans xo8).trans xo9
  clear qvx_x0 qvx_x1 qv_x0 qv_x1 fo8 ko8 apo8 xo8 xo9
  replace xw := xw.trans xd
  replace xp := xp.trans xd
  replace xs := xs.trans xd
  replace fo4 := fo4.ex xd
  replace ko4 := ko4.ex xd
  replace vx_x := vx_x.ex xd
  replace fo60 := fo60.ex xd
  have zo9 := xd.size
  clear xd
  have qvx_x0 := vx_x.cell 0 (v := .slice Ao4 xn.length co4) rfl
  have qvx_x1 := vx_x.cell 1 (v := .slice Bo4 xd.length do4) rfl
  go_wp2_with fail
  clear qvx_x0 qvx_x1
  refine (markFraction_i (o3.heap.size) (o4.heap.size) Ao4 Bo4 co4 do4 xn xd (1) o9 fo4 ko4 apo4 (by omega) (by omega) (by omega)).mono ?_
  rintro e o10 ⟨rfl, mo10, no10, io10⟩
  clear fo4 ko4
  replace xw := xw.iv io10 (by omega)
  replace xp := xp.iv io10 (by omega)
  replace xs := xs.iv io10 (by omega)
  replace vx_x := vx_x.iv io10 (by omega)
  replace fo60 := fo60.iv io10 (by omega)
  have zo10 := io10.size
  clear mo10 no10
  clear vx_x
  go_wp2_with fail
  refine (eqIntS_c Ao60 Ao30 co60 co30 r0 o10 fo60.rd (w0_fo30.ex xs)).mono ?_
  rintro e o11 ⟨rfl, xo11⟩
  replace xw := xw.trans xo11
  replace xp := xp.trans xo11
  replace xs := xs.trans xo11
  replace fo60 := fo60.ex xo11
  have zo11 := xo11.size
  go_wp2_with fail
  refine (markIntS_i (o5.heap.size) (o6.heap.size) Ao60 co60 r0 (1) o11 fo60 (by omega) (by omega)).mono ?_
  rintro e o12 ⟨rfl, mo12, io12⟩
  clear fo60
  replace xw := xw.iv io12 (by omega)
  replace xp := xp.iv io12 (by omega)
  replace xs := xs.iv io12 (by omega)
  have zo12 := io12.size
  go_wp2_with fail
  refine (heldIntS_c Ao60 co60 (1) r0.length o12 mo12.rd (by omega) (by omega)).mono ?_
  rintro e _ ⟨rfl, rfl⟩
  have qv_x0 := (v_x.ex xp).cell 0 (v := .slice xA xn.length xc) rfl
  have qv_x1 := (v_x.ex xp).cell 1 (v := .slice xB xd.length xe) rfl
  go_wp2_with fail
  clear qv_x0 qv_x1
  refine (toFraction_c xA xB xc xe xn xd o12 (xh.ex xw) (xk.ex xw)).mono ?_
  rintro e o13 ⟨Ao13, co13, Bo13, do13, rfl, fo13, ko13, apo13, xo13⟩
  replace fo13 := fo13.fi
  replace ko13 := ko13.fi
  replace xw := xw.trans xo13
  replace xp := xp.trans xo13
  replace xs := xs.trans xo13
  replace mo12 := mo12.ex xo13
  have zo13 := xo13.size
  go_wp2_with fail
  refine (SeriesOf_c _  _ _ _ _ _ _  _ o13 fo13.rd ko13.rd (ht.ex xw)).mono ?_
  intro e o14 ho14
  rw [Hr.out] at ho14
  obtain ⟨Ao140, co140, rfl, fo140, xo14⟩ := ho14
  dsimp only at fo140 ⊢
  replace fo140 := fo140.fi
  replace xw := xw.trans xo14
  replace xp := xp.trans xo14
  replace xs := xs.trans xo14
  replace mo12 := mo12.ex xo14
  replace fo13 := fo13.ex xo14
  replace ko13 := ko13.ex xo14
  have zo14 := xo14.size
  clear fo13 ko13
  go_wp2_with fail
  refine (eqIntS_c Ao140 Ao30 co140 co30 r0 o14 fo140.rd (w0_fo30.ex xs)).mono ?_
  rintro e o15 ⟨rfl, xo15⟩
  replace xw := xw.trans xo15
  replace xp := xp.trans xo15
  replace xs := xs.trans xo15
  replace mo12 := mo12.ex xo15
  replace fo140 := fo140.ex xo15
  have zo15 := xo15.size
  go_wp2_with fail
  refine (heldIntS_c Ao60 co60 (1) r0.length o15 mo12.rd (by omega) (by omega)).mono ?_
  rintro e _ ⟨rfl, rfl⟩
  clear ht Hr 
  go_wp2
  all_goals go_ret
  exact ⟨rfl, xw⟩
end Go.Proofs.YtpiplogjbeofoaaDoor
