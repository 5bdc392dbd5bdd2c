/- The law on FractionText: the program's answer is the reference's, for all arguments; the walk of the law's own text. No conditions. -/
import Derived.Test.YtofppmieipiidaaDoorFtA
import Derived.Test.YtofppmieipiidaaDoorPkL
import Derived.Test.YtofppmieipiidaaDoorPkC
import Derived.Test.YtofppmieipiidaaDoorIv
import Derived.RegionCalls
import Derived.Deep.RegionWith
import Derived.Deep.RegionHeld3
import Derived.Deep.Cut
namespace Go.Proofs.YtofppmieipiidaaDoor
set_option maxRecDepth 100000
open Go Go.RowKit
set_option maxHeartbeats 4000000 in
set_option maxRecDepth 100000 in
theorem lawFractionText_big1 (p : Int) (xA xB : Option Addr) (xc xe xy xz : Nat) (w : World) (hbig : 1048576 < (xy : Int) + (xz : Int)) (hmxy : xy ≤ 9223372036854775807) (hmxz : xz ≤ 9223372036854775807) :
    Calls Tryd.prog 4 #[.int .i64 p, .agg #[.slice xA xy xc, .slice xB xz xe]] w fun e w' => e = .returned (.bool true) ∧ Ex w w' := by
  have xw := (Ex.refl w).alloc (.cells #[.slice xA xy xc, .slice xB xz xe] 29)
  have v_x := VB.new w 29 #[.slice xA xy xc, .slice xB xz xe]
  go_enter Tryd.func4, Tryd.ntmps4
  go_wp2_with fail
  generalize w.alloc (.cells #[.slice xA xy xc, .slice xB xz xe] 29) = Wp0 at *
  refine (szFraction_big xA xB xc xe xy xz (1048576) Wp0 (by omega) hmxy hmxz (by omega) (by omega)).mono ?_
  rintro e wz ⟨rfl, xz⟩
  go_wp2
  go_ret
  exact ⟨rfl, xw.trans xz⟩
set_option maxHeartbeats 4000000 in
set_option maxRecDepth 100000 in
theorem lawFractionText_walk (p : Int) (xA xB : Option Addr) (xc xe : Nat) (xn xd : List Int) (w : World) (xh : Rd w xA xn) (xk : Rd w xB xd) (hl : (xn.length : Int) + (xd.length : Int) ≤ 1048576) (ht : Tb w) :
    Calls Tryd.prog 4 #[.int .i64 p, .agg #[.slice xA xn.length xc, .slice xB xd.length xe]] w fun e w' => e = .returned (.bool true) ∧ Ex w w' := by
  obtain ⟨r0, r1, hr⟩ : ∃ r0 r1, ftR p xn xd = (r0, r1) := ⟨_, _, rfl⟩
  have Hr := Lib.hid hr
  clear hr
  have xw := (Ex.refl w).alloc (.cells #[.slice xA xn.length xc, .slice xB xd.length xe] 29)
  have v_x := VB.new w 29 #[.slice xA xn.length xc, .slice xB xd.length xe]
  go_enter Tryd.func4, Tryd.ntmps4
  go_wp2_with fail
  generalize w.alloc (.cells #[.slice xA xn.length xc, .slice xB xd.length xe] 29) = Wp0 at *
  have zWp := xw.size
  have xp := Ex.refl Wp0
  refine (szFraction_ok xA xB xc xe xn.length xd.length (1048576) Wp0 (by omega) (by omega)).mono ?_
  rintro e o1 ⟨rfl, xo1⟩
  replace xw := xw.trans xo1
  replace xp := xp.trans xo1
  have zo1 := xo1.size
  have qv_x0 := (v_x.ex xp).cell 0 (v := .slice xA xn.length xc) rfl
  have qv_x1 := (v_x.ex xp).cell 1 (v := .slice xB xd.length xe) rfl
  go_wp2_with fail
  clear qv_x0 qv_x1
  refine (toFraction_c xA xB xc xe xn xd o1 (xh.ex xw) (xk.ex xw)).mono ?_
  rintro e o2 ⟨Ao2, co2, Bo2, do2, rfl, fo2, ko2, apo2, xo2⟩
  replace fo2 := fo2.fi
  replace ko2 := ko2.fi
  replace xw := xw.trans xo2
  replace xp := xp.trans xo2
  have zo2 := xo2.size
  go_wp2_with fail
  refine (spFractionText_c _  _ _ _ _ _ _ o2 fo2.rd ko2.rd).mono ?_
  intro e o3 ho3
  rw [Hr.out] at ho3
  obtain ⟨rfl, xo3⟩ := ho3
  dsimp only
  replace xw := xw.trans xo3
  replace xp := xp.trans xo3
  replace fo2 := fo2.ex xo3
  replace ko2 := ko2.ex xo3
  have zo3 := xo3.size
  clear fo2 ko2
  have xs := Ex.refl o3
  have qv_x0 := (v_x.ex xp).cell 0 (v := .slice xA xn.length xc) rfl
  have qv_x1 := (v_x.ex xp).cell 1 (v := .slice xB xd.length xe) rfl
  go_wp2_with fail
  clear qv_x0 qv_x1
  refine (toFraction_c xA xB xc xe xn xd o3 (xh.ex xw) (xk.ex xw)).mono ?_
  rintro e o4 ⟨Ao4, co4, Bo4, do4, rfl, fo4, ko4, apo4, xo4⟩
  replace fo4 := fo4.fi
  replace ko4 := ko4.fi
  replace xw := xw.trans xo4
  replace xp := xp.trans xo4
  replace xs := xs.trans xo4
  have zo4 := xo4.size
  go_wp2_with fail
  have xa := (Ex.refl o4).alloc (.cells #[.slice Ao4 xn.length co4, .slice Bo4 xd.length do4] 32)
  have vx_x := VB.new o4 32 #[.slice Ao4 xn.length co4, .slice Bo4 xd.length do4]
  have vx_xl := vx_x.lt
  generalize o4.alloc (.cells #[.slice Ao4 xn.length co4, .slice Bo4 xd.length do4] 32) = o5 at *
  replace xw := xw.trans xa
  replace xp := xp.trans xa
  replace xs := xs.trans xa
  replace fo4 := fo4.ex xa
  replace ko4 := ko4.ex xa
  have zo5 := xa.size
  clear xa
  refine (FractionText_c _  _ _ _ _ _ _ o5 fo4.rd ko4.rd (ht.ex xw)).mono ?_
  intro e o6 ho6
  rw [Hr.out] at ho6
  obtain ⟨rfl, xo6⟩ := ho6
  dsimp only
  replace xw := xw.trans xo6
  replace xp := xp.trans xo6
  replace xs := xs.trans xo6
  replace fo4 := fo4.ex xo6
  replace ko4 := ko4.ex xo6
  replace vx_x := vx_x.ex xo6
  have zo6 := xo6.size
  have qvx_x0 := vx_x.cell 0 (v := .slice Ao4 xn.length co4) rfl
  have qvx_x1 := vx_x.cell 1 (v := .slice Bo4 xd.length do4) rfl
  have qv_x0 := (v_x.ex xp).cell 0 (v := .slice xA xn.length xc) rfl
  have qv_x1 := (v_x.ex xp).cell 1 (v := .slice xB xd.length xe) rfl
  go_wp2_with fail
  go_region_held3 (fun W => W.cell? ⟨o4.heap.size, 0, none⟩ = some (.slice Ao4 xn.length co4) ∧ W.cell? ⟨o4.heap.size, 1, none⟩ = some (.slice Bo4 xd.length do4) ∧ W.cell? ⟨w.heap.size, 0, none⟩ = some (.slice xA xn.length xc) ∧ W.cell? ⟨w.heap.size, 1, none⟩ = some (.slice xB xd.length xe)) (first | (exact ⟨(cell_ex xo8 (cell_ex xo7 qvx_x0)), (cell_ex xo8 (cell_ex xo7 qvx_x1)), (cell_ex xo8 (cell_ex xo7 qv_x0)), (cell_ex xo8 (cell_ex xo7 qv_x1))⟩) | (exact ⟨(cell_ex xo7 qvx_x0), (cell_ex xo7 qvx_x1), (cell_ex xo7 qv_x0), (cell_ex xo7 qv_x1)⟩) | (exact ⟨qvx_x0, qvx_x1, qv_x0, qv_x1⟩)) (first
    | (go_at_call 11
       refine (toFraction_c xA xB xc xe xn xd o6.drew (xh.ex xw.drew) (xk.ex xw.drew)).mono ?_
       rintro e o7 ⟨Ao7, co7, Bo7, do7, rfl, fo7, ko7, apo7, xo7⟩)
    | (go_at_call 13
       refine (eqFraction_c Ao4 Bo4 Ao7 Bo7 co4 do4 co7 do7 xn xd _ ((fo4.rd.drew).ex xo7) ((ko4.rd.drew).ex xo7) fo7.rd ko7.rd).mono ?_
       rintro e o8 ⟨rfl, xo8⟩))
  have xd : Ex o6 o8 := ((Ex.refl o6).drew.trans xo7).trans xo8
  clear qvx_x0 qvx_x1 qv_x0 qv_x1 fo7 ko7 apo7 xo7 xo8
  replace xw := xw.trans xd
  replace xp := xp.trans xd
  replace xs := xs.trans xd
  replace fo4 := fo4.ex xd
  replace ko4 := ko4.ex xd
  replace vx_x := vx_x.ex xd
  have zo8 := xd.size
  clear xd
  go_wp2
  all_goals go_ret
  exact ⟨rfl, xw⟩
end Go.Proofs.YtofppmieipiidaaDoor
