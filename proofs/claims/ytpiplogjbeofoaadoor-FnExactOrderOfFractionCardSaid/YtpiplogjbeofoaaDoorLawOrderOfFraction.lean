/- The law on OrderOfFraction: the program's answer is the reference's, for all arguments; the walk of the law's own text. No conditions. -/
import Derived.Test.YtpiplogjbeofoaaDoorFrac7
import Derived.Test.YtpiplogjbeofoaaDoorLawFrac2
import Derived.RegionCalls
import Derived.Deep.RegionWith
namespace Go.Proofs.YtpiplogjbeofoaaDoor
set_option maxRecDepth 100000
open Go Go.RowKit
set_option maxHeartbeats 4000000 in
set_option maxRecDepth 100000 in
theorem lawOrderOfFraction_big1 (p : Int) (xA xB : Option Addr) (xc xe xy xz : Nat) (w : World) (hbig : 1048576 < (xy : Int) + (xz : Int)) (hmxy : xy ≤ 9223372036854775807) (hmxz : xz ≤ 9223372036854775807) :
    Calls Tryd.prog 4 #[.int .i64 p, .agg #[.slice xA xy xc, .slice xB xz xe]] w fun e w' => e = .returned (.bool true) ∧ Ex w w' := by
  have xw := (Ex.refl w).alloc (.cells #[.slice xA xy xc, .slice xB xz xe] 33)
  have v_x := VB.new w 33 #[.slice xA xy xc, .slice xB xz xe]
  go_enter Tryd.func4, Tryd.ntmps4
  go_wp2_with fail
  generalize w.alloc (.cells #[.slice xA xy xc, .slice xB xz xe] 33) = Wp0 at *
  refine (szFraction_big xA xB xc xe xy xz (1048576) Wp0 (by omega) hmxy hmxz (by omega) (by omega)).mono ?_
  rintro e wz ⟨rfl, xz⟩
  go_wp2
  go_ret
  exact ⟨rfl, xw.trans xz⟩
set_option maxHeartbeats 4000000 in
set_option maxRecDepth 100000 in
theorem lawOrderOfFraction_walk (p : Int) (xA xB : Option Addr) (xc xe : Nat) (xn xd : List Int) (w : World) (xh : Rd w xA xn) (xk : Rd w xB xd) (hl : (xn.length : Int) + (xd.length : Int) ≤ 1048576) (ht : Tb w) :
    Calls Tryd.prog 4 #[.int .i64 p, .agg #[.slice xA xn.length xc, .slice xB xd.length xe]] w fun e w' => e = .returned (.bool true) ∧ Ex w w' := by
  obtain ⟨r0, r1, hr⟩ : ∃ r0 r1, ordR p xn xd = (r0, r1) := ⟨_, _, rfl⟩
  have Hr := Lib.hid hr
  clear hr
  have xw := (Ex.refl w).alloc (.cells #[.slice xA xn.length xc, .slice xB xd.length xe] 33)
  have v_x := VB.new w 33 #[.slice xA xn.length xc, .slice xB xd.length xe]
  go_enter Tryd.func4, Tryd.ntmps4
  go_wp2_with fail
  generalize w.alloc (.cells #[.slice xA xn.length xc, .slice xB xd.length xe] 33) = Wp0 at *
  have xp := Ex.refl Wp0
  refine (szFraction_ok xA xB xc xe xn.length xd.length (1048576) Wp0 (by omega) (by omega)).mono ?_
  rintro e u1 ⟨rfl, xu1⟩
  replace xw := xw.trans xu1
  replace xp := xp.trans xu1
  have zu1 := xu1.size
  have qv_x0 := (v_x.ex xp).cell 0 (v := .slice xA xn.length xc) rfl
  have qv_x1 := (v_x.ex xp).cell 1 (v := .slice xB xd.length xe) rfl
  go_wp2_with fail
  clear qv_x0 qv_x1
  refine (toFraction_c xA xB xc xe xn xd u1 (xh.ex xw) (xk.ex xw)).mono ?_
  rintro e u2 ⟨Au2, cu2, Bu2, du2, rfl, fu2, ku2, apu2, xu2⟩
  replace fu2 := fu2.fi
  replace ku2 := ku2.fi
  replace xw := xw.trans xu2
  replace xp := xp.trans xu2
  have zu2 := xu2.size
  go_wp2_with fail
  refine (spOrderOfFraction_c _  _ _ _ _ _ _ u2 fu2.rd ku2.rd).mono ?_
  intro e u3 hu3
  rw [Hr.out] at hu3
  obtain ⟨rfl, xu3⟩ := hu3
  dsimp only
  replace xw := xw.trans xu3
  replace xp := xp.trans xu3
  replace fu2 := fu2.ex xu3
  replace ku2 := ku2.ex xu3
  have zu3 := xu3.size
  clear fu2 ku2
  have xs := Ex.refl u3
  have qv_x0 := (v_x.ex xp).cell 0 (v := .slice xA xn.length xc) rfl
  have qv_x1 := (v_x.ex xp).cell 1 (v := .slice xB xd.length xe) rfl
  go_wp2_with fail
  clear qv_x0 qv_x1
  refine (toFraction_c xA xB xc xe xn xd u3 (xh.ex xw) (xk.ex xw)).mono ?_
  rintro e u4 ⟨Au4, cu4, Bu4, du4, rfl, fu4, ku4, apu4, xu4⟩
  replace fu4 := fu4.fi
  replace ku4 := ku4.fi
  replace xw := xw.trans xu4
  replace xp := xp.trans xu4
  replace xs := xs.trans xu4
  have zu4 := xu4.size
  go_wp2_with fail
  have xa := (Ex.refl u4).alloc (.cells #[.slice Au4 xn.length cu4, .slice Bu4 xd.length du4] 37)
  have vx_x := VB.new u4 37 #[.slice Au4 xn.length cu4, .slice Bu4 xd.length du4]
  have vx_xl := vx_x.lt
  generalize u4.alloc (.cells #[.slice Au4 xn.length cu4, .slice Bu4 xd.length du4] 37) = u5 at *
  replace xw := xw.trans xa
  replace xp := xp.trans xa
  replace xs := xs.trans xa
  replace fu4 := fu4.ex xa
  replace ku4 := ku4.ex xa
  have zu5 := xa.size
  clear xa
  refine (OrderOfFraction_c _  _ _ _ _ _ _ u5 fu4.rd ku4.rd (ht.ex xw)).mono ?_
  intro e u6 hu6
  rw [Hr.out] at hu6
  obtain ⟨rfl, xu6⟩ := hu6
  dsimp only
  replace xw := xw.trans xu6
  replace xp := xp.trans xu6
  replace xs := xs.trans xu6
  replace fu4 := fu4.ex xu6
  replace ku4 := ku4.ex xu6
  replace vx_x := vx_x.ex xu6
  have zu6 := xu6.size
  have qvx_x0 := vx_x.cell 0 (v := .slice Au4 xn.length cu4) rfl
  have qvx_x1 := vx_x.cell 1 (v := .slice Bu4 xd.length du4) rfl
  have qv_x0 := (v_x.ex xp).cell 0 (v := .slice xA xn.length xc) rfl
  have qv_x1 := (v_x.ex xp).cell 1 (v := .slice xB xd.length xe) rfl
  go_wp2_with fail
  go_region_with (first
    | (go_at_call 22
       refine (toFraction_c xA xB xc xe xn xd u6.drew (xh.ex xw.drew) (xk.ex xw.drew)).mono ?_
       rintro e u7 ⟨Au7, cu7, Bu7, du7, rfl, fu7, ku7, apu7, xu7⟩
       have qz0 := ((vx_x.drew).ex xu7).cell 0 (v := .slice Au4 xn.length cu4) rfl
       have qz1 := ((vx_x.drew).ex xu7).cell 1 (v := .slice Bu4 xd.length du4) rfl)
    | (go_at_call 24
       refine (eqFraction_c Au4 Bu4 Au7 Bu7 cu4 du4 cu7 du7 xn xd _ ((fu4.rd.drew).ex xu7) ((ku4.rd.drew).ex xu7) fu7.rd ku7.rd).mono ?_
       rintro e u8 ⟨rfl, xu8⟩))
  all_goals
    have xd : Ex u6 u8 := ((Ex.refl u6).drew.trans xu7).trans xu8
    clear qvx_x0 qvx_x1 qv_x0 qv_x1 qz0 qz1 fu7 ku7 apu7 xu7 xu8
    replace xw := xw.trans xd
    replace xp := xp.trans xd
    replace xs := xs.trans xd
    replace fu4 := fu4.ex xd
    replace ku4 := ku4.ex xd
    replace vx_x := vx_x.ex xd
    have zu8 := xd.size
    clear xd
    go_wp2
    all_goals go_ret
    exact ⟨rfl, xw⟩
end Go.Proofs.YtpiplogjbeofoaaDoor
