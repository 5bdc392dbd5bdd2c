/- The law on FractionInverse: the program's answer is the reference's, for all arguments; the walk of the law's own text. No conditions. -/
import Derived.Test.YtpiplogjbeofoaaDoorFrac8
import Derived.Test.YtpiplogjbeofoaaDoorLawFrac2
import Derived.RegionCalls
import Derived.Deep.RegionWith
namespace Go.Proofs.YtpiplogjbeofoaaDoor
set_option maxRecDepth 100000
open Go Go.RowKit
set_option maxHeartbeats 4000000 in
set_option maxRecDepth 100000 in
theorem lawFractionInverse_big1 (p : Int) (xA xB : Option Addr) (xc xe xy xz : Nat) (w : World) (hbig : 1048576 < (xy : Int) + (xz : Int)) (hmxy : xy ≤ 9223372036854775807) (hmxz : xz ≤ 9223372036854775807) :
    Calls Tryd.prog 10 #[.int .i64 p, .agg #[.slice xA xy xc, .slice xB xz xe]] w fun e w' => e = .returned (.bool true) ∧ Ex w w' := by
  have xw := (Ex.refl w).alloc (.cells #[.slice xA xy xc, .slice xB xz xe] 33)
  have v_x := VB.new w 33 #[.slice xA xy xc, .slice xB xz xe]
  go_enter Tryd.func10, Tryd.ntmps10
  go_wp2_with fail
  generalize w.alloc (.cells #[.slice xA xy xc, .slice xB xz xe] 33) = Wp0 at *
  refine (szFraction_big xA xB xc xe xy xz (1048576) Wp0 (by omega) hmxy hmxz (by omega) (by omega)).mono ?_
  rintro e wz ⟨rfl, xz⟩
  go_wp2
  go_ret
  exact ⟨rfl, xw.trans xz⟩
set_option maxHeartbeats 4000000 in
set_option maxRecDepth 100000 in
theorem lawFractionInverse_walk (p : Int) (xA xB : Option Addr) (xc xe : Nat) (xn xd : List Int) (w : World) (xh : Rd w xA xn) (xk : Rd w xB xd) (hl : (xn.length : Int) + (xd.length : Int) ≤ 1048576) (ht : Tb w) :
    Calls Tryd.prog 10 #[.int .i64 p, .agg #[.slice xA xn.length xc, .slice xB xd.length xe]] w fun e w' => e = .returned (.bool true) ∧ Ex w w' := by
  obtain ⟨r0n, r0d, r1, hr⟩ : ∃ r0n r0d r1, invR p xn xd = (r0n, r0d, r1) := ⟨_, _, _, rfl⟩
  have Hr := Lib.hid hr
  clear hr
  have xw := (Ex.refl w).alloc (.cells #[.slice xA xn.length xc, .slice xB xd.length xe] 33)
  have v_x := VB.new w 33 #[.slice xA xn.length xc, .slice xB xd.length xe]
  go_enter Tryd.func10, Tryd.ntmps10
  go_wp2_with fail
  generalize w.alloc (.cells #[.slice xA xn.length xc, .slice xB xd.length xe] 33) = Wp0 at *
  have zWp := xw.size
  have xp := Ex.refl Wp0
  refine (szFraction_ok xA xB xc xe xn.length xd.length (1048576) Wp0 (by omega) (by omega)).mono ?_
  rintro e u1 ⟨rfl, xu1⟩
  replace xw := xw.trans xu1
  replace xp := xp.trans xu1
  have zu1 := xu1.size
  have qv_x0 := (v_x.ex xp).cell 0 (v := .slice xA xn.length xc) rfl
  have qv_x1 := (v_x.ex xp).cell 1 (v := .slice xB xd.length xe) rfl
  go_wp2_with fail
  clear qv_x0 qv_x1
  refine (toFraction_c xA xB xc xe xn xd u1 (xh.ex xw) (xk.ex xw)).mono ?_
  rintro e u2 ⟨Au2, cu2, Bu2, du2, rfl, fu2, ku2, apu2, xu2⟩
  replace fu2 := fu2.fi
  replace ku2 := ku2.fi
  replace xw := xw.trans xu2
  replace xp := xp.trans xu2
  have zu2 := xu2.size
  go_wp2_with fail
  refine (spFractionInverse_c _  _ _ _ _ _ _ u2 fu2.rd ku2.rd).mono ?_
  intro e u3 hu3
  rw [Hr.out] at hu3
  obtain ⟨Au3, cu3, Bu3, du3, rfl, fu3, ku3, apu3, xu3⟩ := hu3
  dsimp only at fu3 ku3 ⊢
  replace fu3 := fu3.fi
  replace ku3 := ku3.fi
  have lnfu3 := fu3.rd.len
  have lnku3 := ku3.rd.len
  replace xw := xw.trans xu3
  replace xp := xp.trans xu3
  replace fu2 := fu2.ex xu3
  replace ku2 := ku2.ex xu3
  have zu3 := xu3.size
  clear fu2 ku2
  have w0_fu3 := fu3.rd
  clear fu3
  have w0_ku3 := ku3.rd
  clear ku3
  have xs := Ex.refl u3
  have qv_x0 := ((v_x.ex xp).ex ((Ex.refl u3).alloc (.cells #[.slice Au3 r0n.length cu3, .slice Bu3 r0d.length du3] 37))).cell 0 (v := .slice xA xn.length xc) rfl
  have qv_x1 := ((v_x.ex xp).ex ((Ex.refl u3).alloc (.cells #[.slice Au3 r0n.length cu3, .slice Bu3 r0d.length du3] 37))).cell 1 (v := .slice xB xd.length xe) rfl
  go_wp2_with fail
  clear qv_x0 qv_x1
  have xa := (Ex.refl u3).alloc (.cells #[.slice Au3 r0n.length cu3, .slice Bu3 r0d.length du3] 37)
  have vw0 := VB.new u3 37 #[.slice Au3 r0n.length cu3, .slice Bu3 r0d.length du3]
  have vw0l := vw0.lt
  generalize u3.alloc (.cells #[.slice Au3 r0n.length cu3, .slice Bu3 r0d.length du3] 37) = u4 at *
  replace xw := xw.trans xa
  replace xp := xp.trans xa
  replace xs := xs.trans xa
  have zu4 := xa.size
  clear xa
  have xv := Ex.refl u4
  refine (toFraction_c xA xB xc xe xn xd u4 (xh.ex xw) (xk.ex xw)).mono ?_
  rintro e u5 ⟨Au5, cu5, Bu5, du5, rfl, fu5, ku5, apu5, xu5⟩
  replace fu5 := fu5.fi
  replace ku5 := ku5.fi
  replace xw := xw.trans xu5
  replace xp := xp.trans xu5
  replace xs := xs.trans xu5
  replace xv := xv.trans xu5
  have zu5 := xu5.size
  go_wp2_with fail
  have xa := (Ex.refl u5).alloc (.cells #[.slice Au5 xn.length cu5, .slice Bu5 xd.length du5] 37)
  have vx_x := VB.new u5 37 #[.slice Au5 xn.length cu5, .slice Bu5 xd.length du5]
  have vx_xl := vx_x.lt
  generalize u5.alloc (.cells #[.slice Au5 xn.length cu5, .slice Bu5 xd.length du5] 37) = u6 at *
  replace xw := xw.trans xa
  replace xp := xp.trans xa
  replace xs := xs.trans xa
  replace xv := xv.trans xa
  replace fu5 := fu5.ex xa
  replace ku5 := ku5.ex xa
  have zu6 := xa.size
  clear xa
  refine (FractionInverse_c _  _ _ _ _ _ _ u6 fu5.rd ku5.rd (ht.ex xw)).mono ?_
  intro e u7 hu7
  rw [Hr.out] at hu7
  obtain ⟨Au7, cu7, Bu7, du7, rfl, fu7, ku7, apu7, xu7⟩ := hu7
  dsimp only at fu7 ku7 ⊢
  replace fu7 := fu7.fi
  replace ku7 := ku7.fi
  replace xw := xw.trans xu7
  replace xp := xp.trans xu7
  replace xs := xs.trans xu7
  replace xv := xv.trans xu7
  replace fu5 := fu5.ex xu7
  replace ku5 := ku5.ex xu7
  replace vx_x := vx_x.ex xu7
  have zu7 := xu7.size
  have qvw00 := ((vw0.ex xv).ex ((Ex.refl u7).alloc (.cells #[.slice Au7 r0n.length cu7, .slice Bu7 r0d.length du7] 37))).cell 0 (v := .slice Au3 r0n.length cu3) rfl
  have qvw01 := ((vw0.ex xv).ex ((Ex.refl u7).alloc (.cells #[.slice Au7 r0n.length cu7, .slice Bu7 r0d.length du7] 37))).cell 1 (v := .slice Bu3 r0d.length du3) rfl
  go_wp2_with fail
  clear qvw00 qvw01
  have xa := (Ex.refl u7).alloc (.cells #[.slice Au7 r0n.length cu7, .slice Bu7 r0d.length du7] 37)
  have vg0 := VB.new u7 37 #[.slice Au7 r0n.length cu7, .slice Bu7 r0d.length du7]
  have vg0l := vg0.lt
  generalize u7.alloc (.cells #[.slice Au7 r0n.length cu7, .slice Bu7 r0d.length du7] 37) = u8 at *
  replace xw := xw.trans xa
  replace xp := xp.trans xa
  replace xs := xs.trans xa
  replace xv := xv.trans xa
  replace fu5 := fu5.ex xa
  replace ku5 := ku5.ex xa
  replace vx_x := vx_x.ex xa
  replace fu7 := fu7.ex xa
  replace ku7 := ku7.ex xa
  have zu8 := xa.size
  clear xa
  refine (eqFraction_c Au7 Bu7 Au3 Bu3 cu7 du7 cu3 du3 r0n r0d u8 fu7.rd ku7.rd (w0_fu3.ex xs) (w0_ku3.ex xs)).mono ?_
  rintro e u9 ⟨rfl, xu9⟩
  replace xw := xw.trans xu9
  replace xp := xp.trans xu9
  replace xs := xs.trans xu9
  replace xv := xv.trans xu9
  replace fu5 := fu5.ex xu9
  replace ku5 := ku5.ex xu9
  replace vx_x := vx_x.ex xu9
  replace fu7 := fu7.ex xu9
  replace ku7 := ku7.ex xu9
  replace vg0 := vg0.ex xu9
  have zu9 := xu9.size
  have qvx_x0 := vx_x.cell 0 (v := .slice Au5 xn.length cu5) rfl
  have qvx_x1 := vx_x.cell 1 (v := .slice Bu5 xd.length du5) rfl
  have qv_x0 := (v_x.ex xp).cell 0 (v := .slice xA xn.length xc) rfl
  have qv_x1 := (v_x.ex xp).cell 1 (v := .slice xB xd.length xe) rfl
  go_wp2_with fail
  go_region_with (first
    | (go_at_call 22
       refine (toFraction_c xA xB xc xe xn xd u9.drew (xh.ex xw.drew) (xk.ex xw.drew)).mono ?_
       rintro e u10 ⟨Au10, cu10, Bu10, du10, rfl, fu10, ku10, apu10, xu10⟩
       have qz0 := ((vx_x.drew).ex xu10).cell 0 (v := .slice Au5 xn.length cu5) rfl
       have qz1 := ((vx_x.drew).ex xu10).cell 1 (v := .slice Bu5 xd.length du5) rfl)
    | (go_at_call 24
       refine (eqFraction_c Au5 Bu5 Au10 Bu10 cu5 du5 cu10 du10 xn xd _ ((fu5.rd.drew).ex xu10) ((ku5.rd.drew).ex xu10) fu10.rd ku10.rd).mono ?_
       rintro e u11 ⟨rfl, xu11⟩))
  all_goals
    have xd : Ex u9 u11 := ((Ex.refl u9).drew.trans xu10).trans xu11
    clear qvx_x0 qvx_x1 qv_x0 qv_x1 qz0 qz1 fu10 ku10 apu10 xu10 xu11
    replace xw := xw.trans xd
    replace xp := xp.trans xd
    replace xs := xs.trans xd
    replace xv := xv.trans xd
    replace fu5 := fu5.ex xd
    replace ku5 := ku5.ex xd
    replace vx_x := vx_x.ex xd
    replace fu7 := fu7.ex xd
    replace ku7 := ku7.ex xd
    replace vg0 := vg0.ex xd
    have zu11 := xd.size
    clear xd
    have qvx_x0 := vx_x.cell 0 (v := .slice Au5 xn.length cu5) rfl
    have qvx_x1 := vx_x.cell 1 (v := .slice Bu5 xd.length du5) rfl
    go_wp2_with fail
    clear qvx_x0 qvx_x1
    refine (markFraction_i u4.heap.size u5.heap.size Au5 Bu5 cu5 du5 xn xd (1) u11 fu5 ku5 apu5 (by omega) (by omega) (by omega)).mono ?_
    rintro e u12 ⟨rfl, mu12, nu12, iu12⟩
    clear fu5 ku5
    replace xw := xw.iv iu12 (by omega)
    replace xp := xp.iv iu12 (by omega)
    replace xs := xs.iv iu12 (by omega)
    replace xv := xv.iv iu12 (by omega)
    replace vx_x := vx_x.iv iu12 (by omega)
    replace fu7 := fu7.iv iu12 (by omega)
    replace ku7 := ku7.iv iu12 (by omega)
    replace vg0 := vg0.iv iu12 (by omega)
    have zu12 := iu12.size
    clear mu12 nu12
    clear vx_x
    have qvg00 := vg0.cell 0 (v := .slice Au7 r0n.length cu7) rfl
    have qvg01 := vg0.cell 1 (v := .slice Bu7 r0d.length du7) rfl
    have qvw00 := (vw0.ex xv).cell 0 (v := .slice Au3 r0n.length cu3) rfl
    have qvw01 := (vw0.ex xv).cell 1 (v := .slice Bu3 r0d.length du3) rfl
    go_wp2_with fail
    clear qvg00 qvg01 qvw00 qvw01
    refine (eqFraction_c Au7 Bu7 Au3 Bu3 cu7 du7 cu3 du3 r0n r0d u12 fu7.rd ku7.rd (w0_fu3.ex xs) (w0_ku3.ex xs)).mono ?_
    rintro e u13 ⟨rfl, xu13⟩
    replace xw := xw.trans xu13
    replace xp := xp.trans xu13
    replace xs := xs.trans xu13
    replace xv := xv.trans xu13
    replace fu7 := fu7.ex xu13
    replace ku7 := ku7.ex xu13
    replace vg0 := vg0.ex xu13
    have zu13 := xu13.size
    have qvg00 := vg0.cell 0 (v := .slice Au7 r0n.length cu7) rfl
    have qvg01 := vg0.cell 1 (v := .slice Bu7 r0d.length du7) rfl
    go_wp2_with fail
    clear qvg00 qvg01
    refine (markFraction_i u6.heap.size u7.heap.size Au7 Bu7 cu7 du7 r0n r0d (1) u13 fu7 ku7 apu7 (by omega) (by omega) (by omega)).mono ?_
    rintro e u14 ⟨rfl, mu14, nu14, iu14⟩
    clear fu7 ku7
    replace xw := xw.iv iu14 (by omega)
    replace xp := xp.iv iu14 (by omega)
    replace xs := xs.iv iu14 (by omega)
    replace xv := xv.iv iu14 (by omega)
    replace vg0 := vg0.iv iu14 (by omega)
    have zu14 := iu14.size
    have qvg00 := vg0.cell 0 (v := .slice Au7 r0n.length cu7) rfl
    have qvg01 := vg0.cell 1 (v := .slice Bu7 r0d.length du7) rfl
    go_wp2_with fail
    clear qvg00 qvg01
    refine (heldFraction_c Au7 Bu7 cu7 du7 r0n.length r0d.length (1) u14 mu14.rd nu14.rd (by omega) (by omega)).mono ?_
    rintro e u15 ⟨rfl, xu15⟩
    replace xw := xw.trans xu15
    replace xp := xp.trans xu15
    replace xs := xs.trans xu15
    replace xv := xv.trans xu15
    replace vg0 := vg0.ex xu15
    replace mu14 := mu14.ex xu15
    replace nu14 := nu14.ex xu15
    have zu15 := xu15.size
    have qv_x0 := (v_x.ex xp).cell 0 (v := .slice xA xn.length xc) rfl
    have qv_x1 := (v_x.ex xp).cell 1 (v := .slice xB xd.length xe) rfl
    go_wp2_with fail
    clear qv_x0 qv_x1
    refine (toFraction_c xA xB xc xe xn xd u15 (xh.ex xw) (xk.ex xw)).mono ?_
    rintro e u16 ⟨Au16, cu16, Bu16, du16, rfl, fu16, ku16, apu16, xu16⟩
    replace fu16 := fu16.fi
    replace ku16 := ku16.fi
    replace xw := xw.trans xu16
    replace xp := xp.trans xu16
    replace xs := xs.trans xu16
    replace xv := xv.trans xu16
    replace vg0 := vg0.ex xu16
    replace mu14 := mu14.ex xu16
    replace nu14 := nu14.ex xu16
    have zu16 := xu16.size
    go_wp2_with fail
    refine (FractionInverse_c _  _ _ _ _ _ _ u16 fu16.rd ku16.rd (ht.ex xw)).mono ?_
    intro e u17 hu17
    rw [Hr.out] at hu17
    obtain ⟨Au17, cu17, Bu17, du17, rfl, fu17, ku17, apu17, xu17⟩ := hu17
    dsimp only at fu17 ku17 ⊢
    replace fu17 := fu17.fi
    replace ku17 := ku17.fi
    replace xw := xw.trans xu17
    replace xp := xp.trans xu17
    replace xs := xs.trans xu17
    replace xv := xv.trans xu17
    replace vg0 := vg0.ex xu17
    replace mu14 := mu14.ex xu17
    replace nu14 := nu14.ex xu17
    replace fu16 := fu16.ex xu17
    replace ku16 := ku16.ex xu17
    have zu17 := xu17.size
    clear fu16 ku16
    have qvw00 := ((vw0.ex xv).ex ((Ex.refl u17).alloc (.cells #[.slice Au17 r0n.length cu17, .slice Bu17 r0d.length du17] 37))).cell 0 (v := .slice Au3 r0n.length cu3) rfl
    have qvw01 := ((vw0.ex xv).ex ((Ex.refl u17).alloc (.cells #[.slice Au17 r0n.length cu17, .slice Bu17 r0d.length du17] 37))).cell 1 (v := .slice Bu3 r0d.length du3) rfl
    go_wp2_with fail
    clear qvw00 qvw01
    have xa := (Ex.refl u17).alloc (.cells #[.slice Au17 r0n.length cu17, .slice Bu17 r0d.length du17] 37)
    have vh0 := VB.new u17 37 #[.slice Au17 r0n.length cu17, .slice Bu17 r0d.length du17]
    have vh0l := vh0.lt
    generalize u17.alloc (.cells #[.slice Au17 r0n.length cu17, .slice Bu17 r0d.length du17] 37) = u18 at *
    replace xw := xw.trans xa
    replace xp := xp.trans xa
    replace xs := xs.trans xa
    replace xv := xv.trans xa
    replace vg0 := vg0.ex xa
    replace mu14 := mu14.ex xa
    replace nu14 := nu14.ex xa
    replace fu17 := fu17.ex xa
    replace ku17 := ku17.ex xa
    have zu18 := xa.size
    clear xa
    refine (eqFraction_c Au17 Bu17 Au3 Bu3 cu17 du17 cu3 du3 r0n r0d u18 fu17.rd ku17.rd (w0_fu3.ex xs) (w0_ku3.ex xs)).mono ?_
    rintro e u19 ⟨rfl, xu19⟩
    replace xw := xw.trans xu19
    replace xp := xp.trans xu19
    replace xs := xs.trans xu19
    replace xv := xv.trans xu19
    replace vg0 := vg0.ex xu19
    replace mu14 := mu14.ex xu19
    replace nu14 := nu14.ex xu19
    replace fu17 := fu17.ex xu19
    replace ku17 := ku17.ex xu19
    replace vh0 := vh0.ex xu19
    have zu19 := xu19.size
    have qvg00 := vg0.cell 0 (v := .slice Au7 r0n.length cu7) rfl
    have qvg01 := vg0.cell 1 (v := .slice Bu7 r0d.length du7) rfl
    go_wp2_with fail
    clear qvg00 qvg01
    refine (heldFraction_c Au7 Bu7 cu7 du7 r0n.length r0d.length (1) u19 mu14.rd nu14.rd (by omega) (by omega)).mono ?_
    rintro e u20 ⟨rfl, xu20⟩
    replace xw := xw.trans xu20
    replace xp := xp.trans xu20
    replace xs := xs.trans xu20
    replace xv := xv.trans xu20
    replace vg0 := vg0.ex xu20
    replace mu14 := mu14.ex xu20
    replace nu14 := nu14.ex xu20
    replace fu17 := fu17.ex xu20
    replace ku17 := ku17.ex xu20
    replace vh0 := vh0.ex xu20
    have zu20 := xu20.size
    clear ht Hr 
    go_wp2
    all_goals go_ret
    exact ⟨rfl, xw⟩
end Go.Proofs.YtpiplogjbeofoaaDoor
