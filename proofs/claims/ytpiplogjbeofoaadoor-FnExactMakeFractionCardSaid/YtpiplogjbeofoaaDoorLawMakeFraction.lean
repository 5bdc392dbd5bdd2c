/- The law on MakeFraction: the program's answer is the reference's, for all arguments; the walk of the law's own text. No conditions. -/
import Derived.Test.YtpiplogjbeofoaaDoorFrac6
import Derived.Test.YtpiplogjbeofoaaDoorLawFrac2
import Derived.RegionCalls
import Derived.Deep.RegionWith
namespace Go.Proofs.YtpiplogjbeofoaaDoor
set_option maxRecDepth 100000
open Go Go.RowKit
set_option maxHeartbeats 4000000 in
set_option maxRecDepth 100000 in
theorem lawMakeFraction_big1 (p : Int) (fA : Option Addr) (fc fz : Nat) (gA : Option Addr) (gc gz : Nat) (w : World) (hbig : 1048576 < fz) :
    Calls Tryd.prog 6 #[.int .i64 p, .slice fA fz fc, .slice gA gz gc] w fun e w' => e = .returned (.bool true) ∧ Ex w w' := by
  go_enter Tryd.func6, Tryd.ntmps6
  go_wp2
  go_ret
  exact ⟨rfl, Ex.refl w⟩
set_option maxHeartbeats 4000000 in
set_option maxRecDepth 100000 in
theorem lawMakeFraction_big2 (p : Int) (fA : Option Addr) (fc fz : Nat) (gA : Option Addr) (gc gz : Nat) (w : World) (hokf : fz ≤ 1048576) (hbig : 1048576 < gz) :
    Calls Tryd.prog 6 #[.int .i64 p, .slice fA fz fc, .slice gA gz gc] w fun e w' => e = .returned (.bool true) ∧ Ex w w' := by
  go_enter Tryd.func6, Tryd.ntmps6
  go_wp2
  go_ret
  exact ⟨rfl, Ex.refl w⟩
set_option maxHeartbeats 4000000 in
set_option maxRecDepth 100000 in
theorem lawMakeFraction_walk (p : Int) (fA : Option Addr) (fc : Nat) (f : List Int) (gA : Option Addr) (gc : Nat) (g : List Int) (w : World) (fh : Rd w fA f) (gh : Rd w gA g) (hlf : f.length ≤ 1048576) (hlg : g.length ≤ 1048576) (ht : Tb w) :
    Calls Tryd.prog 6 #[.int .i64 p, .slice fA f.length fc, .slice gA g.length gc] w fun e w' => e = .returned (.bool true) ∧ Ex w w' := by
  obtain ⟨r0n, r0d, r1, hr⟩ : ∃ r0n r0d r1, mkR p f g = (r0n, r0d, r1) := ⟨_, _, _, rfl⟩
  have Hr := Lib.hid hr
  clear hr
  have xw := Ex.refl w
  go_enter Tryd.func6, Tryd.ntmps6
  go_wp2_with fail
  refine (toIntS_c fA fc f w (fh.ex xw)).mono ?_
  rintro e u1 ⟨gu1, rfl, hgu1, bgu1, xu1⟩
  have fu1 := (bgu1.fr (B := w.heap.size) fh.len hgu1 (Nat.le_refl _)).fi
  clear hgu1 bgu1
  replace xw := xw.trans xu1
  have zu1 := xu1.size
  go_wp2_with fail
  refine (toIntS_c gA gc g u1 (gh.ex xw)).mono ?_
  rintro e u2 ⟨gu2, rfl, hgu2, bgu2, xu2⟩
  have fu2 := (bgu2.fr (B := u1.heap.size) gh.len hgu2 (Nat.le_refl _)).fi
  clear hgu2 bgu2
  replace xw := xw.trans xu2
  replace fu1 := fu1.ex xu2
  have zu2 := xu2.size
  go_wp2_with fail
  refine (spMakeFraction_c _  _ _ _  _ _ _ u2 fu1.rd fu2.rd).mono ?_
  intro e u3 hu3
  rw [Hr.out] at hu3
  obtain ⟨Au3, cu3, Bu3, du3, rfl, fu3, ku3, apu3, xu3⟩ := hu3
  dsimp only at fu3 ku3 ⊢
  replace fu3 := fu3.fi
  replace ku3 := ku3.fi
  have lnfu3 := fu3.rd.len
  have lnku3 := ku3.rd.len
  replace xw := xw.trans xu3
  replace fu1 := fu1.ex xu3
  replace fu2 := fu2.ex xu3
  have zu3 := xu3.size
  clear fu1
  clear fu2
  have w0_fu3 := fu3.rd
  clear fu3
  have w0_ku3 := ku3.rd
  clear ku3
  have xs := Ex.refl u3
  go_wp2_with fail
  have xa := (Ex.refl u3).alloc (.cells #[.slice Au3 r0n.length cu3, .slice Bu3 r0d.length du3] 37)
  have vw0 := VB.new u3 37 #[.slice Au3 r0n.length cu3, .slice Bu3 r0d.length du3]
  have vw0l := vw0.lt
  generalize u3.alloc (.cells #[.slice Au3 r0n.length cu3, .slice Bu3 r0d.length du3] 37) = u4 at *
  replace xw := xw.trans xa
  replace xs := xs.trans xa
  have zu4 := xa.size
  clear xa
  have xv := Ex.refl u4
  refine (toIntS_c fA fc f u4 (fh.ex xw)).mono ?_
  rintro e u5 ⟨gu5, rfl, hgu5, bgu5, xu5⟩
  have fu5 := (bgu5.fr (B := u4.heap.size) fh.len hgu5 (Nat.le_refl _)).fi
  clear hgu5 bgu5
  replace xw := xw.trans xu5
  replace xs := xs.trans xu5
  replace xv := xv.trans xu5
  have zu5 := xu5.size
  go_wp2_with fail
  refine (toIntS_c gA gc g u5 (gh.ex xw)).mono ?_
  rintro e u6 ⟨gu6, rfl, hgu6, bgu6, xu6⟩
  have fu6 := (bgu6.fr (B := u5.heap.size) gh.len hgu6 (Nat.le_refl _)).fi
  clear hgu6 bgu6
  replace xw := xw.trans xu6
  replace xs := xs.trans xu6
  replace xv := xv.trans xu6
  replace fu5 := fu5.ex xu6
  have zu6 := xu6.size
  go_wp2_with fail
  refine (MakeFraction_c _  _ _ _  _ _ _ u6 fu5.rd fu6.rd (ht.ex xw)).mono ?_
  intro e u7 hu7
  rw [Hr.out] at hu7
  obtain ⟨Au7, cu7, Bu7, du7, rfl, fu7, ku7, apu7, xu7⟩ := hu7
  dsimp only at fu7 ku7 ⊢
  replace fu7 := fu7.fi
  replace ku7 := ku7.fi
  replace xw := xw.trans xu7
  replace xs := xs.trans xu7
  replace xv := xv.trans xu7
  replace fu5 := fu5.ex xu7
  replace fu6 := fu6.ex xu7
  have zu7 := xu7.size
  have qvw00 := ((vw0.ex xv).ex ((Ex.refl u7).alloc (.cells #[.slice Au7 r0n.length cu7, .slice Bu7 r0d.length du7] 37))).cell 0 (v := .slice Au3 r0n.length cu3) rfl
  have qvw01 := ((vw0.ex xv).ex ((Ex.refl u7).alloc (.cells #[.slice Au7 r0n.length cu7, .slice Bu7 r0d.length du7] 37))).cell 1 (v := .slice Bu3 r0d.length du3) rfl
  go_wp2_with fail
  clear qvw00 qvw01
  have xa := (Ex.refl u7).alloc (.cells #[.slice Au7 r0n.length cu7, .slice Bu7 r0d.length du7] 37)
  have vg0 := VB.new u7 37 #[.slice Au7 r0n.length cu7, .slice Bu7 r0d.length du7]
  have vg0l := vg0.lt
  generalize u7.alloc (.cells #[.slice Au7 r0n.length cu7, .slice Bu7 r0d.length du7] 37) = u8 at *
  replace xw := xw.trans xa
  replace xs := xs.trans xa
  replace xv := xv.trans xa
  replace fu5 := fu5.ex xa
  replace fu6 := fu6.ex xa
  replace fu7 := fu7.ex xa
  replace ku7 := ku7.ex xa
  have zu8 := xa.size
  clear xa
  refine (eqFraction_c Au7 Bu7 Au3 Bu3 cu7 du7 cu3 du3 r0n r0d u8 fu7.rd ku7.rd (w0_fu3.ex xs) (w0_ku3.ex xs)).mono ?_
  rintro e u9 ⟨rfl, xu9⟩
  replace xw := xw.trans xu9
  replace xs := xs.trans xu9
  replace xv := xv.trans xu9
  replace fu5 := fu5.ex xu9
  replace fu6 := fu6.ex xu9
  replace fu7 := fu7.ex xu9
  replace ku7 := ku7.ex xu9
  replace vg0 := vg0.ex xu9
  have zu9 := xu9.size
  go_wp2_with fail
  refine (toIntS_c fA fc f u9 (fh.ex xw)).mono ?_
  rintro e u10 ⟨gu10, rfl, hgu10, bgu10, xu10⟩
  have fu10 := (bgu10.fr (B := u9.heap.size) fh.len hgu10 (Nat.le_refl _)).fi
  clear hgu10 bgu10
  replace xw := xw.trans xu10
  replace xs := xs.trans xu10
  replace xv := xv.trans xu10
  replace fu5 := fu5.ex xu10
  replace fu6 := fu6.ex xu10
  replace fu7 := fu7.ex xu10
  replace ku7 := ku7.ex xu10
  replace vg0 := vg0.ex xu10
  have zu10 := xu10.size
  go_wp2_with fail
  refine (eqIntS_c (some ⟨gu5, 0, none⟩) (some ⟨gu10, 0, none⟩) f.length f.length f u10 fu5.rd fu10.rd).mono ?_
  rintro e u11 ⟨rfl, xu11⟩
  replace xw := xw.trans xu11
  replace xs := xs.trans xu11
  replace xv := xv.trans xu11
  replace fu5 := fu5.ex xu11
  replace fu6 := fu6.ex xu11
  replace fu7 := fu7.ex xu11
  replace ku7 := ku7.ex xu11
  replace vg0 := vg0.ex xu11
  replace fu10 := fu10.ex xu11
  have zu11 := xu11.size
  clear fu10
  go_wp2_with fail
  refine (toIntS_c gA gc g u11 (gh.ex xw)).mono ?_
  rintro e u12 ⟨gu12, rfl, hgu12, bgu12, xu12⟩
  have fu12 := (bgu12.fr (B := u11.heap.size) gh.len hgu12 (Nat.le_refl _)).fi
  clear hgu12 bgu12
  replace xw := xw.trans xu12
  replace xs := xs.trans xu12
  replace xv := xv.trans xu12
  replace fu5 := fu5.ex xu12
  replace fu6 := fu6.ex xu12
  replace fu7 := fu7.ex xu12
  replace ku7 := ku7.ex xu12
  replace vg0 := vg0.ex xu12
  have zu12 := xu12.size
  go_wp2_with fail
  refine (eqIntS_c (some ⟨gu6, 0, none⟩) (some ⟨gu12, 0, none⟩) g.length g.length g u12 fu6.rd fu12.rd).mono ?_
  rintro e u13 ⟨rfl, xu13⟩
  replace xw := xw.trans xu13
  replace xs := xs.trans xu13
  replace xv := xv.trans xu13
  replace fu5 := fu5.ex xu13
  replace fu6 := fu6.ex xu13
  replace fu7 := fu7.ex xu13
  replace ku7 := ku7.ex xu13
  replace vg0 := vg0.ex xu13
  replace fu12 := fu12.ex xu13
  have zu13 := xu13.size
  clear fu12
  go_wp2_with fail
  refine (markIntS_i u4.heap.size u5.heap.size (some ⟨gu5, 0, none⟩) f.length f (1) u13 fu5 (by omega) (by omega)).mono ?_
  rintro e u14 ⟨rfl, mu14, iu14⟩
  clear fu5
  replace xw := xw.iv iu14 (by omega)
  replace xs := xs.iv iu14 (by omega)
  replace xv := xv.iv iu14 (by omega)
  replace fu6 := fu6.iv iu14 (by omega)
  replace fu7 := fu7.iv iu14 (by omega)
  replace ku7 := ku7.iv iu14 (by omega)
  replace vg0 := vg0.iv iu14 (by omega)
  have zu14 := iu14.size
  clear mu14
  go_wp2_with fail
  refine (markIntS_i u5.heap.size u6.heap.size (some ⟨gu6, 0, none⟩) g.length g (1 + (f.length : Int)) u14 fu6 (by omega) (by omega)).mono ?_
  rintro e u15 ⟨rfl, mu15, iu15⟩
  clear fu6
  replace xw := xw.iv iu15 (by omega)
  replace xs := xs.iv iu15 (by omega)
  replace xv := xv.iv iu15 (by omega)
  replace fu7 := fu7.iv iu15 (by omega)
  replace ku7 := ku7.iv iu15 (by omega)
  replace vg0 := vg0.iv iu15 (by omega)
  have zu15 := iu15.size
  clear mu15
  have qvg00 := vg0.cell 0 (v := .slice Au7 r0n.length cu7) rfl
  have qvg01 := vg0.cell 1 (v := .slice Bu7 r0d.length du7) rfl
  have qvw00 := (vw0.ex xv).cell 0 (v := .slice Au3 r0n.length cu3) rfl
  have qvw01 := (vw0.ex xv).cell 1 (v := .slice Bu3 r0d.length du3) rfl
  go_wp2_with fail
  clear qvg00 qvg01 qvw00 qvw01
  refine (eqFraction_c Au7 Bu7 Au3 Bu3 cu7 du7 cu3 du3 r0n r0d u15 fu7.rd ku7.rd (w0_fu3.ex xs) (w0_ku3.ex xs)).mono ?_
  rintro e u16 ⟨rfl, xu16⟩
  replace xw := xw.trans xu16
  replace xs := xs.trans xu16
  replace xv := xv.trans xu16
  replace fu7 := fu7.ex xu16
  replace ku7 := ku7.ex xu16
  replace vg0 := vg0.ex xu16
  have zu16 := xu16.size
  have qvg00 := vg0.cell 0 (v := .slice Au7 r0n.length cu7) rfl
  have qvg01 := vg0.cell 1 (v := .slice Bu7 r0d.length du7) rfl
  go_wp2_with fail
  clear qvg00 qvg01
  refine (markFraction_i u6.heap.size u7.heap.size Au7 Bu7 cu7 du7 r0n r0d (1) u16 fu7 ku7 apu7 (by omega) (by omega) (by omega)).mono ?_
  rintro e u17 ⟨rfl, mu17, nu17, iu17⟩
  clear fu7 ku7
  replace xw := xw.iv iu17 (by omega)
  replace xs := xs.iv iu17 (by omega)
  replace xv := xv.iv iu17 (by omega)
  replace vg0 := vg0.iv iu17 (by omega)
  have zu17 := iu17.size
  have qvg00 := vg0.cell 0 (v := .slice Au7 r0n.length cu7) rfl
  have qvg01 := vg0.cell 1 (v := .slice Bu7 r0d.length du7) rfl
  go_wp2_with fail
  clear qvg00 qvg01
  refine (heldFraction_c Au7 Bu7 cu7 du7 r0n.length r0d.length (1) u17 mu17.rd nu17.rd (by omega) (by omega)).mono ?_
  rintro e u18 ⟨rfl, xu18⟩
  replace xw := xw.trans xu18
  replace xs := xs.trans xu18
  replace xv := xv.trans xu18
  replace vg0 := vg0.ex xu18
  replace mu17 := mu17.ex xu18
  replace nu17 := nu17.ex xu18
  have zu18 := xu18.size
  go_wp2_with fail
  refine (toIntS_c fA fc f u18 (fh.ex xw)).mono ?_
  rintro e u19 ⟨gu19, rfl, hgu19, bgu19, xu19⟩
  have fu19 := (bgu19.fr (B := u18.heap.size) fh.len hgu19 (Nat.le_refl _)).fi
  clear hgu19 bgu19
  replace xw := xw.trans xu19
  replace xs := xs.trans xu19
  replace xv := xv.trans xu19
  replace vg0 := vg0.ex xu19
  replace mu17 := mu17.ex xu19
  replace nu17 := nu17.ex xu19
  have zu19 := xu19.size
  go_wp2_with fail
  refine (toIntS_c gA gc g u19 (gh.ex xw)).mono ?_
  rintro e u20 ⟨gu20, rfl, hgu20, bgu20, xu20⟩
  have fu20 := (bgu20.fr (B := u19.heap.size) gh.len hgu20 (Nat.le_refl _)).fi
  clear hgu20 bgu20
  replace xw := xw.trans xu20
  replace xs := xs.trans xu20
  replace xv := xv.trans xu20
  replace vg0 := vg0.ex xu20
  replace mu17 := mu17.ex xu20
  replace nu17 := nu17.ex xu20
  replace fu19 := fu19.ex xu20
  have zu20 := xu20.size
  go_wp2_with fail
  refine (MakeFraction_c _  _ _ _  _ _ _ u20 fu19.rd fu20.rd (ht.ex xw)).mono ?_
  intro e u21 hu21
  rw [Hr.out] at hu21
  obtain ⟨Au21, cu21, Bu21, du21, rfl, fu21, ku21, apu21, xu21⟩ := hu21
  dsimp only at fu21 ku21 ⊢
  replace fu21 := fu21.fi
  replace ku21 := ku21.fi
  replace xw := xw.trans xu21
  replace xs := xs.trans xu21
  replace xv := xv.trans xu21
  replace vg0 := vg0.ex xu21
  replace mu17 := mu17.ex xu21
  replace nu17 := nu17.ex xu21
  replace fu19 := fu19.ex xu21
  replace fu20 := fu20.ex xu21
  have zu21 := xu21.size
  clear fu19
  clear fu20
  have qvw00 := ((vw0.ex xv).ex ((Ex.refl u21).alloc (.cells #[.slice Au21 r0n.length cu21, .slice Bu21 r0d.length du21] 37))).cell 0 (v := .slice Au3 r0n.length cu3) rfl
  have qvw01 := ((vw0.ex xv).ex ((Ex.refl u21).alloc (.cells #[.slice Au21 r0n.length cu21, .slice Bu21 r0d.length du21] 37))).cell 1 (v := .slice Bu3 r0d.length du3) rfl
  go_wp2_with fail
  clear qvw00 qvw01
  have xa := (Ex.refl u21).alloc (.cells #[.slice Au21 r0n.length cu21, .slice Bu21 r0d.length du21] 37)
  have vh0 := VB.new u21 37 #[.slice Au21 r0n.length cu21, .slice Bu21 r0d.length du21]
  have vh0l := vh0.lt
  generalize u21.alloc (.cells #[.slice Au21 r0n.length cu21, .slice Bu21 r0d.length du21] 37) = u22 at *
  replace xw := xw.trans xa
  replace xs := xs.trans xa
  replace xv := xv.trans xa
  replace vg0 := vg0.ex xa
  replace mu17 := mu17.ex xa
  replace nu17 := nu17.ex xa
  replace fu21 := fu21.ex xa
  replace ku21 := ku21.ex xa
  have zu22 := xa.size
  clear xa
  refine (eqFraction_c Au21 Bu21 Au3 Bu3 cu21 du21 cu3 du3 r0n r0d u22 fu21.rd ku21.rd (w0_fu3.ex xs) (w0_ku3.ex xs)).mono ?_
  rintro e u23 ⟨rfl, xu23⟩
  replace xw := xw.trans xu23
  replace xs := xs.trans xu23
  replace xv := xv.trans xu23
  replace vg0 := vg0.ex xu23
  replace mu17 := mu17.ex xu23
  replace nu17 := nu17.ex xu23
  replace fu21 := fu21.ex xu23
  replace ku21 := ku21.ex xu23
  replace vh0 := vh0.ex xu23
  have zu23 := xu23.size
  have qvg00 := vg0.cell 0 (v := .slice Au7 r0n.length cu7) rfl
  have qvg01 := vg0.cell 1 (v := .slice Bu7 r0d.length du7) rfl
  go_wp2_with fail
  clear qvg00 qvg01
  refine (heldFraction_c Au7 Bu7 cu7 du7 r0n.length r0d.length (1) u23 mu17.rd nu17.rd (by omega) (by omega)).mono ?_
  rintro e u24 ⟨rfl, xu24⟩
  replace xw := xw.trans xu24
  replace xs := xs.trans xu24
  replace xv := xv.trans xu24
  replace vg0 := vg0.ex xu24
  replace mu17 := mu17.ex xu24
  replace nu17 := nu17.ex xu24
  replace fu21 := fu21.ex xu24
  replace ku21 := ku21.ex xu24
  replace vh0 := vh0.ex xu24
  have zu24 := xu24.size
  clear ht Hr 
  go_wp2
  all_goals go_ret
  exact ⟨rfl, xw⟩
end Go.Proofs.YtpiplogjbeofoaaDoor
