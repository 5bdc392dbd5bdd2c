/- The law on ParseFraction: the program's answer is the reference's, for all arguments; the walk of the law's own text. No conditions. -/
import Derived.Test.YtfggacnkediolaaGreatDoorPfA
import Derived.Test.YtfggacnkediolaaGreatDoorLawFrac2
import Derived.RegionCalls
import Derived.Deep.RegionWith
import Derived.Deep.RegionHeld3
import Derived.Deep.Cut
namespace Go.Proofs.YtfggacnkediolaaGreatDoor
set_option maxRecDepth 100000
open Go Go.RowKit
set_option maxHeartbeats 4000000 in
set_option maxRecDepth 100000 in
theorem lawParseFraction_big1 (p : Int) (s : ByteArray) (w : World) (hbig : 1048576 < s.size) :
    Calls Tryz.prog 3 #[.int .i64 p, .string s] w fun e w' => e = .returned (.bool true) ∧ Ex w w' := by
  go_enter Tryz.func3, Tryz.ntmps3
  go_wp2
  go_ret
  exact ⟨rfl, Ex.refl w⟩
set_option maxHeartbeats 4000000 in
set_option maxRecDepth 100000 in
theorem lawParseFraction_walk (p : Int) (s : ByteArray) (w : World) (sh : s.size ≤ 1048576) (ht : Wl w) :
    Calls Tryz.prog 3 #[.int .i64 p, .string s] w fun e w' => e = .returned (.bool true) ∧ Ex w w' := by
  obtain ⟨r0n, r0d, r1, hr⟩ : ∃ r0n r0d r1, pfR p s.data.toList = (r0n, r0d, r1) := ⟨_, _, _, rfl⟩
  have Hr := Lib.hid hr
  clear hr
  have xw := Ex.refl w
  go_enter Tryz.func3, Tryz.ntmps3
  go_wp2_with fail
  refine (spParseFraction_c _  _ w sh).mono ?_
  intro e o1 ho1
  rw [Hr.out] at ho1
  obtain ⟨Ao1, co1, Bo1, do1, rfl, fo1, ko1, apo1, xo1⟩ := ho1
  dsimp only at fo1 ko1 ⊢
  replace fo1 := fo1.fi
  replace ko1 := ko1.fi
  have lnfo1 := fo1.rd.len
  have lnko1 := ko1.rd.len
  replace xw := xw.trans xo1
  have zo1 := xo1.size
  have w0_fo1 := fo1.rd
  clear fo1
  have w0_ko1 := ko1.rd
  clear ko1
  have xs := Ex.refl o1
  go_wp2_with fail
  have xa := (Ex.refl o1).alloc (.cells #[.slice Ao1 r0n.length co1, .slice Bo1 r0d.length do1] 24)
  have vw0 := VB.new o1 24 #[.slice Ao1 r0n.length co1, .slice Bo1 r0d.length do1]
  have vw0l := vw0.lt
  generalize o1.alloc (.cells #[.slice Ao1 r0n.length co1, .slice Bo1 r0d.length do1] 24) = o2 at *
  replace xw := xw.trans xa
  replace xs := xs.trans xa
  have zo2 := xa.size
  clear xa
  have xv := Ex.refl o2
  refine (ParseFraction_c _  _ o2 sh (ht.ex xw)).mono ?_
  intro e o3 ho3
  rw [Hr.out] at ho3
  obtain ⟨Ao3, co3, Bo3, do3, rfl, fo3, ko3, apo3, xo3⟩ := ho3
  dsimp only at fo3 ko3 ⊢
  replace fo3 := fo3.fi
  replace ko3 := ko3.fi
  replace xw := xw.trans xo3
  replace xs := xs.trans xo3
  replace xv := xv.trans xo3
  have zo3 := xo3.size
  have qvw00 := ((vw0.ex xv).ex ((Ex.refl o3).alloc (.cells #[.slice Ao3 r0n.length co3, .slice Bo3 r0d.length do3] 24))).cell 0 (v := .slice Ao1 r0n.length co1) rfl
  have qvw01 := ((vw0.ex xv).ex ((Ex.refl o3).alloc (.cells #[.slice Ao3 r0n.length co3, .slice Bo3 r0d.length do3] 24))).cell 1 (v := .slice Bo1 r0d.length do1) rfl
  go_wp2_with fail
  clear qvw00 qvw01
  have xa := (Ex.refl o3).alloc (.cells #[.slice Ao3 r0n.length co3, .slice Bo3 r0d.length do3] 24)
  have vg0 := VB.new o3 24 #[.slice Ao3 r0n.length co3, .slice Bo3 r0d.length do3]
  have vg0l := vg0.lt
  generalize o3.alloc (.cells #[.slice Ao3 r0n.length co3, .slice Bo3 r0d.length do3] 24) = o4 at *
  replace xw := xw.trans xa
  replace xs := xs.trans xa
  replace xv := xv.trans xa
  replace fo3 := fo3.ex xa
  replace ko3 := ko3.ex xa
  have zo4 := xa.size
  clear xa
  refine (eqFraction_c Ao3 Bo3 Ao1 Bo1 co3 do3 co1 do1 r0n r0d o4 fo3.rd ko3.rd (w0_fo1.ex xs) (w0_ko1.ex xs)).mono ?_
  rintro e o5 ⟨rfl, xo5⟩
  replace xw := xw.trans xo5
  replace xs := xs.trans xo5
  replace xv := xv.trans xo5
  replace fo3 := fo3.ex xo5
  replace ko3 := ko3.ex xo5
  replace vg0 := vg0.ex xo5
  have zo5 := xo5.size
  have qvg00 := vg0.cell 0 (v := .slice Ao3 r0n.length co3) rfl
  have qvg01 := vg0.cell 1 (v := .slice Bo3 r0d.length do3) rfl
  go_wp2_with fail
  clear qvg00 qvg01
  refine (markFraction_i (o2.heap.size) (o3.heap.size) Ao3 Bo3 co3 do3 r0n r0d (1) o5 fo3 ko3 apo3 (by omega) (by omega) (by omega)).mono ?_
  rintro e o6 ⟨rfl, mo6, no6, io6⟩
  clear fo3 ko3
  replace xw := xw.iv io6 (by omega)
  replace xs := xs.iv io6 (by omega)
  replace xv := xv.iv io6 (by omega)
  replace vg0 := vg0.iv io6 (by omega)
  have zo6 := io6.size
  have qvg00 := vg0.cell 0 (v := .slice Ao3 r0n.length co3) rfl
  have qvg01 := vg0.cell 1 (v := .slice Bo3 r0d.length do3) rfl
  go_wp2_with fail
  clear qvg00 qvg01
  refine (heldFraction_c Ao3 Bo3 co3 do3 r0n.length r0d.length (1) o6 mo6.rd no6.rd (by omega) (by omega)).mono ?_
  rintro e o7 ⟨rfl, xo7⟩
  replace xw := xw.trans xo7
  replace xs := xs.trans xo7
  replace xv := xv.trans xo7
  replace vg0 := vg0.ex xo7
  replace mo6 := mo6.ex xo7
  replace no6 := no6.ex xo7
  have zo7 := xo7.size
  go_wp2_with fail
  refine (ParseFraction_c _  _ o7 sh (ht.ex xw)).mono ?_
  intro e o8 ho8
  rw [Hr.out] at ho8
  obtain ⟨Ao8, co8, Bo8, do8, rfl, fo8, ko8, apo8, xo8⟩ := ho8
  dsimp only at fo8 ko8 ⊢
  replace fo8 := fo8.fi
  replace ko8 := ko8.fi
  replace xw := xw.trans xo8
  replace xs := xs.trans xo8
  replace xv := xv.trans xo8
  replace vg0 := vg0.ex xo8
  replace mo6 := mo6.ex xo8
  replace no6 := no6.ex xo8
  have zo8 := xo8.size
  have qvw00 := ((vw0.ex xv).ex ((Ex.refl o8).alloc (.cells #[.slice Ao8 r0n.length co8, .slice Bo8 r0d.length do8] 24))).cell 0 (v := .slice Ao1 r0n.length co1) rfl
  have qvw01 := ((vw0.ex xv).ex ((Ex.refl o8).alloc (.cells #[.slice Ao8 r0n.length co8, .slice Bo8 r0d.length do8] 24))).cell 1 (v := .slice Bo1 r0d.length do1) rfl
  go_wp2_with fail
  clear qvw00 qvw01
  have xa := (Ex.refl o8).alloc (.cells #[.slice Ao8 r0n.length co8, .slice Bo8 r0d.length do8] 24)
  have vh0 := VB.new o8 24 #[.slice Ao8 r0n.length co8, .slice Bo8 r0d.length do8]
  have vh0l := vh0.lt
  generalize o8.alloc (.cells #[.slice Ao8 r0n.length co8, .slice Bo8 r0d.length do8] 24) = o9 at *
  replace xw := xw.trans xa
  replace xs := xs.trans xa
  replace xv := xv.trans xa
  replace vg0 := vg0.ex xa
  replace mo6 := mo6.ex xa
  replace no6 := no6.ex xa
  replace fo8 := fo8.ex xa
  replace ko8 := ko8.ex xa
  have zo9 := xa.size
  clear xa
  refine (eqFraction_c Ao8 Bo8 Ao1 Bo1 co8 do8 co1 do1 r0n r0d o9 fo8.rd ko8.rd (w0_fo1.ex xs) (w0_ko1.ex xs)).mono ?_
  rintro e o10 ⟨rfl, xo10⟩
  replace xw := xw.trans xo10
  replace xs := xs.trans xo10
  replace xv := xv.trans xo10
  replace vg0 := vg0.ex xo10
  replace mo6 := mo6.ex xo10
  replace no6 := no6.ex xo10
  replace fo8 := fo8.ex xo10
  replace ko8 := ko8.ex xo10
  replace vh0 := vh0.ex xo10
  have zo10 := xo10.size
  have qvg00 := vg0.cell 0 (v := .slice Ao3 r0n.length co3) rfl
  have qvg01 := vg0.cell 1 (v := .slice Bo3 r0d.length do3) rfl
  go_wp2_with fail
  clear qvg00 qvg01
  refine (heldFraction_c Ao3 Bo3 co3 do3 r0n.length r0d.length (1) o10 mo6.rd no6.rd (by omega) (by omega)).mono ?_
  rintro e o11 ⟨rfl, xo11⟩
  replace xw := xw.trans xo11
  replace xs := xs.trans xo11
  replace xv := xv.trans xo11
  replace vg0 := vg0.ex xo11
  replace mo6 := mo6.ex xo11
  replace no6 := no6.ex xo11
  replace fo8 := fo8.ex xo11
  replace ko8 := ko8.ex xo11
  replace vh0 := vh0.ex xo11
  have zo11 := xo11.size
  clear ht Hr 
  go_wp2
  all_goals go_ret
  exact ⟨rfl, xw⟩
end Go.Proofs.YtfggacnkediolaaGreatDoor
