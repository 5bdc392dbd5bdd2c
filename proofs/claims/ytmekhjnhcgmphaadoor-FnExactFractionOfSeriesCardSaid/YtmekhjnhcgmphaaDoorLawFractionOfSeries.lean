/- The law on FractionOfSeries: the program's answer is the reference's, for all arguments; the walk of the law's own text. No conditions. -/
import Derived.Test.YtmekhjnhcgmphaaDoorFsB
import Derived.Test.YtmekhjnhcgmphaaDoorLawFrac2
import Derived.RegionCalls
import Derived.Deep.RegionWith
import Derived.Deep.RegionHeld3
import Derived.Deep.Cut
namespace Go.Proofs.YtmekhjnhcgmphaaDoor
set_option maxRecDepth 100000
open Go Go.RowKit
set_option maxHeartbeats 4000000 in
set_option maxRecDepth 100000 in
theorem lawFractionOfSeries_big1 (p : Int) (sA : Option Addr) (sc sz : Nat) (w : World) (hbig : 1048576 < sz) :
    Calls Tryd.prog 4 #[.int .i64 p, .slice sA sz sc] w fun e w' => e = .returned (.bool true) ∧ Ex w w' := by
  go_enter Tryd.func4, Tryd.ntmps4
  go_wp2
  go_ret
  exact ⟨rfl, Ex.refl w⟩
set_option maxHeartbeats 4000000 in
set_option maxRecDepth 100000 in
theorem lawFractionOfSeries_walk (p : Int) (sA : Option Addr) (sc : Nat) (s : List Int) (w : World) (sh : Rd w sA s) (hls : s.length ≤ 1048576) (ht : Tb w) :
    Calls Tryd.prog 4 #[.int .i64 p, .slice sA s.length sc] w fun e w' => e = .returned (.bool true) ∧ Ex w w' := by
  obtain ⟨r0n, r0d, r1, hr⟩ : ∃ r0n r0d r1, fosR p s = (r0n, r0d, r1) := ⟨_, _, _, rfl⟩
  have Hr := Lib.hid hr
  clear hr
  have xw := Ex.refl w
  go_enter Tryd.func4, Tryd.ntmps4
  go_wp2_with fail
  refine (toIntS_c sA sc s w (sh.ex xw)).mono ?_
  rintro e o1 ⟨go1, rfl, hgo1, bgo1, xo1⟩
  have fo1 := (bgo1.fr (B := w.heap.size) sh.len hgo1 (Nat.le_refl _)).fi
  clear hgo1 bgo1
  replace xw := xw.trans xo1
  have zo1 := xo1.size
  go_wp2_with fail
  refine (spFractionOfSeries_c _  _ _ _ o1 fo1.rd).mono ?_
  intro e o2 ho2
  rw [Hr.out] at ho2
  obtain ⟨Ao2, co2, Bo2, do2, rfl, fo2, ko2, apo2, xo2⟩ := ho2
  dsimp only at fo2 ko2 ⊢
  replace fo2 := fo2.fi
  replace ko2 := ko2.fi
  have lnfo2 := fo2.rd.len
  have lnko2 := ko2.rd.len
  replace xw := xw.trans xo2
  replace fo1 := fo1.ex xo2
  have zo2 := xo2.size
  clear fo1
  have w0_fo2 := fo2.rd
  clear fo2
  have w0_ko2 := ko2.rd
  clear ko2
  have xs := Ex.refl o2
  go_wp2_with fail
  have xa := (Ex.refl o2).alloc (.cells #[.slice Ao2 r0n.length co2, .slice Bo2 r0d.length do2] 40)
  have vw0 := VB.new o2 40 #[.slice Ao2 r0n.length co2, .slice Bo2 r0d.length do2]
  have vw0l := vw0.lt
  generalize o2.alloc (.cells #[.slice Ao2 r0n.length co2, .slice Bo2 r0d.length do2] 40) = o3 at *
  replace xw := xw.trans xa
  replace xs := xs.trans xa
  have zo3 := xa.size
  clear xa
  have xv := Ex.refl o3
  refine (toIntS_c sA sc s o3 (sh.ex xw)).mono ?_
  rintro e o4 ⟨go4, rfl, hgo4, bgo4, xo4⟩
  have fo4 := (bgo4.fr (B := o3.heap.size) sh.len hgo4 (Nat.le_refl _)).fi
  clear hgo4 bgo4
  replace xw := xw.trans xo4
  replace xs := xs.trans xo4
  replace xv := xv.trans xo4
  have zo4 := xo4.size
  go_wp2_with fail
  refine (FractionOfSeries_c _  _ _ _ o4 fo4.rd (ht.ex xw)).mono ?_
  intro e o5 ho5
  rw [Hr.out] at ho5
  obtain ⟨Ao5, co5, Bo5, do5, rfl, fo5, ko5, apo5, xo5⟩ := ho5
  dsimp only at fo5 ko5 ⊢
  replace fo5 := fo5.fi
  replace ko5 := ko5.fi
  replace xw := xw.trans xo5
  replace xs := xs.trans xo5
  replace xv := xv.trans xo5
  replace fo4 := fo4.ex xo5
  have zo5 := xo5.size
  have qvw00 := ((vw0.ex xv).ex ((Ex.refl o5).alloc (.cells #[.slice Ao5 r0n.length co5, .slice Bo5 r0d.length do5] 40))).cell 0 (v := .slice Ao2 r0n.length co2) rfl
  have qvw01 := ((vw0.ex xv).ex ((Ex.refl o5).alloc (.cells #[.slice Ao5 r0n.length co5, .slice Bo5 r0d.length do5] 40))).cell 1 (v := .slice Bo2 r0d.length do2) rfl
  go_wp2_with fail
  clear qvw00 qvw01
  have xa := (Ex.refl o5).alloc (.cells #[.slice Ao5 r0n.length co5, .slice Bo5 r0d.length do5] 40)
  have vg0 := VB.new o5 40 #[.slice Ao5 r0n.length co5, .slice Bo5 r0d.length do5]
  have vg0l := vg0.lt
  generalize o5.alloc (.cells #[.slice Ao5 r0n.length co5, .slice Bo5 r0d.length do5] 40) = o6 at *
  replace xw := xw.trans xa
  replace xs := xs.trans xa
  replace xv := xv.trans xa
  replace fo4 := fo4.ex xa
  replace fo5 := fo5.ex xa
  replace ko5 := ko5.ex xa
  have zo6 := xa.size
  clear xa
  refine (eqFraction_c Ao5 Bo5 Ao2 Bo2 co5 do5 co2 do2 r0n r0d o6 fo5.rd ko5.rd (w0_fo2.ex xs) (w0_ko2.ex xs)).mono ?_
  rintro e o7 ⟨rfl, xo7⟩
  replace xw := xw.trans xo7
  replace xs := xs.trans xo7
  replace xv := xv.trans xo7
  replace fo4 := fo4.ex xo7
  replace fo5 := fo5.ex xo7
  replace ko5 := ko5.ex xo7
  replace vg0 := vg0.ex xo7
  have zo7 := xo7.size
  go_wp2_with fail
  refine (toIntS_c sA sc s o7 (sh.ex xw)).mono ?_
  rintro e o8 ⟨go8, rfl, hgo8, bgo8, xo8⟩
  have fo8 := (bgo8.fr (B := o7.heap.size) sh.len hgo8 (Nat.le_refl _)).fi
  clear hgo8 bgo8
  replace xw := xw.trans xo8
  replace xs := xs.trans xo8
  replace xv := xv.trans xo8
  replace fo4 := fo4.ex xo8
  replace fo5 := fo5.ex xo8
  replace ko5 := ko5.ex xo8
  replace vg0 := vg0.ex xo8
  have zo8 := xo8.size
  go_wp2_with fail
  refine (eqIntS_c (some ⟨go4, 0, none⟩) (some ⟨go8, 0, none⟩) s.length s.length s o8 fo4.rd fo8.rd).mono ?_
  rintro e o9 ⟨rfl, xo9⟩
  replace xw := xw.trans xo9
  replace xs := xs.trans xo9
  replace xv := xv.trans xo9
  replace fo4 := fo4.ex xo9
  replace fo5 := fo5.ex xo9
  replace ko5 := ko5.ex xo9
  replace vg0 := vg0.ex xo9
  replace fo8 := fo8.ex xo9
  have zo9 := xo9.size
  clear fo8
  go_wp2_with fail
  refine (markIntS_i (o3.heap.size) (o4.heap.size) (some ⟨go4, 0, none⟩) s.length s (1) o9 fo4 (by omega) (by omega)).mono ?_
  rintro e o10 ⟨rfl, mo10, io10⟩
  clear fo4
  replace xw := xw.iv io10 (by omega)
  replace xs := xs.iv io10 (by omega)
  replace xv := xv.iv io10 (by omega)
  replace fo5 := fo5.iv io10 (by omega)
  replace ko5 := ko5.iv io10 (by omega)
  replace vg0 := vg0.iv io10 (by omega)
  have zo10 := io10.size
  clear mo10
  have qvg00 := vg0.cell 0 (v := .slice Ao5 r0n.length co5) rfl
  have qvg01 := vg0.cell 1 (v := .slice Bo5 r0d.length do5) rfl
  have qvw00 := (vw0.ex xv).cell 0 (v := .slice Ao2 r0n.length co2) rfl
  have qvw01 := (vw0.ex xv).cell 1 (v := .slice Bo2 r0d.length do2) rfl
  go_wp2_with fail
  clear qvg00 qvg01 qvw00 qvw01
  refine (eqFraction_c Ao5 Bo5 Ao2 Bo2 co5 do5 co2 do2 r0n r0d o10 fo5.rd ko5.rd (w0_fo2.ex xs) (w0_ko2.ex xs)).mono ?_
  rintro e o11 ⟨rfl, xo11⟩
  replace xw := xw.trans xo11
  replace xs := xs.trans xo11
  replace xv := xv.trans xo11
  replace fo5 := fo5.ex xo11
  replace ko5 := ko5.ex xo11
  replace vg0 := vg0.ex xo11
  have zo11 := xo11.size
  have qvg00 := vg0.cell 0 (v := .slice Ao5 r0n.length co5) rfl
  have qvg01 := vg0.cell 1 (v := .slice Bo5 r0d.length do5) rfl
  go_wp2_with fail
  clear qvg00 qvg01
  refine (markFraction_i (o4.heap.size) (o5.heap.size) Ao5 Bo5 co5 do5 r0n r0d (1) o11 fo5 ko5 apo5 (by omega) (by omega) (by omega)).mono ?_
  rintro e o12 ⟨rfl, mo12, no12, io12⟩
  clear fo5 ko5
  replace xw := xw.iv io12 (by omega)
  replace xs := xs.iv io12 (by omega)
  replace xv := xv.iv io12 (by omega)
  replace vg0 := vg0.iv io12 (by omega)
  have zo12 := io12.size
  have qvg00 := vg0.cell 0 (v := .slice Ao5 r0n.length co5) rfl
  have qvg01 := vg0.cell 1 (v := .slice Bo5 r0d.length do5) rfl
  go_wp2_with fail
  clear qvg00 qvg01
  refine (heldFraction_c Ao5 Bo5 co5 do5 r0n.length r0d.length (1) o12 mo12.rd no12.rd (by omega) (by omega)).mono ?_
  rintro e o13 ⟨rfl, xo13⟩
  replace xw := xw.trans xo13
  replace xs := xs.trans xo13
  replace xv := xv.trans xo13
  replace vg0 := vg0.ex xo13
  replace mo12 := mo12.ex xo13
  replace no12 := no12.ex xo13
  have zo13 := xo13.size
  go_wp2_with fail
  refine (toIntS_c sA sc s o13 (sh.ex xw)).mono ?_
  rintro e o14 ⟨go14, rfl, hgo14, bgo14, xo14⟩
  have fo14 := (bgo14.fr (B := o13.heap.size) sh.len hgo14 (Nat.le_refl _)).fi
  clear hgo14 bgo14
  replace xw := xw.trans xo14
  replace xs := xs.trans xo14
  replace xv := xv.trans xo14
  replace vg0 := vg0.ex xo14
  replace mo12 := mo12.ex xo14
  replace no12 := no12.ex xo14
  have zo14 := xo14.size
  go_wp2_with fail
  refine (FractionOfSeries_c _  _ _ _ o14 fo14.rd (ht.ex xw)).mono ?_
  intro e o15 ho15
  rw [Hr.out] at ho15
  obtain ⟨Ao15, co15, Bo15, do15, rfl, fo15, ko15, apo15, xo15⟩ := ho15
  dsimp only at fo15 ko15 ⊢
  replace fo15 := fo15.fi
  replace ko15 := ko15.fi
  replace xw := xw.trans xo15
  replace xs := xs.trans xo15
  replace xv := xv.trans xo15
  replace vg0 := vg0.ex xo15
  replace mo12 := mo12.ex xo15
  replace no12 := no12.ex xo15
  replace fo14 := fo14.ex xo15
  have zo15 := xo15.size
  clear fo14
  have qvw00 := ((vw0.ex xv).ex ((Ex.refl o15).alloc (.cells #[.slice Ao15 r0n.length co15, .slice Bo15 r0d.length do15] 40))).cell 0 (v := .slice Ao2 r0n.length co2) rfl
  have qvw01 := ((vw0.ex xv).ex ((Ex.refl o15).alloc (.cells #[.slice Ao15 r0n.length co15, .slice Bo15 r0d.length do15] 40))).cell 1 (v := .slice Bo2 r0d.length do2) rfl
  go_wp2_with fail
  clear qvw00 qvw01
  have xa := (Ex.refl o15).alloc (.cells #[.slice Ao15 r0n.length co15, .slice Bo15 r0d.length do15] 40)
  have vh0 := VB.new o15 40 #[.slice Ao15 r0n.length co15, .slice Bo15 r0d.length do15]
  have vh0l := vh0.lt
  generalize o15.alloc (.cells #[.slice Ao15 r0n.length co15, .slice Bo15 r0d.length do15] 40) = o16 at *
  replace xw := xw.trans xa
  replace xs := xs.trans xa
  replace xv := xv.trans xa
  replace vg0 := vg0.ex xa
  replace mo12 := mo12.ex xa
  replace no12 := no12.ex xa
  replace fo15 := fo15.ex xa
  replace ko15 := ko15.ex xa
  have zo16 := xa.size
  clear xa
  refine (eqFraction_c Ao15 Bo15 Ao2 Bo2 co15 do15 co2 do2 r0n r0d o16 fo15.rd ko15.rd (w0_fo2.ex xs) (w0_ko2.ex xs)).mono ?_
  rintro e o17 ⟨rfl, xo17⟩
  replace xw := xw.trans xo17
  replace xs := xs.trans xo17
  replace xv := xv.trans xo17
  replace vg0 := vg0.ex xo17
  replace mo12 := mo12.ex xo17
  replace no12 := no12.ex xo17
  replace fo15 := fo15.ex xo17
  replace ko15 := ko15.ex xo17
  replace vh0 := vh0.ex xo17
  have zo17 := xo17.size
  have qvg00 := vg0.cell 0 (v := .slice Ao5 r0n.length co5) rfl
  have qvg01 := vg0.cell 1 (v := .slice Bo5 r0d.length do5) rfl
  go_wp2_with fail
  clear qvg00 qvg01
  refine (heldFraction_c Ao5 Bo5 co5 do5 r0n.length r0d.length (1) o17 mo12.rd no12.rd (by omega) (by omega)).mono ?_
  rintro e o18 ⟨rfl, xo18⟩
  replace xw := xw.trans xo18
  replace xs := xs.trans xo18
  replace xv := xv.trans xo18
  replace vg0 := vg0.ex xo18
  replace mo12 := mo12.ex xo18
  replace no12 := no12.ex xo18
  replace fo15 := fo15.ex xo18
  replace ko15 := ko15.ex xo18
  replace vh0 := vh0.ex xo18
  have zo18 := xo18.size
  clear ht Hr 
  go_wp2
  all_goals go_ret
  exact ⟨rfl, xw⟩
end Go.Proofs.YtmekhjnhcgmphaaDoor
