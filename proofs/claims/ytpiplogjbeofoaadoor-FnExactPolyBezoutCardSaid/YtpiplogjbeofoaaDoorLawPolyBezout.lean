/- The law on PolyBezout: the program's answer is the reference's, for all arguments; the walk of the law's own text. No conditions. -/
import Derived.Test.YtpiplogjbeofoaaDoorBez3
import Derived.Test.YtpiplogjbeofoaaDoorLawFrac2
import Derived.RegionCalls
import Derived.Deep.RegionWith
import Derived.Deep.RegionHeld3
import Derived.Deep.Cut
namespace Go.Proofs.YtpiplogjbeofoaaDoor
set_option maxRecDepth 100000
open Go Go.RowKit
set_option maxHeartbeats 4000000 in
set_option maxRecDepth 100000 in
theorem lawPolyBezout_big1 (p : Int) (fA : Option Addr) (fc fz : Nat) (gA : Option Addr) (gc gz : Nat) (w : World) (hbig : 1048576 < fz) :
    Calls Tryd.prog 7 #[.int .i64 p, .slice fA fz fc, .slice gA gz gc] w fun e w' => e = .returned (.bool true) ∧ Ex w w' := by
  go_enter Tryd.func7, Tryd.ntmps7
  go_wp2
  go_ret
  exact ⟨rfl, Ex.refl w⟩
set_option maxHeartbeats 4000000 in
set_option maxRecDepth 100000 in
theorem lawPolyBezout_big2 (p : Int) (fA : Option Addr) (fc fz : Nat) (gA : Option Addr) (gc gz : Nat) (w : World) (hokf : fz ≤ 1048576) (hbig : 1048576 < gz) :
    Calls Tryd.prog 7 #[.int .i64 p, .slice fA fz fc, .slice gA gz gc] w fun e w' => e = .returned (.bool true) ∧ Ex w w' := by
  go_enter Tryd.func7, Tryd.ntmps7
  go_wp2
  go_ret
  exact ⟨rfl, Ex.refl w⟩
set_option maxHeartbeats 4000000 in
set_option maxRecDepth 100000 in
theorem lawPolyBezout_walk (p : Int) (fA : Option Addr) (fc : Nat) (f : List Int) (gA : Option Addr) (gc : Nat) (g : List Int) (w : World) (fh : Rd w fA f) (gh : Rd w gA g) (hlf : f.length ≤ 1048576) (hlg : g.length ≤ 1048576) (ht : Tb w) :
    Calls Tryd.prog 7 #[.int .i64 p, .slice fA f.length fc, .slice gA g.length gc] w fun e w' => e = .returned (.bool true) ∧ Ex w w' := by
  obtain ⟨r0, r1, r2, r3, hr⟩ : ∃ r0 r1 r2 r3, bezR p f g = (r0, r1, r2, r3) := ⟨_, _, _, _, rfl⟩
  have Hr := Lib.hid hr
  clear hr
  have xw := Ex.refl w
  go_enter Tryd.func7, Tryd.ntmps7
  go_wp2_with fail
  refine (toIntS_c fA fc f w (fh.ex xw)).mono ?_
  rintro e o1 ⟨go1, rfl, hgo1, bgo1, xo1⟩
  have fo1 := (bgo1.fr (B := w.heap.size) fh.len hgo1 (Nat.le_refl _)).fi
  clear hgo1 bgo1
  replace xw := xw.trans xo1
  have zo1 := xo1.size
  go_wp2_with fail
  refine (toIntS_c gA gc g o1 (gh.ex xw)).mono ?_
  rintro e o2 ⟨go2, rfl, hgo2, bgo2, xo2⟩
  have fo2 := (bgo2.fr (B := o1.heap.size) gh.len hgo2 (Nat.le_refl _)).fi
  clear hgo2 bgo2
  replace xw := xw.trans xo2
  replace fo1 := fo1.ex xo2
  have zo2 := xo2.size
  go_wp2_with fail
  refine (spPolyBezout_c _  _ _ _  _ _ _ o2 fo1.rd fo2.rd).mono ?_
  intro e o3 ho3
  rw [Hr.out] at ho3
  obtain ⟨Ao30, co30, Ao31, co31, Ao32, co32, rfl, fo30, fo31, fo32, xo3⟩ := ho3
  dsimp only at fo30 fo31 fo32 ⊢
  have lnfo30 := fo30.len
  have lnfo31 := fo31.len
  have lnfo32 := fo32.len
  replace xw := xw.trans xo3
  replace fo1 := fo1.ex xo3
  replace fo2 := fo2.ex xo3
  have zo3 := xo3.size
  clear fo1
  clear fo2
  have w0_fo30 := fo30
  clear fo30
  have w0_fo31 := fo31
  clear fo31
  have w0_fo32 := fo32
  clear fo32
  have xs := Ex.refl o3
  go_wp2_with fail
  refine (toIntS_c fA fc f o3 (fh.ex xw)).mono ?_
  rintro e o4 ⟨go4, rfl, hgo4, bgo4, xo4⟩
  have fo4 := (bgo4.fr (B := o3.heap.size) fh.len hgo4 (Nat.le_refl _)).fi
  clear hgo4 bgo4
  replace xw := xw.trans xo4
  replace xs := xs.trans xo4
  have zo4 := xo4.size
  go_wp2_with fail
  refine (toIntS_c gA gc g o4 (gh.ex xw)).mono ?_
  rintro e o5 ⟨go5, rfl, hgo5, bgo5, xo5⟩
  have fo5 := (bgo5.fr (B := o4.heap.size) gh.len hgo5 (Nat.le_refl _)).fi
  clear hgo5 bgo5
  replace xw := xw.trans xo5
  replace xs := xs.trans xo5
  replace fo4 := fo4.ex xo5
  have zo5 := xo5.size
  go_wp2_with fail
  refine (PolyBezout_c _  _ _ _  _ _ _ o5 fo4.rd fo5.rd (ht.ex xw)).mono ?_
  intro e o6 ho6
  rw [Hr.out] at ho6
  obtain ⟨Ao60, co60, Ao61, co61, Ao62, co62, mao6, mbo6, rfl, fo60, fo61, fo62, kao6, kbo6, kco6, xo6⟩ := ho6
  dsimp only at fo60 fo61 fo62 ⊢
  replace xw := xw.trans xo6
  replace xs := xs.trans xo6
  replace fo4 := fo4.ex xo6
  replace fo5 := fo5.ex xo6
  have zo6 := xo6.size
  go_wp2_with fail
  refine (eqIntS_c Ao60 Ao30 co60 co30 r0 o6 fo60.rd (w0_fo30.ex xs)).mono ?_
  rintro e o7 ⟨rfl, xo7⟩
  replace xw := xw.trans xo7
  replace xs := xs.trans xo7
  replace fo4 := fo4.ex xo7
  replace fo5 := fo5.ex xo7
  replace fo60 := fo60.ex xo7
  replace fo61 := fo61.ex xo7
  replace fo62 := fo62.ex xo7
  have zo7 := xo7.size
  go_wp2_with fail
  refine (eqIntS_c Ao61 Ao31 co61 co31 r1 o7 fo61.rd (w0_fo31.ex xs)).mono ?_
  rintro e o8 ⟨rfl, xo8⟩
  replace xw := xw.trans xo8
  replace xs := xs.trans xo8
  replace fo4 := fo4.ex xo8
  replace fo5 := fo5.ex xo8
  replace fo60 := fo60.ex xo8
  replace fo61 := fo61.ex xo8
  replace fo62 := fo62.ex xo8
  have zo8 := xo8.size
  go_wp2_with fail
  refine (eqIntS_c Ao62 Ao32 co62 co32 r2 o8 fo62.rd (w0_fo32.ex xs)).mono ?_
  rintro e o9 ⟨rfl, xo9⟩
  replace xw := xw.trans xo9
  replace xs := xs.trans xo9
  replace fo4 := fo4.ex xo9
  replace fo5 := fo5.ex xo9
  replace fo60 := fo60.ex xo9
  replace fo61 := fo61.ex xo9
  replace fo62 := fo62.ex xo9
  have zo9 := xo9.size
  go_wp2_with fail
  refine (toIntS_c fA fc f o9 (fh.ex xw)).mono ?_
  rintro e o10 ⟨go10, rfl, hgo10, bgo10, xo10⟩
  have fo10 := (bgo10.fr (B := o9.heap.size) fh.len hgo10 (Nat.le_refl _)).fi
  clear hgo10 bgo10
  replace xw := xw.trans xo10
  replace xs := xs.trans xo10
  replace fo4 := fo4.ex xo10
  replace fo5 := fo5.ex xo10
  replace fo60 := fo60.ex xo10
  replace fo61 := fo61.ex xo10
  replace fo62 := fo62.ex xo10
  have zo10 := xo10.size
  go_wp2_with fail
  refine (eqIntS_c (some ⟨go4, 0, none⟩) (some ⟨go10, 0, none⟩) f.length f.length f o10 fo4.rd fo10.rd).mono ?_
  rintro e o11 ⟨rfl, xo11⟩
  replace xw := xw.trans xo11
  replace xs := xs.trans xo11
  replace fo4 := fo4.ex xo11
  replace fo5 := fo5.ex xo11
  replace fo60 := fo60.ex xo11
  replace fo61 := fo61.ex xo11
  replace fo62 := fo62.ex xo11
  replace fo10 := fo10.ex xo11
  have zo11 := xo11.size
  clear fo10
  go_wp2_with fail
  refine (toIntS_c gA gc g o11 (gh.ex xw)).mono ?_
  rintro e o12 ⟨go12, rfl, hgo12, bgo12, xo12⟩
  have fo12 := (bgo12.fr (B := o11.heap.size) gh.len hgo12 (Nat.le_refl _)).fi
  clear hgo12 bgo12
  replace xw := xw.trans xo12
  replace xs := xs.trans xo12
  replace fo4 := fo4.ex xo12
  replace fo5 := fo5.ex xo12
  replace fo60 := fo60.ex xo12
  replace fo61 := fo61.ex xo12
  replace fo62 := fo62.ex xo12
  have zo12 := xo12.size
  go_wp2_with fail
  refine (eqIntS_c (some ⟨go5, 0, none⟩) (some ⟨go12, 0, none⟩) g.length g.length g o12 fo5.rd fo12.rd).mono ?_
  rintro e o13 ⟨rfl, xo13⟩
  replace xw := xw.trans xo13
  replace xs := xs.trans xo13
  replace fo4 := fo4.ex xo13
  replace fo5 := fo5.ex xo13
  replace fo60 := fo60.ex xo13
  replace fo61 := fo61.ex xo13
  replace fo62 := fo62.ex xo13
  replace fo12 := fo12.ex xo13
  have zo13 := xo13.size
  clear fo12
  go_wp2_with fail
  refine (markIntS_i (o3.heap.size) (o4.heap.size) (some ⟨go4, 0, none⟩) f.length f (1) o13 fo4 (by omega) (by omega)).mono ?_
  rintro e o14 ⟨rfl, mo14, io14⟩
  clear fo4
  replace xw := xw.iv io14 (by omega)
  replace xs := xs.iv io14 (by omega)
  replace fo5 := fo5.iv io14 (by omega)
  replace fo60 := fo60.iv io14 (by omega)
  replace fo61 := fo61.iv io14 (by omega)
  replace fo62 := fo62.iv io14 (by omega)
  have zo14 := io14.size
  clear mo14
  go_wp2_with fail
  refine (markIntS_i (o4.heap.size) (o5.heap.size) (some ⟨go5, 0, none⟩) g.length g (1 + (f.length : Int)) o14 fo5 (by omega) (by omega)).mono ?_
  rintro e o15 ⟨rfl, mo15, io15⟩
  clear fo5
  replace xw := xw.iv io15 (by omega)
  replace xs := xs.iv io15 (by omega)
  replace fo60 := fo60.iv io15 (by omega)
  replace fo61 := fo61.iv io15 (by omega)
  replace fo62 := fo62.iv io15 (by omega)
  have zo15 := io15.size
  clear mo15
  go_wp2_with fail
  refine (eqIntS_c Ao60 Ao30 co60 co30 r0 o15 fo60.rd (w0_fo30.ex xs)).mono ?_
  rintro e o16 ⟨rfl, xo16⟩
  replace xw := xw.trans xo16
  replace xs := xs.trans xo16
  replace fo60 := fo60.ex xo16
  replace fo61 := fo61.ex xo16
  replace fo62 := fo62.ex xo16
  have zo16 := xo16.size
  go_wp2_with fail
  refine (eqIntS_c Ao61 Ao31 co61 co31 r1 o16 fo61.rd (w0_fo31.ex xs)).mono ?_
  rintro e o17 ⟨rfl, xo17⟩
  replace xw := xw.trans xo17
  replace xs := xs.trans xo17
  replace fo60 := fo60.ex xo17
  replace fo61 := fo61.ex xo17
  replace fo62 := fo62.ex xo17
  have zo17 := xo17.size
  go_wp2_with fail
  refine (eqIntS_c Ao62 Ao32 co62 co32 r2 o17 fo62.rd (w0_fo32.ex xs)).mono ?_
  rintro e o18 ⟨rfl, xo18⟩
  replace xw := xw.trans xo18
  replace xs := xs.trans xo18
  replace fo60 := fo60.ex xo18
  replace fo61 := fo61.ex xo18
  replace fo62 := fo62.ex xo18
  have zo18 := xo18.size
  go_wp2_with fail
  refine (markIntS_i (o5.heap.size) (mao6) Ao60 co60 r0 (1) o18 fo60 (by omega) (by omega)).mono ?_
  rintro e o19 ⟨rfl, mo19, io19⟩
  clear fo60
  replace xw := xw.iv io19 (by omega)
  replace xs := xs.iv io19 (by omega)
  replace fo61 := fo61.iv io19 (by omega)
  replace fo62 := fo62.iv io19 (by omega)
  have zo19 := io19.size
  go_wp2_with fail
  refine (markIntS_i (mao6) (mbo6) Ao61 co61 r1 (1 + (r0.length : Int)) o19 fo61 (by omega) (by omega)).mono ?_
  rintro e o20 ⟨rfl, mo20, io20⟩
  clear fo61
  replace xw := xw.iv io20 (by omega)
  replace xs := xs.iv io20 (by omega)
  replace fo62 := fo62.iv io20 (by omega)
  replace mo19 := mo19.iv io20 (by omega)
  have zo20 := io20.size
  go_wp2_with fail
  refine (markIntS_i (mbo6) (o6.heap.size) Ao62 co62 r2 (1 + (r0.length : Int) + (r1.length : Int)) o20 fo62 (by omega) (by omega)).mono ?_
  rintro e o21 ⟨rfl, mo21, io21⟩
  clear fo62
  replace xw := xw.iv io21 (by omega)
  replace xs := xs.iv io21 (by omega)
  replace mo19 := mo19.iv io21 (by omega)
  replace mo20 := mo20.iv io21 (by omega)
  have zo21 := io21.size
  go_wp2_with fail
  refine (heldIntS_c Ao60 co60 (1) r0.length o21 mo19.rd (by omega) (by omega)).mono ?_
  rintro e _ ⟨rfl, rfl⟩
  go_wp2_with fail
  refine (heldIntS_c Ao61 co61 (1 + (r0.length : Int)) r1.length o21 mo20.rd (by omega) (by omega)).mono ?_
  rintro e _ ⟨rfl, rfl⟩
  go_wp2_with fail
  refine (heldIntS_c Ao62 co62 (1 + (r0.length : Int) + (r1.length : Int)) r2.length o21 mo21.rd (by omega) (by omega)).mono ?_
  rintro e _ ⟨rfl, rfl⟩
  go_wp2_with fail
  refine (toIntS_c fA fc f o21 (fh.ex xw)).mono ?_
  rintro e o22 ⟨go22, rfl, hgo22, bgo22, xo22⟩
  have fo22 := (bgo22.fr (B := o21.heap.size) fh.len hgo22 (Nat.le_refl _)).fi
  clear hgo22 bgo22
  replace xw := xw.trans xo22
  replace xs := xs.trans xo22
  replace mo19 := mo19.ex xo22
  replace mo20 := mo20.ex xo22
  replace mo21 := mo21.ex xo22
  have zo22 := xo22.size
  go_wp2_with fail
  refine (toIntS_c gA gc g o22 (gh.ex xw)).mono ?_
  rintro e o23 ⟨go23, rfl, hgo23, bgo23, xo23⟩
  have fo23 := (bgo23.fr (B := o22.heap.size) gh.len hgo23 (Nat.le_refl _)).fi
  clear hgo23 bgo23
  replace xw := xw.trans xo23
  replace xs := xs.trans xo23
  replace mo19 := mo19.ex xo23
  replace mo20 := mo20.ex xo23
  replace mo21 := mo21.ex xo23
  replace fo22 := fo22.ex xo23
  have zo23 := xo23.size
  go_wp2_with fail
  refine (PolyBezout_c _  _ _ _  _ _ _ o23 fo22.rd fo23.rd (ht.ex xw)).mono ?_
  intro e o24 ho24
  rw [Hr.out] at ho24
  obtain ⟨Ao240, co240, Ao241, co241, Ao242, co242, mao24, mbo24, rfl, fo240, fo241, fo242, kao24, kbo24, kco24, xo24⟩ := ho24
  dsimp only at fo240 fo241 fo242 ⊢
  replace xw := xw.trans xo24
  replace xs := xs.trans xo24
  replace mo19 := mo19.ex xo24
  replace mo20 := mo20.ex xo24
  replace mo21 := mo21.ex xo24
  replace fo22 := fo22.ex xo24
  replace fo23 := fo23.ex xo24
  have zo24 := xo24.size
  clear fo22
  clear fo23
  go_wp2_with fail
  refine (eqIntS_c Ao240 Ao30 co240 co30 r0 o24 fo240.rd (w0_fo30.ex xs)).mono ?_
  rintro e o25 ⟨rfl, xo25⟩
  replace xw := xw.trans xo25
  replace xs := xs.trans xo25
  replace mo19 := mo19.ex xo25
  replace mo20 := mo20.ex xo25
  replace mo21 := mo21.ex xo25
  replace fo240 := fo240.ex xo25
  replace fo241 := fo241.ex xo25
  replace fo242 := fo242.ex xo25
  have zo25 := xo25.size
  go_wp2_with fail
  refine (eqIntS_c Ao241 Ao31 co241 co31 r1 o25 fo241.rd (w0_fo31.ex xs)).mono ?_
  rintro e o26 ⟨rfl, xo26⟩
  replace xw := xw.trans xo26
  replace xs := xs.trans xo26
  replace mo19 := mo19.ex xo26
  replace mo20 := mo20.ex xo26
  replace mo21 := mo21.ex xo26
  replace fo240 := fo240.ex xo26
  replace fo241 := fo241.ex xo26
  replace fo242 := fo242.ex xo26
  have zo26 := xo26.size
  go_wp2_with fail
  refine (eqIntS_c Ao242 Ao32 co242 co32 r2 o26 fo242.rd (w0_fo32.ex xs)).mono ?_
  rintro e o27 ⟨rfl, xo27⟩
  replace xw := xw.trans xo27
  replace xs := xs.trans xo27
  replace mo19 := mo19.ex xo27
  replace mo20 := mo20.ex xo27
  replace mo21 := mo21.ex xo27
  replace fo240 := fo240.ex xo27
  replace fo241 := fo241.ex xo27
  replace fo242 := fo242.ex xo27
  have zo27 := xo27.size
  go_wp2_with fail
  refine (heldIntS_c Ao60 co60 (1) r0.length o27 mo19.rd (by omega) (by omega)).mono ?_
  rintro e _ ⟨rfl, rfl⟩
  go_wp2_with fail
  refine (heldIntS_c Ao61 co61 (1 + (r0.length : Int)) r1.length o27 mo20.rd (by omega) (by omega)).mono ?_
  rintro e _ ⟨rfl, rfl⟩
  go_wp2_with fail
  refine (heldIntS_c Ao62 co62 (1 + (r0.length : Int) + (r1.length : Int)) r2.length o27 mo21.rd (by omega) (by omega)).mono ?_
  rintro e _ ⟨rfl, rfl⟩
  clear ht Hr 
  go_wp2
  all_goals go_ret
  exact ⟨rfl, xw⟩
end Go.Proofs.YtpiplogjbeofoaaDoor
