/- Contracts: FractionInverse, on both sides. -/
import Derived.Test.YtpiplogjbeofoaaDoorFrac5
import Derived.RegionCalls
import Derived.Deep.RegionWith
namespace Go.Proofs.YtpiplogjbeofoaaDoor
set_option maxRecDepth 100000
open Go Go.RowKit
/-- What FractionInverse answers. -/
def invR (p : Int) (num den : List Int) : List Int × List Int × Bool := if fracB p num den = true ∧ num ≠ [] then (lowN p den num, lowD p den num, true) else ([], [], false)
theorem invR_no (p : Int) {num den : List Int} (h : ¬ (fracB p num den = true ∧ num ≠ [])) : invR p num den = ([], [], false) := if_neg h
theorem invR_yes (p : Int) {num den : List Int} (h : fracB p num den = true ∧ num ≠ []) : invR p num den = (lowN p den num, lowD p den num, true) := if_pos h
set_option maxHeartbeats 2000000 in
theorem frInv_c (p : Int) (A B : Option Addr) (c d : Nat) (num den : List Int) (w : World) (hn : Rd w A num) (hd : Rd w B den) (hF : fieldB p = true) (hne : allEl p num = true) (hde : allEl p den = true) (tn : Tr num) (td : Tr den) (hn0 : num ≠ []) :
    Calls Tryd.prog 103 #[.int .i64 p, .agg #[.slice A num.length c, .slice B den.length d]] w fun e w' => FF w (lowN p den num) (lowD p den num) e w' := by
  have HF := Lib.hid hF
  have Hne := Lib.hid hne
  have Hde := Lib.hid hde
  have H0 := Lib.hid hn0
  clear hF hne hde hn0
  have xw := Ex.refl w
  go_enter Tryd.func103, Tryd.ntmps103
  go_wp2_with fail
  have xa := (Ex.refl w).alloc (.cells #[.slice A num.length c, .slice B den.length d] 37)
  have vx := VB.new w 37 #[.slice A num.length c, .slice B den.length d]
  have Su1 := Lib.hid (show (w.alloc (.cells #[.slice A num.length c, .slice B den.length d] 37)).heap.size = w.heap.size + 1 by simp)
  generalize w.alloc (.cells #[.slice A num.length c, .slice B den.length d] 37) = u1 at *
  have Sy := Su1; clear Su1
  have Sz := Sy; clear Sy
  replace xw := xw.trans xa; clear xa
  have xa := (Ex.refl u1).alloc (.cells #[.slice none 0 0, .slice none 0 0] 37)
  have vr := VB.new u1 37 #[.slice none 0 0, .slice none 0 0]
  have Su2 := Lib.hid (show (u1.alloc (.cells #[.slice none 0 0, .slice none 0 0] 37)).heap.size = u1.heap.size + 1 by simp)
  rw [Sz.out] at vr
  generalize u1.alloc (.cells #[.slice none 0 0, .slice none 0 0] 37) = u2 at *
  have Sy := Lib.hid (Su2.out.trans (congrArg (· + 1) Sz.out)); clear Sz Su2
  have Sz := Sy; clear Sy
  replace vx := vx.ex xa
  replace xw := xw.trans xa; clear xa
  have zu2 : w.heap.size + 2 ≤ u2.heap.size := Nat.le_of_eq (by have := Sz.out; omega)
  clear Sz
  refine (frMake_c p B A d c den num u2 (hd.ex xw) (hn.ex xw) HF.out Hde.out Hne.out td tn H0.out).mono ?_
  rintro e u3 ⟨A2, c2, B2, d2, rfl, f2, g2, ap, xu3⟩
  replace vx := vx.ex xu3
  replace vr := vr.ex xu3
  replace xw := xw.trans xu3
  have zu3 := xu3.size
  have qvr0 := vr.cell 0 (v := .slice none 0 0) rfl
  have qvr1 := vr.cell 1 (v := .slice none 0 0) rfl
  have fzvr0 := vr.frozen 0
  have fzvr1 := vr.frozen 1
  go_wp2_with fail
  clear qvr0 qvr1 fzvr0 fzvr1
  have yz : Ex1 (w.heap.size + 1) u3 ((u3.setCell ⟨w.heap.size + 1, 0, none⟩ (.slice A2 (lowN p den num).length c2)).setCell ⟨w.heap.size + 1, 1, none⟩ (.slice B2 (lowD p den num).length d2)) := ((Ex1.refl _ u3).setCell (p := ⟨w.heap.size + 1, 0, none⟩) rfl (.slice A2 (lowN p den num).length c2)).setCell (p := ⟨w.heap.size + 1, 1, none⟩) rfl (.slice B2 (lowD p den num).length d2)
  replace vr : VB ((u3.setCell ⟨w.heap.size + 1, 0, none⟩ (.slice A2 (lowN p den num).length c2)).setCell ⟨w.heap.size + 1, 1, none⟩ (.slice B2 (lowD p den num).length d2)) (w.heap.size + 1) 37 #[.slice A2 (lowN p den num).length c2, .slice B2 (lowD p den num).length d2] := ((vr.set_ 0 (.slice A2 (lowN p den num).length c2)).set_ 1 (.slice B2 (lowD p den num).length d2))
  replace vx := vx.ex1 yz (by omega)
  replace f2 := f2.ex1 yz (f2.hi.off (by omega))
  replace g2 := g2.ex1 yz (g2.hi.off (by omega))
  replace xw := xw.ex1 yz (by omega)
  have zu4 := yz.size
  generalize ((u3.setCell ⟨w.heap.size + 1, 0, none⟩ (.slice A2 (lowN p den num).length c2)).setCell ⟨w.heap.size + 1, 1, none⟩ (.slice B2 (lowD p den num).length d2)) = u4 at *
  clear yz
  have dvr0 := vr.cell 0 (v := .slice A2 (lowN p den num).length c2) rfl
  have dvr1 := vr.cell 1 (v := .slice B2 (lowD p den num).length d2) rfl
  refine bodyPost_ret (v := .agg #[.slice A2 (lowN p den num).length c2, .slice B2 (lowD p den num).length d2]) (by simp [results, Tryd.results103, go_sem, dvr0, dvr1]) rfl ?_
  exact ⟨A2, c2, B2, d2, rfl, f2.more (by omega), g2.more (by omega), ap, xw⟩
set_option maxHeartbeats 2000000 in
theorem fractionInverse_c (p : Int) (A B : Option Addr) (c d : Nat) (num den : List Int) (w : World) (hn : Rd w A num) (hd : Rd w B den) (hF : fieldB p = true) (hne : allEl p num = true) (hde : allEl p den = true) (tn : Tr num) (td : Tr den) (hn0 : num ≠ []) :
    Calls Tryd.prog 105 #[.int .i64 p, .agg #[.slice A num.length c, .slice B den.length d]] w fun e w' => FF w (lowN p den num) (lowD p den num) e w' := by
  have HF := Lib.hid hF
  have Hne := Lib.hid hne
  have Hde := Lib.hid hde
  have H0 := Lib.hid hn0
  clear hF hne hde hn0
  have xw := Ex.refl w
  go_enter Tryd.func105, Tryd.ntmps105
  go_wp2_with fail
  have xa := (Ex.refl w).alloc (.cells #[.slice A num.length c, .slice B den.length d] 37)
  have vx := VB.new w 37 #[.slice A num.length c, .slice B den.length d]
  have Su1 := Lib.hid (show (w.alloc (.cells #[.slice A num.length c, .slice B den.length d] 37)).heap.size = w.heap.size + 1 by simp)
  generalize w.alloc (.cells #[.slice A num.length c, .slice B den.length d] 37) = u1 at *
  have Sy := Su1; clear Su1
  have Sz := Sy; clear Sy
  replace xw := xw.trans xa; clear xa
  have xa := (Ex.refl u1).alloc (.cells #[.slice none 0 0, .slice none 0 0] 37)
  have vr := VB.new u1 37 #[.slice none 0 0, .slice none 0 0]
  have Su2 := Lib.hid (show (u1.alloc (.cells #[.slice none 0 0, .slice none 0 0] 37)).heap.size = u1.heap.size + 1 by simp)
  rw [Sz.out] at vr
  generalize u1.alloc (.cells #[.slice none 0 0, .slice none 0 0] 37) = u2 at *
  have Sy := Lib.hid (Su2.out.trans (congrArg (· + 1) Sz.out)); clear Sz Su2
  have Sz := Sy; clear Sy
  replace vx := vx.ex xa
  replace xw := xw.trans xa; clear xa
  have zu2 : w.heap.size + 2 ≤ u2.heap.size := Nat.le_of_eq (by have := Sz.out; omega)
  clear Sz
  refine (lowest_c p B A d c den num u2 (hd.ex xw) (hn.ex xw) HF.out Hde.out Hne.out td tn H0.out).mono ?_
  rintro e u3 ⟨A2, c2, B2, d2, rfl, f2, g2, ap, xu3⟩
  replace vx := vx.ex xu3
  replace vr := vr.ex xu3
  replace xw := xw.trans xu3
  have zu3 := xu3.size
  have qvr0 := vr.cell 0 (v := .slice none 0 0) rfl
  have qvr1 := vr.cell 1 (v := .slice none 0 0) rfl
  have fzvr0 := vr.frozen 0
  have fzvr1 := vr.frozen 1
  go_wp2_with fail
  clear qvr0 qvr1 fzvr0 fzvr1
  have yz : Ex1 (w.heap.size + 1) u3 ((u3.setCell ⟨w.heap.size + 1, 0, none⟩ (.slice A2 (lowN p den num).length c2)).setCell ⟨w.heap.size + 1, 1, none⟩ (.slice B2 (lowD p den num).length d2)) := ((Ex1.refl _ u3).setCell (p := ⟨w.heap.size + 1, 0, none⟩) rfl (.slice A2 (lowN p den num).length c2)).setCell (p := ⟨w.heap.size + 1, 1, none⟩) rfl (.slice B2 (lowD p den num).length d2)
  replace vr : VB ((u3.setCell ⟨w.heap.size + 1, 0, none⟩ (.slice A2 (lowN p den num).length c2)).setCell ⟨w.heap.size + 1, 1, none⟩ (.slice B2 (lowD p den num).length d2)) (w.heap.size + 1) 37 #[.slice A2 (lowN p den num).length c2, .slice B2 (lowD p den num).length d2] := ((vr.set_ 0 (.slice A2 (lowN p den num).length c2)).set_ 1 (.slice B2 (lowD p den num).length d2))
  replace vx := vx.ex1 yz (by omega)
  replace f2 := f2.ex1 yz (f2.hi.off (by omega))
  replace g2 := g2.ex1 yz (g2.hi.off (by omega))
  replace xw := xw.ex1 yz (by omega)
  have zu4 := yz.size
  generalize ((u3.setCell ⟨w.heap.size + 1, 0, none⟩ (.slice A2 (lowN p den num).length c2)).setCell ⟨w.heap.size + 1, 1, none⟩ (.slice B2 (lowD p den num).length d2)) = u4 at *
  clear yz
  have dvr0 := vr.cell 0 (v := .slice A2 (lowN p den num).length c2) rfl
  have dvr1 := vr.cell 1 (v := .slice B2 (lowD p den num).length d2) rfl
  refine bodyPost_ret (v := .agg #[.slice A2 (lowN p den num).length c2, .slice B2 (lowD p den num).length d2]) (by simp [results, Tryd.results105, go_sem, dvr0, dvr1]) rfl ?_
  exact ⟨A2, c2, B2, d2, rfl, f2.more (by omega), g2.more (by omega), ap, xw⟩
set_option maxHeartbeats 400000 in
theorem isNought_c (A B : Option Addr) (c d : Nat) (num den : List Int) (w : World) (hl : num.length ≤ 1099511627776) :
    Calls Tryd.prog 104 #[.agg #[.slice A num.length c, .slice B den.length d]] w fun e w' => e = .returned (.bool (decide (num = []))) ∧ Ex w w' := by
  have x0 := (Ex.refl w).alloc (.cells #[.slice A num.length c, .slice B den.length d] 37)
  go_enter Tryd.func104, Tryd.ntmps104
  go_wp2
  go_ret
  exact ⟨ret_bool (by rw [Bool.eq_iff_iff]; simp), x0⟩
set_option maxHeartbeats 2000000 in
theorem spFractionInverse_c (p : Int) (A B : Option Addr) (c d : Nat) (num den : List Int) (w : World) (hn : Rd w A num) (hd : Rd w B den) :
    Calls Tryd.prog 50 #[.int .i64 p, .agg #[.slice A num.length c, .slice B den.length d]] w fun e w' => FRB w (invR p num den) e w' := by
  have l1 := hn.len
  have l2 := hd.len
  cases hp : fracB p num den with
  | false =>
    have H := Lib.hid (invR_no p (fun h : fracB p num den = true ∧ num ≠ [] => by rw [hp] at h; cases h.1))
    have xw := Ex.refl w
    go_enter Tryd.func50, Tryd.ntmps50
    go_wp2_with fail
    have xa := (Ex.refl w).alloc (.cells #[.slice A num.length c, .slice B den.length d] 37)
    have vx := VB.new w 37 #[.slice A num.length c, .slice B den.length d]
    have Su1 := Lib.hid (show (w.alloc (.cells #[.slice A num.length c, .slice B den.length d] 37)).heap.size = w.heap.size + 1 by simp)
    generalize w.alloc (.cells #[.slice A num.length c, .slice B den.length d] 37) = u1 at *
    have Sy := Su1; clear Su1
    have Sz := Sy; clear Sy
    replace xw := xw.trans xa; clear xa
    have xa := (Ex.refl u1).alloc (.cells #[.slice none 0 0, .slice none 0 0] 37)
    have vr := VB.new u1 37 #[.slice none 0 0, .slice none 0 0]
    have Su2 := Lib.hid (show (u1.alloc (.cells #[.slice none 0 0, .slice none 0 0] 37)).heap.size = u1.heap.size + 1 by simp)
    rw [Sz.out] at vr
    generalize u1.alloc (.cells #[.slice none 0 0, .slice none 0 0] 37) = u2 at *
    have Sy := Lib.hid (Su2.out.trans (congrArg (· + 1) Sz.out)); clear Sz Su2
    have Sz := Sy; clear Sy
    replace vx := vx.ex xa
    replace xw := xw.trans xa; clear xa
    have zu2 : w.heap.size + 2 ≤ u2.heap.size := Nat.le_of_eq (by have := Sz.out; omega)
    clear Sz
    refine (frGood_c p A B c d num den u2 (hn.ex xw) (hd.ex xw)).mono ?_
    rintro e u3 ⟨rfl, xu3⟩
    replace vx := vx.ex xu3
    replace vr := vr.ex xu3
    replace xw := xw.trans xu3
    have zu3 := xu3.size
    rw [hp]
    have qvr0 := vr.cell 0 (v := .slice none 0 0) rfl
    have qvr1 := vr.cell 1 (v := .slice none 0 0) rfl
    have fzvr0 := vr.frozen 0
    have fzvr1 := vr.frozen 1
    go_wp2_with fail
    clear qvr0 qvr1 fzvr0 fzvr1
    have yz : Ex1 (w.heap.size + 1) u3 ((u3.setCell ⟨w.heap.size + 1, 0, none⟩ (.slice none 0 0)).setCell ⟨w.heap.size + 1, 1, none⟩ (.slice none 0 0)) := ((Ex1.refl _ u3).setCell (p := ⟨w.heap.size + 1, 0, none⟩) rfl (.slice none 0 0)).setCell (p := ⟨w.heap.size + 1, 1, none⟩) rfl (.slice none 0 0)
    replace vr : VB ((u3.setCell ⟨w.heap.size + 1, 0, none⟩ (.slice none 0 0)).setCell ⟨w.heap.size + 1, 1, none⟩ (.slice none 0 0)) (w.heap.size + 1) 37 #[.slice none 0 0, .slice none 0 0] := ((vr.set_ 0 (.slice none 0 0)).set_ 1 (.slice none 0 0))
    replace vx := vx.ex1 yz (by omega)
    replace xw := xw.ex1 yz (by omega)
    have zu4 := yz.size
    generalize ((u3.setCell ⟨w.heap.size + 1, 0, none⟩ (.slice none 0 0)).setCell ⟨w.heap.size + 1, 1, none⟩ (.slice none 0 0)) = u4 at *
    clear yz
    have dvr0 := vr.cell 0 (v := .slice none 0 0) rfl
    have dvr1 := vr.cell 1 (v := .slice none 0 0) rfl
    refine bodyPost_ret (v := .tuple #[.agg #[.slice none 0 0, .slice none 0 0], .bool false]) (by simp [results, Tryd.results50, go_sem, dvr0, dvr1]) rfl ?_
    exact FRB.nil_ rfl H.out xw
  | true =>
    by_cases h0 : num = []
    case pos =>
      have H := Lib.hid (invR_no p (fun h : fracB p num den = true ∧ num ≠ [] => h.2 h0))
      have hz : ((num.length : Int) == 0) = true := by rw [h0]; rfl
      have H0 := Lib.hid h0; clear h0
      have xw := Ex.refl w
      go_enter Tryd.func50, Tryd.ntmps50
      go_wp2_with fail
      have xa := (Ex.refl w).alloc (.cells #[.slice A num.length c, .slice B den.length d] 37)
      have vx := VB.new w 37 #[.slice A num.length c, .slice B den.length d]
      have Su1 := Lib.hid (show (w.alloc (.cells #[.slice A num.length c, .slice B den.length d] 37)).heap.size = w.heap.size + 1 by simp)
      generalize w.alloc (.cells #[.slice A num.length c, .slice B den.length d] 37) = u1 at *
      have Sy := Su1; clear Su1
      have Sz := Sy; clear Sy
      replace xw := xw.trans xa; clear xa
      have xa := (Ex.refl u1).alloc (.cells #[.slice none 0 0, .slice none 0 0] 37)
      have vr := VB.new u1 37 #[.slice none 0 0, .slice none 0 0]
      have Su2 := Lib.hid (show (u1.alloc (.cells #[.slice none 0 0, .slice none 0 0] 37)).heap.size = u1.heap.size + 1 by simp)
      rw [Sz.out] at vr
      generalize u1.alloc (.cells #[.slice none 0 0, .slice none 0 0] 37) = u2 at *
      have Sy := Lib.hid (Su2.out.trans (congrArg (· + 1) Sz.out)); clear Sz Su2
      have Sz := Sy; clear Sy
      replace vx := vx.ex xa
      replace xw := xw.trans xa; clear xa
      have zu2 : w.heap.size + 2 ≤ u2.heap.size := Nat.le_of_eq (by have := Sz.out; omega)
      clear Sz
      refine (frGood_c p A B c d num den u2 (hn.ex xw) (hd.ex xw)).mono ?_
      rintro e u3 ⟨rfl, xu3⟩
      replace vx := vx.ex xu3
      replace vr := vr.ex xu3
      replace xw := xw.trans xu3
      have zu3 := xu3.size
      rw [hp]
      have qvx0 := vx.cell 0 (v := .slice A num.length c) rfl
      have qvx1 := vx.cell 1 (v := .slice B den.length d) rfl
      have qvr0 := vr.cell 0 (v := .slice none 0 0) rfl
      have qvr1 := vr.cell 1 (v := .slice none 0 0) rfl
      have fzvr0 := vr.frozen 0
      have fzvr1 := vr.frozen 1
      go_wp2_with fail
      clear qvx0 qvx1 qvr0 qvr1 fzvr0 fzvr1
      have yz : Ex1 (w.heap.size + 1) u3 ((u3.setCell ⟨w.heap.size + 1, 0, none⟩ (.slice none 0 0)).setCell ⟨w.heap.size + 1, 1, none⟩ (.slice none 0 0)) := ((Ex1.refl _ u3).setCell (p := ⟨w.heap.size + 1, 0, none⟩) rfl (.slice none 0 0)).setCell (p := ⟨w.heap.size + 1, 1, none⟩) rfl (.slice none 0 0)
      replace vr : VB ((u3.setCell ⟨w.heap.size + 1, 0, none⟩ (.slice none 0 0)).setCell ⟨w.heap.size + 1, 1, none⟩ (.slice none 0 0)) (w.heap.size + 1) 37 #[.slice none 0 0, .slice none 0 0] := ((vr.set_ 0 (.slice none 0 0)).set_ 1 (.slice none 0 0))
      replace vx := vx.ex1 yz (by omega)
      replace xw := xw.ex1 yz (by omega)
      have zu4 := yz.size
      generalize ((u3.setCell ⟨w.heap.size + 1, 0, none⟩ (.slice none 0 0)).setCell ⟨w.heap.size + 1, 1, none⟩ (.slice none 0 0)) = u4 at *
      clear yz
      have dvr0 := vr.cell 0 (v := .slice none 0 0) rfl
      have dvr1 := vr.cell 1 (v := .slice none 0 0) rfl
      refine bodyPost_ret (v := .tuple #[.agg #[.slice none 0 0, .slice none 0 0], .bool false]) (by simp [results, Tryd.results50, go_sem, dvr0, dvr1]) rfl ?_
      exact FRB.nil_ rfl H.out xw
    have H := Lib.hid (invR_yes p ⟨hp, h0⟩)
    obtain ⟨hF, h1, h2, k1, k2, hd0, hc, hg⟩ := fracB_parts hp
    obtain ⟨_, _, hne, tn⟩ := polyB_parts h1
    obtain ⟨_, _, hde, td⟩ := polyB_parts h2
    have lp := low_parts hF hde hne td tn h0
    have b1 : (lowN p den num).length ≤ 21 := by omega
    have b2 : (lowD p den num).length ≤ 21 := by omega
    have hdl := List.length_pos_iff.2 h0
    have hdb : ((num.length : Int) == 0) = false := by simp; omega
    have HF := Lib.hid hF
    have Hne := Lib.hid hne
    have Hde := Lib.hid hde
    have H0 := Lib.hid h0
    clear hF hne hde h1 h2 hd0 hc hg lp
    have xw := Ex.refl w
    go_enter Tryd.func50, Tryd.ntmps50
    go_wp2_with fail
    have xa := (Ex.refl w).alloc (.cells #[.slice A num.length c, .slice B den.length d] 37)
    have vx := VB.new w 37 #[.slice A num.length c, .slice B den.length d]
    have Su1 := Lib.hid (show (w.alloc (.cells #[.slice A num.length c, .slice B den.length d] 37)).heap.size = w.heap.size + 1 by simp)
    generalize w.alloc (.cells #[.slice A num.length c, .slice B den.length d] 37) = u1 at *
    have Sy := Su1; clear Su1
    have Sz := Sy; clear Sy
    replace xw := xw.trans xa; clear xa
    have xa := (Ex.refl u1).alloc (.cells #[.slice none 0 0, .slice none 0 0] 37)
    have vr := VB.new u1 37 #[.slice none 0 0, .slice none 0 0]
    have Su2 := Lib.hid (show (u1.alloc (.cells #[.slice none 0 0, .slice none 0 0] 37)).heap.size = u1.heap.size + 1 by simp)
    rw [Sz.out] at vr
    generalize u1.alloc (.cells #[.slice none 0 0, .slice none 0 0] 37) = u2 at *
    have Sy := Lib.hid (Su2.out.trans (congrArg (· + 1) Sz.out)); clear Sz Su2
    have Sz := Sy; clear Sy
    replace vx := vx.ex xa
    replace xw := xw.trans xa; clear xa
    have zu2 : w.heap.size + 2 ≤ u2.heap.size := Nat.le_of_eq (by have := Sz.out; omega)
    clear Sz
    refine (frGood_c p A B c d num den u2 (hn.ex xw) (hd.ex xw)).mono ?_
    rintro e u3 ⟨rfl, xu3⟩
    replace vx := vx.ex xu3
    replace vr := vr.ex xu3
    replace xw := xw.trans xu3
    have zu3 := xu3.size
    rw [hp]
    have qvx0 := vx.cell 0 (v := .slice A num.length c) rfl
    have qvx1 := vx.cell 1 (v := .slice B den.length d) rfl
    go_wp2_with fail
    clear qvx0 qvx1
    refine (frInv_c p A B c d num den u3 (hn.ex xw) (hd.ex xw) HF.out Hne.out Hde.out tn td H0.out).mono ?_
    rintro e u4 ⟨A2, c2, B2, d2, rfl, f2, g2, ap, xu4⟩
    replace vx := vx.ex xu4
    replace vr := vr.ex xu4
    replace xw := xw.trans xu4
    have zu4 := xu4.size
    go_wp2_with fail
    refine (frIf_yes A2 B2 c2 d2 _ _ u4 b1 b2).mono ?_
    rintro e u5 ⟨rfl, xu5⟩
    replace vx := vx.ex xu5
    replace vr := vr.ex xu5
    replace f2 := f2.ex xu5
    replace g2 := g2.ex xu5
    replace xw := xw.trans xu5
    have zu5 := xu5.size
    have qvr0 := vr.cell 0 (v := .slice none 0 0) rfl
    have qvr1 := vr.cell 1 (v := .slice none 0 0) rfl
    have fzvr0 := vr.frozen 0
    have fzvr1 := vr.frozen 1
    go_wp2_with fail
    clear qvr0 qvr1 fzvr0 fzvr1
    have yz : Ex1 (w.heap.size + 1) u5 ((u5.setCell ⟨w.heap.size + 1, 0, none⟩ (.slice A2 (lowN p den num).length c2)).setCell ⟨w.heap.size + 1, 1, none⟩ (.slice B2 (lowD p den num).length d2)) := ((Ex1.refl _ u5).setCell (p := ⟨w.heap.size + 1, 0, none⟩) rfl (.slice A2 (lowN p den num).length c2)).setCell (p := ⟨w.heap.size + 1, 1, none⟩) rfl (.slice B2 (lowD p den num).length d2)
    replace vr : VB ((u5.setCell ⟨w.heap.size + 1, 0, none⟩ (.slice A2 (lowN p den num).length c2)).setCell ⟨w.heap.size + 1, 1, none⟩ (.slice B2 (lowD p den num).length d2)) (w.heap.size + 1) 37 #[.slice A2 (lowN p den num).length c2, .slice B2 (lowD p den num).length d2] := ((vr.set_ 0 (.slice A2 (lowN p den num).length c2)).set_ 1 (.slice B2 (lowD p den num).length d2))
    replace vx := vx.ex1 yz (by omega)
    replace f2 := f2.ex1 yz (f2.hi.off (by omega))
    replace g2 := g2.ex1 yz (g2.hi.off (by omega))
    replace xw := xw.ex1 yz (by omega)
    have zu6 := yz.size
    generalize ((u5.setCell ⟨w.heap.size + 1, 0, none⟩ (.slice A2 (lowN p den num).length c2)).setCell ⟨w.heap.size + 1, 1, none⟩ (.slice B2 (lowD p den num).length d2)) = u6 at *
    clear yz
    have dvr0 := vr.cell 0 (v := .slice A2 (lowN p den num).length c2) rfl
    have dvr1 := vr.cell 1 (v := .slice B2 (lowD p den num).length d2) rfl
    refine bodyPost_ret (v := .tuple #[.agg #[.slice A2 (lowN p den num).length c2, .slice B2 (lowD p den num).length d2], .bool true]) (by simp [results, Tryd.results50, go_sem, dvr0, dvr1]) rfl ?_
    exact FRB.yes_ rfl H.out (f2.more (by omega)) (g2.more (by omega)) ap xw
set_option maxHeartbeats 2000000 in
theorem FractionInverse_c (p : Int) (A B : Option Addr) (c d : Nat) (num den : List Int) (w : World) (hn : Rd w A num) (hd : Rd w B den) (ht : Tb w) :
    Calls Tryd.prog 51 #[.int .i64 p, .agg #[.slice A num.length c, .slice B den.length d]] w fun e w' => FRB w (invR p num den) e w' := by
  have l1 := hn.len
  have l2 := hd.len
  cases hp : fracB p num den with
  | false =>
    have H := Lib.hid (invR_no p (fun h : fracB p num den = true ∧ num ≠ [] => by rw [hp] at h; cases h.1))
    have xw := Ex.refl w
    go_enter Tryd.func51, Tryd.ntmps51
    go_wp2_with fail
    have xa := (Ex.refl w).alloc (.cells #[.slice A num.length c, .slice B den.length d] 37)
    have vx := VB.new w 37 #[.slice A num.length c, .slice B den.length d]
    have Su1 := Lib.hid (show (w.alloc (.cells #[.slice A num.length c, .slice B den.length d] 37)).heap.size = w.heap.size + 1 by simp)
    generalize w.alloc (.cells #[.slice A num.length c, .slice B den.length d] 37) = u1 at *
    have Sy := Su1; clear Su1
    have Sz := Sy; clear Sy
    replace xw := xw.trans xa; clear xa
    have xa := (Ex.refl u1).alloc (.cells #[.slice none 0 0, .slice none 0 0] 37)
    have vr := VB.new u1 37 #[.slice none 0 0, .slice none 0 0]
    have Su2 := Lib.hid (show (u1.alloc (.cells #[.slice none 0 0, .slice none 0 0] 37)).heap.size = u1.heap.size + 1 by simp)
    rw [Sz.out] at vr
    generalize u1.alloc (.cells #[.slice none 0 0, .slice none 0 0] 37) = u2 at *
    have Sy := Lib.hid (Su2.out.trans (congrArg (· + 1) Sz.out)); clear Sz Su2
    have Sz := Sy; clear Sy
    replace vx := vx.ex xa
    replace xw := xw.trans xa; clear xa
    have xa := (Ex.refl u2).alloc (.cells #[.slice A num.length c, .slice B den.length d] 37)
    have va := VB.new u2 37 #[.slice A num.length c, .slice B den.length d]
    have Su3 := Lib.hid (show (u2.alloc (.cells #[.slice A num.length c, .slice B den.length d] 37)).heap.size = u2.heap.size + 1 by simp)
    rw [Sz.out] at va
    generalize u2.alloc (.cells #[.slice A num.length c, .slice B den.length d] 37) = u3 at *
    have Sy := Lib.hid (Su3.out.trans (congrArg (· + 1) Sz.out)); clear Sz Su3
    have Sz := Sy; clear Sy
    replace vx := vx.ex xa
    replace vr := vr.ex xa
    replace xw := xw.trans xa; clear xa
    have zu3 : w.heap.size + 3 ≤ u3.heap.size := Nat.le_of_eq (by have := Sz.out; omega)
    clear Sz
    refine (areFractions_c p (some ⟨w.heap.size + 1 + 1, 0, none⟩) 1 [(num, den)] u3 (RdF.one (va.cell 0 rfl) (va.cell 1 rfl) (hn.ex xw) (hd.ex xw)) (ht.ex xw)).mono ?_
    rintro e u4 ⟨rfl, xu4⟩
    replace vx := vx.ex xu4
    replace vr := vr.ex xu4
    replace va := va.ex xu4
    replace xw := xw.trans xu4
    have zu4 := xu4.size
    rw [fracB_field, hp]
    clear va
    have qvr0 := vr.cell 0 (v := .slice none 0 0) rfl
    have qvr1 := vr.cell 1 (v := .slice none 0 0) rfl
    have fzvr0 := vr.frozen 0
    have fzvr1 := vr.frozen 1
    go_wp2_with fail
    clear qvr0 qvr1 fzvr0 fzvr1
    have yz : Ex1 (w.heap.size + 1) u4 ((u4.setCell ⟨w.heap.size + 1, 0, none⟩ (.slice none 0 0)).setCell ⟨w.heap.size + 1, 1, none⟩ (.slice none 0 0)) := ((Ex1.refl _ u4).setCell (p := ⟨w.heap.size + 1, 0, none⟩) rfl (.slice none 0 0)).setCell (p := ⟨w.heap.size + 1, 1, none⟩) rfl (.slice none 0 0)
    replace vr : VB ((u4.setCell ⟨w.heap.size + 1, 0, none⟩ (.slice none 0 0)).setCell ⟨w.heap.size + 1, 1, none⟩ (.slice none 0 0)) (w.heap.size + 1) 37 #[.slice none 0 0, .slice none 0 0] := ((vr.set_ 0 (.slice none 0 0)).set_ 1 (.slice none 0 0))
    replace vx := vx.ex1 yz (by omega)
    replace xw := xw.ex1 yz (by omega)
    have zu5 := yz.size
    generalize ((u4.setCell ⟨w.heap.size + 1, 0, none⟩ (.slice none 0 0)).setCell ⟨w.heap.size + 1, 1, none⟩ (.slice none 0 0)) = u5 at *
    clear yz
    have dvr0 := vr.cell 0 (v := .slice none 0 0) rfl
    have dvr1 := vr.cell 1 (v := .slice none 0 0) rfl
    refine bodyPost_ret (v := .tuple #[.agg #[.slice none 0 0, .slice none 0 0], .bool false]) (by simp [results, Tryd.results51, go_sem, dvr0, dvr1]) rfl ?_
    exact FRB.nil_ rfl H.out xw
  | true =>
    by_cases h0 : num = []
    case pos =>
      have H := Lib.hid (invR_no p (fun h : fracB p num den = true ∧ num ≠ [] => h.2 h0))
      have H0 := Lib.hid h0; clear h0
      have xw := Ex.refl w
      go_enter Tryd.func51, Tryd.ntmps51
      go_wp2_with fail
      have xa := (Ex.refl w).alloc (.cells #[.slice A num.length c, .slice B den.length d] 37)
      have vx := VB.new w 37 #[.slice A num.length c, .slice B den.length d]
      have Su1 := Lib.hid (show (w.alloc (.cells #[.slice A num.length c, .slice B den.length d] 37)).heap.size = w.heap.size + 1 by simp)
      generalize w.alloc (.cells #[.slice A num.length c, .slice B den.length d] 37) = u1 at *
      have Sy := Su1; clear Su1
      have Sz := Sy; clear Sy
      replace xw := xw.trans xa; clear xa
      have xa := (Ex.refl u1).alloc (.cells #[.slice none 0 0, .slice none 0 0] 37)
      have vr := VB.new u1 37 #[.slice none 0 0, .slice none 0 0]
      have Su2 := Lib.hid (show (u1.alloc (.cells #[.slice none 0 0, .slice none 0 0] 37)).heap.size = u1.heap.size + 1 by simp)
      rw [Sz.out] at vr
      generalize u1.alloc (.cells #[.slice none 0 0, .slice none 0 0] 37) = u2 at *
      have Sy := Lib.hid (Su2.out.trans (congrArg (· + 1) Sz.out)); clear Sz Su2
      have Sz := Sy; clear Sy
      replace vx := vx.ex xa
      replace xw := xw.trans xa; clear xa
      have xa := (Ex.refl u2).alloc (.cells #[.slice A num.length c, .slice B den.length d] 37)
      have va := VB.new u2 37 #[.slice A num.length c, .slice B den.length d]
      have Su3 := Lib.hid (show (u2.alloc (.cells #[.slice A num.length c, .slice B den.length d] 37)).heap.size = u2.heap.size + 1 by simp)
      rw [Sz.out] at va
      generalize u2.alloc (.cells #[.slice A num.length c, .slice B den.length d] 37) = u3 at *
      have Sy := Lib.hid (Su3.out.trans (congrArg (· + 1) Sz.out)); clear Sz Su3
      have Sz := Sy; clear Sy
      replace vx := vx.ex xa
      replace vr := vr.ex xa
      replace xw := xw.trans xa; clear xa
      have zu3 : w.heap.size + 3 ≤ u3.heap.size := Nat.le_of_eq (by have := Sz.out; omega)
      clear Sz
      refine (areFractions_c p (some ⟨w.heap.size + 1 + 1, 0, none⟩) 1 [(num, den)] u3 (RdF.one (va.cell 0 rfl) (va.cell 1 rfl) (hn.ex xw) (hd.ex xw)) (ht.ex xw)).mono ?_
      rintro e u4 ⟨rfl, xu4⟩
      replace vx := vx.ex xu4
      replace vr := vr.ex xu4
      replace va := va.ex xu4
      replace xw := xw.trans xu4
      have zu4 := xu4.size
      rw [fracB_field, hp]
      clear va
      have qvx0 := vx.cell 0 (v := .slice A num.length c) rfl
      have qvx1 := vx.cell 1 (v := .slice B den.length d) rfl
      go_wp2_with fail
      clear qvx0 qvx1
      refine (isNought_c A B c d num den u4 l1).mono ?_
      rintro e u5 ⟨rfl, xu5⟩
      replace vx := vx.ex xu5
      replace vr := vr.ex xu5
      replace xw := xw.trans xu5
      have zu5 := xu5.size
      rw [decide_eq_true H0.out]
      have qvr0 := vr.cell 0 (v := .slice none 0 0) rfl
      have qvr1 := vr.cell 1 (v := .slice none 0 0) rfl
      have fzvr0 := vr.frozen 0
      have fzvr1 := vr.frozen 1
      go_wp2_with fail
      clear qvr0 qvr1 fzvr0 fzvr1
      have yz : Ex1 (w.heap.size + 1) u5 ((u5.setCell ⟨w.heap.size + 1, 0, none⟩ (.slice none 0 0)).setCell ⟨w.heap.size + 1, 1, none⟩ (.slice none 0 0)) := ((Ex1.refl _ u5).setCell (p := ⟨w.heap.size + 1, 0, none⟩) rfl (.slice none 0 0)).setCell (p := ⟨w.heap.size + 1, 1, none⟩) rfl (.slice none 0 0)
      replace vr : VB ((u5.setCell ⟨w.heap.size + 1, 0, none⟩ (.slice none 0 0)).setCell ⟨w.heap.size + 1, 1, none⟩ (.slice none 0 0)) (w.heap.size + 1) 37 #[.slice none 0 0, .slice none 0 0] := ((vr.set_ 0 (.slice none 0 0)).set_ 1 (.slice none 0 0))
      replace vx := vx.ex1 yz (by omega)
      replace xw := xw.ex1 yz (by omega)
      have zu6 := yz.size
      generalize ((u5.setCell ⟨w.heap.size + 1, 0, none⟩ (.slice none 0 0)).setCell ⟨w.heap.size + 1, 1, none⟩ (.slice none 0 0)) = u6 at *
      clear yz
      have dvr0 := vr.cell 0 (v := .slice none 0 0) rfl
      have dvr1 := vr.cell 1 (v := .slice none 0 0) rfl
      refine bodyPost_ret (v := .tuple #[.agg #[.slice none 0 0, .slice none 0 0], .bool false]) (by simp [results, Tryd.results51, go_sem, dvr0, dvr1]) rfl ?_
      exact FRB.nil_ rfl H.out xw
    have H := Lib.hid (invR_yes p ⟨hp, h0⟩)
    obtain ⟨hF, h1, h2, k1, k2, hd0, hc, hg⟩ := fracB_parts hp
    obtain ⟨_, _, hne, tn⟩ := polyB_parts h1
    obtain ⟨_, _, hde, td⟩ := polyB_parts h2
    have lp := low_parts hF hde hne td tn h0
    have b1 : (lowN p den num).length ≤ 21 := by omega
    have b2 : (lowD p den num).length ≤ 21 := by omega
    have hdl := List.length_pos_iff.2 h0
    have hdb : ((num.length : Int) == 0) = false := by simp; omega
    have HF := Lib.hid hF
    have Hne := Lib.hid hne
    have Hde := Lib.hid hde
    have H0 := Lib.hid h0
    clear hF hne hde h1 h2 hd0 hc hg lp
    have xw := Ex.refl w
    go_enter Tryd.func51, Tryd.ntmps51
    go_wp2_with fail
    have xa := (Ex.refl w).alloc (.cells #[.slice A num.length c, .slice B den.length d] 37)
    have vx := VB.new w 37 #[.slice A num.length c, .slice B den.length d]
    have Su1 := Lib.hid (show (w.alloc (.cells #[.slice A num.length c, .slice B den.length d] 37)).heap.size = w.heap.size + 1 by simp)
    generalize w.alloc (.cells #[.slice A num.length c, .slice B den.length d] 37) = u1 at *
    have Sy := Su1; clear Su1
    have Sz := Sy; clear Sy
    replace xw := xw.trans xa; clear xa
    have xa := (Ex.refl u1).alloc (.cells #[.slice none 0 0, .slice none 0 0] 37)
    have vr := VB.new u1 37 #[.slice none 0 0, .slice none 0 0]
    have Su2 := Lib.hid (show (u1.alloc (.cells #[.slice none 0 0, .slice none 0 0] 37)).heap.size = u1.heap.size + 1 by simp)
    rw [Sz.out] at vr
    generalize u1.alloc (.cells #[.slice none 0 0, .slice none 0 0] 37) = u2 at *
    have Sy := Lib.hid (Su2.out.trans (congrArg (· + 1) Sz.out)); clear Sz Su2
    have Sz := Sy; clear Sy
    replace vx := vx.ex xa
    replace xw := xw.trans xa; clear xa
    have xa := (Ex.refl u2).alloc (.cells #[.slice A num.length c, .slice B den.length d] 37)
    have va := VB.new u2 37 #[.slice A num.length c, .slice B den.length d]
    have Su3 := Lib.hid (show (u2.alloc (.cells #[.slice A num.length c, .slice B den.length d] 37)).heap.size = u2.heap.size + 1 by simp)
    rw [Sz.out] at va
    generalize u2.alloc (.cells #[.slice A num.length c, .slice B den.length d] 37) = u3 at *
    have Sy := Lib.hid (Su3.out.trans (congrArg (· + 1) Sz.out)); clear Sz Su3
    have Sz := Sy; clear Sy
    replace vx := vx.ex xa
    replace vr := vr.ex xa
    replace xw := xw.trans xa; clear xa
    have zu3 : w.heap.size + 3 ≤ u3.heap.size := Nat.le_of_eq (by have := Sz.out; omega)
    clear Sz
    refine (areFractions_c p (some ⟨w.heap.size + 1 + 1, 0, none⟩) 1 [(num, den)] u3 (RdF.one (va.cell 0 rfl) (va.cell 1 rfl) (hn.ex xw) (hd.ex xw)) (ht.ex xw)).mono ?_
    rintro e u4 ⟨rfl, xu4⟩
    replace vx := vx.ex xu4
    replace vr := vr.ex xu4
    replace va := va.ex xu4
    replace xw := xw.trans xu4
    have zu4 := xu4.size
    rw [fracB_field, hp]
    clear va
    have qvx0 := vx.cell 0 (v := .slice A num.length c) rfl
    have qvx1 := vx.cell 1 (v := .slice B den.length d) rfl
    go_wp2_with fail
    clear qvx0 qvx1
    refine (isNought_c A B c d num den u4 l1).mono ?_
    rintro e u5 ⟨rfl, xu5⟩
    replace vx := vx.ex xu5
    replace vr := vr.ex xu5
    replace xw := xw.trans xu5
    have zu5 := xu5.size
    rw [decide_eq_false H0.out]
    have qvx0 := vx.cell 0 (v := .slice A num.length c) rfl
    have qvx1 := vx.cell 1 (v := .slice B den.length d) rfl
    go_wp2_with fail
    clear qvx0 qvx1
    refine (fractionInverse_c p A B c d num den u5 (hn.ex xw) (hd.ex xw) HF.out Hne.out Hde.out tn td H0.out).mono ?_
    rintro e u6 ⟨A2, c2, B2, d2, rfl, f2, g2, ap, xu6⟩
    replace vx := vx.ex xu6
    replace vr := vr.ex xu6
    replace xw := xw.trans xu6
    have zu6 := xu6.size
    have qvr0 := vr.cell 0 (v := .slice none 0 0) rfl
    have qvr1 := vr.cell 1 (v := .slice none 0 0) rfl
    have fzvr0 := vr.frozen 0
    have fzvr1 := vr.frozen 1
    go_wp2_with fail
    clear qvr0 qvr1 fzvr0 fzvr1
    have yz : Ex1 (w.heap.size + 1) u6 ((u6.setCell ⟨w.heap.size + 1, 0, none⟩ (.slice A2 (lowN p den num).length c2)).setCell ⟨w.heap.size + 1, 1, none⟩ (.slice B2 (lowD p den num).length d2)) := ((Ex1.refl _ u6).setCell (p := ⟨w.heap.size + 1, 0, none⟩) rfl (.slice A2 (lowN p den num).length c2)).setCell (p := ⟨w.heap.size + 1, 1, none⟩) rfl (.slice B2 (lowD p den num).length d2)
    replace vr : VB ((u6.setCell ⟨w.heap.size + 1, 0, none⟩ (.slice A2 (lowN p den num).length c2)).setCell ⟨w.heap.size + 1, 1, none⟩ (.slice B2 (lowD p den num).length d2)) (w.heap.size + 1) 37 #[.slice A2 (lowN p den num).length c2, .slice B2 (lowD p den num).length d2] := ((vr.set_ 0 (.slice A2 (lowN p den num).length c2)).set_ 1 (.slice B2 (lowD p den num).length d2))
    replace vx := vx.ex1 yz (by omega)
    replace f2 := f2.ex1 yz (f2.hi.off (by omega))
    replace g2 := g2.ex1 yz (g2.hi.off (by omega))
    replace xw := xw.ex1 yz (by omega)
    have zu7 := yz.size
    generalize ((u6.setCell ⟨w.heap.size + 1, 0, none⟩ (.slice A2 (lowN p den num).length c2)).setCell ⟨w.heap.size + 1, 1, none⟩ (.slice B2 (lowD p den num).length d2)) = u7 at *
    clear yz
    have dvr0 := vr.cell 0 (v := .slice A2 (lowN p den num).length c2) rfl
    have dvr1 := vr.cell 1 (v := .slice B2 (lowD p den num).length d2) rfl
    refine bodyPost_ret (v := .tuple #[.agg #[.slice A2 (lowN p den num).length c2, .slice B2 (lowD p den num).length d2], .bool true]) (by simp [results, Tryd.results51, go_sem, dvr0, dvr1]) rfl ?_
    exact FRB.yes_ rfl H.out (f2.more (by omega)) (g2.more (by omega)) ap xw
end Go.Proofs.YtpiplogjbeofoaaDoor
