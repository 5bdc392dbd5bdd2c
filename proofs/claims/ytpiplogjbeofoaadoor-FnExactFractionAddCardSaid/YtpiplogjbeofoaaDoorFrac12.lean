/- Contracts: FractionAdd, on both sides. -/
import Derived.Test.YtpiplogjbeofoaaDoorFrac11
import Derived.Test.YtpiplogjbeofoaaDoorLawFrac2
import Derived.RegionCalls
import Derived.Deep.RegionWith
import Derived.Deep.RegionHeld3
namespace Go.Proofs.YtpiplogjbeofoaaDoor
set_option maxRecDepth 100000
open Go Go.RowKit
set_option maxHeartbeats 4000000 in
theorem spFractionAdd_c (p : Int) (A B : Option Addr) (c d : Nat) (n m : List Int) (A' B' : Option Addr) (c' d' : Nat) (n' m' : List Int) (w : World) (hn : Rd w A n) (hd : Rd w B m) (hn' : Rd w A' n') (hd' : Rd w B' m') :
    Calls Tryd.prog 59 #[.int .i64 p, .agg #[.slice A n.length c, .slice B m.length d], .agg #[.slice A' n'.length c', .slice B' m'.length d']] w fun e w' => FRB w (addR p n m n' m') e w' := by
  cases hp : (fracB p n m && fracB p n' m') with
  | false =>
    have H := Lib.hid (addR_no (fun h => by rw [h.1, h.2] at hp; cases hp) : addR p n m n' m' = ([], [], false))
    have xw := Ex.refl w
    go_enter Tryd.func59, Tryd.ntmps59
    go_wp2_with fail
    have xa := (Ex.refl w).alloc (.cells #[.slice A n.length c, .slice B m.length d] 37)
    have vx := VB.new w 37 #[.slice A n.length c, .slice B m.length d]
    have Su1 := Lib.hid (show (w.alloc (.cells #[.slice A n.length c, .slice B m.length d] 37)).heap.size = w.heap.size + 1 by simp)
    generalize w.alloc (.cells #[.slice A n.length c, .slice B m.length d] 37) = u1 at *
    have Sy := Su1; clear Su1
    have Sz := Sy; clear Sy
    replace xw := xw.trans xa; clear xa
    have xa := (Ex.refl u1).alloc (.cells #[.slice A' n'.length c', .slice B' m'.length d'] 37)
    have vy := VB.new u1 37 #[.slice A' n'.length c', .slice B' m'.length d']
    have Su2 := Lib.hid (show (u1.alloc (.cells #[.slice A' n'.length c', .slice B' m'.length d'] 37)).heap.size = u1.heap.size + 1 by simp)
    rw [Sz.out] at vy
    generalize u1.alloc (.cells #[.slice A' n'.length c', .slice B' m'.length d'] 37) = u2 at *
    have Sy := Lib.hid (Su2.out.trans (congrArg (· + 1) Sz.out)); clear Sz Su2
    have Sz := Sy; clear Sy
    replace vx := vx.ex xa
    replace xw := xw.trans xa; clear xa
    have xa := (Ex.refl u2).alloc (.cells #[.slice none 0 0, .slice none 0 0] 37)
    have vr := VB.new u2 37 #[.slice none 0 0, .slice none 0 0]
    have Su3 := Lib.hid (show (u2.alloc (.cells #[.slice none 0 0, .slice none 0 0] 37)).heap.size = u2.heap.size + 1 by simp)
    rw [Sz.out] at vr
    generalize u2.alloc (.cells #[.slice none 0 0, .slice none 0 0] 37) = u3 at *
    have Sy := Lib.hid (Su3.out.trans (congrArg (· + 1) Sz.out)); clear Sz Su3
    have Sz := Sy; clear Sy
    replace vx := vx.ex xa
    replace vy := vy.ex xa
    replace xw := xw.trans xa; clear xa
    have zu3 : w.heap.size + 3 ≤ u3.heap.size := Nat.le_of_eq (by have := Sz.out; omega)
    clear Sz
    refine (frTwo_c p A B c d n m A' B' c' d' n' m' u3 (hn.ex xw) (hd.ex xw) (hn'.ex xw) (hd'.ex xw)).mono ?_
    rintro e u4 ⟨rfl, xu4⟩
    replace vx := vx.ex xu4
    replace vy := vy.ex xu4
    replace vr := vr.ex xu4
    replace xw := xw.trans xu4
    have zu4 := xu4.size
    rw [hp]
    have qvr0 := vr.cell 0 (v := .slice none 0 0) rfl
    have qvr1 := vr.cell 1 (v := .slice none 0 0) rfl
    have fzvr0 := vr.frozen 0
    have fzvr1 := vr.frozen 1
    go_wp2_with fail
    clear qvr0 qvr1 fzvr0 fzvr1
    have yz : Ex1 (w.heap.size + 1 + 1) u4 ((u4.setCell ⟨w.heap.size + 1 + 1, 0, none⟩ (.slice none 0 0)).setCell ⟨w.heap.size + 1 + 1, 1, none⟩ (.slice none 0 0)) := ((Ex1.refl _ u4).setCell (p := ⟨w.heap.size + 1 + 1, 0, none⟩) rfl (.slice none 0 0)).setCell (p := ⟨w.heap.size + 1 + 1, 1, none⟩) rfl (.slice none 0 0)
    replace vr : VB ((u4.setCell ⟨w.heap.size + 1 + 1, 0, none⟩ (.slice none 0 0)).setCell ⟨w.heap.size + 1 + 1, 1, none⟩ (.slice none 0 0)) (w.heap.size + 1 + 1) 37 #[.slice none 0 0, .slice none 0 0] := ((vr.set_ 0 (.slice none 0 0)).set_ 1 (.slice none 0 0))
    replace vx := vx.ex1 yz (by omega)
    replace vy := vy.ex1 yz (by omega)
    replace xw := xw.ex1 yz (by omega)
    have zu5 := yz.size
    generalize ((u4.setCell ⟨w.heap.size + 1 + 1, 0, none⟩ (.slice none 0 0)).setCell ⟨w.heap.size + 1 + 1, 1, none⟩ (.slice none 0 0)) = u5 at *
    clear yz
    have dvr0 := vr.cell 0 (v := .slice none 0 0) rfl
    have dvr1 := vr.cell 1 (v := .slice none 0 0) rfl
    refine bodyPost_ret (v := .tuple #[.agg #[.slice none 0 0, .slice none 0 0], .bool false]) (by simp [results, Tryd.results59, go_sem, dvr0, dvr1]) rfl ?_
    exact FRB.nil_ rfl H.out xw
  | true =>
    have H := Lib.hid (addR_yes (by rw [Bool.and_eq_true] at hp; exact hp) : addR p n m n' m' = _)
    have E1 := Lib.hid (FrOK.of (by rw [Bool.and_eq_true] at hp; exact hp.1) : FrOK p n m)
    have E2 := Lib.hid (FrOK.of (by rw [Bool.and_eq_true] at hp; exact hp.2) : FrOK p n' m')
    have g2 := fieldB_lo E1.out.f
    have g97 := fieldB_hi E1.out.f
    have EM := Lib.hid (mul_low E1.out E2.out)
    have HI := Lib.hid ((low_ifR E1.out.f (add_low E1.out E2.out).1 (add_low E1.out E2.out).2.1 (add_low E1.out E2.out).2.2.1 (add_low E1.out E2.out).2.2.2.1 (add_low E1.out E2.out).2.2.2.2 : ((addN p n m n' m').length ≤ 21 ∧ (addD p n m n' m').length ≤ 21) ↔ fracB p (addN p n m n' m') (addD p n m n' m') = true))
    have Hp := Lib.hid hp
    have xw := Ex.refl w
    go_enter Tryd.func59, Tryd.ntmps59
    go_wp2_with fail
    have xa := (Ex.refl w).alloc (.cells #[.slice A n.length c, .slice B m.length d] 37)
    have vx := VB.new w 37 #[.slice A n.length c, .slice B m.length d]
    have Su1 := Lib.hid (show (w.alloc (.cells #[.slice A n.length c, .slice B m.length d] 37)).heap.size = w.heap.size + 1 by simp)
    generalize w.alloc (.cells #[.slice A n.length c, .slice B m.length d] 37) = u1 at *
    have Sy := Su1; clear Su1
    have Sz := Sy; clear Sy
    replace xw := xw.trans xa; clear xa
    have xa := (Ex.refl u1).alloc (.cells #[.slice A' n'.length c', .slice B' m'.length d'] 37)
    have vy := VB.new u1 37 #[.slice A' n'.length c', .slice B' m'.length d']
    have Su2 := Lib.hid (show (u1.alloc (.cells #[.slice A' n'.length c', .slice B' m'.length d'] 37)).heap.size = u1.heap.size + 1 by simp)
    rw [Sz.out] at vy
    generalize u1.alloc (.cells #[.slice A' n'.length c', .slice B' m'.length d'] 37) = u2 at *
    have Sy := Lib.hid (Su2.out.trans (congrArg (· + 1) Sz.out)); clear Sz Su2
    have Sz := Sy; clear Sy
    replace vx := vx.ex xa
    replace xw := xw.trans xa; clear xa
    have xa := (Ex.refl u2).alloc (.cells #[.slice none 0 0, .slice none 0 0] 37)
    have vr := VB.new u2 37 #[.slice none 0 0, .slice none 0 0]
    have Su3 := Lib.hid (show (u2.alloc (.cells #[.slice none 0 0, .slice none 0 0] 37)).heap.size = u2.heap.size + 1 by simp)
    rw [Sz.out] at vr
    generalize u2.alloc (.cells #[.slice none 0 0, .slice none 0 0] 37) = u3 at *
    have Sy := Lib.hid (Su3.out.trans (congrArg (· + 1) Sz.out)); clear Sz Su3
    have Sz := Sy; clear Sy
    replace vx := vx.ex xa
    replace vy := vy.ex xa
    replace xw := xw.trans xa; clear xa
    have zu3 : w.heap.size + 3 ≤ u3.heap.size := Nat.le_of_eq (by have := Sz.out; omega)
    clear Sz
    refine (frTwo_c p A B c d n m A' B' c' d' n' m' u3 (hn.ex xw) (hd.ex xw) (hn'.ex xw) (hd'.ex xw)).mono ?_
    rintro e u4 ⟨rfl, xu4⟩
    replace vx := vx.ex xu4
    replace vy := vy.ex xu4
    replace vr := vr.ex xu4
    replace xw := xw.trans xu4
    have zu4 := xu4.size
    rw [hp]
    have qvx0 := vx.cell 0 (v := .slice A n.length c) rfl
    have qvx1 := vx.cell 1 (v := .slice B m.length d) rfl
    have qvy0 := vy.cell 0 (v := .slice A' n'.length c') rfl
    have qvy1 := vy.cell 1 (v := .slice B' m'.length d') rfl
    go_wp2_with fail
    clear qvx0 qvx1 qvy0 qvy1
    refine (frAdd_c p A B c d n m A' B' c' d' n' m' u4 (hn.ex xw) (hd.ex xw) (hn'.ex xw) (hd'.ex xw) E1.out E2.out).mono ?_
    rintro e u5 ⟨A3, c3, B3, d3, rfl, f3, g3, ap, xu5⟩
    replace vx := vx.ex xu5
    replace vy := vy.ex xu5
    replace vr := vr.ex xu5
    replace xw := xw.trans xu5
    have zu5 := xu5.size
    have l1 := f3.rd.len
    have l2 := g3.rd.len
    by_cases hle : (addN p n m n' m').length ≤ 21 ∧ (addD p n m n' m').length ≤ 21
    · have H := Lib.hid (H.out.trans (ifR_yes hle))
      go_wp2_with fail
      refine (frIf_yes A3 B3 c3 d3 _ _ u5 hle.1 hle.2).mono ?_
      rintro e u6 ⟨rfl, xu6⟩
      replace vx := vx.ex xu6
      replace vy := vy.ex xu6
      replace vr := vr.ex xu6
      replace f3 := f3.ex xu6
      replace g3 := g3.ex xu6
      replace xw := xw.trans xu6
      have zu6 := xu6.size
      have qvr0 := vr.cell 0 (v := .slice none 0 0) rfl
      have qvr1 := vr.cell 1 (v := .slice none 0 0) rfl
      have fzvr0 := vr.frozen 0
      have fzvr1 := vr.frozen 1
      go_wp2_with fail
      clear qvr0 qvr1 fzvr0 fzvr1
      have yz : Ex1 (w.heap.size + 1 + 1) u6 ((u6.setCell ⟨w.heap.size + 1 + 1, 0, none⟩ (.slice A3 (addN p n m n' m').length c3)).setCell ⟨w.heap.size + 1 + 1, 1, none⟩ (.slice B3 (addD p n m n' m').length d3)) := ((Ex1.refl _ u6).setCell (p := ⟨w.heap.size + 1 + 1, 0, none⟩) rfl (.slice A3 (addN p n m n' m').length c3)).setCell (p := ⟨w.heap.size + 1 + 1, 1, none⟩) rfl (.slice B3 (addD p n m n' m').length d3)
      replace vr : VB ((u6.setCell ⟨w.heap.size + 1 + 1, 0, none⟩ (.slice A3 (addN p n m n' m').length c3)).setCell ⟨w.heap.size + 1 + 1, 1, none⟩ (.slice B3 (addD p n m n' m').length d3)) (w.heap.size + 1 + 1) 37 #[.slice A3 (addN p n m n' m').length c3, .slice B3 (addD p n m n' m').length d3] := ((vr.set_ 0 (.slice A3 (addN p n m n' m').length c3)).set_ 1 (.slice B3 (addD p n m n' m').length d3))
      replace vx := vx.ex1 yz (by omega)
      replace vy := vy.ex1 yz (by omega)
      replace f3 := f3.ex1 yz (f3.hi.off (by omega))
      replace g3 := g3.ex1 yz (g3.hi.off (by omega))
      replace xw := xw.ex1 yz (by omega)
      have zu7 := yz.size
      generalize ((u6.setCell ⟨w.heap.size + 1 + 1, 0, none⟩ (.slice A3 (addN p n m n' m').length c3)).setCell ⟨w.heap.size + 1 + 1, 1, none⟩ (.slice B3 (addD p n m n' m').length d3)) = u7 at *
      clear yz
      have dvr0 := vr.cell 0 (v := .slice A3 (addN p n m n' m').length c3) rfl
      have dvr1 := vr.cell 1 (v := .slice B3 (addD p n m n' m').length d3) rfl
      refine bodyPost_ret (v := .tuple #[.agg #[.slice A3 (addN p n m n' m').length c3, .slice B3 (addD p n m n' m').length d3], .bool true]) (by simp [results, Tryd.results59, go_sem, dvr0, dvr1]) rfl ?_
      exact FRB.yes_ rfl H.out (f3.more (by omega)) (g3.more (by omega)) ap xw
    · have H := Lib.hid (H.out.trans (ifR_no hle))
      go_wp2_with fail
      refine (frIf_no A3 B3 c3 d3 _ _ u5 hle l1 l2).mono ?_
      rintro e u6 ⟨rfl, xu6⟩
      replace vx := vx.ex xu6
      replace vy := vy.ex xu6
      replace vr := vr.ex xu6
      replace f3 := f3.ex xu6
      replace g3 := g3.ex xu6
      replace xw := xw.trans xu6
      have zu6 := xu6.size
      have qvr0 := vr.cell 0 (v := .slice none 0 0) rfl
      have qvr1 := vr.cell 1 (v := .slice none 0 0) rfl
      have fzvr0 := vr.frozen 0
      have fzvr1 := vr.frozen 1
      go_wp2_with fail
      clear qvr0 qvr1 fzvr0 fzvr1
      have yz : Ex1 (w.heap.size + 1 + 1) u6 ((u6.setCell ⟨w.heap.size + 1 + 1, 0, none⟩ (.slice none 0 0)).setCell ⟨w.heap.size + 1 + 1, 1, none⟩ (.slice none 0 0)) := ((Ex1.refl _ u6).setCell (p := ⟨w.heap.size + 1 + 1, 0, none⟩) rfl (.slice none 0 0)).setCell (p := ⟨w.heap.size + 1 + 1, 1, none⟩) rfl (.slice none 0 0)
      replace vr : VB ((u6.setCell ⟨w.heap.size + 1 + 1, 0, none⟩ (.slice none 0 0)).setCell ⟨w.heap.size + 1 + 1, 1, none⟩ (.slice none 0 0)) (w.heap.size + 1 + 1) 37 #[.slice none 0 0, .slice none 0 0] := ((vr.set_ 0 (.slice none 0 0)).set_ 1 (.slice none 0 0))
      replace vx := vx.ex1 yz (by omega)
      replace vy := vy.ex1 yz (by omega)
      replace f3 := f3.ex1 yz (f3.hi.off (by omega))
      replace g3 := g3.ex1 yz (g3.hi.off (by omega))
      replace xw := xw.ex1 yz (by omega)
      have zu7 := yz.size
      generalize ((u6.setCell ⟨w.heap.size + 1 + 1, 0, none⟩ (.slice none 0 0)).setCell ⟨w.heap.size + 1 + 1, 1, none⟩ (.slice none 0 0)) = u7 at *
      clear yz
      have dvr0 := vr.cell 0 (v := .slice none 0 0) rfl
      have dvr1 := vr.cell 1 (v := .slice none 0 0) rfl
      refine bodyPost_ret (v := .tuple #[.agg #[.slice none 0 0, .slice none 0 0], .bool false]) (by simp [results, Tryd.results59, go_sem, dvr0, dvr1]) rfl ?_
      exact FRB.nil_ rfl H.out xw
set_option maxHeartbeats 8000000 in
theorem FractionAdd_c (p : Int) (A B : Option Addr) (c d : Nat) (n m : List Int) (A' B' : Option Addr) (c' d' : Nat) (n' m' : List Int) (w : World) (hn : Rd w A n) (hd : Rd w B m) (hn' : Rd w A' n') (hd' : Rd w B' m') (ht : Tb w) :
    Calls Tryd.prog 60 #[.int .i64 p, .agg #[.slice A n.length c, .slice B m.length d], .agg #[.slice A' n'.length c', .slice B' m'.length d']] w fun e w' => FRB w (addR p n m n' m') e w' := by
  cases hp : (fracB p n m && fracB p n' m') with
  | false =>
    have H := Lib.hid (addR_no (fun h => by rw [h.1, h.2] at hp; cases hp) : addR p n m n' m' = ([], [], false))
    have xw := Ex.refl w
    go_enter Tryd.func60, Tryd.ntmps60
    go_wp2_with fail
    have xa := (Ex.refl w).alloc (.cells #[.int .i64 p] 3)
    have vp := VB.new w 3 #[.int .i64 p]
    have Su1 := Lib.hid (show (w.alloc (.cells #[.int .i64 p] 3)).heap.size = w.heap.size + 1 by simp)
    generalize w.alloc (.cells #[.int .i64 p] 3) = u1 at *
    have Sy := Su1; clear Su1
    have Sz := Sy; clear Sy
    replace xw := xw.trans xa; clear xa
    have xa := (Ex.refl u1).alloc (.cells #[.slice A n.length c, .slice B m.length d] 37)
    have vx := VB.new u1 37 #[.slice A n.length c, .slice B m.length d]
    have Su2 := Lib.hid (show (u1.alloc (.cells #[.slice A n.length c, .slice B m.length d] 37)).heap.size = u1.heap.size + 1 by simp)
    rw [Sz.out] at vx
    generalize u1.alloc (.cells #[.slice A n.length c, .slice B m.length d] 37) = u2 at *
    have Sy := Lib.hid (Su2.out.trans (congrArg (· + 1) Sz.out)); clear Sz Su2
    have Sz := Sy; clear Sy
    replace vp := vp.ex xa
    replace xw := xw.trans xa; clear xa
    have xa := (Ex.refl u2).alloc (.cells #[.slice A' n'.length c', .slice B' m'.length d'] 37)
    have vy := VB.new u2 37 #[.slice A' n'.length c', .slice B' m'.length d']
    have Su3 := Lib.hid (show (u2.alloc (.cells #[.slice A' n'.length c', .slice B' m'.length d'] 37)).heap.size = u2.heap.size + 1 by simp)
    rw [Sz.out] at vy
    generalize u2.alloc (.cells #[.slice A' n'.length c', .slice B' m'.length d'] 37) = u3 at *
    have Sy := Lib.hid (Su3.out.trans (congrArg (· + 1) Sz.out)); clear Sz Su3
    have Sz := Sy; clear Sy
    replace vp := vp.ex xa
    replace vx := vx.ex xa
    replace xw := xw.trans xa; clear xa
    have xa := (Ex.refl u3).alloc (.cells #[.slice none 0 0, .slice none 0 0] 37)
    have vr := VB.new u3 37 #[.slice none 0 0, .slice none 0 0]
    have Su4 := Lib.hid (show (u3.alloc (.cells #[.slice none 0 0, .slice none 0 0] 37)).heap.size = u3.heap.size + 1 by simp)
    rw [Sz.out] at vr
    generalize u3.alloc (.cells #[.slice none 0 0, .slice none 0 0] 37) = u4 at *
    have Sy := Lib.hid (Su4.out.trans (congrArg (· + 1) Sz.out)); clear Sz Su4
    have Sz := Sy; clear Sy
    replace vp := vp.ex xa
    replace vx := vx.ex xa
    replace vy := vy.ex xa
    replace xw := xw.trans xa; clear xa
    have xa := (Ex.refl u4).alloc (.cells #[.slice A n.length c, .slice B m.length d, .slice A' n'.length c', .slice B' m'.length d'] 37)
    have va := VB.new u4 37 #[.slice A n.length c, .slice B m.length d, .slice A' n'.length c', .slice B' m'.length d']
    have Su5 := Lib.hid (show (u4.alloc (.cells #[.slice A n.length c, .slice B m.length d, .slice A' n'.length c', .slice B' m'.length d'] 37)).heap.size = u4.heap.size + 1 by simp)
    rw [Sz.out] at va
    generalize u4.alloc (.cells #[.slice A n.length c, .slice B m.length d, .slice A' n'.length c', .slice B' m'.length d'] 37) = u5 at *
    have Sy := Lib.hid (Su5.out.trans (congrArg (· + 1) Sz.out)); clear Sz Su5
    have Sz := Sy; clear Sy
    replace vp := vp.ex xa
    replace vx := vx.ex xa
    replace vy := vy.ex xa
    replace vr := vr.ex xa
    replace xw := xw.trans xa; clear xa
    have zu5 : w.heap.size + 5 ≤ u5.heap.size := Nat.le_of_eq (by have := Sz.out; omega)
    clear Sz
    refine (areFractions_c p (some ⟨w.heap.size + 1 + 1 + 1 + 1, 0, none⟩) 2 [(n, m), (n', m')] u5 (RdF.two (va.cell 0 rfl) (va.cell 1 rfl) (va.cell 2 rfl) (va.cell 3 rfl) (hn.ex xw) (hd.ex xw) (hn'.ex xw) (hd'.ex xw)) (ht.ex xw)).mono ?_
    rintro e u6 ⟨rfl, xu6⟩
    replace vp := vp.ex xu6
    replace vx := vx.ex xu6
    replace vy := vy.ex xu6
    replace vr := vr.ex xu6
    replace va := va.ex xu6
    replace xw := xw.trans xu6
    have zu6 := xu6.size
    rw [fracB_field2, hp]
    clear va
    have qvr0 := vr.cell 0 (v := .slice none 0 0) rfl
    have qvr1 := vr.cell 1 (v := .slice none 0 0) rfl
    have fzvr0 := vr.frozen 0
    have fzvr1 := vr.frozen 1
    go_wp2_with fail
    clear qvr0 qvr1 fzvr0 fzvr1
    have yz : Ex1 (w.heap.size + 1 + 1 + 1) u6 ((u6.setCell ⟨w.heap.size + 1 + 1 + 1, 0, none⟩ (.slice none 0 0)).setCell ⟨w.heap.size + 1 + 1 + 1, 1, none⟩ (.slice none 0 0)) := ((Ex1.refl _ u6).setCell (p := ⟨w.heap.size + 1 + 1 + 1, 0, none⟩) rfl (.slice none 0 0)).setCell (p := ⟨w.heap.size + 1 + 1 + 1, 1, none⟩) rfl (.slice none 0 0)
    replace vr : VB ((u6.setCell ⟨w.heap.size + 1 + 1 + 1, 0, none⟩ (.slice none 0 0)).setCell ⟨w.heap.size + 1 + 1 + 1, 1, none⟩ (.slice none 0 0)) (w.heap.size + 1 + 1 + 1) 37 #[.slice none 0 0, .slice none 0 0] := ((vr.set_ 0 (.slice none 0 0)).set_ 1 (.slice none 0 0))
    replace vp := vp.ex1 yz (by omega)
    replace vx := vx.ex1 yz (by omega)
    replace vy := vy.ex1 yz (by omega)
    replace xw := xw.ex1 yz (by omega)
    have zu7 := yz.size
    generalize ((u6.setCell ⟨w.heap.size + 1 + 1 + 1, 0, none⟩ (.slice none 0 0)).setCell ⟨w.heap.size + 1 + 1 + 1, 1, none⟩ (.slice none 0 0)) = u7 at *
    clear yz
    have dvr0 := vr.cell 0 (v := .slice none 0 0) rfl
    have dvr1 := vr.cell 1 (v := .slice none 0 0) rfl
    refine bodyPost_ret (v := .tuple #[.agg #[.slice none 0 0, .slice none 0 0], .bool false]) (by simp [results, Tryd.results60, go_sem, dvr0, dvr1]) rfl ?_
    exact FRB.nil_ rfl H.out xw
  | true =>
    have H := Lib.hid (addR_yes (by rw [Bool.and_eq_true] at hp; exact hp) : addR p n m n' m' = _)
    have E1 := Lib.hid (FrOK.of (by rw [Bool.and_eq_true] at hp; exact hp.1) : FrOK p n m)
    have E2 := Lib.hid (FrOK.of (by rw [Bool.and_eq_true] at hp; exact hp.2) : FrOK p n' m')
    have g2 := fieldB_lo E1.out.f
    have g97 := fieldB_hi E1.out.f
    have EM := Lib.hid (mul_low E1.out E2.out)
    have HI := Lib.hid (low_ifR E1.out.f (add_low E1.out E2.out).1 (add_low E1.out E2.out).2.1 (add_low E1.out E2.out).2.2.1 (add_low E1.out E2.out).2.2.2.1 (add_low E1.out E2.out).2.2.2.2 : ((addN p n m n' m').length ≤ 21 ∧ (addD p n m n' m').length ≤ 21) ↔ fracB p (addN p n m n' m') (addD p n m n' m') = true)
    have HP1 := Lib.hid (show fracB p n m = true by rw [Bool.and_eq_true] at hp; exact hp.1)
    have HP2 := Lib.hid (show fracB p n' m' = true by rw [Bool.and_eq_true] at hp; exact hp.2)
    have xw := Ex.refl w
    go_enter Tryd.func60, Tryd.ntmps60
    go_wp2_with fail
    have xa := (Ex.refl w).alloc (.cells #[.int .i64 p] 3)
    have vp := VB.new w 3 #[.int .i64 p]
    have Su1 := Lib.hid (show (w.alloc (.cells #[.int .i64 p] 3)).heap.size = w.heap.size + 1 by simp)
    generalize w.alloc (.cells #[.int .i64 p] 3) = u1 at *
    have Sy := Su1; clear Su1
    have Sz := Sy; clear Sy
    replace xw := xw.trans xa; clear xa
    have xa := (Ex.refl u1).alloc (.cells #[.slice A n.length c, .slice B m.length d] 37)
    have vx := VB.new u1 37 #[.slice A n.length c, .slice B m.length d]
    have Su2 := Lib.hid (show (u1.alloc (.cells #[.slice A n.length c, .slice B m.length d] 37)).heap.size = u1.heap.size + 1 by simp)
    rw [Sz.out] at vx
    generalize u1.alloc (.cells #[.slice A n.length c, .slice B m.length d] 37) = u2 at *
    have Sy := Lib.hid (Su2.out.trans (congrArg (· + 1) Sz.out)); clear Sz Su2
    have Sz := Sy; clear Sy
    replace vp := vp.ex xa
    replace xw := xw.trans xa; clear xa
    have xa := (Ex.refl u2).alloc (.cells #[.slice A' n'.length c', .slice B' m'.length d'] 37)
    have vy := VB.new u2 37 #[.slice A' n'.length c', .slice B' m'.length d']
    have Su3 := Lib.hid (show (u2.alloc (.cells #[.slice A' n'.length c', .slice B' m'.length d'] 37)).heap.size = u2.heap.size + 1 by simp)
    rw [Sz.out] at vy
    generalize u2.alloc (.cells #[.slice A' n'.length c', .slice B' m'.length d'] 37) = u3 at *
    have Sy := Lib.hid (Su3.out.trans (congrArg (· + 1) Sz.out)); clear Sz Su3
    have Sz := Sy; clear Sy
    replace vp := vp.ex xa
    replace vx := vx.ex xa
    replace xw := xw.trans xa; clear xa
    have xa := (Ex.refl u3).alloc (.cells #[.slice none 0 0, .slice none 0 0] 37)
    have vr := VB.new u3 37 #[.slice none 0 0, .slice none 0 0]
    have Su4 := Lib.hid (show (u3.alloc (.cells #[.slice none 0 0, .slice none 0 0] 37)).heap.size = u3.heap.size + 1 by simp)
    rw [Sz.out] at vr
    generalize u3.alloc (.cells #[.slice none 0 0, .slice none 0 0] 37) = u4 at *
    have Sy := Lib.hid (Su4.out.trans (congrArg (· + 1) Sz.out)); clear Sz Su4
    have Sz := Sy; clear Sy
    replace vp := vp.ex xa
    replace vx := vx.ex xa
    replace vy := vy.ex xa
    replace xw := xw.trans xa; clear xa
    have xa := (Ex.refl u4).alloc (.cells #[.slice A n.length c, .slice B m.length d, .slice A' n'.length c', .slice B' m'.length d'] 37)
    have va := VB.new u4 37 #[.slice A n.length c, .slice B m.length d, .slice A' n'.length c', .slice B' m'.length d']
    have Su5 := Lib.hid (show (u4.alloc (.cells #[.slice A n.length c, .slice B m.length d, .slice A' n'.length c', .slice B' m'.length d'] 37)).heap.size = u4.heap.size + 1 by simp)
    rw [Sz.out] at va
    generalize u4.alloc (.cells #[.slice A n.length c, .slice B m.length d, .slice A' n'.length c', .slice B' m'.length d'] 37) = u5 at *
    have Sy := Lib.hid (Su5.out.trans (congrArg (· + 1) Sz.out)); clear Sz Su5
    have Sz := Sy; clear Sy
    replace vp := vp.ex xa
    replace vx := vx.ex xa
    replace vy := vy.ex xa
    replace vr := vr.ex xa
    replace xw := xw.trans xa; clear xa
    have zu5 : w.heap.size + 5 ≤ u5.heap.size := Nat.le_of_eq (by have := Sz.out; omega)
    clear Sz
    refine (areFractions_c p (some ⟨w.heap.size + 1 + 1 + 1 + 1, 0, none⟩) 2 [(n, m), (n', m')] u5 (RdF.two (va.cell 0 rfl) (va.cell 1 rfl) (va.cell 2 rfl) (va.cell 3 rfl) (hn.ex xw) (hd.ex xw) (hn'.ex xw) (hd'.ex xw)) (ht.ex xw)).mono ?_
    rintro e u6 ⟨rfl, xu6⟩
    replace vp := vp.ex xu6
    replace vx := vx.ex xu6
    replace vy := vy.ex xu6
    replace vr := vr.ex xu6
    replace va := va.ex xu6
    replace xw := xw.trans xu6
    have zu6 := xu6.size
    rw [fracB_field2, hp]
    clear va
    by_cases hle : (addN p n m n' m').length ≤ 21 ∧ (addD p n m n' m').length ≤ 21
    · have H := Lib.hid (H.out.trans (ifR_yes hle))
      have hf : fracB p (addN p n m n' m') (addD p n m n' m') = true := HI.out.1 hle
      have Hf := Lib.hid hf; clear hf hle hp
      have qvp0 := vp.cell 0 (v := .int .i64 p) rfl
      have qvx0 := vx.cell 0 (v := .slice A n.length c) rfl
      have qvx1 := vx.cell 1 (v := .slice B m.length d) rfl
      have qvy0 := vy.cell 0 (v := .slice A' n'.length c') rfl
      have qvy1 := vy.cell 1 (v := .slice B' m'.length d') rfl
      have rvr0 := vr.cell 0 (v := .slice none 0 0) rfl
      have rvr1 := vr.cell 1 (v := .slice none 0 0) rfl
      have HS : ∀ W, Ex u6 W → (W.cell? ⟨w.heap.size, 0, none⟩ = some (.int .i64 p) ∧ W.cell? ⟨w.heap.size + 1, 0, none⟩ = some (.slice A n.length c) ∧ W.cell? ⟨w.heap.size + 1, 1, none⟩ = some (.slice B m.length d) ∧ W.cell? ⟨w.heap.size + 1 + 1, 0, none⟩ = some (.slice A' n'.length c') ∧ W.cell? ⟨w.heap.size + 1 + 1, 1, none⟩ = some (.slice B' m'.length d')) := fun W h => ⟨cell_ex h qvp0, cell_ex h qvx0, cell_ex h qvx1, cell_ex h qvy0, cell_ex h qvy1⟩
      go_wp2_with fail
      go_region_held3 (fun W => W.cell? ⟨w.heap.size, 0, none⟩ = some (.int .i64 p) ∧ W.cell? ⟨w.heap.size + 1, 0, none⟩ = some (.slice A n.length c) ∧ W.cell? ⟨w.heap.size + 1, 1, none⟩ = some (.slice B m.length d) ∧ W.cell? ⟨w.heap.size + 1 + 1, 0, none⟩ = some (.slice A' n'.length c') ∧ W.cell? ⟨w.heap.size + 1 + 1, 1, none⟩ = some (.slice B' m'.length d')) (first | (exact HS _ (Ex.refl u6).drew) | (exact HS _ ((Ex.refl u6).alloc _).drew) | (exact HS _ ((Ex.refl u6).alloc _)) | (exact HS _ y1) | (exact HS _ (y1.trans ((Ex.refl o1).alloc _))) | (exact HS _ y2) | (exact HS _ y3) | (exact ⟨cell_set2 (cell_ex y3 qvp0) (by omega), cell_set2 (cell_ex y3 qvx0) (by omega), cell_set2 (cell_ex y3 qvx1) (by omega), cell_set2 (cell_ex y3 qvy0) (by omega), cell_set2 (cell_ex y3 qvy1) (by omega)⟩)) (first
        | (go_at_call 121
           refine (constant0_c _).mono ?_
           rintro e o1 ⟨A0, B0, c0, d0, rfl, z0, z1, xo1⟩
           have y1 : Ex u6 o1 := by first | exact (Ex.refl u6).drew.trans xo1 | exact (((Ex.refl u6).alloc _).drew).trans xo1
           first | (have vq := (VB.new u6 37 #[.slice A n.length c, .slice B m.length d, .slice A' n'.length c', .slice B' m'.length d']).drew.ex xo1) | skip)
        | (go_at_call 120
           first | (refine (sumOf_c p (w.heap.size) A B c d n m A' B' c' d' n' m' A0 B0 c0 d0 _ _ (hn.ex (xw.trans y1)) (hd.ex (xw.trans y1)) (hn'.ex (xw.trans y1)) (hd'.ex (xw.trans y1)) z0 z1 (cell_ex y1 qvp0) (vq.cell 0 rfl) (vq.cell 1 rfl) (vq.cell 2 rfl) (vq.cell 3 rfl) HP1.out HP2.out).mono ?_) | (have vq := VB.new o1 37 #[.slice A n.length c, .slice B m.length d, .slice A' n'.length c', .slice B' m'.length d']; refine (sumOf_c p (w.heap.size) A B c d n m A' B' c' d' n' m' A0 B0 c0 d0 _ _ (hn.ex (xw.trans (y1.trans ((Ex.refl o1).alloc (.cells #[.slice A n.length c, .slice B m.length d, .slice A' n'.length c', .slice B' m'.length d'] 37))))) (hd.ex (xw.trans (y1.trans ((Ex.refl o1).alloc (.cells #[.slice A n.length c, .slice B m.length d, .slice A' n'.length c', .slice B' m'.length d'] 37))))) (hn'.ex (xw.trans (y1.trans ((Ex.refl o1).alloc (.cells #[.slice A n.length c, .slice B m.length d, .slice A' n'.length c', .slice B' m'.length d'] 37))))) (hd'.ex (xw.trans (y1.trans ((Ex.refl o1).alloc (.cells #[.slice A n.length c, .slice B m.length d, .slice A' n'.length c', .slice B' m'.length d'] 37))))) (z0.ex ((Ex.refl o1).alloc (.cells #[.slice A n.length c, .slice B m.length d, .slice A' n'.length c', .slice B' m'.length d'] 37))) (z1.ex ((Ex.refl o1).alloc (.cells #[.slice A n.length c, .slice B m.length d, .slice A' n'.length c', .slice B' m'.length d'] 37))) (cell_ex (y1.trans ((Ex.refl o1).alloc (.cells #[.slice A n.length c, .slice B m.length d, .slice A' n'.length c', .slice B' m'.length d'] 37))) qvp0) (vq.cell 0 rfl) (vq.cell 1 rfl) (vq.cell 2 rfl) (vq.cell 3 rfl) HP1.out HP2.out).mono ?_)
           rintro e o2 ⟨A3, c3, B3, d3, rfl, f3, g3, ap, xo2⟩
           have y2 : Ex u6 o2 := y1.trans (by first | exact xo2 | exact ((Ex.refl o1).alloc (.cells #[.slice A n.length c, .slice B m.length d, .slice A' n'.length c', .slice B' m'.length d'] 37)).trans xo2))
        | (go_at_call 77
           refine (validFraction_yes p A3 B3 c3 d3 _ _ _ f3.rd g3.rd (ht.ex (xw.trans y2)) Hf.out).mono ?_
           rintro e o3 ⟨rfl, xo3⟩
           have y3 := y2.trans xo3
           have kr0 := cell_ex y3 rvr0
           have kr1 := cell_ex y3 rvr1
           have kf0 := (vr.ex y3).frozen 0
           have kf1 := (vr.ex y3).frozen 1))
      all_goals
        go_wp2_with fail
        obtain ⟨dd, z⟩ := st2 (vr.ex y3) (.slice A3 (addN p n m n' m').length c3) (.slice B3 (addD p n m n' m').length d3)
        have h3 : Hi u6.heap.size A3 := f3.hi.mono (by first | exact y1.size | exact (y1.trans ((Ex.refl o1).alloc (.cells #[.slice A n.length c, .slice B m.length d, .slice A' n'.length c', .slice B' m'.length d'] 37))).size)
        have k3 : Hi u6.heap.size B3 := g3.hi.mono (by first | exact y1.size | exact (y1.trans ((Ex.refl o1).alloc (.cells #[.slice A n.length c, .slice B m.length d, .slice A' n'.length c', .slice B' m'.length d'] 37))).size)
        have f4 := (f3.ex xo3).ex1 z (h3.off (by omega))
        have g4 := (g3.ex xo3).ex1 z (k3.off (by omega))
        have xf := (xw.trans y3).ex1 z (by omega)
        generalize (o3.setCell ⟨w.heap.size + 1 + 1 + 1, 0, none⟩ (.slice A3 (addN p n m n' m').length c3)).setCell ⟨w.heap.size + 1 + 1 + 1, 1, none⟩ (.slice B3 (addD p n m n' m').length d3) = W9 at *
        have d0 := dd.cell 0 (v := .slice A3 (addN p n m n' m').length c3) rfl
        have d1 := dd.cell 1 (v := .slice B3 (addD p n m n' m').length d3) rfl
        refine bodyPost_ret (v := .tuple #[.agg #[.slice A3 (addN p n m n' m').length c3, .slice B3 (addD p n m n' m').length d3], .bool true]) (by simp [results, Tryd.results60, go_sem, d0, d1]) rfl ?_
        have s3 : w.heap.size ≤ u6.heap.size := xw.size
        exact FRB.yes_ rfl H.out (f4.more (Nat.le_trans s3 (by first | exact y1.size | exact (y1.trans ((Ex.refl o1).alloc (.cells #[.slice A n.length c, .slice B m.length d, .slice A' n'.length c', .slice B' m'.length d'] 37))).size))) (g4.more (Nat.le_trans s3 (by first | exact y1.size | exact (y1.trans ((Ex.refl o1).alloc (.cells #[.slice A n.length c, .slice B m.length d, .slice A' n'.length c', .slice B' m'.length d'] 37))).size))) ap xf
    · have H := Lib.hid (H.out.trans (ifR_no hle))
      have hf : fracB p (addN p n m n' m') (addD p n m n' m') = false := by
        cases hh : fracB p (addN p n m n' m') (addD p n m n' m') with
        | false => rfl
        | true => exact absurd (HI.out.2 hh) hle
      have Hf := Lib.hid hf; clear hf hle hp
      have qvp0 := vp.cell 0 (v := .int .i64 p) rfl
      have qvx0 := vx.cell 0 (v := .slice A n.length c) rfl
      have qvx1 := vx.cell 1 (v := .slice B m.length d) rfl
      have qvy0 := vy.cell 0 (v := .slice A' n'.length c') rfl
      have qvy1 := vy.cell 1 (v := .slice B' m'.length d') rfl
      have rvr0 := vr.cell 0 (v := .slice none 0 0) rfl
      have rvr1 := vr.cell 1 (v := .slice none 0 0) rfl
      have HS : ∀ W, Ex u6 W → (W.cell? ⟨w.heap.size, 0, none⟩ = some (.int .i64 p) ∧ W.cell? ⟨w.heap.size + 1, 0, none⟩ = some (.slice A n.length c) ∧ W.cell? ⟨w.heap.size + 1, 1, none⟩ = some (.slice B m.length d) ∧ W.cell? ⟨w.heap.size + 1 + 1, 0, none⟩ = some (.slice A' n'.length c') ∧ W.cell? ⟨w.heap.size + 1 + 1, 1, none⟩ = some (.slice B' m'.length d')) := fun W h => ⟨cell_ex h qvp0, cell_ex h qvx0, cell_ex h qvx1, cell_ex h qvy0, cell_ex h qvy1⟩
      go_wp2_with fail
      go_region_held3 (fun W => W.cell? ⟨w.heap.size, 0, none⟩ = some (.int .i64 p) ∧ W.cell? ⟨w.heap.size + 1, 0, none⟩ = some (.slice A n.length c) ∧ W.cell? ⟨w.heap.size + 1, 1, none⟩ = some (.slice B m.length d) ∧ W.cell? ⟨w.heap.size + 1 + 1, 0, none⟩ = some (.slice A' n'.length c') ∧ W.cell? ⟨w.heap.size + 1 + 1, 1, none⟩ = some (.slice B' m'.length d')) (first | (exact HS _ (Ex.refl u6).drew) | (exact HS _ ((Ex.refl u6).alloc _).drew) | (exact HS _ ((Ex.refl u6).alloc _)) | (exact HS _ y1) | (exact HS _ (y1.trans ((Ex.refl o1).alloc _))) | (exact HS _ y2) | (exact HS _ y3) | (exact ⟨cell_set2 (cell_ex y3 qvp0) (by omega), cell_set2 (cell_ex y3 qvx0) (by omega), cell_set2 (cell_ex y3 qvx1) (by omega), cell_set2 (cell_ex y3 qvy0) (by omega), cell_set2 (cell_ex y3 qvy1) (by omega)⟩)) (first
        | (go_at_call 121
           refine (constant0_c _).mono ?_
           rintro e o1 ⟨A0, B0, c0, d0, rfl, z0, z1, xo1⟩
           have y1 : Ex u6 o1 := by first | exact (Ex.refl u6).drew.trans xo1 | exact (((Ex.refl u6).alloc _).drew).trans xo1
           first | (have vq := (VB.new u6 37 #[.slice A n.length c, .slice B m.length d, .slice A' n'.length c', .slice B' m'.length d']).drew.ex xo1) | skip)
        | (go_at_call 120
           first | (refine (sumOf_c p (w.heap.size) A B c d n m A' B' c' d' n' m' A0 B0 c0 d0 _ _ (hn.ex (xw.trans y1)) (hd.ex (xw.trans y1)) (hn'.ex (xw.trans y1)) (hd'.ex (xw.trans y1)) z0 z1 (cell_ex y1 qvp0) (vq.cell 0 rfl) (vq.cell 1 rfl) (vq.cell 2 rfl) (vq.cell 3 rfl) HP1.out HP2.out).mono ?_) | (have vq := VB.new o1 37 #[.slice A n.length c, .slice B m.length d, .slice A' n'.length c', .slice B' m'.length d']; refine (sumOf_c p (w.heap.size) A B c d n m A' B' c' d' n' m' A0 B0 c0 d0 _ _ (hn.ex (xw.trans (y1.trans ((Ex.refl o1).alloc (.cells #[.slice A n.length c, .slice B m.length d, .slice A' n'.length c', .slice B' m'.length d'] 37))))) (hd.ex (xw.trans (y1.trans ((Ex.refl o1).alloc (.cells #[.slice A n.length c, .slice B m.length d, .slice A' n'.length c', .slice B' m'.length d'] 37))))) (hn'.ex (xw.trans (y1.trans ((Ex.refl o1).alloc (.cells #[.slice A n.length c, .slice B m.length d, .slice A' n'.length c', .slice B' m'.length d'] 37))))) (hd'.ex (xw.trans (y1.trans ((Ex.refl o1).alloc (.cells #[.slice A n.length c, .slice B m.length d, .slice A' n'.length c', .slice B' m'.length d'] 37))))) (z0.ex ((Ex.refl o1).alloc (.cells #[.slice A n.length c, .slice B m.length d, .slice A' n'.length c', .slice B' m'.length d'] 37))) (z1.ex ((Ex.refl o1).alloc (.cells #[.slice A n.length c, .slice B m.length d, .slice A' n'.length c', .slice B' m'.length d'] 37))) (cell_ex (y1.trans ((Ex.refl o1).alloc (.cells #[.slice A n.length c, .slice B m.length d, .slice A' n'.length c', .slice B' m'.length d'] 37))) qvp0) (vq.cell 0 rfl) (vq.cell 1 rfl) (vq.cell 2 rfl) (vq.cell 3 rfl) HP1.out HP2.out).mono ?_)
           rintro e o2 ⟨A3, c3, B3, d3, rfl, f3, g3, ap, xo2⟩
           have y2 : Ex u6 o2 := y1.trans (by first | exact xo2 | exact ((Ex.refl o1).alloc (.cells #[.slice A n.length c, .slice B m.length d, .slice A' n'.length c', .slice B' m'.length d'] 37)).trans xo2))
        | (go_at_call 77
           refine (validFraction_no p A3 B3 c3 d3 _ _ _ f3.rd g3.rd (ht.ex (xw.trans y2)) Hf.out).mono ?_
           rintro e o3 ⟨rfl, xo3⟩
           have y3 := y2.trans xo3
           have kr0 := cell_ex y3 rvr0
           have kr1 := cell_ex y3 rvr1
           have kf0 := (vr.ex y3).frozen 0
           have kf1 := (vr.ex y3).frozen 1))
      all_goals
        go_wp2_with fail
        obtain ⟨dd, z⟩ := st2 (vr.ex y3) (.slice none 0 0) (.slice none 0 0)
        have h3 : Hi u6.heap.size A3 := f3.hi.mono (by first | exact y1.size | exact (y1.trans ((Ex.refl o1).alloc (.cells #[.slice A n.length c, .slice B m.length d, .slice A' n'.length c', .slice B' m'.length d'] 37))).size)
        have k3 : Hi u6.heap.size B3 := g3.hi.mono (by first | exact y1.size | exact (y1.trans ((Ex.refl o1).alloc (.cells #[.slice A n.length c, .slice B m.length d, .slice A' n'.length c', .slice B' m'.length d'] 37))).size)
        have f4 := (f3.ex xo3).ex1 z (h3.off (by omega))
        have g4 := (g3.ex xo3).ex1 z (k3.off (by omega))
        have xf := (xw.trans y3).ex1 z (by omega)
        generalize (o3.setCell ⟨w.heap.size + 1 + 1 + 1, 0, none⟩ (.slice none 0 0)).setCell ⟨w.heap.size + 1 + 1 + 1, 1, none⟩ (.slice none 0 0) = W9 at *
        have d0 := dd.cell 0 (v := .slice none 0 0) rfl
        have d1 := dd.cell 1 (v := .slice none 0 0) rfl
        refine bodyPost_ret (v := .tuple #[.agg #[.slice none 0 0, .slice none 0 0], .bool false]) (by simp [results, Tryd.results60, go_sem, d0, d1]) rfl ?_
        exact FRB.nil_ rfl H.out xf
end Go.Proofs.YtpiplogjbeofoaaDoor
