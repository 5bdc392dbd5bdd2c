/- Contracts: the sum of fractions folded over a list; FractionAdd. -/
import Derived.Test.YtpiplogjbeofoaaDoorFrac10
import Derived.RegionCalls
import Derived.Deep.RegionWith
import Derived.Deep.RegionHeld3
namespace Go.Proofs.YtpiplogjbeofoaaDoor
set_option maxRecDepth 100000
open Go Go.RowKit
set_option maxHeartbeats 2000000 in
theorem addClosure_c (p : Int) (gp : Nat) (A B : Option Addr) (c d : Nat) (n m : List Int) (A' B' : Option Addr) (c' d' : Nat) (n' m' : List Int) (w : World) (hn : Rd w A n) (hd : Rd w B m) (hn' : Rd w A' n') (hd' : Rd w B' m') (hp : w.cell? ⟨gp, 0, none⟩ = some (.int .i64 p)) (h1 : FrOK p n m) (h2 : FrOK p n' m') :
    Calls Tryd.prog 118 #[.agg #[.slice A n.length c, .slice B m.length d], .agg #[.slice A' n'.length c', .slice B' m'.length d'], .pointer (some ⟨gp, 0, none⟩)] w fun e w' => FF w (addN p n m n' m') (addD p n m n' m') e w' := by
  have E1 := Lib.hid h1
  have E2 := Lib.hid h2
  clear h1 h2
  have hq := cell_ex ((((Ex.refl w).alloc (.cells #[.slice A n.length c, .slice B m.length d] 37)).alloc (.cells #[.slice A' n'.length c', .slice B' m'.length d'] 37)).alloc (.cells #[.slice none 0 0, .slice none 0 0] 37)) hp
  clear hp
  have xw := Ex.refl w
  go_enter Tryd.func118, Tryd.ntmps118
  go_wp2_with fail
  have xa := (Ex.refl w).alloc (.cells #[.slice A n.length c, .slice B m.length d] 37)
  have vx := VB.new w 37 #[.slice A n.length c, .slice B m.length d]
  have Su1 := Lib.hid (show (w.alloc (.cells #[.slice A n.length c, .slice B m.length d] 37)).heap.size = w.heap.size + 1 by simp)
  generalize w.alloc (.cells #[.slice A n.length c, .slice B m.length d] 37) = u1 at *
  have Sy := Su1; clear Su1
  have Sz := Sy; clear Sy
  replace xw := xw.trans xa; clear xa
  have xa := (Ex.refl u1).alloc (.cells #[.slice A' n'.length c', .slice B' m'.length d'] 37)
  have vy := VB.new u1 37 #[.slice A' n'.length c', .slice B' m'.length d']
  have Su2 := Lib.hid (show (u1.alloc (.cells #[.slice A' n'.length c', .slice B' m'.length d'] 37)).heap.size = u1.heap.size + 1 by simp)
  rw [Sz.out] at vy
  generalize u1.alloc (.cells #[.slice A' n'.length c', .slice B' m'.length d'] 37) = u2 at *
  have Sy := Lib.hid (Su2.out.trans (congrArg (· + 1) Sz.out)); clear Sz Su2
  have Sz := Sy; clear Sy
  replace vx := vx.ex xa
  replace xw := xw.trans xa; clear xa
  have xa := (Ex.refl u2).alloc (.cells #[.slice none 0 0, .slice none 0 0] 37)
  have vr := VB.new u2 37 #[.slice none 0 0, .slice none 0 0]
  have Su3 := Lib.hid (show (u2.alloc (.cells #[.slice none 0 0, .slice none 0 0] 37)).heap.size = u2.heap.size + 1 by simp)
  rw [Sz.out] at vr
  generalize u2.alloc (.cells #[.slice none 0 0, .slice none 0 0] 37) = u3 at *
  have Sy := Lib.hid (Su3.out.trans (congrArg (· + 1) Sz.out)); clear Sz Su3
  have Sz := Sy; clear Sy
  replace vx := vx.ex xa
  replace vy := vy.ex xa
  replace xw := xw.trans xa; clear xa
  have zu3 : w.heap.size + 3 ≤ u3.heap.size := Nat.le_of_eq (by have := Sz.out; omega)
  clear Sz
  clear hq
  refine (fractionAdd_c p A B c d n m A' B' c' d' n' m' u3 (hn.ex xw) (hd.ex xw) (hn'.ex xw) (hd'.ex xw) E1.out E2.out).mono ?_
  rintro e u4 ⟨A3, c3, B3, d3, rfl, f3, g3, ap, xu4⟩
  replace vx := vx.ex xu4
  replace vy := vy.ex xu4
  replace vr := vr.ex xu4
  replace xw := xw.trans xu4
  have zu4 := xu4.size
  have qvr0 := vr.cell 0 (v := .slice none 0 0) rfl
  have qvr1 := vr.cell 1 (v := .slice none 0 0) rfl
  have fzvr0 := vr.frozen 0
  have fzvr1 := vr.frozen 1
  go_wp2_with fail
  clear qvr0 qvr1 fzvr0 fzvr1
  have yz : Ex1 (w.heap.size + 1 + 1) u4 ((u4.setCell ⟨w.heap.size + 1 + 1, 0, none⟩ (.slice A3 (addN p n m n' m').length c3)).setCell ⟨w.heap.size + 1 + 1, 1, none⟩ (.slice B3 (addD p n m n' m').length d3)) := ((Ex1.refl _ u4).setCell (p := ⟨w.heap.size + 1 + 1, 0, none⟩) rfl (.slice A3 (addN p n m n' m').length c3)).setCell (p := ⟨w.heap.size + 1 + 1, 1, none⟩) rfl (.slice B3 (addD p n m n' m').length d3)
  replace vr : VB ((u4.setCell ⟨w.heap.size + 1 + 1, 0, none⟩ (.slice A3 (addN p n m n' m').length c3)).setCell ⟨w.heap.size + 1 + 1, 1, none⟩ (.slice B3 (addD p n m n' m').length d3)) (w.heap.size + 1 + 1) 37 #[.slice A3 (addN p n m n' m').length c3, .slice B3 (addD p n m n' m').length d3] := ((vr.set_ 0 (.slice A3 (addN p n m n' m').length c3)).set_ 1 (.slice B3 (addD p n m n' m').length d3))
  replace vx := vx.ex1 yz (by omega)
  replace vy := vy.ex1 yz (by omega)
  replace f3 := f3.ex1 yz (f3.hi.off (by omega))
  replace g3 := g3.ex1 yz (g3.hi.off (by omega))
  replace xw := xw.ex1 yz (by omega)
  have zu5 := yz.size
  generalize ((u4.setCell ⟨w.heap.size + 1 + 1, 0, none⟩ (.slice A3 (addN p n m n' m').length c3)).setCell ⟨w.heap.size + 1 + 1, 1, none⟩ (.slice B3 (addD p n m n' m').length d3)) = u5 at *
  clear yz
  have dvr0 := vr.cell 0 (v := .slice A3 (addN p n m n' m').length c3) rfl
  have dvr1 := vr.cell 1 (v := .slice B3 (addD p n m n' m').length d3) rfl
  refine bodyPost_ret (v := .agg #[.slice A3 (addN p n m n' m').length c3, .slice B3 (addD p n m n' m').length d3]) (by simp [results, Tryd.results118, go_sem, dvr0, dvr1]) rfl ?_
  exact ⟨A3, c3, B3, d3, rfl, f3.more (by omega), g3.more (by omega), ap, xw⟩
set_option maxHeartbeats 4000000 in
theorem sumOf_c (p : Int) (gp : Nat) (A B : Option Addr) (c d : Nat) (n m : List Int) (A' B' : Option Addr) (c' d' : Nat) (n' m' : List Int) (A0 B0 : Option Addr) (c0 d0 : Nat) (g : Nat) (w : World) (hn : Rd w A n) (hd : Rd w B m) (hn' : Rd w A' n') (hd' : Rd w B' m') (hz : Rd w A0 []) (hy : Rd w B0 [1]) (hp : w.cell? ⟨gp, 0, none⟩ = some (.int .i64 p)) (j0 : w.cell? ⟨g, 0, none⟩ = some (.slice A n.length c)) (j1 : w.cell? ⟨g, 1, none⟩ = some (.slice B m.length d)) (j2 : w.cell? ⟨g, 2, none⟩ = some (.slice A' n'.length c')) (j3 : w.cell? ⟨g, 3, none⟩ = some (.slice B' m'.length d')) (h1 : fracB p n m = true) (h2 : fracB p n' m' = true) :
    Calls Tryd.prog 120 #[.agg #[.slice A0 0 c0, .slice B0 1 d0], .func (.func 118) #[] #[.pointer (some ⟨gp, 0, none⟩)], .slice (some ⟨g, 0, none⟩) 2 2] w fun e w' => FF w (addN p n m n' m') (addD p n m n' m') e w' := by
  have E1 := Lib.hid (FrOK.of h1)
  have E2 := Lib.hid (FrOK.of h2)
  have E0 := Lib.hid (frOK_zero (FrOK.of h1).f)
  have EZ := Lib.hid (add_zero_fr h1)
  clear h1 h2
  have J0 := Lib.hid j0; clear j0
  have J1 := Lib.hid j1; clear j1
  have J2 := Lib.hid j2; clear j2
  have J3 := Lib.hid j3; clear j3
  have HP := Lib.hid hp; clear hp
  have xw := Ex.refl w
  go_enter Tryd.func120, Tryd.ntmps120
  go_wp2_with fail
  have xa := (Ex.refl w).alloc (.cells #[.slice A0 0 c0, .slice B0 1 d0] 37)
  have vz := VB.new w 37 #[.slice A0 0 c0, .slice B0 1 d0]
  have Su1 := Lib.hid (show (w.alloc (.cells #[.slice A0 0 c0, .slice B0 1 d0] 37)).heap.size = w.heap.size + 1 by simp)
  generalize w.alloc (.cells #[.slice A0 0 c0, .slice B0 1 d0] 37) = u1 at *
  have Sy := Su1; clear Su1
  have Sz := Sy; clear Sy
  replace xw := xw.trans xa; clear xa
  have xa := (Ex.refl u1).alloc (.cells #[.slice none 0 0, .slice none 0 0] 37)
  have vr := VB.new u1 37 #[.slice none 0 0, .slice none 0 0]
  have Su2 := Lib.hid (show (u1.alloc (.cells #[.slice none 0 0, .slice none 0 0] 37)).heap.size = u1.heap.size + 1 by simp)
  rw [Sz.out] at vr
  generalize u1.alloc (.cells #[.slice none 0 0, .slice none 0 0] 37) = u2 at *
  have Sy := Lib.hid (Su2.out.trans (congrArg (· + 1) Sz.out)); clear Sz Su2
  have Sz := Sy; clear Sy
  replace vz := vz.ex xa
  replace xw := xw.trans xa; clear xa
  have xa := (Ex.refl u2).alloc (.cells #[.slice A0 0 c0, .slice B0 1 d0] 37)
  have vo := VB.new u2 37 #[.slice A0 0 c0, .slice B0 1 d0]
  have Su3 := Lib.hid (show (u2.alloc (.cells #[.slice A0 0 c0, .slice B0 1 d0] 37)).heap.size = u2.heap.size + 1 by simp)
  rw [Sz.out] at vo
  generalize u2.alloc (.cells #[.slice A0 0 c0, .slice B0 1 d0] 37) = u3 at *
  have Sy := Lib.hid (Su3.out.trans (congrArg (· + 1) Sz.out)); clear Sz Su3
  have Sz := Sy; clear Sy
  replace vz := vz.ex xa
  replace vr := vr.ex xa
  replace xw := xw.trans xa; clear xa
  have zu3 : w.heap.size + 3 ≤ u3.heap.size := Nat.le_of_eq (by have := Sz.out; omega)
  clear Sz
  refine wp_loop_rounds 3 ?_
  rw [rounds_succ]
  have j0 := cell_ex xw J0.out
  have j1 := cell_ex xw J1.out
  have qvo0 := (vo.ex ((Ex.refl u3).alloc (.cells #[.slice A n.length c, .slice B m.length d] 37))).cell 0 (v := .slice A0 0 c0) rfl
  have qvo1 := (vo.ex ((Ex.refl u3).alloc (.cells #[.slice A n.length c, .slice B m.length d] 37))).cell 1 (v := .slice B0 1 d0) rfl
  go_wp2_with fail
  clear qvo0 qvo1
  have xa := (Ex.refl u3).alloc (.cells #[.slice A n.length c, .slice B m.length d] 37)
  have v1 := VB.new u3 37 #[.slice A n.length c, .slice B m.length d]
  have Su4 := Lib.hid (show (u3.alloc (.cells #[.slice A n.length c, .slice B m.length d] 37)).heap.size = u3.heap.size + 1 by simp)
  generalize u3.alloc (.cells #[.slice A n.length c, .slice B m.length d] 37) = u4 at *
  have Sy := Su4; clear Su4
  have Sz := Sy; clear Sy
  replace vz := vz.ex xa
  replace vr := vr.ex xa
  replace vo := vo.ex xa
  replace xw := xw.trans xa; clear xa
  have zu4 : u3.heap.size + 1 ≤ u4.heap.size := Nat.le_of_eq (by have := Sz.out; omega)
  clear Sz
  clear j0 j1
  refine (addClosure_c p gp A0 B0 c0 d0 [] [1] A B c d n m u4 (hz.ex xw) (hy.ex xw) (hn.ex xw) (hd.ex xw) (cell_ex xw HP.out) E0.out E1.out).mono ?_
  rintro e u5 ⟨A1, c1, B1, d1, rfl, f1, g1, ap1, xu5⟩
  replace vz := vz.ex xu5
  replace vr := vr.ex xu5
  replace vo := vo.ex xu5
  replace v1 := v1.ex xu5
  replace xw := xw.trans xu5
  have zu5 := xu5.size
  rw [EZ.out.1] at f1 ⊢
  rw [EZ.out.2] at g1 ⊢
  have qvo0 := vo.cell 0 (v := .slice A0 0 c0) rfl
  have qvo1 := vo.cell 1 (v := .slice B0 1 d0) rfl
  have fzvo0 := vo.frozen 0
  have fzvo1 := vo.frozen 1
  go_wp2_with fail
  clear qvo0 qvo1 fzvo0 fzvo1
  have yz : Ex1 (w.heap.size + 1 + 1) u5 ((u5.setCell ⟨w.heap.size + 1 + 1, 0, none⟩ (.slice A1 n.length c1)).setCell ⟨w.heap.size + 1 + 1, 1, none⟩ (.slice B1 m.length d1)) := ((Ex1.refl _ u5).setCell (p := ⟨w.heap.size + 1 + 1, 0, none⟩) rfl (.slice A1 n.length c1)).setCell (p := ⟨w.heap.size + 1 + 1, 1, none⟩) rfl (.slice B1 m.length d1)
  replace vo : VB ((u5.setCell ⟨w.heap.size + 1 + 1, 0, none⟩ (.slice A1 n.length c1)).setCell ⟨w.heap.size + 1 + 1, 1, none⟩ (.slice B1 m.length d1)) (w.heap.size + 1 + 1) 37 #[.slice A1 n.length c1, .slice B1 m.length d1] := ((vo.set_ 0 (.slice A1 n.length c1)).set_ 1 (.slice B1 m.length d1))
  replace vz := vz.ex1 yz (by omega)
  replace vr := vr.ex1 yz (by omega)
  replace v1 := v1.ex1 yz (by omega)
  replace f1 := f1.ex1 yz (f1.hi.off (by omega))
  replace g1 := g1.ex1 yz (g1.hi.off (by omega))
  replace xw := xw.ex1 yz (by omega)
  have zu6 := yz.size
  generalize ((u5.setCell ⟨w.heap.size + 1 + 1, 0, none⟩ (.slice A1 n.length c1)).setCell ⟨w.heap.size + 1 + 1, 1, none⟩ (.slice B1 m.length d1)) = u6 at *
  clear yz
  rw [rounds_succ]
  have j0 := cell_ex xw J2.out
  have j1 := cell_ex xw J3.out
  have qvo0 := (vo.ex ((Ex.refl u6).alloc (.cells #[.slice A' n'.length c', .slice B' m'.length d'] 37))).cell 0 (v := .slice A1 n.length c1) rfl
  have qvo1 := (vo.ex ((Ex.refl u6).alloc (.cells #[.slice A' n'.length c', .slice B' m'.length d'] 37))).cell 1 (v := .slice B1 m.length d1) rfl
  go_wp2_with fail
  clear qvo0 qvo1
  have xa := (Ex.refl u6).alloc (.cells #[.slice A' n'.length c', .slice B' m'.length d'] 37)
  have v2 := VB.new u6 37 #[.slice A' n'.length c', .slice B' m'.length d']
  have Su7 := Lib.hid (show (u6.alloc (.cells #[.slice A' n'.length c', .slice B' m'.length d'] 37)).heap.size = u6.heap.size + 1 by simp)
  generalize u6.alloc (.cells #[.slice A' n'.length c', .slice B' m'.length d'] 37) = u7 at *
  have Sy := Su7; clear Su7
  have Sz := Sy; clear Sy
  replace vz := vz.ex xa
  replace vr := vr.ex xa
  replace vo := vo.ex xa
  replace v1 := v1.ex xa
  replace f1 := f1.ex xa
  replace g1 := g1.ex xa
  replace xw := xw.trans xa; clear xa
  have zu7 : u6.heap.size + 1 ≤ u7.heap.size := Nat.le_of_eq (by have := Sz.out; omega)
  clear Sz
  clear j0 j1
  refine (addClosure_c p gp A1 B1 c1 d1 n m A' B' c' d' n' m' u7 f1.rd g1.rd (hn'.ex xw) (hd'.ex xw) (cell_ex xw HP.out) E1.out E2.out).mono ?_
  rintro e u8 ⟨A3, c3, B3, d3, rfl, f3, g3, ap, xu8⟩
  replace vz := vz.ex xu8
  replace vr := vr.ex xu8
  replace vo := vo.ex xu8
  replace v1 := v1.ex xu8
  replace v2 := v2.ex xu8
  replace f1 := f1.ex xu8
  replace g1 := g1.ex xu8
  replace xw := xw.trans xu8
  have zu8 := xu8.size
  have qvo0 := vo.cell 0 (v := .slice A1 n.length c1) rfl
  have qvo1 := vo.cell 1 (v := .slice B1 m.length d1) rfl
  have fzvo0 := vo.frozen 0
  have fzvo1 := vo.frozen 1
  go_wp2_with fail
  clear qvo0 qvo1 fzvo0 fzvo1
  have yz : Ex1 (w.heap.size + 1 + 1) u8 ((u8.setCell ⟨w.heap.size + 1 + 1, 0, none⟩ (.slice A3 (addN p n m n' m').length c3)).setCell ⟨w.heap.size + 1 + 1, 1, none⟩ (.slice B3 (addD p n m n' m').length d3)) := ((Ex1.refl _ u8).setCell (p := ⟨w.heap.size + 1 + 1, 0, none⟩) rfl (.slice A3 (addN p n m n' m').length c3)).setCell (p := ⟨w.heap.size + 1 + 1, 1, none⟩) rfl (.slice B3 (addD p n m n' m').length d3)
  replace vo : VB ((u8.setCell ⟨w.heap.size + 1 + 1, 0, none⟩ (.slice A3 (addN p n m n' m').length c3)).setCell ⟨w.heap.size + 1 + 1, 1, none⟩ (.slice B3 (addD p n m n' m').length d3)) (w.heap.size + 1 + 1) 37 #[.slice A3 (addN p n m n' m').length c3, .slice B3 (addD p n m n' m').length d3] := ((vo.set_ 0 (.slice A3 (addN p n m n' m').length c3)).set_ 1 (.slice B3 (addD p n m n' m').length d3))
  replace vz := vz.ex1 yz (by omega)
  replace vr := vr.ex1 yz (by omega)
  replace v1 := v1.ex1 yz (by omega)
  replace v2 := v2.ex1 yz (by omega)
  replace f1 := f1.ex1 yz (f1.hi.off (by omega))
  replace g1 := g1.ex1 yz (g1.hi.off (by omega))
  replace f3 := f3.ex1 yz (f3.hi.off (by omega))
  replace g3 := g3.ex1 yz (g3.hi.off (by omega))
  replace xw := xw.ex1 yz (by omega)
  have zu9 := yz.size
  generalize ((u8.setCell ⟨w.heap.size + 1 + 1, 0, none⟩ (.slice A3 (addN p n m n' m').length c3)).setCell ⟨w.heap.size + 1 + 1, 1, none⟩ (.slice B3 (addD p n m n' m').length d3)) = u9 at *
  clear yz
  rw [rounds_succ]
  have qvo0 := vo.cell 0 (v := .slice A3 (addN p n m n' m').length c3) rfl
  have qvo1 := vo.cell 1 (v := .slice B3 (addD p n m n' m').length d3) rfl
  have qvr0 := vr.cell 0 (v := .slice none 0 0) rfl
  have qvr1 := vr.cell 1 (v := .slice none 0 0) rfl
  have fzvr0 := vr.frozen 0
  have fzvr1 := vr.frozen 1
  go_wp2_with fail
  clear qvo0 qvo1 qvr0 qvr1 fzvr0 fzvr1
  have yz : Ex1 (w.heap.size + 1) u9 ((u9.setCell ⟨w.heap.size + 1, 0, none⟩ (.slice A3 (addN p n m n' m').length c3)).setCell ⟨w.heap.size + 1, 1, none⟩ (.slice B3 (addD p n m n' m').length d3)) := ((Ex1.refl _ u9).setCell (p := ⟨w.heap.size + 1, 0, none⟩) rfl (.slice A3 (addN p n m n' m').length c3)).setCell (p := ⟨w.heap.size + 1, 1, none⟩) rfl (.slice B3 (addD p n m n' m').length d3)
  replace vr : VB ((u9.setCell ⟨w.heap.size + 1, 0, none⟩ (.slice A3 (addN p n m n' m').length c3)).setCell ⟨w.heap.size + 1, 1, none⟩ (.slice B3 (addD p n m n' m').length d3)) (w.heap.size + 1) 37 #[.slice A3 (addN p n m n' m').length c3, .slice B3 (addD p n m n' m').length d3] := ((vr.set_ 0 (.slice A3 (addN p n m n' m').length c3)).set_ 1 (.slice B3 (addD p n m n' m').length d3))
  replace vz := vz.ex1 yz (by omega)
  replace vo := vo.ex1 yz (by omega)
  replace v1 := v1.ex1 yz (by omega)
  replace v2 := v2.ex1 yz (by omega)
  replace f1 := f1.ex1 yz (f1.hi.off (by omega))
  replace g1 := g1.ex1 yz (g1.hi.off (by omega))
  replace f3 := f3.ex1 yz (f3.hi.off (by omega))
  replace g3 := g3.ex1 yz (g3.hi.off (by omega))
  replace xw := xw.ex1 yz (by omega)
  have zu10 := yz.size
  generalize ((u9.setCell ⟨w.heap.size + 1, 0, none⟩ (.slice A3 (addN p n m n' m').length c3)).setCell ⟨w.heap.size + 1, 1, none⟩ (.slice B3 (addD p n m n' m').length d3)) = u10 at *
  clear yz
  have dvr0 := vr.cell 0 (v := .slice A3 (addN p n m n' m').length c3) rfl
  have dvr1 := vr.cell 1 (v := .slice B3 (addD p n m n' m').length d3) rfl
  refine bodyPost_ret (v := .agg #[.slice A3 (addN p n m n' m').length c3, .slice B3 (addD p n m n' m').length d3]) (by simp [results, Tryd.results120, go_sem, dvr0, dvr1]) rfl ?_
  exact ⟨A3, c3, B3, d3, rfl, f3.more (by omega), g3.more (by omega), ap, xw⟩
set_option maxHeartbeats 1000000 in
theorem constant0_c (w : World) : Calls Tryd.prog 121 #[.int .i64 0] w fun e w' => ∃ A0 B0 c0 d0, e = .returned (.agg #[.slice A0 0 c0, .slice B0 1 d0]) ∧ Rd w' A0 [] ∧ Rd w' B0 [1] ∧ Ex w w' := by
  go_enter Tryd.func121, Tryd.ntmps121
  go_wp2_with fail
  have x1 := (Ex.refl w).alloc (.cells #[.slice (some ⟨w.heap.size + 1, 0, none⟩) 0 0, .slice (some ⟨w.heap.size + 1 + 1, 0, none⟩) 1 1] 37)
  have v1 := VB.new w 37 #[.slice (some ⟨w.heap.size + 1, 0, none⟩) 0 0, .slice (some ⟨w.heap.size + 1 + 1, 0, none⟩) 1 1]
  have s1 : (w.alloc (.cells #[.slice (some ⟨w.heap.size + 1, 0, none⟩) 0 0, .slice (some ⟨w.heap.size + 1 + 1, 0, none⟩) 1 1] 37)).heap.size = w.heap.size + 1 := by simp
  generalize w.alloc (.cells #[.slice (some ⟨w.heap.size + 1, 0, none⟩) 0 0, .slice (some ⟨w.heap.size + 1 + 1, 0, none⟩) 1 1] 37) = W1 at *
  have x2 := ((Ex.refl W1).alloc (iObj [])).alloc (iObj [1])
  have o2 := Own.new (W1.alloc (iObj [])) [1]
  have s2 : (W1.alloc (iObj [])).heap.size = w.heap.size + 1 + 1 := by simp [s1]
  rw [s2] at o2
  have v2 := v1.ex x2
  have d0 := v2.cell 0 (v := .slice (some ⟨w.heap.size + 1, 0, none⟩) 0 0) rfl
  have d1 := v2.cell 1 (v := .slice (some ⟨w.heap.size + 1 + 1, 0, none⟩) 1 1) rfl
  change bodyPost _ _ _ _ _ ((W1.alloc (iObj [])).alloc (iObj [1]))
  generalize (W1.alloc (iObj [])).alloc (iObj [1]) = W2 at *
  refine bodyPost_ret (v := .agg #[.slice (some ⟨w.heap.size + 1, 0, none⟩) 0 0, .slice (some ⟨w.heap.size + 1 + 1, 0, none⟩) 1 1]) (by simp [results, Tryd.results121, go_sem, d0, d1]) rfl ?_
  exact ⟨_, _, _, _, rfl, Rd.nil _ _, o2.rd (by simp), x1.trans x2⟩
end Go.Proofs.YtpiplogjbeofoaaDoor
