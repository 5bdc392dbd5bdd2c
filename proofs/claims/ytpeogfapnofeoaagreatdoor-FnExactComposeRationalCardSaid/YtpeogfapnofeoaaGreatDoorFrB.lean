/- Contracts: products, sums, negatives and inverses of fractions of any degrees, on both sides. Printed by a program of mine out of Frac9 and Frac10. -/
import Derived.Test.YtpeogfapnofeoaaGreatDoorPkAB
import Derived.Test.YtpeogfapnofeoaaGreatDoorFldF
namespace Go.Proofs.YtpeogfapnofeoaaGreatDoor
set_option maxRecDepth 100000
open Go Go.RowKit
/-- What is known of a fraction; its degrees are below a great bound. -/
structure FrOKB (p : Int) (n m : List Int) : Prop where
  f : fieldB p = true
  ne : allEl p n = true
  me : allEl p m = true
  nt : Tr n
  mt : Tr m
  nl : n.length ≤ 274877906944
  ml : m.length ≤ 274877906944
  m0 : m ≠ []
theorem FV.okb {p : Int} {x : Fra} (h : FV p x) (h1 : x.n.length ≤ 274877906944) (h2 : x.d.length ≤ 274877906944) : FrOKB p x.n x.d := ⟨h.f, h.n.e, h.d.e, h.n.t, h.d.t, h1, h2, h.d0⟩
theorem mul_lowB {p : Int} {n m n' m' : List Int} (h : FrOKB p n m) (h' : FrOKB p n' m') :
    allEl p (pMul p n n') = true ∧ allEl p (pMul p m m') = true ∧ Tr (pMul p n n') ∧ Tr (pMul p m m') ∧ pMul p m m' ≠ [] := by
  have h2 := fieldB_lo h.f
  exact ⟨pMul_el (by omega) _ _, pMul_el (by omega) _ _, Tr.trim _, Tr.trim _, mul_ne h.f h.me h'.me h.mt h'.mt h.m0 h'.m0⟩
theorem add_lowB {p : Int} {n m n' m' : List Int} (h : FrOKB p n m) (h' : FrOKB p n' m') :
    allEl p (pAdd p (pMul p n m') 1 (pMul p n' m)) = true ∧ allEl p (pMul p m m') = true ∧ Tr (pAdd p (pMul p n m') 1 (pMul p n' m)) ∧ Tr (pMul p m m') ∧ pMul p m m' ≠ [] := by
  have h2 := fieldB_lo h.f
  exact ⟨pAdd_el (pMul_el (by omega) _ _) (by omega) _ _, pMul_el (by omega) _ _, pAdd_tr _ _ _ _, Tr.trim _, mul_ne h.f h.me h'.me h.mt h'.mt h.m0 h'.m0⟩
set_option maxHeartbeats 2000000 in
theorem frMul_b (p : Int) (A B : Option Addr) (c d : Nat) (n m : List Int) (A' B' : Option Addr) (c' d' : Nat) (n' m' : List Int) (w : World) (hn : Rd w A n) (hd : Rd w B m) (hn' : Rd w A' n') (hd' : Rd w B' m') (h1 : FrOKB p n m) (h2 : FrOKB p n' m') :
    Calls Tryz.prog 98 #[.int .i64 p, .agg #[.slice A n.length c, .slice B m.length d], .agg #[.slice A' n'.length c', .slice B' m'.length d']] w fun e w' => FF w (lowN p (pMul p n n') (pMul p m m')) (lowD p (pMul p n n') (pMul p m m')) e w' := by
  have E1 := Lib.hid h1
  have E2 := Lib.hid h2
  have g2 := fieldB_lo E1.out.f
  have g97 := fieldB_hi E1.out.f
  have EM := Lib.hid (mul_lowB E1.out E2.out)
  clear h1 h2
  have xw := Ex.refl w
  go_enter Tryz.func98, Tryz.ntmps98
  go_wp2_with fail
  have xa := (Ex.refl w).alloc (.cells #[.slice A n.length c, .slice B m.length d] 58)
  have vx := VB.new w 58 #[.slice A n.length c, .slice B m.length d]
  have Su1 := Lib.hid (show (w.alloc (.cells #[.slice A n.length c, .slice B m.length d] 58)).heap.size = w.heap.size + 1 by simp)
  generalize w.alloc (.cells #[.slice A n.length c, .slice B m.length d] 58) = u1 at *
  have Sy := Su1; clear Su1
  have Sz := Sy; clear Sy
  replace xw := xw.trans xa; clear xa
  have xa := (Ex.refl u1).alloc (.cells #[.slice A' n'.length c', .slice B' m'.length d'] 58)
  have vy := VB.new u1 58 #[.slice A' n'.length c', .slice B' m'.length d']
  have Su2 := Lib.hid (show (u1.alloc (.cells #[.slice A' n'.length c', .slice B' m'.length d'] 58)).heap.size = u1.heap.size + 1 by simp)
  rw [Sz.out] at vy
  generalize u1.alloc (.cells #[.slice A' n'.length c', .slice B' m'.length d'] 58) = u2 at *
  have Sy := Lib.hid (Su2.out.trans (congrArg (· + 1) Sz.out)); clear Sz Su2
  have Sz := Sy; clear Sy
  replace vx := vx.ex xa
  replace xw := xw.trans xa; clear xa
  have xa := (Ex.refl u2).alloc (.cells #[.slice none 0 0, .slice none 0 0] 58)
  have vr := VB.new u2 58 #[.slice none 0 0, .slice none 0 0]
  have Su3 := Lib.hid (show (u2.alloc (.cells #[.slice none 0 0, .slice none 0 0] 58)).heap.size = u2.heap.size + 1 by simp)
  rw [Sz.out] at vr
  generalize u2.alloc (.cells #[.slice none 0 0, .slice none 0 0] 58) = u3 at *
  have Sy := Lib.hid (Su3.out.trans (congrArg (· + 1) Sz.out)); clear Sz Su3
  have Sz := Sy; clear Sy
  replace vx := vx.ex xa
  replace vy := vy.ex xa
  replace xw := xw.trans xa; clear xa
  have zu3 : w.heap.size + 3 ≤ u3.heap.size := Nat.le_of_eq (by have := Sz.out; omega)
  clear Sz
  have qvx0 := vx.cell 0 (v := .slice A n.length c) rfl
  have qvx1 := vx.cell 1 (v := .slice B m.length d) rfl
  have qvy0 := vy.cell 0 (v := .slice A' n'.length c') rfl
  have qvy1 := vy.cell 1 (v := .slice B' m'.length d') rfl
  go_wp2_with fail
  have rvr0 := vr.cell 0 (v := .slice none 0 0) rfl
  have rvr1 := vr.cell 1 (v := .slice none 0 0) rfl
  have fzvr0 := vr.frozen 0
  have fzvr1 := vr.frozen 1
  go_region_held3 (fun W => W.cell? ⟨w.heap.size, 0, none⟩ = some (.slice A n.length c) ∧ W.cell? ⟨w.heap.size, 1, none⟩ = some (.slice B m.length d) ∧ W.cell? ⟨w.heap.size + 1, 0, none⟩ = some (.slice A' n'.length c') ∧ W.cell? ⟨w.heap.size + 1, 1, none⟩ = some (.slice B' m'.length d')) (first | (exact ⟨cell_set2 (cell_ex xu6 (cell_ex xu5 (cell_ex xu4 qvx0))) (by omega), cell_set2 (cell_ex xu6 (cell_ex xu5 (cell_ex xu4 qvx1))) (by omega), cell_set2 (cell_ex xu6 (cell_ex xu5 (cell_ex xu4 qvy0))) (by omega), cell_set2 (cell_ex xu6 (cell_ex xu5 (cell_ex xu4 qvy1))) (by omega)⟩) | (exact ⟨(cell_ex xu6 (cell_ex xu5 (cell_ex xu4 qvx0))), (cell_ex xu6 (cell_ex xu5 (cell_ex xu4 qvx1))), (cell_ex xu6 (cell_ex xu5 (cell_ex xu4 qvy0))), (cell_ex xu6 (cell_ex xu5 (cell_ex xu4 qvy1)))⟩) | (exact ⟨(cell_ex xu5 (cell_ex xu4 qvx0)), (cell_ex xu5 (cell_ex xu4 qvx1)), (cell_ex xu5 (cell_ex xu4 qvy0)), (cell_ex xu5 (cell_ex xu4 qvy1))⟩) | (exact ⟨(cell_ex xu4 qvx0), (cell_ex xu4 qvx1), (cell_ex xu4 qvy0), (cell_ex xu4 qvy1)⟩) | (exact ⟨qvx0, qvx1, qvy0, qvy1⟩)) (first
    | (go_at_call_of 124 (Value.slice A n.length c)
       refine (poMul_c p A A' c c' n n' u3.drew (hn.ex (xw.drew)) (hn'.ex (xw.drew)) g2 g97 E1.out.ne E2.out.ne (by have := E1.out.nl; have := E2.out.nl; omega)).mono ?_
       rintro e u4 ⟨A1, c1, rfl, f1, xu4⟩
       rw [pMul_eq E1.out.f E1.out.ne E2.out.ne E1.out.nt E2.out.nt] at f1 ⊢)
    | (go_at_call_of 124 (Value.slice B m.length d)
       refine (poMul_c p B B' d d' m m' u4 (hd.ex ((xw.drew).trans xu4)) (hd'.ex ((xw.drew).trans xu4)) g2 g97 E1.out.me E2.out.me (by have := E1.out.ml; have := E2.out.ml; omega)).mono ?_
       rintro e u5 ⟨A2, c2, rfl, f2, xu5⟩
       rw [pMul_eq E1.out.f E1.out.me E2.out.me E1.out.mt E2.out.mt] at f2 ⊢)
    | (go_at_call 122
       refine (frMake_c p A1 A2 c1 c2 _ _ u5 ((f1.ex xu5).rd) (f2.rd) E1.out.f EM.out.1 EM.out.2.1 EM.out.2.2.1 EM.out.2.2.2.1 EM.out.2.2.2.2).mono ?_
       rintro e u6 ⟨A3, c3, B3, d3, rfl, f3, g3, ap, xu6⟩
       have krvr0 := (cell_ex xu6 (cell_ex xu5 (cell_ex xu4 rvr0)))
       have krvr1 := (cell_ex xu6 (cell_ex xu5 (cell_ex xu4 rvr1)))
       have kfzvr0 := (vr.ex (((((Ex.refl u3).drew).trans xu4).trans xu5).trans xu6)).frozen 0
       have kfzvr1 := (vr.ex (((((Ex.refl u3).drew).trans xu4).trans xu5).trans xu6)).frozen 1))
  have xd : Ex u3 u6 := ((((Ex.refl u3).drew).trans xu4).trans xu5).trans xu6
  replace vx := vx.ex xd
  replace vy := vy.ex xd
  replace vr := vr.ex xd
  replace xw := xw.trans xd
  have zu6 := xd.size
  replace f1 := f1.ex xu5
  replace f1 := f1.ex xu6
  replace f2 := f2.ex xu6
  clear qvx0 qvx1 qvy0 qvy1 rvr0 rvr1 fzvr0 fzvr1 xd
  have ydu6 : u3.heap.size ≤ u3.drew.heap.size := Nat.le_refl _
  have yxu4 := xu4.size
  have yxu5 := xu5.size
  have yxu6 := xu6.size
  have yz : Ex1 (w.heap.size + 1 + 1) u6 ((u6.setCell ⟨w.heap.size + 1 + 1, 0, none⟩ (.slice A3 (lowN p (pMul p n n') (pMul p m m')).length c3)).setCell ⟨w.heap.size + 1 + 1, 1, none⟩ (.slice B3 (lowD p (pMul p n n') (pMul p m m')).length d3)) := ((Ex1.refl _ u6).setCell (p := ⟨w.heap.size + 1 + 1, 0, none⟩) rfl (.slice A3 (lowN p (pMul p n n') (pMul p m m')).length c3)).setCell (p := ⟨w.heap.size + 1 + 1, 1, none⟩) rfl (.slice B3 (lowD p (pMul p n n') (pMul p m m')).length d3)
  replace vr : VB ((u6.setCell ⟨w.heap.size + 1 + 1, 0, none⟩ (.slice A3 (lowN p (pMul p n n') (pMul p m m')).length c3)).setCell ⟨w.heap.size + 1 + 1, 1, none⟩ (.slice B3 (lowD p (pMul p n n') (pMul p m m')).length d3)) (w.heap.size + 1 + 1) 58 #[.slice A3 (lowN p (pMul p n n') (pMul p m m')).length c3, .slice B3 (lowD p (pMul p n n') (pMul p m m')).length d3] := ((vr.set_ 0 (.slice A3 (lowN p (pMul p n n') (pMul p m m')).length c3)).set_ 1 (.slice B3 (lowD p (pMul p n n') (pMul p m m')).length d3))
  replace vx := vx.ex1 yz (by omega)
  replace vy := vy.ex1 yz (by omega)
  replace f1 := f1.ex1 yz (f1.hi.off (by omega))
  replace f2 := f2.ex1 yz (f2.hi.off (by omega))
  replace f3 := f3.ex1 yz (f3.hi.off (by omega))
  replace g3 := g3.ex1 yz (g3.hi.off (by omega))
  replace xw := xw.ex1 yz (by omega)
  have zu7 := yz.size
  generalize ((u6.setCell ⟨w.heap.size + 1 + 1, 0, none⟩ (.slice A3 (lowN p (pMul p n n') (pMul p m m')).length c3)).setCell ⟨w.heap.size + 1 + 1, 1, none⟩ (.slice B3 (lowD p (pMul p n n') (pMul p m m')).length d3)) = u7 at *
  clear yz
  go_wp2_with fail
  have dvr0 := vr.cell 0 (v := .slice A3 (lowN p (pMul p n n') (pMul p m m')).length c3) rfl
  have dvr1 := vr.cell 1 (v := .slice B3 (lowD p (pMul p n n') (pMul p m m')).length d3) rfl
  refine bodyPost_ret (v := .agg #[.slice A3 (lowN p (pMul p n n') (pMul p m m')).length c3, .slice B3 (lowD p (pMul p n n') (pMul p m m')).length d3]) (by simp [results, Tryz.results98, go_sem, dvr0, dvr1]) rfl ?_
  exact ⟨A3, c3, B3, d3, rfl, f3.more (by omega), g3.more (by omega), ap, xw⟩
set_option maxHeartbeats 2000000 in
theorem fractionMul_b (p : Int) (A B : Option Addr) (c d : Nat) (n m : List Int) (A' B' : Option Addr) (c' d' : Nat) (n' m' : List Int) (w : World) (hn : Rd w A n) (hd : Rd w B m) (hn' : Rd w A' n') (hd' : Rd w B' m') (h1 : FrOKB p n m) (h2 : FrOKB p n' m') :
    Calls Tryz.prog 75 #[.int .i64 p, .agg #[.slice A n.length c, .slice B m.length d], .agg #[.slice A' n'.length c', .slice B' m'.length d']] w fun e w' => FF w (lowN p (pMul p n n') (pMul p m m')) (lowD p (pMul p n n') (pMul p m m')) e w' := by
  have E1 := Lib.hid h1
  have E2 := Lib.hid h2
  have g2 := fieldB_lo E1.out.f
  have g97 := fieldB_hi E1.out.f
  have EM := Lib.hid (mul_lowB E1.out E2.out)
  clear h1 h2
  have xw := Ex.refl w
  go_enter Tryz.func75, Tryz.ntmps75
  go_wp2_with fail
  have xa := (Ex.refl w).alloc (.cells #[.slice A n.length c, .slice B m.length d] 58)
  have vx := VB.new w 58 #[.slice A n.length c, .slice B m.length d]
  have Su1 := Lib.hid (show (w.alloc (.cells #[.slice A n.length c, .slice B m.length d] 58)).heap.size = w.heap.size + 1 by simp)
  generalize w.alloc (.cells #[.slice A n.length c, .slice B m.length d] 58) = u1 at *
  have Sy := Su1; clear Su1
  have Sz := Sy; clear Sy
  replace xw := xw.trans xa; clear xa
  have xa := (Ex.refl u1).alloc (.cells #[.slice A' n'.length c', .slice B' m'.length d'] 58)
  have vy := VB.new u1 58 #[.slice A' n'.length c', .slice B' m'.length d']
  have Su2 := Lib.hid (show (u1.alloc (.cells #[.slice A' n'.length c', .slice B' m'.length d'] 58)).heap.size = u1.heap.size + 1 by simp)
  rw [Sz.out] at vy
  generalize u1.alloc (.cells #[.slice A' n'.length c', .slice B' m'.length d'] 58) = u2 at *
  have Sy := Lib.hid (Su2.out.trans (congrArg (· + 1) Sz.out)); clear Sz Su2
  have Sz := Sy; clear Sy
  replace vx := vx.ex xa
  replace xw := xw.trans xa; clear xa
  have xa := (Ex.refl u2).alloc (.cells #[.slice none 0 0, .slice none 0 0] 58)
  have vr := VB.new u2 58 #[.slice none 0 0, .slice none 0 0]
  have Su3 := Lib.hid (show (u2.alloc (.cells #[.slice none 0 0, .slice none 0 0] 58)).heap.size = u2.heap.size + 1 by simp)
  rw [Sz.out] at vr
  generalize u2.alloc (.cells #[.slice none 0 0, .slice none 0 0] 58) = u3 at *
  have Sy := Lib.hid (Su3.out.trans (congrArg (· + 1) Sz.out)); clear Sz Su3
  have Sz := Sy; clear Sy
  replace vx := vx.ex xa
  replace vy := vy.ex xa
  replace xw := xw.trans xa; clear xa
  have zu3 : w.heap.size + 3 ≤ u3.heap.size := Nat.le_of_eq (by have := Sz.out; omega)
  clear Sz
  have qvx0 := vx.cell 0 (v := .slice A n.length c) rfl
  have qvx1 := vx.cell 1 (v := .slice B m.length d) rfl
  have qvy0 := vy.cell 0 (v := .slice A' n'.length c') rfl
  have qvy1 := vy.cell 1 (v := .slice B' m'.length d') rfl
  go_wp2_with fail
  have rvr0 := vr.cell 0 (v := .slice none 0 0) rfl
  have rvr1 := vr.cell 1 (v := .slice none 0 0) rfl
  have fzvr0 := vr.frozen 0
  have fzvr1 := vr.frozen 1
  go_region_held3 (fun W => W.cell? ⟨w.heap.size, 0, none⟩ = some (.slice A n.length c) ∧ W.cell? ⟨w.heap.size, 1, none⟩ = some (.slice B m.length d) ∧ W.cell? ⟨w.heap.size + 1, 0, none⟩ = some (.slice A' n'.length c') ∧ W.cell? ⟨w.heap.size + 1, 1, none⟩ = some (.slice B' m'.length d')) (first | (exact ⟨cell_set2 (cell_ex xu6 (cell_ex xu5 (cell_ex xu4 qvx0))) (by omega), cell_set2 (cell_ex xu6 (cell_ex xu5 (cell_ex xu4 qvx1))) (by omega), cell_set2 (cell_ex xu6 (cell_ex xu5 (cell_ex xu4 qvy0))) (by omega), cell_set2 (cell_ex xu6 (cell_ex xu5 (cell_ex xu4 qvy1))) (by omega)⟩) | (exact ⟨(cell_ex xu6 (cell_ex xu5 (cell_ex xu4 qvx0))), (cell_ex xu6 (cell_ex xu5 (cell_ex xu4 qvx1))), (cell_ex xu6 (cell_ex xu5 (cell_ex xu4 qvy0))), (cell_ex xu6 (cell_ex xu5 (cell_ex xu4 qvy1)))⟩) | (exact ⟨(cell_ex xu5 (cell_ex xu4 qvx0)), (cell_ex xu5 (cell_ex xu4 qvx1)), (cell_ex xu5 (cell_ex xu4 qvy0)), (cell_ex xu5 (cell_ex xu4 qvy1))⟩) | (exact ⟨(cell_ex xu4 qvx0), (cell_ex xu4 qvx1), (cell_ex xu4 qvy0), (cell_ex xu4 qvy1)⟩) | (exact ⟨qvx0, qvx1, qvy0, qvy1⟩)) (first
    | (go_at_call_of 106 (Value.slice A n.length c)
       refine (polyMul_c p A A' c c' n n' u3.drew (hn.ex (xw.drew)) (hn'.ex (xw.drew)) g2 g97 E1.out.ne E2.out.ne (by have := E1.out.nl; have := E2.out.nl; omega)).mono ?_
       rintro e u4 ⟨A1, c1, rfl, f1, xu4⟩)
    | (go_at_call_of 106 (Value.slice B m.length d)
       refine (polyMul_c p B B' d d' m m' u4 (hd.ex ((xw.drew).trans xu4)) (hd'.ex ((xw.drew).trans xu4)) g2 g97 E1.out.me E2.out.me (by have := E1.out.ml; have := E2.out.ml; omega)).mono ?_
       rintro e u5 ⟨A2, c2, rfl, f2, xu5⟩)
    | (go_at_call 103
       refine (lowest_c p A1 A2 c1 c2 _ _ u5 ((f1.ex xu5).rd) (f2.rd) E1.out.f EM.out.1 EM.out.2.1 EM.out.2.2.1 EM.out.2.2.2.1 EM.out.2.2.2.2).mono ?_
       rintro e u6 ⟨A3, c3, B3, d3, rfl, f3, g3, ap, xu6⟩
       have krvr0 := (cell_ex xu6 (cell_ex xu5 (cell_ex xu4 rvr0)))
       have krvr1 := (cell_ex xu6 (cell_ex xu5 (cell_ex xu4 rvr1)))
       have kfzvr0 := (vr.ex (((((Ex.refl u3).drew).trans xu4).trans xu5).trans xu6)).frozen 0
       have kfzvr1 := (vr.ex (((((Ex.refl u3).drew).trans xu4).trans xu5).trans xu6)).frozen 1))
  have xd : Ex u3 u6 := ((((Ex.refl u3).drew).trans xu4).trans xu5).trans xu6
  replace vx := vx.ex xd
  replace vy := vy.ex xd
  replace vr := vr.ex xd
  replace xw := xw.trans xd
  have zu6 := xd.size
  replace f1 := f1.ex xu5
  replace f1 := f1.ex xu6
  replace f2 := f2.ex xu6
  clear qvx0 qvx1 qvy0 qvy1 rvr0 rvr1 fzvr0 fzvr1 xd
  have ydu6 : u3.heap.size ≤ u3.drew.heap.size := Nat.le_refl _
  have yxu4 := xu4.size
  have yxu5 := xu5.size
  have yxu6 := xu6.size
  have yz : Ex1 (w.heap.size + 1 + 1) u6 ((u6.setCell ⟨w.heap.size + 1 + 1, 0, none⟩ (.slice A3 (lowN p (pMul p n n') (pMul p m m')).length c3)).setCell ⟨w.heap.size + 1 + 1, 1, none⟩ (.slice B3 (lowD p (pMul p n n') (pMul p m m')).length d3)) := ((Ex1.refl _ u6).setCell (p := ⟨w.heap.size + 1 + 1, 0, none⟩) rfl (.slice A3 (lowN p (pMul p n n') (pMul p m m')).length c3)).setCell (p := ⟨w.heap.size + 1 + 1, 1, none⟩) rfl (.slice B3 (lowD p (pMul p n n') (pMul p m m')).length d3)
  replace vr : VB ((u6.setCell ⟨w.heap.size + 1 + 1, 0, none⟩ (.slice A3 (lowN p (pMul p n n') (pMul p m m')).length c3)).setCell ⟨w.heap.size + 1 + 1, 1, none⟩ (.slice B3 (lowD p (pMul p n n') (pMul p m m')).length d3)) (w.heap.size + 1 + 1) 58 #[.slice A3 (lowN p (pMul p n n') (pMul p m m')).length c3, .slice B3 (lowD p (pMul p n n') (pMul p m m')).length d3] := ((vr.set_ 0 (.slice A3 (lowN p (pMul p n n') (pMul p m m')).length c3)).set_ 1 (.slice B3 (lowD p (pMul p n n') (pMul p m m')).length d3))
  replace vx := vx.ex1 yz (by omega)
  replace vy := vy.ex1 yz (by omega)
  replace f1 := f1.ex1 yz (f1.hi.off (by omega))
  replace f2 := f2.ex1 yz (f2.hi.off (by omega))
  replace f3 := f3.ex1 yz (f3.hi.off (by omega))
  replace g3 := g3.ex1 yz (g3.hi.off (by omega))
  replace xw := xw.ex1 yz (by omega)
  have zu7 := yz.size
  generalize ((u6.setCell ⟨w.heap.size + 1 + 1, 0, none⟩ (.slice A3 (lowN p (pMul p n n') (pMul p m m')).length c3)).setCell ⟨w.heap.size + 1 + 1, 1, none⟩ (.slice B3 (lowD p (pMul p n n') (pMul p m m')).length d3)) = u7 at *
  clear yz
  go_wp2_with fail
  have dvr0 := vr.cell 0 (v := .slice A3 (lowN p (pMul p n n') (pMul p m m')).length c3) rfl
  have dvr1 := vr.cell 1 (v := .slice B3 (lowD p (pMul p n n') (pMul p m m')).length d3) rfl
  refine bodyPost_ret (v := .agg #[.slice A3 (lowN p (pMul p n n') (pMul p m m')).length c3, .slice B3 (lowD p (pMul p n n') (pMul p m m')).length d3]) (by simp [results, Tryz.results75, go_sem, dvr0, dvr1]) rfl ?_
  exact ⟨A3, c3, B3, d3, rfl, f3.more (by omega), g3.more (by omega), ap, xw⟩
set_option maxHeartbeats 4000000 in
theorem frAdd_b (p : Int) (A B : Option Addr) (c d : Nat) (n m : List Int) (A' B' : Option Addr) (c' d' : Nat) (n' m' : List Int) (w : World) (hn : Rd w A n) (hd : Rd w B m) (hn' : Rd w A' n') (hd' : Rd w B' m') (h1 : FrOKB p n m) (h2 : FrOKB p n' m') :
    Calls Tryz.prog 97 #[.int .i64 p, .agg #[.slice A n.length c, .slice B m.length d], .agg #[.slice A' n'.length c', .slice B' m'.length d']] w fun e w' => FF w (addN p n m n' m') (addD p n m n' m') e w' := by
  have E1 := Lib.hid h1
  have E2 := Lib.hid h2
  have g2 := fieldB_lo E1.out.f
  have g97 := fieldB_hi E1.out.f
  have EM := Lib.hid (add_lowB E1.out E2.out)
  clear h1 h2
  have HN := Lib.hid (show lowN p (pAdd p (pMul p n m') 1 (pMul p n' m)) (pMul p m m') = addN p n m n' m' from rfl)
  have HD := Lib.hid (show lowD p (pAdd p (pMul p n m') 1 (pMul p n' m)) (pMul p m m') = addD p n m n' m' from rfl)
  have q1 := Lib.hid (pMul_el (p := p) (by omega) n m')
  have q2 := Lib.hid (pMul_el (p := p) (by omega) n' m)
  have xw := Ex.refl w
  go_enter Tryz.func97, Tryz.ntmps97
  go_wp2_with fail
  have xa := (Ex.refl w).alloc (.cells #[.slice A n.length c, .slice B m.length d] 58)
  have vx := VB.new w 58 #[.slice A n.length c, .slice B m.length d]
  have Su1 := Lib.hid (show (w.alloc (.cells #[.slice A n.length c, .slice B m.length d] 58)).heap.size = w.heap.size + 1 by simp)
  generalize w.alloc (.cells #[.slice A n.length c, .slice B m.length d] 58) = u1 at *
  have Sy := Su1; clear Su1
  have Sz := Sy; clear Sy
  replace xw := xw.trans xa; clear xa
  have xa := (Ex.refl u1).alloc (.cells #[.slice A' n'.length c', .slice B' m'.length d'] 58)
  have vy := VB.new u1 58 #[.slice A' n'.length c', .slice B' m'.length d']
  have Su2 := Lib.hid (show (u1.alloc (.cells #[.slice A' n'.length c', .slice B' m'.length d'] 58)).heap.size = u1.heap.size + 1 by simp)
  rw [Sz.out] at vy
  generalize u1.alloc (.cells #[.slice A' n'.length c', .slice B' m'.length d'] 58) = u2 at *
  have Sy := Lib.hid (Su2.out.trans (congrArg (· + 1) Sz.out)); clear Sz Su2
  have Sz := Sy; clear Sy
  replace vx := vx.ex xa
  replace xw := xw.trans xa; clear xa
  have xa := (Ex.refl u2).alloc (.cells #[.slice none 0 0, .slice none 0 0] 58)
  have vr := VB.new u2 58 #[.slice none 0 0, .slice none 0 0]
  have Su3 := Lib.hid (show (u2.alloc (.cells #[.slice none 0 0, .slice none 0 0] 58)).heap.size = u2.heap.size + 1 by simp)
  rw [Sz.out] at vr
  generalize u2.alloc (.cells #[.slice none 0 0, .slice none 0 0] 58) = u3 at *
  have Sy := Lib.hid (Su3.out.trans (congrArg (· + 1) Sz.out)); clear Sz Su3
  have Sz := Sy; clear Sy
  replace vx := vx.ex xa
  replace vy := vy.ex xa
  replace xw := xw.trans xa; clear xa
  have zu3 : w.heap.size + 3 ≤ u3.heap.size := Nat.le_of_eq (by have := Sz.out; omega)
  clear Sz
  have qvx0 := vx.cell 0 (v := .slice A n.length c) rfl
  have qvx1 := vx.cell 1 (v := .slice B m.length d) rfl
  have qvy0 := vy.cell 0 (v := .slice A' n'.length c') rfl
  have qvy1 := vy.cell 1 (v := .slice B' m'.length d') rfl
  go_wp2_with fail
  have rvr0 := vr.cell 0 (v := .slice none 0 0) rfl
  have rvr1 := vr.cell 1 (v := .slice none 0 0) rfl
  have fzvr0 := vr.frozen 0
  have fzvr1 := vr.frozen 1
  go_region_held3 (fun W => W.cell? ⟨w.heap.size, 0, none⟩ = some (.slice A n.length c) ∧ W.cell? ⟨w.heap.size, 1, none⟩ = some (.slice B m.length d) ∧ W.cell? ⟨w.heap.size + 1, 0, none⟩ = some (.slice A' n'.length c') ∧ W.cell? ⟨w.heap.size + 1, 1, none⟩ = some (.slice B' m'.length d')) (first | (exact ⟨cell_set2 (cell_ex xu8 (cell_ex xu7 (cell_ex xu6 (cell_ex xu5 (cell_ex xu4 qvx0))))) (by omega), cell_set2 (cell_ex xu8 (cell_ex xu7 (cell_ex xu6 (cell_ex xu5 (cell_ex xu4 qvx1))))) (by omega), cell_set2 (cell_ex xu8 (cell_ex xu7 (cell_ex xu6 (cell_ex xu5 (cell_ex xu4 qvy0))))) (by omega), cell_set2 (cell_ex xu8 (cell_ex xu7 (cell_ex xu6 (cell_ex xu5 (cell_ex xu4 qvy1))))) (by omega)⟩) | (exact ⟨(cell_ex xu8 (cell_ex xu7 (cell_ex xu6 (cell_ex xu5 (cell_ex xu4 qvx0))))), (cell_ex xu8 (cell_ex xu7 (cell_ex xu6 (cell_ex xu5 (cell_ex xu4 qvx1))))), (cell_ex xu8 (cell_ex xu7 (cell_ex xu6 (cell_ex xu5 (cell_ex xu4 qvy0))))), (cell_ex xu8 (cell_ex xu7 (cell_ex xu6 (cell_ex xu5 (cell_ex xu4 qvy1)))))⟩) | (exact ⟨(cell_ex xu7 (cell_ex xu6 (cell_ex xu5 (cell_ex xu4 qvx0)))), (cell_ex xu7 (cell_ex xu6 (cell_ex xu5 (cell_ex xu4 qvx1)))), (cell_ex xu7 (cell_ex xu6 (cell_ex xu5 (cell_ex xu4 qvy0)))), (cell_ex xu7 (cell_ex xu6 (cell_ex xu5 (cell_ex xu4 qvy1))))⟩) | (exact ⟨(cell_ex xu6 (cell_ex xu5 (cell_ex xu4 qvx0))), (cell_ex xu6 (cell_ex xu5 (cell_ex xu4 qvx1))), (cell_ex xu6 (cell_ex xu5 (cell_ex xu4 qvy0))), (cell_ex xu6 (cell_ex xu5 (cell_ex xu4 qvy1)))⟩) | (exact ⟨(cell_ex xu5 (cell_ex xu4 qvx0)), (cell_ex xu5 (cell_ex xu4 qvx1)), (cell_ex xu5 (cell_ex xu4 qvy0)), (cell_ex xu5 (cell_ex xu4 qvy1))⟩) | (exact ⟨(cell_ex xu4 qvx0), (cell_ex xu4 qvx1), (cell_ex xu4 qvy0), (cell_ex xu4 qvy1)⟩) | (exact ⟨qvx0, qvx1, qvy0, qvy1⟩)) (first
    | (go_at_call_of 124 (Value.slice A n.length c)
       refine (poMul_c p A B' c d' n m' u3.drew (hn.ex (xw.drew)) (hd'.ex (xw.drew)) g2 g97 E1.out.ne E2.out.me (by have := E1.out.nl; have := E2.out.ml; omega)).mono ?_
       rintro e u4 ⟨A1, c1, rfl, f1, xu4⟩
       rw [pMul_eq E1.out.f E1.out.ne E2.out.me E1.out.nt E2.out.mt] at f1 ⊢)
    | (go_at_call_of 124 (Value.slice A' n'.length c')
       refine (poMul_c p A' B c' d n' m u4 (hn'.ex ((xw.drew).trans xu4)) (hd.ex ((xw.drew).trans xu4)) g2 g97 E2.out.ne E1.out.me (by have := E2.out.nl; have := E1.out.ml; omega)).mono ?_
       rintro e u5 ⟨A2, c2, rfl, f2, xu5⟩
       rw [pMul_eq E1.out.f E2.out.ne E1.out.me E2.out.nt E1.out.mt] at f2 ⊢)
    | (go_at_call 123
       refine (poAdd_c p A1 A2 c1 c2 _ _ u5 ((f1.ex xu5).rd) (f2.rd) g2 g97 q1.out q2.out).mono ?_
       rintro e u6 ⟨A3, c3, rfl, f3, xu6⟩)
    | (go_at_call_of 124 (Value.slice B m.length d)
       refine (poMul_c p B B' d d' m m' u6 (hd.ex ((((xw.drew).trans xu4).trans xu5).trans xu6)) (hd'.ex ((((xw.drew).trans xu4).trans xu5).trans xu6)) g2 g97 E1.out.me E2.out.me (by have := E1.out.ml; have := E2.out.ml; omega)).mono ?_
       rintro e u7 ⟨A4, c4, rfl, f4, xu7⟩
       rw [pMul_eq E1.out.f E1.out.me E2.out.me E1.out.mt E2.out.mt] at f4 ⊢)
    | (go_at_call 122
       refine (frMake_c p A3 A4 c3 c4 _ _ u7 ((f3.ex xu7).rd) (f4.rd) E1.out.f EM.out.1 EM.out.2.1 EM.out.2.2.1 EM.out.2.2.2.1 EM.out.2.2.2.2).mono ?_
       rintro e u8 ⟨A5, c5, B5, d5, rfl, f5, g5, ap, xu8⟩
       rw [HN.out] at f5 ⊢
       rw [HD.out] at g5 ⊢
       have krvr0 := (cell_ex xu8 (cell_ex xu7 (cell_ex xu6 (cell_ex xu5 (cell_ex xu4 rvr0)))))
       have krvr1 := (cell_ex xu8 (cell_ex xu7 (cell_ex xu6 (cell_ex xu5 (cell_ex xu4 rvr1)))))
       have kfzvr0 := (vr.ex (((((((Ex.refl u3).drew).trans xu4).trans xu5).trans xu6).trans xu7).trans xu8)).frozen 0
       have kfzvr1 := (vr.ex (((((((Ex.refl u3).drew).trans xu4).trans xu5).trans xu6).trans xu7).trans xu8)).frozen 1))
  have xd : Ex u3 u8 := ((((((Ex.refl u3).drew).trans xu4).trans xu5).trans xu6).trans xu7).trans xu8
  replace vx := vx.ex xd
  replace vy := vy.ex xd
  replace vr := vr.ex xd
  replace xw := xw.trans xd
  have zu8 := xd.size
  replace f1 := f1.ex xu5
  replace f1 := f1.ex xu6
  replace f1 := f1.ex xu7
  replace f1 := f1.ex xu8
  replace f2 := f2.ex xu6
  replace f2 := f2.ex xu7
  replace f2 := f2.ex xu8
  replace f3 := f3.ex xu7
  replace f3 := f3.ex xu8
  replace f4 := f4.ex xu8
  clear qvx0 qvx1 qvy0 qvy1 rvr0 rvr1 fzvr0 fzvr1 xd
  have ydu8 : u3.heap.size ≤ u3.drew.heap.size := Nat.le_refl _
  have yxu4 := xu4.size
  have yxu5 := xu5.size
  have yxu6 := xu6.size
  have yxu7 := xu7.size
  have yxu8 := xu8.size
  have yz : Ex1 (w.heap.size + 1 + 1) u8 ((u8.setCell ⟨w.heap.size + 1 + 1, 0, none⟩ (.slice A5 (addN p n m n' m').length c5)).setCell ⟨w.heap.size + 1 + 1, 1, none⟩ (.slice B5 (addD p n m n' m').length d5)) := ((Ex1.refl _ u8).setCell (p := ⟨w.heap.size + 1 + 1, 0, none⟩) rfl (.slice A5 (addN p n m n' m').length c5)).setCell (p := ⟨w.heap.size + 1 + 1, 1, none⟩) rfl (.slice B5 (addD p n m n' m').length d5)
  replace vr : VB ((u8.setCell ⟨w.heap.size + 1 + 1, 0, none⟩ (.slice A5 (addN p n m n' m').length c5)).setCell ⟨w.heap.size + 1 + 1, 1, none⟩ (.slice B5 (addD p n m n' m').length d5)) (w.heap.size + 1 + 1) 58 #[.slice A5 (addN p n m n' m').length c5, .slice B5 (addD p n m n' m').length d5] := ((vr.set_ 0 (.slice A5 (addN p n m n' m').length c5)).set_ 1 (.slice B5 (addD p n m n' m').length d5))
  replace vx := vx.ex1 yz (by omega)
  replace vy := vy.ex1 yz (by omega)
  replace f1 := f1.ex1 yz (f1.hi.off (by omega))
  replace f2 := f2.ex1 yz (f2.hi.off (by omega))
  replace f3 := f3.ex1 yz (f3.hi.off (by omega))
  replace f4 := f4.ex1 yz (f4.hi.off (by omega))
  replace f5 := f5.ex1 yz (f5.hi.off (by omega))
  replace g5 := g5.ex1 yz (g5.hi.off (by omega))
  replace xw := xw.ex1 yz (by omega)
  have zu9 := yz.size
  generalize ((u8.setCell ⟨w.heap.size + 1 + 1, 0, none⟩ (.slice A5 (addN p n m n' m').length c5)).setCell ⟨w.heap.size + 1 + 1, 1, none⟩ (.slice B5 (addD p n m n' m').length d5)) = u9 at *
  clear yz
  go_wp2_with fail
  have dvr0 := vr.cell 0 (v := .slice A5 (addN p n m n' m').length c5) rfl
  have dvr1 := vr.cell 1 (v := .slice B5 (addD p n m n' m').length d5) rfl
  refine bodyPost_ret (v := .agg #[.slice A5 (addN p n m n' m').length c5, .slice B5 (addD p n m n' m').length d5]) (by simp [results, Tryz.results97, go_sem, dvr0, dvr1]) rfl ?_
  exact ⟨A5, c5, B5, d5, rfl, f5.more (by omega), g5.more (by omega), ap, xw⟩
set_option maxHeartbeats 4000000 in
theorem fractionAdd_b (p : Int) (A B : Option Addr) (c d : Nat) (n m : List Int) (A' B' : Option Addr) (c' d' : Nat) (n' m' : List Int) (w : World) (hn : Rd w A n) (hd : Rd w B m) (hn' : Rd w A' n') (hd' : Rd w B' m') (h1 : FrOKB p n m) (h2 : FrOKB p n' m') :
    Calls Tryz.prog 74 #[.int .i64 p, .agg #[.slice A n.length c, .slice B m.length d], .agg #[.slice A' n'.length c', .slice B' m'.length d']] w fun e w' => FF w (addN p n m n' m') (addD p n m n' m') e w' := by
  have E1 := Lib.hid h1
  have E2 := Lib.hid h2
  have g2 := fieldB_lo E1.out.f
  have g97 := fieldB_hi E1.out.f
  have EM := Lib.hid (add_lowB E1.out E2.out)
  clear h1 h2
  have HN := Lib.hid (show lowN p (pAdd p (pMul p n m') 1 (pMul p n' m)) (pMul p m m') = addN p n m n' m' from rfl)
  have HD := Lib.hid (show lowD p (pAdd p (pMul p n m') 1 (pMul p n' m)) (pMul p m m') = addD p n m n' m' from rfl)
  have q1 := Lib.hid (pMul_el (p := p) (by omega) n m')
  have q2 := Lib.hid (pMul_el (p := p) (by omega) n' m)
  have xw := Ex.refl w
  go_enter Tryz.func74, Tryz.ntmps74
  go_wp2_with fail
  have xa := (Ex.refl w).alloc (.cells #[.slice A n.length c, .slice B m.length d] 58)
  have vx := VB.new w 58 #[.slice A n.length c, .slice B m.length d]
  have Su1 := Lib.hid (show (w.alloc (.cells #[.slice A n.length c, .slice B m.length d] 58)).heap.size = w.heap.size + 1 by simp)
  generalize w.alloc (.cells #[.slice A n.length c, .slice B m.length d] 58) = u1 at *
  have Sy := Su1; clear Su1
  have Sz := Sy; clear Sy
  replace xw := xw.trans xa; clear xa
  have xa := (Ex.refl u1).alloc (.cells #[.slice A' n'.length c', .slice B' m'.length d'] 58)
  have vy := VB.new u1 58 #[.slice A' n'.length c', .slice B' m'.length d']
  have Su2 := Lib.hid (show (u1.alloc (.cells #[.slice A' n'.length c', .slice B' m'.length d'] 58)).heap.size = u1.heap.size + 1 by simp)
  rw [Sz.out] at vy
  generalize u1.alloc (.cells #[.slice A' n'.length c', .slice B' m'.length d'] 58) = u2 at *
  have Sy := Lib.hid (Su2.out.trans (congrArg (· + 1) Sz.out)); clear Sz Su2
  have Sz := Sy; clear Sy
  replace vx := vx.ex xa
  replace xw := xw.trans xa; clear xa
  have xa := (Ex.refl u2).alloc (.cells #[.slice none 0 0, .slice none 0 0] 58)
  have vr := VB.new u2 58 #[.slice none 0 0, .slice none 0 0]
  have Su3 := Lib.hid (show (u2.alloc (.cells #[.slice none 0 0, .slice none 0 0] 58)).heap.size = u2.heap.size + 1 by simp)
  rw [Sz.out] at vr
  generalize u2.alloc (.cells #[.slice none 0 0, .slice none 0 0] 58) = u3 at *
  have Sy := Lib.hid (Su3.out.trans (congrArg (· + 1) Sz.out)); clear Sz Su3
  have Sz := Sy; clear Sy
  replace vx := vx.ex xa
  replace vy := vy.ex xa
  replace xw := xw.trans xa; clear xa
  have zu3 : w.heap.size + 3 ≤ u3.heap.size := Nat.le_of_eq (by have := Sz.out; omega)
  clear Sz
  have qvx0 := vx.cell 0 (v := .slice A n.length c) rfl
  have qvx1 := vx.cell 1 (v := .slice B m.length d) rfl
  have qvy0 := vy.cell 0 (v := .slice A' n'.length c') rfl
  have qvy1 := vy.cell 1 (v := .slice B' m'.length d') rfl
  go_wp2_with fail
  go_region_held3 (fun W => W.cell? ⟨w.heap.size, 0, none⟩ = some (.slice A n.length c) ∧ W.cell? ⟨w.heap.size, 1, none⟩ = some (.slice B m.length d) ∧ W.cell? ⟨w.heap.size + 1, 0, none⟩ = some (.slice A' n'.length c') ∧ W.cell? ⟨w.heap.size + 1, 1, none⟩ = some (.slice B' m'.length d')) (first | (exact ⟨(cell_ex xu6 (cell_ex xu5 (cell_ex xu4 qvx0))), (cell_ex xu6 (cell_ex xu5 (cell_ex xu4 qvx1))), (cell_ex xu6 (cell_ex xu5 (cell_ex xu4 qvy0))), (cell_ex xu6 (cell_ex xu5 (cell_ex xu4 qvy1)))⟩) | (exact ⟨(cell_ex xu5 (cell_ex xu4 qvx0)), (cell_ex xu5 (cell_ex xu4 qvx1)), (cell_ex xu5 (cell_ex xu4 qvy0)), (cell_ex xu5 (cell_ex xu4 qvy1))⟩) | (exact ⟨(cell_ex xu4 qvx0), (cell_ex xu4 qvx1), (cell_ex xu4 qvy0), (cell_ex xu4 qvy1)⟩) | (exact ⟨qvx0, qvx1, qvy0, qvy1⟩)) (first
    | (go_at_call_of 106 (Value.slice A n.length c)
       refine (polyMul_c p A B' c d' n m' u3.drew (hn.ex (xw.drew)) (hd'.ex (xw.drew)) g2 g97 E1.out.ne E2.out.me (by have := E1.out.nl; have := E2.out.ml; omega)).mono ?_
       rintro e u4 ⟨A1, c1, rfl, f1, xu4⟩)
    | (go_at_call_of 106 (Value.slice A' n'.length c')
       refine (polyMul_c p A' B c' d n' m u4 (hn'.ex ((xw.drew).trans xu4)) (hd.ex ((xw.drew).trans xu4)) g2 g97 E2.out.ne E1.out.me (by have := E2.out.nl; have := E1.out.ml; omega)).mono ?_
       rintro e u5 ⟨A2, c2, rfl, f2, xu5⟩)
    | (go_at_call 105
       refine (polyAdd_c p A1 A2 c1 c2 _ _ 1 u5 ((f1.ex xu5).rd) (f2.rd) g2 g97 q1.out q2.out (by omega)).mono ?_
       rintro e u6 ⟨A3, c3, rfl, f3, xu6⟩))
  have xd : Ex u3 u6 := ((((Ex.refl u3).drew).trans xu4).trans xu5).trans xu6
  replace vx := vx.ex xd
  replace vy := vy.ex xd
  replace vr := vr.ex xd
  replace xw := xw.trans xd
  have zu6 := xd.size
  replace f1 := f1.ex xu5
  replace f1 := f1.ex xu6
  replace f2 := f2.ex xu6
  clear qvx0 qvx1 qvy0 qvy1 xd
  have ydu6 : u3.heap.size ≤ u3.drew.heap.size := Nat.le_refl _
  have yxu4 := xu4.size
  have yxu5 := xu5.size
  have yxu6 := xu6.size
  have qvx0 := vx.cell 0 (v := .slice A n.length c) rfl
  have qvx1 := vx.cell 1 (v := .slice B m.length d) rfl
  have qvy0 := vy.cell 0 (v := .slice A' n'.length c') rfl
  have qvy1 := vy.cell 1 (v := .slice B' m'.length d') rfl
  go_wp2_with fail
  clear qvx0 qvx1 qvy0 qvy1
  refine (polyMul_c p B B' d d' m m' u6 (hd.ex xw) (hd'.ex xw) g2 g97 E1.out.me E2.out.me (by have := E1.out.ml; have := E2.out.ml; omega)).mono ?_
  rintro e u7 ⟨A4, c4, rfl, f4, xu7⟩
  replace vx := vx.ex xu7
  replace vy := vy.ex xu7
  replace vr := vr.ex xu7
  replace f1 := f1.ex xu7
  replace f2 := f2.ex xu7
  replace f3 := f3.ex xu7
  replace xw := xw.trans xu7
  have zu7 := xu7.size
  go_wp2_with fail
  refine (lowest_c p A3 A4 c3 c4 _ _ u7 f3.rd f4.rd E1.out.f EM.out.1 EM.out.2.1 EM.out.2.2.1 EM.out.2.2.2.1 EM.out.2.2.2.2).mono ?_
  rintro e u8 ⟨A5, c5, B5, d5, rfl, f5, g5, ap, xu8⟩
  replace vx := vx.ex xu8
  replace vy := vy.ex xu8
  replace vr := vr.ex xu8
  replace f1 := f1.ex xu8
  replace f2 := f2.ex xu8
  replace f3 := f3.ex xu8
  replace f4 := f4.ex xu8
  replace xw := xw.trans xu8
  have zu8 := xu8.size
  rw [HN.out] at f5 ⊢
  rw [HD.out] at g5 ⊢
  have qvr0 := vr.cell 0 (v := .slice none 0 0) rfl
  have qvr1 := vr.cell 1 (v := .slice none 0 0) rfl
  have fzvr0 := vr.frozen 0
  have fzvr1 := vr.frozen 1
  go_wp2_with fail
  clear qvr0 qvr1 fzvr0 fzvr1
  have yz : Ex1 (w.heap.size + 1 + 1) u8 ((u8.setCell ⟨w.heap.size + 1 + 1, 0, none⟩ (.slice A5 (addN p n m n' m').length c5)).setCell ⟨w.heap.size + 1 + 1, 1, none⟩ (.slice B5 (addD p n m n' m').length d5)) := ((Ex1.refl _ u8).setCell (p := ⟨w.heap.size + 1 + 1, 0, none⟩) rfl (.slice A5 (addN p n m n' m').length c5)).setCell (p := ⟨w.heap.size + 1 + 1, 1, none⟩) rfl (.slice B5 (addD p n m n' m').length d5)
  replace vr : VB ((u8.setCell ⟨w.heap.size + 1 + 1, 0, none⟩ (.slice A5 (addN p n m n' m').length c5)).setCell ⟨w.heap.size + 1 + 1, 1, none⟩ (.slice B5 (addD p n m n' m').length d5)) (w.heap.size + 1 + 1) 58 #[.slice A5 (addN p n m n' m').length c5, .slice B5 (addD p n m n' m').length d5] := ((vr.set_ 0 (.slice A5 (addN p n m n' m').length c5)).set_ 1 (.slice B5 (addD p n m n' m').length d5))
  replace vx := vx.ex1 yz (by omega)
  replace vy := vy.ex1 yz (by omega)
  replace f1 := f1.ex1 yz (f1.hi.off (by omega))
  replace f2 := f2.ex1 yz (f2.hi.off (by omega))
  replace f3 := f3.ex1 yz (f3.hi.off (by omega))
  replace f4 := f4.ex1 yz (f4.hi.off (by omega))
  replace f5 := f5.ex1 yz (f5.hi.off (by omega))
  replace g5 := g5.ex1 yz (g5.hi.off (by omega))
  replace xw := xw.ex1 yz (by omega)
  have zu9 := yz.size
  generalize ((u8.setCell ⟨w.heap.size + 1 + 1, 0, none⟩ (.slice A5 (addN p n m n' m').length c5)).setCell ⟨w.heap.size + 1 + 1, 1, none⟩ (.slice B5 (addD p n m n' m').length d5)) = u9 at *
  clear yz
  have dvr0 := vr.cell 0 (v := .slice A5 (addN p n m n' m').length c5) rfl
  have dvr1 := vr.cell 1 (v := .slice B5 (addD p n m n' m').length d5) rfl
  refine bodyPost_ret (v := .agg #[.slice A5 (addN p n m n' m').length c5, .slice B5 (addD p n m n' m').length d5]) (by simp [results, Tryz.results74, go_sem, dvr0, dvr1]) rfl ?_
  exact ⟨A5, c5, B5, d5, rfl, f5.more (by omega), g5.more (by omega), ap, xw⟩
end Go.Proofs.YtpeogfapnofeoaaGreatDoor
