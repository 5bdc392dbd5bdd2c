/- Contracts: FractionMul, on both sides. -/
import Derived.Test.YtpeogfapnofeoaaGreatDoorFrac5
import Derived.RegionCalls
import Derived.Deep.RegionWith
import Derived.Deep.RegionHeld3
namespace Go.Proofs.YtpeogfapnofeoaaGreatDoor
set_option maxRecDepth 100000
open Go Go.RowKit
/-- What FractionMul answers. -/
def mulR (p : Int) (n m n' m' : List Int) : List Int × List Int × Bool := if fracB p n m = true ∧ fracB p n' m' = true then ifR (lowN p (pMul p n n') (pMul p m m')) (lowD p (pMul p n n') (pMul p m m')) else ([], [], false)
theorem mulR_no {p : Int} {n m n' m' : List Int} (h : ¬ (fracB p n m = true ∧ fracB p n' m' = true)) : mulR p n m n' m' = ([], [], false) := if_neg h
theorem mulR_yes {p : Int} {n m n' m' : List Int} (h : fracB p n m = true ∧ fracB p n' m' = true) : mulR p n m n' m' = ifR (lowN p (pMul p n n') (pMul p m m')) (lowD p (pMul p n n') (pMul p m m')) := if_pos h
/-- What is known of a fraction. -/
structure FrOK (p : Int) (n m : List Int) : Prop where
  f : fieldB p = true
  ne : allEl p n = true
  me : allEl p m = true
  nt : Tr n
  mt : Tr m
  nl : n.length ≤ 21
  ml : m.length ≤ 21
  m0 : m ≠ []
theorem FrOK.of {p : Int} {n m : List Int} (h : fracB p n m = true) : FrOK p n m := by
  obtain ⟨hF, h1, h2, k1, k2, hd0, _, _⟩ := fracB_parts h
  obtain ⟨_, _, hne, tn⟩ := polyB_parts h1
  obtain ⟨_, _, hde, td⟩ := polyB_parts h2
  exact ⟨hF, hne, hde, tn, td, k1, k2, hd0⟩
theorem mul_ne {p : Int} (hF : fieldB p = true) {f g : List Int} (hf : allEl p f = true) (hg : allEl p g = true) (tf : Tr f) (tg : Tr g) (h1 : f ≠ []) (h2 : g ≠ []) : pMul p f g ≠ [] := by
  intro e
  have := pMul_len hF hf hg tf tg h1 h2
  rw [e] at this
  have l1 := List.length_pos_iff.2 h1
  have l2 := List.length_pos_iff.2 h2
  simp at this; omega
/-- The lowest terms of a product. -/
theorem mul_low {p : Int} {n m n' m' : List Int} (h : FrOK p n m) (h' : FrOK p n' m') :
    allEl p (pMul p n n') = true ∧ allEl p (pMul p m m') = true ∧ Tr (pMul p n n') ∧ Tr (pMul p m m') ∧ pMul p m m' ≠ [] := by
  have h2 := fieldB_lo h.f
  exact ⟨pMul_el (by omega) _ _, pMul_el (by omega) _ _, Tr.trim _, Tr.trim _, mul_ne h.f h.me h'.me h.mt h'.mt h.m0 h'.m0⟩
theorem RdF.two {w : World} {g : Nat} {A B A' B' : Option Addr} {c d c' d' : Nat} {n m n' m' : List Int} (h0 : w.cell? ⟨g, 0, none⟩ = some (.slice A n.length c)) (h1 : w.cell? ⟨g, 1, none⟩ = some (.slice B m.length d))
    (h2 : w.cell? ⟨g, 2, none⟩ = some (.slice A' n'.length c')) (h3 : w.cell? ⟨g, 3, none⟩ = some (.slice B' m'.length d')) (r0 : Rd w A n) (r1 : Rd w B m) (r2 : Rd w A' n') (r3 : Rd w B' m') : RdF w (some ⟨g, 0, none⟩) [(n, m), (n', m')] :=
  ⟨by simp, fun j q hj => by
    match j with
    | 0 => injection hj with hj; subst hj; exact ⟨g, 0, A, c, B, d, rfl, h0, h1, r0, r1⟩
    | 1 => injection hj with hj; subst hj; exact ⟨g, 0, A', c', B', d', rfl, h2, h3, r2, r3⟩
    | j + 2 => simp at hj⟩
theorem cell_set2 {u : World} {g b o : Nat} {v v0 v1 : Value} (hc : u.cell? ⟨b, o, none⟩ = some v) (hne : b ≠ g) : ((u.setCell ⟨g, 0, none⟩ v0).setCell ⟨g, 1, none⟩ v1).cell? ⟨b, o, none⟩ = some v := by
  rw [World.cell?_setCell_other _ _ _ _ (by intro e; injection e with e _; omega), World.cell?_setCell_other _ _ _ _ (by intro e; injection e with e _; omega)]
  exact hc
theorem fracB_field2 (p : Int) (n m n' m' : List Int) : ([(n, m), (n', m')].all (fun q => fracB p q.1 q.2) && fieldB p) = (fracB p n m && fracB p n' m') := by
  simp only [List.all_cons, List.all_nil, Bool.and_true]
  cases h : fracB p n m
  · rfl
  · rw [(fracB_parts h).1]; simp
set_option maxHeartbeats 2000000 in
theorem frMul_c (p : Int) (A B : Option Addr) (c d : Nat) (n m : List Int) (A' B' : Option Addr) (c' d' : Nat) (n' m' : List Int) (w : World) (hn : Rd w A n) (hd : Rd w B m) (hn' : Rd w A' n') (hd' : Rd w B' m') (hp : (fracB p n m && fracB p n' m') = true) :
    Calls Tryz.prog 98 #[.int .i64 p, .agg #[.slice A n.length c, .slice B m.length d], .agg #[.slice A' n'.length c', .slice B' m'.length d']] w fun e w' => FF w (lowN p (pMul p n n') (pMul p m m')) (lowD p (pMul p n n') (pMul p m m')) e w' := by
  have E1 := Lib.hid (FrOK.of (by rw [Bool.and_eq_true] at hp; exact hp.1) : FrOK p n m)
  have E2 := Lib.hid (FrOK.of (by rw [Bool.and_eq_true] at hp; exact hp.2) : FrOK p n' m')
  have g2 := fieldB_lo E1.out.f
  have g97 := fieldB_hi E1.out.f
  have EM := Lib.hid (mul_low E1.out E2.out)
  clear hp
  have xw := Ex.refl w
  go_enter Tryz.func98, Tryz.ntmps98
  go_wp2_with fail
  have xa := (Ex.refl w).alloc (.cells #[.slice A n.length c, .slice B m.length d] 58)
  have vx := VB.new w 58 #[.slice A n.length c, .slice B m.length d]
  have Su1 := Lib.hid (show (w.alloc (.cells #[.slice A n.length c, .slice B m.length d] 58)).heap.size = w.heap.size + 1 by simp)
  generalize w.alloc (.cells #[.slice A n.length c, .slice B m.length d] 58) = u1 at *
  have Sy := Su1; clear Su1
  have Sz := Sy; clear Sy
  replace xw := xw.trans xa; clear xa
  have xa := (Ex.refl u1).alloc (.cells #[.slice A' n'.length c', .slice B' m'.length d'] 58)
  have vy := VB.new u1 58 #[.slice A' n'.length c', .slice B' m'.length d']
  have Su2 := Lib.hid (show (u1.alloc (.cells #[.slice A' n'.length c', .slice B' m'.length d'] 58)).heap.size = u1.heap.size + 1 by simp)
  rw [Sz.out] at vy
  generalize u1.alloc (.cells #[.slice A' n'.length c', .slice B' m'.length d'] 58) = u2 at *
  have Sy := Lib.hid (Su2.out.trans (congrArg (· + 1) Sz.out)); clear Sz Su2
  have Sz := Sy; clear Sy
  replace vx := vx.ex xa
  replace xw := xw.trans xa; clear xa
  have xa := (Ex.refl u2).alloc (.cells #[.slice none 0 0, .slice none 0 0] 58)
  have vr := VB.new u2 58 #[.slice none 0 0, .slice none 0 0]
  have Su3 := Lib.hid (show (u2.alloc (.cells #[.slice none 0 0, .slice none 0 0] 58)).heap.size = u2.heap.size + 1 by simp)
  rw [Sz.out] at vr
  generalize u2.alloc (.cells #[.slice none 0 0, .slice none 0 0] 58) = u3 at *
  have Sy := Lib.hid (Su3.out.trans (congrArg (· + 1) Sz.out)); clear Sz Su3
  have Sz := Sy; clear Sy
  replace vx := vx.ex xa
  replace vy := vy.ex xa
  replace xw := xw.trans xa; clear xa
  have zu3 : w.heap.size + 3 ≤ u3.heap.size := Nat.le_of_eq (by have := Sz.out; omega)
  clear Sz
  have qvx0 := vx.cell 0 (v := .slice A n.length c) rfl
  have qvx1 := vx.cell 1 (v := .slice B m.length d) rfl
  have qvy0 := vy.cell 0 (v := .slice A' n'.length c') rfl
  have qvy1 := vy.cell 1 (v := .slice B' m'.length d') rfl
  go_wp2_with fail
  have rvr0 := vr.cell 0 (v := .slice none 0 0) rfl
  have rvr1 := vr.cell 1 (v := .slice none 0 0) rfl
  have fzvr0 := vr.frozen 0
  have fzvr1 := vr.frozen 1
  go_region_held3 (fun W => W.cell? ⟨w.heap.size, 0, none⟩ = some (.slice A n.length c) ∧ W.cell? ⟨w.heap.size, 1, none⟩ = some (.slice B m.length d) ∧ W.cell? ⟨w.heap.size + 1, 0, none⟩ = some (.slice A' n'.length c') ∧ W.cell? ⟨w.heap.size + 1, 1, none⟩ = some (.slice B' m'.length d')) (first | (exact ⟨cell_set2 (cell_ex xu6 (cell_ex xu5 (cell_ex xu4 qvx0))) (by omega), cell_set2 (cell_ex xu6 (cell_ex xu5 (cell_ex xu4 qvx1))) (by omega), cell_set2 (cell_ex xu6 (cell_ex xu5 (cell_ex xu4 qvy0))) (by omega), cell_set2 (cell_ex xu6 (cell_ex xu5 (cell_ex xu4 qvy1))) (by omega)⟩) | (exact ⟨(cell_ex xu6 (cell_ex xu5 (cell_ex xu4 qvx0))), (cell_ex xu6 (cell_ex xu5 (cell_ex xu4 qvx1))), (cell_ex xu6 (cell_ex xu5 (cell_ex xu4 qvy0))), (cell_ex xu6 (cell_ex xu5 (cell_ex xu4 qvy1)))⟩) | (exact ⟨(cell_ex xu5 (cell_ex xu4 qvx0)), (cell_ex xu5 (cell_ex xu4 qvx1)), (cell_ex xu5 (cell_ex xu4 qvy0)), (cell_ex xu5 (cell_ex xu4 qvy1))⟩) | (exact ⟨(cell_ex xu4 qvx0), (cell_ex xu4 qvx1), (cell_ex xu4 qvy0), (cell_ex xu4 qvy1)⟩) | (exact ⟨qvx0, qvx1, qvy0, qvy1⟩)) (first
    | (go_at_call_of 124 (Value.slice A n.length c)
       refine (poMul_c p A A' c c' n n' u3.drew (hn.ex (xw.drew)) (hn'.ex (xw.drew)) g2 g97 E1.out.ne E2.out.ne (by have := E1.out.nl; have := E2.out.nl; omega)).mono ?_
       rintro e u4 ⟨A1, c1, rfl, f1, xu4⟩
       rw [pMul_eq E1.out.f E1.out.ne E2.out.ne E1.out.nt E2.out.nt] at f1 ⊢)
    | (go_at_call_of 124 (Value.slice B m.length d)
       refine (poMul_c p B B' d d' m m' u4 (hd.ex ((xw.drew).trans xu4)) (hd'.ex ((xw.drew).trans xu4)) g2 g97 E1.out.me E2.out.me (by have := E1.out.ml; have := E2.out.ml; omega)).mono ?_
       rintro e u5 ⟨A2, c2, rfl, f2, xu5⟩
       rw [pMul_eq E1.out.f E1.out.me E2.out.me E1.out.mt E2.out.mt] at f2 ⊢)
    | (go_at_call 122
       refine (frMake_c p A1 A2 c1 c2 _ _ u5 ((f1.ex xu5).rd) (f2.rd) E1.out.f EM.out.1 EM.out.2.1 EM.out.2.2.1 EM.out.2.2.2.1 EM.out.2.2.2.2).mono ?_
       rintro e u6 ⟨A3, c3, B3, d3, rfl, f3, g3, ap, xu6⟩
       have krvr0 := (cell_ex xu6 (cell_ex xu5 (cell_ex xu4 rvr0)))
       have krvr1 := (cell_ex xu6 (cell_ex xu5 (cell_ex xu4 rvr1)))
       have kfzvr0 := (vr.ex (((((Ex.refl u3).drew).trans xu4).trans xu5).trans xu6)).frozen 0
       have kfzvr1 := (vr.ex (((((Ex.refl u3).drew).trans xu4).trans xu5).trans xu6)).frozen 1))
  have xd : Ex u3 u6 := ((((Ex.refl u3).drew).trans xu4).trans xu5).trans xu6
  replace vx := vx.ex xd
  replace vy := vy.ex xd
  replace vr := vr.ex xd
  replace xw := xw.trans xd
  have zu6 := xd.size
  replace f1 := f1.ex xu5
  replace f1 := f1.ex xu6
  replace f2 := f2.ex xu6
  clear qvx0 qvx1 qvy0 qvy1 rvr0 rvr1 fzvr0 fzvr1 xd
  have ydu6 : u3.heap.size ≤ u3.drew.heap.size := Nat.le_refl _
  have yxu4 := xu4.size
  have yxu5 := xu5.size
  have yxu6 := xu6.size
  have yz : Ex1 (w.heap.size + 1 + 1) u6 ((u6.setCell ⟨w.heap.size + 1 + 1, 0, none⟩ (.slice A3 (lowN p (pMul p n n') (pMul p m m')).length c3)).setCell ⟨w.heap.size + 1 + 1, 1, none⟩ (.slice B3 (lowD p (pMul p n n') (pMul p m m')).length d3)) := ((Ex1.refl _ u6).setCell (p := ⟨w.heap.size + 1 + 1, 0, none⟩) rfl (.slice A3 (lowN p (pMul p n n') (pMul p m m')).length c3)).setCell (p := ⟨w.heap.size + 1 + 1, 1, none⟩) rfl (.slice B3 (lowD p (pMul p n n') (pMul p m m')).length d3)
  replace vr : VB ((u6.setCell ⟨w.heap.size + 1 + 1, 0, none⟩ (.slice A3 (lowN p (pMul p n n') (pMul p m m')).length c3)).setCell ⟨w.heap.size + 1 + 1, 1, none⟩ (.slice B3 (lowD p (pMul p n n') (pMul p m m')).length d3)) (w.heap.size + 1 + 1) 58 #[.slice A3 (lowN p (pMul p n n') (pMul p m m')).length c3, .slice B3 (lowD p (pMul p n n') (pMul p m m')).length d3] := ((vr.set_ 0 (.slice A3 (lowN p (pMul p n n') (pMul p m m')).length c3)).set_ 1 (.slice B3 (lowD p (pMul p n n') (pMul p m m')).length d3))
  replace vx := vx.ex1 yz (by omega)
  replace vy := vy.ex1 yz (by omega)
  replace f1 := f1.ex1 yz (f1.hi.off (by omega))
  replace f2 := f2.ex1 yz (f2.hi.off (by omega))
  replace f3 := f3.ex1 yz (f3.hi.off (by omega))
  replace g3 := g3.ex1 yz (g3.hi.off (by omega))
  replace xw := xw.ex1 yz (by omega)
  have zu7 := yz.size
  generalize ((u6.setCell ⟨w.heap.size + 1 + 1, 0, none⟩ (.slice A3 (lowN p (pMul p n n') (pMul p m m')).length c3)).setCell ⟨w.heap.size + 1 + 1, 1, none⟩ (.slice B3 (lowD p (pMul p n n') (pMul p m m')).length d3)) = u7 at *
  clear yz
  go_wp2_with fail
  have dvr0 := vr.cell 0 (v := .slice A3 (lowN p (pMul p n n') (pMul p m m')).length c3) rfl
  have dvr1 := vr.cell 1 (v := .slice B3 (lowD p (pMul p n n') (pMul p m m')).length d3) rfl
  refine bodyPost_ret (v := .agg #[.slice A3 (lowN p (pMul p n n') (pMul p m m')).length c3, .slice B3 (lowD p (pMul p n n') (pMul p m m')).length d3]) (by simp [results, Tryz.results98, go_sem, dvr0, dvr1]) rfl ?_
  exact ⟨A3, c3, B3, d3, rfl, f3.more (by omega), g3.more (by omega), ap, xw⟩
set_option maxHeartbeats 2000000 in
theorem fractionMul_c (p : Int) (A B : Option Addr) (c d : Nat) (n m : List Int) (A' B' : Option Addr) (c' d' : Nat) (n' m' : List Int) (w : World) (hn : Rd w A n) (hd : Rd w B m) (hn' : Rd w A' n') (hd' : Rd w B' m') (hp : (fracB p n m && fracB p n' m') = true) :
    Calls Tryz.prog 75 #[.int .i64 p, .agg #[.slice A n.length c, .slice B m.length d], .agg #[.slice A' n'.length c', .slice B' m'.length d']] w fun e w' => FF w (lowN p (pMul p n n') (pMul p m m')) (lowD p (pMul p n n') (pMul p m m')) e w' := by
  have E1 := Lib.hid (FrOK.of (by rw [Bool.and_eq_true] at hp; exact hp.1) : FrOK p n m)
  have E2 := Lib.hid (FrOK.of (by rw [Bool.and_eq_true] at hp; exact hp.2) : FrOK p n' m')
  have g2 := fieldB_lo E1.out.f
  have g97 := fieldB_hi E1.out.f
  have EM := Lib.hid (mul_low E1.out E2.out)
  clear hp
  have xw := Ex.refl w
  go_enter Tryz.func75, Tryz.ntmps75
  go_wp2_with fail
  have xa := (Ex.refl w).alloc (.cells #[.slice A n.length c, .slice B m.length d] 58)
  have vx := VB.new w 58 #[.slice A n.length c, .slice B m.length d]
  have Su1 := Lib.hid (show (w.alloc (.cells #[.slice A n.length c, .slice B m.length d] 58)).heap.size = w.heap.size + 1 by simp)
  generalize w.alloc (.cells #[.slice A n.length c, .slice B m.length d] 58) = u1 at *
  have Sy := Su1; clear Su1
  have Sz := Sy; clear Sy
  replace xw := xw.trans xa; clear xa
  have xa := (Ex.refl u1).alloc (.cells #[.slice A' n'.length c', .slice B' m'.length d'] 58)
  have vy := VB.new u1 58 #[.slice A' n'.length c', .slice B' m'.length d']
  have Su2 := Lib.hid (show (u1.alloc (.cells #[.slice A' n'.length c', .slice B' m'.length d'] 58)).heap.size = u1.heap.size + 1 by simp)
  rw [Sz.out] at vy
  generalize u1.alloc (.cells #[.slice A' n'.length c', .slice B' m'.length d'] 58) = u2 at *
  have Sy := Lib.hid (Su2.out.trans (congrArg (· + 1) Sz.out)); clear Sz Su2
  have Sz := Sy; clear Sy
  replace vx := vx.ex xa
  replace xw := xw.trans xa; clear xa
  have xa := (Ex.refl u2).alloc (.cells #[.slice none 0 0, .slice none 0 0] 58)
  have vr := VB.new u2 58 #[.slice none 0 0, .slice none 0 0]
  have Su3 := Lib.hid (show (u2.alloc (.cells #[.slice none 0 0, .slice none 0 0] 58)).heap.size = u2.heap.size + 1 by simp)
  rw [Sz.out] at vr
  generalize u2.alloc (.cells #[.slice none 0 0, .slice none 0 0] 58) = u3 at *
  have Sy := Lib.hid (Su3.out.trans (congrArg (· + 1) Sz.out)); clear Sz Su3
  have Sz := Sy; clear Sy
  replace vx := vx.ex xa
  replace vy := vy.ex xa
  replace xw := xw.trans xa; clear xa
  have zu3 : w.heap.size + 3 ≤ u3.heap.size := Nat.le_of_eq (by have := Sz.out; omega)
  clear Sz
  have qvx0 := vx.cell 0 (v := .slice A n.length c) rfl
  have qvx1 := vx.cell 1 (v := .slice B m.length d) rfl
  have qvy0 := vy.cell 0 (v := .slice A' n'.length c') rfl
  have qvy1 := vy.cell 1 (v := .slice B' m'.length d') rfl
  go_wp2_with fail
  have rvr0 := vr.cell 0 (v := .slice none 0 0) rfl
  have rvr1 := vr.cell 1 (v := .slice none 0 0) rfl
  have fzvr0 := vr.frozen 0
  have fzvr1 := vr.frozen 1
  go_region_held3 (fun W => W.cell? ⟨w.heap.size, 0, none⟩ = some (.slice A n.length c) ∧ W.cell? ⟨w.heap.size, 1, none⟩ = some (.slice B m.length d) ∧ W.cell? ⟨w.heap.size + 1, 0, none⟩ = some (.slice A' n'.length c') ∧ W.cell? ⟨w.heap.size + 1, 1, none⟩ = some (.slice B' m'.length d')) (first | (exact ⟨cell_set2 (cell_ex xu6 (cell_ex xu5 (cell_ex xu4 qvx0))) (by omega), cell_set2 (cell_ex xu6 (cell_ex xu5 (cell_ex xu4 qvx1))) (by omega), cell_set2 (cell_ex xu6 (cell_ex xu5 (cell_ex xu4 qvy0))) (by omega), cell_set2 (cell_ex xu6 (cell_ex xu5 (cell_ex xu4 qvy1))) (by omega)⟩) | (exact ⟨(cell_ex xu6 (cell_ex xu5 (cell_ex xu4 qvx0))), (cell_ex xu6 (cell_ex xu5 (cell_ex xu4 qvx1))), (cell_ex xu6 (cell_ex xu5 (cell_ex xu4 qvy0))), (cell_ex xu6 (cell_ex xu5 (cell_ex xu4 qvy1)))⟩) | (exact ⟨(cell_ex xu5 (cell_ex xu4 qvx0)), (cell_ex xu5 (cell_ex xu4 qvx1)), (cell_ex xu5 (cell_ex xu4 qvy0)), (cell_ex xu5 (cell_ex xu4 qvy1))⟩) | (exact ⟨(cell_ex xu4 qvx0), (cell_ex xu4 qvx1), (cell_ex xu4 qvy0), (cell_ex xu4 qvy1)⟩) | (exact ⟨qvx0, qvx1, qvy0, qvy1⟩)) (first
    | (go_at_call_of 106 (Value.slice A n.length c)
       refine (polyMul_c p A A' c c' n n' u3.drew (hn.ex (xw.drew)) (hn'.ex (xw.drew)) g2 g97 E1.out.ne E2.out.ne (by have := E1.out.nl; have := E2.out.nl; omega)).mono ?_
       rintro e u4 ⟨A1, c1, rfl, f1, xu4⟩)
    | (go_at_call_of 106 (Value.slice B m.length d)
       refine (polyMul_c p B B' d d' m m' u4 (hd.ex ((xw.drew).trans xu4)) (hd'.ex ((xw.drew).trans xu4)) g2 g97 E1.out.me E2.out.me (by have := E1.out.ml; have := E2.out.ml; omega)).mono ?_
       rintro e u5 ⟨A2, c2, rfl, f2, xu5⟩)
    | (go_at_call 103
       refine (lowest_c p A1 A2 c1 c2 _ _ u5 ((f1.ex xu5).rd) (f2.rd) E1.out.f EM.out.1 EM.out.2.1 EM.out.2.2.1 EM.out.2.2.2.1 EM.out.2.2.2.2).mono ?_
       rintro e u6 ⟨A3, c3, B3, d3, rfl, f3, g3, ap, xu6⟩
       have krvr0 := (cell_ex xu6 (cell_ex xu5 (cell_ex xu4 rvr0)))
       have krvr1 := (cell_ex xu6 (cell_ex xu5 (cell_ex xu4 rvr1)))
       have kfzvr0 := (vr.ex (((((Ex.refl u3).drew).trans xu4).trans xu5).trans xu6)).frozen 0
       have kfzvr1 := (vr.ex (((((Ex.refl u3).drew).trans xu4).trans xu5).trans xu6)).frozen 1))
  have xd : Ex u3 u6 := ((((Ex.refl u3).drew).trans xu4).trans xu5).trans xu6
  replace vx := vx.ex xd
  replace vy := vy.ex xd
  replace vr := vr.ex xd
  replace xw := xw.trans xd
  have zu6 := xd.size
  replace f1 := f1.ex xu5
  replace f1 := f1.ex xu6
  replace f2 := f2.ex xu6
  clear qvx0 qvx1 qvy0 qvy1 rvr0 rvr1 fzvr0 fzvr1 xd
  have ydu6 : u3.heap.size ≤ u3.drew.heap.size := Nat.le_refl _
  have yxu4 := xu4.size
  have yxu5 := xu5.size
  have yxu6 := xu6.size
  have yz : Ex1 (w.heap.size + 1 + 1) u6 ((u6.setCell ⟨w.heap.size + 1 + 1, 0, none⟩ (.slice A3 (lowN p (pMul p n n') (pMul p m m')).length c3)).setCell ⟨w.heap.size + 1 + 1, 1, none⟩ (.slice B3 (lowD p (pMul p n n') (pMul p m m')).length d3)) := ((Ex1.refl _ u6).setCell (p := ⟨w.heap.size + 1 + 1, 0, none⟩) rfl (.slice A3 (lowN p (pMul p n n') (pMul p m m')).length c3)).setCell (p := ⟨w.heap.size + 1 + 1, 1, none⟩) rfl (.slice B3 (lowD p (pMul p n n') (pMul p m m')).length d3)
  replace vr : VB ((u6.setCell ⟨w.heap.size + 1 + 1, 0, none⟩ (.slice A3 (lowN p (pMul p n n') (pMul p m m')).length c3)).setCell ⟨w.heap.size + 1 + 1, 1, none⟩ (.slice B3 (lowD p (pMul p n n') (pMul p m m')).length d3)) (w.heap.size + 1 + 1) 58 #[.slice A3 (lowN p (pMul p n n') (pMul p m m')).length c3, .slice B3 (lowD p (pMul p n n') (pMul p m m')).length d3] := ((vr.set_ 0 (.slice A3 (lowN p (pMul p n n') (pMul p m m')).length c3)).set_ 1 (.slice B3 (lowD p (pMul p n n') (pMul p m m')).length d3))
  replace vx := vx.ex1 yz (by omega)
  replace vy := vy.ex1 yz (by omega)
  replace f1 := f1.ex1 yz (f1.hi.off (by omega))
  replace f2 := f2.ex1 yz (f2.hi.off (by omega))
  replace f3 := f3.ex1 yz (f3.hi.off (by omega))
  replace g3 := g3.ex1 yz (g3.hi.off (by omega))
  replace xw := xw.ex1 yz (by omega)
  have zu7 := yz.size
  generalize ((u6.setCell ⟨w.heap.size + 1 + 1, 0, none⟩ (.slice A3 (lowN p (pMul p n n') (pMul p m m')).length c3)).setCell ⟨w.heap.size + 1 + 1, 1, none⟩ (.slice B3 (lowD p (pMul p n n') (pMul p m m')).length d3)) = u7 at *
  clear yz
  go_wp2_with fail
  have dvr0 := vr.cell 0 (v := .slice A3 (lowN p (pMul p n n') (pMul p m m')).length c3) rfl
  have dvr1 := vr.cell 1 (v := .slice B3 (lowD p (pMul p n n') (pMul p m m')).length d3) rfl
  refine bodyPost_ret (v := .agg #[.slice A3 (lowN p (pMul p n n') (pMul p m m')).length c3, .slice B3 (lowD p (pMul p n n') (pMul p m m')).length d3]) (by simp [results, Tryz.results75, go_sem, dvr0, dvr1]) rfl ?_
  exact ⟨A3, c3, B3, d3, rfl, f3.more (by omega), g3.more (by omega), ap, xw⟩
end Go.Proofs.YtpeogfapnofeoaaGreatDoor
