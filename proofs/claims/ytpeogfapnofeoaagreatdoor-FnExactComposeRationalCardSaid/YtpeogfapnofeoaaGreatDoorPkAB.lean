/- Contracts: FractionMul, on both sides. Contracts: FractionAdd, on both sides. Contracts: FractionInverse, on both sides. -/
import Derived.Test.YtpeogfapnofeoaaGreatDoorFrac5
import Derived.RegionCalls
import Derived.Deep.RegionWith
import Derived.Deep.RegionHeld3
namespace Go.Proofs.YtpeogfapnofeoaaGreatDoor
set_option maxRecDepth 100000
open Go Go.RowKit
/-- What is known of a fraction. -/
structure FrOK (p : Int) (n m : List Int) : Prop where
  f : fieldB p = true
  ne : allEl p n = true
  me : allEl p m = true
  nt : Tr n
  mt : Tr m
  nl : n.length ≤ 21
  ml : m.length ≤ 21
  m0 : m ≠ []
theorem FrOK.of {p : Int} {n m : List Int} (h : fracB p n m = true) : FrOK p n m := by
  obtain ⟨hF, h1, h2, k1, k2, hd0, _, _⟩ := fracB_parts h
  obtain ⟨_, _, hne, tn⟩ := polyB_parts h1
  obtain ⟨_, _, hde, td⟩ := polyB_parts h2
  exact ⟨hF, hne, hde, tn, td, k1, k2, hd0⟩
theorem mul_ne {p : Int} (hF : fieldB p = true) {f g : List Int} (hf : allEl p f = true) (hg : allEl p g = true) (tf : Tr f) (tg : Tr g) (h1 : f ≠ []) (h2 : g ≠ []) : pMul p f g ≠ [] := by
  intro e
  have := pMul_len hF hf hg tf tg h1 h2
  rw [e] at this
  have l1 := List.length_pos_iff.2 h1
  have l2 := List.length_pos_iff.2 h2
  simp at this; omega
theorem cell_set2 {u : World} {g b o : Nat} {v v0 v1 : Value} (hc : u.cell? ⟨b, o, none⟩ = some v) (hne : b ≠ g) : ((u.setCell ⟨g, 0, none⟩ v0).setCell ⟨g, 1, none⟩ v1).cell? ⟨b, o, none⟩ = some v := by
  rw [World.cell?_setCell_other _ _ _ _ (by intro e; injection e with e _; omega), World.cell?_setCell_other _ _ _ _ (by intro e; injection e with e _; omega)]
  exact hc
end Go.Proofs.YtpeogfapnofeoaaGreatDoor
namespace Go.Proofs.YtpeogfapnofeoaaGreatDoor
set_option maxRecDepth 100000
open Go Go.RowKit
def addN (p : Int) (n m n' m' : List Int) : List Int := lowN p (pAdd p (pMul p n m') 1 (pMul p n' m)) (pMul p m m')
def addD (p : Int) (n m n' m' : List Int) : List Int := lowD p (pAdd p (pMul p n m') 1 (pMul p n' m)) (pMul p m m')
/-- What FractionAdd answers. -/
def addR (p : Int) (n m n' m' : List Int) : List Int × List Int × Bool := if fracB p n m = true ∧ fracB p n' m' = true then ifR (addN p n m n' m') (addD p n m n' m') else ([], [], false)
end Go.Proofs.YtpeogfapnofeoaaGreatDoor
namespace Go.Proofs.YtpeogfapnofeoaaGreatDoor
set_option maxRecDepth 100000
open Go Go.RowKit
set_option maxHeartbeats 2000000 in
theorem frInv_c (p : Int) (A B : Option Addr) (c d : Nat) (num den : List Int) (w : World) (hn : Rd w A num) (hd : Rd w B den) (hF : fieldB p = true) (hne : allEl p num = true) (hde : allEl p den = true) (tn : Tr num) (td : Tr den) (hn0 : num ≠ []) :
    Calls Tryz.prog 107 #[.int .i64 p, .agg #[.slice A num.length c, .slice B den.length d]] w fun e w' => FF w (lowN p den num) (lowD p den num) e w' := by
  have HF := Lib.hid hF
  have Hne := Lib.hid hne
  have Hde := Lib.hid hde
  have H0 := Lib.hid hn0
  clear hF hne hde hn0
  have xw := Ex.refl w
  go_enter Tryz.func107, Tryz.ntmps107
  go_wp2_with fail
  have xa := (Ex.refl w).alloc (.cells #[.slice A num.length c, .slice B den.length d] 58)
  have vx := VB.new w 58 #[.slice A num.length c, .slice B den.length d]
  have Su1 := Lib.hid (show (w.alloc (.cells #[.slice A num.length c, .slice B den.length d] 58)).heap.size = w.heap.size + 1 by simp)
  generalize w.alloc (.cells #[.slice A num.length c, .slice B den.length d] 58) = u1 at *
  have Sy := Su1; clear Su1
  have Sz := Sy; clear Sy
  replace xw := xw.trans xa; clear xa
  have xa := (Ex.refl u1).alloc (.cells #[.slice none 0 0, .slice none 0 0] 58)
  have vr := VB.new u1 58 #[.slice none 0 0, .slice none 0 0]
  have Su2 := Lib.hid (show (u1.alloc (.cells #[.slice none 0 0, .slice none 0 0] 58)).heap.size = u1.heap.size + 1 by simp)
  rw [Sz.out] at vr
  generalize u1.alloc (.cells #[.slice none 0 0, .slice none 0 0] 58) = u2 at *
  have Sy := Lib.hid (Su2.out.trans (congrArg (· + 1) Sz.out)); clear Sz Su2
  have Sz := Sy; clear Sy
  replace vx := vx.ex xa
  replace xw := xw.trans xa; clear xa
  have zu2 : w.heap.size + 2 ≤ u2.heap.size := Nat.le_of_eq (by have := Sz.out; omega)
  clear Sz
  refine (frMake_c p B A d c den num u2 (hd.ex xw) (hn.ex xw) HF.out Hde.out Hne.out td tn H0.out).mono ?_
  rintro e u3 ⟨A2, c2, B2, d2, rfl, f2, g2, ap, xu3⟩
  replace vx := vx.ex xu3
  replace vr := vr.ex xu3
  replace xw := xw.trans xu3
  have zu3 := xu3.size
  have qvr0 := vr.cell 0 (v := .slice none 0 0) rfl
  have qvr1 := vr.cell 1 (v := .slice none 0 0) rfl
  have fzvr0 := vr.frozen 0
  have fzvr1 := vr.frozen 1
  go_wp2_with fail
  clear qvr0 qvr1 fzvr0 fzvr1
  have yz : Ex1 (w.heap.size + 1) u3 ((u3.setCell ⟨w.heap.size + 1, 0, none⟩ (.slice A2 (lowN p den num).length c2)).setCell ⟨w.heap.size + 1, 1, none⟩ (.slice B2 (lowD p den num).length d2)) := ((Ex1.refl _ u3).setCell (p := ⟨w.heap.size + 1, 0, none⟩) rfl (.slice A2 (lowN p den num).length c2)).setCell (p := ⟨w.heap.size + 1, 1, none⟩) rfl (.slice B2 (lowD p den num).length d2)
  replace vr : VB ((u3.setCell ⟨w.heap.size + 1, 0, none⟩ (.slice A2 (lowN p den num).length c2)).setCell ⟨w.heap.size + 1, 1, none⟩ (.slice B2 (lowD p den num).length d2)) (w.heap.size + 1) 58 #[.slice A2 (lowN p den num).length c2, .slice B2 (lowD p den num).length d2] := ((vr.set_ 0 (.slice A2 (lowN p den num).length c2)).set_ 1 (.slice B2 (lowD p den num).length d2))
  replace vx := vx.ex1 yz (by omega)
  replace f2 := f2.ex1 yz (f2.hi.off (by omega))
  replace g2 := g2.ex1 yz (g2.hi.off (by omega))
  replace xw := xw.ex1 yz (by omega)
  have zu4 := yz.size
  generalize ((u3.setCell ⟨w.heap.size + 1, 0, none⟩ (.slice A2 (lowN p den num).length c2)).setCell ⟨w.heap.size + 1, 1, none⟩ (.slice B2 (lowD p den num).length d2)) = u4 at *
  clear yz
  have dvr0 := vr.cell 0 (v := .slice A2 (lowN p den num).length c2) rfl
  have dvr1 := vr.cell 1 (v := .slice B2 (lowD p den num).length d2) rfl
  refine bodyPost_ret (v := .agg #[.slice A2 (lowN p den num).length c2, .slice B2 (lowD p den num).length d2]) (by simp [results, Tryz.results107, go_sem, dvr0, dvr1]) rfl ?_
  exact ⟨A2, c2, B2, d2, rfl, f2.more (by omega), g2.more (by omega), ap, xw⟩
set_option maxHeartbeats 2000000 in
theorem fractionInverse_c (p : Int) (A B : Option Addr) (c d : Nat) (num den : List Int) (w : World) (hn : Rd w A num) (hd : Rd w B den) (hF : fieldB p = true) (hne : allEl p num = true) (hde : allEl p den = true) (tn : Tr num) (td : Tr den) (hn0 : num ≠ []) :
    Calls Tryz.prog 154 #[.int .i64 p, .agg #[.slice A num.length c, .slice B den.length d]] w fun e w' => FF w (lowN p den num) (lowD p den num) e w' := by
  have HF := Lib.hid hF
  have Hne := Lib.hid hne
  have Hde := Lib.hid hde
  have H0 := Lib.hid hn0
  clear hF hne hde hn0
  have xw := Ex.refl w
  go_enter Tryz.func154, Tryz.ntmps154
  go_wp2_with fail
  have xa := (Ex.refl w).alloc (.cells #[.slice A num.length c, .slice B den.length d] 58)
  have vx := VB.new w 58 #[.slice A num.length c, .slice B den.length d]
  have Su1 := Lib.hid (show (w.alloc (.cells #[.slice A num.length c, .slice B den.length d] 58)).heap.size = w.heap.size + 1 by simp)
  generalize w.alloc (.cells #[.slice A num.length c, .slice B den.length d] 58) = u1 at *
  have Sy := Su1; clear Su1
  have Sz := Sy; clear Sy
  replace xw := xw.trans xa; clear xa
  have xa := (Ex.refl u1).alloc (.cells #[.slice none 0 0, .slice none 0 0] 58)
  have vr := VB.new u1 58 #[.slice none 0 0, .slice none 0 0]
  have Su2 := Lib.hid (show (u1.alloc (.cells #[.slice none 0 0, .slice none 0 0] 58)).heap.size = u1.heap.size + 1 by simp)
  rw [Sz.out] at vr
  generalize u1.alloc (.cells #[.slice none 0 0, .slice none 0 0] 58) = u2 at *
  have Sy := Lib.hid (Su2.out.trans (congrArg (· + 1) Sz.out)); clear Sz Su2
  have Sz := Sy; clear Sy
  replace vx := vx.ex xa
  replace xw := xw.trans xa; clear xa
  have zu2 : w.heap.size + 2 ≤ u2.heap.size := Nat.le_of_eq (by have := Sz.out; omega)
  clear Sz
  refine (lowest_c p B A d c den num u2 (hd.ex xw) (hn.ex xw) HF.out Hde.out Hne.out td tn H0.out).mono ?_
  rintro e u3 ⟨A2, c2, B2, d2, rfl, f2, g2, ap, xu3⟩
  replace vx := vx.ex xu3
  replace vr := vr.ex xu3
  replace xw := xw.trans xu3
  have zu3 := xu3.size
  have qvr0 := vr.cell 0 (v := .slice none 0 0) rfl
  have qvr1 := vr.cell 1 (v := .slice none 0 0) rfl
  have fzvr0 := vr.frozen 0
  have fzvr1 := vr.frozen 1
  go_wp2_with fail
  clear qvr0 qvr1 fzvr0 fzvr1
  have yz : Ex1 (w.heap.size + 1) u3 ((u3.setCell ⟨w.heap.size + 1, 0, none⟩ (.slice A2 (lowN p den num).length c2)).setCell ⟨w.heap.size + 1, 1, none⟩ (.slice B2 (lowD p den num).length d2)) := ((Ex1.refl _ u3).setCell (p := ⟨w.heap.size + 1, 0, none⟩) rfl (.slice A2 (lowN p den num).length c2)).setCell (p := ⟨w.heap.size + 1, 1, none⟩) rfl (.slice B2 (lowD p den num).length d2)
  replace vr : VB ((u3.setCell ⟨w.heap.size + 1, 0, none⟩ (.slice A2 (lowN p den num).length c2)).setCell ⟨w.heap.size + 1, 1, none⟩ (.slice B2 (lowD p den num).length d2)) (w.heap.size + 1) 58 #[.slice A2 (lowN p den num).length c2, .slice B2 (lowD p den num).length d2] := ((vr.set_ 0 (.slice A2 (lowN p den num).length c2)).set_ 1 (.slice B2 (lowD p den num).length d2))
  replace vx := vx.ex1 yz (by omega)
  replace f2 := f2.ex1 yz (f2.hi.off (by omega))
  replace g2 := g2.ex1 yz (g2.hi.off (by omega))
  replace xw := xw.ex1 yz (by omega)
  have zu4 := yz.size
  generalize ((u3.setCell ⟨w.heap.size + 1, 0, none⟩ (.slice A2 (lowN p den num).length c2)).setCell ⟨w.heap.size + 1, 1, none⟩ (.slice B2 (lowD p den num).length d2)) = u4 at *
  clear yz
  have dvr0 := vr.cell 0 (v := .slice A2 (lowN p den num).length c2) rfl
  have dvr1 := vr.cell 1 (v := .slice B2 (lowD p den num).length d2) rfl
  refine bodyPost_ret (v := .agg #[.slice A2 (lowN p den num).length c2, .slice B2 (lowD p den num).length d2]) (by simp [results, Tryz.results154, go_sem, dvr0, dvr1]) rfl ?_
  exact ⟨A2, c2, B2, d2, rfl, f2.more (by omega), g2.more (by omega), ap, xw⟩
set_option maxHeartbeats 400000 in
theorem isNought_c (A B : Option Addr) (c d : Nat) (num den : List Int) (w : World) (_ : num.length ≤ 1099511627776) :
    Calls Tryz.prog 41 #[.agg #[.slice A num.length c, .slice B den.length d]] w fun e w' => e = .returned (.bool (decide (num = []))) ∧ Ex w w' := by
  have x0 := (Ex.refl w).alloc (.cells #[.slice A num.length c, .slice B den.length d] 58)
  go_enter Tryz.func41, Tryz.ntmps41
  go_wp2
  go_ret
  exact ⟨ret_bool (by rw [Bool.eq_iff_iff]; simp), x0⟩
end Go.Proofs.YtpeogfapnofeoaaGreatDoor
