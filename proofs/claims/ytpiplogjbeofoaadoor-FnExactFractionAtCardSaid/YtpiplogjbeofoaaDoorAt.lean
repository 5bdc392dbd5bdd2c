/- Contracts: FractionAt, on both sides. -/
import Derived.Test.YtpiplogjbeofoaaDoorRFunc
import Derived.RegionCalls
import Derived.Deep.RegionWith
import Derived.Deep.RegionHeld3
namespace Go.Proofs.YtpiplogjbeofoaaDoor
set_option maxRecDepth 100000
open Go Go.RowKit
/-- What FractionAt answers. -/
def atR (p : Int) (num den : List Int) (a : Int) : Int × Bool := if fracB p num den = true ∧ elB p a = true ∧ evM p a den ≠ 0 then (evM p a num * invM p (evM p a den) % p, true) else (0, false)
theorem atR_no {p : Int} {num den : List Int} {a : Int} (h : ¬ (fracB p num den = true ∧ elB p a = true ∧ evM p a den ≠ 0)) : atR p num den a = (0, false) := if_neg h
theorem atR_yes {p : Int} {num den : List Int} {a : Int} (h : fracB p num den = true ∧ elB p a = true ∧ evM p a den ≠ 0) : atR p num den a = (evM p a num * invM p (evM p a den) % p, true) := if_pos h
theorem evM_bd {p : Int} (hp : 0 < p) (x : Int) (f : List Int) : 0 ≤ evM p x f ∧ evM p x f < p := by
  cases f with
  | nil => exact ⟨Int.le_refl _, hp⟩
  | cons a f => exact ⟨Int.emod_nonneg _ (by omega), Int.emod_lt_of_pos _ hp⟩
/-- What is known of a fraction. -/
structure FrOKa (p : Int) (n m : List Int) : Prop where
  f : fieldB p = true
  ne : allEl p n = true
  me : allEl p m = true
theorem FrOKa.of {p : Int} {n m : List Int} (h : fracB p n m = true) : FrOKa p n m := by
  obtain ⟨hF, h1, h2, _⟩ := fracB_parts h
  exact ⟨hF, (polyB_parts h1).2.2.1, (polyB_parts h2).2.2.1⟩
set_option maxHeartbeats 1000000 in
theorem poEval_c (p x : Int) (A : Option Addr) (c : Nat) (f : List Int) (w : World) (hf : Rd w A f) (h2 : 2 ≤ p) (h97 : p ≤ 97) (hx : 0 ≤ x ∧ x < p) (hfe : allEl p f = true) :
    Calls Tryd.prog 98 #[.int .i64 p, .slice A f.length c, .int .i64 x] w fun e w' => e = .returned (.int .i64 (evM p x f)) ∧ Ex w w' := by
  have hl := hf.len
  have Hfe := Lib.hid hfe
  clear hfe
  go_enter Tryd.func98, Tryd.ntmps98
  go_wp2
  go_loopw [7, 8] (fun o i wr => ∃ k : Nat, k ≤ f.length ∧ i = .int .i64 ((k : Int) - 1) ∧ o = .int .i64 (evM p x (f.drop k)) ∧ Ex w wr) (fun _ i _ => (intOf i + 1).toNat)
  case atStart => exact ⟨f.length, Nat.le_refl _, rfl, by simp [evM], Ex.refl w⟩
  case round =>
    obtain ⟨k, hk, rfl, rfl, xr⟩ := hrel
    cases k with
    | zero =>
      go_wp2
      go_ret
      exact ⟨rfl, xr⟩
    | succ k =>
      obtain ⟨g, off, y, rfl, hy, hg, hcell⟩ := (hf.ex xr).at_ (by omega : k < f.length)
      have hyb := allEl_at Hfe.out hy
      have b := evM_bd (p := p) (by omega) x (f.drop (k + 1))
      have E := Lib.hid (show (evM p x (f.drop (k + 1)) * x + y) % p = evM p x (f.drop k) by
        have hk' : k < f.length := by omega
        rw [List.drop_eq_getElem_cons hk', evM]
        obtain ⟨_, e⟩ := List.getElem?_eq_some_iff.1 hy
        rw [e])
      have m0 := Int.emod_nonneg (evM p x (f.drop (k + 1)) * x) (show p ≠ 0 by omega)
      have m1 := Int.emod_lt_of_pos (evM p x (f.drop (k + 1)) * x) (show 0 < p by omega)
      have hk1 : k < f.length := by omega
      have i1 : (0 : Int) ≤ (k : Int) := by omega
      have i2 : (k : Int) < (f.length : Int) := by omega
      clear hy
      rw [show (((k + 1 : Nat) : Int) - 1) = (k : Int) by omega]
      go_wp2_with fail
      go_region_held3 (fun W => W.cell? ⟨g, off + k, none⟩ = some (.int .i64 y)) (first | exact hcell)
        (first | (go_at_call 99; refine (fdMul_c p _ x _ h2 (by omega) (by omega)).mono ?_; rintro e _ ⟨rfl, rfl⟩) | (go_at_call 148; refine (fdAdd_c p _ y _ h2 (by omega) (by omega)).mono ?_; rintro e _ ⟨rfl, rfl⟩))
      go_wp2_with fail
      go_roundw
      case rel => exact ⟨k, by omega, by go_num, by rw [← E.out], xr.drew⟩
      case measure => simp [intOf]
set_option maxHeartbeats 2000000 in
theorem spFractionAt_c (p : Int) (A B : Option Addr) (c d : Nat) (num den : List Int) (a : Int) (w : World) (hn : Rd w A num) (hd : Rd w B den) :
    Calls Tryd.prog 48 #[.int .i64 p, .agg #[.slice A num.length c, .slice B den.length d], .int .i64 a] w fun e w' => IB w (atR p num den a) e w' := by
  cases hp : fracB p num den with
  | false =>
    have H := Lib.hid (atR_no (fun h => by rw [hp] at h; cases h.1) : atR p num den a = (0, false))
    have xw := Ex.refl w
    go_enter Tryd.func48, Tryd.ntmps48
    go_wp2_with fail
    have xa := (Ex.refl w).alloc (.cells #[.slice A num.length c, .slice B den.length d] 37)
    have vx := VB.new w 37 #[.slice A num.length c, .slice B den.length d]
    have Su1 := Lib.hid (show (w.alloc (.cells #[.slice A num.length c, .slice B den.length d] 37)).heap.size = w.heap.size + 1 by simp)
    generalize w.alloc (.cells #[.slice A num.length c, .slice B den.length d] 37) = u1 at *
    have Sy := Su1; clear Su1
    have Sz := Sy; clear Sy
    replace xw := xw.trans xa; clear xa
    have zu1 : w.heap.size + 1 ≤ u1.heap.size := Nat.le_of_eq (by have := Sz.out; omega)
    clear Sz
    refine (frGood_c p A B c d num den u1 (hn.ex xw) (hd.ex xw)).mono ?_
    rintro e u2 ⟨rfl, xu2⟩
    replace vx := vx.ex xu2
    replace xw := xw.trans xu2
    have zu2 := xu2.size
    rw [hp]
    go_wp2
    go_ret2
    exact ⟨by rw [H.out]; rfl, xw⟩
  | true =>
  cases hi : elB p a with
  | false =>
    have g2 := fieldB_lo (fracB_parts hp).1
    have g97 := fieldB_hi (fracB_parts hp).1
    have H := Lib.hid (atR_no (fun h => by rw [hi] at h; cases h.2.1) : atR p num den a = (0, false))
    have xw := Ex.refl w
    go_enter Tryd.func48, Tryd.ntmps48
    go_wp2_with fail
    have xa := (Ex.refl w).alloc (.cells #[.slice A num.length c, .slice B den.length d] 37)
    have vx := VB.new w 37 #[.slice A num.length c, .slice B den.length d]
    have Su1 := Lib.hid (show (w.alloc (.cells #[.slice A num.length c, .slice B den.length d] 37)).heap.size = w.heap.size + 1 by simp)
    generalize w.alloc (.cells #[.slice A num.length c, .slice B den.length d] 37) = u1 at *
    have Sy := Su1; clear Su1
    have Sz := Sy; clear Sy
    replace xw := xw.trans xa; clear xa
    have zu1 : w.heap.size + 1 ≤ u1.heap.size := Nat.le_of_eq (by have := Sz.out; omega)
    clear Sz
    refine (frGood_c p A B c d num den u1 (hn.ex xw) (hd.ex xw)).mono ?_
    rintro e u2 ⟨rfl, xu2⟩
    replace vx := vx.ex xu2
    replace xw := xw.trans xu2
    have zu2 := xu2.size
    rw [hp]
    go_wp2_with fail
    refine (l1In_c a 0 (p - 1) u2).mono ?_
    rintro e _ ⟨rfl, rfl⟩
    rw [inB_el, hi]
    go_wp2
    go_ret2
    exact ⟨by rw [H.out]; rfl, xw⟩
  | true =>
  have g2 := fieldB_lo (fracB_parts hp).1
  have g97 := fieldB_hi (fracB_parts hp).1
  have E := Lib.hid (FrOKa.of hp)
  have ha : 0 ≤ a ∧ a < p := by simpa [elB] using hi
  have bD := evM_bd (p := p) (by omega) a den
  have bN := evM_bd (p := p) (by omega) a num
  have HP := Lib.hid hp
  have HI := Lib.hid hi
  by_cases hz : evM p a den = 0
  case pos =>
    have H := Lib.hid (atR_no (fun h => h.2.2 hz) : atR p num den a = (0, false))
    have HZ := Lib.hid hz
    clear hz
    clear hp hi
    have xw := Ex.refl w
    go_enter Tryd.func48, Tryd.ntmps48
    go_wp2_with fail
    have xa := (Ex.refl w).alloc (.cells #[.slice A num.length c, .slice B den.length d] 37)
    have vx := VB.new w 37 #[.slice A num.length c, .slice B den.length d]
    have Su1 := Lib.hid (show (w.alloc (.cells #[.slice A num.length c, .slice B den.length d] 37)).heap.size = w.heap.size + 1 by simp)
    generalize w.alloc (.cells #[.slice A num.length c, .slice B den.length d] 37) = u1 at *
    have Sy := Su1; clear Su1
    have Sz := Sy; clear Sy
    replace xw := xw.trans xa; clear xa
    have zu1 : w.heap.size + 1 ≤ u1.heap.size := Nat.le_of_eq (by have := Sz.out; omega)
    clear Sz
    refine (frGood_c p A B c d num den u1 (hn.ex xw) (hd.ex xw)).mono ?_
    rintro e u2 ⟨rfl, xu2⟩
    replace vx := vx.ex xu2
    replace xw := xw.trans xu2
    have zu2 := xu2.size
    rw [HP.out]
    go_wp2_with fail
    refine (l1In_c a 0 (p - 1) u2).mono ?_
    rintro e _ ⟨rfl, rfl⟩
    rw [inB_el, HI.out]
    have qvx0 := vx.cell 0 (v := .slice A num.length c) rfl
    have qvx1 := vx.cell 1 (v := .slice B den.length d) rfl
    go_wp2_with fail
    clear qvx0 qvx1
    refine (poEval_c p a B d den u2 (hd.ex xw) g2 g97 ha E.out.me).mono ?_
    rintro e u3 ⟨rfl, xu3⟩
    replace vx := vx.ex xu3
    replace xw := xw.trans xu3
    have zu3 := xu3.size
    rw [HZ.out]
    go_wp2
    go_ret2
    exact ⟨by rw [H.out]; rfl, xw⟩
  case neg =>
    have H := Lib.hid (atR_yes ⟨hp, hi, hz⟩)
    have hb : (evM p a den == 0) = false := by simpa using hz
    have hpos : 0 < evM p a den := by omega
    have bI := invM_bd (evM p a den) g2 (p := p)
    have hm := mul_bd (x := evM p a num) (y := invM p (evM p a den)) ⟨by omega, by omega⟩ ⟨by omega, by omega⟩
    clear hp hi
    clear hz
    have xw := Ex.refl w
    go_enter Tryd.func48, Tryd.ntmps48
    go_wp2_with fail
    have xa := (Ex.refl w).alloc (.cells #[.slice A num.length c, .slice B den.length d] 37)
    have vx := VB.new w 37 #[.slice A num.length c, .slice B den.length d]
    have Su1 := Lib.hid (show (w.alloc (.cells #[.slice A num.length c, .slice B den.length d] 37)).heap.size = w.heap.size + 1 by simp)
    generalize w.alloc (.cells #[.slice A num.length c, .slice B den.length d] 37) = u1 at *
    have Sy := Su1; clear Su1
    have Sz := Sy; clear Sy
    replace xw := xw.trans xa; clear xa
    have zu1 : w.heap.size + 1 ≤ u1.heap.size := Nat.le_of_eq (by have := Sz.out; omega)
    clear Sz
    refine (frGood_c p A B c d num den u1 (hn.ex xw) (hd.ex xw)).mono ?_
    rintro e u2 ⟨rfl, xu2⟩
    replace vx := vx.ex xu2
    replace xw := xw.trans xu2
    have zu2 := xu2.size
    rw [HP.out]
    go_wp2_with fail
    refine (l1In_c a 0 (p - 1) u2).mono ?_
    rintro e _ ⟨rfl, rfl⟩
    rw [inB_el, HI.out]
    have qvx0 := vx.cell 0 (v := .slice A num.length c) rfl
    have qvx1 := vx.cell 1 (v := .slice B den.length d) rfl
    go_wp2_with fail
    clear qvx0 qvx1
    refine (poEval_c p a B d den u2 (hd.ex xw) g2 g97 ha E.out.me).mono ?_
    rintro e u3 ⟨rfl, xu3⟩
    replace vx := vx.ex xu3
    replace xw := xw.trans xu3
    have zu3 := xu3.size
    have qvx0 := vx.cell 0 (v := .slice A num.length c) rfl
    have qvx1 := vx.cell 1 (v := .slice B den.length d) rfl
    go_wp2_with fail
    go_region_held3 (fun W => W.cell? ⟨w.heap.size, 0, none⟩ = some (.slice A num.length c) ∧ W.cell? ⟨w.heap.size, 1, none⟩ = some (.slice B den.length d)) (first | (exact ⟨(cell_ex xu5 (cell_ex xu4 qvx0)), (cell_ex xu5 (cell_ex xu4 qvx1))⟩) | (exact ⟨(cell_ex xu4 qvx0), (cell_ex xu4 qvx1)⟩) | (exact ⟨qvx0, qvx1⟩)) (first
      | (go_at_call_of 98 (Value.slice A num.length c)
         refine (poEval_c p a A c num u3.drew (hn.ex (xw.drew)) g2 g97 ha E.out.ne).mono ?_
         rintro e u4 ⟨rfl, xu4⟩)
      | (go_at_call_of 98 (Value.slice B den.length d)
         refine (poEval_c p a B d den u4 (hd.ex ((xw.drew).trans xu4)) g2 g97 ha E.out.me).mono ?_
         rintro e u5 ⟨rfl, xu5⟩)
      | (go_at_call 100
         refine (fdInv_c p (evM p a den) _ E.out.f ⟨hpos, bD.2⟩).mono ?_
         rintro e _ ⟨rfl, rfl⟩)
      | (go_at_call 99
         refine (fdMul_c p (evM p a num) (invM p (evM p a den)) _ g2 (by omega) (by omega)).mono ?_
         rintro e _ ⟨rfl, rfl⟩))
    have xd : Ex u3 u5 := (((Ex.refl u3).drew).trans xu4).trans xu5
    replace vx := vx.ex xd
    replace xw := xw.trans xd
    have zu5 := xd.size
    clear qvx0 qvx1 xd
    have ydu5 : u3.heap.size ≤ u3.drew.heap.size := Nat.le_refl _
    have yxu4 := xu4.size
    have yxu5 := xu5.size
    go_wp2
    go_ret2
    exact ⟨by rw [H.out]; rfl, xw⟩
set_option maxHeartbeats 2000000 in
theorem FractionAt_c (p : Int) (A B : Option Addr) (c d : Nat) (num den : List Int) (a : Int) (w : World) (hn : Rd w A num) (hd : Rd w B den) (ht : Tb w) :
    Calls Tryd.prog 49 #[.int .i64 p, .agg #[.slice A num.length c, .slice B den.length d], .int .i64 a] w fun e w' => IB w (atR p num den a) e w' := by
  cases hp : fracB p num den with
  | false =>
    have H := Lib.hid (atR_no (fun h => by rw [hp] at h; cases h.1) : atR p num den a = (0, false))
    have xw := Ex.refl w
    go_enter Tryd.func49, Tryd.ntmps49
    go_wp2_with fail
    have xa := (Ex.refl w).alloc (.cells #[.slice A num.length c, .slice B den.length d] 37)
    have vx := VB.new w 37 #[.slice A num.length c, .slice B den.length d]
    have Su1 := Lib.hid (show (w.alloc (.cells #[.slice A num.length c, .slice B den.length d] 37)).heap.size = w.heap.size + 1 by simp)
    generalize w.alloc (.cells #[.slice A num.length c, .slice B den.length d] 37) = u1 at *
    have Sy := Su1; clear Su1
    have Sz := Sy; clear Sy
    replace xw := xw.trans xa; clear xa
    have xa := (Ex.refl u1).alloc (.cells #[.slice A num.length c, .slice B den.length d] 37)
    have va := VB.new u1 37 #[.slice A num.length c, .slice B den.length d]
    have Su2 := Lib.hid (show (u1.alloc (.cells #[.slice A num.length c, .slice B den.length d] 37)).heap.size = u1.heap.size + 1 by simp)
    rw [Sz.out] at va
    generalize u1.alloc (.cells #[.slice A num.length c, .slice B den.length d] 37) = u2 at *
    have Sy := Lib.hid (Su2.out.trans (congrArg (· + 1) Sz.out)); clear Sz Su2
    have Sz := Sy; clear Sy
    replace vx := vx.ex xa
    replace xw := xw.trans xa; clear xa
    have zu2 : w.heap.size + 2 ≤ u2.heap.size := Nat.le_of_eq (by have := Sz.out; omega)
    clear Sz
    refine (areFractions_c p (some ⟨w.heap.size + 1, 0, none⟩) 1 [(num, den)] u2 (RdF.one (va.cell 0 rfl) (va.cell 1 rfl) (hn.ex xw) (hd.ex xw)) (ht.ex xw)).mono ?_
    rintro e u3 ⟨rfl, xu3⟩
    replace vx := vx.ex xu3
    replace va := va.ex xu3
    replace xw := xw.trans xu3
    have zu3 := xu3.size
    rw [fracB_field, hp]
    clear va
    go_wp2
    go_ret2
    exact ⟨by rw [H.out]; rfl, xw⟩
  | true =>
  cases hi : elB p a with
  | false =>
    have g2 := fieldB_lo (fracB_parts hp).1
    have g97 := fieldB_hi (fracB_parts hp).1
    have H := Lib.hid (atR_no (fun h => by rw [hi] at h; cases h.2.1) : atR p num den a = (0, false))
    have xw := Ex.refl w
    go_enter Tryd.func49, Tryd.ntmps49
    go_wp2_with fail
    have xa := (Ex.refl w).alloc (.cells #[.slice A num.length c, .slice B den.length d] 37)
    have vx := VB.new w 37 #[.slice A num.length c, .slice B den.length d]
    have Su1 := Lib.hid (show (w.alloc (.cells #[.slice A num.length c, .slice B den.length d] 37)).heap.size = w.heap.size + 1 by simp)
    generalize w.alloc (.cells #[.slice A num.length c, .slice B den.length d] 37) = u1 at *
    have Sy := Su1; clear Su1
    have Sz := Sy; clear Sy
    replace xw := xw.trans xa; clear xa
    have xa := (Ex.refl u1).alloc (.cells #[.slice A num.length c, .slice B den.length d] 37)
    have va := VB.new u1 37 #[.slice A num.length c, .slice B den.length d]
    have Su2 := Lib.hid (show (u1.alloc (.cells #[.slice A num.length c, .slice B den.length d] 37)).heap.size = u1.heap.size + 1 by simp)
    rw [Sz.out] at va
    generalize u1.alloc (.cells #[.slice A num.length c, .slice B den.length d] 37) = u2 at *
    have Sy := Lib.hid (Su2.out.trans (congrArg (· + 1) Sz.out)); clear Sz Su2
    have Sz := Sy; clear Sy
    replace vx := vx.ex xa
    replace xw := xw.trans xa; clear xa
    have zu2 : w.heap.size + 2 ≤ u2.heap.size := Nat.le_of_eq (by have := Sz.out; omega)
    clear Sz
    refine (areFractions_c p (some ⟨w.heap.size + 1, 0, none⟩) 1 [(num, den)] u2 (RdF.one (va.cell 0 rfl) (va.cell 1 rfl) (hn.ex xw) (hd.ex xw)) (ht.ex xw)).mono ?_
    rintro e u3 ⟨rfl, xu3⟩
    replace vx := vx.ex xu3
    replace va := va.ex xu3
    replace xw := xw.trans xu3
    have zu3 := xu3.size
    rw [fracB_field, hp]
    clear va
    go_wp2_with fail
    refine (isElement_c p a u3).mono ?_
    rintro e _ ⟨rfl, rfl⟩
    rw [hi]
    go_wp2
    go_ret2
    exact ⟨by rw [H.out]; rfl, xw⟩
  | true =>
  have g2 := fieldB_lo (fracB_parts hp).1
  have g97 := fieldB_hi (fracB_parts hp).1
  have E := Lib.hid (FrOKa.of hp)
  have ha : 0 ≤ a ∧ a < p := by simpa [elB] using hi
  have bD := evM_bd (p := p) (by omega) a den
  have bN := evM_bd (p := p) (by omega) a num
  have HP := Lib.hid hp
  have HI := Lib.hid hi
  by_cases hz : evM p a den = 0
  case pos =>
    have H := Lib.hid (atR_no (fun h => h.2.2 hz) : atR p num den a = (0, false))
    have HZ := Lib.hid hz
    clear hz
    clear hp hi
    have xw := Ex.refl w
    go_enter Tryd.func49, Tryd.ntmps49
    go_wp2_with fail
    have xa := (Ex.refl w).alloc (.cells #[.slice A num.length c, .slice B den.length d] 37)
    have vx := VB.new w 37 #[.slice A num.length c, .slice B den.length d]
    have Su1 := Lib.hid (show (w.alloc (.cells #[.slice A num.length c, .slice B den.length d] 37)).heap.size = w.heap.size + 1 by simp)
    generalize w.alloc (.cells #[.slice A num.length c, .slice B den.length d] 37) = u1 at *
    have Sy := Su1; clear Su1
    have Sz := Sy; clear Sy
    replace xw := xw.trans xa; clear xa
    have xa := (Ex.refl u1).alloc (.cells #[.slice A num.length c, .slice B den.length d] 37)
    have va := VB.new u1 37 #[.slice A num.length c, .slice B den.length d]
    have Su2 := Lib.hid (show (u1.alloc (.cells #[.slice A num.length c, .slice B den.length d] 37)).heap.size = u1.heap.size + 1 by simp)
    rw [Sz.out] at va
    generalize u1.alloc (.cells #[.slice A num.length c, .slice B den.length d] 37) = u2 at *
    have Sy := Lib.hid (Su2.out.trans (congrArg (· + 1) Sz.out)); clear Sz Su2
    have Sz := Sy; clear Sy
    replace vx := vx.ex xa
    replace xw := xw.trans xa; clear xa
    have zu2 : w.heap.size + 2 ≤ u2.heap.size := Nat.le_of_eq (by have := Sz.out; omega)
    clear Sz
    refine (areFractions_c p (some ⟨w.heap.size + 1, 0, none⟩) 1 [(num, den)] u2 (RdF.one (va.cell 0 rfl) (va.cell 1 rfl) (hn.ex xw) (hd.ex xw)) (ht.ex xw)).mono ?_
    rintro e u3 ⟨rfl, xu3⟩
    replace vx := vx.ex xu3
    replace va := va.ex xu3
    replace xw := xw.trans xu3
    have zu3 := xu3.size
    rw [fracB_field, HP.out]
    clear va
    go_wp2_with fail
    refine (isElement_c p a u3).mono ?_
    rintro e _ ⟨rfl, rfl⟩
    rw [HI.out]
    have qvx0 := vx.cell 0 (v := .slice A num.length c) rfl
    have qvx1 := vx.cell 1 (v := .slice B den.length d) rfl
    go_wp2_with fail
    clear qvx0 qvx1
    refine (polyEval_c p a B d den u3 (hd.ex xw) g2 g97 ha E.out.me).mono ?_
    rintro e u4 ⟨rfl, xu4⟩
    replace vx := vx.ex xu4
    replace xw := xw.trans xu4
    have zu4 := xu4.size
    rw [HZ.out]
    go_wp2
    go_ret2
    exact ⟨by rw [H.out]; rfl, xw⟩
  case neg =>
    have H := Lib.hid (atR_yes ⟨hp, hi, hz⟩)
    have hb : (evM p a den == 0) = false := by simpa using hz
    have hpos : 0 < evM p a den := by omega
    have bI := invM_bd (evM p a den) g2 (p := p)
    have hm := mul_bd (x := evM p a num) (y := invM p (evM p a den)) ⟨by omega, by omega⟩ ⟨by omega, by omega⟩
    clear hp hi
    clear hz
    have xw := Ex.refl w
    go_enter Tryd.func49, Tryd.ntmps49
    go_wp2_with fail
    have xa := (Ex.refl w).alloc (.cells #[.slice A num.length c, .slice B den.length d] 37)
    have vx := VB.new w 37 #[.slice A num.length c, .slice B den.length d]
    have Su1 := Lib.hid (show (w.alloc (.cells #[.slice A num.length c, .slice B den.length d] 37)).heap.size = w.heap.size + 1 by simp)
    generalize w.alloc (.cells #[.slice A num.length c, .slice B den.length d] 37) = u1 at *
    have Sy := Su1; clear Su1
    have Sz := Sy; clear Sy
    replace xw := xw.trans xa; clear xa
    have xa := (Ex.refl u1).alloc (.cells #[.slice A num.length c, .slice B den.length d] 37)
    have va := VB.new u1 37 #[.slice A num.length c, .slice B den.length d]
    have Su2 := Lib.hid (show (u1.alloc (.cells #[.slice A num.length c, .slice B den.length d] 37)).heap.size = u1.heap.size + 1 by simp)
    rw [Sz.out] at va
    generalize u1.alloc (.cells #[.slice A num.length c, .slice B den.length d] 37) = u2 at *
    have Sy := Lib.hid (Su2.out.trans (congrArg (· + 1) Sz.out)); clear Sz Su2
    have Sz := Sy; clear Sy
    replace vx := vx.ex xa
    replace xw := xw.trans xa; clear xa
    have zu2 : w.heap.size + 2 ≤ u2.heap.size := Nat.le_of_eq (by have := Sz.out; omega)
    clear Sz
    refine (areFractions_c p (some ⟨w.heap.size + 1, 0, none⟩) 1 [(num, den)] u2 (RdF.one (va.cell 0 rfl) (va.cell 1 rfl) (hn.ex xw) (hd.ex xw)) (ht.ex xw)).mono ?_
    rintro e u3 ⟨rfl, xu3⟩
    replace vx := vx.ex xu3
    replace va := va.ex xu3
    replace xw := xw.trans xu3
    have zu3 := xu3.size
    rw [fracB_field, HP.out]
    clear va
    go_wp2_with fail
    refine (isElement_c p a u3).mono ?_
    rintro e _ ⟨rfl, rfl⟩
    rw [HI.out]
    have qvx0 := vx.cell 0 (v := .slice A num.length c) rfl
    have qvx1 := vx.cell 1 (v := .slice B den.length d) rfl
    go_wp2_with fail
    clear qvx0 qvx1
    refine (polyEval_c p a B d den u3 (hd.ex xw) g2 g97 ha E.out.me).mono ?_
    rintro e u4 ⟨rfl, xu4⟩
    replace vx := vx.ex xu4
    replace xw := xw.trans xu4
    have zu4 := xu4.size
    have qvx0 := vx.cell 0 (v := .slice A num.length c) rfl
    have qvx1 := vx.cell 1 (v := .slice B den.length d) rfl
    go_wp2_with fail
    clear qvx0 qvx1
    refine (polyEval_c p a A c num u4 (hn.ex xw) g2 g97 ha E.out.ne).mono ?_
    rintro e u5 ⟨rfl, xu5⟩
    replace vx := vx.ex xu5
    replace xw := xw.trans xu5
    have zu5 := xu5.size
    go_wp2_with fail
    refine (inverse_c p (evM p a den) u5 g2 g97 bD).mono ?_
    rintro e _ ⟨rfl, rfl⟩
    go_wp2
    go_ret2
    exact ⟨by rw [H.out]; rfl, xw⟩
end Go.Proofs.YtpiplogjbeofoaaDoor
