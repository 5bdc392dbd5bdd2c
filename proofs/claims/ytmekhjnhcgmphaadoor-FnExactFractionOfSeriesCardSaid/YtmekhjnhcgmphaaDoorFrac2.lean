/- Contracts: valid fractions, on both sides; the laws' helpers on fractions. -/
import Derived.Test.YtmekhjnhcgmphaaDoorFrac
import Derived.RegionCalls
import Derived.Deep.RegionWith
namespace Go.Proofs.YtmekhjnhcgmphaaDoor
set_option maxRecDepth 100000
open Go Go.RowKit
theorem box2 (w : World) (a b : Value) (t : TypeId) : (w.alloc (.cells #[a, b] t)).cell? ⟨w.heap.size, 0, none⟩ = some a ∧ (w.alloc (.cells #[a, b] t)).cell? ⟨w.heap.size, 1, none⟩ = some b := by
  constructor <;> (rw [World.cell?_alloc_at _ _ _ _ rfl]; rfl)
theorem box2a (w : World) (a b : Value) (t : TypeId) (o : Obj) : ((w.alloc (.cells #[a, b] t)).alloc o).cell? ⟨w.heap.size, 0, none⟩ = some a ∧ ((w.alloc (.cells #[a, b] t)).alloc o).cell? ⟨w.heap.size, 1, none⟩ = some b := by
  have h := box2 w a b t
  constructor
  · rw [World.cell?_alloc_past _ _ _ (by simp)]; exact h.1
  · rw [World.cell?_alloc_past _ _ _ (by simp)]; exact h.2
theorem box2b (w : World) (a b : Value) (t : TypeId) (o : Obj) : ((w.alloc o).alloc (.cells #[a, b] t)).cell? ⟨w.heap.size + 1, 0, none⟩ = some a ∧ ((w.alloc o).alloc (.cells #[a, b] t)).cell? ⟨w.heap.size + 1, 1, none⟩ = some b := by
  constructor <;> (rw [World.cell?_alloc_at _ _ _ _ (by simp)]; rfl)
set_option maxHeartbeats 1000000 in
theorem equalFractions_c (A B A' B' : Option Addr) (c d c' d' : Nat) (n m n' m' : List Int) (w : World) (h1 : Rd w A n) (h2 : Rd w B m) (h3 : Rd w A' n') (h4 : Rd w B' m') :
    Calls Tryd.prog 96 #[.agg #[.slice A n.length c, .slice B m.length d], .agg #[.slice A' n'.length c', .slice B' m'.length d']] w fun e w' => e = .returned (.bool (decide (n = n') && decide (m = m'))) ∧ Ex w w' := by
  have x0 : ∀ (a b : Obj), Ex w ((w.alloc a).alloc b) := fun a b => ((Ex.refl w).alloc a).alloc b
  by_cases hn : n = n'
  · have hd : decide (n = n') = true := by simpa using hn
    have Hd := Lib.hid hd
    clear hn
    go_enter Tryd.func96, Tryd.ntmps96
    go_wp2_with fail
    refine (slicesEqual_c A A' c c' n n' _ (h1.ex (x0 _ _)) (h3.ex (x0 _ _))).mono ?_
    rintro e w1 ⟨rfl, x1⟩
    have c0 := cell_ex x1 (g := w.heap.size) (o := 1) (v := .slice B m.length d) (box2a _ _ _ _ _).2
    have c1 := cell_ex x1 (g := w.heap.size + 1) (o := 1) (v := .slice B' m'.length d') (box2b _ _ _ _ _).2
    have xx := (x0 _ _).trans x1
    clear x0 x1
    rw [hd]
    clear hd
    go_wp2_with fail
    refine (slicesEqual_c B B' d d' m m' _ (h2.ex xx) (h4.ex xx)).mono ?_
    rintro e w2 ⟨rfl, x2⟩
    go_wp2
    go_ret
    exact ⟨by rw [Hd.out]; rfl, xx.trans x2⟩
  · have hd : decide (n = n') = false := by simpa using hn
    have Hd := Lib.hid hd
    clear hn
    go_enter Tryd.func96, Tryd.ntmps96
    go_wp2_with fail
    refine (slicesEqual_c A A' c c' n n' _ (h1.ex (x0 _ _)) (h3.ex (x0 _ _))).mono ?_
    rintro e w1 ⟨rfl, x1⟩
    have xx := (x0 _ _).trans x1
    clear x0 x1
    rw [hd]
    clear hd
    go_wp2
    go_ret
    exact ⟨by rw [Hd.out]; rfl, xx⟩
theorem arePolys2_c (p : Int) (g : Nat) (A B : Option Addr) (c d : Nat) (f h : List Int) (w : World) (h0 : w.cell? ⟨g, 0, none⟩ = some (.slice A f.length c)) (h1 : w.cell? ⟨g, 1, none⟩ = some (.slice B h.length d)) (r1 : Rd w A f) (r2 : Rd w B h) (ht : Tb w) :
    Calls Tryd.prog 94 #[.int .i64 p, .slice (some ⟨g, 0, none⟩) 2 2] w fun e w' => e = .returned (.bool (polyB p f && polyB p h)) ∧ w = w' := by
  have hpa : ([f, h].all (polyB p) && fieldB p) = (polyB p f && polyB p h) := by
    simp only [List.all_cons, List.all_nil, Bool.and_true]
    cases h1 : polyB p f
    · rfl
    · rw [(polyB_parts h1).1, Bool.and_true]
  have := arePolys_c p (some ⟨g, 0, none⟩) 2 [.slice A f.length c, .slice B h.length d] [f, h] w ⟨by simp, fun j v hj => by
      match j with
      | 0 => injection hj with hj; subst hj; exact ⟨g, 0, rfl, h0⟩
      | 1 => injection hj with hj; subst hj; exact ⟨g, 0, rfl, h1⟩
      | j + 2 => cases hj⟩ (fun j v hj => by
      match j with
      | 0 => injection hj with hj; subst hj; exact ⟨f, rfl, A, c, rfl, r1⟩
      | 1 => injection hj with hj; subst hj; exact ⟨h, rfl, B, d, rfl, r2⟩
      | j + 2 => cases hj) rfl ht
  rw [hpa] at this
  exact this
set_option maxHeartbeats 1000000 in
theorem isFraction_c (p : Int) (A B : Option Addr) (c d : Nat) (num den : List Int) (w : World) (hn : Rd w A num) (hd : Rd w B den) (ht : Tb w) :
    Calls Tryd.prog 70 #[.int .i64 p, .agg #[.slice A num.length c, .slice B den.length d]] w fun e w' => e = .returned (.bool (fracB p num den)) ∧ Ex w w' := by
  have hl1 := hn.len
  have hl2 := hd.len
  have x0 : ∀ (a b : Obj), Ex w ((w.alloc a).alloc b) := fun a b => ((Ex.refl w).alloc a).alloc b
  cases hpp : (polyB p num && polyB p den) with
  | false =>
    have H := Lib.hid (show fracB p num den = false by simp [fracB, hpp])
    have Hp := Lib.hid hpp
    clear hpp
    go_enter Tryd.func70, Tryd.ntmps70
    go_wp2_with fail
    refine (arePolys2_c p _ A B c d num den _ (box2b _ _ _ _ _).1 (box2b _ _ _ _ _).2 (hn.ex (x0 _ _)) (hd.ex (x0 _ _)) (ht.ex (x0 _ _))).mono ?_
    rintro e w1 ⟨rfl, rfl⟩
    rw [Hp.out]
    go_wp2
    go_ret
    exact ⟨by rw [H.out]; rfl, x0 _ _⟩
  | true =>
    have Hp := Lib.hid hpp
    have hpp' : polyB p num = true ∧ polyB p den = true := by simpa using hpp
    obtain ⟨hF, _, hne, tn⟩ := polyB_parts hpp'.1
    obtain ⟨_, _, hde, td⟩ := polyB_parts hpp'.2
    have HF := Lib.hid hF
    have Hne := Lib.hid hne
    have Hde := Lib.hid hde
    have Hpp := Lib.hid hpp'
    clear hpp hpp' hF hne hde
    by_cases hn21 : num.length ≤ 21
    case neg =>
      have H := Lib.hid (show fracB p num den = false by simp [fracB, hn21])
      go_enter Tryd.func70, Tryd.ntmps70
      go_wp2_with fail
      refine (arePolys2_c p _ A B c d num den _ (box2b _ _ _ _ _).1 (box2b _ _ _ _ _).2 (hn.ex (x0 _ _)) (hd.ex (x0 _ _)) (ht.ex (x0 _ _))).mono ?_
      rintro e w1 ⟨rfl, rfl⟩
      rw [Hp.out]
      go_wp2_with (go_at_call 95; refine (degree_c _ _ _ _ (by omega)).mono ?_; rintro e w' ⟨rfl, rfl⟩)
      go_ret
      exact ⟨by rw [H.out]; rfl, x0 _ _⟩
    by_cases hd21 : den.length ≤ 21
    case neg =>
      have H := Lib.hid (show fracB p num den = false by simp [fracB, hd21])
      go_enter Tryd.func70, Tryd.ntmps70
      go_wp2_with fail
      refine (arePolys2_c p _ A B c d num den _ (box2b _ _ _ _ _).1 (box2b _ _ _ _ _).2 (hn.ex (x0 _ _)) (hd.ex (x0 _ _)) (ht.ex (x0 _ _))).mono ?_
      rintro e w1 ⟨rfl, rfl⟩
      rw [Hp.out]
      go_wp2_with (go_at_call 95; refine (degree_c _ _ _ _ (by omega)).mono ?_; rintro e w' ⟨rfl, rfl⟩)
      go_ret
      exact ⟨by rw [H.out]; rfl, x0 _ _⟩
    by_cases hd0 : den = []
    · have H := Lib.hid (show fracB p num den = false by simp [fracB, hd0])
      subst hd0
      go_enter Tryd.func70, Tryd.ntmps70
      go_wp2_with fail
      refine (arePolys2_c p _ A B c d num [] _ (box2b _ _ _ _ _).1 (box2b _ _ _ _ _).2 (hn.ex (x0 _ _)) (hd.ex (x0 _ _)) (ht.ex (x0 _ _))).mono ?_
      rintro e w1 ⟨rfl, rfl⟩
      rw [Hp.out]
      go_wp2_with (go_at_call 95; refine (degree_c _ _ _ _ (by omega)).mono ?_; rintro e w' ⟨rfl, rfl⟩)
      go_ret
      exact ⟨by rw [H.out]; rfl, x0 _ _⟩
    · have hdl := List.length_pos_iff.2 hd0
      have hdb : ((den.length : Int) == 0) = false := by simp; omega
      have hs := low_self HF.out Hne.out Hde.out tn td hd0
      have H := Lib.hid (show fracB p num den = (decide (lowN p num den = num) && decide (lowD p num den = den)) by
        have := Hpp.out
        rw [Bool.eq_iff_iff]
        simp only [fracB, this.1, this.2, hn21, hd21, Bool.and_eq_true, decide_eq_true_eq, hs]
        simp [hd0])
      have Hd0 := Lib.hid hd0
      clear hs hd0
      go_enter Tryd.func70, Tryd.ntmps70
      go_wp2_with fail
      refine (arePolys2_c p _ A B c d num den _ (box2b _ _ _ _ _).1 (box2b _ _ _ _ _).2 (hn.ex (x0 _ _)) (hd.ex (x0 _ _)) (ht.ex (x0 _ _))).mono ?_
      rintro e w1 ⟨rfl, rfl⟩
      rw [Hp.out]
      go_wp2_with (go_at_call 95; refine (degree_c _ _ _ _ (by omega)).mono ?_; rintro e w' ⟨rfl, rfl⟩)
      have xx := x0 (Obj.cells #[.slice A num.length c, .slice B den.length d] 40) (Obj.cells #[.slice A num.length c, .slice B den.length d] 38)
      have cc := box2a w (.slice A num.length c) (.slice B den.length d) 40 (Obj.cells #[.slice A num.length c, .slice B den.length d] 38)
      obtain ⟨cc0, cc1⟩ := cc
      generalize (w.alloc (Obj.cells #[.slice A num.length c, .slice B den.length d] 40)).alloc (Obj.cells #[.slice A num.length c, .slice B den.length d] 38) = W at *
      have hnW := hn.ex xx
      have hdW := hd.ex xx
      go_region_with (first
        | (go_at_call 42
           refine (lowest_c p A B c d num den W.drew hnW hdW HF.out Hne.out Hde.out tn td Hd0.out).mono ?_
           rintro e w2 ⟨A2, c2, B2, d2, rfl, f2, g2, _, x2⟩
           have e0 := cell_ex x2 (g := w.heap.size) (o := 0) (v := .slice A num.length c) cc0
           have e1 := cell_ex x2 (g := w.heap.size) (o := 1) (v := .slice B den.length d) cc1)
        | (go_at_call 96
           refine (equalFractions_c A2 B2 A B c2 d2 c d _ _ num den _ f2.rd g2.rd (hnW.drew.ex x2) (hdW.drew.ex x2)).mono ?_
           rintro e w3 ⟨rfl, x3⟩))
      all_goals go_wp2
      all_goals go_ret
      all_goals exact ⟨by rw [H.out]; rfl, (xx.drew.trans x2).trans x3⟩
end Go.Proofs.YtmekhjnhcgmphaaDoor
