/- Rational rows: the program's small steps on fractions. Rational rows that are turned in place: memory; ratAddTimes. -/
import Derived.Test.YtpeogfapnofeoaaGreatDoorFrB
import Derived.Test.YtpeogfapnofeoaaGreatDoorXS
import Derived.Deep.RegionLaw
namespace Go.Proofs.YtpeogfapnofeoaaGreatDoor
set_option maxRecDepth 100000
open Go Go.RowKit
theorem mulF_comm {p : Int} (hp : 0 < p) (x y : Fra) : mulF p x y = mulF p y x := by
  show lowF p _ _ = lowF p _ _
  rw [pmul_comm hp x.n, pmul_comm hp x.d]
theorem mulF_const {p : Int} {x : Fra} (hx : FV p x) : mulF p ⟨[p - 1], [1]⟩ x = negF p x := by
  have hp := hx.pos
  have h2 := fieldB_lo hx.f
  have hc : FV p ⟨[p - 1], [1]⟩ := FV.one_den hx.f ⟨by simp [allEl, elB]; omega, by
    show trim [p - 1] = [p - 1]
    have : p - 1 ≠ 0 := by omega
    simp [trim, this]⟩
  have h1 := Eqv.mul hc hx (Eqv.self p _) (Eqv.self p x)
  have e1 : pMul p (Fra.mk [p - 1] [1]).n x.n = pNeg p x.n := pneg_const h2 x.n
  have e2 : pMul p (Fra.mk [p - 1] [1]).d x.d = x.d := by rw [pmul_comm hp]; exact pmul_one h2 hx.d
  rw [e1, e2] at h1
  exact Eqv.uniq (hc.mul hx) hx.neg hx.d hx.d0 h1 (Eqv.self p (negF p x))
theorem lowF_len {p : Int} (hF : fieldB p = true) {N D : List Int} (hN : PN p N) (hD : PN p D) (h0 : D ≠ []) : (lowF p N D).n.length ≤ N.length ∧ (lowF p N D).d.length ≤ D.length := by
  obtain ⟨_, _, _, _, _, h1, h2, _⟩ := low_parts hF hN.e hD.e hN.t hD.t h0
  exact ⟨h1, h2⟩
/-- Numerator and denominator have at most L coefficients. -/
def FL (L : Nat) (x : Fra) : Prop := x.n.length ≤ L ∧ x.d.length ≤ L
theorem FL.mono {L M : Nat} {x : Fra} (h : FL L x) (hm : L ≤ M) : FL M x := ⟨Nat.le_trans h.1 hm, Nat.le_trans h.2 hm⟩
theorem pmul_le {p : Int} (hF : fieldB p = true) {f g : List Int} (hf : PN p f) (hg : PN p g) : (pMul p f g).length ≤ f.length + g.length := by
  by_cases h1 : f = []
  · rw [h1, pnil_mul]; simp
  by_cases h2 : g = []
  · rw [h2, pmul_nil]; simp
  rw [pMul_len hF hf.e hg.e hf.t hg.t h1 h2]; omega
theorem padd_le (p : Int) (f : List Int) (b : Int) (g : List Int) : (pAdd p f b g).length ≤ max f.length g.length := by
  refine Nat.le_trans (trim_le _) ?_
  rw [addAt_len, padTo_len (by omega)]
  omega
theorem FL.mul {p : Int} {x y : Fra} (hx : FV p x) (hy : FV p y) {L M : Nat} (h : FL L x) (k : FL M y) : FL (L + M) (mulF p x y) := by
  have hp := hx.pos
  obtain ⟨h1, h2⟩ := lowF_len hx.f (PN.mul hp x.n y.n) (PN.mul hp x.d y.d) (pmul_ne hx.f hx.d hy.d hx.d0 hy.d0)
  have a1 := pmul_le hx.f hx.n hy.n
  have a2 := pmul_le hx.f hx.d hy.d
  obtain ⟨q1, q2⟩ := h
  obtain ⟨q3, q4⟩ := k
  exact ⟨by show (lowF p _ _).n.length ≤ _; omega, by show (lowF p _ _).d.length ≤ _; omega⟩
theorem FL.add {p : Int} {x y : Fra} (hx : FV p x) (hy : FV p y) {L M : Nat} (h : FL L x) (k : FL M y) : FL (L + M) (addF p x y) := by
  have hp := hx.pos
  obtain ⟨h1, h2⟩ := lowF_len hx.f ((PN.mul hp x.n y.d).add hp 1 (pMul p y.n x.d)) (PN.mul hp x.d y.d) (pmul_ne hx.f hx.d hy.d hx.d0 hy.d0)
  have a1 := pmul_le hx.f hx.n hy.d
  have a2 := pmul_le hx.f hy.n hx.d
  have a3 := pmul_le hx.f hx.d hy.d
  have a4 := padd_le p (pMul p x.n y.d) 1 (pMul p y.n x.d)
  obtain ⟨q1, q2⟩ := h
  obtain ⟨q3, q4⟩ := k
  exact ⟨by show (lowF p _ _).n.length ≤ _; omega, by show (lowF p _ _).d.length ≤ _; omega⟩
theorem FL.inv {p : Int} {x : Fra} (hx : FV p x) (h0 : x.n ≠ []) {L : Nat} (h : FL L x) : FL L (invF p x) := by
  obtain ⟨h1, h2⟩ := lowF_len hx.f hx.d hx.n h0
  exact ⟨Nat.le_trans h1 h.2, Nat.le_trans h2 h.1⟩
theorem FL.neg {p : Int} {x : Fra} {L : Nat} (h : FL L x) : FL L (negF p x) := by
  refine ⟨?_, h.2⟩
  have := padd_le p [] (p - 1) x.n
  have h1 := h.1
  show (pAdd p [] (p - 1) x.n).length ≤ L
  simp at this
  omega
/-- A fresh fraction. -/
def FFx (w : World) (x : Fra) (e : Ending) (w' : World) : Prop := FF w x.n x.d e w'
set_option maxHeartbeats 1000000 in
theorem constK_c (a : Int) (ha : a ≠ 0) (w : World) : Calls Tryz.prog 76 #[.int .i64 a] w fun e w' => ∃ A c B d, e = .returned (.agg #[.slice A 1 c, .slice B 1 d]) ∧ Fr w' w.heap.size A c [a] ∧ Fr w' w.heap.size B d [1] ∧ Apart A B ∧ Ex w w' := by
  have hb : (a == 0) = false := by simpa using ha
  go_enter Tryz.func76, Tryz.ntmps76
  go_wp2_with fail
  have x1 := (Ex.refl w).alloc (.cells #[.slice (some ⟨w.heap.size + 1, 0, none⟩) 1 1, .slice (some ⟨w.heap.size + 1 + 1, 0, none⟩) 1 1] 58)
  have v1 := VB.new w 58 #[.slice (some ⟨w.heap.size + 1, 0, none⟩) 1 1, .slice (some ⟨w.heap.size + 1 + 1, 0, none⟩) 1 1]
  have s1 : (w.alloc (.cells #[.slice (some ⟨w.heap.size + 1, 0, none⟩) 1 1, .slice (some ⟨w.heap.size + 1 + 1, 0, none⟩) 1 1] 58)).heap.size = w.heap.size + 1 := by simp
  generalize w.alloc (.cells #[.slice (some ⟨w.heap.size + 1, 0, none⟩) 1 1, .slice (some ⟨w.heap.size + 1 + 1, 0, none⟩) 1 1] 58) = W1 at *
  have x2 := ((Ex.refl W1).alloc (iObj [a])).alloc (iObj [1])
  have o1 := (Own.new W1 [a]).ex ((Ex.refl (W1.alloc (iObj [a]))).alloc (iObj [1]))
  have o2 := Own.new (W1.alloc (iObj [a])) [1]
  have s2 : (W1.alloc (iObj [a])).heap.size = w.heap.size + 1 + 1 := by simp [s1]
  rw [s2] at o2
  rw [s1] at o1
  have v2 := v1.ex x2
  have d0 := v2.cell 0 (v := .slice (some ⟨w.heap.size + 1, 0, none⟩) 1 1) rfl
  have d1 := v2.cell 1 (v := .slice (some ⟨w.heap.size + 1 + 1, 0, none⟩) 1 1) rfl
  change bodyPost _ _ _ _ _ ((W1.alloc (iObj [a])).alloc (iObj [1]))
  generalize (W1.alloc (iObj [a])).alloc (iObj [1]) = W2 at *
  refine bodyPost_ret (v := .agg #[.slice (some ⟨w.heap.size + 1, 0, none⟩) 1 1, .slice (some ⟨w.heap.size + 1 + 1, 0, none⟩) 1 1]) (by simp [results, Tryz.results76, go_sem, d0, d1]) rfl ?_
  exact ⟨_, _, _, _, rfl, o1.fr (by simp) (by omega) (by simp), o2.fr (by simp) (by omega) (by simp), apart_ne (by omega), x1.trans x2⟩
set_option maxHeartbeats 2000000 in
theorem ratNegative_c (p : Int) (x : Fra) (A B : Option Addr) (c d : Nat) (w : World) (hx : FV p x) (hA : Rd w A x.n) (hB : Rd w B x.d) (h1 : x.n.length ≤ 137438953472) (h2 : x.d.length ≤ 137438953472) :
    Calls Tryz.prog 43 #[.int .i64 p, .agg #[.slice A x.n.length c, .slice B x.d.length d]] w fun e w' => FFx w (negF p x) e w' := by
  have g2 := fieldB_lo hx.f
  have g97 := fieldB_hi hx.f
  have HM := Lib.hid (mulF_const hx)
  have hc : FV p ⟨[p - 1], [1]⟩ := FV.one_den hx.f ⟨by simp [allEl, elB]; omega, by
    show trim [p - 1] = [p - 1]
    have : p - 1 ≠ 0 := by omega
    simp [trim, this]⟩
  have E1 := Lib.hid (hc.okb (by simp) (by simp))
  have E2 := Lib.hid (hx.okb (by omega) (by omega))
  clear hx hc
  obtain ⟨n, m⟩ := x
  dsimp only at hA hB h1 h2 HM E1 E2 ⊢
  have x0 := (Ex.refl w).alloc (.cells #[.slice A n.length c, .slice B m.length d] 58)
  have v0 := VB.new w 58 #[.slice A n.length c, .slice B m.length d]
  have s0 : (w.alloc (.cells #[.slice A n.length c, .slice B m.length d] 58)).heap.size = w.heap.size + 1 := by simp
  go_enter Tryz.func43, Tryz.ntmps43
  go_wp2_with fail
  generalize w.alloc (.cells #[.slice A n.length c, .slice B m.length d] 58) = W0 at *
  have x1 := (Ex.refl W0).alloc (.cells #[.slice none 0 0, .slice none 0 0] 58)
  have v1 := VB.new W0 58 #[.slice none 0 0, .slice none 0 0]
  have s1 : (W0.alloc (.cells #[.slice none 0 0, .slice none 0 0] 58)).heap.size = w.heap.size + 1 + 1 := by simp; exact s0
  rw [s0] at v1
  generalize W0.alloc (.cells #[.slice none 0 0, .slice none 0 0] 58) = W1 at *
  have v0 := v0.ex x1
  have xx := x0.trans x1
  clear x0 x1
  have q0 := v0.cell 0 (v := .slice A n.length c) rfl
  have q1 := v0.cell 1 (v := .slice B m.length d) rfl
  have hp1 : p - 1 ≠ 0 := by omega
  have hwr : IntKind.i64.wrap (p - 1) = p - 1 := IntWalk.i64_in _ (by omega)
  have HF : ∀ (A3 B3 : Option Addr) (c3 d3 : Nat) (W : World), Ex1 (w.heap.size + 1) W1 W → Rd W A3 [p - 1] → Rd W B3 [1] → Calls Tryz.prog 75 #[.int .i64 p, .agg #[.slice A3 1 c3, .slice B3 1 d3], .agg #[.slice A n.length c, .slice B m.length d]] W fun e w' => FF W (pNeg p n) m e w' := fun A3 B3 c3 d3 W h r1 r2 => by
    have := fractionMul_b p A3 B3 c3 d3 [p - 1] [1] A B c d n m W r1 r2 (hA.ex (xx.ex1 h (by omega))) (hB.ex (xx.ex1 h (by omega))) E1.out E2.out
    have e1 : lowN p (pMul p [p - 1] n) (pMul p [1] m) = pNeg p n := congrArg Fra.n HM.out
    have e2 : lowD p (pMul p [p - 1] n) (pMul p [1] m) = m := congrArg Fra.d HM.out
    rw [e1, e2] at this
    exact this
  have HS : ∀ W, Ex1 (w.heap.size + 1) W1 W → (Ex1 (w.heap.size + 1) W1 W ∧ W.cell? ⟨w.heap.size, 0, none⟩ = some (.slice A n.length c) ∧ W.cell? ⟨w.heap.size, 1, none⟩ = some (.slice B m.length d)) := fun W h => ⟨h, (v0.ex1 h (by omega)).cell 0 rfl, (v0.ex1 h (by omega)).cell 1 rfl⟩
  have eA := (Ex1.refl (w.heap.size + 1) W1).drew
  go_region_held3 (fun W => Ex1 (w.heap.size + 1) W1 W ∧ W.cell? ⟨w.heap.size, 0, none⟩ = some (.slice A n.length c) ∧ W.cell? ⟨w.heap.size, 1, none⟩ = some (.slice B m.length d)) (first
    | (exact HS _ ((e4.setCell rfl _).setCell rfl _)) | (exact HS _ e4) | (exact HS _ e3) | (exact HS _ eA) | (exact HS _ (Ex1.refl _ _))) (first
    | (go_at_call 76
       have hb := (‹Ex1 (w.heap.size + 1) W1 _ ∧ _›).1
       refine (constK_c (p - 1) hp1 _).mono ?_
       rintro e w3 ⟨A3, c3, B3, d3, rfl, f3, g3, ap3, x3⟩
       have e3 := hb.trans (Ex1.of_ex x3)
       have z3 := hb.size'
       clear hb)
    | (go_at_call 75
       refine (HF A3 B3 c3 d3 w3 e3 f3.rd g3.rd).mono ?_
       rintro e w4 ⟨A4, c4, B4, d4, rfl, f4, g4, ap4, x4⟩
       have e4 := e3.trans (Ex1.of_ex x4)
       have z4 := x3.size
       have v4 : VB w4 (w.heap.size + 1) 58 #[.slice none 0 0, .slice none 0 0] := by first | exact (v1.ex x3).ex x4 | exact (VB.ex (w := W1.drew) v1 x3).ex x4
       have r0 := v4.cell 0 (v := .slice none 0 0) rfl
       have r1 := v4.cell 1 (v := .slice none 0 0) rfl
       have k0 := v4.frozen 0
       have k1 := v4.frozen 1))
  all_goals
    have E5 : Ex1 (w.heap.size + 1) w4 ((w4.setCell ⟨w.heap.size + 1, 0, none⟩ (.slice A4 (pNeg p n).length c4)).setCell ⟨w.heap.size + 1, 1, none⟩ (.slice B4 m.length d4)) := ((Ex1.refl _ w4).setCell (p := ⟨w.heap.size + 1, 0, none⟩) rfl _).setCell (p := ⟨w.heap.size + 1, 1, none⟩) rfl _
    have v5 : VB ((w4.setCell ⟨w.heap.size + 1, 0, none⟩ (.slice A4 (pNeg p n).length c4)).setCell ⟨w.heap.size + 1, 1, none⟩ (.slice B4 m.length d4)) (w.heap.size + 1) 58 #[.slice A4 (pNeg p n).length c4, .slice B4 m.length d4] := (v4.set_ 0 _).set_ 1 _
    have D0 := v5.cell 0 (v := .slice A4 (pNeg p n).length c4) rfl
    have D1 := v5.cell 1 (v := .slice B4 m.length d4) rfl
    have yy : Ex w _ := (xx.ex1 e4 (by omega)).ex1 E5 (by omega)
    have zx := xx.size
    go_wp2_with fail
    refine bodyPost_ret (v := .agg #[.slice A4 (pNeg p n).length c4, .slice B4 m.length d4]) (by simp [results, Tryz.results43, go_sem, D0, D1]) rfl ?_
    exact ⟨A4, c4, B4, d4, rfl, (f4.ex1 E5 (f4.hi.off (by omega))).more (by omega), (g4.ex1 E5 (g4.hi.off (by omega))).more (by omega), ap4, yy⟩
set_option maxHeartbeats 2000000 in
theorem divided_c (p : Int) (x y : Fra) (A B : Option Addr) (c d : Nat) (A' B' : Option Addr) (c' d' : Nat) (w : World) (hx : FV p x) (hy : FV p y) (hA : Rd w A x.n) (hB : Rd w B x.d) (hA' : Rd w A' y.n) (hB' : Rd w B' y.d) (hy0 : y.n ≠ []) (h1 : FL 137438953472 x) (h2 : FL 137438953472 y) :
    Calls Tryz.prog 140 #[.int .i64 p, .agg #[.slice A x.n.length c, .slice B x.d.length d], .agg #[.slice A' y.n.length c', .slice B' y.d.length d']] w fun e w' => FFx w (mulF p (invF p y) x) e w' := by
  have hi := hy.inv hy0
  have hil := h2.inv hy hy0
  have HM := Lib.hid (mulF_comm hx.pos x (invF p y))
  have E1 := Lib.hid (hx.okb (by have := h1.1; omega) (by have := h1.2; omega))
  have E2 := Lib.hid (hi.okb (by have := hil.1; omega) (by have := hil.2; omega))
  have E3 := Lib.hid hy
  have Hy0 := Lib.hid hy0
  have hb : decide (y.n = []) = false := by simpa using hy0
  have hyl := hA'.len
  clear hx hy hi hil h1 h2 hy0
  obtain ⟨n, m⟩ := x
  obtain ⟨n', m'⟩ := y
  dsimp only at hA hB hA' hB' HM E1 E2 E3 Hy0 hb hyl ⊢
  have x0 := (Ex.refl w).alloc (.cells #[.slice A n.length c, .slice B m.length d] 58)
  have v0 := VB.new w 58 #[.slice A n.length c, .slice B m.length d]
  have s0 : (w.alloc (.cells #[.slice A n.length c, .slice B m.length d] 58)).heap.size = w.heap.size + 1 := by simp
  go_enter Tryz.func140, Tryz.ntmps140
  go_wp2_with fail
  generalize w.alloc (.cells #[.slice A n.length c, .slice B m.length d] 58) = W0 at *
  have x1 := (Ex.refl W0).alloc (.cells #[.slice A' n'.length c', .slice B' m'.length d'] 58)
  have v1 := VB.new W0 58 #[.slice A' n'.length c', .slice B' m'.length d']
  have s1 : (W0.alloc (.cells #[.slice A' n'.length c', .slice B' m'.length d'] 58)).heap.size = w.heap.size + 1 + 1 := by simp; exact s0
  rw [s0] at v1
  generalize W0.alloc (.cells #[.slice A' n'.length c', .slice B' m'.length d'] 58) = W1 at *
  have x2 := (Ex.refl W1).alloc (.cells #[.slice none 0 0, .slice none 0 0] 58)
  have v2 := VB.new W1 58 #[.slice none 0 0, .slice none 0 0]
  have s2 : (W1.alloc (.cells #[.slice none 0 0, .slice none 0 0] 58)).heap.size = w.heap.size + 1 + 1 + 1 := by simp; exact s1
  rw [s1] at v2
  generalize W1.alloc (.cells #[.slice none 0 0, .slice none 0 0] 58) = W2 at *
  have v1 := v1.ex x2
  have v0 := (v0.ex x1).ex x2
  have xx := (x0.trans x1).trans x2
  clear x0 x1 x2
  have hno := isNought_c A' B' c' d' n' m' W2 hyl
  rw [hb] at hno
  have q2 := v1.cell 0 (v := .slice A' n'.length c') rfl
  have q3 := v1.cell 1 (v := .slice B' m'.length d') rfl
  refine hno.mono ?_
  rintro e w3 ⟨rfl, x3⟩
  have v0 := v0.ex x3
  have v1 := v1.ex x3
  have v2 := v2.ex x3
  have z3 := x3.size
  have xx := xx.trans x3
  clear q2 q3 hno hb
  go_wp2_with fail
  have HI : ∀ W, Ex1 (w.heap.size + 1 + 1) w3 W → Calls Tryz.prog 154 #[.int .i64 p, .agg #[.slice A' n'.length c', .slice B' m'.length d']] W fun e w' => FF W (lowN p m' n') (lowD p m' n') e w' := fun W h => fractionInverse_c p A' B' c' d' n' m' W (hA'.ex (xx.ex1 h (by omega))) (hB'.ex (xx.ex1 h (by omega))) E3.out.f E3.out.n.e E3.out.d.e E3.out.n.t E3.out.d.t Hy0.out
  have HF : ∀ (A3 B3 : Option Addr) (c3 d3 : Nat) (W : World), Ex1 (w.heap.size + 1 + 1) w3 W → Rd W A3 (lowN p m' n') → Rd W B3 (lowD p m' n') → Calls Tryz.prog 75 #[.int .i64 p, .agg #[.slice A n.length c, .slice B m.length d], .agg #[.slice A3 (lowN p m' n').length c3, .slice B3 (lowD p m' n').length d3]] W fun e w' => FFx W (mulF p (invF p ⟨n', m'⟩) ⟨n, m⟩) e w' := fun A3 B3 c3 d3 W h r1 r2 => by
    have := fractionMul_b p A B c d n m A3 B3 c3 d3 (lowN p m' n') (lowD p m' n') W (hA.ex (xx.ex1 h (by omega))) (hB.ex (xx.ex1 h (by omega))) r1 r2 E1.out E2.out
    rw [← HM.out]
    exact this
  generalize lowN p m' n' = in1 at *
  generalize lowD p m' n' = id1 at *
  obtain ⟨res, hres⟩ : ∃ r, mulF p (invF p ⟨n', m'⟩) ⟨n, m⟩ = r := ⟨_, rfl⟩
  rw [hres] at HF
  have HR := Lib.hid hres
  clear hres
  have q0 := v0.cell 0 (v := .slice A n.length c) rfl
  have q1 := v0.cell 1 (v := .slice B m.length d) rfl
  have q2 := v1.cell 0 (v := .slice A' n'.length c') rfl
  have q3 := v1.cell 1 (v := .slice B' m'.length d') rfl
  have HS : ∀ W, Ex1 (w.heap.size + 1 + 1) w3 W → (Ex1 (w.heap.size + 1 + 1) w3 W ∧ W.cell? ⟨w.heap.size, 0, none⟩ = some (.slice A n.length c) ∧ W.cell? ⟨w.heap.size, 1, none⟩ = some (.slice B m.length d) ∧ W.cell? ⟨w.heap.size + 1, 0, none⟩ = some (.slice A' n'.length c') ∧ W.cell? ⟨w.heap.size + 1, 1, none⟩ = some (.slice B' m'.length d')) := fun W h => ⟨h, (v0.ex1 h (by omega)).cell 0 rfl, (v0.ex1 h (by omega)).cell 1 rfl, (v1.ex1 h (by omega)).cell 0 rfl, (v1.ex1 h (by omega)).cell 1 rfl⟩
  have eA := (Ex1.refl (w.heap.size + 1 + 1) w3).drew
  clear HM E1 E2 E3
  go_region_held3 (fun W => Ex1 (w.heap.size + 1 + 1) w3 W ∧ W.cell? ⟨w.heap.size, 0, none⟩ = some (.slice A n.length c) ∧ W.cell? ⟨w.heap.size, 1, none⟩ = some (.slice B m.length d) ∧ W.cell? ⟨w.heap.size + 1, 0, none⟩ = some (.slice A' n'.length c') ∧ W.cell? ⟨w.heap.size + 1, 1, none⟩ = some (.slice B' m'.length d')) (first
    | (exact HS _ ((e5.setCell rfl _).setCell rfl _)) | (exact HS _ e5) | (exact HS _ e4) | (exact HS _ eA) | (exact HS _ (Ex1.refl _ _))) (first
    | (go_at_call 154
       have hb := (‹Ex1 (w.heap.size + 1 + 1) w3 _ ∧ _›).1
       refine (HI _ hb).mono ?_
       rintro e w4 ⟨A4, c4, B4, d4, rfl, f4, g4, ap4, x4⟩
       have e4 := hb.trans (Ex1.of_ex x4)
       have z4 := hb.size'
       clear hb)
    | (go_at_call 75
       refine (HF A4 B4 c4 d4 w4 e4 f4.rd g4.rd).mono ?_
       rintro e w5 ⟨A5, c5, B5, d5, rfl, f5, g5, ap5, x5⟩
       have e5 := e4.trans (Ex1.of_ex x5)
       have z5 := x4.size
       have v5 : VB w5 (w.heap.size + 1 + 1) 58 #[.slice none 0 0, .slice none 0 0] := by first | exact (v2.ex x4).ex x5 | exact (VB.ex (w := w3.drew) v2 x4).ex x5
       have r0 := v5.cell 0 (v := .slice none 0 0) rfl
       have r1 := v5.cell 1 (v := .slice none 0 0) rfl
       have k0 := v5.frozen 0
       have k1 := v5.frozen 1))
  all_goals
    have E6 : Ex1 (w.heap.size + 1 + 1) w5 ((w5.setCell ⟨w.heap.size + 1 + 1, 0, none⟩ (.slice A5 res.n.length c5)).setCell ⟨w.heap.size + 1 + 1, 1, none⟩ (.slice B5 res.d.length d5)) := ((Ex1.refl _ w5).setCell (p := ⟨w.heap.size + 1 + 1, 0, none⟩) rfl _).setCell (p := ⟨w.heap.size + 1 + 1, 1, none⟩) rfl _
    have v6 : VB ((w5.setCell ⟨w.heap.size + 1 + 1, 0, none⟩ (.slice A5 res.n.length c5)).setCell ⟨w.heap.size + 1 + 1, 1, none⟩ (.slice B5 res.d.length d5)) (w.heap.size + 1 + 1) 58 #[.slice A5 res.n.length c5, .slice B5 res.d.length d5] := (v5.set_ 0 _).set_ 1 _
    have D0 := v6.cell 0 (v := .slice A5 res.n.length c5) rfl
    have D1 := v6.cell 1 (v := .slice B5 res.d.length d5) rfl
    have yy : Ex w _ := (xx.ex1 e5 (by omega)).ex1 E6 (by omega)
    have zx := xx.size
    go_wp2_with fail
    refine bodyPost_ret (v := .agg #[.slice A5 res.n.length c5, .slice B5 res.d.length d5]) (by simp [results, Tryz.results140, go_sem, D0, D1]) rfl ?_
    rw [HR.out]
    exact ⟨A5, c5, B5, d5, rfl, (f5.ex1 E6 (f5.hi.off (by omega))).more (by omega), (g5.ex1 E6 (g5.hi.off (by omega))).more (by omega), ap5, yy⟩
end Go.Proofs.YtpeogfapnofeoaaGreatDoor
namespace Go.Proofs.YtpeogfapnofeoaaGreatDoor
set_option maxRecDepth 100000
open Go Go.RowKit
theorem Rd.sx_k {w w' : World} {S : Nat → Prop} {A : Option Addr} {xs : List Int} (h : Rd w A xs) (k : ExS S w w') (hd : xs ≠ [] → ∀ a, A = some a → ¬ S a.block) : Rd w' A xs := by
  by_cases hx : xs = []
  · subst hx; exact Rd.nil _ _
  · exact h.keep fun a e hl => k.block _ hl (hd hx a e)
/-- It reads as l, in none of the blocks of S. -/
def RX (w : World) (S : Nat → Prop) (A : Option Addr) (l : List Int) : Prop := Rd w A l ∧ (l ≠ [] → ∀ a, A = some a → ¬ S a.block)
theorem RX.sx {w w' : World} {S T : Nat → Prop} {A : Option Addr} {l : List Int} (h : RX w S A l) (k : ExS T w w') (hT : ∀ i, T i → S i) : RX w' S A l := ⟨h.1.sx_k k fun hn a e ht => h.2 hn a e (hT _ ht), h.2⟩
theorem RX.ex {w w' : World} {S : Nat → Prop} {A : Option Addr} {l : List Int} (h : RX w S A l) (k : Ex w w') : RX w' S A l := ⟨h.1.ex k, h.2⟩
theorem Fr.rx {w : World} {B : Nat} {A : Option Addr} {c : Nat} {l : List Int} (h : Fr w B A c l) {S : Nat → Prop} (hS : ∀ k, S k → k < B) : RX w S A l := ⟨h.rd, fun _ a e hs => by have := h.hi a e; have := hS _ hs; omega⟩
/-- Block b holds the row xs of fractions; their numbers lie in none of the blocks of S. -/
def FBk (w : World) (S : Nat → Prop) (b : Nat) (xs : List Fra) : Prop :=
  ∃ cur : Array Value, w.heap[b]? = some (.cells cur 58 (0, 0)) ∧ ∀ (i : Nat) (x : Fra), xs[i]? = some x → ∃ A c B d, cur[i * 2]? = some (.slice A x.n.length c) ∧ cur[i * 2 + 1]? = some (.slice B x.d.length d) ∧ RX w S A x.n ∧ RX w S B x.d
theorem FBk.lt {w : World} {S : Nat → Prop} {b : Nat} {xs : List Fra} (h : FBk w S b xs) : b < w.heap.size := by obtain ⟨_, h, _⟩ := h; exact heap_lt_of h
theorem FBk.at_ {w : World} {S : Nat → Prop} {b : Nat} {xs : List Fra} (h : FBk w S b xs) {i : Nat} {x : Fra} (hi : xs[i]? = some x) :
    ∃ A c B d, w.cell? ⟨b, i * 2, none⟩ = some (.slice A x.n.length c) ∧ w.cell? ⟨b, i * 2 + 1, none⟩ = some (.slice B x.d.length d) ∧ RX w S A x.n ∧ RX w S B x.d := by
  obtain ⟨cur, hc, hx⟩ := h
  obtain ⟨A, c, B, d, h1, h2, h3, h4⟩ := hx i x hi
  exact ⟨A, c, B, d, by simp [World.cell?, hc, h1], by simp [World.cell?, hc, h2], h3, h4⟩
theorem FBk.frozen {w : World} {S : Nat → Prop} {b : Nat} {xs : List Fra} (h : FBk w S b xs) (i : Nat) : w.frozen? ⟨b, i, none⟩ = false := by
  obtain ⟨cur, hc, _⟩ := h
  simp [World.frozen?, hc]
theorem FBk.sx {w w' : World} {S T : Nat → Prop} {b : Nat} {xs : List Fra} (h : FBk w S b xs) (k : ExS T w w') (hT : ∀ i, T i → S i) (hb : ¬ T b) : FBk w' S b xs := by
  have hl := h.lt
  obtain ⟨cur, hc, hx⟩ := h
  refine ⟨cur, (k.block b hl hb).trans hc, fun i x hi => ?_⟩
  obtain ⟨A, c, B, d, h1, h2, h3, h4⟩ := hx i x hi
  exact ⟨A, c, B, d, h1, h2, h3.sx k hT, h4.sx k hT⟩
theorem FBk.ex {w w' : World} {S : Nat → Prop} {b : Nat} {xs : List Fra} (h : FBk w S b xs) (k : Ex w w') : FBk w' S b xs := h.sx (ExS.of_ex (S := fun _ => False) k) (fun _ h => h.elim) id
theorem FBk.put {w : World} {S : Nat → Prop} {b : Nat} {xs : List Fra} (h : FBk w S b xs) (hb : S b) (i : Nat) (x : Fra) {A B : Option Addr} {c d : Nat} (hA : RX w S A x.n) (hB : RX w S B x.d) :
    FBk ((w.setCell ⟨b, i * 2, none⟩ (.slice A x.n.length c)).setCell ⟨b, i * 2 + 1, none⟩ (.slice B x.d.length d)) S b (xs.set i x) := by
  have k : ExS (fun z => z = b) w ((w.setCell ⟨b, i * 2, none⟩ (.slice A x.n.length c)).setCell ⟨b, i * 2 + 1, none⟩ (.slice B x.d.length d)) :=
    ExS.of_ex1 (((Ex1.refl b w).setCell (p := ⟨b, i * 2, none⟩) rfl _).setCell (p := ⟨b, i * 2 + 1, none⟩) rfl _) rfl
  have hT : ∀ z, z = b → S z := fun z e => e ▸ hb
  obtain ⟨cur, hc, hx⟩ := h
  refine ⟨(cur.setIfInBounds (i * 2) (.slice A x.n.length c)).setIfInBounds (i * 2 + 1) (.slice B x.d.length d), by simp [World.setCell, Array.getElem?_modify, hc], fun j y hj => ?_⟩
  rw [List.getElem?_set] at hj
  split at hj
  · rename_i e
    subst e
    split at hj
    · rename_i hl
      injection hj with hj
      subst hj
      obtain ⟨A', c', B', d', h1, h2, _⟩ := hx i _ (List.getElem?_eq_getElem hl)
      have l1 : i * 2 < cur.size := (Array.getElem?_eq_some_iff.1 h1).1
      have l2 : i * 2 + 1 < cur.size := (Array.getElem?_eq_some_iff.1 h2).1
      refine ⟨A, c, B, d, ?_, ?_, hA.sx k hT, hB.sx k hT⟩
      · rw [Array.getElem?_setIfInBounds, if_neg (by omega), Array.getElem?_setIfInBounds, if_pos rfl, if_pos l1]
      · rw [Array.getElem?_setIfInBounds, if_pos rfl, if_pos (by simpa using l2)]
    · cases hj
  · rename_i e
    obtain ⟨A', c', B', d', h1, h2, h3, h4⟩ := hx j y hj
    refine ⟨A', c', B', d', ?_, ?_, h3.sx k hT, h4.sx k hT⟩
    · rw [Array.getElem?_setIfInBounds, if_neg (by omega), Array.getElem?_setIfInBounds, if_neg (by omega)]; exact h1
    · rw [Array.getElem?_setIfInBounds, if_neg (by omega), Array.getElem?_setIfInBounds, if_neg (by omega)]; exact h2
/-- The numbers that lie in the cells of R are owned: each block of ints is whole, unfrozen, none of S, and told apart from all the others. -/
def Ow (w : World) (S : Nat → Prop) (R : Nat → Nat → Prop) : Prop :=
  ∀ (b o : Nat) (a : Addr) (n c : Nat), R b o → w.cell? ⟨b, o, none⟩ = some (.slice (some a) n c) →
    (¬ S a.block ∧ n ≤ c ∧ ∃ cur, w.heap[a.block]? = some (.cells cur 3 (0, 0))) ∧
      ∀ (b' o' : Nat) (a' : Addr) (n' c' : Nat), R b' o' → w.cell? ⟨b', o', none⟩ = some (.slice (some a') n' c') → a'.block = a.block → b' = b ∧ o' = o
theorem Ow.sx {w w' : World} {S T : Nat → Prop} {R : Nat → Nat → Prop} (h : Ow w S R) (hR : ∀ b o, R b o → b < w.heap.size) (k : ExS T w w') (hTS : ∀ i, T i → S i) (hTR : ∀ i o, T i → ¬ R i o) : Ow w' S R := by
  have hc : ∀ (b o : Nat), R b o → w'.cell? ⟨b, o, none⟩ = w.cell? ⟨b, o, none⟩ := fun b o hb =>
    World.cell?_of_block (w := w) (a := ⟨b, o, none⟩) (k.block b (hR b o hb) (fun ht => hTR b o ht hb))
  intro b o a n c hb he
  rw [hc b o hb] at he
  obtain ⟨⟨h1, h2, cur, h3⟩, h4⟩ := h b o a n c hb he
  refine ⟨⟨h1, h2, cur, (k.block _ (heap_lt_of h3) (fun ht => h1 (hTS _ ht))).trans h3⟩, fun b' o' a' n' c' hb' he' e => ?_⟩
  rw [hc b' o' hb'] at he'
  exact h4 b' o' a' n' c' hb' he' e
theorem Ow.put2 {w w1 : World} {S : Nat → Prop} {R : Nat → Nat → Prop} {b i : Nat} {l m : List Int} {A B : Option Addr} {c d : Nat} (h : Ow w S R) (hR : ∀ z o, R z o → z < w.heap.size) (hS : ∀ z, S z → z < w.heap.size) (he : Ex w w1)
    (hA : Fr w1 w.heap.size A c l) (hB : Fr w1 w.heap.size B d m) (hAB : Apart A B) (hbS : S b) {u v : Value} (c0 : w1.cell? ⟨b, i * 2, none⟩ = some u) (c1 : w1.cell? ⟨b, i * 2 + 1, none⟩ = some v) :
    Ow ((w1.setCell ⟨b, i * 2, none⟩ (.slice A l.length c)).setCell ⟨b, i * 2 + 1, none⟩ (.slice B m.length d)) S R := by
  have h1 : Ow w1 S R := h.sx hR (ExS.of_ex (S := fun _ => False) he) (fun _ h => h.elim) (fun _ _ h => h.elim)
  have k : ExS (fun z => z = b) w1 ((w1.setCell ⟨b, i * 2, none⟩ (.slice A l.length c)).setCell ⟨b, i * 2 + 1, none⟩ (.slice B m.length d)) :=
    ExS.of_ex1 (((Ex1.refl b w1).setCell (p := ⟨b, i * 2, none⟩) rfl _).setCell (p := ⟨b, i * 2 + 1, none⟩) rfl _) rfl
  have old : ∀ (b' o' : Nat) (a : Addr) (n cc : Nat), R b' o' → w1.cell? ⟨b', o', none⟩ = some (.slice (some a) n cc) → a.block < w.heap.size := fun b' o' a n cc hb' e => by
    rw [World.cell?_of_block (w := w) (a := ⟨b', o', none⟩) (he.block (hR b' o' hb'))] at e
    obtain ⟨⟨_, _, cur, h3⟩, _⟩ := h b' o' a n cc hb' e
    exact heap_lt_of h3
  obtain ⟨w2, hw2⟩ : ∃ W, (w1.setCell ⟨b, i * 2, none⟩ (.slice A l.length c)).setCell ⟨b, i * 2 + 1, none⟩ (.slice B m.length d) = W := ⟨_, rfl⟩
  have at0 : w2.cell? ⟨b, i * 2, none⟩ = some (.slice A l.length c) := by
    rw [← hw2, World.cell?_setCell_other _ _ _ _ (by intro e; injection e; omega), World.cell?_setCell_same _ _ _ c0]
  have at1 : w2.cell? ⟨b, i * 2 + 1, none⟩ = some (.slice B m.length d) := by
    have c2 : (w1.setCell ⟨b, i * 2, none⟩ (.slice A l.length c)).cell? ⟨b, i * 2 + 1, none⟩ = some v := by
      rw [World.cell?_setCell_other _ _ _ _ (by intro e; injection e; omega)]; exact c1
    rw [← hw2]
    exact World.cell?_setCell_same _ _ _ c2
  have atn : ∀ (b' o' : Nat), ¬ (b' = b ∧ o' = i * 2) → ¬ (b' = b ∧ o' = i * 2 + 1) → w2.cell? ⟨b', o', none⟩ = w1.cell? ⟨b', o', none⟩ := fun b' o' n0 n1 => by
    rw [← hw2, World.cell?_setCell_other _ _ _ _ (by intro e; injection e with e1 e2; exact n1 ⟨e1.symm, e2.symm⟩), World.cell?_setCell_other _ _ _ _ (by intro e; injection e with e1 e2; exact n0 ⟨e1.symm, e2.symm⟩)]
  rw [hw2] at k ⊢
  have kind : ∀ (b' o' : Nat) (a : Addr) (n cc : Nat), R b' o' → w2.cell? ⟨b', o', none⟩ = some (.slice (some a) n cc) →
      ((b' = b ∧ o' = i * 2 ∧ A = some a ∧ n = l.length ∧ cc = c) ∨ (b' = b ∧ o' = i * 2 + 1 ∧ B = some a ∧ n = m.length ∧ cc = d)) ∨ (w1.cell? ⟨b', o', none⟩ = some (.slice (some a) n cc) ∧ a.block < w.heap.size) := fun b' o' a n cc hb' e => by
    by_cases n0 : b' = b ∧ o' = i * 2
    · obtain ⟨rfl, rfl⟩ := n0
      rw [at0] at e
      injection e with e
      injection e with e1 e2 e3
      exact .inl (.inl ⟨rfl, rfl, e1, e2.symm, e3.symm⟩)
    by_cases n1 : b' = b ∧ o' = i * 2 + 1
    · obtain ⟨rfl, rfl⟩ := n1
      rw [at1] at e
      injection e with e
      injection e with e1 e2 e3
      exact .inl (.inr ⟨rfl, rfl, e1, e2.symm, e3.symm⟩)
    rw [atn b' o' n0 n1] at e
    exact .inr ⟨e, old b' o' a n cc hb' e⟩
  have fresh : ∀ {C : Option Addr} {cc : Nat} {q : List Int} {a : Addr}, Fr w1 w.heap.size C cc q → C = some a → ¬ S a.block ∧ w.heap.size ≤ a.block ∧ q.length ≤ cc ∧ ∃ cur, w2.heap[a.block]? = some (.cells cur 3 (0, 0)) := fun {C cc q a} hC e => by
    obtain ⟨g1, cur, g2⟩ := hC.2.2 a e
    refine ⟨fun hs => by have := hS _ hs; omega, g1, hC.cap, cur, (k.block _ (heap_lt_of g2) (fun e2 => ?_)).trans g2⟩
    have := hS b hbS
    omega
  intro b' o' a n cc hb' e
  rcases kind b' o' a n cc hb' e with (⟨rfl, rfl, e1, rfl, rfl⟩ | ⟨rfl, rfl, e1, rfl, rfl⟩) | ⟨e1, hl⟩
  · obtain ⟨f1, f2, f3, f4⟩ := fresh hA e1
    refine ⟨⟨f1, f3, f4⟩, fun b2 o2 a2 n2 c2 hb2 e2 ea => ?_⟩
    rcases kind b2 o2 a2 n2 c2 hb2 e2 with (⟨rfl, rfl, _⟩ | ⟨rfl, rfl, q1, _⟩) | ⟨_, hl2⟩
    · exact ⟨rfl, rfl⟩
    · exact absurd ea.symm (hAB a a2 e1 q1)
    · omega
  · obtain ⟨f1, f2, f3, f4⟩ := fresh hB e1
    refine ⟨⟨f1, f3, f4⟩, fun b2 o2 a2 n2 c2 hb2 e2 ea => ?_⟩
    rcases kind b2 o2 a2 n2 c2 hb2 e2 with (⟨rfl, rfl, q1, _⟩ | ⟨rfl, rfl, _⟩) | ⟨_, hl2⟩
    · exact absurd ea (hAB a2 a q1 e1)
    · exact ⟨rfl, rfl⟩
    · omega
  · obtain ⟨⟨f1, f2, cur, f3⟩, f4⟩ := h1 b' o' a n cc hb' e1
    refine ⟨⟨f1, f2, cur, (k.block _ (heap_lt_of f3) (fun e2 => f1 (e2 ▸ hbS))).trans f3⟩, fun b2 o2 a2 n2 c2 hb2 e2 ea => ?_⟩
    rcases kind b2 o2 a2 n2 c2 hb2 e2 with (⟨rfl, rfl, q1, _⟩ | ⟨rfl, rfl, q1, _⟩) | ⟨e3, hl2⟩
    · have := (fresh hA q1).2.1; omega
    · have := (fresh hB q1).2.1; omega
    · exact f4 b2 o2 a2 n2 c2 hb2 e3 ea
/-- From w to w' what is owned through block b stays owned. -/
def OwK (S : Nat → Prop) (b : Nat) (w w' : World) : Prop := w.heap.size ≤ w'.heap.size ∧ (S b → ∀ (S' : Nat → Prop) (R : Nat → Nat → Prop), (∀ z, S z → S' z) → (∀ z o, R z o → S' z) → (∀ z, S' z → z < w.heap.size) → Ow w S' R → Ow w' S' R)
theorem OwK.refl (S : Nat → Prop) (b : Nat) (w : World) : OwK S b w w := ⟨Nat.le_refl _, fun _ _ _ _ _ _ h => h⟩
theorem OwK.trans {S : Nat → Prop} {b : Nat} {u v w : World} (h : OwK S b u v) (k : OwK S b v w) : OwK S b u w :=
  ⟨Nat.le_trans h.1 k.1, fun hb S' R h1 h2 h3 h4 => k.2 hb S' R h1 h2 (fun z hz => Nat.lt_of_lt_of_le (h3 z hz) h.1) (h.2 hb S' R h1 h2 h3 h4)⟩
theorem OwK.of_ex {S : Nat → Prop} {b : Nat} {v w : World} (h : Ex v w) : OwK S b v w :=
  ⟨h.size, fun _ _ _ _ h2 h3 h4 => h4.sx (fun z o hz => h3 z (h2 z o hz)) (ExS.of_ex (S := fun _ => False) h) (fun _ h => h.elim) (fun _ _ h => h.elim)⟩
theorem OwK.put2 {w w1 : World} {S : Nat → Prop} {b i : Nat} {l m : List Int} {A B : Option Addr} {c d : Nat} (he : Ex w w1)
    (hA : Fr w1 w.heap.size A c l) (hB : Fr w1 w.heap.size B d m) (hAB : Apart A B) (hbS : S b) {u v : Value} (c0 : w1.cell? ⟨b, i * 2, none⟩ = some u) (c1 : w1.cell? ⟨b, i * 2 + 1, none⟩ = some v) :
    OwK S b w ((w1.setCell ⟨b, i * 2, none⟩ (.slice A l.length c)).setCell ⟨b, i * 2 + 1, none⟩ (.slice B m.length d)) :=
  ⟨by simpa [World.setCell] using he.size, fun _ S' R h1 h2 h3 h4 => h4.put2 (fun z o hz => h3 z (h2 z o hz)) h3 he hA hB hAB (h1 b hbS) c0 c1⟩
/-- A list with a multiple of another one added, by steps. -/
def addR1 (p : Int) (k v x : Fra) : Fra := if iszF x = true then v else addF p v (mulF p k x)
def addRw (p : Int) (vs : List Fra) (k : Fra) (ws : List Fra) : List Fra := List.zipWith (addR1 p k) vs ws
def addTm (p : Int) (vs : List Fra) (k : Fra) (ws : List Fra) : List Fra := if iszF k = true then vs else addRw p vs k ws
theorem mix_set {α : Type} (R vs : List α) (hl : R.length = vs.length) (i : Nat) (x : α) (hx : R[i]? = some x) : (R.take i ++ vs.drop i).set i x = R.take (i + 1) ++ vs.drop (i + 1) := by
  have hi := (List.getElem?_eq_some_iff.1 hx).1
  rw [List.set_append, if_neg (by rw [List.length_take]; omega), List.take_add_one, hx]
  have : i - (R.take i).length = 0 := by rw [List.length_take]; omega
  rw [this, List.append_assoc]
  congr 1
  rw [List.drop_eq_getElem_cons (by omega : i < vs.length)]
  rfl
theorem mix_same {α : Type} (R vs : List α) (hl : R.length = vs.length) (i : Nat) (x : α) (hx : R[i]? = some x) (hv : vs[i]? = some x) : R.take i ++ vs.drop i = R.take (i + 1) ++ vs.drop (i + 1) := by
  have hi := (List.getElem?_eq_some_iff.1 hx).1
  rw [List.take_add_one, hx, List.drop_eq_getElem_cons (by omega : i < vs.length)]
  have : vs[i]'(by omega) = x := by rw [List.getElem?_eq_getElem (by omega)] at hv; injection hv
  rw [this]
  simp
theorem mix_at {α : Type} (R vs : List α) (hl : R.length = vs.length) (i : Nat) (hi : i < vs.length) : (R.take i ++ vs.drop i)[i]? = vs[i]? := by
  rw [List.getElem?_append_right (by rw [List.length_take]; omega), List.length_take, List.getElem?_drop]
  congr 1; omega
set_option maxHeartbeats 4000000 in
theorem ratAddTimes_c (p : Int) (S : Nat → Prop) (b b' : Nat) (vs ws : List Fra) (k : Fra) (A B : Option Addr) (c d c1 c2 : Nat) (w : World) (hS : ∀ z, S z → z < w.heap.size) (hb : S b) (_ : S b') (hne : b ≠ b') (hv : FBk w S b vs) (hw : FBk w S b' ws) (hl : vs.length = ws.length) (hA : RX w S A k.n) (hB : RX w S B k.d)
    (hvv : ∀ x ∈ vs, FV p x ∧ FL 137438953472 x) (hww : ∀ x ∈ ws, FV p x ∧ FL 68719476736 x) (hk : FV p k) (hkl : FL 68719476736 k) (hn : ws.length ≤ 1000) :
    Calls Tryz.prog 42 #[.int .i64 p, .slice (some ⟨b, 0, none⟩) vs.length c1, .agg #[.slice A k.n.length c, .slice B k.d.length d], .slice (some ⟨b', 0, none⟩) ws.length c2] w fun e w' => e = .returned (.tuple #[]) ∧ FBk w' S b (addTm p vs k ws) ∧ ExS (fun z => z = b) w w' ∧ OwK S b w w' := by
  have Hvv := Lib.hid hvv
  have Hww := Lib.hid hww
  have HK := Lib.hid hk
  have HKL := Lib.hid hkl
  have Hl := Lib.hid hl
  have hknl := hA.1.len
  have x0 := (Ex.refl w).alloc (.cells #[.slice A k.n.length c, .slice B k.d.length d] 58)
  have v0 := VB.new w 58 #[.slice A k.n.length c, .slice B k.d.length d]
  have s0 : (w.alloc (.cells #[.slice A k.n.length c, .slice B k.d.length d] 58)).heap.size = w.heap.size + 1 := by simp
  have HB : ∀ z, S z → z < w.heap.size := hS
  have hbl := hS b hb
  clear hvv hww hk hkl hl
  go_enter Tryz.func42, Tryz.ntmps42
  go_wp2_with fail
  generalize w.alloc (.cells #[.slice A k.n.length c, .slice B k.d.length d] 58) = W0 at *
  refine (isNought_c A B c d k.n k.d W0 hknl).mono ?_
  rintro e w1 ⟨rfl, x1⟩
  have v0 := v0.ex x1
  have xx := x0.trans x1
  have z1 := x1.size
  by_cases hz : k.n = []
  · rw [decide_eq_true hz]
    have HT := Lib.hid (show addTm p vs k ws = vs from if_pos (iszF_iff.2 hz))
    clear hz
    go_wp2_with fail
    first | rw [Exit.noGoto_ret] | skip
    refine bodyPost_ret (results_none rfl _ _ _) rfl ?_
    rw [HT.out]
    exact ⟨rfl, hv.ex xx, ExS.of_ex xx, OwK.of_ex xx⟩
  · rw [decide_eq_false hz]
    have HT := Lib.hid (show addTm p vs k ws = addRw p vs k ws from if_neg (fun h => hz (iszF_iff.1 h)))
    have hRl : (addRw p vs k ws).length = vs.length := by rw [addRw, List.length_zipWith, ← Hl.out]; omega
    have hRat : ∀ (i : Nat) (v x : Fra), vs[i]? = some v → ws[i]? = some x → (addRw p vs k ws)[i]? = some (addR1 p k v x) := fun i v x h1 h2 => by rw [addRw, List.getElem?_zipWith, h1, h2]
    have HRl := Lib.hid hRl
    have HRat := Lib.hid hRat
    clear hz hRl hRat
    generalize addRw p vs k ws = R at *
    go_wp2_with fail
    go_loopw [14] (fun i wi => ∃ j : Nat, j ≤ ws.length ∧ i = .int .i64 j ∧ FBk wi S b (R.take j ++ vs.drop j) ∧ VB wi w.heap.size 58 #[.slice A k.n.length c, .slice B k.d.length d] ∧ ExS (fun z => z = b) w wi ∧ OwK S b w wi) (fun i _ => ws.length - (intOf i).toNat)
    case atStart => exact ⟨0, Nat.zero_le _, rfl, by simpa using hv.ex xx, v0, ExS.of_ex xx, OwK.of_ex xx⟩
    case round =>
      clear v0 x1 x0 xx z1
      obtain ⟨j, hj, rfl, hF, hD, he, hok⟩ := hrel
      have hez := he.size
      have hbx : ¬ (w.heap.size = b) := by omega
      by_cases hlt : j < ws.length
      · obtain ⟨x, hx⟩ : ∃ x, ws[j]? = some x := ⟨_, List.getElem?_eq_getElem hlt⟩
        obtain ⟨v, hv'⟩ : ∃ v, vs[j]? = some v := ⟨_, List.getElem?_eq_getElem (by rw [Hl.out]; exact hlt)⟩
        obtain ⟨Ax, cx, Bx, dx, e0, e1, hAx, hBx⟩ := (hw.sx he (fun z e => e ▸ hb) (fun e => hne e.symm)).at_ hx
        have hat := mix_at R vs HRl.out j (by rw [Hl.out]; exact hlt)
        rw [hv'] at hat
        obtain ⟨Av, cv, Bv, dv, g0, g1, hAv, hBv⟩ := hF.at_ hat
        have hxm := Hww.out x (List.mem_of_getElem? hx)
        have hvm := Hvv.out v (List.mem_of_getElem? hv')
        have hR := HRat.out j v x hv' hx
        have HX := Lib.hid hxm
        have HV := Lib.hid hvm
        have HR := Lib.hid hR
        have HV' := Lib.hid hv'
        have hxnl := hAx.1.len
        have y7 := (Ex.refl wr).alloc (.cells #[.slice Ax x.n.length cx, .slice Bx x.d.length dx] 58)
        have v7 := VB.new wr 58 #[.slice Ax x.n.length cx, .slice Bx x.d.length dx]
        have s7 : (wr.alloc (.cells #[.slice Ax x.n.length cx, .slice Bx x.d.length dx] 58)).heap.size = wr.heap.size + 1 := by simp
        clear hx hv' hat hxm hvm hR
        go_wp2_with fail
        generalize wr.alloc (.cells #[.slice Ax x.n.length cx, .slice Bx x.d.length dx] 58) = W7 at *
        refine (isNought_c Ax Bx cx dx x.n x.d W7 hxnl).mono ?_
        rintro e w8 ⟨rfl, x8⟩
        have v8 := v7.ex x8
        have y8 := y7.trans x8
        have z8 := x8.size
        have hF8 := hF.ex y8
        have hD8 := hD.ex y8
        have he8 := he.trans (ExS.of_ex (S := fun z => z = b) y8) (fun _ _ h => h)
        have hok8 := hok.trans (OwK.of_ex y8)
        clear v7 hF hD he
        by_cases hxz : x.n = []
        · rw [decide_eq_true hxz]
          have HR1 := Lib.hid (show R.take j ++ vs.drop j = R.take (j + 1) ++ vs.drop (j + 1) from mix_same R vs HRl.out j v (by rw [HR.out, addR1, if_pos (iszF_iff.2 hxz)]) HV'.out)
          clear hxz
          go_wp2_with fail
          go_roundw
          case rel => exact ⟨j + 1, by omega, by go_num, by rw [← HR1.out]; exact hF8, hD8, he8, hok8⟩
          case measure => simp [intOf]; omega
        · rw [decide_eq_false hxz]
          have HR1 := Lib.hid (show (R.take j ++ vs.drop j).set j (addF p v (mulF p k x)) = R.take (j + 1) ++ vs.drop (j + 1) from mix_set R vs HRl.out j _ (by rw [HR.out, addR1, if_neg (fun h => hxz (iszF_iff.1 h))]))
          clear hxz
          have hM := HK.out.mul HX.out.1
          have hMl := HKL.out.mul HK.out HX.out.1 HX.out.2
          have HMul : ∀ W, Ex w8 W → Calls Tryz.prog 75 #[.int .i64 p, .agg #[.slice A k.n.length c, .slice B k.d.length d], .agg #[.slice Ax x.n.length cx, .slice Bx x.d.length dx]] W fun e w' => FFx W (mulF p k x) e w' := fun W h =>
            fractionMul_b p A B c d k.n k.d Ax Bx cx dx x.n x.d W ((hA.sx he8 (fun z e => e ▸ hb)).1.ex h) ((hB.sx he8 (fun z e => e ▸ hb)).1.ex h) ((hAx.ex y8).1.ex h) ((hBx.ex y8).1.ex h) (HK.out.okb (by have := HKL.out.1; omega) (by have := HKL.out.2; omega)) (HX.out.1.okb (by have := HX.out.2.1; omega) (by have := HX.out.2.2; omega))
          have HAdd : ∀ (A3 B3 : Option Addr) (c3 d3 : Nat) (W : World), Ex w8 W → Rd W A3 (mulF p k x).n → Rd W B3 (mulF p k x).d → Calls Tryz.prog 74 #[.int .i64 p, .agg #[.slice Av v.n.length cv, .slice Bv v.d.length dv], .agg #[.slice A3 (mulF p k x).n.length c3, .slice B3 (mulF p k x).d.length d3]] W fun e w' => FFx W (addF p v (mulF p k x)) e w' := fun A3 B3 c3 d3 W h r1 r2 =>
            fractionAdd_b p Av Bv cv dv v.n v.d A3 B3 c3 d3 (mulF p k x).n (mulF p k x).d W ((hAv.ex y8).1.ex h) ((hBv.ex y8).1.ex h) r1 r2 (HV.out.1.okb (by have := HV.out.2.1; omega) (by have := HV.out.2.2; omega)) (hM.okb (by have := hMl.1; omega) (by have := hMl.2; omega))
          have HM := Lib.hid hM
          clear hM hMl
          generalize mulF p k x = M at *
          obtain ⟨N, hN⟩ : ∃ N, addF p v M = N := ⟨_, rfl⟩
          rw [hN] at HAdd HR1
          clear hN
          have k0 := hD8.cell 0 (v := .slice A k.n.length c) rfl
          have k1 := hD8.cell 1 (v := .slice B k.d.length d) rfl
          have k2 := v8.cell 0 (v := .slice Ax x.n.length cx) rfl
          have k3 := v8.cell 1 (v := .slice Bx x.d.length dx) rfl
          have g0 := cell_ex y8 g0
          have g1 := cell_ex y8 g1
          have hjv : j < vs.length := by have := Hl.out; omega
          go_wp2_with fail
          go_region_law (first
            | (go_simp
               go_at_call 75
               refine (HMul _ (Ex.refl w8).drew).mono ?_
               rintro e w9 ⟨A9, c9, B9, d9, rfl, f9, p9, ap9, x9⟩
               replace x9 := ((Ex.refl w8).drew).trans x9
               have l0 := cell_ex x9 g0
               have l1 := cell_ex x9 g1)
            | (go_simp
               go_at_call 74
               refine (HAdd A9 B9 c9 d9 w9 x9 f9.rd p9.rd).mono ?_
               rintro e w10 ⟨A10, c10, B10, d10, rfl, f10, p10, ap10, x10⟩
               have hF10 := (hF8.ex x9).ex x10
               have m0 := cell_ex x10 l0
               have m1 := cell_ex x10 l1
               have n0 := hF10.frozen (j * 2)
               have n1 := hF10.frozen (j * 2 + 1)))
          all_goals
            have z9 := x9.size
            have z10 := x10.size
            have hS10 : ∀ z, S z → z < w9.heap.size := fun z hz => by have := HB z hz; omega
            have hP := hF10.put hb j N (c := c10) (d := d10) (f10.rx hS10) (p10.rx hS10)
            have E11 : ExS (fun z => z = b) w10 ((w10.setCell ⟨b, j * 2, none⟩ (.slice A10 N.n.length c10)).setCell ⟨b, j * 2 + 1, none⟩ (.slice B10 N.d.length d10)) := ExS.of_ex1 (((Ex1.refl b w10).setCell (p := ⟨b, j * 2, none⟩) rfl _).setCell (p := ⟨b, j * 2 + 1, none⟩) rfl _) rfl
            have D11 := ((hD8.ex x9).ex x10).ex1 (((Ex1.refl b w10).setCell (p := ⟨b, j * 2, none⟩) rfl (.slice A10 N.n.length c10)).setCell (p := ⟨b, j * 2 + 1, none⟩) rfl (.slice B10 N.d.length d10)) hbx
            have he11 := (he8.trans (ExS.of_ex (S := fun z => z = b) (x9.trans x10)) (fun _ _ h => h)).trans E11 (fun _ _ h => h)
            have hok11 := (hok8.trans (OwK.of_ex x9)).trans (OwK.put2 (S := S) (b := b) (i := j) x10 f10 p10 ap10 hb m0 m1)
            rw [HR1.out] at hP
            clear HMul HAdd k0 k1 k2 k3 g0 g1 l0 l1 m0 m1 n0 n1
            go_wp2_with fail
            go_roundw
            case rel => exact ⟨j + 1, by omega, by go_num, hP, D11, he11, hok11⟩
            case measure => simp [intOf]; omega
      · obtain rfl : j = ws.length := by omega
        rw [List.take_of_length_le (by rw [HRl.out, Hl.out]; exact Nat.le_refl _), List.drop_of_length_le (by rw [Hl.out]; exact Nat.le_refl _), List.append_nil] at hF
        go_wp2_with fail
        first | rw [Exit.noGoto_ret] | skip
        refine bodyPost_end (results_none rfl _ _ _) rfl ?_
        rw [HT.out]
        exact ⟨rfl, hF, he, hok⟩
end Go.Proofs.YtpeogfapnofeoaaGreatDoor
