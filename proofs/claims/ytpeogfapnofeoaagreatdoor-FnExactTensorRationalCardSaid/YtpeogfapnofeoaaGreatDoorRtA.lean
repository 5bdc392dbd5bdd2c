/- Rational rows: the program's small steps on fractions. -/
import Derived.Test.YtpeogfapnofeoaaGreatDoorFrB
import Derived.Test.YtpeogfapnofeoaaGreatDoorXS
namespace Go.Proofs.YtpeogfapnofeoaaGreatDoor
set_option maxRecDepth 100000
open Go Go.RowKit
theorem mulF_comm {p : Int} (hp : 0 < p) (x y : Fra) : mulF p x y = mulF p y x := by
  show lowF p _ _ = lowF p _ _
  rw [pmul_comm hp x.n, pmul_comm hp x.d]
theorem mulF_const {p : Int} {x : Fra} (hx : FV p x) : mulF p ⟨[p - 1], [1]⟩ x = negF p x := by
  have hp := hx.pos
  have h2 := fieldB_lo hx.f
  have hc : FV p ⟨[p - 1], [1]⟩ := FV.one_den hx.f ⟨by simp [allEl, elB]; omega, by
    show trim [p - 1] = [p - 1]
    have : p - 1 ≠ 0 := by omega
    simp [trim, this]⟩
  have h1 := Eqv.mul hc hx (Eqv.self p _) (Eqv.self p x)
  have e1 : pMul p (Fra.mk [p - 1] [1]).n x.n = pNeg p x.n := pneg_const h2 x.n
  have e2 : pMul p (Fra.mk [p - 1] [1]).d x.d = x.d := by rw [pmul_comm hp]; exact pmul_one h2 hx.d
  rw [e1, e2] at h1
  exact Eqv.uniq (hc.mul hx) hx.neg hx.d hx.d0 h1 (Eqv.self p (negF p x))
theorem lowF_len {p : Int} (hF : fieldB p = true) {N D : List Int} (hN : PN p N) (hD : PN p D) (h0 : D ≠ []) : (lowF p N D).n.length ≤ N.length ∧ (lowF p N D).d.length ≤ D.length := by
  obtain ⟨_, _, _, _, _, h1, h2, _⟩ := low_parts hF hN.e hD.e hN.t hD.t h0
  exact ⟨h1, h2⟩
/-- Numerator and denominator have at most L coefficients. -/
def FL (L : Nat) (x : Fra) : Prop := x.n.length ≤ L ∧ x.d.length ≤ L
theorem FL.mono {L M : Nat} {x : Fra} (h : FL L x) (hm : L ≤ M) : FL M x := ⟨Nat.le_trans h.1 hm, Nat.le_trans h.2 hm⟩
theorem pmul_le {p : Int} (hF : fieldB p = true) {f g : List Int} (hf : PN p f) (hg : PN p g) : (pMul p f g).length ≤ f.length + g.length := by
  by_cases h1 : f = []
  · rw [h1, pnil_mul]; simp
  by_cases h2 : g = []
  · rw [h2, pmul_nil]; simp
  rw [pMul_len hF hf.e hg.e hf.t hg.t h1 h2]; omega
theorem padd_le (p : Int) (f : List Int) (b : Int) (g : List Int) : (pAdd p f b g).length ≤ max f.length g.length := by
  refine Nat.le_trans (trim_le _) ?_
  rw [addAt_len, padTo_len (by omega)]
  omega
theorem FL.mul {p : Int} {x y : Fra} (hx : FV p x) (hy : FV p y) {L M : Nat} (h : FL L x) (k : FL M y) : FL (L + M) (mulF p x y) := by
  have hp := hx.pos
  obtain ⟨h1, h2⟩ := lowF_len hx.f (PN.mul hp x.n y.n) (PN.mul hp x.d y.d) (pmul_ne hx.f hx.d hy.d hx.d0 hy.d0)
  have a1 := pmul_le hx.f hx.n hy.n
  have a2 := pmul_le hx.f hx.d hy.d
  obtain ⟨q1, q2⟩ := h
  obtain ⟨q3, q4⟩ := k
  exact ⟨by show (lowF p _ _).n.length ≤ _; omega, by show (lowF p _ _).d.length ≤ _; omega⟩
theorem FL.add {p : Int} {x y : Fra} (hx : FV p x) (hy : FV p y) {L M : Nat} (h : FL L x) (k : FL M y) : FL (L + M) (addF p x y) := by
  have hp := hx.pos
  obtain ⟨h1, h2⟩ := lowF_len hx.f ((PN.mul hp x.n y.d).add hp 1 (pMul p y.n x.d)) (PN.mul hp x.d y.d) (pmul_ne hx.f hx.d hy.d hx.d0 hy.d0)
  have a1 := pmul_le hx.f hx.n hy.d
  have a2 := pmul_le hx.f hy.n hx.d
  have a3 := pmul_le hx.f hx.d hy.d
  have a4 := padd_le p (pMul p x.n y.d) 1 (pMul p y.n x.d)
  obtain ⟨q1, q2⟩ := h
  obtain ⟨q3, q4⟩ := k
  exact ⟨by show (lowF p _ _).n.length ≤ _; omega, by show (lowF p _ _).d.length ≤ _; omega⟩
theorem FL.inv {p : Int} {x : Fra} (hx : FV p x) (h0 : x.n ≠ []) {L : Nat} (h : FL L x) : FL L (invF p x) := by
  obtain ⟨h1, h2⟩ := lowF_len hx.f hx.d hx.n h0
  exact ⟨Nat.le_trans h1 h.2, Nat.le_trans h2 h.1⟩
theorem FL.neg {p : Int} {x : Fra} {L : Nat} (h : FL L x) : FL L (negF p x) := by
  refine ⟨?_, h.2⟩
  have := padd_le p [] (p - 1) x.n
  have h1 := h.1
  show (pAdd p [] (p - 1) x.n).length ≤ L
  simp at this
  omega
/-- A fresh fraction. -/
def FFx (w : World) (x : Fra) (e : Ending) (w' : World) : Prop := FF w x.n x.d e w'
set_option maxHeartbeats 1000000 in
theorem constK_c (a : Int) (ha : a ≠ 0) (w : World) : Calls Tryz.prog 76 #[.int .i64 a] w fun e w' => ∃ A c B d, e = .returned (.agg #[.slice A 1 c, .slice B 1 d]) ∧ Fr w' w.heap.size A c [a] ∧ Fr w' w.heap.size B d [1] ∧ Apart A B ∧ Ex w w' := by
  have hb : (a == 0) = false := by simpa using ha
  go_enter Tryz.func76, Tryz.ntmps76
  go_wp2_with fail
  have x1 := (Ex.refl w).alloc (.cells #[.slice (some ⟨w.heap.size + 1, 0, none⟩) 1 1, .slice (some ⟨w.heap.size + 1 + 1, 0, none⟩) 1 1] 58)
  have v1 := VB.new w 58 #[.slice (some ⟨w.heap.size + 1, 0, none⟩) 1 1, .slice (some ⟨w.heap.size + 1 + 1, 0, none⟩) 1 1]
  have s1 : (w.alloc (.cells #[.slice (some ⟨w.heap.size + 1, 0, none⟩) 1 1, .slice (some ⟨w.heap.size + 1 + 1, 0, none⟩) 1 1] 58)).heap.size = w.heap.size + 1 := by simp
  generalize w.alloc (.cells #[.slice (some ⟨w.heap.size + 1, 0, none⟩) 1 1, .slice (some ⟨w.heap.size + 1 + 1, 0, none⟩) 1 1] 58) = W1 at *
  have x2 := ((Ex.refl W1).alloc (iObj [a])).alloc (iObj [1])
  have o1 := (Own.new W1 [a]).ex ((Ex.refl (W1.alloc (iObj [a]))).alloc (iObj [1]))
  have o2 := Own.new (W1.alloc (iObj [a])) [1]
  have s2 : (W1.alloc (iObj [a])).heap.size = w.heap.size + 1 + 1 := by simp [s1]
  rw [s2] at o2
  rw [s1] at o1
  have v2 := v1.ex x2
  have d0 := v2.cell 0 (v := .slice (some ⟨w.heap.size + 1, 0, none⟩) 1 1) rfl
  have d1 := v2.cell 1 (v := .slice (some ⟨w.heap.size + 1 + 1, 0, none⟩) 1 1) rfl
  change bodyPost _ _ _ _ _ ((W1.alloc (iObj [a])).alloc (iObj [1]))
  generalize (W1.alloc (iObj [a])).alloc (iObj [1]) = W2 at *
  refine bodyPost_ret (v := .agg #[.slice (some ⟨w.heap.size + 1, 0, none⟩) 1 1, .slice (some ⟨w.heap.size + 1 + 1, 0, none⟩) 1 1]) (by simp [results, Tryz.results76, go_sem, d0, d1]) rfl ?_
  exact ⟨_, _, _, _, rfl, o1.fr (by simp) (by omega) (by simp), o2.fr (by simp) (by omega) (by simp), apart_ne (by omega), x1.trans x2⟩
set_option maxHeartbeats 2000000 in
theorem ratNegative_c (p : Int) (x : Fra) (A B : Option Addr) (c d : Nat) (w : World) (hx : FV p x) (hA : Rd w A x.n) (hB : Rd w B x.d) (h1 : x.n.length ≤ 137438953472) (h2 : x.d.length ≤ 137438953472) :
    Calls Tryz.prog 43 #[.int .i64 p, .agg #[.slice A x.n.length c, .slice B x.d.length d]] w fun e w' => FFx w (negF p x) e w' := by
  have g2 := fieldB_lo hx.f
  have g97 := fieldB_hi hx.f
  have HM := Lib.hid (mulF_const hx)
  have hc : FV p ⟨[p - 1], [1]⟩ := FV.one_den hx.f ⟨by simp [allEl, elB]; omega, by
    show trim [p - 1] = [p - 1]
    have : p - 1 ≠ 0 := by omega
    simp [trim, this]⟩
  have E1 := Lib.hid (hc.okb (by simp) (by simp))
  have E2 := Lib.hid (hx.okb (by omega) (by omega))
  clear hx hc
  obtain ⟨n, m⟩ := x
  dsimp only at hA hB h1 h2 HM E1 E2 ⊢
  have x0 := (Ex.refl w).alloc (.cells #[.slice A n.length c, .slice B m.length d] 58)
  have v0 := VB.new w 58 #[.slice A n.length c, .slice B m.length d]
  have s0 : (w.alloc (.cells #[.slice A n.length c, .slice B m.length d] 58)).heap.size = w.heap.size + 1 := by simp
  go_enter Tryz.func43, Tryz.ntmps43
  go_wp2_with fail
  generalize w.alloc (.cells #[.slice A n.length c, .slice B m.length d] 58) = W0 at *
  have x1 := (Ex.refl W0).alloc (.cells #[.slice none 0 0, .slice none 0 0] 58)
  have v1 := VB.new W0 58 #[.slice none 0 0, .slice none 0 0]
  have s1 : (W0.alloc (.cells #[.slice none 0 0, .slice none 0 0] 58)).heap.size = w.heap.size + 1 + 1 := by simp; exact s0
  rw [s0] at v1
  generalize W0.alloc (.cells #[.slice none 0 0, .slice none 0 0] 58) = W1 at *
  have v0 := v0.ex x1
  have xx := x0.trans x1
  clear x0 x1
  have q0 := v0.cell 0 (v := .slice A n.length c) rfl
  have q1 := v0.cell 1 (v := .slice B m.length d) rfl
  have hp1 : p - 1 ≠ 0 := by omega
  have hwr : IntKind.i64.wrap (p - 1) = p - 1 := IntWalk.i64_in _ (by omega)
  have HF : ∀ (A3 B3 : Option Addr) (c3 d3 : Nat) (W : World), Ex1 (w.heap.size + 1) W1 W → Rd W A3 [p - 1] → Rd W B3 [1] → Calls Tryz.prog 75 #[.int .i64 p, .agg #[.slice A3 1 c3, .slice B3 1 d3], .agg #[.slice A n.length c, .slice B m.length d]] W fun e w' => FF W (pNeg p n) m e w' := fun A3 B3 c3 d3 W h r1 r2 => by
    have := fractionMul_b p A3 B3 c3 d3 [p - 1] [1] A B c d n m W r1 r2 (hA.ex (xx.ex1 h (by omega))) (hB.ex (xx.ex1 h (by omega))) E1.out E2.out
    have e1 : lowN p (pMul p [p - 1] n) (pMul p [1] m) = pNeg p n := congrArg Fra.n HM.out
    have e2 : lowD p (pMul p [p - 1] n) (pMul p [1] m) = m := congrArg Fra.d HM.out
    rw [e1, e2] at this
    exact this
  have HS : ∀ W, Ex1 (w.heap.size + 1) W1 W → (Ex1 (w.heap.size + 1) W1 W ∧ W.cell? ⟨w.heap.size, 0, none⟩ = some (.slice A n.length c) ∧ W.cell? ⟨w.heap.size, 1, none⟩ = some (.slice B m.length d)) := fun W h => ⟨h, (v0.ex1 h (by omega)).cell 0 rfl, (v0.ex1 h (by omega)).cell 1 rfl⟩
  have eA := (Ex1.refl (w.heap.size + 1) W1).drew
  go_region_held3 (fun W => Ex1 (w.heap.size + 1) W1 W ∧ W.cell? ⟨w.heap.size, 0, none⟩ = some (.slice A n.length c) ∧ W.cell? ⟨w.heap.size, 1, none⟩ = some (.slice B m.length d)) (first
    | (exact HS _ ((e4.setCell rfl _).setCell rfl _)) | (exact HS _ e4) | (exact HS _ e3) | (exact HS _ eA) | (exact HS _ (Ex1.refl _ _))) (first
    | (go_at_call 76
       have hb := (‹Ex1 (w.heap.size + 1) W1 _ ∧ _›).1
       refine (constK_c (p - 1) hp1 _).mono ?_
       rintro e w3 ⟨A3, c3, B3, d3, rfl, f3, g3, ap3, x3⟩
       have e3 := hb.trans (Ex1.of_ex x3)
       have z3 := hb.size'
       clear hb)
    | (go_at_call 75
       refine (HF A3 B3 c3 d3 w3 e3 f3.rd g3.rd).mono ?_
       rintro e w4 ⟨A4, c4, B4, d4, rfl, f4, g4, ap4, x4⟩
       have e4 := e3.trans (Ex1.of_ex x4)
       have z4 := x3.size
       have v4 : VB w4 (w.heap.size + 1) 58 #[.slice none 0 0, .slice none 0 0] := by first | exact (v1.ex x3).ex x4 | exact (VB.ex (w := W1.drew) v1 x3).ex x4
       have r0 := v4.cell 0 (v := .slice none 0 0) rfl
       have r1 := v4.cell 1 (v := .slice none 0 0) rfl
       have k0 := v4.frozen 0
       have k1 := v4.frozen 1))
  all_goals
    have E5 : Ex1 (w.heap.size + 1) w4 ((w4.setCell ⟨w.heap.size + 1, 0, none⟩ (.slice A4 (pNeg p n).length c4)).setCell ⟨w.heap.size + 1, 1, none⟩ (.slice B4 m.length d4)) := ((Ex1.refl _ w4).setCell (p := ⟨w.heap.size + 1, 0, none⟩) rfl _).setCell (p := ⟨w.heap.size + 1, 1, none⟩) rfl _
    have v5 : VB ((w4.setCell ⟨w.heap.size + 1, 0, none⟩ (.slice A4 (pNeg p n).length c4)).setCell ⟨w.heap.size + 1, 1, none⟩ (.slice B4 m.length d4)) (w.heap.size + 1) 58 #[.slice A4 (pNeg p n).length c4, .slice B4 m.length d4] := (v4.set_ 0 _).set_ 1 _
    have D0 := v5.cell 0 (v := .slice A4 (pNeg p n).length c4) rfl
    have D1 := v5.cell 1 (v := .slice B4 m.length d4) rfl
    have yy : Ex w _ := (xx.ex1 e4 (by omega)).ex1 E5 (by omega)
    have zx := xx.size
    go_wp2_with fail
    refine bodyPost_ret (v := .agg #[.slice A4 (pNeg p n).length c4, .slice B4 m.length d4]) (by simp [results, Tryz.results43, go_sem, D0, D1]) rfl ?_
    exact ⟨A4, c4, B4, d4, rfl, (f4.ex1 E5 (f4.hi.off (by omega))).more (by omega), (g4.ex1 E5 (g4.hi.off (by omega))).more (by omega), ap4, yy⟩
set_option maxHeartbeats 2000000 in
theorem divided_c (p : Int) (x y : Fra) (A B : Option Addr) (c d : Nat) (A' B' : Option Addr) (c' d' : Nat) (w : World) (hx : FV p x) (hy : FV p y) (hA : Rd w A x.n) (hB : Rd w B x.d) (hA' : Rd w A' y.n) (hB' : Rd w B' y.d) (hy0 : y.n ≠ []) (h1 : FL 137438953472 x) (h2 : FL 137438953472 y) :
    Calls Tryz.prog 140 #[.int .i64 p, .agg #[.slice A x.n.length c, .slice B x.d.length d], .agg #[.slice A' y.n.length c', .slice B' y.d.length d']] w fun e w' => FFx w (mulF p (invF p y) x) e w' := by
  have hi := hy.inv hy0
  have hil := h2.inv hy hy0
  have HM := Lib.hid (mulF_comm hx.pos x (invF p y))
  have E1 := Lib.hid (hx.okb (by have := h1.1; omega) (by have := h1.2; omega))
  have E2 := Lib.hid (hi.okb (by have := hil.1; omega) (by have := hil.2; omega))
  have E3 := Lib.hid hy
  have Hy0 := Lib.hid hy0
  have hb : decide (y.n = []) = false := by simpa using hy0
  have hyl := hA'.len
  clear hx hy hi hil h1 h2 hy0
  obtain ⟨n, m⟩ := x
  obtain ⟨n', m'⟩ := y
  dsimp only at hA hB hA' hB' HM E1 E2 E3 Hy0 hb hyl ⊢
  have x0 := (Ex.refl w).alloc (.cells #[.slice A n.length c, .slice B m.length d] 58)
  have v0 := VB.new w 58 #[.slice A n.length c, .slice B m.length d]
  have s0 : (w.alloc (.cells #[.slice A n.length c, .slice B m.length d] 58)).heap.size = w.heap.size + 1 := by simp
  go_enter Tryz.func140, Tryz.ntmps140
  go_wp2_with fail
  generalize w.alloc (.cells #[.slice A n.length c, .slice B m.length d] 58) = W0 at *
  have x1 := (Ex.refl W0).alloc (.cells #[.slice A' n'.length c', .slice B' m'.length d'] 58)
  have v1 := VB.new W0 58 #[.slice A' n'.length c', .slice B' m'.length d']
  have s1 : (W0.alloc (.cells #[.slice A' n'.length c', .slice B' m'.length d'] 58)).heap.size = w.heap.size + 1 + 1 := by simp; exact s0
  rw [s0] at v1
  generalize W0.alloc (.cells #[.slice A' n'.length c', .slice B' m'.length d'] 58) = W1 at *
  have x2 := (Ex.refl W1).alloc (.cells #[.slice none 0 0, .slice none 0 0] 58)
  have v2 := VB.new W1 58 #[.slice none 0 0, .slice none 0 0]
  have s2 : (W1.alloc (.cells #[.slice none 0 0, .slice none 0 0] 58)).heap.size = w.heap.size + 1 + 1 + 1 := by simp; exact s1
  rw [s1] at v2
  generalize W1.alloc (.cells #[.slice none 0 0, .slice none 0 0] 58) = W2 at *
  have v1 := v1.ex x2
  have v0 := (v0.ex x1).ex x2
  have xx := (x0.trans x1).trans x2
  clear x0 x1 x2
  have hno := isNought_c A' B' c' d' n' m' W2 hyl
  rw [hb] at hno
  have q2 := v1.cell 0 (v := .slice A' n'.length c') rfl
  have q3 := v1.cell 1 (v := .slice B' m'.length d') rfl
  refine hno.mono ?_
  rintro e w3 ⟨rfl, x3⟩
  have v0 := v0.ex x3
  have v1 := v1.ex x3
  have v2 := v2.ex x3
  have z3 := x3.size
  have xx := xx.trans x3
  clear q2 q3 hno hb
  go_wp2_with fail
  have HI : ∀ W, Ex1 (w.heap.size + 1 + 1) w3 W → Calls Tryz.prog 154 #[.int .i64 p, .agg #[.slice A' n'.length c', .slice B' m'.length d']] W fun e w' => FF W (lowN p m' n') (lowD p m' n') e w' := fun W h => fractionInverse_c p A' B' c' d' n' m' W (hA'.ex (xx.ex1 h (by omega))) (hB'.ex (xx.ex1 h (by omega))) E3.out.f E3.out.n.e E3.out.d.e E3.out.n.t E3.out.d.t Hy0.out
  have HF : ∀ (A3 B3 : Option Addr) (c3 d3 : Nat) (W : World), Ex1 (w.heap.size + 1 + 1) w3 W → Rd W A3 (lowN p m' n') → Rd W B3 (lowD p m' n') → Calls Tryz.prog 75 #[.int .i64 p, .agg #[.slice A n.length c, .slice B m.length d], .agg #[.slice A3 (lowN p m' n').length c3, .slice B3 (lowD p m' n').length d3]] W fun e w' => FFx W (mulF p (invF p ⟨n', m'⟩) ⟨n, m⟩) e w' := fun A3 B3 c3 d3 W h r1 r2 => by
    have := fractionMul_b p A B c d n m A3 B3 c3 d3 (lowN p m' n') (lowD p m' n') W (hA.ex (xx.ex1 h (by omega))) (hB.ex (xx.ex1 h (by omega))) r1 r2 E1.out E2.out
    rw [← HM.out]
    exact this
  generalize lowN p m' n' = in1 at *
  generalize lowD p m' n' = id1 at *
  obtain ⟨res, hres⟩ : ∃ r, mulF p (invF p ⟨n', m'⟩) ⟨n, m⟩ = r := ⟨_, rfl⟩
  rw [hres] at HF
  have HR := Lib.hid hres
  clear hres
  have q0 := v0.cell 0 (v := .slice A n.length c) rfl
  have q1 := v0.cell 1 (v := .slice B m.length d) rfl
  have q2 := v1.cell 0 (v := .slice A' n'.length c') rfl
  have q3 := v1.cell 1 (v := .slice B' m'.length d') rfl
  have HS : ∀ W, Ex1 (w.heap.size + 1 + 1) w3 W → (Ex1 (w.heap.size + 1 + 1) w3 W ∧ W.cell? ⟨w.heap.size, 0, none⟩ = some (.slice A n.length c) ∧ W.cell? ⟨w.heap.size, 1, none⟩ = some (.slice B m.length d) ∧ W.cell? ⟨w.heap.size + 1, 0, none⟩ = some (.slice A' n'.length c') ∧ W.cell? ⟨w.heap.size + 1, 1, none⟩ = some (.slice B' m'.length d')) := fun W h => ⟨h, (v0.ex1 h (by omega)).cell 0 rfl, (v0.ex1 h (by omega)).cell 1 rfl, (v1.ex1 h (by omega)).cell 0 rfl, (v1.ex1 h (by omega)).cell 1 rfl⟩
  have eA := (Ex1.refl (w.heap.size + 1 + 1) w3).drew
  clear HM E1 E2 E3
  go_region_held3 (fun W => Ex1 (w.heap.size + 1 + 1) w3 W ∧ W.cell? ⟨w.heap.size, 0, none⟩ = some (.slice A n.length c) ∧ W.cell? ⟨w.heap.size, 1, none⟩ = some (.slice B m.length d) ∧ W.cell? ⟨w.heap.size + 1, 0, none⟩ = some (.slice A' n'.length c') ∧ W.cell? ⟨w.heap.size + 1, 1, none⟩ = some (.slice B' m'.length d')) (first
    | (exact HS _ ((e5.setCell rfl _).setCell rfl _)) | (exact HS _ e5) | (exact HS _ e4) | (exact HS _ eA) | (exact HS _ (Ex1.refl _ _))) (first
    | (go_at_call 154
       have hb := (‹Ex1 (w.heap.size + 1 + 1) w3 _ ∧ _›).1
       refine (HI _ hb).mono ?_
       rintro e w4 ⟨A4, c4, B4, d4, rfl, f4, g4, ap4, x4⟩
       have e4 := hb.trans (Ex1.of_ex x4)
       have z4 := hb.size'
       clear hb)
    | (go_at_call 75
       refine (HF A4 B4 c4 d4 w4 e4 f4.rd g4.rd).mono ?_
       rintro e w5 ⟨A5, c5, B5, d5, rfl, f5, g5, ap5, x5⟩
       have e5 := e4.trans (Ex1.of_ex x5)
       have z5 := x4.size
       have v5 : VB w5 (w.heap.size + 1 + 1) 58 #[.slice none 0 0, .slice none 0 0] := by first | exact (v2.ex x4).ex x5 | exact (VB.ex (w := w3.drew) v2 x4).ex x5
       have r0 := v5.cell 0 (v := .slice none 0 0) rfl
       have r1 := v5.cell 1 (v := .slice none 0 0) rfl
       have k0 := v5.frozen 0
       have k1 := v5.frozen 1))
  all_goals
    have E6 : Ex1 (w.heap.size + 1 + 1) w5 ((w5.setCell ⟨w.heap.size + 1 + 1, 0, none⟩ (.slice A5 res.n.length c5)).setCell ⟨w.heap.size + 1 + 1, 1, none⟩ (.slice B5 res.d.length d5)) := ((Ex1.refl _ w5).setCell (p := ⟨w.heap.size + 1 + 1, 0, none⟩) rfl _).setCell (p := ⟨w.heap.size + 1 + 1, 1, none⟩) rfl _
    have v6 : VB ((w5.setCell ⟨w.heap.size + 1 + 1, 0, none⟩ (.slice A5 res.n.length c5)).setCell ⟨w.heap.size + 1 + 1, 1, none⟩ (.slice B5 res.d.length d5)) (w.heap.size + 1 + 1) 58 #[.slice A5 res.n.length c5, .slice B5 res.d.length d5] := (v5.set_ 0 _).set_ 1 _
    have D0 := v6.cell 0 (v := .slice A5 res.n.length c5) rfl
    have D1 := v6.cell 1 (v := .slice B5 res.d.length d5) rfl
    have yy : Ex w _ := (xx.ex1 e5 (by omega)).ex1 E6 (by omega)
    have zx := xx.size
    go_wp2_with fail
    refine bodyPost_ret (v := .agg #[.slice A5 res.n.length c5, .slice B5 res.d.length d5]) (by simp [results, Tryz.results140, go_sem, D0, D1]) rfl ?_
    rw [HR.out]
    exact ⟨A5, c5, B5, d5, rfl, (f5.ex1 E6 (f5.hi.off (by omega))).more (by omega), (g5.ex1 E6 (g5.hi.off (by omega))).more (by omega), ap5, yy⟩
end Go.Proofs.YtpeogfapnofeoaaGreatDoor
