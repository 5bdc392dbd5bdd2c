/- Contracts: valid gates, on both sides. -/
import Derived.Test.YtgblnkadmieflaaDoorCir2
import Derived.RegionCalls
import Derived.Deep.RegionWith
import Derived.Deep.RegionHeld3
namespace Go.Proofs.YtgblnkadmieflaaDoor
set_option maxRecDepth 100000
open Go Go.RowKit
def gateB (p inputs n : Int) (x : Gt) : Bool :=
  (opnd x).all (inB 0 (n - 1)) &&
    (if x.kd = 1 then decide (x.a = 0) && decide (x.b = 0) && inB 0 (inputs - 1) x.vl
     else if x.kd = 2 then decide (x.a = 0) && decide (x.b = 0) && decide (x.vl = 0)
     else if x.kd = 3 then decide (x.vl = 0)
     else if x.kd = 4 then decide (x.b = 0) && elB p x.vl
     else if x.kd = 5 then decide (x.b = 0) && decide (x.vl = 0) else false)
theorem gateB_ok {p inputs n kd a b vl : Int} (h : (opnd ⟨kd, a, b, vl⟩).all (inB 0 (n - 1)) = true) : gateB p inputs n ⟨kd, a, b, vl⟩ =
    (if kd = 1 then decide (a = 0) && decide (b = 0) && inB 0 (inputs - 1) vl
     else if kd = 2 then decide (a = 0) && decide (b = 0) && decide (vl = 0)
     else if kd = 3 then decide (vl = 0)
     else if kd = 4 then decide (b = 0) && elB p vl
     else if kd = 5 then decide (b = 0) && decide (vl = 0) else false) := by
  unfold gateB
  rw [h, Bool.true_and]
set_option maxHeartbeats 4000000 in
theorem isGate_c (p inputs : Int) (A : Option Addr) (c k : Nat) (B : Option Addr) (m d : Nat) (x : Gt) (w : World) (hk : k ≤ 1099511627776) (hp0 : 0 ≤ inputs) (hp1 : inputs ≤ 4611686018427387904) :
    Calls Tryd.prog 92 #[.agg #[.int .i64 inputs, .slice A k c, .slice B m d], .int .i64 p, gtV x] w fun e w' => e = .returned (.bool (gateB p inputs k x)) ∧ Ex w w' := by
  have hop := fun W => operands_c x W
  obtain ⟨kd, a, b, vl⟩ := x
  unfold gtV at hop ⊢
  dsimp only at hop ⊢
  have y0 := (Ex.refl w).alloc (.cells #[.int .i64 inputs, .slice A k c, .slice B m d] 29)
  have d0 := VB.new w 29 #[.int .i64 inputs, .slice A k c, .slice B m d]
  have S0 := Lib.hid (show (w.alloc (.cells #[.int .i64 inputs, .slice A k c, .slice B m d] 29)).heap.size = w.heap.size + 1 by simp)
  go_enter Tryd.func92, Tryd.ntmps92
  go_wp2_with fail
  generalize w.alloc (.cells #[.int .i64 inputs, .slice A k c, .slice B m d] 29) = W0 at *
  have y1 := (Ex.refl W0).alloc (.cells #[.int .i64 kd, .int .i64 a, .int .i64 b, .int .i64 vl] 103)
  have d1 := VB.new W0 103 #[.int .i64 kd, .int .i64 a, .int .i64 b, .int .i64 vl]
  rw [S0.out] at d1
  generalize W0.alloc (.cells #[.int .i64 kd, .int .i64 a, .int .i64 b, .int .i64 vl] 103) = W1 at *
  have xx := y0.trans y1
  have d0 := d0.ex y1
  clear y0 y1 S0
  have q1 := d0.cell 1 (v := .slice A k c) rfl
  have g0 := d1.cell 0 (v := .int .i64 kd) rfl
  have g1 := d1.cell 1 (v := .int .i64 a) rfl
  have g2 := d1.cell 2 (v := .int .i64 b) rfl
  have g3 := d1.cell 3 (v := .int .i64 vl) rfl
  obtain ⟨ok, hok⟩ : ∃ ok, (opnd ⟨kd, a, b, vl⟩).all (inB 0 ((k : Int) - 1)) = ok := ⟨_, rfl⟩
  have Hok := Lib.hid hok
  go_region_held3 (fun W => W.cell? ⟨w.heap.size, 1, none⟩ = some (.slice A k c) ∧ W.cell? ⟨w.heap.size + 1, 0, none⟩ = some (.int .i64 kd) ∧ W.cell? ⟨w.heap.size + 1, 1, none⟩ = some (.int .i64 a) ∧ W.cell? ⟨w.heap.size + 1, 2, none⟩ = some (.int .i64 b) ∧ W.cell? ⟨w.heap.size + 1, 3, none⟩ = some (.int .i64 vl)) (first | (exact ⟨cell_ex x1 q1, cell_ex x1 g0, cell_ex x1 g1, cell_ex x1 g2, cell_ex x1 g3⟩) | (exact ⟨q1, g0, g1, g2, g3⟩)) (first
    | (go_at_call 100
       refine (hop _).mono ?_
       rintro e w1 ⟨v, rfl, f, x1⟩
       obtain ⟨V, vc, rfl, fi⟩ := f)
    | (go_at_call 91
       refine (areBelow_c V vc _ k w1 fi.rd (by omega) (by omega)).mono ?_
       rintro e _ ⟨rfl, rfl⟩))
  replace x1 := (Ex.refl W1).drew.trans x1
  have xx := xx.trans x1
  have d0 := d0.ex x1
  have d1 := d1.ex x1
  clear q1 g0 g1 g2 g3 fi hop hok
  have q0 := d0.cell 0 (v := .int .i64 inputs) rfl
  have g0 := d1.cell 0 (v := .int .i64 kd) rfl
  have g1 := d1.cell 1 (v := .int .i64 a) rfl
  have g2 := d1.cell 2 (v := .int .i64 b) rfl
  have g3 := d1.cell 3 (v := .int .i64 vl) rfl
  cases ok with
  | false =>
    go_wp2
    go_ret
    exact ⟨ret_bool (by simp only [gateB, Hok.out]; rfl), xx⟩
  | true =>
    by_cases h1 : kd = 1
    · have HG := Lib.hid (show gateB p inputs k ⟨kd, a, b, vl⟩ = (decide (a = 0) && decide (b = 0) && inB 0 (inputs - 1) vl) by rw [gateB_ok Hok.out, if_pos h1])
      subst h1
      by_cases ha : a = 0
      · by_cases hb : b = 0
        · subst ha
          subst hb
          go_wp2_with (go_at_call 90; refine (within_c _ _ _ _).mono ?_; rintro e w' ⟨rfl, rfl⟩)
          go_ret
          exact ⟨ret_bool (by rw [HG.out]; simp), xx⟩
        · subst ha
          have hb' : (b == 0) = false := by simpa using hb
          go_wp2
          go_ret
          exact ⟨ret_bool (by rw [HG.out]; simp [hb]), xx⟩
      · have ha' : (a == 0) = false := by simpa using ha
        go_wp2
        go_ret
        exact ⟨ret_bool (by rw [HG.out]; simp [ha]), xx⟩
    by_cases h2 : kd = 2
    · have HG := Lib.hid (show gateB p inputs k ⟨kd, a, b, vl⟩ = (decide (a = 0) && decide (b = 0) && decide (vl = 0)) by rw [gateB_ok Hok.out, if_neg h1, if_pos h2])
      subst h2
      clear h1
      go_wp2
      all_goals go_ret
      all_goals exact ⟨ret_bool (by rw [HG.out]; simp_all), xx⟩
    by_cases h3 : kd = 3
    · have HG := Lib.hid (show gateB p inputs k ⟨kd, a, b, vl⟩ = decide (vl = 0) by rw [gateB_ok Hok.out, if_neg h1, if_neg h2, if_pos h3])
      subst h3
      clear h1 h2
      go_wp2
      go_ret
      exact ⟨ret_bool (by rw [HG.out]; by_cases hv : vl = 0 <;> simp [hv]), xx⟩
    by_cases h4 : kd = 4
    · have HG := Lib.hid (show gateB p inputs k ⟨kd, a, b, vl⟩ = (decide (b = 0) && elB p vl) by rw [gateB_ok Hok.out, if_neg h1, if_neg h2, if_neg h3, if_pos h4])
      subst h4
      clear h1 h2 h3
      by_cases hb : b = 0
      · subst hb
        go_wp2_with (go_at_call 125; refine (isElement_c _ _ _).mono ?_; rintro e w' ⟨rfl, rfl⟩)
        go_ret
        exact ⟨ret_bool (by rw [HG.out]; simp), xx⟩
      · have hb' : (b == 0) = false := by simpa using hb
        go_wp2
        go_ret
        exact ⟨ret_bool (by rw [HG.out]; simp [hb]), xx⟩
    by_cases h5 : kd = 5
    · have HG := Lib.hid (show gateB p inputs k ⟨kd, a, b, vl⟩ = (decide (b = 0) && decide (vl = 0)) by rw [gateB_ok Hok.out, if_neg h1, if_neg h2, if_neg h3, if_neg h4, if_pos h5])
      subst h5
      clear h1 h2 h3 h4
      by_cases hb : b = 0
      · subst hb
        go_wp2
        go_ret
        exact ⟨ret_bool (by rw [HG.out]; by_cases hv : vl = 0 <;> simp [hv]), xx⟩
      · have hb' : (b == 0) = false := by simpa using hb
        go_wp2
        go_ret
        exact ⟨ret_bool (by rw [HG.out]; simp [hb]), xx⟩
    · have HG := Lib.hid (show gateB p inputs k ⟨kd, a, b, vl⟩ = false by rw [gateB_ok Hok.out, if_neg h1, if_neg h2, if_neg h3, if_neg h4, if_neg h5])
      go_wp2
      go_ret
      exact ⟨ret_bool (by rw [HG.out]), xx⟩
set_option maxHeartbeats 4000000 in
theorem crGate_c (p inputs : Int) (x : Gt) (k : Nat) (w : World) (hk : k ≤ 1099511627776) (hp0 : 0 ≤ inputs) (hp1 : inputs ≤ 4611686018427387904) (h2 : 2 ≤ p) (h97 : p ≤ 97) :
    Calls Tryd.prog 80 #[.int .i64 p, gtV x, .int .i64 inputs, .int .i64 k] w fun e w' => e = .returned (.bool (gateB p inputs k x)) ∧ Ex w w' := by
  have hop := fun W => crOperands_c x W
  obtain ⟨kd, a, b, vl⟩ := x
  unfold gtV at hop ⊢
  dsimp only at hop ⊢
  have y0 := (Ex.refl w).alloc (.cells #[.int .i64 kd, .int .i64 a, .int .i64 b, .int .i64 vl] 103)
  have d0 := VB.new w 103 #[.int .i64 kd, .int .i64 a, .int .i64 b, .int .i64 vl]
  go_enter Tryd.func80, Tryd.ntmps80
  go_wp2_with fail
  generalize w.alloc (.cells #[.int .i64 kd, .int .i64 a, .int .i64 b, .int .i64 vl] 103) = W0 at *
  refine (hop W0).mono ?_
  rintro e w1 ⟨v, rfl, f, x1⟩
  obtain ⟨V, vc, rfl, fi⟩ := f
  go_wp2_with fail
  refine (l1All_c V vc _ 0 ((k : Int) - 1) w1 fi.rd).mono ?_
  rintro e _ ⟨rfl, rfl⟩
  obtain ⟨ok, hok⟩ : ∃ ok, (opnd ⟨kd, a, b, vl⟩).all (inB 0 ((k : Int) - 1)) = ok := ⟨_, rfl⟩
  have Hok := Lib.hid hok
  rw [hok]
  have xx := y0.trans x1
  have d1 := d0.ex x1
  clear y0 hop fi hok
  have g0 := d1.cell 0 (v := .int .i64 kd) rfl
  have g1 := d1.cell 1 (v := .int .i64 a) rfl
  have g2 := d1.cell 2 (v := .int .i64 b) rfl
  have g3 := d1.cell 3 (v := .int .i64 vl) rfl
  cases ok with
  | false =>
    go_wp2
    go_ret
    exact ⟨ret_bool (by simp only [gateB, Hok.out]; rfl), xx⟩
  | true =>
    by_cases h1 : kd = 1
    · have HG := Lib.hid (show gateB p inputs k ⟨kd, a, b, vl⟩ = (decide (a = 0) && decide (b = 0) && inB 0 (inputs - 1) vl) by rw [gateB_ok Hok.out, if_pos h1])
      subst h1
      by_cases hb : b = 0
      · subst hb
        obtain ⟨iv, hiv⟩ : ∃ iv, inB 0 (inputs - 1) vl = iv := ⟨_, rfl⟩
        have HI := Lib.hid hiv
        go_wp2_with (go_at_call 78; refine (l1In_c _ _ _ _).mono ?_; rintro e w' ⟨rfl, rfl⟩; rw [hiv]; clear hiv; cases iv)
        all_goals go_ret
        all_goals exact ⟨ret_bool (by rw [HG.out, HI.out]; by_cases ha : a = 0 <;> simp [ha]), xx⟩
      · have hb' : (b != 0) = true := by simpa using hb
        go_wp2
        go_ret
        exact ⟨ret_bool (by rw [HG.out]; simp [hb]), xx⟩
    by_cases h2 : kd = 2
    · have HG := Lib.hid (show gateB p inputs k ⟨kd, a, b, vl⟩ = (decide (a = 0) && decide (b = 0) && decide (vl = 0)) by rw [gateB_ok Hok.out, if_neg h1, if_pos h2])
      subst h2
      clear h1
      by_cases hb : b = 0
      · subst hb
        by_cases hv : vl = 0
        · subst hv
          go_wp2
          go_ret
          exact ⟨ret_bool (by rw [HG.out]; by_cases ha : a = 0 <;> simp [ha]), xx⟩
        · have hv' : (vl == 0) = false := by simpa using hv
          go_wp2
          go_ret
          exact ⟨ret_bool (by rw [HG.out]; simp [hv]), xx⟩
      · have hb' : (b != 0) = true := by simpa using hb
        go_wp2
        go_ret
        exact ⟨ret_bool (by rw [HG.out]; simp [hb]), xx⟩
    by_cases h3 : kd = 3
    · have HG := Lib.hid (show gateB p inputs k ⟨kd, a, b, vl⟩ = decide (vl = 0) by rw [gateB_ok Hok.out, if_neg h1, if_neg h2, if_pos h3])
      subst h3
      clear h1 h2
      go_wp2
      go_ret
      exact ⟨ret_bool (by rw [HG.out]; by_cases hv : vl = 0 <;> simp [hv]), xx⟩
    by_cases h4 : kd = 4
    · have HG := Lib.hid (show gateB p inputs k ⟨kd, a, b, vl⟩ = (decide (b = 0) && inB 0 (p - 1) vl) by
        rw [gateB_ok Hok.out, if_neg h1, if_neg h2, if_neg h3, if_pos h4]
        have : elB p vl = inB 0 (p - 1) vl := by
          unfold elB inB
          congr 1
          exact decide_eq_decide.2 (by omega)
        rw [this])
      subst h4
      clear h1 h2 h3
      by_cases hb : b = 0
      · subst hb
        go_wp2_with (go_at_call 78; refine (l1In_c _ _ _ _).mono ?_; rintro e w' ⟨rfl, rfl⟩)
        go_ret
        exact ⟨ret_bool (by rw [HG.out]; simp), xx⟩
      · have hb' : (b != 0) = true := by simpa using hb
        go_wp2
        go_ret
        exact ⟨ret_bool (by rw [HG.out]; simp [hb]), xx⟩
    by_cases h5 : kd = 5
    · have HG := Lib.hid (show gateB p inputs k ⟨kd, a, b, vl⟩ = (decide (b = 0) && decide (vl = 0)) by rw [gateB_ok Hok.out, if_neg h1, if_neg h2, if_neg h3, if_neg h4, if_pos h5])
      subst h5
      clear h1 h2 h3 h4
      by_cases hb : b = 0
      · subst hb
        go_wp2
        go_ret
        exact ⟨ret_bool (by rw [HG.out]; by_cases hv : vl = 0 <;> simp [hv]), xx⟩
      · have hb' : (b != 0) = true := by simpa using hb
        go_wp2
        go_ret
        exact ⟨ret_bool (by rw [HG.out]; simp [hb]), xx⟩
    · have HG := Lib.hid (show gateB p inputs k ⟨kd, a, b, vl⟩ = false by rw [gateB_ok Hok.out, if_neg h1, if_neg h2, if_neg h3, if_neg h4, if_neg h5])
      have h3' : (kd != 3) = true := by simpa using h3
      by_cases hb : b = 0
      · subst hb
        go_wp2
        go_ret
        exact ⟨ret_bool (by rw [HG.out]), xx⟩
      · have hb' : (b != 0) = true := by simpa using hb
        go_wp2
        go_ret
        exact ⟨ret_bool (by rw [HG.out]), xx⟩
end Go.Proofs.YtgblnkadmieflaaDoor
