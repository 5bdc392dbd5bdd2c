/- Contracts: gates; operands; lists below a bound; the first index of which a predicate holds. -/
import Derived.Test.YtgblnkadmieflaaDoorUC
import Derived.Test.YtgblnkadmieflaaDoorPoly3
import Derived.Test.YtgblnkadmieflaaDoorIdx
namespace Go.Proofs.YtgblnkadmieflaaDoor
set_option maxRecDepth 100000
open Go Go.RowKit
def opnd (x : Gt) : List Int := if x.kd = 3 then [x.a, x.b] else if x.kd = 4 ∨ x.kd = 5 then [x.a] else []
def need (x : Gt) : List Int := if x.kd = 3 then [x.a, x.b] else if x.kd = 4 then [x.a] else []
def combB (x : Gt) : Bool := decide (x.kd = 3) || decide (x.kd = 4)
def gtV (x : Gt) : Value := .agg #[.int .i64 x.kd, .int .i64 x.a, .int .i64 x.b, .int .i64 x.vl]
set_option maxHeartbeats 400000 in
theorem areBelow_c (A : Option Addr) (c : Nat) (xs : List Int) (n : Int) (w : World) (h : Rd w A xs) (h0 : 0 ≤ n) (h1 : n ≤ 4611686018427387904) :
    Calls Tryd.prog 91 #[.slice A xs.length c, .int .i64 n] w fun e w' => e = .returned (.bool (xs.all (inB 0 (n - 1)))) ∧ w = w' := by
  have hl := h.len
  go_enter Tryd.func91, Tryd.ntmps91
  go_wp2
  go_loop [9] (fun i => ∃ k : Nat, k ≤ xs.length ∧ (xs.take k).all (inB 0 (n - 1)) = true ∧ i = .int .i64 k) (fun i => xs.length - (intOf i).toNat)
  case atStart => exact ⟨0, Nat.zero_le _, rfl, rfl⟩
  case round =>
    obtain ⟨k, hk, hall, rfl⟩ := hrel
    have Hall := Lib.hid hall
    clear hall
    by_cases hlt : k < xs.length
    · obtain ⟨g, off, x, rfl, hx, hg, hc⟩ := h.at_ hlt
      have Hx := Lib.hid hx
      clear hx
      cases hel : inB 0 (n - 1) x with
      | true =>
        have Hel := Lib.hid hel
        go_wp2_with (go_at_call 90; refine (within_c _ _ _ _).mono ?_; rintro e w' ⟨rfl, rfl⟩)
        go_round
        case rel => exact ⟨k + 1, by omega, all_take_succ Hx.out Hall.out Hel.out, by go_num⟩
        case measure => simp [intOf]; omega
      | false =>
        have Hel := Lib.hid hel
        go_wp2_with (go_at_call 90; refine (within_c _ _ _ _).mono ?_; rintro e w' ⟨rfl, rfl⟩)
        go_ret
        exact ⟨ret_bool (by rw [all_false_of Hx.out Hel.out]), rfl⟩
    · obtain rfl : k = xs.length := by omega
      go_wp2
      go_ret
      exact ⟨ret_bool (by have := Hall.out; rw [List.take_length] at this; rw [this]), rfl⟩
theorem own1 (w : World) (a : Int) : Own (w.alloc (.cells #[.int .i64 a] 3)) w.heap.size [a] := Own.new w [a]
theorem own2 (w : World) (a b : Int) : Own (w.alloc (.cells #[.int .i64 a, .int .i64 b] 3)) w.heap.size [a, b] := Own.new w [a, b]
theorem li1 {w u : World} (h : Ex w u) (a : Int) : LIo w [a] (.returned (.slice (some ⟨u.heap.size, 0, none⟩) 1 1)) (u.alloc (.cells #[.int .i64 a] 3)) :=
  ⟨_, rfl, ⟨_, _, rfl, ((own1 u a).fr (B := w.heap.size) (c := 1) (by simp) h.size (by simp)).fi⟩, h.alloc _⟩
theorem li2 {w u : World} (h : Ex w u) (a b : Int) : LIo w [a, b] (.returned (.slice (some ⟨u.heap.size, 0, none⟩) 2 2)) (u.alloc (.cells #[.int .i64 a, .int .i64 b] 3)) :=
  ⟨_, rfl, ⟨_, _, rfl, ((own2 u a b).fr (B := w.heap.size) (c := 2) (by simp) h.size (by simp)).fi⟩, h.alloc _⟩
theorem li1a (w : World) (o : Obj) (a : Int) : LIo w [a] (.returned (.slice (some ⟨w.heap.size + 1, 0, none⟩) 1 1)) ((w.alloc o).alloc (.cells #[.int .i64 a] 3)) := by
  have q := li1 ((Ex.refl w).alloc o) a
  rw [show (w.alloc o).heap.size = w.heap.size + 1 by simp] at q
  exact q
theorem li2a (w : World) (o : Obj) (a b : Int) : LIo w [a, b] (.returned (.slice (some ⟨w.heap.size + 1, 0, none⟩) 2 2)) ((w.alloc o).alloc (.cells #[.int .i64 a, .int .i64 b] 3)) := by
  have q := li2 ((Ex.refl w).alloc o) a b
  rw [show (w.alloc o).heap.size = w.heap.size + 1 by simp] at q
  exact q
set_option maxHeartbeats 400000 in
theorem operands_c (x : Gt) (w : World) : Calls Tryd.prog 100 #[gtV x] w fun e w' => LIo w (opnd x) e w' := by
  obtain ⟨kd, a, b, vl⟩ := x
  unfold gtV
  dsimp only
  by_cases h3 : kd = 3
  · subst h3
    go_enter Tryd.func100, Tryd.ntmps100
    go_wp2
    go_ret
    exact li2a w _ a b
  by_cases h4 : kd = 4
  · subst h4
    go_enter Tryd.func100, Tryd.ntmps100
    go_wp2
    go_ret
    exact li1a w _ a
  by_cases h5 : kd = 5
  · subst h5
    go_enter Tryd.func100, Tryd.ntmps100
    go_wp2
    go_ret
    exact li1a w _ a
  · have H := Lib.hid (show opnd ⟨kd, a, b, vl⟩ = [] by simp [opnd, h3, h4, h5])
    go_enter Tryd.func100, Tryd.ntmps100
    go_wp2
    go_ret
    rw [H.out]
    exact LIo.nil _ _ ((Ex.refl w).alloc _)
set_option maxHeartbeats 400000 in
theorem crOperands_c (x : Gt) (w : World) : Calls Tryd.prog 85 #[gtV x] w fun e w' => LIo w (opnd x) e w' := by
  obtain ⟨kd, a, b, vl⟩ := x
  unfold gtV
  dsimp only
  by_cases h3 : kd = 3
  · subst h3
    go_enter Tryd.func85, Tryd.ntmps85
    go_wp2
    go_ret
    exact li2a w _ a b
  by_cases h4 : kd = 4
  · subst h4
    go_enter Tryd.func85, Tryd.ntmps85
    go_wp2
    go_ret
    exact li1a w _ a
  by_cases h5 : kd = 5
  · subst h5
    go_enter Tryd.func85, Tryd.ntmps85
    go_wp2
    go_ret
    exact li1a w _ a
  · have H := Lib.hid (show opnd ⟨kd, a, b, vl⟩ = [] by simp [opnd, h3, h4, h5])
    go_enter Tryd.func85, Tryd.ntmps85
    go_wp2
    go_ret
    rw [H.out]
    exact LIo.nil _ _ ((Ex.refl w).alloc _)
set_option maxHeartbeats 400000 in
theorem crCombines_c (x : Gt) (w : World) : Calls Tryd.prog 81 #[gtV x] w fun e w' => e = .returned (.bool (combB x)) ∧ Ex w w' := by
  obtain ⟨kd, a, b, vl⟩ := x
  unfold gtV
  dsimp only
  have x0 : ∀ o, Ex w (w.alloc o) := fun o => (Ex.refl w).alloc o
  by_cases h3 : kd = 3
  · subst h3
    go_enter Tryd.func81, Tryd.ntmps81
    go_wp2
    go_ret
    exact ⟨rfl, x0 _⟩
  · have H := Lib.hid (show combB ⟨kd, a, b, vl⟩ = decide (kd = 4) by simp [combB, h3])
    go_enter Tryd.func81, Tryd.ntmps81
    go_wp2
    go_ret
    exact ⟨ret_bool (by rw [H.out]; by_cases h4 : kd = 4 <;> simp [h4, h3]), x0 _⟩
set_option maxHeartbeats 400000 in
theorem needs_c (x : Gt) (w : World) : Calls Tryd.prog 126 #[gtV x] w fun e w' => LIo w (need x) e w' := by
  have hop := fun W => operands_c x W
  obtain ⟨kd, a, b, vl⟩ := x
  unfold gtV at hop ⊢
  dsimp only at hop ⊢
  by_cases h3 : kd = 3
  · have H := Lib.hid (show need ⟨kd, a, b, vl⟩ = opnd ⟨kd, a, b, vl⟩ by simp [opnd, need, h3])
    subst h3
    go_enter Tryd.func126, Tryd.ntmps126
    go_wp2_with fail
    refine (hop _).mono ?_
    rintro e w1 ⟨v, rfl, f, x1⟩
    go_wp2
    go_ret
    rw [H.out]
    exact ⟨_, rfl, f.more (by simp) (Nat.le_refl _), ((Ex.refl w).alloc _).trans x1⟩
  by_cases h4 : kd = 4
  · have H := Lib.hid (show need ⟨kd, a, b, vl⟩ = opnd ⟨kd, a, b, vl⟩ by simp [opnd, need, h4])
    subst h4
    go_enter Tryd.func126, Tryd.ntmps126
    go_wp2_with fail
    refine (hop _).mono ?_
    rintro e w1 ⟨v, rfl, f, x1⟩
    go_wp2
    go_ret
    rw [H.out]
    exact ⟨_, rfl, f.more (by simp) (Nat.le_refl _), ((Ex.refl w).alloc _).trans x1⟩
  · have H := Lib.hid (show need ⟨kd, a, b, vl⟩ = [] by simp [need, h3, h4])
    have b3 : (kd == 3) = false := by simpa using h3
    have b4 : (kd == 4) = false := by simpa using h4
    clear hop h3 h4
    go_enter Tryd.func126, Tryd.ntmps126
    go_wp2
    go_ret
    rw [H.out]
    exact LIo.nil _ _ ((Ex.refl w).alloc _)
end Go.Proofs.YtgblnkadmieflaaDoor
