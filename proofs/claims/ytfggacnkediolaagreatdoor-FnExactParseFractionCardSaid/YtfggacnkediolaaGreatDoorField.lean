/- Contracts of the functions on fields and lists of elements. -/
import Derived.Test.YtfggacnkediolaaGreatDoorLib
import Derived.Test.YtfggacnkediolaaGreatDoorNum
import Derived.Deep.QuietTactic
import Derived.BigQuiet
namespace Go.Proofs.YtfggacnkediolaaGreatDoor
set_option maxRecDepth 100000
open Go Go.RowKit
/-- The table of the four small primes. -/
def Tb (w : World) : Prop := w.cell? ⟨1, 0, none⟩ = some (.int .i64 2) ∧ w.cell? ⟨1, 1, none⟩ = some (.int .i64 3) ∧ w.cell? ⟨1, 2, none⟩ = some (.int .i64 5) ∧ w.cell? ⟨1, 3, none⟩ = some (.int .i64 7)
theorem Tb.ex {w w' : World} (h : Tb w) (he : Ex w w') : Tb w' := by
  obtain ⟨h0, h1, h2, h3⟩ := h
  have hb := he.block (cell_lt h0)
  exact ⟨(World.cell?_of_block (w := w) (a := ⟨1, 0, none⟩) hb).trans h0, (World.cell?_of_block (w := w) (a := ⟨1, 1, none⟩) hb).trans h1, (World.cell?_of_block (w := w) (a := ⟨1, 2, none⟩) hb).trans h2, (World.cell?_of_block (w := w) (a := ⟨1, 3, none⟩) hb).trans h3⟩
theorem Tb.drew {w : World} (h : Tb w) : Tb w.drew := h
theorem Tb.drewN {w : World} (h : Tb w) (n : Nat) : Tb (w.drewN n) := h
theorem Tb.lt {w : World} (h : Tb w) : 0 < w.heap.size := Nat.lt_of_le_of_lt (Nat.zero_le _) (cell_lt h.1)
theorem ret_bool {a b : Bool} (h : a = b) : Ending.returned (.bool a) = .returned (.bool b) := by rw [h]
theorem ret_int {k : IntKind} {a b : Int} (h : a = b) : Ending.returned (.int k a) = .returned (.int k b) := by rw [h]
set_option maxHeartbeats 400000 in
theorem isElement_c (p a : Int) (w : World) : Calls Tryz.prog 64 #[.int .i64 p, .int .i64 a] w fun e w' => e = .returned (.bool (elB p a)) ∧ w = w' := by
  go_enter Tryz.func64, Tryz.ntmps64
  go_wp2
  all_goals go_ret
  all_goals exact ⟨ret_bool (by simp [elB]; try omega), rfl⟩
set_option maxHeartbeats 400000 in
theorem l1In_c (n lo hi : Int) (w : World) : Calls Tryz.prog 20 #[.int .i64 n, .int .i64 lo, .int .i64 hi] w fun e w' => e = .returned (.bool (inB lo hi n)) ∧ w = w' := by
  go_enter Tryz.func20, Tryz.ntmps20
  go_wp2
  all_goals go_ret
  all_goals exact ⟨ret_bool (by simp [inB]; try omega), rfl⟩
set_option maxHeartbeats 400000 in
theorem isField_c (p : Int) (w : World) (ht : Tb w) : Calls Tryz.prog 41 #[.int .i64 p] w fun e w' => e = .returned (.bool (fieldB p)) ∧ w = w' := by
  obtain ⟨h0, h1, h2, h3⟩ := ht
  by_cases hlo : p < 2
  · go_enter Tryz.func41, Tryz.ntmps41
    go_wp2
    all_goals go_ret
    all_goals exact ⟨ret_bool (by simp [fieldB]; omega), rfl⟩
  by_cases hhi : 97 < p
  · go_enter Tryz.func41, Tryz.ntmps41
    go_wp2
    all_goals go_ret
    all_goals exact ⟨ret_bool (by simp [fieldB]; omega), rfl⟩
  have i0 : ∀ W : World, (Instr.index 88 (.agg #[.int .i64 2, .int .i64 3, .int .i64 5, .int .i64 7]) (.int .i64 0)).run Tryz.prog W = .ok (.int .i64 2) W := fun _ => by kernel_rfl
  have i1 : ∀ W : World, (Instr.index 88 (.agg #[.int .i64 2, .int .i64 3, .int .i64 5, .int .i64 7]) (.int .i64 1)).run Tryz.prog W = .ok (.int .i64 3) W := fun _ => by kernel_rfl
  have i2 : ∀ W : World, (Instr.index 88 (.agg #[.int .i64 2, .int .i64 3, .int .i64 5, .int .i64 7]) (.int .i64 2)).run Tryz.prog W = .ok (.int .i64 5) W := fun _ => by kernel_rfl
  have i3 : ∀ W : World, (Instr.index 88 (.agg #[.int .i64 2, .int .i64 3, .int .i64 5, .int .i64 7]) (.int .i64 3)).run Tryz.prog W = .ok (.int .i64 7) W := fun _ => by kernel_rfl
  go_enter Tryz.func41, Tryz.ntmps41
  go_wp2
  refine wp_loop_rounds 5 ?_
  iterate 5 (all_goals (try (rw [rounds_succ]; go_wp2)))
  all_goals go_ret
  all_goals refine ⟨ret_bool ?_, rfl⟩
  all_goals simp_all [fieldB]
  all_goals omega
set_option maxHeartbeats 400000 in
theorem fdGood_c (p : Int) (w : World) : Calls Tryz.prog 17 #[.int .i64 p] w fun e w' => e = .returned (.bool (fieldB p)) ∧ w = w' := by
  cases hin : inB 2 97 p with
  | false =>
    have hf : fieldB p = false := by
      simp [inB] at hin; simp [fieldB]; omega
    go_enter Tryz.func17, Tryz.ntmps17
    go_wp2_with (go_at_call 20; refine (l1In_c _ _ _ _).mono ?_; rintro e w' ⟨rfl, rfl⟩)
    go_ret
    exact ⟨ret_bool (by rw [hf]), rfl⟩
  | true =>
    have hr : 2 ≤ p ∧ p ≤ 97 := by simpa [inB] using hin
    obtain ⟨h2, h97⟩ := hr
    go_enter Tryz.func17, Tryz.ntmps17
    go_wp2_with (go_at_call 20; refine (l1In_c _ _ _ _).mono ?_; rintro e w' ⟨rfl, rfl⟩)
    have H := Lib.hid hin
    clear hin
    go_loop [3] (fun i => ∃ k : Nat, 2 ≤ k ∧ k ≤ 10 ∧ (∀ j : Nat, 2 ≤ j → j < k → p % (j : Int) ≠ 0) ∧ i = .int .i64 k) (fun i => 10 - (intOf i).toNat)
    case atStart => exact ⟨2, by omega, by omega, fun j _ _ => by omega, rfl⟩
    case round =>
      obtain ⟨k, hk2, hk10, hall, rfl⟩ := hrel
      have hkm : (k : Int) * (k : Int) ≤ 10 * 10 := Int.mul_le_mul (by omega) (by omega) (by omega) (by omega)
      have hk0 : 0 ≤ (k : Int) * (k : Int) := Int.mul_nonneg (by omega) (by omega)
      have Hall := Lib.hid hall
      clear hall
      by_cases hlt : (k : Int) * (k : Int) ≤ p
      · by_cases hm : p % (k : Int) = 0
        · have hf := Lib.hid (fdGood_no h2 h97 k hk2 hlt hm)
          go_wp2
          go_ret
          exact ⟨ret_bool (by rw [hf.out]), rfl⟩
        · have hk9 : k < 10 := by
            rcases Nat.lt_or_ge k 10 with h | h
            · exact h
            · have : (10 : Int) * 10 ≤ (k : Int) * (k : Int) := Int.mul_le_mul (by omega) (by omega) (by omega) (by omega)
              omega
          have hne : (p % (k : Int) == 0) = false := by simpa using hm
          go_wp2
          go_round
          case rel => exact ⟨k + 1, by omega, by omega, fun j h1 h3 => by
            rcases Nat.lt_or_ge j k with h | h
            · exact Hall.out j h1 h
            · obtain rfl : j = k := by omega
              exact hm, by go_num⟩
          case measure => simp [intOf]; omega
      · have hf := Lib.hid (fdGood_yes h2 h97 k (by omega) Hall.out)
        go_wp2
        go_ret
        exact ⟨ret_bool (by rw [hf.out]), rfl⟩
set_option maxHeartbeats 400000 in
theorem zeros_c (n : Nat) (hn : n ≤ 1099511627776) (w : World) : Calls Tryz.prog 36 #[.int .i64 n] w fun e w' => ∃ g, e = .returned (.slice (some ⟨g, 0, none⟩) n n) ∧ w.heap.size ≤ g ∧ Blk w' g (List.replicate n 0) ∧ Ex w w' := by
  have hmk := fun W => run_make_ints n hn W
  go_enter Tryz.func36, Tryz.ntmps36
  go_wp2
  go_ret
  exact ⟨_, rfl, Nat.le_refl _, Blk.new w _, (Ex.refl w).alloc _⟩
theorem all_take_succ {p : Int → Bool} {xs : List Int} {k : Nat} {x : Int} (hx : xs[k]? = some x) (ha : (xs.take k).all p = true) (hp : p x = true) : (xs.take (k + 1)).all p = true := by
  rw [List.take_add_one, hx]
  simp [ha, hp]
theorem all_false_of {p : Int → Bool} {xs : List Int} {k : Nat} {x : Int} (hx : xs[k]? = some x) (hp : p x = false) : xs.all p = false :=
  List.all_eq_false.2 ⟨x, List.mem_of_getElem? hx, by simp [hp]⟩
set_option maxHeartbeats 400000 in
theorem isVector_c (p : Int) (A : Option Addr) (c : Nat) (xs : List Int) (n : Int) (w : World) (h : Rd w A xs) :
    Calls Tryz.prog 42 #[.int .i64 p, .slice A xs.length c, .int .i64 n] w fun e w' => e = .returned (.bool (decide ((xs.length : Int) = n) && allEl p xs)) ∧ w = w' := by
  have hl := h.len
  by_cases hn : (xs.length : Int) = n
  · subst hn
    go_enter Tryz.func42, Tryz.ntmps42
    go_wp2
    go_loop [15] (fun i => ∃ k : Nat, k ≤ xs.length ∧ (xs.take k).all (elB p) = true ∧ i = .int .i64 k) (fun i => xs.length - (intOf i).toNat)
    case atStart => exact ⟨0, Nat.zero_le _, rfl, rfl⟩
    case round =>
      obtain ⟨k, hk, hall, rfl⟩ := hrel
      have Hall := Lib.hid hall
      clear hall
      by_cases hlt : k < xs.length
      · obtain ⟨g, off, x, rfl, hx, hg, hc⟩ := h.at_ hlt
        have Hx := Lib.hid hx
        clear hx
        cases hel : elB p x with
        | true =>
          have Hel := Lib.hid hel
          go_wp2_with (go_at_call 64; refine (isElement_c _ _ _).mono ?_; rintro e w' ⟨rfl, rfl⟩)
          go_round
          case rel => exact ⟨k + 1, by omega, all_take_succ Hx.out Hall.out Hel.out, by go_num⟩
          case measure => simp [intOf]; omega
        | false =>
          have Hel := Lib.hid hel
          go_wp2_with (go_at_call 64; refine (isElement_c _ _ _).mono ?_; rintro e w' ⟨rfl, rfl⟩)
          go_ret
          exact ⟨ret_bool (by simp [allEl, all_false_of Hx.out Hel.out]), rfl⟩
      · obtain rfl : k = xs.length := by omega
        go_wp2
        go_ret
        exact ⟨ret_bool (by have := Hall.out; rw [List.take_length] at this; simp [allEl, this]), rfl⟩
  · have hn' : ((xs.length : Int) != n) = true := by simpa using hn
    go_enter Tryz.func42, Tryz.ntmps42
    go_wp2
    go_ret
    exact ⟨ret_bool (by simp [hn]), rfl⟩
set_option maxHeartbeats 400000 in
theorem l1All_c (A : Option Addr) (c : Nat) (xs : List Int) (lo hi : Int) (w : World) (h : Rd w A xs) :
    Calls Tryz.prog 50 #[.slice A xs.length c, .int .i64 lo, .int .i64 hi] w fun e w' => e = .returned (.bool (xs.all (inB lo hi))) ∧ w = w' := by
  have hl := h.len
  go_enter Tryz.func50, Tryz.ntmps50
  go_wp2
  go_loop [11] (fun i => ∃ k : Nat, k ≤ xs.length ∧ (xs.take k).all (inB lo hi) = true ∧ i = .int .i64 k) (fun i => xs.length - (intOf i).toNat)
  case atStart => exact ⟨0, Nat.zero_le _, rfl, rfl⟩
  case round =>
    obtain ⟨k, hk, hall, rfl⟩ := hrel
    have Hall := Lib.hid hall
    clear hall
    by_cases hlt : k < xs.length
    · obtain ⟨g, off, x, rfl, hx, hg, hc⟩ := h.at_ hlt
      have Hx := Lib.hid hx
      clear hx
      cases hel : inB lo hi x with
      | true =>
        have Hel := Lib.hid hel
        go_wp2_with (go_at_call 20; refine (l1In_c _ _ _ _).mono ?_; rintro e w' ⟨rfl, rfl⟩)
        go_round
        case rel => exact ⟨k + 1, by omega, all_take_succ Hx.out Hall.out Hel.out, by go_num⟩
        case measure => simp [intOf]; omega
      | false =>
        have Hel := Lib.hid hel
        go_wp2_with (go_at_call 20; refine (l1In_c _ _ _ _).mono ?_; rintro e w' ⟨rfl, rfl⟩)
        go_ret
        exact ⟨ret_bool (by rw [all_false_of Hx.out Hel.out]), rfl⟩
    · obtain rfl : k = xs.length := by omega
      go_wp2
      go_ret
      exact ⟨ret_bool (by have := Hall.out; rw [List.take_length] at this; rw [this]), rfl⟩
set_option maxHeartbeats 400000 in
theorem fdIn_c (p : Int) (A : Option Addr) (c : Nat) (xs : List Int) (w : World) (h : Rd w A xs) (h2 : 2 ≤ p) (h97 : p ≤ 97) :
    Calls Tryz.prog 32 #[.int .i64 p, .slice A xs.length c] w fun e w' => e = .returned (.bool (allEl p xs)) ∧ w = w' := by
  go_enter Tryz.func32, Tryz.ntmps32
  go_wp2_with (go_at_call 50; refine (l1All_c _ _ _ _ _ _ h).mono ?_; rintro e w' ⟨rfl, rfl⟩)
  go_ret
  exact ⟨ret_bool (by rw [inB_el]; rfl), rfl⟩
theorem within_c (n lo hi : Int) (w : World) : Calls Tryz.prog 39 #[.int .i64 n, .int .i64 lo, .int .i64 hi] w fun e w' => e = .returned (.bool (inB lo hi n)) ∧ w = w' := by
  go_enter Tryz.func39, Tryz.ntmps39
  go_wp2
  all_goals go_ret
  all_goals exact ⟨ret_bool (by simp [inB]; try omega), rfl⟩
end Go.Proofs.YtfggacnkediolaaGreatDoor
