/- Contracts of the functions on fields and lists of elements. -/
import Derived.Test.YtgblnkadmieflaaLib
import Derived.Test.YtgblnkadmieflaaNum
import Derived.Deep.QuietTactic
import Derived.BigQuiet
namespace Go.Proofs.Ytgblnkadmieflaa
set_option maxRecDepth 100000
open Go Go.RowKit
theorem ret_bool {a b : Bool} (h : a = b) : Ending.returned (.bool a) = .returned (.bool b) := by rw [h]
theorem ret_int {k : IntKind} {a b : Int} (h : a = b) : Ending.returned (.int k a) = .returned (.int k b) := by rw [h]
set_option maxHeartbeats 400000 in
theorem l1In_c (n lo hi : Int) (w : World) : Calls Try.prog 56 #[.int .i64 n, .int .i64 lo, .int .i64 hi] w fun e w' => e = .returned (.bool (inB lo hi n)) ∧ w = w' := by
  go_enter Try.func56, Try.ntmps56
  go_wp2
  all_goals go_ret
  all_goals exact ⟨ret_bool (by simp [inB]; try omega), rfl⟩
set_option maxHeartbeats 400000 in
theorem zeros_c (n : Nat) (hn : n ≤ 1099511627776) (w : World) : Calls Try.prog 62 #[.int .i64 n] w fun e w' => ∃ g, e = .returned (.slice (some ⟨g, 0, none⟩) n n) ∧ w.heap.size ≤ g ∧ Blk w' g (List.replicate n 0) ∧ Ex w w' := by
  have hmk := fun W => run_make_ints n hn W
  go_enter Try.func62, Try.ntmps62
  go_wp2
  go_ret
  exact ⟨_, rfl, Nat.le_refl _, Blk.new w _, (Ex.refl w).alloc _⟩
theorem all_take_succ {p : Int → Bool} {xs : List Int} {k : Nat} {x : Int} (hx : xs[k]? = some x) (ha : (xs.take k).all p = true) (hp : p x = true) : (xs.take (k + 1)).all p = true := by
  rw [List.take_add_one, hx]
  simp [ha, hp]
theorem all_false_of {p : Int → Bool} {xs : List Int} {k : Nat} {x : Int} (hx : xs[k]? = some x) (hp : p x = false) : xs.all p = false :=
  List.all_eq_false.2 ⟨x, List.mem_of_getElem? hx, by simp [hp]⟩
set_option maxHeartbeats 400000 in
theorem l1All_c (A : Option Addr) (c : Nat) (xs : List Int) (lo hi : Int) (w : World) (h : Rd w A xs) :
    Calls Try.prog 55 #[.slice A xs.length c, .int .i64 lo, .int .i64 hi] w fun e w' => e = .returned (.bool (xs.all (inB lo hi))) ∧ w = w' := by
  have hl := h.len
  go_enter Try.func55, Try.ntmps55
  go_wp2
  go_loop [11] (fun i => ∃ k : Nat, k ≤ xs.length ∧ (xs.take k).all (inB lo hi) = true ∧ i = .int .i64 k) (fun i => xs.length - (intOf i).toNat)
  case atStart => exact ⟨0, Nat.zero_le _, rfl, rfl⟩
  case round =>
    obtain ⟨k, hk, hall, rfl⟩ := hrel
    have Hall := Lib.hid hall
    clear hall
    by_cases hlt : k < xs.length
    · obtain ⟨g, off, x, rfl, hx, hg, hc⟩ := h.at_ hlt
      have Hx := Lib.hid hx
      clear hx
      cases hel : inB lo hi x with
      | true =>
        have Hel := Lib.hid hel
        go_wp2_with (go_at_call 56; refine (l1In_c _ _ _ _).mono ?_; rintro e w' ⟨rfl, rfl⟩)
        go_round
        case rel => exact ⟨k + 1, by omega, all_take_succ Hx.out Hall.out Hel.out, by go_num⟩
        case measure => simp [intOf]; omega
      | false =>
        have Hel := Lib.hid hel
        go_wp2_with (go_at_call 56; refine (l1In_c _ _ _ _).mono ?_; rintro e w' ⟨rfl, rfl⟩)
        go_ret
        exact ⟨ret_bool (by rw [all_false_of Hx.out Hel.out]), rfl⟩
    · obtain rfl : k = xs.length := by omega
      go_wp2
      go_ret
      exact ⟨ret_bool (by have := Hall.out; rw [List.take_length] at this; rw [this]), rfl⟩
theorem within_c (n lo hi : Int) (w : World) : Calls Try.prog 61 #[.int .i64 n, .int .i64 lo, .int .i64 hi] w fun e w' => e = .returned (.bool (inB lo hi n)) ∧ w = w' := by
  go_enter Try.func61, Try.ntmps61
  go_wp2
  all_goals go_ret
  all_goals exact ⟨ret_bool (by simp [inB]; try omega), rfl⟩
end Go.Proofs.Ytgblnkadmieflaa
