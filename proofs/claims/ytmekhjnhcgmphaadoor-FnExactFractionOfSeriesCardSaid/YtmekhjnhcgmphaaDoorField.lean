/- Contracts of the functions on fields and lists of elements. -/
import Derived.Test.YtmekhjnhcgmphaaDoorLib
import Derived.Test.YtmekhjnhcgmphaaDoorNum
import Derived.Deep.QuietTactic
import Derived.BigQuiet
namespace Go.Proofs.YtmekhjnhcgmphaaDoor
set_option maxRecDepth 100000
open Go Go.RowKit
/-- The table of the four small primes. -/
def Tb (w : World) : Prop := w.cell? ⟨0, 0, none⟩ = some (.int .i64 2) ∧ w.cell? ⟨0, 1, none⟩ = some (.int .i64 3) ∧ w.cell? ⟨0, 2, none⟩ = some (.int .i64 5) ∧ w.cell? ⟨0, 3, none⟩ = some (.int .i64 7)
theorem Tb.ex {w w' : World} (h : Tb w) (he : Ex w w') : Tb w' := by
  obtain ⟨h0, h1, h2, h3⟩ := h
  have hb := he.block (cell_lt h0)
  exact ⟨(World.cell?_of_block (w := w) (a := ⟨0, 0, none⟩) hb).trans h0, (World.cell?_of_block (w := w) (a := ⟨0, 1, none⟩) hb).trans h1, (World.cell?_of_block (w := w) (a := ⟨0, 2, none⟩) hb).trans h2, (World.cell?_of_block (w := w) (a := ⟨0, 3, none⟩) hb).trans h3⟩
theorem Tb.drew {w : World} (h : Tb w) : Tb w.drew := h
theorem Tb.drewN {w : World} (h : Tb w) (n : Nat) : Tb (w.drewN n) := h
theorem Tb.lt {w : World} (h : Tb w) : 0 < w.heap.size := Nat.lt_of_le_of_lt (Nat.zero_le _) (cell_lt h.1)
theorem ret_bool {a b : Bool} (h : a = b) : Ending.returned (.bool a) = .returned (.bool b) := by rw [h]
theorem ret_int {k : IntKind} {a b : Int} (h : a = b) : Ending.returned (.int k a) = .returned (.int k b) := by rw [h]
set_option maxHeartbeats 400000 in
theorem isElement_c (p a : Int) (w : World) : Calls Tryd.prog 90 #[.int .i64 p, .int .i64 a] w fun e w' => e = .returned (.bool (elB p a)) ∧ w = w' := by
  go_enter Tryd.func90, Tryd.ntmps90
  go_wp2
  all_goals go_ret
  all_goals exact ⟨ret_bool (by simp [elB]; try omega), rfl⟩
set_option maxHeartbeats 400000 in
theorem l1In_c (n lo hi : Int) (w : World) : Calls Tryd.prog 45 #[.int .i64 n, .int .i64 lo, .int .i64 hi] w fun e w' => e = .returned (.bool (inB lo hi n)) ∧ w = w' := by
  go_enter Tryd.func45, Tryd.ntmps45
  go_wp2
  all_goals go_ret
  all_goals exact ⟨ret_bool (by simp [inB]; try omega), rfl⟩
set_option maxHeartbeats 400000 in
theorem isField_c (p : Int) (w : World) (ht : Tb w) : Calls Tryd.prog 50 #[.int .i64 p] w fun e w' => e = .returned (.bool (fieldB p)) ∧ w = w' := by
  obtain ⟨h0, h1, h2, h3⟩ := ht
  by_cases hlo : p < 2
  · go_enter Tryd.func50, Tryd.ntmps50
    go_wp2
    all_goals go_ret
    all_goals exact ⟨ret_bool (by simp [fieldB]; omega), rfl⟩
  by_cases hhi : 97 < p
  · go_enter Tryd.func50, Tryd.ntmps50
    go_wp2
    all_goals go_ret
    all_goals exact ⟨ret_bool (by simp [fieldB]; omega), rfl⟩
  have i0 : ∀ W : World, (Instr.index 94 (.agg #[.int .i64 2, .int .i64 3, .int .i64 5, .int .i64 7]) (.int .i64 0)).run Tryd.prog W = .ok (.int .i64 2) W := fun _ => by kernel_rfl
  have i1 : ∀ W : World, (Instr.index 94 (.agg #[.int .i64 2, .int .i64 3, .int .i64 5, .int .i64 7]) (.int .i64 1)).run Tryd.prog W = .ok (.int .i64 3) W := fun _ => by kernel_rfl
  have i2 : ∀ W : World, (Instr.index 94 (.agg #[.int .i64 2, .int .i64 3, .int .i64 5, .int .i64 7]) (.int .i64 2)).run Tryd.prog W = .ok (.int .i64 5) W := fun _ => by kernel_rfl
  have i3 : ∀ W : World, (Instr.index 94 (.agg #[.int .i64 2, .int .i64 3, .int .i64 5, .int .i64 7]) (.int .i64 3)).run Tryd.prog W = .ok (.int .i64 7) W := fun _ => by kernel_rfl
  go_enter Tryd.func50, Tryd.ntmps50
  go_wp2
  refine wp_loop_rounds 5 ?_
  iterate 5 (all_goals (try (rw [rounds_succ]; go_wp2)))
  all_goals go_ret
  all_goals refine ⟨ret_bool ?_, rfl⟩
  all_goals simp_all [fieldB]
  all_goals omega
set_option maxHeartbeats 400000 in
theorem fdGood_c (p : Int) (w : World) : Calls Tryd.prog 58 #[.int .i64 p] w fun e w' => e = .returned (.bool (fieldB p)) ∧ w = w' := by
  cases hin : inB 2 97 p with
  | false =>
    have hf : fieldB p = false := by
      simp [inB] at hin; simp [fieldB]; omega
    go_enter Tryd.func58, Tryd.ntmps58
    go_wp2_with (go_at_call 45; refine (l1In_c _ _ _ _).mono ?_; rintro e w' ⟨rfl, rfl⟩)
    go_ret
    exact ⟨ret_bool (by rw [hf]), rfl⟩
  | true =>
    have hr : 2 ≤ p ∧ p ≤ 97 := by simpa [inB] using hin
    obtain ⟨h2, h97⟩ := hr
    go_enter Tryd.func58, Tryd.ntmps58
    go_wp2_with (go_at_call 45; refine (l1In_c _ _ _ _).mono ?_; rintro e w' ⟨rfl, rfl⟩)
    have H := Lib.hid hin
    clear hin
    go_loop [3] (fun i => ∃ k : Nat, 2 ≤ k ∧ k ≤ 10 ∧ (∀ j : Nat, 2 ≤ j → j < k → p % (j : Int) ≠ 0) ∧ i = .int .i64 k) (fun i => 10 - (intOf i).toNat)
    case atStart => exact ⟨2, by omega, by omega, fun j _ _ => by omega, rfl⟩
    case round =>
      obtain ⟨k, hk2, hk10, hall, rfl⟩ := hrel
      have hkm : (k : Int) * (k : Int) ≤ 10 * 10 := Int.mul_le_mul (by omega) (by omega) (by omega) (by omega)
      have hk0 : 0 ≤ (k : Int) * (k : Int) := Int.mul_nonneg (by omega) (by omega)
      have Hall := Lib.hid hall
      clear hall
      by_cases hlt : (k : Int) * (k : Int) ≤ p
      · by_cases hm : p % (k : Int) = 0
        · have hf := Lib.hid (fdGood_no h2 h97 k hk2 hlt hm)
          go_wp2
          go_ret
          exact ⟨ret_bool (by rw [hf.out]), rfl⟩
        · have hk9 : k < 10 := by
            rcases Nat.lt_or_ge k 10 with h | h
            · exact h
            · have : (10 : Int) * 10 ≤ (k : Int) * (k : Int) := Int.mul_le_mul (by omega) (by omega) (by omega) (by omega)
              omega
          have hne : (p % (k : Int) == 0) = false := by simpa using hm
          go_wp2
          go_round
          case rel => exact ⟨k + 1, by omega, by omega, fun j h1 h3 => by
            rcases Nat.lt_or_ge j k with h | h
            · exact Hall.out j h1 h
            · obtain rfl : j = k := by omega
              exact hm, by go_num⟩
          case measure => simp [intOf]; omega
      · have hf := Lib.hid (fdGood_yes h2 h97 k (by omega) Hall.out)
        go_wp2
        go_ret
        exact ⟨ret_bool (by rw [hf.out]), rfl⟩
set_option maxHeartbeats 400000 in
theorem zeros_c (n : Nat) (hn : n ≤ 1099511627776) (w : World) : Calls Tryd.prog 67 #[.int .i64 n] w fun e w' => ∃ g, e = .returned (.slice (some ⟨g, 0, none⟩) n n) ∧ w.heap.size ≤ g ∧ Blk w' g (List.replicate n 0) ∧ Ex w w' := by
  have hmk := fun W => run_make_ints n hn W
  go_enter Tryd.func67, Tryd.ntmps67
  go_wp2
  go_ret
  exact ⟨_, rfl, Nat.le_refl _, Blk.new w _, (Ex.refl w).alloc _⟩
set_option maxHeartbeats 400000 in
theorem coefficient_c (A : Option Addr) (c : Nat) (xs : List Int) (e : Int) (he : 0 ≤ e) (w : World) (h : Rd w A xs) :
    Calls Tryd.prog 65 #[.slice A xs.length c, .int .i64 e] w fun r w' => r = .returned (.int .i64 (xs[e.toNat]?.getD 0)) ∧ w = w' := by
  have hl := h.len
  obtain ⟨k, rfl⟩ := Int.eq_ofNat_of_zero_le he
  rw [Int.toNat_natCast]
  by_cases hk : k < xs.length
  · obtain ⟨g, off, x, rfl, hx, hg, hc⟩ := h.at_ hk
    have hx' : xs[k]?.getD 0 = x := by rw [hx]; rfl
    have H := Lib.hid hx'
    clear hx hx'
    go_enter Tryd.func65, Tryd.ntmps65
    go_wp2
    go_ret
    exact ⟨by rw [H.out]; rfl, rfl⟩
  · have H := Lib.hid (show xs[k]?.getD 0 = 0 by rw [List.getElem?_eq_none (by omega)]; rfl)
    go_enter Tryd.func65, Tryd.ntmps65
    go_wp2
    go_ret
    exact ⟨by rw [H.out]; rfl, rfl⟩
theorem all_take_succ {p : Int → Bool} {xs : List Int} {k : Nat} {x : Int} (hx : xs[k]? = some x) (ha : (xs.take k).all p = true) (hp : p x = true) : (xs.take (k + 1)).all p = true := by
  rw [List.take_add_one, hx]
  simp [ha, hp]
theorem all_false_of {p : Int → Bool} {xs : List Int} {k : Nat} {x : Int} (hx : xs[k]? = some x) (hp : p x = false) : xs.all p = false :=
  List.all_eq_false.2 ⟨x, List.mem_of_getElem? hx, by simp [hp]⟩
set_option maxHeartbeats 400000 in
theorem isVector_c (p : Int) (A : Option Addr) (c : Nat) (xs : List Int) (n : Int) (w : World) (h : Rd w A xs) :
    Calls Tryd.prog 64 #[.int .i64 p, .slice A xs.length c, .int .i64 n] w fun e w' => e = .returned (.bool (decide ((xs.length : Int) = n) && allEl p xs)) ∧ w = w' := by
  have hl := h.len
  by_cases hn : (xs.length : Int) = n
  · subst hn
    go_enter Tryd.func64, Tryd.ntmps64
    go_wp2
    go_loop [15] (fun i => ∃ k : Nat, k ≤ xs.length ∧ (xs.take k).all (elB p) = true ∧ i = .int .i64 k) (fun i => xs.length - (intOf i).toNat)
    case atStart => exact ⟨0, Nat.zero_le _, rfl, rfl⟩
    case round =>
      obtain ⟨k, hk, hall, rfl⟩ := hrel
      have Hall := Lib.hid hall
      clear hall
      by_cases hlt : k < xs.length
      · obtain ⟨g, off, x, rfl, hx, hg, hc⟩ := h.at_ hlt
        have Hx := Lib.hid hx
        clear hx
        cases hel : elB p x with
        | true =>
          have Hel := Lib.hid hel
          go_wp2_with (go_at_call 90; refine (isElement_c _ _ _).mono ?_; rintro e w' ⟨rfl, rfl⟩)
          go_round
          case rel => exact ⟨k + 1, by omega, all_take_succ Hx.out Hall.out Hel.out, by go_num⟩
          case measure => simp [intOf]; omega
        | false =>
          have Hel := Lib.hid hel
          go_wp2_with (go_at_call 90; refine (isElement_c _ _ _).mono ?_; rintro e w' ⟨rfl, rfl⟩)
          go_ret
          exact ⟨ret_bool (by simp [allEl, all_false_of Hx.out Hel.out]), rfl⟩
      · obtain rfl : k = xs.length := by omega
        go_wp2
        go_ret
        exact ⟨ret_bool (by have := Hall.out; rw [List.take_length] at this; simp [allEl, this]), rfl⟩
  · have hn' : ((xs.length : Int) != n) = true := by simpa using hn
    go_enter Tryd.func64, Tryd.ntmps64
    go_wp2
    go_ret
    exact ⟨ret_bool (by simp [hn]), rfl⟩
set_option maxHeartbeats 400000 in
theorem l1All_c (A : Option Addr) (c : Nat) (xs : List Int) (lo hi : Int) (w : World) (h : Rd w A xs) :
    Calls Tryd.prog 83 #[.slice A xs.length c, .int .i64 lo, .int .i64 hi] w fun e w' => e = .returned (.bool (xs.all (inB lo hi))) ∧ w = w' := by
  have hl := h.len
  go_enter Tryd.func83, Tryd.ntmps83
  go_wp2
  go_loop [11] (fun i => ∃ k : Nat, k ≤ xs.length ∧ (xs.take k).all (inB lo hi) = true ∧ i = .int .i64 k) (fun i => xs.length - (intOf i).toNat)
  case atStart => exact ⟨0, Nat.zero_le _, rfl, rfl⟩
  case round =>
    obtain ⟨k, hk, hall, rfl⟩ := hrel
    have Hall := Lib.hid hall
    clear hall
    by_cases hlt : k < xs.length
    · obtain ⟨g, off, x, rfl, hx, hg, hc⟩ := h.at_ hlt
      have Hx := Lib.hid hx
      clear hx
      cases hel : inB lo hi x with
      | true =>
        have Hel := Lib.hid hel
        go_wp2_with (go_at_call 45; refine (l1In_c _ _ _ _).mono ?_; rintro e w' ⟨rfl, rfl⟩)
        go_round
        case rel => exact ⟨k + 1, by omega, all_take_succ Hx.out Hall.out Hel.out, by go_num⟩
        case measure => simp [intOf]; omega
      | false =>
        have Hel := Lib.hid hel
        go_wp2_with (go_at_call 45; refine (l1In_c _ _ _ _).mono ?_; rintro e w' ⟨rfl, rfl⟩)
        go_ret
        exact ⟨ret_bool (by rw [all_false_of Hx.out Hel.out]), rfl⟩
    · obtain rfl : k = xs.length := by omega
      go_wp2
      go_ret
      exact ⟨ret_bool (by have := Hall.out; rw [List.take_length] at this; rw [this]), rfl⟩
set_option maxHeartbeats 400000 in
theorem fdIn_c (p : Int) (A : Option Addr) (c : Nat) (xs : List Int) (w : World) (h : Rd w A xs) (h2 : 2 ≤ p) (h97 : p ≤ 97) :
    Calls Tryd.prog 59 #[.int .i64 p, .slice A xs.length c] w fun e w' => e = .returned (.bool (allEl p xs)) ∧ w = w' := by
  go_enter Tryd.func59, Tryd.ntmps59
  go_wp2_with (go_at_call 83; refine (l1All_c _ _ _ _ _ _ h).mono ?_; rintro e w' ⟨rfl, rfl⟩)
  go_ret
  exact ⟨ret_bool (by rw [inB_el]; rfl), rfl⟩
/-- p is a field and xs a series over it. -/
def serB (p : Int) (xs : List Int) : Bool := fieldB p && decide (xs.length ≤ 60) && allEl p xs
set_option maxHeartbeats 400000 in
theorem frList_c (p : Int) (A : Option Addr) (c : Nat) (xs : List Int) (w : World) (h : Rd w A xs) :
    Calls Tryd.prog 35 #[.int .i64 p, .slice A xs.length c] w fun e w' => e = .returned (.bool (serB p xs)) ∧ w = w' := by
  have hl := h.len
  cases hf : fieldB p with
  | false =>
    go_enter Tryd.func35, Tryd.ntmps35
    go_wp2_with (go_at_call 58; refine (fdGood_c _ _).mono ?_; rintro e w' ⟨rfl, rfl⟩)
    go_ret
    exact ⟨ret_bool (by simp [serB, hf]), rfl⟩
  | true =>
    have h2 := fieldB_lo hf
    have h97 := fieldB_hi hf
    by_cases h60 : xs.length ≤ 60
    · go_enter Tryd.func35, Tryd.ntmps35
      go_wp2_with (first | (go_at_call 58; refine (fdGood_c _ _).mono ?_; rintro e w' ⟨rfl, rfl⟩) | (go_at_call 59; refine (fdIn_c _ _ _ _ _ h h2 h97).mono ?_; rintro e w' ⟨rfl, rfl⟩))
      go_ret
      exact ⟨ret_bool (by simp [serB, hf, h60]), rfl⟩
    · go_enter Tryd.func35, Tryd.ntmps35
      go_wp2_with (go_at_call 58; refine (fdGood_c _ _).mono ?_; rintro e w' ⟨rfl, rfl⟩)
      go_ret
      exact ⟨ret_bool (by simp [serB, h60]), rfl⟩
set_option maxHeartbeats 400000 in
theorem isSeries_c (p : Int) (A : Option Addr) (c : Nat) (xs : List Int) (w : World) (h : Rd w A xs) (ht : Tb w) :
    Calls Tryd.prog 37 #[.int .i64 p, .slice A xs.length c] w fun e w' => e = .returned (.bool (serB p xs)) ∧ w = w' := by
  have hl := h.len
  cases hf : fieldB p with
  | false =>
    go_enter Tryd.func37, Tryd.ntmps37
    go_wp2_with (go_at_call 50; refine (isField_c _ _ ht).mono ?_; rintro e w' ⟨rfl, rfl⟩)
    go_ret
    exact ⟨ret_bool (by simp [serB, hf]), rfl⟩
  | true =>
    by_cases h60 : xs.length ≤ 60
    · go_enter Tryd.func37, Tryd.ntmps37
      go_wp2_with (first | (go_at_call 50; refine (isField_c _ _ ht).mono ?_; rintro e w' ⟨rfl, rfl⟩) | (go_at_call 64; refine (isVector_c _ _ _ _ _ _ h).mono ?_; rintro e w' ⟨rfl, rfl⟩))
      go_ret
      exact ⟨ret_bool (by simp [serB, hf, h60]), rfl⟩
    · go_enter Tryd.func37, Tryd.ntmps37
      go_wp2_with (go_at_call 50; refine (isField_c _ _ ht).mono ?_; rintro e w' ⟨rfl, rfl⟩)
      go_ret
      exact ⟨ret_bool (by simp [serB, h60]), rfl⟩
end Go.Proofs.YtmekhjnhcgmphaaDoor
