/- Contracts: tables of elements, state spaces, on both sides. -/
import Derived.Test.YtkpfmnconnopnaaDoorMat
import Derived.Test.YtkpfmnconnopnaaDoorSeries
namespace Go.Proofs.YtkpfmnconnopnaaDoor
set_option maxRecDepth 100000
open Go Go.RowKit
/-- Each row has n elements of the field. -/
def rowsB (p : Int) (n : Int) (m : List (List Int)) : Bool := m.all fun r => decide ((r.length : Int) = n) && allEl p r
set_option maxHeartbeats 1000000 in
theorem spRows_c (p n : Int) (A : Option Addr) (c : Nat) (m : List (List Int)) (w : World) (h : RdM w A m) (h2 : 2 ≤ p) (h97 : p ≤ 97) :
    Calls Tryd.prog 83 #[.int .i64 p, .int .i64 n, .slice A m.length c] w fun e w' => e = .returned (.bool (rowsB p n m)) ∧ w = w' := by
  have hl := h.1
  go_enter Tryd.func83, Tryd.ntmps83
  go_wp2_with fail
  go_loop [11] (fun i => ∃ k : Nat, k ≤ m.length ∧ Hid (rowsB p n (m.take k) = true) ∧ i = .int .i64 k) (fun i => m.length - (intOf i).toNat)
  case atStart => exact ⟨0, Nat.zero_le _, rfl, rfl⟩
  case round =>
    obtain ⟨k, hk, Hall, rfl⟩ := hrel
    by_cases hlt : k < m.length
    · obtain ⟨g, off, B, d, r, rfl, hr, hc, hrd⟩ := h.at_ hlt
      have Hr := Lib.hid hr
      clear hr
      have hrl := hrd.len
      have no : (decide ((r.length : Int) = n) && allEl p r) = false → rowsB p n m = false := fun hh => List.all_eq_false.2 ⟨r, List.mem_of_getElem? Hr.out, by simpa using hh⟩
      have No := Lib.hid no
      clear no
      by_cases hn : (r.length : Int) = n
      · cases he : allEl p r with
        | true =>
          have He := Lib.hid he
          go_wp2_with (go_at_call 115; refine (fdIn_c _ _ _ _ _ hrd h2 h97).mono ?_; rintro e w' ⟨rfl, rfl⟩)
          go_round
          case rel => exact ⟨k + 1, by omega, by
            show _ = true
            have := Hall.out
            rw [rowsB] at this ⊢
            rw [List.take_add_one, Hr.out, List.all_append, this]; simp [He.out, hn], by go_num⟩
          case measure => simp [intOf] <;> omega
        | false =>
          have He := Lib.hid he
          go_wp2_with (go_at_call 115; refine (fdIn_c _ _ _ _ _ hrd h2 h97).mono ?_; rintro e w' ⟨rfl, rfl⟩)
          go_ret
          exact ⟨ret_bool (by rw [No.out (by rw [He.out, Bool.and_false])]), rfl⟩
      · have hb : ((r.length : Int) != n) = true := by simpa using hn
        go_wp2
        go_ret
        exact ⟨ret_bool (by rw [No.out (by simp [hn])]), rfl⟩
    · obtain rfl : k = m.length := by omega
      go_wp2
      go_ret
      exact ⟨ret_bool (by have := Hall.out; rw [List.take_length] at this; rw [this]), rfl⟩
set_option maxHeartbeats 1000000 in
theorem areVectors_c (p n : Int) (A : Option Addr) (c : Nat) (m : List (List Int)) (w : World) (h : RdM w A m) :
    Calls Tryd.prog 89 #[.int .i64 p, .slice A m.length c, .int .i64 n] w fun e w' => e = .returned (.bool (rowsB p n m)) ∧ w = w' := by
  have hl := h.1
  go_enter Tryd.func89, Tryd.ntmps89
  go_wp2_with fail
  go_loop [11] (fun i => ∃ k : Nat, k ≤ m.length ∧ Hid (rowsB p n (m.take k) = true) ∧ i = .int .i64 k) (fun i => m.length - (intOf i).toNat)
  case atStart => exact ⟨0, Nat.zero_le _, rfl, rfl⟩
  case round =>
    obtain ⟨k, hk, Hall, rfl⟩ := hrel
    by_cases hlt : k < m.length
    · obtain ⟨g, off, B, d, r, rfl, hr, hc, hrd⟩ := h.at_ hlt
      have Hr := Lib.hid hr
      clear hr
      cases he : (decide ((r.length : Int) = n) && allEl p r) with
      | true =>
        have He := Lib.hid he
        clear he
        go_wp2_with (go_at_call 125; refine (isVector_c _ _ _ _ _ _ hrd).mono ?_; rintro e w' ⟨rfl, rfl⟩; rw [He.out])
        go_round
        case rel => exact ⟨k + 1, by omega, by
          show _ = true
          have := Hall.out
          rw [rowsB] at this ⊢
          rw [List.take_add_one, Hr.out, List.all_append, this]; simpa using He.out, by go_num⟩
        case measure => simp [intOf] <;> omega
      | false =>
        have He := Lib.hid he
        clear he
        go_wp2_with (go_at_call 125; refine (isVector_c _ _ _ _ _ _ hrd).mono ?_; rintro e w' ⟨rfl, rfl⟩; rw [He.out])
        go_ret
        exact ⟨ret_bool (by rw [show rowsB p n m = false from List.all_eq_false.2 ⟨r, List.mem_of_getElem? Hr.out, by simpa using He.out⟩]), rfl⟩
    · obtain rfl : k = m.length := by omega
      go_wp2
      go_ret
      exact ⟨ret_bool (by have := Hall.out; rw [List.take_length] at this; rw [this]), rfl⟩
/-- A table of so many rows of so many elements of the field. -/
def tabB (p rows cols : Int) (m : List (List Int)) : Bool := decide ((m.length : Int) = rows) && rowsB p cols m
set_option maxHeartbeats 400000 in
theorem ssTable_c (p rows cols : Int) (A : Option Addr) (c : Nat) (m : List (List Int)) (w : World) (h : RdM w A m) (h2 : 2 ≤ p) (h97 : p ≤ 97) :
    Calls Tryd.prog 82 #[.int .i64 p, .int .i64 rows, .int .i64 cols, .slice A m.length c] w fun e w' => e = .returned (.bool (tabB p rows cols m)) ∧ w = w' := by
  have hl := h.1
  by_cases hr : (m.length : Int) = rows
  · have H := Lib.hid (show tabB p rows cols m = rowsB p cols m by simp [tabB, hr])
    subst hr
    go_enter Tryd.func82, Tryd.ntmps82
    go_wp2_with (go_at_call 83; refine (spRows_c _ _ _ _ _ _ h h2 h97).mono ?_; rintro e w' ⟨rfl, rfl⟩)
    go_ret
    exact ⟨by rw [H.out]; rfl, rfl⟩
  · have H := Lib.hid (show tabB p rows cols m = false by simp [tabB, hr])
    have hb : ((m.length : Int) == rows) = false := by simpa using hr
    go_enter Tryd.func82, Tryd.ntmps82
    go_wp2
    go_ret
    exact ⟨by rw [H.out]; rfl, rfl⟩
def shapeB (rows cols : Int) (m : List (List Int)) : Bool := decide ((m.length : Int) = rows) && m.all fun r => decide ((r.length : Int) = cols)
set_option maxHeartbeats 1000000 in
theorem hasShape_c (rows cols : Int) (A : Option Addr) (c : Nat) (m : List (List Int)) (w : World) (h : RdM w A m) :
    Calls Tryd.prog 88 #[.slice A m.length c, .int .i64 rows, .int .i64 cols] w fun e w' => e = .returned (.bool (shapeB rows cols m)) ∧ w = w' := by
  have hl := h.1
  by_cases hr : (m.length : Int) = rows
  · have H := Lib.hid (show shapeB rows cols m = m.all (fun r => decide ((r.length : Int) = cols)) by simp [shapeB, hr])
    subst hr
    go_enter Tryd.func88, Tryd.ntmps88
    go_wp2
    go_loop [7, 13] (fun _ i => ∃ k : Nat, k ≤ m.length ∧ Hid ((m.take k).all (fun r => decide ((r.length : Int) = cols)) = true) ∧ i = .int .i64 k) (fun _ i => m.length - (intOf i).toNat)
    case atStart => exact ⟨0, Nat.zero_le _, rfl, rfl⟩
    case round =>
      obtain ⟨k, hk, Hall, rfl⟩ := hrel
      by_cases hlt : k < m.length
      · obtain ⟨g, off, B, d, r, rfl, hr, hc, hrd⟩ := h.at_ hlt
        have Hr := Lib.hid hr
        clear hr
        have hrl := hrd.len
        by_cases hn : (r.length : Int) = cols
        · have Hn := Lib.hid hn
          have hb : ((r.length : Int) != cols) = false := by simpa using hn
          go_wp2
          go_round
          case rel => exact ⟨k + 1, by omega, by
            show _ = true
            have := Hall.out
            rw [List.take_add_one, Hr.out, List.all_append, this]; simpa using Hn.out, by go_num⟩
          case measure => simp [intOf] <;> omega
        · have Hn := Lib.hid hn
          have hb : ((r.length : Int) != cols) = true := by simpa using hn
          go_wp2
          go_ret
          exact ⟨by rw [H.out, List.all_eq_false.2 ⟨r, List.mem_of_getElem? Hr.out, by simpa using Hn.out⟩]; rfl, rfl⟩
      · obtain rfl : k = m.length := by omega
        go_wp2
        go_ret
        exact ⟨by rw [H.out]; have := Hall.out; rw [List.take_length] at this; rw [this]; rfl, rfl⟩
  · have H := Lib.hid (show shapeB rows cols m = false by simp [shapeB, hr])
    have hb : ((m.length : Int) != rows) = true := by simpa using hr
    go_enter Tryd.func88, Tryd.ntmps88
    go_wp2
    go_ret
    exact ⟨by rw [H.out]; rfl, rfl⟩
end Go.Proofs.YtkpfmnconnopnaaDoor
