/- Contracts: a number lies in a list. -/
import Derived.Test.YtgblnkadmieflaaDoorField
namespace Go.Proofs.YtgblnkadmieflaaDoor
set_option maxRecDepth 100000
open Go Go.RowKit
theorem notMem_succ_h {xs : List Int} {k : Nat} {x v : Int} (hx : xs[k]? = some x) (h : v ∉ xs.take k) (hne : x ≠ v) : v ∉ xs.take (k + 1) := by
  rw [List.take_add_one, hx]
  intro hm
  rcases List.mem_append.1 hm with hm | hm
  · exact h hm
  · simp at hm; exact hne hm.symm
theorem l1Has_h (A : Option Addr) (c : Nat) (xs : List Int) (v : Int) (w : World) (h : Rd w A xs) : Calls Tryd.prog 86 #[.slice A xs.length c, .int .i64 v] w fun e w' => e = .returned (.bool (decide (v ∈ xs))) ∧ w' = w := by
  have hl := h.len
  go_enter Tryd.func86, Tryd.ntmps86
  go_wp2_with fail
  go_loop [9] (fun i => ∃ k : Nat, k ≤ xs.length ∧ i = .int .i64 k ∧ Hid (v ∉ xs.take k)) (fun i => xs.length - (intOf i).toNat)
  case atStart => exact ⟨0, Nat.zero_le _, rfl, Lib.hid (by simp)⟩
  case round =>
    obtain ⟨k, hk, rfl, Hn⟩ := hrel
    by_cases hlt : k < xs.length
    · obtain ⟨g, off, x, rfl, hx, hg, hc⟩ := h.at_ hlt
      by_cases hxv : x = v
      · have H := Lib.hid (show decide (v ∈ xs) = true from decide_eq_true (hxv ▸ List.mem_of_getElem? hx))
        have hb : (x == v) = true := by simpa using hxv
        clear hx hxv
        go_wp2
        go_ret
        exact ⟨ret_bool H.out.symm, rfl⟩
      · have H := Lib.hid (notMem_succ_h hx Hn.out hxv)
        have hb : (x == v) = false := by simpa using hxv
        clear hx hxv
        go_wp2
        go_round
        case rel => exact ⟨k + 1, by omega, by go_num, H⟩
        case measure => simp [intOf]; omega
    · obtain rfl : k = xs.length := by omega
      have H := Lib.hid (show decide (v ∈ xs) = false from decide_eq_false (by have := Hn.out; rwa [List.take_length] at this))
      go_wp2
      go_ret
      exact ⟨ret_bool H.out.symm, rfl⟩
end Go.Proofs.YtgblnkadmieflaaDoor
