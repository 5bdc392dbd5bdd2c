/- Contracts: lists of numbers meet (both sides); which edges an edge needs. -/
import Derived.Test.YtgblnkadmieflaaGrO
import Derived.Shelf.Abstract
import Derived.Deep.LoopGhost
import Derived.RegionCalls
import Derived.Deep.RegionWith
import Derived.Deep.RegionHeld3
namespace Go.Proofs.Ytgblnkadmieflaa
set_option maxRecDepth 100000
open Go Go.RowKit
theorem mem_of_find {xs : List Int} {x : Int} {k : Nat} (h : xs[k]? = some x) : x ∈ xs := List.mem_of_getElem? h
theorem notMem_succ {xs : List Int} {k : Nat} {x v : Int} (hx : xs[k]? = some x) (h : v ∉ xs.take k) (hne : x ≠ v) : v ∉ xs.take (k + 1) := by
  rw [List.take_add_one, hx]
  intro hm
  rcases List.mem_append.1 hm with hm | hm
  · exact h hm
  · simp at hm; exact hne hm.symm
theorem l1Has_c (A : Option Addr) (c : Nat) (xs : List Int) (v : Int) (w : World) (h : Rd w A xs) : Calls Try.prog 48 #[.slice A xs.length c, .int .i64 v] w fun e w' => e = .returned (.bool (decide (v ∈ xs))) ∧ w' = w := by
  have hl := h.len
  go_enter Try.func48, Try.ntmps48
  go_wp2_with fail
  go_loop [9] (fun i => ∃ k : Nat, k ≤ xs.length ∧ i = .int .i64 k ∧ Hid (v ∉ xs.take k)) (fun i => xs.length - (intOf i).toNat)
  case atStart => exact ⟨0, Nat.zero_le _, rfl, Lib.hid (by simp)⟩
  case round =>
    obtain ⟨k, hk, rfl, Hn⟩ := hrel
    by_cases hlt : k < xs.length
    · obtain ⟨g, off, x, rfl, hx, hg, hc⟩ := h.at_ hlt
      by_cases hxv : x = v
      · have H := Lib.hid (show decide (v ∈ xs) = true from decide_eq_true (hxv ▸ mem_of_find hx))
        have hb : (x == v) = true := by simpa using hxv
        clear hx hxv
        go_wp2
        go_ret
        exact ⟨ret_bool H.out.symm, rfl⟩
      · have H := Lib.hid (notMem_succ hx Hn.out hxv)
        have hb : (x == v) = false := by simpa using hxv
        clear hx hxv
        go_wp2
        go_round
        case rel => exact ⟨k + 1, by omega, by go_num, H⟩
        case measure => simp [intOf]; omega
    · obtain rfl : k = xs.length := by omega
      have H := Lib.hid (show decide (v ∈ xs) = false from decide_eq_false (by have := Hn.out; rwa [List.take_length] at this))
      go_wp2
      go_ret
      exact ⟨ret_bool H.out.symm, rfl⟩
theorem hgMeets_c (A : Option Addr) (c : Nat) (xs : List Int) (B : Option Addr) (d : Nat) (ys : List Int) (w : World) (h : Rd w A xs) (h' : Rd w B ys) : Calls Try.prog 57 #[.slice A xs.length c, .slice B ys.length d] w fun e w' => e = .returned (.bool (meetB xs ys)) ∧ w' = w := by
  have hl := h.len
  have hh := fun v => l1Has_c B d ys v w h'
  go_enter Try.func57, Try.ntmps57
  go_wp2_with fail
  go_loop [9] (fun i => ∃ k : Nat, k ≤ xs.length ∧ i = .int .i64 k ∧ Hid ((xs.take k).any (fun x => decide (x ∈ ys)) = false)) (fun i => xs.length - (intOf i).toNat)
  case atStart => exact ⟨0, Nat.zero_le _, rfl, Lib.hid (by simp)⟩
  case round =>
    obtain ⟨k, hk, rfl, Hn⟩ := hrel
    by_cases hlt : k < xs.length
    · obtain ⟨g, off, x, rfl, hx, hg, hc⟩ := h.at_ hlt
      have Hx := Lib.hid hx
      have hhx := hh x
      clear hx hh
      go_wp2_with fail
      refine hhx.mono ?_
      rintro e _ ⟨rfl, rfl⟩
      cases hb : decide (x ∈ ys) with
      | true =>
        have H := Lib.hid (show meetB xs ys = true from List.any_eq_true.2 ⟨x, List.mem_of_getElem? Hx.out, hb⟩)
        clear hb hhx
        go_wp2
        go_ret
        exact ⟨ret_bool H.out.symm, rfl⟩
      | false =>
        have H := Lib.hid (show (xs.take (k + 1)).any (fun x => decide (x ∈ ys)) = false by rw [List.take_add_one, Hx.out, List.any_append, Hn.out]; simp only [Option.toList_some, List.any_cons, List.any_nil, hb]; rfl)
        clear hb hhx
        go_wp2
        go_round
        case rel => exact ⟨k + 1, by omega, by go_num, H⟩
        case measure => simp [intOf]; omega
    · obtain rfl : k = xs.length := by omega
      have H := Lib.hid (show meetB xs ys = false by have := Hn.out; rwa [List.take_length] at this)
      clear hh
      go_wp2
      go_ret
      exact ⟨ret_bool H.out.symm, rfl⟩
theorem index_c (A : Option Addr) (c : Nat) (xs : List Int) (v : Int) (w : World) (h : Rd w A xs) : Calls Try.prog 51 #[.slice A xs.length c, .int .i64 v] w fun e w' => e = .returned (.int .i64 (idxP (fun x => decide (x = v)) xs)) ∧ w' = w := by
  have hl := h.len
  go_enter Try.func51, Try.ntmps51
  go_wp2_with fail
  go_loop [8] (fun i => ∃ k : Nat, k ≤ xs.length ∧ i = .int .i64 k ∧ Hid ((xs.take k).all (fun x => !decide (x = v)) = true)) (fun i => xs.length - (intOf i).toNat)
  case atStart => exact ⟨0, Nat.zero_le _, rfl, Lib.hid rfl⟩
  case round =>
    obtain ⟨k, hk, rfl, Hn⟩ := hrel
    by_cases hlt : k < xs.length
    · obtain ⟨g, off, x, rfl, hx, hg, hc⟩ := h.at_ hlt
      by_cases hxv : x = v
      · have H := Lib.hid (idxP_some (p := fun x => decide (x = v)) hx Hn.out (decide_eq_true hxv))
        have hb : (v == x) = true := by simpa using hxv.symm
        have hb2 : (x == v) = true := by simpa using hxv
        clear hx hxv
        go_wp2
        go_ret
        exact ⟨by rw [H.out]; rfl, rfl⟩
      · have H := Lib.hid (all_take_succ (p := fun x => !decide (x = v)) hx Hn.out (by simp [hxv]))
        have hb : (v == x) = false := by simp; exact fun e => hxv e.symm
        have hb2 : (x == v) = false := by simpa using hxv
        clear hx hxv
        go_wp2
        go_round
        case rel => exact ⟨k + 1, by omega, by go_num, H⟩
        case measure => simp [intOf]; omega
    · obtain rfl : k = xs.length := by omega
      have H := Lib.hid (idxP_none (p := fun x => decide (x = v)) (xs := xs) (by have := Hn.out; rwa [List.take_length] at this))
      go_wp2
      go_ret
      exact ⟨by rw [H.out]; rfl, rfl⟩
theorem contains_c (A : Option Addr) (c : Nat) (xs : List Int) (v : Int) (w : World) (h : Rd w A xs) : Calls Try.prog 32 #[.slice A xs.length c, .int .i64 v] w fun e w' => e = .returned (.bool (decide (v ∈ xs))) ∧ w' = w := by
  have H := Lib.hid (show decide (0 ≤ idxP (fun x => decide (x = v)) xs) = decide (v ∈ xs) by
    rw [idxP_any, Bool.eq_iff_iff]; simp)
  have hi := index_c A c xs v w h
  go_enter Try.func32, Try.ntmps32
  go_wp2_with fail
  refine hi.mono ?_
  rintro e _ ⟨rfl, rfl⟩
  go_wp2
  go_ret
  exact ⟨ret_bool (by rw [← H.out]), rfl⟩
theorem needs1_c (v : Int) (b : Nat) (a0 a1 a2 : Value) (Q : Option Addr) (qc : Nat) (outs : List Int) (w : World) (hv : VB w b 51 #[a0, a1, a2, .slice Q outs.length qc]) (hQ : Rd w Q outs) :
    Calls Try.prog 50 #[.int .i64 v, .pointer (some ⟨b, 0, none⟩)] w fun e w' => e = .returned (.bool (decide (v ∈ outs))) ∧ Ex w w' := by
  have c3 := hv.cell 3 (v := .slice Q outs.length qc) rfl
  have hc := contains_c Q qc outs v w hQ
  go_enter Try.func50, Try.ntmps50
  go_wp2_with fail
  refine hc.mono ?_
  rintro e _ ⟨rfl, rfl⟩
  go_wp2
  go_ret
  exact ⟨rfl, Ex.refl _⟩
theorem enters_needs1 : ∀ args w, (callFunc 50 args).run Try.prog w = .ok (.enter 50 args) w := enters_of Try.func50 (by kernel_rfl) rfl
end Go.Proofs.Ytgblnkadmieflaa
