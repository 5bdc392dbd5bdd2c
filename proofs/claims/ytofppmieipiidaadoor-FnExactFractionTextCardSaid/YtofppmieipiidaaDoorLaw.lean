/- Contracts of the laws' own helpers. -/
import Derived.Test.YtofppmieipiidaaDoorLib
import Derived.Deep.QuietTactic
import Derived.BigQuiet
namespace Go.Proofs.YtofppmieipiidaaDoor
set_option maxRecDepth 100000
open Go Go.RowKit
theorem replicate_set (xs : List Int) (k : Nat) (hk : k < xs.length) (x : Int) (hx : xs[k]? = some x) :
    (xs.take k ++ List.replicate (xs.length - k) 0).set k x = xs.take (k + 1) ++ List.replicate (xs.length - (k + 1)) 0 := by
  obtain ⟨_, rfl⟩ := List.getElem?_eq_some_iff.1 hx
  apply List.ext_getElem?
  intro j
  simp only [List.getElem?_set, List.getElem?_append, List.getElem?_take, List.length_take, List.getElem?_replicate, List.length_append, List.length_replicate]
  grind
set_option maxHeartbeats 400000 in
theorem toIntS_c (A : Option Addr) (c : Nat) (xs : List Int) (w : World) (h : Rd w A xs) :
    Calls Tryd.prog 6 #[.slice A xs.length c] w fun e w' => ∃ g, e = .returned (.slice (some ⟨g, 0, none⟩) xs.length xs.length) ∧ w.heap.size ≤ g ∧ Blk w' g xs ∧ Ex w w' := by
  have hl := h.len
  have hmk := fun W => run_make_ints xs.length h.len W
  have hb0 := Blk.new w (List.replicate xs.length 0)
  have he0 := (Ex.refl w).alloc (iObj (List.replicate xs.length 0))
  go_enter Tryd.func6, Tryd.ntmps6
  go_wp2
  go_loopw [4] (fun i wr => ∃ k : Nat, k ≤ xs.length ∧ i = .int .i64 k ∧ Blk wr w.heap.size (xs.take k ++ List.replicate (xs.length - k) 0) ∧ Ex w wr) (fun i _ => xs.length - (intOf i).toNat)
  case atStart => exact ⟨0, Nat.zero_le _, rfl, by simpa using hb0, he0⟩
  case round =>
    obtain ⟨k, hk, rfl, hb, he⟩ := hrel
    by_cases hlt : k < xs.length
    · obtain ⟨g, off, x, rfl, hx, hg, hc⟩ := (h.ex he).at_ hlt
      have hc2 := hb.cell (i := k) (x := 0) (by rw [List.getElem?_append_right (by simp; omega), List.getElem?_replicate, if_pos (by simp; omega)])
      have hf2 := hb.frozen k
      have hs := replicate_set xs k hlt x hx
      have hb' := hb.set_ k x
      rw [hs] at hb'
      have H := Lib.hid hx
      clear hx hs
      go_wp2
      go_roundw
      case rel => exact ⟨k + 1, by omega, by go_num, hb', he.setCell (Nat.le_refl _) _⟩
      case measure => simp [intOf]; omega
    · obtain rfl : k = xs.length := by omega
      go_wp2
      go_ret
      exact ⟨_, rfl, Nat.le_refl _, by simpa using hb, he⟩
set_option maxHeartbeats 400000 in
theorem eqIntS_c (A A' : Option Addr) (c c' : Nat) (xs : List Int) (w : World) (h : Rd w A xs) (h' : Rd w A' xs) :
    Calls Tryd.prog 8 #[.slice A xs.length c, .slice A' xs.length c'] w fun e w' => e = .returned (.bool true) ∧ Ex w w' := by
  have hl := h.len
  go_enter Tryd.func8, Tryd.ntmps8
  go_wp2
  go_loopw [5] (fun i wr => ∃ k : Nat, k ≤ xs.length ∧ i = .int .i64 k ∧ ∃ n, wr = w.drewN n) (fun i _ => xs.length - (intOf i).toNat)
  case atStart => exact ⟨0, Nat.zero_le _, rfl, 0, rfl⟩
  case round =>
    obtain ⟨k, hk, rfl, n, rfl⟩ := hrel
    by_cases hlt : k < xs.length
    · obtain ⟨g, off, x, rfl, hx, hg, hc⟩ := h.at_ hlt
      obtain ⟨g', off', x', rfl, hx', hg', hc'⟩ := h'.at_ hlt
      obtain rfl : x = x' := by rw [hx] at hx'; injection hx'
      have H := Lib.hid hx
      clear hx hx'
      go_wp2
      go_quiet (fail)
      go_wp2
      go_roundw
      case rel => exact ⟨k + 1, by omega, by go_num, _, rfl⟩
      case measure => simp [intOf]; omega
    · obtain rfl : k = xs.length := by omega
      go_wp2
      go_ret
      exact ⟨rfl, (Ex.refl w).drewN _⟩
set_option maxHeartbeats 400000 in
theorem szIntS_ok (A : Option Addr) (c n : Nat) (l : Int) (w : World) (hn : (n : Int) ≤ l) (hl : l ≤ 1048576) : Calls Tryd.prog 18 #[.slice A n c, .int .i64 l] w fun e w' => e = .returned (.int .i64 (l - (n : Int))) ∧ w = w' := by
  go_enter Tryd.func18, Tryd.ntmps18
  go_wp2
  go_ret
  exact ⟨rfl, rfl⟩
set_option maxHeartbeats 400000 in
theorem szIntS_big (A : Option Addr) (c n : Nat) (l : Int) (w : World) (hn : l < (n : Int)) (hm : n ≤ 9223372036854775807) (h0 : 0 ≤ l) (hl : l ≤ 1048576) : Calls Tryd.prog 18 #[.slice A n c, .int .i64 l] w fun e w' => e = .returned (.int .i64 (-1)) ∧ w = w' := by
  go_enter Tryd.func18, Tryd.ntmps18
  go_wp2
  go_ret
  exact ⟨rfl, rfl⟩
end Go.Proofs.YtofppmieipiidaaDoor
