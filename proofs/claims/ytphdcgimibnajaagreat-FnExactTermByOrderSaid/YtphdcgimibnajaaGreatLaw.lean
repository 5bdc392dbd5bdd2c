/- Contracts of the laws' own helpers. -/
import Derived.Test.YtphdcgimibnajaaGreatLib
import Derived.Deep.QuietTactic
import Derived.BigQuiet
namespace Go.Proofs.YtphdcgimibnajaaGreat
set_option maxRecDepth 100000
open Go Go.RowKit
theorem replicate_set (xs : List Int) (k : Nat) (hk : k < xs.length) (x : Int) (hx : xs[k]? = some x) :
    (xs.take k ++ List.replicate (xs.length - k) 0).set k x = xs.take (k + 1) ++ List.replicate (xs.length - (k + 1)) 0 := by
  obtain ⟨_, rfl⟩ := List.getElem?_eq_some_iff.1 hx
  apply List.ext_getElem?
  intro j
  simp only [List.getElem?_set, List.getElem?_append, List.getElem?_take, List.length_take, List.getElem?_replicate, List.length_append, List.length_replicate]
  grind
set_option maxHeartbeats 400000 in
theorem toIntS_c (A : Option Addr) (c : Nat) (xs : List Int) (w : World) (h : Rd w A xs) :
    Calls Tryz.prog 15 #[.slice A xs.length c] w fun e w' => ∃ g, e = .returned (.slice (some ⟨g, 0, none⟩) xs.length xs.length) ∧ w.heap.size ≤ g ∧ Blk w' g xs ∧ Ex w w' := by
  have hl := h.len
  have hmk := fun W => run_make_ints xs.length h.len W
  have hb0 := Blk.new w (List.replicate xs.length 0)
  have he0 := (Ex.refl w).alloc (iObj (List.replicate xs.length 0))
  go_enter Tryz.func15, Tryz.ntmps15
  go_wp2
  go_loopw [4] (fun i wr => ∃ k : Nat, k ≤ xs.length ∧ i = .int .i64 k ∧ Blk wr w.heap.size (xs.take k ++ List.replicate (xs.length - k) 0) ∧ Ex w wr) (fun i _ => xs.length - (intOf i).toNat)
  case atStart => exact ⟨0, Nat.zero_le _, rfl, by simpa using hb0, he0⟩
  case round =>
    obtain ⟨k, hk, rfl, hb, he⟩ := hrel
    by_cases hlt : k < xs.length
    · obtain ⟨g, off, x, rfl, hx, hg, hc⟩ := (h.ex he).at_ hlt
      have hc2 := hb.cell (i := k) (x := 0) (by rw [List.getElem?_append_right (by simp; omega), List.getElem?_replicate, if_pos (by simp; omega)])
      have hf2 := hb.frozen k
      have hs := replicate_set xs k hlt x hx
      have hb' := hb.set_ k x
      rw [hs] at hb'
      have H := Lib.hid hx
      clear hx hs
      go_wp2
      go_roundw
      case rel => exact ⟨k + 1, by omega, by go_num, hb', he.setCell (Nat.le_refl _) _⟩
      case measure => simp [intOf]; omega
    · obtain rfl : k = xs.length := by omega
      go_wp2
      go_ret
      exact ⟨_, rfl, Nat.le_refl _, by simpa using hb, he⟩
set_option maxHeartbeats 400000 in
theorem eqIntS_c (A A' : Option Addr) (c c' : Nat) (xs : List Int) (w : World) (h : Rd w A xs) (h' : Rd w A' xs) :
    Calls Tryz.prog 17 #[.slice A xs.length c, .slice A' xs.length c'] w fun e w' => e = .returned (.bool true) ∧ Ex w w' := by
  have hl := h.len
  go_enter Tryz.func17, Tryz.ntmps17
  go_wp2
  go_loopw [5] (fun i wr => ∃ k : Nat, k ≤ xs.length ∧ i = .int .i64 k ∧ ∃ n, wr = w.drewN n) (fun i _ => xs.length - (intOf i).toNat)
  case atStart => exact ⟨0, Nat.zero_le _, rfl, 0, rfl⟩
  case round =>
    obtain ⟨k, hk, rfl, n, rfl⟩ := hrel
    by_cases hlt : k < xs.length
    · obtain ⟨g, off, x, rfl, hx, hg, hc⟩ := h.at_ hlt
      obtain ⟨g', off', x', rfl, hx', hg', hc'⟩ := h'.at_ hlt
      obtain rfl : x = x' := by rw [hx] at hx'; injection hx'
      have H := Lib.hid hx
      clear hx hx'
      go_wp2
      go_quiet (fail)
      go_wp2
      go_roundw
      case rel => exact ⟨k + 1, by omega, by go_num, _, rfl⟩
      case measure => simp [intOf]; omega
    · obtain rfl : k = xs.length := by omega
      go_wp2
      go_ret
      exact ⟨rfl, (Ex.refl w).drewN _⟩
/-- The marks k, k + 1 .. -/
def mk (k : Int) (n : Nat) : List Int := (List.range n).map fun j : Nat => k + (j : Int)
theorem mk_len (k : Int) (n : Nat) : (mk k n).length = n := by simp [mk]
theorem mk_step (k : Int) (xs : List Int) (j : Nat) (h : j < xs.length) : (mk k j ++ xs.drop j).set j (k + (j : Int)) = mk k (j + 1) ++ xs.drop (j + 1) := by
  apply List.ext_getElem?
  intro i
  simp only [List.getElem?_set, List.getElem?_append, mk, List.length_map, List.length_range, List.getElem?_map, List.getElem?_drop, List.length_append, List.length_drop]
  grind
set_option maxHeartbeats 400000 in
theorem markIntS_c (B : Nat) (A : Option Addr) (c : Nat) (xs : List Int) (k : Int) (w : World) (h : Fr w B A c xs) (hk0 : 0 ≤ k) (hk : k ≤ 4611686018427387904) :
    Calls Tryz.prog 18 #[.slice A xs.length c, .int .i64 k] w fun e w' => e = .returned (.int .i64 (k + (xs.length : Int))) ∧ Fr w' B A c (mk k xs.length) ∧ ExO (A.map Addr.block) w w' := by
  have hl := h.rd.len
  go_enter Tryz.func18, Tryz.ntmps18
  go_wp2
  go_loopw [1, 5] (fun q i wr => ∃ j : Nat, j ≤ xs.length ∧ q = .int .i64 (k + (j : Int)) ∧ i = .int .i64 j ∧ Fr wr B A c (mk k j ++ xs.drop j) ∧ ExO (A.map Addr.block) w wr) (fun _ i _ => xs.length - (intOf i).toNat)
  case atStart => exact ⟨0, Nat.zero_le _, by simp, rfl, by simpa [mk] using h, ExO.refl _ _⟩
  case round =>
    obtain ⟨j, hj, rfl, rfl, hf, he⟩ := hrel
    by_cases hlt : j < xs.length
    · obtain ⟨g, off, x, rfl, hx, hg, hc⟩ := hf.rd.at_ (by rw [List.length_append, mk_len, List.length_drop]; omega : j < (mk k j ++ xs.drop j).length)
      have hz := hf.frozen (off + j)
      have hf' := hf.set_ j (k + (j : Int))
      rw [mk_step k xs j hlt] at hf'
      have he' := he.setCell (p := ⟨g, off + j, none⟩) rfl (.int .i64 (k + (j : Int)))
      have H := Lib.hid hx
      clear hx
      go_wp2
      go_roundw
      case rel => exact ⟨j + 1, by omega, by go_num, by go_num, hf', he'⟩
      case measure => simp [intOf]; omega
    · obtain rfl : j = xs.length := by omega
      go_wp2
      go_ret
      exact ⟨rfl, by simpa using hf, he⟩
set_option maxHeartbeats 400000 in
theorem szIntS_ok (A : Option Addr) (c n : Nat) (l : Int) (w : World) (hn : (n : Int) ≤ l) (hl : l ≤ 1048576) : Calls Tryz.prog 20 #[.slice A n c, .int .i64 l] w fun e w' => e = .returned (.int .i64 (l - (n : Int))) ∧ w = w' := by
  go_enter Tryz.func20, Tryz.ntmps20
  go_wp2
  go_ret
  exact ⟨rfl, rfl⟩
set_option maxHeartbeats 400000 in
theorem szIntS_big (A : Option Addr) (c n : Nat) (l : Int) (w : World) (hn : l < (n : Int)) (hm : n ≤ 9223372036854775807) (h0 : 0 ≤ l) (hl : l ≤ 1048576) : Calls Tryz.prog 20 #[.slice A n c, .int .i64 l] w fun e w' => e = .returned (.int .i64 (-1)) ∧ w = w' := by
  go_enter Tryz.func20, Tryz.ntmps20
  go_wp2
  go_ret
  exact ⟨rfl, rfl⟩
end Go.Proofs.YtphdcgimibnajaaGreat
