/- Contracts of the functions on polynomials, the second part: in place sums, trimming, sums, products. -/
import Derived.Test.YtfggacnkediolaaDoorField
import Derived.Test.YtfggacnkediolaaDoorLaw
import Derived.StillTailTactics
import Derived.Laws.CopyOwn
namespace Go.Proofs.YtfggacnkediolaaDoor
set_option maxRecDepth 100000
open Go Go.RowKit
theorem trim_drop {xs : List Int} {k : Nat} (h : xs[k]? = some 0) : trim (xs.take (k + 1)) = trim (xs.take k) := by
  rw [List.take_add_one, h]
  exact trim_snoc0 _
theorem trim_stop {xs : List Int} {k : Nat} {x : Int} (h : xs[k]? = some x) (hx : x ≠ 0) : trim (xs.take (k + 1)) = xs.take (k + 1) := by
  rw [List.take_add_one, h]
  exact trim_snoc _ hx
set_option maxHeartbeats 400000 in
theorem trimmed_c (A : Option Addr) (c : Nat) (xs : List Int) (w : World) (h : Rd w A xs) (hc : xs.length ≤ c) :
    Calls Tryd.prog 23 #[.slice A xs.length c, .int .i64 0] w fun e w' => e = .returned (.slice A (trim xs).length (trim xs).length) ∧ w = w' := by
  have hl := h.len
  go_enter Tryd.func23, Tryd.ntmps23
  go_wp2
  go_loop [5] (fun n => ∃ k : Nat, k ≤ xs.length ∧ n = .int .i64 k ∧ trim (xs.take k) = trim xs) (fun n => (intOf n).toNat)
  case atStart => exact ⟨_, Nat.le_refl _, rfl, by rw [List.take_length]⟩
  case round =>
    obtain ⟨k, hk, rfl, ht⟩ := hrel
    have Ht := Lib.hid ht
    clear ht
    cases k with
    | zero =>
      have hz : (trim xs).length = 0 := by rw [← Ht.out]; rfl
      have Hz := Lib.hid hz
      clear hz
      go_wp2
      go_ret
      exact ⟨by rw [Hz.out]; rfl, rfl⟩
    | succ k =>
      obtain ⟨g, off, x, rfl, hx, hg, hcell⟩ := h.at_ (by omega : k < xs.length)
      by_cases h0 : x = 0
      · subst h0
        have hn := (trim_drop hx).symm.trans Ht.out
        have Hn := Lib.hid hn
        clear hn hx
        go_wp2
        go_round
        case rel => exact ⟨k, by omega, rfl, Hn.out⟩
        case measure => simp [intOf]
      · have hn : (trim xs).length = k + 1 := by rw [← Ht.out, trim_stop hx h0, List.length_take]; omega
        have Hn := Lib.hid hn
        have hb : (x == 0) = false := by simpa using h0
        clear hn hx
        go_wp2
        go_ret
        exact ⟨by rw [Hn.out]; simp, rfl⟩
theorem Own.frTrim {w : World} {g B : Nat} {xs : List Int} (h : Own w g xs) (hl : xs.length ≤ 1099511627776) (hB : B ≤ g) : Fr w B (some ⟨g, 0, none⟩) (trim xs).length (trim xs) := by
  have := (h.fr (c := xs.length) hl hB (Nat.le_refl _)).take (c' := (trim xs).length) (trim xs).length (List.length_take_le _ _)
  rw [← trim_take] at this
  exact this
end Go.Proofs.YtfggacnkediolaaDoor
