/- Contracts of the reference's functions on polynomials: sums, multiples, products. -/
import Derived.Test.YtmekhjnhcgmphaaDoorPoly2
namespace Go.Proofs.YtmekhjnhcgmphaaDoor
set_option maxRecDepth 100000
open Go Go.RowKit
theorem addAt_set0 (p : Int) (v : List Int) (s : Nat) (b : Int) (w : List Int) (k : Nat) (hk : k < w.length) {y : Int} (hy : w[k]? = some y) {x : Int} (hx : cf v (s + k) = x) :
    (addAt p v s b (w.take k)).set (s + k) ((x + b * y) % p) = addAt p v s b (w.take (k + 1)) := by
  rw [← addAt_take_succ p v s b w k hk, hx, cf_of hy]
set_option maxHeartbeats 1000000 in
theorem poTimes_c (p : Int) (A : Option Addr) (c : Nat) (b : Int) (f : List Int) (w : World) (hf : Rd w A f) (h2 : 2 ≤ p) (h97 : p ≤ 97) (hfe : allEl p f = true) (hb : 0 ≤ b ∧ b ≤ 96) :
    Calls Tryd.prog 89 #[.int .i64 p, .int .i64 b, .slice A f.length c] w fun e w' => ∃ A' c', e = .returned (.slice A' (pScale p b f).length c') ∧ Fr w' w.heap.size A' c' (pScale p b f) ∧ Ex w w' := by
  have hl := hf.len
  have Hfe := Lib.hid hfe
  clear hfe
  have hmk := fun W => run_make_ints f.length hl W
  have ho0 := Own.new w (List.replicate f.length 0)
  have he0 := (Ex.refl w).alloc (iObj (List.replicate f.length 0))
  go_enter Tryd.func89, Tryd.ntmps89
  go_wp2_with fail
  clear hmk
  go_loopw [15] (fun i wr => ∃ k : Nat, k ≤ f.length ∧ i = .int .i64 k ∧ Own wr w.heap.size (addAt p (List.replicate f.length 0) 0 b (f.take k)) ∧ Ex w wr) (fun i _ => f.length - (intOf i).toNat)
  case atStart => exact ⟨0, Nat.zero_le _, rfl, by rw [List.take_zero, addAt_nil]; exact ho0, he0⟩
  case round =>
    obtain ⟨k, hk, rfl, hok, hek⟩ := hrel
    by_cases hlt : k < f.length
    · obtain ⟨g', off, y, rfl, hy, hg', hcell⟩ := (hf.ex hek).at_ hlt
      have hcf : (addAt p (List.replicate f.length 0) 0 b (f.take k))[k]? = some (cf (List.replicate f.length 0) k) := addAt_at (by simp; omega) (by simp; omega)
      rw [rep_cf] at hcf
      have hcx := hok.cell hcf
      have hfz := hok.frozen k
      have hby := allEl_at Hfe.out hy
      have hso := hok.set_ k (b * y % p)
      have hst := addAt_set0 p (List.replicate f.length 0) 0 b f k hlt hy (rep_cf _ _)
      rw [Nat.zero_add, Int.zero_add] at hst
      rw [hst] at hso
      clear hcf hy hst
      go_wp2_with (go_at_call 100; refine (fdMul_c _ _ _ _ h2 hb (by omega)).mono ?_; rintro e w' ⟨rfl, rfl⟩)
      go_roundw
      case rel => exact ⟨k + 1, by omega, by go_num, hso, hek.setCell (Nat.le_refl _) _⟩
      case measure => simp [intOf]; omega
    · obtain rfl : k = f.length := by omega
      rw [List.take_length] at hok
      have hP : trim (addAt p (List.replicate f.length 0) 0 b f) = pScale p b f := by
        rw [pScale, pAdd]; simp [padTo]
      have HP := Lib.hid hP
      have hr := hok.rd (by rw [addAt_len]; simpa using hl)
      have Hll := Lib.hid (show (addAt p (List.replicate f.length 0) 0 b f).length = f.length by rw [addAt_len]; simp)
      clear hP
      go_wp2_with fail
      rw [← Hll.out]
      refine (poTrim_c _ _ _ _ hr (Nat.le_refl _)).mono ?_
      rintro e w4 ⟨g4, c4, rfl, hc4, hg4, ho4, hx4⟩
      rw [HP.out] at hc4 ho4 ⊢
      have hpl2 : (pScale p b f).length ≤ f.length := by have := pAdd_le p [] b f; simpa [pScale] using this
      go_wp2_with fail
      go_ret
      exact ⟨_, c4, rfl, ho4.fr (by omega) (by have := hek.size; omega) hc4, hek.trans hx4⟩
end Go.Proofs.YtmekhjnhcgmphaaDoor
