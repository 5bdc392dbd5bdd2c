/- Contracts: the reference's product; quotients and remainders of both sides. -/
import Derived.Test.YtpiplogjbeofoaaDoorPoly3
namespace Go.Proofs.YtpiplogjbeofoaaDoor
set_option maxRecDepth 100000
open Go Go.RowKit
set_option maxHeartbeats 2000000 in
set_option maxRecDepth 100000 in
theorem poMul_c (p : Int) (A B : Option Addr) (c d : Nat) (f g : List Int) (w : World) (hf : Rd w A f) (hg : Rd w B g) (h2 : 2 ≤ p) (h97 : p ≤ 97) (hfe : allEl p f = true) (hge : allEl p g = true) (hs : f.length + g.length ≤ 1099511627776) :
    Calls Tryd.prog 83 #[.int .i64 p, .slice A f.length c, .slice B g.length d] w fun e w' => ∃ A' c', e = .returned (.slice A' (pMulR p f g).length c') ∧ Fr w' w.heap.size A' c' (pMulR p f g) ∧ Ex w w' := by
  have hl := hf.len
  have hl' := hg.len
  by_cases hf0 : f = []
  · subst hf0
    go_enter Tryd.func83, Tryd.ntmps83
    go_wp2
    go_ret
    exact ⟨none, 0, rfl, Fr.nil _ _ _, Ex.refl w⟩
  have hfl := List.length_pos_iff.2 hf0
  by_cases hg0 : g = []
  · subst hg0
    have hp : pMulR p f [] = [] := by rw [pMulR, if_pos (.inr rfl)]
    have Hp := Lib.hid hp
    have hb : ((f.length : Int) == 0) = false := by simp; omega
    clear hp
    go_enter Tryd.func83, Tryd.ntmps83
    go_wp2
    go_ret
    rw [Hp.out]
    exact ⟨none, 0, rfl, Fr.nil _ _ _, Ex.refl w⟩
  have hgl := List.length_pos_iff.2 hg0
  have hb1 : ((f.length : Int) == 0) = false := by simp; omega
  have hb2 : ((g.length : Int) == 0) = false := by simp; omega
  obtain ⟨n, hn⟩ : ∃ n : Nat, n = f.length + g.length - 1 := ⟨_, rfl⟩
  have hni : (f.length : Int) + (g.length : Int) - 1 = (n : Int) := by omega
  have hn1 : n = f.length - 1 + g.length := by omega
  have hn2 : n ≤ 1099511627776 := by omega
  have Hfe := Lib.hid hfe
  have Hge := Lib.hid hge
  have Hf0 := Lib.hid hf0
  have Hg0 := Lib.hid hg0
  have Hn := Lib.hid hn
  have Hn1 := Lib.hid hn1
  have hmk := fun W => run_make_ints n hn2 W
  have ho0 := Own.new w (List.replicate n 0)
  have he0 := (Ex.refl w).alloc (iObj (List.replicate n 0))
  clear hfe hge hf0 hg0 hn hn1
  go_enter Tryd.func83, Tryd.ntmps83
  go_wp2_with fail
  clear hmk hni
  go_loopw [29] (fun i wr => ∃ k : Nat, k ≤ f.length ∧ i = .int .i64 k ∧ Own wr w.heap.size (mulTo p f g k) ∧ Ex w wr) (fun i _ => f.length - (intOf i).toNat)
  case atStart => exact ⟨0, Nat.zero_le _, rfl, by rw [mulTo, ← Hn.out]; exact ho0, he0⟩
  case round =>
    obtain ⟨k, hk, rfl, hok, hek⟩ := hrel
    have Hml := Lib.hid (mulTo_len p f g k)
    have Hme := Lib.hid (mulTo_el (p := p) (by omega) f g k)
    by_cases hlt : k < f.length
    · obtain ⟨g', off, x, rfl, hx, hg', hcell⟩ := (hf.ex hek).at_ hlt
      have hxb := allEl_at Hfe.out hx
      have Hcx := Lib.hid (cf_of hx)
      clear hx
      go_wp2_with fail
      go_loopw [36] (fun i wi => ∃ j : Nat, j ≤ g.length ∧ i = .int .i64 j ∧ Own wi w.heap.size (addAt p (mulTo p f g k) k x (g.take j)) ∧ Ex w wi) (fun i _ => g.length - (intOf i).toNat)
      case atStart => exact ⟨0, Nat.zero_le _, rfl, by rw [List.take_zero, addAt_nil]; exact hok, hek⟩
      case round =>
        obtain ⟨j, hj, rfl, hoj, hej⟩ := hrel
        by_cases hjl : j < g.length
        · obtain ⟨g2, off2, y, rfl, hy, hg2, hcell2⟩ := (hg.ex hej).at_ hjl
          have hyb := allEl_at Hge.out hy
          have hkjn : k + j < n := by have := Hn1.out; omega
          have hcf : (addAt p (mulTo p f g k) k x (g.take j))[k + j]? = some (cf (mulTo p f g k) (k + j)) := addAt_at (by rw [Hml.out, ← Hn.out]; exact hkjn) (by simp; omega)
          have hcx := hoj.cell hcf
          have hfz := hoj.frozen (k + j)
          have hzb := cf_bd Hme.out (by omega) (k + j)
          have hst := addAt_set0 p (mulTo p f g k) k x g j hjl hy rfl
          have hso := hoj.set_ (k + j) ((cf (mulTo p f g k) (k + j) + x * y) % p)
          rw [hst] at hso
          generalize cf (mulTo p f g k) (k + j) = z at *
          have hxy := Int.emod_nonneg (x * y) (show p ≠ 0 by omega)
          have hxy2 := Int.emod_lt_of_pos (x * y) (show 0 < p by omega)
          clear hcf hy hst
          have w1 : IntKind.i64.wrap ((k : Int) + (j : Int)) = (k : Int) + (j : Int) := IntWalk.i64_in _ (by omega)
          have w2 : (0 : Int) ≤ (k : Int) + (j : Int) := by omega
          have w3 : (k : Int) + (j : Int) < (n : Int) := by omega
          have w4 : ((k : Int) + (j : Int)).toNat = k + j := by omega
          go_wp2_with fail
          refine wp_region_still_tail 17 (by kernel_rfl) (by kernel_rfl) ?_
          simp only [List.take_succ_cons, List.take_zero, List.drop_succ_cons, List.drop_zero]
          repeat still_step
          refine wpStill_step (fun K hK => ?_)
          go_simp
          refine ⟨_, same_sym (fdMul_c p x y wr.drew h2 (by omega) (by omega)), hK _ ?_⟩
          clear hK K
          repeat still_step
          refine wpStill_step (fun K hK => ?_)
          go_simp
          refine ⟨_, same_sym (fdAdd_c p z (x * y % p) wr.drew h2 (by omega) (by omega)), hK _ ?_⟩
          clear hK K
          repeat still_step
          refine wpStill_nil ?_
          clear w1 w2 w3 w4
          change wpList _ _ _ _ _ wr.drew
          go_wp2_with fail
          go_roundw
          case rel => exact ⟨j + 1, by omega, by go_num, hso, (hej.setCell (Nat.le_refl _) _).drew⟩
          case measure => simp [intOf]; omega
        · obtain rfl : j = g.length := by omega
          rw [List.take_length] at hoj
          go_wp2_with fail
          go_roundw
          case rel => exact ⟨k + 1, by omega, by go_num, by rw [mulTo, Hcx.out]; exact hoj, hej⟩
          case measure => simp [intOf]; omega
    · obtain rfl : k = f.length := by omega
      have hP : mulTo p f g f.length = pMulR p f g := by rw [pMulR, if_neg (by simp [Hf0.out, Hg0.out])]
      have hPl : (pMulR p f g).length = n := by rw [← hP, Hml.out, ← Hn.out]
      rw [hP] at hok
      go_wp2_with fail
      go_ret
      exact ⟨some ⟨w.heap.size, 0, none⟩, n, by rw [hPl]; rfl, hok.fr (by omega) (Nat.le_refl _) (by omega), hek⟩
end Go.Proofs.YtpiplogjbeofoaaDoor
