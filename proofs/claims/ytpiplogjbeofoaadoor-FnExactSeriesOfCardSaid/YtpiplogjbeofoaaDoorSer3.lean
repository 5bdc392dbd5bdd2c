/- The power series of a fraction: the reference's side; SeriesOf. -/
import Derived.Test.YtpiplogjbeofoaaDoorSer2
namespace Go.Proofs.YtpiplogjbeofoaaDoor
set_option maxRecDepth 100000
open Go Go.RowKit
/-- A list that the call makes, one number longer. -/
theorem al_push (w : World) (B : Nat) (v : Value) (ys : List Int) (x : Int) (hv : AL w B v ys) (hB : B ≤ w.heap.size) (hl : ys.length + 1 ≤ 1099511627776) :
    ∃ v' w', (Builtin.append_ #[31, 31] 31 #[v, .slice (some ⟨w.heap.size, 0, none⟩) 1 1]).run Tryd.prog (w.alloc (iObj [x])) = .ok v' w' ∧ AL w' B v' (ys ++ [x]) ∧ ∀ b, Ex b w → b.heap.size ≤ B → Ex b w' := by
  have ha := (Ex.refl w).alloc (iObj [x])
  obtain ⟨v', w', h1, h2, h3, _⟩ := run_append_ints 31 31 Tryd.underlying31 (w.alloc (iObj [x])) B v ys (hv.ex ha) (Nat.le_trans hB ha.size) (some ⟨w.heap.size, 0, none⟩) 1 [x] ((Blk.new w [x]).rd (by simp)) (by simpa using hl)
  exact ⟨v', w', h1, h2, fun b hb hbB => (hb.trans ha).exo h3 (fun g e => by have := (hv.lt g e).1; omega)⟩
set_option maxHeartbeats 4000000 in
theorem frSeries_c (p : Int) (A B : Option Addr) (c d n : Nat) (num den : List Int) (w : World) (hn : Rd w A num) (hd : Rd w B den) (hF : fieldB p = true) (hne : allEl p num = true) (hde : allEl p den = true) (hdp : 0 < den.length) (hd0 : cf den 0 ≠ 0) (hn60 : n ≤ 60) :
    Calls Tryd.prog 110 #[.int .i64 p, .agg #[.slice A num.length c, .slice B den.length d], .int .i64 n] w fun e w' => LI w (serL p num den (invM p (cf den 0)) n) e w' := by
  have h2 := fieldB_lo hF
  have h97 := fieldB_hi hF
  have HF := Lib.hid hF
  have Hne := Lib.hid hne
  have Hde := Lib.hid hde
  have l1 := hn.len
  have l2 := hd.len
  have x0 := (Ex.refl w).alloc (.cells #[.slice A num.length c, .slice B den.length d] 37)
  have v0 := VB.new w 37 #[.slice A num.length c, .slice B den.length d]
  obtain ⟨gA, goff, x, rfl, hx, hgA, hcell⟩ := hd.at_ hdp
  rw [Nat.add_zero] at hcell
  have hxb := allEl_at hde hx
  have hcx : cf den 0 = x := cf_of hx
  have hx0 : 0 < x := by rw [hcx] at hd0; omega
  have Hcx := Lib.hid hcx
  have hc0 := cell_ex x0 hcell
  clear hne hde hx hcx hd0 hF hcell
  go_enter Tryd.func110, Tryd.ntmps110
  go_wp2_with fail
  refine (fdInv_c p x _ HF.out ⟨hx0, hxb.2⟩).mono ?_
  rintro e _ ⟨rfl, rfl⟩
  have hib := invM_bd x h2 (p := p)
  have HB := Lib.hid (show invM p x = invM p (cf den 0) by rw [Hcx.out])
  generalize invM p x = b at *
  clear hc0
  generalize w.alloc (.cells #[.slice A num.length c, .slice (some ⟨gA, goff, none⟩) den.length d] 37) = W at *
  go_wp2_with fail
  go_loopw [8, 9] (fun o i wr => ∃ k : Nat, k ≤ n ∧ i = .int .i64 k ∧ AL wr W.heap.size o (serL p num den b k) ∧ Ex W wr) (fun _ i _ => n - (intOf i).toNat)
  case atStart => exact ⟨0, Nat.zero_le _, rfl, AL.nil _ _, Ex.refl W⟩
  case round =>
    obtain ⟨k, hk, rfl, hal, hek⟩ := hrel
    have vk := v0.ex hek
    have hlen := serL_len p num den b k
    have Hlen := Lib.hid hlen
    obtain ⟨A', c', rfl, hf⟩ := hal.form (by omega)
    rw [Hlen.out] at hal ⊢
    clear hlen
    by_cases hlt : k < n
    · have q0 := vk.cell 0 (v := .slice A num.length c) rfl
      have HS := Lib.hid (serL_el (p := p) (by omega) num den b k)
      by_cases hkn : k < num.length
      · obtain ⟨gN, oN, y0, rfl, hy0, hgN, qn⟩ := (hn.ex (x0.trans hek)).at_ hkn
        have Hy0 := Lib.hid (show cf num k = y0 from cf_of hy0)
        clear hy0
        go_wp2_with fail
        clear q0 qn
        go_loopw [10, 11] (fun s i wi => ∃ j : Nat, j ≤ k ∧ j + 1 ≤ den.length ∧ s = .int .i64 (sv num den (serL p num den b k) k j % p) ∧ i = .int .i64 ((j : Int) + 1) ∧ AL wi W.heap.size (.slice A' k c') (serL p num den b k) ∧ Rd wi A' (serL p num den b k) ∧ Ex W wi) (fun _ i _ => k + 1 - (intOf i).toNat)
        case atStart =>
          have bb := cf_bd Hne.out (show 0 < p by omega) k
          exact ⟨0, Nat.zero_le _, by omega, by rw [sv, Hy0.out] ; rw [Hy0.out] at bb; rw [Int.emod_eq_of_lt bb.1 bb.2], rfl, hal, hf.rd, hek⟩
        case round =>
          obtain ⟨j, hj, hjd, rfl, rfl, hali, hri, hej⟩ := hrel
          have vj := v0.ex hej
          have q1 := vj.cell 1 (v := .slice (some ⟨gA, goff, none⟩) den.length d) rfl
          by_cases hjk : j + 1 < den.length ∧ j + 1 ≤ k
          · obtain ⟨g1, g2⟩ := hjk
            obtain ⟨y, hy⟩ : ∃ y, den[j + 1]? = some y := ⟨_, List.getElem?_eq_getElem g1⟩
            have qd := (hd.ex (x0.trans hej)).cell hy
            have hyb := allEl_at Hde.out hy
            have Hy := Lib.hid (show cf den (j + 1) = y from cf_of hy)
            obtain ⟨gO, oO, z, hA', hz, hgO, qo⟩ := hri.at_ (by rw [Hlen.out]; omega : k - (j + 1) < (serL p num den b k).length)
            subst hA'
            have hzb := allEl_at HS.out hz
            have Hz := Lib.hid (show cf (serL p num den b k) (k - (j + 1)) = z from cf_of hz)
            clear hy hz
            have m0 := Int.emod_nonneg (sv num den (serL p num den b k) k j) (show p ≠ 0 by omega)
            have m1 := Int.emod_lt_of_pos (sv num den (serL p num den b k) k j) (show 0 < p by omega)
            have r0 := Int.emod_nonneg (y * z) (show p ≠ 0 by omega)
            have r1 := Int.emod_lt_of_pos (y * z) (show 0 < p by omega)
            have e1 : IntKind.i64.wrap ((k : Int) - ((j : Int) + 1)) = ((k - (j + 1) : Nat) : Int) := by rw [IntWalk.i64_in _ (by omega)]; omega
            have i1 : (0 : Int) ≤ ((k - (j + 1) : Nat) : Int) := by omega
            have i2 : ((k - (j + 1) : Nat) : Int) < (k : Int) := by omega
            have i3 : k - (j + 1) < k := by omega
            have i4 : ((j : Int) + 1) < (den.length : Int) := by omega
            have i5 : (0 : Int) ≤ (j : Int) + 1 := by omega
            have i6 : ¬ ((j : Int) + 1 < 0) := by omega
            have i7 : j + 1 < den.length := g1
            have E := Lib.hid (show (sv num den (serL p num den b k) k j - y * z) % p = sv num den (serL p num den b k) k (j + 1) % p by rw [sv, Hy.out, Hz.out])
            have e5 : ((j : Int) + 1).toNat = j + 1 := by omega
            go_wp2_with fail
            go_region_held3 (fun W => W.cell? ⟨w.heap.size, 1, none⟩ = some (.slice (some ⟨gA, goff, none⟩) den.length d) ∧ W.cell? ⟨gA, goff + (j + 1), none⟩ = some (.int .i64 y) ∧ W.cell? ⟨gO, oO + (k - (j + 1)), none⟩ = some (.int .i64 z)) (first | exact ⟨q1, qd, qo⟩)
              (first | (go_at_call 99; refine (fdMul_c p y z _ h2 (by omega) (by omega)).mono ?_; rintro e _ ⟨rfl, rfl⟩) | (go_at_call 145; refine (fdSub_c p _ _ _ h2 h97 (by omega) (by omega)).mono ?_; rintro e _ ⟨rfl, rfl⟩))
            go_wp2_with fail
            go_roundw
            case rel => exact ⟨j + 1, by omega, by omega, by rw [E.out], by go_num, hali.drew, hri.drew, hej.drew⟩
            case measure => simp [intOf]; omega
          · have Hst := Lib.hid (show sv num den (serL p num den b k) k j = sv num den (serL p num den b k) k k by
              by_cases hh : j = k
              · rw [hh]
              · have := sv_stop num den (serL p num den b k) k j (k - j) (by omega)
                rw [show j + (k - j) = k by omega] at this
                exact this.symm)
            have hor : den.length ≤ j + 1 ∨ k < j + 1 := by omega
            have m0 := Int.emod_nonneg (sv num den (serL p num den b k) k j) (show p ≠ 0 by omega)
            have m1 := Int.emod_lt_of_pos (sv num den (serL p num den b k) k j) (show 0 < p by omega)
            have hwb : W.heap.size ≤ wr.heap.size := hej.size
            obtain ⟨v', w2, hrun, hal2, hex2⟩ := al_push wr W.heap.size _ _ (sv num den (serL p num den b k) k j % p * b % p) hali hwb (by rw [Hlen.out]; omega)
            have hE2 := hex2 W hej (Nat.le_refl _)
            rw [Hst.out] at hal2
            go_wp2_with fail
            all_goals
              refine (fdMul_c p _ b _ h2 (by omega) (by omega)).mono ?_
              rintro e _ ⟨rfl, rfl⟩
              go_wp2_with (at_builtin; refine wpList_append_run rfl _ _ _ rfl rfl rfl hrun ?_)
              go_roundw
              case rel => exact ⟨k + 1, by omega, by go_num, hal2, hE2⟩
              case measure => simp [intOf]; omega
      · have Hy0 := Lib.hid (cf_ge (xs := num) (i := k) (by omega))
        go_wp2_with fail
        clear q0
        go_loopw [10, 11] (fun s i wi => ∃ j : Nat, j ≤ k ∧ j + 1 ≤ den.length ∧ s = .int .i64 (sv num den (serL p num den b k) k j % p) ∧ i = .int .i64 ((j : Int) + 1) ∧ AL wi W.heap.size (.slice A' k c') (serL p num den b k) ∧ Rd wi A' (serL p num den b k) ∧ Ex W wi) (fun _ i _ => k + 1 - (intOf i).toNat)
        case atStart =>
          have bb := cf_bd Hne.out (show 0 < p by omega) k
          exact ⟨0, Nat.zero_le _, by omega, by rw [sv, Hy0.out]; rfl, rfl, hal, hf.rd, hek⟩
        case round =>
          obtain ⟨j, hj, hjd, rfl, rfl, hali, hri, hej⟩ := hrel
          have vj := v0.ex hej
          have q1 := vj.cell 1 (v := .slice (some ⟨gA, goff, none⟩) den.length d) rfl
          by_cases hjk : j + 1 < den.length ∧ j + 1 ≤ k
          · obtain ⟨g1, g2⟩ := hjk
            obtain ⟨y, hy⟩ : ∃ y, den[j + 1]? = some y := ⟨_, List.getElem?_eq_getElem g1⟩
            have qd := (hd.ex (x0.trans hej)).cell hy
            have hyb := allEl_at Hde.out hy
            have Hy := Lib.hid (show cf den (j + 1) = y from cf_of hy)
            obtain ⟨gO, oO, z, hA', hz, hgO, qo⟩ := hri.at_ (by rw [Hlen.out]; omega : k - (j + 1) < (serL p num den b k).length)
            subst hA'
            have hzb := allEl_at HS.out hz
            have Hz := Lib.hid (show cf (serL p num den b k) (k - (j + 1)) = z from cf_of hz)
            clear hy hz
            have m0 := Int.emod_nonneg (sv num den (serL p num den b k) k j) (show p ≠ 0 by omega)
            have m1 := Int.emod_lt_of_pos (sv num den (serL p num den b k) k j) (show 0 < p by omega)
            have r0 := Int.emod_nonneg (y * z) (show p ≠ 0 by omega)
            have r1 := Int.emod_lt_of_pos (y * z) (show 0 < p by omega)
            have e1 : IntKind.i64.wrap ((k : Int) - ((j : Int) + 1)) = ((k - (j + 1) : Nat) : Int) := by rw [IntWalk.i64_in _ (by omega)]; omega
            have i1 : (0 : Int) ≤ ((k - (j + 1) : Nat) : Int) := by omega
            have i2 : ((k - (j + 1) : Nat) : Int) < (k : Int) := by omega
            have i3 : k - (j + 1) < k := by omega
            have i4 : ((j : Int) + 1) < (den.length : Int) := by omega
            have i5 : (0 : Int) ≤ (j : Int) + 1 := by omega
            have i6 : ¬ ((j : Int) + 1 < 0) := by omega
            have i7 : j + 1 < den.length := g1
            have E := Lib.hid (show (sv num den (serL p num den b k) k j - y * z) % p = sv num den (serL p num den b k) k (j + 1) % p by rw [sv, Hy.out, Hz.out])
            have e5 : ((j : Int) + 1).toNat = j + 1 := by omega
            go_wp2_with fail
            go_region_held3 (fun W => W.cell? ⟨w.heap.size, 1, none⟩ = some (.slice (some ⟨gA, goff, none⟩) den.length d) ∧ W.cell? ⟨gA, goff + (j + 1), none⟩ = some (.int .i64 y) ∧ W.cell? ⟨gO, oO + (k - (j + 1)), none⟩ = some (.int .i64 z)) (first | exact ⟨q1, qd, qo⟩)
              (first | (go_at_call 99; refine (fdMul_c p y z _ h2 (by omega) (by omega)).mono ?_; rintro e _ ⟨rfl, rfl⟩) | (go_at_call 145; refine (fdSub_c p _ _ _ h2 h97 (by omega) (by omega)).mono ?_; rintro e _ ⟨rfl, rfl⟩))
            go_wp2_with fail
            go_roundw
            case rel => exact ⟨j + 1, by omega, by omega, by rw [E.out], by go_num, hali.drew, hri.drew, hej.drew⟩
            case measure => simp [intOf]; omega
          · have Hst := Lib.hid (show sv num den (serL p num den b k) k j = sv num den (serL p num den b k) k k by
              by_cases hh : j = k
              · rw [hh]
              · have := sv_stop num den (serL p num den b k) k j (k - j) (by omega)
                rw [show j + (k - j) = k by omega] at this
                exact this.symm)
            have hor : den.length ≤ j + 1 ∨ k < j + 1 := by omega
            have m0 := Int.emod_nonneg (sv num den (serL p num den b k) k j) (show p ≠ 0 by omega)
            have m1 := Int.emod_lt_of_pos (sv num den (serL p num den b k) k j) (show 0 < p by omega)
            have hwb : W.heap.size ≤ wr.heap.size := hej.size
            obtain ⟨v', w2, hrun, hal2, hex2⟩ := al_push wr W.heap.size _ _ (sv num den (serL p num den b k) k j % p * b % p) hali hwb (by rw [Hlen.out]; omega)
            have hE2 := hex2 W hej (Nat.le_refl _)
            rw [Hst.out] at hal2
            go_wp2_with fail
            all_goals
              refine (fdMul_c p _ b _ h2 (by omega) (by omega)).mono ?_
              rintro e _ ⟨rfl, rfl⟩
              go_wp2_with (at_builtin; refine wpList_append_run rfl _ _ _ rfl rfl rfl hrun ?_)
              go_roundw
              case rel => exact ⟨k + 1, by omega, by go_num, hal2, hE2⟩
              case measure => simp [intOf]; omega
    · obtain rfl : k = n := by omega
      go_wp2
      go_ret
      rw [← HB.out]
      refine ⟨A', c', by rw [Hlen.out]; rfl, hf.more ?_, x0.trans hek⟩
      exact x0.size
end Go.Proofs.YtpiplogjbeofoaaDoor
