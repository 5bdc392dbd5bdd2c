/- Contracts: powers modulo a polynomial, on both sides. -/
import Derived.Test.YtjkomgoncmbgiaaDoorPoly6
import Derived.Test.YtjkomgoncmbgiaaDoorRing2
namespace Go.Proofs.YtjkomgoncmbgiaaDoor
open Go Go.RowKit
/-- What holds of a polynomial in a loop. -/
def OK (p : Int) (L : Nat) (f : List Int) : Prop := allEl p f = true ∧ Tr f ∧ f.length ≤ L
theorem OK.rest {p : Int} (hF : fieldB p = true) {m : List Int} (hm : allEl p m = true) (tm : Tr m) (hm0 : m ≠ []) {L : Nat} (hL : m.length ≤ L) (f g : List Int) : OK p L (pDivR p (pMul p f g) m) := by
  have h2 := fieldB_lo hF
  have := pDivR_lt hF (pMul_el (show 0 < p by omega) f g) hm tm hm0
  exact ⟨pDivR_el (by omega) (pMul_el (by omega) f g) m, pDivR_tr p (Tr.trim _) m, by omega⟩
theorem OK.rest1 {p : Int} (hF : fieldB p = true) {m : List Int} (hm : allEl p m = true) (tm : Tr m) (hm0 : m ≠ []) {L : Nat} (hL : m.length ≤ L) {f : List Int} (h : OK p L f) : OK p L (pDivR p f m) := by
  have h2 := fieldB_lo hF
  have := pDivR_lt hF h.1 hm tm hm0
  exact ⟨pDivR_el (by omega) h.1 m, pDivR_tr p h.2.1 m, by omega⟩
set_option maxHeartbeats 2000000 in
theorem poPower_c (p : Int) (A B : Option Addr) (c d n : Nat) (f m : List Int) (w : World) (hf : Rd w A f) (hm : Rd w B m) (hF : fieldB p = true) (of : OK p 1048576 f) (om : OK p 1048576 m) (hm2 : 2 ≤ m.length) (hn : n ≤ 1000000) :
    Calls Tryd.prog 42 #[.int .i64 p, .slice A f.length c, .int .i64 (n : Int), .slice B m.length d] w fun e w' => LI w (powM p f n m) e w' := by
  have h2 := fieldB_lo hF
  have h97 := fieldB_hi hF
  have hm0 : m ≠ [] := by intro e; rw [e] at hm2; simp at hm2
  have HF := Lib.hid hF
  have Of := Lib.hid of
  have Om := Lib.hid om
  have Hm0 := Lib.hid hm0
  clear hF of om hm0
  have x0 := (Ex.refl w).alloc (.cells #[.int .i64 1] 3)
  have b0 : Blk (w.alloc (.cells #[.int .i64 1] 3)) w.heap.size [1] := Blk.new w [1]
  have O1 : Hid (OK p 1048576 [1]) := Lib.hid ⟨el_one h2, tr_one, by simp⟩
  go_enter Tryd.func42, Tryd.ntmps42
  go_wp2_with fail
  generalize w.alloc (.cells #[.int .i64 1] 3) = W at *
  go_loopw [1, 2, 9] (fun a i o wr => ∃ (A1 A2 : Option Addr) (c1 c2 k : Nat) (f' o' : List Int), a = .slice A1 f'.length c1 ∧ o = .slice A2 o'.length c2 ∧ i = .int .i64 (k : Int) ∧ Rd wr A1 f' ∧ Fr wr w.heap.size A2 c2 o' ∧
      Hid (OK p 1048576 f') ∧ Hid (OK p 1048576 o') ∧ k ≤ 1000000 ∧ Hid (powL p m k k o' f' = powM p f n m) ∧ Ex w wr) (fun _ i _ _ => (intOf i).toNat)
  case atStart => exact ⟨A, _, c, _, n, f, [1], rfl, rfl, rfl, hf.ex x0, b0.fr (by simp) (Nat.le_refl _) (Nat.le_refl _), Of, O1, hn, Lib.hid rfl, x0⟩
  case round =>
    obtain ⟨A1, A2, c1, c2, k, f', o', rfl, rfl, rfl, rf, ro, Of', Oo', hk, He, hex⟩ := hrel
    have lf := Of'.out.2.2
    have lo := Oo'.out.2.2
    by_cases hk0 : k = 0
    · subst hk0
      go_wp2
      go_ret
      have := He.out
      rw [powL_zero] at this
      exact ⟨A2, c2, by rw [← this]; rfl, by rw [← this]; exact ro, hex⟩
    · have hkk : powL p m k k o' f' = powL p m (k / 2) (k / 2) (if k % 2 = 1 then pDivR p (pMul p o' f') m else o') (pDivR p (pMul p f' f') m) := by
        obtain ⟨j, rfl⟩ : ∃ j, k = j + 1 := ⟨k - 1, by omega⟩
        rw [powL_step _ _ _ hk0]
        exact powL_fuel p m _ _ _ _ _ (by omega) (Nat.le_refl _)
      have Hk := Lib.hid hkk
      clear hkk
      have hmr := hm.ex hex
      by_cases hodd : k % 2 = 1
      · have hb : ((k : Int) % 2 == 1) = true := by simp; omega
        go_wp2_with fail
        refine (poMul_c p A2 A1 c2 c1 o' f' _ ro.rd rf h2 h97 Oo'.out.1 Of'.out.1 (by omega)).mono ?_
        rintro e w1 ⟨A3, c3, rfl, r3, x1⟩
        have E3 := Lib.hid (pMul_eq HF.out Oo'.out.1 Of'.out.1 Oo'.out.2.1 Of'.out.2.1)
        rw [E3.out] at r3 ⊢
        go_wp2_with fail
        refine (poDiv_c p A3 B c3 d _ m _ r3.rd (hmr.ex x1) HF.out (pMul_el (by omega) _ _) Om.out.1 Hm0.out (Tr.trim _) Om.out.2.1).mono ?_
        rintro e w2 ⟨A4, c4, A5, c5, rfl, r4, r5, _, x2⟩
        have x12 := x1.trans x2
        go_wp2_with fail
        refine (poMul_c p A1 A1 c1 c1 f' f' _ (rf.ex x12) (rf.ex x12) h2 h97 Of'.out.1 Of'.out.1 (by omega)).mono ?_
        rintro e w3 ⟨A6, c6, rfl, r6, x3⟩
        have E6 := Lib.hid (pMul_eq HF.out Of'.out.1 Of'.out.1 Of'.out.2.1 Of'.out.2.1)
        rw [E6.out] at r6 ⊢
        go_wp2_with fail
        refine (poDiv_c p A6 B c6 d _ m _ r6.rd (hmr.ex (x12.trans x3)) HF.out (pMul_el (by omega) _ _) Om.out.1 Hm0.out (Tr.trim _) Om.out.2.1).mono ?_
        rintro e w4 ⟨A7, c7, A8, c8, rfl, r7, r8, _, x4⟩
        go_wp2_with fail
        go_roundw
        case rel => exact ⟨A8, A5, c8, c5, k / 2, _, _, rfl, rfl, by go_num, r8.rd, (((r5.ex x3).ex x4).more (by have := hex.size; have := x1.size; omega)), Lib.hid (OK.rest HF.out Om.out.1 Om.out.2.1 Hm0.out Om.out.2.2 _ _), Lib.hid (OK.rest HF.out Om.out.1 Om.out.2.1 Hm0.out Om.out.2.2 _ _), by omega,
          Lib.hid (by rw [← He.out, Hk.out, if_pos hodd]), hex.trans (x12.trans (x3.trans x4))⟩
        case measure => simp [intOf]; omega
      · have hb : ((k : Int) % 2 == 1) = false := by simp; omega
        go_wp2_with fail
        refine (poMul_c p A1 A1 c1 c1 f' f' _ rf rf h2 h97 Of'.out.1 Of'.out.1 (by omega)).mono ?_
        rintro e w3 ⟨A6, c6, rfl, r6, x3⟩
        have E6 := Lib.hid (pMul_eq HF.out Of'.out.1 Of'.out.1 Of'.out.2.1 Of'.out.2.1)
        rw [E6.out] at r6 ⊢
        go_wp2_with fail
        refine (poDiv_c p A6 B c6 d _ m _ r6.rd (hmr.ex x3) HF.out (pMul_el (by omega) _ _) Om.out.1 Hm0.out (Tr.trim _) Om.out.2.1).mono ?_
        rintro e w4 ⟨A7, c7, A8, c8, rfl, r7, r8, _, x4⟩
        go_wp2_with fail
        go_roundw
        case rel => exact ⟨A8, A2, c8, c2, k / 2, _, _, rfl, rfl, by go_num, r8.rd, (ro.ex x3).ex x4, Lib.hid (OK.rest HF.out Om.out.1 Om.out.2.1 Hm0.out Om.out.2.2 _ _), Oo', by omega,
          Lib.hid (by rw [← He.out, Hk.out, if_neg hodd]), hex.trans (x3.trans x4)⟩
        case measure => simp [intOf]; omega
set_option maxHeartbeats 400000 in
theorem rest_c (p : Int) (g h : Nat) (A B : Option Addr) (c d : Nat) (f m : List Int) (w : World) (h0 : w.cell? ⟨g, 0, none⟩ = some (.int .i64 p)) (h1 : w.cell? ⟨h, 0, none⟩ = some (.slice B m.length d)) (hf : Rd w A f) (hm : Rd w B m) (hF : fieldB p = true) (of : OK p 2097152 f) (om : OK p 1048576 m) (hm0 : m ≠ []) :
    Calls Tryd.prog 68 #[.slice A f.length c, .pointer (some ⟨g, 0, none⟩), .pointer (some ⟨h, 0, none⟩)] w fun e w' => LI w (pDivR p f m) e w' := by
  have h2 := fieldB_lo hF
  have h97 := fieldB_hi hF
  go_enter Tryd.func68, Tryd.ntmps68
  go_wp2_with fail
  refine (polyDivide_c p A B c d f m _ hf hm h2 h97 of.1 om.1 hm0).mono ?_
  rintro e w1 ⟨A1, c1, A2, c2, rfl, r1, r2, _, x1⟩
  go_wp2
  go_ret
  exact ⟨A2, c2, rfl, r2, x1⟩
set_option maxHeartbeats 2000000 in
theorem powerModulo_c (p : Int) (A B : Option Addr) (c d n : Nat) (f m : List Int) (w : World) (hf : Rd w A f) (hm : Rd w B m) (hF : fieldB p = true) (of : OK p 1048576 f) (om : OK p 1048576 m) (hm2 : 2 ≤ m.length) (hn : n ≤ 1000000) :
    Calls Tryd.prog 46 #[.int .i64 p, .slice A f.length c, .int .i64 (n : Int), .slice B m.length d] w fun e w' => LI w (powM p f n m) e w' := by
  have h2 := fieldB_lo hF
  have h97 := fieldB_hi hF
  have hm0 : m ≠ [] := by intro e; rw [e] at hm2; simp at hm2
  have HF := Lib.hid hF
  have Of := Lib.hid of
  have Om := Lib.hid om
  have Hm0 := Lib.hid hm0
  clear hF of om hm0
  go_enter Tryd.func46, Tryd.ntmps46
  go_wp2_with fail
  have x1 := (Ex.refl w).alloc (.cells #[.int .i64 p] 3)
  have v1 := VB.new w 3 #[.int .i64 p]
  have S1 := Lib.hid (show (w.alloc (.cells #[.int .i64 p] 3)).heap.size = w.heap.size + 1 by simp)
  generalize w.alloc (.cells #[.int .i64 p] 3) = W1 at *
  have x2 := (Ex.refl W1).alloc (.cells #[.slice B m.length d] 61)
  have v2 := VB.new W1 61 #[.slice B m.length d]
  have S2 := Lib.hid (show (W1.alloc (.cells #[.slice B m.length d] 61)).heap.size = w.heap.size + 1 + 1 by simp; exact S1.out)
  rw [S1.out] at v2
  generalize W1.alloc (.cells #[.slice B m.length d] 61) = W2 at *
  have x3 := (Ex.refl W2).alloc (.cells #[.int .i64 1] 3)
  have b3 : Blk (W2.alloc (.cells #[.int .i64 1] 3)) W2.heap.size [1] := Blk.new W2 [1]
  rw [S2.out] at b3
  have v1 := (v1.ex x2).ex x3
  have v2 := v2.ex x3
  have x3 := (x1.trans x2).trans x3
  generalize W2.alloc (.cells #[.int .i64 1] 3) = W at *
  clear x1 x2 S1 S2
  have O1 : Hid (OK p 2097152 [1]) := Lib.hid ⟨el_one h2, tr_one, by simp⟩
  have Of2 : Hid (OK p 2097152 f) := Lib.hid ⟨Of.out.1, Of.out.2.1, by have := Of.out.2.2; omega⟩
  refine (rest_c p _ _ _ B 1 d [1] m W (v1.cell 0 rfl) (v2.cell 0 rfl) (b3.rd (by simp)) (hm.ex x3) HF.out O1.out Om.out Hm0.out).mono ?_
  rintro e w1 ⟨A1, c1, rfl, r1, y1⟩
  have v11 := v1.ex y1
  have v21 := v2.ex y1
  have x4 := x3.trans y1
  go_wp2_with fail
  refine (rest_c p _ _ A B c d f m w1 (v11.cell 0 rfl) (v21.cell 0 rfl) (hf.ex x4) (hm.ex x4) HF.out Of2.out Om.out Hm0.out).mono ?_
  rintro e w2 ⟨A2, c2, rfl, r2, y2⟩
  have v12 := v11.ex y2
  have v22 := v21.ex y2
  have x5 := x4.trans y2
  have r12 := (r1.ex y2).more x3.size
  have s5 := x5.size
  have Hp := Lib.hid (powM_rest HF.out Of.out.1 Of.out.2.1 Om.out.1 Om.out.2.1 hm2 n)
  have Oa := Lib.hid (OK.rest1 HF.out Om.out.1 Om.out.2.1 Hm0.out (L := 1048576) Om.out.2.2 (f := [1]) ⟨el_one h2, tr_one, by simp⟩)
  have Ob := Lib.hid (OK.rest1 HF.out Om.out.1 Om.out.2.1 Hm0.out (L := 1048576) Om.out.2.2 Of.out)
  clear y1 y2 v11 v21 v1 v2 b3 x3 x4
  go_wp2_with fail
  go_loopw [2, 10, 11] (fun i o a wr => ∃ (A1 A2 : Option Addr) (c1 c2 k : Nat) (f' o' : List Int), a = .slice A1 f'.length c1 ∧ o = .slice A2 o'.length c2 ∧ i = .int .i64 (k : Int) ∧ Rd wr A1 f' ∧ Fr wr w.heap.size A2 c2 o' ∧
      Hid (OK p 1048576 f') ∧ Hid (OK p 1048576 o') ∧ k ≤ 1000000 ∧ Hid (powL p m k k o' f' = powM p f n m) ∧ VB wr w.heap.size 3 #[.int .i64 p] ∧ VB wr (w.heap.size + 1) 61 #[.slice B m.length d] ∧ Ex w wr) (fun i _ _ _ => (intOf i).toNat)
  case atStart => exact ⟨A2, A1, c2, c1, n, _, _, rfl, rfl, rfl, r2.rd, r12, Ob, Oa, hn, Hp, v12, v22, x5⟩
  case round =>
    obtain ⟨A1, A2, c1, c2, k, f', o', rfl, rfl, rfl, rf, ro, Of', Oo', hk, He, vp, vm, hex⟩ := hrel
    have lf := Of'.out.2.2
    have lo := Oo'.out.2.2
    by_cases hk0 : k = 0
    · subst hk0
      go_wp2
      go_ret
      have := He.out
      rw [powL_zero] at this
      exact ⟨A2, c2, by rw [← this]; rfl, by rw [← this]; exact ro, hex⟩
    · have hkk : powL p m k k o' f' = powL p m (k / 2) (k / 2) (if k % 2 = 1 then pDivR p (pMul p o' f') m else o') (pDivR p (pMul p f' f') m) := by
        obtain ⟨j, rfl⟩ : ∃ j, k = j + 1 := ⟨k - 1, by omega⟩
        rw [powL_step _ _ _ hk0]
        exact powL_fuel p m _ _ _ _ _ (by omega) (Nat.le_refl _)
      have Hk := Lib.hid hkk
      clear hkk
      have hmr := hm.ex hex
      have cp := vp.cell 0 (v := .int .i64 p) rfl
      by_cases hodd : k % 2 = 1
      · have hb : ((k : Int) % 2 == 1) = true := by simp; omega
        go_wp2_with fail
        refine (polyMul_c p A2 A1 c2 c1 o' f' _ ro.rd rf h2 h97 Oo'.out.1 Of'.out.1 (by omega)).mono ?_
        rintro e w1 ⟨A3, c3, rfl, r3, x1⟩
        have p1 := vp.ex x1
        have m1 := vm.ex x1
        have l3 := pMul_le p o' f'
        go_wp2_with fail
        refine (rest_c p _ _ A3 B c3 d _ m _ (p1.cell 0 rfl) (m1.cell 0 rfl) r3.rd (hmr.ex x1) HF.out ⟨pMul_el (by omega) _ _, Tr.trim _, by omega⟩ Om.out Hm0.out).mono ?_
        rintro e w2 ⟨A5, c5, rfl, r5, x2⟩
        have x12 := x1.trans x2
        have p2 := p1.ex x2
        have m2 := m1.ex x2
        have cp := p2.cell 0 (v := .int .i64 p) rfl
        go_wp2_with fail
        refine (polyMul_c p A1 A1 c1 c1 f' f' _ (rf.ex x12) (rf.ex x12) h2 h97 Of'.out.1 Of'.out.1 (by omega)).mono ?_
        rintro e w3 ⟨A6, c6, rfl, r6, x3⟩
        have p3 := p2.ex x3
        have m3 := m2.ex x3
        have l6 := pMul_le p f' f'
        go_wp2_with fail
        refine (rest_c p _ _ A6 B c6 d _ m _ (p3.cell 0 rfl) (m3.cell 0 rfl) r6.rd (hmr.ex (x12.trans x3)) HF.out ⟨pMul_el (by omega) _ _, Tr.trim _, by omega⟩ Om.out Hm0.out).mono ?_
        rintro e w4 ⟨A8, c8, rfl, r8, x4⟩
        go_wp2_with fail
        go_roundw
        case rel => exact ⟨A8, A5, c8, c5, k / 2, _, _, rfl, rfl, by go_num, r8.rd, (((r5.ex x3).ex x4).more (by have := hex.size; have := x1.size; omega)), Lib.hid (OK.rest HF.out Om.out.1 Om.out.2.1 Hm0.out Om.out.2.2 _ _), Lib.hid (OK.rest HF.out Om.out.1 Om.out.2.1 Hm0.out Om.out.2.2 _ _), by omega,
          Lib.hid (by rw [← He.out, Hk.out, if_pos hodd]), p3.ex x4, m3.ex x4, hex.trans (x12.trans (x3.trans x4))⟩
        case measure => simp [intOf]; omega
      · have hb : ((k : Int) % 2 == 1) = false := by simp; omega
        go_wp2_with fail
        refine (polyMul_c p A1 A1 c1 c1 f' f' _ rf rf h2 h97 Of'.out.1 Of'.out.1 (by omega)).mono ?_
        rintro e w3 ⟨A6, c6, rfl, r6, x3⟩
        have p3 := vp.ex x3
        have m3 := vm.ex x3
        have l6 := pMul_le p f' f'
        go_wp2_with fail
        refine (rest_c p _ _ A6 B c6 d _ m _ (p3.cell 0 rfl) (m3.cell 0 rfl) r6.rd (hmr.ex x3) HF.out ⟨pMul_el (by omega) _ _, Tr.trim _, by omega⟩ Om.out Hm0.out).mono ?_
        rintro e w4 ⟨A8, c8, rfl, r8, x4⟩
        go_wp2_with fail
        go_roundw
        case rel => exact ⟨A8, A2, c8, c2, k / 2, _, _, rfl, rfl, by go_num, r8.rd, (ro.ex x3).ex x4, Lib.hid (OK.rest HF.out Om.out.1 Om.out.2.1 Hm0.out Om.out.2.2 _ _), Oo', by omega,
          Lib.hid (by rw [← He.out, Hk.out, if_neg hodd]), p3.ex x4, m3.ex x4, hex.trans (x3.trans x4)⟩
        case measure => simp [intOf]; omega
end Go.Proofs.YtjkomgoncmbgiaaDoor
