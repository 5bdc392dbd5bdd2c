/- RunSpace: the program's side. -/
import Derived.Test.YtkpfmnconnopnaaDoorRun4
namespace Go.Proofs.YtkpfmnconnopnaaDoor
set_option maxRecDepth 100000
open Go Go.RowKit
set_option maxHeartbeats 4000000 in
theorem RunSpace_c (p x y z : Int) (A B C D U : Option Addr) (a b c d e : Nat) (ra rb rc rd us : List (List Int)) (w : World) (ha : RdM w A ra) (hb : RdM w B rb) (hc : RdM w C rc) (hd : RdM w D rd) (hu : RdM w U us) (ht : Tb w) :
    Calls Tryd.prog 15 #[.int .i64 p, .agg #[.int .i64 x, .int .i64 y, .int .i64 z, .slice A ra.length a, .slice B rb.length b, .slice C rc.length c, .slice D rd.length d], .slice U us.length e] w fun e w' => LMB w (runR p x y z ra rb rc rd us) e w' := by
  have hul := hu.1
  have x0 := (Ex.refl w).alloc (.cells #[.int .i64 x, .int .i64 y, .int .i64 z, .slice A ra.length a, .slice B rb.length b, .slice C rc.length c, .slice D rd.length d] 29)
  have v0 := VB.new w 29 #[.int .i64 x, .int .i64 y, .int .i64 z, .slice A ra.length a, .slice B rb.length b, .slice C rc.length c, .slice D rd.length d]
  cases hs : ssB p x y z ra rb rc rd with
  | false =>
    have H := Lib.hid (runR_no (fun h => by rw [hs] at h; cases h.1) : runR p x y z ra rb rc rd us = ([], false))
    go_enter Tryd.func15, Tryd.ntmps15
    go_wp2_with fail
    generalize w.alloc (.cells #[.int .i64 x, .int .i64 y, .int .i64 z, .slice A ra.length a, .slice B rb.length b, .slice C rc.length c, .slice D rd.length d] 29) = W at *
    refine (isStateSpace_c p x y z A B C D a b c d ra rb rc rd W (ha.ex x0) (hb.ex x0) (hc.ex x0) (hd.ex x0) (ht.ex x0)).mono ?_
    rintro e w1 ⟨rfl, x1⟩
    rw [hs]
    go_wp2
    go_ret2
    exact ⟨none, 0, by rw [H.out]; rfl, by rw [H.out]; exact FMI.nil _ _ _ _, x0.trans x1⟩
  | true =>
    cases hr : (decide ((us.length : Int) ≤ 60) && rowsB p y us) with
    | false =>
      have H := Lib.hid (runR_no (fun h => by rw [hr] at h; cases h.2) : runR p x y z ra rb rc rd us = ([], false))
      have HF := ssB_parts hs
      have h2 := fieldB_lo HF.1
      have h97 := fieldB_hi HF.1
      clear HF
      go_enter Tryd.func15, Tryd.ntmps15
      go_wp2_with fail
      generalize w.alloc (.cells #[.int .i64 x, .int .i64 y, .int .i64 z, .slice A ra.length a, .slice B rb.length b, .slice C rc.length c, .slice D rd.length d] 29) = W at *
      refine (isStateSpace_c p x y z A B C D a b c d ra rb rc rd W (ha.ex x0) (hb.ex x0) (hc.ex x0) (hd.ex x0) (ht.ex x0)).mono ?_
      rintro e w1 ⟨rfl, x1⟩
      rw [hs]
      have v1 := v0.ex x1
      have q1 := v1.cell 1 (v := .int .i64 y) rfl
      go_wp2_with fail
      refine (isRun_c p y U _ us w1 (hu.ex (x0.trans x1))).mono ?_
      rintro e _ ⟨rfl, rfl⟩
      rw [hr]
      go_wp2
      go_ret2
      exact ⟨none, 0, by rw [H.out]; rfl, by rw [H.out]; exact FMI.nil _ _ _ _, x0.trans x1⟩
    | true =>
      have H := Lib.hid (runR_yes ⟨hs, hr⟩ : runR p x y z ra rb rc rd us = _)
      have HF := ssB_parts hs
      have h2 := fieldB_lo HF.1
      have h97 := fieldB_hi HF.1
      obtain ⟨_, i1, i2, i3, ⟨l1, r1⟩, ⟨l2, r2⟩, ⟨l3, r3⟩, ⟨l4, r4⟩⟩ := HF
      obtain ⟨n, rfl⟩ : ∃ n : Nat, x = n := ⟨ra.length, l1.symm⟩
      obtain ⟨m, rfl⟩ : ∃ m : Nat, y = m := ⟨rb.length, l2.symm⟩
      have hz : ∃ q : Nat, z = q ∧ q ≤ 1000 := by
        simp only [inB, Bool.and_eq_true, decide_eq_true_eq] at i3
        exact ⟨z.toNat, by omega, by omega⟩
      obtain ⟨q, rfl, hq⟩ := hz
      have hn : n ≤ 1000 := by simp only [inB, Bool.and_eq_true, decide_eq_true_eq] at i1; omega
      have hr2 := hr
      simp only [Bool.and_eq_true, decide_eq_true_eq] at hr2
      obtain ⟨u60, ur⟩ := hr2
      have Hal := Lib.hid (show ra.length = n by omega)
      have Hbl := Lib.hid (show rb.length = m by omega)
      have Hcl := Lib.hid (show rc.length = n by omega)
      have Hdl := Lib.hid (show rd.length = m by omega)
      have Har := Lib.hid r1
      have Hbr := Lib.hid r2
      have Hcr := Lib.hid r3
      have Hdr := Lib.hid r4
      have Hur := Lib.hid ur
      clear i1 i2 i3 l1 r1 l2 r2 l3 r3 l4 r4 ur
      go_enter Tryd.func15, Tryd.ntmps15
      go_wp2_with fail
      generalize w.alloc (.cells #[.int .i64 n, .int .i64 m, .int .i64 q, .slice A ra.length a, .slice B rb.length b, .slice C rc.length c, .slice D rd.length d] 29) = W at *
      refine (isStateSpace_c p n m q A B C D a b c d ra rb rc rd W (ha.ex x0) (hb.ex x0) (hc.ex x0) (hd.ex x0) (ht.ex x0)).mono ?_
      rintro e w1 ⟨rfl, x1⟩
      rw [hs]
      have v1 := v0.ex x1
      have q1 := v1.cell 1 (v := .int .i64 m) rfl
      go_wp2_with fail
      refine (isRun_c p m U _ us w1 (hu.ex (x0.trans x1))).mono ?_
      rintro e _ ⟨rfl, rfl⟩
      rw [hr]
      have q0 := v1.cell 0 (v := .int .i64 n) rfl
      go_wp2_with fail
      refine (zeros_c n (by omega) w1).mono ?_
      rintro e w2 ⟨g2, rfl, hg2, b2, x2⟩
      go_wp2_with fail
      have hw2 : w1.heap.size ≤ w2.heap.size := x2.size
      have x3 := ((x0.trans x1).trans x2).trans ((Ex.refl w2).alloc (.cells #[] 37))
      have v3 := (v1.ex x2).ex ((Ex.refl w2).alloc (.cells #[] 37))
      have f3 := ((b2.fr (c := n) (by rw [List.length_replicate]; omega) hg2 (by rw [List.length_replicate]; exact Nat.le_refl _)).fi).ex ((Ex.refl w2).alloc (.cells #[] 37))
      have m3 := GM.empty w2 (B := w1.heap.size) hw2
      have xw := x0.trans x1
      have y3 := x2.trans ((Ex.refl w2).alloc (.cells #[] 37))
      have hown3 : ∀ z, (Value.slice (some ⟨w2.heap.size, 0, none⟩) 0 0).ownBlock = some z → z < w1.heap.size ∨ w2.heap.size ≤ z := fun z h => by injection h with h; exact .inr (by rw [← h]; exact Nat.le_refl _)
      clear q0 q1 v0 b2
      generalize Value.slice (some ⟨w2.heap.size, 0, none⟩) 0 0 = ov at *
      generalize w2.alloc (.cells #[] 37) = w3 at *
      go_loopw [8, 9, 32] (fun x o i wi => ∃ (k : Nat) (X : Option Addr) (xc fa fb : Nat), k ≤ us.length ∧ i = .int .i64 k ∧ x = .slice X n xc ∧ FI wi fa fb X xc (rx p n ra rb us k) ∧ (∀ z, o.ownBlock = some z → z < fa ∨ fb ≤ z) ∧ GM wi w1.heap.size wi.heap.size o (rys p n q ra rb rc rd us k) ∧ Ex w1 wi) (fun _ _ i _ => us.length - (intOf i).toNat)
      case atStart => exact ⟨0, _, _, _, _, Nat.zero_le _, rfl, rfl, f3, hown3, m3, y3⟩
      case round =>
        obtain ⟨k, X, xc, fa, fb, hk, rfl, rfl, fx, hown, hgm, hek⟩ := hrel
        by_cases hlt : k < us.length
        · have ek := xw.trans hek
          obtain ⟨gU, oU, U', c', u, rfl, huk, qu0, hru0⟩ := hu.at_ hlt
          have huB := rowsB_at Hur.out huk
          have Hul := Lib.hid (show u.length = m by have := huB.1; omega)
          have Hue := Lib.hid huB.2
          have Hux := Lib.hid (show rx p n ra rb us (k + 1) = pls p (cmb p n (rx p n ra rb us k) ra) (cmb p n u rb) by rw [rx, huk]; rfl)
          have Huy := Lib.hid (show ry p n q ra rb rc rd us k = pls p (cmb p q (rx p n ra rb us k) rc) (cmb p q u rd) by rw [ry, huk]; rfl)
          have Hxl := Lib.hid (rx_len p n ra rb us k)
          have Hxe := Lib.hid (rx_el (p := p) (by omega) n ra rb us k)
          have Hrs := Lib.hid (rys_succ p n q ra rb rc rd us k)
          have qu := cell_ex ek qu0
          clear huk huB qu0
          have vk := v1.ex hek
          have q2 := vk.cell 2 (v := .int .i64 q) rfl
          have q5 := vk.cell 5 (v := .slice C rc.length c) rfl
          have cC := combine_c p X C xc c q (rx p n ra rb us k) rc _ fx.rd (hc.ex ek) h2 h97 Hxe.out (by rw [Hxl.out, Hcl.out]) Hcr.out hq
          rw [Hxl.out] at cC
          go_wp2_with fail
          refine cC.mono ?_
          rintro e w4 ⟨g4, rfl, hg4, o4, z4⟩
          have ek4 := ek.trans z4
          have vk4 := vk.ex z4
          have q2 := vk4.cell 2 (v := .int .i64 q) rfl
          have q6 := vk4.cell 6 (v := .slice D rd.length d) rfl
          go_wp2_with fail
          refine (combine_c p U' D c' d q u rd w4 (hru0.ex ek4) (hd.ex ek4) h2 h97 Hue.out (by rw [Hul.out, Hdl.out]) Hdr.out hq).mono ?_
          rintro e w5 ⟨g5, rfl, hg5, o5, z5⟩
          have cT := addTimes_c p g4 0 q q (cmb p q (rx p n ra rb us k) rc) 1 (some ⟨g5, 0, none⟩) q (cmb p q u rd) w5 (o4.ex z5) (by rw [cmb_len]; omega) (o5.rd (by rw [cmb_len]; omega)) (by rw [cmb_len]; exact Nat.le_refl _) (fun _ a' e' => by have := o4.lt; injection e' with e'; rw [← e']; show g5 ≠ g4; omega) h2 h97 (cmb_el (by omega) _ _ _) (cmb_el (by omega) _ _ _) (by omega)
          rw [cmb_len, pls_addAt _ _ _ (by rw [cmb_len, cmb_len])] at cT
          go_wp2_with fail
          refine cT.mono ?_
          rintro e w6 ⟨rfl, o6, z6⟩
          have y6 : Ex wr w6 := (z4.trans z5).ex1 z6 hg4
          have ek6 := ek.trans y6
          have vk6 := vk.ex y6
          have q0 := vk6.cell 0 (v := .int .i64 n) rfl
          have q3 := vk6.cell 3 (v := .slice A ra.length a) rfl
          have cA := combine_c p X A xc a n (rx p n ra rb us k) ra _ (fx.ex y6).rd (ha.ex ek6) h2 h97 Hxe.out (by rw [Hxl.out, Hal.out]) Har.out hn
          rw [Hxl.out] at cA
          go_wp2_with fail
          refine cA.mono ?_
          rintro e w7 ⟨g7, rfl, hg7, o7, z7⟩
          have ek7 := ek6.trans z7
          have vk7 := vk6.ex z7
          have q0 := vk7.cell 0 (v := .int .i64 n) rfl
          have q4 := vk7.cell 4 (v := .slice B rb.length b) rfl
          go_wp2_with fail
          refine (combine_c p U' B c' b n u rb w7 (hru0.ex ek7) (hb.ex ek7) h2 h97 Hue.out (by rw [Hul.out, Hbl.out]) Hbr.out hn).mono ?_
          rintro e w8 ⟨g8, rfl, hg8, o8, z8⟩
          have cT := addTimes_c p g7 0 n n (cmb p n (rx p n ra rb us k) ra) 1 (some ⟨g8, 0, none⟩) n (cmb p n u rb) w8 (o7.ex z8) (by rw [cmb_len]; omega) (o8.rd (by rw [cmb_len]; omega)) (by rw [cmb_len]; exact Nat.le_refl _) (fun _ a' e' => by have := o7.lt; injection e' with e'; rw [← e']; show g8 ≠ g7; omega) h2 h97 (cmb_el (by omega) _ _ _) (cmb_el (by omega) _ _ _) (by omega)
          rw [cmb_len, pls_addAt _ _ _ (by rw [cmb_len, cmb_len])] at cT
          go_wp2_with fail
          refine cT.mono ?_
          rintro e w9 ⟨rfl, o9, z9⟩
          have y9 : Ex w6 w9 := (z7.trans z8).ex1 z9 hg7
          have hlr : (pls p (cmb p q (rx p n ra rb us k) rc) (cmb p q u rd)).length = q := by rw [pls_len, cmb_len]
          have hlx : (pls p (cmb p n (rx p n ra rb us k) ra) (cmb p n u rb)).length = n := by rw [pls_len, cmb_len]
          have s4 := o4.lt
          have s6 := y9.size
          have f6 : FI w9 wr.heap.size w6.heap.size (some ⟨g4, 0, none⟩) q (pls p (cmb p q (rx p n ra rb us k) rc) (cmb p q u rd)) := (((o6.fr (c := q) (by omega) hg4 (by omega))).fi).ex y9
          have f9 : FI w9 w6.heap.size w9.heap.size (some ⟨g7, 0, none⟩) n (pls p (cmb p n (rx p n ra rb us k) ra) (cmb p n u rb)) := ((o9.fr (c := n) (by omega) hg7 (by omega))).fi
          obtain ⟨v5, wa, hrun, hgm5, ho5, hk5, hE5⟩ := GM.push (hgm.ex (y6.trans y9)) f6 (Nat.le_refl _) s6 hek.size (by rw [rys_len]; omega)
          have fxa := f9.grown ho5 (fun z h => .inl (Nat.lt_of_lt_of_le (hgm.2.1 z h) y6.size))
          have ea := hE5 w1 ((hek.trans y6).trans y9) (Nat.le_refl _)
          rw [hlr] at hrun
          rw [← Huy.out, ← Hrs.out] at hgm5
          rw [← Hux.out] at fxa
          clear cC cA cT q0 q3 q4 q2 q5 q6 f6 f9
          go_wp2_with (at_builtin; refine wpList_append_run rfl _ _ _ rfl rfl rfl hrun ?_)
          go_roundw
          case rel => exact ⟨k + 1, _, _, _, _, by omega, by go_num, rfl, fxa, (fun z h => by rcases hk5 z h with h1 | h1; exact .inl (Nat.lt_of_lt_of_le (hgm.2.1 z h1) y6.size); exact .inr h1), hgm5, ea⟩
          case measure => simp [intOf]; omega
        · have hka : k = us.length := by omega
          subst hka
          obtain ⟨A', c', rfl, hf⟩ := hgm.fmi (by rw [rys_len]; omega)
          go_wp2_with fail
          go_ret2
          have HO := H.out
          simp only [Int.toNat_natCast] at HO
          exact ⟨A', c', by rw [HO]; rfl, by rw [HO]; exact hf.more xw.size (Nat.le_refl _), xw.trans hek⟩
end Go.Proofs.YtkpfmnconnopnaaDoor
