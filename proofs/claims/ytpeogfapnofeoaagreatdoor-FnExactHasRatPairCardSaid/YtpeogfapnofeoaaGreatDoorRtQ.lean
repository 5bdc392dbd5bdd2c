/- ratAddTimes with a row that is only read. -/
import Derived.Test.YtpeogfapnofeoaaGreatDoorRtB
import Derived.Test.YtpeogfapnofeoaaGreatDoorPkG
namespace Go.Proofs.YtpeogfapnofeoaaGreatDoor
set_option maxRecDepth 100000
open Go Go.RowKit
set_option maxHeartbeats 4000000 in
theorem ratAddTimesR_c (p : Int) (S : Nat → Prop) (b : Nat) (Aw : Option Addr) (vs ws : List Fra) (k : Fra) (A B : Option Addr) (c d c1 c2 : Nat) (w : World) (hS : ∀ z, S z → z < w.heap.size) (hb : S b) (hv : FBk w S b vs) (hw : ∀ W, ExS (fun z => z = b) w W → RdS EF W Aw ws) (hl : vs.length = ws.length) (hA : RX w S A k.n) (hB : RX w S B k.d)
    (hvv : ∀ x ∈ vs, FV p x ∧ FL 137438953472 x) (hww : ∀ x ∈ ws, FV p x ∧ FL 68719476736 x) (hk : FV p k) (hkl : FL 68719476736 k) (hn : ws.length ≤ 1000) :
    Calls Tryz.prog 42 #[.int .i64 p, .slice (some ⟨b, 0, none⟩) vs.length c1, .agg #[.slice A k.n.length c, .slice B k.d.length d], .slice Aw ws.length c2] w fun e w' => e = .returned (.tuple #[]) ∧ FBk w' S b (addTm p vs k ws) ∧ ExS (fun z => z = b) w w' ∧ OwK S b w w' := by
  have Hvv := Lib.hid hvv
  have Hww := Lib.hid hww
  have HK := Lib.hid hk
  have HKL := Lib.hid hkl
  have Hl := Lib.hid hl
  have hknl := hA.1.len
  have x0 := (Ex.refl w).alloc (.cells #[.slice A k.n.length c, .slice B k.d.length d] 58)
  have v0 := VB.new w 58 #[.slice A k.n.length c, .slice B k.d.length d]
  have s0 : (w.alloc (.cells #[.slice A k.n.length c, .slice B k.d.length d] 58)).heap.size = w.heap.size + 1 := by simp
  have HB : ∀ z, S z → z < w.heap.size := hS
  have hbl := hS b hb
  clear hvv hww hk hkl hl
  go_enter Tryz.func42, Tryz.ntmps42
  go_wp2_with fail
  generalize w.alloc (.cells #[.slice A k.n.length c, .slice B k.d.length d] 58) = W0 at *
  refine (isNought_c A B c d k.n k.d W0 hknl).mono ?_
  rintro e w1 ⟨rfl, x1⟩
  have v0 := v0.ex x1
  have xx := x0.trans x1
  have z1 := x1.size
  by_cases hz : k.n = []
  · rw [decide_eq_true hz]
    have HT := Lib.hid (show addTm p vs k ws = vs from if_pos (iszF_iff.2 hz))
    clear hz
    go_wp2_with fail
    first | rw [Exit.noGoto_ret] | skip
    refine bodyPost_ret (results_none rfl _ _ _) rfl ?_
    rw [HT.out]
    exact ⟨rfl, hv.ex xx, ExS.of_ex xx, OwK.of_ex xx⟩
  · rw [decide_eq_false hz]
    have HT := Lib.hid (show addTm p vs k ws = addRw p vs k ws from if_neg (fun h => hz (iszF_iff.1 h)))
    have hRl : (addRw p vs k ws).length = vs.length := by rw [addRw, List.length_zipWith, ← Hl.out]; omega
    have hRat : ∀ (i : Nat) (v x : Fra), vs[i]? = some v → ws[i]? = some x → (addRw p vs k ws)[i]? = some (addR1 p k v x) := fun i v x h1 h2 => by rw [addRw, List.getElem?_zipWith, h1, h2]
    have HRl := Lib.hid hRl
    have HRat := Lib.hid hRat
    clear hz hRl hRat
    generalize addRw p vs k ws = R at *
    go_wp2_with fail
    go_loopw [14] (fun i wi => ∃ j : Nat, j ≤ ws.length ∧ i = .int .i64 j ∧ FBk wi S b (R.take j ++ vs.drop j) ∧ VB wi w.heap.size 58 #[.slice A k.n.length c, .slice B k.d.length d] ∧ ExS (fun z => z = b) w wi ∧ OwK S b w wi) (fun i _ => ws.length - (intOf i).toNat)
    case atStart => exact ⟨0, Nat.zero_le _, rfl, by simpa using hv.ex xx, v0, ExS.of_ex xx, OwK.of_ex xx⟩
    case round =>
      clear v0 x1 x0 xx z1
      obtain ⟨j, hj, rfl, hF, hD, he, hok⟩ := hrel
      have hez := he.size
      have hbx : ¬ (w.heap.size = b) := by omega
      by_cases hlt : j < ws.length
      · obtain ⟨gx, ox, x, Ax, cx, Bx, dx, rfl, hx, e0, e1, hAx, hBx⟩ := (hw wr he).frac hlt
        obtain ⟨v, hv'⟩ : ∃ v, vs[j]? = some v := ⟨_, List.getElem?_eq_getElem (by rw [Hl.out]; exact hlt)⟩
        have hat := mix_at R vs HRl.out j (by rw [Hl.out]; exact hlt)
        rw [hv'] at hat
        obtain ⟨Av, cv, Bv, dv, g0, g1, hAv, hBv⟩ := hF.at_ hat
        have hxm := Hww.out x (List.mem_of_getElem? hx)
        have hvm := Hvv.out v (List.mem_of_getElem? hv')
        have hR := HRat.out j v x hv' hx
        have HX := Lib.hid hxm
        have HV := Lib.hid hvm
        have HR := Lib.hid hR
        have HV' := Lib.hid hv'
        have hxnl := hAx.len
        have y7 := (Ex.refl wr).alloc (.cells #[.slice Ax x.n.length cx, .slice Bx x.d.length dx] 58)
        have v7 := VB.new wr 58 #[.slice Ax x.n.length cx, .slice Bx x.d.length dx]
        have s7 : (wr.alloc (.cells #[.slice Ax x.n.length cx, .slice Bx x.d.length dx] 58)).heap.size = wr.heap.size + 1 := by simp
        clear hx hv' hat hxm hvm hR
        go_wp2_with fail
        generalize wr.alloc (.cells #[.slice Ax x.n.length cx, .slice Bx x.d.length dx] 58) = W7 at *
        refine (isNought_c Ax Bx cx dx x.n x.d W7 hxnl).mono ?_
        rintro e w8 ⟨rfl, x8⟩
        have v8 := v7.ex x8
        have y8 := y7.trans x8
        have z8 := x8.size
        have hF8 := hF.ex y8
        have hD8 := hD.ex y8
        have he8 := he.trans (ExS.of_ex (S := fun z => z = b) y8) (fun _ _ h => h)
        have hok8 := hok.trans (OwK.of_ex y8)
        clear v7 hF hD he
        by_cases hxz : x.n = []
        · rw [decide_eq_true hxz]
          have HR1 := Lib.hid (show R.take j ++ vs.drop j = R.take (j + 1) ++ vs.drop (j + 1) from mix_same R vs HRl.out j v (by rw [HR.out, addR1, if_pos (iszF_iff.2 hxz)]) HV'.out)
          clear hxz
          go_wp2_with fail
          go_roundw
          case rel => exact ⟨j + 1, by omega, by go_num, by rw [← HR1.out]; exact hF8, hD8, he8, hok8⟩
          case measure => simp [intOf]; omega
        · rw [decide_eq_false hxz]
          have HR1 := Lib.hid (show (R.take j ++ vs.drop j).set j (addF p v (mulF p k x)) = R.take (j + 1) ++ vs.drop (j + 1) from mix_set R vs HRl.out j _ (by rw [HR.out, addR1, if_neg (fun h => hxz (iszF_iff.1 h))]))
          clear hxz
          have hM := HK.out.mul HX.out.1
          have hMl := HKL.out.mul HK.out HX.out.1 HX.out.2
          have HMul : ∀ W, Ex w8 W → Calls Tryz.prog 75 #[.int .i64 p, .agg #[.slice A k.n.length c, .slice B k.d.length d], .agg #[.slice Ax x.n.length cx, .slice Bx x.d.length dx]] W fun e w' => FFx W (mulF p k x) e w' := fun W h =>
            fractionMul_b p A B c d k.n k.d Ax Bx cx dx x.n x.d W ((hA.sx he8 (fun z e => e ▸ hb)).1.ex h) ((hB.sx he8 (fun z e => e ▸ hb)).1.ex h) ((hAx.ex y8).ex h) ((hBx.ex y8).ex h) (HK.out.okb (by have := HKL.out.1; omega) (by have := HKL.out.2; omega)) (HX.out.1.okb (by have := HX.out.2.1; omega) (by have := HX.out.2.2; omega))
          have HAdd : ∀ (A3 B3 : Option Addr) (c3 d3 : Nat) (W : World), Ex w8 W → Rd W A3 (mulF p k x).n → Rd W B3 (mulF p k x).d → Calls Tryz.prog 74 #[.int .i64 p, .agg #[.slice Av v.n.length cv, .slice Bv v.d.length dv], .agg #[.slice A3 (mulF p k x).n.length c3, .slice B3 (mulF p k x).d.length d3]] W fun e w' => FFx W (addF p v (mulF p k x)) e w' := fun A3 B3 c3 d3 W h r1 r2 =>
            fractionAdd_b p Av Bv cv dv v.n v.d A3 B3 c3 d3 (mulF p k x).n (mulF p k x).d W ((hAv.ex y8).1.ex h) ((hBv.ex y8).1.ex h) r1 r2 (HV.out.1.okb (by have := HV.out.2.1; omega) (by have := HV.out.2.2; omega)) (hM.okb (by have := hMl.1; omega) (by have := hMl.2; omega))
          have HM := Lib.hid hM
          clear hM hMl
          generalize mulF p k x = M at *
          obtain ⟨N, hN⟩ : ∃ N, addF p v M = N := ⟨_, rfl⟩
          rw [hN] at HAdd HR1
          clear hN
          have k0 := hD8.cell 0 (v := .slice A k.n.length c) rfl
          have k1 := hD8.cell 1 (v := .slice B k.d.length d) rfl
          have k2 := v8.cell 0 (v := .slice Ax x.n.length cx) rfl
          have k3 := v8.cell 1 (v := .slice Bx x.d.length dx) rfl
          have g0 := cell_ex y8 g0
          have g1 := cell_ex y8 g1
          have hjv : j < vs.length := by have := Hl.out; omega
          go_wp2_with fail
          go_region_law (first
            | (go_simp
               go_at_call 75
               refine (HMul _ (Ex.refl w8).drew).mono ?_
               rintro e w9 ⟨A9, c9, B9, d9, rfl, f9, p9, ap9, x9⟩
               replace x9 := ((Ex.refl w8).drew).trans x9
               have l0 := cell_ex x9 g0
               have l1 := cell_ex x9 g1)
            | (go_simp
               go_at_call 74
               refine (HAdd A9 B9 c9 d9 w9 x9 f9.rd p9.rd).mono ?_
               rintro e w10 ⟨A10, c10, B10, d10, rfl, f10, p10, ap10, x10⟩
               have hF10 := (hF8.ex x9).ex x10
               have m0 := cell_ex x10 l0
               have m1 := cell_ex x10 l1
               have n0 := hF10.frozen (j * 2)
               have n1 := hF10.frozen (j * 2 + 1)))
          all_goals
            have z9 := x9.size
            have z10 := x10.size
            have hS10 : ∀ z, S z → z < w9.heap.size := fun z hz => by have := HB z hz; omega
            have hP := hF10.put hb j N (c := c10) (d := d10) (f10.rx hS10) (p10.rx hS10)
            have E11 : ExS (fun z => z = b) w10 ((w10.setCell ⟨b, j * 2, none⟩ (.slice A10 N.n.length c10)).setCell ⟨b, j * 2 + 1, none⟩ (.slice B10 N.d.length d10)) := ExS.of_ex1 (((Ex1.refl b w10).setCell (p := ⟨b, j * 2, none⟩) rfl _).setCell (p := ⟨b, j * 2 + 1, none⟩) rfl _) rfl
            have D11 := ((hD8.ex x9).ex x10).ex1 (((Ex1.refl b w10).setCell (p := ⟨b, j * 2, none⟩) rfl (.slice A10 N.n.length c10)).setCell (p := ⟨b, j * 2 + 1, none⟩) rfl (.slice B10 N.d.length d10)) hbx
            have he11 := (he8.trans (ExS.of_ex (S := fun z => z = b) (x9.trans x10)) (fun _ _ h => h)).trans E11 (fun _ _ h => h)
            have hok11 := (hok8.trans (OwK.of_ex x9)).trans (OwK.put2 (S := S) (b := b) (i := j) x10 f10 p10 ap10 hb m0 m1)
            rw [HR1.out] at hP
            clear HMul HAdd k0 k1 k2 k3 g0 g1 l0 l1 m0 m1 n0 n1
            go_wp2_with fail
            go_roundw
            case rel => exact ⟨j + 1, by omega, by go_num, hP, D11, he11, hok11⟩
            case measure => simp [intOf]; omega
      · obtain rfl : j = ws.length := by omega
        rw [List.take_of_length_le (by rw [HRl.out, Hl.out]; exact Nat.le_refl _), List.drop_of_length_le (by rw [Hl.out]; exact Nat.le_refl _), List.append_nil] at hF
        go_wp2_with fail
        first | rw [Exit.noGoto_ret] | skip
        refine bodyPost_end (results_none rfl _ _ _) rfl ?_
        rw [HT.out]
        exact ⟨rfl, hF, he, hok⟩
end Go.Proofs.YtpeogfapnofeoaaGreatDoor
