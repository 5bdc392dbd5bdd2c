/- The reference's rrHas: a list less multiples of a reduced basis. HasRatPair: the plain answer; the reference. The first fraction other than 0, by slices.IndexFunc and slices.ContainsFunc with the program's closures. ratAddTimes with a row that is only read. HasRatPair: the program. Compositions of fractions: both ways agree; degrees. Plain lemmas of mine. -/
import Derived.Test.YtpeogfapnofeoaaGreatDoorSRt
import Derived.Test.YtpeogfapnofeoaaGreatDoorPkK
import Derived.Test.YtpeogfapnofeoaaGreatDoorRfA
import Derived.Test.YtpeogfapnofeoaaGreatDoorPkQ
import Derived.Test.YtpeogfapnofeoaaGreatDoorPkS
import Derived.Test.YtpeogfapnofeoaaGreatDoorPkAC
import Derived.Test.YtpeogfapnofeoaaGreatDoorRtM
import Derived.Test.YtpeogfapnofeoaaGreatDoorPkAA
import Derived.Test.YtpeogfapnofeoaaGreatDoorPkG
import Derived.Test.YtpeogfapnofeoaaGreatDoorPkV
namespace Go.Proofs.YtpeogfapnofeoaaGreatDoor
set_option maxRecDepth 100000
open Go Go.RowKit
end Go.Proofs.YtpeogfapnofeoaaGreatDoor
namespace Go.Proofs.YtpeogfapnofeoaaGreatDoor
set_option maxRecDepth 100000
open Go Go.RowKit
end Go.Proofs.YtpeogfapnofeoaaGreatDoor
namespace Go.Proofs.YtpeogfapnofeoaaGreatDoor
set_option maxRecDepth 100000
open Go Go.RowKit
end Go.Proofs.YtpeogfapnofeoaaGreatDoor
namespace Go.Proofs.YtpeogfapnofeoaaGreatDoor
set_option maxRecDepth 100000
open Go Go.RowKit
set_option maxHeartbeats 4000000 in
theorem ratAddTimesR_c (p : Int) (S : Nat → Prop) (b : Nat) (Aw : Option Addr) (vs ws : List Fra) (k : Fra) (A B : Option Addr) (c d c1 c2 : Nat) (w : World) (hS : ∀ z, S z → z < w.heap.size) (hb : S b) (hv : FBk w S b vs) (hw : ∀ W, ExS (fun z => z = b) w W → RdS EF W Aw ws) (hl : vs.length = ws.length) (hA : RX w (fun z => z = b) A k.n) (hB : RX w (fun z => z = b) B k.d)
    (hvv : ∀ x ∈ vs, FV p x ∧ FL 137438953472 x) (hww : ∀ x ∈ ws, FV p x ∧ FL 68719476736 x) (hk : FV p k) (hkl : FL 68719476736 k) (hn : ws.length ≤ 1000) :
    Calls Tryz.prog 42 #[.int .i64 p, .slice (some ⟨b, 0, none⟩) vs.length c1, .agg #[.slice A k.n.length c, .slice B k.d.length d], .slice Aw ws.length c2] w fun e w' => e = .returned (.tuple #[]) ∧ FBk w' S b (addTm p vs k ws) ∧ ExS (fun z => z = b) w w' ∧ OwK S b w w' := by
  have Hvv := Lib.hid hvv
  have Hww := Lib.hid hww
  have HK := Lib.hid hk
  have HKL := Lib.hid hkl
  have Hl := Lib.hid hl
  have hknl := hA.1.len
  have x0 := (Ex.refl w).alloc (.cells #[.slice A k.n.length c, .slice B k.d.length d] 58)
  have v0 := VB.new w 58 #[.slice A k.n.length c, .slice B k.d.length d]
  have s0 : (w.alloc (.cells #[.slice A k.n.length c, .slice B k.d.length d] 58)).heap.size = w.heap.size + 1 := by simp
  have HB : ∀ z, S z → z < w.heap.size := hS
  have hbl := hS b hb
  clear hvv hww hk hkl hl
  go_enter Tryz.func42, Tryz.ntmps42
  go_wp2_with fail
  generalize w.alloc (.cells #[.slice A k.n.length c, .slice B k.d.length d] 58) = W0 at *
  refine (isNought_c A B c d k.n k.d W0 hknl).mono ?_
  rintro e w1 ⟨rfl, x1⟩
  have v0 := v0.ex x1
  have xx := x0.trans x1
  have z1 := x1.size
  by_cases hz : k.n = []
  · rw [decide_eq_true hz]
    have HT := Lib.hid (show addTm p vs k ws = vs from if_pos (iszF_iff.2 hz))
    clear hz
    go_wp2_with fail
    first | rw [Exit.noGoto_ret] | skip
    refine bodyPost_ret (results_none rfl _ _ _) rfl ?_
    rw [HT.out]
    exact ⟨rfl, hv.ex xx, ExS.of_ex xx, OwK.of_ex xx⟩
  · rw [decide_eq_false hz]
    have HT := Lib.hid (show addTm p vs k ws = addRw p vs k ws from if_neg (fun h => hz (iszF_iff.1 h)))
    have hRl : (addRw p vs k ws).length = vs.length := by rw [addRw, List.length_zipWith, ← Hl.out]; omega
    have hRat : ∀ (i : Nat) (v x : Fra), vs[i]? = some v → ws[i]? = some x → (addRw p vs k ws)[i]? = some (addR1 p k v x) := fun i v x h1 h2 => by rw [addRw, List.getElem?_zipWith, h1, h2]
    have HRl := Lib.hid hRl
    have HRat := Lib.hid hRat
    clear hz hRl hRat
    generalize addRw p vs k ws = R at *
    go_wp2_with fail
    go_loopw [14] (fun i wi => ∃ j : Nat, j ≤ ws.length ∧ i = .int .i64 j ∧ FBk wi S b (R.take j ++ vs.drop j) ∧ VB wi w.heap.size 58 #[.slice A k.n.length c, .slice B k.d.length d] ∧ ExS (fun z => z = b) w wi ∧ OwK S b w wi) (fun i _ => ws.length - (intOf i).toNat)
    case atStart => exact ⟨0, Nat.zero_le _, rfl, by simpa using hv.ex xx, v0, ExS.of_ex xx, OwK.of_ex xx⟩
    case round =>
      clear v0 x1 x0 xx z1
      obtain ⟨j, hj, rfl, hF, hD, he, hok⟩ := hrel
      have hez := he.size
      have hbx : ¬ (w.heap.size = b) := by omega
      by_cases hlt : j < ws.length
      · obtain ⟨gx, ox, x, Ax, cx, Bx, dx, rfl, hx, e0, e1, hAx, hBx⟩ := (hw wr he).frac hlt
        obtain ⟨v, hv'⟩ : ∃ v, vs[j]? = some v := ⟨_, List.getElem?_eq_getElem (by rw [Hl.out]; exact hlt)⟩
        have hat := mix_at R vs HRl.out j (by rw [Hl.out]; exact hlt)
        rw [hv'] at hat
        obtain ⟨Av, cv, Bv, dv, g0, g1, hAv, hBv⟩ := hF.at_ hat
        have hxm := Hww.out x (List.mem_of_getElem? hx)
        have hvm := Hvv.out v (List.mem_of_getElem? hv')
        have hR := HRat.out j v x hv' hx
        have HX := Lib.hid hxm
        have HV := Lib.hid hvm
        have HR := Lib.hid hR
        have HV' := Lib.hid hv'
        have hxnl := hAx.len
        have y7 := (Ex.refl wr).alloc (.cells #[.slice Ax x.n.length cx, .slice Bx x.d.length dx] 58)
        have v7 := VB.new wr 58 #[.slice Ax x.n.length cx, .slice Bx x.d.length dx]
        have s7 : (wr.alloc (.cells #[.slice Ax x.n.length cx, .slice Bx x.d.length dx] 58)).heap.size = wr.heap.size + 1 := by simp
        clear hx hv' hat hxm hvm hR
        go_wp2_with fail
        generalize wr.alloc (.cells #[.slice Ax x.n.length cx, .slice Bx x.d.length dx] 58) = W7 at *
        refine (isNought_c Ax Bx cx dx x.n x.d W7 hxnl).mono ?_
        rintro e w8 ⟨rfl, x8⟩
        have v8 := v7.ex x8
        have y8 := y7.trans x8
        have z8 := x8.size
        have hF8 := hF.ex y8
        have hD8 := hD.ex y8
        have he8 := he.trans (ExS.of_ex (S := fun z => z = b) y8) (fun _ _ h => h)
        have hok8 := hok.trans (OwK.of_ex y8)
        clear v7 hF hD he
        by_cases hxz : x.n = []
        · rw [decide_eq_true hxz]
          have HR1 := Lib.hid (show R.take j ++ vs.drop j = R.take (j + 1) ++ vs.drop (j + 1) from mix_same R vs HRl.out j v (by rw [HR.out, addR1, if_pos (iszF_iff.2 hxz)]) HV'.out)
          clear hxz
          go_wp2_with fail
          go_roundw
          case rel => exact ⟨j + 1, by omega, by go_num, by rw [← HR1.out]; exact hF8, hD8, he8, hok8⟩
          case measure => simp [intOf]; omega
        · rw [decide_eq_false hxz]
          have HR1 := Lib.hid (show (R.take j ++ vs.drop j).set j (addF p v (mulF p k x)) = R.take (j + 1) ++ vs.drop (j + 1) from mix_set R vs HRl.out j _ (by rw [HR.out, addR1, if_neg (fun h => hxz (iszF_iff.1 h))]))
          clear hxz
          have hM := HK.out.mul HX.out.1
          have hMl := HKL.out.mul HK.out HX.out.1 HX.out.2
          have HMul : ∀ W, Ex w8 W → Calls Tryz.prog 75 #[.int .i64 p, .agg #[.slice A k.n.length c, .slice B k.d.length d], .agg #[.slice Ax x.n.length cx, .slice Bx x.d.length dx]] W fun e w' => FFx W (mulF p k x) e w' := fun W h =>
            fractionMul_b p A B c d k.n k.d Ax Bx cx dx x.n x.d W ((hA.sx he8 (fun z e => e)).1.ex h) ((hB.sx he8 (fun z e => e)).1.ex h) ((hAx.ex y8).ex h) ((hBx.ex y8).ex h) (HK.out.okb (by have := HKL.out.1; omega) (by have := HKL.out.2; omega)) (HX.out.1.okb (by have := HX.out.2.1; omega) (by have := HX.out.2.2; omega))
          have HAdd : ∀ (A3 B3 : Option Addr) (c3 d3 : Nat) (W : World), Ex w8 W → Rd W A3 (mulF p k x).n → Rd W B3 (mulF p k x).d → Calls Tryz.prog 74 #[.int .i64 p, .agg #[.slice Av v.n.length cv, .slice Bv v.d.length dv], .agg #[.slice A3 (mulF p k x).n.length c3, .slice B3 (mulF p k x).d.length d3]] W fun e w' => FFx W (addF p v (mulF p k x)) e w' := fun A3 B3 c3 d3 W h r1 r2 =>
            fractionAdd_b p Av Bv cv dv v.n v.d A3 B3 c3 d3 (mulF p k x).n (mulF p k x).d W ((hAv.ex y8).1.ex h) ((hBv.ex y8).1.ex h) r1 r2 (HV.out.1.okb (by have := HV.out.2.1; omega) (by have := HV.out.2.2; omega)) (hM.okb (by have := hMl.1; omega) (by have := hMl.2; omega))
          have HM := Lib.hid hM
          clear hM hMl
          generalize mulF p k x = M at *
          obtain ⟨N, hN⟩ : ∃ N, addF p v M = N := ⟨_, rfl⟩
          rw [hN] at HAdd HR1
          clear hN
          have k0 := hD8.cell 0 (v := .slice A k.n.length c) rfl
          have k1 := hD8.cell 1 (v := .slice B k.d.length d) rfl
          have k2 := v8.cell 0 (v := .slice Ax x.n.length cx) rfl
          have k3 := v8.cell 1 (v := .slice Bx x.d.length dx) rfl
          have g0 := cell_ex y8 g0
          have g1 := cell_ex y8 g1
          have hjv : j < vs.length := by have := Hl.out; omega
          go_wp2_with fail
          go_region_law (first
            | (go_simp
               go_at_call 75
               refine (HMul _ (Ex.refl w8).drew).mono ?_
               rintro e w9 ⟨A9, c9, B9, d9, rfl, f9, p9, ap9, x9⟩
               replace x9 := ((Ex.refl w8).drew).trans x9
               have l0 := cell_ex x9 g0
               have l1 := cell_ex x9 g1)
            | (go_simp
               go_at_call 74
               refine (HAdd A9 B9 c9 d9 w9 x9 f9.rd p9.rd).mono ?_
               rintro e w10 ⟨A10, c10, B10, d10, rfl, f10, p10, ap10, x10⟩
               have hF10 := (hF8.ex x9).ex x10
               have m0 := cell_ex x10 l0
               have m1 := cell_ex x10 l1
               have n0 := hF10.frozen (j * 2)
               have n1 := hF10.frozen (j * 2 + 1)))
          all_goals
            have z9 := x9.size
            have z10 := x10.size
            have hS10 : ∀ z, S z → z < w9.heap.size := fun z hz => by have := HB z hz; omega
            have hP := hF10.put hb j N (c := c10) (d := d10) (f10.rx hS10) (p10.rx hS10)
            have E11 : ExS (fun z => z = b) w10 ((w10.setCell ⟨b, j * 2, none⟩ (.slice A10 N.n.length c10)).setCell ⟨b, j * 2 + 1, none⟩ (.slice B10 N.d.length d10)) := ExS.of_ex1 (((Ex1.refl b w10).setCell (p := ⟨b, j * 2, none⟩) rfl _).setCell (p := ⟨b, j * 2 + 1, none⟩) rfl _) rfl
            have D11 := ((hD8.ex x9).ex x10).ex1 (((Ex1.refl b w10).setCell (p := ⟨b, j * 2, none⟩) rfl (.slice A10 N.n.length c10)).setCell (p := ⟨b, j * 2 + 1, none⟩) rfl (.slice B10 N.d.length d10)) hbx
            have he11 := (he8.trans (ExS.of_ex (S := fun z => z = b) (x9.trans x10)) (fun _ _ h => h)).trans E11 (fun _ _ h => h)
            have hok11 := (hok8.trans (OwK.of_ex x9)).trans (OwK.put2 (S := S) (b := b) (i := j) x10 f10 p10 ap10 hb m0 m1)
            rw [HR1.out] at hP
            clear HMul HAdd k0 k1 k2 k3 g0 g1 l0 l1 m0 m1 n0 n1
            go_wp2_with fail
            go_roundw
            case rel => exact ⟨j + 1, by omega, by go_num, hP, D11, he11, hok11⟩
            case measure => simp [intOf]; omega
      · obtain rfl : j = ws.length := by omega
        rw [List.take_of_length_le (by rw [HRl.out, Hl.out]; exact Nat.le_refl _), List.drop_of_length_le (by rw [Hl.out]; exact Nat.le_refl _), List.append_nil] at hF
        go_wp2_with fail
        first | rw [Exit.noGoto_ret] | skip
        refine bodyPost_end (results_none rfl _ _ _) rfl ?_
        rw [HT.out]
        exact ⟨rfl, hF, he, hok⟩
end Go.Proofs.YtpeogfapnofeoaaGreatDoor
namespace Go.Proofs.YtpeogfapnofeoaaGreatDoor
set_option maxRecDepth 100000
open Go Go.RowKit
theorem less_zero {p : Int} {k : Fra} (hk : FV p k) (hz : iszF k = true) {vs ws : List Fra} (hv : ∀ x ∈ vs, FV p x) (hw : ∀ x ∈ ws, FV p x) (hl : vs.length = ws.length) : (frOps p).less vs k ws = vs := by
  refine List.ext_getElem? fun j => ?_
  unfold Ops.less
  rw [List.getElem?_zipWith]
  cases hx : vs[j]? with
  | none => rfl
  | some x =>
    have hj := (List.getElem?_eq_some_iff.1 hx).1
    rw [List.getElem?_eq_getElem (show j < ws.length by omega)]
    have hxv := hv x (List.mem_of_getElem? hx)
    have hyv := hw ws[j] (List.getElem_mem _)
    have hn : (negF p k).n = [] := (negF_nil hk).2 (iszF_iff.1 hz)
    have hm : (mulF p (negF p k) ws[j]).n = [] := by
      rw [mulF_comm hk.pos]
      exact mulF_zero hyv hk.neg hn
    show some (addF p x (mulF p (negF p k) ws[j])) = some x
    rw [addF_zero hxv (hk.neg.mul hyv) hm]
/-- What the program does for a row. -/
theorem addTm_red {p : Int} {k : Fra} (hk : FV p k) {vs ws : List Fra} (hv : ∀ x ∈ vs, FV p x) (hw : ∀ x ∈ ws, FV p x) (hl : vs.length = ws.length) : addTm p vs (negF p k) ws = (frOps p).less vs k ws := by
  rw [addTm_less hk hv hw]
  split
  · rename_i hz
    rw [less_zero hk hz hv hw hl]
  · rfl
end Go.Proofs.YtpeogfapnofeoaaGreatDoor
namespace Go.Proofs.YtpeogfapnofeoaaGreatDoor
set_option maxRecDepth 100000
/-- Both ways to compose lists of fractions give the same reduced list. -/
theorem fr_cmp {p : Int} (hF : fieldB p = true) {la mid rb : Nat} {A B : List (List Fra)} (hA : Wid (la + mid) A) (hB : Wid (mid + rb) B) (gA : ∀ v ∈ A, ∀ x ∈ v, FV p x) (gB : ∀ v ∈ B, ∀ x ∈ v, FV p x) : (frOps p).cmpS la mid rb A B = (frOps p).cmpI la mid rb A B := by
  obtain ⟨a, rfl⟩ := lift2 (P := FV p) A gA
  obtain ⟨b, rfl⟩ := lift2 (P := FV p) B gB
  rw [(frHom p hF).cmpS, (frHom p hF).cmpI, cmp_eq (frFld p hF) (Wid.mp2.1 hA) (Wid.mp2.1 hB)]
theorem cramB_mono {r s L : Nat} (h : r ≤ s) : cramB r L ≤ cramB s L := by
  unfold cramB
  have h1 : (r + 1) * L ≤ (s + 1) * L := Nat.mul_le_mul_right L (by omega)
  have h2 : r * ((r + 1) * L + 1) ≤ s * ((s + 1) * L + 1) := Nat.mul_le_mul h (by omega)
  omega
theorem stg_len {K : Type} (O : Ops K) (Z : List (List K)) : ∀ c, (stg O Z c).1.length = Z.length
  | 0 => rfl
  | c + 1 => by
    rw [stg]
    split
    · rw [piv_len]; exact stg_len O Z c
    · exact stg_len O Z c
/-- What is turned by an elimination with at most R pivots. -/
theorem stg_cramR {p : Int} {L N n R : Nat} {Z0 : List (List Fra)} (hF : fieldB p = true) (hL : 1 ≤ L) (hG : GdM p L Z0) (hW : Wid N Z0) (hn : n ≤ R ∨ Z0.length ≤ R) (hnN : n ≤ N) : ∀ c, c ≤ n → GdM p (cramB R L) (stg (frOps p) Z0 c).1 := fun c hc => by
  obtain ⟨u, rfl⟩ := lift2 (P := FV p) Z0 fun v hv x hx => (hG v hv x hx).1
  have hWu : Wid N u := Wid.mp2.1 hW
  obtain ⟨O, P, h1, h2, h3, h4⟩ := stg_orig (F := frFld p hF) hWu c (by omega)
  rw [(frHom p hF).stg u c]
  intro z hz x hx
  obtain ⟨v, hv, rfl⟩ := List.mem_map.1 hz
  obtain ⟨y, hy, rfl⟩ := List.mem_map.1 hx
  obtain ⟨i, hi⟩ := List.getElem?_of_mem hv
  obtain ⟨j, hj⟩ := List.getElem?_of_mem hy
  have hb := row_bd hF h1 h2 hL (fun w hw x hx => (hG (w.map Subtype.val) (List.mem_map.2 ⟨w, hw, rfl⟩) x.1 (List.mem_map.2 ⟨x, hx, rfl⟩)).2) hi j
  rw [Ops.el_in _ hj] at hb
  refine ⟨y.2, hb.mono (cramB_mono ?_)⟩
  rcases hn with hn | hn
  · omega
  · have := h2.hr
    have e : (stg (frFld p hF).toOps u c).1.length = u.length := stg_len _ u c
    rw [List.length_map] at hn
    omega
theorem stg_red {K : Type} (O : Ops K) (Z : List (List K)) : ∀ (m c : Nat), O.red m c (stg O Z c).2 (stg O Z c).1 = stg O Z (c + m)
  | 0, c => rfl
  | m + 1, c => by
    rw [Ops.red, show c + (m + 1) = c + 1 + m by omega, ← stg_red O Z m (c + 1), stg]
    split <;> rfl
theorem stg_rref {K : Type} (O : Ops K) (n : Nat) (Z : List (List K)) : O.rref n Z = (stg O Z n).1.take (stg O Z n).2 := by
  unfold Ops.rref
  have := stg_red O Z n 0
  rw [Nat.zero_add] at this
  rw [← this]; rfl
theorem zF_gd {p : Int} (hF : fieldB p = true) {L : Nat} (hL : 1 ≤ L) : FV p zF ∧ FL L zF := ⟨FV.zero hF, Nat.zero_le _, hL⟩
theorem oF_gd {p : Int} (hF : fieldB p = true) {L : Nat} (hL : 1 ≤ L) : FV p oF ∧ FL L oF := ⟨FV.one hF, hL, hL⟩
theorem GdR.set {p : Int} {L : Nat} {v : List Fra} (h : GdR p L v) {x : Fra} (hx : FV p x ∧ FL L x) (i : Nat) : GdR p L (v.set i x) := fun y hy => by
  rcases List.mem_or_eq_of_mem_set hy with q | q
  · exact h y q
  · rw [q]; exact hx
theorem GdR.zeros0 {p : Int} (hF : fieldB p = true) {L : Nat} (hL : 1 ≤ L) (n : Nat) : GdR p L (List.replicate n zF) := fun y hy => by
  rw [(List.mem_replicate.1 hy).2]; exact zF_gd hF hL
theorem el_gd {p : Int} (hF : fieldB p = true) {L : Nat} (hL : 1 ≤ L) {v : List Fra} (h : GdR p L v) (j : Nat) : FV p ((frOps p).el v j) ∧ FL L ((frOps p).el v j) := by
  by_cases hj : j < v.length
  · exact el_good h hj
  · rw [Ops.el_out _ (by omega)]; exact zF_gd hF hL
theorem neg_gd {p : Int} {L : Nat} {x : Fra} (h : FV p x ∧ FL L x) : FV p (negF p x) ∧ FL L (negF p x) := ⟨h.1.neg, h.2.neg⟩
theorem nset_gd {p : Int} (hF : fieldB p = true) {L : Nat} (hL : 1 ≤ L) (j : Nat) : ∀ (R : List (List Fra)) (v : List Fra), GdM p L R → GdR p L v → GdR p L ((frOps p).nset R j v)
  | [], _, _, h => h
  | r :: R, v, hR, h => nset_gd hF hL j R _ (fun z hz => hR z (by simp [hz])) (h.set (neg_gd (el_gd hF hL (hR r (by simp)) j)) _)
theorem nullL_gd {p : Int} (hF : fieldB p = true) {L : Nat} (hL : 1 ≤ L) {s : Nat} {R : List (List Fra)} (hR : GdM p L R) : GdM p L ((frOps p).nullL s R) := by
  have : ∀ (m j t : Nat), GdM p L ((frOps p).nullGo s R m j t) := by
    intro m
    induction m with
    | zero => intro j t v hv; cases hv
    | succ m ih =>
      intro j t v hv
      rw [Ops.nullGo] at hv
      split at hv
      · exact ih _ _ v hv
      · rcases List.mem_cons.1 hv with e | hv
        · rw [e]
          exact nset_gd hF hL j R _ hR ((GdR.zeros0 hF hL s).set (oF_gd hF hL) j)
        · exact ih _ _ v hv
  exact this s 0 0
theorem nullL_len {K : Type} (O : Ops K) (s : Nat) (R : List (List K)) : (O.nullL s R).length ≤ s := by
  have : ∀ (m j t : Nat), (O.nullGo s R m j t).length ≤ m := by
    intro m
    induction m with
    | zero => intro j t; exact Nat.le_refl _
    | succ m ih =>
      intro j t
      rw [Ops.nullGo]
      split
      · have := ih (j + 1) (t + 1); omega
      · have := ih (j + 1) t
        rw [List.length_cons]; omega
  exact this s 0 0
theorem midS_gd {p : Int} (hF : fieldB p = true) {L : Nat} (hL : 1 ≤ L) {la mid : Nat} {A B : List (List Fra)} (hA : GdM p L A) (hB : GdM p L B) : GdM p L ((frOps p).midS la mid A B) := fun v hv => by
  obtain ⟨j, _, rfl⟩ := List.mem_map.1 hv
  refine GdR.app (fun y hy => ?_) fun y hy => ?_
  · obtain ⟨r, hr, rfl⟩ := List.mem_map.1 hy
    exact el_gd hF hL (hA r hr) _
  · obtain ⟨r, hr, rfl⟩ := List.mem_map.1 hy
    exact neg_gd (el_gd hF hL (hB r hr) _)
theorem midI_gd {p : Int} {L : Nat} {la mid : Nat} {A B : List (List Fra)} (hA : GdM p L A) (hB : GdM p L B) : GdM p L ((frOps p).midI la mid A B) := fun v hv => by
  rcases List.mem_append.1 hv with hv | hv
  · obtain ⟨r, hr, rfl⟩ := List.mem_map.1 hv
    exact (hA r hr).drop _
  · obtain ⟨r, hr, rfl⟩ := List.mem_map.1 hv
    intro y hy
    obtain ⟨x, hx, rfl⟩ := List.mem_map.1 hy
    exact neg_gd (((hB r hr).take _) x hx)
theorem beside_gd {p : Int} (hF : fieldB p = true) {L : Nat} (hL : 1 ≤ L) {R : List (List Fra)} (hR : GdM p L R) : GdM p L ((frOps p).beside R) := fun v hv => by
  obtain ⟨i, hi⟩ := List.getElem?_of_mem hv
  rw [beside_at] at hi
  cases hr : R[i]? with
  | none => rw [hr] at hi; cases hi
  | some r =>
    rw [hr] at hi; injection hi with hi
    rw [← hi]
    exact (hR r (List.mem_of_getElem? hr)).app ((GdR.zeros0 hF hL _).set (oF_gd hF hL) i)
theorem less_gd {p : Int} {V X W : Nat} {v w : List Fra} (h : GdR p V v) (k : GdR p W w) {x : Fra} (hx : FV p x) (hl : FL X x) : GdR p (V + (X + W)) ((frOps p).less v x w) := fun y hy => by
  unfold Ops.less at hy
  obtain ⟨i, hi⟩ := List.getElem?_of_mem hy
  rw [List.getElem?_zipWith_eq_some] at hi
  obtain ⟨a, b, ha, hb, rfl⟩ := hi
  obtain ⟨h1, h2⟩ := h a (List.mem_of_getElem? ha)
  obtain ⟨h3, h4⟩ := k b (List.mem_of_getElem? hb)
  exact ⟨h1.add (hx.neg.mul h3), h2.add h1 (hx.neg.mul h3) (hl.neg.mul hx.neg h3 h4)⟩
/-- The sums' degrees, at every step. -/
theorem cmb_gd {p : Int} (hF : fieldB p = true) {X W w : Nat} {k : List Fra} {R : List (List Fra)} (hk : GdR p X k) (hR : GdM p W R) : ∀ m, GdR p (1 + m * (X + W)) (((k.zip R).take m).foldl (fun v q => (frOps p).less v ((frOps p).neg q.1) q.2) (List.replicate w zF))
  | 0 => by rw [List.take_zero]; exact (GdR.zeros0 hF (Nat.le_refl 1) w).mono (by omega)
  | m + 1 => by
    have ih := cmb_gd hF (w := w) hk hR m
    rw [List.take_add_one]
    cases hz : (k.zip R)[m]? with
    | none =>
      rw [Option.toList_none, List.append_nil]
      exact ih.mono (by have := Nat.mul_le_mul_right (X + W) (show m ≤ m + 1 by omega); omega)
    | some q =>
      rw [Option.toList_some, List.foldl_append]
      obtain ⟨h1, h2⟩ := List.getElem?_zip_eq_some.1 hz
      obtain ⟨h3, h4⟩ := hk q.1 (List.mem_of_getElem? h1)
      exact (less_gd ih (hR q.2 (List.mem_of_getElem? h2)) h3.neg h4.neg).mono (by rw [Nat.add_mul]; omega)
end Go.Proofs.YtpeogfapnofeoaaGreatDoor
