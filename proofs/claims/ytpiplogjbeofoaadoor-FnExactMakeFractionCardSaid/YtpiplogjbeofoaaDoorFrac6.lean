/- Contracts: MakeFraction, on both sides. -/
import Derived.Test.YtpiplogjbeofoaaDoorFrac5
namespace Go.Proofs.YtpiplogjbeofoaaDoor
set_option maxRecDepth 100000
open Go Go.RowKit
set_option maxHeartbeats 2000000 in
theorem spMakeFraction_c (p : Int) (A B : Option Addr) (c d : Nat) (num den : List Int) (w : World) (hn : Rd w A num) (hd : Rd w B den) :
    Calls Tryd.prog 30 #[.int .i64 p, .slice A num.length c, .slice B den.length d] w fun e w' => FRB w (mkR p num den) e w' := by
  have hl := hd.len
  have hl1 := hn.len
  have y1 := (Ex.refl w).alloc (.cells #[.slice none 0 0, .slice none 0 0] 37)
  have v1 := VB.new w 37 #[.slice none 0 0, .slice none 0 0]
  have bb := box2 w (.slice none 0 0) (.slice none 0 0) 37
  cases h1 : polyB p num with
  | false =>
    have H := Lib.hid (show mkR p num den = ([], [], false) by simp [mkR, h1])
    go_enter Tryd.func30, Tryd.ntmps30
    go_wp2_with (go_at_call 73; refine (poGood_c _ _ _ _ _ (by first | exact hn.ex y1 | exact hd.ex y1)).mono ?_; rintro e w' ⟨rfl, rfl⟩)
    refine bodyPost_ret (v := .tuple #[.agg #[.slice none 0 0, .slice none 0 0], .bool false]) (by simp [results, Tryd.results30, go_sem, bb.1, bb.2]) rfl ?_
    exact FRB.nil_ rfl H.out y1
  | true =>
  cases h2 : polyB p den with
  | false =>
    have H := Lib.hid (show mkR p num den = ([], [], false) by simp [mkR, h2])
    go_enter Tryd.func30, Tryd.ntmps30
    go_wp2_with (go_at_call 73; refine (poGood_c _ _ _ _ _ (by first | exact hn.ex y1 | exact hd.ex y1)).mono ?_; rintro e w' ⟨rfl, rfl⟩)
    refine bodyPost_ret (v := .tuple #[.agg #[.slice none 0 0, .slice none 0 0], .bool false]) (by simp [results, Tryd.results30, go_sem, bb.1, bb.2]) rfl ?_
    exact FRB.nil_ rfl H.out y1
  | true =>
  by_cases h5 : den = []
  · have H := Lib.hid (show mkR p num den = ([], [], false) by simp [mkR, h5])
    subst h5
    go_enter Tryd.func30, Tryd.ntmps30
    go_wp2_with fail
    refine (poGood_c _ _ _ _ _ (hn.ex y1)).mono ?_
    rintro e w' ⟨rfl, rfl⟩
    go_wp2_with fail
    refine (poGood_c _ _ _ [] _ (hd.ex y1)).mono ?_
    rintro e w' ⟨rfl, rfl⟩
    go_wp2
    refine bodyPost_ret (v := .tuple #[.agg #[.slice none 0 0, .slice none 0 0], .bool false]) (by simp [results, Tryd.results30, go_sem, bb.1, bb.2]) rfl ?_
    exact FRB.nil_ rfl H.out y1
  obtain ⟨hF, _, hne, tn⟩ := polyB_parts h1
  obtain ⟨_, _, hde, td⟩ := polyB_parts h2
  have H := Lib.hid (show mkR p num den = ifR (lowN p num den) (lowD p num den) by simp [mkR, h1, h2, h5])
  have hdl := List.length_pos_iff.2 h5
  have hdb : ((den.length : Int) == 0) = false := by simp; omega
  have HF := Lib.hid hF
  have Hne := Lib.hid hne
  have Hde := Lib.hid hde
  have H5 := Lib.hid h5
  clear hF hne hde h5
  go_enter Tryd.func30, Tryd.ntmps30
  go_wp2_with fail
  refine (poGood_c _ _ _ _ _ (hn.ex y1)).mono ?_
  rintro e w' ⟨rfl, rfl⟩
  go_wp2_with fail
  refine (poGood_c _ _ _ _ _ (hd.ex y1)).mono ?_
  rintro e w' ⟨rfl, rfl⟩
  rw [h2]
  go_wp2_with fail
  have S1 := Lib.hid (show (w.alloc (.cells #[.slice none 0 0, .slice none 0 0] 37)).heap.size = w.heap.size + 1 by simp)
  generalize w.alloc (.cells #[.slice none 0 0, .slice none 0 0] 37) = W at *
  refine (frMake_c p A B c d num den W (hn.ex y1) (hd.ex y1) HF.out Hne.out Hde.out tn td H5.out).mono ?_
  rintro e w2 ⟨A2, c2, B2, d2, rfl, f2, g2, ap, x2⟩
  have l1 := f2.rd.len
  have l2 := g2.rd.len
  have s1 := S1.out
  by_cases hle : (lowN p num den).length ≤ 21 ∧ (lowD p num den).length ≤ 21
  · have H := Lib.hid (H.out.trans (ifR_yes hle))
    go_wp2_with fail
    refine (frIf_yes A2 B2 c2 d2 _ _ w2 hle.1 hle.2).mono ?_
    rintro e w3 ⟨rfl, x3⟩
    have v3 := (v1.ex x2).ex x3
    have r0 := v3.cell 0 (v := .slice none 0 0) rfl
    have r1 := v3.cell 1 (v := .slice none 0 0) rfl
    have q0 := v3.frozen 0
    have q1 := v3.frozen 1
    go_wp2_with fail
    obtain ⟨dd, z⟩ := st2 v3 (.slice A2 (lowN p num den).length c2) (.slice B2 (lowD p num den).length d2)
    generalize (w3.setCell ⟨w.heap.size, 0, none⟩ (.slice A2 (lowN p num den).length c2)).setCell ⟨w.heap.size, 1, none⟩ (.slice B2 (lowD p num den).length d2) = W2 at *
    have d0 := dd.cell 0 (v := .slice A2 (lowN p num den).length c2) rfl
    have d1 := dd.cell 1 (v := .slice B2 (lowD p num den).length d2) rfl
    refine bodyPost_ret (v := .tuple #[.agg #[.slice A2 (lowN p num den).length c2, .slice B2 (lowD p num den).length d2], .bool true]) (by simp [results, Tryd.results30, go_sem, d0, d1]) rfl ?_
    have f3 := (f2.ex x3).ex1 z (f2.hi.off (by omega))
    have g3 := (g2.ex x3).ex1 z (g2.hi.off (by omega))
    exact FRB.yes_ rfl H.out (f3.more (by omega)) (g3.more (by omega)) ap (((y1.trans x2).trans x3).ex1 z (Nat.le_refl _))
  · have H := Lib.hid (H.out.trans (ifR_no hle))
    go_wp2_with fail
    refine (frIf_no A2 B2 c2 d2 _ _ w2 hle l1 l2).mono ?_
    rintro e w3 ⟨rfl, x3⟩
    have v3 := (v1.ex x2).ex x3
    have r0 := v3.cell 0 (v := .slice none 0 0) rfl
    have r1 := v3.cell 1 (v := .slice none 0 0) rfl
    have q0 := v3.frozen 0
    have q1 := v3.frozen 1
    go_wp2_with fail
    obtain ⟨dd, z⟩ := st2 v3 (.slice none 0 0) (.slice none 0 0)
    generalize (w3.setCell ⟨w.heap.size, 0, none⟩ (.slice none 0 0)).setCell ⟨w.heap.size, 1, none⟩ (.slice none 0 0) = W2 at *
    have d0 := dd.cell 0 (v := .slice none 0 0) rfl
    have d1 := dd.cell 1 (v := .slice none 0 0) rfl
    refine bodyPost_ret (v := .tuple #[.agg #[.slice none 0 0, .slice none 0 0], .bool false]) (by simp [results, Tryd.results30, go_sem, d0, d1]) rfl ?_
    exact FRB.nil_ rfl H.out (((y1.trans x2).trans x3).ex1 z (Nat.le_refl _))
theorem polyB_two' (p : Int) (f h : List Int) : ([f, h].all (polyB p) && fieldB p) = (polyB p f && polyB p h) := by
  simp only [List.all_cons, List.all_nil, Bool.and_true]
  cases h1 : polyB p f
  · rfl
  · rw [(polyB_parts h1).1, Bool.and_true]
set_option maxHeartbeats 2000000 in
theorem MakeFraction_c (p : Int) (A B : Option Addr) (c d : Nat) (num den : List Int) (w : World) (hn : Rd w A num) (hd : Rd w B den) (ht : Tb w) :
    Calls Tryd.prog 32 #[.int .i64 p, .slice A num.length c, .slice B den.length d] w fun e w' => FRB w (mkR p num den) e w' := by
  have hl := hd.len
  have hl1 := hn.len
  have y1 := (Ex.refl w).alloc (.cells #[.slice none 0 0, .slice none 0 0] 37)
  have v1 := VB.new w 37 #[.slice none 0 0, .slice none 0 0]
  have S1 := Lib.hid (show (w.alloc (.cells #[.slice none 0 0, .slice none 0 0] 37)).heap.size = w.heap.size + 1 by simp)
  by_cases hb : (polyB p num && polyB p den) = true ∧ den ≠ []
  · obtain ⟨hb, h5⟩ := hb
    have hb2 := hb
    rw [Bool.and_eq_true] at hb2
    obtain ⟨hF, _, hne, tn⟩ := polyB_parts hb2.1
    obtain ⟨_, _, hde, td⟩ := polyB_parts hb2.2
    have H := Lib.hid (show mkR p num den = ifR (lowN p num den) (lowD p num den) by simp [mkR, hb2.1, hb2.2, h5])
    have HI := Lib.hid (low_ifR hF hne hde tn td h5)
    have hdl := List.length_pos_iff.2 h5
    have hdb : ((den.length : Int) == 0) = false := by simp; omega
    have HF := Lib.hid hF
    have Hne := Lib.hid hne
    have Hde := Lib.hid hde
    have H5 := Lib.hid h5
    have Hb := Lib.hid hb
    clear hF hne hde h5 hb hb2
    go_enter Tryd.func32, Tryd.ntmps32
    go_wp2_with fail
    generalize w.alloc (.cells #[.slice none 0 0, .slice none 0 0] 37) = W at *
    have y2 := (Ex.refl W).alloc (.cells #[.slice A num.length c, .slice B den.length d] 31)
    have v2 := VB.new W 31 #[.slice A num.length c, .slice B den.length d]
    rw [S1.out] at v2
    have v1 := v1.ex y2
    have y := y1.trans y2
    have S2 := Lib.hid (show (W.alloc (.cells #[.slice A num.length c, .slice B den.length d] 31)).heap.size = w.heap.size + 1 + 1 by simp; exact S1.out)
    generalize W.alloc (.cells #[.slice A num.length c, .slice B den.length d] 31) = W2 at *
    refine (arePolys2_c p _ A B c d num den W2 (v2.cell 0 rfl) (v2.cell 1 rfl) (hn.ex y) (hd.ex y) (ht.ex y)).mono ?_
    rintro e w' ⟨rfl, rfl⟩
    rw [Hb.out]
    go_wp2_with fail
    refine (lowest_c p A B c d num den W2 (hn.ex y) (hd.ex y) HF.out Hne.out Hde.out tn td H5.out).mono ?_
    rintro e w2 ⟨A2, c2, B2, d2, rfl, f2, g2, ap, x2⟩
    have s1 := S2.out
    have s2 := x2.size
    have v2 := v1.ex x2
    have yy := y.trans x2
    cases hle : fracB p (lowN p num den) (lowD p num den) with
    | true =>
      have H := Lib.hid (H.out.trans (ifR_yes (HI.out.2 hle)))
      go_wp2_with fail
      refine (validFraction_yes p A2 B2 c2 d2 _ _ w2 f2.rd g2.rd (ht.ex yy) hle).mono ?_
      rintro e w3 ⟨rfl, x3⟩
      have v3 := v2.ex x3
      have r0 := v3.cell 0 (v := .slice none 0 0) rfl
      have r1 := v3.cell 1 (v := .slice none 0 0) rfl
      have q0 := v3.frozen 0
      have q1 := v3.frozen 1
      go_wp2_with fail
      obtain ⟨dd, z⟩ := st2 v3 (.slice A2 (lowN p num den).length c2) (.slice B2 (lowD p num den).length d2)
      generalize (w3.setCell ⟨w.heap.size, 0, none⟩ (.slice A2 (lowN p num den).length c2)).setCell ⟨w.heap.size, 1, none⟩ (.slice B2 (lowD p num den).length d2) = W2 at *
      have d0 := dd.cell 0 (v := .slice A2 (lowN p num den).length c2) rfl
      have d1 := dd.cell 1 (v := .slice B2 (lowD p num den).length d2) rfl
      refine bodyPost_ret (v := .tuple #[.agg #[.slice A2 (lowN p num den).length c2, .slice B2 (lowD p num den).length d2], .bool true]) (by simp [results, Tryd.results32, go_sem, d0, d1]) rfl ?_
      have f3 := (f2.ex x3).ex1 z (f2.hi.off (by omega))
      have g3 := (g2.ex x3).ex1 z (g2.hi.off (by omega))
      exact FRB.yes_ rfl H.out (f3.more (by omega)) (g3.more (by omega)) ap ((yy.trans x3).ex1 z (Nat.le_refl _))
    | false =>
      have H := Lib.hid (H.out.trans (ifR_no (fun k => by rw [HI.out.1 k] at hle; cases hle)))
      go_wp2_with fail
      refine (validFraction_no p A2 B2 c2 d2 _ _ w2 f2.rd g2.rd (ht.ex yy) hle).mono ?_
      rintro e w3 ⟨rfl, x3⟩
      have v3 := v2.ex x3
      have r0 := v3.cell 0 (v := .slice none 0 0) rfl
      have r1 := v3.cell 1 (v := .slice none 0 0) rfl
      have q0 := v3.frozen 0
      have q1 := v3.frozen 1
      go_wp2_with fail
      obtain ⟨dd, z⟩ := st2 v3 (.slice none 0 0) (.slice none 0 0)
      generalize (w3.setCell ⟨w.heap.size, 0, none⟩ (.slice none 0 0)).setCell ⟨w.heap.size, 1, none⟩ (.slice none 0 0) = W2 at *
      have d0 := dd.cell 0 (v := .slice none 0 0) rfl
      have d1 := dd.cell 1 (v := .slice none 0 0) rfl
      refine bodyPost_ret (v := .tuple #[.agg #[.slice none 0 0, .slice none 0 0], .bool false]) (by simp [results, Tryd.results32, go_sem, d0, d1]) rfl ?_
      exact FRB.nil_ rfl H.out ((yy.trans x3).ex1 z (Nat.le_refl _))
  · have H := Lib.hid (show mkR p num den = ([], [], false) by
      rw [mkR, if_neg]
      rintro ⟨a, b, c⟩
      exact hb ⟨by rw [a, b]; rfl, c⟩)
    have hend : ∀ W', VB W' w.heap.size 37 #[.slice none 0 0, .slice none 0 0] → True := fun _ _ => trivial
    cases hp : (polyB p num && polyB p den) with
    | false =>
      go_enter Tryd.func32, Tryd.ntmps32
      go_wp2_with fail
      generalize w.alloc (.cells #[.slice none 0 0, .slice none 0 0] 37) = W at *
      have y2 := (Ex.refl W).alloc (.cells #[.slice A num.length c, .slice B den.length d] 31)
      have v2 := VB.new W 31 #[.slice A num.length c, .slice B den.length d]
      rw [S1.out] at v2
      have v1 := v1.ex y2
      have y := y1.trans y2
      generalize W.alloc (.cells #[.slice A num.length c, .slice B den.length d] 31) = W2 at *
      refine (arePolys2_c p _ A B c d num den W2 (v2.cell 0 rfl) (v2.cell 1 rfl) (hn.ex y) (hd.ex y) (ht.ex y)).mono ?_
      rintro e w' ⟨rfl, rfl⟩
      rw [hp]
      have r0 := v1.cell 0 (v := .slice none 0 0) rfl
      have r1 := v1.cell 1 (v := .slice none 0 0) rfl
      have q0 := v1.frozen 0
      have q1 := v1.frozen 1
      go_wp2_with fail
      obtain ⟨dd, z⟩ := st2 v1 (.slice none 0 0) (.slice none 0 0)
      generalize (W2.setCell ⟨w.heap.size, 0, none⟩ (.slice none 0 0)).setCell ⟨w.heap.size, 1, none⟩ (.slice none 0 0) = W3 at *
      have d0 := dd.cell 0 (v := .slice none 0 0) rfl
      have d1 := dd.cell 1 (v := .slice none 0 0) rfl
      refine bodyPost_ret (v := .tuple #[.agg #[.slice none 0 0, .slice none 0 0], .bool false]) (by simp [results, Tryd.results32, go_sem, d0, d1]) rfl ?_
      exact FRB.nil_ rfl H.out (y.ex1 z (Nat.le_refl _))
    | true =>
      have h5 : den = [] := by
        by_cases h : den = []
        · exact h
        · exact absurd ⟨hp, h⟩ hb
      subst h5
      go_enter Tryd.func32, Tryd.ntmps32
      go_wp2_with fail
      generalize w.alloc (.cells #[.slice none 0 0, .slice none 0 0] 37) = W at *
      have y2 := (Ex.refl W).alloc (.cells #[.slice A num.length c, .slice B ([] : List Int).length d] 31)
      have v2 := VB.new W 31 #[.slice A num.length c, .slice B ([] : List Int).length d]
      rw [S1.out] at v2
      have v1 := v1.ex y2
      have y := y1.trans y2
      change Calls _ _ _ (W.alloc (.cells #[.slice A num.length c, .slice B ([] : List Int).length d] 31)) _
      generalize W.alloc (.cells #[.slice A num.length c, .slice B ([] : List Int).length d] 31) = W2 at *
      refine (arePolys2_c p _ A B c d num [] W2 (v2.cell 0 rfl) (v2.cell 1 rfl) (hn.ex y) (hd.ex y) (ht.ex y)).mono ?_
      rintro e w' ⟨rfl, rfl⟩
      rw [hp]
      have r0 := v1.cell 0 (v := .slice none 0 0) rfl
      have r1 := v1.cell 1 (v := .slice none 0 0) rfl
      have q0 := v1.frozen 0
      have q1 := v1.frozen 1
      go_wp2_with fail
      obtain ⟨dd, z⟩ := st2 v1 (.slice none 0 0) (.slice none 0 0)
      generalize (W2.setCell ⟨w.heap.size, 0, none⟩ (.slice none 0 0)).setCell ⟨w.heap.size, 1, none⟩ (.slice none 0 0) = W3 at *
      have d0 := dd.cell 0 (v := .slice none 0 0) rfl
      have d1 := dd.cell 1 (v := .slice none 0 0) rfl
      refine bodyPost_ret (v := .tuple #[.agg #[.slice none 0 0, .slice none 0 0], .bool false]) (by simp [results, Tryd.results32, go_sem, d0, d1]) rfl ?_
      exact FRB.nil_ rfl H.out (y.ex1 z (Nat.le_refl _))
end Go.Proofs.YtpiplogjbeofoaaDoor
