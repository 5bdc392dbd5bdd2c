/- PruneCircuit, on both sides. -/
import Derived.Test.YtgblnkadmieflaaDoorPrD
namespace Go.Proofs.YtgblnkadmieflaaDoor
set_option maxRecDepth 100000
open Go Go.RowKit
set_option maxHeartbeats 2000000 in
theorem spPruneCircuit_o (p : Int) (c : Circ) (v0 v1 : Value) (w : World) (h : RCirc w v0 v1 c) :
    Calls Tryd.prog 9 #[.int .i64 p, .agg #[.int .i64 c.n, v0, v1]] w fun e w' => CB w (pruU p c) e w' := by
  obtain ⟨⟨⟨A, ac, rfl, h1⟩, _⟩, ⟨P, pc, rfl, h2⟩⟩ := h
  have hl2 := h2.len
  have y0 := (Ex.refl w).alloc (.cells #[.int .i64 c.n, .slice A c.gs.length ac, .slice P c.outs.length pc] 29)
  have d0 := VB.new w 29 #[.int .i64 c.n, .slice A c.gs.length ac, .slice P c.outs.length pc]
  have S0 := Lib.hid (show (w.alloc (.cells #[.int .i64 c.n, .slice A c.gs.length ac, .slice P c.outs.length pc] 29)).heap.size = w.heap.size + 1 by simp)
  go_enter Tryd.func9, Tryd.ntmps9
  go_wp2_with fail
  generalize w.alloc (.cells #[.int .i64 c.n, .slice A c.gs.length ac, .slice P c.outs.length pc] 29) = W0 at *
  have y2 := (Ex.refl W0).alloc (.cells #[.int .i64 0, .slice none 0 0, .slice none 0 0] 29)
  have d2 := VB.new W0 29 #[.int .i64 0, .slice none 0 0, .slice none 0 0]
  rw [S0.out] at d2
  generalize W0.alloc (.cells #[.int .i64 0, .slice none 0 0, .slice none 0 0] 29) = W2 at *
  have xx := y0.trans y2
  have d0 := d0.ex y2
  clear y0 y2 S0
  refine (crGood_c p c.n A ac c.gs P pc c.outs W2 (h1.ex xx) (h2.ex xx)).mono ?_
  rintro e w3 ⟨rfl, x3⟩
  have d0 := d0.ex x3
  have d2 := d2.ex x3
  have xx := xx.trans x3
  clear x3
  have p1 := d0.cell 0 (v := .int .i64 c.n) rfl
  have p2 := d0.cell 1 (v := .slice A c.gs.length ac) rfl
  have p3 := d0.cell 2 (v := .slice P c.outs.length pc) rfl
  cases ca : circB p c with
  | false =>
    have H := Lib.hid (pruU_no (p := p) (x := c) (fun h => by rw [ca] at h; cases h.1))
    obtain ⟨dd, zz⟩ := d2.st3 (.int .i64 0) (.slice none 0 0) (.slice none 0 0)
    have r0 := d2.cell 0 (v := .int .i64 0) rfl
    have r1 := d2.cell 1 (v := .slice none 0 0) rfl
    have r2 := d2.cell 2 (v := .slice none 0 0) rfl
    have f0 := d2.frozen 0
    have f1 := d2.frozen 1
    have f2 := d2.frozen 2
    have C0 := dd.cell 0 (v := .int .i64 0) rfl
    have C1 := dd.cell 1 (v := .slice none 0 0) rfl
    have C2 := dd.cell 2 (v := .slice none 0 0) rfl
    have eF := xx.ex1 zz (by omega)
    go_wp2_with fail
    refine bodyPost_ret (v := .tuple #[.agg #[.int .i64 0, .slice none 0 0, .slice none 0 0], .bool false]) (by simp [results, Tryd.results9, go_sem, C0, C1, C2]) rfl ?_
    rw [CB, H.out]
    exact ⟨_, _, rfl, OCirc.zero _ _ _ eF.size, eF⟩
  | true =>
    obtain ⟨la, _, hop, hou⟩ := circB_use ca
    obtain ⟨_, _, _, _, _, lo, _⟩ := circB_parts ca
    have hcs := crPrune_c c A ac P pc w3 (h1.ex xx) (h2.ex xx) (by omega) (by omega) hop hou
    clear hop hou
    go_wp2_with fail
    refine hcs.mono ?_
    rintro e w5 ⟨y0, y1, rfl, o5, x5⟩
    obtain ⟨Y0, N0, K0, Y1, N1, K1, rfl, rfl⟩ := o5.rd.form
    have hn : (prC c).n = c.n := rfl
    rw [← hn]
    have Hn := Lib.hid hn
    clear hn
    have d2l := d2.lt
    have d2 := d2.ex x5
    go_wp2_with fail
    refine (crIf_c p (prC c) _ _ _ w5 o5).mono ?_
    rintro e w6 ⟨t, f, x6⟩
    have d2 := d2.ex x6
    have yy := (xx.trans x5).trans x6
    cases cc : circB p (prC c) with
    | true =>
      have H := Lib.hid (pruU_yes (p := p) (x := c) ca cc)
      obtain rfl := t cc
      obtain ⟨dd, zz⟩ := d2.st3 (.int .i64 (prC c).n) (.slice Y0 N0 K0) (.slice Y1 N1 K1)
      have r0 := d2.cell 0 (v := .int .i64 0) rfl
      have r1 := d2.cell 1 (v := .slice none 0 0) rfl
      have r2 := d2.cell 2 (v := .slice none 0 0) rfl
      have f0 := d2.frozen 0
      have f1 := d2.frozen 1
      have f2 := d2.frozen 2
      have C0 := dd.cell 0 (v := .int .i64 (prC c).n) rfl
      have C1 := dd.cell 1 (v := .slice Y0 N0 K0) rfl
      have C2 := dd.cell 2 (v := .slice Y1 N1 K1) rfl
      have eF := yy.ex1 zz (by omega)
      clear cc t f
      go_wp2_with fail
      refine bodyPost_ret (v := .tuple #[.agg #[.int .i64 (prC c).n, .slice Y0 N0 K0, .slice Y1 N1 K1], .bool true]) (by simp [results, Tryd.results9, go_sem, C0, C1, C2]) rfl ?_
      rw [CB, H.out]
      have o7 := (o5.ex x6).e1 zz (by have := xx.size; omega)
      have zs := zz.size
      have z6 := x6.size
      exact ⟨_, _, rfl, o7.more (by have := xx.size; omega) (by omega), eF⟩
    | false =>
      have H := Lib.hid (pruU_no (p := p) (x := c) (fun h => by rw [cc] at h; cases h.2))
      obtain rfl := f cc
      obtain ⟨dd, zz⟩ := d2.st3 (.int .i64 0) (.slice none 0 0) (.slice none 0 0)
      have r0 := d2.cell 0 (v := .int .i64 0) rfl
      have r1 := d2.cell 1 (v := .slice none 0 0) rfl
      have r2 := d2.cell 2 (v := .slice none 0 0) rfl
      have f0 := d2.frozen 0
      have f1 := d2.frozen 1
      have f2 := d2.frozen 2
      have C0 := dd.cell 0 (v := .int .i64 0) rfl
      have C1 := dd.cell 1 (v := .slice none 0 0) rfl
      have C2 := dd.cell 2 (v := .slice none 0 0) rfl
      have eF := yy.ex1 zz (by omega)
      clear cc t f
      go_wp2_with fail
      refine bodyPost_ret (v := .tuple #[.agg #[.int .i64 0, .slice none 0 0, .slice none 0 0], .bool false]) (by simp [results, Tryd.results9, go_sem, C0, C1, C2]) rfl ?_
      rw [CB, H.out]
      exact ⟨_, _, rfl, OCirc.zero _ _ _ eF.size, eF⟩
theorem spPruneCircuit_u (p : Int) (c : Circ) (v0 v1 : Value) (w : World) (h : RCirc w v0 v1 c) :
    Calls Tryd.prog 9 #[.int .i64 p, .agg #[.int .i64 c.n, v0, v1]] w fun e w' => ∃ y0 y1, e = .returned (.tuple #[.agg #[.int .i64 (pruU p c).1.n, y0, y1], .bool (pruU p c).2]) ∧ RCirc w' y0 y1 (pruU p c).1 ∧ Ex w w' :=
  (spPruneCircuit_o p c v0 v1 w h).mono fun _ _ ⟨y0, y1, e, o, x⟩ => ⟨y0, y1, e, o.rd, x⟩
set_option maxHeartbeats 2000000 in
theorem PruneCircuit_u (p : Int) (c : Circ) (v0 v1 : Value) (w : World) (h : RCirc w v0 v1 c) (ht : Tb w) :
    Calls Tryd.prog 11 #[.int .i64 p, .agg #[.int .i64 c.n, v0, v1]] w fun e w' => CB w (pruU p c) e w' := by
  obtain ⟨⟨⟨A, ac, rfl, h1⟩, _⟩, ⟨P, pc, rfl, h2⟩⟩ := h
  have hl2 := h2.len
  have y0 := (Ex.refl w).alloc (.cells #[.int .i64 c.n, .slice A c.gs.length ac, .slice P c.outs.length pc] 29)
  have d0 := VB.new w 29 #[.int .i64 c.n, .slice A c.gs.length ac, .slice P c.outs.length pc]
  have S0 := Lib.hid (show (w.alloc (.cells #[.int .i64 c.n, .slice A c.gs.length ac, .slice P c.outs.length pc] 29)).heap.size = w.heap.size + 1 by simp)
  go_enter Tryd.func11, Tryd.ntmps11
  go_wp2_with fail
  generalize w.alloc (.cells #[.int .i64 c.n, .slice A c.gs.length ac, .slice P c.outs.length pc] 29) = W0 at *
  have y2 := (Ex.refl W0).alloc (.cells #[.int .i64 0, .slice none 0 0, .slice none 0 0] 29)
  have d2 := VB.new W0 29 #[.int .i64 0, .slice none 0 0, .slice none 0 0]
  rw [S0.out] at d2
  generalize W0.alloc (.cells #[.int .i64 0, .slice none 0 0, .slice none 0 0] 29) = W2 at *
  have xx := y0.trans y2
  have d0 := d0.ex y2
  clear y0 y2 S0
  refine (isCircuit_c p c.n A ac c.gs P pc c.outs W2 (h1.ex xx) (h2.ex xx) (ht.ex xx)).mono ?_
  rintro e w3 ⟨rfl, x3⟩
  have d0 := d0.ex x3
  have d2 := d2.ex x3
  have xx := xx.trans x3
  clear x3
  have p1 := d0.cell 0 (v := .int .i64 c.n) rfl
  have p2 := d0.cell 1 (v := .slice A c.gs.length ac) rfl
  have p3 := d0.cell 2 (v := .slice P c.outs.length pc) rfl
  cases ca : circB p c with
  | false =>
    have H := Lib.hid (pruU_no (p := p) (x := c) (fun h => by rw [ca] at h; cases h.1))
    obtain ⟨dd, zz⟩ := d2.st3 (.int .i64 0) (.slice none 0 0) (.slice none 0 0)
    have r0 := d2.cell 0 (v := .int .i64 0) rfl
    have r1 := d2.cell 1 (v := .slice none 0 0) rfl
    have r2 := d2.cell 2 (v := .slice none 0 0) rfl
    have f0 := d2.frozen 0
    have f1 := d2.frozen 1
    have f2 := d2.frozen 2
    have C0 := dd.cell 0 (v := .int .i64 0) rfl
    have C1 := dd.cell 1 (v := .slice none 0 0) rfl
    have C2 := dd.cell 2 (v := .slice none 0 0) rfl
    have eF := xx.ex1 zz (by omega)
    go_wp2_with fail
    refine bodyPost_ret (v := .tuple #[.agg #[.int .i64 0, .slice none 0 0, .slice none 0 0], .bool false]) (by simp [results, Tryd.results11, go_sem, C0, C1, C2]) rfl ?_
    rw [CB, H.out]
    exact ⟨_, _, rfl, OCirc.zero _ _ _ eF.size, eF⟩
  | true =>
    obtain ⟨la, _, hop, hou⟩ := circB_use ca
    obtain ⟨_, _, _, _, _, lo, _⟩ := circB_parts ca
    have HU : ∀ W, Ex1 (w.heap.size + 1) w3 W → Calls Tryd.prog 46 #[.agg #[.int .i64 c.n, .slice A c.gs.length ac, .slice P c.outs.length pc]] W fun e w' => ∃ g, e = .returned (.slice (some ⟨g, 0, none⟩) c.gs.length c.gs.length) ∧ VB w' g 4 (bObj (usedM c.gs c.outs)) ∧ Ex W w' := fun W x => (used_c c A ac P pc W (h1.ex (xx.ex1 x (by omega))) (h2.ex (xx.ex1 x (by omega))) (by omega) (by omega) hop hou).mono fun e w' ⟨g, q1, q2, _, q3⟩ => ⟨g, q1, q2, q3⟩
    have hul := (usedM_ok hop hou).len
    have HK : ∀ (g : Nat) (W : World), Ex1 (w.heap.size + 1) w3 W → VB W g 4 (bObj (usedM c.gs c.outs)) → Calls Tryd.prog 45 #[.agg #[.int .i64 c.n, .slice A c.gs.length ac, .slice P c.outs.length pc], .slice (some ⟨g, 0, none⟩) c.gs.length c.gs.length] W fun e w' => ∃ Y0 N0 K0 Y1 N1 K1, e = .returned (.agg #[.int .i64 c.n, .slice Y0 N0 K0, .slice Y1 N1 K1]) ∧ OCirc w' W.heap.size w'.heap.size (.slice Y0 N0 K0) (.slice Y1 N1 K1) (prC c) ∧ Ex W w' := fun g W x hv =>
      (kept_c c A ac P pc g (usedM c.gs c.outs) W (h1.ex (xx.ex1 x (by omega))) (h2.ex (xx.ex1 x (by omega))) hv hul (by omega) (by omega) hop hou).mono fun e w' ⟨y0, y1, q1, q2, q3⟩ => by
        obtain ⟨Y0, N0, K0, Y1, N1, K1, rfl, rfl⟩ := q2.rd.form
        exact ⟨Y0, N0, K0, Y1, N1, K1, q1, q2, q3⟩
    have HV : ∀ (Y0 : Option Addr) (N0 K0 : Nat) (Y1 : Option Addr) (N1 K1 : Nat) (W : World), Ex1 (w.heap.size + 1) w3 W → RCirc W (.slice Y0 N0 K0) (.slice Y1 N1 K1) (prC c) → Calls Tryd.prog 44 #[.int .i64 p, .agg #[.int .i64 c.n, .slice Y0 N0 K0, .slice Y1 N1 K1]] W fun e w' => ∃ (N : Int) (Z0 : Option Addr) (M0 L0 : Nat) (Z1 : Option Addr) (M1 L1 : Nat) (b : Bool), e = .returned (.tuple #[.agg #[.int .i64 N, .slice Z0 M0 L0, .slice Z1 M1 L1], .bool b]) ∧
        Hid ((b = true ∧ pruU p c = (prC c, true) ∧ N = c.n ∧ Value.slice Z0 M0 L0 = .slice Y0 N0 K0 ∧ Value.slice Z1 M1 L1 = .slice Y1 N1 K1) ∨ (b = false ∧ pruU p c = (⟨0, [], []⟩, false) ∧ N = 0 ∧ Value.slice Z0 M0 L0 = .slice none 0 0 ∧ Value.slice Z1 M1 L1 = .slice none 0 0)) ∧ Ex W w' := fun Y0 N0 K0 Y1 N1 K1 W x hr =>
      (validCircuit_c p (prC c) _ _ W hr (ht.ex (xx.ex1 x (by omega)))).mono fun e w' ⟨q1, q2, q3⟩ => by
        cases cc : circB p (prC c) with
        | true => exact ⟨c.n, Y0, N0, K0, Y1, N1, K1, true, q1 cc, Lib.hid (.inl ⟨rfl, pruU_yes ca cc, rfl, rfl, rfl⟩), q3⟩
        | false => exact ⟨0, none, 0, 0, none, 0, 0, false, q2 cc, Lib.hid (.inr ⟨rfl, pruU_no (fun h => by rw [cc] at h; cases h.2), rfl, rfl, rfl⟩), q3⟩
    have HS : ∀ W, Ex1 (w.heap.size + 1) w3 W → (Ex1 (w.heap.size + 1) w3 W ∧ W.cell? ⟨w.heap.size, 0, none⟩ = some (.int .i64 c.n) ∧ W.cell? ⟨w.heap.size, 1, none⟩ = some (.slice A c.gs.length ac) ∧ W.cell? ⟨w.heap.size, 2, none⟩ = some (.slice P c.outs.length pc)) := fun W x => ⟨x, (d0.ex1 x (by omega)).cell 0 rfl, (d0.ex1 x (by omega)).cell 1 rfl, (d0.ex1 x (by omega)).cell 2 rfl⟩
    have eA : Ex1 (w.heap.size + 1) w3 w3.drew := (Ex1.refl _ w3).drew
    have d2l := d2.lt
    clear hop hou hul ca
    go_wp2_with fail
    go_region_held3 (fun W => Ex1 (w.heap.size + 1) w3 W ∧ W.cell? ⟨w.heap.size, 0, none⟩ = some (.int .i64 c.n) ∧ W.cell? ⟨w.heap.size, 1, none⟩ = some (.slice A c.gs.length ac) ∧ W.cell? ⟨w.heap.size, 2, none⟩ = some (.slice P c.outs.length pc)) (first
      | (exact HS _ (((e6.setCell rfl _).setCell rfl _).setCell rfl _)) | (exact HS _ e6) | (exact HS _ e5) | (exact HS _ e4) | (exact HS _ eA) | (exact HS _ (Ex1.refl _ _))) (first
      | (go_at_call 46
         have hb := (‹Ex1 (w.heap.size + 1) w3 _ ∧ _›).1
         refine (HU _ hb).mono ?_
         rintro e w4 ⟨g, rfl, hv, x4⟩
         have e4 := hb.trans (Ex1.of_ex x4)
         clear hb)
      | (go_at_call 45
         refine (HK g w4 e4 hv).mono ?_
         rintro e w5 ⟨Y0, N0, K0, Y1, N1, K1, rfl, o5, x5⟩
         have e5 := e4.trans (Ex1.of_ex x5))
      | (go_at_call 44
         refine (HV Y0 N0 K0 Y1 N1 K1 w5 e5 o5.rd).mono ?_
         rintro e w6 ⟨N, Z0, M0, L0, Z1, M1, L1, b, rfl, HB, x6⟩
         have e6 := e5.trans (Ex1.of_ex x6)
         have d6 : VB w6 (w.heap.size + 1) 29 #[.int .i64 0, .slice none 0 0, .slice none 0 0] := by first | exact ((d2.ex x4).ex x5).ex x6 | exact ((VB.ex (w := w3.drew) d2 x4).ex x5).ex x6
         have r0 := d6.cell 0 (v := .int .i64 0) rfl
         have r1 := d6.cell 1 (v := .slice none 0 0) rfl
         have r2 := d6.cell 2 (v := .slice none 0 0) rfl
         have f0 := d6.frozen 0
         have f1 := d6.frozen 1
         have f2 := d6.frozen 2))
    all_goals
      obtain ⟨dd, zz⟩ := d6.st3 (.int .i64 N) (.slice Z0 M0 L0) (.slice Z1 M1 L1)
      have C0 := dd.cell 0 (v := .int .i64 N) rfl
      have C1 := dd.cell 1 (v := .slice Z0 M0 L0) rfl
      have C2 := dd.cell 2 (v := .slice Z1 M1 L1) rfl
      have yy : Ex w w6 := xx.ex1 e6 (by omega)
      have eF := yy.ex1 zz (by omega)
      have z4 := e4.size'
      have hxx := xx.size
      go_wp2_with fail
      refine bodyPost_ret (v := .tuple #[.agg #[.int .i64 N, .slice Z0 M0 L0, .slice Z1 M1 L1], .bool b]) (by simp [results, Tryd.results11, go_sem, C0, C1, C2]) rfl ?_
      have o7 := (o5.ex x6).e1 zz (by omega)
      have zs := zz.size
      have z6 := x6.size
      rcases HB.out with ⟨rfl, hu, rfl, e0, e1⟩ | ⟨rfl, hu, rfl, e0, e1⟩
      · rw [e0, e1] at o7 eF zs
        rw [e0, e1, CB, hu]
        exact ⟨_, _, rfl, o7.more (by omega) (by omega), eF⟩
      · rw [e0, e1, CB, hu]
        rw [e0, e1] at eF
        exact ⟨_, _, rfl, OCirc.zero _ _ _ eF.size, eF⟩
end Go.Proofs.YtgblnkadmieflaaDoor
