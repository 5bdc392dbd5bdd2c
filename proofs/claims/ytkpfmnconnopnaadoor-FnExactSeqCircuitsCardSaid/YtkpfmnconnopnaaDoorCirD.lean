/- SeqCircuits: the reference's side. -/
import Derived.Test.YtkpfmnconnopnaaDoorCirB
namespace Go.Proofs.YtkpfmnconnopnaaDoor
set_option maxRecDepth 100000
open Go Go.RowKit
theorem totG_len (gs : List Gt) : totG gs = 4 * (gs.length : Int) := by
  show totS EG gs = _
  induction gs with
  | nil => rfl
  | cons y ys ih => rw [totS_cons, ih, List.length_cons]; show 4 + _ = _; push_cast; omega
theorem OCirc.zero (w : World) (a b : Nat) (hab : a ≤ b) : OCirc w a b (.slice none 0 0) (.slice none 0 0) ⟨0, [], []⟩ :=
  ⟨a, a, a, a, ⟨⟨none, 0, rfl, OwS.nil _ _ _ _ _ _⟩, by simp [totS]⟩, OI.nil _ _ _, Nat.le_refl _, hab, Nat.le_refl _, hab, .inl (Nat.le_refl _)⟩
/-- The ending of a call that returns a circuit of its own, and a bool. -/
def CB (w : World) (r : Circ × Bool) (e : Ending) (w' : World) : Prop := ∃ y0 y1, e = .returned (.tuple #[.agg #[.int .i64 r.1.n, y0, y1], .bool r.2]) ∧ OCirc w' w.heap.size w'.heap.size y0 y1 r.1 ∧ Ex w w'
theorem circB_use {p : Int} {x : Circ} (h : circB p x = true) : x.gs.length ≤ 40 ∧ (∀ g ∈ x.gs, g.kd = 1 → 0 ≤ g.vl ∧ g.vl < x.n) ∧ (∀ g ∈ x.gs, ∀ k ∈ opnd g, 0 ≤ k ∧ k < x.gs.length) ∧ (∀ k ∈ x.outs, 0 ≤ k ∧ k < x.gs.length) := by
  obtain ⟨_, _, _, _, h40, _, ho, hg, _⟩ := circB_parts h
  refine ⟨h40, fun g hm hk => ?_, fun g hm k hk => ?_, fun k hk => ?_⟩
  · have := List.all_eq_true.1 hg g hm
    simp only [gateB, hk, if_true, Bool.and_eq_true, inB, decide_eq_true_eq] at this
    omega
  · have := List.all_eq_true.1 hg g hm
    unfold gateB at this
    rw [Bool.and_eq_true] at this
    have := List.all_eq_true.1 this.1 k hk
    simp only [inB, Bool.and_eq_true, decide_eq_true_eq] at this
    omega
  · have := List.all_eq_true.1 ho k hk
    simp only [inB, Bool.and_eq_true, decide_eq_true_eq] at this
    omega
set_option maxHeartbeats 1000000 in
theorem crIf_c (p : Int) (x : Circ) (v0 v1 : Value) (B : Nat) (w : World) (h : OCirc w B w.heap.size v0 v1 x) :
    Calls Tryd.prog 62 #[.int .i64 p, .agg #[.int .i64 x.n, v0, v1]] w fun e w' => (circB p x = true → e = .returned (.tuple #[.agg #[.int .i64 x.n, v0, v1], .bool true])) ∧ (circB p x = false → e = .returned (.tuple #[.agg #[.int .i64 0, .slice none 0 0, .slice none 0 0], .bool false])) ∧ Ex w w' := by
  obtain ⟨⟨⟨A, c, rfl, hg⟩, _⟩, ⟨B', d, rfl, ho⟩⟩ := h.rd
  clear h
  have x0 := (Ex.refl w).alloc (.cells #[.int .i64 x.n, .slice A x.gs.length c, .slice B' x.outs.length d] 44)
  have d0 := VB.new w 44 #[.int .i64 x.n, .slice A x.gs.length c, .slice B' x.outs.length d]
  have S0 := Lib.hid (show (w.alloc (.cells #[.int .i64 x.n, .slice A x.gs.length c, .slice B' x.outs.length d] 44)).heap.size = w.heap.size + 1 by simp)
  go_enter Tryd.func62, Tryd.ntmps62
  go_wp2_with fail
  generalize w.alloc (.cells #[.int .i64 x.n, .slice A x.gs.length c, .slice B' x.outs.length d] 44) = W0 at *
  have x1 := (Ex.refl W0).alloc (.cells #[.int .i64 0, .slice none 0 0, .slice none 0 0] 44)
  have d1 := VB.new W0 44 #[.int .i64 0, .slice none 0 0, .slice none 0 0]
  rw [S0.out] at d1
  generalize W0.alloc (.cells #[.int .i64 0, .slice none 0 0, .slice none 0 0] 44) = W1 at *
  have d0 := d0.ex x1
  have xx := x0.trans x1
  refine (crGood_c p x.n A c x.gs B' d x.outs W1 (hg.ex xx) (ho.ex xx)).mono ?_
  rintro e w2 ⟨rfl, x2⟩
  have d0 := d0.ex x2
  have d1 := d1.ex x2
  have q0 := d0.cell 0 (v := .int .i64 x.n) rfl
  have q1 := d0.cell 1 (v := .slice A x.gs.length c) rfl
  have q2 := d0.cell 2 (v := .slice B' x.outs.length d) rfl
  have r0 := d1.cell 0 (v := .int .i64 0) rfl
  have r1 := d1.cell 1 (v := .slice none 0 0) rfl
  have r2 := d1.cell 2 (v := .slice none 0 0) rfl
  have f0 := d1.frozen 0
  have f1 := d1.frozen 1
  have f2 := d1.frozen 2
  cases hb : circB p x with
  | false =>
    obtain ⟨dd, zz⟩ := d1.st3 (.int .i64 0) (.slice none 0 0) (.slice none 0 0)
    have C0 := dd.cell 0 (v := .int .i64 0) rfl
    have C1 := dd.cell 1 (v := .slice none 0 0) rfl
    have C2 := dd.cell 2 (v := .slice none 0 0) rfl
    have eF := (xx.trans x2).ex1 zz (by omega)
    go_wp2_with fail
    refine bodyPost_ret (v := .tuple #[.agg #[.int .i64 0, .slice none 0 0, .slice none 0 0], .bool false]) (by simp [results, Tryd.results62, go_sem, C0, C1, C2]) rfl ?_
    exact ⟨fun h => (by rw [hb] at h; cases h), fun _ => rfl, eF⟩
  | true =>
    obtain ⟨dd, zz⟩ := d1.st3 (.int .i64 x.n) (.slice A x.gs.length c) (.slice B' x.outs.length d)
    have C0 := dd.cell 0 (v := .int .i64 x.n) rfl
    have C1 := dd.cell 1 (v := .slice A x.gs.length c) rfl
    have C2 := dd.cell 2 (v := .slice B' x.outs.length d) rfl
    have eF := (xx.trans x2).ex1 zz (by omega)
    go_wp2_with fail
    refine bodyPost_ret (v := .tuple #[.agg #[.int .i64 x.n, .slice A x.gs.length c, .slice B' x.outs.length d], .bool true]) (by simp [results, Tryd.results62, go_sem, C0, C1, C2]) rfl ?_
    exact ⟨fun _ => rfl, fun h => (by rw [hb] at h; cases h), eF⟩
theorem seqU_no {p : Int} {a b : Circ} (h : ¬ (circB p a = true ∧ circB p b = true ∧ (a.outs.length : Int) = b.n ∧ circB p (seqC a b) = true)) : seqU p a b = (⟨0, [], []⟩, false) := if_neg h
theorem seqU_yes {p : Int} {a b : Circ} (h : circB p a = true ∧ circB p b = true ∧ (a.outs.length : Int) = b.n ∧ circB p (seqC a b) = true) : seqU p a b = (seqC a b, true) := if_pos h
set_option maxHeartbeats 2000000 in
theorem spSeqCircuits_u (p : Int) (a : Circ) (va0 va1 : Value) (b : Circ) (vb0 vb1 : Value) (w : World) (ha : RCirc w va0 va1 a) (hb : RCirc w vb0 vb1 b) :
    Calls Tryd.prog 32 #[.int .i64 p, .agg #[.int .i64 a.n, va0, va1], .agg #[.int .i64 b.n, vb0, vb1]] w fun e w' => CB w (seqU p a b) e w' := by
  have ka := ha
  have kb := hb
  obtain ⟨⟨⟨A, ac, rfl, h1⟩, _⟩, ⟨P, pc, rfl, h2⟩⟩ := ha
  obtain ⟨⟨⟨B, bc, rfl, h3⟩, _⟩, ⟨R, rc, rfl, h4⟩⟩ := hb
  have hl2 := h2.len
  have y0 := (Ex.refl w).alloc (.cells #[.int .i64 a.n, .slice A a.gs.length ac, .slice P a.outs.length pc] 44)
  have d0 := VB.new w 44 #[.int .i64 a.n, .slice A a.gs.length ac, .slice P a.outs.length pc]
  have S0 := Lib.hid (show (w.alloc (.cells #[.int .i64 a.n, .slice A a.gs.length ac, .slice P a.outs.length pc] 44)).heap.size = w.heap.size + 1 by simp)
  go_enter Tryd.func32, Tryd.ntmps32
  go_wp2_with fail
  generalize w.alloc (.cells #[.int .i64 a.n, .slice A a.gs.length ac, .slice P a.outs.length pc] 44) = W0 at *
  have y1 := (Ex.refl W0).alloc (.cells #[.int .i64 b.n, .slice B b.gs.length bc, .slice R b.outs.length rc] 44)
  have d1 := VB.new W0 44 #[.int .i64 b.n, .slice B b.gs.length bc, .slice R b.outs.length rc]
  rw [S0.out] at d1
  have S1 := Lib.hid (show (W0.alloc (.cells #[.int .i64 b.n, .slice B b.gs.length bc, .slice R b.outs.length rc] 44)).heap.size = w.heap.size + 1 + 1 by simp; exact S0.out)
  generalize W0.alloc (.cells #[.int .i64 b.n, .slice B b.gs.length bc, .slice R b.outs.length rc] 44) = W1 at *
  have y2 := (Ex.refl W1).alloc (.cells #[.int .i64 0, .slice none 0 0, .slice none 0 0] 44)
  have d2 := VB.new W1 44 #[.int .i64 0, .slice none 0 0, .slice none 0 0]
  rw [S1.out] at d2
  generalize W1.alloc (.cells #[.int .i64 0, .slice none 0 0, .slice none 0 0] 44) = W2 at *
  have xx := (y0.trans y1).trans y2
  have d0 := (d0.ex y1).ex y2
  have d1 := d1.ex y2
  clear y0 y1 y2 S0 S1
  refine (crGood_c p a.n A ac a.gs P pc a.outs W2 (h1.ex xx) (h2.ex xx)).mono ?_
  rintro e w3 ⟨rfl, x3⟩
  have d0 := d0.ex x3
  have d1 := d1.ex x3
  have d2 := d2.ex x3
  have xx := xx.trans x3
  clear x3
  have p1 := d1.cell 0 (v := .int .i64 b.n) rfl
  have p2 := d1.cell 1 (v := .slice B b.gs.length bc) rfl
  have p3 := d1.cell 2 (v := .slice R b.outs.length rc) rfl
  cases ca : circB p a with
  | false =>
    have H := Lib.hid (seqU_no (p := p) (a := a) (b := b) (fun h => by rw [ca] at h; cases h.1))
    obtain ⟨dd, zz⟩ := d2.st3 (.int .i64 0) (.slice none 0 0) (.slice none 0 0)
    have r0 := d2.cell 0 (v := .int .i64 0) rfl
    have r1 := d2.cell 1 (v := .slice none 0 0) rfl
    have r2 := d2.cell 2 (v := .slice none 0 0) rfl
    have f0 := d2.frozen 0
    have f1 := d2.frozen 1
    have f2 := d2.frozen 2
    have C0 := dd.cell 0 (v := .int .i64 0) rfl
    have C1 := dd.cell 1 (v := .slice none 0 0) rfl
    have C2 := dd.cell 2 (v := .slice none 0 0) rfl
    have eF := xx.ex1 zz (by omega)
    go_wp2_with fail
    refine bodyPost_ret (v := .tuple #[.agg #[.int .i64 0, .slice none 0 0, .slice none 0 0], .bool false]) (by simp [results, Tryd.results32, go_sem, C0, C1, C2]) rfl ?_
    rw [CB, H.out]
    exact ⟨_, _, rfl, OCirc.zero _ _ _ eF.size, eF⟩
  | true =>
    go_wp2_with fail
    refine (crGood_c p b.n B bc b.gs R rc b.outs w3 (h3.ex xx) (h4.ex xx)).mono ?_
    rintro e w4 ⟨rfl, x4⟩
    have d0 := d0.ex x4
    have d1 := d1.ex x4
    have d2 := d2.ex x4
    have xx := xx.trans x4
    clear x4 p1 p2 p3
    have p1 := d1.cell 0 (v := .int .i64 b.n) rfl
    have p2 := d1.cell 1 (v := .slice B b.gs.length bc) rfl
    have p3 := d1.cell 2 (v := .slice R b.outs.length rc) rfl
    have p4 := d0.cell 0 (v := .int .i64 a.n) rfl
    have p5 := d0.cell 1 (v := .slice A a.gs.length ac) rfl
    have p6 := d0.cell 2 (v := .slice P a.outs.length pc) rfl
    cases cb : circB p b with
    | false =>
      have H := Lib.hid (seqU_no (p := p) (a := a) (b := b) (fun h => by rw [cb] at h; cases h.2.1))
      obtain ⟨dd, zz⟩ := d2.st3 (.int .i64 0) (.slice none 0 0) (.slice none 0 0)
      have r0 := d2.cell 0 (v := .int .i64 0) rfl
      have r1 := d2.cell 1 (v := .slice none 0 0) rfl
      have r2 := d2.cell 2 (v := .slice none 0 0) rfl
      have f0 := d2.frozen 0
      have f1 := d2.frozen 1
      have f2 := d2.frozen 2
      have C0 := dd.cell 0 (v := .int .i64 0) rfl
      have C1 := dd.cell 1 (v := .slice none 0 0) rfl
      have C2 := dd.cell 2 (v := .slice none 0 0) rfl
      have eF := xx.ex1 zz (by omega)
      go_wp2_with fail
      refine bodyPost_ret (v := .tuple #[.agg #[.int .i64 0, .slice none 0 0, .slice none 0 0], .bool false]) (by simp [results, Tryd.results32, go_sem, C0, C1, C2]) rfl ?_
      rw [CB, H.out]
      exact ⟨_, _, rfl, OCirc.zero _ _ _ eF.size, eF⟩
    | true =>
      by_cases hn : (a.outs.length : Int) = b.n
      · obtain ⟨la, _, _, _⟩ := circB_use ca
        obtain ⟨lb, hin, hop, hou⟩ := circB_use cb
        have hcs := crSeq_c a b _ _ _ _ w4 (ka.ex xx) (kb.ex xx) la lb (fun g hg hk => by have := hin g hg hk; omega) hop hou
        have Hn := Lib.hid hn
        have hb' : ((a.outs.length : Int) != b.n) = false := by simp [hn]
        clear hn hin hop hou
        go_wp2_with fail
        refine hcs.mono ?_
        rintro e w5 ⟨y0, y1, rfl, o5, x5⟩
        obtain ⟨Y0, N0, K0, Y1, N1, K1, rfl, rfl⟩ := o5.rd.form
        have d2l := d2.lt
        have d2 := d2.ex x5
        go_wp2_with fail
        refine (crIf_c p (seqC a b) _ _ _ w5 o5).mono ?_
        rintro e w6 ⟨t, f, x6⟩
        have d2 := d2.ex x6
        have yy := (xx.trans x5).trans x6
        cases cc : circB p (seqC a b) with
        | true =>
          have H := Lib.hid (seqU_yes (p := p) (a := a) (b := b) ⟨ca, cb, Hn.out, cc⟩)
          obtain rfl := t cc
          obtain ⟨dd, zz⟩ := d2.st3 (.int .i64 (seqC a b).n) (.slice Y0 N0 K0) (.slice Y1 N1 K1)
          have r0 := d2.cell 0 (v := .int .i64 0) rfl
          have r1 := d2.cell 1 (v := .slice none 0 0) rfl
          have r2 := d2.cell 2 (v := .slice none 0 0) rfl
          have f0 := d2.frozen 0
          have f1 := d2.frozen 1
          have f2 := d2.frozen 2
          have C0 := dd.cell 0 (v := .int .i64 (seqC a b).n) rfl
          have C1 := dd.cell 1 (v := .slice Y0 N0 K0) rfl
          have C2 := dd.cell 2 (v := .slice Y1 N1 K1) rfl
          have eF := yy.ex1 zz (by omega)
          clear cc t f
          go_wp2_with fail
          refine bodyPost_ret (v := .tuple #[.agg #[.int .i64 (seqC a b).n, .slice Y0 N0 K0, .slice Y1 N1 K1], .bool true]) (by simp [results, Tryd.results32, go_sem, C0, C1, C2]) rfl ?_
          rw [CB, H.out]
          have o7 := (o5.ex x6).e1 zz (by have := xx.size; omega)
          have zs := zz.size
          have z6 := x6.size
          exact ⟨_, _, rfl, o7.more (by have := xx.size; omega) (by omega), eF⟩
        | false =>
          have H := Lib.hid (seqU_no (p := p) (a := a) (b := b) (fun h => by rw [cc] at h; cases h.2.2.2))
          obtain rfl := f cc
          obtain ⟨dd, zz⟩ := d2.st3 (.int .i64 0) (.slice none 0 0) (.slice none 0 0)
          have r0 := d2.cell 0 (v := .int .i64 0) rfl
          have r1 := d2.cell 1 (v := .slice none 0 0) rfl
          have r2 := d2.cell 2 (v := .slice none 0 0) rfl
          have f0 := d2.frozen 0
          have f1 := d2.frozen 1
          have f2 := d2.frozen 2
          have C0 := dd.cell 0 (v := .int .i64 0) rfl
          have C1 := dd.cell 1 (v := .slice none 0 0) rfl
          have C2 := dd.cell 2 (v := .slice none 0 0) rfl
          have eF := yy.ex1 zz (by omega)
          clear cc t f
          go_wp2_with fail
          refine bodyPost_ret (v := .tuple #[.agg #[.int .i64 0, .slice none 0 0, .slice none 0 0], .bool false]) (by simp [results, Tryd.results32, go_sem, C0, C1, C2]) rfl ?_
          rw [CB, H.out]
          exact ⟨_, _, rfl, OCirc.zero _ _ _ eF.size, eF⟩
      · have hb' : ((a.outs.length : Int) != b.n) = true := by simpa using hn
        have H := Lib.hid (seqU_no (p := p) (a := a) (b := b) (fun h => hn h.2.2.1))
        obtain ⟨dd, zz⟩ := d2.st3 (.int .i64 0) (.slice none 0 0) (.slice none 0 0)
        have r0 := d2.cell 0 (v := .int .i64 0) rfl
        have r1 := d2.cell 1 (v := .slice none 0 0) rfl
        have r2 := d2.cell 2 (v := .slice none 0 0) rfl
        have f0 := d2.frozen 0
        have f1 := d2.frozen 1
        have f2 := d2.frozen 2
        have C0 := dd.cell 0 (v := .int .i64 0) rfl
        have C1 := dd.cell 1 (v := .slice none 0 0) rfl
        have C2 := dd.cell 2 (v := .slice none 0 0) rfl
        have eF := xx.ex1 zz (by omega)
        go_wp2_with fail
        refine bodyPost_ret (v := .tuple #[.agg #[.int .i64 0, .slice none 0 0, .slice none 0 0], .bool false]) (by simp [results, Tryd.results32, go_sem, C0, C1, C2]) rfl ?_
        rw [CB, H.out]
        exact ⟨_, _, rfl, OCirc.zero _ _ _ eF.size, eF⟩
end Go.Proofs.YtkpfmnconnopnaaDoor
