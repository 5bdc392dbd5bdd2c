/- SeqCircuits: the reference's side. -/
import Derived.Test.YtgblnkadmieflaaDoorCirB
namespace Go.Proofs.YtgblnkadmieflaaDoor
set_option maxRecDepth 100000
open Go Go.RowKit
theorem totG_len (gs : List Gt) : totG gs = 4 * (gs.length : Int) := by
  show totS EG gs = _
  induction gs with
  | nil => rfl
  | cons y ys ih => rw [totS_cons, ih, List.length_cons]; show 4 + _ = _; push_cast; omega
theorem OCirc.zero (w : World) (a b : Nat) (hab : a ≤ b) : OCirc w a b (.slice none 0 0) (.slice none 0 0) ⟨0, [], []⟩ :=
  ⟨a, a, a, a, ⟨⟨none, 0, rfl, OwS.nil _ _ _ _ _ _⟩, by simp [totS]⟩, OI.nil _ _ _, Nat.le_refl _, hab, Nat.le_refl _, hab, .inl (Nat.le_refl _)⟩
/-- The ending of a call that returns a circuit of its own, and a bool. -/
def CB (w : World) (r : Circ × Bool) (e : Ending) (w' : World) : Prop := ∃ y0 y1, e = .returned (.tuple #[.agg #[.int .i64 r.1.n, y0, y1], .bool r.2]) ∧ OCirc w' w.heap.size w'.heap.size y0 y1 r.1 ∧ Ex w w'
theorem circB_use {p : Int} {x : Circ} (h : circB p x = true) : x.gs.length ≤ 40 ∧ (∀ g ∈ x.gs, g.kd = 1 → 0 ≤ g.vl ∧ g.vl < x.n) ∧ (∀ g ∈ x.gs, ∀ k ∈ opnd g, 0 ≤ k ∧ k < x.gs.length) ∧ (∀ k ∈ x.outs, 0 ≤ k ∧ k < x.gs.length) := by
  obtain ⟨_, _, _, _, h40, _, ho, hg, _⟩ := circB_parts h
  refine ⟨h40, fun g hm hk => ?_, fun g hm k hk => ?_, fun k hk => ?_⟩
  · have := List.all_eq_true.1 hg g hm
    simp only [gateB, hk, if_true, Bool.and_eq_true, inB, decide_eq_true_eq] at this
    omega
  · have := List.all_eq_true.1 hg g hm
    unfold gateB at this
    rw [Bool.and_eq_true] at this
    have := List.all_eq_true.1 this.1 k hk
    simp only [inB, Bool.and_eq_true, decide_eq_true_eq] at this
    omega
  · have := List.all_eq_true.1 ho k hk
    simp only [inB, Bool.and_eq_true, decide_eq_true_eq] at this
    omega
set_option maxHeartbeats 1000000 in
theorem crIf_c (p : Int) (x : Circ) (v0 v1 : Value) (B : Nat) (w : World) (h : OCirc w B w.heap.size v0 v1 x) :
    Calls Tryd.prog 40 #[.int .i64 p, .agg #[.int .i64 x.n, v0, v1]] w fun e w' => (circB p x = true → e = .returned (.tuple #[.agg #[.int .i64 x.n, v0, v1], .bool true])) ∧ (circB p x = false → e = .returned (.tuple #[.agg #[.int .i64 0, .slice none 0 0, .slice none 0 0], .bool false])) ∧ Ex w w' := by
  obtain ⟨⟨⟨A, c, rfl, hg⟩, _⟩, ⟨B', d, rfl, ho⟩⟩ := h.rd
  clear h
  have x0 := (Ex.refl w).alloc (.cells #[.int .i64 x.n, .slice A x.gs.length c, .slice B' x.outs.length d] 29)
  have d0 := VB.new w 29 #[.int .i64 x.n, .slice A x.gs.length c, .slice B' x.outs.length d]
  have S0 := Lib.hid (show (w.alloc (.cells #[.int .i64 x.n, .slice A x.gs.length c, .slice B' x.outs.length d] 29)).heap.size = w.heap.size + 1 by simp)
  go_enter Tryd.func40, Tryd.ntmps40
  go_wp2_with fail
  generalize w.alloc (.cells #[.int .i64 x.n, .slice A x.gs.length c, .slice B' x.outs.length d] 29) = W0 at *
  have x1 := (Ex.refl W0).alloc (.cells #[.int .i64 0, .slice none 0 0, .slice none 0 0] 29)
  have d1 := VB.new W0 29 #[.int .i64 0, .slice none 0 0, .slice none 0 0]
  rw [S0.out] at d1
  generalize W0.alloc (.cells #[.int .i64 0, .slice none 0 0, .slice none 0 0] 29) = W1 at *
  have d0 := d0.ex x1
  have xx := x0.trans x1
  refine (crGood_c p x.n A c x.gs B' d x.outs W1 (hg.ex xx) (ho.ex xx)).mono ?_
  rintro e w2 ⟨rfl, x2⟩
  have d0 := d0.ex x2
  have d1 := d1.ex x2
  have q0 := d0.cell 0 (v := .int .i64 x.n) rfl
  have q1 := d0.cell 1 (v := .slice A x.gs.length c) rfl
  have q2 := d0.cell 2 (v := .slice B' x.outs.length d) rfl
  have r0 := d1.cell 0 (v := .int .i64 0) rfl
  have r1 := d1.cell 1 (v := .slice none 0 0) rfl
  have r2 := d1.cell 2 (v := .slice none 0 0) rfl
  have f0 := d1.frozen 0
  have f1 := d1.frozen 1
  have f2 := d1.frozen 2
  cases hb : circB p x with
  | false =>
    obtain ⟨dd, zz⟩ := d1.st3 (.int .i64 0) (.slice none 0 0) (.slice none 0 0)
    have C0 := dd.cell 0 (v := .int .i64 0) rfl
    have C1 := dd.cell 1 (v := .slice none 0 0) rfl
    have C2 := dd.cell 2 (v := .slice none 0 0) rfl
    have eF := (xx.trans x2).ex1 zz (by omega)
    go_wp2_with fail
    refine bodyPost_ret (v := .tuple #[.agg #[.int .i64 0, .slice none 0 0, .slice none 0 0], .bool false]) (by simp [results, Tryd.results40, go_sem, C0, C1, C2]) rfl ?_
    exact ⟨fun h => (by rw [hb] at h; cases h), fun _ => rfl, eF⟩
  | true =>
    obtain ⟨dd, zz⟩ := d1.st3 (.int .i64 x.n) (.slice A x.gs.length c) (.slice B' x.outs.length d)
    have C0 := dd.cell 0 (v := .int .i64 x.n) rfl
    have C1 := dd.cell 1 (v := .slice A x.gs.length c) rfl
    have C2 := dd.cell 2 (v := .slice B' x.outs.length d) rfl
    have eF := (xx.trans x2).ex1 zz (by omega)
    go_wp2_with fail
    refine bodyPost_ret (v := .tuple #[.agg #[.int .i64 x.n, .slice A x.gs.length c, .slice B' x.outs.length d], .bool true]) (by simp [results, Tryd.results40, go_sem, C0, C1, C2]) rfl ?_
    exact ⟨fun _ => rfl, fun h => (by rw [hb] at h; cases h), eF⟩
theorem seqU_no {p : Int} {a b : Circ} (h : ¬ (circB p a = true ∧ circB p b = true ∧ (a.outs.length : Int) = b.n ∧ circB p (seqC a b) = true)) : seqU p a b = (⟨0, [], []⟩, false) := if_neg h
theorem seqU_yes {p : Int} {a b : Circ} (h : circB p a = true ∧ circB p b = true ∧ (a.outs.length : Int) = b.n ∧ circB p (seqC a b) = true) : seqU p a b = (seqC a b, true) := if_pos h
theorem ALG.og1 {w : World} {B : Nat} {v : Value} {gs : List Gt} (h : ALG w B v gs) (hl : gs.length ≤ 1048576) (hB : B ≤ w.heap.size) : ∃ a b, OG w a b v gs ∧ B ≤ a ∧ b ≤ w.heap.size ∧ (b = B ∨ ∃ k, v.ownBlock = some k ∧ a = k ∧ b = k + 1) := by
  have hog := (h.og hl).2
  obtain ⟨_, h2⟩ := h
  rcases h2 with ⟨hv, hn⟩ | ⟨g, cap, cur, hv, hBg, hh, hnc, _, _, htk⟩
  · have : gs = [] := List.eq_nil_of_length_eq_zero hn
    subst this
    exact ⟨B, B, ⟨⟨none, 0, hv, OwS.nil _ _ _ _ _ _⟩, hog⟩, Nat.le_refl _, hB, .inl rfl⟩
  · refine ⟨g, g + 1, ⟨⟨_, cap, hv, by omega, fun _ => g + 1, fun _ => g, fun j x hj => ⟨g, 0, gtC x, cur, rfl, Nat.le_refl _, Nat.lt_succ_self _, hh, fun i u hu => ?_, rfl, Nat.le_succ _, Nat.le_succ _, .inl (Nat.lt_succ_self _)⟩, fun i j _ _ _ => .inl (Nat.le_succ _)⟩, hog⟩, hBg, heap_lt_of hh, .inr ⟨g, by rw [hv]; rfl, rfl, rfl⟩⟩
    have e := gflat_at hj hu
    rw [← htk, List.getElem?_take] at e
    split at e
    · rw [Nat.zero_add]
      show cur[j * 4 + i]? = some u
      simpa using e
    · cases e
set_option maxHeartbeats 1000000 in
theorem validCircuit_c (p : Int) (x : Circ) (v0 v1 : Value) (w : World) (h : RCirc w v0 v1 x) (ht : Tb w) :
    Calls Tryd.prog 44 #[.int .i64 p, .agg #[.int .i64 x.n, v0, v1]] w fun e w' => (circB p x = true → e = .returned (.tuple #[.agg #[.int .i64 x.n, v0, v1], .bool true])) ∧ (circB p x = false → e = .returned (.tuple #[.agg #[.int .i64 0, .slice none 0 0, .slice none 0 0], .bool false])) ∧ Ex w w' := by
  obtain ⟨⟨⟨A, c, rfl, hg⟩, _⟩, ⟨B', d, rfl, ho⟩⟩ := h
  have x0 := (Ex.refl w).alloc (.cells #[.int .i64 x.n, .slice A x.gs.length c, .slice B' x.outs.length d] 29)
  have d0 := VB.new w 29 #[.int .i64 x.n, .slice A x.gs.length c, .slice B' x.outs.length d]
  have S0 := Lib.hid (show (w.alloc (.cells #[.int .i64 x.n, .slice A x.gs.length c, .slice B' x.outs.length d] 29)).heap.size = w.heap.size + 1 by simp)
  go_enter Tryd.func44, Tryd.ntmps44
  go_wp2_with fail
  generalize w.alloc (.cells #[.int .i64 x.n, .slice A x.gs.length c, .slice B' x.outs.length d] 29) = W0 at *
  have x1 := (Ex.refl W0).alloc (.cells #[.int .i64 0, .slice none 0 0, .slice none 0 0] 29)
  have d1 := VB.new W0 29 #[.int .i64 0, .slice none 0 0, .slice none 0 0]
  rw [S0.out] at d1
  generalize W0.alloc (.cells #[.int .i64 0, .slice none 0 0, .slice none 0 0] 29) = W1 at *
  have d0 := d0.ex x1
  have xx := x0.trans x1
  refine (isCircuit_c p x.n A c x.gs B' d x.outs W1 (hg.ex xx) (ho.ex xx) (ht.ex xx)).mono ?_
  rintro e w2 ⟨rfl, x2⟩
  have d0 := d0.ex x2
  have d1 := d1.ex x2
  have q0 := d0.cell 0 (v := .int .i64 x.n) rfl
  have q1 := d0.cell 1 (v := .slice A x.gs.length c) rfl
  have q2 := d0.cell 2 (v := .slice B' x.outs.length d) rfl
  have r0 := d1.cell 0 (v := .int .i64 0) rfl
  have r1 := d1.cell 1 (v := .slice none 0 0) rfl
  have r2 := d1.cell 2 (v := .slice none 0 0) rfl
  have f0 := d1.frozen 0
  have f1 := d1.frozen 1
  have f2 := d1.frozen 2
  cases hb : circB p x with
  | false =>
    obtain ⟨dd, zz⟩ := d1.st3 (.int .i64 0) (.slice none 0 0) (.slice none 0 0)
    have C0 := dd.cell 0 (v := .int .i64 0) rfl
    have C1 := dd.cell 1 (v := .slice none 0 0) rfl
    have C2 := dd.cell 2 (v := .slice none 0 0) rfl
    have eF := (xx.trans x2).ex1 zz (by omega)
    go_wp2_with fail
    refine bodyPost_ret (v := .tuple #[.agg #[.int .i64 0, .slice none 0 0, .slice none 0 0], .bool false]) (by simp [results, Tryd.results44, go_sem, C0, C1, C2]) rfl ?_
    exact ⟨fun h => (by rw [hb] at h; cases h), fun _ => rfl, eF⟩
  | true =>
    obtain ⟨dd, zz⟩ := d1.st3 (.int .i64 x.n) (.slice A x.gs.length c) (.slice B' x.outs.length d)
    have C0 := dd.cell 0 (v := .int .i64 x.n) rfl
    have C1 := dd.cell 1 (v := .slice A x.gs.length c) rfl
    have C2 := dd.cell 2 (v := .slice B' x.outs.length d) rfl
    have eF := (xx.trans x2).ex1 zz (by omega)
    go_wp2_with fail
    refine bodyPost_ret (v := .tuple #[.agg #[.int .i64 x.n, .slice A x.gs.length c, .slice B' x.outs.length d], .bool true]) (by simp [results, Tryd.results44, go_sem, C0, C1, C2]) rfl ?_
    exact ⟨fun _ => rfl, fun h => (by rw [hb] at h; cases h), eF⟩
end Go.Proofs.YtgblnkadmieflaaDoor
