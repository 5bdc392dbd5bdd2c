/- Contracts: one edge as described, on both sides. -/
import Derived.Test.YtgblnkadmieflaaGrL
import Derived.RegionCalls
import Derived.Deep.RegionWith
import Derived.Deep.RegionHeld3
namespace Go.Proofs.Ytgblnkadmieflaa
set_option maxRecDepth 100000
open Go Go.RowKit
theorem run_eql_wires (a b c d : Int) (W : World) : (binOp .eql 92 (.agg #[.int .i64 a, .int .i64 b]) (.agg #[.int .i64 c, .int .i64 d])).run Try.prog W = .ok (.bool (decide (a = c) && decide (b = d))) W := by
  by_cases h1 : a = c <;> by_cases h2 : b = d <;> simp [go_sem, Try.underlying92, Try.underlying3, h1, h2]
set_option maxHeartbeats 2000000 in
theorem isEdge_c (kd vl : Int) (P : Option Addr) (ni pc : Nat) (Q : Option Addr) (no qc : Nat) (w : World) (hi : ni ≤ 1099511627776) (ho : no ≤ 1099511627776) :
    Calls Try.prog 66 #[.agg #[.int .i64 kd, .int .i64 vl, .slice P ni pc, .slice Q no qc]] w fun e w' => e = .returned (.bool (edB kd vl ni no)) ∧ Ex w w' := by
  have x0 := (Ex.refl w).alloc (.cells #[.int .i64 kd, .int .i64 vl, .slice P ni pc, .slice Q no qc] 51)
  have v0 := VB.new w 51 #[.int .i64 kd, .int .i64 vl, .slice P ni pc, .slice Q no qc]
  obtain ⟨R, hR⟩ : ∃ R, edB kd vl ni no = R := ⟨_, rfl⟩
  rw [hR]
  unfold edB at hR
  have hg := fun W => isGenerator_c kd W
  cases h1 : inB 3 14 kd with
  | false =>
    rw [h1] at hR hg
    have HR := Lib.hid hR
    clear hR h1
    go_enter Try.func66, Try.ntmps66
    go_wp2_with (go_at_call 74; refine (hg _).mono ?_; rintro e w' ⟨rfl, rfl⟩)
    all_goals go_ret
    all_goals exact ⟨ret_bool (by rw [← HR.out]; rfl), x0⟩
  | true =>
    rw [h1, Bool.true_and] at hR
    rw [h1] at hg
    have hv := fun W => isGeneratorValue_c kd vl W
    have hw := fun W => generatorWires_c kd h1 W
    clear h1
    cases h2 : vlB kd vl with
    | false =>
      rw [h2] at hR hv
      have HR := Lib.hid hR
      clear hR h2 hw
      go_enter Try.func66, Try.ntmps66
      go_wp2_with (first | (go_at_call 74; refine (hg _).mono ?_; rintro e w' ⟨rfl, rfl⟩) | (go_at_call 75; refine (hv _).mono ?_; rintro e w' ⟨rfl, rfl⟩))
      all_goals go_ret
      all_goals exact ⟨ret_bool (by rw [← HR.out]; rfl), x0⟩
    | true =>
      rw [h2, Bool.true_and] at hR
      rw [h2] at hv
      have HR := Lib.hid hR
      clear hR h2
      go_enter Try.func66, Try.ntmps66
      go_wp2_with (first | (go_at_call 74; refine (hg _).mono ?_; rintro e w' ⟨rfl, rfl⟩) | (go_at_call 75; refine (hv _).mono ?_; rintro e w' ⟨rfl, rfl⟩) | fail)
      have c0 := v0.cell 0 (v := .int .i64 kd) rfl
      have c2 := v0.cell 2 (v := .slice P ni pc) rfl
      have c3 := v0.cell 3 (v := .slice Q no qc) rfl
      generalize (w.alloc (Obj.cells #[Value.int .i64 kd, Value.int .i64 vl, Value.slice P ni pc, Value.slice Q no qc] 51)) = W0 at *
      have HS : ∀ W, Ex W0 W → (Ex W0 W ∧ W.cell? ⟨w.heap.size, 0, none⟩ = some (.int .i64 kd) ∧ W.cell? ⟨w.heap.size, 2, none⟩ = some (.slice P ni pc) ∧ W.cell? ⟨w.heap.size, 3, none⟩ = some (.slice Q no qc)) := fun W h => ⟨h, cell_ex h c0, cell_ex h c2, cell_ex h c3⟩
      have eA := (Ex.refl W0).drew
      have hq := fun W => run_eql_wires (gw kd).1 (gw kd).2 ni no W
      rw [HR.out] at hq
      go_region_held3 (fun W => Ex W0 W ∧ W.cell? ⟨w.heap.size, 0, none⟩ = some (.int .i64 kd) ∧ W.cell? ⟨w.heap.size, 2, none⟩ = some (.slice P ni pc) ∧ W.cell? ⟨w.heap.size, 3, none⟩ = some (.slice Q no qc)) (first
        | (exact HS _ x1) | (exact HS _ (x1.alloc _)) | (exact HS _ eA) | (exact HS _ (Ex.refl W0)) | (exact HS _ ((Ex.refl W0).alloc _)) | (exact HS _ (eA.alloc _))) (first
        | (go_at_call 76
           have hb := (‹Ex W0 _ ∧ _›).1
           refine (hw _).mono ?_
           rintro e w1 ⟨rfl, x1'⟩
           have x1 := hb.trans x1'
           clear hb))
      all_goals
        go_wp2
        go_ret
        exact ⟨rfl, x0.trans x1⟩
set_option maxHeartbeats 2000000 in
theorem hgEdge_c (kd vl : Int) (P : Option Addr) (pc : Nat) (ins : List Int) (Q : Option Addr) (qc : Nat) (outs : List Int) (n : Int) (w : World) (hP : Rd w P ins) (hQ : Rd w Q outs) (h0 : 0 ≤ n) (h1 : n ≤ 100) :
    Calls Try.prog 64 #[.agg #[.int .i64 kd, .int .i64 vl, .slice P ins.length pc, .slice Q outs.length qc], .int .i64 n] w fun e w' => e = .returned (.bool (edB kd vl ins.length outs.length && ins.all (inB 0 (n - 1)) && outs.all (inB 0 (n - 1)))) ∧ Ex w w' := by
  have x0 := (Ex.refl w).alloc (.cells #[.int .i64 kd, .int .i64 vl, .slice P ins.length pc, .slice Q outs.length qc] 51)
  obtain ⟨R, hR⟩ : ∃ R, (edB kd vl ins.length outs.length && ins.all (inB 0 (n - 1)) && outs.all (inB 0 (n - 1))) = R := ⟨_, rfl⟩
  rw [hR]
  unfold edB at hR
  have hg := fun W => l1In_c kd 3 14 W
  cases h1 : inB 3 14 kd with
  | false =>
    rw [h1] at hR hg
    have HR := Lib.hid hR
    clear hR h1
    go_enter Try.func64, Try.ntmps64
    go_wp2_with (go_at_call 56; refine (hg _).mono ?_; rintro e w' ⟨rfl, rfl⟩)
    all_goals go_ret
    all_goals exact ⟨ret_bool (by rw [← HR.out]; rfl), x0⟩
  | true =>
    rw [h1, Bool.true_and] at hR
    rw [h1] at hg
    have hk := fun W => tmKind_c kd h1 W
    have hl := fun W => tmLeaf_c kd vl h1 W
    have hi := fun W (x : Ex w W) => l1All_c P pc ins 0 (n - 1) W (hP.ex x)
    have ho := fun W (x : Ex w W) => l1All_c Q qc outs 0 (n - 1) W (hQ.ex x)
    have hPl := hP.len
    have hQl := hQ.len
    clear h1
    cases h2 : vlB kd vl with
    | false =>
      rw [h2] at hR hl
      have HR := Lib.hid hR
      clear hR h2
      go_enter Try.func64, Try.ntmps64
      go_wp2_with (first | (go_at_call 56; refine (hg _).mono ?_; rintro e w' ⟨rfl, rfl⟩) | fail)
      refine (hl _).mono ?_
      rintro e w2 ⟨rfl, x2⟩
      go_wp2
      go_ret
      exact ⟨ret_bool (by rw [← HR.out]; rfl), x0.trans x2⟩
    | true =>
      rw [h2, Bool.true_and] at hR
      rw [h2] at hl
      clear h2
      have y0 := VB.new w 51 #[.int .i64 kd, .int .i64 vl, .slice P ins.length pc, .slice Q outs.length qc]
      go_enter Try.func64, Try.ntmps64
      go_wp2_with (first | (go_at_call 56; refine (hg _).mono ?_; rintro e w' ⟨rfl, rfl⟩) | fail)
      refine (hl _).mono ?_
      rintro e w2 ⟨rfl, x2⟩
      replace x0 := x0.trans x2
      replace y0 := y0.ex x2
      have c0 := y0.cell 0 (v := .int .i64 kd) rfl
      have c2 := y0.cell 2 (v := .slice P ins.length pc) rfl
      have c3 := y0.cell 3 (v := .slice Q outs.length qc) rfl
      clear hl x2
      go_wp2_with fail
      refine (hk _).mono ?_
      rintro e w3 ⟨rfl, x3⟩
      replace x0 := x0.trans x3
      replace y0 := y0.ex x3
      have c2 := y0.cell 2 (v := .slice P ins.length pc) rfl
      have c3 := y0.cell 3 (v := .slice Q outs.length qc) rfl
      clear c0 hk x3
      by_cases h3 : (gw kd).1 = ins.length
      · rw [decide_eq_true h3, Bool.true_and] at hR
        by_cases h4 : (gw kd).2 = outs.length
        · rw [decide_eq_true h4, Bool.true_and] at hR
          cases h5 : ins.all (inB 0 (n - 1)) with
          | false =>
            rw [h5] at hR hi
            have HR := Lib.hid hR
            rw [h3, h4]
            clear hR h3 h4 h5
            go_wp2_with fail
            refine (hi _ x0).mono ?_
            rintro e _ ⟨rfl, rfl⟩
            go_wp2
            go_ret
            exact ⟨ret_bool (by rw [← HR.out]; rfl), x0⟩
          | true =>
            rw [h5, Bool.true_and] at hR
            rw [h5] at hi
            have HR := Lib.hid hR
            rw [h3, h4]
            clear hR h3 h4 h5
            go_wp2_with fail
            refine (hi _ x0).mono ?_
            rintro e _ ⟨rfl, rfl⟩
            go_wp2_with fail
            refine (ho _ x0).mono ?_
            rintro e _ ⟨rfl, rfl⟩
            go_wp2
            go_ret
            exact ⟨ret_bool (by rw [← HR.out]), x0⟩
        · rw [decide_eq_false h4] at hR
          have HR := Lib.hid hR
          rw [h3]
          clear hR h3
          have h4' : ((outs.length : Int) == (gw kd).2) = false := by simp; omega
          generalize (gw kd).2 = q2 at *
          go_wp2
          go_ret
          exact ⟨ret_bool (by rw [← HR.out]; rfl), x0⟩
      · rw [decide_eq_false h3] at hR
        have HR := Lib.hid hR
        clear hR
        have h3' : ((ins.length : Int) == (gw kd).1) = false := by simp; omega
        generalize (gw kd).1 = q1 at *
        generalize (gw kd).2 = q2 at *
        go_wp2
        go_ret
        exact ⟨ret_bool (by rw [← HR.out]; rfl), x0⟩
end Go.Proofs.Ytgblnkadmieflaa
