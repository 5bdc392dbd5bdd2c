/- Contracts: a valid graph (the reference). -/
import Derived.Test.YtgblnkadmieflaaGrC
import Derived.Test.YtgblnkadmieflaaGrA
namespace Go.Proofs.Ytgblnkadmieflaa
set_option maxRecDepth 100000
open Go Go.RowKit
theorem dimB_parts {x : Gr} (h : dimB x = true) : 0 ≤ x.wires ∧ x.wires ≤ 100 ∧ x.es.length ≤ 60 ∧ x.ins.length ≤ 12 ∧ x.outs.length ≤ 12 := by
  simp only [dimB, inB, Bool.and_eq_true, decide_eq_true_eq] at h
  omega
theorem validB_dim {x : Gr} (h : dimB x = false) : validB x = false := by simp [validB, h]
set_option maxHeartbeats 4000000 in
theorem hgValid_c (x : Gr) (E : Option Addr) (ec : Nat) (I : Option Addr) (ic : Nat) (O : Option Addr) (oc : Nat) (w : World) (hE : RdS EE w E x.es) (hI : Rd w I x.ins) (hO : Rd w O x.outs) :
    Calls Try.prog 52 #[.agg #[.int .i64 x.wires, .slice E x.es.length ec, .slice I x.ins.length ic, .slice O x.outs.length oc]] w fun e w' => e = .returned (.bool (validB x)) ∧ Ex w w' := by
  obtain ⟨N, es, ins, outs⟩ := x
  dsimp only at hE hI hO ⊢
  have hEl := hE.1
  have hIl := hI.len
  have hOl := hO.len
  have hg := fun W => l1In_c N 0 100 W
  have y0 := (Ex.refl w).alloc (.cells #[.int .i64 N, .slice E es.length ec, .slice I ins.length ic, .slice O outs.length oc] 31)
  have d0 := VB.new w 31 #[.int .i64 N, .slice E es.length ec, .slice I ins.length ic, .slice O outs.length oc]
  obtain ⟨R, hR⟩ : ∃ R, validB ⟨N, es, ins, outs⟩ = R := ⟨_, rfl⟩
  rw [hR]
  simp only [validB, dimB] at hR
  by_cases h1 : inB 0 100 N = true
  · rw [h1] at hg hR
    have hN := inB_bd h1
    obtain ⟨n, rfl⟩ := Int.eq_ofNat_of_zero_le hN.1
    by_cases h2 : es.length ≤ 60
    · by_cases h3 : ins.length ≤ 12
      · by_cases h4 : outs.length ≤ 12
        · rw [decide_eq_true h2, decide_eq_true h3, decide_eq_true h4, Bool.true_and, Bool.true_and, Bool.true_and, Bool.true_and] at hR
          have hi := fun W (x : Ex w W) => l1All_c I ic ins 0 (n - 1) W (hI.ex x)
          have ho := fun W (x : Ex w W) => l1All_c O oc outs 0 (n - 1) W (hO.ex x)
          cases h5 : ins.all (inB 0 ((n : Int) - 1)) with
          | false =>
            rw [h5] at hR hi
            have HR := Lib.hid hR
            clear hR h5 h1
            go_enter Try.func52, Try.ntmps52
            go_wp2_with fail
            refine (hg _).mono ?_
            rintro e _ ⟨rfl, rfl⟩
            go_wp2_with fail
            refine (hi _ y0).mono ?_
            rintro e _ ⟨rfl, rfl⟩
            go_wp2
            go_ret
            exact ⟨ret_bool (by rw [← HR.out]; rfl), y0⟩
          | true =>
            rw [h5, Bool.true_and] at hR
            rw [h5] at hi
            have hib := fun k hk => all_bd h5 (k := k) hk
            clear h5
            cases h6 : outs.all (inB 0 ((n : Int) - 1)) with
            | false =>
              rw [h6] at hR ho
              have HR := Lib.hid hR
              clear hR h6 h1 hib
              go_enter Try.func52, Try.ntmps52
              go_wp2_with fail
              refine (hg _).mono ?_
              rintro e _ ⟨rfl, rfl⟩
              go_wp2_with fail
              refine (hi _ y0).mono ?_
              rintro e _ ⟨rfl, rfl⟩
              go_wp2_with fail
              refine (ho _ y0).mono ?_
              rintro e _ ⟨rfl, rfl⟩
              go_wp2
              go_ret
              exact ⟨ret_bool (by rw [← HR.out]; rfl), y0⟩
            | true =>
              rw [h6, Bool.true_and] at hR
              rw [h6] at ho
              have hob := fun k hk => all_bd h6 (k := k) hk
              have HR := Lib.hid hR
              have Hib := Lib.hid hib
              have Hob := Lib.hid hob
              clear h6 h1 hR hib hob
              go_enter Try.func52, Try.ntmps52
              go_wp2_with fail
              refine (hg _).mono ?_
              rintro e _ ⟨rfl, rfl⟩
              go_wp2_with fail
              refine (hi _ y0).mono ?_
              rintro e _ ⟨rfl, rfl⟩
              go_wp2_with fail
              refine (ho _ y0).mono ?_
              rintro e _ ⟨rfl, rfl⟩
              clear hg hi ho
              generalize w.alloc (.cells #[.int .i64 n, .slice E es.length ec, .slice I ins.length ic, .slice O outs.length oc] 31) = W0 at *
              have q1 := d0.cell 1 (v := .slice E es.length ec) rfl
              go_wp2_with fail
              clear q1
              go_loopw [51] (fun i wr => ∃ k : Nat, k ≤ es.length ∧ i = .int .i64 k ∧ Hid ((es.take k).all (fun e => edK e && e.ins.all (inB 0 ((n : Int) - 1)) && e.outs.all (inB 0 ((n : Int) - 1))) = true) ∧ VB wr w.heap.size 31 #[.int .i64 n, .slice E es.length ec, .slice I ins.length ic, .slice O outs.length oc] ∧ Ex w wr) (fun i _ => es.length - (intOf i).toNat)
              case atStart => exact ⟨0, Nat.zero_le _, rfl, Lib.hid rfl, d0, y0⟩
              case round =>
                obtain ⟨k, hk, rfl, Hall, hd, he⟩ := hrel
                by_cases hlt : k < es.length
                · obtain ⟨g, off, x, P, pc, Q, qc, rfl, hx, c0, c1, c2, c3, hP, hQ⟩ := (hE.ex he).edge hlt
                  have Hx := Lib.hid hx
                  have y3 := (Ex.refl wr).alloc (.cells #[.int .i64 x.kd, .int .i64 x.vl, .slice P x.ins.length pc, .slice Q x.outs.length qc] 51)
                  have v3 := VB.new wr 51 #[.int .i64 x.kd, .int .i64 x.vl, .slice P x.ins.length pc, .slice Q x.outs.length qc]
                  have q0 := (hd.ex y3).cell 0 (v := .int .i64 n) rfl
                  clear hx
                  have hh := fun W (y : Ex wr W) => hgEdge_c x.kd x.vl P pc x.ins Q qc x.outs n W (hP.ex y) (hQ.ex y) (by omega) (by omega)
                  have hd2 := hd.ex y3
                  have he2 := he.trans y3
                  go_wp2_with fail
                  generalize wr.alloc (.cells #[.int .i64 x.kd, .int .i64 x.vl, .slice P x.ins.length pc, .slice Q x.outs.length qc] 51) = W3 at *
                  refine (hh W3 y3).mono ?_
                  rintro e w4 ⟨rfl, x4⟩
                  have hd3 := hd2.ex x4
                  have he3 := he2.trans x4
                  clear hh hd he hd2 he2 c0 c1 c2 c3
                  have HEB := Lib.hid (show (edB x.kd x.vl x.ins.length x.outs.length && x.ins.all (inB 0 ((n : Int) - 1)) && x.outs.all (inB 0 ((n : Int) - 1))) = (edK x && x.ins.all (inB 0 ((n : Int) - 1)) && x.outs.all (inB 0 ((n : Int) - 1))) from rfl)
                  rw [HEB.out]
                  cases hb : (edK x && x.ins.all (inB 0 ((n : Int) - 1)) && x.outs.all (inB 0 ((n : Int) - 1))) with
                  | true =>
                    have Hall2 := Lib.hid (show (es.take (k + 1)).all (fun e => edK e && e.ins.all (inB 0 ((n : Int) - 1)) && e.outs.all (inB 0 ((n : Int) - 1))) = true by rw [List.take_add_one, Hx.out, List.all_append, Hall.out]; simp only [Option.toList_some, List.all_cons, List.all_nil, hb]; rfl)
                    clear hb
                    go_wp2_with fail
                    go_roundw
                    case rel => exact ⟨k + 1, by omega, by go_num, Hall2, hd3, he3⟩
                    case measure => simp [intOf]; omega
                  | false =>
                    have H := Lib.hid (show R = false by
                      rw [← HR.out, List.all_eq_false.2 ⟨x, List.mem_of_getElem? Hx.out, by rw [hb]; decide⟩]; rfl)
                    clear hb
                    go_wp2
                    go_ret
                    exact ⟨ret_bool H.out.symm, he3⟩
                · obtain rfl : k = es.length := by omega
                  have hall := Hall.out
                  rw [List.take_length] at hall
                  have HR2 := Lib.hid (show occB ⟨n, es, ins, outs⟩ = R by rw [← HR.out, hall, Bool.true_and])
                  have hek := fun e (he : e ∈ es) => edRK hall he
                  have l1 := outsL_len (es := es) (fun e he => (hek e he).1)
                  have l2 := insL_len (es := es) (fun e he => (hek e he).1)
                  have hcnt := hgCounts_c n E ec es I ic ins O oc outs wr (hE.ex he) (hI.ex he) (hO.ex he) (by omega) (fun k hk => by
                    rcases List.mem_append.1 hk with hk | hk
                    · have := Hib.out k hk; omega
                    · obtain ⟨e, hee, hke⟩ := mem_outsL hk
                      have := (hek e hee).2.2 k hke; omega) (fun k hk => by
                    rcases List.mem_append.1 hk with hk | hk
                    · have := Hob.out k hk; omega
                    · obtain ⟨e, hee, hke⟩ := mem_insL hk
                      have := (hek e hee).2.1 k hke; omega) (by rw [List.length_append]; omega) (by rw [List.length_append]; omega)
                  clear hall hek
                  have q0 := hd.cell 0 (v := .int .i64 n) rfl
                  have q1 := hd.cell 1 (v := .slice E es.length ec) rfl
                  have q2 := hd.cell 2 (v := .slice I ins.length ic) rfl
                  have q3 := hd.cell 3 (v := .slice O outs.length oc) rfl
                  go_wp2_with fail
                  refine hcnt.mono ?_
                  rintro e w4 ⟨f, t, rfl, hf, hft, of_, ot, x4⟩
                  have he4 := he.trans x4
                  clear hcnt q0 q1 q2 q3 hd he
                  change Own w4 f (cntL n (frL ⟨n, es, ins, outs⟩)) at of_
                  change Own w4 t (cntL n (toWL ⟨n, es, ins, outs⟩)) at ot
                  have b1 : (frL ⟨n, es, ins, outs⟩).length ≤ 1000 := by show (ins ++ outsL es).length ≤ 1000; rw [List.length_append]; omega
                  have b2 : (toWL ⟨n, es, ins, outs⟩).length ≤ 1000 := by show (outs ++ insL es).length ≤ 1000; rw [List.length_append]; omega
                  unfold occB at HR2
                  generalize frL ⟨n, es, ins, outs⟩ = F at *
                  generalize toWL ⟨n, es, ins, outs⟩ = T at *
                  go_wp2_with fail
                  go_loopw [68] (fun i wi => ∃ k : Nat, k ≤ n ∧ i = .int .i64 k ∧ Hid ((upL k).all (fun w => decide (w ∈ F) || decide (w ∈ T)) = true) ∧ Own wi f (cntL n F) ∧ Own wi t (cntL n T) ∧ Ex w wi) (fun i _ => n - (intOf i).toNat)
                  case atStart => exact ⟨0, Nat.zero_le _, rfl, Lib.hid rfl, of_, ot, he4⟩
                  case round =>
                    clear of_ ot he4 x4
                    obtain ⟨k, hk, rfl, HallW, of_, ot, he⟩ := hrel
                    by_cases hlt : k < n
                    · have c1 := of_.cell (cntL_at (l := F) hlt)
                      have c2 := ot.cell (cntL_at (l := T) hlt)
                      have e1 := cnt_le F (k : Int)
                      have e2 := cnt_le T (k : Int)
                      obtain ⟨a, ha⟩ : ∃ a, List.count (k : Int) F = a := ⟨_, rfl⟩
                      obtain ⟨b, hb⟩ : ∃ b, List.count (k : Int) T = b := ⟨_, rfl⟩
                      rw [ha] at c1 e1
                      rw [hb] at c2 e2
                      by_cases hab : a + b = 0
                      · have H := Lib.hid (show R = false by
                          have ha0 : (k : Int) ∉ F := List.count_eq_zero.1 (by omega)
                          have hb0 : (k : Int) ∉ T := List.count_eq_zero.1 (by omega)
                          rw [← HR2.out, List.all_eq_false.2 ⟨(k : Int), List.mem_of_getElem? (upL_at (by simpa using hlt)), by simp [ha0, hb0]⟩])
                        have hz : ((a : Int) + (b : Int) == 0) = true := by simp; omega
                        clear ha hb
                        go_wp2_with fail
                        go_quiet (fail)
                        go_wp2_with fail
                        go_ret
                        exact ⟨ret_bool H.out.symm, he.drewN _⟩
                      · have Hall2 := Lib.hid (show (upL (k + 1)).all (fun w => decide (w ∈ F) || decide (w ∈ T)) = true by
                          rw [upL_succ, List.all_append, HallW.out]
                          have : (k : Int) ∈ F ∨ (k : Int) ∈ T := by
                            rcases Nat.eq_zero_or_pos a with h0 | h0
                            · right; exact List.count_pos_iff.1 (by omega)
                            · left; exact List.count_pos_iff.1 (by omega)
                          simpa using this)
                        have hz : ((a : Int) + (b : Int) == 0) = false := by simp; omega
                        clear ha hb
                        go_wp2_with fail
                        go_quiet (fail)
                        go_wp2_with fail
                        go_roundw
                        case rel => exact ⟨k + 1, by omega, by go_num, Hall2, of_.drewN _, ot.drewN _, he.drewN _⟩
                        case measure => simp [intOf]; omega
                    · obtain rfl : k = n := by omega
                      have H := Lib.hid (show R = true by rw [← HR2.out]; show ((upL ((k : Int).toNat)).all _) = true; rw [Int.toNat_natCast]; exact HallW.out)
                      go_wp2
                      go_ret
                      exact ⟨ret_bool H.out.symm, he⟩
        · rw [decide_eq_false h4] at hR
          have HR := Lib.hid hR
          clear hR h1
          go_enter Try.func52, Try.ntmps52
          go_wp2_with fail
          refine (hg _).mono ?_
          rintro e _ ⟨rfl, rfl⟩
          go_wp2
          go_ret
          exact ⟨ret_bool (by rw [← HR.out]; simp), y0⟩
      · rw [decide_eq_false h3] at hR
        have HR := Lib.hid hR
        clear hR h1
        go_enter Try.func52, Try.ntmps52
        go_wp2_with fail
        refine (hg _).mono ?_
        rintro e _ ⟨rfl, rfl⟩
        go_wp2
        go_ret
        exact ⟨ret_bool (by rw [← HR.out]; simp), y0⟩
    · rw [decide_eq_false h2] at hR
      have HR := Lib.hid hR
      clear hR h1
      go_enter Try.func52, Try.ntmps52
      go_wp2_with fail
      refine (hg _).mono ?_
      rintro e _ ⟨rfl, rfl⟩
      go_wp2
      go_ret
      exact ⟨ret_bool (by rw [← HR.out]; simp), y0⟩
  · have h1 : inB 0 100 N = false := by simpa using h1
    rw [h1] at hg hR
    have HR := Lib.hid hR
    clear hR h1
    go_enter Try.func52, Try.ntmps52
    go_wp2_with fail
    refine (hg _).mono ?_
    rintro e _ ⟨rfl, rfl⟩
    go_wp2
    go_ret
    exact ⟨ret_bool (by rw [← HR.out]; simp), y0⟩
end Go.Proofs.Ytgblnkadmieflaa
