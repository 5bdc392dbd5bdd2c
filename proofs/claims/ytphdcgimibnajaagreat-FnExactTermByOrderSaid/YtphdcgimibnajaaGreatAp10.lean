/- Contracts: a valid graph (the reference). Contracts: all lists of a graph are visited; the wires that occur, marked (the program). Contracts: a valid graph (the program). IsAcyclic and EdgeOrder, on both sides. -/
import Derived.Test.YtphdcgimibnajaaGreatAp09
import Derived.Test.YtphdcgimibnajaaGreatAp07
import Derived.Shelf.Abstract
import Derived.Deep.LoopGhost
import Derived.Test.YtphdcgimibnajaaGreatAp08
import Derived.Deep.RegionLaw
namespace Go.Proofs.YtphdcgimibnajaaGreat
set_option maxRecDepth 100000
open Go Go.RowKit
set_option maxHeartbeats 4000000 in
theorem hgValid_c (x : Gr) (E : Option Addr) (ec : Nat) (I : Option Addr) (ic : Nat) (O : Option Addr) (oc : Nat) (w : World) (hE : RdS EE w E x.es) (hI : Rd w I x.ins) (hO : Rd w O x.outs) :
    Calls Tryz.prog 75 #[.agg #[.int .i64 x.wires, .slice E x.es.length ec, .slice I x.ins.length ic, .slice O x.outs.length oc]] w fun e w' => e = .returned (.bool (validB x)) ∧ Ex w w' := by
  obtain ⟨N, es, ins, outs⟩ := x
  dsimp only at hE hI hO ⊢
  have hEl := hE.1
  have hIl := hI.len
  have hOl := hO.len
  have hg := fun W => l1In_c N 0 100 W
  have y0 := (Ex.refl w).alloc (.cells #[.int .i64 N, .slice E es.length ec, .slice I ins.length ic, .slice O outs.length oc] 34)
  have d0 := VB.new w 34 #[.int .i64 N, .slice E es.length ec, .slice I ins.length ic, .slice O outs.length oc]
  obtain ⟨R, hR⟩ : ∃ R, validB ⟨N, es, ins, outs⟩ = R := ⟨_, rfl⟩
  rw [hR]
  simp only [validB, dimB] at hR
  by_cases h1 : inB 0 100 N = true
  · rw [h1] at hg hR
    have hN := inB_bd h1
    obtain ⟨n, rfl⟩ := Int.eq_ofNat_of_zero_le hN.1
    by_cases h2 : es.length ≤ 60
    · by_cases h3 : ins.length ≤ 12
      · by_cases h4 : outs.length ≤ 12
        · rw [decide_eq_true h2, decide_eq_true h3, decide_eq_true h4, Bool.true_and, Bool.true_and, Bool.true_and, Bool.true_and] at hR
          have hi := fun W (x : Ex w W) => l1All_c I ic ins 0 (n - 1) W (hI.ex x)
          have ho := fun W (x : Ex w W) => l1All_c O oc outs 0 (n - 1) W (hO.ex x)
          cases h5 : ins.all (inB 0 ((n : Int) - 1)) with
          | false =>
            rw [h5] at hR hi
            have HR := Lib.hid hR
            clear hR h5 h1
            go_enter Tryz.func75, Tryz.ntmps75
            go_wp2_with fail
            refine (hg _).mono ?_
            rintro e _ ⟨rfl, rfl⟩
            go_wp2_with fail
            refine (hi _ y0).mono ?_
            rintro e _ ⟨rfl, rfl⟩
            go_wp2
            go_ret
            exact ⟨ret_bool (by rw [← HR.out]; rfl), y0⟩
          | true =>
            rw [h5, Bool.true_and] at hR
            rw [h5] at hi
            have hib := fun k hk => all_bd h5 (k := k) hk
            clear h5
            cases h6 : outs.all (inB 0 ((n : Int) - 1)) with
            | false =>
              rw [h6] at hR ho
              have HR := Lib.hid hR
              clear hR h6 h1 hib
              go_enter Tryz.func75, Tryz.ntmps75
              go_wp2_with fail
              refine (hg _).mono ?_
              rintro e _ ⟨rfl, rfl⟩
              go_wp2_with fail
              refine (hi _ y0).mono ?_
              rintro e _ ⟨rfl, rfl⟩
              go_wp2_with fail
              refine (ho _ y0).mono ?_
              rintro e _ ⟨rfl, rfl⟩
              go_wp2
              go_ret
              exact ⟨ret_bool (by rw [← HR.out]; rfl), y0⟩
            | true =>
              rw [h6, Bool.true_and] at hR
              rw [h6] at ho
              have hob := fun k hk => all_bd h6 (k := k) hk
              have HR := Lib.hid hR
              have Hib := Lib.hid hib
              have Hob := Lib.hid hob
              clear h6 h1 hR hib hob
              go_enter Tryz.func75, Tryz.ntmps75
              go_wp2_with fail
              refine (hg _).mono ?_
              rintro e _ ⟨rfl, rfl⟩
              go_wp2_with fail
              refine (hi _ y0).mono ?_
              rintro e _ ⟨rfl, rfl⟩
              go_wp2_with fail
              refine (ho _ y0).mono ?_
              rintro e _ ⟨rfl, rfl⟩
              clear hg hi ho
              generalize w.alloc (.cells #[.int .i64 n, .slice E es.length ec, .slice I ins.length ic, .slice O outs.length oc] 34) = W0 at *
              have q1 := d0.cell 1 (v := .slice E es.length ec) rfl
              go_wp2_with fail
              clear q1
              go_loopw [51] (fun i wr => ∃ k : Nat, k ≤ es.length ∧ i = .int .i64 k ∧ Hid ((es.take k).all (fun e => edK e && e.ins.all (inB 0 ((n : Int) - 1)) && e.outs.all (inB 0 ((n : Int) - 1))) = true) ∧ VB wr w.heap.size 34 #[.int .i64 n, .slice E es.length ec, .slice I ins.length ic, .slice O outs.length oc] ∧ Ex w wr) (fun i _ => es.length - (intOf i).toNat)
              case atStart => exact ⟨0, Nat.zero_le _, rfl, Lib.hid rfl, d0, y0⟩
              case round =>
                obtain ⟨k, hk, rfl, Hall, hd, he⟩ := hrel
                by_cases hlt : k < es.length
                · obtain ⟨g, off, x, P, pc, Q, qc, rfl, hx, c0, c1, c2, c3, hP, hQ⟩ := (hE.ex he).edge hlt
                  have Hx := Lib.hid hx
                  have y3 := (Ex.refl wr).alloc (.cells #[.int .i64 x.kd, .int .i64 x.vl, .slice P x.ins.length pc, .slice Q x.outs.length qc] 69)
                  have v3 := VB.new wr 69 #[.int .i64 x.kd, .int .i64 x.vl, .slice P x.ins.length pc, .slice Q x.outs.length qc]
                  have q0 := (hd.ex y3).cell 0 (v := .int .i64 n) rfl
                  clear hx
                  have hh := fun W (y : Ex wr W) => hgEdge_c x.kd x.vl P pc x.ins Q qc x.outs n W (hP.ex y) (hQ.ex y) (by omega) (by omega)
                  have hd2 := hd.ex y3
                  have he2 := he.trans y3
                  go_wp2_with fail
                  generalize wr.alloc (.cells #[.int .i64 x.kd, .int .i64 x.vl, .slice P x.ins.length pc, .slice Q x.outs.length qc] 69) = W3 at *
                  refine (hh W3 y3).mono ?_
                  rintro e w4 ⟨rfl, x4⟩
                  have hd3 := hd2.ex x4
                  have he3 := he2.trans x4
                  clear hh hd he hd2 he2 c0 c1 c2 c3
                  have HEB := Lib.hid (show (edB x.kd x.vl x.ins.length x.outs.length && x.ins.all (inB 0 ((n : Int) - 1)) && x.outs.all (inB 0 ((n : Int) - 1))) = (edK x && x.ins.all (inB 0 ((n : Int) - 1)) && x.outs.all (inB 0 ((n : Int) - 1))) from rfl)
                  rw [HEB.out]
                  cases hb : (edK x && x.ins.all (inB 0 ((n : Int) - 1)) && x.outs.all (inB 0 ((n : Int) - 1))) with
                  | true =>
                    have Hall2 := Lib.hid (show (es.take (k + 1)).all (fun e => edK e && e.ins.all (inB 0 ((n : Int) - 1)) && e.outs.all (inB 0 ((n : Int) - 1))) = true by rw [List.take_add_one, Hx.out, List.all_append, Hall.out]; simp only [Option.toList_some, List.all_cons, List.all_nil, hb]; rfl)
                    clear hb
                    go_wp2_with fail
                    go_roundw
                    case rel => exact ⟨k + 1, by omega, by go_num, Hall2, hd3, he3⟩
                    case measure => simp [intOf]; omega
                  | false =>
                    have H := Lib.hid (show R = false by
                      rw [← HR.out, List.all_eq_false.2 ⟨x, List.mem_of_getElem? Hx.out, by rw [hb]; decide⟩]; rfl)
                    clear hb
                    go_wp2
                    go_ret
                    exact ⟨ret_bool H.out.symm, he3⟩
                · obtain rfl : k = es.length := by omega
                  have hall := Hall.out
                  rw [List.take_length] at hall
                  have HR2 := Lib.hid (show occB ⟨n, es, ins, outs⟩ = R by rw [← HR.out, hall, Bool.true_and])
                  have hek := fun e (he : e ∈ es) => edRK hall he
                  have l1 := outsL_len (es := es) (fun e he => (hek e he).1)
                  have l2 := insL_len (es := es) (fun e he => (hek e he).1)
                  have hcnt := hgCounts_c n E ec es I ic ins O oc outs wr (hE.ex he) (hI.ex he) (hO.ex he) (by omega) (fun k hk => by
                    rcases List.mem_append.1 hk with hk | hk
                    · have := Hib.out k hk; omega
                    · obtain ⟨e, hee, hke⟩ := mem_outsL hk
                      have := (hek e hee).2.2 k hke; omega) (fun k hk => by
                    rcases List.mem_append.1 hk with hk | hk
                    · have := Hob.out k hk; omega
                    · obtain ⟨e, hee, hke⟩ := mem_insL hk
                      have := (hek e hee).2.1 k hke; omega) (by rw [List.length_append]; omega) (by rw [List.length_append]; omega)
                  clear hall hek
                  have q0 := hd.cell 0 (v := .int .i64 n) rfl
                  have q1 := hd.cell 1 (v := .slice E es.length ec) rfl
                  have q2 := hd.cell 2 (v := .slice I ins.length ic) rfl
                  have q3 := hd.cell 3 (v := .slice O outs.length oc) rfl
                  go_wp2_with fail
                  refine hcnt.mono ?_
                  rintro e w4 ⟨f, t, rfl, hf, hft, of_, ot, x4⟩
                  have he4 := he.trans x4
                  clear hcnt q0 q1 q2 q3 hd he
                  change Own w4 f (cntL n (frL ⟨n, es, ins, outs⟩)) at of_
                  change Own w4 t (cntL n (toWL ⟨n, es, ins, outs⟩)) at ot
                  have b1 : (frL ⟨n, es, ins, outs⟩).length ≤ 1000 := by show (ins ++ outsL es).length ≤ 1000; rw [List.length_append]; omega
                  have b2 : (toWL ⟨n, es, ins, outs⟩).length ≤ 1000 := by show (outs ++ insL es).length ≤ 1000; rw [List.length_append]; omega
                  unfold occB at HR2
                  generalize frL ⟨n, es, ins, outs⟩ = F at *
                  generalize toWL ⟨n, es, ins, outs⟩ = T at *
                  go_wp2_with fail
                  go_loopw [68] (fun i wi => ∃ k : Nat, k ≤ n ∧ i = .int .i64 k ∧ Hid ((upL k).all (fun w => decide (w ∈ F) || decide (w ∈ T)) = true) ∧ Own wi f (cntL n F) ∧ Own wi t (cntL n T) ∧ Ex w wi) (fun i _ => n - (intOf i).toNat)
                  case atStart => exact ⟨0, Nat.zero_le _, rfl, Lib.hid rfl, of_, ot, he4⟩
                  case round =>
                    clear of_ ot he4 x4
                    obtain ⟨k, hk, rfl, HallW, of_, ot, he⟩ := hrel
                    by_cases hlt : k < n
                    · have c1 := of_.cell (cntL_at (l := F) hlt)
                      have c2 := ot.cell (cntL_at (l := T) hlt)
                      have e1 := cnt_le F (k : Int)
                      have e2 := cnt_le T (k : Int)
                      obtain ⟨a, ha⟩ : ∃ a, List.count (k : Int) F = a := ⟨_, rfl⟩
                      obtain ⟨b, hb⟩ : ∃ b, List.count (k : Int) T = b := ⟨_, rfl⟩
                      rw [ha] at c1 e1
                      rw [hb] at c2 e2
                      by_cases hab : a + b = 0
                      · have H := Lib.hid (show R = false by
                          have ha0 : (k : Int) ∉ F := List.count_eq_zero.1 (by omega)
                          have hb0 : (k : Int) ∉ T := List.count_eq_zero.1 (by omega)
                          rw [← HR2.out, List.all_eq_false.2 ⟨(k : Int), List.mem_of_getElem? (upL_at (by simpa using hlt)), by simp [ha0, hb0]⟩])
                        have hz : ((a : Int) + (b : Int) == 0) = true := by simp; omega
                        clear ha hb
                        go_wp2_with fail
                        go_quiet (fail)
                        go_wp2_with fail
                        go_ret
                        exact ⟨ret_bool H.out.symm, he.drewN _⟩
                      · have Hall2 := Lib.hid (show (upL (k + 1)).all (fun w => decide (w ∈ F) || decide (w ∈ T)) = true by
                          rw [upL_succ, List.all_append, HallW.out]
                          have : (k : Int) ∈ F ∨ (k : Int) ∈ T := by
                            rcases Nat.eq_zero_or_pos a with h0 | h0
                            · right; exact List.count_pos_iff.1 (by omega)
                            · left; exact List.count_pos_iff.1 (by omega)
                          simpa using this)
                        have hz : ((a : Int) + (b : Int) == 0) = false := by simp; omega
                        clear ha hb
                        go_wp2_with fail
                        go_quiet (fail)
                        go_wp2_with fail
                        go_roundw
                        case rel => exact ⟨k + 1, by omega, by go_num, Hall2, of_.drewN _, ot.drewN _, he.drewN _⟩
                        case measure => simp [intOf]; omega
                    · obtain rfl : k = n := by omega
                      have H := Lib.hid (show R = true by rw [← HR2.out]; show ((upL ((k : Int).toNat)).all _) = true; rw [Int.toNat_natCast]; exact HallW.out)
                      go_wp2
                      go_ret
                      exact ⟨ret_bool H.out.symm, he⟩
        · rw [decide_eq_false h4] at hR
          have HR := Lib.hid hR
          clear hR h1
          go_enter Tryz.func75, Tryz.ntmps75
          go_wp2_with fail
          refine (hg _).mono ?_
          rintro e _ ⟨rfl, rfl⟩
          go_wp2
          go_ret
          exact ⟨ret_bool (by rw [← HR.out]; simp), y0⟩
      · rw [decide_eq_false h3] at hR
        have HR := Lib.hid hR
        clear hR h1
        go_enter Tryz.func75, Tryz.ntmps75
        go_wp2_with fail
        refine (hg _).mono ?_
        rintro e _ ⟨rfl, rfl⟩
        go_wp2
        go_ret
        exact ⟨ret_bool (by rw [← HR.out]; simp), y0⟩
    · rw [decide_eq_false h2] at hR
      have HR := Lib.hid hR
      clear hR h1
      go_enter Tryz.func75, Tryz.ntmps75
      go_wp2_with fail
      refine (hg _).mono ?_
      rintro e _ ⟨rfl, rfl⟩
      go_wp2
      go_ret
      exact ⟨ret_bool (by rw [← HR.out]; simp), y0⟩
  · have h1 : inB 0 100 N = false := by simpa using h1
    rw [h1] at hg hR
    have HR := Lib.hid hR
    clear hR h1
    go_enter Tryz.func75, Tryz.ntmps75
    go_wp2_with fail
    refine (hg _).mono ?_
    rintro e _ ⟨rfl, rfl⟩
    go_wp2
    go_ret
    exact ⟨ret_bool (by rw [← HR.out]; simp), y0⟩
end Go.Proofs.YtphdcgimibnajaaGreat
namespace Go.Proofs.YtphdcgimibnajaaGreat
set_option maxRecDepth 100000
open Go Go.RowKit
set_option maxHeartbeats 4000000 in
theorem lists_c (a b : Nat) (w : World) (ha : w.heap.size ≤ a) (N : Int) (E : Option Addr) (ec : Nat) (es : List Ed) (I : Option Addr) (ic : Nat) (ins : List Int) (O : Option Addr) (oc : Nat) (outs : List Int) (hE : RdS EE w E es) (hI : Rd w I ins) (hO : Rd w O outs) (h1 : ins.length ≤ 12) (h2 : outs.length ≤ 12) (h3 : ∀ e ∈ es, e.ins.length ≤ 12 ∧ e.outs.length ≤ 12)
    (g : FuncId) (eg : ∀ args w, (callFunc g args).run Tryz.prog w = .ok (.enter g args) w) (lb : Array Value) (Inv : List Int → World → Prop) (hm : ∀ l W W', Inv l W → Ex W W' → Inv l W')
    (hf : ∀ (l : List Int) (W : World) (A : Option Addr) (c : Nat) (xs : List Int), Inv l W → Ex w W → Rd w A xs → xs.length ≤ 12 → Calls Tryz.prog g (#[.slice A xs.length c] ++ lb) W fun e W' => e = .returned (.tuple #[]) ∧ Inv (l ++ xs) W' ∧ ExI a b W W') (l0 : List Int) (w0 : World) (hb : b ≤ w0.heap.size) (hw : Ex w w0) (h0 : Inv l0 w0) :
    Calls Tryz.prog 103 #[.agg #[.int .i64 N, .slice E es.length ec, .slice I ins.length ic, .slice O outs.length oc], .func (.func g) #[] lb] w0 fun e w' => e = .returned (.tuple #[]) ∧ Inv (l0 ++ ins ++ outs ++ bothL es) w' ∧ ExI a b w0 w' := by
  have hEl := hE.1
  have hIl := hI.len
  have hOl := hO.len
  have y0 := (Ex.refl w0).alloc (.cells #[.int .i64 N, .slice E es.length ec, .slice I ins.length ic, .slice O outs.length oc] 34)
  have d0 := VB.new w0 34 #[.int .i64 N, .slice E es.length ec, .slice I ins.length ic, .slice O outs.length oc]
  have H3 := Lib.hid h3
  clear h3
  go_enter Tryz.func103, Tryz.ntmps103
  go_wp2_with fail
  generalize w0.alloc (.cells #[.int .i64 N, .slice E es.length ec, .slice I ins.length ic, .slice O outs.length oc] 34) = W0 at *
  have hw0 := hw.trans y0
  have z0 := y0.size
  refine (hf l0 W0 I ic ins (hm _ _ _ h0 y0) hw0 hI h1).mono ?_
  rintro e w1 ⟨rfl, i1, k1⟩
  have d1 := d0.iv k1 (.inr hb)
  have hw1 := hw0.iv k1 ha
  have z1 := k1.size
  have q := d1.cell 3 (v := .slice O outs.length oc) rfl
  go_wp2_with fail
  clear q
  refine (hf _ w1 O oc outs i1 hw1 hO h2).mono ?_
  rintro e w2 ⟨rfl, i2, k2⟩
  have d2 := d1.iv k2 (.inr hb)
  have hw2 := hw1.iv k2 ha
  have z2 := k2.size
  have kk : ExI a b w0 w2 := ((ExI.of_ex y0).trans k1).trans k2
  have q := d2.cell 1 (v := .slice E es.length ec) rfl
  have e0 : bothL ([] : List Ed) = [] := rfl
  rw [← List.append_nil (l0 ++ ins ++ outs), ← e0] at i2
  go_wp2_with fail
  clear q e0 d0 d1 hw0 hw1 i1 k1 k2
  go_loopw [17] (fun i wr => ∃ k : Nat, k ≤ es.length ∧ i = .int .i64 k ∧ Inv (l0 ++ ins ++ outs ++ bothL (es.take k)) wr ∧ ExI a b w0 wr ∧ Ex w wr) (fun i _ => es.length - (intOf i).toNat)
  case atStart => exact ⟨0, Nat.zero_le _, rfl, i2, kk, hw2⟩
  case round =>
    obtain ⟨k, hk, rfl, hi, hk0, he⟩ := hrel
    by_cases hlt : k < es.length
    · obtain ⟨g', off, x, P, pc, Q, qc, rfl, hx, c0, c1, c2, c3, hP, hQ⟩ := hE.edge hlt
      replace c0 := cell_ex he c0
      replace c1 := cell_ex he c1
      replace c2 := cell_ex he c2
      replace c3 := cell_ex he c3
      have Hx := Lib.hid hx
      have hln := H3.out x (List.mem_of_getElem? hx)
      clear hx
      have y3 := (Ex.refl wr).alloc (.cells #[.int .i64 x.kd, .int .i64 x.vl, .slice P x.ins.length pc, .slice Q x.outs.length qc] 69)
      have v3 := VB.new wr 69 #[.int .i64 x.kd, .int .i64 x.vl, .slice P x.ins.length pc, .slice Q x.outs.length qc]
      have hz := hk0.size
      have hPl := hP.len
      have hQl := hQ.len
      go_wp2_with fail
      have hcall := hf _ _ P pc x.ins (hm _ _ _ hi y3) (he.trans y3) hP hln.1
      have he3 := he.trans y3
      have kk3 := hk0.trans (ExI.of_ex y3)
      clear c0 c1 c2 c3 y3 hi hk0 he
      generalize wr.alloc (.cells #[.int .i64 x.kd, .int .i64 x.vl, .slice P x.ins.length pc, .slice Q x.outs.length qc] 69) = W3 at *
      refine hcall.mono ?_
      rintro e w4 ⟨rfl, i4, k4⟩
      have v4 := v3.iv k4 (.inr (by omega))
      have he4 := he3.iv k4 ha
      have kk4 := kk3.trans k4
      clear hcall v3 he3 kk3 k4
      have q3 := v4.cell 3 (v := .slice Q x.outs.length qc) rfl
      go_wp2_with fail
      refine (hf _ _ Q qc x.outs i4 he4 hQ hln.2).mono ?_
      rintro e w5 ⟨rfl, i5, k5⟩
      rw [List.append_assoc, List.append_assoc, ← List.append_assoc (bothL _), List.append_assoc (bothL _), ← bothL_snoc Hx.out] at i5
      have he5 := he4.iv k5 ha
      have kk5 := kk4.trans k5
      clear q3 v4 he4 kk4 i4
      go_wp2_with fail
      go_roundw
      case rel => exact ⟨k + 1, by omega, by go_num, i5, kk5, he5⟩
      case measure => simp [intOf]; omega
    · obtain rfl : k = es.length := by omega
      rw [List.take_length] at hi
      go_wp2
      go_end0
      exact ⟨rfl, hi, hk0⟩
/-- What the boxes of isGraph hold when the lists of l have been visited. -/
def Seen (bg q bs bc sb n : Nat) (gc : Array Value) (l : List Int) (W : World) : Prop :=
  VB W bg 34 gc ∧ VB W q 4 #[.bool (l.all (inB 0 ((n : Int) - 1)))] ∧ VB W bs 76 #[.slice (some ⟨sb, 0, none⟩) n n] ∧ VB W bc 3 #[.int .i64 ((seenL n l).count true : Nat)] ∧ VB W sb 4 (bObj (seenL n l))
theorem Seen.ex {bg q bs bc sb n : Nat} {gc : Array Value} {l : List Int} {W W' : World} (h : Seen bg q bs bc sb n gc l W) (he : Ex W W') : Seen bg q bs bc sb n gc l W' :=
  ⟨h.1.ex he, h.2.1.ex he, h.2.2.1.ex he, h.2.2.2.1.ex he, h.2.2.2.2.ex he⟩
set_option maxHeartbeats 4000000 in
theorem mark1_c (a b bg q bs bc sb n : Nat) (gc : Array Value) (hgc : gc[0]? = some (.int .i64 n)) (hn : n ≤ 100) (h1 : bg ≠ q ∧ bg ≠ bc ∧ bg ≠ sb ∧ q ≠ bs ∧ q ≠ bc ∧ q ≠ sb ∧ bs ≠ bc ∧ bs ≠ sb ∧ bc ≠ sb) (h2 : a ≤ q ∧ q < b ∧ a ≤ bc ∧ bc < b ∧ a ≤ sb ∧ sb < b)
    (w : World) (hwa : w.heap.size ≤ a) (l : List Int) (W : World) (A : Option Addr) (c : Nat) (xs : List Int) (hS : Seen bg q bs bc sb n gc l W) (hw : Ex w W) (hR : Rd w A xs) :
    Calls Tryz.prog 104 #[.slice A xs.length c, .pointer (some ⟨bg, 0, none⟩), .pointer (some ⟨q, 0, none⟩), .pointer (some ⟨bs, 0, none⟩), .pointer (some ⟨bc, 0, none⟩)] W fun e W' => e = .returned (.tuple #[]) ∧ Seen bg q bs bc sb n gc (l ++ xs) W' ∧ ExI a b W W' := by
  have hxl := hR.len
  rw [← List.append_nil l] at hS
  go_enter Tryz.func104, Tryz.ntmps104
  go_wp2_with fail
  go_loopw [10] (fun i wr => ∃ j : Nat, j ≤ xs.length ∧ i = .int .i64 j ∧ Seen bg q bs bc sb n gc (l ++ xs.take j) wr ∧ ExI a b W wr) (fun i _ => xs.length - (intOf i).toNat)
  case atStart => exact ⟨0, Nat.zero_le _, rfl, hS, ExI.refl _ _ _⟩
  case round =>
    clear hS
    obtain ⟨j, hj, rfl, ⟨sg, sq, ss, sc, sv⟩, hI⟩ := hrel
    by_cases hlt : j < xs.length
    · obtain ⟨g', off, x, rfl, hx, hg', hc'⟩ := (hR.ex (hw.iv hI hwa)).at_ hlt
      have c0 := sg.cell 0 (v := .int .i64 n) hgc
      have Htk := Lib.hid (show l ++ xs.take (j + 1) = (l ++ xs.take j) ++ [x] by rw [List.take_add_one, hx, List.append_assoc]; rfl)
      clear hx
      have hwi := fun W => within_c x 0 ((n : Int) - 1) W
      generalize l ++ xs.take j = L at *
      go_wp2_with fail
      refine (hwi _).mono ?_
      rintro e _ ⟨rfl, rfl⟩
      cases hr : inB 0 ((n : Int) - 1) x with
      | false =>
        have q0 := sq.cell 0 (v := .bool (L.all (inB 0 ((n : Int) - 1)))) rfl
        have f0 := sq.frozen 0
        have sq2 := sq.set_ 0 (.bool false)
        have E1 : Ex1 q wr (wr.setCell ⟨q, 0, none⟩ (.bool false)) := (Ex1.refl _ _).setCell rfl _
        have sg2 := sg.ex1 E1 (by omega)
        have ss2 := ss.ex1 E1 (by omega)
        have sc2 := sc.ex1 E1 (by omega)
        have sv2 := sv.ex1 E1 (by omega)
        have e1 : (L ++ [x]).all (inB 0 ((n : Int) - 1)) = false := by simp [hr]
        have e2 := seenL_out n L hr
        have HS : Seen bg q bs bc sb n gc (l ++ xs.take (j + 1)) (wr.setCell ⟨q, 0, none⟩ (.bool false)) := by
          rw [Htk.out]
          refine ⟨sg2, ?_, ss2, ?_, ?_⟩
          · rw [e1]; exact sq2
          · rw [e2]; exact sc2
          · rw [e2]; exact sv2
        have hI2 := hI.trans ((ExI.of_ex1 E1).widen (a' := a) (b' := b) (by omega) (by omega))
        clear hr e1 e2 sg2 sq2 ss2 sc2 sv2 E1 sg ss sc sv hI
        go_wp2_with fail
        go_roundw
        case rel => exact ⟨j + 1, by omega, by go_num, HS, hI2⟩
        case measure => simp [intOf]; omega
      | true =>
        have hb := inB_bd hr
        obtain ⟨k, rfl⟩ := Int.eq_ofNat_of_zero_le hb.1
        have hkn : k < n := by omega
        have e1 : (L ++ [(k : Int)]).all (inB 0 ((n : Int) - 1)) = L.all (inB 0 ((n : Int) - 1)) := by simp [hr]
        have e2 := seenL_in n L k
        have hl := seenL_len n L
        have hcl : (seenL n L).count true ≤ n := by have := List.count_le_length (a := true) (l := seenL n L); omega
        have hat := seenL_at (l := L) hkn
        have q1 := ss.cell 0 (v := .slice (some ⟨sb, 0, none⟩) n n) rfl
        clear hr
        obtain ⟨bb, hbb⟩ : ∃ bb, decide ((k : Int) ∈ L) = bb := ⟨_, rfl⟩
        rw [hbb] at hat
        clear hbb
        have q2 := sv.bcell hat
        cases bb with
        | true =>
          rw [set_self hat] at e2
          have HS : Seen bg q bs bc sb n gc (l ++ xs.take (j + 1)) wr := by
            rw [Htk.out]
            refine ⟨sg, ?_, ss, ?_, ?_⟩
            · rw [e1]; exact sq
            · rw [e2]; exact sc
            · rw [e2]; exact sv
          clear e1 e2 hat sg ss sc sv
          go_wp2_with fail
          go_roundw
          case rel => exact ⟨j + 1, by omega, by go_num, HS, hI⟩
          case measure => simp [intOf]; omega
        | false =>
          have e3 := count_up hat
          rw [← e2] at e3
          have q3 := sc.cell 0 (v := .int .i64 ((seenL n L).count true : Nat)) rfl
          have f1 := sv.frozen k
          have sv2 := sv.bset k true
          rw [← e2] at sv2
          have E1 : Ex1 sb wr (wr.setCell ⟨sb, k, none⟩ (.bool true)) := (Ex1.refl _ _).setCell rfl _
          have sc1 := sc.ex1 E1 (by omega)
          have q4 := sc1.cell 0 (v := .int .i64 ((seenL n L).count true : Nat)) rfl
          have f2 := sc1.frozen 0
          have sc2 := sc1.set_ 0 (.int .i64 (((seenL n L).count true : Nat) + 1))
          have E2 : Ex1 bc (wr.setCell ⟨sb, k, none⟩ (.bool true)) ((wr.setCell ⟨sb, k, none⟩ (.bool true)).setCell ⟨bc, 0, none⟩ (.int .i64 (((seenL n L).count true : Nat) + 1))) := (Ex1.refl _ _).setCell rfl _
          have HS : Seen bg q bs bc sb n gc (l ++ xs.take (j + 1)) ((wr.setCell ⟨sb, k, none⟩ (.bool true)).setCell ⟨bc, 0, none⟩ (.int .i64 (((seenL n L).count true : Nat) + 1))) := by
            rw [Htk.out]
            refine ⟨(sg.ex1 E1 (by omega)).ex1 E2 (by omega), ?_, (ss.ex1 E1 (by omega)).ex1 E2 (by omega), ?_, sv2.ex1 E2 (by omega)⟩
            · rw [e1]; exact (sq.ex1 E1 (by omega)).ex1 E2 (by omega)
            · rw [e3]; exact sc2
          have hI2 := (hI.trans ((ExI.of_ex1 E1).widen (a' := a) (b' := b) (by omega) (by omega))).trans ((ExI.of_ex1 E2).widen (a' := a) (b' := b) (by omega) (by omega))
          clear e1 e2 e3 hat sg ss sc sv sc1 sc2 sv2 E1 E2 hl
          generalize hcc : List.count true (seenL n L) = cc at *
          clear hcc
          go_wp2_with fail
          go_roundw
          case rel => exact ⟨j + 1, by omega, by go_num, HS, hI2⟩
          case measure => simp [intOf]; omega
    · obtain rfl : j = xs.length := by omega
      rw [List.take_length] at sq sc sv
      go_wp2
      go_end0
      exact ⟨rfl, ⟨sg, sq, ss, sc, sv⟩, hI⟩
end Go.Proofs.YtphdcgimibnajaaGreat
namespace Go.Proofs.YtphdcgimibnajaaGreat
set_option maxRecDepth 100000
open Go Go.RowKit
theorem enters_isGraph1 : ∀ args w, (callFunc 104 args).run Tryz.prog w = .ok (.enter 104 args) w := enters_of Tryz.func104 (by kernel_rfl) rfl
set_option maxHeartbeats 4000000 in
theorem isGraph_c (x : Gr) (E : Option Addr) (ec : Nat) (I : Option Addr) (ic : Nat) (O : Option Addr) (oc : Nat) (w : World) (hE : RdS EE w E x.es) (hI : Rd w I x.ins) (hO : Rd w O x.outs) :
    Calls Tryz.prog 85 #[.agg #[.int .i64 x.wires, .slice E x.es.length ec, .slice I x.ins.length ic, .slice O x.outs.length oc]] w fun e w' => e = .returned (.bool (validB x)) ∧ Ex w w' := by
  obtain ⟨N, es, ins, outs⟩ := x
  dsimp only at hE hI hO ⊢
  have hEl := hE.1
  have hIl := hI.len
  have hOl := hO.len
  have hg := fun W => within_c N 0 100 W
  have y0 := (Ex.refl w).alloc (.cells #[.int .i64 N, .slice E es.length ec, .slice I ins.length ic, .slice O outs.length oc] 34)
  have d0 := VB.new w 34 #[.int .i64 N, .slice E es.length ec, .slice I ins.length ic, .slice O outs.length oc]
  have S0 := Lib.hid (show (w.alloc (.cells #[.int .i64 N, .slice E es.length ec, .slice I ins.length ic, .slice O outs.length oc] 34)).heap.size = w.heap.size + 1 by simp)
  cases hd : dimB ⟨N, es, ins, outs⟩ with
  | false =>
    have H := Lib.hid (show validB ⟨N, es, ins, outs⟩ = false by simp [validB, hd])
    simp only [dimB] at hd
    cases h1 : inB 0 100 N with
    | false =>
      rw [h1] at hg
      clear hd h1
      go_enter Tryz.func85, Tryz.ntmps85
      go_wp2_with fail
      refine (hg _).mono ?_
      rintro e _ ⟨rfl, rfl⟩
      go_wp2
      go_ret
      exact ⟨ret_bool (by rw [H.out]), y0⟩
    | true =>
      rw [h1, Bool.true_and] at hd
      rw [h1] at hg
      clear h1
      have hd' : 60 < es.length ∨ 12 < ins.length ∨ 12 < outs.length := by
        simp only [Bool.and_eq_false_iff, decide_eq_false_iff_not] at hd
        omega
      have hb : (decide (60 < (es.length : Int)) || decide (12 < (ins.length : Int)) || decide (12 < (outs.length : Int))) = true := by
        simp only [Bool.or_eq_true, decide_eq_true_eq]; omega
      clear hd
      go_enter Tryz.func85, Tryz.ntmps85
      go_wp2_with fail
      refine (hg _).mono ?_
      rintro e _ ⟨rfl, rfl⟩
      go_wp2
      all_goals go_ret
      all_goals exact ⟨ret_bool (by rw [H.out]), y0⟩
  | true =>
    have hp : 0 ≤ N ∧ N ≤ 100 ∧ es.length ≤ 60 ∧ ins.length ≤ 12 ∧ outs.length ≤ 12 := by
      have := hd
      simp only [dimB, inB, Bool.and_eq_true, decide_eq_true_eq] at this
      omega
    obtain ⟨p0, p1, p2, p3, p4⟩ := hp
    obtain ⟨n, rfl⟩ := Int.eq_ofNat_of_zero_le p0
    have Hd := Lib.hid hd
    rw [show inB 0 100 (n : Int) = true by simp [inB]; omega] at hg
    have hmk := fun W => run_make_bools n (by omega) W
    clear hd
    go_enter Tryz.func85, Tryz.ntmps85
    go_wp2_with fail
    refine (hg _).mono ?_
    rintro e _ ⟨rfl, rfl⟩
    clear hg
    go_wp2_with fail
    generalize w.alloc (.cells #[.int .i64 n, .slice E es.length ec, .slice I ins.length ic, .slice O outs.length oc] 34) = W0 at *
    go_loopw [33] (fun i wr => ∃ k : Nat, k ≤ es.length ∧ i = .int .i64 k ∧ Hid ((es.take k).all edK = true) ∧ VB wr w.heap.size 34 #[.int .i64 n, .slice E es.length ec, .slice I ins.length ic, .slice O outs.length oc] ∧ Ex w wr) (fun i _ => es.length - (intOf i).toNat)
    case atStart => exact ⟨0, Nat.zero_le _, rfl, Lib.hid rfl, d0, y0⟩
    case round =>
      obtain ⟨k, hk, rfl, Hall, hd, he⟩ := hrel
      by_cases hlt : k < es.length
      · obtain ⟨g, off, x, P, pc, Q, qc, rfl, hx, c0, c1, c2, c3, hP, hQ⟩ := (hE.ex he).edge hlt
        have Hx := Lib.hid hx
        have y3 := (Ex.refl wr).alloc (.cells #[.int .i64 x.kd, .int .i64 x.vl, .slice P x.ins.length pc, .slice Q x.outs.length qc] 69)
        clear hx
        have hh := fun W => isEdge_c x.kd x.vl P x.ins.length pc Q x.outs.length qc W hP.len hQ.len
        have hd2 := hd.ex y3
        have he2 := he.trans y3
        go_wp2_with fail
        generalize wr.alloc (.cells #[.int .i64 x.kd, .int .i64 x.vl, .slice P x.ins.length pc, .slice Q x.outs.length qc] 69) = W3 at *
        refine (hh W3).mono ?_
        rintro e w4 ⟨rfl, x4⟩
        have hd3 := hd2.ex x4
        have he3 := he2.trans x4
        clear hh hd he hd2 he2 c0 c1 c2 c3
        rw [show edB x.kd x.vl x.ins.length x.outs.length = edK x from rfl]
        cases hb : edK x with
        | true =>
          have Hall2 := Lib.hid (show (es.take (k + 1)).all edK = true by rw [List.take_add_one, Hx.out, List.all_append, Hall.out]; simp [hb])
          clear hb
          go_wp2_with fail
          go_roundw
          case rel => exact ⟨k + 1, by omega, by go_num, Hall2, hd3, he3⟩
          case measure => simp [intOf]; omega
        | false =>
          have H := Lib.hid (validB_bad (x := ⟨n, es, ins, outs⟩) (List.mem_of_getElem? Hx.out) hb)
          clear hb
          go_wp2
          go_ret
          exact ⟨ret_bool H.out.symm, he3⟩
      · obtain rfl : k = es.length := by omega
        have hall := Hall.out
        rw [List.take_length] at hall
        have HV := Lib.hid (validB_seen Hd.out hall)
        have hlen := fun e he => edK_len (List.all_eq_true.1 hall e he)
        have HL := Lib.hid hlen
        clear hall hlen
        have q0 := hd.cell 0 (v := .int .i64 n) rfl
        have yy := ((((Ex.refl wr).alloc (.cells (bObj (List.replicate n false)) 4)).alloc (.cells #[.slice (some ⟨wr.heap.size, 0, none⟩) n n] 76)).alloc (.cells #[.bool true] 4)).alloc (.cells #[.int .i64 0] 3)
        have r0 := (hd.ex yy).cell 0 (v := .int .i64 n) rfl
        have r1 := (hd.ex yy).cell 1 (v := .slice E es.length ec) rfl
        have r2 := (hd.ex yy).cell 2 (v := .slice I ins.length ic) rfl
        have r3 := (hd.ex yy).cell 3 (v := .slice O outs.length oc) rfl
        have u1 := VB.new wr 4 (bObj (List.replicate n false))
        have z1 := Lib.hid (show (wr.alloc (.cells (bObj (List.replicate n false)) 4)).heap.size = wr.heap.size + 1 by simp)
        have u2 := VB.new (wr.alloc (.cells (bObj (List.replicate n false)) 4)) 76 #[.slice (some ⟨wr.heap.size, 0, none⟩) n n]
        rw [z1.out] at u2
        have z2 := Lib.hid (show ((wr.alloc (.cells (bObj (List.replicate n false)) 4)).alloc (.cells #[.slice (some ⟨wr.heap.size, 0, none⟩) n n] 76)).heap.size = wr.heap.size + 1 + 1 by simp)
        have u3 := VB.new ((wr.alloc (.cells (bObj (List.replicate n false)) 4)).alloc (.cells #[.slice (some ⟨wr.heap.size, 0, none⟩) n n] 76)) 4 #[.bool true]
        rw [z2.out] at u3
        have z3 := Lib.hid (show (((wr.alloc (.cells (bObj (List.replicate n false)) 4)).alloc (.cells #[.slice (some ⟨wr.heap.size, 0, none⟩) n n] 76)).alloc (.cells #[.bool true] 4)).heap.size = wr.heap.size + 1 + 1 + 1 by simp)
        have u4 := VB.new (((wr.alloc (.cells (bObj (List.replicate n false)) 4)).alloc (.cells #[.slice (some ⟨wr.heap.size, 0, none⟩) n n] 76)).alloc (.cells #[.bool true] 4)) 3 #[.int .i64 0]
        rw [z3.out] at u4
        have z4 : ((((wr.alloc (.cells (bObj (List.replicate n false)) 4)).alloc (.cells #[.slice (some ⟨wr.heap.size, 0, none⟩) n n] 76)).alloc (.cells #[.bool true] 4)).alloc (.cells #[.int .i64 0] 3)).heap.size = wr.heap.size + 1 + 1 + 1 + 1 := by simp
        have hS : Seen w.heap.size (wr.heap.size + 1 + 1) (wr.heap.size + 1) (wr.heap.size + 1 + 1 + 1) wr.heap.size n #[.int .i64 n, .slice E es.length ec, .slice I ins.length ic, .slice O outs.length oc] [] ((((wr.alloc (.cells (bObj (List.replicate n false)) 4)).alloc (.cells #[.slice (some ⟨wr.heap.size, 0, none⟩) n n] 76)).alloc (.cells #[.bool true] 4)).alloc (.cells #[.int .i64 0] 3)) := by
          refine ⟨hd.ex yy, u3.ex ((Ex.refl _).alloc _), u2.ex (((Ex.refl _).alloc _).alloc _), ?_, ?_⟩
          · rw [seenL_nil, List.count_replicate]; exact u4
          · rw [seenL_nil]; exact u1.ex ((((Ex.refl _).alloc _).alloc _).alloc _)
        have hsz := he.size
        have hdl := hd.lt
        go_wp2_with fail
        generalize ((((wr.alloc (.cells (bObj (List.replicate n false)) 4)).alloc (.cells #[.slice (some ⟨wr.heap.size, 0, none⟩) n n] 76)).alloc (.cells #[.bool true] 4)).alloc (.cells #[.int .i64 0] 3)) = W4 at *
        clear u1 u2 u3 u4 z1 z2 z3 r0 r1 r2 r3 q0
        have he4 := he.trans yy
        refine (lists_c wr.heap.size (wr.heap.size + 1 + 1 + 1 + 1) w hsz n E ec es I ic ins O oc outs hE hI hO p3 p4 (fun e he => by have := HL.out e he; omega)
          104 enters_isGraph1 #[.pointer (some ⟨w.heap.size, 0, none⟩), .pointer (some ⟨wr.heap.size + 1 + 1, 0, none⟩), .pointer (some ⟨wr.heap.size + 1, 0, none⟩), .pointer (some ⟨wr.heap.size + 1 + 1 + 1, 0, none⟩)]
          (Seen w.heap.size (wr.heap.size + 1 + 1) (wr.heap.size + 1) (wr.heap.size + 1 + 1 + 1) wr.heap.size n #[.int .i64 n, .slice E es.length ec, .slice I ins.length ic, .slice O outs.length oc])
          (fun l W W' h x => h.ex x)
          (fun l W A c xs h x hR _ => mark1_c wr.heap.size (wr.heap.size + 1 + 1 + 1 + 1) _ _ _ _ _ n _ rfl (by omega) (by omega) (by omega) w hsz l W A c xs h x hR) [] W4 (by omega) he4 hS).mono ?_
        rintro e w5 ⟨rfl, ⟨sg, sq, ss, sc, sv⟩, k5⟩
        rw [List.nil_append] at sq sc
        have he5 := he4.iv k5 hsz
        have q1 := sq.cell 0 (v := .bool ((ins ++ outs ++ bothL es).all (inB 0 ((n : Int) - 1)))) rfl
        have q2 := sc.cell 0 (v := .int .i64 ((seenL n (ins ++ outs ++ bothL es)).count true : Nat)) rfl
        have q3 := sg.cell 0 (v := .int .i64 n) rfl
        clear hS k5 he4 yy sq sc sv ss sg
        generalize ins ++ outs ++ bothL es = L at *
        obtain ⟨ok, hok⟩ : ∃ ok, L.all (inB 0 ((n : Int) - 1)) = ok := ⟨_, rfl⟩
        obtain ⟨cc, hcc⟩ : ∃ cc, List.count true (seenL n L) = cc := ⟨_, rfl⟩
        have HV := HV.out
        rw [hok] at q1 HV
        rw [hcc] at q2 HV
        have HV := Lib.hid HV
        clear hok hcc
        cases ok with
        | true =>
          go_wp2
          all_goals go_ret
          all_goals exact ⟨ret_bool (by rw [HV.out]; first | rfl | simp), he5⟩
        | false =>
          go_wp2
          all_goals go_ret
          all_goals exact ⟨ret_bool (by rw [HV.out]; first | rfl | simp), he5⟩
end Go.Proofs.YtphdcgimibnajaaGreat
namespace Go.Proofs.YtphdcgimibnajaaGreat
set_option maxRecDepth 100000
open Go Go.RowKit
theorem validB_es {x : Gr} (h : validB x = true) : x.es.length ≤ 60 := by
  simp only [validB, dimB, Bool.and_eq_true, decide_eq_true_eq] at h
  omega
theorem acyB_es {x : Gr} (h : acyB x = true) : x.es.length ≤ 60 := by
  simp only [acyB, Bool.and_eq_true] at h
  exact validB_es h.1
set_option maxHeartbeats 2000000 in
theorem isAcyclic_c (x : Gr) (v0 v1 v2 : Value) (w : World) (h : RGr w v0 v1 v2 x) :
    Calls Tryz.prog 50 #[.agg #[.int .i64 x.wires, v0, v1, v2]] w fun e w' => e = .returned (.bool (acyB x)) ∧ Ex w w' := by
  obtain ⟨⟨⟨E, ec, rfl, hE⟩, _⟩, ⟨I, ic, rfl, hI⟩, ⟨O, oc, rfl, hO⟩⟩ := h
  have hEl := hE.1
  have hl := orderL_len x.es
  have x0 := (Ex.refl w).alloc (.cells #[.int .i64 x.wires, .slice E x.es.length ec, .slice I x.ins.length ic, .slice O x.outs.length oc] 34)
  have d0 := VB.new w 34 #[.int .i64 x.wires, .slice E x.es.length ec, .slice I x.ins.length ic, .slice O x.outs.length oc]
  go_enter Tryz.func50, Tryz.ntmps50
  go_wp2_with fail
  generalize w.alloc (.cells #[.int .i64 x.wires, .slice E x.es.length ec, .slice I x.ins.length ic, .slice O x.outs.length oc] 34) = W0 at *
  have q0 := d0.cell 0 (v := .int .i64 x.wires) rfl
  have q1 := d0.cell 1 (v := .slice E x.es.length ec) rfl
  have q2 := d0.cell 2 (v := .slice I x.ins.length ic) rfl
  have q3 := d0.cell 3 (v := .slice O x.outs.length oc) rfl
  have HS : ∀ W, Ex W0 W → (Ex W0 W ∧ W.cell? ⟨w.heap.size, 0, none⟩ = some (.int .i64 x.wires) ∧ W.cell? ⟨w.heap.size, 1, none⟩ = some (.slice E x.es.length ec) ∧ W.cell? ⟨w.heap.size, 2, none⟩ = some (.slice I x.ins.length ic) ∧ W.cell? ⟨w.heap.size, 3, none⟩ = some (.slice O x.outs.length oc)) := fun W h => ⟨h, cell_ex h q0, cell_ex h q1, cell_ex h q2, cell_ex h q3⟩
  have eA := (Ex.refl W0).drew
  have hv := fun W (y : Ex W0 W) => isGraph_c x E ec I ic O oc W (hE.ex (x0.trans y)) (hI.ex (x0.trans y)) (hO.ex (x0.trans y))
  cases hb : validB x with
  | false =>
    rw [hb] at hv
    have H := Lib.hid (show acyB x = false by rw [acyB, hb]; rfl)
    clear hb
    first
    | go_region_with (first
        | (go_at_call 85
           refine (hv _ eA).mono ?_
           rintro e w1 ⟨rfl, x1'⟩
           have x1 := eA.trans x1'))
    | fail "region"
    all_goals
      go_wp2
      go_ret
      exact ⟨ret_bool H.out.symm, x0.trans x1⟩
  | true =>
    rw [hb] at hv
    have hes := validB_es hb
    have H := Lib.hid (show acyB x = decide ((orderL x.es).length = x.es.length) by rw [acyB, hb, Bool.true_and])
    have hc := fun W (y : Ex w W) => edgeOrder_c x.wires E ec x.es (.slice I x.ins.length ic) (.slice O x.outs.length oc) W (hE.ex y) hes ⟨_, _, _, rfl⟩ ⟨_, _, _, rfl⟩
    clear hb
    go_region_held3 (fun W => Ex W0 W ∧ W.cell? ⟨w.heap.size, 0, none⟩ = some (.int .i64 x.wires) ∧ W.cell? ⟨w.heap.size, 1, none⟩ = some (.slice E x.es.length ec) ∧ W.cell? ⟨w.heap.size, 2, none⟩ = some (.slice I x.ins.length ic) ∧ W.cell? ⟨w.heap.size, 3, none⟩ = some (.slice O x.outs.length oc)) (first
      | (exact HS _ x2) | (exact HS _ x1) | (exact HS _ eA) | (exact HS _ (Ex.refl W0))) (first
      | (go_at_call 85
         have hb := (‹Ex W0 _ ∧ _›).1
         refine (hv _ hb).mono ?_
         rintro e w1 ⟨rfl, x1'⟩
         have x1 := hb.trans x1'
         clear hb)
      | (go_at_call 28
         have hb := (‹Ex W0 _ ∧ _›).1
         refine (hc _ (x0.trans hb)).mono ?_
         rintro e w2 ⟨v, rfl, ⟨V, vc, rfl, fi⟩, x2'⟩
         have hfl := fi.rd.len
         have x2 := hb.trans x2'
         clear hb))
    all_goals
      go_wp2
      all_goals go_ret
      all_goals exact ⟨ret_bool (by rw [H.out]; first | rfl | (rw [Bool.eq_iff_iff]; simp; omega)), x0.trans x2⟩
set_option maxHeartbeats 2000000 in
theorem hgAcyclic_c (x : Gr) (E : Option Addr) (ec : Nat) (I : Option Addr) (ic : Nat) (O : Option Addr) (oc : Nat) (w : World) (hE : RdS EE w E x.es) (hes : x.es.length ≤ 60) :
    Calls Tryz.prog 76 #[.agg #[.int .i64 x.wires, .slice E x.es.length ec, .slice I x.ins.length ic, .slice O x.outs.length oc]] w fun e w' => e = .returned (.bool (decide ((orderL x.es).length = x.es.length))) ∧ Ex w w' := by
  have x0 := (Ex.refl w).alloc (.cells #[.int .i64 x.wires, .slice E x.es.length ec, .slice I x.ins.length ic, .slice O x.outs.length oc] 34)
  have d0 := VB.new w 34 #[.int .i64 x.wires, .slice E x.es.length ec, .slice I x.ins.length ic, .slice O x.outs.length oc]
  have hl := orderL_len x.es
  have hEl := hE.1
  have hc := fun W (y : Ex w W) => hgOrder_c x.wires E ec x.es (.slice I x.ins.length ic) (.slice O x.outs.length oc) W (hE.ex y) hes ⟨_, _, _, rfl⟩ ⟨_, _, _, rfl⟩
  go_enter Tryz.func76, Tryz.ntmps76
  go_wp2_with fail
  generalize w.alloc (.cells #[.int .i64 x.wires, .slice E x.es.length ec, .slice I x.ins.length ic, .slice O x.outs.length oc] 34) = W0 at *
  have q0 := d0.cell 0 (v := .int .i64 x.wires) rfl
  have q1 := d0.cell 1 (v := .slice E x.es.length ec) rfl
  have q2 := d0.cell 2 (v := .slice I x.ins.length ic) rfl
  have q3 := d0.cell 3 (v := .slice O x.outs.length oc) rfl
  have HS : ∀ W, Ex W0 W → (Ex W0 W ∧ W.cell? ⟨w.heap.size, 0, none⟩ = some (.int .i64 x.wires) ∧ W.cell? ⟨w.heap.size, 1, none⟩ = some (.slice E x.es.length ec) ∧ W.cell? ⟨w.heap.size, 2, none⟩ = some (.slice I x.ins.length ic) ∧ W.cell? ⟨w.heap.size, 3, none⟩ = some (.slice O x.outs.length oc)) := fun W h => ⟨h, cell_ex h q0, cell_ex h q1, cell_ex h q2, cell_ex h q3⟩
  have eA := (Ex.refl W0).drew
  go_region_held3 (fun W => Ex W0 W ∧ W.cell? ⟨w.heap.size, 0, none⟩ = some (.int .i64 x.wires) ∧ W.cell? ⟨w.heap.size, 1, none⟩ = some (.slice E x.es.length ec) ∧ W.cell? ⟨w.heap.size, 2, none⟩ = some (.slice I x.ins.length ic) ∧ W.cell? ⟨w.heap.size, 3, none⟩ = some (.slice O x.outs.length oc)) (first
    | (exact HS _ x2) | (exact HS _ eA) | (exact HS _ (Ex.refl W0))) (first
    | (go_at_call 24
       have hb := (‹Ex W0 _ ∧ _›).1
       refine (hc _ (x0.trans hb)).mono ?_
       rintro e w2 ⟨v, rfl, ⟨V, vc, rfl, fi⟩, x2'⟩
       have hfl := fi.rd.len
       have x2 := hb.trans x2'
       clear hb))
  all_goals
    go_wp2
    all_goals go_ret
    all_goals exact ⟨ret_bool (by first | rfl | (rw [Bool.eq_iff_iff]; simp; omega)), x0.trans x2⟩
end Go.Proofs.YtphdcgimibnajaaGreat
