/- Contracts: how often each wire of a graph occurs (the reference). -/
import Derived.Test.YtgblnkadmieflaaGrB
namespace Go.Proofs.Ytgblnkadmieflaa
set_option maxRecDepth 100000
open Go Go.RowKit
set_option maxHeartbeats 4000000 in
theorem hgCounts_c (n : Nat) (E : Option Addr) (ec : Nat) (es : List Ed) (I : Option Addr) (ic : Nat) (ins : List Int) (O : Option Addr) (oc : Nat) (outs : List Int) (w : World) (hE : RdS EE w E es) (hI : Rd w I ins) (hO : Rd w O outs) (hn : n ≤ 100)
    (h1 : ∀ k ∈ ins ++ outsL es, 0 ≤ k ∧ k < n) (h2 : ∀ k ∈ outs ++ insL es, 0 ≤ k ∧ k < n) (b1 : (ins ++ outsL es).length ≤ 1000) (b2 : (outs ++ insL es).length ≤ 1000) :
    Calls Try.prog 54 #[.agg #[.int .i64 n, .slice E es.length ec, .slice I ins.length ic, .slice O outs.length oc]] w fun e w' =>
      ∃ f t, e = .returned (.tuple #[.slice (some ⟨f, 0, none⟩) n n, .slice (some ⟨t, 0, none⟩) n n]) ∧ w.heap.size ≤ f ∧ f < t ∧ Own w' f (cntL n (ins ++ outsL es)) ∧ Own w' t (cntL n (outs ++ insL es)) ∧ Ex w w' := by
  have hmk := fun W => run_make_ints n (by omega) W
  have hEl := hE.1
  have hIl := hI.len
  have hOl := hO.len
  have H1 := Lib.hid h1
  have H2 := Lib.hid h2
  have B1 := Lib.hid b1
  have B2 := Lib.hid b2
  clear h1 h2 b1 b2
  have y0 := (Ex.refl w).alloc (.cells #[.int .i64 n, .slice E es.length ec, .slice I ins.length ic, .slice O outs.length oc] 31)
  have d0 := VB.new w 31 #[.int .i64 n, .slice E es.length ec, .slice I ins.length ic, .slice O outs.length oc]
  have S0 := Lib.hid (show (w.alloc (.cells #[.int .i64 n, .slice E es.length ec, .slice I ins.length ic, .slice O outs.length oc] 31)).heap.size = w.heap.size + 1 by simp)
  go_enter Try.func54, Try.ntmps54
  go_wp2_with fail
  generalize w.alloc (.cells #[.int .i64 n, .slice E es.length ec, .slice I ins.length ic, .slice O outs.length oc] 31) = W0 at *
  have y1 := (Ex.refl W0).alloc (iObj (List.replicate n 0))
  have o1 := Own.new W0 (List.replicate n 0)
  rw [S0.out] at o1
  have S1 := Lib.hid (show (W0.alloc (iObj (List.replicate n 0))).heap.size = w.heap.size + 1 + 1 by simp; exact S0.out)
  generalize W0.alloc (iObj (List.replicate n 0)) = W1 at *
  have y2 := (Ex.refl W1).alloc (iObj (List.replicate n 0))
  have o2 := Own.new W1 (List.replicate n 0)
  rw [S1.out] at o2
  generalize W1.alloc (iObj (List.replicate n 0)) = W2 at *
  have o1 := o1.ex y2
  have d0 := (d0.ex y1).ex y2
  have xx := (y0.trans y1).trans y2
  clear y0 y1 y2 S0 S1
  rw [← cntL_nil n] at o1 o2
  go_loopw [25] (fun i wr => ∃ k : Nat, k ≤ ins.length ∧ i = .int .i64 k ∧ Own wr (w.heap.size + 1) (cntL n (ins.take k)) ∧ Own wr (w.heap.size + 1 + 1) (cntL n []) ∧ VB wr w.heap.size 31 #[.int .i64 n, .slice E es.length ec, .slice I ins.length ic, .slice O outs.length oc] ∧ Ex w wr) (fun i _ => ins.length - (intOf i).toNat)
  case atStart => exact ⟨0, Nat.zero_le _, rfl, o1, o2, d0, xx⟩
  case round =>
    obtain ⟨k, hk, rfl, hf, ht, hd, he⟩ := hrel
    by_cases hlt : k < ins.length
    · obtain ⟨g, off, q, rfl, hq, hg, hc⟩ := (hI.ex he).at_ hlt
      have hqb := H1.out q (List.mem_append_left _ (List.mem_of_getElem? hq))
      obtain ⟨qn, rfl⟩ := Int.eq_ofNat_of_zero_le hqb.1
      have hqn : qn < n := by have := hqb.2; omega
      have c1 := hf.cell (cntL_at (l := ins.take k) hqn)
      have f1 := hf.frozen qn
      have hlen : (ins.take k).count (qn : Int) ≤ 1000 := Nat.le_trans (cnt_le _ _) (by rw [List.length_take]; have := B1.out; rw [List.length_append] at this; omega)
      have hf2 := hf.set_ qn (((ins.take k).count (qn : Int) : Nat) + 1)
      rw [cntL_push, show ins.take k ++ [(qn : Int)] = ins.take (k + 1) by rw [List.take_add_one, hq]; rfl] at hf2
      have E1 : Ex1 (w.heap.size + 1) wr (wr.setCell ⟨w.heap.size + 1, qn, none⟩ (.int .i64 (((ins.take k).count (qn : Int) : Nat) + 1))) := (Ex1.refl _ _).setCell rfl _
      have ht2 := ht.ex1 E1 (by omega)
      have hd2 := hd.ex1 E1 (by omega)
      have he2 := he.ex1 E1 (by omega)
      clear hq ht hd he
      generalize hcc : List.count (qn : Int) (ins.take k) = cc at *
      clear hcc
      go_wp2_with fail
      go_roundw
      case rel => exact ⟨k + 1, by omega, by go_num, hf2, ht2, hd2, he2⟩
      case measure => simp [intOf]; omega
    · obtain rfl : k = ins.length := by omega
      rw [List.take_length] at hf
      have q0 := hd.cell 3 (v := .slice O outs.length oc) rfl
      go_wp2_with fail
      clear q0
      go_loopw [39] (fun i wr => ∃ k : Nat, k ≤ outs.length ∧ i = .int .i64 k ∧ Own wr (w.heap.size + 1) (cntL n ins) ∧ Own wr (w.heap.size + 1 + 1) (cntL n (outs.take k)) ∧ VB wr w.heap.size 31 #[.int .i64 n, .slice E es.length ec, .slice I ins.length ic, .slice O outs.length oc] ∧ Ex w wr) (fun i _ => outs.length - (intOf i).toNat)
      case atStart => exact ⟨0, Nat.zero_le _, rfl, hf, ht, hd, he⟩
      case round =>
        clear hf ht hd he
        obtain ⟨k, hk, rfl, hf, ht, hd, he⟩ := hrel
        by_cases hlt : k < outs.length
        · obtain ⟨g, off, q, rfl, hq, hg, hc⟩ := (hO.ex he).at_ hlt
          have hqb := H2.out q (List.mem_append_left _ (List.mem_of_getElem? hq))
          obtain ⟨qn, rfl⟩ := Int.eq_ofNat_of_zero_le hqb.1
          have hqn : qn < n := by have := hqb.2; omega
          have c1 := ht.cell (cntL_at (l := outs.take k) hqn)
          have f1 := ht.frozen qn
          have hlen : (outs.take k).count (qn : Int) ≤ 1000 := Nat.le_trans (cnt_le _ _) (by rw [List.length_take]; have := B2.out; rw [List.length_append] at this; omega)
          have ht2 := ht.set_ qn (((outs.take k).count (qn : Int) : Nat) + 1)
          rw [cntL_push, show outs.take k ++ [(qn : Int)] = outs.take (k + 1) by rw [List.take_add_one, hq]; rfl] at ht2
          have E1 : Ex1 (w.heap.size + 1 + 1) wr (wr.setCell ⟨w.heap.size + 1 + 1, qn, none⟩ (.int .i64 (((outs.take k).count (qn : Int) : Nat) + 1))) := (Ex1.refl _ _).setCell rfl _
          have hf2 := hf.ex1 E1 (by omega)
          have hd2 := hd.ex1 E1 (by omega)
          have he2 := he.ex1 E1 (by omega)
          clear hq hf hd he
          generalize hcc : List.count (qn : Int) (outs.take k) = cc at *
          clear hcc
          go_wp2_with fail
          go_roundw
          case rel => exact ⟨k + 1, by omega, by go_num, hf2, ht2, hd2, he2⟩
          case measure => simp [intOf]; omega
        · obtain rfl : k = outs.length := by omega
          rw [List.take_length] at ht
          have q0 := hd.cell 1 (v := .slice E es.length ec) rfl
          have e1 : outsL ([] : List Ed) = [] := rfl
          have e2 : insL ([] : List Ed) = [] := rfl
          rw [← List.append_nil ins, ← e1] at hf
          rw [← List.append_nil outs, ← e2] at ht
          clear e1 e2
          go_wp2_with fail
          clear q0
          go_loopw [53] (fun i wr => ∃ k : Nat, k ≤ es.length ∧ i = .int .i64 k ∧ Own wr (w.heap.size + 1) (cntL n (ins ++ outsL (es.take k))) ∧ Own wr (w.heap.size + 1 + 1) (cntL n (outs ++ insL (es.take k))) ∧ Ex w wr) (fun i _ => es.length - (intOf i).toNat)
          case atStart => exact ⟨0, Nat.zero_le _, rfl, hf, ht, he⟩
          case round =>
            clear hf ht hd he
            obtain ⟨k, hk, rfl, hf, ht, he⟩ := hrel
            by_cases hlt : k < es.length
            · obtain ⟨g, off, x, P, pc, Q, qc, rfl, hx, c0, c1, c2, c3, hP, hQ⟩ := hE.edge hlt
              replace c0 := cell_ex he c0
              replace c1 := cell_ex he c1
              replace c2 := cell_ex he c2
              replace c3 := cell_ex he c3
              have y3 := (Ex.refl wr).alloc (.cells #[.int .i64 x.kd, .int .i64 x.vl, .slice P x.ins.length pc, .slice Q x.outs.length qc] 51)
              have v3 := VB.new wr 51 #[.int .i64 x.kd, .int .i64 x.vl, .slice P x.ins.length pc, .slice Q x.outs.length qc]
              have hPl := hP.len
              have hQl := hQ.len
              have hs1 := hf.lt
              have hs2 := ht.lt
              have Hx := Lib.hid hx
              go_wp2_with fail
              have hf := hf.ex y3
              have ht := ht.ex y3
              have he := he.trans y3
              have hz3 := y3.size
              clear c0 c1 c2 c3 hx y3
              generalize wr.alloc (.cells #[.int .i64 x.kd, .int .i64 x.vl, .slice P x.ins.length pc, .slice Q x.outs.length qc] 51) = W3 at *
              obtain ⟨b, hbe⟩ : ∃ b, wr.heap.size = b := ⟨_, rfl⟩
              rw [hbe] at v3 hz3 hs1 hs2 ⊢
              clear hbe
              rw [← List.append_nil (ins ++ outsL (es.take k))] at hf
              go_loopw [60] (fun i wi => ∃ j : Nat, j ≤ x.outs.length ∧ i = .int .i64 j ∧ Own wi (w.heap.size + 1) (cntL n (ins ++ outsL (es.take k) ++ x.outs.take j)) ∧ Own wi (w.heap.size + 1 + 1) (cntL n (outs ++ insL (es.take k))) ∧ VB wi b 51 #[.int .i64 x.kd, .int .i64 x.vl, .slice P x.ins.length pc, .slice Q x.outs.length qc] ∧ Ex w wi) (fun i _ => x.outs.length - (intOf i).toNat)
              case atStart => exact ⟨0, Nat.zero_le _, rfl, hf, ht, v3, he⟩
              case round =>
                clear hf ht he v3
                obtain ⟨j, hj, rfl, hf, ht, v3, he⟩ := hrel
                by_cases hjl : j < x.outs.length
                · obtain ⟨g', off', q, rfl, hq, hg', hc'⟩ := (hQ.ex he).at_ hjl
                  have hqb := H1.out q (List.mem_append_right _ (mem_outsL_of (List.mem_of_getElem? Hx.out) (List.mem_of_getElem? hq)))
                  obtain ⟨qn, rfl⟩ := Int.eq_ofNat_of_zero_le hqb.1
                  have hqn : qn < n := by have := hqb.2; omega
                  have c1 := hf.cell (cntL_at (l := ins ++ outsL (es.take k) ++ x.outs.take j) hqn)
                  have f1 := hf.frozen qn
                  have hlen : (ins ++ outsL (es.take k) ++ x.outs.take j).count (qn : Int) ≤ 1000 := Nat.le_trans (cnt_le _ _) (by have := outsL_pre Hx.out; have := B1.out; simp only [List.length_append, List.length_take] at *; omega)
                  have hf2 := hf.set_ qn (((ins ++ outsL (es.take k) ++ x.outs.take j).count (qn : Int) : Nat) + 1)
                  rw [cntL_push, List.append_assoc _ _ [(qn : Int)], show x.outs.take j ++ [(qn : Int)] = x.outs.take (j + 1) by rw [List.take_add_one, hq]; rfl] at hf2
                  have E1 : Ex1 (w.heap.size + 1) wr (wr.setCell ⟨w.heap.size + 1, qn, none⟩ (.int .i64 (((ins ++ outsL (es.take k) ++ x.outs.take j).count (qn : Int) : Nat) + 1))) := (Ex1.refl _ _).setCell rfl _
                  have ht2 := ht.ex1 E1 (by omega)
                  have v4 := v3.ex1 E1 (by omega)
                  have he2 := he.ex1 E1 (by omega)
                  clear hq ht v3 he
                  generalize hcc : List.count (qn : Int) (ins ++ outsL (es.take k) ++ x.outs.take j) = cc at *
                  clear hcc
                  go_wp2_with fail
                  go_roundw
                  case rel => exact ⟨j + 1, by omega, by go_num, hf2, ht2, v4, he2⟩
                  case measure => simp [intOf]; omega
                · obtain rfl : j = x.outs.length := by omega
                  rw [List.take_length] at hf
                  rw [← List.append_nil (outs ++ insL (es.take k))] at ht
                  have q2 := v3.cell 2 (v := .slice P x.ins.length pc) rfl
                  go_wp2_with fail
                  clear q2
                  go_loopw [74] (fun i wi => ∃ j : Nat, j ≤ x.ins.length ∧ i = .int .i64 j ∧ Own wi (w.heap.size + 1) (cntL n (ins ++ outsL (es.take k) ++ x.outs)) ∧ Own wi (w.heap.size + 1 + 1) (cntL n (outs ++ insL (es.take k) ++ x.ins.take j)) ∧ VB wi b 51 #[.int .i64 x.kd, .int .i64 x.vl, .slice P x.ins.length pc, .slice Q x.outs.length qc] ∧ Ex w wi) (fun i _ => x.ins.length - (intOf i).toNat)
                  case atStart => exact ⟨0, Nat.zero_le _, rfl, hf, ht, v3, he⟩
                  case round =>
                    clear hf ht he v3
                    obtain ⟨j, hj, rfl, hf, ht, v3, he⟩ := hrel
                    by_cases hjl : j < x.ins.length
                    · obtain ⟨g', off', q, rfl, hq, hg', hc'⟩ := (hP.ex he).at_ hjl
                      have hqb := H2.out q (List.mem_append_right _ (mem_insL_of (List.mem_of_getElem? Hx.out) (List.mem_of_getElem? hq)))
                      obtain ⟨qn, rfl⟩ := Int.eq_ofNat_of_zero_le hqb.1
                      have hqn : qn < n := by have := hqb.2; omega
                      have c1 := ht.cell (cntL_at (l := outs ++ insL (es.take k) ++ x.ins.take j) hqn)
                      have f1 := ht.frozen qn
                      have hlen : (outs ++ insL (es.take k) ++ x.ins.take j).count (qn : Int) ≤ 1000 := Nat.le_trans (cnt_le _ _) (by have := insL_pre Hx.out; have := B2.out; simp only [List.length_append, List.length_take] at *; omega)
                      have hf2 := ht.set_ qn (((outs ++ insL (es.take k) ++ x.ins.take j).count (qn : Int) : Nat) + 1)
                      rw [cntL_push, List.append_assoc _ _ [(qn : Int)], show x.ins.take j ++ [(qn : Int)] = x.ins.take (j + 1) by rw [List.take_add_one, hq]; rfl] at hf2
                      have E1 : Ex1 (w.heap.size + 1 + 1) wr (wr.setCell ⟨w.heap.size + 1 + 1, qn, none⟩ (.int .i64 (((outs ++ insL (es.take k) ++ x.ins.take j).count (qn : Int) : Nat) + 1))) := (Ex1.refl _ _).setCell rfl _
                      have ht2 := hf.ex1 E1 (by omega)
                      have v4 := v3.ex1 E1 (by omega)
                      have he2 := he.ex1 E1 (by omega)
                      clear hq hf v3 he
                      generalize hcc : List.count (qn : Int) (outs ++ insL (es.take k) ++ x.ins.take j) = cc at *
                      clear hcc
                      go_wp2_with fail
                      go_roundw
                      case rel => exact ⟨j + 1, by omega, by go_num, ht2, hf2, v4, he2⟩
                      case measure => simp [intOf]; omega
                    · obtain rfl : j = x.ins.length := by omega
                      rw [List.take_length] at ht
                      rw [List.append_assoc, ← outsL_snoc Hx.out] at hf
                      rw [List.append_assoc, ← insL_snoc Hx.out] at ht
                      go_wp2_with fail
                      go_roundw
                      case rel => exact ⟨k + 1, by omega, by go_num, hf, ht, he⟩
                      case measure => simp [intOf]; omega
            · obtain rfl : k = es.length := by omega
              rw [List.take_length] at hf ht
              go_wp2_with fail
              go_ret2
              exact ⟨_, _, rfl, by omega, by omega, hf, ht, he⟩
end Go.Proofs.Ytgblnkadmieflaa
