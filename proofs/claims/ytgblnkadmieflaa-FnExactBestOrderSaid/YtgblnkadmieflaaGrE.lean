/- Contracts: all lists of a graph are visited; the wires that occur, marked (the program). -/
import Derived.Test.YtgblnkadmieflaaGrB
namespace Go.Proofs.Ytgblnkadmieflaa
set_option maxRecDepth 100000
open Go Go.RowKit
set_option maxHeartbeats 4000000 in
theorem lists_c (a b : Nat) (w : World) (ha : w.heap.size ≤ a) (N : Int) (E : Option Addr) (ec : Nat) (es : List Ed) (I : Option Addr) (ic : Nat) (ins : List Int) (O : Option Addr) (oc : Nat) (outs : List Int) (hE : RdS EE w E es) (hI : Rd w I ins) (hO : Rd w O outs) (h1 : ins.length ≤ 12) (h2 : outs.length ≤ 12) (h3 : ∀ e ∈ es, e.ins.length ≤ 12 ∧ e.outs.length ≤ 12)
    (g : FuncId) (eg : ∀ args w, (callFunc g args).run Try.prog w = .ok (.enter g args) w) (lb : Array Value) (Inv : List Int → World → Prop) (hm : ∀ l W W', Inv l W → Ex W W' → Inv l W')
    (hf : ∀ (l : List Int) (W : World) (A : Option Addr) (c : Nat) (xs : List Int), Inv l W → Ex w W → Rd w A xs → xs.length ≤ 12 → Calls Try.prog g (#[.slice A xs.length c] ++ lb) W fun e W' => e = .returned (.tuple #[]) ∧ Inv (l ++ xs) W' ∧ ExI a b W W') (l0 : List Int) (w0 : World) (hb : b ≤ w0.heap.size) (hw : Ex w w0) (h0 : Inv l0 w0) :
    Calls Try.prog 67 #[.agg #[.int .i64 N, .slice E es.length ec, .slice I ins.length ic, .slice O outs.length oc], .func (.func g) #[] lb] w0 fun e w' => e = .returned (.tuple #[]) ∧ Inv (l0 ++ ins ++ outs ++ bothL es) w' ∧ ExI a b w0 w' := by
  have hEl := hE.1
  have hIl := hI.len
  have hOl := hO.len
  have y0 := (Ex.refl w0).alloc (.cells #[.int .i64 N, .slice E es.length ec, .slice I ins.length ic, .slice O outs.length oc] 31)
  have d0 := VB.new w0 31 #[.int .i64 N, .slice E es.length ec, .slice I ins.length ic, .slice O outs.length oc]
  have H3 := Lib.hid h3
  clear h3
  go_enter Try.func67, Try.ntmps67
  go_wp2_with fail
  generalize w0.alloc (.cells #[.int .i64 N, .slice E es.length ec, .slice I ins.length ic, .slice O outs.length oc] 31) = W0 at *
  have hw0 := hw.trans y0
  have z0 := y0.size
  refine (hf l0 W0 I ic ins (hm _ _ _ h0 y0) hw0 hI h1).mono ?_
  rintro e w1 ⟨rfl, i1, k1⟩
  have d1 := d0.iv k1 (.inr hb)
  have hw1 := hw0.iv k1 ha
  have z1 := k1.size
  have q := d1.cell 3 (v := .slice O outs.length oc) rfl
  go_wp2_with fail
  clear q
  refine (hf _ w1 O oc outs i1 hw1 hO h2).mono ?_
  rintro e w2 ⟨rfl, i2, k2⟩
  have d2 := d1.iv k2 (.inr hb)
  have hw2 := hw1.iv k2 ha
  have z2 := k2.size
  have kk : ExI a b w0 w2 := ((ExI.of_ex y0).trans k1).trans k2
  have q := d2.cell 1 (v := .slice E es.length ec) rfl
  have e0 : bothL ([] : List Ed) = [] := rfl
  rw [← List.append_nil (l0 ++ ins ++ outs), ← e0] at i2
  go_wp2_with fail
  clear q e0 d0 d1 hw0 hw1 i1 k1 k2
  go_loopw [17] (fun i wr => ∃ k : Nat, k ≤ es.length ∧ i = .int .i64 k ∧ Inv (l0 ++ ins ++ outs ++ bothL (es.take k)) wr ∧ ExI a b w0 wr ∧ Ex w wr) (fun i _ => es.length - (intOf i).toNat)
  case atStart => exact ⟨0, Nat.zero_le _, rfl, i2, kk, hw2⟩
  case round =>
    obtain ⟨k, hk, rfl, hi, hk0, he⟩ := hrel
    by_cases hlt : k < es.length
    · obtain ⟨g', off, x, P, pc, Q, qc, rfl, hx, c0, c1, c2, c3, hP, hQ⟩ := hE.edge hlt
      replace c0 := cell_ex he c0
      replace c1 := cell_ex he c1
      replace c2 := cell_ex he c2
      replace c3 := cell_ex he c3
      have Hx := Lib.hid hx
      have hln := H3.out x (List.mem_of_getElem? hx)
      clear hx
      have y3 := (Ex.refl wr).alloc (.cells #[.int .i64 x.kd, .int .i64 x.vl, .slice P x.ins.length pc, .slice Q x.outs.length qc] 51)
      have v3 := VB.new wr 51 #[.int .i64 x.kd, .int .i64 x.vl, .slice P x.ins.length pc, .slice Q x.outs.length qc]
      have hz := hk0.size
      have hPl := hP.len
      have hQl := hQ.len
      go_wp2_with fail
      have hcall := hf _ _ P pc x.ins (hm _ _ _ hi y3) (he.trans y3) hP hln.1
      have he3 := he.trans y3
      have kk3 := hk0.trans (ExI.of_ex y3)
      clear c0 c1 c2 c3 y3 hi hk0 he
      generalize wr.alloc (.cells #[.int .i64 x.kd, .int .i64 x.vl, .slice P x.ins.length pc, .slice Q x.outs.length qc] 51) = W3 at *
      refine hcall.mono ?_
      rintro e w4 ⟨rfl, i4, k4⟩
      have v4 := v3.iv k4 (.inr (by omega))
      have he4 := he3.iv k4 ha
      have kk4 := kk3.trans k4
      clear hcall v3 he3 kk3 k4
      have q3 := v4.cell 3 (v := .slice Q x.outs.length qc) rfl
      go_wp2_with fail
      refine (hf _ _ Q qc x.outs i4 he4 hQ hln.2).mono ?_
      rintro e w5 ⟨rfl, i5, k5⟩
      rw [List.append_assoc, List.append_assoc, ← List.append_assoc (bothL _), List.append_assoc (bothL _), ← bothL_snoc Hx.out] at i5
      have he5 := he4.iv k5 ha
      have kk5 := kk4.trans k5
      clear q3 v4 he4 kk4 i4
      go_wp2_with fail
      go_roundw
      case rel => exact ⟨k + 1, by omega, by go_num, i5, kk5, he5⟩
      case measure => simp [intOf]; omega
    · obtain rfl : k = es.length := by omega
      rw [List.take_length] at hi
      go_wp2
      go_end0
      exact ⟨rfl, hi, hk0⟩
/-- What the boxes of isGraph hold when the lists of l have been visited. -/
def Seen (bg q bs bc sb n : Nat) (gc : Array Value) (l : List Int) (W : World) : Prop :=
  VB W bg 31 gc ∧ VB W q 4 #[.bool (l.all (inB 0 ((n : Int) - 1)))] ∧ VB W bs 75 #[.slice (some ⟨sb, 0, none⟩) n n] ∧ VB W bc 3 #[.int .i64 ((seenL n l).count true : Nat)] ∧ VB W sb 4 (bObj (seenL n l))
theorem Seen.ex {bg q bs bc sb n : Nat} {gc : Array Value} {l : List Int} {W W' : World} (h : Seen bg q bs bc sb n gc l W) (he : Ex W W') : Seen bg q bs bc sb n gc l W' :=
  ⟨h.1.ex he, h.2.1.ex he, h.2.2.1.ex he, h.2.2.2.1.ex he, h.2.2.2.2.ex he⟩
set_option maxHeartbeats 4000000 in
theorem mark1_c (a b bg q bs bc sb n : Nat) (gc : Array Value) (hgc : gc[0]? = some (.int .i64 n)) (hn : n ≤ 100) (h1 : bg ≠ q ∧ bg ≠ bc ∧ bg ≠ sb ∧ q ≠ bs ∧ q ≠ bc ∧ q ≠ sb ∧ bs ≠ bc ∧ bs ≠ sb ∧ bc ≠ sb) (h2 : a ≤ q ∧ q < b ∧ a ≤ bc ∧ bc < b ∧ a ≤ sb ∧ sb < b)
    (w : World) (hwa : w.heap.size ≤ a) (l : List Int) (W : World) (A : Option Addr) (c : Nat) (xs : List Int) (hS : Seen bg q bs bc sb n gc l W) (hw : Ex w W) (hR : Rd w A xs) :
    Calls Try.prog 68 #[.slice A xs.length c, .pointer (some ⟨bg, 0, none⟩), .pointer (some ⟨q, 0, none⟩), .pointer (some ⟨bs, 0, none⟩), .pointer (some ⟨bc, 0, none⟩)] W fun e W' => e = .returned (.tuple #[]) ∧ Seen bg q bs bc sb n gc (l ++ xs) W' ∧ ExI a b W W' := by
  have hxl := hR.len
  rw [← List.append_nil l] at hS
  go_enter Try.func68, Try.ntmps68
  go_wp2_with fail
  go_loopw [10] (fun i wr => ∃ j : Nat, j ≤ xs.length ∧ i = .int .i64 j ∧ Seen bg q bs bc sb n gc (l ++ xs.take j) wr ∧ ExI a b W wr) (fun i _ => xs.length - (intOf i).toNat)
  case atStart => exact ⟨0, Nat.zero_le _, rfl, hS, ExI.refl _ _ _⟩
  case round =>
    clear hS
    obtain ⟨j, hj, rfl, ⟨sg, sq, ss, sc, sv⟩, hI⟩ := hrel
    by_cases hlt : j < xs.length
    · obtain ⟨g', off, x, rfl, hx, hg', hc'⟩ := (hR.ex (hw.iv hI hwa)).at_ hlt
      have c0 := sg.cell 0 (v := .int .i64 n) hgc
      have Htk := Lib.hid (show l ++ xs.take (j + 1) = (l ++ xs.take j) ++ [x] by rw [List.take_add_one, hx, List.append_assoc]; rfl)
      clear hx
      have hwi := fun W => within_c x 0 ((n : Int) - 1) W
      generalize l ++ xs.take j = L at *
      go_wp2_with fail
      refine (hwi _).mono ?_
      rintro e _ ⟨rfl, rfl⟩
      cases hr : inB 0 ((n : Int) - 1) x with
      | false =>
        have q0 := sq.cell 0 (v := .bool (L.all (inB 0 ((n : Int) - 1)))) rfl
        have f0 := sq.frozen 0
        have sq2 := sq.set_ 0 (.bool false)
        have E1 : Ex1 q wr (wr.setCell ⟨q, 0, none⟩ (.bool false)) := (Ex1.refl _ _).setCell rfl _
        have sg2 := sg.ex1 E1 (by omega)
        have ss2 := ss.ex1 E1 (by omega)
        have sc2 := sc.ex1 E1 (by omega)
        have sv2 := sv.ex1 E1 (by omega)
        have e1 : (L ++ [x]).all (inB 0 ((n : Int) - 1)) = false := by simp [hr]
        have e2 := seenL_out n L hr
        have HS : Seen bg q bs bc sb n gc (l ++ xs.take (j + 1)) (wr.setCell ⟨q, 0, none⟩ (.bool false)) := by
          rw [Htk.out]
          refine ⟨sg2, ?_, ss2, ?_, ?_⟩
          · rw [e1]; exact sq2
          · rw [e2]; exact sc2
          · rw [e2]; exact sv2
        have hI2 := hI.trans ((ExI.of_ex1 E1).widen (a' := a) (b' := b) (by omega) (by omega))
        clear hr e1 e2 sg2 sq2 ss2 sc2 sv2 E1 sg ss sc sv hI
        go_wp2_with fail
        go_roundw
        case rel => exact ⟨j + 1, by omega, by go_num, HS, hI2⟩
        case measure => simp [intOf]; omega
      | true =>
        have hb := inB_bd hr
        obtain ⟨k, rfl⟩ := Int.eq_ofNat_of_zero_le hb.1
        have hkn : k < n := by omega
        have e1 : (L ++ [(k : Int)]).all (inB 0 ((n : Int) - 1)) = L.all (inB 0 ((n : Int) - 1)) := by simp [hr]
        have e2 := seenL_in n L k
        have hl := seenL_len n L
        have hcl : (seenL n L).count true ≤ n := by have := List.count_le_length (a := true) (l := seenL n L); omega
        have hat := seenL_at (l := L) hkn
        have q1 := ss.cell 0 (v := .slice (some ⟨sb, 0, none⟩) n n) rfl
        clear hr
        obtain ⟨bb, hbb⟩ : ∃ bb, decide ((k : Int) ∈ L) = bb := ⟨_, rfl⟩
        rw [hbb] at hat
        clear hbb
        have q2 := sv.bcell hat
        cases bb with
        | true =>
          rw [set_self hat] at e2
          have HS : Seen bg q bs bc sb n gc (l ++ xs.take (j + 1)) wr := by
            rw [Htk.out]
            refine ⟨sg, ?_, ss, ?_, ?_⟩
            · rw [e1]; exact sq
            · rw [e2]; exact sc
            · rw [e2]; exact sv
          clear e1 e2 hat sg ss sc sv
          go_wp2_with fail
          go_roundw
          case rel => exact ⟨j + 1, by omega, by go_num, HS, hI⟩
          case measure => simp [intOf]; omega
        | false =>
          have e3 := count_up hat
          rw [← e2] at e3
          have q3 := sc.cell 0 (v := .int .i64 ((seenL n L).count true : Nat)) rfl
          have f1 := sv.frozen k
          have sv2 := sv.bset k true
          rw [← e2] at sv2
          have E1 : Ex1 sb wr (wr.setCell ⟨sb, k, none⟩ (.bool true)) := (Ex1.refl _ _).setCell rfl _
          have sc1 := sc.ex1 E1 (by omega)
          have q4 := sc1.cell 0 (v := .int .i64 ((seenL n L).count true : Nat)) rfl
          have f2 := sc1.frozen 0
          have sc2 := sc1.set_ 0 (.int .i64 (((seenL n L).count true : Nat) + 1))
          have E2 : Ex1 bc (wr.setCell ⟨sb, k, none⟩ (.bool true)) ((wr.setCell ⟨sb, k, none⟩ (.bool true)).setCell ⟨bc, 0, none⟩ (.int .i64 (((seenL n L).count true : Nat) + 1))) := (Ex1.refl _ _).setCell rfl _
          have HS : Seen bg q bs bc sb n gc (l ++ xs.take (j + 1)) ((wr.setCell ⟨sb, k, none⟩ (.bool true)).setCell ⟨bc, 0, none⟩ (.int .i64 (((seenL n L).count true : Nat) + 1))) := by
            rw [Htk.out]
            refine ⟨(sg.ex1 E1 (by omega)).ex1 E2 (by omega), ?_, (ss.ex1 E1 (by omega)).ex1 E2 (by omega), ?_, sv2.ex1 E2 (by omega)⟩
            · rw [e1]; exact (sq.ex1 E1 (by omega)).ex1 E2 (by omega)
            · rw [e3]; exact sc2
          have hI2 := (hI.trans ((ExI.of_ex1 E1).widen (a' := a) (b' := b) (by omega) (by omega))).trans ((ExI.of_ex1 E2).widen (a' := a) (b' := b) (by omega) (by omega))
          clear e1 e2 e3 hat sg ss sc sv sc1 sc2 sv2 E1 E2 hl
          generalize hcc : List.count true (seenL n L) = cc at *
          clear hcc
          go_wp2_with fail
          go_roundw
          case rel => exact ⟨j + 1, by omega, by go_num, HS, hI2⟩
          case measure => simp [intOf]; omega
    · obtain rfl : j = xs.length := by omega
      rw [List.take_length] at sq sc sv
      go_wp2
      go_end0
      exact ⟨rfl, ⟨sg, sq, ss, sc, sv⟩, hI⟩
end Go.Proofs.Ytgblnkadmieflaa
