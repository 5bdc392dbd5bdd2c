/- Contracts: a valid graph (the program). -/
import Derived.Test.YtgblnkadmieflaaGrE
import Derived.Test.YtgblnkadmieflaaGrA
import Derived.Shelf.Abstract
import Derived.Deep.LoopGhost
namespace Go.Proofs.Ytgblnkadmieflaa
set_option maxRecDepth 100000
open Go Go.RowKit
theorem enters_isGraph1 : ∀ args w, (callFunc 68 args).run Try.prog w = .ok (.enter 68 args) w := enters_of Try.func68 (by kernel_rfl) rfl
set_option maxHeartbeats 4000000 in
theorem isGraph_c (x : Gr) (E : Option Addr) (ec : Nat) (I : Option Addr) (ic : Nat) (O : Option Addr) (oc : Nat) (w : World) (hE : RdS EE w E x.es) (hI : Rd w I x.ins) (hO : Rd w O x.outs) :
    Calls Try.prog 58 #[.agg #[.int .i64 x.wires, .slice E x.es.length ec, .slice I x.ins.length ic, .slice O x.outs.length oc]] w fun e w' => e = .returned (.bool (validB x)) ∧ Ex w w' := by
  obtain ⟨N, es, ins, outs⟩ := x
  dsimp only at hE hI hO ⊢
  have hEl := hE.1
  have hIl := hI.len
  have hOl := hO.len
  have hg := fun W => within_c N 0 100 W
  have y0 := (Ex.refl w).alloc (.cells #[.int .i64 N, .slice E es.length ec, .slice I ins.length ic, .slice O outs.length oc] 31)
  have d0 := VB.new w 31 #[.int .i64 N, .slice E es.length ec, .slice I ins.length ic, .slice O outs.length oc]
  have S0 := Lib.hid (show (w.alloc (.cells #[.int .i64 N, .slice E es.length ec, .slice I ins.length ic, .slice O outs.length oc] 31)).heap.size = w.heap.size + 1 by simp)
  cases hd : dimB ⟨N, es, ins, outs⟩ with
  | false =>
    have H := Lib.hid (show validB ⟨N, es, ins, outs⟩ = false by simp [validB, hd])
    simp only [dimB] at hd
    cases h1 : inB 0 100 N with
    | false =>
      rw [h1] at hg
      clear hd h1
      go_enter Try.func58, Try.ntmps58
      go_wp2_with fail
      refine (hg _).mono ?_
      rintro e _ ⟨rfl, rfl⟩
      go_wp2
      go_ret
      exact ⟨ret_bool (by rw [H.out]), y0⟩
    | true =>
      rw [h1, Bool.true_and] at hd
      rw [h1] at hg
      clear h1
      have hd' : 60 < es.length ∨ 12 < ins.length ∨ 12 < outs.length := by
        simp only [Bool.and_eq_false_iff, decide_eq_false_iff_not] at hd
        omega
      have hb : (decide (60 < (es.length : Int)) || decide (12 < (ins.length : Int)) || decide (12 < (outs.length : Int))) = true := by
        simp only [Bool.or_eq_true, decide_eq_true_eq]; omega
      clear hd
      go_enter Try.func58, Try.ntmps58
      go_wp2_with fail
      refine (hg _).mono ?_
      rintro e _ ⟨rfl, rfl⟩
      go_wp2
      all_goals go_ret
      all_goals exact ⟨ret_bool (by rw [H.out]), y0⟩
  | true =>
    have hp : 0 ≤ N ∧ N ≤ 100 ∧ es.length ≤ 60 ∧ ins.length ≤ 12 ∧ outs.length ≤ 12 := by
      have := hd
      simp only [dimB, inB, Bool.and_eq_true, decide_eq_true_eq] at this
      omega
    obtain ⟨p0, p1, p2, p3, p4⟩ := hp
    obtain ⟨n, rfl⟩ := Int.eq_ofNat_of_zero_le p0
    have Hd := Lib.hid hd
    rw [show inB 0 100 (n : Int) = true by simp [inB]; omega] at hg
    have hmk := fun W => run_make_bools n (by omega) W
    clear hd
    go_enter Try.func58, Try.ntmps58
    go_wp2_with fail
    refine (hg _).mono ?_
    rintro e _ ⟨rfl, rfl⟩
    clear hg
    go_wp2_with fail
    generalize w.alloc (.cells #[.int .i64 n, .slice E es.length ec, .slice I ins.length ic, .slice O outs.length oc] 31) = W0 at *
    go_loopw [33] (fun i wr => ∃ k : Nat, k ≤ es.length ∧ i = .int .i64 k ∧ Hid ((es.take k).all edK = true) ∧ VB wr w.heap.size 31 #[.int .i64 n, .slice E es.length ec, .slice I ins.length ic, .slice O outs.length oc] ∧ Ex w wr) (fun i _ => es.length - (intOf i).toNat)
    case atStart => exact ⟨0, Nat.zero_le _, rfl, Lib.hid rfl, d0, y0⟩
    case round =>
      obtain ⟨k, hk, rfl, Hall, hd, he⟩ := hrel
      by_cases hlt : k < es.length
      · obtain ⟨g, off, x, P, pc, Q, qc, rfl, hx, c0, c1, c2, c3, hP, hQ⟩ := (hE.ex he).edge hlt
        have Hx := Lib.hid hx
        have y3 := (Ex.refl wr).alloc (.cells #[.int .i64 x.kd, .int .i64 x.vl, .slice P x.ins.length pc, .slice Q x.outs.length qc] 51)
        clear hx
        have hh := fun W => isEdge_c x.kd x.vl P x.ins.length pc Q x.outs.length qc W hP.len hQ.len
        have hd2 := hd.ex y3
        have he2 := he.trans y3
        go_wp2_with fail
        generalize wr.alloc (.cells #[.int .i64 x.kd, .int .i64 x.vl, .slice P x.ins.length pc, .slice Q x.outs.length qc] 51) = W3 at *
        refine (hh W3).mono ?_
        rintro e w4 ⟨rfl, x4⟩
        have hd3 := hd2.ex x4
        have he3 := he2.trans x4
        clear hh hd he hd2 he2 c0 c1 c2 c3
        rw [show edB x.kd x.vl x.ins.length x.outs.length = edK x from rfl]
        cases hb : edK x with
        | true =>
          have Hall2 := Lib.hid (show (es.take (k + 1)).all edK = true by rw [List.take_add_one, Hx.out, List.all_append, Hall.out]; simp [hb])
          clear hb
          go_wp2_with fail
          go_roundw
          case rel => exact ⟨k + 1, by omega, by go_num, Hall2, hd3, he3⟩
          case measure => simp [intOf]; omega
        | false =>
          have H := Lib.hid (validB_bad (x := ⟨n, es, ins, outs⟩) (List.mem_of_getElem? Hx.out) hb)
          clear hb
          go_wp2
          go_ret
          exact ⟨ret_bool H.out.symm, he3⟩
      · obtain rfl : k = es.length := by omega
        have hall := Hall.out
        rw [List.take_length] at hall
        have HV := Lib.hid (validB_seen Hd.out hall)
        have hlen := fun e he => edK_len (List.all_eq_true.1 hall e he)
        have HL := Lib.hid hlen
        clear hall hlen
        have q0 := hd.cell 0 (v := .int .i64 n) rfl
        have yy := ((((Ex.refl wr).alloc (.cells (bObj (List.replicate n false)) 4)).alloc (.cells #[.slice (some ⟨wr.heap.size, 0, none⟩) n n] 75)).alloc (.cells #[.bool true] 4)).alloc (.cells #[.int .i64 0] 3)
        have r0 := (hd.ex yy).cell 0 (v := .int .i64 n) rfl
        have r1 := (hd.ex yy).cell 1 (v := .slice E es.length ec) rfl
        have r2 := (hd.ex yy).cell 2 (v := .slice I ins.length ic) rfl
        have r3 := (hd.ex yy).cell 3 (v := .slice O outs.length oc) rfl
        have u1 := VB.new wr 4 (bObj (List.replicate n false))
        have z1 := Lib.hid (show (wr.alloc (.cells (bObj (List.replicate n false)) 4)).heap.size = wr.heap.size + 1 by simp)
        have u2 := VB.new (wr.alloc (.cells (bObj (List.replicate n false)) 4)) 75 #[.slice (some ⟨wr.heap.size, 0, none⟩) n n]
        rw [z1.out] at u2
        have z2 := Lib.hid (show ((wr.alloc (.cells (bObj (List.replicate n false)) 4)).alloc (.cells #[.slice (some ⟨wr.heap.size, 0, none⟩) n n] 75)).heap.size = wr.heap.size + 1 + 1 by simp)
        have u3 := VB.new ((wr.alloc (.cells (bObj (List.replicate n false)) 4)).alloc (.cells #[.slice (some ⟨wr.heap.size, 0, none⟩) n n] 75)) 4 #[.bool true]
        rw [z2.out] at u3
        have z3 := Lib.hid (show (((wr.alloc (.cells (bObj (List.replicate n false)) 4)).alloc (.cells #[.slice (some ⟨wr.heap.size, 0, none⟩) n n] 75)).alloc (.cells #[.bool true] 4)).heap.size = wr.heap.size + 1 + 1 + 1 by simp)
        have u4 := VB.new (((wr.alloc (.cells (bObj (List.replicate n false)) 4)).alloc (.cells #[.slice (some ⟨wr.heap.size, 0, none⟩) n n] 75)).alloc (.cells #[.bool true] 4)) 3 #[.int .i64 0]
        rw [z3.out] at u4
        have z4 : ((((wr.alloc (.cells (bObj (List.replicate n false)) 4)).alloc (.cells #[.slice (some ⟨wr.heap.size, 0, none⟩) n n] 75)).alloc (.cells #[.bool true] 4)).alloc (.cells #[.int .i64 0] 3)).heap.size = wr.heap.size + 1 + 1 + 1 + 1 := by simp
        have hS : Seen w.heap.size (wr.heap.size + 1 + 1) (wr.heap.size + 1) (wr.heap.size + 1 + 1 + 1) wr.heap.size n #[.int .i64 n, .slice E es.length ec, .slice I ins.length ic, .slice O outs.length oc] [] ((((wr.alloc (.cells (bObj (List.replicate n false)) 4)).alloc (.cells #[.slice (some ⟨wr.heap.size, 0, none⟩) n n] 75)).alloc (.cells #[.bool true] 4)).alloc (.cells #[.int .i64 0] 3)) := by
          refine ⟨hd.ex yy, u3.ex ((Ex.refl _).alloc _), u2.ex (((Ex.refl _).alloc _).alloc _), ?_, ?_⟩
          · rw [seenL_nil, List.count_replicate]; exact u4
          · rw [seenL_nil]; exact u1.ex ((((Ex.refl _).alloc _).alloc _).alloc _)
        have hsz := he.size
        have hdl := hd.lt
        go_wp2_with fail
        generalize ((((wr.alloc (.cells (bObj (List.replicate n false)) 4)).alloc (.cells #[.slice (some ⟨wr.heap.size, 0, none⟩) n n] 75)).alloc (.cells #[.bool true] 4)).alloc (.cells #[.int .i64 0] 3)) = W4 at *
        clear u1 u2 u3 u4 z1 z2 z3 r0 r1 r2 r3 q0
        have he4 := he.trans yy
        refine (lists_c wr.heap.size (wr.heap.size + 1 + 1 + 1 + 1) w hsz n E ec es I ic ins O oc outs hE hI hO p3 p4 (fun e he => by have := HL.out e he; omega)
          68 enters_isGraph1 #[.pointer (some ⟨w.heap.size, 0, none⟩), .pointer (some ⟨wr.heap.size + 1 + 1, 0, none⟩), .pointer (some ⟨wr.heap.size + 1, 0, none⟩), .pointer (some ⟨wr.heap.size + 1 + 1 + 1, 0, none⟩)]
          (Seen w.heap.size (wr.heap.size + 1 + 1) (wr.heap.size + 1) (wr.heap.size + 1 + 1 + 1) wr.heap.size n #[.int .i64 n, .slice E es.length ec, .slice I ins.length ic, .slice O outs.length oc])
          (fun l W W' h x => h.ex x)
          (fun l W A c xs h x hR _ => mark1_c wr.heap.size (wr.heap.size + 1 + 1 + 1 + 1) _ _ _ _ _ n _ rfl (by omega) (by omega) (by omega) w hsz l W A c xs h x hR) [] W4 (by omega) he4 hS).mono ?_
        rintro e w5 ⟨rfl, ⟨sg, sq, ss, sc, sv⟩, k5⟩
        rw [List.nil_append] at sq sc
        have he5 := he4.iv k5 hsz
        have q1 := sq.cell 0 (v := .bool ((ins ++ outs ++ bothL es).all (inB 0 ((n : Int) - 1)))) rfl
        have q2 := sc.cell 0 (v := .int .i64 ((seenL n (ins ++ outs ++ bothL es)).count true : Nat)) rfl
        have q3 := sg.cell 0 (v := .int .i64 n) rfl
        clear hS k5 he4 yy sq sc sv ss sg
        generalize ins ++ outs ++ bothL es = L at *
        obtain ⟨ok, hok⟩ : ∃ ok, L.all (inB 0 ((n : Int) - 1)) = ok := ⟨_, rfl⟩
        obtain ⟨cc, hcc⟩ : ∃ cc, List.count true (seenL n L) = cc := ⟨_, rfl⟩
        have HV := HV.out
        rw [hok] at q1 HV
        rw [hcc] at q2 HV
        have HV := Lib.hid HV
        clear hok hcc
        cases ok with
        | true =>
          go_wp2
          all_goals go_ret
          all_goals exact ⟨ret_bool (by rw [HV.out]; first | rfl | simp), he5⟩
        | false =>
          go_wp2
          all_goals go_ret
          all_goals exact ⟨ret_bool (by rw [HV.out]; first | rfl | simp), he5⟩
end Go.Proofs.Ytgblnkadmieflaa
