/- Contracts: valid circuits, on both sides. -/
import Derived.Test.YtgblnkadmieflaaDoorCir4
namespace Go.Proofs.YtgblnkadmieflaaDoor
set_option maxRecDepth 100000
open Go Go.RowKit
def circB (p : Int) (x : Circ) : Bool :=
  fieldB p && (inB 0 8 x.n && (inB 1 40 x.gs.length && (decide ((x.outs.length : Int) ≤ 8) && (x.outs.all (inB 0 ((x.gs.length : Int) - 1)) && (x.gs.all (gateB p x.n x.gs.length) && (schedR x.gs).2)))))
theorem need_sub {x : Gt} {k : Int} (h : k ∈ need x) : k ∈ opnd x := by
  unfold need at h
  unfold opnd
  by_cases h3 : x.kd = 3
  · simpa [h3] using h
  · by_cases h4 : x.kd = 4
    · simpa [h3, h4] using h
    · simp [h3, h4] at h
theorem gateB_need {p n m : Int} {x : Gt} (h : gateB p n m x = true) : ∀ k ∈ need x, 0 ≤ k ∧ k < m := fun k hk => by
  unfold gateB at h
  rw [Bool.and_eq_true] at h
  have := List.all_eq_true.1 h.1 k (need_sub hk)
  simp only [inB, Bool.and_eq_true, decide_eq_true_eq] at this
  omega
theorem all_gates {p n m : Int} {gs : List Gt} (h : gs.all (gateB p n m) = true) : ∀ x ∈ gs, ∀ k ∈ need x, 0 ≤ k ∧ k < m := fun x hx => gateB_need (List.all_eq_true.1 h x hx)
set_option maxHeartbeats 4000000 in
theorem isCircuit_c (p n : Int) (A : Option Addr) (c : Nat) (gs : List Gt) (B : Option Addr) (d : Nat) (os : List Int) (w : World) (h : RdS EG w A gs) (ho : Rd w B os) (ht : Tb w) :
    Calls Tryd.prog 43 #[.int .i64 p, .agg #[.int .i64 n, .slice A gs.length c, .slice B os.length d]] w fun e w' => e = .returned (.bool (circB p ⟨n, gs, os⟩)) ∧ Ex w w' := by
  have hl1 := h.1
  have hl2 := ho.len
  have HC := Lib.hid (show circB p ⟨n, gs, os⟩ = (fieldB p && (inB 0 8 n && (inB 1 40 gs.length && (decide ((os.length : Int) ≤ 8) && (os.all (inB 0 ((gs.length : Int) - 1)) && (gs.all (gateB p n gs.length) && (schedR gs).2)))))) from rfl)
  have y0 := (Ex.refl w).alloc (.cells #[.int .i64 n, .slice A gs.length c, .slice B os.length d] 29)
  have d0 := VB.new w 29 #[.int .i64 n, .slice A gs.length c, .slice B os.length d]
  go_enter Tryd.func43, Tryd.ntmps43
  go_wp2_with fail
  generalize w.alloc (.cells #[.int .i64 n, .slice A gs.length c, .slice B os.length d] 29) = W0 at *
  have q0 := d0.cell 0 (v := .int .i64 n) rfl
  have q1 := d0.cell 1 (v := .slice A gs.length c) rfl
  have q2 := d0.cell 2 (v := .slice B os.length d) rfl
  refine (isField_c p W0 (ht.ex y0)).mono ?_
  rintro e _ ⟨rfl, rfl⟩
  cases h1 : fieldB p with
  | false =>
    have H := Lib.hid (show circB p ⟨n, gs, os⟩ = false by rw [HC.out, h1]; rfl)
    clear h1
    go_wp2
    go_ret
    exact ⟨ret_bool (by rw [H.out]), y0⟩
  | true =>
    rw [h1, Bool.true_and] at HC
    have h2 := fieldB_lo h1
    have h97 := fieldB_hi h1
    clear h1
    go_wp2_with fail
    refine (within_c n 0 8 W0).mono ?_
    rintro e _ ⟨rfl, rfl⟩
    cases h3 : inB 0 8 n with
    | false =>
      have H := Lib.hid (show circB p ⟨n, gs, os⟩ = false by rw [HC.out, h3]; rfl)
      clear h3
      go_wp2
      go_ret
      exact ⟨ret_bool (by rw [H.out]), y0⟩
    | true =>
      rw [h3, Bool.true_and] at HC
      have hb3 : 0 ≤ n ∧ n ≤ 8 := by simpa [inB] using h3
      clear h3
      go_wp2_with fail
      refine (within_c _ 1 40 W0).mono ?_
      rintro e _ ⟨rfl, rfl⟩
      cases h4 : inB 1 40 (gs.length : Int) with
      | false =>
        have H := Lib.hid (show circB p ⟨n, gs, os⟩ = false by rw [HC.out, h4]; rfl)
        clear h4
        go_wp2
        go_ret
        exact ⟨ret_bool (by rw [H.out]), y0⟩
      | true =>
        rw [h4, Bool.true_and] at HC
        have hb4 : 1 ≤ (gs.length : Int) ∧ (gs.length : Int) ≤ 40 := by simpa [inB] using h4
        clear h4
        by_cases h5 : (os.length : Int) ≤ 8
        · rw [decide_eq_true h5, Bool.true_and] at HC
          go_wp2_with fail
          refine (areBelow_c B d os gs.length W0 (ho.ex y0) (by omega) (by omega)).mono ?_
          rintro e _ ⟨rfl, rfl⟩
          cases h6 : os.all (inB 0 ((gs.length : Int) - 1)) with
          | false =>
            have H := Lib.hid (show circB p ⟨n, gs, os⟩ = false by rw [HC.out, h6]; rfl)
            clear h6
            go_wp2
            go_ret
            exact ⟨ret_bool (by rw [H.out]), y0⟩
          | true =>
            rw [h6, Bool.true_and] at HC
            clear h6
            go_wp2_with fail
            clear q0 q1 q2
            go_loopw [43] (fun i wr => ∃ k : Nat, k ≤ gs.length ∧ i = .int .i64 k ∧ Hid ((gs.take k).all (gateB p n gs.length) = true) ∧ VB wr w.heap.size 29 #[.int .i64 n, .slice A gs.length c, .slice B os.length d] ∧ Ex w wr) (fun i _ => gs.length - (intOf i).toNat)
            case atStart => exact ⟨0, Nat.zero_le _, rfl, Lib.hid rfl, d0, y0⟩
            case round =>
              obtain ⟨k, hk, rfl, Hall, hd0, he⟩ := hrel
              have q0 := hd0.cell 0 (v := .int .i64 n) rfl
              have q1 := hd0.cell 1 (v := .slice A gs.length c) rfl
              have q2 := hd0.cell 2 (v := .slice B os.length d) rfl
              by_cases hlt : k < gs.length
              · obtain ⟨g, off, x, rfl, hx, c0, c1, c2, c3⟩ := (h.ex he).gate hlt
                have Hx := Lib.hid hx
                clear hx
                have y3 := (Ex.refl wr).alloc (.cells #[.int .i64 x.kd, .int .i64 x.a, .int .i64 x.b, .int .i64 x.vl] 103)
                have q0 := (hd0.ex y3).cell 0 (v := .int .i64 n) rfl
                have q1 := (hd0.ex y3).cell 1 (v := .slice (some ⟨g, off, none⟩) gs.length c) rfl
                have q2 := (hd0.ex y3).cell 2 (v := .slice B os.length d) rfl
                have hig := fun W => isGate_c p n (some ⟨g, off, none⟩) c gs.length B os.length d x W (by omega) (by omega) (by omega)
                unfold gtV at hig
                go_wp2_with fail
                generalize wr.alloc (.cells #[.int .i64 x.kd, .int .i64 x.a, .int .i64 x.b, .int .i64 x.vl] 103) = W3 at *
                refine (hig W3).mono ?_
                rintro e w1 ⟨rfl, x1⟩
                have he1 := (he.trans y3).trans x1
                have hd01 := (hd0.ex y3).ex x1
                cases hg : gateB p n gs.length x with
                | true =>
                  have Hall2 := Lib.hid (show (gs.take (k + 1)).all (gateB p n gs.length) = true by rw [List.take_add_one, Hx.out, List.all_append, Hall.out]; simp [hg])
                  clear hg
                  go_wp2_with fail
                  go_roundw
                  case rel => exact ⟨k + 1, by omega, by go_num, Hall2, hd01, he1⟩
                  case measure => simp [intOf]; omega
                | false =>
                  have H := Lib.hid (show circB p ⟨n, gs, os⟩ = false by rw [HC.out, List.all_eq_false.2 ⟨x, List.mem_of_getElem? Hx.out, by simp [hg]⟩]; rfl)
                  clear hg
                  go_wp2
                  go_ret
                  exact ⟨ret_bool (by rw [H.out]), he1⟩
              · obtain rfl : k = gs.length := by omega
                have hall := Hall.out
                rw [List.take_length] at hall
                have hg := all_gates hall
                have Hfin := Lib.hid (show circB p ⟨n, gs, os⟩ = (schedR gs).2 by rw [HC.out, hall, Bool.true_and])
                have hsc := schedule_c n A c gs B os.length d wr (h.ex he) (by omega) (fun x hx k hk => ⟨by have := (hg x hx k hk).1; omega, by have := (hg x hx k hk).2; omega⟩)
                clear hall hg
                go_wp2_with fail
                refine hsc.mono ?_
                rintro e w1 ⟨v, rfl, _, x1⟩
                go_wp2
                go_ret
                exact ⟨ret_bool (by rw [Hfin.out]), he.trans x1⟩
        · have H := Lib.hid (show circB p ⟨n, gs, os⟩ = false by rw [HC.out, decide_eq_false h5]; rfl)
          go_wp2
          go_ret
          exact ⟨ret_bool (by rw [H.out]), y0⟩
set_option maxHeartbeats 4000000 in
theorem crGood_c (p n : Int) (A : Option Addr) (c : Nat) (gs : List Gt) (B : Option Addr) (d : Nat) (os : List Int) (w : World) (h : RdS EG w A gs) (ho : Rd w B os) :
    Calls Tryd.prog 39 #[.int .i64 p, .agg #[.int .i64 n, .slice A gs.length c, .slice B os.length d]] w fun e w' => e = .returned (.bool (circB p ⟨n, gs, os⟩)) ∧ Ex w w' := by
  have hl1 := h.1
  have hl2 := ho.len
  have HC := Lib.hid (show circB p ⟨n, gs, os⟩ = (fieldB p && (inB 0 8 n && (inB 1 40 gs.length && (decide ((os.length : Int) ≤ 8) && (os.all (inB 0 ((gs.length : Int) - 1)) && (gs.all (gateB p n gs.length) && (schedR gs).2)))))) from rfl)
  have y0 := (Ex.refl w).alloc (.cells #[.int .i64 n, .slice A gs.length c, .slice B os.length d] 29)
  have d0 := VB.new w 29 #[.int .i64 n, .slice A gs.length c, .slice B os.length d]
  go_enter Tryd.func39, Tryd.ntmps39
  go_wp2_with fail
  generalize w.alloc (.cells #[.int .i64 n, .slice A gs.length c, .slice B os.length d] 29) = W0 at *
  have q0 := d0.cell 0 (v := .int .i64 n) rfl
  have q1 := d0.cell 1 (v := .slice A gs.length c) rfl
  have q2 := d0.cell 2 (v := .slice B os.length d) rfl
  refine (fdGood_c p W0).mono ?_
  rintro e _ ⟨rfl, rfl⟩
  cases h1 : fieldB p with
  | false =>
    have H := Lib.hid (show circB p ⟨n, gs, os⟩ = false by rw [HC.out, h1]; rfl)
    clear h1
    go_wp2
    go_ret
    exact ⟨ret_bool (by rw [H.out]), y0⟩
  | true =>
    rw [h1, Bool.true_and] at HC
    have h2 := fieldB_lo h1
    have h97 := fieldB_hi h1
    clear h1
    go_wp2_with fail
    refine (l1In_c n 0 8 W0).mono ?_
    rintro e _ ⟨rfl, rfl⟩
    cases h3 : inB 0 8 n with
    | false =>
      have H := Lib.hid (show circB p ⟨n, gs, os⟩ = false by rw [HC.out, h3]; rfl)
      clear h3
      go_wp2
      go_ret
      exact ⟨ret_bool (by rw [H.out]), y0⟩
    | true =>
      rw [h3, Bool.true_and] at HC
      have hb3 : 0 ≤ n ∧ n ≤ 8 := by simpa [inB] using h3
      clear h3
      go_wp2_with fail
      refine (l1In_c _ 1 40 W0).mono ?_
      rintro e _ ⟨rfl, rfl⟩
      cases h4 : inB 1 40 (gs.length : Int) with
      | false =>
        have H := Lib.hid (show circB p ⟨n, gs, os⟩ = false by rw [HC.out, h4]; rfl)
        clear h4
        go_wp2
        go_ret
        exact ⟨ret_bool (by rw [H.out]), y0⟩
      | true =>
        rw [h4, Bool.true_and] at HC
        have hb4 : 1 ≤ (gs.length : Int) ∧ (gs.length : Int) ≤ 40 := by simpa [inB] using h4
        clear h4
        by_cases h5 : (os.length : Int) ≤ 8
        · rw [decide_eq_true h5, Bool.true_and] at HC
          go_wp2_with fail
          refine (l1All_c B d os 0 ((gs.length : Int) - 1) W0 (ho.ex y0)).mono ?_
          rintro e _ ⟨rfl, rfl⟩
          cases h6 : os.all (inB 0 ((gs.length : Int) - 1)) with
          | false =>
            have H := Lib.hid (show circB p ⟨n, gs, os⟩ = false by rw [HC.out, h6]; rfl)
            clear h6
            go_wp2
            go_ret
            exact ⟨ret_bool (by rw [H.out]), y0⟩
          | true =>
            rw [h6, Bool.true_and] at HC
            clear h6
            go_wp2_with fail
            clear q0 q1 q2
            go_loopw [5, 43] (fun z i wr => ∃ (k cn : Nat), k ≤ gs.length ∧ i = .int .i64 k ∧ z = .int .i64 (cn : Int) ∧ Hid (((gs.take k).map combB).count true = cn) ∧ Hid ((gs.take k).all (gateB p n gs.length) = true) ∧ VB wr w.heap.size 29 #[.int .i64 n, .slice A gs.length c, .slice B os.length d] ∧ Ex w wr) (fun _ i _ => gs.length - (intOf i).toNat)
            case atStart => exact ⟨0, 0, Nat.zero_le _, rfl, rfl, Lib.hid rfl, Lib.hid rfl, d0, y0⟩
            case round =>
              obtain ⟨k, cn, hk, rfl, rfl, Hcn, Hall, hd0, he⟩ := hrel
              have hcl : cn ≤ gs.length := by
                have h1 := List.count_le_length (a := true) (l := (gs.take k).map combB)
                rw [List.length_map, List.length_take, Hcn.out] at h1
                omega
              by_cases hlt : k < gs.length
              · obtain ⟨g, off, x, rfl, hx, c0, c1, c2, c3⟩ := (h.ex he).gate hlt
                have Hx := Lib.hid hx
                clear hx
                have y3 := (Ex.refl wr).alloc (.cells #[.int .i64 x.kd, .int .i64 x.a, .int .i64 x.b, .int .i64 x.vl] 103)
                have v3 := VB.new wr 103 #[.int .i64 x.kd, .int .i64 x.a, .int .i64 x.b, .int .i64 x.vl]
                have q0 := (hd0.ex y3).cell 0 (v := .int .i64 n) rfl
                have q1 := (hd0.ex y3).cell 1 (v := .slice (some ⟨g, off, none⟩) gs.length c) rfl
                have hig := fun W => crGate_c p n x gs.length W (by omega) (by omega) (by omega) h2 h97
                have hcc := fun W => crCombines_c x W
                unfold gtV at hig hcc
                have Htk := Lib.hid (show (gs.take (k + 1)).map combB = (gs.take k).map combB ++ [combB x] by rw [List.take_add_one, Hx.out, List.map_append]; rfl)
                go_wp2_with fail
                generalize wr.alloc (.cells #[.int .i64 x.kd, .int .i64 x.a, .int .i64 x.b, .int .i64 x.vl] 103) = W3 at *
                refine (hig W3).mono ?_
                rintro e w1 ⟨rfl, x1⟩
                have v4 := v3.ex x1
                have g0 := v4.cell 0 (v := .int .i64 x.kd) rfl
                have g1 := v4.cell 1 (v := .int .i64 x.a) rfl
                have g2 := v4.cell 2 (v := .int .i64 x.b) rfl
                have g3 := v4.cell 3 (v := .int .i64 x.vl) rfl
                have he1 := (he.trans y3).trans x1
                have hd01 := (hd0.ex y3).ex x1
                clear hig q0 q1
                cases hg : gateB p n gs.length x with
                | true =>
                  have Hall2 := Lib.hid (show (gs.take (k + 1)).all (gateB p n gs.length) = true by rw [List.take_add_one, Hx.out, List.all_append, Hall.out]; simp [hg])
                  clear hg
                  go_wp2_with fail
                  refine (hcc w1).mono ?_
                  rintro e w2 ⟨rfl, x2⟩
                  cases hb : combB x with
                  | true =>
                    have He := Lib.hid (show ((gs.take (k + 1)).map combB).count true = cn + 1 by rw [Htk.out, hb, ← Hcn.out]; simp)
                    clear hb
                    go_wp2_with fail
                    go_roundw
                    case rel => exact ⟨k + 1, cn + 1, by omega, by go_num, by go_num, He, Hall2, hd01.ex x2, he1.trans x2⟩
                    case measure => simp [intOf]; omega
                  | false =>
                    have He := Lib.hid (show ((gs.take (k + 1)).map combB).count true = cn by rw [Htk.out, hb, ← Hcn.out]; simp)
                    clear hb
                    go_wp2_with fail
                    go_roundw
                    case rel => exact ⟨k + 1, cn, by omega, by go_num, rfl, He, Hall2, hd01.ex x2, he1.trans x2⟩
                    case measure => simp [intOf]; omega
                | false =>
                  have H := Lib.hid (show circB p ⟨n, gs, os⟩ = false by rw [HC.out, List.all_eq_false.2 ⟨x, List.mem_of_getElem? Hx.out, by simp [hg]⟩]; rfl)
                  clear hg
                  go_wp2
                  go_ret
                  exact ⟨ret_bool (by rw [H.out]), he1⟩
              · obtain rfl : k = gs.length := by omega
                have hall := Hall.out
                rw [List.take_length] at hall
                have hg := all_gates hall
                have q0 := hd0.cell 0 (v := .int .i64 n) rfl
                have q1 := hd0.cell 1 (v := .slice A gs.length c) rfl
                have q2 := hd0.cell 2 (v := .slice B os.length d) rfl
                have hcnt := sched_count gs gs.length (opn gs)
                have hcn := Hcn.out
                rw [List.take_length] at hcn
                have Hfin := Lib.hid (show circB p ⟨n, gs, os⟩ = decide (((schedL gs).1.length : Int) = (cn : Int)) by
                  rw [HC.out, hall, Bool.true_and, schedR]
                  change (schedL gs).1.length + (schedL gs).2.count true = (gs.map combB).count true at hcnt
                  by_cases hz : (schedL gs).2.count true = 0
                  · rw [if_pos hz, decide_eq_true (by omega)]
                  · rw [if_neg hz, decide_eq_false (by omega)])
                clear hcn
                have hsc := crOrder_c n A c gs B os.length d wr (h.ex he) (by omega) hg
                clear hall hg hcnt
                go_wp2_with fail
                refine hsc.mono ?_
                rintro e w1 ⟨v, rfl, f, x1⟩
                obtain ⟨V, vc, rfl, fi⟩ := f
                have hvl := fi.rd.len
                go_wp2
                go_ret
                exact ⟨ret_bool (by rw [Hfin.out]; rfl), he.trans x1⟩
        · have H := Lib.hid (show circB p ⟨n, gs, os⟩ = false by rw [HC.out, decide_eq_false h5]; rfl)
          go_wp2
          go_ret
          exact ⟨ret_bool (by rw [H.out]), y0⟩
end Go.Proofs.YtgblnkadmieflaaDoor
