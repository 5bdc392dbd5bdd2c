/- Pruned circuits: the program's marks, and the indices that are marked. -/
import Derived.Test.YtgblnkadmieflaaDoorPrA
import Derived.Test.YtgblnkadmieflaaDoorCirW
import Derived.Deep.LoopGhost
namespace Go.Proofs.YtgblnkadmieflaaDoor
set_option maxRecDepth 100000
open Go Go.RowKit
theorem clone_al (A : Option Addr) (c : Nat) (xs : List Int) (w : World) (h : Rd w A xs) :
    Calls Tryd.prog 99 #[.slice A xs.length c] w fun e w' => ∃ v, e = .returned v ∧ AL w' w.heap.size v xs ∧ Ex w w' := by
  have hl := h.len
  have hal : AL (w.alloc (.cells #[] 3)) w.heap.size (.slice (some ⟨w.heap.size, 0, none⟩) 0 0) [] := AL.empty w (Nat.le_refl _)
  obtain ⟨v', w1, hrun, hv, hx, hb⟩ := run_append_ints 23 23 Tryd.underlying23 _ _ _ _ hal (by simp) A c xs (h.ex ((Ex.refl w).alloc _)) (by simpa using hl)
  have hex : Ex w w1 := ((Ex.refl w).alloc (.cells #[] 3)).exo hx (fun g e => by simp [Value.ownBlock] at e; omega)
  rw [List.nil_append] at hv
  go_enter Tryd.func99, Tryd.ntmps99
  go_wp2_with (at_builtin; refine wpList_append_run rfl _ _ _ rfl rfl rfl hrun ?_)
  go_ret
  exact ⟨v', rfl, hv, hex⟩
theorem mkdL_snoc (m : List Bool) (k : Nat) (b : Bool) (hb : m[k]? = some b) : (upL (k + 1)).filter (fun j => m.getD j.toNat false) = (upL k).filter (fun j => m.getD j.toNat false) ++ (if b then [(k : Int)] else []) := by
  rw [upL_succ, List.filter_append]
  congr 1
  have : m.getD (k : Int).toNat false = b := by rw [Int.toNat_natCast, List.getD_eq_getElem?_getD, hb]; rfl
  cases b <;> simp [List.getD_eq_getElem?_getD, hb]
set_option maxHeartbeats 2000000 in
theorem marked_c (g : Nat) (m : List Bool) (w : World) (h : VB w g 4 (bObj m)) (hl : m.length ≤ 1000000) :
    Calls Tryd.prog 94 #[.slice (some ⟨g, 0, none⟩) m.length m.length] w fun e w' => LIo w (mkdL m) e w' := by
  have hal := AL.empty w (Nat.le_refl w.heap.size)
  have he1 := (Ex.refl w).alloc (iObj [])
  go_enter Tryd.func94, Tryd.ntmps94
  go_wp2_with fail
  go_loopw [3, 9] (fun o i wr => ∃ k : Nat, k ≤ m.length ∧ i = .int .i64 k ∧ AL wr w.heap.size o ((upL k).filter (fun j => m.getD j.toNat false)) ∧ Ex w wr) (fun _ i _ => m.length - (intOf i).toNat)
  case atStart => exact ⟨0, Nat.zero_le _, rfl, hal, he1⟩
  case round =>
    clear hal he1
    obtain ⟨k, hk, rfl, hal, he⟩ := hrel
    by_cases hlt : k < m.length
    · obtain ⟨b, hb⟩ : ∃ b, m[k]? = some b := ⟨_, List.getElem?_eq_getElem hlt⟩
      have c1 := (h.ex he).bcell hb
      have Hst := Lib.hid (mkdL_snoc m k b hb)
      have hlen : ((upL k).filter (fun j => m.getD j.toNat false)).length ≤ k := by
        refine Nat.le_trans (List.length_filter_le _ _) ?_
        rw [upL_len]; exact Nat.le_refl _
      have hz := he.size
      cases b with
      | true =>
        obtain ⟨v', w4, hrun2, hal4, hI⟩ := al_push_i wr w.heap.size _ _ (k : Int) hal hz (by omega)
        rw [show (if true = true then [(k : Int)] else []) = [(k : Int)] from rfl] at Hst
        rw [← Hst.out] at hal4
        have he4 := he.iv hI (Nat.le_refl _)
        clear hb hlen
        go_wp2_with (at_builtin; refine wpList_append_run rfl _ _ _ rfl rfl rfl hrun2 ?_)
        go_roundw
        case rel => exact ⟨k + 1, by omega, by go_num, hal4, he4⟩
        case measure => simp [intOf]; omega
      | false =>
        rw [show (if false = true then [(k : Int)] else []) = [] from rfl, List.append_nil] at Hst
        rw [← Hst.out] at hal
        clear hb hlen
        go_wp2_with fail
        go_roundw
        case rel => exact ⟨k + 1, by omega, by go_num, hal, he⟩
        case measure => simp [intOf]; omega
    · obtain rfl : k = m.length := by omega
      have HL := Lib.hid (show (upL m.length).filter (fun j => m.getD j.toNat false) = mkdL m from rfl)
      rw [HL.out] at hal
      have hlen : (mkdL m).length ≤ m.length := by
        refine Nat.le_trans (List.length_filter_le _ _) ?_
        rw [upL_len]; exact Nat.le_refl _
      obtain ⟨O, oc, rfl, fo⟩ := hal.form (by omega)
      clear hlen
      go_wp2_with fail
      go_ret
      exact ⟨_, rfl, ⟨O, oc, rfl, fo.fi⟩, he⟩
set_option maxHeartbeats 4000000 in
theorem used_c (x : Circ) (A : Option Addr) (c : Nat) (B : Option Addr) (d : Nat) (w : World) (h : RdS EG w A x.gs) (ho : Rd w B x.outs) (hn : x.gs.length ≤ 1000) (hm : x.outs.length ≤ 1000) (hop : ∀ g ∈ x.gs, ∀ k ∈ opnd g, 0 ≤ k ∧ k < x.gs.length) (hou : ∀ k ∈ x.outs, 0 ≤ k ∧ k < x.gs.length) :
    Calls Tryd.prog 46 #[.agg #[.int .i64 x.n, .slice A x.gs.length c, .slice B x.outs.length d]] w fun e w' => ∃ g, e = .returned (.slice (some ⟨g, 0, none⟩) x.gs.length x.gs.length) ∧ VB w' g 4 (bObj (usedM x.gs x.outs)) ∧ (usedM x.gs x.outs).length = x.gs.length ∧ Ex w w' := by
  obtain ⟨n, gs, outs⟩ := x
  dsimp only at h ho hn hm hop hou ⊢
  have hmk := fun W => run_make_bools gs.length (by omega) W
  have y0 := (Ex.refl w).alloc (.cells #[.int .i64 n, .slice A gs.length c, .slice B outs.length d] 29)
  have d0 := VB.new w 29 #[.int .i64 n, .slice A gs.length c, .slice B outs.length d]
  have S0 := Lib.hid (show (w.alloc (.cells #[.int .i64 n, .slice A gs.length c, .slice B outs.length d] 29)).heap.size = w.heap.size + 1 by simp)
  have Hop := Lib.hid hop
  have hlen : (usedM gs outs).length = gs.length := (usedM_ok hop hou).len
  have HR := Lib.hid (show usedF gs (outs.length + 3 * gs.length) outs (List.replicate gs.length false) = usedM gs outs from rfl)
  have hU := UOk.start (gs := gs) (outs := outs) hou
  have hmu : muP outs (List.replicate gs.length false) ≤ outs.length + 3 * gs.length := by unfold muP; simp [List.count_replicate]
  clear hop hou
  generalize usedM gs outs = R at *
  go_enter Tryd.func46, Tryd.ntmps46
  go_wp2_with fail
  generalize w.alloc (.cells #[.int .i64 n, .slice A gs.length c, .slice B outs.length d] 29) = W0 at *
  have y1 := (Ex.refl W0).alloc (.cells (bObj (List.replicate gs.length false)) 4)
  have v1 := VB.new W0 4 (bObj (List.replicate gs.length false))
  rw [S0.out] at v1
  have S1 : (W0.alloc (.cells (bObj (List.replicate gs.length false)) 4)).heap.size = w.heap.size + 1 + 1 := by simp; exact S0.out
  generalize W0.alloc (.cells (bObj (List.replicate gs.length false)) 4) = W1 at *
  have d0 := d0.ex y1
  have xx := y0.trans y1
  clear y0 y1 S0
  refine (clone_al B d outs W1 (ho.ex xx)).mono ?_
  rintro e w2 ⟨v, rfl, hal, x2⟩
  have hq := hal.aq
  rw [S1] at hq
  have d0 := d0.ex x2
  have v1 := v1.ex x2
  have xx := xx.trans x2
  have z2 := x2.size
  clear x2 hal hmk
  go_wp2_with fail
  go_loopg [4] (outs.length + 3 * gs.length) (fun f todo wi => ∃ (t : List Int) (m : List Bool), AQ wi (w.heap.size + 1 + 1) todo t ∧ VB wi (w.heap.size + 1) 4 (bObj m) ∧ UOk gs outs t m ∧ usedF gs f t m = R ∧ muP t m ≤ f ∧ VB wi w.heap.size 29 #[.int .i64 n, .slice A gs.length c, .slice B outs.length d] ∧ f ≤ outs.length + 3 * gs.length ∧ Ex w wi)
  case atStart => exact ⟨outs, _, hq, v1, hU, HR.out, hmu, d0, Nat.le_refl _, xx⟩
  case round =>
    clear hq v1 hU hmu d0 xx HR
    obtain ⟨t, m, hq, hv, hU, hF, hmu, hd, hfl, he⟩ := hrel
    have hml := hU.len
    cases t with
    | nil =>
      have hm0 : m = R := by cases gk <;> exact hF
      obtain ⟨V, vc, rfl, _⟩ := hq.form (by simp)
      subst hm0
      clear hF hmu hU
      go_wp2_with fail
      go_ret
      exact ⟨_, rfl, hv, hml, he⟩
    | cons k t =>
      cases gk with
      | zero => unfold muP at hmu; rw [List.length_cons] at hmu; omega
      | succ f =>
        obtain ⟨hk0, hk1⟩ := hU.rg k (by simp)
        obtain ⟨k, rfl⟩ := Int.eq_ofNat_of_zero_le hk0
        obtain ⟨gq, off, cap, rfl, hc1, hcm, ck, hq1⟩ := hq.tail
        have htl : t.length ≤ 4000 := by unfold muP at hmu; rw [List.length_cons] at hmu; omega
        have hkl : k < m.length := by omega
        obtain ⟨b, hb⟩ : ∃ b, m[k]? = some b := ⟨_, List.getElem?_eq_getElem hkl⟩
        have cb := hv.bcell hb
        have fb := hv.frozen k
        have hcm2 : cap ≤ 9223372036854775807 := by unfold maxLen at hcm; omega
        have hnil : cap = 1 → t = [] := fun e => List.eq_nil_of_length_eq_zero (by omega)
        have hF2 : usedF gs (f + 1) ((k : Int) :: t) m = if b then usedF gs f t m else usedF gs f (t ++ opnd (gAt gs (k : Int))) (m.set k true) := by
          rw [usedF, Int.toNat_natCast, List.getD_eq_getElem?_getD, hb]; rfl
        rw [hF2] at hF
        have Hk := Lib.hid hb
        cases b with
        | true =>
          have hF3 : usedF gs f t m = R := hF
          have hmu3 : muP t m ≤ f := by unfold muP at hmu ⊢; rw [List.length_cons] at hmu; omega
          have hU3 := hU.skip (by rw [Int.toNat_natCast]; exact hb)
          have HF := Lib.hid hF3
          clear hb hF hF2 hF3 hmu hU hq
          by_cases hcap : cap = 1
          · obtain rfl := hnil hcap
            subst hcap
            rw [if_pos rfl] at hq1
            clear hnil
            go_wp2_with fail
            go_roundg f
            case rel => exact ⟨[], m, hq1, hv, hU3, HF.out, hmu3, hd, by omega, he⟩
            case measure => omega
          · rw [if_neg hcap] at hq1
            clear hnil
            go_wp2_with fail
            go_roundg f
            case rel => exact ⟨t, m, hq1, hv, hU3, HF.out, hmu3, hd, by omega, he⟩
            case measure => omega
        | false =>
          have hF3 : usedF gs f (t ++ opnd (gAt gs (k : Int))) (m.set k true) = R := hF
          have hcount := count_false_set hb
          have hol := opnd_le (gAt gs (k : Int))
          have hmu3 : muP (t ++ opnd (gAt gs (k : Int))) (m.set k true) ≤ f := by unfold muP at hmu ⊢; rw [List.length_cons] at hmu; rw [List.length_append]; omega
          have hU3 := hU.mark Hop.out
          rw [Int.toNat_natCast] at hU3
          have HF := Lib.hid hF3
          obtain ⟨gg, off2, y, rfl, hy, e0, e1, e2, e3⟩ := h.gate (show k < gs.length by omega)
          have hglt := cell_lt e0
          dsimp only at hglt
          replace e0 := cell_ex he e0
          replace e1 := cell_ex he e1
          replace e2 := cell_ex he e2
          replace e3 := cell_ex he e3
          have hgy : gAt gs (k : Int) = y := gAt_of (by rw [Int.toNat_natCast]; exact hy)
          rw [hgy] at hmu3 hU3 HF hol
          have hv2 := hv.bset k true
          have E1 : Ex1 (w.heap.size + 1) wr (wr.setCell ⟨w.heap.size + 1, k, none⟩ (.bool true)) := (Ex1.refl _ _).setCell rfl _
          have c1 := hd.cell 1 (v := .slice (some ⟨gg, off2, none⟩) gs.length c) rfl
          have hq2 := hq1.e1 E1 (fun e => by have := (hq1.lt _ e).1; omega)
          have hd2 := hd.ex1 E1 (by omega)
          have he2 := he.ex1 E1 (by omega)
          have hzs := E1.size'
          have hze := he.size
          have hwz := hd.lt
          clear hb hF hF2 hF3 hmu hU hq hy hgy
          by_cases hcap : cap = 1
          · obtain rfl := hnil hcap
            subst hcap
            rw [if_pos rfl] at hq1 hq2
            clear hnil
            go_wp2_with fail
            refine (operands_c y _).mono ?_
            rintro e w3 ⟨_, rfl, ⟨V, vc, rfl, fi⟩, x3⟩
            obtain ⟨v4, w4, hrun4, hq4, hE4, _⟩ := run_append_q 23 23 Tryd.underlying23 w3 (w.heap.size + 1 + 1) _ _ (hq2.ex x3) (by have := x3.size; have := hv2.lt; omega) V vc (opnd y) fi.rd (by simp; omega)
            have hlt4 := (hq2.ex x3).lt
            have hv4 : VB w4 (w.heap.size + 1) 4 (bObj (m.set k true)) := (hE4.block _ (hv2.ex x3).lt (fun e => by have := (hlt4 _ e.symm).1; omega)).trans (hv2.ex x3)
            have hd4 : VB w4 w.heap.size 29 #[.int .i64 n, .slice (some ⟨gg, off2, none⟩) gs.length c, .slice B outs.length d] := (hE4.block _ (hd2.ex x3).lt (fun e => by have := (hlt4 _ e.symm).1; omega)).trans (hd2.ex x3)
            have he4 := (he2.trans x3).exo hE4 (fun g e => by have := (hlt4 g e).1; omega)
            go_wp2_with (at_builtin; refine wpList_append_run rfl _ _ _ rfl rfl rfl hrun4 ?_)
            go_roundg f
            case rel => exact ⟨_, _, hq4, hv4, hU3, HF.out, hmu3, hd4, by omega, he4⟩
            case measure => omega
          · rw [if_neg hcap] at hq1 hq2
            clear hnil
            go_wp2_with fail
            refine (operands_c y _).mono ?_
            rintro e w3 ⟨_, rfl, ⟨V, vc, rfl, fi⟩, x3⟩
            obtain ⟨v4, w4, hrun4, hq4, hE4, _⟩ := run_append_q 23 23 Tryd.underlying23 w3 (w.heap.size + 1 + 1) _ _ (hq2.ex x3) (by have := x3.size; have := hv2.lt; omega) V vc (opnd y) fi.rd (by omega)
            have hlt4 := (hq2.ex x3).lt
            have hv4 : VB w4 (w.heap.size + 1) 4 (bObj (m.set k true)) := (hE4.block _ (hv2.ex x3).lt (fun e => by have := (hlt4 _ e.symm).1; omega)).trans (hv2.ex x3)
            have hd4 : VB w4 w.heap.size 29 #[.int .i64 n, .slice (some ⟨gg, off2, none⟩) gs.length c, .slice B outs.length d] := (hE4.block _ (hd2.ex x3).lt (fun e => by have := (hlt4 _ e.symm).1; omega)).trans (hd2.ex x3)
            have he4 := (he2.trans x3).exo hE4 (fun g e => by have := (hlt4 g e).1; omega)
            go_wp2_with (at_builtin; refine wpList_append_run rfl _ _ _ rfl rfl rfl hrun4 ?_)
            go_roundg f
            case rel => exact ⟨_, _, hq4, hv4, hU3, HF.out, hmu3, hd4, by omega, he4⟩
            case measure => omega
end Go.Proofs.YtgblnkadmieflaaDoor
