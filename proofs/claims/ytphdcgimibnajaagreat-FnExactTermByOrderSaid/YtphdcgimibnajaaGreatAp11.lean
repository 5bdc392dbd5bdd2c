/- IsAcyclic and EdgeOrder, on both sides. Printed by a program of mine. Contracts: the levels of the edges, on both sides. Contracts: the levels of the edges (the reference); EdgeLevels on both sides. Contracts: is a list an order of the edges, on both sides. -/
import Derived.Test.YtphdcgimibnajaaGreatAp10
import Derived.Test.YtphdcgimibnajaaGreatAp08
namespace Go.Proofs.YtphdcgimibnajaaGreat
set_option maxRecDepth 100000
open Go Go.RowKit
set_option maxHeartbeats 4000000 in
theorem rbGood_c (x : Gr) (E : Option Addr) (ec : Nat) (I : Option Addr) (ic : Nat) (O : Option Addr) (oc : Nat) (w : World) (hE : RdS EE w E x.es) (hI : Rd w I x.ins) (hO : Rd w O x.outs) :
    Calls Tryz.prog 37 #[.agg #[.int .i64 x.wires, .slice E x.es.length ec, .slice I x.ins.length ic, .slice O x.outs.length oc]] w fun e w' => e = .returned (.bool (acyB x)) ∧ Ex w w' := by
  have hEl := hE.1
  have x0 := (Ex.refl w).alloc (.cells #[.int .i64 x.wires, .slice E x.es.length ec, .slice I x.ins.length ic, .slice O x.outs.length oc] 34)
  have d0 := VB.new w 34 #[.int .i64 x.wires, .slice E x.es.length ec, .slice I x.ins.length ic, .slice O x.outs.length oc]
  go_enter Tryz.func37, Tryz.ntmps37
  go_wp2_with fail
  generalize w.alloc (.cells #[.int .i64 x.wires, .slice E x.es.length ec, .slice I x.ins.length ic, .slice O x.outs.length oc] 34) = W0 at *
  have q0 := d0.cell 0 (v := .int .i64 x.wires) rfl
  have q1 := d0.cell 1 (v := .slice E x.es.length ec) rfl
  have q2 := d0.cell 2 (v := .slice I x.ins.length ic) rfl
  have q3 := d0.cell 3 (v := .slice O x.outs.length oc) rfl
  have HS : ∀ W, Ex W0 W → (Ex W0 W ∧ W.cell? ⟨w.heap.size, 0, none⟩ = some (.int .i64 x.wires) ∧ W.cell? ⟨w.heap.size, 1, none⟩ = some (.slice E x.es.length ec) ∧ W.cell? ⟨w.heap.size, 2, none⟩ = some (.slice I x.ins.length ic) ∧ W.cell? ⟨w.heap.size, 3, none⟩ = some (.slice O x.outs.length oc)) := fun W h => ⟨h, cell_ex h q0, cell_ex h q1, cell_ex h q2, cell_ex h q3⟩
  have eA := (Ex.refl W0).drew
  have hv := fun W (y : Ex W0 W) => hgValid_c x E ec I ic O oc W (hE.ex (x0.trans y)) (hI.ex (x0.trans y)) (hO.ex (x0.trans y))
  cases hb : validB x with
  | false =>
    rw [hb] at hv
    have H := Lib.hid (show acyB x = false by rw [acyB, hb]; rfl)
    clear hb
    refine (hv _ (Ex.refl W0)).mono ?_
    rintro e w1 ⟨rfl, x1⟩
    go_wp2
    go_ret
    exact ⟨ret_bool H.out.symm, x0.trans x1⟩
  | true =>
    rw [hb] at hv
    have hes := validB_es hb
    have H := Lib.hid (show acyB x = decide ((orderL x.es).length = x.es.length) by rw [acyB, hb, Bool.true_and])
    clear hb
    refine (hv _ (Ex.refl W0)).mono ?_
    rintro e w1 ⟨rfl, x1⟩
    have d1 := d0.ex x1
    have q0 := d1.cell 0 (v := .int .i64 x.wires) rfl
    have q1 := d1.cell 1 (v := .slice E x.es.length ec) rfl
    have q2 := d1.cell 2 (v := .slice I x.ins.length ic) rfl
    have q3 := d1.cell 3 (v := .slice O x.outs.length oc) rfl
    go_wp2_with fail
    refine (hgAcyclic_c x E ec I ic O oc w1 (hE.ex (x0.trans x1)) hes).mono ?_
    rintro e w2 ⟨rfl, x2⟩
    go_wp2
    go_ret
    exact ⟨ret_bool (by rw [H.out]), (x0.trans x1).trans x2⟩
end Go.Proofs.YtphdcgimibnajaaGreat
namespace Go.Proofs.YtphdcgimibnajaaGreat
set_option maxRecDepth 100000
open Go Go.RowKit
def lvS (e : Int) (out : List Int) (f : Int) : List Int := out.set e.toNat (max (out.getD e.toNat 0) (out.getD f.toNat 0 + 1))
def Bd (out : List Int) (c : Int) : Prop := ∀ i : Nat, 0 ≤ out.getD i 0 ∧ out.getD i 0 ≤ c
theorem Bd.step {out : List Int} {c : Int} (h : Bd out c) (e f : Int) : Bd (lvS e out f) (c + 1) := fun i => by
  have h1 := h e.toNat
  have h2 := h f.toNat
  have h3 := h i
  unfold lvS
  rw [List.getD_eq_getElem?_getD, List.getElem?_set]
  split
  · split
    · simp only [Option.getD_some]; omega
    · simp; omega
  · rw [← List.getD_eq_getElem?_getD]; omega
theorem Bd.mono {out : List Int} {c d : Int} (h : Bd out c) (hd : c ≤ d) : Bd out d := fun i => by have := h i; omega
theorem getD_some {l : List Int} {i : Nat} (h : i < l.length) : l[i]? = some (l.getD i 0) := by
  rw [List.getD_eq_getElem?_getD, List.getElem?_eq_getElem h]; rfl
theorem Rows2.rowO {w : World} {g hi : Nat} {vs : List Value} {rows : List (List Int)} (h : Rows2 w g hi vs rows) {j : Nat} {r : List Int} (hr : rows[j]? = some r) : ∃ P pc, w.cell? ⟨g, j, none⟩ = some (.slice P r.length pc) ∧ OI w 0 hi (.slice P r.length pc) r := by
  have hl := (List.getElem?_eq_some_iff.1 hr).1
  obtain ⟨v, hv⟩ : ∃ v, vs[j]? = some v := ⟨_, List.getElem?_eq_getElem (by rw [h.2.1]; exact hl)⟩
  have ho := h.2.2.1 j v r hv hr
  obtain ⟨P, pc, rfl, hR⟩ := ho.rd
  exact ⟨P, pc, h.1.cell j (by rw [List.getElem?_toArray]; exact hv), ho⟩
theorem OI.at_ {w : World} {a b c : Nat} {A : Option Addr} {xs : List Int} (h : OI w a b (.slice A xs.length c) xs) : Rd w A xs := by
  obtain ⟨A', c', e, f⟩ := h
  injection e with e1 _ _
  subst e1
  exact f.rd
end Go.Proofs.YtphdcgimibnajaaGreat
namespace Go.Proofs.YtphdcgimibnajaaGreat
set_option maxRecDepth 100000
open Go Go.RowKit
set_option maxHeartbeats 2000000 in
theorem rbNeeds_c (N : Int) (E : Option Addr) (ec : Nat) (es : List Ed) (I O : Value) (e f : Nat) (w : World) (hE : RdS EE w E es) (he : e < es.length) (hf : f < es.length) (hn : es.length ≤ 60) (hI : ∃ A n c, I = .slice A n c) (hO : ∃ A n c, O = .slice A n c) :
    Calls Tryz.prog 72 #[.agg #[.int .i64 N, .slice E es.length ec, I, O], .int .i64 e, .int .i64 f] w fun e' w' => e' = .returned (.bool (meetB (edAt es f).outs (edAt es e).ins)) ∧ Ex w w' := by
  obtain ⟨I, il, ic, rfl⟩ := hI
  obtain ⟨O, ol, oc, rfl⟩ := hO
  obtain ⟨g, off, x, P, pc, Q, qc, rfl, hx, c0, c1, c2, c3, hP, hQ⟩ := hE.edge he
  obtain ⟨g', off', y, P', pc', Q', qc', hAe, hy, e0, e1, e2, e3, hP', hQ'⟩ := hE.edge hf
  injection hAe with hAe
  injection hAe with a1 a2 _
  subst a1 a2
  rw [edAt_nat hx, edAt_nat hy]
  have y0 := (Ex.refl w).alloc (.cells #[.int .i64 N, .slice (some ⟨g, off, none⟩) es.length ec, .slice I il ic, .slice O ol oc] 34)
  have d0 := VB.new w 34 #[.int .i64 N, .slice (some ⟨g, off, none⟩) es.length ec, .slice I il ic, .slice O ol oc]
  clear hx hy
  go_enter Tryz.func72, Tryz.ntmps72
  go_wp2_with fail
  generalize w.alloc (.cells #[.int .i64 N, .slice (some ⟨g, off, none⟩) es.length ec, .slice I il ic, .slice O ol oc] 34) = W0 at *
  have q1 := d0.cell 1 (v := .slice (some ⟨g, off, none⟩) es.length ec) rfl
  have k2 := cell_ex y0 c2
  have k3 := cell_ex y0 e3
  have HS : ∀ W, Ex W0 W → (Ex W0 W ∧ W.cell? ⟨w.heap.size, 1, none⟩ = some (.slice (some ⟨g, off, none⟩) es.length ec) ∧ W.cell? ⟨g, off + e * 4 + 2, none⟩ = some (.slice P x.ins.length pc) ∧ W.cell? ⟨g, off + f * 4 + 3, none⟩ = some (.slice Q' y.outs.length qc')) := fun W h => ⟨h, cell_ex h q1, cell_ex h k2, cell_ex h k3⟩
  have eA := (Ex.refl W0).drew
  have hm := fun W (hW : Ex W0 W) => hgMeets_c Q' qc' y.outs P pc x.ins W (hQ'.ex (y0.trans hW)) (hP.ex (y0.trans hW))
  go_region_held3 (fun W => Ex W0 W ∧ W.cell? ⟨w.heap.size, 1, none⟩ = some (.slice (some ⟨g, off, none⟩) es.length ec) ∧ W.cell? ⟨g, off + e * 4 + 2, none⟩ = some (.slice P x.ins.length pc) ∧ W.cell? ⟨g, off + f * 4 + 3, none⟩ = some (.slice Q' y.outs.length qc')) (first
    | (exact HS _ x1) | (exact HS _ eA) | (exact HS _ (Ex.refl W0))) (first
    | (go_at_call 47
       have hb := (‹Ex W0 _ ∧ _›).1
       refine (hm _ hb).mono ?_
       rintro e _ ⟨rfl, rfl⟩
       have x1 := hb
       clear hb))
  all_goals
    go_wp2
    go_ret
    exact ⟨rfl, y0.trans x1⟩
end Go.Proofs.YtphdcgimibnajaaGreat
namespace Go.Proofs.YtphdcgimibnajaaGreat
set_option maxRecDepth 100000
open Go Go.RowKit
/-- A list of ints reads, and the room is no less than the list. -/
def RIc (w : World) (v : Value) (xs : List Int) : Prop := ∃ A c, v = .slice A xs.length c ∧ Rd w A xs ∧ xs.length ≤ c
theorem RIc.ex {w w' : World} {v : Value} {xs : List Int} (h : RIc w v xs) (he : Ex w w') : RIc w' v xs := by
  obtain ⟨A, c, e, r, k⟩ := h
  exact ⟨A, c, e, r.ex he, k⟩
theorem OI.rdc {w : World} {a b : Nat} {v : Value} {xs : List Int} (h : OI w a b v xs) : RIc w v xs := by
  obtain ⟨A, c, e, f⟩ := h
  exact ⟨A, c, e, f.rd, f.fr.cap⟩
theorem perm_count {n : Nat} {l : List Int} (h : permB n l = true) : ∀ k, k ≤ l.length → (seenL n (l.take k)).count true = k
  | 0, _ => by rw [List.take_zero, seenL_nil]; simp [List.count_replicate]
  | k + 1, hk => by
    obtain ⟨_, hr, hn⟩ := permB_parts h
    have ih := perm_count h k (by omega)
    obtain ⟨x, hx⟩ : ∃ x, l[k]? = some x := ⟨_, List.getElem?_eq_getElem (by omega)⟩
    have hb := hr x (List.mem_of_getElem? hx)
    obtain ⟨m, rfl⟩ := Int.eq_ofNat_of_zero_le hb.1
    have hnm := notMem_take hn hx
    have hat := seenL_at (n := n) (l := l.take k) (i := m) (by omega)
    rw [decide_eq_false hnm] at hat
    have := count_up hat
    rw [← seenL_in n (l.take k) m, show l.take k ++ [(m : Int)] = l.take (k + 1) by rw [List.take_add_one, hx]; rfl] at this
    omega
theorem perm_all {n : Nat} {l : List Int} (h : permB n l = true) {e : Nat} (he : e < n) : (e : Int) ∈ l := by
  obtain ⟨hl, _, _⟩ := permB_parts h
  have hc := perm_count h l.length (Nat.le_refl _)
  rw [List.take_length] at hc
  have hs := seenL_len n l
  have : (seenL n l).count true = (seenL n l).length := by omega
  rw [List.count_eq_length] at this
  have h2 := this _ (List.mem_of_getElem? (seenL_at (l := l) he))
  exact of_decide_eq_true h2.symm
/-- As the program looks: what an edge needs stands ahead of it. -/
def oC2 (es : List Ed) (l : List Int) : Bool := (upL es.length).all fun e => (ndF es e).all fun f => decide ((posL l).getD f.toNat 0 < (posL l).getD e.toNat 0)
/-- As the reference looks: no edge needs one that stands at its place or behind it. -/
def oC1 (es : List Ed) (l : List Int) : Bool := (upL l.length).all fun i => (l.drop i.toNat).all fun f => !meetB (edAt es f).outs (edAt es (l.getD i.toNat 0)).ins
theorem oC_eq {es : List Ed} {l : List Int} (h : permB es.length l = true) : oC2 es l = oC1 es l := by
  obtain ⟨hl, hr, hn⟩ := permB_parts h
  have pos : ∀ (i : Nat) (v : Int), l[i]? = some v → (posL l).getD v.toNat 0 = i := fun i v hv => by
    have hb := hr v (List.mem_of_getElem? hv)
    obtain ⟨m, rfl⟩ := Int.eq_ofNat_of_zero_le hb.1
    rw [Int.toNat_natCast, List.getD_eq_getElem?_getD, posL_at hn hv (by omega)]
    rfl
  rw [Bool.eq_iff_iff]
  unfold oC2 oC1
  simp only [List.all_eq_true, decide_eq_true_eq]
  constructor
  · intro h2 i hi f hf
    obtain ⟨i, hi', rfl⟩ := List.mem_map.1 hi
    have hil := List.mem_range.1 hi'
    obtain ⟨j, hj⟩ := List.getElem?_of_mem hf
    rw [List.getElem?_drop] at hj
    have hei : l[i]? = some (l.getD i 0) := getD_some hil
    have hbe := hr _ (List.mem_of_getElem? hei)
    have hbf := hr _ (List.mem_of_getElem? hj)
    show (!meetB (edAt es f).outs (edAt es (l.getD i 0)).ins) = true
    cases hm : meetB (edAt es f).outs (edAt es (l.getD i 0)).ins with
    | false => rfl
    | true =>
      exfalso
      have hmem : ∀ v : Int, 0 ≤ v ∧ v ≤ (es.length : Int) - 1 → v ∈ upL es.length := fun v hv => by
        obtain ⟨m, rfl⟩ := Int.eq_ofNat_of_zero_le hv.1
        exact List.mem_of_getElem? (upL_at (by omega))
      have hnd : f ∈ ndF es (l.getD i 0) := List.mem_filter.2 ⟨hmem f hbf, by rw [meetB_comm]; exact hm⟩
      have := h2 _ (hmem _ hbe) f hnd
      rw [pos _ _ hj, pos _ _ hei] at this
      have e : (Int.ofNat i).toNat = i := rfl
      rw [e] at this
      omega
  · intro h1 e he f hf
    obtain ⟨e, he', rfl⟩ := List.mem_map.1 he
    have hel := List.mem_range.1 he'
    obtain ⟨h0, h1'⟩ := ndF_mem hf
    obtain ⟨f, rfl⟩ := Int.eq_ofNat_of_zero_le h0
    obtain ⟨i, hi⟩ := List.getElem?_of_mem (perm_all h hel)
    obtain ⟨j, hj⟩ := List.getElem?_of_mem (perm_all h (e := f) (by omega))
    have hi2 : l[i]? = some (Int.ofNat e) := hi
    rw [pos _ _ hj, pos _ _ hi2]
    apply Classical.byContradiction
    intro hlt
    have hil := (List.getElem?_eq_some_iff.1 hi).1
    have := h1 (i : Int) (List.mem_of_getElem? (upL_at hil)) (f : Int) (List.mem_of_getElem? (i := j - i) (by
      rw [List.getElem?_drop, show ((i : Int)).toNat + (j - i) = j by rw [Int.toNat_natCast]; omega]; exact hj))
    rw [Int.toNat_natCast, List.getD_eq_getElem?_getD, hi] at this
    have hm := (List.mem_filter.1 hf).2
    rw [meetB_comm] at hm
    rw [show ((some (e : Int)).getD 0) = Int.ofNat e from rfl, hm] at this
    cases this
def ioB (es : List Ed) (l : List Int) : Bool := permB es.length l && oC1 es l
set_option maxHeartbeats 4000000 in
theorem isEdgeOrder_c (N : Int) (E : Option Addr) (ec : Nat) (es : List Ed) (I O : Value) (A : Option Addr) (ac : Nat) (l : List Int) (w : World) (hE : RdS EE w E es) (hA : Rd w A l) (hn : es.length ≤ 60) (hI : ∃ A n c, I = .slice A n c) (hO : ∃ A n c, O = .slice A n c) :
    Calls Tryz.prog 35 #[.agg #[.int .i64 N, .slice E es.length ec, I, O], .slice A l.length ac] w fun e w' => e = .returned (.bool (ioB es l)) ∧ Ex w w' := by
  obtain ⟨I, il, ic, rfl⟩ := hI
  obtain ⟨O, ol, oc, rfl⟩ := hO
  have hAl := hA.len
  have y0 := (Ex.refl w).alloc (.cells #[.int .i64 N, .slice E es.length ec, .slice I il ic, .slice O ol oc] 34)
  have d0 := VB.new w 34 #[.int .i64 N, .slice E es.length ec, .slice I il ic, .slice O ol oc]
  go_enter Tryz.func35, Tryz.ntmps35
  go_wp2_with fail
  generalize w.alloc (.cells #[.int .i64 N, .slice E es.length ec, .slice I il ic, .slice O ol oc] 34) = W0 at *
  refine (isPermutation_c A ac l es.length W0 (hA.ex y0) (by omega)).mono ?_
  rintro e w1 ⟨rfl, x1⟩
  have y1 := y0.trans x1
  have d1 := d0.ex x1
  cases hp : permB es.length l with
  | false =>
    have H := Lib.hid (show ioB es l = false by simp [ioB, hp])
    clear hp
    go_wp2
    go_ret
    exact ⟨ret_bool H.out.symm, y1⟩
  | true =>
    have H := Lib.hid (show ioB es l = oC2 es l by rw [ioB, hp, Bool.true_and, oC_eq hp])
    obtain ⟨hll, hlr, hlnd⟩ := permB_parts hp
    have Hll := Lib.hid hll
    have hp2 : permB l.length l = true := by rw [hll]; exact hp
    have q0 := d1.cell 0 (v := .int .i64 N) rfl
    have q1 := d1.cell 1 (v := .slice E es.length ec) rfl
    have q2 := d1.cell 2 (v := .slice I il ic) rfl
    have q3 := d1.cell 3 (v := .slice O ol oc) rfl
    have Hp2 := Lib.hid hp2
    clear hp hlr hlnd hp2 hll
    go_wp2_with fail
    refine (gneeds_c N E ec es (.slice I il ic) (.slice O ol oc) w1 (hE.ex y1) hn ⟨_, _, _, rfl⟩ ⟨_, _, _, rfl⟩).mono ?_
    rintro e w2 ⟨gn, vs, rfl, hr, x2⟩
    have y2 := y1.trans x2
    clear q0 q1 q2 q3 d1 x2
    go_wp2_with fail
    refine (backwards_c A ac l w2 (hA.ex y2) Hp2.out (by have := Hll.out; omega)).mono ?_
    rintro e w3 ⟨g, rfl, hg, ho, x3⟩
    have y3 := y2.trans x3
    have hr3 := hr.ex x3
    rw [Hll.out]
    clear hr x3
    go_wp2_with fail
    have hgl : w2.heap.size ≤ g := hg
    have hpl : (posL l).length = es.length := by rw [posL, posK_len]; exact Hll.out
    unfold oC2 at H
    generalize hpp : posL l = p at *
    clear hpp
    go_loopw [23] (fun i wr => ∃ k : Nat, k ≤ es.length ∧ i = .int .i64 k ∧ Own wr g p ∧ Rows2 wr gn w2.heap.size vs (ndR es) ∧ Hid ((upL k).all (fun e => (ndF es e).all fun f => decide (p.getD f.toNat 0 < p.getD e.toNat 0)) = true) ∧ Ex w wr) (fun i _ => es.length - (intOf i).toNat)
    case atStart => exact ⟨0, Nat.zero_le _, rfl, ho, hr3, Lib.hid rfl, y3⟩
    case round =>
      clear ho hr3 y3
      obtain ⟨k, hk, rfl, ho, hr, Hall, he⟩ := hrel
      by_cases hlt : k < es.length
      · obtain ⟨P, pc, cP, hP⟩ := hr.rowO (ndR_at hlt)
        have hPl := hP.at_.len
        have hnl := ndF_len es (k : Int)
        go_wp2_with fail
        go_loopw [30] (fun i wi => ∃ q : Nat, q ≤ (ndF es (k : Int)).length ∧ i = .int .i64 q ∧ Own wi g p ∧ Rows2 wi gn w2.heap.size vs (ndR es) ∧ OI wi 0 w2.heap.size (.slice P (ndF es (k : Int)).length pc) (ndF es (k : Int)) ∧ Hid (((ndF es (k : Int)).take q).all (fun f => decide (p.getD f.toNat 0 < p.getD ((k : Int)).toNat 0)) = true) ∧ Ex w wi) (fun i _ => (ndF es (k : Int)).length - (intOf i).toNat)
        case atStart => exact ⟨0, Nat.zero_le _, rfl, ho, hr, hP, Lib.hid rfl, he⟩
        case round =>
          clear ho hr hP he
          obtain ⟨q, hq, rfl, ho, hr, hP, Hal, he⟩ := hrel
          by_cases hql : q < (ndF es (k : Int)).length
          · obtain ⟨g2, off2, y, rfl, hy, hg2, hc2⟩ := hP.at_.at_ hql
            have hym := ndF_mem (List.mem_of_getElem? hy)
            obtain ⟨yn, rfl⟩ := Int.eq_ofNat_of_zero_le hym.1
            have hyn : yn < es.length := by omega
            have k1 := ho.cell (getD_some (l := p) (i := yn) (by omega))
            have k2 := ho.cell (getD_some (l := p) (i := k) (by omega))
            have Hy := Lib.hid hy
            clear hy hym
            obtain ⟨a, ha⟩ : ∃ a, p.getD yn 0 = a := ⟨_, rfl⟩
            obtain ⟨b, hb⟩ : ∃ b, p.getD k 0 = b := ⟨_, rfl⟩
            rw [ha] at k1
            rw [hb] at k2
            have Ha := Lib.hid ha
            have Hb := Lib.hid hb
            clear ha hb
            by_cases hab : b ≤ a
            · have HF := Lib.hid (show ioB es l = false by
                rw [H.out, List.all_eq_false.2 ⟨(k : Int), List.mem_of_getElem? (upL_at hlt), ?_⟩]
                rw [List.all_eq_false.2 ⟨(yn : Int), List.mem_of_getElem? Hy.out, ?_⟩]
                · decide
                · rw [Int.toNat_natCast, Int.toNat_natCast, Ha.out, Hb.out, decide_eq_false (by omega)]; decide)
              go_wp2_with fail
              go_quiet (fail)
              go_wp2_with fail
              go_ret
              exact ⟨ret_bool HF.out.symm, he.drewN _⟩
            · have Hal2 := Lib.hid (all_take_succ (p := fun f => decide (p.getD f.toNat 0 < p.getD ((k : Int)).toNat 0)) Hy.out Hal.out (by
                show decide (p.getD ((yn : Int)).toNat 0 < p.getD ((k : Int)).toNat 0) = true
                rw [Int.toNat_natCast, Int.toNat_natCast, Ha.out, Hb.out]; exact decide_eq_true (by omega)))
              go_wp2_with fail
              go_quiet (fail)
              go_wp2_with fail
              go_roundw
              case rel => exact ⟨q + 1, by omega, by go_num, ho.drewN _, hr.ex ((Ex.refl _).drewN _), hP.ex ((Ex.refl _).drewN _), Hal2, he.drewN _⟩
              case measure => simp [intOf]; omega
          · obtain rfl : q = (ndF es (k : Int)).length := by omega
            have Hall2 := Lib.hid (show (upL (k + 1)).all (fun e => (ndF es e).all fun f => decide (p.getD f.toNat 0 < p.getD e.toNat 0)) = true by
              rw [upL_succ, List.all_append, Hall.out]
              have := Hal.out
              rw [List.take_length] at this
              rw [List.all_cons, this]; rfl)
            go_wp2_with fail
            go_roundw
            case rel => exact ⟨k + 1, by omega, by go_num, ho, hr, Hall2, he⟩
            case measure => simp [intOf]; omega
      · obtain rfl : k = es.length := by omega
        have HT := Lib.hid (show ioB es l = true by rw [H.out]; exact Hall.out)
        go_wp2
        go_ret
        exact ⟨ret_bool HT.out.symm, he⟩
set_option maxHeartbeats 4000000 in
theorem rbIs_c (N : Int) (E : Option Addr) (ec : Nat) (es : List Ed) (I O : Value) (A : Option Addr) (ac : Nat) (l : List Int) (w : World) (hE : RdS EE w E es) (hA : Rd w A l) (hac : l.length ≤ ac) (hn : es.length ≤ 60) (hI : ∃ A n c, I = .slice A n c) (hO : ∃ A n c, O = .slice A n c) :
    Calls Tryz.prog 34 #[.agg #[.int .i64 N, .slice E es.length ec, I, O], .slice A l.length ac] w fun e w' => e = .returned (.bool (ioB es l)) ∧ Ex w w' := by
  obtain ⟨I, il, ic, rfl⟩ := hI
  obtain ⟨O, ol, oc, rfl⟩ := hO
  have hAl := hA.len
  have y0 := (Ex.refl w).alloc (.cells #[.int .i64 N, .slice E es.length ec, .slice I il ic, .slice O ol oc] 34)
  have d0 := VB.new w 34 #[.int .i64 N, .slice E es.length ec, .slice I il ic, .slice O ol oc]
  by_cases hll : l.length = es.length
  · have hb : ((l.length : Int) != (es.length : Int)) = false := by simp [hll]
    have Hll := Lib.hid hll
    go_enter Tryz.func34, Tryz.ntmps34
    clear hll
    go_wp2_with fail
    generalize w.alloc (.cells #[.int .i64 N, .slice E es.length ec, .slice I il ic, .slice O ol oc] 34) = W0 at *
    refine (tmIsPerm_c A ac l W0 (hA.ex y0) (by have := Hll.out; omega)).mono ?_
    rintro e w1 ⟨rfl, x1⟩
    have y1 := y0.trans x1
    have d1 := d0.ex x1
    cases hp : permB l.length l with
    | false =>
      have H := Lib.hid (show ioB es l = false by rw [ioB, ← Hll.out, hp]; rfl)
      clear hp
      go_wp2
      go_ret
      exact ⟨ret_bool H.out.symm, y1⟩
    | true =>
      have H := Lib.hid (show ioB es l = oC1 es l by rw [ioB, ← Hll.out, hp, Bool.true_and])
      obtain ⟨_, hlr, _⟩ := permB_parts hp
      have Hlr := Lib.hid hlr
      clear hp hlr
      go_wp2_with fail
      unfold oC1 at H
      go_loopw [22] (fun i wr => ∃ k : Nat, k ≤ l.length ∧ i = .int .i64 k ∧ VB wr w.heap.size 34 #[.int .i64 N, .slice E es.length ec, .slice I il ic, .slice O ol oc] ∧ Hid ((upL k).all (fun i => (l.drop i.toNat).all fun f => !meetB (edAt es f).outs (edAt es (l.getD i.toNat 0)).ins) = true) ∧ Ex w wr) (fun i _ => l.length - (intOf i).toNat)
      case atStart => exact ⟨0, Nat.zero_le _, rfl, d1, Lib.hid rfl, y1⟩
      case round =>
        clear d1 y1
        obtain ⟨k, hk, rfl, hd, Hall, he⟩ := hrel
        by_cases hlt : k < l.length
        · obtain ⟨g, off, x, rfl, hx, hg, hc⟩ := (hA.ex he).at_ hlt
          have Hx := Lib.hid hx
          clear hx
          have hk1 : l.length ≤ es.length := Nat.le_of_eq Hll.out
          have hk2 : es.length ≤ l.length := Nat.le_of_eq Hll.out.symm
          have hxb := Hlr.out x (List.mem_of_getElem? Hx.out)
          obtain ⟨xn, rfl⟩ := Int.eq_ofNat_of_zero_le hxb.1
          have hne : ¬ ac = k := by omega
          have hDl : (l.drop k).length = l.length - k := by rw [List.length_drop]
          have Hxe := Lib.hid (show l.getD ((k : Int)).toNat 0 = (xn : Int) by rw [Int.toNat_natCast, List.getD_eq_getElem?_getD, Hx.out]; rfl)
          go_wp2_with fail
          obtain ⟨r, hr⟩ : ∃ r, l.length - k = r := ⟨_, rfl⟩
          rw [hr] at hDl ⊢
          generalize ac - k = rc at *
          have Hr := Lib.hid hr
          have hrk : r + k ≤ l.length := by omega
          have hrk2 : l.length ≤ r + k := by omega
          clear hr
          go_loopw [31] (fun i wi => ∃ q : Nat, q ≤ r ∧ i = .int .i64 q ∧ VB wi w.heap.size 34 #[.int .i64 N, .slice E es.length ec, .slice I il ic, .slice O ol oc] ∧ Hid (((l.drop k).take q).all (fun f => !meetB (edAt es f).outs (edAt es (xn : Int)).ins) = true) ∧ Ex w wi) (fun i _ => r - (intOf i).toNat)
          case atStart => exact ⟨0, Nat.zero_le _, rfl, hd, Lib.hid rfl, he⟩
          case round =>
            clear hd he
            obtain ⟨q, hq, rfl, hd, Hal, he⟩ := hrel
            by_cases hql : q < r
            · obtain ⟨y, hy⟩ : ∃ y, l[k + q]? = some y := ⟨_, List.getElem?_eq_getElem (by omega)⟩
              have hyb := Hlr.out y (List.mem_of_getElem? hy)
              obtain ⟨yn, rfl⟩ := Int.eq_ofNat_of_zero_le hyb.1
              have hcy := (hA.ex he).cell hy
              rw [← Nat.add_assoc] at hcy
              have Hy := Lib.hid (show (l.drop k)[q]? = some (yn : Int) by rw [List.getElem?_drop]; exact hy)
              have q0 := hd.cell 0 (v := .int .i64 N) rfl
              have q1 := hd.cell 1 (v := .slice E es.length ec) rfl
              have q2 := hd.cell 2 (v := .slice I il ic) rfl
              have q3 := hd.cell 3 (v := .slice O ol oc) rfl
              have hnd := rbNeeds_c N E ec es (.slice I il ic) (.slice O ol oc) xn yn wr (hE.ex he) (by omega) (by omega) hn ⟨_, _, _, rfl⟩ ⟨_, _, _, rfl⟩
              clear hy
              go_wp2_with fail
              refine hnd.mono ?_
              rintro e w5 ⟨rfl, x5⟩
              have hd5 := hd.ex x5
              have he5 := he.trans x5
              clear q0 q1 q2 q3 hnd hd he
              cases hm : meetB (edAt es (yn : Int)).outs (edAt es (xn : Int)).ins with
              | false =>
                have Hal2 := Lib.hid (all_take_succ (p := fun f => !meetB (edAt es f).outs (edAt es (xn : Int)).ins) Hy.out Hal.out (by rw [hm]; rfl))
                clear hm
                go_wp2_with fail
                go_roundw
                case rel => exact ⟨q + 1, by omega, by go_num, hd5, Hal2, he5⟩
                case measure => simp [intOf]; omega
              | true =>
                have HF := Lib.hid (show ioB es l = false by
                  rw [H.out, List.all_eq_false.2 ⟨(k : Int), List.mem_of_getElem? (upL_at hlt), ?_⟩]
                  rw [List.all_eq_false.2 ⟨(yn : Int), List.mem_of_getElem? (i := q) (by rw [Int.toNat_natCast]; exact Hy.out), ?_⟩]
                  · decide
                  · rw [Hxe.out, hm]; decide)
                clear hm
                go_wp2
                go_ret
                exact ⟨ret_bool HF.out.symm, he5⟩
            · obtain rfl : q = r := by omega
              have Hall2 := Lib.hid (show (upL (k + 1)).all (fun i => (l.drop i.toNat).all fun f => !meetB (edAt es f).outs (edAt es (l.getD i.toNat 0)).ins) = true by
                rw [upL_succ, List.all_append, Hall.out]
                have := Hal.out
                rw [List.take_of_length_le (by rw [hDl]; exact Nat.le_refl _)] at this
                rw [List.all_cons, Hxe.out, Int.toNat_natCast, this]; rfl)
              go_wp2_with fail
              go_roundw
              case rel => exact ⟨k + 1, by omega, by go_num, hd, Hall2, he⟩
              case measure => simp [intOf]; omega
        · obtain rfl : k = l.length := by omega
          have HT := Lib.hid (show ioB es l = true by rw [H.out]; exact Hall.out)
          go_wp2
          go_ret
          exact ⟨ret_bool HT.out.symm, he⟩
  · have H := Lib.hid (show ioB es l = false by rw [ioB, permB_len hll]; rfl)
    have hb : ((l.length : Int) != (es.length : Int)) = true := by simp; omega
    clear hll
    go_enter Tryz.func34, Tryz.ntmps34
    go_wp2
    go_ret
    exact ⟨ret_bool H.out.symm, y0⟩
end Go.Proofs.YtphdcgimibnajaaGreat
