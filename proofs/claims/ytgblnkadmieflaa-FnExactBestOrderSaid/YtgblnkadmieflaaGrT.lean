/- Contracts: drawn graphs (monogamous, acyclic), cuts behind edges, widths of cuts; CutWidths on both sides. -/
import Derived.Test.YtgblnkadmieflaaGrS
import Derived.Test.YtgblnkadmieflaaSlA
namespace Go.Proofs.Ytgblnkadmieflaa
set_option maxRecDepth 100000
open Go Go.RowKit
def drwB (x : Gr) : Bool := acyB x && monoB x
theorem acyB_valid {x : Gr} (h : acyB x = true) : validB x = true := by
  simp only [acyB, Bool.and_eq_true] at h
  exact h.1
theorem drw_no {x : Gr} (h : (validB x && monoB x) = false) : drwB x = false := by
  unfold drwB acyB
  cases h1 : validB x
  · rfl
  · rw [h1] at h
    have : monoB x = false := h
    rw [this, Bool.and_false]
theorem drw_yes {x : Gr} (h : (validB x && monoB x) = true) : drwB x = acyB x := by
  simp only [Bool.and_eq_true] at h
  unfold drwB
  rw [h.2, Bool.and_true]
theorem frL_all {x : Gr} (h : validB x = true) : ∀ k ∈ frL x, 0 ≤ k ∧ k < x.wires.toNat := fun k hk => by
  obtain ⟨hw0, _, _, _, _, _, hi, ho, he⟩ := validB_dims h
  rcases List.mem_append.1 hk with hk | hk
  · have := hi k hk; omega
  · obtain ⟨e, hm, hk⟩ := mem_outsL hk
    have := (he e hm).2 k hk; omega
theorem toWL_all {x : Gr} (h : validB x = true) : ∀ k ∈ toWL x, 0 ≤ k ∧ k < x.wires.toNat := fun k hk => by
  obtain ⟨hw0, _, _, _, _, _, hi, ho, he⟩ := validB_dims h
  rcases List.mem_append.1 hk with hk | hk
  · have := ho k hk; omega
  · obtain ⟨e, hm, hk⟩ := mem_insL hk
    have := (he e hm).1 k hk; omega
theorem frL_len {x : Gr} (h : validB x = true) : (frL x).length ≤ 1000 ∧ (toWL x).length ≤ 1000 := by
  obtain ⟨_, _, h1, h2, h3, h4, _⟩ := validB_dims h
  have := outsL_len h4
  have := insL_len h4
  rw [frL, toWL, List.length_append, List.length_append]
  omega
set_option maxHeartbeats 2000000 in
theorem hgMono_c (x : Gr) (E : Option Addr) (ec : Nat) (I : Option Addr) (ic : Nat) (O : Option Addr) (oc : Nat) (w : World) (hE : RdS EE w E x.es) (hI : Rd w I x.ins) (hO : Rd w O x.outs) (hv : validB x = true) :
    Calls Try.prog 35 #[.agg #[.int .i64 x.wires, .slice E x.es.length ec, .slice I x.ins.length ic, .slice O x.outs.length oc]] w fun e w' => e = .returned (.bool (monoB x)) ∧ Ex w w' := by
  have h1 := frL_all hv
  have h2 := toWL_all hv
  obtain ⟨h3, h4⟩ := frL_len hv
  obtain ⟨hw0, hw1, _⟩ := validB_dims hv
  have HM := Lib.hid (show monoB x = ((cntL x.wires.toNat (x.ins ++ outsL x.es)).all (inB 1 1) && (cntL x.wires.toNat (x.outs ++ insL x.es)).all (inB 1 1)) by
    rw [monoB, ← cnt_perm h1, ← cnt_perm h2]; rfl)
  obtain ⟨n, hn⟩ := Int.eq_ofNat_of_zero_le hw0
  rw [hn, Int.toNat_natCast] at HM
  simp only [hn, Int.toNat_natCast, frL, toWL] at h1 h2 h3 h4
  rw [hn] at hw1 ⊢
  clear hv
  have x0 := (Ex.refl w).alloc (.cells #[.int .i64 n, .slice E x.es.length ec, .slice I x.ins.length ic, .slice O x.outs.length oc] 31)
  have d0 := VB.new w 31 #[.int .i64 n, .slice E x.es.length ec, .slice I x.ins.length ic, .slice O x.outs.length oc]
  have hc := fun W (y : Ex w W) => hgCounts_c n E ec x.es I ic x.ins O oc x.outs W (hE.ex y) (hI.ex y) (hO.ex y) (by omega) h1 h2 h3 h4
  clear h1 h2 h3 h4
  generalize hf : cntL n (x.ins ++ outsL x.es) = cf at *
  generalize ht : cntL n (x.outs ++ insL x.es) = ct at *
  have hfl : cf.length = n := by rw [← hf, cntL_len]
  have htl : ct.length = n := by rw [← ht, cntL_len]
  clear hf ht hn
  go_enter Try.func35, Try.ntmps35
  go_wp2_with fail
  generalize w.alloc (.cells #[.int .i64 n, .slice E x.es.length ec, .slice I x.ins.length ic, .slice O x.outs.length oc] 31) = W0 at *
  refine (hc W0 x0).mono ?_
  rintro e w1 ⟨f, t, rfl, hf, hft, of, ot, x1⟩
  clear hc
  subst hfl
  have rf := of.rd (by omega)
  have rt := ot.rd (by omega)
  have hlf := fun W (y : Ex w1 W) => l1All_c (some ⟨f, 0, none⟩) cf.length cf 1 1 W (rf.ex y)
  have hlt := fun W (y : Ex w1 W) => l1All_c (some ⟨t, 0, none⟩) ct.length ct 1 1 W (rt.ex y)
  rw [htl] at hlt
  obtain ⟨b1, hb1⟩ : ∃ b, cf.all (inB 1 1) = b := ⟨_, rfl⟩
  rw [hb1] at HM hlf
  clear hb1
  go_wp2_with fail
  refine (hlf _ (Ex.refl w1)).mono ?_
  rintro e _ ⟨rfl, rfl⟩
  have y1 := x0.trans x1
  cases b1 with
  | false =>
    go_wp2
    go_ret
    exact ⟨ret_bool HM.out.symm, y1⟩
  | true =>
    go_wp2_with fail
    refine (hlt _ (Ex.refl w1)).mono ?_
    rintro e _ ⟨rfl, rfl⟩
    go_wp2
    go_ret
    exact ⟨ret_bool (by rw [HM.out]; rfl), y1⟩
set_option maxHeartbeats 2000000 in
theorem rbPlain_c (x : Gr) (E : Option Addr) (ec : Nat) (I : Option Addr) (ic : Nat) (O : Option Addr) (oc : Nat) (w : World) (hE : RdS EE w E x.es) (hI : Rd w I x.ins) (hO : Rd w O x.outs) :
    Calls Try.prog 19 #[.agg #[.int .i64 x.wires, .slice E x.es.length ec, .slice I x.ins.length ic, .slice O x.outs.length oc]] w fun e w' => e = .returned (.bool (drwB x)) ∧ Ex w w' := by
  have hEl := hE.1
  have x0 := (Ex.refl w).alloc (.cells #[.int .i64 x.wires, .slice E x.es.length ec, .slice I x.ins.length ic, .slice O x.outs.length oc] 31)
  have d0 := VB.new w 31 #[.int .i64 x.wires, .slice E x.es.length ec, .slice I x.ins.length ic, .slice O x.outs.length oc]
  go_enter Try.func19, Try.ntmps19
  go_wp2_with fail
  generalize w.alloc (.cells #[.int .i64 x.wires, .slice E x.es.length ec, .slice I x.ins.length ic, .slice O x.outs.length oc] 31) = W0 at *
  refine (rbGood_c x E ec I ic O oc W0 (hE.ex x0) (hI.ex x0) (hO.ex x0)).mono ?_
  rintro e w1 ⟨rfl, x1⟩
  have y1 := x0.trans x1
  have d1 := d0.ex x1
  have q0 := d1.cell 0 (v := .int .i64 x.wires) rfl
  have q1 := d1.cell 1 (v := .slice E x.es.length ec) rfl
  have q2 := d1.cell 2 (v := .slice I x.ins.length ic) rfl
  have q3 := d1.cell 3 (v := .slice O x.outs.length oc) rfl
  cases hb : acyB x with
  | false =>
    have H := Lib.hid (show drwB x = false by rw [drwB, hb]; rfl)
    clear hb
    go_wp2
    go_ret
    exact ⟨ret_bool H.out.symm, y1⟩
  | true =>
    have H := Lib.hid (show drwB x = monoB x by rw [drwB, hb, Bool.true_and])
    have hc := hgMono_c x E ec I ic O oc w1 (hE.ex y1) (hI.ex y1) (hO.ex y1) (acyB_valid hb)
    clear hb
    go_wp2_with fail
    refine hc.mono ?_
    rintro e w2 ⟨rfl, x2⟩
    go_wp2
    go_ret
    exact ⟨ret_bool (by rw [H.out]), y1.trans x2⟩
set_option maxHeartbeats 2000000 in
theorem isDrawn_c (x : Gr) (v0 v1 v2 : Value) (w : World) (h : RGr w v0 v1 v2 x) :
    Calls Try.prog 23 #[.agg #[.int .i64 x.wires, v0, v1, v2]] w fun e w' => e = .returned (.bool (drwB x)) ∧ Ex w w' := by
  obtain ⟨⟨⟨E, ec, rfl, hE⟩, hEt⟩, ⟨I, ic, rfl, hI⟩, ⟨O, oc, rfl, hO⟩⟩ := h
  have hEl := hE.1
  have x0 := (Ex.refl w).alloc (.cells #[.int .i64 x.wires, .slice E x.es.length ec, .slice I x.ins.length ic, .slice O x.outs.length oc] 31)
  have d0 := VB.new w 31 #[.int .i64 x.wires, .slice E x.es.length ec, .slice I x.ins.length ic, .slice O x.outs.length oc]
  go_enter Try.func23, Try.ntmps23
  go_wp2_with fail
  generalize w.alloc (.cells #[.int .i64 x.wires, .slice E x.es.length ec, .slice I x.ins.length ic, .slice O x.outs.length oc] 31) = W0 at *
  refine (isMonogamous_c x E ec I ic O oc W0 (hE.ex x0) (hI.ex x0) (hO.ex x0)).mono ?_
  rintro e w1 ⟨rfl, x1⟩
  have y1 := x0.trans x1
  have d1 := d0.ex x1
  have q0 := d1.cell 0 (v := .int .i64 x.wires) rfl
  have q1 := d1.cell 1 (v := .slice E x.es.length ec) rfl
  have q2 := d1.cell 2 (v := .slice I x.ins.length ic) rfl
  have q3 := d1.cell 3 (v := .slice O x.outs.length oc) rfl
  obtain ⟨b, hb⟩ : ∃ b, (validB x && monoB x) = b := ⟨_, rfl⟩
  rw [hb]
  cases b with
  | false =>
    have H := Lib.hid (drw_no hb)
    clear hb
    go_wp2
    go_ret
    exact ⟨ret_bool H.out.symm, y1⟩
  | true =>
    have H := Lib.hid (drw_yes hb)
    clear hb
    go_wp2_with fail
    refine (isAcyclic_c x _ _ _ w1 ⟨⟨⟨E, ec, rfl, hE.ex y1⟩, hEt⟩, ⟨I, ic, rfl, hI.ex y1⟩, ⟨O, oc, rfl, hO.ex y1⟩⟩).mono ?_
    rintro e w2 ⟨rfl, x2⟩
    go_wp2
    go_ret
    exact ⟨ret_bool (by rw [H.out]), y1.trans x2⟩
theorem rdm_two {w : World} {A : Option Addr} {c : Nat} {r : List Int} (hr : Rd w A r) {A' : Option Addr} {c' : Nat} {r' : List Int} (hr' : Rd w A' r') :
    RdM (w.alloc (.cells #[.slice A r.length c, .slice A' r'.length c'] 23)) (some ⟨w.heap.size, 0, none⟩) [r, r'] := by
  have hv := VB.new w 23 #[.slice A r.length c, .slice A' r'.length c']
  have hx := (Ex.refl w).alloc (.cells #[.slice A r.length c, .slice A' r'.length c'] 23)
  refine ⟨by simp, fun j q hj => ?_⟩
  rcases j with _ | _ | j
  · injection hj with hj; subst hj; exact ⟨_, 0, A, c, rfl, hv.cell 0 rfl, hr.ex hx⟩
  · injection hj with hj; subst hj; exact ⟨_, 0, A', c', rfl, hv.cell 1 rfl, hr'.ex hx⟩
  · simp at hj
set_option maxHeartbeats 2000000 in
theorem cutBehind_c (C : Option Addr) (cc : Nat) (cut : List Int) (e : Ed) (P : Option Addr) (pc : Nat) (Q : Option Addr) (qc : Nat) (w : World) (hC : Rd w C cut) (hP : Rd w P e.ins) (hQ : Rd w Q e.outs) (hl : cut.length + e.outs.length ≤ 1099511627776) :
    Calls Try.prog 25 #[.slice C cut.length cc, .agg #[.int .i64 e.kd, .int .i64 e.vl, .slice P e.ins.length pc, .slice Q e.outs.length qc]] w fun r w' => LIo w (cutB cut e) r w' := by
  have x0 := (Ex.refl w).alloc (.cells #[.int .i64 e.kd, .int .i64 e.vl, .slice P e.ins.length pc, .slice Q e.outs.length qc] 51)
  have d0 := VB.new w 51 #[.int .i64 e.kd, .int .i64 e.vl, .slice P e.ins.length pc, .slice Q e.outs.length qc]
  go_enter Try.func25, Try.ntmps25
  go_wp2_with fail
  generalize w.alloc (.cells #[.int .i64 e.kd, .int .i64 e.vl, .slice P e.ins.length pc, .slice Q e.outs.length qc] 51) = W0 at *
  have q2 := d0.cell 2 (v := .slice P e.ins.length pc) rfl
  have q3 := d0.cell 3 (v := .slice Q e.outs.length qc) rfl
  have HS : ∀ W, Ex W0 W → (Ex W0 W ∧ W.cell? ⟨w.heap.size, 2, none⟩ = some (.slice P e.ins.length pc) ∧ W.cell? ⟨w.heap.size, 3, none⟩ = some (.slice Q e.outs.length qc)) := fun W h => ⟨h, cell_ex h q2, cell_ex h q3⟩
  have eA := (Ex.refl W0).drew
  have hfl : (cut.filter fun w => !decide (w ∈ e.ins)).length ≤ cut.length := List.length_filter_le _ _
  have HB := Lib.hid (show [e.outs, cut.filter fun w => !decide (w ∈ e.ins)].flatten = cutB cut e by simp [cutB])
  have ho := fun W (y : Ex w W) => others_c C cc cut P pc e.ins W (hC.ex y) (hP.ex y)
  generalize (cut.filter fun w => !decide (w ∈ e.ins)) = rest at *
  go_region_held3 (fun W => Ex W0 W ∧ W.cell? ⟨w.heap.size, 2, none⟩ = some (.slice P e.ins.length pc) ∧ W.cell? ⟨w.heap.size, 3, none⟩ = some (.slice Q e.outs.length qc)) (first
    | (exact HS _ hb2) | (exact HS _ (hb1.alloc _)) | (exact HS _ hb1) | (exact HS _ eA) | (exact HS _ (Ex.refl W0))) (first
    | (go_at_call 44
       have hb := (‹Ex W0 _ ∧ _›).1
       refine (ho _ (x0.trans hb)).mono ?_
       rintro e w1 ⟨_, rfl, ⟨R, rc, rfl, fo⟩, x1⟩
       have hb1 := hb.trans x1
       clear hb)
    | (go_at_call 43
       refine (joined_c _ 2 [e.outs, rest] _ (rdm_two (hQ.ex (x0.trans hb1)) fo.rd) (by simp; omega)).mono ?_
       rintro e w2 ⟨_, rfl, ⟨R2, rc2, rfl, fo2⟩, x2⟩
       have hb2 := (hb1.alloc _).trans x2))
  all_goals
    go_wp2
    go_ret
    rw [HB.out] at fo2
    have hz := (x0.trans hb1).size
    have HL : (cutB cut e).length = e.outs.length + rest.length := by rw [← HB.out]; simp
    exact ⟨_, rfl, ⟨R2, rc2, by rw [HL]; rfl, fo2.more (Nat.le_trans hz ((Ex.refl _).alloc _).size) (Nat.le_refl _)⟩, x0.trans hb2⟩
def wdN (es : List Ed) (n : Int) (l : List Int) : Int := l.foldl (fun n i => n + (((edAt es i).outs.length : Int) - ((edAt es i).ins.length : Int))) n
theorem wdS_snoc (es : List Ed) (i : Int) : ∀ (l : List Int) (n : Int), wdS es n (l ++ [i]) = wdS es n l ++ [wdN es n (l ++ [i])]
  | [], n => rfl
  | j :: l, n => by
    rw [List.cons_append, wdS, wdS, wdS_snoc es i l]
    rfl
theorem wdS_len (es : List Ed) : ∀ (l : List Int) (n : Int), (wdS es n l).length = l.length
  | [], n => rfl
  | j :: l, n => by rw [wdS, List.length_cons, wdS_len es l, List.length_cons]
def cutF (es : List Ed) (cut l : List Int) : List Int := l.foldl (fun c i => cutB c (edAt es i)) cut
theorem wdI_snoc (es : List Ed) (i : Int) : ∀ (l cut : List Int), wdI es cut (l ++ [i]) = wdI es cut l ++ [((cutF es cut (l ++ [i])).length : Int)]
  | [], cut => rfl
  | j :: l, cut => by
    rw [List.cons_append, wdI, wdI, wdI_snoc es i l]
    rfl
theorem wdI_len (es : List Ed) : ∀ (l cut : List Int), (wdI es cut l).length = l.length
  | [], n => rfl
  | j :: l, n => by rw [wdI, List.length_cons, wdI_len es l, List.length_cons]
theorem edAt_two {es : List Ed} (h : ∀ e ∈ es, edK e = true) (i : Int) : (edAt es i).ins.length ≤ 2 ∧ (edAt es i).outs.length ≤ 2 := by
  unfold edAt
  rw [List.getD_eq_getElem?_getD]
  cases e : es[i.toNat]? with
  | none => simp
  | some x => exact edK_len (h x (List.mem_of_getElem? e))
theorem wdN_bd {es : List Ed} (h : ∀ e ∈ es, edK e = true) : ∀ (l : List Int) (n : Int), n - 2 * l.length ≤ wdN es n l ∧ wdN es n l ≤ n + 2 * l.length
  | [], n => by simp [wdN]
  | j :: l, n => by
    have h1 := edAt_two h j
    have h2 := wdN_bd h l (n + (((edAt es j).outs.length : Int) - ((edAt es j).ins.length : Int)))
    rw [show wdN es n (j :: l) = wdN es (n + (((edAt es j).outs.length : Int) - ((edAt es j).ins.length : Int))) l from rfl, List.length_cons]
    push_cast
    omega
theorem cutB_len {es : List Ed} (h : ∀ e ∈ es, edK e = true) (cut : List Int) (i : Int) : (cutB cut (edAt es i)).length ≤ cut.length + 2 := by
  have h1 := edAt_two h i
  have h2 := List.length_filter_le (fun w => !decide (w ∈ (edAt es i).ins)) cut
  rw [cutB, List.length_append]
  omega
theorem cutF_len {es : List Ed} (h : ∀ e ∈ es, edK e = true) : ∀ (l cut : List Int), (cutF es cut l).length ≤ cut.length + 2 * l.length
  | [], cut => by simp [cutF]
  | j :: l, cut => by
    have h1 := cutB_len h cut j
    have h2 := cutF_len h l (cutB cut (edAt es j))
    rw [show cutF es cut (j :: l) = cutF es (cutB cut (edAt es j)) l from rfl, List.length_cons]
    omega
theorem AL.one (w : World) {B : Nat} (x : Int) (hB : B ≤ w.heap.size) : AL (w.alloc (iObj [x])) B (.slice (some ⟨w.heap.size, 0, none⟩) 1 1) [x] :=
  ⟨rfl, .inr ⟨w.heap.size, 1, #[.int .i64 x], rfl, hB, heap_alloc_new w _, Nat.le_refl _, by decide, rfl, rfl⟩⟩
theorem Rd.exo_n {w w' : World} {A : Option Addr} {xs : List Int} {o : Option Nat} (h : Rd w A xs) (he : ExO o w w') (ho : xs ≠ [] → ∀ a, A = some a → o ≠ some a.block) : Rd w' A xs := by
  by_cases hx : xs = []
  · subst hx; exact Rd.nil _ _
  · exact h.exo_g he (ho hx)
def cwU (x : Gr) (l : List Int) : List Int × Bool := if drwB x = true ∧ ioB x.es l = true then ((x.ins.length : Int) :: wdS x.es x.ins.length l, true) else ([], false)
theorem cwU_no {x : Gr} {l : List Int} (h : ¬ (drwB x = true ∧ ioB x.es l = true)) : cwU x l = ([], false) := if_neg h
theorem cwU_yes {x : Gr} {l : List Int} (h1 : drwB x = true) (h2 : ioB x.es l = true) : cwU x l = ((x.ins.length : Int) :: wdS x.es x.ins.length l, true) := if_pos ⟨h1, h2⟩
theorem drwB_parts {x : Gr} (h : drwB x = true) : acyB x = true ∧ monoB x = true := by simpa [drwB, Bool.and_eq_true] using h
set_option maxHeartbeats 4000000 in
theorem rbWidths_c (N : Int) (E : Option Addr) (ec : Nat) (es : List Ed) (I : Option Addr) (ic : Nat) (ins : List Int) (O : Value) (A : Option Addr) (ac : Nat) (l : List Int) (w : World) (hE : RdS EE w E es) (hA : Rd w A l) (hed : ∀ e ∈ es, edK e = true) (hr : ∀ k ∈ l, 0 ≤ k ∧ k < es.length) (hin : ins.length ≤ 12) (hl : l.length ≤ 60) (hO : ∃ A n c, O = .slice A n c) :
    Calls Try.prog 21 #[.agg #[.int .i64 N, .slice E es.length ec, .slice I ins.length ic, O], .slice A l.length ac] w fun e w' => LIo w ((ins.length : Int) :: wdS es ins.length l) e w' := by
  obtain ⟨O, ol, oc, rfl⟩ := hO
  have hEl := hE.1
  have Hr := Lib.hid hr
  have Hed := Lib.hid hed
  clear hr hed
  have x0 := (Ex.refl w).alloc (.cells #[.int .i64 N, .slice E es.length ec, .slice I ins.length ic, .slice O ol oc] 31)
  have d0 := VB.new w 31 #[.int .i64 N, .slice E es.length ec, .slice I ins.length ic, .slice O ol oc]
  have S0 : (w.alloc (.cells #[.int .i64 N, .slice E es.length ec, .slice I ins.length ic, .slice O ol oc] 31)).heap.size = w.heap.size + 1 := by simp
  go_enter Try.func21, Try.ntmps21
  go_wp2_with fail
  generalize w.alloc (.cells #[.int .i64 N, .slice E es.length ec, .slice I ins.length ic, .slice O ol oc] 31) = W0 at *
  have y1 := (Ex.refl W0).alloc (iObj [(ins.length : Int)])
  have hal := AL.one W0 (B := w.heap.size + 1) (ins.length : Int) (by omega)
  have d1 := d0.ex y1
  have he := x0.trans y1
  have q2 := d0.cell 2 (v := .slice I ins.length ic) rfl
  go_wp2_with fail
  clear q2 d0 x0 y1
  rw [S0] at hal
  go_loopw [5, 6, 16] (fun n o i wr => ∃ k : Nat, k ≤ l.length ∧ i = .int .i64 k ∧ n = .int .i64 (wdN es ins.length (l.take k)) ∧ AL wr (w.heap.size + 1) o ((ins.length : Int) :: wdS es ins.length (l.take k)) ∧ VB wr w.heap.size 31 #[.int .i64 N, .slice E es.length ec, .slice I ins.length ic, .slice O ol oc] ∧ Ex w wr) (fun _ _ i _ => l.length - (intOf i).toNat)
  case atStart => exact ⟨0, Nat.zero_le _, rfl, rfl, hal, d1, he⟩
  case round =>
    clear hal d1 he
    obtain ⟨k, hk, rfl, rfl, hal, hd, he⟩ := hrel
    by_cases hlt : k < l.length
    · obtain ⟨g, off, m, rfl, hm, _, c1⟩ := (hA.ex he).at_ hlt
      have hmb := Hr.out m (List.mem_of_getElem? hm)
      obtain ⟨m, rfl⟩ := Int.eq_ofNat_of_zero_le hmb.1
      have hml : m < es.length := by have := hmb.2; omega
      obtain ⟨g', off', e, P, pc, Q, qc, rfl, hx, e0, e1, e2, e3, hP, hQ⟩ := (hE.ex he).edge hml
      have Htk := Lib.hid (show l.take (k + 1) = l.take k ++ [(m : Int)] by rw [List.take_add_one, hm]; rfl)
      have hbd := wdN_bd Hed.out (l.take k) ins.length
      have hbl : (l.take k).length = k := by rw [List.length_take]; omega
      have HS := Lib.hid (wdS_snoc es (m : Int) (l.take k) ins.length)
      have HN := Lib.hid (show wdN es ins.length (l.take (k + 1)) = wdN es ins.length (l.take k) + ((e.outs.length : Int) - (e.ins.length : Int)) by
        rw [Htk.out, wdN, List.foldl_append, List.foldl_cons, List.foldl_nil, edAt_nat hx]; rfl)
      rw [← Htk.out] at HS
      have hsl := wdS_len es (l.take k) ins.length
      have he1 := edK_len (Hed.out e (List.mem_of_getElem? hx))
      have q1 := hd.cell 1 (v := .slice (some ⟨g', off', none⟩) es.length ec) rfl
      have hPl := hP.len
      have hQl := hQ.len
      clear hm hx hmb
      generalize wdN es ins.length (l.take k) = n at *
      generalize wdS es ins.length (l.take k) = row at *
      go_wp2_with fail
      go_quiet (fail)
      have x5 := (Ex.refl wr).drewN nq
      have hal5 := hal.ex x5
      have hd5 := hd.ex x5
      have he5 := he.trans x5
      clear hal hd he e0 e1 e2 e3 hP hQ c1 q1
      generalize wr.drewN nq = W5 at *
      rw [← HN.out]
      have hbd2 := wdN_bd Hed.out (l.take (k + 1)) ins.length
      have hbl2 : (l.take (k + 1)).length = k + 1 := by rw [List.length_take]; omega
      obtain ⟨n2, hn2⟩ : ∃ n2, wdN es ins.length (l.take (k + 1)) = n2 := ⟨_, rfl⟩
      have Hn2 := Lib.hid hn2
      rw [hn2] at hbd2 HS ⊢
      clear hn2
      have hz5 := hd5.lt
      obtain ⟨o', w6, hrun6, hal6, hI6⟩ := al_push_i W5 (w.heap.size + 1) _ _ n2 hal5 (by omega) (by rw [List.length_cons]; omega)
      rw [List.cons_append, ← HS.out] at hal6
      have hd6 := hd5.iv hI6 (.inl (Nat.lt_succ_self _))
      have he6 := he5.iv hI6 (Nat.le_succ _)
      clear hal5 hd5 he5 x5 hI6
      go_wp2_with (at_builtin; refine wpList_append_run rfl _ _ _ rfl rfl rfl hrun6 ?_)
      go_roundw
      case rel => exact ⟨k + 1, by omega, by go_num, by rw [Hn2.out], hal6, hd6, he6⟩
      case measure => simp [intOf]; omega
    · obtain rfl : k = l.length := by omega
      rw [List.take_length] at hal
      obtain ⟨R, rc, rfl, fo⟩ := hal.form (by rw [List.length_cons, wdS_len]; omega)
      have hz := he.size
      have HL := Lib.hid (show ((ins.length : Int) :: wdS es ins.length l).length = l.length + 1 by rw [List.length_cons, wdS_len])
      rw [HL.out]
      go_wp2_with fail
      go_ret
      exact ⟨_, rfl, ⟨R, rc, by rw [HL.out]; rfl, (fo.more (Nat.le_succ _)).fi⟩, he⟩
set_option maxHeartbeats 2000000 in
theorem spCutWidths_u (x : Gr) (v0 v1 v2 : Value) (l : List Int) (vl : Value) (w : World) (h : RGr w v0 v1 v2 x) (hl : RIc w vl l) :
    Calls Try.prog 6 #[.agg #[.int .i64 x.wires, v0, v1, v2], vl] w fun e w' => ∃ y, e = .returned (.tuple #[y, .bool (cwU x l).2]) ∧ RI w' y (cwU x l).1 ∧ Ex w w' := by
  obtain ⟨⟨⟨E, ec, rfl, hE⟩, hEt⟩, ⟨I, ic, rfl, hI⟩, ⟨O, oc, rfl, hO⟩⟩ := h
  obtain ⟨A, ac, rfl, hA, hac⟩ := hl
  have hEl := hE.1
  have hAl := hA.len
  have x0 := (Ex.refl w).alloc (.cells #[.int .i64 x.wires, .slice E x.es.length ec, .slice I x.ins.length ic, .slice O x.outs.length oc] 31)
  have d0 := VB.new w 31 #[.int .i64 x.wires, .slice E x.es.length ec, .slice I x.ins.length ic, .slice O x.outs.length oc]
  go_enter Try.func6, Try.ntmps6
  go_wp2_with fail
  generalize w.alloc (.cells #[.int .i64 x.wires, .slice E x.es.length ec, .slice I x.ins.length ic, .slice O x.outs.length oc] 31) = W0 at *
  refine (rbPlain_c x E ec I ic O oc W0 (hE.ex x0) (hI.ex x0) (hO.ex x0)).mono ?_
  rintro e w1 ⟨rfl, x1⟩
  have d1 := d0.ex x1
  have q0 := d1.cell 0 (v := .int .i64 x.wires) rfl
  have q1 := d1.cell 1 (v := .slice E x.es.length ec) rfl
  have q2 := d1.cell 2 (v := .slice I x.ins.length ic) rfl
  have q3 := d1.cell 3 (v := .slice O x.outs.length oc) rfl
  have y1 := x0.trans x1
  cases hb : drwB x with
  | false =>
    have H := Lib.hid (cwU_no (l := l) (x := x) (by simp [hb]))
    clear hb
    go_wp2
    go_ret2
    rw [H.out]
    exact ⟨_, rfl, (OI.nil _ 0 0).rd, y1⟩
  | true =>
    have Hb := Lib.hid hb
    have hes := acyB_es (drwB_parts hb).1
    obtain ⟨_, _, _, hin, _, hk, _⟩ := validB_dims (acyB_valid (drwB_parts hb).1)
    have Hk := Lib.hid hk
    have hc := rbIs_c x.wires E ec x.es (.slice I x.ins.length ic) (.slice O x.outs.length oc) A ac l w1 (hE.ex y1) (hA.ex y1) hac hes ⟨_, _, _, rfl⟩ ⟨_, _, _, rfl⟩
    clear hb hk
    go_wp2_with fail
    refine hc.mono ?_
    rintro e w2 ⟨rfl, x2⟩
    have d2 := d1.ex x2
    have y2 := y1.trans x2
    have q0 := d2.cell 0 (v := .int .i64 x.wires) rfl
    have q1 := d2.cell 1 (v := .slice E x.es.length ec) rfl
    have q2 := d2.cell 2 (v := .slice I x.ins.length ic) rfl
    have q3 := d2.cell 3 (v := .slice O x.outs.length oc) rfl
    clear hc d1
    cases hi : ioB x.es l with
    | false =>
      have H := Lib.hid (cwU_no (l := l) (x := x) (by simp [hi]))
      clear hi
      go_wp2
      go_ret2
      rw [H.out]
      exact ⟨_, rfl, (OI.nil _ 0 0).rd, y2⟩
    | true =>
      have H := Lib.hid (cwU_yes Hb.out hi)
      have hp : permB x.es.length l = true := by simp only [ioB, Bool.and_eq_true] at hi; exact hi.1
      obtain ⟨hpl, hpr, _⟩ := permB_parts hp
      have hc := rbWidths_c x.wires E ec x.es I ic x.ins (.slice O x.outs.length oc) A ac l w2 (hE.ex y2) (hA.ex y2) Hk.out (fun k hk => by have := hpr k hk; omega) hin (by omega) ⟨_, _, _, rfl⟩
      clear hi hp hpl hpr
      go_wp2_with fail
      refine hc.mono ?_
      rintro e w3 ⟨_, rfl, f, x3⟩
      obtain ⟨R, n, c, hv⟩ := f.rd.form
      subst hv
      go_wp2
      go_ret2
      rw [H.out]
      exact ⟨_, rfl, f.rd, y2.trans x3⟩
set_option maxHeartbeats 4000000 in
theorem CutWidths_u (x : Gr) (v0 v1 v2 : Value) (l : List Int) (vl : Value) (w : World) (h : RGr w v0 v1 v2 x) (hl : RIc w vl l) :
    Calls Try.prog 9 #[.agg #[.int .i64 x.wires, v0, v1, v2], vl] w fun e w' => ∃ y, e = .returned (.tuple #[y, .bool (cwU x l).2]) ∧ OI w' w.heap.size w'.heap.size y (cwU x l).1 ∧ Ex w w' := by
  obtain ⟨⟨⟨E, ec, rfl, hE⟩, hEt⟩, ⟨I, ic, rfl, hI⟩, ⟨O, oc, rfl, hO⟩⟩ := h
  obtain ⟨A, ac, rfl, hA, hac⟩ := hl
  have hEl := hE.1
  have hAl := hA.len
  have hIl := hI.len
  have x0 := (Ex.refl w).alloc (.cells #[.int .i64 x.wires, .slice E x.es.length ec, .slice I x.ins.length ic, .slice O x.outs.length oc] 31)
  have d0 := VB.new w 31 #[.int .i64 x.wires, .slice E x.es.length ec, .slice I x.ins.length ic, .slice O x.outs.length oc]
  go_enter Try.func9, Try.ntmps9
  go_wp2_with fail
  generalize w.alloc (.cells #[.int .i64 x.wires, .slice E x.es.length ec, .slice I x.ins.length ic, .slice O x.outs.length oc] 31) = W0 at *
  refine (isDrawn_c x _ _ _ W0 ⟨⟨⟨E, ec, rfl, hE.ex x0⟩, hEt⟩, ⟨I, ic, rfl, hI.ex x0⟩, ⟨O, oc, rfl, hO.ex x0⟩⟩).mono ?_
  rintro e w1 ⟨rfl, x1⟩
  have d1 := d0.ex x1
  have q0 := d1.cell 0 (v := .int .i64 x.wires) rfl
  have q1 := d1.cell 1 (v := .slice E x.es.length ec) rfl
  have q2 := d1.cell 2 (v := .slice I x.ins.length ic) rfl
  have q3 := d1.cell 3 (v := .slice O x.outs.length oc) rfl
  have y1 := x0.trans x1
  cases hb : drwB x with
  | false =>
    have H := Lib.hid (cwU_no (l := l) (x := x) (by simp [hb]))
    clear hb
    go_wp2
    go_ret2
    rw [H.out]
    exact ⟨_, rfl, OI.nil _ _ _, y1⟩
  | true =>
    have Hb := Lib.hid hb
    have hes := acyB_es (drwB_parts hb).1
    obtain ⟨_, _, _, hin, _, hk, _⟩ := validB_dims (acyB_valid (drwB_parts hb).1)
    have Hk := Lib.hid hk
    have hc := isEdgeOrder_c x.wires E ec x.es (.slice I x.ins.length ic) (.slice O x.outs.length oc) A ac l w1 (hE.ex y1) (hA.ex y1) hes ⟨_, _, _, rfl⟩ ⟨_, _, _, rfl⟩
    clear hb hk
    go_wp2_with fail
    refine hc.mono ?_
    rintro e w2 ⟨rfl, x2⟩
    have d2 := d1.ex x2
    have y2 := y1.trans x2
    have q2 := d2.cell 2 (v := .slice I x.ins.length ic) rfl
    clear hc d1
    cases hi : ioB x.es l with
    | false =>
      have H := Lib.hid (cwU_no (l := l) (x := x) (by simp [hi]))
      clear hi
      go_wp2
      go_ret2
      rw [H.out]
      exact ⟨_, rfl, OI.nil _ _ _, y2⟩
    | true =>
      have H := Lib.hid ((cwU_yes Hb.out hi).trans (by rw [← widths_eq (drwB_parts Hb.out).2 hi]))
      have hp : permB x.es.length l = true := by simp only [ioB, Bool.and_eq_true] at hi; exact hi.1
      obtain ⟨hpl, hpr, _⟩ := permB_parts hp
      have Hpr := Lib.hid hpr
      have hll : l.length ≤ 60 := by omega
      have hz := d2.lt
      have hA1 := AL.one w2 (B := w.heap.size + 1) (x.ins.length : Int) (by omega)
      have ya := (Ex.refl w2).alloc (iObj [(x.ins.length : Int)])
      have d3 := d2.ex ya
      have y3 := y2.trans ya
      have hI3 := hI.ex y3
      clear hi hp hpl hpr q0 q1 q3
      go_wp2_with fail
      go_loopw [6, 7, 26] (fun c o i wr => ∃ (k : Nat) (C : Option Addr) (cc : Nat), k ≤ l.length ∧ i = .int .i64 k ∧ c = .slice C (cutF x.es x.ins (l.take k)).length cc ∧ Rd wr C (cutF x.es x.ins (l.take k)) ∧ (cutF x.es x.ins (l.take k) ≠ [] → ∀ a, C = some a → o.ownBlock ≠ some a.block) ∧ AL wr (w.heap.size + 1) o ((x.ins.length : Int) :: wdI x.es x.ins (l.take k)) ∧ VB wr w.heap.size 31 #[.int .i64 x.wires, .slice E x.es.length ec, .slice I x.ins.length ic, .slice O x.outs.length oc] ∧ Ex w wr) (fun _ _ i _ => l.length - (intOf i).toNat)
      case atStart => exact ⟨0, I, ic, Nat.zero_le _, rfl, rfl, hI3, (fun hn a e e2 => by injection e2 with e2; have := (hI.ex y2).blk_lt hn a e; simp only at e2; omega), hA1, d3, y3⟩
      case round =>
        clear hA1 d3 y3 hI3
        obtain ⟨k, C, cc, hk, rfl, rfl, hC, hne, hal, hd, he⟩ := hrel
        by_cases hlt : k < l.length
        · obtain ⟨g, off, m, rfl, hm, _, c1⟩ := (hA.ex he).at_ hlt
          have hmb := Hpr.out m (List.mem_of_getElem? hm)
          obtain ⟨m, rfl⟩ := Int.eq_ofNat_of_zero_le hmb.1
          have hml : m < x.es.length := by have := hmb.2; omega
          obtain ⟨g', off', e, P, pc, Q, qc, rfl, hx, e0, e1, e2, e3, hP, hQ⟩ := (hE.ex he).edge hml
          have Htk := Lib.hid (show l.take (k + 1) = l.take k ++ [(m : Int)] by rw [List.take_add_one, hm]; rfl)
          have hbl : (l.take k).length = k := by rw [List.length_take]; omega
          have hcl := cutF_len Hk.out (l.take k) x.ins
          have HC := Lib.hid (show cutF x.es x.ins (l.take (k + 1)) = cutB (cutF x.es x.ins (l.take k)) e by
            rw [Htk.out, cutF, List.foldl_append, List.foldl_cons, List.foldl_nil, edAt_nat hx]; rfl)
          have HS := Lib.hid (wdI_snoc x.es (m : Int) (l.take k) x.ins)
          rw [← Htk.out] at HS
          have hsl := wdI_len x.es (l.take k) x.ins
          have he1 := edK_len (Hk.out e (List.mem_of_getElem? hx))
          have hcl2 := cutF_len Hk.out (l.take (k + 1)) x.ins
          have hbl2 : (l.take (k + 1)).length = k + 1 := by rw [List.length_take]; omega
          have q1 := hd.cell 1 (v := .slice (some ⟨g', off', none⟩) x.es.length ec) rfl
          have hPl := hP.len
          have hQl := hQ.len
          have hal1 := hal.lt
          clear hm hx hmb
          generalize hcut : cutF x.es x.ins (l.take k) = cut at *
          generalize hcut2 : cutF x.es x.ins (l.take (k + 1)) = cut2 at *
          generalize wdI x.es x.ins (l.take k) = row at *
          have hcb := cutBehind_c C cc cut e P pc Q qc wr hC hP hQ (by omega)
          rw [← HC.out] at hcb
          clear hcut
          go_wp2_with fail
          refine hcb.mono ?_
          rintro r w5 ⟨_, rfl, ⟨C5, cc5, rfl, f5⟩, x5⟩
          have hal5 := hal.ex x5
          have hd5 := hd.ex x5
          have he5 := he.trans x5
          clear hcb hal hd he e0 e1 e2 e3 hP hQ c1 q1
          have hz5 := hd5.lt
          obtain ⟨o', w6, hrun6, hal6, hE6, ho6⟩ := al_push_o w5 (w.heap.size + 1) _ _ (cut2.length : Int) hal5 (by omega) (by rw [List.length_cons]; omega)
          rw [List.cons_append, ← HS.out] at hal6
          have hC6 := f5.rd.exo_n hE6 (fun _ a e e2 => by have := (hal1 _ e2).2; have := f5.fr.hi a e; omega)
          have hd6 : VB w6 w.heap.size 31 #[.int .i64 x.wires, .slice (some ⟨g', off', none⟩) x.es.length ec, .slice I x.ins.length ic, .slice O x.outs.length oc] := (hE6.block _ hd5.lt (fun e => by have := (hal1 _ e.symm).1; omega)).trans hd5
          have he6 := he5.exo hE6 (fun g e => Nat.le_of_succ_le (hal1 g e).1)
          have hne6 : cut2 ≠ [] → ∀ a, C5 = some a → o'.ownBlock ≠ some a.block := fun _ a e e2 => by
            have h1 := f5.fr.hi a e
            have h2 := f5.lo a e
            rcases ho6 with h | ⟨q, h, hq⟩
            · rw [h] at e2; have := (hal1 _ e2).2; omega
            · rw [h] at e2; injection e2 with e2; omega
          clear hal5 hd5 he5 x5 hE6 f5 hC hne
          go_wp2_with (at_builtin; refine wpList_append_run rfl _ _ _ rfl rfl rfl hrun6 ?_)
          go_roundw
          case rel => exact ⟨k + 1, C5, cc5, by omega, by go_num, by rw [hcut2], by rw [hcut2]; exact hC6, by rw [hcut2]; exact hne6, hal6, hd6, he6⟩
          case measure => simp [intOf]; omega
        · obtain rfl : k = l.length := by omega
          rw [List.take_length] at hal
          obtain ⟨R, rc, rfl, fo⟩ := hal.form (by rw [List.length_cons, wdI_len]; omega)
          have hz := he.size
          have HL := Lib.hid (show ((x.ins.length : Int) :: wdI x.es x.ins l).length = l.length + 1 by rw [List.length_cons, wdI_len])
          rw [HL.out]
          go_wp2_with fail
          go_ret2
          rw [H.out]
          exact ⟨_, rfl, ⟨R, rc, by rw [HL.out]; rfl, (fo.more (Nat.le_succ _)).fi⟩, he⟩
end Go.Proofs.Ytgblnkadmieflaa
