/- Contracts: drawn graphs (monogamous, acyclic), cuts behind edges, widths of cuts; CutWidths on both sides. Cuts: the first and the last; edges of drawn graphs (plain). The reference's term of a graph by an order. The words and the laws' helpers on Term: it reads, it is owned in an interval of blocks; copied, compared, marked, held. Printed by a program of mine. -/
import Derived.Test.YtphdcgimibnajaaGreatAp22
import Derived.Test.YtphdcgimibnajaaGreatAp12
import Derived.Test.YtphdcgimibnajaaGreatAp21
import Derived.Test.YtphdcgimibnajaaGreatAp04
namespace Go.Proofs.YtphdcgimibnajaaGreat
set_option maxRecDepth 100000
open Go Go.RowKit
def drwB (x : Gr) : Bool := acyB x && monoB x
theorem acyB_valid {x : Gr} (h : acyB x = true) : validB x = true := by
  simp only [acyB, Bool.and_eq_true] at h
  exact h.1
theorem drw_no {x : Gr} (h : (validB x && monoB x) = false) : drwB x = false := by
  unfold drwB acyB
  cases h1 : validB x
  · rfl
  · rw [h1] at h
    have : monoB x = false := h
    rw [this, Bool.and_false]
theorem drw_yes {x : Gr} (h : (validB x && monoB x) = true) : drwB x = acyB x := by
  simp only [Bool.and_eq_true] at h
  unfold drwB
  rw [h.2, Bool.and_true]
theorem frL_all {x : Gr} (h : validB x = true) : ∀ k ∈ frL x, 0 ≤ k ∧ k < x.wires.toNat := fun k hk => by
  obtain ⟨hw0, _, _, _, _, _, hi, ho, he⟩ := validB_dims h
  rcases List.mem_append.1 hk with hk | hk
  · have := hi k hk; omega
  · obtain ⟨e, hm, hk⟩ := mem_outsL hk
    have := (he e hm).2 k hk; omega
theorem toWL_all {x : Gr} (h : validB x = true) : ∀ k ∈ toWL x, 0 ≤ k ∧ k < x.wires.toNat := fun k hk => by
  obtain ⟨hw0, _, _, _, _, _, hi, ho, he⟩ := validB_dims h
  rcases List.mem_append.1 hk with hk | hk
  · have := ho k hk; omega
  · obtain ⟨e, hm, hk⟩ := mem_insL hk
    have := (he e hm).1 k hk; omega
theorem frL_len {x : Gr} (h : validB x = true) : (frL x).length ≤ 1000 ∧ (toWL x).length ≤ 1000 := by
  obtain ⟨_, _, h1, h2, h3, h4, _⟩ := validB_dims h
  have := outsL_len h4
  have := insL_len h4
  rw [frL, toWL, List.length_append, List.length_append]
  omega
set_option maxHeartbeats 2000000 in
theorem hgMono_c (x : Gr) (E : Option Addr) (ec : Nat) (I : Option Addr) (ic : Nat) (O : Option Addr) (oc : Nat) (w : World) (hE : RdS EE w E x.es) (hI : Rd w I x.ins) (hO : Rd w O x.outs) (hv : validB x = true) :
    Calls Tryz.prog 38 #[.agg #[.int .i64 x.wires, .slice E x.es.length ec, .slice I x.ins.length ic, .slice O x.outs.length oc]] w fun e w' => e = .returned (.bool (monoB x)) ∧ Ex w w' := by
  have h1 := frL_all hv
  have h2 := toWL_all hv
  obtain ⟨h3, h4⟩ := frL_len hv
  obtain ⟨hw0, hw1, _⟩ := validB_dims hv
  have HM := Lib.hid (show monoB x = ((cntL x.wires.toNat (x.ins ++ outsL x.es)).all (inB 1 1) && (cntL x.wires.toNat (x.outs ++ insL x.es)).all (inB 1 1)) by
    rw [monoB, ← cnt_perm h1, ← cnt_perm h2]; rfl)
  obtain ⟨n, hn⟩ := Int.eq_ofNat_of_zero_le hw0
  rw [hn, Int.toNat_natCast] at HM
  simp only [hn, Int.toNat_natCast, frL, toWL] at h1 h2 h3 h4
  rw [hn] at hw1 ⊢
  clear hv
  have x0 := (Ex.refl w).alloc (.cells #[.int .i64 n, .slice E x.es.length ec, .slice I x.ins.length ic, .slice O x.outs.length oc] 34)
  have d0 := VB.new w 34 #[.int .i64 n, .slice E x.es.length ec, .slice I x.ins.length ic, .slice O x.outs.length oc]
  have hc := fun W (y : Ex w W) => hgCounts_c n E ec x.es I ic x.ins O oc x.outs W (hE.ex y) (hI.ex y) (hO.ex y) (by omega) h1 h2 h3 h4
  clear h1 h2 h3 h4
  generalize hf : cntL n (x.ins ++ outsL x.es) = cf at *
  generalize ht : cntL n (x.outs ++ insL x.es) = ct at *
  have hfl : cf.length = n := by rw [← hf, cntL_len]
  have htl : ct.length = n := by rw [← ht, cntL_len]
  clear hf ht hn
  go_enter Tryz.func38, Tryz.ntmps38
  go_wp2_with fail
  generalize w.alloc (.cells #[.int .i64 n, .slice E x.es.length ec, .slice I x.ins.length ic, .slice O x.outs.length oc] 34) = W0 at *
  refine (hc W0 x0).mono ?_
  rintro e w1 ⟨f, t, rfl, hf, hft, of, ot, x1⟩
  clear hc
  subst hfl
  have rf := of.rd (by omega)
  have rt := ot.rd (by omega)
  have hlf := fun W (y : Ex w1 W) => l1All_c (some ⟨f, 0, none⟩) cf.length cf 1 1 W (rf.ex y)
  have hlt := fun W (y : Ex w1 W) => l1All_c (some ⟨t, 0, none⟩) ct.length ct 1 1 W (rt.ex y)
  rw [htl] at hlt
  obtain ⟨b1, hb1⟩ : ∃ b, cf.all (inB 1 1) = b := ⟨_, rfl⟩
  rw [hb1] at HM hlf
  clear hb1
  go_wp2_with fail
  refine (hlf _ (Ex.refl w1)).mono ?_
  rintro e _ ⟨rfl, rfl⟩
  have y1 := x0.trans x1
  cases b1 with
  | false =>
    go_wp2
    go_ret
    exact ⟨ret_bool HM.out.symm, y1⟩
  | true =>
    go_wp2_with fail
    refine (hlt _ (Ex.refl w1)).mono ?_
    rintro e _ ⟨rfl, rfl⟩
    go_wp2
    go_ret
    exact ⟨ret_bool (by rw [HM.out]; rfl), y1⟩
set_option maxHeartbeats 2000000 in
theorem rbPlain_c (x : Gr) (E : Option Addr) (ec : Nat) (I : Option Addr) (ic : Nat) (O : Option Addr) (oc : Nat) (w : World) (hE : RdS EE w E x.es) (hI : Rd w I x.ins) (hO : Rd w O x.outs) :
    Calls Tryz.prog 21 #[.agg #[.int .i64 x.wires, .slice E x.es.length ec, .slice I x.ins.length ic, .slice O x.outs.length oc]] w fun e w' => e = .returned (.bool (drwB x)) ∧ Ex w w' := by
  have hEl := hE.1
  have x0 := (Ex.refl w).alloc (.cells #[.int .i64 x.wires, .slice E x.es.length ec, .slice I x.ins.length ic, .slice O x.outs.length oc] 34)
  have d0 := VB.new w 34 #[.int .i64 x.wires, .slice E x.es.length ec, .slice I x.ins.length ic, .slice O x.outs.length oc]
  go_enter Tryz.func21, Tryz.ntmps21
  go_wp2_with fail
  generalize w.alloc (.cells #[.int .i64 x.wires, .slice E x.es.length ec, .slice I x.ins.length ic, .slice O x.outs.length oc] 34) = W0 at *
  refine (rbGood_c x E ec I ic O oc W0 (hE.ex x0) (hI.ex x0) (hO.ex x0)).mono ?_
  rintro e w1 ⟨rfl, x1⟩
  have y1 := x0.trans x1
  have d1 := d0.ex x1
  have q0 := d1.cell 0 (v := .int .i64 x.wires) rfl
  have q1 := d1.cell 1 (v := .slice E x.es.length ec) rfl
  have q2 := d1.cell 2 (v := .slice I x.ins.length ic) rfl
  have q3 := d1.cell 3 (v := .slice O x.outs.length oc) rfl
  cases hb : acyB x with
  | false =>
    have H := Lib.hid (show drwB x = false by rw [drwB, hb]; rfl)
    clear hb
    go_wp2
    go_ret
    exact ⟨ret_bool H.out.symm, y1⟩
  | true =>
    have H := Lib.hid (show drwB x = monoB x by rw [drwB, hb, Bool.true_and])
    have hc := hgMono_c x E ec I ic O oc w1 (hE.ex y1) (hI.ex y1) (hO.ex y1) (acyB_valid hb)
    clear hb
    go_wp2_with fail
    refine hc.mono ?_
    rintro e w2 ⟨rfl, x2⟩
    go_wp2
    go_ret
    exact ⟨ret_bool (by rw [H.out]), y1.trans x2⟩
set_option maxHeartbeats 2000000 in
theorem isDrawn_c (x : Gr) (v0 v1 v2 : Value) (w : World) (h : RGr w v0 v1 v2 x) :
    Calls Tryz.prog 26 #[.agg #[.int .i64 x.wires, v0, v1, v2]] w fun e w' => e = .returned (.bool (drwB x)) ∧ Ex w w' := by
  obtain ⟨⟨⟨E, ec, rfl, hE⟩, hEt⟩, ⟨I, ic, rfl, hI⟩, ⟨O, oc, rfl, hO⟩⟩ := h
  have hEl := hE.1
  have x0 := (Ex.refl w).alloc (.cells #[.int .i64 x.wires, .slice E x.es.length ec, .slice I x.ins.length ic, .slice O x.outs.length oc] 34)
  have d0 := VB.new w 34 #[.int .i64 x.wires, .slice E x.es.length ec, .slice I x.ins.length ic, .slice O x.outs.length oc]
  go_enter Tryz.func26, Tryz.ntmps26
  go_wp2_with fail
  generalize w.alloc (.cells #[.int .i64 x.wires, .slice E x.es.length ec, .slice I x.ins.length ic, .slice O x.outs.length oc] 34) = W0 at *
  refine (isMonogamous_c x E ec I ic O oc W0 (hE.ex x0) (hI.ex x0) (hO.ex x0)).mono ?_
  rintro e w1 ⟨rfl, x1⟩
  have y1 := x0.trans x1
  have d1 := d0.ex x1
  have q0 := d1.cell 0 (v := .int .i64 x.wires) rfl
  have q1 := d1.cell 1 (v := .slice E x.es.length ec) rfl
  have q2 := d1.cell 2 (v := .slice I x.ins.length ic) rfl
  have q3 := d1.cell 3 (v := .slice O x.outs.length oc) rfl
  obtain ⟨b, hb⟩ : ∃ b, (validB x && monoB x) = b := ⟨_, rfl⟩
  rw [hb]
  cases b with
  | false =>
    have H := Lib.hid (drw_no hb)
    clear hb
    go_wp2
    go_ret
    exact ⟨ret_bool H.out.symm, y1⟩
  | true =>
    have H := Lib.hid (drw_yes hb)
    clear hb
    go_wp2_with fail
    refine (isAcyclic_c x _ _ _ w1 ⟨⟨⟨E, ec, rfl, hE.ex y1⟩, hEt⟩, ⟨I, ic, rfl, hI.ex y1⟩, ⟨O, oc, rfl, hO.ex y1⟩⟩).mono ?_
    rintro e w2 ⟨rfl, x2⟩
    go_wp2
    go_ret
    exact ⟨ret_bool (by rw [H.out]), y1.trans x2⟩
theorem rdm_two {w : World} {A : Option Addr} {c : Nat} {r : List Int} (hr : Rd w A r) {A' : Option Addr} {c' : Nat} {r' : List Int} (hr' : Rd w A' r') :
    RdM (w.alloc (.cells #[.slice A r.length c, .slice A' r'.length c'] 23)) (some ⟨w.heap.size, 0, none⟩) [r, r'] := by
  have hv := VB.new w 23 #[.slice A r.length c, .slice A' r'.length c']
  have hx := (Ex.refl w).alloc (.cells #[.slice A r.length c, .slice A' r'.length c'] 23)
  refine ⟨by simp, fun j q hj => ?_⟩
  rcases j with _ | _ | j
  · injection hj with hj; subst hj; exact ⟨_, 0, A, c, rfl, hv.cell 0 rfl, hr.ex hx⟩
  · injection hj with hj; subst hj; exact ⟨_, 0, A', c', rfl, hv.cell 1 rfl, hr'.ex hx⟩
  · simp at hj
set_option maxHeartbeats 2000000 in
theorem cutBehind_c (C : Option Addr) (cc : Nat) (cut : List Int) (e : Ed) (P : Option Addr) (pc : Nat) (Q : Option Addr) (qc : Nat) (w : World) (hC : Rd w C cut) (hP : Rd w P e.ins) (hQ : Rd w Q e.outs) (hl : cut.length + e.outs.length ≤ 1099511627776) :
    Calls Tryz.prog 60 #[.slice C cut.length cc, .agg #[.int .i64 e.kd, .int .i64 e.vl, .slice P e.ins.length pc, .slice Q e.outs.length qc]] w fun r w' => LIo w (cutB cut e) r w' := by
  have x0 := (Ex.refl w).alloc (.cells #[.int .i64 e.kd, .int .i64 e.vl, .slice P e.ins.length pc, .slice Q e.outs.length qc] 69)
  have d0 := VB.new w 69 #[.int .i64 e.kd, .int .i64 e.vl, .slice P e.ins.length pc, .slice Q e.outs.length qc]
  go_enter Tryz.func60, Tryz.ntmps60
  go_wp2_with fail
  generalize w.alloc (.cells #[.int .i64 e.kd, .int .i64 e.vl, .slice P e.ins.length pc, .slice Q e.outs.length qc] 69) = W0 at *
  have q2 := d0.cell 2 (v := .slice P e.ins.length pc) rfl
  have q3 := d0.cell 3 (v := .slice Q e.outs.length qc) rfl
  have HS : ∀ W, Ex W0 W → (Ex W0 W ∧ W.cell? ⟨w.heap.size, 2, none⟩ = some (.slice P e.ins.length pc) ∧ W.cell? ⟨w.heap.size, 3, none⟩ = some (.slice Q e.outs.length qc)) := fun W h => ⟨h, cell_ex h q2, cell_ex h q3⟩
  have eA := (Ex.refl W0).drew
  have hfl : (cut.filter fun w => !decide (w ∈ e.ins)).length ≤ cut.length := List.length_filter_le _ _
  have HB := Lib.hid (show [e.outs, cut.filter fun w => !decide (w ∈ e.ins)].flatten = cutB cut e by simp [cutB])
  have ho := fun W (y : Ex w W) => others_c C cc cut P pc e.ins W (hC.ex y) (hP.ex y)
  generalize (cut.filter fun w => !decide (w ∈ e.ins)) = rest at *
  go_region_held3 (fun W => Ex W0 W ∧ W.cell? ⟨w.heap.size, 2, none⟩ = some (.slice P e.ins.length pc) ∧ W.cell? ⟨w.heap.size, 3, none⟩ = some (.slice Q e.outs.length qc)) (first
    | (exact HS _ hb2) | (exact HS _ (hb1.alloc _)) | (exact HS _ hb1) | (exact HS _ eA) | (exact HS _ (Ex.refl W0))) (first
    | (go_at_call 57
       have hb := (‹Ex W0 _ ∧ _›).1
       refine (ho _ (x0.trans hb)).mono ?_
       rintro e w1 ⟨_, rfl, ⟨R, rc, rfl, fo⟩, x1⟩
       have hb1 := hb.trans x1
       clear hb)
    | (go_at_call 58
       refine (joined_c _ 2 [e.outs, rest] _ (rdm_two (hQ.ex (x0.trans hb1)) fo.rd) (by simp; omega)).mono ?_
       rintro e w2 ⟨_, rfl, ⟨R2, rc2, rfl, fo2⟩, x2⟩
       have hb2 := (hb1.alloc _).trans x2))
  all_goals
    go_wp2
    go_ret
    rw [HB.out] at fo2
    have hz := (x0.trans hb1).size
    have HL : (cutB cut e).length = e.outs.length + rest.length := by rw [← HB.out]; simp
    exact ⟨_, rfl, ⟨R2, rc2, by rw [HL]; rfl, fo2.more (Nat.le_trans hz ((Ex.refl _).alloc _).size) (Nat.le_refl _)⟩, x0.trans hb2⟩
theorem AL.one (w : World) {B : Nat} (x : Int) (hB : B ≤ w.heap.size) : AL (w.alloc (iObj [x])) B (.slice (some ⟨w.heap.size, 0, none⟩) 1 1) [x] :=
  ⟨rfl, .inr ⟨w.heap.size, 1, #[.int .i64 x], rfl, hB, heap_alloc_new w _, Nat.le_refl _, by decide, rfl, rfl⟩⟩
theorem drwB_parts {x : Gr} (h : drwB x = true) : acyB x = true ∧ monoB x = true := by simpa [drwB, Bool.and_eq_true] using h
end Go.Proofs.YtphdcgimibnajaaGreat
namespace Go.Proofs.YtphdcgimibnajaaGreat
set_option maxRecDepth 100000
theorem CutI.nil {x : Gr} (hm : monoB x = true) : CutI x [] x.ins := by
  simp only [monoB, Bool.and_eq_true] at hm
  obtain ⟨_, _, hfn⟩ := permB_parts hm.1
  have hfn' : (x.ins ++ outsL x.es).Nodup := hfn
  rw [List.nodup_append] at hfn'
  exact ⟨hfn'.1, fun w => by simp⟩
theorem CutI.fin {x : Gr} {order : List Int} (hm : monoB x = true) (ho : ioB x.es order = true) {cut : List Int} (h : CutI x order cut) : ∀ w ∈ cut, w ∈ x.outs := by
  simp only [monoB, Bool.and_eq_true] at hm
  simp only [ioB, Bool.and_eq_true] at ho
  obtain ⟨hf, ht⟩ := hm
  obtain ⟨hp, _⟩ := ho
  obtain ⟨_, hfr, _⟩ := permB_parts hf
  obtain ⟨_, hpr, _⟩ := permB_parts hp
  intro w hw
  obtain ⟨h1, h2⟩ := (h.2 w).1 hw
  have hwf : w ∈ frL x := by
    rcases h1 with h1 | ⟨i, hi, hwi⟩
    · exact List.mem_append_left _ h1
    · have hb := hpr i hi
      obtain ⟨z, rfl⟩ := Int.eq_ofNat_of_zero_le hb.1
      obtain ⟨f, hz⟩ : ∃ f, x.es[z]? = some f := ⟨_, List.getElem?_eq_getElem (by omega)⟩
      rw [edAt_nat hz] at hwi
      exact List.mem_append_right _ (mem_outsL_of (List.mem_of_getElem? hz) hwi)
  have hb := hfr w hwf
  obtain ⟨n, rfl⟩ := Int.eq_ofNat_of_zero_le hb.1
  have := perm_all ht (e := n) (by omega)
  rcases List.mem_append.1 this with h3 | h3
  · exact h3
  · obtain ⟨f, hfm, hwf⟩ := mem_insL h3
    obtain ⟨z, hz⟩ := List.getElem?_of_mem hfm
    have hzl := (List.getElem?_eq_some_iff.1 hz).1
    exact absurd ⟨(z : Int), perm_all hp hzl, by rw [edAt_nat hz]; exact hwf⟩ h2
theorem edK_parts {e : Ed} (h : edK e = true) : inB 3 14 e.kd = true ∧ (gw e.kd).1 = (e.ins.length : Int) ∧ (gw e.kd).2 = (e.outs.length : Int) := by
  simp only [edK, edB, Bool.and_eq_true, decide_eq_true_eq] at h
  exact ⟨h.1.1.1, h.1.2, h.2⟩
theorem cut_sub (cut : List Int) (e : Ed) : ∀ v ∈ cut, v ∈ e.ins ++ rstL cut e := by
  intro v hv
  rw [List.mem_append]
  by_cases h : v ∈ e.ins
  · exact .inl h
  · exact .inr (List.mem_filter.2 ⟨hv, by simp [h]⟩)
theorem cutB_eq (cut : List Int) (e : Ed) : cutB cut e = e.outs ++ rstL cut e := rfl
end Go.Proofs.YtphdcgimibnajaaGreat
namespace Go.Proofs.YtphdcgimibnajaaGreat
set_option maxRecDepth 100000
open Go Go.RowKit
theorem LT.fr {w w' : World} {B B' : Nat} {v : Value} {rows : List (List Nd)} (h : LT w B v rows) {A : Option Addr} {c : Nat} {xs : List Int} (hf : Fr w B' A c xs) (he : ExO v.ownBlock w w') : Fr w' B' A c xs := by
  have hk : ∀ a : Addr, A = some a → w'.heap[a.block]? = w.heap[a.block]? := fun a e => by
    obtain ⟨_, cur, hc⟩ := hf.2.2 a e
    exact he.block _ (heap_lt_of hc) (fun e2 => h.ne_tag hc (by decide) e2.symm)
  exact ⟨hf.rd.keep fun a e _ => hk a e, hf.cap, fun a e => by
    obtain ⟨h1, cur, hc⟩ := hf.2.2 a e
    exact ⟨h1, cur, (hk a e).trans hc⟩⟩
theorem LT.vb {w w' : World} {B : Nat} {v : Value} {rows : List (List Nd)} (h : LT w B v rows) {g : Nat} {ty : TypeId} {cs : Array Value} (hv : VB w g ty cs) (hn : ty ≠ 29) (he : ExO v.ownBlock w w') : VB w' g ty cs :=
  (he.block g hv.lt (fun e2 => h.ne_tag hv hn e2.symm)).trans hv
theorem LT.vbl {w w' : World} {B : Nat} {v : Value} {rows : List (List Nd)} (h : LT w B v rows) {g : Nat} {ty : TypeId} {cs : Array Value} (hv : VB w g ty cs) (hn : g < B) (he : ExO v.ownBlock w w') : VB w' g ty cs :=
  (he.block g hv.lt (fun e2 => by have := (h.lt g e2.symm).1; omega)).trans hv
theorem l1Own_n (A : Option Addr) (c : Nat) (xs : List Int) (w : World) (h : Rd w A xs) :
    Calls Tryz.prog 40 #[.slice A xs.length c] w fun e w' => ∃ v, e = .returned v ∧ AL w' w.heap.size v xs ∧ Ex w w' := by
  have hl := h.len
  have hal : AL (w.alloc (.cells #[] 3)) w.heap.size (.slice (some ⟨w.heap.size, 0, none⟩) 0 0) [] := AL.empty w (Nat.le_refl _)
  obtain ⟨v', w1, hrun, hv, hx, hb⟩ := run_append_ints 23 23 Tryz.underlying23 _ _ _ _ hal (by simp) A c xs (h.ex ((Ex.refl w).alloc _)) (by simpa using hl)
  have hex : Ex w w1 := ((Ex.refl w).alloc (.cells #[] 3)).exo hx (fun g e => by simp [Value.ownBlock] at e; omega)
  rw [List.nil_append] at hv
  go_enter Tryz.func40, Tryz.ntmps40
  go_wp2_with (at_builtin; refine wpList_append_run rfl _ _ _ rfl rfl rfl hrun ?_)
  go_ret
  exact ⟨v', rfl, hv, hex⟩
set_option maxHeartbeats 16000000 in
theorem rbTerm_c (x : Gr) (E : Option Addr) (ec : Nat) (I : Option Addr) (ic : Nat) (O : Option Addr) (oc : Nat) (A : Option Addr) (ac : Nat) (order : List Int) (w : World) (hE : RdS EE w E x.es) (hI : Rd w I x.ins) (hO : Rd w O x.outs) (hA : Rd w A order) (hd : drwB x = true) (ho : ioB x.es order = true) :
    Calls Tryz.prog 23 #[.agg #[.int .i64 x.wires, .slice E x.es.length ec, .slice I x.ins.length ic, .slice O x.outs.length oc], .slice A order.length ac] w fun e w' => ∃ F fc, e = .returned (.agg #[.slice F (tFin x order [] x.ins).length fc]) ∧ RdS EN w' F (tFin x order [] x.ins) ∧ Ex w w' := by
  have hEl := hE.1
  have hAl := hA.len
  have hIl := hI.len
  have hOl := hO.len
  obtain ⟨_, hm⟩ := drwB_parts hd
  obtain ⟨_, _, hes, hin, hou, hk, _⟩ := validB_dims (acyB_valid (drwB_parts hd).1)
  have hp : permB x.es.length order = true := by simp only [ioB, Bool.and_eq_true] at ho; exact ho.1
  obtain ⟨hpl, hpr, _⟩ := permB_parts hp
  have Hm := Lib.hid hm
  have Ho := Lib.hid ho
  have Hk := Lib.hid hk
  have Hpr := Lib.hid hpr
  have hol60 : order.length ≤ 60 := by omega
  have HPL := Lib.hid hpl
  clear hm ho hk hpr hp hd hpl
  have x0 := (Ex.refl w).alloc (.cells #[.int .i64 x.wires, .slice E x.es.length ec, .slice I x.ins.length ic, .slice O x.outs.length oc] 34)
  have d0 := VB.new w 34 #[.int .i64 x.wires, .slice E x.es.length ec, .slice I x.ins.length ic, .slice O x.outs.length oc]
  obtain ⟨W0, hW0⟩ : ∃ W, w.alloc (.cells #[.int .i64 x.wires, .slice E x.es.length ec, .slice I x.ins.length ic, .slice O x.outs.length oc] 34) = W := ⟨_, rfl⟩
  have s0 : W0.heap.size = w.heap.size + 1 := by rw [← hW0]; simp
  rw [hW0] at x0 d0
  have x1 := (Ex.refl W0).alloc (.cells #[.slice none 0 0] 29)
  have d1 := VB.new W0 29 #[.slice none 0 0]
  obtain ⟨W1, hW1⟩ : ∃ W, W0.alloc (.cells #[.slice none 0 0] 29) = W := ⟨_, rfl⟩
  have s1 : W1.heap.size = w.heap.size + 1 + 1 := by rw [← hW1]; simp [s0]
  rw [hW1] at x1 d1
  rw [s0] at d1
  have X1 := x0.trans x1
  have p2 := (d0.ex x1).cell 2 (v := .slice I x.ins.length ic) rfl
  go_enter Tryz.func23, Tryz.ntmps23
  go_wp2_with fail
  refine (l1Own_n I ic x.ins W1 (hI.ex X1)).mono ?_
  rintro e w2 ⟨v2, rfl, a2, x2⟩
  obtain ⟨C2, cc2, rfl, f2⟩ := a2.form hIl
  have X2 := X1.trans x2
  have D0 := (d0.ex x1).ex x2
  have D1 := d1.ex x2
  have z2 := x2.size
  clear p2 hW0 hW1 s0 d0 d1 x0 x1 a2
  go_wp2_with fail
  go_loopw [5, 6, 16] (fun s5 s6 s16 wr => ∃ (k : Nat) (cut : List Int) (C : Option Addr) (cc : Nat) (rows : List (List Nd)), k ≤ order.length ∧ s16 = .int .i64 k ∧ s6 = .slice C cut.length cc ∧ Fr wr w.heap.size C cc cut ∧ Hid (CutI x (order.take k) cut) ∧ Hid (tFin x order [] x.ins = tFin x (order.drop k) (chF rows) cut) ∧ cut.length ≤ 12 + 2 * k ∧ rows.length ≤ 2 * k ∧ Hid (∀ r ∈ rows, 0 < r.length ∧ r.length ≤ 1000000) ∧ LT wr (w.heap.size + 1 + 1) s5 rows ∧
      VB wr w.heap.size 34 #[.int .i64 x.wires, .slice E x.es.length ec, .slice I x.ins.length ic, .slice O x.outs.length oc] ∧ VB wr (w.heap.size + 1) 29 #[.slice none 0 0] ∧ Ex w wr ∧ w.heap.size + 1 + 1 ≤ wr.heap.size) (fun _ _ i _ => order.length - (intOf i).toNat)
  case atStart => exact ⟨0, x.ins, C2, cc2, [], Nat.zero_le _, rfl, rfl, f2.more (by omega), Lib.hid (CutI.nil Hm.out), Lib.hid rfl, by omega, by simp, Lib.hid (fun r hr => by simp at hr), LT.nil _ _, D0, D1, X2, by omega⟩
  case round =>
    clear f2 D0 D1 X2 s1 z2 x2 X1
    obtain ⟨k, cut, C, cc, rows, hk, rfl, rfl, hC, HC, HF, hcl, hrl, HRW, hL, D0, D1, he, hsz⟩ := hrel
    obtain ⟨Y, yc, eY⟩ := hL.form
    obtain ⟨N, hN⟩ : ∃ N, rows.length = N := ⟨_, rfl⟩
    have HN := Lib.hid hN
    rw [hN] at eY hrl
    subst eY
    clear hN
    by_cases hlt : k < order.length
    · obtain ⟨g, off, i, rfl, hi, _, c1⟩ := (hA.ex he).at_ hlt
      have hib := Hpr.out i (List.mem_of_getElem? hi)
      obtain ⟨m, rfl⟩ := Int.eq_ofNat_of_zero_le hib.1
      have hml : m < x.es.length := by have := hib.2; omega
      obtain ⟨g', off', e, P, pc, Q, qc, rfl, hx, e0', e1', e2', e3', hP, hQ⟩ := hE.edge hml
      have e0 := cell_ex he e0'
      have e1 := cell_ex he e1'
      have e2 := cell_ex he e2'
      have e3 := cell_ex he e3'
      clear e0' e1' e2' e3'
      have HX := Lib.hid (edAt_nat hx)
      have hkx := Hk.out e (List.mem_of_getElem? hx)
      have he1 := edK_len hkx
      have HDR := Lib.hid (show order.drop k = (m : Int) :: order.drop (k + 1) by
        rw [List.drop_eq_getElem_cons hlt]
        congr 1
        have := List.getElem?_eq_getElem hlt
        rw [hi] at this
        injection this with this
        exact this.symm)
      obtain ⟨hCS, hCL⟩ := HC.out.step Hm.out Ho.out hi
      rw [edAt_nat hx] at hCS hCL
      have HCS := Lib.hid hCS
      have HCL := Lib.hid hCL
      have q1 := D0.cell 1 (v := .slice (some ⟨g', off', none⟩) x.es.length ec) rfl
      have hPl := hP.len
      have hQl := hQ.len
      have hcl2 := hC.rd.len
      clear hi hx hkx hCS hCL hib
      have y1 := (Ex.refl wr).alloc (.cells #[.int .i64 e.kd, .int .i64 e.vl, .slice P e.ins.length pc, .slice Q e.outs.length qc] 69)
      have v1 := VB.new wr 69 #[.int .i64 e.kd, .int .i64 e.vl, .slice P e.ins.length pc, .slice Q e.outs.length qc]
      obtain ⟨V1, hV1⟩ : ∃ W, wr.alloc (.cells #[.int .i64 e.kd, .int .i64 e.vl, .slice P e.ins.length pc, .slice Q e.outs.length qc] 69) = W := ⟨_, rfl⟩
      rw [hV1] at y1 v1
      have r2 := v1.cell 2 (v := .slice P e.ins.length pc) rfl
      go_wp2_with fail
      refine (rbRest_c C cc cut P pc e.ins _ (hC.rd.ex y1) (hP.ex (he.trans y1))).mono ?_
      rintro ee w2 ⟨_, rfl, ⟨R, rc, rfl, f2⟩, y2⟩
      obtain ⟨rest, hrest⟩ : ∃ r, (cut.filter fun x => !decide (x ∈ e.ins)) = r := ⟨_, rfl⟩
      rw [hrest] at f2 ⊢
      have HR := Lib.hid (show rstL cut e = rest from hrest)
      have hrl2 : rest.length + e.ins.length = cut.length := by
        have := HCL.out
        rw [cutB_eq, List.length_append, HR.out] at this
        omega
      clear hrest
      have y12 := y1.trans y2
      have he2 := he.trans y12
      have V2 := v1.ex y2
      have r2 := V2.cell 2 (v := .slice P e.ins.length pc) rfl
      have f2 := f2.fr
      go_wp2_with fail
      refine (l1Own_n P pc e.ins w2 (hP.ex he2)).mono ?_
      rintro ee w3 ⟨v3, rfl, a3, y3⟩
      obtain ⟨J3, j3, e3', f3⟩ := a3.form hPl
      subst e3'
      have z3 := y3.size
      obtain ⟨v4, w4, run4, a4, E4, _⟩ := run_append_ints 23 23 Tryz.underlying23 w3 w2.heap.size _ _ a3 z3 R rc rest (f2.rd.ex y3) (by omega)
      have y4 := y3.exo E4 (fun q e => (a3.lt q e).1)
      obtain ⟨J, jc, e4', f4⟩ := a4.form (by rw [List.length_append]; omega)
      subst e4'
      obtain ⟨tg, htg⟩ : ∃ t, e.ins ++ rest = t := ⟨_, rfl⟩
      have HTG := Lib.hid (show e.ins ++ rstL cut e = tg by rw [HR.out]; exact htg)
      rw [htg] at run4 f4
      obtain ⟨nt, hnt⟩ : ∃ n, tg.length = n := ⟨_, rfl⟩
      have HNT := Lib.hid hnt
      rw [hnt] at run4
      clear htg hnt a3 a4 E4 f3
      have Y4 := y12.trans y4
      have he4 := he.trans Y4
      have V4 := V2.ex y4
      have D04 := D0.ex Y4
      have D14 := D1.ex Y4
      have hC4 := hC.ex Y4
      have L4 := hL.ex Y4
      have f24 := f2.ex y4
      have z4 := Y4.size
      clear q1 r2 D0 D1 hC v1 V2 e0 e1 e2 e3 c1 hV1 f2 hL
      have hmv := rbMove_c C cc cut J jc tg w4 hC4.rd f4.rd (by rw [← HTG.out]; exact cut_sub cut e) (by omega)
      rw [HNT.out] at hmv
      go_wp2_with (at_builtin; refine wpList_append_run rfl _ _ _ rfl rfl rfl run4 ?_)
      refine hmv.mono ?_
      clear hmv run4
      rintro ee w5 hRb
      have hpn := permN_len (posN cut tg)
      rw [posN_len] at hpn
      have hcc : cut.length * cut.length ≤ 132 * 132 := Nat.mul_le_mul (by omega) (by omega)
      rcases hRb with ⟨heq, rfl, y5⟩ | ⟨hne, w6, A6, c6, rfl, rfl, n6, y6⟩
      · have y7 := y5
        have L7 := L4.ex y7
        have run7 := L7.app0
        obtain ⟨rows7, h7⟩ : ∃ r, rows = r := ⟨_, rfl⟩
        have HCH := Lib.hid (show mvA (chF rows) cut tg = chF rows7 by rw [← h7]; exact if_pos heq)
        have HRW7 := HRW
        rw [h7] at L7 HRW7 HN
        have hr7 : rows7.length ≤ 2 * k + 1 := by rw [HN.out]; omega
        obtain ⟨w7, hw7⟩ : ∃ q, w5 = q := ⟨_, rfl⟩
        subst hw7
        have V7 := V4.ex y7
        have D07 := D04.ex y7
        have D17 := D14.ex y7
        have f27 := f24.ex y7
        have he7 := he4.trans y7
        have z7 := y7.size
        clear heq h7
        have b0 := V7.cell 0 (v := .int .i64 e.kd) rfl
        have b1 := V7.cell 1 (v := .int .i64 e.vl) rfl
        go_wp2_with (at_builtin; refine wpList_append_run rfl _ _ _ rfl rfl rfl run7 ?_)
        clear run7
        refine (tmOne_c e.kd e.vl w5).mono ?_
        rintro ee w8 ⟨A8, c8, rfl, n8, y8⟩
        have n8 : AN w8 w5.heap.size (.slice A8 1 c8) [nd e.kd e.vl] := n8
        have hlay := tmLayer_c 0 rest.length [nd e.kd e.vl] A8 c8 w5.heap.size w8 n8 y8.size (by simp)
        rw [show ((0 : Nat) : Int) = 0 from rfl] at hlay
        clear b0 b1
        go_wp2_with fail
        refine hlay.mono ?_
        clear hlay
        rintro ee w9 ⟨A9, c9, rfl, n9, y9⟩
        have hLl := layL_len 0 [nd e.kd e.vl] rest.length
        simp only [List.length_cons, List.length_nil] at hLl
        have y79 := y8.trans y9
        have L9 := L7.ex y79
        have V9 := V7.ex y79
        have D09 := D07.ex y79
        have D19 := D17.ex y79
        have f29 := f27.ex y79
        have he9 := he7.trans y79
        have z9 := y79.size
        obtain ⟨v10, w10, run10, L10, E10, hob⟩ := L9.push (c := c9) (n9.rdx (by omega)) (fun a e2 => by
          have h1 := n9.lt a.block (by rw [e2]; rfl)
          exact ⟨fun e3 => by have := (L7.lt _ e3).2; omega, h1.2⟩) (by omega) (by omega)
        obtain ⟨m9, hm9⟩ : ∃ m, (layL 0 [nd e.kd e.vl] rest.length).length = m := ⟨_, rfl⟩
        rw [hm9] at run10 ⊢
        have V10 := L9.vb V9 (by decide) E10
        have D010 := L9.vb D09 (by decide) E10
        have D110 := L9.vbl D19 (by omega) E10
        have f210 := L9.fr f29 E10
        have he10 := he9.exo E10 (fun q e2 => by have := (L9.lt q e2).1; omega)
        have z10 := E10.size
        obtain ⟨Y10, y10c, eY10⟩ := L10.form
        obtain ⟨N10, hN10⟩ : ∃ n, (rows7 ++ [layL 0 [nd e.kd e.vl] rest.length]).length = n := ⟨_, rfl⟩
        have hN10' : N10 ≤ 2 * (k + 1) := by rw [← hN10, List.length_append, List.length_singleton]; omega
        rw [hN10] at eY10
        subst eY10
        have HN10 := Lib.hid hN10
        have HP10 := Lib.hid (show ∀ r ∈ rows7 ++ [layL 0 [nd e.kd e.vl] rest.length], 0 < r.length ∧ r.length ≤ 1000000 from fun r hr => by
          rcases List.mem_append.1 hr with hr | hr
          · exact HRW7.out r hr
          · rw [List.mem_singleton] at hr
            rw [hr]; omega)
        have HF2 := Lib.hid (show tFin x order [] x.ins = tFin x (order.drop (k + 1)) (chF (rows7 ++ [layL 0 [nd e.kd e.vl] rest.length])) (cutB cut e) by
          rw [HF.out, HDR.out, tFin_cons, HX.out, tStep, HTG.out, HR.out, chF_snoc (fun r hr => (HRW7.out r hr).1), HCH.out])
        have hcl' : (cutB cut e).length ≤ 12 + 2 * (k + 1) := by have := HCL.out; omega
        have b3 := V10.cell 3 (v := .slice Q e.outs.length qc) rfl
        clear hm9 hN10 L7 V7 V9 D07 D09 D17 D19 E10
        go_wp2_with (at_builtin; refine wpList_append_run rfl _ _ _ rfl rfl rfl run10 ?_)
        clear run10
        refine (l1Own_n Q qc e.outs w10 (hQ.ex he10)).mono ?_
        rintro ee w11 ⟨v11, rfl, a11, y11⟩
        obtain ⟨J11, j11, e11, _⟩ := a11.form hQl
        subst e11
        have z11 := y11.size
        obtain ⟨v12, w12, run12, a12, E12, _⟩ := run_append_ints 23 23 Tryz.underlying23 w11 w10.heap.size _ _ a11 z11 R rc rest (f210.rd.ex y11) (by omega)
        have y12 := y11.exo E12 (fun q e2 => (a11.lt q e2).1)
        have HCB := Lib.hid (show cutB cut e = e.outs ++ rest by rw [cutB_eq, HR.out])
        rw [← HCB.out] at a12
        obtain ⟨K, kc, e12, f12⟩ := a12.form (by omega)
        subst e12
        have z12 := y12.size
        clear b3
        go_wp2_with (at_builtin; refine wpList_append_run rfl _ _ _ rfl rfl rfl run12 ?_)
        go_roundw
        case rel => exact ⟨k + 1, cutB cut e, K, kc, rows7 ++ [layL 0 [nd e.kd e.vl] rest.length], by omega, by go_num, rfl, f12.more (by omega), HCS, HF2, hcl', by rw [HN10.out]; exact hN10', HP10, L10.ex y12, D010.ex y12, D110.ex y12, he10.trans y12, by omega⟩
        case measure => simp [intOf]; omega
      · have L6 := L4.ex y6
        have V6 := V4.ex y6
        have D06 := D04.ex y6
        have D16 := D14.ex y6
        have f26 := f24.ex y6
        have he6 := he4.trans y6
        have z6 := y6.size
        obtain ⟨v7, w7, run7, L7, E7, hob7⟩ := L6.push (c := c6) (n6.rdx (by omega)) (fun a e2 => by
          have h1 := n6.lt a.block (by rw [e2]; rfl)
          exact ⟨fun e3 => by have := (L4.lt _ e3).2; omega, h1.2⟩) (by omega) (by rw [HN.out]; omega)
        have V7 := L6.vb V6 (by decide) E7
        have D07 := L6.vb D06 (by decide) E7
        have D17 := L6.vbl D16 (by omega) E7
        have f27 := L6.fr f26 E7
        have he7 := he6.exo E7 (fun q e2 => by have := (L6.lt q e2).1; omega)
        have z7 := E7.size
        have HCH := Lib.hid (show mvA (chF rows) cut tg = chF (rows ++ [permN (posN cut tg)]) by rw [chF_snoc (fun r hr => (HRW.out r hr).1)]; exact if_neg hne)
        have HRW7 := Lib.hid (show ∀ r ∈ rows ++ [permN (posN cut tg)], 0 < r.length ∧ r.length ≤ 1000000 from fun r hr => by
          rcases List.mem_append.1 hr with hr | hr
          · exact HRW.out r hr
          · rw [List.mem_singleton] at hr
            rw [hr]; omega)
        have hr7 : (rows ++ [permN (posN cut tg)]).length ≤ 2 * k + 1 := by rw [List.length_append, List.length_singleton, HN.out]; omega
        obtain ⟨rows7, h7⟩ : ∃ r, rows ++ [permN (posN cut tg)] = r := ⟨_, rfl⟩
        rw [h7] at L7 HCH HRW7 hr7
        obtain ⟨Y7, y7c, eY7⟩ := L7.form
        obtain ⟨N7, hN7⟩ : ∃ n, rows7.length = n := ⟨_, rfl⟩
        rw [hN7] at eY7
        subst eY7
        obtain ⟨m6, hm6⟩ : ∃ m, (permN (posN cut tg)).length = m := ⟨_, rfl⟩
        rw [hm6] at run7 ⊢
        clear hm6 hN7 h7 hne E7 L6 V6 D06 D16 f26 n6
        have b0 := V7.cell 0 (v := .int .i64 e.kd) rfl
        have b1 := V7.cell 1 (v := .int .i64 e.vl) rfl
        go_wp2_with (at_builtin; refine wpList_append_run rfl _ _ _ rfl rfl rfl run7 ?_)
        clear run7
        refine (tmOne_c e.kd e.vl w7).mono ?_
        rintro ee w8 ⟨A8, c8, rfl, n8, y8⟩
        have n8 : AN w8 w7.heap.size (.slice A8 1 c8) [nd e.kd e.vl] := n8
        have hlay := tmLayer_c 0 rest.length [nd e.kd e.vl] A8 c8 w7.heap.size w8 n8 y8.size (by simp)
        rw [show ((0 : Nat) : Int) = 0 from rfl] at hlay
        clear b0 b1
        go_wp2_with fail
        refine hlay.mono ?_
        clear hlay
        rintro ee w9 ⟨A9, c9, rfl, n9, y9⟩
        have hLl := layL_len 0 [nd e.kd e.vl] rest.length
        simp only [List.length_cons, List.length_nil] at hLl
        have y79 := y8.trans y9
        have L9 := L7.ex y79
        have V9 := V7.ex y79
        have D09 := D07.ex y79
        have D19 := D17.ex y79
        have f29 := f27.ex y79
        have he9 := he7.trans y79
        have z9 := y79.size
        obtain ⟨v10, w10, run10, L10, E10, hob⟩ := L9.push (c := c9) (n9.rdx (by omega)) (fun a e2 => by
          have h1 := n9.lt a.block (by rw [e2]; rfl)
          exact ⟨fun e3 => by have := (L7.lt _ e3).2; omega, h1.2⟩) (by omega) (by omega)
        obtain ⟨m9, hm9⟩ : ∃ m, (layL 0 [nd e.kd e.vl] rest.length).length = m := ⟨_, rfl⟩
        rw [hm9] at run10 ⊢
        have V10 := L9.vb V9 (by decide) E10
        have D010 := L9.vb D09 (by decide) E10
        have D110 := L9.vbl D19 (by omega) E10
        have f210 := L9.fr f29 E10
        have he10 := he9.exo E10 (fun q e2 => by have := (L9.lt q e2).1; omega)
        have z10 := E10.size
        obtain ⟨Y10, y10c, eY10⟩ := L10.form
        obtain ⟨N10, hN10⟩ : ∃ n, (rows7 ++ [layL 0 [nd e.kd e.vl] rest.length]).length = n := ⟨_, rfl⟩
        have hN10' : N10 ≤ 2 * (k + 1) := by rw [← hN10, List.length_append, List.length_singleton]; omega
        rw [hN10] at eY10
        subst eY10
        have HN10 := Lib.hid hN10
        have HP10 := Lib.hid (show ∀ r ∈ rows7 ++ [layL 0 [nd e.kd e.vl] rest.length], 0 < r.length ∧ r.length ≤ 1000000 from fun r hr => by
          rcases List.mem_append.1 hr with hr | hr
          · exact HRW7.out r hr
          · rw [List.mem_singleton] at hr
            rw [hr]; omega)
        have HF2 := Lib.hid (show tFin x order [] x.ins = tFin x (order.drop (k + 1)) (chF (rows7 ++ [layL 0 [nd e.kd e.vl] rest.length])) (cutB cut e) by
          rw [HF.out, HDR.out, tFin_cons, HX.out, tStep, HTG.out, HR.out, chF_snoc (fun r hr => (HRW7.out r hr).1), HCH.out])
        have hcl' : (cutB cut e).length ≤ 12 + 2 * (k + 1) := by have := HCL.out; omega
        have b3 := V10.cell 3 (v := .slice Q e.outs.length qc) rfl
        clear hm9 hN10 L7 V7 V9 D07 D09 D17 D19 E10
        go_wp2_with (at_builtin; refine wpList_append_run rfl _ _ _ rfl rfl rfl run10 ?_)
        clear run10
        refine (l1Own_n Q qc e.outs w10 (hQ.ex he10)).mono ?_
        rintro ee w11 ⟨v11, rfl, a11, y11⟩
        obtain ⟨J11, j11, e11, _⟩ := a11.form hQl
        subst e11
        have z11 := y11.size
        obtain ⟨v12, w12, run12, a12, E12, _⟩ := run_append_ints 23 23 Tryz.underlying23 w11 w10.heap.size _ _ a11 z11 R rc rest (f210.rd.ex y11) (by omega)
        have y12 := y11.exo E12 (fun q e2 => (a11.lt q e2).1)
        have HCB := Lib.hid (show cutB cut e = e.outs ++ rest by rw [cutB_eq, HR.out])
        rw [← HCB.out] at a12
        obtain ⟨K, kc, e12, f12⟩ := a12.form (by omega)
        subst e12
        have z12 := y12.size
        clear b3
        go_wp2_with (at_builtin; refine wpList_append_run rfl _ _ _ rfl rfl rfl run12 ?_)
        go_roundw
        case rel => exact ⟨k + 1, cutB cut e, K, kc, rows7 ++ [layL 0 [nd e.kd e.vl] rest.length], by omega, by go_num, rfl, f12.more (by omega), HCS, HF2, hcl', by rw [HN10.out]; exact hN10', HP10, L10.ex y12, D010.ex y12, D110.ex y12, he10.trans y12, by omega⟩
        case measure => simp [intOf]; omega
    · obtain rfl : k = order.length := by omega
      have hci := HC.out
      rw [List.take_length] at hci
      have hfi := CutI.fin Hm.out Ho.out hci
      have HF1 := Lib.hid (show tFin x order [] x.ins = tEnd (mvA (chF rows) cut x.outs) x.ins.length by rw [HF.out, List.drop_length]; rfl)
      have q3 := D0.cell 3 (v := .slice O x.outs.length oc) rfl
      have hmv := rbMove_c C cc cut O oc x.outs wr hC.rd (hO.ex he) hfi (by omega)
      clear hci
      go_wp2_with fail
      refine hmv.mono ?_
      clear hmv q3
      rintro ee w5 hRb
      have hpn := permN_len (posN cut x.outs)
      rw [posN_len] at hpn
      have hcc : cut.length * cut.length ≤ 132 * 132 := Nat.mul_le_mul (by omega) (by omega)
      rcases hRb with ⟨heq, rfl, y5⟩ | ⟨hne, w6, A6, c6, rfl, rfl, n6, y6⟩
      · have y7 := y5
        have L7 := hL.ex y7
        have run7 := L7.app0
        obtain ⟨rows7, h7⟩ : ∃ r, rows = r := ⟨_, rfl⟩
        have HCH := Lib.hid (show mvA (chF rows) cut x.outs = chF rows7 by rw [← h7]; exact if_pos heq)
        have HRW7 := HRW
        have HN7 := HN
        rw [h7] at L7 HRW7 HN7
        have hr7 : rows7.length ≤ 200 := by rw [HN7.out]; omega
        have D07 := D0.ex y7
        have D17 := D1.ex y7
        have he7 := he.trans y7
        have z7 := y7.size
        clear heq h7
        by_cases h0 : rows7.length = 0
        · have hn0 : rows7 = [] := List.eq_nil_of_length_eq_zero h0
          have HE := Lib.hid (show tFin x order [] x.ins = [nd 1 x.ins.length] by
            rw [HF1.out, HCH.out]
            exact if_pos (by rw [hn0]; rfl))
          obtain rfl : N = 0 := by have := HN7.out; omega
          have q2 := D07.cell 2 (v := .slice I x.ins.length ic) rfl
          clear hn0 h0
          go_wp2_with (at_builtin; refine wpList_append_run rfl _ _ _ rfl rfl rfl run7 ?_)
          clear run7
          refine (tmId_c x.ins.length w5).mono ?_
          rintro ee w8 ⟨A8, c8, rfl, n8, y8⟩
          have R8 := n8.rdx (by simp)
          obtain ⟨m8, hm8⟩ : ∃ m, [nd 1 (x.ins.length : Int)].length = m := ⟨_, rfl⟩
          have HM8 := Lib.hid hm8
          rw [hm8]
          clear n8 hm8
          have D18 := D17.ex y8
          have r0 := D18.cell 0 (v := .slice none 0 0) rfl
          have f0 := D18.frozen 0
          have C0 := (D18.set_ 0 (.slice A8 m8 c8)).cell 0 (v := .slice A8 m8 c8) rfl
          have E9 : Ex1 (w.heap.size + 1) w8 (w8.setCell ⟨w.heap.size + 1, 0, none⟩ (.slice A8 m8 c8)) := (Ex1.refl _ _).setCell (p := ⟨w.heap.size + 1, 0, none⟩) rfl _
          have R9 := R8.n_vb D18 (fun i e => by cases e) E9
          have eF := (he7.trans y8).ex1 E9 (Nat.le_succ _)
          go_wp2_with fail
          refine bodyPost_ret (v := .agg #[.slice A8 m8 c8]) (by simp [results, Tryz.results23, go_sem, C0]) rfl ?_
          rw [HE.out]
          exact ⟨A8, c8, by rw [HM8.out], R9, eF⟩
        · have hne0 : rows7 ≠ [] := fun e => h0 (by rw [e]; rfl)
          have hcp : (chF rows7).length ≠ 0 := fun e => hne0 ((chF_pos (fun r hr => (HRW7.out r hr).1)).1 e)
          have HE := Lib.hid (show tFin x order [] x.ins = chF rows7 by
            rw [HF1.out, HCH.out]
            exact if_neg hcp)
          have hg0 : ¬ (((N : Nat) : Int) = 0) := by have := HN7.out; omega
          have hg1 : ¬ (N = 0) := by have := HN7.out; omega
          obtain ⟨Z, zc, eZ, RZ, hzc⟩ := L7.rd (by omega)
          rw [HN7.out] at eZ
          injection eZ with eZ1 eZ2 eZ3
          subst eZ1 eZ3
          clear eZ2
          have hch := tmChain_c Y yc rows7 w5 RZ hne0 (by omega) (fun r hr => (HRW7.out r hr).2) hzc
          rw [HN7.out] at hch
          clear h0 hcp hne0
          go_wp2_with (at_builtin; refine wpList_append_run rfl _ _ _ rfl rfl rfl run7 ?_)
          clear run7
          refine hch.mono ?_
          clear hch
          rintro ee w8 ⟨A8, c8, rfl, R8, y8⟩
          obtain ⟨m8, hm8⟩ : ∃ m, (chF rows7).length = m := ⟨_, rfl⟩
          have HM8 := Lib.hid hm8
          rw [hm8]
          clear hm8
          have D18 := D17.ex y8
          have r0 := D18.cell 0 (v := .slice none 0 0) rfl
          have f0 := D18.frozen 0
          have C0 := (D18.set_ 0 (.slice A8 m8 c8)).cell 0 (v := .slice A8 m8 c8) rfl
          have E9 : Ex1 (w.heap.size + 1) w8 (w8.setCell ⟨w.heap.size + 1, 0, none⟩ (.slice A8 m8 c8)) := (Ex1.refl _ _).setCell (p := ⟨w.heap.size + 1, 0, none⟩) rfl _
          have R9 := R8.n_vb D18 (fun i e => by cases e) E9
          have eF := (he7.trans y8).ex1 E9 (Nat.le_succ _)
          go_wp2_with fail
          refine bodyPost_ret (v := .agg #[.slice A8 m8 c8]) (by simp [results, Tryz.results23, go_sem, C0]) rfl ?_
          rw [HE.out]
          exact ⟨A8, c8, by rw [HM8.out], R9, eF⟩
      · have L6 := hL.ex y6
        have D06 := D0.ex y6
        have D16 := D1.ex y6
        have he6 := he.trans y6
        have z6 := y6.size
        obtain ⟨v7, w7, run7, L7, E7, hob7⟩ := L6.push (c := c6) (n6.rdx (by omega)) (fun a e2 => by
          have h1 := n6.lt a.block (by rw [e2]; rfl)
          exact ⟨fun e3 => by have := (hL.lt _ e3).2; omega, h1.2⟩) (by omega) (by rw [HN.out]; omega)
        have D07 := L6.vb D06 (by decide) E7
        have D17 := L6.vbl D16 (by omega) E7
        have he7 := he6.exo E7 (fun q e2 => by have := (L6.lt q e2).1; omega)
        have z7 := E7.size
        have HCH := Lib.hid (show mvA (chF rows) cut x.outs = chF (rows ++ [permN (posN cut x.outs)]) by rw [chF_snoc (fun r hr => (HRW.out r hr).1)]; exact if_neg hne)
        have HRW7 := Lib.hid (show ∀ r ∈ rows ++ [permN (posN cut x.outs)], 0 < r.length ∧ r.length ≤ 1000000 from fun r hr => by
          rcases List.mem_append.1 hr with hr | hr
          · exact HRW.out r hr
          · rw [List.mem_singleton] at hr
            rw [hr]; omega)
        have hr7 : (rows ++ [permN (posN cut x.outs)]).length ≤ 200 := by rw [List.length_append, List.length_singleton, HN.out]; omega
        obtain ⟨rows7, h7⟩ : ∃ r, rows ++ [permN (posN cut x.outs)] = r := ⟨_, rfl⟩
        rw [h7] at L7 HCH HRW7 hr7
        obtain ⟨Y7, y7c, eY7⟩ := L7.form
        obtain ⟨N7, hN7⟩ : ∃ n, rows7.length = n := ⟨_, rfl⟩
        have HN7 := Lib.hid hN7
        rw [hN7] at eY7
        subst eY7
        obtain ⟨m6, hm6⟩ : ∃ m, (permN (posN cut x.outs)).length = m := ⟨_, rfl⟩
        rw [hm6] at run7 ⊢
        clear hm6 hN7 h7 hne E7 L6 D06 D16 n6
        by_cases h0 : rows7.length = 0
        · have hn0 : rows7 = [] := List.eq_nil_of_length_eq_zero h0
          have HE := Lib.hid (show tFin x order [] x.ins = [nd 1 x.ins.length] by
            rw [HF1.out, HCH.out]
            exact if_pos (by rw [hn0]; rfl))
          obtain rfl : N7 = 0 := by have := HN7.out; omega
          have q2 := D07.cell 2 (v := .slice I x.ins.length ic) rfl
          clear hn0 h0
          go_wp2_with (at_builtin; refine wpList_append_run rfl _ _ _ rfl rfl rfl run7 ?_)
          clear run7
          refine (tmId_c x.ins.length w7).mono ?_
          rintro ee w8 ⟨A8, c8, rfl, n8, y8⟩
          have R8 := n8.rdx (by simp)
          obtain ⟨m8, hm8⟩ : ∃ m, [nd 1 (x.ins.length : Int)].length = m := ⟨_, rfl⟩
          have HM8 := Lib.hid hm8
          rw [hm8]
          clear n8 hm8
          have D18 := D17.ex y8
          have r0 := D18.cell 0 (v := .slice none 0 0) rfl
          have f0 := D18.frozen 0
          have C0 := (D18.set_ 0 (.slice A8 m8 c8)).cell 0 (v := .slice A8 m8 c8) rfl
          have E9 : Ex1 (w.heap.size + 1) w8 (w8.setCell ⟨w.heap.size + 1, 0, none⟩ (.slice A8 m8 c8)) := (Ex1.refl _ _).setCell (p := ⟨w.heap.size + 1, 0, none⟩) rfl _
          have R9 := R8.n_vb D18 (fun i e => by cases e) E9
          have eF := (he7.trans y8).ex1 E9 (Nat.le_succ _)
          go_wp2_with fail
          refine bodyPost_ret (v := .agg #[.slice A8 m8 c8]) (by simp [results, Tryz.results23, go_sem, C0]) rfl ?_
          rw [HE.out]
          exact ⟨A8, c8, by rw [HM8.out], R9, eF⟩
        · have hne0 : rows7 ≠ [] := fun e => h0 (by rw [e]; rfl)
          have hcp : (chF rows7).length ≠ 0 := fun e => hne0 ((chF_pos (fun r hr => (HRW7.out r hr).1)).1 e)
          have HE := Lib.hid (show tFin x order [] x.ins = chF rows7 by
            rw [HF1.out, HCH.out]
            exact if_neg hcp)
          have hg0 : ¬ (((N7 : Nat) : Int) = 0) := by have := HN7.out; omega
          have hg1 : ¬ (N7 = 0) := by have := HN7.out; omega
          obtain ⟨Z, zc, eZ, RZ, hzc⟩ := L7.rd (by omega)
          rw [HN7.out] at eZ
          injection eZ with eZ1 eZ2 eZ3
          subst eZ1 eZ3
          clear eZ2
          have hch := tmChain_c Y7 y7c rows7 w7 RZ hne0 (by omega) (fun r hr => (HRW7.out r hr).2) hzc
          rw [HN7.out] at hch
          clear h0 hcp hne0
          go_wp2_with (at_builtin; refine wpList_append_run rfl _ _ _ rfl rfl rfl run7 ?_)
          clear run7
          refine hch.mono ?_
          clear hch
          rintro ee w8 ⟨A8, c8, rfl, R8, y8⟩
          obtain ⟨m8, hm8⟩ : ∃ m, (chF rows7).length = m := ⟨_, rfl⟩
          have HM8 := Lib.hid hm8
          rw [hm8]
          clear hm8
          have D18 := D17.ex y8
          have r0 := D18.cell 0 (v := .slice none 0 0) rfl
          have f0 := D18.frozen 0
          have C0 := (D18.set_ 0 (.slice A8 m8 c8)).cell 0 (v := .slice A8 m8 c8) rfl
          have E9 : Ex1 (w.heap.size + 1) w8 (w8.setCell ⟨w.heap.size + 1, 0, none⟩ (.slice A8 m8 c8)) := (Ex1.refl _ _).setCell (p := ⟨w.heap.size + 1, 0, none⟩) rfl _
          have R9 := R8.n_vb D18 (fun i e => by cases e) E9
          have eF := (he7.trans y8).ex1 E9 (Nat.le_succ _)
          go_wp2_with fail
          refine bodyPost_ret (v := .agg #[.slice A8 m8 c8]) (by simp [results, Tryz.results23, go_sem, C0]) rfl ?_
          rw [HE.out]
          exact ⟨A8, c8, by rw [HM8.out], R9, eF⟩
end Go.Proofs.YtphdcgimibnajaaGreat
namespace Go.Proofs.YtphdcgimibnajaaGreat
set_option maxRecDepth 100000
open Go Go.RowKit
structure Tm where
  ns : List Nd
def RTm (w : World) (v0 : Value) (x : Tm) : Prop := RN w v0 x.ns
def totTm (x : Tm) : Int := totN x.ns
def mkTm (k : Int) (x : Tm) : Tm := ⟨mkN (k) x.ns⟩
theorem totTm_nn (x : Tm) : 0 ≤ totTm x := by
  unfold totTm
  have h0 := totN_nn x.ns
  omega
theorem RTm.ex {w w' : World} {v0 : Value} {x : Tm} (h : RTm w v0 x) (he : Ex w w') : RTm w' v0 x := RN.ex h he
theorem RTm.tot {w : World} {v0 : Value} {x : Tm} (h : RTm w v0 x) : totTm x ≤ 1125899906842624 := RN.tot h
theorem RTm.form {w : World} {v0 : Value} {x : Tm} (h : RTm w v0 x) : ∃ A0 n0 c0, v0 = .slice A0 n0 c0 := by
  have h0 : RN w v0 _ := h
  obtain ⟨A0, n0, c0, e0⟩ := h0.form
  exact ⟨A0, n0, c0, e0⟩
def OTm (w : World) (lo hi : Nat) (v0 : Value) (x : Tm) : Prop := ∃ (a0 b0 : Nat), ON w a0 b0 v0 x.ns ∧ lo ≤ a0 ∧ b0 ≤ hi
theorem OTm.rd {w : World} {lo hi : Nat} {v0 : Value} {x : Tm} (h : OTm w lo hi v0 x) : RTm w v0 x := by
  obtain ⟨a0, b0, m0, c0, c1⟩ := h
  exact m0.rd
theorem OTm.ex {w w' : World} {lo hi : Nat} {v0 : Value} {x : Tm} (h : OTm w lo hi v0 x) (he : Ex w w') : OTm w' lo hi v0 x := by
  obtain ⟨a0, b0, m0, c0, c1⟩ := h
  exact ⟨a0, b0, m0.ex he, c0, c1⟩
theorem OTm.iv {w w' : World} {lo hi : Nat} {v0 : Value} {x : Tm} (h : OTm w lo hi v0 x) {a b : Nat} (q : ExI a b w w') (hd : hi ≤ a ∨ b ≤ lo) : OTm w' lo hi v0 x := by
  obtain ⟨a0, b0, m0, c0, c1⟩ := h
  exact ⟨a0, b0, m0.iv q (by omega), c0, c1⟩
theorem OTm.e1 {w w' : World} {lo hi : Nat} {v0 : Value} {x : Tm} (h : OTm w lo hi v0 x) {g : Nat} (q : Ex1 g w w') (hd : g < lo ∨ hi ≤ g) : OTm w' lo hi v0 x := by
  obtain ⟨a0, b0, m0, c0, c1⟩ := h
  exact ⟨a0, b0, m0.e1 q (by omega), c0, c1⟩
theorem OTm.more {w : World} {lo hi lo' hi' : Nat} {v0 : Value} {x : Tm} (h : OTm w lo hi v0 x) (h1 : lo' ≤ lo) (h2 : hi ≤ hi') : OTm w lo' hi' v0 x := by
  obtain ⟨a0, b0, m0, c0, c1⟩ := h
  exact ⟨a0, b0, m0, by omega, by omega⟩
set_option maxHeartbeats 4000000 in
set_option maxRecDepth 100000 in
theorem eqTerm_u (x : Tm) (v0 u0 : Value) (w : World) (h : RTm w v0 x) (h' : RTm w u0 x) :
    Calls Tryz.prog 9 #[.agg #[v0], .agg #[u0]] w fun e w' => e = .returned (.bool true) ∧ Ex w w' := by
  obtain ⟨x0⟩ := x
  have h0 : RN w v0 _ := h
  have g0 : RN w u0 _ := h'
  dsimp only at h0 g0 ⊢
  have x1 := (Ex.refl w).alloc (.cells #[v0] 29)
  have d1 := VB.new w 29 #[v0]
  have S1 := Lib.hid (show (w.alloc (.cells #[v0] 29)).heap.size = w.heap.size + 1 by simp)
  go_enter Tryz.func9, Tryz.ntmps9
  go_wp2_with fail
  generalize w.alloc (.cells #[v0] 29) = W1 at *
  have y2 := (Ex.refl W1).alloc (.cells #[u0] 29)
  have d2 := VB.new W1 29 #[u0]
  rw [S1.out] at d2
  generalize W1.alloc (.cells #[u0] 29) = V0 at *
  have xx := x1.trans y2
  have dA := d1.ex y2
  have dB := d2
  clear x1 d1 d2 y2 S1
  refine (eqNodeS_u x0 v0 u0 V0 (h0.ex xx) (g0.ex xx)).mono ?_
  rintro e V1 ⟨rfl, z0⟩
  replace dA := dA.ex z0
  replace dB := dB.ex z0
  replace xx := xx.trans z0
  go_wp2
  go_ret
  exact ⟨rfl, xx⟩
set_option maxHeartbeats 4000000 in
set_option maxRecDepth 100000 in
theorem markTerm_u (lo hi : Nat) (x : Tm) (v0 : Value) (k : Int) (w : World) (h : OTm w lo hi v0 x) (hb : hi ≤ w.heap.size) (hk0 : 0 ≤ k) (hk : k + totTm x ≤ 4611686018427387904) :
    Calls Tryz.prog 12 #[.agg #[v0], .int .i64 k] w fun e w' => e = .returned (.int .i64 (k + totTm x)) ∧ OTm w' lo hi v0 (mkTm k x) ∧ ExI lo hi w w' := by
  obtain ⟨x0⟩ := x
  obtain ⟨a0, b0, m0, c0, c1⟩ := h
  dsimp only at m0 ⊢
  have t0 := totN_nn x0
  have ek : k + totTm ⟨x0⟩ = k + totN x0 := by simp only [totTm]
  rw [ek] at hk ⊢
  clear ek
  have xe := (Ex.refl w).alloc (.cells #[v0] 29)
  have d0 := VB.new w 29 #[v0]
  have dl := d0.lt
  go_enter Tryz.func12, Tryz.ntmps12
  go_wp2_with fail
  generalize w.alloc (.cells #[v0] 29) = W0 at *
  replace m0 := m0.ex xe
  have zz := xe.size
  have ee := ExI.of_ex (a := lo) (b := hi) xe
  clear xe
  refine (markNodeS_u a0 b0 x0 v0 (k) W0 m0 (by omega) (by omega) (by omega)).mono ?_
  clear m0
  rintro e u0 ⟨rfl, m0, z0⟩
  replace d0 := d0.iv z0 (by omega)
  replace ee := ee.trans (z0.widen (by omega) (by omega))
  replace zz := Nat.le_trans zz z0.size
  clear z0
  go_wp2
  go_ret
  exact ⟨rfl, ⟨a0, b0, m0, c0, c1⟩, ee⟩
set_option maxHeartbeats 4000000 in
set_option maxRecDepth 100000 in
theorem heldTerm_u (x : Tm) (v0 : Value) (k : Int) (w : World) (h : RTm w v0 (mkTm k x)) (hk0 : 0 ≤ k) (hk : k + totTm x ≤ 4611686018427387904) :
    Calls Tryz.prog 13 #[.agg #[v0], .int .i64 k] w fun e w' => e = .returned (.int .i64 (k + totTm x)) ∧ Ex w w' := by
  obtain ⟨x0⟩ := x
  have h0 : RN w v0 _ := h
  dsimp only [mkTm] at h0 ⊢
  have t0 := totN_nn x0
  have ek : k + totTm ⟨x0⟩ = k + totN x0 := by simp only [totTm]
  rw [ek] at hk ⊢
  clear ek
  have xe := (Ex.refl w).alloc (.cells #[v0] 29)
  have d0 := VB.new w 29 #[v0]
  go_enter Tryz.func13, Tryz.ntmps13
  go_wp2_with fail
  generalize w.alloc (.cells #[v0] 29) = W0 at *
  refine (heldNodeS_u x0 v0 (k) W0 (h0.ex xe) (by omega) (by omega)).mono ?_
  rintro e u0 ⟨rfl, z0⟩
  replace d0 := d0.ex z0
  replace xe := xe.trans z0
  go_wp2
  go_ret
  exact ⟨rfl, xe⟩
end Go.Proofs.YtphdcgimibnajaaGreat
