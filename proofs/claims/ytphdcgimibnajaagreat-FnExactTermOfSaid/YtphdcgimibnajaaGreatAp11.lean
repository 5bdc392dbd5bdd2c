/- IsAcyclic and EdgeOrder, on both sides. Printed by a program of mine. Contracts: the levels of the edges, on both sides. Contracts: is a list an order of the edges, on both sides. Cuts of a graph behind the edges of an order, in plain terms: the reference's numbers are the lengths of the program's cuts. -/
import Derived.Test.YtphdcgimibnajaaGreatAp10
import Derived.Test.YtphdcgimibnajaaGreatAp08
namespace Go.Proofs.YtphdcgimibnajaaGreat
set_option maxRecDepth 100000
open Go Go.RowKit
set_option maxHeartbeats 4000000 in
theorem rbGood_c (x : Gr) (E : Option Addr) (ec : Nat) (I : Option Addr) (ic : Nat) (O : Option Addr) (oc : Nat) (w : World) (hE : RdS EE w E x.es) (hI : Rd w I x.ins) (hO : Rd w O x.outs) :
    Calls Tryz.prog 37 #[.agg #[.int .i64 x.wires, .slice E x.es.length ec, .slice I x.ins.length ic, .slice O x.outs.length oc]] w fun e w' => e = .returned (.bool (acyB x)) ∧ Ex w w' := by
  have hEl := hE.1
  have x0 := (Ex.refl w).alloc (.cells #[.int .i64 x.wires, .slice E x.es.length ec, .slice I x.ins.length ic, .slice O x.outs.length oc] 34)
  have d0 := VB.new w 34 #[.int .i64 x.wires, .slice E x.es.length ec, .slice I x.ins.length ic, .slice O x.outs.length oc]
  go_enter Tryz.func37, Tryz.ntmps37
  go_wp2_with fail
  generalize w.alloc (.cells #[.int .i64 x.wires, .slice E x.es.length ec, .slice I x.ins.length ic, .slice O x.outs.length oc] 34) = W0 at *
  have q0 := d0.cell 0 (v := .int .i64 x.wires) rfl
  have q1 := d0.cell 1 (v := .slice E x.es.length ec) rfl
  have q2 := d0.cell 2 (v := .slice I x.ins.length ic) rfl
  have q3 := d0.cell 3 (v := .slice O x.outs.length oc) rfl
  have HS : ∀ W, Ex W0 W → (Ex W0 W ∧ W.cell? ⟨w.heap.size, 0, none⟩ = some (.int .i64 x.wires) ∧ W.cell? ⟨w.heap.size, 1, none⟩ = some (.slice E x.es.length ec) ∧ W.cell? ⟨w.heap.size, 2, none⟩ = some (.slice I x.ins.length ic) ∧ W.cell? ⟨w.heap.size, 3, none⟩ = some (.slice O x.outs.length oc)) := fun W h => ⟨h, cell_ex h q0, cell_ex h q1, cell_ex h q2, cell_ex h q3⟩
  have eA := (Ex.refl W0).drew
  have hv := fun W (y : Ex W0 W) => hgValid_c x E ec I ic O oc W (hE.ex (x0.trans y)) (hI.ex (x0.trans y)) (hO.ex (x0.trans y))
  cases hb : validB x with
  | false =>
    rw [hb] at hv
    have H := Lib.hid (show acyB x = false by rw [acyB, hb]; rfl)
    clear hb
    refine (hv _ (Ex.refl W0)).mono ?_
    rintro e w1 ⟨rfl, x1⟩
    go_wp2
    go_ret
    exact ⟨ret_bool H.out.symm, x0.trans x1⟩
  | true =>
    rw [hb] at hv
    have hes := validB_es hb
    have H := Lib.hid (show acyB x = decide ((orderL x.es).length = x.es.length) by rw [acyB, hb, Bool.true_and])
    clear hb
    refine (hv _ (Ex.refl W0)).mono ?_
    rintro e w1 ⟨rfl, x1⟩
    have d1 := d0.ex x1
    have q0 := d1.cell 0 (v := .int .i64 x.wires) rfl
    have q1 := d1.cell 1 (v := .slice E x.es.length ec) rfl
    have q2 := d1.cell 2 (v := .slice I x.ins.length ic) rfl
    have q3 := d1.cell 3 (v := .slice O x.outs.length oc) rfl
    go_wp2_with fail
    refine (hgAcyclic_c x E ec I ic O oc w1 (hE.ex (x0.trans x1)) hes).mono ?_
    rintro e w2 ⟨rfl, x2⟩
    go_wp2
    go_ret
    exact ⟨ret_bool (by rw [H.out]), (x0.trans x1).trans x2⟩
end Go.Proofs.YtphdcgimibnajaaGreat
namespace Go.Proofs.YtphdcgimibnajaaGreat
set_option maxRecDepth 100000
open Go Go.RowKit
def lvS (e : Int) (out : List Int) (f : Int) : List Int := out.set e.toNat (max (out.getD e.toNat 0) (out.getD f.toNat 0 + 1))
def Bd (out : List Int) (c : Int) : Prop := ∀ i : Nat, 0 ≤ out.getD i 0 ∧ out.getD i 0 ≤ c
theorem Bd.step {out : List Int} {c : Int} (h : Bd out c) (e f : Int) : Bd (lvS e out f) (c + 1) := fun i => by
  have h1 := h e.toNat
  have h2 := h f.toNat
  have h3 := h i
  unfold lvS
  rw [List.getD_eq_getElem?_getD, List.getElem?_set]
  split
  · split
    · simp only [Option.getD_some]; omega
    · simp; omega
  · rw [← List.getD_eq_getElem?_getD]; omega
theorem Bd.mono {out : List Int} {c d : Int} (h : Bd out c) (hd : c ≤ d) : Bd out d := fun i => by have := h i; omega
theorem getD_some {l : List Int} {i : Nat} (h : i < l.length) : l[i]? = some (l.getD i 0) := by
  rw [List.getD_eq_getElem?_getD, List.getElem?_eq_getElem h]; rfl
theorem OI.at_ {w : World} {a b c : Nat} {A : Option Addr} {xs : List Int} (h : OI w a b (.slice A xs.length c) xs) : Rd w A xs := by
  obtain ⟨A', c', e, f⟩ := h
  injection e with e1 _ _
  subst e1
  exact f.rd
end Go.Proofs.YtphdcgimibnajaaGreat
namespace Go.Proofs.YtphdcgimibnajaaGreat
set_option maxRecDepth 100000
open Go Go.RowKit
/-- A list of ints reads, and the room is no less than the list. -/
def RIc (w : World) (v : Value) (xs : List Int) : Prop := ∃ A c, v = .slice A xs.length c ∧ Rd w A xs ∧ xs.length ≤ c
theorem RIc.ex {w w' : World} {v : Value} {xs : List Int} (h : RIc w v xs) (he : Ex w w') : RIc w' v xs := by
  obtain ⟨A, c, e, r, k⟩ := h
  exact ⟨A, c, e, r.ex he, k⟩
theorem perm_count {n : Nat} {l : List Int} (h : permB n l = true) : ∀ k, k ≤ l.length → (seenL n (l.take k)).count true = k
  | 0, _ => by rw [List.take_zero, seenL_nil]; simp [List.count_replicate]
  | k + 1, hk => by
    obtain ⟨_, hr, hn⟩ := permB_parts h
    have ih := perm_count h k (by omega)
    obtain ⟨x, hx⟩ : ∃ x, l[k]? = some x := ⟨_, List.getElem?_eq_getElem (by omega)⟩
    have hb := hr x (List.mem_of_getElem? hx)
    obtain ⟨m, rfl⟩ := Int.eq_ofNat_of_zero_le hb.1
    have hnm := notMem_take hn hx
    have hat := seenL_at (n := n) (l := l.take k) (i := m) (by omega)
    rw [decide_eq_false hnm] at hat
    have := count_up hat
    rw [← seenL_in n (l.take k) m, show l.take k ++ [(m : Int)] = l.take (k + 1) by rw [List.take_add_one, hx]; rfl] at this
    omega
theorem perm_all {n : Nat} {l : List Int} (h : permB n l = true) {e : Nat} (he : e < n) : (e : Int) ∈ l := by
  obtain ⟨hl, _, _⟩ := permB_parts h
  have hc := perm_count h l.length (Nat.le_refl _)
  rw [List.take_length] at hc
  have hs := seenL_len n l
  have : (seenL n l).count true = (seenL n l).length := by omega
  rw [List.count_eq_length] at this
  have h2 := this _ (List.mem_of_getElem? (seenL_at (l := l) he))
  exact of_decide_eq_true h2.symm
/-- As the reference looks: no edge needs one that stands at its place or behind it. -/
def oC1 (es : List Ed) (l : List Int) : Bool := (upL l.length).all fun i => (l.drop i.toNat).all fun f => !meetB (edAt es f).outs (edAt es (l.getD i.toNat 0)).ins
def ioB (es : List Ed) (l : List Int) : Bool := permB es.length l && oC1 es l
end Go.Proofs.YtphdcgimibnajaaGreat
namespace Go.Proofs.YtphdcgimibnajaaGreat
set_option maxRecDepth 100000
def cutB (cut : List Int) (e : Ed) : List Int := e.outs ++ cut.filter fun w => !decide (w ∈ e.ins)
theorem filter_out : ∀ (ins cut : List Int), cut.Nodup → ins.Nodup → (∀ w ∈ ins, w ∈ cut) → (cut.filter fun w => !decide (w ∈ ins)).length + ins.length = cut.length
  | [], cut, _, _, _ => by simp
  | a :: ins, cut, hc, hi, hs => by
    rw [List.nodup_cons] at hi
    have ha := hs a (by simp)
    have e1 : (cut.filter fun w => !decide (w ∈ a :: ins)) = (cut.erase a).filter fun w => !decide (w ∈ ins) := by
      rw [hc.erase_eq_filter, List.filter_filter]
      congr 1
      funext w
      by_cases h1 : w = a <;> by_cases h2 : w ∈ ins <;> simp [h1, h2]
    have ih := filter_out ins (cut.erase a) (hc.erase a) hi.2 (fun w hw => (hc.mem_erase_iff).2 ⟨fun e => hi.1 (e ▸ hw), hs w (by simp [hw])⟩)
    rw [e1, List.length_cons]
    have := List.length_erase_of_mem ha
    have hp : 0 < cut.length := List.length_pos_iff.2 (fun e => by rw [e] at ha; cases ha)
    omega
/-- Each wire comes from one place and leads to one. -/
def monoB (x : Gr) : Bool := permB x.wires.toNat (frL x) && permB x.wires.toNat (toWL x)
theorem flat_one {α : Type} {f : α → List Int} {l : List α} (h : (l.flatMap f).Nodup) {a : α} (ha : a ∈ l) : (f a).Nodup := by
  unfold List.Nodup at h ⊢
  rw [List.pairwise_flatMap] at h
  exact h.1 a ha
theorem flat_two {α : Type} {f : α → List Int} {l : List α} (h : (l.flatMap f).Nodup) {i j : Nat} {a b : α} (hi : l[i]? = some a) (hj : l[j]? = some b) (hne : i ≠ j) {w : Int} (h1 : w ∈ f a) : w ∉ f b := by
  unfold List.Nodup at h
  rw [List.pairwise_flatMap] at h
  obtain ⟨hil, rfl⟩ := List.getElem?_eq_some_iff.1 hi
  obtain ⟨hjl, rfl⟩ := List.getElem?_eq_some_iff.1 hj
  have hp := List.pairwise_iff_getElem.1 h.2
  intro h2
  rcases Nat.lt_or_gt_of_ne hne with hlt | hlt
  · exact hp i j hil hjl hlt w h1 w h2 rfl
  · exact hp j i hjl hil hlt w h2 w h1 rfl
/-- What the cut behind the edges of P holds. -/
def CutI (x : Gr) (P cut : List Int) : Prop := cut.Nodup ∧ ∀ w, w ∈ cut ↔ ((w ∈ x.ins ∨ ∃ i ∈ P, w ∈ (edAt x.es i).outs) ∧ ¬ ∃ i ∈ P, w ∈ (edAt x.es i).ins)
theorem CutI.step {x : Gr} {order : List Int} (hm : monoB x = true) (ho : ioB x.es order = true) {k : Nat} {i : Int} (hk : order[k]? = some i) {cut : List Int} (h : CutI x (order.take k) cut) :
    CutI x (order.take (k + 1)) (cutB cut (edAt x.es i)) ∧ (cutB cut (edAt x.es i)).length + (edAt x.es i).ins.length = cut.length + (edAt x.es i).outs.length := by
  simp only [monoB, Bool.and_eq_true] at hm
  simp only [ioB, Bool.and_eq_true] at ho
  obtain ⟨hf, ht⟩ := hm
  obtain ⟨hp, hc⟩ := ho
  obtain ⟨hfl, hfr, hfn⟩ := permB_parts hf
  obtain ⟨htl, htr, htn⟩ := permB_parts ht
  obtain ⟨hpl, hpr, hpn⟩ := permB_parts hp
  have hib := hpr i (List.mem_of_getElem? hk)
  obtain ⟨m, rfl⟩ := Int.eq_ofNat_of_zero_le hib.1
  obtain ⟨e, he⟩ : ∃ e, x.es[m]? = some e := ⟨_, List.getElem?_eq_getElem (by omega)⟩
  rw [edAt_nat he]
  have hem := List.mem_of_getElem? he
  have hfn' : (x.ins ++ outsL x.es).Nodup := hfn
  have htn' : (x.outs ++ insL x.es).Nodup := htn
  rw [List.nodup_append] at hfn' htn'
  have hin := flat_one htn'.2.1 hem
  have hon := flat_one hfn'.2.1 hem
  -- what an index of the order stands for
  have idx : ∀ q ∈ order, ∃ (z : Nat) (f : Ed), q = (z : Int) ∧ x.es[z]? = some f ∧ edAt x.es q = f := fun q hq => by
    have hb := hpr q hq
    obtain ⟨z, rfl⟩ := Int.eq_ofNat_of_zero_le hb.1
    obtain ⟨f, hf⟩ : ∃ f, x.es[z]? = some f := ⟨_, List.getElem?_eq_getElem (by omega)⟩
    exact ⟨z, f, rfl, hf, edAt_nat hf⟩
  have hnk := notMem_take hpn hk
  have other : ∀ q ∈ order.take k, ∃ (z : Nat) (f : Ed), x.es[z]? = some f ∧ edAt x.es q = f ∧ z ≠ m := fun q hq => by
    obtain ⟨z, f, rfl, hz, hzf⟩ := idx q (List.mem_of_mem_take hq)
    exact ⟨z, f, hz, hzf, fun e => hnk (e ▸ hq)⟩
  have sub : ∀ w ∈ e.ins, w ∈ cut := fun w hw => by
    rw [h.2 w]
    have hwi : w ∈ insL x.es := mem_insL_of hem hw
    have hwb := htr w (List.mem_append_right _ hwi)
    obtain ⟨wn, rfl⟩ := Int.eq_ofNat_of_zero_le hwb.1
    have horig : (wn : Int) ∈ frL x := perm_all hf (by omega)
    refine ⟨?_, ?_⟩
    · rcases List.mem_append.1 horig with h1 | h1
      · exact .inl h1
      · obtain ⟨f, hfm, hwf⟩ := mem_outsL h1
        obtain ⟨z, hz⟩ := List.getElem?_of_mem hfm
        have hzl := (List.getElem?_eq_some_iff.1 hz).1
        obtain ⟨q, hq⟩ := List.getElem?_of_mem (perm_all hp (e := z) hzl)
        by_cases hqk : q < k
        · refine .inr ⟨(z : Int), List.mem_of_getElem? (i := q) (by rw [List.getElem?_take, if_pos hqk]; exact hq), ?_⟩
          rw [edAt_nat hz]; exact hwf
        · exfalso
          have hkl := (List.getElem?_eq_some_iff.1 hk).1
          unfold oC1 at hc
          have h2 := List.all_eq_true.1 hc (k : Int) (List.mem_of_getElem? (upL_at hkl))
          have h3 := List.all_eq_true.1 h2 (z : Int) (List.mem_of_getElem? (i := q - k) (by rw [List.getElem?_drop, Int.toNat_natCast, show k + (q - k) = q by omega]; exact hq))
          rw [Int.toNat_natCast, List.getD_eq_getElem?_getD, hk, Option.getD_some, edAt_nat hz, edAt_nat he] at h3
          have : meetB f.outs e.ins = true := List.any_eq_true.2 ⟨_, hwf, decide_eq_true hw⟩
          rw [this] at h3
          cases h3
    · rintro ⟨q, hq, hwq⟩
      obtain ⟨z, f, hz, hzf, hzm⟩ := other q hq
      rw [hzf] at hwq
      exact flat_two htn'.2.1 hz he hzm hwq hw
  have hfo := filter_out e.ins cut h.1 hin sub
  refine ⟨⟨?_, fun w => ?_⟩, by rw [cutB, List.length_append]; omega⟩
  · rw [cutB, List.nodup_append]
    refine ⟨hon, h.1.filter _, fun a ha b hb hab => ?_⟩
    subst hab
    have hb' := ((h.2 a).1 (List.mem_filter.1 hb).1).1
    rcases hb' with h1 | ⟨q, hq, hwq⟩
    · exact hfn'.2.2 a h1 a (mem_outsL_of hem ha) rfl
    · obtain ⟨z, f, hz, hzf, hzm⟩ := other q hq
      rw [hzf] at hwq
      exact flat_two hfn'.2.1 hz he hzm hwq ha
  · have htk : order.take (k + 1) = order.take k ++ [(m : Int)] := by rw [List.take_add_one, hk]; rfl
    rw [cutB, List.mem_append, List.mem_filter, h.2 w, htk]
    simp only [List.mem_append, List.mem_singleton, Bool.not_eq_true', decide_eq_false_iff_not]
    constructor
    · rintro (ho | ⟨⟨h1, h2⟩, h3⟩)
      · refine ⟨.inr ⟨(m : Int), .inr rfl, by rw [edAt_nat he]; exact ho⟩, ?_⟩
        rintro ⟨q, hq | rfl, hwq⟩
        · -- made here, consumed earlier: then the earlier edge needs this one
          obtain ⟨z, f, hz, hzf, hzm⟩ := other q hq
          rw [hzf] at hwq
          obtain ⟨q', hq'⟩ := List.getElem?_of_mem hq
          have hq'k : q' < k := by have := (List.getElem?_eq_some_iff.1 hq').1; rw [List.length_take] at this; omega
          rw [List.getElem?_take, if_pos hq'k] at hq'
          have hq'l := (List.getElem?_eq_some_iff.1 hq').1
          unfold oC1 at hc
          have h2 := List.all_eq_true.1 hc (q' : Int) (List.mem_of_getElem? (upL_at hq'l))
          have h3 := List.all_eq_true.1 h2 (m : Int) (List.mem_of_getElem? (i := k - q') (by rw [List.getElem?_drop, Int.toNat_natCast, show q' + (k - q') = k by omega]; exact hk))
          rw [Int.toNat_natCast, List.getD_eq_getElem?_getD, hq', Option.getD_some, hzf, edAt_nat he] at h3
          have : meetB e.outs f.ins = true := List.any_eq_true.2 ⟨_, ho, decide_eq_true hwq⟩
          rw [this] at h3
          cases h3
        · rw [edAt_nat he] at hwq
          have hkl := (List.getElem?_eq_some_iff.1 hk).1
          unfold oC1 at hc
          have h2 := List.all_eq_true.1 hc (k : Int) (List.mem_of_getElem? (upL_at hkl))
          have h3 := List.all_eq_true.1 h2 (m : Int) (List.mem_of_getElem? (i := 0) (by rw [List.getElem?_drop, Int.toNat_natCast]; exact hk))
          rw [Int.toNat_natCast, List.getD_eq_getElem?_getD, hk, Option.getD_some, edAt_nat he] at h3
          have : meetB e.outs e.ins = true := List.any_eq_true.2 ⟨_, ho, decide_eq_true hwq⟩
          rw [this] at h3
          cases h3
      · refine ⟨h1.imp id (fun ⟨q, hq, hwq⟩ => ⟨q, .inl hq, hwq⟩), ?_⟩
        rintro ⟨q, hq | rfl, hwq⟩
        · exact h2 ⟨q, hq, hwq⟩
        · rw [edAt_nat he] at hwq; exact h3 hwq
    · rintro ⟨h1 | ⟨q, hq | rfl, hwq⟩, h2⟩
      · exact .inr ⟨⟨.inl h1, fun ⟨q, hq, hwq⟩ => h2 ⟨q, .inl hq, hwq⟩⟩, fun hw => h2 ⟨(m : Int), .inr rfl, by rw [edAt_nat he]; exact hw⟩⟩
      · exact .inr ⟨⟨.inr ⟨q, hq, hwq⟩, fun ⟨q, hq, hwq⟩ => h2 ⟨q, .inl hq, hwq⟩⟩, fun hw => h2 ⟨(m : Int), .inr rfl, by rw [edAt_nat he]; exact hw⟩⟩
      · rw [edAt_nat he] at hwq; exact .inl hwq
end Go.Proofs.YtphdcgimibnajaaGreat
