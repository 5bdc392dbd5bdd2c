/- Cuts of a graph behind the edges of an order, in plain terms: the reference's numbers are the lengths of the program's cuts. -/
import Derived.Test.YtgblnkadmieflaaGrQ
namespace Go.Proofs.Ytgblnkadmieflaa
set_option maxRecDepth 100000
def cutB (cut : List Int) (e : Ed) : List Int := e.outs ++ cut.filter fun w => !decide (w ∈ e.ins)
def wdI (es : List Ed) : List Int → List Int → List Int
  | _, [] => []
  | cut, i :: l => ((cutB cut (edAt es i)).length : Int) :: wdI es (cutB cut (edAt es i)) l
def wdS (es : List Ed) : Int → List Int → List Int
  | _, [] => []
  | n, i :: l => (n + (((edAt es i).outs.length : Int) - ((edAt es i).ins.length : Int))) :: wdS es (n + (((edAt es i).outs.length : Int) - ((edAt es i).ins.length : Int))) l
theorem filter_out : ∀ (ins cut : List Int), cut.Nodup → ins.Nodup → (∀ w ∈ ins, w ∈ cut) → (cut.filter fun w => !decide (w ∈ ins)).length + ins.length = cut.length
  | [], cut, _, _, _ => by simp
  | a :: ins, cut, hc, hi, hs => by
    rw [List.nodup_cons] at hi
    have ha := hs a (by simp)
    have e1 : (cut.filter fun w => !decide (w ∈ a :: ins)) = (cut.erase a).filter fun w => !decide (w ∈ ins) := by
      rw [hc.erase_eq_filter, List.filter_filter]
      congr 1
      funext w
      by_cases h1 : w = a <;> by_cases h2 : w ∈ ins <;> simp [h1, h2]
    have ih := filter_out ins (cut.erase a) (hc.erase a) hi.2 (fun w hw => (hc.mem_erase_iff).2 ⟨fun e => hi.1 (e ▸ hw), hs w (by simp [hw])⟩)
    rw [e1, List.length_cons]
    have := List.length_erase_of_mem ha
    have hp : 0 < cut.length := List.length_pos_iff.2 (fun e => by rw [e] at ha; cases ha)
    omega
/-- Each wire comes from one place and leads to one. -/
def monoB (x : Gr) : Bool := permB x.wires.toNat (frL x) && permB x.wires.toNat (toWL x)
theorem flat_one {α : Type} {f : α → List Int} {l : List α} (h : (l.flatMap f).Nodup) {a : α} (ha : a ∈ l) : (f a).Nodup := by
  unfold List.Nodup at h ⊢
  rw [List.pairwise_flatMap] at h
  exact h.1 a ha
theorem flat_two {α : Type} {f : α → List Int} {l : List α} (h : (l.flatMap f).Nodup) {i j : Nat} {a b : α} (hi : l[i]? = some a) (hj : l[j]? = some b) (hne : i ≠ j) {w : Int} (h1 : w ∈ f a) : w ∉ f b := by
  unfold List.Nodup at h
  rw [List.pairwise_flatMap] at h
  obtain ⟨hil, rfl⟩ := List.getElem?_eq_some_iff.1 hi
  obtain ⟨hjl, rfl⟩ := List.getElem?_eq_some_iff.1 hj
  have hp := List.pairwise_iff_getElem.1 h.2
  intro h2
  rcases Nat.lt_or_gt_of_ne hne with hlt | hlt
  · exact hp i j hil hjl hlt w h1 w h2 rfl
  · exact hp j i hjl hil hlt w h2 w h1 rfl
/-- What the cut behind the edges of P holds. -/
def CutI (x : Gr) (P cut : List Int) : Prop := cut.Nodup ∧ ∀ w, w ∈ cut ↔ ((w ∈ x.ins ∨ ∃ i ∈ P, w ∈ (edAt x.es i).outs) ∧ ¬ ∃ i ∈ P, w ∈ (edAt x.es i).ins)
theorem CutI.step {x : Gr} {order : List Int} (hm : monoB x = true) (ho : ioB x.es order = true) {k : Nat} {i : Int} (hk : order[k]? = some i) {cut : List Int} (h : CutI x (order.take k) cut) :
    CutI x (order.take (k + 1)) (cutB cut (edAt x.es i)) ∧ (cutB cut (edAt x.es i)).length + (edAt x.es i).ins.length = cut.length + (edAt x.es i).outs.length := by
  simp only [monoB, Bool.and_eq_true] at hm
  simp only [ioB, Bool.and_eq_true] at ho
  obtain ⟨hf, ht⟩ := hm
  obtain ⟨hp, hc⟩ := ho
  obtain ⟨hfl, hfr, hfn⟩ := permB_parts hf
  obtain ⟨htl, htr, htn⟩ := permB_parts ht
  obtain ⟨hpl, hpr, hpn⟩ := permB_parts hp
  have hib := hpr i (List.mem_of_getElem? hk)
  obtain ⟨m, rfl⟩ := Int.eq_ofNat_of_zero_le hib.1
  obtain ⟨e, he⟩ : ∃ e, x.es[m]? = some e := ⟨_, List.getElem?_eq_getElem (by omega)⟩
  rw [edAt_nat he]
  have hem := List.mem_of_getElem? he
  have hfn' : (x.ins ++ outsL x.es).Nodup := hfn
  have htn' : (x.outs ++ insL x.es).Nodup := htn
  rw [List.nodup_append] at hfn' htn'
  have hin := flat_one htn'.2.1 hem
  have hon := flat_one hfn'.2.1 hem
  -- what an index of the order stands for
  have idx : ∀ q ∈ order, ∃ (z : Nat) (f : Ed), q = (z : Int) ∧ x.es[z]? = some f ∧ edAt x.es q = f := fun q hq => by
    have hb := hpr q hq
    obtain ⟨z, rfl⟩ := Int.eq_ofNat_of_zero_le hb.1
    obtain ⟨f, hf⟩ : ∃ f, x.es[z]? = some f := ⟨_, List.getElem?_eq_getElem (by omega)⟩
    exact ⟨z, f, rfl, hf, edAt_nat hf⟩
  have hnk := notMem_take hpn hk
  have other : ∀ q ∈ order.take k, ∃ (z : Nat) (f : Ed), x.es[z]? = some f ∧ edAt x.es q = f ∧ z ≠ m := fun q hq => by
    obtain ⟨z, f, rfl, hz, hzf⟩ := idx q (List.mem_of_mem_take hq)
    exact ⟨z, f, hz, hzf, fun e => hnk (e ▸ hq)⟩
  have sub : ∀ w ∈ e.ins, w ∈ cut := fun w hw => by
    rw [h.2 w]
    have hwi : w ∈ insL x.es := mem_insL_of hem hw
    have hwb := htr w (List.mem_append_right _ hwi)
    obtain ⟨wn, rfl⟩ := Int.eq_ofNat_of_zero_le hwb.1
    have horig : (wn : Int) ∈ frL x := perm_all hf (by omega)
    refine ⟨?_, ?_⟩
    · rcases List.mem_append.1 horig with h1 | h1
      · exact .inl h1
      · obtain ⟨f, hfm, hwf⟩ := mem_outsL h1
        obtain ⟨z, hz⟩ := List.getElem?_of_mem hfm
        have hzl := (List.getElem?_eq_some_iff.1 hz).1
        obtain ⟨q, hq⟩ := List.getElem?_of_mem (perm_all hp (e := z) hzl)
        by_cases hqk : q < k
        · refine .inr ⟨(z : Int), List.mem_of_getElem? (i := q) (by rw [List.getElem?_take, if_pos hqk]; exact hq), ?_⟩
          rw [edAt_nat hz]; exact hwf
        · exfalso
          have hkl := (List.getElem?_eq_some_iff.1 hk).1
          unfold oC1 at hc
          have h2 := List.all_eq_true.1 hc (k : Int) (List.mem_of_getElem? (upL_at hkl))
          have h3 := List.all_eq_true.1 h2 (z : Int) (List.mem_of_getElem? (i := q - k) (by rw [List.getElem?_drop, Int.toNat_natCast, show k + (q - k) = q by omega]; exact hq))
          rw [Int.toNat_natCast, List.getD_eq_getElem?_getD, hk, Option.getD_some, edAt_nat hz, edAt_nat he] at h3
          have : meetB f.outs e.ins = true := List.any_eq_true.2 ⟨_, hwf, decide_eq_true hw⟩
          rw [this] at h3
          cases h3
    · rintro ⟨q, hq, hwq⟩
      obtain ⟨z, f, hz, hzf, hzm⟩ := other q hq
      rw [hzf] at hwq
      exact flat_two htn'.2.1 hz he hzm hwq hw
  have hfo := filter_out e.ins cut h.1 hin sub
  refine ⟨⟨?_, fun w => ?_⟩, by rw [cutB, List.length_append]; omega⟩
  · rw [cutB, List.nodup_append]
    refine ⟨hon, h.1.filter _, fun a ha b hb hab => ?_⟩
    subst hab
    have hb' := ((h.2 a).1 (List.mem_filter.1 hb).1).1
    rcases hb' with h1 | ⟨q, hq, hwq⟩
    · exact hfn'.2.2 a h1 a (mem_outsL_of hem ha) rfl
    · obtain ⟨z, f, hz, hzf, hzm⟩ := other q hq
      rw [hzf] at hwq
      exact flat_two hfn'.2.1 hz he hzm hwq ha
  · have htk : order.take (k + 1) = order.take k ++ [(m : Int)] := by rw [List.take_add_one, hk]; rfl
    rw [cutB, List.mem_append, List.mem_filter, h.2 w, htk]
    simp only [List.mem_append, List.mem_singleton, Bool.not_eq_true', decide_eq_false_iff_not]
    constructor
    · rintro (ho | ⟨⟨h1, h2⟩, h3⟩)
      · refine ⟨.inr ⟨(m : Int), .inr rfl, by rw [edAt_nat he]; exact ho⟩, ?_⟩
        rintro ⟨q, hq | rfl, hwq⟩
        · -- made here, consumed earlier: then the earlier edge needs this one
          obtain ⟨z, f, hz, hzf, hzm⟩ := other q hq
          rw [hzf] at hwq
          obtain ⟨q', hq'⟩ := List.getElem?_of_mem hq
          have hq'k : q' < k := by have := (List.getElem?_eq_some_iff.1 hq').1; rw [List.length_take] at this; omega
          rw [List.getElem?_take, if_pos hq'k] at hq'
          have hq'l := (List.getElem?_eq_some_iff.1 hq').1
          unfold oC1 at hc
          have h2 := List.all_eq_true.1 hc (q' : Int) (List.mem_of_getElem? (upL_at hq'l))
          have h3 := List.all_eq_true.1 h2 (m : Int) (List.mem_of_getElem? (i := k - q') (by rw [List.getElem?_drop, Int.toNat_natCast, show q' + (k - q') = k by omega]; exact hk))
          rw [Int.toNat_natCast, List.getD_eq_getElem?_getD, hq', Option.getD_some, hzf, edAt_nat he] at h3
          have : meetB e.outs f.ins = true := List.any_eq_true.2 ⟨_, ho, decide_eq_true hwq⟩
          rw [this] at h3
          cases h3
        · rw [edAt_nat he] at hwq
          have hkl := (List.getElem?_eq_some_iff.1 hk).1
          unfold oC1 at hc
          have h2 := List.all_eq_true.1 hc (k : Int) (List.mem_of_getElem? (upL_at hkl))
          have h3 := List.all_eq_true.1 h2 (m : Int) (List.mem_of_getElem? (i := 0) (by rw [List.getElem?_drop, Int.toNat_natCast]; exact hk))
          rw [Int.toNat_natCast, List.getD_eq_getElem?_getD, hk, Option.getD_some, edAt_nat he] at h3
          have : meetB e.outs e.ins = true := List.any_eq_true.2 ⟨_, ho, decide_eq_true hwq⟩
          rw [this] at h3
          cases h3
      · refine ⟨h1.imp id (fun ⟨q, hq, hwq⟩ => ⟨q, .inl hq, hwq⟩), ?_⟩
        rintro ⟨q, hq | rfl, hwq⟩
        · exact h2 ⟨q, hq, hwq⟩
        · rw [edAt_nat he] at hwq; exact h3 hwq
    · rintro ⟨h1 | ⟨q, hq | rfl, hwq⟩, h2⟩
      · exact .inr ⟨⟨.inl h1, fun ⟨q, hq, hwq⟩ => h2 ⟨q, .inl hq, hwq⟩⟩, fun hw => h2 ⟨(m : Int), .inr rfl, by rw [edAt_nat he]; exact hw⟩⟩
      · exact .inr ⟨⟨.inr ⟨q, hq, hwq⟩, fun ⟨q, hq, hwq⟩ => h2 ⟨q, .inl hq, hwq⟩⟩, fun hw => h2 ⟨(m : Int), .inr rfl, by rw [edAt_nat he]; exact hw⟩⟩
      · rw [edAt_nat he] at hwq; exact .inl hwq
theorem wd_eq {x : Gr} {order : List Int} (hm : monoB x = true) (ho : ioB x.es order = true) : ∀ (r k : Nat) (cut : List Int), k + r = order.length → CutI x (order.take k) cut → wdI x.es cut (order.drop k) = wdS x.es cut.length (order.drop k)
  | 0, k, cut, hk, _ => by rw [List.drop_of_length_le (by omega)]; rfl
  | r + 1, k, cut, hk, h => by
    obtain ⟨i, hi⟩ : ∃ i, order[k]? = some i := ⟨_, List.getElem?_eq_getElem (by omega)⟩
    obtain ⟨h1, h2⟩ := h.step hm ho hi
    have ih := wd_eq hm ho r (k + 1) _ (by omega) h1
    have hkl : k < order.length := by omega
    have hd : order.drop k = i :: order.drop (k + 1) := by rw [List.drop_eq_getElem_cons hkl, (List.getElem?_eq_some_iff.1 hi).2]
    have e : (cut.length : Int) + (((edAt x.es i).outs.length : Int) - ((edAt x.es i).ins.length : Int)) = ((cutB cut (edAt x.es i)).length : Int) := by omega
    rw [hd, wdI, wdS, e, ih]
theorem widths_eq {x : Gr} {order : List Int} (hm : monoB x = true) (ho : ioB x.es order = true) : wdI x.es x.ins order = wdS x.es x.ins.length order := by
  have h0 : CutI x (order.take 0) x.ins := by
    have hm' := hm
    simp only [monoB, Bool.and_eq_true] at hm'
    have hn : (x.ins ++ outsL x.es).Nodup := (permB_parts hm'.1).2.2
    rw [List.nodup_append] at hn
    exact ⟨hn.1, fun w => by simp⟩
  have := wd_eq hm ho order.length 0 x.ins (by omega) h0
  simpa using this
end Go.Proofs.Ytgblnkadmieflaa
