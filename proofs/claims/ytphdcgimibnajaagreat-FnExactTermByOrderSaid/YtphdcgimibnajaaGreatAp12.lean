/- Cuts of a graph behind the edges of an order, in plain terms: the reference's numbers are the lengths of the program's cuts. The term of a drawn graph, in plain terms: layers, permutations. Types of terms, in plain terms: nodes are read onto a stack; what a wide cut makes is no term. The reference's record of a term's parts: three lists stand for the stack of types. -/
import Derived.Test.YtphdcgimibnajaaGreatAp11
import Derived.Test.YtphdcgimibnajaaGreatAp04
namespace Go.Proofs.YtphdcgimibnajaaGreat
set_option maxRecDepth 100000
def cutB (cut : List Int) (e : Ed) : List Int := e.outs ++ cut.filter fun w => !decide (w ∈ e.ins)
theorem filter_out : ∀ (ins cut : List Int), cut.Nodup → ins.Nodup → (∀ w ∈ ins, w ∈ cut) → (cut.filter fun w => !decide (w ∈ ins)).length + ins.length = cut.length
  | [], cut, _, _, _ => by simp
  | a :: ins, cut, hc, hi, hs => by
    rw [List.nodup_cons] at hi
    have ha := hs a (by simp)
    have e1 : (cut.filter fun w => !decide (w ∈ a :: ins)) = (cut.erase a).filter fun w => !decide (w ∈ ins) := by
      rw [hc.erase_eq_filter, List.filter_filter]
      congr 1
      funext w
      by_cases h1 : w = a <;> by_cases h2 : w ∈ ins <;> simp [h1, h2]
    have ih := filter_out ins (cut.erase a) (hc.erase a) hi.2 (fun w hw => (hc.mem_erase_iff).2 ⟨fun e => hi.1 (e ▸ hw), hs w (by simp [hw])⟩)
    rw [e1, List.length_cons]
    have := List.length_erase_of_mem ha
    have hp : 0 < cut.length := List.length_pos_iff.2 (fun e => by rw [e] at ha; cases ha)
    omega
/-- Each wire comes from one place and leads to one. -/
def monoB (x : Gr) : Bool := permB x.wires.toNat (frL x) && permB x.wires.toNat (toWL x)
theorem flat_one {α : Type} {f : α → List Int} {l : List α} (h : (l.flatMap f).Nodup) {a : α} (ha : a ∈ l) : (f a).Nodup := by
  unfold List.Nodup at h ⊢
  rw [List.pairwise_flatMap] at h
  exact h.1 a ha
theorem flat_two {α : Type} {f : α → List Int} {l : List α} (h : (l.flatMap f).Nodup) {i j : Nat} {a b : α} (hi : l[i]? = some a) (hj : l[j]? = some b) (hne : i ≠ j) {w : Int} (h1 : w ∈ f a) : w ∉ f b := by
  unfold List.Nodup at h
  rw [List.pairwise_flatMap] at h
  obtain ⟨hil, rfl⟩ := List.getElem?_eq_some_iff.1 hi
  obtain ⟨hjl, rfl⟩ := List.getElem?_eq_some_iff.1 hj
  have hp := List.pairwise_iff_getElem.1 h.2
  intro h2
  rcases Nat.lt_or_gt_of_ne hne with hlt | hlt
  · exact hp i j hil hjl hlt w h1 w h2 rfl
  · exact hp j i hjl hil hlt w h2 w h1 rfl
/-- What the cut behind the edges of P holds. -/
def CutI (x : Gr) (P cut : List Int) : Prop := cut.Nodup ∧ ∀ w, w ∈ cut ↔ ((w ∈ x.ins ∨ ∃ i ∈ P, w ∈ (edAt x.es i).outs) ∧ ¬ ∃ i ∈ P, w ∈ (edAt x.es i).ins)
theorem CutI.step {x : Gr} {order : List Int} (hm : monoB x = true) (ho : ioB x.es order = true) {k : Nat} {i : Int} (hk : order[k]? = some i) {cut : List Int} (h : CutI x (order.take k) cut) :
    CutI x (order.take (k + 1)) (cutB cut (edAt x.es i)) ∧ (cutB cut (edAt x.es i)).length + (edAt x.es i).ins.length = cut.length + (edAt x.es i).outs.length := by
  simp only [monoB, Bool.and_eq_true] at hm
  simp only [ioB, Bool.and_eq_true] at ho
  obtain ⟨hf, ht⟩ := hm
  obtain ⟨hp, hc⟩ := ho
  obtain ⟨hfl, hfr, hfn⟩ := permB_parts hf
  obtain ⟨htl, htr, htn⟩ := permB_parts ht
  obtain ⟨hpl, hpr, hpn⟩ := permB_parts hp
  have hib := hpr i (List.mem_of_getElem? hk)
  obtain ⟨m, rfl⟩ := Int.eq_ofNat_of_zero_le hib.1
  obtain ⟨e, he⟩ : ∃ e, x.es[m]? = some e := ⟨_, List.getElem?_eq_getElem (by omega)⟩
  rw [edAt_nat he]
  have hem := List.mem_of_getElem? he
  have hfn' : (x.ins ++ outsL x.es).Nodup := hfn
  have htn' : (x.outs ++ insL x.es).Nodup := htn
  rw [List.nodup_append] at hfn' htn'
  have hin := flat_one htn'.2.1 hem
  have hon := flat_one hfn'.2.1 hem
  -- what an index of the order stands for
  have idx : ∀ q ∈ order, ∃ (z : Nat) (f : Ed), q = (z : Int) ∧ x.es[z]? = some f ∧ edAt x.es q = f := fun q hq => by
    have hb := hpr q hq
    obtain ⟨z, rfl⟩ := Int.eq_ofNat_of_zero_le hb.1
    obtain ⟨f, hf⟩ : ∃ f, x.es[z]? = some f := ⟨_, List.getElem?_eq_getElem (by omega)⟩
    exact ⟨z, f, rfl, hf, edAt_nat hf⟩
  have hnk := notMem_take hpn hk
  have other : ∀ q ∈ order.take k, ∃ (z : Nat) (f : Ed), x.es[z]? = some f ∧ edAt x.es q = f ∧ z ≠ m := fun q hq => by
    obtain ⟨z, f, rfl, hz, hzf⟩ := idx q (List.mem_of_mem_take hq)
    exact ⟨z, f, hz, hzf, fun e => hnk (e ▸ hq)⟩
  have sub : ∀ w ∈ e.ins, w ∈ cut := fun w hw => by
    rw [h.2 w]
    have hwi : w ∈ insL x.es := mem_insL_of hem hw
    have hwb := htr w (List.mem_append_right _ hwi)
    obtain ⟨wn, rfl⟩ := Int.eq_ofNat_of_zero_le hwb.1
    have horig : (wn : Int) ∈ frL x := perm_all hf (by omega)
    refine ⟨?_, ?_⟩
    · rcases List.mem_append.1 horig with h1 | h1
      · exact .inl h1
      · obtain ⟨f, hfm, hwf⟩ := mem_outsL h1
        obtain ⟨z, hz⟩ := List.getElem?_of_mem hfm
        have hzl := (List.getElem?_eq_some_iff.1 hz).1
        obtain ⟨q, hq⟩ := List.getElem?_of_mem (perm_all hp (e := z) hzl)
        by_cases hqk : q < k
        · refine .inr ⟨(z : Int), List.mem_of_getElem? (i := q) (by rw [List.getElem?_take, if_pos hqk]; exact hq), ?_⟩
          rw [edAt_nat hz]; exact hwf
        · exfalso
          have hkl := (List.getElem?_eq_some_iff.1 hk).1
          unfold oC1 at hc
          have h2 := List.all_eq_true.1 hc (k : Int) (List.mem_of_getElem? (upL_at hkl))
          have h3 := List.all_eq_true.1 h2 (z : Int) (List.mem_of_getElem? (i := q - k) (by rw [List.getElem?_drop, Int.toNat_natCast, show k + (q - k) = q by omega]; exact hq))
          rw [Int.toNat_natCast, List.getD_eq_getElem?_getD, hk, Option.getD_some, edAt_nat hz, edAt_nat he] at h3
          have : meetB f.outs e.ins = true := List.any_eq_true.2 ⟨_, hwf, decide_eq_true hw⟩
          rw [this] at h3
          cases h3
    · rintro ⟨q, hq, hwq⟩
      obtain ⟨z, f, hz, hzf, hzm⟩ := other q hq
      rw [hzf] at hwq
      exact flat_two htn'.2.1 hz he hzm hwq hw
  have hfo := filter_out e.ins cut h.1 hin sub
  refine ⟨⟨?_, fun w => ?_⟩, by rw [cutB, List.length_append]; omega⟩
  · rw [cutB, List.nodup_append]
    refine ⟨hon, h.1.filter _, fun a ha b hb hab => ?_⟩
    subst hab
    have hb' := ((h.2 a).1 (List.mem_filter.1 hb).1).1
    rcases hb' with h1 | ⟨q, hq, hwq⟩
    · exact hfn'.2.2 a h1 a (mem_outsL_of hem ha) rfl
    · obtain ⟨z, f, hz, hzf, hzm⟩ := other q hq
      rw [hzf] at hwq
      exact flat_two hfn'.2.1 hz he hzm hwq ha
  · have htk : order.take (k + 1) = order.take k ++ [(m : Int)] := by rw [List.take_add_one, hk]; rfl
    rw [cutB, List.mem_append, List.mem_filter, h.2 w, htk]
    simp only [List.mem_append, List.mem_singleton, Bool.not_eq_true', decide_eq_false_iff_not]
    constructor
    · rintro (ho | ⟨⟨h1, h2⟩, h3⟩)
      · refine ⟨.inr ⟨(m : Int), .inr rfl, by rw [edAt_nat he]; exact ho⟩, ?_⟩
        rintro ⟨q, hq | rfl, hwq⟩
        · -- made here, consumed earlier: then the earlier edge needs this one
          obtain ⟨z, f, hz, hzf, hzm⟩ := other q hq
          rw [hzf] at hwq
          obtain ⟨q', hq'⟩ := List.getElem?_of_mem hq
          have hq'k : q' < k := by have := (List.getElem?_eq_some_iff.1 hq').1; rw [List.length_take] at this; omega
          rw [List.getElem?_take, if_pos hq'k] at hq'
          have hq'l := (List.getElem?_eq_some_iff.1 hq').1
          unfold oC1 at hc
          have h2 := List.all_eq_true.1 hc (q' : Int) (List.mem_of_getElem? (upL_at hq'l))
          have h3 := List.all_eq_true.1 h2 (m : Int) (List.mem_of_getElem? (i := k - q') (by rw [List.getElem?_drop, Int.toNat_natCast, show q' + (k - q') = k by omega]; exact hk))
          rw [Int.toNat_natCast, List.getD_eq_getElem?_getD, hq', Option.getD_some, hzf, edAt_nat he] at h3
          have : meetB e.outs f.ins = true := List.any_eq_true.2 ⟨_, ho, decide_eq_true hwq⟩
          rw [this] at h3
          cases h3
        · rw [edAt_nat he] at hwq
          have hkl := (List.getElem?_eq_some_iff.1 hk).1
          unfold oC1 at hc
          have h2 := List.all_eq_true.1 hc (k : Int) (List.mem_of_getElem? (upL_at hkl))
          have h3 := List.all_eq_true.1 h2 (m : Int) (List.mem_of_getElem? (i := 0) (by rw [List.getElem?_drop, Int.toNat_natCast]; exact hk))
          rw [Int.toNat_natCast, List.getD_eq_getElem?_getD, hk, Option.getD_some, edAt_nat he] at h3
          have : meetB e.outs e.ins = true := List.any_eq_true.2 ⟨_, ho, decide_eq_true hwq⟩
          rw [this] at h3
          cases h3
      · refine ⟨h1.imp id (fun ⟨q, hq, hwq⟩ => ⟨q, .inl hq, hwq⟩), ?_⟩
        rintro ⟨q, hq | rfl, hwq⟩
        · exact h2 ⟨q, hq, hwq⟩
        · rw [edAt_nat he] at hwq; exact h3 hwq
    · rintro ⟨h1 | ⟨q, hq | rfl, hwq⟩, h2⟩
      · exact .inr ⟨⟨.inl h1, fun ⟨q, hq, hwq⟩ => h2 ⟨q, .inl hq, hwq⟩⟩, fun hw => h2 ⟨(m : Int), .inr rfl, by rw [edAt_nat he]; exact hw⟩⟩
      · exact .inr ⟨⟨.inr ⟨q, hq, hwq⟩, fun ⟨q, hq, hwq⟩ => h2 ⟨q, .inl hq, hwq⟩⟩, fun hw => h2 ⟨(m : Int), .inr rfl, by rw [edAt_nat he]; exact hw⟩⟩
      · rw [edAt_nat he] at hwq; exact .inl hwq
end Go.Proofs.YtphdcgimibnajaaGreat
namespace Go.Proofs.YtphdcgimibnajaaGreat
set_option maxRecDepth 100000
def nd (k v : Int) : Nd := ⟨k, v, ⟨#[]⟩⟩
def jn (k : Int) (a b : List Nd) : List Nd := a ++ b ++ [nd k 0]
/-- A part beside identities on the wires in front of it and behind it. -/
def layF (f : Nat) (t : List Nd) : List Nd := if 0 < f then jn 16 [nd 1 f] t else t
def layL (f : Nat) (t : List Nd) (b : Nat) : List Nd := if 0 < b then jn 16 (layF f t) [nd 1 b] else layF f t
/-- A factor more. -/
def addL (out f : List Nd) : List Nd := if out.length = 0 then f else jn 15 out f
theorem jn_len (k : Int) (a b : List Nd) : (jn k a b).length = a.length + b.length + 1 := by simp [jn]; omega
theorem layF_len (f : Nat) (t : List Nd) : t.length ≤ (layF f t).length ∧ (layF f t).length ≤ t.length + 2 := by
  unfold layF
  split
  · rw [jn_len]; simp; omega
  · omega
theorem layL_len (f : Nat) (t : List Nd) (b : Nat) : t.length ≤ (layL f t b).length ∧ (layL f t b).length ≤ t.length + 4 := by
  have := layF_len f t
  unfold layL
  split
  · rw [jn_len]; simp; omega
  · omega
theorem addL_len (out f : List Nd) : out.length ≤ (addL out f).length ∧ f.length ≤ (addL out f).length ∧ (addL out f).length ≤ out.length + f.length + 1 := by
  unfold addL
  split
  · omega
  · rw [jn_len]; omega
/-- Two neighbours exchanged. -/
def swapI (l : List Int) (i : Nat) : List Int := (l.set i (l.getD (i + 1) 0)).set (i + 1) (l.getD i 0)
def desc (l : List Int) : Option Nat := (List.range (l.length - 1)).find? fun i => decide (l.getD (i + 1) 0 < l.getD i 0)
def invN : List Int → Nat
  | [] => 0
  | x :: l => (l.countP fun y => decide (y < x)) + invN l
theorem swapI_len (l : List Int) (i : Nat) : (swapI l i).length = l.length := by simp [swapI]
theorem swapI_zero (x y : Int) (l : List Int) : swapI (x :: y :: l) 0 = y :: x :: l := by simp [swapI]
theorem swapI_succ (x : Int) (l : List Int) (i : Nat) : swapI (x :: l) (i + 1) = x :: swapI l i := by simp [swapI]
theorem swapI_perm : ∀ (l : List Int) (i : Nat), i + 1 < l.length → (swapI l i).Perm l
  | [], i, h => by simp at h
  | [x], i, h => by simp at h
  | x :: y :: l, 0, _ => by rw [swapI_zero]; exact List.Perm.swap x y l
  | x :: y :: l, i + 1, h => by
    rw [swapI_succ]
    exact (swapI_perm (y :: l) i (by simpa using h)).cons x
theorem invN_swap : ∀ (l : List Int) (i : Nat), i + 1 < l.length → l.getD (i + 1) 0 < l.getD i 0 → invN (swapI l i) + 1 = invN l
  | [], i, h, _ => by simp at h
  | [x], i, h, _ => by simp at h
  | x :: y :: l, 0, _, hd => by
    have hd' : y < x := by simpa using hd
    rw [swapI_zero]
    have h1 : ¬ x < y := by omega
    simp [invN, hd', h1]
    omega
  | x :: y :: l, i + 1, h, hd => by
    rw [swapI_succ]
    have ih := invN_swap (y :: l) i (by simpa using h) (by simpa using hd)
    have hp := (swapI_perm (y :: l) i (by simpa using h)).countP_eq (fun z => decide (z < x))
    show (swapI (y :: l) i).countP _ + invN (swapI (y :: l) i) + 1 = (y :: l).countP _ + invN (y :: l)
    rw [hp]
    omega
theorem invN_le : ∀ l : List Int, invN l ≤ l.length * l.length
  | [] => Nat.zero_le _
  | x :: l => by
    have := invN_le l
    have h2 := List.countP_le_length (p := fun y => decide (y < x)) (l := l)
    show l.countP _ + invN l ≤ (l.length + 1) * (l.length + 1)
    have e : (l.length + 1) * (l.length + 1) = l.length * l.length + 2 * l.length + 1 := by
      rw [Nat.add_mul, Nat.mul_add]; omega
    omega
theorem desc_some {l : List Int} {i : Nat} (h : desc l = some i) : i + 1 < l.length ∧ l.getD (i + 1) 0 < l.getD i 0 := by
  have h1 := List.find?_some h
  have h2 := List.mem_of_find?_eq_some h
  rw [List.mem_range] at h2
  exact ⟨by omega, by simpa using h1⟩
theorem desc_at {l : List Int} {i : Nat} (hp : ∀ j, j < i → l.getD j 0 ≤ l.getD (j + 1) 0) (hi : i + 1 < l.length) (hd : l.getD (i + 1) 0 < l.getD i 0) : desc l = some i := by
  unfold desc
  rw [List.find?_range_eq_some]
  exact ⟨by simpa using hd, List.mem_range.2 (by omega), fun j hj => by simpa using hp j hj⟩
theorem desc_none {l : List Int} (hp : ∀ j, j + 1 < l.length → l.getD j 0 ≤ l.getD (j + 1) 0) : desc l = none := by
  unfold desc
  rw [List.find?_eq_none]
  intro j hj
  rw [List.mem_range] at hj
  simpa using hp j (by omega)
def swpN (l : List Int) (i : Nat) : List Nd := layL i [nd 2 0] (l.length - 2 - i)
def permG : Nat → List Int → List Nd → List Nd
  | 0, _, out => out
  | f + 1, l, out => match desc l with
    | none => out
    | some i => permG f (swapI l i) (addL out (swpN l i))
def permL (l : List Int) (out : List Nd) : List Nd := permG (invN l) l out
theorem permL_none {l : List Int} (h : desc l = none) (out : List Nd) : permL l out = out := by
  unfold permL
  cases invN l with
  | zero => rfl
  | succ f => simp [permG, h]
theorem permL_some {l : List Int} {i : Nat} (h : desc l = some i) (out : List Nd) : permL l out = permL (swapI l i) (addL out (swpN l i)) := by
  obtain ⟨h1, h2⟩ := desc_some h
  have := invN_swap l i h1 h2
  unfold permL
  rw [← this]
  simp [permG, h]
theorem swpN_len (l : List Int) (i : Nat) : 1 ≤ (swpN l i).length ∧ (swpN l i).length ≤ 5 := by
  have := layL_len i [nd 2 0] (l.length - 2 - i)
  unfold swpN
  simp at this
  omega
theorem permG_len : ∀ (f : Nat) (l : List Int) (out : List Nd), out.length ≤ (permG f l out).length ∧ (permG f l out).length ≤ out.length + 6 * f
  | 0, _, out => ⟨Nat.le_refl _, Nat.le_refl _⟩
  | f + 1, l, out => by
    unfold permG
    split
    · omega
    · rename_i i _
      have h1 := permG_len f (swapI l i) (addL out (swpN l i))
      have h2 := addL_len out (swpN l i)
      have h3 := swpN_len l i
      omega
theorem permL_len (l : List Int) (out : List Nd) : out.length ≤ (permL l out).length ∧ (permL l out).length ≤ out.length + 6 * (l.length * l.length) := by
  have h1 := permG_len (invN l) l out
  have h2 := invN_le l
  unfold permL
  omega
/-- The nodes of a permutation. -/
def permN (l : List Int) : List Nd := if (permL l []).length = 0 then [nd 1 l.length] else permL l []
theorem permN_len (l : List Int) : 1 ≤ (permN l).length ∧ (permN l).length ≤ 1 + 6 * (l.length * l.length) := by
  have := permL_len l []
  unfold permN
  simp at this
  split
  · simp
  · omega
/-- What brings wires from one order into another one. -/
def posN (cut target : List Int) : List Int := cut.map fun w => (target.idxOf w : Int)
def mvA (out : List Nd) (cut target : List Int) : List Nd := if cut = target then out else addL out (permN (posN cut target))
theorem posN_len (cut target : List Int) : (posN cut target).length = cut.length := by simp [posN]
theorem posN_nodup {cut target : List Int} (hc : cut.Nodup) (hs : ∀ w ∈ cut, w ∈ target) : (posN cut target).Nodup := by
  unfold posN
  rw [List.nodup_iff_pairwise_ne, List.pairwise_map]
  refine List.Pairwise.imp_of_mem ?_ hc
  intro a b ha hb hne e
  have e' : target.idxOf a = target.idxOf b := by omega
  have h1 := List.getElem_idxOf (List.idxOf_lt_length_of_mem (hs a ha))
  have h2 := List.getElem_idxOf (List.idxOf_lt_length_of_mem (hs b hb))
  apply hne
  rw [← h1, ← h2]
  simp only [e']
theorem mvA_len (out : List Nd) (cut target : List Int) : out.length ≤ (mvA out cut target).length ∧ (mvA out cut target).length ≤ out.length + 2 + 6 * (cut.length * cut.length) := by
  unfold mvA
  split
  · omega
  · have h1 := addL_len out (permN (posN cut target))
    have h2 := permN_len (posN cut target)
    rw [posN_len] at h2
    omega
/-- The wires of a cut that an edge does not take. -/
def rstL (cut : List Int) (e : Ed) : List Int := cut.filter fun w => !decide (w ∈ e.ins)
def tStep (e : Ed) (out : List Nd) (cut : List Int) : List Nd := addL (mvA out cut (e.ins ++ rstL cut e)) (layL 0 [nd e.kd e.vl] (rstL cut e).length)
def tAll (es : List Ed) : List Int → List Nd → List Int → List Nd × List Int
  | [], out, cut => (out, cut)
  | i :: l, out, cut => tAll es l (tStep (edAt es i) out cut) (cutB cut (edAt es i))
def tEnd (out : List Nd) (n : Nat) : List Nd := if out.length = 0 then [nd 1 n] else out
def tFin (x : Gr) (l : List Int) (out : List Nd) (cut : List Int) : List Nd := tEnd (mvA (tAll x.es l out cut).1 (tAll x.es l out cut).2 x.outs) x.ins.length
theorem tFin_cons (x : Gr) (i : Int) (l : List Int) (out : List Nd) (cut : List Int) : tFin x (i :: l) out cut = tFin x l (tStep (edAt x.es i) out cut) (cutB cut (edAt x.es i)) := rfl
theorem tStep_len (e : Ed) (out : List Nd) (cut : List Int) : out.length < (tStep e out cut).length ∧ (tStep e out cut).length ≤ out.length + 9 + 6 * (cut.length * cut.length) := by
  have h1 := mvA_len out cut (e.ins ++ rstL cut e)
  have h2 := addL_len (mvA out cut (e.ins ++ rstL cut e)) (layL 0 [nd e.kd e.vl] (rstL cut e).length)
  have h3 := layL_len 0 [nd e.kd e.vl] (rstL cut e).length
  unfold tStep
  unfold addL at h2 ⊢
  simp at h3
  split
  · rename_i h
    rw [if_pos h] at h2
    omega
  · rename_i h
    rw [if_neg h, jn_len] at h2
    rw [jn_len]
    omega
end Go.Proofs.YtphdcgimibnajaaGreat
namespace Go.Proofs.YtphdcgimibnajaaGreat
set_option maxRecDepth 100000
def nmB (n : Nd) : Bool := decide (n.nm = ⟨#[]⟩)
/-- The type of a leaf. -/
def lfT (n : Nd) : Option (Int × Int) :=
  if nmB n = true ∧ n.kd = 1 ∧ inB 0 12 n.vl = true then some (n.vl, n.vl)
  else if nmB n = true ∧ n.kd = 2 ∧ n.vl = 0 then some (2, 2)
  else if nmB n = true ∧ inB 3 14 n.kd = true ∧ vlB n.kd n.vl = true then some (gw n.kd)
  else none
def jnT (k : Int) (a b : Int × Int) : Option (Int × Int) :=
  if k = 15 then (if a.2 = b.1 then some (a.1, b.2) else none)
  else (if a.1 + b.1 ≤ 12 ∧ a.2 + b.2 ≤ 12 then some (a.1 + b.1, a.2 + b.2) else none)
/-- One node is read. -/
def stp (st : List (Int × Int)) (n : Nd) : Option (List (Int × Int)) :=
  if n.kd = 15 ∨ n.kd = 16 then
    (if n.vl = 0 ∧ nmB n = true then
      match st with
      | b :: a :: r => (jnT n.kd a b).map (· :: r)
      | _ => none
    else none)
  else (lfT n).map (· :: st)
def scn : List Nd → List (Int × Int) → Option (List (Int × Int))
  | [], st => some st
  | n :: l, st => (stp st n).bind (scn l)
def typO (l : List Nd) : Option (Int × Int) :=
  if 1 ≤ l.length ∧ l.length ≤ 400 then
    match scn l [] with
    | some [w] => some w
    | _ => none
  else none
def trmB (l : List Nd) : Bool := (typO l).isSome
theorem scn_append (a b : List Nd) (st : List (Int × Int)) : scn (a ++ b) st = (scn a st).bind (scn b) := by
  induction a generalizing st with
  | nil => rfl
  | cons n a ih =>
    show (stp st n).bind (scn (a ++ b)) = ((stp st n).bind (scn a)).bind (scn b)
    cases stp st n with
    | none => rfl
    | some s => exact ih s
theorem scn_mid {X : List Nd} (h : ∀ st, scn X st = none) (a b : List Nd) (st : List (Int × Int)) : scn (a ++ X ++ b) st = none := by
  rw [scn_append, scn_append]
  cases scn a st with
  | none => rfl
  | some s => show ((scn X s).bind (scn b)) = none; rw [h]; rfl
theorem trmB_mid {X : List Nd} (h : ∀ st, scn X st = none) (a b : List Nd) : trmB (a ++ X ++ b) = false := by
  unfold trmB typO
  split
  · rw [scn_mid h]; rfl
  · rfl
theorem trmB_long {l : List Nd} (h : 400 < l.length) : trmB l = false := by
  unfold trmB typO
  rw [if_neg (by omega)]
  rfl
theorem inB12 {v : Int} (h : inB 0 12 v = true) : 0 ≤ v ∧ v ≤ 12 := by simpa [inB] using h
theorem lfT_bd {n : Nd} {w : Int × Int} (h : lfT n = some w) : (0 ≤ w.1 ∧ w.1 ≤ 12) ∧ (0 ≤ w.2 ∧ w.2 ≤ 12) := by
  unfold lfT at h
  split at h
  · rename_i h1
    have := inB12 h1.2.2
    injection h with h; subst h
    exact ⟨this, this⟩
  · split at h
    · injection h with h; subst h; decide
    · split at h
      · injection h with h; subst h
        unfold gw
        split
        · decide
        · split
          · decide
          · split
            · decide
            · split <;> decide
      · cases h
theorem jnT_bd {k : Int} {a b c : Int × Int} (ha : (0 ≤ a.1 ∧ a.1 ≤ 12) ∧ (0 ≤ a.2 ∧ a.2 ≤ 12)) (hb : (0 ≤ b.1 ∧ b.1 ≤ 12) ∧ (0 ≤ b.2 ∧ b.2 ≤ 12)) (h : jnT k a b = some c) : (0 ≤ c.1 ∧ c.1 ≤ 12) ∧ (0 ≤ c.2 ∧ c.2 ≤ 12) := by
  unfold jnT at h
  split at h
  · split at h
    · injection h with h; subst h; exact ⟨ha.1, hb.2⟩
    · cases h
  · split at h
    · injection h with h; subst h; dsimp only; omega
    · cases h
/-- A wide leaf beside identities. -/
theorem wide_none {k v : Int} {r : Nat} (h3 : inB 3 14 k = true) (h : 12 < (gw k).1 + r) (hr : 0 < r) : ∀ st, scn (layL 0 [nd k v] r) st = none := by
  intro st
  have hk : 3 ≤ k ∧ k ≤ 14 := by simpa [inB] using h3
  unfold layL layF
  rw [if_pos hr, if_neg (Nat.lt_irrefl 0)]
  show scn ([nd k v] ++ [nd 1 r] ++ [nd 16 0]) st = none
  rw [scn_append, scn_append]
  have e1 : scn [nd k v] st = (lfT (nd k v)).map (· :: st) := by
    show ((stp st (nd k v)).bind fun s => some s) = _
    unfold stp
    rw [if_neg (by show ¬ (k = 15 ∨ k = 16); omega)]
    cases lfT (nd k v) <;> rfl
  rw [e1]
  cases hl : lfT (nd k v) with
  | none => rfl
  | some w =>
    have hw : w = gw k := by
      unfold lfT at hl
      rw [if_neg (by show ¬ (_ ∧ k = 1 ∧ _); omega), if_neg (by show ¬ (_ ∧ k = 2 ∧ _); omega)] at hl
      split at hl
      · injection hl with hl; exact hl.symm
      · cases hl
    subst hw
    show ((scn [nd 1 r] (gw k :: st)).bind (scn [nd 16 0])) = none
    have e2 : scn [nd 1 r] (gw k :: st) = (lfT (nd 1 r)).map (· :: gw k :: st) := by
      show ((stp (gw k :: st) (nd 1 r)).bind fun s => some s) = _
      unfold stp
      rw [if_neg (by show ¬ ((1 : Int) = 15 ∨ (1 : Int) = 16); omega)]
      cases lfT (nd 1 r) <;> rfl
    rw [e2]
    unfold lfT
    split
    · show scn [nd 16 0] (((r : Int), (r : Int)) :: gw k :: st) = none
      show ((stp (((r : Int), (r : Int)) :: gw k :: st) (nd 16 0)).bind fun s => some s) = none
      unfold stp
      rw [if_pos (.inr rfl), if_pos ⟨rfl, rfl⟩]
      show ((jnT 16 (gw k) ((r : Int), (r : Int))).map (· :: st)).bind (fun s => some s) = none
      unfold jnT
      rw [if_neg (by decide), if_neg (by show ¬ ((gw k).1 + (r : Int) ≤ 12 ∧ _); omega)]
      rfl
    · rw [if_neg (by show ¬ (_ ∧ (1 : Int) = 2 ∧ _); omega), if_neg (by
        show ¬ (_ ∧ inB 3 14 1 = true ∧ _)
        intro h; exact absurd h.2.1 (by decide))]
      rfl
/-- The list begins with what it was. -/
def Ext (a b : List Nd) : Prop := ∃ c, b = a ++ c
theorem Ext.refl (a : List Nd) : Ext a a := ⟨[], by simp⟩
theorem Ext.trans {a b c : List Nd} (h : Ext a b) (k : Ext b c) : Ext a c := by
  obtain ⟨x, rfl⟩ := h
  obtain ⟨y, rfl⟩ := k
  exact ⟨x ++ y, by rw [List.append_assoc]⟩
theorem ext_addL {out f : List Nd} (h : 0 < out.length) : Ext out (addL out f) := by
  unfold addL
  rw [if_neg (by omega)]
  exact ⟨f ++ [nd 15 0], by simp [jn]⟩
theorem ext_mvA {out : List Nd} {cut target : List Int} (h : 0 < out.length) : Ext out (mvA out cut target) := by
  unfold mvA
  split
  · exact Ext.refl _
  · exact ext_addL h
theorem ext_tStep {e : Ed} {out : List Nd} {cut : List Int} (h : 0 < out.length) : Ext out (tStep e out cut) := by
  have h1 := ext_mvA (cut := cut) (target := e.ins ++ rstL cut e) h
  have h2 := mvA_len out cut (e.ins ++ rstL cut e)
  exact h1.trans (ext_addL (by omega))
theorem ext_tAll (es : List Ed) : ∀ (l : List Int) (out : List Nd) (cut : List Int), 0 < out.length → Ext out (tAll es l out cut).1
  | [], out, _, _ => Ext.refl out
  | i :: l, out, cut, h => by
    have h1 := tStep_len (edAt es i) out cut
    exact (ext_tStep h).trans (ext_tAll es l _ _ (by omega))
theorem ext_len {a b : List Nd} (h : Ext a b) : a.length ≤ b.length := by
  obtain ⟨c, rfl⟩ := h
  simp
theorem ext_tFin (x : Gr) (l : List Int) (out : List Nd) (cut : List Int) (h : 0 < out.length) : Ext out (tFin x l out cut) := by
  have h1 := ext_tAll x.es l out cut h
  have h2 := ext_len h1
  have h3 := ext_mvA (cut := (tAll x.es l out cut).2) (target := x.outs) (out := (tAll x.es l out cut).1) (by omega)
  have h4 := ext_len h3
  unfold tFin tEnd
  rw [if_neg (by omega)]
  exact h1.trans h3
/-- Too many nodes. -/
theorem fin_long (x : Gr) (l : List Int) (out : List Nd) (cut : List Int) (h : 400 < out.length) : trmB (tFin x l out cut) = false := by
  refine trmB_long ?_
  have := ext_len (ext_tFin x l out cut (by omega))
  omega
/-- A cut that is too wide. -/
theorem fin_wide (x : Gr) (i : Int) (l : List Int) (out : List Nd) (cut : List Int) (hk : inB 3 14 (edAt x.es i).kd = true) (hi : (gw (edAt x.es i).kd).1 = ((edAt x.es i).ins.length : Int)) (hi2 : (edAt x.es i).ins.length ≤ 2)
    (hr : (rstL cut (edAt x.es i)).length + (edAt x.es i).ins.length = cut.length) (hc : 12 < cut.length) : trmB (tFin x (i :: l) out cut) = false := by
  rw [tFin_cons]
  have hl := tStep_len (edAt x.es i) out cut
  obtain ⟨c, hcx⟩ := ext_tFin x l (tStep (edAt x.es i) out cut) (cutB cut (edAt x.es i)) (by omega)
  rw [hcx]
  unfold tStep addL
  have hn := wide_none (k := (edAt x.es i).kd) (v := (edAt x.es i).vl) (r := (rstL cut (edAt x.es i)).length) hk (by rw [hi]; omega) (by omega)
  split
  · exact trmB_mid hn [] c
  · rw [jn, List.append_assoc]
    exact trmB_mid hn _ _
end Go.Proofs.YtphdcgimibnajaaGreat
namespace Go.Proofs.YtphdcgimibnajaaGreat
set_option maxRecDepth 100000
/-- The parts that end at i, and in front of it, are the stack's. -/
def Ch (F I O : List Int) : Nat → List (Int × Int) → Prop
  | i, [] => i = 0
  | i, w :: st => 0 < i ∧ ∃ f : Nat, F[i - 1]? = some (f : Int) ∧ f < i ∧ I[i - 1]? = some w.1 ∧ O[i - 1]? = some w.2 ∧ Ch F I O f st
theorem Ch.push {F I O : List Int} (a b c : Int) : ∀ {i : Nat} {st : List (Int × Int)}, Ch F I O i st → i ≤ F.length → i ≤ I.length → i ≤ O.length → Ch (F ++ [a]) (I ++ [b]) (O ++ [c]) i st
  | i, [], h, _, _, _ => h
  | i, w :: st, h, hF, hI, hO => by
    obtain ⟨h0, f, h1, h2, h3, h4, h5⟩ := h
    refine ⟨h0, f, ?_, h2, ?_, ?_, h5.push a b c (by omega) (by omega) (by omega)⟩
    · rw [List.getElem?_append_left (by omega)]; exact h1
    · rw [List.getElem?_append_left (by omega)]; exact h3
    · rw [List.getElem?_append_left (by omega)]; exact h4
/-- What is known when i nodes have been read. -/
structure SC (F I O : List Int) (i : Nat) (st : List (Int × Int)) : Prop where
  lf : F.length = i
  li : I.length = i
  lo : O.length = i
  ch : Ch F I O i st
  bd : ∀ w ∈ st, (0 ≤ w.1 ∧ w.1 ≤ 12) ∧ (0 ≤ w.2 ∧ w.2 ≤ 12)
theorem SC.nil : SC [] [] [] 0 [] := ⟨rfl, rfl, rfl, rfl, fun w h => by simp at h⟩
theorem SC.add {F I O : List Int} {i f : Nat} {st r : List (Int × Int)} {w : Int × Int} (h : SC F I O i st) (hr : Ch F I O f r) (hf : f < i + 1) (hrb : ∀ u ∈ r, u ∈ st) (hw : (0 ≤ w.1 ∧ w.1 ≤ 12) ∧ (0 ≤ w.2 ∧ w.2 ≤ 12)) :
    SC (F ++ [(f : Int)]) (I ++ [w.1]) (O ++ [w.2]) (i + 1) (w :: r) := by
  have h1 := h.lf
  have h2 := h.li
  have h3 := h.lo
  refine ⟨by simp [h1], by simp [h2], by simp [h3], ⟨by omega, f, ?_, hf, ?_, ?_, hr.push _ _ _ (by omega) (by omega) (by omega)⟩, fun u hu => ?_⟩
  · rw [List.getElem?_append_right (by omega)]; simp [h1]
  · rw [List.getElem?_append_right (by omega)]; simp [h2]
  · rw [List.getElem?_append_right (by omega)]; simp [h3]
  · rcases List.mem_cons.1 hu with e | hu
    · rw [e]; exact hw
    · exact h.bd u (hrb u hu)
theorem SC.leaf {F I O : List Int} {i : Nat} {st : List (Int × Int)} {w : Int × Int} (h : SC F I O i st) (hw : (0 ≤ w.1 ∧ w.1 ≤ 12) ∧ (0 ≤ w.2 ∧ w.2 ≤ 12)) : SC (F ++ [(i : Int)]) (I ++ [w.1]) (O ++ [w.2]) (i + 1) (w :: st) :=
  h.add h.ch (by omega) (fun _ hu => hu) hw
/-- Two parts lie on the stack: where they are. -/
theorem SC.two {F I O : List Int} {i : Nat} {a b : Int × Int} {r : List (Int × Int)} (h : SC F I O i (b :: a :: r)) :
    ∃ f g : Nat, F[i - 1]? = some (f : Int) ∧ 1 ≤ f ∧ f < i ∧ I[i - 1]? = some b.1 ∧ O[i - 1]? = some b.2 ∧ F[f - 1]? = some (g : Int) ∧ g < f ∧ I[f - 1]? = some a.1 ∧ O[f - 1]? = some a.2 ∧ Ch F I O g r := by
  obtain ⟨h0, f, h1, h2, h3, h4, h5⟩ := h.ch
  obtain ⟨k0, g, k1, k2, k3, k4, k5⟩ := h5
  exact ⟨f, g, h1, k0, h2, h3, h4, k1, k2, k3, k4, k5⟩
theorem SC.one {F I O : List Int} {i : Nat} {b : Int × Int} (h : SC F I O i [b]) : 0 < i ∧ F[i - 1]? = some 0 := by
  obtain ⟨h0, f, h1, h2, h3, h4, h5⟩ := h.ch
  have h5 : f = 0 := h5
  subst h5
  exact ⟨h0, h1⟩
theorem SC.zero {F I O : List Int} {i : Nat} (h : SC F I O i []) : i = 0 := h.ch
/-- The first node of the last part is the first of all just if there is one part. -/
theorem SC.last {F I O : List Int} {i : Nat} {st : List (Int × Int)} (h : SC F I O i st) (hi : 0 < i) : ∃ f : Nat, F[i - 1]? = some (f : Int) ∧ (f = 0 ↔ st.length = 1) := by
  cases st with
  | nil => have := h.zero; omega
  | cons b st =>
    cases st with
    | nil => exact ⟨0, by have := h.one.2; simpa using this, by simp⟩
    | cons a r =>
      obtain ⟨f, g, h1, h2, _⟩ := h.two
      exact ⟨f, h1, by simp; omega⟩
theorem scn_snoc {l : List Nd} {k : Nat} {n : Nd} (h : l[k]? = some n) (st : List (Int × Int)) : scn (l.take (k + 1)) st = (scn (l.take k) st).bind fun s => stp s n := by
  rw [List.take_add_one, h, Option.toList_some, scn_append]
  congr 1
  funext s
  show (stp s n).bind (fun s => some s) = stp s n
  cases stp s n <;> rfl
theorem scn_stop {l : List Nd} {k : Nat} {st : List (Int × Int)} (h : scn (l.take k) st = none) : scn l st = none := by
  rw [← List.take_append_drop k l, scn_append, h]
  rfl
/-- The type, once all nodes have been read. -/
theorem typO_done {l : List Nd} {st : List (Int × Int)} (h : scn l [] = some st) (hl : 1 ≤ l.length ∧ l.length ≤ 400) : trmB l = decide (st.length = 1) := by
  unfold trmB typO
  rw [if_pos hl, h]
  match st with
  | [] => rfl
  | [w] => rfl
  | _ :: _ :: r => simp
theorem typO_stop {l : List Nd} (h : scn l [] = none) : trmB l = false := by
  unfold trmB typO
  rw [h]
  split <;> rfl
theorem typO_size {l : List Nd} (h : ¬ (1 ≤ l.length ∧ l.length ≤ 400)) : trmB l = false := by
  unfold trmB typO
  rw [if_neg h]
  rfl
end Go.Proofs.YtphdcgimibnajaaGreat
