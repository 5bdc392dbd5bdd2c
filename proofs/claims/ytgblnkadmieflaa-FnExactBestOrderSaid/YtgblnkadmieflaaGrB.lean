/- A valid graph, in plain terms: its wires all occur, its lists stay below them. -/
import Derived.Test.YtgblnkadmieflaaGrK
namespace Go.Proofs.Ytgblnkadmieflaa
set_option maxRecDepth 100000
/-- How often each number below n occurs. -/
def cntL (n : Nat) (l : List Int) : List Int := (List.range n).map fun (i : Nat) => ((l.count (i : Int) : Nat) : Int)
theorem cntL_len (n : Nat) (l : List Int) : (cntL n l).length = n := by simp [cntL]
theorem cntL_nil (n : Nat) : cntL n [] = List.replicate n 0 := by
  apply List.ext_getElem <;> simp [cntL]
theorem cntL_at {n : Nat} {l : List Int} {i : Nat} (h : i < n) : (cntL n l)[i]? = some ((l.count (i : Int) : Nat) : Int) := by simp [cntL, h]
theorem cntL_push (n : Nat) (l : List Int) (k : Nat) : (cntL n l).set k (((l.count (k : Int) : Nat) : Int) + 1) = cntL n (l ++ [(k : Int)]) := by
  apply List.ext_getElem?
  intro i
  rw [List.getElem?_set, cntL_len]
  by_cases hi : i < n
  · rw [cntL_at hi, cntL_at hi]
    by_cases e : k = i
    · subst e
      simp [hi, List.count_append]
    · have e' : ¬ ((k : Int) = (i : Int)) := by omega
      have e2 : List.count (i : Int) [(k : Int)] = 0 := by
        rw [List.count_singleton]
        simp [e']
      simp [e, List.count_append, e2]
  · rw [List.getElem?_eq_none (by rw [cntL_len]; omega), List.getElem?_eq_none (by rw [cntL_len]; omega)]
    split <;> simp_all
theorem cnt_le (l : List Int) (k : Int) : l.count k ≤ l.length := List.count_le_length
def outsL (es : List Ed) : List Int := es.flatMap (·.outs)
def insL (es : List Ed) : List Int := es.flatMap (·.ins)
def bothL (es : List Ed) : List Int := es.flatMap (fun e => e.ins ++ e.outs)
theorem outsL_snoc {es : List Ed} {k : Nat} {e : Ed} (h : es[k]? = some e) : outsL (es.take (k + 1)) = outsL (es.take k) ++ e.outs := by rw [outsL, List.take_add_one, h]; simp [outsL]
theorem insL_snoc {es : List Ed} {k : Nat} {e : Ed} (h : es[k]? = some e) : insL (es.take (k + 1)) = insL (es.take k) ++ e.ins := by rw [insL, List.take_add_one, h]; simp [insL]
theorem bothL_snoc {es : List Ed} {k : Nat} {e : Ed} (h : es[k]? = some e) : bothL (es.take (k + 1)) = bothL (es.take k) ++ (e.ins ++ e.outs) := by rw [bothL, List.take_add_one, h]; simp [bothL]
theorem outsL_pre {es : List Ed} {k : Nat} {e : Ed} (h : es[k]? = some e) : (outsL (es.take k)).length + e.outs.length ≤ (outsL es).length := by
  have := congrArg (fun l => (outsL l).length) (List.take_append_drop (k + 1) es)
  have h2 := congrArg List.length (outsL_snoc h)
  simp only [outsL, List.flatMap_append, List.length_append] at this h2 ⊢
  omega
theorem insL_pre {es : List Ed} {k : Nat} {e : Ed} (h : es[k]? = some e) : (insL (es.take k)).length + e.ins.length ≤ (insL es).length := by
  have := congrArg (fun l => (insL l).length) (List.take_append_drop (k + 1) es)
  have h2 := congrArg List.length (insL_snoc h)
  simp only [insL, List.flatMap_append, List.length_append] at this h2 ⊢
  omega
theorem mem_outsL_of {es : List Ed} {e : Ed} (h : e ∈ es) {k : Int} (hk : k ∈ e.outs) : k ∈ outsL es := List.mem_flatMap.2 ⟨e, h, hk⟩
theorem mem_insL_of {es : List Ed} {e : Ed} (h : e ∈ es) {k : Int} (hk : k ∈ e.ins) : k ∈ insL es := List.mem_flatMap.2 ⟨e, h, hk⟩
def frL (x : Gr) : List Int := x.ins ++ outsL x.es
def toWL (x : Gr) : List Int := x.outs ++ insL x.es
def edR (n : Int) (e : Ed) : Bool := e.ins.all (inB 0 (n - 1)) && e.outs.all (inB 0 (n - 1))
def edK (e : Ed) : Bool := edB e.kd e.vl e.ins.length e.outs.length
/-- The sizes fit. -/
def dimB (x : Gr) : Bool := inB 0 100 x.wires && decide (x.es.length ≤ 60) && decide (x.ins.length ≤ 12) && decide (x.outs.length ≤ 12)
def occB (x : Gr) : Bool := (upL x.wires.toNat).all fun w => decide (w ∈ frL x) || decide (w ∈ toWL x)
def validB (x : Gr) : Bool := dimB x && x.ins.all (inB 0 (x.wires - 1)) && x.outs.all (inB 0 (x.wires - 1)) && x.es.all (fun e => edK e && e.ins.all (inB 0 (x.wires - 1)) && e.outs.all (inB 0 (x.wires - 1))) && occB x
theorem gw_le (k : Int) : (gw k).1 ≤ 2 ∧ (gw k).2 ≤ 2 := by
  unfold gw
  split
  · exact ⟨by decide, by decide⟩
  split
  · exact ⟨by decide, by decide⟩
  split
  · exact ⟨by decide, by decide⟩
  split
  · exact ⟨by decide, by decide⟩
  · exact ⟨by decide, by decide⟩
theorem edK_len {e : Ed} (h : edK e = true) : e.ins.length ≤ 2 ∧ e.outs.length ≤ 2 := by
  simp only [edK, edB, Bool.and_eq_true, decide_eq_true_eq] at h
  have := gw_le e.kd
  omega
theorem outsL_len : ∀ {es : List Ed}, (∀ e ∈ es, edK e = true) → (outsL es).length ≤ 2 * es.length
  | [], _ => by simp [outsL]
  | e :: es, h => by
    have := outsL_len (es := es) (fun e he => h e (by simp [he]))
    have := edK_len (h e (by simp))
    simp only [outsL, List.flatMap_cons, List.length_append, List.length_cons] at *
    omega
theorem insL_len : ∀ {es : List Ed}, (∀ e ∈ es, edK e = true) → (insL es).length ≤ 2 * es.length
  | [], _ => by simp [insL]
  | e :: es, h => by
    have := insL_len (es := es) (fun e he => h e (by simp [he]))
    have := edK_len (h e (by simp))
    simp only [insL, List.flatMap_cons, List.length_append, List.length_cons] at *
    omega
theorem mem_outsL {es : List Ed} {k : Int} (h : k ∈ outsL es) : ∃ e ∈ es, k ∈ e.outs := List.mem_flatMap.1 h
theorem mem_insL {es : List Ed} {k : Int} (h : k ∈ insL es) : ∃ e ∈ es, k ∈ e.ins := List.mem_flatMap.1 h
theorem inB_bd {lo hi k : Int} (h : inB lo hi k = true) : lo ≤ k ∧ k ≤ hi := by simpa [inB] using h
theorem all_bd {lo hi : Int} {l : List Int} (h : l.all (inB lo hi) = true) {k : Int} (hk : k ∈ l) : lo ≤ k ∧ k ≤ hi := inB_bd (List.all_eq_true.1 h k hk)
theorem edRK {n : Int} {es : List Ed} (h : es.all (fun e => edK e && e.ins.all (inB 0 (n - 1)) && e.outs.all (inB 0 (n - 1))) = true) {e : Ed} (he : e ∈ es) : edK e = true ∧ (∀ k ∈ e.ins, 0 ≤ k ∧ k ≤ n - 1) ∧ ∀ k ∈ e.outs, 0 ≤ k ∧ k ≤ n - 1 := by
  have := List.all_eq_true.1 h e he
  simp only [Bool.and_eq_true] at this
  exact ⟨this.1.1, fun k hk => all_bd this.1.2 hk, fun k hk => all_bd this.2 hk⟩
def seenL (n : Nat) (l : List Int) : List Bool := (List.range n).map fun (i : Nat) => decide ((i : Int) ∈ l)
theorem seenL_len (n : Nat) (l : List Int) : (seenL n l).length = n := by simp [seenL]
theorem seenL_nil (n : Nat) : seenL n [] = List.replicate n false := by
  apply List.ext_getElem <;> simp [seenL]
theorem seenL_at {n : Nat} {l : List Int} {i : Nat} (h : i < n) : (seenL n l)[i]? = some (decide ((i : Int) ∈ l)) := by simp [seenL, h]
theorem seenL_in (n : Nat) (l : List Int) (k : Nat) : seenL n (l ++ [(k : Int)]) = (seenL n l).set k true := by
  apply List.ext_getElem?
  intro i
  rw [List.getElem?_set, seenL_len]
  by_cases hi : i < n
  · rw [seenL_at hi, seenL_at hi]
    by_cases e : k = i
    · subst e
      simp [hi]
    · have e' : ¬ ((i : Int) = (k : Int)) := by omega
      simp [e, e']
  · rw [List.getElem?_eq_none (by rw [seenL_len]; omega), List.getElem?_eq_none (by rw [seenL_len]; omega)]
    split <;> simp_all
theorem seenL_out (n : Nat) (l : List Int) {q : Int} (h : inB 0 ((n : Int) - 1) q = false) : seenL n (l ++ [q]) = seenL n l := by
  apply List.ext_getElem?
  intro i
  by_cases hi : i < n
  · rw [seenL_at hi, seenL_at hi]
    have e' : ¬ ((i : Int) = q) := by
      intro e
      subst e
      simp [inB] at h
      omega
    simp [e']
  · rw [List.getElem?_eq_none (by rw [seenL_len]; omega), List.getElem?_eq_none (by rw [seenL_len]; omega)]
theorem count_up {op : List Bool} {i : Nat} (h : op[i]? = some false) : (op.set i true).count true = op.count true + 1 := by
  have hl := (List.getElem?_eq_some_iff.1 h).1
  have e := List.count_set (a := true) (b := true) (l := op) (i := i) hl
  have e2 : op[i] = false := (List.getElem?_eq_some_iff.1 h).2
  simp [e2] at e
  omega
theorem set_self {op : List Bool} {i : Nat} {b : Bool} (h : op[i]? = some b) : op.set i b = op := by
  obtain ⟨hl, rfl⟩ := List.getElem?_eq_some_iff.1 h
  exact List.set_getElem_self hl
def allL (x : Gr) : List Int := x.ins ++ x.outs ++ bothL x.es
theorem validB_seen {n : Nat} {es : List Ed} {ins outs : List Int} (hd : dimB ⟨n, es, ins, outs⟩ = true) (hk : es.all edK = true) :
    validB ⟨n, es, ins, outs⟩ = ((ins ++ outs ++ bothL es).all (inB 0 ((n : Int) - 1)) && decide (((seenL n (ins ++ outs ++ bothL es)).count true : Int) = n)) := by
  have hl := seenL_len n (ins ++ outs ++ bothL es)
  have hke := fun e he => List.all_eq_true.1 hk e he
  have hmem : ∀ k : Int, k ∈ ins ++ outs ++ bothL es ↔ k ∈ frL ⟨n, es, ins, outs⟩ ∨ k ∈ toWL ⟨n, es, ins, outs⟩ := fun k => by
    simp only [List.mem_append, bothL, List.mem_flatMap, frL, toWL, outsL, insL]
    constructor
    · rintro ((h | h) | ⟨e, he, h | h⟩)
      · exact .inl (.inl h)
      · exact .inr (.inl h)
      · exact .inr (.inr ⟨e, he, h⟩)
      · exact .inl (.inr ⟨e, he, h⟩)
    · rintro ((h | ⟨e, he, h⟩) | (h | ⟨e, he, h⟩))
      · exact .inl (.inl h)
      · exact .inr ⟨e, he, .inr h⟩
      · exact .inl (.inr h)
      · exact .inr ⟨e, he, .inl h⟩
  have hocc : occB ⟨n, es, ins, outs⟩ = decide (((seenL n (ins ++ outs ++ bothL es)).count true : Int) = n) := by
    rw [Bool.eq_iff_iff, decide_eq_true_iff]
    unfold occB
    constructor
    · intro h
      have hall := List.all_eq_true.1 h
      have : (seenL n (ins ++ outs ++ bothL es)).count true = (seenL n (ins ++ outs ++ bothL es)).length := by
        rw [List.count_eq_length]
        intro b hb
        obtain ⟨i, hi, rfl⟩ := List.mem_iff_getElem.1 hb
        have hin : i < n := by omega
        have h2 := seenL_at (l := ins ++ outs ++ bothL es) hin
        rw [List.getElem?_eq_getElem hi] at h2
        injection h2 with h2
        rw [h2]
        have h3 := hall (i : Int) (List.mem_of_getElem? (upL_at (by simpa using hin)))
        simp only [Bool.or_eq_true, decide_eq_true_eq] at h3
        exact (decide_eq_true ((hmem _).2 h3)).symm
      omega
    · intro h
      have hc : (seenL n (ins ++ outs ++ bothL es)).count true = (seenL n (ins ++ outs ++ bothL es)).length := by omega
      rw [List.count_eq_length] at hc
      rw [List.all_eq_true]
      intro w hw
      obtain ⟨i, hi, rfl⟩ := List.mem_map.1 hw
      have hin : i < n := by simpa using hi
      have h2 := seenL_at (l := ins ++ outs ++ bothL es) hin
      have h3 := hc _ (List.mem_of_getElem? h2)
      have h4 := (hmem _).1 (of_decide_eq_true h3.symm)
      simp only [Bool.or_eq_true, decide_eq_true_eq]
      exact h4
  unfold validB
  rw [hd, hocc, Bool.true_and]
  congr 1
  dsimp only
  rw [List.all_append, List.all_append]
  congr 1
  unfold bothL
  rw [Bool.eq_iff_iff]
  simp only [List.all_eq_true, Bool.and_eq_true, List.mem_flatMap, List.mem_append]
  constructor
  · rintro h k ⟨e, he, hk | hk⟩
    · exact (h e he).1.2 k hk
    · exact (h e he).2 k hk
  · intro h e he
    exact ⟨⟨hke e he, fun k hk => h k ⟨e, he, .inl hk⟩⟩, fun k hk => h k ⟨e, he, .inr hk⟩⟩
theorem validB_bad {x : Gr} {e : Ed} (he : e ∈ x.es) (h : edK e = false) : validB x = false := by
  have : (x.es.all fun e => edK e && e.ins.all (inB 0 (x.wires - 1)) && e.outs.all (inB 0 (x.wires - 1))) = false := List.all_eq_false.2 ⟨e, he, by simp [h]⟩
  simp [validB, this]
end Go.Proofs.Ytgblnkadmieflaa
