/- Contracts: the kinds of edges. A valid graph, in plain terms: its wires all occur, its lists stay below them. The order of edges, in plain terms: the least that may be next comes next. Contracts: lists of numbers meet (both sides); which edges an edge needs. -/
import Derived.Test.YtphdcgimibnajaaGreatAp05
import Derived.Test.YtphdcgimibnajaaGreatAp06
import Derived.Shelf.Abstract
import Derived.Deep.LoopGhost
import Derived.RegionCalls
import Derived.Deep.RegionWith
import Derived.Deep.RegionHeld3
namespace Go.Proofs.YtphdcgimibnajaaGreat
set_option maxRecDepth 100000
open Go Go.RowKit
/-- How many wires an edge of a kind comes from and leads to. -/
def gw (k : Int) : Int × Int := if k = 3 ∨ k = 11 then (1, 2) else if k = 4 ∨ k = 12 then (1, 0) else if k = 5 ∨ k = 9 then (2, 1) else if k = 6 ∨ k = 10 then (0, 1) else (1, 1)
def vlB (kd vl : Int) : Bool := if kd = 7 ∨ kd = 13 then inB 0 96 vl else decide (vl = 0)
def edB (kd vl : Int) (ni no : Nat) : Bool := inB 3 14 kd && vlB kd vl && decide ((gw kd).1 = ni) && decide ((gw kd).2 = no)
theorem kinds {k : Int} (h : inB 3 14 k = true) : k = 3 ∨ k = 4 ∨ k = 5 ∨ k = 6 ∨ k = 7 ∨ k = 8 ∨ k = 9 ∨ k = 10 ∨ k = 11 ∨ k = 12 ∨ k = 13 ∨ k = 14 := by
  simp [inB] at h
  omega
set_option maxHeartbeats 4000000 in
theorem generatorWires_c (k : Int) (h : inB 3 14 k = true) (w : World) : Calls Tryz.prog 110 #[.int .i64 k] w fun e w' => e = .returned (.agg #[.int .i64 (gw k).1, .int .i64 (gw k).2]) ∧ Ex w w' := by
  rcases kinds h with rfl | rfl | rfl | rfl | rfl | rfl | rfl | rfl | rfl | rfl | rfl | rfl
  all_goals
    clear h
    go_enter Tryz.func110, Tryz.ntmps110
    go_wp2
    refine bodyPost_ret (v := .agg #[.int .i64 _, .int .i64 _]) (by simp [results, Tryz.results110, go_sem]; exact ⟨rfl, rfl⟩) rfl ?_
    exact ⟨rfl, by first | exact (((Ex.refl w).alloc _).alloc _).alloc _ | exact ((Ex.refl w).alloc _).alloc _⟩
theorem hasValue_c (k : Int) (w : World) : Calls Tryz.prog 113 #[.int .i64 k] w fun e w' => e = .returned (.bool (decide (k = 7 ∨ k = 13))) ∧ w = w' := by
  go_enter Tryz.func113, Tryz.ntmps113
  go_wp2
  all_goals go_ret
  all_goals exact ⟨ret_bool (by simp_all <;> (by_cases h13 : k = 13 <;> simp_all)), rfl⟩
theorem isGenerator_c (k : Int) (w : World) : Calls Tryz.prog 108 #[.int .i64 k] w fun e w' => e = .returned (.bool (inB 3 14 k)) ∧ w = w' := by
  go_enter Tryz.func108, Tryz.ntmps108
  go_wp2_with (go_at_call 96; refine (within_c _ _ _ _).mono ?_; rintro e w' ⟨rfl, rfl⟩)
  go_ret
  exact ⟨rfl, rfl⟩
theorem isGeneratorValue_c (k v : Int) (w : World) : Calls Tryz.prog 109 #[.int .i64 k, .int .i64 v] w fun e w' => e = .returned (.bool (vlB k v)) ∧ w = w' := by
  by_cases h : k = 7 ∨ k = 13
  · have H := Lib.hid (show vlB k v = inB 0 96 v from if_pos h)
    have hh := hasValue_c k w
    rw [decide_eq_true h] at hh
    clear h
    go_enter Tryz.func109, Tryz.ntmps109
    go_wp2_with (first | (go_at_call 113; refine hh.mono ?_; rintro e w' ⟨rfl, rfl⟩) | (go_at_call 96; refine (within_c _ _ _ _).mono ?_; rintro e w' ⟨rfl, rfl⟩))
    all_goals go_ret
    all_goals exact ⟨ret_bool (by rw [H.out]), rfl⟩
  · have H := Lib.hid (show vlB k v = decide (v = 0) from if_neg h)
    have hh := hasValue_c k w
    rw [decide_eq_false h] at hh
    clear h
    go_enter Tryz.func109, Tryz.ntmps109
    go_wp2_with (first | (go_at_call 113; refine hh.mono ?_; rintro e w' ⟨rfl, rfl⟩))
    all_goals go_ret
    all_goals exact ⟨ret_bool (by rw [H.out]; first | rfl | simp_all), rfl⟩
set_option maxHeartbeats 2000000 in
theorem tmKind_c (k : Int) (h : inB 3 14 k = true) (w : World) : Calls Tryz.prog 107 #[.int .i64 k] w fun e w' => e = .returned (.tuple #[.int .i64 (gw k).1, .int .i64 (gw k).2]) ∧ Ex w w' := by
  rcases kinds h with rfl | rfl | rfl | rfl | rfl | rfl | rfl | rfl | rfl | rfl | rfl | rfl
  all_goals
    clear h
    go_enter Tryz.func107, Tryz.ntmps107
    go_wp2
    go_ret2
    exact ⟨rfl, Ex.refl w⟩
end Go.Proofs.YtphdcgimibnajaaGreat
namespace Go.Proofs.YtphdcgimibnajaaGreat
set_option maxRecDepth 100000
/-- How often each number below n occurs. -/
def cntL (n : Nat) (l : List Int) : List Int := (List.range n).map fun (i : Nat) => ((l.count (i : Int) : Nat) : Int)
theorem cntL_len (n : Nat) (l : List Int) : (cntL n l).length = n := by simp [cntL]
theorem cntL_nil (n : Nat) : cntL n [] = List.replicate n 0 := by
  apply List.ext_getElem <;> simp [cntL]
theorem cntL_at {n : Nat} {l : List Int} {i : Nat} (h : i < n) : (cntL n l)[i]? = some ((l.count (i : Int) : Nat) : Int) := by simp [cntL, h]
theorem cntL_push (n : Nat) (l : List Int) (k : Nat) : (cntL n l).set k (((l.count (k : Int) : Nat) : Int) + 1) = cntL n (l ++ [(k : Int)]) := by
  apply List.ext_getElem?
  intro i
  rw [List.getElem?_set, cntL_len]
  by_cases hi : i < n
  · rw [cntL_at hi, cntL_at hi]
    by_cases e : k = i
    · subst e
      simp [hi, List.count_append]
    · have e' : ¬ ((k : Int) = (i : Int)) := by omega
      have e2 : List.count (i : Int) [(k : Int)] = 0 := by
        rw [List.count_singleton]
        simp [e']
      simp [e, List.count_append, e2]
  · rw [List.getElem?_eq_none (by rw [cntL_len]; omega), List.getElem?_eq_none (by rw [cntL_len]; omega)]
    split <;> simp_all
theorem cnt_le (l : List Int) (k : Int) : l.count k ≤ l.length := List.count_le_length
def outsL (es : List Ed) : List Int := es.flatMap (·.outs)
def insL (es : List Ed) : List Int := es.flatMap (·.ins)
def bothL (es : List Ed) : List Int := es.flatMap (fun e => e.ins ++ e.outs)
theorem outsL_snoc {es : List Ed} {k : Nat} {e : Ed} (h : es[k]? = some e) : outsL (es.take (k + 1)) = outsL (es.take k) ++ e.outs := by rw [outsL, List.take_add_one, h]; simp [outsL]
theorem insL_snoc {es : List Ed} {k : Nat} {e : Ed} (h : es[k]? = some e) : insL (es.take (k + 1)) = insL (es.take k) ++ e.ins := by rw [insL, List.take_add_one, h]; simp [insL]
theorem bothL_snoc {es : List Ed} {k : Nat} {e : Ed} (h : es[k]? = some e) : bothL (es.take (k + 1)) = bothL (es.take k) ++ (e.ins ++ e.outs) := by rw [bothL, List.take_add_one, h]; simp [bothL]
theorem outsL_pre {es : List Ed} {k : Nat} {e : Ed} (h : es[k]? = some e) : (outsL (es.take k)).length + e.outs.length ≤ (outsL es).length := by
  have := congrArg (fun l => (outsL l).length) (List.take_append_drop (k + 1) es)
  have h2 := congrArg List.length (outsL_snoc h)
  simp only [outsL, List.flatMap_append, List.length_append] at this h2 ⊢
  omega
theorem insL_pre {es : List Ed} {k : Nat} {e : Ed} (h : es[k]? = some e) : (insL (es.take k)).length + e.ins.length ≤ (insL es).length := by
  have := congrArg (fun l => (insL l).length) (List.take_append_drop (k + 1) es)
  have h2 := congrArg List.length (insL_snoc h)
  simp only [insL, List.flatMap_append, List.length_append] at this h2 ⊢
  omega
theorem mem_outsL_of {es : List Ed} {e : Ed} (h : e ∈ es) {k : Int} (hk : k ∈ e.outs) : k ∈ outsL es := List.mem_flatMap.2 ⟨e, h, hk⟩
theorem mem_insL_of {es : List Ed} {e : Ed} (h : e ∈ es) {k : Int} (hk : k ∈ e.ins) : k ∈ insL es := List.mem_flatMap.2 ⟨e, h, hk⟩
def frL (x : Gr) : List Int := x.ins ++ outsL x.es
def toWL (x : Gr) : List Int := x.outs ++ insL x.es
def edK (e : Ed) : Bool := edB e.kd e.vl e.ins.length e.outs.length
/-- The sizes fit. -/
def dimB (x : Gr) : Bool := inB 0 100 x.wires && decide (x.es.length ≤ 60) && decide (x.ins.length ≤ 12) && decide (x.outs.length ≤ 12)
def occB (x : Gr) : Bool := (upL x.wires.toNat).all fun w => decide (w ∈ frL x) || decide (w ∈ toWL x)
def validB (x : Gr) : Bool := dimB x && x.ins.all (inB 0 (x.wires - 1)) && x.outs.all (inB 0 (x.wires - 1)) && x.es.all (fun e => edK e && e.ins.all (inB 0 (x.wires - 1)) && e.outs.all (inB 0 (x.wires - 1))) && occB x
theorem gw_le (k : Int) : (gw k).1 ≤ 2 ∧ (gw k).2 ≤ 2 := by
  unfold gw
  split
  · exact ⟨by decide, by decide⟩
  split
  · exact ⟨by decide, by decide⟩
  split
  · exact ⟨by decide, by decide⟩
  split
  · exact ⟨by decide, by decide⟩
  · exact ⟨by decide, by decide⟩
theorem edK_len {e : Ed} (h : edK e = true) : e.ins.length ≤ 2 ∧ e.outs.length ≤ 2 := by
  simp only [edK, edB, Bool.and_eq_true, decide_eq_true_eq] at h
  have := gw_le e.kd
  omega
theorem outsL_len : ∀ {es : List Ed}, (∀ e ∈ es, edK e = true) → (outsL es).length ≤ 2 * es.length
  | [], _ => by simp [outsL]
  | e :: es, h => by
    have := outsL_len (es := es) (fun e he => h e (by simp [he]))
    have := edK_len (h e (by simp))
    simp only [outsL, List.flatMap_cons, List.length_append, List.length_cons] at *
    omega
theorem insL_len : ∀ {es : List Ed}, (∀ e ∈ es, edK e = true) → (insL es).length ≤ 2 * es.length
  | [], _ => by simp [insL]
  | e :: es, h => by
    have := insL_len (es := es) (fun e he => h e (by simp [he]))
    have := edK_len (h e (by simp))
    simp only [insL, List.flatMap_cons, List.length_append, List.length_cons] at *
    omega
theorem mem_outsL {es : List Ed} {k : Int} (h : k ∈ outsL es) : ∃ e ∈ es, k ∈ e.outs := List.mem_flatMap.1 h
theorem mem_insL {es : List Ed} {k : Int} (h : k ∈ insL es) : ∃ e ∈ es, k ∈ e.ins := List.mem_flatMap.1 h
theorem inB_bd {lo hi k : Int} (h : inB lo hi k = true) : lo ≤ k ∧ k ≤ hi := by simpa [inB] using h
theorem all_bd {lo hi : Int} {l : List Int} (h : l.all (inB lo hi) = true) {k : Int} (hk : k ∈ l) : lo ≤ k ∧ k ≤ hi := inB_bd (List.all_eq_true.1 h k hk)
theorem edRK {n : Int} {es : List Ed} (h : es.all (fun e => edK e && e.ins.all (inB 0 (n - 1)) && e.outs.all (inB 0 (n - 1))) = true) {e : Ed} (he : e ∈ es) : edK e = true ∧ (∀ k ∈ e.ins, 0 ≤ k ∧ k ≤ n - 1) ∧ ∀ k ∈ e.outs, 0 ≤ k ∧ k ≤ n - 1 := by
  have := List.all_eq_true.1 h e he
  simp only [Bool.and_eq_true] at this
  exact ⟨this.1.1, fun k hk => all_bd this.1.2 hk, fun k hk => all_bd this.2 hk⟩
def seenL (n : Nat) (l : List Int) : List Bool := (List.range n).map fun (i : Nat) => decide ((i : Int) ∈ l)
theorem seenL_len (n : Nat) (l : List Int) : (seenL n l).length = n := by simp [seenL]
theorem seenL_nil (n : Nat) : seenL n [] = List.replicate n false := by
  apply List.ext_getElem <;> simp [seenL]
theorem seenL_at {n : Nat} {l : List Int} {i : Nat} (h : i < n) : (seenL n l)[i]? = some (decide ((i : Int) ∈ l)) := by simp [seenL, h]
theorem seenL_in (n : Nat) (l : List Int) (k : Nat) : seenL n (l ++ [(k : Int)]) = (seenL n l).set k true := by
  apply List.ext_getElem?
  intro i
  rw [List.getElem?_set, seenL_len]
  by_cases hi : i < n
  · rw [seenL_at hi, seenL_at hi]
    by_cases e : k = i
    · subst e
      simp [hi]
    · have e' : ¬ ((i : Int) = (k : Int)) := by omega
      simp [e, e']
  · rw [List.getElem?_eq_none (by rw [seenL_len]; omega), List.getElem?_eq_none (by rw [seenL_len]; omega)]
    split <;> simp_all
theorem seenL_out (n : Nat) (l : List Int) {q : Int} (h : inB 0 ((n : Int) - 1) q = false) : seenL n (l ++ [q]) = seenL n l := by
  apply List.ext_getElem?
  intro i
  by_cases hi : i < n
  · rw [seenL_at hi, seenL_at hi]
    have e' : ¬ ((i : Int) = q) := by
      intro e
      subst e
      simp [inB] at h
      omega
    simp [e']
  · rw [List.getElem?_eq_none (by rw [seenL_len]; omega), List.getElem?_eq_none (by rw [seenL_len]; omega)]
theorem count_up {op : List Bool} {i : Nat} (h : op[i]? = some false) : (op.set i true).count true = op.count true + 1 := by
  have hl := (List.getElem?_eq_some_iff.1 h).1
  have e := List.count_set (a := true) (b := true) (l := op) (i := i) hl
  have e2 : op[i] = false := (List.getElem?_eq_some_iff.1 h).2
  simp [e2] at e
  omega
theorem set_self {op : List Bool} {i : Nat} {b : Bool} (h : op[i]? = some b) : op.set i b = op := by
  obtain ⟨hl, rfl⟩ := List.getElem?_eq_some_iff.1 h
  exact List.set_getElem_self hl
theorem validB_seen {n : Nat} {es : List Ed} {ins outs : List Int} (hd : dimB ⟨n, es, ins, outs⟩ = true) (hk : es.all edK = true) :
    validB ⟨n, es, ins, outs⟩ = ((ins ++ outs ++ bothL es).all (inB 0 ((n : Int) - 1)) && decide (((seenL n (ins ++ outs ++ bothL es)).count true : Int) = n)) := by
  have hl := seenL_len n (ins ++ outs ++ bothL es)
  have hke := fun e he => List.all_eq_true.1 hk e he
  have hmem : ∀ k : Int, k ∈ ins ++ outs ++ bothL es ↔ k ∈ frL ⟨n, es, ins, outs⟩ ∨ k ∈ toWL ⟨n, es, ins, outs⟩ := fun k => by
    simp only [List.mem_append, bothL, List.mem_flatMap, frL, toWL, outsL, insL]
    constructor
    · rintro ((h | h) | ⟨e, he, h | h⟩)
      · exact .inl (.inl h)
      · exact .inr (.inl h)
      · exact .inr (.inr ⟨e, he, h⟩)
      · exact .inl (.inr ⟨e, he, h⟩)
    · rintro ((h | ⟨e, he, h⟩) | (h | ⟨e, he, h⟩))
      · exact .inl (.inl h)
      · exact .inr ⟨e, he, .inr h⟩
      · exact .inl (.inr h)
      · exact .inr ⟨e, he, .inl h⟩
  have hocc : occB ⟨n, es, ins, outs⟩ = decide (((seenL n (ins ++ outs ++ bothL es)).count true : Int) = n) := by
    rw [Bool.eq_iff_iff, decide_eq_true_iff]
    unfold occB
    constructor
    · intro h
      have hall := List.all_eq_true.1 h
      have : (seenL n (ins ++ outs ++ bothL es)).count true = (seenL n (ins ++ outs ++ bothL es)).length := by
        rw [List.count_eq_length]
        intro b hb
        obtain ⟨i, hi, rfl⟩ := List.mem_iff_getElem.1 hb
        have hin : i < n := by omega
        have h2 := seenL_at (l := ins ++ outs ++ bothL es) hin
        rw [List.getElem?_eq_getElem hi] at h2
        injection h2 with h2
        rw [h2]
        have h3 := hall (i : Int) (List.mem_of_getElem? (upL_at (by simpa using hin)))
        simp only [Bool.or_eq_true, decide_eq_true_eq] at h3
        exact (decide_eq_true ((hmem _).2 h3)).symm
      omega
    · intro h
      have hc : (seenL n (ins ++ outs ++ bothL es)).count true = (seenL n (ins ++ outs ++ bothL es)).length := by omega
      rw [List.count_eq_length] at hc
      rw [List.all_eq_true]
      intro w hw
      obtain ⟨i, hi, rfl⟩ := List.mem_map.1 hw
      have hin : i < n := by simpa using hi
      have h2 := seenL_at (l := ins ++ outs ++ bothL es) hin
      have h3 := hc _ (List.mem_of_getElem? h2)
      have h4 := (hmem _).1 (of_decide_eq_true h3.symm)
      simp only [Bool.or_eq_true, decide_eq_true_eq]
      exact h4
  unfold validB
  rw [hd, hocc, Bool.true_and]
  congr 1
  dsimp only
  rw [List.all_append, List.all_append]
  congr 1
  unfold bothL
  rw [Bool.eq_iff_iff]
  simp only [List.all_eq_true, Bool.and_eq_true, List.mem_flatMap, List.mem_append]
  constructor
  · rintro h k ⟨e, he, hk | hk⟩
    · exact (h e he).1.2 k hk
    · exact (h e he).2 k hk
  · intro h e he
    exact ⟨⟨hke e he, fun k hk => h k ⟨e, he, .inl hk⟩⟩, fun k hk => h k ⟨e, he, .inr hk⟩⟩
theorem validB_bad {x : Gr} {e : Ed} (he : e ∈ x.es) (h : edK e = false) : validB x = false := by
  have : (x.es.all fun e => edK e && e.ins.all (inB 0 (x.wires - 1)) && e.outs.all (inB 0 (x.wires - 1))) = false := List.all_eq_false.2 ⟨e, he, by simp [h]⟩
  simp [validB, this]
end Go.Proofs.YtphdcgimibnajaaGreat
namespace Go.Proofs.YtphdcgimibnajaaGreat
set_option maxRecDepth 100000
def meetB (a b : List Int) : Bool := a.any fun w => decide (w ∈ b)
theorem meetB_comm (a b : List Int) : meetB a b = meetB b a := by
  unfold meetB
  rw [Bool.eq_iff_iff]
  simp only [List.any_eq_true, decide_eq_true_eq]
  constructor
  · rintro ⟨w, h1, h2⟩; exact ⟨w, h2, h1⟩
  · rintro ⟨w, h1, h2⟩; exact ⟨w, h2, h1⟩
def edAt (es : List Ed) (i : Int) : Ed := es.getD i.toNat ⟨0, 0, [], []⟩
theorem edAt_nat {es : List Ed} {i : Nat} {e : Ed} (h : es[i]? = some e) : edAt es (i : Int) = e := by simp [edAt, List.getD_eq_getElem?_getD, h]
/-- What edge i needs. -/
def ndF (es : List Ed) (i : Int) : List Int := (upL es.length).filter fun k => meetB (edAt es i).ins (edAt es k).outs
def ndR (es : List Ed) : List (List Int) := (upL es.length).map (ndF es)
theorem ndR_len (es : List Ed) : (ndR es).length = es.length := by simp [ndR, upL_len]
theorem ndR_at {es : List Ed} {i : Nat} (h : i < es.length) : (ndR es)[i]? = some (ndF es i) := by rw [ndR, List.getElem?_map, upL_at h]; rfl
theorem ndF_mem {es : List Ed} {i k : Int} (h : k ∈ ndF es i) : 0 ≤ k ∧ k < es.length := by
  obtain ⟨j, hj, rfl⟩ := List.mem_map.1 (List.mem_filter.1 h).1
  have := List.mem_range.1 hj
  exact ⟨Int.natCast_nonneg _, by show (j : Int) < _; omega⟩
theorem ndF_len (es : List Ed) (i : Int) : (ndF es i).length ≤ es.length := by
  have := List.length_filter_le (fun k => meetB (edAt es i).ins (edAt es k).outs) (upL es.length)
  rw [upL_len] at this
  exact this
def isM (nd : Int → List Int) (S : Int → Bool) (i : Int) : Bool := S i && !((nd i).any S)
def nxM (nd : Int → List Int) (n : Nat) (op : List Bool) : Int := idxP (isM nd (SL op)) (upL n)
def schM (nd : Int → List Int) (n : Nat) : Nat → List Bool → List Int
  | 0, _ => []
  | f + 1, op => if nxM nd n op < 0 then [] else nxM nd n op :: schM nd n f (op.set (nxM nd n op).toNat false)
theorem nxM_cases (nd : Int → List Int) (n : Nat) (op : List Bool) : (nxM nd n op < 0) ∨ ∃ i : Nat, i < n ∧ nxM nd n op = i ∧ isM nd (SL op) i = true ∧ op[i]? = some true := by
  rcases idxP_cases (isM nd (SL op)) n with ⟨h, h2⟩ | ⟨i, hi, h, hp⟩
  · left; unfold nxM; omega
  · right
    refine ⟨i, hi, h, hp, ?_⟩
    have : SL op i = true := by unfold isM at hp; simp at hp; exact hp.1
    rw [SL_nat, List.getD_eq_getElem?_getD] at this
    cases e : op[i]? with
    | none => rw [e] at this; cases this
    | some v => rw [e] at this; simp at this; rw [this]
theorem schM_end (nd : Int → List Int) (n f : Nat) {op : List Bool} (h : nxM nd n op < 0) : schM nd n f op = [] := by
  cases f with
  | zero => rfl
  | succ f => rw [schM, if_pos h]
theorem schM_next (nd : Int → List Int) (n f : Nat) {op : List Bool} {i : Nat} (h : nxM nd n op = i) : schM nd n (f + 1) op = (i : Int) :: schM nd n f (op.set i false) := by
  rw [schM, if_neg (by omega), h, Int.toNat_natCast]
theorem schM_len (nd : Int → List Int) (n : Nat) : ∀ (f : Nat) (op : List Bool), (schM nd n f op).length ≤ f
  | 0, _ => by simp [schM]
  | f + 1, op => by
    rw [schM]
    split
    · simp
    · have := schM_len nd n f (op.set (nxM nd n op).toNat false)
      simp only [List.length_cons]; omega
def orderL (es : List Ed) : List Int := schM (ndF es) es.length es.length (List.replicate es.length true)
theorem orderL_len (es : List Ed) : (orderL es).length ≤ es.length := schM_len _ _ _ _
def acyB (x : Gr) : Bool := validB x && decide ((orderL x.es).length = x.es.length)
end Go.Proofs.YtphdcgimibnajaaGreat
namespace Go.Proofs.YtphdcgimibnajaaGreat
set_option maxRecDepth 100000
open Go Go.RowKit
theorem mem_of_find {xs : List Int} {x : Int} {k : Nat} (h : xs[k]? = some x) : x ∈ xs := List.mem_of_getElem? h
theorem notMem_succ {xs : List Int} {k : Nat} {x v : Int} (hx : xs[k]? = some x) (h : v ∉ xs.take k) (hne : x ≠ v) : v ∉ xs.take (k + 1) := by
  rw [List.take_add_one, hx]
  intro hm
  rcases List.mem_append.1 hm with hm | hm
  · exact h hm
  · simp at hm; exact hne hm.symm
theorem l1Has_c (A : Option Addr) (c : Nat) (xs : List Int) (v : Int) (w : World) (h : Rd w A xs) : Calls Tryz.prog 80 #[.slice A xs.length c, .int .i64 v] w fun e w' => e = .returned (.bool (decide (v ∈ xs))) ∧ w' = w := by
  have hl := h.len
  go_enter Tryz.func80, Tryz.ntmps80
  go_wp2_with fail
  go_loop [9] (fun i => ∃ k : Nat, k ≤ xs.length ∧ i = .int .i64 k ∧ Hid (v ∉ xs.take k)) (fun i => xs.length - (intOf i).toNat)
  case atStart => exact ⟨0, Nat.zero_le _, rfl, Lib.hid (by simp)⟩
  case round =>
    obtain ⟨k, hk, rfl, Hn⟩ := hrel
    by_cases hlt : k < xs.length
    · obtain ⟨g, off, x, rfl, hx, hg, hc⟩ := h.at_ hlt
      by_cases hxv : x = v
      · have H := Lib.hid (show decide (v ∈ xs) = true from decide_eq_true (hxv ▸ mem_of_find hx))
        have hb : (x == v) = true := by simpa using hxv
        clear hx hxv
        go_wp2
        go_ret
        exact ⟨ret_bool H.out.symm, rfl⟩
      · have H := Lib.hid (notMem_succ hx Hn.out hxv)
        have hb : (x == v) = false := by simpa using hxv
        clear hx hxv
        go_wp2
        go_round
        case rel => exact ⟨k + 1, by omega, by go_num, H⟩
        case measure => simp [intOf]; omega
    · obtain rfl : k = xs.length := by omega
      have H := Lib.hid (show decide (v ∈ xs) = false from decide_eq_false (by have := Hn.out; rwa [List.take_length] at this))
      go_wp2
      go_ret
      exact ⟨ret_bool H.out.symm, rfl⟩
theorem hgMeets_c (A : Option Addr) (c : Nat) (xs : List Int) (B : Option Addr) (d : Nat) (ys : List Int) (w : World) (h : Rd w A xs) (h' : Rd w B ys) : Calls Tryz.prog 47 #[.slice A xs.length c, .slice B ys.length d] w fun e w' => e = .returned (.bool (meetB xs ys)) ∧ w' = w := by
  have hl := h.len
  have hh := fun v => l1Has_c B d ys v w h'
  go_enter Tryz.func47, Tryz.ntmps47
  go_wp2_with fail
  go_loop [9] (fun i => ∃ k : Nat, k ≤ xs.length ∧ i = .int .i64 k ∧ Hid ((xs.take k).any (fun x => decide (x ∈ ys)) = false)) (fun i => xs.length - (intOf i).toNat)
  case atStart => exact ⟨0, Nat.zero_le _, rfl, Lib.hid (by simp)⟩
  case round =>
    obtain ⟨k, hk, rfl, Hn⟩ := hrel
    by_cases hlt : k < xs.length
    · obtain ⟨g, off, x, rfl, hx, hg, hc⟩ := h.at_ hlt
      have Hx := Lib.hid hx
      have hhx := hh x
      clear hx hh
      go_wp2_with fail
      refine hhx.mono ?_
      rintro e _ ⟨rfl, rfl⟩
      cases hb : decide (x ∈ ys) with
      | true =>
        have H := Lib.hid (show meetB xs ys = true from List.any_eq_true.2 ⟨x, List.mem_of_getElem? Hx.out, hb⟩)
        clear hb hhx
        go_wp2
        go_ret
        exact ⟨ret_bool H.out.symm, rfl⟩
      | false =>
        have H := Lib.hid (show (xs.take (k + 1)).any (fun x => decide (x ∈ ys)) = false by rw [List.take_add_one, Hx.out, List.any_append, Hn.out]; simp only [Option.toList_some, List.any_cons, List.any_nil, hb]; rfl)
        clear hb hhx
        go_wp2
        go_round
        case rel => exact ⟨k + 1, by omega, by go_num, H⟩
        case measure => simp [intOf]; omega
    · obtain rfl : k = xs.length := by omega
      have H := Lib.hid (show meetB xs ys = false by have := Hn.out; rwa [List.take_length] at this)
      clear hh
      go_wp2
      go_ret
      exact ⟨ret_bool H.out.symm, rfl⟩
theorem index_c (A : Option Addr) (c : Nat) (xs : List Int) (v : Int) (w : World) (h : Rd w A xs) : Calls Tryz.prog 90 #[.slice A xs.length c, .int .i64 v] w fun e w' => e = .returned (.int .i64 (idxP (fun x => decide (x = v)) xs)) ∧ w' = w := by
  have hl := h.len
  go_enter Tryz.func90, Tryz.ntmps90
  go_wp2_with fail
  go_loop [8] (fun i => ∃ k : Nat, k ≤ xs.length ∧ i = .int .i64 k ∧ Hid ((xs.take k).all (fun x => !decide (x = v)) = true)) (fun i => xs.length - (intOf i).toNat)
  case atStart => exact ⟨0, Nat.zero_le _, rfl, Lib.hid rfl⟩
  case round =>
    obtain ⟨k, hk, rfl, Hn⟩ := hrel
    by_cases hlt : k < xs.length
    · obtain ⟨g, off, x, rfl, hx, hg, hc⟩ := h.at_ hlt
      by_cases hxv : x = v
      · have H := Lib.hid (idxP_some (p := fun x => decide (x = v)) hx Hn.out (decide_eq_true hxv))
        have hb : (v == x) = true := by simpa using hxv.symm
        have hb2 : (x == v) = true := by simpa using hxv
        clear hx hxv
        go_wp2
        go_ret
        exact ⟨by rw [H.out]; rfl, rfl⟩
      · have H := Lib.hid (all_take_succ (p := fun x => !decide (x = v)) hx Hn.out (by simp [hxv]))
        have hb : (v == x) = false := by simp; exact fun e => hxv e.symm
        have hb2 : (x == v) = false := by simpa using hxv
        clear hx hxv
        go_wp2
        go_round
        case rel => exact ⟨k + 1, by omega, by go_num, H⟩
        case measure => simp [intOf]; omega
    · obtain rfl : k = xs.length := by omega
      have H := Lib.hid (idxP_none (p := fun x => decide (x = v)) (xs := xs) (by have := Hn.out; rwa [List.take_length] at this))
      go_wp2
      go_ret
      exact ⟨by rw [H.out]; rfl, rfl⟩
theorem contains_c (A : Option Addr) (c : Nat) (xs : List Int) (v : Int) (w : World) (h : Rd w A xs) : Calls Tryz.prog 91 #[.slice A xs.length c, .int .i64 v] w fun e w' => e = .returned (.bool (decide (v ∈ xs))) ∧ w' = w := by
  have H := Lib.hid (show decide (0 ≤ idxP (fun x => decide (x = v)) xs) = decide (v ∈ xs) by
    rw [idxP_any, Bool.eq_iff_iff]; simp)
  have hi := index_c A c xs v w h
  go_enter Tryz.func91, Tryz.ntmps91
  go_wp2_with fail
  refine hi.mono ?_
  rintro e _ ⟨rfl, rfl⟩
  go_wp2
  go_ret
  exact ⟨ret_bool (by rw [← H.out]), rfl⟩
theorem needs1_c (v : Int) (b : Nat) (a0 a1 a2 : Value) (Q : Option Addr) (qc : Nat) (outs : List Int) (w : World) (hv : VB w b 69 #[a0, a1, a2, .slice Q outs.length qc]) (hQ : Rd w Q outs) :
    Calls Tryz.prog 93 #[.int .i64 v, .pointer (some ⟨b, 0, none⟩)] w fun e w' => e = .returned (.bool (decide (v ∈ outs))) ∧ Ex w w' := by
  have c3 := hv.cell 3 (v := .slice Q outs.length qc) rfl
  have hc := contains_c Q qc outs v w hQ
  go_enter Tryz.func93, Tryz.ntmps93
  go_wp2_with fail
  refine hc.mono ?_
  rintro e _ ⟨rfl, rfl⟩
  go_wp2
  go_ret
  exact ⟨rfl, Ex.refl _⟩
theorem enters_needs1 : ∀ args w, (callFunc 93 args).run Tryz.prog w = .ok (.enter 93 args) w := enters_of Tryz.func93 (by kernel_rfl) rfl
end Go.Proofs.YtphdcgimibnajaaGreat
