/- The best order of the edges, in plain terms: the search that leaves out what cannot be better finds what the whole search finds. The best order of the edges: the reference's search. -/
import Derived.Test.YtgblnkadmieflaaGrT
import Derived.RegionCalls
import Derived.Deep.RegionWith
import Derived.Deep.Cut
import Derived.Deep.RegionLaw
import Derived.Deep.RegionHeld3
import Derived.Test.YtgblnkadmieflaaPoly
namespace Go.Proofs.Ytgblnkadmieflaa
set_option maxRecDepth 100000
open Go Go.RowKit
/-- The best order so far, and its width; below 0: none yet. -/
structure BS where
  o : List Int
  w : Int
def frE (es : List Ed) (now : List Int) (e : Int) : Bool := (ndF es e).all fun f => decide (f ∈ now)
def mxI (es : List Ed) (ins now : List Int) : Int := (wdI es ins now).foldl max ins.length
def lfW (es : List Ed) (ins now : List Int) : Int := (wdS es ins.length now).foldl max ins.length
def bsS (es : List Ed) (ins : List Int) : Nat → List Int → BS → BS
  | 0, now, st => if st.w < 0 ∨ lfW es ins now < st.w then ⟨now, lfW es ins now⟩ else st
  | r + 1, now, st => (upL es.length).foldl (fun st e => if decide (e ∈ now) then st else if frE es now e then bsS es ins r (now ++ [e]) st else st) st
def bsI (es : List Ed) : Nat → List Int → List Int → Int → BS → BS
  | 0, now, _, wd, st => if 0 ≤ st.w ∧ st.w ≤ wd then st else ⟨now, wd⟩
  | r + 1, now, cut, wd, st => if 0 ≤ st.w ∧ st.w ≤ wd then st else
      (upL es.length).foldl (fun st e => if decide (e ∈ now) then st else if frE es now e then bsI es r (now ++ [e]) (cutB cut (edAt es e)) (max wd (cutB cut (edAt es e)).length) st else st) st
structure OkP (es : List Ed) (now : List Int) : Prop where
  nd : now.Nodup
  rg : ∀ e ∈ now, 0 ≤ e ∧ e < es.length
  cl : ∀ (i : Nat) (e : Int), now[i]? = some e → ∀ f ∈ ndF es e, f ∈ now.take i
theorem OkP.nil (es : List Ed) : OkP es [] := ⟨by simp, by simp, fun i e h => by simp at h⟩
theorem OkP.push {es : List Ed} {now : List Int} (h : OkP es now) {e : Int} (hr : 0 ≤ e ∧ e < es.length) (hn : e ∉ now) (hf : frE es now e = true) : OkP es (now ++ [e]) := by
  refine ⟨?_, fun x hx => ?_, fun i x hx f hf' => ?_⟩
  · rw [List.nodup_append]
    refine ⟨h.nd, by simp, fun a ha b hb => ?_⟩
    simp at hb; subst hb
    intro e2; subst e2; exact hn ha
  · rcases List.mem_append.1 hx with hx | hx
    · exact h.rg x hx
    · simp at hx; subst hx; exact hr
  · by_cases hi : i < now.length
    · rw [List.getElem?_append_left hi] at hx
      rw [List.take_append_of_le_length (by omega)]
      exact h.cl i x hx f hf'
    · have hil := (List.getElem?_eq_some_iff.1 hx).1
      rw [List.length_append, List.length_singleton] at hil
      have e2 : i = now.length := by omega
      subst e2
      rw [List.getElem?_append_right (Nat.le_refl _), Nat.sub_self] at hx
      injection hx with hx
      subst hx
      rw [List.take_left]
      have := List.all_eq_true.1 hf f hf'
      exact of_decide_eq_true this
theorem OkP.io {es : List Ed} {now : List Int} (h : OkP es now) (hl : now.length = es.length) : ioB es now = true := by
  have hp : permB es.length now = true := permB_yes hl (by rw [List.all_eq_true]; intro k hk; have := h.rg k hk; simp [inB]; omega) h.nd
  rw [ioB, hp, Bool.true_and, ← oC_eq hp]
  unfold oC2
  simp only [List.all_eq_true, decide_eq_true_eq]
  intro e he f hf
  obtain ⟨e, he', rfl⟩ := List.mem_map.1 he
  have hel := List.mem_range.1 he'
  obtain ⟨i, hi⟩ := List.getElem?_of_mem (perm_all hp hel)
  have hft := h.cl i _ hi f hf
  obtain ⟨j, hj⟩ := List.getElem?_of_mem hft
  have hjl := (List.getElem?_eq_some_iff.1 hj).1
  rw [List.length_take] at hjl
  rw [List.getElem?_take, if_pos (by omega)] at hj
  have hfr := h.rg f (List.mem_of_getElem? hj)
  obtain ⟨f, rfl⟩ := Int.eq_ofNat_of_zero_le hfr.1
  have hi2 : now[i]? = some (e : Int) := hi
  rw [show (Int.ofNat e).toNat = e from rfl, Int.toNat_natCast, List.getD_eq_getElem?_getD, List.getD_eq_getElem?_getD, posL_at h.nd hj (by omega), posL_at h.nd hi2 (by omega)]
  simp; omega
theorem foldl_max_ge (l : List Int) : ∀ a : Int, a ≤ l.foldl max a := by
  induction l with
  | nil => intro a; simp
  | cons x l ih => intro a; rw [List.foldl_cons]; have := ih (max a x); omega
theorem mxI_nn (es : List Ed) (ins now : List Int) : 0 ≤ mxI es ins now := Int.le_trans (Int.natCast_nonneg _) (foldl_max_ge _ _)
theorem lfW_nn (es : List Ed) (ins now : List Int) : 0 ≤ lfW es ins now := Int.le_trans (Int.natCast_nonneg _) (foldl_max_ge _ _)
theorem cutF_snoc (es : List Ed) (cut l : List Int) (e : Int) : cutF es cut (l ++ [e]) = cutB (cutF es cut l) (edAt es e) := by
  rw [cutF, List.foldl_append]; rfl
theorem mxI_snoc (es : List Ed) (ins now : List Int) (e : Int) : mxI es ins (now ++ [e]) = max (mxI es ins now) (cutB (cutF es ins now) (edAt es e)).length := by
  rw [mxI, wdI_snoc, List.foldl_append, cutF_snoc]; rfl
theorem foldl_id {α β : Type} {f : β → α → β} {b : β} : ∀ (l : List α), (∀ a ∈ l, f b a = b) → l.foldl f b = b
  | [], _ => rfl
  | a :: l, h => by rw [List.foldl_cons, h a (by simp)]; exact foldl_id l (fun x hx => h x (by simp [hx]))
theorem foldl_same {α β : Type} {f g : β → α → β} : ∀ (l : List α) (b : β), (∀ b, ∀ a ∈ l, f b a = g b a) → l.foldl f b = l.foldl g b
  | [], _, _ => rfl
  | a :: l, b, h => by rw [List.foldl_cons, List.foldl_cons, h b a (by simp)]; exact foldl_same l _ (fun b x hx => h b x (by simp [hx]))
theorem upL_mem {n : Nat} {e : Int} (h : e ∈ upL n) : 0 ≤ e ∧ e < n := by
  obtain ⟨m, hm, rfl⟩ := List.mem_map.1 h
  have := List.mem_range.1 hm
  exact ⟨Int.natCast_nonneg _, by show (m : Int) < n; omega⟩
theorem lf_mx {x : Gr} (hm : monoB x = true) {now : List Int} (h : OkP x.es now) (hl : now.length = x.es.length) : lfW x.es x.ins now = mxI x.es x.ins now := by
  rw [lfW, mxI, widths_eq hm (h.io hl)]
/-- What cannot be better changes nothing. -/
theorem bsS_prune {x : Gr} (hm : monoB x = true) : ∀ (r : Nat) (now : List Int) (wd : Int) (st : BS), OkP x.es now → now.length + r = x.es.length → wd ≤ mxI x.es x.ins now → 0 ≤ st.w → st.w ≤ wd → bsS x.es x.ins r now st = st
  | 0, now, wd, st, ho, hl, hw, h0, h1 => by
    rw [bsS, lf_mx hm ho (by omega), if_neg (by omega)]
  | r + 1, now, wd, st, ho, hl, hw, h0, h1 => by
    rw [bsS]
    refine foldl_id _ fun e he => ?_
    have her := upL_mem he
    by_cases hin : e ∈ now
    · rw [if_pos (decide_eq_true hin)]
    rw [if_neg (by simp [hin])]
    by_cases hf : frE x.es now e = true
    · rw [if_pos hf]
      refine bsS_prune hm r _ wd st (ho.push her hin hf) (by rw [List.length_append, List.length_singleton]; omega) ?_ h0 h1
      rw [mxI_snoc]; omega
    · rw [if_neg hf]
theorem bs_eq {x : Gr} (hm : monoB x = true) : ∀ (r : Nat) (now : List Int) (st : BS), OkP x.es now → now.length + r = x.es.length → bsI x.es r now (cutF x.es x.ins now) (mxI x.es x.ins now) st = bsS x.es x.ins r now st
  | 0, now, st, ho, hl => by
    rw [bsI, bsS, lf_mx hm ho (by omega)]
    by_cases h : 0 ≤ st.w ∧ st.w ≤ mxI x.es x.ins now
    · rw [if_pos h, if_neg (by omega)]
    · rw [if_neg h, if_pos (by omega)]
  | r + 1, now, st, ho, hl => by
    rw [bsI]
    by_cases h : 0 ≤ st.w ∧ st.w ≤ mxI x.es x.ins now
    · rw [if_pos h, bsS_prune hm (r + 1) now _ st ho hl (Int.le_refl _) h.1 h.2]
    · rw [if_neg h, bsS]
      refine foldl_same _ _ fun st e he => ?_
      have her := upL_mem he
      by_cases hin : e ∈ now
      · rw [if_pos (decide_eq_true hin), if_pos (decide_eq_true hin)]
      have hd : ¬ (decide (e ∈ now) = true) := by simp [hin]
      rw [if_neg hd, if_neg hd]
      by_cases hf : frE x.es now e = true
      · rw [if_pos hf, if_pos hf]
        have := bs_eq hm r (now ++ [e]) st (ho.push her hin hf) (by rw [List.length_append, List.length_singleton]; omega)
        rw [cutF_snoc, mxI_snoc] at this
        exact this
      · rw [if_neg hf, if_neg hf]
theorem foldl_inv {α β : Type} {f : β → α → β} {P : β → Prop} : ∀ (l : List α) (b : β), P b → (∀ b, ∀ a ∈ l, P b → P (f b a)) → P (l.foldl f b)
  | [], _, h, _ => h
  | a :: l, b, h, k => by rw [List.foldl_cons]; exact foldl_inv l _ (k b a (by simp) h) (fun b x hx => k b x (by simp [hx]))
theorem bsS_mono (es : List Ed) (ins : List Int) : ∀ (r : Nat) (now : List Int) (st : BS), 0 ≤ st.w → 0 ≤ (bsS es ins r now st).w
  | 0, now, st, h => by
    rw [bsS]
    have := lfW_nn es ins now
    split
    · exact this
    · exact h
  | r + 1, now, st, h => by
    rw [bsS]
    refine foldl_inv (P := fun s : BS => 0 ≤ s.w) _ _ h fun st e _ hs => ?_
    split
    · exact hs
    · split
      · exact bsS_mono es ins r _ st hs
      · exact hs
theorem count_seen (n : Nat) (l : List Int) : ∀ k, k ≤ l.length → (seenL n (l.take k)).count true ≤ k
  | 0, _ => by rw [List.take_zero, seenL_nil]; simp [List.count_replicate]
  | k + 1, hk => by
    have ih := count_seen n l k (by omega)
    obtain ⟨x, hx⟩ : ∃ x, l[k]? = some x := ⟨_, List.getElem?_eq_getElem (by omega)⟩
    have ht : l.take (k + 1) = l.take k ++ [x] := by rw [List.take_add_one, hx]; rfl
    rw [ht]
    cases hr : inB 0 ((n : Int) - 1) x with
    | false => rw [seenL_out n _ hr]; omega
    | true =>
      have hb := inB_bd hr
      obtain ⟨m, rfl⟩ := Int.eq_ofNat_of_zero_le hb.1
      have hat := seenL_at (n := n) (l := l.take k) (i := m) (by omega)
      rw [seenL_in]
      cases hd : decide ((m : Int) ∈ l.take k) with
      | true => rw [hd] at hat; rw [set_self hat]; omega
      | false => rw [hd] at hat; have := count_up hat; omega
theorem some_left {n : Nat} {l : List Int} (h : l.length < n) : ∃ i : Nat, i < n ∧ (i : Int) ∉ l := by
  apply Classical.byContradiction
  intro hn
  have hall : ∀ i : Nat, i < n → (i : Int) ∈ l := fun i hi => Classical.byContradiction fun h2 => hn ⟨i, hi, h2⟩
  have hc := count_seen n l l.length (Nat.le_refl _)
  rw [List.take_length] at hc
  have : (seenL n l).count true = (seenL n l).length := by
    rw [List.count_eq_length]
    intro b hb
    obtain ⟨i, hi⟩ := List.getElem?_of_mem hb
    have hil : i < n := by have := (List.getElem?_eq_some_iff.1 hi).1; rw [seenL_len] at this; exact this
    rw [seenL_at hil, decide_eq_true (hall i hil)] at hi
    injection hi with hi
  rw [seenL_len] at this
  omega
theorem sch_free (nd : Int → List Int) (n : Nat) (hnd : ∀ i, ∀ k ∈ nd i, 0 ≤ k ∧ k < n) : ∀ (f : Nat) (op : List Bool) (now : List Int), op.length = n → (∀ i : Nat, op[i]? = some false → (i : Int) ∈ now) → (schM nd n f op).length = op.count true → (∃ i : Nat, i < n ∧ (i : Int) ∉ now) →
    ∃ i : Nat, i < n ∧ (i : Int) ∉ now ∧ ∀ k ∈ nd i, k ∈ now := by
  have base : ∀ (op : List Bool) (now : List Int), op.length = n → (∀ i : Nat, op[i]? = some false → (i : Int) ∈ now) → 0 = op.count true → (∃ i : Nat, i < n ∧ (i : Int) ∉ now) → False := fun op now hl h1 h2 ⟨i, hi, hni⟩ => by
    obtain ⟨b, hb⟩ : ∃ b, op[i]? = some b := ⟨_, List.getElem?_eq_getElem (by omega)⟩
    cases b with
    | false => exact hni (h1 i hb)
    | true =>
      have := List.count_pos_iff.2 (List.mem_of_getElem? hb)
      omega
  intro f
  induction f with
  | zero => intro op now hl h1 h2 h3; exact (base op now hl h1 (by simpa [schM] using h2) h3).elim
  | succ f ih =>
    intro op now hl h1 h2 h3
    rcases nxM_cases nd n op with hx | ⟨i, hi, hx, hm, ho⟩
    · rw [schM_end nd n _ hx] at h2
      exact (base op now hl h1 h2 h3).elim
    · by_cases hin : (i : Int) ∈ now
      · rw [schM_next nd n f hx, List.length_cons] at h2
        have hc := count_set ho
        refine ih (op.set i false) now (by simpa using hl) (fun j hj => ?_) (by omega) h3
        rw [List.getElem?_set] at hj
        split at hj
        · rename_i e; subst e; exact hin
        · exact h1 j hj
      · refine ⟨i, hi, hin, fun k hk => ?_⟩
        obtain ⟨hk0, hk1⟩ := hnd _ k hk
        obtain ⟨k, rfl⟩ := Int.eq_ofNat_of_zero_le hk0
        have : SL op (k : Int) = false := by
          simp only [isM, Bool.and_eq_true, Bool.not_eq_true', List.any_eq_false] at hm
          have := hm.2 _ hk
          simpa using this
        rw [SL_nat, List.getD_eq_getElem?_getD] at this
        have hkl : k < op.length := by omega
        rw [List.getElem?_eq_getElem hkl] at this
        exact h1 k (by rw [List.getElem?_eq_getElem hkl]; simpa using this)
theorem some_free {x : Gr} (ha : acyB x = true) {now : List Int} (hl : now.length < x.es.length) : ∃ i : Nat, i < x.es.length ∧ (i : Int) ∉ now ∧ frE x.es now i = true := by
  simp only [acyB, Bool.and_eq_true, decide_eq_true_eq] at ha
  obtain ⟨i, h1, h2, h3⟩ := sch_free (ndF x.es) x.es.length (fun i k hk => ndF_mem hk) x.es.length (List.replicate x.es.length true) now (by simp) (fun i hi => by
    rw [List.getElem?_replicate] at hi
    split at hi
    · cases hi
    · cases hi) (by rw [List.count_replicate]; simpa [orderL] using ha.2) (some_left hl)
  exact ⟨i, h1, h2, List.all_eq_true.2 fun k hk => decide_eq_true (h3 k hk)⟩
/-- Some order is found. -/
theorem bsS_some {x : Gr} (ha : acyB x = true) : ∀ (r : Nat) (now : List Int) (st : BS), now.length + r = x.es.length → 0 ≤ (bsS x.es x.ins r now st).w
  | 0, now, st, _ => by
    rw [bsS]
    have := lfW_nn x.es x.ins now
    split
    · exact this
    · rename_i h; omega
  | r + 1, now, st, hl => by
    obtain ⟨i, hi, hn, hf⟩ := some_free ha (now := now) (by omega)
    have hmem := List.mem_of_getElem? (upL_at hi)
    obtain ⟨a, b, hab⟩ := List.append_of_mem hmem
    rw [bsS, hab, List.foldl_append, List.foldl_cons]
    generalize a.foldl _ st = s1
    rw [if_neg (by simp [hn]), if_pos hf]
    refine foldl_inv (P := fun s : BS => 0 ≤ s.w) _ _ (bsS_some ha r _ s1 (by rw [List.length_append, List.length_singleton]; omega)) fun st e _ hs => ?_
    split
    · exact hs
    · split
      · exact bsS_mono _ _ r _ st hs
      · exact hs
def boU (x : Gr) : List Int × Int × Bool := if drwB x = true ∧ x.es.length ≤ 8 then ((bsS x.es x.ins x.es.length [] ⟨[], -1⟩).o, (bsS x.es x.ins x.es.length [] ⟨[], -1⟩).w, true) else ([], 0, false)
theorem frE_up (es : List Ed) (now : List Int) (e : Int) : frE es now e = (upL es.length).all fun f => decide (f ∈ now) || !meetB (edAt es f).outs (edAt es e).ins := by
  rw [Bool.eq_iff_iff]
  unfold frE ndF
  simp only [List.all_eq_true, List.mem_filter, decide_eq_true_eq, Bool.or_eq_true, Bool.not_eq_true']
  constructor
  · intro h f hf
    by_cases hm : meetB (edAt es e).ins (edAt es f).outs = true
    · exact .inl (h f ⟨hf, hm⟩)
    · right; rw [meetB_comm]; simpa using hm
  · rintro h f ⟨hf, hm⟩
    rcases h f hf with h | h
    · exact h
    · rw [meetB_comm] at h; rw [h] at hm; cases hm
theorem foldl_take_succ {α β : Type} (f : β → α → β) (b : β) {l : List α} {k : Nat} {x : α} (h : l[k]? = some x) : (l.take (k + 1)).foldl f b = f ((l.take k).foldl f b) x := by
  rw [List.take_add_one, h]
  simp
def stepS (es : List Ed) (ins : List Int) (r : Nat) (now : List Int) (st : BS) (e : Int) : BS := if decide (e ∈ now) then st else if frE es now e then bsS es ins r (now ++ [e]) st else st
theorem bsS_succ (es : List Ed) (ins : List Int) (r : Nat) (now : List Int) (st : BS) : bsS es ins (r + 1) now st = (upL es.length).foldl (stepS es ins r now) st := by rw [bsS]; rfl
theorem l1Own_al (A : Option Addr) (c : Nat) (xs : List Int) (w : World) (h : Rd w A xs) :
    Calls Try.prog 47 #[.slice A xs.length c] w fun e w' => ∃ v, e = .returned v ∧ AL w' w.heap.size v xs ∧ Ex w w' := by
  have hl := h.len
  have hal : AL (w.alloc (.cells #[] 3)) w.heap.size (.slice (some ⟨w.heap.size, 0, none⟩) 0 0) [] := AL.empty w (Nat.le_refl _)
  obtain ⟨v', w1, hrun, hv, hx, hb⟩ := run_append_ints 23 23 Try.underlying23 _ _ _ _ hal (by simp) A c xs (h.ex ((Ex.refl w).alloc _)) (by simpa using hl)
  have hex : Ex w w1 := ((Ex.refl w).alloc (.cells #[] 3)).exo hx (fun g e => by simp [Value.ownBlock] at e; omega)
  rw [List.nil_append] at hv
  go_enter Try.func47, Try.ntmps47
  go_wp2_with (at_builtin; refine wpList_append_run rfl _ _ _ rfl rfl rfl hrun ?_)
  go_ret
  exact ⟨v', rfl, hv, hex⟩
/-- The best order so far, as the reference holds it. -/
def BM (w : World) (bx : Nat) (st : BS) : Prop := ∃ (A : Option Addr) (c : Nat), VB w bx 56 #[.slice A st.o.length c, .int .i64 (if 0 ≤ st.w then st.w else 0), .bool (decide (0 ≤ st.w))] ∧ Rd w A st.o ∧ Off A bx
theorem BM.ex {w w' : World} {bx : Nat} {st : BS} (h : BM w bx st) (he : Ex w w') : BM w' bx st := by
  obtain ⟨A, c, h1, h2, h3⟩ := h
  exact ⟨A, c, h1.ex he, h2.ex he, h3⟩
set_option maxHeartbeats 8000000 in
theorem try_c (N : Int) (E : Option Addr) (ec : Nat) (es : List Ed) (I : Option Addr) (ic : Nat) (ins : List Int) (O : Option Addr) (ol oc : Nat) (w0 : World) (bx : Nat) (hbx : w0.heap.size ≤ bx) (hE : RdS EE w0 E es) (hn : es.length ≤ 8) (hed : ∀ e ∈ es, edK e = true) (hin : ins.length ≤ 12) :
    ∀ (r : Nat) (now : List Int) (A : Option Addr) (ac : Nat) (st : BS) (w : World), Ex w0 w → OkP es now → now.length + r = es.length → Rd w A now → Off A bx → BM w bx st →
    Calls Try.prog 28 #[.pointer (some ⟨bx, 0, none⟩), .agg #[.int .i64 N, .slice E es.length ec, .slice I ins.length ic, .slice O ol oc], .slice A now.length ac] w fun e w' => e = .returned (.tuple #[]) ∧ BM w' bx (bsS es ins r now st) ∧ Ex1 bx w w' := by
  intro r
  induction r with
  | zero =>
    intro now A ac st w hw ho hl hA hoff ⟨B, bc, hv, hB, hBo⟩
    have hl' : now.length = es.length := by omega
    have x0 := (Ex.refl w).alloc (.cells #[.int .i64 N, .slice E es.length ec, .slice I ins.length ic, .slice O ol oc] 31)
    have d0 := VB.new w 31 #[.int .i64 N, .slice E es.length ec, .slice I ins.length ic, .slice O ol oc]
    have hbl := hv.lt
    have hc := fun W (y : Ex w W) => rbWidths_c N E ec es I ic ins (.slice O ol oc) A ac now W (hE.ex (hw.trans y)) (hA.ex y) hed (fun k hk => ho.rg k hk) hin (by omega) ⟨_, _, _, rfl⟩
    obtain ⟨R0, hR0⟩ : ∃ R, bsS es ins 0 now st = R := ⟨_, rfl⟩
    rw [hR0]
    have HR := Lib.hid (show (if st.w < 0 ∨ lfW es ins now < st.w then ⟨now, lfW es ins now⟩ else st) = R0 from hR0)
    have HW := Lib.hid (show ((ins.length : Int) :: wdS es ins.length now).foldl max 0 = lfW es ins now by
      rw [lfW, List.foldl_cons, show max (0 : Int) (ins.length : Int) = (ins.length : Int) by omega])
    have hlw := wdS_len es now ins.length
    have HL := Lib.hid (show ((ins.length : Int) :: wdS es ins.length now).length = es.length + 1 by rw [List.length_cons, hlw, hl'])
    clear hR0
    rw [hl'] at hc ⊢
    have hbd : ∀ k : Nat, 0 ≤ ((((ins.length : Int) :: wdS es ins.length now).take k).foldl max 0) := fun k => foldl_max_ge _ 0
    generalize lfW es ins now = lw at *
    generalize ((ins.length : Int) :: wdS es ins.length now) = ws at *
    go_enter Try.func28, Try.ntmps28
    have Hl := Lib.hid hl'
    clear hl' hl
    go_wp2_with fail
    generalize w.alloc (.cells #[.int .i64 N, .slice E es.length ec, .slice I ins.length ic, .slice O ol oc] 31) = W0 at *
    refine (hc W0 x0).mono ?_
    rintro e w1 ⟨_, rfl, ⟨R, rc, rfl, fi⟩, x1⟩
    rw [HL.out]
    have y1 := x0.trans x1
    have hv1 := hv.ex y1
    have hB1 := hB.ex y1
    have hRd := fi.rd
    have hx0z := x0.size
    clear hc d0
    go_wp2_with fail
    go_loop [6, 22] (fun m i => ∃ k : Nat, k ≤ es.length + 1 ∧ i = .int .i64 k ∧ m = .int .i64 ((ws.take k).foldl max 0)) (fun _ i => es.length + 1 - (intOf i).toNat)
    case atStart => exact ⟨0, Nat.zero_le _, rfl, rfl⟩
    case round =>
      obtain ⟨k, hk, rfl, rfl⟩ := hrel
      by_cases hlt : k < es.length + 1
      · obtain ⟨g, off, y, rfl, hy, _, c1⟩ := hRd.at_ (k := k) (by rw [HL.out]; exact hlt)
        have HT := Lib.hid (foldl_take_succ max (0 : Int) hy)
        have hm := fun a W => l1Most_c a y W
        clear hy
        generalize (ws.take k).foldl max 0 = acc at *
        go_wp2_with fail
        refine (hm acc w1).mono ?_
        rintro e _ ⟨rfl, rfl⟩
        go_wp2_with fail
        go_round
        case rel => exact ⟨k + 1, by omega, by go_num, by rw [HT.out]⟩
        case measure => simp [intOf]; omega
      · obtain rfl : k = es.length + 1 := by omega
        rw [show (ws.take (es.length + 1)).foldl max 0 = lw by rw [← HL.out, List.take_length, HW.out]]
        have hlw0 : 0 ≤ lw := by rw [← HW.out]; exact foldl_max_ge _ 0
        have k0 := hv1.cell 0 (v := .slice B st.o.length bc) rfl
        have k1 := hv1.cell 1 (v := .int .i64 (if 0 ≤ st.w then st.w else 0)) rfl
        have k2 := hv1.cell 2 (v := .bool (decide (0 ≤ st.w))) rfl
        have hz1 := y1.size
        have hbx1 : w.heap.size ≤ w1.heap.size := hz1
        have hown := l1Own_c A ac now w1 (hA.ex y1)
        rw [Hl.out] at hown
        by_cases hst : 0 ≤ st.w
        · rw [if_pos hst] at k1
          rw [decide_eq_true hst] at k2
          by_cases hlt2 : lw < st.w
          · have HR2 := Lib.hid (show R0 = ⟨now, lw⟩ by rw [← HR.out, if_pos (by omega)])
            go_wp2_with fail
            refine hown.mono ?_
            rintro e w2 ⟨g2, c2, rfl, hc2, hg2, ho2, x2⟩
            have hv2 := hv1.ex x2
            have k0 := cell_ex x2 k0
            have k1 := cell_ex x2 k1
            have k2 := cell_ex x2 k2
            have f0 := hv2.frozen 0
            have f1 := hv2.frozen 1
            have f2 := hv2.frozen 2
            go_wp2
            refine bodyPost_ret (results_none rfl _ _ _) rfl ?_
            have E3 : Ex1 bx w2 (((w2.setCell ⟨bx, 0, none⟩ (.slice (some ⟨g2, 0, none⟩) es.length c2)).setCell ⟨bx, 1, none⟩ (.int .i64 lw)).setCell ⟨bx, 2, none⟩ (.bool true)) := (((Ex1.refl bx w2).setCell (p := ⟨bx, 0, none⟩) rfl _).setCell (p := ⟨bx, 1, none⟩) rfl _).setCell (p := ⟨bx, 2, none⟩) rfl _
            have hv3 := (((hv2.set_ 0 (.slice (some ⟨g2, 0, none⟩) es.length c2)).set_ 1 (.int .i64 lw)).set_ 2 (.bool true))
            have hoff2 : Off (some ⟨g2, 0, none⟩) bx := fun a e e2 => by injection e with e; subst e; simp only at e2; omega
            have hr2 := (ho2.rd hA.len).ex1 E3 hoff2
            refine ⟨rfl, ?_, ((Ex1.of_ex y1).trans (Ex1.of_ex x2)).trans E3⟩
            rw [HR2.out]
            exact ⟨some ⟨g2, 0, none⟩, c2, by simpa [hlw0, Hl.out] using hv3, hr2, hoff2⟩
          · have HR2 := Lib.hid (show R0 = st by rw [← HR.out, if_neg (by omega)])
            go_wp2
            refine bodyPost_ret (results_none rfl _ _ _) rfl ?_
            rw [HR2.out]
            exact ⟨rfl, ⟨B, bc, hv1, hB1, hBo⟩, Ex1.of_ex y1⟩
        · rw [if_neg hst] at k1
          rw [decide_eq_false hst] at k2
          have HR2 := Lib.hid (show R0 = ⟨now, lw⟩ by rw [← HR.out, if_pos (by omega)])
          go_wp2_with fail
          refine hown.mono ?_
          rintro e w2 ⟨g2, c2, rfl, hc2, hg2, ho2, x2⟩
          have hv2 := hv1.ex x2
          have k0 := cell_ex x2 k0
          have k1 := cell_ex x2 k1
          have k2 := cell_ex x2 k2
          have f0 := hv2.frozen 0
          have f1 := hv2.frozen 1
          have f2 := hv2.frozen 2
          go_wp2
          refine bodyPost_ret (results_none rfl _ _ _) rfl ?_
          have E3 : Ex1 bx w2 (((w2.setCell ⟨bx, 0, none⟩ (.slice (some ⟨g2, 0, none⟩) es.length c2)).setCell ⟨bx, 1, none⟩ (.int .i64 lw)).setCell ⟨bx, 2, none⟩ (.bool true)) := (((Ex1.refl bx w2).setCell (p := ⟨bx, 0, none⟩) rfl _).setCell (p := ⟨bx, 1, none⟩) rfl _).setCell (p := ⟨bx, 2, none⟩) rfl _
          have hv3 := (((hv2.set_ 0 (.slice (some ⟨g2, 0, none⟩) es.length c2)).set_ 1 (.int .i64 lw)).set_ 2 (.bool true))
          have hoff2 : Off (some ⟨g2, 0, none⟩) bx := fun a e e2 => by injection e with e; subst e; simp only at e2; omega
          have hr2 := (ho2.rd hA.len).ex1 E3 hoff2
          refine ⟨rfl, ?_, ((Ex1.of_ex y1).trans (Ex1.of_ex x2)).trans E3⟩
          rw [HR2.out]
          exact ⟨some ⟨g2, 0, none⟩, c2, by simpa [hlw0, Hl.out] using hv3, hr2, hoff2⟩
  | succ r ih =>
    intro now A ac st w hw ho hl hA hoff hB
    have hne : ¬ now.length = es.length := by omega
    have hneb : ((now.length : Int) == (es.length : Int)) = false := by simp; omega
    have hAl := hA.len
    have x0 := (Ex.refl w).alloc (.cells #[.int .i64 N, .slice E es.length ec, .slice I ins.length ic, .slice O ol oc] 31)
    have d0 := VB.new w 31 #[.int .i64 N, .slice E es.length ec, .slice I ins.length ic, .slice O ol oc]
    have hbl : bx < w.heap.size := by obtain ⟨_, _, h, _⟩ := hB; exact h.lt
    rw [bsS_succ]
    have Hl := Lib.hid hl
    have Hed := Lib.hid hed
    have Ho := Lib.hid ho
    clear hl hed ho
    go_enter Try.func28, Try.ntmps28
    go_wp2_with fail
    have hB0 := hB.ex x0
    have e0 : Ex1 bx w (w.alloc (.cells #[.int .i64 N, .slice E es.length ec, .slice I ins.length ic, .slice O ol oc] 31)) := Ex1.of_ex x0
    clear x0 hB
    generalize w.alloc (.cells #[.int .i64 N, .slice E es.length ec, .slice I ins.length ic, .slice O ol oc] 31) = W0 at *
    go_loopw [58] (fun i wr => ∃ k : Nat, k ≤ es.length ∧ i = .int .i64 k ∧ BM wr bx (((upL es.length).take k).foldl (stepS es ins r now) st) ∧ VB wr w.heap.size 31 #[.int .i64 N, .slice E es.length ec, .slice I ins.length ic, .slice O ol oc] ∧ Ex1 bx w wr) (fun i _ => es.length - (intOf i).toNat)
    case atStart => exact ⟨0, Nat.zero_le _, rfl, hB0, d0, e0⟩
    case round =>
      clear hB0 d0 e0
      obtain ⟨k, hk, rfl, hB, hd, he⟩ := hrel
      have hwr := hw.ex1 he hbx
      have hAr := hA.ex1 he hoff
      by_cases hlt : k < es.length
      · have Hst := Lib.hid (foldl_take_succ (stepS es ins r now) st (upL_at hlt))
        obtain ⟨s1, hs1⟩ : ∃ s1, ((upL es.length).take k).foldl (stepS es ins r now) st = s1 := ⟨_, rfl⟩
        rw [hs1] at hB Hst
        clear hs1
        have hhas := fun W (y : Ex wr W) => l1Has_c A ac now (k : Int) W (hAr.ex y)
        unfold stepS at Hst
        go_wp2_with fail
        refine (hhas _ (Ex.refl wr)).mono ?_
        rintro e _ ⟨rfl, rfl⟩
        clear hhas
        cases hh : decide ((k : Int) ∈ now) with
        | true =>
          rw [hh, if_pos rfl] at Hst
          rw [← Hst.out] at hB
          clear hh
          go_wp2_with fail
          go_roundw
          case rel => exact ⟨k + 1, by omega, by go_num, hB, hd, he⟩
          case measure => simp [intOf]; omega
        | false =>
          rw [hh, if_neg (by decide), frE_up] at Hst
          have Hh := Lib.hid hh
          clear hh
          have q1 := hd.cell 1 (v := .slice E es.length ec) rfl
          go_wp2_with fail
          clear q1
          go_loopw [10, 67] (fun b i wi => ∃ q : Nat, q ≤ es.length ∧ i = .int .i64 q ∧ b = .bool ((upL q).all fun f => decide (f ∈ now) || !meetB (edAt es f).outs (edAt es k).ins) ∧ BM wi bx s1 ∧ VB wi w.heap.size 31 #[.int .i64 N, .slice E es.length ec, .slice I ins.length ic, .slice O ol oc] ∧ Ex1 bx w wi) (fun _ i _ => es.length - (intOf i).toNat)
          case atStart => exact ⟨0, Nat.zero_le _, rfl, rfl, hB, hd, he⟩
          case round =>
            clear hB hd he hwr hAr
            obtain ⟨q, hq, rfl, rfl, hB, hd, he⟩ := hrel
            have hwr := hw.ex1 he hbx
            have hAr := hA.ex1 he hoff
            by_cases hql : q < es.length
            · have Hall := Lib.hid (show (upL (q + 1)).all (fun f => decide (f ∈ now) || !meetB (edAt es f).outs (edAt es k).ins) = ((upL q).all (fun f => decide (f ∈ now) || !meetB (edAt es f).outs (edAt es k).ins) && (decide ((q : Int) ∈ now) || !meetB (edAt es q).outs (edAt es k).ins)) by
                rw [upL_succ, List.all_append]; simp)
              obtain ⟨b0, hb0⟩ : ∃ b, (upL q).all (fun f => decide (f ∈ now) || !meetB (edAt es f).outs (edAt es k).ins) = b := ⟨_, rfl⟩
              rw [hb0] at Hall ⊢
              clear hb0
              cases b0 with
              | false =>
                have Hall2 := Lib.hid (Hall.out.trans (Bool.false_and _))
                go_wp2_with fail
                go_roundw
                case rel => exact ⟨q + 1, by omega, by go_num, by rw [Hall2.out], hB, hd, he⟩
                case measure => simp [intOf]; omega
              | true =>
                rw [Bool.true_and] at Hall
                have hhas := l1Has_c A ac now (q : Int) wr hAr
                go_wp2_with fail
                refine hhas.mono ?_
                rintro e wr ⟨rfl, rfl⟩
                obtain ⟨b1, hb1⟩ : ∃ b, decide ((q : Int) ∈ now) = b := ⟨_, rfl⟩
                rw [hb1] at Hall ⊢
                clear hb1 hhas
                cases b1 with
                | true =>
                  have Hall2 := Lib.hid (Hall.out.trans (Bool.true_or _))
                  go_wp2_with fail
                  go_roundw
                  case rel => exact ⟨q + 1, by omega, by go_num, by rw [Hall2.out], hB, hd, he⟩
                  case measure => simp [intOf]; omega
                | false =>
                  rw [Bool.false_or] at Hall
                  have q0 := hd.cell 0 (v := .int .i64 N) rfl
                  have q1 := hd.cell 1 (v := .slice E es.length ec) rfl
                  have q2 := hd.cell 2 (v := .slice I ins.length ic) rfl
                  have q3 := hd.cell 3 (v := .slice O ol oc) rfl
                  have hnd := rbNeeds_c N E ec es (.slice I ins.length ic) (.slice O ol oc) k q wr (hE.ex hwr) hlt hql (by omega) ⟨_, _, _, rfl⟩ ⟨_, _, _, rfl⟩
                  go_wp2_with fail
                  refine hnd.mono ?_
                  rintro e w5 ⟨rfl, x5⟩
                  have hB5 := hB.ex x5
                  have hd5 := hd.ex x5
                  have he5 := he.trans (Ex1.of_ex x5)
                  clear q0 q1 q2 q3 hnd hB hd he
                  obtain ⟨b2, hb2⟩ : ∃ b, meetB (edAt es q).outs (edAt es k).ins = b := ⟨_, rfl⟩
                  rw [hb2] at Hall ⊢
                  clear hb2
                  cases b2
                  all_goals
                    go_wp2_with fail
                    go_roundw
                    case rel => exact ⟨q + 1, by omega, by go_num, by rw [Hall.out]; rfl, hB5, hd5, he5⟩
                    case measure => simp [intOf]; omega
            · obtain rfl : q = es.length := by omega
              obtain ⟨b0, hb0⟩ : ∃ b, (upL es.length).all (fun f => decide (f ∈ now) || !meetB (edAt es f).outs (edAt es k).ins) = b := ⟨_, rfl⟩
              have Hfr := Lib.hid (show frE es now k = b0 by rw [frE_up]; exact hb0)
              rw [hb0] at Hst ⊢
              clear hb0
              cases b0 with
              | false =>
                rw [if_neg (by decide)] at Hst
                rw [← Hst.out] at hB
                go_wp2_with fail
                go_roundw
                case rel => exact ⟨k + 1, by omega, by go_num, hB, hd, he⟩
                case measure => simp [intOf]; omega
              | true =>
                rw [if_pos rfl] at Hst
                go_wp2_with fail
                have eD : Ex1 bx wr wr.drew := Ex1.of_ex (Ex.refl wr).drew
                have hgl := hd.lt
                have hzw : w.heap.size ≤ wr.heap.size := he.size'
                have HS : ∀ W, Ex1 bx wr W → (Ex1 bx wr W ∧ W.cell? ⟨w.heap.size, 0, none⟩ = some (.int .i64 N) ∧ W.cell? ⟨w.heap.size, 1, none⟩ = some (.slice E es.length ec) ∧ W.cell? ⟨w.heap.size, 2, none⟩ = some (.slice I ins.length ic) ∧ W.cell? ⟨w.heap.size, 3, none⟩ = some (.slice O ol oc)) := fun W h => ⟨h, (hd.ex1 h (by omega)).cell 0 rfl, (hd.ex1 h (by omega)).cell 1 rfl, (hd.ex1 h (by omega)).cell 2 rfl, (hd.ex1 h (by omega)).cell 3 rfl⟩
                obtain ⟨nw, hnw⟩ : ∃ nw, now ++ [(k : Int)] = nw := ⟨_, rfl⟩
                have hok := Ho.out.push (e := (k : Int)) (by omega) (by simpa using Hh.out) Hfr.out
                have hnl : now.length + 1 ≤ 8 := by have := Hl.out; omega
                have hln : (now ++ [(k : Int)]).length + r = es.length := by rw [List.length_append, List.length_singleton]; have := Hl.out; omega
                rw [hnw] at hok hln Hst
                have hres := fun (W : World) (V : Option Addr) (c : Nat) (h : Ex1 bx wr W) (hr : Rd W V nw) (ho : Off V bx) (hB : BM W bx s1) => ih nw V c s1 W (hwr.ex1 h hbx) hok hln hr ho hB
                have Hnw := Lib.hid hnw
                have hnwl : nw.length ≤ 8 := by omega
                clear hnw ih
                go_region_held3 (fun W => Ex1 bx wr W ∧ W.cell? ⟨w.heap.size, 0, none⟩ = some (.int .i64 N) ∧ W.cell? ⟨w.heap.size, 1, none⟩ = some (.slice E es.length ec) ∧ W.cell? ⟨w.heap.size, 2, none⟩ = some (.slice I ins.length ic) ∧ W.cell? ⟨w.heap.size, 3, none⟩ = some (.slice O ol oc)) (first
                  | (exact HS _ h8) | (exact HS _ h6) | (exact HS _ (h5.trans (Ex1.of_ex ((Ex.refl w5).alloc _)))) | (exact HS _ h5) | (exact HS _ (Ex1.of_ex ((Ex.refl wr).drew.alloc _))) | (exact HS _ eD) | (exact HS _ (Ex1.refl _ _))) (first
                  | (refine step_append_run (vs := .slice V5 now.length c5) (vx := .slice (some ⟨w5.heap.size, 0, none⟩) 1 1) rfl _ _ _ rfl rfl rfl (by with_reducible exact hrun6) ?_)
                  | (refine step_append_run (vs := .slice V5 now.length c5) (vx := .slice (some ⟨wr.heap.size, 0, none⟩) 1 1) rfl _ _ _ rfl rfl rfl (by with_reducible exact hrun6) ?_)
                  | (go_at_call 28
                     refine (hres _ V6 c6 h6 f6.rd o6 hB6).mono ?_
                     rintro e w8 ⟨rfl, hB8, e8⟩
                     have h8 := h6.trans e8)
                  | (go_at_call 47
                     have hb := (‹Ex1 bx wr _ ∧ _›).1
                     refine (l1Own_al A ac now _ (hAr.ex1 hb hoff)).mono ?_
                     rintro e w5 ⟨v5, rfl, al5, x5⟩
                     obtain ⟨V5, c5, rfl, _⟩ := al5.form hAl
                     have h5 := hb.trans (Ex1.of_ex x5)
                     have z5 := x5.size
                     have zb := hb.size'
                     first
                     | (have hk5 : Rd w5 (some ⟨wr.heap.size, 0, none⟩) [(k : Int)] := by (first | exact ((Blk.new wr [(k : Int)]).rd (by simp)).ex x5 | exact (((Blk.new wr [(k : Int)]).rd (by simp)).ex (Ex.refl _).drew).ex x5 | fail "other order")
                        obtain ⟨v6, w6, hrun6, al6, E6, _⟩ := run_append_ints 23 23 Try.underlying23 w5 _ _ now al5 z5 (some ⟨wr.heap.size, 0, none⟩) 1 [(k : Int)] hk5 (by simp; omega)
                        have I6 := x5.exo E6 (fun g e => (al5.lt g e).1)
                        have hrun6 : (Builtin.append_ #[23, 23] 23 #[.slice V5 now.length c5, .slice (some ⟨wr.heap.size, 0, none⟩) 1 1]).run Try.prog w5 = .ok v6 w6 := hrun6)
                     | (obtain ⟨v6, w6, hrun6, al6, I6'⟩ := al_push_i w5 _ _ now (k : Int) al5 z5 (by omega)
                        have I6 := x5.iv I6' (Nat.le_refl _)
                        have hrun6 : (Builtin.append_ #[23, 23] 23 #[.slice V5 now.length c5, .slice (some ⟨w5.heap.size, 0, none⟩) 1 1]).run Try.prog (w5.alloc (.cells #[.int .i64 (k : Int)] 3)) = .ok v6 w6 := hrun6)
                     have hB6 : BM w6 bx s1 := by first
                       | exact (hB.ex (Ex.refl wr).drew).ex I6
                       | exact (hB.ex ((Ex.refl wr).alloc (iObj [(k : Int)])).drew).ex I6
                       | exact (hB.ex ((Ex.refl wr).drew.alloc (iObj [(k : Int)]))).ex I6
                     rw [Hnw.out] at al6
                     obtain ⟨V6, c6, rfl, f6⟩ := al6.form (by omega)
                     have h6 := hb.trans (Ex1.of_ex I6)
                     have o6 : Off V6 bx := fun a e e2 => by
                       have h1 := f6.hi a e
                       omega))
                all_goals
                  rw [← Hst.out] at hB8
                  have hd8 := hd.ex1 h8 (by omega)
                  have he8 := he.trans h8
                  clear hrun6 hres
                  go_wp2_with fail
                  go_roundw
                  case rel => exact ⟨k + 1, by omega, by go_num, hB8, hd8, he8⟩
                  case measure => simp [intOf]; omega
      · obtain rfl : k = es.length := by omega
        rw [List.take_of_length_le (by rw [upL_len]; exact Nat.le_refl _)] at hB
        go_wp2
        go_end0
        exact ⟨rfl, hB, he⟩
theorem boU_no {x : Gr} (h : ¬ (drwB x = true ∧ x.es.length ≤ 8)) : boU x = ([], 0, false) := if_neg h
theorem boU_yes {x : Gr} (h1 : drwB x = true) (h2 : x.es.length ≤ 8) : boU x = ((bsS x.es x.ins x.es.length [] ⟨[], -1⟩).o, (bsS x.es x.ins x.es.length [] ⟨[], -1⟩).w, true) := if_pos ⟨h1, h2⟩
set_option maxHeartbeats 2000000 in
theorem spBestOrder_u (x : Gr) (v0 v1 v2 : Value) (w : World) (h : RGr w v0 v1 v2 x) :
    Calls Try.prog 15 #[.agg #[.int .i64 x.wires, v0, v1, v2]] w fun e w' => ∃ y, e = .returned (.tuple #[y, .int .i64 (boU x).2.1, .bool (boU x).2.2]) ∧ RI w' y (boU x).1 ∧ Ex w w' := by
  obtain ⟨⟨⟨E, ec, rfl, hE⟩, hEt⟩, ⟨I, ic, rfl, hI⟩, ⟨O, oc, rfl, hO⟩⟩ := h
  have hEl := hE.1
  have x0 := (Ex.refl w).alloc (.cells #[.int .i64 x.wires, .slice E x.es.length ec, .slice I x.ins.length ic, .slice O x.outs.length oc] 31)
  have d0 := VB.new w 31 #[.int .i64 x.wires, .slice E x.es.length ec, .slice I x.ins.length ic, .slice O x.outs.length oc]
  go_enter Try.func15, Try.ntmps15
  go_wp2_with fail
  generalize w.alloc (.cells #[.int .i64 x.wires, .slice E x.es.length ec, .slice I x.ins.length ic, .slice O x.outs.length oc] 31) = W0 at *
  refine (rbPlain_c x E ec I ic O oc W0 (hE.ex x0) (hI.ex x0) (hO.ex x0)).mono ?_
  rintro e w1 ⟨rfl, x1⟩
  have d1 := d0.ex x1
  have q0 := d1.cell 0 (v := .int .i64 x.wires) rfl
  have q1 := d1.cell 1 (v := .slice E x.es.length ec) rfl
  have q2 := d1.cell 2 (v := .slice I x.ins.length ic) rfl
  have q3 := d1.cell 3 (v := .slice O x.outs.length oc) rfl
  have y1 := x0.trans x1
  cases hb : drwB x with
  | false =>
    have H := Lib.hid (boU_no (x := x) (by simp [hb]))
    clear hb
    go_wp2
    refine bodyPost_ret (results_tmp3 rfl _ _ _) rfl ?_
    rw [H.out]
    exact ⟨_, rfl, (OI.nil _ 0 0).rd, y1⟩
  | true =>
    by_cases h8 : x.es.length ≤ 8
    · have H := Lib.hid (boU_yes hb h8)
      have hac := (drwB_parts hb).1
      obtain ⟨_, _, _, hin, _, hk, _⟩ := validB_dims (acyB_valid hac)
      have hbs := bsS_some hac x.es.length [] ⟨[], -1⟩ (by simp)
      have hng : ¬ (8 < (x.es.length : Int)) := by omega
      have ya := (Ex.refl w1).alloc (.cells #[.slice none 0 0, .int .i64 0, .bool false] 56)
      have va := VB.new w1 56 #[.slice none 0 0, .int .i64 0, .bool false]
      have hB : BM (w1.alloc (.cells #[.slice none 0 0, .int .i64 0, .bool false] 56)) w1.heap.size ⟨[], -1⟩ := ⟨none, 0, va, Rd.nil _ _, fun a e => by cases e⟩
      have hc := try_c x.wires E ec x.es I ic x.ins O x.outs.length oc w w1.heap.size y1.size hE h8 hk hin x.es.length [] none 0 ⟨[], -1⟩ _ (y1.trans ya) (OkP.nil _) (by simp) (Rd.nil _ _) (fun a e => by cases e) hB
      have q0 := (d1.ex ya).cell 0 (v := .int .i64 x.wires) rfl
      have q1 := (d1.ex ya).cell 1 (v := .slice E x.es.length ec) rfl
      have q2 := (d1.ex ya).cell 2 (v := .slice I x.ins.length ic) rfl
      have q3 := (d1.ex ya).cell 3 (v := .slice O x.outs.length oc) rfl
      clear hb hk
      go_wp2_with fail
      refine hc.mono ?_
      rintro e w2 ⟨rfl, ⟨A, c, hv, hr, ho⟩, e2⟩
      have y2 := (y1.trans ya).ex1 e2 y1.size
      generalize bsS x.es x.ins x.es.length [] ⟨[], -1⟩ = R at *
      rw [if_pos hbs, decide_eq_true hbs] at hv
      have k0 := hv.cell 0 (v := .slice A R.o.length c) rfl
      have k1 := hv.cell 1 (v := .int .i64 R.w) rfl
      go_wp2_with fail
      go_quiet (fail)
      go_wp2_with fail
      refine bodyPost_ret (results_tmp3 rfl _ _ _) rfl ?_
      rw [H.out]
      exact ⟨_, rfl, ⟨A, c, rfl, hr.drewN _⟩, y2.drewN _⟩
    · have H := Lib.hid (boU_no (x := x) (by omega))
      have hng : (8 < (x.es.length : Int)) := by omega
      go_wp2
      refine bodyPost_ret (results_tmp3 rfl _ _ _) rfl ?_
      rw [H.out]
      exact ⟨_, rfl, (OI.nil _ 0 0).rd, y1⟩
end Go.Proofs.Ytgblnkadmieflaa
