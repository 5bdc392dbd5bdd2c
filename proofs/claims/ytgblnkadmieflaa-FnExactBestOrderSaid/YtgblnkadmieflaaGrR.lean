/- Contracts: lists joined, elements left out; lists of slices that the call collects; permutations by counting. -/
import Derived.Test.YtgblnkadmieflaaGrZ
import Derived.Test.YtgblnkadmieflaaUM
import Derived.Deep.AppendLies
namespace Go.Proofs.Ytgblnkadmieflaa
set_option maxRecDepth 100000
open Go Go.RowKit
theorem upL_count (n : Nat) (a : Int) : (upL n).count a = if inB 0 ((n : Int) - 1) a then 1 else 0 := by
  induction n with
  | zero =>
    have : inB 0 (((0 : Nat) : Int) - 1) a = false := by simp [inB] <;> omega
    rw [this]; simp [upL]
  | succ n ih =>
    rw [upL_succ, List.count_append, ih, List.count_singleton]
    by_cases h1 : a = (n : Int)
    · subst h1
      have e1 : inB 0 ((n : Int) - 1) (n : Int) = false := by simp [inB] <;> omega
      have e2 : inB 0 (((n + 1 : Nat) : Int) - 1) (n : Int) = true := by simp [inB] <;> omega
      rw [e1, e2]; simp
    · have e1 : ((n : Int) == a) = false := by simp; exact fun e => h1 e.symm
      have e2 : inB 0 (((n + 1 : Nat) : Int) - 1) a = inB 0 ((n : Int) - 1) a := by
        rw [Bool.eq_iff_iff]; simp [inB] <;> omega
      rw [e2, e1]; simp
/-- Each number below n occurs once: a permutation. -/
theorem cnt_perm {n : Nat} {l : List Int} (h : ∀ k ∈ l, 0 ≤ k ∧ k < n) : (cntL n l).all (inB 1 1) = permB n l := by
  rw [Bool.eq_iff_iff]
  constructor
  · intro h1
    have hp : l.Perm (upL n) := by
      rw [List.perm_iff_count]
      intro a
      rw [upL_count]
      by_cases ha : inB 0 ((n : Int) - 1) a = true
      · rw [if_pos ha]
        have hb := inB_bd ha
        obtain ⟨m, rfl⟩ := Int.eq_ofNat_of_zero_le hb.1
        have := List.all_eq_true.1 h1 _ (List.mem_of_getElem? (cntL_at (n := n) (l := l) (i := m) (by omega)))
        have := inB_bd this
        omega
      · rw [if_neg ha]
        apply List.count_eq_zero_of_not_mem
        intro hm
        have := h a hm
        exact ha (by simp [inB] <;> omega)
    have hn : (upL n).Nodup := by
      rw [List.nodup_iff_count]
      intro a
      rw [upL_count]
      split <;> omega
    refine permB_yes (hp.length_eq.trans (upL_len n)) ?_ (hp.nodup_iff.2 hn)
    rw [List.all_eq_true]
    intro k hk
    have := h k hk
    simp [inB] <;> omega
  · intro h1
    obtain ⟨hl, hr, hn⟩ := permB_parts h1
    rw [List.all_eq_true]
    intro c hc
    obtain ⟨i, hi⟩ := List.getElem?_of_mem hc
    have hil : i < n := by have := (List.getElem?_eq_some_iff.1 hi).1; rw [cntL_len] at this; exact this
    rw [cntL_at hil] at hi
    injection hi with hi
    subst hi
    have h2 := List.nodup_iff_count.1 hn (i : Int)
    have h3 := List.count_pos_iff.2 (perm_all h1 hil)
    simp [inB] <;> omega
theorem others_c (A : Option Addr) (c : Nat) (xs : List Int) (B : Option Addr) (d : Nat) (ys : List Int) (w : World) (h : Rd w A xs) (h' : Rd w B ys) :
    Calls Try.prog 44 #[.slice A xs.length c, .slice B ys.length d] w fun e w' => LIo w (xs.filter fun x => !decide (x ∈ ys)) e w' := by
  have hl := h.len
  go_enter Try.func44, Try.ntmps44
  go_wp2_with fail
  go_loopw [5, 11] (fun o i wr => ∃ k : Nat, k ≤ xs.length ∧ i = .int .i64 k ∧ AL wr w.heap.size o ((xs.take k).filter fun x => !decide (x ∈ ys)) ∧ Ex w wr) (fun _ i _ => xs.length - (intOf i).toNat)
  case atStart => exact ⟨0, Nat.zero_le _, rfl, AL.empty w (Nat.le_refl _), (Ex.refl w).alloc _⟩
  case round =>
    obtain ⟨k, hk, rfl, hal, he⟩ := hrel
    by_cases hlt : k < xs.length
    · obtain ⟨g, off, x, rfl, hx, _, c1⟩ := (h.ex he).at_ hlt
      have hc := contains_c B d ys x wr (h'.ex he)
      have Hst := Lib.hid (show (xs.take (k + 1)).filter (fun x => !decide (x ∈ ys)) = (xs.take k).filter (fun x => !decide (x ∈ ys)) ++ (if decide (x ∈ ys) then [] else [x]) by
        rw [List.take_add_one, hx, List.filter_append]
        by_cases hm : x ∈ ys <;> simp [hm])
      have hlen : ((xs.take k).filter fun x => !decide (x ∈ ys)).length ≤ k := Nat.le_trans (List.length_filter_le _ _) (by rw [List.length_take]; omega)
      clear hx
      go_wp2_with fail
      refine hc.mono ?_
      rintro e _ ⟨rfl, rfl⟩
      clear hc
      cases hb : decide (x ∈ ys) with
      | true =>
        rw [hb, if_pos rfl, List.append_nil] at Hst
        rw [← Hst.out] at hal
        clear hb
        go_wp2_with fail
        go_roundw
        case rel => exact ⟨k + 1, by omega, by go_num, hal, he⟩
        case measure => simp [intOf]; omega
      | false =>
        rw [hb, if_neg (by decide)] at Hst
        have hz := he.size
        obtain ⟨v', w4, hrun2, hal4, hI⟩ := al_push_i _ w.heap.size u5 _ x hal hz (by omega)
        rw [← Hst.out] at hal4
        have he4 := he.iv hI (Nat.le_refl _)
        clear hb hlen
        go_wp2_with (at_builtin; refine wpList_append_run rfl _ _ _ rfl rfl rfl hrun2 ?_)
        go_roundw
        case rel => exact ⟨k + 1, by omega, by go_num, hal4, he4⟩
        case measure => simp [intOf]; omega
    · obtain rfl : k = xs.length := by omega
      rw [List.take_length] at hal
      have hlen : (xs.filter fun x => !decide (x ∈ ys)).length ≤ xs.length := List.length_filter_le _ _
      obtain ⟨O, oc, rfl, fo⟩ := hal.form (by omega)
      go_wp2_with fail
      go_ret
      exact ⟨_, rfl, ⟨O, oc, rfl, fo.fi⟩, he⟩
theorem flatten_take_le (rows : List (List Int)) (k : Nat) : (rows.take k).flatten.length ≤ rows.flatten.length := by
  have := congrArg (fun l => l.flatten.length) (List.take_append_drop k rows)
  simp only [List.flatten_append, List.length_append] at this
  omega
theorem joined_c (L : Option Addr) (lc : Nat) (rows : List (List Int)) (w : World) (h : RdM w L rows) (ht : rows.flatten.length ≤ 1099511627776) :
    Calls Try.prog 43 #[.slice L rows.length lc] w fun e w' => LIo w rows.flatten e w' := by
  have hl := h.1
  go_enter Try.func43, Try.ntmps43
  go_wp2_with fail
  go_loopw [3, 9] (fun o i wr => ∃ k : Nat, k ≤ rows.length ∧ i = .int .i64 k ∧ AL wr w.heap.size o (rows.take k).flatten ∧ Ex w wr) (fun _ i _ => rows.length - (intOf i).toNat)
  case atStart => exact ⟨0, Nat.zero_le _, rfl, AL.empty w (Nat.le_refl _), (Ex.refl w).alloc _⟩
  case round =>
    obtain ⟨k, hk, rfl, hal, he⟩ := hrel
    by_cases hlt : k < rows.length
    · obtain ⟨g, off, P, pc, r, rfl, hr, c1, hP⟩ := (h.ex he).at_ hlt
      have Hst := Lib.hid (show (rows.take (k + 1)).flatten = (rows.take k).flatten ++ r by
        rw [List.take_add_one, hr, List.flatten_append]; simp)
      have hle := flatten_take_le rows (k + 1)
      rw [Hst.out, List.length_append] at hle
      have hz := he.size
      have hPl := hP.len
      obtain ⟨v', w4, hrun2, hal4, hE, _⟩ := run_append_ints 23 23 Try.underlying23 wr w.heap.size u3 _ hal hz P pc r hP (by omega)
      rw [← Hst.out] at hal4
      have he4 := he.exo hE (fun g e => (hal.lt g e).1)
      clear hr hle
      go_wp2_with (at_builtin; refine wpList_append_run rfl _ _ _ rfl rfl rfl hrun2 ?_)
      go_roundw
      case rel => exact ⟨k + 1, by omega, by go_num, hal4, he4⟩
      case measure => simp [intOf]; omega
    · obtain rfl : k = rows.length := by omega
      rw [List.take_length] at hal
      obtain ⟨O, oc, rfl, fo⟩ := hal.form ht
      go_wp2_with fail
      go_ret
      exact ⟨_, rfl, ⟨O, oc, rfl, fo.fi⟩, he⟩
/-- A list of slices that the call collects by append; the slices themselves were there at w0. -/
def LR (w0 w : World) (B : Nat) (v : Value) (rows : List (List Int)) : Prop :=
  ∃ hs : List Value, w.ownsRow B 23 1 v rows.length hs ∧ ∀ (j : Nat) (r : List Int), rows[j]? = some r → ∃ A c, hs[j]? = some (.slice A r.length c) ∧ Rd w0 A r
theorem LR.nil (w0 w : World) (B : Nat) : LR w0 w B (.slice none 0 0) [] := ⟨[], World.ownsRow_nil w B _ 1, fun j r h => by simp at h⟩
theorem LR.one (w0 w : World) {B : Nat} {A : Option Addr} {c : Nat} {r : List Int} (hr : Rd w0 A r) (hB : B ≤ w.heap.size) : LR w0 (w.alloc (.cells #[.slice A r.length c] 23)) B (.slice (some ⟨w.heap.size, 0, none⟩) 1 1) [r] :=
  ⟨[.slice A r.length c], ⟨rfl, .inr ⟨w.heap.size, 1, #[.slice A r.length c], rfl, hB, heap_alloc_new w _, Nat.le_refl _, by decide, rfl, rfl⟩⟩, fun j q h => by
    cases j with
    | zero => simp at h; subst h; exact ⟨A, c, rfl, hr⟩
    | succ j => simp at h⟩
theorem LR.lt {w0 w : World} {B : Nat} {v : Value} {rows : List (List Int)} (h : LR w0 w B v rows) : ∀ k, v.ownBlock = some k → B ≤ k ∧ k < w.heap.size := by
  obtain ⟨hs, h1, _⟩ := h
  exact World.ownsRow.lt h1
theorem LR.ex {w0 w w' : World} {B : Nat} {v : Value} {rows : List (List Int)} (h : LR w0 w B v rows) (he : Ex w w') : LR w0 w' B v rows := by
  obtain ⟨hs, ⟨h1, h2⟩, h3⟩ := h
  refine ⟨hs, ⟨h1, ?_⟩, h3⟩
  rcases h2 with h2 | ⟨g, cap, cur, hv, hB, hh, r⟩
  · exact .inl h2
  · exact .inr ⟨g, cap, cur, hv, hB, (he.block (heap_lt_of hh)).trans hh, r⟩
theorem LR.exo {w0 w w' : World} {B : Nat} {v : Value} {rows : List (List Int)} {o : Option Nat} (h : LR w0 w B v rows) (he : ExO o w w') (ho : ∀ g, o = some g → v.ownBlock ≠ some g) : LR w0 w' B v rows := by
  obtain ⟨hs, ⟨h1, h2⟩, h3⟩ := h
  refine ⟨hs, ⟨h1, ?_⟩, h3⟩
  rcases h2 with h2 | ⟨g, cap, cur, hv, hB, hh, r⟩
  · exact .inl h2
  · exact .inr ⟨g, cap, cur, hv, hB, (he.block g (heap_lt_of hh) (fun e => ho g e.symm (by rw [hv]; rfl))).trans hh, r⟩
theorem LR.push {w0 w : World} {B : Nat} {v : Value} {rows : List (List Int)} (h : LR w0 w B v rows) {A : Option Addr} {c : Nat} {r : List Int} (hr : Rd w0 A r) (hB : B ≤ w.heap.size) (hl : rows.length + 1 ≤ 1099511627776) :
    ∃ v' w', (Builtin.append_ #[58, 58] 58 #[v, .slice (some ⟨w.heap.size, 0, none⟩) 1 1]).run Try.prog (w.alloc (.cells #[.slice A r.length c] 23)) = .ok v' w' ∧
      LR w0 w' B v' (rows ++ [r]) ∧ ExO v.ownBlock w w' ∧ (v'.ownBlock = v.ownBlock ∨ ∃ q, v'.ownBlock = some q ∧ w.heap.size ≤ q) := by
  have hx := (Ex.refl w).alloc (.cells #[.slice A r.length c] 23)
  have hsz := hx.size
  obtain ⟨hs, ho, h3⟩ := h.ex hx
  have hnl : hs.length = rows.length := by have := ho.1; omega
  obtain ⟨i, hi, hz, hs1, hb1⟩ := info_parts sliceInfo
  obtain ⟨v', w', hrun, hown', hg, _, hob⟩ := run_append_own_at (P := Try.prog) (w.alloc (.cells #[.slice A r.length c] 23)) B 58 58 23 i (.slice none 0 0) 1 24 Try.underlying58 hi hz hs1 hb1 rfl (by omega) v rows.length hs ho ⟨w.heap.size, 0, none⟩ 1 1 [.slice A r.length c] (by simp)
    (fun j u hj => World.news_of_block (heap_alloc_new w _) j u hj) (fun u hu => by simp at hu; subst hu; rfl) (by unfold maxLen; omega) (by omega) (by omega)
  refine ⟨v', w', hrun, ⟨hs ++ [.slice A r.length c], by rw [List.length_append]; exact hown', fun j q hq => ?_⟩, (ExO.of_ex hx).trans hg, hob.imp id (fun e => ⟨_, e, hsz⟩)⟩
  by_cases e : j < rows.length
  · rw [List.getElem?_append_left e] at hq
    obtain ⟨A2, c2, q1, q2⟩ := h3 j q hq
    exact ⟨A2, c2, by rw [List.getElem?_append_left (by omega)]; exact q1, q2⟩
  · have hjl := (List.getElem?_eq_some_iff.1 hq).1
    rw [List.length_append, List.length_singleton] at hjl
    have e2 : j = rows.length := by omega
    subst e2
    rw [List.getElem?_append_right (Nat.le_refl _), Nat.sub_self] at hq
    injection hq with hq
    subst hq
    exact ⟨A, c, by rw [List.getElem?_append_right (by omega), hnl, Nat.sub_self]; rfl, hr⟩
theorem LR.rdm {w0 w : World} {B : Nat} {v : Value} {rows : List (List Int)} (h : LR w0 w B v rows) (he : Ex w0 w) (hl : rows.length ≤ 1099511627776) : ∃ A c, v = .slice A rows.length c ∧ RdM w A rows := by
  obtain ⟨hs, ⟨h1, h2⟩, h3⟩ := h
  rcases h2 with ⟨hv, hn⟩ | ⟨g, cap, cur, hv, hB, hh, hnc, _, _, ht⟩
  · have : rows = [] := List.eq_nil_of_length_eq_zero hn
    subst this
    exact ⟨none, 0, hv, hl, fun j r hj => by simp at hj⟩
  · refine ⟨_, cap, hv, hl, fun j r hj => ?_⟩
    obtain ⟨A, c, q1, q2⟩ := h3 j r hj
    refine ⟨g, 0, A, c, rfl, ?_, q2.ex he⟩
    have : (cur.toList.take (rows.length * 1))[j]? = some (.slice A r.length c) := by rw [ht]; exact q1
    rw [List.getElem?_take] at this
    split at this
    · rw [Nat.zero_add]; exact cell_of_cur hh (by simpa using this)
    · cases this
end Go.Proofs.Ytgblnkadmieflaa
