/- Lists of lists of ints whose outer list and whose rows both grow by append. -/
import Derived.Test.YtgblnkadmieflaaUM
import Derived.Test.YtgblnkadmieflaaUS
import Derived.Deep.AppendLies
namespace Go.Proofs.Ytgblnkadmieflaa
set_option maxRecDepth 100000
open Go Go.RowKit
theorem AL.grown {w w' : World} {B : Nat} {u : Value} {r : List Int} {row : Option Nat} (h : AL w B u r) (hg : w.grownBy w' row) (hne : ∀ k, row = some k → u.ownBlock ≠ some k) : AL w' B u r := by
  obtain ⟨h1, h2⟩ := h
  refine ⟨h1, ?_⟩
  rcases h2 with h2 | ⟨g, cap, cur, hv, hB, hh, r⟩
  · exact .inl h2
  · exact .inr ⟨g, cap, cur, hv, hB, (hg.block g (heap_lt_of hh) (fun e => hne g e.symm (by rw [hv]; rfl))).trans hh, r⟩
/-- One number appended: only its own block has turned. -/
theorem al_push_o (w : World) (B : Nat) (u : Value) (r : List Int) (x : Int) (hv : AL w B u r) (hB : B ≤ w.heap.size) (hl : r.length + 1 ≤ 1099511627776) :
    ∃ u' w', (Builtin.append_ #[23, 23] 23 #[u, .slice (some ⟨w.heap.size, 0, none⟩) 1 1]).run Try.prog (w.alloc (iObj [x])) = .ok u' w' ∧ AL w' B u' (r ++ [x]) ∧ ExO u.ownBlock w w' ∧ (u'.ownBlock = u.ownBlock ∨ ∃ q, u'.ownBlock = some q ∧ w.heap.size ≤ q) := by
  have ha := (Ex.refl w).alloc (iObj [x])
  obtain ⟨u', w', h1, h2, h3, h4⟩ := run_append_ints 23 23 Try.underlying23 (w.alloc (iObj [x])) B u r (hv.ex ha) (Nat.le_trans hB ha.size) (some ⟨w.heap.size, 0, none⟩) 1 [x] ((Blk.new w [x]).rd (by simp)) (by simpa using hl)
  exact ⟨u', w', h1, h2, (ExO.of_ex ha).trans h3, h4.imp id (fun e => ⟨_, e, ha.size⟩)⟩
/-- A list of lists of one's own, all from block B on; no two share a block. -/
def GR (w : World) (B : Nat) (v : Value) (vs : List Value) (rows : List (List Int)) : Prop :=
  w.ownsRow B 23 1 v rows.length vs ∧ (∀ (j : Nat) (u : Value) (r : List Int), vs[j]? = some u → rows[j]? = some r → AL w B u r) ∧ (∀ (j : Nat) (u : Value) (b : Nat), vs[j]? = some u → u.ownBlock = some b → v.ownBlock ≠ some b) ∧
    ∀ (i j : Nat) (u u' : Value) (b : Nat), i ≠ j → vs[i]? = some u → vs[j]? = some u' → u.ownBlock = some b → u'.ownBlock ≠ some b
theorem GR.len {w : World} {B : Nat} {v : Value} {vs : List Value} {rows : List (List Int)} (h : GR w B v vs rows) : vs.length = rows.length := by have := h.1.1; omega
theorem GR.nil (w : World) (B : Nat) : GR w B (.slice none 0 0) [] [] := ⟨World.ownsRow_nil w B _ 1, fun j u r h => by simp at h, fun j u b h => by simp at h, fun i j u u' b _ h => by simp at h⟩
theorem GR.empty (w : World) {B : Nat} (hB : B ≤ w.heap.size) : GR (w.alloc (.cells #[] 23)) B (.slice (some ⟨w.heap.size, 0, none⟩) 0 0) [] [] :=
  ⟨⟨rfl, .inr ⟨w.heap.size, 0, #[], rfl, hB, heap_alloc_new w _, Nat.le_refl _, Nat.zero_le _, rfl, rfl⟩⟩, fun j u r h => by simp at h, fun j u b h => by simp at h, fun i j u u' b _ h => by simp at h⟩
theorem ownsRow_exs {w w' : World} {B n s : Nat} {t : TypeId} {v : Value} {xs : List Value} (h : w.ownsRow B t s v n xs) (he : Ex w w') : w'.ownsRow B t s v n xs := by
  obtain ⟨h1, h2⟩ := h
  refine ⟨h1, ?_⟩
  rcases h2 with h2 | ⟨g, cap, cur, hv, hB, hh, r⟩
  · exact .inl h2
  · exact .inr ⟨g, cap, cur, hv, hB, (he.block (heap_lt_of hh)).trans hh, r⟩
theorem GR.ex {w w' : World} {B : Nat} {v : Value} {vs : List Value} {rows : List (List Int)} (h : GR w B v vs rows) (he : Ex w w') : GR w' B v vs rows := by
  obtain ⟨h1, h2, h3, h4⟩ := h
  exact ⟨ownsRow_exs h1 he, fun j u r a b => (h2 j u r a b).ex he, h3, h4⟩
theorem GR.form {w : World} {B : Nat} {v : Value} {vs : List Value} {rows : List (List Int)} (h : GR w B v vs rows) : ∃ A c, v = .slice A rows.length c := by
  rcases h.1.2 with ⟨hv, hn⟩ | ⟨g, cap, cur, hv, _⟩
  · exact ⟨none, 0, by rw [hv, hn]⟩
  · exact ⟨_, cap, hv⟩
/-- An empty row appended. -/
theorem GR.push {w : World} {B : Nat} {v : Value} {vs : List Value} {rows : List (List Int)} (h : GR w B v vs rows) (hB : B ≤ w.heap.size) (hl : rows.length + 1 ≤ 1099511627776) :
    ∃ v' w', (Builtin.append_ #[58, 58] 58 #[v, .slice (some ⟨w.heap.size, 0, none⟩) 1 1]).run Try.prog (w.alloc (.cells #[.slice none 0 0] 23)) = .ok v' w' ∧
      GR w' B v' (vs ++ [.slice none 0 0]) (rows ++ [[]]) ∧ ExI B w.heap.size w w' ∧ ExO v.ownBlock w w' ∧ (v'.ownBlock = v.ownBlock ∨ ∃ q, v'.ownBlock = some q ∧ w.heap.size ≤ q) := by
  have hln := h.len
  obtain ⟨h1, h2, h3, h4⟩ := h
  have hx := (Ex.refl w).alloc (.cells #[.slice none 0 0] 23)
  have hsz := hx.size
  obtain ⟨i, hi, hz, hs1, hb1⟩ := info_parts sliceInfo
  obtain ⟨v', w', hrun, hown', hg, _, hob⟩ := run_append_own_at (P := Try.prog) (w.alloc (.cells #[.slice none 0 0] 23)) B 58 58 23 i (.slice none 0 0) 1 24 Try.underlying58 hi hz hs1 hb1 rfl (by omega) v rows.length vs (ownsRow_exs h1 hx) ⟨w.heap.size, 0, none⟩ 1 1 [.slice none 0 0] (by simp)
    (fun j u hj => World.news_of_block (heap_alloc_new w _) j u hj) (fun u hu => by simp at hu; subst hu; rfl) (by unfold maxLen; omega) (by omega) (by omega)
  have split : ∀ (j : Nat) (u : Value), (vs ++ [Value.slice none 0 0])[j]? = some u → (vs[j]? = some u ∧ j < vs.length) ∨ (j = vs.length ∧ u = .slice none 0 0) := fun j u hj => by
    by_cases e : j < vs.length
    · rw [List.getElem?_append_left e] at hj; exact .inl ⟨hj, e⟩
    · rw [List.getElem?_append_right (by omega)] at hj
      have := (List.getElem?_eq_some_iff.1 hj).1
      simp at this
      have e2 : j = vs.length := by omega
      subst e2
      simp at hj
      exact .inr ⟨rfl, hj.symm⟩
  have lt : ∀ (j : Nat) (u : Value) (b : Nat), vs[j]? = some u → u.ownBlock = some b → b < w.heap.size := fun j u b hj hb => by
    have hjl := (List.getElem?_eq_some_iff.1 hj).1
    exact ((h2 j u _ hj (List.getElem?_eq_getElem (by omega))).lt b hb).2
  refine ⟨v', w', hrun, ⟨?_, fun j u r hj hr => ?_, fun j u b hj hb => ?_, fun a j u u' b hne ha hj hb => ?_⟩, ⟨hg.os.trans hx.os, hg.tape.trans hx.tape, hg.output.trans hx.output, Nat.le_trans hsz hg.size, fun k hk hd => ?_⟩, (ExO.of_ex hx).trans hg, hob.imp id (fun e => ⟨_, e, hsz⟩)⟩
  · rw [List.length_append]; exact hown'
  · rcases split j u hj with ⟨hj', hjl⟩ | ⟨e, rfl⟩
    · rw [List.getElem?_append_left (by omega)] at hr
      exact ((h2 j u r hj' hr).ex hx).grown hg fun k e e2 => h3 j u k hj' e2 e
    · rw [e, List.getElem?_append_right (by omega), hln, Nat.sub_self] at hr
      simp at hr
      subst hr
      exact AL.nil _ _
  · rcases split j u hj with ⟨hj', hjl⟩ | ⟨e, rfl⟩
    · have := lt j u b hj' hb
      rcases hob with e | e
      · rw [e]; exact h3 j u b hj' hb
      · rw [e]; intro e2; injection e2 with e2; omega
    · cases hb
  · rcases split a u ha with ⟨ha', _⟩ | ⟨e, rfl⟩
    · rcases split j u' hj with ⟨hj', _⟩ | ⟨e, rfl⟩
      · exact h4 a j u u' b hne ha' hj' hb
      · intro e2; cases e2
    · cases hb
  · rcases hd with hd | hd
    · rw [hg.block k (Nat.lt_of_lt_of_le hk hsz) (fun e => by have := (World.ownsRow.lt (ownsRow_exs h1 hx) k e.symm).1; omega)]
      exact hx.block hk
    · omega
/-- A row read, where it stands. -/
theorem GR.at_ {w : World} {B : Nat} {v : Value} {vs : List Value} {rows : List (List Int)} (h : GR w B v vs rows) {k : Nat} {r : List Int} (hr : rows[k]? = some r) :
    ∃ g cap u, v = .slice (some ⟨g, 0, none⟩) rows.length cap ∧ vs[k]? = some u ∧ w.cell? ⟨g, k, none⟩ = some u ∧ w.frozen? ⟨g, k, none⟩ = false ∧ AL w B u r ∧ u.ownBlock ≠ some g ∧ B ≤ g ∧ g < w.heap.size := by
  have hln := h.len
  have hkl := (List.getElem?_eq_some_iff.1 hr).1
  obtain ⟨u, hu⟩ : ∃ u, vs[k]? = some u := ⟨_, List.getElem?_eq_getElem (by omega)⟩
  obtain ⟨h1, h2, h3, h4⟩ := h
  rcases h1.2 with ⟨_, hn⟩ | ⟨g, cap, cur, hv, hB, hh, hnc, _, _, ht⟩
  · omega
  · have hc : cur[k]? = some u := by
      have : (cur.toList.take (rows.length * 1))[k]? = some u := by rw [ht]; exact hu
      rw [List.getElem?_take] at this
      split at this
      · simpa using this
      · cases this
    refine ⟨g, cap, u, hv, hu, cell_of_cur hh hc, frozen_of_cur hh k, h2 k u r hu hr, fun e => ?_, hB, heap_lt_of hh⟩
    exact h3 k u g hu e (by rw [hv]; rfl)
/-- A row that has grown, put back where it stood. -/
theorem GR.put {w w' : World} {B g cap k : Nat} {vs : List Value} {rows : List (List Int)} {u u' : Value} {r : List Int} {x : Int} (h : GR w B (.slice (some ⟨g, 0, none⟩) rows.length cap) vs rows) (hr : rows[k]? = some r) (hu : vs[k]? = some u)
    (hal : AL w' B u' (r ++ [x])) (hE : ExO u.ownBlock w w') (ho : u'.ownBlock = u.ownBlock ∨ ∃ q, u'.ownBlock = some q ∧ w.heap.size ≤ q) :
    GR (w'.setCell ⟨g, k, none⟩ u') B (.slice (some ⟨g, 0, none⟩) rows.length cap) (vs.set k u') (rows.set k (r ++ [x])) ∧ ExI B w.heap.size w (w'.setCell ⟨g, k, none⟩ u') ∧ (∀ q, q < w.heap.size → u.ownBlock ≠ some q → q ≠ g → (w'.setCell ⟨g, k, none⟩ u').heap[q]? = w.heap[q]?) := by
  have hln := h.len
  have hkl := (List.getElem?_eq_some_iff.1 hr).1
  obtain ⟨h1, h2, h3, h4⟩ := h
  rcases h1.2 with ⟨hv, _⟩ | ⟨g', cap', cur, hv, hB, hh, hnc, hcm, hsz, ht⟩
  · cases hv
  injection hv with e1 _ e3
  injection e1 with e1
  injection e1 with e1 _ _
  subst e1 e3
  have hgl := heap_lt_of hh
  have hug : u.ownBlock ≠ some g := fun e => h3 k u g hu e rfl
  have lt : ∀ (j : Nat) (u : Value) (b : Nat), vs[j]? = some u → u.ownBlock = some b → B ≤ b ∧ b < w.heap.size := fun j u b hj hb => by
    have hjl := (List.getElem?_eq_some_iff.1 hj).1
    exact (h2 j u _ hj (List.getElem?_eq_getElem (by omega))).lt b hb
  have hug' : u'.ownBlock ≠ some g := fun e => by
    rcases ho with h | ⟨q, h, hq⟩
    · rw [h] at e; exact hug e
    · rw [h] at e; injection e with e; omega
  have hh' : w'.heap[g]? = some (.cells cur 23 (0, 0)) := (hE.block g hgl (fun e => hug e.symm)).trans hh
  have hE1 : Ex1 g w' (w'.setCell ⟨g, k, none⟩ u') := (Ex1.refl _ _).setCell rfl _
  have hset : (w'.setCell ⟨g, k, none⟩ u').heap[g]? = some (.cells (cur.setIfInBounds k u') 23 (0, 0)) := by simp [World.setCell, Array.getElem?_modify, hh']
  have split : ∀ (j : Nat) (z : Value), (vs.set k u')[j]? = some z → (j ≠ k ∧ vs[j]? = some z) ∨ (j = k ∧ z = u') := fun j z hj => by
    rw [List.getElem?_set] at hj
    split at hj
    · rename_i e
      subst e
      rw [if_pos (by omega)] at hj
      injection hj with hj
      exact .inr ⟨rfl, hj.symm⟩
    · rename_i e
      exact .inl ⟨fun e2 => e e2.symm, hj⟩
  have e1g : ∀ {z : Value} {q : List Int}, AL w' B z q → z.ownBlock ≠ some g → AL (w'.setCell ⟨g, k, none⟩ u') B z q := fun ha hne => by
    obtain ⟨a1, a2⟩ := ha
    refine ⟨a1, ?_⟩
    rcases a2 with a2 | ⟨b, c2, cu, hv2, hB2, hh2, r2⟩
    · exact .inl a2
    · exact .inr ⟨b, c2, cu, hv2, hB2, (hE1.block b (heap_lt_of hh2) (by intro e; injection e with e; exact hne (by rw [hv2, ← e]; rfl))).trans hh2, r2⟩
  refine ⟨⟨⟨by rw [List.length_set, List.length_set]; omega, .inr ⟨g, cap, cur.setIfInBounds k u', by rw [List.length_set], hB, hset, by rw [List.length_set]; exact hnc, hcm, by simpa using hsz, ?_⟩⟩, fun j z q hj hq => ?_, fun j z b hj hb => ?_, fun i j z z' b hne hi hj hb => ?_⟩, ⟨hE1.os.trans hE.os, hE1.tape.trans hE.tape, hE1.output.trans hE.output, Nat.le_trans hE.size hE1.size, fun q hq hd => ?_⟩, fun q hq h1 h2 => (hE1.block q (Nat.lt_of_lt_of_le hq hE.size) (by intro e; injection e with e; exact h2 e)).trans (hE.block q hq (fun e => h1 e.symm))⟩
  · rw [List.length_set, Array.toList_setIfInBounds, List.take_set, ht]
  · rcases split j z hj with ⟨hne, hj'⟩ | ⟨rfl, rfl⟩
    · rw [List.getElem?_set, if_neg (fun e => hne e.symm)] at hq
      refine e1g ((h2 j z q hj' hq).grown hE fun b e e2 => ?_) (fun e => h3 j z g hj' e rfl)
      exact h4 k j u z b (fun e3 => hne e3.symm) hu hj' e e2
    · rw [List.getElem?_set, if_pos rfl, if_pos hkl] at hq
      injection hq with hq
      subst hq
      exact e1g hal hug'
  · rcases split j z hj with ⟨hne, hj'⟩ | ⟨rfl, rfl⟩
    · exact h3 j z b hj' hb
    · intro e
      exact hug' (hb.trans (by rw [← e]; rfl))
  · rcases split i z hi with ⟨hi1, hi2⟩ | ⟨rfl, rfl⟩
    · rcases split j z' hj with ⟨hj1, hj2⟩ | ⟨rfl, rfl⟩
      · exact h4 i j z z' b hne hi2 hj2 hb
      · intro e
        rcases ho with h | ⟨q, h, hq⟩
        · rw [h] at e; exact h4 i j z u b hne hi2 hu hb e
        · rw [h] at e; injection e with e; have := (lt i z b hi2 hb).2; omega
    · rcases split j z' hj with ⟨hj1, hj2⟩ | ⟨rfl, rfl⟩
      · intro e
        rcases ho with h | ⟨q, h, hq⟩
        · rw [h] at hb; exact h4 j i z' u b (fun e3 => hne e3.symm) hj2 hu e hb
        · rw [h] at hb; injection hb with hb; have := (lt j z' b hj2 e).2; omega
      · exact absurd rfl hne
  · rcases hd with hd | hd
    · rw [hE1.block q (Nat.lt_of_lt_of_le hq hE.size) (by intro e; injection e with e; omega), hE.block q hq (fun e => by have := (lt k u q hu e.symm).1; omega)]
    · omega
/-- None of the blocks of a list of lists lies from p on and below q. -/
def SepG (v : Value) (vs : List Value) (p q : Nat) : Prop := (∀ b, v.ownBlock = some b → b < p ∨ q ≤ b) ∧ ∀ (j : Nat) (u : Value) (b : Nat), vs[j]? = some u → u.ownBlock = some b → b < p ∨ q ≤ b
theorem SepG.push {v v' : Value} {vs : List Value} {p q m : Nat} (h : SepG v vs p q) (ho : v'.ownBlock = v.ownBlock ∨ ∃ q, v'.ownBlock = some q ∧ m ≤ q) (hq : q ≤ m) : SepG v' (vs ++ [.slice none 0 0]) p q := by
  refine ⟨fun b hb => ?_, fun j u b hj hb => ?_⟩
  · rcases ho with e | ⟨z, e, hz⟩
    · rw [e] at hb; exact h.1 b hb
    · rw [e] at hb; injection hb with hb; omega
  · by_cases e : j < vs.length
    · rw [List.getElem?_append_left e] at hj; exact h.2 j u b hj hb
    · rw [List.getElem?_append_right (by omega)] at hj
      have hm := List.mem_of_getElem? hj
      simp at hm
      subst hm
      cases hb
theorem SepG.put {v u u' : Value} {vs : List Value} {p q m k : Nat} (h : SepG v vs p q) (hu : vs[k]? = some u) (ho : u'.ownBlock = u.ownBlock ∨ ∃ q, u'.ownBlock = some q ∧ m ≤ q) (hq : q ≤ m) : SepG v (vs.set k u') p q := by
  refine ⟨h.1, fun j z b hj hb => ?_⟩
  rw [List.getElem?_set] at hj
  split at hj
  · split at hj
    · injection hj with hj
      subst hj
      rcases ho with e | ⟨z, e, hz⟩
      · rw [e] at hb; exact h.2 k u b hu hb
      · rw [e] at hb; injection hb with hb; omega
    · cases hj
  · exact h.2 j z b hj hb
/-- As the laws' helpers want it. -/
theorem GR.om2 {w : World} {B : Nat} {v : Value} {vs : List Value} {rows : List (List Int)} (h : GR w B v vs rows) (hl : rows.length ≤ 1048576) (hr : ∀ r ∈ rows, r.length ≤ 1048576) (ht : totM rows ≤ 1125899906842624) (hB : B ≤ w.heap.size) : OM2 w B w.heap.size v rows := by
  have hln := h.len
  obtain ⟨h1, h2, h3, h4⟩ := h
  rcases h1.2 with ⟨hv, hn⟩ | ⟨g, cap, cur, hv, hBg, hh, hnc, hcm, hsz, htk⟩
  · have : rows = [] := List.eq_nil_of_length_eq_zero hn
    subst this
    exact ⟨⟨none, 0, hv, FMI.nil _ _ _ _⟩, ht⟩
  · refine ⟨⟨_, cap, hv, by omega, fun j => match vs[j]? with | some u => (match u.ownBlock with | some b => b | none => w.heap.size) | none => 0, fun j => match vs[j]? with | some u => (match u.ownBlock with | some b => b + 1 | none => w.heap.size) | none => 0, fun j r hj => ?_, fun i j hi hj hne => ?_⟩, ht⟩
    · have hjl := (List.getElem?_eq_some_iff.1 hj).1
      obtain ⟨u, hu⟩ : ∃ u, vs[j]? = some u := ⟨_, List.getElem?_eq_getElem (by omega)⟩
      have hal := h2 j u r hu hj
      obtain ⟨A, c, rfl, hf⟩ := hal.form (by have := hr r (List.mem_of_getElem? hj); omega)
      have hc : cur[j]? = some (.slice A r.length c) := by
        have : (cur.toList.take (rows.length * 1))[j]? = some (.slice A r.length c) := by rw [htk]; exact hu
        rw [List.getElem?_take] at this
        split at this
        · simpa using this
        · cases this
      have hgl := heap_lt_of hh
      refine ⟨g, 0, A, c, rfl, hBg, hgl, by rw [Nat.zero_add]; exact cell_of_cur hh hc, ?_⟩
      simp only [hu]
      cases A with
      | none =>
        have : r = [] := by
          cases r with
          | nil => rfl
          | cons z zs => obtain ⟨g2, off2, hA, _⟩ := hf.rd.2 0 (by simp); cases hA
        subst this
        exact ⟨⟨Fr.nil _ _ _, fun a e => by cases e⟩, hB, Nat.le_refl _, .inl hgl⟩
      | some a =>
        have hlt := hal.lt a.block rfl
        have hne : a.block ≠ g := fun e => h3 j _ a.block hu rfl (by rw [hv]; simp [Value.ownBlock, e])
        refine ⟨⟨⟨hf.1, hf.2.1, fun b e => ?_⟩, fun b e => ?_⟩, hlt.1, hlt.2, ?_⟩
        · injection e with e; subst e
          exact ⟨Nat.le_refl _, (hf.2.2 a rfl).2⟩
        · injection e with e; subst e
          exact Nat.lt_succ_self _
        · show g < a.block ∨ a.block + 1 ≤ g
          omega
    · obtain ⟨u, hu⟩ : ∃ u, vs[i]? = some u := ⟨_, List.getElem?_eq_getElem (by omega)⟩
      obtain ⟨u', hu'⟩ : ∃ u, vs[j]? = some u := ⟨_, List.getElem?_eq_getElem (by omega)⟩
      simp only [hu, hu']
      have l1 := (h2 i u _ hu (List.getElem?_eq_getElem hi)).lt
      have l2 := (h2 j u' _ hu' (List.getElem?_eq_getElem hj)).lt
      cases e1 : u.ownBlock with
      | none =>
        cases e2 : u'.ownBlock with
        | none => exact .inl (Nat.le_refl _)
        | some b => exact .inr (by have := (l2 b e2).2; show b + 1 ≤ w.heap.size; omega)
      | some b =>
        cases e2 : u'.ownBlock with
        | none => exact .inl (by have := (l1 b e1).2; show b + 1 ≤ w.heap.size; omega)
        | some b' =>
          have : b ≠ b' := fun e => h4 i j u u' b hne hu hu' e1 (by rw [e]; exact e2)
          show b + 1 ≤ b' ∨ b' + 1 ≤ b
          omega
end Go.Proofs.Ytgblnkadmieflaa
