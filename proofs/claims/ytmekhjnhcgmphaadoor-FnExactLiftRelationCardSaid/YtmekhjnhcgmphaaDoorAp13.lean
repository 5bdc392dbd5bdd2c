/- Slices whose elements are rows of k cells (structs, slices), in the uniform words; what a mark on one element turns. Plain lemmas of mine. Lists that a call makes by append, each element with memory of its own, in an interval of its own. Plain lemmas of mine. A slice of structs that a loop fills, element by element. Plain lemmas of mine. A slice whose elements are rows of 2 cells or of 1 cell, filled by a loop; owned slices under turns of other memory. Printed by a program of mine. -/
import Derived.Test.YtmekhjnhcgmphaaDoorAp10
import Derived.Lib.SliceRun
import Derived.Deep.AppendLies
namespace Go.Proofs.YtmekhjnhcgmphaaDoor
set_option maxRecDepth 100000
open Go Go.RowKit
/-- How an element of k cells reads, and how it is owned. -/
structure EK (α : Type) where
  k : Nat
  R : World → List Value → α → Prop
  O : World → Nat → Nat → List Value → α → Prop
  tot : α → Int
  mkE : Int → α → α
  rlen : ∀ {w vs x}, R w vs x → vs.length = k
  ex : ∀ {w w' vs x}, R w vs x → Ex w w' → R w' vs x
  rd : ∀ {w a b vs x}, O w a b vs x → R w vs x
  keep : ∀ {w w' : World} {a b vs x}, O w a b vs x → (∀ k, a ≤ k → k < b → k < w.heap.size → w'.heap[k]? = w.heap[k]?) → O w' a b vs x
  nn : ∀ x, 0 ≤ tot x
  tmk : ∀ k x, tot (mkE k x) = tot x
variable {α : Type}
theorem EK.oex (E : EK α) {w w' : World} {a b : Nat} {vs : List Value} {x : α} (h : E.O w a b vs x) (he : Ex w w') : E.O w' a b vs x := E.keep h fun _ _ _ hk => he.block hk
theorem EK.oiv (E : EK α) {w w' : World} {a b a' b' : Nat} {vs : List Value} {x : α} (h : E.O w a b vs x) (k : ExI a' b' w w') (hd : b ≤ a' ∨ b' ≤ a) : E.O w' a b vs x := E.keep h fun i h1 h2 hk => k.block i hk (by omega)
def RdS (E : EK α) (w : World) (A : Option Addr) (xs : List α) : Prop :=
  xs.length ≤ 1099511627776 ∧ ∀ (j : Nat) (x : α), xs[j]? = some x → ∃ g off vs, A = some ⟨g, off, none⟩ ∧ (∀ (i : Nat) (u : Value), vs[i]? = some u → w.cell? ⟨g, off + j * E.k + i, none⟩ = some u) ∧ E.R w vs x
theorem RdS.ex {E : EK α} {w w' : World} {A : Option Addr} {xs : List α} (h : RdS E w A xs) (he : Ex w w') : RdS E w' A xs := ⟨h.1, fun j x hj => by
  obtain ⟨g, off, vs, hA, hc, hr⟩ := h.2 j x hj
  exact ⟨g, off, vs, hA, fun i u hi => cell_ex he (hc i u hi), E.ex hr he⟩⟩
theorem RdS.at_ {E : EK α} {w : World} {A : Option Addr} {xs : List α} (h : RdS E w A xs) {j : Nat} (hj : j < xs.length) :
    ∃ g off vs x, A = some ⟨g, off, none⟩ ∧ xs[j]? = some x ∧ (∀ (i : Nat) (u : Value), vs[i]? = some u → w.cell? ⟨g, off + j * E.k + i, none⟩ = some u) ∧ E.R w vs x := by
  obtain ⟨g, off, vs, hA, hc, hr⟩ := h.2 j _ (List.getElem?_eq_getElem hj)
  exact ⟨g, off, vs, _, hA, List.getElem?_eq_getElem hj, hc, hr⟩
/-- An owned slice: its cells in one block that is not frozen, each element's own memory in an interval of its own. -/
def OwS (E : EK α) (t : TypeId) (w : World) (lo hi : Nat) (A : Option Addr) (xs : List α) : Prop :=
  xs.length ≤ 1099511627776 ∧ ∃ (al bl : Nat → Nat), (∀ (j : Nat) (x : α), xs[j]? = some x → ∃ g off vs cur, A = some ⟨g, off, none⟩ ∧ lo ≤ g ∧ g < hi ∧ w.heap[g]? = some (.cells cur t (0, 0)) ∧
      (∀ (i : Nat) (u : Value), vs[i]? = some u → cur[off + j * E.k + i]? = some u) ∧ E.O w (al j) (bl j) vs x ∧ lo ≤ al j ∧ bl j ≤ hi ∧ (g < al j ∨ bl j ≤ g)) ∧
    ∀ i j, i < xs.length → j < xs.length → i ≠ j → (bl i ≤ al j ∨ bl j ≤ al i)
theorem cell_of_cur {w : World} {g i : Nat} {cur : Array Value} {t : TypeId} {u : Value} (h : w.heap[g]? = some (.cells cur t (0, 0))) (hi : cur[i]? = some u) : w.cell? ⟨g, i, none⟩ = some u := by
  simp [World.cell?, h, hi]
theorem OwS.rd {E : EK α} {t : TypeId} {w : World} {lo hi : Nat} {A : Option Addr} {xs : List α} (h : OwS E t w lo hi A xs) : RdS E w A xs := by
  obtain ⟨hl, al, bl, h1, _⟩ := h
  refine ⟨hl, fun j x hj => ?_⟩
  obtain ⟨g, off, vs, cur, hA, _, _, hh, hc, ho, _⟩ := h1 j x hj
  exact ⟨g, off, vs, hA, fun i u hi => cell_of_cur hh (hc i u hi), E.rd ho⟩
theorem OwS.nil (E : EK α) (t : TypeId) (w : World) (lo hi : Nat) (A : Option Addr) : OwS E t w lo hi A [] := ⟨by simp, fun _ => 0, fun _ => 0, fun j r hj => by simp at hj, fun i j hi => by simp at hi⟩
theorem OwS.more {E : EK α} {t : TypeId} {w : World} {lo hi lo' hi' : Nat} {A : Option Addr} {xs : List α} (h : OwS E t w lo hi A xs) (h1 : lo' ≤ lo) (h2 : hi ≤ hi') : OwS E t w lo' hi' A xs := by
  obtain ⟨hl, al, bl, k1, k2⟩ := h
  refine ⟨hl, al, bl, fun j r hj => ?_, k2⟩
  obtain ⟨g, off, vs, cur, hA, hg1, hg2, hh, hc, ho, ha, hb, hd⟩ := k1 j r hj
  exact ⟨g, off, vs, cur, hA, by omega, by omega, hh, hc, ho, by omega, by omega, hd⟩
theorem OwS.ex {E : EK α} {t : TypeId} {w w' : World} {lo hi : Nat} {A : Option Addr} {xs : List α} (h : OwS E t w lo hi A xs) (he : Ex w w') : OwS E t w' lo hi A xs := by
  obtain ⟨hl, al, bl, k1, k2⟩ := h
  refine ⟨hl, al, bl, fun j r hj => ?_, k2⟩
  obtain ⟨g, off, vs, cur, hA, hg1, hg2, hh, hc, ho, hr⟩ := k1 j r hj
  exact ⟨g, off, vs, cur, hA, hg1, hg2, (he.block (heap_lt_of hh)).trans hh, hc, E.oex ho he, hr⟩
theorem OwS.iv {E : EK α} {t : TypeId} {w w' : World} {lo hi a b : Nat} {A : Option Addr} {xs : List α} (h : OwS E t w lo hi A xs) (k : ExI a b w w') (hd : hi ≤ a ∨ b ≤ lo) : OwS E t w' lo hi A xs := by
  obtain ⟨hl, al, bl, k1, k2⟩ := h
  refine ⟨hl, al, bl, fun j r hj => ?_, k2⟩
  obtain ⟨g, off, vs, cur, hA, hg1, hg2, hh, hc, ho, ha, hb, hd'⟩ := k1 j r hj
  exact ⟨g, off, vs, cur, hA, hg1, hg2, (k.block g (heap_lt_of hh) (by omega)).trans hh, hc, E.oiv ho k (by omega), ha, hb, hd'⟩
/-- Of the old memory at most block g's cells from s on and below e, and the blocks from a on and below b, have turned. -/
structure TurnS (g s e a b : Nat) (t : TypeId) (w w' : World) : Prop where
  os : w'.os = w.os
  tape : w'.tape = w.tape
  output : w'.output = w.output
  size : w.heap.size ≤ w'.heap.size
  block : ∀ k, k < w.heap.size → k ≠ g → (k < a ∨ b ≤ k) → w'.heap[k]? = w.heap[k]?
  row : ∀ cur, w.heap[g]? = some (.cells cur t (0, 0)) → ∃ cur' : Array Value, w'.heap[g]? = some (.cells cur' t (0, 0)) ∧ ∀ q, (q < s ∨ e ≤ q) → cur'[q]? = cur[q]?
theorem TurnS.refl (g s e a b : Nat) (t : TypeId) (w : World) : TurnS g s e a b t w w := ⟨rfl, rfl, rfl, Nat.le_refl _, fun _ _ _ _ => rfl, fun cur h => ⟨cur, h, fun _ _ => rfl⟩⟩
theorem TurnS.set {g s e a b : Nat} {t : TypeId} {v w : World} (h : TurnS g s e a b t v w) {o : Nat} (hs : s ≤ o) (he : o < e) (u : Value) : TurnS g s e a b t v (w.setCell ⟨g, o, none⟩ u) := by
  have hb := Below.heap_setCell w ⟨g, o, none⟩ u
  refine ⟨h.os, h.tape, h.output, by simpa [World.setCell] using h.size, fun k hk hn hd => (hb k (fun e => hn (e ▸ rfl))).trans (h.block k hk hn hd), fun cur hc => ?_⟩
  obtain ⟨cur', h1, h2⟩ := h.row cur hc
  refine ⟨cur'.setIfInBounds o u, by simp [World.setCell, Array.getElem?_modify, h1], fun q hq => ?_⟩
  rw [Array.getElem?_setIfInBounds, if_neg (by omega)]
  exact h2 q hq
theorem TurnS.iv {g s e a b a' b' : Nat} {t : TypeId} {v w w' : World} (h : TurnS g s e a b t v w) (k : ExI a' b' w w') (ha : a ≤ a') (hb : b' ≤ b) (hg : g < a ∨ b ≤ g) (_ : g < v.heap.size) : TurnS g s e a b t v w' :=
  ⟨k.os.trans h.os, k.tape.trans h.tape, k.output.trans h.output, Nat.le_trans h.size k.size, fun i hi hn hd => (k.block i (Nat.lt_of_lt_of_le hi h.size) (by omega)).trans (h.block i hi hn hd), fun cur hc => by
    obtain ⟨cur', h1, h2⟩ := h.row cur hc
    exact ⟨cur', (k.block g (heap_lt_of h1) (by omega)).trans h1, h2⟩⟩
theorem TurnS.exi {g s e a b lo hi : Nat} {t : TypeId} {v w : World} (h : TurnS g s e a b t v w) (h1 : lo ≤ g) (h2 : g < hi) (h3 : lo ≤ a) (h4 : b ≤ hi) : ExI lo hi v w :=
  ⟨h.os, h.tape, h.output, h.size, fun k hk hd => h.block k hk (by omega) (by omega)⟩
/-- One element, turned in place. -/
theorem OwS.row {E : EK α} {t : TypeId} {w : World} {lo hi : Nat} {A : Option Addr} {xs : List α} (h : OwS E t w lo hi A xs) {i : Nat} {x : α} (hi' : xs[i]? = some x) :
    ∃ g off vs a b cur, A = some ⟨g, off, none⟩ ∧ w.heap[g]? = some (.cells cur t (0, 0)) ∧ (∀ (q : Nat) (u : Value), vs[q]? = some u → w.cell? ⟨g, off + i * E.k + q, none⟩ = some u) ∧ E.O w a b vs x ∧ lo ≤ g ∧ g < hi ∧ lo ≤ a ∧ b ≤ hi ∧ (g < a ∨ b ≤ g) ∧
      ∀ w' vs' x', TurnS g (off + i * E.k) (off + i * E.k + E.k) a b t w w' → (∀ (q : Nat) (u : Value), vs'[q]? = some u → w'.cell? ⟨g, off + i * E.k + q, none⟩ = some u) → E.O w' a b vs' x' → OwS E t w' lo hi A (xs.set i x') := by
  obtain ⟨hl, al, bl, k1, k2⟩ := h
  have hlt := (List.getElem?_eq_some_iff.1 hi').1
  obtain ⟨g, off, vs, cur, hA, hg1, hg2, hh, hc, ho, ha, hb, hd⟩ := k1 i x hi'
  refine ⟨g, off, vs, al i, bl i, cur, hA, hh, fun q u hq => cell_of_cur hh (hc q u hq), ho, hg1, hg2, ha, hb, hd, fun w' vs' x' T hc' ho' => ⟨by simpa using hl, al, bl, fun j y hj => ?_, by simpa using k2⟩⟩
  obtain ⟨cur', hh', hsame⟩ := T.row cur hh
  rw [List.getElem?_set] at hj
  split at hj
  · rename_i e
    subst e
    injection hj with hj
    subst hj
    refine ⟨g, off, vs', cur', hA, hg1, hg2, hh', fun q u hq => ?_, ho', ha, hb, hd⟩
    have := hc' q u hq
    simpa [World.cell?, hh'] using this
  · rename_i e
    have hjl := (List.getElem?_eq_some_iff.1 hj).1
    obtain ⟨g2, off2, vs2, cur2, hA2, _, _, hh2, hc2, ho2, ha2, hb2, hd2⟩ := k1 j y hj
    rw [hA] at hA2
    injection hA2 with hA2
    injection hA2 with e1 e2 _
    subst e1 e2
    rw [hh] at hh2
    injection hh2 with hh2
    injection hh2 with hh2 _ _
    subst hh2
    have hlen := E.rlen (E.rd ho2)
    refine ⟨g, off, vs2, cur', hA, hg1, hg2, hh', fun q u hq => ?_, ?_, ha2, hb2, hd2⟩
    · have hql : q < E.k := by rw [← hlen]; exact (List.getElem?_eq_some_iff.1 hq).1
      rw [hsame _ ?_]
      · exact hc2 q u hq
      · rcases Nat.lt_or_gt_of_ne e with h | h
        · right
          have := Nat.mul_le_mul_right E.k (show i + 1 ≤ j from h)
          rw [Nat.add_mul, Nat.one_mul] at this
          omega
        · left
          have := Nat.mul_le_mul_right E.k (show j + 1 ≤ i from h)
          rw [Nat.add_mul, Nat.one_mul] at this
          omega
    · have hdis := k2 i j hlt hjl e
      exact E.keep ho2 fun k hk1 hk2 hk => T.block k hk (by omega) (by omega)
/-- The slices as values. -/
def totS (E : EK α) (xs : List α) : Int := (xs.map E.tot).sum
def mkS (E : EK α) : Int → List α → List α
  | _, [] => []
  | k, x :: xs => E.mkE k x :: mkS E (k + E.tot x) xs
theorem totS_cons (E : EK α) (x : α) (xs : List α) : totS E (x :: xs) = E.tot x + totS E xs := by simp [totS]
theorem totS_nn (E : EK α) : ∀ xs : List α, 0 ≤ totS E xs
  | [] => by simp [totS]
  | x :: xs => by rw [totS_cons]; have := E.nn x; have := totS_nn E xs; omega
theorem mkS_len (E : EK α) : ∀ (k : Int) (xs : List α), (mkS E k xs).length = xs.length
  | _, [] => rfl
  | k, x :: xs => by rw [mkS, List.length_cons, mkS_len, List.length_cons]
theorem totS_mk (E : EK α) : ∀ (k : Int) (xs : List α), totS E (mkS E k xs) = totS E xs
  | _, [] => rfl
  | k, x :: xs => by rw [mkS, totS_cons, totS_cons, totS_mk, E.tmk]
theorem totS_take_succ (E : EK α) {xs : List α} {j : Nat} {x : α} (h : xs[j]? = some x) : totS E (xs.take (j + 1)) = totS E (xs.take j) + E.tot x := by
  rw [List.take_add_one, h]
  simp [totS]
theorem totS_take_le (E : EK α) (xs : List α) (j : Nat) : totS E (xs.take j) ≤ totS E xs := by
  have h := List.take_append_drop j xs
  have : totS E xs = totS E (xs.take j) + totS E (xs.drop j) := by
    conv => lhs; rw [← h]
    simp only [totS, List.map_append, List.sum_append]
  have := totS_nn E (xs.drop j)
  omega
theorem mkS_at (E : EK α) : ∀ (k : Int) (xs : List α) (j : Nat) (x : α), xs[j]? = some x → (mkS E k xs)[j]? = some (E.mkE (k + totS E (xs.take j)) x)
  | k, y :: xs, 0, x, h => by simp at h; subst h; simp [mkS, totS]
  | k, y :: xs, j + 1, x, h => by
    rw [mkS, List.getElem?_cons_succ, mkS_at E _ xs j x (by simpa using h), List.take_succ_cons, totS_cons]
    congr 2
    omega
theorem mkS_step (E : EK α) (k : Int) (xs : List α) (j : Nat) (x : α) (h : xs[j]? = some x) :
    ((mkS E k xs).take j ++ xs.drop j).set j (E.mkE (k + totS E (xs.take j)) x) = (mkS E k xs).take (j + 1) ++ xs.drop (j + 1) := by
  have hlt := (List.getElem?_eq_some_iff.1 h).1
  have hl : ((mkS E k xs).take j).length = j := by rw [List.length_take, mkS_len]; omega
  rw [List.set_append_right _ _ (by omega), hl, Nat.sub_self, List.drop_eq_getElem_cons hlt, List.set_cons_zero, List.take_add_one, mkS_at E k xs j x h, List.append_assoc]
  rfl
def RS (E : EK α) (w : World) (v : Value) (xs : List α) : Prop := (∃ A c, v = .slice A xs.length c ∧ RdS E w A xs) ∧ totS E xs ≤ 1125899906842624
theorem RS.ex {E : EK α} {w w' : World} {v : Value} {xs : List α} (h : RS E w v xs) (he : Ex w w') : RS E w' v xs := by
  obtain ⟨⟨A, c, e, r⟩, t⟩ := h
  exact ⟨⟨A, c, e, r.ex he⟩, t⟩
theorem RS.form {E : EK α} {w : World} {v : Value} {xs : List α} (h : RS E w v xs) : ∃ A n c, v = .slice A n c := by
  obtain ⟨⟨A, c, e, r⟩, _⟩ := h
  exact ⟨A, _, c, e⟩
theorem RS.tot {E : EK α} {w : World} {v : Value} {xs : List α} (h : RS E w v xs) : totS E xs ≤ 1125899906842624 := h.2
def OS (E : EK α) (t : TypeId) (w : World) (a b : Nat) (v : Value) (xs : List α) : Prop := (∃ A c, v = .slice A xs.length c ∧ OwS E t w a b A xs) ∧ totS E xs ≤ 1125899906842624
theorem OS.rd {E : EK α} {t : TypeId} {w : World} {a b : Nat} {v : Value} {xs : List α} (h : OS E t w a b v xs) : RS E w v xs := by
  obtain ⟨⟨A, c, e, r⟩, q⟩ := h
  exact ⟨⟨A, c, e, r.rd⟩, q⟩
theorem OS.ex {E : EK α} {t : TypeId} {w w' : World} {a b : Nat} {v : Value} {xs : List α} (h : OS E t w a b v xs) (he : Ex w w') : OS E t w' a b v xs := by
  obtain ⟨⟨A, c, e, r⟩, q⟩ := h
  exact ⟨⟨A, c, e, r.ex he⟩, q⟩
theorem OS.iv {E : EK α} {t : TypeId} {w w' : World} {a b a' b' : Nat} {v : Value} {xs : List α} (h : OS E t w a b v xs) (k : ExI a' b' w w') (hd : b ≤ a' ∨ b' ≤ a) : OS E t w' a b v xs := by
  obtain ⟨⟨A, c, e, r⟩, q⟩ := h
  exact ⟨⟨A, c, e, r.iv k hd⟩, q⟩
theorem OS.e1 {E : EK α} {t : TypeId} {w w' : World} {a b g : Nat} {v : Value} {xs : List α} (h : OS E t w a b v xs) (k : Ex1 g w w') (hd : g < a ∨ b ≤ g) : OS E t w' a b v xs := h.iv (ExI.of_ex1 k) (by omega)
theorem OS.more {E : EK α} {t : TypeId} {w : World} {a b a' b' : Nat} {v : Value} {xs : List α} (h : OS E t w a b v xs) (ha : a' ≤ a) (hb : b ≤ b') : OS E t w a' b' v xs := by
  obtain ⟨⟨A, c, e, r⟩, q⟩ := h
  exact ⟨⟨A, c, e, r.more ha hb⟩, q⟩
theorem OI.keep {w w' : World} {a b : Nat} {v : Value} {xs : List Int} (h : OI w a b v xs) (hk : ∀ k, a ≤ k → k < b → k < w.heap.size → w'.heap[k]? = w.heap[k]?) : OI w' a b v xs := by
  obtain ⟨A, c, e, f⟩ := h
  have hk' : ∀ ad : Addr, A = some ad → ad.block < w.heap.size → w'.heap[ad.block]? = w.heap[ad.block]? := fun ad e hl => hk _ (f.fr.hi ad e) (f.lo ad e) hl
  exact ⟨A, c, e, ⟨⟨f.fr.rd.keep hk', f.fr.cap, fun ad e => by
    obtain ⟨h1, cur, h2⟩ := f.fr.2.2 ad e
    exact ⟨h1, cur, (hk' ad e (heap_lt_of h2)).trans h2⟩⟩, f.lo⟩⟩
/-- Cells of rows laid one behind the other. -/
theorem flatten_len {k : Nat} : ∀ {us : List (List Value)}, (∀ u ∈ us, u.length = k) → us.flatten.length = us.length * k
  | [], _ => by simp
  | u :: us, h => by
    rw [List.flatten_cons, List.length_append, flatten_len (fun v hv => h v (by simp [hv])), h u (by simp), List.length_cons, Nat.add_mul, Nat.one_mul]
    omega
theorem flatten_at {k : Nat} : ∀ {us : List (List Value)}, (∀ u ∈ us, u.length = k) → ∀ {j : Nat} {vs : List Value}, us[j]? = some vs → ∀ {i : Nat} {u : Value}, vs[i]? = some u → us.flatten[j * k + i]? = some u
  | [], _, j, vs, hj, _, _, _ => by simp at hj
  | v :: us, h, 0, vs, hj, i, u, hu => by
    simp at hj
    subst hj
    have hl : i < v.length := (List.getElem?_eq_some_iff.1 hu).1
    rw [List.flatten_cons, Nat.zero_mul, Nat.zero_add, List.getElem?_append_left hl, hu]
  | v :: us, h, j + 1, vs, hj, i, u, hu => by
    have hv := h v (by simp)
    rw [List.flatten_cons, List.getElem?_append_right (by rw [hv, Nat.add_mul, Nat.one_mul]; omega), hv, show (j + 1) * k + i - k = j * k + i by rw [Nat.add_mul, Nat.one_mul]; omega]
    exact flatten_at (fun x hx => h x (by simp [hx])) (by simpa using hj) hu
end Go.Proofs.YtmekhjnhcgmphaaDoor
namespace Go.Proofs.YtmekhjnhcgmphaaDoor
set_option maxRecDepth 100000
open Go Go.RowKit
/-- How an element of k cells is owned. -/
structure EL (α : Type) where
  k : Nat
  O : World → Nat → Nat → List Value → α → Prop
  rlen : ∀ {w a b vs x}, O w a b vs x → vs.length = k
  keep : ∀ {w w' : World} {a b vs x}, O w a b vs x → (∀ k, a ≤ k → k < b → k < w.heap.size → w'.heap[k]? = w.heap[k]?) → O w' a b vs x
  one : ∀ {w a b vs x}, O w a b vs x → ∀ u ∈ vs, u.oneCell' = true
variable {α : Type}
theorem EL.oex (E : EL α) {w w' : World} {a b : Nat} {vs : List Value} {x : α} (h : E.O w a b vs x) (he : Ex w w') : E.O w' a b vs x := E.keep h fun _ _ _ hk => he.block hk
theorem EL.grown (E : EL α) {w w' : World} {a b : Nat} {vs : List Value} {x : α} {o : Option Nat} (h : E.O w a b vs x) (he : w.grownBy w' o) (hd : ∀ k, o = some k → k < a ∨ b ≤ k) : E.O w' a b vs x :=
  E.keep h fun k h1 h2 hk => he.block k hk (fun e => by have := hd k e.symm; omega)
theorem ownsRow_keep {w w' : World} {B n s : Nat} {t : TypeId} {v : Value} {xs : List Value} (h : w.ownsRow B t s v n xs) (he : ∀ k, v.ownBlock = some k → k < w.heap.size → w'.heap[k]? = w.heap[k]?) : w'.ownsRow B t s v n xs := by
  obtain ⟨h1, h2⟩ := h
  refine ⟨h1, ?_⟩
  rcases h2 with h2 | ⟨g, cap, cur, hv, hB, hh, r⟩
  · exact .inl h2
  · exact .inr ⟨g, cap, cur, hv, hB, (he g (by rw [hv]; rfl) (heap_lt_of hh)).trans hh, r⟩
/-- v lists xs: its block and all that the elements own lie from B on and below H. -/
def GE (E : EL α) (t : TypeId) (w : World) (B H : Nat) (v : Value) (xs : List α) : Prop :=
  (∀ k, v.ownBlock = some k → B ≤ k ∧ k < H) ∧ ∃ (us : List (List Value)) (al bl : Nat → Nat), us.length = xs.length ∧ w.ownsRow B t E.k v xs.length us.flatten ∧
    (∀ (j : Nat) (x : α), xs[j]? = some x → ∃ u, us[j]? = some u ∧ E.O w (al j) (bl j) u x ∧ B ≤ al j ∧ bl j ≤ H ∧ ∀ k, v.ownBlock = some k → k < al j ∨ bl j ≤ k) ∧
    ∀ i j, i < xs.length → j < xs.length → i ≠ j → (bl i ≤ al j ∨ bl j ≤ al i)
theorem GE.nil (E : EL α) (t : TypeId) (w : World) (B H : Nat) : GE E t w B H (.slice none 0 0) [] :=
  ⟨(fun k e => by cases e), [], fun _ => 0, fun _ => 0, rfl, World.ownsRow_nil w B _ _, (fun j r hj => by simp at hj), (fun i j hi => by simp at hi)⟩
theorem GE.empty (E : EL α) (t : TypeId) (w : World) {B : Nat} (hB : B ≤ w.heap.size) : GE E t (w.alloc (.cells #[] t)) B (w.heap.size + 1) (.slice (some ⟨w.heap.size, 0, none⟩) 0 0) [] := by
  have ho : (w.alloc (.cells #[] t)).ownsRow B t E.k (.slice (some ⟨w.heap.size, 0, none⟩) 0 0) 0 [] := ⟨by simp, .inr ⟨w.heap.size, 0, #[], rfl, hB, heap_alloc_new w _, Nat.le_refl _, Nat.zero_le _, by simp, by simp⟩⟩
  exact ⟨fun k e => by injection e with e; subst e; exact ⟨hB, Nat.lt_succ_self _⟩, [], fun _ => 0, fun _ => 0, rfl, ho, (fun j r hj => by simp at hj), (fun i j hi => by simp at hi)⟩
theorem GE.keep {E : EL α} {t : TypeId} {w w' : World} {B H : Nat} {v : Value} {xs : List α} (h : GE E t w B H v xs) (hk : ∀ k, B ≤ k → k < H → k < w.heap.size → w'.heap[k]? = w.heap[k]?) : GE E t w' B H v xs := by
  obtain ⟨hown, us, al, bl, hl, ho, h1, h2⟩ := h
  refine ⟨hown, us, al, bl, hl, ownsRow_keep ho fun k e hk' => hk k (hown k e).1 (hown k e).2 hk', fun j x hj => ?_, h2⟩
  obtain ⟨u, q1, q2, q3, q4, q5⟩ := h1 j x hj
  exact ⟨u, q1, E.keep q2 fun k a1 a2 a3 => hk k (by omega) (by omega) a3, q3, q4, q5⟩
theorem GE.ex {E : EL α} {t : TypeId} {w w' : World} {B H : Nat} {v : Value} {xs : List α} (h : GE E t w B H v xs) (he : Ex w w') : GE E t w' B H v xs := h.keep fun _ _ _ hk => he.block hk
theorem GE.iv {E : EL α} {t : TypeId} {w w' : World} {B H a b : Nat} {v : Value} {xs : List α} (h : GE E t w B H v xs) (he : ExI a b w w') (hd : H ≤ a ∨ b ≤ B) : GE E t w' B H v xs := h.keep fun k h1 h2 hk => he.block k hk (by omega)
theorem GE.more {E : EL α} {t : TypeId} {w : World} {B B' H H' : Nat} {v : Value} {xs : List α} (h : GE E t w B H v xs) (hB : B' ≤ B) (hH : H ≤ H') : GE E t w B' H' v xs := by
  obtain ⟨hown, us, al, bl, hl, ho, h1, h2⟩ := h
  refine ⟨fun k e => by have := hown k e; omega, us, al, bl, hl, ⟨ho.1, ?_⟩, fun j x hj => ?_, h2⟩
  · rcases ho.2 with h5 | ⟨g, cap, cur, hv, hg, r⟩
    · exact .inl h5
    · exact .inr ⟨g, cap, cur, hv, by omega, r⟩
  · obtain ⟨u, q1, q2, q3, q4, q5⟩ := h1 j x hj
    exact ⟨u, q1, q2, by omega, by omega, q5⟩
theorem GE.own {E : EL α} {t : TypeId} {w : World} {B H : Nat} {v : Value} {xs : List α} (h : GE E t w B H v xs) : ∀ k, v.ownBlock = some k → B ≤ k ∧ k < H := h.1
theorem GE.form {E : EL α} {t : TypeId} {w : World} {B H : Nat} {v : Value} {xs : List α} (h : GE E t w B H v xs) (hv : v ≠ .slice none 0 0) : ∃ g c, v = .slice (some ⟨g, 0, none⟩) xs.length c ∧ xs.length ≤ c ∧ c ≤ 9223372036854775807 := by
  obtain ⟨_, us, al, bl, hl, ho, _⟩ := h
  rcases ho.2 with ⟨e, _⟩ | ⟨g, cap, cur, e, _, _, h1, h2, _⟩
  · exact absurd e hv
  · exact ⟨g, cap, e, h1, h2⟩
theorem GE.nilv {E : EL α} {t : TypeId} {w : World} {B H : Nat} {v : Value} {xs : List α} (h : GE E t w B H v xs) : ∃ A c, v = .slice A xs.length c := by
  obtain ⟨_, us, al, bl, hl, ho, _⟩ := h
  rcases ho.2 with ⟨e, hn⟩ | ⟨g, cap, cur, e, _, _, h1, h2, _⟩
  · exact ⟨none, 0, by rw [e, hn]⟩
  · exact ⟨_, cap, e⟩
theorem GE.at_ {E : EL α} {t : TypeId} {w : World} {B H g n c : Nat} {xs : List α} (h : GE E t w B H (.slice (some ⟨g, 0, none⟩) n c) xs) :
    ∃ (cur : Array Value) (al bl : Nat → Nat), n = xs.length ∧ B ≤ g ∧ g < H ∧ w.heap[g]? = some (.cells cur t (0, 0)) ∧
      (∀ (j : Nat) (x : α), xs[j]? = some x → ∃ u, (∀ (i : Nat) (y : Value), u[i]? = some y → cur[j * E.k + i]? = some y) ∧ E.O w (al j) (bl j) u x ∧ B ≤ al j ∧ bl j ≤ H ∧ (g < al j ∨ bl j ≤ g)) ∧
      ∀ i j, i < xs.length → j < xs.length → i ≠ j → (bl i ≤ al j ∨ bl j ≤ al i) := by
  obtain ⟨hown, us, al, bl, hl, ho, h1, h2⟩ := h
  rcases ho.2 with ⟨e, _⟩ | ⟨g', cap, cur, e, hB, hh, hnc, hcm, hsz, ht⟩
  · cases e
  · injection e with e1 e2 e3
    injection e1 with e1
    injection e1 with e1 _ _
    subst e1
    refine ⟨cur, al, bl, e2, (hown _ rfl).1, (hown _ rfl).2, hh, fun j x hj => ?_, h2⟩
    obtain ⟨u, q1, q2, q3, q4, q5⟩ := h1 j x hj
    refine ⟨u, fun i y hy => ?_, q2, q3, q4, q5 _ rfl⟩
    have hlen : ∀ u ∈ us, u.length = E.k := fun u hu => by
      obtain ⟨j', hj'⟩ := List.getElem?_of_mem hu
      have hl' := (List.getElem?_eq_some_iff.1 hj').1
      obtain ⟨u2, r1, r2, _⟩ := h1 j' _ (List.getElem?_eq_getElem (by omega))
      rw [hj'] at r1
      injection r1 with r1
      subst r1
      exact E.rlen r2
    have hf : us.flatten[j * E.k + i]? = some y := flatten_at hlen q1 hy
    rw [← ht, List.getElem?_take] at hf
    split at hf
    · simpa using hf
    · cases hf
theorem GE.push (E : EL α) {t tS : TypeId} (ht : Tryd.prog.underlying tS = some (.slice t)) {i : TypeInfo} {z : Value} {bytes : Nat} (hi : Tryd.prog.info? t = some i) (hz : i.zero = some z) (hs : i.size = E.k) (hby : i.bytes = bytes) (hzs : z.cells.size = E.k) (hk : 0 < E.k) (hb64 : bytes ≤ 64)
    {w : World} {B H : Nat} {v : Value} {xs : List α} (h : GE E t w B H v xs) (hH : H ≤ w.heap.size) {u : List Value} {x : α} {a b : Nat} (hu : E.O w a b u x) (ha : H ≤ a) (_ : a ≤ b) (hb : b ≤ w.heap.size) (hB : B ≤ H) (hl : xs.length + 1 ≤ 1099511627776) :
    ∃ v' w', (Builtin.append_ #[tS, tS] tS #[v, .slice (some ⟨w.heap.size, 0, none⟩) 1 1]).run Tryd.prog (w.alloc (.cells u.toArray t)) = .ok v' w' ∧
      GE E t w' B w'.heap.size v' (xs ++ [x]) ∧ ExO v.ownBlock w w' ∧ (v'.ownBlock = v.ownBlock ∨ v'.ownBlock = some (w.heap.size + 1)) ∧ v' ≠ .slice none 0 0 ∧ ∀ b', Ex b' w → b'.heap.size ≤ B → Ex b' w' := by
  obtain ⟨hown, us, al, bl, hul, ho, h1, h2⟩ := h
  have hx := (Ex.refl w).alloc (.cells u.toArray t)
  have hsz : (w.alloc (.cells u.toArray t)).heap.size = w.heap.size + 1 := by simp
  have hrl := E.rlen hu
  obtain ⟨v', w', hrun, hown', hg, hnn, hob⟩ := run_append_own_at (P := Tryd.prog) (w.alloc (.cells u.toArray t)) B tS tS t i z E.k bytes ht hi hz hs hby hzs hk v xs.length _ (ownsRow_keep ho fun k e hk => hx.block hk) ⟨w.heap.size, 0, none⟩ 1 1 u (by rw [hrl, Nat.one_mul])
    (fun j y hj => World.news_of_block (heap_alloc_new w _) j y (by simpa using hj)) (E.one hu) (by unfold maxLen; omega) (by
      have := Nat.mul_le_mul (show xs.length + 1 ≤ 1099511627776 from hl) hb64
      omega) (by omega)
  have hsz2 := hg.size
  rw [hsz] at hob
  have hown2 : ∀ k, v'.ownBlock = some k → B ≤ k ∧ k < w'.heap.size := World.ownsRow.lt hown'
  refine ⟨v', w', hrun, ⟨hown2, us ++ [u], (fun j => if j = xs.length then a else al j), (fun j => if j = xs.length then b else bl j), by simp [hul], ?_, ?_, ?_⟩, (ExO.of_ex hx).trans hg, hob, fun e => by have := (hnn.1 e).2; omega, ?_⟩
  · rw [List.length_append, List.flatten_append]; simpa using hown'
  · intro j q hj
    by_cases e : j = xs.length
    · subst e
      rw [List.getElem?_append_right (Nat.le_refl _), Nat.sub_self] at hj
      injection hj with hj
      subst hj
      refine ⟨u, by rw [List.getElem?_append_right (by omega), hul, Nat.sub_self]; rfl, ?_, ?_, ?_, ?_⟩
      · simp only [if_pos]
        exact E.grown (E.oex hu hx) hg fun k e => .inl (by have := hown k e; omega)
      · simp only [if_pos]; omega
      · simp only [if_pos]; omega
      · intro k e
        simp only [if_pos]
        rcases hob with e2 | e2
        · exact .inl (by have := hown k (e2 ▸ e); omega)
        · rw [e2] at e; injection e with e; exact .inr (by omega)
    · have hjl : j < xs.length := by have := (List.getElem?_eq_some_iff.1 hj).1; rw [List.length_append] at this; simp at this; omega
      rw [List.getElem?_append_left hjl] at hj
      obtain ⟨u2, q1, q2, q3, q4, q5⟩ := h1 j q hj
      refine ⟨u2, by rw [List.getElem?_append_left (by omega)]; exact q1, ?_, ?_, ?_, ?_⟩
      · simp only [if_neg e]
        exact E.grown (E.oex q2 hx) hg q5
      · simp only [if_neg e]; exact q3
      · simp only [if_neg e]; omega
      · intro k e2
        simp only [if_neg e]
        rcases hob with e3 | e3
        · exact q5 k (e3 ▸ e2)
        · rw [e3] at e2; injection e2 with e2; exact .inr (by omega)
  · intro i j hi' hj' hne
    simp only [List.length_append, List.length_cons, List.length_nil] at hi' hj'
    by_cases ei : i = xs.length
    · have ej : j ≠ xs.length := by omega
      have hjl : j < xs.length := by omega
      obtain ⟨_, _, _, _, q4, _⟩ := h1 j _ (List.getElem?_eq_getElem hjl)
      simp only [if_pos ei, if_neg ej]
      exact .inr (by omega)
    · have hil : i < xs.length := by omega
      obtain ⟨_, _, _, _, q4, _⟩ := h1 i _ (List.getElem?_eq_getElem hil)
      by_cases ej : j = xs.length
      · simp only [if_neg ei, if_pos ej]
        exact .inl (by omega)
      · simp only [if_neg ei, if_neg ej]
        exact h2 i j hil (by omega) hne
  · intro b' hb' hbB
    exact (hb'.trans hx).exo hg (fun g e => by have := (hown g e).1; omega)
end Go.Proofs.YtmekhjnhcgmphaaDoor
namespace Go.Proofs.YtmekhjnhcgmphaaDoor
set_option maxRecDepth 100000
open Go Go.RowKit
variable {α : Type}
/-- The first k elements of xs lie in block g, the others are zero; each element's own memory lies behind that of the one before. -/
def Mk (E : EK α) (t : TypeId) (z : List Value) (w : World) (g : Nat) (xs : List α) (k : Nat) : Prop :=
  ∃ (us : List (List Value)) (al bl : Nat → Nat), us.length = k ∧ (∀ u ∈ us, u.length = E.k) ∧ VB w g t ((us ++ List.replicate (xs.length - k) z).flatten).toArray ∧ (∀ j, j < k → g < al j ∧ bl j ≤ w.heap.size) ∧ (∀ i j, i < j → j < k → bl i ≤ al j) ∧
    ∀ j x vs, xs[j]? = some x → us[j]? = some vs → E.O w (al j) (bl j) vs x
theorem Mk.start {E : EK α} {t : TypeId} {z : List Value} {w : World} {g : Nat} {xs : List α} (h : VB w g t ((List.replicate xs.length z).flatten).toArray) : Mk E t z w g xs 0 :=
  ⟨[], fun _ => 0, fun _ => 0, rfl, by simp, by simpa using h, fun j hj => by omega, fun i j _ hj => by omega, fun j x vs _ h => by simp at h⟩
theorem Mk.ex {E : EK α} {t : TypeId} {z : List Value} {w w' : World} {g k : Nat} {xs : List α} (h : Mk E t z w g xs k) (he : Ex w w') : Mk E t z w' g xs k := by
  obtain ⟨us, al, bl, h1, h2, h3, h4, h5, h6⟩ := h
  exact ⟨us, al, bl, h1, h2, h3.ex he, fun j hj => ⟨(h4 j hj).1, Nat.le_trans (h4 j hj).2 he.size⟩, h5, fun j x vs hj hu => E.oex (h6 j x vs hj hu) he⟩
theorem Mk.lt {E : EK α} {t : TypeId} {z : List Value} {w : World} {g k : Nat} {xs : List α} (h : Mk E t z w g xs k) : g < w.heap.size := by
  obtain ⟨us, al, bl, h1, h2, h3, _⟩ := h
  exact h3.lt
theorem Mk.frozen {E : EK α} {t : TypeId} {z : List Value} {w : World} {g k : Nat} {xs : List α} (h : Mk E t z w g xs k) (i : Nat) : w.frozen? ⟨g, i, none⟩ = false := by
  obtain ⟨us, al, bl, h1, h2, h3, _⟩ := h
  exact h3.frozen i
theorem Mk.zero {E : EK α} {t : TypeId} {z : List Value} {w : World} {g k : Nat} {xs : List α} (h : Mk E t z w g xs k) (hk : k < xs.length) {q : Nat} {u : Value} (hq : z[q]? = some u) : w.cell? ⟨g, k * E.k + q, none⟩ = some u := by
  obtain ⟨us, al, bl, h1, h2, h3, _⟩ := h
  have hf : us.flatten.length = k * E.k := by rw [flatten_len h2, h1]
  rw [show xs.length - k = (xs.length - (k + 1)) + 1 by omega, List.replicate_succ] at h3
  refine h3.cell (k * E.k + q) ?_
  have hql := (List.getElem?_eq_some_iff.1 hq).1
  rw [List.getElem?_toArray, List.flatten_append, List.getElem?_append_right (by rw [hf]; omega), hf, show k * E.k + q - k * E.k = q by omega, List.flatten_cons, List.getElem?_append_left hql, hq]
end Go.Proofs.YtmekhjnhcgmphaaDoor
namespace Go.Proofs.YtmekhjnhcgmphaaDoor
set_option maxRecDepth 100000
open Go Go.RowKit
variable {α : Type}
theorem OwS.keep {E : EK α} {t : TypeId} {w w' : World} {lo hi : Nat} {A : Option Addr} {xs : List α} (h : OwS E t w lo hi A xs) (hk : ∀ k, lo ≤ k → k < hi → k < w.heap.size → w'.heap[k]? = w.heap[k]?) : OwS E t w' lo hi A xs := by
  obtain ⟨hl, al, bl, k1, k2⟩ := h
  refine ⟨hl, al, bl, fun j r hj => ?_, k2⟩
  obtain ⟨g, off, vs, cur, hA, hg1, hg2, hh, hc, ho, ha, hb, hd'⟩ := k1 j r hj
  exact ⟨g, off, vs, cur, hA, hg1, hg2, (hk g hg1 hg2 (heap_lt_of hh)).trans hh, hc, E.keep ho (fun k h1 h2 h3 => hk k (by omega) (by omega) h3), ha, hb, hd'⟩
theorem OS.keep {E : EK α} {t : TypeId} {w w' : World} {a b : Nat} {v : Value} {xs : List α} (h : OS E t w a b v xs) (hk : ∀ k, a ≤ k → k < b → k < w.heap.size → w'.heap[k]? = w.heap[k]?) : OS E t w' a b v xs := by
  obtain ⟨⟨A, c, e, r⟩, q⟩ := h
  exact ⟨⟨A, c, e, r.keep hk⟩, q⟩
end Go.Proofs.YtmekhjnhcgmphaaDoor
