/- Slices whose elements are rows of k cells (structs, slices), in the uniform words; what a mark on one element turns. Plain lemmas of mine. -/
import Derived.Test.YtmekhjnhcgmphaaDoorU
namespace Go.Proofs.YtmekhjnhcgmphaaDoor
set_option maxRecDepth 100000
open Go Go.RowKit
/-- How an element of k cells reads, and how it is owned. -/
structure EK (α : Type) where
  k : Nat
  R : World → List Value → α → Prop
  O : World → Nat → Nat → List Value → α → Prop
  tot : α → Int
  mkE : Int → α → α
  rlen : ∀ {w vs x}, R w vs x → vs.length = k
  ex : ∀ {w w' vs x}, R w vs x → Ex w w' → R w' vs x
  rd : ∀ {w a b vs x}, O w a b vs x → R w vs x
  keep : ∀ {w w' : World} {a b vs x}, O w a b vs x → (∀ k, a ≤ k → k < b → k < w.heap.size → w'.heap[k]? = w.heap[k]?) → O w' a b vs x
  nn : ∀ x, 0 ≤ tot x
  tmk : ∀ k x, tot (mkE k x) = tot x
variable {α : Type}
theorem EK.oex (E : EK α) {w w' : World} {a b : Nat} {vs : List Value} {x : α} (h : E.O w a b vs x) (he : Ex w w') : E.O w' a b vs x := E.keep h fun _ _ _ hk => he.block hk
theorem EK.oiv (E : EK α) {w w' : World} {a b a' b' : Nat} {vs : List Value} {x : α} (h : E.O w a b vs x) (k : ExI a' b' w w') (hd : b ≤ a' ∨ b' ≤ a) : E.O w' a b vs x := E.keep h fun i h1 h2 hk => k.block i hk (by omega)
def RdS (E : EK α) (w : World) (A : Option Addr) (xs : List α) : Prop :=
  xs.length ≤ 1099511627776 ∧ ∀ (j : Nat) (x : α), xs[j]? = some x → ∃ g off vs, A = some ⟨g, off, none⟩ ∧ (∀ (i : Nat) (u : Value), vs[i]? = some u → w.cell? ⟨g, off + j * E.k + i, none⟩ = some u) ∧ E.R w vs x
theorem RdS.ex {E : EK α} {w w' : World} {A : Option Addr} {xs : List α} (h : RdS E w A xs) (he : Ex w w') : RdS E w' A xs := ⟨h.1, fun j x hj => by
  obtain ⟨g, off, vs, hA, hc, hr⟩ := h.2 j x hj
  exact ⟨g, off, vs, hA, fun i u hi => cell_ex he (hc i u hi), E.ex hr he⟩⟩
theorem RdS.at_ {E : EK α} {w : World} {A : Option Addr} {xs : List α} (h : RdS E w A xs) {j : Nat} (hj : j < xs.length) :
    ∃ g off vs x, A = some ⟨g, off, none⟩ ∧ xs[j]? = some x ∧ (∀ (i : Nat) (u : Value), vs[i]? = some u → w.cell? ⟨g, off + j * E.k + i, none⟩ = some u) ∧ E.R w vs x := by
  obtain ⟨g, off, vs, hA, hc, hr⟩ := h.2 j _ (List.getElem?_eq_getElem hj)
  exact ⟨g, off, vs, _, hA, List.getElem?_eq_getElem hj, hc, hr⟩
/-- An owned slice: its cells in one block that is not frozen, each element's own memory in an interval of its own. -/
def OwS (E : EK α) (t : TypeId) (w : World) (lo hi : Nat) (A : Option Addr) (xs : List α) : Prop :=
  xs.length ≤ 1099511627776 ∧ ∃ (al bl : Nat → Nat), (∀ (j : Nat) (x : α), xs[j]? = some x → ∃ g off vs cur, A = some ⟨g, off, none⟩ ∧ lo ≤ g ∧ g < hi ∧ w.heap[g]? = some (.cells cur t (0, 0)) ∧
      (∀ (i : Nat) (u : Value), vs[i]? = some u → cur[off + j * E.k + i]? = some u) ∧ E.O w (al j) (bl j) vs x ∧ lo ≤ al j ∧ bl j ≤ hi ∧ (g < al j ∨ bl j ≤ g)) ∧
    ∀ i j, i < xs.length → j < xs.length → i ≠ j → (bl i ≤ al j ∨ bl j ≤ al i)
theorem cell_of_cur {w : World} {g i : Nat} {cur : Array Value} {t : TypeId} {u : Value} (h : w.heap[g]? = some (.cells cur t (0, 0))) (hi : cur[i]? = some u) : w.cell? ⟨g, i, none⟩ = some u := by
  simp [World.cell?, h, hi]
theorem OwS.rd {E : EK α} {t : TypeId} {w : World} {lo hi : Nat} {A : Option Addr} {xs : List α} (h : OwS E t w lo hi A xs) : RdS E w A xs := by
  obtain ⟨hl, al, bl, h1, _⟩ := h
  refine ⟨hl, fun j x hj => ?_⟩
  obtain ⟨g, off, vs, cur, hA, _, _, hh, hc, ho, _⟩ := h1 j x hj
  exact ⟨g, off, vs, hA, fun i u hi => cell_of_cur hh (hc i u hi), E.rd ho⟩
theorem OwS.nil (E : EK α) (t : TypeId) (w : World) (lo hi : Nat) (A : Option Addr) : OwS E t w lo hi A [] := ⟨by simp, fun _ => 0, fun _ => 0, fun j r hj => by simp at hj, fun i j hi => by simp at hi⟩
theorem OwS.more {E : EK α} {t : TypeId} {w : World} {lo hi lo' hi' : Nat} {A : Option Addr} {xs : List α} (h : OwS E t w lo hi A xs) (h1 : lo' ≤ lo) (h2 : hi ≤ hi') : OwS E t w lo' hi' A xs := by
  obtain ⟨hl, al, bl, k1, k2⟩ := h
  refine ⟨hl, al, bl, fun j r hj => ?_, k2⟩
  obtain ⟨g, off, vs, cur, hA, hg1, hg2, hh, hc, ho, ha, hb, hd⟩ := k1 j r hj
  exact ⟨g, off, vs, cur, hA, by omega, by omega, hh, hc, ho, by omega, by omega, hd⟩
theorem OwS.ex {E : EK α} {t : TypeId} {w w' : World} {lo hi : Nat} {A : Option Addr} {xs : List α} (h : OwS E t w lo hi A xs) (he : Ex w w') : OwS E t w' lo hi A xs := by
  obtain ⟨hl, al, bl, k1, k2⟩ := h
  refine ⟨hl, al, bl, fun j r hj => ?_, k2⟩
  obtain ⟨g, off, vs, cur, hA, hg1, hg2, hh, hc, ho, hr⟩ := k1 j r hj
  exact ⟨g, off, vs, cur, hA, hg1, hg2, (he.block (heap_lt_of hh)).trans hh, hc, E.oex ho he, hr⟩
theorem OwS.iv {E : EK α} {t : TypeId} {w w' : World} {lo hi a b : Nat} {A : Option Addr} {xs : List α} (h : OwS E t w lo hi A xs) (k : ExI a b w w') (hd : hi ≤ a ∨ b ≤ lo) : OwS E t w' lo hi A xs := by
  obtain ⟨hl, al, bl, k1, k2⟩ := h
  refine ⟨hl, al, bl, fun j r hj => ?_, k2⟩
  obtain ⟨g, off, vs, cur, hA, hg1, hg2, hh, hc, ho, ha, hb, hd'⟩ := k1 j r hj
  exact ⟨g, off, vs, cur, hA, hg1, hg2, (k.block g (heap_lt_of hh) (by omega)).trans hh, hc, E.oiv ho k (by omega), ha, hb, hd'⟩
/-- Of the old memory at most block g's cells from s on and below e, and the blocks from a on and below b, have turned. -/
structure TurnS (g s e a b : Nat) (t : TypeId) (w w' : World) : Prop where
  os : w'.os = w.os
  tape : w'.tape = w.tape
  output : w'.output = w.output
  size : w.heap.size ≤ w'.heap.size
  block : ∀ k, k < w.heap.size → k ≠ g → (k < a ∨ b ≤ k) → w'.heap[k]? = w.heap[k]?
  row : ∀ cur, w.heap[g]? = some (.cells cur t (0, 0)) → ∃ cur' : Array Value, w'.heap[g]? = some (.cells cur' t (0, 0)) ∧ ∀ q, (q < s ∨ e ≤ q) → cur'[q]? = cur[q]?
theorem TurnS.refl (g s e a b : Nat) (t : TypeId) (w : World) : TurnS g s e a b t w w := ⟨rfl, rfl, rfl, Nat.le_refl _, fun _ _ _ _ => rfl, fun cur h => ⟨cur, h, fun _ _ => rfl⟩⟩
theorem TurnS.set {g s e a b : Nat} {t : TypeId} {v w : World} (h : TurnS g s e a b t v w) {o : Nat} (hs : s ≤ o) (he : o < e) (u : Value) : TurnS g s e a b t v (w.setCell ⟨g, o, none⟩ u) := by
  have hb := Below.heap_setCell w ⟨g, o, none⟩ u
  refine ⟨h.os, h.tape, h.output, by simpa [World.setCell] using h.size, fun k hk hn hd => (hb k (fun e => hn (e ▸ rfl))).trans (h.block k hk hn hd), fun cur hc => ?_⟩
  obtain ⟨cur', h1, h2⟩ := h.row cur hc
  refine ⟨cur'.setIfInBounds o u, by simp [World.setCell, Array.getElem?_modify, h1], fun q hq => ?_⟩
  rw [Array.getElem?_setIfInBounds, if_neg (by omega)]
  exact h2 q hq
theorem TurnS.iv {g s e a b a' b' : Nat} {t : TypeId} {v w w' : World} (h : TurnS g s e a b t v w) (k : ExI a' b' w w') (ha : a ≤ a') (hb : b' ≤ b) (hg : g < a ∨ b ≤ g) (_ : g < v.heap.size) : TurnS g s e a b t v w' :=
  ⟨k.os.trans h.os, k.tape.trans h.tape, k.output.trans h.output, Nat.le_trans h.size k.size, fun i hi hn hd => (k.block i (Nat.lt_of_lt_of_le hi h.size) (by omega)).trans (h.block i hi hn hd), fun cur hc => by
    obtain ⟨cur', h1, h2⟩ := h.row cur hc
    exact ⟨cur', (k.block g (heap_lt_of h1) (by omega)).trans h1, h2⟩⟩
/-- One element, turned in place. -/
theorem OwS.row {E : EK α} {t : TypeId} {w : World} {lo hi : Nat} {A : Option Addr} {xs : List α} (h : OwS E t w lo hi A xs) {i : Nat} {x : α} (hi' : xs[i]? = some x) :
    ∃ g off vs a b cur, A = some ⟨g, off, none⟩ ∧ w.heap[g]? = some (.cells cur t (0, 0)) ∧ (∀ (q : Nat) (u : Value), vs[q]? = some u → w.cell? ⟨g, off + i * E.k + q, none⟩ = some u) ∧ E.O w a b vs x ∧ lo ≤ g ∧ g < hi ∧ lo ≤ a ∧ b ≤ hi ∧ (g < a ∨ b ≤ g) ∧
      ∀ w' vs' x', TurnS g (off + i * E.k) (off + i * E.k + E.k) a b t w w' → (∀ (q : Nat) (u : Value), vs'[q]? = some u → w'.cell? ⟨g, off + i * E.k + q, none⟩ = some u) → E.O w' a b vs' x' → OwS E t w' lo hi A (xs.set i x') := by
  obtain ⟨hl, al, bl, k1, k2⟩ := h
  have hlt := (List.getElem?_eq_some_iff.1 hi').1
  obtain ⟨g, off, vs, cur, hA, hg1, hg2, hh, hc, ho, ha, hb, hd⟩ := k1 i x hi'
  refine ⟨g, off, vs, al i, bl i, cur, hA, hh, fun q u hq => cell_of_cur hh (hc q u hq), ho, hg1, hg2, ha, hb, hd, fun w' vs' x' T hc' ho' => ⟨by simpa using hl, al, bl, fun j y hj => ?_, by simpa using k2⟩⟩
  obtain ⟨cur', hh', hsame⟩ := T.row cur hh
  rw [List.getElem?_set] at hj
  split at hj
  · rename_i e
    subst e
    injection hj with hj
    subst hj
    refine ⟨g, off, vs', cur', hA, hg1, hg2, hh', fun q u hq => ?_, ho', ha, hb, hd⟩
    have := hc' q u hq
    simpa [World.cell?, hh'] using this
  · rename_i e
    have hjl := (List.getElem?_eq_some_iff.1 hj).1
    obtain ⟨g2, off2, vs2, cur2, hA2, _, _, hh2, hc2, ho2, ha2, hb2, hd2⟩ := k1 j y hj
    rw [hA] at hA2
    injection hA2 with hA2
    injection hA2 with e1 e2 _
    subst e1 e2
    rw [hh] at hh2
    injection hh2 with hh2
    injection hh2 with hh2 _ _
    subst hh2
    have hlen := E.rlen (E.rd ho2)
    refine ⟨g, off, vs2, cur', hA, hg1, hg2, hh', fun q u hq => ?_, ?_, ha2, hb2, hd2⟩
    · have hql : q < E.k := by rw [← hlen]; exact (List.getElem?_eq_some_iff.1 hq).1
      rw [hsame _ ?_]
      · exact hc2 q u hq
      · rcases Nat.lt_or_gt_of_ne e with h | h
        · right
          have := Nat.mul_le_mul_right E.k (show i + 1 ≤ j from h)
          rw [Nat.add_mul, Nat.one_mul] at this
          omega
        · left
          have := Nat.mul_le_mul_right E.k (show j + 1 ≤ i from h)
          rw [Nat.add_mul, Nat.one_mul] at this
          omega
    · have hdis := k2 i j hlt hjl e
      exact E.keep ho2 fun k hk1 hk2 hk => T.block k hk (by omega) (by omega)
/-- The slices as values. -/
def totS (E : EK α) (xs : List α) : Int := (xs.map E.tot).sum
def RS (E : EK α) (w : World) (v : Value) (xs : List α) : Prop := (∃ A c, v = .slice A xs.length c ∧ RdS E w A xs) ∧ totS E xs ≤ 1125899906842624
theorem RS.ex {E : EK α} {w w' : World} {v : Value} {xs : List α} (h : RS E w v xs) (he : Ex w w') : RS E w' v xs := by
  obtain ⟨⟨A, c, e, r⟩, t⟩ := h
  exact ⟨⟨A, c, e, r.ex he⟩, t⟩
theorem RS.form {E : EK α} {w : World} {v : Value} {xs : List α} (h : RS E w v xs) : ∃ A n c, v = .slice A n c := by
  obtain ⟨⟨A, c, e, r⟩, _⟩ := h
  exact ⟨A, _, c, e⟩
theorem RS.tot {E : EK α} {w : World} {v : Value} {xs : List α} (h : RS E w v xs) : totS E xs ≤ 1125899906842624 := h.2
def OS (E : EK α) (t : TypeId) (w : World) (a b : Nat) (v : Value) (xs : List α) : Prop := (∃ A c, v = .slice A xs.length c ∧ OwS E t w a b A xs) ∧ totS E xs ≤ 1125899906842624
theorem OS.rd {E : EK α} {t : TypeId} {w : World} {a b : Nat} {v : Value} {xs : List α} (h : OS E t w a b v xs) : RS E w v xs := by
  obtain ⟨⟨A, c, e, r⟩, q⟩ := h
  exact ⟨⟨A, c, e, r.rd⟩, q⟩
theorem OS.ex {E : EK α} {t : TypeId} {w w' : World} {a b : Nat} {v : Value} {xs : List α} (h : OS E t w a b v xs) (he : Ex w w') : OS E t w' a b v xs := by
  obtain ⟨⟨A, c, e, r⟩, q⟩ := h
  exact ⟨⟨A, c, e, r.ex he⟩, q⟩
theorem OS.iv {E : EK α} {t : TypeId} {w w' : World} {a b a' b' : Nat} {v : Value} {xs : List α} (h : OS E t w a b v xs) (k : ExI a' b' w w') (hd : b ≤ a' ∨ b' ≤ a) : OS E t w' a b v xs := by
  obtain ⟨⟨A, c, e, r⟩, q⟩ := h
  exact ⟨⟨A, c, e, r.iv k hd⟩, q⟩
theorem OS.e1 {E : EK α} {t : TypeId} {w w' : World} {a b g : Nat} {v : Value} {xs : List α} (h : OS E t w a b v xs) (k : Ex1 g w w') (hd : g < a ∨ b ≤ g) : OS E t w' a b v xs := h.iv (ExI.of_ex1 k) (by omega)
theorem OS.more {E : EK α} {t : TypeId} {w : World} {a b a' b' : Nat} {v : Value} {xs : List α} (h : OS E t w a b v xs) (ha : a' ≤ a) (hb : b ≤ b') : OS E t w a' b' v xs := by
  obtain ⟨⟨A, c, e, r⟩, q⟩ := h
  exact ⟨⟨A, c, e, r.more ha hb⟩, q⟩
theorem OI.keep {w w' : World} {a b : Nat} {v : Value} {xs : List Int} (h : OI w a b v xs) (hk : ∀ k, a ≤ k → k < b → k < w.heap.size → w'.heap[k]? = w.heap[k]?) : OI w' a b v xs := by
  obtain ⟨A, c, e, f⟩ := h
  have hk' : ∀ ad : Addr, A = some ad → ad.block < w.heap.size → w'.heap[ad.block]? = w.heap[ad.block]? := fun ad e hl => hk _ (f.fr.hi ad e) (f.lo ad e) hl
  exact ⟨A, c, e, ⟨⟨f.fr.rd.keep hk', f.fr.cap, fun ad e => by
    obtain ⟨h1, cur, h2⟩ := f.fr.2.2 ad e
    exact ⟨h1, cur, (hk' ad e (heap_lt_of h2)).trans h2⟩⟩, f.lo⟩⟩
theorem flatten_at {k : Nat} : ∀ {us : List (List Value)}, (∀ u ∈ us, u.length = k) → ∀ {j : Nat} {vs : List Value}, us[j]? = some vs → ∀ {i : Nat} {u : Value}, vs[i]? = some u → us.flatten[j * k + i]? = some u
  | [], _, j, vs, hj, _, _, _ => by simp at hj
  | v :: us, h, 0, vs, hj, i, u, hu => by
    simp at hj
    subst hj
    have hl : i < v.length := (List.getElem?_eq_some_iff.1 hu).1
    rw [List.flatten_cons, Nat.zero_mul, Nat.zero_add, List.getElem?_append_left hl, hu]
  | v :: us, h, j + 1, vs, hj, i, u, hu => by
    have hv := h v (by simp)
    rw [List.flatten_cons, List.getElem?_append_right (by rw [hv, Nat.add_mul, Nat.one_mul]; omega), hv, show (j + 1) * k + i - k = j * k + i by rw [Nat.add_mul, Nat.one_mul]; omega]
    exact flatten_at (fun x hx => h x (by simp [hx])) (by simpa using hj) hu
end Go.Proofs.YtmekhjnhcgmphaaDoor
