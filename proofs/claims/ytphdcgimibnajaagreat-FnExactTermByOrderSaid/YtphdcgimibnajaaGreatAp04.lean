/- Uniform words for the laws' helpers: a value that reads, that is owned in an interval of blocks; sizes as a word; lists of ints. Plain lemmas of mine. Slices whose elements are rows of k cells (structs, slices), in the uniform words; what a mark on one element turns. Plain lemmas of mine. Lists of flat elements that a call makes by append: whatever the element. Nodes of terms: lists of nodes in the uniform words; the laws' helpers on them. -/
import Derived.Test.YtphdcgimibnajaaGreatIv
import Derived.Lib.SliceRun
import Derived.Lib.SlBytesRow
import Derived.Laws.Concat
import Derived.RegionCalls
import Derived.Deep.RegionWith
import Derived.Deep.RegionHeld3
namespace Go.Proofs.YtphdcgimibnajaaGreat
set_option maxRecDepth 100000
open Go Go.RowKit
/-- From w on, the size function f takes z off what is left. -/
def QS (f : FuncId) (w : World) (v : Value) (z : Int) : Prop := ∀ (u : World) (l : Int), Ex w u → 0 ≤ l → l ≤ 1048576 →
  Calls Tryz.prog f #[v, .int .i64 l] u fun e u' => e = .returned (.int .i64 (if l < z then -1 else l - z)) ∧ Ex u u'
theorem QS.ex {f : FuncId} {w w' : World} {v : Value} {z : Int} (h : QS f w v z) (he : Ex w w') : QS f w' v z := fun u l hu => h u l (he.trans hu)
theorem ExI.of_ex1 {g : Nat} {w w' : World} (h : Ex1 g w w') : ExI g (g + 1) w w' := ⟨h.os, h.tape, h.output, h.size, fun k hk ho => h.block k hk (by intro e; injection e; omega)⟩
theorem VB.st2 {w : World} {g : Nat} {t : TypeId} {a b : Value} (h : VB w g t #[a, b]) (u0 u1 : Value) : VB ((w.setCell ⟨g, 0, none⟩ u0).setCell ⟨g, 1, none⟩ u1) g t #[u0, u1] ∧ Ex1 g w ((w.setCell ⟨g, 0, none⟩ u0).setCell ⟨g, 1, none⟩ u1) :=
  ⟨(h.set_ 0 u0).set_ 1 u1, ((Ex1.refl g w).setCell (p := ⟨g, 0, none⟩) rfl u0).setCell (p := ⟨g, 1, none⟩) rfl u1⟩
theorem VB.st3 {w : World} {g : Nat} {t : TypeId} {a b c : Value} (h : VB w g t #[a, b, c]) (u0 u1 u2 : Value) : VB (((w.setCell ⟨g, 0, none⟩ u0).setCell ⟨g, 1, none⟩ u1).setCell ⟨g, 2, none⟩ u2) g t #[u0, u1, u2] ∧ Ex1 g w (((w.setCell ⟨g, 0, none⟩ u0).setCell ⟨g, 1, none⟩ u1).setCell ⟨g, 2, none⟩ u2) :=
  ⟨((h.set_ 0 u0).set_ 1 u1).set_ 2 u2, (((Ex1.refl g w).setCell (p := ⟨g, 0, none⟩) rfl u0).setCell (p := ⟨g, 1, none⟩) rfl u1).setCell (p := ⟨g, 2, none⟩) rfl u2⟩
/-- v reads as the ints xs. -/
def RI (w : World) (v : Value) (xs : List Int) : Prop := ∃ A c, v = .slice A xs.length c ∧ Rd w A xs
def totI (xs : List Int) : Int := xs.length
def mkI (k : Int) (xs : List Int) : List Int := mk k xs.length
theorem totI_nn (xs : List Int) : 0 ≤ totI xs := Int.natCast_nonneg _
theorem RI.ex {w w' : World} {v : Value} {xs : List Int} (h : RI w v xs) (he : Ex w w') : RI w' v xs := by
  obtain ⟨A, c, e, r⟩ := h
  exact ⟨A, c, e, r.ex he⟩
theorem RI.form {w : World} {v : Value} {xs : List Int} (h : RI w v xs) : ∃ A n c, v = .slice A n c := by
  obtain ⟨A, c, e, r⟩ := h
  exact ⟨A, _, c, e⟩
theorem RI.tot {w : World} {v : Value} {xs : List Int} (h : RI w v xs) : totI xs ≤ 1125899906842624 := by
  obtain ⟨A, c, e, r⟩ := h
  have := r.len
  show ((xs.length : Nat) : Int) ≤ _
  omega
def OI (w : World) (a b : Nat) (v : Value) (xs : List Int) : Prop := ∃ A c, v = .slice A xs.length c ∧ FI w a b A c xs
theorem OI.rd {w : World} {a b : Nat} {v : Value} {xs : List Int} (h : OI w a b v xs) : RI w v xs := by
  obtain ⟨A, c, e, r⟩ := h
  exact ⟨A, c, e, r.rd⟩
theorem OI.ex {w w' : World} {a b : Nat} {v : Value} {xs : List Int} (h : OI w a b v xs) (he : Ex w w') : OI w' a b v xs := by
  obtain ⟨A, c, e, r⟩ := h
  exact ⟨A, c, e, r.ex he⟩
theorem OI.iv {w w' : World} {a b a' b' : Nat} {v : Value} {xs : List Int} (h : OI w a b v xs) (k : ExI a' b' w w') (hd : b ≤ a' ∨ b' ≤ a) : OI w' a b v xs := by
  obtain ⟨A, c, e, r⟩ := h
  exact ⟨A, c, e, r.iv k hd⟩
theorem OI.e1 {w w' : World} {a b g : Nat} {v : Value} {xs : List Int} (h : OI w a b v xs) (k : Ex1 g w w') (hd : g < a ∨ b ≤ g) : OI w' a b v xs := h.iv (ExI.of_ex1 k) (by omega)
theorem OI.more {w : World} {a b a' b' : Nat} {v : Value} {xs : List Int} (h : OI w a b v xs) (ha : a' ≤ a) (hb : b ≤ b') : OI w a' b' v xs := by
  obtain ⟨A, c, e, r⟩ := h
  exact ⟨A, c, e, r.more ha hb⟩
/-- A list that grows by append: what one append turns. -/
theorem al_push_i (w : World) (B : Nat) (v : Value) (ys : List Int) (x : Int) (hv : AL w B v ys) (hB : B ≤ w.heap.size) (hl : ys.length + 1 ≤ 1099511627776) :
    ∃ v' w', (Builtin.append_ #[23, 23] 23 #[v, .slice (some ⟨w.heap.size, 0, none⟩) 1 1]).run Tryz.prog (w.alloc (iObj [x])) = .ok v' w' ∧ AL w' B v' (ys ++ [x]) ∧ ExI B w.heap.size w w' := by
  have ha := (Ex.refl w).alloc (iObj [x])
  obtain ⟨v', w', h1, h2, h3, _⟩ := run_append_ints 23 23 Tryz.underlying23 (w.alloc (iObj [x])) B v ys (hv.ex ha) (Nat.le_trans hB ha.size) (some ⟨w.heap.size, 0, none⟩) 1 [x] ((Blk.new w [x]).rd (by simp)) (by simpa using hl)
  refine ⟨v', w', h1, h2, ⟨h3.os.trans ha.os, h3.tape.trans ha.tape, h3.output.trans ha.output, Nat.le_trans ha.size h3.size, fun k hk hd => ?_⟩⟩
  rw [h3.block k (Nat.lt_of_lt_of_le hk ha.size) (fun e => by have := (hv.lt k e.symm).1; omega)]
  exact ha.block hk
theorem szIntS_q (A : Option Addr) (n c : Nat) (w : World) (hm : n ≤ 9223372036854775807) : QS 20 w (.slice A n c) (n : Int) := fun u l _ h0 hl => by
  by_cases hb : l < (n : Int)
  · rw [if_pos hb]; exact (szIntS_big A c n l u hb hm h0 hl).mono fun _ _ ⟨h1, h2⟩ => ⟨h1, by subst h2; exact Ex.refl _⟩
  · rw [if_neg hb]; exact (szIntS_ok A c n l u (by omega) hl).mono fun _ _ ⟨h1, h2⟩ => ⟨h1, by subst h2; exact Ex.refl _⟩
theorem toIntS_u (x : List Int) (v : Value) (w : World) (h : RI w v x) :
    Calls Tryz.prog 15 #[v] w fun e w' => ∃ y, e = .returned y ∧ OI w' w.heap.size w'.heap.size y x ∧ Ex w w' := by
  obtain ⟨A, c, rfl, r⟩ := h
  refine (toIntS_c A c x w r).mono ?_
  rintro e w' ⟨g, rfl, hg, b, z⟩
  exact ⟨_, rfl, ⟨_, _, rfl, (b.fr (B := w.heap.size) r.len hg (Nat.le_refl _)).fi⟩, z⟩
theorem eqIntS_u (x : List Int) (v u : Value) (w : World) (h : RI w v x) (h' : RI w u x) :
    Calls Tryz.prog 17 #[v, u] w fun e w' => e = .returned (.bool true) ∧ Ex w w' := by
  obtain ⟨A, c, rfl, r⟩ := h
  obtain ⟨A', c', rfl, r'⟩ := h'
  exact (eqIntS_c A A' c c' x w r r').mono fun _ _ h => h
theorem markIntS_u (lo hi : Nat) (x : List Int) (v : Value) (k : Int) (w : World) (h : OI w lo hi v x) (_ : hi ≤ w.heap.size) (hk0 : 0 ≤ k) (hk : k + totI x ≤ 4611686018427387904) :
    Calls Tryz.prog 18 #[v, .int .i64 k] w fun e w' => e = .returned (.int .i64 (k + totI x)) ∧ OI w' lo hi v (mkI k x) ∧ ExI lo hi w w' := by
  obtain ⟨A, c, rfl, r⟩ := h
  have hn := totI_nn x
  refine (markIntS_i lo hi A c x k w r hk0 (by omega)).mono ?_
  rintro e w' ⟨rfl, m, z⟩
  exact ⟨rfl, ⟨A, c, by rw [mkI, mk_len], m⟩, z⟩
end Go.Proofs.YtphdcgimibnajaaGreat
namespace Go.Proofs.YtphdcgimibnajaaGreat
set_option maxRecDepth 100000
open Go Go.RowKit
theorem cell_iv' {w w' : World} {a b g o : Nat} {v : Value} (k : ExI a b w w') (hc : w.cell? ⟨g, o, none⟩ = some v) (hd : g < a ∨ b ≤ g) : w'.cell? ⟨g, o, none⟩ = some v :=
  (World.cell?_of_block (w := w) (a := ⟨g, o, none⟩) (k.block g (cell_lt (p := ⟨g, o, none⟩) hc) hd)).trans hc
/-- How an element of k cells reads, and how it is owned. -/
structure EK (α : Type) where
  k : Nat
  R : World → List Value → α → Prop
  O : World → Nat → Nat → List Value → α → Prop
  tot : α → Int
  mkE : Int → α → α
  rlen : ∀ {w vs x}, R w vs x → vs.length = k
  ex : ∀ {w w' vs x}, R w vs x → Ex w w' → R w' vs x
  rd : ∀ {w a b vs x}, O w a b vs x → R w vs x
  keep : ∀ {w w' : World} {a b vs x}, O w a b vs x → (∀ k, a ≤ k → k < b → k < w.heap.size → w'.heap[k]? = w.heap[k]?) → O w' a b vs x
  nn : ∀ x, 0 ≤ tot x
  tmk : ∀ k x, tot (mkE k x) = tot x
variable {α : Type}
theorem EK.oex (E : EK α) {w w' : World} {a b : Nat} {vs : List Value} {x : α} (h : E.O w a b vs x) (he : Ex w w') : E.O w' a b vs x := E.keep h fun _ _ _ hk => he.block hk
theorem EK.oiv (E : EK α) {w w' : World} {a b a' b' : Nat} {vs : List Value} {x : α} (h : E.O w a b vs x) (k : ExI a' b' w w') (hd : b ≤ a' ∨ b' ≤ a) : E.O w' a b vs x := E.keep h fun i h1 h2 hk => k.block i hk (by omega)
def RdS (E : EK α) (w : World) (A : Option Addr) (xs : List α) : Prop :=
  xs.length ≤ 1099511627776 ∧ ∀ (j : Nat) (x : α), xs[j]? = some x → ∃ g off vs, A = some ⟨g, off, none⟩ ∧ (∀ (i : Nat) (u : Value), vs[i]? = some u → w.cell? ⟨g, off + j * E.k + i, none⟩ = some u) ∧ E.R w vs x
theorem RdS.ex {E : EK α} {w w' : World} {A : Option Addr} {xs : List α} (h : RdS E w A xs) (he : Ex w w') : RdS E w' A xs := ⟨h.1, fun j x hj => by
  obtain ⟨g, off, vs, hA, hc, hr⟩ := h.2 j x hj
  exact ⟨g, off, vs, hA, fun i u hi => cell_ex he (hc i u hi), E.ex hr he⟩⟩
theorem RdS.at_ {E : EK α} {w : World} {A : Option Addr} {xs : List α} (h : RdS E w A xs) {j : Nat} (hj : j < xs.length) :
    ∃ g off vs x, A = some ⟨g, off, none⟩ ∧ xs[j]? = some x ∧ (∀ (i : Nat) (u : Value), vs[i]? = some u → w.cell? ⟨g, off + j * E.k + i, none⟩ = some u) ∧ E.R w vs x := by
  obtain ⟨g, off, vs, hA, hc, hr⟩ := h.2 j _ (List.getElem?_eq_getElem hj)
  exact ⟨g, off, vs, _, hA, List.getElem?_eq_getElem hj, hc, hr⟩
/-- An owned slice: its cells in one block that is not frozen, each element's own memory in an interval of its own. -/
def OwS (E : EK α) (t : TypeId) (w : World) (lo hi : Nat) (A : Option Addr) (xs : List α) : Prop :=
  xs.length ≤ 1099511627776 ∧ ∃ (al bl : Nat → Nat), (∀ (j : Nat) (x : α), xs[j]? = some x → ∃ g off vs cur, A = some ⟨g, off, none⟩ ∧ lo ≤ g ∧ g < hi ∧ w.heap[g]? = some (.cells cur t (0, 0)) ∧
      (∀ (i : Nat) (u : Value), vs[i]? = some u → cur[off + j * E.k + i]? = some u) ∧ E.O w (al j) (bl j) vs x ∧ lo ≤ al j ∧ bl j ≤ hi ∧ (g < al j ∨ bl j ≤ g)) ∧
    ∀ i j, i < xs.length → j < xs.length → i ≠ j → (bl i ≤ al j ∨ bl j ≤ al i)
theorem cell_of_cur {w : World} {g i : Nat} {cur : Array Value} {t : TypeId} {u : Value} (h : w.heap[g]? = some (.cells cur t (0, 0))) (hi : cur[i]? = some u) : w.cell? ⟨g, i, none⟩ = some u := by
  simp [World.cell?, h, hi]
theorem OwS.rd {E : EK α} {t : TypeId} {w : World} {lo hi : Nat} {A : Option Addr} {xs : List α} (h : OwS E t w lo hi A xs) : RdS E w A xs := by
  obtain ⟨hl, al, bl, h1, _⟩ := h
  refine ⟨hl, fun j x hj => ?_⟩
  obtain ⟨g, off, vs, cur, hA, _, _, hh, hc, ho, _⟩ := h1 j x hj
  exact ⟨g, off, vs, hA, fun i u hi => cell_of_cur hh (hc i u hi), E.rd ho⟩
theorem OwS.nil (E : EK α) (t : TypeId) (w : World) (lo hi : Nat) (A : Option Addr) : OwS E t w lo hi A [] := ⟨by simp, fun _ => 0, fun _ => 0, fun j r hj => by simp at hj, fun i j hi => by simp at hi⟩
theorem OwS.more {E : EK α} {t : TypeId} {w : World} {lo hi lo' hi' : Nat} {A : Option Addr} {xs : List α} (h : OwS E t w lo hi A xs) (h1 : lo' ≤ lo) (h2 : hi ≤ hi') : OwS E t w lo' hi' A xs := by
  obtain ⟨hl, al, bl, k1, k2⟩ := h
  refine ⟨hl, al, bl, fun j r hj => ?_, k2⟩
  obtain ⟨g, off, vs, cur, hA, hg1, hg2, hh, hc, ho, ha, hb, hd⟩ := k1 j r hj
  exact ⟨g, off, vs, cur, hA, by omega, by omega, hh, hc, ho, by omega, by omega, hd⟩
theorem OwS.ex {E : EK α} {t : TypeId} {w w' : World} {lo hi : Nat} {A : Option Addr} {xs : List α} (h : OwS E t w lo hi A xs) (he : Ex w w') : OwS E t w' lo hi A xs := by
  obtain ⟨hl, al, bl, k1, k2⟩ := h
  refine ⟨hl, al, bl, fun j r hj => ?_, k2⟩
  obtain ⟨g, off, vs, cur, hA, hg1, hg2, hh, hc, ho, hr⟩ := k1 j r hj
  exact ⟨g, off, vs, cur, hA, hg1, hg2, (he.block (heap_lt_of hh)).trans hh, hc, E.oex ho he, hr⟩
theorem OwS.iv {E : EK α} {t : TypeId} {w w' : World} {lo hi a b : Nat} {A : Option Addr} {xs : List α} (h : OwS E t w lo hi A xs) (k : ExI a b w w') (hd : hi ≤ a ∨ b ≤ lo) : OwS E t w' lo hi A xs := by
  obtain ⟨hl, al, bl, k1, k2⟩ := h
  refine ⟨hl, al, bl, fun j r hj => ?_, k2⟩
  obtain ⟨g, off, vs, cur, hA, hg1, hg2, hh, hc, ho, ha, hb, hd'⟩ := k1 j r hj
  exact ⟨g, off, vs, cur, hA, hg1, hg2, (k.block g (heap_lt_of hh) (by omega)).trans hh, hc, E.oiv ho k (by omega), ha, hb, hd'⟩
/-- Of the old memory at most block g's cells from s on and below e, and the blocks from a on and below b, have turned. -/
structure TurnS (g s e a b : Nat) (t : TypeId) (w w' : World) : Prop where
  os : w'.os = w.os
  tape : w'.tape = w.tape
  output : w'.output = w.output
  size : w.heap.size ≤ w'.heap.size
  block : ∀ k, k < w.heap.size → k ≠ g → (k < a ∨ b ≤ k) → w'.heap[k]? = w.heap[k]?
  row : ∀ cur, w.heap[g]? = some (.cells cur t (0, 0)) → ∃ cur' : Array Value, w'.heap[g]? = some (.cells cur' t (0, 0)) ∧ ∀ q, (q < s ∨ e ≤ q) → cur'[q]? = cur[q]?
theorem TurnS.refl (g s e a b : Nat) (t : TypeId) (w : World) : TurnS g s e a b t w w := ⟨rfl, rfl, rfl, Nat.le_refl _, fun _ _ _ _ => rfl, fun cur h => ⟨cur, h, fun _ _ => rfl⟩⟩
theorem TurnS.set {g s e a b : Nat} {t : TypeId} {v w : World} (h : TurnS g s e a b t v w) {o : Nat} (hs : s ≤ o) (he : o < e) (u : Value) : TurnS g s e a b t v (w.setCell ⟨g, o, none⟩ u) := by
  have hb := Below.heap_setCell w ⟨g, o, none⟩ u
  refine ⟨h.os, h.tape, h.output, by simpa [World.setCell] using h.size, fun k hk hn hd => (hb k (fun e => hn (e ▸ rfl))).trans (h.block k hk hn hd), fun cur hc => ?_⟩
  obtain ⟨cur', h1, h2⟩ := h.row cur hc
  refine ⟨cur'.setIfInBounds o u, by simp [World.setCell, Array.getElem?_modify, h1], fun q hq => ?_⟩
  rw [Array.getElem?_setIfInBounds, if_neg (by omega)]
  exact h2 q hq
theorem TurnS.iv {g s e a b a' b' : Nat} {t : TypeId} {v w w' : World} (h : TurnS g s e a b t v w) (k : ExI a' b' w w') (ha : a ≤ a') (hb : b' ≤ b) (hg : g < a ∨ b ≤ g) (_ : g < v.heap.size) : TurnS g s e a b t v w' :=
  ⟨k.os.trans h.os, k.tape.trans h.tape, k.output.trans h.output, Nat.le_trans h.size k.size, fun i hi hn hd => (k.block i (Nat.lt_of_lt_of_le hi h.size) (by omega)).trans (h.block i hi hn hd), fun cur hc => by
    obtain ⟨cur', h1, h2⟩ := h.row cur hc
    exact ⟨cur', (k.block g (heap_lt_of h1) (by omega)).trans h1, h2⟩⟩
theorem TurnS.exi {g s e a b lo hi : Nat} {t : TypeId} {v w : World} (h : TurnS g s e a b t v w) (h1 : lo ≤ g) (h2 : g < hi) (h3 : lo ≤ a) (h4 : b ≤ hi) : ExI lo hi v w :=
  ⟨h.os, h.tape, h.output, h.size, fun k hk hd => h.block k hk (by omega) (by omega)⟩
/-- One element, turned in place. -/
theorem OwS.row {E : EK α} {t : TypeId} {w : World} {lo hi : Nat} {A : Option Addr} {xs : List α} (h : OwS E t w lo hi A xs) {i : Nat} {x : α} (hi' : xs[i]? = some x) :
    ∃ g off vs a b cur, A = some ⟨g, off, none⟩ ∧ w.heap[g]? = some (.cells cur t (0, 0)) ∧ (∀ (q : Nat) (u : Value), vs[q]? = some u → w.cell? ⟨g, off + i * E.k + q, none⟩ = some u) ∧ E.O w a b vs x ∧ lo ≤ g ∧ g < hi ∧ lo ≤ a ∧ b ≤ hi ∧ (g < a ∨ b ≤ g) ∧
      ∀ w' vs' x', TurnS g (off + i * E.k) (off + i * E.k + E.k) a b t w w' → (∀ (q : Nat) (u : Value), vs'[q]? = some u → w'.cell? ⟨g, off + i * E.k + q, none⟩ = some u) → E.O w' a b vs' x' → OwS E t w' lo hi A (xs.set i x') := by
  obtain ⟨hl, al, bl, k1, k2⟩ := h
  have hlt := (List.getElem?_eq_some_iff.1 hi').1
  obtain ⟨g, off, vs, cur, hA, hg1, hg2, hh, hc, ho, ha, hb, hd⟩ := k1 i x hi'
  refine ⟨g, off, vs, al i, bl i, cur, hA, hh, fun q u hq => cell_of_cur hh (hc q u hq), ho, hg1, hg2, ha, hb, hd, fun w' vs' x' T hc' ho' => ⟨by simpa using hl, al, bl, fun j y hj => ?_, by simpa using k2⟩⟩
  obtain ⟨cur', hh', hsame⟩ := T.row cur hh
  rw [List.getElem?_set] at hj
  split at hj
  · rename_i e
    subst e
    injection hj with hj
    subst hj
    refine ⟨g, off, vs', cur', hA, hg1, hg2, hh', fun q u hq => ?_, ho', ha, hb, hd⟩
    have := hc' q u hq
    simpa [World.cell?, hh'] using this
  · rename_i e
    have hjl := (List.getElem?_eq_some_iff.1 hj).1
    obtain ⟨g2, off2, vs2, cur2, hA2, _, _, hh2, hc2, ho2, ha2, hb2, hd2⟩ := k1 j y hj
    rw [hA] at hA2
    injection hA2 with hA2
    injection hA2 with e1 e2 _
    subst e1 e2
    rw [hh] at hh2
    injection hh2 with hh2
    injection hh2 with hh2 _ _
    subst hh2
    have hlen := E.rlen (E.rd ho2)
    refine ⟨g, off, vs2, cur', hA, hg1, hg2, hh', fun q u hq => ?_, ?_, ha2, hb2, hd2⟩
    · have hql : q < E.k := by rw [← hlen]; exact (List.getElem?_eq_some_iff.1 hq).1
      rw [hsame _ ?_]
      · exact hc2 q u hq
      · rcases Nat.lt_or_gt_of_ne e with h | h
        · right
          have := Nat.mul_le_mul_right E.k (show i + 1 ≤ j from h)
          rw [Nat.add_mul, Nat.one_mul] at this
          omega
        · left
          have := Nat.mul_le_mul_right E.k (show j + 1 ≤ i from h)
          rw [Nat.add_mul, Nat.one_mul] at this
          omega
    · have hdis := k2 i j hlt hjl e
      exact E.keep ho2 fun k hk1 hk2 hk => T.block k hk (by omega) (by omega)
/-- The slices as values. -/
def totS (E : EK α) (xs : List α) : Int := (xs.map E.tot).sum
def mkS (E : EK α) : Int → List α → List α
  | _, [] => []
  | k, x :: xs => E.mkE k x :: mkS E (k + E.tot x) xs
theorem totS_cons (E : EK α) (x : α) (xs : List α) : totS E (x :: xs) = E.tot x + totS E xs := by simp [totS]
theorem totS_nn (E : EK α) : ∀ xs : List α, 0 ≤ totS E xs
  | [] => by simp [totS]
  | x :: xs => by rw [totS_cons]; have := E.nn x; have := totS_nn E xs; omega
theorem mkS_len (E : EK α) : ∀ (k : Int) (xs : List α), (mkS E k xs).length = xs.length
  | _, [] => rfl
  | k, x :: xs => by rw [mkS, List.length_cons, mkS_len, List.length_cons]
theorem totS_mk (E : EK α) : ∀ (k : Int) (xs : List α), totS E (mkS E k xs) = totS E xs
  | _, [] => rfl
  | k, x :: xs => by rw [mkS, totS_cons, totS_cons, totS_mk, E.tmk]
theorem totS_take_succ (E : EK α) {xs : List α} {j : Nat} {x : α} (h : xs[j]? = some x) : totS E (xs.take (j + 1)) = totS E (xs.take j) + E.tot x := by
  rw [List.take_add_one, h]
  simp [totS]
theorem totS_take_le (E : EK α) (xs : List α) (j : Nat) : totS E (xs.take j) ≤ totS E xs := by
  have h := List.take_append_drop j xs
  have : totS E xs = totS E (xs.take j) + totS E (xs.drop j) := by
    conv => lhs; rw [← h]
    simp only [totS, List.map_append, List.sum_append]
  have := totS_nn E (xs.drop j)
  omega
theorem mkS_at (E : EK α) : ∀ (k : Int) (xs : List α) (j : Nat) (x : α), xs[j]? = some x → (mkS E k xs)[j]? = some (E.mkE (k + totS E (xs.take j)) x)
  | k, y :: xs, 0, x, h => by simp at h; subst h; simp [mkS, totS]
  | k, y :: xs, j + 1, x, h => by
    rw [mkS, List.getElem?_cons_succ, mkS_at E _ xs j x (by simpa using h), List.take_succ_cons, totS_cons]
    congr 2
    omega
theorem mkS_step (E : EK α) (k : Int) (xs : List α) (j : Nat) (x : α) (h : xs[j]? = some x) :
    ((mkS E k xs).take j ++ xs.drop j).set j (E.mkE (k + totS E (xs.take j)) x) = (mkS E k xs).take (j + 1) ++ xs.drop (j + 1) := by
  have hlt := (List.getElem?_eq_some_iff.1 h).1
  have hl : ((mkS E k xs).take j).length = j := by rw [List.length_take, mkS_len]; omega
  rw [List.set_append_right _ _ (by omega), hl, Nat.sub_self, List.drop_eq_getElem_cons hlt, List.set_cons_zero, List.take_add_one, mkS_at E k xs j x h, List.append_assoc]
  rfl
def RS (E : EK α) (w : World) (v : Value) (xs : List α) : Prop := (∃ A c, v = .slice A xs.length c ∧ RdS E w A xs) ∧ totS E xs ≤ 1125899906842624
theorem RS.ex {E : EK α} {w w' : World} {v : Value} {xs : List α} (h : RS E w v xs) (he : Ex w w') : RS E w' v xs := by
  obtain ⟨⟨A, c, e, r⟩, t⟩ := h
  exact ⟨⟨A, c, e, r.ex he⟩, t⟩
theorem RS.form {E : EK α} {w : World} {v : Value} {xs : List α} (h : RS E w v xs) : ∃ A n c, v = .slice A n c := by
  obtain ⟨⟨A, c, e, r⟩, _⟩ := h
  exact ⟨A, _, c, e⟩
theorem RS.tot {E : EK α} {w : World} {v : Value} {xs : List α} (h : RS E w v xs) : totS E xs ≤ 1125899906842624 := h.2
def OS (E : EK α) (t : TypeId) (w : World) (a b : Nat) (v : Value) (xs : List α) : Prop := (∃ A c, v = .slice A xs.length c ∧ OwS E t w a b A xs) ∧ totS E xs ≤ 1125899906842624
theorem OS.rd {E : EK α} {t : TypeId} {w : World} {a b : Nat} {v : Value} {xs : List α} (h : OS E t w a b v xs) : RS E w v xs := by
  obtain ⟨⟨A, c, e, r⟩, q⟩ := h
  exact ⟨⟨A, c, e, r.rd⟩, q⟩
theorem OS.ex {E : EK α} {t : TypeId} {w w' : World} {a b : Nat} {v : Value} {xs : List α} (h : OS E t w a b v xs) (he : Ex w w') : OS E t w' a b v xs := by
  obtain ⟨⟨A, c, e, r⟩, q⟩ := h
  exact ⟨⟨A, c, e, r.ex he⟩, q⟩
theorem OS.iv {E : EK α} {t : TypeId} {w w' : World} {a b a' b' : Nat} {v : Value} {xs : List α} (h : OS E t w a b v xs) (k : ExI a' b' w w') (hd : b ≤ a' ∨ b' ≤ a) : OS E t w' a b v xs := by
  obtain ⟨⟨A, c, e, r⟩, q⟩ := h
  exact ⟨⟨A, c, e, r.iv k hd⟩, q⟩
theorem OS.e1 {E : EK α} {t : TypeId} {w w' : World} {a b g : Nat} {v : Value} {xs : List α} (h : OS E t w a b v xs) (k : Ex1 g w w') (hd : g < a ∨ b ≤ g) : OS E t w' a b v xs := h.iv (ExI.of_ex1 k) (by omega)
theorem OS.more {E : EK α} {t : TypeId} {w : World} {a b a' b' : Nat} {v : Value} {xs : List α} (h : OS E t w a b v xs) (ha : a' ≤ a) (hb : b ≤ b') : OS E t w a' b' v xs := by
  obtain ⟨⟨A, c, e, r⟩, q⟩ := h
  exact ⟨⟨A, c, e, r.more ha hb⟩, q⟩
theorem OI.keep {w w' : World} {a b : Nat} {v : Value} {xs : List Int} (h : OI w a b v xs) (hk : ∀ k, a ≤ k → k < b → k < w.heap.size → w'.heap[k]? = w.heap[k]?) : OI w' a b v xs := by
  obtain ⟨A, c, e, f⟩ := h
  have hk' : ∀ ad : Addr, A = some ad → ad.block < w.heap.size → w'.heap[ad.block]? = w.heap[ad.block]? := fun ad e hl => hk _ (f.fr.hi ad e) (f.lo ad e) hl
  exact ⟨A, c, e, ⟨⟨f.fr.rd.keep hk', f.fr.cap, fun ad e => by
    obtain ⟨h1, cur, h2⟩ := f.fr.2.2 ad e
    exact ⟨h1, cur, (hk' ad e (heap_lt_of h2)).trans h2⟩⟩, f.lo⟩⟩
/-- Cells of rows laid one behind the other. -/
theorem flatten_len {k : Nat} : ∀ {us : List (List Value)}, (∀ u ∈ us, u.length = k) → us.flatten.length = us.length * k
  | [], _ => by simp
  | u :: us, h => by
    rw [List.flatten_cons, List.length_append, flatten_len (fun v hv => h v (by simp [hv])), h u (by simp), List.length_cons, Nat.add_mul, Nat.one_mul]
    omega
theorem flatten_at {k : Nat} : ∀ {us : List (List Value)}, (∀ u ∈ us, u.length = k) → ∀ {j : Nat} {vs : List Value}, us[j]? = some vs → ∀ {i : Nat} {u : Value}, vs[i]? = some u → us.flatten[j * k + i]? = some u
  | [], _, j, vs, hj, _, _, _ => by simp at hj
  | v :: us, h, 0, vs, hj, i, u, hu => by
    simp at hj
    subst hj
    have hl : i < v.length := (List.getElem?_eq_some_iff.1 hu).1
    rw [List.flatten_cons, Nat.zero_mul, Nat.zero_add, List.getElem?_append_left hl, hu]
  | v :: us, h, j + 1, vs, hj, i, u, hu => by
    have hv := h v (by simp)
    rw [List.flatten_cons, List.getElem?_append_right (by rw [hv, Nat.add_mul, Nat.one_mul]; omega), hv, show (j + 1) * k + i - k = j * k + i by rw [Nat.add_mul, Nat.one_mul]; omega]
    exact flatten_at (fun x hx => h x (by simp [hx])) (by simpa using hj) hu
theorem made_flat (z : List Value) (hz : 0 < z.length) (n : Nat) : madeCells z.toArray (n * z.length) = ((List.replicate n z).flatten).toArray := by
  have hl : ∀ u ∈ List.replicate n z, u.length = z.length := fun u hu => by rw [(List.mem_replicate.1 hu).2]
  apply Array.ext
  · simp [madeCells]
  · intro i h1 h2
    have hi : i < n * z.length := by simpa [madeCells] using h1
    have hq : i / z.length < n := Nat.div_lt_of_lt_mul (by rw [Nat.mul_comm]; exact hi)
    have hr : i % z.length < z.length := Nat.mod_lt _ hz
    have h := flatten_at hl (j := i / z.length) (vs := z) (by rw [List.getElem?_replicate, if_pos hq]) (List.getElem?_eq_getElem hr)
    rw [Nat.div_add_mod'] at h
    have e1 : (List.replicate n z).flatten.toArray[i] = z[i % z.length] := by
      rw [List.getElem_toArray]
      exact (List.getElem?_eq_some_iff.1 h).2
    rw [e1]
    simp [madeCells, hr]
theorem flat_put4 {us rest : List (List Value)} {s : Nat} (hs : us.flatten.length = s) (z0 z1 z2 z3 a b c d : Value) :
    (((((us ++ [z0, z1, z2, z3] :: rest).flatten).set s a).set (s + 1) b).set (s + 2) c).set (s + 3) d = (us ++ [a, b, c, d] :: rest).flatten := by
  subst hs
  simp [List.flatten_append]
theorem OwS.of_flat {E : EK α} {t : TypeId} {w : World} {lo hi g : Nat} {xs : List α} {us : List (List Value)} (hl : xs.length ≤ 1099511627776) (hus : us.length = xs.length) (hk : ∀ u ∈ us, u.length = E.k) (hv : VB w g t us.flatten.toArray) (al bl : Nat → Nat)
    (hO : ∀ (j : Nat) (x : α) (vs : List Value), xs[j]? = some x → us[j]? = some vs → E.O w (al j) (bl j) vs x ∧ lo ≤ al j ∧ bl j ≤ hi ∧ (g < al j ∨ bl j ≤ g)) (hd : ∀ i j, i < xs.length → j < xs.length → i ≠ j → (bl i ≤ al j ∨ bl j ≤ al i)) (h1 : lo ≤ g) (h2 : g < hi) :
    OwS E t w lo hi (some ⟨g, 0, none⟩) xs := by
  refine ⟨hl, al, bl, fun j x hj => ?_, hd⟩
  have hjl := (List.getElem?_eq_some_iff.1 hj).1
  obtain ⟨vs, hvs⟩ : ∃ vs, us[j]? = some vs := ⟨_, List.getElem?_eq_getElem (by omega)⟩
  obtain ⟨ho, ha, hb, hd'⟩ := hO j x vs hj hvs
  refine ⟨g, 0, vs, us.flatten.toArray, rfl, h1, h2, hv, fun i u hi => ?_, ho, ha, hb, hd'⟩
  rw [Nat.zero_add, List.getElem?_toArray]
  exact flatten_at hk hvs hi
theorem frozen_of_cur {w : World} {g : Nat} {cur : Array Value} {t : TypeId} (h : w.heap[g]? = some (.cells cur t (0, 0))) (i : Nat) : w.frozen? ⟨g, i, none⟩ = false := by
  simp [World.frozen?, h]
theorem set_keep {w : World} {g i j : Nat} {u v : Value} (h : w.cell? ⟨g, j, none⟩ = some v) (hn : i ≠ j) : (w.setCell ⟨g, i, none⟩ u).cell? ⟨g, j, none⟩ = some v := by
  rw [World.cell?_setCell_other _ _ _ _ (fun e => hn (by injection e))]; exact h
theorem set_new {w : World} {g i : Nat} {u v : Value} (h : w.cell? ⟨g, i, none⟩ = some v) : (w.setCell ⟨g, i, none⟩ u).cell? ⟨g, i, none⟩ = some u := World.cell?_setCell_same _ _ _ h
end Go.Proofs.YtphdcgimibnajaaGreat
namespace Go.Proofs.YtphdcgimibnajaaGreat
set_option maxRecDepth 100000
open Go Go.RowKit
/-- Elements whose cells are all that they are. -/
structure PE {α : Type} (E : EK α) (f : α → List Value) : Prop where
  R : ∀ {w vs x}, E.R w vs x ↔ vs = f x
  O : ∀ {w a b vs x}, E.O w a b vs x ↔ vs = f x
  len : ∀ x, (f x).length = E.k
  one : ∀ x, ∀ u ∈ f x, u.oneCell' = true
  pos : 0 < E.k
variable {α : Type} {E : EK α} {f : α → List Value} {t : TypeId}
def flatL (f : α → List Value) (xs : List α) : List Value := (xs.map f).flatten
theorem PE.flen (P : PE E f) (xs : List α) : (flatL f xs).length = xs.length * E.k := by
  unfold flatL
  rw [flatten_len (k := E.k) (fun u hu => by obtain ⟨y, _, rfl⟩ := List.mem_map.1 hu; exact P.len y), List.length_map]
theorem PE.fat (P : PE E f) {xs : List α} {j : Nat} {x : α} (h : xs[j]? = some x) {i : Nat} {u : Value} (hu : (f x)[i]? = some u) : (flatL f xs)[j * E.k + i]? = some u :=
  flatten_at (k := E.k) (fun u hu => by obtain ⟨y, _, rfl⟩ := List.mem_map.1 hu; exact P.len y) (by rw [List.getElem?_map, h]; rfl) hu
theorem flatL_append (xs ys : List α) : flatL f (xs ++ ys) = flatL f xs ++ flatL f ys := by simp [flatL]
theorem PE.fone (P : PE E f) {xs : List α} {u : Value} (h : u ∈ flatL f xs) : u.oneCell' = true := by
  obtain ⟨l, hl, hu⟩ := List.mem_flatten.1 h
  obtain ⟨x, _, rfl⟩ := List.mem_map.1 hl
  exact P.one x u hu
/-- v lists xs, in a block of the call's own from B on. -/
def AF (E : EK α) (f : α → List Value) (t : TypeId) (w : World) (B : Nat) (v : Value) (xs : List α) : Prop := w.ownsRow B t E.k v xs.length (flatL f xs)
theorem AF.nil (w : World) (B : Nat) : AF E f t w B (.slice none 0 0) [] := World.ownsRow_nil w B t E.k
theorem AF.empty (w : World) {B : Nat} (hB : B ≤ w.heap.size) : AF E f t (w.alloc (.cells #[] t)) B (.slice (some ⟨w.heap.size, 0, none⟩) 0 0) [] :=
  ⟨by simp [flatL], .inr ⟨w.heap.size, 0, #[], rfl, hB, heap_alloc_new w _, Nat.le_refl _, Nat.zero_le _, by simp, by simp [flatL]⟩⟩
theorem AF.lt {w : World} {B : Nat} {v : Value} {xs : List α} (h : AF E f t w B v xs) : ∀ k, v.ownBlock = some k → B ≤ k ∧ k < w.heap.size := World.ownsRow.lt h
theorem AF.drew {w : World} {B : Nat} {v : Value} {xs : List α} (h : AF E f t w B v xs) : AF E f t w.drew B v xs := h
theorem AF.more {w : World} {B B' : Nat} {v : Value} {xs : List α} (h : AF E f t w B v xs) (hB : B' ≤ B) : AF E f t w B' v xs := by
  obtain ⟨h1, h2⟩ := h
  refine ⟨h1, ?_⟩
  rcases h2 with h2 | ⟨g, cap, cur, hv, hBg, r⟩
  · exact .inl h2
  · exact .inr ⟨g, cap, cur, hv, by omega, r⟩
theorem AF.keep {w w' : World} {B : Nat} {v : Value} {xs : List α} (h : AF E f t w B v xs) (he : ∀ k, v.ownBlock = some k → k < w.heap.size → w'.heap[k]? = w.heap[k]?) : AF E f t w' B v xs := by
  obtain ⟨h1, h2⟩ := h
  refine ⟨h1, ?_⟩
  rcases h2 with h2 | ⟨g, cap, cur, hv, hBg, hh, r⟩
  · exact .inl h2
  · exact .inr ⟨g, cap, cur, hv, hBg, (he g (by rw [hv]; rfl) (heap_lt_of hh)).trans hh, r⟩
theorem AF.ex {w w' : World} {B : Nat} {v : Value} {xs : List α} (h : AF E f t w B v xs) (he : Ex w w') : AF E f t w' B v xs := h.keep fun _ _ hk => he.block hk
theorem AF.iv {w w' : World} {B a b : Nat} {v : Value} {xs : List α} (h : AF E f t w B v xs) (k : ExI a b w w') (hd : b ≤ B) : AF E f t w' B v xs := h.keep fun q hq hl => k.block q hl (by have := h.lt q hq; omega)
theorem AF.k1 {w w' : World} {B g : Nat} {v : Value} {xs : List α} (h : AF E f t w B v xs) (he : Ex1 g w w') (hne : v.ownBlock ≠ some g) : AF E f t w' B v xs :=
  h.keep fun q hq hl => he.block q hl (by intro e; injection e with e; exact hne (by rw [hq, e]))
theorem AF.exo {w w' : World} {B : Nat} {v : Value} {xs : List α} {o : Option Nat} (h : AF E f t w B v xs) (he : ExO o w w') (hne : ∀ g, o = some g → v.ownBlock ≠ some g) : AF E f t w' B v xs :=
  h.keep fun q hq hl => he.block q hl (by intro e; exact hne q e.symm hq)
theorem AF.form {w : World} {B : Nat} {v : Value} {xs : List α} (h : AF E f t w B v xs) : ∃ A c, v = .slice A xs.length c ∧ (xs.length ≤ c) := by
  rcases h.2 with ⟨e, hn⟩ | ⟨g, cap, cur, e, _, _, h1, _⟩
  · exact ⟨none, 0, by rw [e, hn], by omega⟩
  · exact ⟨_, cap, e, h1⟩
/-- The cells of a block of the call's own. -/
theorem AF.own {w : World} {B g o n c : Nat} {xs : List α} (h : AF E f t w B (.slice (some ⟨g, o, none⟩) n c) xs) : o = 0 ∧ n = xs.length ∧ n ≤ c ∧ B ≤ g ∧ ∃ cur : Array Value, w.heap[g]? = some (.cells cur t (0, 0)) ∧ cur.size = c * E.k ∧ cur.toList.take (xs.length * E.k) = flatL f xs := by
  rcases h.2 with ⟨e, _⟩ | ⟨g', cap, cur, e, h1, h2, h3, _, h4, h5⟩
  · cases e
  · injection e with e1 e2 e3
    injection e1 with e1
    injection e1 with e1 e4
    subst e1 e2 e3
    exact ⟨e4, rfl, h3, h1, cur, h2, h4, h5⟩
theorem PE.cur (P : PE E f) {cur : Array Value} {xs : List α} (h : cur.toList.take (xs.length * E.k) = flatL f xs) {j : Nat} {x : α} (hj : xs[j]? = some x) {i : Nat} {u : Value} (hu : (f x)[i]? = some u) : cur[j * E.k + i]? = some u := by
  have e := P.fat hj hu
  rw [← h, List.getElem?_take] at e
  split at e
  · simpa using e
  · cases e
/-- As a slice that is owned in an interval. -/
theorem AF.ows {w : World} {B : Nat} {v : Value} {xs : List α} (h : AF E f t w B v xs) (P : PE E f) (hl : xs.length ≤ 1099511627776) : ∃ A c, v = .slice A xs.length c ∧ OwS E t w B w.heap.size A xs ∧ RdS E w A xs ∧ xs.length ≤ c := by
  have key : ∃ A c, v = .slice A xs.length c ∧ OwS E t w B w.heap.size A xs ∧ xs.length ≤ c := by
    rcases h.2 with ⟨hv, hn⟩ | ⟨g, cap, cur, hv, hB, hh, hnc, _, _, htk⟩
    · have : xs = [] := List.eq_nil_of_length_eq_zero hn
      subst this
      exact ⟨none, 0, hv, OwS.nil _ _ _ _ _ _, Nat.le_refl _⟩
    · refine ⟨_, cap, hv, ⟨by omega, fun _ => w.heap.size, fun _ => B, fun j x hj => ⟨g, 0, f x, cur, rfl, hB, heap_lt_of hh, hh, fun i u hu => ?_, P.O.2 rfl, by have := heap_lt_of hh; show B ≤ w.heap.size; omega, by have := heap_lt_of hh; show B ≤ w.heap.size; omega, .inl (heap_lt_of hh)⟩, fun i j _ _ _ => .inl (by have := heap_lt_of hh; show B ≤ w.heap.size; omega)⟩, hnc⟩
      rw [Nat.zero_add]
      exact P.cur htk hj hu
  obtain ⟨A, c, h1, h2, h3⟩ := key
  exact ⟨A, c, h1, h2, h2.rd, h3⟩
/-- Fewer of its elements. -/
theorem AF.take {w : World} {B g n c : Nat} {xs : List α} (h : AF E f t w B (.slice (some ⟨g, 0, none⟩) n c) xs) (P : PE E f) (k : Nat) (hk : k ≤ xs.length) : AF E f t w B (.slice (some ⟨g, 0, none⟩) k c) (xs.take k) := by
  have hl : (xs.take k).length = k := by rw [List.length_take]; omega
  rcases h.2 with ⟨e, _⟩ | ⟨g', cap, cur, e, h1, h2, h3, h4, h5, h6⟩
  · cases e
  · injection e with e1 e2 e3
    injection e1 with e1
    injection e1 with e1 _
    subst e1 e2 e3
    unfold AF
    rw [hl]
    have hfl : flatL f (xs.take k) = (flatL f xs).take (k * E.k) := by
      have e1 : flatL f xs = flatL f (xs.take k) ++ flatL f (xs.drop k) := by rw [← flatL_append, List.take_append_drop]
      rw [e1, List.take_append_of_le_length (by rw [P.flen, hl]; exact Nat.le_refl _)]
      exact (List.take_of_length_le (by rw [P.flen, hl]; exact Nat.le_refl _)).symm
    refine ⟨by rw [P.flen, hl], .inr ⟨g, c, cur, rfl, h1, h2, by omega, h4, h5, ?_⟩⟩
    rw [hfl, ← h6, List.take_take]
    congr 1
    have : k * E.k ≤ xs.length * E.k := Nat.mul_le_mul_right _ hk
    omega
/-- An append of all of a list that reads. -/
theorem run_append_af {P : Program} (pe : PE E f) {tS : TypeId} (ty : TypeId) {i : TypeInfo} {z : Value} {bytes : Nat} (ht : P.underlying tS = some (.slice t)) (hi : P.info? t = some i) (hz : i.zero = some z) (hs : i.size = E.k) (hby : i.bytes = bytes) (hzs : z.cells.size = E.k)
    (w : World) (B : Nat) (v : Value) (ys : List α) (hv : AF E f t w B v ys) (hB : B ≤ w.heap.size) (A : Option Addr) (c : Nat) (xs : List α) (h : RdS E w A xs) (hl : ys.length + xs.length ≤ 1099511627776) (hbs : bytes ≤ 100) :
    ∃ v' w', (Builtin.append_ #[tS, tS] ty #[v, .slice A xs.length c]).run P w = .ok v' w' ∧ AF E f t w' B v' (ys ++ xs) ∧ (v'.ownBlock = v.ownBlock ∨ v'.ownBlock = some w.heap.size) ∧ ExO v.ownBlock w w' ∧ (v' = .slice none 0 0 → v = .slice none 0 0 ∧ xs = []) := by
  have hk := pe.pos
  rcases A with _ | ad
  · have hx : xs = [] := by
      cases xs with
      | nil => rfl
      | cons x xs => obtain ⟨g, off, vs, hA, _⟩ := h.2 0 x rfl; cases hA
    subst hx
    refine ⟨v, w, ?_, by simpa using hv, .inl rfl, ExO.refl _ _, fun e => ⟨e, rfl⟩⟩
    rcases hv.2 with ⟨rfl, _⟩ | ⟨g, cap, cur, rfl, _, _, hnc, _⟩
    · simp [Builtin.append_, run_underlying ht, sizeOf, typeInfo, hi, Builtin.lenOf, Builtin.firstCells]
    · simp [Builtin.append_, run_underlying ht, sizeOf, typeInfo, hi, Builtin.lenOf, Builtin.firstCells, hnc, storeCells]
  · have hc : ∀ (j : Nat) (u : Value), (flatL f xs)[j]? = some u → w.cell? (ad.add j) = some u := by
      intro j u hu
      have hjl := (List.getElem?_eq_some_iff.1 hu).1
      rw [pe.flen] at hjl
      have hq : j / E.k < xs.length := Nat.div_lt_of_lt_mul (by rw [Nat.mul_comm]; exact hjl)
      obtain ⟨g, off, vs, hA, hcell, hvs⟩ := h.2 (j / E.k) _ (List.getElem?_eq_getElem hq)
      have hvs := pe.R.1 hvs
      subst hvs
      injection hA with hA
      subst hA
      have hm : j / E.k * E.k + j % E.k = j := by rw [Nat.mul_comm]; exact Nat.div_add_mod j E.k
      have hlt : j % E.k < (f xs[j / E.k]).length := by rw [pe.len]; exact Nat.mod_lt _ hk
      have hr : (f xs[j / E.k])[j % E.k]? = some u := by
        have e := pe.fat (List.getElem?_eq_getElem hq) (List.getElem?_eq_getElem hlt)
        rw [hm, hu] at e
        rw [List.getElem?_eq_getElem hlt]
        exact e.symm
      have e : (⟨g, off, none⟩ : Addr).add j = ⟨g, off + j, none⟩ := by unfold Addr.add; split <;> simp_all
      rw [e]
      have := hcell (j % E.k) u hr
      rwa [Nat.add_assoc, hm] at this
    have hb1 : (ys.length + xs.length) * bytes ≤ 1099511627776 * 100 := Nat.mul_le_mul hl hbs
    obtain ⟨v', w', hrun, h2, h3, h4, h5⟩ := run_append_own_at (P := P) w B tS ty t i z E.k bytes ht hi hz hs hby hzs hk v ys.length _ hv ad xs.length c (flatL f xs) (pe.flen xs) hc (fun u hu => pe.fone hu) (by unfold maxLen; omega) (by omega) hB
    refine ⟨v', w', hrun, ?_, h5, h3, fun e => ⟨(h4.1 e).1, List.eq_nil_of_length_eq_zero (h4.1 e).2⟩⟩
    unfold AF
    rw [List.length_append, flatL_append]
    exact h2
/-- One element in a block of its own. -/
theorem PE.blk (pe : PE E f) (w : World) (x : α) : RdS E (w.alloc (.cells (f x).toArray t)) (some ⟨w.heap.size, 0, none⟩) [x] := by
  have v := VB.new w t (f x).toArray
  refine ⟨by simp, fun j y hj => ?_⟩
  cases j with
  | zero =>
    simp at hj
    subst hj
    refine ⟨_, 0, f x, rfl, fun i u hu => ?_, pe.R.2 rfl⟩
    have := v.cell i (v := u) (by simpa using hu)
    simpa using this
  | succ j => simp at hj
/-- One element appended. -/
theorem af_push {P : Program} (pe : PE E f) {tS : TypeId} (ty : TypeId) {i : TypeInfo} {z : Value} {bytes : Nat} (ht : P.underlying tS = some (.slice t)) (hi : P.info? t = some i) (hz : i.zero = some z) (hs : i.size = E.k) (hby : i.bytes = bytes) (hzs : z.cells.size = E.k)
    (w : World) (B : Nat) (v : Value) (ys : List α) (x : α) (hv : AF E f t w B v ys) (hB : B ≤ w.heap.size) (hl : ys.length + 1 ≤ 1099511627776) (hbs : bytes ≤ 100) :
    ∃ v' w', (Builtin.append_ #[tS, tS] ty #[v, .slice (some ⟨w.heap.size, 0, none⟩) 1 1]).run P (w.alloc (.cells (f x).toArray t)) = .ok v' w' ∧ AF E f t w' B v' (ys ++ [x]) ∧ (v'.ownBlock = v.ownBlock ∨ ∃ k, v'.ownBlock = some k ∧ w.heap.size ≤ k) ∧ ExO v.ownBlock w w' ∧ v' ≠ .slice none 0 0 := by
  have ha := (Ex.refl w).alloc (.cells (f x).toArray t)
  obtain ⟨v', w', h1, h2, h4, h5, h6⟩ := run_append_af pe ty ht hi hz hs hby hzs _ B v ys (hv.ex ha) (Nat.le_trans hB ha.size) (some ⟨w.heap.size, 0, none⟩) 1 [x] (pe.blk (t := t) w x) (by simpa using hl) hbs
  exact ⟨v', w', h1, h2, h4.imp id (fun e => ⟨_, e, ha.size⟩), (ExO.of_ex ha).trans h5, fun e => by have := (h6 e).2; simp at this⟩
end Go.Proofs.YtphdcgimibnajaaGreat
namespace Go.Proofs.YtphdcgimibnajaaGreat
set_option maxRecDepth 100000
open Go Go.RowKit
open Go.Lib (Bytes run_convert_whole)
/-- A node of a term. -/
structure Nd where
  kd : Int
  vl : Int
  nm : ByteArray
def ndC (x : Nd) : List Value := [.int .i64 x.kd, .int .i64 x.vl, .string x.nm]
/-- The digits of a number ahead of a text. -/
def dgT : Nat → Int → ByteArray → ByteArray
  | 0, _, out => out
  | n + 1, k, out => if 0 < k then dgT n (k / 10) (⟨#[UInt8.ofNat (48 + (k % 10).toNat)]⟩ ++ out) else out
/-- The text that marks a number. -/
def mtx (k : Int) : ByteArray := if k ≤ 0 then ⟨#[109, 48]⟩ else ⟨#[109]⟩ ++ dgT 20 k ⟨#[]⟩
def EN : EK Nd where
  k := 3
  R := fun _ vs x => vs = ndC x
  O := fun _ _ _ vs x => vs = ndC x
  tot := fun _ => 3
  mkE := fun k _ => ⟨k, k + 1, mtx (k + 2)⟩
  rlen := fun h => by subst h; rfl
  ex := fun h _ => h
  rd := fun h => h
  keep := fun h _ => h
  nn := fun _ => by omega
  tmk := fun _ _ => rfl
theorem peN : PE EN ndC where
  R := Iff.rfl
  O := Iff.rfl
  len := fun _ => rfl
  one := fun x u hu => by
    simp only [ndC, List.mem_cons, List.not_mem_nil, or_false] at hu
    rcases hu with rfl | rfl | rfl <;> rfl
  pos := by decide
def RN (w : World) (v : Value) (x : List Nd) : Prop := RS EN w v x
def ON (w : World) (a b : Nat) (v : Value) (x : List Nd) : Prop := OS EN 84 w a b v x
def totN (x : List Nd) : Int := totS EN x
def mkN (k : Int) (x : List Nd) : List Nd := mkS EN k x
theorem totN_nn (x : List Nd) : 0 ≤ totN x := totS_nn EN x
theorem RN.ex {w w' : World} {v : Value} {x : List Nd} (h : RN w v x) (he : Ex w w') : RN w' v x := RS.ex h he
theorem RN.tot {w : World} {v : Value} {x : List Nd} (h : RN w v x) : totN x ≤ 1125899906842624 := RS.tot h
theorem RN.form {w : World} {v : Value} {x : List Nd} (h : RN w v x) : ∃ A n c, v = .slice A n c := RS.form h
theorem ON.rd {w : World} {a b : Nat} {v : Value} {x : List Nd} (h : ON w a b v x) : RN w v x := OS.rd h
theorem ON.ex {w w' : World} {a b : Nat} {v : Value} {x : List Nd} (h : ON w a b v x) (he : Ex w w') : ON w' a b v x := OS.ex h he
theorem ON.iv {w w' : World} {a b a' b' : Nat} {v : Value} {x : List Nd} (h : ON w a b v x) (k : ExI a' b' w w') (hd : b ≤ a' ∨ b' ≤ a) : ON w' a b v x := OS.iv h k hd
theorem ON.e1 {w w' : World} {a b g : Nat} {v : Value} {x : List Nd} (h : ON w a b v x) (k : Ex1 g w w') (hd : g < a ∨ b ≤ g) : ON w' a b v x := OS.e1 h k hd
theorem ON.more {w : World} {a b a' b' : Nat} {v : Value} {x : List Nd} (h : ON w a b v x) (ha : a' ≤ a) (hb : b ≤ b') : ON w a' b' v x := OS.more h ha hb
theorem RdS.node {w : World} {A : Option Addr} {xs : List Nd} (h : RdS EN w A xs) {j : Nat} (hj : j < xs.length) :
    ∃ g off x, A = some ⟨g, off, none⟩ ∧ xs[j]? = some x ∧ w.cell? ⟨g, off + j * 3, none⟩ = some (.int .i64 x.kd) ∧ w.cell? ⟨g, off + j * 3 + 1, none⟩ = some (.int .i64 x.vl) ∧ w.cell? ⟨g, off + j * 3 + 2, none⟩ = some (.string x.nm) := by
  obtain ⟨g, off, vs, x, hA, hx, hc, rfl⟩ := h.at_ hj
  exact ⟨g, off, x, hA, hx, hc 0 _ rfl, hc 1 _ rfl, hc 2 _ rfl⟩
theorem nodeInfo : (Tryz.prog.info? 84).map (fun i => (i.zero, i.size, i.bytes)) = some (some (.agg #[.int .i64 0, .int .i64 0, .string ⟨#[]⟩]), 3, 32) := by kernel_rfl
def AN (w : World) (B : Nat) (v : Value) (xs : List Nd) : Prop := AF EN ndC 84 w B v xs
theorem AN.lt {w : World} {B : Nat} {v : Value} {xs : List Nd} (h : AN w B v xs) : ∀ k, v.ownBlock = some k → B ≤ k ∧ k < w.heap.size := AF.lt h
theorem AN.more {w : World} {B B' : Nat} {v : Value} {xs : List Nd} (h : AN w B v xs) (hB : B' ≤ B) : AN w B' v xs := AF.more h hB
theorem AN.ex {w w' : World} {B : Nat} {v : Value} {xs : List Nd} (h : AN w B v xs) (he : Ex w w') : AN w' B v xs := AF.ex h he
theorem AN.iv {w w' : World} {B a b : Nat} {v : Value} {xs : List Nd} (h : AN w B v xs) (k : ExI a b w w') (hd : b ≤ B) : AN w' B v xs := AF.iv h k hd
theorem AN.k1 {w w' : World} {B g : Nat} {v : Value} {xs : List Nd} (h : AN w B v xs) (he : Ex1 g w w') (hne : v.ownBlock ≠ some g) : AN w' B v xs := AF.k1 h he hne
theorem AN.keep {w w' : World} {B : Nat} {v : Value} {xs : List Nd} (h : AN w B v xs) (he : ∀ k, v.ownBlock = some k → k < w.heap.size → w'.heap[k]? = w.heap[k]?) : AN w' B v xs := AF.keep h he
theorem AN.form {w : World} {B : Nat} {v : Value} {xs : List Nd} (h : AN w B v xs) : ∃ A c, v = .slice A xs.length c ∧ (xs.length ≤ c) := AF.form h
theorem an_append (ty : TypeId) (w : World) (B : Nat) (v : Value) (ys : List Nd) (hv : AN w B v ys) (hB : B ≤ w.heap.size) (A : Option Addr) (c : Nat) (xs : List Nd) (h : RdS EN w A xs) (hl : ys.length + xs.length ≤ 1099511627776) :
    ∃ v' w', (Builtin.append_ #[27, 27] ty #[v, .slice A xs.length c]).run Tryz.prog w = .ok v' w' ∧ AN w' B v' (ys ++ xs) ∧ (v'.ownBlock = v.ownBlock ∨ v'.ownBlock = some w.heap.size) ∧ ExO v.ownBlock w w' ∧ (v' = .slice none 0 0 → v = .slice none 0 0 ∧ xs = []) := by
  obtain ⟨i, hi, hz, hs, hb⟩ := info_parts nodeInfo
  exact run_append_af peN ty Tryz.underlying27 hi hz hs hb rfl w B v ys hv hB A c xs h hl (by omega)
theorem an_push (ty : TypeId) (w : World) (B : Nat) (v : Value) (ys : List Nd) (x : Nd) (hv : AN w B v ys) (hB : B ≤ w.heap.size) (hl : ys.length + 1 ≤ 1099511627776) :
    ∃ v' w', (Builtin.append_ #[27, 27] ty #[v, .slice (some ⟨w.heap.size, 0, none⟩) 1 1]).run Tryz.prog (w.alloc (.cells #[.int .i64 x.kd, .int .i64 x.vl, .string x.nm] 84)) = .ok v' w' ∧ AN w' B v' (ys ++ [x]) ∧ (v'.ownBlock = v.ownBlock ∨ ∃ k, v'.ownBlock = some k ∧ w.heap.size ≤ k) ∧ ExO v.ownBlock w w' ∧ v' ≠ .slice none 0 0 := by
  obtain ⟨i, hi, hz, hs, hb⟩ := info_parts nodeInfo
  exact af_push peN ty Tryz.underlying27 hi hz hs hb rfl w B v ys x hv hB hl (by omega)
theorem totN_eq (xs : List Nd) : totS EN xs = 3 * (xs.length : Int) := by
  induction xs with
  | nil => rfl
  | cons y ys ih => rw [totS_cons, ih, List.length_cons]; show 3 + _ = _; push_cast; omega
theorem AN.on {w : World} {B : Nat} {v : Value} {xs : List Nd} (h : AN w B v xs) (hl : xs.length ≤ 1099511627776) : ON w B w.heap.size v xs := by
  obtain ⟨A, c, e, o, _⟩ := h.ows peN hl
  exact ⟨⟨A, c, e, o⟩, by rw [totN_eq]; omega⟩
theorem run_convT2 (w : World) (b : Nat) (k : Nat) (hk : k < 256) (hv : w.cell? ⟨b, 0, none⟩ = some (.int .u8 (k : Int))) : (convert 109 9 (.slice (some ⟨b, 0, none⟩) 1 1)).run Tryz.prog w = .ok (.string ⟨#[UInt8.ofNat k]⟩) w := by
  have hb : Bytes w b 0 (⟨#[UInt8.ofNat k]⟩ : ByteArray) := by
    intro i hi
    have h0 : i = 0 := by
      have : i < 1 := hi
      omega
    subst h0
    have hn : ((⟨#[UInt8.ofNat k]⟩ : ByteArray)[0]'hi).toNat = k := by
      show (UInt8.ofNat k).toNat = k
      simp; omega
    rw [hn]
    exact hv
  exact run_convert_whole (P := Tryz.prog) _ 109 5 9 Tryz.underlying109 Tryz.underlying5 Tryz.underlying9 b 0 (⟨#[UInt8.ofNat k]⟩ : ByteArray) hb 1
theorem run_convT (w : World) (k : Nat) (hk : k < 256) : (convert 109 9 (.slice (some ⟨w.heap.size, 0, none⟩) 1 1)).run Tryz.prog (w.alloc (.cells #[.int .u8 (k : Int)] 5)) = .ok (.string ⟨#[UInt8.ofNat k]⟩) (w.alloc (.cells #[.int .u8 (k : Int)] 5)) :=
  run_convT2 _ _ k hk ((VB.new w 5 #[.int .u8 (k : Int)]).cell 0 (v := .int .u8 (k : Int)) rfl)
theorem dgT_step (n : Nat) {k : Int} (h : 0 < k) (out : ByteArray) : dgT (n + 1) k out = dgT n (k / 10) (⟨#[UInt8.ofNat (48 + (k % 10).toNat)]⟩ ++ out) := by rw [dgT, if_pos h]
theorem dgT_end (n : Nat) {k : Int} (h : ¬ 0 < k) (out : ByteArray) : dgT n k out = out := by
  cases n with
  | zero => rfl
  | succ n => rw [dgT, if_neg h]
set_option maxHeartbeats 2000000 in
theorem markText_c (k : Int) (hk : k ≤ 4611686018427387904) (w : World) : Calls Tryz.prog 70 #[.int .i64 k] w fun e w' => e = .returned (.string (mtx k)) ∧ Ex w w' := by
  by_cases h0 : k ≤ 0
  · have Hm := Lib.hid (show mtx k = ⟨#[109, 48]⟩ from if_pos h0)
    go_enter Tryz.func70, Tryz.ntmps70
    go_wp2_with fail
    go_ret
    rw [Hm.out]
    exact ⟨rfl, Ex.refl _⟩
  · have Hm := Lib.hid (show mtx k = ⟨#[109]⟩ ++ dgT 20 k ⟨#[]⟩ from if_neg h0)
    go_enter Tryz.func70, Tryz.ntmps70
    go_wp2_with fail
    go_loopw [0, 3] (fun q o wr => ∃ (n : Nat) (j : Int) (out : ByteArray), n ≤ 20 ∧ q = .int .i64 j ∧ o = .string out ∧ 0 ≤ j ∧ j < 10 ^ n ∧ j ≤ 4611686018427387904 ∧ Hid (dgT n j out = dgT 20 k ⟨#[]⟩) ∧ out.size + n ≤ 20 ∧ Ex w wr) (fun q _ _ => (intOf q).toNat)
    case atStart => exact ⟨20, k, ⟨#[]⟩, Nat.le_refl _, rfl, rfl, by omega, by omega, hk, Lib.hid rfl, by decide, Ex.refl _⟩
    case round =>
      rename World => wi
      obtain ⟨n, j, out, hn, rfl, rfl, hj0, hj1, hj2, HD, hos, he⟩ := hrel
      by_cases hlt : 0 < j
      · obtain ⟨n, rfl⟩ : ∃ m, n = m + 1 := ⟨n - 1, by
          cases n with
          | zero => simp at hj1; omega
          | succ n => rfl⟩
        have HS := Lib.hid (dgT_step n hlt out)
        obtain ⟨J, rfl⟩ : ∃ J : Nat, j = (J : Int) := ⟨j.toNat, by omega⟩
        have hc := run_convT wi (48 + J % 10) (by omega)
        rw [show ((48 + J % 10 : Nat) : Int) = 48 + (J : Int) % 10 by omega] at hc
        obtain ⟨S, hS⟩ : ∃ S : ByteArray, (⟨#[UInt8.ofNat (48 + J % 10)]⟩ : ByteArray) = S := ⟨_, rfl⟩
        have hSs : S.size = 1 := by rw [← hS]; rfl
        rw [hS] at hc
        have HS2 := Lib.hid (show dgT n ((J : Int) / 10) (S ++ out) = dgT 20 k ⟨#[]⟩ by
          rw [← HD.out, HS.out, ← hS]
          congr 3)
        clear hS HS HD
        have hl1 : ¬ (9223372036854775807 < S.size + out.size) := by omega
        go_wp2_with fail
        go_roundw
        case rel =>
          refine ⟨n, (J : Int) / 10, S ++ out, by omega, rfl, rfl, by omega, ?_, by omega, HS2, ?_, he.alloc _⟩
          · rw [Int.pow_succ] at hj1
            omega
          · rw [ByteArray.size_append, hSs]; omega
        case measure => simp [intOf]; omega
      · have HF := Lib.hid (dgT_end n hlt out)
        have hos2 : out.size ≤ 20 := by omega
        go_wp2_with fail
        go_ret
        rw [Hm.out, ← HD.out, HF.out]
        exact ⟨rfl, he⟩
theorem eqNode_c (x : Nd) (w : World) : Calls Tryz.prog 68 #[.agg #[.int .i64 x.kd, .int .i64 x.vl, .string x.nm], .agg #[.int .i64 x.kd, .int .i64 x.vl, .string x.nm]] w fun e w' => e = .returned (.bool true) ∧ Ex w w' := by
  obtain ⟨x0, x1, x2⟩ := x
  dsimp only
  go_enter Tryz.func68, Tryz.ntmps68
  go_wp2_with fail
  go_ret
  exact ⟨rfl, ((Ex.refl w).alloc _).alloc _⟩
theorem eqNodeS_u (x : List Nd) (v u : Value) (w : World) (h : RN w v x) (h' : RN w u x) :
    Calls Tryz.prog 29 #[v, u] w fun e w' => e = .returned (.bool true) ∧ Ex w w' := by
  obtain ⟨⟨A, c, rfl, h⟩, _⟩ := h
  obtain ⟨⟨A', c', rfl, h'⟩, _⟩ := h'
  have hl := h.1
  go_enter Tryz.func29, Tryz.ntmps29
  go_wp2
  go_loopw [5] (fun i wr => ∃ k : Nat, k ≤ x.length ∧ i = .int .i64 k ∧ Ex w wr) (fun i _ => x.length - (intOf i).toNat)
  case atStart => exact ⟨0, Nat.zero_le _, rfl, Ex.refl w⟩
  case round =>
    obtain ⟨k, hk, rfl, he⟩ := hrel
    by_cases hlt : k < x.length
    · obtain ⟨g, off, r, rfl, hr, c0, c1, c2⟩ := (h.ex he).node hlt
      obtain ⟨g', off', r', rfl, hr', d0, d1, d2⟩ := (h'.ex he).node hlt
      obtain rfl : r = r' := by rw [hr] at hr'; injection hr'
      clear hr hr'
      go_wp2_with fail
      go_region_held3 (fun W => W.cell? ⟨g, off + k * 3, none⟩ = some (.int .i64 r.kd) ∧ W.cell? ⟨g, off + k * 3 + 1, none⟩ = some (.int .i64 r.vl) ∧ W.cell? ⟨g, off + k * 3 + 2, none⟩ = some (.string r.nm) ∧ W.cell? ⟨g', off' + k * 3, none⟩ = some (.int .i64 r.kd) ∧ W.cell? ⟨g', off' + k * 3 + 1, none⟩ = some (.int .i64 r.vl) ∧ W.cell? ⟨g', off' + k * 3 + 2, none⟩ = some (.string r.nm)) (first | (exact ⟨cell_ex x1 c0, cell_ex x1 c1, cell_ex x1 c2, cell_ex x1 d0, cell_ex x1 d1, cell_ex x1 d2⟩) | (exact ⟨c0, c1, c2, d0, d1, d2⟩)) (first
        | (go_at_call 68
           refine (eqNode_c r _).mono ?_
           rintro e w1 ⟨rfl, x1⟩))
      all_goals go_wp2
      all_goals exact ⟨⟨k + 1, by omega, by go_num, he.drew.trans x1⟩, by simp [intOf] <;> omega⟩
    · obtain rfl : k = x.length := by omega
      go_wp2
      go_ret
      exact ⟨rfl, he⟩
theorem TurnS.ex {g s e a b : Nat} {t : TypeId} {v w w' : World} (h : TurnS g s e a b t v w) (k : Ex w w') (_hg : g < v.heap.size) : TurnS g s e a b t v w' :=
  ⟨k.os.trans h.os, k.tape.trans h.tape, k.output.trans h.output, Nat.le_trans h.size k.size, fun i hi hn hd => (k.block (Nat.lt_of_lt_of_le hi h.size)).trans (h.block i hi hn hd), fun cur hc => by
    obtain ⟨cur', h1, h2⟩ := h.row cur hc
    exact ⟨cur', (k.block (heap_lt_of h1)).trans h1, h2⟩⟩
theorem set3_cells {w w2 : World} {g o : Nat} {a0 a1 a2 : Value} (h0 : w.cell? ⟨g, o, none⟩ = some a0) (h1 : w.cell? ⟨g, o + 1, none⟩ = some a1) (h2 : w.cell? ⟨g, o + 2, none⟩ = some a2) (u0 u1 u2 : Value) (hx : Ex ((w.setCell ⟨g, o, none⟩ u0).setCell ⟨g, o + 1, none⟩ u1) w2) :
    ∀ (q : Nat) (u : Value), [u0, u1, u2][q]? = some u → (w2.setCell ⟨g, o + 2, none⟩ u2).cell? ⟨g, o + q, none⟩ = some u := by
  have k0 := set_keep (u := u2) (i := o + 2) (cell_ex hx (set_keep (u := u1) (i := o + 1) (set_new (u := u0) h0) (by omega))) (by omega)
  have k1 := set_keep (u := u2) (i := o + 2) (cell_ex hx (set_new (u := u1) (set_keep (u := u0) (i := o) h1 (by omega)))) (by omega)
  have k2 := set_new (u := u2) (cell_ex hx (set_keep (u := u1) (i := o + 1) (set_keep (u := u0) (i := o) h2 (by omega)) (by omega)))
  generalize w2.setCell ⟨g, o + 2, none⟩ u2 = W at *
  intro q u hq
  rcases q with _ | _ | _ | q
  · simp at hq; subst hq; exact k0
  · simp at hq; subst hq; exact k1
  · simp at hq; subst hq; exact k2
  · simp at hq
set_option maxHeartbeats 2000000 in
theorem markNodeS_u (lo hi : Nat) (x : List Nd) (v : Value) (k : Int) (w : World) (h : ON w lo hi v x) (_hb : hi ≤ w.heap.size) (hk0 : 0 ≤ k) (hk : k + totN x ≤ 4611686018427387904) :
    Calls Tryz.prog 32 #[v, .int .i64 k] w fun e w' => e = .returned (.int .i64 (k + totN x)) ∧ ON w' lo hi v (mkN k x) ∧ ExI lo hi w w' := by
  obtain ⟨⟨A, c, rfl, h⟩, ht⟩ := h
  have hl := h.1
  go_enter Tryz.func32, Tryz.ntmps32
  go_wp2
  go_loopw [1, 5] (fun q i wr => ∃ j : Nat, j ≤ x.length ∧ q = .int .i64 (k + totS EN (x.take j)) ∧ i = .int .i64 j ∧ OwS EN 84 wr lo hi A ((mkS EN k x).take j ++ x.drop j) ∧ ExI lo hi w wr) (fun _ i _ => x.length - (intOf i).toNat)
  case atStart => exact ⟨0, Nat.zero_le _, by simp [totS], rfl, by simpa using h, ExI.refl _ _ _⟩
  case round =>
    rename World => wj
    obtain ⟨j, hj, rfl, rfl, hf, he⟩ := hrel
    by_cases hlt : j < x.length
    · obtain ⟨r, hr⟩ : ∃ r, x[j]? = some r := ⟨_, List.getElem?_eq_getElem hlt⟩
      have hml : ((mkS EN k x).take j).length = j := by rw [List.length_take, mkS_len]; omega
      have hr2 : ((mkS EN k x).take j ++ x.drop j)[j]? = some r := by rw [List.getElem?_append_right (by omega), hml, Nat.sub_self, List.getElem?_drop]; simpa using hr
      obtain ⟨g, off, vs, a, b, cur, rfl, hh, hc, rfl, hg1, hg2, ha, hb', hd, hset⟩ := hf.row hr2
      have s1 := totS_nn EN (x.take j)
      have s2 := totS_take_succ EN hr
      have s3 := totS_take_le EN x (j + 1)
      have e4 : EN.tot r = 3 := rfl
      rw [e4] at s2
      have HS := Lib.hid (mkS_step EN k x j r hr)
      have S2 := Lib.hid s2
      have c0 := hc 0 _ rfl
      have c1 := hc 1 _ rfl
      have c2 := hc 2 _ rfl
      simp only [show EN.k = 3 from rfl, Nat.add_zero] at c0 c1 c2 hset
      have z0 := frozen_of_cur hh (off + j * 3)
      have z1 := frozen_of_cur hh (off + j * 3 + 1)
      have z2 := frozen_of_cur hh (off + j * 3 + 2)
      have hk4 : k + totS EN (x.take j) + 3 ≤ 4611686018427387904 := by have : totN x = totS EN x := rfl; omega
      have hgl := heap_lt_of hh
      have HH := Lib.hid hh
      clear hr hr2 s2 hml hc hh
      go_wp2_with fail
      refine (markText_c _ (by omega) _).mono ?_
      rintro e w2 ⟨rfl, x2⟩
      have C := set3_cells c0 c1 c2 (.int .i64 (k + totS EN (x.take j))) (.int .i64 (k + totS EN (x.take j) + 1)) (.string (mtx (k + totS EN (x.take j) + 1 + 1))) x2
      have T := ((((TurnS.refl g (off + j * 3) (off + j * 3 + 3) a b 84 wj).set (o := off + j * 3) (by omega) (by omega) (.int .i64 (k + totS EN (x.take j)))).set (o := off + j * 3 + 1) (by omega) (by omega) (.int .i64 (k + totS EN (x.take j) + 1))).ex x2 hgl).set (o := off + j * 3 + 2) (by omega) (by omega) (.string (mtx (k + totS EN (x.take j) + 1 + 1)))
      have T2 := (((TurnS.refl g (off + j * 3) (off + j * 3 + 3) a b 84 wj).set (o := off + j * 3) (by omega) (by omega) (.int .i64 (k + totS EN (x.take j)))).set (o := off + j * 3 + 1) (by omega) (by omega) (.int .i64 (k + totS EN (x.take j) + 1))).ex x2 hgl
      obtain ⟨cur', hh2, _⟩ := T2.row cur HH.out
      have z2' := frozen_of_cur hh2 (off + j * 3 + 2)
      have c2' : w2.cell? ⟨g, off + j * 3 + 2, none⟩ = some (.string r.nm) := cell_ex x2 (set_keep (i := off + j * 3 + 1) (set_keep (i := off + j * 3) c2 (by omega)) (by omega))
      go_wp2_with fail
      go_roundw
      case rel =>
        have hf' := hset _ _ (EN.mkE (k + totS EN (x.take j)) r) T C (by
          generalize k + totS EN (x.take j) = K
          show [Value.int .i64 K, .int .i64 (K + 1), .string (mtx (K + 1 + 1))] = [.int .i64 K, .int .i64 (K + 1), .string (mtx (K + 2))]
          rw [show K + 1 + 1 = K + 2 by omega])
        rw [HS.out] at hf'
        exact ⟨j + 1, by omega, by rw [S2.out]; congr 1; omega, by go_num, hf', he.trans (T.exi hg1 hg2 ha hb')⟩
      case measure => simp [intOf] <;> omega
    · obtain rfl : j = x.length := by omega
      go_wp2
      go_ret
      rw [List.drop_length, List.append_nil, List.take_of_length_le (by rw [mkS_len]; exact Nat.le_refl _)] at hf
      rw [List.take_length]
      exact ⟨rfl, ⟨⟨A, c, by rw [mkN, mkS_len], hf⟩, by rw [mkN, totS_mk]; exact ht⟩, he⟩
set_option maxHeartbeats 2000000 in
theorem heldNodeS_u (x : List Nd) (v : Value) (k : Int) (w : World) (h : RN w v (mkN k x)) (hk0 : 0 ≤ k) (hk : k + totN x ≤ 4611686018427387904) :
    Calls Tryz.prog 33 #[v, .int .i64 k] w fun e w' => e = .returned (.int .i64 (k + totN x)) ∧ Ex w w' := by
  obtain ⟨⟨A, c, e, h⟩, _⟩ := h
  rw [mkN, mkS_len] at e
  subst e
  have hl := h.1
  rw [mkN, mkS_len] at hl
  go_enter Tryz.func33, Tryz.ntmps33
  go_wp2
  go_loopw [1, 5] (fun q i wr => ∃ j : Nat, j ≤ x.length ∧ q = .int .i64 (k + totS EN (x.take j)) ∧ i = .int .i64 j ∧ Ex w wr) (fun _ i _ => x.length - (intOf i).toNat)
  case atStart => exact ⟨0, Nat.zero_le _, by simp [totS], rfl, Ex.refl _⟩
  case round =>
    rename World => wj
    obtain ⟨j, hj, rfl, rfl, he⟩ := hrel
    by_cases hlt : j < x.length
    · obtain ⟨r, hr⟩ : ∃ r, x[j]? = some r := ⟨_, List.getElem?_eq_getElem hlt⟩
      obtain ⟨g, off, r', rfl, hr', c0, c1, c2⟩ := (h.ex he).node (by rw [mkN, mkS_len]; exact hlt : j < (mkN k x).length)
      rw [mkN, mkS_at EN k x j r hr] at hr'
      injection hr' with hr'
      subst hr'
      have s1 := totS_nn EN (x.take j)
      have s2 := totS_take_succ EN hr
      have s3 := totS_take_le EN x (j + 1)
      have e4 : EN.tot r = 3 := rfl
      rw [e4] at s2
      have S2 := Lib.hid s2
      have hk4 : k + totS EN (x.take j) + 3 ≤ 4611686018427387904 := by have : totN x = totS EN x := rfl; omega
      replace c0 : wj.cell? ⟨g, off + j * 3, none⟩ = some (.int .i64 (k + totS EN (x.take j))) := c0
      replace c1 : wj.cell? ⟨g, off + j * 3 + 1, none⟩ = some (.int .i64 (k + totS EN (x.take j) + 1)) := c1
      replace c2 : wj.cell? ⟨g, off + j * 3 + 2, none⟩ = some (.string (mtx (k + totS EN (x.take j) + 2))) := c2
      clear hr s2
      have e12 : k + totS EN (x.take j) + 1 + 1 = k + totS EN (x.take j) + 2 := by omega
      have cM := markText_c (k + totS EN (x.take j) + 2) (by omega) wj.drew
      generalize mtx (k + totS EN (x.take j) + 2) = M at *
      rw [← e12] at cM
      clear e12
      go_wp2_with fail
      go_region_held3 (fun W => W.cell? ⟨g, off + j * 3 + 2, none⟩ = some (.string M)) (first
        | (exact c2)
        | (exact cell_ex x3 c2)) (first
        | (go_at_call 70
           refine cM.mono ?_
           rintro e w3 ⟨rfl, x3'⟩
           have x3 : Ex wj w3 := (Ex.refl wj).drew.trans x3'))
      go_wp2_with fail
      go_roundw
      case rel => exact ⟨j + 1, by omega, by rw [S2.out]; congr 1; omega, by go_num, he.trans x3⟩
      case measure => simp [intOf] <;> omega
    · obtain rfl : j = x.length := by omega
      rw [List.take_length]
      go_wp2
      go_ret
      exact ⟨rfl, he⟩
end Go.Proofs.YtphdcgimibnajaaGreat
