/- Valid rows, equal rows, valid rational relations: the program. Owned memory as a set of blocks: what turns only such blocks; slices of rows whose elements' own blocks are told apart one by one. Plain lemmas of mine. Lists of lists of fractions whose own blocks are told apart one by one: how they are owned, marked. The words and the laws' helpers on RatRelation: it reads, it is owned in an interval of blocks; copied, compared, marked, held. Printed by a program of mine. -/
import Derived.Test.YtmekhjnhcgmphaaDoorAp12
import Derived.Shelf.Abstract
import Derived.Defers
import Derived.Recover
import Derived.Laws.Pointers
import Derived.Test.YtmekhjnhcgmphaaDoorAp11
import Derived.Test.YtmekhjnhcgmphaaDoorAp14
import Derived.Test.YtmekhjnhcgmphaaDoorAp06
import Derived.Test.YtmekhjnhcgmphaaDoorAp10
namespace Go.Proofs.YtmekhjnhcgmphaaDoor
set_option maxRecDepth 100000
open Go Go.RowKit
/-- All rows have n valid fractions. -/
def okRow (p : Int) (n : Nat) (r : List Fra) : Bool := decide (r.length = n) && r.all fun x => fracB p x.n x.d
def okRows (p : Int) (n : Nat) (rows : List (List Fra)) : Bool := rows.all (okRow p n)
def fitB (l r : Int) : Bool := inB 0 12 l && inB 0 12 r && decide (l + r ≤ 12)
theorem ratFits_c (l r : Int) (w : World) : Calls Tryd.prog 28 #[.int .i64 l, .int .i64 r] w fun e w' => e = .returned (.bool (fitB l r)) ∧ w = w' := by
  cases h1 : inB 0 12 l with
  | false =>
    have H := Lib.hid (show fitB l r = false by rw [fitB, h1]; rfl)
    go_enter Tryd.func28, Tryd.ntmps28
    go_wp2_with fail
    refine (within_c l 0 12 w).mono ?_
    rintro e w1 ⟨rfl, rfl⟩
    rw [h1]
    go_wp2_with fail
    go_ret
    exact ⟨by rw [H.out]; rfl, rfl⟩
  | true =>
    cases h2 : inB 0 12 r with
    | false =>
      have H := Lib.hid (show fitB l r = false by rw [fitB, h1, h2]; rfl)
      go_enter Tryd.func28, Tryd.ntmps28
      go_wp2_with fail
      refine (within_c l 0 12 w).mono ?_
      rintro e w1 ⟨rfl, rfl⟩
      rw [h1]
      go_wp2_with fail
      refine (within_c r 0 12 w).mono ?_
      rintro e w1 ⟨rfl, rfl⟩
      rw [h2]
      go_wp2_with fail
      go_ret
      exact ⟨by rw [H.out]; rfl, rfl⟩
    | true =>
      have H := Lib.hid (show fitB l r = decide (l + r ≤ 12) by rw [fitB, h1, h2]; rfl)
      have hb1 : 0 ≤ l ∧ l ≤ 12 := by simpa [inB] using h1
      have hb2 : 0 ≤ r ∧ r ≤ 12 := by simpa [inB] using h2
      have hwr : IntKind.i64.wrap (l + r) = l + r := IntWalk.i64_in _ (by omega)
      go_enter Tryd.func28, Tryd.ntmps28
      go_wp2_with fail
      refine (within_c l 0 12 w).mono ?_
      rintro e w1 ⟨rfl, rfl⟩
      rw [h1]
      go_wp2_with fail
      refine (within_c r 0 12 w).mono ?_
      rintro e w1 ⟨rfl, rfl⟩
      rw [h2]
      go_wp2_with fail
      go_ret
      exact ⟨ret_bool (by rw [H.out]), rfl⟩
end Go.Proofs.YtmekhjnhcgmphaaDoor
namespace Go.Proofs.YtmekhjnhcgmphaaDoor
set_option maxRecDepth 100000
open Go Go.RowKit
/-- A fraction owned in the blocks of S. -/
def XFra (w : World) (S : Nat → Prop) (v0 v1 : Value) (x : Fra) : Prop := ∃ s0 s1 : Nat → Prop, XI w s0 v0 x.n ∧ XI w s1 v1 x.d ∧ (∀ k, s0 k → S k) ∧ (∀ k, s1 k → S k) ∧ ∀ k, s0 k → ¬ s1 k
theorem XFra.rd {w : World} {S : Nat → Prop} {v0 v1 : Value} {x : Fra} (h : XFra w S v0 v1 x) : RFra w v0 v1 x := by
  obtain ⟨_, _, h0, h1, _⟩ := h
  exact ⟨h0.rd, h1.rd⟩
theorem XFra.keep {w w' : World} {S : Nat → Prop} {v0 v1 : Value} {x : Fra} (h : XFra w S v0 v1 x) (hk : ∀ k, S k → k < w.heap.size → w'.heap[k]? = w.heap[k]?) : XFra w' S v0 v1 x := by
  obtain ⟨s0, s1, h0, h1, k0, k1, d⟩ := h
  exact ⟨s0, s1, h0.keep (fun k hs => hk k (k0 k hs)), h1.keep (fun k hs => hk k (k1 k hs)), k0, k1, d⟩
theorem XFra.mono {w : World} {S T : Nat → Prop} {v0 v1 : Value} {x : Fra} (h : XFra w S v0 v1 x) (hT : ∀ k, k < w.heap.size → S k → T k) : XFra w T v0 v1 x := by
  obtain ⟨s0, s1, h0, h1, k0, k1, d⟩ := h
  exact ⟨fun k => s0 k ∧ k < w.heap.size, fun k => s1 k ∧ k < w.heap.size, h0.mono (fun k hk hs => ⟨hs, hk⟩), h1.mono (fun k hk hs => ⟨hs, hk⟩), fun k hs => hT k hs.2 (k0 k hs.1), fun k hs => hT k hs.2 (k1 k hs.1), fun k a b => d k a.1 b.1⟩
theorem OFra.xf {w : World} {a b : Nat} {v0 v1 : Value} {x : Fra} (h : OFra w a b v0 v1 x) : XFra w (fun k => a ≤ k ∧ k < b) v0 v1 x := by
  obtain ⟨a0, b0, a1, b1, m0, m1, c0, c1, c2, c3, c4⟩ := h
  exact ⟨_, _, m0.xi, m1.xi, fun k hk => by omega, fun k hk => by omega, fun k h1 h2 => by omega⟩
/-- How an element of k cells reads, and how it is owned, as a set of blocks. -/
structure EX (α : Type) where
  k : Nat
  O : World → (Nat → Prop) → List Value → α → Prop
  rlen : ∀ {w S vs x}, O w S vs x → vs.length = k
  keep : ∀ {w w' : World} {S vs x}, O w S vs x → (∀ k, S k → k < w.heap.size → w'.heap[k]? = w.heap[k]?) → O w' S vs x
  mono : ∀ {w S T vs x}, O w S vs x → (∀ k, k < w.heap.size → S k → T k) → O w T vs x
variable {α : Type}
theorem EX.oex (E : EX α) {w w' : World} {S : Nat → Prop} {vs : List Value} {x : α} (h : E.O w S vs x) (he : Ex w w') : E.O w' S vs x := E.keep h fun _ _ hk => he.block hk
def OX (E : EX α) (t : TypeId) (w : World) (S : Nat → Prop) (A : Option Addr) (xs : List α) : Prop :=
  xs.length ≤ 1099511627776 ∧ ∃ s : Nat → Nat → Prop, (∀ (j : Nat) (x : α), xs[j]? = some x → ∃ g off vs cur, A = some ⟨g, off, none⟩ ∧ S g ∧ w.heap[g]? = some (.cells cur t (0, 0)) ∧
      (∀ (i : Nat) (u : Value), vs[i]? = some u → cur[off + j * E.k + i]? = some u) ∧ E.O w (s j) vs x ∧ (∀ k, s j k → S k) ∧ ¬ s j g) ∧
    ∀ i j k, i < xs.length → j < xs.length → i ≠ j → s i k → ¬ s j k
theorem OX.len {E : EX α} {t : TypeId} {w : World} {S : Nat → Prop} {A : Option Addr} {xs : List α} (h : OX E t w S A xs) : xs.length ≤ 1099511627776 := h.1
theorem OX.nil (E : EX α) (t : TypeId) (w : World) (S : Nat → Prop) (A : Option Addr) : OX E t w S A [] := ⟨by simp, fun _ _ => False, fun j x hj => by simp at hj, fun i j k hi => by simp at hi⟩
theorem OX.keep {E : EX α} {t : TypeId} {w w' : World} {S : Nat → Prop} {A : Option Addr} {xs : List α} (h : OX E t w S A xs) (hk : ∀ k, S k → k < w.heap.size → w'.heap[k]? = w.heap[k]?) : OX E t w' S A xs := by
  obtain ⟨hl, s, h1, h2⟩ := h
  refine ⟨hl, s, fun j x hj => ?_, h2⟩
  obtain ⟨g, off, vs, cur, hA, hg, hh, hc, ho, hs, hn⟩ := h1 j x hj
  exact ⟨g, off, vs, cur, hA, hg, (hk g hg (heap_lt_of hh)).trans hh, hc, E.keep ho (fun k h => hk k (hs k h)), hs, hn⟩
theorem OX.ex {E : EX α} {t : TypeId} {w w' : World} {S : Nat → Prop} {A : Option Addr} {xs : List α} (h : OX E t w S A xs) (he : Ex w w') : OX E t w' S A xs := h.keep fun _ _ hk => he.block hk
theorem OX.sx {E : EX α} {t : TypeId} {w w' : World} {S T : Nat → Prop} {A : Option Addr} {xs : List α} (h : OX E t w S A xs) (k : ExS T w w') (hd : ∀ i, S i → ¬ T i) : OX E t w' S A xs := h.keep fun i hi hk => k.block i hk (hd i hi)
theorem OX.mono {E : EX α} {t : TypeId} {w : World} {S T : Nat → Prop} {A : Option Addr} {xs : List α} (h : OX E t w S A xs) (hT : ∀ k, k < w.heap.size → S k → T k) : OX E t w T A xs := by
  obtain ⟨hl, s, h1, h2⟩ := h
  refine ⟨hl, fun j k => s j k ∧ k < w.heap.size, fun j x hj => ?_, fun i j k hi hj hne a b => h2 i j k hi hj hne a.1 b.1⟩
  obtain ⟨g, off, vs, cur, hA, hg, hh, hc, ho, hs, hn⟩ := h1 j x hj
  exact ⟨g, off, vs, cur, hA, hT g (heap_lt_of hh) hg, hh, hc, E.mono ho (fun k hk h => ⟨h, hk⟩), fun k h => hT k h.2 (hs k h.1), fun h => hn h.1⟩
theorem OX.take {E : EX α} {t : TypeId} {w : World} {S : Nat → Prop} {A : Option Addr} {xs : List α} (h : OX E t w S A xs) (r : Nat) : OX E t w S A (xs.take r) := by
  obtain ⟨hl, s, h1, h2⟩ := h
  refine ⟨Nat.le_trans (List.length_take_le' _ _) hl, s, fun j x hj => h1 j x (by rw [List.getElem?_take] at hj; split at hj; exact hj; cases hj), fun i j k hi hj => h2 i j k (Nat.lt_of_lt_of_le hi (List.length_take_le' _ _)) (Nat.lt_of_lt_of_le hj (List.length_take_le' _ _))⟩
/-- Of the old memory at most block g's cells from s on and below e, and the blocks of T, have turned. -/
structure TurnX (g s e : Nat) (T : Nat → Prop) (t : TypeId) (w w' : World) : Prop where
  size : w.heap.size ≤ w'.heap.size
  block : ∀ k, k < w.heap.size → k ≠ g → ¬ T k → w'.heap[k]? = w.heap[k]?
  row : ∀ cur, w.heap[g]? = some (.cells cur t (0, 0)) → ∃ cur' : Array Value, w'.heap[g]? = some (.cells cur' t (0, 0)) ∧ ∀ q, (q < s ∨ e ≤ q) → cur'[q]? = cur[q]?
theorem TurnX.refl (g s e : Nat) (T : Nat → Prop) (t : TypeId) (w : World) : TurnX g s e T t w w := ⟨Nat.le_refl _, fun _ _ _ _ => rfl, fun cur h => ⟨cur, h, fun _ _ => rfl⟩⟩
theorem TurnX.set {g s e : Nat} {T : Nat → Prop} {t : TypeId} {v w : World} (h : TurnX g s e T t v w) {o : Nat} (hs : s ≤ o) (he : o < e) (u : Value) : TurnX g s e T t v (w.setCell ⟨g, o, none⟩ u) := by
  have hb := Below.heap_setCell w ⟨g, o, none⟩ u
  refine ⟨by simpa [World.setCell] using h.size, fun k hk hn hd => (hb k (fun e => hn (e ▸ rfl))).trans (h.block k hk hn hd), fun cur hc => ?_⟩
  obtain ⟨cur', h1, h2⟩ := h.row cur hc
  refine ⟨cur'.setIfInBounds o u, by simp [World.setCell, Array.getElem?_modify, h1], fun q hq => ?_⟩
  rw [Array.getElem?_setIfInBounds, if_neg (by omega)]
  exact h2 q hq
theorem TurnX.sx {g s e : Nat} {T U : Nat → Prop} {t : TypeId} {v w w' : World} (h : TurnX g s e T t v w) (k : ExS U w w') (hU : ∀ i, i < v.heap.size → U i → T i) (hg : ¬ U g) (hgl : g < v.heap.size) : TurnX g s e T t v w' :=
  ⟨Nat.le_trans h.size k.size, fun i hi hn hd => (k.block i (Nat.lt_of_lt_of_le hi h.size) (fun hu => hd (hU i hi hu))).trans (h.block i hi hn hd), fun cur hc => by
    obtain ⟨cur', h1, h2⟩ := h.row cur hc
    exact ⟨cur', (k.block g (Nat.lt_of_lt_of_le hgl h.size) hg).trans h1, h2⟩⟩
theorem TurnX.ex {g s e : Nat} {T : Nat → Prop} {t : TypeId} {v w w' : World} (h : TurnX g s e T t v w) (k : Ex w w') (hgl : g < v.heap.size) : TurnX g s e T t v w' := h.sx (ExS.of_ex (S := fun _ => False) k) (fun _ _ h => h.elim) id hgl
theorem OX.row {E : EX α} {t : TypeId} {w : World} {S : Nat → Prop} {A : Option Addr} {xs : List α} (h : OX E t w S A xs) {i : Nat} {x : α} (hi' : xs[i]? = some x) :
    ∃ g off vs s cur, A = some ⟨g, off, none⟩ ∧ S g ∧ w.heap[g]? = some (.cells cur t (0, 0)) ∧ (∀ (q : Nat) (u : Value), vs[q]? = some u → w.cell? ⟨g, off + i * E.k + q, none⟩ = some u) ∧ E.O w s vs x ∧ (∀ k, s k → S k) ∧ ¬ s g ∧
      ∀ w' S' s' vs' x', TurnX g (off + i * E.k) (off + i * E.k + E.k) s t w w' → (∀ (q : Nat) (u : Value), vs'[q]? = some u → w'.cell? ⟨g, off + i * E.k + q, none⟩ = some u) → E.O w' s' vs' x' → (∀ k, s' k → s k ∨ w.heap.size ≤ k) → (∀ k, k < w.heap.size → S k → S' k) → (∀ k, s' k → S' k) → OX E t w' S' A (xs.set i x') := by
  have hlt := (List.getElem?_eq_some_iff.1 hi').1
  obtain ⟨hl, s, k1, k2⟩ := h
  obtain ⟨g, off, vs, cur, hA, hg, hh, hc, ho, hs, hn⟩ := k1 i x hi'
  have hgl := heap_lt_of hh
  refine ⟨g, off, vs, s i, cur, hA, hg, hh, fun q u hq => cell_of_cur hh (hc q u hq), ho, hs, hn, fun w' S' s' vs' x' T hc' ho' hnew hSS hs' => ?_⟩
  refine ⟨by simpa using hl, fun j k => if j = i then s' k else s j k ∧ k < w.heap.size, fun j y hj => ?_, fun a b k ha hb hne h1 h2 => ?_⟩
  · obtain ⟨cur', hh', hsame⟩ := T.row cur hh
    rw [List.getElem?_set] at hj
    split at hj
    · rename_i e
      subst e
      injection hj with hj
      subst hj
      refine ⟨g, off, vs', cur', hA, hSS g hgl hg, hh', fun q u hq => ?_, ?_, ?_, ?_⟩
      · have := hc' q u hq
        simpa [World.cell?, hh'] using this
      · simp only [if_pos]; exact ho'
      · intro k hk; simp only [if_pos] at hk; exact hs' k hk
      · simp only [if_pos]
        intro hk
        rcases hnew g hk with h1 | h1
        · exact hn h1
        · omega
    · rename_i e
      have hjl := (List.getElem?_eq_some_iff.1 hj).1
      have e' : ¬ j = i := fun h => e h.symm
      obtain ⟨g2, off2, vs2, cur2, hA2, _, hh2, hc2, ho2, hs2, hn2⟩ := k1 j y hj
      rw [hA] at hA2
      injection hA2 with hA2
      injection hA2 with e1 e2 _
      subst e1 e2
      rw [hh] at hh2
      injection hh2 with hh2
      injection hh2 with hh2 _ _
      subst hh2
      have hlen := E.rlen ho2
      refine ⟨g, off, vs2, cur', hA, hSS g hgl hg, hh', fun q u hq => ?_, ?_, ?_, ?_⟩
      · have hql : q < E.k := by rw [← hlen]; exact (List.getElem?_eq_some_iff.1 hq).1
        rw [hsame _ ?_]
        · exact hc2 q u hq
        · rcases Nat.lt_or_gt_of_ne e with h | h
          · right
            have := Nat.mul_le_mul_right E.k (show i + 1 ≤ j from h)
            rw [Nat.add_mul, Nat.one_mul] at this
            omega
          · left
            have := Nat.mul_le_mul_right E.k (show j + 1 ≤ i from h)
            rw [Nat.add_mul, Nat.one_mul] at this
            omega
      · simp only [if_neg e']
        exact E.keep (E.mono ho2 (fun k hk h => ⟨h, hk⟩)) fun k hk hkl => T.block k hkl (fun e3 => hn2 (e3 ▸ hk.1)) (fun hsi => k2 i j k hlt hjl e hsi hk.1)
      · intro k hk
        simp only [if_neg e'] at hk
        exact hSS k hk.2 (hs2 k hk.1)
      · simp only [if_neg e']
        exact fun hk => hn2 hk.1
  · simp only [List.length_set] at ha hb
    by_cases ea : a = i
    · have eb : ¬ b = i := fun e => hne (ea.trans e.symm)
      simp only [if_pos ea] at h1
      simp only [if_neg eb] at h2
      rcases hnew k h1 with h3 | h3
      · exact k2 i b k hlt hb (fun e => eb e.symm) h3 h2.1
      · omega
    · simp only [if_neg ea] at h1
      by_cases eb : b = i
      · simp only [if_pos eb] at h2
        rcases hnew k h2 with h3 | h3
        · exact k2 i a k hlt ha (fun e => ea e.symm) h3 h1.1
        · omega
      · simp only [if_neg eb] at h2
        exact k2 a b k ha hb hne h1.1 h2.1
end Go.Proofs.YtmekhjnhcgmphaaDoor
namespace Go.Proofs.YtmekhjnhcgmphaaDoor
set_option maxRecDepth 100000
open Go Go.RowKit
variable {α : Type}
theorem OX.rds {E : EX α} {E' : EK α} {t : TypeId} {w : World} {S : Nat → Prop} {A : Option Addr} {xs : List α} (h : OX E t w S A xs) (hk : E.k = E'.k) (hE : ∀ {S vs x}, E.O w S vs x → E'.R w vs x) : RdS E' w A xs := by
  obtain ⟨hl, s, h1, h2⟩ := h
  refine ⟨hl, fun j x hj => ?_⟩
  obtain ⟨g, off, vs, cur, hA, _, hh, hc, ho, _, _⟩ := h1 j x hj
  exact ⟨g, off, vs, hA, fun i u hu => by rw [← hk]; exact cell_of_cur hh (hc i u hu), hE ho⟩
theorem OwS.ox {E : EK α} {E' : EX α} {t : TypeId} {w : World} {lo hi : Nat} {A : Option Addr} {xs : List α} (h : OwS E t w lo hi A xs) (hk : E'.k = E.k) (hE : ∀ {a b vs x}, E.O w a b vs x → E'.O w (fun k => a ≤ k ∧ k < b) vs x) : OX E' t w (fun k => lo ≤ k ∧ k < hi) A xs := by
  obtain ⟨hl, al, bl, h1, h2⟩ := h
  refine ⟨hl, fun j k => al j ≤ k ∧ k < bl j, fun j x hj => ?_, fun i j k hi' hj' hne a b => by have := h2 i j hi' hj' hne; omega⟩
  obtain ⟨g, off, vs, cur, hA, hg1, hg2, hh, hc, ho, ha, hb, hd⟩ := h1 j x hj
  exact ⟨g, off, vs, cur, hA, ⟨hg1, hg2⟩, hh, fun i u hu => by rw [hk]; exact hc i u hu, hE ho, fun k hk => by omega, by omega⟩
def EXF : EX Fra where
  k := 2
  O := fun w S vs x => ∃ v0 v1, vs = [v0, v1] ∧ XFra w S v0 v1 x
  rlen := fun h => by obtain ⟨_, _, rfl, _⟩ := h; rfl
  keep := fun h hk => by obtain ⟨v0, v1, e, h⟩ := h; exact ⟨v0, v1, e, h.keep hk⟩
  mono := fun h hk => by obtain ⟨v0, v1, e, h⟩ := h; exact ⟨v0, v1, e, h.mono hk⟩
def EXR : EX (List Fra) where
  k := 1
  O := fun w S vs x => ∃ A c, vs = [.slice A x.length c] ∧ x.length ≤ c ∧ OX EXF 40 w S A x
  rlen := fun h => by obtain ⟨_, _, rfl, _⟩ := h; rfl
  keep := fun h hk => by obtain ⟨A, c, e, hc, h⟩ := h; exact ⟨A, c, e, hc, h.keep hk⟩
  mono := fun h hk => by obtain ⟨A, c, e, hc, h⟩ := h; exact ⟨A, c, e, hc, h.mono hk⟩
theorem exf_rd {w : World} {S : Nat → Prop} {vs : List Value} {x : Fra} (h : EXF.O w S vs x) : EF.R w vs x := by
  obtain ⟨v0, v1, e, h⟩ := h
  exact ⟨v0, v1, e, h.rd⟩
theorem exr_rd {w : World} {S : Nat → Prop} {vs : List Value} {x : List Fra} (h : EXR.O w S vs x) : EFF.R w vs x := by
  obtain ⟨A, c, e, _, h⟩ := h
  exact ⟨_, e, A, c, rfl, h.rds rfl exf_rd⟩
def OFF (w : World) (a b : Nat) (v : Value) (x : List (List Fra)) : Prop := (∃ (A : Option Addr) (c : Nat) (S : Nat → Prop), v = .slice A x.length c ∧ (∀ k, S k → a ≤ k ∧ k < b) ∧ OX EXR 70 w S A x) ∧ totFF x ≤ 1125899906842624
theorem OFF.rd {w : World} {a b : Nat} {v : Value} {x : List (List Fra)} (h : OFF w a b v x) : RFF w v x := by
  obtain ⟨⟨A, c, S, e, _, h⟩, ht⟩ := h
  exact ⟨⟨A, c, e, h.rds rfl exr_rd⟩, ht⟩
/-- Lists of rows that read, each row with its room. -/
def RdC (w : World) (A : Option Addr) (xs : List (List Fra)) : Prop := RdS EFF w A xs ∧ ∀ (j : Nat) (r : List Fra), xs[j]? = some r → ∃ g off P pc, A = some ⟨g, off, none⟩ ∧ w.cell? ⟨g, off + j, none⟩ = some (.slice P r.length pc) ∧ r.length ≤ pc ∧ RdS EF w P r
theorem RdC.ex {w w' : World} {A : Option Addr} {xs : List (List Fra)} (h : RdC w A xs) (he : Ex w w') : RdC w' A xs := by
  refine ⟨h.1.ex he, fun j r hr => ?_⟩
  obtain ⟨g, off, P, pc, e, q, l, k⟩ := h.2 j r hr
  exact ⟨g, off, P, pc, e, cell_ex he q, l, k.ex he⟩
theorem RdC.at_ {w : World} {A : Option Addr} {xs : List (List Fra)} (h : RdC w A xs) {j : Nat} (hj : j < xs.length) : ∃ g off r P pc, A = some ⟨g, off, none⟩ ∧ xs[j]? = some r ∧ w.cell? ⟨g, off + j, none⟩ = some (.slice P r.length pc) ∧ r.length ≤ pc ∧ RdS EF w P r := by
  obtain ⟨g, off, P, pc, e, q, l, k⟩ := h.2 j _ (List.getElem?_eq_getElem hj)
  exact ⟨g, off, _, P, pc, e, List.getElem?_eq_getElem hj, q, l, k⟩
theorem OX.rdc {w : World} {S : Nat → Prop} {A : Option Addr} {xs : List (List Fra)} (h : OX EXR 70 w S A xs) : RdC w A xs := by
  refine ⟨h.rds rfl exr_rd, fun j r hr => ?_⟩
  obtain ⟨hl, s, h1, h2⟩ := h
  obtain ⟨g, off, vs, cur, hA, _, hh, hc, ⟨P, pc, e, hpc, ho⟩, _, _⟩ := h1 j r hr
  refine ⟨g, off, P, pc, hA, ?_, hpc, ho.rds rfl exf_rd⟩
  have := cell_of_cur hh (hc 0 (.slice P r.length pc) (by rw [e]; rfl))
  rwa [show EXR.k = 1 from rfl, Nat.mul_one, Nat.add_zero] at this
theorem OFF.ex {w w' : World} {a b : Nat} {v : Value} {x : List (List Fra)} (h : OFF w a b v x) (he : Ex w w') : OFF w' a b v x := by
  obtain ⟨⟨A, c, S, e, hS, h⟩, ht⟩ := h
  exact ⟨⟨A, c, S, e, hS, h.ex he⟩, ht⟩
theorem OFF.iv {w w' : World} {a b a' b' : Nat} {v : Value} {x : List (List Fra)} (h : OFF w a b v x) (k : ExI a' b' w w') (hd : b ≤ a' ∨ b' ≤ a) : OFF w' a b v x := by
  obtain ⟨⟨A, c, S, e, hS, h⟩, ht⟩ := h
  exact ⟨⟨A, c, S, e, hS, h.keep fun i hi hk => k.block i hk (by have := hS i hi; omega)⟩, ht⟩
theorem OFF.e1 {w w' : World} {a b g : Nat} {v : Value} {x : List (List Fra)} (h : OFF w a b v x) (k : Ex1 g w w') (hd : g < a ∨ b ≤ g) : OFF w' a b v x := h.iv (ExI.of_ex1 k) (by omega)
theorem OFF.more {w : World} {a b a' b' : Nat} {v : Value} {x : List (List Fra)} (h : OFF w a b v x) (ha : a' ≤ a) (hb : b ≤ b') : OFF w a' b' v x := by
  obtain ⟨⟨A, c, S, e, hS, h⟩, ht⟩ := h
  exact ⟨⟨A, c, S, e, fun k hk => by have := hS k hk; omega, h⟩, ht⟩
theorem markIntS_x (S : Nat → Prop) (x : List Int) (v : Value) (k : Int) (w : World) (h : XI w S v x) (hk0 : 0 ≤ k) (hk : k + totI x ≤ 4611686018427387904) :
    Calls Tryd.prog 19 #[v, .int .i64 k] w fun e w' => e = .returned (.int .i64 (k + totI x)) ∧ XI w' S v (mkI k x) ∧ ExS S w w' := by
  obtain ⟨A, c, rfl, hf, hS⟩ := h
  obtain ⟨a, b, ho, hb, hin⟩ : ∃ a b, OI w a b (.slice A x.length c) x ∧ b ≤ w.heap.size ∧ ∀ k, a ≤ k → k < b → S k := by
    cases A with
    | none => exact ⟨0, 0, ⟨none, c, rfl, ⟨hf.1, hf.2.1, fun a e => by cases e⟩, fun a e => by cases e⟩, Nat.zero_le _, fun k _ h => by omega⟩
    | some p =>
      obtain ⟨_, cur, h2⟩ := hf.2.2 p rfl
      exact ⟨p.block, p.block + 1, ⟨_, _, rfl, ⟨hf.1, hf.2.1, fun a e => by injection e with e; subst e; exact ⟨Nat.le_refl _, cur, h2⟩⟩, fun a e => by injection e with e; subst e; exact Nat.lt_succ_self _⟩, heap_lt_of h2, fun k h1 h2 => by
        obtain rfl : k = p.block := by omega
        exact hS p rfl⟩
  refine (markIntS_u a b x _ k w ho hb hk0 hk).mono ?_
  rintro e w' ⟨rfl, ho', hI⟩
  refine ⟨rfl, ?_, (ExS.of_exi hI).widen fun i _ h => hin i h.1 h.2⟩
  obtain ⟨A', c', e, hf', hS'⟩ := ho'.xi
  exact ⟨A', c', e, hf', fun ad ea => hin _ (hS' ad ea).1 (hS' ad ea).2⟩
set_option maxHeartbeats 2000000 in
theorem markFractionS_x (S : Nat → Prop) (x : List Fra) (A : Option Addr) (c : Nat) (k : Int) (w : World) (h : OX EXF 40 w S A x) (hk0 : 0 ≤ k) (hk : k + totF x ≤ 4611686018427387904) :
    Calls Tryd.prog 56 #[.slice A x.length c, .int .i64 k] w fun e w' => e = .returned (.int .i64 (k + totF x)) ∧ OX EXF 40 w' S A (mkF k x) ∧ ExS S w w' := by
  have hl := h.1
  go_enter Tryd.func56, Tryd.ntmps56
  go_wp2
  go_loopw [1, 5] (fun q i wr => ∃ j : Nat, j ≤ x.length ∧ q = .int .i64 (k + totS EF (x.take j)) ∧ i = .int .i64 j ∧ OX EXF 40 wr S A ((mkS EF k x).take j ++ x.drop j) ∧ ExS S w wr) (fun _ i _ => x.length - (intOf i).toNat)
  case atStart => exact ⟨0, Nat.zero_le _, by simp [totS], rfl, by simpa using h, ExS.refl _ _⟩
  case round =>
    obtain ⟨j, hj, rfl, rfl, hf, he⟩ := hrel
    by_cases hlt : j < x.length
    · obtain ⟨r, hr⟩ : ∃ r, x[j]? = some r := ⟨_, List.getElem?_eq_getElem hlt⟩
      have hml : ((mkS EF k x).take j).length = j := by rw [List.length_take, mkS_len]; omega
      have hr2 : ((mkS EF k x).take j ++ x.drop j)[j]? = some r := by rw [List.getElem?_append_right (by omega), hml, Nat.sub_self, List.getElem?_drop]; simpa using hr
      obtain ⟨g, off, vs, s, cur, rfl, hgS, hh, hc, ⟨v0, v1, rfl, ho⟩, hsS, hsg, hset⟩ := hf.row hr2
      obtain ⟨t0, t1, m0, m1, i0, i1, i2⟩ := ho
      obtain ⟨P, pc, rfl, f0⟩ := m0
      obtain ⟨Q, qc, rfl, f1⟩ := m1
      have m0 : XI wr t0 (.slice P r.n.length pc) r.n := ⟨P, pc, rfl, f0⟩
      have m1 : XI wr t1 (.slice Q r.d.length qc) r.d := ⟨Q, qc, rfl, f1⟩
      clear f0 f1
      have s1 := totS_nn EF (x.take j)
      have s2 := totS_take_succ EF hr
      have s3 := totS_take_le EF x (j + 1)
      have e4 : EF.tot r = totI r.n + totI r.d := rfl
      have n0 := totI_nn r.n
      have n1 := totI_nn r.d
      rw [e4] at s2
      have HS := Lib.hid (mkS_step EF k x j r hr)
      have S2 := Lib.hid s2
      have c2 := hc 0 _ rfl
      have c3 := hc 1 _ rfl
      simp only [show EXF.k = 2 from rfl, Nat.add_zero] at c2 c3 hset
      have hgl := heap_lt_of hh
      have hsz := he.size
      have hk4 : k + totS EF (x.take j) + (totI r.n + totI r.d) ≤ 4611686018427387904 := by have : totF x = totS EF x := rfl; omega
      clear hr hr2 s2 hml hc hh e4
      obtain ⟨K, hK⟩ : ∃ K, k + totS EF (x.take j) = K := ⟨_, rfl⟩
      have HK := Lib.hid hK
      rw [hK] at hk4
      have hK0 : 0 ≤ K := by omega
      rw [hK]
      clear hK
      have T0 := TurnX.refl g (off + j * 2) (off + j * 2 + 2) s 40 wr
      have hg0 : ¬ t0 g := fun h => hsg (i0 g h)
      have hg1 : ¬ t1 g := fun h => hsg (i1 g h)
      go_wp2_with fail
      refine (markIntS_x t0 r.n (.slice P r.n.length pc) K wr m0 (by omega) (by omega)).mono ?_
      rintro e w1 ⟨rfl, mm0, I1⟩
      have s1' := I1.size
      have mm1 := m1.keep fun i hi hk => I1.block i hk (fun h => i2 i h hi)
      replace c2 := (World.cell?_of_block (w := wr) (a := ⟨g, off + j * 2, none⟩) (I1.block g hgl hg0)).trans c2
      replace c3 := (World.cell?_of_block (w := wr) (a := ⟨g, off + j * 2 + 1, none⟩) (I1.block g hgl hg0)).trans c3
      have T1 := T0.sx I1 (fun i _ h => i0 i h) hg0 hgl
      clear m0 m1 T0
      go_wp2_with fail
      refine (markIntS_x t1 r.d (.slice Q r.d.length qc) (K + totI r.n) w1 mm1 (by omega) (by omega)).mono ?_
      rintro e w2 ⟨rfl, mm2, I2⟩
      have hgl1 := Nat.lt_of_lt_of_le hgl s1'
      have mm3 := mm0.keep fun i hi hk => I2.block i hk (fun h => i2 i hi h)
      replace c2 := (World.cell?_of_block (w := w1) (a := ⟨g, off + j * 2, none⟩) (I2.block g hgl1 hg1)).trans c2
      replace c3 := (World.cell?_of_block (w := w1) (a := ⟨g, off + j * 2 + 1, none⟩) (I2.block g hgl1 hg1)).trans c3
      have T2 := T1.sx I2 (fun i _ h => i1 i h) hg1 hgl
      have C : ∀ (q : Nat) (u : Value), [(.slice P r.n.length pc), (.slice Q r.d.length qc)][q]? = some u → w2.cell? ⟨g, off + j * 2 + q, none⟩ = some u := by
        intro q u hq
        rcases q with _ | _ | q
        · injection hq with hq; subst hq; exact c2
        · injection hq with hq; subst hq; exact c3
        · simp at hq
      have hf' := hset w2 S s _ (EF.mkE K r) T2 C ⟨_, _, rfl, t0, t1, mm3, mm2, i0, i1, i2⟩ (fun k h => .inl h) (fun k _ h => h) hsS
      have HS' := HS.out
      rw [HK.out] at HS'
      rw [HS'] at hf'
      have hX := (he.trans (I1.widen (T := S) fun i _ h => hsS i (i0 i h)) (fun _ _ h => h)).trans (I2.widen (T := S) fun i _ h => hsS i (i1 i h)) (fun _ _ h => h)
      have hQ : K + totI r.n + totI r.d = k + totS EF (x.take (j + 1)) := by have := S2.out; have := HK.out; omega
      clear C T1 T2 c2 c3 mm0 mm1 mm2 mm3 hset hf HS'
      rw [hQ]
      clear hQ
      go_wp2_with fail
      go_roundw
      case rel => exact ⟨j + 1, by omega, rfl, by go_num, hf', hX⟩
      case measure => simp [intOf] <;> omega
    · obtain rfl : j = x.length := by omega
      go_wp2
      go_ret
      rw [List.drop_length, List.append_nil, List.take_of_length_le (by rw [mkS_len]; exact Nat.le_refl _)] at hf
      rw [List.take_length]
      exact ⟨rfl, hf, he⟩
set_option maxHeartbeats 2000000 in
theorem markFractionSS_x (S : Nat → Prop) (x : List (List Fra)) (A : Option Addr) (c : Nat) (k : Int) (w : World) (h : OX EXR 70 w S A x) (hk0 : 0 ≤ k) (hk : k + totFF x ≤ 4611686018427387904) :
    Calls Tryd.prog 33 #[.slice A x.length c, .int .i64 k] w fun e w' => e = .returned (.int .i64 (k + totFF x)) ∧ OX EXR 70 w' S A (mkFF k x) ∧ ExS S w w' := by
  have hl := h.1
  go_enter Tryd.func33, Tryd.ntmps33
  go_wp2
  go_loopw [1, 5] (fun q i wr => ∃ j : Nat, j ≤ x.length ∧ q = .int .i64 (k + totS EFF (x.take j)) ∧ i = .int .i64 j ∧ OX EXR 70 wr S A ((mkS EFF k x).take j ++ x.drop j) ∧ ExS S w wr) (fun _ i _ => x.length - (intOf i).toNat)
  case atStart => exact ⟨0, Nat.zero_le _, by simp [totS], rfl, by simpa using h, ExS.refl _ _⟩
  case round =>
    obtain ⟨j, hj, rfl, rfl, hf, he⟩ := hrel
    by_cases hlt : j < x.length
    · obtain ⟨r, hr⟩ : ∃ r, x[j]? = some r := ⟨_, List.getElem?_eq_getElem hlt⟩
      have hml : ((mkS EFF k x).take j).length = j := by rw [List.length_take, mkS_len]; omega
      have hr2 : ((mkS EFF k x).take j ++ x.drop j)[j]? = some r := by rw [List.getElem?_append_right (by omega), hml, Nat.sub_self, List.getElem?_drop]; simpa using hr
      obtain ⟨g, off, vs, s, cur, rfl, hgS, hh, hc, ⟨P, pc, rfl, hpc, ho⟩, hsS, hsg, hset⟩ := hf.row hr2
      have s1 := totS_nn EFF (x.take j)
      have s2 := totS_take_succ EFF hr
      have s3 := totS_take_le EFF x (j + 1)
      have e4 : EFF.tot r = totF r := rfl
      have n0 := totF_nn r
      rw [e4] at s2
      have HS := Lib.hid (mkS_step EFF k x j r hr)
      have S2 := Lib.hid s2
      have c2 := hc 0 _ rfl
      simp only [show EXR.k = 1 from rfl, Nat.add_zero, Nat.mul_one] at c2 hset
      have hgl := heap_lt_of hh
      have hsz := he.size
      have hk4 : k + totS EFF (x.take j) + totF r ≤ 4611686018427387904 := by have : totFF x = totS EFF x := rfl; omega
      clear hr hr2 s2 hml hc hh e4
      obtain ⟨K, hK⟩ : ∃ K, k + totS EFF (x.take j) = K := ⟨_, rfl⟩
      have HK := Lib.hid hK
      rw [hK] at hk4
      have hK0 : 0 ≤ K := by omega
      rw [hK]
      clear hK
      have T0 := TurnX.refl g (off + j) (off + j + 1) s 70 wr
      go_wp2_with fail
      refine (markFractionS_x s r P pc K wr ho (by omega) (by omega)).mono ?_
      rintro e w1 ⟨rfl, mm0, I1⟩
      replace c2 := (World.cell?_of_block (w := wr) (a := ⟨g, off + j, none⟩) (I1.block g hgl hsg)).trans c2
      have T1 := T0.sx I1 (fun i _ h => h) hsg hgl
      have C : ∀ (q : Nat) (u : Value), [(Value.slice P r.length pc)][q]? = some u → w1.cell? ⟨g, off + j + q, none⟩ = some u := by
        intro q u hq
        rcases q with _ | q
        · injection hq with hq; subst hq; exact c2
        · simp at hq
      have hml : (mkF K r).length = r.length := mkS_len EF K r
      have hf' := hset w1 S s _ (EFF.mkE K r) T1 C ⟨P, pc, by rw [show EFF.mkE K r = mkF K r from rfl, hml], by rw [show EFF.mkE K r = mkF K r from rfl, hml]; exact hpc, mm0⟩ (fun k h => .inl h) (fun k _ h => h) hsS
      have HS' := HS.out
      rw [HK.out] at HS'
      rw [HS'] at hf'
      have hX := he.trans (I1.widen (T := S) fun i _ h => hsS i h) (fun _ _ h => h)
      have hQ : K + totF r = k + totS EFF (x.take (j + 1)) := by have := S2.out; have := HK.out; omega
      clear C T1 c2 mm0 hset hf HS' hml
      rw [hQ]
      clear hQ
      go_wp2_with fail
      go_roundw
      case rel => exact ⟨j + 1, by omega, rfl, by go_num, hf', hX⟩
      case measure => simp [intOf] <;> omega
    · obtain rfl : j = x.length := by omega
      go_wp2
      go_ret
      rw [List.drop_length, List.append_nil, List.take_of_length_le (by rw [mkS_len]; exact Nat.le_refl _)] at hf
      rw [List.take_length]
      exact ⟨rfl, hf, he⟩
theorem markFractionSS_u (lo hi : Nat) (x : List (List Fra)) (v : Value) (k : Int) (w : World) (h : OFF w lo hi v x) (_ : hi ≤ w.heap.size) (hk0 : 0 ≤ k) (hk : k + totFF x ≤ 4611686018427387904) :
    Calls Tryd.prog 33 #[v, .int .i64 k] w fun e w' => e = .returned (.int .i64 (k + totFF x)) ∧ OFF w' lo hi v (mkFF k x) ∧ ExI lo hi w w' := by
  obtain ⟨⟨A, c, S, rfl, hS, h⟩, ht⟩ := h
  refine (markFractionSS_x S x A c k w h hk0 hk).mono ?_
  rintro e w' ⟨rfl, m, z⟩
  refine ⟨rfl, ⟨⟨A, c, S, by rw [mkFF, mkS_len], hS, m⟩, ?_⟩, z.exi hS⟩
  have : totFF (mkFF k x) = totFF x := totS_mk EFF k x
  omega
end Go.Proofs.YtmekhjnhcgmphaaDoor
namespace Go.Proofs.YtmekhjnhcgmphaaDoor
set_option maxRecDepth 100000
open Go Go.RowKit
structure RRel where
  l : Int
  r : Int
  b : List (List Fra)
def RRRel (w : World) (v0 : Value) (x : RRel) : Prop := RFF w v0 x.b
def totRRel (x : RRel) : Int := totFF x.b
def mkRRel (k : Int) (x : RRel) : RRel := ⟨x.l, x.r, mkFF (k) x.b⟩
theorem totRRel_nn (x : RRel) : 0 ≤ totRRel x := by
  unfold totRRel
  have h0 := totFF_nn x.b
  omega
theorem RRRel.ex {w w' : World} {v0 : Value} {x : RRel} (h : RRRel w v0 x) (he : Ex w w') : RRRel w' v0 x := RFF.ex h he
theorem RRRel.tot {w : World} {v0 : Value} {x : RRel} (h : RRRel w v0 x) : totRRel x ≤ 1125899906842624 := RFF.tot h
theorem RRRel.form {w : World} {v0 : Value} {x : RRel} (h : RRRel w v0 x) : ∃ A0 n0 c0, v0 = .slice A0 n0 c0 := by
  have h0 : RFF w v0 _ := h
  obtain ⟨A0, n0, c0, e0⟩ := h0.form
  exact ⟨A0, n0, c0, e0⟩
def ORRel (w : World) (lo hi : Nat) (v0 : Value) (x : RRel) : Prop := ∃ (a0 b0 : Nat), OFF w a0 b0 v0 x.b ∧ lo ≤ a0 ∧ b0 ≤ hi
theorem ORRel.rd {w : World} {lo hi : Nat} {v0 : Value} {x : RRel} (h : ORRel w lo hi v0 x) : RRRel w v0 x := by
  obtain ⟨a0, b0, m0, c0, c1⟩ := h
  exact m0.rd
def RRRelc (w : World) (v0 : Value) (x : RRel) : Prop := RRRel w v0 x ∧ ∃ A c, v0 = .slice A x.b.length c ∧ RdC w A x.b
theorem ORRel.rdc {w : World} {lo hi : Nat} {v0 : Value} {x : RRel} (h : ORRel w lo hi v0 x) : RRRelc w v0 x := by
  refine ⟨h.rd, ?_⟩
  obtain ⟨a0, b0, ⟨⟨A, c, S, e, _, o⟩, _⟩, _⟩ := h
  exact ⟨A, c, e, o.rdc⟩
theorem ORRel.ex {w w' : World} {lo hi : Nat} {v0 : Value} {x : RRel} (h : ORRel w lo hi v0 x) (he : Ex w w') : ORRel w' lo hi v0 x := by
  obtain ⟨a0, b0, m0, c0, c1⟩ := h
  exact ⟨a0, b0, m0.ex he, c0, c1⟩
theorem ORRel.iv {w w' : World} {lo hi : Nat} {v0 : Value} {x : RRel} (h : ORRel w lo hi v0 x) {a b : Nat} (q : ExI a b w w') (hd : hi ≤ a ∨ b ≤ lo) : ORRel w' lo hi v0 x := by
  obtain ⟨a0, b0, m0, c0, c1⟩ := h
  exact ⟨a0, b0, m0.iv q (by omega), c0, c1⟩
theorem ORRel.e1 {w w' : World} {lo hi : Nat} {v0 : Value} {x : RRel} (h : ORRel w lo hi v0 x) {g : Nat} (q : Ex1 g w w') (hd : g < lo ∨ hi ≤ g) : ORRel w' lo hi v0 x := by
  obtain ⟨a0, b0, m0, c0, c1⟩ := h
  exact ⟨a0, b0, m0.e1 q (by omega), c0, c1⟩
theorem ORRel.more {w : World} {lo hi lo' hi' : Nat} {v0 : Value} {x : RRel} (h : ORRel w lo hi v0 x) (h1 : lo' ≤ lo) (h2 : hi ≤ hi') : ORRel w lo' hi' v0 x := by
  obtain ⟨a0, b0, m0, c0, c1⟩ := h
  exact ⟨a0, b0, m0, by omega, by omega⟩
set_option maxHeartbeats 4000000 in
set_option maxRecDepth 100000 in
theorem eqRatRelation_u (x : RRel) (v0 u0 : Value) (w : World) (h : RRRel w v0 x) (h' : RRRel w u0 x) :
    Calls Tryd.prog 9 #[.agg #[.int .i64 x.l, .int .i64 x.r, v0], .agg #[.int .i64 x.l, .int .i64 x.r, u0]] w fun e w' => e = .returned (.bool true) ∧ Ex w w' := by
  obtain ⟨l, r, x0⟩ := x
  have h0 : RFF w v0 _ := h
  have g0 : RFF w u0 _ := h'
  dsimp only at h0 g0 ⊢
  have x1 := (Ex.refl w).alloc (.cells #[.int .i64 l, .int .i64 r, v0] 28)
  have d1 := VB.new w 28 #[.int .i64 l, .int .i64 r, v0]
  have S1 := Lib.hid (show (w.alloc (.cells #[.int .i64 l, .int .i64 r, v0] 28)).heap.size = w.heap.size + 1 by simp)
  go_enter Tryd.func9, Tryd.ntmps9
  go_wp2_with fail
  generalize w.alloc (.cells #[.int .i64 l, .int .i64 r, v0] 28) = W1 at *
  have y2 := (Ex.refl W1).alloc (.cells #[.int .i64 l, .int .i64 r, u0] 28)
  have d2 := VB.new W1 28 #[.int .i64 l, .int .i64 r, u0]
  rw [S1.out] at d2
  generalize W1.alloc (.cells #[.int .i64 l, .int .i64 r, u0] 28) = V0 at *
  have xx := x1.trans y2
  have dA := d1.ex y2
  have dB := d2
  clear x1 d1 d2 y2 S1
  refine (eqFractionSS_u x0 v0 u0 V0 (h0.ex xx) (g0.ex xx)).mono ?_
  rintro e V1 ⟨rfl, z0⟩
  replace dA := dA.ex z0
  replace dB := dB.ex z0
  replace xx := xx.trans z0
  go_wp2
  go_ret
  exact ⟨rfl, xx⟩
set_option maxHeartbeats 4000000 in
set_option maxRecDepth 100000 in
theorem markRatRelation_u (lo hi : Nat) (x : RRel) (v0 : Value) (k : Int) (w : World) (h : ORRel w lo hi v0 x) (hb : hi ≤ w.heap.size) (hk0 : 0 ≤ k) (hk : k + totRRel x ≤ 4611686018427387904) :
    Calls Tryd.prog 12 #[.agg #[.int .i64 x.l, .int .i64 x.r, v0], .int .i64 k] w fun e w' => e = .returned (.int .i64 (k + totRRel x)) ∧ ORRel w' lo hi v0 (mkRRel k x) ∧ ExI lo hi w w' := by
  obtain ⟨l, r, x0⟩ := x
  obtain ⟨a0, b0, m0, c0, c1⟩ := h
  dsimp only at m0 ⊢
  have t0 := totFF_nn x0
  have ek : k + totRRel ⟨l, r, x0⟩ = k + totFF x0 := by simp only [totRRel]
  rw [ek] at hk ⊢
  clear ek
  have xe := (Ex.refl w).alloc (.cells #[.int .i64 l, .int .i64 r, v0] 28)
  have d0 := VB.new w 28 #[.int .i64 l, .int .i64 r, v0]
  have dl := d0.lt
  go_enter Tryd.func12, Tryd.ntmps12
  go_wp2_with fail
  generalize w.alloc (.cells #[.int .i64 l, .int .i64 r, v0] 28) = W0 at *
  replace m0 := m0.ex xe
  have zz := xe.size
  have ee := ExI.of_ex (a := lo) (b := hi) xe
  clear xe
  refine (markFractionSS_u a0 b0 x0 v0 (k) W0 m0 (by omega) (by omega) (by omega)).mono ?_
  clear m0
  rintro e u0 ⟨rfl, m0, z0⟩
  replace d0 := d0.iv z0 (by omega)
  replace ee := ee.trans (z0.widen (by omega) (by omega))
  replace zz := Nat.le_trans zz z0.size
  clear z0
  go_wp2
  go_ret
  exact ⟨rfl, ⟨a0, b0, m0, c0, c1⟩, ee⟩
set_option maxHeartbeats 4000000 in
set_option maxRecDepth 100000 in
theorem heldRatRelation_u (x : RRel) (v0 : Value) (k : Int) (w : World) (h : RRRel w v0 (mkRRel k x)) (hk0 : 0 ≤ k) (hk : k + totRRel x ≤ 4611686018427387904) :
    Calls Tryd.prog 13 #[.agg #[.int .i64 x.l, .int .i64 x.r, v0], .int .i64 k] w fun e w' => e = .returned (.int .i64 (k + totRRel x)) ∧ Ex w w' := by
  obtain ⟨l, r, x0⟩ := x
  have h0 : RFF w v0 _ := h
  dsimp only [mkRRel] at h0 ⊢
  have t0 := totFF_nn x0
  have ek : k + totRRel ⟨l, r, x0⟩ = k + totFF x0 := by simp only [totRRel]
  rw [ek] at hk ⊢
  clear ek
  have xe := (Ex.refl w).alloc (.cells #[.int .i64 l, .int .i64 r, v0] 28)
  have d0 := VB.new w 28 #[.int .i64 l, .int .i64 r, v0]
  go_enter Tryd.func13, Tryd.ntmps13
  go_wp2_with fail
  generalize w.alloc (.cells #[.int .i64 l, .int .i64 r, v0] 28) = W0 at *
  refine (heldFractionSS_u x0 v0 (k) W0 (h0.ex xe) (by omega) (by omega)).mono ?_
  rintro e u0 ⟨rfl, z0⟩
  replace d0 := d0.ex z0
  replace xe := xe.trans z0
  go_wp2
  go_ret
  exact ⟨rfl, xe⟩
end Go.Proofs.YtmekhjnhcgmphaaDoor
