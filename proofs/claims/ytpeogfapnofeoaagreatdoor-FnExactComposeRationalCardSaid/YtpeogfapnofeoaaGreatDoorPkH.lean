/- Collected rows of fractions as rows that an elimination may turn in place. Rows under the elimination: kept when other blocks are written; built from collected rows; how they read. The reduced copy of rows: the program's ratReduced. -/
import Derived.Test.YtpeogfapnofeoaaGreatDoorRtH
import Derived.Test.YtpeogfapnofeoaaGreatDoorPkE
import Derived.Test.YtpeogfapnofeoaaGreatDoorPkF
namespace Go.Proofs.YtpeogfapnofeoaaGreatDoor
set_option maxRecDepth 100000
open Go Go.RowKit
theorem list_choose {P : Nat → Nat → Prop} : ∀ (n : Nat), (∀ j, j < n → ∃ g, P j g) → ∃ gs : List Nat, gs.length = n ∧ ∀ (j g : Nat), gs[j]? = some g → P j g
  | 0, _ => ⟨[], rfl, fun j g h => by simp at h⟩
  | n + 1, h => by
    obtain ⟨gs, h1, h2⟩ := list_choose n fun j hj => h j (by omega)
    obtain ⟨g, hg⟩ := h n (by omega)
    refine ⟨gs ++ [g], by simp [h1], fun j g' hj => ?_⟩
    by_cases e : j < n
    · rw [List.getElem?_append_left (by omega)] at hj; exact h2 j g' hj
    · have hl := (List.getElem?_eq_some_iff.1 hj).1
      rw [List.length_append, List.length_singleton] at hl
      obtain rfl : j = n := by omega
      rw [List.getElem?_append_right (by omega), h1, Nat.sub_self] at hj
      injection hj with hj
      subst hj
      exact hg
/-- Where the numbers of a collected row lie. -/
theorem row_nums {w : World} {B H g n c : Nat} {xs : List Fra} (h : GE ELF 58 w B H (.slice (some ⟨g, 0, none⟩) n c) xs) :
    ∃ (cur : Array Value) (lo hi : Nat → Nat), w.heap[g]? = some (.cells cur 58 (0, 0)) ∧ B ≤ g ∧ g < H ∧ n = xs.length ∧
      (∀ (i : Nat) (x : Fra), xs[i]? = some x → ∃ A c A' d, cur[i * 2]? = some (.slice A x.n.length c) ∧ cur[i * 2 + 1]? = some (.slice A' x.d.length d) ∧ FI w (lo (i * 2)) (hi (i * 2)) A c x.n ∧ FI w (lo (i * 2 + 1)) (hi (i * 2 + 1)) A' d x.d) ∧
      (∀ o, o < 2 * xs.length → B ≤ lo o ∧ hi o ≤ H ∧ (g < lo o ∨ hi o ≤ g)) ∧
      ∀ o o', o < 2 * xs.length → o' < 2 * xs.length → o ≠ o' → hi o ≤ lo o' ∨ hi o' ≤ lo o := by
  obtain ⟨cur, al, bl, hn, hB, hH, hc, h1, h2⟩ := h.at_
  have hsk : ∀ i, ∃ p : (Nat × Nat) × (Nat × Nat), ∀ (x : Fra), xs[i]? = some x → ∃ A c A' d, cur[i * 2]? = some (.slice A x.n.length c) ∧ cur[i * 2 + 1]? = some (.slice A' x.d.length d) ∧ FI w p.1.1 p.1.2 A c x.n ∧ FI w p.2.1 p.2.2 A' d x.d ∧
      al i ≤ p.1.1 ∧ p.1.2 ≤ bl i ∧ al i ≤ p.2.1 ∧ p.2.2 ≤ bl i ∧ (p.1.2 ≤ p.2.1 ∨ p.2.2 ≤ p.1.1) := fun i => by
    cases hx : xs[i]? with
    | none => exact ⟨((0, 0), (0, 0)), fun x h => by cases h⟩
    | some x =>
      obtain ⟨u, q1, ⟨v0, v1, rfl, a0, b0, a1, b1, ⟨A, c, rfl, f0⟩, ⟨A', d, rfl, f1⟩, r1, r2, r3, r4, r5⟩, _⟩ := h1 i x hx
      refine ⟨((a0, b0), (a1, b1)), fun y hy => ?_⟩
      injection hy with hy
      subst hy
      exact ⟨A, c, A', d, q1 0 _ rfl, q1 1 _ rfl, f0, f1, r1, r2, r3, r4, r5⟩
  obtain ⟨f, hf⟩ := Classical.skolem.1 hsk
  have he : ∀ i, (i * 2) % 2 = 0 ∧ i * 2 / 2 = i ∧ (i * 2 + 1) % 2 ≠ 0 ∧ (i * 2 + 1) / 2 = i := fun i => by omega
  have hat : ∀ o, o < 2 * xs.length → ∃ x, xs[o / 2]? = some x := fun o ho => ⟨_, List.getElem?_eq_getElem (by omega)⟩
  have bd : ∀ o, o < 2 * xs.length → al (o / 2) ≤ (if o % 2 = 0 then (f (o / 2)).1.1 else (f (o / 2)).2.1) ∧ (if o % 2 = 0 then (f (o / 2)).1.2 else (f (o / 2)).2.2) ≤ bl (o / 2) := fun o ho => by
    obtain ⟨x, hx⟩ := hat o ho
    obtain ⟨_, _, _, _, _, _, _, _, r1, r2, r3, r4, _⟩ := hf (o / 2) x hx
    split
    · exact ⟨r1, r2⟩
    · exact ⟨r3, r4⟩
  refine ⟨cur, fun o => if o % 2 = 0 then (f (o / 2)).1.1 else (f (o / 2)).2.1, fun o => if o % 2 = 0 then (f (o / 2)).1.2 else (f (o / 2)).2.2, hc, hB, hH, hn, fun i x hx => ?_, fun o ho => ?_, fun o o' ho ho' hne => ?_⟩
  · obtain ⟨A, c, A', d, q1, q2, q3, q4, _⟩ := hf i x hx
    obtain ⟨e1, e2, e3, e4⟩ := he i
    refine ⟨A, c, A', d, q1, q2, ?_, ?_⟩
    · dsimp only; rw [if_pos e1, if_pos e1, e2]; exact q3
    · dsimp only; rw [if_neg e3, if_neg e3, e4]; exact q4
  · obtain ⟨x, hx⟩ := hat o ho
    obtain ⟨_, _, _, hb1, hb2, hb3⟩ := h1 (o / 2) x hx
    have := bd o ho
    dsimp only
    omega
  · dsimp only
    have b1 := bd o ho
    have b2 := bd o' ho'
    by_cases e : o / 2 = o' / 2
    · obtain ⟨x, hx⟩ := hat o ho
      obtain ⟨_, _, _, _, _, _, _, _, _, _, _, _, r5⟩ := hf (o / 2) x hx
      rw [← e]
      by_cases p0 : o % 2 = 0
      · rw [if_pos p0, if_pos p0, if_neg (by omega), if_neg (by omega)]
        omega
      · rw [if_neg p0, if_neg p0, if_pos (by omega), if_pos (by omega)]
        omega
    · have := h2 (o / 2) (o' / 2) (by omega) (by omega) e
      omega
/-- Collected rows of n fractions: their blocks, what they hold, whose the numbers are. -/
theorem rows_rat {w : World} {B H G R c n : Nat} {rows : List (List Fra)} (h : GE ELR 34 w B H (.slice (some ⟨G, 0, none⟩) R c) rows) (hw : Wid n rows) :
    R = rows.length ∧ B ≤ G ∧ G < H ∧ ∃ gs : List Nat, gs.length = rows.length ∧ (∀ (j g : Nat), gs[j]? = some g → B ≤ g ∧ g < H ∧ g ≠ G) ∧ (∀ (i j g : Nat), gs[i]? = some g → gs[j]? = some g → i = j) ∧
      (∃ cur : Array Value, w.heap[G]? = some (.cells cur 34 (0, 0)) ∧ ∀ (j g : Nat), gs[j]? = some g → ∃ c, n ≤ c ∧ cur[j]? = some (.slice (some ⟨g, 0, none⟩) n c)) ∧
      ∀ S : Nat → Prop, (∀ z, S z → B ≤ z → z < H → z = G ∨ ∃ j : Nat, gs[j]? = some z) →
        (∀ (j g : Nat) (r : List Fra), gs[j]? = some g → rows[j]? = some r → FBk w S g r) ∧ Ow w S (fun b o => ∃ j : Nat, gs[j]? = some b ∧ o < 2 * n) ∧
        ∀ (b o : Nat) (a : Addr) (m d : Nat), (∃ j : Nat, gs[j]? = some b ∧ o < 2 * n) → w.cell? ⟨b, o, none⟩ = some (.slice (some a) m d) → B ≤ a.block ∧ a.block < H := by
  obtain ⟨cur, al, bl, hR, hB, hH, hc, h1, h2⟩ := h.at_
  refine ⟨hR, hB, hH, ?_⟩
  obtain ⟨gs, hgl, hgs⟩ := list_choose (P := fun j g => ∃ x c, rows[j]? = some x ∧ n ≤ c ∧ cur[j]? = some (.slice (some ⟨g, 0, none⟩) n c) ∧ GE ELF 58 w (al j) (bl j) (.slice (some ⟨g, 0, none⟩) n c) x ∧ B ≤ al j ∧ bl j ≤ H ∧ (G < al j ∨ bl j ≤ G)) rows.length fun j hj => by
    obtain ⟨u, q1, ⟨v, rfl, hv, hge⟩, r1, r2, r3⟩ := h1 j _ (List.getElem?_eq_getElem hj)
    obtain ⟨g, d, e, hd, _⟩ := hge.form hv
    subst e
    have hwj := hw rows[j] (List.getElem_mem hj)
    rw [hwj] at q1 hge hd
    refine ⟨g, rows[j], d, List.getElem?_eq_getElem hj, hd, ?_, hge, r1, r2, r3⟩
    have := q1 0 _ rfl
    rwa [show ELR.k = 1 from rfl, Nat.mul_one, Nat.add_zero] at this
  have hlt : ∀ (j g : Nat), gs[j]? = some g → j < rows.length := fun j g hj => by have := (List.getElem?_eq_some_iff.1 hj).1; omega
  have hin : ∀ (j g : Nat), gs[j]? = some g → al j ≤ g ∧ g < bl j := fun j g hj => by
    obtain ⟨x, d, _, _, _, hge, _⟩ := hgs j g hj
    exact hge.own g rfl
  have hnd : ∀ (i j g : Nat), gs[i]? = some g → gs[j]? = some g → i = j := fun i j g hi hj => by
    apply Classical.byContradiction
    intro hne
    have := h2 i j (hlt i g hi) (hlt j g hj) hne
    have := hin i g hi
    have := hin j g hj
    omega
  refine ⟨gs, hgl, fun j g hj => ?_, hnd, ⟨cur, hc, fun j g hj => ?_⟩, fun S hS => ?_⟩
  · obtain ⟨x, d, _, _, _, _, r1, r2, r3⟩ := hgs j g hj
    have := hin j g hj
    omega
  · obtain ⟨x, d, _, q0, q, _⟩ := hgs j g hj
    exact ⟨d, q0, q⟩
  · -- a number's block is none of S
    have away : ∀ (j g p lo hi : Nat), gs[j]? = some g → al j ≤ lo → hi ≤ bl j → (g < lo ∨ hi ≤ g) → lo ≤ p → p < hi → ¬ S p ∧ B ≤ p ∧ p < H := fun j g p lo hi hj k1 k2 k3 k4 k5 => by
      obtain ⟨x, d, _, _, _, _, r1, r2, r3⟩ := hgs j g hj
      refine ⟨fun hs => ?_, by omega, by omega⟩
      rcases hS p hs (by omega) (by omega) with e | ⟨i, hi'⟩
      · omega
      · by_cases e : i = j
        · subst e; rw [hj] at hi'; injection hi' with hi'; omega
        · have := h2 i j (hlt i p hi') (hlt j g hj) e
          have := hin i p hi'
          omega
    refine ⟨fun j g r hj hr => ?_, ?_, ?_⟩
    · obtain ⟨x, d, hx, _, _, hge, _⟩ := hgs j g hj
      rw [hr] at hx
      injection hx with hx
      subst hx
      obtain ⟨cu, lo, hi, k1, k2, k3, k4, k5, k6, k7⟩ := row_nums hge
      refine ⟨cu, k1, fun i x hi' => ?_⟩
      obtain ⟨A, ca, A', d', q1, q2, q3, q4⟩ := k5 i x hi'
      have hil := (List.getElem?_eq_some_iff.1 hi').1
      have b0 := k6 (i * 2) (by omega)
      have b1 := k6 (i * 2 + 1) (by omega)
      exact ⟨A, ca, A', d', q1, q2, ⟨q3.rd, fun _ a e => (away j g a.block _ _ hj b0.1 b0.2.1 b0.2.2 (q3.fr.hi a e) (q3.lo a e)).1⟩, ⟨q4.rd, fun _ a e => (away j g a.block _ _ hj b1.1 b1.2.1 b1.2.2 (q4.fr.hi a e) (q4.lo a e)).1⟩⟩
    all_goals
      have key : ∀ (b o : Nat) (a : Addr) (m d : Nat), (∃ j : Nat, gs[j]? = some b ∧ o < 2 * n) → w.cell? ⟨b, o, none⟩ = some (.slice (some a) m d) → (¬ S a.block ∧ m ≤ d ∧ ∃ cu, w.heap[a.block]? = some (.cells cu 3 (0, 0))) ∧ B ≤ a.block ∧ a.block < H ∧
          ∃ (j : Nat) (x : List Fra) (lo hi : Nat → Nat), gs[j]? = some b ∧ o < 2 * n ∧ lo o ≤ a.block ∧ a.block < hi o ∧ al j ≤ lo o ∧ hi o ≤ bl j ∧ ∀ o' a', o' < 2 * n → o' ≠ o → w.cell? ⟨b, o', none⟩ = some (.slice (some a') m d) → True := by
        intro b o a m d hb hcell
        obtain ⟨j, hj, ho⟩ := hb
        obtain ⟨x, d2, hx, _, _, hge, _⟩ := hgs j b hj
        obtain ⟨cu, lo, hi, k1, k2, k3, k4, k5, k6, k7⟩ := row_nums hge
        obtain ⟨y, hy⟩ : ∃ y, x[o / 2]? = some y := ⟨_, List.getElem?_eq_getElem (by omega)⟩
        obtain ⟨A, ca, A', d', q1, q2, q3, q4⟩ := k5 _ y hy
        have b0 := k6 o (by omega)
        have hcu : cu[o]? = some (.slice (some a) m d) := by simpa [World.cell?, k1] using hcell
        have hfin : ∃ (A : Option Addr) (ca : Nat) (l : List Int), FI w (lo o) (hi o) A ca l ∧ A = some a ∧ m = l.length ∧ d = ca := by
          rcases (show o = o / 2 * 2 ∨ o = o / 2 * 2 + 1 by omega) with e | e
          · rw [← e] at q1 q3
            rw [hcu] at q1
            injection q1 with q1
            injection q1 with e1 e2 e3
            exact ⟨A, ca, _, q3, e1.symm, e2, e3⟩
          · rw [← e] at q2 q4
            rw [hcu] at q2
            injection q2 with q2
            injection q2 with e1 e2 e3
            exact ⟨A', d', _, q4, e1.symm, e2, e3⟩
        obtain ⟨A2, c2, l, hf, rfl, rfl, rfl⟩ := hfin
        have h3 := hf.fr.hi a rfl
        have h4 := hf.lo a rfl
        obtain ⟨s1, s2, s3⟩ := away j b a.block _ _ hj b0.1 b0.2.1 b0.2.2 h3 h4
        obtain ⟨_, cu2, h5⟩ := hf.fr.2.2 a rfl
        exact ⟨⟨s1, hf.fr.cap, cu2, h5⟩, s2, s3, j, x, lo, hi, hj, ho, h3, h4, b0.1, b0.2.1, fun _ _ _ _ _ => trivial⟩
    · intro b o a m d hb hcell
      refine ⟨(key b o a m d hb hcell).1, fun b' o' a' m' d' hb' hcell' ea => ?_⟩
      obtain ⟨_, _, _, j, _, _, _, hj, _, l1, l2, l3, l4, _⟩ := key b o a m d hb hcell
      obtain ⟨_, _, _, j', _, _, _, hj', _, m1, m2, m3, m4, _⟩ := key b' o' a' m' d' hb' hcell'
      obtain rfl : j = j' := by
        apply Classical.byContradiction
        intro hne
        have := h2 j j' (hlt j b hj) (hlt j' b' hj') hne
        omega
      rw [hj] at hj'
      injection hj' with hj'
      subst hj'
      refine ⟨rfl, ?_⟩
      obtain ⟨_, _, ho⟩ := hb
      obtain ⟨_, _, ho'⟩ := hb'
      obtain ⟨x, d2, hx, _, _, hge, _⟩ := hgs j b hj
      obtain ⟨cu, lo, hi, k1, k2, k3, k4, k5, k6, k7⟩ := row_nums hge
      have inn : ∀ (o : Nat) (a : Addr) (m d : Nat), o < 2 * n → w.cell? ⟨b, o, none⟩ = some (.slice (some a) m d) → lo o ≤ a.block ∧ a.block < hi o := fun o a m d ho hcell => by
        obtain ⟨y, hy⟩ : ∃ y, x[o / 2]? = some y := ⟨_, List.getElem?_eq_getElem (by omega)⟩
        obtain ⟨A, ca, A', d', q1, q2, q3, q4⟩ := k5 _ y hy
        have hcu : cu[o]? = some (.slice (some a) m d) := by simpa [World.cell?, k1] using hcell
        rcases (show o = o / 2 * 2 ∨ o = o / 2 * 2 + 1 by omega) with e | e
        · rw [← e] at q1 q3
          rw [hcu] at q1
          injection q1 with q1
          injection q1 with e1 e2 e3
          exact ⟨q3.fr.hi a e1.symm, q3.lo a e1.symm⟩
        · rw [← e] at q2 q4
          rw [hcu] at q2
          injection q2 with q2
          injection q2 with e1 e2 e3
          exact ⟨q4.fr.hi a e1.symm, q4.lo a e1.symm⟩
      apply Classical.byContradiction
      intro hne
      have i1 := inn o a m d ho hcell
      have i2 := inn o' a' m' d' ho' hcell'
      have := k7 o o' (by omega) (by omega) (fun e => hne e.symm)
      omega
    · intro b o a m d hb hcell
      obtain ⟨_, r1, r2, _⟩ := key b o a m d hb hcell
      exact ⟨r1, r2⟩
end Go.Proofs.YtpeogfapnofeoaaGreatDoor
namespace Go.Proofs.YtpeogfapnofeoaaGreatDoor
set_option maxRecDepth 100000
open Go Go.RowKit
theorem FBk.k1 {w w' : World} {S S' : Nat → Prop} {R : Nat → Nat → Prop} {b q : Nat} {xs : List Fra} (h : FBk w S b xs) (hO : Ow w S' R) (hR : ∀ o, o < 2 * xs.length → R b o) (hq : S' q) (hb : b ≠ q) (k : Ex1 q w w') : FBk w' S b xs := by
  have hl := h.lt
  obtain ⟨cur, hc, hx⟩ := h
  refine ⟨cur, (k.block b hl (by intro e; injection e with e; exact hb e)).trans hc, fun i x hi => ?_⟩
  obtain ⟨A, c, B, d, h1, h2, h3, h4⟩ := hx i x hi
  have hil := (List.getElem?_eq_some_iff.1 hi).1
  have kp : ∀ (o : Nat) (A : Option Addr) (n c : Nat) (l : List Int), o < 2 * xs.length → cur[o]? = some (.slice A n c) → RX w S A l → RX w' S A l := fun o A n c l ho hcu hr =>
    ⟨hr.1.keep fun a e hl => k.block _ hl (by
      subst e
      intro e2
      injection e2 with e2
      have := (hO b o a n c (hR o ho) (by simp [World.cell?, hc, hcu])).1.1
      exact this (e2 ▸ hq)), hr.2⟩
  exact ⟨A, c, B, d, h1, h2, kp _ A _ _ _ (by omega) h1 h3, kp _ B _ _ _ (by omega) h2 h4⟩
theorem RatM.k1 {w w' : World} {S S' : Nat → Prop} {R : Nat → Nat → Prop} {G n q : Nat} {bs : List (Option Nat)} {rows : List (List Fra)} (h : RatM w S G bs rows n) (hO : Ow w S' R) (hR : ∀ (j b : Nat), bs[j]? = some (some b) → ∀ o, o < 2 * n → R b o) (hq : S' q) (hS : ¬ S q) (k : Ex1 q w w') : RatM w' S G bs rows n := by
  have hl := h.lt
  obtain ⟨cur, hc, hx⟩ := h.out
  refine ⟨⟨cur, (k.block G hl (by intro e; injection e with e; exact hS (e ▸ h.sg))).trans hc, hx⟩, h.len, fun j ob r h1 h2 => ?_, h.nd, h.sg, h.ng⟩
  obtain ⟨q1, q2⟩ := h.row j ob r h1 h2
  refine ⟨?_, q2⟩
  cases ob with
  | none => exact q1
  | some b => exact ⟨q1.1.k1 hO (fun o ho => hR j b h1 o (by omega)) hq (fun e => hS (e ▸ q1.2)) k, q1.2⟩
theorem RtTwo.k1 {w w' : World} {S K : Nat → Prop} {G G' : Nat} {bs bs' : List (Option Nat)} {Z : List (List Fra)} {n m q : Nat} (h : RtTwo w S K G G' bs bs' Z n m) (hq : K q) (hS : ¬ S q) (k : Ex1 q w w') : RtTwo w' S K G G' bs bs' Z n m := by
  obtain ⟨R, hO, h1, h2, h3, h4, h5⟩ := h.own
  refine ⟨h.r.k1 hO (fun j b hb => (h4 j b hb).2) (.inr hq) hS k, h.a.k1 hO (fun j b hb => (h5 j b hb).2) (.inr hq) hS k, h.ne, h.d, h.d1, h.d2, fun z hz => Nat.lt_of_lt_of_le (h.sl z hz) k.size, fun z hz => Nat.lt_of_lt_of_le (h.kl z hz) k.size, R, ?_, h1, h2, h3, h4, h5⟩
  exact hO.sx (fun z o hz => h.sl z (h1 z o hz)) (ExS.of_ex1 (S := fun z => z = q) k rfl) (fun i e => .inr (e ▸ hq)) (fun i o e hr => hS (h1 q o (e ▸ hr)))
/-- Blocks that are new are none of the numbers'. -/
theorem RtTwo.moreK {w w' : World} {S K K' : Nat → Prop} {G G' : Nat} {bs bs' : List (Option Nat)} {Z : List (List Fra)} {n m : Nat} (h : RtTwo w S K G G' bs bs' Z n m) (he : Ex w w') (hK : ∀ z, K' z → K z ∨ (w.heap.size ≤ z ∧ z < w'.heap.size)) : RtTwo w' S K' G G' bs bs' Z n m := by
  obtain ⟨R, hO, h1, h2, h3, h4, h5⟩ := h.own
  have hw := h.ex he
  refine ⟨hw.r, hw.a, h.ne, h.d, h.d1, h.d2, hw.sl, fun z hz => ?_, R, ?_, h1, h2, h3, h4, h5⟩
  · rcases hK z hz with hz | hz
    · exact hw.kl z hz
    · exact hz.2
  · have hO' : Ow w (fun z => S z ∨ K' z) R := fun b o a nn c hb hc => by
      obtain ⟨⟨q1, q2, cur, q3⟩, q4⟩ := hO b o a nn c hb hc
      refine ⟨⟨fun e => ?_, q2, cur, q3⟩, q4⟩
      rcases e with e | e
      · exact q1 (.inl e)
      · rcases hK _ e with e | e
        · exact q1 (.inr e)
        · have := heap_lt_of q3; omega
    exact hO'.sx (fun z o hz => h.sl z (h1 z o hz)) (ExS.of_ex (S := fun _ => False) he) (fun _ h => h.elim) (fun _ _ h => h.elim)
theorem RtTwo.of_rows {w : World} {B H G G' R c n : Nat} {rows : List (List Fra)} {K : Nat → Prop} (h : GE ELR 34 w B H (.slice (some ⟨G, 0, none⟩) R c) rows) (hw : Wid n rows) (hG' : VB w G' 34 (List.replicate R (Value.slice none 0 0)).toArray) (hH : H ≤ G')
    (hK : ∀ z, K z → z < w.heap.size ∧ (z < B ∨ H ≤ z)) (hHs : H ≤ w.heap.size) : R = rows.length ∧ B ≤ G ∧ G < H ∧ ∃ (S : Nat → Prop) (bs : List (Option Nat)), RtTwo w S K G G' bs (List.replicate R none) rows n 0 ∧ ∀ z, S z → (B ≤ z ∧ z < H) ∨ z = G' := by
  obtain ⟨hR, hB, hGH, gs, g1, g2, g3, g4, g5⟩ := rows_rat h hw
  refine ⟨hR, hB, hGH, fun z => z = G ∨ z = G' ∨ ∃ j : Nat, gs[j]? = some z, gs.map some, ?_, fun z hz => ?_⟩
  · have hat : ∀ (j b : Nat), (gs.map some)[j]? = some (some b) → gs[j]? = some b := fun j b hb => by
      rw [List.getElem?_map] at hb
      cases hx : gs[j]? with
      | none => rw [hx] at hb; cases hb
      | some x => rw [hx] at hb; cases hb; rfl
    have e1 : rows.map (List.take n) = rows := by
      conv => rhs; rw [← List.map_id rows]
      exact List.map_congr_left fun v hv => by rw [← hw v hv, List.take_length]; rfl
    have e2 : rows.map (List.drop n) = List.replicate R [] := by
      rw [hR]
      refine List.ext_getElem (by simp) fun j h1 h2 => ?_
      rw [List.getElem_map, List.getElem_replicate]
      refine List.drop_of_length_le ?_
      rw [List.length_map] at h1
      rw [hw _ (List.getElem_mem h1)]
      exact Nat.le_refl _
    have s1 := g5 (fun z => z = G ∨ z = G' ∨ ∃ j : Nat, gs[j]? = some z) (fun z hz l u => by
      rcases hz with e | e | e
      · exact .inl e
      · omega
      · exact .inr e)
    have s2 := g5 (fun z => (z = G ∨ z = G' ∨ ∃ j : Nat, gs[j]? = some z) ∨ K z) (fun z hz l u => by
      rcases hz with (e | e | e) | e
      · exact .inl e
      · omega
      · exact .inr e
      · have := hK z e; omega)
    obtain ⟨cur, hc, hcu⟩ := g4
    refine ⟨⟨⟨cur, hc, fun j ob hj => ?_⟩, by rw [List.length_map, List.length_map]; exact g1, fun j ob r h1 h2 => ?_, fun i j b h1 h2 => g3 i j b (hat i b h1) (hat j b h2), .inl rfl, fun j b hb => (g2 j b (hat j b hb)).2.2⟩, ?_, by omega, fun i j b h1 h2 => ?_, fun j b hb => by have := (g2 j b (hat j b hb)).2.1; omega, fun j b hb => ?_, fun z hz => ?_, fun z hz => (hK z hz).1, fun b o => ∃ j : Nat, gs[j]? = some b ∧ o < 2 * n, s2.2.1, fun z o hz => ?_, fun o hz => ?_, fun o hz => ?_, fun j b hb => ⟨.inr (.inr ⟨j, hat j b hb⟩), fun o ho => ⟨j, hat j b hb, ho⟩⟩, fun j b hb => ?_⟩
    · rw [List.getElem?_map] at hj
      cases hx : gs[j]? with
      | none => rw [hx] at hj; cases hj
      | some x => rw [hx] at hj; injection hj with hj; subst hj; exact hcu j x hx
    · rw [e1] at h2
      rw [List.getElem?_map] at h1
      cases hx : gs[j]? with
      | none => rw [hx] at h1; cases h1
      | some x =>
        rw [hx] at h1
        injection h1 with h1
        subst h1
        exact ⟨⟨s1.1 j x r hx h2, .inr (.inr ⟨j, hx⟩)⟩, hw r (List.mem_of_getElem? h2)⟩
    · rw [e2]
      refine ⟨⟨_, hG', fun j ob hj => ?_⟩, by simp, fun j ob r h1 h2 => ?_, fun i j b h1 h2 => ?_, .inr (.inl rfl), fun j b hb => ?_⟩
      · rw [List.getElem?_replicate] at hj
        split at hj
        · rename_i hlt
          injection hj with hj
          subst hj
          exact ⟨0, Nat.le_refl 0, by simp [hlt, pB]⟩
        · cases hj
      · rw [List.getElem?_replicate] at h1 h2
        split at h1
        · rename_i hlt
          rw [if_pos hlt] at h2
          injection h1 with h1
          injection h2 with h2
          subst h1 h2
          exact ⟨rfl, rfl⟩
        · cases h1
      · rw [List.getElem?_replicate] at h1; split at h1 <;> cases h1
      · rw [List.getElem?_replicate] at hb; split at hb <;> cases hb
    · rw [List.getElem?_replicate] at h2; split at h2 <;> cases h2
    · rw [List.getElem?_replicate] at hb; split at hb <;> cases hb
    · rcases hz with e | e | ⟨j, hj⟩
      · have := heap_lt_of hc; omega
      · have := hG'.lt; omega
      · have := (g2 j z hj).2.1; omega
    · obtain ⟨j, hj, _⟩ := hz
      exact .inr (.inr ⟨j, hj⟩)
    · obtain ⟨j, hj, _⟩ := hz
      exact (g2 j G hj).2.2 rfl
    · obtain ⟨j, hj, _⟩ := hz
      have := (g2 j G' hj).2.1; omega
    · rw [List.getElem?_replicate] at hb; split at hb <;> cases hb
  · rcases hz with e | e | ⟨j, hj⟩
    · exact .inl (by omega)
    · exact .inr e
    · exact .inl ⟨(g2 j z hj).1, (g2 j z hj).2.1⟩
/-- A list of rows of a call's own, all its blocks from B on. -/
def RatO (w : World) (B : Nat) (v : Value) (rows : List (List Fra)) (n : Nat) : Prop :=
  ∃ (S S' : Nat → Prop) (R : Nat → Nat → Prop) (G : Nat) (bs : List (Option Nat)) (c : Nat), v = .slice (some ⟨G, 0, none⟩) rows.length c ∧ rows.length ≤ c ∧ RatM w S G bs rows n ∧ Ow w S' R ∧ (∀ z, S z → S' z) ∧ (∀ z, z < B → S' z) ∧ (∀ z, S z → B ≤ z ∧ z < w.heap.size) ∧
    (∀ z o, R z o → S z) ∧ (∀ (j b : Nat), bs[j]? = some (some b) → S b ∧ ∀ o, o < 2 * n → R b o)
theorem RatO.ex {w w' : World} {B n : Nat} {v : Value} {rows : List (List Fra)} (h : RatO w B v rows n) (he : Ex w w') : RatO w' B v rows n := by
  obtain ⟨S, S', R, G, bs, c, e, hc, hM, hO, h1, h2, h3, h4, h5⟩ := h
  exact ⟨S, S', R, G, bs, c, e, hc, hM.ex he, hO.sx (fun z o hz => (h3 z (h4 z o hz)).2) (ExS.of_ex (S := fun _ => False) he) (fun _ h => h.elim) (fun _ _ h => h.elim), h1, h2, fun z hz => ⟨(h3 z hz).1, Nat.lt_of_lt_of_le (h3 z hz).2 he.size⟩, h4, h5⟩
theorem RatM.take {w : World} {S : Nat → Prop} {G n : Nat} {bs : List (Option Nat)} {rows : List (List Fra)} (h : RatM w S G bs rows n) (r : Nat) : RatM w S G (bs.take r) (rows.take r) n := by
  have at_ : ∀ {α : Type} (l : List α) (j : Nat) (x : α), (l.take r)[j]? = some x → l[j]? = some x := fun l j x hj => by
    rw [List.getElem?_take] at hj
    split at hj
    · exact hj
    · cases hj
  obtain ⟨cur, hc, hx⟩ := h.out
  exact ⟨⟨cur, hc, fun j ob hj => hx j ob (at_ _ _ _ hj)⟩, by rw [List.length_take, List.length_take, h.len], fun j ob q h1 h2 => h.row j ob q (at_ _ _ _ h1) (at_ _ _ _ h2), fun i j b h1 h2 => h.nd i j b (at_ _ _ _ h1) (at_ _ _ _ h2), h.sg, fun j b hb => h.ng j b (at_ _ _ _ hb)⟩
theorem FBk.rds {w : World} {S : Nat → Prop} {b : Nat} {xs : List Fra} (h : FBk w S b xs) (hl : xs.length ≤ 1099511627776) : RdS EF w (some ⟨b, 0, none⟩) xs := by
  refine ⟨hl, fun j x hj => ?_⟩
  obtain ⟨A, c, B, d, h0, h1, h2, h3⟩ := h.at_ hj
  refine ⟨b, 0, [.slice A x.n.length c, .slice B x.d.length d], rfl, fun i u hi => ?_, _, _, rfl, ⟨A, c, rfl, h2.1⟩, ⟨B, d, rfl, h3.1⟩⟩
  rw [show EF.k = 2 from rfl, Nat.zero_add]
  match i, hi with
  | 0, hi => simp at hi; rw [← hi]; exact h0
  | 1, hi => simp at hi; rw [← hi]; exact h1
theorem RatM.rds {w : World} {S : Nat → Prop} {G n : Nat} {bs : List (Option Nat)} {rows : List (List Fra)} (h : RatM w S G bs rows n) (hl : rows.length ≤ 1099511627776) (hn : n ≤ 1099511627776) : RdS EFF w (some ⟨G, 0, none⟩) rows := by
  refine ⟨hl, fun j r hj => ?_⟩
  obtain ⟨ob, r', c, h1, h2, h3, h4, h5⟩ := h.at_ (List.getElem?_eq_some_iff.1 hj).1
  rw [hj] at h2
  injection h2 with h2
  subst h2
  refine ⟨G, 0, [.slice (pB ob) n c], rfl, fun i u hi => ?_, _, rfl, pB ob, c, by rw [h3], ?_⟩
  · rw [show EFF.k = 1 from rfl, Nat.zero_add, Nat.mul_one]
    match i, hi with
    | 0, hi => simp at hi; rw [← hi]; exact h5
  · cases ob with
    | none => obtain rfl : r = [] := h4; exact ⟨by simp, fun j x hj => by simp at hj⟩
    | some b => exact h4.1.rds (by omega)
theorem RatO.rds {w : World} {B n : Nat} {v : Value} {rows : List (List Fra)} (h : RatO w B v rows n) (hl : rows.length ≤ 1099511627776) (hn : n ≤ 1099511627776) : ∃ A c, v = .slice A rows.length c ∧ RdS EFF w A rows := by
  obtain ⟨S, S', R, G, bs, c, e, hc, hM, _⟩ := h
  exact ⟨_, c, e, hM.rds hl hn⟩
end Go.Proofs.YtpeogfapnofeoaaGreatDoor
namespace Go.Proofs.YtpeogfapnofeoaaGreatDoor
set_option maxRecDepth 100000
open Go Go.RowKit
set_option maxHeartbeats 2000000 in
theorem ratRedd1_c (p : Int) (S KS : Nat → Prop) (G G' : Nat) (bs0 bs0' : List (Option Nat)) (Z0 : List (List Fra)) (n m R cG cG' b0 b1 b2 b3 b4 : Nat) (w : World) (hF : fieldB p = true) (h : RtTwo w S KS G G' bs0 bs0' Z0 n m) (hW : Wid (n + m) Z0) (hGd : ∀ c, c ≤ n → GdM p 17179869184 (stg (frOps p) Z0 c).1) (hR : Z0.length = R)
    (hn : n ≤ 1000) (hm : m ≤ 1000) (hR1 : R ≤ 1000) (hc1 : R ≤ cG) (hc2 : cG ≤ 9223372036854775807)
    (c0 : w.cell? ⟨b0, 0, none⟩ = some (.int .i64 p)) (c1 : w.cell? ⟨b1, 0, none⟩ = some (.slice (some ⟨G, 0, none⟩) R cG)) (c2 : w.cell? ⟨b2, 0, none⟩ = some (.int .i64 n)) (c3 : w.cell? ⟨b3, 0, none⟩ = some (.slice (some ⟨G', 0, none⟩) R cG')) (v4 : VB w b4 3 #[.int .i64 0]) (hS4 : ¬ S b4) (hK4 : KS b4) :
    Calls Tryz.prog 110 #[.pointer (some ⟨b0, 0, none⟩), .pointer (some ⟨b1, 0, none⟩), .pointer (some ⟨b2, 0, none⟩), .pointer (some ⟨b3, 0, none⟩), .pointer (some ⟨b4, 0, none⟩)] w fun e w' => e = .returned (.tuple #[]) ∧ ExS (fun z => S z ∨ z = b4) w w' ∧
      VB w' b4 3 #[.int .i64 ((frOps p).red n 0 0 Z0).2] ∧ ∃ bs bs', RtTwo w' S KS G G' bs bs' ((frOps p).red n 0 0 Z0).1 n m := by
  have hcall := ratReduction_c p S KS G G' bs0 bs0' Z0 n m R cG cG' w hF h.sl h hW hGd hR hn hm hR1 hc1 hc2
  clear h hW hGd hR
  generalize (frOps p).red n 0 0 Z0 = FIN at *
  go_enter Tryz.func110, Tryz.ntmps110
  go_wp2_with fail
  refine hcall.mono ?_
  rintro e w1 ⟨bs, bs', rfl, hT, x1⟩
  have v1 : VB w1 b4 3 #[.int .i64 0] := (x1.block _ v4.lt hS4).trans v4
  have d0 := v1.cell 0 (v := .int .i64 0) rfl
  have d1 := v1.frozen 0
  have E2 : Ex1 b4 w1 (w1.setCell ⟨b4, 0, none⟩ (.int .i64 FIN.2)) := (Ex1.refl _ w1).setCell (p := ⟨b4, 0, none⟩) rfl _
  have v2 : VB (w1.setCell ⟨b4, 0, none⟩ (.int .i64 FIN.2)) b4 3 #[.int .i64 FIN.2] := v1.set_ 0 _
  have hT2 := hT.k1 hK4 hS4 E2
  have x2 := (x1.widen (T := fun z => S z ∨ z = b4) (fun z _ h => .inl h)).trans (ExS.of_ex1 (S := fun z => z = b4) E2 rfl) (fun z _ e => .inr e)
  clear hcall
  go_wp2_with fail
  first | rw [Exit.noGoto_ret] | skip
  refine bodyPost_end (results_none rfl _ _ _) rfl ?_
  exact ⟨rfl, x2, v2, bs, bs', hT2⟩
theorem run_make_nils (n : Nat) (hn : n ≤ 1099511627776) (w : World) :
    (Instr.makeSlice 30 (.int .i64 (n : Int)) (.int .i64 (n : Int))).run Tryz.prog w = .ok (.slice (some ⟨w.heap.size, 0, none⟩) n n) (w.alloc (.cells (List.replicate n (Value.slice none 0 0)).toArray 34)) := by
  have h := run_make_fracss n hn w
  have e : (List.replicate n slZ).flatten = List.replicate n (Value.slice none 0 0) := by
    induction n with
    | zero => rfl
    | succ n ih => rw [List.replicate_succ, List.flatten_cons, ih (by omega) (run_make_fracss n (by omega) w)]; rfl
  rw [e] at h
  exact h
/-- The reduced list has at most as many rows. -/
theorem red_snd {K : Type} (O : Ops K) : ∀ (m c r : Nat) (rows : List (List K)), r ≤ rows.length → (O.red m c r rows).2 ≤ rows.length
  | 0, _, _, _, h => h
  | m + 1, c, r, rows, h => by
    rw [Ops.red]
    split
    · rename_i hf
      have hk := fnd_some O hf
      have := red_snd O m (c + 1) (r + 1) (O.piv rows r c (O.fnd rows r c)) (by rw [piv_len]; omega)
      rwa [piv_len] at this
    · exact red_snd O m (c + 1) r rows h
theorem Wid.red {K : Type} {O : Ops K} {N : Nat} : ∀ (m c r : Nat) (rows : List (List K)), r ≤ rows.length → Wid N rows → Wid N (O.red m c r rows).1
  | 0, _, _, _, _, h => h
  | m + 1, c, r, rows, hr, h => by
    rw [Ops.red]
    split
    · rename_i hf
      have hk := fnd_some O hf
      exact Wid.red m (c + 1) (r + 1) _ (by rw [piv_len]; omega) (h.piv (by omega) hf)
    · exact Wid.red m (c + 1) r rows hr h
theorem nil_rep (n : Nat) : (List.replicate n (Value.slice none 0 0)).toArray = Array.replicate n (Value.slice none 0 0) := by simp
set_option maxHeartbeats 4000000 in
theorem ratReduced_c (p : Int) (n : Nat) (rows : List (List Fra)) (A : Option Addr) (c : Nat) (w : World) (hF : fieldB p = true) (h : RdS EFF w A rows) (hw : Wid n rows) (hGd : ∀ c, c ≤ n → GdM p 17179869184 (stg (frOps p) rows c).1) (hn : n ≤ 1000) (hR : rows.length ≤ 1000) :
    Calls Tryz.prog 81 #[.int .i64 p, .slice A rows.length c, .int .i64 n] w fun e w' => ∃ v, e = .returned v ∧ RatO w' w.heap.size v ((frOps p).rref n rows) n ∧ Ex w w' := by
  have HF := Lib.hid hF
  have HW := Lib.hid hw
  have HGd := Lib.hid hGd
  have x0 := ((Ex.refl w).alloc (.cells #[.int .i64 p] 3)).alloc (.cells #[.int .i64 n] 3)
  have v0 := (VB.new w 3 #[.int .i64 p]).ex ((Ex.refl _).alloc (.cells #[.int .i64 n] 3))
  have v1 := VB.new (w.alloc (.cells #[.int .i64 p] 3)) 3 #[.int .i64 n]
  have s0 : ((w.alloc (.cells #[.int .i64 p] 3)).alloc (.cells #[.int .i64 n] 3)).heap.size = w.heap.size + 2 := by simp
  rw [show (w.alloc (.cells #[.int .i64 p] 3)).heap.size = w.heap.size + 1 by simp] at v1
  clear hF hw hGd
  go_enter Tryz.func81, Tryz.ntmps81
  go_wp2_with fail
  generalize (w.alloc (.cells #[.int .i64 p] 3)).alloc (.cells #[.int .i64 n] 3) = W0 at *
  refine (copyRows_c A c rows W0 (h.ex x0)).mono ?_
  rintro e w1 ⟨v, rfl, ⟨hnn, hge⟩, x1⟩
  obtain ⟨G, cG, ev, hcG, hcm⟩ := hge.form hnn
  subst ev
  clear hnn
  have hz1 := x1.size
  have hmk := fun W => run_make_nils rows.length (by omega) W
  go_wp2_with fail
  have vN := VB.new w1 30 #[.slice (some ⟨G, 0, none⟩) rows.length cG]
  have y1 := (Ex.refl w1).alloc (.cells #[.slice (some ⟨G, 0, none⟩) rows.length cG] 30)
  have t1 : (w1.alloc (.cells #[.slice (some ⟨G, 0, none⟩) rows.length cG] 30)).heap.size = w1.heap.size + 1 := by simp
  generalize w1.alloc (.cells #[.slice (some ⟨G, 0, none⟩) rows.length cG] 30) = V1 at *
  have vM := VB.new V1 34 (Array.replicate rows.length (Value.slice none 0 0))
  have y2 := (Ex.refl V1).alloc (.cells (Array.replicate rows.length (Value.slice none 0 0)) 34)
  have t2 : (V1.alloc (.cells (Array.replicate rows.length (Value.slice none 0 0)) 34)).heap.size = w1.heap.size + 1 + 1 := by simp; exact t1
  rw [t1] at vM
  generalize V1.alloc (.cells (Array.replicate rows.length (Value.slice none 0 0)) 34) = V2 at *
  have vO := VB.new V2 30 #[.slice (some ⟨w1.heap.size + 1, 0, none⟩) rows.length rows.length]
  have y3 := (Ex.refl V2).alloc (.cells #[.slice (some ⟨w1.heap.size + 1, 0, none⟩) rows.length rows.length] 30)
  have t3 : (V2.alloc (.cells #[.slice (some ⟨w1.heap.size + 1, 0, none⟩) rows.length rows.length] 30)).heap.size = w1.heap.size + 1 + 1 + 1 := by simp; exact t2
  rw [t2] at vO
  generalize V2.alloc (.cells #[.slice (some ⟨w1.heap.size + 1, 0, none⟩) rows.length rows.length] 30) = V3 at *
  have vR := VB.new V3 3 #[.int .i64 0]
  have y4 := (Ex.refl V3).alloc (.cells #[.int .i64 0] 3)
  have t4 : (V3.alloc (.cells #[.int .i64 0] 3)).heap.size = w1.heap.size + 1 + 1 + 1 + 1 := by simp; exact t3
  rw [t3] at vR
  generalize V3.alloc (.cells #[.int .i64 0] 3) = V4 at *
  have y14 := ((y1.trans y2).trans y3).trans y4
  have v0 := (v0.ex x1).ex y14
  have v1 := (v1.ex x1).ex y14
  have vN := vN.ex ((y2.trans y3).trans y4)
  have vM := vM.ex (y3.trans y4)
  have vO := vO.ex y4
  have hge4 := hge.ex y14
  obtain ⟨_, hBG, hGH, S, bs, hT, hSb⟩ := RtTwo.of_rows (K := fun z => z < W0.heap.size ∨ (w1.heap.size ≤ z ∧ z < V4.heap.size)) hge4 HW.out (G' := w1.heap.size + 1) (by rw [nil_rep]; exact vM) (by omega) (fun z hz => by omega) (by omega)
  clear y1 y2 y3 y4 hge hge4 hmk vM
  have hS5 : ∀ z, S z ∨ z = w1.heap.size + 1 + 1 + 1 → w.heap.size ≤ z ∧ z < V4.heap.size := fun z hz => by
    rcases hz with hz | hz
    · rcases hSb z hz with h | h <;> omega
    · omega
  have hSn : ¬ S (w1.heap.size + 1 + 1 + 1) := fun h => by rcases hSb _ h with h | h <;> omega
  have hSN : ¬ S V4.heap.size := fun h => by have := hS5 _ (.inl h); omega
  have hSo : ¬ S w1.heap.size := fun h => by rcases hSb _ h with h | h <;> omega
  have hfl := red_len (frOps p) n 0 0 rows
  have hfs := red_snd (frOps p) n 0 0 rows (Nat.zero_le _)
  have hfw : Wid n ((frOps p).red n 0 0 rows).1 := Wid.red n 0 0 rows (Nat.zero_le _) HW.out
  have hrr : (frOps p).rref n rows = ((frOps p).red n 0 0 rows).1.take ((frOps p).red n 0 0 rows).2 := rfl
  have hcall := whole_c 110 (enters_of Tryz.func110 (by kernel_rfl) rfl) #[.pointer (some ⟨w.heap.size, 0, none⟩), .pointer (some ⟨w1.heap.size, 0, none⟩), .pointer (some ⟨w.heap.size + 1, 0, none⟩), .pointer (some ⟨w1.heap.size + 1 + 1, 0, none⟩), .pointer (some ⟨w1.heap.size + 1 + 1 + 1, 0, none⟩)] V4 (fun z => S z ∨ z = w1.heap.size + 1 + 1 + 1)
    (fun W => VB W (w1.heap.size + 1 + 1 + 1) 3 #[.int .i64 ((frOps p).red n 0 0 rows).2] ∧ ∃ bs bs', RtTwo W S (fun z => (z < W0.heap.size ∨ (w1.heap.size ≤ z ∧ z < V4.heap.size)) ∨ z = V4.heap.size) G (w1.heap.size + 1) bs bs' ((frOps p).red n 0 0 rows).1 n 0) (fun z hz => (hS5 z hz).2) (fun W hW hsz => by
      have hTW := hT.moreK (K' := fun z => (z < W0.heap.size ∨ (w1.heap.size ≤ z ∧ z < V4.heap.size)) ∨ z = V4.heap.size) hW (fun z hz => by
        rcases hz with hz | hz
        · exact .inl hz
        · exact .inr (by omega))
      refine (ratRedd1_c p S _ G (w1.heap.size + 1) bs _ rows n 0 rows.length cG rows.length w.heap.size w1.heap.size (w.heap.size + 1) (w1.heap.size + 1 + 1) (w1.heap.size + 1 + 1 + 1) W HF.out hTW (by simpa using HW.out) HGd.out rfl hn (by omega) hR hcG hcm ((v0.ex hW).cell 0 rfl) ((vN.ex hW).cell 0 rfl) ((v1.ex hW).cell 0 rfl) ((vO.ex hW).cell 0 rfl) (vR.ex hW) hSn (.inl (.inr (by omega)))).mono ?_
      rintro e W' ⟨rfl, a1, a2, a3⟩
      exact ⟨rfl, a1, a2, a3⟩) (fun W W' hq he => by
      obtain ⟨q1, bs1, bs1', q2⟩ := hq
      exact ⟨q1.ex1 he (by omega), bs1, bs1', q2.k1 (.inr rfl) hSN he⟩)
  have x4 := (x0.trans x1).trans y14
  clear hT v0 v1 vO vR
  generalize (frOps p).red n 0 0 rows = FIN at *
  refine hcall.mono ?_
  rintro e w5 ⟨rfl, x5, v5, bs5, bs5', hT5⟩
  have vN5 : VB w5 w1.heap.size 30 #[.slice (some ⟨G, 0, none⟩) rows.length cG] := (x5.block _ vN.lt (fun h => by
    rcases h with h | h
    · exact hSo h
    · omega)).trans vN
  have d0 := vN5.cell 0 (v := .slice (some ⟨G, 0, none⟩) rows.length cG) rfl
  have d1 := v5.cell 0 (v := .int .i64 FIN.2) rfl
  have x5w : Ex w w5 := x4.sx x5 (fun z hz => (hS5 z hz).1)
  have hz5 := x5.size
  have hlr : ((frOps p).rref n rows).length = FIN.2 := by rw [hrr, List.length_take]; omega
  have hfin : RatO w5 w.heap.size (.slice (some ⟨G, 0, none⟩) FIN.2 FIN.2) ((frOps p).rref n rows) n := by
    obtain ⟨R, hO, h1, h2, h3, h4, h5⟩ := hT5.own
    refine ⟨S, _, R, G, bs5.take FIN.2, FIN.2, by rw [hlr], by omega, ?_, hO, fun z hz => .inl hz, fun z hz => .inr (.inl (.inl (by have := x0.size; omega))), fun z hz => ⟨(hS5 z (.inl hz)).1, hT5.sl z hz⟩, h1, fun j b hb => h4 j b ?_⟩
    · have hM := hT5.r.take FIN.2
      have : FIN.1.map (List.take n) = FIN.1 := by
        conv => rhs; rw [← List.map_id FIN.1]
        exact List.map_congr_left fun v hv => by rw [← hfw v hv, List.take_length]; rfl
      rw [this, ← hrr] at hM
      exact hM
    · rw [List.getElem?_take] at hb
      split at hb
      · exact hb
      · cases hb
  have Hfin := Lib.hid hfin
  clear hcall hfin hT5 hlr hfw hrr hfl
  go_wp2_with fail
  go_ret
  exact ⟨_, rfl, Hfin.out, x5w⟩
end Go.Proofs.YtpeogfapnofeoaaGreatDoor
