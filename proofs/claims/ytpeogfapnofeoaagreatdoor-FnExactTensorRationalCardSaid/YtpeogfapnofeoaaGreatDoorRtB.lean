/- Rational rows that are turned in place: memory; ratAddTimes. -/
import Derived.Test.YtpeogfapnofeoaaGreatDoorRtA
import Derived.Deep.RegionLaw
namespace Go.Proofs.YtpeogfapnofeoaaGreatDoor
set_option maxRecDepth 100000
open Go Go.RowKit
theorem Rd.sx_k {w w' : World} {S : Nat → Prop} {A : Option Addr} {xs : List Int} (h : Rd w A xs) (k : ExS S w w') (hd : xs ≠ [] → ∀ a, A = some a → ¬ S a.block) : Rd w' A xs := by
  by_cases hx : xs = []
  · subst hx; exact Rd.nil _ _
  · exact h.keep fun a e hl => k.block _ hl (hd hx a e)
/-- It reads as l, in none of the blocks of S. -/
def RX (w : World) (S : Nat → Prop) (A : Option Addr) (l : List Int) : Prop := Rd w A l ∧ (l ≠ [] → ∀ a, A = some a → ¬ S a.block)
theorem RX.sx {w w' : World} {S T : Nat → Prop} {A : Option Addr} {l : List Int} (h : RX w S A l) (k : ExS T w w') (hT : ∀ i, T i → S i) : RX w' S A l := ⟨h.1.sx_k k fun hn a e ht => h.2 hn a e (hT _ ht), h.2⟩
theorem RX.ex {w w' : World} {S : Nat → Prop} {A : Option Addr} {l : List Int} (h : RX w S A l) (k : Ex w w') : RX w' S A l := ⟨h.1.ex k, h.2⟩
theorem Fr.rx {w : World} {B : Nat} {A : Option Addr} {c : Nat} {l : List Int} (h : Fr w B A c l) {S : Nat → Prop} (hS : ∀ k, S k → k < B) : RX w S A l := ⟨h.rd, fun _ a e hs => by have := h.hi a e; have := hS _ hs; omega⟩
/-- Block b holds the row xs of fractions; their numbers lie in none of the blocks of S. -/
def FBk (w : World) (S : Nat → Prop) (b : Nat) (xs : List Fra) : Prop :=
  ∃ cur : Array Value, w.heap[b]? = some (.cells cur 58 (0, 0)) ∧ ∀ (i : Nat) (x : Fra), xs[i]? = some x → ∃ A c B d, cur[i * 2]? = some (.slice A x.n.length c) ∧ cur[i * 2 + 1]? = some (.slice B x.d.length d) ∧ RX w S A x.n ∧ RX w S B x.d
theorem FBk.lt {w : World} {S : Nat → Prop} {b : Nat} {xs : List Fra} (h : FBk w S b xs) : b < w.heap.size := by obtain ⟨_, h, _⟩ := h; exact heap_lt_of h
theorem FBk.at_ {w : World} {S : Nat → Prop} {b : Nat} {xs : List Fra} (h : FBk w S b xs) {i : Nat} {x : Fra} (hi : xs[i]? = some x) :
    ∃ A c B d, w.cell? ⟨b, i * 2, none⟩ = some (.slice A x.n.length c) ∧ w.cell? ⟨b, i * 2 + 1, none⟩ = some (.slice B x.d.length d) ∧ RX w S A x.n ∧ RX w S B x.d := by
  obtain ⟨cur, hc, hx⟩ := h
  obtain ⟨A, c, B, d, h1, h2, h3, h4⟩ := hx i x hi
  exact ⟨A, c, B, d, by simp [World.cell?, hc, h1], by simp [World.cell?, hc, h2], h3, h4⟩
theorem FBk.frozen {w : World} {S : Nat → Prop} {b : Nat} {xs : List Fra} (h : FBk w S b xs) (i : Nat) : w.frozen? ⟨b, i, none⟩ = false := by
  obtain ⟨cur, hc, _⟩ := h
  simp [World.frozen?, hc]
theorem FBk.sx {w w' : World} {S T : Nat → Prop} {b : Nat} {xs : List Fra} (h : FBk w S b xs) (k : ExS T w w') (hT : ∀ i, T i → S i) (hb : ¬ T b) : FBk w' S b xs := by
  have hl := h.lt
  obtain ⟨cur, hc, hx⟩ := h
  refine ⟨cur, (k.block b hl hb).trans hc, fun i x hi => ?_⟩
  obtain ⟨A, c, B, d, h1, h2, h3, h4⟩ := hx i x hi
  exact ⟨A, c, B, d, h1, h2, h3.sx k hT, h4.sx k hT⟩
theorem FBk.ex {w w' : World} {S : Nat → Prop} {b : Nat} {xs : List Fra} (h : FBk w S b xs) (k : Ex w w') : FBk w' S b xs := h.sx (ExS.of_ex (S := fun _ => False) k) (fun _ h => h.elim) id
theorem FBk.put {w : World} {S : Nat → Prop} {b : Nat} {xs : List Fra} (h : FBk w S b xs) (hb : S b) (i : Nat) (x : Fra) {A B : Option Addr} {c d : Nat} (hA : RX w S A x.n) (hB : RX w S B x.d) :
    FBk ((w.setCell ⟨b, i * 2, none⟩ (.slice A x.n.length c)).setCell ⟨b, i * 2 + 1, none⟩ (.slice B x.d.length d)) S b (xs.set i x) := by
  have k : ExS (fun z => z = b) w ((w.setCell ⟨b, i * 2, none⟩ (.slice A x.n.length c)).setCell ⟨b, i * 2 + 1, none⟩ (.slice B x.d.length d)) :=
    ExS.of_ex1 (((Ex1.refl b w).setCell (p := ⟨b, i * 2, none⟩) rfl _).setCell (p := ⟨b, i * 2 + 1, none⟩) rfl _) rfl
  have hT : ∀ z, z = b → S z := fun z e => e ▸ hb
  obtain ⟨cur, hc, hx⟩ := h
  refine ⟨(cur.setIfInBounds (i * 2) (.slice A x.n.length c)).setIfInBounds (i * 2 + 1) (.slice B x.d.length d), by simp [World.setCell, Array.getElem?_modify, hc], fun j y hj => ?_⟩
  rw [List.getElem?_set] at hj
  split at hj
  · rename_i e
    subst e
    split at hj
    · rename_i hl
      injection hj with hj
      subst hj
      obtain ⟨A', c', B', d', h1, h2, _⟩ := hx i _ (List.getElem?_eq_getElem hl)
      have l1 : i * 2 < cur.size := (Array.getElem?_eq_some_iff.1 h1).1
      have l2 : i * 2 + 1 < cur.size := (Array.getElem?_eq_some_iff.1 h2).1
      refine ⟨A, c, B, d, ?_, ?_, hA.sx k hT, hB.sx k hT⟩
      · rw [Array.getElem?_setIfInBounds, if_neg (by omega), Array.getElem?_setIfInBounds, if_pos rfl, if_pos l1]
      · rw [Array.getElem?_setIfInBounds, if_pos rfl, if_pos (by simpa using l2)]
    · cases hj
  · rename_i e
    obtain ⟨A', c', B', d', h1, h2, h3, h4⟩ := hx j y hj
    refine ⟨A', c', B', d', ?_, ?_, h3.sx k hT, h4.sx k hT⟩
    · rw [Array.getElem?_setIfInBounds, if_neg (by omega), Array.getElem?_setIfInBounds, if_neg (by omega)]; exact h1
    · rw [Array.getElem?_setIfInBounds, if_neg (by omega), Array.getElem?_setIfInBounds, if_neg (by omega)]; exact h2
/-- The numbers that lie in the cells of R are owned: each block of ints is whole, unfrozen, none of S, and told apart from all the others. -/
def Ow (w : World) (S : Nat → Prop) (R : Nat → Nat → Prop) : Prop :=
  ∀ (b o : Nat) (a : Addr) (n c : Nat), R b o → w.cell? ⟨b, o, none⟩ = some (.slice (some a) n c) →
    (¬ S a.block ∧ n ≤ c ∧ ∃ cur, w.heap[a.block]? = some (.cells cur 3 (0, 0))) ∧
      ∀ (b' o' : Nat) (a' : Addr) (n' c' : Nat), R b' o' → w.cell? ⟨b', o', none⟩ = some (.slice (some a') n' c') → a'.block = a.block → b' = b ∧ o' = o
theorem Ow.sx {w w' : World} {S T : Nat → Prop} {R : Nat → Nat → Prop} (h : Ow w S R) (hR : ∀ b o, R b o → b < w.heap.size) (k : ExS T w w') (hTS : ∀ i, T i → S i) (hTR : ∀ i o, T i → ¬ R i o) : Ow w' S R := by
  have hc : ∀ (b o : Nat), R b o → w'.cell? ⟨b, o, none⟩ = w.cell? ⟨b, o, none⟩ := fun b o hb =>
    World.cell?_of_block (w := w) (a := ⟨b, o, none⟩) (k.block b (hR b o hb) (fun ht => hTR b o ht hb))
  intro b o a n c hb he
  rw [hc b o hb] at he
  obtain ⟨⟨h1, h2, cur, h3⟩, h4⟩ := h b o a n c hb he
  refine ⟨⟨h1, h2, cur, (k.block _ (heap_lt_of h3) (fun ht => h1 (hTS _ ht))).trans h3⟩, fun b' o' a' n' c' hb' he' e => ?_⟩
  rw [hc b' o' hb'] at he'
  exact h4 b' o' a' n' c' hb' he' e
theorem Ow.put2 {w w1 : World} {S : Nat → Prop} {R : Nat → Nat → Prop} {b i : Nat} {l m : List Int} {A B : Option Addr} {c d : Nat} (h : Ow w S R) (hR : ∀ z o, R z o → z < w.heap.size) (hS : ∀ z, S z → z < w.heap.size) (he : Ex w w1)
    (hA : Fr w1 w.heap.size A c l) (hB : Fr w1 w.heap.size B d m) (hAB : Apart A B) (hbS : S b) {u v : Value} (c0 : w1.cell? ⟨b, i * 2, none⟩ = some u) (c1 : w1.cell? ⟨b, i * 2 + 1, none⟩ = some v) :
    Ow ((w1.setCell ⟨b, i * 2, none⟩ (.slice A l.length c)).setCell ⟨b, i * 2 + 1, none⟩ (.slice B m.length d)) S R := by
  have h1 : Ow w1 S R := h.sx hR (ExS.of_ex (S := fun _ => False) he) (fun _ h => h.elim) (fun _ _ h => h.elim)
  have k : ExS (fun z => z = b) w1 ((w1.setCell ⟨b, i * 2, none⟩ (.slice A l.length c)).setCell ⟨b, i * 2 + 1, none⟩ (.slice B m.length d)) :=
    ExS.of_ex1 (((Ex1.refl b w1).setCell (p := ⟨b, i * 2, none⟩) rfl _).setCell (p := ⟨b, i * 2 + 1, none⟩) rfl _) rfl
  have old : ∀ (b' o' : Nat) (a : Addr) (n cc : Nat), R b' o' → w1.cell? ⟨b', o', none⟩ = some (.slice (some a) n cc) → a.block < w.heap.size := fun b' o' a n cc hb' e => by
    rw [World.cell?_of_block (w := w) (a := ⟨b', o', none⟩) (he.block (hR b' o' hb'))] at e
    obtain ⟨⟨_, _, cur, h3⟩, _⟩ := h b' o' a n cc hb' e
    exact heap_lt_of h3
  obtain ⟨w2, hw2⟩ : ∃ W, (w1.setCell ⟨b, i * 2, none⟩ (.slice A l.length c)).setCell ⟨b, i * 2 + 1, none⟩ (.slice B m.length d) = W := ⟨_, rfl⟩
  have at0 : w2.cell? ⟨b, i * 2, none⟩ = some (.slice A l.length c) := by
    rw [← hw2, World.cell?_setCell_other _ _ _ _ (by intro e; injection e; omega), World.cell?_setCell_same _ _ _ c0]
  have at1 : w2.cell? ⟨b, i * 2 + 1, none⟩ = some (.slice B m.length d) := by
    have c2 : (w1.setCell ⟨b, i * 2, none⟩ (.slice A l.length c)).cell? ⟨b, i * 2 + 1, none⟩ = some v := by
      rw [World.cell?_setCell_other _ _ _ _ (by intro e; injection e; omega)]; exact c1
    rw [← hw2]
    exact World.cell?_setCell_same _ _ _ c2
  have atn : ∀ (b' o' : Nat), ¬ (b' = b ∧ o' = i * 2) → ¬ (b' = b ∧ o' = i * 2 + 1) → w2.cell? ⟨b', o', none⟩ = w1.cell? ⟨b', o', none⟩ := fun b' o' n0 n1 => by
    rw [← hw2, World.cell?_setCell_other _ _ _ _ (by intro e; injection e with e1 e2; exact n1 ⟨e1.symm, e2.symm⟩), World.cell?_setCell_other _ _ _ _ (by intro e; injection e with e1 e2; exact n0 ⟨e1.symm, e2.symm⟩)]
  rw [hw2] at k ⊢
  have kind : ∀ (b' o' : Nat) (a : Addr) (n cc : Nat), R b' o' → w2.cell? ⟨b', o', none⟩ = some (.slice (some a) n cc) →
      ((b' = b ∧ o' = i * 2 ∧ A = some a ∧ n = l.length ∧ cc = c) ∨ (b' = b ∧ o' = i * 2 + 1 ∧ B = some a ∧ n = m.length ∧ cc = d)) ∨ (w1.cell? ⟨b', o', none⟩ = some (.slice (some a) n cc) ∧ a.block < w.heap.size) := fun b' o' a n cc hb' e => by
    by_cases n0 : b' = b ∧ o' = i * 2
    · obtain ⟨rfl, rfl⟩ := n0
      rw [at0] at e
      injection e with e
      injection e with e1 e2 e3
      exact .inl (.inl ⟨rfl, rfl, e1, e2.symm, e3.symm⟩)
    by_cases n1 : b' = b ∧ o' = i * 2 + 1
    · obtain ⟨rfl, rfl⟩ := n1
      rw [at1] at e
      injection e with e
      injection e with e1 e2 e3
      exact .inl (.inr ⟨rfl, rfl, e1, e2.symm, e3.symm⟩)
    rw [atn b' o' n0 n1] at e
    exact .inr ⟨e, old b' o' a n cc hb' e⟩
  have fresh : ∀ {C : Option Addr} {cc : Nat} {q : List Int} {a : Addr}, Fr w1 w.heap.size C cc q → C = some a → ¬ S a.block ∧ w.heap.size ≤ a.block ∧ q.length ≤ cc ∧ ∃ cur, w2.heap[a.block]? = some (.cells cur 3 (0, 0)) := fun {C cc q a} hC e => by
    obtain ⟨g1, cur, g2⟩ := hC.2.2 a e
    refine ⟨fun hs => by have := hS _ hs; omega, g1, hC.cap, cur, (k.block _ (heap_lt_of g2) (fun e2 => ?_)).trans g2⟩
    have := hS b hbS
    omega
  intro b' o' a n cc hb' e
  rcases kind b' o' a n cc hb' e with (⟨rfl, rfl, e1, rfl, rfl⟩ | ⟨rfl, rfl, e1, rfl, rfl⟩) | ⟨e1, hl⟩
  · obtain ⟨f1, f2, f3, f4⟩ := fresh hA e1
    refine ⟨⟨f1, f3, f4⟩, fun b2 o2 a2 n2 c2 hb2 e2 ea => ?_⟩
    rcases kind b2 o2 a2 n2 c2 hb2 e2 with (⟨rfl, rfl, _⟩ | ⟨rfl, rfl, q1, _⟩) | ⟨_, hl2⟩
    · exact ⟨rfl, rfl⟩
    · exact absurd ea.symm (hAB a a2 e1 q1)
    · omega
  · obtain ⟨f1, f2, f3, f4⟩ := fresh hB e1
    refine ⟨⟨f1, f3, f4⟩, fun b2 o2 a2 n2 c2 hb2 e2 ea => ?_⟩
    rcases kind b2 o2 a2 n2 c2 hb2 e2 with (⟨rfl, rfl, q1, _⟩ | ⟨rfl, rfl, _⟩) | ⟨_, hl2⟩
    · exact absurd ea (hAB a2 a q1 e1)
    · exact ⟨rfl, rfl⟩
    · omega
  · obtain ⟨⟨f1, f2, cur, f3⟩, f4⟩ := h1 b' o' a n cc hb' e1
    refine ⟨⟨f1, f2, cur, (k.block _ (heap_lt_of f3) (fun e2 => f1 (e2 ▸ hbS))).trans f3⟩, fun b2 o2 a2 n2 c2 hb2 e2 ea => ?_⟩
    rcases kind b2 o2 a2 n2 c2 hb2 e2 with (⟨rfl, rfl, q1, _⟩ | ⟨rfl, rfl, q1, _⟩) | ⟨e3, hl2⟩
    · have := (fresh hA q1).2.1; omega
    · have := (fresh hB q1).2.1; omega
    · exact f4 b2 o2 a2 n2 c2 hb2 e3 ea
/-- From w to w' what is owned through block b stays owned. -/
def OwK (S : Nat → Prop) (b : Nat) (w w' : World) : Prop := w.heap.size ≤ w'.heap.size ∧ (S b → ∀ (S' : Nat → Prop) (R : Nat → Nat → Prop), (∀ z, S z → S' z) → (∀ z o, R z o → S' z) → (∀ z, S' z → z < w.heap.size) → Ow w S' R → Ow w' S' R)
theorem OwK.refl (S : Nat → Prop) (b : Nat) (w : World) : OwK S b w w := ⟨Nat.le_refl _, fun _ _ _ _ _ _ h => h⟩
theorem OwK.trans {S : Nat → Prop} {b : Nat} {u v w : World} (h : OwK S b u v) (k : OwK S b v w) : OwK S b u w :=
  ⟨Nat.le_trans h.1 k.1, fun hb S' R h1 h2 h3 h4 => k.2 hb S' R h1 h2 (fun z hz => Nat.lt_of_lt_of_le (h3 z hz) h.1) (h.2 hb S' R h1 h2 h3 h4)⟩
theorem OwK.of_ex {S : Nat → Prop} {b : Nat} {v w : World} (h : Ex v w) : OwK S b v w :=
  ⟨h.size, fun _ _ _ _ h2 h3 h4 => h4.sx (fun z o hz => h3 z (h2 z o hz)) (ExS.of_ex (S := fun _ => False) h) (fun _ h => h.elim) (fun _ _ h => h.elim)⟩
theorem OwK.put2 {w w1 : World} {S : Nat → Prop} {b i : Nat} {l m : List Int} {A B : Option Addr} {c d : Nat} (he : Ex w w1)
    (hA : Fr w1 w.heap.size A c l) (hB : Fr w1 w.heap.size B d m) (hAB : Apart A B) (hbS : S b) {u v : Value} (c0 : w1.cell? ⟨b, i * 2, none⟩ = some u) (c1 : w1.cell? ⟨b, i * 2 + 1, none⟩ = some v) :
    OwK S b w ((w1.setCell ⟨b, i * 2, none⟩ (.slice A l.length c)).setCell ⟨b, i * 2 + 1, none⟩ (.slice B m.length d)) :=
  ⟨by simpa [World.setCell] using he.size, fun _ S' R h1 h2 h3 h4 => h4.put2 (fun z o hz => h3 z (h2 z o hz)) h3 he hA hB hAB (h1 b hbS) c0 c1⟩
/-- A list with a multiple of another one added, by steps. -/
def addR1 (p : Int) (k v x : Fra) : Fra := if iszF x = true then v else addF p v (mulF p k x)
def addRw (p : Int) (vs : List Fra) (k : Fra) (ws : List Fra) : List Fra := List.zipWith (addR1 p k) vs ws
def addTm (p : Int) (vs : List Fra) (k : Fra) (ws : List Fra) : List Fra := if iszF k = true then vs else addRw p vs k ws
theorem mix_set {α : Type} (R vs : List α) (hl : R.length = vs.length) (i : Nat) (x : α) (hx : R[i]? = some x) : (R.take i ++ vs.drop i).set i x = R.take (i + 1) ++ vs.drop (i + 1) := by
  have hi := (List.getElem?_eq_some_iff.1 hx).1
  rw [List.set_append, if_neg (by rw [List.length_take]; omega), List.take_add_one, hx]
  have : i - (R.take i).length = 0 := by rw [List.length_take]; omega
  rw [this, List.append_assoc]
  congr 1
  rw [List.drop_eq_getElem_cons (by omega : i < vs.length)]
  rfl
theorem mix_same {α : Type} (R vs : List α) (hl : R.length = vs.length) (i : Nat) (x : α) (hx : R[i]? = some x) (hv : vs[i]? = some x) : R.take i ++ vs.drop i = R.take (i + 1) ++ vs.drop (i + 1) := by
  have hi := (List.getElem?_eq_some_iff.1 hx).1
  rw [List.take_add_one, hx, List.drop_eq_getElem_cons (by omega : i < vs.length)]
  have : vs[i]'(by omega) = x := by rw [List.getElem?_eq_getElem (by omega)] at hv; injection hv
  rw [this]
  simp
theorem mix_at {α : Type} (R vs : List α) (hl : R.length = vs.length) (i : Nat) (hi : i < vs.length) : (R.take i ++ vs.drop i)[i]? = vs[i]? := by
  rw [List.getElem?_append_right (by rw [List.length_take]; omega), List.length_take, List.getElem?_drop]
  congr 1; omega
set_option maxHeartbeats 4000000 in
theorem ratAddTimes_c (p : Int) (S : Nat → Prop) (b b' : Nat) (vs ws : List Fra) (k : Fra) (A B : Option Addr) (c d c1 c2 : Nat) (w : World) (hS : ∀ z, S z → z < w.heap.size) (hb : S b) (_ : S b') (hne : b ≠ b') (hv : FBk w S b vs) (hw : FBk w S b' ws) (hl : vs.length = ws.length) (hA : RX w S A k.n) (hB : RX w S B k.d)
    (hvv : ∀ x ∈ vs, FV p x ∧ FL 137438953472 x) (hww : ∀ x ∈ ws, FV p x ∧ FL 68719476736 x) (hk : FV p k) (hkl : FL 68719476736 k) (hn : ws.length ≤ 1000) :
    Calls Tryz.prog 42 #[.int .i64 p, .slice (some ⟨b, 0, none⟩) vs.length c1, .agg #[.slice A k.n.length c, .slice B k.d.length d], .slice (some ⟨b', 0, none⟩) ws.length c2] w fun e w' => e = .returned (.tuple #[]) ∧ FBk w' S b (addTm p vs k ws) ∧ ExS (fun z => z = b) w w' ∧ OwK S b w w' := by
  have Hvv := Lib.hid hvv
  have Hww := Lib.hid hww
  have HK := Lib.hid hk
  have HKL := Lib.hid hkl
  have Hl := Lib.hid hl
  have hknl := hA.1.len
  have x0 := (Ex.refl w).alloc (.cells #[.slice A k.n.length c, .slice B k.d.length d] 58)
  have v0 := VB.new w 58 #[.slice A k.n.length c, .slice B k.d.length d]
  have s0 : (w.alloc (.cells #[.slice A k.n.length c, .slice B k.d.length d] 58)).heap.size = w.heap.size + 1 := by simp
  have HB : ∀ z, S z → z < w.heap.size := hS
  have hbl := hS b hb
  clear hvv hww hk hkl hl
  go_enter Tryz.func42, Tryz.ntmps42
  go_wp2_with fail
  generalize w.alloc (.cells #[.slice A k.n.length c, .slice B k.d.length d] 58) = W0 at *
  refine (isNought_c A B c d k.n k.d W0 hknl).mono ?_
  rintro e w1 ⟨rfl, x1⟩
  have v0 := v0.ex x1
  have xx := x0.trans x1
  have z1 := x1.size
  by_cases hz : k.n = []
  · rw [decide_eq_true hz]
    have HT := Lib.hid (show addTm p vs k ws = vs from if_pos (iszF_iff.2 hz))
    clear hz
    go_wp2_with fail
    first | rw [Exit.noGoto_ret] | skip
    refine bodyPost_ret (results_none rfl _ _ _) rfl ?_
    rw [HT.out]
    exact ⟨rfl, hv.ex xx, ExS.of_ex xx, OwK.of_ex xx⟩
  · rw [decide_eq_false hz]
    have HT := Lib.hid (show addTm p vs k ws = addRw p vs k ws from if_neg (fun h => hz (iszF_iff.1 h)))
    have hRl : (addRw p vs k ws).length = vs.length := by rw [addRw, List.length_zipWith, ← Hl.out]; omega
    have hRat : ∀ (i : Nat) (v x : Fra), vs[i]? = some v → ws[i]? = some x → (addRw p vs k ws)[i]? = some (addR1 p k v x) := fun i v x h1 h2 => by rw [addRw, List.getElem?_zipWith, h1, h2]
    have HRl := Lib.hid hRl
    have HRat := Lib.hid hRat
    clear hz hRl hRat
    generalize addRw p vs k ws = R at *
    go_wp2_with fail
    go_loopw [14] (fun i wi => ∃ j : Nat, j ≤ ws.length ∧ i = .int .i64 j ∧ FBk wi S b (R.take j ++ vs.drop j) ∧ VB wi w.heap.size 58 #[.slice A k.n.length c, .slice B k.d.length d] ∧ ExS (fun z => z = b) w wi ∧ OwK S b w wi) (fun i _ => ws.length - (intOf i).toNat)
    case atStart => exact ⟨0, Nat.zero_le _, rfl, by simpa using hv.ex xx, v0, ExS.of_ex xx, OwK.of_ex xx⟩
    case round =>
      clear v0 x1 x0 xx z1
      obtain ⟨j, hj, rfl, hF, hD, he, hok⟩ := hrel
      have hez := he.size
      have hbx : ¬ (w.heap.size = b) := by omega
      by_cases hlt : j < ws.length
      · obtain ⟨x, hx⟩ : ∃ x, ws[j]? = some x := ⟨_, List.getElem?_eq_getElem hlt⟩
        obtain ⟨v, hv'⟩ : ∃ v, vs[j]? = some v := ⟨_, List.getElem?_eq_getElem (by rw [Hl.out]; exact hlt)⟩
        obtain ⟨Ax, cx, Bx, dx, e0, e1, hAx, hBx⟩ := (hw.sx he (fun z e => e ▸ hb) (fun e => hne e.symm)).at_ hx
        have hat := mix_at R vs HRl.out j (by rw [Hl.out]; exact hlt)
        rw [hv'] at hat
        obtain ⟨Av, cv, Bv, dv, g0, g1, hAv, hBv⟩ := hF.at_ hat
        have hxm := Hww.out x (List.mem_of_getElem? hx)
        have hvm := Hvv.out v (List.mem_of_getElem? hv')
        have hR := HRat.out j v x hv' hx
        have HX := Lib.hid hxm
        have HV := Lib.hid hvm
        have HR := Lib.hid hR
        have HV' := Lib.hid hv'
        have hxnl := hAx.1.len
        have y7 := (Ex.refl wr).alloc (.cells #[.slice Ax x.n.length cx, .slice Bx x.d.length dx] 58)
        have v7 := VB.new wr 58 #[.slice Ax x.n.length cx, .slice Bx x.d.length dx]
        have s7 : (wr.alloc (.cells #[.slice Ax x.n.length cx, .slice Bx x.d.length dx] 58)).heap.size = wr.heap.size + 1 := by simp
        clear hx hv' hat hxm hvm hR
        go_wp2_with fail
        generalize wr.alloc (.cells #[.slice Ax x.n.length cx, .slice Bx x.d.length dx] 58) = W7 at *
        refine (isNought_c Ax Bx cx dx x.n x.d W7 hxnl).mono ?_
        rintro e w8 ⟨rfl, x8⟩
        have v8 := v7.ex x8
        have y8 := y7.trans x8
        have z8 := x8.size
        have hF8 := hF.ex y8
        have hD8 := hD.ex y8
        have he8 := he.trans (ExS.of_ex (S := fun z => z = b) y8) (fun _ _ h => h)
        have hok8 := hok.trans (OwK.of_ex y8)
        clear v7 hF hD he
        by_cases hxz : x.n = []
        · rw [decide_eq_true hxz]
          have HR1 := Lib.hid (show R.take j ++ vs.drop j = R.take (j + 1) ++ vs.drop (j + 1) from mix_same R vs HRl.out j v (by rw [HR.out, addR1, if_pos (iszF_iff.2 hxz)]) HV'.out)
          clear hxz
          go_wp2_with fail
          go_roundw
          case rel => exact ⟨j + 1, by omega, by go_num, by rw [← HR1.out]; exact hF8, hD8, he8, hok8⟩
          case measure => simp [intOf]; omega
        · rw [decide_eq_false hxz]
          have HR1 := Lib.hid (show (R.take j ++ vs.drop j).set j (addF p v (mulF p k x)) = R.take (j + 1) ++ vs.drop (j + 1) from mix_set R vs HRl.out j _ (by rw [HR.out, addR1, if_neg (fun h => hxz (iszF_iff.1 h))]))
          clear hxz
          have hM := HK.out.mul HX.out.1
          have hMl := HKL.out.mul HK.out HX.out.1 HX.out.2
          have HMul : ∀ W, Ex w8 W → Calls Tryz.prog 75 #[.int .i64 p, .agg #[.slice A k.n.length c, .slice B k.d.length d], .agg #[.slice Ax x.n.length cx, .slice Bx x.d.length dx]] W fun e w' => FFx W (mulF p k x) e w' := fun W h =>
            fractionMul_b p A B c d k.n k.d Ax Bx cx dx x.n x.d W ((hA.sx he8 (fun z e => e ▸ hb)).1.ex h) ((hB.sx he8 (fun z e => e ▸ hb)).1.ex h) ((hAx.ex y8).1.ex h) ((hBx.ex y8).1.ex h) (HK.out.okb (by have := HKL.out.1; omega) (by have := HKL.out.2; omega)) (HX.out.1.okb (by have := HX.out.2.1; omega) (by have := HX.out.2.2; omega))
          have HAdd : ∀ (A3 B3 : Option Addr) (c3 d3 : Nat) (W : World), Ex w8 W → Rd W A3 (mulF p k x).n → Rd W B3 (mulF p k x).d → Calls Tryz.prog 74 #[.int .i64 p, .agg #[.slice Av v.n.length cv, .slice Bv v.d.length dv], .agg #[.slice A3 (mulF p k x).n.length c3, .slice B3 (mulF p k x).d.length d3]] W fun e w' => FFx W (addF p v (mulF p k x)) e w' := fun A3 B3 c3 d3 W h r1 r2 =>
            fractionAdd_b p Av Bv cv dv v.n v.d A3 B3 c3 d3 (mulF p k x).n (mulF p k x).d W ((hAv.ex y8).1.ex h) ((hBv.ex y8).1.ex h) r1 r2 (HV.out.1.okb (by have := HV.out.2.1; omega) (by have := HV.out.2.2; omega)) (hM.okb (by have := hMl.1; omega) (by have := hMl.2; omega))
          have HM := Lib.hid hM
          clear hM hMl
          generalize mulF p k x = M at *
          obtain ⟨N, hN⟩ : ∃ N, addF p v M = N := ⟨_, rfl⟩
          rw [hN] at HAdd HR1
          clear hN
          have k0 := hD8.cell 0 (v := .slice A k.n.length c) rfl
          have k1 := hD8.cell 1 (v := .slice B k.d.length d) rfl
          have k2 := v8.cell 0 (v := .slice Ax x.n.length cx) rfl
          have k3 := v8.cell 1 (v := .slice Bx x.d.length dx) rfl
          have g0 := cell_ex y8 g0
          have g1 := cell_ex y8 g1
          have hjv : j < vs.length := by have := Hl.out; omega
          go_wp2_with fail
          go_region_law (first
            | (go_simp
               go_at_call 75
               refine (HMul _ (Ex.refl w8).drew).mono ?_
               rintro e w9 ⟨A9, c9, B9, d9, rfl, f9, p9, ap9, x9⟩
               replace x9 := ((Ex.refl w8).drew).trans x9
               have l0 := cell_ex x9 g0
               have l1 := cell_ex x9 g1)
            | (go_simp
               go_at_call 74
               refine (HAdd A9 B9 c9 d9 w9 x9 f9.rd p9.rd).mono ?_
               rintro e w10 ⟨A10, c10, B10, d10, rfl, f10, p10, ap10, x10⟩
               have hF10 := (hF8.ex x9).ex x10
               have m0 := cell_ex x10 l0
               have m1 := cell_ex x10 l1
               have n0 := hF10.frozen (j * 2)
               have n1 := hF10.frozen (j * 2 + 1)))
          all_goals
            have z9 := x9.size
            have z10 := x10.size
            have hS10 : ∀ z, S z → z < w9.heap.size := fun z hz => by have := HB z hz; omega
            have hP := hF10.put hb j N (c := c10) (d := d10) (f10.rx hS10) (p10.rx hS10)
            have E11 : ExS (fun z => z = b) w10 ((w10.setCell ⟨b, j * 2, none⟩ (.slice A10 N.n.length c10)).setCell ⟨b, j * 2 + 1, none⟩ (.slice B10 N.d.length d10)) := ExS.of_ex1 (((Ex1.refl b w10).setCell (p := ⟨b, j * 2, none⟩) rfl _).setCell (p := ⟨b, j * 2 + 1, none⟩) rfl _) rfl
            have D11 := ((hD8.ex x9).ex x10).ex1 (((Ex1.refl b w10).setCell (p := ⟨b, j * 2, none⟩) rfl (.slice A10 N.n.length c10)).setCell (p := ⟨b, j * 2 + 1, none⟩) rfl (.slice B10 N.d.length d10)) hbx
            have he11 := (he8.trans (ExS.of_ex (S := fun z => z = b) (x9.trans x10)) (fun _ _ h => h)).trans E11 (fun _ _ h => h)
            have hok11 := (hok8.trans (OwK.of_ex x9)).trans (OwK.put2 (S := S) (b := b) (i := j) x10 f10 p10 ap10 hb m0 m1)
            rw [HR1.out] at hP
            clear HMul HAdd k0 k1 k2 k3 g0 g1 l0 l1 m0 m1 n0 n1
            go_wp2_with fail
            go_roundw
            case rel => exact ⟨j + 1, by omega, by go_num, hP, D11, he11, hok11⟩
            case measure => simp [intOf]; omega
      · obtain rfl : j = ws.length := by omega
        rw [List.take_of_length_le (by rw [HRl.out, Hl.out]; exact Nat.le_refl _), List.drop_of_length_le (by rw [Hl.out]; exact Nat.le_refl _), List.append_nil] at hF
        go_wp2_with fail
        first | rw [Exit.noGoto_ret] | skip
        refine bodyPost_end (results_none rfl _ _ _) rfl ?_
        rw [HT.out]
        exact ⟨rfl, hF, he, hok⟩
end Go.Proofs.YtpeogfapnofeoaaGreatDoor
