/- A range over an iterator that keeps a state of its own in a cell (strings.SplitSeq): what its contract says, and the law for a loop over it. -/
import Derived.Test.YtfggacnkediolaaGreatDoorPtB
import Derived.RangeFuncWrites
namespace Go.Proofs.YtfggacnkediolaaGreatDoor
set_option maxRecDepth 100000
open Go Go.RowKit
/-- What an iterator owes that writes the cell q between two rounds. -/
def SeqBox {α : Type} (F : Fence) (n : Nat) (P : Program) (g : Nat) (lb : Array Value) (encs : α → Array Value) (q : Nat) (Kp : World → World → Prop) (S Sp : List α → Prop) (w : World) : Prop :=
  ∀ (l : Nat) (J Jx : List α → World → Prop) (W : World), Below w.heap.size w W →
    (∀ pre V V', J pre V → V.grownBy V' none → J pre V') → (∀ pre V v, J pre V → J pre (V.setCell ⟨q, 0, none⟩ v)) →
    (∀ pre x W1, J pre W1 → YieldAt F (n - 1) P l (encs x) W1 fun e W' => (e = .returned (.bool true) ∧ J (pre ++ [x]) W' ∧ Kp W1 W') ∨ (e = .returned (.bool false) ∧ Jx (pre ++ [x]) W')) →
    J [] W →
    CallsIn F n P g (#[.func (.yield l) #[] #[]] ++ lb) W fun e W' => (∃ v, e = .returned v) ∧ ((∃ xs, S xs ∧ J xs W') ∨ (∃ pre, Sp pre ∧ Jx pre W'))
variable {F : Fence} {n : Nat} {P : Program}
theorem grown_heap {W W' : World} {k : Nat} {o : Obj} (h : W.grownBy W' none) (hk : W.heap[k]? = some o) : W'.heap[k]? = some o :=
  (h.block k (Array.getElem?_eq_some_iff.1 hk).1 (fun e => by cases e)).trans hk
theorem set_heap {W : World} {q k : Nat} {v : Value} {o : Obj} (hne : q ≠ k) (hk : W.heap[k]? = some o) : (W.setCell ⟨q, 0, none⟩ v).heap[k]? = some o :=
  ((grownBy_setCell' W q v).block k (Array.getElem?_eq_some_iff.1 hk).1 (fun e => hne (by injection e with e; exact e.symm))).trans hk
/-- The law: the loop's own two blocks (its record, its rounds' deferred calls) lie behind the cell q. -/
theorem wpIn_rangeFunc_box {α : Type} {g : Operand} {ps : Array Tmp} {assign body : Code} {Q : Exit → Act → World → Prop} {a : Act} {w : World}
    (hro : F.round = none) (h1 : 1 ≤ n) {gf : Nat} {lb : Array Value} (hg : a.eval g = .func (.func gf) #[] lb) (hFg : F.fn gf) (eg : ∀ args w, (callFunc gf args).run P w = .ok (.enter gf args) w)
    {encs : α → Array Value} {q : Nat} {Kp : World → World → Prop} {S Sp : List α → Prop} (hseq : SeqBox F (n - 1) P gf lb encs q Kp S Sp w) (hq : q < w.heap.size)
    (hKt : ∀ {A B C : World}, Kp A B → Kp B C → Kp A C) (hKb : ∀ (W : World) (l : Nat) (o o' : Obj), w.heap.size ≤ l → W.heap[l]? = some o → o.isCells = false → o.isWalk = false → Kp W (W.putObj l o')) (hps : ∀ x, (encs x).size = ps.size)
    (I : List α → World → Prop) (Ix : Code → List α → World → Prop) (hI : OwnFrom w.heap.size I) (hIx : ∀ c, OwnFrom w.heap.size (Ix c)) (hIq : ∀ pre V v, I pre V → I pre (V.setCell ⟨q, 0, none⟩ v)) (h0 : I [] w) (a₁ : α → Act)
    (hassign : ∀ (l : Nat) (x : α) (W : World) (K : Act → World → Prop), K (a₁ x) W →
      assign.wpIn (F.inRound l) (n - 1 - 1) P (Exit.then K (fun _ _ _ => False)) { tmps := (ps.zip (encs x)).foldl (fun t (p, v) => t.setIfInBounds p v) a.tmps, defers := [] } W)
    (hbody : ∀ (l : Nat) (pre : List α) (x : α) (W : World), I pre W → body.wpIn (F.inRound l) (n - 1 - 1) P (ownPostG w.heap.size Kp I Ix (pre ++ [x]) W) (a₁ x) W)
    (hdone : ∀ (D : Nat) (xs : List α) (W : World), w.heap.size ≤ D → S xs → I xs W → W.heap[D]? = some (.deferred (some [])) → Q .normal { a with defers := { target := .collected D, args := #[] } :: a.defers } W)
    (hstop : ∀ (D : Nat) (c : Code) (pre : List α) (W : World), w.heap.size ≤ D → Sp pre → Ix c pre W → W.heap[D]? = some (.deferred (some [])) → c.wpIn F n P Q { a with defers := { target := .collected D, args := #[] } :: a.defers } W) :
    (Code.rangeFunc g ps assign body).wpIn F n P Q a w := by
  refine wpIn_rangeFunc fun fn hfn => ?_
  rw [hro]
  -- the loop's record R st pe in block m + 1, its deferred calls in block m
  obtain ⟨m, hm⟩ : ∃ m, w.heap.size = m := ⟨_, rfl⟩
  obtain ⟨R, hR⟩ : ∃ R : LoopState → Option Code → Loop, R = fun st pe => { state := st, pending := pe, fn, tmps := a.tmps, params := ps, assign, body, defers := w.heap.size } := ⟨_, rfl⟩
  have z1 : ((w.alloc (.deferred (some []))).alloc (.loop (R .ready none))).heap[m]? = some (.deferred (some [])) := by
    rw [Below.heap_alloc _ _ _ (by simp; omega), ← hm]; exact World.alloc_heap_new w _
  have z2 : ((w.alloc (.deferred (some []))).alloc (.loop (R .ready none))).heap[m + 1]? = some (.loop (R .ready none)) := by
    have := World.alloc_heap_new (w.alloc (.deferred (some []))) (.loop (R .ready none))
    rwa [World.size_alloc, hm] at this
  have z3 : I [] ((w.alloc (.deferred (some []))).alloc (.loop (R .ready none))) := hI.alloc _ (hI.alloc _ h0)
  have z4 : Below w.heap.size w ((w.alloc (.deferred (some []))).alloc (.loop (R .ready none))) := ((Below.refl _ w).alloc (Nat.le_refl _) _).alloc (by simp) _
  refine ⟨m + 1, [{ target := .collected w.heap.size, args := #[] }], ((w.alloc (.deferred (some []))).alloc (.loop (R .ready none))), { target := .fn (.func gf) lb, args := #[.func (.yield (m + 1)) #[] #[]] }, ((w.alloc (.deferred (some []))).alloc (.loop (R .ready none))), gf,
    #[.func (.yield (m + 1)) #[] #[]] ++ lb, ((w.alloc (.deferred (some []))).alloc (.loop (R .ready none))), ?_, by simp only [resolve, hg]; simp [go_sem], (fun f' hf' => by simp [Target.leads] at hf'; subst hf'; exact hFg), by simp [invoke, go_sem, eg], fun _ => h1, ?_⟩
  · rw [hR, ← hm]; exact run_enterLoop_outer _ _ _ _ _
  obtain ⟨J, hJ⟩ : ∃ J : List α → World → Prop, J = fun pre W => I pre W ∧ W.heap[m + 1]? = some (.loop (R .ready none)) ∧ W.heap[m]? = some (.deferred (some [])) := ⟨_, rfl⟩
  obtain ⟨Jx, hJx⟩ : ∃ Jx : List α → World → Prop, Jx = fun pre W => ∃ c, Ix c pre W ∧ W.heap[m + 1]? = some (.loop (R .done (some c))) ∧ W.heap[m]? = some (.deferred (some [])) := ⟨_, rfl⟩
  refine (hseq (m + 1) J Jx _ z4 ?_ ?_ ?_ (by rw [hJ]; exact ⟨z3, z2, z1⟩)).mono ?_
  · rw [hJ]; exact fun pre V V' h hv => ⟨hI pre V V' none h.1 hv (fun r e => by cases e), grown_heap hv h.2.1, grown_heap hv h.2.2⟩
  · rw [hJ]; exact fun pre V v h => ⟨hIq pre V v h.1, set_heap (by omega) h.2.1, set_heap (by omega) h.2.2⟩
  · intro pre x W hj
    rw [hJ] at hj
    obtain ⟨i0, i1, i2⟩ := hj
    have hlt : m + 1 < W.heap.size := (Array.getElem?_eq_some_iff.1 i1).1
    have hy := run_yield (P := P) (args := encs x) i1 (by rw [hR]; exact hps x)
    rw [hR] at hy
    obtain ⟨V, hV⟩ : ∃ V, W.putObj (m + 1) (.loop { R .ready none with state := .busy }) = V := ⟨_, rfl⟩
    have v1 : V.heap[m + 1]? = some (.loop { R .ready none with state := .busy }) := by rw [← hV]; exact World.putObj_heap_same hlt
    have v2 : V.heap[m]? = some (.deferred (some [])) := by rw [← hV]; exact (World.putObj_heap_other (by omega)).trans i2
    have v3 : Kp W V := by rw [← hV]; exact hKb _ _ _ _ (by omega) i1 rfl rfl
    have v4 : I pre V := by rw [← hV]; exact hI.putObj _ i0 (by omega) i1 rfl
    refine ⟨fn, _, assign, body, hy, roundIn_of_wpIn hfn (hassign _ x W _ ⟨V, by rw [← hV]; exact (run_beginRound i1 (by rw [hR])), ?_⟩)⟩
    refine wpIn_mono (hbody _ pre x V v4) ?_
    -- the round's end: the record says whether the loop goes on
    have fin : ∀ (jump : Option Code) (W3 : World), KeepsFrom w.heap.size V W3 →
        (Instr.endRound (m + 1) jump).run P W3 = .ok (.bool jump.isNone) (W3.putObj (m + 1) (.loop (R (if jump.isNone then .ready else .done) jump))) ∧
        W3.heap[m + 1]? = some (.loop { R .ready none with state := .busy }) ∧
        (W3.putObj (m + 1) (.loop (R (if jump.isNone then .ready else .done) jump))).heap[m + 1]? = some (.loop (R (if jump.isNone then .ready else .done) jump)) ∧
        (W3.putObj (m + 1) (.loop (R (if jump.isNone then .ready else .done) jump))).heap[m]? = some (.deferred (some [])) := fun jump W3 hk => by
      have k1 := hk.same _ _ (by omega) v1 rfl
      have k2 := run_endRound (P := P) jump k1
      rw [hR] at k1 k2 ⊢
      exact ⟨k2, k1, World.putObj_heap_same (Array.getElem?_eq_some_iff.1 k1).1, (World.putObj_heap_other (by omega)).trans (hk.same _ _ (by omega) v2 rfl)⟩
    have away : ∀ (c : Code) (W3 : World), KeepsFrom w.heap.size V W3 → Ix c (pre ++ [x]) W3 → ∃ v W4, (Instr.endRound (m + 1) (some c)).run P W3 = .ok v W4 ∧ v = .bool false ∧ Jx (pre ++ [x]) W4 := fun c W3 hk hi => by
      obtain ⟨f1, f2, f3, f4⟩ := fin (some c) W3 hk
      refine ⟨_, _, f1, rfl, ?_⟩
      rw [hJx]
      exact ⟨c, (hIx c).putObj _ hi (by omega) f2 rfl, f3, f4⟩
    rintro e a3 W3 hp
    cases e with
    | normal =>
      obtain ⟨p1, p2, p3⟩ := hp
      obtain ⟨f1, f2, f3, f4⟩ := fin none W3 p1
      refine ⟨_, _, f1, .inl ⟨rfl, ?_, hKt (hKt v3 p2) (hKb _ _ _ _ (by omega) f2 rfl rfl)⟩⟩
      rw [hJ]
      exact ⟨hI.putObj _ p3 (by omega) f2 rfl, f3, f4⟩
    | ret => obtain ⟨v, W4, f1, rfl, f2⟩ := away .ret W3 hp.1 hp.2; exact ⟨_, _, f1, .inr ⟨rfl, f2⟩⟩
    | exit id => obtain ⟨v, W4, f1, rfl, f2⟩ := away (.exit id) W3 hp.1 hp.2; exact ⟨_, _, f1, .inr ⟨rfl, f2⟩⟩
    | goto t => obtain ⟨v, W4, f1, rfl, f2⟩ := away (.goto t) W3 hp.1 hp.2; exact ⟨_, _, f1, .inr ⟨rfl, f2⟩⟩
    | panic ch => exact hp.elim
    | outgrown => exact hp.elim
  · rintro e W2 ⟨⟨v, rfl⟩, (⟨xs, hS, hi⟩ | ⟨pre, hSp, hi⟩)⟩
    · rw [hJ] at hi
      obtain ⟨i0, i1, i2⟩ := hi
      have k := run_endLoop (P := P) i1 (by rw [hR]; simp)
      rw [hR] at k
      exact ⟨none, _, k, hm ▸ hdone m xs _ (by omega) hS (hI.putObj _ i0 (by omega) i1 rfl) ((World.putObj_heap_other (by omega)).trans i2)⟩
    · rw [hJx] at hi
      obtain ⟨c, i0, i1, i2⟩ := hi
      have k := run_endLoop (P := P) i1 (by rw [hR]; simp)
      rw [hR] at k
      exact ⟨some c, _, k, hm ▸ hstop m c pre _ (by omega) hSp ((hIx c).putObj _ i0 (by omega) i1 rfl) ((World.putObj_heap_other (by omega)).trans i2)⟩
end Go.Proofs.YtfggacnkediolaaGreatDoor
