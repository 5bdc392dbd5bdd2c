/- The reference's record of a term's parts: three lists that grow in one block of cells. A region that draws its order: operations that leave the world alone come first, in an order of the prover's choosing; the others, which all wait for them and stand in one forced order, come behind. Plain lemmas. -/
import Derived.Test.YtphdcgimibnajaaGreatAp13
import Derived.StillTailTactics
import Derived.OrdersHeld
namespace Go.Proofs.YtphdcgimibnajaaGreat
set_option maxRecDepth 100000
open Go Go.RowKit
theorem AL.exo_k {w w' : World} {B : Nat} {v : Value} {xs : List Int} {o : Option Nat} (h : AL w B v xs) (he : ExO o w w') (hne : ∀ g, o = some g → v.ownBlock ≠ some g) : AL w' B v xs := by
  obtain ⟨h1, h2⟩ := h
  refine ⟨h1, ?_⟩
  rcases h2 with h2 | ⟨g, cap, cur, hv, hB, hh, r⟩
  · exact .inl h2
  · exact .inr ⟨g, cap, cur, hv, hB, (he.block g (heap_lt_of hh) (fun e => hne g e.symm (by rw [hv]; rfl))).trans hh, r⟩
structure TI (w : World) (t : Nat) (u v x : Value) (F I O : List Int) : Prop where
  cell : VB w t 65 #[u, v, x]
  f : AL w (t + 1) u F
  i : AL w (t + 1) v I
  o : AL w (t + 1) x O
  fi : ∀ g, u.ownBlock = some g → v.ownBlock ≠ some g
  fo : ∀ g, u.ownBlock = some g → x.ownBlock ≠ some g
  io : ∀ g, v.ownBlock = some g → x.ownBlock ≠ some g
theorem TI.ex {w w' : World} {t : Nat} {u v x : Value} {F I O : List Int} (h : TI w t u v x F I O) (he : Ex w w') : TI w' t u v x F I O :=
  ⟨h.cell.ex he, h.f.ex he, h.i.ex he, h.o.ex he, h.fi, h.fo, h.io⟩
theorem TI.pf {w : World} {t : Nat} {u v x : Value} {F I O : List Int} (h : TI w t u v x F I O) (n : Int) (hl : F.length ≤ 1000) :
    ∃ A c w1, (Builtin.append_ #[23, 23] 23 #[u, .slice (some ⟨w.heap.size, 0, none⟩) 1 1]).run Tryz.prog (w.alloc (iObj [n])) = .ok (.slice A (F.length + 1) c) w1 ∧ w1.cell? ⟨t, 0, none⟩ = some u ∧ w1.frozen? ⟨t, 0, none⟩ = false ∧
      TI (w1.setCell ⟨t, 0, none⟩ (.slice A (F.length + 1) c)) t (.slice A (F.length + 1) c) v x (F ++ [n]) I O ∧ ExI t w.heap.size w (w1.setCell ⟨t, 0, none⟩ (.slice A (F.length + 1) c)) := by
  have ht := h.cell.lt
  have ha := (Ex.refl w).alloc (iObj [n])
  have hs : (w.alloc (iObj [n])).heap.size = w.heap.size + 1 := by simp
  obtain ⟨u1, w1, hrun, hal1, hE, hob⟩ := run_append_ints 23 23 Tryz.underlying23 (w.alloc (iObj [n])) (t + 1) u F (h.f.ex ha) (by omega) (some ⟨w.heap.size, 0, none⟩) 1 [n] ((Blk.new w [n]).rd (by simp)) (by simp; omega)
  have E0 : ExO u.ownBlock w w1 := (ExO.of_ex ha).trans hE
  have hml := h.f.lt
  have v1 : VB w1 t 65 #[u, v, x] := (E0.block t ht (fun e => by have := (hml t e.symm).1; omega)).trans h.cell
  obtain ⟨A, c, e1, _⟩ := hal1.form (by simp; omega)
  rw [List.length_append, List.length_singleton] at e1
  subst e1
  obtain ⟨u1, hu1⟩ : ∃ q : Value, .slice A (F.length + 1) c = q := ⟨_, rfl⟩
  refine ⟨A, c, w1, hrun, v1.cell 0 rfl, v1.frozen 0, ?_, ?_⟩
  all_goals
    rw [hu1] at hal1 hob ⊢
    have E1 : Ex1 t w1 (w1.setCell ⟨t, 0, none⟩ u1) := (Ex1.refl _ _).setCell (p := ⟨t, 0, none⟩) rfl _
  · exact ⟨v1.set_ 0 u1, hal1.e1 E1 (Nat.lt_succ_self t), (h.i.exo_k E0 h.fi).e1 E1 (Nat.lt_succ_self t), (h.o.exo_k E0 h.fo).e1 E1 (Nat.lt_succ_self t), fun g e e2 => by rcases hob with h1 | h1; exact h.fi g (h1 ▸ e) e2; rw [h1] at e; injection e with e; have := (h.i.lt g e2).2; omega, fun g e e2 => by rcases hob with h1 | h1; exact h.fo g (h1 ▸ e) e2; rw [h1] at e; injection e with e; have := (h.o.lt g e2).2; omega, h.io⟩
  · refine ⟨E1.os.trans E0.os, E1.tape.trans E0.tape, E1.output.trans E0.output, Nat.le_trans E0.size E1.size, fun k hk hd => ?_⟩
    rw [E1.block k (Nat.lt_of_lt_of_le hk E0.size) (fun e => by injection e with e; omega)]
    exact E0.block k hk (fun e => by have := hml k e.symm; omega)
theorem TI.pi {w : World} {t : Nat} {u v x : Value} {F I O : List Int} (h : TI w t u v x F I O) (n : Int) (hl : I.length ≤ 1000) :
    ∃ A c w1, (Builtin.append_ #[23, 23] 23 #[v, .slice (some ⟨w.heap.size, 0, none⟩) 1 1]).run Tryz.prog (w.alloc (iObj [n])) = .ok (.slice A (I.length + 1) c) w1 ∧ w1.cell? ⟨t, 1, none⟩ = some v ∧ w1.frozen? ⟨t, 1, none⟩ = false ∧
      TI (w1.setCell ⟨t, 1, none⟩ (.slice A (I.length + 1) c)) t u (.slice A (I.length + 1) c) x F (I ++ [n]) O ∧ ExI t w.heap.size w (w1.setCell ⟨t, 1, none⟩ (.slice A (I.length + 1) c)) := by
  have ht := h.cell.lt
  have ha := (Ex.refl w).alloc (iObj [n])
  have hs : (w.alloc (iObj [n])).heap.size = w.heap.size + 1 := by simp
  obtain ⟨u1, w1, hrun, hal1, hE, hob⟩ := run_append_ints 23 23 Tryz.underlying23 (w.alloc (iObj [n])) (t + 1) v I (h.i.ex ha) (by omega) (some ⟨w.heap.size, 0, none⟩) 1 [n] ((Blk.new w [n]).rd (by simp)) (by simp; omega)
  have E0 : ExO v.ownBlock w w1 := (ExO.of_ex ha).trans hE
  have hml := h.i.lt
  have v1 : VB w1 t 65 #[u, v, x] := (E0.block t ht (fun e => by have := (hml t e.symm).1; omega)).trans h.cell
  obtain ⟨A, c, e1, _⟩ := hal1.form (by simp; omega)
  rw [List.length_append, List.length_singleton] at e1
  subst e1
  obtain ⟨u1, hu1⟩ : ∃ q : Value, .slice A (I.length + 1) c = q := ⟨_, rfl⟩
  refine ⟨A, c, w1, hrun, v1.cell 1 rfl, v1.frozen 1, ?_, ?_⟩
  all_goals
    rw [hu1] at hal1 hob ⊢
    have E1 : Ex1 t w1 (w1.setCell ⟨t, 1, none⟩ u1) := (Ex1.refl _ _).setCell (p := ⟨t, 1, none⟩) rfl _
  · exact ⟨v1.set_ 1 u1, (h.f.exo_k E0 (fun g e e2 => h.fi g e2 e)).e1 E1 (Nat.lt_succ_self t), hal1.e1 E1 (Nat.lt_succ_self t), (h.o.exo_k E0 h.io).e1 E1 (Nat.lt_succ_self t), fun g e e2 => by rcases hob with h1 | h1; exact h.fi g e (h1 ▸ e2); rw [h1] at e2; injection e2 with e2; have := (h.f.lt g e).2; omega, h.fo, fun g e e2 => by rcases hob with h1 | h1; exact h.io g (h1 ▸ e) e2; rw [h1] at e; injection e with e; have := (h.o.lt g e2).2; omega⟩
  · refine ⟨E1.os.trans E0.os, E1.tape.trans E0.tape, E1.output.trans E0.output, Nat.le_trans E0.size E1.size, fun k hk hd => ?_⟩
    rw [E1.block k (Nat.lt_of_lt_of_le hk E0.size) (fun e => by injection e with e; omega)]
    exact E0.block k hk (fun e => by have := hml k e.symm; omega)
theorem TI.po {w : World} {t : Nat} {u v x : Value} {F I O : List Int} (h : TI w t u v x F I O) (n : Int) (hl : O.length ≤ 1000) :
    ∃ A c w1, (Builtin.append_ #[23, 23] 23 #[x, .slice (some ⟨w.heap.size, 0, none⟩) 1 1]).run Tryz.prog (w.alloc (iObj [n])) = .ok (.slice A (O.length + 1) c) w1 ∧ w1.cell? ⟨t, 2, none⟩ = some x ∧ w1.frozen? ⟨t, 2, none⟩ = false ∧
      TI (w1.setCell ⟨t, 2, none⟩ (.slice A (O.length + 1) c)) t u v (.slice A (O.length + 1) c) F I (O ++ [n]) ∧ ExI t w.heap.size w (w1.setCell ⟨t, 2, none⟩ (.slice A (O.length + 1) c)) := by
  have ht := h.cell.lt
  have ha := (Ex.refl w).alloc (iObj [n])
  have hs : (w.alloc (iObj [n])).heap.size = w.heap.size + 1 := by simp
  obtain ⟨u1, w1, hrun, hal1, hE, hob⟩ := run_append_ints 23 23 Tryz.underlying23 (w.alloc (iObj [n])) (t + 1) x O (h.o.ex ha) (by omega) (some ⟨w.heap.size, 0, none⟩) 1 [n] ((Blk.new w [n]).rd (by simp)) (by simp; omega)
  have E0 : ExO x.ownBlock w w1 := (ExO.of_ex ha).trans hE
  have hml := h.o.lt
  have v1 : VB w1 t 65 #[u, v, x] := (E0.block t ht (fun e => by have := (hml t e.symm).1; omega)).trans h.cell
  obtain ⟨A, c, e1, _⟩ := hal1.form (by simp; omega)
  rw [List.length_append, List.length_singleton] at e1
  subst e1
  obtain ⟨u1, hu1⟩ : ∃ q : Value, .slice A (O.length + 1) c = q := ⟨_, rfl⟩
  refine ⟨A, c, w1, hrun, v1.cell 2 rfl, v1.frozen 2, ?_, ?_⟩
  all_goals
    rw [hu1] at hal1 hob ⊢
    have E1 : Ex1 t w1 (w1.setCell ⟨t, 2, none⟩ u1) := (Ex1.refl _ _).setCell (p := ⟨t, 2, none⟩) rfl _
  · exact ⟨v1.set_ 2 u1, (h.f.exo_k E0 (fun g e e2 => h.fo g e2 e)).e1 E1 (Nat.lt_succ_self t), (h.i.exo_k E0 (fun g e e2 => h.io g e2 e)).e1 E1 (Nat.lt_succ_self t), hal1.e1 E1 (Nat.lt_succ_self t), h.fi, fun g e e2 => by rcases hob with h1 | h1; exact h.fo g e (h1 ▸ e2); rw [h1] at e2; injection e2 with e2; have := (h.f.lt g e).2; omega, fun g e e2 => by rcases hob with h1 | h1; exact h.io g e (h1 ▸ e2); rw [h1] at e2; injection e2 with e2; have := (h.i.lt g e).2; omega⟩
  · refine ⟨E1.os.trans E0.os, E1.tape.trans E0.tape, E1.output.trans E0.output, Nat.le_trans E0.size E1.size, fun k hk hd => ?_⟩
    rw [E1.block k (Nat.lt_of_lt_of_le hk E0.size) (fun e => by injection e with e; omega)]
    exact E0.block k hk (fun e => by have := hml k e.symm; omega)
end Go.Proofs.YtphdcgimibnajaaGreat
namespace Go.Proofs.YtphdcgimibnajaaGreat
set_option maxRecDepth 100000
open Go
section
variable {P : Program} {ops : Array Oper} {md : Region.Mode} {w : World}
/-- Does operation t wait for operation i, at once or through others? -/
def rReach (md : Region.Mode) (ops : Array Oper) : Nat → Nat → Nat → Bool
  | 0, _, _ => false
  | f + 1, t, i => match ops[t]? with
    | some o => o.after.any fun e => Region.binds md e && (e.on == i || rReach md ops f e.on i)
    | none => false
structure RClosed (md : Region.Mode) (ops : Array Oper) (listed : Array Bool) : Prop where
  size : listed.size = ops.size
  closed : ∀ j oj, ops[j]? = some oj → listed.getD j false = true → ∀ e ∈ oj.after, Region.binds md e = true → listed.getD e.on false = true
theorem RClosed.zero : RClosed md ops (Array.replicate ops.size false) :=
  ⟨by simp, fun j oj _ hl => by rw [getD_replicate_false] at hl; cases hl⟩
theorem RClosed.set {i : Nat} {listed : Array Bool} (inv : RClosed md ops listed) (hi : i ∈ Region.ready md ops listed) : RClosed md ops (listed.setIfInBounds i true) := by
  obtain ⟨_, oi, hoi, hall⟩ := mem_ready.1 hi
  refine ⟨by simp [inv.size], fun j oj hj hl e he hb => ?_⟩
  by_cases hij : i = j
  · subst hij
    have : oj = oi := Option.some.inj (hj.symm.trans hoi)
    subst this
    exact getD_set_true (hall e he hb)
  · rw [getD_set_ne false hij] at hl
    exact getD_set_true (inv.closed j oj hj hl e he hb)
theorem RClosed.reach {listed : Array Bool} (inv : RClosed md ops listed) {i : Nat} : ∀ (f t : Nat), (∀ ot, ops[t]? = some ot → ∀ e ∈ ot.after, Region.binds md e = true → listed.getD e.on false = true) → rReach md ops f t i = true → listed.getD i false = true
  | 0, _, _, h => by cases h
  | f + 1, t, ht, h => by
    unfold rReach at h
    split at h
    · rename_i o ho
      obtain ⟨e, he, hb⟩ := Array.any_eq_true'.1 h
      simp only [Bool.and_eq_true, Bool.or_eq_true, beq_iff_eq] at hb
      have h1 := ht o ho e he hb.1
      rcases hb.2 with h2 | h2
      · rw [← h2]; exact h1
      · exact RClosed.reach inv f e.on (fun ot hot => inv.closed e.on ot hot h1) h2
    · cases h
/-- From here on the order is forced. -/
def seqL (md : Region.Mode) (ops : Array Oper) : List Nat → Array Bool → Bool
  | [], listed => (Region.ready md ops listed).isEmpty
  | k :: r, listed => decide (Region.ready md ops listed = [k]) && seqL md ops r (listed.setIfInBounds k true)
def pickOps (l : List Oper) : List Nat → List Oper
  | [] => []
  | i :: r => match l[i]? with
    | some o => o :: pickOps l r
    | none => pickOps l r
theorem pickOps_cons {l : List Oper} {i : Nat} {o : Oper} (r : List Nat) (h : l[i]? = some o) : pickOps l (i :: r) = o :: pickOps l r := by
  rw [pickOps, h]
def lexU (md : Region.Mode) (ops : Array Oper) (tl : List Nat) (m : Nat) : List Nat → Array Bool → Bool
  | [], listed => seqL md ops (m :: tl) listed
  | k :: r, listed => (Region.ready md ops listed).contains k && Region.free md ops listed k && lexU md ops tl m r (listed.setIfInBounds k true)
def lexK (md : Region.Mode) (ops : Array Oper) (hd2 tl : List Nat) (m : Nat) : List Nat → Array Bool → Bool
  | [], listed => lexU md ops tl m hd2 listed
  | k :: r, listed => (Region.ready md ops listed).contains k && Region.free md ops listed k && tl.all (fun t => rReach md ops ops.size t k) && lexK md ops hd2 tl m r (listed.setIfInBounds k true)
/-- Whatever comes up; each operation that is none of T keeps S. -/
def wpAnyK (P : Program) (md : Region.Mode) (ops : Array Oper) (Q : Exit → Act → World → Prop) (S : World → Prop) (T : List Nat) : Nat → Array Bool → Act → World → Prop
  | 0, listed, a, w => Region.ready md ops listed = [] ∧ Q .normal a w
  | f + 1, listed, a, w => (Region.ready md ops listed = [] → Q .normal a w) ∧ ∀ i ∈ Region.ready md ops listed, wpOp P ops Q i (fun a' w' => (i ∉ T → S w → S w') ∧ wpAnyK P md ops Q S T f (listed.setIfInBounds i true) a' w') a w
theorem wpAny_of_K {Q : Exit → Act → World → Prop} {S : World → Prop} {T : List Nat} : ∀ (f : Nat) (listed : Array Bool) (a : Act) (w : World), wpAnyK P md ops Q S T f listed a w → wpAny P md ops Q f listed a w
  | 0, _, _, _, h => h
  | f + 1, _, _, _, h => ⟨h.1, fun i hi => wpOp_mono (fun a' w' h' => wpAny_of_K f _ a' w' h'.2) (h.2 i hi)⟩
theorem wpAnyK_first {Q : Exit → Act → World → Prop} {S S0 : World → Prop} {T : List Nat} {i : Nat} {oi : Oper} {v : Value} (hi : ops[i]? = some oi) (hsel : ∀ (j : Nat) (o : Oper) cs b, ops[j]? = some o → o.op ≠ .select cs b)
    (hQ : ∀ c a w, Q (.panic c) (a.put oi.dst v) w → Q (.panic c) a w) (hT : (∀ w, S0 w) ∨ ((∀ w, S w → S0 w) ∧ ∀ t ∈ T, rReach md ops ops.size t i = true)) :
    ∀ (f : Nat) (listed : Array Bool) (a : Act) (w : World), RClosed md ops listed →
      (∀ j oj, ops[j]? = some oj → j ≠ i → listed.getD j true = false → (∀ e ∈ oj.after, Region.binds md e = true → e.on ≠ i) → oi.apart ops oj = true) →
      i ∈ Region.ready md ops listed → YieldsIf P ops S0 oi v a → S0 w → ((∀ w, S0 w) ∨ S w) →
      wpAnyK P md ops Q S T f (listed.setIfInBounds i true) (a.put oi.dst v) w → wpAnyK P md ops Q S T (f + 1) listed a w := by
  have key : ∀ listed, (∀ t ∈ T, rReach md ops ops.size t i = true) → RClosed md ops listed → i ∈ Region.ready md ops listed → ∀ j ∈ Region.ready md ops listed, j ∉ T := fun listed hT inv hr j hj hjT => by
    obtain ⟨_, oj, hoj, hall⟩ := mem_ready.1 hj
    have h1 := inv.reach ops.size j (fun ot hot e he hb => by
      have : ot = oj := Option.some.inj (hot.symm.trans hoj)
      subst this
      exact hall e he hb) (hT j hjT)
    rw [getD_both (mem_ready.1 hr).1] at h1
    cases h1
  intro f
  induction f with
  | zero =>
    intro listed a w inv _ hr hy hS0 hS H
    refine ⟨fun h => (by rw [h] at hr; cases hr), fun j hj => ?_⟩
    by_cases hji : j = i
    · subst hji; exact hy.wpOp hi hS0 ⟨fun _ h => h, H⟩
    · have := ready_mono hj hji
      rw [H.1] at this
      cases this
  | succ f ih =>
    intro listed a w inv hfree hr hy hS0 hS H
    have hun := (mem_ready.1 hr).1
    refine ⟨fun h => (by rw [h] at hr; cases hr), fun j hj => ?_⟩
    by_cases hji : j = i
    · subst hji; exact hy.wpOp hi hS0 ⟨fun _ h => h, H⟩
    · have h1 := H.2 j (ready_mono hj hji)
      obtain ⟨hjun, oj, hoj, hall⟩ := mem_ready.1 hj
      have hnot : ∀ e ∈ oj.after, Region.binds md e = true → e.on ≠ i := fun e he hb heq => by
        have h1 := hall e he hb
        rw [heq, getD_both hun] at h1
        cases h1
      have h2 := wpOp_putIf hoj (hfree j oj hoj hji hjun hnot) (fun cs b => hsel i oi cs b hi) (fun cs b => hsel j oj cs b hoj) hQ hy h1
      have hfree' : ∀ k ok, ops[k]? = some ok → k ≠ i → (listed.setIfInBounds j true).getD k true = false →
          (∀ e ∈ ok.after, Region.binds md e = true → e.on ≠ i) → oi.apart ops ok = true := fun k ok hk hki hun hno => by
        refine hfree k ok hk hki ?_ hno
        by_cases hjk : j = k
        · subst hjk; exact hjun
        · rw [getD_set_ne true hjk] at hun; exact hun
      have hkp : ∀ w', (j ∉ T → S w → S w') → S0 w' ∧ ((∀ w, S0 w) ∨ S w') := fun w' hk => by
        rcases hT with h0 | ⟨hSS, hT⟩
        · exact ⟨h0 w', .inl h0⟩
        · rcases hS with h0 | hS
          · exact ⟨h0 w', .inl h0⟩
          · have h1 := hk (key listed hT inv hr j hj) hS
            exact ⟨hSS w' h1, .inr h1⟩
      refine wpOp_mono (fun a' w' h3 => ⟨h3.2.1, ih (listed.setIfInBounds j true) a' w' (inv.set hj) hfree' (ready_mono hr (Ne.symm hji)) h3.1 (hkp w' h3.2.1).1 (hkp w' h3.2.1).2 ?_⟩) h2
      rw [Array.setIfInBounds_comm _ _ hji]
      exact h3.2.2
theorem wpAnyK_seq {l : List Oper} {S : World → Prop} {T : List Nat} {Q : Exit → Act → World → Prop} : ∀ (tl : List Nat) (listed : Array Bool) (a : Act) (w : World), (∀ t ∈ tl, t ∈ T) → seqL md l.toArray tl listed = true →
    wpList P l.toArray Q (pickOps l tl) a w → wpAnyK P md l.toArray Q S T tl.length listed a w
  | [], listed, a, w, _, hB, h => ⟨by simpa [seqL] using hB, h⟩
  | k :: r, listed, a, w, ht, hB, h => by
    simp only [seqL, Bool.and_eq_true, decide_eq_true_eq] at hB
    have hk : k ∈ Region.ready md l.toArray listed := by rw [hB.1]; simp
    obtain ⟨_, o, ho, _⟩ := mem_ready.1 hk
    rw [pickOps_cons r (by simpa using ho)] at h
    refine ⟨fun h1 => (by rw [hB.1] at h1; cases h1), fun i hi => ?_⟩
    rw [hB.1] at hi
    have hik : i = k := by simpa using hi
    subst hik
    have hw : wpOp P l.toArray Q i (wpList P l.toArray Q (pickOps l r)) a w := by unfold wpOp; simp only [ho]; exact h
    exact wpOp_mono (fun a' w' h' => ⟨fun hn _ => absurd (ht i (by simp)) hn, wpAnyK_seq r _ a' w' (fun t h => ht t (by simp [h])) hB.2 h'⟩) hw
/-- The operations of a list, one behind the other: each yields a value in every world that meets S. -/
def wpIf (P : Program) (ops : Array Oper) (S : World → Prop) (Q : Act → Prop) : List Oper → Act → Prop
  | [], a => Q a
  | o :: rest, a => ∃ v, YieldsIf P ops S o v a ∧ wpIf P ops S Q rest (a.put o.dst v)
theorem wpIf_step {S : World → Prop} {Q : Act → Prop} {o : Oper} {rest : List Oper} {a : Act} {v : Value} (hw : Region.wanted o (yielded ops a.tmps) = true) (hy : ∀ w, S w → (execOp a.eval o).run P w = .ok (.value v) w)
    (h : wpIf P ops S Q rest (a.put o.dst v)) : wpIf P ops S Q (o :: rest) a := ⟨v, .inl ⟨hw, hy⟩, h⟩
/-- One operation that is wanted, yields v and leaves w' behind, where S holds again. -/
def wpMid (P : Program) (ops : Array Oper) (S : World → Prop) (K : Act → World → Prop) (o : Oper) (a : Act) (w : World) : Prop :=
  Region.wanted o (yielded ops a.tmps) = true ∧ ∃ v w', ((execOp a.eval o).run P w = .ok (.value v) w' ∨ ((execOp a.eval o).run P w = .ok .skip w' ∧ v = undef)) ∧ S w' ∧ K (a.put o.dst v) w'
theorem wpMid_intro {S : World → Prop} {K : Act → World → Prop} {o : Oper} {a : Act} {v : Value} {w' : World} (hw : Region.wanted o (yielded ops a.tmps) = true) (hr : (execOp a.eval o).run P w = .ok (.value v) w') (hS : S w') (h : K (a.put o.dst v) w') :
    wpMid P ops S K o a w := ⟨hw, v, w', .inl hr, hS, h⟩
theorem wpMid_skip {S : World → Prop} {K : Act → World → Prop} {o : Oper} {a : Act} {w' : World} (hw : Region.wanted o (yielded ops a.tmps) = true) (hr : (execOp a.eval o).run P w = .ok .skip w') (hS : S w') (h : K (a.put o.dst undef) w') :
    wpMid P ops S K o a w := ⟨hw, undef, w', .inr ⟨hr, rfl⟩, hS, h⟩
theorem wpAnyK_lexU {l : List Oper} {S : World → Prop} {tl : List Nat} {m : Nat} {om : Oper} {Q : Exit → Act → World → Prop} (hom : l[m]? = some om) (hsel : Region.noSelect l.toArray = true) (hQ : ∀ c a d v w, Q (.panic c) (a.put d v) w → Q (.panic c) a w) :
    ∀ (hd : List Nat) (listed : Array Bool) (a : Act), RClosed md l.toArray listed → lexU md l.toArray tl m hd listed = true → wpIf P l.toArray (fun _ => True) (fun a' => wpMid P l.toArray S (wpList P l.toArray Q (pickOps l tl)) om a' w) (pickOps l hd) a →
    wpAnyK P md l.toArray Q S tl (hd.length + (tl.length + 1)) listed a w
  | [], listed, a, _, hB, h => by
    simp only [lexU, seqL, Bool.and_eq_true, decide_eq_true_eq] at hB
    obtain ⟨hw, v, w', hr, hS', h⟩ := h
    rw [List.length_nil, Nat.zero_add]
    refine ⟨fun h1 => (by rw [hB.1] at h1; cases h1), fun i hi => ?_⟩
    rw [hB.1] at hi
    have hik : i = m := by simpa using hi
    subst hik
    unfold wpOp
    have hom' : l.toArray[i]? = some om := by simpa using hom
    simp only [hom', hw, if_true]
    refine .inl ?_
    unfold Oper.wp
    rcases hr with hr | ⟨hr, rfl⟩
    all_goals
      rw [hr]
      exact ⟨fun _ _ => hS', wpAnyK_seq tl _ _ _ (fun t h => h) hB.2 h⟩
  | k :: r, listed, a, inv, hB, h => by
    simp only [lexU, Bool.and_eq_true] at hB
    obtain ⟨⟨hr, hf⟩, hB'⟩ := hB
    have hr' : k ∈ Region.ready md l.toArray listed := by simpa using hr
    obtain ⟨_, o, ho, _⟩ := mem_ready.1 hr'
    rw [pickOps_cons r (by simpa using ho)] at h
    obtain ⟨v, hy, hK⟩ := h
    have := wpAnyK_first ho (Region.noSelect_spec hsel) (fun c a w => hQ c a o.dst v w) (.inl fun _ => trivial) (r.length + (tl.length + 1)) listed a w inv (Region.free_spec ho hf) hr' hy trivial (.inl fun _ => trivial)
      (wpAnyK_lexU hom hsel hQ r _ _ (inv.set hr') hB' hK)
    rw [show (k :: r).length + (tl.length + 1) = r.length + (tl.length + 1) + 1 by simp; omega]
    exact this
theorem wpAnyK_lex {l : List Oper} {S : World → Prop} {hd2 tl : List Nat} {m : Nat} {om : Oper} {Q : Exit → Act → World → Prop} (hom : l[m]? = some om) (hsel : Region.noSelect l.toArray = true) (hQ : ∀ c a d v w, Q (.panic c) (a.put d v) w → Q (.panic c) a w) (hS : S w) :
    ∀ (hd : List Nat) (listed : Array Bool) (a : Act), RClosed md l.toArray listed → lexK md l.toArray hd2 tl m hd listed = true →
      wpIf P l.toArray S (wpIf P l.toArray (fun _ => True) (fun a' => wpMid P l.toArray S (wpList P l.toArray Q (pickOps l tl)) om a' w) (pickOps l hd2)) (pickOps l hd) a →
    wpAnyK P md l.toArray Q S tl (hd.length + (hd2.length + (tl.length + 1))) listed a w
  | [], listed, a, inv, hB, h => by
    rw [List.length_nil, Nat.zero_add]
    exact wpAnyK_lexU hom hsel hQ hd2 listed a inv (by simpa [lexK] using hB) h
  | k :: r, listed, a, inv, hB, h => by
    simp only [lexK, Bool.and_eq_true] at hB
    obtain ⟨⟨⟨hr, hf⟩, hT⟩, hB'⟩ := hB
    have hr' : k ∈ Region.ready md l.toArray listed := by simpa using hr
    obtain ⟨_, o, ho, _⟩ := mem_ready.1 hr'
    rw [pickOps_cons r (by simpa using ho)] at h
    obtain ⟨v, hy, hK⟩ := h
    have := wpAnyK_first ho (Region.noSelect_spec hsel) (fun c a w => hQ c a o.dst v w) (.inr ⟨fun _ h => h, fun t ht => List.all_eq_true.1 hT t ht⟩) (r.length + (hd2.length + (tl.length + 1))) listed a w inv (Region.free_spec ho hf) hr' hy hS (.inr hS)
      (wpAnyK_lex hom hsel hQ hS r _ _ (inv.set hr') hB' hK)
    rw [show (k :: r).length + (hd2.length + (tl.length + 1)) = r.length + (hd2.length + (tl.length + 1)) + 1 by simp; omega]
    exact this
/-- THE REGION: first the operations of hd, which only read what S tells, and for which all of tl wait; then those of hd2, which look at no memory; then operation m, which keeps S; then those of tl, in one forced order. -/
theorem wp_region_mid {id : Nat} {Q : Exit → Act → World → Prop} {a : Act} {w : World} {l : List Oper} (S : World → Prop) (hd hd2 : List Nat) (m : Nat) (tl : List Nat) {om : Oper} (hom : l[m]? = some om) (hm : P.follows .mixedOrders = true)
    (hB : (Region.noSelect l.toArray && decide (hd.length + (hd2.length + (tl.length + 1)) = l.length) && lexK .any l.toArray hd2 tl m hd (Array.replicate l.length false)) = true) (hS : S { w with drawn := w.drawn + 1 })
    (hQ : ∀ c a d v w, Q (.panic c) (a.put d v) w → Q (.panic c) a w)
    (h : wpIf P l.toArray S (wpIf P l.toArray (fun _ => True) (fun a' => wpMid P l.toArray S (wpList P l.toArray Q (pickOps l tl)) om a' { w with drawn := w.drawn + 1 }) (pickOps l hd2)) (pickOps l hd) a) : (Code.region id l.toArray true).wp P Q a w := by
  simp only [Bool.and_eq_true, decide_eq_true_eq] at hB
  obtain ⟨⟨hsel, hn⟩, hlex⟩ := hB
  have h0 : Array.replicate l.length false = Array.replicate l.toArray.size false := by simp
  have H := wpAnyK_lex (md := .any) (hd2 := hd2) (tl := tl) hom hsel hQ hS hd _ a (h0 ▸ RClosed.zero) hlex h
  refine wp_region_any hm ?_
  have := wpAny_of_K _ _ _ _ H
  rw [hn] at this
  simpa using this
end
end Go.Proofs.YtphdcgimibnajaaGreat
