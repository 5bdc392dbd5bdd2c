/- Lists that a call makes by append, each element with memory of its own, in an interval of its own. Plain lemmas of mine. -/
import Derived.Test.YtmekhjnhcgmphaaDoorUS
import Derived.Lib.SliceRun
import Derived.Deep.AppendLies
namespace Go.Proofs.YtmekhjnhcgmphaaDoor
set_option maxRecDepth 100000
open Go Go.RowKit
/-- How an element of k cells is owned. -/
structure EL (α : Type) where
  k : Nat
  O : World → Nat → Nat → List Value → α → Prop
  rlen : ∀ {w a b vs x}, O w a b vs x → vs.length = k
  keep : ∀ {w w' : World} {a b vs x}, O w a b vs x → (∀ k, a ≤ k → k < b → k < w.heap.size → w'.heap[k]? = w.heap[k]?) → O w' a b vs x
  one : ∀ {w a b vs x}, O w a b vs x → ∀ u ∈ vs, u.oneCell' = true
variable {α : Type}
theorem EL.oex (E : EL α) {w w' : World} {a b : Nat} {vs : List Value} {x : α} (h : E.O w a b vs x) (he : Ex w w') : E.O w' a b vs x := E.keep h fun _ _ _ hk => he.block hk
theorem EL.grown (E : EL α) {w w' : World} {a b : Nat} {vs : List Value} {x : α} {o : Option Nat} (h : E.O w a b vs x) (he : w.grownBy w' o) (hd : ∀ k, o = some k → k < a ∨ b ≤ k) : E.O w' a b vs x :=
  E.keep h fun k h1 h2 hk => he.block k hk (fun e => by have := hd k e.symm; omega)
theorem ownsRow_keep {w w' : World} {B n s : Nat} {t : TypeId} {v : Value} {xs : List Value} (h : w.ownsRow B t s v n xs) (he : ∀ k, v.ownBlock = some k → k < w.heap.size → w'.heap[k]? = w.heap[k]?) : w'.ownsRow B t s v n xs := by
  obtain ⟨h1, h2⟩ := h
  refine ⟨h1, ?_⟩
  rcases h2 with h2 | ⟨g, cap, cur, hv, hB, hh, r⟩
  · exact .inl h2
  · exact .inr ⟨g, cap, cur, hv, hB, (he g (by rw [hv]; rfl) (heap_lt_of hh)).trans hh, r⟩
/-- v lists xs: its block and all that the elements own lie from B on and below H. -/
def GE (E : EL α) (t : TypeId) (w : World) (B H : Nat) (v : Value) (xs : List α) : Prop :=
  (∀ k, v.ownBlock = some k → B ≤ k ∧ k < H) ∧ ∃ (us : List (List Value)) (al bl : Nat → Nat), us.length = xs.length ∧ w.ownsRow B t E.k v xs.length us.flatten ∧
    (∀ (j : Nat) (x : α), xs[j]? = some x → ∃ u, us[j]? = some u ∧ E.O w (al j) (bl j) u x ∧ B ≤ al j ∧ bl j ≤ H ∧ ∀ k, v.ownBlock = some k → k < al j ∨ bl j ≤ k) ∧
    ∀ i j, i < xs.length → j < xs.length → i ≠ j → (bl i ≤ al j ∨ bl j ≤ al i)
theorem GE.nil (E : EL α) (t : TypeId) (w : World) (B H : Nat) : GE E t w B H (.slice none 0 0) [] :=
  ⟨(fun k e => by cases e), [], fun _ => 0, fun _ => 0, rfl, World.ownsRow_nil w B _ _, (fun j r hj => by simp at hj), (fun i j hi => by simp at hi)⟩
theorem GE.empty (E : EL α) (t : TypeId) (w : World) {B : Nat} (hB : B ≤ w.heap.size) : GE E t (w.alloc (.cells #[] t)) B (w.heap.size + 1) (.slice (some ⟨w.heap.size, 0, none⟩) 0 0) [] := by
  have ho : (w.alloc (.cells #[] t)).ownsRow B t E.k (.slice (some ⟨w.heap.size, 0, none⟩) 0 0) 0 [] := ⟨by simp, .inr ⟨w.heap.size, 0, #[], rfl, hB, heap_alloc_new w _, Nat.le_refl _, Nat.zero_le _, by simp, by simp⟩⟩
  exact ⟨fun k e => by injection e with e; subst e; exact ⟨hB, Nat.lt_succ_self _⟩, [], fun _ => 0, fun _ => 0, rfl, ho, (fun j r hj => by simp at hj), (fun i j hi => by simp at hi)⟩
theorem GE.keep {E : EL α} {t : TypeId} {w w' : World} {B H : Nat} {v : Value} {xs : List α} (h : GE E t w B H v xs) (hk : ∀ k, B ≤ k → k < H → k < w.heap.size → w'.heap[k]? = w.heap[k]?) : GE E t w' B H v xs := by
  obtain ⟨hown, us, al, bl, hl, ho, h1, h2⟩ := h
  refine ⟨hown, us, al, bl, hl, ownsRow_keep ho fun k e hk' => hk k (hown k e).1 (hown k e).2 hk', fun j x hj => ?_, h2⟩
  obtain ⟨u, q1, q2, q3, q4, q5⟩ := h1 j x hj
  exact ⟨u, q1, E.keep q2 fun k a1 a2 a3 => hk k (by omega) (by omega) a3, q3, q4, q5⟩
theorem GE.ex {E : EL α} {t : TypeId} {w w' : World} {B H : Nat} {v : Value} {xs : List α} (h : GE E t w B H v xs) (he : Ex w w') : GE E t w' B H v xs := h.keep fun _ _ _ hk => he.block hk
theorem GE.iv {E : EL α} {t : TypeId} {w w' : World} {B H a b : Nat} {v : Value} {xs : List α} (h : GE E t w B H v xs) (he : ExI a b w w') (hd : H ≤ a ∨ b ≤ B) : GE E t w' B H v xs := h.keep fun k h1 h2 hk => he.block k hk (by omega)
theorem GE.more {E : EL α} {t : TypeId} {w : World} {B B' H H' : Nat} {v : Value} {xs : List α} (h : GE E t w B H v xs) (hB : B' ≤ B) (hH : H ≤ H') : GE E t w B' H' v xs := by
  obtain ⟨hown, us, al, bl, hl, ho, h1, h2⟩ := h
  refine ⟨fun k e => by have := hown k e; omega, us, al, bl, hl, ⟨ho.1, ?_⟩, fun j x hj => ?_, h2⟩
  · rcases ho.2 with h5 | ⟨g, cap, cur, hv, hg, r⟩
    · exact .inl h5
    · exact .inr ⟨g, cap, cur, hv, by omega, r⟩
  · obtain ⟨u, q1, q2, q3, q4, q5⟩ := h1 j x hj
    exact ⟨u, q1, q2, by omega, by omega, q5⟩
theorem GE.own {E : EL α} {t : TypeId} {w : World} {B H : Nat} {v : Value} {xs : List α} (h : GE E t w B H v xs) : ∀ k, v.ownBlock = some k → B ≤ k ∧ k < H := h.1
theorem GE.form {E : EL α} {t : TypeId} {w : World} {B H : Nat} {v : Value} {xs : List α} (h : GE E t w B H v xs) (hv : v ≠ .slice none 0 0) : ∃ g c, v = .slice (some ⟨g, 0, none⟩) xs.length c ∧ xs.length ≤ c ∧ c ≤ 9223372036854775807 := by
  obtain ⟨_, us, al, bl, hl, ho, _⟩ := h
  rcases ho.2 with ⟨e, _⟩ | ⟨g, cap, cur, e, _, _, h1, h2, _⟩
  · exact absurd e hv
  · exact ⟨g, cap, e, h1, h2⟩
theorem GE.nilv {E : EL α} {t : TypeId} {w : World} {B H : Nat} {v : Value} {xs : List α} (h : GE E t w B H v xs) : ∃ A c, v = .slice A xs.length c := by
  obtain ⟨_, us, al, bl, hl, ho, _⟩ := h
  rcases ho.2 with ⟨e, hn⟩ | ⟨g, cap, cur, e, _, _, h1, h2, _⟩
  · exact ⟨none, 0, by rw [e, hn]⟩
  · exact ⟨_, cap, e⟩
theorem GE.at_ {E : EL α} {t : TypeId} {w : World} {B H g n c : Nat} {xs : List α} (h : GE E t w B H (.slice (some ⟨g, 0, none⟩) n c) xs) :
    ∃ (cur : Array Value) (al bl : Nat → Nat), n = xs.length ∧ B ≤ g ∧ g < H ∧ w.heap[g]? = some (.cells cur t (0, 0)) ∧
      (∀ (j : Nat) (x : α), xs[j]? = some x → ∃ u, (∀ (i : Nat) (y : Value), u[i]? = some y → cur[j * E.k + i]? = some y) ∧ E.O w (al j) (bl j) u x ∧ B ≤ al j ∧ bl j ≤ H ∧ (g < al j ∨ bl j ≤ g)) ∧
      ∀ i j, i < xs.length → j < xs.length → i ≠ j → (bl i ≤ al j ∨ bl j ≤ al i) := by
  obtain ⟨hown, us, al, bl, hl, ho, h1, h2⟩ := h
  rcases ho.2 with ⟨e, _⟩ | ⟨g', cap, cur, e, hB, hh, hnc, hcm, hsz, ht⟩
  · cases e
  · injection e with e1 e2 e3
    injection e1 with e1
    injection e1 with e1 _ _
    subst e1
    refine ⟨cur, al, bl, e2, (hown _ rfl).1, (hown _ rfl).2, hh, fun j x hj => ?_, h2⟩
    obtain ⟨u, q1, q2, q3, q4, q5⟩ := h1 j x hj
    refine ⟨u, fun i y hy => ?_, q2, q3, q4, q5 _ rfl⟩
    have hlen : ∀ u ∈ us, u.length = E.k := fun u hu => by
      obtain ⟨j', hj'⟩ := List.getElem?_of_mem hu
      have hl' := (List.getElem?_eq_some_iff.1 hj').1
      obtain ⟨u2, r1, r2, _⟩ := h1 j' _ (List.getElem?_eq_getElem (by omega))
      rw [hj'] at r1
      injection r1 with r1
      subst r1
      exact E.rlen r2
    have hf : us.flatten[j * E.k + i]? = some y := flatten_at hlen q1 hy
    rw [← ht, List.getElem?_take] at hf
    split at hf
    · simpa using hf
    · cases hf
theorem GE.push (E : EL α) {t tS : TypeId} (ht : Tryd.prog.underlying tS = some (.slice t)) {i : TypeInfo} {z : Value} {bytes : Nat} (hi : Tryd.prog.info? t = some i) (hz : i.zero = some z) (hs : i.size = E.k) (hby : i.bytes = bytes) (hzs : z.cells.size = E.k) (hk : 0 < E.k) (hb64 : bytes ≤ 64)
    {w : World} {B H : Nat} {v : Value} {xs : List α} (h : GE E t w B H v xs) (hH : H ≤ w.heap.size) {u : List Value} {x : α} {a b : Nat} (hu : E.O w a b u x) (ha : H ≤ a) (_ : a ≤ b) (hb : b ≤ w.heap.size) (hB : B ≤ H) (hl : xs.length + 1 ≤ 1099511627776) :
    ∃ v' w', (Builtin.append_ #[tS, tS] tS #[v, .slice (some ⟨w.heap.size, 0, none⟩) 1 1]).run Tryd.prog (w.alloc (.cells u.toArray t)) = .ok v' w' ∧
      GE E t w' B w'.heap.size v' (xs ++ [x]) ∧ ExO v.ownBlock w w' ∧ (v'.ownBlock = v.ownBlock ∨ v'.ownBlock = some (w.heap.size + 1)) ∧ v' ≠ .slice none 0 0 ∧ ∀ b', Ex b' w → b'.heap.size ≤ B → Ex b' w' := by
  obtain ⟨hown, us, al, bl, hul, ho, h1, h2⟩ := h
  have hx := (Ex.refl w).alloc (.cells u.toArray t)
  have hsz : (w.alloc (.cells u.toArray t)).heap.size = w.heap.size + 1 := by simp
  have hrl := E.rlen hu
  obtain ⟨v', w', hrun, hown', hg, hnn, hob⟩ := run_append_own_at (P := Tryd.prog) (w.alloc (.cells u.toArray t)) B tS tS t i z E.k bytes ht hi hz hs hby hzs hk v xs.length _ (ownsRow_keep ho fun k e hk => hx.block hk) ⟨w.heap.size, 0, none⟩ 1 1 u (by rw [hrl, Nat.one_mul])
    (fun j y hj => World.news_of_block (heap_alloc_new w _) j y (by simpa using hj)) (E.one hu) (by unfold maxLen; omega) (by
      have := Nat.mul_le_mul (show xs.length + 1 ≤ 1099511627776 from hl) hb64
      omega) (by omega)
  have hsz2 := hg.size
  rw [hsz] at hob
  have hown2 : ∀ k, v'.ownBlock = some k → B ≤ k ∧ k < w'.heap.size := World.ownsRow.lt hown'
  refine ⟨v', w', hrun, ⟨hown2, us ++ [u], (fun j => if j = xs.length then a else al j), (fun j => if j = xs.length then b else bl j), by simp [hul], ?_, ?_, ?_⟩, (ExO.of_ex hx).trans hg, hob, fun e => by have := (hnn.1 e).2; omega, ?_⟩
  · rw [List.length_append, List.flatten_append]; simpa using hown'
  · intro j q hj
    by_cases e : j = xs.length
    · subst e
      rw [List.getElem?_append_right (Nat.le_refl _), Nat.sub_self] at hj
      injection hj with hj
      subst hj
      refine ⟨u, by rw [List.getElem?_append_right (by omega), hul, Nat.sub_self]; rfl, ?_, ?_, ?_, ?_⟩
      · simp only [if_pos]
        exact E.grown (E.oex hu hx) hg fun k e => .inl (by have := hown k e; omega)
      · simp only [if_pos]; omega
      · simp only [if_pos]; omega
      · intro k e
        simp only [if_pos]
        rcases hob with e2 | e2
        · exact .inl (by have := hown k (e2 ▸ e); omega)
        · rw [e2] at e; injection e with e; exact .inr (by omega)
    · have hjl : j < xs.length := by have := (List.getElem?_eq_some_iff.1 hj).1; rw [List.length_append] at this; simp at this; omega
      rw [List.getElem?_append_left hjl] at hj
      obtain ⟨u2, q1, q2, q3, q4, q5⟩ := h1 j q hj
      refine ⟨u2, by rw [List.getElem?_append_left (by omega)]; exact q1, ?_, ?_, ?_, ?_⟩
      · simp only [if_neg e]
        exact E.grown (E.oex q2 hx) hg q5
      · simp only [if_neg e]; exact q3
      · simp only [if_neg e]; omega
      · intro k e2
        simp only [if_neg e]
        rcases hob with e3 | e3
        · exact q5 k (e3 ▸ e2)
        · rw [e3] at e2; injection e2 with e2; exact .inr (by omega)
  · intro i j hi' hj' hne
    simp only [List.length_append, List.length_cons, List.length_nil] at hi' hj'
    by_cases ei : i = xs.length
    · have ej : j ≠ xs.length := by omega
      have hjl : j < xs.length := by omega
      obtain ⟨_, _, _, _, q4, _⟩ := h1 j _ (List.getElem?_eq_getElem hjl)
      simp only [if_pos ei, if_neg ej]
      exact .inr (by omega)
    · have hil : i < xs.length := by omega
      obtain ⟨_, _, _, _, q4, _⟩ := h1 i _ (List.getElem?_eq_getElem hil)
      by_cases ej : j = xs.length
      · simp only [if_neg ei, if_pos ej]
        exact .inl (by omega)
      · simp only [if_neg ei, if_neg ej]
        exact h2 i j hil (by omega) hne
  · intro b' hb' hbB
    exact (hb'.trans hx).exo hg (fun g e => by have := (hown g e).1; omega)
end Go.Proofs.YtmekhjnhcgmphaaDoor
