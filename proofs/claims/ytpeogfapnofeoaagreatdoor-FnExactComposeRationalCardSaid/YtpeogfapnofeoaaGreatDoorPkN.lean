/- The power series of a fraction: plain theory; the contracts of both sides. The power series of a fraction: the reference's side; SeriesOf. Combinations of rows, on both sides. Runs of state spaces: ssPlus, crLists, isRun; lists of lists that grow. Lists of lists of ints that grow by append. -/
import Derived.Test.YtpeogfapnofeoaaGreatDoorFrac5
import Derived.Test.YtpeogfapnofeoaaGreatDoorPkM
import Derived.Deep.RegionHeld3
import Derived.Test.YtpeogfapnofeoaaGreatDoorMat
import Derived.Test.YtpeogfapnofeoaaGreatDoorPkA
import Derived.RegionCalls
import Derived.Deep.RegionWith
import Derived.Deep.Cut
import Derived.Deep.RegionLaw
import Derived.Deep.AppendLies
namespace Go.Proofs.YtpeogfapnofeoaaGreatDoor
set_option maxRecDepth 100000
open Go Go.RowKit
end Go.Proofs.YtpeogfapnofeoaaGreatDoor
namespace Go.Proofs.YtpeogfapnofeoaaGreatDoor
set_option maxRecDepth 100000
open Go Go.RowKit
end Go.Proofs.YtpeogfapnofeoaaGreatDoor
namespace Go.Proofs.YtpeogfapnofeoaaGreatDoor
set_option maxRecDepth 100000
open Go Go.RowKit
/-- The combination of rows with coefficients x, k rows being done. -/
def cmbTo (p : Int) (n : Nat) (x : List Int) (rows : List (List Int)) : Nat → List Int
  | 0 => List.replicate n 0
  | k + 1 => addAt p (cmbTo p n x rows k) 0 (cf x k) (rows[k]?.getD [])
def cmb (p : Int) (n : Nat) (x : List Int) (rows : List (List Int)) : List Int := cmbTo p n x rows rows.length
end Go.Proofs.YtpeogfapnofeoaaGreatDoor
namespace Go.Proofs.YtpeogfapnofeoaaGreatDoor
set_option maxRecDepth 100000
open Go Go.RowKit
end Go.Proofs.YtpeogfapnofeoaaGreatDoor
namespace Go.Proofs.YtpeogfapnofeoaaGreatDoor
set_option maxRecDepth 100000
open Go Go.RowKit
theorem FI.grown {w w' : World} {a b : Nat} {A : Option Addr} {c : Nat} {xs : List Int} {row : Option Nat} (h : FI w a b A c xs) (hg : w.grownBy w' row) (ho : ∀ k, row = some k → k < a ∨ b ≤ k) : FI w' a b A c xs := by
  cases row with
  | none => exact h.exo (A' := none) hg fun _ _ _ e => by cases e
  | some k =>
    refine h.exo (A' := some ⟨k, 0, none⟩) hg fun p p' e e' => ?_
    injection e' with e'
    have h1 := h.fr.hi p e
    have h2 := h.lo p e
    have := ho k rfl
    rw [← e']
    show p.block ≠ k
    omega
theorem ownsRow_ex {w w' : World} {B n s : Nat} {t : TypeId} {v : Value} {xs : List Value} (h : w.ownsRow B t s v n xs) (he : Ex w w') : w'.ownsRow B t s v n xs := by
  obtain ⟨h1, h2⟩ := h
  refine ⟨h1, ?_⟩
  rcases h2 with h2 | ⟨g, cap, cur, hv, hB, hh, r⟩
  · exact .inl h2
  · exact .inr ⟨g, cap, cur, hv, hB, (he.block (heap_lt_of hh)).trans hh, r⟩
/-- A list of lists that the call makes by append: all its blocks from B on and below H; each row in an interval of its own. -/
def GM (w : World) (B H : Nat) (v : Value) (rows : List (List Int)) : Prop :=
  H ≤ w.heap.size ∧ (∀ k, v.ownBlock = some k → k < H) ∧ ∃ (hs : List Value) (al bl : Nat → Nat), w.ownsRow B 52 1 v rows.length hs ∧
    (∀ (j : Nat) (r : List Int), rows[j]? = some r → ∃ A c, hs[j]? = some (.slice A r.length c) ∧ FI w (al j) (bl j) A c r ∧ B ≤ al j ∧ bl j ≤ H ∧ ∀ k, v.ownBlock = some k → k < al j ∨ bl j ≤ k) ∧
    ∀ i j, i < rows.length → j < rows.length → i ≠ j → (bl i ≤ al j ∨ bl j ≤ al i)
theorem GM.nil (w : World) (B H : Nat) (hH : H ≤ w.heap.size) : GM w B H (.slice none 0 0) [] :=
  ⟨hH, (fun k e => by cases e), [], fun _ => 0, fun _ => 0, World.ownsRow_nil w B _ 1, (fun j r hj => by simp at hj), (fun i j hi => by simp at hi)⟩
theorem GM.empty (w : World) {B : Nat} (hB : B ≤ w.heap.size) : GM (w.alloc (.cells #[] 52)) B (w.alloc (.cells #[] 52)).heap.size (.slice (some ⟨w.heap.size, 0, none⟩) 0 0) [] := by
  have ho : (w.alloc (.cells #[] 52)).ownsRow B 52 1 (.slice (some ⟨w.heap.size, 0, none⟩) 0 0) 0 [] := ⟨rfl, .inr ⟨w.heap.size, 0, #[], rfl, hB, heap_alloc_new w _, Nat.le_refl _, Nat.zero_le _, rfl, rfl⟩⟩
  exact ⟨Nat.le_refl _, fun k e => (World.ownsRow.lt ho k e).2, [], fun _ => 0, fun _ => 0, ho, (fun j r hj => by simp at hj), (fun i j hi => by simp at hi)⟩
theorem GM.ex {w w' : World} {B H : Nat} {v : Value} {rows : List (List Int)} (h : GM w B H v rows) (he : Ex w w') : GM w' B H v rows := by
  obtain ⟨hH, hown, hs, al, bl, ho, h1, h2⟩ := h
  refine ⟨Nat.le_trans hH he.size, hown, hs, al, bl, ownsRow_ex ho he, fun j r hj => ?_, h2⟩
  obtain ⟨A, c, q1, q2, q3⟩ := h1 j r hj
  exact ⟨A, c, q1, q2.ex he, q3⟩
theorem GM.more {w : World} {B B' H H' : Nat} {v : Value} {rows : List (List Int)} (h : GM w B H v rows) (hB : B' ≤ B) (h1 : H ≤ H') (h2 : H' ≤ w.heap.size) : GM w B' H' v rows := by
  obtain ⟨hH, hown, hs, al, bl, ho, h3, h4⟩ := h
  refine ⟨h2, fun k e => by have := hown k e; omega, hs, al, bl, ⟨ho.1, ?_⟩, fun j r hj => ?_, h4⟩
  · rcases ho.2 with h5 | ⟨g, cap, cur, hv, hg, r⟩
    · exact .inl h5
    · exact .inr ⟨g, cap, cur, hv, by omega, r⟩
  · obtain ⟨A, c, q1, q2, q3, q4, q5⟩ := h3 j r hj
    exact ⟨A, c, q1, q2, by omega, by omega, q5⟩
theorem GM.push {w : World} {B H : Nat} {v : Value} {rows : List (List Int)} (h : GM w B H v rows) {r : List Int} {A : Option Addr} {c a b : Nat} (hf : FI w a b A c r) (ha : H ≤ a) (hb : b ≤ w.heap.size) (hB : B ≤ H) (hl : rows.length + 1 ≤ 1099511627776) :
    ∃ v' w', (Builtin.append_ #[116, 116] 116 #[v, .slice (some ⟨w.heap.size, 0, none⟩) 1 1]).run Tryz.prog (w.alloc (.cells #[.slice A r.length c] 52)) = .ok v' w' ∧
      GM w' B w'.heap.size v' (rows ++ [r]) ∧ ExO v.ownBlock w w' ∧ (∀ k, v'.ownBlock = some k → v.ownBlock = some k ∨ w.heap.size ≤ k) ∧ ∀ b', Ex b' w → b'.heap.size ≤ B → Ex b' w' := by
  obtain ⟨hH, hown, hs, al, bl, ho, h1, h2⟩ := h
  have hx := (Ex.refl w).alloc (.cells #[.slice A r.length c] 52)
  have hsz := hx.size
  obtain ⟨i, hi, hz, hs1, hb1⟩ := info_parts sliceInfo
  have hnl : hs.length = rows.length := by have := ho.1; omega
  obtain ⟨v', w', hrun, hown', hg, _, hob⟩ := run_append_own_at (P := Tryz.prog) (w.alloc (.cells #[.slice A r.length c] 52)) B 116 116 52 i (.slice none 0 0) 1 24 Tryz.underlying116 hi hz hs1 hb1 rfl (by omega) v rows.length hs (ownsRow_ex ho hx) ⟨w.heap.size, 0, none⟩ 1 1 [.slice A r.length c] (by simp)
    (fun j u hj => World.news_of_block (heap_alloc_new w _) j u hj) (fun u hu => by simp at hu; subst hu; rfl) (by unfold maxLen; omega) (by omega) (by omega)
  have hsz2 := hg.size
  refine ⟨v', w', hrun, ⟨Nat.le_refl _, fun k e => (World.ownsRow.lt hown' k e).2, hs ++ [.slice A r.length c], (fun j => if j = rows.length then a else al j), (fun j => if j = rows.length then b else bl j), ?_, ?_, ?_⟩, ?_, ?_, ?_⟩
  · rw [List.length_append]; exact hown'
  · intro j q hj
    by_cases e : j = rows.length
    · subst e
      rw [List.getElem?_append_right (Nat.le_refl _), Nat.sub_self] at hj
      injection hj with hj
      subst hj
      refine ⟨A, c, by rw [List.getElem?_append_right (by omega), hnl, Nat.sub_self]; rfl, ?_, ?_, ?_, ?_⟩
      · simp only [if_pos]
        exact (hf.ex hx).grown hg fun k e => .inl (by have := hown k e; omega)
      · simp only [if_pos]; omega
      · simp only [if_pos]; omega
      · intro k e
        simp only [if_pos]
        rcases hob with e2 | e2
        · exact .inl (by have := hown k (e2 ▸ e); omega)
        · rw [e2] at e; injection e with e; exact .inr (by omega)
    · have hjl : j < rows.length := by have := (List.getElem?_eq_some_iff.1 hj).1; rw [List.length_append] at this; simp at this; omega
      rw [List.getElem?_append_left hjl] at hj
      obtain ⟨A2, c2, q1, q2, q3, q4, q5⟩ := h1 j q hj
      refine ⟨A2, c2, by rw [List.getElem?_append_left (by omega)]; exact q1, ?_, ?_, ?_, ?_⟩
      · simp only [if_neg e]
        exact (q2.ex hx).grown hg q5
      · simp only [if_neg e]; exact q3
      · simp only [if_neg e]; omega
      · intro k e2
        simp only [if_neg e]
        rcases hob with e3 | e3
        · exact q5 k (e3 ▸ e2)
        · rw [e3] at e2; injection e2 with e2; exact .inr (by omega)
  · intro i j hi' hj' hne
    simp only [List.length_append, List.length_cons, List.length_nil] at hi' hj'
    by_cases ei : i = rows.length
    · have ej : j ≠ rows.length := by omega
      have hjl : j < rows.length := by omega
      obtain ⟨_, _, _, _, _, q4, _⟩ := h1 j _ (List.getElem?_eq_getElem hjl)
      simp only [if_pos ei, if_neg ej]
      exact .inr (by omega)
    · have hil : i < rows.length := by omega
      obtain ⟨_, _, _, _, _, q4, _⟩ := h1 i _ (List.getElem?_eq_getElem hil)
      by_cases ej : j = rows.length
      · simp only [if_neg ei, if_pos ej]
        exact .inl (by omega)
      · simp only [if_neg ei, if_neg ej]
        exact h2 i j hil (by omega) hne
  · exact (ExO.of_ex hx).trans hg
  · intro k e
    rcases hob with e2 | e2
    · exact .inl (e2 ▸ e)
    · rw [e2] at e; injection e with e; exact .inr (by omega)
  · intro b' hb' hbB
    exact (hb'.trans hx).exo hg (fun g e => by have := (World.ownsRow.lt ho g e).1; omega)
end Go.Proofs.YtpeogfapnofeoaaGreatDoor
