/- A map from ints to bools that the call makes, all of whose entries are true: as a set. -/
import Derived.Test.YtgblnkadmieflaaDoorUS
import Derived.Test.YtgblnkadmieflaaDoorIdx
import Derived.Maps.OwnSet
import Derived.Maps.OwnOps
namespace Go.Proofs.YtgblnkadmieflaaDoor
set_option maxRecDepth 100000
open Go Go.RowKit Go.Maps Go.ChangeMaps
theorem wf_i64 {a : Int} (h1 : -4611686018427387904 ≤ a) (h2 : a ≤ 4611686018427387904) : (Lit.int .i64 a).wf = true := by
  have e1 : IntKind.i64.min = -9223372036854775808 := by decide
  have e2 : IntKind.i64.max = 9223372036854775807 := by decide
  simp only [Lit.wf, e1, e2, Bool.and_eq_true, decide_eq_true_eq]
  omega
theorem zeroBool (w : World) : (zeroValue 4).run Tryd.prog w = .ok (.bool false) w := by
  obtain ⟨i, hi, hz, hs, hb⟩ := info_parts boolInfo
  simp [zeroValue, typeInfo, hi, hz]
theorem plainElem_bool_inv {H : Type} {P : Program} {e : TypeId} (he : P.underlying e = some .bool) {v : Value} {x : Bool} {ps : List MemPlace} (h : plainElem (H := H) P e v = some (.lit (.bool x), ps)) : v = .bool x := by
  unfold plainElem at h
  rw [he] at h
  cases v <;> simp at h
  rw [h.1]
/-- Block b is a map of at most n entries, cnt of them, each true; S says which keys are there. -/
def MS (w : World) (b n : Nat) (S : Int → Bool) (cnt : Nat) : Prop := ∃ D : DataW Unit, w.ownsMap Tryd.prog 3 (plainElem Tryd.prog 4) b n D ∧
  (∀ k : Int, D.atKey (.int .i64 k) (.lit (.bool false)) = .lit (.bool (S k))) ∧ (∀ k : Int, Maps.has D (.int .i64 k) = S k) ∧ Maps.size D = cnt
theorem MS.made (w : World) : MS (w.alloc (.map #[] 0)) w.heap.size 0 (fun _ => false) 0 := ⟨.map [], World.ownsMap_made w _ _ _, fun _ => rfl, fun _ => rfl, rfl⟩
theorem MS.lt {w : World} {b n cnt : Nat} {S : Int → Bool} (h : MS w b n S cnt) : b < w.heap.size := by
  obtain ⟨D, ho, _⟩ := h
  exact ho.lt
theorem MS.mono {w : World} {b n n' cnt : Nat} {S : Int → Bool} (h : MS w b n S cnt) (hn : n ≤ n') : MS w b n' S cnt := by
  obtain ⟨D, ho, r⟩ := h
  exact ⟨D, ho.mono hn, r⟩
theorem MS.kept {w w' : World} {b n cnt : Nat} {S : Int → Bool} {row : Option Nat} (h : MS w b n S cnt) (hg : w.grownBy w' row) (hne : some b ≠ row) : MS w' b n S cnt := by
  obtain ⟨D, ho, r⟩ := h
  exact ⟨D, ho.kept hg hne, r⟩
theorem MS.ex {w w' : World} {b n cnt : Nat} {S : Int → Bool} (h : MS w b n S cnt) (he : Ex w w') : MS w' b n S cnt :=
  h.kept (row := none) (ExO.of_ex he) (by simp)
theorem MS.iv {w w' : World} {b n cnt x y : Nat} {S : Int → Bool} (h : MS w b n S cnt) (k : ExI x y w w') (hd : b < x ∨ y ≤ b) : MS w' b n S cnt := by
  obtain ⟨D, ⟨es, clock, hb, r⟩, r2⟩ := h
  exact ⟨D, ⟨es, clock, (k.block b (heap_lt_of hb) hd).trans hb, r⟩, r2⟩
theorem MS.look {w : World} {b n cnt : Nat} {S : Int → Bool} (h : MS w b n S cnt) (k : Int) (h1 : -4611686018427387904 ≤ k) (h2 : k ≤ 4611686018427387904) :
    (Instr.lookup 149 (.map (some b)) (.int .i64 k) false).run Tryd.prog w = .ok (.bool (S k)) w := by
  obtain ⟨D, ho, hat, _⟩ := h
  obtain ⟨v, ps, hrun, hR⟩ := ho.lookup (int_keyed Tryd.underlying3) Tryd.underlying149 (zeroBool w) (plainElem_bool Tryd.underlying4 false) (keyOf_int_mk Tryd.underlying3 (wf_i64 h1 h2))
  rw [hat] at hR
  rw [hrun, plainElem_bool_inv Tryd.underlying4 hR]
theorem MS.len {w : World} {b n cnt : Nat} {S : Int → Bool} (h : MS w b n S cnt) (ty : TypeId) : (Builtin.len_ #[149] ty #[.map (some b)]).run Tryd.prog w = .ok (.int .i64 cnt) w := by
  obtain ⟨D, ho, _, _, hs⟩ := h
  rw [ho.len Tryd.underlying149 ty, hs]
theorem MS.put {w : World} {b n cnt : Nat} {S : Int → Bool} (h : MS w b n S cnt) (hn : n < 4611686018427387904) (k : Int) (h1 : -4611686018427387904 ≤ k) (h2 : k ≤ 4611686018427387904) :
    ∃ w', (Instr.mapUpdate 149 (.map (some b)) (.int .i64 k) (.bool true)).run Tryd.prog w = .ok () w' ∧ MS w' b (n + 1) (fun x => if x = k then true else S x) (if S k then cnt else cnt + 1) ∧ Ex1 b w w' := by
  obtain ⟨D, ho, hat, hhas, hs⟩ := h
  have hkey := keyOf_int_mk Tryd.underlying3 (wf_i64 h1 h2)
  obtain ⟨w', hrun, ho', hg⟩ := ho.update (int_keyed Tryd.underlying3) Tryd.underlying149 (by unfold maxLen; omega) hkey (plainElem_bool Tryd.underlying4 true)
  have hK : WideAt.IsKeyLit (.int .i64 k) := by simp [WideAt.IsKeyLit]
  have T := ho.tidy (int_keyed Tryd.underlying3)
  refine ⟨w', hrun, ⟨_, ho', fun x => ?_, fun x => ?_, ?_⟩, hg⟩
  · by_cases e : x = k
    · subst e; rw [atKey_put_same T.isMap hK]; simp
    · rw [atKey_put_other (by intro e2; injection e2 with _ e2; exact e e2), hat]; simp [e]
  · by_cases e : x = k
    · subst e; rw [has_put_same T.isMap hK]; simp
    · rw [has_put_other (by intro e2; injection e2 with _ e2; exact e e2), hhas]; simp [e]
  · rw [size_put T, hhas, hs]
theorem MS.del {w : World} {b n cnt : Nat} {S : Int → Bool} (h : MS w b n S cnt) (k : Int) (h1 : -4611686018427387904 ≤ k) (h2 : k ≤ 4611686018427387904) :
    ∃ w', (∀ ty, (Builtin.delete_ #[149, 3] ty #[.map (some b), .int .i64 k]).run Tryd.prog w = .ok (.tuple #[]) w') ∧ MS w' b n (fun x => if x = k then false else S x) (cnt - if S k then 1 else 0) ∧ Ex1 b w w' := by
  obtain ⟨D, ho, hat, hhas, hs⟩ := h
  have hkey := keyOf_int_mk Tryd.underlying3 (wf_i64 h1 h2)
  have T := ho.tidy (int_keyed Tryd.underlying3)
  obtain ⟨w', hrun, ho', hg⟩ := ho.drop (int_keyed Tryd.underlying3) Tryd.underlying149 hkey 0
  refine ⟨w', fun _ => hrun, ⟨_, ho', fun x => ?_, fun x => ?_, ?_⟩, hg.grown⟩
  · by_cases e : x = k
    · subst e; rw [atKey_del_same]; simp
    · rw [atKey_del_other (by intro e2; injection e2 with _ e2; exact e e2), hat]; simp [e]
  · by_cases e : x = k
    · subst e; rw [has_del_same]; simp
    · rw [has_del_other (by intro e2; injection e2 with _ e2; exact e e2), hhas]; simp [e]
  · have := size_del (k := .int .i64 k) T
    rw [hhas, hs] at this
    omega
end Go.Proofs.YtgblnkadmieflaaDoor
