/- A slice of structs, opened: at each index its cells. -/
import Derived.Test.YtgblnkadmieflaaDoorOpen
import Derived.Deep.Fields
namespace Go.Proofs.YtgblnkadmieflaaDoor
set_option maxRecDepth 100000
open Go.ChangeShapes Go.WideShapes Go.ChangeAt Go.RowKit Go.Joins Go.Deep
/-- A slice of structs of k cells each, from its reading: at each index its cells. -/
theorem open_cells {H : Type} {enc : TypeId × Value → H} {P : Program} {W : World} {base fuel : Nat} {sp : Nat → Bool} {hd : Bool} {v : Value} {x : DataW H × List MemPlace} {t e : TypeId} (ht : P.underlying t = some (.slice e)) (hk : 0 < P.cellsOf e)
    (h : DataW.trod enc P W base sp hd fuel t [v] = some x) :
    ∃ (A : Option Addr) (n c : Nat), v = .slice A n c ∧ n ≤ 9223372036854775807 ∧ ∀ i, i < n → ∃ g off cs y m, A = some ⟨g, off, none⟩ ∧ cs.length = P.cellsOf e ∧ (∀ (q : Nat) (u : Value), cs[q]? = some u → W.cell? ⟨g, off + i * P.cellsOf e + q, none⟩ = some u) ∧ DataW.trod enc P W base sp hd m e cs = some y := by
  rcases DataW.trod_slice ht h with ⟨hcs, _⟩ | ⟨a, len, cap, elems, rest, n, _, hcs, _, _, hl, hm, hlen, hel, _, _⟩
  · injection hcs with hcs
    subst hcs
    exact ⟨none, 0, 0, rfl, by simp, fun i hi => by omega⟩
  · injection hcs with hcs
    subst hcs
    refine ⟨some a, len, cap, rfl, by unfold maxLen at hm; omega, fun i hi => ?_⟩
    have each : ∀ i, i < len → ∃ cs' y, cs'.length = P.cellsOf e ∧ (∀ (q : Nat) (u : Value), cs'[q]? = some u → W.cell? (a.add (i * P.cellsOf e + q)) = some u) ∧ DataW.trod enc P W base sp hd n e cs' = some y := fun i hi => by
      have h1 := hel i hi
      rw [List.getElem?_eq_getElem (by omega), Option.bind_eq_some_iff] at h1
      obtain ⟨cs', hc', hy⟩ := h1
      obtain ⟨_, hl1, hcell⟩ := World.cells?_some hc'
      refine ⟨cs', _, hl1, fun q u hq => ?_, hy⟩
      have hql : q < P.cellsOf e := by rw [← hl1]; exact (List.getElem?_eq_some_iff.1 hq).1
      have := hcell q hql
      rw [add_add] at this
      rw [this]; exact hq
    obtain ⟨cs', y, hl1, hcell', hy⟩ := each i hi
    obtain ⟨g, off, spot⟩ := a
    cases spot with
    | some s =>
      exfalso
      obtain ⟨c0, _, hl0, hcell0, _⟩ := each 0 (by omega)
      have hc0 := hcell0 0 _ (List.getElem?_eq_getElem (by omega : 0 < c0.length))
      have e0 : (⟨g, off, some s⟩ : Addr).add (0 * P.cellsOf e + 0) = ⟨g, off, some s⟩ := by simp [Addr.add]
      rw [e0] at hc0
      unfold World.cell? at hc0
      split at hc0 <;> simp at hc0
    | none =>
      refine ⟨g, off, cs', y, n, rfl, hl1, fun q u hq => ?_, hy⟩
      have := hcell' q u hq
      have e1 : ((⟨g, off, none⟩ : Addr).add (i * P.cellsOf e + q)) = ⟨g, off + i * P.cellsOf e + q, none⟩ := by unfold Addr.add; split <;> simp_all [Nat.add_assoc]
      rwa [e1] at this
theorem choose_list {α : Type} : ∀ (n : Nat) {Q : Nat → α → Prop}, (∀ i, i < n → ∃ x, Q i x) → ∃ xs : List α, xs.length = n ∧ ∀ i x, xs[i]? = some x → Q i x
  | 0, _, _ => ⟨[], rfl, fun i n h => by simp at h⟩
  | n + 1, Q, h => by
    obtain ⟨m, hm⟩ := h 0 (by omega)
    obtain ⟨ns, hl, q⟩ := choose_list n (Q := fun i => Q (i + 1)) (fun i hi => h (i + 1) (by omega))
    refine ⟨m :: ns, by simp [hl], fun i n hi => ?_⟩
    cases i with
    | zero => simp at hi; subst hi; exact hm
    | succ i => exact q i n (by simpa using hi)
/-- A struct of fields of one cell each, opened. -/
theorem open_agg_all {H : Type} {enc : TypeId × Value → H} {P : Program} {W : World} {base b0 : Nat} {sp : Nat → Bool} {hd : Bool} {r : Reach} {t : TypeId} {fs : Array Field} {v : Value} {d : DataW H} {p : List MemPlace}
    (hs : P.underlying t = some (.struct fs)) (hone : oneCellFields P fs = true) (hC : P.cellsOf t = fs.size) (hv : Value.okWide P W r b0 t v) (h : DataW.Trod enc P W base sp hd t v d p) :
    ∃ cs : Array Value, v = .agg cs ∧ cs.size = fs.size ∧ ∀ (i : Nat) (f : Field) (u : Value), fs[i]? = some f → cs[i]? = some u → ∃ y n, DataW.trod enc P W base sp hd n f.type [u] = some y := by
  obtain ⟨cs, rfl, hsz⟩ := okWide_struct hs hv
  obtain ⟨fuel, hf⟩ := h
  obtain ⟨xs, n, _, _, hl, hlen, hfld⟩ := DataW.trod_struct hs hf
  refine ⟨cs, rfl, hsz.trans hC, fun i f u hi hu => ?_⟩
  obtain ⟨o, k⟩ := hone_of hone i f hi
  have h1 := hfld i f hi
  rw [o, k] at h1
  have hlt : i < fs.size := (Array.getElem?_eq_some_iff.1 hi).1
  rw [List.getElem?_eq_getElem (by omega)] at h1
  have hc : (List.take 1 (List.drop i (Value.agg cs).cells.toList)) = [u] := by
    have hk : i < cs.toList.length := by simpa using (Array.getElem?_eq_some_iff.1 hu).1
    have hu' : cs.toList[i] = u := by simpa using (Array.getElem?_eq_some_iff.1 hu).2
    show List.take 1 (List.drop i cs.toList) = [u]
    rw [List.drop_eq_getElem_cons hk, hu']
    rfl
  rw [hc] at h1
  exact ⟨_, _, h1⟩
end Go.Proofs.YtgblnkadmieflaaDoor
