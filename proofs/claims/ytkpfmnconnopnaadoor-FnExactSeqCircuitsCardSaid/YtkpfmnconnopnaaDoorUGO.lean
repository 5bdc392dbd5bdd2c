/- Arguments opened, in the uniform words: lists of gates. -/
import Derived.Test.YtkpfmnconnopnaaDoorUO
import Derived.Test.YtkpfmnconnopnaaDoorUG
import Derived.Test.YtkpfmnconnopnaaDoorOpenM
namespace Go.Proofs.YtkpfmnconnopnaaDoor
set_option maxRecDepth 100000
open Go.ChangeShapes Go.WideShapes Go.ChangeAt Go.RowKit Go.Joins Go.Deep
/-- A slice of structs of k cells each, from its reading: at each index its cells. -/
theorem open_cells {H : Type} {enc : TypeId × Value → H} {P : Program} {W : World} {base fuel : Nat} {sp : Nat → Bool} {hd : Bool} {v : Value} {x : DataW H × List MemPlace} {t e : TypeId} (ht : P.underlying t = some (.slice e)) (hk : 0 < P.cellsOf e)
    (h : DataW.trod enc P W base sp hd fuel t [v] = some x) :
    ∃ (A : Option Addr) (n c : Nat), v = .slice A n c ∧ n ≤ 9223372036854775807 ∧ ∀ i, i < n → ∃ g off cs y m, A = some ⟨g, off, none⟩ ∧ cs.length = P.cellsOf e ∧ (∀ (q : Nat) (u : Value), cs[q]? = some u → W.cell? ⟨g, off + i * P.cellsOf e + q, none⟩ = some u) ∧ DataW.trod enc P W base sp hd m e cs = some y := by
  rcases DataW.trod_slice ht h with ⟨hcs, _⟩ | ⟨a, len, cap, elems, rest, n, _, hcs, _, _, hl, hm, hlen, hel, _, _⟩
  · injection hcs with hcs
    subst hcs
    exact ⟨none, 0, 0, rfl, by simp, fun i hi => by omega⟩
  · injection hcs with hcs
    subst hcs
    refine ⟨some a, len, cap, rfl, by unfold maxLen at hm; omega, fun i hi => ?_⟩
    have each : ∀ i, i < len → ∃ cs' y, cs'.length = P.cellsOf e ∧ (∀ (q : Nat) (u : Value), cs'[q]? = some u → W.cell? (a.add (i * P.cellsOf e + q)) = some u) ∧ DataW.trod enc P W base sp hd n e cs' = some y := fun i hi => by
      have h1 := hel i hi
      rw [List.getElem?_eq_getElem (by omega), Option.bind_eq_some_iff] at h1
      obtain ⟨cs', hc', hy⟩ := h1
      obtain ⟨_, hl1, hcell⟩ := World.cells?_some hc'
      refine ⟨cs', _, hl1, fun q u hq => ?_, hy⟩
      have hql : q < P.cellsOf e := by rw [← hl1]; exact (List.getElem?_eq_some_iff.1 hq).1
      have := hcell q hql
      rw [add_add] at this
      rw [this]; exact hq
    obtain ⟨cs', y, hl1, hcell', hy⟩ := each i hi
    obtain ⟨g, off, spot⟩ := a
    cases spot with
    | some s =>
      exfalso
      obtain ⟨c0, _, hl0, hcell0, _⟩ := each 0 (by omega)
      have hc0 := hcell0 0 _ (List.getElem?_eq_getElem (by omega : 0 < c0.length))
      have e0 : (⟨g, off, some s⟩ : Addr).add (0 * P.cellsOf e + 0) = ⟨g, off, some s⟩ := by simp [Addr.add]
      rw [e0] at hc0
      unfold World.cell? at hc0
      split at hc0 <;> simp at hc0
    | none =>
      refine ⟨g, off, cs', y, n, rfl, hl1, fun q u hq => ?_, hy⟩
      have := hcell' q u hq
      have e1 : ((⟨g, off, none⟩ : Addr).add (i * P.cellsOf e + q)) = ⟨g, off + i * P.cellsOf e + q, none⟩ := by unfold Addr.add; split <;> simp_all [Nat.add_assoc]
      rwa [e1] at this
theorem choose_list {α : Type} : ∀ (n : Nat) {Q : Nat → α → Prop}, (∀ i, i < n → ∃ x, Q i x) → ∃ xs : List α, xs.length = n ∧ ∀ i x, xs[i]? = some x → Q i x
  | 0, _, _ => ⟨[], rfl, fun i n h => by simp at h⟩
  | n + 1, Q, h => by
    obtain ⟨m, hm⟩ := h 0 (by omega)
    obtain ⟨ns, hl, q⟩ := choose_list n (Q := fun i => Q (i + 1)) (fun i hi => h (i + 1) (by omega))
    refine ⟨m :: ns, by simp [hl], fun i n hi => ?_⟩
    cases i with
    | zero => simp at hi; subst hi; exact hm
    | succ i => exact q i n (by simpa using hi)
theorem fopen_GateS {H : Type} {enc : TypeId × Value → H} {W : World} {base fuel : Nat} {sp : Nat → Bool} {hd : Bool} {v : Value} {x : DataW H × List MemPlace}
    (h : DataW.trod enc Tryd.prog W base sp hd fuel 36 [v] = some x) : ∃ z : Int, 0 ≤ z ∧ QS 54 W v z ∧ (z ≤ 1048576 → ∃ x : List Gt, RG W v x) := by
  have hc4 : Tryd.prog.cellsOf 111 = 4 := by kernel_rfl
  obtain ⟨A, n, c, rfl, hn, k⟩ := open_cells Tryd.underlying36 (by rw [hc4]; decide) h
  refine ⟨n, Int.natCast_nonneg _, szGateS_q A n c W hn, fun hz => ?_⟩
  obtain ⟨xs, hx, hq⟩ := choose_list (α := Gt) n (Q := fun i x => ∃ g off, A = some ⟨g, off, none⟩ ∧ ∀ (q : Nat) (u : Value), (gtC x)[q]? = some u → W.cell? ⟨g, off + i * 4 + q, none⟩ = some u) (fun i hi => by
    obtain ⟨g, off, cs, y, m, hA, hl, hcell, hy⟩ := k i hi
    rw [hc4] at hl hcell
    obtain ⟨xs, n', _, _, hl', hlen, hfld⟩ := DataW.trod_struct Tryd.underlying111 hy
    match cs, hl with
    | [u0, u1, u2, u3], _ =>
      have f0 := hfld 0 _ rfl
      have f1 := hfld 1 _ rfl
      have f2 := hfld 2 _ rfl
      have f3 := hfld 3 _ rfl
      rw [List.getElem?_eq_getElem (by rw [hlen]; decide)] at f0 f1 f2 f3
      obtain ⟨a0, e0, _, _⟩ := DataW.trod_int (k := .i64) Tryd.underlying3 f0
      obtain ⟨a1, e1, _, _⟩ := DataW.trod_int (k := .i64) Tryd.underlying3 f1
      obtain ⟨a2, e2, _, _⟩ := DataW.trod_int (k := .i64) Tryd.underlying3 f2
      obtain ⟨a3, e3, _, _⟩ := DataW.trod_int (k := .i64) Tryd.underlying3 f3
      have h0 : u0 = .int .i64 a0 := by simpa [cellsInt] using e0
      have h1 : u1 = .int .i64 a1 := by simpa [cellsInt] using e1
      have h2 : u2 = .int .i64 a2 := by simpa [cellsInt] using e2
      have h3 : u3 = .int .i64 a3 := by simpa [cellsInt] using e3
      subst h0 h1 h2 h3
      exact ⟨⟨a0, a1, a2, a3⟩, g, off, hA, hcell⟩)
  subst hx
  refine ⟨xs, ⟨A, c, rfl, by omega, fun j x hj => ?_⟩, ?_⟩
  · obtain ⟨g, off, hA, hcell⟩ := hq j x hj
    exact ⟨g, off, gtC x, hA, hcell, rfl⟩
  · have : ∀ xs : List Gt, totS EG xs = 4 * (xs.length : Int) := fun xs => by
      induction xs with
      | nil => rfl
      | cons y ys ih => rw [totS_cons, ih, List.length_cons]; show 4 + _ = _; push_cast; omega
    rw [this]; omega
end Go.Proofs.YtkpfmnconnopnaaDoor
