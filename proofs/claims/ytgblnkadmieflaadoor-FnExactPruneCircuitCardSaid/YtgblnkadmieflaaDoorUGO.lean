/- Arguments opened, in the uniform words: lists of gates. -/
import Derived.Test.YtgblnkadmieflaaDoorUO
import Derived.Test.YtgblnkadmieflaaDoorUG
import Derived.Test.YtgblnkadmieflaaDoorUCells
namespace Go.Proofs.YtgblnkadmieflaaDoor
set_option maxRecDepth 100000
open Go.ChangeShapes Go.WideShapes Go.ChangeAt Go.RowKit Go.Joins Go.Deep
theorem fopen_GateS {H : Type} {enc : TypeId × Value → H} {W : World} {base fuel : Nat} {sp : Nat → Bool} {hd : Bool} {v : Value} {x : DataW H × List MemPlace}
    (h : DataW.trod enc Tryd.prog W base sp hd fuel 22 [v] = some x) : ∃ z : Int, 0 ≤ z ∧ QS 37 W v z ∧ (z ≤ 1048576 → ∃ x : List Gt, RG W v x) := by
  have hc4 : Tryd.prog.cellsOf 113 = 4 := by kernel_rfl
  obtain ⟨A, n, c, rfl, hn, k⟩ := open_cells Tryd.underlying22 (by rw [hc4]; decide) h
  refine ⟨n, Int.natCast_nonneg _, szGateS_q A n c W hn, fun hz => ?_⟩
  obtain ⟨xs, hx, hq⟩ := choose_list (α := Gt) n (Q := fun i x => ∃ g off, A = some ⟨g, off, none⟩ ∧ ∀ (q : Nat) (u : Value), (gtC x)[q]? = some u → W.cell? ⟨g, off + i * 4 + q, none⟩ = some u) (fun i hi => by
    obtain ⟨g, off, cs, y, m, hA, hl, hcell, hy⟩ := k i hi
    rw [hc4] at hl hcell
    obtain ⟨xs, n', _, _, hl', hlen, hfld⟩ := DataW.trod_struct Tryd.underlying113 hy
    match cs, hl with
    | [u0, u1, u2, u3], _ =>
      have f0 := hfld 0 _ rfl
      have f1 := hfld 1 _ rfl
      have f2 := hfld 2 _ rfl
      have f3 := hfld 3 _ rfl
      rw [List.getElem?_eq_getElem (by rw [hlen]; decide)] at f0 f1 f2 f3
      obtain ⟨a0, e0, _, _⟩ := DataW.trod_int (k := .i64) Tryd.underlying3 f0
      obtain ⟨a1, e1, _, _⟩ := DataW.trod_int (k := .i64) Tryd.underlying3 f1
      obtain ⟨a2, e2, _, _⟩ := DataW.trod_int (k := .i64) Tryd.underlying3 f2
      obtain ⟨a3, e3, _, _⟩ := DataW.trod_int (k := .i64) Tryd.underlying3 f3
      have h0 : u0 = .int .i64 a0 := by simpa [cellsInt] using e0
      have h1 : u1 = .int .i64 a1 := by simpa [cellsInt] using e1
      have h2 : u2 = .int .i64 a2 := by simpa [cellsInt] using e2
      have h3 : u3 = .int .i64 a3 := by simpa [cellsInt] using e3
      subst h0 h1 h2 h3
      exact ⟨⟨a0, a1, a2, a3⟩, g, off, hA, hcell⟩)
  subst hx
  refine ⟨xs, ⟨A, c, rfl, by omega, fun j x hj => ?_⟩, ?_⟩
  · obtain ⟨g, off, hA, hcell⟩ := hq j x hj
    exact ⟨g, off, gtC x, hA, hcell, rfl⟩
  · have : ∀ xs : List Gt, totS EG xs = 4 * (xs.length : Int) := fun xs => by
      induction xs with
      | nil => rfl
      | cons y ys ih => rw [totS_cons, ih, List.length_cons]; show 4 + _ = _; push_cast; omega
    rw [this]; omega
end Go.Proofs.YtgblnkadmieflaaDoor
