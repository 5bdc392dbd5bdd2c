/- RunSpace, on both sides, in the uniform words. -/
import Derived.Test.YtkpfmnconnopnaaDoorRun5
import Derived.Test.YtkpfmnconnopnaaDoorRunB
import Derived.Test.YtkpfmnconnopnaaDoorUSS
namespace Go.Proofs.YtkpfmnconnopnaaDoor
set_option maxRecDepth 100000
open Go Go.RowKit
def runU (p : Int) (s : SSp) (us : List (List Int)) : List (List Int) × Bool := runR p s.n s.m s.q s.A s.B s.C s.D us
theorem runU_tot (p : Int) (s : SSp) (us : List (List Int)) : totM (runU p s us).1 ≤ 1125899906842624 := by
  have := runR_tot p s.n s.m s.q s.A s.B s.C s.D us
  show tot (runR p s.n s.m s.q s.A s.B s.C s.D us).1 ≤ _
  omega
theorem spRunSpace_u (p : Int) (s : SSp) (v0 v1 v2 v3 : Value) (us : List (List Int)) (v : Value) (w : World) (h : RSSp w v0 v1 v2 v3 s) (k : RM w v us) :
    Calls Tryd.prog 12 #[.int .i64 p, .agg #[.int .i64 s.n, .int .i64 s.m, .int .i64 s.q, v0, v1, v2, v3], v] w fun e w' => ∃ y, e = .returned (.tuple #[y, .bool (runU p s us).2]) ∧ RM w' y (runU p s us).1 ∧ Ex w w' := by
  obtain ⟨⟨⟨A, a, rfl, ha⟩, _⟩, ⟨⟨B, b, rfl, hb⟩, _⟩, ⟨⟨C, c, rfl, hc⟩, _⟩, ⟨⟨D, d, rfl, hd⟩, _⟩⟩ := h
  obtain ⟨⟨U, e, rfl, hu⟩, _⟩ := k
  refine (spRunSpace_c p s.n s.m s.q A B C D U a b c d e s.A s.B s.C s.D us w ha hb hc hd hu).mono ?_
  rintro e w' ⟨Y, y, rfl, f, x⟩
  exact ⟨_, rfl, ⟨⟨Y, y, rfl, f.rd⟩, runU_tot p s us⟩, x⟩
theorem RunSpace_u (p : Int) (s : SSp) (v0 v1 v2 v3 : Value) (us : List (List Int)) (v : Value) (w : World) (h : RSSp w v0 v1 v2 v3 s) (k : RM w v us) (ht : Tb w) :
    Calls Tryd.prog 15 #[.int .i64 p, .agg #[.int .i64 s.n, .int .i64 s.m, .int .i64 s.q, v0, v1, v2, v3], v] w fun e w' => ∃ y, e = .returned (.tuple #[y, .bool (runU p s us).2]) ∧ OM2 w' w.heap.size w'.heap.size y (runU p s us).1 ∧ Ex w w' := by
  obtain ⟨⟨⟨A, a, rfl, ha⟩, _⟩, ⟨⟨B, b, rfl, hb⟩, _⟩, ⟨⟨C, c, rfl, hc⟩, _⟩, ⟨⟨D, d, rfl, hd⟩, _⟩⟩ := h
  obtain ⟨⟨U, e, rfl, hu⟩, _⟩ := k
  refine (RunSpace_c p s.n s.m s.q A B C D U a b c d e s.A s.B s.C s.D us w ha hb hc hd hu ht).mono ?_
  rintro e w' ⟨Y, y, rfl, f, x⟩
  exact ⟨_, rfl, ⟨⟨Y, y, rfl, f⟩, runU_tot p s us⟩, x⟩
end Go.Proofs.YtkpfmnconnopnaaDoor
