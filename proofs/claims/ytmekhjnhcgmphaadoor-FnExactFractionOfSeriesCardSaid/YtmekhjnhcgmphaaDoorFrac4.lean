/- Contracts: lists of fractions; causal fractions. -/
import Derived.Test.YtmekhjnhcgmphaaDoorFrac3
import Derived.Test.YtmekhjnhcgmphaaDoorLawFrac
namespace Go.Proofs.YtmekhjnhcgmphaaDoor
set_option maxRecDepth 100000
open Go Go.RowKit
/-- The slice that begins at A holds the fractions fs, two cells each. -/
def RdF (w : World) (A : Option Addr) (fs : List (List Int × List Int)) : Prop :=
  fs.length ≤ 549755813888 ∧ ∀ (j : Nat) (q : List Int × List Int), fs[j]? = some q → ∃ g off A' c B' d, A = some ⟨g, off, none⟩ ∧
    w.cell? ⟨g, off + j * 2, none⟩ = some (.slice A' q.1.length c) ∧ w.cell? ⟨g, off + j * 2 + 1, none⟩ = some (.slice B' q.2.length d) ∧ Rd w A' q.1 ∧ Rd w B' q.2
theorem RdF.ex {w w' : World} {A : Option Addr} {fs : List (List Int × List Int)} (h : RdF w A fs) (he : Ex w w') : RdF w' A fs :=
  ⟨h.1, fun j q hj => by
    obtain ⟨g, off, A', c, B', d, hA, h0, h1, r0, r1⟩ := h.2 j q hj
    exact ⟨g, off, A', c, B', d, hA, cell_ex he h0, cell_ex he h1, r0.ex he, r1.ex he⟩⟩
theorem RdF.one {w : World} {g : Nat} {A B : Option Addr} {c d : Nat} {n m : List Int} (h0 : w.cell? ⟨g, 0, none⟩ = some (.slice A n.length c)) (h1 : w.cell? ⟨g, 1, none⟩ = some (.slice B m.length d)) (r0 : Rd w A n) (r1 : Rd w B m) : RdF w (some ⟨g, 0, none⟩) [(n, m)] :=
  ⟨by simp, fun j q hj => by
    match j with
    | 0 => injection hj with hj; subst hj; exact ⟨g, 0, A, c, B, d, rfl, h0, h1, r0, r1⟩
    | j + 1 => simp at hj⟩
end Go.Proofs.YtmekhjnhcgmphaaDoor
