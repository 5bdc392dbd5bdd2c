/- Copies of state spaces, each matrix in an interval of blocks of its own. -/
import Derived.Test.YtphdcgimibnajaaGreatMarkSS
namespace Go.Proofs.YtphdcgimibnajaaGreat
set_option maxRecDepth 100000
open Go Go.RowKit
theorem FMI.ex1 {w w' : World} {lo hi k : Nat} {A : Option Addr} {rows : List (List Int)} (h : FMI w lo hi A rows) (he : Ex1 k w w') (hk : k < lo) : FMI w' lo hi A rows :=
  h.iv (a := k) (b := k + 1) (ExI.of_exo (A := some ⟨k, 0, none⟩) he (fun a e => by injection e with e; rw [← e]; exact Nat.le_refl _) (fun a e => by injection e with e; rw [← e]; exact Nat.lt_succ_self _)) (by omega)
theorem RdM.rows {w : World} {A : Option Addr} {rows : List (List Int)} (h : RdM w A rows) : ∀ r ∈ rows, r.length ≤ 1099511627776 := fun r hr => by
  obtain ⟨j, hj⟩ := List.mem_iff_getElem?.1 hr
  obtain ⟨_, _, _, _, _, _, q⟩ := h.2 j r hj
  exact q.len
/-- u is a copy of rows in the blocks from lo on and below hi. -/
def CI (w : World) (lo hi : Nat) (u : Value) (rows : List (List Int)) : Prop := ∃ g, u = .slice (some ⟨g, 0, none⟩) rows.length rows.length ∧ FMI w lo hi (some ⟨g, 0, none⟩) rows
theorem CI.ex {w w' : World} {lo hi : Nat} {u : Value} {rows : List (List Int)} (h : CI w lo hi u rows) (he : Ex w w') : CI w' lo hi u rows := by
  obtain ⟨g, e, f⟩ := h
  exact ⟨g, e, f.ex he⟩
theorem CI.ex1 {w w' : World} {lo hi k : Nat} {u : Value} {rows : List (List Int)} (h : CI w lo hi u rows) (he : Ex1 k w w') (hk : k < lo) : CI w' lo hi u rows := by
  obtain ⟨g, e, f⟩ := h
  exact ⟨g, e, f.ex1 he hk⟩
end Go.Proofs.YtphdcgimibnajaaGreat
