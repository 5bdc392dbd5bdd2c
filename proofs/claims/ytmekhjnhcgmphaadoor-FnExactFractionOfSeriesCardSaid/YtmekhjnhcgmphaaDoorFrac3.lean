/- Contracts: the reference's valid fractions; the laws' helpers on fractions. -/
import Derived.Test.YtmekhjnhcgmphaaDoorFrac2
namespace Go.Proofs.YtmekhjnhcgmphaaDoor
set_option maxRecDepth 100000
open Go Go.RowKit
set_option maxHeartbeats 400000 in
theorem frSize_c (A : Option Addr) (c n : Nat) (w : World) (hn : n ≤ 1099511627776) : Calls Tryd.prog 85 #[.slice A n c] w fun e w' => e = .returned (.bool (decide (n ≤ 21))) ∧ w = w' := by
  go_enter Tryd.func85, Tryd.ntmps85
  go_wp2
  go_ret
  exact ⟨ret_bool (by simp; omega), rfl⟩
end Go.Proofs.YtmekhjnhcgmphaaDoor
