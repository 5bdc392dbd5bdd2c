/- The laws' helpers on fractions: marks, copies, in intervals of blocks. -/
import Derived.Test.YtmekhjnhcgmphaaDoorLawFrac
import Derived.Test.YtmekhjnhcgmphaaDoorFrac5
namespace Go.Proofs.YtmekhjnhcgmphaaDoor
set_option maxRecDepth 100000
open Go Go.RowKit
set_option maxHeartbeats 1000000 in
theorem markFraction_i (a b : Nat) (A B : Option Addr) (c d : Nat) (n m : List Int) (k : Int) (w : World) (h1 : FI w a b A c n) (h2 : FI w a b B d m) (ap : Apart A B) (hb : b ≤ w.heap.size) (hk0 : 0 ≤ k) (hk : k + (n.length : Int) ≤ 4611686018427387904) :
    Calls Tryd.prog 20 #[.agg #[.slice A n.length c, .slice B m.length d], .int .i64 k] w fun e w' => e = .returned (.int .i64 (k + (n.length : Int) + (m.length : Int))) ∧ FI w' a b A c (mk k n.length) ∧ FI w' a b B d (mk (k + (n.length : Int)) m.length) ∧ ExI a b w w' := by
  have x0 := (Ex.refl w).alloc (.cells #[.slice A n.length c, .slice B m.length d] 40)
  have v0 := VB.new w 40 #[.slice A n.length c, .slice B m.length d]
  go_enter Tryd.func20, Tryd.ntmps20
  go_wp2_with fail
  generalize w.alloc (.cells #[.slice A n.length c, .slice B m.length d] 40) = W at *
  have f1 := h1.ex x0
  have f2 := h2.ex x0
  refine (markIntS_c a A c n k W f1.fr hk0 (by omega)).mono ?_
  rintro e w1 ⟨rfl, m1, y1⟩
  have g2 := f2.exo y1 ap.symm
  have i1 : ExI a b W w1 := ExI.of_exo y1 h1.fr.hi h1.lo
  have v1 := v0.iv i1 (.inr hb)
  have q1 := v1.cell 1 (v := .slice B m.length d) rfl
  go_wp2_with fail
  refine (markIntS_c a B d m (k + (n.length : Int)) w1 g2.fr (by omega) (by omega)).mono ?_
  rintro e w2 ⟨rfl, m2, y2⟩
  go_wp2
  go_ret
  have i2 : ExI a b w1 w2 := ExI.of_exo y2 h2.fr.hi h2.lo
  have m1' : FI w1 a b A c (mk k n.length) := ⟨m1, h1.lo⟩
  exact ⟨rfl, m1'.exo y2 ap, ⟨m2, h2.lo⟩, ((ExI.of_ex x0).trans i1).trans i2⟩
set_option maxHeartbeats 1000000 in
theorem heldFraction_c (A B : Option Addr) (c d n m : Nat) (k : Int) (w : World) (h1 : Rd w A (mk k n)) (h2 : Rd w B (mk (k + (n : Int)) m)) (hk0 : 0 ≤ k) (hk : k + (n : Int) ≤ 4611686018427387904) :
    Calls Tryd.prog 21 #[.agg #[.slice A n c, .slice B m d], .int .i64 k] w fun e w' => e = .returned (.int .i64 (k + (n : Int) + (m : Int))) ∧ Ex w w' := by
  have x0 := (Ex.refl w).alloc (.cells #[.slice A n c, .slice B m d] 40)
  have l2 := h2.len
  rw [mk_len] at l2
  go_enter Tryd.func21, Tryd.ntmps21
  go_wp2_with fail
  refine (heldIntS_c A c k n _ (h1.ex x0) hk0 (by omega)).mono ?_
  rintro e w1 ⟨rfl, rfl⟩
  go_wp2_with fail
  refine (heldIntS_c B d (k + (n : Int)) m _ (h2.ex x0) (by omega) (by omega)).mono ?_
  rintro e w1 ⟨rfl, rfl⟩
  go_wp2
  go_ret
  exact ⟨rfl, x0⟩
end Go.Proofs.YtmekhjnhcgmphaaDoor
