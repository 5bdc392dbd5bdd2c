/- Contracts of the laws' own helpers on fractions. -/
import Derived.Test.YtmekhjnhcgmphaaDoorFrac3
namespace Go.Proofs.YtmekhjnhcgmphaaDoor
set_option maxRecDepth 100000
open Go Go.RowKit
set_option maxHeartbeats 400000 in
theorem eqFraction_c (A B A' B' : Option Addr) (c d c' d' : Nat) (n m : List Int) (w : World) (h1 : Rd w A n) (h2 : Rd w B m) (h3 : Rd w A' n) (h4 : Rd w B' m) :
    Calls Tryd.prog 17 #[.agg #[.slice A n.length c, .slice B m.length d], .agg #[.slice A' n.length c', .slice B' m.length d']] w fun e w' => e = .returned (.bool true) ∧ Ex w w' := by
  have x0 : ∀ (a b : Obj), Ex w ((w.alloc a).alloc b) := fun a b => ((Ex.refl w).alloc a).alloc b
  go_enter Tryd.func17, Tryd.ntmps17
  go_wp2_with fail
  refine (eqIntS_c A A' c c' n _ (h1.ex (x0 _ _)) (h3.ex (x0 _ _))).mono ?_
  rintro e w1 ⟨rfl, x1⟩
  have c0 := cell_ex x1 (g := w.heap.size) (o := 1) (v := .slice B m.length d) (box2a _ _ _ _ _).2
  have c1 := cell_ex x1 (g := w.heap.size + 1) (o := 1) (v := .slice B' m.length d') (box2b _ _ _ _ _).2
  have xx := (x0 _ _).trans x1
  clear x0 x1
  go_wp2_with fail
  refine (eqIntS_c B B' d d' m _ (h2.ex xx) (h4.ex xx)).mono ?_
  rintro e w2 ⟨rfl, x2⟩
  go_wp2
  go_ret
  exact ⟨rfl, xx.trans x2⟩
end Go.Proofs.YtmekhjnhcgmphaaDoor
