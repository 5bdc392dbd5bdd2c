/- The power series of a fraction: the reference's side; SeriesOf. -/
import Derived.Test.YtkpfmnconnopnaaDoorSer2
namespace Go.Proofs.YtkpfmnconnopnaaDoor
set_option maxRecDepth 100000
open Go Go.RowKit
/-- A list that the call makes, one number longer. -/
theorem al_push (w : World) (B : Nat) (v : Value) (ys : List Int) (x : Int) (hv : AL w B v ys) (hB : B ≤ w.heap.size) (hl : ys.length + 1 ≤ 1099511627776) :
    ∃ v' w', (Builtin.append_ #[37, 37] 37 #[v, .slice (some ⟨w.heap.size, 0, none⟩) 1 1]).run Tryd.prog (w.alloc (iObj [x])) = .ok v' w' ∧ AL w' B v' (ys ++ [x]) ∧ ∀ b, Ex b w → b.heap.size ≤ B → Ex b w' := by
  have ha := (Ex.refl w).alloc (iObj [x])
  obtain ⟨v', w', h1, h2, h3, _⟩ := run_append_ints 37 37 Tryd.underlying37 (w.alloc (iObj [x])) B v ys (hv.ex ha) (Nat.le_trans hB ha.size) (some ⟨w.heap.size, 0, none⟩) 1 [x] ((Blk.new w [x]).rd (by simp)) (by simpa using hl)
  exact ⟨v', w', h1, h2, fun b hb hbB => (hb.trans ha).exo h3 (fun g e => by have := (hv.lt g e).1; omega)⟩
end Go.Proofs.YtkpfmnconnopnaaDoor
