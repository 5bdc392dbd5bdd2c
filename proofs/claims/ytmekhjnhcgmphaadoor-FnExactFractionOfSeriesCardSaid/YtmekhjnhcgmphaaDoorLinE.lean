/- Linear algebra: sums; more unknowns than equations. Plain lemmas of mine. -/
import Derived.Test.YtmekhjnhcgmphaaDoorLinC
namespace Go.Proofs.YtmekhjnhcgmphaaDoor
set_option maxRecDepth 100000
variable {K : Type}
def Fld.sumN (F : Fld K) : Nat → (Nat → K) → K
  | 0, _ => F.z
  | n + 1, f => F.add (Fld.sumN F n f) (f n)
theorem Fld.sumN_congr (F : Fld K) {f g : Nat → K} : ∀ {n : Nat}, (∀ j, j < n → f j = g j) → F.sumN n f = F.sumN n g
  | 0, _ => rfl
  | n + 1, h => by
    rw [Fld.sumN, Fld.sumN, F.sumN_congr (n := n) fun j hj => h j (by omega), h n (by omega)]
theorem Fld.sumN_zero (F : Fld K) {f : Nat → K} : ∀ {n : Nat}, (∀ j, j < n → f j = F.z) → F.sumN n f = F.z
  | 0, _ => rfl
  | n + 1, h => by
    rw [Fld.sumN, F.sumN_zero (n := n) fun j hj => h j (by omega), h n (by omega), F.z_add]
theorem Fld.sumN_add (F : Fld K) (f g : Nat → K) : ∀ n : Nat, F.sumN n (fun j => F.add (f j) (g j)) = F.add (F.sumN n f) (F.sumN n g)
  | 0 => (F.z_add F.z).symm
  | n + 1 => by
    rw [Fld.sumN, F.sumN_add f g n, F.swap4]; rfl
theorem Fld.sumN_mul (F : Fld K) (c : K) (f : Nat → K) : ∀ n : Nat, F.sumN n (fun j => F.mul c (f j)) = F.mul c (F.sumN n f)
  | 0 => (F.mul_z c).symm
  | n + 1 => by
    rw [Fld.sumN, F.sumN_mul c f n, ← F.distrib]; rfl
end Go.Proofs.YtmekhjnhcgmphaaDoor
