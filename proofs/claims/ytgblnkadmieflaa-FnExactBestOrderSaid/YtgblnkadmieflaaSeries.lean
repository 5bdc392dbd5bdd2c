/- Convolution of series: the contracts of both sides. -/
import Derived.Test.YtgblnkadmieflaaField
import Derived.StillTailTactics
import Derived.BigRegion
namespace Go.Proofs.Ytgblnkadmieflaa
set_option maxRecDepth 100000
open Go Go.RowKit

/-- The sum of a[i] b[k - i] for i below j. -/
def cv (a b : List Int) (k : Nat) : Nat → Int
  | 0 => 0
  | j + 1 => cv a b k j + a[j]?.getD 0 * b[k - j]?.getD 0
theorem cv_bd {p : Int} {a b : List Int} (ha : allEl p a = true) (hb : allEl p b = true) (hp : p ≤ 97) (k j : Nat) : 0 ≤ cv a b k j ∧ cv a b k j ≤ 9216 * j := by
  induction j with
  | zero => simp [cv]
  | succ j ih =>
    have := mul_bd (allEl_bd ha hp j) (allEl_bd hb hp (k - j))
    simp only [cv]
    omega
/-- The convolution's first n coefficients, of which k are done. -/
def cvTo (p : Int) (a b : List Int) (n k : Nat) : List Int := (List.range n).map fun j => if j < k then cv a b j (j + 1) % p else 0
def cvL (p : Int) (a b : List Int) (n : Nat) : List Int := (List.range n).map fun j => cv a b j (j + 1) % p
theorem cvTo_len (p : Int) (a b : List Int) (n k : Nat) : (cvTo p a b n k).length = n := by simp [cvTo]
theorem cvTo_zero (p : Int) (a b : List Int) (n : Nat) : cvTo p a b n 0 = List.replicate n 0 := by
  apply List.ext_getElem?; intro i; simp [cvTo, List.getElem?_replicate]; grind
theorem cvTo_all (p : Int) (a b : List Int) (n : Nat) : cvTo p a b n n = cvL p a b n := by
  apply List.ext_getElem?; intro i; simp [cvTo, cvL]; grind
theorem cvTo_at (p : Int) (a b : List Int) (n k : Nat) (h : k < n) : (cvTo p a b n k)[k]? = some 0 := by simp [cvTo, h]
theorem cvTo_step (p : Int) (a b : List Int) (n k : Nat) : (cvTo p a b n k).set k (cv a b k (k + 1) % p) = cvTo p a b n (k + 1) := by
  apply List.ext_getElem?; intro i; simp only [cvTo, List.getElem?_set, List.getElem?_map, List.length_map, List.length_range]; grind
theorem cvL_len (p : Int) (a b : List Int) (n : Nat) : (cvL p a b n).length = n := by simp [cvL]
/-- A fresh list of ints and a Bool. -/
def LB (w : World) (r : List Int × Bool) (e : Ending) (w' : World) : Prop :=
  ∃ A c, e = .returned (.tuple #[.slice A r.1.length c, .bool r.2]) ∧ Fr w' w.heap.size A c r.1 ∧ Ex w w'
theorem LB.mk_ {w w' : World} {r : List Int × Bool} {A : Option Addr} {c n : Nat} {b : Bool} {e : Ending} (he : e = .returned (.tuple #[.slice A n c, .bool b])) (hn : n = r.1.length) (hb : b = r.2) (hf : Fr w' w.heap.size A c r.1) (hx : Ex w w') : LB w r e w' := by
  subst hn hb he
  exact ⟨A, c, rfl, hf, hx⟩
theorem LB.nil_ {w w' : World} {r : List Int × Bool} {e : Ending} (he : e = .returned (.tuple #[.slice none 0 0, .bool false])) (hr : r = ([], false)) (hx : Ex w w') : LB w r e w' := by
  subst hr
  exact LB.mk_ he rfl rfl (Fr.nil _ _ _) hx
end Go.Proofs.Ytgblnkadmieflaa
