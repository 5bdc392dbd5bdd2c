/- The field of the elements 0 .. p - 1. Plain lemmas of mine. -/
import Derived.Test.YtmekhjnhcgmphaaDoorLinC
import Derived.Test.YtmekhjnhcgmphaaDoorNum
namespace Go.Proofs.YtmekhjnhcgmphaaDoor
set_option maxRecDepth 100000
def zpOps (p : Int) : Ops Int := ⟨fun a b => (a + b) % p, fun a b => a * b % p, fun a => (-a) % p, fun a => invM p a, 0, 1, fun a => decide (a = 0)⟩
theorem el_mod {p : Int} (hp : 0 < p) (a : Int) : elB p (a % p) = true := by
  simp [elB]
  exact ⟨Int.emod_nonneg _ (by omega), Int.emod_lt_of_pos _ hp⟩
theorem el_lt {p a : Int} (h : elB p a = true) : 0 ≤ a ∧ a < p := by simpa [elB] using h
theorem mod_el {p a : Int} (h : elB p a = true) : a % p = a := Int.emod_eq_of_lt (el_lt h).1 (el_lt h).2
def zpFld (p : Int) (hF : fieldB p = true) : Fld {a : Int // elB p a = true} where
  add x y := ⟨(x.1 + y.1) % p, el_mod (by have := fieldB_lo hF; omega) _⟩
  mul x y := ⟨x.1 * y.1 % p, el_mod (by have := fieldB_lo hF; omega) _⟩
  neg x := ⟨(-x.1) % p, el_mod (by have := fieldB_lo hF; omega) _⟩
  inv x := ⟨invM p x.1, by have := invM_bd (p := p) x.1 (fieldB_lo hF); simp [elB]; exact this⟩
  z := ⟨0, by have := fieldB_lo hF; simp [elB]; omega⟩
  o := ⟨1, by have := fieldB_lo hF; simp [elB]; omega⟩
  isz x := decide (x.1 = 0)
  add_comm x y := Subtype.ext (by show (x.1 + y.1) % p = (y.1 + x.1) % p; rw [Int.add_comm])
  add_assoc x y z := Subtype.ext (by
    show ((x.1 + y.1) % p + z.1) % p = (x.1 + (y.1 + z.1) % p) % p
    rw [Int.emod_add_emod, Int.add_emod_emod, Int.add_assoc])
  z_add x := Subtype.ext (by show (0 + x.1) % p = x.1; rw [Int.zero_add]; exact mod_el x.2)
  neg_add x := Subtype.ext (by
    show ((-x.1) % p + x.1) % p = 0
    rw [Int.emod_add_emod, Int.add_left_neg]; rfl)
  mul_comm x y := Subtype.ext (by show x.1 * y.1 % p = y.1 * x.1 % p; rw [Int.mul_comm])
  mul_assoc x y z := Subtype.ext (by
    show (x.1 * y.1 % p) * z.1 % p = x.1 * (y.1 * z.1 % p) % p
    rw [Int.mul_emod, Int.emod_emod, ← Int.mul_emod, Int.mul_emod x.1 (y.1 * z.1 % p), Int.emod_emod, ← Int.mul_emod, Int.mul_assoc])
  o_mul x := Subtype.ext (by show 1 * x.1 % p = x.1; rw [Int.one_mul]; exact mod_el x.2)
  distrib x y z := Subtype.ext (by
    show x.1 * ((y.1 + z.1) % p) % p = (x.1 * y.1 % p + x.1 * z.1 % p) % p
    rw [Int.mul_emod, Int.emod_emod, ← Int.mul_emod, Int.emod_add_emod, Int.add_emod_emod, Int.mul_add])
  inv_mul x hx := Subtype.ext (by
    show invM p x.1 * x.1 % p = 1
    have h := el_lt x.2
    have h0 : x.1 ≠ 0 := fun e => hx (Subtype.ext e)
    rw [Int.mul_comm]
    exact inv_mul hF (by omega) h.2)
  o_ne e := by
    have := congrArg Subtype.val e
    exact absurd this (by show ¬ (1 : Int) = 0; omega)
  isz_iff x := by
    rw [decide_eq_true_eq]
    exact ⟨fun e => Subtype.ext e, fun e => by rw [e]⟩
theorem zpHom (p : Int) (hF : fieldB p = true) : Hom (zpFld p hF).toOps (zpOps p) Subtype.val where
  add _ _ := rfl
  mul _ _ := rfl
  neg _ := rfl
  inv _ _ := rfl
  z := rfl
  o := rfl
  isz _ := rfl
end Go.Proofs.YtmekhjnhcgmphaaDoor
