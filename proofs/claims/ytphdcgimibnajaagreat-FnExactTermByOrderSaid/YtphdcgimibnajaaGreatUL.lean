/- A slice of ints that a law bounds by its length alone; a reading that knows the room. -/
import Derived.Test.YtphdcgimibnajaaGreatAp02
import Derived.Test.YtphdcgimibnajaaGreatAp04
namespace Go.Proofs.YtphdcgimibnajaaGreat
set_option maxRecDepth 100000
open Go.ChangeShapes Go.WideShapes Go.ChangeAt Go.RowKit Go.Joins
theorem open_len {H : Type} {enc : TypeId × Value → H} {W : World} {base b0 : Nat} {sp : Nat → Bool} {hd : Bool} {r : Reach} {v : Value} {d : DataW H} {p : List MemPlace} (hv : Value.okWide Tryz.prog W r b0 23 v)
    (h : DataW.Trod enc Tryz.prog W base sp hd 23 v d p) : ∃ A n c, v = .slice A n c ∧ n ≤ 9223372036854775807 ∧ (n ≤ 1099511627776 → ∃ xs, xs.length = n ∧ Rd W A xs) := by
  obtain ⟨a0, len, cap, rfl⟩ := okWide_slice Tryz.underlying23 hv
  obtain ⟨fuel, hf⟩ := h
  exact open_t (v := .slice a0 len cap) hf
end Go.Proofs.YtphdcgimibnajaaGreat
