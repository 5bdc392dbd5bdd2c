/- Greatest common divisors and powers modulo a polynomial, no program in sight. -/
import Derived.Test.YtfggacnkediolaaGreatDoorRing
namespace Go.Proofs.YtfggacnkediolaaGreatDoor
set_option maxRecDepth 100000
theorem Cong.len {p : Int} {f g : List Int} (h : Cong p (cf f) (cf g)) (hp : 0 < p) (hf : allEl p f = true) (hg : allEl p g = true) (tf : Tr f) (tg : Tr g) : f = g := h.list hp hf hg tf tg
/-! ### Powers -/
end Go.Proofs.YtfggacnkediolaaGreatDoor
