/- The converse of a rational relation: the reference. Printed by a program of mine. The converse of a rational relation: the program; ConverseRational on both sides. Printed by a program of mine. RatFunctionOf: the reference. ConverseRational on both sides, in the uniform words. Printed by a program of mine. -/
import Derived.Test.YtpeogfapnofeoaaGreatDoorPkS
import Derived.Test.YtpeogfapnofeoaaGreatDoorPkR
import Derived.Test.YtpeogfapnofeoaaGreatDoorRfB
namespace Go.Proofs.YtpeogfapnofeoaaGreatDoor
set_option maxRecDepth 100000
open Go Go.RowKit
theorem GE.rowsN {W0 w : World} {S : Nat → Prop} {B H : Nat} {v : Value} {xs : List (List Fra)} (h : GE (ELQ W0) 34 w B H v xs) (hl : xs.length ≤ 1099511627776) (he : Ex W0 w) (hS : ∀ k, S k → W0.heap.size ≤ k ∧ k < B) : ∃ A c, v = .slice A xs.length c ∧ RowsN S w A xs := by
  by_cases hv : v = .slice none 0 0
  · subst hv
    have := h.len0
    subst this
    exact ⟨none, 0, rfl, by simp, fun j x hj => by simp at hj⟩
  · obtain ⟨g, c, rfl, hgc, _⟩ := h.form hv
    obtain ⟨cur, al, bl, _, hB, hH, hh, h1, h2⟩ := h.at_
    refine ⟨_, c, rfl, hl, fun j r hj => ?_⟩
    obtain ⟨u, k1, ⟨A, c2, k2, k3⟩, k4, _⟩ := h1 j r hj
    subst k2
    refine ⟨g, 0, A, c2, rfl, ?_, fun w2 hw2 => k3 w2 (he.sx hw2 fun i hi => (hS i hi).1) fun k q1 _ q3 => hw2.block k q3 fun e => by have := hS k e; omega⟩
    have := k1 0 _ rfl
    rw [show (ELQ W0).k = 1 from rfl, Nat.mul_one, Nat.add_zero] at this
    rw [Nat.zero_add]
    exact cell_of_cur hh this
end Go.Proofs.YtpeogfapnofeoaaGreatDoor
namespace Go.Proofs.YtpeogfapnofeoaaGreatDoor
set_option maxRecDepth 100000
open Go Go.RowKit
end Go.Proofs.YtpeogfapnofeoaaGreatDoor
namespace Go.Proofs.YtpeogfapnofeoaaGreatDoor
set_option maxRecDepth 100000
open Go Go.RowKit
theorem RdS.dropk {α : Type} {E : EK α} {w : World} {g off : Nat} {xs : List α} (h : RdS E w (some ⟨g, off, none⟩) xs) (k : Nat) : RdS E w (some ⟨g, off + k * E.k, none⟩) (xs.drop k) := by
  obtain ⟨hl, h⟩ := h
  refine ⟨by rw [List.length_drop]; omega, fun j x hj => ?_⟩
  rw [List.getElem?_drop] at hj
  obtain ⟨g', off', vs, e, hc, hR⟩ := h (k + j) x hj
  injection e with e
  injection e with e1 e2
  subst e1 e2
  refine ⟨g, _, vs, rfl, fun i u hu => ?_, hR⟩
  have := hc i u hu
  rwa [Nat.add_mul, ← Nat.add_assoc] at this
theorem rrB_rows {p : Int} {x : RRel} (h : rrB p x = true) : 0 ≤ x.l ∧ x.l ≤ 12 ∧ x.b.length ≤ 12 ∧ ∀ r ∈ x.b, x.l ≤ r.length ∧ 0 < r.length ∧ r.length ≤ 12 := by
  obtain ⟨h1, h2, h3, h4⟩ := rrB_iff.1 h
  have h5 := fit_lt h2
  have h6 := rrp_len h1 (gd_fv (okRows_gd h3)) h4
  exact ⟨by omega, by omega, by omega, fun r hr => by have := okRows_wid h3 r hr; have := (h4.one r hr).1; omega⟩
end Go.Proofs.YtpeogfapnofeoaaGreatDoor
namespace Go.Proofs.YtpeogfapnofeoaaGreatDoor
set_option maxRecDepth 100000
open Go Go.RowKit
theorem rrB_pos {p : Int} {x : RRel} (h : rrB p x = true) : ∀ v ∈ x.b, 0 < v.length := fun v hv => by
  obtain ⟨_, _, _, h4⟩ := rrB_rows h
  exact (h4 v hv).2.1
end Go.Proofs.YtpeogfapnofeoaaGreatDoor
