/- The reference's rrGood and IsRatRelation. IsRatRelation, on both sides, in the uniform words. -/
import Derived.Test.YtpeogfapnofeoaaGreatDoorPkAC
import Derived.Test.YtpeogfapnofeoaaGreatDoorRtP
import Derived.Test.YtpeogfapnofeoaaGreatDoorPkI
namespace Go.Proofs.YtpeogfapnofeoaaGreatDoor
set_option maxRecDepth 100000
open Go Go.RowKit
theorem fit_two (l r : Int) : fitB l r = (inB 0 12 l && inB 0 (12 - l) r) := by
  rw [Bool.eq_iff_iff]
  simp [fitB, inB]
  omega
set_option maxHeartbeats 2000000 in
theorem rrGood_c (p : Int) (x : RRel) (A : Option Addr) (c : Nat) (w : World) (h : RdS EFF w A x.b) :
    Calls Tryz.prog 31 #[.int .i64 p, .agg #[.int .i64 x.l, .int .i64 x.r, .slice A x.b.length c]] w fun e w' => ∃ b, e = .returned (.bool b) ∧ (b = true ↔ RRok p x) ∧ Ex w w' := by
  obtain ⟨l, r, rows⟩ := x
  dsimp only at h ⊢
  have x0 := (Ex.refl w).alloc (.cells #[.int .i64 l, .int .i64 r, .slice A rows.length c] 32)
  have v0 := VB.new w 32 #[.int .i64 l, .int .i64 r, .slice A rows.length c]
  have hN : RRok p ⟨l, r, rows⟩ → fieldB p = true ∧ inB 0 12 l = true ∧ inB 0 (12 - l) r = true := fun h => by
    have h2 : fitB l r = true := h.2.1
    rw [fit_two, Bool.and_eq_true] at h2
    exact ⟨h.1, h2.1, h2.2⟩
  have c1 : ∀ W, Calls Tryz.prog 47 #[.int .i64 p] W fun e w' => e = .returned (.bool (fieldB p)) ∧ W = w' := fun W => fdGood_c p W
  have c2 : ∀ W, Calls Tryz.prog 48 #[.int .i64 l, .int .i64 0, .int .i64 12] W fun e w' => e = .returned (.bool (inB 0 12 l)) ∧ W = w' := fun W => l1In_c l 0 12 W
  have c3 : ∀ W, Calls Tryz.prog 48 #[.int .i64 r, .int .i64 0, .int .i64 (12 - l)] W fun e w' => e = .returned (.bool (inB 0 (12 - l) r)) ∧ W = w' := fun W => l1In_c r 0 (12 - l) W
  cases hF : fieldB p with
  | false =>
    have HN := Lib.hid (show ¬ RRok p ⟨l, r, rows⟩ from fun h => by have := (hN h).1; rw [hF] at this; cases this)
    rw [hF] at c1
    clear hF hN c2 c3
    go_enter Tryz.func31, Tryz.ntmps31
    go_wp2_with fail
    generalize w.alloc (.cells #[.int .i64 l, .int .i64 r, .slice A rows.length c] 32) = W0 at *
    refine (c1 _).mono ?_
    rintro e w1 ⟨rfl, rfl⟩
    go_wp2_with fail
    go_ret
    exact ⟨false, rfl, ⟨fun e => Bool.noConfusion e, fun e => absurd e HN.out⟩, x0⟩
  | true =>
    rw [hF] at c1
    cases h1 : inB 0 12 l with
    | false =>
      have HN := Lib.hid (show ¬ RRok p ⟨l, r, rows⟩ from fun h => by have := (hN h).2.1; rw [h1] at this; cases this)
      rw [h1] at c2
      clear hF hN c3 h1
      go_enter Tryz.func31, Tryz.ntmps31
      go_wp2_with fail
      have q0 := v0.cell 0 (v := .int .i64 l) rfl
      generalize w.alloc (.cells #[.int .i64 l, .int .i64 r, .slice A rows.length c] 32) = W0 at *
      refine (c1 _).mono ?_
      rintro e w1 ⟨rfl, rfl⟩
      go_wp2_with fail
      refine (c2 _).mono ?_
      rintro e w2 ⟨rfl, rfl⟩
      go_wp2_with fail
      go_ret
      exact ⟨false, rfl, ⟨fun e => Bool.noConfusion e, fun e => absurd e HN.out⟩, x0⟩
    | true =>
      rw [h1] at c2
      have hl1 : 0 ≤ l ∧ l ≤ 12 := by simpa [inB] using h1
      have hw1 : IntKind.i64.wrap (12 - l) = 12 - l := IntWalk.i64_in _ (by omega)
      cases h2 : inB 0 (12 - l) r with
      | false =>
        have HN := Lib.hid (show ¬ RRok p ⟨l, r, rows⟩ from fun h => by have := (hN h).2.2; rw [h2] at this; cases this)
        rw [h2] at c3
        clear hF hN h1 h2 hl1
        go_enter Tryz.func31, Tryz.ntmps31
        go_wp2_with fail
        have q0 := v0.cell 0 (v := .int .i64 l) rfl
        have q1 := v0.cell 1 (v := .int .i64 r) rfl
        generalize w.alloc (.cells #[.int .i64 l, .int .i64 r, .slice A rows.length c] 32) = W0 at *
        refine (c1 _).mono ?_
        rintro e w1 ⟨rfl, rfl⟩
        go_wp2_with fail
        refine (c2 _).mono ?_
        rintro e w2 ⟨rfl, rfl⟩
        go_wp2_with fail
        refine (c3 _).mono ?_
        rintro e w3 ⟨rfl, rfl⟩
        go_wp2_with fail
        go_ret
        exact ⟨false, rfl, ⟨fun e => Bool.noConfusion e, fun e => absurd e HN.out⟩, x0⟩
      | true =>
        rw [h2] at c3
        have hl2 : 0 ≤ r ∧ r ≤ 12 - l := by simpa [inB] using h2
        obtain ⟨N, hNN⟩ : ∃ N : Nat, (l + r).toNat = N := ⟨_, rfl⟩
        have hwr : IntKind.i64.wrap (l + r) = (N : Int) := by rw [IntWalk.i64_in _ (by omega)]; omega
        have hN1 : N ≤ 1000 := by omega
        have HR := Lib.hid (show RRok p ⟨l, r, rows⟩ ↔ (okRows p N rows = true ∧ RrP (frOps p) N rows) by
          have hfit : fitB l r = true := by rw [fit_two, h1, h2]; rfl
          unfold RRok
          dsimp only
          rw [hNN]
          exact ⟨fun h => ⟨h.2.2.1, h.2.2.2⟩, fun h => ⟨hF, hfit, h.1, h.2⟩⟩)
        clear hF hN h1 h2 hl1 hl2 hNN
        go_enter Tryz.func31, Tryz.ntmps31
        go_wp2_with fail
        have q0 := v0.cell 0 (v := .int .i64 l) rfl
        have q1 := v0.cell 1 (v := .int .i64 r) rfl
        have q2 := v0.cell 2 (v := .slice A rows.length c) rfl
        generalize w.alloc (.cells #[.int .i64 l, .int .i64 r, .slice A rows.length c] 32) = W0 at *
        refine (c1 _).mono ?_
        rintro e w1 ⟨rfl, rfl⟩
        go_wp2_with fail
        refine (c2 _).mono ?_
        rintro e w2 ⟨rfl, rfl⟩
        go_wp2_with fail
        refine (c3 _).mono ?_
        rintro e w3 ⟨rfl, rfl⟩
        go_wp2_with fail
        refine (rrIs_c p N A c rows _ (h.ex x0) hN1).mono ?_
        rintro e w4 ⟨b, rfl, hb, x4⟩
        clear hwr hw1
        go_wp2_with fail
        go_ret
        exact ⟨b, rfl, by rw [HR.out]; exact hb, x0.trans x4⟩
end Go.Proofs.YtpeogfapnofeoaaGreatDoor
namespace Go.Proofs.YtpeogfapnofeoaaGreatDoor
set_option maxRecDepth 100000
open Go Go.RowKit
/-- Whether a rational relation is valid. -/
noncomputable def rrB (p : Int) (x : RRel) : Bool := @decide (RRok p x) (Classical.propDecidable _)
theorem rrB_iff {p : Int} {x : RRel} : rrB p x = true ↔ RRok p x := @decide_eq_true_iff (RRok p x) (Classical.propDecidable _)
theorem rrB_of {p : Int} {x : RRel} {b : Bool} (h : b = true ↔ RRok p x) : b = rrB p x := by
  rw [Bool.eq_iff_iff, h, rrB_iff]
theorem IsRatRelation_u (p : Int) (x : RRel) (v0 : Value) (w : World) (h : RRRel w v0 x) (ht : Tb w) :
    Calls Tryz.prog 35 #[.int .i64 p, .agg #[.int .i64 x.l, .int .i64 x.r, v0]] w fun e w' => e = .returned (.bool (rrB p x)) ∧ Ex w w' := by
  obtain ⟨⟨A, c, rfl, h⟩, _⟩ := h
  refine (IsRatRelation_c p x A c w h ht).mono ?_
  rintro e w' ⟨b, rfl, hb, x1⟩
  exact ⟨by rw [rrB_of hb], x1⟩
end Go.Proofs.YtpeogfapnofeoaaGreatDoor
