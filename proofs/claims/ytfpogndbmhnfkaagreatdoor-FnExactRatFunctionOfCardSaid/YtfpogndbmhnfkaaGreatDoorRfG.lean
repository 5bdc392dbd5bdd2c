/- RatFunctionOf: the program, in the uniform words. -/
import Derived.Test.YtfpogndbmhnfkaaGreatDoorRfF
namespace Go.Proofs.YtfpogndbmhnfkaaGreatDoor
set_option maxRecDepth 100000
open Go Go.RowKit
theorem rf_unit {p : Int} {x : RRel} (h : rrB p x = true) : rfB x.l x.b = true → ∀ (k : Nat) (r : List Fra), x.b[k]? = some r → r.take x.l.toNat = unitF x.l.toNat k := by
  obtain ⟨h1, h2, h3, h4⟩ := rrB_iff.1 h
  intro hb k r hr
  obtain ⟨q1, q2⟩ := rfB_iff.1 hb
  have h5 := fit_lt h2
  exact unit_of_lead (gd_fv (okRows_gd h3)) h4 (by omega) (by omega) q2 hr
set_option maxHeartbeats 2000000 in
theorem RatFunctionOf_u (p : Int) (x : RRel) (v0 : Value) (w : World) (h : RRRelc w v0 x) (ht : Tb w) :
    Calls Tryz.prog 25 #[.int .i64 p, .agg #[.int .i64 x.l, .int .i64 x.r, v0]] w fun e w' => ∃ y, e = .returned (.tuple #[y, .bool (rfU p x).2]) ∧ OFF w' w.heap.size w'.heap.size y (rfU p x).1 ∧ Ex w w' := by
  obtain ⟨h0, A, c, rfl, hc⟩ := h
  have htt := h0.tot
  have x0 := (Ex.refl w).alloc (.cells #[.int .i64 x.l, .int .i64 x.r, .slice A x.b.length c] 32)
  have d0 := VB.new w 32 #[.int .i64 x.l, .int .i64 x.r, .slice A x.b.length c]
  go_enter Tryz.func25, Tryz.ntmps25
  go_wp2_with fail
  generalize w.alloc (.cells #[.int .i64 x.l, .int .i64 x.r, .slice A x.b.length c] 32) = W0 at *
  refine (IsRatRelation_u p x (.slice A x.b.length c) W0 (h0.ex x0) (ht.ex x0)).mono ?_
  rintro e w1 ⟨rfl, x1⟩
  have d1 := d0.ex x1
  have p0 := d1.cell 0 (v := .int .i64 x.l) rfl
  have p1 := d1.cell 1 (v := .int .i64 x.r) rfl
  have p2 := d1.cell 2 (v := .slice A x.b.length c) rfl
  cases hb : rrB p x with
  | false =>
    have HN := Lib.hid (rfU_no (p := p) (x := x) (by rw [hb]; simp))
    clear hb
    go_wp2_with fail
    go_ret2
    rw [HN.out]
    exact ⟨_, rfl, ⟨⟨none, 0, fun _ => False, rfl, fun k hk => hk.elim, OX.nil _ _ _ _ _⟩, by show (0 : Int) ≤ _; omega⟩, x0.trans x1⟩
  | true =>
    have HU := Lib.hid (rfU_good hb)
    have HB := Lib.hid (rrB_rows hb)
    have HF := Lib.hid (rf_unit hb)
    clear hb
    go_wp2_with fail
    refine (ratFunction_c x.l x.r x.b A c w1 (hc.ex (x0.trans x1)) HB.out.2.2.2 HB.out.2.2.1 HF.out (by have : totRRel x = totFF x.b := rfl; omega)).mono ?_
    rintro e w2 ⟨y, rfl, o, x2⟩
    obtain ⟨Y, N, C, rfl⟩ := o.rd.form
    go_wp2_with fail
    go_ret2
    rw [HU.out]
    exact ⟨_, rfl, o.more (x0.trans x1).size (Nat.le_refl _), (x0.trans x1).trans x2⟩
end Go.Proofs.YtfpogndbmhnfkaaGreatDoor
