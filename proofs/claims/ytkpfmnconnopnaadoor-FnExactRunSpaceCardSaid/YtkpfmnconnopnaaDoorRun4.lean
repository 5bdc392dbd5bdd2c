/- RunSpace, on both sides. -/
import Derived.Test.YtkpfmnconnopnaaDoorRun3
namespace Go.Proofs.YtkpfmnconnopnaaDoor
set_option maxRecDepth 100000
open Go Go.RowKit
def runR (p x y z : Int) (ra rb rc rd us : List (List Int)) : List (List Int) × Bool :=
  if ssB p x y z ra rb rc rd = true ∧ (decide ((us.length : Int) ≤ 60) && rowsB p y us) = true then (rys p x.toNat z.toNat ra rb rc rd us us.length, true) else ([], false)
theorem runR_no {p x y z : Int} {ra rb rc rd us : List (List Int)} (h : ¬ (ssB p x y z ra rb rc rd = true ∧ (decide ((us.length : Int) ≤ 60) && rowsB p y us) = true)) : runR p x y z ra rb rc rd us = ([], false) := if_neg h
theorem runR_yes {p x y z : Int} {ra rb rc rd us : List (List Int)} (h : ssB p x y z ra rb rc rd = true ∧ (decide ((us.length : Int) ≤ 60) && rowsB p y us) = true) : runR p x y z ra rb rc rd us = (rys p x.toNat z.toNat ra rb rc rd us us.length, true) := if_pos h
/-- The ending of a call that returns a list of lists of its own, and a bool. -/
def LMB (w : World) (r : List (List Int) × Bool) (e : Ending) (w' : World) : Prop :=
  ∃ A c, e = .returned (.tuple #[.slice A r.1.length c, .bool r.2]) ∧ FMI w' w.heap.size w'.heap.size A r.1 ∧ Ex w w'
theorem ssB_parts {p x y z : Int} {ra rb rc rd : List (List Int)} (h : ssB p x y z ra rb rc rd = true) :
    fieldB p = true ∧ inB 0 24 x = true ∧ inB 0 8 y = true ∧ inB 0 8 z = true ∧ ((ra.length : Int) = x ∧ rowsB p x ra = true) ∧ ((rb.length : Int) = y ∧ rowsB p x rb = true) ∧ ((rc.length : Int) = x ∧ rowsB p z rc = true) ∧ ((rd.length : Int) = y ∧ rowsB p z rd = true) := by
  simp only [ssB, tabB, Bool.and_eq_true, decide_eq_true_eq] at h
  obtain ⟨⟨⟨⟨⟨⟨⟨h1, h2⟩, h3⟩, h4⟩, h5⟩, h6⟩, h7⟩, h8⟩ := h
  exact ⟨h1, h2, h3, h4, h5, h6, h7, h8⟩
set_option maxHeartbeats 4000000 in
theorem spRunSpace_c (p x y z : Int) (A B C D U : Option Addr) (a b c d e : Nat) (ra rb rc rd us : List (List Int)) (w : World) (ha : RdM w A ra) (hb : RdM w B rb) (hc : RdM w C rc) (hd : RdM w D rd) (hu : RdM w U us) :
    Calls Tryd.prog 12 #[.int .i64 p, .agg #[.int .i64 x, .int .i64 y, .int .i64 z, .slice A ra.length a, .slice B rb.length b, .slice C rc.length c, .slice D rd.length d], .slice U us.length e] w fun e w' => LMB w (runR p x y z ra rb rc rd us) e w' := by
  have hul := hu.1
  have x0 := (Ex.refl w).alloc (.cells #[.int .i64 x, .int .i64 y, .int .i64 z, .slice A ra.length a, .slice B rb.length b, .slice C rc.length c, .slice D rd.length d] 29)
  have v0 := VB.new w 29 #[.int .i64 x, .int .i64 y, .int .i64 z, .slice A ra.length a, .slice B rb.length b, .slice C rc.length c, .slice D rd.length d]
  cases hs : ssB p x y z ra rb rc rd with
  | false =>
    have H := Lib.hid (runR_no (fun h => by rw [hs] at h; cases h.1) : runR p x y z ra rb rc rd us = ([], false))
    go_enter Tryd.func12, Tryd.ntmps12
    go_wp2_with fail
    generalize w.alloc (.cells #[.int .i64 x, .int .i64 y, .int .i64 z, .slice A ra.length a, .slice B rb.length b, .slice C rc.length c, .slice D rd.length d] 29) = W at *
    refine (ssGood_c p x y z A B C D a b c d ra rb rc rd W (ha.ex x0) (hb.ex x0) (hc.ex x0) (hd.ex x0)).mono ?_
    rintro e w1 ⟨rfl, x1⟩
    rw [hs]
    go_wp2
    go_ret2
    exact ⟨none, 0, by rw [H.out]; rfl, by rw [H.out]; exact FMI.nil _ _ _ _, x0.trans x1⟩
  | true =>
    cases hr : (decide ((us.length : Int) ≤ 60) && rowsB p y us) with
    | false =>
      have H := Lib.hid (runR_no (fun h => by rw [hr] at h; cases h.2) : runR p x y z ra rb rc rd us = ([], false))
      have HF := ssB_parts hs
      have h2 := fieldB_lo HF.1
      have h97 := fieldB_hi HF.1
      clear HF
      go_enter Tryd.func12, Tryd.ntmps12
      go_wp2_with fail
      generalize w.alloc (.cells #[.int .i64 x, .int .i64 y, .int .i64 z, .slice A ra.length a, .slice B rb.length b, .slice C rc.length c, .slice D rd.length d] 29) = W at *
      refine (ssGood_c p x y z A B C D a b c d ra rb rc rd W (ha.ex x0) (hb.ex x0) (hc.ex x0) (hd.ex x0)).mono ?_
      rintro e w1 ⟨rfl, x1⟩
      rw [hs]
      have v1 := v0.ex x1
      have q1 := v1.cell 1 (v := .int .i64 y) rfl
      go_wp2_with fail
      refine (crLists_c p y U _ us w1 (hu.ex (x0.trans x1)) h2 h97).mono ?_
      rintro e _ ⟨rfl, rfl⟩
      rw [hr]
      go_wp2
      go_ret2
      exact ⟨none, 0, by rw [H.out]; rfl, by rw [H.out]; exact FMI.nil _ _ _ _, x0.trans x1⟩
    | true =>
      have H := Lib.hid (runR_yes ⟨hs, hr⟩ : runR p x y z ra rb rc rd us = _)
      have HF := ssB_parts hs
      have h2 := fieldB_lo HF.1
      have h97 := fieldB_hi HF.1
      obtain ⟨_, i1, i2, i3, ⟨l1, r1⟩, ⟨l2, r2⟩, ⟨l3, r3⟩, ⟨l4, r4⟩⟩ := HF
      obtain ⟨n, rfl⟩ : ∃ n : Nat, x = n := ⟨ra.length, l1.symm⟩
      obtain ⟨m, rfl⟩ : ∃ m : Nat, y = m := ⟨rb.length, l2.symm⟩
      have hz : ∃ q : Nat, z = q ∧ q ≤ 1000 := by
        simp only [inB, Bool.and_eq_true, decide_eq_true_eq] at i3
        exact ⟨z.toNat, by omega, by omega⟩
      obtain ⟨q, rfl, hq⟩ := hz
      have hn : n ≤ 1000 := by simp only [inB, Bool.and_eq_true, decide_eq_true_eq] at i1; omega
      have hr2 := hr
      simp only [Bool.and_eq_true, decide_eq_true_eq] at hr2
      obtain ⟨u60, ur⟩ := hr2
      have cR := fun W1 (k : Ex w W1) => ssRun_c p n m q A B C D U a b c d e ra rb rc rd us W1 (ha.ex k) (hb.ex k) (hc.ex k) (hd.ex k) (hu.ex k) h2 h97 hn hq (by omega) (by omega) (by omega) (by omega) r1 r2 r3 r4 ur (by omega)
      clear i1 i2 i3 l1 r1 l2 r2 l3 r3 l4 r4 ur
      go_enter Tryd.func12, Tryd.ntmps12
      go_wp2_with fail
      generalize w.alloc (.cells #[.int .i64 n, .int .i64 m, .int .i64 q, .slice A ra.length a, .slice B rb.length b, .slice C rc.length c, .slice D rd.length d] 29) = W at *
      refine (ssGood_c p n m q A B C D a b c d ra rb rc rd W (ha.ex x0) (hb.ex x0) (hc.ex x0) (hd.ex x0)).mono ?_
      rintro e w1 ⟨rfl, x1⟩
      rw [hs]
      have v1 := v0.ex x1
      have q1 := v1.cell 1 (v := .int .i64 m) rfl
      go_wp2_with fail
      refine (crLists_c p m U _ us w1 (hu.ex (x0.trans x1)) h2 h97).mono ?_
      rintro e _ ⟨rfl, rfl⟩
      rw [hr]
      have q0 := v1.cell 0 (v := .int .i64 n) rfl
      have q2 := v1.cell 2 (v := .int .i64 q) rfl
      have q3 := v1.cell 3 (v := .slice A ra.length a) rfl
      have q4 := v1.cell 4 (v := .slice B rb.length b) rfl
      have q5 := v1.cell 5 (v := .slice C rc.length c) rfl
      have q6 := v1.cell 6 (v := .slice D rd.length d) rfl
      go_wp2_with fail
      refine (cR w1 (x0.trans x1)).mono ?_
      rintro e w2 ⟨v, HH, rfl, hg, x2⟩
      obtain ⟨A', c', rfl, hf⟩ := hg.fmi (by rw [rys_len]; omega)
      go_wp2
      go_ret2
      have HO := H.out
      simp only [Int.toNat_natCast] at HO
      exact ⟨A', c', by rw [HO]; rfl, by rw [HO]; exact hf.more (x0.trans x1).size (Nat.le_refl _), (x0.trans x1).trans x2⟩
end Go.Proofs.YtkpfmnconnopnaaDoor
