/- Valid rational relations: the program's test. -/
import Derived.Test.YtpeogfapnofeoaaGreatDoorPkI
import Derived.BigQuiet
namespace Go.Proofs.YtpeogfapnofeoaaGreatDoor
set_option maxRecDepth 100000
open Go Go.RowKit
set_option maxHeartbeats 8000000 in
theorem isRatNo_c (p : Int) (x : RRel) (A : Option Addr) (c : Nat) (w : World) (h : RdS EFF w A x.b) (ht : Tb w) (hfit : fitB x.l x.r = true) (hle : x.b.length ≤ (x.l + x.r).toNat) (hok : (okRows p (x.l + x.r).toNat x.b && fieldB p) = false) :
    Calls Tryz.prog 70 #[.int .i64 p, .agg #[.int .i64 x.l, .int .i64 x.r, .slice A x.b.length c]] w fun e w' => ∃ b, e = .returned (.bool b) ∧ (b = true ↔ RRok p x) ∧ Ex w w' := by
  obtain ⟨l, r, rows⟩ := x
  dsimp only at h hfit hle hok ⊢
  have hl := h.1
  have x0 := (Ex.refl w).alloc (.cells #[.int .i64 l, .int .i64 r, .slice A rows.length c] 32)
  have v0 := VB.new w 32 #[.int .i64 l, .int .i64 r, .slice A rows.length c]
  obtain ⟨W0, hW0⟩ : ∃ W, w.alloc (.cells #[.int .i64 l, .int .i64 r, .slice A rows.length c] 32) = W := ⟨_, rfl⟩
  rw [hW0] at x0 v0
  have q0 := v0.cell 0 (v := .int .i64 l) rfl
  have q1 := v0.cell 1 (v := .int .i64 r) rfl
  have q2 := v0.cell 2 (v := .slice A rows.length c) rfl
  have HS : ∀ W, Ex W0 W → (Ex W0 W ∧ W.cell? ⟨w.heap.size, 0, none⟩ = some (.int .i64 l) ∧ W.cell? ⟨w.heap.size, 1, none⟩ = some (.int .i64 r) ∧ W.cell? ⟨w.heap.size, 2, none⟩ = some (.slice A rows.length c)) := fun W h => ⟨h, cell_ex h q0, cell_ex h q1, cell_ex h q2⟩
  have hlr := fit_lt hfit
  obtain ⟨N, hN⟩ : ∃ N : Nat, (l + r).toNat = N := ⟨_, rfl⟩
  have hN2 : l + r = (N : Int) := by omega
  have hwr : IntKind.i64.wrap (l + r) = (N : Int) := by rw [IntWalk.i64_in _ (by omega)]; exact hN2
  have hN1 : N ≤ 1000 := by omega
  have HOK := Lib.hid (show RRok p ⟨l, r, rows⟩ ↔ fieldB p = true ∧ okRows p N rows = true ∧ RrP (frOps p) N rows by
    unfold RRok
    dsimp only
    rw [hN]
    exact ⟨fun h => ⟨h.1, h.2.2.1, h.2.2.2⟩, fun h => ⟨h.1, hfit, h.2.1, h.2.2⟩⟩)
  have HN12 := Lib.hid (show N ≤ 12 by omega)
  have Hf := Lib.hid hfit
  rw [hN] at hle hok
  clear hfit hlr hN hN2
  have hle2 : (rows.length : Int) ≤ (N : Int) := by omega
  have Ho := Lib.hid hok
  have HN := Lib.hid (show ¬ RRok p ⟨l, r, rows⟩ from fun h => by
    have h2 := HOK.out.1 h
    rw [h2.1, h2.2.1] at hok
    cases hok)
  have eA := (Ex.refl W0).drew
  have hq1 : ∀ W, Calls Tryz.prog 52 #[.int .i64 l, .int .i64 r] W fun e w' => e = .returned (.bool true) ∧ W = w' := fun W => by have := ratFits_c l r W; rw [Hf.out] at this; exact this
  have hq2 : ∀ W, Ex W0 W → Calls Tryz.prog 53 #[.int .i64 p, .slice A rows.length c, .int .i64 N] W fun e w' => e = .returned (.bool false) ∧ Ex W w' := fun W hb => by have := areRows_c p N A c rows W (h.ex (x0.trans hb)) hN1 (ht.ex (x0.trans hb)); rw [hok] at this; exact this
  clear hok hle HOK
  go_enter Tryz.func70, Tryz.ntmps70
  go_wp2_with fail
  first
  | go_region_with (first
    | (go_at_call 52
       refine (hq1 _).mono ?_
       rintro e w1 ⟨rfl, rfl⟩)
    | (go_at_call 53
       refine (hq2 _ eA).mono ?_
       rintro e w2 ⟨rfl, x2⟩
       have e2 := eA.trans x2
       dsimp only
       refine (‹∀ (a : Act) (w : World), wpAny _ _ _ _ _ _ a w → _› : _) _ _ ?_
       refine wpAny_take (i := 18) (v := .bool false) rfl (by kernel_rfl) (by kernel_rfl) (by kernel_rfl) (fun _ _ _ h => h) (Or.inl ⟨by kernel_rfl, fun w => by kernel_rfl⟩) ?_
       refine wpAny_take (i := 19) (v := .bool false) rfl (by kernel_rfl) (by kernel_rfl) (by kernel_rfl) (fun _ _ _ h => h) (Or.inl ⟨by kernel_rfl, fun w => by kernel_rfl⟩) ?_
       refine wpAny_take (i := 20) (v := undef) rfl (by kernel_rfl) (by kernel_rfl) (by kernel_rfl) (fun _ _ _ h => h) (Or.inr ⟨by kernel_rfl, rfl⟩) ?_
       refine wpAny_take (i := 21) (v := undef) rfl (by kernel_rfl) (by kernel_rfl) (by kernel_rfl) (fun _ _ _ h => h) (Or.inr ⟨by kernel_rfl, rfl⟩) ?_
       refine wpAny_take (i := 22) (v := undef) rfl (by kernel_rfl) (by kernel_rfl) (by kernel_rfl) (fun _ _ _ h => h) (Or.inr ⟨by kernel_rfl, rfl⟩) ?_
       refine wpAny_take (i := 23) (v := undef) rfl (by kernel_rfl) (by kernel_rfl) (by kernel_rfl) (fun _ _ _ h => h) (Or.inr ⟨by kernel_rfl, rfl⟩) ?_
       refine wpAny_take (i := 24) (v := undef) rfl (by kernel_rfl) (by kernel_rfl) (by kernel_rfl) (fun _ _ _ h => h) (Or.inr ⟨by kernel_rfl, rfl⟩) ?_
       refine wpAny_take (i := 25) (v := undef) rfl (by kernel_rfl) (by kernel_rfl) (by kernel_rfl) (fun _ _ _ h => h) (Or.inr ⟨by kernel_rfl, rfl⟩) ?_
       refine wpAny_take (i := 26) (v := undef) rfl (by kernel_rfl) (by kernel_rfl) (by kernel_rfl) (fun _ _ _ h => h) (Or.inr ⟨by kernel_rfl, rfl⟩) ?_
       refine wpAny_take (i := 27) (v := undef) rfl (by kernel_rfl) (by kernel_rfl) (by kernel_rfl) (fun _ _ _ h => h) (Or.inr ⟨by kernel_rfl, rfl⟩) ?_))
  | fail "region"
  all_goals
    clear hwr
    go_simp
    go_wp2_with fail
    go_ret
    exact ⟨false, rfl, ⟨fun e => Bool.noConfusion e, fun e => absurd e HN.out⟩, x0.trans e2⟩
set_option maxHeartbeats 4000000 in
theorem isRatRelation_c (p : Int) (x : RRel) (A : Option Addr) (c : Nat) (w : World) (h : RdS EFF w A x.b) (ht : Tb w) :
    Calls Tryz.prog 70 #[.int .i64 p, .agg #[.int .i64 x.l, .int .i64 x.r, .slice A x.b.length c]] w fun e w' => ∃ b, e = .returned (.bool b) ∧ (b = true ↔ RRok p x) ∧ Ex w w' := by
  obtain ⟨l, r, rows⟩ := x
  dsimp only at h ⊢
  have hl := h.1
  have x0 := (Ex.refl w).alloc (.cells #[.int .i64 l, .int .i64 r, .slice A rows.length c] 32)
  have v0 := VB.new w 32 #[.int .i64 l, .int .i64 r, .slice A rows.length c]
  obtain ⟨W0, hW0⟩ : ∃ W, w.alloc (.cells #[.int .i64 l, .int .i64 r, .slice A rows.length c] 32) = W := ⟨_, rfl⟩
  rw [hW0] at x0 v0
  have q0 := v0.cell 0 (v := .int .i64 l) rfl
  have q1 := v0.cell 1 (v := .int .i64 r) rfl
  have q2 := v0.cell 2 (v := .slice A rows.length c) rfl
  have HS : ∀ W, Ex W0 W → (Ex W0 W ∧ W.cell? ⟨w.heap.size, 0, none⟩ = some (.int .i64 l) ∧ W.cell? ⟨w.heap.size, 1, none⟩ = some (.int .i64 r) ∧ W.cell? ⟨w.heap.size, 2, none⟩ = some (.slice A rows.length c)) := fun W h => ⟨h, cell_ex h q0, cell_ex h q1, cell_ex h q2⟩
  cases hfit : fitB l r with
  | false =>
    have HN := Lib.hid (show ¬ RRok p ⟨l, r, rows⟩ from fun h => by have h2 : fitB l r = true := h.2.1; rw [hfit] at h2; cases h2)
    have hq : ∀ W, Calls Tryz.prog 52 #[.int .i64 l, .int .i64 r] W fun e w' => e = .returned (.bool false) ∧ w' = W := fun W => same_sym (by have := ratFits_c l r W; rw [hfit] at this; exact this)
    clear hfit
    go_enter Tryz.func70, Tryz.ntmps70
    go_wp2_with fail
    go_quiet (first | (go_at_call 52; exact Calls.quiet_of_same (hq _)))
    go_wp2_with fail
    go_ret
    exact ⟨false, rfl, ⟨fun e => Bool.noConfusion e, fun e => absurd e HN.out⟩, x0.trans ((Ex.refl W0).drewN _)⟩
  | true =>
    have hlr := fit_lt hfit
    obtain ⟨N, hN⟩ : ∃ N : Nat, (l + r).toNat = N := ⟨_, rfl⟩
    have hN2 : l + r = (N : Int) := by omega
    have hwr : IntKind.i64.wrap (l + r) = (N : Int) := by rw [IntWalk.i64_in _ (by omega)]; exact hN2
    have hN1 : N ≤ 1000 := by omega
    have HOK := Lib.hid (show RRok p ⟨l, r, rows⟩ ↔ fieldB p = true ∧ okRows p N rows = true ∧ RrP (frOps p) N rows by
      unfold RRok
      dsimp only
      rw [hN]
      exact ⟨fun h => ⟨h.1, h.2.2.1, h.2.2.2⟩, fun h => ⟨h.1, hfit, h.2.1, h.2.2⟩⟩)
    have HN12 := Lib.hid (show N ≤ 12 by omega)
    have HfitX := Lib.hid hfit
    have HNX := Lib.hid hN
    have Hf := Lib.hid hfit
    clear hfit hlr hN hN2
    by_cases hle : rows.length ≤ N
    · have hle2 : (rows.length : Int) ≤ (N : Int) := by omega
      have hR1 : rows.length ≤ 1000 := by omega
      cases hok : (okRows p N rows && fieldB p) with
      | true =>
        rw [Bool.and_eq_true] at hok
        have Ho := Lib.hid (show (okRows p N rows && fieldB p) = true by rw [hok.1, hok.2]; rfl)
        have HF := Lib.hid hok.2
        have HW := Lib.hid (okRows_wid hok.1)
        have HB := Lib.hid (okRows_bd hok.1 HN12.out)
        have HL := Lib.hid (show ((frOps p).rref N rows).length ≤ 1000 by
          unfold Ops.rref
          rw [List.length_take, red_len]
          omega)
        have HR := Lib.hid (show RRok p ⟨l, r, rows⟩ ↔ (frOps p).rref N rows = rows by
          rw [HOK.out, rref_rrp hok.2 (gd_fv (okRows_gd hok.1)) (okRows_wid hok.1)]
          exact ⟨fun h => h.2.2, fun h => ⟨hok.2, hok.1, h⟩⟩)
        clear hok hle HOK
        go_enter Tryz.func70, Tryz.ntmps70
        go_wp2_with fail
        go_region_held3 (fun W => Ex W0 W ∧ W.cell? ⟨w.heap.size, 0, none⟩ = some (.int .i64 l) ∧ W.cell? ⟨w.heap.size, 1, none⟩ = some (.int .i64 r) ∧ W.cell? ⟨w.heap.size, 2, none⟩ = some (.slice A rows.length c)) (first
          | (exact HS _ e4) | (exact HS _ e3) | (exact HS _ e2) | (exact HS _ e1) | (exact HS _ (Ex.refl _)) | (exact HS _ (Ex.refl _).drew)) (first
          | (go_at_call 52
             have hb := (‹Ex W0 _ ∧ _›).1
             refine (ratFits_c l r _).mono ?_
             rintro e w1 ⟨rfl, ew⟩
             have e1 : Ex W0 w1 := ew ▸ hb
             rw [Hf.out])
          | (go_at_call 53
             have hb := (‹Ex W0 _ ∧ _›).1
             refine (areRows_c p N A c rows _ (h.ex (x0.trans hb)) hN1 (ht.ex (x0.trans hb))).mono ?_
             rintro e w2 ⟨rfl, x2⟩
             have e2 := hb.trans x2
             rw [Ho.out])
          | (go_at_call 81
             have hb := (‹Ex W0 _ ∧ _›).1
             refine (ratReduced_c p N rows A c _ HF.out (h.ex (x0.trans hb)) HW.out HB.out hN1 hR1).mono ?_
             rintro e w3 ⟨v3, rfl, o3, x3⟩
             have e3 := hb.trans x3
             obtain ⟨A3, c3, rfl, r3⟩ := o3.rds (Nat.le_trans HL.out (by omega)) (by omega))
          | (go_at_call 99
             refine (equalRows_c A3 A c3 c ((frOps p).rref N rows) rows w3 r3 (h.ex (x0.trans e3))).mono ?_
             rintro e w4 ⟨b, rfl, hbb, x4⟩
             have e4 := e3.trans x4))
        all_goals
          clear hwr
          go_wp2_with fail
          go_ret
          exact ⟨b, rfl, by rw [HR.out]; exact hbb, x0.trans e4⟩
      | false => exact isRatNo_c p ⟨l, r, rows⟩ A c w h ht HfitX.out (by dsimp only; rw [HNX.out]; exact hle) (by dsimp only; rw [HNX.out]; exact hok)
    · have hle2 : ¬ (rows.length : Int) ≤ (N : Int) := by omega
      have HN := Lib.hid (show ¬ RRok p ⟨l, r, rows⟩ from fun h => by
        obtain ⟨h1, h2, h3⟩ := HOK.out.1 h
        exact hle (rrp_len h1 (gd_fv (okRows_gd h2)) h3))
      have hq : ∀ W, Calls Tryz.prog 52 #[.int .i64 l, .int .i64 r] W fun e w' => e = .returned (.bool true) ∧ w' = W := fun W => same_sym (by have := ratFits_c l r W; rw [Hf.out] at this; exact this)
      have hleb : decide (rows.length ≤ N) = false := decide_eq_false hle
      clear HOK
      go_enter Tryz.func70, Tryz.ntmps70
      go_wp2_with fail
      go_quiet (first | (go_at_call 52; exact Calls.quiet_of_same (hq _)))
      clear hwr
      go_wp2_with fail
      go_ret
      exact ⟨false, rfl, ⟨fun e => Bool.noConfusion e, fun e => absurd e HN.out⟩, x0.trans ((Ex.refl W0).drewN _)⟩
theorem IsRatRelation_c (p : Int) (x : RRel) (A : Option Addr) (c : Nat) (w : World) (h : RdS EFF w A x.b) (ht : Tb w) :
    Calls Tryz.prog 35 #[.int .i64 p, .agg #[.int .i64 x.l, .int .i64 x.r, .slice A x.b.length c]] w fun e w' => ∃ b, e = .returned (.bool b) ∧ (b = true ↔ RRok p x) ∧ Ex w w' := by
  have x0 := (Ex.refl w).alloc (.cells #[.int .i64 x.l, .int .i64 x.r, .slice A x.b.length c] 32)
  have v0 := VB.new w 32 #[.int .i64 x.l, .int .i64 x.r, .slice A x.b.length c]
  have hfi := isField_c p _ (ht.ex x0)
  cases hF : fieldB p with
  | false =>
    have HN := Lib.hid (show ¬ RRok p x from fun h => by have := h.1; rw [hF] at this; cases this)
    rw [hF] at hfi
    clear hF
    go_enter Tryz.func35, Tryz.ntmps35
    go_wp2_with fail
    refine hfi.mono ?_
    rintro e w1 ⟨rfl, ew⟩
    go_wp2_with fail
    go_ret
    exact ⟨false, rfl, ⟨fun e => Bool.noConfusion e, fun e => absurd e HN.out⟩, ew ▸ x0⟩
  | true =>
    rw [hF] at hfi
    clear hF
    go_enter Tryz.func35, Tryz.ntmps35
    go_wp2_with fail
    refine hfi.mono ?_
    rintro e w1 ⟨rfl, ew⟩
    subst ew
    have q0 := v0.cell 0 (v := .int .i64 x.l) rfl
    have q1 := v0.cell 1 (v := .int .i64 x.r) rfl
    have q2 := v0.cell 2 (v := .slice A x.b.length c) rfl
    clear hfi
    go_wp2_with fail
    refine (isRatRelation_c p x A c _ (h.ex x0) (ht.ex x0)).mono ?_
    rintro e w2 ⟨b, rfl, hb, x2⟩
    go_wp2_with fail
    go_ret
    exact ⟨b, rfl, hb, x0.trans x2⟩
end Go.Proofs.YtpeogfapnofeoaaGreatDoor
