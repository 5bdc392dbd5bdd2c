/- RatRelationFrom: the plain answer; the reference. Printed by a program of mine. The reduced list as owned rows. RatRelationFrom: the program. Printed by a program of mine. -/
import Derived.Test.YtpeogfapnofeoaaGreatDoorPkQ
import Derived.Test.YtpeogfapnofeoaaGreatDoorRfB
import Derived.Test.YtpeogfapnofeoaaGreatDoorPkH
import Derived.Test.YtpeogfapnofeoaaGreatDoorPkI
namespace Go.Proofs.YtpeogfapnofeoaaGreatDoor
set_option maxRecDepth 100000
open Go Go.RowKit
theorem RdC.nil (w : World) (A : Option Addr) : RdC w A [] := ⟨⟨by simp, fun j x hj => by simp at hj⟩, fun j r hj => by simp at hj⟩
/-- The relation that rows generate, if it is valid. -/
noncomputable def genU (p l r : Int) (rows : List (List Fra)) : RRel × Bool := ifU p ⟨l, r, (frOps p).rref (l + r).toNat rows⟩
def fromC (p l r : Int) (rows : List (List Fra)) : Prop := fieldB p = true ∧ fitB l r = true ∧ rows.length ≤ 24 ∧ okRows p (l + r).toNat rows = true
noncomputable def fromU (p l r : Int) (rows : List (List Fra)) : RRel × Bool := @ite _ (fromC p l r rows) (Classical.propDecidable _) (genU p l r rows) (⟨0, 0, []⟩, false)
theorem fromU_no {p l r : Int} {rows : List (List Fra)} (h : ¬ fromC p l r rows) : fromU p l r rows = (⟨0, 0, []⟩, false) := if_neg h
theorem fromU_yes {p l r : Int} {rows : List (List Fra)} (h : fromC p l r rows) : fromU p l r rows = genU p l r rows := if_pos h
set_option maxHeartbeats 2000000 in
theorem rrOf_c (S : Nat → Prop) (p : Int) (l r : Nat) (rows : List (List Fra)) (A : Option Addr) (c : Nat) (w : World) (hF : fieldB p = true) (h : RowsN S w A rows) (hS : ∀ k, S k → k < w.heap.size) (hw : Wid (l + r) rows) (hGd : ∀ c, c ≤ l + r → GdM p 17179869184 (stg (frOps p) rows c).1) (hn : l + r ≤ 1000) (hR : rows.length ≤ 1000) :
    Calls Tryz.prog 50 #[.int .i64 p, .int .i64 l, .int .i64 r, .slice A rows.length c] w fun e w' => ∃ A' c', e = .returned (.agg #[.int .i64 l, .int .i64 r, .slice A' ((frOps p).rref (l + r) rows).length c']) ∧ (∀ w2, ExS S w' w2 → RdS EFF w2 A' ((frOps p).rref (l + r) rows)) ∧ Ex w w' := by
  have hwr : IntKind.i64.wrap ((l : Int) + (r : Int)) = ((l + r : Nat) : Int) := by rw [IntWalk.i64_in _ (by omega)]; omega
  have x0 := (Ex.refl w).alloc (.cells #[.int .i64 0, .int .i64 0, .slice none 0 0] 32)
  have d0 := VB.new w 32 #[.int .i64 0, .int .i64 0, .slice none 0 0]
  have cR := rrReduce_c (fun k => S k ∨ k = w.heap.size) p (l + r) rows A c (w.alloc (.cells #[.int .i64 0, .int .i64 0, .slice none 0 0] 32)) hF (h.ex x0 (fun k e => e.elim .inl (fun e => .inr (Nat.le_of_eq e.symm)))) (fun k e => by
    have := d0.lt
    exact e.elim (fun e => by have := hS k e; omega) (fun e => by omega)) hw hGd hn hR
  clear hF h hw hGd hR hS
  generalize (frOps p).rref (l + r) rows = RR at *
  obtain ⟨N, hN⟩ : ∃ N, l + r = N := ⟨_, rfl⟩
  rw [hN] at hwr cR
  clear hN hn
  go_enter Tryz.func50, Tryz.ntmps50
  go_wp2_with fail
  generalize w.alloc (.cells #[.int .i64 0, .int .i64 0, .slice none 0 0] 32) = W0 at *
  refine cR.mono ?_
  rintro e w1 ⟨A1, c1, rfl, r1, x1⟩
  have dz := d0.ex x1
  have xz := x0.trans x1
  obtain ⟨dd, zz⟩ := dz.st3 (.int .i64 l) (.int .i64 r) (.slice A1 RR.length c1)
  have u0 := dz.cell 0 (v := .int .i64 0) rfl
  have u1 := dz.cell 1 (v := .int .i64 0) rfl
  have u2 := dz.cell 2 (v := .slice none 0 0) rfl
  have k0 := dz.frozen 0
  have k1 := dz.frozen 1
  have k2 := dz.frozen 2
  have C0 := dd.cell 0 (v := .int .i64 l) rfl
  have C1 := dd.cell 1 (v := .int .i64 r) rfl
  have C2 := dd.cell 2 (v := .slice A1 RR.length c1) rfl
  have eF := xz.ex1 zz (Nat.le_refl _)
  have hlt := d0.lt
  have rr : ∀ w2, ExS S _ w2 → RdS EFF w2 A1 RR := fun w2 k => r1 w2 ((ExS.of_ex1 (S := fun k => S k ∨ k = w.heap.size) zz (.inr rfl)).trans k (fun i _ e => .inl e))
  clear cR
  go_wp2_with fail
  refine bodyPost_ret (v := .agg #[.int .i64 l, .int .i64 r, .slice A1 RR.length c1]) (by simp [results, Tryz.results50, go_sem, C0, C1, C2]) rfl ?_
  exact ⟨A1, c1, rfl, rr, eF⟩
set_option maxHeartbeats 8000000 in
theorem spFrom_c (p l r : Int) (rows : List (List Fra)) (A : Option Addr) (c : Nat) (w : World) (h : RdS EFF w A rows) :
    Calls Tryz.prog 17 #[.int .i64 p, .int .i64 l, .int .i64 r, .slice A rows.length c] w fun e w' => RdB w (fromU p l r rows) e w' := by
  have hl := h.1
  have x0 := (Ex.refl w).alloc (.cells #[.int .i64 0, .int .i64 0, .slice none 0 0] 32)
  have d0 := VB.new w 32 #[.int .i64 0, .int .i64 0, .slice none 0 0]
  have hN : fromC p l r rows → fieldB p = true ∧ inB 0 12 l = true ∧ inB 0 (12 - l) r = true ∧ rows.length ≤ 24 := fun h => by
    have h2 : fitB l r = true := h.2.1
    rw [fit_two, Bool.and_eq_true] at h2
    exact ⟨h.1, h2.1, h2.2, h.2.2.1⟩
  have c1 : ∀ W, Calls Tryz.prog 47 #[.int .i64 p] W fun e w' => e = .returned (.bool (fieldB p)) ∧ W = w' := fun W => fdGood_c p W
  have c2 : ∀ W, Calls Tryz.prog 48 #[.int .i64 l, .int .i64 0, .int .i64 12] W fun e w' => e = .returned (.bool (inB 0 12 l)) ∧ W = w' := fun W => l1In_c l 0 12 W
  have c3 : ∀ W, Calls Tryz.prog 48 #[.int .i64 r, .int .i64 0, .int .i64 (12 - l)] W fun e w' => e = .returned (.bool (inB 0 (12 - l) r)) ∧ W = w' := fun W => l1In_c r 0 (12 - l) W
  cases hF : fieldB p with
  | false =>
    have HN := Lib.hid (fromU_no (p := p) (l := l) (r := r) (rows := rows) (fun h => by have := (hN h).1; rw [hF] at this; cases this))
    rw [hF] at c1
    clear hF hN c2 c3
    go_enter Tryz.func17, Tryz.ntmps17
    go_wp2_with fail
    generalize w.alloc (.cells #[.int .i64 0, .int .i64 0, .slice none 0 0] 32) = W0 at *
    refine (c1 _).mono ?_
    rintro e w1 ⟨rfl, rfl⟩
    have dz := d0
    have xz := x0
    obtain ⟨dd, zz⟩ := dz.st3 (.int .i64 0) (.int .i64 0) (.slice none 0 0)
    have u0 := dz.cell 0 (v := .int .i64 0) rfl
    have u1 := dz.cell 1 (v := .int .i64 0) rfl
    have u2 := dz.cell 2 (v := .slice none 0 0) rfl
    have k0 := dz.frozen 0
    have k1 := dz.frozen 1
    have k2 := dz.frozen 2
    have C0 := dd.cell 0 (v := .int .i64 0) rfl
    have C1 := dd.cell 1 (v := .int .i64 0) rfl
    have C2 := dd.cell 2 (v := .slice none 0 0) rfl
    have eF := xz.ex1 zz (Nat.le_refl _)
    go_wp2_with fail
    refine bodyPost_ret (v := .tuple #[.agg #[.int .i64 0, .int .i64 0, .slice none 0 0], .bool false]) (by simp [results, Tryz.results17, go_sem, C0, C1, C2]) rfl ?_
    rw [HN.out]
    exact ⟨none, 0, rfl, fun _ _ => ⟨RdC.nil _ _, OFX.nil _ _ _ _ _⟩, eF⟩
  | true =>
    rw [hF] at c1
    cases h1 : inB 0 12 l with
    | false =>
      have HN := Lib.hid (fromU_no (p := p) (l := l) (r := r) (rows := rows) (fun h => by have := (hN h).2.1; rw [h1] at this; cases this))
      rw [h1] at c2
      clear hF hN c3 h1
      go_enter Tryz.func17, Tryz.ntmps17
      go_wp2_with fail
      generalize w.alloc (.cells #[.int .i64 0, .int .i64 0, .slice none 0 0] 32) = W0 at *
      refine (c1 _).mono ?_
      rintro e w1 ⟨rfl, rfl⟩
      go_wp2_with fail
      refine (c2 _).mono ?_
      rintro e w2 ⟨rfl, rfl⟩
      have dz := d0
      have xz := x0
      obtain ⟨dd, zz⟩ := dz.st3 (.int .i64 0) (.int .i64 0) (.slice none 0 0)
      have u0 := dz.cell 0 (v := .int .i64 0) rfl
      have u1 := dz.cell 1 (v := .int .i64 0) rfl
      have u2 := dz.cell 2 (v := .slice none 0 0) rfl
      have k0 := dz.frozen 0
      have k1 := dz.frozen 1
      have k2 := dz.frozen 2
      have C0 := dd.cell 0 (v := .int .i64 0) rfl
      have C1 := dd.cell 1 (v := .int .i64 0) rfl
      have C2 := dd.cell 2 (v := .slice none 0 0) rfl
      have eF := xz.ex1 zz (Nat.le_refl _)
      go_wp2_with fail
      refine bodyPost_ret (v := .tuple #[.agg #[.int .i64 0, .int .i64 0, .slice none 0 0], .bool false]) (by simp [results, Tryz.results17, go_sem, C0, C1, C2]) rfl ?_
      rw [HN.out]
      exact ⟨none, 0, rfl, fun _ _ => ⟨RdC.nil _ _, OFX.nil _ _ _ _ _⟩, eF⟩
    | true =>
      rw [h1] at c2
      have hl1 : 0 ≤ l ∧ l ≤ 12 := by simpa [inB] using h1
      have hsub : IntKind.i64.wrap (12 - l) = 12 - l := IntWalk.i64_in _ (by omega)
      cases h2 : inB 0 (12 - l) r with
      | false =>
        have HN := Lib.hid (fromU_no (p := p) (l := l) (r := r) (rows := rows) (fun h => by have := (hN h).2.2.1; rw [h2] at this; cases this))
        rw [h2] at c3
        clear hF hN h1 h2
        go_enter Tryz.func17, Tryz.ntmps17
        go_wp2_with fail
        generalize w.alloc (.cells #[.int .i64 0, .int .i64 0, .slice none 0 0] 32) = W0 at *
        refine (c1 _).mono ?_
        rintro e w1 ⟨rfl, rfl⟩
        go_wp2_with fail
        refine (c2 _).mono ?_
        rintro e w2 ⟨rfl, rfl⟩
        go_wp2_with fail
        refine (c3 _).mono ?_
        rintro e w3 ⟨rfl, rfl⟩
        clear hsub
        have dz := d0
        have xz := x0
        obtain ⟨dd, zz⟩ := dz.st3 (.int .i64 0) (.int .i64 0) (.slice none 0 0)
        have u0 := dz.cell 0 (v := .int .i64 0) rfl
        have u1 := dz.cell 1 (v := .int .i64 0) rfl
        have u2 := dz.cell 2 (v := .slice none 0 0) rfl
        have k0 := dz.frozen 0
        have k1 := dz.frozen 1
        have k2 := dz.frozen 2
        have C0 := dd.cell 0 (v := .int .i64 0) rfl
        have C1 := dd.cell 1 (v := .int .i64 0) rfl
        have C2 := dd.cell 2 (v := .slice none 0 0) rfl
        have eF := xz.ex1 zz (Nat.le_refl _)
        go_wp2_with fail
        refine bodyPost_ret (v := .tuple #[.agg #[.int .i64 0, .int .i64 0, .slice none 0 0], .bool false]) (by simp [results, Tryz.results17, go_sem, C0, C1, C2]) rfl ?_
        rw [HN.out]
        exact ⟨none, 0, rfl, fun _ _ => ⟨RdC.nil _ _, OFX.nil _ _ _ _ _⟩, eF⟩
      | true =>
        rw [h2] at c3
        have hr1 : 0 ≤ r ∧ r ≤ 12 - l := by simpa [inB] using h2
        have HFB := Lib.hid hF
        have Hfit := Lib.hid (show fitB l r = true by rw [fit_two, h1, h2]; rfl)
        by_cases h24 : rows.length ≤ 24
        case neg =>
          have HN := Lib.hid (fromU_no (p := p) (l := l) (r := r) (rows := rows) (fun h => h24 (hN h).2.2.2))
          have hgt2 : (24 : Int) < (rows.length : Int) := by omega
          have hgt3 : 24 < rows.length := by omega
          clear hF hN h1 h2 h24
          go_enter Tryz.func17, Tryz.ntmps17
          go_wp2_with fail
          generalize w.alloc (.cells #[.int .i64 0, .int .i64 0, .slice none 0 0] 32) = W0 at *
          refine (c1 _).mono ?_
          rintro e w1 ⟨rfl, rfl⟩
          go_wp2_with fail
          refine (c2 _).mono ?_
          rintro e w2 ⟨rfl, rfl⟩
          go_wp2_with fail
          refine (c3 _).mono ?_
          rintro e w3 ⟨rfl, rfl⟩
          clear hsub
          have dz := d0
          have xz := x0
          obtain ⟨dd, zz⟩ := dz.st3 (.int .i64 0) (.int .i64 0) (.slice none 0 0)
          have u0 := dz.cell 0 (v := .int .i64 0) rfl
          have u1 := dz.cell 1 (v := .int .i64 0) rfl
          have u2 := dz.cell 2 (v := .slice none 0 0) rfl
          have k0 := dz.frozen 0
          have k1 := dz.frozen 1
          have k2 := dz.frozen 2
          have C0 := dd.cell 0 (v := .int .i64 0) rfl
          have C1 := dd.cell 1 (v := .int .i64 0) rfl
          have C2 := dd.cell 2 (v := .slice none 0 0) rfl
          have eF := xz.ex1 zz (Nat.le_refl _)
          go_wp2_with fail
          refine bodyPost_ret (v := .tuple #[.agg #[.int .i64 0, .int .i64 0, .slice none 0 0], .bool false]) (by simp [results, Tryz.results17, go_sem, C0, C1, C2]) rfl ?_
          rw [HN.out]
          exact ⟨none, 0, rfl, fun _ _ => ⟨RdC.nil _ _, OFX.nil _ _ _ _ _⟩, eF⟩
        have hgt2 : ¬ (24 : Int) < (rows.length : Int) := by omega
        have hgt3 : ¬ 24 < rows.length := by omega
        obtain ⟨L, hL⟩ : ∃ L : Nat, l = (L : Int) := ⟨l.toNat, by omega⟩
        obtain ⟨M, hM⟩ : ∃ M : Nat, r = (M : Int) := ⟨r.toNat, by omega⟩
        subst hL hM
        obtain ⟨N, hN2⟩ : ∃ N : Nat, L + M = N := ⟨_, rfl⟩
        have HN2 := Lib.hid hN2
        have htn : ((L : Int) + (M : Int)).toNat = N := by omega
        have Htn := Lib.hid htn
        have hwr : IntKind.i64.wrap ((L : Int) + (M : Int)) = (N : Int) := by rw [IntWalk.i64_in _ (by omega)]; omega
        have hN12 : N ≤ 12 := by omega
        clear hF hN h1 h2 hN2 htn hl1 hr1
        go_enter Tryz.func17, Tryz.ntmps17
        go_wp2_with fail
        generalize w.alloc (.cells #[.int .i64 0, .int .i64 0, .slice none 0 0] 32) = W0 at *
        refine (c1 _).mono ?_
        rintro e w1 ⟨rfl, rfl⟩
        go_wp2_with fail
        refine (c2 _).mono ?_
        rintro e w2 ⟨rfl, rfl⟩
        go_wp2_with fail
        refine (c3 _).mono ?_
        rintro e w3 ⟨rfl, rfl⟩
        clear c1 c2 c3 hsub
        go_wp2_with fail
        go_loopw [35] (fun s35 wr => ∃ k : Nat, k ≤ rows.length ∧ s35 = .int .i64 k ∧ Hid (okRows p N (rows.take k) = true) ∧ Ex W0 wr) (fun s35 _ => rows.length - (intOf s35).toNat)
        case atStart => exact ⟨0, Nat.zero_le _, rfl, Lib.hid rfl, Ex.refl _⟩
        case round =>
          obtain ⟨k, hk, rfl, Hok, he⟩ := hrel
          by_cases hlt : k < rows.length
          · obtain ⟨g, off, row, u, rfl, hr, b0, hu⟩ := (h.ex (x0.trans he)).fracs hlt
            obtain ⟨P, pc, rfl, hP⟩ := hu.form
            have Hr := Lib.hid hr
            have cG := rrGoodRow_c p N P pc row wr hP
            rw [okRow_sp (show (0 : Int) ≤ (N : Int) by omega), show ((N : Int)).toNat = N from rfl] at cG
            clear hr hu
            cases hb : okRow p N row with
            | true =>
              rw [hb] at cG
              have HS := Lib.hid (show okRows p N (rows.take (k + 1)) = true by
                rw [okRows, List.take_add_one, Hr.out, List.all_append]
                have := Hok.out
                rw [okRows] at this
                rw [this]
                simp [hb])
              clear hb
              go_wp2_with fail
              refine cG.mono ?_
              rintro e w4 ⟨rfl, x4⟩
              go_wp2_with fail
              go_roundw
              case rel => exact ⟨k + 1, by omega, by go_num, HS, he.trans x4⟩
              case measure => simp [intOf]; omega
            | false =>
              rw [hb] at cG
              have HN := Lib.hid (fromU_no (p := p) (l := L) (r := M) (rows := rows) (fun h => by
                have h4 := h.2.2.2
                rw [Htn.out] at h4
                have := List.all_eq_true.1 h4 row (List.mem_of_getElem? Hr.out)
                rw [hb] at this; cases this))
              clear hb
              go_wp2_with fail
              refine cG.mono ?_
              rintro e w4 ⟨rfl, x4⟩
              clear hwr
              have dz := d0.ex (he.trans x4)
              have xz := x0.trans (he.trans x4)
              obtain ⟨dd, zz⟩ := dz.st3 (.int .i64 0) (.int .i64 0) (.slice none 0 0)
              have u0 := dz.cell 0 (v := .int .i64 0) rfl
              have u1 := dz.cell 1 (v := .int .i64 0) rfl
              have u2 := dz.cell 2 (v := .slice none 0 0) rfl
              have k0 := dz.frozen 0
              have k1 := dz.frozen 1
              have k2 := dz.frozen 2
              have C0 := dd.cell 0 (v := .int .i64 0) rfl
              have C1 := dd.cell 1 (v := .int .i64 0) rfl
              have C2 := dd.cell 2 (v := .slice none 0 0) rfl
              have eF := xz.ex1 zz (Nat.le_refl _)
              go_wp2_with fail
              refine bodyPost_ret (v := .tuple #[.agg #[.int .i64 0, .int .i64 0, .slice none 0 0], .bool false]) (by simp [results, Tryz.results17, go_sem, C0, C1, C2]) rfl ?_
              rw [HN.out]
              exact ⟨none, 0, rfl, fun _ _ => ⟨RdC.nil _ _, OFX.nil _ _ _ _ _⟩, eF⟩
          · obtain rfl : k = rows.length := by omega
            have hok : okRows p N rows = true := by have := Hok.out; rwa [List.take_length] at this
            have HY := Lib.hid (fromU_yes (p := p) (l := L) (r := M) (rows := rows) ⟨HFB.out, Hfit.out, h24, by rw [Htn.out]; exact hok⟩)
            have cO := fun W hW => rrOf_c (fun _ => False) p L M rows A c W HFB.out (RowsN.of_rds h hW (fun _ e => e.elim)) (fun _ e => e.elim) (by rw [HN2.out]; exact okRows_wid hok) (by rw [HN2.out]; exact okRows_bd hok hN12) (by have := HN2.out; omega) (by omega)
            have HG := Lib.hid (show genU p (L : Int) (M : Int) rows = ifU p ⟨L, M, (frOps p).rref (L + M) rows⟩ by unfold genU; rw [Htn.out, HN2.out])
            generalize (frOps p).rref (L + M) rows = RR at *
            clear hok
            go_wp2_with fail
            refine (cO wr (x0.trans he)).mono ?_
            rintro e w4 ⟨A4, c4, rfl, r4, x4⟩
            clear cO
            go_wp2_with fail
            have cI := rrIf_c p ⟨L, M, RR⟩ A4 c4 w4 (r4 w4 (ExS.refl _ _))
            obtain ⟨⟨⟨rl, rr, rb⟩, bb⟩, hRES⟩ : ∃ RES, ifU p ⟨L, M, RR⟩ = RES := ⟨_, rfl⟩
            have HE := Lib.hid (HY.out.trans (HG.out.trans hRES))
            rw [hRES] at cI
            dsimp only at cI
            clear HY HG hRES
            refine cI.mono ?_
            clear cI
            rintro e w5 ⟨A5, c5, rfl, r5, x5⟩
            dsimp only at r5 ⊢
            have dz := d0.ex ((he.trans x4).trans x5)
            have xz := x0.trans ((he.trans x4).trans x5)
            obtain ⟨dd, zz⟩ := dz.st3 (.int .i64 rl) (.int .i64 rr) (.slice A5 rb.length c5)
            have u0 := dz.cell 0 (v := .int .i64 0) rfl
            have u1 := dz.cell 1 (v := .int .i64 0) rfl
            have u2 := dz.cell 2 (v := .slice none 0 0) rfl
            have k0 := dz.frozen 0
            have k1 := dz.frozen 1
            have k2 := dz.frozen 2
            have C0 := dd.cell 0 (v := .int .i64 rl) rfl
            have C1 := dd.cell 1 (v := .int .i64 rr) rfl
            have C2 := dd.cell 2 (v := .slice A5 rb.length c5) rfl
            have eF := xz.ex1 zz (Nat.le_refl _)
            have hzw := (x0.trans (he.trans x4)).size
            have hzy := (he.trans x4).size
            have hd0 := d0.lt
            have hst : ∀ w2, ExI 0 w.heap.size _ w2 → RdC w2 A5 rb ∧ OFX w2 w.heap.size w5.heap.size (.slice A5 rb.length c5) rb := fun w2 k => by
              have hh := r5 w2 (((ExI.of_ex1 zz).widen (Nat.zero_le _) (by omega)).trans (k.widen (Nat.le_refl _) (by omega)))
              exact ⟨hh.1, hh.2.more (by omega) (Nat.le_refl _)⟩
            go_wp2_with fail
            refine bodyPost_ret (v := .tuple #[.agg #[.int .i64 rl, .int .i64 rr, .slice A5 rb.length c5], .bool bb]) (by simp [results, Tryz.results17, go_sem, C0, C1, C2]) rfl ?_
            rw [RdB, HE.out]
            exact ⟨A5, c5, rfl, fun w2 k => ⟨(hst w2 k).1, (hst w2 k).2.more (Nat.le_refl _) (Nat.le_of_eq (by simp))⟩, eF⟩
end Go.Proofs.YtpeogfapnofeoaaGreatDoor
namespace Go.Proofs.YtpeogfapnofeoaaGreatDoor
set_option maxRecDepth 100000
open Go Go.RowKit
/-- Where the number in a cell lies. -/
def numS (w : World) (b o k : Nat) : Prop := ∃ (a : Addr) (m d : Nat), w.cell? ⟨b, o, none⟩ = some (.slice (some a) m d) ∧ a.block = k
theorem RatO.ofx {w : World} {B n : Nat} {v : Value} {rows : List (List Fra)} (h : RatO w B v rows n) (hl : rows.length ≤ 1099511627776) (hn : n ≤ 1099511627776) : ∃ (A : Option Addr) (c : Nat) (S : Nat → Prop), v = .slice A rows.length c ∧ (∀ k, S k → B ≤ k ∧ k < w.heap.size) ∧ OX EXR 34 w S A rows := by
  obtain ⟨S, S', R, G, bs, c, e, hc, hM, hO, h1, h2, h3, h4, h5⟩ := h
  have hG := h3 G hM.sg
  have num : ∀ {b o k : Nat}, R b o → numS w b o k → B ≤ k ∧ k < w.heap.size ∧ ¬ S' k := fun {b o k} hr hk => by
    obtain ⟨a, m, d, hcell, rfl⟩ := hk
    obtain ⟨⟨q1, _, cur, q2⟩, _⟩ := hO b o a m d hr hcell
    refine ⟨?_, heap_lt_of q2, q1⟩
    rcases Nat.lt_or_ge a.block B with q | q
    · exact absurd (h2 _ q) q1
    · exact q
  have same : ∀ {b o b' o' k : Nat}, R b o → R b' o' → numS w b o k → numS w b' o' k → b' = b ∧ o' = o := fun {b o b' o' k} hr hr' hk hk' => by
    obtain ⟨a, m, d, hcell, e1⟩ := hk
    obtain ⟨a', m', d', hcell', e2⟩ := hk'
    exact (hO b o a m d hr hcell).2 b' o' a' m' d' hr' hcell' (e2.trans e1.symm)
  refine ⟨some ⟨G, 0, none⟩, c, fun k => B ≤ k ∧ k < w.heap.size, e, fun k hk => hk, hl, fun j k => ∃ b : Nat, bs[j]? = some (some b) ∧ (k = b ∨ ∃ o, o < 2 * n ∧ numS w b o k), fun j r hj => ?_, fun i j k _ _ hne hi hj => ?_⟩
  · obtain ⟨cur, hcur, hx⟩ := hM.out
    have hjl := (List.getElem?_eq_some_iff.1 hj).1
    obtain ⟨ob, hob⟩ : ∃ ob, bs[j]? = some ob := ⟨_, List.getElem?_eq_getElem (by rw [hM.len]; exact hjl)⟩
    obtain ⟨pc, hpc, hcc⟩ := hx j ob hob
    obtain ⟨hF, hrn⟩ := hM.row j ob r hob hj
    refine ⟨G, 0, [.slice (pB ob) n pc], cur, rfl, hG, hcur, fun i u hu => ?_, ⟨pB ob, pc, by rw [hrn], by omega, ?_⟩, fun k hk => ?_, fun hk => ?_⟩
    · rcases i with _ | i
      · injection hu with hu
        subst hu
        rw [show EXR.k = 1 from rfl, Nat.mul_one, Nat.zero_add, Nat.add_zero]
        exact hcc
      · simp at hu
    · cases ob with
      | none =>
        have : r = [] := hF
        subst this
        exact OX.nil _ _ _ _ _
      | some b =>
        obtain ⟨hF, hSb⟩ := hF
        have hRb := (h5 j b hob).2
        obtain ⟨cu, hcu, hxs⟩ := hF
        have cellb : ∀ (o : Nat) (u : Value), cu[o]? = some u → w.cell? ⟨b, o, none⟩ = some u := fun o u hu => by simp [World.cell?, hcu, hu]
        refine ⟨by omega, fun i k => numS w b (i * 2) k ∨ numS w b (i * 2 + 1) k, fun i x hi => ?_, fun i i' k hi hi' hne q1 q2 => ?_⟩
        · have hil := (List.getElem?_eq_some_iff.1 hi).1
          obtain ⟨A1, c1, A2, c2, e1, e2, r1, r2⟩ := hxs i x hi
          have xi : ∀ (o : Nat) (A : Option Addr) (c : Nat) (l : List Int), o < 2 * n → cu[o]? = some (.slice A l.length c) → Rd w A l → XI w (fun k => numS w b o k) (.slice A l.length c) l := fun o A c l ho hcuo hr => by
            cases A with
            | none =>
              have : l = [] := by
                cases l with
                | nil => rfl
                | cons y l => obtain ⟨_, _, e, _⟩ := hr.2 0 (by simp); cases e
              subst this
              exact ⟨none, c, rfl, Fr.nil _ _ _, fun a e => by cases e⟩
            | some a =>
              obtain ⟨⟨_, q2, cur2, q3⟩, _⟩ := hO b o a l.length c (hRb o ho) (cellb o _ hcuo)
              exact ⟨some a, c, rfl, ⟨hr, q2, fun a' e => by injection e with e; subst e; exact ⟨Nat.zero_le _, cur2, q3⟩⟩, fun a' e => by injection e with e; subst e; exact ⟨a, l.length, c, cellb o _ hcuo, rfl⟩⟩
          refine ⟨b, 0, [.slice A1 x.n.length c1, .slice A2 x.d.length c2], cu, rfl, ⟨b, hob, .inl rfl⟩, hcu, fun q u hu => ?_, ⟨_, _, rfl, fun k => numS w b (i * 2) k, fun k => numS w b (i * 2 + 1) k, xi _ _ _ _ (by omega) e1 r1.1, xi _ _ _ _ (by omega) e2 r2.1, fun k hk => .inl hk, fun k hk => .inr hk, fun k q1 q2 => ?_⟩, fun k hk => ?_, fun hk => ?_⟩
          · rw [show EXF.k = 2 from rfl, Nat.zero_add]
            match q, hu with
            | 0, hu => simp at hu; rw [← hu]; exact e1
            | 1, hu => simp at hu; rw [← hu]; exact e2
          · have := (same (hRb _ (by omega)) (hRb _ (by omega)) q1 q2).2; omega
          · rcases hk with hk | hk
            · exact ⟨b, hob, .inr ⟨_, by omega, hk⟩⟩
            · exact ⟨b, hob, .inr ⟨_, by omega, hk⟩⟩
          · rcases hk with hk | hk
            · exact (num (hRb _ (by omega)) hk).2.2 (h1 _ hSb)
            · exact (num (hRb _ (by omega)) hk).2.2 (h1 _ hSb)
        · rcases q1 with q1 | q1 <;> rcases q2 with q2 | q2 <;>
            (have := (same (hRb _ (by omega)) (hRb _ (by omega)) q1 q2).2; omega)
    · obtain ⟨b, hb, hk⟩ := hk
      rcases hk with rfl | ⟨o, ho, hk⟩
      · exact h3 _ (h5 j _ hb).1
      · have := num ((h5 j b hb).2 o ho) hk
        exact ⟨this.1, this.2.1⟩
    · obtain ⟨b, hb, hk⟩ := hk
      rcases hk with rfl | ⟨o, ho, hk⟩
      · exact hM.ng j _ hb rfl
      · exact (num ((h5 j b hb).2 o ho) hk).2.2 (h1 _ hM.sg)
  · obtain ⟨b, hb, q1⟩ := hi
    obtain ⟨b', hb', q2⟩ := hj
    have hbb : b ≠ b' := fun e2 => hne (by subst e2; exact hM.nd i j b hb hb')
    rcases q1 with rfl | ⟨o, ho, q1⟩
    · rcases q2 with rfl | ⟨o', ho', q2⟩
      · exact hbb rfl
      · exact (num ((h5 j b' hb').2 o' ho') q2).2.2 (h1 _ (h5 i _ hb).1)
    · rcases q2 with rfl | ⟨o', ho', q2⟩
      · exact (num ((h5 i b hb).2 o ho) q1).2.2 (h1 _ (h5 j _ hb').1)
      · exact hbb (same ((h5 i b hb).2 o ho) ((h5 j b' hb').2 o' ho') q1 q2).1.symm
end Go.Proofs.YtpeogfapnofeoaaGreatDoor
namespace Go.Proofs.YtpeogfapnofeoaaGreatDoor
set_option maxRecDepth 100000
open Go Go.RowKit
theorem totF_le {p : Int} {L : Nat} {r : List Fra} (h : GdR p L r) : totF r ≤ 2 * L * r.length := by
  induction r with
  | nil => exact Int.le_refl _
  | cons x r ih =>
    have h1 := ih fun y hy => h y (List.mem_cons_of_mem _ hy)
    have h2 : totF (x :: r) = EF.tot x + totF r := totS_cons EF x r
    have h3 := (h x List.mem_cons_self).2
    have h4 : EF.tot x = (x.n.length : Int) + (x.d.length : Int) := rfl
    have h5 := h3.1
    have h6 := h3.2
    rw [h2, h4, List.length_cons]
    have : ((2 * L * (r.length + 1) : Nat) : Int) = 2 * L * r.length + 2 * L := by rw [Nat.mul_add]; push_cast; omega
    push_cast at this ⊢
    omega
theorem totFF_le {p : Int} {L n : Nat} {b : List (List Fra)} (h : GdM p L b) (hw : Wid n b) : totFF b ≤ 2 * L * n * b.length := by
  induction b with
  | nil => exact Int.le_refl _
  | cons r b ih =>
    have h1 := ih (fun y hy => h y (List.mem_cons_of_mem _ hy)) (fun y hy => hw y (List.mem_cons_of_mem _ hy))
    have h2 : totFF (r :: b) = totF r + totFF b := totS_cons EFF _ _
    have h3 := totF_le (h r List.mem_cons_self)
    rw [hw r List.mem_cons_self] at h3
    rw [h2, List.length_cons]
    have : ((2 * L * n * (b.length + 1) : Nat) : Int) = 2 * L * n * b.length + 2 * L * n := by rw [Nat.mul_add]; push_cast; omega
    push_cast at this ⊢
    omega
theorem rrB_tot {p : Int} {x : RRel} (h : rrB p x = true) : totFF x.b ≤ 1000000 := by
  obtain ⟨l, r, _, _, hlr, hg, hw, _, hb, _⟩ := rrB_has h
  have h1 := totFF_le hg hw
  have h2 : ((2 * 21 * (l + r) * x.b.length : Nat) : Int) ≤ ((2 * 21 * 12 * 12 : Nat) : Int) := by
    have := Nat.mul_le_mul (Nat.mul_le_mul (Nat.le_refl (2 * 21)) hlr) hb
    exact_mod_cast this
  push_cast at h1 h2
  omega
theorem ifU_tot (p : Int) (x : RRel) : totFF (ifU p x).1.b ≤ 1125899906842624 := by
  cases h : rrB p x with
  | true => rw [ifU_yes h]; have := rrB_tot h; show totFF x.b ≤ _; omega
  | false => rw [ifU_no h]; show (0 : Int) ≤ _; omega
theorem fromU_tot (p l r : Int) (rows : List (List Fra)) : totFF (fromU p l r rows).1.b ≤ 1125899906842624 := by
  by_cases h : fromC p l r rows
  · rw [fromU_yes h]; exact ifU_tot _ _
  · rw [fromU_no h]; show (0 : Int) ≤ _; omega
/-- One of two values. -/
def pickV (b : Bool) (u v : Value) : Value := if b = true then u else v
/-- The program's test of a list that is reduced. -/
def vrB (p l r : Int) (b : List (List Fra)) : Bool := fitB l r && (okRows p (l + r).toNat b && fieldB p)
theorem rrB_rref {p l r : Int} {rows : List (List Fra)} (hF : fieldB p = true) (hg : ∀ v ∈ rows, ∀ x ∈ v, FV p x) (hw : Wid (l + r).toNat rows) : rrB p ⟨l, r, (frOps p).rref (l + r).toNat rows⟩ = vrB p l r ((frOps p).rref (l + r).toNat rows) := by
  have hR := (rref_good hF hg hw).1
  rw [Bool.eq_iff_iff, rrB_iff]
  unfold vrB
  rw [Bool.and_eq_true, Bool.and_eq_true]
  exact ⟨fun h => ⟨h.2.1, h.2.2.1, hF⟩, fun h => ⟨hF, h.1, h.2.1, hR⟩⟩
theorem off_nil (w : World) (a b : Nat) : OFF w a b (.slice none 0 0) [] := ⟨⟨none, 0, fun _ => False, rfl, fun k hk => hk.elim, OX.nil _ _ _ _ _⟩, by show (0 : Int) ≤ _; omega⟩
set_option maxHeartbeats 2000000 in
theorem ratRelation_c (p : Int) (l r : Nat) (rows : List (List Fra)) (A : Option Addr) (c : Nat) (w : World) (hF : fieldB p = true) (h : RdS EFF w A rows) (hw : Wid (l + r) rows) (hGd : ∀ c, c ≤ l + r → GdM p 17179869184 (stg (frOps p) rows c).1) (hn : l + r ≤ 1000) (hR : rows.length ≤ 1000) :
    Calls Tryz.prog 55 #[.int .i64 p, .int .i64 l, .int .i64 r, .slice A rows.length c] w fun e w' => ∃ y, e = .returned (.agg #[.int .i64 l, .int .i64 r, y]) ∧ OFX w' w.heap.size w'.heap.size y ((frOps p).rref (l + r) rows) ∧ Ex w w' := by
  have hwr : IntKind.i64.wrap ((l : Int) + (r : Int)) = ((l + r : Nat) : Int) := by rw [IntWalk.i64_in _ (by omega)]; omega
  have x0 := (Ex.refl w).alloc (.cells #[.int .i64 0, .int .i64 0, .slice none 0 0] 32)
  have d0 := VB.new w 32 #[.int .i64 0, .int .i64 0, .slice none 0 0]
  have cR := ratReduced_c p (l + r) rows A c (w.alloc (.cells #[.int .i64 0, .int .i64 0, .slice none 0 0] 32)) hF (h.ex x0) hw hGd hn hR
  have hrl : ((frOps p).rref (l + r) rows).length ≤ 1000 := by
    unfold Ops.rref
    rw [List.length_take, red_len]
    omega
  clear hF h hw hGd hR
  generalize (frOps p).rref (l + r) rows = RR at *
  obtain ⟨N, hN⟩ : ∃ N, l + r = N := ⟨_, rfl⟩
  rw [hN] at hwr cR hn
  clear hN
  go_enter Tryz.func55, Tryz.ntmps55
  go_wp2_with fail
  generalize w.alloc (.cells #[.int .i64 0, .int .i64 0, .slice none 0 0] 32) = W0 at *
  refine cR.mono ?_
  rintro e w1 ⟨v, rfl, o, x1⟩
  have fx : OFX w1 W0.heap.size w1.heap.size v RR := o.ofx (by omega) (by omega)
  obtain ⟨A1, c1, rfl, _⟩ := fx.rd
  have hlt := d0.lt
  clear cR o
  have dz := d0.ex x1
  have xz := x0.trans x1
  obtain ⟨dd, zz⟩ := dz.st3 (.int .i64 l) (.int .i64 r) (.slice A1 RR.length c1)
  have u0 := dz.cell 0 (v := .int .i64 0) rfl
  have u1 := dz.cell 1 (v := .int .i64 0) rfl
  have u2 := dz.cell 2 (v := .slice none 0 0) rfl
  have k0 := dz.frozen 0
  have k1 := dz.frozen 1
  have k2 := dz.frozen 2
  have C0 := dd.cell 0 (v := .int .i64 l) rfl
  have C1 := dd.cell 1 (v := .int .i64 r) rfl
  have C2 := dd.cell 2 (v := .slice A1 RR.length c1) rfl
  have eF := xz.ex1 zz (Nat.le_refl _)
  have fx2 := fx.iv (ExI.of_ex1 zz) (by omega)
  have fx3 := fx2.more (a' := w.heap.size) (b' := w1.heap.size) (by omega) (Nat.le_refl _)
  go_wp2_with fail
  refine bodyPost_ret (v := .agg #[.int .i64 l, .int .i64 r, .slice A1 RR.length c1]) (by simp [results, Tryz.results55, go_sem, C0, C1, C2]) rfl ?_
  exact ⟨_, rfl, fx3.more (Nat.le_refl _) (Nat.le_of_eq (by simp)), eF⟩
set_option maxHeartbeats 4000000 in
theorem validRat_c (p : Int) (x : RRel) (A : Option Addr) (c : Nat) (w : World) (h : RdS EFF w A x.b) (ht : Tb w) :
    Calls Tryz.prog 54 #[.int .i64 p, .agg #[.int .i64 x.l, .int .i64 x.r, .slice A x.b.length c]] w fun e w' => e = .returned (.tuple #[pickV (vrB p x.l x.r x.b) (.agg #[.int .i64 x.l, .int .i64 x.r, .slice A x.b.length c]) (.agg #[.int .i64 0, .int .i64 0, .slice none 0 0]), .bool (vrB p x.l x.r x.b)]) ∧ Ex w w' := by
  obtain ⟨l, r, rows⟩ := x
  dsimp only at h ⊢
  have hl := h.1
  have y0 := (Ex.refl w).alloc (.cells #[.int .i64 l, .int .i64 r, .slice A rows.length c] 32)
  have d0 := VB.new w 32 #[.int .i64 l, .int .i64 r, .slice A rows.length c]
  have S0 := Lib.hid (show (w.alloc (.cells #[.int .i64 l, .int .i64 r, .slice A rows.length c] 32)).heap.size = w.heap.size + 1 by simp)
  cases hfit : fitB l r with
  | false =>
    have HV := Lib.hid (show vrB p l r rows = false by unfold vrB; rw [hfit]; rfl)
    have c1 : ∀ W, Calls Tryz.prog 52 #[.int .i64 l, .int .i64 r] W fun e w' => e = .returned (.bool false) ∧ W = w' := fun W => by have := ratFits_c l r W; rw [hfit] at this; exact this
    clear hfit
    go_enter Tryz.func54, Tryz.ntmps54
    go_wp2_with fail
    generalize w.alloc (.cells #[.int .i64 l, .int .i64 r, .slice A rows.length c] 32) = W0 at *
    have y2 := (Ex.refl W0).alloc (.cells #[.int .i64 0, .int .i64 0, .slice none 0 0] 32)
    have d2 := VB.new W0 32 #[.int .i64 0, .int .i64 0, .slice none 0 0]
    rw [S0.out] at d2
    generalize W0.alloc (.cells #[.int .i64 0, .int .i64 0, .slice none 0 0] 32) = W2 at *
    have xx := y0.trans y2
    have q := d0.ex y2
    clear y0 y2
    have q0 := q.cell 0 (v := .int .i64 l) rfl
    have q1 := q.cell 1 (v := .int .i64 r) rfl
    refine (c1 _).mono ?_
    rintro e w3 ⟨rfl, rfl⟩
    have dz := d2
    have xz := xx
    obtain ⟨dd, zz⟩ := dz.st3 (.int .i64 0) (.int .i64 0) (.slice none 0 0)
    have u0 := dz.cell 0 (v := .int .i64 0) rfl
    have u1 := dz.cell 1 (v := .int .i64 0) rfl
    have u2 := dz.cell 2 (v := .slice none 0 0) rfl
    have k0 := dz.frozen 0
    have k1 := dz.frozen 1
    have k2 := dz.frozen 2
    have C0 := dd.cell 0 (v := .int .i64 0) rfl
    have C1 := dd.cell 1 (v := .int .i64 0) rfl
    have C2 := dd.cell 2 (v := .slice none 0 0) rfl
    have eF := xz.ex1 zz (by omega)
    go_wp2_with fail
    refine bodyPost_ret (v := .tuple #[.agg #[.int .i64 0, .int .i64 0, .slice none 0 0], .bool false]) (by simp [results, Tryz.results54, go_sem, C0, C1, C2]) rfl ?_
    rw [HV.out]
    exact ⟨rfl, eF⟩
  | true =>
    have hlr := fit_lt hfit
    obtain ⟨N, hN⟩ : ∃ N : Nat, (l + r).toNat = N := ⟨_, rfl⟩
    have hwr : IntKind.i64.wrap (l + r) = (N : Int) := by rw [IntWalk.i64_in _ (by omega)]; omega
    have hN12 : N ≤ 12 := by omega
    have HVB := Lib.hid (show vrB p l r rows = (okRows p N rows && fieldB p) by unfold vrB; rw [hfit, hN]; rfl)
    have c1 : ∀ W, Calls Tryz.prog 52 #[.int .i64 l, .int .i64 r] W fun e w' => e = .returned (.bool true) ∧ W = w' := fun W => by have := ratFits_c l r W; rw [hfit] at this; exact this
    have c2 := fun W (hW : Ex w W) => areRows_c p N A c rows W (h.ex hW) (by omega) (ht.ex hW)
    clear hfit hlr hN
    cases hok : (okRows p N rows && fieldB p) with
    | false =>
      have HV := Lib.hid (HVB.out.trans hok)
      rw [hok] at c2
      clear hok
      go_enter Tryz.func54, Tryz.ntmps54
      go_wp2_with fail
      generalize w.alloc (.cells #[.int .i64 l, .int .i64 r, .slice A rows.length c] 32) = W0 at *
      have y2 := (Ex.refl W0).alloc (.cells #[.int .i64 0, .int .i64 0, .slice none 0 0] 32)
      have d2 := VB.new W0 32 #[.int .i64 0, .int .i64 0, .slice none 0 0]
      rw [S0.out] at d2
      generalize W0.alloc (.cells #[.int .i64 0, .int .i64 0, .slice none 0 0] 32) = W2 at *
      have xx := y0.trans y2
      have q := d0.ex y2
      clear y0 y2
      have q0 := q.cell 0 (v := .int .i64 l) rfl
      have q1 := q.cell 1 (v := .int .i64 r) rfl
      have q2 := q.cell 2 (v := .slice A rows.length c) rfl
      refine (c1 _).mono ?_
      rintro e w3 ⟨rfl, rfl⟩
      go_wp2_with fail
      refine (c2 W2 xx).mono ?_
      rintro e w4 ⟨rfl, x4⟩
      clear hwr
      have dz := d2.ex x4
      have xz := xx.trans x4
      obtain ⟨dd, zz⟩ := dz.st3 (.int .i64 0) (.int .i64 0) (.slice none 0 0)
      have u0 := dz.cell 0 (v := .int .i64 0) rfl
      have u1 := dz.cell 1 (v := .int .i64 0) rfl
      have u2 := dz.cell 2 (v := .slice none 0 0) rfl
      have k0 := dz.frozen 0
      have k1 := dz.frozen 1
      have k2 := dz.frozen 2
      have C0 := dd.cell 0 (v := .int .i64 0) rfl
      have C1 := dd.cell 1 (v := .int .i64 0) rfl
      have C2 := dd.cell 2 (v := .slice none 0 0) rfl
      have eF := xz.ex1 zz (by omega)
      go_wp2_with fail
      refine bodyPost_ret (v := .tuple #[.agg #[.int .i64 0, .int .i64 0, .slice none 0 0], .bool false]) (by simp [results, Tryz.results54, go_sem, C0, C1, C2]) rfl ?_
      rw [HV.out]
      exact ⟨rfl, eF⟩
    | true =>
      have HV := Lib.hid (HVB.out.trans hok)
      rw [hok] at c2
      clear hok
      go_enter Tryz.func54, Tryz.ntmps54
      go_wp2_with fail
      generalize w.alloc (.cells #[.int .i64 l, .int .i64 r, .slice A rows.length c] 32) = W0 at *
      have y2 := (Ex.refl W0).alloc (.cells #[.int .i64 0, .int .i64 0, .slice none 0 0] 32)
      have d2 := VB.new W0 32 #[.int .i64 0, .int .i64 0, .slice none 0 0]
      rw [S0.out] at d2
      generalize W0.alloc (.cells #[.int .i64 0, .int .i64 0, .slice none 0 0] 32) = W2 at *
      have xx := y0.trans y2
      have q := d0.ex y2
      clear y0 y2
      have q0 := q.cell 0 (v := .int .i64 l) rfl
      have q1 := q.cell 1 (v := .int .i64 r) rfl
      have q2 := q.cell 2 (v := .slice A rows.length c) rfl
      refine (c1 _).mono ?_
      rintro e w3 ⟨rfl, rfl⟩
      go_wp2_with fail
      refine (c2 W2 xx).mono ?_
      rintro e w4 ⟨rfl, x4⟩
      clear hwr
      replace q0 := cell_ex x4 q0
      replace q1 := cell_ex x4 q1
      replace q2 := cell_ex x4 q2
      have dz := d2.ex x4
      have xz := xx.trans x4
      obtain ⟨dd, zz⟩ := dz.st3 (.int .i64 l) (.int .i64 r) (.slice A rows.length c)
      have u0 := dz.cell 0 (v := .int .i64 0) rfl
      have u1 := dz.cell 1 (v := .int .i64 0) rfl
      have u2 := dz.cell 2 (v := .slice none 0 0) rfl
      have k0 := dz.frozen 0
      have k1 := dz.frozen 1
      have k2 := dz.frozen 2
      have C0 := dd.cell 0 (v := .int .i64 l) rfl
      have C1 := dd.cell 1 (v := .int .i64 r) rfl
      have C2 := dd.cell 2 (v := .slice A rows.length c) rfl
      have eF := xz.ex1 zz (by omega)
      go_wp2_with fail
      refine bodyPost_ret (v := .tuple #[.agg #[.int .i64 l, .int .i64 r, .slice A rows.length c], .bool true]) (by simp [results, Tryz.results54, go_sem, C0, C1, C2]) rfl ?_
      rw [HV.out]
      exact ⟨rfl, eF⟩
set_option maxHeartbeats 8000000 in
theorem RatRelationFrom_u (p l r : Int) (rows : List (List Fra)) (v : Value) (w : World) (h : RFF w v rows) (ht : Tb w) :
    Calls Tryz.prog 19 #[.int .i64 p, .int .i64 l, .int .i64 r, v] w fun e w' => ∃ y0, e = .returned (.tuple #[.agg #[.int .i64 (fromU p l r rows).1.l, .int .i64 (fromU p l r rows).1.r, y0], .bool (fromU p l r rows).2]) ∧ ORRel w' w.heap.size w'.heap.size y0 (fromU p l r rows).1 ∧ Ex w w' := by
  obtain ⟨⟨A, c, rfl, h⟩, _⟩ := h
  have hl := h.1
  have x0 := (Ex.refl w).alloc (.cells #[.int .i64 0, .int .i64 0, .slice none 0 0] 32)
  have d0 := VB.new w 32 #[.int .i64 0, .int .i64 0, .slice none 0 0]
  have c1 := fun W (hW : Ex w W) => isField_c p W (ht.ex hW)
  have c2 : ∀ W, Calls Tryz.prog 52 #[.int .i64 l, .int .i64 r] W fun e w' => e = .returned (.bool (fitB l r)) ∧ W = w' := fun W => ratFits_c l r W
  cases hF : fieldB p with
  | false =>
    have HN := Lib.hid (fromU_no (p := p) (l := l) (r := r) (rows := rows) (fun h => by have := h.1; rw [hF] at this; cases this))
    rw [hF] at c1
    clear hF c2
    go_enter Tryz.func19, Tryz.ntmps19
    go_wp2_with fail
    generalize w.alloc (.cells #[.int .i64 0, .int .i64 0, .slice none 0 0] 32) = W0 at *
    refine (c1 _ x0).mono ?_
    rintro e w1 ⟨rfl, rfl⟩
    have dz := d0
    have xz := x0
    obtain ⟨dd, zz⟩ := dz.st3 (.int .i64 0) (.int .i64 0) (.slice none 0 0)
    have u0 := dz.cell 0 (v := .int .i64 0) rfl
    have u1 := dz.cell 1 (v := .int .i64 0) rfl
    have u2 := dz.cell 2 (v := .slice none 0 0) rfl
    have k0 := dz.frozen 0
    have k1 := dz.frozen 1
    have k2 := dz.frozen 2
    have C0 := dd.cell 0 (v := .int .i64 0) rfl
    have C1 := dd.cell 1 (v := .int .i64 0) rfl
    have C2 := dd.cell 2 (v := .slice none 0 0) rfl
    have eF := xz.ex1 zz (Nat.le_refl _)
    go_wp2_with fail
    refine bodyPost_ret (v := .tuple #[.agg #[.int .i64 0, .int .i64 0, .slice none 0 0], .bool false]) (by simp [results, Tryz.results19, go_sem, C0, C1, C2]) rfl ?_
    rw [HN.out]
    exact ⟨_, rfl, ⟨w.heap.size, w.heap.size, off_nil _ _ _, Nat.le_refl _, eF.size⟩, eF⟩
  | true =>
    rw [hF] at c1
    cases hfit : fitB l r with
    | false =>
      have HN := Lib.hid (fromU_no (p := p) (l := l) (r := r) (rows := rows) (fun h => by have := h.2.1; rw [hfit] at this; cases this))
      rw [hfit] at c2
      clear hF hfit
      go_enter Tryz.func19, Tryz.ntmps19
      go_wp2_with fail
      generalize w.alloc (.cells #[.int .i64 0, .int .i64 0, .slice none 0 0] 32) = W0 at *
      refine (c1 _ x0).mono ?_
      rintro e w1 ⟨rfl, rfl⟩
      go_wp2_with fail
      refine (c2 _).mono ?_
      rintro e w2 ⟨rfl, rfl⟩
      have dz := d0
      have xz := x0
      obtain ⟨dd, zz⟩ := dz.st3 (.int .i64 0) (.int .i64 0) (.slice none 0 0)
      have u0 := dz.cell 0 (v := .int .i64 0) rfl
      have u1 := dz.cell 1 (v := .int .i64 0) rfl
      have u2 := dz.cell 2 (v := .slice none 0 0) rfl
      have k0 := dz.frozen 0
      have k1 := dz.frozen 1
      have k2 := dz.frozen 2
      have C0 := dd.cell 0 (v := .int .i64 0) rfl
      have C1 := dd.cell 1 (v := .int .i64 0) rfl
      have C2 := dd.cell 2 (v := .slice none 0 0) rfl
      have eF := xz.ex1 zz (Nat.le_refl _)
      go_wp2_with fail
      refine bodyPost_ret (v := .tuple #[.agg #[.int .i64 0, .int .i64 0, .slice none 0 0], .bool false]) (by simp [results, Tryz.results19, go_sem, C0, C1, C2]) rfl ?_
      rw [HN.out]
      exact ⟨_, rfl, ⟨w.heap.size, w.heap.size, off_nil _ _ _, Nat.le_refl _, eF.size⟩, eF⟩
    | true =>
      rw [hfit] at c2
      have hlr := fit_lt hfit
      have HFB := Lib.hid hF
      have Hfit := Lib.hid hfit
      by_cases h24 : rows.length ≤ 24
      case neg =>
        have HN := Lib.hid (fromU_no (p := p) (l := l) (r := r) (rows := rows) (fun h => h24 h.2.2.1))
        have hgt2 : (24 : Int) < (rows.length : Int) := by omega
        have hgt3 : 24 < rows.length := by omega
        clear hF hfit h24
        go_enter Tryz.func19, Tryz.ntmps19
        go_wp2_with fail
        generalize w.alloc (.cells #[.int .i64 0, .int .i64 0, .slice none 0 0] 32) = W0 at *
        refine (c1 _ x0).mono ?_
        rintro e w1 ⟨rfl, rfl⟩
        go_wp2_with fail
        refine (c2 _).mono ?_
        rintro e w2 ⟨rfl, rfl⟩
        have dz := d0
        have xz := x0
        obtain ⟨dd, zz⟩ := dz.st3 (.int .i64 0) (.int .i64 0) (.slice none 0 0)
        have u0 := dz.cell 0 (v := .int .i64 0) rfl
        have u1 := dz.cell 1 (v := .int .i64 0) rfl
        have u2 := dz.cell 2 (v := .slice none 0 0) rfl
        have k0 := dz.frozen 0
        have k1 := dz.frozen 1
        have k2 := dz.frozen 2
        have C0 := dd.cell 0 (v := .int .i64 0) rfl
        have C1 := dd.cell 1 (v := .int .i64 0) rfl
        have C2 := dd.cell 2 (v := .slice none 0 0) rfl
        have eF := xz.ex1 zz (Nat.le_refl _)
        go_wp2_with fail
        refine bodyPost_ret (v := .tuple #[.agg #[.int .i64 0, .int .i64 0, .slice none 0 0], .bool false]) (by simp [results, Tryz.results19, go_sem, C0, C1, C2]) rfl ?_
        rw [HN.out]
        exact ⟨_, rfl, ⟨w.heap.size, w.heap.size, off_nil _ _ _, Nat.le_refl _, eF.size⟩, eF⟩
      have hgt2 : ¬ (24 : Int) < (rows.length : Int) := by omega
      have hgt3 : ¬ 24 < rows.length := by omega
      obtain ⟨L, hL⟩ : ∃ L : Nat, l = (L : Int) := ⟨l.toNat, by omega⟩
      obtain ⟨M, hM⟩ : ∃ M : Nat, r = (M : Int) := ⟨r.toNat, by omega⟩
      subst hL hM
      obtain ⟨N, hN2⟩ : ∃ N : Nat, L + M = N := ⟨_, rfl⟩
      have HN2 := Lib.hid hN2
      have htn : ((L : Int) + (M : Int)).toNat = N := by omega
      have Htn := Lib.hid htn
      have hwr : IntKind.i64.wrap ((L : Int) + (M : Int)) = (N : Int) := by rw [IntWalk.i64_in _ (by omega)]; omega
      have hN12 : N ≤ 12 := by omega
      have c3 := fun W (hW : Ex w W) => areRows_c p N A c rows W (h.ex hW) (by omega) (ht.ex hW)
      rw [hF, Bool.and_true] at c3
      clear hF hfit hN2 htn hlr
      cases hok : okRows p N rows with
      | false =>
        have HN := Lib.hid (fromU_no (p := p) (l := L) (r := M) (rows := rows) (fun h => by
          have h4 := h.2.2.2
          rw [Htn.out, hok] at h4; cases h4))
        rw [hok] at c3
        clear hok
        go_enter Tryz.func19, Tryz.ntmps19
        go_wp2_with fail
        generalize w.alloc (.cells #[.int .i64 0, .int .i64 0, .slice none 0 0] 32) = W0 at *
        refine (c1 _ x0).mono ?_
        rintro e w1 ⟨rfl, rfl⟩
        go_wp2_with fail
        refine (c2 _).mono ?_
        rintro e w2 ⟨rfl, rfl⟩
        go_wp2_with fail
        refine (c3 _ x0).mono ?_
        rintro e w3 ⟨rfl, x3⟩
        clear hwr
        have dz := d0.ex x3
        have xz := x0.trans x3
        obtain ⟨dd, zz⟩ := dz.st3 (.int .i64 0) (.int .i64 0) (.slice none 0 0)
        have u0 := dz.cell 0 (v := .int .i64 0) rfl
        have u1 := dz.cell 1 (v := .int .i64 0) rfl
        have u2 := dz.cell 2 (v := .slice none 0 0) rfl
        have k0 := dz.frozen 0
        have k1 := dz.frozen 1
        have k2 := dz.frozen 2
        have C0 := dd.cell 0 (v := .int .i64 0) rfl
        have C1 := dd.cell 1 (v := .int .i64 0) rfl
        have C2 := dd.cell 2 (v := .slice none 0 0) rfl
        have eF := xz.ex1 zz (Nat.le_refl _)
        go_wp2_with fail
        refine bodyPost_ret (v := .tuple #[.agg #[.int .i64 0, .int .i64 0, .slice none 0 0], .bool false]) (by simp [results, Tryz.results19, go_sem, C0, C1, C2]) rfl ?_
        rw [HN.out]
        exact ⟨_, rfl, ⟨w.heap.size, w.heap.size, off_nil _ _ _, Nat.le_refl _, eF.size⟩, eF⟩
      | true =>
        rw [hok] at c3
        have HY := Lib.hid (fromU_yes (p := p) (l := L) (r := M) (rows := rows) ⟨HFB.out, Hfit.out, h24, by rw [Htn.out]; exact hok⟩)
        have cO := fun W hW => ratRelation_c p L M rows A c W HFB.out (h.ex hW) (by rw [HN2.out]; exact okRows_wid hok) (by rw [HN2.out]; exact okRows_bd hok hN12) (by have := HN2.out; omega) (by omega)
        have HG := Lib.hid (show genU p (L : Int) (M : Int) rows = ifU p ⟨L, M, (frOps p).rref (L + M) rows⟩ by unfold genU; rw [Htn.out, HN2.out])
        have HV := Lib.hid (show rrB p ⟨L, M, (frOps p).rref (L + M) rows⟩ = vrB p L M ((frOps p).rref (L + M) rows) by
          have := rrB_rref (p := p) (l := L) (r := M) (rows := rows) HFB.out (gd_fv (okRows_gd hok)) (by rw [Htn.out]; exact okRows_wid hok)
          rw [Htn.out, ← HN2.out] at this
          exact this)
        generalize (frOps p).rref (L + M) rows = RR at *
        clear hok
        go_enter Tryz.func19, Tryz.ntmps19
        go_wp2_with fail
        generalize w.alloc (.cells #[.int .i64 0, .int .i64 0, .slice none 0 0] 32) = W0 at *
        refine (c1 _ x0).mono ?_
        rintro e w1 ⟨rfl, rfl⟩
        go_wp2_with fail
        refine (c2 _).mono ?_
        rintro e w2 ⟨rfl, rfl⟩
        go_wp2_with fail
        refine (c3 _ x0).mono ?_
        rintro e w3 ⟨rfl, x3⟩
        clear c1 c2 c3 hwr
        go_wp2_with fail
        refine (cO w3 (x0.trans x3)).mono ?_
        rintro e w4 ⟨y4, rfl, fx, x4⟩
        obtain ⟨A4, c4, rfl, r4⟩ := fx.rd
        clear cO
        have cV := validRat_c p ⟨L, M, RR⟩ A4 c4 w4 r4 (ht.ex ((x0.trans x3).trans x4))
        dsimp only at cV
        have hz0 := d0.lt
        have hz3 := x3.size
        have hzw := x0.size
        cases hv : vrB p L M RR with
        | false =>
          rw [hv] at cV
          have HN := Lib.hid (show fromU p L M rows = (⟨0, 0, []⟩, false) by rw [HY.out, HG.out]; exact ifU_no (HV.out.trans hv))
          rw [show pickV false (Value.agg #[.int .i64 (L : Int), .int .i64 (M : Int), .slice A4 RR.length c4]) (Value.agg #[.int .i64 0, .int .i64 0, .slice none 0 0]) = Value.agg #[.int .i64 0, .int .i64 0, .slice none 0 0] from rfl] at cV
          clear hv
          go_wp2_with fail
          refine cV.mono ?_
          rintro e w5 ⟨rfl, x5⟩
          clear cV
          have dz := d0.ex ((x3.trans x4).trans x5)
          have xz := x0.trans ((x3.trans x4).trans x5)
          obtain ⟨dd, zz⟩ := dz.st3 (.int .i64 0) (.int .i64 0) (.slice none 0 0)
          have u0 := dz.cell 0 (v := .int .i64 0) rfl
          have u1 := dz.cell 1 (v := .int .i64 0) rfl
          have u2 := dz.cell 2 (v := .slice none 0 0) rfl
          have k0 := dz.frozen 0
          have k1 := dz.frozen 1
          have k2 := dz.frozen 2
          have C0 := dd.cell 0 (v := .int .i64 0) rfl
          have C1 := dd.cell 1 (v := .int .i64 0) rfl
          have C2 := dd.cell 2 (v := .slice none 0 0) rfl
          have eF := xz.ex1 zz (Nat.le_refl _)
          go_wp2_with fail
          refine bodyPost_ret (v := .tuple #[.agg #[.int .i64 0, .int .i64 0, .slice none 0 0], .bool false]) (by simp [results, Tryz.results19, go_sem, C0, C1, C2]) rfl ?_
          rw [HN.out]
          exact ⟨_, rfl, ⟨w.heap.size, w.heap.size, off_nil _ _ _, Nat.le_refl _, eF.size⟩, eF⟩
        | true =>
          rw [hv] at cV
          have hrr := HV.out.trans hv
          have HE := Lib.hid (show fromU p L M rows = (⟨L, M, RR⟩, true) by rw [HY.out, HG.out]; exact ifU_yes hrr)
          have htt : totFF RR ≤ 1125899906842624 := by have h1 := rrB_tot hrr; dsimp only at h1; omega
          rw [show pickV true (Value.agg #[.int .i64 (L : Int), .int .i64 (M : Int), .slice A4 RR.length c4]) (Value.agg #[.int .i64 0, .int .i64 0, .slice none 0 0]) = Value.agg #[.int .i64 (L : Int), .int .i64 (M : Int), .slice A4 RR.length c4] from rfl] at cV
          clear hv hrr
          go_wp2_with fail
          refine cV.mono ?_
          rintro e w5 ⟨rfl, x5⟩
          clear cV
          have dz := d0.ex ((x3.trans x4).trans x5)
          have xz := x0.trans ((x3.trans x4).trans x5)
          obtain ⟨dd, zz⟩ := dz.st3 (.int .i64 L) (.int .i64 M) (.slice A4 RR.length c4)
          have u0 := dz.cell 0 (v := .int .i64 0) rfl
          have u1 := dz.cell 1 (v := .int .i64 0) rfl
          have u2 := dz.cell 2 (v := .slice none 0 0) rfl
          have k0 := dz.frozen 0
          have k1 := dz.frozen 1
          have k2 := dz.frozen 2
          have C0 := dd.cell 0 (v := .int .i64 L) rfl
          have C1 := dd.cell 1 (v := .int .i64 M) rfl
          have C2 := dd.cell 2 (v := .slice A4 RR.length c4) rfl
          have eF := xz.ex1 zz (Nat.le_refl _)
          have fx2 := (fx.ex x5).iv (ExI.of_ex1 zz) (by omega)
          have hz5 := x5.size
          have fx3 := (fx2.more (a' := w.heap.size) (b' := w5.heap.size) (by omega) hz5).off htt
          go_wp2_with fail
          refine bodyPost_ret (v := .tuple #[.agg #[.int .i64 L, .int .i64 M, .slice A4 RR.length c4], .bool true]) (by simp [results, Tryz.results19, go_sem, C0, C1, C2]) rfl ?_
          rw [HE.out]
          exact ⟨_, rfl, ⟨_, _, fx3, Nat.le_refl _, Nat.le_of_eq (by simp)⟩, eF⟩
theorem spRatRelationFrom_u (p l r : Int) (rows : List (List Fra)) (v : Value) (w : World) (h : RFF w v rows) :
    Calls Tryz.prog 17 #[.int .i64 p, .int .i64 l, .int .i64 r, v] w fun e w' => ∃ y0, e = .returned (.tuple #[.agg #[.int .i64 (fromU p l r rows).1.l, .int .i64 (fromU p l r rows).1.r, y0], .bool (fromU p l r rows).2]) ∧ RRRel w' y0 (fromU p l r rows).1 ∧ Ex w w' := by
  obtain ⟨⟨A, c, rfl, h⟩, _⟩ := h
  refine (spFrom_c p l r rows A c w h).mono ?_
  rintro e w' ⟨A1, c1, rfl, hr, x1⟩
  exact ⟨_, rfl, ⟨⟨A1, c1, rfl, (hr w' (ExI.refl _ _ _)).1.1⟩, fromU_tot p l r rows⟩, x1⟩
end Go.Proofs.YtpeogfapnofeoaaGreatDoor
