/- ConstantRelation, on both sides: the plain answer, lists of lists that are collected beside a struct of the call's own. -/
import Derived.Test.YtfpogndbmhnfkaaGreatDoorPkK
import Derived.Test.YtfpogndbmhnfkaaGreatDoorPkM
import Derived.Test.YtfpogndbmhnfkaaGreatDoorPkN
import Derived.Test.YtfpogndbmhnfkaaGreatDoorPkF
namespace Go.Proofs.YtfpogndbmhnfkaaGreatDoor
set_option maxRecDepth 100000
open Go Go.RowKit
/-- Whether all fractions are constants. -/
def cstR (r : List Fra) : Bool := r.all fun x => decide (x.n.length ≤ 1) && decide (x.d.length ≤ 1)
def cstB (rows : List (List Fra)) : Bool := rows.all cstR
def cstV (r : List Fra) : List Int := r.map fun x => x.n[0]?.getD 0
def cstL (rows : List (List Fra)) : List (List Int) := rows.map cstV
noncomputable def conU (p : Int) (x : RRel) : Rln × Bool := if rrB p x = true ∧ cstB x.b = true then (⟨x.l, x.r, cstL x.b⟩, true) else (⟨0, 0, []⟩, false)
theorem rrB_parts {p : Int} {x : RRel} (h : rrB p x = true) : x.b.length ≤ 12 ∧ ∀ r ∈ x.b, r.length ≤ 12 := by
  obtain ⟨h1, h2, h3, h4⟩ := rrB_iff.1 h
  have h5 := fit_lt h2
  have h6 := rrp_len h1 (gd_fv (okRows_gd h3)) h4
  exact ⟨by omega, fun r hr => by have := okRows_wid h3 r hr; omega⟩
theorem cstL_tot {rows : List (List Fra)} (h : ∀ r ∈ rows, r.length ≤ 12) : totM (cstL rows) ≤ 12 * rows.length := by
  induction rows with
  | nil => exact Int.le_refl _
  | cons r rows ih =>
    have h1 := ih fun r hr => h r (List.mem_cons_of_mem _ hr)
    have h2 := h r List.mem_cons_self
    have : totM (cstL (r :: rows)) = (r.length : Int) + totM (cstL rows) := by simp [cstL, cstV, totM, tot]
    rw [this, List.length_cons]
    omega
theorem GM.k1 {w w' : World} {B H k : Nat} {v : Value} {rows : List (List Int)} (h : GM w B H v rows) (he : Ex1 k w w') (hk : k < B) : GM w' B H v rows := by
  obtain ⟨hH, hown, hs, al, bl, ho, h1, h2⟩ := h
  have hB : ∀ z, v.ownBlock = some z → B ≤ z := fun z e => (World.ownsRow.lt ho z e).1
  refine ⟨Nat.le_trans hH he.size, hown, hs, al, bl, ownsRow_keep ho fun z e hz => he.block z hz (fun e2 => ?_), fun j r hj => ?_, h2⟩
  · have := hB z e
    first | (injection e2 with e2; omega) | omega
  · obtain ⟨A, c, q1, q2, q3, q4, q5⟩ := h1 j r hj
    exact ⟨A, c, q1, q2.iv (ExI.of_ex1 he) (by omega), q3, q4, q5⟩
/-- A fresh relation, and whether. -/
def RLB (w : World) (r : Rln × Bool) (e : Ending) (w' : World) : Prop := ∃ y0, e = .returned (.tuple #[.agg #[.int .i64 r.1.l, .int .i64 r.1.r, y0], .bool r.2]) ∧ ORln w' w.heap.size w'.heap.size y0 r.1 ∧ Ex w w'
theorem om2_nil (w : World) (a b : Nat) : OM2 w a b (.slice none 0 0) [] := ⟨⟨none, 0, rfl, FMI.nil _ _ _ _⟩, by show (0 : Int) ≤ _; omega⟩
theorem conU_no {p : Int} {x : RRel} (h : ¬ (rrB p x = true ∧ cstB x.b = true)) : conU p x = (⟨0, 0, []⟩, false) := if_neg h
theorem conU_yes {p : Int} {x : RRel} (h : rrB p x = true ∧ cstB x.b = true) : conU p x = (⟨x.l, x.r, cstL x.b⟩, true) := if_pos h
theorem cst_step {r : List Fra} {k : Nat} {x : Fra} (h : r[k]? = some x) : cstV (r.take (k + 1)) = cstV (r.take k) ++ [x.n[0]?.getD 0] := by rw [List.take_add_one, h]; simp [cstV]
theorem cstL_step {rows : List (List Fra)} {k : Nat} {r : List Fra} (h : rows[k]? = some r) : cstL (rows.take (k + 1)) = cstL (rows.take k) ++ [cstV r] := by rw [List.take_add_one, h]; simp [cstL]
theorem cst_bad {rows : List (List Fra)} {r : List Fra} {x : Fra} {k j : Nat} (hr : rows[k]? = some r) (hx : r[j]? = some x) (h : ¬ (x.n.length ≤ 1 ∧ x.d.length ≤ 1)) : cstB rows = false := by
  refine List.all_eq_false.2 ⟨r, List.mem_of_getElem? hr, ?_⟩
  have : cstR r = false := List.all_eq_false.2 ⟨x, List.mem_of_getElem? hx, by simp; omega⟩
  simp [this]
theorem cst_good {rows : List (List Fra)} (h : ∀ (k : Nat) (r : List Fra), rows[k]? = some r → ∀ (j : Nat) (x : Fra), r[j]? = some x → x.n.length ≤ 1 ∧ x.d.length ≤ 1) : cstB rows = true := by
  refine List.all_eq_true.2 fun r hr => List.all_eq_true.2 fun x hx => ?_
  obtain ⟨k, hk⟩ := List.getElem?_of_mem hr
  obtain ⟨j, hj⟩ := List.getElem?_of_mem hx
  simpa using h k r hk j x hj
set_option maxHeartbeats 8000000 in
theorem ConstantRelation_u (p : Int) (x : RRel) (v0 : Value) (w : World) (h : RRRel w v0 x) (ht : Tb w) :
    Calls Tryz.prog 19 #[.int .i64 p, .agg #[.int .i64 x.l, .int .i64 x.r, v0]] w fun e w' => RLB w (conU p x) e w' := by
  have h00 := h
  obtain ⟨⟨A, c, rfl, h⟩, _⟩ := h
  have hl := h.1
  have y0 := (Ex.refl w).alloc (.cells #[.int .i64 x.l, .int .i64 x.r, .slice A x.b.length c] 32)
  have d0 := VB.new w 32 #[.int .i64 x.l, .int .i64 x.r, .slice A x.b.length c]
  have S0 := Lib.hid (show (w.alloc (.cells #[.int .i64 x.l, .int .i64 x.r, .slice A x.b.length c] 32)).heap.size = w.heap.size + 1 by simp)
  go_enter Tryz.func19, Tryz.ntmps19
  go_wp2_with fail
  generalize w.alloc (.cells #[.int .i64 x.l, .int .i64 x.r, .slice A x.b.length c] 32) = W0 at *
  have y2 := (Ex.refl W0).alloc (.cells #[.int .i64 0, .int .i64 0, .slice none 0 0] 41)
  have d2 := VB.new W0 41 #[.int .i64 0, .int .i64 0, .slice none 0 0]
  rw [S0.out] at d2
  generalize W0.alloc (.cells #[.int .i64 0, .int .i64 0, .slice none 0 0] 41) = W2 at *
  have xx := y0.trans y2
  have d0 := d0.ex y2
  clear y0 y2 S0
  refine (IsRatRelation_u p x (.slice A x.b.length c) W2 (h00.ex xx) (ht.ex xx)).mono ?_
  rintro e w3 ⟨rfl, x3⟩
  have d0 := d0.ex x3
  have d2 := d2.ex x3
  have xx := xx.trans x3
  clear x3 h00
  have p0 := d0.cell 0 (v := .int .i64 x.l) rfl
  have p1 := d0.cell 1 (v := .int .i64 x.r) rfl
  have p2 := d0.cell 2 (v := .slice A x.b.length c) rfl
  have z0 := d2.cell 0 (v := .int .i64 0) rfl
  have z1 := d2.cell 1 (v := .int .i64 0) rfl
  have z2 := d2.cell 2 (v := .slice none 0 0) rfl
  have hlt2 := d2.lt
  have fz0 := d2.frozen 0
  have fz1 := d2.frozen 1
  have fz2 := d2.frozen 2
  cases hb : rrB p x with
  | false =>
    have HN := Lib.hid (conU_no (p := p) (x := x) (by rw [hb]; simp))
    clear hb
    obtain ⟨dd, zz⟩ := d2.st3 (.int .i64 0) (.int .i64 0) (.slice none 0 0)
    have C0 := dd.cell 0 (v := .int .i64 0) rfl
    have C1 := dd.cell 1 (v := .int .i64 0) rfl
    have C2 := dd.cell 2 (v := .slice none 0 0) rfl
    have eF := xx.ex1 zz (by omega)
    go_wp2_with fail
    refine bodyPost_ret (v := .tuple #[.agg #[.int .i64 0, .int .i64 0, .slice none 0 0], .bool false]) (by simp [results, Tryz.results19, go_sem, C0, C1, C2]) rfl ?_
    rw [RLB, HN.out]
    exact ⟨_, rfl, ⟨w.heap.size, w.heap.size, om2_nil _ _ _, Nat.le_refl _, eF.size⟩, eF⟩
  | true =>
    have Hb := Lib.hid hb
    have HP := Lib.hid (rrB_parts hb)
    clear hb
    have hx12 := HP.out.1
    have y6 := (Ex.refl w3).alloc (.cells #[.int .i64 x.l, .int .i64 x.r, .slice none 0 0] 41)
    have d6 := VB.new w3 41 #[.int .i64 x.l, .int .i64 x.r, .slice none 0 0]
    have s6 : (w3.alloc (.cells #[.int .i64 x.l, .int .i64 x.r, .slice none 0 0] 41)).heap.size = w3.heap.size + 1 := by simp
    have p2a := (d0.ex y6).cell 2 (v := .slice A x.b.length c) rfl
    go_wp2_with fail
    generalize w3.alloc (.cells #[.int .i64 x.l, .int .i64 x.r, .slice none 0 0] 41) = W6 at *
    clear p0 p1 p2 p2a z0 z1 z2 fz0 fz1 fz2
    go_loopw [25] (fun i wr => ∃ (k : Nat) (v : Value), k ≤ x.b.length ∧ i = .int .i64 k ∧ VB wr w3.heap.size 41 #[.int .i64 x.l, .int .i64 x.r, v] ∧ GM wr (w3.heap.size + 1) wr.heap.size v (cstL (x.b.take k)) ∧ Hid (∀ (k' : Nat) (r : List Fra), k' < k → x.b[k']? = some r → ∀ (j : Nat) (z : Fra), r[j]? = some z → z.n.length ≤ 1 ∧ z.d.length ≤ 1) ∧ Ex w3 wr) (fun i _ => x.b.length - (intOf i).toNat)
    case atStart => exact ⟨0, _, Nat.zero_le _, rfl, d6, GM.nil _ _ _ (Nat.le_refl _), Lib.hid (fun k' r hk => by omega), y6⟩
    case round =>
      clear d6 s6 y6
      rename World => w7
      obtain ⟨k, v, hk, rfl, d6, hgm, Hall, he⟩ := hrel
      by_cases hlt : k < x.b.length
      · obtain ⟨g, off, r, u, eA, hr, b0, hu⟩ := (h.ex (xx.trans he)).fracs hlt
        obtain ⟨P, pc, rfl, hP⟩ := hu.form
        subst eA
        have hr12 := HP.out.2 r (List.mem_of_getElem? hr)
        have Hr := Lib.hid hr
        clear hr hu
        go_wp2_with fail
        have ha0 := (Ex.refl w7).alloc (.cells #[] 3)
        go_loopw [9, 32] (fun o i wi => ∃ j : Nat, j ≤ r.length ∧ i = .int .i64 j ∧ AL wi w7.heap.size o (cstV (r.take j)) ∧ Hid (∀ (j' : Nat) (z : Fra), j' < j → r[j']? = some z → z.n.length ≤ 1 ∧ z.d.length ≤ 1) ∧ Ex w7 wi) (fun _ i _ => r.length - (intOf i).toNat)
        case atStart => exact ⟨0, Nat.zero_le _, rfl, AL.empty w7 (Nat.le_refl _), Lib.hid (fun j z hj => by omega), ha0⟩
        case round =>
          rename World => wi
          obtain ⟨j, hj, rfl, hal, Hin, hi⟩ := hrel
          by_cases hlt2 : j < r.length
          · obtain ⟨g2, off2, y, P2, pc2, Q2, qc2, eP, hy, c0, c1, hP2, hQ2⟩ := (hP.ex hi).frac hlt2
            subst eP
            have Hy := Lib.hid hy
            clear hy
            have y1 := (Ex.refl wi).alloc (.cells #[.slice P2 y.n.length pc2, .slice Q2 y.d.length qc2] 67)
            have dy := VB.new wi 67 #[.slice P2 y.n.length pc2, .slice Q2 y.d.length qc2]
            have hn0 := hP2.len
            have hd0 := hQ2.len
            have cdeg : ∀ (A : Option Addr) (c n : Nat) (W : World), n ≤ 1099511627776 → Calls Tryz.prog 58 #[.slice A n c] W fun e w' => e = .returned (.int .i64 ((n : Int) - 1)) ∧ W = w' := fun A c n W hn => degree_c A c n W hn
            by_cases hn1 : y.n.length ≤ 1
            · by_cases hd1 : y.d.length ≤ 1
              · have hcst := cst_step Hy.out
                have g1 : ¬ (0 : Int) < (y.n.length : Int) - 1 := by omega
                have g2' : ¬ (0 : Int) < (y.d.length : Int) - 1 := by omega
                go_wp2_with fail
                generalize wi.alloc (.cells #[.slice P2 y.n.length pc2, .slice Q2 y.d.length qc2] 67) = W1 at *
                have a0 := dy.cell 0 (v := .slice P2 y.n.length pc2) rfl
                have a1 := dy.cell 1 (v := .slice Q2 y.d.length qc2) rfl
                refine (cdeg P2 pc2 y.n.length W1 hn0).mono ?_
                rintro e w1 ⟨rfl, rfl⟩
                go_wp2_with fail
                refine (cdeg Q2 qc2 y.d.length W1 hd0).mono ?_
                rintro e w1 ⟨rfl, rfl⟩
                go_wp2_with fail
                refine (coefficient_c P2 pc2 y.n 0 (Int.le_refl 0) W1 (hP2.ex y1)).mono ?_
                rintro e w1 ⟨rfl, rfl⟩
                obtain ⟨v5, w5, hrun, hal5, hE5⟩ := al_push W1 w7.heap.size _ _ (y.n[0]?.getD 0) (hal.ex y1) (by have := hi.size; have := y1.size; omega) (by simp [cstV]; omega)
                rw [← hcst] at hal5
                have x5 := hE5 w7 (hi.trans y1) (Nat.le_refl _)
                have HI := Lib.hid (show ∀ (j' : Nat) (z : Fra), j' < j + 1 → r[j']? = some z → z.n.length ≤ 1 ∧ z.d.length ≤ 1 from fun j' z hj' hz => by
                  by_cases e : j' < j
                  · exact Hin.out j' z e hz
                  · obtain rfl : j' = j := by omega
                    rw [Hy.out] at hz
                    injection hz with hz
                    subst hz
                    exact ⟨hn1, hd1⟩)
                clear g1 g2' hcst hE5 hal hn1 hd1
                go_wp2_with (at_builtin; refine wpList_append_run rfl _ _ _ rfl rfl rfl hrun ?_)
                go_roundw
                case rel => exact ⟨j + 1, by omega, by go_num, hal5, HI, x5⟩
                case measure => simp [intOf]; omega
              · have g1 : ¬ (0 : Int) < (y.n.length : Int) - 1 := by omega
                have g2' : (0 : Int) < (y.d.length : Int) - 1 := by omega
                have HBD := Lib.hid (show ¬ (y.n.length ≤ 1 ∧ y.d.length ≤ 1) by omega)
                go_wp2_with fail
                generalize wi.alloc (.cells #[.slice P2 y.n.length pc2, .slice Q2 y.d.length qc2] 67) = W1 at *
                have a0 := dy.cell 0 (v := .slice P2 y.n.length pc2) rfl
                have a1 := dy.cell 1 (v := .slice Q2 y.d.length qc2) rfl
                refine (cdeg P2 pc2 y.n.length W1 hn0).mono ?_
                rintro e w1 ⟨rfl, rfl⟩
                go_wp2_with fail
                refine (cdeg Q2 qc2 y.d.length W1 hd0).mono ?_
                rintro e w1 ⟨rfl, rfl⟩
                have HNo := Lib.hid (conU_no (p := p) (x := x) (fun hc => by rw [cst_bad Hr.out Hy.out HBD.out] at hc; cases hc.2))
                have dz := (((d2.ex he).ex hi).ex y1)
                obtain ⟨dd, zz⟩ := dz.st3 (.int .i64 0) (.int .i64 0) (.slice none 0 0)
                have u0 := dz.cell 0 (v := .int .i64 0) rfl
                have u1 := dz.cell 1 (v := .int .i64 0) rfl
                have u2 := dz.cell 2 (v := .slice none 0 0) rfl
                have k0 := dz.frozen 0
                have k1 := dz.frozen 1
                have k2 := dz.frozen 2
                have C0 := dd.cell 0 (v := .int .i64 0) rfl
                have C1 := dd.cell 1 (v := .int .i64 0) rfl
                have C2 := dd.cell 2 (v := .slice none 0 0) rfl
                have eF := ((((xx.trans he).trans hi).trans y1)).ex1 zz (by omega)
                go_wp2_with fail
                refine bodyPost_ret (v := .tuple #[.agg #[.int .i64 0, .int .i64 0, .slice none 0 0], .bool false]) (by simp [results, Tryz.results19, go_sem, C0, C1, C2]) rfl ?_
                rw [RLB, HNo.out]
                exact ⟨_, rfl, ⟨w.heap.size, w.heap.size, om2_nil _ _ _, Nat.le_refl _, eF.size⟩, eF⟩
            · have g1 : (0 : Int) < (y.n.length : Int) - 1 := by omega
              have HBD := Lib.hid (show ¬ (y.n.length ≤ 1 ∧ y.d.length ≤ 1) by omega)
              go_wp2_with fail
              generalize wi.alloc (.cells #[.slice P2 y.n.length pc2, .slice Q2 y.d.length qc2] 67) = W1 at *
              have a0 := dy.cell 0 (v := .slice P2 y.n.length pc2) rfl
              refine (cdeg P2 pc2 y.n.length W1 hn0).mono ?_
              rintro e w1 ⟨rfl, rfl⟩
              have HNo := Lib.hid (conU_no (p := p) (x := x) (fun hc => by rw [cst_bad Hr.out Hy.out HBD.out] at hc; cases hc.2))
              have dz := (((d2.ex he).ex hi).ex y1)
              obtain ⟨dd, zz⟩ := dz.st3 (.int .i64 0) (.int .i64 0) (.slice none 0 0)
              have u0 := dz.cell 0 (v := .int .i64 0) rfl
              have u1 := dz.cell 1 (v := .int .i64 0) rfl
              have u2 := dz.cell 2 (v := .slice none 0 0) rfl
              have k0 := dz.frozen 0
              have k1 := dz.frozen 1
              have k2 := dz.frozen 2
              have C0 := dd.cell 0 (v := .int .i64 0) rfl
              have C1 := dd.cell 1 (v := .int .i64 0) rfl
              have C2 := dd.cell 2 (v := .slice none 0 0) rfl
              have eF := ((((xx.trans he).trans hi).trans y1)).ex1 zz (by omega)
              go_wp2_with fail
              refine bodyPost_ret (v := .tuple #[.agg #[.int .i64 0, .int .i64 0, .slice none 0 0], .bool false]) (by simp [results, Tryz.results19, go_sem, C0, C1, C2]) rfl ?_
              rw [RLB, HNo.out]
              exact ⟨_, rfl, ⟨w.heap.size, w.heap.size, om2_nil _ _ _, Nat.le_refl _, eF.size⟩, eF⟩
          · obtain rfl : j = r.length := by omega
            rw [List.take_length] at hal
            obtain ⟨A5, c5, rfl, f5⟩ := hal.form (by simp [cstV]; omega)
            have hcl : (cstV r).length ≤ 12 := by simp [cstV]; exact hr12
            have zi := hi.size
            obtain ⟨v', w', hrun, hgm', ho', _, hE'⟩ := GM.push (hgm.ex hi) f5.fi (Nat.le_refl _) (Nat.le_refl _) (Nat.lt_of_lt_of_le d6.lt (Nat.le_refl _)) (by have := List.length_take_le k x.b; simp [cstL]; omega)
            rw [← cstL_step Hr.out] at hgm'
            have d6i := d6.ex hi
            have d6w : VB w' w3.heap.size 41 #[.int .i64 x.l, .int .i64 x.r, v] := (ho'.block w3.heap.size d6i.lt (fun e => by have := World.ownsRow.lt hgm.2.2.choose_spec.choose_spec.choose_spec.1 w3.heap.size e.symm; omega)).trans d6i
            obtain ⟨A7, c7, rfl, _⟩ := hgm'.fmi (by have := List.length_take_le (k + 1) x.b; simp [cstL]; omega)
            have q2 := d6i.cell 2 (v := v) rfl
            have q3 := d6w.cell 2 (v := v) rfl
            have fz := d6w.frozen 2
            have xw : Ex w3 w' := hE' w3 (he.trans hi) (by omega)
            have yz : Ex1 w3.heap.size w' (w'.setCell ⟨w3.heap.size, 2, none⟩ (.slice A7 (cstL (x.b.take (k + 1))).length c7)) := (Ex1.refl _ w').setCell (p := ⟨w3.heap.size, 2, none⟩) rfl _
            have hgm2 := hgm'.k1 yz (by omega)
            have d62 : VB (w'.setCell ⟨w3.heap.size, 2, none⟩ (.slice A7 (cstL (x.b.take (k + 1))).length c7)) w3.heap.size 41 #[.int .i64 x.l, .int .i64 x.r, .slice A7 (cstL (x.b.take (k + 1))).length c7] := d6w.set_ 2 _
            have xw2 := xw.ex1 yz (Nat.le_refl _)
            have HK := Lib.hid (show ∀ (k' : Nat) (r' : List Fra), k' < k + 1 → x.b[k']? = some r' → ∀ (j : Nat) (z : Fra), r'[j]? = some z → z.n.length ≤ 1 ∧ z.d.length ≤ 1 from fun k' r' hk' hr' => by
              by_cases e : k' < k
              · exact Hall.out k' r' e hr'
              · obtain rfl : k' = k := by omega
                rw [Hr.out] at hr'
                injection hr' with hr'
                subst hr'
                exact fun j z hz => Hin.out j z (List.getElem?_eq_some_iff.1 hz).1 hz)
            clear hgm' hgm hE' ho' Hin Hall
            go_wp2_with (at_builtin; refine wpList_append_run rfl _ _ _ rfl rfl rfl hrun ?_)
            go_roundw
            case rel => exact ⟨k + 1, _, by omega, by go_num, d62, hgm2.more (Nat.le_refl _) (Nat.le_of_eq (by simp)) (Nat.le_refl _), HK, xw2⟩
            case measure => simp [intOf]; omega
      · obtain rfl : k = x.b.length := by omega
        rw [List.take_length] at hgm
        have HY := Lib.hid (conU_yes (p := p) (x := x) ⟨Hb.out, cst_good fun k r hr => Hall.out k r (List.getElem?_eq_some_iff.1 hr).1 hr⟩)
        obtain ⟨A7, c7, rfl, hf⟩ := hgm.fmi (by simp [cstL]; omega)
        have d2r := d2.ex he
        obtain ⟨dd, zz⟩ := d2r.st3 (.int .i64 x.l) (.int .i64 x.r) (.slice A7 (cstL x.b).length c7)
        have u0 := d2r.cell 0 (v := .int .i64 0) rfl
        have u1 := d2r.cell 1 (v := .int .i64 0) rfl
        have u2 := d2r.cell 2 (v := .slice none 0 0) rfl
        have k0 := d2r.frozen 0
        have k1 := d2r.frozen 1
        have k2 := d2r.frozen 2
        have t0 := d6.cell 0 (v := .int .i64 x.l) rfl
        have t1 := d6.cell 1 (v := .int .i64 x.r) rfl
        have t2 := d6.cell 2 (v := .slice A7 (cstL x.b).length c7) rfl
        have C0 := dd.cell 0 (v := .int .i64 x.l) rfl
        have C1 := dd.cell 1 (v := .int .i64 x.r) rfl
        have C2 := dd.cell 2 (v := .slice A7 (cstL x.b).length c7) rfl
        have eF := (xx.trans he).ex1 zz (by omega)
        have sz : _ = w7.heap.size := (by simp : (((w7.setCell ⟨w.heap.size + 1, 0, none⟩ (.int .i64 x.l)).setCell ⟨w.heap.size + 1, 1, none⟩ (.int .i64 x.r)).setCell ⟨w.heap.size + 1, 2, none⟩ (.slice A7 (cstL x.b).length c7)).heap.size = w7.heap.size)
        have FM := (hf.iv (ExI.of_ex1 zz) (by omega)).more (Nat.le_refl _) (Nat.le_of_eq sz.symm)
        have TM : totM (cstL x.b) ≤ 1125899906842624 := by have := cstL_tot HP.out.2; omega
        go_wp2_with fail
        refine bodyPost_ret (v := .tuple #[.agg #[.int .i64 x.l, .int .i64 x.r, .slice A7 (cstL x.b).length c7], .bool true]) (by simp [results, Tryz.results19, go_sem, C0, C1, C2]) rfl ?_
        rw [RLB, HY.out]
        exact ⟨_, rfl, ⟨_, _, ⟨⟨_, _, rfl, FM⟩, TM⟩, by have := xx.size; omega, Nat.le_refl _⟩, eF⟩
end Go.Proofs.YtfpogndbmhnfkaaGreatDoor
