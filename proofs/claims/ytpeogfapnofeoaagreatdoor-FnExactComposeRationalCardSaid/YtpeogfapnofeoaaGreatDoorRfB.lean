/- The reference's rrIf (a valid relation copied) and rrRows; RatFunctionOf: the reference. -/
import Derived.Test.YtpeogfapnofeoaaGreatDoorRfA
import Derived.Test.YtpeogfapnofeoaaGreatDoorPkAC
import Derived.Test.YtpeogfapnofeoaaGreatDoorPkN
namespace Go.Proofs.YtpeogfapnofeoaaGreatDoor
set_option maxRecDepth 100000
open Go Go.RowKit
noncomputable def ifU (p : Int) (x : RRel) : RRel × Bool := if rrB p x = true then (x, true) else (⟨0, 0, []⟩, false)
theorem ifU_no {p : Int} {x : RRel} (h : rrB p x = false) : ifU p x = (⟨0, 0, []⟩, false) := if_neg (by rw [h]; simp)
theorem ifU_yes {p : Int} {x : RRel} (h : rrB p x = true) : ifU p x = (x, true) := if_pos h
theorem rrB_small {p : Int} {x : RRel} (h : rrB p x = true) : x.b.length ≤ 12 ∧ ∀ r ∈ x.b, r.length ≤ 12 := by
  obtain ⟨h1, h2, h3, h4⟩ := rrB_iff.1 h
  have h5 := fit_lt h2
  have h6 := rrp_len h1 (gd_fv (okRows_gd h3)) h4
  exact ⟨by omega, fun r hr => by have := okRows_wid h3 r hr; omega⟩
/-- A relation that reads, and whether. -/
def RdB (w : World) (r : RRel × Bool) (e : Ending) (w' : World) : Prop := ∃ A c, e = .returned (.tuple #[.agg #[.int .i64 r.1.l, .int .i64 r.1.r, .slice A r.1.b.length c], .bool r.2]) ∧ (∀ w2, ExI 0 w.heap.size w' w2 → RdC w2 A r.1.b ∧ OFX w2 w.heap.size w'.heap.size (.slice A r.1.b.length c) r.1.b) ∧ Ex w w'
set_option maxHeartbeats 8000000 in
theorem rrIf_c (p : Int) (x : RRel) (A : Option Addr) (c : Nat) (w : World) (h : RdS EFF w A x.b) :
    Calls Tryz.prog 49 #[.int .i64 p, .agg #[.int .i64 x.l, .int .i64 x.r, .slice A x.b.length c]] w fun e w' => RdB w (ifU p x) e w' := by
  have hl := h.1
  have y0 := (Ex.refl w).alloc (.cells #[.int .i64 x.l, .int .i64 x.r, .slice A x.b.length c] 32)
  have d0 := VB.new w 32 #[.int .i64 x.l, .int .i64 x.r, .slice A x.b.length c]
  have S0 := Lib.hid (show (w.alloc (.cells #[.int .i64 x.l, .int .i64 x.r, .slice A x.b.length c] 32)).heap.size = w.heap.size + 1 by simp)
  go_enter Tryz.func49, Tryz.ntmps49
  go_wp2_with fail
  generalize w.alloc (.cells #[.int .i64 x.l, .int .i64 x.r, .slice A x.b.length c] 32) = W0 at *
  have y2 := (Ex.refl W0).alloc (.cells #[.int .i64 0, .int .i64 0, .slice none 0 0] 32)
  have d2 := VB.new W0 32 #[.int .i64 0, .int .i64 0, .slice none 0 0]
  rw [S0.out] at d2
  generalize W0.alloc (.cells #[.int .i64 0, .int .i64 0, .slice none 0 0] 32) = W2 at *
  have xx := y0.trans y2
  have d0 := d0.ex y2
  clear y0 y2 S0
  refine (rrGood_c p x A c W2 (h.ex xx)).mono ?_
  rintro e w3 ⟨b0, rfl, hb0, x3⟩
  obtain rfl := rrB_of hb0
  clear hb0
  have d0 := d0.ex x3
  have d2 := d2.ex x3
  have xx := xx.trans x3
  clear x3
  have p0 := d0.cell 0 (v := .int .i64 x.l) rfl
  have p1 := d0.cell 1 (v := .int .i64 x.r) rfl
  have p2 := d0.cell 2 (v := .slice A x.b.length c) rfl
  have z0 := d2.cell 0 (v := .int .i64 0) rfl
  have z1 := d2.cell 1 (v := .int .i64 0) rfl
  have z2 := d2.cell 2 (v := .slice none 0 0) rfl
  have hlt2 := d2.lt
  have fz0 := d2.frozen 0
  have fz1 := d2.frozen 1
  have fz2 := d2.frozen 2
  cases hb : rrB p x with
  | false =>
    have HN := Lib.hid (ifU_no hb)
    clear hb
    obtain ⟨dd, zz⟩ := d2.st3 (.int .i64 0) (.int .i64 0) (.slice none 0 0)
    have C0 := dd.cell 0 (v := .int .i64 0) rfl
    have C1 := dd.cell 1 (v := .int .i64 0) rfl
    have C2 := dd.cell 2 (v := .slice none 0 0) rfl
    have eF := xx.ex1 zz (by omega)
    go_wp2_with fail
    refine bodyPost_ret (v := .tuple #[.agg #[.int .i64 0, .int .i64 0, .slice none 0 0], .bool false]) (by simp [results, Tryz.results49, go_sem, C0, C1, C2]) rfl ?_
    rw [RdB, HN.out]
    exact ⟨none, 0, rfl, fun _ _ => ⟨⟨⟨by simp, fun j x hj => by simp at hj⟩, fun j x hj => by simp at hj⟩, OFX.nil _ _ _ _ _⟩, eF⟩
  | true =>
    have Hb := Lib.hid hb
    have HP := Lib.hid (rrB_small hb)
    clear hb
    have hx12 := HP.out.1
    have y6 := (Ex.refl w3).alloc (.cells #[.int .i64 x.l, .int .i64 x.r, .slice none 0 0] 32)
    have d6 := VB.new w3 32 #[.int .i64 x.l, .int .i64 x.r, .slice none 0 0]
    have s6 : (w3.alloc (.cells #[.int .i64 x.l, .int .i64 x.r, .slice none 0 0] 32)).heap.size = w3.heap.size + 1 := by simp
    have p2a := (d0.ex y6).cell 2 (v := .slice A x.b.length c) rfl
    go_wp2_with fail
    generalize w3.alloc (.cells #[.int .i64 x.l, .int .i64 x.r, .slice none 0 0] 32) = W6 at *
    clear p0 p1 p2 p2a z0 z1 z2 fz0 fz1 fz2
    go_loopw [25] (fun i wr => ∃ (k : Nat) (v : Value), k ≤ x.b.length ∧ i = .int .i64 k ∧ VB wr w3.heap.size 32 #[.int .i64 x.l, .int .i64 x.r, v] ∧ GE ELS 34 wr (w3.heap.size + 1) wr.heap.size v (x.b.take k) ∧ Ex w3 wr) (fun i _ => x.b.length - (intOf i).toNat)
    case atStart => exact ⟨0, _, Nat.zero_le _, rfl, d6, GE.nil _ _ _ _ _, y6⟩
    case round =>
      clear d6 s6 y6
      rename World => w7
      obtain ⟨k, v, hk, rfl, d6, hgm, he⟩ := hrel
      by_cases hlt : k < x.b.length
      · obtain ⟨g, off, r, u, eA, hr, b0, hu⟩ := (h.ex (xx.trans he)).fracs hlt
        obtain ⟨P, pc, rfl, hP⟩ := hu.form
        subst eA
        have hr12 := HP.out.2 r (List.mem_of_getElem? hr)
        have Hr := Lib.hid hr
        clear hr hu
        go_wp2_with fail
        go_loopw [9, 31] (fun o i wi => ∃ j : Nat, j ≤ r.length ∧ i = .int .i64 j ∧ GE ELF 58 wi w7.heap.size wi.heap.size o (r.take j) ∧ Ex w7 wi) (fun _ i _ => r.length - (intOf i).toNat)
        case atStart => exact ⟨0, Nat.zero_le _, rfl, GE.nil _ _ _ _ _, Ex.refl _⟩
        case round =>
          rename World => wi
          obtain ⟨j, hj, rfl, hge, hi⟩ := hrel
          by_cases hlt2 : j < r.length
          · obtain ⟨g2, off2, y, P2, pc2, Q2, qc2, eP, hy, c0, c1, hP2, hQ2⟩ := (hP.ex hi).frac hlt2
            subst eP
            have HT := Lib.hid (show r.take (j + 1) = r.take j ++ [y] by rw [List.take_add_one, hy]; rfl)
            clear hy
            have y1 := (Ex.refl wi).alloc (.cells #[.slice P2 y.n.length pc2, .slice Q2 y.d.length qc2] 58)
            have dy := VB.new wi 58 #[.slice P2 y.n.length pc2, .slice Q2 y.d.length qc2]
            have htl : (r.take j).length ≤ j := List.length_take_le _ _
            go_wp2_with fail
            generalize wi.alloc (.cells #[.slice P2 y.n.length pc2, .slice Q2 y.d.length qc2] 58) = W1 at *
            have q0 := dy.cell 0 (v := .slice P2 y.n.length pc2) rfl
            have q1 := dy.cell 1 (v := .slice Q2 y.d.length qc2) rfl
            have hzi := hi.size
            have zy1 := y1.size
            go_region_held3 (fun W => W.cell? ⟨wi.heap.size, 0, none⟩ = some (.slice P2 y.n.length pc2) ∧ W.cell? ⟨wi.heap.size, 1, none⟩ = some (.slice Q2 y.d.length qc2)) (first
              | (exact ⟨q0, q1⟩)
              | (exact ⟨cell_ex e2 q0, cell_ex e2 q1⟩)
              | (exact ⟨cell_ex E3 q0, cell_ex E3 q1⟩)
              | (exact ⟨cell_ex (E3.alloc _) q0, cell_ex (E3.alloc _) q1⟩)
              | (exact ⟨dy5.cell 0 rfl, dy5.cell 1 rfl⟩)) (first
              | (go_at_call_of 78 (Value.slice P2 y.n.length pc2)
                 refine (l1Own_c P2 pc2 y.n W1.drew (hP2.ex y1.drew)).mono ?_
                 rintro e w2 ⟨g3, c3, rfl, hc3, hg3, o3, x3⟩
                 have e2 : Ex W1 w2 := (Ex.refl W1).drew.trans x3
                 have z2 := e2.size)
              | (go_at_call_of 78 (Value.slice Q2 y.d.length qc2)
                 refine (l1Own_c Q2 qc2 y.d w2 (hQ2.ex (y1.trans e2))).mono ?_
                 rintro e w4 ⟨g4, c4, rfl, hc4, hg4, o4, x4⟩
                 have E3 : Ex W1 w4 := e2.trans x4
                 have z4 := x4.size
                 have l3 := o3.lt
                 have hg3' : W1.heap.size ≤ g3 := hg3
                 have F3 := (o3.ex x4).fr hP2.len (B := W1.heap.size) hg3' hc3
                 have F4 := o4.fr hQ2.len (B := W1.heap.size) (by omega) hc4
                 obtain ⟨v5, w5, hrun, hge5, hO5, hnn5, hE5⟩ := push_frac (hge.ex (y1.trans E3)) (by omega) (ofra_of_fr (x := y) F3 F4 (apart_ne (by omega)) E3.size) (by omega) E3.size (Nat.le_refl _) hzi (by omega)
                 have dy4 := dy.ex E3
                 have dy5 : VB w5 wi.heap.size 58 #[.slice P2 y.n.length pc2, .slice Q2 y.d.length qc2] := (hO5.block wi.heap.size dy4.lt (fun e => by have := hge.own _ e.symm; omega)).trans dy4)
              | (refine step_append_run rfl _ _ _ rfl rfl rfl hrun ?_))
            all_goals
              have x5 := hE5 w7 (hi.trans (y1.trans E3)) (Nat.le_refl _)
              rw [← HT.out] at hge5
              clear q0 q1 hE5 hO5 hrun hge HT htl
              go_wp2_with fail
              go_roundw
              case rel => exact ⟨j + 1, by omega, by go_num, hge5, x5⟩
              case measure => simp [intOf]; omega
          · obtain rfl : j = r.length := by omega
            rw [List.take_length] at hge
            have HT := Lib.hid (show x.b.take (k + 1) = x.b.take k ++ [r] by rw [List.take_add_one, Hr.out]; rfl)
            have htl : (x.b.take k).length ≤ k := List.length_take_le _ _
            have zi := hi.size
            obtain ⟨oA, oc, eo⟩ := hge.nilv
            subst eo
            obtain ⟨v', w', hrun, hgm', ho', _, hE'⟩ := push_rows (hgm.ex hi) hi.size hge (by omega) (Nat.le_refl _) hi.size (Nat.le_refl _) (Nat.lt_of_lt_of_le d6.lt (Nat.le_refl _)) (by omega)
            rw [← HT.out] at hgm'
            have d6i := d6.ex hi
            have d6w : VB w' w3.heap.size 32 #[.int .i64 x.l, .int .i64 x.r, v] := (ho'.block w3.heap.size d6i.lt (fun e => by have := hgm.own _ e.symm; omega)).trans d6i
            obtain ⟨A7, c7, ev⟩ := hgm'.nilv
            have hk1 : (x.b.take (k + 1)).length = k + 1 := by rw [List.length_take]; omega
            rw [hk1] at ev
            subst ev
            clear hk1
            have q2 := d6i.cell 2 (v := v) rfl
            have q3 := d6w.cell 2 (v := v) rfl
            have fz := d6w.frozen 2
            have xw : Ex w3 w' := hE' w3 (he.trans hi) (by omega)
            have yz : Ex1 w3.heap.size w' (w'.setCell ⟨w3.heap.size, 2, none⟩ (.slice A7 (k + 1) c7)) := (Ex1.refl _ w').setCell (p := ⟨w3.heap.size, 2, none⟩) rfl _
            have hgm2 := hgm'.k1 yz (by omega)
            have d62 : VB (w'.setCell ⟨w3.heap.size, 2, none⟩ (.slice A7 (k + 1) c7)) w3.heap.size 32 #[.int .i64 x.l, .int .i64 x.r, .slice A7 (k + 1) c7] := d6w.set_ 2 _
            have xw2 := xw.ex1 yz (Nat.le_refl _)
            clear hgm' hgm hE' ho' HT htl
            go_wp2_with (at_builtin; refine wpList_append_run rfl _ _ _ rfl rfl rfl hrun ?_)
            go_roundw
            case rel => exact ⟨k + 1, _, by omega, by go_num, d62, hgm2.more (Nat.le_refl _) (Nat.le_of_eq (by simp)), xw2⟩
            case measure => simp [intOf]; omega
      · obtain rfl : k = x.b.length := by omega
        rw [List.take_length] at hgm
        have HY := Lib.hid (ifU_yes Hb.out)
        obtain ⟨A7, c7, rfl, _, hf⟩ := hgm.rows (by omega)
        have d2r := d2.ex he
        obtain ⟨dd, zz⟩ := d2r.st3 (.int .i64 x.l) (.int .i64 x.r) (.slice A7 x.b.length c7)
        have u0 := d2r.cell 0 (v := .int .i64 0) rfl
        have u1 := d2r.cell 1 (v := .int .i64 0) rfl
        have u2 := d2r.cell 2 (v := .slice none 0 0) rfl
        have k0 := d2r.frozen 0
        have k1 := d2r.frozen 1
        have k2 := d2r.frozen 2
        have t0 := d6.cell 0 (v := .int .i64 x.l) rfl
        have t1 := d6.cell 1 (v := .int .i64 x.r) rfl
        have t2 := d6.cell 2 (v := .slice A7 x.b.length c7) rfl
        have C0 := dd.cell 0 (v := .int .i64 x.l) rfl
        have C1 := dd.cell 1 (v := .int .i64 x.r) rfl
        have C2 := dd.cell 2 (v := .slice A7 x.b.length c7) rfl
        have eF := (xx.trans he).ex1 zz (by omega)
        have hwz := xx.size
        have hwl := d2.lt
        have hf2 : ∀ w2, ExI 0 w.heap.size _ w2 → RdC w2 A7 x.b ∧ OFX w2 w.heap.size w7.heap.size (.slice A7 x.b.length c7) x.b := fun w2 k => by
          have ho := ((hgm.k1 zz (by omega)).iv k (by omega)).ofx (by omega)
          exact ⟨ho.rdc, ho.more (by omega) (Nat.le_refl _)⟩
        go_wp2_with fail
        refine bodyPost_ret (v := .tuple #[.agg #[.int .i64 x.l, .int .i64 x.r, .slice A7 x.b.length c7], .bool true]) (by simp [results, Tryz.results49, go_sem, C0, C1, C2]) rfl ?_
        rw [RdB, HY.out]
        exact ⟨A7, c7, rfl, fun w2 k => ⟨(hf2 w2 k).1, (hf2 w2 k).2.more (Nat.le_refl _) (Nat.le_of_eq (by simp))⟩, eF⟩
end Go.Proofs.YtpeogfapnofeoaaGreatDoor
