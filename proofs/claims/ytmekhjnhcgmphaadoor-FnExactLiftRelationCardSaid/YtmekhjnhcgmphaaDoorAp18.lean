/- Contracts: tables of elements, state spaces, on both sides. The reference's rrIf (a valid relation copied) and rrRows; RatFunctionOf: the reference. The field of the elements 0 .. p - 1. Plain lemmas of mine. Rows of elements in blocks of their own: memory. -/
import Derived.Test.YtmekhjnhcgmphaaDoorAp17
import Derived.Test.YtmekhjnhcgmphaaDoorAp03
import Derived.StillTailTactics
import Derived.BigRegion
import Derived.Test.YtmekhjnhcgmphaaDoorAp16
import Derived.Test.YtmekhjnhcgmphaaDoorAp04
import Derived.Test.YtmekhjnhcgmphaaDoorAp09
import Derived.Deep.RegionHeld3
import Derived.RegionCalls
import Derived.Deep.RegionWith
import Derived.Deep.Cut
import Derived.Deep.RegionLaw
import Derived.Test.YtmekhjnhcgmphaaDoorAp10
import Derived.Test.YtmekhjnhcgmphaaDoorAp00
namespace Go.Proofs.YtmekhjnhcgmphaaDoor
set_option maxRecDepth 100000
open Go Go.RowKit
/-- Each row has n elements of the field. -/
def rowsB (p : Int) (n : Int) (m : List (List Int)) : Bool := m.all fun r => decide ((r.length : Int) = n) && allEl p r
set_option maxHeartbeats 1000000 in
theorem spRows_c (p n : Int) (A : Option Addr) (c : Nat) (m : List (List Int)) (w : World) (h : RdM w A m) (h2 : 2 ≤ p) (h97 : p ≤ 97) :
    Calls Tryd.prog 74 #[.int .i64 p, .int .i64 n, .slice A m.length c] w fun e w' => e = .returned (.bool (rowsB p n m)) ∧ w = w' := by
  have hl := h.1
  go_enter Tryd.func74, Tryd.ntmps74
  go_wp2_with fail
  go_loop [11] (fun i => ∃ k : Nat, k ≤ m.length ∧ Hid (rowsB p n (m.take k) = true) ∧ i = .int .i64 k) (fun i => m.length - (intOf i).toNat)
  case atStart => exact ⟨0, Nat.zero_le _, rfl, rfl⟩
  case round =>
    obtain ⟨k, hk, Hall, rfl⟩ := hrel
    by_cases hlt : k < m.length
    · obtain ⟨g, off, B, d, r, rfl, hr, hc, hrd⟩ := h.at_ hlt
      have Hr := Lib.hid hr
      clear hr
      have hrl := hrd.len
      have no : (decide ((r.length : Int) = n) && allEl p r) = false → rowsB p n m = false := fun hh => List.all_eq_false.2 ⟨r, List.mem_of_getElem? Hr.out, by simpa using hh⟩
      have No := Lib.hid no
      clear no
      by_cases hn : (r.length : Int) = n
      · cases he : allEl p r with
        | true =>
          have He := Lib.hid he
          go_wp2_with (go_at_call 59; refine (fdIn_c _ _ _ _ _ hrd h2 h97).mono ?_; rintro e w' ⟨rfl, rfl⟩)
          go_round
          case rel => exact ⟨k + 1, by omega, by
            show _ = true
            have := Hall.out
            rw [rowsB] at this ⊢
            rw [List.take_add_one, Hr.out, List.all_append, this]; simp [He.out, hn], by go_num⟩
          case measure => simp [intOf] <;> omega
        | false =>
          have He := Lib.hid he
          go_wp2_with (go_at_call 59; refine (fdIn_c _ _ _ _ _ hrd h2 h97).mono ?_; rintro e w' ⟨rfl, rfl⟩)
          go_ret
          exact ⟨ret_bool (by rw [No.out (by rw [He.out, Bool.and_false])]), rfl⟩
      · have hb : ((r.length : Int) != n) = true := by simpa using hn
        go_wp2
        go_ret
        exact ⟨ret_bool (by rw [No.out (by simp [hn])]), rfl⟩
    · obtain rfl : k = m.length := by omega
      go_wp2
      go_ret
      exact ⟨ret_bool (by have := Hall.out; rw [List.take_length] at this; rw [this]), rfl⟩
set_option maxHeartbeats 1000000 in
theorem areVectors_c (p n : Int) (A : Option Addr) (c : Nat) (m : List (List Int)) (w : World) (h : RdM w A m) :
    Calls Tryd.prog 79 #[.int .i64 p, .slice A m.length c, .int .i64 n] w fun e w' => e = .returned (.bool (rowsB p n m)) ∧ w = w' := by
  have hl := h.1
  go_enter Tryd.func79, Tryd.ntmps79
  go_wp2_with fail
  go_loop [11] (fun i => ∃ k : Nat, k ≤ m.length ∧ Hid (rowsB p n (m.take k) = true) ∧ i = .int .i64 k) (fun i => m.length - (intOf i).toNat)
  case atStart => exact ⟨0, Nat.zero_le _, rfl, rfl⟩
  case round =>
    obtain ⟨k, hk, Hall, rfl⟩ := hrel
    by_cases hlt : k < m.length
    · obtain ⟨g, off, B, d, r, rfl, hr, hc, hrd⟩ := h.at_ hlt
      have Hr := Lib.hid hr
      clear hr
      cases he : (decide ((r.length : Int) = n) && allEl p r) with
      | true =>
        have He := Lib.hid he
        clear he
        go_wp2_with (go_at_call 64; refine (isVector_c _ _ _ _ _ _ hrd).mono ?_; rintro e w' ⟨rfl, rfl⟩; rw [He.out])
        go_round
        case rel => exact ⟨k + 1, by omega, by
          show _ = true
          have := Hall.out
          rw [rowsB] at this ⊢
          rw [List.take_add_one, Hr.out, List.all_append, this]; simpa using He.out, by go_num⟩
        case measure => simp [intOf] <;> omega
      | false =>
        have He := Lib.hid he
        clear he
        go_wp2_with (go_at_call 64; refine (isVector_c _ _ _ _ _ _ hrd).mono ?_; rintro e w' ⟨rfl, rfl⟩; rw [He.out])
        go_ret
        exact ⟨ret_bool (by rw [show rowsB p n m = false from List.all_eq_false.2 ⟨r, List.mem_of_getElem? Hr.out, by simpa using He.out⟩]), rfl⟩
    · obtain rfl : k = m.length := by omega
      go_wp2
      go_ret
      exact ⟨ret_bool (by have := Hall.out; rw [List.take_length] at this; rw [this]), rfl⟩
end Go.Proofs.YtmekhjnhcgmphaaDoor
namespace Go.Proofs.YtmekhjnhcgmphaaDoor
set_option maxRecDepth 100000
open Go Go.RowKit
noncomputable def ifU (p : Int) (x : RRel) : RRel × Bool := if rrB p x = true then (x, true) else (⟨0, 0, []⟩, false)
theorem ifU_no {p : Int} {x : RRel} (h : rrB p x = false) : ifU p x = (⟨0, 0, []⟩, false) := if_neg (by rw [h]; simp)
theorem ifU_yes {p : Int} {x : RRel} (h : rrB p x = true) : ifU p x = (x, true) := if_pos h
theorem rrB_small {p : Int} {x : RRel} (h : rrB p x = true) : x.b.length ≤ 12 ∧ ∀ r ∈ x.b, r.length ≤ 12 := by
  obtain ⟨h1, h2, h3, h4⟩ := rrB_iff.1 h
  have h5 := fit_lt h2
  have h6 := rrp_len h1 (gd_fv (okRows_gd h3)) h4
  exact ⟨by omega, fun r hr => by have := okRows_wid h3 r hr; omega⟩
/-- A relation that reads, and whether. -/
def RdB (w : World) (r : RRel × Bool) (e : Ending) (w' : World) : Prop := ∃ A c, e = .returned (.tuple #[.agg #[.int .i64 r.1.l, .int .i64 r.1.r, .slice A r.1.b.length c], .bool r.2]) ∧ (∀ w2, ExI 0 w.heap.size w' w2 → RdC w2 A r.1.b ∧ OFX w2 w.heap.size w'.heap.size (.slice A r.1.b.length c) r.1.b) ∧ Ex w w'
set_option maxHeartbeats 8000000 in
theorem rrIf_c (p : Int) (x : RRel) (A : Option Addr) (c : Nat) (w : World) (h : RdS EFF w A x.b) :
    Calls Tryd.prog 24 #[.int .i64 p, .agg #[.int .i64 x.l, .int .i64 x.r, .slice A x.b.length c]] w fun e w' => RdB w (ifU p x) e w' := by
  have hl := h.1
  have y0 := (Ex.refl w).alloc (.cells #[.int .i64 x.l, .int .i64 x.r, .slice A x.b.length c] 28)
  have d0 := VB.new w 28 #[.int .i64 x.l, .int .i64 x.r, .slice A x.b.length c]
  have S0 := Lib.hid (show (w.alloc (.cells #[.int .i64 x.l, .int .i64 x.r, .slice A x.b.length c] 28)).heap.size = w.heap.size + 1 by simp)
  go_enter Tryd.func24, Tryd.ntmps24
  go_wp2_with fail
  generalize w.alloc (.cells #[.int .i64 x.l, .int .i64 x.r, .slice A x.b.length c] 28) = W0 at *
  have y2 := (Ex.refl W0).alloc (.cells #[.int .i64 0, .int .i64 0, .slice none 0 0] 28)
  have d2 := VB.new W0 28 #[.int .i64 0, .int .i64 0, .slice none 0 0]
  rw [S0.out] at d2
  generalize W0.alloc (.cells #[.int .i64 0, .int .i64 0, .slice none 0 0] 28) = W2 at *
  have xx := y0.trans y2
  have d0 := d0.ex y2
  clear y0 y2 S0
  refine (rrGood_c p x A c W2 (h.ex xx)).mono ?_
  rintro e w3 ⟨b0, rfl, hb0, x3⟩
  obtain rfl := rrB_of hb0
  clear hb0
  have d0 := d0.ex x3
  have d2 := d2.ex x3
  have xx := xx.trans x3
  clear x3
  have p0 := d0.cell 0 (v := .int .i64 x.l) rfl
  have p1 := d0.cell 1 (v := .int .i64 x.r) rfl
  have p2 := d0.cell 2 (v := .slice A x.b.length c) rfl
  have z0 := d2.cell 0 (v := .int .i64 0) rfl
  have z1 := d2.cell 1 (v := .int .i64 0) rfl
  have z2 := d2.cell 2 (v := .slice none 0 0) rfl
  have hlt2 := d2.lt
  have fz0 := d2.frozen 0
  have fz1 := d2.frozen 1
  have fz2 := d2.frozen 2
  cases hb : rrB p x with
  | false =>
    have HN := Lib.hid (ifU_no hb)
    clear hb
    obtain ⟨dd, zz⟩ := d2.st3 (.int .i64 0) (.int .i64 0) (.slice none 0 0)
    have C0 := dd.cell 0 (v := .int .i64 0) rfl
    have C1 := dd.cell 1 (v := .int .i64 0) rfl
    have C2 := dd.cell 2 (v := .slice none 0 0) rfl
    have eF := xx.ex1 zz (by omega)
    go_wp2_with fail
    refine bodyPost_ret (v := .tuple #[.agg #[.int .i64 0, .int .i64 0, .slice none 0 0], .bool false]) (by simp [results, Tryd.results24, go_sem, C0, C1, C2]) rfl ?_
    rw [RdB, HN.out]
    exact ⟨none, 0, rfl, fun _ _ => ⟨⟨⟨by simp, fun j x hj => by simp at hj⟩, fun j x hj => by simp at hj⟩, OFX.nil _ _ _ _ _⟩, eF⟩
  | true =>
    have Hb := Lib.hid hb
    have HP := Lib.hid (rrB_small hb)
    clear hb
    have hx12 := HP.out.1
    have y6 := (Ex.refl w3).alloc (.cells #[.int .i64 x.l, .int .i64 x.r, .slice none 0 0] 28)
    have d6 := VB.new w3 28 #[.int .i64 x.l, .int .i64 x.r, .slice none 0 0]
    have s6 : (w3.alloc (.cells #[.int .i64 x.l, .int .i64 x.r, .slice none 0 0] 28)).heap.size = w3.heap.size + 1 := by simp
    have p2a := (d0.ex y6).cell 2 (v := .slice A x.b.length c) rfl
    go_wp2_with fail
    generalize w3.alloc (.cells #[.int .i64 x.l, .int .i64 x.r, .slice none 0 0] 28) = W6 at *
    clear p0 p1 p2 p2a z0 z1 z2 fz0 fz1 fz2
    go_loopw [25] (fun i wr => ∃ (k : Nat) (v : Value), k ≤ x.b.length ∧ i = .int .i64 k ∧ VB wr w3.heap.size 28 #[.int .i64 x.l, .int .i64 x.r, v] ∧ GE ELS 70 wr (w3.heap.size + 1) wr.heap.size v (x.b.take k) ∧ Ex w3 wr) (fun i _ => x.b.length - (intOf i).toNat)
    case atStart => exact ⟨0, _, Nat.zero_le _, rfl, d6, GE.nil _ _ _ _ _, y6⟩
    case round =>
      clear d6 s6 y6
      rename World => w7
      obtain ⟨k, v, hk, rfl, d6, hgm, he⟩ := hrel
      by_cases hlt : k < x.b.length
      · obtain ⟨g, off, r, u, eA, hr, b0, hu⟩ := (h.ex (xx.trans he)).fracs hlt
        obtain ⟨P, pc, rfl, hP⟩ := hu.form
        subst eA
        have hr12 := HP.out.2 r (List.mem_of_getElem? hr)
        have Hr := Lib.hid hr
        clear hr hu
        go_wp2_with fail
        go_loopw [9, 31] (fun o i wi => ∃ j : Nat, j ≤ r.length ∧ i = .int .i64 j ∧ GE ELF 40 wi w7.heap.size wi.heap.size o (r.take j) ∧ Ex w7 wi) (fun _ i _ => r.length - (intOf i).toNat)
        case atStart => exact ⟨0, Nat.zero_le _, rfl, GE.nil _ _ _ _ _, Ex.refl _⟩
        case round =>
          rename World => wi
          obtain ⟨j, hj, rfl, hge, hi⟩ := hrel
          by_cases hlt2 : j < r.length
          · obtain ⟨g2, off2, y, P2, pc2, Q2, qc2, eP, hy, c0, c1, hP2, hQ2⟩ := (hP.ex hi).frac hlt2
            subst eP
            have HT := Lib.hid (show r.take (j + 1) = r.take j ++ [y] by rw [List.take_add_one, hy]; rfl)
            clear hy
            have y1 := (Ex.refl wi).alloc (.cells #[.slice P2 y.n.length pc2, .slice Q2 y.d.length qc2] 40)
            have dy := VB.new wi 40 #[.slice P2 y.n.length pc2, .slice Q2 y.d.length qc2]
            have htl : (r.take j).length ≤ j := List.length_take_le _ _
            go_wp2_with fail
            generalize wi.alloc (.cells #[.slice P2 y.n.length pc2, .slice Q2 y.d.length qc2] 40) = W1 at *
            have q0 := dy.cell 0 (v := .slice P2 y.n.length pc2) rfl
            have q1 := dy.cell 1 (v := .slice Q2 y.d.length qc2) rfl
            have hzi := hi.size
            have zy1 := y1.size
            go_region_held3 (fun W => W.cell? ⟨wi.heap.size, 0, none⟩ = some (.slice P2 y.n.length pc2) ∧ W.cell? ⟨wi.heap.size, 1, none⟩ = some (.slice Q2 y.d.length qc2)) (first
              | (exact ⟨q0, q1⟩)
              | (exact ⟨cell_ex e2 q0, cell_ex e2 q1⟩)
              | (exact ⟨cell_ex E3 q0, cell_ex E3 q1⟩)
              | (exact ⟨cell_ex (E3.alloc _) q0, cell_ex (E3.alloc _) q1⟩)
              | (exact ⟨dy5.cell 0 rfl, dy5.cell 1 rfl⟩)) (first
              | (go_at_call_of 48 (Value.slice P2 y.n.length pc2)
                 refine (l1Own_c P2 pc2 y.n W1.drew (hP2.ex y1.drew)).mono ?_
                 rintro e w2 ⟨g3, c3, rfl, hc3, hg3, o3, x3⟩
                 have e2 : Ex W1 w2 := (Ex.refl W1).drew.trans x3
                 have z2 := e2.size)
              | (go_at_call_of 48 (Value.slice Q2 y.d.length qc2)
                 refine (l1Own_c Q2 qc2 y.d w2 (hQ2.ex (y1.trans e2))).mono ?_
                 rintro e w4 ⟨g4, c4, rfl, hc4, hg4, o4, x4⟩
                 have E3 : Ex W1 w4 := e2.trans x4
                 have z4 := x4.size
                 have l3 := o3.lt
                 have hg3' : W1.heap.size ≤ g3 := hg3
                 have F3 := (o3.ex x4).fr hP2.len (B := W1.heap.size) hg3' hc3
                 have F4 := o4.fr hQ2.len (B := W1.heap.size) (by omega) hc4
                 obtain ⟨v5, w5, hrun, hge5, hO5, hnn5, hE5⟩ := push_frac (hge.ex (y1.trans E3)) (by omega) (ofra_of_fr (x := y) F3 F4 (apart_ne (by omega)) E3.size) (by omega) E3.size (Nat.le_refl _) hzi (by omega)
                 have dy4 := dy.ex E3
                 have dy5 : VB w5 wi.heap.size 40 #[.slice P2 y.n.length pc2, .slice Q2 y.d.length qc2] := (hO5.block wi.heap.size dy4.lt (fun e => by have := hge.own _ e.symm; omega)).trans dy4)
              | (refine step_append_run rfl _ _ _ rfl rfl rfl hrun ?_))
            all_goals
              have x5 := hE5 w7 (hi.trans (y1.trans E3)) (Nat.le_refl _)
              rw [← HT.out] at hge5
              clear q0 q1 hE5 hO5 hrun hge HT htl
              go_wp2_with fail
              go_roundw
              case rel => exact ⟨j + 1, by omega, by go_num, hge5, x5⟩
              case measure => simp [intOf]; omega
          · obtain rfl : j = r.length := by omega
            rw [List.take_length] at hge
            have HT := Lib.hid (show x.b.take (k + 1) = x.b.take k ++ [r] by rw [List.take_add_one, Hr.out]; rfl)
            have htl : (x.b.take k).length ≤ k := List.length_take_le _ _
            have zi := hi.size
            obtain ⟨oA, oc, eo⟩ := hge.nilv
            subst eo
            obtain ⟨v', w', hrun, hgm', ho', _, hE'⟩ := push_rows (hgm.ex hi) hi.size hge (by omega) (Nat.le_refl _) hi.size (Nat.le_refl _) (Nat.lt_of_lt_of_le d6.lt (Nat.le_refl _)) (by omega)
            rw [← HT.out] at hgm'
            have d6i := d6.ex hi
            have d6w : VB w' w3.heap.size 28 #[.int .i64 x.l, .int .i64 x.r, v] := (ho'.block w3.heap.size d6i.lt (fun e => by have := hgm.own _ e.symm; omega)).trans d6i
            obtain ⟨A7, c7, ev⟩ := hgm'.nilv
            have hk1 : (x.b.take (k + 1)).length = k + 1 := by rw [List.length_take]; omega
            rw [hk1] at ev
            subst ev
            clear hk1
            have q2 := d6i.cell 2 (v := v) rfl
            have q3 := d6w.cell 2 (v := v) rfl
            have fz := d6w.frozen 2
            have xw : Ex w3 w' := hE' w3 (he.trans hi) (by omega)
            have yz : Ex1 w3.heap.size w' (w'.setCell ⟨w3.heap.size, 2, none⟩ (.slice A7 (k + 1) c7)) := (Ex1.refl _ w').setCell (p := ⟨w3.heap.size, 2, none⟩) rfl _
            have hgm2 := hgm'.k1 yz (by omega)
            have d62 : VB (w'.setCell ⟨w3.heap.size, 2, none⟩ (.slice A7 (k + 1) c7)) w3.heap.size 28 #[.int .i64 x.l, .int .i64 x.r, .slice A7 (k + 1) c7] := d6w.set_ 2 _
            have xw2 := xw.ex1 yz (Nat.le_refl _)
            clear hgm' hgm hE' ho' HT htl
            go_wp2_with (at_builtin; refine wpList_append_run rfl _ _ _ rfl rfl rfl hrun ?_)
            go_roundw
            case rel => exact ⟨k + 1, _, by omega, by go_num, d62, hgm2.more (Nat.le_refl _) (Nat.le_of_eq (by simp)), xw2⟩
            case measure => simp [intOf]; omega
      · obtain rfl : k = x.b.length := by omega
        rw [List.take_length] at hgm
        have HY := Lib.hid (ifU_yes Hb.out)
        obtain ⟨A7, c7, rfl, _, hf⟩ := hgm.rows (by omega)
        have d2r := d2.ex he
        obtain ⟨dd, zz⟩ := d2r.st3 (.int .i64 x.l) (.int .i64 x.r) (.slice A7 x.b.length c7)
        have u0 := d2r.cell 0 (v := .int .i64 0) rfl
        have u1 := d2r.cell 1 (v := .int .i64 0) rfl
        have u2 := d2r.cell 2 (v := .slice none 0 0) rfl
        have k0 := d2r.frozen 0
        have k1 := d2r.frozen 1
        have k2 := d2r.frozen 2
        have t0 := d6.cell 0 (v := .int .i64 x.l) rfl
        have t1 := d6.cell 1 (v := .int .i64 x.r) rfl
        have t2 := d6.cell 2 (v := .slice A7 x.b.length c7) rfl
        have C0 := dd.cell 0 (v := .int .i64 x.l) rfl
        have C1 := dd.cell 1 (v := .int .i64 x.r) rfl
        have C2 := dd.cell 2 (v := .slice A7 x.b.length c7) rfl
        have eF := (xx.trans he).ex1 zz (by omega)
        have hwz := xx.size
        have hwl := d2.lt
        have hf2 : ∀ w2, ExI 0 w.heap.size _ w2 → RdC w2 A7 x.b ∧ OFX w2 w.heap.size w7.heap.size (.slice A7 x.b.length c7) x.b := fun w2 k => by
          have ho := ((hgm.k1 zz (by omega)).iv k (by omega)).ofx (by omega)
          exact ⟨ho.rdc, ho.more (by omega) (Nat.le_refl _)⟩
        go_wp2_with fail
        refine bodyPost_ret (v := .tuple #[.agg #[.int .i64 x.l, .int .i64 x.r, .slice A7 x.b.length c7], .bool true]) (by simp [results, Tryd.results24, go_sem, C0, C1, C2]) rfl ?_
        rw [RdB, HY.out]
        exact ⟨A7, c7, rfl, fun w2 k => ⟨(hf2 w2 k).1, (hf2 w2 k).2.more (Nat.le_refl _) (Nat.le_of_eq (by simp))⟩, eF⟩
end Go.Proofs.YtmekhjnhcgmphaaDoor
namespace Go.Proofs.YtmekhjnhcgmphaaDoor
set_option maxRecDepth 100000
def zpOps (p : Int) : Ops Int := ⟨fun a b => (a + b) % p, fun a b => a * b % p, fun a => (-a) % p, fun a => invM p a, 0, 1, fun a => decide (a = 0)⟩
theorem el_mod {p : Int} (hp : 0 < p) (a : Int) : elB p (a % p) = true := by
  simp [elB]
  exact ⟨Int.emod_nonneg _ (by omega), Int.emod_lt_of_pos _ hp⟩
theorem el_lt {p a : Int} (h : elB p a = true) : 0 ≤ a ∧ a < p := by simpa [elB] using h
theorem mod_el {p a : Int} (h : elB p a = true) : a % p = a := Int.emod_eq_of_lt (el_lt h).1 (el_lt h).2
def zpFld (p : Int) (hF : fieldB p = true) : Fld {a : Int // elB p a = true} where
  add x y := ⟨(x.1 + y.1) % p, el_mod (by have := fieldB_lo hF; omega) _⟩
  mul x y := ⟨x.1 * y.1 % p, el_mod (by have := fieldB_lo hF; omega) _⟩
  neg x := ⟨(-x.1) % p, el_mod (by have := fieldB_lo hF; omega) _⟩
  inv x := ⟨invM p x.1, by have := invM_bd (p := p) x.1 (fieldB_lo hF); simp [elB]; exact this⟩
  z := ⟨0, by have := fieldB_lo hF; simp [elB]; omega⟩
  o := ⟨1, by have := fieldB_lo hF; simp [elB]; omega⟩
  isz x := decide (x.1 = 0)
  add_comm x y := Subtype.ext (by show (x.1 + y.1) % p = (y.1 + x.1) % p; rw [Int.add_comm])
  add_assoc x y z := Subtype.ext (by
    show ((x.1 + y.1) % p + z.1) % p = (x.1 + (y.1 + z.1) % p) % p
    rw [Int.emod_add_emod, Int.add_emod_emod, Int.add_assoc])
  z_add x := Subtype.ext (by show (0 + x.1) % p = x.1; rw [Int.zero_add]; exact mod_el x.2)
  neg_add x := Subtype.ext (by
    show ((-x.1) % p + x.1) % p = 0
    rw [Int.emod_add_emod, Int.add_left_neg]; rfl)
  mul_comm x y := Subtype.ext (by show x.1 * y.1 % p = y.1 * x.1 % p; rw [Int.mul_comm])
  mul_assoc x y z := Subtype.ext (by
    show (x.1 * y.1 % p) * z.1 % p = x.1 * (y.1 * z.1 % p) % p
    rw [Int.mul_emod, Int.emod_emod, ← Int.mul_emod, Int.mul_emod x.1 (y.1 * z.1 % p), Int.emod_emod, ← Int.mul_emod, Int.mul_assoc])
  o_mul x := Subtype.ext (by show 1 * x.1 % p = x.1; rw [Int.one_mul]; exact mod_el x.2)
  distrib x y z := Subtype.ext (by
    show x.1 * ((y.1 + z.1) % p) % p = (x.1 * y.1 % p + x.1 * z.1 % p) % p
    rw [Int.mul_emod, Int.emod_emod, ← Int.mul_emod, Int.emod_add_emod, Int.add_emod_emod, Int.mul_add])
  inv_mul x hx := Subtype.ext (by
    show invM p x.1 * x.1 % p = 1
    have h := el_lt x.2
    have h0 : x.1 ≠ 0 := fun e => hx (Subtype.ext e)
    rw [Int.mul_comm]
    exact inv_mul hF (by omega) h.2)
  o_ne e := by
    have := congrArg Subtype.val e
    exact absurd this (by show ¬ (1 : Int) = 0; omega)
  isz_iff x := by
    rw [decide_eq_true_eq]
    exact ⟨fun e => Subtype.ext e, fun e => by rw [e]⟩
theorem zpHom (p : Int) (hF : fieldB p = true) : Hom (zpFld p hF).toOps (zpOps p) Subtype.val where
  add _ _ := rfl
  mul _ _ := rfl
  neg _ := rfl
  inv _ _ := rfl
  z := rfl
  o := rfl
  isz _ := rfl
end Go.Proofs.YtmekhjnhcgmphaaDoor
namespace Go.Proofs.YtmekhjnhcgmphaaDoor
set_option maxRecDepth 100000
open Go Go.RowKit
/-- Block G lists rows of n elements; row j lies in block bs[j]; no two blocks are one. -/
structure IM (w : World) (G n : Nat) (bs : List Nat) (rows : List (List Int)) : Prop where
  out : ∃ cur : Array Value, w.heap[G]? = some (.cells cur 38 (0, 0)) ∧ ∀ (j b : Nat), bs[j]? = some b → ∃ c, n ≤ c ∧ cur[j]? = some (.slice (some ⟨b, 0, none⟩) n c)
  len : bs.length = rows.length
  row : ∀ (j b : Nat) (r : List Int), bs[j]? = some b → rows[j]? = some r → Own w b r ∧ r.length = n
  nd : ∀ (i j b : Nat), bs[i]? = some b → bs[j]? = some b → i = j
  ng : ∀ (j b : Nat), bs[j]? = some b → b ≠ G
theorem IM.lt {w : World} {G n : Nat} {bs : List Nat} {rows : List (List Int)} (h : IM w G n bs rows) : G < w.heap.size := by obtain ⟨_, h, _⟩ := h.out; exact heap_lt_of h
theorem IM.frozen {w : World} {G n : Nat} {bs : List Nat} {rows : List (List Int)} (h : IM w G n bs rows) (i : Nat) : w.frozen? ⟨G, i, none⟩ = false := by
  obtain ⟨cur, hc, _⟩ := h.out
  simp [World.frozen?, hc]
theorem IM.at_ {w : World} {G n : Nat} {bs : List Nat} {rows : List (List Int)} (h : IM w G n bs rows) {j : Nat} (hj : j < rows.length) : ∃ b r c, n ≤ c ∧ bs[j]? = some b ∧ rows[j]? = some r ∧ r.length = n ∧ Own w b r ∧ b ≠ G ∧ w.cell? ⟨G, j, none⟩ = some (.slice (some ⟨b, 0, none⟩) n c) := by
  obtain ⟨b, hb⟩ : ∃ b, bs[j]? = some b := ⟨_, List.getElem?_eq_getElem (by rw [h.len]; exact hj)⟩
  obtain ⟨r, hr⟩ : ∃ r, rows[j]? = some r := ⟨_, List.getElem?_eq_getElem hj⟩
  obtain ⟨cur, hc, hx⟩ := h.out
  obtain ⟨c, hnc, hcc⟩ := hx j b hb
  obtain ⟨h1, h2⟩ := h.row j b r hb hr
  exact ⟨b, r, c, hnc, hb, hr, h2, h1, h.ng j b hb, by simp [World.cell?, hc, hcc]⟩
theorem IM.keep {w w' : World} {G n : Nat} {bs : List Nat} {rows : List (List Int)} (h : IM w G n bs rows) (k : ∀ q, q < w.heap.size → (q = G ∨ ∃ j : Nat, bs[j]? = some q) → w'.heap[q]? = w.heap[q]?) : IM w' G n bs rows := by
  have hl := h.lt
  obtain ⟨cur, hc, hx⟩ := h.out
  refine ⟨⟨cur, (k G hl (.inl rfl)).trans hc, hx⟩, h.len, fun j b r h1 h2 => ?_, h.nd, h.ng⟩
  obtain ⟨⟨cu, q1, q2⟩, q3⟩ := h.row j b r h1 h2
  exact ⟨⟨cu, (k b (heap_lt_of q1) (.inr ⟨j, h1⟩)).trans q1, q2⟩, q3⟩
theorem IM.ex {w w' : World} {G n : Nat} {bs : List Nat} {rows : List (List Int)} (h : IM w G n bs rows) (k : Ex w w') : IM w' G n bs rows := h.keep fun _ hq _ => k.block hq
/-- One row has been turned. -/
theorem IM.turn {w w' : World} {G n : Nat} {bs : List Nat} {rows : List (List Int)} (h : IM w G n bs rows) {i b : Nat} (hi : bs[i]? = some b) {r' : List Int} (hr : Own w' b r') (hl : r'.length = n) (k : Ex1 b w w') : IM w' G n bs (rows.set i r') := by
  have hgl := h.lt
  have hgb := h.ng i b hi
  have hil := (List.getElem?_eq_some_iff.1 hi).1
  obtain ⟨cur, hc, hx⟩ := h.out
  refine ⟨⟨cur, (k.block G hgl (by intro e; injection e with e; exact hgb e.symm)).trans hc, hx⟩, by rw [List.length_set]; exact h.len, fun j b' r h1 h2 => ?_, h.nd, h.ng⟩
  rw [List.getElem?_set] at h2
  by_cases e : i = j
  · subst e
    rw [if_pos rfl, if_pos (by rw [← h.len]; exact hil)] at h2
    injection h2 with h2
    subst h2
    rw [hi] at h1
    injection h1 with h1
    subst h1
    exact ⟨hr, hl⟩
  · rw [if_neg e] at h2
    obtain ⟨⟨cu, q1, q2⟩, q3⟩ := h.row j b' r h1 h2
    exact ⟨⟨cu, (k.block b' (heap_lt_of q1) (by intro e2; injection e2 with e2; subst e2; exact e (h.nd i j b' hi h1))).trans q1, q2⟩, q3⟩
/-- Two rows have been exchanged. -/
theorem IM.swap {w : World} {G n : Nat} {bs : List Nat} {rows : List (List Int)} (h : IM w G n bs rows) {i k bi bk ci ck : Nat} {ri rk : List Int} (hi : bs[i]? = some bi) (hk : bs[k]? = some bk) (hri : rows[i]? = some ri) (hrk : rows[k]? = some rk) (hci : n ≤ ci) (hck : n ≤ ck) :
    IM ((w.setCell ⟨G, i, none⟩ (.slice (some ⟨bk, 0, none⟩) n ck)).setCell ⟨G, k, none⟩ (.slice (some ⟨bi, 0, none⟩) n ci)) G n ((bs.set i bk).set k bi) ((rows.set i rk).set k ri) := by
  have hil := (List.getElem?_eq_some_iff.1 hi).1
  have hkl := (List.getElem?_eq_some_iff.1 hk).1
  have kx : Ex1 G w ((w.setCell ⟨G, i, none⟩ (.slice (some ⟨bk, 0, none⟩) n ck)).setCell ⟨G, k, none⟩ (.slice (some ⟨bi, 0, none⟩) n ci)) := ((Ex1.refl G w).setCell (p := ⟨G, i, none⟩) rfl _).setCell (p := ⟨G, k, none⟩) rfl _
  have at2 : ∀ {α : Type} (l : List α) (a b : α) (j : Nat) (x : α), i < l.length → k < l.length → ((l.set i a).set k b)[j]? = some x → (j = k ∧ x = b) ∨ (j ≠ k ∧ j = i ∧ x = a) ∨ (j ≠ k ∧ j ≠ i ∧ l[j]? = some x) := by
    intro α l a b j x h1 h2 h3
    rw [List.getElem?_set] at h3
    split at h3
    · rename_i e
      rw [if_pos (by rw [List.length_set]; omega)] at h3
      injection h3 with h3
      exact .inl ⟨e.symm, h3.symm⟩
    · rename_i e
      rw [List.getElem?_set] at h3
      split at h3
      · rename_i e2
        try rw [if_pos (by omega)] at h3
        injection h3 with h3
        exact .inr (.inl ⟨fun e3 => e e3.symm, e2.symm, h3.symm⟩)
      · rename_i e2
        exact .inr (.inr ⟨fun e3 => e e3.symm, fun e3 => e2 e3.symm, h3⟩)
  have hri' := h.row i bi ri hi hri
  have hrk' := h.row k bk rk hk hrk
  have hgl := h.lt
  have hlen := h.len
  have keep : ∀ (b : Nat) (r : List Int) (j : Nat), bs[j]? = some b → Own w b r → Own ((w.setCell ⟨G, i, none⟩ (.slice (some ⟨bk, 0, none⟩) n ck)).setCell ⟨G, k, none⟩ (.slice (some ⟨bi, 0, none⟩) n ci)) b r := fun b r j h1 ⟨cu, q1, q2⟩ => ⟨cu, (kx.block b (heap_lt_of q1) (by intro e; injection e with e; exact h.ng j b h1 e)).trans q1, q2⟩
  obtain ⟨cur, hc, hx⟩ := h.out
  refine ⟨⟨(cur.setIfInBounds i (.slice (some ⟨bk, 0, none⟩) n ck)).setIfInBounds k (.slice (some ⟨bi, 0, none⟩) n ci), by simp [World.setCell, Array.getElem?_modify, hc], fun j b hj => ?_⟩, by simp [hlen], fun j b r h1 h2 => ?_, fun a b z h1 h2 => ?_, fun j b hj => ?_⟩
  · obtain ⟨_, _, hi1⟩ := hx i bi hi
    obtain ⟨_, _, hk1⟩ := hx k bk hk
    have l1 : i < cur.size := (Array.getElem?_eq_some_iff.1 hi1).1
    have l2 : k < cur.size := (Array.getElem?_eq_some_iff.1 hk1).1
    rcases at2 bs bk bi j b hil hkl hj with ⟨e, e2⟩ | ⟨e, e2, e3⟩ | ⟨e, e2, e3⟩
    · subst e e2
      exact ⟨ci, hci, by rw [Array.getElem?_setIfInBounds, if_pos rfl, if_pos (by simpa using l2)]⟩
    · subst e2 e3
      exact ⟨ck, hck, by rw [Array.getElem?_setIfInBounds, if_neg (fun h => e h.symm), Array.getElem?_setIfInBounds, if_pos rfl, if_pos l1]⟩
    · obtain ⟨c, hnc, hc'⟩ := hx j b e3
      exact ⟨c, hnc, by rw [Array.getElem?_setIfInBounds, if_neg (fun h => e h.symm), Array.getElem?_setIfInBounds, if_neg (fun h => e2 h.symm)]; exact hc'⟩
  · rcases at2 bs bk bi j b hil hkl h1 with ⟨e, e2⟩ | ⟨e, e2, e3⟩ | ⟨e, e2, e3⟩
    · subst e e2
      rcases at2 rows rk ri j r (by omega) (by omega) h2 with ⟨_, e4⟩ | ⟨e4, _⟩ | ⟨e4, _⟩
      · subst e4; exact ⟨keep _ _ i hi hri'.1, hri'.2⟩
      · exact absurd rfl e4
      · exact absurd rfl e4
    · subst e2 e3
      rcases at2 rows rk ri j r (by omega) (by omega) h2 with ⟨e4, _⟩ | ⟨_, _, e4⟩ | ⟨_, e4, _⟩
      · exact absurd e4 e
      · subst e4; exact ⟨keep _ _ k hk hrk'.1, hrk'.2⟩
      · exact absurd rfl e4
    · rcases at2 rows rk ri j r (by omega) (by omega) h2 with ⟨e4, _⟩ | ⟨_, e4, _⟩ | ⟨_, _, e4⟩
      · exact absurd e4 e
      · exact absurd e4 e2
      · exact ⟨keep _ _ j e3 (h.row j b r e3 e4).1, (h.row j b r e3 e4).2⟩
  · rcases at2 bs bk bi a _ hil hkl h1 with ⟨e1, q1⟩ | ⟨e1, f1, q1⟩ | ⟨e1, f1, q1⟩ <;> rcases at2 bs bk bi b _ hil hkl h2 with ⟨e2, q2⟩ | ⟨e2, f2, q2⟩ | ⟨e2, f2, q2⟩
    · omega
    · rw [← q1] at hi; rw [← q2] at hk; have := h.nd i k z hi hk; omega
    · rw [← q1] at hi; have := h.nd i b z hi q2; omega
    · rw [← q1] at hk; rw [← q2] at hi; have := h.nd i k z hi hk; omega
    · omega
    · rw [← q1] at hk; have := h.nd k b z hk q2; omega
    · rw [← q2] at hi; have := h.nd a i z q1 hi; omega
    · rw [← q2] at hk; have := h.nd a k z q1 hk; omega
    · exact h.nd a b z q1 q2
  · rcases at2 bs bk bi j _ hil hkl hj with ⟨e1, q1⟩ | ⟨e1, f1, q1⟩ | ⟨e1, f1, q1⟩
    · rw [← q1] at hi; exact h.ng i b hi
    · rw [← q1] at hk; exact h.ng k b hk
    · exact h.ng j b q1
/-- Block G lists R slices that are nil. -/
def NilM (w : World) (G R : Nat) : Prop := ∃ cur : Array Value, w.heap[G]? = some (.cells cur 38 (0, 0)) ∧ ∀ j, j < R → cur[j]? = some (.slice none 0 0)
theorem NilM.cell {w : World} {G R j : Nat} (h : NilM w G R) (hj : j < R) : w.cell? ⟨G, j, none⟩ = some (.slice none 0 0) := by
  obtain ⟨cur, hc, hx⟩ := h
  simp [World.cell?, hc, hx j hj]
theorem NilM.frozen {w : World} {G R : Nat} (h : NilM w G R) (i : Nat) : w.frozen? ⟨G, i, none⟩ = false := by
  obtain ⟨cur, hc, _⟩ := h
  simp [World.frozen?, hc]
theorem NilM.lt {w : World} {G R : Nat} (h : NilM w G R) : G < w.heap.size := by obtain ⟨_, h, _⟩ := h; exact heap_lt_of h
theorem NilM.keep {w w' : World} {G R : Nat} (h : NilM w G R) (k : w'.heap[G]? = w.heap[G]?) : NilM w' G R := by
  obtain ⟨cur, hc, hx⟩ := h
  exact ⟨cur, k.trans hc, hx⟩
theorem NilM.set {w : World} {G R : Nat} (h : NilM w G R) (i : Nat) : NilM (w.setCell ⟨G, i, none⟩ (.slice none 0 0)) G R := by
  obtain ⟨cur, hc, hx⟩ := h
  refine ⟨cur.setIfInBounds i (.slice none 0 0), by simp [World.setCell, Array.getElem?_modify, hc], fun j hj => ?_⟩
  rw [Array.getElem?_setIfInBounds]
  split
  · split
    · rfl
    · rename_i e h2
      subst e
      have := (Array.getElem?_eq_some_iff.1 (hx _ hj)).1
      omega
  · exact hx j hj
end Go.Proofs.YtmekhjnhcgmphaaDoor
