/- The converse of a rational relation: the reference. Printed by a program of mine. The converse of a rational relation: the program; ConverseRational on both sides. Printed by a program of mine. RatFunctionOf: the reference. ConverseRational on both sides, in the uniform words. Printed by a program of mine. -/
import Derived.Test.YtpeogfapnofeoaaGreatDoorPkS
import Derived.Test.YtpeogfapnofeoaaGreatDoorPkR
import Derived.Test.YtpeogfapnofeoaaGreatDoorRfB
namespace Go.Proofs.YtpeogfapnofeoaaGreatDoor
set_option maxRecDepth 100000
open Go Go.RowKit
def convR (l : Nat) (b : List (List Fra)) : List (List Fra) := b.map fun r => r.drop l ++ r.take l
theorem convR_step {l : Nat} {b : List (List Fra)} {k : Nat} {r : List Fra} (h : b[k]? = some r) : (convR l b).take (k + 1) = (convR l b).take k ++ [r.drop l ++ r.take l] := by
  rw [List.take_add_one, convR, List.getElem?_map, h]; rfl
theorem convR_wid {l r : Nat} {b : List (List Fra)} (h : Wid (l + r) b) : Wid (r + l) (convR l b) := fun v hv => by
  obtain ⟨u, hu, rfl⟩ := List.mem_map.1 hv
  have := h u hu
  rw [List.length_append, List.length_drop, List.length_take]
  omega
theorem convR_gd {p : Int} {L l : Nat} {b : List (List Fra)} (h : GdM p L b) : GdM p L (convR l b) := fun v hv => by
  obtain ⟨u, hu, rfl⟩ := List.mem_map.1 hv
  exact ((h u hu).drop l).app ((h u hu).take l)
theorem pow4_le {n : Nat} (h : n ≤ 12) : 21 * 4 ^ n ≤ 17179869184 := by
  have : 4 ^ n ≤ 4 ^ 12 := Nat.pow_le_pow_right (by omega) h
  omega
noncomputable def cnvU (p : Int) (x : RRel) : RRel × Bool := if rrB p x = true then genU p x.r x.l (convR x.l.toNat x.b) else (⟨0, 0, []⟩, false)
theorem cnvU_no {p : Int} {x : RRel} (h : rrB p x = false) : cnvU p x = (⟨0, 0, []⟩, false) := if_neg (by rw [h]; simp)
theorem cnvU_yes {p : Int} {x : RRel} (h : rrB p x = true) : cnvU p x = genU p x.r x.l (convR x.l.toNat x.b) := if_pos h
theorem GE.rowsN {W0 w : World} {S : Nat → Prop} {B H : Nat} {v : Value} {xs : List (List Fra)} (h : GE (ELQ W0) 34 w B H v xs) (hl : xs.length ≤ 1099511627776) (he : Ex W0 w) (hS : ∀ k, S k → W0.heap.size ≤ k ∧ k < B) : ∃ A c, v = .slice A xs.length c ∧ RowsN S w A xs := by
  by_cases hv : v = .slice none 0 0
  · subst hv
    have := h.len0
    subst this
    exact ⟨none, 0, rfl, by simp, fun j x hj => by simp at hj⟩
  · obtain ⟨g, c, rfl, hgc, _⟩ := h.form hv
    obtain ⟨cur, al, bl, _, hB, hH, hh, h1, h2⟩ := h.at_
    refine ⟨_, c, rfl, hl, fun j r hj => ?_⟩
    obtain ⟨u, k1, ⟨A, c2, k2, k3⟩, k4, _⟩ := h1 j r hj
    subst k2
    refine ⟨g, 0, A, c2, rfl, ?_, fun w2 hw2 => k3 w2 (he.sx hw2 fun i hi => (hS i hi).1) fun k q1 _ q3 => hw2.block k q3 fun e => by have := hS k e; omega⟩
    have := k1 0 _ rfl
    rw [show (ELQ W0).k = 1 from rfl, Nat.mul_one, Nat.add_zero] at this
    rw [Nat.zero_add]
    exact cell_of_cur hh this
set_option maxHeartbeats 8000000 in
theorem rrConverse_c (p : Int) (l r : Nat) (b : List (List Fra)) (A : Option Addr) (c : Nat) (w : World) (h : RdC w A b) (hb : b.length ≤ 12) (hlr : l + r ≤ 12) (hw : Wid (l + r) b) (h0 : ∀ v ∈ b, 0 < v.length) (hF : fieldB p = true) (hg : GdM p 21 b) :
    Calls Tryz.prog 58 #[.int .i64 p, .agg #[.int .i64 l, .int .i64 r, .slice A b.length c]] w fun e w' => ∃ A' c', e = .returned (.agg #[.int .i64 r, .int .i64 l, .slice A' ((frOps p).rref (r + l) (convR l b)).length c']) ∧ RdS EFF w' A' ((frOps p).rref (r + l) (convR l b)) ∧ Ex w w' := by
  have HW := Lib.hid hw
  have HF := Lib.hid hF
  have HG := Lib.hid hg
  have H0 := Lib.hid h0
  have H := Lib.hid h
  have hl := h.1.1
  have y0 := (Ex.refl w).alloc (.cells #[.int .i64 l, .int .i64 r, .slice A b.length c] 32)
  have d0 := VB.new w 32 #[.int .i64 l, .int .i64 r, .slice A b.length c]
  have S0 := Lib.hid (show (w.alloc (.cells #[.int .i64 l, .int .i64 r, .slice A b.length c] 32)).heap.size = w.heap.size + 1 by simp)
  clear hw hF hg h0 h
  go_enter Tryz.func58, Tryz.ntmps58
  go_wp2_with fail
  generalize w.alloc (.cells #[.int .i64 l, .int .i64 r, .slice A b.length c] 32) = W0 at *
  have y2 := (Ex.refl W0).alloc (.cells #[.int .i64 0, .int .i64 0, .slice none 0 0] 32)
  have d2 := VB.new W0 32 #[.int .i64 0, .int .i64 0, .slice none 0 0]
  have S2 := Lib.hid (show (W0.alloc (.cells #[.int .i64 0, .int .i64 0, .slice none 0 0] 32)).heap.size = w.heap.size + 1 + 1 by simp; exact S0.out)
  rw [S0.out] at d2
  have q := d0.ex y2
  have q2 := q.cell 2 (v := .slice A b.length c) rfl
  go_wp2_with fail
  generalize W0.alloc (.cells #[.int .i64 0, .int .i64 0, .slice none 0 0] 32) = W2 at *
  have xx := y0.trans y2
  clear y0 y2 d0 q2
  go_loopw [5, 11] (fun o i wr => ∃ k : Nat, k ≤ b.length ∧ i = .int .i64 k ∧ GE (ELQ w) 34 wr W2.heap.size wr.heap.size o ((convR l b).take k) ∧ Ex W2 wr) (fun _ i _ => b.length - (intOf i).toNat)
  case atStart => exact ⟨0, Nat.zero_le _, rfl, GE.nil _ _ _ _ _, Ex.refl _⟩
  case round =>
    rename World => wi
    obtain ⟨k, hk, rfl, hge, he⟩ := hrel
    have xw := xx.trans he
    have hzi := he.size
    by_cases hlt : k < b.length
    · obtain ⟨g, off, row, P, pc, eA, hr, b0w, hpc, hP⟩ := H.out.at_ hlt
      subst eA
      have hm := List.mem_of_getElem? hr
      have hr0 := H0.out row hm
      have hrl := HW.out row hm
      have HT := Lib.hid (convR_step (l := l) hr)
      obtain ⟨g2, off2, y, _, _, _, _, eP, _⟩ := hP.frac hr0
      subst eP
      have b0 := cell_ex xw b0w
      have q0 := (q.ex he).cell 0 (v := .int .i64 l) rfl
      have hdl : (row.drop l).length = row.length - l := List.length_drop
      have htl : (row.take l).length = l := by rw [List.length_take]; omega
      have hctl : ((convR l b).take k).length ≤ k := List.length_take_le _ _
      have hlpc : l ≤ pc := by omega
      obtain ⟨RL, hRL⟩ : ∃ RL, row.length = RL := ⟨_, rfl⟩
      rw [hRL] at b0 hpc hr0 hrl hdl
      have hlRL : l ≤ RL := by omega
      have hRL12 : RL ≤ 12 := by omega
      clear hr hm b0w hrl
      by_cases hpl : pc - l = 0
      · obtain rfl : l = pc := by omega
        obtain rfl : l = RL := by omega
        rw [Nat.sub_self] at hdl
        clear hpl
        have hPe : row.drop l = [] := List.eq_nil_of_length_eq_zero hdl
        have QD : ∀ W, Ex w W → RowQ (fun w2 => Ex w w2) W (some ⟨g2, off2, none⟩) (row.drop l) := fun W _ => by rw [hPe]; exact RowQ.nil _ _ _
        have QT : ∀ W, Ex w W → RowQ (fun w2 => Ex w w2) W (some ⟨g2, off2, none⟩) (row.take l) := fun W hW => (RowQ.of_rds hP hW (fun _ h => h)).tk l
        have x4 := ((Ex.refl wi).alloc (.cells #[] 58)).drew
        obtain ⟨v5, w5, prs1, hrun1, ge5, hl5, hp5, hE5⟩ := push_fracsQ ((GE.empty ELW 58 wi (Nat.le_refl _)).ex (Ex.refl _).drew) (by simp) (by simp) (some ⟨g2, off2, none⟩) 0 (row.drop l) (QD _ (xw.trans x4)) (by simp; omega)
        have x5 := hE5 wi x4 (Nat.le_refl _)
        obtain ⟨v6, w6, prs2, hrun2, ge6, hl6, hp6, hE6⟩ := push_fracsQ ge5 (Nat.le_refl _) x5.size (some ⟨g2, off2, none⟩) l (row.take l) (QT _ (xw.trans x5)) (by simp; omega)
        have x6 := hE6 wi x5 (Nat.le_refl _)
        have rp : RowP (fun w2 => Ex w w2) w6 wi.heap.size w6.heap.size v6 (row.drop l ++ row.take l) := by
          refine ⟨_, ge6, by simp [hl5, hl6], fun j x hj => ?_⟩
          rw [List.nil_append]
          by_cases e : j < (row.drop l).length
          · rw [List.getElem?_append_left e] at hj
            rw [List.getElem?_append_left (by omega)]
            exact hp5 j x hj
          · rw [List.getElem?_append_right (by omega)] at hj
            rw [List.getElem?_append_right (by omega), hl5]
            exact hp6 _ x hj
        obtain ⟨A6, c6, ev⟩ := rp.form
        have hq := rp.elq (W0 := w) (by simp; omega) (fun w2 h0 _ => h0)
        have hz6 := x6.size
        obtain ⟨v7, w7, hrun3, ge7, _, _, hE7⟩ := push_rowsQ (hge.ex x6) hz6 hq (by omega) hz6 (Nat.le_refl _) hzi (by simp; omega)
        rw [← HT.out] at ge7
        have x7 := hE7 W2 (he.trans x6) (Nat.le_refl _)
        rw [hdl] at hrun1
        rw [htl] at hrun2
        rw [show (row.drop l ++ row.take l).length = l by rw [List.length_append, hdl, htl]; omega] at ev
        subst ev
        have HS7 := (q.ex x7).cell 0 (v := .int .i64 l) rfl
        have HS : ∀ W, Ex wi W → (W.cell? ⟨w.heap.size, 0, none⟩ = some (.int .i64 l)) := fun W h => cell_ex h q0
        clear QD QT hE5 hE6 hE7 hp5 hp6 ge5 ge6 rp hq hl5 hl6 hge hdl htl hRL HT
        go_wp2_with fail
        go_region_held3 (fun W => W.cell? ⟨w.heap.size, 0, none⟩ = some (.int .i64 l)) (first
          | (exact HS _ x6) | (exact HS _ x5) | (exact HS _ x4) | (exact HS _ (Ex.refl _).drew) | (exact HS _ (Ex.refl _)) | (exact HS _ ((Ex.refl _).alloc _)) | (exact HS _ (x6.alloc _)) | (exact HS7)) (first
          | (refine step_append_run (vs := .slice (some ⟨wi.heap.size, 0, none⟩) 0 0) (vx := .slice (some ⟨g2, off2, none⟩) 0 0) rfl _ _ _ rfl rfl rfl (by with_reducible exact hrun1) ?_)
          | (refine step_append_run (vs := v5) (vx := .slice (some ⟨g2, off2, none⟩) l l) rfl _ _ _ rfl rfl rfl (by with_reducible exact hrun2) ?_)
          | (refine step_append_run rfl _ _ _ rfl rfl rfl hrun3 ?_))
        all_goals
          clear HS HS7 hrun1 hrun2 hrun3 q0
          go_wp2_with fail
          go_roundw
          case rel => exact ⟨k + 1, by omega, by go_num, ge7, x7⟩
          case measure => simp [intOf]; omega
      · have hpl2 : ¬ (pc = l) := by omega
        have QD : ∀ W, Ex w W → RowQ (fun w2 => Ex w w2) W (some ⟨g2, off2 + l * 2, none⟩) (row.drop l) := fun W hW => (RowQ.of_rds hP hW (fun _ h => h)).dp l
        have QT : ∀ W, Ex w W → RowQ (fun w2 => Ex w w2) W (some ⟨g2, off2, none⟩) (row.take l) := fun W hW => (RowQ.of_rds hP hW (fun _ h => h)).tk l
        have x4 := ((Ex.refl wi).alloc (.cells #[] 58)).drew
        obtain ⟨v5, w5, prs1, hrun1, ge5, hl5, hp5, hE5⟩ := push_fracsQ ((GE.empty ELW 58 wi (Nat.le_refl _)).ex (Ex.refl _).drew) (by simp) (by simp) (some ⟨g2, off2 + l * 2, none⟩) (pc - l) (row.drop l) (QD _ (xw.trans x4)) (by simp; omega)
        have x5 := hE5 wi x4 (Nat.le_refl _)
        obtain ⟨v6, w6, prs2, hrun2, ge6, hl6, hp6, hE6⟩ := push_fracsQ ge5 (Nat.le_refl _) x5.size (some ⟨g2, off2, none⟩) pc (row.take l) (QT _ (xw.trans x5)) (by simp; omega)
        have x6 := hE6 wi x5 (Nat.le_refl _)
        have rp : RowP (fun w2 => Ex w w2) w6 wi.heap.size w6.heap.size v6 (row.drop l ++ row.take l) := by
          refine ⟨_, ge6, by simp [hl5, hl6], fun j x hj => ?_⟩
          rw [List.nil_append]
          by_cases e : j < (row.drop l).length
          · rw [List.getElem?_append_left e] at hj
            rw [List.getElem?_append_left (by omega)]
            exact hp5 j x hj
          · rw [List.getElem?_append_right (by omega)] at hj
            rw [List.getElem?_append_right (by omega), hl5]
            exact hp6 _ x hj
        obtain ⟨A6, c6, ev⟩ := rp.form
        have hq := rp.elq (W0 := w) (by simp; omega) (fun w2 h0 _ => h0)
        have hz6 := x6.size
        obtain ⟨v7, w7, hrun3, ge7, _, _, hE7⟩ := push_rowsQ (hge.ex x6) hz6 hq (by omega) hz6 (Nat.le_refl _) hzi (by simp; omega)
        rw [← HT.out] at ge7
        have x7 := hE7 W2 (he.trans x6) (Nat.le_refl _)
        rw [hdl] at hrun1
        rw [htl] at hrun2
        rw [show (row.drop l ++ row.take l).length = RL by rw [List.length_append, hdl, htl]; omega] at ev
        subst ev
        have HS7 := (q.ex x7).cell 0 (v := .int .i64 l) rfl
        have HS : ∀ W, Ex wi W → (W.cell? ⟨w.heap.size, 0, none⟩ = some (.int .i64 l)) := fun W h => cell_ex h q0
        clear QD QT hE5 hE6 hE7 hp5 hp6 ge5 ge6 rp hq hl5 hl6 hge hdl htl hRL HT
        go_wp2_with fail
        go_region_held3 (fun W => W.cell? ⟨w.heap.size, 0, none⟩ = some (.int .i64 l)) (first
          | (exact HS _ x6) | (exact HS _ x5) | (exact HS _ x4) | (exact HS _ (Ex.refl _).drew) | (exact HS _ (Ex.refl _)) | (exact HS _ ((Ex.refl _).alloc _)) | (exact HS _ (x6.alloc _)) | (exact HS7)) (first
          | (refine step_append_run (vs := .slice (some ⟨wi.heap.size, 0, none⟩) 0 0) (vx := .slice (some ⟨g2, off2 + l * 2, none⟩) (RL - l) (pc - l)) rfl _ _ _ rfl rfl rfl (by with_reducible exact hrun1) ?_)
          | (refine step_append_run (vs := v5) (vx := .slice (some ⟨g2, off2, none⟩) l pc) rfl _ _ _ rfl rfl rfl (by with_reducible exact hrun2) ?_)
          | (refine step_append_run rfl _ _ _ rfl rfl rfl hrun3 ?_))
        all_goals
          clear HS HS7 hrun1 hrun2 hrun3 q0
          go_wp2_with fail
          go_roundw
          case rel => exact ⟨k + 1, by omega, by go_num, ge7, x7⟩
          case measure => simp [intOf]; omega
    · obtain rfl : k = b.length := by omega
      rw [List.take_of_length_le (by rw [convR, List.length_map]; exact Nat.le_refl _)] at hge
      have hzw := xx.size
      obtain ⟨A3, c3, ev, hN⟩ := hge.rowsN (S := fun z => w.heap.size ≤ z ∧ z < W2.heap.size) (by rw [convR, List.length_map]; omega) xw (fun z hz => hz)
      subst ev
      have qr := q.ex he
      have q0 := qr.cell 0 (v := .int .i64 l) rfl
      have q1 := qr.cell 1 (v := .int .i64 r) rfl
      have cO := rrOf_c (fun z => w.heap.size ≤ z ∧ z < W2.heap.size) p r l (convR l b) A3 c3 wi HF.out hN (fun z hz => by omega) (convR_wid HW.out) (stg_bd (convR_gd HG.out) (convR_wid HW.out) (Nat.le_refl _) (pow4_le (by omega))) (by omega) (by rw [convR, List.length_map]; omega)
      clear hge hN
      obtain ⟨RR, hRR⟩ : ∃ RR, (frOps p).rref (r + l) (convR l b) = RR := ⟨_, rfl⟩
      have HRR := Lib.hid hRR
      rw [hRR] at cO
      clear hRR
      go_wp2_with fail
      refine cO.mono ?_
      rintro e w4 ⟨A4, c4, rfl, r4, x4⟩
      clear cO q0 q1
      have dz := (d2.ex he).ex x4
      have xz := xw.trans x4
      obtain ⟨dd, zz⟩ := dz.st3 (.int .i64 r) (.int .i64 l) (.slice A4 RR.length c4)
      have u0 := dz.cell 0 (v := .int .i64 0) rfl
      have u1 := dz.cell 1 (v := .int .i64 0) rfl
      have u2 := dz.cell 2 (v := .slice none 0 0) rfl
      have k0 := dz.frozen 0
      have k1 := dz.frozen 1
      have k2 := dz.frozen 2
      have C0 := dd.cell 0 (v := .int .i64 r) rfl
      have C1 := dd.cell 1 (v := .int .i64 l) rfl
      have C2 := dd.cell 2 (v := .slice A4 RR.length c4) rfl
      have eF := xz.ex1 zz (by omega)
      have hl2 := d2.lt
      have rF := r4 _ (ExS.of_ex1 (S := fun z => w.heap.size ≤ z ∧ z < W2.heap.size) zz (by omega))
      go_wp2_with fail
      refine bodyPost_ret (v := .agg #[.int .i64 r, .int .i64 l, .slice A4 RR.length c4]) (by simp [results, Tryz.results58, go_sem, C0, C1, C2]) rfl ?_
      rw [HRR.out]
      exact ⟨A4, c4, rfl, rF, eF⟩
end Go.Proofs.YtpeogfapnofeoaaGreatDoor
namespace Go.Proofs.YtpeogfapnofeoaaGreatDoor
set_option maxRecDepth 100000
open Go Go.RowKit
theorem rq_two {Good : World → Prop} {w : World} {g n m : Nat} {A B : Option Addr} {c d : Nat} {xs ys : List Fra} (hv : VB w g 34 #[.slice A n c, .slice B m d]) (hx : RowQ Good w A xs) (hy : RowQ Good w B ys) (hn : xs.length = n) (hm : ys.length = m) : RowsQ Good w (some ⟨g, 0, none⟩) [xs, ys] := by
  subst hn hm
  intro j r hj
  rcases j with _ | _ | j
  · injection hj with hj
    subst hj
    exact ⟨g, 0, A, c, rfl, hv.cell 0 rfl, hx⟩
  · injection hj with hj
    subst hj
    exact ⟨g, 0, B, d, rfl, hv.cell 1 rfl, hy⟩
  · simp at hj
set_option maxHeartbeats 8000000 in
theorem ratConverse_c (p : Int) (l r : Nat) (b : List (List Fra)) (A : Option Addr) (c : Nat) (w : World) (h : RdC w A b) (hb : b.length ≤ 12) (hlr : l + r ≤ 12) (hw : Wid (l + r) b) (h0 : ∀ v ∈ b, 0 < v.length) (hF : fieldB p = true) (hg : GdM p 21 b) :
    Calls Tryz.prog 59 #[.int .i64 p, .agg #[.int .i64 l, .int .i64 r, .slice A b.length c]] w fun e w' => ∃ y, e = .returned (.agg #[.int .i64 r, .int .i64 l, y]) ∧ OFX w' w.heap.size w'.heap.size y ((frOps p).rref (r + l) (convR l b)) ∧ Ex w w' := by
  have HW := Lib.hid hw
  have HF := Lib.hid hF
  have HG := Lib.hid hg
  have H0 := Lib.hid h0
  have H := Lib.hid h
  have hl := h.1.1
  have y0 := (Ex.refl w).alloc (.cells #[.int .i64 l, .int .i64 r, .slice A b.length c] 32)
  have d0 := VB.new w 32 #[.int .i64 l, .int .i64 r, .slice A b.length c]
  have S0 := Lib.hid (show (w.alloc (.cells #[.int .i64 l, .int .i64 r, .slice A b.length c] 32)).heap.size = w.heap.size + 1 by simp)
  clear hw hF hg h0 h
  go_enter Tryz.func59, Tryz.ntmps59
  go_wp2_with fail
  generalize w.alloc (.cells #[.int .i64 l, .int .i64 r, .slice A b.length c] 32) = W0 at *
  have y2 := (Ex.refl W0).alloc (.cells #[.int .i64 0, .int .i64 0, .slice none 0 0] 32)
  have d2 := VB.new W0 32 #[.int .i64 0, .int .i64 0, .slice none 0 0]
  have S2 := Lib.hid (show (W0.alloc (.cells #[.int .i64 0, .int .i64 0, .slice none 0 0] 32)).heap.size = w.heap.size + 1 + 1 by simp; exact S0.out)
  rw [S0.out] at d2
  have q := d0.ex y2
  generalize W0.alloc (.cells #[.int .i64 0, .int .i64 0, .slice none 0 0] 32) = W2 at *
  have xx := y0.trans y2
  clear y0 y2 d0
  have ge0 := GE.empty (ELQ w) 34 W2 (Nat.le_refl W2.heap.size)
  have he1 := (Ex.refl W2).alloc (.cells #[] 34)
  have hs1 : (W2.alloc (.cells #[] 34)).heap.size = W2.heap.size + 1 := by simp
  have q2 := (q.ex he1).cell 2 (v := .slice A b.length c) rfl
  go_wp2_with fail
  go_loopw [5, 12] (fun o i wr => ∃ k : Nat, k ≤ b.length ∧ i = .int .i64 k ∧ GE (ELQ w) 34 wr W2.heap.size wr.heap.size o ((convR l b).take k) ∧ Ex W2 wr) (fun _ i _ => b.length - (intOf i).toNat)
  case atStart => exact ⟨0, Nat.zero_le _, rfl, by rw [hs1, ← S2.out]; first | exact ge0 | simpa [S2.out] using ge0, he1⟩
  case round =>
    rename World => wi
    clear ge0 he1 hs1 q2
    obtain ⟨k, hk, rfl, hge, he⟩ := hrel
    have xw := xx.trans he
    have hzi := he.size
    by_cases hlt : k < b.length
    · obtain ⟨g, off, row, P, pc, eA, hr, b0w, hpc, hP⟩ := H.out.at_ hlt
      subst eA
      have hm := List.mem_of_getElem? hr
      have hr0 := H0.out row hm
      have hrl := HW.out row hm
      have HT := Lib.hid (convR_step (l := l) hr)
      obtain ⟨g2, off2, y, _, _, _, _, eP, _⟩ := hP.frac hr0
      subst eP
      have b0 := cell_ex xw b0w
      have q0 := (q.ex he).cell 0 (v := .int .i64 l) rfl
      have hdl : (row.drop l).length = row.length - l := List.length_drop
      have htl : (row.take l).length = l := by rw [List.length_take]; omega
      have hctl : ((convR l b).take k).length ≤ k := List.length_take_le _ _
      have hlpc : l ≤ pc := by omega
      obtain ⟨RL, hRL⟩ : ∃ RL, row.length = RL := ⟨_, rfl⟩
      rw [hRL] at b0 hpc hr0 hrl hdl
      have hlRL : l ≤ RL := by omega
      have hRL12 : RL ≤ 12 := by omega
      clear hr hm b0w hrl
      by_cases hpl : pc - l = 0
      · obtain rfl : l = pc := by omega
        obtain rfl : l = RL := by omega
        rw [Nat.sub_self] at hdl
        clear hpl
        have hPe : row.drop l = [] := List.eq_nil_of_length_eq_zero hdl
        have QD : ∀ W, Ex w W → RowQ (fun w2 => Ex w w2) W (some ⟨g2, off2, none⟩) (row.drop l) := fun W _ => by rw [hPe]; exact RowQ.nil _ _ _
        have QT : ∀ W, Ex w W → RowQ (fun w2 => Ex w w2) W (some ⟨g2, off2, none⟩) (row.take l) := fun W hW => (RowQ.of_rds hP hW (fun _ h => h)).tk l
        have x4 := ((Ex.refl wi).alloc (.cells #[.slice (some ⟨g2, off2, none⟩) 0 0, .slice (some ⟨g2, off2, none⟩) l l] 34)).drew
        have v4 : VB (wi.alloc (.cells #[.slice (some ⟨g2, off2, none⟩) 0 0, .slice (some ⟨g2, off2, none⟩) l l] 34)).drew wi.heap.size 34 #[.slice (some ⟨g2, off2, none⟩) 0 0, .slice (some ⟨g2, off2, none⟩) l l] := VB.new wi _ _
        have cC : ∀ W, Ex wi W → VB W wi.heap.size 34 #[.slice (some ⟨g2, off2, none⟩) 0 0, .slice (some ⟨g2, off2, none⟩) l l] → Calls Tryz.prog 38 #[.slice (some ⟨wi.heap.size, 0, none⟩) 2 2] W fun e w' => ∃ A6 c6, e = .returned (.slice A6 l c6) ∧ RowP (fun w2 => Ex w w2) w' W.heap.size w'.heap.size (.slice A6 l c6) (row.drop l ++ row.take l) ∧ Ex W w' := fun W hW hv => by
          have hq := concat_q (Good := fun w2 => Ex w w2) (some ⟨wi.heap.size, 0, none⟩) 2 [row.drop l, row.take l] W (rq_two hv (QD _ (xw.trans hW)) (QT _ (xw.trans hW)) hdl htl) (by simp) (fun r hr => by
            rcases List.mem_cons.1 hr with rfl | hr
            · rw [hdl]; omega
            · rw [List.mem_singleton.1 hr, htl]; omega)
          refine hq.mono ?_
          rintro e w' ⟨v, rfl, rp, xx2⟩
          have e2 : ([row.drop l, row.take l] : List (List Fra)).flatten = row.drop l ++ row.take l := by simp
          rw [e2] at rp
          obtain ⟨A6, c6, ev⟩ := rp.form
          rw [show (row.drop l ++ row.take l).length = l by rw [List.length_append, hdl, htl]; omega] at ev
          subst ev
          exact ⟨A6, c6, rfl, rp, xx2⟩
        have HRLl := Lib.hid (show (row.drop l ++ row.take l).length ≤ 1099511627776 by rw [List.length_append, hdl, htl]; omega)
        have HS : ∀ W, Ex wi W → (W.cell? ⟨w.heap.size, 0, none⟩ = some (.int .i64 l)) := fun W h => cell_ex h q0
        clear QD QT hdl htl hRL
        go_wp2_with fail
        go_region_held3 (fun W => W.cell? ⟨w.heap.size, 0, none⟩ = some (.int .i64 l)) (first
          | (exact HS7) | (exact HS _ (x6.alloc _)) | (exact HS _ x6) | (exact HS _ x4) | (exact HS _ (Ex.refl _).drew) | (exact HS _ (Ex.refl _)) | (exact HS _ ((Ex.refl _).alloc _))) (first
          | (go_at_call 38
             refine (cC _ x4 v4).mono ?_
             rintro e w6 ⟨A6, c6, rfl, rp, x6'⟩
             have x6 : Ex wi w6 := x4.trans x6'
             have hz6 := x6.size
             have hz4 := x4.size
             have hz6' := x6'.size
             have hq := rp.elq (W0 := w) HRLl.out (fun w2 h0 _ => h0)
             obtain ⟨v7, w7, hrun3, ge7, _, hnn7, hE7⟩ := push_rowsQ (hge.ex x6) hz6 hq hz4 hz6' (Nat.le_refl _) hzi (by simp; omega)
             rw [← HT.out] at ge7
             have x7 := hE7 W2 (he.trans x6) (Nat.le_refl _)
             have HS7 := (q.ex x7).cell 0 (v := .int .i64 l) rfl)
          | (refine step_append_run rfl _ _ _ rfl rfl rfl hrun3 ?_))
        all_goals
          clear HS HS7 hrun3 q0 hE7 rp hq cC v4 hge HT
          go_wp2_with fail
          go_roundw
          case rel => exact ⟨k + 1, by omega, by go_num, ge7, x7⟩
          case measure => simp [intOf]; omega
      · have hpl2 : ¬ (pc = l) := by omega
        have QD : ∀ W, Ex w W → RowQ (fun w2 => Ex w w2) W (some ⟨g2, off2 + l * 2, none⟩) (row.drop l) := fun W hW => (RowQ.of_rds hP hW (fun _ h => h)).dp l
        have QT : ∀ W, Ex w W → RowQ (fun w2 => Ex w w2) W (some ⟨g2, off2, none⟩) (row.take l) := fun W hW => (RowQ.of_rds hP hW (fun _ h => h)).tk l
        have x4 := ((Ex.refl wi).alloc (.cells #[.slice (some ⟨g2, off2 + l * 2, none⟩) (RL - l) (pc - l), .slice (some ⟨g2, off2, none⟩) l pc] 34)).drew
        have v4 : VB (wi.alloc (.cells #[.slice (some ⟨g2, off2 + l * 2, none⟩) (RL - l) (pc - l), .slice (some ⟨g2, off2, none⟩) l pc] 34)).drew wi.heap.size 34 #[.slice (some ⟨g2, off2 + l * 2, none⟩) (RL - l) (pc - l), .slice (some ⟨g2, off2, none⟩) l pc] := VB.new wi _ _
        have cC : ∀ W, Ex wi W → VB W wi.heap.size 34 #[.slice (some ⟨g2, off2 + l * 2, none⟩) (RL - l) (pc - l), .slice (some ⟨g2, off2, none⟩) l pc] → Calls Tryz.prog 38 #[.slice (some ⟨wi.heap.size, 0, none⟩) 2 2] W fun e w' => ∃ A6 c6, e = .returned (.slice A6 RL c6) ∧ RowP (fun w2 => Ex w w2) w' W.heap.size w'.heap.size (.slice A6 RL c6) (row.drop l ++ row.take l) ∧ Ex W w' := fun W hW hv => by
          have hq := concat_q (Good := fun w2 => Ex w w2) (some ⟨wi.heap.size, 0, none⟩) 2 [row.drop l, row.take l] W (rq_two hv (QD _ (xw.trans hW)) (QT _ (xw.trans hW)) hdl htl) (by simp) (fun r hr => by
            rcases List.mem_cons.1 hr with rfl | hr
            · rw [hdl]; omega
            · rw [List.mem_singleton.1 hr, htl]; omega)
          refine hq.mono ?_
          rintro e w' ⟨v, rfl, rp, xx2⟩
          have e2 : ([row.drop l, row.take l] : List (List Fra)).flatten = row.drop l ++ row.take l := by simp
          rw [e2] at rp
          obtain ⟨A6, c6, ev⟩ := rp.form
          rw [show (row.drop l ++ row.take l).length = RL by rw [List.length_append, hdl, htl]; omega] at ev
          subst ev
          exact ⟨A6, c6, rfl, rp, xx2⟩
        have HRLl := Lib.hid (show (row.drop l ++ row.take l).length ≤ 1099511627776 by rw [List.length_append, hdl, htl]; omega)
        have HS : ∀ W, Ex wi W → (W.cell? ⟨w.heap.size, 0, none⟩ = some (.int .i64 l)) := fun W h => cell_ex h q0
        clear QD QT hdl htl hRL
        go_wp2_with fail
        go_region_held3 (fun W => W.cell? ⟨w.heap.size, 0, none⟩ = some (.int .i64 l)) (first
          | (exact HS7) | (exact HS _ (x6.alloc _)) | (exact HS _ x6) | (exact HS _ x4) | (exact HS _ (Ex.refl _).drew) | (exact HS _ (Ex.refl _)) | (exact HS _ ((Ex.refl _).alloc _))) (first
          | (go_at_call 38
             refine (cC _ x4 v4).mono ?_
             rintro e w6 ⟨A6, c6, rfl, rp, x6'⟩
             have x6 : Ex wi w6 := x4.trans x6'
             have hz6 := x6.size
             have hz4 := x4.size
             have hz6' := x6'.size
             have hq := rp.elq (W0 := w) HRLl.out (fun w2 h0 _ => h0)
             obtain ⟨v7, w7, hrun3, ge7, _, hnn7, hE7⟩ := push_rowsQ (hge.ex x6) hz6 hq hz4 hz6' (Nat.le_refl _) hzi (by simp; omega)
             rw [← HT.out] at ge7
             have x7 := hE7 W2 (he.trans x6) (Nat.le_refl _)
             have HS7 := (q.ex x7).cell 0 (v := .int .i64 l) rfl)
          | (refine step_append_run rfl _ _ _ rfl rfl rfl hrun3 ?_))
        all_goals
          clear HS HS7 hrun3 q0 hE7 rp hq cC v4 hge HT
          go_wp2_with fail
          go_roundw
          case rel => exact ⟨k + 1, by omega, by go_num, ge7, x7⟩
          case measure => simp [intOf]; omega
    · obtain rfl : k = b.length := by omega
      rw [List.take_of_length_le (by rw [convR, List.length_map]; exact Nat.le_refl _)] at hge
      obtain ⟨A3, c3, ev, hN⟩ := hge.rowsQ (by rw [convR, List.length_map]; omega) xw
      subst ev
      have qr := q.ex he
      have q0 := qr.cell 0 (v := .int .i64 l) rfl
      have q1 := qr.cell 1 (v := .int .i64 r) rfl
      have cO := ratRelation_c p r l (convR l b) A3 c3 wi HF.out hN (convR_wid HW.out) (stg_bd (convR_gd HG.out) (convR_wid HW.out) (Nat.le_refl _) (pow4_le (by omega))) (by omega) (by rw [convR, List.length_map]; omega)
      clear hge hN
      obtain ⟨RR, hRR⟩ : ∃ RR, (frOps p).rref (r + l) (convR l b) = RR := ⟨_, rfl⟩
      have HRR := Lib.hid hRR
      rw [hRR] at cO
      clear hRR
      go_wp2_with fail
      refine cO.mono ?_
      rintro e w4 ⟨y4, rfl, fx, x4⟩
      obtain ⟨A4, c4, rfl, _⟩ := fx.rd
      clear cO q0 q1
      have hl2 := d2.lt
      have hzx := xx.size
      have dz := (d2.ex he).ex x4
      have xz := xw.trans x4
      obtain ⟨dd, zz⟩ := dz.st3 (.int .i64 r) (.int .i64 l) (.slice A4 RR.length c4)
      have u0 := dz.cell 0 (v := .int .i64 0) rfl
      have u1 := dz.cell 1 (v := .int .i64 0) rfl
      have u2 := dz.cell 2 (v := .slice none 0 0) rfl
      have k0 := dz.frozen 0
      have k1 := dz.frozen 1
      have k2 := dz.frozen 2
      have C0 := dd.cell 0 (v := .int .i64 r) rfl
      have C1 := dd.cell 1 (v := .int .i64 l) rfl
      have C2 := dd.cell 2 (v := .slice A4 RR.length c4) rfl
      have eF := xz.ex1 zz (by omega)
      have fx2 := fx.iv (ExI.of_ex1 zz) (by omega)
      have fx3 := fx2.more (a' := w.heap.size) (b' := w4.heap.size) (by omega) (Nat.le_refl _)
      go_wp2_with fail
      refine bodyPost_ret (v := .agg #[.int .i64 r, .int .i64 l, .slice A4 RR.length c4]) (by simp [results, Tryz.results59, go_sem, C0, C1, C2]) rfl ?_
      rw [HRR.out]
      exact ⟨_, rfl, fx3.more (Nat.le_refl _) (Nat.le_of_eq (by simp)), eF⟩
end Go.Proofs.YtpeogfapnofeoaaGreatDoor
namespace Go.Proofs.YtpeogfapnofeoaaGreatDoor
set_option maxRecDepth 100000
open Go Go.RowKit
theorem RdS.dropk {α : Type} {E : EK α} {w : World} {g off : Nat} {xs : List α} (h : RdS E w (some ⟨g, off, none⟩) xs) (k : Nat) : RdS E w (some ⟨g, off + k * E.k, none⟩) (xs.drop k) := by
  obtain ⟨hl, h⟩ := h
  refine ⟨by rw [List.length_drop]; omega, fun j x hj => ?_⟩
  rw [List.getElem?_drop] at hj
  obtain ⟨g', off', vs, e, hc, hR⟩ := h (k + j) x hj
  injection e with e
  injection e with e1 e2
  subst e1 e2
  refine ⟨g, _, vs, rfl, fun i u hu => ?_, hR⟩
  have := hc i u hu
  rwa [Nat.add_mul, ← Nat.add_assoc] at this
theorem RdS.takek {α : Type} {E : EK α} {w : World} {A : Option Addr} {xs : List α} (h : RdS E w A xs) (k : Nat) : RdS E w A (xs.take k) := by
  obtain ⟨hl, h⟩ := h
  exact ⟨Nat.le_trans (List.length_take_le' _ _) hl, fun j x hj => h j x (by rw [List.getElem?_take] at hj; split at hj; exact hj; cases hj)⟩
/-- Values of one cell each. -/
def ELV : EL Value where
  k := 1
  O := fun _ _ _ vs x => vs = [x] ∧ x.oneCell' = true
  rlen := fun h => by rw [h.1]; rfl
  keep := fun h _ => h
  one := fun h u hu => by rw [h.1] at hu; simp at hu; subst hu; exact h.2
/-- Rows that read, and whether. -/
def RdRB (w : World) (r : List (List Fra) × Bool) (e : Ending) (w' : World) : Prop := ∃ A c, e = .returned (.tuple #[.slice A r.1.length c, .bool r.2]) ∧ RdS EFF w' A r.1 ∧ Ex w w'
def rfR (l : Int) (b : List (List Fra)) : List (List Fra) × Bool := if rfB l b = true then (b.map (List.drop l.toNat), true) else ([], false)
theorem rfR_no {l : Int} {b : List (List Fra)} (h : ¬ rfB l b = true) : rfR l b = ([], false) := if_neg h
theorem rfR_yes {l : Int} {b : List (List Fra)} (h : rfB l b = true) : rfR l b = (b.map (List.drop l.toNat), true) := if_pos h
theorem push_val {w : World} {B H : Nat} {v : Value} {xs : List Value} (h : GE ELV 34 w B H v xs) (hH : H ≤ w.heap.size) (A : Option Addr) (n c : Nat) (hB : B ≤ H) (hl : xs.length + 1 ≤ 1099511627776) :
    ∃ v' w', (Builtin.append_ #[30, 30] 30 #[v, .slice (some ⟨w.heap.size, 0, none⟩) 1 1]).run Tryz.prog (w.alloc (.cells #[.slice A n c] 34)) = .ok v' w' ∧
      GE ELV 34 w' B w'.heap.size v' (xs ++ [.slice A n c]) ∧ ∀ b', Ex b' w → b'.heap.size ≤ B → Ex b' w' := by
  obtain ⟨i, hi, hz, hs, hby⟩ := info_parts fracsInfo
  obtain ⟨v', w', h1, h2, _, _, _, h6⟩ := GE.push ELV Tryz.underlying30 hi hz hs hby rfl (by decide) (by omega) h hH (u := [.slice A n c]) (x := .slice A n c) (a := H) (b := H) ⟨rfl, rfl⟩ (Nat.le_refl _) (Nat.le_refl _) hH hB hl
  exact ⟨v', w', h1, h2, h6⟩
theorem vals_rds {w : World} {B H : Nat} {v : Value} {vals : List Value} {rows : List (List Fra)} (h : GE ELV 34 w B H v vals) (hn : vals.length = rows.length) (hl : rows.length ≤ 1099511627776) (hr : ∀ (j : Nat) (r : List Fra), rows[j]? = some r → ∃ P pc, vals[j]? = some (.slice P r.length pc) ∧ RdS EF w P r) : ∃ A c, v = .slice A rows.length c ∧ RdS EFF w A rows := by
  by_cases hv : v = .slice none 0 0
  · subst hv
    have := h.len0
    subst this
    have : rows = [] := List.eq_nil_of_length_eq_zero hn.symm
    subst this
    exact ⟨none, 0, rfl, by simp, fun j x hj => by simp at hj⟩
  · obtain ⟨g, c, rfl, hgc, _⟩ := h.form hv
    obtain ⟨cur, al, bl, _, hB, hH, hh, h1, h2⟩ := h.at_
    refine ⟨_, c, by rw [hn], hl, fun j r hj => ?_⟩
    obtain ⟨P, pc, q1, q2⟩ := hr j r hj
    obtain ⟨u, k1, ⟨k2, _⟩, _⟩ := h1 j _ q1
    refine ⟨g, 0, u, rfl, fun i y hy => ?_, _, k2, P, pc, rfl, q2⟩
    rw [Nat.zero_add]
    exact cell_of_cur hh (k1 i y hy)
theorem rfU_good {p : Int} {x : RRel} (h : rrB p x = true) : rfU p x = rfR x.l x.b := by
  by_cases hk : rfB x.l x.b = true
  · rw [rfU_yes ⟨h, hk⟩, rfR_yes hk]
  · rw [rfU_no (fun e => hk e.2), rfR_no hk]
theorem rrB_rows {p : Int} {x : RRel} (h : rrB p x = true) : 0 ≤ x.l ∧ x.l ≤ 12 ∧ x.b.length ≤ 12 ∧ ∀ r ∈ x.b, x.l ≤ r.length ∧ 0 < r.length ∧ r.length ≤ 12 := by
  obtain ⟨h1, h2, h3, h4⟩ := rrB_iff.1 h
  have h5 := fit_lt h2
  have h6 := rrp_len h1 (gd_fv (okRows_gd h3)) h4
  exact ⟨by omega, by omega, by omega, fun r hr => by have := okRows_wid h3 r hr; have := (h4.one r hr).1; omega⟩
theorem totF_drop (n : Nat) : ∀ (r : List Fra), totF (r.drop n) ≤ totF r := by
  induction n with
  | zero => intro r; rw [List.drop_zero]; exact Int.le_refl _
  | succ n ih =>
    intro r
    cases r with
    | nil => exact Int.le_refl _
    | cons x r =>
      rw [List.drop_succ_cons]
      have h1 := ih r
      have h2 : totF (x :: r) = EF.tot x + totF r := totS_cons EF x r
      have h3 := EF.nn x
      omega
theorem totFF_drop (n : Nat) : ∀ (b : List (List Fra)), totFF (b.map (List.drop n)) ≤ totFF b := by
  intro b
  induction b with
  | nil => exact Int.le_refl _
  | cons r b ih =>
    have h1 : totFF ((r :: b).map (List.drop n)) = totF (r.drop n) + totFF (b.map (List.drop n)) := totS_cons EFF _ _
    have h2 : totFF (r :: b) = totF r + totFF b := totS_cons EFF _ _
    have := totF_drop n r
    omega
theorem rfR_tot (l : Int) (b : List (List Fra)) : totFF (rfR l b).1 ≤ totFF b := by
  by_cases hk : rfB l b = true
  · rw [rfR_yes hk]; exact totFF_drop _ _
  · rw [rfR_no hk]; exact totFF_nn b
end Go.Proofs.YtpeogfapnofeoaaGreatDoor
namespace Go.Proofs.YtpeogfapnofeoaaGreatDoor
set_option maxRecDepth 100000
open Go Go.RowKit
theorem genU_tot (p l r : Int) (rows : List (List Fra)) : totFF (genU p l r rows).1.b ≤ 1125899906842624 := ifU_tot _ _
theorem cnvU_tot (p : Int) (x : RRel) : totFF (cnvU p x).1.b ≤ 1125899906842624 := by
  cases h : rrB p x with
  | true => rw [cnvU_yes h]; exact genU_tot _ _ _ _
  | false => rw [cnvU_no h]; show (0 : Int) ≤ _; omega
theorem rrB_pos {p : Int} {x : RRel} (h : rrB p x = true) : ∀ v ∈ x.b, 0 < v.length := fun v hv => by
  obtain ⟨_, _, _, h4⟩ := rrB_rows h
  exact (h4 v hv).2.1
theorem genU_nat (p : Int) (l r : Nat) (rows : List (List Fra)) : genU p l r rows = ifU p ⟨l, r, (frOps p).rref (l + r) rows⟩ := by
  unfold genU
  rw [show ((l : Int) + (r : Int)).toNat = l + r by omega]
theorem genU_vr {p : Int} {l r : Nat} {rows : List (List Fra)} (hF : fieldB p = true) (hg : GdM p 21 rows) (hw : Wid (l + r) rows) : rrB p ⟨l, r, (frOps p).rref (l + r) rows⟩ = vrB p l r ((frOps p).rref (l + r) rows) := by
  have e : ((l : Int) + (r : Int)).toNat = l + r := by omega
  have := rrB_rref (p := p) (l := l) (r := r) (rows := rows) hF (gd_fv hg) (by rw [e]; exact hw)
  rwa [e] at this
set_option maxHeartbeats 4000000 in
theorem spConverseRational_u (p : Int) (x : RRel) (v0 : Value) (w : World) (h : RRRelc w v0 x) :
    Calls Tryz.prog 24 #[.int .i64 p, .agg #[.int .i64 x.l, .int .i64 x.r, v0]] w fun e w' => ∃ y0, e = .returned (.tuple #[.agg #[.int .i64 (cnvU p x).1.l, .int .i64 (cnvU p x).1.r, y0], .bool (cnvU p x).2]) ∧ RRRel w' y0 (cnvU p x).1 ∧ Ex w w' := by
  obtain ⟨hx0, A, c, rfl, hc⟩ := h
  have y0 := (Ex.refl w).alloc (.cells #[.int .i64 x.l, .int .i64 x.r, .slice A x.b.length c] 32)
  have d0 := VB.new w 32 #[.int .i64 x.l, .int .i64 x.r, .slice A x.b.length c]
  have S0 := Lib.hid (show (w.alloc (.cells #[.int .i64 x.l, .int .i64 x.r, .slice A x.b.length c] 32)).heap.size = w.heap.size + 1 by simp)
  have HT := Lib.hid (cnvU_tot p x)
  go_enter Tryz.func24, Tryz.ntmps24
  go_wp2_with fail
  generalize w.alloc (.cells #[.int .i64 x.l, .int .i64 x.r, .slice A x.b.length c] 32) = W0 at *
  have y2 := (Ex.refl W0).alloc (.cells #[.int .i64 0, .int .i64 0, .slice none 0 0] 32)
  have d2 := VB.new W0 32 #[.int .i64 0, .int .i64 0, .slice none 0 0]
  rw [S0.out] at d2
  generalize W0.alloc (.cells #[.int .i64 0, .int .i64 0, .slice none 0 0] 32) = W2 at *
  have xx := y0.trans y2
  have q := d0.ex y2
  clear y0 y2 d0 S0
  refine (rrGood_c p x A c W2 (hc.1.ex xx)).mono ?_
  rintro e w3 ⟨b0, rfl, hb0, x3⟩
  obtain rfl := rrB_of hb0
  clear hb0
  have q3 := q.ex x3
  cases hb : rrB p x with
  | false =>
    have HN := Lib.hid (cnvU_no hb)
    clear hb
    have dz := d2.ex x3
    have xz := xx.trans x3
    obtain ⟨dd, zz⟩ := dz.st3 (.int .i64 0) (.int .i64 0) (.slice none 0 0)
    have u0 := dz.cell 0 (v := .int .i64 0) rfl
    have u1 := dz.cell 1 (v := .int .i64 0) rfl
    have u2 := dz.cell 2 (v := .slice none 0 0) rfl
    have k0 := dz.frozen 0
    have k1 := dz.frozen 1
    have k2 := dz.frozen 2
    have C0 := dd.cell 0 (v := .int .i64 0) rfl
    have C1 := dd.cell 1 (v := .int .i64 0) rfl
    have C2 := dd.cell 2 (v := .slice none 0 0) rfl
    have eF := xz.ex1 zz (by omega)
    go_wp2_with fail
    refine bodyPost_ret (v := .tuple #[.agg #[.int .i64 0, .int .i64 0, .slice none 0 0], .bool false]) (by simp [results, Tryz.results24, go_sem, C0, C1, C2]) rfl ?_
    rw [HN.out]
    exact ⟨_, rfl, ⟨⟨none, 0, rfl, by simp, fun j x hj => by simp at hj⟩, by show (0 : Int) ≤ _; omega⟩, eF⟩
  | true =>
    have HY := Lib.hid (cnvU_yes hb)
    have H0 := rrB_pos hb
    obtain ⟨l, r, hl, hr, hlr, hgd, hwd, hld, hbl, hF⟩ := rrB_has hb
    have p0 := q3.cell 0 (v := .int .i64 x.l) rfl
    have p1 := q3.cell 1 (v := .int .i64 x.r) rfl
    have p2 := q3.cell 2 (v := .slice A x.b.length c) rfl
    rw [hl] at p0
    rw [hr] at p1
    have cC := rrConverse_c p l r x.b A c w3 (hc.ex (xx.trans x3)) hbl hlr hwd H0 hF hgd
    have HG := Lib.hid (show cnvU p x = ifU p ⟨r, l, (frOps p).rref (r + l) (convR l x.b)⟩ by rw [HY.out, hl, hr]; exact genU_nat p r l (convR l x.b))
    clear hb HY H0 hgd hwd hld hF
    obtain ⟨RR, hRR⟩ : ∃ RR, (frOps p).rref (r + l) (convR l x.b) = RR := ⟨_, rfl⟩
    rw [hRR] at cC HG
    clear hRR
    go_wp2_with fail
    refine cC.mono ?_
    rintro e w4 ⟨A4, c4, rfl, r4, x4⟩
    clear cC p0 p1 p2
    go_wp2_with fail
    have cI := rrIf_c p ⟨r, l, RR⟩ A4 c4 w4 r4
    obtain ⟨⟨⟨rl, rr, rb⟩, bb⟩, hRES⟩ : ∃ RES, ifU p ⟨r, l, RR⟩ = RES := ⟨_, rfl⟩
    have HE := Lib.hid (HG.out.trans hRES)
    rw [hRES] at cI
    dsimp only at cI
    clear HG hRES
    refine cI.mono ?_
    clear cI
    rintro e w5 ⟨A5, c5, rfl, r5, x5⟩
    dsimp only at r5 ⊢
    have hzy := (x3.trans x4).size
    have hlt := d2.lt
    have dz := ((d2.ex x3).ex x4).ex x5
    have xz := ((xx.trans x3).trans x4).trans x5
    obtain ⟨dd, zz⟩ := dz.st3 (.int .i64 rl) (.int .i64 rr) (.slice A5 rb.length c5)
    have u0 := dz.cell 0 (v := .int .i64 0) rfl
    have u1 := dz.cell 1 (v := .int .i64 0) rfl
    have u2 := dz.cell 2 (v := .slice none 0 0) rfl
    have k0 := dz.frozen 0
    have k1 := dz.frozen 1
    have k2 := dz.frozen 2
    have C0 := dd.cell 0 (v := .int .i64 rl) rfl
    have C1 := dd.cell 1 (v := .int .i64 rr) rfl
    have C2 := dd.cell 2 (v := .slice A5 rb.length c5) rfl
    have eF := xz.ex1 zz (by omega)
    have hst := r5 _ ((ExI.of_ex1 zz).widen (Nat.zero_le _) (by omega))
    go_wp2_with fail
    refine bodyPost_ret (v := .tuple #[.agg #[.int .i64 rl, .int .i64 rr, .slice A5 rb.length c5], .bool bb]) (by simp [results, Tryz.results24, go_sem, C0, C1, C2]) rfl ?_
    have ht := HT.out
    rw [HE.out] at ht ⊢
    exact ⟨_, rfl, ⟨⟨A5, c5, rfl, hst.1.1⟩, ht⟩, eF⟩
set_option maxHeartbeats 4000000 in
theorem ConverseRational_u (p : Int) (x : RRel) (v0 : Value) (w : World) (h : RRRelc w v0 x) (ht : Tb w) :
    Calls Tryz.prog 25 #[.int .i64 p, .agg #[.int .i64 x.l, .int .i64 x.r, v0]] w fun e w' => ∃ y0, e = .returned (.tuple #[.agg #[.int .i64 (cnvU p x).1.l, .int .i64 (cnvU p x).1.r, y0], .bool (cnvU p x).2]) ∧ ORRel w' w.heap.size w'.heap.size y0 (cnvU p x).1 ∧ Ex w w' := by
  obtain ⟨hx0, A, c, rfl, hc⟩ := h
  have y0 := (Ex.refl w).alloc (.cells #[.int .i64 x.l, .int .i64 x.r, .slice A x.b.length c] 32)
  have d0 := VB.new w 32 #[.int .i64 x.l, .int .i64 x.r, .slice A x.b.length c]
  have S0 := Lib.hid (show (w.alloc (.cells #[.int .i64 x.l, .int .i64 x.r, .slice A x.b.length c] 32)).heap.size = w.heap.size + 1 by simp)
  go_enter Tryz.func25, Tryz.ntmps25
  go_wp2_with fail
  generalize w.alloc (.cells #[.int .i64 x.l, .int .i64 x.r, .slice A x.b.length c] 32) = W0 at *
  have y2 := (Ex.refl W0).alloc (.cells #[.int .i64 0, .int .i64 0, .slice none 0 0] 32)
  have d2 := VB.new W0 32 #[.int .i64 0, .int .i64 0, .slice none 0 0]
  rw [S0.out] at d2
  generalize W0.alloc (.cells #[.int .i64 0, .int .i64 0, .slice none 0 0] 32) = W2 at *
  have xx := y0.trans y2
  have q := d0.ex y2
  clear y0 y2 d0 S0
  refine (IsRatRelation_u p x (.slice A x.b.length c) W2 (hx0.ex xx) (ht.ex xx)).mono ?_
  rintro e w3 ⟨rfl, x3⟩
  have q3 := q.ex x3
  cases hb : rrB p x with
  | false =>
    have HN := Lib.hid (cnvU_no hb)
    clear hb
    have dz := d2.ex x3
    have xz := xx.trans x3
    obtain ⟨dd, zz⟩ := dz.st3 (.int .i64 0) (.int .i64 0) (.slice none 0 0)
    have u0 := dz.cell 0 (v := .int .i64 0) rfl
    have u1 := dz.cell 1 (v := .int .i64 0) rfl
    have u2 := dz.cell 2 (v := .slice none 0 0) rfl
    have k0 := dz.frozen 0
    have k1 := dz.frozen 1
    have k2 := dz.frozen 2
    have C0 := dd.cell 0 (v := .int .i64 0) rfl
    have C1 := dd.cell 1 (v := .int .i64 0) rfl
    have C2 := dd.cell 2 (v := .slice none 0 0) rfl
    have eF := xz.ex1 zz (by omega)
    go_wp2_with fail
    refine bodyPost_ret (v := .tuple #[.agg #[.int .i64 0, .int .i64 0, .slice none 0 0], .bool false]) (by simp [results, Tryz.results25, go_sem, C0, C1, C2]) rfl ?_
    rw [HN.out]
    exact ⟨_, rfl, ⟨w.heap.size, w.heap.size, off_nil _ _ _, Nat.le_refl _, eF.size⟩, eF⟩
  | true =>
    have HY := Lib.hid (cnvU_yes hb)
    have H0 := rrB_pos hb
    obtain ⟨l, r, hl, hr, hlr, hgd, hwd, hld, hbl, hF⟩ := rrB_has hb
    have p0 := q3.cell 0 (v := .int .i64 x.l) rfl
    have p1 := q3.cell 1 (v := .int .i64 x.r) rfl
    have p2 := q3.cell 2 (v := .slice A x.b.length c) rfl
    rw [hl] at p0
    rw [hr] at p1
    have cC := ratConverse_c p l r x.b A c w3 (hc.ex (xx.trans x3)) hbl hlr hwd H0 hF hgd
    have HG := Lib.hid (show cnvU p x = ifU p ⟨r, l, (frOps p).rref (r + l) (convR l x.b)⟩ by rw [HY.out, hl, hr]; exact genU_nat p r l (convR l x.b))
    have HV := Lib.hid (genU_vr hF (convR_gd hgd) (convR_wid (l := l) hwd))
    clear hb HY H0 hgd hwd hld hF
    obtain ⟨RR, hRR⟩ : ∃ RR, (frOps p).rref (r + l) (convR l x.b) = RR := ⟨_, rfl⟩
    rw [hRR] at cC HG HV
    clear hRR
    go_wp2_with fail
    refine cC.mono ?_
    rintro e w4 ⟨y4, rfl, fx, x4⟩
    obtain ⟨A4, c4, rfl, r4⟩ := fx.rd
    clear cC p0 p1 p2
    have cV := validRat_c p ⟨r, l, RR⟩ A4 c4 w4 r4 (ht.ex ((xx.trans x3).trans x4))
    dsimp only at cV
    have hlt := d2.lt
    have hz3 := x3.size
    have hzw := xx.size
    cases hv : vrB p r l RR with
    | false =>
      rw [hv] at cV
      have HN := Lib.hid (show cnvU p x = (⟨0, 0, []⟩, false) by rw [HG.out]; exact ifU_no (HV.out.trans hv))
      rw [show pickV false (Value.agg #[.int .i64 (r : Int), .int .i64 (l : Int), .slice A4 RR.length c4]) (Value.agg #[.int .i64 0, .int .i64 0, .slice none 0 0]) = Value.agg #[.int .i64 0, .int .i64 0, .slice none 0 0] from rfl] at cV
      clear hv
      go_wp2_with fail
      refine cV.mono ?_
      rintro e w5 ⟨rfl, x5⟩
      clear cV
      have dz := ((d2.ex x3).ex x4).ex x5
      have xz := ((xx.trans x3).trans x4).trans x5
      obtain ⟨dd, zz⟩ := dz.st3 (.int .i64 0) (.int .i64 0) (.slice none 0 0)
      have u0 := dz.cell 0 (v := .int .i64 0) rfl
      have u1 := dz.cell 1 (v := .int .i64 0) rfl
      have u2 := dz.cell 2 (v := .slice none 0 0) rfl
      have k0 := dz.frozen 0
      have k1 := dz.frozen 1
      have k2 := dz.frozen 2
      have C0 := dd.cell 0 (v := .int .i64 0) rfl
      have C1 := dd.cell 1 (v := .int .i64 0) rfl
      have C2 := dd.cell 2 (v := .slice none 0 0) rfl
      have eF := xz.ex1 zz (by omega)
      go_wp2_with fail
      refine bodyPost_ret (v := .tuple #[.agg #[.int .i64 0, .int .i64 0, .slice none 0 0], .bool false]) (by simp [results, Tryz.results25, go_sem, C0, C1, C2]) rfl ?_
      rw [HN.out]
      exact ⟨_, rfl, ⟨w.heap.size, w.heap.size, off_nil _ _ _, Nat.le_refl _, eF.size⟩, eF⟩
    | true =>
      rw [hv] at cV
      have hrr := HV.out.trans hv
      have HE := Lib.hid (show cnvU p x = (⟨r, l, RR⟩, true) by rw [HG.out]; exact ifU_yes hrr)
      have htt : totFF RR ≤ 1125899906842624 := by have h1 := rrB_tot hrr; dsimp only at h1; omega
      rw [show pickV true (Value.agg #[.int .i64 (r : Int), .int .i64 (l : Int), .slice A4 RR.length c4]) (Value.agg #[.int .i64 0, .int .i64 0, .slice none 0 0]) = Value.agg #[.int .i64 (r : Int), .int .i64 (l : Int), .slice A4 RR.length c4] from rfl] at cV
      clear hv hrr
      go_wp2_with fail
      refine cV.mono ?_
      rintro e w5 ⟨rfl, x5⟩
      clear cV
      have dz := ((d2.ex x3).ex x4).ex x5
      have xz := ((xx.trans x3).trans x4).trans x5
      obtain ⟨dd, zz⟩ := dz.st3 (.int .i64 r) (.int .i64 l) (.slice A4 RR.length c4)
      have u0 := dz.cell 0 (v := .int .i64 0) rfl
      have u1 := dz.cell 1 (v := .int .i64 0) rfl
      have u2 := dz.cell 2 (v := .slice none 0 0) rfl
      have k0 := dz.frozen 0
      have k1 := dz.frozen 1
      have k2 := dz.frozen 2
      have C0 := dd.cell 0 (v := .int .i64 r) rfl
      have C1 := dd.cell 1 (v := .int .i64 l) rfl
      have C2 := dd.cell 2 (v := .slice A4 RR.length c4) rfl
      have eF := xz.ex1 zz (by omega)
      have fx2 := (fx.ex x5).iv (ExI.of_ex1 zz) (by omega)
      have hz5 := x5.size
      have fx3 := (fx2.more (a' := w.heap.size) (b' := w5.heap.size) (by omega) hz5).off htt
      go_wp2_with fail
      refine bodyPost_ret (v := .tuple #[.agg #[.int .i64 r, .int .i64 l, .slice A4 RR.length c4], .bool true]) (by simp [results, Tryz.results25, go_sem, C0, C1, C2]) rfl ?_
      rw [HE.out]
      exact ⟨_, rfl, ⟨_, _, fx3, Nat.le_refl _, Nat.le_of_eq (by simp)⟩, eF⟩
end Go.Proofs.YtpeogfapnofeoaaGreatDoor
