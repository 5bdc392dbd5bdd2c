/- Runs of state spaces, on both sides. -/
import Derived.Test.YtkpfmnconnopnaaDoorRun2
import Derived.Test.YtkpfmnconnopnaaDoorSpaceGood
import Derived.Deep.RegionHeld3
namespace Go.Proofs.YtkpfmnconnopnaaDoor
set_option maxRecDepth 100000
open Go Go.RowKit
/-- The state after k steps. -/
def rx (p : Int) (n : Nat) (ra rb us : List (List Int)) : Nat → List Int
  | 0 => List.replicate n 0
  | k + 1 => pls p (cmb p n (rx p n ra rb us k) ra) (cmb p n (us[k]?.getD []) rb)
/-- The output of step k. -/
def ry (p : Int) (n q : Nat) (ra rb rc rd us : List (List Int)) (k : Nat) : List Int := pls p (cmb p q (rx p n ra rb us k) rc) (cmb p q (us[k]?.getD []) rd)
def rys (p : Int) (n q : Nat) (ra rb rc rd us : List (List Int)) (k : Nat) : List (List Int) := (List.range k).map (ry p n q ra rb rc rd us)
theorem cmb_len (p : Int) (n : Nat) (x : List Int) (rows : List (List Int)) : (cmb p n x rows).length = n := cmbTo_len _ _ _ _ _
theorem cmb_el {p : Int} (hp : 0 < p) (n : Nat) (x : List Int) (rows : List (List Int)) : allEl p (cmb p n x rows) = true := cmbTo_el hp _ _ _ _
theorem pls_len (p : Int) (a b : List Int) : (pls p a b).length = a.length := plsTo_len _ _ _ _
theorem rx_len (p : Int) (n : Nat) (ra rb us : List (List Int)) (k : Nat) : (rx p n ra rb us k).length = n := by
  cases k with
  | zero => simp [rx]
  | succ k => rw [rx, pls_len, cmb_len]
theorem rx_el {p : Int} (hp : 0 < p) (n : Nat) (ra rb us : List (List Int)) (k : Nat) : allEl p (rx p n ra rb us k) = true := by
  cases k with
  | zero => exact cmbTo_el hp n [] [] 0
  | succ k => rw [rx]; exact pls_el hp _ _
theorem ry_len (p : Int) (n q : Nat) (ra rb rc rd us : List (List Int)) (k : Nat) : (ry p n q ra rb rc rd us k).length = q := by rw [ry, pls_len, cmb_len]
theorem rys_len (p : Int) (n q : Nat) (ra rb rc rd us : List (List Int)) (k : Nat) : (rys p n q ra rb rc rd us k).length = k := by simp [rys]
theorem rys_succ (p : Int) (n q : Nat) (ra rb rc rd us : List (List Int)) (k : Nat) : rys p n q ra rb rc rd us (k + 1) = rys p n q ra rb rc rd us k ++ [ry p n q ra rb rc rd us k] := by simp [rys, List.range_succ]
set_option maxHeartbeats 4000000 in
theorem ssRun_c (p : Int) (n m q : Nat) (A B C D U : Option Addr) (a b c d e : Nat) (ra rb rc rd us : List (List Int)) (w : World) (ha : RdM w A ra) (hb : RdM w B rb) (hc : RdM w C rc) (hd : RdM w D rd) (hu : RdM w U us)
    (h2 : 2 ≤ p) (h97 : p ≤ 97) (hn : n ≤ 1000) (hq : q ≤ 1000) (hal : ra.length = n) (hbl : rb.length = m) (hcl : rc.length = n) (hdl : rd.length = m) (har : rowsB p n ra = true) (hbr : rowsB p n rb = true) (hcr : rowsB p q rc = true) (hdr : rowsB p q rd = true) (hur : rowsB p m us = true) (hul : us.length ≤ 60) :
    Calls Tryd.prog 48 #[.int .i64 p, .agg #[.int .i64 n, .int .i64 m, .int .i64 q, .slice A ra.length a, .slice B rb.length b, .slice C rc.length c, .slice D rd.length d], .slice U us.length e] w fun e w' =>
      ∃ v H, e = .returned v ∧ GM w' w.heap.size H v (rys p n q ra rb rc rd us us.length) ∧ Ex w w' := by
  have x0 := (Ex.refl w).alloc (.cells #[.int .i64 n, .int .i64 m, .int .i64 q, .slice A ra.length a, .slice B rb.length b, .slice C rc.length c, .slice D rd.length d] 29)
  have v0 := VB.new w 29 #[.int .i64 n, .int .i64 m, .int .i64 q, .slice A ra.length a, .slice B rb.length b, .slice C rc.length c, .slice D rd.length d]
  have hmk := fun W => run_make_ints n (by omega) W
  have Hal := Lib.hid hal
  have Hbl := Lib.hid hbl
  have Hcl := Lib.hid hcl
  have Hdl := Lib.hid hdl
  have Har := Lib.hid har
  have Hbr := Lib.hid hbr
  have Hcr := Lib.hid hcr
  have Hdr := Lib.hid hdr
  have Hur := Lib.hid hur
  clear hal hbl hcl hdl har hbr hcr hdr hur
  go_enter Tryd.func48, Tryd.ntmps48
  go_wp2_with fail
  have x1 := x0.trans ((Ex.refl _).alloc (iObj (List.replicate n 0)))
  have v1 := v0.ex ((Ex.refl _).alloc (iObj (List.replicate n 0)))
  have f1 := ((Blk.new (w.alloc (.cells #[.int .i64 n, .int .i64 m, .int .i64 q, .slice A ra.length a, .slice B rb.length b, .slice C rc.length c, .slice D rd.length d] 29)) (List.replicate n 0)).fr (c := n) (by rw [List.length_replicate]; omega) (Nat.le_refl _) (by rw [List.length_replicate]; exact Nat.le_refl _)).fi
  clear hmk v0
  have hsz : (w.alloc (.cells #[.int .i64 n, .int .i64 m, .int .i64 q, .slice A ra.length a, .slice B rb.length b, .slice C rc.length c, .slice D rd.length d] 29)).heap.size = w.heap.size + 1 := by show (w.heap.push _).size = _; rw [Array.size_push]
  rw [hsz] at f1
  generalize (w.alloc (.cells #[.int .i64 n, .int .i64 m, .int .i64 q, .slice A ra.length a, .slice B rb.length b, .slice C rc.length c, .slice D rd.length d] 29)).alloc (iObj (List.replicate n 0)) = W at *
  go_loopw [7, 8, 16] (fun x o i wi => ∃ (k : Nat) (X : Option Addr) (xc fa fb : Nat), k ≤ us.length ∧ i = .int .i64 k ∧ x = .slice X n xc ∧ FI wi fa fb X xc (rx p n ra rb us k) ∧ (∀ z, o.ownBlock = some z → z < fa ∨ fb ≤ z) ∧ GM wi W.heap.size wi.heap.size o (rys p n q ra rb rc rd us k) ∧ Ex W wi) (fun _ _ i _ => us.length - (intOf i).toNat)
  case atStart => exact ⟨0, _, _, _, _, Nat.zero_le _, rfl, rfl, f1, (fun z h => by cases h), GM.nil _ _ _ (Nat.le_refl _), Ex.refl W⟩
  case round =>
    obtain ⟨k, X, xc, fa, fb, hk, rfl, rfl, fx, hown, hgm, hek⟩ := hrel
    by_cases hlt : k < us.length
    · have ek := x1.trans hek
      obtain ⟨gU, oU, U', c', u, rfl, huk, qu0, hru0⟩ := hu.at_ hlt
      have Huq := Lib.hid qu0
      have Hru := Lib.hid hru0
      have qu := cell_ex ek qu0
      have hru := hru0.ex ek
      clear qu0 hru0
      have Huk := Lib.hid huk
      have huB := rowsB_at Hur.out huk
      have hul' : u.length = m := by have := huB.1; omega
      have Hul := Lib.hid hul'
      have Hue := Lib.hid huB.2
      have Hux := Lib.hid (show rx p n ra rb us (k + 1) = pls p (cmb p n (rx p n ra rb us k) ra) (cmb p n u rb) by rw [rx, huk]; rfl)
      have Huy := Lib.hid (show ry p n q ra rb rc rd us k = pls p (cmb p q (rx p n ra rb us k) rc) (cmb p q u rd) by rw [ry, huk]; rfl)
      have Hxl := Lib.hid (rx_len p n ra rb us k)
      have Hxe := Lib.hid (rx_el (p := p) (by omega) n ra rb us k)
      have Hyl := Lib.hid (ry_len p n q ra rb rc rd us k)
      have Hrl := Lib.hid (rys_len p n q ra rb rc rd us k)
      have Hrs := Lib.hid (rys_succ p n q ra rb rc rd us k)
      clear huk huB hul'
      have vk := v1.ex hek
      have q2 := vk.cell 2 (v := .int .i64 q) rfl
      have q5 := vk.cell 5 (v := .slice C rc.length c) rfl
      have q6 := vk.cell 6 (v := .slice D rd.length d) rfl
      have hbw := ek.size
      have cC := spSum_c p X C xc c q (rx p n ra rb us k) rc wr.drew fx.rd (hc.ex ek.drew) h2 h97 Hxe.out (by rw [Hxl.out, Hcl.out]) Hcr.out hq
      rw [Hxl.out] at cC
      go_wp2_with fail
      go_region_held3 (fun W => W.cell? ⟨w.heap.size, 2, none⟩ = some (.int .i64 q) ∧ W.cell? ⟨w.heap.size, 5, none⟩ = some (.slice C rc.length c) ∧ W.cell? ⟨w.heap.size, 6, none⟩ = some (.slice D rd.length d)) (first
        | (exact ⟨q2, q5, q6⟩)
        | (exact ⟨cell_ex z1 q2, cell_ex z1 q5, cell_ex z1 q6⟩)
        | (exact ⟨cell_ex (z1.trans z2) q2, cell_ex (z1.trans z2) q5, cell_ex (z1.trans z2) q6⟩)
        | (exact ⟨cell_ex ((z1.trans z2).trans z3) q2, cell_ex ((z1.trans z2).trans z3) q5, cell_ex ((z1.trans z2).trans z3) q6⟩)
        | (exact ⟨cell_ex (((z1.trans z2).trans z3).alloc _) q2, cell_ex (((z1.trans z2).trans z3).alloc _) q5, cell_ex (((z1.trans z2).trans z3).alloc _) q6⟩)
        | (exact ⟨(v1.ex z4).cell 2 rfl, (v1.ex z4).cell 5 rfl, (v1.ex z4).cell 6 rfl⟩)) (first
        | (go_at_call_of 85 (Value.slice C rc.length c)
           refine cC.mono ?_
           rintro e w2 ⟨g2, rfl, hg2, o2, z0⟩
           have z1 : Ex wr w2 := (Ex.refl wr).drew.trans z0)
        | (go_at_call_of 85 (Value.slice D rd.length d)
           refine (spSum_c p U' D c' d q u rd w2 (hru.ex z1) (hd.ex (ek.trans z1)) h2 h97 Hue.out (by rw [Hul.out, Hdl.out]) Hdr.out hq).mono ?_
           rintro e w3 ⟨g3, rfl, hg3, o3, z2⟩)
        | (go_at_call 84
           have cS := ssPlus_c p (some ⟨g2, 0, none⟩) (some ⟨g3, 0, none⟩) q q (cmb p q (rx p n ra rb us k) rc) (cmb p q u rd) w3 ((o2.ex z2).rd (by rw [cmb_len]; omega)) (o3.rd (by rw [cmb_len]; omega)) h2 h97 (cmb_el (by omega) _ _ _) (cmb_el (by omega) _ _ _) (by rw [cmb_len, cmb_len])
           rw [cmb_len, cmb_len] at cS
           refine cS.mono ?_
           rintro e w4 ⟨A4, c4, rfl, f4, z3⟩
           obtain ⟨v5, w5, hrun, hgm5, ho5, hk5, hE5⟩ := GM.push (hgm.ex ((z1.trans z2).trans z3)) f4.fi (by have := z1.size; have := z2.size; show wr.heap.size ≤ w3.heap.size; exact Nat.le_trans z1.size z2.size) (Nat.le_refl _) hek.size (by rw [rys_len]; omega)
           have z4 : Ex W w5 := hE5 W (((hek.trans z1).trans z2).trans z3) (Nat.le_refl _))
        | (refine step_append_run rfl _ _ _ rfl rfl rfl hrun ?_))
      rw [← Huy.out, ← Hrs.out] at hgm5
      have fx5 := (fx.ex ((z1.trans z2).trans z3)).grown ho5 hown
      have hru5w := Hru.out.ex (x1.trans z4)
      clear cC q2 q5 q6 hrun hE5 hgm cS o2 o3 f4 hg2 hg3 hru qu
      have e5 := x1.trans z4
      have v5c := v1.ex z4
      have q0 := v5c.cell 0 (v := .int .i64 n) rfl
      have q3 := v5c.cell 3 (v := .slice A ra.length a) rfl
      have q4 := v5c.cell 4 (v := .slice B rb.length b) rfl
      have cA := spSum_c p X A xc a n (rx p n ra rb us k) ra w5.drew fx5.rd (ha.ex e5.drew) h2 h97 Hxe.out (by rw [Hxl.out, Hal.out]) Har.out hn
      rw [Hxl.out] at cA
      go_wp2_with fail
      go_region_held3 (fun W => W.cell? ⟨w.heap.size, 0, none⟩ = some (.int .i64 n) ∧ W.cell? ⟨w.heap.size, 3, none⟩ = some (.slice A ra.length a) ∧ W.cell? ⟨w.heap.size, 4, none⟩ = some (.slice B rb.length b)) (first
        | (exact ⟨q0, q3, q4⟩)
        | (exact ⟨cell_ex y1 q0, cell_ex y1 q3, cell_ex y1 q4⟩)
        | (exact ⟨cell_ex (y1.trans y2) q0, cell_ex (y1.trans y2) q3, cell_ex (y1.trans y2) q4⟩)
        | (exact ⟨cell_ex ((y1.trans y2).trans y3) q0, cell_ex ((y1.trans y2).trans y3) q3, cell_ex ((y1.trans y2).trans y3) q4⟩)) (first
        | (go_at_call_of 85 (Value.slice A ra.length a)
           refine cA.mono ?_
           rintro e w6 ⟨g6, rfl, hg6, o6, y0⟩
           have y1 : Ex w5 w6 := (Ex.refl w5).drew.trans y0)
        | (go_at_call_of 85 (Value.slice B rb.length b)
           refine (spSum_c p U' B c' b n u rb w6 (hru5w.ex y1) (hb.ex (e5.trans y1)) h2 h97 Hue.out (by rw [Hul.out, Hbl.out]) Hbr.out hn).mono ?_
           rintro e w7 ⟨g7, rfl, hg7, o7, y2⟩)
        | (go_at_call 84
           have cS := ssPlus_c p (some ⟨g6, 0, none⟩) (some ⟨g7, 0, none⟩) n n (cmb p n (rx p n ra rb us k) ra) (cmb p n u rb) w7 ((o6.ex y2).rd (by rw [cmb_len]; omega)) (o7.rd (by rw [cmb_len]; omega)) h2 h97 (cmb_el (by omega) _ _ _) (cmb_el (by omega) _ _ _) (by rw [cmb_len, cmb_len])
           rw [cmb_len, cmb_len] at cS
           refine cS.mono ?_
           rintro e w8 ⟨A8, c8, rfl, f8, y3⟩))
      have hx8 : (pls p (cmb p n (rx p n ra rb us k) ra) (cmb p n u rb)).length = n := by rw [pls_len, cmb_len]
      rw [← Hux.out] at f8
      rw [hx8]
      have y := (y1.trans y2).trans y3
      go_wp2
      go_roundw
      case rel => exact ⟨k + 1, A8, c8, _, _, by omega, by go_num, rfl, f8.fi, (fun z h => .inl (by have := hgm5.2.1 z h; have := y1.size; have := y2.size; omega)), (hgm5.ex y).more (Nat.le_refl _) y.size (Nat.le_refl _), z4.trans y⟩
      case measure => simp [intOf]; omega
    · have hka : k = us.length := by omega
      subst hka
      go_wp2_with fail
      go_ret
      exact ⟨_, _, rfl, hgm.more x1.size (Nat.le_refl _) (Nat.le_refl _), x1.trans hek⟩
end Go.Proofs.YtkpfmnconnopnaaDoor
