/- RatFunctionOf: the program: the matrix of a relation. -/
import Derived.Test.YtfpogndbmhnfkaaGreatDoorRfE
namespace Go.Proofs.YtfpogndbmhnfkaaGreatDoor
set_option maxRecDepth 100000
open Go Go.RowKit
theorem unitF_len (l i : Nat) : (unitF l i).length = l := by simp [unitF]
set_option maxHeartbeats 8000000 in
theorem ratFunction_c (l rr : Int) (b : List (List Fra)) (A : Option Addr) (c : Nat) (w : World) (h : RdC w A b) (hlr : ∀ r ∈ b, l ≤ r.length ∧ 0 < r.length ∧ r.length ≤ 12) (h12 : b.length ≤ 12) (hu : rfB l b = true → ∀ (k : Nat) (r : List Fra), b[k]? = some r → r.take l.toNat = unitF l.toNat k) (ht : totFF b ≤ 1125899906842624) :
    Calls Tryz.prog 65 #[.agg #[.int .i64 l, .int .i64 rr, .slice A b.length c]] w fun e w' => ∃ y, e = .returned (.tuple #[y, .bool (rfR l b).2]) ∧ OFF w' w.heap.size w'.heap.size y (rfR l b).1 ∧ Ex w w' := by
  have x0 := (Ex.refl w).alloc (.cells #[.int .i64 l, .int .i64 rr, .slice A b.length c] 32)
  have v0 := VB.new w 32 #[.int .i64 l, .int .i64 rr, .slice A b.length c]
  by_cases hn : (b.length : Int) = l
  case neg =>
    have HN := Lib.hid (rfR_no (l := l) (b := b) (fun e => hn (rfB_iff.1 e).1))
    have hnb : ((b.length : Int) != l) = true := by simpa using hn
    clear hn
    go_enter Tryz.func65, Tryz.ntmps65
    go_wp2_with fail
    go_ret2
    rw [HN.out]
    exact ⟨_, rfl, ⟨⟨none, 0, fun _ => False, rfl, fun k hk => hk.elim, OX.nil _ _ _ _ _⟩, by show (0 : Int) ≤ _; omega⟩, x0⟩
  subst hn
  obtain ⟨L, hL⟩ : ∃ L, b.length = L := ⟨_, rfl⟩
  have HL := Lib.hid hL
  have Hlr := Lib.hid hlr
  have H := Lib.hid h
  rw [hL] at v0 x0 hu ⊢
  rw [show ((L : Int)).toNat = L from rfl] at hu
  have Hu := Lib.hid hu
  have HT := Lib.hid ht
  clear hlr hL h hu ht
  have h12' : L ≤ 12 := by have := HL.out; omega
  have hnb : ((L : Int) != (L : Int)) = false := by simp
  have S0 : (w.alloc (.cells #[.int .i64 L, .int .i64 rr, .slice A L c] 32)).heap.size = w.heap.size + 1 := by simp
  have y0 := ((Ex.refl w).alloc (.cells #[.int .i64 L, .int .i64 rr, .slice A L c] 32)).alloc (.cells #[] 34)
  have p2a := (v0.ex ((Ex.refl (w.alloc (.cells #[.int .i64 L, .int .i64 rr, .slice A L c] 32))).alloc (.cells #[] 34))).cell 2 (v := .slice A L c) rfl
  go_enter Tryz.func65, Tryz.ntmps65
  go_wp2_with fail
  generalize w.alloc (.cells #[.int .i64 L, .int .i64 rr, .slice A L c] 32) = W0 at *
  clear p2a y0
  have zx := x0.size
  have p0 := v0.cell 0 (v := .int .i64 L) rfl
  have ge0 := GE.empty ELS 34 W0 (Nat.le_refl W0.heap.size)
  have he1 := (Ex.refl W0).alloc (.cells #[] 34)
  have hs1 : (W0.alloc (.cells #[] 34)).heap.size = W0.heap.size + 1 := by simp
  go_loopw [4, 17] (fun o i wr => ∃ k : Nat, k ≤ L ∧ i = .int .i64 k ∧ GE ELS 34 wr W0.heap.size wr.heap.size o ((b.take k).map (List.drop L)) ∧ Hid (∀ (j : Nat) (r : List Fra), j < k → b[j]? = some r → leadF r = j) ∧ Ex W0 wr) (fun _ i _ => L - (intOf i).toNat)
  case atStart => exact ⟨0, Nat.zero_le _, rfl, by rw [hs1, ← S0]; exact ge0, Lib.hid (fun j r hj => by omega), he1⟩
  case round =>
    rename World => wi
    clear ge0 he1 hs1 S0
    obtain ⟨k, hk, rfl, hge, Hall, he⟩ := hrel
    by_cases hlt : k < L
    · obtain ⟨g, off, r, P, pc, eA, hr, b0, hpc, hP⟩ := H.out.at_ (j := k) (by have := HL.out; omega)
      subst eA
      obtain ⟨hr1, hr2, hr3⟩ := Hlr.out r (List.mem_of_getElem? hr)
      have hrL : L ≤ r.length := by have := HL.out; omega
      obtain ⟨g2, off2, y, _, _, _, _, eP, _⟩ := hP.frac hr2
      subst eP
      have b1 := cell_ex (x0.trans he) b0
      have Hr := Lib.hid hr
      have hPd := Lib.hid (hP.dropk L)
      have hPt := hP.takek L
      have htl : (r.take L).length = L := by rw [List.length_take]; omega
      have hdl : (r.drop L).length = r.length - L := List.length_drop
      have HM := Lib.hid (show (b.take (k + 1)).map (List.drop L) = (b.take k).map (List.drop L) ++ [r.drop L] by rw [List.take_add_one, hr, List.map_append]; rfl)
      clear hr hr1 b0
      have hLpc : L ≤ pc := by omega
      have hS : ∀ W, Ex wi W → W.cell? ⟨w.heap.size, 0, none⟩ = some (.int .i64 L) := fun W h => cell_ex h (cell_ex he p0)
      have qA := hS wi (Ex.refl _)
      have cEq : ∀ (A3 : Option Addr) (c3 : Nat) (W : World), Ex wi W → RdS EF W A3 (unitF L k) → Calls Tryz.prog 98 #[.slice (some ⟨g2, off2, none⟩) L pc, .slice A3 L c3, .func (.func 100) #[] #[]] W fun e w' => ∃ b, e = .returned (.bool b) ∧ (b = true ↔ r.take L = unitF L k) ∧ Ex W w' := fun A3 c3 W hW hR => by
        have := eqFrs_c (some ⟨g2, off2, none⟩) A3 pc c3 (r.take L) (unitF L k) W (hPt.ex ((x0.trans he).trans hW)) hR
        rwa [htl, unitF_len] at this
      have cU : ∀ W, Calls Tryz.prog 99 #[.int .i64 L, .int .i64 k] W fun e w' => ∃ A c, e = .returned (.slice A L c) ∧ L ≤ c ∧ OX EXF 67 w' (fun k => W.heap.size ≤ k ∧ k < w'.heap.size) A (unitF L k) ∧ Ex W w' := fun W => unitRow_c L k hlt (by omega) W
      obtain ⟨RL, hRL⟩ : ∃ RL, r.length = RL := ⟨_, rfl⟩
      rw [hRL] at b1 hpc hr2 hr3 hrL hdl
      by_cases huk : r.take L = unitF L k
      · have Hld := Lib.hid (lead_of_unit hlt huk)
        have cEq' : ∀ (A3 : Option Addr) (c3 : Nat) (W : World), Ex wi W → RdS EF W A3 (unitF L k) → Calls Tryz.prog 98 #[.slice (some ⟨g2, off2, none⟩) L pc, .slice A3 L c3, .func (.func 100) #[] #[]] W fun e w' => e = .returned (.bool true) ∧ Ex W w' := fun A3 c3 W hW hR => (cEq A3 c3 W hW hR).mono fun e w' ⟨q, e1, e2, e3⟩ => by rw [e2.2 huk] at e1; exact ⟨e1, e3⟩
        clear cEq huk hRL htl
        have HK := Lib.hid (show ∀ (j : Nat) (r' : List Fra), j < k + 1 → b[j]? = some r' → leadF r' = j from fun j r' hj hr' => by
          by_cases e : j < k
          · exact Hall.out j r' e hr'
          · obtain rfl : j = k := by omega
            rw [Hr.out] at hr'
            injection hr' with hr'
            subst hr'
            exact Hld.out)
        have eA := (Ex.refl wi).drew
        go_wp2_with fail
        go_region_held3 (fun W => W.cell? ⟨w.heap.size, 0, none⟩ = some (.int .i64 L)) (first
          | (exact hS _ e5) | (exact hS _ e4) | (exact hS _ eA) | (exact hS _ (Ex.refl _))) (first
          | (go_at_call 99
             refine (cU wi.drew).mono ?_
             rintro e w4 ⟨A4, c4, rfl, hc4, o4, x4⟩
             have e4 : Ex wi w4 := (Ex.refl wi).drew.trans x4)
          | (go_at_call 98
             refine (cEq' A4 c4 w4 e4 (o4.rds rfl exf_rd)).mono ?_
             rintro e w5 ⟨rfl, x5⟩
             have e5 := e4.trans x5))
        all_goals
          have qB := hS _ e5
          clear cEq' cU hS qA
          by_cases hpl : pc - L = 0
          · have hPe := Lib.hid (show RdS EF w (some ⟨g2, off2, none⟩) (r.drop L) by
              have : r.drop L = [] := List.eq_nil_of_length_eq_zero (by rw [hdl]; omega)
              rw [this]
              exact ⟨by simp, fun j x hj => by simp at hj⟩)
            have cC : Calls Tryz.prog 47 #[.slice (some ⟨g2, off2, none⟩) (RL - L) (0)] w5 fun e w' => ∃ v, e = .returned v ∧ RowF w' w5.heap.size w'.heap.size v (r.drop L) ∧ Ex w5 w' := by
              have := copyFractions_c (some ⟨g2, off2, none⟩) (0) (r.drop L) w5 (hPe.out.ex ((x0.trans he).trans e5))
              rwa [hdl] at this
            go_wp2_with fail
            refine cC.mono ?_
            rintro e w6 ⟨v6, rfl, r6, x6⟩
            obtain ⟨A6, c6, ev⟩ := r6.2.nilv
            rw [hdl] at ev
            subst ev
            obtain ⟨v', w', hrun, hge', _, _, hE⟩ := push_rows (hge.ex (e5.trans x6)) (e5.trans x6).size r6.2 (by rw [hdl]; omega) e5.size x6.size (Nat.le_refl _) he.size (by simp; omega)
            rw [← HM.out] at hge'
            have xw := hE W0 (he.trans (e5.trans x6)) (Nat.le_refl _)
            clear hE hge cC r6 hdl
            go_wp2_with (at_builtin; refine wpList_append_run rfl _ _ _ rfl rfl rfl hrun ?_)
            go_roundw
            case rel => exact ⟨k + 1, by omega, by go_num, hge', HK, xw⟩
            case measure => simp [intOf]; omega
          · have cC : Calls Tryz.prog 47 #[.slice (some ⟨g2, off2 + L * 2, none⟩) (RL - L) (pc - L)] w5 fun e w' => ∃ v, e = .returned v ∧ RowF w' w5.heap.size w'.heap.size v (r.drop L) ∧ Ex w5 w' := by
              have := copyFractions_c (some ⟨g2, off2 + L * 2, none⟩) (pc - L) (r.drop L) w5 (hPd.out.ex ((x0.trans he).trans e5))
              rwa [hdl] at this
            go_wp2_with fail
            refine cC.mono ?_
            rintro e w6 ⟨v6, rfl, r6, x6⟩
            obtain ⟨A6, c6, ev⟩ := r6.2.nilv
            rw [hdl] at ev
            subst ev
            obtain ⟨v', w', hrun, hge', _, _, hE⟩ := push_rows (hge.ex (e5.trans x6)) (e5.trans x6).size r6.2 (by rw [hdl]; omega) e5.size x6.size (Nat.le_refl _) he.size (by simp; omega)
            rw [← HM.out] at hge'
            have xw := hE W0 (he.trans (e5.trans x6)) (Nat.le_refl _)
            clear hE hge cC r6 hdl
            go_wp2_with (at_builtin; refine wpList_append_run rfl _ _ _ rfl rfl rfl hrun ?_)
            go_roundw
            case rel => exact ⟨k + 1, by omega, by go_num, hge', HK, xw⟩
            case measure => simp [intOf]; omega
      · have HN := Lib.hid (rfR_no (l := (L : Int)) (b := b) (fun e => huk (Hu.out e k r Hr.out)))
        have cEq' : ∀ (A3 : Option Addr) (c3 : Nat) (W : World), Ex wi W → RdS EF W A3 (unitF L k) → Calls Tryz.prog 98 #[.slice (some ⟨g2, off2, none⟩) L pc, .slice A3 L c3, .func (.func 100) #[] #[]] W fun e w' => e = .returned (.bool false) ∧ Ex W w' := fun A3 c3 W hW hR => (cEq A3 c3 W hW hR).mono fun e w' ⟨q, e1, e2, e3⟩ => by
          cases q with
          | true => exact absurd (e2.1 rfl) huk
          | false => exact ⟨e1, e3⟩
        clear cEq huk hRL htl
        have eA := (Ex.refl wi).drew
        go_wp2_with fail
        go_region_held3 (fun W => W.cell? ⟨w.heap.size, 0, none⟩ = some (.int .i64 L)) (first
          | (exact hS _ e5) | (exact hS _ e4) | (exact hS _ eA) | (exact hS _ (Ex.refl _))) (first
          | (go_at_call 99
             refine (cU wi.drew).mono ?_
             rintro e w4 ⟨A4, c4, rfl, hc4, o4, x4⟩
             have e4 : Ex wi w4 := (Ex.refl wi).drew.trans x4)
          | (go_at_call 98
             refine (cEq' A4 c4 w4 e4 (o4.rds rfl exf_rd)).mono ?_
             rintro e w5 ⟨rfl, x5⟩
             have e5 := e4.trans x5))
        all_goals
          go_wp2_with fail
          go_ret2
          rw [HN.out]
          exact ⟨_, rfl, ⟨⟨none, 0, fun _ => False, rfl, fun k hk => hk.elim, OX.nil _ _ _ _ _⟩, by show (0 : Int) ≤ _; omega⟩, (x0.trans he).trans e5⟩
    · obtain rfl : k = L := by omega
      have HY := Lib.hid (rfR_yes (l := (k : Int)) (b := b) (rfB_iff.2 ⟨by rw [HL.out], fun i r hr => Hall.out i r (by have := (List.getElem?_eq_some_iff.1 hr).1; have := HL.out; omega) hr⟩))
      have hbk : b.take k = b := List.take_of_length_le (by rw [HL.out]; exact Nat.le_refl _)
      rw [hbk] at hge
      have hO := hge.off (by rw [List.length_map, HL.out]; omega) (Int.le_trans (totFF_drop k b) HT.out)
      clear hbk
      go_wp2_with fail
      go_ret2
      rw [HY.out]
      exact ⟨_, rfl, hO.more zx (Nat.le_refl _), x0.trans he⟩
end Go.Proofs.YtfpogndbmhnfkaaGreatDoor
