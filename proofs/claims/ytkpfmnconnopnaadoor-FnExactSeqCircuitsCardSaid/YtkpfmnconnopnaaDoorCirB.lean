/- SeqCircuits, on both sides. -/
import Derived.Test.YtkpfmnconnopnaaDoorCirW
import Derived.RegionCalls
import Derived.Deep.RegionWith
import Derived.Deep.RegionHeld3
import Derived.Deep.RegionLaw
import Derived.Deep.Cut
namespace Go.Proofs.YtkpfmnconnopnaaDoor
set_option maxRecDepth 100000
open Go Go.RowKit
set_option maxHeartbeats 1000000 in
theorem hgList_c (L : Option Addr) (lc : Nat) (l : List Int) (T : Option Addr) (tc : Nat) (to : List Int) (w : World) (hl : Rd w L l) (ht : Rd w T to) (hb : ∀ k ∈ l, 0 ≤ k ∧ k < to.length) :
    Calls Tryd.prog 106 #[.slice L l.length lc, .slice T to.length tc] w fun e w' => LIo w (l.map (fun k => to.getD k.toNat 0)) e w' := by
  have hll := hl.len
  have hlt := ht.len
  have Hb := Lib.hid hb
  clear hb
  go_enter Tryd.func106, Tryd.ntmps106
  go_wp2_with fail
  go_loopw [5, 10] (fun o i wr => ∃ k : Nat, k ≤ l.length ∧ i = .int .i64 k ∧ AL wr w.heap.size o ((l.take k).map (fun k => to.getD k.toNat 0)) ∧ Ex w wr) (fun _ i _ => l.length - (intOf i).toNat)
  case atStart => exact ⟨0, Nat.zero_le _, rfl, AL.nil _ _, Ex.refl w⟩
  case round =>
    obtain ⟨k, hk, rfl, hal, he⟩ := hrel
    by_cases hlt : k < l.length
    · obtain ⟨g, off, x, rfl, hx, _, c1⟩ := (hl.ex he).at_ hlt
      have hxb := Hb.out x (List.mem_of_getElem? hx)
      obtain ⟨xn, rfl⟩ := Int.eq_ofNat_of_zero_le hxb.1
      have hxl := hxb.2
      obtain ⟨g', off', y, rfl, hy, _, c2⟩ := (ht.ex he).at_ (show xn < to.length by omega)
      have Hst := Lib.hid (show (l.take (k + 1)).map (fun k => to.getD k.toNat 0) = (l.take k).map (fun k => to.getD k.toNat 0) ++ [y] by
        rw [List.take_add_one, hx, List.map_append]
        simp [List.getD_eq_getElem?_getD, hy])
      have hlen : ((l.take k).map (fun k => to.getD k.toNat 0)).length = k := by rw [List.length_map, List.length_take]; omega
      have hz := he.size
      obtain ⟨v', w4, hrun2, hal4, hI⟩ := al_push_i wr w.heap.size u5 _ y hal hz (by omega)
      rw [← Hst.out] at hal4
      have he4 := he.iv hI (Nat.le_refl _)
      clear hx hy hlen
      go_wp2_with (at_builtin; refine wpList_append_run rfl _ _ _ rfl rfl rfl hrun2 ?_)
      go_roundw
      case rel => exact ⟨k + 1, by omega, by go_num, hal4, he4⟩
      case measure => simp [intOf]; omega
    · obtain rfl : k = l.length := by omega
      rw [List.take_length] at hal
      obtain ⟨O, oc, rfl, fo⟩ := hal.form (by rw [List.length_map]; omega)
      rw [List.length_map] at *
      go_wp2_with fail
      go_ret
      exact ⟨_, rfl, ⟨O, oc, by rw [List.length_map]; rfl, fo.fi⟩, he⟩
set_option maxHeartbeats 1000000 in
theorem chosen_c (L : Option Addr) (lc : Nat) (l : List Int) (T : Option Addr) (tc : Nat) (to : List Int) (w : World) (hl : Rd w L l) (ht : Rd w T to) (hb : ∀ k ∈ l, 0 ≤ k ∧ k < to.length) :
    Calls Tryd.prog 107 #[.slice T to.length tc, .slice L l.length lc] w fun e w' => LIo w (l.map (fun k => to.getD k.toNat 0)) e w' := by
  have hll := hl.len
  have hlt := ht.len
  have Hb := Lib.hid hb
  clear hb
  obtain ⟨i0, hi, hz0, hs, hby⟩ := info_parts intInfo
  obtain ⟨w1, hmk, hal, hg⟩ := run_make_own (P := Tryd.prog) w w.heap.size 37 3 i0 (.int .i64 0) 1 Tryd.underlying37 hi hz0 hs .i64 .i64 l.length (by rw [hby]; omega) (by unfold maxLen; omega) (Nat.le_refl _)
  have he1 : Ex w w1 := (Ex.refl w).exo (o := none) hg (fun g e => by cases e)
  have hal : AL w1 w.heap.size (.slice (some ⟨w.heap.size, 0, none⟩) 0 l.length) [] := hal
  clear hi hz0 hs hby
  go_enter Tryd.func107, Tryd.ntmps107
  go_wp2_with fail
  clear hmk hg
  go_loopw [5, 13] (fun o i wr => ∃ k : Nat, k ≤ l.length ∧ i = .int .i64 k ∧ AL wr w.heap.size o ((l.take k).map (fun k => to.getD k.toNat 0)) ∧ Ex w wr) (fun _ i _ => l.length - (intOf i).toNat)
  case atStart => exact ⟨0, Nat.zero_le _, rfl, hal, he1⟩
  case round =>
    obtain ⟨k, hk, rfl, hal, he⟩ := hrel
    by_cases hlt : k < l.length
    · obtain ⟨g, off, x, rfl, hx, _, c1⟩ := (hl.ex he).at_ hlt
      have hxb := Hb.out x (List.mem_of_getElem? hx)
      obtain ⟨xn, rfl⟩ := Int.eq_ofNat_of_zero_le hxb.1
      have hxl := hxb.2
      obtain ⟨g', off', y, rfl, hy, _, c2⟩ := (ht.ex he).at_ (show xn < to.length by omega)
      have Hst := Lib.hid (show (l.take (k + 1)).map (fun k => to.getD k.toNat 0) = (l.take k).map (fun k => to.getD k.toNat 0) ++ [y] by
        rw [List.take_add_one, hx, List.map_append]
        simp [List.getD_eq_getElem?_getD, hy])
      have hlen : ((l.take k).map (fun k => to.getD k.toNat 0)).length = k := by rw [List.length_map, List.length_take]; omega
      have hz := he.size
      obtain ⟨v', w4, hrun2, hal4, hI⟩ := al_push_i wr w.heap.size u5 _ y hal hz (by omega)
      rw [← Hst.out] at hal4
      have he4 := he.iv hI (Nat.le_refl _)
      clear hx hy hlen
      go_wp2_with (at_builtin; refine wpList_append_run rfl _ _ _ rfl rfl rfl hrun2 ?_)
      go_roundw
      case rel => exact ⟨k + 1, by omega, by go_num, hal4, he4⟩
      case measure => simp [intOf]; omega
    · obtain rfl : k = l.length := by omega
      rw [List.take_length] at hal
      obtain ⟨O, oc, rfl, fo⟩ := hal.form (by rw [List.length_map]; omega)
      rw [List.length_map] at *
      go_wp2_with fail
      go_ret
      exact ⟨_, rfl, ⟨O, oc, by rw [List.length_map]; rfl, fo.fi⟩, he⟩
theorem mapped_c (L : Option Addr) (lc : Nat) (l : List Int) (T : Option Addr) (tc : Nat) (to : List Int) (w : World) (hl : Rd w L l) (ht : Rd w T to) (hb : ∀ k ∈ l, 0 ≤ k ∧ k < to.length) :
    Calls Tryd.prog 65 #[.slice L l.length lc, .slice T to.length tc] w fun e w' => LIo w (l.map (fun k => to.getD k.toNat 0)) e w' := by
  have hc := chosen_c L lc l T tc to w hl ht hb
  go_enter Tryd.func65, Tryd.ntmps65
  go_wp2_with fail
  refine hc.mono ?_
  rintro e w1 ⟨v, rfl, f, x⟩
  go_wp2
  go_ret
  exact ⟨_, rfl, f, x⟩
theorem set_fill (xs : List Int) (m k : Nat) (hk : k < m) (hl : xs.length = k) (y : Int) : (xs ++ List.replicate (m - k) (0 : Int)).set k y = (xs ++ [y]) ++ List.replicate (m - (k + 1)) (0 : Int) := by
  rw [List.set_append_right _ _ (by omega), hl, Nat.sub_self, show m - k = (m - (k + 1)) + 1 by omega, List.replicate_succ, List.set_cons_zero, List.append_assoc]
  rfl
theorem fill_at (xs : List Int) (m k : Nat) (hk : k < m) (hl : xs.length = k) : (xs ++ List.replicate (m - k) (0 : Int))[k]? = some 0 := by
  rw [List.getElem?_append_right (by omega), hl, Nat.sub_self, List.getElem?_replicate, if_pos (by omega)]
theorem nonIn_snoc (gs : List Gt) (g : Gt) : nonIn (gs ++ [g]) = nonIn gs + (if g.kd = 1 then 0 else 1) := by
  by_cases h : g.kd = 1 <;> simp [nonIn, h]
theorem nonIn_le (gs : List Gt) : nonIn gs ≤ gs.length := List.countP_le_length
set_option maxHeartbeats 12000000 in
theorem crSeq_c (a b : Circ) (va0 va1 vb0 vb1 : Value) (w : World) (ha : RCirc w va0 va1 a) (hb : RCirc w vb0 vb1 b) (la : a.gs.length ≤ 40) (lb : b.gs.length ≤ 40)
    (hin : ∀ g ∈ b.gs, g.kd = 1 → 0 ≤ g.vl ∧ g.vl < a.outs.length) (hop : ∀ g ∈ b.gs, ∀ k ∈ opnd g, 0 ≤ k ∧ k < b.gs.length) (hou : ∀ k ∈ b.outs, 0 ≤ k ∧ k < b.gs.length) :
    Calls Tryd.prog 63 #[.agg #[.int .i64 a.n, va0, va1], .agg #[.int .i64 b.n, vb0, vb1]] w fun e w' => ∃ y0 y1, e = .returned (.agg #[.int .i64 (seqC a b).n, y0, y1]) ∧ OCirc w' w.heap.size w'.heap.size y0 y1 (seqC a b) ∧ Ex w w' := by
  obtain ⟨⟨⟨A, ac, rfl, h1⟩, _⟩, ⟨P, pc, rfl, h2⟩⟩ := ha
  obtain ⟨⟨⟨B, bc, rfl, h3⟩, _⟩, ⟨R, rc, rfl, h4⟩⟩ := hb
  have hl1 := h1.1
  have hl2 := h2.len
  have hl3 := h3.1
  have hl4 := h4.len
  have hmk := fun W => run_make_ints b.gs.length (by omega) W
  have Hin := Lib.hid hin
  have Hop := Lib.hid hop
  have Hou := Lib.hid hou
  clear hin hop hou
  have y0 := (Ex.refl w).alloc (.cells #[.int .i64 a.n, .slice A a.gs.length ac, .slice P a.outs.length pc] 44)
  have d0 := VB.new w 44 #[.int .i64 a.n, .slice A a.gs.length ac, .slice P a.outs.length pc]
  have S0 := Lib.hid (show (w.alloc (.cells #[.int .i64 a.n, .slice A a.gs.length ac, .slice P a.outs.length pc] 44)).heap.size = w.heap.size + 1 by simp)
  go_enter Tryd.func63, Tryd.ntmps63
  go_wp2_with fail
  generalize w.alloc (.cells #[.int .i64 a.n, .slice A a.gs.length ac, .slice P a.outs.length pc] 44) = W0 at *
  have y1 := (Ex.refl W0).alloc (.cells #[.int .i64 b.n, .slice B b.gs.length bc, .slice R b.outs.length rc] 44)
  have d1 := VB.new W0 44 #[.int .i64 b.n, .slice B b.gs.length bc, .slice R b.outs.length rc]
  rw [S0.out] at d1
  have S1 := Lib.hid (show (W0.alloc (.cells #[.int .i64 b.n, .slice B b.gs.length bc, .slice R b.outs.length rc] 44)).heap.size = w.heap.size + 1 + 1 by simp; exact S0.out)
  generalize W0.alloc (.cells #[.int .i64 b.n, .slice B b.gs.length bc, .slice R b.outs.length rc] 44) = W1 at *
  have y2 := (Ex.refl W1).alloc (.cells #[.int .i64 0, .slice none 0 0, .slice none 0 0] 44)
  have d2 := VB.new W1 44 #[.int .i64 0, .slice none 0 0, .slice none 0 0]
  rw [S1.out] at d2
  generalize W1.alloc (.cells #[.int .i64 0, .slice none 0 0, .slice none 0 0] 44) = W2 at *
  have xx := (y0.trans y1).trans y2
  have d0 := (d0.ex y1).ex y2
  have d1 := d1.ex y2
  clear y0 y1 y2 S0 S1
  have q0 := d0.cell 0 (v := .int .i64 a.n) rfl
  have q1 := d0.cell 1 (v := .slice A a.gs.length ac) rfl
  have hz2 := d2.lt
  have eA : Ex W2 (W2.alloc (.cells #[] 84)).drew := ((Ex.refl W2).alloc (.cells #[] 84)).drew
  have eB : Ex W2 ((W2.alloc (.cells #[] 84)).alloc (.cells #[.int .i64 0, .slice none 0 0, .slice none 0 0] 44)).drew := (((Ex.refl W2).alloc (.cells #[] 84)).alloc (.cells #[.int .i64 0, .slice none 0 0, .slice none 0 0] 44)).drew
  have eC : Ex W2 ((W2.alloc (.cells #[.int .i64 0, .slice none 0 0, .slice none 0 0] 44)).alloc (.cells #[] 84)).drew := (((Ex.refl W2).alloc (.cells #[.int .i64 0, .slice none 0 0, .slice none 0 0] 44)).alloc (.cells #[] 84)).drew
  have s1 : (W2.alloc (.cells #[.int .i64 0, .slice none 0 0, .slice none 0 0] 44)).heap.size = W2.heap.size + 1 := by simp
  have s2 : (W2.alloc (.cells #[] 84)).heap.size = W2.heap.size + 1 := by simp
  have s3 : ((W2.alloc (.cells #[] 84)).alloc (.cells #[.int .i64 0, .slice none 0 0, .slice none 0 0] 44)).heap.size = W2.heap.size + 1 + 1 := by simp
  have s4 : ((W2.alloc (.cells #[.int .i64 0, .slice none 0 0, .slice none 0 0] 44)).alloc (.cells #[] 84)).heap.size = W2.heap.size + 1 + 1 := by simp
  obtain ⟨YA, NA, CA, wA, hrunA, hgA, hzA, hxA, hvA, hoA⟩ := app0 (W2.alloc (.cells #[] 84)).drew W2.heap.size W2.heap.size (ALG.empty W2 (Nat.le_refl _)) eA.size A ac a.gs (h1.ex (xx.trans eA)) (by omega)
  obtain ⟨YB, NB, CB, wB, hrunB, hgB, hzB, hxB, hvB, hoB⟩ := app0 ((W2.alloc (.cells #[] 84)).alloc (.cells #[.int .i64 0, .slice none 0 0, .slice none 0 0] 44)).drew W2.heap.size W2.heap.size ((ALG.empty W2 (Nat.le_refl _)).ex ((Ex.refl _).alloc (.cells #[.int .i64 0, .slice none 0 0, .slice none 0 0] 44)).drew) eB.size A ac a.gs (h1.ex (xx.trans eB)) (by omega)
  obtain ⟨YC, NC, CC, wC, hrunC, hgC, hzC, hxC, hvC, hoC⟩ := app0 ((W2.alloc (.cells #[.int .i64 0, .slice none 0 0, .slice none 0 0] 44)).alloc (.cells #[] 84)).drew (W2.heap.size + 1) W2.heap.size (by have := ALG.empty (W2.alloc (.cells #[.int .i64 0, .slice none 0 0, .slice none 0 0] 44)) (B := W2.heap.size) (by omega); rw [s1] at this; exact this) eC.size A ac a.gs (h1.ex (xx.trans eC)) (by omega)
  have XA := hxA W2 eA (Nat.le_refl _)
  have XB := hxB W2 eB (Nat.le_refl _)
  have XC := hxC W2 eC (by omega)
  have VB_ := hvB _ _ _ (show VB ((W2.alloc (.cells #[] 84)).alloc (.cells #[.int .i64 0, .slice none 0 0, .slice none 0 0] 44)).drew (W2.heap.size + 1) 44 #[.int .i64 0, .slice none 0 0, .slice none 0 0] by rw [← s2]; exact VB.new (W2.alloc (.cells #[] 84)) _ _) (by omega)
  have VC_ := hvC _ _ _ (show VB ((W2.alloc (.cells #[.int .i64 0, .slice none 0 0, .slice none 0 0] 44)).alloc (.cells #[] 84)).drew W2.heap.size 44 #[.int .i64 0, .slice none 0 0, .slice none 0 0] from (VB.new W2 44 #[.int .i64 0, .slice none 0 0, .slice none 0 0]).ex ((Ex.refl _).alloc (.cells #[] 84)).drew) (by omega)
  have nB : (Value.slice YB NB CB).ownBlock ≠ some (W2.heap.size + 1) := fun e => by
    have s3' : ((W2.alloc (.cells #[] 84)).alloc (.cells #[.int .i64 0, .slice none 0 0, .slice none 0 0] 44)).drew.heap.size = W2.heap.size + 1 + 1 := s3
    rcases hoB _ e with h | h <;> omega
  have nC : (Value.slice YC NC CC).ownBlock ≠ some W2.heap.size := fun e => by
    have s4' : ((W2.alloc (.cells #[.int .i64 0, .slice none 0 0, .slice none 0 0] 44)).alloc (.cells #[] 84)).drew.heap.size = W2.heap.size + 1 + 1 := s4
    rcases hoC _ e with h | h <;> omega
  have HS : ∀ W, Ex W2 W → (Ex W2 W ∧ W.cell? ⟨w.heap.size, 0, none⟩ = some (.int .i64 a.n) ∧ W.cell? ⟨w.heap.size, 1, none⟩ = some (.slice A a.gs.length ac)) := fun W h => ⟨h, cell_ex h q0, cell_ex h q1⟩
  have cb0 := VB_.cell 0 (v := .int .i64 0) rfl
  have cb1 := VB_.cell 1 (v := .slice none 0 0) rfl
  have cb2 := VB_.cell 2 (v := .slice none 0 0) rfl
  have fb0 := VB_.frozen 0
  have fb1 := VB_.frozen 1
  have fb2 := VB_.frozen 2
  have cc0 := VC_.cell 0 (v := .int .i64 0) rfl
  have cc1 := VC_.cell 1 (v := .slice none 0 0) rfl
  have cc2 := VC_.cell 2 (v := .slice none 0 0) rfl
  have fc0 := VC_.frozen 0
  have fc1 := VC_.frozen 1
  have fc2 := VC_.frozen 2
  go_cut [5] from 12 (fun s5 W => ∃ (G : Nat) (Y : Option Addr) (N C : Nat), s5 = .pointer (some ⟨G, 0, none⟩) ∧ VB W G 44 #[.int .i64 a.n, .slice Y N C, .slice none 0 0] ∧ ALG W W2.heap.size (.slice Y N C) a.gs ∧ (Value.slice Y N C).ownBlock ≠ some G ∧ W2.heap.size ≤ G ∧ Ex W2 W)
  case first =>
    go_region_held3 (fun W => Ex W2 W ∧ W.cell? ⟨w.heap.size, 0, none⟩ = some (.int .i64 a.n) ∧ W.cell? ⟨w.heap.size, 1, none⟩ = some (.slice A a.gs.length ac)) (first
      | (exact HS _ (ex_stores3 XB (by omega))) | (exact HS _ (ex_stores3 XC (by omega))) | (exact HS _ (XA.alloc _)) | (exact HS _ XA) | (exact HS _ XB) | (exact HS _ XC) | (exact HS _ eB) | (exact HS _ eC) | (exact HS _ eA) | (exact HS _ ((Ex.refl W2).alloc _).drew) | (exact HS _ ((Ex.refl W2).alloc _)) | (exact HS _ (Ex.refl W2).drew)) (first
      | (refine step_append_run (vs := .slice (some ⟨W2.heap.size, 0, none⟩) 0 0) (vx := .slice A a.gs.length ac) rfl _ _ _ rfl rfl rfl (by with_reducible exact hrunA) ?_)
      | (refine step_append_run (vs := .slice (some ⟨W2.heap.size, 0, none⟩) 0 0) (vx := .slice A a.gs.length ac) rfl _ _ _ rfl rfl rfl (by with_reducible exact hrunB) ?_)
      | (refine step_append_run (vs := .slice (some ⟨W2.heap.size + 1, 0, none⟩) 0 0) (vx := .slice A a.gs.length ac) rfl _ _ _ rfl rfl rfl (by with_reducible exact hrunC) ?_))
    all_goals
      go_wp2_with fail
      go_meet
      first
      | exact ⟨_, _, _, _, rfl, VB.new _ _ _, hgA.ex ((Ex.refl _).alloc _), (fun e => absurd (hgA.lt _ e).2 (Nat.lt_irrefl _)), XA.size, XA.alloc _⟩
      | (obtain ⟨dd, zz⟩ := VB_.st3 (.int .i64 a.n) (.slice YB NB CB) (.slice none 0 0)
         exact ⟨_, _, _, _, rfl, dd, hgB.k1 zz nB, nB, Nat.le_succ _, XB.ex1 zz (Nat.le_succ _)⟩)
      | (obtain ⟨dd, zz⟩ := VC_.st3 (.int .i64 a.n) (.slice YC NC CC) (.slice none 0 0)
         exact ⟨_, _, _, _, rfl, dd, hgC.k1 zz nC, nC, Nat.le_refl _, XC.ex1 zz (Nat.le_refl _)⟩)
  case rest =>
    obtain ⟨W5, rfl⟩ : ∃ q, q = wc := ⟨_, rfl⟩
    obtain ⟨G, Y, N, C, rfl, v5, g5, n5, hG, x5⟩ := hcut
    have X5 := xx.trans x5
    have nW : (Value.slice Y N C).ownBlock ≠ some W5.heap.size := fun e => absurd (g5.lt _ e).2 (Nat.lt_irrefl _)
    have hGl := v5.lt
    have D0 := d0.ex x5
    have D1 := d1.ex x5
    have D2 := d2.ex x5
    have hz5 := x5.size
    clear hrunA hrunB hrunC hgA hgB hgC hzA hzB hzC hxA hxB hxC hvA hvB hvC hoA hoB hoC XA XB XC VB_ VC_ nB nC eA eB eC s1 s2 s3 s4 HS cb0 cb1 cb2 fb0 fb1 fb2 cc0 cc1 cc2 fc0 fc1 fc2 q0 q1 x5
    have y6 := (Ex.refl W5).alloc (iObj (List.replicate b.gs.length 0))
    have o6 := Own.new W5 (List.replicate b.gs.length 0)
    have p1 := D1.cell 1 (v := .slice B b.gs.length bc) rfl
    have p2 := (D1.ex y6).cell 1 (v := .slice B b.gs.length bc) rfl
    have p3 := (D0.ex y6).cell 1 (v := .slice A a.gs.length ac) rfl
    have p4 := D0.cell 1 (v := .slice A a.gs.length ac) rfl
    go_wp2_with fail
    clear p1 p2 p3 p4
    have D0 := D0.ex y6
    have D1 := D1.ex y6
    have D2 := D2.ex y6
    have v5 := v5.ex y6
    have g5 := g5.ex y6
    have X5 := X5.trans y6
    have hzG := hG
    go_loopw [7, 29] (fun z i wr => ∃ (k cn : Nat), k ≤ b.gs.length ∧ i = .int .i64 k ∧ z = .int .i64 ((a.gs.length : Int) + (cn : Int)) ∧ Hid (nonIn (b.gs.take k) = cn) ∧ Own wr W5.heap.size (toL a.outs a.gs.length (b.gs.take k) ++ List.replicate (b.gs.length - k) 0) ∧
        VB wr w.heap.size 44 #[.int .i64 a.n, .slice A a.gs.length ac, .slice P a.outs.length pc] ∧ VB wr (w.heap.size + 1) 44 #[.int .i64 b.n, .slice B b.gs.length bc, .slice R b.outs.length rc] ∧ VB wr (w.heap.size + 1 + 1) 44 #[.int .i64 0, .slice none 0 0, .slice none 0 0] ∧
        VB wr G 44 #[.int .i64 a.n, .slice Y N C, .slice none 0 0] ∧ ALG wr W2.heap.size (.slice Y N C) a.gs ∧ Ex w wr ∧ W5.heap.size < wr.heap.size) (fun _ i _ => b.gs.length - (intOf i).toNat)
    case atStart => exact ⟨0, 0, Nat.zero_le _, rfl, by simp, Lib.hid rfl, by simpa [toL] using o6, D0, D1, D2, v5, g5, X5, o6.lt⟩
    case round =>
      obtain ⟨k, cn, hk, rfl, rfl, Hcn, ho, hD0, hD1, hD2, hv5, hg5, he, hzw⟩ := hrel
      have hcl : cn ≤ b.gs.length := by
        have h1 := nonIn_le (b.gs.take k)
        rw [List.length_take, Hcn.out] at h1
        omega
      have htl : (toL a.outs a.gs.length (b.gs.take k)).length = k ∨ b.gs.length < k := by rw [toL_len, List.length_take]; omega
      by_cases hlt : k < b.gs.length
      · obtain ⟨g, off, x, rfl, hx, c0, c1, c2, c3⟩ := (h3.ex he).gate hlt
        have hkl : (toL a.outs a.gs.length (b.gs.take k)).length = k := by omega
        have y7 := (Ex.refl wr).alloc (.cells #[.int .i64 x.kd, .int .i64 x.a, .int .i64 x.b, .int .i64 x.vl] 84)
        have hsn := toL_snoc a.outs a.gs.length (b.gs.take k) x
        have Htk : b.gs.take (k + 1) = b.gs.take k ++ [x] := by rw [List.take_add_one, hx]; rfl
        rw [← Htk, Hcn.out] at hsn
        have hnn := nonIn_snoc (b.gs.take k) x
        rw [← Htk, Hcn.out] at hnn
        have hin0 := Hin.out x (List.mem_of_getElem? hx)
        have Hx := Lib.hid hx
        have HTk := Lib.hid Htk
        have HFa := Lib.hid (fill_at (toL a.outs a.gs.length (b.gs.take k)) b.gs.length k hlt hkl)
        have HSf := Lib.hid (set_fill (toL a.outs a.gs.length (b.gs.take k)) b.gs.length k hlt hkl)
        clear Htk hkl htl hx
        obtain ⟨kd, ka, kb, vl⟩ := x
        dsimp only at c0 c1 c2 c3 y7 hsn hnn hin0
        have ho1 := ho.ex y7
        have qo := ho1.cell HFa.out
        have qf := ho1.frozen k
        have hD01 := hD0.ex y7
        have hD11 := hD1.ex y7
        have hD21 := hD2.ex y7
        have hv51 := hv5.ex y7
        have hg51 := hg5.ex y7
        have he1 := he.trans y7
        have hz7 := y7.size
        by_cases hkd : kd = 1
        · subst hkd
          have hin := hin0 rfl
          obtain ⟨vn, rfl⟩ := Int.eq_ofNat_of_zero_le hin.1
          have hvl := hin.2
          obtain ⟨g', off', y, rfl, hy, _, k1⟩ := (h2.ex he1).at_ (show vn < a.outs.length by omega)
          have q2 := hD01.cell 2 (v := .slice (some ⟨g', off', none⟩) a.outs.length pc) rfl
          rw [if_pos rfl, Int.toNat_natCast, List.getD_eq_getElem?_getD, hy] at hsn
          rw [if_pos rfl] at hnn
          have ho2 := ho.set_ k y
          rw [HSf.out y] at ho2
          simp only [Option.getD_some] at hsn
          rw [← hsn] at ho2
          have HN := Lib.hid (show nonIn (b.gs.take (k + 1)) = cn by rw [hnn]; rfl)
          have hE := (Ex1.refl W5.heap.size wr).setCell (p := ⟨W5.heap.size, k, none⟩) rfl (.int .i64 y)
          have y8 := (Ex.refl (wr.setCell ⟨W5.heap.size, k, none⟩ (.int .i64 y))).alloc (.cells #[.int .i64 1, .int .i64 ka, .int .i64 kb, .int .i64 vn] 84)
          have hzE := hE.size
          have hz8 := y8.size
          clear hy hsn hnn hin0 hin
          go_wp2_with fail
          go_roundw
          case rel => exact ⟨k + 1, cn, by omega, by go_num, by go_num, HN, ho2.ex y8, (hD0.ex1 hE (by omega)).ex y8, (hD1.ex1 hE (by omega)).ex y8, (hD2.ex1 hE (by omega)).ex y8, (hv5.ex1 hE (by omega)).ex y8, (hg5.k1 hE nW).ex y8, (he.ex1 hE (by omega)).trans y8, by omega⟩
          case measure => simp [intOf]; omega
        · have hb1 : (kd == 1) = false := by simpa using hkd
          rw [if_neg hkd] at hsn hnn
          have ho2 := ho.set_ k ((a.gs.length : Int) + (cn : Int))
          rw [HSf.out _, ← hsn] at ho2
          have HN := Lib.hid hnn
          have hE := (Ex1.refl W5.heap.size wr).setCell (p := ⟨W5.heap.size, k, none⟩) rfl (.int .i64 ((a.gs.length : Int) + (cn : Int)))
          have y8 := (Ex.refl (wr.setCell ⟨W5.heap.size, k, none⟩ (.int .i64 ((a.gs.length : Int) + (cn : Int))))).alloc (.cells #[.int .i64 kd, .int .i64 ka, .int .i64 kb, .int .i64 vl] 84)
          have hzE := hE.size
          have hz8 := y8.size
          clear hsn hnn hin0
          go_wp2_with fail
          go_roundw
          case rel => exact ⟨k + 1, cn + 1, by omega, by go_num, by push_cast; rw [← Int.add_assoc], HN, ho2.ex y8, (hD0.ex1 hE (by omega)).ex y8, (hD1.ex1 hE (by omega)).ex y8, (hD2.ex1 hE (by omega)).ex y8, (hv5.ex1 hE (by omega)).ex y8, (hg5.k1 hE nW).ex y8, (he.ex1 hE (by omega)).trans y8, by omega⟩
          case measure => simp [intOf]; omega
      · obtain rfl : k = b.gs.length := by omega
        rw [List.take_length, Nat.sub_self, List.replicate_zero, List.append_nil] at ho
        have p1 := hD1.cell 1 (v := .slice B b.gs.length bc) rfl
        have htol : (toL a.outs a.gs.length b.gs).length = b.gs.length := toL_len _ _ _
        go_wp2_with fail
        clear p1 hcl htl Hcn
        obtain ⟨to, hto⟩ : ∃ to, toL a.outs a.gs.length b.gs = to := ⟨_, rfl⟩
        have Hto := Lib.hid hto
        rw [hto] at ho htol
        clear hto
        go_loopw [56] (fun i wi => ∃ (k : Nat) (Y : Option Addr) (N C : Nat), k ≤ b.gs.length ∧ i = .int .i64 k ∧ Own wi W5.heap.size to ∧
          VB wi w.heap.size 44 #[.int .i64 a.n, .slice A a.gs.length ac, .slice P a.outs.length pc] ∧ VB wi (w.heap.size + 1) 44 #[.int .i64 b.n, .slice B b.gs.length bc, .slice R b.outs.length rc] ∧ VB wi (w.heap.size + 1 + 1) 44 #[.int .i64 0, .slice none 0 0, .slice none 0 0] ∧
          VB wi G 44 #[.int .i64 a.n, .slice Y N C, .slice none 0 0] ∧ ALG wi W2.heap.size (.slice Y N C) (a.gs ++ ((b.gs.take k).filter (fun g => decide (g.kd ≠ 1))).map (movG to)) ∧ (Value.slice Y N C).ownBlock ≠ some G ∧ (Value.slice Y N C).ownBlock ≠ some W5.heap.size ∧ Ex w wi ∧ W5.heap.size < wi.heap.size) (fun i _ => b.gs.length - (intOf i).toNat)
        case atStart => exact ⟨0, Y, N, C, Nat.zero_le _, rfl, ho, hD0, hD1, hD2, hv5, by simpa using hg5, n5, nW, he, hzw⟩
        case round =>
          obtain ⟨k, Y, N, C, hk, rfl, ho, hD0, hD1, hD2, hv5, hg5, n5, nW, he, hzw⟩ := hrel
          by_cases hlt : k < b.gs.length
          · obtain ⟨g, off, x, rfl, hx, c0, c1, c2, c3⟩ := (h3.ex he).gate hlt
            have Htk : b.gs.take (k + 1) = b.gs.take k ++ [x] := by rw [List.take_add_one, hx]; rfl
            have hfl : ((b.gs.take (k + 1)).filter (fun g => decide (g.kd ≠ 1))).map (movG to) = ((b.gs.take k).filter (fun g => decide (g.kd ≠ 1))).map (movG to) ++ (if x.kd = 1 then [] else [movG to x]) := by
              rw [Htk, List.filter_append, List.map_append]
              by_cases h : x.kd = 1 <;> simp [h]
            have hopx := Hop.out x (List.mem_of_getElem? hx)
            have hflen : ((b.gs.take k).filter (fun g => decide (g.kd ≠ 1))).length ≤ 40 := by
              have := List.length_filter_le (fun g : Gt => decide (g.kd ≠ 1)) (b.gs.take k)
              rw [List.length_take] at this
              omega
            clear Htk hx
            obtain ⟨kd, ka, kb, vl⟩ := x
            dsimp only at c0 c1 c2 c3 hfl hopx
            have y7 := (Ex.refl wr).alloc (.cells #[.int .i64 kd, .int .i64 ka, .int .i64 kb, .int .i64 vl] 84)
            have v7 := VB.new wr 84 #[.int .i64 kd, .int .i64 ka, .int .i64 kb, .int .i64 vl]
            by_cases hkd : kd = 1
            · subst hkd
              rw [if_pos rfl, List.append_nil] at hfl
              have HFL := Lib.hid hfl
              clear hfl
              go_wp2_with fail
              go_roundw
              case rel => exact ⟨k + 1, Y, N, C, by omega, by go_num, ho.ex y7, hD0.ex y7, hD1.ex y7, hD2.ex y7, hv5.ex y7, by rw [HFL.out]; exact hg5.ex y7, n5, nW, he.trans y7, Nat.lt_of_lt_of_le hzw y7.size⟩
              case measure => simp [intOf]; omega
            · rw [if_neg hkd] at hfl
              have HFL := Lib.hid hfl
              have hb1 : (kd == 1) = false := by simpa using hkd
              clear hfl
              go_wp2_with fail
              generalize wr.alloc (.cells #[.int .i64 kd, .int .i64 ka, .int .i64 kb, .int .i64 vl] 84) = W7 at *
              have hv7 := hv5.ex y7
              have hg7 := hg5.ex y7
              have ho7 := ho.ex y7
              have hz7 := y7.size
              have cG := hv7.cell 1 (v := .slice Y N C) rfl
              have g0 := v7.cell 0 (v := .int .i64 kd) rfl
              have g1 := v7.cell 1 (v := .int .i64 ka) rfl
              have g2 := v7.cell 2 (v := .int .i64 kb) rfl
              have g3 := v7.cell 3 (v := .int .i64 vl) rfl
              have hcm := crMoved_c ⟨kd, ka, kb, vl⟩ (some ⟨W5.heap.size, 0, none⟩) b.gs.length to W7.drew (by have := ho7.rd (by omega); exact this) (by rw [htol]; exact hopx)
              unfold gtV at hcm
              obtain ⟨mg, hmg⟩ : ∃ m, movG to ⟨kd, ka, kb, vl⟩ = m := ⟨_, rfl⟩
              rw [hmg] at hcm HFL
              clear hmg
              rw [htol] at hcm
              go_region_law (first
                | (refine step_append_run (vs := .slice Y N C) (vx := .slice (some ⟨w8.heap.size, 0, none⟩) 1 1) rfl _ _ _ rfl rfl rfl (by with_reducible exact hrun9) ?_)
                | (go_simp
                   go_at_call 105
                   refine hcm.mono ?_
                   rintro e w8 ⟨rfl, x8⟩
                   replace x8 := ((Ex.refl W7).drew).trans x8
                   have cG8 := cell_ex x8 cG
                   have cG9 := cell_ex (((Ex.refl w8).alloc (.cells #[.int .i64 mg.kd, .int .i64 mg.a, .int .i64 mg.b, .int .i64 mg.vl] 84))) cG8
                   have hz8 := x8.size
                   obtain ⟨v9, w9, hrun9, hg9, hI9, ho9, hE9⟩ := galp 42 w8 W2.heap.size _ _ mg (hg7.ex x8) (by omega) (by rw [List.length_append, List.length_map]; omega)
                   obtain ⟨Y9, N9, C9, rfl⟩ := (hg9.og (by rw [List.length_append, List.length_append, List.length_map, List.length_singleton]; omega)).rd.form
                   have hv8 := hv7.ex x8
                   have hv9 : VB w9 G 44 #[.int .i64 a.n, .slice Y N C, .slice none 0 0] := (hE9.block G hv8.lt (fun e => n5 e.symm)).trans hv8
                   have cG10 := hv9.cell 1 (v := .slice Y N C) rfl
                   have fG10 := hv9.frozen 1))
              all_goals
                have E9 : Ex1 G w9 (w9.setCell ⟨G, 1, none⟩ (.slice Y9 N9 C9)) := (Ex1.refl _ _).setCell rfl _
                have vF := hv9.set_ 1 (.slice Y9 N9 C9)
                have n9 : (Value.slice Y9 N9 C9).ownBlock ≠ some G := fun e => by
                  rcases ho9 with h | ⟨q, h, hq⟩
                  · rw [h] at e; exact n5 e
                  · rw [h] at e; injection e with e; have := hv8.lt; omega
                have m9 : (Value.slice Y9 N9 C9).ownBlock ≠ some W5.heap.size := fun e => by
                  rcases ho9 with h | ⟨q, h, hq⟩
                  · rw [h] at e; exact nW e
                  · rw [h] at e; injection e with e; omega
                have gF := hg9.k1 E9 n9
                rw [List.append_assoc, ← HFL.out] at gF
                have z9 := hI9.size
                have zE := E9.size
                have keep : ∀ (q : Nat) (t : TypeId) (cs : Array Value), VB w8 q t cs → q < W2.heap.size → VB (w9.setCell ⟨G, 1, none⟩ (.slice Y9 N9 C9)) q t cs := fun q t cs hq hlt => (hq.iv hI9 (by omega)).ex1 E9 (by omega)
                have o9 : Own (w9.setCell ⟨G, 1, none⟩ (.slice Y9 N9 C9)) W5.heap.size to := by
                  have h8 := ho7.ex x8
                  have h9 : Own w9 W5.heap.size to := by
                    obtain ⟨cur, hc, hx⟩ := h8
                    exact ⟨cur, (hE9.block W5.heap.size (by omega) (fun e => nW e.symm)).trans hc, hx⟩
                  exact h9.ex1 E9 (by omega)
                have eF := (((he.trans y7).trans x8).iv hI9 (by have := xx.size; omega)).ex1 E9 (by have := xx.size; omega)
                have k0 := keep _ _ _ ((hD0.ex y7).ex x8) (by omega)
                have k1 := keep _ _ _ ((hD1.ex y7).ex x8) (by omega)
                have k2 := keep _ _ _ ((hD2.ex y7).ex x8) (by omega)
                clear keep g0 g1 g2 g3 cG cG8 cG9 cG10 fG10 hcm hrun9
                go_wp2_with fail
                go_roundw
                case rel => exact ⟨k + 1, Y9, N9, C9, by omega, by go_num, o9, k0, k1, k2, vF, gF, n9, m9, eF, by omega⟩
                case measure => simp [intOf]; omega
          · obtain rfl : k = b.gs.length := by omega
            rw [List.take_length] at hg5
            have p2 := hD1.cell 2 (v := .slice R b.outs.length rc) rfl
            have hlg : (a.gs ++ (b.gs.filter (fun g => decide (g.kd ≠ 1))).map (movG to)).length ≤ 1048576 := by
              have := List.length_filter_le (fun g : Gt => decide (g.kd ≠ 1)) b.gs
              rw [List.length_append, List.length_map]
              omega
            have lB : W2.heap.size ≤ wr.heap.size := by omega
            obtain ⟨lo, hi, hog, hlo, hhi, hav⟩ := hg5.ogk hlg lB
            have hGa := hav G n5 hG
            have hhg := hgList_c R rc b.outs (some ⟨W5.heap.size, 0, none⟩) b.gs.length to wr (h4.ex he) (ho.rd (by omega)) (by rw [htol]; exact Hou.out)
            rw [htol] at hhg
            go_wp2_with fail
            refine hhg.mono ?_
            rintro e w8 ⟨v, rfl, f, x8⟩
            obtain ⟨O, oN, oC, rfl⟩ := f.rd.form
            have hv8 := hv5.ex x8
            have hD8 := hD2.ex x8
            have hog8 := hog.ex x8
            have he8 := he.trans x8
            have r0 := hv8.cell 0 (v := .int .i64 a.n) rfl
            have r1 := hv8.cell 1 (v := .slice Y N C) rfl
            have r2 := hv8.cell 2 (v := .slice none 0 0) rfl
            have rf := hv8.frozen 2
            have s0 := hD8.cell 0 (v := .int .i64 0) rfl
            have s1 := hD8.cell 1 (v := .slice none 0 0) rfl
            have s2 := hD8.cell 2 (v := .slice none 0 0) rfl
            have sf0 := hD8.frozen 0
            have sf1 := hD8.frozen 1
            have sf2 := hD8.frozen 2
            have lG := hv5.lt
            have hz8 := x8.size
            go_wp2_with fail
            have E1 : Ex1 G w8 (w8.setCell ⟨G, 2, none⟩ (.slice O oN oC)) := (Ex1.refl _ _).setCell rfl _
            have hD9 := hD8.ex1 E1 (by omega)
            obtain ⟨dd, zz⟩ := hD9.st3 (.int .i64 a.n) (.slice Y N C) (.slice O oN oC)
            have hogF := (hog8.e1 E1 hGa).e1 zz (by omega)
            have fF := (f.e1 E1 (by omega)).e1 zz (by omega)
            have heF := (he8.ex1 E1 (by omega)).ex1 zz (by omega)
            have C0 := dd.cell 0 (v := .int .i64 a.n) rfl
            have C1 := dd.cell 1 (v := .slice Y N C) rfl
            have C2 := dd.cell 2 (v := .slice O oN oC) rfl
            have e1s := E1.size
            have zs := zz.size
            have xs := xx.size
            refine bodyPost_ret (v := .agg #[.int .i64 a.n, .slice Y N C, .slice O oN oC]) (by simp [results, Tryd.results63, go_sem, C0, C1, C2]) rfl ?_
            refine ⟨_, _, rfl, ⟨lo, hi, wr.heap.size, w8.heap.size, ?_, ?_, by omega, by omega, by omega, by omega, .inl hhi⟩, heF⟩
            · show OG _ _ _ _ (seqG a b)
              rw [seqG, seqT, Hto.out]
              exact hogF
            · show OI _ _ _ _ (b.outs.map (fun k => (toL a.outs a.gs.length b.gs).getD k.toNat 0))
              rw [Hto.out]
              exact fF
end Go.Proofs.YtkpfmnconnopnaaDoor
