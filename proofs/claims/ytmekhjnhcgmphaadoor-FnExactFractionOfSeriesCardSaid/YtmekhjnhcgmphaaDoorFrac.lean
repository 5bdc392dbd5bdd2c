/- Contracts: lists of polynomials, fractions in lowest terms, valid fractions, on both sides. -/
import Derived.Test.YtmekhjnhcgmphaaDoorPoly6
import Derived.Test.YtmekhjnhcgmphaaDoorNum2
namespace Go.Proofs.YtmekhjnhcgmphaaDoor
set_option maxRecDepth 100000
open Go Go.RowKit
/-- The slice that begins at A holds the values vs, one cell each. -/
def RdV (w : World) (A : Option Addr) (vs : List Value) : Prop :=
  vs.length ≤ 1099511627776 ∧ ∀ (j : Nat) (v : Value), vs[j]? = some v → ∃ g off, A = some ⟨g, off, none⟩ ∧ w.cell? ⟨g, off + j, none⟩ = some v
/-- The slice value v reads as the ints xs. -/
def IsS (w : World) (v : Value) (xs : List Int) : Prop := ∃ A c, v = .slice A xs.length c ∧ Rd w A xs
theorem IsS.ex {w w' : World} {v : Value} {xs : List Int} (h : IsS w v xs) (he : Ex w w') : IsS w' v xs := by
  obtain ⟨A, c, hv, hr⟩ := h
  exact ⟨A, c, hv, hr.ex he⟩
theorem RdV.at_ {w : World} {A : Option Addr} {vs : List Value} (h : RdV w A vs) {k : Nat} (hk : k < vs.length) :
    ∃ g off v, A = some ⟨g, off, none⟩ ∧ vs[k]? = some v ∧ g < w.heap.size ∧ w.cell? ⟨g, off + k, none⟩ = some v := by
  obtain ⟨g, off, hA, hc⟩ := h.2 k _ (List.getElem?_eq_getElem hk)
  exact ⟨g, off, _, hA, List.getElem?_eq_getElem hk, cell_lt hc, hc⟩
theorem RdV.ex {w w' : World} {A : Option Addr} {vs : List Value} (h : RdV w A vs) (he : Ex w w') : RdV w' A vs :=
  ⟨h.1, fun j v hj => by
    obtain ⟨g, off, hA, hc⟩ := h.2 j v hj
    exact ⟨g, off, hA, (World.cell?_of_block (w := w) (a := ⟨g, off + j, none⟩) (he.block (cell_lt (p := ⟨g, off + j, none⟩) hc))).trans hc⟩⟩
/-- A new row of values. -/
theorem RdV.new (w : World) (vs : List Value) (t : TypeId) (hl : vs.length ≤ 1099511627776) : RdV (w.alloc (.cells vs.toArray t)) (some ⟨w.heap.size, 0, none⟩) vs :=
  ⟨hl, fun j v hj => ⟨w.heap.size, 0, rfl, by
    rw [Nat.zero_add, World.cell?_alloc_at _ _ _ _ rfl]; simpa using hj⟩⟩
set_option maxHeartbeats 1000000 in
theorem arePolys_c (p : Int) (A : Option Addr) (c : Nat) (vs : List Value) (xss : List (List Int)) (w : World) (h : RdV w A vs) (hx : ∀ (j : Nat) (v : Value), vs[j]? = some v → ∃ xs, xss[j]? = some xs ∧ IsS w v xs) (hl : xss.length = vs.length) (ht : Tb w) :
    Calls Tryd.prog 94 #[.int .i64 p, .slice A vs.length c] w fun e w' => e = .returned (.bool (xss.all (polyB p) && fieldB p)) ∧ w = w' := by
  have hl1 := h.1
  have Hl := Lib.hid hl
  have Hx := Lib.hid hx
  clear hl hx
  go_enter Tryd.func94, Tryd.ntmps94
  go_wp2_with fail
  go_loop [9] (fun i => ∃ k : Nat, k ≤ vs.length ∧ Hid ((xss.take k).all (polyB p) = true) ∧ i = .int .i64 k) (fun i => vs.length - (intOf i).toNat)
  case atStart => exact ⟨0, Nat.zero_le _, rfl, rfl⟩
  case round =>
    obtain ⟨k, hk, Hall, rfl⟩ := hrel
    by_cases hlt : k < vs.length
    · obtain ⟨g, off, v, rfl, hv, hg, hc⟩ := h.at_ hlt
      obtain ⟨xs, hxs, A', c', rfl, hr⟩ := Hx.out k v hv
      have Hxs := Lib.hid hxs
      clear hv hxs
      cases hp : polyB p xs with
      | true =>
        have Hp := Lib.hid hp
        go_wp2_with (go_at_call 112; refine (isPoly_c _ _ _ _ _ hr ht).mono ?_; rintro e w' ⟨rfl, rfl⟩)
        go_round
        case rel => exact ⟨k + 1, by omega, by
          show _ = true
          rw [List.take_add_one, Hxs.out, List.all_append, Hall.out]; simp [Hp.out], by go_num⟩
        case measure => simp [intOf] <;> omega
      | false =>
        have Hp := Lib.hid hp
        go_wp2_with (go_at_call 112; refine (isPoly_c _ _ _ _ _ hr ht).mono ?_; rintro e w' ⟨rfl, rfl⟩)
        go_ret
        exact ⟨ret_bool (by rw [List.all_eq_false.2 ⟨xs, List.mem_of_getElem? Hxs.out, by simp [Hp.out]⟩]; rfl), rfl⟩
    · obtain rfl : k = vs.length := by omega
      go_wp2_with (go_at_call 50; refine (isField_c _ _ ht).mono ?_; rintro e w' ⟨rfl, rfl⟩)
      go_ret
      exact ⟨ret_bool (by have := Hall.out; rw [← Hl.out, List.take_length] at this; rw [this]; rfl), rfl⟩
set_option maxHeartbeats 400000 in
theorem slicesEqual_c (A B : Option Addr) (c d : Nat) (xs ys : List Int) (w : World) (h : Rd w A xs) (h' : Rd w B ys) :
    Calls Tryd.prog 113 #[.slice A xs.length c, .slice B ys.length d] w fun e w' => e = .returned (.bool (decide (xs = ys))) ∧ Ex w w' := by
  have hl := h.len
  have hl' := h'.len
  by_cases hn : xs.length = ys.length
  case neg =>
    have hb : ((xs.length : Int) != (ys.length : Int)) = true := by simp; omega
    have he : decide (xs = ys) = false := by simp; intro e; exact hn (by rw [e])
    have He := Lib.hid he
    clear he
    go_enter Tryd.func113, Tryd.ntmps113
    go_wp2
    go_ret
    exact ⟨by rw [He.out]; rfl, Ex.refl w⟩
  have hb : ((xs.length : Int) != (ys.length : Int)) = false := by simp; omega
  have hn2 : ys.length ≤ xs.length := by omega
  have hn3 : xs.length ≤ ys.length := by omega
  have Hn := Lib.hid hn
  clear hn
  go_enter Tryd.func113, Tryd.ntmps113
  go_wp2
  go_loopw [13] (fun i wr => ∃ k : Nat, k ≤ xs.length ∧ i = .int .i64 k ∧ Hid (xs.take k = ys.take k) ∧ ∃ n, wr = w.drewN n) (fun i _ => xs.length - (intOf i).toNat)
  case atStart => exact ⟨0, Nat.zero_le _, rfl, rfl, 0, rfl⟩
  case round =>
    obtain ⟨k, hk, rfl, He, n, rfl⟩ := hrel
    by_cases hlt : k < xs.length
    · have hlt2 : k < ys.length := by omega
      obtain ⟨g, off, x, rfl, hx, hg, hc⟩ := h.at_ hlt
      obtain ⟨g', off', y, rfl, hy, hg', hc'⟩ := h'.at_ hlt2
      have Hx := Lib.hid hx
      have Hy := Lib.hid hy
      clear hx hy
      by_cases hxy : x = y
      · subst hxy
        go_wp2
        go_quiet (fail)
        go_wp2
        go_roundw
        case rel => exact ⟨k + 1, by omega, by go_num, by
          show _ = _
          rw [List.take_add_one, List.take_add_one, Hx.out, Hy.out, He.out], _, rfl⟩
        case measure => simp [intOf] <;> omega
      · have hbx : (x != y) = true := by simpa using hxy
        have he : decide (xs = ys) = false := by
          simp; rintro rfl
          have := Hx.out; rw [Hy.out] at this; injection this with this; exact hxy this.symm
        have He2 := Lib.hid he
        clear he hxy
        go_wp2
        go_quiet (fail)
        go_wp2
        go_ret
        exact ⟨by rw [He2.out]; rfl, ((Ex.refl w).drewN _).drewN _⟩
    · obtain rfl : k = xs.length := by omega
      have he : decide (xs = ys) = true := by
        have := He.out
        rw [List.take_length, List.take_of_length_le (by omega)] at this
        simpa using this
      have He2 := Lib.hid he
      clear he
      go_wp2
      go_ret
      exact ⟨by rw [He2.out]; rfl, (Ex.refl w).drewN _⟩
/-- lowest: a fresh fraction. -/
def FF (w : World) (num den : List Int) (e : Ending) (w' : World) : Prop :=
  ∃ A c B d, e = .returned (.agg #[.slice A num.length c, .slice B den.length d]) ∧ Fr w' w.heap.size A c num ∧ Fr w' w.heap.size B d den ∧ Apart A B ∧ Ex w w'
set_option maxHeartbeats 1000000 in
set_option maxRecDepth 100000 in
set_option maxHeartbeats 1000000 in
set_option maxRecDepth 100000 in
theorem lowest_c (p : Int) (A B : Option Addr) (c d : Nat) (num den : List Int) (w : World) (hn : Rd w A num) (hd : Rd w B den) (hF : fieldB p = true) (hne : allEl p num = true) (hde : allEl p den = true) (tn : Tr num) (td : Tr den) (hd0 : den ≠ []) :
    Calls Tryd.prog 42 #[.int .i64 p, .slice A num.length c, .slice B den.length d] w fun e w' => FF w (lowN p num den) (lowD p num den) e w' := by
  have hl := hn.len
  have hl' := hd.len
  by_cases hn0 : num = []
  · subst hn0
    have H1 := Lib.hid (show lowN p [] den = [] by rw [lowN, if_pos rfl])
    have H2 := Lib.hid (show lowD p [] den = [1] by rw [lowD, if_pos rfl])
    clear hF hne hde hd0
    go_enter Tryd.func42, Tryd.ntmps42
    go_wp2
    refine bodyPost_ret (v := .agg #[.slice (some ⟨w.heap.size + 1, 0, none⟩) 0 0, .slice (some ⟨w.heap.size + 1 + 1, 0, none⟩) 1 1]) (by simp [results, Tryd.results42, go_sem]) rfl ?_
    rw [H1.out, H2.out]
    generalize hW : w.alloc (Obj.cells #[.slice (some ⟨w.heap.size + 1, 0, none⟩) 0 0, .slice (some ⟨w.heap.size + 1 + 1, 0, none⟩) 1 1] 40) = w1
    have s1 : w1.heap.size = w.heap.size + 1 := by rw [← hW]; simp
    have x1 : Ex w w1 := by rw [← hW]; exact (Ex.refl w).alloc _
    have o1 : Own (w1.alloc (iObj [])) w1.heap.size [] := Own.new w1 []
    have x2 : Ex w1 (w1.alloc (iObj [])) := (Ex.refl w1).alloc _
    have s2 : (w1.alloc (iObj [])).heap.size = w1.heap.size + 1 := by simp
    have o2 : Own ((w1.alloc (iObj [])).alloc (iObj [1])) (w1.alloc (iObj [])).heap.size [1] := Own.new _ [1]
    have x3 : Ex (w1.alloc (iObj [])) ((w1.alloc (iObj [])).alloc (iObj [1])) := (Ex.refl _).alloc _
    rw [s2] at o2
    have o1' := o1.ex x3
    rw [s1] at o1' o2
    exact ⟨_, 0, _, 1, rfl, o1'.fr (by simp) (by omega) (Nat.le_refl _), o2.fr (by simp) (by omega) (Nat.le_refl _), apart_ne (by omega), (x1.trans x2).trans x3⟩
  · have h2 := fieldB_lo hF
    have h97 := fieldB_hi hF
    have hnl := List.length_pos_iff.2 hn0
    have hnb : ((num.length : Int) == 0) = false := by simp; omega
    obtain ⟨hml, hg1, hgd⟩ := lowM_len hF hne hde tn td hd0
    have Hg := Lib.hid (gcdM_ne hF hne hde tn td (.inr hd0))
    have Hge := Lib.hid (gcdM_el (p := p) (by omega) num den)
    have HM := Lib.hid (show pDivQ p den (gcdM p num den) = lowM p num den from rfl)
    have hme : allEl p (lowM p num den) = true := pDivQ_el (by omega) hde _
    obtain ⟨ml, hml1⟩ : ∃ ml : Nat, (lowM p num den).length = ml + 1 := ⟨den.length - (gcdM p num den).length, hml⟩
    have HB := Lib.hid (show lowBy p num den = invM p (cf (lowM p num den) ((lowM p num den).length - 1)) from rfl)
    have HN := Lib.hid (show lowN p num den = pScale p (lowBy p num den) (pDivQ p num (gcdM p num den)) by rw [lowN, if_neg hn0])
    have HD := Lib.hid (show lowD p num den = pScale p (lowBy p num den) (lowM p num den) by rw [lowD, if_neg hn0])
    have Hqe := Lib.hid (pDivQ_el (p := p) (by omega) hne (gcdM p num den))
    have Hme := Lib.hid hme
    have Hne := Lib.hid hne
    have Hde := Lib.hid hde
    have HF := Lib.hid hF
    have Hd0 := Lib.hid hd0
    have Hml1 := Lib.hid hml1
    clear hne hde hF hd0 hn0 hml hml1 hme
    go_enter Tryd.func42, Tryd.ntmps42
    go_wp2_with fail
    generalize hW : w.alloc (Obj.cells _ 40) = w1
    have hb1 : w1.heap[w.heap.size]? = some (.cells #[.slice none 0 0, .slice none 0 0] 40 (0, 0)) := by rw [← hW]; exact heap_alloc_new w _
    have s1 : w1.heap.size = w.heap.size + 1 := by rw [← hW]; simp
    have x1 : Ex w w1 := by rw [← hW]; exact (Ex.refl w).alloc _
    clear hW
    refine (polyGcd_c p A B c d num den w1 (hn.ex x1) (hd.ex x1) HF.out Hne.out Hde.out tn td (.inr Hd0.out)).mono ?_
    rintro e w2 ⟨A2, c2, rfl, f2, x2⟩
    have xw2 := x1.trans x2
    go_wp2_with fail
    refine (polyDivide_c p A A2 c c2 num _ w2 (hn.ex xw2) f2.rd h2 h97 Hne.out Hge.out Hg.out).mono ?_
    rintro e w3 ⟨A3, c3, A3', c3', rfl, f3, _, _, x3⟩
    have xw3 := xw2.trans x3
    go_wp2_with fail
    refine (polyDivide_c p B A2 d c2 den _ w3 (hd.ex xw3) (f2.rd.ex x3) h2 h97 Hde.out Hge.out Hg.out).mono ?_
    rintro e w4 ⟨A4, c4, A4', c4', rfl, f4, _, _, x4⟩
    rw [HM.out] at f4 ⊢
    have xw4 := xw3.trans x4
    obtain ⟨gA, goff, x, rfl, hx, hgA, hcell⟩ := f4.rd.at_ (by rw [Hml1.out]; omega : ml < (lowM p num den).length)
    have hxb := allEl_at Hme.out hx
    have Hcx := Lib.hid (show cf (lowM p num den) ((lowM p num den).length - 1) = x by rw [Hml1.out]; exact cf_of hx)
    have hmi : ((lowM p num den).length : Int) - 1 = (ml : Int) := by have := Hml1.out; omega
    have hm2 : ml < (lowM p num den).length := by have := Hml1.out; omega
    have hm3 := f4.rd.len
    clear hx
    go_wp2_with fail
    refine (inverse_c p x w4 h2 h97 hxb).mono ?_
    rintro e w5 ⟨rfl, rfl⟩
    have hib := invM_bd x h2 (p := p)
    rw [← Hcx.out, ← HB.out] at hib ⊢
    clear hcell hmi
    go_wp2_with fail
    refine (scaled_c p A3 c3 _ _ w4 (f3.rd.ex x4) h2 h97 Hqe.out (by omega)).mono ?_
    rintro e w6 ⟨A6, c6, rfl, f6, x6⟩
    rw [← HN.out] at f6 ⊢
    go_wp2_with fail
    refine (scaled_c p _ c4 _ _ w6 (f4.rd.ex x6) h2 h97 Hme.out (by omega)).mono ?_
    rintro e w7 ⟨A7, c7, rfl, f7, x7⟩
    rw [← HD.out] at f7 ⊢
    have x27 := ((x2.trans x3).trans x4).trans (x6.trans x7)
    have hb7 : w7.heap[w.heap.size]? = some (.cells #[.slice none 0 0, .slice none 0 0] 40 (0, 0)) := (x27.block (by omega)).trans hb1
    have hc70 : w7.cell? ⟨w.heap.size, 0, none⟩ = some (.slice none 0 0) := by simp [World.cell?, hb7]
    have hc71 : w7.cell? ⟨w.heap.size, 1, none⟩ = some (.slice none 0 0) := by simp [World.cell?, hb7]
    have hf70 : w7.frozen? ⟨w.heap.size, 0, none⟩ = false := by simp [World.frozen?, hb7]
    have hf71 : w7.frozen? ⟨w.heap.size, 1, none⟩ = false := by simp [World.frozen?, hb7]
    have S1 := Lib.hid s1
    clear hb7 hb1 s1
    go_wp2_with fail
    have y1 : Ex1 w.heap.size w7 (w7.setCell ⟨w.heap.size, 0, none⟩ (.slice A6 (lowN p num den).length c6)) := (Ex1.refl _ _).setCell rfl _
    have y2 := y1.setCell (p := ⟨w.heap.size, 1, none⟩) rfl (.slice A7 (lowD p num den).length c7)
    have d0 : ((w7.setCell ⟨w.heap.size, 0, none⟩ (.slice A6 (lowN p num den).length c6)).setCell ⟨w.heap.size, 1, none⟩ (.slice A7 (lowD p num den).length c7)).cell? ⟨w.heap.size, 0, none⟩ = some (.slice A6 (lowN p num den).length c6) := by
      rw [World.cell?_setCell_other _ _ _ _ (by intro e; injection e with _ e; cases e)]
      exact World.cell?_setCell_same _ _ _ hc70
    have d1 : ((w7.setCell ⟨w.heap.size, 0, none⟩ (.slice A6 (lowN p num den).length c6)).setCell ⟨w.heap.size, 1, none⟩ (.slice A7 (lowD p num den).length c7)).cell? ⟨w.heap.size, 1, none⟩ = some (.slice A7 (lowD p num den).length c7) := by
      refine World.cell?_setCell_same _ _ _ (u := .slice none 0 0) ?_
      rw [World.cell?_setCell_other _ _ _ _ (by intro e; injection e with _ e; cases e)]
      exact hc71
    generalize (w7.setCell ⟨w.heap.size, 0, none⟩ (.slice A6 (lowN p num den).length c6)).setCell ⟨w.heap.size, 1, none⟩ (.slice A7 (lowD p num den).length c7) = w8 at *
    refine bodyPost_ret (v := .agg #[.slice A6 (lowN p num den).length c6, .slice A7 (lowD p num den).length c7]) (by simp [results, Tryd.results42, go_sem, d0, d1]) rfl ?_
    have z1 := S1.out
    have z2 := x2.size
    have z3 := x3.size
    have z4 := x4.size
    have z6 := x6.size
    have z7 := x7.size
    have g6 := (f6.ex x7).ex1 y2 (f6.hi.off (by omega))
    have g7 := f7.ex1 y2 (f7.hi.off (by omega))
    exact ⟨A6, c6, A7, c7, rfl, g6.more (by omega), g7.more (by omega), Apart.of_lo f6.lo f7.hi, ((xw4.trans x6).trans x7).ex1 y2 (Nat.le_refl _)⟩
end Go.Proofs.YtmekhjnhcgmphaaDoor
