/- Contracts: lists of polynomials, fractions in lowest terms, valid fractions, on both sides. Contracts: valid fractions, on both sides; the laws' helpers on fractions. Contracts: the reference's valid fractions; the laws' helpers on fractions. -/
import Derived.Test.YtofppmieipiidaaDoorPkAD
import Derived.Test.YtofppmieipiidaaDoorPkC
import Derived.RegionCalls
import Derived.Deep.RegionWith
namespace Go.Proofs.YtofppmieipiidaaDoor
set_option maxRecDepth 100000
open Go Go.RowKit
/-- The slice that begins at A holds the values vs, one cell each. -/
def RdV (w : World) (A : Option Addr) (vs : List Value) : Prop :=
  vs.length ≤ 1099511627776 ∧ ∀ (j : Nat) (v : Value), vs[j]? = some v → ∃ g off, A = some ⟨g, off, none⟩ ∧ w.cell? ⟨g, off + j, none⟩ = some v
/-- The slice value v reads as the ints xs. -/
def IsS (w : World) (v : Value) (xs : List Int) : Prop := ∃ A c, v = .slice A xs.length c ∧ Rd w A xs
theorem IsS.ex {w w' : World} {v : Value} {xs : List Int} (h : IsS w v xs) (he : Ex w w') : IsS w' v xs := by
  obtain ⟨A, c, hv, hr⟩ := h
  exact ⟨A, c, hv, hr.ex he⟩
theorem RdV.at_ {w : World} {A : Option Addr} {vs : List Value} (h : RdV w A vs) {k : Nat} (hk : k < vs.length) :
    ∃ g off v, A = some ⟨g, off, none⟩ ∧ vs[k]? = some v ∧ g < w.heap.size ∧ w.cell? ⟨g, off + k, none⟩ = some v := by
  obtain ⟨g, off, hA, hc⟩ := h.2 k _ (List.getElem?_eq_getElem hk)
  exact ⟨g, off, _, hA, List.getElem?_eq_getElem hk, cell_lt hc, hc⟩
theorem RdV.ex {w w' : World} {A : Option Addr} {vs : List Value} (h : RdV w A vs) (he : Ex w w') : RdV w' A vs :=
  ⟨h.1, fun j v hj => by
    obtain ⟨g, off, hA, hc⟩ := h.2 j v hj
    exact ⟨g, off, hA, (World.cell?_of_block (w := w) (a := ⟨g, off + j, none⟩) (he.block (cell_lt (p := ⟨g, off + j, none⟩) hc))).trans hc⟩⟩
/-- A new row of values. -/
theorem RdV.new (w : World) (vs : List Value) (t : TypeId) (hl : vs.length ≤ 1099511627776) : RdV (w.alloc (.cells vs.toArray t)) (some ⟨w.heap.size, 0, none⟩) vs :=
  ⟨hl, fun j v hj => ⟨w.heap.size, 0, rfl, by
    rw [Nat.zero_add, World.cell?_alloc_at _ _ _ _ rfl]; simpa using hj⟩⟩
set_option maxHeartbeats 1000000 in
theorem arePolys_c (p : Int) (A : Option Addr) (c : Nat) (vs : List Value) (xss : List (List Int)) (w : World) (h : RdV w A vs) (hx : ∀ (j : Nat) (v : Value), vs[j]? = some v → ∃ xs, xss[j]? = some xs ∧ IsS w v xs) (hl : xss.length = vs.length) (ht : Tb w) :
    Calls Tryd.prog 16 #[.int .i64 p, .slice A vs.length c] w fun e w' => e = .returned (.bool (xss.all (polyB p) && fieldB p)) ∧ w = w' := by
  have hl1 := h.1
  have Hl := Lib.hid hl
  have Hx := Lib.hid hx
  clear hl hx
  go_enter Tryd.func16, Tryd.ntmps16
  go_wp2_with fail
  go_loop [9] (fun i => ∃ k : Nat, k ≤ vs.length ∧ Hid ((xss.take k).all (polyB p) = true) ∧ i = .int .i64 k) (fun i => vs.length - (intOf i).toNat)
  case atStart => exact ⟨0, Nat.zero_le _, rfl, rfl⟩
  case round =>
    obtain ⟨k, hk, Hall, rfl⟩ := hrel
    by_cases hlt : k < vs.length
    · obtain ⟨g, off, v, rfl, hv, hg, hc⟩ := h.at_ hlt
      obtain ⟨xs, hxs, A', c', rfl, hr⟩ := Hx.out k v hv
      have Hxs := Lib.hid hxs
      clear hv hxs
      cases hp : polyB p xs with
      | true =>
        have Hp := Lib.hid hp
        go_wp2_with (go_at_call 25; refine (isPoly_c _ _ _ _ _ hr ht).mono ?_; rintro e w' ⟨rfl, rfl⟩)
        go_round
        case rel => exact ⟨k + 1, by omega, by
          show _ = true
          rw [List.take_add_one, Hxs.out, List.all_append, Hall.out]; simp [Hp.out], by go_num⟩
        case measure => simp [intOf] <;> omega
      | false =>
        have Hp := Lib.hid hp
        go_wp2_with (go_at_call 25; refine (isPoly_c _ _ _ _ _ hr ht).mono ?_; rintro e w' ⟨rfl, rfl⟩)
        go_ret
        exact ⟨ret_bool (by rw [List.all_eq_false.2 ⟨xs, List.mem_of_getElem? Hxs.out, by simp [Hp.out]⟩]; rfl), rfl⟩
    · obtain rfl : k = vs.length := by omega
      go_wp2_with (go_at_call 26; refine (isField_c _ _ ht).mono ?_; rintro e w' ⟨rfl, rfl⟩)
      go_ret
      exact ⟨ret_bool (by have := Hall.out; rw [← Hl.out, List.take_length] at this; rw [this]; rfl), rfl⟩
set_option maxHeartbeats 400000 in
theorem slicesEqual_c (A B : Option Addr) (c d : Nat) (xs ys : List Int) (w : World) (h : Rd w A xs) (h' : Rd w B ys) :
    Calls Tryd.prog 56 #[.slice A xs.length c, .slice B ys.length d] w fun e w' => e = .returned (.bool (decide (xs = ys))) ∧ Ex w w' := by
  have hl := h.len
  have hl' := h'.len
  by_cases hn : xs.length = ys.length
  case neg =>
    have hb : ((xs.length : Int) != (ys.length : Int)) = true := by simp; omega
    have he : decide (xs = ys) = false := by simp; intro e; exact hn (by rw [e])
    have He := Lib.hid he
    clear he
    go_enter Tryd.func56, Tryd.ntmps56
    go_wp2
    go_ret
    exact ⟨by rw [He.out]; rfl, Ex.refl w⟩
  have hb : ((xs.length : Int) != (ys.length : Int)) = false := by simp; omega
  have hn2 : ys.length ≤ xs.length := by omega
  have hn3 : xs.length ≤ ys.length := by omega
  have Hn := Lib.hid hn
  clear hn
  go_enter Tryd.func56, Tryd.ntmps56
  go_wp2
  go_loopw [13] (fun i wr => ∃ k : Nat, k ≤ xs.length ∧ i = .int .i64 k ∧ Hid (xs.take k = ys.take k) ∧ ∃ n, wr = w.drewN n) (fun i _ => xs.length - (intOf i).toNat)
  case atStart => exact ⟨0, Nat.zero_le _, rfl, rfl, 0, rfl⟩
  case round =>
    obtain ⟨k, hk, rfl, He, n, rfl⟩ := hrel
    by_cases hlt : k < xs.length
    · have hlt2 : k < ys.length := by omega
      obtain ⟨g, off, x, rfl, hx, hg, hc⟩ := h.at_ hlt
      obtain ⟨g', off', y, rfl, hy, hg', hc'⟩ := h'.at_ hlt2
      have Hx := Lib.hid hx
      have Hy := Lib.hid hy
      clear hx hy
      by_cases hxy : x = y
      · subst hxy
        go_wp2
        go_quiet (fail)
        go_wp2
        go_roundw
        case rel => exact ⟨k + 1, by omega, by go_num, by
          show _ = _
          rw [List.take_add_one, List.take_add_one, Hx.out, Hy.out, He.out], _, rfl⟩
        case measure => simp [intOf] <;> omega
      · have hbx : (x != y) = true := by simpa using hxy
        have he : decide (xs = ys) = false := by
          simp; rintro rfl
          have := Hx.out; rw [Hy.out] at this; injection this with this; exact hxy this.symm
        have He2 := Lib.hid he
        clear he hxy
        go_wp2
        go_quiet (fail)
        go_wp2
        go_ret
        exact ⟨by rw [He2.out]; rfl, ((Ex.refl w).drewN _).drewN _⟩
    · obtain rfl : k = xs.length := by omega
      have he : decide (xs = ys) = true := by
        have := He.out
        rw [List.take_length, List.take_of_length_le (by omega)] at this
        simpa using this
      have He2 := Lib.hid he
      clear he
      go_wp2
      go_ret
      exact ⟨by rw [He2.out]; rfl, (Ex.refl w).drewN _⟩
/-- lowest: a fresh fraction. -/
def FF (w : World) (num den : List Int) (e : Ending) (w' : World) : Prop :=
  ∃ A c B d, e = .returned (.agg #[.slice A num.length c, .slice B den.length d]) ∧ Fr w' w.heap.size A c num ∧ Fr w' w.heap.size B d den ∧ Apart A B ∧ Ex w w'
set_option maxHeartbeats 1000000 in
set_option maxRecDepth 100000 in
set_option maxHeartbeats 1000000 in
set_option maxRecDepth 100000 in
theorem lowest_c (p : Int) (A B : Option Addr) (c d : Nat) (num den : List Int) (w : World) (hn : Rd w A num) (hd : Rd w B den) (hF : fieldB p = true) (hne : allEl p num = true) (hde : allEl p den = true) (tn : Tr num) (td : Tr den) (hd0 : den ≠ []) :
    Calls Tryd.prog 45 #[.int .i64 p, .slice A num.length c, .slice B den.length d] w fun e w' => FF w (lowN p num den) (lowD p num den) e w' := by
  have hl := hn.len
  have hl' := hd.len
  by_cases hn0 : num = []
  · subst hn0
    have H1 := Lib.hid (show lowN p [] den = [] by rw [lowN, if_pos rfl])
    have H2 := Lib.hid (show lowD p [] den = [1] by rw [lowD, if_pos rfl])
    clear hF hne hde hd0
    go_enter Tryd.func45, Tryd.ntmps45
    go_wp2
    refine bodyPost_ret (v := .agg #[.slice (some ⟨w.heap.size + 1, 0, none⟩) 0 0, .slice (some ⟨w.heap.size + 1 + 1, 0, none⟩) 1 1]) (by simp [results, Tryd.results45, go_sem]) rfl ?_
    rw [H1.out, H2.out]
    generalize hW : w.alloc (Obj.cells #[.slice (some ⟨w.heap.size + 1, 0, none⟩) 0 0, .slice (some ⟨w.heap.size + 1 + 1, 0, none⟩) 1 1] 32) = w1
    have s1 : w1.heap.size = w.heap.size + 1 := by rw [← hW]; simp
    have x1 : Ex w w1 := by rw [← hW]; exact (Ex.refl w).alloc _
    have o1 : Own (w1.alloc (iObj [])) w1.heap.size [] := Own.new w1 []
    have x2 : Ex w1 (w1.alloc (iObj [])) := (Ex.refl w1).alloc _
    have s2 : (w1.alloc (iObj [])).heap.size = w1.heap.size + 1 := by simp
    have o2 : Own ((w1.alloc (iObj [])).alloc (iObj [1])) (w1.alloc (iObj [])).heap.size [1] := Own.new _ [1]
    have x3 : Ex (w1.alloc (iObj [])) ((w1.alloc (iObj [])).alloc (iObj [1])) := (Ex.refl _).alloc _
    rw [s2] at o2
    have o1' := o1.ex x3
    rw [s1] at o1' o2
    exact ⟨_, 0, _, 1, rfl, o1'.fr (by simp) (by omega) (Nat.le_refl _), o2.fr (by simp) (by omega) (Nat.le_refl _), apart_ne (by omega), (x1.trans x2).trans x3⟩
  · have h2 := fieldB_lo hF
    have h97 := fieldB_hi hF
    have hnl := List.length_pos_iff.2 hn0
    have hnb : ((num.length : Int) == 0) = false := by simp; omega
    obtain ⟨hml, hg1, hgd⟩ := lowM_len hF hne hde tn td hd0
    have Hg := Lib.hid (gcdM_ne hF hne hde tn td (.inr hd0))
    have Hge := Lib.hid (gcdM_el (p := p) (by omega) num den)
    have HM := Lib.hid (show pDivQ p den (gcdM p num den) = lowM p num den from rfl)
    have hme : allEl p (lowM p num den) = true := pDivQ_el (by omega) hde _
    obtain ⟨ml, hml1⟩ : ∃ ml : Nat, (lowM p num den).length = ml + 1 := ⟨den.length - (gcdM p num den).length, hml⟩
    have HB := Lib.hid (show lowBy p num den = invM p (cf (lowM p num den) ((lowM p num den).length - 1)) from rfl)
    have HN := Lib.hid (show lowN p num den = pScale p (lowBy p num den) (pDivQ p num (gcdM p num den)) by rw [lowN, if_neg hn0])
    have HD := Lib.hid (show lowD p num den = pScale p (lowBy p num den) (lowM p num den) by rw [lowD, if_neg hn0])
    have Hqe := Lib.hid (pDivQ_el (p := p) (by omega) hne (gcdM p num den))
    have Hme := Lib.hid hme
    have Hne := Lib.hid hne
    have Hde := Lib.hid hde
    have HF := Lib.hid hF
    have Hd0 := Lib.hid hd0
    have Hml1 := Lib.hid hml1
    clear hne hde hF hd0 hn0 hml hml1 hme
    go_enter Tryd.func45, Tryd.ntmps45
    go_wp2_with fail
    generalize hW : w.alloc (Obj.cells _ 32) = w1
    have hb1 : w1.heap[w.heap.size]? = some (.cells #[.slice none 0 0, .slice none 0 0] 32 (0, 0)) := by rw [← hW]; exact heap_alloc_new w _
    have s1 : w1.heap.size = w.heap.size + 1 := by rw [← hW]; simp
    have x1 : Ex w w1 := by rw [← hW]; exact (Ex.refl w).alloc _
    clear hW
    refine (polyGcd_c p A B c d num den w1 (hn.ex x1) (hd.ex x1) HF.out Hne.out Hde.out tn td (.inr Hd0.out)).mono ?_
    rintro e w2 ⟨A2, c2, rfl, f2, x2⟩
    have xw2 := x1.trans x2
    go_wp2_with fail
    refine (polyDivide_c p A A2 c c2 num _ w2 (hn.ex xw2) f2.rd h2 h97 Hne.out Hge.out Hg.out).mono ?_
    rintro e w3 ⟨A3, c3, A3', c3', rfl, f3, _, _, x3⟩
    have xw3 := xw2.trans x3
    go_wp2_with fail
    refine (polyDivide_c p B A2 d c2 den _ w3 (hd.ex xw3) (f2.rd.ex x3) h2 h97 Hde.out Hge.out Hg.out).mono ?_
    rintro e w4 ⟨A4, c4, A4', c4', rfl, f4, _, _, x4⟩
    rw [HM.out] at f4 ⊢
    have xw4 := xw3.trans x4
    obtain ⟨gA, goff, x, rfl, hx, hgA, hcell⟩ := f4.rd.at_ (by rw [Hml1.out]; omega : ml < (lowM p num den).length)
    have hxb := allEl_at Hme.out hx
    have Hcx := Lib.hid (show cf (lowM p num den) ((lowM p num den).length - 1) = x by rw [Hml1.out]; exact cf_of hx)
    have hmi : ((lowM p num den).length : Int) - 1 = (ml : Int) := by have := Hml1.out; omega
    have hm2 : ml < (lowM p num den).length := by have := Hml1.out; omega
    have hm3 := f4.rd.len
    clear hx
    go_wp2_with fail
    refine (inverse_c p x w4 h2 h97 hxb).mono ?_
    rintro e w5 ⟨rfl, rfl⟩
    have hib := invM_bd x h2 (p := p)
    rw [← Hcx.out, ← HB.out] at hib ⊢
    clear hcell hmi
    go_wp2_with fail
    refine (scaled_c p A3 c3 _ _ w4 (f3.rd.ex x4) h2 h97 Hqe.out (by omega)).mono ?_
    rintro e w6 ⟨A6, c6, rfl, f6, x6⟩
    rw [← HN.out] at f6 ⊢
    go_wp2_with fail
    refine (scaled_c p _ c4 _ _ w6 (f4.rd.ex x6) h2 h97 Hme.out (by omega)).mono ?_
    rintro e w7 ⟨A7, c7, rfl, f7, x7⟩
    rw [← HD.out] at f7 ⊢
    have x27 := ((x2.trans x3).trans x4).trans (x6.trans x7)
    have hb7 : w7.heap[w.heap.size]? = some (.cells #[.slice none 0 0, .slice none 0 0] 32 (0, 0)) := (x27.block (by omega)).trans hb1
    have hc70 : w7.cell? ⟨w.heap.size, 0, none⟩ = some (.slice none 0 0) := by simp [World.cell?, hb7]
    have hc71 : w7.cell? ⟨w.heap.size, 1, none⟩ = some (.slice none 0 0) := by simp [World.cell?, hb7]
    have hf70 : w7.frozen? ⟨w.heap.size, 0, none⟩ = false := by simp [World.frozen?, hb7]
    have hf71 : w7.frozen? ⟨w.heap.size, 1, none⟩ = false := by simp [World.frozen?, hb7]
    have S1 := Lib.hid s1
    clear hb7 hb1 s1
    go_wp2_with fail
    have y1 : Ex1 w.heap.size w7 (w7.setCell ⟨w.heap.size, 0, none⟩ (.slice A6 (lowN p num den).length c6)) := (Ex1.refl _ _).setCell rfl _
    have y2 := y1.setCell (p := ⟨w.heap.size, 1, none⟩) rfl (.slice A7 (lowD p num den).length c7)
    have d0 : ((w7.setCell ⟨w.heap.size, 0, none⟩ (.slice A6 (lowN p num den).length c6)).setCell ⟨w.heap.size, 1, none⟩ (.slice A7 (lowD p num den).length c7)).cell? ⟨w.heap.size, 0, none⟩ = some (.slice A6 (lowN p num den).length c6) := by
      rw [World.cell?_setCell_other _ _ _ _ (by intro e; injection e with _ e; cases e)]
      exact World.cell?_setCell_same _ _ _ hc70
    have d1 : ((w7.setCell ⟨w.heap.size, 0, none⟩ (.slice A6 (lowN p num den).length c6)).setCell ⟨w.heap.size, 1, none⟩ (.slice A7 (lowD p num den).length c7)).cell? ⟨w.heap.size, 1, none⟩ = some (.slice A7 (lowD p num den).length c7) := by
      refine World.cell?_setCell_same _ _ _ (u := .slice none 0 0) ?_
      rw [World.cell?_setCell_other _ _ _ _ (by intro e; injection e with _ e; cases e)]
      exact hc71
    generalize (w7.setCell ⟨w.heap.size, 0, none⟩ (.slice A6 (lowN p num den).length c6)).setCell ⟨w.heap.size, 1, none⟩ (.slice A7 (lowD p num den).length c7) = w8 at *
    refine bodyPost_ret (v := .agg #[.slice A6 (lowN p num den).length c6, .slice A7 (lowD p num den).length c7]) (by simp [results, Tryd.results45, go_sem, d0, d1]) rfl ?_
    have z1 := S1.out
    have z2 := x2.size
    have z3 := x3.size
    have z4 := x4.size
    have z6 := x6.size
    have z7 := x7.size
    have g6 := (f6.ex x7).ex1 y2 (f6.hi.off (by omega))
    have g7 := f7.ex1 y2 (f7.hi.off (by omega))
    exact ⟨A6, c6, A7, c7, rfl, g6.more (by omega), g7.more (by omega), Apart.of_lo f6.lo f7.hi, ((xw4.trans x6).trans x7).ex1 y2 (Nat.le_refl _)⟩
end Go.Proofs.YtofppmieipiidaaDoor
namespace Go.Proofs.YtofppmieipiidaaDoor
set_option maxRecDepth 100000
open Go Go.RowKit
theorem box2 (w : World) (a b : Value) (t : TypeId) : (w.alloc (.cells #[a, b] t)).cell? ⟨w.heap.size, 0, none⟩ = some a ∧ (w.alloc (.cells #[a, b] t)).cell? ⟨w.heap.size, 1, none⟩ = some b := by
  constructor <;> (rw [World.cell?_alloc_at _ _ _ _ rfl]; rfl)
theorem box2a (w : World) (a b : Value) (t : TypeId) (o : Obj) : ((w.alloc (.cells #[a, b] t)).alloc o).cell? ⟨w.heap.size, 0, none⟩ = some a ∧ ((w.alloc (.cells #[a, b] t)).alloc o).cell? ⟨w.heap.size, 1, none⟩ = some b := by
  have h := box2 w a b t
  constructor
  · rw [World.cell?_alloc_past _ _ _ (by simp)]; exact h.1
  · rw [World.cell?_alloc_past _ _ _ (by simp)]; exact h.2
theorem box2b (w : World) (a b : Value) (t : TypeId) (o : Obj) : ((w.alloc o).alloc (.cells #[a, b] t)).cell? ⟨w.heap.size + 1, 0, none⟩ = some a ∧ ((w.alloc o).alloc (.cells #[a, b] t)).cell? ⟨w.heap.size + 1, 1, none⟩ = some b := by
  constructor <;> (rw [World.cell?_alloc_at _ _ _ _ (by simp)]; rfl)
set_option maxHeartbeats 1000000 in
theorem equalFractions_c (A B A' B' : Option Addr) (c d c' d' : Nat) (n m n' m' : List Int) (w : World) (h1 : Rd w A n) (h2 : Rd w B m) (h3 : Rd w A' n') (h4 : Rd w B' m') :
    Calls Tryd.prog 44 #[.agg #[.slice A n.length c, .slice B m.length d], .agg #[.slice A' n'.length c', .slice B' m'.length d']] w fun e w' => e = .returned (.bool (decide (n = n') && decide (m = m'))) ∧ Ex w w' := by
  have x0 : ∀ (a b : Obj), Ex w ((w.alloc a).alloc b) := fun a b => ((Ex.refl w).alloc a).alloc b
  by_cases hn : n = n'
  · have hd : decide (n = n') = true := by simpa using hn
    have Hd := Lib.hid hd
    clear hn
    go_enter Tryd.func44, Tryd.ntmps44
    go_wp2_with fail
    refine (slicesEqual_c A A' c c' n n' _ (h1.ex (x0 _ _)) (h3.ex (x0 _ _))).mono ?_
    rintro e w1 ⟨rfl, x1⟩
    have c0 := cell_ex x1 (g := w.heap.size) (o := 1) (v := .slice B m.length d) (box2a _ _ _ _ _).2
    have c1 := cell_ex x1 (g := w.heap.size + 1) (o := 1) (v := .slice B' m'.length d') (box2b _ _ _ _ _).2
    have xx := (x0 _ _).trans x1
    clear x0 x1
    rw [hd]
    clear hd
    go_wp2_with fail
    refine (slicesEqual_c B B' d d' m m' _ (h2.ex xx) (h4.ex xx)).mono ?_
    rintro e w2 ⟨rfl, x2⟩
    go_wp2
    go_ret
    exact ⟨by rw [Hd.out]; rfl, xx.trans x2⟩
  · have hd : decide (n = n') = false := by simpa using hn
    have Hd := Lib.hid hd
    clear hn
    go_enter Tryd.func44, Tryd.ntmps44
    go_wp2_with fail
    refine (slicesEqual_c A A' c c' n n' _ (h1.ex (x0 _ _)) (h3.ex (x0 _ _))).mono ?_
    rintro e w1 ⟨rfl, x1⟩
    have xx := (x0 _ _).trans x1
    clear x0 x1
    rw [hd]
    clear hd
    go_wp2
    go_ret
    exact ⟨by rw [Hd.out]; rfl, xx⟩
theorem arePolys2_c (p : Int) (g : Nat) (A B : Option Addr) (c d : Nat) (f h : List Int) (w : World) (h0 : w.cell? ⟨g, 0, none⟩ = some (.slice A f.length c)) (h1 : w.cell? ⟨g, 1, none⟩ = some (.slice B h.length d)) (r1 : Rd w A f) (r2 : Rd w B h) (ht : Tb w) :
    Calls Tryd.prog 16 #[.int .i64 p, .slice (some ⟨g, 0, none⟩) 2 2] w fun e w' => e = .returned (.bool (polyB p f && polyB p h)) ∧ w = w' := by
  have hpa : ([f, h].all (polyB p) && fieldB p) = (polyB p f && polyB p h) := by
    simp only [List.all_cons, List.all_nil, Bool.and_true]
    cases h1 : polyB p f
    · rfl
    · rw [(polyB_parts h1).1, Bool.and_true]
  have := arePolys_c p (some ⟨g, 0, none⟩) 2 [.slice A f.length c, .slice B h.length d] [f, h] w ⟨by simp, fun j v hj => by
      match j with
      | 0 => injection hj with hj; subst hj; exact ⟨g, 0, rfl, h0⟩
      | 1 => injection hj with hj; subst hj; exact ⟨g, 0, rfl, h1⟩
      | j + 2 => cases hj⟩ (fun j v hj => by
      match j with
      | 0 => injection hj with hj; subst hj; exact ⟨f, rfl, A, c, rfl, r1⟩
      | 1 => injection hj with hj; subst hj; exact ⟨h, rfl, B, d, rfl, r2⟩
      | j + 2 => cases hj) rfl ht
  rw [hpa] at this
  exact this
set_option maxHeartbeats 1000000 in
theorem isFraction_c (p : Int) (A B : Option Addr) (c d : Nat) (num den : List Int) (w : World) (hn : Rd w A num) (hd : Rd w B den) (ht : Tb w) :
    Calls Tryd.prog 32 #[.int .i64 p, .agg #[.slice A num.length c, .slice B den.length d]] w fun e w' => e = .returned (.bool (fracB p num den)) ∧ Ex w w' := by
  have hl1 := hn.len
  have hl2 := hd.len
  have x0 : ∀ (a b : Obj), Ex w ((w.alloc a).alloc b) := fun a b => ((Ex.refl w).alloc a).alloc b
  cases hpp : (polyB p num && polyB p den) with
  | false =>
    have H := Lib.hid (show fracB p num den = false by simp [fracB, hpp])
    have Hp := Lib.hid hpp
    clear hpp
    go_enter Tryd.func32, Tryd.ntmps32
    go_wp2_with fail
    refine (arePolys2_c p _ A B c d num den _ (box2b _ _ _ _ _).1 (box2b _ _ _ _ _).2 (hn.ex (x0 _ _)) (hd.ex (x0 _ _)) (ht.ex (x0 _ _))).mono ?_
    rintro e w1 ⟨rfl, rfl⟩
    rw [Hp.out]
    go_wp2
    go_ret
    exact ⟨by rw [H.out]; rfl, x0 _ _⟩
  | true =>
    have Hp := Lib.hid hpp
    have hpp' : polyB p num = true ∧ polyB p den = true := by simpa using hpp
    obtain ⟨hF, _, hne, tn⟩ := polyB_parts hpp'.1
    obtain ⟨_, _, hde, td⟩ := polyB_parts hpp'.2
    have HF := Lib.hid hF
    have Hne := Lib.hid hne
    have Hde := Lib.hid hde
    have Hpp := Lib.hid hpp'
    clear hpp hpp' hF hne hde
    by_cases hn21 : num.length ≤ 21
    case neg =>
      have H := Lib.hid (show fracB p num den = false by simp [fracB, hn21])
      go_enter Tryd.func32, Tryd.ntmps32
      go_wp2_with fail
      refine (arePolys2_c p _ A B c d num den _ (box2b _ _ _ _ _).1 (box2b _ _ _ _ _).2 (hn.ex (x0 _ _)) (hd.ex (x0 _ _)) (ht.ex (x0 _ _))).mono ?_
      rintro e w1 ⟨rfl, rfl⟩
      rw [Hp.out]
      go_wp2_with (go_at_call 43; refine (degree_c _ _ _ _ (by omega)).mono ?_; rintro e w' ⟨rfl, rfl⟩)
      go_ret
      exact ⟨by rw [H.out]; rfl, x0 _ _⟩
    by_cases hd21 : den.length ≤ 21
    case neg =>
      have H := Lib.hid (show fracB p num den = false by simp [fracB, hd21])
      go_enter Tryd.func32, Tryd.ntmps32
      go_wp2_with fail
      refine (arePolys2_c p _ A B c d num den _ (box2b _ _ _ _ _).1 (box2b _ _ _ _ _).2 (hn.ex (x0 _ _)) (hd.ex (x0 _ _)) (ht.ex (x0 _ _))).mono ?_
      rintro e w1 ⟨rfl, rfl⟩
      rw [Hp.out]
      go_wp2_with (go_at_call 43; refine (degree_c _ _ _ _ (by omega)).mono ?_; rintro e w' ⟨rfl, rfl⟩)
      go_ret
      exact ⟨by rw [H.out]; rfl, x0 _ _⟩
    by_cases hd0 : den = []
    · have H := Lib.hid (show fracB p num den = false by simp [fracB, hd0])
      subst hd0
      go_enter Tryd.func32, Tryd.ntmps32
      go_wp2_with fail
      refine (arePolys2_c p _ A B c d num [] _ (box2b _ _ _ _ _).1 (box2b _ _ _ _ _).2 (hn.ex (x0 _ _)) (hd.ex (x0 _ _)) (ht.ex (x0 _ _))).mono ?_
      rintro e w1 ⟨rfl, rfl⟩
      rw [Hp.out]
      go_wp2_with (go_at_call 43; refine (degree_c _ _ _ _ (by omega)).mono ?_; rintro e w' ⟨rfl, rfl⟩)
      go_ret
      exact ⟨by rw [H.out]; rfl, x0 _ _⟩
    · have hdl := List.length_pos_iff.2 hd0
      have hdb : ((den.length : Int) == 0) = false := by simp; omega
      have hs := low_self HF.out Hne.out Hde.out tn td hd0
      have H := Lib.hid (show fracB p num den = (decide (lowN p num den = num) && decide (lowD p num den = den)) by
        have := Hpp.out
        rw [Bool.eq_iff_iff]
        simp only [fracB, this.1, this.2, hn21, hd21, Bool.and_eq_true, decide_eq_true_eq, hs]
        simp [hd0])
      have Hd0 := Lib.hid hd0
      clear hs hd0
      go_enter Tryd.func32, Tryd.ntmps32
      go_wp2_with fail
      refine (arePolys2_c p _ A B c d num den _ (box2b _ _ _ _ _).1 (box2b _ _ _ _ _).2 (hn.ex (x0 _ _)) (hd.ex (x0 _ _)) (ht.ex (x0 _ _))).mono ?_
      rintro e w1 ⟨rfl, rfl⟩
      rw [Hp.out]
      go_wp2_with (go_at_call 43; refine (degree_c _ _ _ _ (by omega)).mono ?_; rintro e w' ⟨rfl, rfl⟩)
      have xx := x0 (Obj.cells #[.slice A num.length c, .slice B den.length d] 32) (Obj.cells #[.slice A num.length c, .slice B den.length d] 22)
      have cc := box2a w (.slice A num.length c) (.slice B den.length d) 32 (Obj.cells #[.slice A num.length c, .slice B den.length d] 22)
      obtain ⟨cc0, cc1⟩ := cc
      generalize (w.alloc (Obj.cells #[.slice A num.length c, .slice B den.length d] 32)).alloc (Obj.cells #[.slice A num.length c, .slice B den.length d] 22) = W at *
      have hnW := hn.ex xx
      have hdW := hd.ex xx
      go_region_with (first
        | (go_at_call 45
           refine (lowest_c p A B c d num den W.drew hnW hdW HF.out Hne.out Hde.out tn td Hd0.out).mono ?_
           rintro e w2 ⟨A2, c2, B2, d2, rfl, f2, g2, _, x2⟩
           have e0 := cell_ex x2 (g := w.heap.size) (o := 0) (v := .slice A num.length c) cc0
           have e1 := cell_ex x2 (g := w.heap.size) (o := 1) (v := .slice B den.length d) cc1)
        | (go_at_call 44
           refine (equalFractions_c A2 B2 A B c2 d2 c d _ _ num den _ f2.rd g2.rd (hnW.drew.ex x2) (hdW.drew.ex x2)).mono ?_
           rintro e w3 ⟨rfl, x3⟩))
      all_goals go_wp2
      all_goals go_ret
      all_goals exact ⟨by rw [H.out]; rfl, (xx.drew.trans x2).trans x3⟩
end Go.Proofs.YtofppmieipiidaaDoor
namespace Go.Proofs.YtofppmieipiidaaDoor
set_option maxRecDepth 100000
open Go Go.RowKit
set_option maxHeartbeats 400000 in
theorem frSize_c (A : Option Addr) (c n : Nat) (w : World) (hn : n ≤ 1099511627776) : Calls Tryd.prog 30 #[.slice A n c] w fun e w' => e = .returned (.bool (decide (n ≤ 21))) ∧ w = w' := by
  go_enter Tryd.func30, Tryd.ntmps30
  go_wp2
  go_ret
  exact ⟨ret_bool (by simp; omega), rfl⟩
set_option maxHeartbeats 2000000 in
theorem frGood_c (p : Int) (A B : Option Addr) (c d : Nat) (num den : List Int) (w : World) (hn : Rd w A num) (hd : Rd w B den) :
    Calls Tryd.prog 19 #[.int .i64 p, .agg #[.slice A num.length c, .slice B den.length d]] w fun e w' => e = .returned (.bool (fracB p num den)) ∧ Ex w w' := by
  have hl1 := hn.len
  have hl2 := hd.len
  have x0 : ∀ (a : Obj), Ex w (w.alloc a) := fun a => (Ex.refl w).alloc a
  cases h1 : polyB p num with
  | false =>
    have H := Lib.hid (show fracB p num den = false by simp [fracB, h1])
    go_enter Tryd.func19, Tryd.ntmps19
    go_wp2_with (go_at_call 14; refine (poGood_c _ _ _ _ _ (hn.ex (x0 _))).mono ?_; rintro e w' ⟨rfl, rfl⟩)
    go_ret
    exact ⟨by rw [H.out]; rfl, x0 _⟩
  | true =>
  cases h2 : polyB p den with
  | false =>
    have H := Lib.hid (show fracB p num den = false by simp [fracB, h2])
    go_enter Tryd.func19, Tryd.ntmps19
    go_wp2_with fail
    refine (poGood_c _ _ _ _ _ (hn.ex (x0 _))).mono ?_
    rintro e w' ⟨rfl, rfl⟩
    go_wp2_with fail
    refine (poGood_c _ _ _ _ _ (hd.ex (x0 _))).mono ?_
    rintro e w' ⟨rfl, rfl⟩
    go_wp2
    go_ret
    exact ⟨by rw [H.out]; rfl, x0 _⟩
  | true =>
  by_cases h3 : num.length ≤ 21
  case neg =>
    have H := Lib.hid (show fracB p num den = false by simp [fracB, h3])
    have h3' : decide (num.length ≤ 21) = false := by simpa using h3
    go_enter Tryd.func19, Tryd.ntmps19
    go_wp2_with fail
    refine (poGood_c _ _ _ _ _ (hn.ex (x0 _))).mono ?_
    rintro e w' ⟨rfl, rfl⟩
    go_wp2_with fail
    refine (poGood_c _ _ _ _ _ (hd.ex (x0 _))).mono ?_
    rintro e w' ⟨rfl, rfl⟩
    go_wp2_with (go_at_call 30; refine (frSize_c _ _ _ _ (by omega)).mono ?_; rintro e w' ⟨rfl, rfl⟩)
    go_ret
    exact ⟨by rw [H.out]; rfl, x0 _⟩
  by_cases h4 : den.length ≤ 21
  case neg =>
    have H := Lib.hid (show fracB p num den = false by simp [fracB, h4])
    go_enter Tryd.func19, Tryd.ntmps19
    go_wp2_with fail
    refine (poGood_c _ _ _ _ _ (hn.ex (x0 _))).mono ?_
    rintro e w' ⟨rfl, rfl⟩
    go_wp2_with fail
    refine (poGood_c _ _ _ _ _ (hd.ex (x0 _))).mono ?_
    rintro e w' ⟨rfl, rfl⟩
    go_wp2_with (go_at_call 30; refine (frSize_c _ _ _ _ (by omega)).mono ?_; rintro e w' ⟨rfl, rfl⟩)
    go_ret
    exact ⟨by rw [H.out]; rfl, x0 _⟩
  by_cases h5 : den = []
  · have H := Lib.hid (show fracB p num den = false by simp [fracB, h5])
    subst h5
    go_enter Tryd.func19, Tryd.ntmps19
    go_wp2_with fail
    refine (poGood_c _ _ _ _ _ (hn.ex (x0 _))).mono ?_
    rintro e w' ⟨rfl, rfl⟩
    go_wp2_with fail
    refine (poGood_c _ _ _ [] _ (hd.ex (x0 _))).mono ?_
    rintro e w' ⟨rfl, rfl⟩
    go_wp2_with (go_at_call 30; refine (frSize_c _ _ _ _ (by omega)).mono ?_; rintro e w' ⟨rfl, rfl⟩)
    go_ret
    exact ⟨by rw [H.out]; rfl, x0 _⟩
  have hdl := List.length_pos_iff.2 h5
  have hdb : ((den.length : Int) == 0) = false := by simp; omega
  obtain ⟨gl, hgl⟩ : ∃ gl : Nat, den.length = gl + 1 := ⟨den.length - 1, by omega⟩
  obtain ⟨gA, goff, x, rfl, hx, hgA, hcell⟩ := hd.at_ (by omega : gl < den.length)
  have hcx : cf den (den.length - 1) = x := by rw [hgl]; exact cf_of hx
  have hgi : (den.length : Int) - 1 = (gl : Int) := by omega
  have hgl2 : gl < den.length := by omega
  have hc1 : ∀ o, (w.alloc o).cell? ⟨gA, goff + gl, none⟩ = some (.int .i64 x) := fun o => cell_ex (x0 o) hcell
  by_cases h6 : x = 1
  · subst h6
    obtain ⟨hF, _, hne, tn⟩ := polyB_parts h1
    obtain ⟨_, _, hde, td⟩ := polyB_parts h2
    have H := Lib.hid (show fracB p num den = decide ((gcdM p num den).length = 1) by simp [fracB, h1, h2, h3, h4, h5, hcx])
    have HF := Lib.hid hF
    have Hne := Lib.hid hne
    have Hde := Lib.hid hde
    have H5 := Lib.hid h5
    clear hgl hx hcx hcell hF hne hde h5
    go_enter Tryd.func19, Tryd.ntmps19
    go_wp2_with fail
    refine (poGood_c _ _ _ _ _ (hn.ex (x0 _))).mono ?_
    rintro e w' ⟨rfl, rfl⟩
    go_wp2_with fail
    refine (poGood_c _ _ _ _ _ (hd.ex (x0 _))).mono ?_
    rintro e w' ⟨rfl, rfl⟩
    go_wp2_with (go_at_call 30; refine (frSize_c _ _ _ _ (by omega)).mono ?_; rintro e w' ⟨rfl, rfl⟩)
    refine (poGcd_c p A _ c d num den _ (hn.ex (x0 _)) (hd.ex (x0 _)) HF.out Hne.out Hde.out tn td (.inr H5.out)).mono ?_
    rintro e w1 ⟨A1, c1, rfl, f1, x1⟩
    have xx := (x0 _).trans x1
    clear hc1 x0 h1 h2
    go_wp2_with fail
    go_ret
    exact ⟨by rw [H.out]; exact ret_bool (by rw [Bool.eq_iff_iff]; simp; omega), xx⟩
  · have H := Lib.hid (show fracB p num den = false by simp [fracB, hcx, h6])
    have hxb : (x != 1) = true := by simpa using h6
    clear hgl hx hcx hcell h5 h6
    go_enter Tryd.func19, Tryd.ntmps19
    go_wp2_with fail
    refine (poGood_c _ _ _ _ _ (hn.ex (x0 _))).mono ?_
    rintro e w' ⟨rfl, rfl⟩
    go_wp2_with fail
    refine (poGood_c _ _ _ _ _ (hd.ex (x0 _))).mono ?_
    rintro e w' ⟨rfl, rfl⟩
    go_wp2_with (go_at_call 30; refine (frSize_c _ _ _ _ (by omega)).mono ?_; rintro e w' ⟨rfl, rfl⟩)
    go_ret
    exact ⟨by rw [H.out]; rfl, x0 _⟩
end Go.Proofs.YtofppmieipiidaaDoor
