/- Contracts: fractions made, checked and handed back, on both sides. -/
import Derived.Test.YtmekhjnhcgmphaaDoorFrac4
import Derived.Test.YtmekhjnhcgmphaaDoorLow
import Derived.Test.YtmekhjnhcgmphaaDoorIv
import Derived.RegionCalls
import Derived.Deep.RegionWith
namespace Go.Proofs.YtmekhjnhcgmphaaDoor
set_option maxRecDepth 100000
open Go Go.RowKit
/-- A block of two cells, both stored. -/
theorem st2 {w : World} {g : Nat} {t : TypeId} {u v : Value} (h : VB w g t #[u, v]) (a b : Value) :
    VB ((w.setCell ⟨g, 0, none⟩ a).setCell ⟨g, 1, none⟩ b) g t #[a, b] ∧ Ex1 g w ((w.setCell ⟨g, 0, none⟩ a).setCell ⟨g, 1, none⟩ b) :=
  ⟨(h.set_ 0 a).set_ 1 b, ((Ex1.refl g w).setCell (p := ⟨g, 0, none⟩) rfl _).setCell (p := ⟨g, 1, none⟩) rfl _⟩
set_option maxHeartbeats 1000000 in
theorem validFraction_yes (p : Int) (A B : Option Addr) (c d : Nat) (num den : List Int) (w : World) (hn : Rd w A num) (hd : Rd w B den) (ht : Tb w) (h : fracB p num den = true) :
    Calls Tryd.prog 41 #[.int .i64 p, .agg #[.slice A num.length c, .slice B den.length d]] w fun e w' => e = .returned (.tuple #[.agg #[.slice A num.length c, .slice B den.length d], .bool true]) ∧ Ex w w' := by
  have x0 := (Ex.refl w).alloc (.cells #[.slice A num.length c, .slice B den.length d] 40)
  have v0 := VB.new w 40 #[.slice A num.length c, .slice B den.length d]
  have S0 := Lib.hid (show (w.alloc (.cells #[.slice A num.length c, .slice B den.length d] 40)).heap.size = w.heap.size + 1 by simp)
  go_enter Tryd.func41, Tryd.ntmps41
  go_wp2_with fail
  generalize w.alloc (.cells #[.slice A num.length c, .slice B den.length d] 40) = W at *
  have y1 := (Ex.refl W).alloc (.cells #[.slice none 0 0, .slice none 0 0] 40)
  have v1 := VB.new W 40 #[.slice none 0 0, .slice none 0 0]
  rw [S0.out] at v1
  have v0 := v0.ex y1
  have x0 := x0.trans y1
  generalize W.alloc (.cells #[.slice none 0 0, .slice none 0 0] 40) = W1 at *
  refine (isFraction_c p A B c d num den W1 (hn.ex x0) (hd.ex x0) (ht.ex x0)).mono ?_
  rintro e w1 ⟨rfl, x1⟩
  rw [h]
  have q0 := (v0.ex x1).cell 0 (v := .slice A num.length c) rfl
  have q1 := (v0.ex x1).cell 1 (v := .slice B den.length d) rfl
  have r0 := (v1.ex x1).cell 0 (v := .slice none 0 0) rfl
  have r1 := (v1.ex x1).cell 1 (v := .slice none 0 0) rfl
  have f0 := (v1.ex x1).frozen 0
  have f1 := (v1.ex x1).frozen 1
  go_wp2_with fail
  have z : Ex1 (w.heap.size + 1) w1 ((w1.setCell ⟨w.heap.size + 1, 0, none⟩ (.slice A num.length c)).setCell ⟨w.heap.size + 1, 1, none⟩ (.slice B den.length d)) := ((Ex1.refl _ w1).setCell (p := ⟨w.heap.size + 1, 0, none⟩) rfl _).setCell (p := ⟨w.heap.size + 1, 1, none⟩) rfl _
  have dd : VB ((w1.setCell ⟨w.heap.size + 1, 0, none⟩ (.slice A num.length c)).setCell ⟨w.heap.size + 1, 1, none⟩ (.slice B den.length d)) (w.heap.size + 1) 40 #[.slice A num.length c, .slice B den.length d] := ((v1.ex x1).set_ 0 _).set_ 1 _
  generalize (w1.setCell ⟨w.heap.size + 1, 0, none⟩ (.slice A num.length c)).setCell ⟨w.heap.size + 1, 1, none⟩ (.slice B den.length d) = W2 at *
  have d0 := dd.cell 0 (v := .slice A num.length c) rfl
  have d1 := dd.cell 1 (v := .slice B den.length d) rfl
  refine bodyPost_ret (v := .tuple #[.agg #[.slice A num.length c, .slice B den.length d], .bool true]) (by simp [results, Tryd.results41, go_sem, d0, d1]) rfl ?_
  exact ⟨rfl, (x0.trans x1).ex1 z (by omega)⟩
set_option maxHeartbeats 1000000 in
theorem validFraction_no (p : Int) (A B : Option Addr) (c d : Nat) (num den : List Int) (w : World) (hn : Rd w A num) (hd : Rd w B den) (ht : Tb w) (h : fracB p num den = false) :
    Calls Tryd.prog 41 #[.int .i64 p, .agg #[.slice A num.length c, .slice B den.length d]] w fun e w' => e = .returned (.tuple #[.agg #[.slice none 0 0, .slice none 0 0], .bool false]) ∧ Ex w w' := by
  have x0 := (Ex.refl w).alloc (.cells #[.slice A num.length c, .slice B den.length d] 40)
  have S0 := Lib.hid (show (w.alloc (.cells #[.slice A num.length c, .slice B den.length d] 40)).heap.size = w.heap.size + 1 by simp)
  go_enter Tryd.func41, Tryd.ntmps41
  go_wp2_with fail
  generalize w.alloc (.cells #[.slice A num.length c, .slice B den.length d] 40) = W at *
  have y1 := (Ex.refl W).alloc (.cells #[.slice none 0 0, .slice none 0 0] 40)
  have v1 := VB.new W 40 #[.slice none 0 0, .slice none 0 0]
  rw [S0.out] at v1
  have x0 := x0.trans y1
  generalize W.alloc (.cells #[.slice none 0 0, .slice none 0 0] 40) = W1 at *
  refine (isFraction_c p A B c d num den W1 (hn.ex x0) (hd.ex x0) (ht.ex x0)).mono ?_
  rintro e w1 ⟨rfl, x1⟩
  rw [h]
  have r0 := (v1.ex x1).cell 0 (v := .slice none 0 0) rfl
  have r1 := (v1.ex x1).cell 1 (v := .slice none 0 0) rfl
  have f0 := (v1.ex x1).frozen 0
  have f1 := (v1.ex x1).frozen 1
  go_wp2_with fail
  obtain ⟨dd, z⟩ := st2 (v1.ex x1) (.slice none 0 0) (.slice none 0 0)
  generalize (w1.setCell ⟨w.heap.size + 1, 0, none⟩ (.slice none 0 0)).setCell ⟨w.heap.size + 1, 1, none⟩ (.slice none 0 0) = W2 at *
  have d0 := dd.cell 0 (v := .slice none 0 0) rfl
  have d1 := dd.cell 1 (v := .slice none 0 0) rfl
  refine bodyPost_ret (v := .tuple #[.agg #[.slice none 0 0, .slice none 0 0], .bool false]) (by simp [results, Tryd.results41, go_sem, d0, d1]) rfl ?_
  exact ⟨rfl, (x0.trans x1).ex1 z (by omega)⟩
set_option maxHeartbeats 1000000 in
theorem frIf_yes (A B : Option Addr) (c d n m : Nat) (w : World) (hn : n ≤ 21) (hm : m ≤ 21) :
    Calls Tryd.prog 61 #[.agg #[.slice A n c, .slice B m d]] w fun e w' => e = .returned (.tuple #[.agg #[.slice A n c, .slice B m d], .bool true]) ∧ Ex w w' := by
  have x0 : ∀ a b, Ex w ((w.alloc a).alloc b) := fun a b => ((Ex.refl w).alloc a).alloc b
  have bb := box2b w (.slice A n c) (.slice B m d) 40 (.cells #[.slice A n c, .slice B m d] 40)
  go_enter Tryd.func61, Tryd.ntmps61
  go_wp2_with (go_at_call 85; refine (frSize_c _ _ _ _ (by omega)).mono ?_; rintro e w' ⟨rfl, rfl⟩)
  refine bodyPost_ret (v := .tuple #[.agg #[.slice A n c, .slice B m d], .bool true]) (by simp [results, Tryd.results61, go_sem, bb.1, bb.2]) rfl ?_
  exact ⟨rfl, x0 _ _⟩
set_option maxHeartbeats 1000000 in
theorem frIf_no (A B : Option Addr) (c d n m : Nat) (w : World) (h : ¬ (n ≤ 21 ∧ m ≤ 21)) (hn : n ≤ 1099511627776) (hm : m ≤ 1099511627776) :
    Calls Tryd.prog 61 #[.agg #[.slice A n c, .slice B m d]] w fun e w' => e = .returned (.tuple #[.agg #[.slice none 0 0, .slice none 0 0], .bool false]) ∧ Ex w w' := by
  have x0 : ∀ a b, Ex w ((w.alloc a).alloc b) := fun a b => ((Ex.refl w).alloc a).alloc b
  have bb := box2b w (.slice none 0 0) (.slice none 0 0) 40 (.cells #[.slice A n c, .slice B m d] 40)
  by_cases h1 : n ≤ 21
  · have h2 : ¬ m ≤ 21 := fun k => h ⟨h1, k⟩
    go_enter Tryd.func61, Tryd.ntmps61
    go_wp2_with (go_at_call 85; refine (frSize_c _ _ _ _ (by omega)).mono ?_; rintro e w' ⟨rfl, rfl⟩)
    refine bodyPost_ret (v := .tuple #[.agg #[.slice none 0 0, .slice none 0 0], .bool false]) (by simp [results, Tryd.results61, go_sem, bb.1, bb.2]) rfl ?_
    exact ⟨rfl, x0 _ _⟩
  · go_enter Tryd.func61, Tryd.ntmps61
    go_wp2_with (go_at_call 85; refine (frSize_c _ _ _ _ (by omega)).mono ?_; rintro e w' ⟨rfl, rfl⟩)
    refine bodyPost_ret (v := .tuple #[.agg #[.slice none 0 0, .slice none 0 0], .bool false]) (by simp [results, Tryd.results61, go_sem, bb.1, bb.2]) rfl ?_
    exact ⟨rfl, x0 _ _⟩
set_option maxHeartbeats 2000000 in
theorem frMake_c (p : Int) (A B : Option Addr) (c d : Nat) (num den : List Int) (w : World) (hn : Rd w A num) (hd : Rd w B den) (hF : fieldB p = true) (hne : allEl p num = true) (hde : allEl p den = true) (tn : Tr num) (td : Tr den) (hd0 : den ≠ []) :
    Calls Tryd.prog 62 #[.int .i64 p, .slice A num.length c, .slice B den.length d] w fun e w' => FF w (lowN p num den) (lowD p num den) e w' := by
  have hl := hn.len
  have hl' := hd.len
  have h2 := fieldB_lo hF
  have h97 := fieldB_hi hF
  obtain ⟨hml, hg1, hgd⟩ := lowM_len hF hne hde tn td hd0
  have hpl := low_plain hF hne hde tn td hd0
  have hg0 := gcdM_ne hF hne hde tn td (.inr hd0)
  have Hg := Lib.hid hg0
  have Hge := Lib.hid (gcdM_el (p := p) (by omega) num den)
  have Hgt := Lib.hid (gcdM_tr p num den)
  have HM := Lib.hid (show pDivQ p den (gcdM p num den) = lowM p num den from rfl)
  have hme : allEl p (lowM p num den) = true := pDivQ_el (by omega) hde _
  have hmt : Tr (lowM p num den) := pDivQ_tr _ _ _
  have hm0 : lowM p num den ≠ [] := by intro e; rw [e] at hml; simp at hml
  have hml0 := hmt.last hm0
  obtain ⟨ml, hml1⟩ : ∃ ml : Nat, (lowM p num den).length = ml + 1 := ⟨den.length - (gcdM p num den).length, hml⟩
  have HB := Lib.hid (show lowBy p num den = invM p (cf (lowM p num den) ((lowM p num den).length - 1)) from rfl)
  have HN := Lib.hid hpl.1
  have HD := Lib.hid hpl.2
  have Hqe := Lib.hid (pDivQ_el (p := p) (by omega) hne (gcdM p num den))
  have Hme := Lib.hid hme
  have Hne := Lib.hid hne
  have Hde := Lib.hid hde
  have HF := Lib.hid hF
  have Hd0 := Lib.hid hd0
  have Hml1 := Lib.hid hml1
  have Hml0 := Lib.hid hml0
  clear hne hde hF hd0 hml hml1 hme hpl hg0 hm0 hml0 hmt
  go_enter Tryd.func62, Tryd.ntmps62
  go_wp2_with fail
  have x1 := (Ex.refl w).alloc (.cells #[.slice none 0 0, .slice none 0 0] 40)
  have v1 := VB.new w 40 #[.slice none 0 0, .slice none 0 0]
  have S1 := Lib.hid (show (w.alloc (.cells #[.slice none 0 0, .slice none 0 0] 40)).heap.size = w.heap.size + 1 by simp)
  generalize w.alloc (.cells #[.slice none 0 0, .slice none 0 0] 40) = w1 at *
  refine (poGcd_c p A B c d num den w1 (hn.ex x1) (hd.ex x1) HF.out Hne.out Hde.out tn td (.inr Hd0.out)).mono ?_
  rintro e w2 ⟨A2, c2, rfl, f2, x2⟩
  have xw2 := x1.trans x2
  go_wp2_with fail
  refine (poDiv_c p A A2 c c2 num _ w2 (hn.ex xw2) f2.rd HF.out Hne.out Hge.out Hg.out tn Hgt.out).mono ?_
  rintro e w3 ⟨A3, c3, A3', c3', rfl, f3, _, _, x3⟩
  have xw3 := xw2.trans x3
  go_wp2_with fail
  refine (poDiv_c p B A2 d c2 den _ w3 (hd.ex xw3) (f2.rd.ex x3) HF.out Hde.out Hge.out Hg.out td Hgt.out).mono ?_
  rintro e w4 ⟨A4, c4, A4', c4', rfl, f4, _, _, x4⟩
  rw [HM.out] at f4 ⊢
  have xw4 := xw3.trans x4
  obtain ⟨gA, goff, x, rfl, hx, hgA, hcell⟩ := f4.rd.at_ (by rw [Hml1.out]; omega : ml < (lowM p num den).length)
  have hxb := allEl_at Hme.out hx
  have Hcx := Lib.hid (show cf (lowM p num den) ((lowM p num den).length - 1) = x by rw [Hml1.out]; exact cf_of hx)
  have hx0 : 0 < x := by have := Hml0.out; rw [Hcx.out] at this; omega
  have hmi : ((lowM p num den).length : Int) - 1 = (ml : Int) := by have := Hml1.out; omega
  have hm2 : ml < (lowM p num den).length := by have := Hml1.out; omega
  have hm3 := f4.rd.len
  clear hx
  go_wp2_with fail
  refine (fdInv_c p x w4 HF.out ⟨hx0, hxb.2⟩).mono ?_
  rintro e w5 ⟨rfl, rfl⟩
  have hib := invM_bd x h2 (p := p)
  rw [← Hcx.out, ← HB.out] at hib ⊢
  clear hcell hmi
  go_wp2_with fail
  refine (poTimes_c p A3 c3 _ _ w4 (f3.rd.ex x4) h2 h97 Hqe.out (by omega)).mono ?_
  rintro e w6 ⟨A6, c6, rfl, f6, x6⟩
  rw [HN.out] at f6 ⊢
  go_wp2_with fail
  refine (l1Own_c A6 c6 _ w6 f6.rd).mono ?_
  rintro e w7 ⟨g7, c7, rfl, hc7, hg7, o7, x7⟩
  go_wp2_with fail
  refine (poTimes_c p _ c4 _ _ w7 ((f4.rd.ex x6).ex x7) h2 h97 Hme.out (by omega)).mono ?_
  rintro e w8 ⟨A8, c8, rfl, f8, x8⟩
  rw [HD.out] at f8 ⊢
  go_wp2_with fail
  refine (l1Own_c A8 c8 _ w8 f8.rd).mono ?_
  rintro e w9 ⟨g9, c9, rfl, hc9, hg9, o9, x9⟩
  have x29 := (((x2.trans x3).trans x4).trans (x6.trans x7)).trans (x8.trans x9)
  have v9 := v1.ex x29
  have r0 := v9.cell 0 (v := .slice none 0 0) rfl
  have r1 := v9.cell 1 (v := .slice none 0 0) rfl
  have f0 := v9.frozen 0
  have f1 := v9.frozen 1
  go_wp2_with fail
  obtain ⟨dd, z⟩ := st2 v9 (.slice (some ⟨g7, 0, none⟩) (lowN p num den).length c7) (.slice (some ⟨g9, 0, none⟩) (lowD p num den).length c9)
  have i7 := (o7.ex x8).ex x9
  have s1 := S1.out
  have s2 := x2.size
  have s3 := x3.size
  have s4 := x4.size
  have s6 := x6.size
  have s7 := x7.size
  have s8 := x8.size
  have s9 := x9.size
  have j7 := i7.ex1 z (by omega)
  have j9 := o9.ex1 z (by omega)
  have l7 := o7.lt
  generalize (w9.setCell ⟨w.heap.size, 0, none⟩ (.slice (some ⟨g7, 0, none⟩) (lowN p num den).length c7)).setCell ⟨w.heap.size, 1, none⟩ (.slice (some ⟨g9, 0, none⟩) (lowD p num den).length c9) = W2 at *
  have d0 := dd.cell 0 (v := .slice (some ⟨g7, 0, none⟩) (lowN p num den).length c7) rfl
  have d1 := dd.cell 1 (v := .slice (some ⟨g9, 0, none⟩) (lowD p num den).length c9) rfl
  refine bodyPost_ret (v := .agg #[.slice (some ⟨g7, 0, none⟩) (lowN p num den).length c7, .slice (some ⟨g9, 0, none⟩) (lowD p num den).length c9]) (by simp [results, Tryd.results62, go_sem, d0, d1]) rfl ?_
  exact ⟨_, _, _, _, rfl, j7.fr f6.rd.len (by omega) hc7, j9.fr f8.rd.len (by omega) hc9, apart_ne (by omega), (x1.trans x29).ex1 z (Nat.le_refl _)⟩
/-- A fraction that is handed back if it is not too long. -/
def ifR (n d : List Int) : List Int × List Int × Bool := if n.length ≤ 21 ∧ d.length ≤ 21 then (n, d, true) else ([], [], false)
/-- A fresh fraction and a Bool. -/
def FRB (w : World) (r : List Int × List Int × Bool) (e : Ending) (w' : World) : Prop :=
  ∃ A c B d, e = .returned (.tuple #[.agg #[.slice A r.1.length c, .slice B r.2.1.length d], .bool r.2.2]) ∧ Fr w' w.heap.size A c r.1 ∧ Fr w' w.heap.size B d r.2.1 ∧ Apart A B ∧ Ex w w'
theorem FRB.nil_ {w w' : World} {r : List Int × List Int × Bool} {e : Ending} (he : e = .returned (.tuple #[.agg #[.slice none 0 0, .slice none 0 0], .bool false])) (hr : r = ([], [], false)) (hx : Ex w w') : FRB w r e w' := by
  subst hr
  exact ⟨none, 0, none, 0, he, Fr.nil _ _ _, Fr.nil _ _ _, (fun a a' e => by cases e), hx⟩
theorem FRB.yes_ {w w' : World} {r : List Int × List Int × Bool} {e : Ending} {n m : List Int} {A B : Option Addr} {c d : Nat} (he : e = .returned (.tuple #[.agg #[.slice A n.length c, .slice B m.length d], .bool true])) (hr : r = (n, m, true))
    (h1 : Fr w' w.heap.size A c n) (h2 : Fr w' w.heap.size B d m) (ha : Apart A B) (hx : Ex w w') : FRB w r e w' := by
  subst hr
  exact ⟨A, c, B, d, he, h1, h2, ha, hx⟩
theorem ifR_yes {n d : List Int} (h : n.length ≤ 21 ∧ d.length ≤ 21) : ifR n d = (n, d, true) := if_pos h
theorem ifR_no {n d : List Int} (h : ¬ (n.length ≤ 21 ∧ d.length ≤ 21)) : ifR n d = ([], [], false) := if_neg h
theorem low_ifR {p : Int} (hF : fieldB p = true) {num den : List Int} (hn : allEl p num = true) (hd : allEl p den = true) (tn : Tr num) (td : Tr den) (hd0 : den ≠ []) :
    ((lowN p num den).length ≤ 21 ∧ (lowD p num den).length ≤ 21) ↔ fracB p (lowN p num den) (lowD p num den) = true := by
  rw [low_frac hF hn hd tn td hd0]; simp
end Go.Proofs.YtmekhjnhcgmphaaDoor
