/- LiftRelation: the reference's side: constants, rows, the test of a relation. The reference's elimination: memory of the rows; a row divided; plain lemmas on the search. RatRelationFrom: the plain answer; the reference. Printed by a program of mine. The reduced list as owned rows. -/
import Derived.Test.YtmekhjnhcgmphaaDoorAp24
import Derived.Test.YtmekhjnhcgmphaaDoorAp18
import Derived.Deep.RegionHeld3
import Derived.Deep.RegionWith
import Derived.Test.YtmekhjnhcgmphaaDoorAp16
import Derived.Test.YtmekhjnhcgmphaaDoorAp14
import Derived.Test.YtmekhjnhcgmphaaDoorAp12
import Derived.Test.YtmekhjnhcgmphaaDoorAp17
import Derived.Test.YtmekhjnhcgmphaaDoorAp04
import Derived.Test.YtmekhjnhcgmphaaDoorAp09
import Derived.Test.YtmekhjnhcgmphaaDoorAp03
import Derived.StillTailTactics
import Derived.BigRegion
import Derived.RegionCalls
import Derived.Deep.Cut
import Derived.Deep.RegionLaw
import Derived.Shelf.Abstract
import Derived.Defers
import Derived.Recover
import Derived.Laws.Pointers
import Derived.Test.YtmekhjnhcgmphaaDoorAp11
import Derived.Test.YtmekhjnhcgmphaaDoorAp15
namespace Go.Proofs.YtmekhjnhcgmphaaDoor
set_option maxRecDepth 100000
open Go Go.RowKit
theorem trim_const (k : Int) : trim [k] = (cF k).n ∧ (cF k).d = [1] := by
  by_cases h : k = 0
  · subst h; exact ⟨rfl, rfl⟩
  · have e : cF k = ⟨[k], [1]⟩ := if_neg h
    rw [e]
    exact ⟨Tr.of_last (by simp) (by simpa [cf] using h), rfl⟩
set_option maxHeartbeats 2000000 in
theorem rrConst_c (k : Int) (w : World) : Calls Tryd.prog 78 #[.int .i64 k] w fun e w' => FFx w (cF k) e w' := by
  have x1 := (Ex.refl w).alloc (.cells #[.slice none 0 0, .slice none 0 0] 40)
  have v1 := VB.new w 40 #[.slice none 0 0, .slice none 0 0]
  have s1 : (w.alloc (.cells #[.slice none 0 0, .slice none 0 0] 40)).heap.size = w.heap.size + 1 := by simp
  go_enter Tryd.func78, Tryd.ntmps78
  go_wp2_with fail
  generalize w.alloc (.cells #[.slice none 0 0, .slice none 0 0] 40) = W1 at *
  have y1 := (Ex.refl W1).alloc (iObj [k])
  have o1 := Own.new W1 [k]
  have s2 : (W1.alloc (iObj [k])).heap.size = w.heap.size + 1 + 1 := by simp [s1]
  rw [s1] at o1
  change Calls _ _ _ (W1.alloc (iObj [k])) _
  generalize W1.alloc (iObj [k]) = W2 at *
  refine (poTrim_c (some ⟨w.heap.size + 1, 0, none⟩) 1 [k] W2 (o1.rd (by simp)) (by simp)).mono ?_
  rintro e w2 ⟨g, c, rfl, hc, hg, ho, x2⟩
  obtain ⟨e1, e2⟩ := trim_const k
  rw [e1] at hc ho ⊢
  have Hd := Lib.hid e2
  clear e1 e2 o1
  have z2 := x2.size
  have v2 := (v1.ex y1).ex x2
  have y3 := (Ex.refl w2).alloc (.cells #[.int .i64 1] 3)
  have o3 : Own (w2.alloc (.cells #[.int .i64 1] 3)) w2.heap.size [1] := Own.new w2 [1]
  have v3 := v2.ex y3
  have s3 : (w2.alloc (.cells #[.int .i64 1] 3)).heap.size = w2.heap.size + 1 := by simp
  have hglt := ho.lt
  have ho3 := ho.ex y3
  have r0 := v3.cell 0 (v := .slice none 0 0) rfl
  have r1 := v3.cell 1 (v := .slice none 0 0) rfl
  have k0 := v3.frozen 0
  have k1 := v3.frozen 1
  obtain ⟨dd, zz⟩ := v3.st2 (.slice (some ⟨g, 0, none⟩) (cF k).n.length c) (.slice (some ⟨w2.heap.size, 0, none⟩) 1 1)
  have C0 := dd.cell 0 (v := .slice (some ⟨g, 0, none⟩) (cF k).n.length c) rfl
  have C1 := dd.cell 1 (v := .slice (some ⟨w2.heap.size, 0, none⟩) 1 1) rfl
  have hnl : (cF k).n.length ≤ 1 := by unfold cF; split <;> simp [zF]
  have f4 := ho3.fr (B := w.heap.size + 1) (by omega) (by omega) hc
  have f4 := (f4.ex1 zz (f4.hi.off (by omega))).more (B' := w.heap.size) (by omega)
  have f5 := o3.fr (B := w.heap.size + 1) (c := 1) (by simp) (by omega) (by simp)
  have f5 := (f5.ex1 zz (f5.hi.off (by omega))).more (B' := w.heap.size) (by omega)
  have eF := (((x1.trans y1).trans x2).trans y3).ex1 zz (Nat.le_refl _)
  go_wp2_with fail
  refine bodyPost_ret (v := .agg #[.slice (some ⟨g, 0, none⟩) (cF k).n.length c, .slice (some ⟨w2.heap.size, 0, none⟩) 1 1]) (by simp [results, Tryd.results78, go_sem, C0, C1]) rfl ?_
  refine ⟨some ⟨g, 0, none⟩, c, some ⟨w2.heap.size, 0, none⟩, 1, ?_, f4, ?_, apart_ne (by omega), eF⟩
  · rw [Hd.out]; rfl
  · rw [Hd.out]; exact f5
set_option maxHeartbeats 2000000 in
theorem rrConsts_c (xs : List Int) (A : Option Addr) (c : Nat) (w : World) (h : Rd w A xs) :
    Calls Tryd.prog 49 #[.slice A xs.length c] w fun e w' => ∃ v, e = .returned v ∧ GE ELF 40 w' w.heap.size w'.heap.size v (xs.map cF) ∧ Ex w w' := by
  have hrl := h.len
  obtain ⟨L, hL⟩ : ∃ L, xs.length = L := ⟨_, rfl⟩
  have HL := Lib.hid hL
  rw [hL] at hrl ⊢
  clear hL
  have H := Lib.hid h
  go_enter Tryd.func49, Tryd.ntmps49
  go_wp2_with fail
  go_loopw [3, 8] (fun o i wr => ∃ j : Nat, j ≤ L ∧ i = .int .i64 j ∧ GE ELF 40 wr w.heap.size wr.heap.size o ((xs.take j).map cF) ∧ Ex w wr) (fun _ i _ => L - (intOf i).toNat)
  case atStart => exact ⟨0, Nat.zero_le _, rfl, GE.nil _ _ _ _ _, Ex.refl _⟩
  case round =>
    rename World => wj
    obtain ⟨j, hj, rfl, hgf, hij⟩ := hrel
    by_cases hlt2 : j < L
    · obtain ⟨g', off', y, eB, hy, hgl, hcell⟩ := (H.out.ex hij).at_ (by rw [HL.out]; exact hlt2)
      subst eB
      have HT2 := Lib.hid (show (xs.take (j + 1)).map cF = (xs.take j).map cF ++ [cF y] by rw [List.take_add_one, hy]; simp)
      have htl2 : ((xs.take j).map cF).length ≤ j := by simp; omega
      have hzj := hij.size
      clear hy
      go_wp2_with fail
      refine (rrConst_c y wj).mono ?_
      rintro e w3 ⟨A3, c3, B3, d3, rfl, f3, p3, ap3, x3⟩
      have hz3 := x3.size
      obtain ⟨v', w4, hrun, hge4, _, hnn4, hE4⟩ := push_frac (hgf.ex x3) hz3 (ofra_of_fr (x := cF y) f3 p3 ap3 hz3) (Nat.le_refl _) hz3 (Nat.le_refl _) hzj (by omega)
      rw [← HT2.out] at hge4
      have he4 := hE4 w (hij.trans x3) (Nat.le_refl _)
      clear hE4 HT2 hgf
      go_wp2_with (at_builtin; refine wpList_append_run rfl _ _ _ rfl rfl rfl hrun ?_)
      go_roundw
      case rel => exact ⟨j + 1, by omega, by go_num, hge4, he4⟩
      case measure => simp [intOf]; omega
    · obtain rfl : j = L := by omega
      rw [List.take_of_length_le (by rw [HL.out]; exact Nat.le_refl _)] at hgf
      go_wp2_with fail
      go_ret
      exact ⟨_, rfl, hgf, hij⟩
set_option maxHeartbeats 2000000 in
theorem spSame_c (a b : List (List Int)) (A B : Option Addr) (c d : Nat) (w : World) (h : RdM w A a) (h' : RdM w B b) :
    Calls Tryd.prog 75 #[.slice A a.length c, .slice B b.length d] w fun e w' => e = .returned (.bool (decide (a = b))) ∧ Ex w w' := by
  have hl := h.1
  have hl' := h'.1
  obtain ⟨n, hn⟩ : ∃ n, a.length = n := ⟨_, rfl⟩
  obtain ⟨m, hm⟩ : ∃ m, b.length = m := ⟨_, rfl⟩
  have HN := Lib.hid hn
  have HM := Lib.hid hm
  have H := Lib.hid h
  have H' := Lib.hid h'
  rw [hn] at hl ⊢
  rw [hm] at hl' ⊢
  clear hn hm
  by_cases e : n = m
  case neg =>
    have hb : ((n : Int) != (m : Int)) = true := by simp; omega
    have He := Lib.hid (show decide (a = b) = false by
      refine decide_eq_false fun e2 => e ?_
      have := HN.out; rw [e2, HM.out] at this; exact this.symm)
    clear e
    go_enter Tryd.func75, Tryd.ntmps75
    go_wp2_with fail
    go_ret
    exact ⟨ret_bool He.out.symm, Ex.refl w⟩
  subst e
  have hb : ((n : Int) != (n : Int)) = false := by simp
  go_enter Tryd.func75, Tryd.ntmps75
  go_wp2_with fail
  go_loopw [13] (fun i wr => ∃ k : Nat, k ≤ n ∧ i = .int .i64 k ∧ Hid (a.take k = b.take k) ∧ Ex w wr) (fun i _ => n - (intOf i).toNat)
  case atStart => exact ⟨0, Nat.zero_le _, rfl, Lib.hid rfl, Ex.refl _⟩
  case round =>
    rename World => wi
    obtain ⟨k, hk, rfl, He, xi⟩ := hrel
    by_cases hlt : k < n
    · obtain ⟨g1, off1, A1, c1, r1, e1, hr1, hc1, hd1⟩ := H.out.at_ (k := k) (by rw [HN.out]; exact hlt)
      obtain ⟨g2, off2, A2, c2, r2, e2, hr2, hc2, hd2⟩ := H'.out.at_ (k := k) (by rw [HM.out]; exact hlt)
      subst e1 e2
      have Hr1 := Lib.hid hr1
      have Hr2 := Lib.hid hr2
      have hc1 := cell_ex xi hc1
      have hc2 := cell_ex xi hc2
      have cS := fun W (hx : Ex wi W) => l1Same_c A1 A2 c1 c2 r1 r2 W (hd1.ex (xi.trans hx)) (hd2.ex (xi.trans hx))
      have hk0 : (0 : Int) ≤ (k : Int) := by omega
      have hkn : (k : Int) < (n : Int) := by omega
      clear hr1 hr2
      cases hb2 : decide (r1 = r2) with
      | true =>
        simp only [hb2] at cS
        have HT := Lib.hid (show a.take (k + 1) = b.take (k + 1) by rw [List.take_add_one, List.take_add_one, He.out, Hr1.out, Hr2.out, of_decide_eq_true hb2])
        clear hb2
        go_wp2_with fail
        go_region_held3 (fun W => W.cell? ⟨g1, off1 + k, none⟩ = some (.slice A1 r1.length c1) ∧ W.cell? ⟨g2, off2 + k, none⟩ = some (.slice A2 r2.length c2)) (first
          | (exact ⟨hc1, hc2⟩)
          | (exact ⟨cell_ex e3 hc1, cell_ex e3 hc2⟩)) (first
          | (go_at_call 99
             refine (cS wi.drew (Ex.refl wi).drew).mono ?_
             rintro e w3 ⟨rfl, x3⟩
             have e3 : Ex wi w3 := (Ex.refl wi).drew.trans x3))
        go_wp2_with fail
        go_roundw
        case rel => exact ⟨k + 1, by omega, by go_num, HT, xi.trans e3⟩
        case measure => simp [intOf]; omega
      | false =>
        simp only [hb2] at cS
        have HN2 := Lib.hid (show decide (a = b) = false by
          refine decide_eq_false fun e2 => (of_decide_eq_false hb2) ?_
          have e3 := Hr1.out
          rw [e2, Hr2.out] at e3
          injection e3 with e3
          exact e3.symm)
        clear hb2
        go_wp2_with fail
        go_region_held3 (fun W => W.cell? ⟨g1, off1 + k, none⟩ = some (.slice A1 r1.length c1) ∧ W.cell? ⟨g2, off2 + k, none⟩ = some (.slice A2 r2.length c2)) (first
          | (exact ⟨hc1, hc2⟩)
          | (exact ⟨cell_ex e3 hc1, cell_ex e3 hc2⟩)) (first
          | (go_at_call 99
             refine (cS wi.drew (Ex.refl wi).drew).mono ?_
             rintro e w3 ⟨rfl, x3⟩
             have e3 : Ex wi w3 := (Ex.refl wi).drew.trans x3))
        go_wp2_with fail
        go_ret
        exact ⟨ret_bool HN2.out.symm, xi.trans e3⟩
    · obtain rfl : k = n := by omega
      have HE := Lib.hid (show decide (a = b) = true by
        have e1 := He.out
        rw [List.take_of_length_le (by rw [HN.out]; exact Nat.le_refl _), List.take_of_length_le (by rw [HM.out]; exact Nat.le_refl _)] at e1
        exact decide_eq_true e1)
      go_wp2_with fail
      go_ret
      exact ⟨ret_bool HE.out.symm, xi⟩
end Go.Proofs.YtmekhjnhcgmphaaDoor
namespace Go.Proofs.YtmekhjnhcgmphaaDoor
set_option maxRecDepth 100000
open Go Go.RowKit
/-- What a valid relation's rows are. -/
theorem rrB_has {p : Int} {x : RRel} (h : rrB p x = true) : ∃ l r : Nat, x.l = (l : Int) ∧ x.r = (r : Int) ∧ l + r ≤ 12 ∧ GdM p 21 x.b ∧ Wid (l + r) x.b ∧ (∀ v ∈ x.b, leadF v < l + r) ∧ x.b.length ≤ 12 ∧ fieldB p = true := by
  obtain ⟨h1, h2, h3, h4⟩ := rrB_iff.1 h
  have h5 := fit_lt h2
  have h6 := rrp_len h1 (gd_fv (okRows_gd h3)) h4
  obtain ⟨l, hl⟩ : ∃ l : Nat, x.l = (l : Int) := ⟨x.l.toNat, by omega⟩
  obtain ⟨r, hr⟩ : ∃ r : Nat, x.r = (r : Int) := ⟨x.r.toNat, by omega⟩
  have e : (x.l + x.r).toNat = l + r := by omega
  rw [e] at h3 h4 h6
  exact ⟨l, r, hl, hr, by omega, okRows_gd h3, okRows_wid h3, fun v hv => (h4.one v hv).1, by omega, h1⟩
theorem RdS.tkk {α : Type} {E : EK α} {w : World} {A : Option Addr} {xs : List α} (h : RdS E w A xs) (k : Nat) : RdS E w A (xs.take k) := by
  obtain ⟨hl, h⟩ := h
  exact ⟨Nat.le_trans (List.length_take_le' _ _) hl, fun j x hj => h j x (by rw [List.getElem?_take] at hj; split at hj; exact hj; cases hj)⟩
/-- A row that reads whatever becomes of block G and of the blocks of S. -/
def RdN (S : Nat → Prop) (G : Nat) (w : World) (P : Option Addr) (r : List Fra) : Prop := ∀ w', ExS (fun k => k = G ∨ S k) w w' → RdS EF w' P r
theorem RdN.rd {S : Nat → Prop} {G : Nat} {w : World} {P : Option Addr} {r : List Fra} (h : RdN S G w P r) : RdS EF w P r := h w (ExS.refl _ _)
theorem RdN.k1 {S : Nat → Prop} {G : Nat} {w w' : World} {P : Option Addr} {r : List Fra} (h : RdN S G w P r) (k : Ex1 G w w') : RdN S G w' P r := fun w2 h2 => h w2 ((ExS.of_ex1 (S := fun k => k = G ∨ S k) k (.inl rfl)).trans h2 (fun _ _ h => h))
theorem RdN.ex {S : Nat → Prop} {G : Nat} {w w' : World} {P : Option Addr} {r : List Fra} (h : RdN S G w P r) (k : Ex w w') : RdN S G w' P r := h.k1 (Ex1.of_ex k)
theorem RdN.iv {S : Nat → Prop} {G : Nat} {w w' : World} {P : Option Addr} {r : List Fra} (h : RdN S G w P r) (k : ExS S w w') : RdS EF w' P r := h w' (k.widen fun _ _ h => .inr h)
theorem Ex1.cell {G : Nat} {w w' : World} (k : Ex1 G w w') {g o : Nat} (hg : g ≠ G) {v : Value} (h : w.cell? ⟨g, o, none⟩ = some v) : w'.cell? ⟨g, o, none⟩ = some v :=
  (World.cell?_of_block (w := w) (a := ⟨g, o, none⟩) (k.block g (cell_lt (p := ⟨g, o, none⟩) h) (fun e => by injection e with e; exact hg e))).trans h
theorem RdN.frac {S : Nat → Prop} {G : Nat} {w : World} {P : Option Addr} {r : List Fra} (h : RdN S G w P r) {j : Nat} (hj : j < r.length) :
    ∃ g off x X xc Y yc, P = some ⟨g, off, none⟩ ∧ r[j]? = some x ∧ ¬ (g = G) ∧ w.cell? ⟨g, off + j * 2, none⟩ = some (.slice X x.n.length xc) ∧ w.cell? ⟨g, off + j * 2 + 1, none⟩ = some (.slice Y x.d.length yc) ∧ ∀ w', Ex1 G w w' → Rd w' X x.n ∧ Rd w' Y x.d := by
  obtain ⟨g, off, x, X, xc, Y, yc, rfl, hx, c0, c1, hX, hY⟩ := h.rd.frac hj
  have hne : ¬ (g = G) := fun e => by
    subst e
    obtain ⟨w2, hw2⟩ : ∃ w2 : World, w2 = { w with heap := w.heap.modify g fun _ => .cells #[] 0 (0, 0) } := ⟨_, rfl⟩
    have k : Ex1 g w w2 := by
      subst hw2
      refine ⟨rfl, rfl, rfl, by simp, fun i hi hn => ?_⟩
      simp only [Array.getElem?_modify]
      rw [if_neg (fun e => hn (by rw [e]))]
    obtain ⟨g', off', x', X', xc', Y', yc', e, _, c0', _⟩ := (h w2 (ExS.of_ex1 k (.inl rfl))).frac hj
    injection e with e
    injection e with e1 e2
    subst e1
    have hlt := cell_lt (p := ⟨g, off + j * 2, none⟩) c0
    rw [hw2] at c0'
    simp [World.cell?, Array.getElem?_modify, Array.getElem?_eq_getElem hlt] at c0'
  refine ⟨g, off, x, X, xc, Y, yc, rfl, hx, hne, c0, c1, fun w' k => ?_⟩
  obtain ⟨g', off', x', X', xc', Y', yc', e, hx', c0', c1', hX', hY'⟩ := (h w' (ExS.of_ex1 k (.inl rfl))).frac hj
  injection e with e
  injection e with e1 e2
  subst e1 e2
  rw [hx] at hx'
  injection hx' with hx'
  subst hx'
  have d0 := Ex1.cell k hne c0
  have d1 := Ex1.cell k hne c1
  rw [c0'] at d0
  rw [c1'] at d1
  injection d0 with d0
  injection d0 with d0
  injection d1 with d1
  injection d1 with d1
  subst d0 d1
  exact ⟨hX', hY'⟩
/-- Block G holds the rows, of n fractions each; the first q have their room. -/
structure MR (w : World) (S : Nat → Prop) (G n q : Nat) (rows : List (List Fra)) : Prop where
  out : ∃ cur : Array Value, w.heap[G]? = some (.cells cur 70 (0, 0)) ∧ ∀ (j : Nat) (r : List Fra), rows[j]? = some r → r.length = n ∧ ∃ P c, cur[j]? = some (.slice P n c) ∧ (j < q → n ≤ c) ∧ RdN S G w P r
theorem MR.lt {w : World} {S : Nat → Prop} {G n q : Nat} {rows : List (List Fra)} (h : MR w S G n q rows) : G < w.heap.size := by obtain ⟨_, h, _⟩ := h.out; exact heap_lt_of h
theorem MR.frozen {w : World} {S : Nat → Prop} {G n q : Nat} {rows : List (List Fra)} (h : MR w S G n q rows) (i : Nat) : w.frozen? ⟨G, i, none⟩ = false := by
  obtain ⟨cur, hc, _⟩ := h.out
  simp [World.frozen?, hc]
theorem MR.at_ {w : World} {S : Nat → Prop} {G n q : Nat} {rows : List (List Fra)} (h : MR w S G n q rows) {j : Nat} {r : List Fra} (hj : rows[j]? = some r) : ∃ P c, w.cell? ⟨G, j, none⟩ = some (.slice P n c) ∧ RdN S G w P r := by
  obtain ⟨cur, hc, hx⟩ := h.out
  obtain ⟨_, P, c, h1, _, h2⟩ := hx j r hj
  exact ⟨P, c, by simp [World.cell?, hc, h1], h2⟩
theorem MR.len {w : World} {S : Nat → Prop} {G n q : Nat} {rows : List (List Fra)} (h : MR w S G n q rows) {j : Nat} {r : List Fra} (hj : rows[j]? = some r) : r.length = n := by
  obtain ⟨cur, hc, hx⟩ := h.out
  exact (hx j r hj).1
theorem MR.ex {w w' : World} {S : Nat → Prop} {G n q : Nat} {rows : List (List Fra)} (h : MR w S G n q rows) (k : Ex w w') : MR w' S G n q rows := by
  have hl := h.lt
  obtain ⟨cur, hc, hx⟩ := h.out
  refine ⟨cur, (k.block hl).trans hc, fun j r hj => ?_⟩
  obtain ⟨h0, P, c, h1, hr, h2⟩ := hx j r hj
  exact ⟨h0, P, c, h1, hr, h2.ex k⟩
theorem MR.put {w : World} {S : Nat → Prop} {G n q : Nat} {rows : List (List Fra)} (h : MR w S G n q rows) (i : Nat) {r : List Fra} {P : Option Addr} {c : Nat} (hr : RdN S G w P r) (hn : r.length = n) {q' : Nat} (hroom : i < q' → n ≤ c) (hq : ∀ j, j < q' → j ≠ i → j < q) : MR (w.setCell ⟨G, i, none⟩ (.slice P n c)) S G n q' (rows.set i r) := by
  have k : Ex1 G w (w.setCell ⟨G, i, none⟩ (.slice P n c)) := (Ex1.refl _ _).setCell (p := ⟨G, i, none⟩) rfl _
  obtain ⟨cur, hc, hx⟩ := h.out
  refine ⟨cur.setIfInBounds i (.slice P n c), by simp [World.setCell, Array.getElem?_modify, hc], fun j z hj => ?_⟩
  rw [List.getElem?_set] at hj
  split at hj
  · rename_i e
    subst e
    split at hj
    · rename_i hl
      injection hj with hj
      subst hj
      obtain ⟨_, _, _, h1, _⟩ := hx i _ (List.getElem?_eq_getElem hl)
      exact ⟨hn, P, c, by rw [Array.getElem?_setIfInBounds, if_pos rfl, if_pos (Array.getElem?_eq_some_iff.1 h1).1], hroom, hr.k1 k⟩
    · cases hj
  · rename_i e
    obtain ⟨h0, P', c', h1, h3, h2⟩ := hx j z hj
    exact ⟨h0, P', c', by rw [Array.getElem?_setIfInBounds, if_neg e]; exact h1, fun hj => h3 (hq j hj fun e2 => e e2.symm), h2.k1 k⟩
theorem MR.rds {w : World} {S : Nat → Prop} {G n q : Nat} {rows : List (List Fra)} (h : MR w S G n q rows) (hl : rows.length ≤ 1099511627776) (hb : ¬ S G) {w' : World} (k : ExS S w w') : RdS EFF w' (some ⟨G, 0, none⟩) rows := by
  have hgl := h.lt
  obtain ⟨cur, hc, hx⟩ := h.out
  refine ⟨hl, fun j r hj => ?_⟩
  obtain ⟨h0, P, c, h1, _, h2⟩ := hx j r hj
  subst h0
  refine ⟨G, 0, [.slice P r.length c], rfl, fun i u hi => ?_, _, rfl, P, c, rfl, h2.iv k⟩
  rcases i with _ | i
  · injection hi with hi
    subst hi
    rw [show EFF.k = 1 from rfl, Nat.mul_one, Nat.zero_add, Nat.add_zero]
    have hc2 := (k.block G hgl hb).trans hc
    simp [World.cell?, hc2, h1]
  · simp at hi
theorem MR.rdc {w : World} {S : Nat → Prop} {G n q : Nat} {rows : List (List Fra)} (h : MR w S G n q rows) (hl : rows.length ≤ 1099511627776) (hb : ¬ S G) {w' : World} (k : ExS S w w') : RdC w' (some ⟨G, 0, none⟩) (rows.take q) := by
  refine ⟨(h.rds hl hb k).tkk q, fun j r hj => ?_⟩
  have hgl := h.lt
  obtain ⟨cur, hc, hx⟩ := h.out
  have hjq : j < q := by
    rw [List.getElem?_take] at hj
    split at hj
    · assumption
    · cases hj
  rw [List.getElem?_take, if_pos hjq] at hj
  obtain ⟨h0, P, c, h1, h3, h2⟩ := hx j r hj
  subst h0
  have hc2 := (k.block G hgl hb).trans hc
  exact ⟨G, 0, P, c, rfl, by simp [World.cell?, hc2, h1], h3 hjq, h2.iv k⟩
/-- Rows that read whatever becomes of the blocks of S. -/
def RowsN (S : Nat → Prop) (w : World) (A : Option Addr) (rows : List (List Fra)) : Prop :=
  rows.length ≤ 1099511627776 ∧ ∀ (j : Nat) (r : List Fra), rows[j]? = some r → ∃ g off P pc, A = some ⟨g, off, none⟩ ∧ w.cell? ⟨g, off + j, none⟩ = some (.slice P r.length pc) ∧ ∀ w2, ExS S w w2 → RdS EF w2 P r
theorem RowsN.ex {S T : Nat → Prop} {w w' : World} {A : Option Addr} {rows : List (List Fra)} (h : RowsN S w A rows) (he : Ex w w') (hS : ∀ k, T k → S k ∨ w.heap.size ≤ k) : RowsN T w' A rows := ⟨h.1, fun j r hj => by
  obtain ⟨g, off, P, pc, e, q, k⟩ := h.2 j r hj
  exact ⟨g, off, P, pc, e, cell_ex he q, fun w2 h2 => k w2 ((ExS.of_ex (S := S) he).trans h2 (fun i hi ht => (hS i ht).elim id (fun q => by omega)))⟩⟩
end Go.Proofs.YtmekhjnhcgmphaaDoor
namespace Go.Proofs.YtmekhjnhcgmphaaDoor
set_option maxRecDepth 100000
open Go Go.RowKit
theorem RdC.nil (w : World) (A : Option Addr) : RdC w A [] := ⟨⟨by simp, fun j x hj => by simp at hj⟩, fun j r hj => by simp at hj⟩
end Go.Proofs.YtmekhjnhcgmphaaDoor
namespace Go.Proofs.YtmekhjnhcgmphaaDoor
set_option maxRecDepth 100000
open Go Go.RowKit
/-- Where the number in a cell lies. -/
def numS (w : World) (b o k : Nat) : Prop := ∃ (a : Addr) (m d : Nat), w.cell? ⟨b, o, none⟩ = some (.slice (some a) m d) ∧ a.block = k
theorem RatO.ofx {w : World} {B n : Nat} {v : Value} {rows : List (List Fra)} (h : RatO w B v rows n) (hl : rows.length ≤ 1099511627776) (hn : n ≤ 1099511627776) : ∃ (A : Option Addr) (c : Nat) (S : Nat → Prop), v = .slice A rows.length c ∧ (∀ k, S k → B ≤ k ∧ k < w.heap.size) ∧ OX EXR 70 w S A rows := by
  obtain ⟨S, S', R, G, bs, c, e, hc, hM, hO, h1, h2, h3, h4, h5⟩ := h
  have hG := h3 G hM.sg
  have num : ∀ {b o k : Nat}, R b o → numS w b o k → B ≤ k ∧ k < w.heap.size ∧ ¬ S' k := fun {b o k} hr hk => by
    obtain ⟨a, m, d, hcell, rfl⟩ := hk
    obtain ⟨⟨q1, _, cur, q2⟩, _⟩ := hO b o a m d hr hcell
    refine ⟨?_, heap_lt_of q2, q1⟩
    rcases Nat.lt_or_ge a.block B with q | q
    · exact absurd (h2 _ q) q1
    · exact q
  have same : ∀ {b o b' o' k : Nat}, R b o → R b' o' → numS w b o k → numS w b' o' k → b' = b ∧ o' = o := fun {b o b' o' k} hr hr' hk hk' => by
    obtain ⟨a, m, d, hcell, e1⟩ := hk
    obtain ⟨a', m', d', hcell', e2⟩ := hk'
    exact (hO b o a m d hr hcell).2 b' o' a' m' d' hr' hcell' (e2.trans e1.symm)
  refine ⟨some ⟨G, 0, none⟩, c, fun k => B ≤ k ∧ k < w.heap.size, e, fun k hk => hk, hl, fun j k => ∃ b : Nat, bs[j]? = some (some b) ∧ (k = b ∨ ∃ o, o < 2 * n ∧ numS w b o k), fun j r hj => ?_, fun i j k _ _ hne hi hj => ?_⟩
  · obtain ⟨cur, hcur, hx⟩ := hM.out
    have hjl := (List.getElem?_eq_some_iff.1 hj).1
    obtain ⟨ob, hob⟩ : ∃ ob, bs[j]? = some ob := ⟨_, List.getElem?_eq_getElem (by rw [hM.len]; exact hjl)⟩
    obtain ⟨pc, hpc, hcc⟩ := hx j ob hob
    obtain ⟨hF, hrn⟩ := hM.row j ob r hob hj
    refine ⟨G, 0, [.slice (pB ob) n pc], cur, rfl, hG, hcur, fun i u hu => ?_, ⟨pB ob, pc, by rw [hrn], by omega, ?_⟩, fun k hk => ?_, fun hk => ?_⟩
    · rcases i with _ | i
      · injection hu with hu
        subst hu
        rw [show EXR.k = 1 from rfl, Nat.mul_one, Nat.zero_add, Nat.add_zero]
        exact hcc
      · simp at hu
    · cases ob with
      | none =>
        have : r = [] := hF
        subst this
        exact OX.nil _ _ _ _ _
      | some b =>
        obtain ⟨hF, hSb⟩ := hF
        have hRb := (h5 j b hob).2
        obtain ⟨cu, hcu, hxs⟩ := hF
        have cellb : ∀ (o : Nat) (u : Value), cu[o]? = some u → w.cell? ⟨b, o, none⟩ = some u := fun o u hu => by simp [World.cell?, hcu, hu]
        refine ⟨by omega, fun i k => numS w b (i * 2) k ∨ numS w b (i * 2 + 1) k, fun i x hi => ?_, fun i i' k hi hi' hne q1 q2 => ?_⟩
        · have hil := (List.getElem?_eq_some_iff.1 hi).1
          obtain ⟨A1, c1, A2, c2, e1, e2, r1, r2⟩ := hxs i x hi
          have xi : ∀ (o : Nat) (A : Option Addr) (c : Nat) (l : List Int), o < 2 * n → cu[o]? = some (.slice A l.length c) → Rd w A l → XI w (fun k => numS w b o k) (.slice A l.length c) l := fun o A c l ho hcuo hr => by
            cases A with
            | none =>
              have : l = [] := by
                cases l with
                | nil => rfl
                | cons y l => obtain ⟨_, _, e, _⟩ := hr.2 0 (by simp); cases e
              subst this
              exact ⟨none, c, rfl, Fr.nil _ _ _, fun a e => by cases e⟩
            | some a =>
              obtain ⟨⟨_, q2, cur2, q3⟩, _⟩ := hO b o a l.length c (hRb o ho) (cellb o _ hcuo)
              exact ⟨some a, c, rfl, ⟨hr, q2, fun a' e => by injection e with e; subst e; exact ⟨Nat.zero_le _, cur2, q3⟩⟩, fun a' e => by injection e with e; subst e; exact ⟨a, l.length, c, cellb o _ hcuo, rfl⟩⟩
          refine ⟨b, 0, [.slice A1 x.n.length c1, .slice A2 x.d.length c2], cu, rfl, ⟨b, hob, .inl rfl⟩, hcu, fun q u hu => ?_, ⟨_, _, rfl, fun k => numS w b (i * 2) k, fun k => numS w b (i * 2 + 1) k, xi _ _ _ _ (by omega) e1 r1.1, xi _ _ _ _ (by omega) e2 r2.1, fun k hk => .inl hk, fun k hk => .inr hk, fun k q1 q2 => ?_⟩, fun k hk => ?_, fun hk => ?_⟩
          · rw [show EXF.k = 2 from rfl, Nat.zero_add]
            match q, hu with
            | 0, hu => simp at hu; rw [← hu]; exact e1
            | 1, hu => simp at hu; rw [← hu]; exact e2
          · have := (same (hRb _ (by omega)) (hRb _ (by omega)) q1 q2).2; omega
          · rcases hk with hk | hk
            · exact ⟨b, hob, .inr ⟨_, by omega, hk⟩⟩
            · exact ⟨b, hob, .inr ⟨_, by omega, hk⟩⟩
          · rcases hk with hk | hk
            · exact (num (hRb _ (by omega)) hk).2.2 (h1 _ hSb)
            · exact (num (hRb _ (by omega)) hk).2.2 (h1 _ hSb)
        · rcases q1 with q1 | q1 <;> rcases q2 with q2 | q2 <;>
            (have := (same (hRb _ (by omega)) (hRb _ (by omega)) q1 q2).2; omega)
    · obtain ⟨b, hb, hk⟩ := hk
      rcases hk with rfl | ⟨o, ho, hk⟩
      · exact h3 _ (h5 j _ hb).1
      · have := num ((h5 j b hb).2 o ho) hk
        exact ⟨this.1, this.2.1⟩
    · obtain ⟨b, hb, hk⟩ := hk
      rcases hk with rfl | ⟨o, ho, hk⟩
      · exact hM.ng j _ hb rfl
      · exact (num ((h5 j b hb).2 o ho) hk).2.2 (h1 _ hM.sg)
  · obtain ⟨b, hb, q1⟩ := hi
    obtain ⟨b', hb', q2⟩ := hj
    have hbb : b ≠ b' := fun e2 => hne (by subst e2; exact hM.nd i j b hb hb')
    rcases q1 with rfl | ⟨o, ho, q1⟩
    · rcases q2 with rfl | ⟨o', ho', q2⟩
      · exact hbb rfl
      · exact (num ((h5 j b' hb').2 o' ho') q2).2.2 (h1 _ (h5 i _ hb).1)
    · rcases q2 with rfl | ⟨o', ho', q2⟩
      · exact (num ((h5 i b hb).2 o ho) q1).2.2 (h1 _ (h5 j _ hb').1)
      · exact hbb (same ((h5 i b hb).2 o ho) ((h5 j b' hb').2 o' ho') q1 q2).1.symm
end Go.Proofs.YtmekhjnhcgmphaaDoor
