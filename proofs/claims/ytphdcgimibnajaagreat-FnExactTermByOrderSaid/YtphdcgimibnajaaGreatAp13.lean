/- Parts of terms joined (the program): leafOf, joinNodes, layer. Types of leaves and of compositions (the program). The reference's leaves and their types, for every kind. Valid terms (the program): typed, isValid, validTerm. -/
import Derived.Test.YtphdcgimibnajaaGreatAp05
import Derived.Test.YtphdcgimibnajaaGreatAp12
import Derived.Test.YtphdcgimibnajaaGreatAp07
import Derived.Deep.RegionHeld3
import Derived.Deep.RegionWith
import Derived.Test.YtphdcgimibnajaaGreatAp09
import Derived.BigQuiet
import Derived.Deep.RegionLaw
import Derived.Deep.CutRange
namespace Go.Proofs.YtphdcgimibnajaaGreat
set_option maxRecDepth 100000
open Go Go.RowKit
theorem an_one (w : World) {B : Nat} (hB : B ≤ w.heap.size) (k v : Int) : AN (w.alloc (.cells #[.int .i64 k, .int .i64 v, .string ⟨#[]⟩] 84)) B (.slice (some ⟨w.heap.size, 0, none⟩) 1 1) [nd k v] :=
  ⟨rfl, .inr ⟨w.heap.size, 1, _, rfl, hB, heap_alloc_new w _, Nat.le_refl _, by unfold maxLen; omega, rfl, rfl⟩⟩
theorem one_rd (w : World) (k v : Int) : RdS EN (w.alloc (.cells #[.int .i64 k, .int .i64 v, .string ⟨#[]⟩] 84)) (some ⟨w.heap.size, 0, none⟩) [nd k v] := peN.blk (t := 84) w (nd k v)
theorem AN.rd {w : World} {B : Nat} {v : Value} {xs : List Nd} (h : AN w B v xs) (hl : xs.length ≤ 1099511627776) : ∃ A c, v = .slice A xs.length c ∧ RdS EN w A xs := by
  obtain ⟨A, c, e, _, h2, _⟩ := h.ows peN hl
  exact ⟨A, c, e, h2⟩
theorem two_enn (w : World) (t : TypeId) {A B : Option Addr} {c d : Nat} {a b : List Nd} (ha : RdS EN w A a) (hb : RdS EN w B b) :
    RdS ENN (w.alloc (.cells #[.slice A a.length c, .slice B b.length d] t)) (some ⟨w.heap.size, 0, none⟩) [a, b] := by
  have v := VB.new w t #[.slice A a.length c, .slice B b.length d]
  have x := (Ex.refl w).alloc (.cells #[.slice A a.length c, .slice B b.length d] t)
  refine ⟨by simp, fun j r hj => ?_⟩
  rcases j with _ | _ | j
  · simp at hj; subst hj
    refine ⟨_, 0, _, rfl, fun i u hu => ?_, A, c, rfl, ha.ex x⟩
    rcases i with _ | i
    · simp at hu; subst hu
      exact v.cell 0 rfl
    · simp at hu
  · simp at hj; subst hj
    refine ⟨_, 0, _, rfl, fun i u hu => ?_, B, d, rfl, hb.ex x⟩
    rcases i with _ | i
    · simp at hu; subst hu
      exact v.cell 1 rfl
    · simp at hu
  · simp at hj
theorem leafOf_c (k v : Int) (w : World) : Calls Tryz.prog 59 #[.int .i64 k, .int .i64 v] w fun e w' => e = .returned (.agg #[.int .i64 k, .int .i64 v, .string ⟨#[]⟩]) ∧ Ex w w' := by
  have x1 := (Ex.refl w).alloc (.cells #[.int .i64 0, .int .i64 0, .string ⟨#[]⟩] 84)
  have v1 := VB.new w 84 #[.int .i64 0, .int .i64 0, .string ⟨#[]⟩]
  go_enter Tryz.func59, Tryz.ntmps59
  go_wp2_with fail
  refine bodyPost_ret (v := .agg #[.int .i64 k, .int .i64 v, .string ⟨#[]⟩]) (by simp [results, Tryz.results59, go_sem]) rfl ?_
  exact ⟨rfl, (Ex.refl w).alloc _⟩
set_option maxHeartbeats 2000000 in
theorem joinNodes_c (k : Int) (a b : List Nd) (A B : Option Addr) (c d : Nat) (w : World) (ha : RdS EN w A a) (hb : RdS EN w B b) (hal : a.length ≤ 100000000) (hbl : b.length ≤ 100000000) :
    Calls Tryz.prog 52 #[.int .i64 k, .slice A a.length c, .slice B b.length d] w fun e w' => ∃ v, e = .returned v ∧ AN w' w.heap.size v (jn k a b) ∧ Ex w w' := by
  have hr := two_enn (c := c) (d := d) w 27 ha hb
  have x1 := (Ex.refl w).alloc (.cells #[.slice A a.length c, .slice B b.length d] 27)
  have s1 : (w.alloc (.cells #[.slice A a.length c, .slice B b.length d] 27)).heap.size = w.heap.size + 1 := by simp
  have HL := Lib.hid (show (a ++ b).length ≤ 200000000 by rw [List.length_append]; omega)
  go_enter Tryz.func52, Tryz.ntmps52
  go_wp2_with fail
  generalize w.alloc (.cells #[.slice A a.length c, .slice B b.length d] 27) = W1 at *
  refine (concatN_c (some ⟨w.heap.size, 0, none⟩) 2 [a, b] W1 hr (by simp) (by intro r hr; simp at hr; rcases hr with rfl | rfl <;> assumption)).mono ?_
  rintro e w2 ⟨v, rfl, hv, x2⟩
  have hv : AN w2 W1.heap.size v (a ++ b) := by simpa using hv
  have z2 := x2.size
  obtain ⟨A2, c2, e2, _⟩ := hv.form
  obtain ⟨n, hn⟩ : ∃ n, (a ++ b).length = n := ⟨_, rfl⟩
  rw [hn] at e2
  subst e2
  obtain ⟨v', w3, hrun, hv3, _, hE, _⟩ := an_push 27 w2 W1.heap.size _ (a ++ b) (nd k 0) hv z2 (by have := HL.out; omega)
  have x3 := x2.exo hE (fun q e => (hv.lt q e).1)
  clear hE HL hn hv
  go_wp2_with (at_builtin; refine wpList_append_run rfl _ _ _ rfl rfl rfl hrun ?_)
  go_ret
  exact ⟨_, rfl, hv3.more (by omega), x1.trans x3⟩
set_option maxHeartbeats 2000000 in
theorem layer_c (n i : Nat) (hi : i + 2 ≤ n) (hn : n ≤ 1000) (w : World) :
    Calls Tryz.prog 89 #[.int .i64 n, .int .i64 i] w fun e w' => ∃ v, e = .returned v ∧ AN w' w.heap.size v (layL i [nd 2 0] (n - 2 - i)) ∧ Ex w w' := by
  have hw1 : IntKind.i64.wrap ((n : Int) - 2) = (n : Int) - 2 := IntWalk.i64_in _ (by omega)
  obtain ⟨r, hr⟩ : ∃ r, n - 2 - i = r := ⟨_, rfl⟩
  have hrn : r ≤ 1000 := by omega
  have hw2 : IntKind.i64.wrap ((n : Int) - 2 - (i : Int)) = (r : Int) := by rw [IntWalk.i64_in _ (by omega)]; omega
  rw [hr]
  clear hr
  have h1 := leafOf_c 2 0 w
  by_cases h0 : 0 < i
  · have HF := Lib.hid (show layF i [nd 2 0] = jn 16 [nd 1 i] [nd 2 0] from if_pos h0)
    have h0' : (0 : Int) < (i : Int) := by omega
    go_enter Tryz.func89, Tryz.ntmps89
    go_wp2_with fail
    refine h1.mono ?_
    rintro e w1 ⟨rfl, x1⟩
    go_wp2_with fail
    have y1 := (Ex.refl w1).alloc (.cells #[.int .i64 2, .int .i64 0, .string ⟨#[]⟩] 84)
    have hR1 := one_rd w1 2 0
    generalize w1.alloc (.cells #[.int .i64 2, .int .i64 0, .string ⟨#[]⟩] 84) = W1 at *
    refine (leafOf_c 1 i W1).mono ?_
    rintro e w2 ⟨rfl, x2⟩
    have y2 := (Ex.refl w2).alloc (.cells #[.int .i64 1, .int .i64 i, .string ⟨#[]⟩] 84)
    have hR3 := one_rd w2 1 i
    have xx := ((x1.trans y1).trans x2).trans y2
    have jN := joinNodes_c 16 [nd 1 i] [nd 2 0] (some ⟨w2.heap.size, 0, none⟩) (some ⟨w1.heap.size, 0, none⟩) 1 1 _ hR3 ((hR1.ex x2).ex y2) (by simp) (by simp)
    go_wp2_with fail
    refine jN.mono ?_
    rintro e w4 ⟨v4, rfl, o4, x4'⟩
    have x4 := xx.trans x4'
    replace o4 := o4.more xx.size
    have hl4 : (jn 16 [nd 1 i] [nd 2 0]).length = 3 := rfl
    obtain ⟨A4, c4, e4, hR4⟩ := o4.rd (by rw [hl4]; omega)
    rw [hl4] at e4
    subst e4
    have HT := HF
    have HL4 := Lib.hid (show (layF i [nd 2 0]).length = 3 by rw [HF.out]; rfl)
    have hL5 : (layF i [nd 2 0]).length ≤ 3 := by rw [HL4.out]; exact Nat.le_refl _
    by_cases h2 : 0 < r
    · have HG := Lib.hid (show layL i [nd 2 0] r = jn 16 (layF i [nd 2 0]) [nd 1 r] from if_pos h2)
      have h2' : (0 : Int) < (r : Int) := by omega
      go_wp2_with fail
      refine (leafOf_c 1 r w4).mono ?_
      rintro e w5 ⟨rfl, x5⟩
      have y6 := (Ex.refl w5).alloc (.cells #[.int .i64 1, .int .i64 r, .string ⟨#[]⟩] 84)
      have s6 : (w5.alloc (.cells #[.int .i64 1, .int .i64 r, .string ⟨#[]⟩] 84)).heap.size = w5.heap.size + 1 := by simp
      have hR6 := (hR4.ex x5).ex y6
      have xw6 := (x4.trans x5).trans y6
      have hR7 := one_rd w5 1 r
      rw [← HT.out] at hR6
      have jN := joinNodes_c 16 (layF i [nd 2 0]) [nd 1 r] A4 (some ⟨w5.heap.size, 0, none⟩) c4 1 _ hR6 hR7 (by omega) (by simp)
      rw [HL4.out] at jN
      go_wp2_with fail
      refine jN.mono ?_
      rintro e w7 ⟨v7, rfl, o7, x7⟩
      have z6 := xw6.size
      go_wp2_with fail
      go_ret
      rw [HG.out]
      exact ⟨_, rfl, o7.more z6, xw6.trans x7⟩
    · have HG := Lib.hid (show layL i [nd 2 0] r = layF i [nd 2 0] from if_neg h2)
      have h2' : ¬ (0 : Int) < (r : Int) := by omega
      go_wp2_with fail
      go_ret
      rw [HG.out, HT.out]
      exact ⟨_, rfl, o4, x4⟩
  · have HT := Lib.hid (show layF i [nd 2 0] = [nd 2 0] from if_neg h0)
    have h0' : ¬ (0 : Int) < (i : Int) := by omega
    go_enter Tryz.func89, Tryz.ntmps89
    go_wp2_with fail
    refine h1.mono ?_
    rintro e w1 ⟨rfl, x1⟩
    have y1 := (Ex.refl w1).alloc (.cells #[.int .i64 2, .int .i64 0, .string ⟨#[]⟩] 84)
    have o4 := an_one w1 (B := w.heap.size) x1.size 2 0
    have x4 := x1.trans y1
    have hR4 := one_rd w1 2 0
    have HL4 := Lib.hid (show (layF i [nd 2 0]).length = 1 by rw [HT.out]; rfl)
    have hL5 : (layF i [nd 2 0]).length ≤ 3 := by rw [HL4.out]; omega
    obtain ⟨w4, hw4⟩ : ∃ W, w1.alloc (.cells #[.int .i64 2, .int .i64 0, .string ⟨#[]⟩] 84) = W := ⟨_, rfl⟩
    rw [hw4] at o4 x4 hR4
    by_cases h2 : 0 < r
    · have HG := Lib.hid (show layL i [nd 2 0] r = jn 16 (layF i [nd 2 0]) [nd 1 r] from if_pos h2)
      have h2' : (0 : Int) < (r : Int) := by omega
      go_wp2_with fail
      refine (leafOf_c 1 r w4).mono ?_
      rintro e w5 ⟨rfl, x5⟩
      have y6 := (Ex.refl w5).alloc (.cells #[.int .i64 1, .int .i64 r, .string ⟨#[]⟩] 84)
      have s6 : (w5.alloc (.cells #[.int .i64 1, .int .i64 r, .string ⟨#[]⟩] 84)).heap.size = w5.heap.size + 1 := by simp
      have hR6 := (hR4.ex x5).ex y6
      have xw6 := (x4.trans x5).trans y6
      have hR7 := one_rd w5 1 r
      rw [← HT.out] at hR6
      have jN := joinNodes_c 16 (layF i [nd 2 0]) [nd 1 r] (some ⟨w1.heap.size, 0, none⟩) (some ⟨w5.heap.size, 0, none⟩) 1 1 _ hR6 hR7 (by omega) (by simp)
      rw [HL4.out] at jN
      go_wp2_with fail
      refine jN.mono ?_
      rintro e w7 ⟨v7, rfl, o7, x7⟩
      have z6 := xw6.size
      go_wp2_with fail
      go_ret
      rw [HG.out]
      exact ⟨_, rfl, o7.more z6, xw6.trans x7⟩
    · have HG := Lib.hid (show layL i [nd 2 0] r = layF i [nd 2 0] from if_neg h2)
      have h2' : ¬ (0 : Int) < (r : Int) := by omega
      go_wp2_with fail
      go_ret
      rw [HG.out, HT.out]
      exact ⟨_, rfl, o4, x4⟩
end Go.Proofs.YtphdcgimibnajaaGreat
namespace Go.Proofs.YtphdcgimibnajaaGreat
set_option maxRecDepth 100000
open Go Go.RowKit
theorem byte_nil {b : ByteArray} (h : b.toList = []) : b = ⟨#[]⟩ := by
  rw [ByteArray.toList_eq] at h
  obtain ⟨⟨l⟩⟩ := b
  have h : l = [] := h
  subst h; rfl
set_option maxHeartbeats 4000000 in
theorem leafWires_c (n : Nd) (w : World) : Calls Tryz.prog 112 #[.agg #[.int .i64 n.kd, .int .i64 n.vl, .string n.nm]] w fun e w' => ∃ a b ok, e = .returned (.tuple #[.agg #[.int .i64 a, .int .i64 b], .bool ok]) ∧ (ok = true → lfT n = some (a, b)) ∧ (ok = false → lfT n = none) ∧ Ex w w' := by
  obtain ⟨k, v, nm⟩ := n
  dsimp only
  have x0 := (Ex.refl w).alloc (.cells #[.int .i64 k, .int .i64 v, .string nm] 84)
  have v0 := VB.new w 84 #[.int .i64 k, .int .i64 v, .string nm]
  obtain ⟨W0, hW0⟩ : ∃ W, w.alloc (.cells #[.int .i64 k, .int .i64 v, .string nm] 84) = W := ⟨_, rfl⟩
  have s0 : W0.heap.size = w.heap.size + 1 := by rw [← hW0]; simp
  rw [hW0] at x0 v0
  have x1 := (Ex.refl W0).alloc (.cells #[.int .i64 0, .int .i64 0] 124)
  have v1 := VB.new W0 124 #[.int .i64 0, .int .i64 0]
  obtain ⟨W1, hW1⟩ : ∃ W, W0.alloc (.cells #[.int .i64 0, .int .i64 0] 124) = W := ⟨_, rfl⟩
  rw [hW1] at x1 v1
  rw [s0] at v1
  have q0 := (v0.ex x1).cell 0 (v := .int .i64 k) rfl
  have q1 := (v0.ex x1).cell 1 (v := .int .i64 v) rfl
  have q2 := (v0.ex x1).cell 2 (v := .string nm) rfl
  have r0 := v1.cell 0 (v := .int .i64 0) rfl
  have r1 := v1.cell 1 (v := .int .i64 0) rfl
  have z0 := v1.frozen 0
  have z1 := v1.frozen 1
  by_cases hnm : nm = ⟨#[]⟩
  case neg =>
    have HN := Lib.hid (show lfT ⟨k, v, nm⟩ = none by
      unfold lfT nmB
      simp [hnm])
    have hb : (!nm.toList.isEmpty) = true := by
      cases h : nm.toList with
      | nil => exact absurd (byte_nil h) hnm
      | cons a l => rfl
    obtain ⟨dd, zz⟩ := v1.st2 (.int .i64 0) (.int .i64 0)
    have C0 := dd.cell 0 (v := .int .i64 0) rfl
    have C1 := dd.cell 1 (v := .int .i64 0) rfl
    have eF := (x0.trans x1).ex1 zz (by omega)
    clear hnm
    go_enter Tryz.func112, Tryz.ntmps112
    go_wp2_with fail
    refine bodyPost_ret (v := .tuple #[.agg #[.int .i64 0, .int .i64 0], .bool false]) (by simp [results, Tryz.results112, go_sem, C0, C1]) rfl ?_
    exact ⟨0, 0, false, rfl, fun e => Bool.noConfusion e, fun _ => HN.out, eF⟩
  subst hnm
  have hwt := fun W => within_c v 0 12 W
  by_cases h1 : k = 1
  · subst h1
    have HV := Lib.hid (show lfT ⟨1, v, ⟨#[]⟩⟩ = if inB 0 12 v = true then some (v, v) else none by
      unfold lfT nmB
      cases inB 0 12 v <;> simp [inB])
    obtain ⟨ok, hok⟩ : ∃ ok, inB 0 12 v = ok := ⟨_, rfl⟩
    rw [hok] at HV
    simp only [hok] at hwt
    clear hok
    obtain ⟨dd, zz⟩ := v1.st2 (.int .i64 v) (.int .i64 v)
    replace dd := dd.drew
    have vA := ((v0.ex x1).ex1 zz (by omega)).drew
    have C0 := dd.cell 0 (v := .int .i64 v) rfl
    have C1 := dd.cell 1 (v := .int .i64 v) rfl
    have eF := ((x0.trans x1).ex1 zz (by omega)).drew
    go_enter Tryz.func112, Tryz.ntmps112
    go_wp2_with fail
    go_region_held3 (fun W => W.cell? ⟨w.heap.size, 1, none⟩ = some (.int .i64 v)) (first
      | (exact q1)
      | (exact vA.cell 1 rfl)) (first
      | (go_at_call 96
         refine (hwt _).mono ?_
         rintro e w2 ⟨rfl, rfl⟩))
    go_wp2_with fail
    refine bodyPost_ret (v := .tuple #[.agg #[.int .i64 v, .int .i64 v], .bool ok]) (by simp [results, Tryz.results112, go_sem, C0, C1]) rfl ?_
    exact ⟨v, v, ok, rfl, fun e => by rw [HV.out, e]; rfl, fun e => by rw [HV.out, e]; rfl, eF⟩
  by_cases h2 : k = 2
  · subst h2
    have HV := Lib.hid (show lfT ⟨2, v, ⟨#[]⟩⟩ = if (v == 0) = true then some (2, 2) else none by
      unfold lfT nmB
      by_cases h : v = 0 <;> simp [inB, h])
    obtain ⟨dd, zz⟩ := v1.st2 (.int .i64 2) (.int .i64 2)
    replace dd := dd.drew
    have vA := ((v0.ex x1).ex1 zz (by omega)).drew
    have C0 := dd.cell 0 (v := .int .i64 2) rfl
    have C1 := dd.cell 1 (v := .int .i64 2) rfl
    have eF := ((x0.trans x1).ex1 zz (by omega)).drew
    clear h1
    go_enter Tryz.func112, Tryz.ntmps112
    go_wp2_with fail
    go_region_held3 (fun W => W.cell? ⟨w.heap.size, 1, none⟩ = some (.int .i64 v)) (first
      | (exact q1)
      | (exact vA.cell 1 rfl)) (fail)
    go_wp2_with fail
    refine bodyPost_ret (v := .tuple #[.agg #[.int .i64 2, .int .i64 2], .bool (v == 0)]) (by simp [results, Tryz.results112, go_sem, C0, C1]) rfl ?_
    exact ⟨2, 2, v == 0, rfl, fun e => by rw [HV.out, e]; rfl, fun e => by rw [HV.out, e]; rfl, eF⟩
  have n1 : (k == 1) = false := by simpa using h1
  have n2 : (k == 2) = false := by simpa using h2
  have hg := fun W => isGenerator_c k W
  cases h3 : inB 3 14 k with
  | false =>
    have HN := Lib.hid (show lfT ⟨k, v, ⟨#[]⟩⟩ = none by
      unfold lfT nmB
      simp [h1, h2, h3])
    simp only [h3] at hg
    obtain ⟨dd, zz⟩ := v1.st2 (.int .i64 0) (.int .i64 0)
    have C0 := dd.cell 0 (v := .int .i64 0) rfl
    have C1 := dd.cell 1 (v := .int .i64 0) rfl
    have eF := (x0.trans x1).ex1 zz (by omega)
    clear h1 h2 h3
    go_enter Tryz.func112, Tryz.ntmps112
    go_wp2_with fail
    refine (hg _).mono ?_
    rintro e w2 ⟨rfl, rfl⟩
    go_wp2_with fail
    refine bodyPost_ret (v := .tuple #[.agg #[.int .i64 0, .int .i64 0], .bool false]) (by simp [results, Tryz.results112, go_sem, C0, C1]) rfl ?_
    exact ⟨0, 0, false, rfl, fun e => Bool.noConfusion e, fun _ => HN.out, eF⟩
  | true =>
    have hgw := fun W => generatorWires_c k h3 W
    have hgv := fun W => isGeneratorValue_c k v W
    have HV := Lib.hid (show lfT ⟨k, v, ⟨#[]⟩⟩ = if vlB k v = true then some (gw k) else none by
      unfold lfT nmB
      simp [h1, h2, h3])
    simp only [h3] at hg
    obtain ⟨ok, hok⟩ : ∃ ok, vlB k v = ok := ⟨_, rfl⟩
    rw [hok] at HV
    simp only [hok] at hgv
    obtain ⟨⟨a, b⟩, hab⟩ : ∃ ab, gw k = ab := ⟨_, rfl⟩
    rw [hab] at HV
    simp only [hab] at hgw
    clear h1 h2 h3 hok hab
    have vN := v0.ex x1
    go_enter Tryz.func112, Tryz.ntmps112
    go_wp2_with fail
    refine (hg _).mono ?_
    rintro e w2 ⟨rfl, rfl⟩
    go_wp2_with fail
    go_region_held3 (fun W => W.cell? ⟨w.heap.size, 0, none⟩ = some (.int .i64 k) ∧ W.cell? ⟨w.heap.size, 1, none⟩ = some (.int .i64 v)) (first
      | (exact ⟨q0, q1⟩)
      | (exact ⟨cell_ex e3 q0, cell_ex e3 q1⟩)
      | (exact ⟨vA.cell 0 rfl, vA.cell 1 rfl⟩)) (first
      | (go_at_call 110
         refine (hgw _).mono ?_
         rintro e w3 ⟨rfl, x3⟩
         have e3 : Ex W1 w3 := (Ex.refl W1).drew.trans x3
         have y1 := v1.ex e3
         have r0 := y1.cell 0 (v := .int .i64 0) rfl
         have r1 := y1.cell 1 (v := .int .i64 0) rfl
         have z0 := y1.frozen 0
         have z1 := y1.frozen 1
         obtain ⟨dd, zz⟩ := y1.st2 (.int .i64 a) (.int .i64 b)
         have vA := (vN.ex e3).ex1 zz (by omega))
      | (go_at_call 109
         refine (hgv _).mono ?_
         rintro e w4 ⟨rfl, rfl⟩))
    have C0 := dd.cell 0 (v := .int .i64 a) rfl
    have C1 := dd.cell 1 (v := .int .i64 b) rfl
    have eF := ((x0.trans x1).trans e3).ex1 zz (by omega)
    go_wp2_with fail
    refine bodyPost_ret (v := .tuple #[.agg #[.int .i64 a, .int .i64 b], .bool ok]) (by simp [results, Tryz.results112, go_sem, C0, C1]) rfl ?_
    exact ⟨a, b, ok, rfl, fun e => by rw [HV.out, e]; rfl, fun e => by rw [HV.out, e]; rfl, eF⟩
theorem fit_c (a b : Int) (w : World) : Calls Tryz.prog 115 #[.agg #[.int .i64 a, .int .i64 b]] w fun e w' => e = .returned (.bool (decide (a ≤ 12) && decide (b ≤ 12))) ∧ Ex w w' := by
  have x0 := (Ex.refl w).alloc (.cells #[.int .i64 a, .int .i64 b] 124)
  by_cases h : a ≤ 12
  · have h1 := decide_eq_true h
    rw [h1]
    go_enter Tryz.func115, Tryz.ntmps115
    go_wp2_with fail
    go_ret
    exact ⟨rfl, x0⟩
  · have h1 := decide_eq_false h
    rw [h1]
    go_enter Tryz.func115, Tryz.ntmps115
    go_wp2_with fail
    go_ret
    exact ⟨rfl, x0⟩
set_option maxHeartbeats 4000000 in
theorem joinWires_c (k : Int) (a b : Int × Int) (ha : (0 ≤ a.1 ∧ a.1 ≤ 12) ∧ (0 ≤ a.2 ∧ a.2 ≤ 12)) (hb : (0 ≤ b.1 ∧ b.1 ≤ 12) ∧ (0 ≤ b.2 ∧ b.2 ≤ 12)) (w : World) :
    Calls Tryz.prog 114 #[.int .i64 k, .agg #[.int .i64 a.1, .int .i64 a.2], .agg #[.int .i64 b.1, .int .i64 b.2]] w fun e w' => ∃ c d ok, e = .returned (.tuple #[.agg #[.int .i64 c, .int .i64 d], .bool ok]) ∧ (ok = true → jnT k a b = some (c, d)) ∧ (ok = false → jnT k a b = none) ∧ Ex w w' := by
  obtain ⟨a1, a2⟩ := a
  obtain ⟨b1, b2⟩ := b
  dsimp only at ha hb ⊢
  have x1 := (Ex.refl w).alloc (.cells #[.int .i64 a1, .int .i64 a2] 124)
  have v1 := VB.new w 124 #[.int .i64 a1, .int .i64 a2]
  obtain ⟨W1, hW1⟩ : ∃ W, w.alloc (.cells #[.int .i64 a1, .int .i64 a2] 124) = W := ⟨_, rfl⟩
  have s1 : W1.heap.size = w.heap.size + 1 := by rw [← hW1]; simp
  rw [hW1] at x1 v1
  have x2 := (Ex.refl W1).alloc (.cells #[.int .i64 b1, .int .i64 b2] 124)
  have v2 := VB.new W1 124 #[.int .i64 b1, .int .i64 b2]
  obtain ⟨W2, hW2⟩ : ∃ W, W1.alloc (.cells #[.int .i64 b1, .int .i64 b2] 124) = W := ⟨_, rfl⟩
  have s2 : W2.heap.size = w.heap.size + 1 + 1 := by rw [← hW2]; simp [s1]
  rw [hW2] at x2 v2
  rw [s1] at v2
  have x3 := (Ex.refl W2).alloc (.cells #[.int .i64 0, .int .i64 0] 124)
  have v3 := VB.new W2 124 #[.int .i64 0, .int .i64 0]
  obtain ⟨W3, hW3⟩ : ∃ W, W2.alloc (.cells #[.int .i64 0, .int .i64 0] 124) = W := ⟨_, rfl⟩
  have s3 : W3.heap.size = w.heap.size + 1 + 1 + 1 := by rw [← hW3]; simp [s2]
  rw [hW3] at x3 v3
  rw [s2] at v3
  have y3 := (x1.trans x2).trans x3
  have u1 := (v1.ex x2).ex x3
  have u2 := v2.ex x3
  have q0 := u1.cell 0 (v := .int .i64 a1) rfl
  have q1 := u1.cell 1 (v := .int .i64 a2) rfl
  have p0 := u2.cell 0 (v := .int .i64 b1) rfl
  have p1 := u2.cell 1 (v := .int .i64 b2) rfl
  have r0 := v3.cell 0 (v := .int .i64 0) rfl
  have r1 := v3.cell 1 (v := .int .i64 0) rfl
  have z0 := v3.frozen 0
  have z1 := v3.frozen 1
  clear x1 v1 x2 v2 x3
  by_cases hk : k = 15
  · subst hk
    have HV := Lib.hid (show jnT 15 (a1, a2) (b1, b2) = if (a2 == b1) = true then some (a1, b2) else none by
      unfold jnT
      simp)
    obtain ⟨dd, zz⟩ := v3.st2 (.int .i64 a1) (.int .i64 b2)
    replace dd := dd.drew
    have vA := (u1.ex1 zz (by omega)).drew
    have vB := (u2.ex1 zz (by omega)).drew
    have C0 := dd.cell 0 (v := .int .i64 a1) rfl
    have C1 := dd.cell 1 (v := .int .i64 b2) rfl
    have eF := (y3.ex1 zz (by omega)).drew
    go_enter Tryz.func114, Tryz.ntmps114
    go_wp2_with fail
    go_region_held3 (fun W => W.cell? ⟨w.heap.size, 0, none⟩ = some (.int .i64 a1) ∧ W.cell? ⟨w.heap.size, 1, none⟩ = some (.int .i64 a2) ∧ W.cell? ⟨w.heap.size + 1, 0, none⟩ = some (.int .i64 b1) ∧ W.cell? ⟨w.heap.size + 1, 1, none⟩ = some (.int .i64 b2)) (first
      | (exact ⟨q0, q1, p0, p1⟩)
      | (exact ⟨vA.cell 0 rfl, vA.cell 1 rfl, vB.cell 0 rfl, vB.cell 1 rfl⟩)) (fail)
    go_wp2_with fail
    refine bodyPost_ret (v := .tuple #[.agg #[.int .i64 a1, .int .i64 b2], .bool (a2 == b1)]) (by simp [results, Tryz.results114, go_sem, C0, C1]) rfl ?_
    exact ⟨a1, b2, a2 == b1, rfl, fun e => by rw [HV.out, e]; rfl, fun e => by rw [HV.out, e]; rfl, eF⟩
  · have hkb : (k == 15) = false := by simpa using hk
    obtain ⟨c, hc⟩ : ∃ c, a1 + b1 = c := ⟨_, rfl⟩
    obtain ⟨d, hd⟩ : ∃ d, a2 + b2 = d := ⟨_, rfl⟩
    have HV := Lib.hid (show jnT k (a1, a2) (b1, b2) = if (decide (c ≤ 12) && decide (d ≤ 12)) = true then some (c, d) else none by
      unfold jnT
      rw [if_neg hk]
      simp [hc, hd])
    have hw1 : IntKind.i64.wrap (a1 + b1) = c := by rw [IntWalk.i64_in _ (by omega)]; exact hc
    have hw2 : IntKind.i64.wrap (a2 + b2) = d := by rw [IntWalk.i64_in _ (by omega)]; exact hd
    have cF := fun W => fit_c c d W
    obtain ⟨ok, hok⟩ : ∃ ok, (decide (c ≤ 12) && decide (d ≤ 12)) = ok := ⟨_, rfl⟩
    rw [hok] at HV
    simp only [hok] at cF
    have x4 := (Ex.refl W3).alloc (.cells #[.int .i64 c, .int .i64 d] 124)
    have v4 := VB.new W3 124 #[.int .i64 c, .int .i64 d]
    rw [s3] at v4
    clear hk hc hd hok ha hb
    go_enter Tryz.func114, Tryz.ntmps114
    go_wp2_with fail
    generalize W3.alloc (.cells #[.int .i64 c, .int .i64 d] 124) = W4 at *
    have g0 := v4.cell 0 (v := .int .i64 c) rfl
    have g1 := v4.cell 1 (v := .int .i64 d) rfl
    go_region_held3 (fun W => W.cell? ⟨w.heap.size + 1 + 1 + 1, 0, none⟩ = some (.int .i64 c) ∧ W.cell? ⟨w.heap.size + 1 + 1 + 1, 1, none⟩ = some (.int .i64 d)) (first
      | (exact ⟨g0, g1⟩)
      | (exact ⟨cell_ex e5 g0, cell_ex e5 g1⟩)
      | (exact ⟨vA.cell 0 rfl, vA.cell 1 rfl⟩)) (first
      | (go_at_call 115
         refine (cF _).mono ?_
         rintro e w5 ⟨rfl, x5⟩
         have e5 : Ex W4 w5 := (Ex.refl W4).drew.trans x5
         have t3 := (v3.ex x4).ex e5
         have r0 := t3.cell 0 (v := .int .i64 0) rfl
         have r1 := t3.cell 1 (v := .int .i64 0) rfl
         have z0 := t3.frozen 0
         have z1 := t3.frozen 1
         obtain ⟨dd, zz⟩ := t3.st2 (.int .i64 c) (.int .i64 d)
         have vA := (v4.ex e5).ex1 zz (by omega)))
    have C0 := dd.cell 0 (v := .int .i64 c) rfl
    have C1 := dd.cell 1 (v := .int .i64 d) rfl
    have eF := ((y3.trans x4).trans e5).ex1 zz (by omega)
    go_wp2_with fail
    refine bodyPost_ret (v := .tuple #[.agg #[.int .i64 c, .int .i64 d], .bool ok]) (by simp [results, Tryz.results114, go_sem, C0, C1]) rfl ?_
    exact ⟨c, d, ok, rfl, fun e => by rw [HV.out, e]; rfl, fun e => by rw [HV.out, e]; rfl, eF⟩
end Go.Proofs.YtphdcgimibnajaaGreat
namespace Go.Proofs.YtphdcgimibnajaaGreat
set_option maxRecDepth 100000
open Go Go.RowKit
set_option maxHeartbeats 4000000 in
theorem tmLeaf_n (n : Nd) (w : World) : Calls Tryz.prog 98 #[.agg #[.int .i64 n.kd, .int .i64 n.vl, .string n.nm]] w fun e w' => e = .returned (.bool (lfT n).isSome) ∧ Ex w w' := by
  obtain ⟨k, v, nm⟩ := n
  dsimp only
  have x0 := (Ex.refl w).alloc (.cells #[.int .i64 k, .int .i64 v, .string nm] 84)
  by_cases hnm : nm = ⟨#[]⟩
  case neg =>
    have HN := Lib.hid (show (lfT ⟨k, v, nm⟩).isSome = false by
      unfold lfT nmB
      simp [hnm])
    have hb : (!nm.toList.isEmpty) = true := by
      cases h : nm.toList with
      | nil => exact absurd (byte_nil h) hnm
      | cons a l => rfl
    clear hnm
    go_enter Tryz.func98, Tryz.ntmps98
    go_wp2_with fail
    go_ret
    exact ⟨ret_bool HN.out.symm, x0⟩
  subst hnm
  have hk := fun W => l1In_c k 1 14 W
  have hv := fun W => l1In_c v 0 12 W
  by_cases h1 : k = 1
  · subst h1
    have HV := Lib.hid (show (lfT ⟨1, v, ⟨#[]⟩⟩).isSome = inB 0 12 v by
      unfold lfT nmB
      cases inB 0 12 v <;> simp [inB])
    rw [show inB 1 14 1 = true from rfl] at hk
    rw [HV.out]
    generalize inB 0 12 v = ok at *
    go_enter Tryz.func98, Tryz.ntmps98
    go_wp2_with fail
    refine (hk _).mono ?_
    rintro e _ ⟨rfl, rfl⟩
    go_wp2_with fail
    refine (hv _).mono ?_
    rintro e _ ⟨rfl, rfl⟩
    go_wp2
    go_ret
    exact ⟨rfl, x0⟩
  by_cases h2 : k = 2
  · subst h2
    have HV := Lib.hid (show (lfT ⟨2, v, ⟨#[]⟩⟩).isSome = (v == 0) by
      unfold lfT nmB
      by_cases h : v = 0 <;> simp [inB, h])
    rw [show inB 1 14 2 = true from rfl] at hk
    clear h1 hv
    rw [HV.out]
    go_enter Tryz.func98, Tryz.ntmps98
    go_wp2_with fail
    refine (hk _).mono ?_
    rintro e _ ⟨rfl, rfl⟩
    clear hk
    go_wp2
    all_goals go_ret
    all_goals exact ⟨ret_bool (by first | rfl | simp), x0⟩
  cases h3 : inB 3 14 k with
  | true =>
    have HV := Lib.hid (show (lfT ⟨k, v, ⟨#[]⟩⟩).isSome = vlB k v by
      unfold lfT nmB
      cases vlB k v <;> simp [h1, h2, h3])
    rw [HV.out]
    exact tmLeaf_c k v h3 w
  | false =>
    have HN := Lib.hid (show (lfT ⟨k, v, ⟨#[]⟩⟩).isSome = false by
      unfold lfT nmB
      simp [h1, h2, h3])
    have hin : inB 1 14 k = false := by
      simp [inB] at h3 ⊢
      omega
    rw [hin] at hk
    clear h1 h2 h3 hin
    go_enter Tryz.func98, Tryz.ntmps98
    go_wp2_with fail
    refine (hk _).mono ?_
    rintro e _ ⟨rfl, rfl⟩
    go_wp2
    go_ret
    exact ⟨ret_bool HN.out.symm, x0⟩
set_option maxHeartbeats 4000000 in
theorem tmArity_n (n : Nd) (w : World) (h : (lfT n).isSome = true ∨ n.kd = 17) : Calls Tryz.prog 99 #[.agg #[.int .i64 n.kd, .int .i64 n.vl, .string n.nm]] w fun e w' => ∃ a b, e = .returned (.tuple #[.int .i64 a, .int .i64 b]) ∧ (n.kd ≠ 17 → lfT n = some (a, b)) ∧ Ex w w' := by
  obtain ⟨k, v, nm⟩ := n
  dsimp only at h ⊢
  have x0 := (Ex.refl w).alloc (.cells #[.int .i64 k, .int .i64 v, .string nm] 84)
  by_cases h17 : k = 17
  · subst h17
    have hk : ∀ W, Calls Tryz.prog 107 #[.int .i64 17] W fun e w' => e = .returned (.tuple #[.int .i64 1, .int .i64 1]) ∧ Ex W w' := fun W => by
      go_enter Tryz.func107, Tryz.ntmps107
      go_wp2
      go_ret2
      exact ⟨rfl, Ex.refl W⟩
    clear h
    go_enter Tryz.func99, Tryz.ntmps99
    go_wp2_with fail
    refine (hk _).mono ?_
    rintro e w2 ⟨rfl, x2⟩
    go_wp2
    go_ret2
    exact ⟨1, 1, rfl, fun e => absurd rfl e, x0.trans x2⟩
  have hs : (lfT ⟨k, v, nm⟩).isSome = true := h.resolve_right h17
  by_cases h1 : k = 1
  · subst h1
    have HV := Lib.hid (show lfT ⟨1, v, nm⟩ = some (v, v) by
      unfold lfT at hs ⊢
      split at hs
      · rename_i hc
        rw [if_pos hc]
      · simp [inB] at hs)
    clear h hs h17
    go_enter Tryz.func99, Tryz.ntmps99
    go_wp2_with fail
    go_quiet (fail)
    go_wp2_with fail
    go_ret2
    exact ⟨v, v, rfl, fun _ => HV.out, x0.trans ((Ex.refl _).drewN _)⟩
  by_cases h2 : k = 2
  · subst h2
    have HV := Lib.hid (show lfT ⟨2, v, nm⟩ = some (2, 2) by
      unfold lfT at hs ⊢
      split at hs
      · rename_i hc; simp at hc
      · rename_i hc
        rw [if_neg hc]
        split at hs
        · rename_i hc2; rw [if_pos hc2]
        · simp [inB] at hs)
    have hk : ∀ W, Calls Tryz.prog 107 #[.int .i64 2] W fun e w' => e = .returned (.tuple #[.int .i64 2, .int .i64 2]) ∧ Ex W w' := fun W => by
      go_enter Tryz.func107, Tryz.ntmps107
      go_wp2
      go_ret2
      exact ⟨rfl, Ex.refl W⟩
    clear h hs h17 h1
    go_enter Tryz.func99, Tryz.ntmps99
    go_wp2_with fail
    refine (hk _).mono ?_
    rintro e w2 ⟨rfl, x2⟩
    go_wp2
    go_ret2
    exact ⟨2, 2, rfl, fun _ => HV.out, x0.trans x2⟩
  have h3 : inB 3 14 k = true := by
    unfold lfT at hs
    split at hs
    · rename_i hc; exact absurd hc.2.1 h1
    · split at hs
      · rename_i hc; exact absurd hc.2.1 h2
      · split at hs
        · rename_i hc; exact hc.2.1
        · cases hs
  have HV := Lib.hid (show lfT ⟨k, v, nm⟩ = some (gw k) by
    unfold lfT at hs ⊢
    split at hs
    · rename_i hc; exact absurd hc.2.1 h1
    · rename_i c1
      rw [if_neg c1]
      split at hs
      · rename_i hc; exact absurd hc.2.1 h2
      · rename_i c2
        rw [if_neg c2]
        split at hs
        · rename_i hc; rw [if_pos hc]
        · cases hs)
  have hk := fun W => tmKind_c k h3 W
  have n1 : (k == 1) = false := by simpa using h1
  obtain ⟨⟨a, b⟩, hab⟩ : ∃ ab, gw k = ab := ⟨_, rfl⟩
  rw [hab] at HV
  simp only [hab] at hk
  clear h hs h17 h1 h2 h3 hab
  go_enter Tryz.func99, Tryz.ntmps99
  go_wp2_with fail
  refine (hk _).mono ?_
  rintro e w2 ⟨rfl, x2⟩
  go_wp2
  go_ret2
  exact ⟨a, b, rfl, fun _ => HV.out, x0.trans x2⟩
theorem lbFind_n (nm : ByteArray) (w : World) : Calls Tryz.prog 100 #[.slice none 0 0, .string nm] w fun e w' => e = .returned (.int .i64 (-1)) ∧ Ex w w' := by
  go_enter Tryz.func100, Tryz.ntmps100
  go_wp2
  go_loop [9] (fun i => i = .int .i64 0) (fun _ => 0)
  case atStart => rfl
  case round =>
    subst hrel
    go_wp2
    go_ret
    exact ⟨rfl, Ex.refl w⟩
end Go.Proofs.YtphdcgimibnajaaGreat
namespace Go.Proofs.YtphdcgimibnajaaGreat
set_option maxRecDepth 100000
open Go Go.RowKit
def wrC (x : Int × Int) : List Value := [.int .i64 x.1, .int .i64 x.2]
def EW : EK (Int × Int) where
  k := 2
  R := fun _ vs x => vs = wrC x
  O := fun _ _ _ vs x => vs = wrC x
  tot := fun _ => 2
  mkE := fun k _ => (k, k + 1)
  rlen := fun h => by subst h; rfl
  ex := fun h _ => h
  rd := fun h => h
  keep := fun h _ => h
  nn := fun _ => by omega
  tmk := fun _ _ => rfl
theorem peW : PE EW wrC where
  R := Iff.rfl
  O := Iff.rfl
  len := fun _ => rfl
  one := fun x u hu => by
    simp only [wrC, List.mem_cons, List.not_mem_nil, or_false] at hu
    rcases hu with rfl | rfl <;> rfl
  pos := by decide
/-- Two of the stack are joined. -/
def jnS (k : Int) : List (Int × Int) → Option (List (Int × Int))
  | b :: a :: r => (jnT k a b).map (· :: r)
  | _ => none
theorem stp_join {st : List (Int × Int)} {n : Nd} (h : n.kd = 15 ∨ n.kd = 16) : stp st n = if n.vl = 0 ∧ nmB n = true then jnS n.kd st else none := by
  unfold stp jnS
  rw [if_pos h]
  split
  · rcases st with _ | ⟨b, _ | ⟨a, r⟩⟩ <;> rfl
  · rfl
theorem stp_ne {st s : List (Int × Int)} {n : Nd} (h : stp st n = some s) : s ≠ [] := by
  unfold stp at h
  split at h
  · split at h
    · split at h
      · rename_i r
        cases hj : jnT n.kd _ _ with
        | none => rw [hj] at h; cases h
        | some c => rw [hj] at h; injection h with h; rw [← h]; exact List.cons_ne_nil _ _
      · cases h
    · cases h
  · cases hl : lfT n with
    | none => rw [hl] at h; cases h
    | some c => rw [hl] at h; injection h with h; rw [← h]; exact List.cons_ne_nil _ _
theorem scn_ne : ∀ {l : List Nd} {st s : List (Int × Int)}, scn l st = some s → l ≠ [] → s ≠ []
  | [], _, _, _, h => absurd rfl h
  | [n], st, s, h, _ => by
    change ((stp st n).bind fun s => some s) = some s at h
    cases hs : stp st n with
    | none => rw [hs] at h; cases h
    | some c => rw [hs] at h; injection h with h; rw [← h]; exact stp_ne hs
  | n :: m :: l, st, s, h, _ => by
    change ((stp st n).bind (scn (m :: l))) = some s at h
    cases hs : stp st n with
    | none => rw [hs] at h; cases h
    | some c => rw [hs] at h; exact scn_ne (l := m :: l) h (List.cons_ne_nil _ _)
theorem wiresInfo : (Tryz.prog.info? 124).map (fun i => (i.zero, i.size, i.bytes)) = some (some (.agg #[.int .i64 0, .int .i64 0]), 2, 16) := by kernel_rfl
def AW (w : World) (B : Nat) (v : Value) (xs : List (Int × Int)) : Prop := AF EW wrC 124 w B v xs
theorem aw_push (w : World) (B : Nat) (v : Value) (ys : List (Int × Int)) (x : Int × Int) (hv : AW w B v ys) (hB : B ≤ w.heap.size) (hl : ys.length + 1 ≤ 1099511627776) :
    ∃ v' w', (Builtin.append_ #[134, 134] 134 #[v, .slice (some ⟨w.heap.size, 0, none⟩) 1 1]).run Tryz.prog (w.alloc (.cells #[.int .i64 x.1, .int .i64 x.2] 124)) = .ok v' w' ∧ AW w' B v' (ys ++ [x]) ∧ (v'.ownBlock = v.ownBlock ∨ ∃ k, v'.ownBlock = some k ∧ w.heap.size ≤ k) ∧ ExO v.ownBlock w w' ∧ v' ≠ .slice none 0 0 := by
  obtain ⟨i, hi, hz, hs, hb⟩ := info_parts wiresInfo
  exact af_push peW 134 Tryz.underlying134 hi hz hs hb rfl w B v ys x hv hB hl (by omega)
theorem enters_leafWires : ∀ args w, (callFunc 112 args).run Tryz.prog w = .ok (.enter 112 args) w := enters_of Tryz.func112 (by kernel_rfl) rfl
set_option maxHeartbeats 8000000 in
theorem typed_c (l : List Nd) (A : Option Addr) (c : Nat) (w : World) (h : RdS EN w A l) :
    Calls Tryz.prog 111 #[.slice A l.length c, .func (.func 112) #[] #[]] w fun e w' => ∃ a b, e = .returned (.tuple #[.agg #[.int .i64 a, .int .i64 b], .bool (trmB l)]) ∧ (trmB l = true → typO l = some (a, b)) ∧ Ex w w' := by
  have eg := enters_leafWires
  have hl := h.1
  have H := Lib.hid h
  obtain ⟨N, hN⟩ : ∃ N, l.length = N := ⟨_, rfl⟩
  have HN := Lib.hid hN
  rw [hN] at hl ⊢
  clear hN h
  have x0 := (Ex.refl w).alloc (.cells #[.int .i64 0, .int .i64 0] 124)
  have v0 := VB.new w 124 #[.int .i64 0, .int .i64 0]
  obtain ⟨W0, hW0⟩ : ∃ W, w.alloc (.cells #[.int .i64 0, .int .i64 0] 124) = W := ⟨_, rfl⟩
  have s0 : W0.heap.size = w.heap.size + 1 := by rw [← hW0]; simp
  rw [hW0] at x0 v0
  have hwt := fun W => within_c (N : Int) 1 400 W
  -- the end with false
  have fin : ∀ (W : World), VB W w.heap.size 124 #[.int .i64 0, .int .i64 0] → Ex w W → trmB l = false →
      ∃ W', W' = (W.setCell ⟨w.heap.size, 0, none⟩ (.int .i64 0)).setCell ⟨w.heap.size, 1, none⟩ (.int .i64 0) ∧ W'.cell? ⟨w.heap.size, 0, none⟩ = some (.int .i64 0) ∧ W'.cell? ⟨w.heap.size, 1, none⟩ = some (.int .i64 0) ∧ Ex w W' := fun W hv hx _ => by
    obtain ⟨dd, zz⟩ := hv.st2 (.int .i64 0) (.int .i64 0)
    exact ⟨_, rfl, dd.cell 0 rfl, dd.cell 1 rfl, hx.ex1 zz (Nat.le_refl _)⟩
  cases hin : inB 1 400 (N : Int) with
  | false =>
    have HF := Lib.hid (show trmB l = false from typO_size (by
      rw [HN.out]
      simp [inB] at hin
      omega))
    simp only [hin] at hwt
    obtain ⟨W', hW', C0, C1, eF⟩ := fin W0 v0 x0 HF.out
    have r0 := v0.cell 0 (v := .int .i64 0) rfl
    have r1 := v0.cell 1 (v := .int .i64 0) rfl
    have z0 := v0.frozen 0
    have z1 := v0.frozen 1
    subst hW'
    clear hin fin
    go_enter Tryz.func111, Tryz.ntmps111
    go_wp2_with fail
    refine (hwt _).mono ?_
    rintro e w2 ⟨rfl, rfl⟩
    go_wp2_with fail
    refine bodyPost_ret (v := .tuple #[.agg #[.int .i64 0, .int .i64 0], .bool false]) (by simp [results, Tryz.results111, go_sem, C0, C1]) rfl ?_
    rw [HF.out]
    exact ⟨0, 0, rfl, fun e => Bool.noConfusion e, eF⟩
  | true =>
    have hNb : 1 ≤ N ∧ N ≤ 400 := by
      simp [inB] at hin
      omega
    simp only [hin] at hwt
    clear hin
    have y1 := (Ex.refl W0).alloc (.cells #[] 124)
    have a1 : AW (W0.alloc (.cells #[] 124)) W0.heap.size (.slice (some ⟨W0.heap.size, 0, none⟩) 0 0) [] := AF.empty W0 (Nat.le_refl _)
    have v1 := v0.ex y1
    rw [s0] at a1
    go_enter Tryz.func111, Tryz.ntmps111
    go_wp2_with fail
    refine (hwt _).mono ?_
    rintro e w2 ⟨rfl, rfl⟩
    go_wp2_with fail
    obtain ⟨W1, hW1⟩ : ∃ W, W0.alloc (.cells #[] 124) = W := ⟨_, rfl⟩
    rw [hW1] at y1 a1 v1 ⊢
    clear hW1
    go_loopw [6, 22] (fun s i wr => ∃ (k : Nat) (st : List (Int × Int)), k ≤ N ∧ i = .int .i64 k ∧ Hid (scn (l.take k) [] = some st) ∧ AW wr (w.heap.size + 1) s st.reverse ∧ Hid (∀ u ∈ st, (0 ≤ u.1 ∧ u.1 ≤ 12) ∧ (0 ≤ u.2 ∧ u.2 ≤ 12)) ∧ st.length ≤ k ∧ s ≠ .slice none 0 0 ∧ VB wr w.heap.size 124 #[.int .i64 0, .int .i64 0] ∧ Ex w wr ∧ w.heap.size + 1 ≤ wr.heap.size) (fun _ i _ => N - (intOf i).toNat)
    case atStart => exact ⟨0, [], Nat.zero_le _, rfl, Lib.hid rfl, a1, Lib.hid (fun u hu => by simp at hu), Nat.le_refl _, (fun e => by injection e with e; cases e), v1, x0.trans y1, by rw [← s0]; exact y1.size⟩
    case round =>
      rename World => wi
      clear a1 y1 v1
      obtain ⟨k, st, hk, rfl, HS, hst, HB, hsk, hsn, hv, he, hsz⟩ := hrel
      obtain ⟨A6, c6, e6, _⟩ := AF.form hst
      obtain ⟨m, hm⟩ : ∃ m, st.length = m := ⟨_, rfl⟩
      have HM := Lib.hid hm
      rw [List.length_reverse, hm] at e6
      rw [hm] at hsk
      subst e6
      clear hm
      by_cases hlt : k < N
      · obtain ⟨g, off, n, eA, hn, q0, q1, q2⟩ := (H.out.ex he).node (by rw [HN.out]; exact hlt)
        subst eA
        have HNd := Lib.hid hn
        have HSC := Lib.hid (scn_snoc hn [])
        have x2 := (Ex.refl wi).alloc (.cells #[.int .i64 n.kd, .int .i64 n.vl, .string n.nm] 84)
        have n2 := VB.new wi 84 #[.int .i64 n.kd, .int .i64 n.vl, .string n.nm]
        obtain ⟨W2, hW2⟩ : ∃ W, wi.alloc (.cells #[.int .i64 n.kd, .int .i64 n.vl, .string n.nm] 84) = W := ⟨_, rfl⟩
        have s2 : W2.heap.size = wi.heap.size + 1 := by rw [← hW2]; simp
        rw [hW2] at x2 n2
        have d0 := n2.cell 0 (v := .int .i64 n.kd) rfl
        have d1 := n2.cell 1 (v := .int .i64 n.vl) rfl
        have d2 := n2.cell 2 (v := .string n.nm) rfl
        clear hn
        by_cases hb : n.kd = 15 ∨ n.kd = 16
        · have hkk : ((n.kd != 15) && (n.kd != 16)) = false := by rcases hb with h | h <;> simp [h]
          have HST := Lib.hid (stp_join (st := st) hb)
          have hstop : stp st n = none → trmB l = false := fun h => typO_stop (scn_stop (k := k + 1) (by rw [HSC.out, HS.out]; exact h))
          have HST2 := Lib.hid hstop
          clear hstop
          have hK : (n.kd != 15) = false ∨ ((n.kd != 15) = true ∧ (n.kd != 16) = false) := by
            by_cases h : n.kd = 15
            · exact .inl (by simp [h])
            · exact .inr ⟨by simpa using h, by simp; omega⟩
          clear hkk hb
          by_cases hvl : n.vl = 0
          case neg =>
            have hvb : (n.vl != 0) = true := by simpa using hvl
            have HF := Lib.hid (HST2.out (by rw [HST.out, if_neg (fun h => hvl h.1)]))
            clear hvl
            rcases hK with hK1 | ⟨hK1, hK2⟩
            all_goals
              have hv4 := hv.ex x2
              have r0 := hv4.cell 0 (v := .int .i64 0) rfl
              have r1 := hv4.cell 1 (v := .int .i64 0) rfl
              have z0 := hv4.frozen 0
              have z1 := hv4.frozen 1
              obtain ⟨W', hW', C0, C1, eF⟩ := fin _ hv4 (he.trans x2) HF.out
              subst hW'
              go_wp2_with fail
              refine bodyPost_ret (v := .tuple #[.agg #[.int .i64 0, .int .i64 0], .bool false]) (by simp [results, Tryz.results111, go_sem, C0, C1]) rfl ?_
              rw [HF.out]
              exact ⟨0, 0, rfl, fun e => Bool.noConfusion e, eF⟩
          have hvb : (n.vl != 0) = false := by simpa using hvl
          by_cases hnm : n.nm = ⟨#[]⟩
          case neg =>
            have hnb : (!n.nm.toList.isEmpty) = true := by
              cases h : n.nm.toList with
              | nil => exact absurd (byte_nil h) hnm
              | cons a l => rfl
            have HF := Lib.hid (HST2.out (by rw [HST.out, if_neg (fun h => hnm (by simpa [nmB] using h.2))]))
            clear hvl hnm
            rcases hK with hK1 | ⟨hK1, hK2⟩
            all_goals
              have hv4 := hv.ex x2
              have r0 := hv4.cell 0 (v := .int .i64 0) rfl
              have r1 := hv4.cell 1 (v := .int .i64 0) rfl
              have z0 := hv4.frozen 0
              have z1 := hv4.frozen 1
              obtain ⟨W', hW', C0, C1, eF⟩ := fin _ hv4 (he.trans x2) HF.out
              subst hW'
              go_wp2_with fail
              refine bodyPost_ret (v := .tuple #[.agg #[.int .i64 0, .int .i64 0], .bool false]) (by simp [results, Tryz.results111, go_sem, C0, C1]) rfl ?_
              rw [HF.out]
              exact ⟨0, 0, rfl, fun e => Bool.noConfusion e, eF⟩
          have hnb : (!n.nm.toList.isEmpty) = false := by rw [hnm, ByteArray.toList_eq]; rfl
          have HST3 := Lib.hid (show stp st n = jnS n.kd st from HST.out.trans (if_pos (And.intro hvl (by simp [nmB, hnm]))))
          clear hvl hnm HST
          by_cases hm2 : m < 2
          · have HF := Lib.hid (HST2.out (by
              rw [HST3.out]
              have := HM.out
              match st, this with
              | [], _ => rfl
              | [_], _ => rfl
              | _ :: _ :: r, h => simp at h; omega))
            have hm2' : ((m : Int) < 2) := by omega
            rcases hK with hK1 | ⟨hK1, hK2⟩
            all_goals
              have hv4 := hv.ex x2
              have r0 := hv4.cell 0 (v := .int .i64 0) rfl
              have r1 := hv4.cell 1 (v := .int .i64 0) rfl
              have z0 := hv4.frozen 0
              have z1 := hv4.frozen 1
              obtain ⟨W', hW', C0, C1, eF⟩ := fin _ hv4 (he.trans x2) HF.out
              subst hW'
              go_wp2_with fail
              refine bodyPost_ret (v := .tuple #[.agg #[.int .i64 0, .int .i64 0], .bool false]) (by simp [results, Tryz.results111, go_sem, C0, C1]) rfl ?_
              rw [HF.out]
              exact ⟨0, 0, rfl, fun e => Bool.noConfusion e, eF⟩
          · obtain ⟨b, a, r, rfl⟩ : ∃ b a r, st = b :: a :: r := by
              have := HM.out
              match st, this with
              | [], h => simp at h; omega
              | [_], h => simp at h; omega
              | b :: a :: r, _ => exact ⟨b, a, r, rfl⟩
            obtain ⟨m0, hm0⟩ : ∃ m0, r.length = m0 := ⟨_, rfl⟩
            have hmm : m = m0 + 2 := by have := HM.out; simp at this; omega
            have HR := Lib.hid hm0
            have HRV := Lib.hid (show (b :: a :: r).reverse = r.reverse ++ [a, b] by simp)
            have hlm : (b :: a :: r).reverse.length = m := by rw [List.length_reverse]; exact HM.out
            obtain ⟨m1, hm1⟩ : ∃ q, m0 + 1 = q := ⟨_, rfl⟩
            have hwa : IntKind.i64.wrap ((m : Int) - 1) = (m1 : Int) := by rw [IntWalk.i64_in _ (by omega)]; omega
            have hwb : IntKind.i64.wrap ((m1 : Int) - 1) = (m0 : Int) := by rw [IntWalk.i64_in _ (by omega)]; omega
            have hb2 : ¬ ((m : Int) < 2) := by omega
            have hb0 : m0 < m := by omega
            have hb1 : m1 < m := by omega
            obtain ⟨A7, c7, e7, _, hrd, _⟩ := AF.ows hst peW (by rw [hlm]; omega)
            injection e7 with e7 e8 e9
            subst e7
            clear e8 e9
            obtain ⟨gS, oS, vs, x, rfl, hx, hc, rfl⟩ := hrd.at_ (j := m0) (by rw [hlm]; omega)
            rw [HRV.out, List.getElem?_append_right (by rw [List.length_reverse]; omega), List.length_reverse, hm0, Nat.sub_self] at hx
            injection hx with hx
            subst hx
            obtain ⟨g', o', vs, x, eA, hx, hc', rfl⟩ := hrd.at_ (j := m1) (by rw [hlm]; omega)
            rw [HRV.out, List.getElem?_append_right (by rw [List.length_reverse]; omega), List.length_reverse, hm0, ← hm1, Nat.add_sub_cancel_left] at hx
            injection hx with hx
            subst hx
            injection eA with eA
            injection eA with eA1 eA2
            subst eA1 eA2
            have hcc := fun i u h => cell_ex x2 (hc i u h)
            have hcd := fun i u h => cell_ex x2 (hc' i u h)
            have a0 : W2.cell? ⟨gS, oS + m0 * 2, none⟩ = some (.int .i64 a.1) := hcc 0 _ rfl
            have a1 : W2.cell? ⟨gS, oS + m0 * 2 + 1, none⟩ = some (.int .i64 a.2) := hcc 1 _ rfl
            have b0 : W2.cell? ⟨gS, oS + m1 * 2, none⟩ = some (.int .i64 b.1) := hcd 0 _ rfl
            have b1 : W2.cell? ⟨gS, oS + m1 * 2 + 1, none⟩ = some (.int .i64 b.2) := hcd 1 _ rfl
            have HO := Lib.hid (AF.own hst).1
            have HMM := Lib.hid hmm
            have HM1 := Lib.hid hm1
            have HSN := Lib.hid hsn
            have hba := HB.out a (by simp)
            have hbb := HB.out b (by simp)
            have HBR := Lib.hid (show ∀ u ∈ r, (0 ≤ u.1 ∧ u.1 ≤ 12) ∧ (0 ≤ u.2 ∧ u.2 ≤ 12) from fun u hu => HB.out u (by simp [hu]))
            have cJ := fun W => joinWires_c n.kd a b hba hbb W
            have bJ := fun c d => jnT_bd (k := n.kd) (c := (c, d)) hba hbb
            have HJN := Lib.hid (show jnS n.kd (b :: a :: r) = (jnT n.kd a b).map (· :: r) from rfl)
            clear hba hbb HB
            have SZ2 := Lib.hid s2
            clear hm2 hc hc' hcc hcd hrd hlm hmm hm1 hm0 hsn s2
            obtain ⟨a1', a2'⟩ := a
            obtain ⟨b1', b2'⟩ := b
            dsimp only at a0 a1 b0 b1 cJ
            have hvK := hv.ex x2
            have hstK := AF.ex hst x2
            have HS2 : ∀ W, Ex W2 W → (Ex W2 W ∧ W.cell? ⟨wi.heap.size, 0, none⟩ = some (.int .i64 n.kd) ∧ W.cell? ⟨gS, oS + m0 * 2, none⟩ = some (.int .i64 a1') ∧ W.cell? ⟨gS, oS + m0 * 2 + 1, none⟩ = some (.int .i64 a2') ∧ W.cell? ⟨gS, oS + m1 * 2, none⟩ = some (.int .i64 b1') ∧ W.cell? ⟨gS, oS + m1 * 2 + 1, none⟩ = some (.int .i64 b2')) := fun W h => ⟨h, cell_ex h d0, cell_ex h a0, cell_ex h a1, cell_ex h b0, cell_ex h b1⟩
            have eA := (Ex.refl W2).drew
            have eB := ((Ex.refl W2).alloc (.cells #[.int .i64 0, .int .i64 0] 124)).drew
            have vT := VB.new W2 124 #[.int .i64 0, .int .i64 0]
            have hz2 : (W2.alloc (.cells #[.int .i64 0, .int .i64 0] 124)).heap.size = W2.heap.size + 1 := by simp
            rcases hK with hK1 | ⟨hK1, hK2⟩
            all_goals
              go_wp2_with fail
              go_cut [12, 13] from 64 to 78 (fun s12 s13 W => ∃ (T : Nat) (c d : Int) (ok : Bool), s12 = .pointer (some ⟨T, 0, none⟩) ∧ s13 = .bool ok ∧ Hid (ok = true → jnT n.kd (a1', a2') (b1', b2') = some (c, d)) ∧ Hid (ok = false → jnT n.kd (a1', a2') (b1', b2') = none) ∧ VB W T 124 #[.int .i64 c, .int .i64 d] ∧ W2.heap.size ≤ T ∧ Ex W2 W)
              case first =>
                go_region_held3 (fun W => Ex W2 W ∧ W.cell? ⟨wi.heap.size, 0, none⟩ = some (.int .i64 n.kd) ∧ W.cell? ⟨gS, oS + m0 * 2, none⟩ = some (.int .i64 a1') ∧ W.cell? ⟨gS, oS + m0 * 2 + 1, none⟩ = some (.int .i64 a2') ∧ W.cell? ⟨gS, oS + m1 * 2, none⟩ = some (.int .i64 b1') ∧ W.cell? ⟨gS, oS + m1 * 2 + 1, none⟩ = some (.int .i64 b2')) (first
                  | (exact HS2 _ ((x5.setCell (p := ⟨W2.heap.size, 0, none⟩) (Nat.le_refl _) _).setCell (p := ⟨W2.heap.size, 1, none⟩) (Nat.le_refl _) _)) | (exact HS2 _ (x5.alloc _)) | (exact HS2 _ x5) | (exact HS2 _ eB) | (exact HS2 _ ((Ex.refl W2).alloc _)) | (exact HS2 _ eA) | (exact HS2 _ (Ex.refl W2))) (first
                  | (go_at_call 114
                     have hb := (‹Ex W2 _ ∧ _›).1
                     refine (cJ _).mono ?_
                     rintro e w5 ⟨c5, d5, ok5, rfl, hok5, hno5, x5'⟩
                     have x5 := hb.trans x5'
                     have HOK5 := Lib.hid hok5
                     have HNO5 := Lib.hid hno5
                     try have vZ := VB.ex (w := (W2.alloc (.cells #[.int .i64 0, .int .i64 0] 124)).drew) vT x5'
                     try have cZ := vZ.cell 0 (v := .int .i64 0) rfl
                     try have cY := vZ.cell 1 (v := .int .i64 0) rfl
                     try have fZ := vZ.frozen 0
                     try have fY := vZ.frozen 1
                     clear hb hok5 hno5))
                all_goals
                  go_wp2_with fail
                  go_meet
                  first
                  | exact ⟨_, _, _, _, rfl, rfl, HOK5, HNO5, VB.new _ _ _, x5.size, x5.alloc _⟩
                  | (obtain ⟨dd, zz⟩ := vZ.st2 (.int .i64 c5) (.int .i64 d5)
                     exact ⟨_, _, _, _, rfl, rfl, HOK5, HNO5, dd, Nat.le_refl _, x5.ex1 zz (Nat.le_refl _)⟩)
              case rest =>
                obtain ⟨W5, rfl⟩ : ∃ q, q = wc := ⟨_, rfl⟩
                obtain ⟨T, c5, d5, ok5, rfl, rfl, HOK5, HNO5, vT5, hT5, x5⟩ := hcut
                have hv5 := hvK.ex x5
                have hst5 := AF.ex hstK x5
                have X5 := (he.trans x2).trans x5
                have hz5 := x5.size
                have hwz := (he.trans x2).size
                have LT5 := vT5.lt
                have hgl := (AF.lt hstK gS rfl)
                clear HS2 a0 a1 b0 b1 d0 d1 d2 q0 q1 q2 eA eB vT hz2 hstK hvK
                cases ok5 with
                | false =>
                  have HF := Lib.hid (HST2.out (by rw [HST3.out, HJN.out, HNO5.out rfl]; rfl))
                  have r0 := hv5.cell 0 (v := .int .i64 0) rfl
                  have r1 := hv5.cell 1 (v := .int .i64 0) rfl
                  have z0 := hv5.frozen 0
                  have z1 := hv5.frozen 1
                  obtain ⟨W', hW', C0, C1, eF⟩ := fin _ hv5 X5 HF.out
                  subst hW'
                  go_wp2_with fail
                  refine bodyPost_ret (v := .tuple #[.agg #[.int .i64 0, .int .i64 0], .bool false]) (by simp [results, Tryz.results111, go_sem, C0, C1]) rfl ?_
                  rw [HF.out]
                  exact ⟨0, 0, rfl, fun e => Bool.noConfusion e, eF⟩
                | true =>
                  have hoS := HO.out
                  subst hoS
                  have HS3 := Lib.hid (show scn (l.take (k + 1)) [] = some ((c5, d5) :: r) by rw [HSC.out, HS.out]; show stp _ n = _; rw [HST3.out, HJN.out, HOK5.out rfl]; rfl)
                  have hbd := bJ c5 d5 (HOK5.out rfl)
                  have HB3 := Lib.hid (show ∀ u ∈ (c5, d5) :: r, (0 ≤ u.1 ∧ u.1 ≤ 12) ∧ (0 ≤ u.2 ∧ u.2 ≤ 12) from fun u hu => by
                    rcases List.mem_cons.1 hu with rfl | hu
                    · exact hbd
                    · exact HBR.out u hu)
                  have hmc := (AF.own hst5).2.2.1
                  have hmc0 : m0 ≤ c6 := by omega
                  have hstT := AF.take hst5 peW m0 (by rw [HRV.out, List.length_append, List.length_reverse, HR.out]; omega)
                  rw [show (((b1', b2') :: (a1', a2') :: r).reverse).take m0 = r.reverse by rw [HRV.out]; exact List.take_left' (by rw [List.length_reverse]; exact HR.out)] at hstT
                  obtain ⟨v6, w6, hrun', hst6, _, hE6, hnn6⟩ := aw_push W5.drew (w.heap.size + 1) _ _ (c5, d5) hstT (by show _ ≤ W5.heap.size; omega) (by rw [List.length_reverse, HR.out]; omega)
                  rw [← List.reverse_cons] at hst6
                  have hrun : (Builtin.append_ #[134, 134] 134 #[.slice (some ⟨gS, 0, none⟩) m0 c6, .slice (some ⟨W5.heap.size, 0, none⟩) 1 1]).run Tryz.prog ((W5.alloc (.cells #[.int .i64 c5, .int .i64 d5] 124)).drew) = .ok v6 w6 := hrun'
                  have hE6' : ExO (some gS) W5 w6 := (ExO.of_ex ((Ex.refl W5).drew)).trans hE6
                  have hB6 := (AF.own hst5).2.2.2.1
                  have hvlt := hv.lt
                  have hvT6 : VB w6 T 124 #[.int .i64 c5, .int .i64 d5] := (hE6'.block T LT5 (fun e => by injection e with e; omega)).trans vT5
                  have hv6 : VB w6 w.heap.size 124 #[.int .i64 0, .int .i64 0] := (hE6'.block w.heap.size (by omega) (fun e => by injection e with e; omega)).trans hv5
                  have x6 := X5.exo hE6' (fun q e => by injection e with e; omega)
                  have hz6 := hE6'.size
                  have t0 := vT5.cell 0 (v := .int .i64 c5) rfl
                  have t1 := vT5.cell 1 (v := .int .i64 d5) rfl
                  have eN := (Ex.refl W5).alloc (.cells #[.int .i64 c5, .int .i64 d5] 124)
                  have hmcI : (m0 : Int) ≤ (c6 : Int) := by omega
                  have hm0I : (0 : Int) ≤ (m0 : Int) := by omega
                  clear hE6 hE6' hstT hst5 hst HSC hv hrun' hbd
                  go_wp2_with fail
                  go_region_held3 (fun W => W.cell? ⟨T, 0, none⟩ = some (.int .i64 c5) ∧ W.cell? ⟨T, 1, none⟩ = some (.int .i64 d5)) (first
                    | (exact ⟨t0, t1⟩)
                    | (exact ⟨cell_ex eN t0, cell_ex eN t1⟩)
                    | (exact ⟨hvT6.cell 0 rfl, hvT6.cell 1 rfl⟩)) (first
                    | (refine step_append_run (vs := .slice (some ⟨gS, 0, none⟩) m0 c6) (vx := .slice (some ⟨W5.heap.size, 0, none⟩) 1 1) rfl _ _ _ rfl rfl rfl (by with_reducible exact hrun) ?_))
                  go_wp2_with fail
                  go_roundw
                  case rel => exact ⟨k + 1, (c5, d5) :: r, by omega, by go_num, HS3, hst6, HB3, by have := HMM.out; rw [List.length_cons, HR.out]; omega, hnn6, hv6, x6, by omega⟩
                  case measure => simp [intOf]; omega
        · have h15 : (n.kd != 15) = true := by simp; omega
          have h16 : (n.kd != 16) = true := by simp; omega
          have HST := Lib.hid (show stp st n = (lfT n).map (· :: st) from if_neg hb)
          have cL := fun W => leafWires_c n W
          clear hb
          go_wp2_with fail
          refine (cL _).mono ?_
          rintro e w3 ⟨a, b, ok, rfl, hok, hno, x3⟩
          have x23 := x2.trans x3
          have HOK := Lib.hid hok
          have HNO := Lib.hid hno
          have y4 := (Ex.refl w3).alloc (.cells #[.int .i64 a, .int .i64 b] 124)
          have v4 := VB.new w3 124 #[.int .i64 a, .int .i64 b]
          have x4 := x23.trans y4
          clear hok hno
          cases ok with
          | false =>
            have HF := Lib.hid (show trmB l = false from typO_stop (scn_stop (k := k + 1) (by rw [HSC.out, HS.out]; show stp st n = none; rw [HST.out, HNO.out rfl]; rfl)))
            have hv4 := hv.ex x4
            have r0 := hv4.cell 0 (v := .int .i64 0) rfl
            have r1 := hv4.cell 1 (v := .int .i64 0) rfl
            have z0 := hv4.frozen 0
            have z1 := hv4.frozen 1
            obtain ⟨W', hW', C0, C1, eF⟩ := fin _ hv4 (he.trans x4) HF.out
            subst hW'
            go_wp2_with fail
            refine bodyPost_ret (v := .tuple #[.agg #[.int .i64 0, .int .i64 0], .bool false]) (by simp [results, Tryz.results111, go_sem, C0, C1]) rfl ?_
            rw [HF.out]
            exact ⟨0, 0, rfl, fun e => Bool.noConfusion e, eF⟩
          | true =>
            have HS2 := Lib.hid (show scn (l.take (k + 1)) [] = some ((a, b) :: st) by rw [HSC.out, HS.out]; show stp st n = _; rw [HST.out, HOK.out rfl]; rfl)
            have hbd := lfT_bd (HOK.out rfl)
            have HB2 := Lib.hid (show ∀ u ∈ (a, b) :: st, (0 ≤ u.1 ∧ u.1 ≤ 12) ∧ (0 ≤ u.2 ∧ u.2 ≤ 12) from fun u hu => by
              rcases List.mem_cons.1 hu with rfl | hu
              · exact hbd
              · exact HB.out u hu)
            have HRV := Lib.hid (show ((a, b) :: st).reverse = st.reverse ++ [(a, b)] by simp)
            obtain ⟨W4, hW4⟩ : ∃ W, w3.alloc (.cells #[.int .i64 a, .int .i64 b] 124) = W := ⟨_, rfl⟩
            rw [hW4] at y4 v4 x4
            have g0 := v4.cell 0 (v := .int .i64 a) rfl
            have g1 := v4.cell 1 (v := .int .i64 b) rfl
            have z4 := x4.size
            obtain ⟨v5, w5, hrun, hst5, _, hE5, hnn5⟩ := aw_push W4 (w.heap.size + 1) _ _ (a, b) (AF.ex hst x4) (by omega) (by rw [List.length_reverse, HM.out]; omega)
            rw [← HRV.out] at hst5
            have hlt5 := fun q e => (AF.lt hst q e).1
            have x5 := (he.trans x4).exo hE5 (fun q e => by have := hlt5 q e; omega)
            have hvl := hv.lt
            have hv5 : VB w5 w.heap.size 124 #[.int .i64 0, .int .i64 0] := (hE5.block w.heap.size (by omega) (fun e => by have := hlt5 _ e.symm; omega)).trans (hv.ex x4)
            have z5 := hE5.size
            clear hE5 hbd hst HST HSC hv
            go_wp2_with (at_builtin; refine wpList_append_run rfl _ _ _ rfl rfl rfl hrun ?_)
            go_roundw
            case rel => exact ⟨k + 1, (a, b) :: st, by omega, by go_num, HS2, hst5, HB2, by rw [List.length_cons, HM.out]; omega, hnn5, hv5, x5, by omega⟩
            case measure => simp [intOf]; omega
      · obtain rfl : k = N := by omega
        have HS0 := Lib.hid (show scn l [] = some st by have h := HS.out; rw [← HN.out, List.take_length] at h; exact h)
        have hne : st ≠ [] := scn_ne (HS0.out) (fun e => by have := HN.out; rw [e] at this; simp at this; omega)
        have hm1 : 1 ≤ m := by
          have := HM.out
          rcases st with _ | ⟨x, r⟩
          · exact absurd rfl hne
          · simp at this; omega
        obtain ⟨A7, c7, e7, _, hrd, _⟩ := AF.ows hst peW (by rw [List.length_reverse, HM.out]; omega)
        injection e7 with e7 e8 e9
        subst e7
        clear e8 e9
        obtain ⟨gS, oS, vs, x, rfl, hx, hc, rfl⟩ := hrd.at_ (j := 0) (by rw [List.length_reverse, HM.out]; omega)
        have HX := Lib.hid hx
        have b0 : wi.cell? ⟨gS, oS, none⟩ = some (.int .i64 x.1) := by simpa using hc 0 _ rfl
        have b1 : wi.cell? ⟨gS, oS + 1, none⟩ = some (.int .i64 x.2) := by simpa using hc 1 _ rfl
        obtain ⟨dd, zz⟩ := hv.st2 (.int .i64 x.1) (.int .i64 x.2)
        have r0 := hv.cell 0 (v := .int .i64 0) rfl
        have r1 := hv.cell 1 (v := .int .i64 0) rfl
        have z0 := hv.frozen 0
        have z1 := hv.frozen 1
        have C0 := dd.cell 0 (v := .int .i64 x.1) rfl
        have C1 := dd.cell 1 (v := .int .i64 x.2) rfl
        have eF := he.ex1 zz (Nat.le_refl _)
        have h0m : 0 < m := hm1
        have h0mI : (0 : Int) < (m : Int) := by omega
        clear hc hx hrd hne hsn
        go_wp2_with fail
        refine bodyPost_ret (v := .tuple #[.agg #[.int .i64 x.1, .int .i64 x.2], .bool ((m : Int) == 1)]) (by simp [results, Tryz.results111, go_sem, C0, C1]) rfl ?_
        have hT : trmB l = ((m : Int) == 1) := by
          rw [typO_done HS0.out (by rw [HN.out]; exact hNb), HM.out, Bool.eq_iff_iff]
          simp
          omega
        rw [hT]
        refine ⟨x.1, x.2, rfl, fun e => ?_, eF⟩
        have e1 : m = 1 := by simp at e; omega
        obtain ⟨y, hy⟩ : ∃ y, st = [y] := by
          have := HM.out
          rcases st with _ | ⟨y, _ | ⟨z, r⟩⟩
          · simp at this; omega
          · exact ⟨y, rfl⟩
          · simp at this; omega
        have hxy := HX.out
        rw [hy] at hxy
        have hxy : x = y := by simpa using hxy.symm
        unfold typO
        rw [if_pos (by rw [HN.out]; exact hNb), HS0.out, hy, hxy]
end Go.Proofs.YtphdcgimibnajaaGreat
