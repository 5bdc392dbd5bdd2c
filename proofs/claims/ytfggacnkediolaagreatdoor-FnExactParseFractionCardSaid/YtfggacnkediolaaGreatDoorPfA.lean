/- Contracts: ParseFraction, on both sides. -/
import Derived.Test.YtfggacnkediolaaGreatDoorPpL
import Derived.Test.YtfggacnkediolaaGreatDoorFrac5
import Derived.Lib.IndexLaws
namespace Go.Proofs.YtfggacnkediolaaGreatDoor
set_option maxRecDepth 100000
open Go Go.RowKit Go.Shelf
/-- The answer: what stands before the first ' / ' and what stands behind it, both read. -/
def pfR (p : Int) (s : List UInt8) : List Int × List Int × Bool :=
  if (Lib.cut s [32, 47, 32]).2.2 = true ∧ (psS p (Lib.cut s [32, 47, 32]).1).2 = true ∧ (psS p (Lib.cut s [32, 47, 32]).2.1).2 = true ∧ fracB p (psS p (Lib.cut s [32, 47, 32]).1).1 (psS p (Lib.cut s [32, 47, 32]).2.1).1 = true
  then ((psS p (Lib.cut s [32, 47, 32]).1).1, (psS p (Lib.cut s [32, 47, 32]).2.1).1, true) else ([], [], false)
theorem pfR_eq {p : Int} {s H T : List UInt8} {f o1 o2 : Bool} {n d : List Int} (hc : Lib.cut s [32, 47, 32] = (H, T, f)) (h1 : psS p H = (n, o1)) (h2 : psS p T = (d, o2)) :
    pfR p s = if f = true ∧ o1 = true ∧ o2 = true ∧ fracB p n d = true then (n, d, true) else ([], [], false) := by
  unfold pfR
  rw [hc]
  simp only [h1, h2]
theorem cut_len (s sep : List UInt8) : (Lib.cut s sep).1.length ≤ s.length ∧ (Lib.cut s sep).2.1.length ≤ s.length := by
  unfold Lib.cut
  split
  · simp only [List.length_take, List.length_drop]; omega
  · simp
theorem cut_hit {s sep : List UInt8} {i : Nat} (h : Lib.index s sep = (i : Int)) : Lib.cut s sep = (s.take i, s.drop (i + sep.length), true) := by
  unfold Lib.cut
  rw [h, if_pos (by omega), Int.toNat_natCast]
theorem cut_no {s sep : List UInt8} (h : Lib.index s sep = -1) : Lib.cut s sep = (s, [], false) := by
  unfold Lib.cut
  rw [h, if_neg (by decide)]
theorem occ_iff {s : List UInt8} {i : Nat} (h : i + 3 ≤ s.length) : Lib.occAt s [32, 47, 32] i = decide ((s.drop i).take 3 = [32, 47, 32]) := by
  unfold Lib.occAt
  rw [Bool.eq_iff_iff, List.isPrefixOf_iff_prefix, List.prefix_iff_eq_take, decide_eq_true_eq]
  exact eq_comm
theorem ParsePoly_l (p : Int) (l : List UInt8) (w : World) (hs : l.length ≤ 1048576) (hw : Wl w) : Calls Tryz.prog 12 #[.int .i64 p, .string ⟨l.toArray⟩] w fun e w' => FrRB w (psS p l) e w' := by
  have := ParsePoly_c p ⟨l.toArray⟩ w (by show l.toArray.size ≤ _; simpa using hs) hw
  simpa using this
set_option maxHeartbeats 2000000 in
theorem ParseFraction_c (p : Int) (s : ByteArray) (w : World) (hs : s.size ≤ 1048576) (hw : Wl w) : Calls Tryz.prog 5 #[.int .i64 p, .string s] w fun e w' => FRB w (pfR p s.data.toList) e w' := by
  have hsz := size_list s
  obtain ⟨H, T, f, hcut⟩ : ∃ H T f, Lib.cut s.data.toList [32, 47, 32] = (H, T, f) := ⟨_, _, _, rfl⟩
  obtain ⟨hHl, hTl⟩ := cut_len s.data.toList [32, 47, 32]
  rw [hcut] at hHl hTl
  dsimp only at hHl hTl
  obtain ⟨n, o1, h1⟩ : ∃ n o1, psS p H = (n, o1) := ⟨_, _, rfl⟩
  obtain ⟨d, o2, h2⟩ : ∃ d o2, psS p T = (d, o2) := ⟨_, _, rfl⟩
  have HR := Lib.hid (pfR_eq hcut h1 h2)
  have y1 := (Ex.refl w).alloc (.cells #[.slice none 0 0, .slice none 0 0] 24)
  have v1 := VB.new w 24 #[.slice none 0 0, .slice none 0 0]
  have S1 := Lib.hid (show (w.alloc (.cells #[.slice none 0 0, .slice none 0 0] 24)).heap.size = w.heap.size + 1 by simp)
  obtain ⟨m, hm⟩ := (hw.ex y1).2.1
  have cC := Tryz.strings_Cut s ⟨#[32, 47, 32]⟩ m _ (by omega) hm
  rw [show (⟨#[32, 47, 32]⟩ : ByteArray).data.toList = [32, 47, 32] from rfl, hcut] at cC
  dsimp only at cC
  have cH := fun W (h : Ex w W) => ParsePoly_l p H W (by omega) (hw.ex h)
  have cT := fun W (h : Ex w W) => ParsePoly_l p T W (by omega) (hw.ex h)
  rw [h1] at cH
  rw [h2] at cT
  have HW := Lib.hid hw
  clear hsz hcut hHl hTl h1 h2 hm hw
  cases f <;> cases o1 <;> cases o2
  all_goals
    go_enter Tryz.func5, Tryz.ntmps5
    go_wp2_with fail
    generalize w.alloc (.cells #[.slice none 0 0, .slice none 0 0] 24) = W at *
    refine cC.mono ?_
    rintro e W1 ⟨rfl, k, rfl⟩
    go_wp2_with fail
    refine (cH _ (y1.drewN k)).mono ?_
    rintro e W2 ⟨A2, c2, rfl, f2, x2⟩
    dsimp only at f2 ⊢
    go_wp2_with fail
    refine (cT _ ((y1.drewN k).trans x2)).mono ?_
    rintro e W3 ⟨A3, c3, rfl, f3, x3⟩
    dsimp only at f3 ⊢
    have s1 := S1.out
    have s2 := x2.size
    have s3 := x3.size
    have v3 := ((v1.ex ((Ex.refl W).drewN k)).ex x2).ex x3
    have r0 := v3.cell 0 (v := .slice none 0 0) rfl
    have r1 := v3.cell 1 (v := .slice none 0 0) rfl
    have q0 := v3.frozen 0
    have q1 := v3.frozen 1
    have y3 := ((y1.drewN k).trans x2).trans x3
    have lo2 := f2.lo
  rotate_left 7
  · cases hfr : fracB p n d
    · have H0 := Lib.hid (HR.out.trans (if_neg (by rw [hfr]; simp)))
      have cV := validFraction_no p A2 A3 c2 c3 n d W3 (f2.rd.ex x3) f3.rd (HW.out.1.ex y3) hfr
      go_wp2_with fail
      refine cV.mono ?_
      rintro e w3 ⟨rfl, x4⟩
      have v4 := v3.ex x4
      have r0 := v4.cell 0 (v := .slice none 0 0) rfl
      have r1 := v4.cell 1 (v := .slice none 0 0) rfl
      have q0 := v4.frozen 0
      have q1 := v4.frozen 1
      go_wp2_with fail
      obtain ⟨dd, z⟩ := st2 v4 (.slice none 0 0) (.slice none 0 0)
      generalize (w3.setCell ⟨w.heap.size, 0, none⟩ (.slice none 0 0)).setCell ⟨w.heap.size, 1, none⟩ (.slice none 0 0) = W5 at *
      have d0 := dd.cell 0 (v := .slice none 0 0) rfl
      have d1 := dd.cell 1 (v := .slice none 0 0) rfl
      refine bodyPost_ret (v := .tuple #[.agg #[.slice none 0 0, .slice none 0 0], .bool false]) (by simp [results, Tryz.results5, go_sem, d0, d1]) rfl ?_
      exact FRB.nil_ rfl H0.out ((y3.trans x4).ex1 z (Nat.le_refl _))
    · have H0 := Lib.hid (HR.out.trans (if_pos (by simp [hfr])))
      have cV := validFraction_yes p A2 A3 c2 c3 n d W3 (f2.rd.ex x3) f3.rd (HW.out.1.ex y3) hfr
      have ap : Apart A2 A3 := Apart.of_lo lo2 f3.hi
      go_wp2_with fail
      refine cV.mono ?_
      rintro e w3 ⟨rfl, x4⟩
      have v4 := v3.ex x4
      have r0 := v4.cell 0 (v := .slice none 0 0) rfl
      have r1 := v4.cell 1 (v := .slice none 0 0) rfl
      have q0 := v4.frozen 0
      have q1 := v4.frozen 1
      go_wp2_with fail
      obtain ⟨dd, z⟩ := st2 v4 (.slice A2 n.length c2) (.slice A3 d.length c3)
      generalize (w3.setCell ⟨w.heap.size, 0, none⟩ (.slice A2 n.length c2)).setCell ⟨w.heap.size, 1, none⟩ (.slice A3 d.length c3) = W5 at *
      have d0 := dd.cell 0 (v := .slice A2 n.length c2) rfl
      have d1 := dd.cell 1 (v := .slice A3 d.length c3) rfl
      refine bodyPost_ret (v := .tuple #[.agg #[.slice A2 n.length c2, .slice A3 d.length c3], .bool true]) (by simp [results, Tryz.results5, go_sem, d0, d1]) rfl ?_
      have sk : (W.drewN k).heap.size = W.heap.size := rfl
      have f5 := ((f2.ex x3).ex x4).ex1 z (f2.hi.off (by omega))
      have g5 := (f3.ex x4).ex1 z (f3.hi.off (by omega))
      exact FRB.yes_ rfl H0.out (f5.more (by omega)) (g5.more (by omega)) ap ((y3.trans x4).ex1 z (Nat.le_refl _))
  all_goals
    have H0 := Lib.hid (HR.out.trans (if_neg (by simp)))
    go_wp2_with fail
    obtain ⟨dd, z⟩ := st2 v3 (.slice none 0 0) (.slice none 0 0)
    generalize (W3.setCell ⟨w.heap.size, 0, none⟩ (.slice none 0 0)).setCell ⟨w.heap.size, 1, none⟩ (.slice none 0 0) = W5 at *
    have d0 := dd.cell 0 (v := .slice none 0 0) rfl
    have d1 := dd.cell 1 (v := .slice none 0 0) rfl
    refine bodyPost_ret (v := .tuple #[.agg #[.slice none 0 0, .slice none 0 0], .bool false]) (by simp [results, Tryz.results5, go_sem, d0, d1]) rfl ?_
    exact FRB.nil_ rfl H0.out (y3.ex1 z (Nat.le_refl _))
set_option maxHeartbeats 2000000 in
theorem spParseFraction_c (p : Int) (s : ByteArray) (w : World) (hs : s.size ≤ 1048576) : Calls Tryz.prog 4 #[.int .i64 p, .string s] w fun e w' => FRB w (pfR p s.data.toList) e w' := by
  have Hsz := Lib.hid (size_list s)
  have y1 := (Ex.refl w).alloc (.cells #[.slice none 0 0, .slice none 0 0] 24)
  have v1 := VB.new w 24 #[.slice none 0 0, .slice none 0 0]
  have S1 := Lib.hid (show (w.alloc (.cells #[.slice none 0 0, .slice none 0 0] 24)).heap.size = w.heap.size + 1 by simp)
  go_enter Tryz.func4, Tryz.ntmps4
  go_wp2_with fail
  generalize w.alloc (.cells #[.slice none 0 0, .slice none 0 0] 24) = W at *
  have r0 := v1.cell 0 (v := .slice none 0 0) rfl
  have r1 := v1.cell 1 (v := .slice none 0 0) rfl
  have q0 := v1.frozen 0
  have q1 := v1.frozen 1
  go_loop [6] (fun i => ∃ k : Nat, k ≤ s.size ∧ i = .int .i64 k ∧ Hid (Lib.NoOcc s.data.toList [32, 47, 32] k)) (fun i => s.size - (intOf i).toNat)
  case atStart => exact ⟨0, Nat.zero_le _, rfl, Lib.hid (fun j hj => absurd hj (Nat.not_lt_zero _))⟩
  case round =>
    obtain ⟨k, hk, rfl, Hn⟩ := hrel
    have w3 : IntKind.i64.wrap ((k : Int) + 3) = ((k + 3 : Nat) : Int) := by rw [IntWalk.i64_in _ (by omega)]; rfl
    by_cases hlt : k + 3 ≤ s.size
    · have hsl : ∀ V, (Instr.slice 9 (.string s) (some (.int .i64 (k : Int))) (some (.int .i64 ((k : Int) + 3))) none).run Tryz.prog V = .ok (.string (s.extract k (k + 3))) V := fun V => by
        have h := run_slice_string (P := Tryz.prog) (w := V) 9 s .i64 .i64 (k : Int) ((k : Int) + 3) Tryz.underlying9 (by omega) (by omega) (by omega)
        rwa [Int.toNat_natCast, show ((k : Int) + 3).toNat = k + 3 by omega] at h
      have hsm : ∀ V, (Instr.slice 9 (.string s) (some (.int .i64 ((k : Int) + 3))) none none).run Tryz.prog V = .ok (.string (s.extract (k + 3) s.size)) V := fun V => by
        have h := run_slice_string_l (P := Tryz.prog) (w := V) (t := 9) (s := s) (ht := Tryz.underlying9) .i64 ((k : Int) + 3) (by omega) (by omega)
        rwa [show ((k : Int) + 3).toNat = k + 3 by omega] at h
      have hocc := occ_iff (s := s.data.toList) (i := k) (by rw [← Hsz.out]; exact hlt)
      have hext : (s.extract k (k + 3)).data.toList = (s.data.toList.drop k).take 3 := by rw [ext_list _ _ _ hlt]; congr 1; omega
      by_cases hm : (s.data.toList.drop k).take 3 = [32, 47, 32]
      · have hc : ((s.extract k (k + 3)).toList == [32, 47, 32]) = true := by rw [ByteArray.toList_eq, hext, hm]; rfl
        have HC := Lib.hid (cut_hit (Lib.index_hit Hn.out (by rw [← Hsz.out]; exact hk) (by rw [hocc, hm]; rfl)))
        clear hocc hext hm
        obtain ⟨n, o1, h1⟩ : ∃ n o1, psS p (s.data.toList.take k) = (n, o1) := ⟨_, _, rfl⟩
        obtain ⟨d, o2, h2⟩ : ∃ d o2, psS p (s.data.toList.drop (k + 3)) = (d, o2) := ⟨_, _, rfl⟩
        have HR := Lib.hid (pfR_eq (f := true) HC.out h1 h2)
        have c1 := fun V => spParsePoly_c p (s.extract 0 k) V (by rw [ByteArray.size_extract]; omega)
        have c2 := fun V => spParsePoly_c p (s.extract (k + 3) s.size) V (by rw [ByteArray.size_extract]; omega)
        rw [ext_list _ _ _ hk, List.drop_zero, Nat.sub_zero, h1] at c1
        rw [ext_list _ _ _ (Nat.le_refl _), List.take_of_length_le (by rw [List.length_drop, ← Hsz.out]; exact Nat.le_refl _), h2] at c2
        clear h1 h2 r0 r1 q0 q1
        cases o1 <;> cases o2
        all_goals
          go_wp2_with fail
          refine (c1 _).mono ?_
          rintro e W2 ⟨A2, e2, rfl, f2, x2⟩
          dsimp only at f2 ⊢
          go_wp2_with fail
          refine (c2 _).mono ?_
          rintro e W3 ⟨A3, e3, rfl, f3, x3⟩
          dsimp only at f3 ⊢
          have s1 := S1.out
          have s2 := x2.size
          have s3 := x3.size
          have y3 := (y1.trans x2).trans x3
          have lo2 := f2.lo
          have v3 := (v1.ex x2).ex x3
          have xa := (Ex.refl W3).alloc (.cells #[.slice A2 n.length e2, .slice A3 d.length e3] 24)
          have va := VB.new W3 24 #[.slice A2 n.length e2, .slice A3 d.length e3]
          have v4 := v3.ex xa
          have y4 := y3.trans xa
          have r0 := v4.cell 0 (v := .slice none 0 0) rfl
          have r1 := v4.cell 1 (v := .slice none 0 0) rfl
          have q0 := v4.frozen 0
          have q1 := v4.frozen 1
          have a0 := va.cell 0 (v := .slice A2 n.length e2) rfl
          have a1 := va.cell 1 (v := .slice A3 d.length e3) rfl
        rotate_left 3
        · cases hfr : fracB p n d
          · have H0 := Lib.hid (HR.out.trans (if_neg (by simp [hfr])))
            go_wp2_with fail
            generalize W3.alloc (.cells #[.slice A2 n.length e2, .slice A3 d.length e3] 24) = W4 at *
            refine (frGood_c p A2 A3 e2 e3 n d W4 ((f2.rd.ex x3).ex xa) (f3.rd.ex xa)).mono ?_
            rintro e W5 ⟨rfl, x5⟩
            rw [hfr]
            have v5 := v4.ex x5
            have r0 := v5.cell 0 (v := .slice none 0 0) rfl
            have r1 := v5.cell 1 (v := .slice none 0 0) rfl
            have q0 := v5.frozen 0
            have q1 := v5.frozen 1
            go_wp2_with fail
            obtain ⟨dd, z⟩ := st2 v5 (.slice none 0 0) (.slice none 0 0)
            generalize (W5.setCell ⟨w.heap.size, 0, none⟩ (.slice none 0 0)).setCell ⟨w.heap.size, 1, none⟩ (.slice none 0 0) = W6 at *
            have d0 := dd.cell 0 (v := .slice none 0 0) rfl
            have d1 := dd.cell 1 (v := .slice none 0 0) rfl
            refine bodyPost_ret (v := .tuple #[.agg #[.slice none 0 0, .slice none 0 0], .bool false]) (by simp [results, Tryz.results4, go_sem, d0, d1]) rfl ?_
            exact FRB.nil_ rfl H0.out ((y4.trans x5).ex1 z (Nat.le_refl _))
          · have H0 := Lib.hid (HR.out.trans (if_pos (by simp [hfr])))
            have ap : Apart A2 A3 := Apart.of_lo lo2 f3.hi
            go_wp2_with fail
            generalize W3.alloc (.cells #[.slice A2 n.length e2, .slice A3 d.length e3] 24) = W4 at *
            refine (frGood_c p A2 A3 e2 e3 n d W4 ((f2.rd.ex x3).ex xa) (f3.rd.ex xa)).mono ?_
            rintro e W5 ⟨rfl, x5⟩
            rw [hfr]
            have v5 := v4.ex x5
            have va5 := va.ex x5
            have a0 := va5.cell 0 (v := .slice A2 n.length e2) rfl
            have a1 := va5.cell 1 (v := .slice A3 d.length e3) rfl
            have r0 := v5.cell 0 (v := .slice none 0 0) rfl
            have r1 := v5.cell 1 (v := .slice none 0 0) rfl
            have q0 := v5.frozen 0
            have q1 := v5.frozen 1
            have s4 := xa.size
            have s5 := x5.size
            go_wp2_with fail
            obtain ⟨dd, z⟩ := st2 v5 (.slice A2 n.length e2) (.slice A3 d.length e3)
            generalize (W5.setCell ⟨w.heap.size, 0, none⟩ (.slice A2 n.length e2)).setCell ⟨w.heap.size, 1, none⟩ (.slice A3 d.length e3) = W6 at *
            have d0 := dd.cell 0 (v := .slice A2 n.length e2) rfl
            have d1 := dd.cell 1 (v := .slice A3 d.length e3) rfl
            refine bodyPost_ret (v := .tuple #[.agg #[.slice A2 n.length e2, .slice A3 d.length e3], .bool true]) (by simp [results, Tryz.results4, go_sem, d0, d1]) rfl ?_
            have f6 := (((f2.ex x3).ex xa).ex x5).ex1 z (f2.hi.off (by omega))
            have g6 := ((f3.ex xa).ex x5).ex1 z (f3.hi.off (by omega))
            exact FRB.yes_ rfl H0.out (f6.more (by omega)) (g6.more (by omega)) ap ((y4.trans x5).ex1 z (Nat.le_refl _))
        all_goals
          have H0 := Lib.hid (HR.out.trans (if_neg (by simp)))
          go_wp2_with fail
          generalize W3.alloc (.cells #[.slice A2 n.length e2, .slice A3 d.length e3] 24) = W4 at *
          obtain ⟨dd, z⟩ := st2 v4 (.slice none 0 0) (.slice none 0 0)
          generalize (W4.setCell ⟨w.heap.size, 0, none⟩ (.slice none 0 0)).setCell ⟨w.heap.size, 1, none⟩ (.slice none 0 0) = W5 at *
          have d0 := dd.cell 0 (v := .slice none 0 0) rfl
          have d1 := dd.cell 1 (v := .slice none 0 0) rfl
          refine bodyPost_ret (v := .tuple #[.agg #[.slice none 0 0, .slice none 0 0], .bool false]) (by simp [results, Tryz.results4, go_sem, d0, d1]) rfl ?_
          exact FRB.nil_ rfl H0.out (y4.ex1 z (Nat.le_refl _))
      · have hc : ((s.extract k (k + 3)).toList == [32, 47, 32]) = false := by rw [ByteArray.toList_eq, hext, beq_eq_false_iff_ne]; exact hm
        have HN := Lib.hid (show Lib.NoOcc s.data.toList [32, 47, 32] (k + 1) from fun j hj => by
          by_cases e : j < k
          · exact Hn.out j e
          · obtain rfl : j = k := by omega
            rw [hocc]; exact decide_eq_false hm)
        clear hocc hext hm
        go_wp2_with fail
        go_roundw
        case rel => exact ⟨k + 1, by omega, by go_num, HN⟩
        case measure => simp [intOf]; omega
    · have HR := Lib.hid (show pfR p s.data.toList = ([], [], false) by
        have hx := Lib.index_past (s := s.data.toList) (sub := [32, 47, 32]) (i := k) (by simp) Hn.out (by rw [← Hsz.out]; simp; omega)
        unfold pfR
        rw [cut_no hx]
        exact if_neg (by simp))
      have hlt' : ¬ (((k + 3 : Nat) : Int) ≤ (s.size : Int)) := by omega
      go_wp2_with fail
      obtain ⟨dd, z⟩ := st2 v1 (.slice none 0 0) (.slice none 0 0)
      generalize (W.setCell ⟨w.heap.size, 0, none⟩ (.slice none 0 0)).setCell ⟨w.heap.size, 1, none⟩ (.slice none 0 0) = W5 at *
      have d0 := dd.cell 0 (v := .slice none 0 0) rfl
      have d1 := dd.cell 1 (v := .slice none 0 0) rfl
      refine bodyPost_ret (v := .tuple #[.agg #[.slice none 0 0, .slice none 0 0], .bool false]) (by simp [results, Tryz.results4, go_sem, d0, d1]) rfl ?_
      exact FRB.nil_ rfl HR.out (y1.ex1 z (Nat.le_refl _))
end Go.Proofs.YtfggacnkediolaaGreatDoor
