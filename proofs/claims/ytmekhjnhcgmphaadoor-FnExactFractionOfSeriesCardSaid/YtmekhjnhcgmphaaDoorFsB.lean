/- The program's FractionOfSeries. -/
import Derived.Test.YtmekhjnhcgmphaaDoorFsA
namespace Go.Proofs.YtmekhjnhcgmphaaDoor
set_option maxRecDepth 100000
open Go Go.RowKit
set_option maxHeartbeats 4000000 in
theorem FractionOfSeries_c (p : Int) (A : Option Addr) (c : Nat) (s : List Int) (w : World) (h : Rd w A s) (ht : Tb w) :
    Calls Tryd.prog 16 #[.int .i64 p, .slice A s.length c] w fun e w' => FRB w (fosR p s) e w' := by
  have y1 := (Ex.refl w).alloc (.cells #[.slice none 0 0, .slice none 0 0] 40)
  have v1 := VB.new w 40 #[.slice none 0 0, .slice none 0 0]
  have S1 := Lib.hid (show (w.alloc (.cells #[.slice none 0 0, .slice none 0 0] 40)).heap.size = w.heap.size + 1 by simp)
  have cI := isSeries_c p A c s _ (h.ex y1) (ht.ex y1)
  cases hp : serB p s with
  | false =>
    have H := Lib.hid (show fosR p s = ([], [], false) by simp [fosR, hp])
    rw [hp] at cI
    have r0 := v1.cell 0 (v := .slice none 0 0) rfl
    have r1 := v1.cell 1 (v := .slice none 0 0) rfl
    have q0 := v1.frozen 0
    have q1 := v1.frozen 1
    clear hp
    go_enter Tryd.func16, Tryd.ntmps16
    go_wp2_with fail
    refine cI.mono ?_
    rintro e w' ⟨rfl, rfl⟩
    generalize w.alloc (.cells #[.slice none 0 0, .slice none 0 0] 40) = W at *
    go_wp2_with fail
    obtain ⟨dd, z⟩ := st2 v1 (.slice none 0 0) (.slice none 0 0)
    generalize (W.setCell ⟨w.heap.size, 0, none⟩ (.slice none 0 0)).setCell ⟨w.heap.size, 1, none⟩ (.slice none 0 0) = W2 at *
    have d0 := dd.cell 0 (v := .slice none 0 0) rfl
    have d1 := dd.cell 1 (v := .slice none 0 0) rfl
    refine bodyPost_ret (v := .tuple #[.agg #[.slice none 0 0, .slice none 0 0], .bool false]) (by simp [results, Tryd.results16, go_sem, d0, d1]) rfl ?_
    exact FRB.nil_ rfl H.out (y1.ex1 z (Nat.le_refl _))
  | true =>
    obtain ⟨hF, hl, hs⟩ := serz_parts hp
    have h2 := fieldB_lo hF
    have h97 := fieldB_hi hF
    have H := Lib.hid (show fosR p s = fosA p s by simp [fosR, hp])
    have HAN := Lib.hid (fun (a : ¬ 2 * (bmRun p s s.length).L ≤ s.length) => fos_no hF a)
    have HAY := Lib.hid (fun (a : 2 * (bmRun p s s.length).L ≤ s.length) => show fosA p s = ifR (lowN p (trim (cvL p (bmRun p s s.length).now s (bmRun p s s.length).L)) (bmRun p s s.length).now) (lowD p (trim (cvL p (bmRun p s s.length).now s (bmRun p s s.length).L)) (bmRun p s s.length).now) from if_pos a)
    have HB := Lib.hid (bm_good hF s s.length)
    have HNE := Lib.hid (now_ne hF s s.length)
    have HF := Lib.hid hF
    have Hs := Lib.hid hs
    have cR := recurrence_c p s A c _ hF (h.ex y1) hs hl
    rw [hp] at cI
    obtain ⟨X, hX⟩ : ∃ X, bmRun p s s.length = X := ⟨_, rfl⟩
    rw [hX] at HAN HAY HB HNE cR
    clear hp hF hs hX
    obtain ⟨nw, bf, L, sh, la⟩ := X
    dsimp only at HAN HAY HNE cR
    have hLn : L ≤ s.length := HB.out.good.len
    have Hne := Lib.hid HB.out.ne
    have Hnt := Lib.hid HB.out.nt
    clear HB
    obtain ⟨N, hN⟩ : ∃ N, s.length = N := ⟨_, rfl⟩
    have HN := Lib.hid hN
    rw [hN] at hl hLn HAN HAY cR cI ⊢
    clear hN
    have e0 : IntKind.i64.wrap (2 * (L : Int)) = 2 * (L : Int) := IntWalk.i64_in _ (by omega)
    go_enter Tryd.func16, Tryd.ntmps16
    go_wp2_with fail
    refine cI.mono ?_
    rintro e w' ⟨rfl, rfl⟩
    generalize w.alloc (.cells #[.slice none 0 0, .slice none 0 0] 40) = W at *
    have s1 := S1.out
    clear cI
    go_wp2_with fail
    refine cR.mono ?_
    rintro e w2 ⟨A2, a, rfl, r2, x2⟩
    clear cR
    have z2 := x2.size
    by_cases hLL : 2 * L ≤ N
    · have e1 : ¬ ((N : Int) < 2 * (L : Int)) := by omega
      have HFS := Lib.hid (H.out.trans (HAY.out hLL))
      have hs2 := (h.ex y1).ex x2
      have HXe := Lib.hid (cvL_el (p := p) (by omega) nw s L)
      have hXl : (cvL p nw s L).length = L := cvL_len p nw s L
      have cV := convolve_c p A2 A a c nw s L w2 r2 hs2 h2 h97 Hne.out Hs.out (by omega)
      rw [HN.out] at cV
      obtain ⟨V, hV⟩ : ∃ V, cvL p nw s L = V := ⟨_, rfl⟩
      rw [hV] at cV HXe hXl HFS
      clear hV HAN HAY H hLL
      go_wp2_with fail
      refine cV.mono ?_
      rintro e w3 ⟨g3, rfl, hg3, b3, x3⟩
      clear cV
      have rV := b3.rd (by omega)
      have cT := trimmed_c (some ⟨g3, 0, none⟩) L V w3 rV (by omega)
      rw [hXl] at cT
      have hVt := trim_le V
      have rT : Rd w3 (some ⟨g3, 0, none⟩) (trim V) := by rw [trim_take]; exact rV.take _
      go_wp2_with fail
      refine cT.mono ?_
      rintro e w4 ⟨rfl, rfl⟩
      have z3 := x3.size
      clear cT b3 rV
      have hTe := trim_el HXe.out
      have cL := lowest_c p (some ⟨g3, 0, none⟩) A2 (trim V).length a (trim V) nw w3 rT (r2.ex x3) HF.out hTe Hne.out (Tr.trim V) Hnt.out HNE.out
      have HI := Lib.hid (low_ifR HF.out hTe Hne.out (Tr.trim V) Hnt.out HNE.out)
      obtain ⟨LN, hLN⟩ : ∃ LN, lowN p (trim V) nw = LN := ⟨_, rfl⟩
      obtain ⟨LD, hLD⟩ : ∃ LD, lowD p (trim V) nw = LD := ⟨_, rfl⟩
      rw [hLN, hLD] at cL HI HFS
      clear hLN hLD hTe
      go_wp2_with fail
      refine cL.mono ?_
      rintro e w5 ⟨A5, c5, B5, d5, rfl, f5, g5, ap, x5⟩
      clear cL rT
      have z5 := x5.size
      have yy := ((y1.trans x2).trans x3).trans x5
      have v5 := v1.ex ((x2.trans x3).trans x5)
      cases hle : fracB p LN LD with
      | true =>
        have H := Lib.hid (HFS.out.trans (ifR_yes (HI.out.2 hle)))
        go_wp2_with fail
        refine (validFraction_yes p A5 B5 c5 d5 _ _ w5 f5.rd g5.rd (ht.ex yy) hle).mono ?_
        rintro e w6 ⟨rfl, x6⟩
        have v6 := v5.ex x6
        have r0 := v6.cell 0 (v := .slice none 0 0) rfl
        have r1 := v6.cell 1 (v := .slice none 0 0) rfl
        have q0 := v6.frozen 0
        have q1 := v6.frozen 1
        go_wp2_with fail
        obtain ⟨dd, z⟩ := st2 v6 (.slice A5 LN.length c5) (.slice B5 LD.length d5)
        generalize (w6.setCell ⟨w.heap.size, 0, none⟩ (.slice A5 LN.length c5)).setCell ⟨w.heap.size, 1, none⟩ (.slice B5 LD.length d5) = W2 at *
        have d0 := dd.cell 0 (v := .slice A5 LN.length c5) rfl
        have d1 := dd.cell 1 (v := .slice B5 LD.length d5) rfl
        refine bodyPost_ret (v := .tuple #[.agg #[.slice A5 LN.length c5, .slice B5 LD.length d5], .bool true]) (by simp [results, Tryd.results16, go_sem, d0, d1]) rfl ?_
        have f3 := (f5.ex x6).ex1 z (f5.hi.off (by omega))
        have g3 := (g5.ex x6).ex1 z (g5.hi.off (by omega))
        exact FRB.yes_ rfl H.out (f3.more (by omega)) (g3.more (by omega)) ap ((yy.trans x6).ex1 z (Nat.le_refl _))
      | false =>
        have H := Lib.hid (HFS.out.trans (ifR_no (fun k => by rw [HI.out.1 k] at hle; cases hle)))
        go_wp2_with fail
        refine (validFraction_no p A5 B5 c5 d5 _ _ w5 f5.rd g5.rd (ht.ex yy) hle).mono ?_
        rintro e w6 ⟨rfl, x6⟩
        have v6 := v5.ex x6
        have r0 := v6.cell 0 (v := .slice none 0 0) rfl
        have r1 := v6.cell 1 (v := .slice none 0 0) rfl
        have q0 := v6.frozen 0
        have q1 := v6.frozen 1
        go_wp2_with fail
        obtain ⟨dd, z⟩ := st2 v6 (.slice none 0 0) (.slice none 0 0)
        generalize (w6.setCell ⟨w.heap.size, 0, none⟩ (.slice none 0 0)).setCell ⟨w.heap.size, 1, none⟩ (.slice none 0 0) = W2 at *
        have d0 := dd.cell 0 (v := .slice none 0 0) rfl
        have d1 := dd.cell 1 (v := .slice none 0 0) rfl
        refine bodyPost_ret (v := .tuple #[.agg #[.slice none 0 0, .slice none 0 0], .bool false]) (by simp [results, Tryd.results16, go_sem, d0, d1]) rfl ?_
        exact FRB.nil_ rfl H.out ((yy.trans x6).ex1 z (Nat.le_refl _))
    · have e1 : (N : Int) < 2 * (L : Int) := by omega
      have H2 := Lib.hid (H.out.trans (HAN.out hLL))
      have v2 := v1.ex x2
      have r0 := v2.cell 0 (v := .slice none 0 0) rfl
      have r1 := v2.cell 1 (v := .slice none 0 0) rfl
      have q0 := v2.frozen 0
      have q1 := v2.frozen 1
      clear hLL HAN HAY H
      go_wp2_with fail
      obtain ⟨dd, z⟩ := st2 v2 (.slice none 0 0) (.slice none 0 0)
      generalize (w2.setCell ⟨w.heap.size, 0, none⟩ (.slice none 0 0)).setCell ⟨w.heap.size, 1, none⟩ (.slice none 0 0) = W2 at *
      have d0 := dd.cell 0 (v := .slice none 0 0) rfl
      have d1 := dd.cell 1 (v := .slice none 0 0) rfl
      refine bodyPost_ret (v := .tuple #[.agg #[.slice none 0 0, .slice none 0 0], .bool false]) (by simp [results, Tryd.results16, go_sem, d0, d1]) rfl ?_
      exact FRB.nil_ rfl H2.out ((y1.trans x2).ex1 z (Nat.le_refl _))
end Go.Proofs.YtmekhjnhcgmphaaDoor
