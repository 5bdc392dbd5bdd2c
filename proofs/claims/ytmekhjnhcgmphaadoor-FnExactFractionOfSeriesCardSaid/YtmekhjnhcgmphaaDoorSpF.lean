/- The reference's FractionOfSeries. -/
import Derived.Test.YtmekhjnhcgmphaaDoorSpE
import Derived.Test.YtmekhjnhcgmphaaDoorFrac5
import Derived.Test.YtmekhjnhcgmphaaDoorSeries
import Derived.BigRegion
namespace Go.Proofs.YtmekhjnhcgmphaaDoor
set_option maxRecDepth 100000
open Go Go.RowKit
/-- The convolution modulo p on the way. -/
def cwz (p : Int) (a b : List Int) (n k j : Nat) : List Int := (cvTo p a b n k).set k (cv a b k j % p)
theorem cwz_mod (p : Int) (a b : List Int) (k j : Nat) : (cv a b k j % p + a[j]?.getD 0 * b[k - j]?.getD 0) % p = cv a b k (j + 1) % p := by
  rw [cv, Int.emod_add_emod]
theorem serz_parts {p : Int} {xs : List Int} (h : serB p xs = true) : fieldB p = true ∧ xs.length ≤ 60 ∧ allEl p xs = true := by
  simp only [serB, Bool.and_eq_true, decide_eq_true_eq] at h
  exact ⟨h.1.1, by omega, h.2⟩
set_option maxHeartbeats 16000000 in
theorem frOf_c (p : Int) (s : List Int) (A : Option Addr) (c : Nat) (w : World) (hF : fieldB p = true) (h : Rd w A s) (hs : allEl p s = true) (hl : s.length ≤ 60) :
    Calls Tryd.prog 36 #[.int .i64 p, .slice A s.length c] w fun e w' => FRB w (fosA p s) e w' := by
  have h2 := fieldB_lo hF
  have h97 := fieldB_hi hF
  have HF := Lib.hid hF
  have Hs := Lib.hid hs
  have HFF := Lib.hid (fun (m : Nat) (v : List Int) (a : recS p s m = some v) (b : 2 * m ≤ s.length) (d : ∀ m', m' < m → recS p s m' = none) => fos_found hF hs a b d)
  have HFN := Lib.hid (fun (d : ∀ m, 2 * m ≤ s.length → recS p s m = none) => fos_none hF hs d)
  have HRS := Lib.hid (fun (m : Nat) (v : List Int) (a : recS p s m = some v) => recS_some hF hs a)
  have y1 := (Ex.refl w).alloc (.cells #[.slice none 0 0, .slice none 0 0] 40)
  have v1 := VB.new w 40 #[.slice none 0 0, .slice none 0 0]
  have S1 := Lib.hid (show (w.alloc (.cells #[.slice none 0 0, .slice none 0 0] 40)).heap.size = w.heap.size + 1 by simp)
  obtain ⟨N, hN⟩ : ∃ N, s.length = N := ⟨_, rfl⟩
  have HN := Lib.hid hN
  rw [hN] at hl ⊢
  clear hF hs hN
  go_enter Tryd.func36, Tryd.ntmps36
  go_wp2_with fail
  generalize w.alloc (.cells #[.slice none 0 0, .slice none 0 0] 40) = W at *
  go_loopw [6] (fun s6 wr => ∃ m : Nat, m ≤ N + 1 ∧ s6 = .int .i64 m ∧ Hid (∀ m', m' < m → recS p s m' = none) ∧ Ex W wr) (fun s6 _ => N + 1 - (intOf s6).toNat)
  case atStart => exact ⟨0, Nat.zero_le _, rfl, Lib.hid (fun i h => by omega), Ex.refl _⟩
  case round =>
    rename World => wr
    obtain ⟨m, hm, rfl, H0, he⟩ := hrel
    have s1 := S1.out
    have s2 := he.size
    by_cases hmN : 2 * m ≤ N
    · have cR := frRecurrence_c p s m A c wr HF.out ((h.ex y1).ex he) Hs.out (by rw [HN.out]; exact hl) (by rw [HN.out]; omega)
      rw [HN.out] at cR
      obtain ⟨o, ho⟩ : ∃ o, recS p s m = o := ⟨_, rfl⟩
      have Ho := Lib.hid ho
      rw [ho] at cR
      clear ho
      have e0 : IntKind.i64.wrap (2 * (m : Int)) = 2 * (m : Int) := IntWalk.i64_in _ (by omega)
      have e1 : (2 * (m : Int) ≤ (N : Int)) := by omega
      cases o with
      | none =>
        go_wp2_with fail
        refine cR.mono ?_
        rintro e w2 ⟨x2, rfl⟩
        go_wp2_with fail
        go_roundw
        case rel => exact ⟨m + 1, by omega, by go_num, Lib.hid (fun m' h1 => by
          by_cases e : m' = m
          · subst e; exact Ho.out
          · exact H0.out m' (by omega)), he.trans x2⟩
        case measure => simp [intOf]; omega
      | some v =>
        have HFS := Lib.hid (HFF.out m v Ho.out (by rw [HN.out]; exact hmN) H0.out)
        obtain ⟨hvl, hve, _⟩ := HRS.out m v Ho.out
        have Hve := Lib.hid hve
        clear HFF HFN HRS hve
        go_wp2_with fail
        refine cR.mono ?_
        rintro e w2 ⟨x2, A2, c2, rfl, r2⟩
        clear cR
        have hu := AL.unit w2 (B := w2.heap.size) 1 (Nat.le_refl _)
        have y2 := (Ex.refl w2).alloc (.cells #[.int .i64 1] 3)
        obtain ⟨v', w3, hrun, hal, hx3, _⟩ := run_append_ints 38 38 Tryd.underlying38 (w2.alloc (.cells #[.int .i64 1] 3)) w2.heap.size _ [1] hu y2.size A2 c2 v (r2.ex y2) (by simp; omega)
        have x3 : Ex w2 w3 := y2.exo hx3 (fun g e => by simp [Value.ownBlock] at e; omega)
        obtain ⟨D, hD⟩ : ∃ D, [1] ++ v = D := ⟨_, rfl⟩
        have HD := Lib.hid (show D = 1 :: v from hD.symm)
        rw [hD] at hal
        have hDl : D.length = m + 1 := by rw [← hD]; simp; exact hvl
        have HDe := Lib.hid (show allEl p D = true by rw [← hD]; exact Hve.out)
        rw [← HD.out] at HFS
        obtain ⟨A3, c3, rfl, f3⟩ := hal.form (by omega)
        rw [hDl, hvl] at hrun
        have hmk := fun W => run_make_ints m (by omega) W
        have b3 := Blk.new w3 (List.replicate m 0)
        have y3 := (Ex.refl w3).alloc (iObj (List.replicate m 0))
        clear hal hx3 hu y2 hD
        go_wp2_with (at_builtin; refine wpList_append_run rfl _ _ _ rfl rfl rfl hrun ?_)
        clear hrun hmk
        have hs3 := (h.ex y1).ex ((he.trans x2).trans x3)
        go_loopw [36] (fun s36 wi => ∃ k : Nat, k ≤ m ∧ s36 = .int .i64 k ∧ Blk wi w3.heap.size (cvTo p D s m k) ∧ Ex w3 wi) (fun s36 _ => m - (intOf s36).toNat)
        case atStart => exact ⟨0, Nat.zero_le _, rfl, by rw [cvTo_zero]; exact b3, y3⟩
        case round =>
          rename World => wk
          clear b3 y3
          obtain ⟨k, hk, rfl, hbk, hek⟩ := hrel
          by_cases hlt : k < m
          · go_wp2_with fail
            go_loopw [12] (fun s12 wi => ∃ j : Nat, j ≤ k + 1 ∧ s12 = .int .i64 j ∧ Blk wi w3.heap.size (cwz p D s m k j) ∧ Ex w3 wi) (fun s12 _ => k + 1 - (intOf s12).toNat)
            case atStart => exact ⟨0, Nat.zero_le _, rfl, by rw [cwz, cv, Int.zero_emod, set_same _ _ _ (cvTo_at p D s m k hlt)]; exact hbk, hek⟩
            case round =>
              rename World => wj
              obtain ⟨j, hj, rfl, hbj, hej⟩ := hrel
              by_cases hjk : j ≤ k
              · have hle : (cwz p D s m k j)[k]? = some (cv D s k j % p) := List.getElem?_set_self (by rw [cvTo_len]; exact hlt)
                have hcell := hbj.cell hle
                have hfz := hbj.frozen k
                obtain ⟨ga, oa, x, rfl, hx, hga, hcx⟩ := (f3.rd.ex hej).at_ (by omega : j < D.length)
                obtain ⟨gb, ob, y, rfl, hy, hgb, hcy⟩ := (hs3.ex hej).at_ (by rw [HN.out]; omega : k - j < s.length)
                have hax := allEl_bd HDe.out h97 j
                have hby := allEl_bd Hs.out h97 (k - j)
                have hst := cwz_mod p D s k j
                rw [hx] at hax hst
                rw [hy] at hby hst
                simp only [Option.getD_some] at hax hby hst
                have hab := mul_bd hax hby
                have hbn := hbj.set_ k ((cv D s k j % p + x * y) % p)
                rw [cwz, List.set_set, hst] at hbn
                have hm0 := Int.emod_nonneg (cv D s k j) (show p ≠ 0 by omega)
                have hm1 := Int.emod_lt_of_pos (cv D s k j) (show 0 < p by omega)
                obtain ⟨z, hz⟩ : ∃ z, z = cv D s k j % p := ⟨_, rfl⟩
                rw [← hz] at hcell hm0 hm1 hst
                have Hst := Lib.hid hst
                clear hle hx hy hst hz
                have u1 : IntKind.i64.wrap ((k : Int) - (j : Int)) = ((k - j : Nat) : Int) := by rw [IntWalk.i64_in _ (by omega)]; omega
                have u2 : IntKind.i64.wrap (x * y) = x * y := IntWalk.i64_in _ (by omega)
                have u3 : IntKind.i64.wrap (z + x * y) = z + x * y := IntWalk.i64_in _ (by omega)
                have u4 : (z + x * y).tmod p = (z + x * y) % p := Int.tmod_eq_emod_of_nonneg (by omega)
                have hp0 : ¬ p = 0 := by omega
                have hja : j < m + 1 := by omega
                have hja2 : j ≤ m := by omega
                have hja3 : (j : Int) < (m : Int) + 1 := by omega
                have hja4 : (j : Int) ≤ (m : Int) := by omega
                have hjb : k - j < N := by omega
                go_wp2_with fail
                refine wp_region_still_tail 21 (by kernel_rfl) (by kernel_rfl) ?_
                simp only [List.take_succ_cons, List.take_zero, List.drop_succ_cons, List.drop_zero]
                repeat still_step
                refine wpStill_nil ?_
                clear u1 u2 u3 u4 hp0
                change wpList _ _ _ _ _ wj.drew
                go_wp2_with fail
                go_roundw
                case rel => exact ⟨j + 1, by omega, by go_num, by rw [Hst.out]; exact hbn, (hej.setCell (Nat.le_refl _) _).drew⟩
                case measure => simp [intOf]; omega
              · have hjk1 : j = k + 1 := by omega
                subst hjk1
                rw [cwz, cvTo_step] at hbj
                go_wp2_with fail
                go_roundw
                case rel => exact ⟨k + 1, by omega, by go_num, hbj, hej⟩
                case measure => simp [intOf]; omega
          · have hkm : k = m := by omega
            subst hkm
            rw [cvTo_all] at hbk
            have HXe := Lib.hid (cvL_el (p := p) (by omega) D s k)
            have hXl : (cvL p D s k).length = k := cvL_len p D s k
            obtain ⟨X, hX⟩ : ∃ X, cvL p D s k = X := ⟨_, rfl⟩
            rw [hX] at hbk HXe hXl HFS
            have rX := hbk.rd (by omega)
            have rD := f3.rd.ex hek
            have hcD := f3.cap
            have HDn := Lib.hid (show trim D ≠ [] from fun e => by
              have := (trim_nil_iff D).1 e 0
              rw [HD.out] at this
              cases this)
            have cX := poTrim_c (some ⟨w3.heap.size, 0, none⟩) k X wk rX (by omega)
            have cD := fun W (hW : Ex wk W) => poTrim_c A3 c3 D W (rD.ex hW) hcD
            rw [hXl] at cX
            rw [hDl] at cD
            clear hX hbk f3 hs3 hcD
            go_wp2_with fail
            refine cX.mono ?_
            rintro e w4 ⟨g4, c4, rfl, hc4, hg4, o4, x4⟩
            clear cX
            go_wp2_with fail
            refine (cD w4 x4).mono ?_
            rintro e w5 ⟨g5, c5, rfl, hc5, hg5, o5, x5⟩
            clear cD
            have l4 := trim_le X
            have l5 := trim_le D
            go_wp2_with fail
            refine (frMake_c p (some ⟨g4, 0, none⟩) (some ⟨g5, 0, none⟩) c4 c5 (trim X) (trim D) w5 ((o4.ex x5).rd (by omega)) (o5.rd (by omega)) HF.out (trim_el HXe.out) (trim_el HDe.out) (Tr.trim X) (Tr.trim D) HDn.out).mono ?_
            rintro e w6 ⟨A6, c6, B6, d6, rfl, f6, g6, ap, x6⟩
            have xx := ((((he.trans x2).trans x3).trans hek).trans (x4.trans x5)).trans x6
            have z6 := x6.size
            have z5 := (((x2.trans x3).trans hek).trans (x4.trans x5)).size
            have l1 := f6.rd.len
            have l2 := g6.rd.len
            obtain ⟨LN, hLN⟩ : ∃ LN, lowN p (trim X) (trim D) = LN := ⟨_, rfl⟩
            obtain ⟨LD, hLD⟩ : ∃ LD, lowD p (trim X) (trim D) = LD := ⟨_, rfl⟩
            rw [hLN, hLD] at HFS
            rw [hLN] at f6 l1 ⊢
            rw [hLD] at g6 l2 ⊢
            clear hLN hLD rX rD o4 o5 hmN e1
            by_cases hle : LN.length ≤ 21 ∧ LD.length ≤ 21
            · have H := Lib.hid (HFS.out.trans (ifR_yes hle))
              go_wp2_with fail
              refine (frIf_yes A6 B6 c6 d6 _ _ w6 hle.1 hle.2).mono ?_
              rintro e w7 ⟨rfl, x7⟩
              have v3 := (v1.ex xx).ex x7
              have r0 := v3.cell 0 (v := .slice none 0 0) rfl
              have r1 := v3.cell 1 (v := .slice none 0 0) rfl
              have q0 := v3.frozen 0
              have q1 := v3.frozen 1
              go_wp2_with fail
              obtain ⟨dd, z⟩ := st2 v3 (.slice A6 LN.length c6) (.slice B6 LD.length d6)
              generalize (w7.setCell ⟨w.heap.size, 0, none⟩ (.slice A6 LN.length c6)).setCell ⟨w.heap.size, 1, none⟩ (.slice B6 LD.length d6) = W2 at *
              have d0 := dd.cell 0 (v := .slice A6 LN.length c6) rfl
              have d1 := dd.cell 1 (v := .slice B6 LD.length d6) rfl
              refine bodyPost_ret (v := .tuple #[.agg #[.slice A6 LN.length c6, .slice B6 LD.length d6], .bool true]) (by simp [results, Tryd.results36, go_sem, d0, d1]) rfl ?_
              have f7 := (f6.ex x7).ex1 z (f6.hi.off (by omega))
              have g7 := (g6.ex x7).ex1 z (g6.hi.off (by omega))
              exact FRB.yes_ rfl H.out (f7.more (by omega)) (g7.more (by omega)) ap (((y1.trans xx).trans x7).ex1 z (Nat.le_refl _))
            · have H := Lib.hid (HFS.out.trans (ifR_no hle))
              go_wp2_with fail
              refine (frIf_no A6 B6 c6 d6 _ _ w6 hle l1 l2).mono ?_
              rintro e w7 ⟨rfl, x7⟩
              have v3 := (v1.ex xx).ex x7
              have r0 := v3.cell 0 (v := .slice none 0 0) rfl
              have r1 := v3.cell 1 (v := .slice none 0 0) rfl
              have q0 := v3.frozen 0
              have q1 := v3.frozen 1
              go_wp2_with fail
              obtain ⟨dd, z⟩ := st2 v3 (.slice none 0 0) (.slice none 0 0)
              generalize (w7.setCell ⟨w.heap.size, 0, none⟩ (.slice none 0 0)).setCell ⟨w.heap.size, 1, none⟩ (.slice none 0 0) = W2 at *
              have d0 := dd.cell 0 (v := .slice none 0 0) rfl
              have d1 := dd.cell 1 (v := .slice none 0 0) rfl
              refine bodyPost_ret (v := .tuple #[.agg #[.slice none 0 0, .slice none 0 0], .bool false]) (by simp [results, Tryd.results36, go_sem, d0, d1]) rfl ?_
              exact FRB.nil_ rfl H.out (((y1.trans xx).trans x7).ex1 z (Nat.le_refl _))
    · have e0 : IntKind.i64.wrap (2 * (m : Int)) = 2 * (m : Int) := IntWalk.i64_in _ (by omega)
      have e1 : ¬ (2 * (m : Int) ≤ (N : Int)) := by omega
      have HR := Lib.hid (HFN.out fun m' h' => H0.out m' (by rw [HN.out] at h'; omega))
      have v2 := v1.ex he
      have r0 := v2.cell 0 (v := .slice none 0 0) rfl
      have r1 := v2.cell 1 (v := .slice none 0 0) rfl
      have q0 := v2.frozen 0
      have q1 := v2.frozen 1
      go_wp2_with fail
      obtain ⟨dd, z⟩ := st2 v2 (.slice none 0 0) (.slice none 0 0)
      generalize (wr.setCell ⟨w.heap.size, 0, none⟩ (.slice none 0 0)).setCell ⟨w.heap.size, 1, none⟩ (.slice none 0 0) = W2 at *
      have d0 := dd.cell 0 (v := .slice none 0 0) rfl
      have d1 := dd.cell 1 (v := .slice none 0 0) rfl
      refine bodyPost_ret (v := .tuple #[.agg #[.slice none 0 0, .slice none 0 0], .bool false]) (by simp [results, Tryd.results36, go_sem, d0, d1]) rfl ?_
      exact FRB.nil_ rfl HR.out ((y1.trans he).ex1 z (Nat.le_refl _))
set_option maxHeartbeats 2000000 in
theorem spFractionOfSeries_c (p : Int) (A : Option Addr) (c : Nat) (s : List Int) (w : World) (h : Rd w A s) :
    Calls Tryd.prog 14 #[.int .i64 p, .slice A s.length c] w fun e w' => FRB w (fosR p s) e w' := by
  have y1 := (Ex.refl w).alloc (.cells #[.slice none 0 0, .slice none 0 0] 40)
  have v1 := VB.new w 40 #[.slice none 0 0, .slice none 0 0]
  have bb := box2 w (.slice none 0 0) (.slice none 0 0) 40
  cases hp : serB p s with
  | false =>
    have H := Lib.hid (show fosR p s = ([], [], false) by simp [fosR, hp])
    go_enter Tryd.func14, Tryd.ntmps14
    go_wp2_with (go_at_call 35; refine (frList_c _ _ _ _ _ (h.ex y1)).mono ?_; rintro e w' ⟨rfl, rfl⟩)
    refine bodyPost_ret (v := .tuple #[.agg #[.slice none 0 0, .slice none 0 0], .bool false]) (by simp [results, Tryd.results14, go_sem, bb.1, bb.2]) rfl ?_
    exact FRB.nil_ rfl H.out y1
  | true =>
    obtain ⟨hf, hla, hea⟩ := serz_parts hp
    have H := Lib.hid (show fosR p s = fosA p s by simp [fosR, hp])
    have S1 := Lib.hid (show (w.alloc (.cells #[.slice none 0 0, .slice none 0 0] 40)).heap.size = w.heap.size + 1 by simp)
    have cF := frList_c p A c s _ (h.ex y1)
    have cO := frOf_c p s A c _ hf (h.ex y1) hea (by omega)
    rw [hp] at cF
    rw [← H.out] at cO
    obtain ⟨RR, hRR⟩ : ∃ RR, fosR p s = RR := ⟨_, rfl⟩
    have HRR := Lib.hid hRR
    rw [hRR] at cO
    clear hRR
    clear hp hea hf bb
    go_enter Tryd.func14, Tryd.ntmps14
    go_wp2_with fail
    refine cF.mono ?_
    rintro e w' ⟨rfl, rfl⟩
    generalize w.alloc (.cells #[.slice none 0 0, .slice none 0 0] 40) = W at *
    go_wp2_with fail
    have s1 := S1.out
    refine cO.mono ?_
    rintro e w2 ⟨A6, c6, B6, d6, rfl, f6, g6, ap, x2⟩
    have z2 := x2.size
    have v3 := v1.ex x2
    have r0 := v3.cell 0 (v := .slice none 0 0) rfl
    have r1 := v3.cell 1 (v := .slice none 0 0) rfl
    have q0 := v3.frozen 0
    have q1 := v3.frozen 1
    clear cO cF H
    go_wp2_with fail
    obtain ⟨dd, z⟩ := st2 v3 (.slice A6 RR.1.length c6) (.slice B6 RR.2.1.length d6)
    generalize (w2.setCell ⟨w.heap.size, 0, none⟩ (.slice A6 RR.1.length c6)).setCell ⟨w.heap.size, 1, none⟩ (.slice B6 RR.2.1.length d6) = W2 at *
    have d0 := dd.cell 0 (v := .slice A6 RR.1.length c6) rfl
    have d1 := dd.cell 1 (v := .slice B6 RR.2.1.length d6) rfl
    refine bodyPost_ret (v := .tuple #[.agg #[.slice A6 RR.1.length c6, .slice B6 RR.2.1.length d6], .bool RR.2.2]) (by simp [results, Tryd.results14, go_sem, d0, d1]) rfl ?_
    have f7 := f6.ex1 z (f6.hi.off (by omega))
    have g7 := g6.ex1 z (g6.hi.off (by omega))
    rw [HRR.out]
    exact ⟨A6, c6, B6, d6, rfl, f7.more (B' := w.heap.size) (by omega), g7.more (B' := w.heap.size) (by omega), ap, (y1.trans x2).ex1 z (Nat.le_refl _)⟩
end Go.Proofs.YtmekhjnhcgmphaaDoor
