/- The reference's scan of a term. Terms of the reference: one node, joined, layers. -/
import Derived.Test.YtphdcgimibnajaaGreatAp14
import Derived.Test.YtphdcgimibnajaaGreatAp13
import Derived.Deep.RegionHeld3
import Derived.Deep.RegionWith
import Derived.BigQuiet
import Derived.StillTailTactics
namespace Go.Proofs.YtphdcgimibnajaaGreat
set_option maxRecDepth 100000
open Go Go.RowKit
attribute [-go_sem] Builtin.append_
theorem Ex1.cellT {G : Nat} {w w' : World} (k : Ex1 G w w') {g o : Nat} (hg : g ≠ G) {v : Value} (h : w.cell? ⟨g, o, none⟩ = some v) : w'.cell? ⟨g, o, none⟩ = some v :=
  (World.cell?_of_block (w := w) (a := ⟨g, o, none⟩) (k.block g (cell_lt (p := ⟨g, o, none⟩) h) (fun e => by injection e with e; exact hg e))).trans h
set_option maxHeartbeats 60000000 in
theorem lbScan_c (l : List Nd) (A : Option Addr) (c : Nat) (w : World) (h : RdS EN w A l) :
    Calls Tryz.prog 79 #[.slice none 0 0, .agg #[.slice A l.length c]] w fun e w' => ∃ F fn fc I in_ ic O on oc, e = .returned (.tuple #[.agg #[.slice F fn fc, .slice I in_ ic, .slice O on oc], .bool (trmB l)]) ∧ Ex w w' := by
  have hl := h.1
  have H := Lib.hid h
  obtain ⟨N, hN⟩ : ∃ N, l.length = N := ⟨_, rfl⟩
  have HN := Lib.hid hN
  rw [hN] at hl ⊢
  clear hN h
  have x0 := (Ex.refl w).alloc (.cells #[.slice A N c] 29)
  have v0 := VB.new w 29 #[.slice A N c]
  obtain ⟨W0, hW0⟩ : ∃ W, w.alloc (.cells #[.slice A N c] 29) = W := ⟨_, rfl⟩
  have s0 : W0.heap.size = w.heap.size + 1 := by rw [← hW0]; simp
  rw [hW0] at x0 v0
  have x1 := (Ex.refl W0).alloc (.cells #[.slice none 0 0, .slice none 0 0, .slice none 0 0] 65)
  have v1 := VB.new W0 65 #[.slice none 0 0, .slice none 0 0, .slice none 0 0]
  obtain ⟨W1, hW1⟩ : ∃ W, W0.alloc (.cells #[.slice none 0 0, .slice none 0 0, .slice none 0 0] 65) = W := ⟨_, rfl⟩
  have s1 : W1.heap.size = w.heap.size + 1 + 1 := by rw [← hW1]; simp [s0]
  rw [hW1] at x1 v1
  rw [s0] at v1
  have x2 := (Ex.refl W1).alloc (.cells #[.slice none 0 0, .slice none 0 0, .slice none 0 0] 65)
  have v2 := VB.new W1 65 #[.slice none 0 0, .slice none 0 0, .slice none 0 0]
  obtain ⟨W2, hW2⟩ : ∃ W, W1.alloc (.cells #[.slice none 0 0, .slice none 0 0, .slice none 0 0] 65) = W := ⟨_, rfl⟩
  have s2 : W2.heap.size = w.heap.size + 1 + 1 + 1 := by rw [← hW2]; simp [s1]
  rw [hW2] at x2 v2
  rw [s1] at v2
  have X2 := (x0.trans x1).trans x2
  have V0 := (v0.ex x1).ex x2
  have V1 := v1.ex x2
  have hwt := fun W => l1In_c (N : Int) 1 400 W
  -- the end with an answer: the three slices of x are handed out
  have fin : ∀ (W : World) (a b d : Value), VB W (w.heap.size + 1) 65 #[.slice none 0 0, .slice none 0 0, .slice none 0 0] → Ex w W →
      ∃ W', W' = ((W.setCell ⟨w.heap.size + 1, 0, none⟩ a).setCell ⟨w.heap.size + 1, 1, none⟩ b).setCell ⟨w.heap.size + 1, 2, none⟩ d ∧ W'.cell? ⟨w.heap.size + 1, 0, none⟩ = some a ∧ W'.cell? ⟨w.heap.size + 1, 1, none⟩ = some b ∧ W'.cell? ⟨w.heap.size + 1, 2, none⟩ = some d ∧ Ex w W' := fun W a b d hv hx => by
    obtain ⟨dd, zz⟩ := hv.st3 a b d
    exact ⟨_, rfl, dd.cell 0 rfl, dd.cell 1 rfl, dd.cell 2 rfl, hx.ex1 zz (Nat.le_succ _)⟩
  have p0 := V0.cell 0 (v := .slice A N c) rfl
  cases hin : inB 1 400 (N : Int) with
  | false =>
    have HF := Lib.hid (show trmB l = false from typO_size (by
      rw [HN.out]
      simp [inB] at hin
      omega))
    simp only [hin] at hwt
    have p3 := v2.cell 0 (v := .slice none 0 0) rfl
    have p4 := v2.cell 1 (v := .slice none 0 0) rfl
    have p5 := v2.cell 2 (v := .slice none 0 0) rfl
    have r0 := V1.cell 0 (v := .slice none 0 0) rfl
    have r1 := V1.cell 1 (v := .slice none 0 0) rfl
    have r2 := V1.cell 2 (v := .slice none 0 0) rfl
    have z0 := V1.frozen 0
    have z1 := V1.frozen 1
    have z2 := V1.frozen 2
    obtain ⟨W', hW', C0, C1, C2, eF⟩ := fin W2 (.slice none 0 0) (.slice none 0 0) (.slice none 0 0) V1 X2
    subst hW'
    clear hin fin
    go_enter Tryz.func79, Tryz.ntmps79
    go_wp2_with fail
    refine (hwt _).mono ?_
    rintro e w3 ⟨rfl, rfl⟩
    go_wp2_with fail
    refine bodyPost_ret (v := .tuple #[.agg #[.slice none 0 0, .slice none 0 0, .slice none 0 0], .bool false]) (by simp [results, Tryz.results79, go_sem, C0, C1, C2]) rfl ?_
    rw [HF.out]
    exact ⟨_, _, _, _, _, _, _, _, _, rfl, eF⟩
  | true =>
    have hNb : 1 ≤ N ∧ N ≤ 400 := by
      simp [inB] at hin
      omega
    have HNb := Lib.hid hNb
    have hN4 : N ≤ 400 := hNb.2
    simp only [hin] at hwt
    have T2 : TI W2 (w.heap.size + 1 + 1) (.slice none 0 0) (.slice none 0 0) (.slice none 0 0) [] [] [] := ⟨v2, AL.nil _ _, AL.nil _ _, AL.nil _ _, (fun g e => by simp [Value.ownBlock] at e), (fun g e => by simp [Value.ownBlock] at e), (fun g e => by simp [Value.ownBlock] at e)⟩
    clear hin hNb v0 v1 v2 x0 x1 x2
    go_enter Tryz.func79, Tryz.ntmps79
    go_wp2_with fail
    refine (hwt _).mono ?_
    rintro e w3 ⟨rfl, rfl⟩
    go_wp2_with fail
    clear p0 hwt hW0 hW1 hW2 s0 s1
    go_loopw [25] (fun s25 wr => ∃ (k : Nat) (st : List (Int × Int)) (u v x : Option Addr) (cu cv cx : Nat) (F I O : List Int), k ≤ N ∧ s25 = .int .i64 k ∧ Hid (scn (l.take k) [] = some st) ∧ Hid (SC F I O k st) ∧ Hid (st.length ≤ k) ∧ TI wr (w.heap.size + 1 + 1) (.slice u k cu) (.slice v k cv) (.slice x k cx) F I O ∧ VB wr w.heap.size 29 #[.slice A N c] ∧ VB wr (w.heap.size + 1) 65 #[.slice none 0 0, .slice none 0 0, .slice none 0 0] ∧ Ex w wr ∧ w.heap.size + 1 + 1 + 1 ≤ wr.heap.size) (fun i _ => N - (intOf i).toNat)
    case atStart => exact ⟨0, [], none, none, none, 0, 0, 0, [], [], [], Nat.zero_le _, rfl, Lib.hid rfl, Lib.hid SC.nil, Lib.hid (Nat.le_refl _), T2, V0, V1, X2, by omega⟩
    case round =>
      rename World => wi
      clear T2 V0 V1 X2
      obtain ⟨k, st, u, v, x, cu, cv, cx, F, I, O, hk, rfl, HS, HC, HK, hT, hV0, hV1, he, hsz⟩ := hrel
      have c0 := hT.cell.cell 0 (v := .slice u k cu) rfl
      have c1 := hT.cell.cell 1 (v := .slice v k cv) rfl
      have c2 := hT.cell.cell 2 (v := .slice x k cx) rfl
      by_cases hlt : k < N
      · obtain ⟨g, off, n, eA, hn, q0, q1, q2⟩ := (H.out.ex he).node (by rw [HN.out]; exact hlt)
        subst eA
        have HSC := Lib.hid (scn_snoc hn [])
        have y2 := (Ex.refl wi).alloc (.cells #[.int .i64 n.kd, .int .i64 n.vl, .string n.nm] 84)
        have n2 := VB.new wi 84 #[.int .i64 n.kd, .int .i64 n.vl, .string n.nm]
        obtain ⟨W4, hW4⟩ : ∃ W, wi.alloc (.cells #[.int .i64 n.kd, .int .i64 n.vl, .string n.nm] 84) = W := ⟨_, rfl⟩
        rw [hW4] at y2 n2
        have d0 := n2.cell 0 (v := .int .i64 n.kd) rfl
        have d1 := n2.cell 1 (v := .int .i64 n.vl) rfl
        have d2 := n2.cell 2 (v := .string n.nm) rfl
        have hstop : stp st n = none → trmB l = false := fun h => typO_stop (scn_stop (k := k + 1) (by rw [HSC.out, HS.out]; exact h))
        have HST2 := Lib.hid hstop
        clear hstop hn
        have hlf := tmLeaf_n n W4
        cases hb : (lfT n).isSome with
        | true =>
          rw [hb] at hlf
          go_wp2_with fail
          refine hlf.mono ?_
          rintro e w5 ⟨rfl, y5⟩
          obtain ⟨⟨a, b⟩, hab⟩ : ∃ ab, lfT n = some ab := by cases h : lfT n with
            | none => rw [h] at hb; cases hb
            | some a => exact ⟨a, rfl⟩
          have HAB := Lib.hid hab
          have hnk : n.kd ≠ 15 ∧ n.kd ≠ 16 ∧ n.kd ≠ 17 := by
            unfold lfT at hab
            split at hab
            · rename_i h1; have := h1.2.1; omega
            · split at hab
              · rename_i h1; have := h1.2.1; omega
              · split at hab
                · rename_i h1; have := h1.2.1; simp [inB] at this; omega
                · cases hab
          have h17 : (n.kd == 17) = false := by simp; omega
          have HST := Lib.hid (show stp st n = some ((a, b) :: st) by
            unfold stp
            rw [if_neg (by omega), hab]
            rfl)
          have HS2 := Lib.hid (show scn (l.take (k + 1)) [] = some ((a, b) :: st) by rw [HSC.out, HS.out]; exact HST.out)
          have HC2 := Lib.hid (HC.out.leaf (w := (a, b)) (lfT_bd hab))
          have hK2 := HK.out
          have har := fun W => tmArity_n n W (.inl hb)
          have y5' := y5
          have e5 : ∀ i v, W4.cell? ⟨wi.heap.size, i, none⟩ = some v → w5.cell? ⟨wi.heap.size, i, none⟩ = some v := fun i v h => cell_ex y5 h
          have d0 := e5 _ _ d0
          have d1 := e5 _ _ d1
          have d2 := e5 _ _ d2
          have Y5 := y2.trans y5
          have T5 := hT.ex Y5
          have V05 := hV0.ex Y5
          have V15 := hV1.ex Y5
          have he5 := he.trans Y5
          have z5 := Y5.size
          clear hnk hab e5 y5' c0 c1 c2 q0 q1 q2
          go_wp2_with fail
          refine (har _).mono ?_
          clear har
          rintro e w6 ⟨a', b', rfl, hab', y6⟩
          have hab2 := hab' (by intro e; rw [e] at h17; simp at h17)
          rw [HAB.out] at hab2
          injection hab2 with hab2
          injection hab2 with ha2 hb2
          subst ha2 hb2
          have d0 := cell_ex y6 d0
          have T6 := T5.ex y6
          have V06 := V05.ex y6
          have V16 := V15.ex y6
          have he6 := he5.trans y6
          have z6 := y6.size
          have hF := HC.out.lf
          have hI := HC.out.li
          have hO := HC.out.lo
          obtain ⟨u7, cu7, w7, run7, c7, f7, T7, J7⟩ := T6.pf (k : Int) (by omega)
          rw [hF] at run7 T7 J7
          obtain ⟨X7, hX7⟩ : ∃ W, w7.setCell ⟨w.heap.size + 1 + 1, 0, none⟩ (.slice u7 (k + 1) cu7) = W := ⟨_, rfl⟩
          rw [hX7] at T7 J7
          obtain ⟨v8, cv8, w8, run8, c8, f8, T8, J8⟩ := T7.pi a (by omega)
          rw [hI] at run8 T8 J8
          obtain ⟨X8, hX8⟩ : ∃ W, w8.setCell ⟨w.heap.size + 1 + 1, 1, none⟩ (.slice v8 (k + 1) cv8) = W := ⟨_, rfl⟩
          rw [hX8] at T8 J8
          obtain ⟨x9, cx9, w9, run9, c9, f9, T9, J9⟩ := T8.po b (by omega)
          rw [hO] at run9 T9 J9
          obtain ⟨X9, hX9⟩ : ∃ W, w9.setCell ⟨w.heap.size + 1 + 1, 2, none⟩ (.slice x9 (k + 1) cx9) = W := ⟨_, rfl⟩
          rw [hX9] at T9 J9
          have q0 := T6.cell.cell 0 (v := .slice u k cu) rfl
          have q1 := T7.cell.cell 1 (v := .slice v k cv) rfl
          have q2 := T8.cell.cell 2 (v := .slice x k cx) rfl
          have z7 := J7.size
          have z8 := J8.size
          have z9 := J9.size
          have run7 : (Builtin.append_ #[23, 23] 23 #[.slice u k cu, .slice (some ⟨w6.heap.size, 0, none⟩) 1 1]).run Tryz.prog (w6.alloc (.cells #[.int .i64 (k : Int)] 3)) = .ok (.slice u7 (k + 1) cu7) w7 := run7
          have run8 : (Builtin.append_ #[23, 23] 23 #[.slice v k cv, .slice (some ⟨X7.heap.size, 0, none⟩) 1 1]).run Tryz.prog (X7.alloc (.cells #[.int .i64 a] 3)) = .ok (.slice v8 (k + 1) cv8) w8 := run8
          have run9 : (Builtin.append_ #[23, 23] 23 #[.slice x k cx, .slice (some ⟨X8.heap.size, 0, none⟩) 1 1]).run Tryz.prog (X8.alloc (.cells #[.int .i64 b] 3)) = .ok (.slice x9 (k + 1) cx9) w9 := run9
          have JJ : ExI (w.heap.size + 1 + 1) X9.heap.size w6 X9 := ((J7.widen (Nat.le_refl _) (by omega)).trans (J8.widen (Nat.le_refl _) (by omega))).trans (J9.widen (Nat.le_refl _) (by omega))
          have V09 := V06.iv JJ (.inl (by omega))
          have V19 := V16.iv JJ (.inl (by omega))
          have he9 := he6.iv JJ (by omega)
          clear hab' T5 V05 V15 hT hV0 hV1 J7 J8 J9 JJ hK2 T6 T7 T8
          go_wp2_with fail
          have hK2 := HK.out
          go_roundw
          case rel => exact ⟨k + 1, (a, b) :: st, u7, v8, x9, cu7, cv8, cx9, F ++ [(k : Int)], I ++ [a], O ++ [b], by omega, by go_num, HS2, HC2, Lib.hid (by rw [List.length_cons]; omega), T9, V09, V19, he9, by omega⟩
          case measure => simp [intOf]; omega
        | false =>
          rw [hb] at hlf
          have hnl : lfT n = none := by cases h : lfT n with
            | none => rfl
            | some a => rw [h] at hb; cases hb
          have HNL := Lib.hid hnl
          clear hnl
          have T4 := hT.ex y2
          have V04 := hV0.ex y2
          have V14 := hV1.ex y2
          have he4 := he.trans y2
          clear c0 c1 c2 hT hV0 hV1
          by_cases h17 : n.kd = 17
          · have h17b : (n.kd == 17) = true := by simp [h17]
            have HF := Lib.hid (HST2.out (by unfold stp; rw [if_neg (by omega), HNL.out]; rfl))
            have har := fun W => tmArity_n n W (.inr h17)
            clear h17
            go_wp2_with fail
            refine hlf.mono ?_
            clear hlf
            rintro e w5 ⟨rfl, y5⟩
            have d0 := cell_ex y5 d0
            have d1 := cell_ex y5 d1
            have d2 := cell_ex y5 d2
            go_wp2_with fail
            refine (har _).mono ?_
            clear har
            rintro e w6 ⟨a', b', rfl, _, y6⟩
            have d0 := cell_ex y6 d0
            have d1 := cell_ex y6 d1
            have d2 := cell_ex y6 d2
            go_wp2_with fail
            refine (lbFind_n n.nm w6).mono ?_
            rintro e w7 ⟨rfl, y7⟩
            have Y7 := (y5.trans y6).trans y7
            have T7 := T4.ex Y7
            have V17 := V14.ex Y7
            have he7 := he4.trans Y7
            have r0 := V17.cell 0 (v := .slice none 0 0) rfl
            have r1 := V17.cell 1 (v := .slice none 0 0) rfl
            have r2 := V17.cell 2 (v := .slice none 0 0) rfl
            have z0 := V17.frozen 0
            have z1 := V17.frozen 1
            have z2 := V17.frozen 2
            have c0 := T7.cell.cell 0 (v := .slice u k cu) rfl
            have c1 := T7.cell.cell 1 (v := .slice v k cv) rfl
            have c2 := T7.cell.cell 2 (v := .slice x k cx) rfl
            obtain ⟨W', hW', C0, C1, C2, eF⟩ := fin w7 (.slice u k cu) (.slice v k cv) (.slice x k cx) V17 he7
            subst hW'
            go_wp2_with fail
            refine bodyPost_ret (v := .tuple #[.agg #[.slice u k cu, .slice v k cv, .slice x k cx], .bool false]) (by simp [results, Tryz.results79, go_sem, C0, C1, C2]) rfl ?_
            rw [HF.out]
            exact ⟨_, _, _, _, _, _, _, _, _, rfl, eF⟩
          have h17b : (n.kd == 17) = false := by simpa using h17
          go_wp2_with fail
          refine hlf.mono ?_
          clear hlf
          rintro e w5 ⟨rfl, y5⟩
          have d0 := cell_ex y5 d0
          have d1 := cell_ex y5 d1
          have d2 := cell_ex y5 d2
          have T5 := T4.ex y5
          have V05 := V04.ex y5
          have V15 := V14.ex y5
          have he5 := he4.trans y5
          have z5 := he5.size
          have z5b := y5.size
          have z4b := y2.size
          clear T4 V04 V14
          by_cases hk56 : n.kd = 15 ∨ n.kd = 16
          case neg =>
            have h15 : (n.kd != 15) = true := by simp; omega
            have h16 : (n.kd != 16) = true := by simp; omega
            have HF := Lib.hid (HST2.out (by unfold stp; rw [if_neg hk56, HNL.out]; rfl))
            clear hk56 h17
            have r0 := V15.cell 0 (v := .slice none 0 0) rfl
            have r1 := V15.cell 1 (v := .slice none 0 0) rfl
            have r2 := V15.cell 2 (v := .slice none 0 0) rfl
            have z0 := V15.frozen 0
            have z1 := V15.frozen 1
            have z2 := V15.frozen 2
            have c0 := T5.cell.cell 0 (v := .slice u k cu) rfl
            have c1 := T5.cell.cell 1 (v := .slice v k cv) rfl
            have c2 := T5.cell.cell 2 (v := .slice x k cx) rfl
            obtain ⟨W', hW', C0, C1, C2, eF⟩ := fin w5 (.slice u k cu) (.slice v k cv) (.slice x k cx) V15 he5
            subst hW'
            go_wp2_with fail
            refine bodyPost_ret (v := .tuple #[.agg #[.slice u k cu, .slice v k cv, .slice x k cx], .bool false]) (by simp [results, Tryz.results79, go_sem, C0, C1, C2]) rfl ?_
            rw [HF.out]
            exact ⟨_, _, _, _, _, _, _, _, _, rfl, eF⟩
          have HST := Lib.hid (stp_join (st := st) hk56)
          have hK : (n.kd != 15) = false ∨ ((n.kd != 15) = true ∧ (n.kd != 16) = false) := by
            by_cases h : n.kd = 15
            · exact .inl (by simp [h])
            · exact .inr ⟨by simpa using h, by simp; omega⟩
          by_cases hnm : n.nm = ⟨#[]⟩
          case neg =>
            have hnb : (!n.nm.toList.isEmpty) = true := by
              cases h : n.nm.toList with
              | nil => exact absurd (byte_nil h) hnm
              | cons a l => rfl
            have HF := Lib.hid (HST2.out (by rw [HST.out, if_neg (fun h => hnm (by simpa [nmB] using h.2))]))
            clear hk56 h17 hnm
            have r0 := V15.cell 0 (v := .slice none 0 0) rfl
            have r1 := V15.cell 1 (v := .slice none 0 0) rfl
            have r2 := V15.cell 2 (v := .slice none 0 0) rfl
            have z0 := V15.frozen 0
            have z1 := V15.frozen 1
            have z2 := V15.frozen 2
            have c0 := T5.cell.cell 0 (v := .slice u k cu) rfl
            have c1 := T5.cell.cell 1 (v := .slice v k cv) rfl
            have c2 := T5.cell.cell 2 (v := .slice x k cx) rfl
            obtain ⟨W', hW', C0, C1, C2, eF⟩ := fin w5 (.slice u k cu) (.slice v k cv) (.slice x k cx) V15 he5
            subst hW'
            rcases hK with hK1 | ⟨hK1, hK2⟩
            all_goals
              go_wp2_with fail
              refine bodyPost_ret (v := .tuple #[.agg #[.slice u k cu, .slice v k cv, .slice x k cx], .bool false]) (by simp [results, Tryz.results79, go_sem, C0, C1, C2]) rfl ?_
              rw [HF.out]
              exact ⟨_, _, _, _, _, _, _, _, _, rfl, eF⟩
          have hnb : (!n.nm.toList.isEmpty) = false := by rw [hnm, ByteArray.toList_eq]; rfl
          by_cases hvl : n.vl = 0
          case neg =>
            have hvb : (n.vl != 0) = true := by simpa using hvl
            have HF := Lib.hid (HST2.out (by rw [HST.out, if_neg (fun h => hvl h.1)]))
            clear hk56 h17 hnm hvl
            have r0 := V15.cell 0 (v := .slice none 0 0) rfl
            have r1 := V15.cell 1 (v := .slice none 0 0) rfl
            have r2 := V15.cell 2 (v := .slice none 0 0) rfl
            have z0 := V15.frozen 0
            have z1 := V15.frozen 1
            have z2 := V15.frozen 2
            have c0 := T5.cell.cell 0 (v := .slice u k cu) rfl
            have c1 := T5.cell.cell 1 (v := .slice v k cv) rfl
            have c2 := T5.cell.cell 2 (v := .slice x k cx) rfl
            obtain ⟨W', hW', C0, C1, C2, eF⟩ := fin w5 (.slice u k cu) (.slice v k cv) (.slice x k cx) V15 he5
            subst hW'
            rcases hK with hK1 | ⟨hK1, hK2⟩
            all_goals
              go_wp2_with fail
              refine bodyPost_ret (v := .tuple #[.agg #[.slice u k cu, .slice v k cv, .slice x k cx], .bool false]) (by simp [results, Tryz.results79, go_sem, C0, C1, C2]) rfl ?_
              rw [HF.out]
              exact ⟨_, _, _, _, _, _, _, _, _, rfl, eF⟩
          have hvb : (n.vl != 0) = false := by simpa using hvl
          have HST3 := Lib.hid (show stp st n = jnS n.kd st from HST.out.trans (if_pos (And.intro hvl (by simp [nmB, hnm]))))
          have HK56 := Lib.hid hk56
          clear hvl hnm HST hk56 h17
          by_cases hk2 : k < 2
          · have hk2I : ((k : Int) < 2) := by omega
            have HF := Lib.hid (HST2.out (by
              rw [HST3.out]
              have := HK.out
              match st, this with
              | [], _ => rfl
              | [_], _ => rfl
              | _ :: _ :: r, h => simp at h; omega))
            have r0 := V15.cell 0 (v := .slice none 0 0) rfl
            have r1 := V15.cell 1 (v := .slice none 0 0) rfl
            have r2 := V15.cell 2 (v := .slice none 0 0) rfl
            have z0 := V15.frozen 0
            have z1 := V15.frozen 1
            have z2 := V15.frozen 2
            have c0 := T5.cell.cell 0 (v := .slice u k cu) rfl
            have c1 := T5.cell.cell 1 (v := .slice v k cv) rfl
            have c2 := T5.cell.cell 2 (v := .slice x k cx) rfl
            obtain ⟨W', hW', C0, C1, C2, eF⟩ := fin w5 (.slice u k cu) (.slice v k cv) (.slice x k cx) V15 he5
            subst hW'
            rcases hK with hK1 | ⟨hK1, hK2⟩
            all_goals
              go_wp2_with fail
              refine bodyPost_ret (v := .tuple #[.agg #[.slice u k cu, .slice v k cv, .slice x k cx], .bool false]) (by simp [results, Tryz.results79, go_sem, C0, C1, C2]) rfl ?_
              rw [HF.out]
              exact ⟨_, _, _, _, _, _, _, _, _, rfl, eF⟩
          have hk2I : ¬ ((k : Int) < 2) := by omega
          obtain ⟨k1, hk1⟩ : ∃ q, k - 1 = q := ⟨_, rfl⟩
          have HK1 := Lib.hid (show k = k1 + 1 by omega)
          have hw1 : IntKind.i64.wrap ((k : Int) - 1) = (k1 : Int) := by rw [IntWalk.i64_in _ (by omega)]; omega
          have hk1k : k1 < k := by omega
          obtain ⟨F5, cF5, eF5, fF⟩ := T5.f.form (by rw [HC.out.lf]; omega)
          obtain ⟨I5, cI5, eI5, fI⟩ := T5.i.form (by rw [HC.out.li]; omega)
          obtain ⟨O5, cO5, eO5, fO⟩ := T5.o.form (by rw [HC.out.lo]; omega)
          injection eF5 with eF5 eF6 eF7
          injection eI5 with eI5 eI6 eI7
          injection eO5 with eO5 eO6 eO7
          subst eF5 eI5 eO5
          clear eF6 eF7 eI6 eI7 eO6 eO7
          obtain ⟨f, hf1, hf2⟩ := HC.out.last (by omega)
          rw [hk1] at hf1
          obtain ⟨gu, ou, f', eu, hf', _, pf1⟩ := fF.rd.at_ (show k1 < F.length by rw [HC.out.lf]; exact hk1k)
          rw [hf1] at hf'
          injection hf' with hf'
          subst hf' eu
          have HF1 := Lib.hid hf1
          have c0 := T5.cell.cell 0 (v := .slice (some ⟨gu, ou, none⟩) k cu) rfl
          have c1 := T5.cell.cell 1 (v := .slice v k cv) rfl
          have c2 := T5.cell.cell 2 (v := .slice x k cx) rfl
          have hS0 : st ≠ [] := fun e => by have := HC.out; rw [e] at this; have := this.zero; omega
          clear hf1 hk1
          by_cases hf0 : f = 0
          · have hf0I : ((f : Int) < 1) := by omega
            have h1 := hf2.1 hf0
            have HF := Lib.hid (HST2.out (by
              rw [HST3.out]
              match st, h1 with
              | [_], _ => rfl))
            clear hf2 hS0 h1
            have r0 := V15.cell 0 (v := .slice none 0 0) rfl
            have r1 := V15.cell 1 (v := .slice none 0 0) rfl
            have r2 := V15.cell 2 (v := .slice none 0 0) rfl
            have z0 := V15.frozen 0
            have z1 := V15.frozen 1
            have z2 := V15.frozen 2
            obtain ⟨W', hW', C0, C1, C2, eF⟩ := fin w5 (.slice (some ⟨gu, ou, none⟩) k cu) (.slice v k cv) (.slice x k cx) V15 he5
            subst hW'
            rcases hK with hK1 | ⟨hK1, hK2⟩
            all_goals
              go_wp2_with fail
              refine bodyPost_ret (v := .tuple #[.agg #[.slice (some ⟨gu, ou, none⟩) k cu, .slice v k cv, .slice x k cx], .bool false]) (by simp [results, Tryz.results79, go_sem, C0, C1, C2]) rfl ?_
              rw [HF.out]
              exact ⟨_, _, _, _, _, _, _, _, _, rfl, eF⟩
          have hf0I : ¬ ((f : Int) < 1) := by omega
          obtain ⟨b, a, r, hst⟩ : ∃ b a r, st = b :: a :: r := by
            match st, hS0, hf2 with
            | [], h, _ => exact absurd rfl h
            | [_], _, h => exact absurd (h.2 rfl) hf0
            | b :: a :: r, _, _ => exact ⟨b, a, r, rfl⟩
          subst hst
          obtain ⟨f2, g2, e1, e2, e3, e4, e5, e6, e7, e8, e9, hch⟩ := HC.out.two
          rw [show k - 1 = k1 by have := HK1.out; omega] at e1 e4 e5
          rw [HF1.out] at e1
          injection e1 with e1
          obtain rfl : f = f2 := by omega
          obtain ⟨f1, hff⟩ : ∃ q, f - 1 = q := ⟨_, rfl⟩
          have hw2 : IntKind.i64.wrap ((f : Int) - 1) = (f1 : Int) := by rw [IntWalk.i64_in _ (by omega)]; omega
          rw [hff] at e6 e8 e9
          have hf1k : f1 < k := by omega
          obtain ⟨gv, ov, b1', ev, hb1, _, pb1⟩ := fI.rd.at_ (show k1 < I.length by rw [HC.out.li]; exact hk1k)
          rw [e4] at hb1
          injection hb1 with hb1
          subst hb1 ev
          obtain ⟨gx, ox, b2', ex, hb2, _, pb2⟩ := fO.rd.at_ (show k1 < O.length by rw [HC.out.lo]; exact hk1k)
          rw [e5] at hb2
          injection hb2 with hb2
          subst hb2 ex
          obtain ⟨ga, oa, a1', ea, ha1, _, pa1⟩ := fI.rd.at_ (show f1 < I.length by rw [HC.out.li]; exact hf1k)
          rw [e8] at ha1
          injection ha1 with ha1
          injection ea with ea
          injection ea with ea1 ea2
          subst ha1 ea1 ea2
          obtain ⟨gb, ob, a2', eb, ha2, _, pa2⟩ := fO.rd.at_ (show f1 < O.length by rw [HC.out.lo]; exact hf1k)
          rw [e9] at ha2
          injection ha2 with ha2
          injection eb with eb
          injection eb with eb1 eb2
          subst ha2 eb1 eb2
          obtain ⟨gc, oc', g2', ec, hg2, _, pg2⟩ := fF.rd.at_ (show f1 < F.length by rw [HC.out.lf]; exact hf1k)
          rw [e6] at hg2
          injection hg2 with hg2
          injection ec with ec
          injection ec with ec1 ec2
          subst hg2 ec1 ec2
          have hba := HC.out.bd a (by simp)
          have hbb := HC.out.bd b (by simp)
          have HCH := Lib.hid hch
          have HG2 := Lib.hid e7
          have HE3 := Lib.hid e3
          have HFF := Lib.hid hff
          clear hch e1 e2 e3 e4 e5 e6 e7 e8 e9 hf2 hS0 hf0 hff
          obtain ⟨a1, a2⟩ := a
          obtain ⟨b1, b2⟩ := b
          dsimp only at pb1 pb2 pa1 pa2 hba hbb
          have hws1 : IntKind.i64.wrap (a1 + b1) = a1 + b1 := IntWalk.i64_in _ (by omega)
          have hws2 : IntKind.i64.wrap (a2 + b2) = a2 + b2 := IntWalk.i64_in _ (by omega)
          rcases HK56.out with h15 | h16
          · have hK1 : (n.kd != 15) = false := by simp [h15]
            have hK3 : (n.kd == 15) = true := by simp [h15]
            have HJ := Lib.hid (show jnS n.kd ((b1, b2) :: (a1, a2) :: r) = if a2 = b1 then some ((a1, b2) :: r) else none by
              show (jnT n.kd (a1, a2) (b1, b2)).map (· :: r) = _
              unfold jnT
              rw [if_pos h15]
              dsimp only
              split <;> rfl)
            clear h15 hK
            go_wp2_with fail
            go_quiet (fail)
            clear pf1 fI fO fF
            have e6 := (Ex.refl w5).drewN nq
            have T6 := T5.ex e6
            have V06 := V05.ex e6
            have V16 := V15.ex e6
            have he6 := he5.trans e6
            have d0 := cell_ex e6 d0
            have pg2 := cell_ex e6 pg2
            have pa1 := cell_ex e6 pa1
            have pa2 := cell_ex e6 pa2
            have pb1 := cell_ex e6 pb1
            have pb2 := cell_ex e6 pb2
            have z6 := e6.size
            clear c0 c1 c2 V05 V15 T5
            generalize w5.drewN nq = W6 at *
            have c0 := T6.cell.cell 0 (v := .slice (some ⟨gu, ou, none⟩) k cu) rfl
            have c1 := T6.cell.cell 1 (v := .slice (some ⟨gv, ov, none⟩) k cv) rfl
            have c2 := T6.cell.cell 2 (v := .slice (some ⟨gx, ox, none⟩) k cx) rfl
            by_cases hab : a2 = b1
            case neg =>
              have hne : (a2 != b1) = true := by simpa using hab
              have HF := Lib.hid (HST2.out (by rw [HST3.out, HJ.out, if_neg hab]))
              clear hab
              go_wp2_with fail
              go_quiet (fail)
              clear pb1 pa2 pb2 pa1 pg2
              have e7 := (Ex.refl W6).drewN nq
              have T7 := T6.ex e7
              have V07 := V06.ex e7
              have V17 := V16.ex e7
              have he7 := he6.trans e7
              have d0 := cell_ex e7 d0
              have z7 := e7.size
              clear c0 c1 c2 V06 V16 T6
              generalize W6.drewN nq = W7 at *
              have c0 := T7.cell.cell 0 (v := .slice (some ⟨gu, ou, none⟩) k cu) rfl
              have c1 := T7.cell.cell 1 (v := .slice (some ⟨gv, ov, none⟩) k cv) rfl
              have c2 := T7.cell.cell 2 (v := .slice (some ⟨gx, ox, none⟩) k cx) rfl
              have r0 := V17.cell 0 (v := .slice none 0 0) rfl
              have r1 := V17.cell 1 (v := .slice none 0 0) rfl
              have r2 := V17.cell 2 (v := .slice none 0 0) rfl
              have z0 := V17.frozen 0
              have z1 := V17.frozen 1
              have z2 := V17.frozen 2
              obtain ⟨W', hW', C0, C1, C2, eF⟩ := fin W7 (.slice (some ⟨gu, ou, none⟩) k cu) (.slice (some ⟨gv, ov, none⟩) k cv) (.slice (some ⟨gx, ox, none⟩) k cx) V17 he7
              subst hW'
              go_wp2_with fail
              refine bodyPost_ret (v := .tuple #[.agg #[.slice (some ⟨gu, ou, none⟩) k cu, .slice (some ⟨gv, ov, none⟩) k cv, .slice (some ⟨gx, ox, none⟩) k cx], .bool false]) (by simp [results, Tryz.results79, go_sem, C0, C1, C2]) rfl ?_
              rw [HF.out]
              first
              | exact ⟨_, _, _, _, _, _, _, _, _, rfl, eF⟩
              | exact ⟨⟨_, _, _, _, _, _, _, _, _, rfl⟩, eF⟩
            have hne : (a2 != b1) = false := by simpa using hab
            have HS2 := Lib.hid (show scn (l.take (k + 1)) [] = some ((a1, b2) :: r) by rw [HSC.out, HS.out]; show stp _ n = _; rw [HST3.out, HJ.out, if_pos hab])
            clear hab
            go_wp2_with fail
            go_quiet (fail)
            have e7 := (Ex.refl W6).drewN nq
            have T7 := T6.ex e7
            have V07 := V06.ex e7
            have V17 := V16.ex e7
            have he7 := he6.trans e7
            have d0 := cell_ex e7 d0
            have pg2 := cell_ex e7 pg2
            have pa1 := cell_ex e7 pa1
            have pa2 := cell_ex e7 pa2
            have pb1 := cell_ex e7 pb1
            have pb2 := cell_ex e7 pb2
            have z7 := e7.size
            clear c0 c1 c2 V06 V16 T6
            generalize W6.drewN nq = W7 at *
            have c0 := T7.cell.cell 0 (v := .slice (some ⟨gu, ou, none⟩) k cu) rfl
            have c1 := T7.cell.cell 1 (v := .slice (some ⟨gv, ov, none⟩) k cv) rfl
            have c2 := T7.cell.cell 2 (v := .slice (some ⟨gx, ox, none⟩) k cx) rfl
            go_wp2_with fail
            go_quiet (fail)
            have e8 := (Ex.refl W7).drewN nq
            have T8 := T7.ex e8
            have V08 := V07.ex e8
            have V18 := V17.ex e8
            have he8 := he7.trans e8
            have d0 := cell_ex e8 d0
            have pg2 := cell_ex e8 pg2
            have pa1 := cell_ex e8 pa1
            have pa2 := cell_ex e8 pa2
            have pb1 := cell_ex e8 pb1
            have pb2 := cell_ex e8 pb2
            have z8 := e8.size
            clear c0 c1 c2 V07 V17 T7
            generalize W7.drewN nq = W8 at *
            have c0 := T8.cell.cell 0 (v := .slice (some ⟨gu, ou, none⟩) k cu) rfl
            have c1 := T8.cell.cell 1 (v := .slice (some ⟨gv, ov, none⟩) k cv) rfl
            have c2 := T8.cell.cell 2 (v := .slice (some ⟨gx, ox, none⟩) k cx) rfl
            clear pa1 pa2 pb1 pb2 hws1 hws2
            have hl1 : ¬ ((12 : Int) < a1) := by omega
            have hl2 : ¬ ((12 : Int) < b2) := by omega
            obtain ⟨u7, cu7, w7, run7', c7, f7, T7, J7⟩ := (T8.ex (Ex.refl W8).drew).pf (g2 : Int) (by rw [HC.out.lf]; omega)
            rw [HC.out.lf] at run7' T7 J7
            have run7 : (Builtin.append_ #[23, 23] 23 #[.slice (some ⟨gu, ou, none⟩) k cu, .slice (some ⟨W8.heap.size, 0, none⟩) 1 1]).run Tryz.prog ((W8.alloc (.cells #[.int .i64 (g2 : Int)] 3)).drew) = .ok (.slice u7 (k + 1) cu7) w7 := run7'
            clear run7'
            go_wp2_with fail
            refine wp_region_noPanic ?_
            refine wp_region_mid (fun V => V.cell? ⟨w.heap.size + 1 + 1, 0, none⟩ = some (.slice (some ⟨gu, ou, none⟩) k cu) ∧ V.cell? ⟨gu, ou + f1, none⟩ = some (.int .i64 (g2 : Int))) [0, 1, 2, 3, 4, 5, 6] [] 7 [8, 9, 10] rfl (by kernel_rfl) (by kernel_rfl) ⟨c0, pg2⟩ (fun _ _ _ _ _ h => h) ?_
            simp only [pickOps, List.getElem?_cons_zero, List.getElem?_cons_succ]
            iterate 7
              apply wpIf_step (by rfl)
              · intro V hV
                go_simp
                with_reducible rfl
              simp only [Act.put, List.setIfInBounds_toArray, List.set_cons_zero, List.set_cons_succ]
            apply wpMid_intro (by rfl)
            · go_simp
              exact ⟨rfl, rfl⟩
            · exact ⟨cell_ex ((Ex.refl W8).alloc _) c0, cell_ex ((Ex.refl W8).alloc _) pg2⟩
            simp only [Act.put, List.setIfInBounds_toArray, List.set_cons_zero, List.set_cons_succ]
            obtain ⟨X7, hX7⟩ : ∃ W, w7.setCell ⟨w.heap.size + 1 + 1, 0, none⟩ (.slice u7 (k + 1) cu7) = W := ⟨_, rfl⟩
            rw [hX7] at T7 J7
            obtain ⟨v8, cv8, w8, run8, c8, f8, T8b, J8⟩ := T7.pi a1 (by rw [HC.out.li]; omega)
            rw [HC.out.li] at run8 T8b J8
            obtain ⟨X8, hX8⟩ : ∃ W, w8.setCell ⟨w.heap.size + 1 + 1, 1, none⟩ (.slice v8 (k + 1) cv8) = W := ⟨_, rfl⟩
            rw [hX8] at T8b J8
            obtain ⟨x9, cx9, w9, run9, c9, f9, T9, J9⟩ := T8b.po b2 (by rw [HC.out.lo]; omega)
            rw [HC.out.lo] at run9 T9 J9
            obtain ⟨X9, hX9⟩ : ∃ W, w9.setCell ⟨w.heap.size + 1 + 1, 2, none⟩ (.slice x9 (k + 1) cx9) = W := ⟨_, rfl⟩
            rw [hX9] at T9 J9
            have p1 := T7.cell.cell 1 (v := .slice (some ⟨gv, ov, none⟩) k cv) rfl
            have p2 := T8b.cell.cell 2 (v := .slice (some ⟨gx, ox, none⟩) k cx) rfl
            have z7b : W8.heap.size ≤ X7.heap.size := J7.size
            have z8b := J8.size
            have z9 := J9.size
            have JJ : ExI (w.heap.size + 1 + 1) X9.heap.size W8.drew X9 := ((J7.widen (Nat.le_refl _) (show W8.heap.size ≤ _ by omega)).trans (J8.widen (Nat.le_refl _) (by omega))).trans (J9.widen (Nat.le_refl _) (by omega))
            have V09 := V08.drew.iv JJ (.inl (by omega))
            have V19 := V18.drew.iv JJ (.inl (by omega))
            have he9 := he8.drew.iv JJ (by omega)
            have HC2 := Lib.hid (HC.out.add (f := g2) (w := (a1, b2)) HCH.out (by have := HG2.out; have := HE3.out; omega) (fun u hu => by simp [hu]) (by dsimp only; omega))
            refine wpList_append_run rfl _ _ _ rfl rfl rfl run7 ?_
            clear run7
            have run8 : (Builtin.append_ #[23, 23] 23 #[.slice (some ⟨gv, ov, none⟩) k cv, .slice (some ⟨X7.heap.size, 0, none⟩) 1 1]).run Tryz.prog (X7.alloc (.cells #[.int .i64 (a1)] 3)) = .ok (.slice v8 (k + 1) cv8) w8 := run8
            have run9 : (Builtin.append_ #[23, 23] 23 #[.slice (some ⟨gx, ox, none⟩) k cx, .slice (some ⟨X8.heap.size, 0, none⟩) 1 1]).run Tryz.prog (X8.alloc (.cells #[.int .i64 (b2)] 3)) = .ok (.slice x9 (k + 1) cx9) w9 := run9
            go_wp2_with fail
            refine NoPanic.normal ?_
            go_wp2_with fail
            have hK2 := HK.out
            rw [List.length_cons, List.length_cons] at hK2
            go_roundw
            case rel => exact ⟨k + 1, (a1, b2) :: r, u7, v8, x9, cu7, cv8, cx9, F ++ [(g2 : Int)], I ++ [a1], O ++ [b2], by omega, by go_num, HS2, HC2, Lib.hid (by rw [List.length_cons]; omega), T9, V09, V19, he9, by omega⟩
            case measure => simp [intOf]; omega
          · have hK1 : (n.kd != 15) = true := by simp; omega
            have hK2 : (n.kd != 16) = false := by simp [h16]
            have hK3 : (n.kd == 15) = false := by simp; omega
            have HJ := Lib.hid (show jnS n.kd ((b1, b2) :: (a1, a2) :: r) = if a1 + b1 ≤ 12 ∧ a2 + b2 ≤ 12 then some ((a1 + b1, a2 + b2) :: r) else none by
              show (jnT n.kd (a1, a2) (b1, b2)).map (· :: r) = _
              unfold jnT
              rw [if_neg (show ¬ n.kd = 15 by omega)]
              dsimp only
              split <;> rfl)
            clear h16 hK
            go_wp2_with fail
            go_quiet (fail)
            clear pf1 fI fO fF pa1 pa2 pb1 pb2
            have e6 := (Ex.refl w5).drewN nq
            have T6 := T5.ex e6
            have V06 := V05.ex e6
            have V16 := V15.ex e6
            have he6 := he5.trans e6
            have d0 := cell_ex e6 d0
            have pg2 := cell_ex e6 pg2
            have z6 := e6.size
            clear c0 c1 c2 V05 V15 T5
            generalize w5.drewN nq = W6 at *
            have c0 := T6.cell.cell 0 (v := .slice (some ⟨gu, ou, none⟩) k cu) rfl
            have c1 := T6.cell.cell 1 (v := .slice (some ⟨gv, ov, none⟩) k cv) rfl
            have c2 := T6.cell.cell 2 (v := .slice (some ⟨gx, ox, none⟩) k cx) rfl
            by_cases hlim : a1 + b1 ≤ 12 ∧ a2 + b2 ≤ 12
            case neg =>
              have HF := Lib.hid (HST2.out (by rw [HST3.out, HJ.out, if_neg hlim]))
              have hlc : ((12 : Int) < a1 + b1) ∨ (¬ ((12 : Int) < a1 + b1) ∧ ((12 : Int) < a2 + b2)) := by omega
              clear hlim
              have r0 := V16.cell 0 (v := .slice none 0 0) rfl
              have r1 := V16.cell 1 (v := .slice none 0 0) rfl
              have r2 := V16.cell 2 (v := .slice none 0 0) rfl
              have z0 := V16.frozen 0
              have z1 := V16.frozen 1
              have z2 := V16.frozen 2
              obtain ⟨W', hW', C0, C1, C2, eF⟩ := fin W6 (.slice (some ⟨gu, ou, none⟩) k cu) (.slice (some ⟨gv, ov, none⟩) k cv) (.slice (some ⟨gx, ox, none⟩) k cx) V16 he6
              subst hW'
              rcases hlc with hl1 | ⟨hl1, hl2⟩
              all_goals
                go_wp2_with fail
                refine bodyPost_ret (v := .tuple #[.agg #[.slice (some ⟨gu, ou, none⟩) k cu, .slice (some ⟨gv, ov, none⟩) k cv, .slice (some ⟨gx, ox, none⟩) k cx], .bool false]) (by simp [results, Tryz.results79, go_sem, C0, C1, C2]) rfl ?_
                rw [HF.out]
                first
                | exact ⟨_, _, _, _, _, _, _, _, _, rfl, eF⟩
                | exact ⟨⟨_, _, _, _, _, _, _, _, _, rfl⟩, eF⟩
            have HS2 := Lib.hid (show scn (l.take (k + 1)) [] = some ((a1 + b1, a2 + b2) :: r) by rw [HSC.out, HS.out]; show stp _ n = _; rw [HST3.out, HJ.out, if_pos hlim])
            have hl1 : ¬ ((12 : Int) < a1 + b1) := by omega
            have hl2 : ¬ ((12 : Int) < a2 + b2) := by omega
            clear hlim
            obtain ⟨u7, cu7, w7, run7', c7, f7, T7, J7⟩ := (T6.ex (Ex.refl W6).drew).pf (g2 : Int) (by rw [HC.out.lf]; omega)
            rw [HC.out.lf] at run7' T7 J7
            have run7 : (Builtin.append_ #[23, 23] 23 #[.slice (some ⟨gu, ou, none⟩) k cu, .slice (some ⟨W6.heap.size, 0, none⟩) 1 1]).run Tryz.prog ((W6.alloc (.cells #[.int .i64 (g2 : Int)] 3)).drew) = .ok (.slice u7 (k + 1) cu7) w7 := run7'
            clear run7'
            go_wp2_with fail
            refine wp_region_noPanic ?_
            refine wp_region_mid (fun V => V.cell? ⟨w.heap.size + 1 + 1, 0, none⟩ = some (.slice (some ⟨gu, ou, none⟩) k cu) ∧ V.cell? ⟨gu, ou + f1, none⟩ = some (.int .i64 (g2 : Int))) [0, 1, 2, 3, 4, 5, 6] [] 7 [8, 9, 10] rfl (by kernel_rfl) (by kernel_rfl) ⟨c0, pg2⟩ (fun _ _ _ _ _ h => h) ?_
            simp only [pickOps, List.getElem?_cons_zero, List.getElem?_cons_succ]
            iterate 7
              apply wpIf_step (by rfl)
              · intro V hV
                go_simp
                with_reducible rfl
              simp only [Act.put, List.setIfInBounds_toArray, List.set_cons_zero, List.set_cons_succ]
            apply wpMid_intro (by rfl)
            · go_simp
              exact ⟨rfl, rfl⟩
            · exact ⟨cell_ex ((Ex.refl W6).alloc _) c0, cell_ex ((Ex.refl W6).alloc _) pg2⟩
            simp only [Act.put, List.setIfInBounds_toArray, List.set_cons_zero, List.set_cons_succ]
            obtain ⟨X7, hX7⟩ : ∃ W, w7.setCell ⟨w.heap.size + 1 + 1, 0, none⟩ (.slice u7 (k + 1) cu7) = W := ⟨_, rfl⟩
            rw [hX7] at T7 J7
            obtain ⟨v8, cv8, w8, run8, c8, f8, T8, J8⟩ := T7.pi (a1 + b1) (by rw [HC.out.li]; omega)
            rw [HC.out.li] at run8 T8 J8
            obtain ⟨X8, hX8⟩ : ∃ W, w8.setCell ⟨w.heap.size + 1 + 1, 1, none⟩ (.slice v8 (k + 1) cv8) = W := ⟨_, rfl⟩
            rw [hX8] at T8 J8
            obtain ⟨x9, cx9, w9, run9, c9, f9, T9, J9⟩ := T8.po (a2 + b2) (by rw [HC.out.lo]; omega)
            rw [HC.out.lo] at run9 T9 J9
            obtain ⟨X9, hX9⟩ : ∃ W, w9.setCell ⟨w.heap.size + 1 + 1, 2, none⟩ (.slice x9 (k + 1) cx9) = W := ⟨_, rfl⟩
            rw [hX9] at T9 J9
            have p1 := T7.cell.cell 1 (v := .slice (some ⟨gv, ov, none⟩) k cv) rfl
            have p2 := T8.cell.cell 2 (v := .slice (some ⟨gx, ox, none⟩) k cx) rfl
            have z7 : W6.heap.size ≤ X7.heap.size := J7.size
            have z8 := J8.size
            have z9 := J9.size
            have JJ : ExI (w.heap.size + 1 + 1) X9.heap.size W6.drew X9 := ((J7.widen (Nat.le_refl _) (show W6.heap.size ≤ _ by omega)).trans (J8.widen (Nat.le_refl _) (by omega))).trans (J9.widen (Nat.le_refl _) (by omega))
            have V09 := V06.drew.iv JJ (.inl (by omega))
            have V19 := V16.drew.iv JJ (.inl (by omega))
            have he9 := he6.drew.iv JJ (by omega)
            have HC2 := Lib.hid (HC.out.add (f := g2) (w := (a1 + b1, a2 + b2)) HCH.out (by have := HG2.out; have := HE3.out; omega) (fun u hu => by simp [hu]) (by dsimp only; omega))
            refine wpList_append_run rfl _ _ _ rfl rfl rfl run7 ?_
            clear run7
            have run8 : (Builtin.append_ #[23, 23] 23 #[.slice (some ⟨gv, ov, none⟩) k cv, .slice (some ⟨X7.heap.size, 0, none⟩) 1 1]).run Tryz.prog (X7.alloc (.cells #[.int .i64 (a1 + b1)] 3)) = .ok (.slice v8 (k + 1) cv8) w8 := run8
            have run9 : (Builtin.append_ #[23, 23] 23 #[.slice (some ⟨gx, ox, none⟩) k cx, .slice (some ⟨X8.heap.size, 0, none⟩) 1 1]).run Tryz.prog (X8.alloc (.cells #[.int .i64 (a2 + b2)] 3)) = .ok (.slice x9 (k + 1) cx9) w9 := run9
            go_wp2_with fail
            refine NoPanic.normal ?_
            go_wp2_with fail
            have hK2 := HK.out
            rw [List.length_cons, List.length_cons] at hK2
            go_roundw
            case rel => exact ⟨k + 1, (a1 + b1, a2 + b2) :: r, u7, v8, x9, cu7, cv8, cx9, F ++ [(g2 : Int)], I ++ [a1 + b1], O ++ [a2 + b2], by omega, by go_num, HS2, HC2, Lib.hid (by rw [List.length_cons]; omega), T9, V09, V19, he9, by omega⟩
            case measure => simp [intOf]; omega
      · -- all nodes have been read
        obtain rfl : k = N := by omega
        have hk0 : 0 < k := HNb.out.1
        have HT := Lib.hid (show trmB l = decide (st.length = 1) from typO_done (by rw [← HS.out, List.take_of_length_le (by rw [HN.out]; omega)]) (by rw [HN.out]; exact HNb.out))
        obtain ⟨f, hf1, hf2⟩ := HC.out.last hk0
        obtain ⟨k1, hk1⟩ : ∃ q, k - 1 = q := ⟨_, rfl⟩
        have hw1 : IntKind.i64.wrap ((k : Int) - 1) = (k1 : Int) := by rw [IntWalk.i64_in _ (by omega)]; omega
        have hk1k : k1 < k := by omega
        rw [hk1] at hf1
        obtain ⟨F5, cF5, eF5, fF⟩ := hT.f.form (by rw [HC.out.lf]; omega)
        injection eF5 with eF5 eF6 eF7
        subst eF5
        clear eF6 eF7
        obtain ⟨gu, ou, f', eu, hf', _, pf1⟩ := fF.rd.at_ (show k1 < F.length by rw [HC.out.lf]; exact hk1k)
        rw [hf1] at hf'
        injection hf' with hf'
        subst hf' eu
        have p0 := hV0.cell 0 (v := .slice A k c) rfl
        have r0 := hV1.cell 0 (v := .slice none 0 0) rfl
        have r1 := hV1.cell 1 (v := .slice none 0 0) rfl
        have r2 := hV1.cell 2 (v := .slice none 0 0) rfl
        have z0 := hV1.frozen 0
        have z1 := hV1.frozen 1
        have z2 := hV1.frozen 2
        have hlt' : ¬ ((k : Int) < (k : Int)) := by omega
        obtain ⟨W', hW', C0, C1, C2, eF⟩ := fin wi (.slice (some ⟨gu, ou, none⟩) k cu) (.slice v k cv) (.slice x k cx) hV1 he
        have E1 := (hV1.st3 (.slice (some ⟨gu, ou, none⟩) k cu) (.slice v k cv) (.slice x k cx)).2.drew
        rw [← hW'] at E1
        obtain ⟨Wd, hWd⟩ : ∃ W, W'.drew = W := ⟨_, rfl⟩
        have eF := eF.drew
        have C0 : W'.drew.cell? ⟨w.heap.size + 1, 0, none⟩ = some (.slice (some ⟨gu, ou, none⟩) k cu) := C0
        have C1 : W'.drew.cell? ⟨w.heap.size + 1, 1, none⟩ = some (.slice v k cv) := C1
        have C2 : W'.drew.cell? ⟨w.heap.size + 1, 2, none⟩ = some (.slice x k cx) := C2
        rw [hWd] at E1 eF C0 C1 C2
        rw [hW'] at hWd
        clear hW'
        have hfb : (((f : Int) == 0)) = trmB l := by
          rw [HT.out]
          by_cases h : f = 0
          · rw [h, decide_eq_true (hf2.1 h)]; rfl
          · rw [decide_eq_false (fun e => h (hf2.2 e))]; simpa using h
        have Hfb := Lib.hid hfb
        clear hf1 hf2 hk1 hfb hlt
        have hguw : gu ≠ w.heap.size + 1 := by have := fF.hi ⟨gu, ou, none⟩ rfl; dsimp only at this; omega
        go_wp2_with fail
        refine wp_region_noPanic ?_
        refine wp_region_mid (fun V => V.cell? ⟨w.heap.size + 1 + 1, 0, none⟩ = some (.slice (some ⟨gu, ou, none⟩) k cu) ∧ V.cell? ⟨w.heap.size + 1 + 1, 1, none⟩ = some (.slice v k cv) ∧ V.cell? ⟨w.heap.size + 1 + 1, 2, none⟩ = some (.slice x k cx) ∧ V.cell? ⟨w.heap.size, 0, none⟩ = some (.slice A k c) ∧ V.cell? ⟨gu, ou + k1, none⟩ = some (.int .i64 (f : Int))) [0, 1, 2, 3, 4, 5, 6, 7, 8, 9] [] 10 [11] rfl (by kernel_rfl) (by kernel_rfl) ⟨c0, c1, c2, p0, pf1⟩ (fun _ _ _ _ _ h => h) ?_
        simp only [pickOps, List.getElem?_cons_zero, List.getElem?_cons_succ]
        iterate 10
          apply wpIf_step (by rfl)
          · intro V hV
            go_simp
            with_reducible rfl
          simp only [Act.put, List.setIfInBounds_toArray, List.set_cons_zero, List.set_cons_succ]
        apply wpMid_skip (by rfl)
        · go_simp
          first | exact hWd | exact rfl
        · exact ⟨E1.cellT (by omega) c0, E1.cellT (by omega) c1, E1.cellT (by omega) c2, E1.cellT (by omega) p0, E1.cellT hguw pf1⟩
        simp only [Act.put]
        go_wp2_with fail
        refine NoPanic.normal ?_
        go_wp2_with fail
        refine bodyPost_ret (v := .tuple #[.agg #[.slice (some ⟨gu, ou, none⟩) k cu, .slice v k cv, .slice x k cx], .bool ((f : Int) == 0)]) (by simp [results, Tryz.results79, go_sem, C0, C1, C2]) rfl ?_
        rw [Hfb.out]
        exact ⟨_, _, _, _, _, _, _, _, _, rfl, eF⟩
end Go.Proofs.YtphdcgimibnajaaGreat
namespace Go.Proofs.YtphdcgimibnajaaGreat
set_option maxRecDepth 100000
open Go Go.RowKit
/-- A call that returns a term of its own. -/
def TmO (w : World) (B : Nat) (xs : List Nd) (e : Ending) (w' : World) : Prop := ∃ A c, e = .returned (.agg #[.slice A xs.length c]) ∧ AN w' B (.slice A xs.length c) xs ∧ Ex w w'
theorem AN.rdx {w : World} {B : Nat} {A : Option Addr} {n c : Nat} {xs : List Nd} (h : AN w B (.slice A n c) xs) (hl : xs.length ≤ 1099511627776) : RdS EN w A xs := by
  obtain ⟨A', c', e, r⟩ := h.rd hl
  injection e with e _ _
  rw [e]; exact r
theorem tmOne_c (k v : Int) (w : World) : Calls Tryz.prog 44 #[.int .i64 k, .int .i64 v] w fun e w' => TmO w w.heap.size [nd k v] e w' := by
  have x0 := (Ex.refl w).alloc (.cells #[.slice none 0 0] 29)
  have v0 := VB.new w 29 #[.slice none 0 0]
  obtain ⟨W0, hW0⟩ : ∃ W, w.alloc (.cells #[.slice none 0 0] 29) = W := ⟨_, rfl⟩
  have s0 : W0.heap.size = w.heap.size + 1 := by rw [← hW0]; simp
  rw [hW0] at x0 v0
  have n1 := an_one W0 (B := w.heap.size) (by omega) k v
  have x1 := x0.trans ((Ex.refl W0).alloc (.cells #[.int .i64 k, .int .i64 v, .string ⟨#[]⟩] 84))
  have v1 := v0.ex ((Ex.refl W0).alloc (.cells #[.int .i64 k, .int .i64 v, .string ⟨#[]⟩] 84))
  obtain ⟨W1, hW1⟩ : ∃ W, W0.alloc (.cells #[.int .i64 k, .int .i64 v, .string ⟨#[]⟩] 84) = W := ⟨_, rfl⟩
  rw [hW1] at x1 v1 n1
  have r0 := v1.cell 0 (v := .slice none 0 0) rfl
  have f0 := v1.frozen 0
  have dd := v1.set_ 0 (.slice (some ⟨w.heap.size + 1, 0, none⟩) 1 1)
  have C0 := dd.cell 0 (v := .slice (some ⟨w.heap.size + 1, 0, none⟩) 1 1) rfl
  have E1 : Ex1 w.heap.size W1 (W1.setCell ⟨w.heap.size, 0, none⟩ (.slice (some ⟨w.heap.size + 1, 0, none⟩) 1 1)) := (Ex1.refl _ _).setCell (p := ⟨w.heap.size, 0, none⟩) rfl _
  rw [s0] at n1
  have n2 := n1.k1 E1 (fun e => by simp [Value.ownBlock] at e)
  have eF := x1.ex1 E1 (Nat.le_refl _)
  clear E1 dd n1
  go_enter Tryz.func44, Tryz.ntmps44
  go_wp2_with fail
  refine bodyPost_ret (v := .agg #[.slice (some ⟨w.heap.size + 1, 0, none⟩) 1 1]) (by simp [results, Tryz.results44, go_sem, C0]) rfl ?_
  exact ⟨_, _, rfl, n2, eF⟩
theorem TmO.put {w w2 : World} {g : Nat} {xs : List Nd} {A : Option Addr} {c : Nat} {B : Nat} (h : AN w2 B (.slice A xs.length c) xs) (hx : Ex w w2) (hg : w.heap.size ≤ g) (hB : g < B) :
    AN (w2.setCell ⟨g, 0, none⟩ (.slice A xs.length c)) B (.slice A xs.length c) xs ∧ Ex w (w2.setCell ⟨g, 0, none⟩ (.slice A xs.length c)) := by
  have E1 : Ex1 g w2 (w2.setCell ⟨g, 0, none⟩ (.slice A xs.length c)) := (Ex1.refl _ _).setCell (p := ⟨g, 0, none⟩) rfl _
  exact ⟨h.k1 E1 (fun e => by have := (h.lt _ e).1; omega), hx.ex1 E1 hg⟩
theorem tmId_c (n : Int) (w : World) : Calls Tryz.prog 45 #[.int .i64 n] w fun e w' => TmO w w.heap.size [nd 1 n] e w' := by
  have x0 := (Ex.refl w).alloc (.cells #[.slice none 0 0] 29)
  have v0 := VB.new w 29 #[.slice none 0 0]
  obtain ⟨W0, hW0⟩ : ∃ W, w.alloc (.cells #[.slice none 0 0] 29) = W := ⟨_, rfl⟩
  have s0 : W0.heap.size = w.heap.size + 1 := by rw [← hW0]; simp
  rw [hW0] at x0 v0
  go_enter Tryz.func45, Tryz.ntmps45
  go_wp2_with fail
  refine (tmOne_c 1 n W0).mono ?_
  rintro e w2 ⟨A, c, rfl, n2, x2⟩
  obtain ⟨n3, eF⟩ := TmO.put (w := w) (g := w.heap.size) n2 (x0.trans x2) (Nat.le_refl _) (by omega)
  obtain ⟨m, hm⟩ : ∃ m, [nd 1 n].length = m := ⟨_, rfl⟩
  have HM := Lib.hid hm
  rw [hm] at n3 eF ⊢
  clear hm n2
  have v2 := v0.ex x2
  have r0 := v2.cell 0 (v := .slice none 0 0) rfl
  have f0 := v2.frozen 0
  have C0 := (v2.set_ 0 (.slice A m c)).cell 0 (v := .slice A m c) rfl
  go_wp2_with fail
  refine bodyPost_ret (v := .agg #[.slice A m c]) (by simp [results, Tryz.results45, go_sem, C0]) rfl ?_
  exact ⟨_, _, by rw [HM.out], by rw [HM.out]; exact n3.more (by omega), eF⟩
set_option maxHeartbeats 2000000 in
theorem tmJoin_c (a b : List Nd) (A B : Option Addr) (c d : Nat) (k : Int) (w : World) (ha : RdS EN w A a) (hb : RdS EN w B b) (hal : a.length ≤ 100000000000) (hbl : b.length ≤ 100000000000) :
    Calls Tryz.prog 84 #[.agg #[.slice A a.length c], .agg #[.slice B b.length d], .int .i64 k] w fun e w' => TmO w w.heap.size (jn k a b) e w' := by
  have x0 := (Ex.refl w).alloc (.cells #[.slice A a.length c] 29)
  have v0 := VB.new w 29 #[.slice A a.length c]
  obtain ⟨W0, hW0⟩ : ∃ W, w.alloc (.cells #[.slice A a.length c] 29) = W := ⟨_, rfl⟩
  have s0 : W0.heap.size = w.heap.size + 1 := by rw [← hW0]; simp
  rw [hW0] at x0 v0
  have x1 := (Ex.refl W0).alloc (.cells #[.slice B b.length d] 29)
  have v1 := VB.new W0 29 #[.slice B b.length d]
  obtain ⟨W1, hW1⟩ : ∃ W, W0.alloc (.cells #[.slice B b.length d] 29) = W := ⟨_, rfl⟩
  have s1 : W1.heap.size = w.heap.size + 1 + 1 := by rw [← hW1]; simp [s0]
  rw [hW1] at x1 v1
  rw [s0] at v1
  have x2 := (Ex.refl W1).alloc (.cells #[.slice none 0 0] 29)
  have v2 := VB.new W1 29 #[.slice none 0 0]
  obtain ⟨W2, hW2⟩ : ∃ W, W1.alloc (.cells #[.slice none 0 0] 29) = W := ⟨_, rfl⟩
  have s2 : W2.heap.size = w.heap.size + 1 + 1 + 1 := by rw [← hW2]; simp [s1]
  rw [hW2] at x2 v2
  rw [s1] at v2
  have x3 := (Ex.refl W2).alloc (.cells #[] 84)
  have a3 : AN (W2.alloc (.cells #[] 84)) W2.heap.size (.slice (some ⟨W2.heap.size, 0, none⟩) 0 0) [] := AF.empty W2 (Nat.le_refl _)
  obtain ⟨W3, hW3⟩ : ∃ W, W2.alloc (.cells #[] 84) = W := ⟨_, rfl⟩
  have s3 : W3.heap.size = w.heap.size + 1 + 1 + 1 + 1 := by rw [← hW3]; simp [s2]
  rw [hW3] at x3 a3
  rw [s2] at a3
  have X3 := ((x0.trans x1).trans x2).trans x3
  have V0 := ((v0.ex x1).ex x2).ex x3
  have V1 := (v1.ex x2).ex x3
  have V2 := v2.ex x3
  have q0 := V0.cell 0 (v := .slice A a.length c) rfl
  clear x0 x1 x2 x3 v0 v1 v2
  obtain ⟨u4, w4, run4, a4, _, E4, _⟩ := an_append 27 W3 (w.heap.size + 1 + 1 + 1) _ [] a3 (by omega) A c a (ha.ex X3) (by simp; omega)
  have X4 := X3.exo E4 (fun q e => by have e2 : w.heap.size + 1 + 1 + 1 = q := Option.some.inj e; omega)
  have o4 : ∀ g, g < w.heap.size + 1 + 1 + 1 → g < W3.heap.size → w4.heap[g]? = W3.heap[g]? := fun g h1 h2 => E4.block g h2 (fun e => by have e2 : w.heap.size + 1 + 1 + 1 = g := Option.some.inj e.symm; omega)
  have V14 : VB w4 (w.heap.size + 1) 29 #[.slice B b.length d] := (o4 _ (by omega) V1.lt).trans V1
  have V24 : VB w4 (w.heap.size + 1 + 1) 29 #[.slice none 0 0] := (o4 _ (by omega) V2.lt).trans V2
  rw [List.nil_append] at a4
  have z4 := E4.size
  obtain ⟨u5, w5, run5, a5, _, E5, _⟩ := an_append 27 w4 (w.heap.size + 1 + 1 + 1) _ a a4 (by omega) B d b (hb.ex X4) (by omega)
  have hu4 := a4.lt
  have X5 := X4.exo E5 (fun q e => by have := (hu4 q e).1; omega)
  have V25 : VB w5 (w.heap.size + 1 + 1) 29 #[.slice none 0 0] := (E5.block _ V24.lt (fun e => by have := (hu4 _ e.symm).1; omega)).trans V24
  have z5 := E5.size
  obtain ⟨u6, w6, run6, a6, _, E6, _⟩ := an_push 27 w5 (w.heap.size + 1 + 1 + 1) _ (a ++ b) (nd k 0) a5 (by omega) (by rw [List.length_append]; omega)
  have hu5 := a5.lt
  have X6 := X5.exo E6 (fun q e => by have := (hu5 q e).1; omega)
  have V26 : VB w6 (w.heap.size + 1 + 1) 29 #[.slice none 0 0] := (E6.block _ V25.lt (fun e => by have := (hu5 _ e.symm).1; omega)).trans V25
  have a6 : AN w6 (w.heap.size + 1 + 1 + 1) u6 (jn k a b) := a6
  obtain ⟨A6, c6, e6, _⟩ := a6.form
  obtain ⟨A4, c4, e4, _⟩ := a4.form
  obtain ⟨A5, c5, e5, _⟩ := a5.form
  obtain ⟨n5, hn5⟩ : ∃ n, (a ++ b).length = n := ⟨_, rfl⟩
  rw [hn5] at e5
  subst e4 e5 e6
  have q1 := V14.cell 0 (v := .slice B b.length d) rfl
  have r0 := V26.cell 0 (v := .slice none 0 0) rfl
  have f0 := V26.frozen 0
  have C0 := (V26.set_ 0 (.slice A6 (jn k a b).length c6)).cell 0 (v := .slice A6 (jn k a b).length c6) rfl
  obtain ⟨n7, eF⟩ := TmO.put (w := w) (g := w.heap.size + 1 + 1) a6 X6 (by omega) (by omega)
  obtain ⟨m, hm⟩ : ∃ m, (jn k a b).length = m := ⟨_, rfl⟩
  have HM := Lib.hid hm
  rw [hm] at C0 n7 eF run6
  have run6 : (Builtin.append_ #[27, 27] 27 #[.slice A5 n5 c5, .slice (some ⟨w5.heap.size, 0, none⟩) 1 1]).run Tryz.prog (w5.alloc (.cells #[.int .i64 k, .int .i64 0, .string ⟨#[]⟩] 84)) = .ok (.slice A6 m c6) w6 := run6
  clear hn5 hm E4 E5 E6 a4 a5 a6 o4 V0 V1 V2 V14 V24 V25 V26 hu4 hu5
  go_enter Tryz.func84, Tryz.ntmps84
  go_wp2_with (at_builtin; first
    | (refine wpList_append_run rfl _ _ _ rfl rfl rfl run4 ?_)
    | (refine wpList_append_run rfl _ _ _ rfl rfl rfl run5 ?_)
    | (refine wpList_append_run rfl _ _ _ rfl rfl rfl run6 ?_))
  refine bodyPost_ret (v := .agg #[.slice A6 m c6]) (by simp [results, Tryz.results84, go_sem, C0]) rfl ?_
  exact ⟨_, _, by rw [HM.out], by rw [HM.out]; exact n7.more (by omega), eF⟩
end Go.Proofs.YtphdcgimibnajaaGreat
