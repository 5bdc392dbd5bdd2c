/- RatFunctionOf: the program: rows of noughts and unit rows, the matrix of a relation. A valid relation over Z/p lifted to constants: the program's side. LiftRelation: the program's side, in the uniform words. LiftRelation: the reference, in the uniform words. -/
import Derived.Test.YtmekhjnhcgmphaaDoorAp18
import Derived.Test.YtmekhjnhcgmphaaDoorAp15
import Derived.Deep.RegionWith
import Derived.Test.YtmekhjnhcgmphaaDoorAp27
import Derived.Deep.RegionHeld3
import Derived.Test.YtmekhjnhcgmphaaDoorAp26
namespace Go.Proofs.YtmekhjnhcgmphaaDoor
set_option maxRecDepth 100000
open Go Go.RowKit
set_option maxHeartbeats 1000000 in
theorem const0_c (w : World) : Calls Tryd.prog 82 #[.int .i64 0] w fun e w' => FFx w zF e w' := by
  go_enter Tryd.func82, Tryd.ntmps82
  go_wp2_with fail
  have x1 := (Ex.refl w).alloc (.cells #[.slice (some ⟨w.heap.size + 1, 0, none⟩) 0 0, .slice (some ⟨w.heap.size + 1 + 1, 0, none⟩) 1 1] 40)
  have v1 := VB.new w 40 #[.slice (some ⟨w.heap.size + 1, 0, none⟩) 0 0, .slice (some ⟨w.heap.size + 1 + 1, 0, none⟩) 1 1]
  have s1 : (w.alloc (.cells #[.slice (some ⟨w.heap.size + 1, 0, none⟩) 0 0, .slice (some ⟨w.heap.size + 1 + 1, 0, none⟩) 1 1] 40)).heap.size = w.heap.size + 1 := by simp
  generalize w.alloc (.cells #[.slice (some ⟨w.heap.size + 1, 0, none⟩) 0 0, .slice (some ⟨w.heap.size + 1 + 1, 0, none⟩) 1 1] 40) = W1 at *
  have x2 := ((Ex.refl W1).alloc (iObj [])).alloc (iObj [1])
  have o1 := (Own.new W1 []).ex ((Ex.refl (W1.alloc (iObj []))).alloc (iObj [1]))
  have o2 := Own.new (W1.alloc (iObj [])) [1]
  have s2 : (W1.alloc (iObj [])).heap.size = w.heap.size + 1 + 1 := by simp [s1]
  rw [s2] at o2
  rw [s1] at o1
  have v2 := v1.ex x2
  have d0 := v2.cell 0 (v := .slice (some ⟨w.heap.size + 1, 0, none⟩) 0 0) rfl
  have d1 := v2.cell 1 (v := .slice (some ⟨w.heap.size + 1 + 1, 0, none⟩) 1 1) rfl
  change bodyPost _ _ _ _ _ ((W1.alloc (iObj [])).alloc (iObj [1]))
  generalize (W1.alloc (iObj [])).alloc (iObj [1]) = W2 at *
  refine bodyPost_ret (v := .agg #[.slice (some ⟨w.heap.size + 1, 0, none⟩) 0 0, .slice (some ⟨w.heap.size + 1 + 1, 0, none⟩) 1 1]) (by simp [results, Tryd.results82, go_sem, d0, d1]) rfl ?_
  exact ⟨_, _, _, _, rfl, o1.fr (by simp) (by omega) (by simp), o2.fr (by simp) (by omega) (by simp), apart_ne (by omega), x1.trans x2⟩
end Go.Proofs.YtmekhjnhcgmphaaDoor
namespace Go.Proofs.YtmekhjnhcgmphaaDoor
set_option maxRecDepth 100000
open Go Go.RowKit
def fitsB (l r : Int) : Bool := inB 0 24 l && inB 0 24 r && decide (l + r ≤ 24)
theorem relB_fits {p : Int} {x : Rln} (h : fitsB x.l x.r = true) : relB p x = (fieldB p && redB p (x.l + x.r).toNat x.b) := by
  unfold relB redB
  have h' : (inB 0 24 x.l && inB 0 24 x.r && decide (x.l + x.r ≤ 24)) = true := h
  rw [h']
  simp only [fitsB, inB, Bool.and_eq_true, decide_eq_true_eq] at h
  have e : ((x.l + x.r).toNat : Int) = x.l + x.r := by omega
  rw [e]
  have e2 : decide ((x.b.length : Int) ≤ x.l + x.r) = decide (x.b.length ≤ (x.l + x.r).toNat) := by
    rw [decide_eq_decide]; omega
  rw [e2]
  simp only [Bool.and_true, Bool.and_assoc]
theorem relB_no {p : Int} {x : Rln} (h : fitsB x.l x.r = false) : relB p x = false := by
  unfold relB
  have h' : (inB 0 24 x.l && inB 0 24 x.r && decide (x.l + x.r ≤ 24)) = false := h
  rw [h']
  simp
theorem relB_nof {p : Int} {x : Rln} (h : fieldB p = false) : relB p x = false := by
  unfold relB
  rw [h]
  rfl
theorem fits_c (l r : Int) (w : World) : Calls Tryd.prog 51 #[.int .i64 l, .int .i64 r] w fun e w' => e = .returned (.bool (fitsB l r)) ∧ w = w' := by
  cases h1 : inB 0 24 l with
  | false =>
    have H := Lib.hid (show fitsB l r = false by rw [fitsB, h1]; rfl)
    go_enter Tryd.func51, Tryd.ntmps51
    go_wp2_with fail
    refine (within_c l 0 24 w).mono ?_
    rintro e w1 ⟨rfl, rfl⟩
    rw [h1]
    go_wp2_with fail
    go_ret
    exact ⟨by rw [H.out]; rfl, rfl⟩
  | true =>
    cases h2 : inB 0 24 r with
    | false =>
      have H := Lib.hid (show fitsB l r = false by rw [fitsB, h1, h2]; rfl)
      go_enter Tryd.func51, Tryd.ntmps51
      go_wp2_with fail
      refine (within_c l 0 24 w).mono ?_
      rintro e w1 ⟨rfl, rfl⟩
      rw [h1]
      go_wp2_with fail
      refine (within_c r 0 24 w).mono ?_
      rintro e w1 ⟨rfl, rfl⟩
      rw [h2]
      go_wp2_with fail
      go_ret
      exact ⟨by rw [H.out]; rfl, rfl⟩
    | true =>
      have H := Lib.hid (show fitsB l r = decide (l + r ≤ 24) by rw [fitsB, h1, h2]; rfl)
      have hb1 : 0 ≤ l ∧ l ≤ 24 := by simpa [inB] using h1
      have hb2 : 0 ≤ r ∧ r ≤ 24 := by simpa [inB] using h2
      have hwr : IntKind.i64.wrap (l + r) = l + r := IntWalk.i64_in _ (by omega)
      go_enter Tryd.func51, Tryd.ntmps51
      go_wp2_with fail
      refine (within_c l 0 24 w).mono ?_
      rintro e w1 ⟨rfl, rfl⟩
      rw [h1]
      go_wp2_with fail
      refine (within_c r 0 24 w).mono ?_
      rintro e w1 ⟨rfl, rfl⟩
      rw [h2]
      go_wp2_with fail
      go_ret
      exact ⟨ret_bool (by rw [H.out]), rfl⟩
set_option maxHeartbeats 4000000 in
theorem isRelation_c (p : Int) (x : Rln) (A : Option Addr) (c : Nat) (w : World) (h : RdM w A x.b) (ht : Tb w) :
    Calls Tryd.prog 27 #[.int .i64 p, .agg #[.int .i64 x.l, .int .i64 x.r, .slice A x.b.length c]] w fun e w' => e = .returned (.bool (relB p x)) ∧ Ex w w' := by
  obtain ⟨l, r, rows⟩ := x
  dsimp only at h ⊢
  have x0 := (Ex.refl w).alloc (.cells #[.int .i64 l, .int .i64 r, .slice A rows.length c] 31)
  have v0 := VB.new w 31 #[.int .i64 l, .int .i64 r, .slice A rows.length c]
  have q0 := v0.cell 0 (v := .int .i64 l) rfl
  have q1 := v0.cell 1 (v := .int .i64 r) rfl
  have q2 := v0.cell 2 (v := .slice A rows.length c) rfl
  cases hF : fieldB p with
  | false =>
    have HN := Lib.hid (relB_nof (x := ⟨l, r, rows⟩) hF)
    go_enter Tryd.func27, Tryd.ntmps27
    go_wp2_with fail
    generalize w.alloc (.cells #[.int .i64 l, .int .i64 r, .slice A rows.length c] 31) = W0 at *
    refine (isField_c p W0 (ht.ex x0)).mono ?_
    rintro e w1 ⟨rfl, rfl⟩
    rw [hF]
    go_wp2_with fail
    go_ret
    exact ⟨ret_bool HN.out.symm, x0⟩
  | true =>
    cases hf : fitsB l r with
    | false =>
      have HN := Lib.hid (relB_no (p := p) (x := ⟨l, r, rows⟩) hf)
      go_enter Tryd.func27, Tryd.ntmps27
      go_wp2_with fail
      generalize w.alloc (.cells #[.int .i64 l, .int .i64 r, .slice A rows.length c] 31) = W0 at *
      refine (isField_c p W0 (ht.ex x0)).mono ?_
      rintro e w1 ⟨rfl, rfl⟩
      rw [hF]
      go_wp2_with fail
      refine (fits_c l r W0).mono ?_
      rintro e w1 ⟨rfl, rfl⟩
      rw [hf]
      go_wp2_with fail
      go_ret
      exact ⟨ret_bool HN.out.symm, x0⟩
    | true =>
      have HY := Lib.hid (relB_fits (p := p) (x := ⟨l, r, rows⟩) hf)
      have hb : (0 ≤ l ∧ l ≤ 24) ∧ (0 ≤ r ∧ r ≤ 24) ∧ l + r ≤ 24 := by
        simp only [fitsB, inB, Bool.and_eq_true, decide_eq_true_eq] at hf
        omega
      obtain ⟨N, hN⟩ : ∃ N : Nat, (l + r).toNat = N := ⟨_, rfl⟩
      have hN2 : l + r = (N : Int) := by omega
      have hwr : IntKind.i64.wrap (l + r) = (N : Int) := by rw [IntWalk.i64_in _ (by omega)]; exact hN2
      have HNN := Lib.hid hN
      have hN48 : N ≤ 48 := by omega
      have HF := Lib.hid hF
      clear hN hN2
      go_enter Tryd.func27, Tryd.ntmps27
      go_wp2_with fail
      generalize w.alloc (.cells #[.int .i64 l, .int .i64 r, .slice A rows.length c] 31) = W0 at *
      refine (isField_c p W0 (ht.ex x0)).mono ?_
      rintro e w1 ⟨rfl, rfl⟩
      rw [hF]
      go_wp2_with fail
      refine (fits_c l r W0).mono ?_
      rintro e w1 ⟨rfl, rfl⟩
      rw [hf]
      go_wp2_with fail
      refine (isReduced_c p N rows A c W0 HF.out (h.ex x0) hN48).mono ?_
      rintro e w1 ⟨rfl, x1⟩
      go_wp2_with fail
      go_ret
      exact ⟨ret_bool (by rw [HY.out, HF.out, HNN.out]; rfl), x0.trans x1⟩
theorem constC_c (a : Int) (w : World) : Calls Tryd.prog 82 #[.int .i64 a] w fun e w' => FFx w (cF a) e w' := by
  by_cases h : a = 0
  · subst h
    exact const0_c w
  · have e : cF a = ⟨[a], [1]⟩ := if_neg h
    rw [e]
    exact constK_c a h w
set_option maxHeartbeats 4000000 in
theorem lifted_c (rows : List (List Int)) (A : Option Addr) (c : Nat) (w : World) (h : RdM w A rows) :
    Calls Tryd.prog 54 #[.slice A rows.length c] w fun e w' => ∃ v, e = .returned v ∧ OFX w' w.heap.size w'.heap.size v (cFs rows) ∧ Ex w w' := by
  have hRle := h.1
  obtain ⟨R, hR⟩ : ∃ R, rows.length = R := ⟨_, rfl⟩
  have HR := Lib.hid hR
  rw [hR] at hRle ⊢
  clear hR
  have H := Lib.hid h
  have ge0 := GE.empty ELS 70 w (Nat.le_refl w.heap.size)
  have he1 := (Ex.refl w).alloc (.cells #[] 70)
  have hs1 : (w.alloc (.cells #[] 70)).heap.size = w.heap.size + 1 := by simp
  rw [← hs1] at ge0
  go_enter Tryd.func54, Tryd.ntmps54
  go_wp2_with fail
  generalize w.alloc (.cells #[] 70) = W1 at *
  go_loopw [3, 12] (fun o i wr => ∃ k : Nat, k ≤ R ∧ i = .int .i64 k ∧ GE ELS 70 wr w.heap.size wr.heap.size o (cFs (rows.take k)) ∧ Ex w wr) (fun _ i _ => R - (intOf i).toNat)
  case atStart => exact ⟨0, Nat.zero_le _, rfl, ge0, he1⟩
  case round =>
    rename World => wi
    clear ge0 he1 hs1
    obtain ⟨k, hk, rfl, hge, hi⟩ := hrel
    by_cases hlt : k < R
    · obtain ⟨g, off, B, d, r, e1, hr, hc, hrd⟩ := H.out.at_ (k := k) (by rw [HR.out]; exact hlt)
      subst e1
      have Hr := Lib.hid hr
      have hc := cell_ex hi hc
      have hrd := Lib.hid (hrd.ex hi)
      have hrl := hrd.out.len
      obtain ⟨L, hL⟩ : ∃ L, r.length = L := ⟨_, rfl⟩
      have HL := Lib.hid hL
      rw [hL] at hc hrl
      have HT := Lib.hid (show cFs (rows.take (k + 1)) = cFs (rows.take k) ++ [r.map cF] by rw [List.take_add_one, hr]; simp [cFs])
      have htl : (cFs (rows.take k)).length ≤ k := by simp [cFs]; omega
      clear hr hL
      have hz := hi.size
      have gf0 := GE.empty ELF 40 wi (Nat.le_refl wi.heap.size)
      have y1 := (Ex.refl wi).alloc (.cells #[] 40)
      have s1 : (wi.alloc (.cells #[] 40)).heap.size = wi.heap.size + 1 := by simp
      rw [← s1] at gf0
      go_wp2_with fail
      generalize wi.alloc (.cells #[] 40) = W2 at *
      go_loopw [6, 19] (fun o i wr => ∃ j : Nat, j ≤ L ∧ i = .int .i64 j ∧ GE ELF 40 wr wi.heap.size wr.heap.size o ((r.take j).map cF) ∧ Ex wi wr) (fun _ i _ => L - (intOf i).toNat)
      case atStart => exact ⟨0, Nat.zero_le _, rfl, gf0, y1⟩
      case round =>
        rename World => wj
        clear gf0 y1 s1
        obtain ⟨j, hj, rfl, hgf, hij⟩ := hrel
        by_cases hlt2 : j < L
        · obtain ⟨g', off', y, eB, hy, hgl, hcell⟩ := (hrd.out.ex hij).at_ (by rw [HL.out]; exact hlt2)
          subst eB
          have HT2 := Lib.hid (show (r.take (j + 1)).map cF = (r.take j).map cF ++ [cF y] by rw [List.take_add_one, hy]; simp)
          have htl2 : ((r.take j).map cF).length ≤ j := by simp; omega
          have hzj := hij.size
          clear hy
          go_wp2_with fail
          refine (constC_c y wj).mono ?_
          rintro e w3 ⟨A3, c3, B3, d3, rfl, f3, p3, ap3, x3⟩
          have hz3 := x3.size
          obtain ⟨v', w4, hrun, hge4, _, hnn4, hE4⟩ := push_frac (hgf.ex x3) hz3 (ofra_of_fr (x := cF y) f3 p3 ap3 hz3) (Nat.le_refl _) hz3 (Nat.le_refl _) hzj (by omega)
          rw [← HT2.out] at hge4
          have he4 := hE4 wi (hij.trans x3) (Nat.le_refl _)
          clear hE4 HT2 hgf
          go_wp2_with (at_builtin; refine wpList_append_run rfl _ _ _ rfl rfl rfl hrun ?_)
          go_roundw
          case rel => exact ⟨j + 1, by omega, by go_num, hge4, he4⟩
          case measure => simp [intOf]; omega
        · obtain rfl : j = L := by omega
          rw [List.take_of_length_le (by rw [HL.out]; exact Nat.le_refl _)] at hgf
          have hzj := hij.size
          obtain ⟨oA, oc, eo⟩ := hgf.nilv
          rw [List.length_map, HL.out] at eo
          subst eo
          obtain ⟨v', w', hrun, hgm', ho', _, hE'⟩ := push_rows (hge.ex hij) hzj hgf (by rw [List.length_map, HL.out]; omega) (Nat.le_refl _) hzj (Nat.le_refl _) hz (by omega)
          rw [← HT.out] at hgm'
          have xw := hE' w (hi.trans hij) (Nat.le_refl _)
          clear hE' HT hge ho'
          go_wp2_with (at_builtin; refine wpList_append_run rfl _ _ _ rfl rfl rfl hrun ?_)
          go_roundw
          case rel => exact ⟨k + 1, by omega, by go_num, hgm', xw⟩
          case measure => simp [intOf]; omega
    · obtain rfl : k = R := by omega
      rw [List.take_of_length_le (by rw [HR.out]; exact Nat.le_refl _)] at hge
      go_wp2_with fail
      go_ret
      exact ⟨_, rfl, hge.ofx (by simp [cFs]; have := HR.out; omega), hi⟩
end Go.Proofs.YtmekhjnhcgmphaaDoor
namespace Go.Proofs.YtmekhjnhcgmphaaDoor
set_option maxRecDepth 100000
open Go Go.RowKit
theorem lfU_tot (p : Int) (x : Rln) : totFF (lfU p x).1.b ≤ 1125899906842624 := by
  unfold lfU
  split
  · exact ifU_tot _ _
  · show (0 : Int) ≤ _; omega
set_option maxHeartbeats 4000000 in
theorem liftRelation_c (x : Rln) (A : Option Addr) (c : Nat) (w : World) (h : RdM w A x.b) :
    Calls Tryd.prog 29 #[.agg #[.int .i64 x.l, .int .i64 x.r, .slice A x.b.length c]] w fun e w' => ∃ y, e = .returned (.agg #[.int .i64 x.l, .int .i64 x.r, y]) ∧ OFX w' w.heap.size w'.heap.size y (cFs x.b) ∧ Ex w w' := by
  obtain ⟨l, r, rows⟩ := x
  dsimp only at h ⊢
  have x0 := (Ex.refl w).alloc (.cells #[.int .i64 l, .int .i64 r, .slice A rows.length c] 31)
  have v0 := VB.new w 31 #[.int .i64 l, .int .i64 r, .slice A rows.length c]
  have S0 : (w.alloc (.cells #[.int .i64 l, .int .i64 r, .slice A rows.length c] 31)).heap.size = w.heap.size + 1 := by simp
  go_enter Tryd.func29, Tryd.ntmps29
  go_wp2_with fail
  generalize w.alloc (.cells #[.int .i64 l, .int .i64 r, .slice A rows.length c] 31) = W0 at *
  have y1 := (Ex.refl W0).alloc (.cells #[.int .i64 0, .int .i64 0, .slice none 0 0] 28)
  have d1 := VB.new W0 28 #[.int .i64 0, .int .i64 0, .slice none 0 0]
  rw [S0] at d1
  generalize W0.alloc (.cells #[.int .i64 0, .int .i64 0, .slice none 0 0] 28) = W1 at *
  have x1 := x0.trans y1
  have v1 := v0.ex y1
  have q0 := v1.cell 0 (v := .int .i64 l) rfl
  have q1 := v1.cell 1 (v := .int .i64 r) rfl
  have q2 := v1.cell 2 (v := .slice A rows.length c) rfl
  have hl1 := v1.lt
  have hd1 := d1.lt
  have cL := lifted_c rows A c W1.drew (h.ex x1.drew)
  have z0 := d1.cell 0 (v := .int .i64 0) rfl
  go_region_held3 (fun W => W.cell? ⟨w.heap.size, 0, none⟩ = some (.int .i64 l) ∧ W.cell? ⟨w.heap.size, 1, none⟩ = some (.int .i64 r) ∧ W.cell? ⟨w.heap.size, 2, none⟩ = some (.slice A rows.length c)) (first
    | (exact ⟨q0, q1, q2⟩)
    | (exact ⟨cell_ex e3 q0, cell_ex e3 q1, cell_ex e3 q2⟩)
    | (exact ⟨V4.cell 0 rfl, V4.cell 1 rfl, V4.cell 2 rfl⟩)) (first
    | (go_at_call 54
       refine cL.mono ?_
       rintro e w3 ⟨v, rfl, o, x3⟩
       have e3 : Ex W1 w3 := (Ex.refl W1).drew.trans x3
       obtain ⟨A1, c1, rfl, _⟩ := o.rd
       have dz := d1.ex e3
       have u0 := dz.cell 0 (v := .int .i64 0) rfl
       have u1 := dz.cell 1 (v := .int .i64 0) rfl
       have u2 := dz.cell 2 (v := .slice none 0 0) rfl
       have k0 := dz.frozen 0
       have k1 := dz.frozen 1
       have k2 := dz.frozen 2
       obtain ⟨dd, zz⟩ := dz.st3 (.int .i64 l) (.int .i64 r) (.slice A1 (cFs rows).length c1)
       have V4 := (v1.ex e3).ex1 zz (by omega)))
  have C0 := dd.cell 0 (v := .int .i64 l) rfl
  have C1 := dd.cell 1 (v := .int .i64 r) rfl
  have C2 := dd.cell 2 (v := .slice A1 (cFs rows).length c1) rfl
  have o' : OFX w3 W1.heap.size w3.heap.size (.slice A1 (cFs rows).length c1) (cFs rows) := o
  have s3 := x1.size
  have fx2 := (o'.iv (ExI.of_ex1 zz) (by omega)).more (a' := w.heap.size) (b' := w3.heap.size) (by omega) (Nat.le_refl _)
  have eF := (x1.trans e3).ex1 zz (by omega)
  go_wp2_with fail
  refine bodyPost_ret (v := .agg #[.int .i64 l, .int .i64 r, .slice A1 (cFs rows).length c1]) (by simp [results, Tryd.results29, go_sem, C0, C1, C2]) rfl ?_
  exact ⟨_, rfl, fx2.more (Nat.le_refl _) (Nat.le_of_eq (by simp)), eF⟩
set_option maxHeartbeats 4000000 in
theorem LiftRelation_u (p : Int) (x : Rln) (v0 : Value) (w : World) (h : RRln w v0 x) (ht : Tb w) :
    Calls Tryd.prog 8 #[.int .i64 p, .agg #[.int .i64 x.l, .int .i64 x.r, v0]] w fun e w' => ∃ y0, e = .returned (.tuple #[.agg #[.int .i64 (lfU p x).1.l, .int .i64 (lfU p x).1.r, y0], .bool (lfU p x).2]) ∧ ORRel w' w.heap.size w'.heap.size y0 (lfU p x).1 ∧ Ex w w' := by
  obtain ⟨⟨A, c, rfl, h⟩, _⟩ := h
  have HL := Lib.hid (lfU_tot p x)
  have x0 := (Ex.refl w).alloc (.cells #[.int .i64 x.l, .int .i64 x.r, .slice A x.b.length c] 31)
  have a0 := VB.new w 31 #[.int .i64 x.l, .int .i64 x.r, .slice A x.b.length c]
  have S0 : (w.alloc (.cells #[.int .i64 x.l, .int .i64 x.r, .slice A x.b.length c] 31)).heap.size = w.heap.size + 1 := by simp
  go_enter Tryd.func8, Tryd.ntmps8
  go_wp2_with fail
  generalize w.alloc (.cells #[.int .i64 x.l, .int .i64 x.r, .slice A x.b.length c] 31) = W0 at *
  have y1 := (Ex.refl W0).alloc (.cells #[.int .i64 0, .int .i64 0, .slice none 0 0] 28)
  have d1 := VB.new W0 28 #[.int .i64 0, .int .i64 0, .slice none 0 0]
  rw [S0] at d1
  generalize W0.alloc (.cells #[.int .i64 0, .int .i64 0, .slice none 0 0] 28) = W1 at *
  have x1 := x0.trans y1
  have v1 := a0.ex y1
  have q0 := v1.cell 0 (v := .int .i64 x.l) rfl
  have q1 := v1.cell 1 (v := .int .i64 x.r) rfl
  have q2 := v1.cell 2 (v := .slice A x.b.length c) rfl
  refine (isRelation_c p x A c W1 (h.ex x1) (ht.ex x1)).mono ?_
  rintro e w3 ⟨rfl, x3⟩
  have dz := d1.ex x3
  have v3 := v1.ex x3
  have q0 := v3.cell 0 (v := .int .i64 x.l) rfl
  have q1 := v3.cell 1 (v := .int .i64 x.r) rfl
  have q2 := v3.cell 2 (v := .slice A x.b.length c) rfl
  cases hb : relB p x with
  | false =>
    have HN := Lib.hid (lfU_no hb)
    clear hb
    have u0 := dz.cell 0 (v := .int .i64 0) rfl
    have u1 := dz.cell 1 (v := .int .i64 0) rfl
    have u2 := dz.cell 2 (v := .slice none 0 0) rfl
    have k0 := dz.frozen 0
    have k1 := dz.frozen 1
    have k2 := dz.frozen 2
    obtain ⟨dd, zz⟩ := dz.st3 (.int .i64 0) (.int .i64 0) (.slice none 0 0)
    have C0 := dd.cell 0 (v := .int .i64 0) rfl
    have C1 := dd.cell 1 (v := .int .i64 0) rfl
    have C2 := dd.cell 2 (v := .slice none 0 0) rfl
    have eF := (x1.trans x3).ex1 zz (by omega)
    go_wp2_with fail
    refine bodyPost_ret (v := .tuple #[.agg #[.int .i64 0, .int .i64 0, .slice none 0 0], .bool false]) (by simp [results, Tryd.results8, go_sem, C0, C1, C2]) rfl ?_
    rw [HN.out]
    exact ⟨_, rfl, ⟨w.heap.size, w.heap.size, (OFX.nil _ _ _ _ _).off (by show (0 : Int) ≤ _; omega), Nat.le_refl _, eF.size⟩, eF⟩
  | true =>
  go_wp2_with fail
  refine (ratFits_c x.l x.r w3).mono ?_
  rintro e w4 ⟨rfl, rfl⟩
  cases hf : fitB x.l x.r with
  | false =>
    have HN := Lib.hid (lfU_fit (p := p) (x := x) hf)
    clear hb hf
    have u0 := dz.cell 0 (v := .int .i64 0) rfl
    have u1 := dz.cell 1 (v := .int .i64 0) rfl
    have u2 := dz.cell 2 (v := .slice none 0 0) rfl
    have k0 := dz.frozen 0
    have k1 := dz.frozen 1
    have k2 := dz.frozen 2
    obtain ⟨dd, zz⟩ := dz.st3 (.int .i64 0) (.int .i64 0) (.slice none 0 0)
    have C0 := dd.cell 0 (v := .int .i64 0) rfl
    have C1 := dd.cell 1 (v := .int .i64 0) rfl
    have C2 := dd.cell 2 (v := .slice none 0 0) rfl
    have eF := (x1.trans x3).ex1 zz (by omega)
    go_wp2_with fail
    refine bodyPost_ret (v := .tuple #[.agg #[.int .i64 0, .int .i64 0, .slice none 0 0], .bool false]) (by simp [results, Tryd.results8, go_sem, C0, C1, C2]) rfl ?_
    rw [HN.out]
    exact ⟨_, rfl, ⟨w.heap.size, w.heap.size, (OFX.nil _ _ _ _ _).off (by show (0 : Int) ≤ _; omega), Nat.le_refl _, eF.size⟩, eF⟩
  | true =>
    have HY := Lib.hid (lfU_yes hb hf)
    clear hb hf
    have HH := Lib.hid ((h.ex x1).ex x3)
    go_wp2_with fail
    refine (liftRelation_c x A c w3 HH.out).mono ?_
    rintro e w4 ⟨y, rfl, o, x4⟩
    obtain ⟨A4, c4, rfl, _⟩ := o.rd
    replace dz := dz.ex x4
    have u0 := dz.cell 0 (v := .int .i64 0) rfl
    have u1 := dz.cell 1 (v := .int .i64 0) rfl
    have u2 := dz.cell 2 (v := .slice none 0 0) rfl
    have k0 := dz.frozen 0
    have k1 := dz.frozen 1
    have k2 := dz.frozen 2
    obtain ⟨dd, zz⟩ := dz.st3 (.int .i64 x.l) (.int .i64 x.r) (.slice A4 (cFs x.b).length c4)
    have C0 := dd.cell 0 (v := .int .i64 x.l) rfl
    have C1 := dd.cell 1 (v := .int .i64 x.r) rfl
    have C2 := dd.cell 2 (v := .slice A4 (cFs x.b).length c4) rfl
    have s3 := d1.lt
    have s4 := x3.size
    have fx2 := o.iv (ExI.of_ex1 zz) (by omega)
    have eF := ((x1.trans x3).trans x4).ex1 zz (by omega)
    go_wp2_with fail
    refine bodyPost_ret (v := .tuple #[.agg #[.int .i64 x.l, .int .i64 x.r, .slice A4 (cFs x.b).length c4], .bool true]) (by simp [results, Tryd.results8, go_sem, C0, C1, C2]) rfl ?_
    have ht' := HL.out
    rw [HY.out] at ht' ⊢
    exact ⟨_, rfl, ⟨_, _, fx2.off ht', by omega, Nat.le_of_eq (by simp)⟩, eF⟩
end Go.Proofs.YtmekhjnhcgmphaaDoor
namespace Go.Proofs.YtmekhjnhcgmphaaDoor
set_option maxRecDepth 100000
open Go Go.RowKit
theorem fits_two (l r : Int) : fitsB l r = (inB 0 24 l && inB 0 (24 - l) r) := by
  unfold fitsB inB
  rw [Bool.eq_iff_iff]
  simp only [Bool.and_eq_true, decide_eq_true_eq]
  omega
theorem relB_two (p : Int) (x : Rln) : relB p x = (inB 0 24 x.l && inB 0 (24 - x.l) x.r && (fieldB p && redB p (x.l + x.r).toNat x.b)) := by
  rw [← fits_two]
  cases h : fitsB x.l x.r with
  | true => rw [relB_fits h]; rfl
  | false => rw [relB_no h]; rfl
set_option maxHeartbeats 4000000 in
theorem rlGood_c (p : Int) (x : Rln) (A : Option Addr) (c : Nat) (w : World) (h : RdM w A x.b) :
    Calls Tryd.prog 23 #[.int .i64 p, .agg #[.int .i64 x.l, .int .i64 x.r, .slice A x.b.length c]] w fun e w' => e = .returned (.bool (relB p x)) ∧ Ex w w' := by
  have x0 := (Ex.refl w).alloc (.cells #[.int .i64 x.l, .int .i64 x.r, .slice A x.b.length c] 31)
  have v0 := VB.new w 31 #[.int .i64 x.l, .int .i64 x.r, .slice A x.b.length c]
  obtain ⟨W0, hW0⟩ : ∃ W, w.alloc (.cells #[.int .i64 x.l, .int .i64 x.r, .slice A x.b.length c] 31) = W := ⟨_, rfl⟩
  rw [hW0] at x0 v0
  have q0 := v0.cell 0 (v := .int .i64 x.l) rfl
  have q1 := v0.cell 1 (v := .int .i64 x.r) rfl
  have q2 := v0.cell 2 (v := .slice A x.b.length c) rfl
  cases h1 : inB 0 24 x.l with
  | false =>
    have HB := Lib.hid (show relB p x = false by rw [relB_two, h1]; rfl)
    go_enter Tryd.func23, Tryd.ntmps23
    go_wp2_with fail
    refine (l1In_c x.l 0 24 W0).mono ?_
    rintro e w1 ⟨rfl, rfl⟩
    rw [h1]
    go_wp2_with fail
    go_ret
    exact ⟨ret_bool HB.out.symm, x0⟩
  | true =>
    have hl : 0 ≤ x.l ∧ x.l ≤ 24 := by simpa [inB] using h1
    have hws : IntKind.i64.wrap (24 - x.l) = 24 - x.l := IntWalk.i64_in _ (by omega)
    cases h2 : inB 0 (24 - x.l) x.r with
    | false =>
      have HB := Lib.hid (show relB p x = false by rw [relB_two, h1, h2]; rfl)
      go_enter Tryd.func23, Tryd.ntmps23
      go_wp2_with fail
      refine (l1In_c x.l 0 24 W0).mono ?_
      rintro e w1 ⟨rfl, rfl⟩
      rw [h1]
      go_wp2_with fail
      refine (l1In_c x.r 0 (24 - x.l) W0).mono ?_
      rintro e w1 ⟨rfl, rfl⟩
      rw [h2]
      go_wp2_with fail
      go_ret
      exact ⟨ret_bool HB.out.symm, x0⟩
    | true =>
      have hr : 0 ≤ x.r ∧ x.r ≤ 24 - x.l := by simpa [inB] using h2
      have HB := Lib.hid (show relB p x = (fieldB p && redB p (x.l + x.r).toNat x.b) by rw [relB_two, h1, h2]; rfl)
      obtain ⟨N, hN⟩ : ∃ N : Nat, (x.l + x.r).toNat = N := ⟨_, rfl⟩
      have hN2 : x.l + x.r = (N : Int) := by omega
      have hwr : IntKind.i64.wrap (x.l + x.r) = (N : Int) := by rw [IntWalk.i64_in _ (by omega)]; exact hN2
      have HNN := Lib.hid hN
      have hN24 : N ≤ 24 := by omega
      clear hN hN2
      go_enter Tryd.func23, Tryd.ntmps23
      go_wp2_with fail
      refine (l1In_c x.l 0 24 W0).mono ?_
      rintro e w1 ⟨rfl, rfl⟩
      rw [h1]
      go_wp2_with fail
      refine (l1In_c x.r 0 (24 - x.l) W0).mono ?_
      rintro e w1 ⟨rfl, rfl⟩
      rw [h2]
      go_wp2_with fail
      refine (spGood_c p N x.b A c W0 (h.ex x0) hN24).mono ?_
      rintro e w1 ⟨rfl, x1⟩
      go_wp2_with fail
      go_ret
      exact ⟨ret_bool (by rw [HB.out, HNN.out]), x0.trans x1⟩
set_option maxHeartbeats 4000000 in
theorem spLiftRelation_u (p : Int) (x : Rln) (v0 : Value) (w : World) (h : RRln w v0 x) :
    Calls Tryd.prog 6 #[.int .i64 p, .agg #[.int .i64 x.l, .int .i64 x.r, v0]] w fun e w' => ∃ y0, e = .returned (.tuple #[.agg #[.int .i64 (lfU p x).1.l, .int .i64 (lfU p x).1.r, y0], .bool (lfU p x).2]) ∧ RRRel w' y0 (lfU p x).1 ∧ Ex w w' := by
  obtain ⟨⟨A, c, rfl, h⟩, _⟩ := h
  have HL := Lib.hid (lfU_tot p x)
  have x0 := (Ex.refl w).alloc (.cells #[.int .i64 x.l, .int .i64 x.r, .slice A x.b.length c] 31)
  have a0 := VB.new w 31 #[.int .i64 x.l, .int .i64 x.r, .slice A x.b.length c]
  have S0 : (w.alloc (.cells #[.int .i64 x.l, .int .i64 x.r, .slice A x.b.length c] 31)).heap.size = w.heap.size + 1 := by simp
  go_enter Tryd.func6, Tryd.ntmps6
  go_wp2_with fail
  generalize w.alloc (.cells #[.int .i64 x.l, .int .i64 x.r, .slice A x.b.length c] 31) = W0 at *
  have y1 := (Ex.refl W0).alloc (.cells #[.int .i64 0, .int .i64 0, .slice none 0 0] 28)
  have d1 := VB.new W0 28 #[.int .i64 0, .int .i64 0, .slice none 0 0]
  rw [S0] at d1
  generalize W0.alloc (.cells #[.int .i64 0, .int .i64 0, .slice none 0 0] 28) = W1 at *
  have x1 := x0.trans y1
  have v1 := a0.ex y1
  have q0 := v1.cell 0 (v := .int .i64 x.l) rfl
  have q1 := v1.cell 1 (v := .int .i64 x.r) rfl
  have q2 := v1.cell 2 (v := .slice A x.b.length c) rfl
  refine (rlGood_c p x A c W1 (h.ex x1)).mono ?_
  rintro e w3 ⟨rfl, x3⟩
  have dz := d1.ex x3
  have v3 := v1.ex x3
  have q0 := v3.cell 0 (v := .int .i64 x.l) rfl
  have q1 := v3.cell 1 (v := .int .i64 x.r) rfl
  have q2 := v3.cell 2 (v := .slice A x.b.length c) rfl
  cases hb : relB p x with
  | false =>
    have HN := Lib.hid (lfU_no hb)
    clear hb
    have u0 := dz.cell 0 (v := .int .i64 0) rfl
    have u1 := dz.cell 1 (v := .int .i64 0) rfl
    have u2 := dz.cell 2 (v := .slice none 0 0) rfl
    have k0 := dz.frozen 0
    have k1 := dz.frozen 1
    have k2 := dz.frozen 2
    obtain ⟨dd, zz⟩ := dz.st3 (.int .i64 0) (.int .i64 0) (.slice none 0 0)
    have C0 := dd.cell 0 (v := .int .i64 0) rfl
    have C1 := dd.cell 1 (v := .int .i64 0) rfl
    have C2 := dd.cell 2 (v := .slice none 0 0) rfl
    have eF := (x1.trans x3).ex1 zz (by omega)
    go_wp2_with fail
    refine bodyPost_ret (v := .tuple #[.agg #[.int .i64 0, .int .i64 0, .slice none 0 0], .bool false]) (by simp [results, Tryd.results6, go_sem, C0, C1, C2]) rfl ?_
    rw [HN.out]
    exact ⟨_, rfl, ⟨⟨none, 0, rfl, ⟨by simp, fun j x hj => by simp at hj⟩⟩, by show (0 : Int) ≤ _; omega⟩, eF⟩
  | true =>
    have HY := Lib.hid (lfU_ref hb)
    have HH := Lib.hid ((h.ex x1).ex x3)
    clear hb
    go_wp2_with fail
    refine (rrLift_c x A c w3 HH.out).mono ?_
    rintro e w4 ⟨A4, c4, rfl, hr4, x4⟩
    go_wp2_with fail
    refine (rrIf_c p ⟨x.l, x.r, cFs x.b⟩ A4 c4 w4 hr4).mono ?_
    rintro e w5 ⟨A5, c5, rfl, hf5, x5⟩
    rw [← HY.out] at hf5 ⊢
    have ht' := HL.out
    obtain ⟨y5, hy5⟩ : ∃ y5, lfU p x = y5 := ⟨_, rfl⟩
    have HE5 := Lib.hid hy5
    rw [hy5] at hf5 ht' ⊢
    clear hy5 HY HL
    obtain ⟨⟨l5, r5, b5⟩, k5⟩ := y5
    dsimp only at hf5 ht' ⊢
    replace dz := (dz.ex x4).ex x5
    have u0 := dz.cell 0 (v := .int .i64 0) rfl
    have u1 := dz.cell 1 (v := .int .i64 0) rfl
    have u2 := dz.cell 2 (v := .slice none 0 0) rfl
    have f0 := dz.frozen 0
    have f1 := dz.frozen 1
    have f2 := dz.frozen 2
    obtain ⟨dd, zz⟩ := dz.st3 (.int .i64 l5) (.int .i64 r5) (.slice A5 b5.length c5)
    have C0 := dd.cell 0 (v := .int .i64 l5) rfl
    have C1 := dd.cell 1 (v := .int .i64 r5) rfl
    have C2 := dd.cell 2 (v := .slice A5 b5.length c5) rfl
    have s3 := d1.lt
    have s4 := x3.size
    have s5 := x4.size
    have hr5 := (hf5 _ ((ExI.of_ex1 zz).widen (Nat.zero_le _) (by omega))).1.1
    have eF := (((x1.trans x3).trans x4).trans x5).ex1 zz (by omega)
    go_wp2_with fail
    refine bodyPost_ret (v := .tuple #[.agg #[.int .i64 l5, .int .i64 r5, .slice A5 b5.length c5], .bool k5]) (by simp [results, Tryd.results6, go_sem, C0, C1, C2]) rfl ?_
    rw [HE5.out]
    exact ⟨_, rfl, ⟨⟨A5, c5, rfl, hr5⟩, ht'⟩, eF⟩
end Go.Proofs.YtmekhjnhcgmphaaDoor
