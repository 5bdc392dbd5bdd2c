/- RatFunctionOf: the program: rows of noughts and unit rows, the matrix of a relation. -/
import Derived.Test.YtfpogndbmhnfkaaGreatDoorRfD
import Derived.Test.YtfpogndbmhnfkaaGreatDoorRtM
import Derived.Deep.RegionWith
namespace Go.Proofs.YtfpogndbmhnfkaaGreatDoor
set_option maxRecDepth 100000
open Go Go.RowKit
set_option maxHeartbeats 1000000 in
theorem const0_c (w : World) : Calls Tryz.prog 94 #[.int .i64 0] w fun e w' => FFx w zF e w' := by
  go_enter Tryz.func94, Tryz.ntmps94
  go_wp2_with fail
  have x1 := (Ex.refl w).alloc (.cells #[.slice (some ⟨w.heap.size + 1, 0, none⟩) 0 0, .slice (some ⟨w.heap.size + 1 + 1, 0, none⟩) 1 1] 67)
  have v1 := VB.new w 67 #[.slice (some ⟨w.heap.size + 1, 0, none⟩) 0 0, .slice (some ⟨w.heap.size + 1 + 1, 0, none⟩) 1 1]
  have s1 : (w.alloc (.cells #[.slice (some ⟨w.heap.size + 1, 0, none⟩) 0 0, .slice (some ⟨w.heap.size + 1 + 1, 0, none⟩) 1 1] 67)).heap.size = w.heap.size + 1 := by simp
  generalize w.alloc (.cells #[.slice (some ⟨w.heap.size + 1, 0, none⟩) 0 0, .slice (some ⟨w.heap.size + 1 + 1, 0, none⟩) 1 1] 67) = W1 at *
  have x2 := ((Ex.refl W1).alloc (iObj [])).alloc (iObj [1])
  have o1 := (Own.new W1 []).ex ((Ex.refl (W1.alloc (iObj []))).alloc (iObj [1]))
  have o2 := Own.new (W1.alloc (iObj [])) [1]
  have s2 : (W1.alloc (iObj [])).heap.size = w.heap.size + 1 + 1 := by simp [s1]
  rw [s2] at o2
  rw [s1] at o1
  have v2 := v1.ex x2
  have d0 := v2.cell 0 (v := .slice (some ⟨w.heap.size + 1, 0, none⟩) 0 0) rfl
  have d1 := v2.cell 1 (v := .slice (some ⟨w.heap.size + 1 + 1, 0, none⟩) 1 1) rfl
  change bodyPost _ _ _ _ _ ((W1.alloc (iObj [])).alloc (iObj [1]))
  generalize (W1.alloc (iObj [])).alloc (iObj [1]) = W2 at *
  refine bodyPost_ret (v := .agg #[.slice (some ⟨w.heap.size + 1, 0, none⟩) 0 0, .slice (some ⟨w.heap.size + 1 + 1, 0, none⟩) 1 1]) (by simp [results, Tryz.results94, go_sem, d0, d1]) rfl ?_
  exact ⟨_, _, _, _, rfl, o1.fr (by simp) (by omega) (by simp), o2.fr (by simp) (by omega) (by simp), apart_ne (by omega), x1.trans x2⟩
theorem const1_c (w : World) : Calls Tryz.prog 94 #[.int .i64 1] w fun e w' => FFx w oF e w' := constK_c 1 (by omega) w
theorem nought_c (w : World) : Calls Tryz.prog 133 #[] w fun e w' => FFx w zF e w' := by
  have x1 := (Ex.refl w).alloc (.cells #[.slice none 0 0, .slice none 0 0] 67)
  have v1 := VB.new w 67 #[.slice none 0 0, .slice none 0 0]
  have s1 : (w.alloc (.cells #[.slice none 0 0, .slice none 0 0] 67)).heap.size = w.heap.size + 1 := by simp
  go_enter Tryz.func133, Tryz.ntmps133
  go_wp2_with fail
  generalize w.alloc (.cells #[.slice none 0 0, .slice none 0 0] 67) = W1 at *
  refine (const0_c W1).mono ?_
  rintro e w3 ⟨A3, c3, B3, d3, rfl, f3, g3, ap, x3⟩
  have v3 := v1.ex x3
  obtain ⟨dd, zz⟩ := v3.st2 (.slice A3 zF.n.length c3) (.slice B3 zF.d.length d3)
  have r0 := v3.cell 0 (v := .slice none 0 0) rfl
  have r1 := v3.cell 1 (v := .slice none 0 0) rfl
  have k0 := v3.frozen 0
  have k1 := v3.frozen 1
  have C0 := dd.cell 0 (v := .slice A3 zF.n.length c3) rfl
  have C1 := dd.cell 1 (v := .slice B3 zF.d.length d3) rfl
  have f4 := (f3.ex1 zz (f3.hi.off (by omega))).more (B' := w.heap.size) (by omega)
  have g4 := (g3.ex1 zz (g3.hi.off (by omega))).more (B' := w.heap.size) (by omega)
  have eF := (x1.trans x3).ex1 zz (Nat.le_refl _)
  go_wp2_with fail
  refine bodyPost_ret (v := .agg #[.slice A3 zF.n.length c3, .slice B3 zF.d.length d3]) (by simp [results, Tryz.results133, go_sem, C0, C1]) rfl ?_
  exact ⟨A3, c3, B3, d3, rfl, f4, g4, ap, eF⟩
theorem unity_c (w : World) : Calls Tryz.prog 125 #[] w fun e w' => FFx w oF e w' := by
  have x1 := (Ex.refl w).alloc (.cells #[.slice none 0 0, .slice none 0 0] 67)
  have v1 := VB.new w 67 #[.slice none 0 0, .slice none 0 0]
  have s1 : (w.alloc (.cells #[.slice none 0 0, .slice none 0 0] 67)).heap.size = w.heap.size + 1 := by simp
  go_enter Tryz.func125, Tryz.ntmps125
  go_wp2_with fail
  generalize w.alloc (.cells #[.slice none 0 0, .slice none 0 0] 67) = W1 at *
  refine (const1_c W1).mono ?_
  rintro e w3 ⟨A3, c3, B3, d3, rfl, f3, g3, ap, x3⟩
  have v3 := v1.ex x3
  obtain ⟨dd, zz⟩ := v3.st2 (.slice A3 oF.n.length c3) (.slice B3 oF.d.length d3)
  have r0 := v3.cell 0 (v := .slice none 0 0) rfl
  have r1 := v3.cell 1 (v := .slice none 0 0) rfl
  have k0 := v3.frozen 0
  have k1 := v3.frozen 1
  have C0 := dd.cell 0 (v := .slice A3 oF.n.length c3) rfl
  have C1 := dd.cell 1 (v := .slice B3 oF.d.length d3) rfl
  have f4 := (f3.ex1 zz (f3.hi.off (by omega))).more (B' := w.heap.size) (by omega)
  have g4 := (g3.ex1 zz (g3.hi.off (by omega))).more (B' := w.heap.size) (by omega)
  have eF := (x1.trans x3).ex1 zz (Nat.le_refl _)
  go_wp2_with fail
  refine bodyPost_ret (v := .agg #[.slice A3 oF.n.length c3, .slice B3 oF.d.length d3]) (by simp [results, Tryz.results125, go_sem, C0, C1]) rfl ?_
  exact ⟨A3, c3, B3, d3, rfl, f4, g4, ap, eF⟩
set_option maxHeartbeats 2000000 in
theorem noughts_c (n : Nat) (hn : n ≤ 1000) (w : World) :
    Calls Tryz.prog 105 #[.int .i64 n] w fun e w' => ∃ v, e = .returned v ∧ RowF w' w.heap.size w'.heap.size v (List.replicate n zF) ∧ Ex w w' := by
  have ge0 := GE.empty ELF 67 w (Nat.le_refl w.heap.size)
  have he1 := (Ex.refl w).alloc (.cells #[] 67)
  have hs1 : (w.alloc (.cells #[] 67)).heap.size = w.heap.size + 1 := by simp
  go_enter Tryz.func105, Tryz.ntmps105
  go_wp2_with fail
  go_loopw [3, 6] (fun o i wr => ∃ k : Nat, k ≤ n ∧ i = .int .i64 k ∧ GE ELF 67 wr w.heap.size wr.heap.size o (List.replicate k zF) ∧ o ≠ .slice none 0 0 ∧ Ex w wr) (fun _ i _ => n - (intOf i).toNat)
  case atStart => exact ⟨0, Nat.zero_le _, rfl, by rw [hs1]; exact ge0, by simp, he1⟩
  case round =>
    clear ge0 he1 hs1
    obtain ⟨k, hk, rfl, hge, hnn, he⟩ := hrel
    by_cases hlt : k < n
    · have HT := Lib.hid (show List.replicate (k + 1) zF = List.replicate k zF ++ [zF] by rw [List.replicate_succ'])
      have hz := he.size
      go_wp2_with fail
      refine (nought_c _).mono ?_
      rintro e w3 ⟨A3, c3, B3, d3, rfl, f3, p3, ap3, x3⟩
      have hz3 := x3.size
      obtain ⟨v', w4, hrun, hge4, _, hnn4, hE4⟩ := push_frac (hge.ex x3) hz3 (ofra_of_fr (x := zF) f3 p3 ap3 hz3) (Nat.le_refl _) hz3 (Nat.le_refl _) hz (by simp; omega)
      rw [← HT.out] at hge4
      have he4 := hE4 w (he.trans x3) (Nat.le_refl _)
      clear hE4 HT
      go_wp2_with (at_builtin; refine wpList_append_run rfl _ _ _ rfl rfl rfl hrun ?_)
      go_roundw
      case rel => exact ⟨k + 1, by omega, by go_num, hge4, hnn4, he4⟩
      case measure => simp [intOf]; omega
    · obtain rfl : k = n := by omega
      go_wp2_with fail
      go_ret
      exact ⟨_, rfl, ⟨hnn, hge⟩, he⟩
set_option maxHeartbeats 2000000 in
theorem unitRow_c (n i : Nat) (hi : i < n) (hn : n ≤ 1000) (w : World) :
    Calls Tryz.prog 99 #[.int .i64 n, .int .i64 i] w fun e w' => ∃ A c, e = .returned (.slice A n c) ∧ n ≤ c ∧ OX EXF 67 w' (fun k => w.heap.size ≤ k ∧ k < w'.heap.size) A (unitF n i) ∧ Ex w w' := by
  go_enter Tryz.func99, Tryz.ntmps99
  go_wp2_with fail
  refine (noughts_c n hn w).mono ?_
  rintro e w2 ⟨v, rfl, ⟨hnn, hge⟩, x2⟩
  obtain ⟨g0, c0, e0, hc0, _⟩ := hge.form hnn
  rw [List.length_replicate] at e0 hc0
  subst e0
  obtain ⟨A2, c2, e2, _, o2⟩ := hge.ox (E' := EXF) (by simp; omega) rfl elf_exf
  rw [List.length_replicate] at e2
  injection e2 with e2 _ e3
  subst e2 e3
  obtain ⟨g, off, vs, s, cur, eA, hS, hh, hc, ho, hs, hsg, K⟩ := o2.row (i := i) (x := zF) (by rw [List.getElem?_replicate, if_pos hi])
  injection eA with eA
  injection eA with e4 e5
  subst e4 e5
  have hgl := heap_lt_of hh
  have hS' : w.heap.size ≤ g0 ∧ g0 < w2.heap.size := hS
  obtain ⟨u0, u1, rfl, _⟩ := ho
  have q0 := hc 0 u0 rfl
  have q1 := hc 1 u1 rfl
  simp only [show EXF.k = 2 from rfl, Nat.zero_add, Nat.add_zero] at q0 q1 K
  have hz2 := x2.size
  go_wp2_with fail
  refine (unity_c w2).mono ?_
  rintro e w3 ⟨A3, c3, B3, d3, rfl, f3, p3, ap3, x3⟩
  have hz3 := x3.size
  have xf := (ofra_of_fr (x := oF) f3 p3 ap3 hz3).xf
  have d3v : VB w3 g0 67 cur := (x3.block hgl).trans hh
  have r0 := cell_ex x3 q0
  have r1 := cell_ex x3 q1
  have k0 := d3v.frozen (i * 2)
  have k1 := d3v.frozen (i * 2 + 1)
  have T : TurnX g0 (i * 2) (i * 2 + 2) s 67 w2 ((w3.setCell ⟨g0, i * 2, none⟩ (.slice A3 oF.n.length c3)).setCell ⟨g0, i * 2 + 1, none⟩ (.slice B3 oF.d.length d3)) := (((TurnX.refl g0 (i * 2) (i * 2 + 2) s _ w2).ex x3 hgl).set (o := i * 2) (by omega) (by omega) _).set (o := i * 2 + 1) (by omega) (by omega) _
  have dv : VB ((w3.setCell ⟨g0, i * 2, none⟩ (.slice A3 oF.n.length c3)).setCell ⟨g0, i * 2 + 1, none⟩ (.slice B3 oF.d.length d3)) g0 67 ((cur.setIfInBounds (i * 2) (.slice A3 oF.n.length c3)).setIfInBounds (i * 2 + 1) (.slice B3 oF.d.length d3)) := (d3v.set_ _ _).set_ _ _
  have hcur0 : i * 2 < cur.size := by
    have : cur[i * 2]? = some u0 := by simpa [World.cell?, hh] using q0
    exact (Array.getElem?_eq_some_iff.1 this).1
  have hcur1 : i * 2 + 1 < cur.size := by
    have : cur[i * 2 + 1]? = some u1 := by simpa [World.cell?, hh] using q1
    exact (Array.getElem?_eq_some_iff.1 this).1
  have C0 := dv.cell (i * 2) (v := .slice A3 oF.n.length c3) (by rw [Array.getElem?_setIfInBounds_ne (by omega), Array.getElem?_setIfInBounds_self_of_lt hcur0])
  have C1 := dv.cell (i * 2 + 1) (v := .slice B3 oF.d.length d3) (by rw [Array.getElem?_setIfInBounds_self_of_lt (by simpa using hcur1)])
  have e1 : Ex1 g0 w3 ((w3.setCell ⟨g0, i * 2, none⟩ (.slice A3 oF.n.length c3)).setCell ⟨g0, i * 2 + 1, none⟩ (.slice B3 oF.d.length d3)) := ((Ex1.refl g0 w3).setCell (p := ⟨g0, i * 2, none⟩) rfl _).setCell (p := ⟨g0, i * 2 + 1, none⟩) rfl _
  have sz : ((w3.setCell ⟨g0, i * 2, none⟩ (.slice A3 oF.n.length c3)).setCell ⟨g0, i * 2 + 1, none⟩ (.slice B3 oF.d.length d3)).heap.size = w3.heap.size := by simp
  have E : EXF.O ((w3.setCell ⟨g0, i * 2, none⟩ (.slice A3 oF.n.length c3)).setCell ⟨g0, i * 2 + 1, none⟩ (.slice B3 oF.d.length d3)) (fun k => w2.heap.size ≤ k ∧ k < w3.heap.size) [.slice A3 oF.n.length c3, .slice B3 oF.d.length d3] oF := ⟨_, _, rfl, xf.keep fun k hk hkl => e1.block k hkl (fun e => by injection e with e; have := hS'.2; have := hk.1; omega)⟩
  have R := K _ (fun k => w.heap.size ≤ k ∧ k < w3.heap.size) (fun k => w2.heap.size ≤ k ∧ k < w3.heap.size) [.slice A3 oF.n.length c3, .slice B3 oF.d.length d3] oF T (fun q u hq => by
    rcases q with _ | _ | q
    · injection hq with hq; subst hq; exact C0
    · injection hq with hq; subst hq; exact C1
    · simp at hq) E (fun k hk => .inr hk.1) (fun k _ hk => ⟨hk.1, by have := hk.2; omega⟩) (fun k hk => ⟨by have := hk.1; omega, hk.2⟩)
  have eF := (x2.trans x3).ex1 e1 hS'.1
  clear K T dv C0 C1 E xf
  go_wp2_with fail
  go_ret
  exact ⟨_, _, rfl, hc0, by rw [sz]; exact R, eF⟩
end Go.Proofs.YtfpogndbmhnfkaaGreatDoor
