/- RatFunctionOf: the program: rows of noughts and unit rows, the matrix of a relation. Rows put together by append, piece by piece; rows of noughts of the reference. The juxtaposition of rational relations: the reference. Printed by a program of mine. The juxtaposition of rational relations: the program. Printed by a program of mine. TensorRational on both sides, in the uniform words. Printed by a program of mine. -/
import Derived.Test.YtpeogfapnofeoaaGreatDoorPkT
import Derived.Test.YtpeogfapnofeoaaGreatDoorRtM
import Derived.Deep.RegionWith
namespace Go.Proofs.YtpeogfapnofeoaaGreatDoor
set_option maxRecDepth 100000
open Go Go.RowKit
set_option maxHeartbeats 1000000 in
theorem const0_c (w : World) : Calls Tryz.prog 76 #[.int .i64 0] w fun e w' => FFx w zF e w' := by
  go_enter Tryz.func76, Tryz.ntmps76
  go_wp2_with fail
  have x1 := (Ex.refl w).alloc (.cells #[.slice (some ⟨w.heap.size + 1, 0, none⟩) 0 0, .slice (some ⟨w.heap.size + 1 + 1, 0, none⟩) 1 1] 58)
  have v1 := VB.new w 58 #[.slice (some ⟨w.heap.size + 1, 0, none⟩) 0 0, .slice (some ⟨w.heap.size + 1 + 1, 0, none⟩) 1 1]
  have s1 : (w.alloc (.cells #[.slice (some ⟨w.heap.size + 1, 0, none⟩) 0 0, .slice (some ⟨w.heap.size + 1 + 1, 0, none⟩) 1 1] 58)).heap.size = w.heap.size + 1 := by simp
  generalize w.alloc (.cells #[.slice (some ⟨w.heap.size + 1, 0, none⟩) 0 0, .slice (some ⟨w.heap.size + 1 + 1, 0, none⟩) 1 1] 58) = W1 at *
  have x2 := ((Ex.refl W1).alloc (iObj [])).alloc (iObj [1])
  have o1 := (Own.new W1 []).ex ((Ex.refl (W1.alloc (iObj []))).alloc (iObj [1]))
  have o2 := Own.new (W1.alloc (iObj [])) [1]
  have s2 : (W1.alloc (iObj [])).heap.size = w.heap.size + 1 + 1 := by simp [s1]
  rw [s2] at o2
  rw [s1] at o1
  have v2 := v1.ex x2
  have d0 := v2.cell 0 (v := .slice (some ⟨w.heap.size + 1, 0, none⟩) 0 0) rfl
  have d1 := v2.cell 1 (v := .slice (some ⟨w.heap.size + 1 + 1, 0, none⟩) 1 1) rfl
  change bodyPost _ _ _ _ _ ((W1.alloc (iObj [])).alloc (iObj [1]))
  generalize (W1.alloc (iObj [])).alloc (iObj [1]) = W2 at *
  refine bodyPost_ret (v := .agg #[.slice (some ⟨w.heap.size + 1, 0, none⟩) 0 0, .slice (some ⟨w.heap.size + 1 + 1, 0, none⟩) 1 1]) (by simp [results, Tryz.results76, go_sem, d0, d1]) rfl ?_
  exact ⟨_, _, _, _, rfl, o1.fr (by simp) (by omega) (by simp), o2.fr (by simp) (by omega) (by simp), apart_ne (by omega), x1.trans x2⟩
theorem const1_c (w : World) : Calls Tryz.prog 76 #[.int .i64 1] w fun e w' => FFx w oF e w' := constK_c 1 (by omega) w
theorem nought_c (w : World) : Calls Tryz.prog 114 #[] w fun e w' => FFx w zF e w' := by
  have x1 := (Ex.refl w).alloc (.cells #[.slice none 0 0, .slice none 0 0] 58)
  have v1 := VB.new w 58 #[.slice none 0 0, .slice none 0 0]
  have s1 : (w.alloc (.cells #[.slice none 0 0, .slice none 0 0] 58)).heap.size = w.heap.size + 1 := by simp
  go_enter Tryz.func114, Tryz.ntmps114
  go_wp2_with fail
  generalize w.alloc (.cells #[.slice none 0 0, .slice none 0 0] 58) = W1 at *
  refine (const0_c W1).mono ?_
  rintro e w3 ⟨A3, c3, B3, d3, rfl, f3, g3, ap, x3⟩
  have v3 := v1.ex x3
  obtain ⟨dd, zz⟩ := v3.st2 (.slice A3 zF.n.length c3) (.slice B3 zF.d.length d3)
  have r0 := v3.cell 0 (v := .slice none 0 0) rfl
  have r1 := v3.cell 1 (v := .slice none 0 0) rfl
  have k0 := v3.frozen 0
  have k1 := v3.frozen 1
  have C0 := dd.cell 0 (v := .slice A3 zF.n.length c3) rfl
  have C1 := dd.cell 1 (v := .slice B3 zF.d.length d3) rfl
  have f4 := (f3.ex1 zz (f3.hi.off (by omega))).more (B' := w.heap.size) (by omega)
  have g4 := (g3.ex1 zz (g3.hi.off (by omega))).more (B' := w.heap.size) (by omega)
  have eF := (x1.trans x3).ex1 zz (Nat.le_refl _)
  go_wp2_with fail
  refine bodyPost_ret (v := .agg #[.slice A3 zF.n.length c3, .slice B3 zF.d.length d3]) (by simp [results, Tryz.results114, go_sem, C0, C1]) rfl ?_
  exact ⟨A3, c3, B3, d3, rfl, f4, g4, ap, eF⟩
theorem unity_c (w : World) : Calls Tryz.prog 143 #[] w fun e w' => FFx w oF e w' := by
  have x1 := (Ex.refl w).alloc (.cells #[.slice none 0 0, .slice none 0 0] 58)
  have v1 := VB.new w 58 #[.slice none 0 0, .slice none 0 0]
  have s1 : (w.alloc (.cells #[.slice none 0 0, .slice none 0 0] 58)).heap.size = w.heap.size + 1 := by simp
  go_enter Tryz.func143, Tryz.ntmps143
  go_wp2_with fail
  generalize w.alloc (.cells #[.slice none 0 0, .slice none 0 0] 58) = W1 at *
  refine (const1_c W1).mono ?_
  rintro e w3 ⟨A3, c3, B3, d3, rfl, f3, g3, ap, x3⟩
  have v3 := v1.ex x3
  obtain ⟨dd, zz⟩ := v3.st2 (.slice A3 oF.n.length c3) (.slice B3 oF.d.length d3)
  have r0 := v3.cell 0 (v := .slice none 0 0) rfl
  have r1 := v3.cell 1 (v := .slice none 0 0) rfl
  have k0 := v3.frozen 0
  have k1 := v3.frozen 1
  have C0 := dd.cell 0 (v := .slice A3 oF.n.length c3) rfl
  have C1 := dd.cell 1 (v := .slice B3 oF.d.length d3) rfl
  have f4 := (f3.ex1 zz (f3.hi.off (by omega))).more (B' := w.heap.size) (by omega)
  have g4 := (g3.ex1 zz (g3.hi.off (by omega))).more (B' := w.heap.size) (by omega)
  have eF := (x1.trans x3).ex1 zz (Nat.le_refl _)
  go_wp2_with fail
  refine bodyPost_ret (v := .agg #[.slice A3 oF.n.length c3, .slice B3 oF.d.length d3]) (by simp [results, Tryz.results143, go_sem, C0, C1]) rfl ?_
  exact ⟨A3, c3, B3, d3, rfl, f4, g4, ap, eF⟩
set_option maxHeartbeats 2000000 in
theorem noughts_c (n : Nat) (hn : n ≤ 1000) (w : World) :
    Calls Tryz.prog 85 #[.int .i64 n] w fun e w' => ∃ v, e = .returned v ∧ RowF w' w.heap.size w'.heap.size v (List.replicate n zF) ∧ Ex w w' := by
  have ge0 := GE.empty ELF 58 w (Nat.le_refl w.heap.size)
  have he1 := (Ex.refl w).alloc (.cells #[] 58)
  have hs1 : (w.alloc (.cells #[] 58)).heap.size = w.heap.size + 1 := by simp
  go_enter Tryz.func85, Tryz.ntmps85
  go_wp2_with fail
  go_loopw [3, 6] (fun o i wr => ∃ k : Nat, k ≤ n ∧ i = .int .i64 k ∧ GE ELF 58 wr w.heap.size wr.heap.size o (List.replicate k zF) ∧ o ≠ .slice none 0 0 ∧ Ex w wr) (fun _ i _ => n - (intOf i).toNat)
  case atStart => exact ⟨0, Nat.zero_le _, rfl, by rw [hs1]; exact ge0, by simp, he1⟩
  case round =>
    clear ge0 he1 hs1
    obtain ⟨k, hk, rfl, hge, hnn, he⟩ := hrel
    by_cases hlt : k < n
    · have HT := Lib.hid (show List.replicate (k + 1) zF = List.replicate k zF ++ [zF] by rw [List.replicate_succ'])
      have hz := he.size
      go_wp2_with fail
      refine (nought_c _).mono ?_
      rintro e w3 ⟨A3, c3, B3, d3, rfl, f3, p3, ap3, x3⟩
      have hz3 := x3.size
      obtain ⟨v', w4, hrun, hge4, _, hnn4, hE4⟩ := push_frac (hge.ex x3) hz3 (ofra_of_fr (x := zF) f3 p3 ap3 hz3) (Nat.le_refl _) hz3 (Nat.le_refl _) hz (by simp; omega)
      rw [← HT.out] at hge4
      have he4 := hE4 w (he.trans x3) (Nat.le_refl _)
      clear hE4 HT
      go_wp2_with (at_builtin; refine wpList_append_run rfl _ _ _ rfl rfl rfl hrun ?_)
      go_roundw
      case rel => exact ⟨k + 1, by omega, by go_num, hge4, hnn4, he4⟩
      case measure => simp [intOf]; omega
    · obtain rfl : k = n := by omega
      go_wp2_with fail
      go_ret
      exact ⟨_, rfl, ⟨hnn, hge⟩, he⟩
set_option maxHeartbeats 2000000 in
theorem unitRow_c (n i : Nat) (hi : i < n) (hn : n ≤ 1000) (w : World) :
    Calls Tryz.prog 116 #[.int .i64 n, .int .i64 i] w fun e w' => ∃ A c, e = .returned (.slice A n c) ∧ n ≤ c ∧ OX EXF 58 w' (fun k => w.heap.size ≤ k ∧ k < w'.heap.size) A (unitF n i) ∧ Ex w w' := by
  go_enter Tryz.func116, Tryz.ntmps116
  go_wp2_with fail
  refine (noughts_c n hn w).mono ?_
  rintro e w2 ⟨v, rfl, ⟨hnn, hge⟩, x2⟩
  obtain ⟨g0, c0, e0, hc0, _⟩ := hge.form hnn
  rw [List.length_replicate] at e0 hc0
  subst e0
  obtain ⟨A2, c2, e2, _, o2⟩ := hge.ox (E' := EXF) (by simp; omega) rfl elf_exf
  rw [List.length_replicate] at e2
  injection e2 with e2 _ e3
  subst e2 e3
  obtain ⟨g, off, vs, s, cur, eA, hS, hh, hc, ho, hs, hsg, K⟩ := o2.row (i := i) (x := zF) (by rw [List.getElem?_replicate, if_pos hi])
  injection eA with eA
  injection eA with e4 e5
  subst e4 e5
  have hgl := heap_lt_of hh
  have hS' : w.heap.size ≤ g0 ∧ g0 < w2.heap.size := hS
  obtain ⟨u0, u1, rfl, _⟩ := ho
  have q0 := hc 0 u0 rfl
  have q1 := hc 1 u1 rfl
  simp only [show EXF.k = 2 from rfl, Nat.zero_add, Nat.add_zero] at q0 q1 K
  have hz2 := x2.size
  go_wp2_with fail
  refine (unity_c w2).mono ?_
  rintro e w3 ⟨A3, c3, B3, d3, rfl, f3, p3, ap3, x3⟩
  have hz3 := x3.size
  have xf := (ofra_of_fr (x := oF) f3 p3 ap3 hz3).xf
  have d3v : VB w3 g0 58 cur := (x3.block hgl).trans hh
  have r0 := cell_ex x3 q0
  have r1 := cell_ex x3 q1
  have k0 := d3v.frozen (i * 2)
  have k1 := d3v.frozen (i * 2 + 1)
  have T : TurnX g0 (i * 2) (i * 2 + 2) s 58 w2 ((w3.setCell ⟨g0, i * 2, none⟩ (.slice A3 oF.n.length c3)).setCell ⟨g0, i * 2 + 1, none⟩ (.slice B3 oF.d.length d3)) := (((TurnX.refl g0 (i * 2) (i * 2 + 2) s _ w2).ex x3 hgl).set (o := i * 2) (by omega) (by omega) _).set (o := i * 2 + 1) (by omega) (by omega) _
  have dv : VB ((w3.setCell ⟨g0, i * 2, none⟩ (.slice A3 oF.n.length c3)).setCell ⟨g0, i * 2 + 1, none⟩ (.slice B3 oF.d.length d3)) g0 58 ((cur.setIfInBounds (i * 2) (.slice A3 oF.n.length c3)).setIfInBounds (i * 2 + 1) (.slice B3 oF.d.length d3)) := (d3v.set_ _ _).set_ _ _
  have hcur0 : i * 2 < cur.size := by
    have : cur[i * 2]? = some u0 := by simpa [World.cell?, hh] using q0
    exact (Array.getElem?_eq_some_iff.1 this).1
  have hcur1 : i * 2 + 1 < cur.size := by
    have : cur[i * 2 + 1]? = some u1 := by simpa [World.cell?, hh] using q1
    exact (Array.getElem?_eq_some_iff.1 this).1
  have C0 := dv.cell (i * 2) (v := .slice A3 oF.n.length c3) (by rw [Array.getElem?_setIfInBounds_ne (by omega), Array.getElem?_setIfInBounds_self_of_lt hcur0])
  have C1 := dv.cell (i * 2 + 1) (v := .slice B3 oF.d.length d3) (by rw [Array.getElem?_setIfInBounds_self_of_lt (by simpa using hcur1)])
  have e1 : Ex1 g0 w3 ((w3.setCell ⟨g0, i * 2, none⟩ (.slice A3 oF.n.length c3)).setCell ⟨g0, i * 2 + 1, none⟩ (.slice B3 oF.d.length d3)) := ((Ex1.refl g0 w3).setCell (p := ⟨g0, i * 2, none⟩) rfl _).setCell (p := ⟨g0, i * 2 + 1, none⟩) rfl _
  have sz : ((w3.setCell ⟨g0, i * 2, none⟩ (.slice A3 oF.n.length c3)).setCell ⟨g0, i * 2 + 1, none⟩ (.slice B3 oF.d.length d3)).heap.size = w3.heap.size := by simp
  have E : EXF.O ((w3.setCell ⟨g0, i * 2, none⟩ (.slice A3 oF.n.length c3)).setCell ⟨g0, i * 2 + 1, none⟩ (.slice B3 oF.d.length d3)) (fun k => w2.heap.size ≤ k ∧ k < w3.heap.size) [.slice A3 oF.n.length c3, .slice B3 oF.d.length d3] oF := ⟨_, _, rfl, xf.keep fun k hk hkl => e1.block k hkl (fun e => by injection e with e; have := hS'.2; have := hk.1; omega)⟩
  have R := K _ (fun k => w.heap.size ≤ k ∧ k < w3.heap.size) (fun k => w2.heap.size ≤ k ∧ k < w3.heap.size) [.slice A3 oF.n.length c3, .slice B3 oF.d.length d3] oF T (fun q u hq => by
    rcases q with _ | _ | q
    · injection hq with hq; subst hq; exact C0
    · injection hq with hq; subst hq; exact C1
    · simp at hq) E (fun k hk => .inr hk.1) (fun k _ hk => ⟨hk.1, by have := hk.2; omega⟩) (fun k hk => ⟨by have := hk.1; omega, hk.2⟩)
  have eF := (x2.trans x3).ex1 e1 hS'.1
  clear K T dv C0 C1 E xf
  go_wp2_with fail
  go_ret
  exact ⟨_, _, rfl, hc0, by rw [sz]; exact R, eF⟩
end Go.Proofs.YtpeogfapnofeoaaGreatDoor
namespace Go.Proofs.YtpeogfapnofeoaaGreatDoor
set_option maxRecDepth 100000
open Go Go.RowKit
theorem push_fracsX {Good : World → Prop} {w : World} {B H : Nat} {v : Value} {prs : List (Value × Value)} (h : GE ELW 58 w B H v prs) (hH : H ≤ w.heap.size) (hB : B ≤ H) (P : Option Addr) (c : Nat) (r : List Fra) (hr : RowQ Good w P r) (hl : prs.length + r.length ≤ 1099511627776) :
    ∃ v' w' prs2, (Builtin.append_ #[34, 34] 34 #[v, .slice P r.length c]).run Tryz.prog w = .ok v' w' ∧ GE ELW 58 w' B w'.heap.size v' (prs ++ prs2) ∧ prs2.length = r.length ∧
      (∀ (j : Nat) (x : Fra), r[j]? = some x → ∃ a b, prs2[j]? = some (a, b) ∧ ∀ w2, Good w2 → RFra w2 a b x) ∧ (ExO v.ownBlock w w' ∧ (v'.ownBlock = v.ownBlock ∨ v'.ownBlock = some w.heap.size)) ∧ ∀ b', Ex b' w → b'.heap.size ≤ B → Ex b' w' := by
  obtain ⟨i, hi, hz, hs, hby⟩ := info_parts fracInfo
  obtain ⟨ho, h1⟩ := ELW.row h
  have hown := h.own
  rcases P with _ | ad
  · have hx : r = [] := by
      cases r with
      | nil => rfl
      | cons x xs => obtain ⟨g, off, _, _, hA, _⟩ := hr.2 0 x rfl; cases hA
    subst hx
    refine ⟨v, w, [], ?_, by simpa using h.more (Nat.le_refl _) hH, rfl, fun j x hj => by simp at hj, ⟨ExO.refl _ _, .inl rfl⟩, fun b' hb _ => hb⟩
    rcases ho.2 with ⟨rfl, _⟩ | ⟨g, cap, cur, rfl, _, _, hnc, _⟩
    · simp [Builtin.append_, run_underlying Tryz.underlying34, sizeOf, typeInfo, hi, Builtin.lenOf, Builtin.firstCells]
    · simp [Builtin.append_, run_underlying Tryz.underlying34, sizeOf, typeInfo, hi, Builtin.lenOf, Builtin.firstCells, hnc, storeCells]
  · obtain ⟨prs2, k1, k2⟩ := choose_lstV (Q := fun j (p : Value × Value) => ∃ x g off, ad = ⟨g, off, none⟩ ∧ r[j]? = some x ∧ w.cell? ⟨g, off + j * 2, none⟩ = some p.1 ∧ w.cell? ⟨g, off + j * 2 + 1, none⟩ = some p.2 ∧ (∀ w2, Good w2 → RFra w2 p.1 p.2 x) ∧ p.1.oneCell' = true ∧ p.2.oneCell' = true) r.length (fun j hj => by
      obtain ⟨g, off, u, v, hA, q0, q1, o0, o1, hR⟩ := hr.2 j _ (List.getElem?_eq_getElem hj)
      injection hA with hA
      subst hA
      exact ⟨(u, v), r[j], g, off, rfl, List.getElem?_eq_getElem hj, q0, q1, hR, o0, o1⟩)
    have hnews : ∀ (q : Nat) (u : Value), (prs2.map pr2).flatten[q]? = some u → w.cell? (ad.add q) = some u := fun q u hu => by
      obtain ⟨j, i, p, rfl, hp, hi2⟩ := pr2_at hu
      obtain ⟨x, g, off, rfl, _, q0, q1, _⟩ := k2 j p hp
      have e : (⟨g, off, none⟩ : Addr).add (j * 2 + i) = ⟨g, off + (j * 2 + i), none⟩ := by unfold Addr.add; split <;> simp_all
      rw [e]
      rcases i with _ | _ | i
      · injection hi2 with hi2; subst hi2; exact q0
      · injection hi2 with hi2; subst hi2; exact q1
      · simp [pr2] at hi2
    have hone : ∀ p ∈ prs2, p.1.oneCell' = true ∧ p.2.oneCell' = true := fun p hp => by
      obtain ⟨j, hj⟩ := List.getElem?_of_mem hp
      obtain ⟨_, _, _, _, _, _, _, _, q⟩ := k2 j p hj
      exact q
    obtain ⟨v', w', hrun, h2, h3, _, h5⟩ := run_append_own_at (P := Tryz.prog) w B 34 34 58 i (.agg #[.slice none 0 0, .slice none 0 0]) 2 48 Tryz.underlying34 hi hz hs hby rfl (by omega) v prs.length _ ho ad r.length c (prs2.map pr2).flatten (by rw [pr2_len, k1]) hnews (by
      intro u hu
      obtain ⟨l, hl2, hu2⟩ := List.mem_flatten.1 hu
      obtain ⟨p, hp, rfl⟩ := List.mem_map.1 hl2
      simp [pr2] at hu2
      rcases hu2 with rfl | rfl
      · exact (hone p hp).1
      · exact (hone p hp).2) (by unfold maxLen; omega) (by omega) (by omega)
    have hsz := h3.size
    refine ⟨v', w', prs2, hrun, ELW.mk (by omega) (by rw [List.length_append, List.map_append, List.flatten_append, k1]; exact h2) (fun k e => World.ownsRow.lt h2 k e) (fun p hp => by
      rcases List.mem_append.1 hp with h4 | h4
      · exact h1 p h4
      · exact hone p h4), k1, fun j x hj => ?_, ⟨h3, h5⟩, fun b' hb hbB => hb.exo h3 (fun g e => by have := (hown g e).1; omega)⟩
    have hjl := (List.getElem?_eq_some_iff.1 hj).1
    have hp := List.getElem?_eq_getElem (show j < prs2.length by omega)
    obtain ⟨x', g, off, _, hx', _, _, hR, _⟩ := k2 j _ hp
    rw [hj] at hx'
    injection hx' with hx'
    subst hx'
    exact ⟨_, _, hp, hR⟩
theorem GE.rowQ {w : World} {B H n c : Nat} {P : Option Addr} {xs : List Fra} (h : GE ELF 58 w B H (.slice P n c) xs) (hl : xs.length ≤ 1099511627776) : RowQ (fun w2 => ∀ k, B ≤ k → k < H → k < w.heap.size → w2.heap[k]? = w.heap[k]?) w P xs := by
  refine ⟨hl, fun j x hj => ?_⟩
  by_cases hv : Value.slice P n c = .slice none 0 0
  · rw [hv] at h
    have := h.len0
    subst this
    simp at hj
  · obtain ⟨g, c', e, hgc, _⟩ := h.form hv
    rw [e] at h
    injection e with e1 e2 e3
    subst e1
    obtain ⟨cur, al, bl, _, hB, hH, hh, h1, h2⟩ := h.at_
    obtain ⟨u, k1, ⟨v0, v1, rfl, o⟩, k3, k4, _⟩ := h1 j x hj
    obtain ⟨A0, n0, c0, A1, n1, c1, e0, e1'⟩ := o.rd.form
    refine ⟨g, 0, v0, v1, rfl, ?_, ?_, by rw [e0]; rfl, by rw [e1']; rfl, fun w2 hw => (o.keep fun k q1 q2 q3 => hw k (by omega) (by omega) q3).rd⟩
    · have := k1 0 _ rfl
      rw [Nat.zero_add]
      exact cell_of_cur hh this
    · have := k1 1 _ rfl
      rw [Nat.zero_add]
      exact cell_of_cur hh this
/-- A row that is being put together since the heap had s blocks: it reads in all worlds that keep W0 and what has come since then, but for its own block. -/
def RP (W0 : World) (s : Nat) (w : World) (v : Value) (r : List Fra) : Prop :=
  ∃ prs : List (Value × Value), GE ELW 58 w s w.heap.size v prs ∧ prs.length = r.length ∧ ∀ (j : Nat) (x : Fra), r[j]? = some x → ∃ u z, prs[j]? = some (u, z) ∧ ∀ w2, Ex W0 w2 → (∀ k, s ≤ k → k < w.heap.size → v.ownBlock ≠ some k → w2.heap[k]? = w.heap[k]?) → RFra w2 u z x
theorem RP.ex {W0 w w' : World} {s : Nat} {v : Value} {r : List Fra} (h : RP W0 s w v r) (he : Ex w w') : RP W0 s w' v r := by
  obtain ⟨prs, h1, h2, h3⟩ := h
  refine ⟨prs, (h1.ex he).more (Nat.le_refl _) he.size, h2, fun j x hj => ?_⟩
  obtain ⟨u, z, q1, q2⟩ := h3 j x hj
  exact ⟨u, z, q1, fun w2 h0 hk => q2 w2 h0 fun k a1 a2 a3 => (hk k a1 (Nat.lt_of_lt_of_le a2 he.size) a3).trans (he.block a2)⟩
theorem RP.start (W0 w : World) : RP W0 w.heap.size (w.alloc (.cells #[] 58)) (.slice (some ⟨w.heap.size, 0, none⟩) 0 0) [] :=
  ⟨[], (GE.empty ELW 58 w (Nat.le_refl _)).more (Nat.le_refl _) (by simp), rfl, fun j x hj => by simp at hj⟩
theorem RP.form {W0 w : World} {s : Nat} {v : Value} {r : List Fra} (h : RP W0 s w v r) : ∃ A c, v = .slice A r.length c := by
  obtain ⟨prs, h1, h2, _⟩ := h
  obtain ⟨A, c, e⟩ := h1.nilv
  exact ⟨A, c, by rw [e, h2]⟩
theorem RP.push {W0 w : World} {s : Nat} {v : Value} {r : List Fra} (h : RP W0 s w v r) (hs : s ≤ w.heap.size) {Good : World → Prop} {P : Option Addr} {r2 : List Fra} (hr : RowQ Good w P r2) (hG : ∀ w2, Ex W0 w2 → (∀ k, s ≤ k → k < w.heap.size → v.ownBlock ≠ some k → w2.heap[k]? = w.heap[k]?) → Good w2) (c : Nat) (hl : r.length + r2.length ≤ 1099511627776) :
    ∃ v' w', (Builtin.append_ #[34, 34] 34 #[v, .slice P r2.length c]).run Tryz.prog w = .ok v' w' ∧ RP W0 s w' v' (r ++ r2) ∧ ∀ b', Ex b' w → b'.heap.size ≤ s → Ex b' w' := by
  obtain ⟨prs, h1, h2, h3⟩ := h
  obtain ⟨v', w', prs2, hrun, ge, hl2, hp2, ⟨hO, hown⟩, hE⟩ := push_fracsX h1 (Nat.le_refl _) hs P c r2 hr (by rw [h2]; exact hl)
  have hsz := hO.size
  have keep : ∀ w2 : World, (∀ k, s ≤ k → k < w'.heap.size → v'.ownBlock ≠ some k → w2.heap[k]? = w'.heap[k]?) → ∀ k, s ≤ k → k < w.heap.size → v.ownBlock ≠ some k → w2.heap[k]? = w.heap[k]? := fun w2 hk k a1 a2 a3 => by
    refine (hk k a1 (Nat.lt_of_lt_of_le a2 hsz) (fun e => ?_)).trans (hO.block k a2 (fun e => a3 e.symm))
    rcases hown with q | q
    · exact a3 (q ▸ e)
    · rw [q] at e; injection e with e; omega
  refine ⟨v', w', hrun, ⟨prs ++ prs2, ge, by rw [List.length_append, List.length_append, h2, hl2], fun j x hj => ?_⟩, hE⟩
  by_cases e : j < r.length
  · rw [List.getElem?_append_left e] at hj
    rw [List.getElem?_append_left (by omega)]
    obtain ⟨u, z, q1, q2⟩ := h3 j x hj
    exact ⟨u, z, q1, fun w2 h0 hk => q2 w2 h0 (keep w2 hk)⟩
  · rw [List.getElem?_append_right (by omega)] at hj
    rw [List.getElem?_append_right (by omega), h2]
    obtain ⟨u, z, q1, q2⟩ := hp2 _ x hj
    exact ⟨u, z, q1, fun w2 h0 hk => q2 w2 (hG w2 h0 (keep w2 hk))⟩
theorem RP.elq {W0 w : World} {s : Nat} {v : Value} {r : List Fra} (h : RP W0 s w v r) (hl : r.length ≤ 1099511627776) : (ELQ W0).O w s w.heap.size [v] r := by
  obtain ⟨prs, h1, h2, h3⟩ := h
  have rp : RowP (fun w2 => Ex W0 w2 ∧ ∀ k, s ≤ k → k < w.heap.size → w2.heap[k]? = w.heap[k]?) w s w.heap.size v r := ⟨prs, h1, h2, fun j x hj => by
    obtain ⟨u, z, q1, q2⟩ := h3 j x hj
    exact ⟨u, z, q1, fun w2 hw => q2 w2 hw.1 fun k a1 a2 _ => hw.2 k a1 a2⟩⟩
  exact rp.elq hl fun w2 h0 hk => ⟨h0, fun k a1 a2 => hk k a1 a2 a2⟩
theorem RP.of_elf {W0 w : World} {s : Nat} {v : Value} {xs : List Fra} (h : GE ELF 58 w s w.heap.size v xs) (hs : s ≤ w.heap.size) : RP W0 s w v xs := by
  obtain ⟨hown, us, al, bl, hl, ho, h1, h2⟩ := h
  have hus : ∀ u ∈ us, ∃ v0 v1, u = [v0, v1] ∧ v0.oneCell' = true ∧ v1.oneCell' = true := fun u hu => by
    obtain ⟨j, hj⟩ := List.getElem?_of_mem hu
    have hjl := (List.getElem?_eq_some_iff.1 hj).1
    obtain ⟨u2, q1, q2, _⟩ := h1 j _ (List.getElem?_eq_getElem (by omega))
    rw [hj] at q1
    injection q1 with q1
    subst q1
    obtain ⟨v0, v1, e, _⟩ := id q2
    subst e
    exact ⟨v0, v1, rfl, ELF.one q2 _ (by simp), ELF.one q2 _ (by simp)⟩
  have hmap : (us.map fun u => (u.getD 0 undef, u.getD 1 undef)).map pr2 = us := by
    rw [List.map_map]
    refine (List.map_congr_left fun u hu => ?_).trans (List.map_id us)
    obtain ⟨v0, v1, rfl, _⟩ := hus u hu
    rfl
  refine ⟨us.map fun u => (u.getD 0 undef, u.getD 1 undef), ELW.mk hs (by rw [hmap, List.length_map, hl]; exact ho) hown (fun p hp => ?_), by rw [List.length_map, hl], fun j x hj => ?_⟩
  · obtain ⟨u, hu, rfl⟩ := List.mem_map.1 hp
    obtain ⟨v0, v1, rfl, q0, q1⟩ := hus u hu
    exact ⟨q0, q1⟩
  · obtain ⟨u, q1, ⟨v0, v1, rfl, o⟩, q3, q4, q5⟩ := h1 j x hj
    refine ⟨v0, v1, by rw [List.getElem?_map, q1]; rfl, fun w2 _ hk => (o.keep fun k a1 a2 a3 => hk k (by omega) (by omega) (fun e => by have := q5 k e; omega)).rd⟩
/-- Noughts that came since the row was begun are good for it. -/
theorem RP.good {W0 w0 w : World} {s B : Nat} {v : Value} (he : Ex w0 w) (hB : s ≤ B) (hv : ∀ k, v.ownBlock = some k → k < B) : ∀ w2, Ex W0 w2 → (∀ k, s ≤ k → k < w.heap.size → v.ownBlock ≠ some k → w2.heap[k]? = w.heap[k]?) → ∀ k, B ≤ k → k < w0.heap.size → k < w0.heap.size → w2.heap[k]? = w0.heap[k]? := fun w2 _ hk k a1 a2 _ =>
  (hk k (by omega) (Nat.lt_of_lt_of_le a2 he.size) (fun e => by have := hv k e; omega)).trans (he.block a2)
theorem RP.own {W0 w : World} {s : Nat} {v : Value} {r : List Fra} (h : RP W0 s w v r) : ∀ k, v.ownBlock = some k → k < w.heap.size := fun k e => by
  obtain ⟨prs, h1, _⟩ := h
  exact (h1.own k e).2
set_option maxHeartbeats 1000000 in
theorem frZero_c (w : World) : Calls Tryz.prog 113 #[] w fun e w' => FFx w zF e w' := by
  go_enter Tryz.func113, Tryz.ntmps113
  go_wp2_with fail
  have x1 := (Ex.refl w).alloc (.cells #[.slice none 0 0, .slice (some ⟨w.heap.size + 1, 0, none⟩) 1 1] 58)
  have v1 := VB.new w 58 #[.slice none 0 0, .slice (some ⟨w.heap.size + 1, 0, none⟩) 1 1]
  have s1 : (w.alloc (.cells #[.slice none 0 0, .slice (some ⟨w.heap.size + 1, 0, none⟩) 1 1] 58)).heap.size = w.heap.size + 1 := by simp
  generalize w.alloc (.cells #[.slice none 0 0, .slice (some ⟨w.heap.size + 1, 0, none⟩) 1 1] 58) = W1 at *
  have x2 := (Ex.refl W1).alloc (iObj [1])
  have o1 := Own.new W1 [1]
  rw [s1] at o1
  have v2 := v1.ex x2
  have d0 := v2.cell 0 (v := .slice none 0 0) rfl
  have d1 := v2.cell 1 (v := .slice (some ⟨w.heap.size + 1, 0, none⟩) 1 1) rfl
  change bodyPost _ _ _ _ _ (W1.alloc (iObj [1]))
  generalize W1.alloc (iObj [1]) = W2 at *
  refine bodyPost_ret (v := .agg #[.slice none 0 0, .slice (some ⟨w.heap.size + 1, 0, none⟩) 1 1]) (by simp [results, Tryz.results113, go_sem, d0, d1]) rfl ?_
  exact ⟨none, 0, _, _, rfl, Fr.nil _ _ _, o1.fr (by simp) (by omega) (by simp), (fun a a' e => by cases e), x1.trans x2⟩
set_option maxHeartbeats 2000000 in
theorem rrZeros_c (n : Nat) (hn : n ≤ 1000) (w : World) :
    Calls Tryz.prog 84 #[.int .i64 n] w fun e w' => ∃ A c, e = .returned (.slice A n c) ∧ GE ELF 58 w' w.heap.size w'.heap.size (.slice A n c) (List.replicate n zF) ∧ Ex w w' := by
  go_enter Tryz.func84, Tryz.ntmps84
  go_wp2_with fail
  go_loopg [3] n (fun f o wr => ∃ (k : Nat) (A : Option Addr) (c : Nat), k + f = n ∧ o = .slice A k c ∧ GE ELF 58 wr w.heap.size wr.heap.size (.slice A k c) (List.replicate k zF) ∧ Ex w wr)
  case atStart => exact ⟨0, none, 0, by omega, rfl, GE.nil _ _ _ _ _, Ex.refl _⟩
  case round =>
    obtain ⟨k, A, c, hkf, rfl, hge, he⟩ := hrel
    have hz := he.size
    cases gk with
    | zero =>
      obtain rfl : k = n := by omega
      go_wp2_with fail
      go_ret
      exact ⟨A, c, rfl, hge, he⟩
    | succ f =>
      have hlt : k < n := by omega
      have HT := Lib.hid (show List.replicate (k + 1) zF = List.replicate k zF ++ [zF] by rw [List.replicate_succ'])
      go_wp2_with fail
      refine (frZero_c _).mono ?_
      rintro e w3 ⟨A3, c3, B3, d3, rfl, f3, p3, ap3, x3⟩
      have hz3 := x3.size
      obtain ⟨v', w4, hrun, hge4, _, hnn4, hE4⟩ := push_frac (hge.ex x3) hz3 (ofra_of_fr (x := zF) f3 p3 ap3 hz3) (Nat.le_refl _) hz3 (Nat.le_refl _) hz (by simp; omega)
      rw [← HT.out] at hge4
      have he4 := hE4 w (he.trans x3) (Nat.le_refl _)
      obtain ⟨A5, c5, ev⟩ := hge4.nilv
      rw [List.length_replicate] at ev
      subst ev
      clear hE4 HT
      go_wp2_with (at_builtin; refine wpList_append_run rfl _ _ _ rfl rfl rfl hrun ?_)
      go_roundg f
      case measure => omega
      case rel => exact ⟨k + 1, A5, c5, by omega, rfl, hge4, he4⟩
end Go.Proofs.YtpeogfapnofeoaaGreatDoor
namespace Go.Proofs.YtpeogfapnofeoaaGreatDoor
set_option maxRecDepth 100000
open Go Go.RowKit
def tnA (al bl br : Nat) (r : List Fra) : List Fra := ((r.take al ++ List.replicate bl zF) ++ r.drop al) ++ List.replicate br zF
def tnB (al ar bl : Nat) (r : List Fra) : List Fra := ((List.replicate al zF ++ r.take bl) ++ List.replicate ar zF) ++ r.drop bl
def tenR (al ar bl br : Nat) (a b : List (List Fra)) : List (List Fra) := a.map (tnA al bl br) ++ b.map (tnB al ar bl)
theorem map_step {α β : Type} {f : α → β} {b : List α} {k : Nat} {r : α} (h : b[k]? = some r) : (b.map f).take (k + 1) = (b.map f).take k ++ [f r] := by
  rw [List.take_add_one, List.getElem?_map, h]; rfl
theorem tnA_len {al ar bl br : Nat} {r : List Fra} (h : r.length = al + ar) : (tnA al bl br r).length = (al + bl) + (ar + br) := by
  simp [tnA, h]; omega
theorem tnB_len {al ar bl br : Nat} {r : List Fra} (h : r.length = bl + br) : (tnB al ar bl r).length = (al + bl) + (ar + br) := by
  simp [tnB, h]; omega
theorem tenR_wid {al ar bl br : Nat} {a b : List (List Fra)} (ha : Wid (al + ar) a) (hb : Wid (bl + br) b) : Wid ((al + bl) + (ar + br)) (tenR al ar bl br a b) := fun v hv => by
  rcases List.mem_append.1 hv with h | h
  · obtain ⟨u, hu, rfl⟩ := List.mem_map.1 h; exact tnA_len (ha u hu)
  · obtain ⟨u, hu, rfl⟩ := List.mem_map.1 h; exact tnB_len (hb u hu)
theorem GdR.zeros {p : Int} {L : Nat} (hF : fieldB p = true) (hL : 1 ≤ L) (n : Nat) : GdR p L (List.replicate n zF) := fun x hx => by
  obtain ⟨_, rfl⟩ := List.mem_replicate.1 hx
  exact ⟨FV.zero hF, by simp [zF], by simp [zF]; exact hL⟩
theorem tenR_gd {p : Int} {L al ar bl br : Nat} {a b : List (List Fra)} (hF : fieldB p = true) (hL : 1 ≤ L) (ha : GdM p L a) (hb : GdM p L b) : GdM p L (tenR al ar bl br a b) := fun v hv => by
  rcases List.mem_append.1 hv with h | h
  · obtain ⟨u, hu, rfl⟩ := List.mem_map.1 h
    exact ((((ha u hu).take al).app (GdR.zeros hF hL bl)).app ((ha u hu).drop al)).app (GdR.zeros hF hL br)
  · obtain ⟨u, hu, rfl⟩ := List.mem_map.1 h
    exact (((GdR.zeros hF hL al).app ((hb u hu).take bl)).app (GdR.zeros hF hL ar)).app ((hb u hu).drop bl)
theorem tenR_num {al ar bl br : Nat} (a b : List (List Fra)) : (tenR al ar bl br a b).length = a.length + b.length := by simp [tenR]
set_option maxHeartbeats 16000000 in
theorem rrTensor_c (p : Int) (al ar bl br : Nat) (a b : List (List Fra)) (A B : Option Addr) (ca cb : Nat) (w : World) (hA : RdC w A a) (hB : RdC w B b) (hna : a.length ≤ 12) (hnb : b.length ≤ 12) (hlr : (al + bl) + (ar + br) ≤ 12) (hwa : Wid (al + ar) a) (hwb : Wid (bl + br) b) (ha0 : ∀ v ∈ a, 0 < v.length) (hb0 : ∀ v ∈ b, 0 < v.length) (hF : fieldB p = true) (hga : GdM p 21 a) (hgb : GdM p 21 b) :
    Calls Tryz.prog 60 #[.int .i64 p, .agg #[.int .i64 al, .int .i64 ar, .slice A a.length ca], .agg #[.int .i64 bl, .int .i64 br, .slice B b.length cb]] w fun e w' => ∃ A' c', e = .returned (.agg #[.int .i64 ((al + bl : Nat) : Int), .int .i64 ((ar + br : Nat) : Int), .slice A' ((frOps p).rref ((al + bl) + (ar + br)) (tenR al ar bl br a b)).length c']) ∧ RdS EFF w' A' ((frOps p).rref ((al + bl) + (ar + br)) (tenR al ar bl br a b)) ∧ Ex w w' := by
  have HWa := Lib.hid hwa
  have HWb := Lib.hid hwb
  have HF := Lib.hid hF
  have HGa := Lib.hid hga
  have HGb := Lib.hid hgb
  have Ha0 := Lib.hid ha0
  have Hb0 := Lib.hid hb0
  have HA := Lib.hid hA
  have HB := Lib.hid hB
  have hla := hA.1.1
  have hlb := hB.1.1
  have hwl : IntKind.i64.wrap ((al : Int) + (bl : Int)) = ((al + bl : Nat) : Int) := by rw [IntWalk.i64_in _ (by omega)]; omega
  have hwr : IntKind.i64.wrap ((ar : Int) + (br : Int)) = ((ar + br : Nat) : Int) := by rw [IntWalk.i64_in _ (by omega)]; omega
  obtain ⟨NL, hNL⟩ : ∃ NL, al + bl = NL := ⟨_, rfl⟩
  obtain ⟨NR, hNR⟩ : ∃ NR, ar + br = NR := ⟨_, rfl⟩
  rw [hNL] at hwl
  rw [hNR] at hwr
  have HNL := Lib.hid hNL
  have HNR := Lib.hid hNR
  rw [hNL, hNR]
  have h1 : al ≤ 12 ∧ ar ≤ 12 ∧ bl ≤ 12 ∧ br ≤ 12 := by omega
  have y0 := (Ex.refl w).alloc (.cells #[.int .i64 al, .int .i64 ar, .slice A a.length ca] 32)
  have d0 := VB.new w 32 #[.int .i64 al, .int .i64 ar, .slice A a.length ca]
  have S0 := Lib.hid (show (w.alloc (.cells #[.int .i64 al, .int .i64 ar, .slice A a.length ca] 32)).heap.size = w.heap.size + 1 by simp)
  clear hA hB hwa hwb hF hga hgb ha0 hb0 hNL hNR
  go_enter Tryz.func60, Tryz.ntmps60
  go_wp2_with fail
  generalize w.alloc (.cells #[.int .i64 al, .int .i64 ar, .slice A a.length ca] 32) = W0 at *
  have y1 := (Ex.refl W0).alloc (.cells #[.int .i64 bl, .int .i64 br, .slice B b.length cb] 32)
  have d1 := VB.new W0 32 #[.int .i64 bl, .int .i64 br, .slice B b.length cb]
  have S1 := Lib.hid (show (W0.alloc (.cells #[.int .i64 bl, .int .i64 br, .slice B b.length cb] 32)).heap.size = w.heap.size + 1 + 1 by simp; exact S0.out)
  rw [S0.out] at d1
  generalize W0.alloc (.cells #[.int .i64 bl, .int .i64 br, .slice B b.length cb] 32) = W1 at *
  have y2 := (Ex.refl W1).alloc (.cells #[.int .i64 0, .int .i64 0, .slice none 0 0] 32)
  have d2 := VB.new W1 32 #[.int .i64 0, .int .i64 0, .slice none 0 0]
  have S2 := Lib.hid (show (W1.alloc (.cells #[.int .i64 0, .int .i64 0, .slice none 0 0] 32)).heap.size = w.heap.size + 1 + 1 + 1 by simp; exact S1.out)
  rw [S1.out] at d2
  have qa := (d0.ex y1).ex y2
  have qb := d1.ex y2
  generalize W1.alloc (.cells #[.int .i64 0, .int .i64 0, .slice none 0 0] 32) = W2' at *
  have xx := (y0.trans y1).trans y2
  clear y0 y1 y2 d0 d1
  have HQ : ∀ W, Ex W2' W → (W.cell? ⟨w.heap.size, 0, none⟩ = some (.int .i64 al) ∧ W.cell? ⟨w.heap.size, 1, none⟩ = some (.int .i64 ar) ∧ W.cell? ⟨w.heap.size + 1, 0, none⟩ = some (.int .i64 bl) ∧ W.cell? ⟨w.heap.size + 1, 1, none⟩ = some (.int .i64 br)) := fun W h => ⟨(qa.ex h).cell 0 rfl, (qa.ex h).cell 1 rfl, (qb.ex h).cell 0 rfl, (qb.ex h).cell 1 rfl⟩
  obtain ⟨k0, k1, k2, k3⟩ := HQ _ (Ex.refl _)
  go_quiet (fail)
  clear hwl hwr k0 k1 k2 k3 HQ
  replace qa : VB (W2'.drewN nq) w.heap.size 32 #[.int .i64 al, .int .i64 ar, .slice A a.length ca] := qa
  replace qb : VB (W2'.drewN nq) (w.heap.size + 1) 32 #[.int .i64 bl, .int .i64 br, .slice B b.length cb] := qb
  replace d2 : VB (W2'.drewN nq) (w.heap.size + 1 + 1) 32 #[.int .i64 0, .int .i64 0, .slice none 0 0] := d2
  replace xx : Ex w (W2'.drewN nq) := xx.drewN nq
  replace S2 : Hid ((W2'.drewN nq).heap.size = w.heap.size + 1 + 1 + 1) := S2
  generalize W2'.drewN nq = W2 at *
  have qa2 := qa.cell 2 (v := .slice A a.length ca) rfl
  go_wp2_with fail
  clear qa2
  go_loopw [9, 29] (fun o i wr => ∃ k : Nat, k ≤ a.length ∧ i = .int .i64 k ∧ GE (ELQ w) 34 wr W2.heap.size wr.heap.size o ((a.map (tnA al bl br)).take k) ∧ Ex W2 wr) (fun _ i _ => a.length - (intOf i).toNat)
  case atStart => exact ⟨0, Nat.zero_le _, rfl, GE.nil _ _ _ _ _, Ex.refl _⟩
  case round =>
    rename World => wi
    obtain ⟨k, hk, rfl, hge, he⟩ := hrel
    have xw := xx.trans he
    have hzi := he.size
    by_cases hlt : k < a.length
    · obtain ⟨g, off, row, P, pc, eA, hr, b0w, hpc, hP⟩ := HA.out.at_ hlt
      subst eA
      have hm := List.mem_of_getElem? hr
      have hr0 := Ha0.out row hm
      have hrl := HWa.out row hm
      have HT := Lib.hid (map_step (f := tnA al bl br) hr)
      obtain ⟨g2, off2, y, _, _, _, _, eP, _⟩ := hP.frac hr0
      subst eP
      have b0 := cell_ex xw b0w
      have hdl : (row.drop al).length = row.length - al := List.length_drop
      have htl : (row.take al).length = al := by rw [List.length_take]; omega
      have hctl : ((a.map (tnA al bl br)).take k).length ≤ k := List.length_take_le _ _
      have HTN := Lib.hid (tnA_len (bl := bl) (br := br) hrl)
      have hlpc : al ≤ pc := by omega
      obtain ⟨RL, hRL⟩ : ∃ RL, row.length = RL := ⟨_, rfl⟩
      rw [hRL] at b0 hpc hr0 hrl hdl
      have hlRL : al ≤ RL := by omega
      have hRL12 : RL ≤ 12 := by omega
      clear hr hm b0w hrl hRL
      by_cases hpl : pc - al = 0
      · obtain rfl : al = pc := by omega
        obtain rfl : al = RL := by omega
        rw [Nat.sub_self] at hdl
        clear hpl
        have hPe : row.drop al = [] := List.eq_nil_of_length_eq_zero hdl
        have QD : ∀ W, Ex w W → RowQ (fun w2 => Ex w w2) W (some ⟨g2, off2, none⟩) (row.drop al) := fun W _ => by rw [hPe]; exact RowQ.nil _ _ _
        have QT : ∀ W, Ex w W → RowQ (fun w2 => Ex w w2) W (some ⟨g2, off2, none⟩) (row.take al) := fun W hW => (RowQ.of_rds hP hW (fun _ h => h)).tk al
        have y1 := (Ex.refl wi).alloc (.cells #[] 58)
        obtain ⟨v1, w1, hrun1, rp1, hE1⟩ := (RP.start w wi).push y1.size (QT _ (xw.trans y1)) (fun _ h _ => h) al (by rw [htl]; simp; omega)
        have x1 := hE1 wi y1 (Nat.le_refl _)
        obtain ⟨A1, c1, ev1⟩ := rp1.form
        rw [List.nil_append] at rp1 ev1
        rw [htl] at hrun1 ev1
        subst ev1
        have hz1 := x1.size
        have hv1 := rp1.own
        have qa0 := (qa.ex (he.trans y1)).cell 0 (v := .int .i64 al) rfl
        clear hE1
        go_wp2_with (at_builtin; refine wpList_append_run rfl _ _ _ rfl rfl rfl hrun1 ?_)
        clear qa0 hrun1
        have HS : ∀ W, Ex wi W → (W.cell? ⟨w.heap.size, 0, none⟩ = some (.int .i64 al) ∧ W.cell? ⟨w.heap.size, 1, none⟩ = some (.int .i64 ar) ∧ W.cell? ⟨w.heap.size + 1, 0, none⟩ = some (.int .i64 bl) ∧ W.cell? ⟨w.heap.size + 1, 1, none⟩ = some (.int .i64 br)) := fun W h => ⟨(qa.ex (he.trans h)).cell 0 rfl, (qa.ex (he.trans h)).cell 1 rfl, (qb.ex (he.trans h)).cell 0 rfl, (qb.ex (he.trans h)).cell 1 rfl⟩
        go_region_held3 (fun W => W.cell? ⟨w.heap.size, 0, none⟩ = some (.int .i64 al) ∧ W.cell? ⟨w.heap.size, 1, none⟩ = some (.int .i64 ar) ∧ W.cell? ⟨w.heap.size + 1, 0, none⟩ = some (.int .i64 bl) ∧ W.cell? ⟨w.heap.size + 1, 1, none⟩ = some (.int .i64 br)) (first
          | (exact HS _ x5) | (exact HS _ x4) | (exact HS _ x3) | (exact HS _ x1.drew) | (exact HS _ x1)) (first
          | (go_at_call 84
             refine (rrZeros_c bl (by omega) w1.drew).mono ?_
             rintro e w3 ⟨Z3, c3, rfl, ge3, x3'⟩
             have x13 : Ex w1 w3 := (Ex.refl w1).drew.trans x3'
             have x3 : Ex wi w3 := x1.trans x13
             obtain ⟨v4, w4, hrun2, rp4, hE4⟩ := (rp1.ex x13).push x3.size (ge3.rowQ (by simp; omega)) (RP.good (Ex.refl w3) hz1 hv1) c3 (by rw [htl]; simp; omega)
             have x4 := hE4 wi x3 (Nat.le_refl _)
             rw [List.length_replicate] at hrun2
             obtain ⟨v5, w5, hrun3, rp5, hE5⟩ := rp4.push x4.size (QD _ (xw.trans x4)) (fun _ h _ => h) 0 (by rw [hdl]; simp [htl]; omega)
             have x5 := hE5 wi x4 (Nat.le_refl _)
             rw [hdl] at hrun3)
          | (refine step_append_run (vx := .slice Z3 bl c3) rfl _ _ _ rfl rfl rfl hrun2 ?_)
          | (refine step_append_run (vs := v4) rfl _ _ _ rfl rfl rfl hrun3 ?_))
        all_goals
          clear hrun2 hrun3 hE4 hE5 rp4 rp1 ge3 HS QD QT
          have hv5 := rp5.own
          have ql := (qb.ex (he.trans x5)).cell 1 (v := .int .i64 br) rfl
          go_wp2_with fail
          refine (rrZeros_c br (by omega) w5).mono ?_
          rintro e w6 ⟨Z6, c6, rfl, ge6, x56⟩
          have x6 := x5.trans x56
          obtain ⟨v7, w7, hrun4, rp7, hE7⟩ := (rp5.ex x56).push x6.size (ge6.rowQ (by simp; omega)) (RP.good (Ex.refl w6) x5.size hv5) c6 (by simp [htl, hdl]; omega)
          have x7 := hE7 wi x6 (Nat.le_refl _)
          rw [List.length_replicate] at hrun4
          obtain ⟨A7, c7, ev7⟩ := rp7.form
          have hfl : (row.take al ++ List.replicate bl zF ++ row.drop al ++ List.replicate br zF) = tnA al bl br row := rfl
          rw [hfl, HTN.out] at ev7
          have hq := rp7.elq (by rw [hfl, HTN.out]; omega)
          rw [hfl] at hq
          subst ev7
          obtain ⟨v8, w8, hrun5, ge8, _, _, hE8⟩ := push_rowsQ (hge.ex x7) x7.size hq (Nat.le_refl _) x7.size (Nat.le_refl _) hzi (by omega)
          rw [← HT.out] at ge8
          have x8 := hE8 W2 (he.trans x7) (Nat.le_refl _)
          clear rp7 hq hE7 hE8 hge HT HTN hfl rp5 hdl htl ql ge6 hctl
          go_wp2_with (at_builtin; first | refine wpList_append_run rfl _ _ _ rfl rfl rfl hrun4 ?_ | refine wpList_append_run rfl _ _ _ rfl rfl rfl hrun5 ?_)
          go_roundw
          case rel => exact ⟨k + 1, by omega, by go_num, ge8, x8⟩
          case measure => simp [intOf]; omega
      · have hpl2 : ¬ (pc = al) := by omega
        have QD : ∀ W, Ex w W → RowQ (fun w2 => Ex w w2) W (some ⟨g2, off2 + al * 2, none⟩) (row.drop al) := fun W hW => (RowQ.of_rds hP hW (fun _ h => h)).dp al
        have QT : ∀ W, Ex w W → RowQ (fun w2 => Ex w w2) W (some ⟨g2, off2, none⟩) (row.take al) := fun W hW => (RowQ.of_rds hP hW (fun _ h => h)).tk al
        have y1 := (Ex.refl wi).alloc (.cells #[] 58)
        obtain ⟨v1, w1, hrun1, rp1, hE1⟩ := (RP.start w wi).push y1.size (QT _ (xw.trans y1)) (fun _ h _ => h) pc (by rw [htl]; simp; omega)
        have x1 := hE1 wi y1 (Nat.le_refl _)
        obtain ⟨A1, c1, ev1⟩ := rp1.form
        rw [List.nil_append] at rp1 ev1
        rw [htl] at hrun1 ev1
        subst ev1
        have hz1 := x1.size
        have hv1 := rp1.own
        have qa0 := (qa.ex (he.trans y1)).cell 0 (v := .int .i64 al) rfl
        clear hE1
        go_wp2_with (at_builtin; refine wpList_append_run rfl _ _ _ rfl rfl rfl hrun1 ?_)
        clear qa0 hrun1
        have HS : ∀ W, Ex wi W → (W.cell? ⟨w.heap.size, 0, none⟩ = some (.int .i64 al) ∧ W.cell? ⟨w.heap.size, 1, none⟩ = some (.int .i64 ar) ∧ W.cell? ⟨w.heap.size + 1, 0, none⟩ = some (.int .i64 bl) ∧ W.cell? ⟨w.heap.size + 1, 1, none⟩ = some (.int .i64 br)) := fun W h => ⟨(qa.ex (he.trans h)).cell 0 rfl, (qa.ex (he.trans h)).cell 1 rfl, (qb.ex (he.trans h)).cell 0 rfl, (qb.ex (he.trans h)).cell 1 rfl⟩
        go_region_held3 (fun W => W.cell? ⟨w.heap.size, 0, none⟩ = some (.int .i64 al) ∧ W.cell? ⟨w.heap.size, 1, none⟩ = some (.int .i64 ar) ∧ W.cell? ⟨w.heap.size + 1, 0, none⟩ = some (.int .i64 bl) ∧ W.cell? ⟨w.heap.size + 1, 1, none⟩ = some (.int .i64 br)) (first
          | (exact HS _ x5) | (exact HS _ x4) | (exact HS _ x3) | (exact HS _ x1.drew) | (exact HS _ x1)) (first
          | (go_at_call 84
             refine (rrZeros_c bl (by omega) w1.drew).mono ?_
             rintro e w3 ⟨Z3, c3, rfl, ge3, x3'⟩
             have x13 : Ex w1 w3 := (Ex.refl w1).drew.trans x3'
             have x3 : Ex wi w3 := x1.trans x13
             obtain ⟨v4, w4, hrun2, rp4, hE4⟩ := (rp1.ex x13).push x3.size (ge3.rowQ (by simp; omega)) (RP.good (Ex.refl w3) hz1 hv1) c3 (by rw [htl]; simp; omega)
             have x4 := hE4 wi x3 (Nat.le_refl _)
             rw [List.length_replicate] at hrun2
             obtain ⟨v5, w5, hrun3, rp5, hE5⟩ := rp4.push x4.size (QD _ (xw.trans x4)) (fun _ h _ => h) (pc - al) (by rw [hdl]; simp [htl]; omega)
             have x5 := hE5 wi x4 (Nat.le_refl _)
             rw [hdl] at hrun3)
          | (refine step_append_run (vx := .slice Z3 bl c3) rfl _ _ _ rfl rfl rfl hrun2 ?_)
          | (refine step_append_run (vs := v4) rfl _ _ _ rfl rfl rfl hrun3 ?_))
        all_goals
          clear hrun2 hrun3 hE4 hE5 rp4 rp1 ge3 HS QD QT
          have hv5 := rp5.own
          have ql := (qb.ex (he.trans x5)).cell 1 (v := .int .i64 br) rfl
          go_wp2_with fail
          refine (rrZeros_c br (by omega) w5).mono ?_
          rintro e w6 ⟨Z6, c6, rfl, ge6, x56⟩
          have x6 := x5.trans x56
          obtain ⟨v7, w7, hrun4, rp7, hE7⟩ := (rp5.ex x56).push x6.size (ge6.rowQ (by simp; omega)) (RP.good (Ex.refl w6) x5.size hv5) c6 (by simp [htl, hdl]; omega)
          have x7 := hE7 wi x6 (Nat.le_refl _)
          rw [List.length_replicate] at hrun4
          obtain ⟨A7, c7, ev7⟩ := rp7.form
          have hfl : (row.take al ++ List.replicate bl zF ++ row.drop al ++ List.replicate br zF) = tnA al bl br row := rfl
          rw [hfl, HTN.out] at ev7
          have hq := rp7.elq (by rw [hfl, HTN.out]; omega)
          rw [hfl] at hq
          subst ev7
          obtain ⟨v8, w8, hrun5, ge8, _, _, hE8⟩ := push_rowsQ (hge.ex x7) x7.size hq (Nat.le_refl _) x7.size (Nat.le_refl _) hzi (by omega)
          rw [← HT.out] at ge8
          have x8 := hE8 W2 (he.trans x7) (Nat.le_refl _)
          clear rp7 hq hE7 hE8 hge HT HTN hfl rp5 hdl htl ql ge6 hctl
          go_wp2_with (at_builtin; first | refine wpList_append_run rfl _ _ _ rfl rfl rfl hrun4 ?_ | refine wpList_append_run rfl _ _ _ rfl rfl rfl hrun5 ?_)
          go_roundw
          case rel => exact ⟨k + 1, by omega, by go_num, ge8, x8⟩
          case measure => simp [intOf]; omega
    · obtain rfl : k = a.length := by omega
      rw [List.take_of_length_le (by rw [List.length_map]; exact Nat.le_refl _)] at hge
      have qb2 := (qb.ex he).cell 2 (v := .slice B b.length cb) rfl
      go_wp2_with fail
      clear qb2
      go_loopw [9, 61] (fun o i wr => ∃ k : Nat, k ≤ b.length ∧ i = .int .i64 k ∧ GE (ELQ w) 34 wr W2.heap.size wr.heap.size o (a.map (tnA al bl br) ++ (b.map (tnB al ar bl)).take k) ∧ Ex W2 wr) (fun _ i _ => b.length - (intOf i).toNat)
      case atStart => exact ⟨0, Nat.zero_le _, rfl, by simpa using hge, he⟩
      case round =>
        clear hge he xw hzi hlt
        rename World => wi
        obtain ⟨k, hk, rfl, hge, he⟩ := hrel
        have xw := xx.trans he
        have hzi := he.size
        by_cases hlt : k < b.length
        · obtain ⟨g, off, row, P, pc, eA, hr, b0w, hpc, hP⟩ := HB.out.at_ hlt
          subst eA
          have hm := List.mem_of_getElem? hr
          have hr0 := Hb0.out row hm
          have hrl := HWb.out row hm
          have HT := Lib.hid (map_step (f := tnB al ar bl) hr)
          obtain ⟨g2, off2, y, _, _, _, _, eP, _⟩ := hP.frac hr0
          subst eP
          have b0 := cell_ex xw b0w
          have hdl : (row.drop bl).length = row.length - bl := List.length_drop
          have htl : (row.take bl).length = bl := by rw [List.length_take]; omega
          have hctl : ((b.map (tnB al ar bl)).take k).length ≤ k := List.length_take_le _ _
          have HTN := Lib.hid (tnB_len (al := al) (ar := ar) hrl)
          have hlpc : bl ≤ pc := by omega
          obtain ⟨RL, hRL⟩ : ∃ RL, row.length = RL := ⟨_, rfl⟩
          rw [hRL] at b0 hpc hr0 hrl hdl
          have hlRL : bl ≤ RL := by omega
          have hRL12 : RL ≤ 12 := by omega
          clear hr hm b0w hrl hRL
          by_cases hpl : pc - bl = 0
          · obtain rfl : bl = pc := by omega
            obtain rfl : bl = RL := by omega
            rw [Nat.sub_self] at hdl
            clear hpl
            have hPe : row.drop bl = [] := List.eq_nil_of_length_eq_zero hdl
            have QD : ∀ W, Ex w W → RowQ (fun w2 => Ex w w2) W (some ⟨g2, off2, none⟩) (row.drop bl) := fun W _ => by rw [hPe]; exact RowQ.nil _ _ _
            have QT : ∀ W, Ex w W → RowQ (fun w2 => Ex w w2) W (some ⟨g2, off2, none⟩) (row.take bl) := fun W hW => (RowQ.of_rds hP hW (fun _ h => h)).tk bl
            have HS : ∀ W, Ex wi W → (W.cell? ⟨w.heap.size, 0, none⟩ = some (.int .i64 al) ∧ W.cell? ⟨w.heap.size, 1, none⟩ = some (.int .i64 ar) ∧ W.cell? ⟨w.heap.size + 1, 0, none⟩ = some (.int .i64 bl) ∧ W.cell? ⟨w.heap.size + 1, 1, none⟩ = some (.int .i64 br)) := fun W h => ⟨(qa.ex (he.trans h)).cell 0 rfl, (qa.ex (he.trans h)).cell 1 rfl, (qb.ex (he.trans h)).cell 0 rfl, (qb.ex (he.trans h)).cell 1 rfl⟩
            go_wp2_with fail
            go_region_held3 (fun W => W.cell? ⟨w.heap.size, 0, none⟩ = some (.int .i64 al) ∧ W.cell? ⟨w.heap.size, 1, none⟩ = some (.int .i64 ar) ∧ W.cell? ⟨w.heap.size + 1, 0, none⟩ = some (.int .i64 bl) ∧ W.cell? ⟨w.heap.size + 1, 1, none⟩ = some (.int .i64 br)) (first
              | (exact HS _ x2) | (exact HS _ x1) | (exact HS _ (Ex.refl _).drew) | (exact HS _ (Ex.refl _))) (first
              | (go_at_call 84
                 refine (rrZeros_c al (by omega) wi.drew).mono ?_
                 rintro e w1 ⟨Z1, c1, rfl, ge1, x1'⟩
                 have x1 : Ex wi w1 := (Ex.refl wi).drew.trans x1'
                 have rp1 : RP w wi.heap.size w1 (.slice Z1 al c1) (List.replicate al zF) := RP.of_elf ge1 x1.size
                 obtain ⟨v2, w2, hrun1, rp2, hE2⟩ := rp1.push x1.size (QT _ (xw.trans x1)) (fun _ h _ => h) bl (by simp [htl]; omega)
                 have x2 := hE2 wi x1 (Nat.le_refl _)
                 rw [htl] at hrun1)
              | (refine step_append_run rfl _ _ _ rfl rfl rfl hrun1 ?_))
            all_goals
              clear hrun1 hE2 rp1 ge1
              have hv2 := rp2.own
              go_wp2_with fail
              go_region_held3 (fun W => W.cell? ⟨w.heap.size, 0, none⟩ = some (.int .i64 al) ∧ W.cell? ⟨w.heap.size, 1, none⟩ = some (.int .i64 ar) ∧ W.cell? ⟨w.heap.size + 1, 0, none⟩ = some (.int .i64 bl) ∧ W.cell? ⟨w.heap.size + 1, 1, none⟩ = some (.int .i64 br)) (first
                | (exact HS _ x5) | (exact HS _ x4) | (exact HS _ x3) | (exact HS _ x2.drew) | (exact HS _ x2)) (first
                | (go_at_call 84
                   refine (rrZeros_c ar (by omega) w2.drew).mono ?_
                   rintro e w3 ⟨Z3, c3, rfl, ge3, x3'⟩
                   have x23 : Ex w2 w3 := (Ex.refl w2).drew.trans x3'
                   have x3 : Ex wi w3 := x2.trans x23
                   obtain ⟨v4, w4, hrun2, rp4, hE4⟩ := (rp2.ex x23).push x3.size (ge3.rowQ (by simp; omega)) (RP.good (Ex.refl w3) x2.size hv2) c3 (by simp [htl]; omega)
                   have x4 := hE4 wi x3 (Nat.le_refl _)
                   rw [List.length_replicate] at hrun2
                   obtain ⟨v5, w5, hrun3, rp5, hE5⟩ := rp4.push x4.size (QD _ (xw.trans x4)) (fun _ h _ => h) 0 (by rw [hdl]; simp [htl]; omega)
                   have x5 := hE5 wi x4 (Nat.le_refl _)
                   rw [hdl] at hrun3)
                | (refine step_append_run (vx := .slice Z3 ar c3) rfl _ _ _ rfl rfl rfl hrun2 ?_)
                | (refine step_append_run (vs := v4) rfl _ _ _ rfl rfl rfl hrun3 ?_))
              all_goals
                clear hrun2 hrun3 hE4 hE5 rp4 rp2 ge3 HS QD QT
                obtain ⟨A5, c5, ev5⟩ := rp5.form
                have hfl : (List.replicate al zF ++ row.take bl ++ List.replicate ar zF ++ row.drop bl) = tnB al ar bl row := rfl
                rw [hfl, HTN.out] at ev5
                have hq := rp5.elq (by rw [hfl, HTN.out]; omega)
                rw [hfl] at hq
                subst ev5
                obtain ⟨v8, w8, hrun5, ge8, _, _, hE8⟩ := push_rowsQ (hge.ex x5) x5.size hq (Nat.le_refl _) x5.size (Nat.le_refl _) hzi (by rw [List.length_append, List.length_map]; omega)
                rw [List.append_assoc, ← HT.out] at ge8
                have x8 := hE8 W2 (he.trans x5) (Nat.le_refl _)
                clear rp5 hq hE8 hge HT HTN hfl hdl htl hctl
                go_wp2_with (at_builtin; refine wpList_append_run rfl _ _ _ rfl rfl rfl hrun5 ?_)
                go_roundw
                case rel => exact ⟨k + 1, by omega, by go_num, ge8, x8⟩
                case measure => simp [intOf]; omega
          · have hpl2 : ¬ (pc = bl) := by omega
            have QD : ∀ W, Ex w W → RowQ (fun w2 => Ex w w2) W (some ⟨g2, off2 + bl * 2, none⟩) (row.drop bl) := fun W hW => (RowQ.of_rds hP hW (fun _ h => h)).dp bl
            have QT : ∀ W, Ex w W → RowQ (fun w2 => Ex w w2) W (some ⟨g2, off2, none⟩) (row.take bl) := fun W hW => (RowQ.of_rds hP hW (fun _ h => h)).tk bl
            have HS : ∀ W, Ex wi W → (W.cell? ⟨w.heap.size, 0, none⟩ = some (.int .i64 al) ∧ W.cell? ⟨w.heap.size, 1, none⟩ = some (.int .i64 ar) ∧ W.cell? ⟨w.heap.size + 1, 0, none⟩ = some (.int .i64 bl) ∧ W.cell? ⟨w.heap.size + 1, 1, none⟩ = some (.int .i64 br)) := fun W h => ⟨(qa.ex (he.trans h)).cell 0 rfl, (qa.ex (he.trans h)).cell 1 rfl, (qb.ex (he.trans h)).cell 0 rfl, (qb.ex (he.trans h)).cell 1 rfl⟩
            go_wp2_with fail
            go_region_held3 (fun W => W.cell? ⟨w.heap.size, 0, none⟩ = some (.int .i64 al) ∧ W.cell? ⟨w.heap.size, 1, none⟩ = some (.int .i64 ar) ∧ W.cell? ⟨w.heap.size + 1, 0, none⟩ = some (.int .i64 bl) ∧ W.cell? ⟨w.heap.size + 1, 1, none⟩ = some (.int .i64 br)) (first
              | (exact HS _ x2) | (exact HS _ x1) | (exact HS _ (Ex.refl _).drew) | (exact HS _ (Ex.refl _))) (first
              | (go_at_call 84
                 refine (rrZeros_c al (by omega) wi.drew).mono ?_
                 rintro e w1 ⟨Z1, c1, rfl, ge1, x1'⟩
                 have x1 : Ex wi w1 := (Ex.refl wi).drew.trans x1'
                 have rp1 : RP w wi.heap.size w1 (.slice Z1 al c1) (List.replicate al zF) := RP.of_elf ge1 x1.size
                 obtain ⟨v2, w2, hrun1, rp2, hE2⟩ := rp1.push x1.size (QT _ (xw.trans x1)) (fun _ h _ => h) pc (by simp [htl]; omega)
                 have x2 := hE2 wi x1 (Nat.le_refl _)
                 rw [htl] at hrun1)
              | (refine step_append_run rfl _ _ _ rfl rfl rfl hrun1 ?_))
            all_goals
              clear hrun1 hE2 rp1 ge1
              have hv2 := rp2.own
              go_wp2_with fail
              go_region_held3 (fun W => W.cell? ⟨w.heap.size, 0, none⟩ = some (.int .i64 al) ∧ W.cell? ⟨w.heap.size, 1, none⟩ = some (.int .i64 ar) ∧ W.cell? ⟨w.heap.size + 1, 0, none⟩ = some (.int .i64 bl) ∧ W.cell? ⟨w.heap.size + 1, 1, none⟩ = some (.int .i64 br)) (first
                | (exact HS _ x5) | (exact HS _ x4) | (exact HS _ x3) | (exact HS _ x2.drew) | (exact HS _ x2)) (first
                | (go_at_call 84
                   refine (rrZeros_c ar (by omega) w2.drew).mono ?_
                   rintro e w3 ⟨Z3, c3, rfl, ge3, x3'⟩
                   have x23 : Ex w2 w3 := (Ex.refl w2).drew.trans x3'
                   have x3 : Ex wi w3 := x2.trans x23
                   obtain ⟨v4, w4, hrun2, rp4, hE4⟩ := (rp2.ex x23).push x3.size (ge3.rowQ (by simp; omega)) (RP.good (Ex.refl w3) x2.size hv2) c3 (by simp [htl]; omega)
                   have x4 := hE4 wi x3 (Nat.le_refl _)
                   rw [List.length_replicate] at hrun2
                   obtain ⟨v5, w5, hrun3, rp5, hE5⟩ := rp4.push x4.size (QD _ (xw.trans x4)) (fun _ h _ => h) (pc - bl) (by rw [hdl]; simp [htl]; omega)
                   have x5 := hE5 wi x4 (Nat.le_refl _)
                   rw [hdl] at hrun3)
                | (refine step_append_run (vx := .slice Z3 ar c3) rfl _ _ _ rfl rfl rfl hrun2 ?_)
                | (refine step_append_run (vs := v4) rfl _ _ _ rfl rfl rfl hrun3 ?_))
              all_goals
                clear hrun2 hrun3 hE4 hE5 rp4 rp2 ge3 HS QD QT
                obtain ⟨A5, c5, ev5⟩ := rp5.form
                have hfl : (List.replicate al zF ++ row.take bl ++ List.replicate ar zF ++ row.drop bl) = tnB al ar bl row := rfl
                rw [hfl, HTN.out] at ev5
                have hq := rp5.elq (by rw [hfl, HTN.out]; omega)
                rw [hfl] at hq
                subst ev5
                obtain ⟨v8, w8, hrun5, ge8, _, _, hE8⟩ := push_rowsQ (hge.ex x5) x5.size hq (Nat.le_refl _) x5.size (Nat.le_refl _) hzi (by rw [List.length_append, List.length_map]; omega)
                rw [List.append_assoc, ← HT.out] at ge8
                have x8 := hE8 W2 (he.trans x5) (Nat.le_refl _)
                clear rp5 hq hE8 hge HT HTN hfl hdl htl hctl
                go_wp2_with (at_builtin; refine wpList_append_run rfl _ _ _ rfl rfl rfl hrun5 ?_)
                go_roundw
                case rel => exact ⟨k + 1, by omega, by go_num, ge8, x8⟩
                case measure => simp [intOf]; omega
        · obtain rfl : k = b.length := by omega
          rw [List.take_of_length_le (by rw [List.length_map]; exact Nat.le_refl _)] at hge
          have hzw := xx.size
          have hnum : (tenR al ar bl br a b).length = a.length + b.length := tenR_num a b
          obtain ⟨A3, c3, ev, hN⟩ := GE.rowsN (xs := tenR al ar bl br a b) hge (S := fun z => w.heap.size ≤ z ∧ z < W2.heap.size) (by rw [hnum]; omega) xw (fun z hz => hz)
          have hgd := tenR_gd (al := al) (ar := ar) (bl := bl) (br := br) HF.out (by omega) HGa.out HGb.out
          have hwd := tenR_wid HWa.out HWb.out
          rw [HNL.out, HNR.out] at hwd
          have hlr2 : NL + NR ≤ 12 := by have := HNL.out; have := HNR.out; omega
          have cO := rrOf_c (fun z => w.heap.size ≤ z ∧ z < W2.heap.size) p NL NR (tenR al ar bl br a b) A3 c3 wi HF.out hN (fun z hz => by omega) hwd (stg_bd hgd hwd (Nat.le_refl _) (pow4_le hlr2)) (by omega) (by rw [hnum]; omega)
          subst ev
          clear hge hN hgd hwd
          obtain ⟨RR, hRR⟩ : ∃ RR, (frOps p).rref (NL + NR) (tenR al ar bl br a b) = RR := ⟨_, rfl⟩
          have HRR := Lib.hid hRR
          rw [hRR] at cO
          clear hRR
          rw [hnum] at cO ⊢
          clear hnum
          go_wp2_with fail
          refine cO.mono ?_
          rintro e w4 ⟨A4, c4, rfl, r4, x4⟩
          clear cO
          have dz := (d2.ex he).ex x4
          have xz := xw.trans x4
          obtain ⟨dd, zz⟩ := dz.st3 (.int .i64 NL) (.int .i64 NR) (.slice A4 RR.length c4)
          have u0 := dz.cell 0 (v := .int .i64 0) rfl
          have u1 := dz.cell 1 (v := .int .i64 0) rfl
          have u2 := dz.cell 2 (v := .slice none 0 0) rfl
          have k0 := dz.frozen 0
          have k1 := dz.frozen 1
          have k2 := dz.frozen 2
          have C0 := dd.cell 0 (v := .int .i64 NL) rfl
          have C1 := dd.cell 1 (v := .int .i64 NR) rfl
          have C2 := dd.cell 2 (v := .slice A4 RR.length c4) rfl
          have eF := xz.ex1 zz (by omega)
          have hl2 := d2.lt
          have rF := r4 _ (ExS.of_ex1 (S := fun z => w.heap.size ≤ z ∧ z < W2.heap.size) zz (by omega))
          go_wp2_with fail
          refine bodyPost_ret (v := .agg #[.int .i64 NL, .int .i64 NR, .slice A4 RR.length c4]) (by simp [results, Tryz.results60, go_sem, C0, C1, C2]) rfl ?_
          rw [HRR.out]
          exact ⟨A4, c4, rfl, rF, eF⟩
end Go.Proofs.YtpeogfapnofeoaaGreatDoor
namespace Go.Proofs.YtpeogfapnofeoaaGreatDoor
set_option maxRecDepth 100000
open Go Go.RowKit
theorem RowP.more {Good : World → Prop} {w : World} {a b a' b' : Nat} {v : Value} {r : List Fra} (h : RowP Good w a b v r) (ha : a' ≤ a) (hb : b ≤ b') : RowP Good w a' b' v r := by
  obtain ⟨prs, h1, h2⟩ := h
  exact ⟨prs, h1.more ha hb, h2⟩
theorem rq_four {Good : World → Prop} {w : World} {g n1 n2 n3 n4 : Nat} {A1 A2 A3 A4 : Option Addr} {c1 c2 c3 c4 : Nat} {r1 r2 r3 r4 : List Fra} (hv : VB w g 34 #[.slice A1 n1 c1, .slice A2 n2 c2, .slice A3 n3 c3, .slice A4 n4 c4]) (q1 : RowQ Good w A1 r1) (q2 : RowQ Good w A2 r2) (q3 : RowQ Good w A3 r3) (q4 : RowQ Good w A4 r4) (h1 : r1.length = n1) (h2 : r2.length = n2) (h3 : r3.length = n3) (h4 : r4.length = n4) : RowsQ Good w (some ⟨g, 0, none⟩) [r1, r2, r3, r4] := by
  subst h1 h2 h3 h4
  intro j r hj
  rcases j with _ | _ | _ | _ | j
  · injection hj with hj; subst hj; exact ⟨g, 0, A1, c1, rfl, hv.cell 0 rfl, q1⟩
  · injection hj with hj; subst hj; exact ⟨g, 0, A2, c2, rfl, hv.cell 1 rfl, q2⟩
  · injection hj with hj; subst hj; exact ⟨g, 0, A3, c3, rfl, hv.cell 2 rfl, q3⟩
  · injection hj with hj; subst hj; exact ⟨g, 0, A4, c4, rfl, hv.cell 3 rfl, q4⟩
  · simp at hj
set_option maxHeartbeats 16000000 in
theorem ratTensor_c (p : Int) (al ar bl br : Nat) (a b : List (List Fra)) (A B : Option Addr) (ca cb : Nat) (w : World) (hA : RdC w A a) (hB : RdC w B b) (hna : a.length ≤ 12) (hnb : b.length ≤ 12) (hlr : (al + bl) + (ar + br) ≤ 12) (hwa : Wid (al + ar) a) (hwb : Wid (bl + br) b) (ha0 : ∀ v ∈ a, 0 < v.length) (hb0 : ∀ v ∈ b, 0 < v.length) (hF : fieldB p = true) (hga : GdM p 21 a) (hgb : GdM p 21 b) :
    Calls Tryz.prog 61 #[.int .i64 p, .agg #[.int .i64 al, .int .i64 ar, .slice A a.length ca], .agg #[.int .i64 bl, .int .i64 br, .slice B b.length cb]] w fun e w' => ∃ y, e = .returned (.agg #[.int .i64 ((al + bl : Nat) : Int), .int .i64 ((ar + br : Nat) : Int), y]) ∧ OFX w' w.heap.size w'.heap.size y ((frOps p).rref ((al + bl) + (ar + br)) (tenR al ar bl br a b)) ∧ Ex w w' := by
  have HWa := Lib.hid hwa
  have HWb := Lib.hid hwb
  have HF := Lib.hid hF
  have HGa := Lib.hid hga
  have HGb := Lib.hid hgb
  have Ha0 := Lib.hid ha0
  have Hb0 := Lib.hid hb0
  have HA := Lib.hid hA
  have HB := Lib.hid hB
  have hla := hA.1.1
  have hlb := hB.1.1
  have hwl : IntKind.i64.wrap ((al : Int) + (bl : Int)) = ((al + bl : Nat) : Int) := by rw [IntWalk.i64_in _ (by omega)]; omega
  have hwr : IntKind.i64.wrap ((ar : Int) + (br : Int)) = ((ar + br : Nat) : Int) := by rw [IntWalk.i64_in _ (by omega)]; omega
  obtain ⟨NL, hNL⟩ : ∃ NL, al + bl = NL := ⟨_, rfl⟩
  obtain ⟨NR, hNR⟩ : ∃ NR, ar + br = NR := ⟨_, rfl⟩
  rw [hNL] at hwl
  rw [hNR] at hwr
  have HNL := Lib.hid hNL
  have HNR := Lib.hid hNR
  rw [hNL, hNR]
  have h1 : al ≤ 12 ∧ ar ≤ 12 ∧ bl ≤ 12 ∧ br ≤ 12 := by omega
  have y0 := (Ex.refl w).alloc (.cells #[.int .i64 al, .int .i64 ar, .slice A a.length ca] 32)
  have d0 := VB.new w 32 #[.int .i64 al, .int .i64 ar, .slice A a.length ca]
  have S0 := Lib.hid (show (w.alloc (.cells #[.int .i64 al, .int .i64 ar, .slice A a.length ca] 32)).heap.size = w.heap.size + 1 by simp)
  clear hA hB hwa hwb hF hga hgb ha0 hb0 hNL hNR
  go_enter Tryz.func61, Tryz.ntmps61
  go_wp2_with fail
  generalize w.alloc (.cells #[.int .i64 al, .int .i64 ar, .slice A a.length ca] 32) = W0 at *
  have y1 := (Ex.refl W0).alloc (.cells #[.int .i64 bl, .int .i64 br, .slice B b.length cb] 32)
  have d1 := VB.new W0 32 #[.int .i64 bl, .int .i64 br, .slice B b.length cb]
  have S1 := Lib.hid (show (W0.alloc (.cells #[.int .i64 bl, .int .i64 br, .slice B b.length cb] 32)).heap.size = w.heap.size + 1 + 1 by simp; exact S0.out)
  rw [S0.out] at d1
  generalize W0.alloc (.cells #[.int .i64 bl, .int .i64 br, .slice B b.length cb] 32) = W1 at *
  have y2 := (Ex.refl W1).alloc (.cells #[.int .i64 0, .int .i64 0, .slice none 0 0] 32)
  have d2 := VB.new W1 32 #[.int .i64 0, .int .i64 0, .slice none 0 0]
  have S2 := Lib.hid (show (W1.alloc (.cells #[.int .i64 0, .int .i64 0, .slice none 0 0] 32)).heap.size = w.heap.size + 1 + 1 + 1 by simp; exact S1.out)
  rw [S1.out] at d2
  have qa := (d0.ex y1).ex y2
  have qb := d1.ex y2
  generalize W1.alloc (.cells #[.int .i64 0, .int .i64 0, .slice none 0 0] 32) = W2' at *
  have xx := (y0.trans y1).trans y2
  clear y0 y1 y2 d0 d1
  generalize hW2 : W2' = W2 at *
  clear hW2
  have ge0 := GE.empty (ELQ w) 34 W2 (Nat.le_refl W2.heap.size)
  have he1 := (Ex.refl W2).alloc (.cells #[] 34)
  have hs1 : (W2.alloc (.cells #[] 34)).heap.size = W2.heap.size + 1 := by simp
  have qa2 := (qa.ex he1).cell 2 (v := .slice A a.length ca) rfl
  go_wp2_with fail
  clear qa2
  go_loopw [7, 16] (fun o i wr => ∃ k : Nat, k ≤ a.length ∧ i = .int .i64 k ∧ GE (ELQ w) 34 wr W2.heap.size wr.heap.size o ((a.map (tnA al bl br)).take k) ∧ Ex W2 wr) (fun _ i _ => a.length - (intOf i).toNat)
  case atStart => exact ⟨0, Nat.zero_le _, rfl, by rw [hs1]; first | exact ge0 | simpa [S2.out] using ge0, he1⟩
  case round =>
    rename World => wi
    clear ge0 he1 hs1
    obtain ⟨k, hk, rfl, hge, he⟩ := hrel
    have xw := xx.trans he
    have hzi := he.size
    by_cases hlt : k < a.length
    · obtain ⟨g, off, row, P, pc, eA, hr, b0w, hpc, hP⟩ := HA.out.at_ hlt
      subst eA
      have hm := List.mem_of_getElem? hr
      have hr0 := Ha0.out row hm
      have hrl := HWa.out row hm
      have HT := Lib.hid (map_step (f := tnA al bl br) hr)
      obtain ⟨g2, off2, y, _, _, _, _, eP, _⟩ := hP.frac hr0
      subst eP
      have b0 := cell_ex xw b0w
      have hdl : (row.drop al).length = row.length - al := List.length_drop
      have htl : (row.take al).length = al := by rw [List.length_take]; omega
      have hctl : ((a.map (tnA al bl br)).take k).length ≤ k := List.length_take_le _ _
      have HTN := Lib.hid (tnA_len (bl := bl) (br := br) hrl)
      have hlpc : al ≤ pc := by omega
      obtain ⟨RL, hRL⟩ : ∃ RL, row.length = RL := ⟨_, rfl⟩
      rw [hRL] at b0 hpc hr0 hrl hdl
      have hlRL : al ≤ RL := by omega
      have hRL12 : RL ≤ 12 := by omega
      clear hr hm b0w hrl hRL
      by_cases hpl : pc - al = 0
      · obtain rfl : al = pc := by omega
        obtain rfl : al = RL := by omega
        rw [Nat.sub_self] at hdl
        clear hpl
        have hPe : row.drop al = [] := List.eq_nil_of_length_eq_zero hdl
        have QD : ∀ W, Ex w W → RowQ (fun w2 => Ex w w2) W (some ⟨g2, off2, none⟩) (row.drop al) := fun W _ => by rw [hPe]; exact RowQ.nil _ _ _
        have QT : ∀ W, Ex w W → RowQ (fun w2 => Ex w w2) W (some ⟨g2, off2, none⟩) (row.take al) := fun W hW => (RowQ.of_rds hP hW (fun _ h => h)).tk al
        have HS : ∀ W, Ex wi W → (W.cell? ⟨w.heap.size, 0, none⟩ = some (.int .i64 al) ∧ W.cell? ⟨w.heap.size, 1, none⟩ = some (.int .i64 ar) ∧ W.cell? ⟨w.heap.size + 1, 0, none⟩ = some (.int .i64 bl) ∧ W.cell? ⟨w.heap.size + 1, 1, none⟩ = some (.int .i64 br)) := fun W h => ⟨(qa.ex (he.trans h)).cell 0 rfl, (qa.ex (he.trans h)).cell 1 rfl, (qb.ex (he.trans h)).cell 0 rfl, (qb.ex (he.trans h)).cell 1 rfl⟩
        have hz12 : bl ≤ 12 ∧ br ≤ 12 := by omega
        have hfl : ([row.take al, List.replicate bl zF, row.drop al, List.replicate br zF] : List (List Fra)).flatten = tnA al bl br row := by simp [tnA]
        have hl12 : ∀ r ∈ ([row.take al, List.replicate bl zF, row.drop al, List.replicate br zF] : List (List Fra)), r.length ≤ 1000 := fun r hr => by
          simp only [List.mem_cons, List.not_mem_nil, or_false] at hr
          rcases hr with rfl | rfl | rfl | rfl <;> first | (rw [htl]; omega) | (rw [hdl]; omega) | (rw [List.length_replicate]; omega)
        go_wp2_with fail
        go_region_held3 (fun W => W.cell? ⟨w.heap.size, 0, none⟩ = some (.int .i64 al) ∧ W.cell? ⟨w.heap.size, 1, none⟩ = some (.int .i64 ar) ∧ W.cell? ⟨w.heap.size + 1, 0, none⟩ = some (.int .i64 bl) ∧ W.cell? ⟨w.heap.size + 1, 1, none⟩ = some (.int .i64 br)) (first
          | (exact HS7) | (exact HS _ (x6.alloc _)) | (exact HS _ x6) | (exact HS _ (x2.alloc _)) | (exact HS _ x2) | (exact HS _ x1) | (exact HS _ (Ex.refl _).drew) | (exact HS _ (Ex.refl _))) (first
          | (go_at_call 38
             have v4 := VB.new w2 34 #[.slice (some ⟨g2, off2, none⟩) al al, .slice (some ⟨gz1, 0, none⟩) bl cz1, .slice (some ⟨g2, off2, none⟩) 0 0, .slice (some ⟨gz2, 0, none⟩) br cz2]
             have x24 := (Ex.refl w2).alloc (.cells #[.slice (some ⟨g2, off2, none⟩) al al, .slice (some ⟨gz1, 0, none⟩) bl cz1, .slice (some ⟨g2, off2, none⟩) 0 0, .slice (some ⟨gz2, 0, none⟩) br cz2] 34)
             have x4 := x2.trans x24
             have QT4 : RowQ (fun W => Ex w W ∧ ∀ k, wi.heap.size ≤ k → k < w2.heap.size → W.heap[k]? = w2.heap[k]?) _ _ _ := (QT _ (xw.trans x4)).mono fun _ h => h.1
             have QD4 : RowQ (fun W => Ex w W ∧ ∀ k, wi.heap.size ≤ k → k < w2.heap.size → W.heap[k]? = w2.heap[k]?) _ _ _ := (QD _ (xw.trans x4)).mono fun _ h => h.1
             have R1 : RowQ (fun W => Ex w W ∧ ∀ k, wi.heap.size ≤ k → k < w2.heap.size → W.heap[k]? = w2.heap[k]?) _ _ _ := ((ge1.rowQ (by simp; omega)).ex (x12.trans x24)).mono fun _ h k a1 a2 _ => (h.2 k a1 (Nat.lt_of_lt_of_le a2 x12.size)).trans (x12.block a2)
             have R2 : RowQ (fun W => Ex w W ∧ ∀ k, wi.heap.size ≤ k → k < w2.heap.size → W.heap[k]? = w2.heap[k]?) _ _ _ := ((ge2.rowQ (by simp; omega)).ex x24).mono fun _ h k a1 a2 _ => h.2 k (Nat.le_trans x1.size a1) a2
             have cC := concat_q (some ⟨w2.heap.size, 0, none⟩) 4 [row.take al, List.replicate bl zF, row.drop al, List.replicate br zF] _ (rq_four v4 QT4 R1 QD4 R2 htl List.length_replicate hdl List.length_replicate) (by simp) hl12
             rw [hfl] at cC
             refine cC.mono ?_
             clear cC
             rintro e w6 ⟨v6, rfl, rp, x46⟩
             have x26 : Ex w2 w6 := x24.trans x46
             have x6 : Ex wi w6 := x2.trans x26
             obtain ⟨A6, c6, ev6⟩ := rp.form
             rw [HTN.out] at ev6
             subst ev6
             have hq := (rp.more (a' := wi.heap.size) x4.size (Nat.le_refl _)).elq (W0 := w) (by rw [HTN.out]; omega) (fun W h0 hk => ⟨h0, fun k a1 a2 => (hk k a1 (Nat.lt_of_lt_of_le a2 x26.size) (Nat.lt_of_lt_of_le a2 x26.size)).trans (x26.block a2)⟩)
             obtain ⟨v7, w7, hrun3, ge7, _, _, hE7⟩ := push_rowsQ (hge.ex x6) x6.size hq (Nat.le_refl _) x6.size (Nat.le_refl _) hzi (by first | omega | (rw [List.length_append, List.length_map]; omega))
             rw [← HT.out] at ge7
             have x7 := hE7 W2 (he.trans x6) (Nat.le_refl _)
             have HS7 : w7.cell? ⟨w.heap.size, 0, none⟩ = some (.int .i64 al) ∧ w7.cell? ⟨w.heap.size, 1, none⟩ = some (.int .i64 ar) ∧ w7.cell? ⟨w.heap.size + 1, 0, none⟩ = some (.int .i64 bl) ∧ w7.cell? ⟨w.heap.size + 1, 1, none⟩ = some (.int .i64 br) := ⟨(qa.ex x7).cell 0 rfl, (qa.ex x7).cell 1 rfl, (qb.ex x7).cell 0 rfl, (qb.ex x7).cell 1 rfl⟩)
          | (go_at_call_of 85 (Value.int IntKind.i64 (bl : Int))
             refine (noughts_c bl (by omega) wi.drew).mono ?_
             rintro e w1 ⟨v1, rfl, ⟨hn1, ge1⟩, x1'⟩
             obtain ⟨gz1, cz1, ev1, _, _⟩ := ge1.form hn1
             rw [List.length_replicate] at ev1
             subst ev1
             have x1 : Ex wi w1 := (Ex.refl wi).drew.trans x1')
          | (go_at_call_of 85 (Value.int IntKind.i64 (br : Int))
             refine (noughts_c br (by omega) w1).mono ?_
             rintro e w2 ⟨v2, rfl, ⟨hn2, ge2⟩, x12⟩
             obtain ⟨gz2, cz2, ev2, _, _⟩ := ge2.form hn2
             rw [List.length_replicate] at ev2
             subst ev2
             have x2 : Ex wi w2 := x1.trans x12)
          | (refine step_append_run rfl _ _ _ rfl rfl rfl hrun3 ?_))
        all_goals
          clear HS HS7 hrun3 hE7 rp hq hge HT HTN hfl hl12 hdl htl QD QT hctl
          go_wp2_with fail
          go_roundw
          case rel => exact ⟨k + 1, by omega, by go_num, ge7, x7⟩
          case measure => simp [intOf]; omega
      · have hpl2 : ¬ (pc = al) := by omega
        have QD : ∀ W, Ex w W → RowQ (fun w2 => Ex w w2) W (some ⟨g2, off2 + al * 2, none⟩) (row.drop al) := fun W hW => (RowQ.of_rds hP hW (fun _ h => h)).dp al
        have QT : ∀ W, Ex w W → RowQ (fun w2 => Ex w w2) W (some ⟨g2, off2, none⟩) (row.take al) := fun W hW => (RowQ.of_rds hP hW (fun _ h => h)).tk al
        have HS : ∀ W, Ex wi W → (W.cell? ⟨w.heap.size, 0, none⟩ = some (.int .i64 al) ∧ W.cell? ⟨w.heap.size, 1, none⟩ = some (.int .i64 ar) ∧ W.cell? ⟨w.heap.size + 1, 0, none⟩ = some (.int .i64 bl) ∧ W.cell? ⟨w.heap.size + 1, 1, none⟩ = some (.int .i64 br)) := fun W h => ⟨(qa.ex (he.trans h)).cell 0 rfl, (qa.ex (he.trans h)).cell 1 rfl, (qb.ex (he.trans h)).cell 0 rfl, (qb.ex (he.trans h)).cell 1 rfl⟩
        have hz12 : bl ≤ 12 ∧ br ≤ 12 := by omega
        have hfl : ([row.take al, List.replicate bl zF, row.drop al, List.replicate br zF] : List (List Fra)).flatten = tnA al bl br row := by simp [tnA]
        have hl12 : ∀ r ∈ ([row.take al, List.replicate bl zF, row.drop al, List.replicate br zF] : List (List Fra)), r.length ≤ 1000 := fun r hr => by
          simp only [List.mem_cons, List.not_mem_nil, or_false] at hr
          rcases hr with rfl | rfl | rfl | rfl <;> first | (rw [htl]; omega) | (rw [hdl]; omega) | (rw [List.length_replicate]; omega)
        go_wp2_with fail
        go_region_held3 (fun W => W.cell? ⟨w.heap.size, 0, none⟩ = some (.int .i64 al) ∧ W.cell? ⟨w.heap.size, 1, none⟩ = some (.int .i64 ar) ∧ W.cell? ⟨w.heap.size + 1, 0, none⟩ = some (.int .i64 bl) ∧ W.cell? ⟨w.heap.size + 1, 1, none⟩ = some (.int .i64 br)) (first
          | (exact HS7) | (exact HS _ (x6.alloc _)) | (exact HS _ x6) | (exact HS _ (x2.alloc _)) | (exact HS _ x2) | (exact HS _ x1) | (exact HS _ (Ex.refl _).drew) | (exact HS _ (Ex.refl _))) (first
          | (go_at_call 38
             have v4 := VB.new w2 34 #[.slice (some ⟨g2, off2, none⟩) al pc, .slice (some ⟨gz1, 0, none⟩) bl cz1, .slice (some ⟨g2, off2 + al * 2, none⟩) (RL - al) (pc - al), .slice (some ⟨gz2, 0, none⟩) br cz2]
             have x24 := (Ex.refl w2).alloc (.cells #[.slice (some ⟨g2, off2, none⟩) al pc, .slice (some ⟨gz1, 0, none⟩) bl cz1, .slice (some ⟨g2, off2 + al * 2, none⟩) (RL - al) (pc - al), .slice (some ⟨gz2, 0, none⟩) br cz2] 34)
             have x4 := x2.trans x24
             have QT4 : RowQ (fun W => Ex w W ∧ ∀ k, wi.heap.size ≤ k → k < w2.heap.size → W.heap[k]? = w2.heap[k]?) _ _ _ := (QT _ (xw.trans x4)).mono fun _ h => h.1
             have QD4 : RowQ (fun W => Ex w W ∧ ∀ k, wi.heap.size ≤ k → k < w2.heap.size → W.heap[k]? = w2.heap[k]?) _ _ _ := (QD _ (xw.trans x4)).mono fun _ h => h.1
             have R1 : RowQ (fun W => Ex w W ∧ ∀ k, wi.heap.size ≤ k → k < w2.heap.size → W.heap[k]? = w2.heap[k]?) _ _ _ := ((ge1.rowQ (by simp; omega)).ex (x12.trans x24)).mono fun _ h k a1 a2 _ => (h.2 k a1 (Nat.lt_of_lt_of_le a2 x12.size)).trans (x12.block a2)
             have R2 : RowQ (fun W => Ex w W ∧ ∀ k, wi.heap.size ≤ k → k < w2.heap.size → W.heap[k]? = w2.heap[k]?) _ _ _ := ((ge2.rowQ (by simp; omega)).ex x24).mono fun _ h k a1 a2 _ => h.2 k (Nat.le_trans x1.size a1) a2
             have cC := concat_q (some ⟨w2.heap.size, 0, none⟩) 4 [row.take al, List.replicate bl zF, row.drop al, List.replicate br zF] _ (rq_four v4 QT4 R1 QD4 R2 htl List.length_replicate hdl List.length_replicate) (by simp) hl12
             rw [hfl] at cC
             refine cC.mono ?_
             clear cC
             rintro e w6 ⟨v6, rfl, rp, x46⟩
             have x26 : Ex w2 w6 := x24.trans x46
             have x6 : Ex wi w6 := x2.trans x26
             obtain ⟨A6, c6, ev6⟩ := rp.form
             rw [HTN.out] at ev6
             subst ev6
             have hq := (rp.more (a' := wi.heap.size) x4.size (Nat.le_refl _)).elq (W0 := w) (by rw [HTN.out]; omega) (fun W h0 hk => ⟨h0, fun k a1 a2 => (hk k a1 (Nat.lt_of_lt_of_le a2 x26.size) (Nat.lt_of_lt_of_le a2 x26.size)).trans (x26.block a2)⟩)
             obtain ⟨v7, w7, hrun3, ge7, _, _, hE7⟩ := push_rowsQ (hge.ex x6) x6.size hq (Nat.le_refl _) x6.size (Nat.le_refl _) hzi (by first | omega | (rw [List.length_append, List.length_map]; omega))
             rw [← HT.out] at ge7
             have x7 := hE7 W2 (he.trans x6) (Nat.le_refl _)
             have HS7 : w7.cell? ⟨w.heap.size, 0, none⟩ = some (.int .i64 al) ∧ w7.cell? ⟨w.heap.size, 1, none⟩ = some (.int .i64 ar) ∧ w7.cell? ⟨w.heap.size + 1, 0, none⟩ = some (.int .i64 bl) ∧ w7.cell? ⟨w.heap.size + 1, 1, none⟩ = some (.int .i64 br) := ⟨(qa.ex x7).cell 0 rfl, (qa.ex x7).cell 1 rfl, (qb.ex x7).cell 0 rfl, (qb.ex x7).cell 1 rfl⟩)
          | (go_at_call_of 85 (Value.int IntKind.i64 (bl : Int))
             refine (noughts_c bl (by omega) wi.drew).mono ?_
             rintro e w1 ⟨v1, rfl, ⟨hn1, ge1⟩, x1'⟩
             obtain ⟨gz1, cz1, ev1, _, _⟩ := ge1.form hn1
             rw [List.length_replicate] at ev1
             subst ev1
             have x1 : Ex wi w1 := (Ex.refl wi).drew.trans x1')
          | (go_at_call_of 85 (Value.int IntKind.i64 (br : Int))
             refine (noughts_c br (by omega) w1).mono ?_
             rintro e w2 ⟨v2, rfl, ⟨hn2, ge2⟩, x12⟩
             obtain ⟨gz2, cz2, ev2, _, _⟩ := ge2.form hn2
             rw [List.length_replicate] at ev2
             subst ev2
             have x2 : Ex wi w2 := x1.trans x12)
          | (refine step_append_run rfl _ _ _ rfl rfl rfl hrun3 ?_))
        all_goals
          clear HS HS7 hrun3 hE7 rp hq hge HT HTN hfl hl12 hdl htl QD QT hctl
          go_wp2_with fail
          go_roundw
          case rel => exact ⟨k + 1, by omega, by go_num, ge7, x7⟩
          case measure => simp [intOf]; omega
    · obtain rfl : k = a.length := by omega
      rw [List.take_of_length_le (by rw [List.length_map]; exact Nat.le_refl _)] at hge
      have qb2 := (qb.ex he).cell 2 (v := .slice B b.length cb) rfl
      go_wp2_with fail
      clear qb2
      go_loopw [7, 43] (fun o i wr => ∃ k : Nat, k ≤ b.length ∧ i = .int .i64 k ∧ GE (ELQ w) 34 wr W2.heap.size wr.heap.size o (a.map (tnA al bl br) ++ (b.map (tnB al ar bl)).take k) ∧ Ex W2 wr) (fun _ i _ => b.length - (intOf i).toNat)
      case atStart => exact ⟨0, Nat.zero_le _, rfl, by simpa using hge, he⟩
      case round =>
        clear hge he xw hzi hlt
        rename World => wi
        obtain ⟨k, hk, rfl, hge, he⟩ := hrel
        have xw := xx.trans he
        have hzi := he.size
        by_cases hlt : k < b.length
        · obtain ⟨g, off, row, P, pc, eA, hr, b0w, hpc, hP⟩ := HB.out.at_ hlt
          subst eA
          have hm := List.mem_of_getElem? hr
          have hr0 := Hb0.out row hm
          have hrl := HWb.out row hm
          have HT := Lib.hid (map_step (f := tnB al ar bl) hr)
          obtain ⟨g2, off2, y, _, _, _, _, eP, _⟩ := hP.frac hr0
          subst eP
          have b0 := cell_ex xw b0w
          have hdl : (row.drop bl).length = row.length - bl := List.length_drop
          have htl : (row.take bl).length = bl := by rw [List.length_take]; omega
          have hctl : ((b.map (tnB al ar bl)).take k).length ≤ k := List.length_take_le _ _
          have HTN := Lib.hid (tnB_len (al := al) (ar := ar) hrl)
          have hlpc : bl ≤ pc := by omega
          obtain ⟨RL, hRL⟩ : ∃ RL, row.length = RL := ⟨_, rfl⟩
          rw [hRL] at b0 hpc hr0 hrl hdl
          have hlRL : bl ≤ RL := by omega
          have hRL12 : RL ≤ 12 := by omega
          clear hr hm b0w hrl hRL
          by_cases hpl : pc - bl = 0
          · obtain rfl : bl = pc := by omega
            obtain rfl : bl = RL := by omega
            rw [Nat.sub_self] at hdl
            clear hpl
            have hPe : row.drop bl = [] := List.eq_nil_of_length_eq_zero hdl
            have QD : ∀ W, Ex w W → RowQ (fun w2 => Ex w w2) W (some ⟨g2, off2, none⟩) (row.drop bl) := fun W _ => by rw [hPe]; exact RowQ.nil _ _ _
            have QT : ∀ W, Ex w W → RowQ (fun w2 => Ex w w2) W (some ⟨g2, off2, none⟩) (row.take bl) := fun W hW => (RowQ.of_rds hP hW (fun _ h => h)).tk bl
            have HS : ∀ W, Ex wi W → (W.cell? ⟨w.heap.size, 0, none⟩ = some (.int .i64 al) ∧ W.cell? ⟨w.heap.size, 1, none⟩ = some (.int .i64 ar) ∧ W.cell? ⟨w.heap.size + 1, 0, none⟩ = some (.int .i64 bl) ∧ W.cell? ⟨w.heap.size + 1, 1, none⟩ = some (.int .i64 br)) := fun W h => ⟨(qa.ex (he.trans h)).cell 0 rfl, (qa.ex (he.trans h)).cell 1 rfl, (qb.ex (he.trans h)).cell 0 rfl, (qb.ex (he.trans h)).cell 1 rfl⟩
            have hz12 : al ≤ 12 ∧ ar ≤ 12 := by omega
            have hfl : ([List.replicate al zF, row.take bl, List.replicate ar zF, row.drop bl] : List (List Fra)).flatten = tnB al ar bl row := by simp [tnB]
            have hl12 : ∀ r ∈ ([List.replicate al zF, row.take bl, List.replicate ar zF, row.drop bl] : List (List Fra)), r.length ≤ 1000 := fun r hr => by
              simp only [List.mem_cons, List.not_mem_nil, or_false] at hr
              rcases hr with rfl | rfl | rfl | rfl <;> first | (rw [htl]; omega) | (rw [hdl]; omega) | (rw [List.length_replicate]; omega)
            go_wp2_with fail
            go_region_held3 (fun W => W.cell? ⟨w.heap.size, 0, none⟩ = some (.int .i64 al) ∧ W.cell? ⟨w.heap.size, 1, none⟩ = some (.int .i64 ar) ∧ W.cell? ⟨w.heap.size + 1, 0, none⟩ = some (.int .i64 bl) ∧ W.cell? ⟨w.heap.size + 1, 1, none⟩ = some (.int .i64 br)) (first
              | (exact HS7) | (exact HS _ (x6.alloc _)) | (exact HS _ x6) | (exact HS _ (x2.alloc _)) | (exact HS _ x2) | (exact HS _ x1) | (exact HS _ (Ex.refl _).drew) | (exact HS _ (Ex.refl _))) (first
              | (go_at_call 38
                 have v4 := VB.new w2 34 #[.slice (some ⟨gz1, 0, none⟩) al cz1, .slice (some ⟨g2, off2, none⟩) bl bl, .slice (some ⟨gz2, 0, none⟩) ar cz2, .slice (some ⟨g2, off2, none⟩) 0 0]
                 have x24 := (Ex.refl w2).alloc (.cells #[.slice (some ⟨gz1, 0, none⟩) al cz1, .slice (some ⟨g2, off2, none⟩) bl bl, .slice (some ⟨gz2, 0, none⟩) ar cz2, .slice (some ⟨g2, off2, none⟩) 0 0] 34)
                 have x4 := x2.trans x24
                 have QT4 : RowQ (fun W => Ex w W ∧ ∀ k, wi.heap.size ≤ k → k < w2.heap.size → W.heap[k]? = w2.heap[k]?) _ _ _ := (QT _ (xw.trans x4)).mono fun _ h => h.1
                 have QD4 : RowQ (fun W => Ex w W ∧ ∀ k, wi.heap.size ≤ k → k < w2.heap.size → W.heap[k]? = w2.heap[k]?) _ _ _ := (QD _ (xw.trans x4)).mono fun _ h => h.1
                 have R1 : RowQ (fun W => Ex w W ∧ ∀ k, wi.heap.size ≤ k → k < w2.heap.size → W.heap[k]? = w2.heap[k]?) _ _ _ := ((ge1.rowQ (by simp; omega)).ex (x12.trans x24)).mono fun _ h k a1 a2 _ => (h.2 k a1 (Nat.lt_of_lt_of_le a2 x12.size)).trans (x12.block a2)
                 have R2 : RowQ (fun W => Ex w W ∧ ∀ k, wi.heap.size ≤ k → k < w2.heap.size → W.heap[k]? = w2.heap[k]?) _ _ _ := ((ge2.rowQ (by simp; omega)).ex x24).mono fun _ h k a1 a2 _ => h.2 k (Nat.le_trans x1.size a1) a2
                 have cC := concat_q (some ⟨w2.heap.size, 0, none⟩) 4 [List.replicate al zF, row.take bl, List.replicate ar zF, row.drop bl] _ (rq_four v4 R1 QT4 R2 QD4 List.length_replicate htl List.length_replicate hdl) (by simp) hl12
                 rw [hfl] at cC
                 refine cC.mono ?_
                 clear cC
                 rintro e w6 ⟨v6, rfl, rp, x46⟩
                 have x26 : Ex w2 w6 := x24.trans x46
                 have x6 : Ex wi w6 := x2.trans x26
                 obtain ⟨A6, c6, ev6⟩ := rp.form
                 rw [HTN.out] at ev6
                 subst ev6
                 have hq := (rp.more (a' := wi.heap.size) x4.size (Nat.le_refl _)).elq (W0 := w) (by rw [HTN.out]; omega) (fun W h0 hk => ⟨h0, fun k a1 a2 => (hk k a1 (Nat.lt_of_lt_of_le a2 x26.size) (Nat.lt_of_lt_of_le a2 x26.size)).trans (x26.block a2)⟩)
                 obtain ⟨v7, w7, hrun3, ge7, _, _, hE7⟩ := push_rowsQ (hge.ex x6) x6.size hq (Nat.le_refl _) x6.size (Nat.le_refl _) hzi (by first | omega | (rw [List.length_append, List.length_map]; omega))
                 rw [List.append_assoc, ← HT.out] at ge7
                 have x7 := hE7 W2 (he.trans x6) (Nat.le_refl _)
                 have HS7 : w7.cell? ⟨w.heap.size, 0, none⟩ = some (.int .i64 al) ∧ w7.cell? ⟨w.heap.size, 1, none⟩ = some (.int .i64 ar) ∧ w7.cell? ⟨w.heap.size + 1, 0, none⟩ = some (.int .i64 bl) ∧ w7.cell? ⟨w.heap.size + 1, 1, none⟩ = some (.int .i64 br) := ⟨(qa.ex x7).cell 0 rfl, (qa.ex x7).cell 1 rfl, (qb.ex x7).cell 0 rfl, (qb.ex x7).cell 1 rfl⟩)
              | (go_at_call_of 85 (Value.int IntKind.i64 (al : Int))
                 refine (noughts_c al (by omega) wi.drew).mono ?_
                 rintro e w1 ⟨v1, rfl, ⟨hn1, ge1⟩, x1'⟩
                 obtain ⟨gz1, cz1, ev1, _, _⟩ := ge1.form hn1
                 rw [List.length_replicate] at ev1
                 subst ev1
                 have x1 : Ex wi w1 := (Ex.refl wi).drew.trans x1')
              | (go_at_call_of 85 (Value.int IntKind.i64 (ar : Int))
                 refine (noughts_c ar (by omega) w1).mono ?_
                 rintro e w2 ⟨v2, rfl, ⟨hn2, ge2⟩, x12⟩
                 obtain ⟨gz2, cz2, ev2, _, _⟩ := ge2.form hn2
                 rw [List.length_replicate] at ev2
                 subst ev2
                 have x2 : Ex wi w2 := x1.trans x12)
              | (refine step_append_run rfl _ _ _ rfl rfl rfl hrun3 ?_))
            all_goals
              clear HS HS7 hrun3 hE7 rp hq hge HT HTN hfl hl12 hdl htl QD QT hctl
              go_wp2_with fail
              go_roundw
              case rel => exact ⟨k + 1, by omega, by go_num, ge7, x7⟩
              case measure => simp [intOf]; omega
          · have hpl2 : ¬ (pc = bl) := by omega
            have QD : ∀ W, Ex w W → RowQ (fun w2 => Ex w w2) W (some ⟨g2, off2 + bl * 2, none⟩) (row.drop bl) := fun W hW => (RowQ.of_rds hP hW (fun _ h => h)).dp bl
            have QT : ∀ W, Ex w W → RowQ (fun w2 => Ex w w2) W (some ⟨g2, off2, none⟩) (row.take bl) := fun W hW => (RowQ.of_rds hP hW (fun _ h => h)).tk bl
            have HS : ∀ W, Ex wi W → (W.cell? ⟨w.heap.size, 0, none⟩ = some (.int .i64 al) ∧ W.cell? ⟨w.heap.size, 1, none⟩ = some (.int .i64 ar) ∧ W.cell? ⟨w.heap.size + 1, 0, none⟩ = some (.int .i64 bl) ∧ W.cell? ⟨w.heap.size + 1, 1, none⟩ = some (.int .i64 br)) := fun W h => ⟨(qa.ex (he.trans h)).cell 0 rfl, (qa.ex (he.trans h)).cell 1 rfl, (qb.ex (he.trans h)).cell 0 rfl, (qb.ex (he.trans h)).cell 1 rfl⟩
            have hz12 : al ≤ 12 ∧ ar ≤ 12 := by omega
            have hfl : ([List.replicate al zF, row.take bl, List.replicate ar zF, row.drop bl] : List (List Fra)).flatten = tnB al ar bl row := by simp [tnB]
            have hl12 : ∀ r ∈ ([List.replicate al zF, row.take bl, List.replicate ar zF, row.drop bl] : List (List Fra)), r.length ≤ 1000 := fun r hr => by
              simp only [List.mem_cons, List.not_mem_nil, or_false] at hr
              rcases hr with rfl | rfl | rfl | rfl <;> first | (rw [htl]; omega) | (rw [hdl]; omega) | (rw [List.length_replicate]; omega)
            go_wp2_with fail
            go_region_held3 (fun W => W.cell? ⟨w.heap.size, 0, none⟩ = some (.int .i64 al) ∧ W.cell? ⟨w.heap.size, 1, none⟩ = some (.int .i64 ar) ∧ W.cell? ⟨w.heap.size + 1, 0, none⟩ = some (.int .i64 bl) ∧ W.cell? ⟨w.heap.size + 1, 1, none⟩ = some (.int .i64 br)) (first
              | (exact HS7) | (exact HS _ (x6.alloc _)) | (exact HS _ x6) | (exact HS _ (x2.alloc _)) | (exact HS _ x2) | (exact HS _ x1) | (exact HS _ (Ex.refl _).drew) | (exact HS _ (Ex.refl _))) (first
              | (go_at_call 38
                 have v4 := VB.new w2 34 #[.slice (some ⟨gz1, 0, none⟩) al cz1, .slice (some ⟨g2, off2, none⟩) bl pc, .slice (some ⟨gz2, 0, none⟩) ar cz2, .slice (some ⟨g2, off2 + bl * 2, none⟩) (RL - bl) (pc - bl)]
                 have x24 := (Ex.refl w2).alloc (.cells #[.slice (some ⟨gz1, 0, none⟩) al cz1, .slice (some ⟨g2, off2, none⟩) bl pc, .slice (some ⟨gz2, 0, none⟩) ar cz2, .slice (some ⟨g2, off2 + bl * 2, none⟩) (RL - bl) (pc - bl)] 34)
                 have x4 := x2.trans x24
                 have QT4 : RowQ (fun W => Ex w W ∧ ∀ k, wi.heap.size ≤ k → k < w2.heap.size → W.heap[k]? = w2.heap[k]?) _ _ _ := (QT _ (xw.trans x4)).mono fun _ h => h.1
                 have QD4 : RowQ (fun W => Ex w W ∧ ∀ k, wi.heap.size ≤ k → k < w2.heap.size → W.heap[k]? = w2.heap[k]?) _ _ _ := (QD _ (xw.trans x4)).mono fun _ h => h.1
                 have R1 : RowQ (fun W => Ex w W ∧ ∀ k, wi.heap.size ≤ k → k < w2.heap.size → W.heap[k]? = w2.heap[k]?) _ _ _ := ((ge1.rowQ (by simp; omega)).ex (x12.trans x24)).mono fun _ h k a1 a2 _ => (h.2 k a1 (Nat.lt_of_lt_of_le a2 x12.size)).trans (x12.block a2)
                 have R2 : RowQ (fun W => Ex w W ∧ ∀ k, wi.heap.size ≤ k → k < w2.heap.size → W.heap[k]? = w2.heap[k]?) _ _ _ := ((ge2.rowQ (by simp; omega)).ex x24).mono fun _ h k a1 a2 _ => h.2 k (Nat.le_trans x1.size a1) a2
                 have cC := concat_q (some ⟨w2.heap.size, 0, none⟩) 4 [List.replicate al zF, row.take bl, List.replicate ar zF, row.drop bl] _ (rq_four v4 R1 QT4 R2 QD4 List.length_replicate htl List.length_replicate hdl) (by simp) hl12
                 rw [hfl] at cC
                 refine cC.mono ?_
                 clear cC
                 rintro e w6 ⟨v6, rfl, rp, x46⟩
                 have x26 : Ex w2 w6 := x24.trans x46
                 have x6 : Ex wi w6 := x2.trans x26
                 obtain ⟨A6, c6, ev6⟩ := rp.form
                 rw [HTN.out] at ev6
                 subst ev6
                 have hq := (rp.more (a' := wi.heap.size) x4.size (Nat.le_refl _)).elq (W0 := w) (by rw [HTN.out]; omega) (fun W h0 hk => ⟨h0, fun k a1 a2 => (hk k a1 (Nat.lt_of_lt_of_le a2 x26.size) (Nat.lt_of_lt_of_le a2 x26.size)).trans (x26.block a2)⟩)
                 obtain ⟨v7, w7, hrun3, ge7, _, _, hE7⟩ := push_rowsQ (hge.ex x6) x6.size hq (Nat.le_refl _) x6.size (Nat.le_refl _) hzi (by first | omega | (rw [List.length_append, List.length_map]; omega))
                 rw [List.append_assoc, ← HT.out] at ge7
                 have x7 := hE7 W2 (he.trans x6) (Nat.le_refl _)
                 have HS7 : w7.cell? ⟨w.heap.size, 0, none⟩ = some (.int .i64 al) ∧ w7.cell? ⟨w.heap.size, 1, none⟩ = some (.int .i64 ar) ∧ w7.cell? ⟨w.heap.size + 1, 0, none⟩ = some (.int .i64 bl) ∧ w7.cell? ⟨w.heap.size + 1, 1, none⟩ = some (.int .i64 br) := ⟨(qa.ex x7).cell 0 rfl, (qa.ex x7).cell 1 rfl, (qb.ex x7).cell 0 rfl, (qb.ex x7).cell 1 rfl⟩)
              | (go_at_call_of 85 (Value.int IntKind.i64 (al : Int))
                 refine (noughts_c al (by omega) wi.drew).mono ?_
                 rintro e w1 ⟨v1, rfl, ⟨hn1, ge1⟩, x1'⟩
                 obtain ⟨gz1, cz1, ev1, _, _⟩ := ge1.form hn1
                 rw [List.length_replicate] at ev1
                 subst ev1
                 have x1 : Ex wi w1 := (Ex.refl wi).drew.trans x1')
              | (go_at_call_of 85 (Value.int IntKind.i64 (ar : Int))
                 refine (noughts_c ar (by omega) w1).mono ?_
                 rintro e w2 ⟨v2, rfl, ⟨hn2, ge2⟩, x12⟩
                 obtain ⟨gz2, cz2, ev2, _, _⟩ := ge2.form hn2
                 rw [List.length_replicate] at ev2
                 subst ev2
                 have x2 : Ex wi w2 := x1.trans x12)
              | (refine step_append_run rfl _ _ _ rfl rfl rfl hrun3 ?_))
            all_goals
              clear HS HS7 hrun3 hE7 rp hq hge HT HTN hfl hl12 hdl htl QD QT hctl
              go_wp2_with fail
              go_roundw
              case rel => exact ⟨k + 1, by omega, by go_num, ge7, x7⟩
              case measure => simp [intOf]; omega
        · obtain rfl : k = b.length := by omega
          rw [List.take_of_length_le (by rw [List.length_map]; exact Nat.le_refl _)] at hge
          have hzw := xx.size
          have hnum : (tenR al ar bl br a b).length = a.length + b.length := tenR_num a b
          obtain ⟨A3, c3, ev, hN⟩ := GE.rowsQ (xs := tenR al ar bl br a b) hge (by rw [hnum]; omega) xw
          have hgd := tenR_gd (al := al) (ar := ar) (bl := bl) (br := br) HF.out (by omega) HGa.out HGb.out
          have hwd := tenR_wid HWa.out HWb.out
          rw [HNL.out, HNR.out] at hwd
          have hlr2 : NL + NR ≤ 12 := by have := HNL.out; have := HNR.out; omega
          have cO := ratRelation_c p NL NR (tenR al ar bl br a b) A3 c3 wi HF.out hN hwd (stg_bd hgd hwd (Nat.le_refl _) (pow4_le hlr2)) (by omega) (by rw [hnum]; omega)
          subst ev
          clear hge hN hgd hwd
          obtain ⟨RR, hRR⟩ : ∃ RR, (frOps p).rref (NL + NR) (tenR al ar bl br a b) = RR := ⟨_, rfl⟩
          have HRR := Lib.hid hRR
          rw [hRR] at cO
          clear hRR
          rw [hnum] at cO ⊢
          clear hnum
          obtain ⟨k0, k1, k2, k3⟩ : wi.cell? ⟨w.heap.size, 0, none⟩ = some (.int .i64 al) ∧ wi.cell? ⟨w.heap.size, 1, none⟩ = some (.int .i64 ar) ∧ wi.cell? ⟨w.heap.size + 1, 0, none⟩ = some (.int .i64 bl) ∧ wi.cell? ⟨w.heap.size + 1, 1, none⟩ = some (.int .i64 br) := ⟨(qa.ex he).cell 0 rfl, (qa.ex he).cell 1 rfl, (qb.ex he).cell 0 rfl, (qb.ex he).cell 1 rfl⟩
          go_wp2_with fail
          refine cO.mono ?_
          rintro e w4 ⟨y4, rfl, fx, x4⟩
          obtain ⟨A4, c4, rfl, _⟩ := fx.rd
          clear cO k0 k1 k2 k3 hwl hwr
          have hl2 := d2.lt
          have dz := (d2.ex he).ex x4
          have xz := xw.trans x4
          obtain ⟨dd, zz⟩ := dz.st3 (.int .i64 NL) (.int .i64 NR) (.slice A4 RR.length c4)
          have u0 := dz.cell 0 (v := .int .i64 0) rfl
          have u1 := dz.cell 1 (v := .int .i64 0) rfl
          have u2 := dz.cell 2 (v := .slice none 0 0) rfl
          have k0 := dz.frozen 0
          have k1 := dz.frozen 1
          have k2 := dz.frozen 2
          have C0 := dd.cell 0 (v := .int .i64 NL) rfl
          have C1 := dd.cell 1 (v := .int .i64 NR) rfl
          have C2 := dd.cell 2 (v := .slice A4 RR.length c4) rfl
          have eF := xz.ex1 zz (by omega)
          have fx2 := fx.iv (ExI.of_ex1 zz) (by omega)
          have fx3 := fx2.more (a' := w.heap.size) (b' := w4.heap.size) (by omega) (Nat.le_refl _)
          go_wp2_with fail
          refine bodyPost_ret (v := .agg #[.int .i64 NL, .int .i64 NR, .slice A4 RR.length c4]) (by simp [results, Tryz.results61, go_sem, C0, C1, C2]) rfl ?_
          rw [HRR.out]
          exact ⟨_, rfl, fx3.more (Nat.le_refl _) (Nat.le_of_eq (by simp)), eF⟩
end Go.Proofs.YtpeogfapnofeoaaGreatDoor
namespace Go.Proofs.YtpeogfapnofeoaaGreatDoor
set_option maxRecDepth 100000
open Go Go.RowKit
def tenC (p : Int) (x y : RRel) : Prop := rrB p x = true ∧ rrB p y = true ∧ x.l + x.r + y.l + y.r ≤ 12
noncomputable def tenU (p : Int) (x y : RRel) : RRel × Bool := @ite _ (tenC p x y) (Classical.propDecidable _) (genU p (x.l + y.l) (x.r + y.r) (tenR x.l.toNat x.r.toNat y.l.toNat y.r.toNat x.b y.b)) (⟨0, 0, []⟩, false)
theorem tenU_no {p : Int} {x y : RRel} (h : ¬ tenC p x y) : tenU p x y = (⟨0, 0, []⟩, false) := if_neg h
theorem tenU_yes {p : Int} {x y : RRel} (h : tenC p x y) : tenU p x y = genU p (x.l + y.l) (x.r + y.r) (tenR x.l.toNat x.r.toNat y.l.toNat y.r.toNat x.b y.b) := if_pos h
theorem tenU_tot (p : Int) (x y : RRel) : totFF (tenU p x y).1.b ≤ 1125899906842624 := by
  by_cases h : tenC p x y
  · rw [tenU_yes h]; exact genU_tot _ _ _ _
  · rw [tenU_no h]; show (0 : Int) ≤ _; omega
theorem RRRelc.ex {w w' : World} {v0 : Value} {x : RRel} (h : RRRelc w v0 x) (he : Ex w w') : RRRelc w' v0 x := by
  obtain ⟨h0, A, c, e, hc⟩ := h
  exact ⟨h0.ex he, A, c, e, hc.ex he⟩
theorem RRRelc.form {w : World} {v0 : Value} {x : RRel} (h : RRRelc w v0 x) : ∃ A0 n0 c0, v0 = .slice A0 n0 c0 := h.1.form
theorem fit_sum {l r : Nat} : fitB (l : Int) (r : Int) = decide (l + r ≤ 12) := by
  rw [Bool.eq_iff_iff]
  simp [fitB, inB]
  omega
set_option maxHeartbeats 8000000 in
theorem spTensorRational_u (p : Int) (x y : RRel) (v0 v1 : Value) (w : World) (hX : RRRelc w v0 x) (hY : RRRelc w v1 y) :
    Calls Tryz.prog 26 #[.int .i64 p, .agg #[.int .i64 x.l, .int .i64 x.r, v0], .agg #[.int .i64 y.l, .int .i64 y.r, v1]] w fun e w' => ∃ y0, e = .returned (.tuple #[.agg #[.int .i64 (tenU p x y).1.l, .int .i64 (tenU p x y).1.r, y0], .bool (tenU p x y).2]) ∧ ORRel w' w.heap.size w'.heap.size y0 (tenU p x y).1 ∧ Ex w w' := by
  obtain ⟨hx0, A, c, rfl, hc⟩ := hX
  obtain ⟨hy0, B, d, rfl, hd⟩ := hY
  have HT := Lib.hid (tenU_tot p x y)
  have y0 := (Ex.refl w).alloc (.cells #[.int .i64 x.l, .int .i64 x.r, .slice A x.b.length c] 32)
  have d0 := VB.new w 32 #[.int .i64 x.l, .int .i64 x.r, .slice A x.b.length c]
  have S0 := Lib.hid (show (w.alloc (.cells #[.int .i64 x.l, .int .i64 x.r, .slice A x.b.length c] 32)).heap.size = w.heap.size + 1 by simp)
  go_enter Tryz.func26, Tryz.ntmps26
  go_wp2_with fail
  generalize w.alloc (.cells #[.int .i64 x.l, .int .i64 x.r, .slice A x.b.length c] 32) = W0 at *
  have y1 := (Ex.refl W0).alloc (.cells #[.int .i64 y.l, .int .i64 y.r, .slice B y.b.length d] 32)
  have d1 := VB.new W0 32 #[.int .i64 y.l, .int .i64 y.r, .slice B y.b.length d]
  have S1 := Lib.hid (show (W0.alloc (.cells #[.int .i64 y.l, .int .i64 y.r, .slice B y.b.length d] 32)).heap.size = w.heap.size + 1 + 1 by simp; exact S0.out)
  rw [S0.out] at d1
  generalize W0.alloc (.cells #[.int .i64 y.l, .int .i64 y.r, .slice B y.b.length d] 32) = W1 at *
  have y2 := (Ex.refl W1).alloc (.cells #[.int .i64 0, .int .i64 0, .slice none 0 0] 32)
  have d2 := VB.new W1 32 #[.int .i64 0, .int .i64 0, .slice none 0 0]
  rw [S1.out] at d2
  have qa := (d0.ex y1).ex y2
  have qb := d1.ex y2
  generalize W1.alloc (.cells #[.int .i64 0, .int .i64 0, .slice none 0 0] 32) = W2 at *
  have xx := (y0.trans y1).trans y2
  clear y0 y1 y2 d0 d1 S0 S1

  refine (rrGood_c p x A c W2 (hc.1.ex xx)).mono ?_
  rintro e w3 ⟨b0, rfl, hb0, x3⟩
  obtain rfl := rrB_of hb0
  clear hb0
  cases hb : rrB p x with
  | false =>
    have HN := Lib.hid (tenU_no (p := p) (x := x) (y := y) (fun h => by have := h.1; rw [hb] at this; cases this))
    clear hb
    have dz := d2.ex x3
    have xz := xx.trans x3
    obtain ⟨dd, zz⟩ := dz.st3 (.int .i64 0) (.int .i64 0) (.slice none 0 0)
    have u0 := dz.cell 0 (v := .int .i64 0) rfl
    have u1 := dz.cell 1 (v := .int .i64 0) rfl
    have u2 := dz.cell 2 (v := .slice none 0 0) rfl
    have k0 := dz.frozen 0
    have k1 := dz.frozen 1
    have k2 := dz.frozen 2
    have C0 := dd.cell 0 (v := .int .i64 0) rfl
    have C1 := dd.cell 1 (v := .int .i64 0) rfl
    have C2 := dd.cell 2 (v := .slice none 0 0) rfl
    have eF := xz.ex1 zz (by omega)
    go_wp2_with fail
    refine bodyPost_ret (v := .tuple #[.agg #[.int .i64 0, .int .i64 0, .slice none 0 0], .bool false]) (by simp [results, Tryz.results26, go_sem, C0, C1, C2]) rfl ?_
    rw [HN.out]
    exact ⟨_, rfl, ⟨w.heap.size, w.heap.size, off_nil _ _ _, Nat.le_refl _, eF.size⟩, eF⟩
  | true =>
    have Hbx := Lib.hid hb
    have qb3 := qb.ex x3
    have p0 := qb3.cell 0 (v := .int .i64 y.l) rfl
    have p1 := qb3.cell 1 (v := .int .i64 y.r) rfl
    have p2 := qb3.cell 2 (v := .slice B y.b.length d) rfl
    clear hb
    go_wp2_with fail
    clear p0 p1 p2
    refine (rrGood_c p y B d w3 (hd.1.ex (xx.trans x3))).mono ?_
    rintro e w4 ⟨b0, rfl, hb0, x4⟩
    obtain rfl := rrB_of hb0
    clear hb0
    have X4 := (xx.trans x3).trans x4
    have D4 := (d2.ex x3).ex x4
    have qa4 := (qa.ex x3).ex x4
    have qb4 := qb3.ex x4
    cases hb : rrB p y with
    | false =>
      have HN := Lib.hid (tenU_no (p := p) (x := x) (y := y) (fun h => by have := h.2.1; rw [hb] at this; cases this))
      clear hb
      have dz := D4
      have xz := X4
      obtain ⟨dd, zz⟩ := dz.st3 (.int .i64 0) (.int .i64 0) (.slice none 0 0)
      have u0 := dz.cell 0 (v := .int .i64 0) rfl
      have u1 := dz.cell 1 (v := .int .i64 0) rfl
      have u2 := dz.cell 2 (v := .slice none 0 0) rfl
      have k0 := dz.frozen 0
      have k1 := dz.frozen 1
      have k2 := dz.frozen 2
      have C0 := dd.cell 0 (v := .int .i64 0) rfl
      have C1 := dd.cell 1 (v := .int .i64 0) rfl
      have C2 := dd.cell 2 (v := .slice none 0 0) rfl
      have eF := xz.ex1 zz (by omega)
      go_wp2_with fail
      refine bodyPost_ret (v := .tuple #[.agg #[.int .i64 0, .int .i64 0, .slice none 0 0], .bool false]) (by simp [results, Tryz.results26, go_sem, C0, C1, C2]) rfl ?_
      rw [HN.out]
      exact ⟨_, rfl, ⟨w.heap.size, w.heap.size, off_nil _ _ _, Nat.le_refl _, eF.size⟩, eF⟩
    | true =>
      have Hby := Lib.hid hb
      have Ha0 := rrB_pos Hbx.out
      have Hb0 := rrB_pos Hby.out
      obtain ⟨al, ar, hal, har, halr, hga, hwa, _, hla, hF⟩ := rrB_has Hbx.out
      obtain ⟨bl, br, hbl, hbr, hblr, hgb, hwb, _, hlb, _⟩ := rrB_has Hby.out
      have p0 := qa4.cell 0 (v := .int .i64 x.l) rfl
      have p1 := qa4.cell 1 (v := .int .i64 x.r) rfl
      have p2 := qa4.cell 2 (v := .slice A x.b.length c) rfl
      have p3 := qb4.cell 0 (v := .int .i64 y.l) rfl
      have p4 := qb4.cell 1 (v := .int .i64 y.r) rfl
      have p5 := qb4.cell 2 (v := .slice B y.b.length d) rfl
      rw [hal] at p0
      rw [har] at p1
      rw [hbl] at p3
      rw [hbr] at p4
      have hs1 : IntKind.i64.wrap ((al : Int) + (ar : Int)) = ((al + ar : Nat) : Int) := by rw [IntWalk.i64_in _ (by omega)]; omega
      have hs2 : IntKind.i64.wrap (((al + ar : Nat) : Int) + (bl : Int)) = ((al + ar + bl : Nat) : Int) := by rw [IntWalk.i64_in _ (by omega)]; omega
      have hs3 : IntKind.i64.wrap (((al + ar + bl : Nat) : Int) + (br : Int)) = ((al + ar + bl + br : Nat) : Int) := by rw [IntWalk.i64_in _ (by omega)]; omega
      obtain ⟨s1, hs1'⟩ : ∃ s, al + ar = s := ⟨_, rfl⟩
      rw [hs1'] at hs1 hs2 hs3
      obtain ⟨s2, hs2'⟩ : ∃ s, s1 + bl = s := ⟨_, rfl⟩
      rw [hs2'] at hs2 hs3
      obtain ⟨s3, hs3'⟩ : ∃ s, s2 + br = s := ⟨_, rfl⟩
      rw [hs3'] at hs3
      have HS3 := Lib.hid (show s3 = al + ar + bl + br by omega)
      clear hb hs1' hs2' hs3'
      by_cases h12 : s3 ≤ 12
      case neg =>
        have HN := Lib.hid (tenU_no (p := p) (x := x) (y := y) (fun h => h12 (by have := h.2.2; have := HS3.out; omega)))
        have hgt2 : (12 : Int) < (s3 : Int) := by omega
        have hgt3 : 12 < s3 := by omega
        clear hga hwa hgb hwb hF Ha0 Hb0
        have dz := D4
        have xz := X4
        obtain ⟨dd, zz⟩ := dz.st3 (.int .i64 0) (.int .i64 0) (.slice none 0 0)
        have u0 := dz.cell 0 (v := .int .i64 0) rfl
        have u1 := dz.cell 1 (v := .int .i64 0) rfl
        have u2 := dz.cell 2 (v := .slice none 0 0) rfl
        have k0 := dz.frozen 0
        have k1 := dz.frozen 1
        have k2 := dz.frozen 2
        have C0 := dd.cell 0 (v := .int .i64 0) rfl
        have C1 := dd.cell 1 (v := .int .i64 0) rfl
        have C2 := dd.cell 2 (v := .slice none 0 0) rfl
        have eF := xz.ex1 zz (by omega)
        go_wp2_with fail
        refine bodyPost_ret (v := .tuple #[.agg #[.int .i64 0, .int .i64 0, .slice none 0 0], .bool false]) (by simp [results, Tryz.results26, go_sem, C0, C1, C2]) rfl ?_
        rw [HN.out]
        exact ⟨_, rfl, ⟨w.heap.size, w.heap.size, off_nil _ _ _, Nat.le_refl _, eF.size⟩, eF⟩
      have hgt2 : ¬ (12 : Int) < (s3 : Int) := by omega
      have hgt3 : ¬ 12 < s3 := by omega
      have hsum : (al + bl) + (ar + br) ≤ 12 := by have := HS3.out; omega
      have cC := rrTensor_c p al ar bl br x.b y.b A B c d w4 (hc.ex X4) (hd.ex X4) hla hlb hsum hwa hwb Ha0 Hb0 hF hga hgb
      have HG := Lib.hid (show tenU p x y = ifU p ⟨((al + bl : Nat) : Int), ((ar + br : Nat) : Int), (frOps p).rref ((al + bl) + (ar + br)) (tenR al ar bl br x.b y.b)⟩ by
        rw [tenU_yes ⟨Hbx.out, Hby.out, by rw [hal, har, hbl, hbr]; have := HS3.out; omega⟩, hal, har, hbl, hbr, show (al : Int) + (bl : Int) = ((al + bl : Nat) : Int) by omega, show (ar : Int) + (br : Int) = ((ar + br : Nat) : Int) by omega]
        exact genU_nat p (al + bl) (ar + br) _)
      clear hga hwa hgb hwb hF Ha0 Hb0 hsum
      obtain ⟨RR, hRR⟩ : ∃ RR, (frOps p).rref ((al + bl) + (ar + br)) (tenR al ar bl br x.b y.b) = RR := ⟨_, rfl⟩
      rw [hRR] at cC HG
      clear hRR
      obtain ⟨NL, hNL⟩ : ∃ NL, al + bl = NL := ⟨_, rfl⟩
      obtain ⟨NR, hNR⟩ : ∃ NR, ar + br = NR := ⟨_, rfl⟩
      rw [hNL, hNR] at cC HG
      clear hNL hNR
      go_wp2_with fail
      refine cC.mono ?_
      rintro e w5 ⟨A5, c5, rfl, r5, x5⟩
      clear cC p0 p1 p2 p3 p4 p5 hs1 hs2 hs3
      go_wp2_with fail
      have cI := rrIf_c p ⟨NL, NR, RR⟩ A5 c5 w5 r5
      obtain ⟨⟨⟨rl, rr, rb⟩, bb⟩, hRES⟩ : ∃ RES, ifU p ⟨NL, NR, RR⟩ = RES := ⟨_, rfl⟩
      have HE := Lib.hid (HG.out.trans hRES)
      rw [hRES] at cI
      dsimp only at cI
      clear HG hRES
      refine cI.mono ?_
      clear cI
      rintro e w6 ⟨A6, c6, rfl, r6, x6⟩
      dsimp only at r6 ⊢
      have hzy := ((x3.trans x4).trans x5).size
      have hlt := d2.lt
      have dz := (D4.ex x5).ex x6
      have xz := (X4.trans x5).trans x6
      obtain ⟨dd, zz⟩ := dz.st3 (.int .i64 rl) (.int .i64 rr) (.slice A6 rb.length c6)
      have u0 := dz.cell 0 (v := .int .i64 0) rfl
      have u1 := dz.cell 1 (v := .int .i64 0) rfl
      have u2 := dz.cell 2 (v := .slice none 0 0) rfl
      have k0 := dz.frozen 0
      have k1 := dz.frozen 1
      have k2 := dz.frozen 2
      have C0 := dd.cell 0 (v := .int .i64 rl) rfl
      have C1 := dd.cell 1 (v := .int .i64 rr) rfl
      have C2 := dd.cell 2 (v := .slice A6 rb.length c6) rfl
      have eF := xz.ex1 zz (by omega)
      have hst := r6 _ ((ExI.of_ex1 zz).widen (Nat.zero_le _) (by omega))
      go_wp2_with fail
      refine bodyPost_ret (v := .tuple #[.agg #[.int .i64 rl, .int .i64 rr, .slice A6 rb.length c6], .bool bb]) (by simp [results, Tryz.results26, go_sem, C0, C1, C2]) rfl ?_
      have ht := HT.out
      rw [HE.out] at ht ⊢
      exact ⟨_, rfl, ⟨_, _, (hst.2.more (a' := w.heap.size) (b' := w6.heap.size) (by have := X4.size; have := x5.size; omega) (Nat.le_refl _)).off ht, Nat.le_refl _, Nat.le_of_eq (by simp)⟩, eF⟩
set_option maxHeartbeats 8000000 in
theorem TensorRational_u (p : Int) (x y : RRel) (v0 v1 : Value) (w : World) (hX : RRRelc w v0 x) (hY : RRRelc w v1 y) (ht : Tb w) :
    Calls Tryz.prog 27 #[.int .i64 p, .agg #[.int .i64 x.l, .int .i64 x.r, v0], .agg #[.int .i64 y.l, .int .i64 y.r, v1]] w fun e w' => ∃ y0, e = .returned (.tuple #[.agg #[.int .i64 (tenU p x y).1.l, .int .i64 (tenU p x y).1.r, y0], .bool (tenU p x y).2]) ∧ ORRel w' w.heap.size w'.heap.size y0 (tenU p x y).1 ∧ Ex w w' := by
  obtain ⟨hx0, A, c, rfl, hc⟩ := hX
  obtain ⟨hy0, B, d, rfl, hd⟩ := hY
  have y0 := (Ex.refl w).alloc (.cells #[.int .i64 x.l, .int .i64 x.r, .slice A x.b.length c] 32)
  have d0 := VB.new w 32 #[.int .i64 x.l, .int .i64 x.r, .slice A x.b.length c]
  have S0 := Lib.hid (show (w.alloc (.cells #[.int .i64 x.l, .int .i64 x.r, .slice A x.b.length c] 32)).heap.size = w.heap.size + 1 by simp)
  go_enter Tryz.func27, Tryz.ntmps27
  go_wp2_with fail
  generalize w.alloc (.cells #[.int .i64 x.l, .int .i64 x.r, .slice A x.b.length c] 32) = W0 at *
  have y1 := (Ex.refl W0).alloc (.cells #[.int .i64 y.l, .int .i64 y.r, .slice B y.b.length d] 32)
  have d1 := VB.new W0 32 #[.int .i64 y.l, .int .i64 y.r, .slice B y.b.length d]
  have S1 := Lib.hid (show (W0.alloc (.cells #[.int .i64 y.l, .int .i64 y.r, .slice B y.b.length d] 32)).heap.size = w.heap.size + 1 + 1 by simp; exact S0.out)
  rw [S0.out] at d1
  generalize W0.alloc (.cells #[.int .i64 y.l, .int .i64 y.r, .slice B y.b.length d] 32) = W1 at *
  have y2 := (Ex.refl W1).alloc (.cells #[.int .i64 0, .int .i64 0, .slice none 0 0] 32)
  have d2 := VB.new W1 32 #[.int .i64 0, .int .i64 0, .slice none 0 0]
  rw [S1.out] at d2
  have qa := (d0.ex y1).ex y2
  have qb := d1.ex y2
  generalize W1.alloc (.cells #[.int .i64 0, .int .i64 0, .slice none 0 0] 32) = W2 at *
  have xx := (y0.trans y1).trans y2
  clear y0 y1 y2 d0 d1 S0 S1

  refine (IsRatRelation_u p x (.slice A x.b.length c) W2 (hx0.ex xx) (ht.ex xx)).mono ?_
  rintro e w3 ⟨rfl, x3⟩
  cases hb : rrB p x with
  | false =>
    have HN := Lib.hid (tenU_no (p := p) (x := x) (y := y) (fun h => by have := h.1; rw [hb] at this; cases this))
    clear hb
    have dz := d2.ex x3
    have xz := xx.trans x3
    obtain ⟨dd, zz⟩ := dz.st3 (.int .i64 0) (.int .i64 0) (.slice none 0 0)
    have u0 := dz.cell 0 (v := .int .i64 0) rfl
    have u1 := dz.cell 1 (v := .int .i64 0) rfl
    have u2 := dz.cell 2 (v := .slice none 0 0) rfl
    have k0 := dz.frozen 0
    have k1 := dz.frozen 1
    have k2 := dz.frozen 2
    have C0 := dd.cell 0 (v := .int .i64 0) rfl
    have C1 := dd.cell 1 (v := .int .i64 0) rfl
    have C2 := dd.cell 2 (v := .slice none 0 0) rfl
    have eF := xz.ex1 zz (by omega)
    go_wp2_with fail
    refine bodyPost_ret (v := .tuple #[.agg #[.int .i64 0, .int .i64 0, .slice none 0 0], .bool false]) (by simp [results, Tryz.results27, go_sem, C0, C1, C2]) rfl ?_
    rw [HN.out]
    exact ⟨_, rfl, ⟨w.heap.size, w.heap.size, off_nil _ _ _, Nat.le_refl _, eF.size⟩, eF⟩
  | true =>
    have Hbx := Lib.hid hb
    have qb3 := qb.ex x3
    have p0 := qb3.cell 0 (v := .int .i64 y.l) rfl
    have p1 := qb3.cell 1 (v := .int .i64 y.r) rfl
    have p2 := qb3.cell 2 (v := .slice B y.b.length d) rfl
    clear hb
    go_wp2_with fail
    clear p0 p1 p2
    refine (IsRatRelation_u p y (.slice B y.b.length d) w3 (hy0.ex (xx.trans x3)) (ht.ex (xx.trans x3))).mono ?_
    rintro e w4 ⟨rfl, x4⟩
    have X4 := (xx.trans x3).trans x4
    have D4 := (d2.ex x3).ex x4
    have qa4 := (qa.ex x3).ex x4
    have qb4 := qb3.ex x4
    cases hb : rrB p y with
    | false =>
      have HN := Lib.hid (tenU_no (p := p) (x := x) (y := y) (fun h => by have := h.2.1; rw [hb] at this; cases this))
      clear hb
      have dz := D4
      have xz := X4
      obtain ⟨dd, zz⟩ := dz.st3 (.int .i64 0) (.int .i64 0) (.slice none 0 0)
      have u0 := dz.cell 0 (v := .int .i64 0) rfl
      have u1 := dz.cell 1 (v := .int .i64 0) rfl
      have u2 := dz.cell 2 (v := .slice none 0 0) rfl
      have k0 := dz.frozen 0
      have k1 := dz.frozen 1
      have k2 := dz.frozen 2
      have C0 := dd.cell 0 (v := .int .i64 0) rfl
      have C1 := dd.cell 1 (v := .int .i64 0) rfl
      have C2 := dd.cell 2 (v := .slice none 0 0) rfl
      have eF := xz.ex1 zz (by omega)
      go_wp2_with fail
      refine bodyPost_ret (v := .tuple #[.agg #[.int .i64 0, .int .i64 0, .slice none 0 0], .bool false]) (by simp [results, Tryz.results27, go_sem, C0, C1, C2]) rfl ?_
      rw [HN.out]
      exact ⟨_, rfl, ⟨w.heap.size, w.heap.size, off_nil _ _ _, Nat.le_refl _, eF.size⟩, eF⟩
    | true =>
      have Hby := Lib.hid hb
      have Ha0 := rrB_pos Hbx.out
      have Hb0 := rrB_pos Hby.out
      obtain ⟨al, ar, hal, har, halr, hga, hwa, _, hla, hF⟩ := rrB_has Hbx.out
      obtain ⟨bl, br, hbl, hbr, hblr, hgb, hwb, _, hlb, _⟩ := rrB_has Hby.out
      have p0 := qa4.cell 0 (v := .int .i64 x.l) rfl
      have p1 := qa4.cell 1 (v := .int .i64 x.r) rfl
      have p2 := qa4.cell 2 (v := .slice A x.b.length c) rfl
      have p3 := qb4.cell 0 (v := .int .i64 y.l) rfl
      have p4 := qb4.cell 1 (v := .int .i64 y.r) rfl
      have p5 := qb4.cell 2 (v := .slice B y.b.length d) rfl
      rw [hal] at p0
      rw [har] at p1
      rw [hbl] at p3
      rw [hbr] at p4
      have hs1 : IntKind.i64.wrap ((al : Int) + (bl : Int)) = ((al + bl : Nat) : Int) := by rw [IntWalk.i64_in _ (by omega)]; omega
      have hs2 : IntKind.i64.wrap ((ar : Int) + (br : Int)) = ((ar + br : Nat) : Int) := by rw [IntWalk.i64_in _ (by omega)]; omega
      have cF : ∀ W, Calls Tryz.prog 52 #[.int .i64 ((al + bl : Nat) : Int), .int .i64 ((ar + br : Nat) : Int)] W fun e w' => e = .returned (.bool (decide ((al + bl) + (ar + br) ≤ 12))) ∧ W = w' := fun W => by have := ratFits_c ((al + bl : Nat) : Int) ((ar + br : Nat) : Int) W; rwa [fit_sum] at this
      by_cases h12 : (al + bl) + (ar + br) ≤ 12
      case neg =>
        have HN := Lib.hid (tenU_no (p := p) (x := x) (y := y) (fun h => h12 (by have := h.2.2; omega)))
        rw [decide_eq_false h12] at cF
        clear hga hwa hgb hwb hF Ha0 Hb0 hb h12
        obtain ⟨NL, hNL⟩ : ∃ NL, al + bl = NL := ⟨_, rfl⟩
        obtain ⟨NR, hNR⟩ : ∃ NR, ar + br = NR := ⟨_, rfl⟩
        rw [hNL, hNR] at cF
        rw [hNL] at hs1
        rw [hNR] at hs2
        clear hNL hNR
        go_wp2_with fail
        refine (cF _).mono ?_
        rintro e w5 ⟨rfl, rfl⟩
        clear hs1 hs2 p0 p1 p2 p3 p4 p5
        have dz := D4
        have xz := X4
        obtain ⟨dd, zz⟩ := dz.st3 (.int .i64 0) (.int .i64 0) (.slice none 0 0)
        have u0 := dz.cell 0 (v := .int .i64 0) rfl
        have u1 := dz.cell 1 (v := .int .i64 0) rfl
        have u2 := dz.cell 2 (v := .slice none 0 0) rfl
        have k0 := dz.frozen 0
        have k1 := dz.frozen 1
        have k2 := dz.frozen 2
        have C0 := dd.cell 0 (v := .int .i64 0) rfl
        have C1 := dd.cell 1 (v := .int .i64 0) rfl
        have C2 := dd.cell 2 (v := .slice none 0 0) rfl
        have eF := xz.ex1 zz (by omega)
        go_wp2_with fail
        refine bodyPost_ret (v := .tuple #[.agg #[.int .i64 0, .int .i64 0, .slice none 0 0], .bool false]) (by simp [results, Tryz.results27, go_sem, C0, C1, C2]) rfl ?_
        rw [HN.out]
        exact ⟨_, rfl, ⟨w.heap.size, w.heap.size, off_nil _ _ _, Nat.le_refl _, eF.size⟩, eF⟩
      rw [decide_eq_true h12] at cF
      have cC := ratTensor_c p al ar bl br x.b y.b A B c d w4 (hc.ex X4) (hd.ex X4) hla hlb h12 hwa hwb Ha0 Hb0 hF hga hgb
      have HG := Lib.hid (show tenU p x y = ifU p ⟨((al + bl : Nat) : Int), ((ar + br : Nat) : Int), (frOps p).rref ((al + bl) + (ar + br)) (tenR al ar bl br x.b y.b)⟩ by
        rw [tenU_yes ⟨Hbx.out, Hby.out, by rw [hal, har, hbl, hbr]; omega⟩, hal, har, hbl, hbr, show (al : Int) + (bl : Int) = ((al + bl : Nat) : Int) by omega, show (ar : Int) + (br : Int) = ((ar + br : Nat) : Int) by omega]
        exact genU_nat p (al + bl) (ar + br) _)
      have HV := Lib.hid (genU_vr (l := al + bl) (r := ar + br) hF (tenR_gd (al := al) (ar := ar) (bl := bl) (br := br) hF (by omega) hga hgb) (tenR_wid hwa hwb))
      clear hga hwa hgb hwb hF Ha0 Hb0 h12 hb
      obtain ⟨RR, hRR⟩ : ∃ RR, (frOps p).rref ((al + bl) + (ar + br)) (tenR al ar bl br x.b y.b) = RR := ⟨_, rfl⟩
      rw [hRR] at cC HG HV
      clear hRR
      obtain ⟨NL, hNL⟩ : ∃ NL, al + bl = NL := ⟨_, rfl⟩
      obtain ⟨NR, hNR⟩ : ∃ NR, ar + br = NR := ⟨_, rfl⟩
      rw [hNL, hNR] at cC HG HV cF
      rw [hNL] at hs1
      rw [hNR] at hs2
      clear hNL hNR
      go_wp2_with fail
      refine (cF _).mono ?_
      rintro e w5 ⟨rfl, rfl⟩
      clear cF
      go_wp2_with fail
      refine cC.mono ?_
      rintro e w5 ⟨y5, rfl, fx, x5⟩
      obtain ⟨A5, c5, rfl, r5⟩ := fx.rd
      clear cC p0 p1 p2 p3 p4 p5 hs1 hs2
      have cV := validRat_c p ⟨NL, NR, RR⟩ A5 c5 w5 r5 (ht.ex (X4.trans x5))
      dsimp only at cV
      have hlt := d2.lt
      have hz3 := (x3.trans x4).size
      have hzw := xx.size
      cases hv : vrB p NL NR RR with
      | false =>
        rw [hv] at cV
        have HN := Lib.hid (show tenU p x y = (⟨0, 0, []⟩, false) by rw [HG.out]; exact ifU_no (HV.out.trans hv))
        rw [show pickV false (Value.agg #[.int .i64 (NL : Int), .int .i64 (NR : Int), .slice A5 RR.length c5]) (Value.agg #[.int .i64 0, .int .i64 0, .slice none 0 0]) = Value.agg #[.int .i64 0, .int .i64 0, .slice none 0 0] from rfl] at cV
        clear hv
        go_wp2_with fail
        refine cV.mono ?_
        rintro e w6 ⟨rfl, x6⟩
        clear cV
        have dz := (D4.ex x5).ex x6
        have xz := (X4.trans x5).trans x6
        obtain ⟨dd, zz⟩ := dz.st3 (.int .i64 0) (.int .i64 0) (.slice none 0 0)
        have u0 := dz.cell 0 (v := .int .i64 0) rfl
        have u1 := dz.cell 1 (v := .int .i64 0) rfl
        have u2 := dz.cell 2 (v := .slice none 0 0) rfl
        have k0 := dz.frozen 0
        have k1 := dz.frozen 1
        have k2 := dz.frozen 2
        have C0 := dd.cell 0 (v := .int .i64 0) rfl
        have C1 := dd.cell 1 (v := .int .i64 0) rfl
        have C2 := dd.cell 2 (v := .slice none 0 0) rfl
        have eF := xz.ex1 zz (by omega)
        go_wp2_with fail
        refine bodyPost_ret (v := .tuple #[.agg #[.int .i64 0, .int .i64 0, .slice none 0 0], .bool false]) (by simp [results, Tryz.results27, go_sem, C0, C1, C2]) rfl ?_
        rw [HN.out]
        exact ⟨_, rfl, ⟨w.heap.size, w.heap.size, off_nil _ _ _, Nat.le_refl _, eF.size⟩, eF⟩
      | true =>
        rw [hv] at cV
        have hrr := HV.out.trans hv
        have HE := Lib.hid (show tenU p x y = (⟨NL, NR, RR⟩, true) by rw [HG.out]; exact ifU_yes hrr)
        have htt : totFF RR ≤ 1125899906842624 := by have h1 := rrB_tot hrr; dsimp only at h1; omega
        rw [show pickV true (Value.agg #[.int .i64 (NL : Int), .int .i64 (NR : Int), .slice A5 RR.length c5]) (Value.agg #[.int .i64 0, .int .i64 0, .slice none 0 0]) = Value.agg #[.int .i64 (NL : Int), .int .i64 (NR : Int), .slice A5 RR.length c5] from rfl] at cV
        clear hv hrr
        go_wp2_with fail
        refine cV.mono ?_
        rintro e w6 ⟨rfl, x6⟩
        clear cV
        have dz := (D4.ex x5).ex x6
        have xz := (X4.trans x5).trans x6
        obtain ⟨dd, zz⟩ := dz.st3 (.int .i64 NL) (.int .i64 NR) (.slice A5 RR.length c5)
        have u0 := dz.cell 0 (v := .int .i64 0) rfl
        have u1 := dz.cell 1 (v := .int .i64 0) rfl
        have u2 := dz.cell 2 (v := .slice none 0 0) rfl
        have k0 := dz.frozen 0
        have k1 := dz.frozen 1
        have k2 := dz.frozen 2
        have C0 := dd.cell 0 (v := .int .i64 NL) rfl
        have C1 := dd.cell 1 (v := .int .i64 NR) rfl
        have C2 := dd.cell 2 (v := .slice A5 RR.length c5) rfl
        have eF := xz.ex1 zz (by omega)
        have fx2 := (fx.ex x6).iv (ExI.of_ex1 zz) (by omega)
        have hz6 := x6.size
        have fx3 := (fx2.more (a' := w.heap.size) (b' := w6.heap.size) (by omega) hz6).off htt
        go_wp2_with fail
        refine bodyPost_ret (v := .tuple #[.agg #[.int .i64 NL, .int .i64 NR, .slice A5 RR.length c5], .bool true]) (by simp [results, Tryz.results27, go_sem, C0, C1, C2]) rfl ?_
        rw [HE.out]
        exact ⟨_, rfl, ⟨_, _, fx3, Nat.le_refl _, Nat.le_of_eq (by simp)⟩, eF⟩
end Go.Proofs.YtpeogfapnofeoaaGreatDoor
