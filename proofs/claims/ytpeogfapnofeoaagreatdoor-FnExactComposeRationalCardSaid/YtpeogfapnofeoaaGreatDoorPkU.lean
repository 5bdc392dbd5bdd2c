/- RatFunctionOf: the program: rows of noughts and unit rows, the matrix of a relation. Rows put together by append, piece by piece; rows of noughts of the reference. The juxtaposition of rational relations: the reference. Printed by a program of mine. The juxtaposition of rational relations: the program. Printed by a program of mine. TensorRational on both sides, in the uniform words. Printed by a program of mine. -/
import Derived.Test.YtpeogfapnofeoaaGreatDoorPkT
import Derived.Test.YtpeogfapnofeoaaGreatDoorRtM
import Derived.Deep.RegionWith
namespace Go.Proofs.YtpeogfapnofeoaaGreatDoor
set_option maxRecDepth 100000
open Go Go.RowKit
set_option maxHeartbeats 1000000 in
theorem const0_c (w : World) : Calls Tryz.prog 76 #[.int .i64 0] w fun e w' => FFx w zF e w' := by
  go_enter Tryz.func76, Tryz.ntmps76
  go_wp2_with fail
  have x1 := (Ex.refl w).alloc (.cells #[.slice (some ⟨w.heap.size + 1, 0, none⟩) 0 0, .slice (some ⟨w.heap.size + 1 + 1, 0, none⟩) 1 1] 58)
  have v1 := VB.new w 58 #[.slice (some ⟨w.heap.size + 1, 0, none⟩) 0 0, .slice (some ⟨w.heap.size + 1 + 1, 0, none⟩) 1 1]
  have s1 : (w.alloc (.cells #[.slice (some ⟨w.heap.size + 1, 0, none⟩) 0 0, .slice (some ⟨w.heap.size + 1 + 1, 0, none⟩) 1 1] 58)).heap.size = w.heap.size + 1 := by simp
  generalize w.alloc (.cells #[.slice (some ⟨w.heap.size + 1, 0, none⟩) 0 0, .slice (some ⟨w.heap.size + 1 + 1, 0, none⟩) 1 1] 58) = W1 at *
  have x2 := ((Ex.refl W1).alloc (iObj [])).alloc (iObj [1])
  have o1 := (Own.new W1 []).ex ((Ex.refl (W1.alloc (iObj []))).alloc (iObj [1]))
  have o2 := Own.new (W1.alloc (iObj [])) [1]
  have s2 : (W1.alloc (iObj [])).heap.size = w.heap.size + 1 + 1 := by simp [s1]
  rw [s2] at o2
  rw [s1] at o1
  have v2 := v1.ex x2
  have d0 := v2.cell 0 (v := .slice (some ⟨w.heap.size + 1, 0, none⟩) 0 0) rfl
  have d1 := v2.cell 1 (v := .slice (some ⟨w.heap.size + 1 + 1, 0, none⟩) 1 1) rfl
  change bodyPost _ _ _ _ _ ((W1.alloc (iObj [])).alloc (iObj [1]))
  generalize (W1.alloc (iObj [])).alloc (iObj [1]) = W2 at *
  refine bodyPost_ret (v := .agg #[.slice (some ⟨w.heap.size + 1, 0, none⟩) 0 0, .slice (some ⟨w.heap.size + 1 + 1, 0, none⟩) 1 1]) (by simp [results, Tryz.results76, go_sem, d0, d1]) rfl ?_
  exact ⟨_, _, _, _, rfl, o1.fr (by simp) (by omega) (by simp), o2.fr (by simp) (by omega) (by simp), apart_ne (by omega), x1.trans x2⟩
theorem const1_c (w : World) : Calls Tryz.prog 76 #[.int .i64 1] w fun e w' => FFx w oF e w' := constK_c 1 (by omega) w
theorem nought_c (w : World) : Calls Tryz.prog 114 #[] w fun e w' => FFx w zF e w' := by
  have x1 := (Ex.refl w).alloc (.cells #[.slice none 0 0, .slice none 0 0] 58)
  have v1 := VB.new w 58 #[.slice none 0 0, .slice none 0 0]
  have s1 : (w.alloc (.cells #[.slice none 0 0, .slice none 0 0] 58)).heap.size = w.heap.size + 1 := by simp
  go_enter Tryz.func114, Tryz.ntmps114
  go_wp2_with fail
  generalize w.alloc (.cells #[.slice none 0 0, .slice none 0 0] 58) = W1 at *
  refine (const0_c W1).mono ?_
  rintro e w3 ⟨A3, c3, B3, d3, rfl, f3, g3, ap, x3⟩
  have v3 := v1.ex x3
  obtain ⟨dd, zz⟩ := v3.st2 (.slice A3 zF.n.length c3) (.slice B3 zF.d.length d3)
  have r0 := v3.cell 0 (v := .slice none 0 0) rfl
  have r1 := v3.cell 1 (v := .slice none 0 0) rfl
  have k0 := v3.frozen 0
  have k1 := v3.frozen 1
  have C0 := dd.cell 0 (v := .slice A3 zF.n.length c3) rfl
  have C1 := dd.cell 1 (v := .slice B3 zF.d.length d3) rfl
  have f4 := (f3.ex1 zz (f3.hi.off (by omega))).more (B' := w.heap.size) (by omega)
  have g4 := (g3.ex1 zz (g3.hi.off (by omega))).more (B' := w.heap.size) (by omega)
  have eF := (x1.trans x3).ex1 zz (Nat.le_refl _)
  go_wp2_with fail
  refine bodyPost_ret (v := .agg #[.slice A3 zF.n.length c3, .slice B3 zF.d.length d3]) (by simp [results, Tryz.results114, go_sem, C0, C1]) rfl ?_
  exact ⟨A3, c3, B3, d3, rfl, f4, g4, ap, eF⟩
theorem unity_c (w : World) : Calls Tryz.prog 143 #[] w fun e w' => FFx w oF e w' := by
  have x1 := (Ex.refl w).alloc (.cells #[.slice none 0 0, .slice none 0 0] 58)
  have v1 := VB.new w 58 #[.slice none 0 0, .slice none 0 0]
  have s1 : (w.alloc (.cells #[.slice none 0 0, .slice none 0 0] 58)).heap.size = w.heap.size + 1 := by simp
  go_enter Tryz.func143, Tryz.ntmps143
  go_wp2_with fail
  generalize w.alloc (.cells #[.slice none 0 0, .slice none 0 0] 58) = W1 at *
  refine (const1_c W1).mono ?_
  rintro e w3 ⟨A3, c3, B3, d3, rfl, f3, g3, ap, x3⟩
  have v3 := v1.ex x3
  obtain ⟨dd, zz⟩ := v3.st2 (.slice A3 oF.n.length c3) (.slice B3 oF.d.length d3)
  have r0 := v3.cell 0 (v := .slice none 0 0) rfl
  have r1 := v3.cell 1 (v := .slice none 0 0) rfl
  have k0 := v3.frozen 0
  have k1 := v3.frozen 1
  have C0 := dd.cell 0 (v := .slice A3 oF.n.length c3) rfl
  have C1 := dd.cell 1 (v := .slice B3 oF.d.length d3) rfl
  have f4 := (f3.ex1 zz (f3.hi.off (by omega))).more (B' := w.heap.size) (by omega)
  have g4 := (g3.ex1 zz (g3.hi.off (by omega))).more (B' := w.heap.size) (by omega)
  have eF := (x1.trans x3).ex1 zz (Nat.le_refl _)
  go_wp2_with fail
  refine bodyPost_ret (v := .agg #[.slice A3 oF.n.length c3, .slice B3 oF.d.length d3]) (by simp [results, Tryz.results143, go_sem, C0, C1]) rfl ?_
  exact ⟨A3, c3, B3, d3, rfl, f4, g4, ap, eF⟩
set_option maxHeartbeats 2000000 in
theorem noughts_c (n : Nat) (hn : n ≤ 1000) (w : World) :
    Calls Tryz.prog 85 #[.int .i64 n] w fun e w' => ∃ v, e = .returned v ∧ RowF w' w.heap.size w'.heap.size v (List.replicate n zF) ∧ Ex w w' := by
  have ge0 := GE.empty ELF 58 w (Nat.le_refl w.heap.size)
  have he1 := (Ex.refl w).alloc (.cells #[] 58)
  have hs1 : (w.alloc (.cells #[] 58)).heap.size = w.heap.size + 1 := by simp
  go_enter Tryz.func85, Tryz.ntmps85
  go_wp2_with fail
  go_loopw [3, 6] (fun o i wr => ∃ k : Nat, k ≤ n ∧ i = .int .i64 k ∧ GE ELF 58 wr w.heap.size wr.heap.size o (List.replicate k zF) ∧ o ≠ .slice none 0 0 ∧ Ex w wr) (fun _ i _ => n - (intOf i).toNat)
  case atStart => exact ⟨0, Nat.zero_le _, rfl, by rw [hs1]; exact ge0, by simp, he1⟩
  case round =>
    clear ge0 he1 hs1
    obtain ⟨k, hk, rfl, hge, hnn, he⟩ := hrel
    by_cases hlt : k < n
    · have HT := Lib.hid (show List.replicate (k + 1) zF = List.replicate k zF ++ [zF] by rw [List.replicate_succ'])
      have hz := he.size
      go_wp2_with fail
      refine (nought_c _).mono ?_
      rintro e w3 ⟨A3, c3, B3, d3, rfl, f3, p3, ap3, x3⟩
      have hz3 := x3.size
      obtain ⟨v', w4, hrun, hge4, _, hnn4, hE4⟩ := push_frac (hge.ex x3) hz3 (ofra_of_fr (x := zF) f3 p3 ap3 hz3) (Nat.le_refl _) hz3 (Nat.le_refl _) hz (by simp; omega)
      rw [← HT.out] at hge4
      have he4 := hE4 w (he.trans x3) (Nat.le_refl _)
      clear hE4 HT
      go_wp2_with (at_builtin; refine wpList_append_run rfl _ _ _ rfl rfl rfl hrun ?_)
      go_roundw
      case rel => exact ⟨k + 1, by omega, by go_num, hge4, hnn4, he4⟩
      case measure => simp [intOf]; omega
    · obtain rfl : k = n := by omega
      go_wp2_with fail
      go_ret
      exact ⟨_, rfl, ⟨hnn, hge⟩, he⟩
end Go.Proofs.YtpeogfapnofeoaaGreatDoor
namespace Go.Proofs.YtpeogfapnofeoaaGreatDoor
set_option maxRecDepth 100000
open Go Go.RowKit
theorem push_fracsX {Good : World → Prop} {w : World} {B H : Nat} {v : Value} {prs : List (Value × Value)} (h : GE ELW 58 w B H v prs) (hH : H ≤ w.heap.size) (hB : B ≤ H) (P : Option Addr) (c : Nat) (r : List Fra) (hr : RowQ Good w P r) (hl : prs.length + r.length ≤ 1099511627776) :
    ∃ v' w' prs2, (Builtin.append_ #[34, 34] 34 #[v, .slice P r.length c]).run Tryz.prog w = .ok v' w' ∧ GE ELW 58 w' B w'.heap.size v' (prs ++ prs2) ∧ prs2.length = r.length ∧
      (∀ (j : Nat) (x : Fra), r[j]? = some x → ∃ a b, prs2[j]? = some (a, b) ∧ ∀ w2, Good w2 → RFra w2 a b x) ∧ (ExO v.ownBlock w w' ∧ (v'.ownBlock = v.ownBlock ∨ v'.ownBlock = some w.heap.size)) ∧ ∀ b', Ex b' w → b'.heap.size ≤ B → Ex b' w' := by
  obtain ⟨i, hi, hz, hs, hby⟩ := info_parts fracInfo
  obtain ⟨ho, h1⟩ := ELW.row h
  have hown := h.own
  rcases P with _ | ad
  · have hx : r = [] := by
      cases r with
      | nil => rfl
      | cons x xs => obtain ⟨g, off, _, _, hA, _⟩ := hr.2 0 x rfl; cases hA
    subst hx
    refine ⟨v, w, [], ?_, by simpa using h.more (Nat.le_refl _) hH, rfl, fun j x hj => by simp at hj, ⟨ExO.refl _ _, .inl rfl⟩, fun b' hb _ => hb⟩
    rcases ho.2 with ⟨rfl, _⟩ | ⟨g, cap, cur, rfl, _, _, hnc, _⟩
    · simp [Builtin.append_, run_underlying Tryz.underlying34, sizeOf, typeInfo, hi, Builtin.lenOf, Builtin.firstCells]
    · simp [Builtin.append_, run_underlying Tryz.underlying34, sizeOf, typeInfo, hi, Builtin.lenOf, Builtin.firstCells, hnc, storeCells]
  · obtain ⟨prs2, k1, k2⟩ := choose_lstV (Q := fun j (p : Value × Value) => ∃ x g off, ad = ⟨g, off, none⟩ ∧ r[j]? = some x ∧ w.cell? ⟨g, off + j * 2, none⟩ = some p.1 ∧ w.cell? ⟨g, off + j * 2 + 1, none⟩ = some p.2 ∧ (∀ w2, Good w2 → RFra w2 p.1 p.2 x) ∧ p.1.oneCell' = true ∧ p.2.oneCell' = true) r.length (fun j hj => by
      obtain ⟨g, off, u, v, hA, q0, q1, o0, o1, hR⟩ := hr.2 j _ (List.getElem?_eq_getElem hj)
      injection hA with hA
      subst hA
      exact ⟨(u, v), r[j], g, off, rfl, List.getElem?_eq_getElem hj, q0, q1, hR, o0, o1⟩)
    have hnews : ∀ (q : Nat) (u : Value), (prs2.map pr2).flatten[q]? = some u → w.cell? (ad.add q) = some u := fun q u hu => by
      obtain ⟨j, i, p, rfl, hp, hi2⟩ := pr2_at hu
      obtain ⟨x, g, off, rfl, _, q0, q1, _⟩ := k2 j p hp
      have e : (⟨g, off, none⟩ : Addr).add (j * 2 + i) = ⟨g, off + (j * 2 + i), none⟩ := by unfold Addr.add; split <;> simp_all
      rw [e]
      rcases i with _ | _ | i
      · injection hi2 with hi2; subst hi2; exact q0
      · injection hi2 with hi2; subst hi2; exact q1
      · simp [pr2] at hi2
    have hone : ∀ p ∈ prs2, p.1.oneCell' = true ∧ p.2.oneCell' = true := fun p hp => by
      obtain ⟨j, hj⟩ := List.getElem?_of_mem hp
      obtain ⟨_, _, _, _, _, _, _, _, q⟩ := k2 j p hj
      exact q
    obtain ⟨v', w', hrun, h2, h3, _, h5⟩ := run_append_own_at (P := Tryz.prog) w B 34 34 58 i (.agg #[.slice none 0 0, .slice none 0 0]) 2 48 Tryz.underlying34 hi hz hs hby rfl (by omega) v prs.length _ ho ad r.length c (prs2.map pr2).flatten (by rw [pr2_len, k1]) hnews (by
      intro u hu
      obtain ⟨l, hl2, hu2⟩ := List.mem_flatten.1 hu
      obtain ⟨p, hp, rfl⟩ := List.mem_map.1 hl2
      simp [pr2] at hu2
      rcases hu2 with rfl | rfl
      · exact (hone p hp).1
      · exact (hone p hp).2) (by unfold maxLen; omega) (by omega) (by omega)
    have hsz := h3.size
    refine ⟨v', w', prs2, hrun, ELW.mk (by omega) (by rw [List.length_append, List.map_append, List.flatten_append, k1]; exact h2) (fun k e => World.ownsRow.lt h2 k e) (fun p hp => by
      rcases List.mem_append.1 hp with h4 | h4
      · exact h1 p h4
      · exact hone p h4), k1, fun j x hj => ?_, ⟨h3, h5⟩, fun b' hb hbB => hb.exo h3 (fun g e => by have := (hown g e).1; omega)⟩
    have hjl := (List.getElem?_eq_some_iff.1 hj).1
    have hp := List.getElem?_eq_getElem (show j < prs2.length by omega)
    obtain ⟨x', g, off, _, hx', _, _, hR, _⟩ := k2 j _ hp
    rw [hj] at hx'
    injection hx' with hx'
    subst hx'
    exact ⟨_, _, hp, hR⟩
theorem GE.rowQ {w : World} {B H n c : Nat} {P : Option Addr} {xs : List Fra} (h : GE ELF 58 w B H (.slice P n c) xs) (hl : xs.length ≤ 1099511627776) : RowQ (fun w2 => ∀ k, B ≤ k → k < H → k < w.heap.size → w2.heap[k]? = w.heap[k]?) w P xs := by
  refine ⟨hl, fun j x hj => ?_⟩
  by_cases hv : Value.slice P n c = .slice none 0 0
  · rw [hv] at h
    have := h.len0
    subst this
    simp at hj
  · obtain ⟨g, c', e, hgc, _⟩ := h.form hv
    rw [e] at h
    injection e with e1 e2 e3
    subst e1
    obtain ⟨cur, al, bl, _, hB, hH, hh, h1, h2⟩ := h.at_
    obtain ⟨u, k1, ⟨v0, v1, rfl, o⟩, k3, k4, _⟩ := h1 j x hj
    obtain ⟨A0, n0, c0, A1, n1, c1, e0, e1'⟩ := o.rd.form
    refine ⟨g, 0, v0, v1, rfl, ?_, ?_, by rw [e0]; rfl, by rw [e1']; rfl, fun w2 hw => (o.keep fun k q1 q2 q3 => hw k (by omega) (by omega) q3).rd⟩
    · have := k1 0 _ rfl
      rw [Nat.zero_add]
      exact cell_of_cur hh this
    · have := k1 1 _ rfl
      rw [Nat.zero_add]
      exact cell_of_cur hh this
/-- A row that is being put together since the heap had s blocks: it reads in all worlds that keep W0 and what has come since then, but for its own block. -/
def RP (W0 : World) (s : Nat) (w : World) (v : Value) (r : List Fra) : Prop :=
  ∃ prs : List (Value × Value), GE ELW 58 w s w.heap.size v prs ∧ prs.length = r.length ∧ ∀ (j : Nat) (x : Fra), r[j]? = some x → ∃ u z, prs[j]? = some (u, z) ∧ ∀ w2, Ex W0 w2 → (∀ k, s ≤ k → k < w.heap.size → v.ownBlock ≠ some k → w2.heap[k]? = w.heap[k]?) → RFra w2 u z x
theorem RP.ex {W0 w w' : World} {s : Nat} {v : Value} {r : List Fra} (h : RP W0 s w v r) (he : Ex w w') : RP W0 s w' v r := by
  obtain ⟨prs, h1, h2, h3⟩ := h
  refine ⟨prs, (h1.ex he).more (Nat.le_refl _) he.size, h2, fun j x hj => ?_⟩
  obtain ⟨u, z, q1, q2⟩ := h3 j x hj
  exact ⟨u, z, q1, fun w2 h0 hk => q2 w2 h0 fun k a1 a2 a3 => (hk k a1 (Nat.lt_of_lt_of_le a2 he.size) a3).trans (he.block a2)⟩
theorem RP.start (W0 w : World) : RP W0 w.heap.size (w.alloc (.cells #[] 58)) (.slice (some ⟨w.heap.size, 0, none⟩) 0 0) [] :=
  ⟨[], (GE.empty ELW 58 w (Nat.le_refl _)).more (Nat.le_refl _) (by simp), rfl, fun j x hj => by simp at hj⟩
theorem RP.form {W0 w : World} {s : Nat} {v : Value} {r : List Fra} (h : RP W0 s w v r) : ∃ A c, v = .slice A r.length c := by
  obtain ⟨prs, h1, h2, _⟩ := h
  obtain ⟨A, c, e⟩ := h1.nilv
  exact ⟨A, c, by rw [e, h2]⟩
theorem RP.push {W0 w : World} {s : Nat} {v : Value} {r : List Fra} (h : RP W0 s w v r) (hs : s ≤ w.heap.size) {Good : World → Prop} {P : Option Addr} {r2 : List Fra} (hr : RowQ Good w P r2) (hG : ∀ w2, Ex W0 w2 → (∀ k, s ≤ k → k < w.heap.size → v.ownBlock ≠ some k → w2.heap[k]? = w.heap[k]?) → Good w2) (c : Nat) (hl : r.length + r2.length ≤ 1099511627776) :
    ∃ v' w', (Builtin.append_ #[34, 34] 34 #[v, .slice P r2.length c]).run Tryz.prog w = .ok v' w' ∧ RP W0 s w' v' (r ++ r2) ∧ ∀ b', Ex b' w → b'.heap.size ≤ s → Ex b' w' := by
  obtain ⟨prs, h1, h2, h3⟩ := h
  obtain ⟨v', w', prs2, hrun, ge, hl2, hp2, ⟨hO, hown⟩, hE⟩ := push_fracsX h1 (Nat.le_refl _) hs P c r2 hr (by rw [h2]; exact hl)
  have hsz := hO.size
  have keep : ∀ w2 : World, (∀ k, s ≤ k → k < w'.heap.size → v'.ownBlock ≠ some k → w2.heap[k]? = w'.heap[k]?) → ∀ k, s ≤ k → k < w.heap.size → v.ownBlock ≠ some k → w2.heap[k]? = w.heap[k]? := fun w2 hk k a1 a2 a3 => by
    refine (hk k a1 (Nat.lt_of_lt_of_le a2 hsz) (fun e => ?_)).trans (hO.block k a2 (fun e => a3 e.symm))
    rcases hown with q | q
    · exact a3 (q ▸ e)
    · rw [q] at e; injection e with e; omega
  refine ⟨v', w', hrun, ⟨prs ++ prs2, ge, by rw [List.length_append, List.length_append, h2, hl2], fun j x hj => ?_⟩, hE⟩
  by_cases e : j < r.length
  · rw [List.getElem?_append_left e] at hj
    rw [List.getElem?_append_left (by omega)]
    obtain ⟨u, z, q1, q2⟩ := h3 j x hj
    exact ⟨u, z, q1, fun w2 h0 hk => q2 w2 h0 (keep w2 hk)⟩
  · rw [List.getElem?_append_right (by omega)] at hj
    rw [List.getElem?_append_right (by omega), h2]
    obtain ⟨u, z, q1, q2⟩ := hp2 _ x hj
    exact ⟨u, z, q1, fun w2 h0 hk => q2 w2 (hG w2 h0 (keep w2 hk))⟩
theorem RP.elq {W0 w : World} {s : Nat} {v : Value} {r : List Fra} (h : RP W0 s w v r) (hl : r.length ≤ 1099511627776) : (ELQ W0).O w s w.heap.size [v] r := by
  obtain ⟨prs, h1, h2, h3⟩ := h
  have rp : RowP (fun w2 => Ex W0 w2 ∧ ∀ k, s ≤ k → k < w.heap.size → w2.heap[k]? = w.heap[k]?) w s w.heap.size v r := ⟨prs, h1, h2, fun j x hj => by
    obtain ⟨u, z, q1, q2⟩ := h3 j x hj
    exact ⟨u, z, q1, fun w2 hw => q2 w2 hw.1 fun k a1 a2 _ => hw.2 k a1 a2⟩⟩
  exact rp.elq hl fun w2 h0 hk => ⟨h0, fun k a1 a2 => hk k a1 a2 a2⟩
/-- Noughts that came since the row was begun are good for it. -/
theorem RP.good {W0 w0 w : World} {s B : Nat} {v : Value} (he : Ex w0 w) (hB : s ≤ B) (hv : ∀ k, v.ownBlock = some k → k < B) : ∀ w2, Ex W0 w2 → (∀ k, s ≤ k → k < w.heap.size → v.ownBlock ≠ some k → w2.heap[k]? = w.heap[k]?) → ∀ k, B ≤ k → k < w0.heap.size → k < w0.heap.size → w2.heap[k]? = w0.heap[k]? := fun w2 _ hk k a1 a2 _ =>
  (hk k (by omega) (Nat.lt_of_lt_of_le a2 he.size) (fun e => by have := hv k e; omega)).trans (he.block a2)
theorem RP.own {W0 w : World} {s : Nat} {v : Value} {r : List Fra} (h : RP W0 s w v r) : ∀ k, v.ownBlock = some k → k < w.heap.size := fun k e => by
  obtain ⟨prs, h1, _⟩ := h
  exact (h1.own k e).2
set_option maxHeartbeats 1000000 in
theorem frZero_c (w : World) : Calls Tryz.prog 113 #[] w fun e w' => FFx w zF e w' := by
  go_enter Tryz.func113, Tryz.ntmps113
  go_wp2_with fail
  have x1 := (Ex.refl w).alloc (.cells #[.slice none 0 0, .slice (some ⟨w.heap.size + 1, 0, none⟩) 1 1] 58)
  have v1 := VB.new w 58 #[.slice none 0 0, .slice (some ⟨w.heap.size + 1, 0, none⟩) 1 1]
  have s1 : (w.alloc (.cells #[.slice none 0 0, .slice (some ⟨w.heap.size + 1, 0, none⟩) 1 1] 58)).heap.size = w.heap.size + 1 := by simp
  generalize w.alloc (.cells #[.slice none 0 0, .slice (some ⟨w.heap.size + 1, 0, none⟩) 1 1] 58) = W1 at *
  have x2 := (Ex.refl W1).alloc (iObj [1])
  have o1 := Own.new W1 [1]
  rw [s1] at o1
  have v2 := v1.ex x2
  have d0 := v2.cell 0 (v := .slice none 0 0) rfl
  have d1 := v2.cell 1 (v := .slice (some ⟨w.heap.size + 1, 0, none⟩) 1 1) rfl
  change bodyPost _ _ _ _ _ (W1.alloc (iObj [1]))
  generalize W1.alloc (iObj [1]) = W2 at *
  refine bodyPost_ret (v := .agg #[.slice none 0 0, .slice (some ⟨w.heap.size + 1, 0, none⟩) 1 1]) (by simp [results, Tryz.results113, go_sem, d0, d1]) rfl ?_
  exact ⟨none, 0, _, _, rfl, Fr.nil _ _ _, o1.fr (by simp) (by omega) (by simp), (fun a a' e => by cases e), x1.trans x2⟩
set_option maxHeartbeats 2000000 in
theorem rrZeros_c (n : Nat) (hn : n ≤ 1000) (w : World) :
    Calls Tryz.prog 84 #[.int .i64 n] w fun e w' => ∃ A c, e = .returned (.slice A n c) ∧ GE ELF 58 w' w.heap.size w'.heap.size (.slice A n c) (List.replicate n zF) ∧ Ex w w' := by
  go_enter Tryz.func84, Tryz.ntmps84
  go_wp2_with fail
  go_loopg [3] n (fun f o wr => ∃ (k : Nat) (A : Option Addr) (c : Nat), k + f = n ∧ o = .slice A k c ∧ GE ELF 58 wr w.heap.size wr.heap.size (.slice A k c) (List.replicate k zF) ∧ Ex w wr)
  case atStart => exact ⟨0, none, 0, by omega, rfl, GE.nil _ _ _ _ _, Ex.refl _⟩
  case round =>
    obtain ⟨k, A, c, hkf, rfl, hge, he⟩ := hrel
    have hz := he.size
    cases gk with
    | zero =>
      obtain rfl : k = n := by omega
      go_wp2_with fail
      go_ret
      exact ⟨A, c, rfl, hge, he⟩
    | succ f =>
      have hlt : k < n := by omega
      have HT := Lib.hid (show List.replicate (k + 1) zF = List.replicate k zF ++ [zF] by rw [List.replicate_succ'])
      go_wp2_with fail
      refine (frZero_c _).mono ?_
      rintro e w3 ⟨A3, c3, B3, d3, rfl, f3, p3, ap3, x3⟩
      have hz3 := x3.size
      obtain ⟨v', w4, hrun, hge4, _, hnn4, hE4⟩ := push_frac (hge.ex x3) hz3 (ofra_of_fr (x := zF) f3 p3 ap3 hz3) (Nat.le_refl _) hz3 (Nat.le_refl _) hz (by simp; omega)
      rw [← HT.out] at hge4
      have he4 := hE4 w (he.trans x3) (Nat.le_refl _)
      obtain ⟨A5, c5, ev⟩ := hge4.nilv
      rw [List.length_replicate] at ev
      subst ev
      clear hE4 HT
      go_wp2_with (at_builtin; refine wpList_append_run rfl _ _ _ rfl rfl rfl hrun ?_)
      go_roundg f
      case measure => omega
      case rel => exact ⟨k + 1, A5, c5, by omega, rfl, hge4, he4⟩
end Go.Proofs.YtpeogfapnofeoaaGreatDoor
namespace Go.Proofs.YtpeogfapnofeoaaGreatDoor
set_option maxRecDepth 100000
open Go Go.RowKit
theorem map_step {α β : Type} {f : α → β} {b : List α} {k : Nat} {r : α} (h : b[k]? = some r) : (b.map f).take (k + 1) = (b.map f).take k ++ [f r] := by
  rw [List.take_add_one, List.getElem?_map, h]; rfl
theorem GdR.zeros {p : Int} {L : Nat} (hF : fieldB p = true) (hL : 1 ≤ L) (n : Nat) : GdR p L (List.replicate n zF) := fun x hx => by
  obtain ⟨_, rfl⟩ := List.mem_replicate.1 hx
  exact ⟨FV.zero hF, by simp [zF], by simp [zF]; exact hL⟩
end Go.Proofs.YtpeogfapnofeoaaGreatDoor
namespace Go.Proofs.YtpeogfapnofeoaaGreatDoor
set_option maxRecDepth 100000
open Go Go.RowKit
theorem RowP.more {Good : World → Prop} {w : World} {a b a' b' : Nat} {v : Value} {r : List Fra} (h : RowP Good w a b v r) (ha : a' ≤ a) (hb : b ≤ b') : RowP Good w a' b' v r := by
  obtain ⟨prs, h1, h2⟩ := h
  exact ⟨prs, h1.more ha hb, h2⟩
end Go.Proofs.YtpeogfapnofeoaaGreatDoor
namespace Go.Proofs.YtpeogfapnofeoaaGreatDoor
set_option maxRecDepth 100000
open Go Go.RowKit
theorem RRRelc.ex {w w' : World} {v0 : Value} {x : RRel} (h : RRRelc w v0 x) (he : Ex w w') : RRRelc w' v0 x := by
  obtain ⟨h0, A, c, e, hc⟩ := h
  exact ⟨h0.ex he, A, c, e, hc.ex he⟩
theorem RRRelc.form {w : World} {v0 : Value} {x : RRel} (h : RRRelc w v0 x) : ∃ A0 n0 c0, v0 = .slice A0 n0 c0 := h.1.form
theorem fit_sum {l r : Nat} : fitB (l : Int) (r : Int) = decide (l + r ≤ 12) := by
  rw [Bool.eq_iff_iff]
  simp [fitB, inB]
  omega
end Go.Proofs.YtpeogfapnofeoaaGreatDoor
