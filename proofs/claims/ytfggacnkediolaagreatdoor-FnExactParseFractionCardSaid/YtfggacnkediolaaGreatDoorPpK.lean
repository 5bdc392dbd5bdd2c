/- Reading the text of a polynomial: the program. -/
import Derived.Test.YtfggacnkediolaaGreatDoorPpJ
import Derived.Test.YtfggacnkediolaaGreatDoorPtE
import Derived.Test.YtfggacnkediolaaGreatDoorPpG
namespace Go.Proofs.YtfggacnkediolaaGreatDoor
set_option maxRecDepth 100000
open Go Go.RowKit Go.Shelf
attribute [local go_sem] Oper.semAt_some
/-- What parsePoly makes of a text. -/
def paI (s : List UInt8) : List Int × Bool := match piO (spl 43 s) (List.replicate 41 0) with
  | none => ([], false)
  | some o => (trim o, true)
theorem paI_none {s : List UInt8} (h : piO (spl 43 s) (List.replicate 41 0) = none) : paI s = ([], false) := by unfold paI; rw [h]
theorem paI_some {s : List UInt8} {o : List Int} (h : piO (spl 43 s) (List.replicate 41 0) = some o) : paI s = (trim o, true) := by unfold paI; rw [h]
theorem piO_bad {pre : List SB1} {x : SB1} {o : List Int} (h : piO (sbL pre) (List.replicate 41 0) = some o) (hx : ∀ z, tmI x.1.data.toList = some z → ¬ (0 ≤ z.2 ∧ z.2 ≤ 40)) : piO (sbL (pre ++ [x])) (List.replicate 41 0) = none := by
  rw [sbL_snoc, piO_app, h, Option.bind_some, piO]
  cases hz : tmI x.1.data.toList with
  | none => rfl
  | some z => exact if_neg (hx z hz)
theorem piO_good {pre : List SB1} {x : SB1} {o : List Int} {a e : Int} (h : piO (sbL pre) (List.replicate 41 0) = some o) (hx : tmI x.1.data.toList = some (a, e)) (he : 0 ≤ e ∧ e ≤ 40) : piO (sbL (pre ++ [x])) (List.replicate 41 0) = some (o.set e.toNat a) := by
  rw [sbL_snoc, piO_app, h, Option.bind_some, piO, hx]
  simp only
  rw [if_pos he]; rfl
theorem setn_heap {W : World} {g n k : Nat} {v : Value} (hne : g ≠ k) : (W.setCell ⟨g, n, none⟩ v).heap[k]? = W.heap[k]? := by
  simp [World.setCell, Array.getElem?_modify, hne]
theorem grownBy_setCell'' (W : World) (g n : Nat) (v : Value) : W.grownBy (W.setCell ⟨g, n, none⟩ v) (some g) :=
  ⟨rfl, rfl, rfl, by rw [World.size_setCell]; exact Nat.le_refl _, fun k hk hne => setn_heap (fun e => hne (by rw [e]))⟩
theorem belowK_b_ex {w V : World} {D : Nat} {o o' : Obj} (h : Ex w V) (hD : V.heap[D]? = some o) (hw : w.heap.size ≤ D) : Ex w (V.putObj D o') :=
  Below.grown h (grownBy_putObj' V D o') h.size (fun k e => by cases e; exact hw)
/-- What the loop keeps: the slice's block, its box, the results' cells. -/
structure PaI (w : World) (g B0 Bo N : Nat) (pre : List SB1) (W : World) : Prop where
  row : ∃ o, o.length = 41 ∧ piO (sbL pre) (List.replicate 41 0) = some o ∧ Blk W g o
  box : W.heap[Bo]? = some (.cells #[.slice (some ⟨g, 0, none⟩) 41 41] 22 (0, 0))
  r1 : W.heap[B0]? = some (.cells #[.slice none 0 0] 48 (0, 0))
  r2 : W.heap[B0 + 1]? = some (.cells #[.bool false] 4 (0, 0))
  ex : Ex w W
  sz : N ≤ W.heap.size
set_option maxHeartbeats 4000000 in
theorem parsePoly_c (s : ByteArray) (w : World) (hs : s.size ≤ 1048576) (hw : Wl w) : Calls Tryz.prog 26 #[.string s] w fun e w' => FrRB w (paI s.data.toList) e w' := by
  refine (callsIn_wide (n := 5)).1 ?_
  refine callsIn_of_wp_marks Tryz.func26 rfl trivial ?_ rfl
  simp only [Tryz.ntmps26, List.size_toArray, List.length_cons, List.length_nil, Nat.reduceAdd, Nat.reduceSub, Array.replicate_succ, Array.replicate_zero, List.push_toArray, List.append_toArray, List.nil_append, List.cons_append]
  have h1 : 1 ≤ 5 - 1 := by omega
  gi_wp2_with fail
  have y0 := ((Ex.refl w).alloc (.cells #[.slice none 0 0] 48)).alloc (.cells #[.bool false] 4)
  have p1 : ((w.alloc (.cells #[.slice none 0 0] 48)).alloc (.cells #[.bool false] 4)).heap[w.heap.size]? = some (.cells #[.slice none 0 0] 48 (0, 0)) := by
    rw [Below.heap_alloc _ _ _ (by simp)]; exact World.alloc_heap_new w _
  have p2 : ((w.alloc (.cells #[.slice none 0 0] 48)).alloc (.cells #[.bool false] 4)).heap[w.heap.size + 1]? = some (.cells #[.bool false] 4 (0, 0)) := by
    have := World.alloc_heap_new (w.alloc (.cells #[.slice none 0 0] 48)) (.cells #[.bool false] 4)
    rwa [World.size_alloc] at this
  have hsz0 : ((w.alloc (.cells #[.slice none 0 0] 48)).alloc (.cells #[.bool false] 4)).heap.size = w.heap.size + 2 := by simp
  generalize ((w.alloc (.cells #[.slice none 0 0] 48)).alloc (.cells #[.bool false] 4)) = u0 at *
  refine ⟨trivial, ?_⟩
  refine (callsIn_wide.2 (zeros_c 41 (by decide) u0)).mono ?_
  rintro e u1 ⟨g, rfl, hg, hB, x1⟩
  have hs1 := x1.size
  have hg1 := hB.lt
  gi_wp2_with (refine ⟨trivial, ?_⟩; gi_at_call 37; refine (SplitSeq_in _ (by omega) _ _ _).mono ?_; rintro e w' ⟨rfl, rfl⟩)
  obtain ⟨m, hm⟩ : ∃ m, u1.heap.size = m := ⟨_, rfl⟩
  obtain ⟨W0, hW0⟩ : ∃ W0, ((((u1.alloc (.cells #[.slice (some ⟨g, 0, none⟩) 41 41] 22)).alloc (.cells #[.string s] 9)).alloc (.cells #[.string ⟨#[43]⟩] 9)).alloc (.cells #[.int .i64 0] 3)) = W0 := ⟨_, rfl⟩
  have z0 : W0.heap.size = m + 4 := by rw [← hW0, ← hm]; simp
  have k0 : W0.heap[m]? = some (.cells #[.slice (some ⟨g, 0, none⟩) 41 41] 22 (0, 0)) := by
    rw [← hW0, Below.heap_alloc _ _ _ (by simp; omega), Below.heap_alloc _ _ _ (by simp; omega), Below.heap_alloc _ _ _ (by simp; omega), ← hm]; exact World.alloc_heap_new _ _
  have k1 : W0.heap[m + 1]? = some (.cells #[.string s] 9 (0, 0)) := by
    rw [← hW0, Below.heap_alloc _ _ _ (by simp; omega), Below.heap_alloc _ _ _ (by simp; omega)]
    have := World.alloc_heap_new (u1.alloc (.cells #[.slice (some ⟨g, 0, none⟩) 41 41] 22)) (.cells #[.string s] 9)
    rwa [World.size_alloc, hm] at this
  have k2 : W0.heap[m + 1 + 1]? = some (.cells #[.string ⟨#[43]⟩] 9 (0, 0)) := by
    rw [← hW0, Below.heap_alloc _ _ _ (by simp; omega)]
    have := World.alloc_heap_new ((u1.alloc (.cells #[.slice (some ⟨g, 0, none⟩) 41 41] 22)).alloc (.cells #[.string s] 9)) (.cells #[.string ⟨#[43]⟩] 9)
    rwa [World.size_alloc, World.size_alloc, hm] at this
  have k3 : W0.heap[m + 1 + 2]? = some (.cells #[.int .i64 0] 3 (0, 0)) := by
    rw [← hW0]
    have := World.alloc_heap_new (((u1.alloc (.cells #[.slice (some ⟨g, 0, none⟩) 41 41] 22)).alloc (.cells #[.string s] 9)).alloc (.cells #[.string ⟨#[43]⟩] 9)) (.cells #[.int .i64 0] 3)
    rwa [World.size_alloc, World.size_alloc, World.size_alloc, hm] at this
  have y1 : Ex u1 W0 := by rw [← hW0]; exact ((((Ex.refl u1).alloc _).alloc _).alloc _).alloc _
  rw [hW0, hm]
  rw [hm] at hg1 hs1
  have hB0 := hB.ex y1
  have q1 := (y1.block (by omega)).trans ((x1.block (by omega)).trans p1)
  have q2 := (y1.block (by omega)).trans ((x1.block (by omega)).trans p2)
  have yx : Ex w W0 := (y0.trans x1).trans y1
  clear hW0 hB p1 p2
  refine wpIn_rangeFunc_box rfl (by omega) (gf := 77) (lb := #[.pointer (some ⟨m + 1 + 1, 0, none⟩), .pointer (some ⟨m + 1, 0, none⟩), .pointer (some ⟨m + 1 + 2, 0, none⟩)]) rfl trivial (enters_of Tryz.func77 (by kernel_rfl) rfl)
    (q := m + 1) (split_box (5 - 1) (by omega) (m + 1) s hs W0 k1 k2 k3) (by omega) KpS.trans (KpS.putObj (by omega)) (fun _ => by rfl)
    (fun pre W => PaI w g w.heap.size m W0.heap.size pre W)
    (fun c pre W => c = .ret ∧ piO (sbL pre) (List.replicate 41 0) = none ∧ W.heap[w.heap.size]? = some (.cells #[.slice none 0 0] 48 (0, 0)) ∧ W.heap[w.heap.size + 1]? = some (.cells #[.bool false] 4 (0, 0)) ∧ Ex w W)
    ?own ?ownx ?box ⟨⟨_, List.length_replicate, rfl, hB0⟩, k0, q1, q2, yx, Nat.le_refl _⟩
    (fun x => { tmps := #[.string s, undef, .pointer (some ⟨w.heap.size, 0, none⟩), .pointer (some ⟨w.heap.size + 1, 0, none⟩), .pointer (some ⟨m, 0, none⟩), .string x.1, undef, undef, undef, .slice (some ⟨g, 0, none⟩) 41 41, .string s, .func (.func 77) #[] #[.pointer (some ⟨m + 1 + 1, 0, none⟩), .pointer (some ⟨m + 1, 0, none⟩), .pointer (some ⟨m + 1 + 2, 0, none⟩)], .string x.1, undef, undef, undef, undef, undef, undef, undef, undef, undef, undef, undef, undef, undef, undef, undef, undef, undef, undef, undef], defers := [] }) ?assign ?body ?done ?stop
  case own =>
    intro pre V V' row h hgr hr
    have keep : ∀ {k : Nat} {o : Obj}, k < W0.heap.size → V.heap[k]? = some o → V'.heap[k]? = some o := fun hk ho => (hgr.block _ (Array.getElem?_eq_some_iff.1 ho).1 (fun e => by have := (hr _ e.symm).1; omega)).trans ho
    obtain ⟨⟨o, o1, o2, o3⟩, h2, h3, h4, h5, h6⟩ := h
    exact ⟨⟨o, o1, o2, keep (by omega) o3⟩, keep (by omega) h2, keep (by omega) h3, keep (by omega) h4, Below.grown h5 hgr h5.size (fun k e => by have := (hr k e).1; have := yx.size; omega), Nat.le_trans h6 hgr.size⟩
  case ownx =>
    rintro c pre V V' row ⟨rfl, h2, h3, h4, h5⟩ hgr hr
    have keep : ∀ {k : Nat} {o : Obj}, k < W0.heap.size → V.heap[k]? = some o → V'.heap[k]? = some o := fun hk ho => (hgr.block _ (Array.getElem?_eq_some_iff.1 ho).1 (fun e => by have := (hr _ e.symm).1; omega)).trans ho
    exact ⟨rfl, h2, keep (by omega) h3, keep (by omega) h4, Below.grown h5 hgr h5.size (fun k e => by have := (hr k e).1; have := yx.size; omega)⟩
  case box =>
    intro pre V v h
    obtain ⟨⟨o, o1, o2, o3⟩, h2, h3, h4, h5, h6⟩ := h
    exact ⟨⟨o, o1, o2, set_heap (by omega) o3⟩, set_heap (by omega) h2, set_heap (by omega) h3, set_heap (by omega) h4, h5.setCell (p := ⟨m + 1, 0, none⟩) (by show w.heap.size ≤ m + 1; omega) _, by simpa using h6⟩
  case assign =>
    intro l x W K hK
    gi_wp2
    exact hK
  case body =>
    rintro l pre x W ⟨⟨o, o1, o2, o3⟩, h2, h3, h4, h5, hWs⟩
    have hWl := hw.ex h5
    have h11 : 1 ≤ 5 - 1 - 1 := by omega
    gi_wp2_with fail
    refine ⟨trivial, ?_⟩
    refine (CallsIn.inRound l (callsIn_wide.2 (parsePolyTerm_c x.1 W x.2 hWl))).mono ?_
    rintro e w3 ⟨a, ex, b, rfl, hab, x3⟩
    have keep : ∀ {k : Nat} {o : Obj}, W.heap[k]? = some o → w3.heap[k]? = some o := fun ho => (x3.block (Array.getElem?_eq_some_iff.1 ho).1).trans ho
    have n2 := keep h2
    have n3 := keep h3
    have n4 := keep h4
    have o4 := o3.ex x3
    have kf : KeepsFrom W0.heap.size W w3 := ⟨x3.size, fun k o _ ho _ => keep ho⟩
    have h5' : Ex w w3 := h5.trans x3
    have kp : KpS (m + 1) W w3 := fun k _ hk => by
      have : k < W.heap.size := by have := hWs; omega
      exact x3.block this
    have c2 := one_cell n2
    have c3 := one_cell n3
    have c4 := one_cell n4
    have f3 := one_frozen n3
    have f4 := one_frozen n4
    have hsz := h5'.size
    have leave : (∀ z, tmI x.1.data.toList = some z → ¬ (0 ≤ z.2 ∧ z.2 ≤ 40)) → KeepsFrom W0.heap.size W ((w3.setCell ⟨w.heap.size, 0, none⟩ (.slice none 0 0)).setCell ⟨w.heap.size + 1, 0, none⟩ (.bool false)) ∧ (piO (sbL (pre ++ [x])) (List.replicate 41 0) = none ∧
        ((w3.setCell ⟨w.heap.size, 0, none⟩ (.slice none 0 0)).setCell ⟨w.heap.size + 1, 0, none⟩ (.bool false)).heap[w.heap.size]? = some (.cells #[.slice none 0 0] 48 (0, 0)) ∧
        ((w3.setCell ⟨w.heap.size, 0, none⟩ (.slice none 0 0)).setCell ⟨w.heap.size + 1, 0, none⟩ (.bool false)).heap[w.heap.size + 1]? = some (.cells #[.bool false] 4 (0, 0)) ∧ Ex w ((w3.setCell ⟨w.heap.size, 0, none⟩ (.slice none 0 0)).setCell ⟨w.heap.size + 1, 0, none⟩ (.bool false))) := fun hx =>
      ⟨(kf.trans (KeepsFrom.of_grownBy (grownBy_setCell' w3 w.heap.size (.slice none 0 0)) (fun j e => by cases e; omega))).trans (KeepsFrom.of_grownBy (grownBy_setCell' _ (w.heap.size + 1) (.bool false)) (fun j e => by cases e; omega)),
        piO_bad o2 hx, set_heap (by omega) (box_set n3), box_set (set_heap (by omega) n4), (h5'.setCell (p := ⟨w.heap.size, 0, none⟩) (Nat.le_refl _) _).setCell (p := ⟨w.heap.size + 1, 0, none⟩) (Nat.le_succ _) _⟩
    have Hleave := Lib.hid leave
    have Hab := Lib.hid hab
    clear hab leave
    cases b with
    | false =>
      have L := Hleave.out fun z hz => by have := Hab.out; rw [hz] at this; cases this
      clear Hleave
      have HL := Lib.hid L
      clear L
      gi_wp2_with fail
      refine ⟨trivial, ?_⟩
      gi_wp2_with fail
      exact ⟨HL.out.1, rfl, HL.out.2⟩
    | true =>
      have hm : tmI x.1.data.toList = some (a, ex) := Hab.out
      have Hm := Lib.hid hm
      clear hm
      gi_wp2_with fail
      refine ⟨trivial, ?_⟩
      refine (CallsIn.inRound l (callsIn_wide.2 (within_c _ _ _ _))).mono ?_
      rintro e _ ⟨rfl, rfl⟩
      cases hin : inB 0 40 ex with
      | false =>
        have HL := Lib.hid (Hleave.out fun z hz => by
          have := Hm.out
          rw [hz] at this
          injection this with this
          subst this
          simp [inB] at hin
          intro h
          have := hin h.1
          omega)
        clear Hleave
        gi_wp2_with fail
        exact ⟨HL.out.1, rfl, HL.out.2⟩
      | true =>
        have hr : 0 ≤ ex ∧ ex ≤ 40 := by simpa [inB] using hin
        have HG := Lib.hid (piO_good o2 Hm.out hr)
        obtain ⟨n, rfl⟩ : ∃ n : Nat, ex = (n : Int) := ⟨ex.toNat, by omega⟩
        have hn : n < 41 := by omega
        have o5 := o4.set_ n a
        obtain ⟨y, hy⟩ : ∃ y, o[n]? = some y := ⟨_, List.getElem?_eq_getElem (by omega)⟩
        have c5 := o4.cell hy
        have f5 := o4.frozen n
        clear hin hr hy Hleave
        gi_wp2_with fail
        refine ⟨kf.trans (KeepsFrom.of_grownBy (grownBy_setCell'' w3 g n (.int .i64 a)) (fun j e => by cases e; omega)), fun k h1 h2 => (setn_heap (by omega)).trans (kp k h1 h2), ⟨_, by rw [List.length_set]; exact o1, HG.out, by simpa using o5⟩, ?_, ?_, ?_, h5'.setCell (p := ⟨g, n, none⟩) (by show w.heap.size ≤ g; omega) _, by rw [World.size_setCell]; exact Nat.le_trans hWs x3.size⟩
        · exact (setn_heap (by omega)).trans n2
        · exact (setn_heap (by omega)).trans n3
        · exact (setn_heap (by omega)).trans n4
  case done =>
    rintro D ys W hD hys ⟨⟨o, o1, o2, o3⟩, h2, h3, h4, h5, h6⟩ hK
    have hR := Lib.hid (paI_some (hys ▸ o2))
    have c2 := one_cell h2
    have c3 := one_cell h3
    have c4 := one_cell h4
    have f3 := one_frozen h3
    have f4 := one_frozen h4
    have cT := trimmed_c (some ⟨g, 0, none⟩) 41 o W (o3.rd (by omega)) (by omega)
    rw [o1] at cT
    gi_wp2_with fail
    refine ⟨trivial, ?_⟩
    refine (callsIn_wide.2 cT).mono ?_
    rintro e _ ⟨rfl, rfl⟩
    gi_wp2_with fail
    obtain ⟨V, hV⟩ : ∃ V, ((W.setCell ⟨w.heap.size, 0, none⟩ (.slice (some ⟨g, 0, none⟩) (trim o).length (trim o).length)).setCell ⟨w.heap.size + 1, 0, none⟩ (.bool true)) = V := ⟨_, rfl⟩
    have v1 : V.heap[w.heap.size]? = some (.cells #[.slice (some ⟨g, 0, none⟩) (trim o).length (trim o).length] 48 (0, 0)) := by rw [← hV]; exact set_heap (by omega) (box_set h3)
    have v2 : V.heap[w.heap.size + 1]? = some (.cells #[.bool true] 4 (0, 0)) := by rw [← hV]; exact box_set (set_heap (by omega) h4)
    have v3 : V.heap[D]? = some (.deferred (some [])) := by rw [← hV]; exact set_heap (by omega) (set_heap (by omega) hK)
    have v4 : Blk V g o := by rw [← hV]; exact set_heap (k := g) (by omega) (set_heap (k := g) (by omega) o3)
    have v5 : Ex w V := by rw [← hV]; exact (h5.setCell (p := ⟨w.heap.size, 0, none⟩) (Nat.le_refl _) _).setCell (p := ⟨w.heap.size + 1, 0, none⟩) (Nat.le_succ _) _
    rw [hV]
    have u1' := one_cell ((World.putObj_heap_other (o := .deferred none) (show w.heap.size ≠ D by omega)).trans v1)
    have u2' := one_cell ((World.putObj_heap_other (o := .deferred none) (show w.heap.size + 1 ≠ D by omega)).trans v2)
    have u4' : Blk (V.putObj D (.deferred none)) g o := (World.putObj_heap_other (by omega)).trans v4
    refine ⟨by simp, .inl ⟨_, _, rfl, run_takeDeferred v3, ?_⟩⟩
    refine ⟨.tuple #[.slice (some ⟨g, 0, none⟩) (trim o).length (trim o).length, .bool true], ?_, ?_⟩
    · simp [results, Tryz.results26, go_sem, u1', u2']
    · refine ⟨some ⟨g, 0, none⟩, (trim o).length, by rw [hR.out], ?_, belowK_b_ex v5 v3 (by omega)⟩
      rw [hR.out]
      exact u4'.own.frTrim (by omega) (by omega)
  case stop =>
    rintro D c pre W hD ⟨r, hr⟩ ⟨rfl, h2, h3, h4, h5⟩ hK
    have hR := Lib.hid (paI_none (s := s.data.toList) (by rw [← hr, piO_app, h2]; rfl))
    have c3 := one_cell h3
    have c4 := one_cell h4
    gi_wp2
    have u1' := one_cell ((World.putObj_heap_other (o := .deferred none) (show w.heap.size ≠ D by omega)).trans h3)
    have u2' := one_cell ((World.putObj_heap_other (o := .deferred none) (show w.heap.size + 1 ≠ D by omega)).trans h4)
    refine ⟨by simp, .inl ⟨_, _, rfl, run_takeDeferred hK, ?_⟩⟩
    refine ⟨.tuple #[.slice none 0 0, .bool false], ?_, ?_⟩
    · simp [results, Tryz.results26, go_sem, u1', u2']
    · refine ⟨none, 0, by rw [hR.out]; rfl, ?_, belowK_b_ex h5 hK (by omega)⟩
      rw [hR.out]
      exact Fr.nil _ _ _
end Go.Proofs.YtfggacnkediolaaGreatDoor
