/- Terms of the reference: two beside each other, one behind the other, layers. Contracts of the functions on polynomials, both sides: each answers what the plain functions of Num.lean say. The nodes of a permutation (the program): permutationNodes. The reference's term of a permutation. -/
import Derived.Test.YtphdcgimibnajaaGreatAp15
import Derived.Test.YtphdcgimibnajaaGreatAp05
import Derived.Test.YtphdcgimibnajaaGreatLaw
import Derived.StillTailTactics
import Derived.Test.YtphdcgimibnajaaGreatAp13
import Derived.Deep.LoopGhost
import Derived.Deep.RegionHeld3
import Derived.BigQuiet
import Derived.Deep.RegionLaw
namespace Go.Proofs.YtphdcgimibnajaaGreat
set_option maxRecDepth 100000
open Go Go.RowKit
set_option maxHeartbeats 1000000 in
theorem tmPar_c (a b : List Nd) (A B : Option Addr) (c d : Nat) (w : World) (ha : RdS EN w A a) (hb : RdS EN w B b) (hal : a.length ≤ 100000000000) (hbl : b.length ≤ 100000000000) :
    Calls Tryz.prog 83 #[.agg #[.slice A a.length c], .agg #[.slice B b.length d]] w fun e w' => TmO w w.heap.size (jn 16 a b) e w' := by
  have x0 := (Ex.refl w).alloc (.cells #[.slice A a.length c] 29)
  have v0 := VB.new w 29 #[.slice A a.length c]
  obtain ⟨W0, hW0⟩ : ∃ W, w.alloc (.cells #[.slice A a.length c] 29) = W := ⟨_, rfl⟩
  have s0 : W0.heap.size = w.heap.size + 1 := by rw [← hW0]; simp
  rw [hW0] at x0 v0
  have x1 := (Ex.refl W0).alloc (.cells #[.slice B b.length d] 29)
  have v1 := VB.new W0 29 #[.slice B b.length d]
  obtain ⟨W1, hW1⟩ : ∃ W, W0.alloc (.cells #[.slice B b.length d] 29) = W := ⟨_, rfl⟩
  have s1 : W1.heap.size = w.heap.size + 1 + 1 := by rw [← hW1]; simp [s0]
  rw [hW1] at x1 v1
  rw [s0] at v1
  have x2 := (Ex.refl W1).alloc (.cells #[.slice none 0 0] 29)
  have v2 := VB.new W1 29 #[.slice none 0 0]
  obtain ⟨W2, hW2⟩ : ∃ W, W1.alloc (.cells #[.slice none 0 0] 29) = W := ⟨_, rfl⟩
  have s2 : W2.heap.size = w.heap.size + 1 + 1 + 1 := by rw [← hW2]; simp [s1]
  rw [hW2] at x2 v2
  rw [s1] at v2
  have X2 := (x0.trans x1).trans x2
  have q0 := ((v0.ex x1).ex x2).cell 0 (v := .slice A a.length c) rfl
  have q1 := (v1.ex x2).cell 0 (v := .slice B b.length d) rfl
  clear v0 v1 x0 x1 x2
  go_enter Tryz.func83, Tryz.ntmps83
  go_wp2_with fail
  refine (tmJoin_c a b A B c d 16 W2 (ha.ex X2) (hb.ex X2) hal hbl).mono ?_
  rintro e w3 ⟨A3, c3, rfl, n3, x3⟩
  have v3 := v2.ex x3
  obtain ⟨n4, eF⟩ := TmO.put (w := w) (g := w.heap.size + 1 + 1) n3 (X2.trans x3) (by omega) (by omega)
  obtain ⟨m, hm⟩ : ∃ m, (jn 16 a b).length = m := ⟨_, rfl⟩
  have HM := Lib.hid hm
  rw [hm] at n4 eF ⊢
  clear hm n3 v2 q0 q1
  have r0 := v3.cell 0 (v := .slice none 0 0) rfl
  have f0 := v3.frozen 0
  have C0 := (v3.set_ 0 (.slice A3 m c3)).cell 0 (v := .slice A3 m c3) rfl
  go_wp2_with fail
  refine bodyPost_ret (v := .agg #[.slice A3 m c3]) (by simp [results, Tryz.results83, go_sem, C0]) rfl ?_
  exact ⟨_, _, by rw [HM.out], by rw [HM.out]; exact n4.more (by omega), eF⟩
set_option maxHeartbeats 1000000 in
theorem tmSeq_c (a b : List Nd) (A B : Option Addr) (c d : Nat) (w : World) (ha : RdS EN w A a) (hb : RdS EN w B b) (hal : a.length ≤ 100000000000) (hbl : b.length ≤ 100000000000) :
    Calls Tryz.prog 101 #[.agg #[.slice A a.length c], .agg #[.slice B b.length d]] w fun e w' => TmO w w.heap.size (jn 15 a b) e w' := by
  have x0 := (Ex.refl w).alloc (.cells #[.slice A a.length c] 29)
  have v0 := VB.new w 29 #[.slice A a.length c]
  obtain ⟨W0, hW0⟩ : ∃ W, w.alloc (.cells #[.slice A a.length c] 29) = W := ⟨_, rfl⟩
  have s0 : W0.heap.size = w.heap.size + 1 := by rw [← hW0]; simp
  rw [hW0] at x0 v0
  have x1 := (Ex.refl W0).alloc (.cells #[.slice B b.length d] 29)
  have v1 := VB.new W0 29 #[.slice B b.length d]
  obtain ⟨W1, hW1⟩ : ∃ W, W0.alloc (.cells #[.slice B b.length d] 29) = W := ⟨_, rfl⟩
  have s1 : W1.heap.size = w.heap.size + 1 + 1 := by rw [← hW1]; simp [s0]
  rw [hW1] at x1 v1
  rw [s0] at v1
  have x2 := (Ex.refl W1).alloc (.cells #[.slice none 0 0] 29)
  have v2 := VB.new W1 29 #[.slice none 0 0]
  obtain ⟨W2, hW2⟩ : ∃ W, W1.alloc (.cells #[.slice none 0 0] 29) = W := ⟨_, rfl⟩
  have s2 : W2.heap.size = w.heap.size + 1 + 1 + 1 := by rw [← hW2]; simp [s1]
  rw [hW2] at x2 v2
  rw [s1] at v2
  have X2 := (x0.trans x1).trans x2
  have q0 := ((v0.ex x1).ex x2).cell 0 (v := .slice A a.length c) rfl
  have q1 := (v1.ex x2).cell 0 (v := .slice B b.length d) rfl
  clear v0 v1 x0 x1 x2
  go_enter Tryz.func101, Tryz.ntmps101
  go_wp2_with fail
  refine (tmJoin_c a b A B c d 15 W2 (ha.ex X2) (hb.ex X2) hal hbl).mono ?_
  rintro e w3 ⟨A3, c3, rfl, n3, x3⟩
  have v3 := v2.ex x3
  obtain ⟨n4, eF⟩ := TmO.put (w := w) (g := w.heap.size + 1 + 1) n3 (X2.trans x3) (by omega) (by omega)
  obtain ⟨m, hm⟩ : ∃ m, (jn 15 a b).length = m := ⟨_, rfl⟩
  have HM := Lib.hid hm
  rw [hm] at n4 eF ⊢
  clear hm n3 v2 q0 q1
  have r0 := v3.cell 0 (v := .slice none 0 0) rfl
  have f0 := v3.frozen 0
  have C0 := (v3.set_ 0 (.slice A3 m c3)).cell 0 (v := .slice A3 m c3) rfl
  go_wp2_with fail
  refine bodyPost_ret (v := .agg #[.slice A3 m c3]) (by simp [results, Tryz.results101, go_sem, C0]) rfl ?_
  exact ⟨_, _, by rw [HM.out], by rw [HM.out]; exact n4.more (by omega), eF⟩
set_option maxHeartbeats 4000000 in
theorem tmLayer_c (f b : Nat) (t : List Nd) (T : Option Addr) (c B : Nat) (w : World) (ht : AN w B (.slice T t.length c) t) (hB : B ≤ w.heap.size) (htl : t.length ≤ 1000) :
    Calls Tryz.prog 43 #[.int .i64 f, .agg #[.slice T t.length c], .int .i64 b] w fun e w' => TmO w B (layL f t b) e w' := by
  have x0 := (Ex.refl w).alloc (.cells #[.slice T t.length c] 29)
  have v0 := VB.new w 29 #[.slice T t.length c]
  obtain ⟨W0, hW0⟩ : ∃ W, w.alloc (.cells #[.slice T t.length c] 29) = W := ⟨_, rfl⟩
  have s0 : W0.heap.size = w.heap.size + 1 := by rw [← hW0]; simp
  rw [hW0] at x0 v0
  have x1 := (Ex.refl W0).alloc (.cells #[.slice none 0 0] 29)
  have v1 := VB.new W0 29 #[.slice none 0 0]
  obtain ⟨W1, hW1⟩ : ∃ W, W0.alloc (.cells #[.slice none 0 0] 29) = W := ⟨_, rfl⟩
  have s1 : W1.heap.size = w.heap.size + 1 + 1 := by rw [← hW1]; simp [s0]
  rw [hW1] at x1 v1
  rw [s0] at v1
  have X1 := x0.trans x1
  have V0 := v0.ex x1
  have q0 := V0.cell 0 (v := .slice T t.length c) rfl
  have h1 := ht.ex X1
  clear x0 x1 v0
  by_cases hf : 0 < f
  · have hfI : (0 : Int) < (f : Int) := by omega
    have HLF := Lib.hid (show layF f t = jn 16 [nd 1 f] t from if_pos hf)
    by_cases hb : 0 < b
    · have hbI : (0 : Int) < (b : Int) := by omega
      have HLL := Lib.hid (show layL f t b = jn 16 (layF f t) [nd 1 b] from if_pos hb)
      clear hf hb
      go_enter Tryz.func43, Tryz.ntmps43
      go_wp2_with fail
      go_region_with (first
        | (go_at_call 45
           refine (tmId_c f _).mono ?_
           rintro e w2 ⟨A2, c2, rfl, n2, x2'⟩
           have x2 : Ex W1 w2 := (Ex.refl W1).drew.trans x2'
           have q2 := (V0.ex x2).cell 0 (v := .slice T t.length c) rfl)
        | (go_at_call 83
           refine (tmPar_c [nd 1 f] t A2 T c2 c w2 (n2.rdx (by simp)) ((h1.ex x2).rdx (by omega)) (by simp) (by omega)).mono ?_
           rintro e w3 ⟨A3, c3, rfl, n3, x3'⟩
           have x3 := x2.trans x3'
           have y3 := x2.size
           obtain ⟨m3, hm3⟩ : ∃ m, (jn 16 [nd 1 f] t).length = m := ⟨_, rfl⟩
           have HM3 := Lib.hid hm3
           rw [hm3] at n3 ⊢
           clear hm3
           rw [← HLF.out] at n3
           have r3 := (V0.ex x3).cell 0 (v := .slice T t.length c) rfl
           have z3 := (V0.ex x3).frozen 0
           have E3 : Ex1 w.heap.size w3 (w3.setCell ⟨w.heap.size, 0, none⟩ (.slice A3 m3 c3)) := (Ex1.refl _ _).setCell (p := ⟨w.heap.size, 0, none⟩) rfl _
           have VU := (V0.ex x3).set_ 0 (.slice A3 m3 c3)
           have hne : ∀ q, (Value.slice A3 m3 c3).ownBlock = some q → q < w.heap.size ∨ w.heap.size + 2 ≤ q := fun q e => by have := (n3.lt q e).1; omega
           have hU := ((n3.more (B' := B) (by omega)).k1 E3 (fun e => by rcases hne _ e with h | h <;> omega))
           have vU := (v1.ex x3).ex1 E3 (by omega)
           have xU := (X1.trans x3).ex1 E3 (Nat.le_refl _)
           have HMU := Lib.hid (show (layF f t).length = m3 by rw [HLF.out]; exact HM3.out)
           have zU : w.heap.size + 2 ≤ (w3.setCell ⟨w.heap.size, 0, none⟩ (.slice A3 m3 c3)).heap.size := by have := E3.size; have := x3'.size; omega))
      all_goals
        obtain ⟨U, hUU⟩ : ∃ U, w3.setCell ⟨w.heap.size, 0, none⟩ (.slice A3 m3 c3) = U := ⟨_, rfl⟩
        rw [hUU] at VU hU vU xU zU ⊢
        clear E3 r3 z3 hUU
        have qU := VU.cell 0 (v := .slice A3 m3 c3) rfl
        have hLb := layF_len f t
        go_wp2_with fail
        go_region_with (first
          | (go_at_call 45
             refine (tmId_c b _).mono ?_
             rintro e w5 ⟨A5, c5, rfl, n5, x5'⟩
             have x5 : Ex U w5 := (Ex.refl U).drew.trans x5'
             have q5 := (VU.ex x5).cell 0 (v := .slice A3 m3 c3) rfl)
          | (go_at_call 83
             have hp := tmPar_c (layF f t) [nd 1 b] A3 A5 c3 c5 w5 ((hU.ex x5).rdx (by omega)) (n5.rdx (by simp)) (by omega) (by simp)
             rw [HMU.out] at hp
             refine hp.mono ?_
             clear hp
             rintro e w6 ⟨A6, c6, rfl, n6, x6'⟩
             have x6 := x5.trans x6'
             have y6 := x5.size
             obtain ⟨m6, hm6⟩ : ∃ m, (jn 16 (layF f t) [nd 1 b]).length = m := ⟨_, rfl⟩
             have HM6 := Lib.hid hm6
             rw [hm6] at n6 ⊢
             clear hm6
             rw [← HLL.out] at n6
             have r6 := (VU.ex x6).cell 0 (v := .slice A3 m3 c3) rfl
             have z6 := (VU.ex x6).frozen 0
             have E6 : Ex1 w.heap.size w6 (w6.setCell ⟨w.heap.size, 0, none⟩ (.slice A6 m6 c6)) := (Ex1.refl _ _).setCell (p := ⟨w.heap.size, 0, none⟩) rfl _
             have VX := (VU.ex x6).set_ 0 (.slice A6 m6 c6)
             have hnx : ∀ q, (Value.slice A6 m6 c6).ownBlock = some q → q < w.heap.size ∨ w.heap.size + 2 ≤ q := fun q e => by have := (n6.lt q e).1; omega
             have hX := ((n6.more (B' := B) (by omega)).k1 E6 (fun e => by rcases hnx _ e with h | h <;> omega))
             have vX := (vU.ex x6).ex1 E6 (by omega)
             have xX := (xU.trans x6).ex1 E6 (Nat.le_refl _)
             have HMX := Lib.hid (show (layL f t b).length = m6 by rw [HLL.out]; exact HM6.out)))
        all_goals
          obtain ⟨X, hXX⟩ : ∃ U, w6.setCell ⟨w.heap.size, 0, none⟩ (.slice A6 m6 c6) = U := ⟨_, rfl⟩
          rw [hXX] at VX hX vX xX ⊢
          clear E6 r6 z6 hXX
          have qX := VX.cell 0 (v := .slice A6 m6 c6) rfl
          have rX := vX.cell 0 (v := .slice none 0 0) rfl
          have zX := vX.frozen 0
          have C0 := (vX.set_ 0 (.slice A6 m6 c6)).cell 0 (v := .slice A6 m6 c6) rfl
          have E9 : Ex1 (w.heap.size + 1) X (X.setCell ⟨w.heap.size + 1, 0, none⟩ (.slice A6 m6 c6)) := (Ex1.refl _ _).setCell (p := ⟨w.heap.size + 1, 0, none⟩) rfl _
          have hF := hX.k1 E9 (fun e => by rcases hnx _ e with h | h <;> omega)
          have eF := xX.ex1 E9 (Nat.le_succ _)
          go_wp2_with fail
          refine bodyPost_ret (v := .agg #[.slice A6 m6 c6]) (by simp [results, Tryz.results43, go_sem, C0]) rfl ?_
          exact ⟨_, _, by rw [HMX.out], by rw [HMX.out]; exact hF, eF⟩

    · have hbI : ¬ ((0 : Int) < (b : Int)) := by omega
      have HLL := Lib.hid (show layL f t b = layF f t from if_neg hb)
      clear hf hb
      go_enter Tryz.func43, Tryz.ntmps43
      go_wp2_with fail
      go_region_with (first
        | (go_at_call 45
           refine (tmId_c f _).mono ?_
           rintro e w2 ⟨A2, c2, rfl, n2, x2'⟩
           have x2 : Ex W1 w2 := (Ex.refl W1).drew.trans x2'
           have q2 := (V0.ex x2).cell 0 (v := .slice T t.length c) rfl)
        | (go_at_call 83
           refine (tmPar_c [nd 1 f] t A2 T c2 c w2 (n2.rdx (by simp)) ((h1.ex x2).rdx (by omega)) (by simp) (by omega)).mono ?_
           rintro e w3 ⟨A3, c3, rfl, n3, x3'⟩
           have x3 := x2.trans x3'
           have y3 := x2.size
           obtain ⟨m3, hm3⟩ : ∃ m, (jn 16 [nd 1 f] t).length = m := ⟨_, rfl⟩
           have HM3 := Lib.hid hm3
           rw [hm3] at n3 ⊢
           clear hm3
           rw [← HLF.out] at n3
           have r3 := (V0.ex x3).cell 0 (v := .slice T t.length c) rfl
           have z3 := (V0.ex x3).frozen 0
           have E3 : Ex1 w.heap.size w3 (w3.setCell ⟨w.heap.size, 0, none⟩ (.slice A3 m3 c3)) := (Ex1.refl _ _).setCell (p := ⟨w.heap.size, 0, none⟩) rfl _
           have VU := (V0.ex x3).set_ 0 (.slice A3 m3 c3)
           have hne : ∀ q, (Value.slice A3 m3 c3).ownBlock = some q → q < w.heap.size ∨ w.heap.size + 2 ≤ q := fun q e => by have := (n3.lt q e).1; omega
           have hU := ((n3.more (B' := B) (by omega)).k1 E3 (fun e => by rcases hne _ e with h | h <;> omega))
           have vU := (v1.ex x3).ex1 E3 (by omega)
           have xU := (X1.trans x3).ex1 E3 (Nat.le_refl _)
           have HMU := Lib.hid (show (layF f t).length = m3 by rw [HLF.out]; exact HM3.out)
           have zU : w.heap.size + 2 ≤ (w3.setCell ⟨w.heap.size, 0, none⟩ (.slice A3 m3 c3)).heap.size := by have := E3.size; have := x3'.size; omega))
      all_goals
        obtain ⟨U, hUU⟩ : ∃ U, w3.setCell ⟨w.heap.size, 0, none⟩ (.slice A3 m3 c3) = U := ⟨_, rfl⟩
        rw [hUU] at VU hU vU xU zU ⊢
        clear E3 r3 z3 hUU
        have VX := VU
        have hX : AN U B (.slice A3 m3 c3) (layL f t b) := by rw [HLL.out]; exact hU
        have vX := vU
        have xX := xU
        have hnx := hne
        have HMX := Lib.hid (show (layL f t b).length = m3 by rw [HLL.out]; exact HMU.out)
        have qX := VX.cell 0 (v := .slice A3 m3 c3) rfl
        have rX := vX.cell 0 (v := .slice none 0 0) rfl
        have zX := vX.frozen 0
        have C0 := (vX.set_ 0 (.slice A3 m3 c3)).cell 0 (v := .slice A3 m3 c3) rfl
        have E9 : Ex1 (w.heap.size + 1) U (U.setCell ⟨w.heap.size + 1, 0, none⟩ (.slice A3 m3 c3)) := (Ex1.refl _ _).setCell (p := ⟨w.heap.size + 1, 0, none⟩) rfl _
        have hF := hX.k1 E9 (fun e => by rcases hnx _ e with h | h <;> omega)
        have eF := xX.ex1 E9 (Nat.le_succ _)
        go_wp2_with fail
        refine bodyPost_ret (v := .agg #[.slice A3 m3 c3]) (by simp [results, Tryz.results43, go_sem, C0]) rfl ?_
        exact ⟨_, _, by rw [HMX.out], by rw [HMX.out]; exact hF, eF⟩
  · have hfI : ¬ ((0 : Int) < (f : Int)) := by omega
    have HLF := Lib.hid (show layF f t = t from if_neg hf)
    by_cases hb : 0 < b
    · have hbI : (0 : Int) < (b : Int) := by omega
      have HLL := Lib.hid (show layL f t b = jn 16 (layF f t) [nd 1 b] from if_pos hb)
      clear hf hb
      have VU := V0
      have hU : AN W1 B (.slice T t.length c) (layF f t) := by rw [HLF.out]; exact h1
      have vU := v1
      have xU := X1
      have zU : w.heap.size + 2 ≤ W1.heap.size := by omega
      have hne : ∀ q, (Value.slice T t.length c).ownBlock = some q → q < w.heap.size ∨ w.heap.size + 2 ≤ q := fun q e => .inl (ht.lt q e).2
      have HMU := Lib.hid (show (layF f t).length = t.length by rw [HLF.out])

      go_enter Tryz.func43, Tryz.ntmps43
      have qU := VU.cell 0 (v := .slice T t.length c) rfl
      have hLb := layF_len f t
      go_wp2_with fail
      go_region_with (first
        | (go_at_call 45
           refine (tmId_c b _).mono ?_
           rintro e w5 ⟨A5, c5, rfl, n5, x5'⟩
           have x5 : Ex W1 w5 := (Ex.refl W1).drew.trans x5'
           have q5 := (VU.ex x5).cell 0 (v := .slice T t.length c) rfl)
        | (go_at_call 83
           have hp := tmPar_c (layF f t) [nd 1 b] T A5 c c5 w5 ((hU.ex x5).rdx (by omega)) (n5.rdx (by simp)) (by omega) (by simp)
           rw [HMU.out] at hp
           refine hp.mono ?_
           clear hp
           rintro e w6 ⟨A6, c6, rfl, n6, x6'⟩
           have x6 := x5.trans x6'
           have y6 := x5.size
           obtain ⟨m6, hm6⟩ : ∃ m, (jn 16 (layF f t) [nd 1 b]).length = m := ⟨_, rfl⟩
           have HM6 := Lib.hid hm6
           rw [hm6] at n6 ⊢
           clear hm6
           rw [← HLL.out] at n6
           have r6 := (VU.ex x6).cell 0 (v := .slice T t.length c) rfl
           have z6 := (VU.ex x6).frozen 0
           have E6 : Ex1 w.heap.size w6 (w6.setCell ⟨w.heap.size, 0, none⟩ (.slice A6 m6 c6)) := (Ex1.refl _ _).setCell (p := ⟨w.heap.size, 0, none⟩) rfl _
           have VX := (VU.ex x6).set_ 0 (.slice A6 m6 c6)
           have hnx : ∀ q, (Value.slice A6 m6 c6).ownBlock = some q → q < w.heap.size ∨ w.heap.size + 2 ≤ q := fun q e => by have := (n6.lt q e).1; omega
           have hX := ((n6.more (B' := B) (by omega)).k1 E6 (fun e => by rcases hnx _ e with h | h <;> omega))
           have vX := (vU.ex x6).ex1 E6 (by omega)
           have xX := (xU.trans x6).ex1 E6 (Nat.le_refl _)
           have HMX := Lib.hid (show (layL f t b).length = m6 by rw [HLL.out]; exact HM6.out)))
      all_goals
        obtain ⟨X, hXX⟩ : ∃ U, w6.setCell ⟨w.heap.size, 0, none⟩ (.slice A6 m6 c6) = U := ⟨_, rfl⟩
        rw [hXX] at VX hX vX xX ⊢
        clear E6 r6 z6 hXX
        have qX := VX.cell 0 (v := .slice A6 m6 c6) rfl
        have rX := vX.cell 0 (v := .slice none 0 0) rfl
        have zX := vX.frozen 0
        have C0 := (vX.set_ 0 (.slice A6 m6 c6)).cell 0 (v := .slice A6 m6 c6) rfl
        have E9 : Ex1 (w.heap.size + 1) X (X.setCell ⟨w.heap.size + 1, 0, none⟩ (.slice A6 m6 c6)) := (Ex1.refl _ _).setCell (p := ⟨w.heap.size + 1, 0, none⟩) rfl _
        have hF := hX.k1 E9 (fun e => by rcases hnx _ e with h | h <;> omega)
        have eF := xX.ex1 E9 (Nat.le_succ _)
        go_wp2_with fail
        refine bodyPost_ret (v := .agg #[.slice A6 m6 c6]) (by simp [results, Tryz.results43, go_sem, C0]) rfl ?_
        exact ⟨_, _, by rw [HMX.out], by rw [HMX.out]; exact hF, eF⟩

    · have hbI : ¬ ((0 : Int) < (b : Int)) := by omega
      have HLL := Lib.hid (show layL f t b = layF f t from if_neg hb)
      clear hf hb
      have VU := V0
      have hU : AN W1 B (.slice T t.length c) (layF f t) := by rw [HLF.out]; exact h1
      have vU := v1
      have xU := X1
      have zU : w.heap.size + 2 ≤ W1.heap.size := by omega
      have hne : ∀ q, (Value.slice T t.length c).ownBlock = some q → q < w.heap.size ∨ w.heap.size + 2 ≤ q := fun q e => .inl (ht.lt q e).2
      have HMU := Lib.hid (show (layF f t).length = t.length by rw [HLF.out])

      go_enter Tryz.func43, Tryz.ntmps43
      have VX := VU
      have hX : AN W1 B (.slice T t.length c) (layL f t b) := by rw [HLL.out]; exact hU
      have vX := vU
      have xX := xU
      have hnx := hne
      have HMX := Lib.hid (show (layL f t b).length = t.length by rw [HLL.out]; exact HMU.out)
      have qX := VX.cell 0 (v := .slice T t.length c) rfl
      have rX := vX.cell 0 (v := .slice none 0 0) rfl
      have zX := vX.frozen 0
      have C0 := (vX.set_ 0 (.slice T t.length c)).cell 0 (v := .slice T t.length c) rfl
      have E9 : Ex1 (w.heap.size + 1) W1 (W1.setCell ⟨w.heap.size + 1, 0, none⟩ (.slice T t.length c)) := (Ex1.refl _ _).setCell (p := ⟨w.heap.size + 1, 0, none⟩) rfl _
      have hF := hX.k1 E9 (fun e => by rcases hnx _ e with h | h <;> omega)
      have eF := xX.ex1 E9 (Nat.le_succ _)
      go_wp2_with fail
      refine bodyPost_ret (v := .agg #[.slice T t.length c]) (by simp [results, Tryz.results43, go_sem, C0]) rfl ?_
      exact ⟨_, _, by rw [HMX.out], by rw [HMX.out]; exact hF, eF⟩
end Go.Proofs.YtphdcgimibnajaaGreat
namespace Go.Proofs.YtphdcgimibnajaaGreat
set_option maxRecDepth 100000
open Go Go.RowKit
set_option maxHeartbeats 400000 in
theorem clone_c (A : Option Addr) (c : Nat) (xs : List Int) (w : World) (h : Rd w A xs) :
    Calls Tryz.prog 88 #[.slice A xs.length c] w fun e w' => ∃ g c', e = .returned (.slice (some ⟨g, 0, none⟩) xs.length c') ∧ xs.length ≤ c' ∧ w.heap.size ≤ g ∧ Own w' g xs ∧ Ex w w' := by
  have hl := h.len
  have hal : AL (w.alloc (.cells #[] 3)) w.heap.size (.slice (some ⟨w.heap.size, 0, none⟩) 0 0) [] := AL.empty w (Nat.le_refl _)
  obtain ⟨v', w1, hrun, hv, hx, hb⟩ := run_append_ints 23 23 Tryz.underlying23 _ _ _ _ hal (by simp) A c xs (h.ex ((Ex.refl w).alloc _)) (by simpa using hl)
  have hex : Ex w w1 := ((Ex.refl w).alloc (.cells #[] 3)).exo hx (fun g e => by simp [Value.ownBlock] at e; omega)
  obtain ⟨A', c', rfl, hf⟩ := hv.form (by simpa using hl)
  rw [List.nil_append] at hf hv
  have hA : ∃ g, A' = some ⟨g, 0, none⟩ := by
    rcases hv.2 with ⟨e, _⟩ | ⟨g, cap, cur, e, _⟩
    · injection e with e1 _ _
      subst e1
      rcases hb with hb | hb <;> simp [Value.ownBlock] at hb
    · injection e with e1 _ _
      exact ⟨g, e1⟩
  obtain ⟨g, rfl⟩ := hA
  obtain ⟨_, _, hc, hg, ho⟩ := hv.own
  go_enter Tryz.func88, Tryz.ntmps88
  go_wp2_with (at_builtin; refine wpList_append_run rfl _ _ _ rfl rfl rfl hrun ?_)
  go_ret
  exact ⟨g, c', rfl, hc, hg, ho, hex⟩
set_option maxHeartbeats 400000 in
theorem l1Own_c (A : Option Addr) (c : Nat) (xs : List Int) (w : World) (h : Rd w A xs) :
    Calls Tryz.prog 40 #[.slice A xs.length c] w fun e w' => ∃ g c', e = .returned (.slice (some ⟨g, 0, none⟩) xs.length c') ∧ xs.length ≤ c' ∧ w.heap.size ≤ g ∧ Own w' g xs ∧ Ex w w' := by
  have hl := h.len
  have hal : AL (w.alloc (.cells #[] 3)) w.heap.size (.slice (some ⟨w.heap.size, 0, none⟩) 0 0) [] := AL.empty w (Nat.le_refl _)
  obtain ⟨v', w1, hrun, hv, hx, hb⟩ := run_append_ints 23 23 Tryz.underlying23 _ _ _ _ hal (by simp) A c xs (h.ex ((Ex.refl w).alloc _)) (by simpa using hl)
  have hex : Ex w w1 := ((Ex.refl w).alloc (.cells #[] 3)).exo hx (fun g e => by simp [Value.ownBlock] at e; omega)
  obtain ⟨A', c', rfl, hf⟩ := hv.form (by simpa using hl)
  rw [List.nil_append] at hf hv
  have hA : ∃ g, A' = some ⟨g, 0, none⟩ := by
    rcases hv.2 with ⟨e, _⟩ | ⟨g, cap, cur, e, _⟩
    · injection e with e1 _ _
      subst e1
      rcases hb with hb | hb <;> simp [Value.ownBlock] at hb
    · injection e with e1 _ _
      exact ⟨g, e1⟩
  obtain ⟨g, rfl⟩ := hA
  obtain ⟨_, _, hc, hg, ho⟩ := hv.own
  go_enter Tryz.func40, Tryz.ntmps40
  go_wp2_with (at_builtin; refine wpList_append_run rfl _ _ _ rfl rfl rfl hrun ?_)
  go_ret
  exact ⟨g, c', rfl, hc, hg, ho, hex⟩
end Go.Proofs.YtphdcgimibnajaaGreat
namespace Go.Proofs.YtphdcgimibnajaaGreat
set_option maxRecDepth 100000
open Go Go.RowKit
theorem getD_at {l : List Int} {i : Nat} (h : i < l.length) : l[i]? = some (l.getD i 0) := by
  rw [List.getD_eq_getElem?_getD, List.getElem?_eq_getElem h]
  rfl
set_option maxHeartbeats 4000000 in
theorem permutationNodes_c (A : Option Addr) (c : Nat) (xs : List Int) (w : World) (h : Rd w A xs) (hx : xs.Nodup) (hn : xs.length ≤ 1000) :
    Calls Tryz.prog 55 #[.slice A xs.length c] w fun e w' => ∃ v, e = .returned v ∧ AN w' w.heap.size v (permN xs) ∧ Ex w w' := by
  have cC := clone_c A c xs w h
  have HI0 := Lib.hid (invN_le xs)
  have HX := Lib.hid hx
  obtain ⟨n, hnn⟩ : ∃ n, xs.length = n := ⟨_, rfl⟩
  have HN := Lib.hid hnn
  have HPN := Lib.hid (show permN xs = if (permL xs []).length = 0 then [nd 1 n] else permL xs [] by unfold permN; rw [hnn])
  rw [hnn] at cC hn ⊢
  obtain ⟨FIN, hF⟩ : ∃ FIN, permL xs [] = FIN := ⟨_, rfl⟩
  have HF := Lib.hid hF
  have HFL := Lib.hid (show FIN.length ≤ 6 * (n * n) by rw [← hF, ← hnn]; have := (permL_len xs []).2; simpa using this)
  have hn2 : n * n ≤ 1000000 := Nat.mul_le_mul hn hn
  have hFL6 : FIN.length ≤ 6000000 := by have := HFL.out; omega
  clear hx hnn hF
  go_enter Tryz.func55, Tryz.ntmps55
  go_wp2_with fail
  refine cC.mono ?_
  rintro e w1 ⟨g, c1, rfl, hc1, hg, ho, x1⟩
  have y2 := (Ex.refl w1).alloc (.cells #[] 84)
  have a2 : AN (w1.alloc (.cells #[] 84)) w1.heap.size (.slice (some ⟨w1.heap.size, 0, none⟩) 0 0) [] := AF.empty w1 (Nat.le_refl _)
  have hgl := ho.lt
  replace ho := ho.ex y2
  clear cC
  go_wp2_with fail
  generalize w1.alloc (.cells #[] 84) = W2 at *
  go_loopg [4, 5] (invN xs * (n + 1) + n) (fun f o i wr => ∃ (l : List Int) (k : Nat) (out : List Nd), i = .int .i64 k ∧ k ≤ n ∧ AN wr w1.heap.size o out ∧ Own wr g l ∧ Hid (l.length = n) ∧ Hid (l.Nodup) ∧ Hid (∀ j, j < k → j + 1 < n → l.getD j 0 ≤ l.getD (j + 1) 0) ∧ Hid (permL l out = FIN) ∧ Hid (invN l * (n + 1) + (n - k) ≤ f) ∧ Ex w wr ∧ w1.heap.size ≤ wr.heap.size)
  case atStart => exact ⟨xs, 0, [], rfl, Nat.zero_le _, a2, ho, HN, HX, Lib.hid (fun j hj => by omega), HF, Lib.hid (by omega), x1.trans y2, y2.size⟩
  case round =>
    rename World => wi
    clear ho a2 y2 HI0
    obtain ⟨l, k, out, rfl, hk, han, hol, HL, HD, HP, HG, HM, he, hsz⟩ := hrel
    have hol6 : out.length ≤ 6000000 := by have := (permL_len l out).1; rw [HG.out] at this; omega
    have hk1 : IntKind.i64.wrap ((k : Int) + 1) = ((k + 1 : Nat) : Int) := by rw [IntWalk.i64_in _ (by omega)]; omega
    obtain ⟨A3, c3, e3, _⟩ := han.form
    obtain ⟨m, hm⟩ : ∃ m, out.length = m := ⟨_, rfl⟩
    have HMo := Lib.hid hm
    rw [hm] at e3 hol6
    subst e3
    clear hm
    by_cases hlt : k + 1 < n
    · have hx0 : l[k]? = some (l.getD k 0) := getD_at (by rw [HL.out]; omega)
      have hx1 : l[k + 1]? = some (l.getD (k + 1) 0) := getD_at (by rw [HL.out]; omega)
      obtain ⟨x, hxx⟩ : ∃ x, l.getD k 0 = x := ⟨_, rfl⟩
      obtain ⟨y, hyy⟩ : ∃ y, l.getD (k + 1) 0 = y := ⟨_, rfl⟩
      rw [hxx] at hx0
      rw [hyy] at hx1
      have q0 := hol.cell hx0
      have q1 := hol.cell hx1
      have z0 := hol.frozen k
      have z1 := hol.frozen (k + 1)
      have HXX := Lib.hid hxx
      have HYY := Lib.hid hyy
      have hne : x ≠ y := fun e => by
        have h1 := (List.getElem?_eq_some_iff.1 hx0)
        have h2 := (List.getElem?_eq_some_iff.1 hx1)
        obtain ⟨i1, e1⟩ := h1
        obtain ⟨i2, e2⟩ := h2
        have := (List.getElem_inj HD.out).1 (show l[k] = l[k + 1] by rw [e1, e2, e])
        omega
      have HX0 := Lib.hid hx0
      clear hxx hyy hx0 hx1
      have hk2 : ((k + 1 : Nat) : Int) < (n : Int) := by omega
      by_cases hlt2 : x < y
      · have HP2 := Lib.hid (show ∀ j, j < k + 1 → j + 1 < n → l.getD j 0 ≤ l.getD (j + 1) 0 from fun j hj hjn => by
          by_cases e : j < k
          · exact HP.out j e hjn
          · obtain rfl : j = k := by omega
            rw [HXX.out, HYY.out]; omega)
        go_wp2_with fail
        go_quiet (fail)
        go_wp2_with fail
        go_roundg (gk - 1)
        case measure => have := HM.out; omega
        case rel => exact ⟨l, k + 1, out, by go_num, by omega, han.ex ((Ex.refl wi).drewN _), hol.drewN _, HL, HD, HP2, HG, Lib.hid (by have := HM.out; omega), he.drewN _, hsz⟩
      · have hgt : y < x := by omega
        have HS := Lib.hid (desc_at (l := l) (i := k) (fun j hj => HP.out j hj (by omega)) (by rw [HL.out]; exact hlt) (by rw [HXX.out, HYY.out]; exact hgt))
        have HSW := Lib.hid (show swapI l k = (l.set k y).set (k + 1) x by unfold swapI; rw [HXX.out, HYY.out])
        have HG2 := Lib.hid (show permL (swapI l k) (addL out (swpN l k)) = FIN by rw [← HG.out, permL_some HS.out])
        have HIN := Lib.hid (invN_swap l k (by rw [HL.out]; exact hlt) (by rw [HXX.out, HYY.out]; exact hgt))
        have HL2 := Lib.hid (show (swapI l k).length = n by rw [swapI_len]; exact HL.out)
        have HD2 := Lib.hid (show (swapI l k).Nodup from ((swapI_perm l k (by rw [HL.out]; exact hlt)).nodup_iff).2 HD.out)
        have HSN := Lib.hid (show swpN l k = layL k [nd 2 0] (n - 2 - k) by unfold swpN; rw [HL.out])
        go_wp2_with fail
        go_quiet (fail)
        go_wp2_with fail
        go_region
        have ho2 : Own ((((wi.drewN (nq + 1))).setCell ⟨g, k, none⟩ (.int .i64 y)).setCell ⟨g, k + 1, none⟩ (.int .i64 x)) g ((l.set k y).set (k + 1) x) := ((hol.drewN (nq + 1)).set_ k y).set_ (k + 1) x
        have e2 : Ex1 g wi ((((wi.drewN (nq + 1))).setCell ⟨g, k, none⟩ (.int .i64 y)).setCell ⟨g, k + 1, none⟩ (.int .i64 x)) := (((Ex1.refl g wi).drewN (nq + 1)).setCell (p := ⟨g, k, none⟩) rfl _).setCell (p := ⟨g, k + 1, none⟩) rfl _
        have xw2 := he.ex1 e2 hg
        have an2 := han.k1 e2 (fun e => by have := (han.lt g e).1; omega)
        have z2 := e2.size
        clear q0 q1 z0 z1 hol han
        go_wp2_with fail
        generalize (((wi.drewN (nq + 1))).setCell ⟨g, k, none⟩ (.int .i64 y)).setCell ⟨g, k + 1, none⟩ (.int .i64 x) = W3 at *
        refine (layer_c n k (by omega) hn W3).mono ?_
        rintro e w4 ⟨v4, rfl, o4, x4⟩
        rw [← HSN.out] at o4
        have hsl := swpN_len l k
        obtain ⟨A4, c4, e4, hR4⟩ := o4.rd (by omega)
        obtain ⟨m4, hm4⟩ : ∃ m4, (swpN l k).length = m4 := ⟨_, rfl⟩
        have HM4 := Lib.hid hm4
        rw [hm4] at e4 hsl
        subst e4
        clear hm4
        have an4 := an2.ex x4
        have ho4 := ho2.ex x4
        have xw4 := xw2.trans x4
        have z4 := x4.size
        by_cases hm0 : 0 < m
        · have hm0' : (0 : Int) < (m : Int) := by omega
          obtain ⟨A5, c5, e5, hR5⟩ := an4.rd (by rw [HMo.out]; omega)
          rw [HMo.out] at e5
          injection e5 with e5 _ e6
          subst e5 e6
          have HAD := Lib.hid (show addL out (swpN l k) = jn 15 out (swpN l k) from if_neg (by rw [HMo.out]; omega))
          have jN := joinNodes_c 15 out (swpN l k) A3 A4 c3 c4 w4 hR5 hR4 (by rw [HMo.out]; omega) (by rw [HM4.out]; omega)
          rw [HMo.out, HM4.out] at jN
          go_wp2_with fail
          refine jN.mono ?_
          rintro e w5 ⟨v5, rfl, o5, x5⟩
          have z5 := x5.size
          rw [← HAD.out] at o5
          go_wp2_with fail
          have hle := HIN.out
          go_roundg (gk - 1)
          case measure => have := HM.out; rw [← hle, Nat.succ_mul] at this; omega
          case rel => exact ⟨swapI l k, 0, addL out (swpN l k), by go_num, Nat.zero_le _, o5.more (by omega), by rw [HSW.out]; exact ho4.ex x5, HL2, HD2, Lib.hid (fun j hj => by omega), HG2, Lib.hid (by have := HM.out; rw [← hle, Nat.succ_mul] at this; omega), xw4.trans x5, by omega⟩
        · have hm0' : ¬ (0 : Int) < (m : Int) := by omega
          have HAD := Lib.hid (show addL out (swpN l k) = swpN l k from if_pos (by rw [HMo.out]; omega))
          rw [← HAD.out] at o4
          go_wp2_with fail
          have hle := HIN.out
          go_roundg (gk - 1)
          case measure => have := HM.out; rw [← hle, Nat.succ_mul] at this; omega
          case rel => exact ⟨swapI l k, 0, addL out (swpN l k), by go_num, Nat.zero_le _, o4.more (by omega), by rw [HSW.out]; exact ho4, HL2, HD2, Lib.hid (fun j hj => by omega), HG2, Lib.hid (by have := HM.out; rw [← hle, Nat.succ_mul] at this; omega), xw4, by omega⟩
    · have HFI := Lib.hid (show out = FIN by
        rw [← HG.out, permL_none (desc_none fun j hj => HP.out j (by rw [HL.out] at hj; omega) (by rw [← HL.out]; exact hj))])
      by_cases hm0 : m = 0
      · subst hm0
        go_wp2_with fail
        refine (leafOf_c 1 n wi).mono ?_
        rintro e w4 ⟨rfl, x4⟩
        have y5 := (Ex.refl w4).alloc (.cells #[.int .i64 1, .int .i64 n, .string ⟨#[]⟩] 84)
        have o5 := an_one w4 (B := w.heap.size) (he.trans x4).size 1 n
        go_wp2_with fail
        go_ret
        rw [HPN.out, if_pos (by rw [HF.out, ← HFI.out]; exact HMo.out)]
        exact ⟨_, rfl, o5, (he.trans x4).trans y5⟩
      · have hm0' : ¬ (m : Int) = 0 := by omega
        have zw := x1.size
        go_wp2_with fail
        go_ret
        rw [HPN.out, if_neg (by rw [HF.out, ← HFI.out, HMo.out]; exact hm0), HF.out, ← HFI.out]
        exact ⟨_, rfl, han.more zw, he⟩
end Go.Proofs.YtphdcgimibnajaaGreat
namespace Go.Proofs.YtphdcgimibnajaaGreat
set_option maxRecDepth 100000
open Go Go.RowKit
/-- What has been composed so far: nothing stands as an identity. -/
def outP (n : Nat) (out : List Nd) : List Nd := if out.length = 0 then [nd 1 n] else out
set_option maxHeartbeats 8000000 in
theorem tmPerm_c (A : Option Addr) (c : Nat) (xs : List Int) (w : World) (h : Rd w A xs) (hn : xs.length ≤ 1000) :
    Calls Tryz.prog 82 #[.slice A xs.length c] w fun e w' => TmO w w.heap.size (permN xs) e w' := by
  have HI0 := Lib.hid (invN_le xs)
  obtain ⟨n, hnn⟩ : ∃ n, xs.length = n := ⟨_, rfl⟩
  have HN := Lib.hid hnn
  obtain ⟨FIN, hF⟩ : ∃ FIN, permL xs [] = FIN := ⟨_, rfl⟩
  have HF := Lib.hid hF
  have HPN := Lib.hid (show permN xs = outP n FIN by unfold permN outP; rw [hF, hnn])
  have HFL := Lib.hid (show FIN.length ≤ 6 * (n * n) by rw [← hF, ← hnn]; have := (permL_len xs []).2; simpa using this)
  have hn2 : n * n ≤ 1000000 := by rw [hnn] at hn; exact Nat.mul_le_mul hn hn
  have hFL6 : FIN.length ≤ 6000000 := by have := HFL.out; omega
  have hiv : invN xs ≤ 1000000 := by have := HI0.out; rw [hnn] at this; omega
  have x0 := (Ex.refl w).alloc (.cells #[.slice none 0 0] 29)
  have v0 := VB.new w 29 #[.slice none 0 0]
  obtain ⟨W0, hW0⟩ : ∃ W, w.alloc (.cells #[.slice none 0 0] 29) = W := ⟨_, rfl⟩
  have s0 : W0.heap.size = w.heap.size + 1 := by rw [← hW0]; simp
  rw [hW0] at x0 v0
  have cO := l1Own_c A c xs W0 (h.ex x0)
  rw [hnn] at cO hn ⊢
  clear hnn hF
  go_enter Tryz.func82, Tryz.ntmps82
  go_wp2_with fail
  refine cO.mono ?_
  rintro e w1 ⟨g, c1, rfl, hc1, hg, ho, x1⟩
  clear cO
  go_wp2_with fail
  refine (tmId_c n w1).mono ?_
  rintro e w2 ⟨A2, c2, rfl, n2, x2⟩
  have n2 : AN w2 w1.heap.size (.slice A2 1 c2) [nd 1 n] := n2
  have X2 := (x0.trans x1).trans x2
  have v2 := (v0.ex x1).ex x2
  have ho2 := ho.ex x2
  have hgl := ho.lt
  have z1 := x1.size
  have z2 := x2.size
  have y3 := (Ex.refl w2).alloc (.cells #[.slice A2 1 c2] 29)
  have b3 := VB.new w2 29 #[.slice A2 1 c2]
  obtain ⟨W3, hW3⟩ : ∃ W, w2.alloc (.cells #[.slice A2 1 c2] 29) = W := ⟨_, rfl⟩
  have s3 : W3.heap.size = w2.heap.size + 1 := by rw [← hW3]; simp
  rw [hW3] at y3 b3
  have hlen1 : [nd 1 (n : Int)].length = 1 := rfl
  clear hlen1
  go_wp2_with fail
  have B3 : VB W3 w2.heap.size 29 #[.slice A2 1 c2] := b3
  have N3 := (n2.more (B' := w.heap.size + 1) (by omega)).ex y3
  have V3 := v2.ex y3
  have O3 := ho2.ex y3
  have E3 := X2.trans y3
  have hne3 : ∀ z, (Value.slice A2 1 c2).ownBlock = some z → z ≠ w2.heap.size ∧ z ≠ g := fun z e => by have := n2.lt z e; have := ho.lt; omega
  have hg0 : w.heap.size < g := by omega
  have hg2 : g < w2.heap.size := by omega
  have hz0 : w.heap.size < w2.heap.size := by omega
  clear b3 n2 y3 v2 ho2 X2 x0 x1 x2 v0 hW0 hW3 ho
  go_loopg [6] (invN xs + 1) (fun f s6 wr => ∃ (l : List Int) (q : Nat) (Y : Option Addr) (yc m : Nat) (out : List Nd), s6 = .int .i64 q ∧ Own wr g l ∧ Hid (l.length = n) ∧ Hid (permL l out = FIN) ∧ Hid (invN l + 1 ≤ f) ∧ q + invN l ≤ 1000000 ∧ Hid (q = 0 ↔ out.length = 0) ∧ Hid ((outP n out).length = m) ∧
      VB wr w2.heap.size 29 #[.slice Y m yc] ∧ AN wr (w.heap.size + 1) (.slice Y m yc) (outP n out) ∧ (∀ z, (Value.slice Y m yc).ownBlock = some z → z ≠ w2.heap.size ∧ z ≠ g) ∧ VB wr w.heap.size 29 #[.slice none 0 0] ∧ Ex w wr ∧ w2.heap.size + 1 ≤ wr.heap.size)
  case atStart => exact ⟨xs, 0, A2, c2, 1, [], rfl, O3, HN, HF, Lib.hid (Nat.le_refl _), by omega, Lib.hid (by simp), Lib.hid rfl, B3, N3, hne3, V3, E3, by omega⟩
  case round =>
    rename World => wi
    clear O3 B3 N3 hne3 V3 E3 HI0 s3
    obtain ⟨l, q, Y, yc, m, out, rfl, hol, HL, HG, HM, hq, HQ, HO, hB, hA, hne, hV, he, hsz⟩ := hrel
    go_wp2_with fail
    go_loopw [7] (fun s7 wr => ∃ i : Nat, s7 = .int .i64 i ∧ (i < n ∨ i = 0) ∧ Hid (∀ j, j < i → j + 1 < n → l.getD j 0 ≤ l.getD (j + 1) 0) ∧ Ex wi wr) (fun s7 _ => n - (intOf s7).toNat)
    case atStart => exact ⟨0, rfl, .inr rfl, Lib.hid (fun j hj => by omega), Ex.refl _⟩
    case round =>
      obtain ⟨i, rfl, hin, HP, e1⟩ := hrel
      obtain ⟨i1, hi1⟩ : ∃ z, i + 1 = z := ⟨_, rfl⟩
      have HI1 := Lib.hid hi1
      have hk1 : IntKind.i64.wrap ((i : Int) + 1) = (i1 : Int) := by rw [IntWalk.i64_in _ (by omega)]; omega
      have hol1 := hol.ex e1
      by_cases hlt : i + 1 < n
      · have hk2 : (i1 : Int) < (n : Int) := by omega
        have hk3 : i < n := by omega
        have hk4 : i1 < n := by omega
        have hx0 : l[i]? = some (l.getD i 0) := getD_at (by rw [HL.out]; omega)
        have hx1 : l[i + 1]? = some (l.getD (i + 1) 0) := getD_at (by rw [HL.out]; omega)
        obtain ⟨x, hxx⟩ : ∃ x, l.getD i 0 = x := ⟨_, rfl⟩
        obtain ⟨y, hyy⟩ : ∃ y, l.getD (i + 1) 0 = y := ⟨_, rfl⟩
        rw [hxx] at hx0
        rw [hyy] at hx1
        have p0 := hol1.cell hx0
        rw [hi1] at hx1
        have p1 := hol1.cell hx1
        have f0 := hol1.frozen i
        have f1 := hol1.frozen i1
        have HXX := Lib.hid hxx
        have HYY := Lib.hid hyy
        clear hx0 hx1 hxx hyy hi1
        by_cases hle : x ≤ y
        · have HP2 := Lib.hid (show ∀ j, j < i + 1 → j + 1 < n → l.getD j 0 ≤ l.getD (j + 1) 0 from fun j hj hjn => by
            by_cases e : j < i
            · exact HP.out j e hjn
            · obtain rfl : j = i := by omega
              rw [HXX.out, HYY.out]; exact hle)
          clear hlt
          go_wp2_with fail
          go_quiet (fail)
          go_wp2_with fail
          go_roundw
          case rel => exact ⟨i1, by go_num, .inl hk4, by rw [← HI1.out]; exact HP2, e1.drewN _⟩
          case measure => have := HI1.out; simp [intOf]; omega
        · have hgt : y < x := by omega
          have hnle : ¬ (x ≤ y) := hle
          have HPI := Lib.hid (show ∀ j, j < i → l.getD j 0 ≤ l.getD (j + 1) 0 from fun j hj => HP.out j hj (by omega))
          have HS := Lib.hid (desc_at (l := l) (i := i) HPI.out (by rw [HL.out]; exact hlt) (by rw [HXX.out, HYY.out]; exact hgt))
          have HSW := Lib.hid (show swapI l i = (l.set i y).set (i + 1) x by unfold swapI; rw [HXX.out, HYY.out])
          have HG2 := Lib.hid (show permL (swapI l i) (addL out (swpN l i)) = FIN by rw [← HG.out, permL_some HS.out])
          have HIN := Lib.hid (invN_swap l i (by rw [HL.out]; exact hlt) (by rw [HXX.out, HYY.out]; exact hgt))
          have HL2 := Lib.hid (show (swapI l i).length = n by rw [swapI_len]; exact HL.out)
          have HSN := Lib.hid (show swpN l i = layL i [nd 2 0] (n - 2 - i) by unfold swpN; rw [HL.out])
          have hin1 : invN (swapI l i) + 1 = invN l := HIN.out
          obtain ⟨r, hr⟩ : ∃ r, n - 2 - i = r := ⟨_, rfl⟩
          have hw2 : IntKind.i64.wrap ((n : Int) - 2) = (n : Int) - 2 := IntWalk.i64_in _ (by omega)
          have hw3 : IntKind.i64.wrap ((n : Int) - 2 - (i : Int)) = (r : Int) := by rw [IntWalk.i64_in _ (by omega)]; omega
          have hwq : IntKind.i64.wrap ((q : Int) + 1) = ((q + 1 : Nat) : Int) := by rw [IntWalk.i64_in _ (by omega)]; omega
          have hge : ¬ ((n : Int) ≤ (i1 : Int)) := by omega
          rw [hr] at HSN
          clear hr hlt hle
          go_wp2_with fail
          go_quiet (fail)
          have e2 := e1.drewN nq
          have B4 := hB.ex e2
          have V4 := hV.ex e2
          have A4 := hA.ex e2
          have O4 := hol.ex e2
          have z4 := e2.size
          clear hB hV hA e1 hol1 p0 p1 f0 f1
          have X4 := he.trans e2
          generalize wr.drewN nq = W4 at *
          have hx0 : l[i]? = some x := by rw [← HXX.out]; exact getD_at (by rw [HL.out]; exact hk3)
          have hx1 : l[i1]? = some y := by rw [← HYY.out, HI1.out]; exact getD_at (by rw [HL.out]; exact hk4)
          have p0 := O4.cell hx0
          have p1 := O4.cell hx1
          have f0 := O4.frozen i
          have f1 := O4.frozen i1
          have hii : i ≠ i1 := by have := HI1.out; omega
          have p2 := (O4.set_ i y).cell (show (l.set i y)[i1]? = some y by rw [List.getElem?_set_ne hii]; exact hx1)
          have f2 := (O4.set_ i y).frozen i1
          have O5 : Own ((W4.setCell ⟨g, i, none⟩ (.int .i64 y)).setCell ⟨g, i1, none⟩ (.int .i64 x)) g ((l.set i y).set i1 x) := (O4.set_ i y).set_ i1 x
          have E5 : Ex1 g W4 ((W4.setCell ⟨g, i, none⟩ (.int .i64 y)).setCell ⟨g, i1, none⟩ (.int .i64 x)) := ((Ex1.refl g W4).setCell (p := ⟨g, i, none⟩) rfl _).setCell (p := ⟨g, i1, none⟩) rfl _
          have X5 := X4.ex1 E5 (by omega)
          have A5 := A4.k1 E5 (fun e => (hne g e).2 rfl)
          have B5 := B4.ex1 E5 (by omega)
          have V5 := V4.ex1 E5 (by omega)
          have z5 := E5.size
          clear hx0 hx1
          go_wp2_with fail
          clear p0 p1 f0 f1 p2 f2 O4 E5 B4 V4 A4
          generalize (W4.setCell ⟨g, i, none⟩ (.int .i64 y)).setCell ⟨g, i1, none⟩ (.int .i64 x) = W5 at *
          refine (tmOne_c 2 0 W5).mono ?_
          rintro e w6 ⟨A6, c6, rfl, n6, x6⟩
          have n6 : AN w6 W5.heap.size (.slice A6 1 c6) [nd 2 0] := n6
          go_wp2_with fail
          have hlay := tmLayer_c i r [nd 2 0] A6 c6 W5.heap.size w6 n6 x6.size (by simp)
          rw [← HSN.out] at hlay
          refine hlay.mono ?_
          clear hlay
          rintro e w7 ⟨A7, c7, rfl, n7, x7⟩
          obtain ⟨m7, hm7⟩ : ∃ m, (swpN l i).length = m := ⟨_, rfl⟩
          have HM7 := Lib.hid hm7
          rw [hm7] at n7 ⊢
          clear hm7
          have y57 := x6.trans x7
          have y8 := (Ex.refl w7).alloc (.cells #[.slice A7 m7 c7] 29)
          have b8 := VB.new w7 29 #[.slice A7 m7 c7]
          obtain ⟨W8, hW8⟩ : ∃ W, w7.alloc (.cells #[.slice A7 m7 c7] 29) = W := ⟨_, rfl⟩
          rw [hW8] at y8 b8
          have Y8 := y57.trans y8
          have z7 := y57.size
          have z8 := y8.size
          have A8 := A5.ex Y8
          have B8 := B5.ex Y8
          have V8 := V5.ex Y8
          have O8 := O5.ex Y8
          have X8 := X5.trans Y8
          have n8 := n7.ex y8
          have hsl := swpN_len l i
          have q9 := b8.cell 0 (v := .slice A7 m7 c7) rfl
          have t5 := B8.cell 0 (v := .slice Y m yc) rfl
          have f5 := B8.frozen 0
          clear A5 B5 V5 O5 n6 n7
          by_cases hq0 : q = 0
          · have hq0I : (q : Int) = 0 := by omega
            have ho0 : out.length = 0 := HQ.out.1 hq0
            have HAD := Lib.hid (show addL out (swpN l i) = swpN l i from if_pos ho0)
            have HOP := Lib.hid (show outP n (addL out (swpN l i)) = swpN l i by rw [HAD.out]; exact if_neg (by omega))
            have E9 : Ex1 w2.heap.size W8 (W8.setCell ⟨w2.heap.size, 0, none⟩ (.slice A7 m7 c7)) := (Ex1.refl _ _).setCell (p := ⟨w2.heap.size, 0, none⟩) rfl _
            have B9 := B8.set_ 0 (.slice A7 m7 c7)
            have hnn : ∀ z, (Value.slice A7 m7 c7).ownBlock = some z → z ≠ w2.heap.size ∧ z ≠ g := fun z e => by have := (n8.lt z e).1; omega
            have A9 := (n8.more (B' := w.heap.size + 1) (by omega)).k1 E9 (fun e => (hnn _ e).1 rfl)
            rw [← HOP.out] at A9
            have HO2 := Lib.hid (show (outP n (addL out (swpN l i))).length = m7 by rw [HOP.out]; exact HM7.out)
            have HQ2 := Lib.hid (show q + 1 = 0 ↔ (addL out (swpN l i)).length = 0 by rw [HAD.out]; omega)
            have O9 := O8.ex1 E9 (by omega)
            have V9 := V8.ex1 E9 (by omega)
            have X9 := X8.ex1 E9 (by omega)
            have z9 := E9.size
            clear hq0 ho0 hsl
            go_wp2_with fail
            go_roundg (gk - 1)
            case measure => have := HM.out; omega
            case rel => exact ⟨swapI l i, q + 1, A7, c7, m7, addL out (swpN l i), by go_num, by rw [HSW.out, HI1.out]; exact O9, HL2, HG2, Lib.hid (by have := HM.out; omega), by omega, HQ2, HO2, B9, A9, hnn, V9, X9, by omega⟩
          · have hq0I : ¬ ((q : Int) = 0) := by omega
            have ho0 : out.length ≠ 0 := fun e => hq0 (HQ.out.2 e)
            have HAD := Lib.hid (show addL out (swpN l i) = jn 15 out (swpN l i) from if_neg ho0)
            have HOO := Lib.hid (show outP n out = out from if_neg ho0)
            have HOP := Lib.hid (show outP n (addL out (swpN l i)) = jn 15 out (swpN l i) by rw [HAD.out]; exact if_neg (by rw [jn_len]; omega))
            have hol6 : out.length ≤ 6000000 := by have := (permL_len l out).1; rw [HG.out] at this; omega
            have HMo := Lib.hid (show out.length = m by rw [← HO.out, HOO.out])
            rw [HOO.out] at A8
            have hsq := tmSeq_c out (swpN l i) Y A7 yc c7 W8 (A8.rdx (by omega)) (n8.rdx (by omega)) (by omega) (by omega)
            rw [HMo.out, HM7.out] at hsq
            clear hq0 ho0 hsl
            go_wp2_with fail
            refine hsq.mono ?_
            clear hsq
            rintro e w9 ⟨A9, c9, rfl, n9, x9⟩
            obtain ⟨m9, hm9⟩ : ∃ m, (jn 15 out (swpN l i)).length = m := ⟨_, rfl⟩
            have HM9 := Lib.hid hm9
            rw [hm9] at n9 ⊢
            clear hm9 q9 t5 f5
            have B10 := B8.ex x9
            have t5 := B10.cell 0 (v := .slice Y m yc) rfl
            have f5 := B10.frozen 0
            have E9 : Ex1 w2.heap.size w9 (w9.setCell ⟨w2.heap.size, 0, none⟩ (.slice A9 m9 c9)) := (Ex1.refl _ _).setCell (p := ⟨w2.heap.size, 0, none⟩) rfl _
            have B9 := B10.set_ 0 (.slice A9 m9 c9)
            have hnn : ∀ z, (Value.slice A9 m9 c9).ownBlock = some z → z ≠ w2.heap.size ∧ z ≠ g := fun z e => by have := (n9.lt z e).1; omega
            have A10 := (n9.more (B' := w.heap.size + 1) (by omega)).k1 E9 (fun e => (hnn _ e).1 rfl)
            rw [← HOP.out] at A10
            have HO2 := Lib.hid (show (outP n (addL out (swpN l i))).length = m9 by rw [HOP.out]; exact HM9.out)
            have HQ2 := Lib.hid (show q + 1 = 0 ↔ (addL out (swpN l i)).length = 0 by rw [HAD.out, jn_len]; omega)
            have O9 := (O8.ex x9).ex1 E9 (by omega)
            have V9 := (V8.ex x9).ex1 E9 (by omega)
            have X9 := (X8.trans x9).ex1 E9 (by omega)
            have z9 := x9.size
            have z10 := E9.size
            go_wp2_with fail
            go_roundg (gk - 1)
            case measure => have := HM.out; omega
            case rel => exact ⟨swapI l i, q + 1, A9, c9, m9, addL out (swpN l i), by go_num, by rw [HSW.out, HI1.out]; exact O9, HL2, HG2, Lib.hid (by have := HM.out; omega), by omega, HQ2, HO2, B9, A10, hnn, V9, X9, by omega⟩
      · have hk2 : ¬ ((i1 : Int) < (n : Int)) := by omega
        have HFI := Lib.hid (show out = FIN by
          rw [← HG.out, permL_none (desc_none fun j hj => HP.out j (by rw [HL.out] at hj; omega) (by rw [← HL.out]; exact hj))])
        have hcs : i1 = n ∨ (n = 0 ∧ i = 0 ∧ i1 = 1) := by omega
        clear hlt hk2
        rcases hcs with hc1 | ⟨hc1, hc2, hc3⟩
        · subst hc1
          clear hi1
          go_wp2_with fail
          go_quiet (fail)
          have e2 := e1.drewN nq
          have B4 := hB.ex e2
          have V4 := hV.ex e2
          have A4 := hA.ex e2
          generalize wr.drewN nq = W4 at *
          have r0 := B4.cell 0 (v := .slice Y m yc) rfl
          have r1 := V4.cell 0 (v := .slice none 0 0) rfl
          have f1 := V4.frozen 0
          have E9 : Ex1 w.heap.size W4 (W4.setCell ⟨w.heap.size, 0, none⟩ (.slice Y m yc)) := (Ex1.refl _ _).setCell (p := ⟨w.heap.size, 0, none⟩) rfl _
          have C0 := (V4.set_ 0 (.slice Y m yc)).cell 0 (v := .slice Y m yc) rfl
          have hF := A4.k1 E9 (fun e => by have := (A4.lt _ e).1; omega)
          have eF := (he.trans e2).ex1 E9 (Nat.le_refl _)
          go_wp2_with fail
          refine bodyPost_ret (v := .agg #[.slice Y m yc]) (by simp [results, Tryz.results82, go_sem, C0]) rfl ?_
          refine ⟨Y, yc, ?_, ?_, eF⟩
          · rw [HPN.out, ← HFI.out, HO.out]
          · rw [HPN.out, ← HFI.out, HO.out]; exact hF.more (by omega)
        · clear hi1
          subst hc1 hc2 hc3
          go_wp2_with fail
          go_quiet (fail)
          have e2 := e1.drewN nq
          have B4 := hB.ex e2
          have V4 := hV.ex e2
          have A4 := hA.ex e2
          generalize wr.drewN nq = W4 at *
          have r0 := B4.cell 0 (v := .slice Y m yc) rfl
          have r1 := V4.cell 0 (v := .slice none 0 0) rfl
          have f1 := V4.frozen 0
          have E9 : Ex1 w.heap.size W4 (W4.setCell ⟨w.heap.size, 0, none⟩ (.slice Y m yc)) := (Ex1.refl _ _).setCell (p := ⟨w.heap.size, 0, none⟩) rfl _
          have C0 := (V4.set_ 0 (.slice Y m yc)).cell 0 (v := .slice Y m yc) rfl
          have hF := A4.k1 E9 (fun e => by have := (A4.lt _ e).1; omega)
          have eF := (he.trans e2).ex1 E9 (Nat.le_refl _)
          go_wp2_with fail
          refine bodyPost_ret (v := .agg #[.slice Y m yc]) (by simp [results, Tryz.results82, go_sem, C0]) rfl ?_
          refine ⟨Y, yc, ?_, ?_, eF⟩
          · rw [HPN.out, ← HFI.out, HO.out]
          · rw [HPN.out, ← HFI.out, HO.out]; exact hF.more (by omega)
end Go.Proofs.YtphdcgimibnajaaGreat
