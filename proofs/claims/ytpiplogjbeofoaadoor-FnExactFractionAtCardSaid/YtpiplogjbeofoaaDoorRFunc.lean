/- A range over slices.Backward: the iterator's contract (lines of a worked proof of the kit, turned to this iterator); the value of a polynomial. -/
import Derived.Test.YtpiplogjbeofoaaDoorFrac5
import Derived.RangeFuncNested
import Derived.RangeFuncBound
import Derived.RangeFuncCalls
import Derived.RangeFuncLeaves
import Derived.RangeFuncFrom
import Derived.RangeFuncBox
import Derived.Shelf.Abstract
import Derived.Shelf.RegionOpen
import Derived.OwnWalkIn
import Derived.TacticsInMore
import Derived.LoopNIn
import Derived.LoopIn
namespace Go.Proofs.YtpiplogjbeofoaaDoor
set_option maxRecDepth 100000
open Go Go.RowKit Go.Shelf
attribute [local go_sem] Oper.semAt_some
/-- What has come when k rounds are over. -/
def upto {α : Type} (f : Nat → α) (k : Nat) : List α := (List.range k).map f
theorem upto_succ {α : Type} (f : Nat → α) (k : Nat) : upto f (k + 1) = upto f k ++ [f k] := by simp [upto, List.range_succ]
theorem upto_length {α : Type} (f : Nat → α) (k : Nat) : (upto f k).length = k := by simp [upto]
/-- The pair that comes in round j. -/
def bwAt (zs : List Int) (j : Nat) : Nat × Int := (zs.length - 1 - j, zs[zs.length - 1 - j]?.getD 0)
/-- What a round must keep: what lay below n₀, and the block Bs. -/
def KpB (n₀ Bs : Nat) (W W' : World) : Prop := Below n₀ W W' ∧ W'.heap[Bs]? = W.heap[Bs]?
theorem KpB.refl (n₀ Bs : Nat) (W : World) : KpB n₀ Bs W W := ⟨Below.refl _ _, rfl⟩
theorem KpB.trans {n₀ Bs : Nat} {A B C : World} (h : KpB n₀ Bs A B) (k : KpB n₀ Bs B C) : KpB n₀ Bs A C := ⟨h.1.trans k.1, k.2.trans h.2⟩
theorem KpB.putObj {n₀ Bs : Nat} {w : World} (hn : n₀ ≤ w.heap.size) (hb : Bs < w.heap.size) (W : World) (l : Nat) (o o' : Obj) (hl : w.heap.size ≤ l) (h : W.heap[l]? = some o) (h1 : o.isCells = false) (h2 : o.isWalk = false) : KpB n₀ Bs W (W.putObj l o') :=
  ⟨belowK_b hn W l o o' hl h h1 h2, (grownBy_putObj' W l o').block Bs (by have := (Array.getElem?_eq_some_iff.1 h).1; omega) (by intro e; injection e with e; omega)⟩
set_option maxHeartbeats 2000000 in
theorem bw1_in (F : Fence) (n : Nat) (h7 : F.fn 169) (hro : F.round = none) (hn : 1 ≤ n) (l Bs n₀ : Nat) (A : Option Addr) (cap : Nat) (zs : List Int) (J Jx : List (Nat × Int) → World → Prop)
    (hY : ∀ pre x W, J pre W → pre.length < zs.length → YieldAt F (n - 1) Tryd.prog l #[.int .i64 (x.1 : Int), .int .i64 x.2] W fun e W' =>
      (e = .returned (.bool true) ∧ J (pre ++ [x]) W' ∧ KpB n₀ Bs W W') ∨ (e = .returned (.bool false) ∧ Jx (pre ++ [x]) W'))
    (W : World) (hBs : W.cell? ⟨Bs, 0, none⟩ = some (.slice A zs.length cap)) (hc : Rd W A zs) (hlo : zs ≠ [] → Lo A n₀) (h0 : J [] W) :
    CallsIn F n Tryd.prog 169 #[.func (.yield l) #[] #[], .pointer (some ⟨Bs, 0, none⟩)] W fun e W' => (∃ v, e = .returned v) ∧
      ((∃ ys, ys = upto (bwAt zs) zs.length ∧ J ys W') ∨ (∃ pre, (∃ k, k ≤ zs.length ∧ pre = upto (bwAt zs) k) ∧ Jx pre W')) := by
  have hl := hc.len
  refine callsIn_of_wp Tryd.func169 rfl h7 ?_ hro
  simp only [Tryd.ntmps169, List.size_toArray, List.length_cons, List.length_nil, Nat.reduceAdd, Nat.reduceSub, Array.replicate_succ, Array.replicate_zero, List.push_toArray, List.append_toArray, List.nil_append, List.cons_append]
  gi_wp2
  gi_loopw [3] (fun i wr => ∃ k : Nat, k ≤ zs.length ∧ i = .int .i64 ((zs.length : Int) - 1 - (k : Int)) ∧ J (upto (bwAt zs) k) wr ∧ KpB n₀ Bs W wr) (fun i _ => (intOf i + 1).toNat)
  case atStart => exact ⟨0, Nat.zero_le _, by simp, h0, KpB.refl _ _ _⟩
  case round =>
    obtain ⟨k, hk, rfl, hJs, hnx⟩ := hrel
    have hBr : wr.cell? ⟨Bs, 0, none⟩ = some (.slice A zs.length cap) := (World.cell?_of_block (w := W) (a := ⟨Bs, 0, none⟩) hnx.2).trans hBs
    by_cases hlt : k < zs.length
    · obtain ⟨m, hm⟩ : ∃ m : Nat, m = zs.length - 1 - k := ⟨_, rfl⟩
      have hmi : (zs.length : Int) - 1 - (k : Int) = (m : Int) := by omega
      have hml : m < zs.length := by omega
      obtain ⟨g, off, x, rfl, hx, hg, hcell⟩ := hc.at_ hml
      have hne : zs ≠ [] := by intro e; rw [e] at hlt; simp at hlt
      have hgn : g < n₀ := hlo hne _ rfl
      have hcr : wr.cell? ⟨g, off + m, none⟩ = some (.int .i64 x) := (hnx.1.cell (p := ⟨g, off + m, none⟩) hgn).trans hcell
      obtain ⟨fn, tmps, assign, body, hy, hR⟩ := hY _ (bwAt zs k) wr hJs (by rw [upto_length]; exact hlt)
      have eb : bwAt zs k = (m, x) := by rw [bwAt, ← hm, hx]; rfl
      rw [eb] at hR hy
      dsimp only at hy
      have Hk := Lib.hid hk
      have Hx := Lib.hid hx
      have Hm := Lib.hid hm
      have Hmi := Lib.hid hmi
      have Eb := Lib.hid eb
      rw [hmi]
      clear hk hx hm hmi eb hcell
      gi_wp2
      refine hR.mono ?_
      rintro e W3 (⟨rfl, hJ3, hk3⟩ | ⟨rfl, hJx3⟩)
      · gi_wp2
        go_roundw
        case rel => exact ⟨k + 1, by omega, by have := Hmi.out; congr 1; omega, by rw [upto_succ, Eb.out]; exact hJ3, hnx.trans hk3⟩
        case measure => simp [intOf]
      · gi_wp2
        refine bodyPost_ret (results_none rfl _ _ _) rfl ?_
        exact ⟨⟨_, rfl⟩, .inr ⟨_, ⟨k + 1, by omega, by rw [upto_succ, Eb.out]⟩, hJx3⟩⟩
    · obtain rfl : k = zs.length := by omega
      rw [show (zs.length : Int) - 1 - (zs.length : Int) = -1 by omega]
      gi_wp2
      go_end0
      exact ⟨⟨_, rfl⟩, .inl ⟨_, rfl, hJs⟩⟩
set_option maxHeartbeats 1000000 in
theorem bw_in (F : Fence) (n : Nat) (h5 : F.fn 156) (hro : F.round = none) (a : Option Addr) (len cap : Nat) (w : World) :
    CallsIn F n Tryd.prog 156 #[.slice a len cap] w fun e w' => e = .returned (.func (.func 169) #[] #[.pointer (some ⟨w.heap.size, 0, none⟩)]) ∧ w' = w.alloc (.cells #[.slice a len cap] 93) := by
  refine callsIn_of_wp Tryd.func156 rfl h5 ?_ hro
  simp only [Tryd.ntmps156, List.size_toArray, List.length_cons, List.length_nil, Nat.reduceAdd, Nat.reduceSub, Array.replicate_succ, Array.replicate_zero, List.push_toArray, List.append_toArray, List.nil_append, List.cons_append]
  gi_wp2
  go_ret
  exact ⟨rfl, rfl⟩
theorem bw_stops (F : Fence) (n : Nat) (h8 : F.fn 169) (hro : F.round = none) (hn : 1 ≤ n) (Bs n₀ : Nat) (A : Option Addr) (cap : Nat) (zs : List Int) (w : World) (hBs : Bs < w.heap.size)
    (hc : w.cell? ⟨Bs, 0, none⟩ = some (.slice A zs.length cap)) (hr : Rd w A zs) (hlo : zs ≠ [] → Lo A n₀) :
    SeqStopsK F n Tryd.prog 169 #[.pointer (some ⟨Bs, 0, none⟩)] (fun x : Nat × Int => #[Value.int .i64 (x.1 : Int), Value.int .i64 x.2]) (KpB n₀ Bs) (fun ys => ys = upto (bwAt zs) zs.length)
      (fun pre => ∃ k, k ≤ zs.length ∧ pre = upto (bwAt zs) k) zs.length w := fun l J Jx W hW _ _ hY h0 => by
  have hc' := (hW.cell (p := ⟨Bs, 0, none⟩) hBs).trans hc
  exact bw1_in F n h8 hro hn l Bs n₀ A cap zs J Jx hY W hc' (hr.ex hW) hlo h0
theorem cell_new_l (W : World) (v : Value) (t : TypeId) : (W.alloc (.cells #[v] t)).cell? ⟨W.heap.size, 0, none⟩ = some v ∧ (W.alloc (.cells #[v] t)).frozen? ⟨W.heap.size, 0, none⟩ = false :=
  ⟨(VB.new W t #[v]).cell 0 rfl, (VB.new W t #[v]).frozen 0⟩
theorem cell_alloc_l {W : World} {a : Addr} {v : Value} (o : Obj) (h : W.cell? a = some v) : (W.alloc o).cell? a = some v := cell_kept h (World.grownBy_alloc W o none) (fun r e => by cases e)
theorem frozen_alloc_l {W : World} {a : Addr} {v : Value} (o : Obj) (h : W.cell? a = some v) (hf : W.frozen? a = false) : (W.alloc o).frozen? a = false := (frozen_kept h (World.grownBy_alloc W o none) (fun r e => by cases e)).trans hf
/-- The value of a polynomial at x. -/
def evM (p x : Int) : List Int → Int
  | [] => 0
  | a :: f => (evM p x f * x + a) % p
/-- The value on the way: the pairs that have come. -/
def evL (p x : Int) (pre : List (Nat × Int)) : Int := pre.foldl (fun o z => (o * x + z.2) % p) 0
theorem evL_snoc (p x : Int) (pre : List (Nat × Int)) (z : Nat × Int) : evL p x (pre ++ [z]) = (evL p x pre * x + z.2) % p := by simp [evL]
def GoodP (pre : List (Nat × Int)) : Prop := ∀ z ∈ pre, 0 ≤ z.2 ∧ z.2 ≤ 96
theorem GoodP.pre {pre : List (Nat × Int)} {z : Nat × Int} (h : GoodP (pre ++ [z])) : GoodP pre := fun y hy => h y (List.mem_append_left _ hy)
theorem GoodP.last {pre : List (Nat × Int)} {z : Nat × Int} (h : GoodP (pre ++ [z])) : 0 ≤ z.2 ∧ z.2 ≤ 96 := h z (by simp)
theorem evL_bd {p : Int} (hp : 0 < p) (x : Int) (pre : List (Nat × Int)) : 0 ≤ evL p x pre ∧ evL p x pre < p := by
  rcases List.eq_nil_or_concat pre with rfl | ⟨q, z, rfl⟩
  · exact ⟨Int.le_refl _, hp⟩
  · rw [List.concat_eq_append, evL_snoc]
    exact ⟨Int.emod_nonneg _ (by omega), Int.emod_lt_of_pos _ hp⟩
theorem good_upto {p : Int} {f : List Int} (hf : allEl p f = true) (h97 : p ≤ 97) (hp : 0 < p) (k : Nat) : GoodP (upto (bwAt f) k) := by
  intro z hz
  simp only [upto, List.mem_map] at hz
  obtain ⟨j, _, rfl⟩ := hz
  have := cf_bd hf hp (f.length - 1 - j)
  show 0 ≤ cf f _ ∧ cf f _ ≤ 96
  omega
theorem ev_upto (p x : Int) (f : List Int) : ∀ k, k ≤ f.length → evL p x (upto (bwAt f) k) = evM p x (f.drop (f.length - k))
  | 0, _ => by simp [upto, evL, evM]
  | k + 1, h => by
    rw [upto_succ, evL_snoc, ev_upto p x f k (by omega)]
    have h1 : f.length - (k + 1) < f.length := by omega
    have e : f.drop (f.length - (k + 1)) = f[f.length - (k + 1)] :: f.drop (f.length - k) := by
      rw [List.drop_eq_getElem_cons h1]
      congr 2; omega
    rw [e, evM]
    have e2 : (bwAt f k).2 = f[f.length - (k + 1)] := by
      show f[f.length - 1 - k]?.getD 0 = _
      rw [show f.length - 1 - k = f.length - (k + 1) by omega, List.getElem?_eq_getElem h1]; rfl
    rw [e2]
theorem ev_all (p x : Int) (f : List Int) : evL p x (upto (bwAt f) f.length) = evM p x f := by
  rw [ev_upto p x f f.length (Nat.le_refl _), Nat.sub_self]; rfl
set_option maxHeartbeats 4000000 in
theorem polyEval_in (F : Fence) (n : Nat) (h3 : F.fn 102) (h5 : F.fn 156) (h6 : F.fn 169) (hro : F.round = none) (hn : 3 ≤ n) (p x : Int) (A : Option Addr) (c : Nat) (f : List Int) (w : World) (hf : Rd w A f)
    (h2 : 2 ≤ p) (h97 : p ≤ 97) (hx : 0 ≤ x ∧ x < p) (hfe : allEl p f = true) :
    CallsIn F n Tryd.prog 102 #[.int .i64 p, .slice A f.length c, .int .i64 x] w fun e W' => e = .returned (.int .i64 (evM p x f)) ∧ Ex w W' := by
  have h1 : 1 ≤ n := by omega
  refine callsIn_of_wp_marks Tryd.func102 rfl h3 ?_ hro
  simp only [Tryd.ntmps102, List.size_toArray, List.length_cons, List.length_nil, Nat.reduceAdd, Nat.reduceSub, Array.replicate_succ, Array.replicate_zero, List.push_toArray, List.append_toArray, List.nil_append, List.cons_append]
  gi_wp2_with (gi_at_call 156; refine (bw_in F (n - 1) h5 hro _ _ _ _).mono ?_; rintro e w' ⟨rfl, rfl⟩)
  have c0 := cell_new_l w (.int .i64 p) 3
  have c1 := cell_new_l (w.alloc (.cells #[.int .i64 p] 3)) (.int .i64 x) 3
  have c2 := cell_new_l ((w.alloc (.cells #[.int .i64 p] 3)).alloc (.cells #[.int .i64 x] 3)) (.int .i64 0) 3
  have c3 := cell_new_l (((w.alloc (.cells #[.int .i64 p] 3)).alloc (.cells #[.int .i64 x] 3)).alloc (.cells #[.int .i64 0] 3)) (.slice A f.length c) 93
  simp only [World.size_alloc] at c1 c2 c3
  have hB0 : Below w.heap.size w ((((w.alloc (.cells #[.int .i64 p] 3)).alloc (.cells #[.int .i64 x] 3)).alloc (.cells #[.int .i64 0] 3)).alloc (.cells #[.slice A f.length c] 93)) := (((((Below.refl _ w).alloc (Nat.le_refl _) _).alloc (by simp) _).alloc (by simp; omega) _).alloc (by simp; omega) _)
  have hlo : f ≠ [] → Lo A w.heap.size := fun hne => hf.blk_lt hne
  have hbf := Lib.hid hfe
  refine wpIn_rangeFunc_ownF hro h1 (gf := 169) (lb := #[.pointer (some ⟨w.heap.size + 1 + 1 + 1, 0, none⟩)]) rfl h6 (enters_of Tryd.func169 (by kernel_rfl) rfl)
    (bw_stops F (n - 1) h6 hro (by omega) (w.heap.size + 1 + 1 + 1) w.heap.size A c f _ (by simp) c3.1 (hf.ex hB0) hlo) KpB.trans (KpB.putObj (by simp; omega) (by simp)) (Below.refl _ _) (fun _ => rfl)
    (fun pre W => (∃ o, W.cell? ⟨w.heap.size, 0, none⟩ = some (.int .i64 p) ∧ W.cell? ⟨w.heap.size + 1, 0, none⟩ = some (.int .i64 x) ∧ W.cell? ⟨w.heap.size + 1 + 1, 0, none⟩ = some (.int .i64 o) ∧ W.frozen? ⟨w.heap.size + 1 + 1, 0, none⟩ = false ∧ (GoodP pre → o = evL p x pre)) ∧ Below w.heap.size w W)
    (fun _ _ _ => False)
    (OwnFrom.and (Own.from (fun s A B row hs hg hr => by
      obtain ⟨o, h1, h2, h3, h4, h5⟩ := hs
      exact ⟨o, cell_kept h1 hg hr, cell_kept h2 hg hr, cell_kept h3 hg hr, (frozen_kept h3 hg hr).trans h4, h5⟩) _) (ownFrom_below (Nat.le_refl _) (by simp; omega)))
    (fun _ _ _ _ _ hs _ _ => hs)
    ⟨⟨0, cell_alloc_l _ (cell_alloc_l _ (cell_alloc_l _ c0.1)), cell_alloc_l _ (cell_alloc_l _ c1.1), cell_alloc_l _ c2.1, frozen_alloc_l _ c2.1 c2.2, fun _ => rfl⟩, hB0⟩
    (fun z => { tmps := #[.int .i64 p, .slice A f.length c, .int .i64 x, .pointer (some ⟨w.heap.size, 0, none⟩), undef, .pointer (some ⟨w.heap.size + 1, 0, none⟩), .int .i64 0, .pointer (some ⟨w.heap.size + 1 + 1, 0, none⟩), undef, .int .i64 z.2, .slice A f.length c, .func (.func 169) #[] #[.pointer (some ⟨w.heap.size + 1 + 1 + 1, 0, none⟩)],   .int .i64 (z.1 : Int), .int .i64 z.2, undef, undef, undef, undef, undef, undef, undef, undef], defers := [] }) ?assign ?body ?done ?stop
  case assign =>
    intro l x W K hK
    gi_wp2
    exact hK
  case body =>
    rintro l pre z W ⟨⟨o, h0, h1, h2', h3, h4⟩, hB⟩ _
    have hp0 : ¬ p = 0 := by omega
    gi_wp2
    refine ⟨KeepsOthers.setCell _ _ _, ⟨(Below.refl w.heap.size W).setCell (p := ⟨w.heap.size + 1 + 1, 0, none⟩) (by simp only []; omega) _, Below.heap_setCell W _ _ _ (by simp only []; omega)⟩, ⟨_, ?_, ?_, World.cell?_setCell_same _ _ _ h2', by rw [World.frozen?_setCell]; exact h3, fun hg => ?_⟩, hB.setCell (p := ⟨w.heap.size + 1 + 1, 0, none⟩) (by simp only []; omega) _⟩
    · rw [World.cell?_setCell_other _ _ _ _ (by intro e; injection e; omega)]; exact h0
    · rw [World.cell?_setCell_other _ _ _ _ (by intro e; injection e; omega)]; exact h1
    · have ho := h4 hg.pre
      have hb := evL_bd (p := p) (by omega) x pre
      have hz := hg.last
      rw [← ho] at hb
      have hm := mul_bd (x := o) (y := x) ⟨by omega, by omega⟩ ⟨by omega, by omega⟩
      have w1 : wrap64 (o * x) = o * x := by unfold wrap64; omega
      have w2 : wrap64 (o * x + z.2) = o * x + z.2 := by unfold wrap64; omega
      rw [w1, w2, evL_snoc, ← ho, Int.tmod_eq_emod_of_nonneg (by omega)]
  case done =>
    rintro D ys W hD rfl ⟨⟨o, h0, h1, h2', h3, h4⟩, hB⟩ hK
    have ho : o = evM p x f := (h4 (good_upto hfe h97 (by omega) _)).trans (ev_all p x f)
    have Ho := Lib.hid ho
    clear ho
    gi_wp2
    refine ⟨by simp, .inl ⟨_, _, rfl, run_takeDeferred hK, ?_⟩⟩
    exact ⟨_, results_tmp rfl _ _ _, by rw [← Ho.out]; rfl, hB.trans (belowK_b (w := w) (Nat.le_refl _) W D _ _ (by simp at hD; omega) hK rfl rfl)⟩
  case stop =>
    rintro D c pre W _ _ h _
    exact h.elim
/-- polyEval, as every contract. -/
theorem polyEval_c (p x : Int) (A : Option Addr) (c : Nat) (f : List Int) (w : World) (hf : Rd w A f) (h2 : 2 ≤ p) (h97 : p ≤ 97) (hx : 0 ≤ x ∧ x < p) (hfe : allEl p f = true) :
    Calls Tryd.prog 102 #[.int .i64 p, .slice A f.length c, .int .i64 x] w fun e W' => e = .returned (.int .i64 (evM p x f)) ∧ Ex w W' :=
  (callsIn_wide (n := 3)).1 (polyEval_in _ 3 trivial trivial trivial rfl (Nat.le_refl _) p x A c f w hf h2 h97 hx hfe)
end Go.Proofs.YtpiplogjbeofoaaDoor
