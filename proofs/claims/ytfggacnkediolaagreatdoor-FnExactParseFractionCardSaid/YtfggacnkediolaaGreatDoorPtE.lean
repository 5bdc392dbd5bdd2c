/- The text of a polynomial: the program. -/
import Derived.Test.YtfggacnkediolaaGreatDoorPtC
import Derived.Test.YtfggacnkediolaaGreatDoorPtD
namespace Go.Proofs.YtfggacnkediolaaGreatDoor
set_option maxRecDepth 100000
open Go Go.RowKit Go.Shelf
attribute [local go_sem] Oper.semAt_some
attribute [-go_sem] Builtin.append_
abbrev GZ := {z : Nat × Int // GoodZ z}
def ptV (pre : List GZ) : List (List UInt8) := ptL (pre.map Subtype.val)
def ptS (l : List (List UInt8)) : List Value := l.map fun t => .string ⟨t.toArray⟩
theorem ptV_zero {pre : List GZ} {z : GZ} (h : z.1.2 = 0) : ptV (pre ++ [z]) = ptV pre := by unfold ptV; rw [List.map_append]; exact ptL_zero h
theorem ptV_more {pre : List GZ} {z : GZ} (h : z.1.2 ≠ 0) : ptV (pre ++ [z]) = ptV pre ++ [ptT z.1.2 z.1.1] := by unfold ptV; rw [List.map_append]; exact ptL_more h
theorem ptV_num (pre : List GZ) : (ptV pre).length ≤ pre.length := by unfold ptV; have := ptL_num (pre.map Subtype.val); rw [List.length_map] at this; exact this
theorem ptV_all {f : List Int} (hl : f.length ≤ 41) (hf : ∀ x ∈ f, 0 ≤ x ∧ x < 97) : ptV (upto (bwS f) f.length) = ptL (upto (bwAt f) f.length) := by
  unfold ptV; rw [bwS_map (good_bw hl hf)]
theorem bs_list (L : List (List UInt8)) : (L.map fun t => (⟨t.toArray⟩ : ByteArray)).map (·.data.toList) = L := by
  induction L with
  | nil => rfl
  | cons t r ih => rw [List.map_cons, List.map_cons, ih]
theorem boxed_own {β : Type} (B : Nat) (t : TypeId) (v : Value) : Go.Own (fun (_ : β) W => Boxed W B t v) := fun s A C row hs hg hr => hs.kept hg (fun e' => by
  obtain ⟨o, ho, hc⟩ := hr _ e'.symm
  rw [show A.heap[B]? = _ from hs] at ho; cases ho; cases hc)
theorem infoStr : (Tryz.prog.info? 9).map (fun i => (i.zero, i.size, i.bytes)) = some (some (.string ⟨#[]⟩), 1, 16) := by kernel_rfl
set_option maxHeartbeats 4000000 in
theorem polyText_c (A : Option Addr) (c : Nat) (f : List Int) (w : World) (hfr : Rd w A f) (hl : f.length ≤ 41) (hf : ∀ x ∈ f, 0 ≤ x ∧ x < 97) :
    Calls Tryz.prog 28 #[.slice A f.length c] w fun e w' => e = .returned (.string ⟨(ptX f).toArray⟩) ∧ Ex w w' := by
  obtain ⟨i0, hi, hz0, hz1, hz2⟩ := info_parts infoStr
  have HF := Lib.hid hf
  clear hf
  refine (callsIn_wide (n := 3)).1 ?_
  refine callsIn_of_wp_marks Tryz.func28 rfl trivial ?_ rfl
  simp only [Tryz.ntmps28, List.size_toArray, List.length_cons, List.length_nil, Nat.reduceAdd, Nat.reduceSub, Array.replicate_succ, Array.replicate_zero, List.push_toArray, List.append_toArray, List.nil_append, List.cons_append]
  gi_wp2_with (refine ⟨trivial, ?_⟩; gi_at_call 43; refine (bw_in Fence.wide (3 - 1) trivial rfl _ _ _ _).mono ?_; rintro e w' ⟨rfl, rfl⟩)
  have vE : (w.alloc (.cells #[] 9)).ownsRow w.heap.size 9 1 (.slice (some ⟨w.heap.size, 0, none⟩) 0 0) 0 [] := World.ownsRow_made w #[] 0 (Nat.le_refl _) (by decide) rfl
  have bO := Boxed.new (w.alloc (.cells #[] 9)) 39 (.slice (some ⟨w.heap.size, 0, none⟩) 0 0)
  have bN := Boxed.new ((w.alloc (.cells #[] 9)).alloc (.cells #[.slice (some ⟨w.heap.size, 0, none⟩) 0 0] 39)) 48 (.slice A f.length c)
  simp only [World.size_alloc] at bO bN
  have hB0 : Below w.heap.size w (((w.alloc (.cells #[] 9)).alloc (.cells #[.slice (some ⟨w.heap.size, 0, none⟩) 0 0] 39)).alloc (.cells #[.slice A f.length c] 48)) := ((((Below.refl _ w).alloc (Nat.le_refl _) _).alloc (by simp) _).alloc (by simp; omega) _)
  have hlo : f ≠ [] → Lo A w.heap.size := fun hne => hfr.blk_lt hne
  refine wpIn_rangeFunc_ownG rfl (by omega) (gf := 65) (lb := #[.pointer (some ⟨w.heap.size + 1 + 1, 0, none⟩)]) rfl trivial (enters_of Tryz.func65 (by kernel_rfl) rfl)
    (bwS_stops Fence.wide (3 - 1) trivial rfl (by omega) (w.heap.size + 1 + 1) w.heap.size A c f (good_bw hl HF.out) _ (by simp) bN.cell (hfr.ex hB0) hlo) KpB.trans (KpB.putObj (by simp; omega) (by simp)) (Below.refl _ _) (fun _ => by rfl)
    (fun pre W => (∃ v, Boxed W (w.heap.size + 1) 39 v ∧ W.ownsRow w.heap.size 9 1 v (ptV pre).length (ptS (ptV pre)) ∧ v ≠ .slice none 0 0) ∧ Boxed W (w.heap.size + 1 + 1) 48 (.slice A f.length c) ∧ Below w.heap.size w W)
    (fun _ _ _ => False)
    (OwnFrom.and (Own.from (holdsRow_own w.heap.size (w.heap.size + 1) 39 9 1 (fun pre => (ptV pre).length) (fun pre => ptS (ptV pre)) (fun _ v => v ≠ .slice none 0 0)) _) (OwnFrom.and (Own.from (boxed_own _ _ _) _) (ownFrom_below (Nat.le_refl _) (by simp; omega))))
    (fun _ _ _ _ _ hs _ _ => hs)
    ⟨⟨_, bO.alloc _, (vE.alloc _).alloc _, by simp⟩, bN, hB0⟩
    (fun z => { tmps := #[.slice A f.length c, undef, .string ⟨#[]⟩, .pointer (some ⟨w.heap.size + 1, 0, none⟩), .int .i64 (z.1.1 : Int), .int .i64 z.1.2, .slice (some ⟨w.heap.size, 0, none⟩) 0 0, .slice A f.length c, .func (.func 65) #[] #[.pointer (some ⟨w.heap.size + 1 + 1, 0, none⟩)], .int .i64 (z.1.1 : Int), .int .i64 z.1.2, undef, undef, undef, undef, undef, undef, undef, undef, undef, undef, undef, undef, undef], defers := [] }) ?assign ?body ?done ?stop
  case assign =>
    intro l x W K hK
    gi_wp2

    exact hK
  case body =>
    rintro l pre ⟨⟨ze, za⟩, hze, hz0', hz97⟩ W ⟨⟨v, hv, hrow, hne⟩, hBx, hB⟩ hlt
    obtain ⟨zn, rfl⟩ : ∃ zn : Nat, za = (zn : Int) := ⟨za.toNat, by simp only at hz0'; omega⟩
    simp only at hze hz97
    have hzn : zn < 97 := by omega
    have hc := hv.cell
    have hf0 := hv.frozen
    have hpl := ptV_num pre
    have h11 : 1 ≤ 3 - 1 - 1 := by omega
    have hmx : Tryz.prog.follows .mixedOrders = true := by kernel_rfl
    dsimp only
    have HP := Lib.hid hrow
    by_cases h0 : zn = 0
    · subst h0
      clear hpl
      gi_wp2
      exact ⟨KeepsFrom.refl _ _, KpB.refl _ _ _, ⟨v, hv, by rw [ptV_zero rfl]; exact hrow, hne⟩, hBx, hB⟩
    · have hz1' : ¬ ((zn : Int) = 0) := by omega
      obtain ⟨v', w1, hrun, hown', ⟨q1, q2, q3, q4, q5⟩, _⟩ := run_append_own (P := Tryz.prog) (W.alloc (.cells #[.string ⟨(ptT (zn : Int) ze).toArray⟩] 9)).drew w.heap.size 39 39 9 i0 (.string ⟨#[]⟩) 1 16 Tryz.underlying39 hi hz0 hz1 hz2 rfl (by decide) v _ _ (hrow.alloc _) ⟨W.heap.size, 0, none⟩ 1 1 [.string ⟨(ptT (zn : Int) ze).toArray⟩] rfl (cell_one_new W _ _) (by simp [Value.oneCell']) (by unfold maxLen; omega) (by omega) (by have := hB.size; show _ ≤ (W.alloc _).heap.size; simp; omega)
      have hgrow : (W.alloc (.cells #[.string ⟨(ptT (zn : Int) ze).toArray⟩] 9)).grownBy w1 v.ownBlock := ⟨q1, q2, q3, q4, q5⟩
      obtain ⟨g', cap', rfl⟩ := ownsRow_succ hown'
      obtain ⟨hv1, hv2, hr2, hk2, hb2⟩ := hv.appended (tmp := .cells #[.string ⟨(ptT (zn : Int) ze).toArray⟩] 9) (by decide) hrow hB.size (by omega) hown' hgrow
      have hBx1 := (hBx.alloc (.cells #[.string ⟨(ptT (zn : Int) ze).toArray⟩] 9)).kept hgrow (hBx.not_row (by decide) hrow)
      have hc1 := hv1.cell
      have hf1 := hv1.frozen
      have hc2 := (hv.alloc (.cells #[.string ⟨(ptT (zn : Int) ze).toArray⟩] 9)).cell
      gi_wp2
      gi_region_with_o (first
        | (refine ⟨trivial, ?_⟩; gi_at_call 44; refine (CallsIn.inRound l (callsIn_wide.2 (polyTerm_c zn ze _ hzn hze))).mono ?_; rintro e w' ⟨rfl, rfl⟩))
      all_goals gi_wp2
      all_goals
        have hBx2 := hBx1.kept (grownBy_setCell' w1 (w.heap.size + 1) (.slice (some ⟨g', 0, none⟩) ((ptV pre).length + 1) cap')) (by simp)
        have hl1 : (ptV (pre ++ [⟨(ze, (zn : Int)), hze, hz0', hz97⟩])) = ptV pre ++ [ptT zn ze] := ptV_more hz1'
        refine ⟨hk2.from _, ⟨hb2, hBx2.trans hBx.symm⟩, ⟨_, hv2, ?_, by simp⟩, hBx2, hB.trans hb2⟩
        rw [hl1, List.length_append]
        unfold ptS at hr2 ⊢
        rw [List.map_append]
        exact hr2
  case done =>
    rintro D ys W hD rfl ⟨⟨v, hv, hrow, hne⟩, hBx, hB⟩ hK
    have hjl := ptJ_len hl HF.out (Nat.le_refl f.length)
    have hX : ptX f = if ptL (upto (bwAt f) f.length) = [] then [48] else Lib.join (ptL (upto (bwAt f) f.length)) [43] := by
      unfold ptX ptJ
      by_cases h : ptL (upto (bwAt f) f.length) = []
      · rw [if_pos h, if_pos ((join_nil_iff ptL_ne).2 h)]
      · rw [if_neg h, if_neg fun e => h ((join_nil_iff ptL_ne).1 e)]
    have hnum := ptL_num (upto (bwAt f) f.length)
    rw [upto_length] at hnum
    rw [ptV_all hl HF.out] at hrow
    unfold ptJ at hjl
    obtain ⟨L, hL⟩ : ∃ L, ptL (upto (bwAt f) f.length) = L := ⟨_, rfl⟩
    rw [hL] at hrow hX hjl hnum
    obtain ⟨g, cap, rfl, hgl, hcap⟩ : ∃ g cap, v = .slice (some ⟨g, 0, none⟩) L.length cap ∧ g < W.heap.size ∧ L.length ≤ cap := by
      rcases hrow.2 with ⟨rfl, _⟩ | ⟨g, cap, cur, rfl, _, hg, hc, _⟩
      · exact (hne rfl).elim
      · exact ⟨g, cap, rfl, (Array.getElem?_eq_some_iff.1 hg).1, hc⟩
    have hc := hv.cell
    have HX := Lib.hid hX
    by_cases h0 : L = []
    · subst h0
      have hp48 : ptX f = [48] := by simpa using HX.out
      clear hX hL hjl hne hcap
      gi_wp2
      refine ⟨by simp, .inl ⟨_, _, rfl, run_takeDeferred hK, ?_⟩⟩
      exact ⟨_, results_tmp rfl _ _ _, by first | rfl | (rw [hp48]; rfl), hB.trans (belowK_b (w := w) (Nat.le_refl _) W D _ _ (by simp at hD; omega) hK rfl rfl)⟩
    · have hln : 0 < L.length := by cases L with
        | nil => exact (h0 rfl).elim
        | cons _ _ => simp
      have eL : (L.map fun t => (⟨t.toArray⟩ : ByteArray)).map (·.data.toList) = L := bs_list L
      have hJn := Tryz.strings_Join g 0 cap (L.map fun t => ⟨t.toArray⟩) ⟨#[43]⟩ W (fun j x hj => by
        have := hrow.cells (g := g) rfl j (.string x) (by
          rw [List.getElem?_map] at hj
          unfold ptS
          rw [List.getElem?_map]
          cases hL2 : L[j]? with
          | none => rw [hL2] at hj; simp at hj
          | some t => rw [hL2] at hj; simp at hj; simp [hj])
        rw [Nat.zero_add]
        have hadd : (⟨g, 0, none⟩ : Addr).add j = ⟨g, j, none⟩ := by unfold Addr.add; split <;> simp_all
        rw [hadd] at this
        exact this) hgl (by rw [List.length_map]; omega) (by rw [List.length_map]; exact hcap) (by rw [eL]; show (Lib.join L [43]).length ≤ _; omega)
      rw [eL, List.length_map] at hJn
      have hne0 : ¬ ((L.length : Int) = 0) := by omega
      clear hX hL hjl hne hcap eL
      gi_wp2_with (refine ⟨trivial, ?_⟩; gi_at_call 45; refine (callsIn_wide.2 hJn).mono ?_; rintro e w' ⟨rfl, hb'⟩)
      have hDl : D < W.heap.size := (Array.getElem?_eq_some_iff.1 hK).1
      have hK' := (hb'.block D hDl).trans hK
      refine ⟨by simp, .inl ⟨_, _, rfl, run_takeDeferred hK', ?_⟩⟩
      exact ⟨_, results_tmp rfl _ _ _, (by have h := HX.out; rw [if_neg h0] at h; rw [h]; rfl), (hB.trans (hb'.mono hB.size)).trans (belowK_b (w := w) (Nat.le_refl _) _ D _ _ (by simp at hD; omega) hK' rfl rfl)⟩
  case stop =>
    rintro D c pre W _ _ h _
    exact h.elim
end Go.Proofs.YtfggacnkediolaaGreatDoor
