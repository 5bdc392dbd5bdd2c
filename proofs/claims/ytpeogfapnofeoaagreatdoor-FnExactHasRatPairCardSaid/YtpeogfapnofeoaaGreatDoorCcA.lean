/- slices.Grow of an empty list of fractions; lists of pairs of values. -/
import Derived.Test.YtpeogfapnofeoaaGreatDoorRfA
import Derived.Lib.AppendZeros
namespace Go.Proofs.YtpeogfapnofeoaaGreatDoor
set_option maxRecDepth 100000
open Go Go.RowKit
/-- Two values, a cell each. -/
def ELW : EL (Value × Value) where
  k := 2
  O := fun _ _ _ vs x => vs = [x.1, x.2] ∧ x.1.oneCell' = true ∧ x.2.oneCell' = true
  rlen := fun h => by rw [h.1]; rfl
  keep := fun h _ => h
  one := fun h u hu => by
    rw [h.1] at hu
    simp at hu
    rcases hu with rfl | rfl
    · exact h.2.1
    · exact h.2.2
/-- Pairs that stand for fractions read by w. -/
theorem pairs_rds {t : TypeId} {w : World} {B H : Nat} {v : Value} {prs : List (Value × Value)} {xs : List Fra} (h : GE ELW t w B H v prs) (hn : prs.length = xs.length) (hl : xs.length ≤ 1099511627776) (hr : ∀ (j : Nat) (x : Fra), xs[j]? = some x → ∃ a b, prs[j]? = some (a, b) ∧ RFra w a b x) : ∃ A c, v = .slice A xs.length c ∧ RdS EF w A xs := by
  by_cases hv : v = .slice none 0 0
  · subst hv
    have := h.len0
    subst this
    have : xs = [] := List.eq_nil_of_length_eq_zero hn.symm
    subst this
    exact ⟨none, 0, rfl, by simp, fun j x hj => by simp at hj⟩
  · obtain ⟨g, c, rfl, hgc, _⟩ := h.form hv
    obtain ⟨cur, al, bl, _, hB, hH, hh, h1, h2⟩ := h.at_
    refine ⟨_, c, by rw [hn], hl, fun j r hj => ?_⟩
    obtain ⟨a, b, q1, q2⟩ := hr j r hj
    obtain ⟨u, k1, ⟨k2, _⟩, _⟩ := h1 j _ q1
    refine ⟨g, 0, u, rfl, fun i y hy => ?_, _, _, k2, q2⟩
    rw [Nat.zero_add]
    exact cell_of_cur hh (k1 i y hy)
theorem choose_lstV {α : Type} {Q : Nat → α → Prop} : ∀ (n : Nat), (∀ j, j < n → ∃ a, Q j a) → ∃ l : List α, l.length = n ∧ ∀ (j : Nat) (a : α), l[j]? = some a → Q j a
  | 0, _ => ⟨[], rfl, fun j a h => by simp at h⟩
  | n + 1, h => by
    obtain ⟨l, h1, h2⟩ := choose_lstV n (fun j hj => h j (by omega))
    obtain ⟨a, ha⟩ := h n (by omega)
    refine ⟨l ++ [a], by simp [h1], fun j b hb => ?_⟩
    by_cases e : j < l.length
    · rw [List.getElem?_append_left e] at hb
      exact h2 j b hb
    · rw [List.getElem?_append_right (by omega)] at hb
      have : j - l.length = 0 := by
        rcases Nat.eq_zero_or_pos (j - l.length) with h0 | h0
        · exact h0
        · rw [List.getElem?_eq_none (by simp; omega)] at hb; cases hb
      rw [this] at hb
      injection hb with hb
      subst hb
      rw [show j = n by omega]
      exact ha
def pr2 (p : Value × Value) : List Value := [p.1, p.2]
theorem pr2_len (prs : List (Value × Value)) : (prs.map pr2).flatten.length = prs.length * 2 := by
  induction prs with
  | nil => rfl
  | cons p prs ih => rw [List.map_cons, List.flatten_cons, List.length_append, ih, List.length_cons]; show 2 + _ = _; omega
theorem pr2_at {prs : List (Value × Value)} {q : Nat} {v : Value} (h : (prs.map pr2).flatten[q]? = some v) : ∃ (j i : Nat) (p : Value × Value), q = j * 2 + i ∧ prs[j]? = some p ∧ (pr2 p)[i]? = some v := by
  have hq := (List.getElem?_eq_some_iff.1 h).1
  rw [pr2_len] at hq
  have hj : q / 2 < prs.length := by omega
  have hus : (prs.map pr2)[q / 2]? = some (pr2 prs[q / 2]) := by rw [List.getElem?_map, List.getElem?_eq_getElem hj]; rfl
  have hi : q % 2 < (pr2 prs[q / 2]).length := Nat.mod_lt _ (by omega)
  have := flatten_at (k := 2) (us := prs.map pr2) (fun u hu => by obtain ⟨p, _, rfl⟩ := List.mem_map.1 hu; rfl) hus (List.getElem?_eq_getElem hi)
  rw [show q / 2 * 2 + q % 2 = q by omega, h] at this
  injection this with this
  exact ⟨q / 2, q % 2, prs[q / 2], by omega, List.getElem?_eq_getElem hj, by rw [List.getElem?_eq_getElem hi, this]⟩
theorem ELW.row {t : TypeId} {w : World} {B H : Nat} {v : Value} {prs : List (Value × Value)} (h : GE ELW t w B H v prs) : w.ownsRow B t 2 v prs.length (prs.map pr2).flatten ∧ ∀ p ∈ prs, p.1.oneCell' = true ∧ p.2.oneCell' = true := by
  obtain ⟨_, us, al, bl, hl, ho, h1, _⟩ := h
  have hus : us = prs.map pr2 := by
    refine List.ext_getElem? fun j => ?_
    rw [List.getElem?_map]
    cases hj : prs[j]? with
    | none => rw [List.getElem?_eq_none (by have := List.getElem?_eq_none_iff.1 hj; omega)]; rfl
    | some p =>
      obtain ⟨u, q1, ⟨q2, _⟩, _⟩ := h1 j p hj
      rw [q1, q2]; rfl
  rw [← hus]
  refine ⟨ho, fun p hp => ?_⟩
  obtain ⟨j, hj⟩ := List.getElem?_of_mem hp
  obtain ⟨u, _, ⟨_, q⟩, _⟩ := h1 j p hj
  exact q
theorem ELW.mk {t : TypeId} {w : World} {B H : Nat} {v : Value} {prs : List (Value × Value)} (hB : B ≤ H) (ho : w.ownsRow B t 2 v prs.length (prs.map pr2).flatten) (hown : ∀ k, v.ownBlock = some k → B ≤ k ∧ k < H) (h1 : ∀ p ∈ prs, p.1.oneCell' = true ∧ p.2.oneCell' = true) : GE ELW t w B H v prs :=
  ⟨hown, prs.map pr2, fun _ => B, fun _ => B, by simp, ho, fun j p hj => ⟨pr2 p, by rw [List.getElem?_map, hj]; rfl, ⟨rfl, h1 p (List.mem_of_getElem? hj)⟩, Nat.le_refl _, hB, fun k e => .inr (hown k e).1⟩, fun i j hi hj hne => .inl (Nat.le_refl _)⟩
theorem push_fracs {w : World} {B H : Nat} {v : Value} {prs : List (Value × Value)} (h : GE ELW 58 w B H v prs) (hH : H ≤ w.heap.size) (hB : B ≤ H) (W0 : World) (hx0 : Ex W0 w) (P : Option Addr) (c : Nat) (r : List Fra) (hr : RdS EF W0 P r) (hl : prs.length + r.length ≤ 1099511627776) :
    ∃ v' w' prs2, (Builtin.append_ #[34, 34] 34 #[v, .slice P r.length c]).run Tryz.prog w = .ok v' w' ∧ GE ELW 58 w' B w'.heap.size v' (prs ++ prs2) ∧ prs2.length = r.length ∧
      (∀ (j : Nat) (x : Fra), r[j]? = some x → ∃ a b, prs2[j]? = some (a, b) ∧ RFra W0 a b x) ∧ ∀ b', Ex b' w → b'.heap.size ≤ B → Ex b' w' := by
  obtain ⟨i, hi, hz, hs, hby⟩ := info_parts fracInfo
  obtain ⟨ho, h1⟩ := ELW.row h
  have hown := h.own
  rcases P with _ | ad
  · have hx : r = [] := by
      cases r with
      | nil => rfl
      | cons x xs => obtain ⟨g, off, vs, hA, _⟩ := hr.2 0 x rfl; cases hA
    subst hx
    refine ⟨v, w, [], ?_, by simpa using h.more (Nat.le_refl _) hH, rfl, fun j x hj => by simp at hj, fun b' hb _ => hb⟩
    rcases ho.2 with ⟨rfl, _⟩ | ⟨g, cap, cur, rfl, _, _, hnc, _⟩
    · simp [Builtin.append_, run_underlying Tryz.underlying34, sizeOf, typeInfo, hi, Builtin.lenOf, Builtin.firstCells]
    · simp [Builtin.append_, run_underlying Tryz.underlying34, sizeOf, typeInfo, hi, Builtin.lenOf, Builtin.firstCells, hnc, storeCells]
  · obtain ⟨prs2, k1, k2⟩ := choose_lstV (Q := fun j (p : Value × Value) => ∃ x g off, ad = ⟨g, off, none⟩ ∧ r[j]? = some x ∧ w.cell? ⟨g, off + j * 2, none⟩ = some p.1 ∧ w.cell? ⟨g, off + j * 2 + 1, none⟩ = some p.2 ∧ RFra W0 p.1 p.2 x ∧ p.1.oneCell' = true ∧ p.2.oneCell' = true) r.length (fun j hj => by
      obtain ⟨g, off, vs, hA, hc, v0, v1, e, hR⟩ := hr.2 j _ (List.getElem?_eq_getElem hj)
      injection hA with hA
      subst hA
      subst e
      obtain ⟨A0, n0, c0, A1, n1, c1, e0, e1⟩ := hR.form
      exact ⟨(v0, v1), r[j], g, off, rfl, List.getElem?_eq_getElem hj, cell_ex hx0 (hc 0 v0 rfl), cell_ex hx0 (hc 1 v1 rfl), hR, by rw [e0]; rfl, by rw [e1]; rfl⟩)
    have hnews : ∀ (q : Nat) (u : Value), (prs2.map pr2).flatten[q]? = some u → w.cell? (ad.add q) = some u := fun q u hu => by
      obtain ⟨j, i, p, rfl, hp, hi2⟩ := pr2_at hu
      obtain ⟨x, g, off, rfl, _, q0, q1, _⟩ := k2 j p hp
      have e : (⟨g, off, none⟩ : Addr).add (j * 2 + i) = ⟨g, off + (j * 2 + i), none⟩ := by unfold Addr.add; split <;> simp_all
      rw [e]
      rcases i with _ | _ | i
      · injection hi2 with hi2; subst hi2; exact q0
      · injection hi2 with hi2; subst hi2; exact q1
      · simp [pr2] at hi2
    have hone : ∀ p ∈ prs2, p.1.oneCell' = true ∧ p.2.oneCell' = true := fun p hp => by
      obtain ⟨j, hj⟩ := List.getElem?_of_mem hp
      obtain ⟨_, _, _, _, _, _, _, _, q⟩ := k2 j p hj
      exact q
    obtain ⟨v', w', hrun, h2, h3, _, h5⟩ := run_append_own_at (P := Tryz.prog) w B 34 34 58 i (.agg #[.slice none 0 0, .slice none 0 0]) 2 48 Tryz.underlying34 hi hz hs hby rfl (by omega) v prs.length _ ho ad r.length c (prs2.map pr2).flatten (by rw [pr2_len, k1]) hnews (by
      intro u hu
      obtain ⟨l, hl2, hu2⟩ := List.mem_flatten.1 hu
      obtain ⟨p, hp, rfl⟩ := List.mem_map.1 hl2
      simp [pr2] at hu2
      rcases hu2 with rfl | rfl
      · exact (hone p hp).1
      · exact (hone p hp).2) (by unfold maxLen; omega) (by omega) (by omega)
    have hsz := h3.size
    refine ⟨v', w', prs2, hrun, ELW.mk (by omega) (by rw [List.length_append, List.map_append, List.flatten_append, k1]; exact h2) (fun k e => World.ownsRow.lt h2 k e) (fun p hp => by
      rcases List.mem_append.1 hp with h4 | h4
      · exact h1 p h4
      · exact hone p h4), k1, fun j x hj => ?_, fun b' hb hbB => hb.exo h3 (fun g e => by have := (hown g e).1; omega)⟩
    have hjl := (List.getElem?_eq_some_iff.1 hj).1
    have hp := List.getElem?_eq_getElem (show j < prs2.length by omega)
    obtain ⟨x', g, off, _, hx', _, _, hR, _⟩ := k2 j _ hp
    rw [hj] at hx'
    injection hx' with hx'
    subst hx'
    exact ⟨_, _, hp, hR⟩
set_option maxHeartbeats 2000000 in
theorem growNil_c (n : Nat) (hn : n ≤ 1000000) (w : World) :
    Calls Tryz.prog 73 #[.slice none 0 0, .int .i64 n] w fun e w' => ∃ A c, e = .returned (.slice A 0 c) ∧ GE ELW 58 w' w.heap.size w'.heap.size (.slice A 0 c) [] ∧ Ex w w' := by
  obtain ⟨i, hi, hz, hs, hby⟩ := info_parts fracInfo
  have hw : IntKind.i64.wrap ((n : Int) - 0) = (n : Int) := by rw [IntWalk.i64_in _ (by omega)]; omega
  by_cases h0 : n = 0
  · subst h0
    go_enter Tryz.func73, Tryz.ntmps73
    go_wp2_with fail
    go_ret
    exact ⟨none, 0, rfl, GE.nil _ _ _ _ _, Ex.refl _⟩
  · have hnp : 0 < n := by omega
    have hrun := Lib.run_append_nil_zeros (P := Tryz.prog) w 34 3 34 58 i _ .i64 .i64 Tryz.underlying34 Tryz.underlying3 hi hz n hnp (by omega) (by omega) (by rw [hby]; omega)
    have hge := grownCap_ge w n 0 58
    have hle := grownCap_le_maxLen w n 0 58 (by unfold maxLen; omega)
    obtain ⟨C, hC⟩ : ∃ C, grownCap w n 0 58 = C := ⟨_, rfl⟩
    rw [hC] at hrun hge hle
    obtain ⟨cur, hcur⟩ : ∃ cur, Builtin.zeroCells (Value.agg #[.slice none 0 0, .slice none 0 0]).cells n ++ Builtin.zeroCells (Value.agg #[.slice none 0 0, .slice none 0 0]).cells (C - n) = cur := ⟨_, rfl⟩
    have hsz : cur.size = C * 2 := by
      rw [← hcur, Array.size_append, size_zeroCells, size_zeroCells]
      have : (Value.agg #[.slice none 0 0, .slice none 0 0]).cells.size = 2 := rfl
      rw [this]
      omega
    rw [hcur] at hrun
    have o : GE ELW 58 (w.drew.alloc (.cells cur 58)) w.heap.size (w.heap.size + 1) (.slice (some ⟨w.heap.size, 0, none⟩) 0 C) [] := by
      have ho : (w.drew.alloc (.cells cur 58)).ownsRow w.heap.size 58 ELW.k (.slice (some ⟨w.heap.size, 0, none⟩) 0 C) 0 [] := ⟨by simp, .inr ⟨w.heap.size, C, cur, rfl, Nat.le_refl _, heap_alloc_new w.drew _, Nat.zero_le _, hle, hsz, by simp⟩⟩
      exact ⟨fun k e => by injection e with e; subst e; exact ⟨Nat.le_refl _, Nat.lt_succ_self _⟩, [], fun _ => 0, fun _ => 0, rfl, ho, (fun j r hj => by simp at hj), (fun i j hi => by simp at hi)⟩
    have x1 := (Ex.refl w).drew.alloc (.cells cur 58)
    have s1 : (w.drew.alloc (.cells cur 58)).heap.size = w.heap.size + 1 := by simp
    clear hcur hsz hle hC hi hz hs hby
    go_enter Tryz.func73, Tryz.ntmps73
    go_wp2_with (at_builtin; refine Lib.wpList_append_run _ rfl _ _ _ _ rfl _ _ rfl rfl _ _ hrun ?_)
    go_ret
    refine ⟨_, _, rfl, ?_, x1⟩
    show GE ELW 58 (w.drew.alloc (.cells cur 58)) w.heap.size (w.drew.alloc (.cells cur 58)).heap.size _ _
    rw [s1]
    exact o
end Go.Proofs.YtpeogfapnofeoaaGreatDoor
