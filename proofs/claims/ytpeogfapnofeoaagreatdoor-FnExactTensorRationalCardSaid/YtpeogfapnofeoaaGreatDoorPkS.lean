/- slices.Grow of an empty list of fractions; lists of pairs of values. slices.Concat of rows of fractions. Rows put together by append and by slices.Concat, as rows of a call's own that read in all good worlds. -/
import Derived.Test.YtpeogfapnofeoaaGreatDoorRfA
import Derived.Lib.AppendZeros
namespace Go.Proofs.YtpeogfapnofeoaaGreatDoor
set_option maxRecDepth 100000
open Go Go.RowKit
/-- Two values, a cell each. -/
def ELW : EL (Value × Value) where
  k := 2
  O := fun _ _ _ vs x => vs = [x.1, x.2] ∧ x.1.oneCell' = true ∧ x.2.oneCell' = true
  rlen := fun h => by rw [h.1]; rfl
  keep := fun h _ => h
  one := fun h u hu => by
    rw [h.1] at hu
    simp at hu
    rcases hu with rfl | rfl
    · exact h.2.1
    · exact h.2.2
/-- Pairs that stand for fractions read by w. -/
theorem pairs_rds {t : TypeId} {w : World} {B H : Nat} {v : Value} {prs : List (Value × Value)} {xs : List Fra} (h : GE ELW t w B H v prs) (hn : prs.length = xs.length) (hl : xs.length ≤ 1099511627776) (hr : ∀ (j : Nat) (x : Fra), xs[j]? = some x → ∃ a b, prs[j]? = some (a, b) ∧ RFra w a b x) : ∃ A c, v = .slice A xs.length c ∧ RdS EF w A xs := by
  by_cases hv : v = .slice none 0 0
  · subst hv
    have := h.len0
    subst this
    have : xs = [] := List.eq_nil_of_length_eq_zero hn.symm
    subst this
    exact ⟨none, 0, rfl, by simp, fun j x hj => by simp at hj⟩
  · obtain ⟨g, c, rfl, hgc, _⟩ := h.form hv
    obtain ⟨cur, al, bl, _, hB, hH, hh, h1, h2⟩ := h.at_
    refine ⟨_, c, by rw [hn], hl, fun j r hj => ?_⟩
    obtain ⟨a, b, q1, q2⟩ := hr j r hj
    obtain ⟨u, k1, ⟨k2, _⟩, _⟩ := h1 j _ q1
    refine ⟨g, 0, u, rfl, fun i y hy => ?_, _, _, k2, q2⟩
    rw [Nat.zero_add]
    exact cell_of_cur hh (k1 i y hy)
theorem choose_lstV {α : Type} {Q : Nat → α → Prop} : ∀ (n : Nat), (∀ j, j < n → ∃ a, Q j a) → ∃ l : List α, l.length = n ∧ ∀ (j : Nat) (a : α), l[j]? = some a → Q j a
  | 0, _ => ⟨[], rfl, fun j a h => by simp at h⟩
  | n + 1, h => by
    obtain ⟨l, h1, h2⟩ := choose_lstV n (fun j hj => h j (by omega))
    obtain ⟨a, ha⟩ := h n (by omega)
    refine ⟨l ++ [a], by simp [h1], fun j b hb => ?_⟩
    by_cases e : j < l.length
    · rw [List.getElem?_append_left e] at hb
      exact h2 j b hb
    · rw [List.getElem?_append_right (by omega)] at hb
      have : j - l.length = 0 := by
        rcases Nat.eq_zero_or_pos (j - l.length) with h0 | h0
        · exact h0
        · rw [List.getElem?_eq_none (by simp; omega)] at hb; cases hb
      rw [this] at hb
      injection hb with hb
      subst hb
      rw [show j = n by omega]
      exact ha
def pr2 (p : Value × Value) : List Value := [p.1, p.2]
theorem pr2_len (prs : List (Value × Value)) : (prs.map pr2).flatten.length = prs.length * 2 := by
  induction prs with
  | nil => rfl
  | cons p prs ih => rw [List.map_cons, List.flatten_cons, List.length_append, ih, List.length_cons]; show 2 + _ = _; omega
theorem pr2_at {prs : List (Value × Value)} {q : Nat} {v : Value} (h : (prs.map pr2).flatten[q]? = some v) : ∃ (j i : Nat) (p : Value × Value), q = j * 2 + i ∧ prs[j]? = some p ∧ (pr2 p)[i]? = some v := by
  have hq := (List.getElem?_eq_some_iff.1 h).1
  rw [pr2_len] at hq
  have hj : q / 2 < prs.length := by omega
  have hus : (prs.map pr2)[q / 2]? = some (pr2 prs[q / 2]) := by rw [List.getElem?_map, List.getElem?_eq_getElem hj]; rfl
  have hi : q % 2 < (pr2 prs[q / 2]).length := Nat.mod_lt _ (by omega)
  have := flatten_at (k := 2) (us := prs.map pr2) (fun u hu => by obtain ⟨p, _, rfl⟩ := List.mem_map.1 hu; rfl) hus (List.getElem?_eq_getElem hi)
  rw [show q / 2 * 2 + q % 2 = q by omega, h] at this
  injection this with this
  exact ⟨q / 2, q % 2, prs[q / 2], by omega, List.getElem?_eq_getElem hj, by rw [List.getElem?_eq_getElem hi, this]⟩
theorem ELW.row {t : TypeId} {w : World} {B H : Nat} {v : Value} {prs : List (Value × Value)} (h : GE ELW t w B H v prs) : w.ownsRow B t 2 v prs.length (prs.map pr2).flatten ∧ ∀ p ∈ prs, p.1.oneCell' = true ∧ p.2.oneCell' = true := by
  obtain ⟨_, us, al, bl, hl, ho, h1, _⟩ := h
  have hus : us = prs.map pr2 := by
    refine List.ext_getElem? fun j => ?_
    rw [List.getElem?_map]
    cases hj : prs[j]? with
    | none => rw [List.getElem?_eq_none (by have := List.getElem?_eq_none_iff.1 hj; omega)]; rfl
    | some p =>
      obtain ⟨u, q1, ⟨q2, _⟩, _⟩ := h1 j p hj
      rw [q1, q2]; rfl
  rw [← hus]
  refine ⟨ho, fun p hp => ?_⟩
  obtain ⟨j, hj⟩ := List.getElem?_of_mem hp
  obtain ⟨u, _, ⟨_, q⟩, _⟩ := h1 j p hj
  exact q
theorem ELW.mk {t : TypeId} {w : World} {B H : Nat} {v : Value} {prs : List (Value × Value)} (hB : B ≤ H) (ho : w.ownsRow B t 2 v prs.length (prs.map pr2).flatten) (hown : ∀ k, v.ownBlock = some k → B ≤ k ∧ k < H) (h1 : ∀ p ∈ prs, p.1.oneCell' = true ∧ p.2.oneCell' = true) : GE ELW t w B H v prs :=
  ⟨hown, prs.map pr2, fun _ => B, fun _ => B, by simp, ho, fun j p hj => ⟨pr2 p, by rw [List.getElem?_map, hj]; rfl, ⟨rfl, h1 p (List.mem_of_getElem? hj)⟩, Nat.le_refl _, hB, fun k e => .inr (hown k e).1⟩, fun i j hi hj hne => .inl (Nat.le_refl _)⟩
theorem push_fracs {w : World} {B H : Nat} {v : Value} {prs : List (Value × Value)} (h : GE ELW 58 w B H v prs) (hH : H ≤ w.heap.size) (hB : B ≤ H) (W0 : World) (hx0 : Ex W0 w) (P : Option Addr) (c : Nat) (r : List Fra) (hr : RdS EF W0 P r) (hl : prs.length + r.length ≤ 1099511627776) :
    ∃ v' w' prs2, (Builtin.append_ #[34, 34] 34 #[v, .slice P r.length c]).run Tryz.prog w = .ok v' w' ∧ GE ELW 58 w' B w'.heap.size v' (prs ++ prs2) ∧ prs2.length = r.length ∧
      (∀ (j : Nat) (x : Fra), r[j]? = some x → ∃ a b, prs2[j]? = some (a, b) ∧ RFra W0 a b x) ∧ ∀ b', Ex b' w → b'.heap.size ≤ B → Ex b' w' := by
  obtain ⟨i, hi, hz, hs, hby⟩ := info_parts fracInfo
  obtain ⟨ho, h1⟩ := ELW.row h
  have hown := h.own
  rcases P with _ | ad
  · have hx : r = [] := by
      cases r with
      | nil => rfl
      | cons x xs => obtain ⟨g, off, vs, hA, _⟩ := hr.2 0 x rfl; cases hA
    subst hx
    refine ⟨v, w, [], ?_, by simpa using h.more (Nat.le_refl _) hH, rfl, fun j x hj => by simp at hj, fun b' hb _ => hb⟩
    rcases ho.2 with ⟨rfl, _⟩ | ⟨g, cap, cur, rfl, _, _, hnc, _⟩
    · simp [Builtin.append_, run_underlying Tryz.underlying34, sizeOf, typeInfo, hi, Builtin.lenOf, Builtin.firstCells]
    · simp [Builtin.append_, run_underlying Tryz.underlying34, sizeOf, typeInfo, hi, Builtin.lenOf, Builtin.firstCells, hnc, storeCells]
  · obtain ⟨prs2, k1, k2⟩ := choose_lstV (Q := fun j (p : Value × Value) => ∃ x g off, ad = ⟨g, off, none⟩ ∧ r[j]? = some x ∧ w.cell? ⟨g, off + j * 2, none⟩ = some p.1 ∧ w.cell? ⟨g, off + j * 2 + 1, none⟩ = some p.2 ∧ RFra W0 p.1 p.2 x ∧ p.1.oneCell' = true ∧ p.2.oneCell' = true) r.length (fun j hj => by
      obtain ⟨g, off, vs, hA, hc, v0, v1, e, hR⟩ := hr.2 j _ (List.getElem?_eq_getElem hj)
      injection hA with hA
      subst hA
      subst e
      obtain ⟨A0, n0, c0, A1, n1, c1, e0, e1⟩ := hR.form
      exact ⟨(v0, v1), r[j], g, off, rfl, List.getElem?_eq_getElem hj, cell_ex hx0 (hc 0 v0 rfl), cell_ex hx0 (hc 1 v1 rfl), hR, by rw [e0]; rfl, by rw [e1]; rfl⟩)
    have hnews : ∀ (q : Nat) (u : Value), (prs2.map pr2).flatten[q]? = some u → w.cell? (ad.add q) = some u := fun q u hu => by
      obtain ⟨j, i, p, rfl, hp, hi2⟩ := pr2_at hu
      obtain ⟨x, g, off, rfl, _, q0, q1, _⟩ := k2 j p hp
      have e : (⟨g, off, none⟩ : Addr).add (j * 2 + i) = ⟨g, off + (j * 2 + i), none⟩ := by unfold Addr.add; split <;> simp_all
      rw [e]
      rcases i with _ | _ | i
      · injection hi2 with hi2; subst hi2; exact q0
      · injection hi2 with hi2; subst hi2; exact q1
      · simp [pr2] at hi2
    have hone : ∀ p ∈ prs2, p.1.oneCell' = true ∧ p.2.oneCell' = true := fun p hp => by
      obtain ⟨j, hj⟩ := List.getElem?_of_mem hp
      obtain ⟨_, _, _, _, _, _, _, _, q⟩ := k2 j p hj
      exact q
    obtain ⟨v', w', hrun, h2, h3, _, h5⟩ := run_append_own_at (P := Tryz.prog) w B 34 34 58 i (.agg #[.slice none 0 0, .slice none 0 0]) 2 48 Tryz.underlying34 hi hz hs hby rfl (by omega) v prs.length _ ho ad r.length c (prs2.map pr2).flatten (by rw [pr2_len, k1]) hnews (by
      intro u hu
      obtain ⟨l, hl2, hu2⟩ := List.mem_flatten.1 hu
      obtain ⟨p, hp, rfl⟩ := List.mem_map.1 hl2
      simp [pr2] at hu2
      rcases hu2 with rfl | rfl
      · exact (hone p hp).1
      · exact (hone p hp).2) (by unfold maxLen; omega) (by omega) (by omega)
    have hsz := h3.size
    refine ⟨v', w', prs2, hrun, ELW.mk (by omega) (by rw [List.length_append, List.map_append, List.flatten_append, k1]; exact h2) (fun k e => World.ownsRow.lt h2 k e) (fun p hp => by
      rcases List.mem_append.1 hp with h4 | h4
      · exact h1 p h4
      · exact hone p h4), k1, fun j x hj => ?_, fun b' hb hbB => hb.exo h3 (fun g e => by have := (hown g e).1; omega)⟩
    have hjl := (List.getElem?_eq_some_iff.1 hj).1
    have hp := List.getElem?_eq_getElem (show j < prs2.length by omega)
    obtain ⟨x', g, off, _, hx', _, _, hR, _⟩ := k2 j _ hp
    rw [hj] at hx'
    injection hx' with hx'
    subst hx'
    exact ⟨_, _, hp, hR⟩
set_option maxHeartbeats 2000000 in
theorem growNil_c (n : Nat) (hn : n ≤ 1000000) (w : World) :
    Calls Tryz.prog 73 #[.slice none 0 0, .int .i64 n] w fun e w' => ∃ A c, e = .returned (.slice A 0 c) ∧ GE ELW 58 w' w.heap.size w'.heap.size (.slice A 0 c) [] ∧ Ex w w' := by
  obtain ⟨i, hi, hz, hs, hby⟩ := info_parts fracInfo
  have hw : IntKind.i64.wrap ((n : Int) - 0) = (n : Int) := by rw [IntWalk.i64_in _ (by omega)]; omega
  by_cases h0 : n = 0
  · subst h0
    go_enter Tryz.func73, Tryz.ntmps73
    go_wp2_with fail
    go_ret
    exact ⟨none, 0, rfl, GE.nil _ _ _ _ _, Ex.refl _⟩
  · have hnp : 0 < n := by omega
    have hrun := Lib.run_append_nil_zeros (P := Tryz.prog) w 34 3 34 58 i _ .i64 .i64 Tryz.underlying34 Tryz.underlying3 hi hz n hnp (by omega) (by omega) (by rw [hby]; omega)
    have hge := grownCap_ge w n 0 58
    have hle := grownCap_le_maxLen w n 0 58 (by unfold maxLen; omega)
    obtain ⟨C, hC⟩ : ∃ C, grownCap w n 0 58 = C := ⟨_, rfl⟩
    rw [hC] at hrun hge hle
    obtain ⟨cur, hcur⟩ : ∃ cur, Builtin.zeroCells (Value.agg #[.slice none 0 0, .slice none 0 0]).cells n ++ Builtin.zeroCells (Value.agg #[.slice none 0 0, .slice none 0 0]).cells (C - n) = cur := ⟨_, rfl⟩
    have hsz : cur.size = C * 2 := by
      rw [← hcur, Array.size_append, size_zeroCells, size_zeroCells]
      have : (Value.agg #[.slice none 0 0, .slice none 0 0]).cells.size = 2 := rfl
      rw [this]
      omega
    rw [hcur] at hrun
    have o : GE ELW 58 (w.drew.alloc (.cells cur 58)) w.heap.size (w.heap.size + 1) (.slice (some ⟨w.heap.size, 0, none⟩) 0 C) [] := by
      have ho : (w.drew.alloc (.cells cur 58)).ownsRow w.heap.size 58 ELW.k (.slice (some ⟨w.heap.size, 0, none⟩) 0 C) 0 [] := ⟨by simp, .inr ⟨w.heap.size, C, cur, rfl, Nat.le_refl _, heap_alloc_new w.drew _, Nat.zero_le _, hle, hsz, by simp⟩⟩
      exact ⟨fun k e => by injection e with e; subst e; exact ⟨Nat.le_refl _, Nat.lt_succ_self _⟩, [], fun _ => 0, fun _ => 0, rfl, ho, (fun j r hj => by simp at hj), (fun i j hi => by simp at hi)⟩
    have x1 := (Ex.refl w).drew.alloc (.cells cur 58)
    have s1 : (w.drew.alloc (.cells cur 58)).heap.size = w.heap.size + 1 := by simp
    clear hcur hsz hle hC hi hz hs hby
    go_enter Tryz.func73, Tryz.ntmps73
    go_wp2_with (at_builtin; refine Lib.wpList_append_run _ rfl _ _ _ _ rfl _ _ rfl rfl _ _ hrun ?_)
    go_ret
    refine ⟨_, _, rfl, ?_, x1⟩
    show GE ELW 58 (w.drew.alloc (.cells cur 58)) w.heap.size (w.drew.alloc (.cells cur 58)).heap.size _ _
    rw [s1]
    exact o
end Go.Proofs.YtpeogfapnofeoaaGreatDoor
namespace Go.Proofs.YtpeogfapnofeoaaGreatDoor
set_option maxRecDepth 100000
open Go Go.RowKit
theorem flat_step {α : Type} {rows : List (List α)} {k : Nat} {r : List α} (h : rows[k]? = some r) : (rows.take (k + 1)).flatten = (rows.take k).flatten ++ r := by rw [List.take_add_one, h, List.flatten_append]; simp
theorem flat_len {α : Type} {rows : List (List α)} (h : ∀ r ∈ rows, r.length ≤ 1000) : ∀ k, ((rows.take k).flatten).length ≤ 1000 * rows.length := by
  intro k
  have h2 : ∀ r ∈ rows.take k, r.length ≤ 1000 := fun r hr => h r (List.mem_of_mem_take hr)
  have h3 : (rows.take k).length ≤ rows.length := List.length_take_le' _ _
  have : ∀ (l : List (List α)), (∀ r ∈ l, r.length ≤ 1000) → l.flatten.length ≤ 1000 * l.length := by
    intro l
    induction l with
    | nil => intro _; simp
    | cons r l ih =>
      intro hl
      have a := ih fun r hr => hl r (List.mem_cons_of_mem _ hr)
      have b := hl r List.mem_cons_self
      rw [List.flatten_cons, List.length_append, List.length_cons]
      omega
  have := this _ h2
  omega
set_option maxHeartbeats 4000000 in
theorem concat_c (A : Option Addr) (c : Nat) (rows : List (List Fra)) (w : World) (h : RdS EFF w A rows) (hr8 : rows.length ≤ 8) (hr12 : ∀ r ∈ rows, r.length ≤ 1000) :
    Calls Tryz.prog 38 #[.slice A rows.length c] w fun e w' => ∃ A' c', e = .returned (.slice A' rows.flatten.length c') ∧ RdS EF w' A' rows.flatten ∧ Ex w w' := by
  have hl := h.1
  have HF := Lib.hid (flat_len hr12)
  have H12 := Lib.hid hr12
  clear hr12
  go_enter Tryz.func38, Tryz.ntmps38
  go_wp2_with fail
  go_loopw [3, 11] (fun s i wr => ∃ k n : Nat, k ≤ rows.length ∧ i = .int .i64 k ∧ s = .int .i64 n ∧ Hid (n = ((rows.take k).flatten).length) ∧ Ex w wr) (fun _ i _ => rows.length - (intOf i).toNat)
  case atStart => exact ⟨0, 0, Nat.zero_le _, rfl, rfl, Lib.hid (by simp), Ex.refl _⟩
  case round =>
    rename World => wi
    obtain ⟨k, n, hk, rfl, rfl, Hn, he⟩ := hrel
    have hn8 : n ≤ 8000 := by have := HF.out k; have := Hn.out; omega
    by_cases hlt : k < rows.length
    · obtain ⟨g, off, r, u, rfl, hr, b0, hu⟩ := (h.ex he).fracs hlt
      obtain ⟨P, pc, rfl, hP⟩ := hu.form
      have hrl := H12.out r (List.mem_of_getElem? hr)
      have hw : IntKind.i64.wrap ((n : Int) + (r.length : Int)) = ((n + r.length : Nat) : Int) := by rw [IntWalk.i64_in _ (by omega)]; omega
      have HN := Lib.hid (show n + r.length = ((rows.take (k + 1)).flatten).length by rw [flat_step hr, List.length_append, Hn.out])
      have hneg : ¬ ((n + r.length : Nat) : Int) < 0 := by omega
      clear hr hu
      obtain ⟨m, hm⟩ : ∃ m, n + r.length = m := ⟨_, rfl⟩
      rw [hm] at hw HN hneg
      clear hm
      go_wp2_with fail
      clear hw
      go_roundw
      case rel => exact ⟨k + 1, m, by omega, by go_num, rfl, HN, he⟩
      case measure => simp [intOf]; omega
    · obtain rfl : k = rows.length := by omega
      have HT := Lib.hid (show n = rows.flatten.length by have := Hn.out; rwa [List.take_length] at this)
      go_wp2_with fail
      refine (growNil_c n (by omega) wi).mono ?_
      rintro e w1 ⟨A1, c1, rfl, ge1, x1⟩
      go_wp2_with fail
      go_loopw [6, 27] (fun o i wr => ∃ (k : Nat) (prs : List (Value × Value)), k ≤ rows.length ∧ i = .int .i64 k ∧ GE ELW 58 wr wi.heap.size wr.heap.size o prs ∧ Hid (prs.length = ((rows.take k).flatten).length ∧ ∀ (j : Nat) (x : Fra), ((rows.take k).flatten)[j]? = some x → ∃ a b, prs[j]? = some (a, b) ∧ RFra wi a b x) ∧ Ex wi wr) (fun _ i _ => rows.length - (intOf i).toNat)
      case atStart => exact ⟨0, [], Nat.zero_le _, rfl, ge1, Lib.hid ⟨by simp, fun j x hj => by simp at hj⟩, x1⟩
      case round =>
        rename World => wj
        obtain ⟨k, prs, hk2, rfl, hge, HP, hej⟩ := hrel
        by_cases hlt2 : k < rows.length
        · obtain ⟨g, off, r, u, rfl, hr, b0W, hu⟩ := (h.ex he).fracs hlt2
          obtain ⟨P, pc, rfl, hP⟩ := hu.form
          have b0 := cell_ex hej b0W
          have hrl := H12.out r (List.mem_of_getElem? hr)
          have hpl : prs.length ≤ 8000 := by have := HF.out k; have := HP.out.1; omega
          have HS := Lib.hid (flat_step hr)
          clear hr hu b0W
          obtain ⟨v', w', prs2, hrun, hge', hl2, hrd, hE⟩ := push_fracs hge (Nat.le_refl _) hej.size wi hej P pc r hP (by omega)
          have xw := hE wi hej (Nat.le_refl _)
          have HQ := Lib.hid (show (prs ++ prs2).length = ((rows.take (k + 1)).flatten).length ∧ ∀ (j : Nat) (x : Fra), ((rows.take (k + 1)).flatten)[j]? = some x → ∃ a b, (prs ++ prs2)[j]? = some (a, b) ∧ RFra wi a b x by
            rw [HS.out]
            refine ⟨by rw [List.length_append, List.length_append, HP.out.1, hl2], fun j x hj => ?_⟩
            by_cases e : j < prs.length
            · rw [List.getElem?_append_left (by rw [← HP.out.1]; exact e)] at hj
              rw [List.getElem?_append_left e]
              exact HP.out.2 j x hj
            · rw [List.getElem?_append_right (by rw [← HP.out.1]; omega), ← HP.out.1] at hj
              rw [List.getElem?_append_right (by omega)]
              exact hrd _ x hj)
          clear hge hE hrd HP
          go_wp2_with (at_builtin; refine wpList_append_run rfl _ _ _ rfl rfl rfl hrun ?_)
          go_roundw
          case rel => exact ⟨k + 1, _, by omega, by go_num, hge', HQ, xw⟩
          case measure => simp [intOf]; omega
        · obtain rfl : k = rows.length := by omega
          obtain ⟨q1, q2⟩ := HP.out
          rw [List.take_length] at q1 q2
          obtain ⟨A5, c5, rfl, r5⟩ := pairs_rds hge q1 (by rw [← HT.out]; omega) (fun j x hj => by
            obtain ⟨a, b, q3, q4⟩ := q2 j x hj
            exact ⟨a, b, q3, q4.ex hej⟩)
          clear q1 q2 HP
          go_wp2_with fail
          go_ret
          exact ⟨_, _, rfl, r5, he.trans hej⟩
end Go.Proofs.YtpeogfapnofeoaaGreatDoor
namespace Go.Proofs.YtpeogfapnofeoaaGreatDoor
set_option maxRecDepth 100000
open Go Go.RowKit
/-- The slice that begins at P holds values that stand, in all good worlds, for the fractions r. -/
def RowQ (Good : World → Prop) (w : World) (P : Option Addr) (r : List Fra) : Prop :=
  r.length ≤ 1099511627776 ∧ ∀ (j : Nat) (x : Fra), r[j]? = some x → ∃ g off u v, P = some ⟨g, off, none⟩ ∧ w.cell? ⟨g, off + j * 2, none⟩ = some u ∧ w.cell? ⟨g, off + j * 2 + 1, none⟩ = some v ∧ u.oneCell' = true ∧ v.oneCell' = true ∧ ∀ w2, Good w2 → RFra w2 u v x
theorem RowQ.ex {Good : World → Prop} {w w' : World} {P : Option Addr} {r : List Fra} (h : RowQ Good w P r) (he : Ex w w') : RowQ Good w' P r := ⟨h.1, fun j x hj => by
  obtain ⟨g, off, u, v, e, q0, q1, o⟩ := h.2 j x hj
  exact ⟨g, off, u, v, e, cell_ex he q0, cell_ex he q1, o⟩⟩
theorem RowQ.mono {Good Good' : World → Prop} {w : World} {P : Option Addr} {r : List Fra} (h : RowQ Good w P r) (hg : ∀ w2, Good' w2 → Good w2) : RowQ Good' w P r := ⟨h.1, fun j x hj => by
  obtain ⟨g, off, u, v, e, q0, q1, o0, o1, hR⟩ := h.2 j x hj
  exact ⟨g, off, u, v, e, q0, q1, o0, o1, fun w2 hw => hR w2 (hg w2 hw)⟩⟩
theorem RowQ.of_rds {Good : World → Prop} {w0 w : World} {P : Option Addr} {r : List Fra} (h : RdS EF w0 P r) (he : Ex w0 w) (hg : ∀ w2, Good w2 → Ex w0 w2) : RowQ Good w P r := ⟨h.1, fun j x hj => by
  obtain ⟨g, off, vs, hA, hc, v0, v1, e, hR⟩ := h.2 j x hj
  subst e
  obtain ⟨A0, n0, c0, A1, n1, c1, e0, e1⟩ := hR.form
  exact ⟨g, off, v0, v1, hA, cell_ex he (hc 0 v0 rfl), cell_ex he (hc 1 v1 rfl), by rw [e0]; rfl, by rw [e1]; rfl, fun w2 hw => hR.ex (hg w2 hw)⟩⟩
theorem RowQ.tk {Good : World → Prop} {w : World} {P : Option Addr} {r : List Fra} (h : RowQ Good w P r) (k : Nat) : RowQ Good w P (r.take k) := ⟨Nat.le_trans (List.length_take_le' _ _) h.1, fun j x hj => h.2 j x (by rw [List.getElem?_take] at hj; split at hj; exact hj; cases hj)⟩
theorem RowQ.dp {Good : World → Prop} {w : World} {g off : Nat} {r : List Fra} (h : RowQ Good w (some ⟨g, off, none⟩) r) (k : Nat) : RowQ Good w (some ⟨g, off + k * 2, none⟩) (r.drop k) := ⟨by rw [List.length_drop]; have := h.1; omega, fun j x hj => by
  rw [List.getElem?_drop] at hj
  obtain ⟨g', off', u, v, e, q0, q1, o⟩ := h.2 (k + j) x hj
  injection e with e
  injection e with e1 e2
  subst e1 e2
  refine ⟨g, _, u, v, rfl, ?_, ?_, o⟩
  · rwa [Nat.add_mul, ← Nat.add_assoc] at q0
  · rwa [Nat.add_mul, ← Nat.add_assoc] at q1⟩
theorem RowQ.nil (Good : World → Prop) (w : World) (P : Option Addr) : RowQ Good w P [] := ⟨by simp, fun j x hj => by simp at hj⟩
/-- Rows that stand for lists of fractions in all good worlds. -/
def RowsQ (Good : World → Prop) (w : World) (A : Option Addr) (rows : List (List Fra)) : Prop :=
  ∀ (j : Nat) (r : List Fra), rows[j]? = some r → ∃ g off P pc, A = some ⟨g, off, none⟩ ∧ w.cell? ⟨g, off + j, none⟩ = some (.slice P r.length pc) ∧ RowQ Good w P r
theorem RowsQ.ex {Good : World → Prop} {w w' : World} {A : Option Addr} {rows : List (List Fra)} (h : RowsQ Good w A rows) (he : Ex w w') : RowsQ Good w' A rows := fun j r hj => by
  obtain ⟨g, off, P, pc, e, q, k⟩ := h j r hj
  exact ⟨g, off, P, pc, e, cell_ex he q, k.ex he⟩
theorem RowsQ.at_ {Good : World → Prop} {w : World} {A : Option Addr} {rows : List (List Fra)} (h : RowsQ Good w A rows) {j : Nat} (hj : j < rows.length) : ∃ g off r P pc, A = some ⟨g, off, none⟩ ∧ rows[j]? = some r ∧ w.cell? ⟨g, off + j, none⟩ = some (.slice P r.length pc) ∧ RowQ Good w P r := by
  obtain ⟨g, off, P, pc, e, q, k⟩ := h j _ (List.getElem?_eq_getElem hj)
  exact ⟨g, off, _, P, pc, e, List.getElem?_eq_getElem hj, q, k⟩
/-- A row that a call has put together of such values. -/
def RowP (Good : World → Prop) (w : World) (a b : Nat) (v : Value) (r : List Fra) : Prop :=
  ∃ prs : List (Value × Value), GE ELW 58 w a b v prs ∧ prs.length = r.length ∧ ∀ (j : Nat) (x : Fra), r[j]? = some x → ∃ u z, prs[j]? = some (u, z) ∧ ∀ w2, Good w2 → RFra w2 u z x
theorem RowP.keep {Good : World → Prop} {w w' : World} {a b : Nat} {v : Value} {r : List Fra} (h : RowP Good w a b v r) (hk : ∀ k, a ≤ k → k < b → k < w.heap.size → w'.heap[k]? = w.heap[k]?) : RowP Good w' a b v r := by
  obtain ⟨prs, h1, h2⟩ := h
  exact ⟨prs, h1.keep hk, h2⟩
theorem RowP.rds {Good : World → Prop} {w : World} {a b : Nat} {v : Value} {r : List Fra} (h : RowP Good w a b v r) (hl : r.length ≤ 1099511627776) (hg : Good w) : ∃ A c, v = .slice A r.length c ∧ RdS EF w A r := by
  obtain ⟨prs, h1, h2, h3⟩ := h
  exact pairs_rds h1 h2 hl fun j x hj => by
    obtain ⟨u, z, q1, q2⟩ := h3 j x hj
    exact ⟨u, z, q1, q2 w hg⟩
theorem RowP.form {Good : World → Prop} {w : World} {a b : Nat} {v : Value} {r : List Fra} (h : RowP Good w a b v r) : ∃ A c, v = .slice A r.length c := by
  obtain ⟨prs, h1, h2, _⟩ := h
  obtain ⟨A, c, e⟩ := h1.nilv
  exact ⟨A, c, by rw [e, h2]⟩
/-- A row that reads in all worlds that keep W0 and the row's own blocks. -/
def ELQ (W0 : World) : EL (List Fra) where
  k := 1
  O := fun w a b vs x => ∃ A c, vs = [.slice A x.length c] ∧ ∀ w2, Ex W0 w2 → (∀ k, a ≤ k → k < b → k < w.heap.size → w2.heap[k]? = w.heap[k]?) → RdS EF w2 A x
  rlen := fun h => by obtain ⟨_, _, rfl, _⟩ := h; rfl
  keep := fun {w w' a b vs x} h hk => by
    obtain ⟨A, c, e, h⟩ := h
    refine ⟨A, c, e, fun w2 h0 h2 => h w2 h0 fun k h3 h4 h5 => ?_⟩
    have h6 := hk k h3 h4 h5
    refine (h2 k h3 h4 ?_).trans h6
    rcases Nat.lt_or_ge k w'.heap.size with q | q
    · exact q
    · rw [Array.getElem?_eq_none q, Array.getElem?_eq_getElem h5] at h6; cases h6
  one := fun h u hu => by
    obtain ⟨A, c, e, _⟩ := h
    subst e
    simp at hu
    subst hu; rfl
theorem RowP.elq {Good : World → Prop} {W0 w : World} {a b : Nat} {v : Value} {r : List Fra} (h : RowP Good w a b v r) (hl : r.length ≤ 1099511627776) (hg : ∀ w2, Ex W0 w2 → (∀ k, a ≤ k → k < b → k < w.heap.size → w2.heap[k]? = w.heap[k]?) → Good w2) : (ELQ W0).O w a b [v] r := by
  obtain ⟨A, c, e⟩ := h.form
  refine ⟨A, c, by rw [e], fun w2 h0 hk => ?_⟩
  obtain ⟨A', c', e', hr⟩ := (h.keep hk).rds hl (hg w2 h0 hk)
  rw [e] at e'
  injection e' with e1
  rw [e1]; exact hr
theorem push_rowsQ {W0 w : World} {B H : Nat} {v : Value} {xs : List (List Fra)} (h : GE (ELQ W0) 34 w B H v xs) (hH : H ≤ w.heap.size) {v0 : Value} {x : List Fra} {a b : Nat} (hu : (ELQ W0).O w a b [v0] x) (ha : H ≤ a) (hab : a ≤ b) (hb : b ≤ w.heap.size) (hB : B ≤ H) (hl : xs.length + 1 ≤ 1099511627776) :
    ∃ v' w', (Builtin.append_ #[30, 30] 30 #[v, .slice (some ⟨w.heap.size, 0, none⟩) 1 1]).run Tryz.prog (w.alloc (.cells #[v0] 34)) = .ok v' w' ∧
      GE (ELQ W0) 34 w' B w'.heap.size v' (xs ++ [x]) ∧ ExO v.ownBlock w w' ∧ v' ≠ .slice none 0 0 ∧ ∀ b', Ex b' w → b'.heap.size ≤ B → Ex b' w' := by
  obtain ⟨i, hi, hz, hs, hby⟩ := info_parts fracsInfo
  obtain ⟨v', w', h1, h2, h3, _, h5, h6⟩ := GE.push (ELQ W0) Tryz.underlying30 hi hz hs hby rfl (by show 0 < 1; omega) (by omega) h hH hu ha hab hb hB hl
  exact ⟨v', w', h1, h2, h3, h5, h6⟩
theorem GE.rowsQ {W0 w : World} {B H : Nat} {v : Value} {xs : List (List Fra)} (h : GE (ELQ W0) 34 w B H v xs) (hl : xs.length ≤ 1099511627776) (he : Ex W0 w) : ∃ A c, v = .slice A xs.length c ∧ RdS EFF w A xs := by
  by_cases hv : v = .slice none 0 0
  · subst hv
    have := h.len0
    subst this
    exact ⟨none, 0, rfl, by simp, fun j x hj => by simp at hj⟩
  · obtain ⟨g, c, rfl, hgc, _⟩ := h.form hv
    obtain ⟨cur, al, bl, _, hB, hH, hh, h1, h2⟩ := h.at_
    refine ⟨_, c, rfl, hl, fun j r hj => ?_⟩
    obtain ⟨u, k1, ⟨A, c2, k2, k3⟩, _⟩ := h1 j r hj
    subst k2
    refine ⟨g, 0, [.slice A r.length c2], rfl, fun i y hy => ?_, _, rfl, A, c2, rfl, k3 w he fun _ _ _ _ => rfl⟩
    rw [Nat.zero_add]
    exact cell_of_cur hh (k1 i y hy)
theorem push_fracsQ {Good : World → Prop} {w : World} {B H : Nat} {v : Value} {prs : List (Value × Value)} (h : GE ELW 58 w B H v prs) (hH : H ≤ w.heap.size) (hB : B ≤ H) (P : Option Addr) (c : Nat) (r : List Fra) (hr : RowQ Good w P r) (hl : prs.length + r.length ≤ 1099511627776) :
    ∃ v' w' prs2, (Builtin.append_ #[34, 34] 34 #[v, .slice P r.length c]).run Tryz.prog w = .ok v' w' ∧ GE ELW 58 w' B w'.heap.size v' (prs ++ prs2) ∧ prs2.length = r.length ∧
      (∀ (j : Nat) (x : Fra), r[j]? = some x → ∃ a b, prs2[j]? = some (a, b) ∧ ∀ w2, Good w2 → RFra w2 a b x) ∧ ∀ b', Ex b' w → b'.heap.size ≤ B → Ex b' w' := by
  obtain ⟨i, hi, hz, hs, hby⟩ := info_parts fracInfo
  obtain ⟨ho, h1⟩ := ELW.row h
  have hown := h.own
  rcases P with _ | ad
  · have hx : r = [] := by
      cases r with
      | nil => rfl
      | cons x xs => obtain ⟨g, off, _, _, hA, _⟩ := hr.2 0 x rfl; cases hA
    subst hx
    refine ⟨v, w, [], ?_, by simpa using h.more (Nat.le_refl _) hH, rfl, fun j x hj => by simp at hj, fun b' hb _ => hb⟩
    rcases ho.2 with ⟨rfl, _⟩ | ⟨g, cap, cur, rfl, _, _, hnc, _⟩
    · simp [Builtin.append_, run_underlying Tryz.underlying34, sizeOf, typeInfo, hi, Builtin.lenOf, Builtin.firstCells]
    · simp [Builtin.append_, run_underlying Tryz.underlying34, sizeOf, typeInfo, hi, Builtin.lenOf, Builtin.firstCells, hnc, storeCells]
  · obtain ⟨prs2, k1, k2⟩ := choose_lstV (Q := fun j (p : Value × Value) => ∃ x g off, ad = ⟨g, off, none⟩ ∧ r[j]? = some x ∧ w.cell? ⟨g, off + j * 2, none⟩ = some p.1 ∧ w.cell? ⟨g, off + j * 2 + 1, none⟩ = some p.2 ∧ (∀ w2, Good w2 → RFra w2 p.1 p.2 x) ∧ p.1.oneCell' = true ∧ p.2.oneCell' = true) r.length (fun j hj => by
      obtain ⟨g, off, u, v, hA, q0, q1, o0, o1, hR⟩ := hr.2 j _ (List.getElem?_eq_getElem hj)
      injection hA with hA
      subst hA
      exact ⟨(u, v), r[j], g, off, rfl, List.getElem?_eq_getElem hj, q0, q1, hR, o0, o1⟩)
    have hnews : ∀ (q : Nat) (u : Value), (prs2.map pr2).flatten[q]? = some u → w.cell? (ad.add q) = some u := fun q u hu => by
      obtain ⟨j, i, p, rfl, hp, hi2⟩ := pr2_at hu
      obtain ⟨x, g, off, rfl, _, q0, q1, _⟩ := k2 j p hp
      have e : (⟨g, off, none⟩ : Addr).add (j * 2 + i) = ⟨g, off + (j * 2 + i), none⟩ := by unfold Addr.add; split <;> simp_all
      rw [e]
      rcases i with _ | _ | i
      · injection hi2 with hi2; subst hi2; exact q0
      · injection hi2 with hi2; subst hi2; exact q1
      · simp [pr2] at hi2
    have hone : ∀ p ∈ prs2, p.1.oneCell' = true ∧ p.2.oneCell' = true := fun p hp => by
      obtain ⟨j, hj⟩ := List.getElem?_of_mem hp
      obtain ⟨_, _, _, _, _, _, _, _, q⟩ := k2 j p hj
      exact q
    obtain ⟨v', w', hrun, h2, h3, _, h5⟩ := run_append_own_at (P := Tryz.prog) w B 34 34 58 i (.agg #[.slice none 0 0, .slice none 0 0]) 2 48 Tryz.underlying34 hi hz hs hby rfl (by omega) v prs.length _ ho ad r.length c (prs2.map pr2).flatten (by rw [pr2_len, k1]) hnews (by
      intro u hu
      obtain ⟨l, hl2, hu2⟩ := List.mem_flatten.1 hu
      obtain ⟨p, hp, rfl⟩ := List.mem_map.1 hl2
      simp [pr2] at hu2
      rcases hu2 with rfl | rfl
      · exact (hone p hp).1
      · exact (hone p hp).2) (by unfold maxLen; omega) (by omega) (by omega)
    have hsz := h3.size
    refine ⟨v', w', prs2, hrun, ELW.mk (by omega) (by rw [List.length_append, List.map_append, List.flatten_append, k1]; exact h2) (fun k e => World.ownsRow.lt h2 k e) (fun p hp => by
      rcases List.mem_append.1 hp with h4 | h4
      · exact h1 p h4
      · exact hone p h4), k1, fun j x hj => ?_, fun b' hb hbB => hb.exo h3 (fun g e => by have := (hown g e).1; omega)⟩
    have hjl := (List.getElem?_eq_some_iff.1 hj).1
    have hp := List.getElem?_eq_getElem (show j < prs2.length by omega)
    obtain ⟨x', g, off, _, hx', _, _, hR, _⟩ := k2 j _ hp
    rw [hj] at hx'
    injection hx' with hx'
    subst hx'
    exact ⟨_, _, hp, hR⟩
set_option maxHeartbeats 4000000 in
theorem concat_q {Good : World → Prop} (A : Option Addr) (c : Nat) (rows : List (List Fra)) (w : World) (h : RowsQ Good w A rows) (hr8 : rows.length ≤ 8) (hr12 : ∀ r ∈ rows, r.length ≤ 1000) :
    Calls Tryz.prog 38 #[.slice A rows.length c] w fun e w' => ∃ v, e = .returned v ∧ RowP Good w' w.heap.size w'.heap.size v rows.flatten ∧ Ex w w' := by
  have hl : rows.length ≤ 1099511627776 := by omega
  have HF := Lib.hid (flat_len hr12)
  have H12 := Lib.hid hr12
  clear hr12
  go_enter Tryz.func38, Tryz.ntmps38
  go_wp2_with fail
  go_loopw [3, 11] (fun s i wr => ∃ k n : Nat, k ≤ rows.length ∧ i = .int .i64 k ∧ s = .int .i64 n ∧ Hid (n = ((rows.take k).flatten).length) ∧ Ex w wr) (fun _ i _ => rows.length - (intOf i).toNat)
  case atStart => exact ⟨0, 0, Nat.zero_le _, rfl, rfl, Lib.hid (by simp), Ex.refl _⟩
  case round =>
    rename World => wi
    obtain ⟨k, n, hk, rfl, rfl, Hn, he⟩ := hrel
    have hn8 : n ≤ 8000 := by have := HF.out k; have := Hn.out; omega
    by_cases hlt : k < rows.length
    · obtain ⟨g, off, r, P, pc, rfl, hr, b0, hP⟩ := (h.ex he).at_ hlt
      have hrl := H12.out r (List.mem_of_getElem? hr)
      have hw : IntKind.i64.wrap ((n : Int) + (r.length : Int)) = ((n + r.length : Nat) : Int) := by rw [IntWalk.i64_in _ (by omega)]; omega
      have HN := Lib.hid (show n + r.length = ((rows.take (k + 1)).flatten).length by rw [flat_step hr, List.length_append, Hn.out])
      have hneg : ¬ ((n + r.length : Nat) : Int) < 0 := by omega
      clear hr
      obtain ⟨m, hm⟩ : ∃ m, n + r.length = m := ⟨_, rfl⟩
      rw [hm] at hw HN hneg
      clear hm
      go_wp2_with fail
      clear hw
      go_roundw
      case rel => exact ⟨k + 1, m, by omega, by go_num, rfl, HN, he⟩
      case measure => simp [intOf]; omega
    · obtain rfl : k = rows.length := by omega
      have HT := Lib.hid (show n = rows.flatten.length by have := Hn.out; rwa [List.take_length] at this)
      go_wp2_with fail
      refine (growNil_c n (by omega) wi).mono ?_
      rintro e w1 ⟨A1, c1, rfl, ge1, x1⟩
      go_wp2_with fail
      go_loopw [6, 27] (fun o i wr => ∃ (k : Nat) (prs : List (Value × Value)), k ≤ rows.length ∧ i = .int .i64 k ∧ GE ELW 58 wr wi.heap.size wr.heap.size o prs ∧ Hid (prs.length = ((rows.take k).flatten).length ∧ ∀ (j : Nat) (x : Fra), ((rows.take k).flatten)[j]? = some x → ∃ a b, prs[j]? = some (a, b) ∧ ∀ w2, Good w2 → RFra w2 a b x) ∧ Ex wi wr) (fun _ i _ => rows.length - (intOf i).toNat)
      case atStart => exact ⟨0, [], Nat.zero_le _, rfl, ge1, Lib.hid ⟨by simp, fun j x hj => by simp at hj⟩, x1⟩
      case round =>
        rename World => wj
        obtain ⟨k, prs, hk2, rfl, hge, HP, hej⟩ := hrel
        by_cases hlt2 : k < rows.length
        · obtain ⟨g, off, r, P, pc, rfl, hr, b0W, hP⟩ := (h.ex he).at_ hlt2
          have b0 := cell_ex hej b0W
          have hrl := H12.out r (List.mem_of_getElem? hr)
          have hpl : prs.length ≤ 8000 := by have := HF.out k; have := HP.out.1; omega
          have HS := Lib.hid (flat_step hr)
          clear hr b0W
          obtain ⟨v', w', prs2, hrun, hge', hl2, hrd, hE⟩ := push_fracsQ hge (Nat.le_refl _) hej.size P pc r (hP.ex hej) (by omega)
          have xw := hE wi hej (Nat.le_refl _)
          have HQ := Lib.hid (show (prs ++ prs2).length = ((rows.take (k + 1)).flatten).length ∧ ∀ (j : Nat) (x : Fra), ((rows.take (k + 1)).flatten)[j]? = some x → ∃ a b, (prs ++ prs2)[j]? = some (a, b) ∧ ∀ w2, Good w2 → RFra w2 a b x by
            rw [HS.out]
            refine ⟨by rw [List.length_append, List.length_append, HP.out.1, hl2], fun j x hj => ?_⟩
            by_cases e : j < prs.length
            · rw [List.getElem?_append_left (by rw [← HP.out.1]; exact e)] at hj
              rw [List.getElem?_append_left e]
              exact HP.out.2 j x hj
            · rw [List.getElem?_append_right (by rw [← HP.out.1]; omega), ← HP.out.1] at hj
              rw [List.getElem?_append_right (by omega)]
              exact hrd _ x hj)
          clear hge hE hrd HP
          go_wp2_with (at_builtin; refine wpList_append_run rfl _ _ _ rfl rfl rfl hrun ?_)
          go_roundw
          case rel => exact ⟨k + 1, _, by omega, by go_num, hge', HQ, xw⟩
          case measure => simp [intOf]; omega
        · obtain rfl : k = rows.length := by omega
          obtain ⟨q1, q2⟩ := HP.out
          rw [List.take_length] at q1 q2
          obtain ⟨A5, c5, ev⟩ := hge.nilv
          subst ev
          have hwz := he.size
          go_wp2_with fail
          go_ret
          exact ⟨_, rfl, ⟨prs, hge.more hwz (Nat.le_refl _), q1, q2⟩, he.trans hej⟩
end Go.Proofs.YtpeogfapnofeoaaGreatDoor
