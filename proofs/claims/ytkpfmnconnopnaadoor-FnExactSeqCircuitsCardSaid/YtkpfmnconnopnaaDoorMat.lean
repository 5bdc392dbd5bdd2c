/- Lists of lists of ints in memory; the laws' helpers on them. -/
import Derived.Test.YtkpfmnconnopnaaDoorLaw
import Derived.RegionCalls
import Derived.Deep.RegionWith
namespace Go.Proofs.YtkpfmnconnopnaaDoor
set_option maxRecDepth 100000
open Go Go.RowKit
/-- The slice that begins at A holds slices of the lengths ns. -/
def RdH (w : World) (A : Option Addr) (ns : List Nat) : Prop :=
  ∀ (j n : Nat), ns[j]? = some n → n ≤ 9223372036854775807 ∧ ∃ g off A' c, A = some ⟨g, off, none⟩ ∧ w.cell? ⟨g, off + j, none⟩ = some (.slice A' n c)
/-- The slice that begins at A reads as the list of lists rows. -/
def RdM (w : World) (A : Option Addr) (rows : List (List Int)) : Prop :=
  rows.length ≤ 1099511627776 ∧ ∀ (j : Nat) (r : List Int), rows[j]? = some r → ∃ g off A' c, A = some ⟨g, off, none⟩ ∧ w.cell? ⟨g, off + j, none⟩ = some (.slice A' r.length c) ∧ Rd w A' r
theorem RdH.ex {w w' : World} {A : Option Addr} {ns : List Nat} (h : RdH w A ns) (he : Ex w w') : RdH w' A ns := fun j n hj => by
  obtain ⟨hb, g, off, A', c, hA, hc⟩ := h j n hj
  exact ⟨hb, g, off, A', c, hA, cell_ex he hc⟩
theorem RdM.ex {w w' : World} {A : Option Addr} {rows : List (List Int)} (h : RdM w A rows) (he : Ex w w') : RdM w' A rows := ⟨h.1, fun j r hj => by
  obtain ⟨g, off, A', c, hA, hc, hr⟩ := h.2 j r hj
  exact ⟨g, off, A', c, hA, cell_ex he hc, hr.ex he⟩⟩
theorem RdM.at_ {w : World} {A : Option Addr} {rows : List (List Int)} (h : RdM w A rows) {k : Nat} (hk : k < rows.length) :
    ∃ g off A' c r, A = some ⟨g, off, none⟩ ∧ rows[k]? = some r ∧ w.cell? ⟨g, off + k, none⟩ = some (.slice A' r.length c) ∧ Rd w A' r := by
  obtain ⟨g, off, A', c, hA, hc, hr⟩ := h.2 k _ (List.getElem?_eq_getElem hk)
  exact ⟨g, off, A', c, _, hA, List.getElem?_eq_getElem hk, hc, hr⟩
/-- What is left of l after sizes. -/
def szOne (l : Int) (n : Nat) : Int := if l < (n : Int) then -1 else l - (n : Int)
def szGo : Int → List Nat → Int
  | l, [] => l
  | l, n :: ns => if l < (n : Int) then -1 else szGo (l - (n : Int)) ns
def szAll (l : Int) (ns : List Nat) : Int := if l < (ns.length : Int) then -1 else szGo (l - (ns.length : Int)) ns
theorem szGo_le : ∀ (ns : List Nat) (l : Int), 0 ≤ szGo l ns → ((ns.sum : Nat) : Int) + szGo l ns = l
  | [], l, _ => by simp [szGo]
  | n :: ns, l, h => by
    rw [szGo] at h ⊢
    split at h
    · omega
    · rename_i hh
      rw [if_neg hh]
      have := szGo_le ns _ h
      simp only [List.sum_cons]
      omega
theorem szGo_take (ns : List Nat) : ∀ (k : Nat) (l : Int), 0 ≤ szGo l (ns.take k) → szGo l ns = szGo (szGo l (ns.take k)) (ns.drop k) := by
  induction ns with
  | nil => intro k l _; simp [szGo]
  | cons n ns ih =>
    intro k l h
    cases k with
    | zero => rfl
    | succ k =>
      rw [List.take_succ_cons, szGo] at h
      split at h
      · omega
      · rename_i hh
        rw [List.take_succ_cons, List.drop_succ_cons, szGo, szGo, if_neg hh, if_neg hh]
        exact ih k _ h
theorem szIntS_c (A : Option Addr) (c n : Nat) (l : Int) (w : World) (hm : n ≤ 9223372036854775807) (h0 : 0 ≤ l) (hl : l ≤ 1048576) : Calls Tryd.prog 45 #[.slice A n c, .int .i64 l] w fun e w' => e = .returned (.int .i64 (szOne l n)) ∧ w = w' := by
  by_cases hb : l < (n : Int)
  · rw [szOne, if_pos hb]; exact szIntS_big A c n l w hb hm h0 hl
  · rw [szOne, if_neg hb]; exact szIntS_ok A c n l w (by omega) hl
set_option maxHeartbeats 1000000 in
theorem szIntSS_c (A : Option Addr) (c n : Nat) (ns : List Nat) (l : Int) (w : World) (hA : RdH w A ns) (hn : ns.length = n) (hm : n ≤ 9223372036854775807) (h0 : 0 ≤ l) (hl : l ≤ 1048576) :
    Calls Tryd.prog 11 #[.slice A n c, .int .i64 l] w fun e w' => e = .returned (.int .i64 (szAll l ns)) ∧ w = w' := by
  have Hn := Lib.hid hn
  by_cases hb : l < (n : Int)
  · have H := Lib.hid (show szAll l ns = -1 by rw [szAll, if_pos (by omega)])
    clear hn
    go_enter Tryd.func11, Tryd.ntmps11
    go_wp2
    go_ret
    exact ⟨by rw [H.out]; rfl, rfl⟩
  · have H := Lib.hid (show szAll l ns = szGo (l - (n : Int)) ns by rw [szAll, if_neg (by omega), hn])
    have HA := Lib.hid hA
    clear hn hA
    go_enter Tryd.func11, Tryd.ntmps11
    go_wp2
    go_loop [1, 5] (fun a i => ∃ (k : Nat) (m : Int), k ≤ n ∧ a = .int .i64 m ∧ i = .int .i64 (k : Int) ∧ 0 ≤ m ∧ m ≤ 1048576 ∧ Hid (szGo m (ns.drop k) = szAll l ns)) (fun _ i => n - (intOf i).toNat)
    case atStart => exact ⟨0, l - n, Nat.zero_le _, rfl, rfl, by omega, by omega, Lib.hid H.out.symm⟩
    case round =>
      obtain ⟨k, m, hk, rfl, rfl, hm0, hm1, He⟩ := hrel
      by_cases hlt : k < n
      · have hkl : k < ns.length := by have := Hn.out; omega
        obtain ⟨hb2, g, off, A', c', rfl, hc⟩ := HA.out k _ (List.getElem?_eq_getElem hkl)
        have Hd := Lib.hid (List.drop_eq_getElem_cons hkl)
        generalize ns[k] = x at *
        by_cases hx : m < (x : Int)
        · go_wp2_with (go_at_call 45; refine (szIntS_big _ _ _ _ _ hx hb2 hm0 hm1).mono ?_; rintro e w' ⟨rfl, rfl⟩)
          go_ret
          refine ⟨?_, rfl⟩
          rw [← He.out, Hd.out, szGo, if_pos hx]; rfl
        · go_wp2_with (go_at_call 45; refine (szIntS_ok _ _ _ _ _ (by omega) hm1).mono ?_; rintro e w' ⟨rfl, rfl⟩)
          go_round
          case rel => exact ⟨k + 1, m - x, by omega, rfl, by go_num, by omega, by omega, Lib.hid (by rw [← He.out, Hd.out, szGo, if_neg (by omega)])⟩
          case measure => simp [intOf] <;> omega
      · obtain rfl : k = n := by omega
        go_wp2
        go_ret
        refine ⟨?_, rfl⟩
        have := He.out
        rw [List.drop_eq_nil_of_le (by rw [Hn.out]; exact Nat.le_refl _)] at this
        rw [← this]; rfl
/-- make([][]int, n) -/
theorem madeSlices (n : Nat) : (madeCells (Value.slice none 0 0).cells (n * 1)) = (List.replicate n (Value.slice none 0 0)).toArray := by
  apply Array.toList_inj.1
  rw [Nat.mul_one]
  show (madeCells #[Value.slice none 0 0] n).toList = _
  rw [toList_madeCells_one]
theorem sliceInfo : (Tryd.prog.info? 37).map (fun i => (i.zero, i.size, i.bytes)) = some (some (.slice none 0 0), 1, 24) := by kernel_rfl
theorem run_make_slices (n : Nat) (hn : n ≤ 1099511627776) (w : World) :
    (Instr.makeSlice 22 (.int .i64 (n : Int)) (.int .i64 (n : Int))).run Tryd.prog w = .ok (.slice (some ⟨w.heap.size, 0, none⟩) n n) (w.alloc (.cells (List.replicate n (Value.slice none 0 0)).toArray 37)) := by
  obtain ⟨i, hi, hz, hs, hb⟩ := info_parts sliceInfo
  have hr := run_make (P := Tryd.prog) w 22 37 i (.slice none 0 0) Tryd.underlying22 hi hz .i64 .i64 n n (by omega) (by omega) (by rw [hb]; omega) (by omega)
  simp only [Int.toNat_natCast, hs] at hr
  rw [madeSlices] at hr
  exact hr
/-- The headers of fresh rows. -/
def hdr (gs : List Nat) (rows : List (List Int)) : List Value := List.zipWith (fun g (r : List Int) => Value.slice (some ⟨g, 0, none⟩) r.length r.length) gs rows
/-- A fresh copy of rows: its own row of headers, a block for each row. -/
structure FM (w : World) (B g : Nat) (gs : List Nat) (rows : List (List Int)) : Prop where
  low : B ≤ g
  len : gs.length = rows.length
  head : VB w g 37 (hdr gs rows).toArray
  row : ∀ (j h : Nat) (r : List Int), gs[j]? = some h → rows[j]? = some r → g < h ∧ Blk w h r
  up : gs.Pairwise (· < ·)
theorem hdr_at {gs : List Nat} {rows : List (List Int)} {j h : Nat} {r : List Int} (hg : gs[j]? = some h) (hr : rows[j]? = some r) : (hdr gs rows)[j]? = some (Value.slice (some ⟨h, 0, none⟩) r.length r.length) := by
  simp [hdr, List.getElem?_zipWith, hg, hr]
theorem hdr_snoc {gs : List Nat} {rows : List (List Int)} {h : Nat} {r : List Int} (hr : rows[gs.length]? = some r) : hdr (gs ++ [h]) rows = hdr gs rows ++ [Value.slice (some ⟨h, 0, none⟩) r.length r.length] := by
  induction gs generalizing rows with
  | nil =>
    cases rows with
    | nil => cases hr
    | cons a tl => injection hr with hr; subst hr; simp [hdr]
  | cons x xs ih =>
    cases rows with
    | nil => cases hr
    | cons a tl =>
      have := ih (rows := tl) (by simpa using hr)
      simp only [hdr, List.cons_append, List.zipWith_cons_cons] at this ⊢
      rw [this]
theorem hdr_len {gs : List Nat} {rows : List (List Int)} (h : gs.length ≤ rows.length) : (hdr gs rows).length = gs.length := by simp [hdr]; omega
theorem FM.rd {w : World} {B g : Nat} {gs : List Nat} {rows : List (List Int)} (h : FM w B g gs rows) (hl : rows.length ≤ 1099511627776) (hr : ∀ r ∈ rows, r.length ≤ 1099511627776) : RdM w (some ⟨g, 0, none⟩) rows :=
  ⟨hl, fun j r hj => by
    have hlt := (List.getElem?_eq_some_iff.1 hj).1
    have hg : gs[j]? = some (gs[j]'(by rw [h.len]; exact hlt)) := List.getElem?_eq_getElem _
    obtain ⟨_, hb⟩ := h.row j _ r hg hj
    exact ⟨g, 0, _, _, rfl, by rw [Nat.zero_add]; exact h.head.cell j (by simpa using hdr_at hg hj), hb.rd (hr r (List.mem_of_getElem? hj))⟩⟩
theorem FM.ex {w w' : World} {B g : Nat} {gs : List Nat} {rows : List (List Int)} (h : FM w B g gs rows) (he : Ex w w') : FM w' B g gs rows :=
  ⟨h.low, h.len, h.head.ex he, fun j k r hg hr => ⟨(h.row j k r hg hr).1, (h.row j k r hg hr).2.ex he⟩, h.up⟩
set_option maxHeartbeats 1000000 in
theorem toIntSS_c (A : Option Addr) (c : Nat) (rows : List (List Int)) (w : World) (h : RdM w A rows) :
    Calls Tryd.prog 14 #[.slice A rows.length c] w fun e w' => ∃ g gs, e = .returned (.slice (some ⟨g, 0, none⟩) rows.length rows.length) ∧ FM w' w.heap.size g gs rows ∧ Ex w w' := by
  have hl := h.1
  have hmk := fun W => run_make_slices rows.length hl W
  have v0 := VB.new w 37 (List.replicate rows.length (Value.slice none 0 0)).toArray
  have he0 := (Ex.refl w).alloc (.cells (List.replicate rows.length (Value.slice none 0 0)).toArray 37)
  go_enter Tryd.func14, Tryd.ntmps14
  go_wp2
  go_loopw [4] (fun i wr => ∃ (k : Nat) (gs : List Nat), k ≤ rows.length ∧ gs.length = k ∧ i = .int .i64 k ∧ VB wr w.heap.size 37 (hdr gs rows ++ List.replicate (rows.length - k) (Value.slice none 0 0)).toArray ∧
      Hid (∀ (j h : Nat) (r : List Int), gs[j]? = some h → rows[j]? = some r → w.heap.size < h ∧ Blk wr h r) ∧ Hid (gs.Pairwise (· < ·)) ∧ Hid (∀ h ∈ gs, h < wr.heap.size) ∧ Ex w wr) (fun i _ => rows.length - (intOf i).toNat)
  case atStart => exact ⟨0, [], Nat.zero_le _, rfl, rfl, by simpa [hdr] using v0, Lib.hid (fun j h r hg => by cases hg), Lib.hid List.Pairwise.nil, Lib.hid (by simp), he0⟩
  case round =>
    obtain ⟨k, gs, hk, hgs, rfl, hv, Hrow, Hup, Hlt, he⟩ := hrel
    by_cases hlt : k < rows.length
    · obtain ⟨g, off, A', c', r, rfl, hr, hc, hrd⟩ := (h.ex he).at_ hlt
      have Hr := Lib.hid hr
      clear hr
      go_wp2_with fail
      refine (toIntS_c A' c' r wr hrd).mono ?_
      rintro e w1 ⟨g1, rfl, hg1, hb1, x1⟩
      have v1 := hv.ex x1
      have hcell := v1.cell k (v := .slice none 0 0) (by
        simp only [List.getElem?_toArray]
        rw [List.getElem?_append_right (by rw [hdr_len (by omega)]; omega), List.getElem?_replicate, hdr_len (by omega), if_pos (by omega)])
      have hfz := v1.frozen k
      have v2 := v1.set_ k (.slice (some ⟨g1, 0, none⟩) r.length r.length)
      have hset : (hdr gs rows ++ List.replicate (rows.length - k) (Value.slice none 0 0)).toArray.setIfInBounds k (.slice (some ⟨g1, 0, none⟩) r.length r.length) = (hdr (gs ++ [g1]) rows ++ List.replicate (rows.length - (k + 1)) (Value.slice none 0 0)).toArray := by
        rw [List.setIfInBounds_toArray, hdr_snoc (by rw [hgs]; exact Hr.out), List.set_append_right _ _ (by rw [hdr_len (by omega)]; omega), hdr_len (by omega), hgs, Nat.sub_self,
          show rows.length - k = rows.length - (k + 1) + 1 by omega, List.replicate_succ, List.set_cons_zero, List.append_assoc]
        rfl
      rw [hset] at v2
      have x2 : Ex1 w.heap.size w1 (w1.setCell ⟨w.heap.size, k, none⟩ (.slice (some ⟨g1, 0, none⟩) r.length r.length)) := (Ex1.refl _ _).setCell rfl _
      have hb2 := hb1.ex1 x2 (by have := hv.lt; omega)
      have he2 := (he.trans x1).ex1 x2 (Nat.le_refl _)
      have hrow' : ∀ (j h : Nat) (q : List Int), (gs ++ [g1])[j]? = some h → rows[j]? = some q → w.heap.size < h ∧ Blk (w1.setCell ⟨w.heap.size, k, none⟩ (.slice (some ⟨g1, 0, none⟩) r.length r.length)) h q := by
        intro j h q hg hq
        rw [List.getElem?_append] at hg
        split at hg
        · have := Hrow.out j h q hg hq
          exact ⟨this.1, (this.2.ex x1).ex1 x2 (by omega)⟩
        · rename_i hj
          have hjk : j = k := by
            have := (List.getElem?_eq_some_iff.1 hg).1
            simp at this; omega
          subst hjk
          rw [hgs, Nat.sub_self] at hg
          injection hg with hg
          subst hg
          rw [Hr.out] at hq
          injection hq with hq
          subst hq
          exact ⟨by have := hv.lt; omega, hb2⟩
      have hup' : (gs ++ [g1]).Pairwise (· < ·) := List.pairwise_append.2 ⟨Hup.out, List.pairwise_singleton _ _, fun a ha b hb => by
        simp at hb; subst hb; have := Hlt.out a ha; omega⟩
      have hlt' : ∀ h ∈ gs ++ [g1], h < (w1.setCell ⟨w.heap.size, k, none⟩ (.slice (some ⟨g1, 0, none⟩) r.length r.length)).heap.size := fun h hh => by
        have s2 := x2.size
        have s1 := x1.size
        rcases List.mem_append.1 hh with hh | hh
        · have := Hlt.out h hh; omega
        · simp at hh; subst hh; have := hb2.lt; exact this
      have Hrow' := Lib.hid hrow'
      have Hup' := Lib.hid hup'
      have Hlt' := Lib.hid hlt'
      have Hgs := Lib.hid hgs
      clear hrow' hup' hlt' hset hgs
      go_wp2
      go_roundw
      case rel => exact ⟨k + 1, gs ++ [g1], by omega, by rw [List.length_append, Hgs.out]; rfl, by go_num, v2, Hrow', Hup', Hlt', he2⟩
      case measure => simp [intOf] <;> omega
    · obtain rfl : k = rows.length := by omega
      have Hgs := Lib.hid hgs
      clear hgs
      go_wp2
      go_ret
      refine ⟨_, gs, rfl, ⟨Nat.le_refl _, Hgs.out, by simpa using hv, Hrow.out, Hup.out⟩, he⟩
set_option maxHeartbeats 2000000 in
theorem eqIntSS_c (A A' : Option Addr) (c c' : Nat) (rows : List (List Int)) (w : World) (h : RdM w A rows) (h' : RdM w A' rows) :
    Calls Tryd.prog 16 #[.slice A rows.length c, .slice A' rows.length c'] w fun e w' => e = .returned (.bool true) ∧ Ex w w' := by
  have hl := h.1
  go_enter Tryd.func16, Tryd.ntmps16
  go_wp2
  go_loopw [5] (fun i wr => ∃ k : Nat, k ≤ rows.length ∧ i = .int .i64 k ∧ Ex w wr) (fun i _ => rows.length - (intOf i).toNat)
  case atStart => exact ⟨0, Nat.zero_le _, rfl, Ex.refl w⟩
  case round =>
    obtain ⟨k, hk, rfl, he⟩ := hrel
    by_cases hlt : k < rows.length
    · obtain ⟨g, off, B, d, r, rfl, hr, hc, hrd⟩ := (h.ex he).at_ hlt
      obtain ⟨g', off', B', d', r', rfl, hr', hc', hrd'⟩ := (h'.ex he).at_ hlt
      obtain rfl : r = r' := by rw [hr] at hr'; injection hr'
      clear hr hr'
      go_wp2_with fail
      go_region_with (go_at_call 28; refine (eqIntS_c B B' d d' r _ hrd.drew hrd'.drew).mono ?_; rintro e w1 ⟨rfl, x1⟩)
      all_goals go_wp2
      all_goals exact ⟨⟨k + 1, by omega, by go_num, he.drew.trans x1⟩, by simp [intOf] <;> omega⟩
    · obtain rfl : k = rows.length := by omega
      go_wp2
      go_ret
      exact ⟨rfl, he⟩
end Go.Proofs.YtkpfmnconnopnaaDoor
