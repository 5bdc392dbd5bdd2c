/- Marks and holds on lists of lists of ints, by intervals of blocks. -/
import Derived.Test.YtgblnkadmieflaaMat
import Derived.Test.YtgblnkadmieflaaIv
namespace Go.Proofs.Ytgblnkadmieflaa
set_option maxRecDepth 100000
open Go Go.RowKit
/-- A list of lists of its own in the blocks from lo on and below hi: its headers in one block, each row in an interval of its own. -/
def FMI (w : World) (lo hi : Nat) (A : Option Addr) (rows : List (List Int)) : Prop :=
  rows.length ≤ 1099511627776 ∧ ∃ (al bl : Nat → Nat), (∀ (j : Nat) (r : List Int), rows[j]? = some r → ∃ g off A' c, A = some ⟨g, off, none⟩ ∧ lo ≤ g ∧ g < hi ∧ w.cell? ⟨g, off + j, none⟩ = some (.slice A' r.length c) ∧
      FI w (al j) (bl j) A' c r ∧ lo ≤ al j ∧ bl j ≤ hi ∧ (g < al j ∨ bl j ≤ g)) ∧
    ∀ i j, i < rows.length → j < rows.length → i ≠ j → (bl i ≤ al j ∨ bl j ≤ al i)
theorem FMI.rd {w : World} {lo hi : Nat} {A : Option Addr} {rows : List (List Int)} (h : FMI w lo hi A rows) : RdM w A rows := by
  obtain ⟨hl, al, bl, h1, _⟩ := h
  refine ⟨hl, fun j r hj => ?_⟩
  obtain ⟨g, off, A', c, hA, _, _, hc, hf, _⟩ := h1 j r hj
  exact ⟨g, off, A', c, hA, hc, hf.rd⟩
theorem FMI.nil (w : World) (lo hi : Nat) (A : Option Addr) : FMI w lo hi A [] := ⟨by simp, fun _ => 0, fun _ => 0, fun j r hj => by simp at hj, fun i j hi => by simp at hi⟩
theorem FMI.more {w : World} {lo hi lo' hi' : Nat} {A : Option Addr} {rows : List (List Int)} (h : FMI w lo hi A rows) (h1 : lo' ≤ lo) (h2 : hi ≤ hi') : FMI w lo' hi' A rows := by
  obtain ⟨hl, al, bl, k1, k2⟩ := h
  refine ⟨hl, al, bl, fun j r hj => ?_, k2⟩
  obtain ⟨g, off, A', c, hA, hg1, hg2, hc, hf, ha, hb, hd⟩ := k1 j r hj
  exact ⟨g, off, A', c, hA, by omega, by omega, hc, hf, by omega, by omega, hd⟩
theorem FMI.ex {w w' : World} {lo hi : Nat} {A : Option Addr} {rows : List (List Int)} (h : FMI w lo hi A rows) (he : Ex w w') : FMI w' lo hi A rows := by
  obtain ⟨hl, al, bl, k1, k2⟩ := h
  refine ⟨hl, al, bl, fun j r hj => ?_, k2⟩
  obtain ⟨g, off, A', c, hA, hg1, hg2, hc, hf, ha, hb, hd⟩ := k1 j r hj
  exact ⟨g, off, A', c, hA, hg1, hg2, cell_ex he hc, hf.ex he, ha, hb, hd⟩
theorem cell_iv {w w' : World} {a b g o : Nat} {v : Value} (k : ExI a b w w') (hc : w.cell? ⟨g, o, none⟩ = some v) (hd : g < a ∨ b ≤ g) : w'.cell? ⟨g, o, none⟩ = some v :=
  (World.cell?_of_block (w := w) (a := ⟨g, o, none⟩) (k.block g (cell_lt (p := ⟨g, o, none⟩) hc) hd)).trans hc
theorem FMI.iv {w w' : World} {lo hi a b : Nat} {A : Option Addr} {rows : List (List Int)} (h : FMI w lo hi A rows) (k : ExI a b w w') (hd : hi ≤ a ∨ b ≤ lo) : FMI w' lo hi A rows := by
  obtain ⟨hl, al, bl, k1, k2⟩ := h
  refine ⟨hl, al, bl, fun j r hj => ?_, k2⟩
  obtain ⟨g, off, A', c, hA, hg1, hg2, hc, hf, ha, hb, hd'⟩ := k1 j r hj
  exact ⟨g, off, A', c, hA, hg1, hg2, cell_iv k hc (by omega), hf.iv k (by omega), ha, hb, hd'⟩
/-- One row turned in place. -/
theorem FMI.row {w : World} {lo hi : Nat} {A : Option Addr} {rows : List (List Int)} (h : FMI w lo hi A rows) {i : Nat} {r : List Int} (hi' : rows[i]? = some r) :
    ∃ g off A' c a b, A = some ⟨g, off, none⟩ ∧ w.cell? ⟨g, off + i, none⟩ = some (.slice A' r.length c) ∧ FI w a b A' c r ∧ lo ≤ a ∧ b ≤ hi ∧
      ∀ w' r', ExI a b w w' → FI w' a b A' c r' → r'.length = r.length → FMI w' lo hi A (rows.set i r') := by
  obtain ⟨hl, al, bl, k1, k2⟩ := h
  have hlt := (List.getElem?_eq_some_iff.1 hi').1
  obtain ⟨g, off, A', c, hA, hg1, hg2, hc, hf, ha, hb, hd⟩ := k1 i r hi'
  refine ⟨g, off, A', c, al i, bl i, hA, hc, hf, ha, hb, fun w' r' k hf' hlen => ⟨by simpa using hl, al, bl, fun j q hj => ?_, by simpa using k2⟩⟩
  rw [List.getElem?_set] at hj
  split at hj
  · rename_i e
    subst e
    injection hj with hj
    subst hj
    exact ⟨g, off, A', c, hA, hg1, hg2, by rw [hlen]; exact cell_iv k hc hd, hf', ha, hb, hd⟩
  · rename_i e
    have hjl := (List.getElem?_eq_some_iff.1 hj).1
    obtain ⟨g2, off2, A2, c2, hA2, hg12, hg22, hc2, hf2, ha2, hb2, hd2⟩ := k1 j q hj
    rw [hA] at hA2
    injection hA2 with hA2
    injection hA2 with e1 e2 _
    subst e1 e2
    exact ⟨g, off, A2, c2, hA, hg1, hg2, cell_iv k hc2 hd, hf2.iv k (by have := k2 i j hlt hjl e; omega), ha2, hb2, hd2⟩
theorem FM.fmi {w : World} {B g : Nat} {gs : List Nat} {rows : List (List Int)} (h : FM w B g gs rows) (hl : rows.length ≤ 1099511627776) (hr : ∀ r ∈ rows, r.length ≤ 1099511627776) : FMI w B w.heap.size (some ⟨g, 0, none⟩) rows := by
  have hlt : ∀ i j, i < rows.length → j < rows.length → i < j → gs.getD i 0 < gs.getD j 0 := fun i j h1 h2 hij => by
    have hi : i < gs.length := by rw [h.len]; exact h1
    have hj : j < gs.length := by rw [h.len]; exact h2
    have := List.pairwise_iff_getElem.1 h.up i j hi hj hij
    simpa [List.getD_eq_getElem?_getD, List.getElem?_eq_getElem hi, List.getElem?_eq_getElem hj] using this
  refine ⟨hl, fun j => gs.getD j 0, fun j => gs.getD j 0 + 1, fun j r hj => ?_, fun i j h1 h2 hne => ?_⟩
  · have hjl := (List.getElem?_eq_some_iff.1 hj).1
    have hg : gs[j]? = some (gs[j]'(by rw [h.len]; exact hjl)) := List.getElem?_eq_getElem _
    obtain ⟨hgh, hb⟩ := h.row j _ r hg hj
    have e : gs.getD j 0 = gs[j]'(by rw [h.len]; exact hjl) := by rw [List.getD_eq_getElem?_getD, hg]; rfl
    have hc := h.head.cell j (v := .slice (some ⟨gs[j]'(by rw [h.len]; exact hjl), 0, none⟩) r.length r.length) (by simpa using hdr_at hg hj)
    have hlow := h.low
    have hbl := hb.lt
    refine ⟨g, 0, _, _, rfl, hlow, h.head.lt, by rw [Nat.zero_add]; exact hc, ⟨by show Fr w (gs.getD j 0) _ _ _; rw [e]; exact hb.fr (hr r (List.mem_of_getElem? hj)) (Nat.le_refl _) (Nat.le_refl _), fun a ea => by injection ea with ea; subst ea; simp only [e]; omega⟩, by simp only [e]; omega, by simp only [e]; omega, .inl (by simp only [e]; exact hgh)⟩
  · rcases Nat.lt_or_gt_of_ne hne with hlt' | hgt
    · left; have := hlt i j h1 h2 hlt'; show gs.getD i 0 + 1 ≤ gs.getD j 0; omega
    · right; have := hlt j i h2 h1 hgt; show gs.getD j 0 + 1 ≤ gs.getD i 0; omega
/-- The marks on rows of the lengths ns. -/
def mkM : Int → List Nat → List (List Int)
  | _, [] => []
  | k, n :: ns => mk k n :: mkM (k + (n : Int)) ns
theorem mkM_len : ∀ (k : Int) (ns : List Nat), (mkM k ns).length = ns.length
  | _, [] => rfl
  | k, n :: ns => by rw [mkM, List.length_cons, mkM_len, List.length_cons]
theorem mkM_at : ∀ (k : Int) (ns : List Nat) (i n : Nat), ns[i]? = some n → (mkM k ns)[i]? = some (mk (k + ((ns.take i).sum : Int)) n)
  | k, m :: ns, 0, n, h => by simp at h; subst h; simp [mkM]
  | k, m :: ns, i + 1, n, h => by
    rw [mkM, List.getElem?_cons_succ, mkM_at _ ns i n (by simpa using h), List.take_succ_cons, List.sum_cons]
    congr 2; push_cast; omega
theorem mkM_step (k : Int) (rows : List (List Int)) (i : Nat) (r : List Int) (hr : rows[i]? = some r) :
    (mkM k ((rows.map List.length).take i) ++ rows.drop i).set i (mk (k + (((rows.map List.length).take i).sum : Int)) r.length) = mkM k ((rows.map List.length).take (i + 1)) ++ rows.drop (i + 1) := by
  have hlt := (List.getElem?_eq_some_iff.1 hr).1
  have hl : (mkM k ((rows.map List.length).take i)).length = i := by rw [mkM_len, List.length_take, List.length_map]; omega
  rw [List.set_append_right _ _ (by omega), hl, Nat.sub_self, List.drop_eq_getElem_cons hlt, List.set_cons_zero]
  have hn : (rows.map List.length)[i]? = some r.length := by rw [List.getElem?_map, hr]; rfl
  have : mkM k ((rows.map List.length).take (i + 1)) = mkM k ((rows.map List.length).take i) ++ [mk (k + (((rows.map List.length).take i).sum : Int)) r.length] := by
    apply List.ext_getElem?
    intro j
    by_cases hj : j < i
    · rw [List.getElem?_append_left (by omega)]
      have hjn : ∃ n, (rows.map List.length)[j]? = some n := ⟨_, List.getElem?_eq_getElem (by simp; omega)⟩
      obtain ⟨n, hjn⟩ := hjn
      have e1 : ((rows.map List.length).take (i + 1))[j]? = some n := by rw [List.getElem?_take, if_pos (by omega)]; exact hjn
      have e2 : ((rows.map List.length).take i)[j]? = some n := by rw [List.getElem?_take, if_pos hj]; exact hjn
      rw [mkM_at _ _ j n e1, mkM_at _ _ j n e2, List.take_take, List.take_take, Nat.min_eq_left (by omega), Nat.min_eq_left (by omega)]
    · by_cases hji : j = i
      · subst hji
        have e1 : ((rows.map List.length).take (j + 1))[j]? = some r.length := by rw [List.getElem?_take, if_pos (by omega)]; exact hn
        rw [mkM_at _ _ j _ e1, List.take_take, Nat.min_eq_left (by omega), List.getElem?_append_right (by omega), hl, Nat.sub_self]; rfl
      · rw [List.getElem?_eq_none (by rw [mkM_len, List.length_take]; omega), List.getElem?_eq_none (by rw [List.length_append, hl]; simp; omega)]
  rw [this, List.append_assoc]
  rfl
theorem sum_take_le (ns : List Nat) (i : Nat) : (ns.take i).sum ≤ ns.sum := by
  have := List.take_append_drop i ns
  have e : ns.sum = (ns.take i).sum + (ns.drop i).sum := by rw [← List.sum_append, this]
  omega
theorem sum_take_succ (ns : List Nat) {i n : Nat} (h : ns[i]? = some n) : (ns.take (i + 1)).sum = (ns.take i).sum + n := by
  rw [List.take_add_one, h, List.sum_append]; simp
end Go.Proofs.Ytgblnkadmieflaa
