/- Valid terms and the places of values (the program). Marks and holds on lists of lists of ints, by intervals of blocks. Convolution of series: the contracts of both sides. -/
import Derived.Test.YtphdcgimibnajaaGreatAp13
import Derived.Test.YtphdcgimibnajaaGreatAp07
import Derived.Test.YtphdcgimibnajaaGreatAp16
import Derived.Deep.RegionHeld3
import Derived.Test.YtphdcgimibnajaaGreatAp08
import Derived.Test.YtphdcgimibnajaaGreatIv
import Derived.Test.YtphdcgimibnajaaGreatAp05
import Derived.StillTailTactics
import Derived.BigRegion
namespace Go.Proofs.YtphdcgimibnajaaGreat
set_option maxRecDepth 100000
open Go Go.RowKit
theorem wires_t (l : List Nd) (A : Option Addr) (c : Nat) (w : World) (h : RdS EN w A l) :
    Calls Tryz.prog 106 #[.agg #[.slice A l.length c]] w fun e w' => ∃ a b, e = .returned (.tuple #[.agg #[.int .i64 a, .int .i64 b], .bool (trmB l)]) ∧ (trmB l = true → typO l = some (a, b)) ∧ Ex w w' := by
  have x0 := (Ex.refl w).alloc (.cells #[.slice A l.length c] 29)
  have v0 := VB.new w 29 #[.slice A l.length c]
  obtain ⟨W0, hW0⟩ : ∃ W, w.alloc (.cells #[.slice A l.length c] 29) = W := ⟨_, rfl⟩
  have s0 : W0.heap.size = w.heap.size + 1 := by rw [← hW0]; simp
  rw [hW0] at x0 v0
  have x1 := (Ex.refl W0).alloc (.cells #[.int .i64 0, .int .i64 0] 124)
  have v1 := VB.new W0 124 #[.int .i64 0, .int .i64 0]
  obtain ⟨W1, hW1⟩ : ∃ W, W0.alloc (.cells #[.int .i64 0, .int .i64 0] 124) = W := ⟨_, rfl⟩
  rw [hW1] at x1 v1
  rw [s0] at v1
  have q0 := (v0.ex x1).cell 0 (v := .slice A l.length c) rfl
  go_enter Tryz.func106, Tryz.ntmps106
  go_wp2_with fail
  refine (typed_c l A c _ (h.ex (x0.trans x1))).mono ?_
  rintro e w2 ⟨a, b, rfl, hab, x2⟩
  have HAB := Lib.hid hab
  have hv := v1.ex x2
  obtain ⟨dd, zz⟩ := hv.st2 (.int .i64 a) (.int .i64 b)
  have r0 := hv.cell 0 (v := .int .i64 0) rfl
  have r1 := hv.cell 1 (v := .int .i64 0) rfl
  have z0 := hv.frozen 0
  have z1 := hv.frozen 1
  have C0 := dd.cell 0 (v := .int .i64 a) rfl
  have C1 := dd.cell 1 (v := .int .i64 b) rfl
  have eF := ((x0.trans x1).trans x2).ex1 zz (by omega)
  clear hab
  go_wp2_with fail
  refine bodyPost_ret (v := .tuple #[.agg #[.int .i64 a, .int .i64 b], .bool (trmB l)]) (by simp [results, Tryz.results106, go_sem, C0, C1]) rfl ?_
  exact ⟨a, b, rfl, HAB.out, eF⟩
theorem isValid_t (l : List Nd) (A : Option Addr) (c : Nat) (w : World) (h : RdS EN w A l) :
    Calls Tryz.prog 92 #[.agg #[.slice A l.length c]] w fun e w' => e = .returned (.bool (trmB l)) ∧ Ex w w' := by
  have x0 := (Ex.refl w).alloc (.cells #[.slice A l.length c] 29)
  have v0 := VB.new w 29 #[.slice A l.length c]
  have q0 := v0.cell 0 (v := .slice A l.length c) rfl
  go_enter Tryz.func92, Tryz.ntmps92
  go_wp2_with fail
  refine (wires_t l A c _ (h.ex x0)).mono ?_
  rintro e w2 ⟨a, b, rfl, _, x2⟩
  go_wp2_with fail
  go_ret
  exact ⟨rfl, (x0.trans x2).alloc _⟩
theorem validTerm_c (l : List Nd) (A : Option Addr) (c : Nat) (w : World) (h : RdS EN w A l) :
    Calls Tryz.prog 61 #[.slice A l.length c] w fun e w' => e = .returned (if trmB l = true then .tuple #[.agg #[.slice A l.length c], .bool true] else .tuple #[.agg #[.slice none 0 0], .bool false]) ∧ Ex w w' := by
  obtain ⟨R, hR⟩ : ∃ R : Value, (if trmB l = true then Value.tuple #[.agg #[.slice A l.length c], .bool true] else .tuple #[.agg #[.slice none 0 0], .bool false]) = R := ⟨_, rfl⟩
  have HR := Lib.hid hR
  rw [hR]
  clear hR
  have x0 := (Ex.refl w).alloc (.cells #[.slice none 0 0] 29)
  have v0 := VB.new w 29 #[.slice none 0 0]
  obtain ⟨W0, hW0⟩ : ∃ W, w.alloc (.cells #[.slice none 0 0] 29) = W := ⟨_, rfl⟩
  have s0 : W0.heap.size = w.heap.size + 1 := by rw [← hW0]; simp
  rw [hW0] at x0 v0
  have x1 := (Ex.refl W0).alloc (.cells #[.slice A l.length c] 29)
  have v1 := VB.new W0 29 #[.slice A l.length c]
  obtain ⟨W1, hW1⟩ : ∃ W, W0.alloc (.cells #[.slice A l.length c] 29) = W := ⟨_, rfl⟩
  rw [hW1] at x1 v1
  rw [s0] at v1
  have q0 := v1.cell 0 (v := .slice A l.length c) rfl
  go_enter Tryz.func61, Tryz.ntmps61
  go_wp2_with fail
  refine (isValid_t l A c _ (h.ex (x0.trans x1))).mono ?_
  rintro e w2 ⟨rfl, x2⟩
  have hv := (v0.ex x1).ex x2
  have r0 := hv.cell 0 (v := .slice none 0 0) rfl
  have z0 := hv.frozen 0
  have q0 := (v1.ex x2).cell 0 (v := .slice A l.length c) rfl
  cases hb : trmB l with
  | false =>
    have dd := hv.set_ 0 (.slice none 0 0)
    have C0 := dd.cell 0 (v := .slice none 0 0) rfl
    have eF := ((x0.trans x1).trans x2).setCell (p := ⟨w.heap.size, 0, none⟩) (Nat.le_refl _) (.slice none 0 0)
    go_wp2_with fail
    refine bodyPost_ret (v := .tuple #[.agg #[.slice none 0 0], .bool false]) (by simp [results, Tryz.results61, go_sem, C0]) rfl ?_
    exact ⟨by rw [← HR.out, hb]; rfl, eF⟩
  | true =>
    have dd := hv.set_ 0 (.slice A l.length c)
    have C0 := dd.cell 0 (v := .slice A l.length c) rfl
    have eF := ((x0.trans x1).trans x2).setCell (p := ⟨w.heap.size, 0, none⟩) (Nat.le_refl _) (.slice A l.length c)
    go_wp2_with fail
    refine bodyPost_ret (v := .tuple #[.agg #[.slice A l.length c], .bool true]) (by simp [results, Tryz.results61, go_sem, C0]) rfl ?_
    exact ⟨by rw [← HR.out, hb]; rfl, eF⟩
end Go.Proofs.YtphdcgimibnajaaGreat
namespace Go.Proofs.YtphdcgimibnajaaGreat
set_option maxRecDepth 100000
open Go Go.RowKit
/-- A list of lists of its own in the blocks from lo on and below hi: its headers in one block, each row in an interval of its own. -/
def FMI (w : World) (lo hi : Nat) (A : Option Addr) (rows : List (List Int)) : Prop :=
  rows.length ≤ 1099511627776 ∧ ∃ (al bl : Nat → Nat), (∀ (j : Nat) (r : List Int), rows[j]? = some r → ∃ g off A' c, A = some ⟨g, off, none⟩ ∧ lo ≤ g ∧ g < hi ∧ w.cell? ⟨g, off + j, none⟩ = some (.slice A' r.length c) ∧
      FI w (al j) (bl j) A' c r ∧ lo ≤ al j ∧ bl j ≤ hi ∧ (g < al j ∨ bl j ≤ g)) ∧
    ∀ i j, i < rows.length → j < rows.length → i ≠ j → (bl i ≤ al j ∨ bl j ≤ al i)
theorem FMI.rd {w : World} {lo hi : Nat} {A : Option Addr} {rows : List (List Int)} (h : FMI w lo hi A rows) : RdM w A rows := by
  obtain ⟨hl, al, bl, h1, _⟩ := h
  refine ⟨hl, fun j r hj => ?_⟩
  obtain ⟨g, off, A', c, hA, _, _, hc, hf, _⟩ := h1 j r hj
  exact ⟨g, off, A', c, hA, hc, hf.rd⟩
theorem FMI.nil (w : World) (lo hi : Nat) (A : Option Addr) : FMI w lo hi A [] := ⟨by simp, fun _ => 0, fun _ => 0, fun j r hj => by simp at hj, fun i j hi => by simp at hi⟩
theorem FMI.more {w : World} {lo hi lo' hi' : Nat} {A : Option Addr} {rows : List (List Int)} (h : FMI w lo hi A rows) (h1 : lo' ≤ lo) (h2 : hi ≤ hi') : FMI w lo' hi' A rows := by
  obtain ⟨hl, al, bl, k1, k2⟩ := h
  refine ⟨hl, al, bl, fun j r hj => ?_, k2⟩
  obtain ⟨g, off, A', c, hA, hg1, hg2, hc, hf, ha, hb, hd⟩ := k1 j r hj
  exact ⟨g, off, A', c, hA, by omega, by omega, hc, hf, by omega, by omega, hd⟩
theorem FMI.ex {w w' : World} {lo hi : Nat} {A : Option Addr} {rows : List (List Int)} (h : FMI w lo hi A rows) (he : Ex w w') : FMI w' lo hi A rows := by
  obtain ⟨hl, al, bl, k1, k2⟩ := h
  refine ⟨hl, al, bl, fun j r hj => ?_, k2⟩
  obtain ⟨g, off, A', c, hA, hg1, hg2, hc, hf, ha, hb, hd⟩ := k1 j r hj
  exact ⟨g, off, A', c, hA, hg1, hg2, cell_ex he hc, hf.ex he, ha, hb, hd⟩
theorem cell_iv {w w' : World} {a b g o : Nat} {v : Value} (k : ExI a b w w') (hc : w.cell? ⟨g, o, none⟩ = some v) (hd : g < a ∨ b ≤ g) : w'.cell? ⟨g, o, none⟩ = some v :=
  (World.cell?_of_block (w := w) (a := ⟨g, o, none⟩) (k.block g (cell_lt (p := ⟨g, o, none⟩) hc) hd)).trans hc
theorem FMI.iv {w w' : World} {lo hi a b : Nat} {A : Option Addr} {rows : List (List Int)} (h : FMI w lo hi A rows) (k : ExI a b w w') (hd : hi ≤ a ∨ b ≤ lo) : FMI w' lo hi A rows := by
  obtain ⟨hl, al, bl, k1, k2⟩ := h
  refine ⟨hl, al, bl, fun j r hj => ?_, k2⟩
  obtain ⟨g, off, A', c, hA, hg1, hg2, hc, hf, ha, hb, hd'⟩ := k1 j r hj
  exact ⟨g, off, A', c, hA, hg1, hg2, cell_iv k hc (by omega), hf.iv k (by omega), ha, hb, hd'⟩
/-- One row turned in place. -/
theorem FMI.row {w : World} {lo hi : Nat} {A : Option Addr} {rows : List (List Int)} (h : FMI w lo hi A rows) {i : Nat} {r : List Int} (hi' : rows[i]? = some r) :
    ∃ g off A' c a b, A = some ⟨g, off, none⟩ ∧ w.cell? ⟨g, off + i, none⟩ = some (.slice A' r.length c) ∧ FI w a b A' c r ∧ lo ≤ a ∧ b ≤ hi ∧
      ∀ w' r', ExI a b w w' → FI w' a b A' c r' → r'.length = r.length → FMI w' lo hi A (rows.set i r') := by
  obtain ⟨hl, al, bl, k1, k2⟩ := h
  have hlt := (List.getElem?_eq_some_iff.1 hi').1
  obtain ⟨g, off, A', c, hA, hg1, hg2, hc, hf, ha, hb, hd⟩ := k1 i r hi'
  refine ⟨g, off, A', c, al i, bl i, hA, hc, hf, ha, hb, fun w' r' k hf' hlen => ⟨by simpa using hl, al, bl, fun j q hj => ?_, by simpa using k2⟩⟩
  rw [List.getElem?_set] at hj
  split at hj
  · rename_i e
    subst e
    injection hj with hj
    subst hj
    exact ⟨g, off, A', c, hA, hg1, hg2, by rw [hlen]; exact cell_iv k hc hd, hf', ha, hb, hd⟩
  · rename_i e
    have hjl := (List.getElem?_eq_some_iff.1 hj).1
    obtain ⟨g2, off2, A2, c2, hA2, hg12, hg22, hc2, hf2, ha2, hb2, hd2⟩ := k1 j q hj
    rw [hA] at hA2
    injection hA2 with hA2
    injection hA2 with e1 e2 _
    subst e1 e2
    exact ⟨g, off, A2, c2, hA, hg1, hg2, cell_iv k hc2 hd, hf2.iv k (by have := k2 i j hlt hjl e; omega), ha2, hb2, hd2⟩
end Go.Proofs.YtphdcgimibnajaaGreat
namespace Go.Proofs.YtphdcgimibnajaaGreat
set_option maxRecDepth 100000
open Go Go.RowKit

/-- The sum of a[i] b[k - i] for i below j. -/
def cv (a b : List Int) (k : Nat) : Nat → Int
  | 0 => 0
  | j + 1 => cv a b k j + a[j]?.getD 0 * b[k - j]?.getD 0
end Go.Proofs.YtphdcgimibnajaaGreat
