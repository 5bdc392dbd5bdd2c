/- Contracts: lists of fractions; causal fractions. -/
import Derived.Test.YtjkomgoncmbgiaaDoorFrac3
import Derived.Test.YtjkomgoncmbgiaaDoorLawFrac
namespace Go.Proofs.YtjkomgoncmbgiaaDoor
open Go Go.RowKit
/-- The slice that begins at A holds the fractions fs, two cells each. -/
def RdF (w : World) (A : Option Addr) (fs : List (List Int × List Int)) : Prop :=
  fs.length ≤ 549755813888 ∧ ∀ (j : Nat) (q : List Int × List Int), fs[j]? = some q → ∃ g off A' c B' d, A = some ⟨g, off, none⟩ ∧
    w.cell? ⟨g, off + j * 2, none⟩ = some (.slice A' q.1.length c) ∧ w.cell? ⟨g, off + j * 2 + 1, none⟩ = some (.slice B' q.2.length d) ∧ Rd w A' q.1 ∧ Rd w B' q.2
theorem RdF.ex {w w' : World} {A : Option Addr} {fs : List (List Int × List Int)} (h : RdF w A fs) (he : Ex w w') : RdF w' A fs :=
  ⟨h.1, fun j q hj => by
    obtain ⟨g, off, A', c, B', d, hA, h0, h1, r0, r1⟩ := h.2 j q hj
    exact ⟨g, off, A', c, B', d, hA, cell_ex he h0, cell_ex he h1, r0.ex he, r1.ex he⟩⟩
set_option maxHeartbeats 1000000 in
theorem areFractions_c (p : Int) (A : Option Addr) (c : Nat) (fs : List (List Int × List Int)) (w : World) (h : RdF w A fs) (ht : Tb w) :
    Calls Tryd.prog 51 #[.int .i64 p, .slice A fs.length c] w fun e w' => e = .returned (.bool (fs.all (fun q => fracB p q.1 q.2) && fieldB p)) ∧ Ex w w' := by
  have hl1 := h.1
  go_enter Tryd.func51, Tryd.ntmps51
  go_wp2_with fail
  go_loopw [9] (fun i w' => ∃ k : Nat, k ≤ fs.length ∧ Hid ((fs.take k).all (fun q => fracB p q.1 q.2) = true) ∧ Ex w w' ∧ i = .int .i64 k) (fun i _ => fs.length - (intOf i).toNat)
  case atStart => exact ⟨0, Nat.zero_le _, rfl, Ex.refl w, rfl⟩
  case round =>
    obtain ⟨k, hk, Hall, xw, rfl⟩ := hrel
    by_cases hlt : k < fs.length
    · obtain ⟨g, off, A', c', B', d', rfl, h0, h1, r0, r1⟩ := (h.ex xw).2 k _ (List.getElem?_eq_getElem hlt)
      have Hq := Lib.hid (List.getElem?_eq_getElem hlt)
      generalize fs[k] = q at *
      obtain ⟨n, m⟩ := q
      dsimp only at h0 h1 r0 r1
      have x1 := (Ex.refl wr).alloc (.cells #[.slice A' n.length c', .slice B' m.length d'] 44)
      cases hp : fracB p n m with
      | true =>
        have Hp := Lib.hid hp
        clear hp
        go_wp2_with fail
        generalize wr.alloc (.cells #[.slice A' n.length c', .slice B' m.length d'] 44) = W1 at *
        refine (isFraction_c p A' B' c' d' n m W1 (r0.ex x1) (r1.ex x1) (ht.ex (xw.trans x1))).mono ?_
        rintro e w2 ⟨rfl, x2⟩
        rw [Hp.out]
        go_wp2
        go_round
        case rel => exact ⟨k + 1, by omega, by
          show _ = true
          rw [List.take_add_one, Hq.out, List.all_append, Hall.out]; simp [Hp.out], (xw.trans x1).trans x2, by go_num⟩
        case measure => simp [intOf] <;> omega
      | false =>
        have Hp := Lib.hid hp
        clear hp
        go_wp2_with fail
        generalize wr.alloc (.cells #[.slice A' n.length c', .slice B' m.length d'] 44) = W1 at *
        refine (isFraction_c p A' B' c' d' n m W1 (r0.ex x1) (r1.ex x1) (ht.ex (xw.trans x1))).mono ?_
        rintro e w2 ⟨rfl, x2⟩
        rw [Hp.out]
        go_wp2
        go_ret
        exact ⟨ret_bool (by rw [List.all_eq_false.2 ⟨(n, m), List.mem_of_getElem? Hq.out, by simp [Hp.out]⟩]; rfl), (xw.trans x1).trans x2⟩
    · obtain rfl : k = fs.length := by omega
      have htw := ht.ex xw
      go_wp2_with (go_at_call 58; refine (isField_c _ _ htw).mono ?_; rintro e w' ⟨rfl, rfl⟩)
      go_ret
      exact ⟨ret_bool (by have := Hall.out; rw [List.take_length] at this; rw [this]; rfl), xw⟩
/-- The fraction has no pole at 0. -/
def causB (den : List Int) : Bool := decide (den.getD 0 0 ≠ 0)
set_option maxHeartbeats 400000 in
theorem spCausal_c (A B : Option Addr) (c d : Nat) (num den : List Int) (w : World) (hn : Rd w A num) (hd : Rd w B den) (hp : 0 < den.length) :
    Calls Tryd.prog 50 #[.agg #[.slice A num.length c, .slice B den.length d]] w fun e w' => e = .returned (.bool (causB den)) ∧ Ex w w' := by
  have x0 := (Ex.refl w).alloc (.cells #[.slice A num.length c, .slice B den.length d] 44)
  have hl := hd.len
  obtain ⟨g, off, x, rfl, hx, hg, hc⟩ := (hd.ex x0).at_ hp
  have Hx := Lib.hid hx
  clear hx
  rw [Nat.add_zero] at hc
  go_enter Tryd.func50, Tryd.ntmps50
  go_wp2
  go_ret
  exact ⟨ret_bool (by simp only [causB, List.getD_eq_getElem?_getD, Hx.out, Option.getD_some, bne, BEq.beq]; by_cases h : x = 0 <;> simp [h]), x0⟩
set_option maxHeartbeats 400000 in
theorem isCausal_c (A B : Option Addr) (c d : Nat) (num den : List Int) (w : World) (hn : Rd w A num) (hd : Rd w B den) (hp : 0 < den.length) :
    Calls Tryd.prog 52 #[.agg #[.slice A num.length c, .slice B den.length d]] w fun e w' => e = .returned (.bool (causB den)) ∧ Ex w w' := by
  have x0 := (Ex.refl w).alloc (.cells #[.slice A num.length c, .slice B den.length d] 44)
  have hl := hd.len
  obtain ⟨g, off, x, rfl, hx, hg, hc⟩ := (hd.ex x0).at_ hp
  have Hx := Lib.hid hx
  clear hx
  rw [Nat.add_zero] at hc
  go_enter Tryd.func52, Tryd.ntmps52
  go_wp2
  go_ret
  exact ⟨ret_bool (by simp only [causB, List.getD_eq_getElem?_getD, Hx.out, Option.getD_some, bne, BEq.beq]; by_cases h : x = 0 <;> simp [h]), x0⟩
/-- What IsCausal answers. -/
def causR (p : Int) (num den : List Int) : Bool × Bool := (fracB p num den && causB den, fracB p num den)
set_option maxHeartbeats 400000 in
theorem spIsCausal_c (p : Int) (A B : Option Addr) (c d : Nat) (num den : List Int) (w : World) (hn : Rd w A num) (hd : Rd w B den) :
    Calls Tryd.prog 27 #[.int .i64 p, .agg #[.slice A num.length c, .slice B den.length d]] w fun e w' => e = .returned (.tuple #[.bool (causR p num den).1, .bool (causR p num den).2]) ∧ Ex w w' := by
  have x0 := (Ex.refl w).alloc (.cells #[.slice A num.length c, .slice B den.length d] 44)
  have v0 := VB.new w 44 #[.slice A num.length c, .slice B den.length d]
  cases hp : fracB p num den with
  | false =>
    have H := Lib.hid (show causR p num den = (false, false) by simp [causR, hp])
    go_enter Tryd.func27, Tryd.ntmps27
    go_wp2_with fail
    refine (frGood_c p A B c d num den _ (hn.ex x0) (hd.ex x0)).mono ?_
    rintro e w1 ⟨rfl, x1⟩
    rw [hp]
    go_wp2
    go_ret2
    exact ⟨by rw [H.out]; rfl, x0.trans x1⟩
  | true =>
    have H := Lib.hid (show causR p num den = (causB den, true) by simp [causR, hp])
    have hl : 0 < den.length := List.length_pos_iff.2 (fracB_parts hp).2.2.2.2.2.1
    go_enter Tryd.func27, Tryd.ntmps27
    go_wp2_with fail
    generalize w.alloc (.cells #[.slice A num.length c, .slice B den.length d] 44) = W1 at *
    refine (frGood_c p A B c d num den _ (hn.ex x0) (hd.ex x0)).mono ?_
    rintro e w1 ⟨rfl, x1⟩
    rw [hp]
    have y1 := x0.trans x1
    have v1 := v0.ex x1
    have q0 := v1.cell 0 (v := .slice A num.length c) rfl
    have q1 := v1.cell 1 (v := .slice B den.length d) rfl
    go_wp2_with fail
    refine (spCausal_c A B c d num den _ (hn.ex y1) (hd.ex y1) hl).mono ?_
    rintro e w2 ⟨rfl, x2⟩
    go_wp2
    go_ret2
    exact ⟨by rw [H.out]; rfl, y1.trans x2⟩
theorem fracB_field (p : Int) (n m : List Int) : ([(n, m)].all (fun q => fracB p q.1 q.2) && fieldB p) = fracB p n m := by
  simp only [List.all_cons, List.all_nil, Bool.and_true]
  cases h : fracB p n m
  · rfl
  · rw [(fracB_parts h).1]; rfl
theorem RdF.one {w : World} {g : Nat} {A B : Option Addr} {c d : Nat} {n m : List Int} (h0 : w.cell? ⟨g, 0, none⟩ = some (.slice A n.length c)) (h1 : w.cell? ⟨g, 1, none⟩ = some (.slice B m.length d)) (r0 : Rd w A n) (r1 : Rd w B m) : RdF w (some ⟨g, 0, none⟩) [(n, m)] :=
  ⟨by simp, fun j q hj => by
    match j with
    | 0 => injection hj with hj; subst hj; exact ⟨g, 0, A, c, B, d, rfl, h0, h1, r0, r1⟩
    | j + 1 => simp at hj⟩
set_option maxHeartbeats 400000 in
theorem IsCausal_c (p : Int) (A B : Option Addr) (c d : Nat) (num den : List Int) (w : World) (hn : Rd w A num) (hd : Rd w B den) (ht : Tb w) :
    Calls Tryd.prog 28 #[.int .i64 p, .agg #[.slice A num.length c, .slice B den.length d]] w fun e w' => e = .returned (.tuple #[.bool (causR p num den).1, .bool (causR p num den).2]) ∧ Ex w w' := by
  have x0 := (Ex.refl w).alloc (.cells #[.slice A num.length c, .slice B den.length d] 44)
  have v0 := VB.new w 44 #[.slice A num.length c, .slice B den.length d]
  cases hp : fracB p num den with
  | false =>
    have H := Lib.hid (show causR p num den = (false, false) by simp [causR, hp])
    go_enter Tryd.func28, Tryd.ntmps28
    go_wp2_with fail
    have x2 := (Ex.refl (w.alloc (.cells #[.slice A num.length c, .slice B den.length d] 44))).alloc (.cells #[.slice A num.length c, .slice B den.length d] 44)
    have v2 := VB.new (w.alloc (.cells #[.slice A num.length c, .slice B den.length d] 44)) 44 #[.slice A num.length c, .slice B den.length d]
    have S2 := Lib.hid (show (w.alloc (.cells #[.slice A num.length c, .slice B den.length d] 44)).heap.size = w.heap.size + 1 by simp)
    rw [S2.out] at v2
    generalize (w.alloc (.cells #[.slice A num.length c, .slice B den.length d] 44)).alloc (.cells #[.slice A num.length c, .slice B den.length d] 44) = W2 at *
    have y2 := x0.trans x2
    refine (areFractions_c p (some ⟨w.heap.size + 1, 0, none⟩) 1 [(num, den)] W2 (RdF.one (v2.cell 0 rfl) (v2.cell 1 rfl) (hn.ex y2) (hd.ex y2)) (ht.ex y2)).mono ?_
    rintro e w3 ⟨rfl, x3⟩
    rw [fracB_field, hp]
    go_wp2
    go_ret2
    exact ⟨by rw [H.out]; rfl, y2.trans x3⟩
  | true =>
    have H := Lib.hid (show causR p num den = (causB den, true) by simp [causR, hp])
    have hl : 0 < den.length := List.length_pos_iff.2 (fracB_parts hp).2.2.2.2.2.1
    go_enter Tryd.func28, Tryd.ntmps28
    go_wp2_with fail
    have x2 := (Ex.refl (w.alloc (.cells #[.slice A num.length c, .slice B den.length d] 44))).alloc (.cells #[.slice A num.length c, .slice B den.length d] 44)
    have v2 := VB.new (w.alloc (.cells #[.slice A num.length c, .slice B den.length d] 44)) 44 #[.slice A num.length c, .slice B den.length d]
    have S2 := Lib.hid (show (w.alloc (.cells #[.slice A num.length c, .slice B den.length d] 44)).heap.size = w.heap.size + 1 by simp)
    rw [S2.out] at v2
    have v02 := v0.ex x2
    generalize (w.alloc (.cells #[.slice A num.length c, .slice B den.length d] 44)).alloc (.cells #[.slice A num.length c, .slice B den.length d] 44) = W2 at *
    have y2 := x0.trans x2
    refine (areFractions_c p (some ⟨w.heap.size + 1, 0, none⟩) 1 [(num, den)] W2 (RdF.one (v2.cell 0 rfl) (v2.cell 1 rfl) (hn.ex y2) (hd.ex y2)) (ht.ex y2)).mono ?_
    rintro e w3 ⟨rfl, x3⟩
    have v03 := v02.ex x3
    have q0 := v03.cell 0 (v := .slice A num.length c) rfl
    have q1 := v03.cell 1 (v := .slice B den.length d) rfl
    have y3 := y2.trans x3
    rw [fracB_field, hp]
    go_wp2_with fail
    refine (isCausal_c A B c d num den _ (hn.ex y3) (hd.ex y3) hl).mono ?_
    rintro e w4 ⟨rfl, x4⟩
    go_wp2
    go_ret2
    exact ⟨by rw [H.out]; rfl, y3.trans x4⟩
end Go.Proofs.YtjkomgoncmbgiaaDoor
