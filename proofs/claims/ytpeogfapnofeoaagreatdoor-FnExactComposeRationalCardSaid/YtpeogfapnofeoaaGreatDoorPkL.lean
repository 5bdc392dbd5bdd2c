/- Contracts of the laws' own helpers on fractions. Contracts: lists of fractions; causal fractions. -/
import Derived.Test.YtpeogfapnofeoaaGreatDoorPkB
namespace Go.Proofs.YtpeogfapnofeoaaGreatDoor
set_option maxRecDepth 100000
open Go Go.RowKit
end Go.Proofs.YtpeogfapnofeoaaGreatDoor
namespace Go.Proofs.YtpeogfapnofeoaaGreatDoor
set_option maxRecDepth 100000
open Go Go.RowKit
/-- The slice that begins at A holds the fractions fs, two cells each. -/
def RdF (w : World) (A : Option Addr) (fs : List (List Int × List Int)) : Prop :=
  fs.length ≤ 549755813888 ∧ ∀ (j : Nat) (q : List Int × List Int), fs[j]? = some q → ∃ g off A' c B' d, A = some ⟨g, off, none⟩ ∧
    w.cell? ⟨g, off + j * 2, none⟩ = some (.slice A' q.1.length c) ∧ w.cell? ⟨g, off + j * 2 + 1, none⟩ = some (.slice B' q.2.length d) ∧ Rd w A' q.1 ∧ Rd w B' q.2
theorem RdF.ex {w w' : World} {A : Option Addr} {fs : List (List Int × List Int)} (h : RdF w A fs) (he : Ex w w') : RdF w' A fs :=
  ⟨h.1, fun j q hj => by
    obtain ⟨g, off, A', c, B', d, hA, h0, h1, r0, r1⟩ := h.2 j q hj
    exact ⟨g, off, A', c, B', d, hA, cell_ex he h0, cell_ex he h1, r0.ex he, r1.ex he⟩⟩
set_option maxHeartbeats 1000000 in
theorem areFractions_c (p : Int) (A : Option Addr) (c : Nat) (fs : List (List Int × List Int)) (w : World) (h : RdF w A fs) (ht : Tb w) :
    Calls Tryz.prog 36 #[.int .i64 p, .slice A fs.length c] w fun e w' => e = .returned (.bool (fs.all (fun q => fracB p q.1 q.2) && fieldB p)) ∧ Ex w w' := by
  have hl1 := h.1
  go_enter Tryz.func36, Tryz.ntmps36
  go_wp2_with fail
  go_loopw [9] (fun i w' => ∃ k : Nat, k ≤ fs.length ∧ Hid ((fs.take k).all (fun q => fracB p q.1 q.2) = true) ∧ Ex w w' ∧ i = .int .i64 k) (fun i _ => fs.length - (intOf i).toNat)
  case atStart => exact ⟨0, Nat.zero_le _, rfl, Ex.refl w, rfl⟩
  case round =>
    obtain ⟨k, hk, Hall, xw, rfl⟩ := hrel
    by_cases hlt : k < fs.length
    · obtain ⟨g, off, A', c', B', d', rfl, h0, h1, r0, r1⟩ := (h.ex xw).2 k _ (List.getElem?_eq_getElem hlt)
      have Hq := Lib.hid (List.getElem?_eq_getElem hlt)
      generalize fs[k] = q at *
      obtain ⟨n, m⟩ := q
      dsimp only at h0 h1 r0 r1
      have x1 := (Ex.refl wr).alloc (.cells #[.slice A' n.length c', .slice B' m.length d'] 58)
      cases hp : fracB p n m with
      | true =>
        have Hp := Lib.hid hp
        clear hp
        go_wp2_with fail
        generalize wr.alloc (.cells #[.slice A' n.length c', .slice B' m.length d'] 58) = W1 at *
        refine (isFraction_c p A' B' c' d' n m W1 (r0.ex x1) (r1.ex x1) (ht.ex (xw.trans x1))).mono ?_
        rintro e w2 ⟨rfl, x2⟩
        rw [Hp.out]
        go_wp2
        go_round
        case rel => exact ⟨k + 1, by omega, by
          show _ = true
          rw [List.take_add_one, Hq.out, List.all_append, Hall.out]; simp [Hp.out], (xw.trans x1).trans x2, by go_num⟩
        case measure => simp [intOf] <;> omega
      | false =>
        have Hp := Lib.hid hp
        clear hp
        go_wp2_with fail
        generalize wr.alloc (.cells #[.slice A' n.length c', .slice B' m.length d'] 58) = W1 at *
        refine (isFraction_c p A' B' c' d' n m W1 (r0.ex x1) (r1.ex x1) (ht.ex (xw.trans x1))).mono ?_
        rintro e w2 ⟨rfl, x2⟩
        rw [Hp.out]
        go_wp2
        go_ret
        exact ⟨ret_bool (by rw [List.all_eq_false.2 ⟨(n, m), List.mem_of_getElem? Hq.out, by simp [Hp.out]⟩]; rfl), (xw.trans x1).trans x2⟩
    · obtain rfl : k = fs.length := by omega
      have htw := ht.ex xw
      go_wp2_with (go_at_call 51; refine (isField_c _ _ htw).mono ?_; rintro e w' ⟨rfl, rfl⟩)
      go_ret
      exact ⟨ret_bool (by have := Hall.out; rw [List.take_length] at this; rw [this]; rfl), xw⟩
theorem RdF.one {w : World} {g : Nat} {A B : Option Addr} {c d : Nat} {n m : List Int} (h0 : w.cell? ⟨g, 0, none⟩ = some (.slice A n.length c)) (h1 : w.cell? ⟨g, 1, none⟩ = some (.slice B m.length d)) (r0 : Rd w A n) (r1 : Rd w B m) : RdF w (some ⟨g, 0, none⟩) [(n, m)] :=
  ⟨by simp, fun j q hj => by
    match j with
    | 0 => injection hj with hj; subst hj; exact ⟨g, 0, A, c, B, d, rfl, h0, h1, r0, r1⟩
    | j + 1 => simp at hj⟩
end Go.Proofs.YtpeogfapnofeoaaGreatDoor
