/- Contracts: is a polynomial irreducible, the program's side. -/
import Derived.Test.YtjkomgoncmbgiaaDoorIrr
namespace Go.Proofs.YtjkomgoncmbgiaaDoor
open Go Go.RowKit
theorem polyB_one (p : Int) (f : List Int) : ([f].all (polyB p) && fieldB p) = polyB p f := by
  simp only [List.all_cons, List.all_nil, Bool.and_true]
  cases h1 : polyB p f
  · rfl
  · rw [(polyB_parts h1).1, Bool.and_true]
theorem arePolys1_c (p : Int) (g : Nat) (A : Option Addr) (c : Nat) (f : List Int) (w : World) (h0 : w.cell? ⟨g, 0, none⟩ = some (.slice A f.length c)) (r1 : Rd w A f) (ht : Tb w) :
    Calls Tryd.prog 43 #[.int .i64 p, .slice (some ⟨g, 0, none⟩) 1 1] w fun e w' => e = .returned (.bool (polyB p f)) ∧ w = w' := by
  have := arePolys_c p (some ⟨g, 0, none⟩) 1 [.slice A f.length c] [f] w ⟨by simp, fun j v hj => by
      match j with
      | 0 => injection hj with hj; subst hj; exact ⟨g, 0, rfl, h0⟩
      | j + 1 => cases hj⟩ (fun j v hj => by
      match j with
      | 0 => injection hj with hj; subst hj; exact ⟨f, rfl, A, c, rfl, r1⟩
      | j + 1 => cases hj) rfl ht
  rw [polyB_one] at this
  exact this
set_option maxHeartbeats 2000000 in
theorem IsIrreducible_c (p : Int) (A : Option Addr) (c : Nat) (f : List Int) (w : World) (hf : Rd w A f) (ht : Tb w) :
    Calls Tryd.prog 30 #[.int .i64 p, .slice A f.length c] w fun e w' => e = .returned (.tuple #[.bool (irrR p f).1, .bool (irrR p f).2]) ∧ Ex w w' := by
  have hl := hf.len
  have x0 := (Ex.refl w).alloc (.cells #[.slice A f.length c] 22)
  have v0 := VB.new w 22 #[.slice A f.length c]
  cases hp : polyB p f with
  | false =>
    have H := Lib.hid (show irrR p f = (false, false) by simp [irrR, hp])
    go_enter Tryd.func30, Tryd.ntmps30
    go_wp2_with fail
    refine (arePolys1_c p _ A c f _ (v0.cell 0 rfl) (hf.ex x0) (ht.ex x0)).mono ?_
    rintro e w1 ⟨rfl, rfl⟩
    rw [hp]
    go_wp2
    go_ret2
    exact ⟨by rw [H.out]; rfl, x0⟩
  | true =>
    by_cases hf2 : 2 ≤ f.length
    case neg =>
      have H := Lib.hid (show irrR p f = (false, false) by simp [irrR, hf2])
      go_enter Tryd.func30, Tryd.ntmps30
      go_wp2_with fail
      refine (arePolys1_c p _ A c f _ (v0.cell 0 rfl) (hf.ex x0) (ht.ex x0)).mono ?_
      rintro e w1 ⟨rfl, rfl⟩
      rw [hp]
      go_wp2_with (go_at_call 44; refine (degree_c _ _ _ _ (by omega)).mono ?_; rintro e w' ⟨rfl, rfl⟩)
      go_ret2
      exact ⟨by rw [H.out]; rfl, x0⟩
    have H := Lib.hid (show irrR p f = (irrL p f ((f.length - 1) / 2) [0, 1], true) by simp [irrR, hp, hf2])
    have hP := polyB_parts hp
    have h2 := fieldB_lo hP.1
    have h97 := fieldB_hi hP.1
    have hm0 : f ≠ [] := by intro e; rw [e] at hf2; simp at hf2
    have hfl := hP.2.1
    have HF := Lib.hid hP.1
    have Of := Lib.hid (show OK p 1048576 f from ⟨hP.2.2.1, hP.2.2.2, by omega⟩)
    have Hm0 := Lib.hid hm0
    have Ox := Lib.hid (ok_x hP.1)
    clear hP hm0
    go_enter Tryd.func30, Tryd.ntmps30
    go_wp2_with fail
    refine (arePolys1_c p _ A c f _ (v0.cell 0 rfl) (hf.ex x0) (ht.ex x0)).mono ?_
    rintro e w1 ⟨rfl, rfl⟩
    rw [hp]
    generalize w.alloc (.cells #[.slice A f.length c] 22) = W0 at *
    have x00 := (Ex.refl W0).alloc (.cells #[.int .i64 0, .int .i64 1] 3)
    have b0 : Blk (W0.alloc (.cells #[.int .i64 0, .int .i64 1] 3)) W0.heap.size [0, 1] := Blk.new W0 [0, 1]
    have x0 := x0.trans x00
    go_wp2_with (go_at_call 44; refine (degree_c _ _ _ _ (by omega)).mono ?_; rintro e w' ⟨rfl, rfl⟩)
    generalize W0.alloc (.cells #[.int .i64 0, .int .i64 1] 3) = W at *
    clear x00 v0
    go_loopw [7, 23] (fun a i wr => ∃ (A1 : Option Addr) (c1 k : Nat) (q : List Int), a = .slice A1 q.length c1 ∧ i = .int .i64 (k : Int) ∧ Rd wr A1 q ∧ Hid (OK p 1048576 q) ∧ k ≤ (f.length - 1) / 2 ∧
        Hid (irrL p f ((f.length - 1) / 2 - k) q = irrL p f ((f.length - 1) / 2) [0, 1]) ∧ Ex W wr) (fun _ i _ => f.length - (intOf i).toNat)
    case atStart => exact ⟨_, 2, 0, [0, 1], rfl, rfl, b0.rd (by simp), Ox, by omega, Lib.hid rfl, Ex.refl _⟩
    case round =>
      obtain ⟨A1, c1, k, q, rfl, rfl, rq, Oq, hk, He, hex⟩ := hrel
      have lq := Oq.out.2.2
      by_cases hlt : k < (f.length - 1) / 2
      · have hfr := hf.ex (x0.trans hex)
        have hxr := b0.ex hex
        go_wp2_with fail
        refine (powerModulo_i p A1 A c1 c p q f _ rq hfr HF.out Oq.out Of.out hf2 (by omega) (by omega)).mono ?_
        rintro e w1 ⟨A2, c2, rfl, r2, x1⟩
        have O2 := Lib.hid (OK.pow HF.out Oq.out Of.out Hm0.out p.toNat)
        go_wp2_with fail
        refine (polyAdd_c p A2 _ c2 2 _ [0, 1] (-1) _ r2.rd ((hxr.ex x1).rd (by simp)) h2 h97 O2.out.1 Ox.out.1 (by omega)).mono ?_
        rintro e w2 ⟨A3, c3, rfl, r3, x2⟩
        go_wp2_with fail
        refine (polyGcd_c p A3 A c3 c _ f _ r3.rd ((hfr.ex x1).ex x2) HF.out (pAdd_el O2.out.1 (by omega) _ _) Of.out.1 (pAdd_tr _ _ _ _) Of.out.2.1 (.inr Hm0.out)).mono ?_
        rintro e w3 ⟨A4, c4, rfl, r4, x3⟩
        have l4 := r4.rd.len
        have E4 := Lib.hid (gcdM_comm HF.out (pAdd_el O2.out.1 (show 0 < p by omega) (-1) [0, 1]) Of.out.1 (pAdd_tr _ _ _ _) Of.out.2.1 (.inr Hm0.out))
        rw [E4.out] at l4 ⊢
        by_cases hg : 1 < (gcdM p f (pAdd p (powM p q p.toNat f) (-1) [0, 1])).length
        · go_wp2_with (go_at_call 44; refine (degree_c _ _ _ _ (by omega)).mono ?_; rintro e w' ⟨rfl, rfl⟩)
          go_ret2
          refine ⟨?_, (x0.trans hex).trans ((x1.trans x2).trans x3)⟩
          have : irrL p f ((f.length - 1) / 2) [0, 1] = false := by rw [← He.out, show (f.length - 1) / 2 - k = ((f.length - 1) / 2 - (k + 1)) + 1 by omega, irrL, if_pos hg]
          rw [H.out, this]; rfl
        · go_wp2_with (go_at_call 44; refine (degree_c _ _ _ _ (by omega)).mono ?_; rintro e w' ⟨rfl, rfl⟩)
          go_roundw
          case rel => exact ⟨A2, c2, k + 1, _, rfl, by go_num, (r2.rd.ex x2).ex x3, O2, by omega, Lib.hid (by
            rw [← He.out, show (f.length - 1) / 2 - k = ((f.length - 1) / 2 - (k + 1)) + 1 by omega, irrL, if_neg hg]), hex.trans ((x1.trans x2).trans x3)⟩
          case measure => simp [intOf] <;> omega
      · have hkk := Lib.hid (show k = (f.length - 1) / 2 by omega)
        go_wp2
        go_ret2
        have : irrL p f ((f.length - 1) / 2) [0, 1] = true := by rw [← He.out, hkk.out, Nat.sub_self]; rfl
        exact ⟨by rw [H.out, this]; rfl, x0.trans hex⟩
end Go.Proofs.YtjkomgoncmbgiaaDoor
