/- Contracts: is a polynomial irreducible, on both sides. -/
import Derived.Test.YtjkomgoncmbgiaaDoorPow
import Derived.Test.YtjkomgoncmbgiaaDoorFrac
namespace Go.Proofs.YtjkomgoncmbgiaaDoor
open Go Go.RowKit
theorem ofNat_toNat {n : Int} (h : 0 ≤ n) : ((n.toNat : Nat) : Int) = n := Int.toNat_of_nonneg h
theorem poPower_i (p : Int) (A B : Option Addr) (c d : Nat) (n : Int) (f m : List Int) (w : World) (hf : Rd w A f) (hm : Rd w B m) (hF : fieldB p = true) (of : OK p 1048576 f) (om : OK p 1048576 m) (hm2 : 2 ≤ m.length) (hn0 : 0 ≤ n) (hn : n ≤ 1000000) :
    Calls Tryd.prog 42 #[.int .i64 p, .slice A f.length c, .int .i64 n, .slice B m.length d] w fun e w' => LI w (powM p f n.toNat m) e w' := by
  have := poPower_c p A B c d n.toNat f m w hf hm hF of om hm2 (by omega)
  rwa [ofNat_toNat hn0] at this
theorem powerModulo_i (p : Int) (A B : Option Addr) (c d : Nat) (n : Int) (f m : List Int) (w : World) (hf : Rd w A f) (hm : Rd w B m) (hF : fieldB p = true) (of : OK p 1048576 f) (om : OK p 1048576 m) (hm2 : 2 ≤ m.length) (hn0 : 0 ≤ n) (hn : n ≤ 1000000) :
    Calls Tryd.prog 46 #[.int .i64 p, .slice A f.length c, .int .i64 n, .slice B m.length d] w fun e w' => LI w (powM p f n.toNat m) e w' := by
  have := powerModulo_c p A B c d n.toNat f m w hf hm hF of om hm2 (by omega)
  rwa [ofNat_toNat hn0] at this
theorem powL_le {p : Int} (hF : fieldB p = true) {m : List Int} (hm : allEl p m = true) (tm : Tr m) (hm0 : m ≠ []) {L : Nat} (hL : m.length ≤ L) : ∀ (k n : Nat) {out f : List Int}, out.length ≤ L → (powL p m k n out f).length ≤ L
  | 0, n, out, f, h => h
  | k + 1, n, out, f, h => by
    have h2 := fieldB_lo hF
    rw [powL]
    split
    · exact h
    · refine powL_le hF hm tm hm0 hL k _ ?_
      split
      · have := pDivR_lt hF (pMul_el (show 0 < p by omega) out f) hm tm hm0; omega
      · exact h
theorem OK.pow {p : Int} (hF : fieldB p = true) {f m : List Int} {L : Nat} (of : OK p L f) (om : OK p L m) (hm0 : m ≠ []) (n : Nat) : OK p L (powM p f n m) := by
  have := List.length_pos_iff.2 hm0
  exact ⟨powM_el hF of.1 om.1 n, powM_tr p of.2.1 n, powL_le hF om.1 om.2.1 hm0 om.2.2 _ _ (by have := om.2.2; simp; omega)⟩
/-- k rounds of the test. -/
def irrL (p : Int) (f : List Int) : Nat → List Int → Bool
  | 0, _ => true
  | k + 1, q => if 1 < (gcdM p f (pAdd p (powM p q p.toNat f) (-1) [0, 1])).length then false else irrL p f k (powM p q p.toNat f)
def irrR (p : Int) (f : List Int) : Bool × Bool := if polyB p f = true ∧ 2 ≤ f.length then (irrL p f ((f.length - 1) / 2) [0, 1], true) else (false, false)
theorem ok_x {p : Int} (hF : fieldB p = true) : OK p 1048576 [0, 1] := by
  have h2 := fieldB_lo hF
  exact ⟨by simp [allEl, elB]; omega, rfl, by simp⟩
set_option maxHeartbeats 2000000 in
theorem poIrreducible_c (p : Int) (A : Option Addr) (c : Nat) (f : List Int) (w : World) (hf : Rd w A f) (hF : fieldB p = true) (of : OK p 1048576 f) (hf2 : 2 ≤ f.length) :
    Calls Tryd.prog 53 #[.int .i64 p, .slice A f.length c] w fun e w' => e = .returned (.bool (irrL p f ((f.length - 1) / 2) [0, 1])) ∧ Ex w w' := by
  have h2 := fieldB_lo hF
  have h97 := fieldB_hi hF
  have hm0 : f ≠ [] := by intro e; rw [e] at hf2; simp at hf2
  have hfl := of.2.2
  have HF := Lib.hid hF
  have Of := Lib.hid of
  have Hm0 := Lib.hid hm0
  have Ox := Lib.hid (ok_x hF)
  clear hF of hm0
  have x0 := (Ex.refl w).alloc (.cells #[.int .i64 0, .int .i64 1] 3)
  have b0 : Blk (w.alloc (.cells #[.int .i64 0, .int .i64 1] 3)) w.heap.size [0, 1] := Blk.new w [0, 1]
  go_enter Tryd.func53, Tryd.ntmps53
  go_wp2_with fail
  generalize w.alloc (.cells #[.int .i64 0, .int .i64 1] 3) = W at *
  go_loopw [6, 7] (fun a i wr => ∃ (A1 : Option Addr) (c1 k : Nat) (q : List Int), a = .slice A1 q.length c1 ∧ i = .int .i64 ((k : Int) + 1) ∧ Rd wr A1 q ∧ Hid (OK p 1048576 q) ∧ k ≤ (f.length - 1) / 2 ∧
      Hid (irrL p f ((f.length - 1) / 2 - k) q = irrL p f ((f.length - 1) / 2) [0, 1]) ∧ Ex W wr) (fun _ i _ => f.length + 1 - (intOf i).toNat)
  case atStart => exact ⟨_, 2, 0, [0, 1], rfl, rfl, b0.rd (by simp), Ox, by omega, Lib.hid rfl, Ex.refl _⟩
  case round =>
    obtain ⟨A1, c1, k, q, rfl, rfl, rq, Oq, hk, He, hex⟩ := hrel
    have lq := Oq.out.2.2
    by_cases hlt : k < (f.length - 1) / 2
    · have hfr := hf.ex (x0.trans hex)
      have hxr := b0.ex hex
      go_wp2_with fail
      refine (poPower_i p A1 A c1 c p q f _ rq hfr HF.out Oq.out Of.out hf2 (by omega) (by omega)).mono ?_
      rintro e w1 ⟨A2, c2, rfl, r2, x1⟩
      have O2 := Lib.hid (OK.pow HF.out Oq.out Of.out Hm0.out p.toNat)
      go_wp2_with fail
      refine (poSub_c p A2 _ c2 2 _ [0, 1] _ r2.rd ((hxr.ex x1).rd (by simp)) h2 h97 O2.out.1 Ox.out.1).mono ?_
      rintro e w2 ⟨A3, c3, rfl, r3, x2⟩
      go_wp2_with fail
      refine (poGcd_c p A A3 c c3 f _ _ ((hfr.ex x1).ex x2) r3.rd HF.out Of.out.1 (pAdd_el O2.out.1 (by omega) _ _) Of.out.2.1 (pAdd_tr _ _ _ _) (.inl Hm0.out)).mono ?_
      rintro e w3 ⟨A4, c4, rfl, r4, x3⟩
      have l4 := r4.rd.len
      by_cases hg : 1 < (gcdM p f (pAdd p (powM p q p.toNat f) (-1) [0, 1])).length
      · go_wp2
        go_ret
        refine ⟨ret_bool ?_, (x0.trans hex).trans ((x1.trans x2).trans x3)⟩
        rw [← He.out, show (f.length - 1) / 2 - k = ((f.length - 1) / 2 - (k + 1)) + 1 by omega, irrL, if_pos hg]
      · go_wp2
        go_roundw
        case rel => exact ⟨A2, c2, k + 1, _, rfl, by go_num, (r2.rd.ex x2).ex x3, O2, by omega, Lib.hid (by
          rw [← He.out, show (f.length - 1) / 2 - k = ((f.length - 1) / 2 - (k + 1)) + 1 by omega, irrL, if_neg hg]), hex.trans ((x1.trans x2).trans x3)⟩
        case measure => simp [intOf] <;> omega
    · have hkk : k = (f.length - 1) / 2 := by omega
      go_wp2
      go_ret
      exact ⟨ret_bool (by rw [← He.out, hkk, Nat.sub_self]; rfl), x0.trans hex⟩
set_option maxHeartbeats 1000000 in
theorem spIsIrreducible_c (p : Int) (A : Option Addr) (c : Nat) (f : List Int) (w : World) (hf : Rd w A f) :
    Calls Tryd.prog 29 #[.int .i64 p, .slice A f.length c] w fun e w' => e = .returned (.tuple #[.bool (irrR p f).1, .bool (irrR p f).2]) ∧ Ex w w' := by
  have hl := hf.len
  cases hp : polyB p f with
  | false =>
    have H := Lib.hid (show irrR p f = (false, false) by simp [irrR, hp])
    go_enter Tryd.func29, Tryd.ntmps29
    go_wp2_with fail
    refine (poGood_c _ _ _ _ _ hf).mono ?_
    rintro e w1 ⟨rfl, rfl⟩
    rw [hp]
    go_wp2
    go_ret2
    exact ⟨by rw [H.out]; rfl, Ex.refl _⟩
  | true =>
    by_cases h2 : 2 ≤ f.length
    · have H := Lib.hid (show irrR p f = (irrL p f ((f.length - 1) / 2) [0, 1], true) by simp [irrR, hp, h2])
      have hP := polyB_parts hp
      have HP := Lib.hid hP
      clear hP
      go_enter Tryd.func29, Tryd.ntmps29
      go_wp2_with fail
      refine (poGood_c _ _ _ _ _ hf).mono ?_
      rintro e w1 ⟨rfl, rfl⟩
      rw [hp]
      go_wp2_with fail
      refine (poIrreducible_c p A c f _ hf HP.out.1 ⟨HP.out.2.2.1, HP.out.2.2.2, by have := HP.out.2.1; omega⟩ h2).mono ?_
      rintro e w1 ⟨rfl, x1⟩
      go_wp2
      go_ret2
      exact ⟨by rw [H.out]; rfl, x1⟩
    · have H := Lib.hid (show irrR p f = (false, false) by simp [irrR, h2])
      go_enter Tryd.func29, Tryd.ntmps29
      go_wp2_with fail
      refine (poGood_c _ _ _ _ _ hf).mono ?_
      rintro e w1 ⟨rfl, rfl⟩
      rw [hp]
      go_wp2
      go_ret2
      exact ⟨by rw [H.out]; rfl, Ex.refl _⟩
end Go.Proofs.YtjkomgoncmbgiaaDoor
