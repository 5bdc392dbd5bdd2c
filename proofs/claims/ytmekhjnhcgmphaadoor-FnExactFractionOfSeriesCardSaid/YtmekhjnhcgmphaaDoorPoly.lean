/- Contracts of the functions on polynomials, both sides: each answers what the plain functions of Num.lean say. -/
import Derived.Test.YtmekhjnhcgmphaaDoorField
import Derived.Test.YtmekhjnhcgmphaaDoorLaw
import Derived.StillTailTactics
namespace Go.Proofs.YtmekhjnhcgmphaaDoor
set_option maxRecDepth 100000
open Go Go.RowKit
theorem tmod_mod {p a : Int} (hp : 0 < p) : (if a.tmod p < 0 then a.tmod p + p else a.tmod p) = a % p := by
  rw [Int.tmod_eq_emod]
  have h1 := Int.emod_nonneg a (show p ≠ 0 by omega)
  have h2 := Int.emod_lt_of_pos a hp
  split <;> split <;> omega
theorem tmod_range {p a : Int} (hp : 0 < p) : -p ≤ a.tmod p ∧ a.tmod p < p := by
  have := tmod_mod (a := a) hp
  have h1 := Int.emod_nonneg a (show p ≠ 0 by omega)
  have h2 := Int.emod_lt_of_pos a hp
  split at this <;> omega
set_option maxHeartbeats 400000 in
theorem mod_c (p a : Int) (w : World) (h2 : 2 ≤ p) (h97 : p ≤ 97) : Calls Tryd.prog 66 #[.int .i64 p, .int .i64 a] w fun e w' => e = .returned (.int .i64 (a % p)) ∧ w = w' := by
  have hp0 : ¬ p = 0 := by omega
  have hm := tmod_mod (a := a) (p := p) (by omega)
  have hr := tmod_range (a := a) (p := p) (by omega)
  by_cases hneg : a.tmod p < 0
  · rw [if_pos hneg] at hm
    have Hm := Lib.hid hm
    clear hm
    go_enter Tryd.func66, Tryd.ntmps66
    go_wp2
    go_ret
    exact ⟨ret_int Hm.out, rfl⟩
  · rw [if_neg hneg] at hm
    have Hm := Lib.hid hm
    clear hm
    go_enter Tryd.func66, Tryd.ntmps66
    go_wp2
    go_ret
    exact ⟨ret_int Hm.out, rfl⟩
set_option maxHeartbeats 400000 in
theorem fdMul_c (p a b : Int) (w : World) (h2 : 2 ≤ p) (ha : 0 ≤ a ∧ a ≤ 96) (hb : 0 ≤ b ∧ b ≤ 96) : Calls Tryd.prog 100 #[.int .i64 p, .int .i64 a, .int .i64 b] w fun e w' => e = .returned (.int .i64 (a * b % p)) ∧ w = w' := by
  have hm := mul_bd ha hb
  go_enter Tryd.func100, Tryd.ntmps100
  go_wp2
  go_ret
  exact ⟨rfl, rfl⟩
set_option maxHeartbeats 400000 in
theorem fdSub_c (p a b : Int) (w : World) (h2 : 2 ≤ p) (h97 : p ≤ 97) (ha : 0 ≤ a ∧ a ≤ 96) (hb : 0 ≤ b ∧ b ≤ p) : Calls Tryd.prog 101 #[.int .i64 p, .int .i64 a, .int .i64 b] w fun e w' => e = .returned (.int .i64 ((a - b) % p)) ∧ w = w' := by
  have e : (a + p - b) % p = (a - b) % p := by
    rw [show a + p - b = (a - b) + p by omega, Int.add_emod_right]
  have E := Lib.hid e
  clear e
  go_enter Tryd.func101, Tryd.ntmps101
  go_wp2
  go_ret
  exact ⟨ret_int E.out, rfl⟩
set_option maxHeartbeats 400000 in
theorem bit_c (b : Bool) (w : World) : Calls Tryd.prog 93 #[.bool b] w fun e w' => e = .returned (.int .i64 (if b then 1 else 0)) ∧ w = w' := by
  cases b
  all_goals
    go_enter Tryd.func93, Tryd.ntmps93
    go_wp2
    go_ret
    exact ⟨rfl, rfl⟩
theorem pow_half (p a : Int) (n : Nat) (o : Int) : (if n % 2 = 1 then o * a % p else o) * (a * a % p) ^ (n / 2) % p = o * a ^ n % p := by
  have e1 : (a * a % p) ^ (n / 2) % p = (a * a) ^ (n / 2) % p := by
    generalize n / 2 = m
    induction m with
    | zero => simp
    | succ m ih => rw [Int.pow_succ, Int.pow_succ, Int.mul_emod, ih, Int.emod_emod, ← Int.mul_emod]
  have e2 : (a * a) ^ (n / 2) = a ^ (2 * (n / 2)) := by
    generalize n / 2 = m
    induction m with
    | zero => simp
    | succ m ih => rw [Int.pow_succ, ih, show 2 * (m + 1) = 2 * m + 1 + 1 by omega, Int.pow_succ, Int.pow_succ, Int.mul_assoc]
  split
  · rename_i h
    rw [Int.mul_emod, e1, Int.emod_emod, ← Int.mul_emod, e2, Int.mul_assoc, ← Int.pow_succ', show 2 * (n / 2) + 1 = n by omega]
  · rw [Int.mul_emod, e1, ← Int.mul_emod, e2, show 2 * (n / 2) = n by omega]
set_option maxHeartbeats 400000 in
theorem power_c (p a n : Int) (w : World) (h2 : 2 ≤ p) (h97 : p ≤ 97) (ha : 0 ≤ a ∧ a < p) (hn : 0 ≤ n) (hn2 : n ≤ 1000000) : Calls Tryd.prog 92 #[.int .i64 p, .int .i64 a, .int .i64 n] w fun e w' => e = .returned (.int .i64 (a ^ n.toNat % p)) ∧ w = w' := by
  have h1 : (1 : Int) % p = 1 := Int.emod_eq_of_lt (by omega) (by omega)
  go_enter Tryd.func92, Tryd.ntmps92
  go_wp2
  go_loop [1, 2, 7] (fun x m o => ∃ (x' o' : Int) (m' : Nat), x = .int .i64 x' ∧ m = .int .i64 m' ∧ o = .int .i64 o' ∧ 0 ≤ x' ∧ x' < p ∧ 0 ≤ o' ∧ o' < p ∧ m' ≤ 1000000 ∧ o' * x' ^ m' % p = a ^ n.toNat % p) (fun _ m _ => (intOf m).toNat)
  case atStart => exact ⟨a, 1, n.toNat, rfl, by rw [Int.toNat_of_nonneg hn], by rw [h1], ha.1, ha.2, by omega, by omega, by omega, by rw [Int.one_mul]⟩
  case round =>
    obtain ⟨x, o, m, rfl, rfl, rfl, hx0, hxp, ho0, hop, hm, he⟩ := hrel
    have hox := mul_bd (x := o) (y := x) ⟨by omega, by omega⟩ ⟨by omega, by omega⟩
    have hxx := mul_bd (x := x) (y := x) ⟨by omega, by omega⟩ ⟨by omega, by omega⟩
    have hh := pow_half p x m o
    have r1 := Int.emod_nonneg (x * x) (show p ≠ 0 by omega)
    have r2 := Int.emod_lt_of_pos (x * x) (show 0 < p by omega)
    have r3 := Int.emod_nonneg (o * x) (show p ≠ 0 by omega)
    have r4 := Int.emod_lt_of_pos (o * x) (show 0 < p by omega)
    have He := Lib.hid he
    have Hh := Lib.hid hh
    have H1 := Lib.hid h1
    clear he hh h1
    by_cases hm0 : m = 0
    · subst hm0
      go_wp2
      go_ret
      have := He.out
      rw [Int.pow_zero, Int.mul_one, Int.emod_eq_of_lt ho0 hop] at this
      exact ⟨ret_int this, rfl⟩
    · by_cases hodd : m % 2 = 1
      · have hb : ((m : Int) % 2 == 1) = true := by simp; omega
        go_wp2
        go_round
        case rel => exact ⟨x * x % p, o * x % p, m / 2, rfl, by go_num, rfl, r1, r2, r3, r4, by omega, by rw [← He.out, ← Hh.out, if_pos hodd]⟩
        case measure => simp [intOf]; omega
      · have hb : ((m : Int) % 2 == 1) = false := by simp; omega
        go_wp2
        go_round
        case rel => exact ⟨x * x % p, o, m / 2, rfl, by go_num, rfl, r1, r2, ho0, hop, by omega, by rw [← He.out, ← Hh.out, if_neg hodd]⟩
        case measure => simp [intOf]; omega
set_option maxHeartbeats 400000 in
theorem inverse_c (p a : Int) (w : World) (h2 : 2 ≤ p) (h97 : p ≤ 97) (ha : 0 ≤ a ∧ a < p) : Calls Tryd.prog 69 #[.int .i64 p, .int .i64 a] w fun e w' => e = .returned (.int .i64 (invM p a)) ∧ w = w' := by
  by_cases hp : p = 2
  · subst hp
    go_enter Tryd.func69, Tryd.ntmps69
    go_wp2_with (first | (go_at_call 93; refine (bit_c _ _).mono ?_; rintro e w' ⟨rfl, rfl⟩) | (go_at_call 92; refine (power_c _ _ _ _ (by omega) (by omega) ha (by simp) (by simp)).mono ?_; rintro e w' ⟨rfl, rfl⟩))
    go_ret
    exact ⟨rfl, rfl⟩
  · have hb : (p == 2) = false := by simpa using hp
    have he : invM p a = a ^ (p - 2 + 0).toNat % p := by rw [invM, if_neg hp]
    have He := Lib.hid he
    clear he
    go_enter Tryd.func69, Tryd.ntmps69
    go_wp2_with (first | (go_at_call 93; refine (bit_c _ _).mono ?_; rintro e w' ⟨rfl, rfl⟩) | (go_at_call 92; refine (power_c _ _ _ _ h2 h97 ha (by omega) (by omega)).mono ?_; rintro e w' ⟨rfl, rfl⟩))
    go_ret
    exact ⟨by rw [He.out]; simp, rfl⟩
set_option maxHeartbeats 400000 in
theorem fdInv_c (p a : Int) (w : World) (hf : fieldB p = true) (ha : 0 < a ∧ a < p) : Calls Tryd.prog 88 #[.int .i64 p, .int .i64 a] w fun e w' => e = .returned (.int .i64 (invM p a)) ∧ w = w' := by
  have h2 := fieldB_lo hf
  have h97 := fieldB_hi hf
  have hb := (inv_both hf ha.1 ha.2).2
  have Hb := Lib.hid hb
  clear hb hf
  go_enter Tryd.func88, Tryd.ntmps88
  go_wp2
  go_loop [5] (fun x => ∃ k : Nat, 1 ≤ k ∧ (k : Int) ≤ p ∧ x = .int .i64 k ∧ invS p a (p - k).toNat k = invM p a) (fun x => (p - intOf x).toNat)
  case atStart => exact ⟨1, by omega, by omega, rfl, Hb.out⟩
  case round =>
    obtain ⟨k, hk1, hkp, rfl, he⟩ := hrel
    have He := Lib.hid he
    clear he
    by_cases hlt : (k : Int) < p
    · have hak := mul_bd (x := a) (y := (k : Int)) ⟨by omega, by omega⟩ ⟨by omega, by omega⟩
      have e1 : (p - (k : Int)).toNat = (p - ((k + 1 : Nat) : Int)).toNat + 1 := by omega
      by_cases h1 : a * (k : Int) % p = 1
      · have hres : invM p a = (k : Int) := by rw [← He.out, e1, invS, if_pos h1]
        have Hres := Lib.hid hres
        have hb1 : (a * (k : Int) % p == 1) = true := by simpa using h1
        clear hres h1 e1
        go_wp2
        go_ret
        exact ⟨by rw [Hres.out]; rfl, rfl⟩
      · have hres : invS p a (p - ((k + 1 : Nat) : Int)).toNat ((k + 1 : Nat) : Int) = invM p a := by
          have := He.out
          rw [e1, invS, if_neg h1] at this
          exact this
        have Hres := Lib.hid hres
        have hb1 : (a * (k : Int) % p == 1) = false := by simpa using h1
        clear hres h1 e1
        go_wp2
        go_round
        case rel => exact ⟨k + 1, by omega, by omega, by go_num, Hres.out⟩
        case measure => simp [intOf]; omega
    · have hres : invM p a = 0 := by rw [← He.out, show (p - (k : Int)).toNat = 0 by omega]; rfl
      have Hres := Lib.hid hres
      clear hres
      go_wp2
      go_ret
      exact ⟨by rw [Hres.out]; rfl, rfl⟩
set_option maxHeartbeats 400000 in
theorem degree_c (A : Option Addr) (c n : Nat) (w : World) (hn : n ≤ 1099511627776) : Calls Tryd.prog 95 #[.slice A n c] w fun e w' => e = .returned (.int .i64 ((n : Int) - 1)) ∧ w = w' := by
  go_enter Tryd.func95, Tryd.ntmps95
  go_wp2
  go_ret
  exact ⟨rfl, rfl⟩
set_option maxHeartbeats 400000 in
theorem clone_c (A : Option Addr) (c : Nat) (xs : List Int) (w : World) (h : Rd w A xs) :
    Calls Tryd.prog 98 #[.slice A xs.length c] w fun e w' => ∃ g c', e = .returned (.slice (some ⟨g, 0, none⟩) xs.length c') ∧ xs.length ≤ c' ∧ w.heap.size ≤ g ∧ Own w' g xs ∧ Ex w w' := by
  have hl := h.len
  have hal : AL (w.alloc (.cells #[] 3)) w.heap.size (.slice (some ⟨w.heap.size, 0, none⟩) 0 0) [] := AL.empty w (Nat.le_refl _)
  obtain ⟨v', w1, hrun, hv, hx, hb⟩ := run_append_ints 38 38 Tryd.underlying38 _ _ _ _ hal (by simp) A c xs (h.ex ((Ex.refl w).alloc _)) (by simpa using hl)
  have hex : Ex w w1 := ((Ex.refl w).alloc (.cells #[] 3)).exo hx (fun g e => by simp [Value.ownBlock] at e; omega)
  obtain ⟨A', c', rfl, hf⟩ := hv.form (by simpa using hl)
  rw [List.nil_append] at hf hv
  have hA : ∃ g, A' = some ⟨g, 0, none⟩ := by
    rcases hv.2 with ⟨e, _⟩ | ⟨g, cap, cur, e, _⟩
    · injection e with e1 _ _
      subst e1
      rcases hb with hb | hb <;> simp [Value.ownBlock] at hb
    · injection e with e1 _ _
      exact ⟨g, e1⟩
  obtain ⟨g, rfl⟩ := hA
  obtain ⟨_, _, hc, hg, ho⟩ := hv.own
  go_enter Tryd.func98, Tryd.ntmps98
  go_wp2_with (at_builtin; refine wpList_append_run rfl _ _ _ rfl rfl rfl hrun ?_)
  go_ret
  exact ⟨g, c', rfl, hc, hg, ho, hex⟩
set_option maxHeartbeats 400000 in
theorem l1Own_c (A : Option Addr) (c : Nat) (xs : List Int) (w : World) (h : Rd w A xs) :
    Calls Tryd.prog 48 #[.slice A xs.length c] w fun e w' => ∃ g c', e = .returned (.slice (some ⟨g, 0, none⟩) xs.length c') ∧ xs.length ≤ c' ∧ w.heap.size ≤ g ∧ Own w' g xs ∧ Ex w w' := by
  have hl := h.len
  have hal : AL (w.alloc (.cells #[] 3)) w.heap.size (.slice (some ⟨w.heap.size, 0, none⟩) 0 0) [] := AL.empty w (Nat.le_refl _)
  obtain ⟨v', w1, hrun, hv, hx, hb⟩ := run_append_ints 38 38 Tryd.underlying38 _ _ _ _ hal (by simp) A c xs (h.ex ((Ex.refl w).alloc _)) (by simpa using hl)
  have hex : Ex w w1 := ((Ex.refl w).alloc (.cells #[] 3)).exo hx (fun g e => by simp [Value.ownBlock] at e; omega)
  obtain ⟨A', c', rfl, hf⟩ := hv.form (by simpa using hl)
  rw [List.nil_append] at hf hv
  have hA : ∃ g, A' = some ⟨g, 0, none⟩ := by
    rcases hv.2 with ⟨e, _⟩ | ⟨g, cap, cur, e, _⟩
    · injection e with e1 _ _
      subst e1
      rcases hb with hb | hb <;> simp [Value.ownBlock] at hb
    · injection e with e1 _ _
      exact ⟨g, e1⟩
  obtain ⟨g, rfl⟩ := hA
  obtain ⟨_, _, hc, hg, ho⟩ := hv.own
  go_enter Tryd.func48, Tryd.ntmps48
  go_wp2_with (at_builtin; refine wpList_append_run rfl _ _ _ rfl rfl rfl hrun ?_)
  go_ret
  exact ⟨g, c', rfl, hc, hg, ho, hex⟩
end Go.Proofs.YtmekhjnhcgmphaaDoor
