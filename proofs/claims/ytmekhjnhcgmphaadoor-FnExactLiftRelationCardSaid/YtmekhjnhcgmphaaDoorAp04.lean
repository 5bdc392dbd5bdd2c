/- Contracts of the functions on polynomials, both sides: each answers what the plain functions of Num.lean say. Contracts of the functions on polynomials, the second part: in place sums, trimming, sums, products. Contracts of the reference's functions on polynomials: sums, multiples, products. Contracts: quotients and remainders of both sides. -/
import Derived.Test.YtmekhjnhcgmphaaDoorAp03
import Derived.Test.YtmekhjnhcgmphaaDoorLaw
import Derived.StillTailTactics
import Derived.Laws.CopyOwn
namespace Go.Proofs.YtmekhjnhcgmphaaDoor
set_option maxRecDepth 100000
open Go Go.RowKit
theorem tmod_mod {p a : Int} (hp : 0 < p) : (if a.tmod p < 0 then a.tmod p + p else a.tmod p) = a % p := by
  rw [Int.tmod_eq_emod]
  have h1 := Int.emod_nonneg a (show p ≠ 0 by omega)
  have h2 := Int.emod_lt_of_pos a hp
  split <;> split <;> omega
theorem tmod_range {p a : Int} (hp : 0 < p) : -p ≤ a.tmod p ∧ a.tmod p < p := by
  have := tmod_mod (a := a) hp
  have h1 := Int.emod_nonneg a (show p ≠ 0 by omega)
  have h2 := Int.emod_lt_of_pos a hp
  split at this <;> omega
set_option maxHeartbeats 400000 in
theorem mod_c (p a : Int) (w : World) (h2 : 2 ≤ p) (h97 : p ≤ 97) : Calls Tryd.prog 66 #[.int .i64 p, .int .i64 a] w fun e w' => e = .returned (.int .i64 (a % p)) ∧ w = w' := by
  have hp0 : ¬ p = 0 := by omega
  have hm := tmod_mod (a := a) (p := p) (by omega)
  have hr := tmod_range (a := a) (p := p) (by omega)
  by_cases hneg : a.tmod p < 0
  · rw [if_pos hneg] at hm
    have Hm := Lib.hid hm
    clear hm
    go_enter Tryd.func66, Tryd.ntmps66
    go_wp2
    go_ret
    exact ⟨ret_int Hm.out, rfl⟩
  · rw [if_neg hneg] at hm
    have Hm := Lib.hid hm
    clear hm
    go_enter Tryd.func66, Tryd.ntmps66
    go_wp2
    go_ret
    exact ⟨ret_int Hm.out, rfl⟩
set_option maxHeartbeats 400000 in
theorem fdMul_c (p a b : Int) (w : World) (h2 : 2 ≤ p) (ha : 0 ≤ a ∧ a ≤ 96) (hb : 0 ≤ b ∧ b ≤ 96) : Calls Tryd.prog 100 #[.int .i64 p, .int .i64 a, .int .i64 b] w fun e w' => e = .returned (.int .i64 (a * b % p)) ∧ w = w' := by
  have hm := mul_bd ha hb
  go_enter Tryd.func100, Tryd.ntmps100
  go_wp2
  go_ret
  exact ⟨rfl, rfl⟩
set_option maxHeartbeats 400000 in
theorem fdSub_c (p a b : Int) (w : World) (h2 : 2 ≤ p) (h97 : p ≤ 97) (ha : 0 ≤ a ∧ a ≤ 96) (hb : 0 ≤ b ∧ b ≤ p) : Calls Tryd.prog 101 #[.int .i64 p, .int .i64 a, .int .i64 b] w fun e w' => e = .returned (.int .i64 ((a - b) % p)) ∧ w = w' := by
  have e : (a + p - b) % p = (a - b) % p := by
    rw [show a + p - b = (a - b) + p by omega, Int.add_emod_right]
  have E := Lib.hid e
  clear e
  go_enter Tryd.func101, Tryd.ntmps101
  go_wp2
  go_ret
  exact ⟨ret_int E.out, rfl⟩
set_option maxHeartbeats 400000 in
theorem bit_c (b : Bool) (w : World) : Calls Tryd.prog 93 #[.bool b] w fun e w' => e = .returned (.int .i64 (if b then 1 else 0)) ∧ w = w' := by
  cases b
  all_goals
    go_enter Tryd.func93, Tryd.ntmps93
    go_wp2
    go_ret
    exact ⟨rfl, rfl⟩
theorem pow_half (p a : Int) (n : Nat) (o : Int) : (if n % 2 = 1 then o * a % p else o) * (a * a % p) ^ (n / 2) % p = o * a ^ n % p := by
  have e1 : (a * a % p) ^ (n / 2) % p = (a * a) ^ (n / 2) % p := by
    generalize n / 2 = m
    induction m with
    | zero => simp
    | succ m ih => rw [Int.pow_succ, Int.pow_succ, Int.mul_emod, ih, Int.emod_emod, ← Int.mul_emod]
  have e2 : (a * a) ^ (n / 2) = a ^ (2 * (n / 2)) := by
    generalize n / 2 = m
    induction m with
    | zero => simp
    | succ m ih => rw [Int.pow_succ, ih, show 2 * (m + 1) = 2 * m + 1 + 1 by omega, Int.pow_succ, Int.pow_succ, Int.mul_assoc]
  split
  · rename_i h
    rw [Int.mul_emod, e1, Int.emod_emod, ← Int.mul_emod, e2, Int.mul_assoc, ← Int.pow_succ', show 2 * (n / 2) + 1 = n by omega]
  · rw [Int.mul_emod, e1, ← Int.mul_emod, e2, show 2 * (n / 2) = n by omega]
set_option maxHeartbeats 400000 in
theorem power_c (p a n : Int) (w : World) (h2 : 2 ≤ p) (h97 : p ≤ 97) (ha : 0 ≤ a ∧ a < p) (hn : 0 ≤ n) (hn2 : n ≤ 1000000) : Calls Tryd.prog 92 #[.int .i64 p, .int .i64 a, .int .i64 n] w fun e w' => e = .returned (.int .i64 (a ^ n.toNat % p)) ∧ w = w' := by
  have h1 : (1 : Int) % p = 1 := Int.emod_eq_of_lt (by omega) (by omega)
  go_enter Tryd.func92, Tryd.ntmps92
  go_wp2
  go_loop [1, 2, 7] (fun x m o => ∃ (x' o' : Int) (m' : Nat), x = .int .i64 x' ∧ m = .int .i64 m' ∧ o = .int .i64 o' ∧ 0 ≤ x' ∧ x' < p ∧ 0 ≤ o' ∧ o' < p ∧ m' ≤ 1000000 ∧ o' * x' ^ m' % p = a ^ n.toNat % p) (fun _ m _ => (intOf m).toNat)
  case atStart => exact ⟨a, 1, n.toNat, rfl, by rw [Int.toNat_of_nonneg hn], by rw [h1], ha.1, ha.2, by omega, by omega, by omega, by rw [Int.one_mul]⟩
  case round =>
    obtain ⟨x, o, m, rfl, rfl, rfl, hx0, hxp, ho0, hop, hm, he⟩ := hrel
    have hox := mul_bd (x := o) (y := x) ⟨by omega, by omega⟩ ⟨by omega, by omega⟩
    have hxx := mul_bd (x := x) (y := x) ⟨by omega, by omega⟩ ⟨by omega, by omega⟩
    have hh := pow_half p x m o
    have r1 := Int.emod_nonneg (x * x) (show p ≠ 0 by omega)
    have r2 := Int.emod_lt_of_pos (x * x) (show 0 < p by omega)
    have r3 := Int.emod_nonneg (o * x) (show p ≠ 0 by omega)
    have r4 := Int.emod_lt_of_pos (o * x) (show 0 < p by omega)
    have He := Lib.hid he
    have Hh := Lib.hid hh
    have H1 := Lib.hid h1
    clear he hh h1
    by_cases hm0 : m = 0
    · subst hm0
      go_wp2
      go_ret
      have := He.out
      rw [Int.pow_zero, Int.mul_one, Int.emod_eq_of_lt ho0 hop] at this
      exact ⟨ret_int this, rfl⟩
    · by_cases hodd : m % 2 = 1
      · have hb : ((m : Int) % 2 == 1) = true := by simp; omega
        go_wp2
        go_round
        case rel => exact ⟨x * x % p, o * x % p, m / 2, rfl, by go_num, rfl, r1, r2, r3, r4, by omega, by rw [← He.out, ← Hh.out, if_pos hodd]⟩
        case measure => simp [intOf]; omega
      · have hb : ((m : Int) % 2 == 1) = false := by simp; omega
        go_wp2
        go_round
        case rel => exact ⟨x * x % p, o, m / 2, rfl, by go_num, rfl, r1, r2, ho0, hop, by omega, by rw [← He.out, ← Hh.out, if_neg hodd]⟩
        case measure => simp [intOf]; omega
set_option maxHeartbeats 400000 in
theorem inverse_c (p a : Int) (w : World) (h2 : 2 ≤ p) (h97 : p ≤ 97) (ha : 0 ≤ a ∧ a < p) : Calls Tryd.prog 69 #[.int .i64 p, .int .i64 a] w fun e w' => e = .returned (.int .i64 (invM p a)) ∧ w = w' := by
  by_cases hp : p = 2
  · subst hp
    go_enter Tryd.func69, Tryd.ntmps69
    go_wp2_with (first | (go_at_call 93; refine (bit_c _ _).mono ?_; rintro e w' ⟨rfl, rfl⟩) | (go_at_call 92; refine (power_c _ _ _ _ (by omega) (by omega) ha (by simp) (by simp)).mono ?_; rintro e w' ⟨rfl, rfl⟩))
    go_ret
    exact ⟨rfl, rfl⟩
  · have hb : (p == 2) = false := by simpa using hp
    have he : invM p a = a ^ (p - 2 + 0).toNat % p := by rw [invM, if_neg hp]
    have He := Lib.hid he
    clear he
    go_enter Tryd.func69, Tryd.ntmps69
    go_wp2_with (first | (go_at_call 93; refine (bit_c _ _).mono ?_; rintro e w' ⟨rfl, rfl⟩) | (go_at_call 92; refine (power_c _ _ _ _ h2 h97 ha (by omega) (by omega)).mono ?_; rintro e w' ⟨rfl, rfl⟩))
    go_ret
    exact ⟨by rw [He.out]; simp, rfl⟩
set_option maxHeartbeats 400000 in
theorem fdInv_c (p a : Int) (w : World) (hf : fieldB p = true) (ha : 0 < a ∧ a < p) : Calls Tryd.prog 88 #[.int .i64 p, .int .i64 a] w fun e w' => e = .returned (.int .i64 (invM p a)) ∧ w = w' := by
  have h2 := fieldB_lo hf
  have h97 := fieldB_hi hf
  have hb := (inv_both hf ha.1 ha.2).2
  have Hb := Lib.hid hb
  clear hb hf
  go_enter Tryd.func88, Tryd.ntmps88
  go_wp2
  go_loop [5] (fun x => ∃ k : Nat, 1 ≤ k ∧ (k : Int) ≤ p ∧ x = .int .i64 k ∧ invS p a (p - k).toNat k = invM p a) (fun x => (p - intOf x).toNat)
  case atStart => exact ⟨1, by omega, by omega, rfl, Hb.out⟩
  case round =>
    obtain ⟨k, hk1, hkp, rfl, he⟩ := hrel
    have He := Lib.hid he
    clear he
    by_cases hlt : (k : Int) < p
    · have hak := mul_bd (x := a) (y := (k : Int)) ⟨by omega, by omega⟩ ⟨by omega, by omega⟩
      have e1 : (p - (k : Int)).toNat = (p - ((k + 1 : Nat) : Int)).toNat + 1 := by omega
      by_cases h1 : a * (k : Int) % p = 1
      · have hres : invM p a = (k : Int) := by rw [← He.out, e1, invS, if_pos h1]
        have Hres := Lib.hid hres
        have hb1 : (a * (k : Int) % p == 1) = true := by simpa using h1
        clear hres h1 e1
        go_wp2
        go_ret
        exact ⟨by rw [Hres.out]; rfl, rfl⟩
      · have hres : invS p a (p - ((k + 1 : Nat) : Int)).toNat ((k + 1 : Nat) : Int) = invM p a := by
          have := He.out
          rw [e1, invS, if_neg h1] at this
          exact this
        have Hres := Lib.hid hres
        have hb1 : (a * (k : Int) % p == 1) = false := by simpa using h1
        clear hres h1 e1
        go_wp2
        go_round
        case rel => exact ⟨k + 1, by omega, by omega, by go_num, Hres.out⟩
        case measure => simp [intOf]; omega
    · have hres : invM p a = 0 := by rw [← He.out, show (p - (k : Int)).toNat = 0 by omega]; rfl
      have Hres := Lib.hid hres
      clear hres
      go_wp2
      go_ret
      exact ⟨by rw [Hres.out]; rfl, rfl⟩
set_option maxHeartbeats 400000 in
theorem clone_c (A : Option Addr) (c : Nat) (xs : List Int) (w : World) (h : Rd w A xs) :
    Calls Tryd.prog 98 #[.slice A xs.length c] w fun e w' => ∃ g c', e = .returned (.slice (some ⟨g, 0, none⟩) xs.length c') ∧ xs.length ≤ c' ∧ w.heap.size ≤ g ∧ Own w' g xs ∧ Ex w w' := by
  have hl := h.len
  have hal : AL (w.alloc (.cells #[] 3)) w.heap.size (.slice (some ⟨w.heap.size, 0, none⟩) 0 0) [] := AL.empty w (Nat.le_refl _)
  obtain ⟨v', w1, hrun, hv, hx, hb⟩ := run_append_ints 38 38 Tryd.underlying38 _ _ _ _ hal (by simp) A c xs (h.ex ((Ex.refl w).alloc _)) (by simpa using hl)
  have hex : Ex w w1 := ((Ex.refl w).alloc (.cells #[] 3)).exo hx (fun g e => by simp [Value.ownBlock] at e; omega)
  obtain ⟨A', c', rfl, hf⟩ := hv.form (by simpa using hl)
  rw [List.nil_append] at hf hv
  have hA : ∃ g, A' = some ⟨g, 0, none⟩ := by
    rcases hv.2 with ⟨e, _⟩ | ⟨g, cap, cur, e, _⟩
    · injection e with e1 _ _
      subst e1
      rcases hb with hb | hb <;> simp [Value.ownBlock] at hb
    · injection e with e1 _ _
      exact ⟨g, e1⟩
  obtain ⟨g, rfl⟩ := hA
  obtain ⟨_, _, hc, hg, ho⟩ := hv.own
  go_enter Tryd.func98, Tryd.ntmps98
  go_wp2_with (at_builtin; refine wpList_append_run rfl _ _ _ rfl rfl rfl hrun ?_)
  go_ret
  exact ⟨g, c', rfl, hc, hg, ho, hex⟩
set_option maxHeartbeats 400000 in
theorem l1Own_c (A : Option Addr) (c : Nat) (xs : List Int) (w : World) (h : Rd w A xs) :
    Calls Tryd.prog 48 #[.slice A xs.length c] w fun e w' => ∃ g c', e = .returned (.slice (some ⟨g, 0, none⟩) xs.length c') ∧ xs.length ≤ c' ∧ w.heap.size ≤ g ∧ Own w' g xs ∧ Ex w w' := by
  have hl := h.len
  have hal : AL (w.alloc (.cells #[] 3)) w.heap.size (.slice (some ⟨w.heap.size, 0, none⟩) 0 0) [] := AL.empty w (Nat.le_refl _)
  obtain ⟨v', w1, hrun, hv, hx, hb⟩ := run_append_ints 38 38 Tryd.underlying38 _ _ _ _ hal (by simp) A c xs (h.ex ((Ex.refl w).alloc _)) (by simpa using hl)
  have hex : Ex w w1 := ((Ex.refl w).alloc (.cells #[] 3)).exo hx (fun g e => by simp [Value.ownBlock] at e; omega)
  obtain ⟨A', c', rfl, hf⟩ := hv.form (by simpa using hl)
  rw [List.nil_append] at hf hv
  have hA : ∃ g, A' = some ⟨g, 0, none⟩ := by
    rcases hv.2 with ⟨e, _⟩ | ⟨g, cap, cur, e, _⟩
    · injection e with e1 _ _
      subst e1
      rcases hb with hb | hb <;> simp [Value.ownBlock] at hb
    · injection e with e1 _ _
      exact ⟨g, e1⟩
  obtain ⟨g, rfl⟩ := hA
  obtain ⟨_, _, hc, hg, ho⟩ := hv.own
  go_enter Tryd.func48, Tryd.ntmps48
  go_wp2_with (at_builtin; refine wpList_append_run rfl _ _ _ rfl rfl rfl hrun ?_)
  go_ret
  exact ⟨g, c', rfl, hc, hg, ho, hex⟩
end Go.Proofs.YtmekhjnhcgmphaaDoor
namespace Go.Proofs.YtmekhjnhcgmphaaDoor
set_option maxRecDepth 100000
open Go Go.RowKit
theorem trim_drop {xs : List Int} {k : Nat} (h : xs[k]? = some 0) : trim (xs.take (k + 1)) = trim (xs.take k) := by
  rw [List.take_add_one, h]
  exact trim_snoc0 _
theorem trim_stop {xs : List Int} {k : Nat} {x : Int} (h : xs[k]? = some x) (hx : x ≠ 0) : trim (xs.take (k + 1)) = xs.take (k + 1) := by
  rw [List.take_add_one, h]
  exact trim_snoc _ hx
set_option maxHeartbeats 400000 in
theorem poTrim_c (A : Option Addr) (c : Nat) (xs : List Int) (w : World) (h : Rd w A xs) (hc : xs.length ≤ c) :
    Calls Tryd.prog 63 #[.slice A xs.length c] w fun e w' => ∃ g c', e = .returned (.slice (some ⟨g, 0, none⟩) (trim xs).length c') ∧ (trim xs).length ≤ c' ∧ w.heap.size ≤ g ∧ Own w' g (trim xs) ∧ Ex w w' := by
  have hl := h.len
  have htl := trim_le xs
  have hrd : Rd w A (trim xs) := by rw [trim_take]; exact h.take _
  go_enter Tryd.func63, Tryd.ntmps63
  go_wp2
  go_loop [3] (fun n => ∃ k : Nat, k ≤ xs.length ∧ n = .int .i64 k ∧ trim (xs.take k) = trim xs) (fun n => (intOf n).toNat)
  case atStart => exact ⟨_, Nat.le_refl _, rfl, by rw [List.take_length]⟩
  case round =>
    obtain ⟨k, hk, rfl, ht⟩ := hrel
    have Ht := Lib.hid ht
    clear ht
    cases k with
    | zero =>
      have hz : trim xs = [] := by rw [← Ht.out]; rfl
      rw [hz] at hrd
      have Hz := Lib.hid hz
      clear hz htl
      go_wp2_with fail
      refine (l1Own_c A c [] w hrd).mono ?_
      rintro e w1 ⟨g, c', rfl, h1, h2, h3, h4⟩
      go_wp2
      go_ret
      exact ⟨g, c', by rw [Hz.out]; rfl, by rw [Hz.out]; exact h1, h2, by rw [Hz.out]; exact h3, h4⟩
    | succ k =>
      obtain ⟨g, off, x, rfl, hx, hg, hcell⟩ := h.at_ (by omega : k < xs.length)
      by_cases h0 : x = 0
      · subst h0
        have hn := (trim_drop hx).symm.trans Ht.out
        have Hn := Lib.hid hn
        clear hn hx
        go_wp2_with fail
        go_round
        case rel => exact ⟨k, by omega, rfl, Hn.out⟩
        case measure => simp [intOf]
      · have hn : (trim xs).length = k + 1 := by rw [← Ht.out, trim_stop hx h0, List.length_take]; omega
        have Hn := Lib.hid hn
        have hb : (x == 0) = false := by simpa using h0
        clear hn hx
        go_wp2_with fail
        rw [← Hn.out]
        refine (l1Own_c _ c (trim xs) w hrd).mono ?_
        rintro e w1 ⟨g', c', rfl, h1, h2, h3, h4⟩
        go_wp2
        go_ret
        exact ⟨g', c', rfl, h1, h2, h3, h4⟩
/-- addTimes: by times ys is added to block g from place s on. -/
theorem addTimesW_c (p : Int) (g s n c : Nat) (xs : List Int) (b : Int) (A : Option Addr) (d : Nat) (ys : List Int) (w : World) (ho : Own w g xs) (hn : s + n ≤ xs.length) (h : Rd w A ys) (hy : ys.length ≤ n) (hoff : ys ≠ [] → Off A g)
    (h2 : 2 ≤ p) (h97 : p ≤ 97) (hxe : allEl p xs = true) (hye : allEl p ys = true) (hb : -10000 ≤ b ∧ b ≤ 10000) :
    Calls Tryd.prog 91 #[.int .i64 p, .slice (some ⟨g, s, none⟩) n c, .int .i64 b, .slice A ys.length d] w fun e w' => e = .returned (.tuple #[]) ∧ Own w' g (addAt p xs s b ys) ∧ Ex1 g w w' := by
  have hl := h.len
  have Hxe := Lib.hid hxe
  have Hye := Lib.hid hye
  clear hxe hye
  go_enter Tryd.func91, Tryd.ntmps91
  go_wp2
  go_loopw [12] (fun i wr => ∃ k : Nat, k ≤ ys.length ∧ i = .int .i64 k ∧ Own wr g (addAt p xs s b (ys.take k)) ∧ Ex1 g w wr) (fun i _ => ys.length - (intOf i).toNat)
  case atStart => exact ⟨0, Nat.zero_le _, rfl, by rw [List.take_zero, addAt_nil]; exact ho, Ex1.refl _ _⟩
  case round =>
    obtain ⟨k, hk, rfl, hok, hek⟩ := hrel
    by_cases hlt : k < ys.length
    · obtain ⟨g', off, y, rfl, hyk, hg', hcell⟩ := (h.ex1 hek (hoff (by intro e; subst e; simp at hlt))).at_ hlt
      have hcf : (addAt p xs s b (ys.take k))[s + k]? = some (cf xs (s + k)) := addAt_at (by omega) (by simp; omega)
      have hcx := hok.cell hcf
      have hfz := hok.frozen (s + k)
      have hbx := cf_bd Hxe.out (by omega) (s + k)
      have hby := allEl_at Hye.out hyk
      have hso := hok.set_ (s + k) ((cf xs (s + k) + b * y) % p)
      have hcy : cf ys k = y := cf_of hyk
      rw [← hcy, addAt_take_succ p xs s b ys k hlt, hcy] at hso
      have hmb : -960000 ≤ b * y ∧ b * y ≤ 960000 := by
        have m1 := Int.mul_le_mul_of_nonneg_right hb.1 hby.1
        have m2 := Int.mul_le_mul_of_nonneg_right hb.2 hby.1
        omega
      generalize cf xs (s + k) = x at *
      clear hcf hyk hcy
      go_wp2_with (go_at_call 66; refine (mod_c _ _ _ h2 h97).mono ?_; rintro e w' ⟨rfl, rfl⟩)
      go_roundw
      case rel => exact ⟨k + 1, by omega, by go_num, hso, hek.setCell rfl _⟩
      case measure => simp [intOf]; omega
    · obtain rfl : k = ys.length := by omega
      rw [List.take_length] at hok
      go_wp2
      go_end0
      exact ⟨rfl, hok, hek⟩
end Go.Proofs.YtmekhjnhcgmphaaDoor
namespace Go.Proofs.YtmekhjnhcgmphaaDoor
set_option maxRecDepth 100000
open Go Go.RowKit
theorem addAt_set0 (p : Int) (v : List Int) (s : Nat) (b : Int) (w : List Int) (k : Nat) (hk : k < w.length) {y : Int} (hy : w[k]? = some y) {x : Int} (hx : cf v (s + k) = x) :
    (addAt p v s b (w.take k)).set (s + k) ((x + b * y) % p) = addAt p v s b (w.take (k + 1)) := by
  rw [← addAt_take_succ p v s b w k hk, hx, cf_of hy]
set_option maxHeartbeats 1000000 in
theorem poTimes_c (p : Int) (A : Option Addr) (c : Nat) (b : Int) (f : List Int) (w : World) (hf : Rd w A f) (h2 : 2 ≤ p) (h97 : p ≤ 97) (hfe : allEl p f = true) (hb : 0 ≤ b ∧ b ≤ 96) :
    Calls Tryd.prog 89 #[.int .i64 p, .int .i64 b, .slice A f.length c] w fun e w' => ∃ A' c', e = .returned (.slice A' (pScale p b f).length c') ∧ Fr w' w.heap.size A' c' (pScale p b f) ∧ Ex w w' := by
  have hl := hf.len
  have Hfe := Lib.hid hfe
  clear hfe
  have hmk := fun W => run_make_ints f.length hl W
  have ho0 := Own.new w (List.replicate f.length 0)
  have he0 := (Ex.refl w).alloc (iObj (List.replicate f.length 0))
  go_enter Tryd.func89, Tryd.ntmps89
  go_wp2_with fail
  clear hmk
  go_loopw [15] (fun i wr => ∃ k : Nat, k ≤ f.length ∧ i = .int .i64 k ∧ Own wr w.heap.size (addAt p (List.replicate f.length 0) 0 b (f.take k)) ∧ Ex w wr) (fun i _ => f.length - (intOf i).toNat)
  case atStart => exact ⟨0, Nat.zero_le _, rfl, by rw [List.take_zero, addAt_nil]; exact ho0, he0⟩
  case round =>
    obtain ⟨k, hk, rfl, hok, hek⟩ := hrel
    by_cases hlt : k < f.length
    · obtain ⟨g', off, y, rfl, hy, hg', hcell⟩ := (hf.ex hek).at_ hlt
      have hcf : (addAt p (List.replicate f.length 0) 0 b (f.take k))[k]? = some (cf (List.replicate f.length 0) k) := addAt_at (by simp; omega) (by simp; omega)
      rw [rep_cf] at hcf
      have hcx := hok.cell hcf
      have hfz := hok.frozen k
      have hby := allEl_at Hfe.out hy
      have hso := hok.set_ k (b * y % p)
      have hst := addAt_set0 p (List.replicate f.length 0) 0 b f k hlt hy (rep_cf _ _)
      rw [Nat.zero_add, Int.zero_add] at hst
      rw [hst] at hso
      clear hcf hy hst
      go_wp2_with (go_at_call 100; refine (fdMul_c _ _ _ _ h2 hb (by omega)).mono ?_; rintro e w' ⟨rfl, rfl⟩)
      go_roundw
      case rel => exact ⟨k + 1, by omega, by go_num, hso, hek.setCell (Nat.le_refl _) _⟩
      case measure => simp [intOf]; omega
    · obtain rfl : k = f.length := by omega
      rw [List.take_length] at hok
      have hP : trim (addAt p (List.replicate f.length 0) 0 b f) = pScale p b f := by
        rw [pScale, pAdd]; simp [padTo]
      have HP := Lib.hid hP
      have hr := hok.rd (by rw [addAt_len]; simpa using hl)
      have Hll := Lib.hid (show (addAt p (List.replicate f.length 0) 0 b f).length = f.length by rw [addAt_len]; simp)
      clear hP
      go_wp2_with fail
      rw [← Hll.out]
      refine (poTrim_c _ _ _ _ hr (Nat.le_refl _)).mono ?_
      rintro e w4 ⟨g4, c4, rfl, hc4, hg4, ho4, hx4⟩
      rw [HP.out] at hc4 ho4 ⊢
      have hpl2 : (pScale p b f).length ≤ f.length := by have := pAdd_le p [] b f; simpa [pScale] using this
      go_wp2_with fail
      go_ret
      exact ⟨_, c4, rfl, ho4.fr (by omega) (by have := hek.size; omega) hc4, hek.trans hx4⟩
end Go.Proofs.YtmekhjnhcgmphaaDoor
namespace Go.Proofs.YtmekhjnhcgmphaaDoor
set_option maxRecDepth 100000
open Go Go.RowKit
/-- Two fresh lists of ints, apart. -/
def LL (w : World) (q r : List Int) (e : Ending) (w' : World) : Prop :=
  ∃ A c B d, e = .returned (.tuple #[.slice A q.length c, .slice B r.length d]) ∧ Fr w' w.heap.size A c q ∧ Fr w' w.heap.size B d r ∧ Apart A B ∧ Ex w w'
theorem rep_at (k : Nat) (Q : List Int) : (List.replicate (k + 1) (0 : Int) ++ Q)[k]? = some 0 := by
  rw [List.getElem?_append_left (by simp)]; simp
theorem rep_set (k : Nat) (x : Int) (Q : List Int) : (List.replicate (k + 1) (0 : Int) ++ Q).set k x = List.replicate k 0 ++ (x :: Q) := by
  rw [List.replicate_succ', List.append_assoc, List.set_append_right _ _ (by simp)]
  simp
theorem apart_ne {g g' : Nat} {o o' : Nat} (h : g ≠ g') : Apart (some ⟨g, o, none⟩) (some ⟨g', o', none⟩) := fun a a' e e' => by
  injection e with e; injection e' with e'; subst e e'; exact h
theorem sub_mod (p a b : Int) : (a - b % p) % p = (a - b) % p := by rw [Int.sub_emod, Int.emod_emod, ← Int.sub_emod]
set_option maxHeartbeats 4000000 in
set_option maxRecDepth 100000 in
theorem poDiv_c (p : Int) (A B : Option Addr) (c d : Nat) (f g : List Int) (w : World) (hf : Rd w A f) (hg : Rd w B g) (hF : fieldB p = true) (hfe : allEl p f = true) (hge : allEl p g = true) (hg0 : g ≠ []) (tf : Tr f) (tg : Tr g) :
    Calls Tryd.prog 87 #[.int .i64 p, .slice A f.length c, .slice B g.length d] w fun e w' => LL w (pDivQ p f g) (pDivR p f g) e w' := by
  have h2 := fieldB_lo hF
  have h97 := fieldB_hi hF
  have hl := hf.len
  have hl' := hg.len
  have hgl := List.length_pos_iff.2 hg0
  obtain ⟨gl, hgl1⟩ : ∃ gl : Nat, g.length = gl + 1 := ⟨g.length - 1, by omega⟩
  obtain ⟨gA, goff, x, rfl, hx, hgA, hcell⟩ := hg.at_ (by omega : gl < g.length)
  have hxb := allEl_at hge hx
  have hcx : cf g (g.length - 1) = x := by rw [hgl1]; exact cf_of hx
  have hxp : 0 < x := by have := tg.last hg0; rw [hcx] at this; omega
  have hinv := invM_bd x h2 (p := p)
  have Hgl1 := Lib.hid hgl1
  have hgl2 : gl < g.length := by omega
  have hgl3 : g.length ≤ gl + 1 := by omega
  have hgi : (g.length : Int) - 1 = (gl : Int) := by omega
  have HF := Lib.hid hF
  by_cases hlt : f.length < g.length
  · have HQ := Lib.hid (show pDivQ p f g = [] by rw [pDivQ, if_pos hlt])
    have HR := Lib.hid (show pDivR p f g = f by rw [pDivR, if_pos hlt])
    have htf : trim f = f := tf
    have Htf := Lib.hid htf
    clear hgl1 hx hcx hF hfe hge hg0 htf
    go_enter Tryd.func87, Tryd.ntmps87
    go_wp2_with fail
    refine (l1Own_c A c f w hf).mono ?_
    rintro e w1 ⟨g1, c1, rfl, hc1, hg1, ho1, hx1⟩
    have hcell1 : w1.cell? ⟨gA, goff + gl, none⟩ = some (.int .i64 x) := (World.cell?_of_block (w := w) (a := ⟨gA, goff + gl, none⟩) (hx1.block hgA)).trans hcell
    clear hcell
    go_wp2_with fail
    refine (fdInv_c p x _ HF.out ⟨hxp, hxb.2⟩).mono ?_
    rintro e w2 ⟨rfl, rfl⟩
    go_wp2_with fail
    refine wp_loop_rounds 1 ?_
    rw [rounds_succ]
    go_wp2_with fail
    refine (poTrim_c none 0 [] _ (Rd.nil _ _) (Nat.le_refl _)).mono ?_
    rintro e w3 ⟨g3, c3, rfl, hc3, hg3, ho3, hx3⟩
    go_wp2_with fail
    refine (poTrim_c _ _ _ _ ((ho1.ex hx3).rd hl) hc1).mono ?_
    rintro e w4 ⟨g4, c4, rfl, hc4, hg4, ho4, hx4⟩
    rw [Htf.out] at hc4 ho4 ⊢
    go_wp2
    go_ret2
    rw [HQ.out, HR.out]
    have s1 := hx1.size
    have s3 := hx3.size
    have l3 := ho3.lt
    exact ⟨_, _, _, _, rfl, ((ho3.ex hx4).fr (Nat.zero_le _) (by omega) hc3), ho4.fr hl (by omega) hc4, apart_ne (by omega), (hx1.trans hx3).trans hx4⟩
  · obtain ⟨m, hm⟩ : ∃ m : Nat, m = f.length - g.length + 1 := ⟨_, rfl⟩
    have hmi : (f.length : Int) - (g.length : Int) + 1 = (m : Int) := by omega
    have hmf : m + g.length = f.length + 1 := by omega
    have HQ := Lib.hid (show pDivQ p f g = trim (divGo p g (invM p x) m f).1 by rw [pDivQ, if_neg hlt, hcx, ← hm])
    have HR := Lib.hid (show pDivR p f g = trim (divGo p g (invM p x) m f).2 by rw [pDivR, if_neg hlt, hcx, ← hm])
    obtain ⟨b, hb⟩ : ∃ b, b = invM p x := ⟨_, rfl⟩
    rw [← hb] at HQ HR hinv
    have Hb := Lib.hid hb
    have Hfe := Lib.hid hfe
    have Hge := Lib.hid hge
    have Hmf := Lib.hid hmf
    have hm40 : m ≤ 1099511627776 := by omega
    have hmk := fun W => run_make_ints m hm40 W
    clear hm hfe hge hg0 hx hcx hb hmf hF hgl1
    go_enter Tryd.func87, Tryd.ntmps87
    go_wp2_with fail
    refine (l1Own_c A c f w hf).mono ?_
    rintro e w1 ⟨gr, cr, rfl, hcr, hgr, hor, hx1⟩
    have hcell1 : w1.cell? ⟨gA, goff + gl, none⟩ = some (.int .i64 x) := (World.cell?_of_block (w := w) (a := ⟨gA, goff + gl, none⟩) (hx1.block hgA)).trans hcell
    have hx2 := (Ex.refl w1).alloc (iObj (List.replicate m 0))
    have hoq := Own.new w1 (List.replicate m 0)
    have hor2 := hor.ex hx2
    have hex2 := hx1.trans hx2
    have hne : gr ≠ w1.heap.size := by have := hor.lt; omega
    have hgq2 : w.heap.size ≤ w1.heap.size := hx1.size
    obtain ⟨gq, hgq⟩ : ∃ gq, gq = w1.heap.size := ⟨_, rfl⟩
    rw [← hgq] at hoq hne hgq2
    have Hgq := Lib.hid hgq
    have hcell2 : (w1.alloc (iObj (List.replicate m 0))).cell? ⟨gA, goff + gl, none⟩ = some (.int .i64 x) := (World.cell?_of_block (w := w1) (a := ⟨gA, goff + gl, none⟩) (hx2.block (show gA < w1.heap.size by have := hx1.size; omega))).trans hcell1
    clear hcell hor hgq hcell1
    go_wp2_with fail
    refine (fdInv_c p x _ HF.out ⟨hxp, hxb.2⟩).mono ?_
    rintro e w3 ⟨rfl, rfl⟩
    rw [← Hb.out]
    clear hcell2 hgi hmi hmk
    rw [← Hgq.out]
    generalize w1.alloc (iObj (List.replicate m 0)) = w2 at *
    go_wp2_with fail
    go_loopw [11] (fun i wr => ∃ (k : Nat) (Q r : List Int), k ≤ m ∧ i = .int .i64 ((k : Int) - 1) ∧ Own wr gq (List.replicate k 0 ++ Q) ∧ Own wr gr r ∧ r.length = f.length ∧ allEl p r = true ∧ Q.length = m - k ∧
        (divGo p g b m f).1 = (divGo p g b k r).1 ++ Q ∧ (divGo p g b m f).2 = (divGo p g b k r).2 ∧ Ex w wr) (fun i _ => (intOf i + 1).toNat)
    case atStart => exact ⟨m, [], f, Nat.le_refl _, rfl, by simpa using hoq, hor2, rfl, Hfe.out, by simp, by simp, rfl, hex2⟩
    case round =>
      obtain ⟨k, Q, r, hk, rfl, hoQ, hoR, hrl, hre, hQl, hd1, hd2, hek⟩ := hrel
      have Hre := Lib.hid hre
      have Hd1 := Lib.hid hd1
      have Hd2 := Lib.hid hd2
      have HQl := Lib.hid hQl
      have Hrl := Lib.hid hrl
      clear hre hd1 hd2 hQl hrl
      cases k with
      | zero =>
        have e1 : (divGo p g b m f).1 = Q := by rw [Hd1.out]; rfl
        have e2 : (divGo p g b m f).2 = r := by rw [Hd2.out]; rfl
        rw [e1] at HQ
        rw [e2] at HR
        rw [List.replicate_zero, List.nil_append] at hoQ
        have hQm : Q.length = m := by rw [HQl.out]; omega
        have hrQ := hoQ.rd (by omega)
        have hrR := hoR.rd (by rw [Hrl.out]; omega)
        have HQm := Lib.hid hQm
        clear e1 e2 hQm
        go_wp2_with fail
        rw [← HQm.out]
        refine (poTrim_c _ _ Q _ hrQ (Nat.le_refl _)).mono ?_
        rintro e w4 ⟨g4, c4, rfl, hc4, hg4, ho4, hx4⟩
        rw [← HQ.out] at hc4 ho4 ⊢
        go_wp2_with fail
        rw [← Hrl.out]
        refine (poTrim_c _ _ r _ (hrR.ex hx4) (by rw [Hrl.out]; exact hcr)).mono ?_
        rintro e w5 ⟨g5, c5, rfl, hc5, hg5, ho5, hx5⟩
        rw [← HR.out] at hc5 ho5 ⊢
        go_wp2
        go_ret2
        have s4 := hek.size
        have s5 := hx4.size
        have l4 := ho4.lt
        have lQ := pDivQ_le p f g
        have lR : (pDivR p f g).length ≤ f.length := by rw [HR.out]; have := trim_le r; rw [Hrl.out] at this; exact this
        exact ⟨_, _, _, _, rfl, ((ho4.ex hx5).fr (by have := Hmf.out; omega) (by omega) hc4), ho5.fr (by omega) (by omega) hc5, apart_ne (by omega), (hek.trans hx4).trans hx5⟩
      | succ k =>
        have hkf : k + gl < f.length := by have := Hmf.out; have := Hgl1.out; omega
        have hkm : k < m := by omega
        obtain ⟨z, hz⟩ : ∃ z, r[k + gl]? = some z := ⟨_, List.getElem?_eq_getElem (by rw [Hrl.out]; exact hkf)⟩
        have hcz := hoR.cell hz
        have hzb := allEl_at Hre.out hz
        have hczf : cf r (k + g.length - 1) = z := by rw [Hgl1.out]; exact cf_of hz
        have hzm := mul_bd (x := z) (y := b) ⟨by omega, by omega⟩ ⟨by omega, by omega⟩
        have hq0 := Int.emod_nonneg (z * b) (show p ≠ 0 by omega)
        have hq1 := Int.emod_lt_of_pos (z * b) (show 0 < p by omega)
        have hcq := hoQ.cell (rep_at k Q)
        have hfq := hoQ.frozen k
        have e1 := Hd1.out
        have e2 := Hd2.out
        rw [divGo, hczf] at e1 e2
        simp only [List.append_assoc, List.singleton_append] at e1 e2
        have hsq := hoQ.set_ k (z * b % p)
        rw [rep_set] at hsq
        have hsr : Own (World.setCell wr ⟨gq, k, none⟩ (.int .i64 (z * b % p))) gr r := hoR.ex1 ((Ex1.refl gq wr).setCell rfl _) hne
        have hes : Ex w (World.setCell wr ⟨gq, k, none⟩ (.int .i64 (z * b % p))) := hek.setCell hgq2 _
        have E1 := Lib.hid e1
        have E2 := Lib.hid e2
        have hgi : (k : Int) + (g.length : Int) - 1 = ((k + gl : Nat) : Int) := by have := Hgl1.out; omega
        clear hz hczf e1 e2
        rw [show (((k + 1 : Nat) : Int) - 1) = (k : Int) by omega]
        go_wp2_with fail
        refine (fdMul_c p z b _ h2 (by omega) (by omega)).mono ?_
        rintro e w5 ⟨rfl, rfl⟩
        generalize hqd : z * b % p = q at *
        have Hqd := Lib.hid hqd
        clear hqd
        go_wp2_with fail
        generalize World.setCell wr ⟨gq, k, none⟩ (.int .i64 q) = W at *
        clear hcq hfq hcz hgi
        go_loopw [61] (fun i wi => ∃ j : Nat, j ≤ g.length ∧ i = .int .i64 j ∧ Own wi gr (addAt p r k (-q) (g.take j)) ∧ Own wi gq (List.replicate k 0 ++ (q :: Q)) ∧ Ex w wi) (fun i _ => g.length - (intOf i).toNat)
        case atStart => exact ⟨0, Nat.zero_le _, rfl, by rw [List.take_zero, addAt_nil]; exact hsr, hsq, hes⟩
        case round =>
          obtain ⟨j, hj, rfl, hoj, hoqj, hej⟩ := hrel
          by_cases hjl : j < g.length
          · obtain ⟨g2, off2, y, hAe, hy, hg2, hcell2⟩ := (hg.ex hej).at_ hjl
            injection hAe with hAe
            injection hAe with ea eb _
            subst ea eb
            have hyb := allEl_at Hge.out hy
            have hkjn : k + j < f.length := by omega
            have hcf : (addAt p r k (-q) (g.take j))[k + j]? = some (cf r (k + j)) := addAt_at (by rw [Hrl.out]; exact hkjn) (by simp; omega)
            have hcx := hoj.cell hcf
            have hfz := hoj.frozen (k + j)
            have hzb := cf_bd Hre.out (by omega) (k + j)
            have hst := addAt_set0 p r k (-q) g j hjl hy rfl
            have hso := hoj.set_ (k + j) ((cf r (k + j) + -q * y) % p)
            have hsQ := hoqj.ex1 ((Ex1.refl gr wr).setCell (p := ⟨gr, k + j, none⟩) rfl (.int .i64 ((cf r (k + j) + -q * y) % p))) hne.symm
            rw [hst] at hso
            have hse := hej.setCell (p := ⟨gr, k + j, none⟩) hgr (.int .i64 ((cf r (k + j) + -q * y) % p))
            generalize cf r (k + j) = z at *
            have hzz : (z - q * y % p) % p = (z + -q * y) % p := by rw [sub_mod, Int.neg_mul, Int.sub_eq_add_neg]
            rw [← hzz] at hso hsQ hse
            have hzz2 : (z - q * y % p) % p = (z - q * y) % p := sub_mod _ _ _
            rw [hzz2] at hso hsQ hse
            have hxy := Int.emod_nonneg (q * y) (show p ≠ 0 by omega)
            have hxy2 := Int.emod_lt_of_pos (q * y) (show 0 < p by omega)
            clear hcf hy hst hzz hzz2
            have w1 : IntKind.i64.wrap ((k : Int) + (j : Int)) = (k : Int) + (j : Int) := IntWalk.i64_in _ (by omega)
            have w2 : (0 : Int) ≤ (k : Int) + (j : Int) := by omega
            have w3 : (k : Int) + (j : Int) < (f.length : Int) := by omega
            have w4 : ((k : Int) + (j : Int)).toNat = k + j := by omega
            go_wp2_with fail
            refine wp_region_still_tail 17 (by kernel_rfl) (by kernel_rfl) ?_
            simp only [List.take_succ_cons, List.take_zero, List.drop_succ_cons, List.drop_zero]
            repeat still_step
            refine wpStill_step (fun K hK => ?_)
            go_simp
            refine ⟨_, same_sym (fdMul_c p q y wr.drew h2 (by omega) (by omega)), hK _ ?_⟩
            clear hK K
            repeat still_step
            refine wpStill_step (fun K hK => ?_)
            go_simp
            refine ⟨_, same_sym (fdSub_c p z (q * y % p) wr.drew h2 h97 (by omega) (by omega)), hK _ ?_⟩
            clear hK K
            repeat still_step
            refine wpStill_nil ?_
            clear w1 w2 w3 w4
            change wpList _ _ _ _ _ wr.drew
            go_wp2_with fail
            go_roundw
            case rel => exact ⟨j + 1, by omega, by go_num, hso, hsQ, hse.drew⟩
            case measure => simp [intOf] <;> omega
          · obtain rfl : j = g.length := by omega
            rw [List.take_length] at hoj
            go_wp2_with fail
            go_roundw
            case rel =>
              refine ⟨k, q :: Q, _, by omega, by go_num, hoqj, hoj, by rw [addAt_len, Hrl.out], addAt_el Hre.out (by omega) _ _ _, ?_, E1.out, E2.out, hej⟩
              rw [List.length_cons, HQl.out]; omega
            case measure => simp [intOf] <;> omega
end Go.Proofs.YtmekhjnhcgmphaaDoor
