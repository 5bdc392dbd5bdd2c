/- The power series of a fraction: plain theory; the contracts of both sides. -/
import Derived.Test.YtpiplogjbeofoaaDoorFrac5
import Derived.Test.YtpiplogjbeofoaaDoorSeries
import Derived.Deep.RegionHeld3
namespace Go.Proofs.YtpiplogjbeofoaaDoor
set_option maxRecDepth 100000
open Go Go.RowKit
/-- The sum behind the coefficient k, of which j terms are done. -/
def sv (num den out : List Int) (k : Nat) : Nat → Int
  | 0 => cf num k
  | j + 1 => sv num den out k j - cf den (j + 1) * cf out (k - (j + 1))
/-- The first coefficients of the series. -/
def serL (p : Int) (num den : List Int) (b : Int) : Nat → List Int
  | 0 => []
  | k + 1 => serL p num den b k ++ [sv num den (serL p num den b k) k k % p * b % p]
theorem serL_len (p : Int) (num den : List Int) (b : Int) (n : Nat) : (serL p num den b n).length = n := by
  induction n with
  | zero => rfl
  | succ n ih => rw [serL, List.length_append, ih]; rfl
theorem serL_el {p : Int} (hp : 0 < p) (num den : List Int) (b : Int) (n : Nat) : allEl p (serL p num den b n) = true := by
  induction n with
  | zero => rfl
  | succ n ih =>
    rw [serL]
    simp only [allEl, List.all_append, List.all_cons, List.all_nil, Bool.and_true, Bool.and_eq_true] at ih ⊢
    refine ⟨ih, ?_⟩
    have h1 := Int.emod_nonneg (sv num den (serL p num den b n) n n % p * b) (show p ≠ 0 by omega)
    have h2 := Int.emod_lt_of_pos (sv num den (serL p num den b n) n n % p * b) hp
    simp [elB]; omega
theorem sv_bd {p : Int} {num den out : List Int} (hn : allEl p num = true) (hd : allEl p den = true) (ho : allEl p out = true) (h2 : 2 ≤ p) (h97 : p ≤ 97) (k j : Nat) : -(9216 * (j : Int)) ≤ sv num den out k j ∧ sv num den out k j ≤ 96 := by
  induction j with
  | zero => have := cf_bd hn (show 0 < p by omega) k; simp [sv]; omega
  | succ j ih =>
    have b1 := cf_bd hd (show 0 < p by omega) (j + 1)
    have b2 := cf_bd ho (show 0 < p by omega) (k - (j + 1))
    have := mul_bd (x := cf den (j + 1)) (y := cf out (k - (j + 1))) ⟨by omega, by omega⟩ ⟨by omega, by omega⟩
    simp only [sv]
    omega
/-- The sum looks at what is done alone. -/
theorem sv_ext (num den : List Int) {out out' : List Int} (k : Nat) (h : ∀ i, i < k → cf out i = cf out' i) : ∀ j, j ≤ k → sv num den out k j = sv num den out' k j
  | 0, _ => rfl
  | j + 1, hj => by rw [sv, sv, sv_ext num den k h j (by omega), h _ (by omega)]
/-- Behind the denominator's end nothing comes. -/
theorem sv_stop (num den out : List Int) (k : Nat) : ∀ (j i : Nat), den.length ≤ j + 1 → sv num den out k (j + i) = sv num den out k j
  | j, 0, _ => rfl
  | j, i + 1, h => by rw [show j + (i + 1) = (j + i) + 1 by omega, sv, cf_ge (by omega), Int.zero_mul, Int.sub_zero, sv_stop num den out k j i h]
theorem sub_mod2 (p a b : Int) : (a % p - b % p) % p = (a - b) % p := (Int.sub_emod a b p).symm
theorem ser_pad (p : Int) (num den : List Int) (b : Int) (n k : Nat) (hk : k < n) : (serL p num den b k ++ List.replicate (n - k) 0).set k (sv num den (serL p num den b k) k k % p * b % p) = serL p num den b (k + 1) ++ List.replicate (n - (k + 1)) 0 := by
  have hl := serL_len p num den b k
  rw [List.set_append_right _ _ (by omega), hl, Nat.sub_self, serL, List.append_assoc]
  congr 1
  obtain ⟨m, hm⟩ : ∃ m, n - k = m + 1 := ⟨n - k - 1, by omega⟩
  rw [hm, show n - (k + 1) = m by omega, List.replicate_succ]
  rfl
theorem pad_at (p : Int) (num den : List Int) (b : Int) (n k i : Nat) (hi : i < k) : (serL p num den b k ++ List.replicate (n - k) (0 : Int))[i]? = some (cf (serL p num den b k) i) := by
  have hl := serL_len p num den b k
  rw [List.getElem?_append_left (by omega), List.getElem?_eq_getElem (by omega), cf, List.getElem?_eq_getElem (by omega)]
  rfl
theorem pad_at0 (p : Int) (num den : List Int) (b : Int) (n k : Nat) (hk : k < n) : (serL p num den b k ++ List.replicate (n - k) (0 : Int))[k]? = some 0 := by
  have hl := serL_len p num den b k
  rw [List.getElem?_append_right (by omega), hl, Nat.sub_self, List.getElem?_replicate, if_pos (by omega)]
/-- What SeriesOf answers. -/
def serR (p : Int) (num den : List Int) (n : Int) : List Int × Bool := if fracB p num den = true ∧ causB den = true ∧ inB 0 60 n = true then (serL p num den (invM p (cf den 0)) n.toNat, true) else ([], false)
theorem getD_cf (xs : List Int) (i : Nat) : xs[i]?.getD 0 = cf xs i := rfl
theorem coefficient_k (A : Option Addr) (c : Nat) (xs : List Int) (e : Int) (k : Nat) (he : e = (k : Int)) (w : World) (h : Rd w A xs) :
    Calls Tryd.prog 164 #[.slice A xs.length c, .int .i64 e] w fun r w' => r = .returned (.int .i64 (cf xs k)) ∧ w = w' := by
  subst he
  exact coefficient_c A c xs k (by omega) w h
set_option maxHeartbeats 4000000 in
theorem series_c (p : Int) (A B : Option Addr) (c d n : Nat) (num den : List Int) (w : World) (hn : Rd w A num) (hd : Rd w B den) (h2 : 2 ≤ p) (h97 : p ≤ 97) (hne : allEl p num = true) (hde : allEl p den = true) (hdp : 0 < den.length) (hn60 : n ≤ 60) :
    Calls Tryd.prog 113 #[.int .i64 p, .agg #[.slice A num.length c, .slice B den.length d], .int .i64 n] w fun e w' =>
      ∃ g, e = .returned (.slice (some ⟨g, 0, none⟩) n n) ∧ w.heap.size ≤ g ∧ Blk w' g (serL p num den (invM p (cf den 0)) n) ∧ Ex w w' := by
  have Hne := Lib.hid hne
  have Hde := Lib.hid hde
  have l1 := hn.len
  have l2 := hd.len
  have x0 := (Ex.refl w).alloc (.cells #[.slice A num.length c, .slice B den.length d] 37)
  have v0 := VB.new w 37 #[.slice A num.length c, .slice B den.length d]
  obtain ⟨gA, goff, x, rfl, hx, hgA, hcell⟩ := hd.at_ hdp
  rw [Nat.add_zero] at hcell
  have hxb := allEl_at hde hx
  have Hcx := Lib.hid (show cf den 0 = x from cf_of hx)
  clear hne hde hx
  go_enter Tryd.func113, Tryd.ntmps113
  go_wp2_with fail
  generalize w.alloc (.cells #[.slice A num.length c, .slice (some ⟨gA, goff, none⟩) den.length d] 37) = W at *
  refine (zeros_c n (by omega) W).mono ?_
  rintro e w1 ⟨g, rfl, hg, hb1, x1⟩
  have xw := x0.trans x1
  have v1 := v0.ex x1
  have vl := v0.lt
  have hgw : w.heap.size < g := by omega
  have q0 := v1.cell 0 (v := .slice A num.length c) rfl
  have q1 := v1.cell 1 (v := .slice (some ⟨gA, goff, none⟩) den.length d) rfl
  have hc1 := cell_ex xw hcell
  clear hcell
  go_wp2_with fail
  refine (inverse_c p x w1 h2 h97 hxb).mono ?_
  rintro e w5 ⟨rfl, rfl⟩
  have hib := invM_bd x h2 (p := p)
  have HB := Lib.hid (show invM p x = invM p (cf den 0) by rw [Hcx.out])
  generalize invM p x = b at *
  clear q0 q1 hc1
  go_wp2_with fail
  go_loopw [22] (fun i wr => ∃ k : Nat, k ≤ n ∧ i = .int .i64 k ∧ Blk wr g (serL p num den b k ++ List.replicate (n - k) 0) ∧ VB wr w.heap.size 37 #[.slice A num.length c, .slice (some ⟨gA, goff, none⟩) den.length d] ∧ Ex w wr) (fun i _ => n - (intOf i).toNat)
  case atStart => exact ⟨0, Nat.zero_le _, rfl, by rw [serL, Nat.sub_zero, List.nil_append]; exact hb1, v1, xw⟩
  case round =>
    obtain ⟨k, hk, rfl, hbk, vk, hek⟩ := hrel
    by_cases hlt : k < n
    · have q0 := vk.cell 0 (v := .slice A num.length c) rfl
      go_wp2_with fail
      refine (coefficient_k A c num _ k rfl _ (hn.ex hek)).mono ?_
      rintro e _ ⟨rfl, rfl⟩
      clear q0
      have HS := Lib.hid (serL_el (p := p) (by omega) num den b k)
      go_wp2_with fail
      go_loopw [10, 11] (fun s i wi => ∃ j : Nat, j ≤ k ∧ s = .int .i64 (sv num den (serL p num den b k) k j) ∧ i = .int .i64 ((j : Int) + 1) ∧ Blk wi g (serL p num den b k ++ List.replicate (n - k) 0) ∧ VB wi w.heap.size 37 #[.slice A num.length c, .slice (some ⟨gA, goff, none⟩) den.length d] ∧ Ex w wi) (fun _ i _ => k + 1 - (intOf i).toNat)
      case atStart => exact ⟨0, Nat.zero_le _, rfl, rfl, hbk, vk, hek⟩
      case round =>
        obtain ⟨j, hj, rfl, rfl, hbj, vj, hej⟩ := hrel
        have Hsv := Lib.hid (sv_bd Hne.out Hde.out HS.out h2 h97 k j)
        by_cases hjk : j < k
        · have q1 := vj.cell 1 (v := .slice (some ⟨gA, goff, none⟩) den.length d) rfl
          have q2 := hbj.cell (pad_at p num den b n k (k - (j + 1)) (by omega))
          have b1 := cf_bd Hde.out (show 0 < p by omega) (j + 1)
          have b2 := cf_bd HS.out (show 0 < p by omega) (k - (j + 1))
          have hm := mul_bd (x := cf den (j + 1)) (y := cf (serL p num den b k) (k - (j + 1))) ⟨by omega, by omega⟩ ⟨by omega, by omega⟩
          have hsv := Hsv.out
          have e1 : IntKind.i64.wrap ((k : Int) - ((j : Int) + 1)) = ((k - (j + 1) : Nat) : Int) := by rw [IntWalk.i64_in _ (by omega)]; omega
          have e2 : IntKind.i64.wrap (cf den (j + 1) * cf (serL p num den b k) (k - (j + 1))) = cf den (j + 1) * cf (serL p num den b k) (k - (j + 1)) := IntWalk.i64_in _ (by omega)
          have e3 : IntKind.i64.wrap (sv num den (serL p num den b k) k j - cf den (j + 1) * cf (serL p num den b k) (k - (j + 1))) = sv num den (serL p num den b k) k (j + 1) := by rw [IntWalk.i64_in _ (by omega)]; rfl
          have i1 : (0 : Int) ≤ ((k - (j + 1) : Nat) : Int) := by omega
          have i2 : ((k - (j + 1) : Nat) : Int) < (n : Int) := by omega
          have i3 : k - (j + 1) < n := by omega
          clear hsv
          go_wp2_with fail
          go_region_held3 (fun W => W.cell? ⟨w.heap.size, 1, none⟩ = some (.slice (some ⟨gA, goff, none⟩) den.length d) ∧ W.cell? ⟨g, k - (j + 1), none⟩ = some (.int .i64 (cf (serL p num den b k) (k - (j + 1))))) (first | exact ⟨q1, q2⟩)
            (first | (go_at_call 164; refine (coefficient_k _ d den _ (j + 1) (by omega) _ ((hd.ex hej).drew)).mono ?_; rintro e _ ⟨rfl, rfl⟩))
          go_wp2_with fail
          go_roundw
          case rel => exact ⟨j + 1, by omega, rfl, by go_num, hbj.drew, vj, hej.drew⟩
          case measure => simp [intOf]; omega
        · obtain rfl : j = k := by omega
          have hsv := Hsv.out
          have hset := hbj.set_ j (sv num den (serL p num den b j) j j % p * b % p)
          rw [ser_pad p num den b n j hlt] at hset
          have hc := hbj.cell (pad_at0 p num den b n j hlt)
          have hfz := hbj.frozen j
          have m0 := Int.emod_nonneg (sv num den (serL p num den b j) j j) (show p ≠ 0 by omega)
          have m1 := Int.emod_lt_of_pos (sv num den (serL p num den b j) j j) (show 0 < p by omega)
          have hm := mul_bd (x := sv num den (serL p num den b j) j j % p) (y := b) ⟨by omega, by omega⟩ ⟨by omega, by omega⟩
          go_wp2_with fail
          refine (mod_c p _ _ h2 h97).mono ?_
          rintro e _ ⟨rfl, rfl⟩
          go_wp2_with fail
          refine (mod_c p _ _ h2 h97).mono ?_
          rintro e _ ⟨rfl, rfl⟩
          go_wp2_with fail
          go_roundw
          case rel => exact ⟨j + 1, by omega, by go_num, hset, vj.ex1 ((Ex1.refl g _).setCell rfl _) (by omega), hej.setCell (p := ⟨g, j, none⟩) (show w.heap.size ≤ g by omega) _⟩
          case measure => simp [intOf]; omega
    · obtain rfl : k = n := by omega
      go_wp2
      go_ret
      rw [← HB.out]
      exact ⟨g, rfl, by omega, by simpa using hbk, hek⟩
end Go.Proofs.YtpiplogjbeofoaaDoor
