/- Convolution of series: the contracts of both sides. -/
import Derived.Test.YtjkomgoncmbgiaaDoorField
import Derived.StillTailTactics
import Derived.BigRegion
namespace Go.Proofs.YtjkomgoncmbgiaaDoor
open Go Go.RowKit

/-- The sum of a[i] b[k - i] for i below j. -/
def cv (a b : List Int) (k : Nat) : Nat → Int
  | 0 => 0
  | j + 1 => cv a b k j + a[j]?.getD 0 * b[k - j]?.getD 0
theorem cv_bd {p : Int} {a b : List Int} (ha : allEl p a = true) (hb : allEl p b = true) (hp : p ≤ 97) (k j : Nat) : 0 ≤ cv a b k j ∧ cv a b k j ≤ 9216 * j := by
  induction j with
  | zero => simp [cv]
  | succ j ih =>
    have := mul_bd (allEl_bd ha hp j) (allEl_bd hb hp (k - j))
    simp only [cv]
    omega
/-- The convolution's first n coefficients, of which k are done. -/
def cvTo (p : Int) (a b : List Int) (n k : Nat) : List Int := (List.range n).map fun j => if j < k then cv a b j (j + 1) % p else 0
def cvL (p : Int) (a b : List Int) (n : Nat) : List Int := (List.range n).map fun j => cv a b j (j + 1) % p
theorem cvTo_len (p : Int) (a b : List Int) (n k : Nat) : (cvTo p a b n k).length = n := by simp [cvTo]
theorem cvTo_zero (p : Int) (a b : List Int) (n : Nat) : cvTo p a b n 0 = List.replicate n 0 := by
  apply List.ext_getElem?; intro i; simp [cvTo, List.getElem?_replicate]; grind
theorem cvTo_all (p : Int) (a b : List Int) (n : Nat) : cvTo p a b n n = cvL p a b n := by
  apply List.ext_getElem?; intro i; simp [cvTo, cvL]; grind
theorem cvTo_at (p : Int) (a b : List Int) (n k : Nat) (h : k < n) : (cvTo p a b n k)[k]? = some 0 := by simp [cvTo, h]
theorem cvTo_step (p : Int) (a b : List Int) (n k : Nat) : (cvTo p a b n k).set k (cv a b k (k + 1) % p) = cvTo p a b n (k + 1) := by
  apply List.ext_getElem?; intro i; simp only [cvTo, List.getElem?_set, List.getElem?_map, List.length_map, List.length_range]; grind
set_option maxHeartbeats 1000000 in
set_option maxRecDepth 100000 in
theorem convolve_c (p : Int) (A B : Option Addr) (c d : Nat) (a b : List Int) (n : Nat) (w : World) (ha : Rd w A a) (hb : Rd w B b)
    (h2 : 2 ≤ p) (h97 : p ≤ 97) (hea : allEl p a = true) (heb : allEl p b = true) (hn : n ≤ 60) :
    Calls Tryd.prog 34 #[.int .i64 p, .slice A a.length c, .slice B b.length d, .int .i64 n] w fun e w' =>
      ∃ g, e = .returned (.slice (some ⟨g, 0, none⟩) n n) ∧ w.heap.size ≤ g ∧ Blk w' g (cvL p a b n) ∧ Ex w w' := by
  have Hea := Lib.hid hea
  have Heb := Lib.hid heb
  clear hea heb
  go_enter Tryd.func34, Tryd.ntmps34
  go_wp2_with fail
  refine (zeros_c n (by omega) _).mono ?_
  rintro e w1 ⟨g, rfl, hg, hb1, he1⟩
  go_wp2
  go_loopw [16] (fun i wr => ∃ k : Nat, k ≤ n ∧ i = .int .i64 k ∧ Blk wr g (cvTo p a b n k) ∧ Ex w wr) (fun i _ => n - (intOf i).toNat)
  case atStart => exact ⟨0, Nat.zero_le _, rfl, by rw [cvTo_zero]; exact hb1, he1⟩
  case round =>
    obtain ⟨k, hk, rfl, hbk, hek⟩ := hrel
    by_cases hlt : k < n
    · go_wp2
      go_loopw [11] (fun i wi => ∃ j : Nat, j ≤ k + 1 ∧ i = .int .i64 j ∧ Blk wi g ((cvTo p a b n k).set k (cv a b k j)) ∧ Ex w wi) (fun i _ => k + 1 - (intOf i).toNat)
      case atStart => exact ⟨0, Nat.zero_le _, rfl, by rw [cv, set_same _ _ _ (cvTo_at p a b n k hlt)]; exact hbk, hek⟩
      case round =>
        obtain ⟨j, hj, rfl, hbj, hej⟩ := hrel
        have hcv := cv_bd Hea.out Heb.out h97 k j
        have hle : ((cvTo p a b n k).set k (cv a b k j))[k]? = some (cv a b k j) := List.getElem?_set_self (by rw [cvTo_len]; exact hlt)
        have hcell := hbj.cell hle
        have hfz := hbj.frozen k
        clear hle
        by_cases hjk : j ≤ k
        · have hab := mul_bd (allEl_bd Hea.out h97 j) (allEl_bd Heb.out h97 (k - j))
          have hbn := hbj.set_ k (cv a b k j + a[j]?.getD 0 * b[k - j]?.getD 0)
          rw [List.set_set] at hbn
          have ha' := ha.ex hej
          have hb' := hb.ex hej
          have w1 : IntKind.i64.wrap ((k : Int) - (j : Int)) = ((k - j : Nat) : Int) := by rw [IntWalk.i64_in _ (by omega)]; omega
          have w2 : IntKind.i64.wrap (a[j]?.getD 0 * b[k - j]?.getD 0) = a[j]?.getD 0 * b[k - j]?.getD 0 := IntWalk.i64_in _ (by omega)
          have w3 : IntKind.i64.wrap (cv a b k j + a[j]?.getD 0 * b[k - j]?.getD 0) = cv a b k j + a[j]?.getD 0 * b[k - j]?.getD 0 := IntWalk.i64_in _ (by omega)
          go_wp2
          refine wp_region_still_tail 15 (by kernel_rfl) (by kernel_rfl) ?_
          simp only [List.take_succ_cons, List.take_zero, List.drop_succ_cons, List.drop_zero]
          repeat still_step
          refine wpStill_step (fun K hK => ?_)
          go_simp
          refine ⟨_, same_sym (coefficient_c A c a _ (by omega) wr.drew ha'), hK _ ?_⟩
          clear hK K
          repeat still_step
          refine wpStill_step (fun K hK => ?_)
          go_simp
          refine ⟨_, same_sym (coefficient_c B d b _ (by omega) wr.drew hb'), hK _ ?_⟩
          clear hK K
          repeat still_step
          refine wpStill_nil ?_
          clear w1 w2 w3
          change wpList _ _ _ _ _ wr.drew
          go_wp2
          go_roundw
          case rel => exact ⟨j + 1, by omega, by go_num, by rw [cv]; exact hbn, (hej.drew).setCell hg _⟩
          case measure => simp [intOf]; omega
        · obtain rfl : j = k + 1 := by omega
          have hcv2 : (cv a b k (k + 1)) % p = (cv a b k (k + 1)) % p := rfl
          have hbn := hbj.set_ k (cv a b k (k + 1) % p)
          rw [List.set_set, cvTo_step] at hbn
          clear hcv2
          go_wp2
          go_roundw
          case rel => exact ⟨k + 1, by omega, by go_num, hbn, hej.setCell hg _⟩
          case measure => simp [intOf]; omega
    · obtain rfl : k = n := by omega
      go_wp2
      go_ret
      exact ⟨g, rfl, hg, by rw [← cvTo_all]; exact hbk, hek⟩
/-- What ConvolveSeries answers. -/
def convF (p : Int) (a b : List Int) : List Int × Bool := if serB p a && serB p b then (cvL p a b (min a.length b.length), true) else ([], false)
theorem convF_yes {p : Int} {a b : List Int} (ha : serB p a = true) (hb : serB p b = true) : convF p a b = (cvL p a b (min a.length b.length), true) := by simp [convF, ha, hb]
theorem convF_no1 {p : Int} {a b : List Int} (ha : serB p a = false) : convF p a b = ([], false) := by simp [convF, ha]
theorem convF_no2 {p : Int} {a b : List Int} (hb : serB p b = false) : convF p a b = ([], false) := by simp [convF, hb]
theorem serB_parts {p : Int} {a : List Int} (h : serB p a = true) : fieldB p = true ∧ a.length ≤ 60 ∧ allEl p a = true := by
  simp only [serB, Bool.and_eq_true, decide_eq_true_eq] at h; exact ⟨h.1.1, h.1.2, h.2⟩
theorem cvL_len (p : Int) (a b : List Int) (n : Nat) : (cvL p a b n).length = n := by simp [cvL]
/-- A fresh list of ints and a Bool. -/
def LB (w : World) (r : List Int × Bool) (e : Ending) (w' : World) : Prop :=
  ∃ A c, e = .returned (.tuple #[.slice A r.1.length c, .bool r.2]) ∧ Fr w' w.heap.size A c r.1 ∧ Ex w w'
theorem LB.mk_ {w w' : World} {r : List Int × Bool} {A : Option Addr} {c n : Nat} {b : Bool} {e : Ending} (he : e = .returned (.tuple #[.slice A n c, .bool b])) (hn : n = r.1.length) (hb : b = r.2) (hf : Fr w' w.heap.size A c r.1) (hx : Ex w w') : LB w r e w' := by
  subst hn hb he
  exact ⟨A, c, rfl, hf, hx⟩
theorem LB.nil_ {w w' : World} {r : List Int × Bool} {e : Ending} (he : e = .returned (.tuple #[.slice none 0 0, .bool false])) (hr : r = ([], false)) (hx : Ex w w') : LB w r e w' := by
  subst hr
  exact LB.mk_ he rfl rfl (Fr.nil _ _ _) hx
set_option maxHeartbeats 1000000 in
theorem ConvolveSeries_c (p : Int) (A B : Option Addr) (c d : Nat) (a b : List Int) (w : World) (ha : Rd w A a) (hb : Rd w B b) (ht : Tb w) :
    Calls Tryd.prog 11 #[.int .i64 p, .slice A a.length c, .slice B b.length d] w fun e w' => LB w (convF p a b) e w' := by
  cases hsa : serB p a with
  | false =>
    have H := Lib.hid (convF_no1 (b := b) hsa)
    go_enter Tryd.func11, Tryd.ntmps11
    go_wp2_with (go_at_call 33; refine (isSeries_c _ _ _ _ _ ha ht).mono ?_; rintro e w' ⟨rfl, rfl⟩)
    go_ret2
    exact LB.nil_ rfl H.out (Ex.refl w)
  | true =>
    cases hsb : serB p b with
    | false =>
      have H := Lib.hid (convF_no2 (a := a) hsb)
      go_enter Tryd.func11, Tryd.ntmps11
      go_wp2_with (go_at_call 33; refine (isSeries_c _ _ _ _ _ (by assumption) ht).mono ?_; rintro e w' ⟨rfl, rfl⟩)
      go_ret2
      exact LB.nil_ rfl H.out (Ex.refl w)
    | true =>
      have H := Lib.hid (convF_yes hsa hsb)
      obtain ⟨hf, hla, hea⟩ := serB_parts hsa
      obtain ⟨_, hlb, heb⟩ := serB_parts hsb
      have h2 := fieldB_lo hf
      have h97 := fieldB_hi hf
      have Hf := Lib.hid hf
      have Hea := Lib.hid hea
      have Heb := Lib.hid heb
      clear hf hea heb
      go_enter Tryd.func11, Tryd.ntmps11
      go_wp2_with (go_at_call 33; refine (isSeries_c _ _ _ _ _ (by assumption) ht).mono ?_; rintro e w' ⟨rfl, rfl⟩)
      all_goals
        refine (convolve_c p A B c d a b _ _ ha hb h2 h97 Hea.out Heb.out (by omega)).mono ?_
        rintro e w' ⟨g, rfl, hg, hbk, hx⟩
        go_wp2
        go_ret2
        refine LB.mk_ rfl ?_ (by rw [H.out]) ?_ hx
        · simp only [H.out, cvL_len]; omega
        · rw [H.out]
          have e : min a.length b.length = a.length ∨ min a.length b.length = b.length := by omega
          have hm : ∀ n, n = min a.length b.length → Blk w' g (cvL p a b n) → Fr w' w.heap.size (some ⟨g, 0, none⟩) n (cvL p a b (min a.length b.length)) := by
            rintro n rfl hq
            exact hq.fr (by rw [cvL_len]; omega) hg (by rw [cvL_len]; omega)
          exact hm _ (by omega) hbk
/-- The convolution modulo p on the way. -/
def cwTo (p : Int) (a b : List Int) (n k j : Nat) : List Int := (cvTo p a b n k).set k (cv a b k j % p)
theorem cv_mod (p : Int) (a b : List Int) (k j : Nat) : (cv a b k j % p + a[j]?.getD 0 * b[k - j]?.getD 0) % p = cv a b k (j + 1) % p := by
  rw [cv, Int.emod_add_emod]
set_option maxHeartbeats 1000000 in
set_option maxRecDepth 100000 in
theorem spConvolveSeries_c (p : Int) (A B : Option Addr) (c d : Nat) (a b : List Int) (w : World) (ha : Rd w A a) (hb : Rd w B b) :
    Calls Tryd.prog 9 #[.int .i64 p, .slice A a.length c, .slice B b.length d] w fun e w' => LB w (convF p a b) e w' := by
  cases hsa : serB p a with
  | false =>
    have H := Lib.hid (convF_no1 (b := b) hsa)
    go_enter Tryd.func9, Tryd.ntmps9
    go_wp2_with (go_at_call 31; refine (frList_c _ _ _ _ _ ha).mono ?_; rintro e w' ⟨rfl, rfl⟩)
    go_ret2
    exact LB.nil_ rfl H.out (Ex.refl w)
  | true =>
    cases hsb : serB p b with
    | false =>
      have H := Lib.hid (convF_no2 (a := a) hsb)
      go_enter Tryd.func9, Tryd.ntmps9
      go_wp2_with (go_at_call 31; refine (frList_c _ _ _ _ _ (by assumption)).mono ?_; rintro e w' ⟨rfl, rfl⟩)
      go_ret2
      exact LB.nil_ rfl H.out (Ex.refl w)
    | true =>
      have H := Lib.hid (convF_yes hsa hsb)
      obtain ⟨hf, hla, hea⟩ := serB_parts hsa
      obtain ⟨_, hlb, heb⟩ := serB_parts hsb
      have h2 := fieldB_lo hf
      have h97 := fieldB_hi hf
      have Hf := Lib.hid hf
      have Hea := Lib.hid hea
      have Heb := Lib.hid heb
      clear hf hea heb
      obtain ⟨n, hn⟩ : ∃ n : Nat, n = min a.length b.length := ⟨_, rfl⟩
      have hni : min (a.length : Int) (b.length : Int) = (n : Int) := by omega
      have hn60 : n ≤ 60 := by omega
      have hna : n ≤ a.length := by omega
      have hnb : n ≤ b.length := by omega
      have Hn := Lib.hid hn
      clear hn
      have hmk := fun W => run_make_ints n (by omega) W
      have hb0 := Blk.new w (List.replicate n 0)
      go_enter Tryd.func9, Tryd.ntmps9
      go_wp2_with (first | (go_at_call 31; refine (frList_c _ _ _ _ _ (by assumption)).mono ?_; rintro e w' ⟨rfl, rfl⟩) | (go_at_call 32; refine (l1Least_c _ _ _).mono ?_; rintro e w' ⟨rfl, rfl⟩))
      clear hsa hsb hni hmk
      go_loopw [29] (fun i wr => ∃ k : Nat, k ≤ n ∧ i = .int .i64 k ∧ Blk wr w.heap.size (cvTo p a b n k) ∧ Ex w wr) (fun i _ => n - (intOf i).toNat)
      case atStart => exact ⟨0, Nat.zero_le _, rfl, by rw [cvTo_zero]; exact hb0, (Ex.refl w).alloc _⟩
      case round =>
        obtain ⟨k, hk, rfl, hbk, hek⟩ := hrel
        by_cases hlt : k < n
        · go_wp2
          go_loopw [10] (fun i wi => ∃ j : Nat, j ≤ k + 1 ∧ i = .int .i64 j ∧ Blk wi w.heap.size (cwTo p a b n k j) ∧ Ex w wi) (fun i _ => k + 1 - (intOf i).toNat)
          case atStart => exact ⟨0, Nat.zero_le _, rfl, by rw [cwTo, cv, Int.zero_emod, set_same _ _ _ (cvTo_at p a b n k hlt)]; exact hbk, hek⟩
          case round =>
            obtain ⟨j, hj, rfl, hbj, hej⟩ := hrel
            by_cases hjk : j ≤ k
            · have hle : (cwTo p a b n k j)[k]? = some (cv a b k j % p) := List.getElem?_set_self (by rw [cvTo_len]; exact hlt)
              have hcell := hbj.cell hle
              have hfz := hbj.frozen k
              obtain ⟨ga, oa, x, rfl, hx, hga, hcx⟩ := (ha.ex hej).at_ (by omega : j < a.length)
              obtain ⟨gb, ob, y, rfl, hy, hgb, hcy⟩ := (hb.ex hej).at_ (by omega : k - j < b.length)
              have hax := allEl_bd Hea.out h97 j
              have hby := allEl_bd Heb.out h97 (k - j)
              have hst := cv_mod p a b k j
              rw [hx] at hax hst
              rw [hy] at hby hst
              simp only [Option.getD_some] at hax hby hst
              have hab := mul_bd hax hby
              have hbn := hbj.set_ k ((cv a b k j % p + x * y) % p)
              rw [cwTo, List.set_set, hst] at hbn
              have hm0 := Int.emod_nonneg (cv a b k j) (show p ≠ 0 by omega)
              have hm1 := Int.emod_lt_of_pos (cv a b k j) (show 0 < p by omega)
              obtain ⟨z, hz⟩ : ∃ z, z = cv a b k j % p := ⟨_, rfl⟩
              rw [← hz] at hcell hm0 hm1 hst
              have Hst := Lib.hid hst
              clear hle hx hy hst hz
              have w1 : IntKind.i64.wrap ((k : Int) - (j : Int)) = ((k - j : Nat) : Int) := by rw [IntWalk.i64_in _ (by omega)]; omega
              have w2 : IntKind.i64.wrap (x * y) = x * y := IntWalk.i64_in _ (by omega)
              have w3 : IntKind.i64.wrap (z + x * y) = z + x * y := IntWalk.i64_in _ (by omega)
              have w4 : (z + x * y).tmod p = (z + x * y) % p := Int.tmod_eq_emod_of_nonneg (by omega)
              have hp0 : ¬ p = 0 := by omega
              have hja : j < a.length := by omega
              have hjb : k - j < b.length := by omega
              go_wp2
              refine wp_region_still_tail 21 (by kernel_rfl) (by kernel_rfl) ?_
              simp only [List.take_succ_cons, List.take_zero, List.drop_succ_cons, List.drop_zero]
              repeat still_step
              refine wpStill_nil ?_
              clear w1 w2 w3 w4 hp0
              change wpList _ _ _ _ _ wr.drew
              go_wp2
              go_roundw
              case rel => exact ⟨j + 1, by omega, by go_num, by rw [Hst.out]; exact hbn, (hej.setCell (Nat.le_refl _) _).drew⟩
              case measure => simp [intOf]; omega
            · obtain rfl : j = k + 1 := by omega
              rw [cwTo, cvTo_step] at hbj
              go_wp2
              go_roundw
              case rel => exact ⟨k + 1, by omega, by go_num, hbj, hej⟩
              case measure => simp [intOf]; omega
        · obtain rfl : k = n := by omega
          go_wp2
          go_ret2
          refine LB.mk_ rfl ?_ (by rw [H.out]) ?_ hek
          · rw [H.out, cvL_len, Hn.out]
          · rw [H.out, ← Hn.out]
            rw [cvTo_all] at hbk
            exact hbk.fr (by rw [cvL_len]; omega) (Nat.le_refl _) (by rw [cvL_len]; omega)
end Go.Proofs.YtjkomgoncmbgiaaDoor
