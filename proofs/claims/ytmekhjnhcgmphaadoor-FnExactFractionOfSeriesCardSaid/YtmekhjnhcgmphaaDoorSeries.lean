/- Convolution of series: the contracts of both sides. -/
import Derived.Test.YtmekhjnhcgmphaaDoorField
import Derived.StillTailTactics
import Derived.BigRegion
namespace Go.Proofs.YtmekhjnhcgmphaaDoor
set_option maxRecDepth 100000
open Go Go.RowKit

/-- The sum of a[i] b[k - i] for i below j. -/
def cv (a b : List Int) (k : Nat) : Nat → Int
  | 0 => 0
  | j + 1 => cv a b k j + a[j]?.getD 0 * b[k - j]?.getD 0
theorem cv_bd {p : Int} {a b : List Int} (ha : allEl p a = true) (hb : allEl p b = true) (hp : p ≤ 97) (k j : Nat) : 0 ≤ cv a b k j ∧ cv a b k j ≤ 9216 * j := by
  induction j with
  | zero => simp [cv]
  | succ j ih =>
    have := mul_bd (allEl_bd ha hp j) (allEl_bd hb hp (k - j))
    simp only [cv]
    omega
/-- The convolution's first n coefficients, of which k are done. -/
def cvTo (p : Int) (a b : List Int) (n k : Nat) : List Int := (List.range n).map fun j => if j < k then cv a b j (j + 1) % p else 0
def cvL (p : Int) (a b : List Int) (n : Nat) : List Int := (List.range n).map fun j => cv a b j (j + 1) % p
theorem cvTo_len (p : Int) (a b : List Int) (n k : Nat) : (cvTo p a b n k).length = n := by simp [cvTo]
theorem cvTo_zero (p : Int) (a b : List Int) (n : Nat) : cvTo p a b n 0 = List.replicate n 0 := by
  apply List.ext_getElem?; intro i; simp [cvTo, List.getElem?_replicate]; grind
theorem cvTo_all (p : Int) (a b : List Int) (n : Nat) : cvTo p a b n n = cvL p a b n := by
  apply List.ext_getElem?; intro i; simp [cvTo, cvL]; grind
theorem cvTo_at (p : Int) (a b : List Int) (n k : Nat) (h : k < n) : (cvTo p a b n k)[k]? = some 0 := by simp [cvTo, h]
theorem cvTo_step (p : Int) (a b : List Int) (n k : Nat) : (cvTo p a b n k).set k (cv a b k (k + 1) % p) = cvTo p a b n (k + 1) := by
  apply List.ext_getElem?; intro i; simp only [cvTo, List.getElem?_set, List.getElem?_map, List.length_map, List.length_range]; grind
set_option maxHeartbeats 1000000 in
set_option maxRecDepth 100000 in
theorem convolve_c (p : Int) (A B : Option Addr) (c d : Nat) (a b : List Int) (n : Nat) (w : World) (ha : Rd w A a) (hb : Rd w B b)
    (h2 : 2 ≤ p) (h97 : p ≤ 97) (hea : allEl p a = true) (heb : allEl p b = true) (hn : n ≤ 60) :
    Calls Tryd.prog 40 #[.int .i64 p, .slice A a.length c, .slice B b.length d, .int .i64 n] w fun e w' =>
      ∃ g, e = .returned (.slice (some ⟨g, 0, none⟩) n n) ∧ w.heap.size ≤ g ∧ Blk w' g (cvL p a b n) ∧ Ex w w' := by
  have Hea := Lib.hid hea
  have Heb := Lib.hid heb
  clear hea heb
  go_enter Tryd.func40, Tryd.ntmps40
  go_wp2_with fail
  refine (zeros_c n (by omega) _).mono ?_
  rintro e w1 ⟨g, rfl, hg, hb1, he1⟩
  go_wp2
  go_loopw [16] (fun i wr => ∃ k : Nat, k ≤ n ∧ i = .int .i64 k ∧ Blk wr g (cvTo p a b n k) ∧ Ex w wr) (fun i _ => n - (intOf i).toNat)
  case atStart => exact ⟨0, Nat.zero_le _, rfl, by rw [cvTo_zero]; exact hb1, he1⟩
  case round =>
    obtain ⟨k, hk, rfl, hbk, hek⟩ := hrel
    by_cases hlt : k < n
    · go_wp2
      go_loopw [11] (fun i wi => ∃ j : Nat, j ≤ k + 1 ∧ i = .int .i64 j ∧ Blk wi g ((cvTo p a b n k).set k (cv a b k j)) ∧ Ex w wi) (fun i _ => k + 1 - (intOf i).toNat)
      case atStart => exact ⟨0, Nat.zero_le _, rfl, by rw [cv, set_same _ _ _ (cvTo_at p a b n k hlt)]; exact hbk, hek⟩
      case round =>
        obtain ⟨j, hj, rfl, hbj, hej⟩ := hrel
        have hcv := cv_bd Hea.out Heb.out h97 k j
        have hle : ((cvTo p a b n k).set k (cv a b k j))[k]? = some (cv a b k j) := List.getElem?_set_self (by rw [cvTo_len]; exact hlt)
        have hcell := hbj.cell hle
        have hfz := hbj.frozen k
        clear hle
        by_cases hjk : j ≤ k
        · have hab := mul_bd (allEl_bd Hea.out h97 j) (allEl_bd Heb.out h97 (k - j))
          have hbn := hbj.set_ k (cv a b k j + a[j]?.getD 0 * b[k - j]?.getD 0)
          rw [List.set_set] at hbn
          have ha' := ha.ex hej
          have hb' := hb.ex hej
          have w1 : IntKind.i64.wrap ((k : Int) - (j : Int)) = ((k - j : Nat) : Int) := by rw [IntWalk.i64_in _ (by omega)]; omega
          have w2 : IntKind.i64.wrap (a[j]?.getD 0 * b[k - j]?.getD 0) = a[j]?.getD 0 * b[k - j]?.getD 0 := IntWalk.i64_in _ (by omega)
          have w3 : IntKind.i64.wrap (cv a b k j + a[j]?.getD 0 * b[k - j]?.getD 0) = cv a b k j + a[j]?.getD 0 * b[k - j]?.getD 0 := IntWalk.i64_in _ (by omega)
          go_wp2
          refine wp_region_still_tail 15 (by kernel_rfl) (by kernel_rfl) ?_
          simp only [List.take_succ_cons, List.take_zero, List.drop_succ_cons, List.drop_zero]
          repeat still_step
          refine wpStill_step (fun K hK => ?_)
          go_simp
          refine ⟨_, same_sym (coefficient_c A c a _ (by omega) wr.drew ha'), hK _ ?_⟩
          clear hK K
          repeat still_step
          refine wpStill_step (fun K hK => ?_)
          go_simp
          refine ⟨_, same_sym (coefficient_c B d b _ (by omega) wr.drew hb'), hK _ ?_⟩
          clear hK K
          repeat still_step
          refine wpStill_nil ?_
          clear w1 w2 w3
          change wpList _ _ _ _ _ wr.drew
          go_wp2
          go_roundw
          case rel => exact ⟨j + 1, by omega, by go_num, by rw [cv]; exact hbn, (hej.drew).setCell hg _⟩
          case measure => simp [intOf]; omega
        · obtain rfl : j = k + 1 := by omega
          have hcv2 : (cv a b k (k + 1)) % p = (cv a b k (k + 1)) % p := rfl
          have hbn := hbj.set_ k (cv a b k (k + 1) % p)
          rw [List.set_set, cvTo_step] at hbn
          clear hcv2
          go_wp2
          go_roundw
          case rel => exact ⟨k + 1, by omega, by go_num, hbn, hej.setCell hg _⟩
          case measure => simp [intOf]; omega
    · obtain rfl : k = n := by omega
      go_wp2
      go_ret
      exact ⟨g, rfl, hg, by rw [← cvTo_all]; exact hbk, hek⟩
theorem cvL_len (p : Int) (a b : List Int) (n : Nat) : (cvL p a b n).length = n := by simp [cvL]
/-- A fresh list of ints and a Bool. -/
def LB (w : World) (r : List Int × Bool) (e : Ending) (w' : World) : Prop :=
  ∃ A c, e = .returned (.tuple #[.slice A r.1.length c, .bool r.2]) ∧ Fr w' w.heap.size A c r.1 ∧ Ex w w'
theorem LB.mk_ {w w' : World} {r : List Int × Bool} {A : Option Addr} {c n : Nat} {b : Bool} {e : Ending} (he : e = .returned (.tuple #[.slice A n c, .bool b])) (hn : n = r.1.length) (hb : b = r.2) (hf : Fr w' w.heap.size A c r.1) (hx : Ex w w') : LB w r e w' := by
  subst hn hb he
  exact ⟨A, c, rfl, hf, hx⟩
theorem LB.nil_ {w w' : World} {r : List Int × Bool} {e : Ending} (he : e = .returned (.tuple #[.slice none 0 0, .bool false])) (hr : r = ([], false)) (hx : Ex w w') : LB w r e w' := by
  subst hr
  exact LB.mk_ he rfl rfl (Fr.nil _ _ _) hx
end Go.Proofs.YtmekhjnhcgmphaaDoor
