/- Combinations of rows, on both sides. -/
import Derived.Test.YtkpfmnconnopnaaDoorMat
import Derived.Test.YtkpfmnconnopnaaDoorPoly3
import Derived.Test.YtkpfmnconnopnaaDoorSpace
import Derived.Test.YtkpfmnconnopnaaDoorSer3
namespace Go.Proofs.YtkpfmnconnopnaaDoor
set_option maxRecDepth 100000
open Go Go.RowKit
/-- The combination of rows with coefficients x, k rows being done. -/
def cmbTo (p : Int) (n : Nat) (x : List Int) (rows : List (List Int)) : Nat → List Int
  | 0 => List.replicate n 0
  | k + 1 => addAt p (cmbTo p n x rows k) 0 (cf x k) (rows[k]?.getD [])
def cmb (p : Int) (n : Nat) (x : List Int) (rows : List (List Int)) : List Int := cmbTo p n x rows rows.length
theorem cmbTo_len (p : Int) (n : Nat) (x : List Int) (rows : List (List Int)) (k : Nat) : (cmbTo p n x rows k).length = n := by
  induction k with
  | zero => simp [cmbTo]
  | succ k ih => rw [cmbTo, addAt_len, ih]
theorem cmbTo_el {p : Int} (hp : 0 < p) (n : Nat) (x : List Int) (rows : List (List Int)) (k : Nat) : allEl p (cmbTo p n x rows k) = true := by
  induction k with
  | zero => exact rep_el hp n
  | succ k ih => rw [cmbTo]; exact addAt_el ih hp _ _ _
theorem rowsB_at {p n : Int} {m : List (List Int)} (h : rowsB p n m = true) {k : Nat} {r : List Int} (hr : m[k]? = some r) : (r.length : Int) = n ∧ allEl p r = true := by
  have := List.all_eq_true.1 h r (List.mem_of_getElem? hr)
  simpa using this
set_option maxHeartbeats 2000000 in
theorem combine_c (p : Int) (A B : Option Addr) (c d n : Nat) (x : List Int) (rows : List (List Int)) (w : World) (hx : Rd w A x) (hm : RdM w B rows) (h2 : 2 ≤ p) (h97 : p ≤ 97) (hxe : allEl p x = true) (hxl : x.length = rows.length) (hr : rowsB p n rows = true) (hn : n ≤ 1000) :
    Calls Tryd.prog 52 #[.int .i64 p, .slice A x.length c, .slice B rows.length d, .int .i64 n] w fun e w' =>
      ∃ g, e = .returned (.slice (some ⟨g, 0, none⟩) n n) ∧ w.heap.size ≤ g ∧ Own w' g (cmb p n x rows) ∧ Ex w w' := by
  have hl := hm.1
  have Hxe := Lib.hid hxe
  have Hxl := Lib.hid hxl
  have Hr := Lib.hid hr
  clear hxe hxl hr
  go_enter Tryd.func52, Tryd.ntmps52
  go_wp2_with fail
  refine (zeros_c n (by omega) w).mono ?_
  rintro e w1 ⟨g, rfl, hg, hb1, x1⟩
  have o1 := hb1.own
  clear hb1
  go_wp2_with fail
  go_loopw [16] (fun i wr => ∃ k : Nat, k ≤ rows.length ∧ i = .int .i64 k ∧ Own wr g (cmbTo p n x rows k) ∧ Ex w wr) (fun i _ => rows.length - (intOf i).toNat)
  case atStart => exact ⟨0, Nat.zero_le _, rfl, o1, x1⟩
  case round =>
    obtain ⟨k, hk, rfl, ho, hek⟩ := hrel
    by_cases hlt : k < rows.length
    · obtain ⟨gB, oB, A', c', r, rfl, hrk, hc, hrd⟩ := hm.at_ hlt
      obtain ⟨gX, oX, y, rfl, hy, hgX, hcx⟩ := hx.at_ (by rw [Hxl.out]; exact hlt : k < x.length)
      have hrr := rowsB_at Hr.out hrk
      have hyb := allEl_at Hxe.out hy
      have q1 := cell_ex hek hc
      have q2 := cell_ex hek hcx
      have hxl : k < x.length := by rw [Hxl.out]; exact hlt
      have Hst := Lib.hid (show cmbTo p n x rows (k + 1) = addAt p (cmbTo p n x rows k) 0 y r by rw [cmbTo, cf_of hy, hrk]; rfl)
      have hln := cmbTo_len p n x rows k
      have Hln := Lib.hid hln
      have Hce := Lib.hid (cmbTo_el (p := p) (by omega) n x rows k)
      have hrn : r.length = n := by omega
      have Hrn := Lib.hid hrn
      have Hre := Lib.hid hrr.2
      have hlo : r ≠ [] → Lo A' w.heap.size := fun hne => hrd.blk_lt hne
      clear hrk hy hc hcx hln hrn hrr
      go_wp2_with fail
      refine (addTimes_c p g 0 n n _ y A' c' r _ ho (by rw [Hln.out]; omega) (hrd.ex hek) (Nat.le_of_eq Hrn.out) (fun hne => (hlo hne).off hg) h2 h97 Hce.out Hre.out (by omega)).mono ?_
      rintro e w2 ⟨rfl, o2, x2⟩
      go_wp2_with fail
      go_roundw
      case rel => exact ⟨k + 1, by omega, by go_num, by rw [Hst.out]; exact o2, hek.ex1 x2 hg⟩
      case measure => simp [intOf]; omega
    · obtain rfl : k = rows.length := by omega
      go_wp2
      go_ret
      exact ⟨g, rfl, hg, ho, hek⟩
set_option maxHeartbeats 2000000 in
theorem spSum_c (p : Int) (A B : Option Addr) (c d n : Nat) (x : List Int) (rows : List (List Int)) (w : World) (hx : Rd w A x) (hm : RdM w B rows) (h2 : 2 ≤ p) (h97 : p ≤ 97) (hxe : allEl p x = true) (hxl : x.length = rows.length) (hr : rowsB p n rows = true) (hn : n ≤ 1000) :
    Calls Tryd.prog 85 #[.int .i64 p, .int .i64 n, .slice B rows.length d, .slice A x.length c] w fun e w' =>
      ∃ g, e = .returned (.slice (some ⟨g, 0, none⟩) n n) ∧ w.heap.size ≤ g ∧ Own w' g (cmb p n x rows) ∧ Ex w w' := by
  have hl := hm.1
  have Hxe := Lib.hid hxe
  have Hxl := Lib.hid hxl
  have Hr := Lib.hid hr
  have hmk := fun W => run_make_ints n (by omega) W
  clear hxe hxl hr
  go_enter Tryd.func85, Tryd.ntmps85
  go_wp2_with fail
  have o1 := Own.new w (List.replicate n 0)
  have x1 := (Ex.refl w).alloc (iObj (List.replicate n 0))
  generalize w.alloc (iObj (List.replicate n 0)) = W at *
  clear hmk
  go_loopw [18] (fun i wr => ∃ k : Nat, k ≤ rows.length ∧ i = .int .i64 k ∧ Own wr w.heap.size (cmbTo p n x rows k) ∧ Ex w wr) (fun i _ => rows.length - (intOf i).toNat)
  case atStart => exact ⟨0, Nat.zero_le _, rfl, o1, x1⟩
  case round =>
    obtain ⟨k, hk, rfl, ho, hek⟩ := hrel
    by_cases hlt : k < rows.length
    · obtain ⟨gB, oB, A', c', r, rfl, hrk, hc, hrd⟩ := hm.at_ hlt
      obtain ⟨gX, oX, y, rfl, hy, hgX, hcx⟩ := hx.at_ (by rw [Hxl.out]; exact hlt : k < x.length)
      have hrr := rowsB_at Hr.out hrk
      have hyb := allEl_at Hxe.out hy
      have q1 := cell_ex hek hc
      have Hy := Lib.hid hy
      have hxl : k < x.length := by rw [Hxl.out]; exact hlt
      have Hst := Lib.hid (show cmbTo p n x rows (k + 1) = addAt p (cmbTo p n x rows k) 0 y r by rw [cmbTo, cf_of hy, hrk]; rfl)
      have Hln := Lib.hid (cmbTo_len p n x rows k)
      have Hce := Lib.hid (cmbTo_el (p := p) (by omega) n x rows k)
      have hrn : r.length = n := by omega
      have Hrn := Lib.hid hrn
      have Hre := Lib.hid hrr.2
      clear hrk hy hc hrn hrr
      go_wp2_with fail
      obtain ⟨V, hV⟩ : ∃ V, V = cmbTo p n x rows k := ⟨_, rfl⟩
      rw [← hV] at ho Hst Hln Hce
      clear hV
      go_loopw [25] (fun i wi => ∃ j : Nat, j ≤ r.length ∧ i = .int .i64 j ∧ Own wi w.heap.size (addAt p V 0 y (r.take j)) ∧ Ex w wi) (fun i _ => r.length - (intOf i).toNat)
      case atStart => exact ⟨0, Nat.zero_le _, rfl, by rw [List.take_zero, addAt_nil]; exact ho, hek⟩
      case round =>
        obtain ⟨j, hj, rfl, hoj, hej⟩ := hrel
        by_cases hjr : j < r.length
        · obtain ⟨gR, oR, z, rfl, hz, hgR, hcz⟩ := (hrd.ex hej).at_ hjr
          have hzb := allEl_at Hre.out hz
          have qx := (hx.ex hej).cell Hy.out
          have hcf := cf_bd Hce.out (show 0 < p by omega) j
          have hVl : j < V.length := by rw [Hln.out, ← Hrn.out]; exact hjr
          have hv := addAt_at (p := p) (v := V) (s := 0) (b := y) (w := r.take j) hVl (by rw [List.length_take]; omega)
          have qo := hoj.cell hv
          have fz := hoj.frozen j
          have hset := hoj.set_ j ((cf V j + y * z) % p)
          have hst := addAt_set0 p V 0 y r j hjr hz (x := cf V j) (by rw [Nat.zero_add])
          rw [Nat.zero_add] at hst
          rw [hst] at hset
          have hm := mul_bd (x := y) (y := z) ⟨by omega, by omega⟩ ⟨by omega, by omega⟩
          have w2 : IntKind.i64.wrap (y * z) = y * z := IntWalk.i64_in _ (by omega)
          have w3 : IntKind.i64.wrap (cf V j + y * z) = cf V j + y * z := IntWalk.i64_in _ (by omega)
          have w4 : (cf V j + y * z).tmod p = (cf V j + y * z) % p := Int.tmod_eq_emod_of_nonneg (by omega)
          have hp0 : ¬ p = 0 := by omega
          have hjn : j < n := by have := Hrn.out; omega
          clear hz hv hst
          go_wp2
          refine wp_region_still_tail 16 (by kernel_rfl) (by kernel_rfl) ?_
          simp only [List.take_succ_cons, List.take_zero, List.drop_succ_cons, List.drop_zero]
          repeat still_step
          refine wpStill_nil ?_
          clear w2 w3 w4 hp0
          change wpList _ _ _ _ _ wr.drew
          go_wp2
          go_roundw
          case rel => exact ⟨j + 1, by omega, by go_num, hset, (hej.setCell (Nat.le_refl _) _).drew⟩
          case measure => simp [intOf]; omega
        · obtain rfl : j = r.length := by omega
          rw [List.take_length] at hoj
          go_wp2
          go_roundw
          case rel => exact ⟨k + 1, by omega, by go_num, by rw [Hst.out]; exact hoj, hej⟩
          case measure => simp [intOf]; omega
    · obtain rfl : k = rows.length := by omega
      go_wp2
      go_ret
      exact ⟨w.heap.size, rfl, Nat.le_refl _, ho, hek⟩
end Go.Proofs.YtkpfmnconnopnaaDoor
