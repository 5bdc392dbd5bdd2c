/- Contracts: the kinds of edges. -/
import Derived.Test.YtgblnkadmieflaaIdx
import Derived.Test.YtgblnkadmieflaaUGr
namespace Go.Proofs.Ytgblnkadmieflaa
set_option maxRecDepth 100000
open Go Go.RowKit
/-- How many wires an edge of a kind comes from and leads to. -/
def gw (k : Int) : Int × Int := if k = 3 ∨ k = 11 then (1, 2) else if k = 4 ∨ k = 12 then (1, 0) else if k = 5 ∨ k = 9 then (2, 1) else if k = 6 ∨ k = 10 then (0, 1) else (1, 1)
def vlB (kd vl : Int) : Bool := if kd = 7 ∨ kd = 13 then inB 0 96 vl else decide (vl = 0)
def edB (kd vl : Int) (ni no : Nat) : Bool := inB 3 14 kd && vlB kd vl && decide ((gw kd).1 = ni) && decide ((gw kd).2 = no)
theorem kinds {k : Int} (h : inB 3 14 k = true) : k = 3 ∨ k = 4 ∨ k = 5 ∨ k = 6 ∨ k = 7 ∨ k = 8 ∨ k = 9 ∨ k = 10 ∨ k = 11 ∨ k = 12 ∨ k = 13 ∨ k = 14 := by
  simp [inB] at h
  omega
set_option maxHeartbeats 4000000 in
theorem generatorWires_c (k : Int) (h : inB 3 14 k = true) (w : World) : Calls Try.prog 76 #[.int .i64 k] w fun e w' => e = .returned (.agg #[.int .i64 (gw k).1, .int .i64 (gw k).2]) ∧ Ex w w' := by
  rcases kinds h with rfl | rfl | rfl | rfl | rfl | rfl | rfl | rfl | rfl | rfl | rfl | rfl
  all_goals
    clear h
    go_enter Try.func76, Try.ntmps76
    go_wp2
    refine bodyPost_ret (v := .agg #[.int .i64 _, .int .i64 _]) (by simp [results, Try.results76, go_sem]; exact ⟨rfl, rfl⟩) rfl ?_
    exact ⟨rfl, by first | exact (((Ex.refl w).alloc _).alloc _).alloc _ | exact ((Ex.refl w).alloc _).alloc _⟩
theorem hasValue_c (k : Int) (w : World) : Calls Try.prog 77 #[.int .i64 k] w fun e w' => e = .returned (.bool (decide (k = 7 ∨ k = 13))) ∧ w = w' := by
  go_enter Try.func77, Try.ntmps77
  go_wp2
  all_goals go_ret
  all_goals exact ⟨ret_bool (by simp_all <;> (by_cases h13 : k = 13 <;> simp_all)), rfl⟩
theorem isGenerator_c (k : Int) (w : World) : Calls Try.prog 74 #[.int .i64 k] w fun e w' => e = .returned (.bool (inB 3 14 k)) ∧ w = w' := by
  go_enter Try.func74, Try.ntmps74
  go_wp2_with (go_at_call 61; refine (within_c _ _ _ _).mono ?_; rintro e w' ⟨rfl, rfl⟩)
  go_ret
  exact ⟨rfl, rfl⟩
theorem isGeneratorValue_c (k v : Int) (w : World) : Calls Try.prog 75 #[.int .i64 k, .int .i64 v] w fun e w' => e = .returned (.bool (vlB k v)) ∧ w = w' := by
  by_cases h : k = 7 ∨ k = 13
  · have H := Lib.hid (show vlB k v = inB 0 96 v from if_pos h)
    have hh := hasValue_c k w
    rw [decide_eq_true h] at hh
    clear h
    go_enter Try.func75, Try.ntmps75
    go_wp2_with (first | (go_at_call 77; refine hh.mono ?_; rintro e w' ⟨rfl, rfl⟩) | (go_at_call 61; refine (within_c _ _ _ _).mono ?_; rintro e w' ⟨rfl, rfl⟩))
    all_goals go_ret
    all_goals exact ⟨ret_bool (by rw [H.out]), rfl⟩
  · have H := Lib.hid (show vlB k v = decide (v = 0) from if_neg h)
    have hh := hasValue_c k w
    rw [decide_eq_false h] at hh
    clear h
    go_enter Try.func75, Try.ntmps75
    go_wp2_with (first | (go_at_call 77; refine hh.mono ?_; rintro e w' ⟨rfl, rfl⟩))
    all_goals go_ret
    all_goals exact ⟨ret_bool (by rw [H.out]; first | rfl | simp_all), rfl⟩
set_option maxHeartbeats 2000000 in
theorem tmKind_c (k : Int) (h : inB 3 14 k = true) (w : World) : Calls Try.prog 73 #[.int .i64 k] w fun e w' => e = .returned (.tuple #[.int .i64 (gw k).1, .int .i64 (gw k).2]) ∧ Ex w w' := by
  rcases kinds h with rfl | rfl | rfl | rfl | rfl | rfl | rfl | rfl | rfl | rfl | rfl | rfl
  all_goals
    clear h
    go_enter Try.func73, Try.ntmps73
    go_wp2
    go_ret2
    exact ⟨rfl, Ex.refl w⟩
end Go.Proofs.Ytgblnkadmieflaa
