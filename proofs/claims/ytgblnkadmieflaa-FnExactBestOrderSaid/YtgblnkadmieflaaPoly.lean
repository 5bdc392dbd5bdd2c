/- Contracts of the functions on polynomials, both sides: each answers what the plain functions of Num.lean say. -/
import Derived.Test.YtgblnkadmieflaaField
import Derived.Test.YtgblnkadmieflaaLaw
import Derived.StillTailTactics
namespace Go.Proofs.Ytgblnkadmieflaa
set_option maxRecDepth 100000
open Go Go.RowKit
set_option maxHeartbeats 400000 in
theorem l1Most_c (a b : Int) (w : World) : Calls Try.prog 46 #[.int .i64 a, .int .i64 b] w fun e w' => e = .returned (.int .i64 (max a b)) ∧ w = w' := by
  go_enter Try.func46, Try.ntmps46
  go_wp2
  all_goals go_ret
  all_goals exact ⟨ret_int (by omega), rfl⟩
set_option maxHeartbeats 400000 in
theorem clone_c (A : Option Addr) (c : Nat) (xs : List Int) (w : World) (h : Rd w A xs) :
    Calls Try.prog 31 #[.slice A xs.length c] w fun e w' => ∃ g c', e = .returned (.slice (some ⟨g, 0, none⟩) xs.length c') ∧ xs.length ≤ c' ∧ w.heap.size ≤ g ∧ Own w' g xs ∧ Ex w w' := by
  have hl := h.len
  have hal : AL (w.alloc (.cells #[] 3)) w.heap.size (.slice (some ⟨w.heap.size, 0, none⟩) 0 0) [] := AL.empty w (Nat.le_refl _)
  obtain ⟨v', w1, hrun, hv, hx, hb⟩ := run_append_ints 23 23 Try.underlying23 _ _ _ _ hal (by simp) A c xs (h.ex ((Ex.refl w).alloc _)) (by simpa using hl)
  have hex : Ex w w1 := ((Ex.refl w).alloc (.cells #[] 3)).exo hx (fun g e => by simp [Value.ownBlock] at e; omega)
  obtain ⟨A', c', rfl, hf⟩ := hv.form (by simpa using hl)
  rw [List.nil_append] at hf hv
  have hA : ∃ g, A' = some ⟨g, 0, none⟩ := by
    rcases hv.2 with ⟨e, _⟩ | ⟨g, cap, cur, e, _⟩
    · injection e with e1 _ _
      subst e1
      rcases hb with hb | hb <;> simp [Value.ownBlock] at hb
    · injection e with e1 _ _
      exact ⟨g, e1⟩
  obtain ⟨g, rfl⟩ := hA
  obtain ⟨_, _, hc, hg, ho⟩ := hv.own
  go_enter Try.func31, Try.ntmps31
  go_wp2_with (at_builtin; refine wpList_append_run rfl _ _ _ rfl rfl rfl hrun ?_)
  go_ret
  exact ⟨g, c', rfl, hc, hg, ho, hex⟩
set_option maxHeartbeats 400000 in
theorem l1Own_c (A : Option Addr) (c : Nat) (xs : List Int) (w : World) (h : Rd w A xs) :
    Calls Try.prog 47 #[.slice A xs.length c] w fun e w' => ∃ g c', e = .returned (.slice (some ⟨g, 0, none⟩) xs.length c') ∧ xs.length ≤ c' ∧ w.heap.size ≤ g ∧ Own w' g xs ∧ Ex w w' := by
  have hl := h.len
  have hal : AL (w.alloc (.cells #[] 3)) w.heap.size (.slice (some ⟨w.heap.size, 0, none⟩) 0 0) [] := AL.empty w (Nat.le_refl _)
  obtain ⟨v', w1, hrun, hv, hx, hb⟩ := run_append_ints 23 23 Try.underlying23 _ _ _ _ hal (by simp) A c xs (h.ex ((Ex.refl w).alloc _)) (by simpa using hl)
  have hex : Ex w w1 := ((Ex.refl w).alloc (.cells #[] 3)).exo hx (fun g e => by simp [Value.ownBlock] at e; omega)
  obtain ⟨A', c', rfl, hf⟩ := hv.form (by simpa using hl)
  rw [List.nil_append] at hf hv
  have hA : ∃ g, A' = some ⟨g, 0, none⟩ := by
    rcases hv.2 with ⟨e, _⟩ | ⟨g, cap, cur, e, _⟩
    · injection e with e1 _ _
      subst e1
      rcases hb with hb | hb <;> simp [Value.ownBlock] at hb
    · injection e with e1 _ _
      exact ⟨g, e1⟩
  obtain ⟨g, rfl⟩ := hA
  obtain ⟨_, _, hc, hg, ho⟩ := hv.own
  go_enter Try.func47, Try.ntmps47
  go_wp2_with (at_builtin; refine wpList_append_run rfl _ _ _ rfl rfl rfl hrun ?_)
  go_ret
  exact ⟨g, c', rfl, hc, hg, ho, hex⟩
end Go.Proofs.Ytgblnkadmieflaa
