/- slices.Concat of rows of fractions. -/
import Derived.Test.YtpeogfapnofeoaaGreatDoorCcA
namespace Go.Proofs.YtpeogfapnofeoaaGreatDoor
set_option maxRecDepth 100000
open Go Go.RowKit
theorem flat_step {α : Type} {rows : List (List α)} {k : Nat} {r : List α} (h : rows[k]? = some r) : (rows.take (k + 1)).flatten = (rows.take k).flatten ++ r := by rw [List.take_add_one, h, List.flatten_append]; simp
theorem flat_len {α : Type} {rows : List (List α)} (h : ∀ r ∈ rows, r.length ≤ 1000) : ∀ k, ((rows.take k).flatten).length ≤ 1000 * rows.length := by
  intro k
  have h2 : ∀ r ∈ rows.take k, r.length ≤ 1000 := fun r hr => h r (List.mem_of_mem_take hr)
  have h3 : (rows.take k).length ≤ rows.length := List.length_take_le' _ _
  have : ∀ (l : List (List α)), (∀ r ∈ l, r.length ≤ 1000) → l.flatten.length ≤ 1000 * l.length := by
    intro l
    induction l with
    | nil => intro _; simp
    | cons r l ih =>
      intro hl
      have a := ih fun r hr => hl r (List.mem_cons_of_mem _ hr)
      have b := hl r List.mem_cons_self
      rw [List.flatten_cons, List.length_append, List.length_cons]
      omega
  have := this _ h2
  omega
set_option maxHeartbeats 4000000 in
theorem concat_c (A : Option Addr) (c : Nat) (rows : List (List Fra)) (w : World) (h : RdS EFF w A rows) (hr8 : rows.length ≤ 8) (hr12 : ∀ r ∈ rows, r.length ≤ 1000) :
    Calls Tryz.prog 38 #[.slice A rows.length c] w fun e w' => ∃ A' c', e = .returned (.slice A' rows.flatten.length c') ∧ RdS EF w' A' rows.flatten ∧ Ex w w' := by
  have hl := h.1
  have HF := Lib.hid (flat_len hr12)
  have H12 := Lib.hid hr12
  clear hr12
  go_enter Tryz.func38, Tryz.ntmps38
  go_wp2_with fail
  go_loopw [3, 11] (fun s i wr => ∃ k n : Nat, k ≤ rows.length ∧ i = .int .i64 k ∧ s = .int .i64 n ∧ Hid (n = ((rows.take k).flatten).length) ∧ Ex w wr) (fun _ i _ => rows.length - (intOf i).toNat)
  case atStart => exact ⟨0, 0, Nat.zero_le _, rfl, rfl, Lib.hid (by simp), Ex.refl _⟩
  case round =>
    rename World => wi
    obtain ⟨k, n, hk, rfl, rfl, Hn, he⟩ := hrel
    have hn8 : n ≤ 8000 := by have := HF.out k; have := Hn.out; omega
    by_cases hlt : k < rows.length
    · obtain ⟨g, off, r, u, rfl, hr, b0, hu⟩ := (h.ex he).fracs hlt
      obtain ⟨P, pc, rfl, hP⟩ := hu.form
      have hrl := H12.out r (List.mem_of_getElem? hr)
      have hw : IntKind.i64.wrap ((n : Int) + (r.length : Int)) = ((n + r.length : Nat) : Int) := by rw [IntWalk.i64_in _ (by omega)]; omega
      have HN := Lib.hid (show n + r.length = ((rows.take (k + 1)).flatten).length by rw [flat_step hr, List.length_append, Hn.out])
      have hneg : ¬ ((n + r.length : Nat) : Int) < 0 := by omega
      clear hr hu
      obtain ⟨m, hm⟩ : ∃ m, n + r.length = m := ⟨_, rfl⟩
      rw [hm] at hw HN hneg
      clear hm
      go_wp2_with fail
      clear hw
      go_roundw
      case rel => exact ⟨k + 1, m, by omega, by go_num, rfl, HN, he⟩
      case measure => simp [intOf]; omega
    · obtain rfl : k = rows.length := by omega
      have HT := Lib.hid (show n = rows.flatten.length by have := Hn.out; rwa [List.take_length] at this)
      go_wp2_with fail
      refine (growNil_c n (by omega) wi).mono ?_
      rintro e w1 ⟨A1, c1, rfl, ge1, x1⟩
      go_wp2_with fail
      go_loopw [6, 27] (fun o i wr => ∃ (k : Nat) (prs : List (Value × Value)), k ≤ rows.length ∧ i = .int .i64 k ∧ GE ELW 58 wr wi.heap.size wr.heap.size o prs ∧ Hid (prs.length = ((rows.take k).flatten).length ∧ ∀ (j : Nat) (x : Fra), ((rows.take k).flatten)[j]? = some x → ∃ a b, prs[j]? = some (a, b) ∧ RFra wi a b x) ∧ Ex wi wr) (fun _ i _ => rows.length - (intOf i).toNat)
      case atStart => exact ⟨0, [], Nat.zero_le _, rfl, ge1, Lib.hid ⟨by simp, fun j x hj => by simp at hj⟩, x1⟩
      case round =>
        rename World => wj
        obtain ⟨k, prs, hk2, rfl, hge, HP, hej⟩ := hrel
        by_cases hlt2 : k < rows.length
        · obtain ⟨g, off, r, u, rfl, hr, b0W, hu⟩ := (h.ex he).fracs hlt2
          obtain ⟨P, pc, rfl, hP⟩ := hu.form
          have b0 := cell_ex hej b0W
          have hrl := H12.out r (List.mem_of_getElem? hr)
          have hpl : prs.length ≤ 8000 := by have := HF.out k; have := HP.out.1; omega
          have HS := Lib.hid (flat_step hr)
          clear hr hu b0W
          obtain ⟨v', w', prs2, hrun, hge', hl2, hrd, hE⟩ := push_fracs hge (Nat.le_refl _) hej.size wi hej P pc r hP (by omega)
          have xw := hE wi hej (Nat.le_refl _)
          have HQ := Lib.hid (show (prs ++ prs2).length = ((rows.take (k + 1)).flatten).length ∧ ∀ (j : Nat) (x : Fra), ((rows.take (k + 1)).flatten)[j]? = some x → ∃ a b, (prs ++ prs2)[j]? = some (a, b) ∧ RFra wi a b x by
            rw [HS.out]
            refine ⟨by rw [List.length_append, List.length_append, HP.out.1, hl2], fun j x hj => ?_⟩
            by_cases e : j < prs.length
            · rw [List.getElem?_append_left (by rw [← HP.out.1]; exact e)] at hj
              rw [List.getElem?_append_left e]
              exact HP.out.2 j x hj
            · rw [List.getElem?_append_right (by rw [← HP.out.1]; omega), ← HP.out.1] at hj
              rw [List.getElem?_append_right (by omega)]
              exact hrd _ x hj)
          clear hge hE hrd HP
          go_wp2_with (at_builtin; refine wpList_append_run rfl _ _ _ rfl rfl rfl hrun ?_)
          go_roundw
          case rel => exact ⟨k + 1, _, by omega, by go_num, hge', HQ, xw⟩
          case measure => simp [intOf]; omega
        · obtain rfl : k = rows.length := by omega
          obtain ⟨q1, q2⟩ := HP.out
          rw [List.take_length] at q1 q2
          obtain ⟨A5, c5, rfl, r5⟩ := pairs_rds hge q1 (by rw [← HT.out]; omega) (fun j x hj => by
            obtain ⟨a, b, q3, q4⟩ := q2 j x hj
            exact ⟨a, b, q3, q4.ex hej⟩)
          clear q1 q2 HP
          go_wp2_with fail
          go_ret
          exact ⟨_, _, rfl, r5, he.trans hej⟩
end Go.Proofs.YtpeogfapnofeoaaGreatDoor
