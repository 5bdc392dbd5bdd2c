/- Reading the text of a polynomial: the program reads a number. -/
import Derived.Test.YtfggacnkediolaaGreatDoorPpC
import Derived.Test.YtfggacnkediolaaGreatDoorShR
import Derived.Test.YtfggacnkediolaaGreatDoorField
import Derived.Lib.AtoiTie
import Derived.Lib.AtoiAllCases
import Derived.Lib.SmallJoins
import Derived.Lib.AppendIntMem
import Derived.Laws.Concat
import Derived.Deep.RegionHeld3
namespace Go.Proofs.YtfggacnkediolaaGreatDoor
set_option maxRecDepth 100000
open Go Go.RowKit Go.Shelf
theorem nuL_none {s : List UInt8} (h : Lib.atoi s = none) : nuL s = none := by unfold nuL; rw [h]; split <;> rfl
theorem nuL_long {s : List UInt8} (h : 4 < s.length) : nuL s = none := if_neg (by omega)
theorem nuL_some {s : List UInt8} {n : Int} (h : s.length ≤ 4) (hn : Lib.atoi s = some n) : nuL s = if Lib.itoa n = s then some n else none := by unfold nuL; rw [if_pos h, hn]
theorem atoi_all {s : List UInt8} (h : s.length ≤ 4) : Lib.atoiAll s = Lib.NumEnd.ofOption (Lib.atoi s) := Lib.atoiAll_short s (by omega)
/-- What the readers need of the world: the primes, a number in MaxLen, the powers of ten, the two errors. -/
def Wl (w : World) : Prop := Tb w ∧ (∃ m, w.cell? ⟨0, 0, none⟩ = some (.int .i64 m)) ∧ Lib.TabIs Tryz.prog w "internal/strconv.uint64pow10" .u64 Lib.pow10Tab ∧
  (∃ t v, w.cell? ⟨4, 0, none⟩ = some (.iface t v)) ∧ ∃ t v, w.cell? ⟨5, 0, none⟩ = some (.iface t v)
theorem Wl.ex {w w' : World} (h : Wl w) (he : Ex w w') : Wl w' := by
  obtain ⟨h1, ⟨m, h2⟩, h3, ⟨t, v, h4⟩, ⟨t', v', h5⟩⟩ := h
  refine ⟨h1.ex he, ⟨m, cell_ex he h2⟩, ?_, ⟨t, v, cell_ex he h4⟩, ⟨t', v', cell_ex he h5⟩⟩
  unfold Lib.TabIs World.var? at h3 ⊢
  cases hg : Tryz.prog.globalNamed "internal/strconv.uint64pow10" with
  | none => rw [hg] at h3; cases h3
  | some g =>
    rw [hg] at h3
    simp only [Option.bind_some] at h3 ⊢
    cases hh : w.heap[g]? with
    | none => rw [hh] at h3; cases h3
    | some o => rw [he.block (Array.getElem?_eq_some_iff.1 hh).1]; exact h3
/-- A number that has been read, and whether. -/
def NuB (w : World) (o : Option Int) (e : Ending) (w' : World) : Prop := ∃ (n : Int) (b : Bool), e = .returned (.tuple #[.int .i64 n, .bool b]) ∧ o = (if b = true then some n else none) ∧ Ex w w'
set_option maxHeartbeats 1000000 in
theorem number_c (s : ByteArray) (w : World) (hs : s.size ≤ 1048576) (hw : Wl w) : Calls Tryz.prog 62 #[.string s] w fun e w' => NuB w (nuL s.data.toList) e w' := by
  have hsz : s.size = s.data.toList.length := by rw [Array.length_toList]; rfl
  have HW := Lib.hid hw
  obtain ⟨_, _, ht, ⟨t1, v1, h1⟩, ⟨t2, v2, h2⟩⟩ := hw
  rcases hA : Lib.atoiAll s.data.toList with v | _ | _
  rotate_left
  ·
    have HN := Lib.hid (show nuL s.data.toList = none by
      by_cases h4 : s.data.toList.length ≤ 4
      · rw [atoi_all h4] at hA
        cases ha : Lib.atoi s.data.toList with
        | none => exact nuL_none ha
        | some n => rw [ha] at hA; cases hA
      · exact nuL_long (by omega))
    have c := Tryz.strconv_Atoi_syntax s (by omega) hA _ w h1 (.inr ⟨_, _, rfl⟩)
    clear hsz hA ht h1 h2
    go_enter Tryz.func62, Tryz.ntmps62
    go_wp2_with fail
    refine c.mono ?_
    rintro e w2 ⟨N, rfl, _, _, x2⟩
    go_wp2_with fail
    go_ret2
    exact ⟨0, false, rfl, HN.out, x2⟩
  ·
    have HN := Lib.hid (show nuL s.data.toList = none by
      by_cases h4 : s.data.toList.length ≤ 4
      · rw [atoi_all h4] at hA
        cases ha : Lib.atoi s.data.toList with
        | none => exact nuL_none ha
        | some n => rw [ha] at hA; cases hA
      · exact nuL_long (by omega))
    have c := Tryz.strconv_Atoi_range s (by omega) hA _ w h2 (.inr ⟨_, _, rfl⟩)
    obtain ⟨n, hn⟩ : ∃ n, Lib.atoiSat s.data.toList = n := ⟨_, rfl⟩
    rw [hn] at c
    clear hsz hA ht h1 h2 hn
    go_enter Tryz.func62, Tryz.ntmps62
    go_wp2_with fail
    refine c.mono ?_
    rintro e w2 ⟨N, rfl, _, _, x2⟩
    go_wp2_with fail
    go_ret2
    exact ⟨n, false, rfl, HN.out, x2⟩
  ·
    have c := Tryz.strconv_Atoi_ok s (by omega) v hA w
    obtain ⟨hv1, hv2⟩ := Lib.atoiAll_bounds hA
    have hat : s.data.toList.length ≤ 4 → Lib.atoi s.data.toList = some v := fun h4 => by
      rw [atoi_all h4] at hA
      cases ha : Lib.atoi s.data.toList with
      | none => rw [ha] at hA; cases hA
      | some n => rw [ha] at hA; injection hA with hA; rw [hA]
    replace c : Calls Tryz.prog 80 #[.string s] w fun e w' => e = .returned (.tuple #[.int .i64 v, .nilIface]) ∧ Ex w w' := c.mono fun e w' h => by
      obtain ⟨h1, h2⟩ := h
      refine ⟨h1, ?_⟩
      rcases h2 with rfl | ⟨t, rfl⟩
      · exact Ex.refl _
      · exact Go.Joins.below_bytesWorld _ _ _ _ (Nat.le_refl _)
    by_cases h4 : s.size ≤ 4
    · have cI : ∀ W, Ex w W → Calls Tryz.prog 66 #[.int .i64 v] W fun e w' => e = .returned (.string ⟨(Lib.itoa v).toArray⟩) ∧ Ex W w' := fun W hW =>
        (Tryz.strconv_Itoa v hv1 hv2 W (HW.out.ex hW).2.2.1).mono fun e w' h => by
          obtain ⟨h1, k, os, rfl⟩ := h
          exact ⟨h1, Lib.below_grow _ _ (Nat.le_refl _) _ _⟩
      have HN := Lib.hid (nuL_some (by omega) (hat (by omega)))
      obtain ⟨X, hX⟩ : ∃ X, Lib.itoa v = X := ⟨_, rfl⟩
      rw [hX] at cI HN
      have hcmp : ∀ b : Bool, decide (X = s.data.toList) = b → (X == s.toList) = b := fun b h => by
        rw [ByteArray.toList_eq, ← h, Bool.eq_iff_iff]; simp
      have h4' : (s.size : Int) ≤ 4 := by omega
      clear hX hsz hA ht h1 h2 hat hv1 hv2
      cases hb : decide (X = s.data.toList)
      all_goals
        have hc := hcmp _ hb
        clear hcmp
        go_enter Tryz.func62, Tryz.ntmps62
        go_wp2_with fail
        refine c.mono ?_
        rintro e w2 ⟨rfl, x2⟩
        go_wp2_with fail
        refine (cI _ x2).mono ?_
        rintro e w3 ⟨rfl, x3⟩
        go_wp2_with fail
        go_ret2
        refine ⟨v, _, rfl, ?_, x2.trans x3⟩
        rw [HN.out]
        simpa using hb
    · have HN := Lib.hid (nuL_long (s := s.data.toList) (by omega))
      have h4' : ¬ ((s.size : Int) ≤ 4) := by omega
      clear hsz hA ht h1 h2 hat h4
      go_enter Tryz.func62, Tryz.ntmps62
      go_wp2_with fail
      refine c.mono ?_
      rintro e w2 ⟨rfl, x2⟩
      go_wp2_with fail
      go_ret2
      exact ⟨v, false, rfl, HN.out, x2⟩
end Go.Proofs.YtfggacnkediolaaGreatDoor
