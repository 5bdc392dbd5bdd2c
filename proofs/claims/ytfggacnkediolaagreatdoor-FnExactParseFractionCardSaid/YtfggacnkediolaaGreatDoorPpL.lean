/- Reading the text of a polynomial: ParsePoly, the program. -/
import Derived.Test.YtfggacnkediolaaGreatDoorPpK
import Derived.Test.YtfggacnkediolaaGreatDoorPoly6
namespace Go.Proofs.YtfggacnkediolaaGreatDoor
set_option maxRecDepth 100000
open Go Go.RowKit Go.Shelf
theorem psI_pa_no {p : Int} {s : List UInt8} (h : (paI s).2 = false) : psI p s = ([], false) := by
  unfold paI at h
  unfold psI
  cases hp : piO (spl 43 s) (List.replicate 41 0) with
  | none => rfl
  | some o => rw [hp] at h; cases h
theorem psI_pa {p : Int} {s : List UInt8} {f : List Int} (h : paI s = (f, true)) : psI p s = if polyB p f = true ∧ ptX f = s then (f, true) else ([], false) := by
  unfold paI at h
  unfold psI
  cases hp : piO (spl 43 s) (List.replicate 41 0) with
  | none => rw [hp] at h; cases h
  | some o =>
    rw [hp] at h
    injection h with h _
    simp only [h]
theorem FrRB.mk {w w' : World} {r : List Int × Bool} {f : List Int} {A : Option Addr} {c : Nat} (h : r = (f, true)) (hf : Fr w' w.heap.size A c f) (he : Ex w w') : FrRB w r (.returned (.tuple #[.slice A f.length c, .bool true])) w' := by
  subst h; exact ⟨A, c, rfl, hf, he⟩
set_option maxHeartbeats 1000000 in
theorem ParsePoly_c (p : Int) (s : ByteArray) (w : World) (hs : s.size ≤ 1048576) (hw : Wl w) : Calls Tryz.prog 12 #[.int .i64 p, .string s] w fun e w' => FrRB w (psS p s.data.toList) e w' := by
  rw [← psI_psS]
  have HW := Lib.hid hw
  have c1 := parsePoly_c s w hs hw
  clear hw
  obtain ⟨f, ok, hf⟩ : ∃ f ok, paI s.data.toList = (f, ok) := ⟨_, _, rfl⟩
  rw [hf] at c1
  cases ok with
  | false =>
    have HR := Lib.hid (psI_pa_no (p := p) (s := s.data.toList) (by rw [hf]))
    clear hf
    go_enter Tryz.func12, Tryz.ntmps12
    go_wp2_with fail
    refine c1.mono ?_
    rintro e w1 ⟨A, c, rfl, hfr, x1⟩
    go_wp2_with fail
    go_ret2
    exact FrRB.no HR.out x1
  | true =>
    have HR := Lib.hid (psI_pa (p := p) hf)
    clear hf
    cases hp : polyB p f with
    | false =>
      have HR2 := Lib.hid (HR.out.trans (if_neg (by rw [hp]; simp)))
      go_enter Tryz.func12, Tryz.ntmps12
      go_wp2_with fail
      refine c1.mono ?_
      rintro e w1 ⟨A, c, rfl, hfr, x1⟩
      dsimp only at hfr ⊢
      have cP := isPoly_c p A c f w1 hfr.rd (HW.out.1.ex x1)
      rw [hp] at cP
      go_wp2_with fail
      refine cP.mono ?_
      rintro e _ ⟨rfl, rfl⟩
      go_wp2_with fail
      go_ret2
      exact FrRB.no HR2.out x1
    | true =>
      obtain ⟨hl, hb⟩ := all_bd hp
      have Hb := Lib.hid hb
      clear hb
      obtain ⟨X, hX⟩ : ∃ X, ptX f = X := ⟨_, rfl⟩
      have hcmp : ∀ b, decide (X = s.data.toList) = b → (X == s.toList) = b := fun b h => by rw [ByteArray.toList_eq, ← h, Bool.eq_iff_iff]; simp
      cases hXs : decide (X = s.data.toList)
      all_goals
        have hcx := hcmp _ hXs
        clear hcmp
        go_enter Tryz.func12, Tryz.ntmps12
        go_wp2_with fail
        refine c1.mono ?_
        rintro e w1 ⟨A, c, rfl, hfr, x1⟩
        dsimp only at hfr ⊢
        have cP := isPoly_c p A c f w1 hfr.rd (HW.out.1.ex x1)
        rw [hp] at cP
        have cT := fun W (h : Ex w1 W) => polyText_c A c f W (hfr.rd.ex h) hl Hb.out
        rw [hX] at cT
        have HX := Lib.hid hX
        go_wp2_with fail
        refine cP.mono ?_
        rintro e _ ⟨rfl, rfl⟩
        go_wp2_with fail
        refine (cT _ (Ex.refl _)).mono ?_
        rintro e w3 ⟨rfl, x3⟩
        go_wp2_with fail
        go_ret2
        first
          | exact FrRB.no (HR.out.trans (if_neg (by rintro ⟨_, e⟩; rw [HX.out] at e; simp [e] at hXs))) (x1.trans x3)
          | exact FrRB.mk (HR.out.trans (if_pos ⟨hp, by rw [HX.out]; simpa using hXs⟩)) (hfr.ex x3) (x1.trans x3)
end Go.Proofs.YtfggacnkediolaaGreatDoor
