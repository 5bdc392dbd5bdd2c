/- The text of a polynomial: the program. -/
import Derived.Test.YtfggacnkediolaaGreatDoorPtB
import Derived.Test.YtfggacnkediolaaGreatDoorShR
import Derived.Laws.Concat
import Derived.Deep.RegionHeld3
import Derived.Maps.AppendAt
namespace Go.Proofs.YtfggacnkediolaaGreatDoor
set_option maxRecDepth 100000
open Go Go.RowKit Go.Shelf
attribute [local go_sem] Oper.semAt_some
set_option maxHeartbeats 1000000 in
theorem polyTerm_c (a e : Nat) (w : World) (ha : a < 97) (he : e < 41) : Calls Tryz.prog 44 #[.int .i64 a, .int .i64 e] w fun en w' => en = .returned (.string ⟨(ptT a e).toArray⟩) ∧ w' = w := by
  obtain ⟨X, hX⟩ : ∃ X, Lib.decDigits a = X := ⟨_, rfl⟩
  obtain ⟨Y, hY⟩ : ∃ Y, Lib.decDigits e = Y := ⟨_, rfl⟩
  obtain ⟨O, hO⟩ : ∃ O, Lib.decDigits 1 = O := ⟨_, rfl⟩
  have cX := fun W => Tryz.strconv_Itoa_small a (by omega) W
  have cY := fun W => Tryz.strconv_Itoa_small e (by omega) W
  have cO := fun W => Tryz.strconv_Itoa_small 1 (by omega) W
  have cZ := fun W => Tryz.strconv_Itoa_small 0 (by omega) W
  obtain ⟨Z, hZ⟩ : ∃ Z, Lib.decDigits 0 = Z := ⟨_, rfl⟩
  have hX2 : X.length ≤ 2 := by rw [← hX]; exact dec_len (by omega)
  have hY2 : Y.length ≤ 2 := by rw [← hY]; exact dec_len (by omega)
  have hO2 : O.length ≤ 2 := by rw [← hO]; exact dec_len (by omega)
  have hZ2 : Z.length ≤ 2 := by rw [← hZ]; exact dec_len (by omega)
  have HX := Lib.hid (show a = 1 → X = O from fun h => by rw [← hX, ← hO, h])
  have HZ := Lib.hid (show a = 0 → X = Z from fun h => by rw [← hX, ← hZ, h])
  have HS := Lib.hid (show ptT a e = ((if a ≠ 1 ∨ e = 0 then X else []) ++ (if 0 < e then [120] else [])) ++ (if 1 < e then 94 :: Y else []) by
    unfold ptT; rw [← hX, ← hY]
    have e1 : ((a : Int) ≠ 1 ∨ e = 0) ↔ (a ≠ 1 ∨ e = 0) := by omega
    simp only [e1, Int.toNat_natCast])
  rw [hX] at cX
  rw [hY] at cY
  rw [hO] at cO
  rw [hZ] at cZ
  clear hX hY hO hZ
  go_enter Tryz.func44, Tryz.ntmps44
  go_wp2_with (first
    | (go_at_call_of 66 (Value.int IntKind.i64 (a : Int)); refine (cX _).mono ?_; rintro e w3 ⟨rfl, rfl⟩)
    | (go_at_call_of 66 (Value.int IntKind.i64 1); refine (cO _).mono ?_; rintro e w3 ⟨rfl, rfl⟩)
    | (go_at_call_of 66 (Value.int IntKind.i64 0); refine (cZ _).mono ?_; rintro e w3 ⟨rfl, rfl⟩)
    | (go_at_call_of 66 (Value.int IntKind.i64 (e : Int)); refine (cY _).mono ?_; rintro e w3 ⟨rfl, rfl⟩))
  all_goals
    go_ret
    refine ⟨?_, rfl⟩
    rw [HS.out]
    have hx := HX.out
    have hz := HZ.out
    clear cX cY cO cZ HX HZ HS
    show Ending.returned (Value.string _) = Ending.returned (Value.string _)
    congr 2
    apply ByteArray.ext
    by_cases q2 : a = 1 <;> by_cases q3 : e = 0 <;> by_cases q4 : 1 < e <;> (try simp_all [ByteArray.data_append]) <;> first | (exfalso; omega) | (rw [if_pos (show 0 < e by omega)]; simp; done) | (rw [if_pos (show 0 < e by omega), if_neg (show ¬ 1 < e by omega)]; simp; done)
end Go.Proofs.YtfggacnkediolaaGreatDoor
