/- The text of a polynomial: the reference. -/
import Derived.Test.YtfggacnkediolaaGreatDoorPtA
import Derived.Test.YtfggacnkediolaaGreatDoorFrac
import Derived.Lib.SlBytesRow
import Derived.Laws.Concat
import Derived.Deep.RegionHeld3
import Derived.Deep.RegionLaw
namespace Go.Proofs.YtfggacnkediolaaGreatDoor
set_option maxRecDepth 100000
open Go Go.RowKit
open Go.Lib (Bytes run_convert_whole)
theorem run_conv2 (w : World) (b k : Nat) (hk : k < 256) (hv : w.cell? ⟨b, 0, none⟩ = some (.int .u8 (k : Int))) : (convert 74 9 (.slice (some ⟨b, 0, none⟩) 1 1)).run Tryz.prog w = .ok (.string ⟨#[UInt8.ofNat k]⟩) w := by
  have hb : Bytes w b 0 (⟨#[UInt8.ofNat k]⟩ : ByteArray) := fun i hi => by
    have h0 : i = 0 := by have : i < 1 := hi; omega
    subst h0
    have hn : ((⟨#[UInt8.ofNat k]⟩ : ByteArray)[0]'hi).toNat = k := by
      show (UInt8.ofNat k).toNat = k
      simp; omega
    rw [hn]
    exact hv
  exact run_convert_whole (P := Tryz.prog) _ 74 5 9 Tryz.underlying74 Tryz.underlying5 Tryz.underlying9 b 0 (⟨#[UInt8.ofNat k]⟩ : ByteArray) hb 1
theorem run_conv1 (w : World) (k : Nat) (hk : k < 256) : (convert 74 9 (.slice (some ⟨w.heap.size, 0, none⟩) 1 1)).run Tryz.prog (w.alloc (.cells #[.int .u8 (k : Int)] 5)) = .ok (.string ⟨#[UInt8.ofNat k]⟩) (w.alloc (.cells #[.int .u8 (k : Int)] 5)) :=
  run_conv2 _ _ k hk ((VB.new w 5 #[.int .u8 (k : Int)]).cell 0 (v := .int .u8 (k : Int)) rfl)
theorem str_app (x y : List UInt8) : (ByteArray.mk x.toArray ++ ByteArray.mk y.toArray) = ByteArray.mk (x ++ y).toArray := ByteArray.mk_append_mk x y
set_option maxHeartbeats 1000000 in
theorem l1Num_one (n : Nat) (hn : n < 10) (w : World) : Calls Tryz.prog 31 #[.int .i64 n] w fun e w' => e = .returned (.string ⟨(Lib.decDigits n).toArray⟩) ∧ Ex w w' := by
  have hc := run_conv1 w (48 + n) (by omega)
  obtain ⟨S, hS⟩ : ∃ S : ByteArray, (⟨#[UInt8.ofNat (48 + n)]⟩ : ByteArray) = S := ⟨_, rfl⟩
  have HD := Lib.hid (show (⟨(Lib.decDigits n).toArray⟩ : ByteArray) = S by rw [dec_small hn, ← hS])
  rw [hS] at hc
  clear hS
  go_enter Tryz.func31, Tryz.ntmps31
  go_wp2_with fail
  push_cast at hc
  rw [hc]
  go_wp2_with fail
  go_ret
  exact ⟨by rw [HD.out]; rfl, (Ex.refl w).alloc _⟩
set_option maxHeartbeats 400000 in
theorem l1Num_c (n : Nat) (hn : n < 100) (w : World) : Calls Tryz.prog 31 #[.int .i64 n] w fun e w' => e = .returned (.string ⟨(Lib.decDigits n).toArray⟩) ∧ Ex w w' := by
  by_cases h10 : n < 10
  · exact l1Num_one n h10 w
  · obtain ⟨S1, hS1⟩ : ∃ S : ByteArray, (⟨(Lib.decDigits (n / 10)).toArray⟩ : ByteArray) = S := ⟨_, rfl⟩
    obtain ⟨S2, hS2⟩ : ∃ S : ByteArray, (⟨#[UInt8.ofNat (48 + n % 10)]⟩ : ByteArray) = S := ⟨_, rfl⟩
    have HD := Lib.hid (show (⟨(Lib.decDigits n).toArray⟩ : ByteArray) = S1 ++ S2 by
      rw [dec_big h10, ← hS1, ← hS2]
      exact (str_app _ [UInt8.ofNat (48 + n % 10)]).symm)
    have hz1 : S1.size ≤ 2 := by rw [← hS1]; exact dec_len (by omega)
    have hz2 : S2.size ≤ 1 := by rw [← hS2]; exact Nat.le_refl 1
    have hsz : ¬ 9223372036854775807 < S1.size + S2.size := by omega
    obtain ⟨q, hq'⟩ : ∃ q, n / 10 = q := ⟨_, rfl⟩
    obtain ⟨r, hr'⟩ : ∃ r, n % 10 = r := ⟨_, rfl⟩
    have hq : Int.tdiv (n : Int) 10 = (q : Int) := by rw [Int.tdiv_eq_ediv_of_nonneg (by omega)]; omega
    have hr : Int.tmod (n : Int) 10 = (r : Int) := by rw [Int.tmod_eq_emod_of_nonneg (by omega)]; omega
    have hr10 : r < 10 := by omega
    have hwq : IntKind.i64.wrap (q : Int) = (q : Int) := IntWalk.i64_in _ (by omega)
    have hwr : IntKind.i64.wrap (r : Int) = (r : Int) := IntWalk.i64_in _ (by omega)
    have hq10 : q < 10 := by omega
    obtain ⟨d, hd⟩ : ∃ d, 48 + r = d := ⟨_, rfl⟩
    have hw48 : IntKind.i64.wrap (48 + (r : Int)) = (d : Int) := by rw [IntWalk.i64_in _ (by omega)]; omega
    have hw8 : IntKind.u8.wrap (d : Int) = (d : Int) := by simp [IntKind.wrap, IntKind.bits, IntKind.signed]; omega
    have hcv : ∀ W, _ := fun W => run_conv1 W d (by omega)
    have hcw := fun (W : World) (h : W.cell? ⟨w.heap.size, 0, none⟩ = some (.int .u8 (d : Int))) => run_conv2 W w.heap.size d (by omega) h
    have c0 : (w.alloc (.cells #[.int .u8 (d : Int)] 5)).cell? ⟨w.heap.size, 0, none⟩ = some (.int .u8 (d : Int)) := (VB.new w 5 #[.int .u8 (d : Int)]).cell 0 (v := .int .u8 (d : Int)) rfl
    have cL := fun W => l1Num_one q hq10 W
    rw [hr', hd] at hS2
    rw [hq'] at hS1
    rw [hS1] at cL
    rw [hS2] at hcv hcw
    have HCW := Lib.hid hcw
    clear hcw
    clear hS1 hS2 hq' hr' hd
    have hcd := HCW.out (w.alloc (.cells #[.int .u8 (d : Int)] 5)).drew c0
    go_enter Tryz.func31, Tryz.ntmps31
    go_wp2_with fail
    go_region_law (first
      | (go_simp
         go_at_call 31
         refine (cL _).mono ?_
         rintro e w2 ⟨rfl, x2⟩
         try have hcv2 := HCW.out w2 (cell_ex x2 (show World.cell? _ _ = _ from c0))))
    all_goals
      go_wp2_with fail
      go_ret
      refine ⟨by rw [HD.out]; rfl, ?_⟩
      first
        | exact ((Ex.refl w).drew.trans x2).alloc _
        | exact (Ex.refl w).drew.trans x2
        | exact ((Ex.refl w).drew.alloc _).trans x2
        | exact ((Ex.refl w).alloc _).drew.trans x2
set_option maxHeartbeats 1000000 in
theorem poText_c (A : Option Addr) (c : Nat) (f : List Int) (w : World) (h : Rd w A f) (hl : f.length ≤ 41) (hf : ∀ x ∈ f, 0 ≤ x ∧ x < 97) :
    Calls Tryz.prog 21 #[.slice A f.length c] w fun e w' => e = .returned (.string ⟨(ptX f).toArray⟩) ∧ Ex w w' := by
  have HF := Lib.hid hf
  clear hf
  go_enter Tryz.func21, Tryz.ntmps21
  go_wp2_with fail
  go_loopw [3, 4] (fun o i wr => ∃ (k : Nat) (l : List UInt8), k ≤ f.length ∧ o = .string ⟨l.toArray⟩ ∧ Hid (ptJ f k = l) ∧ i = .int .i64 ((f.length : Int) - 1 - k) ∧ Ex w wr) (fun _ i _ => (intOf i + 1).toNat)
  case atStart => exact ⟨0, [], Nat.zero_le _, rfl, Lib.hid rfl, by simp, Ex.refl _⟩
  case round =>
    rename World => wi
    obtain ⟨k, l, hk, rfl, HL, rfl, he⟩ := hrel
    have hll : l.length ≤ 287 := by rw [← HL.out]; exact ptJ_len hl HF.out hk
    by_cases hlt : k < f.length
    · obtain ⟨m, hm⟩ : ∃ m : Nat, m = f.length - 1 - k := ⟨_, rfl⟩
      have hmi : (f.length : Int) - 1 - (k : Int) = (m : Int) := by omega
      obtain ⟨b1, b2, b3, b4, b5⟩ := bw_small hlt hl HF.out
      obtain ⟨g, off, x, rfl, hx, hg, hcell⟩ := (h.ex he).at_ (k := m) (by omega)
      have ex : (bwAt f k).2 = x := by
        rw [← hm, hx] at b4
        injection b4 with b4
        exact b4.symm
      have em : (bwAt f k).1 = m := by rw [b5, hm]
      rw [ex] at b2 b3
      have hml : m < f.length := by omega
      have hm41 : m < 41 := by omega
      have hmi2 : (m : Int) < (f.length : Int) := by omega
      rw [hmi]
      have HM := Lib.hid hm
      by_cases h0 : x = 0
      · have HS := Lib.hid (ptJ_zero (f := f) (k := k) (by rw [ex]; exact h0))
        clear hm hmi b4 b5 ex em hx
        go_wp2_with fail
        go_roundw
        case rel => exact ⟨k + 1, l, by omega, rfl, Lib.hid (HS.out.trans HL.out), by have := HM.out; congr 1; omega, he⟩
        case measure => simp [RowKit.intOf]
      · have HS := Lib.hid (ptJ_more (f := f) (k := k) (by rw [ex]; exact h0))
        rw [ex, em, HL.out] at HS
        obtain ⟨xn, rfl⟩ : ∃ xn : Nat, x = (xn : Int) := ⟨x.toNat, by omega⟩
        have hxn : xn < 100 := by omega
        have hm100 : m < 100 := by omega
        obtain ⟨X, hX⟩ : ∃ X, Lib.decDigits xn = X := ⟨_, rfl⟩
        obtain ⟨Y, hY⟩ : ∃ Y, Lib.decDigits m = Y := ⟨_, rfl⟩
        have cX := fun W => l1Num_c xn hxn W
        have cY := fun W => l1Num_c m hm100 W
        have hX2 : X.length ≤ 2 := by rw [← hX]; exact dec_len hxn
        have hY2 : Y.length ≤ 2 := by rw [← hY]; exact dec_len hm100
        have HS2 := Lib.hid (show ptJ f (k + 1) = (if l = [] then [] else l ++ [43]) ++ (((if xn ≠ 1 ∨ m = 0 then X else []) ++ (if 0 < m then [120] else [])) ++ (if 1 < m then 94 :: Y else [])) by
          rw [HS.out]; unfold ptT; rw [← hX, ← hY]
          have e1 : ((xn : Int) ≠ 1 ∨ m = 0) ↔ (xn ≠ 1 ∨ m = 0) := by omega
          simp only [e1, Int.toNat_natCast])
        have cO := fun W => l1Num_c 1 (by omega) W
        have HX := Lib.hid (show xn = 1 → X = Lib.decDigits 1 from fun e => by rw [← hX, e])
        obtain ⟨O, hO⟩ : ∃ O, Lib.decDigits 1 = O := ⟨_, rfl⟩
        rw [hO] at cO HX
        have hO2 : O.length ≤ 2 := by rw [← hO]; exact dec_len (by omega)
        rw [hX] at cX
        rw [hY] at cY
        clear hm hmi b4 b5 ex em hx HS hX hY hO
        go_wp2_with (first
          | (go_at_call_of 31 (Value.int IntKind.i64 (xn : Int)); refine (cX _).mono ?_; rintro e w3 ⟨rfl, x3⟩)
          | (go_at_call_of 31 (Value.int IntKind.i64 1); refine (cO _).mono ?_; rintro e w3 ⟨rfl, x3⟩)
          | (go_at_call_of 31 (Value.int IntKind.i64 (m : Int)); refine (cY _).mono ?_; rintro e w4 ⟨rfl, x4⟩))
        all_goals
          go_roundw
          case rel =>
            refine ⟨k + 1, ptJ f (k + 1), by omega, ?_, Lib.hid rfl, by have := HM.out; congr 1; omega, ?_⟩
            · congr 1
              apply ByteArray.ext
              have hx := HX.out
              rw [HS2.out]
              clear HS2 HX HL HM HF h cX cY cO
              by_cases q1 : l = [] <;> by_cases q2 : xn = 1 <;> by_cases q3 : m = 0 <;> by_cases q4 : 1 < m <;> simp_all [ByteArray.data_append] <;> omega
            · first | exact he | exact he.trans x3 | exact he.trans x4 | exact (he.trans x3).trans x4
          case measure => simp [RowKit.intOf] <;> omega
    · obtain rfl : k = f.length := by omega
      have HE : Hid (l.isEmpty = true → ptX f = [48]) := Lib.hid fun e => by
        unfold ptX; rw [HL.out, if_pos (List.isEmpty_iff.1 e)]
      have HN : Hid (l.isEmpty = false → ptX f = l) := Lib.hid fun e => by
        unfold ptX; rw [HL.out, if_neg (fun h => by rw [h] at e; cases e)]
      go_wp2_with fail
      · go_ret
        refine ⟨?_, he⟩
        rw [HE.out (by assumption)]; rfl
      · go_ret
        refine ⟨?_, he⟩
        rw [HN.out (by assumption)]; rfl
theorem all_bd {p : Int} {f : List Int} (h : polyB p f = true) : f.length ≤ 41 ∧ ∀ x ∈ f, 0 ≤ x ∧ x < 97 := by
  have hP := polyB_parts h
  have h97 := fieldB_hi hP.1
  refine ⟨hP.2.1, fun x hx => ?_⟩
  obtain ⟨i, hi⟩ := List.getElem?_of_mem hx
  have := allEl_at hP.2.2.1 hi
  omega
end Go.Proofs.YtfggacnkediolaaGreatDoor
