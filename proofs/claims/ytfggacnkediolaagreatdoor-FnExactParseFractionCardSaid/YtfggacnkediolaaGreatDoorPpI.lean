/- Reading the text of a polynomial: the program reads a term. -/
import Derived.Test.YtfggacnkediolaaGreatDoorPpH
import Derived.Test.YtfggacnkediolaaGreatDoorPpF
namespace Go.Proofs.YtfggacnkediolaaGreatDoor
set_option maxRecDepth 100000
open Go Go.RowKit Go.Shelf
theorem index_one (c : UInt8) : ∀ l : List UInt8, Lib.index l [c] = if c ∈ l then ((l.takeWhile (· != c)).length : Int) else -1
  | [] => by simp [Lib.index]
  | b :: l => by
    have ih := index_one c l
    unfold Lib.index
    by_cases hb : b = c
    · subst hb
      simp
    · have h1 : ([c] : List UInt8).isPrefixOf (b :: l) = false := by simp [List.isPrefixOf]; exact fun e => hb e.symm
      have h2 : (b != c) = true := by rw [bne_iff_ne]; exact hb
      rw [h1, ih, List.takeWhile_cons, h2]
      by_cases hm : c ∈ l
      · have h3 : (((l.takeWhile (· != c)).length : Int) == -1) = false := by rw [beq_eq_false_iff_ne]; omega
        rw [if_pos hm, if_pos (List.mem_cons_of_mem _ hm), h3]
        simp
      · have h3 : ¬ c ∈ b :: l := by rw [List.mem_cons, not_or]; exact ⟨fun e => hb e.symm, hm⟩
        rw [if_neg hm, if_neg h3]
        simp
theorem cut_out {c : UInt8} {l : List UInt8} (h : c ∉ l) : Lib.cut l [c] = (l, [], false) := by
  unfold Lib.cut
  rw [index_one, if_neg h, if_neg (by decide)]
theorem cut_in {c : UInt8} {l : List UInt8} (h : c ∈ l) : Lib.cut l [c] = (l.takeWhile (· != c), l.drop ((l.takeWhile (· != c)).length + 1), true) := by
  unfold Lib.cut
  rw [index_one, if_pos h, if_pos (by omega), Int.toNat_natCast]
  have : l.take (l.takeWhile (· != c)).length = l.takeWhile (· != c) := (List.prefix_iff_eq_take.1 (List.takeWhile_prefix _)).symm
  rw [this]
  rfl
theorem tw_out {c : UInt8} : ∀ {l : List UInt8}, c ∉ l → l.takeWhile (· != c) = l
  | [], _ => rfl
  | b :: l, h => by
    rw [List.mem_cons, not_or] at h
    have h2 : (b != c) = true := by rw [bne_iff_ne]; exact fun e => h.1 e.symm
    rw [List.takeWhile_cons, h2, if_pos rfl, tw_out h.2]
theorem drop_tw {c : UInt8} : ∀ {l : List UInt8}, c ∈ l → l.drop (l.takeWhile (· != c)).length = c :: l.drop ((l.takeWhile (· != c)).length + 1)
  | [], h => by simp at h
  | b :: l, h => by
    by_cases hb : b = c
    · subst hb; simp
    · have h2 : (b != c) = true := by rw [bne_iff_ne]; exact hb
      have h3 : c ∈ l := by
        rcases List.mem_cons.1 h with e | h
        · exact (hb e.symm).elim
        · exact h
      rw [List.takeWhile_cons, h2, if_pos rfl, List.length_cons, List.drop_succ_cons, List.drop_succ_cons, drop_tw h3]
/-- The coefficient before the x. -/
def koI (l : List UInt8) : Option Int := if l = [] then some 1 else nuL l
theorem tmI_out {l : List UInt8} (h : (120 : UInt8) ∉ l) : tmI l = (koI l).map fun a => (a, 0) := by
  unfold tmI koI
  simp only [tw_out h, List.drop_length]
theorem tmI_x {l : List UInt8} (h : (120 : UInt8) ∈ l) (ht : l.drop ((l.takeWhile (· != 120)).length + 1) = []) : tmI l = (koI (l.takeWhile (· != 120))).map fun a => (a, 1) := by
  unfold tmI koI
  simp only [drop_tw h, ht]
theorem tmI_xn {l : List UInt8} {c : UInt8} {r : List UInt8} (h : (120 : UInt8) ∈ l) (ht : l.drop ((l.takeWhile (· != 120)).length + 1) = c :: r) : tmI l = if c = 94 then (match koI (l.takeWhile (· != 120)), nuL r with
    | some a, some e => some (a, e)
    | _, _ => none) else none := by
  unfold tmI koI
  simp only [drop_tw h, ht]
  rfl
/-- A term that has been read, and whether. -/
def TeB (w : World) (o : Option (Int × Int)) (e : Ending) (w' : World) : Prop := ∃ (a x : Int) (b : Bool), e = .returned (.tuple #[.int .i64 a, .int .i64 x, .bool b]) ∧ o = (if b = true then some (a, x) else none) ∧ Ex w w'
theorem number_l (l : List UInt8) (w : World) (hs : l.length ≤ 1048576) (hw : Wl w) : Calls Tryz.prog 62 #[.string ⟨l.toArray⟩] w fun e w' => NuB w (nuL l) e w' := by
  have := number_c ⟨l.toArray⟩ w (by show l.toArray.size ≤ _; simpa using hs) hw
  simpa using this
set_option maxHeartbeats 1000000 in
theorem parsePolyTerm_c (s : ByteArray) (w : World) (hs : s.size ≤ 1048576) (hw : Wl w) : Calls Tryz.prog 38 #[.string s] w fun e w' => TeB w (tmI s.data.toList) e w' := by
  have hsz := size_list s
  obtain ⟨m, hm⟩ := hw.2.1
  have HW := Lib.hid hw
  have cC := Tryz.strings_Cut s ⟨#[120]⟩ m w (by omega) hm
  obtain ⟨L, hL⟩ : ∃ L, s.data.toList = L := ⟨_, rfl⟩
  rw [hL] at cC hsz ⊢
  have e120 : (⟨#[120]⟩ : ByteArray).data.toList = [120] := rfl
  by_cases hx : (120 : UInt8) ∈ L
  · rw [e120, cut_in hx] at cC
    have HX := fun h => Lib.hid (tmI_x hx h)
    have HXN := fun c r h => Lib.hid (tmI_xn (c := c) (r := r) hx h)
    have hHl : (L.takeWhile (· != 120)).length ≤ L.length := (List.takeWhile_prefix _).length_le
    have hTl : (L.drop ((L.takeWhile (· != 120)).length + 1)).length ≤ L.length := by rw [List.length_drop]; omega
    generalize (L.drop ((L.takeWhile (· != 120)).length + 1)) = T at *
    generalize (L.takeWhile (· != 120)) = H at *
    have cN := fun W (h : Wl W) => number_l H W (by omega) h
    dsimp only at cC
    cases T with
    | nil =>
      have HT := HX rfl
      clear HX HXN hx hm hw e120
      by_cases h0 : H = []
      · subst h0
        clear cN
        go_enter Tryz.func38, Tryz.ntmps38
        go_wp2_with fail
        refine cC.mono ?_
        rintro e w2 ⟨rfl, n, rfl⟩
        go_wp2_with fail
        go_ret3
        exact ⟨1, 1, true, rfl, HT.out, (Ex.refl _).drewN n⟩
      · have hne : H.isEmpty = false := by cases H with
          | nil => exact (h0 rfl).elim
          | cons _ _ => rfl
        have HK := Lib.hid (show koI H = nuL H from if_neg h0)
        clear h0
        go_enter Tryz.func38, Tryz.ntmps38
        go_wp2_with fail
        refine cC.mono ?_
        rintro e w2 ⟨rfl, n, rfl⟩
        go_wp2_with fail
        refine (cN _ (HW.out.ex ((Ex.refl w).drewN n))).mono ?_
        rintro e w3 ⟨a, b, rfl, hab, x3⟩
        have Hab := Lib.hid hab
        clear hab
        go_wp2_with fail
        go_ret3
        refine ⟨a, 1, b, rfl, ?_, ((Ex.refl _).drewN n).trans x3⟩
        rw [HT.out, HK.out, Hab.out]
        cases b <;> rfl
    | cons c r =>
      have HT := HXN c r rfl
      have cP := Tryz.strings_CutPrefix ⟨(c :: r).toArray⟩ ⟨#[94]⟩
      have e94 : (⟨#[94]⟩ : ByteArray).data.toList = [94] := rfl
      have ecr : (⟨(c :: r).toArray⟩ : ByteArray).data.toList = c :: r := rfl
      have hpre : Lib.hasPrefix (c :: r) [94] = decide (c = 94) := by
        unfold Lib.hasPrefix
        rw [Bool.eq_iff_iff]
        simp [List.isPrefixOf]
        exact eq_comm
      rw [e94, ecr] at cP
      obtain ⟨D, hD⟩ : ∃ D, Lib.trimPrefix (c :: r) [94] = D := ⟨_, rfl⟩
      have hDl : D.length ≤ (c :: r).length := by
        rw [← hD]; unfold Lib.trimPrefix
        split
        · rw [List.length_drop]; omega
        · exact Nat.le_refl _
      have hDr : c = 94 → D = r := fun e => by rw [← hD]; unfold Lib.trimPrefix; rw [hpre, e]; rfl
      rw [hpre, hD] at cP
      obtain ⟨q, hq⟩ : ∃ q, decide (c = 94) = q := ⟨_, rfl⟩
      rw [hq] at cP
      have cD := fun W (h : Wl W) => number_l D W (by omega) h
      have Hq := Lib.hid hq
      have HDr := Lib.hid hDr
      obtain ⟨TV, hTV⟩ : ∃ TV : ByteArray, (⟨(c :: r).toArray⟩ : ByteArray) = TV := ⟨_, rfl⟩
      have hTe : TV.toList.isEmpty = false := by rw [← hTV, ByteArray.toList_mk]; rfl
      rw [hTV] at cC cP
      clear HX HXN hx hm hw e120 e94 ecr hpre hD hDl hDr hq hTV hTl
      have val : ∀ (a e : Int) (ok fine : Bool), koI H = (if ok = true then some a else none) → nuL D = (if fine = true then some e else none) → tmI L = (if (ok && q && fine) = true then some (a, e) else none) := fun a e ok fine h1 h2 => by
        rw [HT.out, h1]
        have hq := Hq.out
        by_cases h94 : c = 94
        · have e1 : q = true := by rw [← hq]; simp [h94]
          rw [if_pos h94, ← HDr.out h94, h2, e1]
          cases ok <;> cases fine <;> rfl
        · have e1 : q = false := by rw [← hq]; simp [h94]
          rw [if_neg h94, e1]
          cases ok <;> rfl
      have Hval := Lib.hid val
      clear val
      by_cases h0 : H = []
      · subst h0
        have HK := Lib.hid (show koI [] = some 1 from rfl)
        clear cN
        cases q
        all_goals
          go_enter Tryz.func38, Tryz.ntmps38
          go_wp2_with fail
          refine cC.mono ?_
          rintro e w2 ⟨rfl, n, rfl⟩
          go_wp2_with fail
          refine (cP _).mono ?_
          rintro e w3 ⟨rfl, rfl⟩
          go_wp2_with fail
          refine (cD _ (HW.out.ex ((Ex.refl w).drewN n))).mono ?_
          rintro e w4 ⟨x, fine, rfl, hfine, x4⟩
          have Hf := Lib.hid hfine
          clear hfine
          go_wp2_with fail
          go_ret3
          refine ⟨1, x, _, rfl, ?_, ((Ex.refl _).drewN n).trans x4⟩
          exact (Hval.out 1 x true fine HK.out Hf.out).trans (by cases fine <;> rfl)
      · have hne : H.isEmpty = false := by cases H with
          | nil => exact (h0 rfl).elim
          | cons _ _ => rfl
        have HK := Lib.hid (show koI H = nuL H from if_neg h0)
        clear h0
        cases q
        all_goals
          go_enter Tryz.func38, Tryz.ntmps38
          go_wp2_with fail
          refine cC.mono ?_
          rintro e w2 ⟨rfl, n, rfl⟩
          go_wp2_with fail
          refine (cN _ (HW.out.ex ((Ex.refl w).drewN n))).mono ?_
          rintro e w3 ⟨a, b, rfl, hab, x3⟩
          have Hab := Lib.hid hab
          clear hab
          go_wp2_with fail
          refine (cP _).mono ?_
          rintro e w3' ⟨rfl, rfl⟩
          go_wp2_with fail
          refine (cD _ (HW.out.ex (((Ex.refl w).drewN n).trans x3))).mono ?_
          rintro e w4 ⟨x, fine, rfl, hfine, x4⟩
          have Hf := Lib.hid hfine
          clear hfine
          cases b
          all_goals
            go_wp2_with fail
            go_ret3
            refine ⟨a, x, _, rfl, ?_, (((Ex.refl _).drewN n).trans x3).trans x4⟩
            first
              | exact (Hval.out a x true fine (HK.out.trans (by have := Hab.out; simpa using this)) Hf.out).trans (by cases fine <;> rfl)
              | exact (Hval.out a x false fine (HK.out.trans (by have := Hab.out; simpa using this)) Hf.out).trans (by cases fine <;> rfl)
  · rw [e120, cut_out hx] at cC
    have HT := Lib.hid (tmI_out hx)
    have cN := fun W (h : Wl W) => number_l L W (by omega) h
    by_cases h0 : L = []
    · subst h0
      have HT2 := Lib.hid (show tmI [] = some (1, 0) from rfl)
      clear hx hw hm cN
      go_enter Tryz.func38, Tryz.ntmps38
      go_wp2_with fail
      refine cC.mono ?_
      rintro e w2 ⟨rfl, n, rfl⟩
      go_wp2_with fail
      go_ret3
      exact ⟨1, 0, true, rfl, HT2.out, (Ex.refl _).drewN n⟩
    · have hne : L.isEmpty = false := by cases L with
        | nil => exact (h0 rfl).elim
        | cons _ _ => rfl
      have HK := Lib.hid (show koI L = nuL L from if_neg h0)
      clear hx hw hm h0
      go_enter Tryz.func38, Tryz.ntmps38
      go_wp2_with fail
      refine cC.mono ?_
      rintro e w2 ⟨rfl, n, rfl⟩
      go_wp2_with fail
      refine (cN _ (HW.out.ex ((Ex.refl w).drewN n))).mono ?_
      rintro e w3 ⟨a, b, rfl, hab, x3⟩
      have Hab := Lib.hid hab
      clear hab
      go_wp2_with fail
      go_ret3
      refine ⟨a, 0, b, rfl, ?_, ((Ex.refl _).drewN n).trans x3⟩
      rw [HT.out, HK.out, Hab.out]
      cases b <;> rfl
end Go.Proofs.YtfggacnkediolaaGreatDoor
