/- Reading the text of a polynomial: the reference reads a number and a term. -/
import Derived.Test.YtfggacnkediolaaGreatDoorPpE
namespace Go.Proofs.YtfggacnkediolaaGreatDoor
set_option maxRecDepth 100000
open Go Go.RowKit
theorem rdN_snoc (l : List UInt8) (c : UInt8) : rdN (l ++ [c]) = 10 * rdN l + (c.toNat - 48) := by simp [rdN]
theorem rdN_lt : ∀ (n : Nat) (l : List UInt8), l.length = n → l.all isDig = true → rdN l < 10 ^ n
  | 0, l, hl, _ => by rw [List.eq_nil_of_length_eq_zero hl]; simp [rdN]
  | n + 1, l, hl, h => by
    rcases List.eq_nil_or_concat l with rfl | ⟨l', c, rfl⟩
    · simp at hl
    · rw [List.concat_eq_append] at h hl ⊢
      rw [List.length_append, List.length_singleton] at hl
      rw [List.all_append, Bool.and_eq_true] at h
      have h1 := rdN_lt n l' (by omega) h.1
      have h2 : isDig c = true := by simpa using h.2
      simp only [isDig, Bool.and_eq_true, decide_eq_true_eq] at h2
      rw [rdN_snoc, Nat.pow_succ]
      omega
theorem take_snoc {s : List UInt8} {k : Nat} {c : UInt8} (h : s[k]? = some c) : s.take (k + 1) = s.take k ++ [c] := by
  rw [List.take_add_one, h]; rfl
theorem rdL_bad {l : List UInt8} {k : Nat} {c : UInt8} (h : l[k]? = some c) (hc : isDig c = false) : rdL l = -1 := by
  unfold rdL
  refine if_neg fun e => ?_
  have := List.all_eq_true.1 e.2.2.2 c (List.mem_of_getElem? h)
  rw [hc] at this; cases this
theorem tw_take : ∀ {l : List UInt8} {n : Nat}, 120 ∉ l.take n → (n = l.length ∨ l[n]? = some 120) → l.takeWhile (· != 120) = l.take n
  | [], n, _, _ => by simp
  | c :: l, 0, _, h => by
    rcases h with h | h
    · simp at h
    · simp at h; simp [h]
  | c :: l, n + 1, hn, h => by
    rw [List.take_succ_cons, List.mem_cons, not_or] at hn
    have hc : (c != 120) = true := by rw [bne_iff_ne]; exact fun e => hn.1 e.symm
    rw [List.takeWhile_cons, hc, if_pos rfl, List.take_succ_cons, tw_take hn.2 (by
      rcases h with h | h
      · left; simpa using h
      · right; simpa using h)]
set_option maxHeartbeats 1000000 in
theorem l1Read_c (s : ByteArray) (w : World) : Calls Tryz.prog 30 #[.string s] w fun e w' => e = .returned (.int .i64 (rdL s.data.toList)) ∧ w = w' := by
  have hsz := size_list s
  by_cases hin : 1 ≤ s.size ∧ s.size ≤ 6
  case neg =>
    have HR := Lib.hid (show rdL s.data.toList = -1 from if_neg (by rw [← hsz]; omega))
    have hb : inB 1 6 (s.size : Int) = false := by simp [inB]; omega
    clear hsz hin
    go_enter Tryz.func30, Tryz.ntmps30
    go_wp2_with fail
    refine (l1In_c _ _ _ _).mono ?_
    rintro e _ ⟨rfl, rfl⟩
    rw [hb]
    go_wp2_with fail
    go_ret
    exact ⟨by rw [HR.out]; rfl, rfl⟩
  obtain ⟨h1, h6⟩ := hin
  have hb : inB 1 6 (s.size : Int) = true := by simp [inB]; omega
  have h0 := at_list s 0 (by omega)
  have hlt0 : 0 < s.size := by omega
  obtain ⟨c0, hc0⟩ : ∃ c0, s[0]'(by omega) = c0 := ⟨_, rfl⟩
  rw [hc0] at h0
  by_cases hz : c0.toNat = 48 ∧ 1 < s.size
  case pos =>
    obtain ⟨z1, z2⟩ := hz
    have HR := Lib.hid (show rdL s.data.toList = -1 from if_neg (by
      rintro ⟨_, _, h3, _⟩
      exact h3 ⟨by rw [List.head?_eq_getElem?, h0, UInt8.toNat_inj.1 (show c0.toNat = (48 : UInt8).toNat from z1)], by rw [← hsz]; exact z2⟩))
    have z3 : (c0.toNat : Int) = 48 := by omega
    clear hsz h0
    go_enter Tryz.func30, Tryz.ntmps30
    go_wp2_with fail
    refine (l1In_c _ _ _ _).mono ?_
    rintro e _ ⟨rfl, rfl⟩
    rw [hb]
    go_wp2_with fail
    go_ret
    exact ⟨by rw [HR.out]; rfl, rfl⟩
  case neg =>
    have hz' : (c0.toNat : Int) = 48 → ¬ (1 < (s.size : Int)) := fun e h => hz ⟨by omega, by omega⟩
    have HL := Lib.hid (show (∀ j, j < s.size → ∀ c, s.data.toList[j]? = some c → isDig c = true) → rdL s.data.toList = (rdN s.data.toList : Int) from fun h => if_pos ⟨by omega, by omega, fun e => by
      obtain ⟨e1, e2⟩ := e
      rw [List.head?_eq_getElem?, h0] at e1
      injection e1 with e1
      exact hz ⟨by rw [e1]; rfl, by omega⟩, List.all_eq_true.2 fun c hc => by
        obtain ⟨j, hj⟩ := List.getElem?_of_mem hc
        exact h j (by rw [hsz]; exact (List.getElem?_eq_some_iff.1 hj).1) c hj⟩)
    have Hsz := Lib.hid hsz
    clear hsz h0 hz
    have start : ∀ K : Prop, K → K := fun _ h => h
    by_cases q0 : (c0.toNat : Int) = 48
    all_goals
      try have q1 := hz' q0
      clear hz'
      go_enter Tryz.func30, Tryz.ntmps30
      go_wp2_with fail
      refine (l1In_c _ _ _ _).mono ?_
      rintro e _ ⟨rfl, rfl⟩
      rw [hb]
      go_wp2_with fail
      go_loop [3, 4] (fun q i => ∃ k : Nat, k ≤ s.size ∧ i = .int .i64 k ∧ q = .int .i64 (rdN (s.data.toList.take k) : Int) ∧ Hid ((s.data.toList.take k).all isDig = true)) (fun _ i => s.size - (intOf i).toNat)
      case atStart => exact ⟨0, Nat.zero_le _, rfl, rfl, Lib.hid rfl⟩
      case round =>
        obtain ⟨k, hk, rfl, rfl, Hall⟩ := hrel
        have hbd := rdN_lt k (s.data.toList.take k) (by rw [List.length_take, ← Hsz.out]; omega) Hall.out
        by_cases hlt : k < s.size
        · have hbd5 : rdN (s.data.toList.take k) < 100000 := Nat.lt_of_lt_of_le hbd (Nat.pow_le_pow_right (by decide) (by omega) : 10 ^ k ≤ 10 ^ 5)
          have hat := at_list s k hlt
          obtain ⟨c, hc⟩ : ∃ c, s[k]'hlt = c := ⟨_, rfl⟩
          obtain ⟨n, hn⟩ : ∃ n, rdN (s.data.toList.take k) = n := ⟨_, rfl⟩
          rw [hc] at hat
          have HN := Lib.hid (show rdN (s.data.toList.take (k + 1)) = 10 * n + (c.toNat - 48) by rw [take_snoc hat, rdN_snoc, hn])
          have HA := Lib.hid (show isDig c = true → (s.data.toList.take (k + 1)).all isDig = true from fun h => by rw [take_snoc hat, List.all_append, Hall.out]; simpa using h)
          have HB := Lib.hid (show isDig c = false → rdL s.data.toList = -1 from rdL_bad hat)
          obtain ⟨d, hd⟩ : ∃ d, c.toNat = d := ⟨_, rfl⟩
          have hd256 : d < 256 := by rw [← hd]; exact c.toNat_lt
          have HD := Lib.hid (show isDig c = (decide (48 ≤ d) && decide (d ≤ 57)) by rw [isDig, hd])
          rw [hd] at HN
          rw [hn] at hbd5 ⊢
          clear hat hbd hn
          by_cases d1 : (d : Int) < 48
          · have HR := Lib.hid (HB.out (by rw [HD.out]; simp; omega))
            go_wp2_with fail
            go_ret
            exact ⟨by rw [HR.out]; rfl, rfl⟩
          · by_cases d2 : (57 : Int) < (d : Int)
            · have HR := Lib.hid (HB.out (by rw [HD.out]; simp; omega))
              go_wp2_with fail
              go_ret
              exact ⟨by rw [HR.out]; rfl, rfl⟩
            · have HK := Lib.hid (HA.out (by rw [HD.out]; simp; omega))
              have w1 : IntKind.u8.wrap ((d : Int) - 48) = (d : Int) - 48 := by simp [IntKind.wrap, IntKind.bits, IntKind.signed]; omega
              have w2 : IntKind.i64.wrap (10 * (n : Int)) = 10 * (n : Int) := IntWalk.i64_in _ (by omega)
              have w3 : IntKind.i64.wrap ((d : Int) - 48) = (d : Int) - 48 := IntWalk.i64_in _ (by omega)
              have w4 : IntKind.i64.wrap (10 * (n : Int) + ((d : Int) - 48)) = 10 * (n : Int) + ((d : Int) - 48) := IntWalk.i64_in _ (by omega)
              go_wp2_with fail
              go_roundw
              case rel => exact ⟨k + 1, by omega, by go_num, by rw [HN.out]; congr 1; push_cast; omega, HK⟩
              case measure => simp [intOf]; omega
        · obtain rfl : k = s.size := by omega
          have e : s.data.toList.take s.size = s.data.toList := List.take_of_length_le (by rw [← Hsz.out]; exact Nat.le_refl _)
          have HR := Lib.hid (show rdL s.data.toList = (rdN (s.data.toList.take s.size) : Int) by
            rw [e]
            refine HL.out fun j _ c hc => ?_
            rw [e] at Hall
            exact List.all_eq_true.1 Hall.out c (List.mem_of_getElem? hc))
          clear hbd e
          go_wp2_with fail
          go_ret
          exact ⟨by rw [HR.out]; rfl, rfl⟩
set_option maxHeartbeats 1000000 in
theorem poTerm_c (s : ByteArray) (w : World) (hs : s.size ≤ 1048576) : Calls Tryz.prog 19 #[.string s] w fun e w' => e = .returned (.tuple #[.int .i64 (tmS s.data.toList).1, .int .i64 (tmS s.data.toList).2]) ∧ w = w' := by
  have Hsz := Lib.hid (size_list s)
  go_enter Tryz.func19, Tryz.ntmps19
  go_wp2_with fail
  go_loop [4] (fun i => ∃ k : Nat, k ≤ s.size ∧ i = .int .i64 k ∧ Hid (120 ∉ s.data.toList.take k)) (fun i => s.size - (intOf i).toNat)
  case atStart => exact ⟨0, Nat.zero_le _, rfl, Lib.hid (by simp)⟩
  case round =>
    obtain ⟨k, hk, rfl, Hn⟩ := hrel
    by_cases hlt : k < s.size
    · have hat := at_list s k hlt
      obtain ⟨c, hc⟩ : ∃ c, s[k]'hlt = c := ⟨_, rfl⟩
      rw [hc] at hat
      by_cases hx : c = 120
      · subst hx
        have HW := Lib.hid (tw_take Hn.out (.inr hat))
        have e2 : s.data.toList.drop k = 120 :: s.data.toList.drop (k + 1) := drop_cons_at hat
        obtain ⟨K, hK⟩ : ∃ K, (if s.data.toList.take k = [] then 1 else rdL (s.data.toList.take k)) = K := ⟨_, rfl⟩
        have htl : (s.data.toList.take k).length = k := by rw [List.length_take, ← Hsz.out]; omega
        have HT := Lib.hid (show tmS s.data.toList = match s.data.toList.drop k with
            | [] => (if s.data.toList = [] then -1 else K, 0)
            | [_] => (K, 1)
            | _ :: c :: r => if c = 94 then (K, rdL r) else (K, -1) by
          unfold tmS
          simp only [HW.out]
          rw [hK, htl]
          rfl)
        have hx2 : ((120 : UInt8).toNat : Int) = 120 := rfl
        have hL : ¬ ((k : Int) = (s.size : Int)) := by omega
        have ends : ∀ r : List UInt8, s.data.toList.drop (k + 1) = r → tmS s.data.toList = match r with
            | [] => (K, 1)
            | c :: r => if c = 94 then (K, rdL r) else (K, -1) := fun r hr => by
          rw [HT.out, e2, hr]
          cases r <;> rfl
        have cR := l1Read_c (s.extract 0 k)
        rw [ext_list _ _ _ hk, List.drop_zero, Nat.sub_zero] at cR
        have HEnds := Lib.hid ends
        have HK2 := Lib.hid (show k = 0 → K = 1 from fun e => by rw [← hK, e]; simp)
        have HK3 := Lib.hid (show 0 < k → rdL (s.data.toList.take k) = K from fun e => by rw [← hK, if_neg (fun h => by rw [h] at htl; simp at htl; omega)])
        clear hat e2 htl hK ends
        by_cases h1 : k + 1 = s.size
        · have HR := Lib.hid (HEnds.out [] (List.eq_nil_of_length_eq_zero (by rw [List.length_drop, ← Hsz.out]; omega)))
          have h1' : (k : Int) + 1 = (s.size : Int) := by omega
          clear h1
          by_cases h0 : k = 0
          · subst h0
            have e1 := HK2.out rfl
            subst e1
            clear cR
            go_wp2_with fail
            go_ret2
            exact ⟨by rw [HR.out]; rfl, rfl⟩
          · have h0' : (0 : Int) < (k : Int) := by omega
            rw [HK3.out (by omega)] at cR
            go_wp2_with fail
            refine (cR _).mono ?_
            rintro e _ ⟨rfl, rfl⟩
            go_wp2_with fail
            go_ret2
            exact ⟨by rw [HR.out]; rfl, rfl⟩
        · have hlt2 : k + 1 < s.size := by omega
          have hat2 := at_list s (k + 1) hlt2
          obtain ⟨c2, hc2⟩ : ∃ c2, s[k + 1]'hlt2 = c2 := ⟨_, rfl⟩
          rw [hc2] at hat2
          have HR := Lib.hid (HEnds.out _ (drop_cons_at hat2))
          have h1' : ¬ ((k : Int) + 1 = (s.size : Int)) := by omega
          have cT := l1Read_c (s.extract (k + 2) s.size)
          rw [ext_list _ _ _ (Nat.le_refl _), List.take_of_length_le (by rw [List.length_drop, ← Hsz.out]; exact Nat.le_refl _)] at cT
          have w1 : IntKind.i64.wrap ((k : Int) + 1) = ((k + 1 : Nat) : Int) := by rw [IntWalk.i64_in _ (by omega)]; rfl
          have w2 : IntKind.i64.wrap ((k : Int) + 2) = ((k + 2 : Nat) : Int) := by rw [IntWalk.i64_in _ (by omega)]; rfl
          have hk2 : k + 2 ≤ s.size := by omega
          have HC := Lib.hid hat2
          clear h1 hat2
          by_cases h94 : c2 = 94
          · have h94' : (c2.toNat : Int) = 94 := by rw [h94]; rfl
            have HR2 := Lib.hid (HR.out.trans (if_pos h94))
            clear h94
            by_cases h0 : k = 0
            · subst h0
              have e1 := HK2.out rfl
              subst e1
              clear cR
              go_wp2_with fail
              refine (cT _).mono ?_
              rintro e _ ⟨rfl, rfl⟩
              go_wp2_with fail
              go_ret2
              exact ⟨by rw [HR2.out]; rfl, rfl⟩
            · have h0' : (0 : Int) < (k : Int) := by omega
              rw [HK3.out (by omega)] at cR
              go_wp2_with fail
              refine (cR _).mono ?_
              rintro e _ ⟨rfl, rfl⟩
              go_wp2_with fail
              refine (cT _).mono ?_
              rintro e _ ⟨rfl, rfl⟩
              go_wp2_with fail
              go_ret2
              exact ⟨by rw [HR2.out]; rfl, rfl⟩
          · have h94' : ¬ ((c2.toNat : Int) = 94) := fun e => h94 (UInt8.toNat_inj.1 (by show c2.toNat = 94; omega))
            have HR2 := Lib.hid (HR.out.trans (if_neg h94))
            clear h94 cT
            by_cases h0 : k = 0
            · subst h0
              have e1 := HK2.out rfl
              subst e1
              clear cR
              go_wp2_with fail
              go_ret2
              exact ⟨by rw [HR2.out]; rfl, rfl⟩
            · have h0' : (0 : Int) < (k : Int) := by omega
              rw [HK3.out (by omega)] at cR
              go_wp2_with fail
              refine (cR _).mono ?_
              rintro e _ ⟨rfl, rfl⟩
              go_wp2_with fail
              go_ret2
              exact ⟨by rw [HR2.out]; rfl, rfl⟩
      · have hx2 : ¬ ((c.toNat : Int) = 120) := fun e => hx (UInt8.toNat_inj.1 (by show c.toNat = 120; omega))
        have HK := Lib.hid (show 120 ∉ s.data.toList.take (k + 1) by
          rw [take_snoc hat, List.mem_append, List.mem_singleton]
          rintro (h | h)
          · exact Hn.out h
          · exact hx h.symm)
        clear hat
        go_wp2_with fail
        go_roundw
        case rel => exact ⟨k + 1, by omega, by go_num, HK⟩
        case measure => simp [intOf]; omega
    · obtain rfl : k = s.size := by omega
      have e : s.data.toList.take s.size = s.data.toList := List.take_of_length_le (by rw [← Hsz.out]; exact Nat.le_refl _)
      have HW := Lib.hid (tw_take Hn.out (.inl Hsz.out))
      rw [e] at HW
      have HD := Lib.hid (show s.data.toList.drop s.data.toList.length = [] from List.drop_length)
      by_cases h0 : s.size = 0
      · have e0 : s.data.toList = [] := List.eq_nil_of_length_eq_zero (by rw [← Hsz.out]; exact h0)
        have HR := Lib.hid (show tmS s.data.toList = (-1, 0) by rw [e0]; rfl)
        have hz : (s.size : Int) = 0 := by omega
        have hE : s.toList.isEmpty = true := by rw [ByteArray.toList_eq, e0]; rfl
        clear h0 e0 e
        go_wp2_with fail
        go_ret2
        exact ⟨by rw [HR.out]; rfl, rfl⟩
      · have hz : (0 : Int) < (s.size : Int) := by omega
        have HR := Lib.hid (show tmS s.data.toList = (rdL s.data.toList, 0) by
          have hne : s.data.toList ≠ [] := fun e => h0 (by rw [Hsz.out, e]; rfl)
          unfold tmS
          simp only [HW.out, List.drop_length, if_neg hne])
        have cR := l1Read_c s
        have hE : s.toList.isEmpty = false := by
          rw [ByteArray.toList_eq]
          cases he : s.data.toList with
          | nil => exact (h0 (by rw [Hsz.out, he]; rfl)).elim
          | cons _ _ => rfl
        clear e h0
        go_wp2_with fail
        refine (cR _).mono ?_
        rintro e _ ⟨rfl, rfl⟩
        go_wp2_with fail
        go_ret2
        exact ⟨by rw [HR.out]; rfl, rfl⟩
end Go.Proofs.YtfggacnkediolaaGreatDoor
