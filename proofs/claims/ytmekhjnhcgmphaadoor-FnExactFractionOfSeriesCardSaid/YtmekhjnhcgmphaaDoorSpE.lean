/- The reference's recurrence of a given length. -/
import Derived.Test.YtmekhjnhcgmphaaDoorSpD
import Derived.Test.YtmekhjnhcgmphaaDoorBmF
namespace Go.Proofs.YtmekhjnhcgmphaaDoor
set_option maxRecDepth 100000
open Go Go.RowKit
theorem frRow_at {s : List Int} {m k i : Nat} (hi : i ≤ m) : (frRow s m k)[i]? = some (cf s (k - i)) := by
  unfold frRow
  rw [List.getElem?_map, List.getElem?_range (by omega)]; rfl
theorem frRow_len (s : List Int) (m k : Nat) : (frRow s m k).length = m + 1 := by simp [frRow]
theorem frRow_one (s : List Int) (m k : Nat) : (frRow s m k).take 1 = [cf s k] := by
  rw [List.take_add_one, frRow_at (Nat.zero_le _)]; rfl
theorem frRow_succ {s : List Int} {m k i : Nat} (hi : i ≤ m) : (frRow s m k).take (i + 1) = (frRow s m k).take i ++ [cf s (k - i)] := by
  rw [List.take_add_one, frRow_at hi]; rfl
theorem frRows_at {s : List Int} {m t : Nat} (ht : t < s.length - m) : (frRows s m)[t]? = some (frRow s m (m + t)) := by
  unfold frRows
  rw [List.getElem?_map, List.getElem?_range ht]; rfl
theorem frRows_len (s : List Int) (m : Nat) : (frRows s m).length = s.length - m := by simp [frRows]
theorem frRows_succ {s : List Int} {m t : Nat} (ht : t < s.length - m) : (frRows s m).take (t + 1) = (frRows s m).take t ++ [frRow s m (m + t)] := by
  rw [List.take_add_one, frRows_at ht]; rfl
theorem find_at {L : List (List Int)} {t : Nat} {v : List Int} (ht : L[t]? = some v) (hv : cf v 0 ≠ 0) (h : ∀ (i : Nat) (u : List Int), i < t → L[i]? = some u → cf u 0 = 0) : L.find? (fun v => cf v 0 != 0) = some v := by
  rw [List.find?_eq_some_iff_getElem]
  have hl := (List.getElem?_eq_some_iff.1 ht).1
  refine ⟨by simpa using hv, t, hl, (List.getElem?_eq_some_iff.1 ht).2, fun j hj => ?_⟩
  have := h j _ hj (List.getElem?_eq_getElem (by omega))
  simp [this]
theorem find_no {L : List (List Int)} (h : ∀ (i : Nat) (u : List Int), L[i]? = some u → cf u 0 = 0) : L.find? (fun v => cf v 0 != 0) = none := by
  rw [List.find?_eq_none]
  intro u hu
  obtain ⟨i, hi⟩ := List.getElem?_of_mem hu
  simp [h i u hi]
theorem AL.unit (w : World) {B : Nat} (x : Int) (hB : B ≤ w.heap.size) : AL (w.alloc (iObj [x])) B (.slice (some ⟨w.heap.size, 0, none⟩) 1 1) [x] :=
  ⟨rfl, .inr ⟨w.heap.size, 1, #[.int .i64 x], rfl, hB, heap_alloc_new w _, Nat.le_refl _, by decide, rfl, rfl⟩⟩
theorem Rd.drop_k1 {w : World} {g off : Nat} {xs : List Int} (h : Rd w (some ⟨g, off, none⟩) xs) (k : Nat) : Rd w (some ⟨g, off + k, none⟩) (xs.drop k) :=
  ⟨by have := h.1; rw [List.length_drop]; omega, fun j hj => by
    rw [List.length_drop] at hj
    obtain ⟨g', off', hA, hc⟩ := h.2 (k + j) (by omega)
    injection hA with hA
    injection hA with e1 e2 _
    subst e1 e2
    refine ⟨g, off + k, rfl, ?_⟩
    rw [Nat.add_assoc, hc, List.getElem?_drop]⟩
/-- What frRecurrence hands out. -/
def RecO (w : World) (o : Option (List Int)) (e : Ending) (w' : World) : Prop :=
  Ex w w' ∧ match o with
    | none => e = .returned (.tuple #[.slice none 0 0, .bool false])
    | some v => ∃ A c, e = .returned (.tuple #[.slice A v.length c, .bool true]) ∧ Rd w' A v
set_option maxHeartbeats 16000000 in
theorem frRecurrence_c (p : Int) (s : List Int) (m : Nat) (A : Option Addr) (c : Nat) (w : World) (hF : fieldB p = true) (h : Rd w A s) (hs : allEl p s = true) (hl : s.length ≤ 60) (hm : m ≤ s.length) :
    Calls Tryd.prog 60 #[.int .i64 p, .slice A s.length c, .int .i64 m] w fun e w' => RecO w (recS p s m) e w' := by
  have h2 := fieldB_lo hF
  have h97 := fieldB_hi hF
  have HF := Lib.hid hF
  have Hs := Lib.hid hs
  obtain ⟨N, hN⟩ : ∃ N, s.length = N := ⟨_, rfl⟩
  have HN := Lib.hid hN
  rw [hN] at hl hm ⊢
  clear hF hs hN
  go_enter Tryd.func60, Tryd.ntmps60
  go_wp2_with fail
  go_loopw [8, 9] (fun s8 s9 wr => ∃ t : Nat, t ≤ N - m ∧ s9 = .int .i64 ((m + t : Nat) : Int) ∧ GE ELI 38 wr w.heap.size wr.heap.size s8 ((frRows s m).take t) ∧ Ex w wr) (fun _ s9 _ => N - (intOf s9).toNat)
  case atStart => exact ⟨0, Nat.zero_le _, rfl, GE.nil _ _ _ _ _, Ex.refl _⟩
  case round =>
    rename World => wk
    obtain ⟨t, ht, rfl, hge, hek⟩ := hrel
    obtain ⟨k, hk⟩ : ∃ k, m + t = k := ⟨_, rfl⟩
    rw [hk]
    have hzk := hek.size
    by_cases hkN : k < N
    · obtain ⟨g, off, x, rfl, hx, hg, hc⟩ := (h.ex hek).at_ (by rw [HN.out]; exact hkN)
      have HT := Lib.hid (frRows_succ (s := s) (m := m) (t := t) (by rw [HN.out]; omega))
      rw [hk] at HT
      have htl := List.length_take_le t (frRows s m)
      have H1 := Lib.hid (frRow_one s m k)
      rw [cf_of hx] at H1
      have hr1 : AL (wk.alloc (.cells #[.int .i64 x] 3)) wk.heap.size (.slice (some ⟨wk.heap.size, 0, none⟩) 1 1) ((frRow s m k).take 1) := by rw [H1.out]; exact AL.unit wk x (Nat.le_refl _)
      have y1 := (Ex.refl wk).alloc (.cells #[.int .i64 x] 3)
      have hkt : k - m = t := by omega
      clear hx H1
      go_wp2_with fail
      generalize wk.alloc (.cells #[.int .i64 x] 3) = W1 at *
      go_loopw [10, 11] (fun s10 s11 wr => ∃ i : Nat, 1 ≤ i ∧ i ≤ m + 1 ∧ s11 = .int .i64 i ∧ AL wr wk.heap.size s10 ((frRow s m k).take i) ∧ Ex wk wr) (fun _ s11 _ => m + 1 - (intOf s11).toNat)
      case atStart => exact ⟨1, Nat.le_refl _, by omega, rfl, hr1, y1⟩
      case round =>
        rename World => wi
        clear hr1 y1
        obtain ⟨i, hi1, him, rfl, hal, hei⟩ := hrel
        have hzi := hei.size
        by_cases hil : i ≤ m
        · obtain ⟨g', off', y, eA, hy, hg', hc'⟩ := (h.ex (hek.trans hei)).at_ (k := k - i) (by rw [HN.out]; omega)
          injection eA with eA
          injection eA with eA eB
          subst eA eB
          have HS := Lib.hid (frRow_succ (s := s) (k := k) hil)
          rw [cf_of hy] at HS
          have htl2 := List.length_take_le i (frRow s m k)
          obtain ⟨v', w2, hrun, hal2, hex2⟩ := al_push wi wk.heap.size _ _ y hal hzi (by omega)
          rw [← HS.out] at hal2
          have x2 := hex2 wk hei (Nat.le_refl _)
          have e1 : IntKind.i64.wrap ((k : Int) - (i : Int)) = ((k - i : Nat) : Int) := by rw [IntWalk.i64_in _ (by omega)]; omega
          have i1 : k - i < N := by omega
          clear hy hex2 HS htl2 hal
          go_wp2_with (at_builtin; refine wpList_append_run rfl _ _ _ rfl rfl rfl hrun ?_)
          go_roundw
          case rel => exact ⟨i + 1, by omega, by omega, by go_num, hal2, x2⟩
          case measure => simp [intOf]; omega
        · have hie : i = m + 1 := by omega
          subst hie
          rw [List.take_of_length_le (by rw [frRow_len]; exact Nat.le_refl _)] at hal
          obtain ⟨A1, c1, rfl, hf1⟩ := hal.form (by rw [frRow_len]; omega)
          have hne : A1 ≠ none := fun e => by
            subst e
            have := hal.2
            rcases this with ⟨_, e2⟩ | ⟨_, _, _, e2, _⟩
            · rw [frRow_len] at e2; omega
            · cases e2
          cases A1 with
          | none => exact (hne rfl).elim
          | some a1 =>
            obtain ⟨g1, o1, t1⟩ := a1
            have ht1 : t1 = none := by
              rcases hal.2 with ⟨e2, _⟩ | ⟨_, _, _, e2, _⟩
              · cases e2
              · injection e2 with e2; injection e2 with e2; injection e2
            subst ht1
            obtain ⟨rfl, _, hc1, hg1, hO1⟩ := hal.own
            obtain ⟨v', w2, hrun, hge2, hE2⟩ := push_own (hge.ex hei) hzi hO1 hc1 hg1 hzk (by omega)
            rw [← HT.out] at hge2
            have x2 := hE2 w (hek.trans hei) (Nat.le_refl _)
            rw [frRow_len] at hrun ⊢
            clear hE2 HT htl hge hal hne hf1 hO1
            subst hk
            go_wp2_with (at_builtin; refine wpList_append_run rfl _ _ _ rfl rfl rfl hrun ?_)
            go_roundw
            case rel => exact ⟨t + 1, by omega, by go_num, hge2, x2⟩
            case measure => simp [intOf]; omega
    · have htt : t = N - m := by omega
      subst htt
      rw [List.take_of_length_le (by rw [frRows_len, HN.out]; exact Nat.le_refl _)] at hge
      have hwr := frRows_wid s m
      have her : AllM p (frRows s m) := frRows_el (by omega) Hs.out m
      have hlr : (frRows s m).length = N - m := by rw [frRows_len, HN.out]
      obtain ⟨A2, c2, rfl, hA2⟩ := hge.rdm hwr (by omega) (by omega)
      have cN := spNull_c p (m + 1) (frRows s m) A2 c2 wk HF.out hA2 hwr her (by omega) (by omega)
      have HV := Lib.hid (sp_lead HF.out (n := m + 1) (by omega) hwr her).2
      have HRC := Lib.hid (show recS p s m = (((zpOps p).spNull (m + 1) (frRows s m)).find? fun v => cf v 0 != 0).map (List.drop 1) from rfl)
      have e1 : IntKind.i64.wrap ((m : Int) + 1) = ((m + 1 : Nat) : Int) := by rw [IntWalk.i64_in _ (by omega)]; omega
      obtain ⟨L, hL⟩ : ∃ L, (zpOps p).spNull (m + 1) (frRows s m) = L := ⟨_, rfl⟩
      rw [hL] at cN HV HRC
      clear hL hwr her hge
      rw [hlr] at cN ⊢
      subst hk
      go_wp2_with fail
      refine cN.mono ?_
      rintro e w3 ⟨A3, c3, rfl, h3, x3⟩
      clear cN hA2
      have hLl := h3.1
      go_wp2_with fail
      go_loopw [50] (fun s50 wr => ∃ i : Nat, i ≤ L.length ∧ s50 = .int .i64 i ∧ Hid (∀ (i' : Nat) (u : List Int), i' < i → L[i']? = some u → cf u 0 = 0) ∧ w3 = wr) (fun s50 _ => L.length - (intOf s50).toNat)
      case atStart => exact ⟨0, Nat.zero_le _, rfl, Lib.hid (fun i u h => by omega), rfl⟩
      case round =>
        obtain ⟨i, hi, rfl, H0, rfl⟩ := hrel
        by_cases hil : i < L.length
        · obtain ⟨g, b, rc, v, rfl, hv, hc, hrc, hO⟩ := h3.at_ hil
          have Hvl := Lib.hid (HV.out v (List.mem_of_getElem? hv)).1
          obtain ⟨y, hy⟩ : ∃ y, v[0]? = some y := ⟨_, List.getElem?_eq_getElem (by rw [Hvl.out]; omega)⟩
          have q1 := hO.cell hy
          have Hv := Lib.hid hv
          have Hy := Lib.hid (cf_of hy)
          have hrd := hO.rd (by rw [Hvl.out]; omega)
          rw [Hvl.out] at hc hrc
          clear hv hy
          by_cases hy0 : y = 0
          · have hye : (y != 0) = false := by rw [hy0]; rfl
            have Hy0 := Lib.hid hy0
            clear hy0
            go_wp2_with fail
            go_roundw
            case rel => exact ⟨i + 1, by omega, by go_num, Lib.hid (fun i' u h1 h2 => by
              by_cases e : i' = i
              · subst e; rw [Hv.out] at h2; injection h2 with h2; rw [← h2, Hy.out]; exact Hy0.out
              · exact H0.out i' u (by omega) h2), trivial⟩
            case measure => simp [intOf]; omega
          · have hye : (y != 0) = true := by simp; exact hy0
            have HR := Lib.hid (show recS p s m = some (v.drop 1) by rw [HRC.out, find_at Hv.out (by rw [Hy.out]; exact hy0) H0.out]; rfl)
            clear hy0
            have hdl : (v.drop 1).length = m := by rw [List.length_drop, Hvl.out]; omega
            have hrd1 := hrd.drop_k1 1
            go_wp2_with fail
            all_goals
              go_ret2
              rw [HR.out]
              first
                | exact ⟨hek.trans x3, some ⟨b, 1, none⟩, rc - 1, by rw [hdl]; rfl, hrd1⟩
                | exact ⟨hek.trans x3, some ⟨b, 0, none⟩, 0, by rw [hdl]; rfl, by rw [show v.drop 1 = [] from List.length_eq_zero_iff.1 (by omega)]; exact Rd.nil _ _⟩
        · have HR := Lib.hid (show recS p s m = none by rw [HRC.out, find_no fun i' u hu => H0.out i' u (by have := (List.getElem?_eq_some_iff.1 hu).1; omega) hu]; rfl)
          go_wp2_with fail
          go_ret2
          rw [HR.out]
          exact ⟨hek.trans x3, rfl⟩
end Go.Proofs.YtmekhjnhcgmphaaDoor
