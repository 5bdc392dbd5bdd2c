/- Reading the text of a polynomial: the reference. -/
import Derived.Test.YtfggacnkediolaaGreatDoorPpF
import Derived.Test.YtfggacnkediolaaGreatDoorField
namespace Go.Proofs.YtfggacnkediolaaGreatDoor
set_option maxRecDepth 100000
open Go Go.RowKit
theorem AL.set {w : World} {B g n c : Nat} {xs : List Int} (h : AL w B (.slice (some ⟨g, 0, none⟩) n c) xs) (i : Nat) (x : Int) (hi : i < xs.length) :
    AL (w.setCell ⟨g, i, none⟩ (.int .i64 x)) B (.slice (some ⟨g, 0, none⟩) n c) (xs.set i x) := by
  obtain ⟨h1, h2⟩ := h
  rcases h2 with ⟨hv, _⟩ | ⟨g', cap, cur, hv, hB, hh, hnc, hcm, hsz, ht⟩
  · cases hv
  · injection hv with e1 e2 e3
    injection e1 with e1
    injection e1 with e4 e5 _
    subst e2 e3 e4
    refine ⟨by simp, .inr ⟨g, c, cur.setIfInBounds i (.int .i64 x), by rw [List.length_set], hB, by simp [World.setCell, Array.getElem?_modify, hh], by rw [List.length_set]; exact hnc, hcm, by simpa using hsz, ?_⟩⟩
    rw [Array.toList_setIfInBounds, List.length_set, Nat.mul_one, List.take_set, List.map_set]
    rw [Nat.mul_one] at ht
    rw [ht]
/-- An answer of the call's own: a slice that reads as these ints, and whether. -/
def FrRB (w : World) (r : List Int × Bool) (e : Ending) (w' : World) : Prop := ∃ A c, e = .returned (.tuple #[.slice A r.1.length c, .bool r.2]) ∧ Fr w' w.heap.size A c r.1 ∧ Ex w w'
theorem FrRB.no {w w' : World} {r : List Int × Bool} {b : Bool} (h : r = ([], b)) (he : Ex w w') : FrRB w r (.returned (.tuple #[.slice none 0 0, .bool b])) w' := by
  subst h; exact ⟨none, 0, rfl, Fr.nil _ _ _, he⟩
theorem psS_nof {p : Int} {s : List UInt8} (h : fieldB p = false) : psS p s = ([], false) := by unfold psS; rw [h]; rfl
theorem psS_nought {p : Int} (h : fieldB p = true) : psS p [48] = ([], true) := by unfold psS; rw [h]; rfl
theorem psS_stop {p : Int} {s : List UInt8} (h : fieldB p = true) (hs : s ≠ [48]) (hn : psO p (spl 43 s) [] = none) : psS p s = ([], false) := by unfold psS; rw [h, if_pos rfl, if_neg hs, hn]
theorem psS_done {p : Int} {s : List UInt8} {o : List Int} (h : fieldB p = true) (hs : s ≠ [48]) (hn : psO p (spl 43 s) [] = some o) : psS p s = if ptX o = s then (o, true) else ([], false) := by unfold psS; rw [h, if_pos rfl, if_neg hs, hn]
theorem spl_part {c : UInt8} : ∀ {l t : List UInt8}, t ∈ spl c l → t.length ≤ l.length
  | [], t, h => by simp [spl] at h; simp [h]
  | b :: r, t, h => by
    unfold spl at h
    split at h
    · rcases List.mem_cons.1 h with rfl | h
      · simp
      · have := spl_part h; simp; omega
    · split at h
      · rename_i e; exact (spl_ne c r e).elim
      · rename_i h' t' e
        rcases List.mem_cons.1 h with rfl | h
        · have := spl_part (t := h') (l := r) (c := c) (by rw [e]; simp)
          simp; omega
        · have := spl_part (t := t) (l := r) (c := c) (by rw [e]; simp [h])
          simp; omega
def lenOf : Value → Nat
  | .slice _ n _ => n
  | _ => 0
/-- Where the reader stands. -/
def psAt (p : Int) (s : List UInt8) (ts : List ByteArray) (k : Nat) (xs : List Int) : Prop := psO p (spl 43 s) [] = psO p ((ts.drop k).map (·.data.toList)) xs ∧ OKo p xs
theorem psAt.bad {p : Int} {s : List UInt8} {ts : List ByteArray} {k : Nat} {xs : List Int} {t : ByteArray} (h : psAt p s ts k xs) (ht : ts[k]? = some t) (hb : ¬ GoodT p (tmS t.data.toList)) : psO p (spl 43 s) [] = none := by
  obtain ⟨hk, e⟩ := List.getElem?_eq_some_iff.1 ht
  rw [h.1, List.drop_eq_getElem_cons hk, e, List.map_cons, psO, if_neg hb]
theorem psAt.more {p : Int} {s : List UInt8} {ts : List ByteArray} {k : Nat} {xs : List Int} {t : ByteArray} (h : psAt p s ts k xs) (ht : ts[k]? = some t) (hb : GoodT p (tmS t.data.toList)) : psAt p s ts (k + 1) (putT xs (tmS t.data.toList)) := by
  obtain ⟨hk, e⟩ := List.getElem?_eq_some_iff.1 ht
  refine ⟨?_, putT_ok h.2 hb⟩
  rw [h.1, List.drop_eq_getElem_cons hk, e, List.map_cons, psO, if_pos hb]
set_option maxHeartbeats 1000000 in
theorem spParsePoly_c (p : Int) (s : ByteArray) (w : World) (hs : s.size ≤ 1048576) : Calls Tryz.prog 9 #[.int .i64 p, .string s] w fun e w' => FrRB w (psS p s.data.toList) e w' := by
  cases hF : fieldB p with
  | false =>
    have HR := Lib.hid (psS_nof (s := s.data.toList) hF)
    go_enter Tryz.func9, Tryz.ntmps9
    go_wp2_with fail
    refine (fdGood_c p _).mono ?_
    rintro e _ ⟨rfl, rfl⟩
    rw [hF]
    go_wp2_with fail
    go_ret2
    exact FrRB.no HR.out (Ex.refl _)
  | true =>
  by_cases h48 : s.data.toList = [48]
  · have HR := Lib.hid (show psS p s.data.toList = ([], true) by rw [h48]; exact psS_nought hF)
    have hc : (s.toList == [48]) = true := by rw [ByteArray.toList_eq, h48]; rfl
    clear h48
    go_enter Tryz.func9, Tryz.ntmps9
    go_wp2_with fail
    refine (fdGood_c p _).mono ?_
    rintro e _ ⟨rfl, rfl⟩
    rw [hF]
    go_wp2_with fail
    go_ret2
    exact FrRB.no HR.out (Ex.refl _)
  have hc : (s.toList == [48]) = false := by rw [ByteArray.toList_eq, beq_eq_false_iff_ne]; exact h48
  have hp2 := fieldB_lo hF
  have hp97 := fieldB_hi hF
  have HS := fun h => Lib.hid (psS_stop (s := s.data.toList) hF h48 h)
  have HD := fun o h => Lib.hid (psS_done (s := s.data.toList) (o := o) hF h48 h)
  clear h48
  go_enter Tryz.func9, Tryz.ntmps9
  go_wp2_with fail
  refine (fdGood_c p _).mono ?_
  rintro e _ ⟨rfl, rfl⟩
  rw [hF]
  go_wp2_with fail
  refine (l1Split_c s 43 _ hs).mono ?_
  rintro e w1 ⟨v, ts, rfl, hts, hrd, x1⟩
  obtain ⟨g, c, rfl, hcell⟩ := hrd
  have Hcell := Lib.hid hcell
  have hnum : ts.length ≤ 1048577 := by
    have h1 := congrArg List.length hts
    have h2 := spl_len 43 s.data.toList
    rw [List.length_map] at h1
    rw [← size_list] at h2
    omega
  have HTs := Lib.hid (show ∀ (k : Nat) (t : ByteArray), ts[k]? = some t → t.size ≤ 1048576 from fun k t ht => by
    have h1 : t.data.toList ∈ spl 43 s.data.toList := by rw [← hts]; exact List.mem_map.2 ⟨t, List.mem_of_getElem? ht, rfl⟩
    have h2 := spl_part h1
    rw [← size_list, ← size_list] at h2
    omega)
  have H0 := Lib.hid (show psAt p s.data.toList ts 0 [] from ⟨by rw [← hts]; rfl, by unfold OKo; simp⟩)
  clear hcell hts
  go_wp2_with fail
  go_loopw [6, 19] (fun o i wr => ∃ (k : Nat) (xs : List Int), k ≤ ts.length ∧ i = .int .i64 k ∧ AL wr w1.heap.size o xs ∧ Hid (psAt p s.data.toList ts k xs) ∧ Ex w1 wr) (fun _ i _ => ts.length - (intOf i).toNat)
  case atStart => exact ⟨0, [], Nat.zero_le _, rfl, AL.nil _ _, H0, Ex.refl _⟩
  case round =>
    rename World => wi
    obtain ⟨k, xs, hk, rfl, hal, Hat, he⟩ := hrel
    have hx41 := Hat.out.2.1
    by_cases hlt : k < ts.length
    · obtain ⟨t, ht⟩ : ∃ t, ts[k]? = some t := ⟨_, List.getElem?_eq_getElem hlt⟩
      have hcl := cell_ex he (Hcell.out k t ht)
      obtain ⟨a, e, hae⟩ : ∃ a e, tmS t.data.toList = (a, e) := ⟨_, _, rfl⟩
      have hts : t.size ≤ 1048576 := HTs.out k t ht
      have cT := poTerm_c t
      rw [hae] at cT
      have HB := fun h => HS (Hat.out.bad ht h)
      have HM := fun h => Lib.hid (Hat.out.more ht h)
      rw [hae] at HB HM
      have HB' := Lib.hid HB
      have HM' := Lib.hid HM
      clear hae HB HM ht
      go_wp2_with fail
      refine (cT _ hts).mono ?_
      rintro e' _ ⟨rfl, rfl⟩
      go_wp2_with fail
      refine (l1In_c _ _ _ _).mono ?_
      rintro e' _ ⟨rfl, rfl⟩
      cases ha : inB 1 (p - 1) a with
      | false =>
        have HR := HB'.out (fun h => by have h1 := h.1; have h2 := h.2.1; simp [inB] at ha; omega)
        go_wp2_with fail
        go_ret2
        exact FrRB.no HR.out (x1.trans he)
      | true =>
        go_wp2_with fail
        refine (l1In_c _ _ _ _).mono ?_
        rintro e' _ ⟨rfl, rfl⟩
        cases hb : inB 0 40 e with
        | false =>
          have HR := HB'.out (fun h => by have h1 := h.2.2.1; have h2 := h.2.2.2; simp [inB] at hb; omega)
          go_wp2_with fail
          go_ret2
          exact FrRB.no HR.out (x1.trans he)
        | true =>
          have hG : GoodT p (a, e) := by
            simp [inB] at ha hb
            exact ⟨ha.1, ha.2, hb.1, hb.2⟩
          have HK := HM'.out hG
          obtain ⟨n, rfl⟩ : ∃ n : Nat, e = (n : Int) := ⟨e.toNat, by have := hG.2.2.1; simp only at this; omega⟩
          have hn : n ≤ 40 := by have := hG.2.2.2; simp only at this; omega
          clear HB' HM' cT ha hb hG
          go_wp2_with fail
          go_loopw [6] (fun o wr => ∃ (m : Nat), m ≤ n + 1 - xs.length ∧ AL wr w1.heap.size o (xs ++ List.replicate m 0) ∧ Ex w1 wr) (fun o _ => 100 - (lenOf o))
          case atStart => exact ⟨0, Nat.zero_le _, by simpa using hal, he⟩
          case round =>
            rename World => wj
            obtain ⟨m, hm, hal2, he2⟩ := hrel
            have hz2 := he2.size
            have hlen : (xs ++ List.replicate m (0 : Int)).length = xs.length + m := by simp
            obtain ⟨A, c2, rfl, hfr⟩ := hal2.form (by omega)
            rw [hlen] at hal2 ⊢
            by_cases hmore : xs.length + m ≤ n
            · obtain ⟨v', w', hrun, hal3, hxx⟩ := al_push wj w1.heap.size _ _ 0 hal2 hz2 (by omega)
              have he3 := hxx w1 he2 (Nat.le_refl _)
              have e3 : xs ++ List.replicate m (0 : Int) ++ [0] = xs ++ List.replicate (m + 1) 0 := by rw [List.append_assoc, ← List.replicate_succ']
              rw [e3] at hal3
              obtain ⟨A3, c3, rfl, _⟩ := hal3.form (by simp; omega)
              have hlen3 : (xs ++ List.replicate (m + 1) (0 : Int)).length = xs.length + (m + 1) := by simp
              rw [hlen3] at hal3 hrun
              clear hfr hal2 hxx e3 hlen hlen3
              go_wp2_with (at_builtin; refine wpList_append_run rfl _ _ _ rfl rfl rfl hrun ?_)
              go_roundw
              case rel => exact ⟨m + 1, by omega, hal3, he3⟩
              case measure => simp [lenOf]; omega
            · have hmn : m = n + 1 - xs.length := by omega
              obtain ⟨g2, rfl⟩ : ∃ g2, A = some ⟨g2, 0, none⟩ := by
                obtain ⟨_, h2⟩ := hal2
                rcases h2 with ⟨hv, h0⟩ | ⟨g', cap, cur, hv, _⟩
                · have h1 := congrArg List.length (show (xs ++ List.replicate m (0 : Int)) = [] from List.eq_nil_of_length_eq_zero h0)
                  rw [hlen] at h1; simp at h1; omega
                · injection hv with h1 _ _; exact ⟨g', h1⟩
              have hcl2 := (hal2.own).2.2.2.2.cell (i := n) (List.getElem?_eq_getElem (by omega))
              have hfz := (hal2.own).2.2.2.2.frozen n
              have hal3 := hal2.set n a (by omega)
              have hB := (hal2.own).2.2.2.1
              have e3 : (xs ++ List.replicate m (0 : Int)).set n a = putT xs (a, (n : Int)) := by rw [hmn]; rfl
              rw [e3] at hal3
              have he3 := he2.setCell (p := ⟨g2, n, none⟩) hB (.int .i64 a)
              obtain ⟨y, hy⟩ : ∃ y, (xs ++ List.replicate m (0 : Int))[n]'(by omega) = y := ⟨_, rfl⟩
              rw [hy] at hcl2
              obtain ⟨L, hL⟩ : ∃ L, xs.length + m = L := ⟨_, rfl⟩
              rw [hL] at hal3 hmore ⊢
              have hnL : n < L := by omega
              clear hal2 hfr hlen e3 hy hmn hm hL
              go_wp2_with fail
              go_roundw
              case rel => exact ⟨k + 1, _, by omega, by go_num, hal3, HK, he3⟩
              case measure => simp [intOf]; omega
    · obtain rfl : k = ts.length := by omega
      have hsome : psO p (spl 43 s.data.toList) [] = some xs := by rw [Hat.out.1, List.drop_length]; rfl
      have HR := HD xs hsome
      have hok := Hat.out.2
      obtain ⟨A, c2, rfl, hfr⟩ := hal.form (by omega)
      have hbd : ∀ x ∈ xs, 0 ≤ x ∧ x < 97 := fun x hx => by have := hok.2.1 x hx; omega
      have cX := fun W h => poText_c A c2 xs W h hx41 hbd
      have HF := Lib.hid (show Fr wi w.heap.size A c2 xs from ⟨hfr.1, hfr.2.1, fun a e => ⟨Nat.le_trans x1.size (hfr.2.2 a e).1, (hfr.2.2 a e).2⟩⟩)
      obtain ⟨X, hX⟩ : ∃ X, ptX xs = X := ⟨_, rfl⟩
      rw [hX] at cX HR
      have cX' := cX wi hfr.rd
      clear hbd hsome hok HD HS cX
      by_cases hXs : X = s.data.toList
      · have hcx : (X == s.toList) = true := by rw [ByteArray.toList_eq, hXs]; simp
        have HR2 := Lib.hid (HR.out.trans (if_pos hXs))
        clear hXs
        go_wp2_with fail
        refine cX'.mono ?_
        rintro e w4 ⟨rfl, x4⟩
        go_wp2_with fail
        go_ret2
        refine ⟨A, c2, by rw [HR2.out]; rfl, ?_, (x1.trans he).trans x4⟩
        rw [HR2.out]
        exact HF.out.ex x4
      · have hcx : (X == s.toList) = false := by rw [ByteArray.toList_eq, beq_eq_false_iff_ne]; exact hXs
        have HR2 := Lib.hid (HR.out.trans (if_neg hXs))
        clear hXs
        go_wp2_with fail
        refine cX'.mono ?_
        rintro e w4 ⟨rfl, x4⟩
        go_wp2_with fail
        go_ret2
        exact FrRB.no HR2.out ((x1.trans he).trans x4)
end Go.Proofs.YtfggacnkediolaaGreatDoor
