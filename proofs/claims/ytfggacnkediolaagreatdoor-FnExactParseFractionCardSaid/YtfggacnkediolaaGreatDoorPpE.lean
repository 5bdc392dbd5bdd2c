/- Reading the text of a polynomial: the reference splits a text. -/
import Derived.Test.YtfggacnkediolaaGreatDoorPpD
import Derived.Test.YtfggacnkediolaaGreatDoorGE
import Derived.Laws.Strings3
import Derived.Deep.RegionLaw
namespace Go.Proofs.YtfggacnkediolaaGreatDoor
set_option maxRecDepth 100000
open Go Go.RowKit
/-- Values of one cell each. -/
def ELW : EL Value where
  k := 1
  O := fun _ _ _ vs x => vs = [x] ∧ x.oneCell' = true
  rlen := fun h => by rw [h.1]; rfl
  keep := fun h _ => h
  one := fun h u hu => by rw [h.1] at hu; simp at hu; subst hu; exact h.2
theorem ext_list (s : ByteArray) (a i : Nat) (h : i ≤ s.size) : (s.extract a i).data.toList = (s.data.toList.drop a).take (i - a) := by
  rw [ByteArray.data_extract, Array.toList_extract, List.extract_eq_take_drop]
theorem size_list (s : ByteArray) : s.size = s.data.toList.length := by rw [Array.length_toList]; rfl
theorem at_list (s : ByteArray) (i : Nat) (h : i < s.size) : s.data.toList[i]? = some (s[i]'h) := by
  rw [Array.getElem?_toList]
  exact Array.getElem?_eq_getElem h
theorem spl_len (c : UInt8) : ∀ l : List UInt8, (spl c l).length ≤ l.length + 1
  | [] => by simp [spl]
  | b :: r => by
    have := spl_len c r
    unfold spl
    split
    · simp; omega
    · have hn := spl_ne c r
      split
      · simp
      · rename_i h t e
        rw [e] at this
        simp at this ⊢
        omega
theorem infoStrs : (Tryz.prog.info? 9).map (fun i => (i.zero, i.size, i.bytes)) = some (some (.string ⟨#[]⟩), 1, 16) := by kernel_rfl
theorem push_strv {w : World} {B H : Nat} {v : Value} {xs : List Value} (h : GE ELW 9 w B H v xs) (hH : H ≤ w.heap.size) (s : ByteArray) (hB : B ≤ H) (hl : xs.length + 1 ≤ 1099511627776) :
    ∃ v' w', (Builtin.append_ #[39, 39] 39 #[v, .slice (some ⟨w.heap.size, 0, none⟩) 1 1]).run Tryz.prog (w.alloc (.cells #[.string s] 9)) = .ok v' w' ∧
      GE ELW 9 w' B w'.heap.size v' (xs ++ [.string s]) ∧ ∀ b', Ex b' w → b'.heap.size ≤ B → Ex b' w' := by
  obtain ⟨i, hi, hz, hs, hby⟩ := info_parts infoStrs
  obtain ⟨v', w', h1, h2, _, _, _, h6⟩ := GE.push ELW Tryz.underlying39 hi hz hs hby rfl (by decide) (by omega) h hH (u := [.string s]) (x := .string s) (a := H) (b := H) ⟨rfl, rfl⟩ (Nat.le_refl _) (Nat.le_refl _) hH hB hl
  exact ⟨v', w', h1, h2, h6⟩
/-- A slice that reads as these strings. -/
def RdStr (w : World) (v : Value) (ts : List ByteArray) : Prop := ∃ g c, v = .slice (some ⟨g, 0, none⟩) ts.length c ∧ ∀ (j : Nat) (t : ByteArray), ts[j]? = some t → w.cell? ⟨g, j, none⟩ = some (.string t)
theorem RdStr.of {w : World} {B H : Nat} {v : Value} {ts : List ByteArray} (h : GE ELW 9 w B H v (ts.map Value.string)) (hne : ts ≠ []) : RdStr w v ts := by
  by_cases hv : v = .slice none 0 0
  · subst hv
    obtain ⟨A, c, e⟩ := h.nilv
    injection e with _ e _
    exact (hne (List.eq_nil_of_length_eq_zero (by rw [List.length_map] at e; exact e.symm))).elim
  · obtain ⟨g, c, rfl, hgc, _⟩ := h.form hv
    obtain ⟨cur, al, bl, _, hB, hH, hh, h1, h2⟩ := h.at_
    refine ⟨g, c, by rw [List.length_map], fun j t hj => ?_⟩
    obtain ⟨u, k1, ⟨k2, _⟩, _⟩ := h1 j (.string t) (by rw [List.getElem?_map, hj]; rfl)
    have := k1 0 (.string t) (by rw [k2]; rfl)
    exact cell_of_cur hh (by simpa [ELW] using this)
theorem RdStr.ex {w w' : World} {v : Value} {ts : List ByteArray} (h : RdStr w v ts) (he : Ex w w') : RdStr w' v ts := by
  obtain ⟨g, c, e, h⟩ := h
  exact ⟨g, c, e, fun j t hj => cell_ex he (h j t hj)⟩
set_option maxHeartbeats 1000000 in
theorem l1Split_c (s : ByteArray) (c : UInt8) (w : World) (hs : s.size ≤ 1048576) :
    Calls Tryz.prog 18 #[.string s, .int .u8 (c.toNat : Int)] w fun e w' => ∃ v ts, e = .returned v ∧ ts.map (·.data.toList) = spl c s.data.toList ∧ RdStr w' v ts ∧ Ex w w' := by
  go_enter Tryz.func18, Tryz.ntmps18
  go_wp2_with fail
  go_loopw [5, 6, 7] (fun o f i wr => ∃ (k a : Nat) (ts : List ByteArray), k ≤ s.size ∧ a ≤ k ∧ i = .int .i64 k ∧ f = .int .i64 a ∧ GE ELW 9 wr w.heap.size wr.heap.size o (ts.map Value.string) ∧
    Hid (ts.map (·.data.toList) ++ spl c (s.data.toList.drop a) = spl c s.data.toList ∧ c ∉ (s.data.toList.drop a).take (k - a)) ∧ Ex w wr) (fun _ _ i _ => s.size - (intOf i).toNat)
  case atStart => exact ⟨0, 0, [], Nat.zero_le _, Nat.le_refl _, rfl, rfl, GE.nil _ _ _ _ _, Lib.hid ⟨by simp, by simp⟩, Ex.refl _⟩
  case round =>
    rename World => wi
    obtain ⟨k, a, ts, hk, hak, rfl, rfl, hge, Hs, he⟩ := hrel
    have hsz := he.size
    have hnum : ts.length + 1 ≤ 1099511627776 := by
      have h1 := congrArg List.length Hs.out.1
      have h2 := spl_len c s.data.toList
      rw [List.length_append, List.length_map] at h1
      rw [← size_list] at h2
      omega
    by_cases hlt : k < s.size
    · have hcase := at_list s k hlt
      by_cases hc : s[k]'hlt = c
      · have hb : ((s[k]'hlt).toNat : Int) = (c.toNat : Int) := by rw [hc]
        obtain ⟨v', w', hrun, hge', hxx⟩ := push_strv (w := wi) (s := s.extract a k) hge (Nat.le_refl _) hsz (by rw [List.length_map]; exact hnum)
        have he' := hxx w he (Nat.le_refl _)
        have HN := Lib.hid (show (ts ++ [s.extract a k]).map (·.data.toList) ++ spl c (s.data.toList.drop (k + 1)) = spl c s.data.toList by
          rw [List.map_append, List.map_cons, List.map_nil, ext_list s a k hk, List.append_assoc, List.singleton_append, ← spl_step hak Hs.out.2 (by rw [hcase, hc]), Hs.out.1])
        rw [show ts.map Value.string ++ [Value.string (s.extract a k)] = (ts ++ [s.extract a k]).map Value.string by rw [List.map_append]; rfl] at hge'
        clear hcase hxx hge
        go_wp2_with (at_builtin; refine wpList_append_run rfl _ _ _ rfl rfl rfl hrun ?_)
        go_roundw
        case rel => exact ⟨k + 1, k + 1, _, by omega, Nat.le_refl _, by go_num, by go_num, hge', Lib.hid ⟨HN.out, by simp⟩, he'⟩
        case measure => simp [intOf]; omega
      · have hb : ¬ ((s[k]'hlt).toNat : Int) = (c.toNat : Int) := fun e => hc (UInt8.toNat_inj.1 (by omega))
        have HN := Lib.hid (part_more hak Hs.out.2 hcase hc)
        clear hcase
        go_wp2_with fail
        go_roundw
        case rel => exact ⟨k + 1, a, ts, by omega, by omega, by go_num, rfl, hge, Lib.hid ⟨Hs.out.1, HN.out⟩, he⟩
        case measure => simp [intOf]; omega
    · obtain rfl : k = s.size := by omega
      obtain ⟨v', w', hrun, hge', hxx⟩ := push_strv (w := wi) (s := s.extract a s.size) hge (Nat.le_refl _) hsz (by rw [List.length_map]; exact hnum)
      have he' := hxx w he (Nat.le_refl _)
      have HN := Lib.hid (show (ts ++ [s.extract a s.size]).map (·.data.toList) = spl c s.data.toList by
        have h1 : (s.data.toList.drop a).take (s.size - a) = s.data.toList.drop a := List.take_of_length_le (by rw [List.length_drop, ← size_list]; exact Nat.le_refl _)
        have h2 := Hs.out.2
        rw [h1] at h2
        rw [List.map_append, List.map_cons, List.map_nil, ext_list s a _ (Nat.le_refl _), h1, ← spl_end h2, Hs.out.1])
      rw [show ts.map Value.string ++ [Value.string (s.extract a s.size)] = (ts ++ [s.extract a s.size]).map Value.string by rw [List.map_append]; rfl] at hge'
      clear hxx hge
      go_wp2_with (at_builtin; refine wpList_append_run rfl _ _ _ rfl rfl rfl hrun ?_)
      go_ret
      exact ⟨_, _, rfl, HN.out, RdStr.of hge' (by simp), he'⟩
end Go.Proofs.YtfggacnkediolaaGreatDoor
