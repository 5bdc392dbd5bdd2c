/- strings.SplitSeq at a separator of one byte: what the iterator owes; its state lies in a cell. -/
import Derived.Test.YtfggacnkediolaaGreatDoorSqA
import Derived.Test.YtfggacnkediolaaGreatDoorPpI
import Derived.Lib.IndexBytes
namespace Go.Proofs.YtfggacnkediolaaGreatDoor
set_option maxRecDepth 100000
open Go Go.RowKit Go.Shelf
attribute [local go_sem] Oper.semAt_some
/-- A part of a text that is not too long. -/
abbrev SB1 := {x : ByteArray // x.size ≤ 1048576}
def sbL (pre : List SB1) : List (List UInt8) := pre.map (·.1.data.toList)
theorem sbL_snoc (pre : List SB1) (x : SB1) : sbL (pre ++ [x]) = sbL pre ++ [x.1.data.toList] := by simp [sbL]
/-- What a round keeps: the iterator's three cells. -/
def KpS (b : Nat) (W W' : World) : Prop := ∀ k, b ≤ k → k < b + 3 → W'.heap[k]? = W.heap[k]?
theorem KpS.refl (b : Nat) (W : World) : KpS b W W := fun _ _ _ => rfl
theorem KpS.trans {b : Nat} {A B C : World} (h : KpS b A B) (k : KpS b B C) : KpS b A C := fun i h1 h2 => (k i h1 h2).trans (h i h1 h2)
theorem KpS.putObj {b : Nat} {w : World} (hb : b + 3 ≤ w.heap.size) (W : World) (l : Nat) (o o' : Obj) (hl : w.heap.size ≤ l) (_ : W.heap[l]? = some o) (_ : o.isCells = false) (_ : o.isWalk = false) : KpS b W (W.putObj l o') :=
  fun _ _ h2 => World.putObj_heap_other (by omega)
theorem box_set {W : World} {q : Nat} {u v : Value} {t : TypeId} (h : W.heap[q]? = some (.cells #[u] t (0, 0))) : (W.setCell ⟨q, 0, none⟩ v).heap[q]? = some (.cells #[v] t (0, 0)) := by
  simp [World.setCell, Array.getElem?_modify, h]
theorem one_cell {W : World} {q : Nat} {u : Value} {t : TypeId} (h : W.heap[q]? = some (.cells #[u] t (0, 0))) : W.cell? ⟨q, 0, none⟩ = some u := by simp [World.cell?, h]
theorem one_frozen {W : World} {q : Nat} {u : Value} {t : TypeId} (h : W.heap[q]? = some (.cells #[u] t (0, 0))) : W.frozen? ⟨q, 0, none⟩ = false := by simp [World.frozen?, h]
/-- How long the text in a cell is. -/
def leftIn (b : Nat) (W : World) : Nat := match W.cell? ⟨b, 0, none⟩ with
  | some (.string s) => s.size
  | _ => 0
theorem leftIn_eq {b : Nat} {W : World} {s : ByteArray} (h : W.cell? ⟨b, 0, none⟩ = some (.string s)) : leftIn b W = s.size := by unfold leftIn; rw [h]
set_option maxHeartbeats 2000000 in
theorem split1_in (n : Nat) (hn : 1 ≤ n) (l b : Nat) (s : ByteArray) (hs : s.size ≤ 1048576) (J Jx : List SB1 → World → Prop)
    (hJg : ∀ pre V V', J pre V → V.grownBy V' none → J pre V') (hJq : ∀ pre V v, J pre V → J pre (V.setCell ⟨b, 0, none⟩ v))
    (hY : ∀ pre x W1, J pre W1 → YieldAt Fence.wide (n - 1) Tryz.prog l #[.string x.1] W1 fun e W' => (e = .returned (.bool true) ∧ J (pre ++ [x]) W' ∧ KpS b W1 W') ∨ (e = .returned (.bool false) ∧ Jx (pre ++ [x]) W'))
    (W : World) (hb0 : W.heap[b]? = some (.cells #[.string s] 9 (0, 0))) (hb1 : W.heap[b + 1]? = some (.cells #[.string ⟨#[43]⟩] 9 (0, 0))) (hb2 : W.heap[b + 2]? = some (.cells #[.int .i64 0] 3 (0, 0))) (h0 : J [] W) :
    CallsIn Fence.wide n Tryz.prog 77 #[.func (.yield l) #[] #[], .pointer (some ⟨b + 1, 0, none⟩), .pointer (some ⟨b, 0, none⟩), .pointer (some ⟨b + 2, 0, none⟩)] W fun e W' => (∃ v, e = .returned v) ∧
      ((∃ ys, sbL ys = spl 43 s.data.toList ∧ J ys W') ∨ (∃ pre, (∃ r, sbL pre ++ r = spl 43 s.data.toList) ∧ Jx pre W')) := by
  have c0 := one_cell hb0
  have c1 := one_cell hb1
  have c2 := one_cell hb2
  refine callsIn_of_wp Tryz.func77 rfl trivial ?_ rfl
  simp only [Tryz.ntmps77, List.size_toArray, List.length_cons, List.length_nil, Nat.reduceAdd, Nat.reduceSub, Array.replicate_succ, Array.replicate_zero, List.push_toArray, List.append_toArray, List.nil_append, List.cons_append]
  gi_wp2
  gi_loopw [7, 8] (fun _ _ wr => ∃ (cur : ByteArray) (pre : List SB1), cur.size ≤ 1048576 ∧ Hid (sbL pre ++ spl 43 cur.data.toList = spl 43 s.data.toList) ∧ J pre wr ∧ wr.heap[b]? = some (.cells #[.string cur] 9 (0, 0)) ∧ wr.heap[b + 1]? = some (.cells #[.string ⟨#[43]⟩] 9 (0, 0)) ∧ wr.heap[b + 2]? = some (.cells #[.int .i64 0] 3 (0, 0))) (fun _ _ wr => leftIn b wr)
  case atStart => exact ⟨s, [], hs, Lib.hid rfl, h0, hb0, hb1, hb2⟩
  case round =>
    obtain ⟨cur, pre, hcs, HE, hJ, k0, k1, k2⟩ := hrel
    have d0 := one_cell k0
    have d1 := one_cell k1
    have d2 := one_cell k2
    have f0 := one_frozen k0
    have cI := Tryz.strings_Index_one cur 43
    rw [← Lib.index_one, index_one] at cI
    by_cases hx : (43 : UInt8) ∈ cur.data.toList
    · rw [if_pos hx] at cI
      obtain ⟨i, hi⟩ : ∃ i, (cur.data.toList.takeWhile (· != 43)).length = i := ⟨_, rfl⟩
      rw [hi] at cI
      have hil : i < cur.size := by
        have h1 := congrArg List.length (drop_tw hx)
        rw [List.length_drop, List.length_cons, hi, ← size_list] at h1
        omega
      have hfr : (cur.extract 0 i).size ≤ 1048576 := by rw [ByteArray.size_extract]; omega
      have hrs : (cur.extract (i + 1) cur.size).size ≤ 1048576 := by rw [ByteArray.size_extract]; omega
      have hlt2 : (cur.extract (i + 1) cur.size).size < cur.size := by rw [ByteArray.size_extract]; omega
      have htake : cur.data.toList.take i = cur.data.toList.takeWhile (· != 43) := by rw [← hi]; exact (List.prefix_iff_eq_take.1 (List.takeWhile_prefix _)).symm
      have HN := Lib.hid (show sbL (pre ++ [⟨cur.extract 0 i, hfr⟩]) ++ spl 43 (cur.extract (i + 1) cur.size).data.toList = spl 43 s.data.toList by
        rw [sbL_snoc, ← HE.out, List.append_assoc, ext_list _ _ _ (Nat.le_of_lt hil), ext_list _ _ _ (Nat.le_refl _), List.drop_zero, Nat.sub_zero]
        rw [List.take_of_length_le (l := cur.data.toList.drop (i + 1)) (by rw [List.length_drop, ← size_list]; exact Nat.le_refl _)]
        have h2 : cur.data.toList = cur.data.toList.take i ++ 43 :: cur.data.toList.drop (i + 1) := by
          conv => lhs; rw [← List.take_append_drop i cur.data.toList]
          have h3 := drop_tw hx
          rw [hi] at h3
          rw [h3]
        conv => rhs; rw [h2]
        rw [spl_more _ (by
          rw [htake]
          intro hm
          have := List.all_eq_true.1 (List.all_takeWhile (p := (· != (43 : UInt8))) (l := cur.data.toList)) 43 hm
          simp at this)]
        rfl)
      obtain ⟨fn, tmps, assign, body, hy, hR⟩ := hY pre ⟨cur.extract 0 i, hfr⟩ wr hJ
      dsimp only at hy
      have hw1 : IntKind.i64.wrap ((i : Int) + 1) = ((i + 1 : Nat) : Int) := by rw [IntWalk.i64_in _ (by omega)]; rfl
      have hi1 : i + 1 ≤ cur.size := by omega
      have Hlt := Lib.hid hlt2
      clear hx hi htake hlt2
      gi_wp2_with (refine ⟨trivial, ?_⟩; gi_at_call 79; refine (callsIn_wide.2 (cI _)).mono ?_; rintro e w' ⟨rfl, rfl⟩)
      refine hR.mono ?_
      rintro e W3 (⟨rfl, hJ3, hk3⟩ | ⟨rfl, hJx3⟩)
      · have g0 := (hk3 b (Nat.le_refl _) (by omega)).trans k0
        have g1 := (hk3 (b + 1) (by omega) (by omega)).trans k1
        have g2 := (hk3 (b + 2) (by omega) (by omega)).trans k2
        have e0 := one_cell g0
        have e1 := one_cell g1
        have e2 := one_cell g2
        have q0 := one_frozen g0
        have n0 := box_set (v := .string (cur.extract (i + 1) cur.size)) g0
        have n1 := set_heap (q := b) (v := .string (cur.extract (i + 1) cur.size)) (by omega) g1
        have n2 := set_heap (q := b) (v := .string (cur.extract (i + 1) cur.size)) (by omega) g2
        have nJ := hJq _ _ (.string (cur.extract (i + 1) cur.size)) hJ3
        gi_wp2
        go_roundw
        case rel => exact ⟨_, _, hrs, HN, nJ, n0, n1, n2⟩
        case measure => rw [leftIn_eq (one_cell n0), leftIn_eq (one_cell k0)]; exact Hlt.out
      · gi_wp2
        refine bodyPost_ret (results_none rfl _ _ _) rfl ?_
        exact ⟨⟨_, rfl⟩, .inr ⟨_, ⟨_, HN.out⟩, hJx3⟩⟩
    · rw [if_neg hx] at cI
      obtain ⟨fn, tmps, assign, body, hy, hR⟩ := hY pre ⟨cur, hcs⟩ wr hJ
      have HS := Lib.hid (show sbL (pre ++ [⟨cur, hcs⟩]) = spl 43 s.data.toList by rw [sbL_snoc, ← HE.out, spl_one hx])
      clear hx
      gi_wp2_with (refine ⟨trivial, ?_⟩; gi_at_call 79; refine (callsIn_wide.2 (cI _)).mono ?_; rintro e w' ⟨rfl, rfl⟩)
      refine hR.mono ?_
      rintro e W3 (⟨rfl, hJ3, hk3⟩ | ⟨rfl, hJx3⟩)
      · gi_wp2
        go_end0
        exact ⟨⟨_, rfl⟩, .inl ⟨_, HS.out, hJ3⟩⟩
      · gi_wp2
        go_end0
        exact ⟨⟨_, rfl⟩, .inr ⟨_, ⟨[], by rw [List.append_nil]; exact HS.out⟩, hJx3⟩⟩
set_option maxHeartbeats 1000000 in
theorem splitSeq_in (n : Nat) (s t : ByteArray) (w : World) : CallsIn Fence.wide n Tryz.prog 61 #[.string s, .string t, .int .i64 0] w fun e w' => e = .returned (.func (.func 77) #[] #[.pointer (some ⟨w.heap.size + 1, 0, none⟩), .pointer (some ⟨w.heap.size, 0, none⟩), .pointer (some ⟨w.heap.size + 2, 0, none⟩)]) ∧
    w' = ((w.alloc (.cells #[.string s] 9)).alloc (.cells #[.string t] 9)).alloc (.cells #[.int .i64 0] 3) := by
  refine callsIn_of_wp Tryz.func61 rfl trivial ?_ rfl
  simp only [Tryz.ntmps61, List.size_toArray, List.length_cons, List.length_nil, Nat.reduceAdd, Nat.reduceSub, Array.replicate_succ, Array.replicate_zero, List.push_toArray, List.append_toArray, List.nil_append, List.cons_append]
  gi_wp2
  go_ret
  exact ⟨rfl, rfl⟩
set_option maxHeartbeats 1000000 in
theorem SplitSeq_in (n : Nat) (hn : 1 ≤ n) (s t : ByteArray) (w : World) : CallsIn Fence.wide n Tryz.prog 37 #[.string s, .string t] w fun e w' => e = .returned (.func (.func 77) #[] #[.pointer (some ⟨w.heap.size + 1, 0, none⟩), .pointer (some ⟨w.heap.size, 0, none⟩), .pointer (some ⟨w.heap.size + 2, 0, none⟩)]) ∧
    w' = ((w.alloc (.cells #[.string s] 9)).alloc (.cells #[.string t] 9)).alloc (.cells #[.int .i64 0] 3) := by
  refine callsIn_of_wp Tryz.func37 rfl trivial ?_ rfl
  simp only [Tryz.ntmps37, List.size_toArray, List.length_cons, List.length_nil, Nat.reduceAdd, Nat.reduceSub, Array.replicate_succ, Array.replicate_zero, List.push_toArray, List.append_toArray, List.nil_append, List.cons_append]
  gi_wp2_with (refine ⟨trivial, ?_⟩; gi_at_call 61; refine (splitSeq_in _ _ _ _).mono ?_; rintro e w' ⟨rfl, rfl⟩)
  go_ret
  exact ⟨rfl, rfl⟩
/-- strings.SplitSeq's iterator, for the law. -/
theorem split_box (n : Nat) (hn : 1 ≤ n) (b : Nat) (s : ByteArray) (hs : s.size ≤ 1048576) (w : World) (hb0 : w.heap[b]? = some (.cells #[.string s] 9 (0, 0))) (hb1 : w.heap[b + 1]? = some (.cells #[.string ⟨#[43]⟩] 9 (0, 0))) (hb2 : w.heap[b + 2]? = some (.cells #[.int .i64 0] 3 (0, 0))) :
    SeqBox Fence.wide n Tryz.prog 77 #[.pointer (some ⟨b + 1, 0, none⟩), .pointer (some ⟨b, 0, none⟩), .pointer (some ⟨b + 2, 0, none⟩)] (fun x : SB1 => #[Value.string x.1]) b (KpS b) (fun ys => sbL ys = spl 43 s.data.toList) (fun pre => ∃ r, sbL pre ++ r = spl 43 s.data.toList) w := fun l J Jx W hW hJg hJq hY h0 => by
  have keep : ∀ {k : Nat} {o : Obj}, w.heap[k]? = some o → W.heap[k]? = some o := fun h => (hW.block _ (Array.getElem?_eq_some_iff.1 h).1).trans h
  exact split1_in n hn l b s hs J Jx hJg hJq hY W (keep hb0) (keep hb1) (keep hb2) h0
end Go.Proofs.YtfggacnkediolaaGreatDoor
