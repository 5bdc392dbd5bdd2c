/- Contracts: permutations, on both sides. -/
import Derived.Test.YtgblnkadmieflaaGrG
namespace Go.Proofs.Ytgblnkadmieflaa
set_option maxRecDepth 100000
open Go Go.RowKit
def permB (n : Nat) (l : List Int) : Bool := decide (l.length = n) && l.all (inB 0 ((n : Int) - 1)) && decide l.Nodup
theorem permB_len {n : Nat} {l : List Int} (h : l.length ≠ n) : permB n l = false := by simp [permB, h]
theorem permB_out {n : Nat} {l : List Int} {x : Int} (h : x ∈ l) (hx : inB 0 ((n : Int) - 1) x = false) : permB n l = false := by
  have : l.all (inB 0 ((n : Int) - 1)) = false := List.all_eq_false.2 ⟨x, h, by simp [hx]⟩
  simp [permB, this]
theorem permB_dup {n : Nat} {l : List Int} {k : Nat} {x : Int} (hx : l[k]? = some x) (h : x ∈ l.take k) : permB n l = false := by
  have : ¬ l.Nodup := fun hn => by
    have e := List.take_append_drop k l
    rw [← e, List.nodup_append] at hn
    have hd : x ∈ l.drop k := List.mem_of_getElem? (i := 0) (by rw [List.getElem?_drop]; exact hx)
    exact hn.2.2 x h x hd rfl
  simp [permB, this]
theorem nodup_snoc {l : List Int} {k : Nat} {x : Int} (hx : l[k]? = some x) (hn : (l.take k).Nodup) (h : x ∉ l.take k) : (l.take (k + 1)).Nodup := by
  rw [List.take_add_one, hx, Option.toList_some, List.nodup_append]
  refine ⟨hn, by simp, fun a ha b hb => ?_⟩
  simp at hb
  subst hb
  intro e
  subst e
  exact h ha
theorem permB_yes {n : Nat} {l : List Int} (h1 : l.length = n) (h2 : l.all (inB 0 ((n : Int) - 1)) = true) (h3 : l.Nodup) : permB n l = true := by simp [permB, h1, h2, h3]
theorem permB_parts {n : Nat} {l : List Int} (h : permB n l = true) : l.length = n ∧ (∀ k ∈ l, 0 ≤ k ∧ k ≤ (n : Int) - 1) ∧ l.Nodup := by
  simp only [permB, Bool.and_eq_true, decide_eq_true_eq] at h
  exact ⟨h.1.1, fun k hk => all_bd h.1.2 hk, h.2⟩
/-- Where each number stands, as far as the first k are looked at. -/
def posK (l : List Int) (n k : Nat) : List Int := (List.range n).map fun (v : Nat) => if (v : Int) ∈ l.take k then (l.idxOf (v : Int) : Int) else 0
def posL (l : List Int) : List Int := posK l l.length l.length
theorem posK_len (l : List Int) (n k : Nat) : (posK l n k).length = n := by simp [posK]
theorem posK_zero (l : List Int) (n : Nat) : posK l n 0 = List.replicate n 0 := by
  apply List.ext_getElem <;> simp [posK]
theorem posK_at {l : List Int} {n k v : Nat} (h : v < n) : (posK l n k)[v]? = some (if (v : Int) ∈ l.take k then (l.idxOf (v : Int) : Int) else 0) := by simp [posK, h]
theorem idxOf_here {l : List Int} {k : Nat} {x : Int} (hx : l[k]? = some x) (h : x ∉ l.take k) : l.idxOf x = k := by
  have e := List.take_append_drop k l
  have hkl := (List.getElem?_eq_some_iff.1 hx).1
  have hd : l.drop k = x :: l.drop (k + 1) := by
    rw [List.drop_eq_getElem_cons hkl, (List.getElem?_eq_some_iff.1 hx).2]
  conv => lhs; rw [← e]
  rw [List.idxOf_append, if_neg h, hd, List.idxOf_cons_self, List.length_take]
  omega
theorem notMem_take {l : List Int} {k : Nat} {x : Int} (hn : l.Nodup) (hx : l[k]? = some x) : x ∉ l.take k := fun hm => by
  have e := List.take_append_drop k l
  rw [← e, List.nodup_append] at hn
  exact hn.2.2 x hm x (List.mem_of_getElem? (i := 0) (by rw [List.getElem?_drop]; exact hx)) rfl
theorem posK_step {l : List Int} {n k m : Nat} (hn : l.Nodup) (hx : l[k]? = some (m : Int)) : (posK l n k).set m (k : Int) = posK l n (k + 1) := by
  have hnm := notMem_take hn hx
  have hid := idxOf_here hx hnm
  apply List.ext_getElem?
  intro v
  rw [List.getElem?_set, posK_len]
  by_cases hv : v < n
  · rw [posK_at hv, posK_at hv]
    by_cases e : m = v
    · subst e
      have : (m : Int) ∈ l.take (k + 1) := by rw [List.take_add_one, hx]; simp
      simp [hv, this, hid]
    · have e' : ¬ ((v : Int) = (m : Int)) := by omega
      have : ((v : Int) ∈ l.take (k + 1)) = ((v : Int) ∈ l.take k) := by
        rw [List.take_add_one, hx]
        simp [e']
      simp [e, this]
  · rw [List.getElem?_eq_none (by rw [posK_len]; omega), List.getElem?_eq_none (by rw [posK_len]; omega)]
    split <;> simp_all
theorem posL_at {l : List Int} {i v : Nat} (hn : l.Nodup) (hx : l[i]? = some (v : Int)) (hv : v < l.length) : (posL l)[v]? = some (i : Int) := by
  rw [posL, posK_at hv, List.take_length, if_pos (List.mem_of_getElem? hx), idxOf_here hx (notMem_take hn hx)]
set_option maxHeartbeats 2000000 in
theorem isPermutation_c (A : Option Addr) (c : Nat) (xs : List Int) (n : Nat) (w : World) (h : Rd w A xs) (hn : n ≤ 1000) :
    Calls Try.prog 41 #[.slice A xs.length c, .int .i64 n] w fun e w' => e = .returned (.bool (permB n xs)) ∧ Ex w w' := by
  have hl := h.len
  have hmk := fun W => run_make_bools n (by omega) W
  by_cases hln : xs.length = n
  · have hb : ((xs.length : Int) != (n : Int)) = false := by simp [hln]
    have hln' : (xs.length : Int) = n := by omega
    have Hln := Lib.hid hln
    have y0 := (Ex.refl w).alloc (.cells (bObj (List.replicate n false)) 4)
    have v0 := VB.new w 4 (bObj (List.replicate n false))
    have v1 : VB (w.alloc (.cells (bObj (List.replicate n false)) 4)) w.heap.size 4 (bObj (seenL n (xs.take 0))) := by
      rw [List.take_zero, seenL_nil]; exact v0
    clear hln hln' v0
    go_enter Try.func41, Try.ntmps41
    go_wp2_with fail
    go_loopw [16] (fun i wr => ∃ k : Nat, k ≤ xs.length ∧ i = .int .i64 k ∧ VB wr w.heap.size 4 (bObj (seenL n (xs.take k))) ∧ Hid ((xs.take k).all (inB 0 ((n : Int) - 1)) = true) ∧ Hid ((xs.take k).Nodup) ∧ Ex w wr) (fun i _ => xs.length - (intOf i).toNat)
    case atStart => exact ⟨0, Nat.zero_le _, rfl, v1, Lib.hid rfl, Lib.hid (by simp), y0⟩
    case round =>
      clear v1 y0
      obtain ⟨k, hk, rfl, hv, Hall, Hnd, he⟩ := hrel
      by_cases hlt : k < xs.length
      · obtain ⟨g, off, x, rfl, hx, hg, hc⟩ := (h.ex he).at_ hlt
        have Hx := Lib.hid hx
        have hwi := fun W => within_c x 0 ((n : Int) - 1) W
        clear hx
        cases hr : inB 0 ((n : Int) - 1) x with
        | false =>
          rw [hr] at hwi
          have H := Lib.hid (permB_out (List.mem_of_getElem? Hx.out) hr)
          clear hr
          go_wp2_with fail
          refine (hwi _).mono ?_
          rintro e _ ⟨rfl, rfl⟩
          go_wp2
          go_ret
          exact ⟨ret_bool H.out.symm, he⟩
        | true =>
          rw [hr] at hwi
          have hb2 := inB_bd hr
          obtain ⟨m, rfl⟩ := Int.eq_ofNat_of_zero_le hb2.1
          have hmn : m < n := by omega
          have hat := hv.bcell (seenL_at (l := xs.take k) hmn)
          have hfz := hv.frozen m
          have hst := hv.bset m true
          rw [← seenL_in n (xs.take k) m] at hst
          have Htk := Lib.hid (show xs.take k ++ [(m : Int)] = xs.take (k + 1) by rw [List.take_add_one, Hx.out]; rfl)
          rw [Htk.out] at hst
          have Hall2 := Lib.hid (all_take_succ Hx.out Hall.out hr)
          have he2 := he.setCell (p := ⟨w.heap.size, m, none⟩) (Nat.le_refl _) (.bool true)
          clear hr
          by_cases hin : (m : Int) ∈ xs.take k
          · have H := Lib.hid (permB_dup (n := n) Hx.out hin)
            rw [decide_eq_true hin] at hat
            clear hin hst
            go_wp2_with fail
            refine (hwi _).mono ?_
            rintro e _ ⟨rfl, rfl⟩
            go_wp2
            go_ret
            exact ⟨ret_bool H.out.symm, he⟩
          · have Hnd2 := Lib.hid (nodup_snoc Hx.out Hnd.out hin)
            rw [decide_eq_false hin] at hat
            clear hin
            go_wp2_with fail
            refine (hwi _).mono ?_
            rintro e _ ⟨rfl, rfl⟩
            go_wp2_with fail
            go_roundw
            case rel => exact ⟨k + 1, by omega, by go_num, hst, Hall2, Hnd2, he2⟩
            case measure => simp [intOf]; omega
      · obtain rfl : k = xs.length := by omega
        have H := Lib.hid (show permB n xs = true by
          have h1 := Hall.out
          have h2 := Hnd.out
          rw [List.take_length] at h1 h2
          exact permB_yes Hln.out h1 h2)
        go_wp2
        go_ret
        exact ⟨ret_bool H.out.symm, he⟩
  · have H := Lib.hid (permB_len hln)
    have hb : ((xs.length : Int) != (n : Int)) = true := by simp; omega
    clear hln
    go_enter Try.func41, Try.ntmps41
    go_wp2
    go_ret
    exact ⟨ret_bool H.out.symm, Ex.refl _⟩
set_option maxHeartbeats 2000000 in
theorem tmIsPerm_c (A : Option Addr) (c : Nat) (xs : List Int) (w : World) (h : Rd w A xs) (hn : xs.length ≤ 1000) :
    Calls Try.prog 36 #[.slice A xs.length c] w fun e w' => e = .returned (.bool (permB xs.length xs)) ∧ Ex w w' := by
  have hl := h.len
  have hmk := fun W => run_make_bools xs.length (by omega) W
  have y0 := (Ex.refl w).alloc (.cells (bObj (List.replicate xs.length false)) 4)
  have v0 := VB.new w 4 (bObj (List.replicate xs.length false))
  have v1 : VB (w.alloc (.cells (bObj (List.replicate xs.length false)) 4)) w.heap.size 4 (bObj (seenL xs.length (xs.take 0))) := by
    rw [List.take_zero, seenL_nil]; exact v0
  clear v0
  go_enter Try.func36, Try.ntmps36
  go_wp2_with fail
  go_loopw [11] (fun i wr => ∃ k : Nat, k ≤ xs.length ∧ i = .int .i64 k ∧ VB wr w.heap.size 4 (bObj (seenL xs.length (xs.take k))) ∧ Hid ((xs.take k).all (inB 0 ((xs.length : Int) - 1)) = true) ∧ Hid ((xs.take k).Nodup) ∧ Ex w wr) (fun i _ => xs.length - (intOf i).toNat)
  case atStart => exact ⟨0, Nat.zero_le _, rfl, v1, Lib.hid rfl, Lib.hid (by simp), y0⟩
  case round =>
    clear v1 y0
    obtain ⟨k, hk, rfl, hv, Hall, Hnd, he⟩ := hrel
    by_cases hlt : k < xs.length
    · obtain ⟨g, off, x, rfl, hx, hg, hc⟩ := (h.ex he).at_ hlt
      have Hx := Lib.hid hx
      have hwi := fun W => l1In_c x 0 ((xs.length : Int) - 1) W
      clear hx
      cases hr : inB 0 ((xs.length : Int) - 1) x with
      | false =>
        rw [hr] at hwi
        have H := Lib.hid (permB_out (List.mem_of_getElem? Hx.out) hr)
        clear hr
        go_wp2_with fail
        refine (hwi _).mono ?_
        rintro e _ ⟨rfl, rfl⟩
        go_wp2
        go_ret
        exact ⟨ret_bool H.out.symm, he⟩
      | true =>
        rw [hr] at hwi
        have hb2 := inB_bd hr
        obtain ⟨m, rfl⟩ := Int.eq_ofNat_of_zero_le hb2.1
        have hmn : m < xs.length := by omega
        have hat := hv.bcell (seenL_at (l := xs.take k) hmn)
        have hfz := hv.frozen m
        have hst := hv.bset m true
        rw [← seenL_in xs.length (xs.take k) m] at hst
        have Htk := Lib.hid (show xs.take k ++ [(m : Int)] = xs.take (k + 1) by rw [List.take_add_one, Hx.out]; rfl)
        rw [Htk.out] at hst
        have Hall2 := Lib.hid (all_take_succ Hx.out Hall.out hr)
        have he2 := he.setCell (p := ⟨w.heap.size, m, none⟩) (Nat.le_refl _) (.bool true)
        clear hr
        by_cases hin : (m : Int) ∈ xs.take k
        · have H := Lib.hid (permB_dup (n := xs.length) Hx.out hin)
          rw [decide_eq_true hin] at hat
          clear hin hst
          go_wp2_with fail
          refine (hwi _).mono ?_
          rintro e _ ⟨rfl, rfl⟩
          go_wp2
          go_ret
          exact ⟨ret_bool H.out.symm, he⟩
        · have Hnd2 := Lib.hid (nodup_snoc Hx.out Hnd.out hin)
          rw [decide_eq_false hin] at hat
          clear hin
          go_wp2_with fail
          refine (hwi _).mono ?_
          rintro e _ ⟨rfl, rfl⟩
          go_wp2_with fail
          go_roundw
          case rel => exact ⟨k + 1, by omega, by go_num, hst, Hall2, Hnd2, he2⟩
          case measure => simp [intOf]; omega
    · obtain rfl : k = xs.length := by omega
      have H := Lib.hid (show permB xs.length xs = true by
        have h1 := Hall.out
        have h2 := Hnd.out
        rw [List.take_length] at h1 h2
        exact permB_yes rfl h1 h2)
      go_wp2
      go_ret
      exact ⟨ret_bool H.out.symm, he⟩
theorem backwards_c (A : Option Addr) (c : Nat) (xs : List Int) (w : World) (h : Rd w A xs) (hp : permB xs.length xs = true) (hn : xs.length ≤ 1000) :
    Calls Try.prog 42 #[.slice A xs.length c] w fun e w' => ∃ g, e = .returned (.slice (some ⟨g, 0, none⟩) xs.length xs.length) ∧ w.heap.size ≤ g ∧ Own w' g (posL xs) ∧ Ex w w' := by
  have hl := h.len
  go_enter Try.func42, Try.ntmps42
  go_wp2_with fail
  refine (zeros_c xs.length (by omega) w).mono ?_
  rintro e w2 ⟨g, rfl, hg, hb, x2⟩
  have o2 := hb.own
  clear hb
  go_wp2_with fail
  obtain ⟨_, hpr, hnd⟩ := permB_parts hp
  have Hpr := Lib.hid hpr
  have Hnd := Lib.hid hnd
  rw [← posK_zero xs] at o2
  clear hp hpr hnd
  go_loopw [11] (fun i wr => ∃ k : Nat, k ≤ xs.length ∧ i = .int .i64 k ∧ Own wr g (posK xs xs.length k) ∧ Ex w wr) (fun i _ => xs.length - (intOf i).toNat)
  case atStart => exact ⟨0, Nat.zero_le _, rfl, o2, x2⟩
  case round =>
    obtain ⟨k, hk, rfl, ho, he⟩ := hrel
    by_cases hlt : k < xs.length
    · obtain ⟨g', off, x, rfl, hx, hg', hc⟩ := (h.ex he).at_ hlt
      have hb := Hpr.out x (List.mem_of_getElem? hx)
      obtain ⟨m, rfl⟩ := Int.eq_ofNat_of_zero_le hb.1
      have hmn : m < xs.length := by omega
      have c1 := ho.cell (posK_at (l := xs) (k := k) hmn)
      have f1 := ho.frozen m
      have hs := ho.set_ m (k : Int)
      have Hst := Lib.hid (posK_step (n := xs.length) Hnd.out hx)
      rw [Hst.out] at hs
      have he2 := he.setCell (p := ⟨g, m, none⟩) hg (.int .i64 (k : Int))
      clear hx ho
      generalize (if (m : Int) ∈ xs.take k then (xs.idxOf (m : Int) : Int) else 0) = z at *
      go_wp2_with fail
      go_roundw
      case rel => exact ⟨k + 1, by omega, by go_num, hs, he2⟩
      case measure => simp [intOf]; omega
    · obtain rfl : k = xs.length := by omega
      go_wp2
      go_ret
      exact ⟨g, rfl, hg, ho, he⟩
end Go.Proofs.Ytgblnkadmieflaa
