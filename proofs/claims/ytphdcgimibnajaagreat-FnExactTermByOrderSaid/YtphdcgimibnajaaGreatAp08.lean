/- Contracts: permutations, on both sides. Lists of lists of ints in memory; the laws' helpers on them. Contracts: which edges an edge needs (the program). Contracts: the order of the edges (the program). -/
import Derived.Test.YtphdcgimibnajaaGreatAp07
import Derived.Test.YtphdcgimibnajaaGreatLaw
import Derived.RegionCalls
import Derived.Deep.RegionWith
namespace Go.Proofs.YtphdcgimibnajaaGreat
set_option maxRecDepth 100000
open Go Go.RowKit
def permB (n : Nat) (l : List Int) : Bool := decide (l.length = n) && l.all (inB 0 ((n : Int) - 1)) && decide l.Nodup
theorem permB_len {n : Nat} {l : List Int} (h : l.length ≠ n) : permB n l = false := by simp [permB, h]
theorem permB_out {n : Nat} {l : List Int} {x : Int} (h : x ∈ l) (hx : inB 0 ((n : Int) - 1) x = false) : permB n l = false := by
  have : l.all (inB 0 ((n : Int) - 1)) = false := List.all_eq_false.2 ⟨x, h, by simp [hx]⟩
  simp [permB, this]
theorem permB_dup {n : Nat} {l : List Int} {k : Nat} {x : Int} (hx : l[k]? = some x) (h : x ∈ l.take k) : permB n l = false := by
  have : ¬ l.Nodup := fun hn => by
    have e := List.take_append_drop k l
    rw [← e, List.nodup_append] at hn
    have hd : x ∈ l.drop k := List.mem_of_getElem? (i := 0) (by rw [List.getElem?_drop]; exact hx)
    exact hn.2.2 x h x hd rfl
  simp [permB, this]
theorem nodup_snoc {l : List Int} {k : Nat} {x : Int} (hx : l[k]? = some x) (hn : (l.take k).Nodup) (h : x ∉ l.take k) : (l.take (k + 1)).Nodup := by
  rw [List.take_add_one, hx, Option.toList_some, List.nodup_append]
  refine ⟨hn, by simp, fun a ha b hb => ?_⟩
  simp at hb
  subst hb
  intro e
  subst e
  exact h ha
theorem permB_yes {n : Nat} {l : List Int} (h1 : l.length = n) (h2 : l.all (inB 0 ((n : Int) - 1)) = true) (h3 : l.Nodup) : permB n l = true := by simp [permB, h1, h2, h3]
theorem permB_parts {n : Nat} {l : List Int} (h : permB n l = true) : l.length = n ∧ (∀ k ∈ l, 0 ≤ k ∧ k ≤ (n : Int) - 1) ∧ l.Nodup := by
  simp only [permB, Bool.and_eq_true, decide_eq_true_eq] at h
  exact ⟨h.1.1, fun k hk => all_bd h.1.2 hk, h.2⟩
/-- Where each number stands, as far as the first k are looked at. -/
def posK (l : List Int) (n k : Nat) : List Int := (List.range n).map fun (v : Nat) => if (v : Int) ∈ l.take k then (l.idxOf (v : Int) : Int) else 0
def posL (l : List Int) : List Int := posK l l.length l.length
theorem posK_len (l : List Int) (n k : Nat) : (posK l n k).length = n := by simp [posK]
theorem posK_zero (l : List Int) (n : Nat) : posK l n 0 = List.replicate n 0 := by
  apply List.ext_getElem <;> simp [posK]
theorem posK_at {l : List Int} {n k v : Nat} (h : v < n) : (posK l n k)[v]? = some (if (v : Int) ∈ l.take k then (l.idxOf (v : Int) : Int) else 0) := by simp [posK, h]
theorem idxOf_here {l : List Int} {k : Nat} {x : Int} (hx : l[k]? = some x) (h : x ∉ l.take k) : l.idxOf x = k := by
  have e := List.take_append_drop k l
  have hkl := (List.getElem?_eq_some_iff.1 hx).1
  have hd : l.drop k = x :: l.drop (k + 1) := by
    rw [List.drop_eq_getElem_cons hkl, (List.getElem?_eq_some_iff.1 hx).2]
  conv => lhs; rw [← e]
  rw [List.idxOf_append, if_neg h, hd, List.idxOf_cons_self, List.length_take]
  omega
theorem notMem_take {l : List Int} {k : Nat} {x : Int} (hn : l.Nodup) (hx : l[k]? = some x) : x ∉ l.take k := fun hm => by
  have e := List.take_append_drop k l
  rw [← e, List.nodup_append] at hn
  exact hn.2.2 x hm x (List.mem_of_getElem? (i := 0) (by rw [List.getElem?_drop]; exact hx)) rfl
theorem posK_step {l : List Int} {n k m : Nat} (hn : l.Nodup) (hx : l[k]? = some (m : Int)) : (posK l n k).set m (k : Int) = posK l n (k + 1) := by
  have hnm := notMem_take hn hx
  have hid := idxOf_here hx hnm
  apply List.ext_getElem?
  intro v
  rw [List.getElem?_set, posK_len]
  by_cases hv : v < n
  · rw [posK_at hv, posK_at hv]
    by_cases e : m = v
    · subst e
      have : (m : Int) ∈ l.take (k + 1) := by rw [List.take_add_one, hx]; simp
      simp [hv, this, hid]
    · have e' : ¬ ((v : Int) = (m : Int)) := by omega
      have : ((v : Int) ∈ l.take (k + 1)) = ((v : Int) ∈ l.take k) := by
        rw [List.take_add_one, hx]
        simp [e']
      simp [e, this]
  · rw [List.getElem?_eq_none (by rw [posK_len]; omega), List.getElem?_eq_none (by rw [posK_len]; omega)]
    split <;> simp_all
theorem posL_at {l : List Int} {i v : Nat} (hn : l.Nodup) (hx : l[i]? = some (v : Int)) (hv : v < l.length) : (posL l)[v]? = some (i : Int) := by
  rw [posL, posK_at hv, List.take_length, if_pos (List.mem_of_getElem? hx), idxOf_here hx (notMem_take hn hx)]
set_option maxHeartbeats 2000000 in
theorem isPermutation_c (A : Option Addr) (c : Nat) (xs : List Int) (n : Nat) (w : World) (h : Rd w A xs) (hn : n ≤ 1000) :
    Calls Tryz.prog 73 #[.slice A xs.length c, .int .i64 n] w fun e w' => e = .returned (.bool (permB n xs)) ∧ Ex w w' := by
  have hl := h.len
  have hmk := fun W => run_make_bools n (by omega) W
  by_cases hln : xs.length = n
  · have hb : ((xs.length : Int) != (n : Int)) = false := by simp [hln]
    have hln' : (xs.length : Int) = n := by omega
    have Hln := Lib.hid hln
    have y0 := (Ex.refl w).alloc (.cells (bObj (List.replicate n false)) 4)
    have v0 := VB.new w 4 (bObj (List.replicate n false))
    have v1 : VB (w.alloc (.cells (bObj (List.replicate n false)) 4)) w.heap.size 4 (bObj (seenL n (xs.take 0))) := by
      rw [List.take_zero, seenL_nil]; exact v0
    clear hln hln' v0
    go_enter Tryz.func73, Tryz.ntmps73
    go_wp2_with fail
    go_loopw [16] (fun i wr => ∃ k : Nat, k ≤ xs.length ∧ i = .int .i64 k ∧ VB wr w.heap.size 4 (bObj (seenL n (xs.take k))) ∧ Hid ((xs.take k).all (inB 0 ((n : Int) - 1)) = true) ∧ Hid ((xs.take k).Nodup) ∧ Ex w wr) (fun i _ => xs.length - (intOf i).toNat)
    case atStart => exact ⟨0, Nat.zero_le _, rfl, v1, Lib.hid rfl, Lib.hid (by simp), y0⟩
    case round =>
      clear v1 y0
      obtain ⟨k, hk, rfl, hv, Hall, Hnd, he⟩ := hrel
      by_cases hlt : k < xs.length
      · obtain ⟨g, off, x, rfl, hx, hg, hc⟩ := (h.ex he).at_ hlt
        have Hx := Lib.hid hx
        have hwi := fun W => within_c x 0 ((n : Int) - 1) W
        clear hx
        cases hr : inB 0 ((n : Int) - 1) x with
        | false =>
          rw [hr] at hwi
          have H := Lib.hid (permB_out (List.mem_of_getElem? Hx.out) hr)
          clear hr
          go_wp2_with fail
          refine (hwi _).mono ?_
          rintro e _ ⟨rfl, rfl⟩
          go_wp2
          go_ret
          exact ⟨ret_bool H.out.symm, he⟩
        | true =>
          rw [hr] at hwi
          have hb2 := inB_bd hr
          obtain ⟨m, rfl⟩ := Int.eq_ofNat_of_zero_le hb2.1
          have hmn : m < n := by omega
          have hat := hv.bcell (seenL_at (l := xs.take k) hmn)
          have hfz := hv.frozen m
          have hst := hv.bset m true
          rw [← seenL_in n (xs.take k) m] at hst
          have Htk := Lib.hid (show xs.take k ++ [(m : Int)] = xs.take (k + 1) by rw [List.take_add_one, Hx.out]; rfl)
          rw [Htk.out] at hst
          have Hall2 := Lib.hid (all_take_succ Hx.out Hall.out hr)
          have he2 := he.setCell (p := ⟨w.heap.size, m, none⟩) (Nat.le_refl _) (.bool true)
          clear hr
          by_cases hin : (m : Int) ∈ xs.take k
          · have H := Lib.hid (permB_dup (n := n) Hx.out hin)
            rw [decide_eq_true hin] at hat
            clear hin hst
            go_wp2_with fail
            refine (hwi _).mono ?_
            rintro e _ ⟨rfl, rfl⟩
            go_wp2
            go_ret
            exact ⟨ret_bool H.out.symm, he⟩
          · have Hnd2 := Lib.hid (nodup_snoc Hx.out Hnd.out hin)
            rw [decide_eq_false hin] at hat
            clear hin
            go_wp2_with fail
            refine (hwi _).mono ?_
            rintro e _ ⟨rfl, rfl⟩
            go_wp2_with fail
            go_roundw
            case rel => exact ⟨k + 1, by omega, by go_num, hst, Hall2, Hnd2, he2⟩
            case measure => simp [intOf]; omega
      · obtain rfl : k = xs.length := by omega
        have H := Lib.hid (show permB n xs = true by
          have h1 := Hall.out
          have h2 := Hnd.out
          rw [List.take_length] at h1 h2
          exact permB_yes Hln.out h1 h2)
        go_wp2
        go_ret
        exact ⟨ret_bool H.out.symm, he⟩
  · have H := Lib.hid (permB_len hln)
    have hb : ((xs.length : Int) != (n : Int)) = true := by simp; omega
    clear hln
    go_enter Tryz.func73, Tryz.ntmps73
    go_wp2
    go_ret
    exact ⟨ret_bool H.out.symm, Ex.refl _⟩
set_option maxHeartbeats 2000000 in
theorem tmIsPerm_c (A : Option Addr) (c : Nat) (xs : List Int) (w : World) (h : Rd w A xs) (hn : xs.length ≤ 1000) :
    Calls Tryz.prog 71 #[.slice A xs.length c] w fun e w' => e = .returned (.bool (permB xs.length xs)) ∧ Ex w w' := by
  have hl := h.len
  have hmk := fun W => run_make_bools xs.length (by omega) W
  have y0 := (Ex.refl w).alloc (.cells (bObj (List.replicate xs.length false)) 4)
  have v0 := VB.new w 4 (bObj (List.replicate xs.length false))
  have v1 : VB (w.alloc (.cells (bObj (List.replicate xs.length false)) 4)) w.heap.size 4 (bObj (seenL xs.length (xs.take 0))) := by
    rw [List.take_zero, seenL_nil]; exact v0
  clear v0
  go_enter Tryz.func71, Tryz.ntmps71
  go_wp2_with fail
  go_loopw [11] (fun i wr => ∃ k : Nat, k ≤ xs.length ∧ i = .int .i64 k ∧ VB wr w.heap.size 4 (bObj (seenL xs.length (xs.take k))) ∧ Hid ((xs.take k).all (inB 0 ((xs.length : Int) - 1)) = true) ∧ Hid ((xs.take k).Nodup) ∧ Ex w wr) (fun i _ => xs.length - (intOf i).toNat)
  case atStart => exact ⟨0, Nat.zero_le _, rfl, v1, Lib.hid rfl, Lib.hid (by simp), y0⟩
  case round =>
    clear v1 y0
    obtain ⟨k, hk, rfl, hv, Hall, Hnd, he⟩ := hrel
    by_cases hlt : k < xs.length
    · obtain ⟨g, off, x, rfl, hx, hg, hc⟩ := (h.ex he).at_ hlt
      have Hx := Lib.hid hx
      have hwi := fun W => l1In_c x 0 ((xs.length : Int) - 1) W
      clear hx
      cases hr : inB 0 ((xs.length : Int) - 1) x with
      | false =>
        rw [hr] at hwi
        have H := Lib.hid (permB_out (List.mem_of_getElem? Hx.out) hr)
        clear hr
        go_wp2_with fail
        refine (hwi _).mono ?_
        rintro e _ ⟨rfl, rfl⟩
        go_wp2
        go_ret
        exact ⟨ret_bool H.out.symm, he⟩
      | true =>
        rw [hr] at hwi
        have hb2 := inB_bd hr
        obtain ⟨m, rfl⟩ := Int.eq_ofNat_of_zero_le hb2.1
        have hmn : m < xs.length := by omega
        have hat := hv.bcell (seenL_at (l := xs.take k) hmn)
        have hfz := hv.frozen m
        have hst := hv.bset m true
        rw [← seenL_in xs.length (xs.take k) m] at hst
        have Htk := Lib.hid (show xs.take k ++ [(m : Int)] = xs.take (k + 1) by rw [List.take_add_one, Hx.out]; rfl)
        rw [Htk.out] at hst
        have Hall2 := Lib.hid (all_take_succ Hx.out Hall.out hr)
        have he2 := he.setCell (p := ⟨w.heap.size, m, none⟩) (Nat.le_refl _) (.bool true)
        clear hr
        by_cases hin : (m : Int) ∈ xs.take k
        · have H := Lib.hid (permB_dup (n := xs.length) Hx.out hin)
          rw [decide_eq_true hin] at hat
          clear hin hst
          go_wp2_with fail
          refine (hwi _).mono ?_
          rintro e _ ⟨rfl, rfl⟩
          go_wp2
          go_ret
          exact ⟨ret_bool H.out.symm, he⟩
        · have Hnd2 := Lib.hid (nodup_snoc Hx.out Hnd.out hin)
          rw [decide_eq_false hin] at hat
          clear hin
          go_wp2_with fail
          refine (hwi _).mono ?_
          rintro e _ ⟨rfl, rfl⟩
          go_wp2_with fail
          go_roundw
          case rel => exact ⟨k + 1, by omega, by go_num, hst, Hall2, Hnd2, he2⟩
          case measure => simp [intOf]; omega
    · obtain rfl : k = xs.length := by omega
      have H := Lib.hid (show permB xs.length xs = true by
        have h1 := Hall.out
        have h2 := Hnd.out
        rw [List.take_length] at h1 h2
        exact permB_yes rfl h1 h2)
      go_wp2
      go_ret
      exact ⟨ret_bool H.out.symm, he⟩
theorem backwards_c (A : Option Addr) (c : Nat) (xs : List Int) (w : World) (h : Rd w A xs) (hp : permB xs.length xs = true) (hn : xs.length ≤ 1000) :
    Calls Tryz.prog 74 #[.slice A xs.length c] w fun e w' => ∃ g, e = .returned (.slice (some ⟨g, 0, none⟩) xs.length xs.length) ∧ w.heap.size ≤ g ∧ Own w' g (posL xs) ∧ Ex w w' := by
  have hl := h.len
  go_enter Tryz.func74, Tryz.ntmps74
  go_wp2_with fail
  refine (zeros_c xs.length (by omega) w).mono ?_
  rintro e w2 ⟨g, rfl, hg, hb, x2⟩
  have o2 := hb.own
  clear hb
  go_wp2_with fail
  obtain ⟨_, hpr, hnd⟩ := permB_parts hp
  have Hpr := Lib.hid hpr
  have Hnd := Lib.hid hnd
  rw [← posK_zero xs] at o2
  clear hp hpr hnd
  go_loopw [11] (fun i wr => ∃ k : Nat, k ≤ xs.length ∧ i = .int .i64 k ∧ Own wr g (posK xs xs.length k) ∧ Ex w wr) (fun i _ => xs.length - (intOf i).toNat)
  case atStart => exact ⟨0, Nat.zero_le _, rfl, o2, x2⟩
  case round =>
    obtain ⟨k, hk, rfl, ho, he⟩ := hrel
    by_cases hlt : k < xs.length
    · obtain ⟨g', off, x, rfl, hx, hg', hc⟩ := (h.ex he).at_ hlt
      have hb := Hpr.out x (List.mem_of_getElem? hx)
      obtain ⟨m, rfl⟩ := Int.eq_ofNat_of_zero_le hb.1
      have hmn : m < xs.length := by omega
      have c1 := ho.cell (posK_at (l := xs) (k := k) hmn)
      have f1 := ho.frozen m
      have hs := ho.set_ m (k : Int)
      have Hst := Lib.hid (posK_step (n := xs.length) Hnd.out hx)
      rw [Hst.out] at hs
      have he2 := he.setCell (p := ⟨g, m, none⟩) hg (.int .i64 (k : Int))
      clear hx ho
      generalize (if (m : Int) ∈ xs.take k then (xs.idxOf (m : Int) : Int) else 0) = z at *
      go_wp2_with fail
      go_roundw
      case rel => exact ⟨k + 1, by omega, by go_num, hs, he2⟩
      case measure => simp [intOf]; omega
    · obtain rfl : k = xs.length := by omega
      go_wp2
      go_ret
      exact ⟨g, rfl, hg, ho, he⟩
end Go.Proofs.YtphdcgimibnajaaGreat
namespace Go.Proofs.YtphdcgimibnajaaGreat
set_option maxRecDepth 100000
open Go Go.RowKit
/-- The slice that begins at A holds slices of the lengths ns. -/
def RdH (w : World) (A : Option Addr) (ns : List Nat) : Prop :=
  ∀ (j n : Nat), ns[j]? = some n → n ≤ 9223372036854775807 ∧ ∃ g off A' c, A = some ⟨g, off, none⟩ ∧ w.cell? ⟨g, off + j, none⟩ = some (.slice A' n c)
/-- The slice that begins at A reads as the list of lists rows. -/
def RdM (w : World) (A : Option Addr) (rows : List (List Int)) : Prop :=
  rows.length ≤ 1099511627776 ∧ ∀ (j : Nat) (r : List Int), rows[j]? = some r → ∃ g off A' c, A = some ⟨g, off, none⟩ ∧ w.cell? ⟨g, off + j, none⟩ = some (.slice A' r.length c) ∧ Rd w A' r
theorem RdH.ex {w w' : World} {A : Option Addr} {ns : List Nat} (h : RdH w A ns) (he : Ex w w') : RdH w' A ns := fun j n hj => by
  obtain ⟨hb, g, off, A', c, hA, hc⟩ := h j n hj
  exact ⟨hb, g, off, A', c, hA, cell_ex he hc⟩
theorem RdM.ex {w w' : World} {A : Option Addr} {rows : List (List Int)} (h : RdM w A rows) (he : Ex w w') : RdM w' A rows := ⟨h.1, fun j r hj => by
  obtain ⟨g, off, A', c, hA, hc, hr⟩ := h.2 j r hj
  exact ⟨g, off, A', c, hA, cell_ex he hc, hr.ex he⟩⟩
theorem RdM.at_ {w : World} {A : Option Addr} {rows : List (List Int)} (h : RdM w A rows) {k : Nat} (hk : k < rows.length) :
    ∃ g off A' c r, A = some ⟨g, off, none⟩ ∧ rows[k]? = some r ∧ w.cell? ⟨g, off + k, none⟩ = some (.slice A' r.length c) ∧ Rd w A' r := by
  obtain ⟨g, off, A', c, hA, hc, hr⟩ := h.2 k _ (List.getElem?_eq_getElem hk)
  exact ⟨g, off, A', c, _, hA, List.getElem?_eq_getElem hk, hc, hr⟩
/-- make([][]int, n) -/
theorem madeSlices (n : Nat) : (madeCells (Value.slice none 0 0).cells (n * 1)) = (List.replicate n (Value.slice none 0 0)).toArray := by
  apply Array.toList_inj.1
  rw [Nat.mul_one]
  show (madeCells #[Value.slice none 0 0] n).toList = _
  rw [toList_madeCells_one]
theorem sliceInfo : (Tryz.prog.info? 23).map (fun i => (i.zero, i.size, i.bytes)) = some (some (.slice none 0 0), 1, 24) := by kernel_rfl
theorem run_make_slices (n : Nat) (hn : n ≤ 1099511627776) (w : World) :
    (Instr.makeSlice 88 (.int .i64 (n : Int)) (.int .i64 (n : Int))).run Tryz.prog w = .ok (.slice (some ⟨w.heap.size, 0, none⟩) n n) (w.alloc (.cells (List.replicate n (Value.slice none 0 0)).toArray 23)) := by
  obtain ⟨i, hi, hz, hs, hb⟩ := info_parts sliceInfo
  have hr := run_make (P := Tryz.prog) w 88 23 i (.slice none 0 0) Tryz.underlying88 hi hz .i64 .i64 n n (by omega) (by omega) (by rw [hb]; omega) (by omega)
  simp only [Int.toNat_natCast, hs] at hr
  rw [madeSlices] at hr
  exact hr
/-- The headers of fresh rows. -/
def hdr (gs : List Nat) (rows : List (List Int)) : List Value := List.zipWith (fun g (r : List Int) => Value.slice (some ⟨g, 0, none⟩) r.length r.length) gs rows
/-- A fresh copy of rows: its own row of headers, a block for each row. -/
structure FM (w : World) (B g : Nat) (gs : List Nat) (rows : List (List Int)) : Prop where
  low : B ≤ g
  len : gs.length = rows.length
  head : VB w g 23 (hdr gs rows).toArray
  row : ∀ (j h : Nat) (r : List Int), gs[j]? = some h → rows[j]? = some r → g < h ∧ Blk w h r
  up : gs.Pairwise (· < ·)
theorem hdr_at {gs : List Nat} {rows : List (List Int)} {j h : Nat} {r : List Int} (hg : gs[j]? = some h) (hr : rows[j]? = some r) : (hdr gs rows)[j]? = some (Value.slice (some ⟨h, 0, none⟩) r.length r.length) := by
  simp [hdr, List.getElem?_zipWith, hg, hr]
theorem FM.rd {w : World} {B g : Nat} {gs : List Nat} {rows : List (List Int)} (h : FM w B g gs rows) (hl : rows.length ≤ 1099511627776) (hr : ∀ r ∈ rows, r.length ≤ 1099511627776) : RdM w (some ⟨g, 0, none⟩) rows :=
  ⟨hl, fun j r hj => by
    have hlt := (List.getElem?_eq_some_iff.1 hj).1
    have hg : gs[j]? = some (gs[j]'(by rw [h.len]; exact hlt)) := List.getElem?_eq_getElem _
    obtain ⟨_, hb⟩ := h.row j _ r hg hj
    exact ⟨g, 0, _, _, rfl, by rw [Nat.zero_add]; exact h.head.cell j (by simpa using hdr_at hg hj), hb.rd (hr r (List.mem_of_getElem? hj))⟩⟩
theorem FM.ex {w w' : World} {B g : Nat} {gs : List Nat} {rows : List (List Int)} (h : FM w B g gs rows) (he : Ex w w') : FM w' B g gs rows :=
  ⟨h.low, h.len, h.head.ex he, fun j k r hg hr => ⟨(h.row j k r hg hr).1, (h.row j k r hg hr).2.ex he⟩, h.up⟩
end Go.Proofs.YtphdcgimibnajaaGreat
namespace Go.Proofs.YtphdcgimibnajaaGreat
set_option maxRecDepth 100000
open Go Go.RowKit
theorem ndF_snoc (es : List Ed) (i : Int) (k : Nat) : ((upL (k + 1)).filter fun k => meetB (edAt es i).ins (edAt es k).outs) = ((upL k).filter fun k => meetB (edAt es i).ins (edAt es k).outs) ++ (if meetB (edAt es i).ins (edAt es k).outs then [(k : Int)] else []) := by
  rw [upL_succ, List.filter_append]
  by_cases h : meetB (edAt es i).ins (edAt es k).outs = true <;> simp [h]
/-- A list of lists that lies in block g: read only. -/
def Rows2 (w : World) (g hi : Nat) (vs : List Value) (rows : List (List Int)) : Prop := VB w g 23 vs.toArray ∧ vs.length = rows.length ∧ (∀ (j : Nat) (v : Value) (r : List Int), vs[j]? = some v → rows[j]? = some r → OI w 0 hi v r) ∧ g < hi
theorem Rows2.ex {w w' : World} {g hi : Nat} {vs : List Value} {rows : List (List Int)} (h : Rows2 w g hi vs rows) (he : Ex w w') : Rows2 w' g hi vs rows := ⟨h.1.ex he, h.2.1, fun j v r hv hr => (h.2.2.1 j v r hv hr).ex he, h.2.2.2⟩
theorem Rows2.iv {w w' : World} {g hi a b : Nat} {vs : List Value} {rows : List (List Int)} (h : Rows2 w g hi vs rows) (k : ExI a b w w') (hd : hi ≤ a) : Rows2 w' g hi vs rows := ⟨h.1.iv k (by have := h.2.2.2; omega), h.2.1, fun j v r hv hr => (h.2.2.1 j v r hv hr).iv k (.inl hd), h.2.2.2⟩
theorem Rows2.e1 {w w' : World} {g hi q : Nat} {vs : List Value} {rows : List (List Int)} (h : Rows2 w g hi vs rows) (k : Ex1 q w w') (hd : hi ≤ q) : Rows2 w' g hi vs rows := h.iv (ExI.of_ex1 k) hd
theorem Rows2.row {w : World} {g hi : Nat} {vs : List Value} {rows : List (List Int)} (h : Rows2 w g hi vs rows) {j : Nat} {r : List Int} (hr : rows[j]? = some r) : ∃ P pc, w.cell? ⟨g, j, none⟩ = some (.slice P r.length pc) ∧ Rd w P r := by
  have hl := (List.getElem?_eq_some_iff.1 hr).1
  obtain ⟨v, hv⟩ : ∃ v, vs[j]? = some v := ⟨_, List.getElem?_eq_getElem (by rw [h.2.1]; exact hl)⟩
  obtain ⟨P, pc, rfl, hR⟩ := (h.2.2.1 j v r hv hr).rd
  exact ⟨P, pc, h.1.cell j (by rw [List.getElem?_toArray]; exact hv), hR⟩
set_option maxHeartbeats 4000000 in
theorem gneeds_c (N : Int) (E : Option Addr) (ec : Nat) (es : List Ed) (I O : Value) (w : World) (hE : RdS EE w E es) (hn : es.length ≤ 60) (hI : ∃ A n c, I = .slice A n c) (hO : ∃ A n c, O = .slice A n c) :
    Calls Tryz.prog 62 #[.agg #[.int .i64 N, .slice E es.length ec, I, O]] w fun e w' => ∃ g vs, e = .returned (.slice (some ⟨g, 0, none⟩) es.length es.length) ∧ Rows2 w' g w'.heap.size vs (ndR es) ∧ Ex w w' := by
  obtain ⟨I, il, ic, rfl⟩ := hI
  obtain ⟨O, ol, oc, rfl⟩ := hO
  have hmk := fun W => run_make_slices es.length (by omega) W
  have y0 := (Ex.refl w).alloc (.cells #[.int .i64 N, .slice E es.length ec, .slice I il ic, .slice O ol oc] 34)
  have d0 := VB.new w 34 #[.int .i64 N, .slice E es.length ec, .slice I il ic, .slice O ol oc]
  have S0 := Lib.hid (show (w.alloc (.cells #[.int .i64 N, .slice E es.length ec, .slice I il ic, .slice O ol oc] 34)).heap.size = w.heap.size + 1 by simp)
  go_enter Tryz.func62, Tryz.ntmps62
  go_wp2_with fail
  generalize w.alloc (.cells #[.int .i64 N, .slice E es.length ec, .slice I il ic, .slice O ol oc] 34) = W0 at *
  have y1 := (Ex.refl W0).alloc (.cells (Array.replicate es.length (.slice none 0 0)) 23)
  have v1 := VB.new W0 23 (Array.replicate es.length (.slice none 0 0))
  rw [S0.out] at v1
  have S1 : (W0.alloc (.cells (Array.replicate es.length (.slice none 0 0)) 23)).heap.size = w.heap.size + 1 + 1 := by simp; exact S0.out
  generalize W0.alloc (.cells (Array.replicate es.length (.slice none 0 0)) 23) = W1 at *
  have d0 := d0.ex y1
  have xx := y0.trans y1
  clear y0 y1 S0
  go_loopw [15] (fun i wr => ∃ (k : Nat) (us : List Value), k ≤ es.length ∧ i = .int .i64 k ∧ us.length = k ∧ VB wr (w.heap.size + 1) 23 ((us ++ List.replicate (es.length - k) (Value.slice none 0 0)).toArray) ∧ (∀ (j : Nat) (v : Value) (r : List Int), us[j]? = some v → (ndR es)[j]? = some r → OI wr (w.heap.size + 1 + 1) wr.heap.size v r) ∧ VB wr w.heap.size 34 #[.int .i64 N, .slice E es.length ec, .slice I il ic, .slice O ol oc] ∧ Ex w wr) (fun i _ => es.length - (intOf i).toNat)
  case atStart => exact ⟨0, [], Nat.zero_le _, rfl, rfl, by simpa using v1, fun j v r h => by simp at h, d0, xx⟩
  case round =>
    obtain ⟨k, us, hk, rfl, hus, hv, hrows, hd, he⟩ := hrel
    by_cases hlt : k < es.length
    · obtain ⟨g, off, x, P, pc, Q, qc, rfl, hx, c0, c1, c2, c3, hP, hQ⟩ := hE.edge hlt
      replace c0 := cell_ex he c0
      replace c1 := cell_ex he c1
      replace c2 := cell_ex he c2
      replace c3 := cell_ex he c3
      have y3 := (Ex.refl wr).alloc (.cells #[.int .i64 x.kd, .int .i64 x.vl, .slice P x.ins.length pc, .slice Q x.outs.length qc] 69)
      have v3 := VB.new wr 69 #[.int .i64 x.kd, .int .i64 x.vl, .slice P x.ins.length pc, .slice Q x.outs.length qc]
      have S3 : (wr.alloc (.cells #[.int .i64 x.kd, .int .i64 x.vl, .slice P x.ins.length pc, .slice Q x.outs.length qc] 69)).heap.size = wr.heap.size + 1 := by simp
      have hPl := hP.len
      have hed := edAt_nat hx
      have Hed := Lib.hid hed
      have hdE := (hd.ex y3).cell 1 (v := .slice (some ⟨g, off, none⟩) es.length ec) rfl
      clear hx hed
      go_wp2_with fail
      have hv3 := hv.ex y3
      have hd3 := hd.ex y3
      have he3 := he.trans y3
      have hrows3 : ∀ (j : Nat) (v : Value) (r : List Int), us[j]? = some v → (ndR es)[j]? = some r → OI (wr.alloc (.cells #[.int .i64 x.kd, .int .i64 x.vl, .slice P x.ins.length pc, .slice Q x.outs.length qc] 69)) (w.heap.size + 1 + 1) (wr.heap.size + 1) v r := fun j v r h1 h2 => ((hrows j v r h1 h2).ex y3).more (Nat.le_refl _) (by omega)
      have hvl := hv.lt
      clear c0 c1 c2 c3 hv hd hrows y3 hdE
      generalize wr.alloc (.cells #[.int .i64 x.kd, .int .i64 x.vl, .slice P x.ins.length pc, .slice Q x.outs.length qc] 69) = W3 at *
      obtain ⟨b, hb⟩ : ∃ b, wr.heap.size = b := ⟨_, rfl⟩
      rw [hb] at v3 S3 hrows3 hvl ⊢
      clear hb he
      rw [show es.length - k = (es.length - (k + 1)) + 1 by omega, List.replicate_succ] at hv3
      generalize hRest : List.replicate (es.length - (k + 1)) (Value.slice none 0 0) = rest at hv3
      have HRest := Lib.hid hRest
      clear hRest
      go_loopw [23] (fun i wi => ∃ (m : Nat) (v : Value), m ≤ es.length ∧ i = .int .i64 m ∧ VB wi (w.heap.size + 1) 23 ((us ++ v :: rest).toArray) ∧ AL wi (b + 1) v ((upL m).filter fun q => meetB (edAt es (k : Int)).ins (edAt es q).outs) ∧ (∀ (j : Nat) (v : Value) (r : List Int), us[j]? = some v → (ndR es)[j]? = some r → OI wi (w.heap.size + 1 + 1) (b + 1) v r) ∧
        VB wi w.heap.size 34 #[.int .i64 N, .slice (some ⟨g, off, none⟩) es.length ec, .slice I il ic, .slice O ol oc] ∧ VB wi b 69 #[.int .i64 x.kd, .int .i64 x.vl, .slice P x.ins.length pc, .slice Q x.outs.length qc] ∧ b + 1 ≤ wi.heap.size ∧ Ex w wi) (fun i _ => es.length - (intOf i).toNat)
      case atStart => exact ⟨0, _, Nat.zero_le _, rfl, hv3, AL.nil _ _, hrows3, hd3, v3, by omega, he3⟩
      case round =>
        clear hv3 hrows3 hd3 v3 he3
        obtain ⟨m, v, hm, rfl, hv, hal, hrows, hd, hvb, hbz, he⟩ := hrel
        by_cases hml : m < es.length
        · obtain ⟨g', off', y, P', pc', Q', qc', hAe, hy, c0, c1, c2, c3, hP', hQ'⟩ := hE.edge hml
          injection hAe with hAe
          injection hAe with e1 e2 _
          subst e1 e2
          replace c0 := cell_ex he c0
          replace c1 := cell_ex he c1
          replace c2 := cell_ex he c2
          replace c3 := cell_ex he c3
          have y4 := (Ex.refl wr).alloc (.cells #[.int .i64 y.kd, .int .i64 y.vl, .slice P' y.ins.length pc', .slice Q' y.outs.length qc'] 69)
          have v4 := VB.new wr 69 #[.int .i64 y.kd, .int .i64 y.vl, .slice P' y.ins.length pc', .slice Q' y.outs.length qc']
          have Hf := Lib.hid (ndF_snoc es k m)
          have hyE := edAt_nat hy
          have Hlen := Lib.hid (show ((upL m).filter fun q => meetB (edAt es (k : Int)).ins (edAt es q).outs).length ≤ m by
            have := List.length_filter_le (fun q => meetB (edAt es (k : Int)).ins (edAt es q).outs) (upL m)
            rwa [upL_len] at this)
          rw [hyE, Hed.out] at Hf
          rw [Hed.out] at Hlen hal
          clear hy hyE
          generalize (upL m).filter (fun q => meetB x.ins (edAt es q).outs) = row at *
          have q2 := (hvb.ex y4).cell 2 (v := .slice P x.ins.length pc) rfl
          have hv4 := hv.ex y4
          have hal4 := hal.ex y4
          have hd4 := hd.ex y4
          have hvb4 := hvb.ex y4
          have he4 := he.trans y4
          have z4 := y4.size
          have hvl2 := hv.lt
          have hrows4 : ∀ (j : Nat) (v : Value) (r : List Int), us[j]? = some v → (ndR es)[j]? = some r → OI (wr.alloc (.cells #[.int .i64 y.kd, .int .i64 y.vl, .slice P' y.ins.length pc', .slice Q' y.outs.length qc'] 69)) (w.heap.size + 1 + 1) (b + 1) v r := fun j v r h1 h2 => (hrows j v r h1 h2).ex y4
          have hcf := fun W (hW : Ex (wr.alloc (.cells #[.int .i64 y.kd, .int .i64 y.vl, .slice P' y.ins.length pc', .slice Q' y.outs.length qc'] 69)) W) =>
            containsFunc_c 93 enters_needs1 #[.pointer (some ⟨wr.heap.size, 0, none⟩)] (fun u => decide (u ∈ y.outs)) P pc x.ins W (hP.ex (he4.trans hW)) (fun W' i u hW' hu => needs1_c u wr.heap.size _ _ _ Q' qc' y.outs W' ((v4.ex hW).ex hW') (hQ'.ex ((he4.trans hW).trans hW')))
          go_wp2_with fail
          clear hv hal hd hvb he hrows y4 c0 c1 c2 c3
          generalize wr.alloc (.cells #[.int .i64 y.kd, .int .i64 y.vl, .slice P' y.ins.length pc', .slice Q' y.outs.length qc'] 69) = W4 at *
          refine (hcf W4 (Ex.refl _)).mono ?_
          rintro e w5 ⟨rfl, x5⟩
          rw [show (x.ins.any fun u => decide (u ∈ y.outs)) = meetB x.ins y.outs from rfl]
          have hv5 := hv4.ex x5
          have hal5 := hal4.ex x5
          have hd5 := hd4.ex x5
          have hvb5 := hvb4.ex x5
          have he5 := he4.trans x5
          have z5 := x5.size
          have hrows5 : ∀ (j : Nat) (v : Value) (r : List Int), us[j]? = some v → (ndR es)[j]? = some r → OI w5 (w.heap.size + 1 + 1) (b + 1) v r := fun j v r h1 h2 => (hrows4 j v r h1 h2).ex x5
          clear hcf q2 hv4 hal4 hd4 hvb4 he4 hrows4 v4
          cases hmt : meetB x.ins y.outs with
          | false =>
            rw [hmt] at Hf
            have Hf' := Lib.hid (Hf.out.trans (by simp : row ++ (if false = true then [(m : Int)] else []) = row))
            clear hmt
            go_wp2_with fail
            go_roundw
            case rel => exact ⟨m + 1, v, by omega, by go_num, hv5, by rw [Hed.out, Hf'.out]; exact hal5, hrows5, hd5, hvb5, by omega, he5⟩
            case measure => simp [intOf]; omega
          | true =>
            rw [hmt] at Hf
            have Hf' := Lib.hid (Hf.out.trans (by simp : row ++ (if true = true then [(m : Int)] else []) = row ++ [(m : Int)]))
            clear hmt
            obtain ⟨V, vc, rfl, hfr⟩ := hal5.form (by have := Hlen.out; omega)
            clear hfr
            have hix : (us ++ Value.slice V row.length vc :: rest)[k]? = some (Value.slice V row.length vc) := by rw [List.getElem?_append_right (by omega), hus, Nat.sub_self]; rfl
            have t1 := hv5.cell k (v := .slice V row.length vc) (by rw [List.getElem?_toArray]; exact hix)
            have hA5 := (Ex.refl w5).alloc (.cells #[.int .i64 m] 3)
            have t2 := (hv5.ex hA5).cell k (v := .slice V row.length vc) (by rw [List.getElem?_toArray]; exact hix)
            obtain ⟨v9, w9, hrun9, hal9, hI9⟩ := al_push_i w5 (b + 1) _ row (m : Int) hal5 (by omega) (by have := Hlen.out; omega)
            obtain ⟨V9, vc9, rfl, _⟩ := hal9.form (by rw [List.length_append, List.length_singleton]; have := Hlen.out; omega)
            have hv9 := hv5.iv hI9 (by omega)
            have hd9 := hd5.iv hI9 (by omega)
            have hvb9 := hvb5.iv hI9 (by omega)
            have he9 := he5.iv hI9 (by omega)
            have z9 := hI9.size
            have hrows9 : ∀ (j : Nat) (v : Value) (r : List Int), us[j]? = some v → (ndR es)[j]? = some r → OI w9 (w.heap.size + 1 + 1) (b + 1) v r := fun j v r h1 h2 => (hrows5 j v r h1 h2).iv hI9 (.inl (Nat.le_refl _))
            have t3 := hv9.cell k (v := .slice V row.length vc) (by rw [List.getElem?_toArray]; exact hix)
            have f3 := hv9.frozen k
            have hvs := hv9.set_ k (.slice V9 (row ++ [(m : Int)]).length vc9)
            rw [List.setIfInBounds_toArray, List.set_append_right _ _ (by omega), hus, Nat.sub_self, List.set_cons_zero] at hvs
            have E1 : Ex1 (w.heap.size + 1) w9 (w9.setCell ⟨w.heap.size + 1, k, none⟩ (.slice V9 (row ++ [(m : Int)]).length vc9)) := (Ex1.refl _ _).setCell rfl _
            have hal10 := hal9.e1 E1 (by omega)
            have hd10 := hd9.ex1 E1 (by omega)
            have hvb10 := hvb9.ex1 E1 (by omega)
            have he10 := he9.ex1 E1 (by omega)
            have z10 := E1.size
            have hrows10 : ∀ (j : Nat) (v : Value) (r : List Int), us[j]? = some v → (ndR es)[j]? = some r → OI (w9.setCell ⟨w.heap.size + 1, k, none⟩ (.slice V9 (row ++ [(m : Int)]).length vc9)) (w.heap.size + 1 + 1) (b + 1) v r := fun j v r h1 h2 => (hrows9 j v r h1 h2).e1 E1 (by omega)
            clear hal5 hix hv5 hv9 hal9 hd9 hvb9 he9 hrows9 hrows5 hd5 hvb5 he5 hI9 E1
            generalize (row ++ [(m : Int)]).length = rl at *
            go_wp2_with (at_builtin; refine wpList_append_run rfl _ _ _ rfl rfl rfl hrun9 ?_)
            go_roundw
            case rel => exact ⟨m + 1, _, by omega, by go_num, hvs, by rw [Hed.out, Hf'.out]; exact hal10, hrows10, hd10, hvb10, by omega, he10⟩
            case measure => simp [intOf]; omega
        · obtain rfl : m = es.length := by omega
          have hnd : (ndR es)[k]? = some ((upL es.length).filter fun q => meetB (edAt es (k : Int)).ins (edAt es q).outs) := ndR_at hlt
          have Hnd := Lib.hid hnd
          have Hl := Lib.hid (ndF_len es k)
          clear hnd
          go_wp2_with fail
          go_roundw
          case rel =>
            obtain ⟨V, vc, hV, hfr⟩ := hal.form (by have := Hl.out; unfold ndF at this; omega)
            refine ⟨k + 1, us ++ [v], by omega, by go_num, by simp [hus], ?_, fun j u r h1 h2 => ?_, hd, he⟩
            · rw [HRest.out, List.append_assoc]; exact hv
            · by_cases hjk : j < k
              · rw [List.getElem?_append_left (by omega)] at h1
                exact (hrows j u r h1 h2).more (Nat.le_refl _) hbz
              · have hjk' : j = k := by
                  have := (List.getElem?_eq_some_iff.1 h1).1
                  rw [List.length_append, List.length_singleton] at this
                  omega
                subst hjk'
                rw [List.getElem?_append_right (by omega), hus, Nat.sub_self] at h1
                simp at h1
                subst h1
                rw [Hnd.out] at h2
                injection h2 with h2
                subst h2
                exact ⟨V, vc, hV, (hfr.more (by omega)).fi⟩
          case measure => simp [intOf]; omega
    · obtain rfl : k = es.length := by omega
      go_wp2
      go_ret
      rw [Nat.sub_self, List.replicate_zero, List.append_nil] at hv
      exact ⟨_, us, rfl, ⟨hv, by rw [ndR_len]; exact hus, fun j v r h1 h2 => (hrows j v r h1 h2).more (Nat.zero_le _) (Nat.le_refl _), hv.lt⟩, he⟩
end Go.Proofs.YtphdcgimibnajaaGreat
namespace Go.Proofs.YtphdcgimibnajaaGreat
set_option maxRecDepth 100000
open Go Go.RowKit
/-- Flags: what is listed. -/
def Lst (w : World) (bl sb n : Nat) (op : List Bool) : Prop := VB w bl 76 #[.slice (some ⟨sb, 0, none⟩) n n] ∧ VB w sb 4 (bObj (op.map fun b => !b)) ∧ op.length = n
theorem Lst.ex {w w' : World} {bl sb n : Nat} {op : List Bool} (h : Lst w bl sb n op) (he : Ex w w') : Lst w' bl sb n op := ⟨h.1.ex he, h.2.1.ex he, h.2.2⟩
theorem eo11_c (k : Nat) (bl sb n : Nat) (op : List Bool) (w : World) (h : Lst w bl sb n op) (hk : k < n) (hn : n ≤ 1099511627776) :
    Calls Tryz.prog 67 #[.int .i64 k, .pointer (some ⟨bl, 0, none⟩)] w fun e w' => e = .returned (.bool (SL op k)) ∧ Ex w w' := by
  obtain ⟨h1, h2, h3⟩ := h
  obtain ⟨b, hb⟩ : ∃ b, op[k]? = some b := ⟨_, List.getElem?_eq_getElem (by omega)⟩
  have c0 := h1.cell 0 (v := .slice (some ⟨sb, 0, none⟩) n n) rfl
  have c1 := h2.bcell (i := k) (b := !b) (by rw [List.getElem?_map, hb]; rfl)
  have H := Lib.hid (show SL op (k : Int) = b by rw [SL_nat, List.getD_eq_getElem?_getD, hb]; rfl)
  clear hb
  go_enter Tryz.func67, Tryz.ntmps67
  go_wp2_with fail
  go_ret
  exact ⟨ret_bool (by first | (rw [H.out]; done) | (rw [H.out]; simp)), Ex.refl _⟩
theorem enters_eo11 : ∀ args w, (callFunc 67 args).run Tryz.prog w = .ok (.enter 67 args) w := enters_of Tryz.func67 (by kernel_rfl) rfl
set_option maxHeartbeats 1000000 in
theorem eo1_c (i : Nat) (es : List Ed) (bl sb bn gn hi' : Nat) (vs : List Value) (op : List Bool) (w : World) (h : Lst w bl sb es.length op) (hb : VB w bn 88 #[.slice (some ⟨gn, 0, none⟩) es.length es.length]) (hr : Rows2 w gn hi' vs (ndR es)) (hi : i < es.length) (hn : es.length ≤ 60) :
    Calls Tryz.prog 65 #[.int .i64 i, .pointer (some ⟨bl, 0, none⟩), .pointer (some ⟨bn, 0, none⟩)] w fun e w' => e = .returned (.bool (isM (ndF es) (SL op) i)) ∧ Ex w w' := by
  obtain ⟨P, pc, cP, hP⟩ := hr.row (ndR_at hi)
  have h' := h
  obtain ⟨h1, h2, h3⟩ := h
  obtain ⟨b, hbb⟩ : ∃ b, op[i]? = some b := ⟨_, List.getElem?_eq_getElem (by omega)⟩
  have c0 := h1.cell 0 (v := .slice (some ⟨sb, 0, none⟩) es.length es.length) rfl
  have c1 := h2.bcell (i := i) (b := !b) (by rw [List.getElem?_map, hbb]; rfl)
  have c2 := hb.cell 0 (v := .slice (some ⟨gn, 0, none⟩) es.length es.length) rfl
  have HS := Lib.hid (show SL op (i : Int) = b by rw [SL_nat, List.getD_eq_getElem?_getD, hbb]; rfl)
  have hcf := fun W (hW : Ex w W) => containsFunc_c 67 enters_eo11 #[.pointer (some ⟨bl, 0, none⟩)] (SL op) P pc (ndF es i) W (hP.ex hW) (fun W' q u hW' hu => by
    obtain ⟨h0, h1⟩ := ndF_mem (List.mem_of_getElem? hu)
    obtain ⟨k, rfl⟩ := Int.eq_ofNat_of_zero_le h0
    exact eo11_c k bl sb es.length op W' ((h'.ex hW).ex hW') (by omega) (by omega))
  clear hbb
  cases b with
  | false =>
    go_enter Tryz.func65, Tryz.ntmps65
    go_wp2
    go_ret
    exact ⟨ret_bool (by rw [isM, HS.out]; rfl), Ex.refl _⟩
  | true =>
    have hcf := hcf w (Ex.refl w)
    obtain ⟨r, hr'⟩ : ∃ r, (ndF es i).any (SL op) = r := ⟨_, rfl⟩
    rw [hr'] at hcf
    have Hr := Lib.hid hr'
    clear hr'
    go_enter Tryz.func65, Tryz.ntmps65
    go_wp2_with fail
    refine hcf.mono ?_
    rintro e w1 ⟨rfl, x1⟩
    go_wp2
    go_ret
    exact ⟨ret_bool (by rw [isM, HS.out, Hr.out]; rfl), x1⟩
theorem enters_eo1 : ∀ args w, (callFunc 65 args).run Tryz.prog w = .ok (.enter 65 args) w := enters_of Tryz.func65 (by kernel_rfl) rfl
set_option maxHeartbeats 4000000 in
theorem edgeOrder_c (N : Int) (E : Option Addr) (ec : Nat) (es : List Ed) (I O : Value) (w : World) (hE : RdS EE w E es) (hn : es.length ≤ 60) (hI : ∃ A n c, I = .slice A n c) (hO : ∃ A n c, O = .slice A n c) :
    Calls Tryz.prog 28 #[.agg #[.int .i64 N, .slice E es.length ec, I, O]] w fun e w' => LIo w (orderL es) e w' := by
  obtain ⟨I, il, ic, rfl⟩ := hI
  obtain ⟨O, ol, oc, rfl⟩ := hO
  have hmk := fun W => run_make_bools es.length (by omega) W
  have y0 := (Ex.refl w).alloc (.cells #[.int .i64 N, .slice E es.length ec, .slice I il ic, .slice O ol oc] 34)
  go_enter Tryz.func28, Tryz.ntmps28
  go_wp2_with fail
  generalize w.alloc (.cells #[.int .i64 N, .slice E es.length ec, .slice I il ic, .slice O ol oc] 34) = W0 at *
  refine (gneeds_c N E ec es (.slice I il ic) (.slice O ol oc) W0 (hE.ex y0) hn ⟨_, _, _, rfl⟩ ⟨_, _, _, rfl⟩).mono ?_
  rintro e w1 ⟨gn, vs, rfl, hr, x1⟩
  have y1 := y0.trans x1
  clear y0 x1
  have a1 := (Ex.refl w1).alloc (.cells #[.slice (some ⟨gn, 0, none⟩) es.length es.length] 88)
  have v1 := VB.new w1 88 #[.slice (some ⟨gn, 0, none⟩) es.length es.length]
  have S1 := Lib.hid (show (w1.alloc (.cells #[.slice (some ⟨gn, 0, none⟩) es.length es.length] 88)).heap.size = w1.heap.size + 1 by simp)
  go_wp2_with fail
  obtain ⟨b, hb⟩ : ∃ b, w1.heap.size = b := ⟨_, rfl⟩
  rw [hb] at v1 S1 ⊢
  have Hb := Lib.hid hb
  clear hb
  generalize w1.alloc (.cells #[.slice (some ⟨gn, 0, none⟩) es.length es.length] 88) = W1 at *
  have a2 := (Ex.refl W1).alloc (.cells (bObj (List.replicate es.length false)) 4)
  have v2 := VB.new W1 4 (bObj (List.replicate es.length false))
  rw [S1.out] at v2
  have S2 := Lib.hid (show (W1.alloc (.cells (bObj (List.replicate es.length false)) 4)).heap.size = b + 1 + 1 by simp; exact S1.out)
  generalize W1.alloc (.cells (bObj (List.replicate es.length false)) 4) = W2 at *
  have a3 := (Ex.refl W2).alloc (.cells #[.slice (some ⟨b + 1, 0, none⟩) es.length es.length] 76)
  have v3 := VB.new W2 76 #[.slice (some ⟨b + 1, 0, none⟩) es.length es.length]
  rw [S2.out] at v3
  have S3 := Lib.hid (show (W2.alloc (.cells #[.slice (some ⟨b + 1, 0, none⟩) es.length es.length] 76)).heap.size = b + 1 + 1 + 1 by simp; exact S2.out)
  generalize W2.alloc (.cells #[.slice (some ⟨b + 1, 0, none⟩) es.length es.length] 76) = W3 at *
  have a4 := (Ex.refl W3).alloc (.cells #[] 3)
  have hal : AL (W3.alloc (.cells #[] 3)) (b + 1 + 1 + 1) (.slice (some ⟨W3.heap.size, 0, none⟩) 0 0) [] := AL.empty W3 (by have := S3.out; omega)
  rw [S3.out] at hal
  have z4 := a4.size
  have z3 := Lib.hid S3.out
  generalize W3.alloc (.cells #[] 3) = W4 at *
  have hv1 := ((v1.ex a2).ex a3).ex a4
  have hL : Lst W4 (b + 1 + 1) (b + 1) es.length (List.replicate es.length true) := ⟨v3.ex a4, by
    have e : (List.replicate es.length true).map (fun b => !b) = List.replicate es.length false := by simp
    rw [e]
    exact (v2.ex a3).ex a4, by simp⟩
  have hx := (((y1.trans a1).trans a2).trans a3).trans a4
  have hr4 := (((hr.ex a1).ex a2).ex a3).ex a4
  rw [Hb.out] at hr4
  have hwb : w.heap.size ≤ b := by have := Hb.out; have := y1.size; omega
  have hgb : gn < b := by have := Hb.out; have := hr.1.lt; omega
  clear a1 a2 a3 a4 v1 v2 v3 S1 S2 S3 z3 z4 y1 hr
  have H0 := Lib.hid (show ([] : List Int) ++ schM (ndF es) es.length es.length (List.replicate es.length true) = orderL es from rfl)
  go_loopg [5] es.length (fun f o wi => ∃ (op : List Bool) (out : List Int), f ≤ es.length ∧ out.length + f = es.length ∧ AL wi (b + 1 + 1 + 1) o out ∧ Hid (out ++ schM (ndF es) es.length f op = orderL es) ∧ Lst wi (b + 1 + 1) (b + 1) es.length op ∧ VB wi b 88 #[.slice (some ⟨gn, 0, none⟩) es.length es.length] ∧ Rows2 wi gn b vs (ndR es) ∧ Ex w wi)
  case atStart => exact ⟨_, [], Nat.le_refl _, by simp, hal, H0, hL, hv1, hr4, hx⟩
  case round =>
    obtain ⟨op, out, hf, hof, hal, Htot, hL, hv, hr, he⟩ := hrel
    by_cases hz : gk = 0
    · subst hz
      have HR := Lib.hid (show orderL es = out by rw [← Htot.out]; simp [schM])
      obtain ⟨O', oc', rfl, fo⟩ := hal.form (by omega)
      have q0 := hv.cell 0 (v := .slice (some ⟨gn, 0, none⟩) es.length es.length) rfl
      go_wp2_with fail
      go_ret
      rw [HR.out]
      exact ⟨_, rfl, ⟨O', oc', rfl, (fo.more (by omega)).fi⟩, he⟩
    · obtain ⟨f, rfl⟩ : ∃ f, gk = f + 1 := ⟨gk - 1, by omega⟩
      have q0 := hv.cell 0 (v := .slice (some ⟨gn, 0, none⟩) es.length es.length) rfl
      have Hof := Lib.hid hof
      obtain ⟨O', oc', rfl, fo⟩ := hal.form (by omega)
      have hlt : (out.length : Int) < es.length := by omega
      clear fo hz hof
      go_wp2_with fail
      refine (upTo_c es.length (by omega) wr).mono ?_
      rintro e w1 ⟨gu, rfl, hgu, hou, x1⟩
      have hru := hou.rd (by rw [upL_len]; omega)
      have hL1 := hL.ex x1
      have hv1 := hv.ex x1
      have hr1 := hr.ex x1
      have hal1 := hal.ex x1
      have he1 := he.trans x1
      have z1 := x1.size
      have hvl := hv.lt
      have hll := hL.1.lt
      have hIF := indexFunc_c 65 enters_eo1 #[.pointer (some ⟨b + 1 + 1, 0, none⟩), .pointer (some ⟨b, 0, none⟩)] (isM (ndF es) (SL op)) (some ⟨gu, 0, none⟩) es.length (upL es.length) w1 hru (fun W k y hW hy => by
        have hk : k < es.length := by have := (List.getElem?_eq_some_iff.1 hy).1; rwa [upL_len] at this
        rw [upL_at hk] at hy
        injection hy with hy
        subst hy
        exact eo1_c k es _ _ _ _ _ vs op W (hL1.ex hW) (hv1.ex hW) (hr1.ex hW) hk hn)
      rw [upL_len] at hIF
      clear hL hv hr hal he hru hou q0 x1
      go_wp2_with fail
      refine hIF.mono ?_
      rintro e w2 ⟨rfl, x2⟩
      clear hIF
      rw [show idxP (isM (ndF es) (SL op)) (upL es.length) = nxM (ndF es) es.length op from rfl]
      have hL2 := hL1.ex x2
      have hv2 := hv1.ex x2
      have hr2 := hr1.ex x2
      have hal2 := hal1.ex x2
      have he2 := he1.trans x2
      have z2 := x2.size
      clear hL1 hv1 hr1 hal1 he1 x2
      rcases nxM_cases (ndF es) es.length op with hneg | ⟨i, hi, hni, _, hoi⟩
      · have HR := Lib.hid (show orderL es = out by rw [← Htot.out, schM_end _ _ _ hneg, List.append_nil])
        obtain ⟨O2, oc2, hO2, fo⟩ := hal2.form (by omega)
        injection hO2 with e1 e2 e3
        subst e1 e3
        generalize nxM (ndF es) es.length op = q at *
        go_wp2
        go_ret
        rw [HR.out]
        exact ⟨_, rfl, ⟨O', oc', rfl, (fo.more (by omega)).fi⟩, he2⟩
      · have Hst := Lib.hid (schM_next (ndF es) es.length f hni)
        rw [hni]
        have hop := hL2.2.2
        have q0 := hL2.1.cell 0 (v := .slice (some ⟨b + 1, 0, none⟩) es.length es.length) rfl
        have q2 := hL2.2.1.bcell (i := i) (b := false) (by rw [List.getElem?_map, hoi]; rfl)
        have qf := hL2.2.1.frozen i
        have hs := hL2.2.1.bset i true
        have em : (op.map (fun b => !b)).set i true = (op.set i false).map (fun b => !b) := by rw [List.map_set]; rfl
        rw [em] at hs
        have hE1 : Ex1 (b + 1) w2 (w2.setCell ⟨b + 1, i, none⟩ (.bool true)) := (Ex1.refl _ _).setCell rfl _
        have hl3 := hL2.1.ex1 hE1 (by omega)
        have hv3 := hv2.ex1 hE1 (by omega)
        have hr3 := hr2.e1 hE1 (by omega)
        have hal3 := hal2.e1 hE1 (by omega)
        have he3 := he2.ex1 hE1 (by omega)
        have z3 := hE1.size
        obtain ⟨v', w4, hrun2, hal4, hI⟩ := al_push_i _ (b + 1 + 1 + 1) _ out (i : Int) hal3 (by omega) (by omega)
        rw [show (w2.setCell ⟨b + 1, i, none⟩ (.bool true)).heap.size = w2.heap.size by simp [World.setCell]] at hrun2
        have z4 := hI.size
        have hz2 : (w2.setCell ⟨b + 1, i, none⟩ (.bool true)).heap.size = w2.heap.size := by simp [World.setCell]
        have hL4 : Lst w4 (b + 1 + 1) (b + 1) es.length (op.set i false) := ⟨hl3.iv hI (by omega), hs.iv hI (by omega), by rw [List.length_set]; exact hop⟩
        have hv4 := hv3.iv hI (by omega)
        have hr4 := hr3.iv hI (by omega)
        have he4 := he3.iv hI (by omega)
        have HT := Lib.hid (show (out ++ [(i : Int)]) ++ schM (ndF es) es.length f (op.set i false) = orderL es by
          have e := Htot.out
          rw [Hst.out] at e
          rw [← e, List.append_assoc]; rfl)
        clear hni em hL2 hv2 hr2 hal2 he2 hl3 hv3 hr3 hal3 he3 hs hE1 hI
        go_wp2_with (at_builtin; refine wpList_append_run rfl _ _ _ rfl rfl rfl hrun2 ?_)
        go_roundg f
        case measure => omega
        case rel => exact ⟨op.set i false, out ++ [(i : Int)], by omega, by rw [List.length_append, List.length_singleton]; have := Hof.out; omega, hal4, HT, hL4, hv4, hr4, he4⟩
end Go.Proofs.YtphdcgimibnajaaGreat
