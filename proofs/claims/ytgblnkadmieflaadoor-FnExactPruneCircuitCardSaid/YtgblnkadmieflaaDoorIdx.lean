/- The first index of which a predicate holds; lists of flags; the numbers up to n. -/
import Derived.Test.YtgblnkadmieflaaDoorField
import Derived.Test.YtgblnkadmieflaaDoorUS
namespace Go.Proofs.YtgblnkadmieflaaDoor
set_option maxRecDepth 100000
open Go Go.RowKit
theorem take_step0 (f : List Int) (n k : Nat) (hk : k < f.length) (hn : f.length ≤ n) {x : Int} (hx : f[k]? = some x) :
    (f.take k ++ (List.replicate n (0 : Int)).drop k).set k x = f.take (k + 1) ++ (List.replicate n (0 : Int)).drop (k + 1) := by
  apply List.ext_getElem?
  intro j
  obtain ⟨_, rfl⟩ := List.getElem?_eq_some_iff.1 hx
  simp only [List.getElem?_set, List.getElem?_append, List.getElem?_take, List.length_take, List.drop_replicate, List.getElem?_replicate, List.length_append, List.length_replicate]
  grind
/-- The ending of a call that returns a list of ints of its own. -/
def LIo (w : World) (xs : List Int) (e : Ending) (w' : World) : Prop := ∃ v, e = .returned v ∧ OI w' w.heap.size w'.heap.size v xs ∧ Ex w w'
theorem OI.nil (w : World) (a b : Nat) : OI w a b (.slice none 0 0) [] := ⟨none, 0, rfl, ⟨Fr.nil _ _ _, fun a e => by cases e⟩⟩
theorem LIo.nil (w w' : World) (h : Ex w w') : LIo w [] (.returned (.slice none 0 0)) w' := ⟨_, rfl, OI.nil _ _ _, h⟩
/-- The first index of which p holds; -1. -/
def idxP (p : Int → Bool) (xs : List Int) : Int := match xs.findIdx? p with | some i => (i : Int) | none => -1
theorem idxP_none {p : Int → Bool} {xs : List Int} (h : xs.all (fun x => !p x) = true) : idxP p xs = -1 := by
  have : xs.findIdx? p = none := by
    rw [List.findIdx?_eq_none_iff]
    intro x hx
    simpa using List.all_eq_true.1 h x hx
  rw [idxP, this]
theorem idxP_some {p : Int → Bool} {xs : List Int} {k : Nat} {x : Int} (hx : xs[k]? = some x) (h : (xs.take k).all (fun x => !p x) = true) (hp : p x = true) : idxP p xs = k := by
  have hl := (List.getElem?_eq_some_iff.1 hx).1
  have : xs.findIdx? p = some k := by
    rw [List.findIdx?_eq_some_iff_getElem]
    refine ⟨hl, by rw [(List.getElem?_eq_some_iff.1 hx).2]; exact hp, fun j hj => ?_⟩
    have := List.all_eq_true.1 h xs[j] (List.mem_take_iff_getElem.2 ⟨j, by omega, rfl⟩)
    simpa using this
  rw [idxP, this]
theorem idxP_any (p : Int → Bool) (xs : List Int) : decide (0 ≤ idxP p xs) = xs.any p := by
  unfold idxP
  cases h : xs.findIdx? p with
  | none =>
    rw [List.findIdx?_eq_none_iff] at h
    rw [List.any_eq_false.2 (fun x hx => by simp [h x hx])]
    try rfl
  | some i =>
    obtain ⟨hl, hp, _⟩ := List.findIdx?_eq_some_iff_getElem.1 h
    rw [List.any_eq_true.2 ⟨_, List.getElem_mem hl, hp⟩]; exact decide_eq_true (Int.natCast_nonneg i)
def upL (n : Nat) : List Int := (List.range n).map Int.ofNat
theorem upL_len (n : Nat) : (upL n).length = n := by simp [upL]
theorem upL_at {n i : Nat} (h : i < n) : (upL n)[i]? = some (i : Int) := by simp [upL, h]
/-- The flags as a set. -/
def SL (op : List Bool) (x : Int) : Bool := decide (0 ≤ x) && op.getD x.toNat false
theorem SL_nat (op : List Bool) (k : Nat) : SL op (k : Int) = op.getD k false := by simp [SL]
theorem SL_set (op : List Bool) (i : Nat) : (fun x => if x = (i : Int) then false else SL op x) = SL (op.set i false) := by
  funext x
  by_cases h0 : 0 ≤ x
  · obtain ⟨k, rfl⟩ := Int.eq_ofNat_of_zero_le h0
    rw [SL_nat, SL_nat, List.getD_eq_getElem?_getD, List.getD_eq_getElem?_getD, List.getElem?_set]
    by_cases e : i = k
    · subst e; simp
      split <;> rfl
    · have : ¬ ((k : Int) = i) := by omega
      simp [e, this]
  · have : ¬ (x = (i : Int)) := by omega
    simp [SL, h0, this]
theorem SL_push (op : List Bool) : (fun x => if x = (op.length : Int) then true else SL op x) = SL (op ++ [true]) := by
  funext x
  by_cases h0 : 0 ≤ x
  · obtain ⟨k, rfl⟩ := Int.eq_ofNat_of_zero_le h0
    rw [SL_nat, SL_nat, List.getD_eq_getElem?_getD, List.getD_eq_getElem?_getD]
    by_cases e : k = op.length
    · subst e; simp
    · have : ¬ ((k : Int) = op.length) := by omega
      simp only [this, if_false]
      rcases Nat.lt_or_gt_of_ne e with h | h
      · rw [List.getElem?_append_left h]
      · rw [List.getElem?_eq_none (by omega), List.getElem?_eq_none (by simp; omega)]
  · have : ¬ (x = (op.length : Int)) := by omega
    simp [SL, h0, this]
theorem SL_pad (op : List Bool) : SL (op ++ [false]) = SL op := by
  funext x
  unfold SL
  congr 1
  rw [List.getD_eq_getElem?_getD, List.getD_eq_getElem?_getD]
  rcases Nat.lt_trichotomy x.toNat op.length with h | h | h
  · rw [List.getElem?_append_left h]
  · rw [h]; simp
  · have h2 : (op ++ [false]).length ≤ x.toNat := by rw [List.length_append, List.length_singleton]; omega
    rw [List.getElem?_eq_none h2, List.getElem?_eq_none (show op.length ≤ x.toNat by omega)]
theorem count_set {op : List Bool} {i : Nat} (h : op[i]? = some true) : (op.set i false).count true + 1 = op.count true := by
  have hl := (List.getElem?_eq_some_iff.1 h).1
  have e := List.count_set (a := false) (b := true) (l := op) (i := i) hl
  have e2 : op[i] = true := (List.getElem?_eq_some_iff.1 h).2
  have hp : 0 < op.count true := List.count_pos_iff.2 (List.mem_of_getElem? h)
  simp [e2] at e
  omega
theorem idxP_cases (p : Int → Bool) (n : Nat) : (idxP p (upL n) = -1 ∧ ∀ i : Nat, i < n → p i = false) ∨ ∃ i : Nat, i < n ∧ idxP p (upL n) = i ∧ p i = true := by
  unfold idxP
  cases h : (upL n).findIdx? p with
  | none =>
    left
    rw [List.findIdx?_eq_none_iff] at h
    exact ⟨rfl, fun i hi => h _ (List.mem_of_getElem? (upL_at hi))⟩
  | some i =>
    right
    obtain ⟨hl, hp, _⟩ := List.findIdx?_eq_some_iff_getElem.1 h
    have hi : i < n := by rw [upL_len] at hl; exact hl
    have e := upL_at hi
    rw [List.getElem?_eq_getElem hl] at e
    injection e with e
    rw [e] at hp
    exact ⟨i, hi, rfl, hp⟩
theorem upL_succ (k : Nat) : upL (k + 1) = upL k ++ [(k : Int)] := by simp [upL, List.range_succ]
theorem idxP_snoc (p : Int → Bool) (k : Nat) : idxP p (upL (k + 1)) = if 0 ≤ idxP p (upL k) then idxP p (upL k) else if p k then (k : Int) else -1 := by
  unfold idxP
  rw [upL_succ, List.findIdx?_append]
  cases h : (upL k).findIdx? p with
  | some i => simp
  | none =>
    cases hp : p (k : Int) <;> simp [hp, upL_len]
set_option maxHeartbeats 400000 in
theorem indexFunc_c (g : FuncId) (eg : ∀ args w, (callFunc g args).run Tryd.prog w = .ok (.enter g args) w) (lb : Array Value) (p : Int → Bool) (A : Option Addr) (c : Nat) (xs : List Int) (w : World) (h : Rd w A xs)
    (hf : ∀ (W : World) (i : Nat) (x : Int), Ex w W → xs[i]? = some x → Calls Tryd.prog g (#[.int .i64 x] ++ lb) W fun e W' => e = .returned (.bool (p x)) ∧ Ex W W') :
    Calls Tryd.prog 127 #[.slice A xs.length c, .func (.func g) #[] lb] w fun e w' => e = .returned (.int .i64 (idxP p xs)) ∧ Ex w w' := by
  have hl := h.len
  go_enter Tryd.func127, Tryd.ntmps127
  go_wp2
  go_loopw [8] (fun i wr => ∃ k : Nat, k ≤ xs.length ∧ Hid ((xs.take k).all (fun x => !p x) = true) ∧ i = .int .i64 k ∧ Ex w wr) (fun i _ => xs.length - (intOf i).toNat)
  case atStart => exact ⟨0, Nat.zero_le _, Lib.hid rfl, rfl, Ex.refl w⟩
  case round =>
    obtain ⟨k, hk, Hall, rfl, he⟩ := hrel
    by_cases hlt : k < xs.length
    · obtain ⟨g', off, x, rfl, hx, hg, hc⟩ := (h.ex he).at_ hlt
      have hcall := hf wr k x he hx
      have Hx := Lib.hid hx
      clear hx hf
      cases hp : p x with
      | true =>
        rw [hp] at hcall
        have H := Lib.hid (idxP_some Hx.out Hall.out hp)
        clear hp
        go_wp2_with fail
        refine hcall.mono ?_
        rintro e w' ⟨rfl, hb'⟩
        go_wp2
        go_ret
        exact ⟨by rw [H.out]; rfl, he.trans hb'⟩
      | false =>
        rw [hp] at hcall
        have H := Lib.hid (all_take_succ (p := fun x => !p x) Hx.out Hall.out (by simp [hp]))
        clear hp
        go_wp2_with fail
        refine hcall.mono ?_
        rintro e w' ⟨rfl, hb'⟩
        go_wp2_with fail
        go_roundw
        case rel => exact ⟨k + 1, by omega, H, by go_num, he.trans hb'⟩
        case measure => simp [intOf]; omega
    · obtain rfl : k = xs.length := by omega
      have H := Lib.hid (idxP_none (p := p) (xs := xs) (by have := Hall.out; rwa [List.take_length] at this))
      clear hf
      go_wp2
      go_ret
      exact ⟨by rw [H.out]; rfl, he⟩
set_option maxHeartbeats 400000 in
theorem containsFunc_c (g : FuncId) (eg : ∀ args w, (callFunc g args).run Tryd.prog w = .ok (.enter g args) w) (lb : Array Value) (p : Int → Bool) (A : Option Addr) (c : Nat) (xs : List Int) (w : World) (h : Rd w A xs)
    (hf : ∀ (W : World) (i : Nat) (x : Int), Ex w W → xs[i]? = some x → Calls Tryd.prog g (#[.int .i64 x] ++ lb) W fun e W' => e = .returned (.bool (p x)) ∧ Ex W W') :
    Calls Tryd.prog 130 #[.slice A xs.length c, .func (.func g) #[] lb] w fun e w' => e = .returned (.bool (xs.any p)) ∧ Ex w w' := by
  have hc := indexFunc_c g eg lb p A c xs w h hf
  have H := Lib.hid (idxP_any p xs)
  clear hf
  go_enter Tryd.func130, Tryd.ntmps130
  go_wp2_with (go_at_call 127; refine hc.mono ?_; rintro e w1 ⟨rfl, x1⟩)
  go_ret
  exact ⟨ret_bool (by rw [← H.out]), x1⟩
set_option maxHeartbeats 400000 in
theorem upTo_c (n : Nat) (hn : n ≤ 1099511627776) (w : World) : Calls Tryd.prog 128 #[.int .i64 n] w fun e w' => ∃ g, e = .returned (.slice (some ⟨g, 0, none⟩) n n) ∧ w.heap.size ≤ g ∧ Own w' g (upL n) ∧ Ex w w' := by
  go_enter Tryd.func128, Tryd.ntmps128
  go_wp2_with fail
  refine (zeros_c n hn w).mono ?_
  rintro e w1 ⟨g, rfl, hg, hb, x1⟩
  have hl0 : (upL n).length = n := upL_len n
  have ho : Own w1 g ((upL n).take 0 ++ (List.replicate n (0 : Int)).drop 0) := by simpa using hb.own
  clear hb
  go_wp2_with fail
  go_loopw [9] (fun i wr => ∃ k : Nat, k ≤ n ∧ i = .int .i64 k ∧ Own wr g ((upL n).take k ++ (List.replicate n (0 : Int)).drop k) ∧ Ex w wr) (fun i _ => n - (intOf i).toNat)
  case atStart => exact ⟨0, Nat.zero_le _, rfl, ho, x1⟩
  case round =>
    obtain ⟨k, hk, rfl, hok, he⟩ := hrel
    by_cases hlt : k < n
    · have hz : ((upL n).take k ++ (List.replicate n (0 : Int)).drop k)[k]? = some 0 := by
        rw [List.getElem?_append_right (by rw [List.length_take]; omega), List.length_take, hl0, Nat.min_eq_left (by omega), Nat.sub_self, List.getElem?_drop, List.getElem?_replicate, if_pos (by omega)]
      have hc := hok.cell hz
      have hfz := hok.frozen k
      have HS := Lib.hid (take_step0 (upL n) n k (by omega) (by omega) (upL_at hlt))
      have hs := hok.set_ k (k : Int)
      rw [HS.out] at hs
      clear hz hl0
      go_wp2_with fail
      go_roundw
      case rel => exact ⟨k + 1, by omega, by go_num, hs, he.setCell hg _⟩
      case measure => simp [intOf]; omega
    · obtain rfl : k = n := by omega
      go_wp2
      go_ret
      refine ⟨g, rfl, hg, ?_, he⟩
      rw [List.take_of_length_le (by omega), List.drop_of_length_le (by simp), List.append_nil] at hok
      exact hok
theorem boolInfo : (Tryd.prog.info? 4).map (fun i => (i.zero, i.size, i.bytes)) = some (some (.bool false), 1, 1) := by kernel_rfl
def bObj (bs : List Bool) : Array Value := (bs.map Value.bool).toArray
theorem run_make_bools (n : Nat) (hn : n ≤ 1099511627776) (w : World) :
    (Instr.makeSlice 78 (.int .i64 (n : Int)) (.int .i64 (n : Int))).run Tryd.prog w = .ok (.slice (some ⟨w.heap.size, 0, none⟩) n n) (w.alloc (.cells (bObj (List.replicate n false)) 4)) := by
  obtain ⟨i, hi, hz, hs, hb⟩ := info_parts boolInfo
  have hr := run_make (P := Tryd.prog) w 78 4 i _ Tryd.underlying78 hi hz .i64 .i64 n n (by omega) (by omega) (by rw [hb]; omega) (by omega)
  simp only [Int.toNat_natCast, hs] at hr
  rw [hr]
  have e : madeCells (Value.bool false).cells (n * 1) = bObj (List.replicate n false) := by
    apply Array.toList_inj.1
    rw [Nat.mul_one]
    show (madeCells #[Value.bool false] n).toList = _
    rw [toList_madeCells_one]
    simp [bObj]
  rw [e]
theorem VB.bcell {w : World} {g : Nat} {bs : List Bool} (h : VB w g 4 (bObj bs)) {i : Nat} {b : Bool} (hi : bs[i]? = some b) : w.cell? ⟨g, i, none⟩ = some (.bool b) := h.cell i (by simp [bObj, hi])
theorem VB.bset {w : World} {g : Nat} {bs : List Bool} (h : VB w g 4 (bObj bs)) (i : Nat) (b : Bool) : VB (w.setCell ⟨g, i, none⟩ (.bool b)) g 4 (bObj (bs.set i b)) := by
  have := h.set_ i (.bool b)
  have e : (bObj bs).setIfInBounds i (.bool b) = bObj (bs.set i b) := by
    unfold bObj
    rw [List.setIfInBounds_toArray, List.map_set]
  rwa [e] at this
end Go.Proofs.YtgblnkadmieflaaDoor
