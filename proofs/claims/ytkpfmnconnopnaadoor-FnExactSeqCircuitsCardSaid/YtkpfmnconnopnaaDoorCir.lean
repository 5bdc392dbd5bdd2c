/- Contracts: gates; operands; lists below a bound; the first index of which a predicate holds. -/
import Derived.Test.YtkpfmnconnopnaaDoorUC
import Derived.Test.YtkpfmnconnopnaaDoorPoly3
namespace Go.Proofs.YtkpfmnconnopnaaDoor
set_option maxRecDepth 100000
open Go Go.RowKit
def opnd (x : Gt) : List Int := if x.kd = 3 then [x.a, x.b] else if x.kd = 4 ∨ x.kd = 5 then [x.a] else []
def need (x : Gt) : List Int := if x.kd = 3 then [x.a, x.b] else if x.kd = 4 then [x.a] else []
def combB (x : Gt) : Bool := decide (x.kd = 3) || decide (x.kd = 4)
def gtV (x : Gt) : Value := .agg #[.int .i64 x.kd, .int .i64 x.a, .int .i64 x.b, .int .i64 x.vl]
/-- The ending of a call that returns a list of ints of its own. -/
def LIo (w : World) (xs : List Int) (e : Ending) (w' : World) : Prop := ∃ v, e = .returned v ∧ OI w' w.heap.size w'.heap.size v xs ∧ Ex w w'
theorem OI.nil (w : World) (a b : Nat) : OI w a b (.slice none 0 0) [] := ⟨none, 0, rfl, ⟨Fr.nil _ _ _, fun a e => by cases e⟩⟩
theorem LIo.nil (w w' : World) (h : Ex w w') : LIo w [] (.returned (.slice none 0 0)) w' := ⟨_, rfl, OI.nil _ _ _, h⟩
set_option maxHeartbeats 400000 in
theorem areBelow_c (A : Option Addr) (c : Nat) (xs : List Int) (n : Int) (w : World) (h : Rd w A xs) (h0 : 0 ≤ n) (h1 : n ≤ 4611686018427387904) :
    Calls Tryd.prog 95 #[.slice A xs.length c, .int .i64 n] w fun e w' => e = .returned (.bool (xs.all (inB 0 (n - 1)))) ∧ w = w' := by
  have hl := h.len
  go_enter Tryd.func95, Tryd.ntmps95
  go_wp2
  go_loop [9] (fun i => ∃ k : Nat, k ≤ xs.length ∧ (xs.take k).all (inB 0 (n - 1)) = true ∧ i = .int .i64 k) (fun i => xs.length - (intOf i).toNat)
  case atStart => exact ⟨0, Nat.zero_le _, rfl, rfl⟩
  case round =>
    obtain ⟨k, hk, hall, rfl⟩ := hrel
    have Hall := Lib.hid hall
    clear hall
    by_cases hlt : k < xs.length
    · obtain ⟨g, off, x, rfl, hx, hg, hc⟩ := h.at_ hlt
      have Hx := Lib.hid hx
      clear hx
      cases hel : inB 0 (n - 1) x with
      | true =>
        have Hel := Lib.hid hel
        go_wp2_with (go_at_call 87; refine (within_c _ _ _ _).mono ?_; rintro e w' ⟨rfl, rfl⟩)
        go_round
        case rel => exact ⟨k + 1, by omega, all_take_succ Hx.out Hall.out Hel.out, by go_num⟩
        case measure => simp [intOf]; omega
      | false =>
        have Hel := Lib.hid hel
        go_wp2_with (go_at_call 87; refine (within_c _ _ _ _).mono ?_; rintro e w' ⟨rfl, rfl⟩)
        go_ret
        exact ⟨ret_bool (by rw [all_false_of Hx.out Hel.out]), rfl⟩
    · obtain rfl : k = xs.length := by omega
      go_wp2
      go_ret
      exact ⟨ret_bool (by have := Hall.out; rw [List.take_length] at this; rw [this]), rfl⟩
theorem own1 (w : World) (a : Int) : Own (w.alloc (.cells #[.int .i64 a] 3)) w.heap.size [a] := Own.new w [a]
theorem own2 (w : World) (a b : Int) : Own (w.alloc (.cells #[.int .i64 a, .int .i64 b] 3)) w.heap.size [a, b] := Own.new w [a, b]
theorem li1 {w u : World} (h : Ex w u) (a : Int) : LIo w [a] (.returned (.slice (some ⟨u.heap.size, 0, none⟩) 1 1)) (u.alloc (.cells #[.int .i64 a] 3)) :=
  ⟨_, rfl, ⟨_, _, rfl, ((own1 u a).fr (B := w.heap.size) (c := 1) (by simp) h.size (by simp)).fi⟩, h.alloc _⟩
theorem li2 {w u : World} (h : Ex w u) (a b : Int) : LIo w [a, b] (.returned (.slice (some ⟨u.heap.size, 0, none⟩) 2 2)) (u.alloc (.cells #[.int .i64 a, .int .i64 b] 3)) :=
  ⟨_, rfl, ⟨_, _, rfl, ((own2 u a b).fr (B := w.heap.size) (c := 2) (by simp) h.size (by simp)).fi⟩, h.alloc _⟩
theorem li1a (w : World) (o : Obj) (a : Int) : LIo w [a] (.returned (.slice (some ⟨w.heap.size + 1, 0, none⟩) 1 1)) ((w.alloc o).alloc (.cells #[.int .i64 a] 3)) := by
  have q := li1 ((Ex.refl w).alloc o) a
  rw [show (w.alloc o).heap.size = w.heap.size + 1 by simp] at q
  exact q
theorem li2a (w : World) (o : Obj) (a b : Int) : LIo w [a, b] (.returned (.slice (some ⟨w.heap.size + 1, 0, none⟩) 2 2)) ((w.alloc o).alloc (.cells #[.int .i64 a, .int .i64 b] 3)) := by
  have q := li2 ((Ex.refl w).alloc o) a b
  rw [show (w.alloc o).heap.size = w.heap.size + 1 by simp] at q
  exact q
set_option maxHeartbeats 400000 in
theorem operands_c (x : Gt) (w : World) : Calls Tryd.prog 114 #[gtV x] w fun e w' => LIo w (opnd x) e w' := by
  obtain ⟨kd, a, b, vl⟩ := x
  unfold gtV
  dsimp only
  by_cases h3 : kd = 3
  · subst h3
    go_enter Tryd.func114, Tryd.ntmps114
    go_wp2
    go_ret
    exact li2a w _ a b
  by_cases h4 : kd = 4
  · subst h4
    go_enter Tryd.func114, Tryd.ntmps114
    go_wp2
    go_ret
    exact li1a w _ a
  by_cases h5 : kd = 5
  · subst h5
    go_enter Tryd.func114, Tryd.ntmps114
    go_wp2
    go_ret
    exact li1a w _ a
  · have H := Lib.hid (show opnd ⟨kd, a, b, vl⟩ = [] by simp [opnd, h3, h4, h5])
    go_enter Tryd.func114, Tryd.ntmps114
    go_wp2
    go_ret
    rw [H.out]
    exact LIo.nil _ _ ((Ex.refl w).alloc _)
set_option maxHeartbeats 400000 in
theorem crOperands_c (x : Gt) (w : World) : Calls Tryd.prog 98 #[gtV x] w fun e w' => LIo w (opnd x) e w' := by
  obtain ⟨kd, a, b, vl⟩ := x
  unfold gtV
  dsimp only
  by_cases h3 : kd = 3
  · subst h3
    go_enter Tryd.func98, Tryd.ntmps98
    go_wp2
    go_ret
    exact li2a w _ a b
  by_cases h4 : kd = 4
  · subst h4
    go_enter Tryd.func98, Tryd.ntmps98
    go_wp2
    go_ret
    exact li1a w _ a
  by_cases h5 : kd = 5
  · subst h5
    go_enter Tryd.func98, Tryd.ntmps98
    go_wp2
    go_ret
    exact li1a w _ a
  · have H := Lib.hid (show opnd ⟨kd, a, b, vl⟩ = [] by simp [opnd, h3, h4, h5])
    go_enter Tryd.func98, Tryd.ntmps98
    go_wp2
    go_ret
    rw [H.out]
    exact LIo.nil _ _ ((Ex.refl w).alloc _)
set_option maxHeartbeats 400000 in
theorem crCombines_c (x : Gt) (w : World) : Calls Tryd.prog 93 #[gtV x] w fun e w' => e = .returned (.bool (combB x)) ∧ Ex w w' := by
  obtain ⟨kd, a, b, vl⟩ := x
  unfold gtV
  dsimp only
  have x0 : ∀ o, Ex w (w.alloc o) := fun o => (Ex.refl w).alloc o
  by_cases h3 : kd = 3
  · subst h3
    go_enter Tryd.func93, Tryd.ntmps93
    go_wp2
    go_ret
    exact ⟨rfl, x0 _⟩
  · have H := Lib.hid (show combB ⟨kd, a, b, vl⟩ = decide (kd = 4) by simp [combB, h3])
    go_enter Tryd.func93, Tryd.ntmps93
    go_wp2
    go_ret
    exact ⟨ret_bool (by rw [H.out]; by_cases h4 : kd = 4 <;> simp [h4, h3]), x0 _⟩
set_option maxHeartbeats 400000 in
theorem needs_c (x : Gt) (w : World) : Calls Tryd.prog 99 #[gtV x] w fun e w' => LIo w (need x) e w' := by
  have hop := fun W => operands_c x W
  obtain ⟨kd, a, b, vl⟩ := x
  unfold gtV at hop ⊢
  dsimp only at hop ⊢
  by_cases h3 : kd = 3
  · have H := Lib.hid (show need ⟨kd, a, b, vl⟩ = opnd ⟨kd, a, b, vl⟩ by simp [opnd, need, h3])
    subst h3
    go_enter Tryd.func99, Tryd.ntmps99
    go_wp2_with fail
    refine (hop _).mono ?_
    rintro e w1 ⟨v, rfl, f, x1⟩
    go_wp2
    go_ret
    rw [H.out]
    exact ⟨_, rfl, f.more (by simp) (Nat.le_refl _), ((Ex.refl w).alloc _).trans x1⟩
  by_cases h4 : kd = 4
  · have H := Lib.hid (show need ⟨kd, a, b, vl⟩ = opnd ⟨kd, a, b, vl⟩ by simp [opnd, need, h4])
    subst h4
    go_enter Tryd.func99, Tryd.ntmps99
    go_wp2_with fail
    refine (hop _).mono ?_
    rintro e w1 ⟨v, rfl, f, x1⟩
    go_wp2
    go_ret
    rw [H.out]
    exact ⟨_, rfl, f.more (by simp) (Nat.le_refl _), ((Ex.refl w).alloc _).trans x1⟩
  · have H := Lib.hid (show need ⟨kd, a, b, vl⟩ = [] by simp [need, h3, h4])
    have b3 : (kd == 3) = false := by simpa using h3
    have b4 : (kd == 4) = false := by simpa using h4
    clear hop h3 h4
    go_enter Tryd.func99, Tryd.ntmps99
    go_wp2
    go_ret
    rw [H.out]
    exact LIo.nil _ _ ((Ex.refl w).alloc _)
/-- The first index of which p holds; -1. -/
def idxP (p : Int → Bool) (xs : List Int) : Int := match xs.findIdx? p with | some i => (i : Int) | none => -1
theorem idxP_none {p : Int → Bool} {xs : List Int} (h : xs.all (fun x => !p x) = true) : idxP p xs = -1 := by
  have : xs.findIdx? p = none := by
    rw [List.findIdx?_eq_none_iff]
    intro x hx
    simpa using List.all_eq_true.1 h x hx
  rw [idxP, this]
theorem idxP_some {p : Int → Bool} {xs : List Int} {k : Nat} {x : Int} (hx : xs[k]? = some x) (h : (xs.take k).all (fun x => !p x) = true) (hp : p x = true) : idxP p xs = k := by
  have hl := (List.getElem?_eq_some_iff.1 hx).1
  have : xs.findIdx? p = some k := by
    rw [List.findIdx?_eq_some_iff_getElem]
    refine ⟨hl, by rw [(List.getElem?_eq_some_iff.1 hx).2]; exact hp, fun j hj => ?_⟩
    have := List.all_eq_true.1 h xs[j] (List.mem_take_iff_getElem.2 ⟨j, by omega, rfl⟩)
    simpa using this
  rw [idxP, this]
set_option maxHeartbeats 400000 in
theorem indexFunc_c (g : FuncId) (eg : ∀ args w, (callFunc g args).run Tryd.prog w = .ok (.enter g args) w) (lb : Array Value) (p : Int → Bool) (A : Option Addr) (c : Nat) (xs : List Int) (w : World) (h : Rd w A xs)
    (hf : ∀ (W : World) (i : Nat) (x : Int), Ex w W → xs[i]? = some x → Calls Tryd.prog g (#[.int .i64 x] ++ lb) W fun e W' => e = .returned (.bool (p x)) ∧ Ex W W') :
    Calls Tryd.prog 100 #[.slice A xs.length c, .func (.func g) #[] lb] w fun e w' => e = .returned (.int .i64 (idxP p xs)) ∧ Ex w w' := by
  have hl := h.len
  go_enter Tryd.func100, Tryd.ntmps100
  go_wp2
  go_loopw [8] (fun i wr => ∃ k : Nat, k ≤ xs.length ∧ Hid ((xs.take k).all (fun x => !p x) = true) ∧ i = .int .i64 k ∧ Ex w wr) (fun i _ => xs.length - (intOf i).toNat)
  case atStart => exact ⟨0, Nat.zero_le _, Lib.hid rfl, rfl, Ex.refl w⟩
  case round =>
    obtain ⟨k, hk, Hall, rfl, he⟩ := hrel
    by_cases hlt : k < xs.length
    · obtain ⟨g', off, x, rfl, hx, hg, hc⟩ := (h.ex he).at_ hlt
      have hcall := hf wr k x he hx
      have Hx := Lib.hid hx
      clear hx hf
      cases hp : p x with
      | true =>
        rw [hp] at hcall
        have H := Lib.hid (idxP_some Hx.out Hall.out hp)
        clear hp
        go_wp2_with fail
        refine hcall.mono ?_
        rintro e w' ⟨rfl, hb'⟩
        go_wp2
        go_ret
        exact ⟨by rw [H.out]; rfl, he.trans hb'⟩
      | false =>
        rw [hp] at hcall
        have H := Lib.hid (all_take_succ (p := fun x => !p x) Hx.out Hall.out (by simp [hp]))
        clear hp
        go_wp2_with fail
        refine hcall.mono ?_
        rintro e w' ⟨rfl, hb'⟩
        go_wp2_with fail
        go_roundw
        case rel => exact ⟨k + 1, by omega, H, by go_num, he.trans hb'⟩
        case measure => simp [intOf]; omega
    · obtain rfl : k = xs.length := by omega
      have H := Lib.hid (idxP_none (p := p) (xs := xs) (by have := Hall.out; rwa [List.take_length] at this))
      clear hf
      go_wp2
      go_ret
      exact ⟨by rw [H.out]; rfl, he⟩
theorem idxP_any (p : Int → Bool) (xs : List Int) : decide (0 ≤ idxP p xs) = xs.any p := by
  unfold idxP
  cases h : xs.findIdx? p with
  | none =>
    rw [List.findIdx?_eq_none_iff] at h
    rw [List.any_eq_false.2 (fun x hx => by simp [h x hx])]
    try rfl
  | some i =>
    obtain ⟨hl, hp, _⟩ := List.findIdx?_eq_some_iff_getElem.1 h
    rw [List.any_eq_true.2 ⟨_, List.getElem_mem hl, hp⟩]; exact decide_eq_true (Int.natCast_nonneg i)
set_option maxHeartbeats 400000 in
theorem containsFunc_c (g : FuncId) (eg : ∀ args w, (callFunc g args).run Tryd.prog w = .ok (.enter g args) w) (lb : Array Value) (p : Int → Bool) (A : Option Addr) (c : Nat) (xs : List Int) (w : World) (h : Rd w A xs)
    (hf : ∀ (W : World) (i : Nat) (x : Int), Ex w W → xs[i]? = some x → Calls Tryd.prog g (#[.int .i64 x] ++ lb) W fun e W' => e = .returned (.bool (p x)) ∧ Ex W W') :
    Calls Tryd.prog 103 #[.slice A xs.length c, .func (.func g) #[] lb] w fun e w' => e = .returned (.bool (xs.any p)) ∧ Ex w w' := by
  have hc := indexFunc_c g eg lb p A c xs w h hf
  have H := Lib.hid (idxP_any p xs)
  clear hf
  go_enter Tryd.func103, Tryd.ntmps103
  go_wp2_with (go_at_call 100; refine hc.mono ?_; rintro e w1 ⟨rfl, x1⟩)
  go_ret
  exact ⟨ret_bool (by rw [← H.out]), x1⟩
def upL (n : Nat) : List Int := (List.range n).map Int.ofNat
theorem upL_len (n : Nat) : (upL n).length = n := by simp [upL]
theorem upL_at {n i : Nat} (h : i < n) : (upL n)[i]? = some (i : Int) := by simp [upL, h]
set_option maxHeartbeats 400000 in
theorem upTo_c (n : Nat) (hn : n ≤ 1099511627776) (w : World) : Calls Tryd.prog 101 #[.int .i64 n] w fun e w' => ∃ g, e = .returned (.slice (some ⟨g, 0, none⟩) n n) ∧ w.heap.size ≤ g ∧ Own w' g (upL n) ∧ Ex w w' := by
  go_enter Tryd.func101, Tryd.ntmps101
  go_wp2_with fail
  refine (zeros_c n hn w).mono ?_
  rintro e w1 ⟨g, rfl, hg, hb, x1⟩
  have hl0 : (upL n).length = n := upL_len n
  have ho : Own w1 g ((upL n).take 0 ++ (List.replicate n (0 : Int)).drop 0) := by simpa using hb.own
  clear hb
  go_wp2_with fail
  go_loopw [9] (fun i wr => ∃ k : Nat, k ≤ n ∧ i = .int .i64 k ∧ Own wr g ((upL n).take k ++ (List.replicate n (0 : Int)).drop k) ∧ Ex w wr) (fun i _ => n - (intOf i).toNat)
  case atStart => exact ⟨0, Nat.zero_le _, rfl, ho, x1⟩
  case round =>
    obtain ⟨k, hk, rfl, hok, he⟩ := hrel
    by_cases hlt : k < n
    · have hz : ((upL n).take k ++ (List.replicate n (0 : Int)).drop k)[k]? = some 0 := by
        rw [List.getElem?_append_right (by rw [List.length_take]; omega), List.length_take, hl0, Nat.min_eq_left (by omega), Nat.sub_self, List.getElem?_drop, List.getElem?_replicate, if_pos (by omega)]
      have hc := hok.cell hz
      have hfz := hok.frozen k
      have HS := Lib.hid (take_step (upL n) n k (by omega) (by omega) (upL_at hlt))
      have hs := hok.set_ k (k : Int)
      rw [HS.out] at hs
      clear hz hl0
      go_wp2_with fail
      go_roundw
      case rel => exact ⟨k + 1, by omega, by go_num, hs, he.setCell hg _⟩
      case measure => simp [intOf]; omega
    · obtain rfl : k = n := by omega
      go_wp2
      go_ret
      refine ⟨g, rfl, hg, ?_, he⟩
      rw [List.take_of_length_le (by omega), List.drop_of_length_le (by simp), List.append_nil] at hok
      exact hok
end Go.Proofs.YtkpfmnconnopnaaDoor
