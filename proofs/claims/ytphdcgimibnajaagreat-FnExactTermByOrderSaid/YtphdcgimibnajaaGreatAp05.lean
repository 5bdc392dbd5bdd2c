/- Parts of terms joined: slices.Concat of lists of nodes. Plain arithmetic, no program in sight: the primes up to 97, inverses modulo p, lists of coefficients, their sums, products, quotients and greatest common divisors. Contracts of the functions on fields and lists of elements. The first index of which a predicate holds; lists of flags; the numbers up to n. -/
import Derived.Test.YtphdcgimibnajaaGreatAp04
import Derived.Lib.AppendZeros
import Derived.WalkKit
import Derived.Test.YtphdcgimibnajaaGreatLib
import Derived.Deep.QuietTactic
import Derived.BigQuiet
namespace Go.Proofs.YtphdcgimibnajaaGreat
set_option maxRecDepth 100000
open Go Go.RowKit
/-- Lists of nodes. -/
def ENN : EK (List Nd) where
  k := 1
  R := fun w vs x => ∃ A c, vs = [.slice A x.length c] ∧ RdS EN w A x
  O := fun _ _ _ _ _ => False
  tot := fun _ => 0
  mkE := fun _ x => x
  rlen := fun h => by obtain ⟨_, _, rfl, _⟩ := h; rfl
  ex := fun h he => by obtain ⟨A, c, e, h⟩ := h; exact ⟨A, c, e, h.ex he⟩
  rd := fun h => h.elim
  keep := fun h _ => h.elim
  nn := fun _ => Int.le_refl _
  tmk := fun _ _ => rfl
theorem RdS.nodes {w : World} {A : Option Addr} {rows : List (List Nd)} (h : RdS ENN w A rows) {j : Nat} (hj : j < rows.length) :
    ∃ g off r P pc, A = some ⟨g, off, none⟩ ∧ rows[j]? = some r ∧ w.cell? ⟨g, off + j, none⟩ = some (.slice P r.length pc) ∧ RdS EN w P r := by
  obtain ⟨g, off, vs, x, hA, hx, hc, P, pc, rfl, hP⟩ := h.at_ hj
  have := hc 0 _ rfl
  exact ⟨g, off, x, P, pc, hA, hx, by simpa [show ENN.k = 1 from rfl] using this, hP⟩
theorem flatN_step {α : Type} {rows : List (List α)} {k : Nat} {r : List α} (h : rows[k]? = some r) : (rows.take (k + 1)).flatten = (rows.take k).flatten ++ r := by rw [List.take_add_one, h, List.flatten_append]; simp
theorem flatN_len {α : Type} {rows : List (List α)} {m : Nat} (h : ∀ r ∈ rows, r.length ≤ m) : ∀ k, ((rows.take k).flatten).length ≤ m * rows.length := by
  intro k
  have h2 : ∀ r ∈ rows.take k, r.length ≤ m := fun r hr => h r (List.mem_of_mem_take hr)
  have h3 : (rows.take k).length ≤ rows.length := List.length_take_le' _ _
  have : ∀ (l : List (List α)), (∀ r ∈ l, r.length ≤ m) → l.flatten.length ≤ m * l.length := by
    intro l
    induction l with
    | nil => intro _; simp
    | cons r l ih =>
      intro hl
      have a := ih fun r hr => hl r (List.mem_cons_of_mem _ hr)
      have b := hl r List.mem_cons_self
      rw [List.flatten_cons, List.length_append, List.length_cons, Nat.mul_add]
      omega
  have := this _ h2
  have h4 : m * (rows.take k).length ≤ m * rows.length := Nat.mul_le_mul_left _ h3
  omega
set_option maxHeartbeats 2000000 in
theorem growNodes_c (n : Nat) (hn : n ≤ 1000000000) (w : World) :
    Calls Tryz.prog 105 #[.slice none 0 0, .int .i64 n] w fun e w' => ∃ A c, e = .returned (.slice A 0 c) ∧ AN w' w.heap.size (.slice A 0 c) [] ∧ Ex w w' := by
  obtain ⟨i, hi, hz, hs, hby⟩ := info_parts nodeInfo
  have hw : IntKind.i64.wrap ((n : Int) - 0) = (n : Int) := by rw [IntWalk.i64_in _ (by omega)]; omega
  by_cases h0 : n = 0
  · subst h0
    go_enter Tryz.func105, Tryz.ntmps105
    go_wp2_with fail
    go_ret
    exact ⟨none, 0, rfl, AF.nil _ _, Ex.refl _⟩
  · have hnp : 0 < n := by omega
    have hrun := Lib.run_append_nil_zeros (P := Tryz.prog) w 27 3 27 84 i _ .i64 .i64 Tryz.underlying27 Tryz.underlying3 hi hz n hnp (by omega) (by omega) (by rw [hby]; omega)
    have hge := grownCap_ge w n 0 84
    have hle := grownCap_le_maxLen w n 0 84 (by unfold maxLen; omega)
    obtain ⟨C, hC⟩ : ∃ C, grownCap w n 0 84 = C := ⟨_, rfl⟩
    rw [hC] at hrun hge hle
    obtain ⟨cur, hcur⟩ : ∃ cur, Builtin.zeroCells (Value.agg #[.int .i64 0, .int .i64 0, .string ⟨#[]⟩]).cells n ++ Builtin.zeroCells (Value.agg #[.int .i64 0, .int .i64 0, .string ⟨#[]⟩]).cells (C - n) = cur := ⟨_, rfl⟩
    have hsz : cur.size = C * 3 := by
      rw [← hcur, Array.size_append, size_zeroCells, size_zeroCells]
      have : (Value.agg #[.int .i64 0, .int .i64 0, .string ⟨#[]⟩]).cells.size = 3 := rfl
      rw [this]
      omega
    rw [hcur] at hrun
    have o : AN (w.drew.alloc (.cells cur 84)) w.heap.size (.slice (some ⟨w.heap.size, 0, none⟩) 0 C) [] :=
      ⟨by simp [flatL], .inr ⟨w.heap.size, C, cur, rfl, Nat.le_refl _, heap_alloc_new w.drew _, Nat.zero_le _, hle, hsz, by simp [flatL]⟩⟩
    have x1 := (Ex.refl w).drew.alloc (.cells cur 84)
    clear hcur hsz hle hC hi hz hs hby
    go_enter Tryz.func105, Tryz.ntmps105
    go_wp2_with (at_builtin; refine Lib.wpList_append_run _ rfl _ _ _ _ rfl _ _ rfl rfl _ _ hrun ?_)
    go_ret
    exact ⟨_, _, rfl, o, x1⟩
set_option maxHeartbeats 4000000 in
theorem concatN_c (A : Option Addr) (c : Nat) (rows : List (List Nd)) (w : World) (h : RdS ENN w A rows) (hr8 : rows.length ≤ 8) (hr12 : ∀ r ∈ rows, r.length ≤ 100000000) :
    Calls Tryz.prog 87 #[.slice A rows.length c] w fun e w' => ∃ v, e = .returned v ∧ AN w' w.heap.size v rows.flatten ∧ Ex w w' := by
  have hl : rows.length ≤ 1099511627776 := by omega
  have HF := Lib.hid (flatN_len hr12)
  have H12 := Lib.hid hr12
  clear hr12
  go_enter Tryz.func87, Tryz.ntmps87
  go_wp2_with fail
  go_loopw [3, 11] (fun s i wr => ∃ k n : Nat, k ≤ rows.length ∧ i = .int .i64 k ∧ s = .int .i64 n ∧ Hid (n = ((rows.take k).flatten).length) ∧ Ex w wr) (fun _ i _ => rows.length - (intOf i).toNat)
  case atStart => exact ⟨0, 0, Nat.zero_le _, rfl, rfl, Lib.hid (by simp), Ex.refl _⟩
  case round =>
    rename World => wi
    obtain ⟨k, n, hk, rfl, rfl, Hn, he⟩ := hrel
    have hn8 : n ≤ 800000000 := by have := HF.out k; have := Hn.out; omega
    by_cases hlt : k < rows.length
    · obtain ⟨g, off, r, P, pc, rfl, hr, b0, hP⟩ := (h.ex he).nodes hlt
      have hrl := H12.out r (List.mem_of_getElem? hr)
      have hw : IntKind.i64.wrap ((n : Int) + (r.length : Int)) = ((n + r.length : Nat) : Int) := by rw [IntWalk.i64_in _ (by omega)]; omega
      have HN := Lib.hid (show n + r.length = ((rows.take (k + 1)).flatten).length by rw [flatN_step hr, List.length_append, Hn.out])
      have hneg : ¬ ((n + r.length : Nat) : Int) < 0 := by omega
      clear hr hP
      obtain ⟨m, hm⟩ : ∃ m, n + r.length = m := ⟨_, rfl⟩
      rw [hm] at hw HN hneg
      clear hm
      go_wp2_with fail
      clear hw
      go_roundw
      case rel => exact ⟨k + 1, m, by omega, by go_num, rfl, HN, he⟩
      case measure => simp [intOf]; omega
    · obtain rfl : k = rows.length := by omega
      go_wp2_with fail
      refine (growNodes_c n (by omega) wi).mono ?_
      rintro e w1 ⟨A1, c1, rfl, ge1, x1⟩
      go_wp2_with fail
      go_loopw [6, 27] (fun o i wr => ∃ k : Nat, k ≤ rows.length ∧ i = .int .i64 k ∧ AN wr wi.heap.size o ((rows.take k).flatten) ∧ Ex wi wr) (fun _ i _ => rows.length - (intOf i).toNat)
      case atStart => exact ⟨0, Nat.zero_le _, rfl, by simpa using ge1, x1⟩
      case round =>
        rename World => wj
        obtain ⟨k, hk2, rfl, hge, hej⟩ := hrel
        by_cases hlt2 : k < rows.length
        · obtain ⟨g, off, r, P, pc, rfl, hr, b0W, hP⟩ := (h.ex he).nodes hlt2
          have b0 := cell_ex hej b0W
          have hrl := H12.out r (List.mem_of_getElem? hr)
          have hpl : ((rows.take k).flatten).length ≤ 800000000 := by have := HF.out k; omega
          have HS := Lib.hid (flatN_step hr)
          clear hr b0W
          obtain ⟨v', w', hrun, hge', _, hE, _⟩ := an_append 27 wj wi.heap.size _ _ hge hej.size P pc r (hP.ex hej) (by omega)
          rw [← HS.out] at hge'
          have xw := hej.exo hE (fun q e => (hge.lt q e).1)
          clear hge hE HS hpl
          go_wp2_with (at_builtin; refine wpList_append_run rfl _ _ _ rfl rfl rfl hrun ?_)
          go_roundw
          case rel => exact ⟨k + 1, by omega, by go_num, hge', xw⟩
          case measure => simp [intOf]; omega
        · obtain rfl : k = rows.length := by omega
          rw [List.take_length] at hge
          have hwz := he.size
          go_wp2_with fail
          go_ret
          exact ⟨_, rfl, hge.more hwz, he.trans hej⟩
end Go.Proofs.YtphdcgimibnajaaGreat
namespace Go.Proofs.YtphdcgimibnajaaGreat
set_option maxRecDepth 100000
def inB (lo hi n : Int) : Bool := decide (lo ≤ n) && decide (n ≤ hi)
/-! ### Inverses -/
/-! ### Lists of coefficients -/
/-- The coefficient of a power. -/
def cf (xs : List Int) (i : Nat) : Int := xs[i]?.getD 0
/-- Without the zeros at the end. -/
def trim : List Int → List Int
  | [] => []
  | x :: xs => match trim xs with
    | [] => if x = 0 then [] else [x]
    | ys => x :: ys
theorem trim_cons (x : Int) (xs : List Int) : trim (x :: xs) = if trim xs = [] ∧ x = 0 then [] else x :: trim xs := by
  rw [trim]
  split
  · rename_i h; rw [h]; simp
  · rename_i h; rw [if_neg (by intro ⟨h1, _⟩; exact h h1)]
theorem cf_nil (i : Nat) : cf [] i = 0 := rfl
theorem cf_zero (x : Int) (xs : List Int) : cf (x :: xs) 0 = x := rfl
theorem cf_succ (x : Int) (xs : List Int) (i : Nat) : cf (x :: xs) (i + 1) = cf xs i := rfl
theorem trim_cf : ∀ (xs : List Int) (i : Nat), cf (trim xs) i = cf xs i
  | [], _ => rfl
  | x :: xs, i => by
    rw [trim_cons]
    split
    · rename_i h
      cases i with
      | zero => rw [cf_zero, h.2]; rfl
      | succ i => rw [cf_succ, ← trim_cf xs i, h.1]; rfl
    · cases i with
      | zero => rfl
      | succ i => rw [cf_succ, cf_succ, trim_cf xs i]
theorem trim_nil_iff : ∀ (xs : List Int), trim xs = [] ↔ ∀ i, cf xs i = 0
  | [] => by simp [trim, cf_nil]
  | x :: xs => by
    rw [trim_cons]
    constructor
    · intro h
      split at h
      · rename_i h'
        intro i
        cases i with
        | zero => exact h'.2
        | succ i => exact (trim_nil_iff xs).1 h'.1 i
      · cases h
    · intro h
      rw [if_pos ⟨(trim_nil_iff xs).2 fun i => h (i + 1), h 0⟩]
theorem trim_ext : ∀ {xs ys : List Int}, (∀ i, cf xs i = cf ys i) → trim xs = trim ys
  | [], ys, h => by
    symm
    exact (trim_nil_iff ys).2 fun i => (h i).symm
  | x :: xs, [], h => (trim_nil_iff _).2 h
  | x :: xs, y :: ys, h => by
    have e : trim xs = trim ys := trim_ext fun i => h (i + 1)
    have e0 : x = y := h 0
    rw [trim_cons, trim_cons, e, e0]
theorem trim_trim (xs : List Int) : trim (trim xs) = trim xs := trim_ext (trim_cf xs)
theorem trim_le : ∀ (xs : List Int), (trim xs).length ≤ xs.length
  | [] => Nat.le_refl _
  | x :: xs => by
    have := trim_le xs
    rw [trim_cons]
    split <;> simp <;> omega
theorem trim_snoc0 (xs : List Int) : trim (xs ++ [0]) = trim xs := trim_ext fun i => by
  simp only [cf, List.getElem?_append]
  split
  · rfl
  · rename_i h
    rw [List.getElem?_eq_none (by omega : xs.length ≤ i)]
    cases hk : i - xs.length with
    | zero => rfl
    | succ k => rfl
/-- No zero at the end. -/
def Tr (xs : List Int) : Prop := trim xs = xs
theorem Tr.trim (xs : List Int) : Tr (trim xs) := trim_trim xs
theorem Tr.nil : Tr [] := rfl
theorem Tr.last {xs : List Int} (h : Tr xs) (hn : xs ≠ []) : cf xs (xs.length - 1) ≠ 0 := by
  obtain ⟨ys, a, rfl⟩ : ∃ ys a, xs = ys ++ [a] := ⟨xs.dropLast, xs.getLast hn, (List.dropLast_concat_getLast hn).symm⟩
  intro h0
  have ha : a = 0 := by simpa [cf] using h0
  subst ha
  unfold Tr at h
  rw [trim_snoc0] at h
  have := trim_le ys
  rw [h] at this
  simp at this
  omega
/-! ### Sums -/
/-! ### Products -/
/-! ### Quotients -/
/-! ### Greatest common divisors -/
end Go.Proofs.YtphdcgimibnajaaGreat
namespace Go.Proofs.YtphdcgimibnajaaGreat
set_option maxRecDepth 100000
open Go Go.RowKit
theorem ret_bool {a b : Bool} (h : a = b) : Ending.returned (.bool a) = .returned (.bool b) := by rw [h]
set_option maxHeartbeats 400000 in
theorem l1In_c (n lo hi : Int) (w : World) : Calls Tryz.prog 95 #[.int .i64 n, .int .i64 lo, .int .i64 hi] w fun e w' => e = .returned (.bool (inB lo hi n)) ∧ w = w' := by
  go_enter Tryz.func95, Tryz.ntmps95
  go_wp2
  all_goals go_ret
  all_goals exact ⟨ret_bool (by simp [inB]; try omega), rfl⟩
set_option maxHeartbeats 400000 in
theorem zeros_c (n : Nat) (hn : n ≤ 1099511627776) (w : World) : Calls Tryz.prog 94 #[.int .i64 n] w fun e w' => ∃ g, e = .returned (.slice (some ⟨g, 0, none⟩) n n) ∧ w.heap.size ≤ g ∧ Blk w' g (List.replicate n 0) ∧ Ex w w' := by
  have hmk := fun W => run_make_ints n hn W
  go_enter Tryz.func94, Tryz.ntmps94
  go_wp2
  go_ret
  exact ⟨_, rfl, Nat.le_refl _, Blk.new w _, (Ex.refl w).alloc _⟩
theorem all_take_succ {p : Int → Bool} {xs : List Int} {k : Nat} {x : Int} (hx : xs[k]? = some x) (ha : (xs.take k).all p = true) (hp : p x = true) : (xs.take (k + 1)).all p = true := by
  rw [List.take_add_one, hx]
  simp [ha, hp]
theorem all_false_of {p : Int → Bool} {xs : List Int} {k : Nat} {x : Int} (hx : xs[k]? = some x) (hp : p x = false) : xs.all p = false :=
  List.all_eq_false.2 ⟨x, List.mem_of_getElem? hx, by simp [hp]⟩
set_option maxHeartbeats 400000 in
theorem l1All_c (A : Option Addr) (c : Nat) (xs : List Int) (lo hi : Int) (w : World) (h : Rd w A xs) :
    Calls Tryz.prog 78 #[.slice A xs.length c, .int .i64 lo, .int .i64 hi] w fun e w' => e = .returned (.bool (xs.all (inB lo hi))) ∧ w = w' := by
  have hl := h.len
  go_enter Tryz.func78, Tryz.ntmps78
  go_wp2
  go_loop [11] (fun i => ∃ k : Nat, k ≤ xs.length ∧ (xs.take k).all (inB lo hi) = true ∧ i = .int .i64 k) (fun i => xs.length - (intOf i).toNat)
  case atStart => exact ⟨0, Nat.zero_le _, rfl, rfl⟩
  case round =>
    obtain ⟨k, hk, hall, rfl⟩ := hrel
    have Hall := Lib.hid hall
    clear hall
    by_cases hlt : k < xs.length
    · obtain ⟨g, off, x, rfl, hx, hg, hc⟩ := h.at_ hlt
      have Hx := Lib.hid hx
      clear hx
      cases hel : inB lo hi x with
      | true =>
        have Hel := Lib.hid hel
        go_wp2_with (go_at_call 95; refine (l1In_c _ _ _ _).mono ?_; rintro e w' ⟨rfl, rfl⟩)
        go_round
        case rel => exact ⟨k + 1, by omega, all_take_succ Hx.out Hall.out Hel.out, by go_num⟩
        case measure => simp [intOf]; omega
      | false =>
        have Hel := Lib.hid hel
        go_wp2_with (go_at_call 95; refine (l1In_c _ _ _ _).mono ?_; rintro e w' ⟨rfl, rfl⟩)
        go_ret
        exact ⟨ret_bool (by rw [all_false_of Hx.out Hel.out]), rfl⟩
    · obtain rfl : k = xs.length := by omega
      go_wp2
      go_ret
      exact ⟨ret_bool (by have := Hall.out; rw [List.take_length] at this; rw [this]), rfl⟩
theorem within_c (n lo hi : Int) (w : World) : Calls Tryz.prog 96 #[.int .i64 n, .int .i64 lo, .int .i64 hi] w fun e w' => e = .returned (.bool (inB lo hi n)) ∧ w = w' := by
  go_enter Tryz.func96, Tryz.ntmps96
  go_wp2
  all_goals go_ret
  all_goals exact ⟨ret_bool (by simp [inB]; try omega), rfl⟩
end Go.Proofs.YtphdcgimibnajaaGreat
namespace Go.Proofs.YtphdcgimibnajaaGreat
set_option maxRecDepth 100000
open Go Go.RowKit
theorem take_step0 (f : List Int) (n k : Nat) (hk : k < f.length) (hn : f.length ≤ n) {x : Int} (hx : f[k]? = some x) :
    (f.take k ++ (List.replicate n (0 : Int)).drop k).set k x = f.take (k + 1) ++ (List.replicate n (0 : Int)).drop (k + 1) := by
  apply List.ext_getElem?
  intro j
  obtain ⟨_, rfl⟩ := List.getElem?_eq_some_iff.1 hx
  simp only [List.getElem?_set, List.getElem?_append, List.getElem?_take, List.length_take, List.drop_replicate, List.getElem?_replicate, List.length_append, List.length_replicate]
  grind
/-- The ending of a call that returns a list of ints of its own. -/
def LIo (w : World) (xs : List Int) (e : Ending) (w' : World) : Prop := ∃ v, e = .returned v ∧ OI w' w.heap.size w'.heap.size v xs ∧ Ex w w'
theorem OI.nil (w : World) (a b : Nat) : OI w a b (.slice none 0 0) [] := ⟨none, 0, rfl, ⟨Fr.nil _ _ _, fun a e => by cases e⟩⟩
theorem LIo.nil (w w' : World) (h : Ex w w') : LIo w [] (.returned (.slice none 0 0)) w' := ⟨_, rfl, OI.nil _ _ _, h⟩
/-- The first index of which p holds; -1. -/
def idxP (p : Int → Bool) (xs : List Int) : Int := match xs.findIdx? p with | some i => (i : Int) | none => -1
theorem idxP_none {p : Int → Bool} {xs : List Int} (h : xs.all (fun x => !p x) = true) : idxP p xs = -1 := by
  have : xs.findIdx? p = none := by
    rw [List.findIdx?_eq_none_iff]
    intro x hx
    simpa using List.all_eq_true.1 h x hx
  rw [idxP, this]
theorem idxP_some {p : Int → Bool} {xs : List Int} {k : Nat} {x : Int} (hx : xs[k]? = some x) (h : (xs.take k).all (fun x => !p x) = true) (hp : p x = true) : idxP p xs = k := by
  have hl := (List.getElem?_eq_some_iff.1 hx).1
  have : xs.findIdx? p = some k := by
    rw [List.findIdx?_eq_some_iff_getElem]
    refine ⟨hl, by rw [(List.getElem?_eq_some_iff.1 hx).2]; exact hp, fun j hj => ?_⟩
    have := List.all_eq_true.1 h xs[j] (List.mem_take_iff_getElem.2 ⟨j, by omega, rfl⟩)
    simpa using this
  rw [idxP, this]
theorem idxP_any (p : Int → Bool) (xs : List Int) : decide (0 ≤ idxP p xs) = xs.any p := by
  unfold idxP
  cases h : xs.findIdx? p with
  | none =>
    rw [List.findIdx?_eq_none_iff] at h
    rw [List.any_eq_false.2 (fun x hx => by simp [h x hx])]
    try rfl
  | some i =>
    obtain ⟨hl, hp, _⟩ := List.findIdx?_eq_some_iff_getElem.1 h
    rw [List.any_eq_true.2 ⟨_, List.getElem_mem hl, hp⟩]; exact decide_eq_true (Int.natCast_nonneg i)
def upL (n : Nat) : List Int := (List.range n).map Int.ofNat
theorem upL_len (n : Nat) : (upL n).length = n := by simp [upL]
theorem upL_at {n i : Nat} (h : i < n) : (upL n)[i]? = some (i : Int) := by simp [upL, h]
/-- The flags as a set. -/
def SL (op : List Bool) (x : Int) : Bool := decide (0 ≤ x) && op.getD x.toNat false
theorem SL_nat (op : List Bool) (k : Nat) : SL op (k : Int) = op.getD k false := by simp [SL]
theorem count_set {op : List Bool} {i : Nat} (h : op[i]? = some true) : (op.set i false).count true + 1 = op.count true := by
  have hl := (List.getElem?_eq_some_iff.1 h).1
  have e := List.count_set (a := false) (b := true) (l := op) (i := i) hl
  have e2 : op[i] = true := (List.getElem?_eq_some_iff.1 h).2
  have hp : 0 < op.count true := List.count_pos_iff.2 (List.mem_of_getElem? h)
  simp [e2] at e
  omega
theorem idxP_cases (p : Int → Bool) (n : Nat) : (idxP p (upL n) = -1 ∧ ∀ i : Nat, i < n → p i = false) ∨ ∃ i : Nat, i < n ∧ idxP p (upL n) = i ∧ p i = true := by
  unfold idxP
  cases h : (upL n).findIdx? p with
  | none =>
    left
    rw [List.findIdx?_eq_none_iff] at h
    exact ⟨rfl, fun i hi => h _ (List.mem_of_getElem? (upL_at hi))⟩
  | some i =>
    right
    obtain ⟨hl, hp, _⟩ := List.findIdx?_eq_some_iff_getElem.1 h
    have hi : i < n := by rw [upL_len] at hl; exact hl
    have e := upL_at hi
    rw [List.getElem?_eq_getElem hl] at e
    injection e with e
    rw [e] at hp
    exact ⟨i, hi, rfl, hp⟩
theorem upL_succ (k : Nat) : upL (k + 1) = upL k ++ [(k : Int)] := by simp [upL, List.range_succ]
theorem idxP_snoc (p : Int → Bool) (k : Nat) : idxP p (upL (k + 1)) = if 0 ≤ idxP p (upL k) then idxP p (upL k) else if p k then (k : Int) else -1 := by
  unfold idxP
  rw [upL_succ, List.findIdx?_append]
  cases h : (upL k).findIdx? p with
  | some i => simp
  | none =>
    cases hp : p (k : Int) <;> simp [hp, upL_len]
set_option maxHeartbeats 400000 in
theorem indexFunc_c (g : FuncId) (eg : ∀ args w, (callFunc g args).run Tryz.prog w = .ok (.enter g args) w) (lb : Array Value) (p : Int → Bool) (A : Option Addr) (c : Nat) (xs : List Int) (w : World) (h : Rd w A xs)
    (hf : ∀ (W : World) (i : Nat) (x : Int), Ex w W → xs[i]? = some x → Calls Tryz.prog g (#[.int .i64 x] ++ lb) W fun e W' => e = .returned (.bool (p x)) ∧ Ex W W') :
    Calls Tryz.prog 63 #[.slice A xs.length c, .func (.func g) #[] lb] w fun e w' => e = .returned (.int .i64 (idxP p xs)) ∧ Ex w w' := by
  have hl := h.len
  go_enter Tryz.func63, Tryz.ntmps63
  go_wp2
  go_loopw [8] (fun i wr => ∃ k : Nat, k ≤ xs.length ∧ Hid ((xs.take k).all (fun x => !p x) = true) ∧ i = .int .i64 k ∧ Ex w wr) (fun i _ => xs.length - (intOf i).toNat)
  case atStart => exact ⟨0, Nat.zero_le _, Lib.hid rfl, rfl, Ex.refl w⟩
  case round =>
    obtain ⟨k, hk, Hall, rfl, he⟩ := hrel
    by_cases hlt : k < xs.length
    · obtain ⟨g', off, x, rfl, hx, hg, hc⟩ := (h.ex he).at_ hlt
      have hcall := hf wr k x he hx
      have Hx := Lib.hid hx
      clear hx hf
      cases hp : p x with
      | true =>
        rw [hp] at hcall
        have H := Lib.hid (idxP_some Hx.out Hall.out hp)
        clear hp
        go_wp2_with fail
        refine hcall.mono ?_
        rintro e w' ⟨rfl, hb'⟩
        go_wp2
        go_ret
        exact ⟨by rw [H.out]; rfl, he.trans hb'⟩
      | false =>
        rw [hp] at hcall
        have H := Lib.hid (all_take_succ (p := fun x => !p x) Hx.out Hall.out (by simp [hp]))
        clear hp
        go_wp2_with fail
        refine hcall.mono ?_
        rintro e w' ⟨rfl, hb'⟩
        go_wp2_with fail
        go_roundw
        case rel => exact ⟨k + 1, by omega, H, by go_num, he.trans hb'⟩
        case measure => simp [intOf]; omega
    · obtain rfl : k = xs.length := by omega
      have H := Lib.hid (idxP_none (p := p) (xs := xs) (by have := Hall.out; rwa [List.take_length] at this))
      clear hf
      go_wp2
      go_ret
      exact ⟨by rw [H.out]; rfl, he⟩
set_option maxHeartbeats 400000 in
theorem containsFunc_c (g : FuncId) (eg : ∀ args w, (callFunc g args).run Tryz.prog w = .ok (.enter g args) w) (lb : Array Value) (p : Int → Bool) (A : Option Addr) (c : Nat) (xs : List Int) (w : World) (h : Rd w A xs)
    (hf : ∀ (W : World) (i : Nat) (x : Int), Ex w W → xs[i]? = some x → Calls Tryz.prog g (#[.int .i64 x] ++ lb) W fun e W' => e = .returned (.bool (p x)) ∧ Ex W W') :
    Calls Tryz.prog 66 #[.slice A xs.length c, .func (.func g) #[] lb] w fun e w' => e = .returned (.bool (xs.any p)) ∧ Ex w w' := by
  have hc := indexFunc_c g eg lb p A c xs w h hf
  have H := Lib.hid (idxP_any p xs)
  clear hf
  go_enter Tryz.func66, Tryz.ntmps66
  go_wp2_with (go_at_call 63; refine hc.mono ?_; rintro e w1 ⟨rfl, x1⟩)
  go_ret
  exact ⟨ret_bool (by rw [← H.out]), x1⟩
set_option maxHeartbeats 400000 in
theorem upTo_c (n : Nat) (hn : n ≤ 1099511627776) (w : World) : Calls Tryz.prog 64 #[.int .i64 n] w fun e w' => ∃ g, e = .returned (.slice (some ⟨g, 0, none⟩) n n) ∧ w.heap.size ≤ g ∧ Own w' g (upL n) ∧ Ex w w' := by
  go_enter Tryz.func64, Tryz.ntmps64
  go_wp2_with fail
  refine (zeros_c n hn w).mono ?_
  rintro e w1 ⟨g, rfl, hg, hb, x1⟩
  have hl0 : (upL n).length = n := upL_len n
  have ho : Own w1 g ((upL n).take 0 ++ (List.replicate n (0 : Int)).drop 0) := by simpa using hb.own
  clear hb
  go_wp2_with fail
  go_loopw [9] (fun i wr => ∃ k : Nat, k ≤ n ∧ i = .int .i64 k ∧ Own wr g ((upL n).take k ++ (List.replicate n (0 : Int)).drop k) ∧ Ex w wr) (fun i _ => n - (intOf i).toNat)
  case atStart => exact ⟨0, Nat.zero_le _, rfl, ho, x1⟩
  case round =>
    obtain ⟨k, hk, rfl, hok, he⟩ := hrel
    by_cases hlt : k < n
    · have hz : ((upL n).take k ++ (List.replicate n (0 : Int)).drop k)[k]? = some 0 := by
        rw [List.getElem?_append_right (by rw [List.length_take]; omega), List.length_take, hl0, Nat.min_eq_left (by omega), Nat.sub_self, List.getElem?_drop, List.getElem?_replicate, if_pos (by omega)]
      have hc := hok.cell hz
      have hfz := hok.frozen k
      have HS := Lib.hid (take_step0 (upL n) n k (by omega) (by omega) (upL_at hlt))
      have hs := hok.set_ k (k : Int)
      rw [HS.out] at hs
      clear hz hl0
      go_wp2_with fail
      go_roundw
      case rel => exact ⟨k + 1, by omega, by go_num, hs, he.setCell hg _⟩
      case measure => simp [intOf]; omega
    · obtain rfl : k = n := by omega
      go_wp2
      go_ret
      refine ⟨g, rfl, hg, ?_, he⟩
      rw [List.take_of_length_le (by omega), List.drop_of_length_le (by simp), List.append_nil] at hok
      exact hok
theorem boolInfo : (Tryz.prog.info? 4).map (fun i => (i.zero, i.size, i.bytes)) = some (some (.bool false), 1, 1) := by kernel_rfl
def bObj (bs : List Bool) : Array Value := (bs.map Value.bool).toArray
theorem run_make_bools (n : Nat) (hn : n ≤ 1099511627776) (w : World) :
    (Instr.makeSlice 76 (.int .i64 (n : Int)) (.int .i64 (n : Int))).run Tryz.prog w = .ok (.slice (some ⟨w.heap.size, 0, none⟩) n n) (w.alloc (.cells (bObj (List.replicate n false)) 4)) := by
  obtain ⟨i, hi, hz, hs, hb⟩ := info_parts boolInfo
  have hr := run_make (P := Tryz.prog) w 76 4 i _ Tryz.underlying76 hi hz .i64 .i64 n n (by omega) (by omega) (by rw [hb]; omega) (by omega)
  simp only [Int.toNat_natCast, hs] at hr
  rw [hr]
  have e : madeCells (Value.bool false).cells (n * 1) = bObj (List.replicate n false) := by
    apply Array.toList_inj.1
    rw [Nat.mul_one]
    show (madeCells #[Value.bool false] n).toList = _
    rw [toList_madeCells_one]
    simp [bObj]
  rw [e]
theorem VB.bcell {w : World} {g : Nat} {bs : List Bool} (h : VB w g 4 (bObj bs)) {i : Nat} {b : Bool} (hi : bs[i]? = some b) : w.cell? ⟨g, i, none⟩ = some (.bool b) := h.cell i (by simp [bObj, hi])
theorem VB.bset {w : World} {g : Nat} {bs : List Bool} (h : VB w g 4 (bObj bs)) (i : Nat) (b : Bool) : VB (w.setCell ⟨g, i, none⟩ (.bool b)) g 4 (bObj (bs.set i b)) := by
  have := h.set_ i (.bool b)
  have e : (bObj bs).setIfInBounds i (.bool b) = bObj (bs.set i b) := by
    unfold bObj
    rw [List.setIfInBounds_toArray, List.map_set]
  rwa [e] at this
end Go.Proofs.YtphdcgimibnajaaGreat
