/- Words for memory: a slice of ints that reads as a list, a block known whole, what a call leaves of the old memory. Plain lemmas of mine. -/
import Derived.Test.YtphdcgimibnajaaGreatProg
import Derived.WalkKit
import Derived.Deep.Draws
import Derived.Lib.Hide
import Derived.Maps.AppendAt
namespace Go.Proofs.YtphdcgimibnajaaGreat
set_option maxRecDepth 100000
open Go Go.RowKit

/-- Nothing that was in memory before has turned. -/
def Ex (w w' : World) : Prop := Below w.heap.size w w'
theorem Ex.refl (w : World) : Ex w w := Below.refl _ _
theorem Ex.trans {a b c : World} (h : Ex a b) (k : Ex b c) : Ex a c := Below.trans h (Below.mono k h.size)
theorem Ex.drew {a w : World} (h : Ex a w) : Ex a w.drew := Below.drew h
theorem Ex.drewN {a w : World} (h : Ex a w) (n : Nat) : Ex a (w.drewN n) := ⟨h.os, h.tape, h.output, h.size, h.block⟩
theorem Ex.alloc {a w : World} (h : Ex a w) (o : Obj) : Ex a (w.alloc o) := Below.alloc h h.size o
theorem Ex.setCell {a w : World} (h : Ex a w) {p : Addr} (hp : a.heap.size ≤ p.block) (u : Value) : Ex a (w.setCell p u) := Below.setCell h hp u
theorem Ex.size {a w : World} (h : Ex a w) : a.heap.size ≤ w.heap.size := Below.size h
theorem Ex.block {a w : World} (h : Ex a w) {k : Nat} (hk : k < a.heap.size) : w.heap[k]? = a.heap[k]? := Below.block h k hk
theorem Ex.grown {a w w' : World} {row : Option Nat} (h : Ex a w) (hg : w.grownBy w' row) (hr : ∀ k, row = some k → a.heap.size ≤ k) : Ex a w' := Below.grown h hg h.size hr

theorem heap_lt_of {w : World} {g : Nat} {o : Obj} (h : w.heap[g]? = some o) : g < w.heap.size := by
  rcases Nat.lt_or_ge g w.heap.size with hl | hg
  · exact hl
  · rw [Array.getElem?_eq_none hg] at h; cases h

theorem cell_lt {w : World} {p : Addr} {v : Value} (h : w.cell? p = some v) : p.block < w.heap.size := by
  rcases Nat.lt_or_ge p.block w.heap.size with hl | hg
  · exact hl
  · simp [World.cell?, Array.getElem?_eq_none hg] at h

/-- Of the old memory at most block g has turned. -/
def Ex1 (g : Nat) (w w' : World) : Prop := w.grownBy w' (some g)
theorem Ex1.refl (g : Nat) (w : World) : Ex1 g w w := World.grownBy.refl w _
theorem Ex1.of_ex {g : Nat} {a w : World} (h : Ex a w) : Ex1 g a w := ⟨h.os, h.tape, h.output, h.size, fun _ hi _ => h.block hi⟩
theorem Ex1.trans {g : Nat} {a b c : World} (h : Ex1 g a b) (k : Ex1 g b c) : Ex1 g a c :=
  ⟨k.os.trans h.os, k.tape.trans h.tape, k.output.trans h.output, Nat.le_trans h.size k.size, fun i hi hn => (k.block i (Nat.lt_of_lt_of_le hi h.size) hn).trans (h.block i hi hn)⟩
theorem Ex1.drew {g : Nat} {a w : World} (h : Ex1 g a w) : Ex1 g a w.drew := ⟨h.os, h.tape, h.output, h.size, h.block⟩
theorem Ex1.drewN {g : Nat} {a w : World} (h : Ex1 g a w) (n : Nat) : Ex1 g a (w.drewN n) := ⟨h.os, h.tape, h.output, h.size, h.block⟩
theorem Ex1.setCell {g : Nat} {a w : World} (h : Ex1 g a w) {p : Addr} (hp : p.block = g) (u : Value) : Ex1 g a (w.setCell p u) :=
  ⟨h.os, h.tape, h.output, by simpa [World.setCell] using h.size, fun i hi hne => (Below.heap_setCell w p u i (by
    rintro rfl
    exact hne (by rw [hp]))).trans (h.block i hi hne)⟩
theorem Ex1.ex {g : Nat} {a w : World} (h : Ex1 g a w) (hg : a.heap.size ≤ g) : Ex a w :=
  ⟨h.os, h.tape, h.output, h.size, fun i hi => h.block i hi (by intro e; injection e; omega)⟩
theorem Ex.ex1 {g : Nat} {a b c : World} (h : Ex a b) (k : Ex1 g b c) (hg : a.heap.size ≤ g) : Ex a c :=
  ⟨k.os.trans h.os, k.tape.trans h.tape, k.output.trans h.output, Nat.le_trans h.size k.size, fun i hi => (k.block i (Nat.lt_of_lt_of_le hi h.size) (by intro e; injection e; omega)).trans (h.block hi)⟩

/-- Of the old memory at most the block o has turned. -/
def ExO (o : Option Nat) (w w' : World) : Prop := w.grownBy w' o
theorem ExO.refl (o : Option Nat) (w : World) : ExO o w w := World.grownBy.refl w _
theorem ExO.of_ex {o : Option Nat} {a w : World} (h : Ex a w) : ExO o a w := ⟨h.os, h.tape, h.output, h.size, fun _ hi _ => h.block hi⟩
theorem ExO.trans {o : Option Nat} {a b c : World} (h : ExO o a b) (k : ExO o b c) : ExO o a c :=
  ⟨k.os.trans h.os, k.tape.trans h.tape, k.output.trans h.output, Nat.le_trans h.size k.size, fun i hi hn => (k.block i (Nat.lt_of_lt_of_le hi h.size) hn).trans (h.block i hi hn)⟩
theorem ExO.drewN {o : Option Nat} {a w : World} (h : ExO o a w) (n : Nat) : ExO o a (w.drewN n) := ⟨h.os, h.tape, h.output, h.size, h.block⟩
theorem ExO.setCell {g : Nat} {a w : World} (h : ExO (some g) a w) {p : Addr} (hp : p.block = g) (u : Value) : ExO (some g) a (w.setCell p u) := Ex1.setCell h hp u
theorem Ex.exo {o : Option Nat} {a b c : World} (h : Ex a b) (k : ExO o b c) (hg : ∀ g, o = some g → a.heap.size ≤ g) : Ex a c :=
  ⟨k.os.trans h.os, k.tape.trans h.tape, k.output.trans h.output, Nat.le_trans h.size k.size, fun i hi => (k.block i (Nat.lt_of_lt_of_le hi h.size) (by intro e; have := hg i e.symm; omega)).trans (h.block hi)⟩

/-- The slice that begins at A reads as the list of ints xs. -/
def Rd (w : World) (A : Option Addr) (xs : List Int) : Prop :=
  xs.length ≤ 1099511627776 ∧ ∀ j, j < xs.length → ∃ g off, A = some ⟨g, off, none⟩ ∧ w.cell? ⟨g, off + j, none⟩ = some (.int .i64 (xs[j]?.getD 0))

theorem Rd.len {w : World} {A : Option Addr} {xs : List Int} (h : Rd w A xs) : xs.length ≤ 1099511627776 := h.1
theorem Rd.at_ {w : World} {A : Option Addr} {xs : List Int} (h : Rd w A xs) {k : Nat} (hk : k < xs.length) :
    ∃ g off x, A = some ⟨g, off, none⟩ ∧ xs[k]? = some x ∧ g < w.heap.size ∧ w.cell? ⟨g, off + k, none⟩ = some (.int .i64 x) := by
  obtain ⟨g, off, hA, hc⟩ := h.2 k hk
  refine ⟨g, off, xs[k], hA, List.getElem?_eq_getElem hk, cell_lt hc, ?_⟩
  rw [hc, List.getElem?_eq_getElem hk]; rfl
theorem Rd.cell {w : World} {g off : Nat} {xs : List Int} (h : Rd w (some ⟨g, off, none⟩) xs) {k : Nat} {x : Int} (hk : xs[k]? = some x) :
    w.cell? ⟨g, off + k, none⟩ = some (.int .i64 x) := by
  have hl : k < xs.length := by
    rcases Nat.lt_or_ge k xs.length with h1 | h1
    · exact h1
    · rw [List.getElem?_eq_none h1] at hk; cases hk
  obtain ⟨g', off', hA, hc⟩ := h.2 k hl
  injection hA with hA
  injection hA with e1 e2 _
  subst e1 e2
  rw [hc, hk]; rfl
theorem Rd.nil (w : World) (A : Option Addr) : Rd w A [] := ⟨by simp, fun j hj => by simp at hj⟩
theorem Rd.keep {w w' : World} {A : Option Addr} {xs : List Int} (h : Rd w A xs) (hk : ∀ a : Addr, A = some a → a.block < w.heap.size → w'.heap[a.block]? = w.heap[a.block]?) : Rd w' A xs :=
  ⟨h.1, fun j hj => by
    obtain ⟨g, off, hA, hc⟩ := h.2 j hj
    refine ⟨g, off, hA, ?_⟩
    have hb := hk _ hA (cell_lt (p := ⟨g, off + j, none⟩) hc)
    rw [World.cell?_of_block (w := w) (a := ⟨g, off + j, none⟩) hb, hc]⟩
theorem Rd.ex {w w' : World} {A : Option Addr} {xs : List Int} (h : Rd w A xs) (he : Ex w w') : Rd w' A xs := h.keep fun _ _ hl => he.block hl
theorem Rd.drew {w : World} {A : Option Addr} {xs : List Int} (h : Rd w A xs) : Rd w.drew A xs := h
theorem Rd.drewN {w : World} {A : Option Addr} {xs : List Int} (h : Rd w A xs) (n : Nat) : Rd (w.drewN n) A xs := h

theorem Rd.blk_lt {w : World} {A : Option Addr} {xs : List Int} (h : Rd w A xs) (hn : xs ≠ []) : ∀ a, A = some a → a.block < w.heap.size := fun a e => by
  obtain ⟨g, off, x, hA, _, hg, _⟩ := h.at_ (List.length_pos_iff.2 hn)
  rw [hA] at e
  injection e with e
  subst e
  exact hg
/-- A lies in none of block g. -/
def Off (A : Option Addr) (g : Nat) : Prop := ∀ a, A = some a → a.block ≠ g
/-- A lies in a block from B on. -/
def Hi (B : Nat) (A : Option Addr) : Prop := ∀ a, A = some a → B ≤ a.block
/-- A lies in a block below B. -/
def Lo (A : Option Addr) (B : Nat) : Prop := ∀ a, A = some a → a.block < B
theorem Lo.off {A : Option Addr} {B g : Nat} (h : Lo A B) (hg : B ≤ g) : Off A g := fun a e => by have := h a e; omega
theorem Lo.mono {A : Option Addr} {B B' : Nat} (h : Lo A B) (hg : B ≤ B') : Lo A B' := fun a e => by have := h a e; omega
theorem Hi.off {A : Option Addr} {B g : Nat} (h : Hi B A) (hg : g < B) : Off A g := fun a e => by have := h a e; omega
theorem Hi.mono {A : Option Addr} {B B' : Nat} (h : Hi B A) (hg : B' ≤ B) : Hi B' A := fun a e => by have := h a e; omega
theorem Rd.ex1 {w w' : World} {A : Option Addr} {xs : List Int} {g : Nat} (h : Rd w A xs) (he : Ex1 g w w') (ho : Off A g) : Rd w' A xs :=
  h.keep fun a e hl => he.block _ hl (by intro e2; injection e2 with e2; exact ho a e e2)

/-- A block of ints. -/
def iObj (xs : List Int) : Obj := .cells (xs.map (Value.int .i64)).toArray 3 (0, 0)
/-- A and A' lie in different blocks. -/
def Apart (A A' : Option Addr) : Prop := ∀ a a', A = some a → A' = some a' → a.block ≠ a'.block
theorem Apart.symm {A A' : Option Addr} (h : Apart A A') : Apart A' A := fun a a' e e' => (h a' a e' e).symm
theorem Rd.exo {w w' : World} {A A' : Option Addr} {xs : List Int} (h : Rd w A xs) (he : ExO (A'.map Addr.block) w w') (ho : Apart A A') : Rd w' A xs :=
  h.keep fun a e hl => he.block _ hl (by
    intro e2
    cases hA : A' with
    | none => rw [hA] at e2; cases e2
    | some a' => rw [hA] at e2; injection e2 with e2; exact ho a a' e hA e2)
theorem Rd.off {w : World} {A : Option Addr} {xs : List Int} (h : Rd w A xs) {g : Nat} (hg : w.heap.size ≤ g) (hn : xs ≠ []) : Off A g := fun a e => by
  have := h.blk_lt hn a e
  omega
/-- Block g is just the cells xs. -/
def Blk (w : World) (g : Nat) (xs : List Int) : Prop := w.heap[g]? = some (iObj xs)
theorem Blk.lt {w : World} {g : Nat} {xs : List Int} (h : Blk w g xs) : g < w.heap.size := heap_lt_of h
theorem Blk.cell {w : World} {g : Nat} {xs : List Int} (h : Blk w g xs) {i : Nat} {x : Int} (hi : xs[i]? = some x) : w.cell? ⟨g, i, none⟩ = some (.int .i64 x) := by
  unfold Blk iObj at h
  simp [World.cell?, h, hi]
theorem Blk.frozen {w : World} {g : Nat} {xs : List Int} (h : Blk w g xs) (i : Nat) : w.frozen? ⟨g, i, none⟩ = false := by
  unfold Blk iObj at h
  simp [World.frozen?, h]
theorem Blk.drew {w : World} {g : Nat} {xs : List Int} (h : Blk w g xs) : Blk w.drew g xs := h
theorem Blk.drewN {w : World} {g : Nat} {xs : List Int} (h : Blk w g xs) (n : Nat) : Blk (w.drewN n) g xs := h
theorem Blk.ex {w w' : World} {g : Nat} {xs : List Int} (h : Blk w g xs) (he : Ex w w') : Blk w' g xs := (he.block h.lt).trans h
theorem Blk.ex1 {w w' : World} {g k : Nat} {xs : List Int} (h : Blk w g xs) (he : Ex1 k w w') (hne : g ≠ k) : Blk w' g xs := (he.block g h.lt (by intro e; injection e; omega)).trans h
theorem Blk.set_ {w : World} {g : Nat} {xs : List Int} (h : Blk w g xs) (i : Nat) (x : Int) : Blk (w.setCell ⟨g, i, none⟩ (.int .i64 x)) g (xs.set i x) := by
  unfold Blk iObj at h ⊢
  simp [World.setCell, Array.getElem?_modify, h]
theorem Blk.rd {w : World} {g : Nat} {xs : List Int} (h : Blk w g xs) (hl : xs.length ≤ 1099511627776) : Rd w (some ⟨g, 0, none⟩) xs :=
  ⟨hl, fun j hj => ⟨g, 0, rfl, by
    rw [Nat.zero_add]
    exact (h.cell (List.getElem?_eq_getElem hj)).trans (by rw [List.getElem?_eq_getElem hj]; rfl)⟩⟩
theorem Blk.new (w : World) (xs : List Int) : Blk (w.alloc (iObj xs)) w.heap.size xs := heap_alloc_new w _

/-- A slice in memory of the call's own, from block B on: it reads as xs, and nothing of its block is frozen. -/
def Fr (w : World) (B : Nat) (A : Option Addr) (c : Nat) (xs : List Int) : Prop :=
  Rd w A xs ∧ xs.length ≤ c ∧ ∀ a, A = some a → B ≤ a.block ∧ ∃ cur, w.heap[a.block]? = some (.cells cur 3 (0, 0))
theorem Fr.rd {w : World} {B : Nat} {A : Option Addr} {c : Nat} {xs : List Int} (h : Fr w B A c xs) : Rd w A xs := h.1
theorem Fr.cap {w : World} {B : Nat} {A : Option Addr} {c : Nat} {xs : List Int} (h : Fr w B A c xs) : xs.length ≤ c := h.2.1
theorem Fr.hi {w : World} {B : Nat} {A : Option Addr} {c : Nat} {xs : List Int} (h : Fr w B A c xs) : Hi B A := fun a e => (h.2.2 a e).1
theorem Fr.lo {w : World} {B : Nat} {A : Option Addr} {c : Nat} {xs : List Int} (h : Fr w B A c xs) : Lo A w.heap.size := fun a e => by
  obtain ⟨_, cur, hc⟩ := h.2.2 a e
  exact heap_lt_of hc
theorem Fr.more {w : World} {B B' : Nat} {A : Option Addr} {c : Nat} {xs : List Int} (h : Fr w B A c xs) (hb : B' ≤ B) : Fr w B' A c xs :=
  ⟨h.1, h.2.1, fun a e => ⟨Nat.le_trans hb (h.2.2 a e).1, (h.2.2 a e).2⟩⟩
theorem Fr.ex {w w' : World} {B : Nat} {A : Option Addr} {c : Nat} {xs : List Int} (h : Fr w B A c xs) (he : Ex w w') : Fr w' B A c xs :=
  ⟨h.1.ex he, h.2.1, fun a e => by
    obtain ⟨h1, cur, h2⟩ := h.2.2 a e
    exact ⟨h1, cur, (he.block (heap_lt_of h2)).trans h2⟩⟩
theorem Fr.ex1 {w w' : World} {B : Nat} {A : Option Addr} {c : Nat} {xs : List Int} {g : Nat} (h : Fr w B A c xs) (he : Ex1 g w w') (ho : Off A g) : Fr w' B A c xs :=
  ⟨h.1.ex1 he ho, h.2.1, fun a e => by
    obtain ⟨h1, cur, h2⟩ := h.2.2 a e
    exact ⟨h1, cur, (he.block _ (heap_lt_of h2) (by intro e2; injection e2 with e2; exact ho a e e2)).trans h2⟩⟩
theorem Fr.exo {w w' : World} {B : Nat} {A A' : Option Addr} {c : Nat} {xs : List Int} (h : Fr w B A c xs) (he : ExO (A'.map Addr.block) w w') (ho : Apart A A') : Fr w' B A c xs :=
  ⟨h.1.exo he ho, h.2.1, fun a e => by
    obtain ⟨h1, cur, h2⟩ := h.2.2 a e
    refine ⟨h1, cur, (he.block _ (heap_lt_of h2) (by
      intro e2
      cases hA : A' with
      | none => rw [hA] at e2; cases e2
      | some a' => rw [hA] at e2; injection e2 with e2; exact ho a a' e hA e2)).trans h2⟩⟩
theorem Fr.frozen {w : World} {B g off c : Nat} {xs : List Int} (h : Fr w B (some ⟨g, off, none⟩) c xs) (i : Nat) : w.frozen? ⟨g, i, none⟩ = false := by
  obtain ⟨_, cur, hc⟩ := h.2.2 _ rfl
  simp only at hc
  simp [World.frozen?, hc]
theorem Fr.set_ {w : World} {B g off c : Nat} {xs : List Int} (h : Fr w B (some ⟨g, off, none⟩) c xs) (j : Nat) (x : Int) :
    Fr (w.setCell ⟨g, off + j, none⟩ (.int .i64 x)) B (some ⟨g, off, none⟩) c (xs.set j x) := by
  refine ⟨⟨by rw [List.length_set]; exact h.1.1, fun i hi => ⟨g, off, rfl, ?_⟩⟩, by rw [List.length_set]; exact h.2.1, fun a e => ?_⟩
  · rw [List.length_set] at hi
    have hc := h.1.cell (List.getElem?_eq_getElem hi)
    by_cases e : j = i
    · subst e
      have hc' : w.cell? ⟨g, off + j, none⟩ = some (.int .i64 xs[j]) := hc
      rw [World.cell?_setCell_same _ _ _ hc', List.getElem?_set_self hi]; rfl
    · rw [World.cell?_setCell_other _ _ _ _ (by intro e2; injection e2; omega), hc, List.getElem?_set_ne e, List.getElem?_eq_getElem hi]; rfl
  · injection e with e
    subst e
    obtain ⟨h1, cur, h2⟩ := h.2.2 _ rfl
    refine ⟨h1, cur.setIfInBounds (off + j) (.int .i64 x), ?_⟩
    simp only at h2 ⊢
    simp [World.setCell, Array.getElem?_modify, h2]
theorem Fr.nil (w : World) (B c : Nat) : Fr w B none c [] := ⟨Rd.nil w _, by simp, fun a e => by cases e⟩
theorem Blk.fr {w : World} {g B c : Nat} {xs : List Int} (h : Blk w g xs) (hl : xs.length ≤ 1099511627776) (hB : B ≤ g) (hc : xs.length ≤ c) : Fr w B (some ⟨g, 0, none⟩) c xs :=
  ⟨h.rd hl, hc, fun a e => by injection e with e; subst e; exact ⟨hB, _, h⟩⟩

/-- make([]int, n) -/
theorem madeInts (n : Nat) : (madeCells (Value.int .i64 0).cells (n * 1)) = ((List.replicate n (0 : Int)).map (Value.int .i64)).toArray := by
  apply Array.toList_inj.1
  rw [Nat.mul_one]
  show (madeCells #[Value.int .i64 0] n).toList = _
  rw [toList_madeCells_one]
  simp
theorem intInfo : (Tryz.prog.info? 3).map (fun i => (i.zero, i.size, i.bytes)) = some (some (.int .i64 0), 1, 8) := by kernel_rfl
theorem run_make_ints (n : Nat) (hn : n ≤ 1099511627776) (w : World) :
    (Instr.makeSlice 23 (.int .i64 (n : Int)) (.int .i64 (n : Int))).run Tryz.prog w = .ok (.slice (some ⟨w.heap.size, 0, none⟩) n n) (w.alloc (iObj (List.replicate n 0))) := by
  obtain ⟨i, hi, hz, hs, hb⟩ := info_parts intInfo
  have hr := run_make (P := Tryz.prog) w 23 3 i (.int .i64 0) Tryz.underlying23 hi hz .i64 .i64 n n (by omega) (by omega) (by rw [hb]; omega) (by omega)
  simp only [Int.toNat_natCast, hs] at hr
  rw [madeInts] at hr
  exact hr
/-- Block g begins with the ints xs; none of it is frozen. -/
def Own (w : World) (g : Nat) (xs : List Int) : Prop :=
  ∃ cur : Array Value, w.heap[g]? = some (.cells cur 3 (0, 0)) ∧ ∀ (j : Nat) (x : Int), xs[j]? = some x → cur[j]? = some (.int .i64 x)
theorem Blk.own {w : World} {g : Nat} {xs : List Int} (h : Blk w g xs) : Own w g xs := ⟨_, h, fun j x hj => by simp [hj]⟩
theorem Own.lt {w : World} {g : Nat} {xs : List Int} (h : Own w g xs) : g < w.heap.size := by
  obtain ⟨_, hc, _⟩ := h; exact heap_lt_of hc
theorem Own.cell {w : World} {g : Nat} {xs : List Int} (h : Own w g xs) {i : Nat} {x : Int} (hi : xs[i]? = some x) : w.cell? ⟨g, i, none⟩ = some (.int .i64 x) := by
  obtain ⟨cur, hc, hx⟩ := h
  simp [World.cell?, hc, hx i x hi]
theorem Own.frozen {w : World} {g : Nat} {xs : List Int} (h : Own w g xs) (i : Nat) : w.frozen? ⟨g, i, none⟩ = false := by
  obtain ⟨cur, hc, _⟩ := h
  simp [World.frozen?, hc]
theorem Own.drew {w : World} {g : Nat} {xs : List Int} (h : Own w g xs) : Own w.drew g xs := h
theorem Own.drewN {w : World} {g : Nat} {xs : List Int} (h : Own w g xs) (n : Nat) : Own (w.drewN n) g xs := h
theorem Own.ex {w w' : World} {g : Nat} {xs : List Int} (h : Own w g xs) (he : Ex w w') : Own w' g xs := by
  have hl := h.lt
  obtain ⟨cur, hc, hx⟩ := h
  exact ⟨cur, (he.block hl).trans hc, hx⟩
theorem Own.ex1 {w w' : World} {g k : Nat} {xs : List Int} (h : Own w g xs) (he : Ex1 k w w') (hne : g ≠ k) : Own w' g xs := by
  have hl := h.lt
  obtain ⟨cur, hc, hx⟩ := h
  exact ⟨cur, (he.block g hl (by intro e; injection e; omega)).trans hc, hx⟩
theorem Own.set_ {w : World} {g : Nat} {xs : List Int} (h : Own w g xs) (i : Nat) (x : Int) : Own (w.setCell ⟨g, i, none⟩ (.int .i64 x)) g (xs.set i x) := by
  obtain ⟨cur, hc, hx⟩ := h
  refine ⟨cur.setIfInBounds i (.int .i64 x), by simp [World.setCell, Array.getElem?_modify, hc], fun j y hj => ?_⟩
  rw [List.getElem?_set] at hj
  rw [Array.getElem?_setIfInBounds]
  split at hj
  · rename_i e
    subst e
    split at hj
    · rename_i hl
      injection hj with hj
      subst hj
      have hi := hx i _ (List.getElem?_eq_getElem hl)
      have hlt : i < cur.size := by
        rcases Nat.lt_or_ge i cur.size with h1 | h1
        · exact h1
        · rw [Array.getElem?_eq_none h1] at hi; cases hi
      simp [hlt]
    · cases hj
  · rename_i e
    rw [if_neg e]
    exact hx j y hj
theorem Own.rd {w : World} {g : Nat} {xs : List Int} (h : Own w g xs) (hl : xs.length ≤ 1099511627776) : Rd w (some ⟨g, 0, none⟩) xs :=
  ⟨hl, fun j hj => ⟨g, 0, rfl, by
    rw [Nat.zero_add]
    exact (h.cell (List.getElem?_eq_getElem hj)).trans (by rw [List.getElem?_eq_getElem hj]; rfl)⟩⟩
theorem Own.fr {w : World} {g B c : Nat} {xs : List Int} (h : Own w g xs) (hl : xs.length ≤ 1099511627776) (hB : B ≤ g) (hc : xs.length ≤ c) : Fr w B (some ⟨g, 0, none⟩) c xs :=
  ⟨h.rd hl, hc, fun a e => by injection e with e; subst e; obtain ⟨cur, hh, _⟩ := h; exact ⟨hB, cur, hh⟩⟩
theorem Own.new (w : World) (xs : List Int) : Own (w.alloc (iObj xs)) w.heap.size xs := (Blk.new w xs).own
theorem Fr.take {w : World} {B c c' : Nat} {A : Option Addr} {xs : List Int} (h : Fr w B A c xs) (k : Nat) (hc : (xs.take k).length ≤ c') : Fr w B A c' (xs.take k) :=
  ⟨⟨Nat.le_trans (List.length_take_le' _ _) h.1.1, fun j hj => by
    obtain ⟨g, off, hA, hcell⟩ := h.1.2 j (Nat.lt_of_lt_of_le hj (List.length_take_le' _ _))
    refine ⟨g, off, hA, ?_⟩
    have hjk : j < k := by rw [List.length_take] at hj; omega
    rw [hcell, List.getElem?_take, if_pos hjk]⟩, hc, h.2.2⟩
theorem Rd.take {w : World} {A : Option Addr} {xs : List Int} (h : Rd w A xs) (k : Nat) : Rd w A (xs.take k) :=
  ⟨Nat.le_trans (List.length_take_le' _ _) h.1, fun j hj => by
    obtain ⟨g, off, hA, hcell⟩ := h.2 j (Nat.lt_of_lt_of_le hj (List.length_take_le' _ _))
    refine ⟨g, off, hA, ?_⟩
    have hjk : j < k := by rw [List.length_take] at hj; omega
    rw [hcell, List.getElem?_take, if_pos hjk]⟩

/-- A list of ints that the call makes by append: nil, or a row of its own. -/
def AL (w : World) (B : Nat) (v : Value) (xs : List Int) : Prop := w.ownsRow B 3 1 v xs.length (xs.map (Value.int .i64))
theorem AL.nil (w : World) (B : Nat) : AL w B (.slice none 0 0) [] := World.ownsRow_nil w B 3 1
theorem AL.drew {w : World} {B : Nat} {v : Value} {xs : List Int} (h : AL w B v xs) : AL w.drew B v xs := h
theorem AL.drewN {w : World} {B : Nat} {v : Value} {xs : List Int} (h : AL w B v xs) (n : Nat) : AL (w.drewN n) B v xs := h
theorem AL.lt {w : World} {B : Nat} {v : Value} {xs : List Int} (h : AL w B v xs) : ∀ k, v.ownBlock = some k → B ≤ k ∧ k < w.heap.size := World.ownsRow.lt h
theorem AL.ex {w w' : World} {B : Nat} {v : Value} {xs : List Int} (h : AL w B v xs) (he : Ex w w') : AL w' B v xs := by
  obtain ⟨h1, h2⟩ := h
  refine ⟨h1, ?_⟩
  rcases h2 with h2 | ⟨g, cap, cur, hv, hB, hh, r⟩
  · exact .inl h2
  · exact .inr ⟨g, cap, cur, hv, hB, (he.block (heap_lt_of hh)).trans hh, r⟩
theorem AL.form {w : World} {B : Nat} {v : Value} {xs : List Int} (h : AL w B v xs) (hl : xs.length ≤ 1099511627776) : ∃ A c, v = .slice A xs.length c ∧ Fr w B A c xs := by
  obtain ⟨_, h2⟩ := h
  rcases h2 with ⟨hv, hn⟩ | ⟨g, cap, cur, hv, hB, hh, hnc, _, _, ht⟩
  · have : xs = [] := List.eq_nil_of_length_eq_zero hn
    subst this
    exact ⟨none, 0, hv, Fr.nil _ _ _⟩
  · refine ⟨_, cap, hv, Own.fr (g := g) ⟨cur, hh, fun j x hj => ?_⟩ hl hB hnc⟩
    have : (cur.toList.take (xs.length * 1))[j]? = some (.int .i64 x) := by rw [ht]; simp [hj]
    rw [List.getElem?_take] at this
    split at this
    · simpa using this
    · cases this
theorem AL.own {w : World} {B g o n c : Nat} {xs : List Int} (h : AL w B (.slice (some ⟨g, o, none⟩) n c) xs) : o = 0 ∧ n = xs.length ∧ n ≤ c ∧ B ≤ g ∧ Own w g xs := by
  obtain ⟨_, h2⟩ := h
  rcases h2 with ⟨hv, _⟩ | ⟨g', cap, cur, hv, hB, hh, hnc, _, _, ht⟩
  · cases hv
  · injection hv with e1 e2 e3
    injection e1 with e1
    injection e1 with e4 e5 _
    subst e2 e3 e4 e5
    refine ⟨rfl, rfl, hnc, hB, cur, hh, fun j x hj => ?_⟩
    have : (cur.toList.take (xs.length * 1))[j]? = some (.int .i64 x) := by rw [ht]; simp [hj]
    rw [List.getElem?_take] at this
    split at this
    · simpa using this
    · cases this
theorem AL.empty (w : World) {B : Nat} (hB : B ≤ w.heap.size) : AL (w.alloc (iObj [])) B (.slice (some ⟨w.heap.size, 0, none⟩) 0 0) [] :=
  ⟨rfl, .inr ⟨w.heap.size, 0, #[], rfl, hB, heap_alloc_new w _, Nat.le_refl _, Nat.zero_le _, rfl, rfl⟩⟩
/-- An append whose run is known. -/
theorem wpList_append_run {P : Program} {ops : Array Oper} {rest : List Oper} {o : Oper} {a : Act} {w : World} {Q : Exit → Act → World → Prop} (hgd : o.guard = none) (s x : Operand) (t : TypeId)
    (ho : o.op = .call { callee := .builtin .append, args := #[s, x], argTypes := #[t, t] }) {vs vx v' : Value} {w' : World} (hs : a.eval s = vs) (hx : a.eval x = vx)
    (hrun : (Builtin.append_ #[t, t] o.type #[vs, vx]).run P w = .ok v' w') (h : wpList P ops Q rest (a.put o.dst v') w') : wpList P ops Q (o :: rest) a w :=
  wpList_plain hgd fun K hK => by
    unfold Oper.wp execOp
    simp only [ho, resolve, invoke, builtin, Sem.run_bind, Sem.run_pure, Result.andThen_ok, List.map_toArray, List.map_cons, List.map_nil, hs, hx, hrun]
    exact hK _ _ h
set_option maxRecDepth 100000 in
theorem run_append_ints (t ty : TypeId) (ht : Tryz.prog.underlying t = some (.slice 3)) (w : World) (B : Nat) (v : Value) (ys : List Int) (hv : AL w B v ys) (hB : B ≤ w.heap.size) (A : Option Addr) (c : Nat) (xs : List Int) (h : Rd w A xs)
    (hl : ys.length + xs.length ≤ 1099511627776) :
    ∃ v' w', (Builtin.append_ #[t, t] ty #[v, .slice A xs.length c]).run Tryz.prog w = .ok v' w' ∧ AL w' B v' (ys ++ xs) ∧ ExO v.ownBlock w w' ∧ (v'.ownBlock = v.ownBlock ∨ v'.ownBlock = some w.heap.size) := by
  obtain ⟨i, hi, hz, hs, hb⟩ := info_parts intInfo
  rcases A with _ | ad
  · have hx : xs = [] := by
      cases xs with
      | nil => rfl
      | cons x xs => obtain ⟨g, off, hA, _⟩ := h.2 0 (by simp); cases hA
    subst hx
    refine ⟨v, w, ?_, by simpa using hv, ExO.refl _ _, .inl rfl⟩
    rcases hv.2 with ⟨rfl, _⟩ | ⟨g, cap, cur, rfl, _, _, hnc, _⟩
    · simp [Builtin.append_, run_underlying ht, sizeOf, typeInfo, hi, Builtin.lenOf, Builtin.firstCells]
    · simp [Builtin.append_, run_underlying ht, sizeOf, typeInfo, hi, Builtin.lenOf, Builtin.firstCells, hnc, storeCells]
  · have hc : ∀ (j : Nat) (u : Value), (xs.map (Value.int .i64))[j]? = some u → w.cell? (ad.add j) = some u := by
      intro j u hu
      rw [List.getElem?_map] at hu
      cases hj : xs[j]? with
      | none => rw [hj] at hu; cases hu
      | some x =>
        rw [hj] at hu
        injection hu with hu
        subst hu
        have hlt : j < xs.length := by
          rcases Nat.lt_or_ge j xs.length with h1 | h1
          · exact h1
          · rw [List.getElem?_eq_none h1] at hj; cases hj
        obtain ⟨g, off, hA, hcell⟩ := h.2 j hlt
        injection hA with hA
        subst hA
        have e : (⟨g, off, none⟩ : Addr).add j = ⟨g, off + j, none⟩ := by unfold Addr.add; split <;> simp_all
        rw [e, hcell, hj]; rfl
    obtain ⟨v', w', hrun, h2, h3, _, h5⟩ := run_append_own_at (P := Tryz.prog) w B t ty 3 i (.int .i64 0) 1 8 ht hi hz hs hb rfl (by omega) v ys.length _ hv ad xs.length c (xs.map (Value.int .i64)) (by simp) hc (by
      intro u hu
      obtain ⟨x, _, rfl⟩ := List.mem_map.1 hu
      rfl) (by unfold maxLen; omega) (by omega) hB
    refine ⟨v', w', hrun, ?_, h3, h5⟩
    unfold AL
    rw [List.length_append, List.map_append]
    exact h2
/-- Block g is just the cells cs. -/
def VB (w : World) (g : Nat) (t : TypeId) (cs : Array Value) : Prop := w.heap[g]? = some (.cells cs t (0, 0))
theorem VB.cell {w : World} {g : Nat} {t : TypeId} {cs : Array Value} (h : VB w g t cs) (i : Nat) {v : Value} (hv : cs[i]? = some v) : w.cell? ⟨g, i, none⟩ = some v := by
  unfold VB at h; simp [World.cell?, h, hv]
theorem VB.frozen {w : World} {g : Nat} {t : TypeId} {cs : Array Value} (h : VB w g t cs) (i : Nat) : w.frozen? ⟨g, i, none⟩ = false := by
  unfold VB at h; simp [World.frozen?, h]
theorem VB.lt {w : World} {g : Nat} {t : TypeId} {cs : Array Value} (h : VB w g t cs) : g < w.heap.size := heap_lt_of h
theorem VB.ex {w w' : World} {g : Nat} {t : TypeId} {cs : Array Value} (h : VB w g t cs) (he : Ex w w') : VB w' g t cs := (he.block h.lt).trans h
theorem VB.ex1 {w w' : World} {g k : Nat} {t : TypeId} {cs : Array Value} (h : VB w g t cs) (he : Ex1 k w w') (hne : g ≠ k) : VB w' g t cs := (he.block g h.lt (by intro e; injection e; omega)).trans h
theorem VB.set_ {w : World} {g : Nat} {t : TypeId} {cs : Array Value} (h : VB w g t cs) (i : Nat) (v : Value) : VB (w.setCell ⟨g, i, none⟩ v) g t (cs.setIfInBounds i v) := by
  unfold VB at h ⊢
  simp [World.setCell, Array.getElem?_modify, h]
theorem VB.new (w : World) (t : TypeId) (cs : Array Value) : VB (w.alloc (.cells cs t)) w.heap.size t cs := heap_alloc_new w _
theorem cell_ex {w w' : World} (h : Ex w w') {g o : Nat} {v : Value} (hc : w.cell? ⟨g, o, none⟩ = some v) : w'.cell? ⟨g, o, none⟩ = some v :=
  (World.cell?_of_block (w := w) (a := ⟨g, o, none⟩) (h.block (cell_lt (p := ⟨g, o, none⟩) hc))).trans hc
theorem VB.drew {w : World} {g : Nat} {t : TypeId} {cs : Array Value} (h : VB w g t cs) : VB w.drew g t cs := h
theorem AL.e1 {w w' : World} {B g : Nat} {v : Value} {xs : List Int} (h : AL w B v xs) (he : Ex1 g w w') (hg : g < B) : AL w' B v xs := by
  obtain ⟨h1, h2⟩ := h
  refine ⟨h1, ?_⟩
  rcases h2 with h2 | ⟨b, cap, cur, hv, hB, hh, r⟩
  · exact .inl h2
  · exact .inr ⟨b, cap, cur, hv, hB, (he.block b (heap_lt_of hh) (by intro e; injection e; omega)).trans hh, r⟩
/-- An append whose run is known, as a step of a region that draws. -/
theorem step_append_run {P : Program} {ops : Array Oper} {o : Oper} {a : Act} {w : World} {K : Act → World → Prop} {Q : Exit → Act → World → Prop} {E : Prop}
    (hg : o.guard = none) (s x : Operand) (t : TypeId) (ho : o.op = Op.call { callee := Callee.builtin Builtin.append, args := #[s, x], argTypes := #[t, t] })
    {vs vx v' : Value} {w' : World} (hs : a.eval s = vs) (hx : a.eval x = vx) (hrun : (Builtin.append_ #[t, t] o.type #[vs, vx]).run P w = .ok v' w') (hK : K (a.put o.dst v') w') :
    if Region.wanted o (yielded ops a.tmps) = true then Oper.wp P o a w K Q else E := by
  have hw : Region.wanted o (yielded ops a.tmps) = true := by simp [Region.wanted, hg]
  rw [if_pos hw]
  unfold Oper.wp execOp
  simp only [ho, resolve, invoke, builtin, Sem.run_bind, Sem.run_pure, Result.andThen_ok, List.map_toArray, List.map_cons, List.map_nil, hs, hx, hrun]
  exact hK
end Go.Proofs.YtphdcgimibnajaaGreat
