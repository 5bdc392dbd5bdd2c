/- Owned memory as a set of blocks: what turns only such blocks; ints owned in such blocks. Plain lemmas of mine. -/
import Derived.Test.YtpeogfapnofeoaaGreatDoorU
namespace Go.Proofs.YtpeogfapnofeoaaGreatDoor
set_option maxRecDepth 100000
open Go Go.RowKit
/-- Of the old memory at most the blocks of S have turned. -/
structure ExS (S : Nat → Prop) (w w' : World) : Prop where
  os : w'.os = w.os
  tape : w'.tape = w.tape
  output : w'.output = w.output
  size : w.heap.size ≤ w'.heap.size
  block : ∀ k, k < w.heap.size → ¬ S k → w'.heap[k]? = w.heap[k]?
theorem ExS.refl (S : Nat → Prop) (w : World) : ExS S w w := ⟨rfl, rfl, rfl, Nat.le_refl _, fun _ _ _ => rfl⟩
/-- One behind the other; the second may turn what the first has made. -/
theorem ExS.trans {S T : Nat → Prop} {u v w : World} (h : ExS S u v) (k : ExS T v w) (hT : ∀ i, i < u.heap.size → T i → S i) : ExS S u w :=
  ⟨k.os.trans h.os, k.tape.trans h.tape, k.output.trans h.output, Nat.le_trans h.size k.size, fun i hi hn => (k.block i (Nat.lt_of_lt_of_le hi h.size) (fun ht => hn (hT i hi ht))).trans (h.block i hi hn)⟩
theorem ExS.of_ex {S : Nat → Prop} {v w : World} (h : Ex v w) : ExS S v w := ⟨h.os, h.tape, h.output, h.size, fun _ hi _ => h.block hi⟩
theorem ExS.widen {S T : Nat → Prop} {v w : World} (h : ExS S v w) (hT : ∀ i, i < v.heap.size → S i → T i) : ExS T v w := ⟨h.os, h.tape, h.output, h.size, fun k hk ho => h.block k hk fun hs => ho (hT k hk hs)⟩
theorem ExS.of_ex1 {S : Nat → Prop} {g : Nat} {v w : World} (h : Ex1 g v w) (hg : S g) : ExS S v w := ⟨h.os, h.tape, h.output, h.size, fun k hk hn => h.block k hk (by intro e; injection e with e; subst e; exact hn hg)⟩
theorem ExS.of_exo {S : Nat → Prop} {o : Option Nat} {v w : World} (h : ExO o v w) (hg : ∀ g, o = some g → S g) : ExS S v w := ⟨h.os, h.tape, h.output, h.size, fun k hk hn => h.block k hk (fun e => hn (hg k e.symm))⟩
theorem ExS.exi {S : Nat → Prop} {a b : Nat} {v w : World} (h : ExS S v w) (hS : ∀ k, S k → a ≤ k ∧ k < b) : ExI a b v w := ⟨h.os, h.tape, h.output, h.size, fun k hk hn => h.block k hk fun hs => by have := hS k hs; omega⟩
theorem ExS.of_exi {a b : Nat} {v w : World} (h : ExI a b v w) : ExS (fun k => a ≤ k ∧ k < b) v w := ⟨h.os, h.tape, h.output, h.size, fun k hk hn => h.block k hk (by omega)⟩
theorem Ex.sx {b v w : World} {S : Nat → Prop} (h : Ex b v) (k : ExS S v w) (hS : ∀ i, S i → b.heap.size ≤ i) : Ex b w :=
  ⟨k.os.trans h.os, k.tape.trans h.tape, k.output.trans h.output, Nat.le_trans h.size k.size, fun i hi => (k.block i (Nat.lt_of_lt_of_le hi h.size) (fun hs => by have := hS i hs; omega)).trans (h.block hi)⟩
/-- Ints owned in the blocks of S. -/
def XI (w : World) (S : Nat → Prop) (v : Value) (xs : List Int) : Prop := ∃ A c, v = .slice A xs.length c ∧ Fr w 0 A c xs ∧ ∀ a, A = some a → S a.block
theorem XI.rd {w : World} {S : Nat → Prop} {v : Value} {xs : List Int} (h : XI w S v xs) : RI w v xs := by
  obtain ⟨A, c, e, f, _⟩ := h
  exact ⟨A, c, e, f.rd⟩
theorem XI.keep {w w' : World} {S : Nat → Prop} {v : Value} {xs : List Int} (h : XI w S v xs) (hk : ∀ k, S k → k < w.heap.size → w'.heap[k]? = w.heap[k]?) : XI w' S v xs := by
  obtain ⟨A, c, e, f, hs⟩ := h
  have hk' : ∀ ad : Addr, A = some ad → ad.block < w.heap.size → w'.heap[ad.block]? = w.heap[ad.block]? := fun ad e hl => hk _ (hs ad e) hl
  exact ⟨A, c, e, ⟨f.rd.keep hk', f.cap, fun ad e => by
    obtain ⟨h1, cur, h2⟩ := f.2.2 ad e
    exact ⟨h1, cur, (hk' ad e (heap_lt_of h2)).trans h2⟩⟩, hs⟩
theorem XI.mono {w : World} {S T : Nat → Prop} {v : Value} {xs : List Int} (h : XI w S v xs) (hT : ∀ k, k < w.heap.size → S k → T k) : XI w T v xs := by
  obtain ⟨A, c, e, f, hs⟩ := h
  exact ⟨A, c, e, f, fun a ha => by
    obtain ⟨_, cur, h2⟩ := f.2.2 a ha
    exact hT _ (heap_lt_of h2) (hs a ha)⟩
theorem OI.xi {w : World} {a b : Nat} {v : Value} {xs : List Int} (h : OI w a b v xs) : XI w (fun k => a ≤ k ∧ k < b) v xs := by
  obtain ⟨A, c, e, f⟩ := h
  exact ⟨A, c, e, f.fr.more (Nat.zero_le _), fun ad e => ⟨f.fr.hi ad e, f.lo ad e⟩⟩
end Go.Proofs.YtpeogfapnofeoaaGreatDoor
