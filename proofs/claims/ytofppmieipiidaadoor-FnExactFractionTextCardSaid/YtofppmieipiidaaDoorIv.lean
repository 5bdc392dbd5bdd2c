/- Intervals of blocks: what a mark turns, and where owned slices lie. Plain lemmas of mine. -/
import Derived.Test.YtofppmieipiidaaDoorLaw
namespace Go.Proofs.YtofppmieipiidaaDoor
set_option maxRecDepth 100000
open Go Go.RowKit
/-- Of the old memory at most the blocks from a on and below b have turned. -/
structure ExI (a b : Nat) (w w' : World) : Prop where
  os : w'.os = w.os
  tape : w'.tape = w.tape
  output : w'.output = w.output
  size : w.heap.size ≤ w'.heap.size
  block : ∀ k, k < w.heap.size → (k < a ∨ b ≤ k) → w'.heap[k]? = w.heap[k]?
theorem ExI.refl (a b : Nat) (w : World) : ExI a b w w := ⟨rfl, rfl, rfl, Nat.le_refl _, fun _ _ _ => rfl⟩
theorem ExI.trans {a b : Nat} {u v w : World} (h : ExI a b u v) (k : ExI a b v w) : ExI a b u w :=
  ⟨k.os.trans h.os, k.tape.trans h.tape, k.output.trans h.output, Nat.le_trans h.size k.size, fun i hi hn => (k.block i (Nat.lt_of_lt_of_le hi h.size) hn).trans (h.block i hi hn)⟩
/-- An owned slice in the blocks from a on and below b. -/
structure FI (w : World) (a b : Nat) (A : Option Addr) (c : Nat) (xs : List Int) : Prop where
  fr : Fr w a A c xs
  lo : Lo A b
theorem FI.rd {w : World} {a b : Nat} {A : Option Addr} {c : Nat} {xs : List Int} (h : FI w a b A c xs) : Rd w A xs := h.fr.rd
theorem FI.ex {w w' : World} {a b : Nat} {A : Option Addr} {c : Nat} {xs : List Int} (h : FI w a b A c xs) (he : Ex w w') : FI w' a b A c xs := ⟨h.fr.ex he, h.lo⟩
theorem FI.more {w : World} {a b a' b' : Nat} {A : Option Addr} {c : Nat} {xs : List Int} (h : FI w a b A c xs) (ha : a' ≤ a) (hb : b ≤ b') : FI w a' b' A c xs := ⟨h.fr.more ha, h.lo.mono hb⟩
theorem Fr.fi {w : World} {a : Nat} {A : Option Addr} {c : Nat} {xs : List Int} (h : Fr w a A c xs) : FI w a w.heap.size A c xs := ⟨h, h.lo⟩
theorem FI.exo {w w' : World} {a b : Nat} {A A' : Option Addr} {c : Nat} {xs : List Int} (h : FI w a b A c xs) (he : ExO (A'.map Addr.block) w w') (ho : Apart A A') : FI w' a b A c xs := ⟨h.fr.exo he ho, h.lo⟩
end Go.Proofs.YtofppmieipiidaaDoor
