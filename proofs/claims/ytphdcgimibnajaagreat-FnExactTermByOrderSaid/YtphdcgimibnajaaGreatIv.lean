/- Intervals of blocks: what a mark turns, and where owned slices lie. Plain lemmas of mine. -/
import Derived.Test.YtphdcgimibnajaaGreatLaw
namespace Go.Proofs.YtphdcgimibnajaaGreat
set_option maxRecDepth 100000
open Go Go.RowKit
/-- Of the old memory at most the blocks from a on and below b have turned. -/
structure ExI (a b : Nat) (w w' : World) : Prop where
  os : w'.os = w.os
  tape : w'.tape = w.tape
  output : w'.output = w.output
  size : w.heap.size ≤ w'.heap.size
  block : ∀ k, k < w.heap.size → (k < a ∨ b ≤ k) → w'.heap[k]? = w.heap[k]?
theorem ExI.refl (a b : Nat) (w : World) : ExI a b w w := ⟨rfl, rfl, rfl, Nat.le_refl _, fun _ _ _ => rfl⟩
theorem ExI.trans {a b : Nat} {u v w : World} (h : ExI a b u v) (k : ExI a b v w) : ExI a b u w :=
  ⟨k.os.trans h.os, k.tape.trans h.tape, k.output.trans h.output, Nat.le_trans h.size k.size, fun i hi hn => (k.block i (Nat.lt_of_lt_of_le hi h.size) hn).trans (h.block i hi hn)⟩
theorem ExI.of_ex {a b : Nat} {v w : World} (h : Ex v w) : ExI a b v w := ⟨h.os, h.tape, h.output, h.size, fun _ hi _ => h.block hi⟩
theorem ExI.widen {a b a' b' : Nat} {v w : World} (h : ExI a b v w) (ha : a' ≤ a) (hb : b ≤ b') : ExI a' b' v w := ⟨h.os, h.tape, h.output, h.size, fun k hk ho => h.block k hk (by omega)⟩
theorem ExI.of_exo {A : Option Addr} {a b : Nat} {v w : World} (h : ExO (A.map Addr.block) v w) (hi : Hi a A) (hl : Lo A b) : ExI a b v w :=
  ⟨h.os, h.tape, h.output, h.size, fun k hk ho => h.block k hk (by
    intro e
    cases hA : A with
    | none => rw [hA] at e; cases e
    | some ad =>
      rw [hA] at e; injection e with e
      have := hi ad hA
      have := hl ad hA
      omega)⟩
theorem Ex.iv {b v w : World} {lo hi : Nat} (h : Ex b v) (k : ExI lo hi v w) (hb : b.heap.size ≤ lo) : Ex b w :=
  ⟨k.os.trans h.os, k.tape.trans h.tape, k.output.trans h.output, Nat.le_trans h.size k.size, fun i hi => (k.block i (Nat.lt_of_lt_of_le hi h.size) (by omega)).trans (h.block hi)⟩
/-- An owned slice in the blocks from a on and below b. -/
structure FI (w : World) (a b : Nat) (A : Option Addr) (c : Nat) (xs : List Int) : Prop where
  fr : Fr w a A c xs
  lo : Lo A b
theorem FI.rd {w : World} {a b : Nat} {A : Option Addr} {c : Nat} {xs : List Int} (h : FI w a b A c xs) : Rd w A xs := h.fr.rd
theorem FI.ex {w w' : World} {a b : Nat} {A : Option Addr} {c : Nat} {xs : List Int} (h : FI w a b A c xs) (he : Ex w w') : FI w' a b A c xs := ⟨h.fr.ex he, h.lo⟩
theorem FI.iv {w w' : World} {a b a' b' : Nat} {A : Option Addr} {c : Nat} {xs : List Int} (h : FI w a b A c xs) (k : ExI a' b' w w') (hd : b ≤ a' ∨ b' ≤ a) : FI w' a b A c xs :=
  have hk : ∀ ad : Addr, A = some ad → ad.block < w.heap.size → w'.heap[ad.block]? = w.heap[ad.block]? := fun ad e hl => k.block _ hl (by
    have := h.lo ad e
    have := h.fr.hi ad e
    omega)
  ⟨⟨h.fr.rd.keep hk, h.fr.cap, fun ad e => by
    obtain ⟨h1, cur, h2⟩ := h.fr.2.2 ad e
    exact ⟨h1, cur, (hk ad e (heap_lt_of h2)).trans h2⟩⟩, h.lo⟩
theorem FI.more {w : World} {a b a' b' : Nat} {A : Option Addr} {c : Nat} {xs : List Int} (h : FI w a b A c xs) (ha : a' ≤ a) (hb : b ≤ b') : FI w a' b' A c xs := ⟨h.fr.more ha, h.lo.mono hb⟩
theorem Fr.fi {w : World} {a : Nat} {A : Option Addr} {c : Nat} {xs : List Int} (h : Fr w a A c xs) : FI w a w.heap.size A c xs := ⟨h, h.lo⟩
theorem VB.iv {w w' : World} {g a b : Nat} {t : TypeId} {cs : Array Value} (h : VB w g t cs) (k : ExI a b w w') (hd : g < a ∨ b ≤ g) : VB w' g t cs := (k.block g h.lt hd).trans h
theorem FI.exo {w w' : World} {a b : Nat} {A A' : Option Addr} {c : Nat} {xs : List Int} (h : FI w a b A c xs) (he : ExO (A'.map Addr.block) w w') (ho : Apart A A') : FI w' a b A c xs := ⟨h.fr.exo he ho, h.lo⟩
theorem markIntS_i (a b : Nat) (A : Option Addr) (c : Nat) (xs : List Int) (k : Int) (w : World) (h : FI w a b A c xs) (hk0 : 0 ≤ k) (hk : k ≤ 4611686018427387904) :
    Calls Tryz.prog 18 #[.slice A xs.length c, .int .i64 k] w fun e w' => e = .returned (.int .i64 (k + (xs.length : Int))) ∧ FI w' a b A c (mk k xs.length) ∧ ExI a b w w' :=
  (markIntS_c a A c xs k w h.fr hk0 hk).mono fun _ _ ⟨h1, h2, h3⟩ => ⟨h1, ⟨h2, h.lo⟩, ExI.of_exo h3 h.fr.hi h.lo⟩
end Go.Proofs.YtphdcgimibnajaaGreat
