/- Rows of fractions that a call has collected, as owned and as read; the rows of a relation's matrix: the plain answer. -/
import Derived.Test.YtpeogfapnofeoaaGreatDoorPkK
import Derived.Test.YtpeogfapnofeoaaGreatDoorRtH
import Derived.Test.YtpeogfapnofeoaaGreatDoorPkF
namespace Go.Proofs.YtpeogfapnofeoaaGreatDoor
set_option maxRecDepth 100000
open Go Go.RowKit
theorem GE.len0 {α : Type} {E : EL α} {t : TypeId} {w : World} {B H : Nat} {xs : List α} (h : GE E t w B H (.slice none 0 0) xs) : xs = [] := by
  obtain ⟨_, us, al, bl, hl, ho, _⟩ := h
  rcases ho.2 with ⟨e, hn⟩ | ⟨g, cap, cur, e, _⟩
  · exact List.eq_nil_of_length_eq_zero hn
  · cases e
theorem GE.ox {α : Type} {E : EL α} {E' : EX α} {t : TypeId} {w : World} {B H : Nat} {v : Value} {xs : List α} (h : GE E t w B H v xs) (hl : xs.length ≤ 1099511627776) (hk : E'.k = E.k) (hE : ∀ {a b vs x}, E.O w a b vs x → E'.O w (fun k => a ≤ k ∧ k < b) vs x) :
    ∃ A c, v = .slice A xs.length c ∧ xs.length ≤ c ∧ OX E' t w (fun k => B ≤ k ∧ k < H) A xs := by
  by_cases hv : v = .slice none 0 0
  · subst hv
    obtain rfl := h.len0
    exact ⟨none, 0, rfl, Nat.le_refl _, OX.nil _ _ _ _ _⟩
  · obtain ⟨g, c, rfl, hgc, _⟩ := h.form hv
    obtain ⟨cur, al, bl, _, hB, hH, hh, h1, h2⟩ := h.at_
    refine ⟨_, c, rfl, hgc, hl, fun j k => al j ≤ k ∧ k < bl j, fun j x hj => ?_, fun i j k hi hj hne a b => by have := h2 i j hi hj hne; omega⟩
    obtain ⟨u, q1, q2, q3, q4, q5⟩ := h1 j x hj
    exact ⟨g, 0, u, cur, rfl, ⟨hB, hH⟩, hh, fun i y hy => by rw [hk, Nat.zero_add]; exact q1 i y hy, hE q2, fun k hk => by omega, by omega⟩
theorem GE.k1 {α : Type} {E : EL α} {t : TypeId} {w w' : World} {B H k : Nat} {v : Value} {xs : List α} (h : GE E t w B H v xs) (he : Ex1 k w w') (hk : k < B) : GE E t w' B H v xs := h.iv (ExI.of_ex1 he) (by omega)
theorem elf_exf {w : World} {a b : Nat} {vs : List Value} {x : Fra} (h : ELF.O w a b vs x) : EXF.O w (fun k => a ≤ k ∧ k < b) vs x := by
  obtain ⟨v0, v1, e, h⟩ := h
  exact ⟨v0, v1, e, h.xf⟩
theorem rowf_exr {w : World} {a b : Nat} {v : Value} {x : List Fra} (h : GE ELF 58 w a b v x) (hl : x.length ≤ 1099511627776) : EXR.O w (fun k => a ≤ k ∧ k < b) [v] x := by
  obtain ⟨A, c, e, hc, o⟩ := h.ox (E' := EXF) hl rfl elf_exf
  exact ⟨A, c, by rw [e], hc, o⟩
/-- A row that may be nil. -/
def ELS : EL (List Fra) where
  k := 1
  O := fun w a b vs x => ∃ v, vs = [v] ∧ x.length ≤ 1099511627776 ∧ GE ELF 58 w a b v x
  rlen := fun h => by obtain ⟨_, rfl, _⟩ := h; rfl
  keep := fun h hk => by obtain ⟨v, e, h1, h2⟩ := h; exact ⟨v, e, h1, h2.keep hk⟩
  one := fun h u hu => by
    obtain ⟨v, e, h1, h2⟩ := h
    obtain ⟨A, c, e2⟩ := h2.nilv
    subst e e2
    simp at hu
    subst hu; rfl
theorem els_exr {w : World} {a b : Nat} {vs : List Value} {x : List Fra} (h : ELS.O w a b vs x) : EXR.O w (fun k => a ≤ k ∧ k < b) vs x := by
  obtain ⟨v, rfl, hl, h⟩ := h
  exact rowf_exr h hl
theorem push_rows {w : World} {B H : Nat} {v : Value} {xs : List (List Fra)} (h : GE ELS 34 w B H v xs) (hH : H ≤ w.heap.size) {v0 : Value} {x : List Fra} {a b : Nat} (hu : GE ELF 58 w a b v0 x) (hx : x.length ≤ 1099511627776) (ha : H ≤ a) (hab : a ≤ b) (hb : b ≤ w.heap.size) (hB : B ≤ H) (hl : xs.length + 1 ≤ 1099511627776) :
    ∃ v' w', (Builtin.append_ #[30, 30] 30 #[v, .slice (some ⟨w.heap.size, 0, none⟩) 1 1]).run Tryz.prog (w.alloc (.cells #[v0] 34)) = .ok v' w' ∧
      GE ELS 34 w' B w'.heap.size v' (xs ++ [x]) ∧ ExO v.ownBlock w w' ∧ v' ≠ .slice none 0 0 ∧ ∀ b', Ex b' w → b'.heap.size ≤ B → Ex b' w' := by
  obtain ⟨i, hi, hz, hs, hby⟩ := info_parts fracsInfo
  obtain ⟨v', w', h1, h2, h3, _, h5, h6⟩ := GE.push ELS Tryz.underlying30 hi hz hs hby rfl (by decide) (by omega) h hH ⟨v0, rfl, hx, hu⟩ ha hab hb hB hl
  exact ⟨v', w', h1, h2, h3, h5, h6⟩
theorem GE.rows {w : World} {B H : Nat} {v : Value} {xs : List (List Fra)} (h : GE ELS 34 w B H v xs) (hl : xs.length ≤ 1099511627776) : ∃ A c, v = .slice A xs.length c ∧ OX EXR 34 w (fun k => B ≤ k ∧ k < H) A xs ∧ RdC w A xs := by
  obtain ⟨A, c, e, _, o⟩ := h.ox (E' := EXR) hl rfl els_exr
  exact ⟨A, c, e, o, o.rdc⟩
theorem GE.off {w : World} {B H : Nat} {v : Value} {xs : List (List Fra)} (h : GE ELS 34 w B H v xs) (hl : xs.length ≤ 1099511627776) (ht : totFF xs ≤ 1125899906842624) : OFF w B H v xs := by
  obtain ⟨A, c, e, o, _⟩ := h.rows hl
  exact ⟨⟨A, c, _, e, fun k hk => hk, o⟩, ht⟩
/-- Rows of a call's own. -/
def OFX (w : World) (a b : Nat) (v : Value) (x : List (List Fra)) : Prop := ∃ (A : Option Addr) (c : Nat) (S : Nat → Prop), v = .slice A x.length c ∧ (∀ k, S k → a ≤ k ∧ k < b) ∧ OX EXR 34 w S A x
theorem OFX.off {w : World} {a b : Nat} {v : Value} {x : List (List Fra)} (h : OFX w a b v x) (ht : totFF x ≤ 1125899906842624) : OFF w a b v x := ⟨h, ht⟩
theorem OFX.iv {w w' : World} {a b a' b' : Nat} {v : Value} {x : List (List Fra)} (h : OFX w a b v x) (k : ExI a' b' w w') (hd : b ≤ a' ∨ b' ≤ a) : OFX w' a b v x := by
  obtain ⟨A, c, S, e, hS, o⟩ := h
  exact ⟨A, c, S, e, hS, o.keep fun i hi hl => k.block i hl (by have := hS i hi; omega)⟩
theorem OFX.ex {w w' : World} {a b : Nat} {v : Value} {x : List (List Fra)} (h : OFX w a b v x) (k : Ex w w') : OFX w' a b v x := by
  obtain ⟨A, c, S, e, hS, o⟩ := h
  exact ⟨A, c, S, e, hS, o.ex k⟩
theorem OFX.more {w : World} {a b a' b' : Nat} {v : Value} {x : List (List Fra)} (h : OFX w a b v x) (h1 : a' ≤ a) (h2 : b ≤ b') : OFX w a' b' v x := by
  obtain ⟨A, c, S, e, hS, o⟩ := h
  exact ⟨A, c, S, e, fun k hk => by have := hS k hk; omega, o⟩
theorem OFX.rd {w : World} {a b : Nat} {v : Value} {x : List (List Fra)} (h : OFX w a b v x) : ∃ A c, v = .slice A x.length c ∧ RdS EFF w A x := by
  obtain ⟨A, c, S, e, hS, o⟩ := h
  exact ⟨A, c, e, o.rds rfl exr_rd⟩
theorem OFX.rdc {w : World} {a b : Nat} {A : Option Addr} {n c : Nat} {x : List (List Fra)} (h : OFX w a b (.slice A n c) x) : RdC w A x := by
  obtain ⟨A', c', S, e, hS, o⟩ := h
  injection e with e1 _ _
  subst e1
  exact o.rdc
theorem OFX.nil (w : World) (a b : Nat) (A : Option Addr) (c : Nat) : OFX w a b (.slice A 0 c) [] := ⟨A, c, fun _ => False, rfl, fun k hk => hk.elim, OX.nil _ _ _ _ _⟩
theorem GE.ofx {w : World} {B H : Nat} {v : Value} {xs : List (List Fra)} (h : GE ELS 34 w B H v xs) (hl : xs.length ≤ 1099511627776) : OFX w B H v xs := by
  obtain ⟨A, c, e, o, _⟩ := h.rows hl
  exact ⟨A, c, _, e, fun k hk => hk, o⟩
/-- A row of l fractions: 1 at a place, 0 else. -/
def unitF (l i : Nat) : List Fra := (List.replicate l zF).set i oF
end Go.Proofs.YtpeogfapnofeoaaGreatDoor
