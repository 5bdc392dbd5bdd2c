/- Rows of fractions that a call has collected, as owned and as read; the rows of a relation's matrix: the plain answer. -/
import Derived.Test.YtpeogfapnofeoaaGreatDoorPkK
import Derived.Test.YtpeogfapnofeoaaGreatDoorRtH
import Derived.Test.YtpeogfapnofeoaaGreatDoorPkF
namespace Go.Proofs.YtpeogfapnofeoaaGreatDoor
set_option maxRecDepth 100000
open Go Go.RowKit
theorem GE.len0 {α : Type} {E : EL α} {t : TypeId} {w : World} {B H : Nat} {xs : List α} (h : GE E t w B H (.slice none 0 0) xs) : xs = [] := by
  obtain ⟨_, us, al, bl, hl, ho, _⟩ := h
  rcases ho.2 with ⟨e, hn⟩ | ⟨g, cap, cur, e, _⟩
  · exact List.eq_nil_of_length_eq_zero hn
  · cases e
theorem GE.ox {α : Type} {E : EL α} {E' : EX α} {t : TypeId} {w : World} {B H : Nat} {v : Value} {xs : List α} (h : GE E t w B H v xs) (hl : xs.length ≤ 1099511627776) (hk : E'.k = E.k) (hE : ∀ {a b vs x}, E.O w a b vs x → E'.O w (fun k => a ≤ k ∧ k < b) vs x) :
    ∃ A c, v = .slice A xs.length c ∧ xs.length ≤ c ∧ OX E' t w (fun k => B ≤ k ∧ k < H) A xs := by
  by_cases hv : v = .slice none 0 0
  · subst hv
    obtain rfl := h.len0
    exact ⟨none, 0, rfl, Nat.le_refl _, OX.nil _ _ _ _ _⟩
  · obtain ⟨g, c, rfl, hgc, _⟩ := h.form hv
    obtain ⟨cur, al, bl, _, hB, hH, hh, h1, h2⟩ := h.at_
    refine ⟨_, c, rfl, hgc, hl, fun j k => al j ≤ k ∧ k < bl j, fun j x hj => ?_, fun i j k hi hj hne a b => by have := h2 i j hi hj hne; omega⟩
    obtain ⟨u, q1, q2, q3, q4, q5⟩ := h1 j x hj
    exact ⟨g, 0, u, cur, rfl, ⟨hB, hH⟩, hh, fun i y hy => by rw [hk, Nat.zero_add]; exact q1 i y hy, hE q2, fun k hk => by omega, by omega⟩
theorem GE.k1 {α : Type} {E : EL α} {t : TypeId} {w w' : World} {B H k : Nat} {v : Value} {xs : List α} (h : GE E t w B H v xs) (he : Ex1 k w w') (hk : k < B) : GE E t w' B H v xs := h.iv (ExI.of_ex1 he) (by omega)
theorem elf_exf {w : World} {a b : Nat} {vs : List Value} {x : Fra} (h : ELF.O w a b vs x) : EXF.O w (fun k => a ≤ k ∧ k < b) vs x := by
  obtain ⟨v0, v1, e, h⟩ := h
  exact ⟨v0, v1, e, h.xf⟩
theorem rowf_exr {w : World} {a b : Nat} {v : Value} {x : List Fra} (h : GE ELF 58 w a b v x) (hl : x.length ≤ 1099511627776) : EXR.O w (fun k => a ≤ k ∧ k < b) [v] x := by
  obtain ⟨A, c, e, hc, o⟩ := h.ox (E' := EXF) hl rfl elf_exf
  exact ⟨A, c, by rw [e], hc, o⟩
/-- A row that may be nil. -/
def ELS : EL (List Fra) where
  k := 1
  O := fun w a b vs x => ∃ v, vs = [v] ∧ x.length ≤ 1099511627776 ∧ GE ELF 58 w a b v x
  rlen := fun h => by obtain ⟨_, rfl, _⟩ := h; rfl
  keep := fun h hk => by obtain ⟨v, e, h1, h2⟩ := h; exact ⟨v, e, h1, h2.keep hk⟩
  one := fun h u hu => by
    obtain ⟨v, e, h1, h2⟩ := h
    obtain ⟨A, c, e2⟩ := h2.nilv
    subst e e2
    simp at hu
    subst hu; rfl
theorem els_exr {w : World} {a b : Nat} {vs : List Value} {x : List Fra} (h : ELS.O w a b vs x) : EXR.O w (fun k => a ≤ k ∧ k < b) vs x := by
  obtain ⟨v, rfl, hl, h⟩ := h
  exact rowf_exr h hl
theorem push_rows {w : World} {B H : Nat} {v : Value} {xs : List (List Fra)} (h : GE ELS 34 w B H v xs) (hH : H ≤ w.heap.size) {v0 : Value} {x : List Fra} {a b : Nat} (hu : GE ELF 58 w a b v0 x) (hx : x.length ≤ 1099511627776) (ha : H ≤ a) (hab : a ≤ b) (hb : b ≤ w.heap.size) (hB : B ≤ H) (hl : xs.length + 1 ≤ 1099511627776) :
    ∃ v' w', (Builtin.append_ #[30, 30] 30 #[v, .slice (some ⟨w.heap.size, 0, none⟩) 1 1]).run Tryz.prog (w.alloc (.cells #[v0] 34)) = .ok v' w' ∧
      GE ELS 34 w' B w'.heap.size v' (xs ++ [x]) ∧ ExO v.ownBlock w w' ∧ v' ≠ .slice none 0 0 ∧ ∀ b', Ex b' w → b'.heap.size ≤ B → Ex b' w' := by
  obtain ⟨i, hi, hz, hs, hby⟩ := info_parts fracsInfo
  obtain ⟨v', w', h1, h2, h3, _, h5, h6⟩ := GE.push ELS Tryz.underlying30 hi hz hs hby rfl (by decide) (by omega) h hH ⟨v0, rfl, hx, hu⟩ ha hab hb hB hl
  exact ⟨v', w', h1, h2, h3, h5, h6⟩
theorem GE.rows {w : World} {B H : Nat} {v : Value} {xs : List (List Fra)} (h : GE ELS 34 w B H v xs) (hl : xs.length ≤ 1099511627776) : ∃ A c, v = .slice A xs.length c ∧ OX EXR 34 w (fun k => B ≤ k ∧ k < H) A xs ∧ RdC w A xs := by
  obtain ⟨A, c, e, _, o⟩ := h.ox (E' := EXR) hl rfl els_exr
  exact ⟨A, c, e, o, o.rdc⟩
theorem GE.off {w : World} {B H : Nat} {v : Value} {xs : List (List Fra)} (h : GE ELS 34 w B H v xs) (hl : xs.length ≤ 1099511627776) (ht : totFF xs ≤ 1125899906842624) : OFF w B H v xs := by
  obtain ⟨A, c, e, o, _⟩ := h.rows hl
  exact ⟨⟨A, c, _, e, fun k hk => hk, o⟩, ht⟩
/-- Rows of a call's own. -/
def OFX (w : World) (a b : Nat) (v : Value) (x : List (List Fra)) : Prop := ∃ (A : Option Addr) (c : Nat) (S : Nat → Prop), v = .slice A x.length c ∧ (∀ k, S k → a ≤ k ∧ k < b) ∧ OX EXR 34 w S A x
theorem OFX.off {w : World} {a b : Nat} {v : Value} {x : List (List Fra)} (h : OFX w a b v x) (ht : totFF x ≤ 1125899906842624) : OFF w a b v x := ⟨h, ht⟩
theorem OFX.iv {w w' : World} {a b a' b' : Nat} {v : Value} {x : List (List Fra)} (h : OFX w a b v x) (k : ExI a' b' w w') (hd : b ≤ a' ∨ b' ≤ a) : OFX w' a b v x := by
  obtain ⟨A, c, S, e, hS, o⟩ := h
  exact ⟨A, c, S, e, hS, o.keep fun i hi hl => k.block i hl (by have := hS i hi; omega)⟩
theorem OFX.ex {w w' : World} {a b : Nat} {v : Value} {x : List (List Fra)} (h : OFX w a b v x) (k : Ex w w') : OFX w' a b v x := by
  obtain ⟨A, c, S, e, hS, o⟩ := h
  exact ⟨A, c, S, e, hS, o.ex k⟩
theorem OFX.more {w : World} {a b a' b' : Nat} {v : Value} {x : List (List Fra)} (h : OFX w a b v x) (h1 : a' ≤ a) (h2 : b ≤ b') : OFX w a' b' v x := by
  obtain ⟨A, c, S, e, hS, o⟩ := h
  exact ⟨A, c, S, e, fun k hk => by have := hS k hk; omega, o⟩
theorem OFX.rd {w : World} {a b : Nat} {v : Value} {x : List (List Fra)} (h : OFX w a b v x) : ∃ A c, v = .slice A x.length c ∧ RdS EFF w A x := by
  obtain ⟨A, c, S, e, hS, o⟩ := h
  exact ⟨A, c, e, o.rds rfl exr_rd⟩
theorem OFX.rdc {w : World} {a b : Nat} {A : Option Addr} {n c : Nat} {x : List (List Fra)} (h : OFX w a b (.slice A n c) x) : RdC w A x := by
  obtain ⟨A', c', S, e, hS, o⟩ := h
  injection e with e1 _ _
  subst e1
  exact o.rdc
theorem OFX.nil (w : World) (a b : Nat) (A : Option Addr) (c : Nat) : OFX w a b (.slice A 0 c) [] := ⟨A, c, fun _ => False, rfl, fun k hk => hk.elim, OX.nil _ _ _ _ _⟩
theorem GE.ofx {w : World} {B H : Nat} {v : Value} {xs : List (List Fra)} (h : GE ELS 34 w B H v xs) (hl : xs.length ≤ 1099511627776) : OFX w B H v xs := by
  obtain ⟨A, c, e, o, _⟩ := h.rows hl
  exact ⟨A, c, _, e, fun k hk => hk, o⟩
/-- Whether a reduced list has a matrix: as many rows as wires on the left, the rows' leading places in order. -/
def rfB (l : Int) (rows : List (List Fra)) : Bool := decide ((rows.length : Int) = l) && (rows.mapIdx fun i r => decide (leadF r = i)).all id
noncomputable def rfU (p : Int) (x : RRel) : List (List Fra) × Bool := if rrB p x = true ∧ rfB x.l x.b = true then (x.b.map (List.drop x.l.toNat), true) else ([], false)
theorem rfU_no {p : Int} {x : RRel} (h : ¬ (rrB p x = true ∧ rfB x.l x.b = true)) : rfU p x = ([], false) := if_neg h
theorem rfU_yes {p : Int} {x : RRel} (h : rrB p x = true ∧ rfB x.l x.b = true) : rfU p x = (x.b.map (List.drop x.l.toNat), true) := if_pos h
theorem rfB_iff {l : Int} {rows : List (List Fra)} : rfB l rows = true ↔ (rows.length : Int) = l ∧ ∀ (i : Nat) (r : List Fra), rows[i]? = some r → leadF r = i := by
  unfold rfB
  rw [Bool.and_eq_true, decide_eq_true_eq, List.all_eq_true]
  constructor
  · rintro ⟨h1, h2⟩
    refine ⟨h1, fun i r hr => ?_⟩
    have := h2 (decide (leadF r = i)) (List.mem_iff_getElem?.2 ⟨i, by rw [List.getElem?_mapIdx, hr]; rfl⟩)
    simpa using this
  · rintro ⟨h1, h2⟩
    refine ⟨h1, fun b hb => ?_⟩
    obtain ⟨i, hi⟩ := List.getElem?_of_mem hb
    rw [List.getElem?_mapIdx] at hi
    cases hr : rows[i]? with
    | none => rw [hr] at hi; cases hi
    | some r =>
      rw [hr] at hi
      injection hi with hi
      rw [← hi]
      simpa using h2 i r hr
/-- A row of l fractions: 1 at a place, 0 else. -/
def unitF (l i : Nat) : List Fra := (List.replicate l zF).set i oF
theorem zF_of {p : Int} {x : Fra} (h : FV p x) (h0 : x.n = []) : x = zF := by
  have := addF_zero (FV.zero h.f) h h0
  have h2 := addF_zero h (FV.zero h.f) rfl
  have h3 := (frFld p h.f).z_add ⟨x, h⟩
  have h4 : addF p zF x = x := congrArg Subtype.val h3
  rw [← h4]; exact this
theorem unit_of_lead {p : Int} {n l : Nat} {rows : List (List Fra)} (hg : ∀ v ∈ rows, ∀ x ∈ v, FV p x) (h : RrP (frOps p) n rows) (hl : rows.length = l) (hln : l ≤ n) (hall : ∀ (i : Nat) (r : List Fra), rows[i]? = some r → leadF r = i) {i : Nat} {r : List Fra} (hr : rows[i]? = some r) : r.take l = unitF l i := by
  have hm := List.mem_of_getElem? hr
  have hrl := h.len r hm
  refine List.ext_getElem? fun j => ?_
  by_cases hj : j < l
  · have hjr : j < r.length := by omega
    rw [List.getElem?_take, if_pos hj, List.getElem?_eq_getElem hjr, unitF, List.getElem?_set]
    have hel : (frOps p).el r j = r[j] := (frOps p).el_in (List.getElem?_eq_getElem hjr)
    by_cases e : i = j
    · subst e
      rw [if_pos rfl, if_pos (by simpa using hj), ← hel]
      have := (h.one r hm).2
      rw [leadF_lead, hall i r hr] at this
      rw [this]; rfl
    · rw [if_neg e, List.getElem?_replicate, if_pos hj]
      have hjs : j < rows.length := by omega
      have := h.zer j i _ r (List.getElem?_eq_getElem hjs) hr (fun e2 => e e2.symm)
      rw [leadF_lead, hall j _ (List.getElem?_eq_getElem hjs), hel] at this
      rw [zF_of (hg r hm _ (List.getElem_mem hjr)) (iszF_iff.1 this)]
  · rw [List.getElem?_eq_none (by rw [List.length_take]; omega), List.getElem?_eq_none (by simp [unitF]; omega)]
theorem lead_of_unit {l i : Nat} (hi : i < l) {r : List Fra} (h : r.take l = unitF l i) : leadF r = i := by
  have hat : ∀ j, j < l → r[j]? = (unitF l i)[j]? := fun j hj => by rw [← h, List.getElem?_take, if_pos hj]
  have hri := hat i hi
  rw [unitF, List.getElem?_set, if_pos rfl, if_pos (by simpa using hi)] at hri
  have hlt := (List.getElem?_eq_some_iff.1 hri).1
  rw [leadF, List.findIdx_eq hlt]
  refine ⟨by rw [(List.getElem?_eq_some_iff.1 hri).2]; rfl, fun j hj => ?_⟩
  have := hat j (by omega)
  rw [unitF, List.getElem?_set, if_neg (by omega), List.getElem?_replicate, if_pos (by omega)] at this
  rw [(List.getElem?_eq_some_iff.1 this).2]; rfl
end Go.Proofs.YtpeogfapnofeoaaGreatDoor
