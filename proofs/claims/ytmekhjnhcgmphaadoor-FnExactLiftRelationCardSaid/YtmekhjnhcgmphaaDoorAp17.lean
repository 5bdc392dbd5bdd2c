/- The reference's rrGood and IsRatRelation. IsRatRelation, on both sides, in the uniform words. Rows of fractions that a call has collected, as owned and as read; the rows of a relation's matrix: the plain answer. Lists of lists of ints in memory; the laws' helpers on them. -/
import Derived.Test.YtmekhjnhcgmphaaDoorAp16
import Derived.BigQuiet
import Derived.Test.YtmekhjnhcgmphaaDoorAp15
import Derived.Test.YtmekhjnhcgmphaaDoorAp14
import Derived.Test.YtmekhjnhcgmphaaDoorAp13
import Derived.Test.YtmekhjnhcgmphaaDoorLaw
import Derived.RegionCalls
import Derived.Deep.RegionWith
namespace Go.Proofs.YtmekhjnhcgmphaaDoor
set_option maxRecDepth 100000
open Go Go.RowKit
theorem fit_two (l r : Int) : fitB l r = (inB 0 12 l && inB 0 (12 - l) r) := by
  rw [Bool.eq_iff_iff]
  simp [fitB, inB]
  omega
set_option maxHeartbeats 2000000 in
theorem rrGood_c (p : Int) (x : RRel) (A : Option Addr) (c : Nat) (w : World) (h : RdS EFF w A x.b) :
    Calls Tryd.prog 47 #[.int .i64 p, .agg #[.int .i64 x.l, .int .i64 x.r, .slice A x.b.length c]] w fun e w' => ∃ b, e = .returned (.bool b) ∧ (b = true ↔ RRok p x) ∧ Ex w w' := by
  obtain ⟨l, r, rows⟩ := x
  dsimp only at h ⊢
  have x0 := (Ex.refl w).alloc (.cells #[.int .i64 l, .int .i64 r, .slice A rows.length c] 28)
  have v0 := VB.new w 28 #[.int .i64 l, .int .i64 r, .slice A rows.length c]
  have hN : RRok p ⟨l, r, rows⟩ → fieldB p = true ∧ inB 0 12 l = true ∧ inB 0 (12 - l) r = true := fun h => by
    have h2 : fitB l r = true := h.2.1
    rw [fit_two, Bool.and_eq_true] at h2
    exact ⟨h.1, h2.1, h2.2⟩
  have c1 : ∀ W, Calls Tryd.prog 58 #[.int .i64 p] W fun e w' => e = .returned (.bool (fieldB p)) ∧ W = w' := fun W => fdGood_c p W
  have c2 : ∀ W, Calls Tryd.prog 45 #[.int .i64 l, .int .i64 0, .int .i64 12] W fun e w' => e = .returned (.bool (inB 0 12 l)) ∧ W = w' := fun W => l1In_c l 0 12 W
  have c3 : ∀ W, Calls Tryd.prog 45 #[.int .i64 r, .int .i64 0, .int .i64 (12 - l)] W fun e w' => e = .returned (.bool (inB 0 (12 - l) r)) ∧ W = w' := fun W => l1In_c r 0 (12 - l) W
  cases hF : fieldB p with
  | false =>
    have HN := Lib.hid (show ¬ RRok p ⟨l, r, rows⟩ from fun h => by have := (hN h).1; rw [hF] at this; cases this)
    rw [hF] at c1
    clear hF hN c2 c3
    go_enter Tryd.func47, Tryd.ntmps47
    go_wp2_with fail
    generalize w.alloc (.cells #[.int .i64 l, .int .i64 r, .slice A rows.length c] 28) = W0 at *
    refine (c1 _).mono ?_
    rintro e w1 ⟨rfl, rfl⟩
    go_wp2_with fail
    go_ret
    exact ⟨false, rfl, ⟨fun e => Bool.noConfusion e, fun e => absurd e HN.out⟩, x0⟩
  | true =>
    rw [hF] at c1
    cases h1 : inB 0 12 l with
    | false =>
      have HN := Lib.hid (show ¬ RRok p ⟨l, r, rows⟩ from fun h => by have := (hN h).2.1; rw [h1] at this; cases this)
      rw [h1] at c2
      clear hF hN c3 h1
      go_enter Tryd.func47, Tryd.ntmps47
      go_wp2_with fail
      have q0 := v0.cell 0 (v := .int .i64 l) rfl
      generalize w.alloc (.cells #[.int .i64 l, .int .i64 r, .slice A rows.length c] 28) = W0 at *
      refine (c1 _).mono ?_
      rintro e w1 ⟨rfl, rfl⟩
      go_wp2_with fail
      refine (c2 _).mono ?_
      rintro e w2 ⟨rfl, rfl⟩
      go_wp2_with fail
      go_ret
      exact ⟨false, rfl, ⟨fun e => Bool.noConfusion e, fun e => absurd e HN.out⟩, x0⟩
    | true =>
      rw [h1] at c2
      have hl1 : 0 ≤ l ∧ l ≤ 12 := by simpa [inB] using h1
      have hw1 : IntKind.i64.wrap (12 - l) = 12 - l := IntWalk.i64_in _ (by omega)
      cases h2 : inB 0 (12 - l) r with
      | false =>
        have HN := Lib.hid (show ¬ RRok p ⟨l, r, rows⟩ from fun h => by have := (hN h).2.2; rw [h2] at this; cases this)
        rw [h2] at c3
        clear hF hN h1 h2 hl1
        go_enter Tryd.func47, Tryd.ntmps47
        go_wp2_with fail
        have q0 := v0.cell 0 (v := .int .i64 l) rfl
        have q1 := v0.cell 1 (v := .int .i64 r) rfl
        generalize w.alloc (.cells #[.int .i64 l, .int .i64 r, .slice A rows.length c] 28) = W0 at *
        refine (c1 _).mono ?_
        rintro e w1 ⟨rfl, rfl⟩
        go_wp2_with fail
        refine (c2 _).mono ?_
        rintro e w2 ⟨rfl, rfl⟩
        go_wp2_with fail
        refine (c3 _).mono ?_
        rintro e w3 ⟨rfl, rfl⟩
        go_wp2_with fail
        go_ret
        exact ⟨false, rfl, ⟨fun e => Bool.noConfusion e, fun e => absurd e HN.out⟩, x0⟩
      | true =>
        rw [h2] at c3
        have hl2 : 0 ≤ r ∧ r ≤ 12 - l := by simpa [inB] using h2
        obtain ⟨N, hNN⟩ : ∃ N : Nat, (l + r).toNat = N := ⟨_, rfl⟩
        have hwr : IntKind.i64.wrap (l + r) = (N : Int) := by rw [IntWalk.i64_in _ (by omega)]; omega
        have hN1 : N ≤ 1000 := by omega
        have HR := Lib.hid (show RRok p ⟨l, r, rows⟩ ↔ (okRows p N rows = true ∧ RrP (frOps p) N rows) by
          have hfit : fitB l r = true := by rw [fit_two, h1, h2]; rfl
          unfold RRok
          dsimp only
          rw [hNN]
          exact ⟨fun h => ⟨h.2.2.1, h.2.2.2⟩, fun h => ⟨hF, hfit, h.1, h.2⟩⟩)
        clear hF hN h1 h2 hl1 hl2 hNN
        go_enter Tryd.func47, Tryd.ntmps47
        go_wp2_with fail
        have q0 := v0.cell 0 (v := .int .i64 l) rfl
        have q1 := v0.cell 1 (v := .int .i64 r) rfl
        have q2 := v0.cell 2 (v := .slice A rows.length c) rfl
        generalize w.alloc (.cells #[.int .i64 l, .int .i64 r, .slice A rows.length c] 28) = W0 at *
        refine (c1 _).mono ?_
        rintro e w1 ⟨rfl, rfl⟩
        go_wp2_with fail
        refine (c2 _).mono ?_
        rintro e w2 ⟨rfl, rfl⟩
        go_wp2_with fail
        refine (c3 _).mono ?_
        rintro e w3 ⟨rfl, rfl⟩
        go_wp2_with fail
        refine (rrIs_c p N A c rows _ (h.ex x0) hN1).mono ?_
        rintro e w4 ⟨b, rfl, hb, x4⟩
        clear hwr hw1
        go_wp2_with fail
        go_ret
        exact ⟨b, rfl, by rw [HR.out]; exact hb, x0.trans x4⟩
end Go.Proofs.YtmekhjnhcgmphaaDoor
namespace Go.Proofs.YtmekhjnhcgmphaaDoor
set_option maxRecDepth 100000
open Go Go.RowKit
/-- Whether a rational relation is valid. -/
noncomputable def rrB (p : Int) (x : RRel) : Bool := @decide (RRok p x) (Classical.propDecidable _)
theorem rrB_iff {p : Int} {x : RRel} : rrB p x = true ↔ RRok p x := @decide_eq_true_iff (RRok p x) (Classical.propDecidable _)
theorem rrB_of {p : Int} {x : RRel} {b : Bool} (h : b = true ↔ RRok p x) : b = rrB p x := by
  rw [Bool.eq_iff_iff, h, rrB_iff]
end Go.Proofs.YtmekhjnhcgmphaaDoor
namespace Go.Proofs.YtmekhjnhcgmphaaDoor
set_option maxRecDepth 100000
open Go Go.RowKit
theorem GE.len0 {α : Type} {E : EL α} {t : TypeId} {w : World} {B H : Nat} {xs : List α} (h : GE E t w B H (.slice none 0 0) xs) : xs = [] := by
  obtain ⟨_, us, al, bl, hl, ho, _⟩ := h
  rcases ho.2 with ⟨e, hn⟩ | ⟨g, cap, cur, e, _⟩
  · exact List.eq_nil_of_length_eq_zero hn
  · cases e
theorem GE.ox {α : Type} {E : EL α} {E' : EX α} {t : TypeId} {w : World} {B H : Nat} {v : Value} {xs : List α} (h : GE E t w B H v xs) (hl : xs.length ≤ 1099511627776) (hk : E'.k = E.k) (hE : ∀ {a b vs x}, E.O w a b vs x → E'.O w (fun k => a ≤ k ∧ k < b) vs x) :
    ∃ A c, v = .slice A xs.length c ∧ xs.length ≤ c ∧ OX E' t w (fun k => B ≤ k ∧ k < H) A xs := by
  by_cases hv : v = .slice none 0 0
  · subst hv
    obtain rfl := h.len0
    exact ⟨none, 0, rfl, Nat.le_refl _, OX.nil _ _ _ _ _⟩
  · obtain ⟨g, c, rfl, hgc, _⟩ := h.form hv
    obtain ⟨cur, al, bl, _, hB, hH, hh, h1, h2⟩ := h.at_
    refine ⟨_, c, rfl, hgc, hl, fun j k => al j ≤ k ∧ k < bl j, fun j x hj => ?_, fun i j k hi hj hne a b => by have := h2 i j hi hj hne; omega⟩
    obtain ⟨u, q1, q2, q3, q4, q5⟩ := h1 j x hj
    exact ⟨g, 0, u, cur, rfl, ⟨hB, hH⟩, hh, fun i y hy => by rw [hk, Nat.zero_add]; exact q1 i y hy, hE q2, fun k hk => by omega, by omega⟩
theorem GE.k1 {α : Type} {E : EL α} {t : TypeId} {w w' : World} {B H k : Nat} {v : Value} {xs : List α} (h : GE E t w B H v xs) (he : Ex1 k w w') (hk : k < B) : GE E t w' B H v xs := h.iv (ExI.of_ex1 he) (by omega)
theorem elf_exf {w : World} {a b : Nat} {vs : List Value} {x : Fra} (h : ELF.O w a b vs x) : EXF.O w (fun k => a ≤ k ∧ k < b) vs x := by
  obtain ⟨v0, v1, e, h⟩ := h
  exact ⟨v0, v1, e, h.xf⟩
theorem rowf_exr {w : World} {a b : Nat} {v : Value} {x : List Fra} (h : GE ELF 40 w a b v x) (hl : x.length ≤ 1099511627776) : EXR.O w (fun k => a ≤ k ∧ k < b) [v] x := by
  obtain ⟨A, c, e, hc, o⟩ := h.ox (E' := EXF) hl rfl elf_exf
  exact ⟨A, c, by rw [e], hc, o⟩
/-- A row that may be nil. -/
def ELS : EL (List Fra) where
  k := 1
  O := fun w a b vs x => ∃ v, vs = [v] ∧ x.length ≤ 1099511627776 ∧ GE ELF 40 w a b v x
  rlen := fun h => by obtain ⟨_, rfl, _⟩ := h; rfl
  keep := fun h hk => by obtain ⟨v, e, h1, h2⟩ := h; exact ⟨v, e, h1, h2.keep hk⟩
  one := fun h u hu => by
    obtain ⟨v, e, h1, h2⟩ := h
    obtain ⟨A, c, e2⟩ := h2.nilv
    subst e e2
    simp at hu
    subst hu; rfl
theorem els_exr {w : World} {a b : Nat} {vs : List Value} {x : List Fra} (h : ELS.O w a b vs x) : EXR.O w (fun k => a ≤ k ∧ k < b) vs x := by
  obtain ⟨v, rfl, hl, h⟩ := h
  exact rowf_exr h hl
theorem push_rows {w : World} {B H : Nat} {v : Value} {xs : List (List Fra)} (h : GE ELS 70 w B H v xs) (hH : H ≤ w.heap.size) {v0 : Value} {x : List Fra} {a b : Nat} (hu : GE ELF 40 w a b v0 x) (hx : x.length ≤ 1099511627776) (ha : H ≤ a) (hab : a ≤ b) (hb : b ≤ w.heap.size) (hB : B ≤ H) (hl : xs.length + 1 ≤ 1099511627776) :
    ∃ v' w', (Builtin.append_ #[26, 26] 26 #[v, .slice (some ⟨w.heap.size, 0, none⟩) 1 1]).run Tryd.prog (w.alloc (.cells #[v0] 70)) = .ok v' w' ∧
      GE ELS 70 w' B w'.heap.size v' (xs ++ [x]) ∧ ExO v.ownBlock w w' ∧ v' ≠ .slice none 0 0 ∧ ∀ b', Ex b' w → b'.heap.size ≤ B → Ex b' w' := by
  obtain ⟨i, hi, hz, hs, hby⟩ := info_parts fracsInfo
  obtain ⟨v', w', h1, h2, h3, _, h5, h6⟩ := GE.push ELS Tryd.underlying26 hi hz hs hby rfl (by decide) (by omega) h hH ⟨v0, rfl, hx, hu⟩ ha hab hb hB hl
  exact ⟨v', w', h1, h2, h3, h5, h6⟩
theorem GE.rows {w : World} {B H : Nat} {v : Value} {xs : List (List Fra)} (h : GE ELS 70 w B H v xs) (hl : xs.length ≤ 1099511627776) : ∃ A c, v = .slice A xs.length c ∧ OX EXR 70 w (fun k => B ≤ k ∧ k < H) A xs ∧ RdC w A xs := by
  obtain ⟨A, c, e, _, o⟩ := h.ox (E' := EXR) hl rfl els_exr
  exact ⟨A, c, e, o, o.rdc⟩
theorem GE.off {w : World} {B H : Nat} {v : Value} {xs : List (List Fra)} (h : GE ELS 70 w B H v xs) (hl : xs.length ≤ 1099511627776) (ht : totFF xs ≤ 1125899906842624) : OFF w B H v xs := by
  obtain ⟨A, c, e, o, _⟩ := h.rows hl
  exact ⟨⟨A, c, _, e, fun k hk => hk, o⟩, ht⟩
/-- Rows of a call's own. -/
def OFX (w : World) (a b : Nat) (v : Value) (x : List (List Fra)) : Prop := ∃ (A : Option Addr) (c : Nat) (S : Nat → Prop), v = .slice A x.length c ∧ (∀ k, S k → a ≤ k ∧ k < b) ∧ OX EXR 70 w S A x
theorem OFX.off {w : World} {a b : Nat} {v : Value} {x : List (List Fra)} (h : OFX w a b v x) (ht : totFF x ≤ 1125899906842624) : OFF w a b v x := ⟨h, ht⟩
theorem OFX.iv {w w' : World} {a b a' b' : Nat} {v : Value} {x : List (List Fra)} (h : OFX w a b v x) (k : ExI a' b' w w') (hd : b ≤ a' ∨ b' ≤ a) : OFX w' a b v x := by
  obtain ⟨A, c, S, e, hS, o⟩ := h
  exact ⟨A, c, S, e, hS, o.keep fun i hi hl => k.block i hl (by have := hS i hi; omega)⟩
theorem OFX.ex {w w' : World} {a b : Nat} {v : Value} {x : List (List Fra)} (h : OFX w a b v x) (k : Ex w w') : OFX w' a b v x := by
  obtain ⟨A, c, S, e, hS, o⟩ := h
  exact ⟨A, c, S, e, hS, o.ex k⟩
theorem OFX.more {w : World} {a b a' b' : Nat} {v : Value} {x : List (List Fra)} (h : OFX w a b v x) (h1 : a' ≤ a) (h2 : b ≤ b') : OFX w a' b' v x := by
  obtain ⟨A, c, S, e, hS, o⟩ := h
  exact ⟨A, c, S, e, fun k hk => by have := hS k hk; omega, o⟩
theorem OFX.rd {w : World} {a b : Nat} {v : Value} {x : List (List Fra)} (h : OFX w a b v x) : ∃ A c, v = .slice A x.length c ∧ RdS EFF w A x := by
  obtain ⟨A, c, S, e, hS, o⟩ := h
  exact ⟨A, c, e, o.rds rfl exr_rd⟩
theorem OFX.rdc {w : World} {a b : Nat} {A : Option Addr} {n c : Nat} {x : List (List Fra)} (h : OFX w a b (.slice A n c) x) : RdC w A x := by
  obtain ⟨A', c', S, e, hS, o⟩ := h
  injection e with e1 _ _
  subst e1
  exact o.rdc
theorem OFX.nil (w : World) (a b : Nat) (A : Option Addr) (c : Nat) : OFX w a b (.slice A 0 c) [] := ⟨A, c, fun _ => False, rfl, fun _ hk => hk.elim, OX.nil _ _ _ _ _⟩
theorem GE.ofx {w : World} {B H : Nat} {v : Value} {xs : List (List Fra)} (h : GE ELS 70 w B H v xs) (hl : xs.length ≤ 1099511627776) : OFX w B H v xs := by
  obtain ⟨A, c, e, o, _⟩ := h.rows hl
  exact ⟨A, c, _, e, fun k hk => hk, o⟩
end Go.Proofs.YtmekhjnhcgmphaaDoor
namespace Go.Proofs.YtmekhjnhcgmphaaDoor
set_option maxRecDepth 100000
open Go Go.RowKit
/-- The slice that begins at A holds slices of the lengths ns. -/
def RdH (w : World) (A : Option Addr) (ns : List Nat) : Prop :=
  ∀ (j n : Nat), ns[j]? = some n → n ≤ 9223372036854775807 ∧ ∃ g off A' c, A = some ⟨g, off, none⟩ ∧ w.cell? ⟨g, off + j, none⟩ = some (.slice A' n c)
/-- The slice that begins at A reads as the list of lists rows. -/
def RdM (w : World) (A : Option Addr) (rows : List (List Int)) : Prop :=
  rows.length ≤ 1099511627776 ∧ ∀ (j : Nat) (r : List Int), rows[j]? = some r → ∃ g off A' c, A = some ⟨g, off, none⟩ ∧ w.cell? ⟨g, off + j, none⟩ = some (.slice A' r.length c) ∧ Rd w A' r
theorem RdH.ex {w w' : World} {A : Option Addr} {ns : List Nat} (h : RdH w A ns) (he : Ex w w') : RdH w' A ns := fun j n hj => by
  obtain ⟨hb, g, off, A', c, hA, hc⟩ := h j n hj
  exact ⟨hb, g, off, A', c, hA, cell_ex he hc⟩
theorem RdM.ex {w w' : World} {A : Option Addr} {rows : List (List Int)} (h : RdM w A rows) (he : Ex w w') : RdM w' A rows := ⟨h.1, fun j r hj => by
  obtain ⟨g, off, A', c, hA, hc, hr⟩ := h.2 j r hj
  exact ⟨g, off, A', c, hA, cell_ex he hc, hr.ex he⟩⟩
theorem RdM.at_ {w : World} {A : Option Addr} {rows : List (List Int)} (h : RdM w A rows) {k : Nat} (hk : k < rows.length) :
    ∃ g off A' c r, A = some ⟨g, off, none⟩ ∧ rows[k]? = some r ∧ w.cell? ⟨g, off + k, none⟩ = some (.slice A' r.length c) ∧ Rd w A' r := by
  obtain ⟨g, off, A', c, hA, hc, hr⟩ := h.2 k _ (List.getElem?_eq_getElem hk)
  exact ⟨g, off, A', c, _, hA, List.getElem?_eq_getElem hk, hc, hr⟩
def szGo : Int → List Nat → Int
  | l, [] => l
  | l, n :: ns => if l < (n : Int) then -1 else szGo (l - (n : Int)) ns
def szAll (l : Int) (ns : List Nat) : Int := if l < (ns.length : Int) then -1 else szGo (l - (ns.length : Int)) ns
theorem szGo_le : ∀ (ns : List Nat) (l : Int), 0 ≤ szGo l ns → ((ns.sum : Nat) : Int) + szGo l ns = l
  | [], l, _ => by simp [szGo]
  | n :: ns, l, h => by
    rw [szGo] at h ⊢
    split at h
    · omega
    · rename_i hh
      rw [if_neg hh]
      have := szGo_le ns _ h
      simp only [List.sum_cons]
      omega
set_option maxHeartbeats 1000000 in
theorem szIntSS_c (A : Option Addr) (c n : Nat) (ns : List Nat) (l : Int) (w : World) (hA : RdH w A ns) (hn : ns.length = n) (hm : n ≤ 9223372036854775807) (h0 : 0 ≤ l) (hl : l ≤ 1048576) :
    Calls Tryd.prog 22 #[.slice A n c, .int .i64 l] w fun e w' => e = .returned (.int .i64 (szAll l ns)) ∧ w = w' := by
  have Hn := Lib.hid hn
  by_cases hb : l < (n : Int)
  · have H := Lib.hid (show szAll l ns = -1 by rw [szAll, if_pos (by omega)])
    clear hn
    go_enter Tryd.func22, Tryd.ntmps22
    go_wp2
    go_ret
    exact ⟨by rw [H.out]; rfl, rfl⟩
  · have H := Lib.hid (show szAll l ns = szGo (l - (n : Int)) ns by rw [szAll, if_neg (by omega), hn])
    have HA := Lib.hid hA
    clear hn hA
    go_enter Tryd.func22, Tryd.ntmps22
    go_wp2
    go_loop [1, 5] (fun a i => ∃ (k : Nat) (m : Int), k ≤ n ∧ a = .int .i64 m ∧ i = .int .i64 (k : Int) ∧ 0 ≤ m ∧ m ≤ 1048576 ∧ Hid (szGo m (ns.drop k) = szAll l ns)) (fun _ i => n - (intOf i).toNat)
    case atStart => exact ⟨0, l - n, Nat.zero_le _, rfl, rfl, by omega, by omega, Lib.hid H.out.symm⟩
    case round =>
      obtain ⟨k, m, hk, rfl, rfl, hm0, hm1, He⟩ := hrel
      by_cases hlt : k < n
      · have hkl : k < ns.length := by have := Hn.out; omega
        obtain ⟨hb2, g, off, A', c', rfl, hc⟩ := HA.out k _ (List.getElem?_eq_getElem hkl)
        have Hd := Lib.hid (List.drop_eq_getElem_cons hkl)
        generalize ns[k] = x at *
        by_cases hx : m < (x : Int)
        · go_wp2_with (go_at_call 44; refine (szIntS_big _ _ _ _ _ hx hb2 hm0 hm1).mono ?_; rintro e w' ⟨rfl, rfl⟩)
          go_ret
          refine ⟨?_, rfl⟩
          rw [← He.out, Hd.out, szGo, if_pos hx]; rfl
        · go_wp2_with (go_at_call 44; refine (szIntS_ok _ _ _ _ _ (by omega) hm1).mono ?_; rintro e w' ⟨rfl, rfl⟩)
          go_round
          case rel => exact ⟨k + 1, m - x, by omega, rfl, by go_num, by omega, by omega, Lib.hid (by rw [← He.out, Hd.out, szGo, if_neg (by omega)])⟩
          case measure => simp [intOf] <;> omega
      · obtain rfl : k = n := by omega
        go_wp2
        go_ret
        refine ⟨?_, rfl⟩
        have := He.out
        rw [List.drop_eq_nil_of_le (by rw [Hn.out]; exact Nat.le_refl _)] at this
        rw [← this]; rfl
/-- make([][]int, n) -/
theorem madeSlices (n : Nat) : (madeCells (Value.slice none 0 0).cells (n * 1)) = (List.replicate n (Value.slice none 0 0)).toArray := by
  apply Array.toList_inj.1
  rw [Nat.mul_one]
  show (madeCells #[Value.slice none 0 0] n).toList = _
  rw [toList_madeCells_one]
theorem sliceInfo : (Tryd.prog.info? 38).map (fun i => (i.zero, i.size, i.bytes)) = some (some (.slice none 0 0), 1, 24) := by kernel_rfl
theorem run_make_slices (n : Nat) (hn : n ≤ 1099511627776) (w : World) :
    (Instr.makeSlice 22 (.int .i64 (n : Int)) (.int .i64 (n : Int))).run Tryd.prog w = .ok (.slice (some ⟨w.heap.size, 0, none⟩) n n) (w.alloc (.cells (List.replicate n (Value.slice none 0 0)).toArray 38)) := by
  obtain ⟨i, hi, hz, hs, hb⟩ := info_parts sliceInfo
  have hr := run_make (P := Tryd.prog) w 22 38 i (.slice none 0 0) Tryd.underlying22 hi hz .i64 .i64 n n (by omega) (by omega) (by rw [hb]; omega) (by omega)
  simp only [Int.toNat_natCast, hs] at hr
  rw [madeSlices] at hr
  exact hr
/-- The headers of fresh rows. -/
def hdr (gs : List Nat) (rows : List (List Int)) : List Value := List.zipWith (fun g (r : List Int) => Value.slice (some ⟨g, 0, none⟩) r.length r.length) gs rows
/-- A fresh copy of rows: its own row of headers, a block for each row. -/
structure FM (w : World) (B g : Nat) (gs : List Nat) (rows : List (List Int)) : Prop where
  low : B ≤ g
  len : gs.length = rows.length
  head : VB w g 38 (hdr gs rows).toArray
  row : ∀ (j h : Nat) (r : List Int), gs[j]? = some h → rows[j]? = some r → g < h ∧ Blk w h r
  up : gs.Pairwise (· < ·)
theorem hdr_at {gs : List Nat} {rows : List (List Int)} {j h : Nat} {r : List Int} (hg : gs[j]? = some h) (hr : rows[j]? = some r) : (hdr gs rows)[j]? = some (Value.slice (some ⟨h, 0, none⟩) r.length r.length) := by
  simp [hdr, List.getElem?_zipWith, hg, hr]
theorem hdr_snoc {gs : List Nat} {rows : List (List Int)} {h : Nat} {r : List Int} (hr : rows[gs.length]? = some r) : hdr (gs ++ [h]) rows = hdr gs rows ++ [Value.slice (some ⟨h, 0, none⟩) r.length r.length] := by
  induction gs generalizing rows with
  | nil =>
    cases rows with
    | nil => cases hr
    | cons a tl => injection hr with hr; subst hr; simp [hdr]
  | cons x xs ih =>
    cases rows with
    | nil => cases hr
    | cons a tl =>
      have := ih (rows := tl) (by simpa using hr)
      simp only [hdr, List.cons_append, List.zipWith_cons_cons] at this ⊢
      rw [this]
theorem hdr_len {gs : List Nat} {rows : List (List Int)} (h : gs.length ≤ rows.length) : (hdr gs rows).length = gs.length := by simp [hdr]; omega
theorem FM.rd {w : World} {B g : Nat} {gs : List Nat} {rows : List (List Int)} (h : FM w B g gs rows) (hl : rows.length ≤ 1099511627776) (hr : ∀ r ∈ rows, r.length ≤ 1099511627776) : RdM w (some ⟨g, 0, none⟩) rows :=
  ⟨hl, fun j r hj => by
    have hlt := (List.getElem?_eq_some_iff.1 hj).1
    have hg : gs[j]? = some (gs[j]'(by rw [h.len]; exact hlt)) := List.getElem?_eq_getElem _
    obtain ⟨_, hb⟩ := h.row j _ r hg hj
    exact ⟨g, 0, _, _, rfl, by rw [Nat.zero_add]; exact h.head.cell j (by simpa using hdr_at hg hj), hb.rd (hr r (List.mem_of_getElem? hj))⟩⟩
theorem FM.ex {w w' : World} {B g : Nat} {gs : List Nat} {rows : List (List Int)} (h : FM w B g gs rows) (he : Ex w w') : FM w' B g gs rows :=
  ⟨h.low, h.len, h.head.ex he, fun j k r hg hr => ⟨(h.row j k r hg hr).1, (h.row j k r hg hr).2.ex he⟩, h.up⟩
set_option maxHeartbeats 1000000 in
theorem toIntSS_c (A : Option Addr) (c : Nat) (rows : List (List Int)) (w : World) (h : RdM w A rows) :
    Calls Tryd.prog 26 #[.slice A rows.length c] w fun e w' => ∃ g gs, e = .returned (.slice (some ⟨g, 0, none⟩) rows.length rows.length) ∧ FM w' w.heap.size g gs rows ∧ Ex w w' := by
  have hl := h.1
  have hmk := fun W => run_make_slices rows.length hl W
  have v0 := VB.new w 38 (List.replicate rows.length (Value.slice none 0 0)).toArray
  have he0 := (Ex.refl w).alloc (.cells (List.replicate rows.length (Value.slice none 0 0)).toArray 38)
  go_enter Tryd.func26, Tryd.ntmps26
  go_wp2
  go_loopw [4] (fun i wr => ∃ (k : Nat) (gs : List Nat), k ≤ rows.length ∧ gs.length = k ∧ i = .int .i64 k ∧ VB wr w.heap.size 38 (hdr gs rows ++ List.replicate (rows.length - k) (Value.slice none 0 0)).toArray ∧
      Hid (∀ (j h : Nat) (r : List Int), gs[j]? = some h → rows[j]? = some r → w.heap.size < h ∧ Blk wr h r) ∧ Hid (gs.Pairwise (· < ·)) ∧ Hid (∀ h ∈ gs, h < wr.heap.size) ∧ Ex w wr) (fun i _ => rows.length - (intOf i).toNat)
  case atStart => exact ⟨0, [], Nat.zero_le _, rfl, rfl, by simpa [hdr] using v0, Lib.hid (fun j h r hg => by cases hg), Lib.hid List.Pairwise.nil, Lib.hid (by simp), he0⟩
  case round =>
    obtain ⟨k, gs, hk, hgs, rfl, hv, Hrow, Hup, Hlt, he⟩ := hrel
    by_cases hlt : k < rows.length
    · obtain ⟨g, off, A', c', r, rfl, hr, hc, hrd⟩ := (h.ex he).at_ hlt
      have Hr := Lib.hid hr
      clear hr
      go_wp2_with fail
      refine (toIntS_c A' c' r wr hrd).mono ?_
      rintro e w1 ⟨g1, rfl, hg1, hb1, x1⟩
      have v1 := hv.ex x1
      have hcell := v1.cell k (v := .slice none 0 0) (by
        simp only [List.getElem?_toArray]
        rw [List.getElem?_append_right (by rw [hdr_len (by omega)]; omega), List.getElem?_replicate, hdr_len (by omega), if_pos (by omega)])
      have hfz := v1.frozen k
      have v2 := v1.set_ k (.slice (some ⟨g1, 0, none⟩) r.length r.length)
      have hset : (hdr gs rows ++ List.replicate (rows.length - k) (Value.slice none 0 0)).toArray.setIfInBounds k (.slice (some ⟨g1, 0, none⟩) r.length r.length) = (hdr (gs ++ [g1]) rows ++ List.replicate (rows.length - (k + 1)) (Value.slice none 0 0)).toArray := by
        rw [List.setIfInBounds_toArray, hdr_snoc (by rw [hgs]; exact Hr.out), List.set_append_right _ _ (by rw [hdr_len (by omega)]; omega), hdr_len (by omega), hgs, Nat.sub_self,
          show rows.length - k = rows.length - (k + 1) + 1 by omega, List.replicate_succ, List.set_cons_zero, List.append_assoc]
        rfl
      rw [hset] at v2
      have x2 : Ex1 w.heap.size w1 (w1.setCell ⟨w.heap.size, k, none⟩ (.slice (some ⟨g1, 0, none⟩) r.length r.length)) := (Ex1.refl _ _).setCell rfl _
      have hb2 := hb1.ex1 x2 (by have := hv.lt; omega)
      have he2 := (he.trans x1).ex1 x2 (Nat.le_refl _)
      have hrow' : ∀ (j h : Nat) (q : List Int), (gs ++ [g1])[j]? = some h → rows[j]? = some q → w.heap.size < h ∧ Blk (w1.setCell ⟨w.heap.size, k, none⟩ (.slice (some ⟨g1, 0, none⟩) r.length r.length)) h q := by
        intro j h q hg hq
        rw [List.getElem?_append] at hg
        split at hg
        · have := Hrow.out j h q hg hq
          exact ⟨this.1, (this.2.ex x1).ex1 x2 (by omega)⟩
        · rename_i hj
          have hjk : j = k := by
            have := (List.getElem?_eq_some_iff.1 hg).1
            simp at this; omega
          subst hjk
          rw [hgs, Nat.sub_self] at hg
          injection hg with hg
          subst hg
          rw [Hr.out] at hq
          injection hq with hq
          subst hq
          exact ⟨by have := hv.lt; omega, hb2⟩
      have hup' : (gs ++ [g1]).Pairwise (· < ·) := List.pairwise_append.2 ⟨Hup.out, List.pairwise_singleton _ _, fun a ha b hb => by
        simp at hb; subst hb; have := Hlt.out a ha; omega⟩
      have hlt' : ∀ h ∈ gs ++ [g1], h < (w1.setCell ⟨w.heap.size, k, none⟩ (.slice (some ⟨g1, 0, none⟩) r.length r.length)).heap.size := fun h hh => by
        have s2 := x2.size
        have s1 := x1.size
        rcases List.mem_append.1 hh with hh | hh
        · have := Hlt.out h hh; omega
        · simp at hh; subst hh; have := hb2.lt; exact this
      have Hrow' := Lib.hid hrow'
      have Hup' := Lib.hid hup'
      have Hlt' := Lib.hid hlt'
      have Hgs := Lib.hid hgs
      clear hrow' hup' hlt' hset hgs
      go_wp2
      go_roundw
      case rel => exact ⟨k + 1, gs ++ [g1], by omega, by rw [List.length_append, Hgs.out]; rfl, by go_num, v2, Hrow', Hup', Hlt', he2⟩
      case measure => simp [intOf] <;> omega
    · obtain rfl : k = rows.length := by omega
      have Hgs := Lib.hid hgs
      clear hgs
      go_wp2
      go_ret
      refine ⟨_, gs, rfl, ⟨Nat.le_refl _, Hgs.out, by simpa using hv, Hrow.out, Hup.out⟩, he⟩
set_option maxHeartbeats 2000000 in
theorem eqIntSS_c (A A' : Option Addr) (c c' : Nat) (rows : List (List Int)) (w : World) (h : RdM w A rows) (h' : RdM w A' rows) :
    Calls Tryd.prog 31 #[.slice A rows.length c, .slice A' rows.length c'] w fun e w' => e = .returned (.bool true) ∧ Ex w w' := by
  have hl := h.1
  go_enter Tryd.func31, Tryd.ntmps31
  go_wp2
  go_loopw [5] (fun i wr => ∃ k : Nat, k ≤ rows.length ∧ i = .int .i64 k ∧ Ex w wr) (fun i _ => rows.length - (intOf i).toNat)
  case atStart => exact ⟨0, Nat.zero_le _, rfl, Ex.refl w⟩
  case round =>
    obtain ⟨k, hk, rfl, he⟩ := hrel
    by_cases hlt : k < rows.length
    · obtain ⟨g, off, B, d, r, rfl, hr, hc, hrd⟩ := (h.ex he).at_ hlt
      obtain ⟨g', off', B', d', r', rfl, hr', hc', hrd'⟩ := (h'.ex he).at_ hlt
      obtain rfl : r = r' := by rw [hr] at hr'; injection hr'
      clear hr hr'
      go_wp2_with fail
      go_region_with (go_at_call 18; refine (eqIntS_c B B' d d' r _ hrd.drew hrd'.drew).mono ?_; rintro e w1 ⟨rfl, x1⟩)
      all_goals go_wp2
      all_goals exact ⟨⟨k + 1, by omega, by go_num, he.drew.trans x1⟩, by simp [intOf] <;> omega⟩
    · obtain rfl : k = rows.length := by omega
      go_wp2
      go_ret
      exact ⟨rfl, he⟩
end Go.Proofs.YtmekhjnhcgmphaaDoor
