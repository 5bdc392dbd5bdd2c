/- A slice of structs, opened: at each index its cells. Arguments opened, in the uniform words: lists of fractions. Arguments opened, in the uniform words: lists of lists of fractions. Arguments opened: lists of lists of ints; structs field by field. -/
import Derived.Test.YtmekhjnhcgmphaaDoorAp03
import Derived.Deep.Fields
import Derived.Test.YtmekhjnhcgmphaaDoorAp10
import Derived.Test.YtmekhjnhcgmphaaDoorAp14
import Derived.Test.YtmekhjnhcgmphaaDoorLawSpace
namespace Go.Proofs.YtmekhjnhcgmphaaDoor
set_option maxRecDepth 100000
open Go.ChangeShapes Go.WideShapes Go.ChangeAt Go.RowKit Go.Joins Go.Deep
/-- A struct of fields of one cell each, opened. -/
theorem open_agg_all {H : Type} {enc : TypeId × Value → H} {P : Program} {W : World} {base b0 : Nat} {sp : Nat → Bool} {hd : Bool} {r : Reach} {t : TypeId} {fs : Array Field} {v : Value} {d : DataW H} {p : List MemPlace}
    (hs : P.underlying t = some (.struct fs)) (hone : oneCellFields P fs = true) (hC : P.cellsOf t = fs.size) (hv : Value.okWide P W r b0 t v) (h : DataW.Trod enc P W base sp hd t v d p) :
    ∃ cs : Array Value, v = .agg cs ∧ cs.size = fs.size ∧ ∀ (i : Nat) (f : Field) (u : Value), fs[i]? = some f → cs[i]? = some u → ∃ y n, DataW.trod enc P W base sp hd n f.type [u] = some y := by
  obtain ⟨cs, rfl, hsz⟩ := okWide_struct hs hv
  obtain ⟨fuel, hf⟩ := h
  obtain ⟨xs, n, _, _, hl, hlen, hfld⟩ := DataW.trod_struct hs hf
  refine ⟨cs, rfl, hsz.trans hC, fun i f u hi hu => ?_⟩
  obtain ⟨o, k⟩ := hone_of hone i f hi
  have h1 := hfld i f hi
  rw [o, k] at h1
  have hlt : i < fs.size := (Array.getElem?_eq_some_iff.1 hi).1
  rw [List.getElem?_eq_getElem (by omega)] at h1
  have hc : (List.take 1 (List.drop i (Value.agg cs).cells.toList)) = [u] := by
    have hk : i < cs.toList.length := by simpa using (Array.getElem?_eq_some_iff.1 hu).1
    have hu' : cs.toList[i] = u := by simpa using (Array.getElem?_eq_some_iff.1 hu).2
    show List.take 1 (List.drop i cs.toList) = [u]
    rw [List.drop_eq_getElem_cons hk, hu']
    rfl
  rw [hc] at h1
  exact ⟨_, _, h1⟩
end Go.Proofs.YtmekhjnhcgmphaaDoor
namespace Go.Proofs.YtmekhjnhcgmphaaDoor
set_option maxRecDepth 100000
open Go.ChangeShapes Go.WideShapes Go.ChangeAt Go.RowKit Go.Joins Go.Deep
/-- What a fraction's cells hold. -/
structure FrH where
  P : Option Addr
  m : Nat
  pc : Nat
  Q : Option Addr
  l : Nat
  qc : Nat
  z : Int
end Go.Proofs.YtmekhjnhcgmphaaDoor
namespace Go.Proofs.YtmekhjnhcgmphaaDoor
set_option maxRecDepth 100000
open Go.ChangeShapes Go.WideShapes Go.ChangeAt Go.RowKit Go.Joins Go.Deep
/-- What a row's cell holds. -/
structure FsH where
  v : Value
  z : Int
end Go.Proofs.YtmekhjnhcgmphaaDoor
namespace Go.Proofs.YtmekhjnhcgmphaaDoor
set_option maxRecDepth 100000
open Go.ChangeShapes Go.WideShapes Go.ChangeAt Go.RowKit Go.Joins Go.Deep
/-- Choices made one by one. -/
theorem choose_rows : ∀ {P : Nat → List Int → Prop} (ns : List Nat), (∀ i n, ns[i]? = some n → ∃ xs : List Int, xs.length = n ∧ P i xs) → ∃ rows : List (List Int), rows.map List.length = ns ∧ ∀ i r, rows[i]? = some r → P i r
  | _, [], _ => ⟨[], rfl, fun i r h => by simp at h⟩
  | P, n :: ns, h => by
    obtain ⟨xs, hx, p⟩ := h 0 n rfl
    obtain ⟨rows, hr, q⟩ := choose_rows (P := fun i => P (i + 1)) ns (fun i m hi => h (i + 1) m (by simpa using hi))
    refine ⟨xs :: rows, by simp [hx, hr], fun i r hi => ?_⟩
    cases i with
    | zero => simp at hi; subst hi; exact p
    | succ i => exact q i r (by simpa using hi)
theorem choose_lens : ∀ (len : Nat) {Q : Nat → Nat → Prop}, (∀ i, i < len → ∃ n, Q i n) → ∃ ns : List Nat, ns.length = len ∧ ∀ i n, ns[i]? = some n → Q i n
  | 0, _, _ => ⟨[], rfl, fun i n h => by simp at h⟩
  | len + 1, Q, h => by
    obtain ⟨m, hm⟩ := h 0 (by omega)
    obtain ⟨ns, hl, q⟩ := choose_lens len (Q := fun i => Q (i + 1)) (fun i hi => h (i + 1) (by omega))
    refine ⟨m :: ns, by simp [hl], fun i n hi => ?_⟩
    cases i with
    | zero => simp at hi; subst hi; exact hm
    | succ i => exact q i n (by simpa using hi)
theorem mem_le_sum : ∀ (ns : List Nat) (n : Nat), n ∈ ns → n ≤ ns.sum
  | [], n, h => by cases h
  | m :: ns, n, h => by
    rw [List.sum_cons]
    rcases List.mem_cons.1 h with e | e
    · omega
    · have := mem_le_sum ns n e; omega
theorem cellsSlice : Tryd.prog.cellsOf 38 = 1 := by kernel_rfl
/-- A list of lists of ints from its reading: the lengths first; the rows, if they are not too long. -/
theorem open_m {H : Type} {enc : TypeId × Value → H} {W : World} {base fuel : Nat} {sp : Nat → Bool} {hd : Bool} {v : Value} {x : DataW H × List MemPlace}
    (h : DataW.trod enc Tryd.prog W base sp hd fuel 22 [v] = some x) :
    ∃ (A : Option Addr) (c : Nat) (ns : List Nat), v = .slice A ns.length c ∧ ns.length ≤ 9223372036854775807 ∧ RdH W A ns ∧ (ns.length + ns.sum ≤ 1099511627776 → ∃ rows, rows.map List.length = ns ∧ RdM W A rows) := by
  rcases DataW.trod_slice Tryd.underlying22 h with ⟨hcs, _⟩ | ⟨a, len, cap, elems, rest, n, _, hcs, _, _, hl, hm, hlen, hel, _, _⟩
  · injection hcs with hcs
    subst hcs
    exact ⟨none, 0, [], rfl, by simp, fun j n hj => by simp at hj, fun _ => ⟨[], rfl, by simp, fun j r hj => by simp at hj⟩⟩
  · injection hcs with hcs
    subst hcs
    have each : ∀ i, i < len → ∃ A n c, W.cell? (a.add i) = some (.slice A n c) ∧ n ≤ 9223372036854775807 ∧ (n ≤ 1099511627776 → ∃ xs, xs.length = n ∧ Rd W A xs) := by
      intro i hi
      have h1 := hel i hi
      rw [List.getElem?_eq_getElem (by omega), cellsSlice, Nat.mul_one, Option.bind_eq_some_iff] at h1
      obtain ⟨cs', hc', hy⟩ := h1
      have hl1 : cs'.length = 1 := (World.cells?_some hc').2.1
      match cs', hl1 with
      | [u], _ =>
        obtain ⟨A, n, c, rfl, hn, hr⟩ := open_t hy
        exact ⟨A, n, c, cell_of_cells?_one hc', hn, hr⟩
    obtain ⟨ns, hns, hcell⟩ : ∃ ns : List Nat, ns.length = len ∧ ∀ i n, ns[i]? = some n → ∃ A c, W.cell? (a.add i) = some (.slice A n c) ∧ n ≤ 9223372036854775807 ∧ (n ≤ 1099511627776 → ∃ xs, xs.length = n ∧ Rd W A xs) := by
      exact choose_lens len (fun i hi => by
        obtain ⟨A, n, c, h1, h2, h3⟩ := each i hi
        exact ⟨n, A, c, h1, h2, h3⟩)
    have flat : ∀ i n, ns[i]? = some n → ∃ g off A c, some a = some ⟨g, off, none⟩ ∧ W.cell? ⟨g, off + i, none⟩ = some (.slice A n c) ∧ n ≤ 9223372036854775807 ∧ (n ≤ 1099511627776 → ∃ xs, xs.length = n ∧ Rd W A xs) := by
      intro i n hi
      obtain ⟨A, c, hc, hn, hr⟩ := hcell i n hi
      obtain ⟨g, off, spot⟩ := a
      cases spot with
      | some s =>
        exfalso
        have h0 : 0 < len := by have := (List.getElem?_eq_some_iff.1 hi).1; omega
        obtain ⟨A0, c0, hc0, _⟩ := hcell 0 _ (List.getElem?_eq_getElem (by omega : 0 < ns.length))
        have e0 : (⟨g, off, some s⟩ : Addr).add 0 = ⟨g, off, some s⟩ := by simp [Addr.add]
        rw [e0] at hc0
        unfold World.cell? at hc0
        split at hc0 <;> simp at hc0
      | none =>
        have e : ((⟨g, off, none⟩ : Addr).add i) = ⟨g, off + i, none⟩ := by unfold Addr.add; split <;> simp_all
        rw [e] at hc
        exact ⟨g, off, A, c, rfl, hc, hn, hr⟩
    refine ⟨some a, cap, ns, by rw [hns], by rw [hns]; unfold maxLen at hm; omega, fun j n hj => ?_, fun hsum => ?_⟩
    · obtain ⟨g, off, A, c, hA, hc, hn, _⟩ := flat j n hj
      exact ⟨hn, g, off, A, c, hA, hc⟩
    · have hsm : ∀ n ∈ ns, n ≤ 1099511627776 := fun n hn => by have := mem_le_sum ns n hn; omega
      obtain ⟨rows, hrows, hrd⟩ := choose_rows (P := fun i r => ∃ g off A c, some a = some ⟨g, off, none⟩ ∧ W.cell? ⟨g, off + i, none⟩ = some (.slice A r.length c) ∧ Rd W A r) ns (fun i n hi => by
        obtain ⟨g, off, A, c, e1, e2, _, e4⟩ := flat i n hi
        obtain ⟨xs, hx, hr⟩ := e4 (hsm n (List.mem_of_getElem? hi))
        subst hx
        exact ⟨xs, rfl, g, off, A, c, e1, e2, hr⟩)
      refine ⟨rows, hrows, by have := congrArg List.length hrows; simp at this; omega, hrd⟩
end Go.Proofs.YtmekhjnhcgmphaaDoor
