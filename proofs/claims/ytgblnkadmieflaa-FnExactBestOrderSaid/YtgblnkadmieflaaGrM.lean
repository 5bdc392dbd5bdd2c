/- Contracts: the levels of the edges, on both sides. -/
import Derived.Test.YtgblnkadmieflaaGrV
namespace Go.Proofs.Ytgblnkadmieflaa
set_option maxRecDepth 100000
open Go Go.RowKit
def lvS (e : Int) (out : List Int) (f : Int) : List Int := out.set e.toNat (max (out.getD e.toNat 0) (out.getD f.toNat 0 + 1))
def lvR (es : List Ed) (out : List Int) (e : Int) : List Int := (ndF es e).foldl (lvS e) out
def levL (es : List Ed) : List Int := (orderL es).foldl (lvR es) (List.replicate es.length 0)
theorem lvS_len (e : Int) (out : List Int) (f : Int) : (lvS e out f).length = out.length := by simp [lvS]
theorem lvF_len (e : Int) : ∀ (l : List Int) (out : List Int), (l.foldl (lvS e) out).length = out.length
  | [], out => rfl
  | f :: l, out => by rw [List.foldl_cons, lvF_len e l, lvS_len]
theorem lvR_len (es : List Ed) (out : List Int) (e : Int) : (lvR es out e).length = out.length := lvF_len e _ out
theorem lvO_len (es : List Ed) : ∀ (l : List Int) (out : List Int), (l.foldl (lvR es) out).length = out.length
  | [], out => rfl
  | e :: l, out => by rw [List.foldl_cons, lvO_len es l, lvR_len]
theorem levL_len (es : List Ed) : (levL es).length = es.length := by rw [levL, lvO_len, List.length_replicate]
def Bd (out : List Int) (c : Int) : Prop := ∀ i : Nat, 0 ≤ out.getD i 0 ∧ out.getD i 0 ≤ c
theorem Bd.rep (n : Nat) : Bd (List.replicate n 0) 0 := fun i => by
  rw [List.getD_eq_getElem?_getD, List.getElem?_replicate]
  split <;> simp
theorem Bd.step {out : List Int} {c : Int} (h : Bd out c) (e f : Int) : Bd (lvS e out f) (c + 1) := fun i => by
  have h1 := h e.toNat
  have h2 := h f.toNat
  have h3 := h i
  unfold lvS
  rw [List.getD_eq_getElem?_getD, List.getElem?_set]
  split
  · split
    · simp only [Option.getD_some]; omega
    · simp; omega
  · rw [← List.getD_eq_getElem?_getD]; omega
theorem Bd.mono {out : List Int} {c d : Int} (h : Bd out c) (hd : c ≤ d) : Bd out d := fun i => by have := h i; omega
theorem Bd.fold {e : Int} : ∀ (l : List Int) {out : List Int} {c : Int}, Bd out c → Bd (l.foldl (lvS e) out) (c + l.length)
  | [], out, c, h => by simpa using h
  | f :: l, out, c, h => by
    rw [List.foldl_cons, List.length_cons]
    exact (Bd.fold l (h.step e f)).mono (by push_cast; omega)
theorem Bd.folds (es : List Ed) : ∀ (l : List Int) {out : List Int} {c : Int}, Bd out c → Bd (l.foldl (lvR es) out) (c + es.length * l.length)
  | [], out, c, h => by simpa using h
  | e :: l, out, c, h => by
    rw [List.foldl_cons, List.length_cons]
    have h1 := (Bd.fold (e := e) (ndF es e) h).mono (d := c + es.length) (by have := ndF_len es e; omega)
    refine (Bd.folds es l h1).mono ?_
    push_cast
    rw [Int.mul_add]
    omega
theorem Bd.lev (es : List Ed) : Bd (levL es) (es.length * es.length) := by
  have := Bd.folds es (orderL es) (Bd.rep es.length)
  refine this.mono ?_
  have h := orderL_len es
  have : (es.length : Int) * ((orderL es).length : Int) ≤ (es.length : Int) * (es.length : Int) := Int.mul_le_mul_of_nonneg_left (by omega) (by omega)
  omega
theorem fold_take_succ {β : Type} (f : β → Int → β) (b : β) {l : List Int} {k : Nat} {x : Int} (h : l[k]? = some x) : (l.take (k + 1)).foldl f b = f ((l.take k).foldl f b) x := by
  rw [List.take_add_one, h]
  simp
theorem getD_some {l : List Int} {i : Nat} (h : i < l.length) : l[i]? = some (l.getD i 0) := by
  rw [List.getD_eq_getElem?_getD, List.getElem?_eq_getElem h]; rfl
def levU (x : Gr) : List Int × Bool := if acyB x then (levL x.es, true) else ([], false)
theorem levU_no {x : Gr} (h : acyB x = false) : levU x = ([], false) := by simp [levU, h]
theorem levU_yes {x : Gr} (h : acyB x = true) : levU x = (levL x.es, true) := by simp [levU, h]
theorem Rows2.rowO {w : World} {g hi : Nat} {vs : List Value} {rows : List (List Int)} (h : Rows2 w g hi vs rows) {j : Nat} {r : List Int} (hr : rows[j]? = some r) : ∃ P pc, w.cell? ⟨g, j, none⟩ = some (.slice P r.length pc) ∧ OI w 0 hi (.slice P r.length pc) r := by
  have hl := (List.getElem?_eq_some_iff.1 hr).1
  obtain ⟨v, hv⟩ : ∃ v, vs[j]? = some v := ⟨_, List.getElem?_eq_getElem (by rw [h.2.1]; exact hl)⟩
  have ho := h.2.2.1 j v r hv hr
  obtain ⟨P, pc, rfl, hR⟩ := ho.rd
  exact ⟨P, pc, h.1.cell j (by rw [List.getElem?_toArray]; exact hv), ho⟩
theorem OI.at_ {w : World} {a b c : Nat} {A : Option Addr} {xs : List Int} (h : OI w a b (.slice A xs.length c) xs) : Rd w A xs := by
  obtain ⟨A', c', e, f⟩ := h
  injection e with e1 _ _
  subst e1
  exact f.rd
end Go.Proofs.Ytgblnkadmieflaa
