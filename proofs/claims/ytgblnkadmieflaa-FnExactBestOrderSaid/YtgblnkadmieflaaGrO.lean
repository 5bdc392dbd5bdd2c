/- The order of edges, in plain terms: the least that may be next comes next. -/
import Derived.Test.YtgblnkadmieflaaGrB
namespace Go.Proofs.Ytgblnkadmieflaa
set_option maxRecDepth 100000
def meetB (a b : List Int) : Bool := a.any fun w => decide (w ∈ b)
theorem meetB_comm (a b : List Int) : meetB a b = meetB b a := by
  unfold meetB
  rw [Bool.eq_iff_iff]
  simp only [List.any_eq_true, decide_eq_true_eq]
  constructor
  · rintro ⟨w, h1, h2⟩; exact ⟨w, h2, h1⟩
  · rintro ⟨w, h1, h2⟩; exact ⟨w, h2, h1⟩
def edAt (es : List Ed) (i : Int) : Ed := es.getD i.toNat ⟨0, 0, [], []⟩
theorem edAt_nat {es : List Ed} {i : Nat} {e : Ed} (h : es[i]? = some e) : edAt es (i : Int) = e := by simp [edAt, List.getD_eq_getElem?_getD, h]
/-- What edge i needs. -/
def ndF (es : List Ed) (i : Int) : List Int := (upL es.length).filter fun k => meetB (edAt es i).ins (edAt es k).outs
def ndR (es : List Ed) : List (List Int) := (upL es.length).map (ndF es)
theorem ndR_len (es : List Ed) : (ndR es).length = es.length := by simp [ndR, upL_len]
theorem ndR_at {es : List Ed} {i : Nat} (h : i < es.length) : (ndR es)[i]? = some (ndF es i) := by rw [ndR, List.getElem?_map, upL_at h]; rfl
theorem ndF_mem {es : List Ed} {i k : Int} (h : k ∈ ndF es i) : 0 ≤ k ∧ k < es.length := by
  obtain ⟨j, hj, rfl⟩ := List.mem_map.1 (List.mem_filter.1 h).1
  have := List.mem_range.1 hj
  exact ⟨Int.natCast_nonneg _, by show (j : Int) < _; omega⟩
theorem ndF_len (es : List Ed) (i : Int) : (ndF es i).length ≤ es.length := by
  have := List.length_filter_le (fun k => meetB (edAt es i).ins (edAt es k).outs) (upL es.length)
  rw [upL_len] at this
  exact this
def isM (nd : Int → List Int) (S : Int → Bool) (i : Int) : Bool := S i && !((nd i).any S)
def nxM (nd : Int → List Int) (n : Nat) (op : List Bool) : Int := idxP (isM nd (SL op)) (upL n)
def schM (nd : Int → List Int) (n : Nat) : Nat → List Bool → List Int
  | 0, _ => []
  | f + 1, op => if nxM nd n op < 0 then [] else nxM nd n op :: schM nd n f (op.set (nxM nd n op).toNat false)
theorem nxM_cases (nd : Int → List Int) (n : Nat) (op : List Bool) : (nxM nd n op < 0) ∨ ∃ i : Nat, i < n ∧ nxM nd n op = i ∧ isM nd (SL op) i = true ∧ op[i]? = some true := by
  rcases idxP_cases (isM nd (SL op)) n with ⟨h, h2⟩ | ⟨i, hi, h, hp⟩
  · left; unfold nxM; omega
  · right
    refine ⟨i, hi, h, hp, ?_⟩
    have : SL op i = true := by unfold isM at hp; simp at hp; exact hp.1
    rw [SL_nat, List.getD_eq_getElem?_getD] at this
    cases e : op[i]? with
    | none => rw [e] at this; cases this
    | some v => rw [e] at this; simp at this; rw [this]
theorem schM_end (nd : Int → List Int) (n f : Nat) {op : List Bool} (h : nxM nd n op < 0) : schM nd n f op = [] := by
  cases f with
  | zero => rfl
  | succ f => rw [schM, if_pos h]
theorem schM_next (nd : Int → List Int) (n f : Nat) {op : List Bool} {i : Nat} (h : nxM nd n op = i) : schM nd n (f + 1) op = (i : Int) :: schM nd n f (op.set i false) := by
  rw [schM, if_neg (by omega), h, Int.toNat_natCast]
theorem schM_len (nd : Int → List Int) (n : Nat) : ∀ (f : Nat) (op : List Bool), (schM nd n f op).length ≤ f
  | 0, _ => by simp [schM]
  | f + 1, op => by
    rw [schM]
    split
    · simp
    · have := schM_len nd n f (op.set (nxM nd n op).toNat false)
      simp only [List.length_cons]; omega
theorem schM_mem (nd : Int → List Int) (n : Nat) : ∀ (f : Nat) (op : List Bool), ∀ k ∈ schM nd n f op, 0 ≤ k ∧ k < n
  | 0, _, k, h => by simp [schM] at h
  | f + 1, op, k, h => by
    rw [schM] at h
    split at h
    · simp at h
    · rename_i hn
      rcases List.mem_cons.1 h with rfl | h
      · rcases nxM_cases nd n op with h' | ⟨i, hi, h', _⟩ <;> omega
      · exact schM_mem nd n f _ k h
def orderL (es : List Ed) : List Int := schM (ndF es) es.length es.length (List.replicate es.length true)
theorem orderL_len (es : List Ed) : (orderL es).length ≤ es.length := schM_len _ _ _ _
theorem orderL_mem {es : List Ed} {k : Int} (h : k ∈ orderL es) : 0 ≤ k ∧ k < es.length := schM_mem _ _ _ _ k h
def acyB (x : Gr) : Bool := validB x && decide ((orderL x.es).length = x.es.length)
def ordU (x : Gr) : List Int × Bool := if acyB x then (orderL x.es, true) else ([], false)
end Go.Proofs.Ytgblnkadmieflaa
