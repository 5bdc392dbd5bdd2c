/- Reading the text of a polynomial: the reference's answer is the polynomial with that text, if there is one. -/
import Derived.Test.YtfggacnkediolaaGreatDoorPpA
import Derived.Test.YtfggacnkediolaaGreatDoorPtC
namespace Go.Proofs.YtfggacnkediolaaGreatDoor
set_option maxRecDepth 100000
open Go
def OKo (p : Int) (o : List Int) : Prop := o.length ≤ 41 ∧ (∀ x ∈ o, 0 ≤ x ∧ x < p) ∧ (o = [] ∨ cf o (o.length - 1) ≠ 0)
def GoodT (p : Int) (z : Int × Int) : Prop := 1 ≤ z.1 ∧ z.1 ≤ p - 1 ∧ 0 ≤ z.2 ∧ z.2 ≤ 40
instance (p : Int) (z : Int × Int) : Decidable (GoodT p z) := by unfold GoodT; infer_instance
theorem putT_len (o : List Int) (z : Int × Int) : (putT o z).length = max o.length (z.2.toNat + 1) := by
  simp [putT]; omega
theorem putT_ok {p : Int} {o : List Int} {z : Int × Int} (h : OKo p o) (hz : GoodT p z) : OKo p (putT o z) := by
  obtain ⟨h1, h2, h3⟩ := h
  obtain ⟨z1, z2, z3, z4⟩ := hz
  have hlen := putT_len o z
  refine ⟨by rw [hlen]; omega, fun x hx => ?_, .inr ?_⟩
  · unfold putT at hx
    rcases List.mem_or_eq_of_mem_set hx with hx | rfl
    · rcases List.mem_append.1 hx with hx | hx
      · exact h2 x hx
      · rw [(List.mem_replicate.1 hx).2]; omega
    · omega
  · rw [hlen]
    by_cases hb : o.length ≤ z.2.toNat + 1
    · have e : max o.length (z.2.toNat + 1) - 1 = z.2.toNat := by omega
      rw [e]
      have : (putT o z)[z.2.toNat]? = some z.1 := by
        unfold putT
        rw [List.getElem?_set_self (by simp; omega)]
      rw [cf_of this]; omega
    · have e : max o.length (z.2.toNat + 1) - 1 = o.length - 1 := by omega
      rw [e]
      have : cf (putT o z) (o.length - 1) = cf o (o.length - 1) := by
        unfold cf putT
        rw [List.getElem?_set_ne (by omega), List.getElem?_append_left (by omega)]
      rw [this]
      rcases h3 with rfl | h3
      · simp at hb
      · exact h3
theorem OKo.poly {p : Int} {o : List Int} (hF : fieldB p = true) (h : OKo p o) : polyB p o = true := by
  obtain ⟨h1, h2, h3⟩ := h
  simp only [polyB, hF, Bool.true_and, Bool.and_eq_true, Bool.or_eq_true, decide_eq_true_eq]
  refine ⟨⟨h1, allEl_of fun i x hx => h2 x (List.mem_of_getElem? hx)⟩, ?_⟩
  rcases h3 with rfl | h3
  · left; rfl
  · right; exact h3
/-- What the reference's reader makes of the terms. -/
def psO (p : Int) : List (List UInt8) → List Int → Option (List Int)
  | [], o => some o
  | t :: r, o => if GoodT p (tmS t) then psO p r (putT o (tmS t)) else none
theorem psO_ok {p : Int} : ∀ {ts : List (List UInt8)} {o o' : List Int}, OKo p o → psO p ts o = some o' → OKo p o'
  | [], o, o', h, e => by
    injection e with e
    rw [← e]; exact h
  | t :: r, o, o', h, e => by
    unfold psO at e
    split at e
    · rename_i hz
      exact psO_ok (putT_ok h hz) e
    · cases e
theorem psO_full {p : Int} (h97 : p ≤ 97) : ∀ (zs : List (Nat × Int)) (o : List Int), (∀ z ∈ zs, 1 ≤ z.2 ∧ z.2 ≤ p - 1 ∧ z.1 < 41) → psO p (zs.map fun z => ptT z.2 z.1) o = some (zs.foldl (fun o z => putT o (z.2, (z.1 : Int))) o)
  | [], _, _ => rfl
  | z :: zs, o, h => by
    obtain ⟨h1, h2, h3⟩ := h z (by simp)
    rw [List.map_cons, psO, tmS_ptT h1 (by omega) h3, if_pos ⟨h1, h2, by simp, by simp; omega⟩]
    exact psO_full h97 zs _ fun y hy => h y (by simp [hy])
/-- What the reference's reader answers. -/
def psS (p : Int) (s : List UInt8) : List Int × Bool :=
  if fieldB p = true then
    if s = [48] then ([], true) else match psO p (spl 43 s) [] with
      | none => ([], false)
      | some o => if ptX o = s then (o, true) else ([], false)
  else ([], false)
theorem upto_good {p : Int} {f : List Int} (h : polyB p f = true) (k : Nat) (hk : k ≤ f.length) : ∀ z ∈ (upto (bwAt f) k).filter (fun z => z.2 != 0), 1 ≤ z.2 ∧ z.2 ≤ p - 1 ∧ z.1 < 41 := by
  have hP := polyB_parts h
  intro z hz
  obtain ⟨hz, hn⟩ := List.mem_filter.1 hz
  unfold upto at hz
  obtain ⟨j, hj, rfl⟩ := List.mem_map.1 hz
  have hj := List.mem_range.1 hj
  obtain ⟨b1, b2, b3, b4, b5⟩ := bw_small (k := j) (f := f) (by omega) hP.2.1 (all_bd h).2
  have := allEl_at hP.2.2.1 b4
  have hn : (bwAt f j).2 ≠ 0 := by simpa using hn
  exact ⟨by omega, by omega, b1⟩
theorem ptX_parts {p : Int} {f : List Int} (h : polyB p f = true) (hne : f ≠ []) :
    spl 43 (ptX f) = ptL (upto (bwAt f) f.length) ∧ psO p (spl 43 (ptX f)) [] = some f ∧ ptX f ≠ [48] := by
  have hP := polyB_parts h
  have h97 := fieldB_hi hP.1
  have hpos : 0 < f.length := List.length_pos_iff.2 hne
  have hlast : f.getLast hne ≠ 0 := by
    have h3 := h
    simp only [polyB, Bool.and_eq_true, Bool.or_eq_true, decide_eq_true_eq] at h3
    rcases h3.2 with h3 | h3
    · omega
    · rw [List.getLast_eq_getElem]
      rwa [cf_of (List.getElem?_eq_getElem (show f.length - 1 < f.length by omega))] at h3
  have hg := upto_good h f.length (Nat.le_refl _)
  have hfull := psO_full h97 _ [] hg
  rw [put_all hne hlast f.length hpos (Nat.le_refl _), Nat.sub_self, List.replicate_zero, List.nil_append, List.drop_zero] at hfull
  have hLne : ptL (upto (bwAt f) f.length) ≠ [] := by
    intro e
    unfold ptL at e
    rw [e] at hfull
    injection hfull with hfull
    exact hne hfull.symm
  have hX : ptX f = Lib.join (ptL (upto (bwAt f) f.length)) [43] := by
    unfold ptX ptJ
    rw [if_neg fun e => hLne ((join_nil_iff ptL_ne).1 e)]
  have hS : spl 43 (ptX f) = ptL (upto (bwAt f) f.length) := by
    rw [hX]
    refine spl_join hLne fun t ht => ?_
    obtain ⟨z, hz, rfl⟩ := List.mem_map.1 ht
    obtain ⟨g1, g2, g3⟩ := hg z hz
    exact ptT_plus (by omega) (by omega) g3
  refine ⟨hS, by rw [hS]; exact hfull, fun e => ?_⟩
  rw [e] at hS
  rw [← hS] at hLne
  have e2 : spl 43 [48] = [[48]] := by rfl
  have hmem : ([48] : List UInt8) ∈ ptL (upto (bwAt f) f.length) := by rw [← hS, e2]; simp
  obtain ⟨z, hz, hzt⟩ := List.mem_map.1 hmem
  obtain ⟨g1, g2, g3⟩ := hg z hz
  have h4 := tmS_ptT g1 (by omega) g3
  rw [hzt] at h4
  have h5 : (tmS [48]).1 = 0 := by rfl
  rw [h4] at h5
  simp only at h5
  omega
theorem psS_yes {p : Int} {f : List Int} (h : polyB p f = true) : psS p (ptX f) = (f, true) := by
  have hF := (polyB_parts h).1
  unfold psS
  rw [if_pos hF]
  by_cases hne : f = []
  · subst hne
    rfl
  · obtain ⟨_, h2, h3⟩ := ptX_parts h hne
    rw [if_neg h3, h2]
    simp
theorem psS_no {p : Int} {s : List UInt8} (h : ∀ f, polyB p f = true → ptX f ≠ s) : psS p s = ([], false) := by
  unfold psS
  by_cases hF : fieldB p = true
  · rw [if_pos hF]
    have h0 : OKo p [] := ⟨by simp, by simp, .inl rfl⟩
    by_cases h48 : s = [48]
    · exact (h [] (h0.poly hF) (by rw [h48]; rfl)).elim
    · rw [if_neg h48]
      cases ho : psO p (spl 43 s) [] with
      | none => rfl
      | some o => exact if_neg (h o ((psO_ok h0 ho).poly hF))
  · rw [if_neg hF]
end Go.Proofs.YtfggacnkediolaaGreatDoor
