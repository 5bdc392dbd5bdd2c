/- Reading the text of a polynomial: the program's answer, in plain terms, is the polynomial with that text, if there is one. -/
import Derived.Test.YtfggacnkediolaaGreatDoorPpB
import Derived.Lib.Atoi
namespace Go.Proofs.YtfggacnkediolaaGreatDoor
set_option maxRecDepth 100000
open Go
/-- A number of at most four bytes, as itself would be written. -/
def nuL (s : List UInt8) : Option Int := if s.length ≤ 4 then match Lib.atoi s with
  | some n => if Lib.itoa n = s then some n else none
  | none => none else none
theorem digitVal_of {d : Nat} (h : d < 10) : Lib.digitVal (UInt8.ofNat (48 + d)) = some d := by
  unfold Lib.digitVal
  rw [dig_nat h, if_pos (by omega)]
  simp
theorem dec_atoi {n : Nat} (h : n < 100) : Lib.atoi (Lib.decDigits n) = some (n : Int) := by
  by_cases h1 : n < 10
  · rw [dec_small h1]
    have e1 : (UInt8.ofNat (48 + n) == 45) = false := by rw [beq_eq_false_iff_ne]; exact dig_ne h1 (by decide)
    have e2 : (UInt8.ofNat (48 + n) == 43) = false := by rw [beq_eq_false_iff_ne]; exact dig_ne h1 (by decide)
    simp only [Lib.atoi, e1, e2, Lib.decNat, Lib.decFrom, digitVal_of h1]
    simp
  · rw [dec_big h1, dec_small (show n / 10 < 10 by omega)]
    have h2 : n / 10 < 10 := by omega
    have h3 : n % 10 < 10 := by omega
    have e1 : (UInt8.ofNat (48 + n / 10) == 45) = false := by rw [beq_eq_false_iff_ne]; exact dig_ne h2 (by decide)
    have e2 : (UInt8.ofNat (48 + n / 10) == 43) = false := by rw [beq_eq_false_iff_ne]; exact dig_ne h2 (by decide)
    simp only [List.cons_append, List.nil_append, Lib.atoi, e1, e2, Lib.decNat, Lib.decFrom, digitVal_of h2, digitVal_of h3]
    simp
    omega
theorem nuL_dec {n : Nat} (h : n < 100) : nuL (Lib.decDigits n) = some (n : Int) := by
  have hl := dec_len h
  unfold nuL
  rw [if_pos (by omega), dec_atoi h]
  exact if_pos (by simp [Lib.itoa])
/-- A term that the program reads: its coefficient and its exponent; none for what is no term. -/
def tmI (s : List UInt8) : Option (Int × Int) :=
  let h := s.takeWhile (· != 120)
  let k := if h = [] then some 1 else nuL h
  match s.drop h.length with
  | [] => k.map fun a => (a, 0)
  | [_] => k.map fun a => (a, 1)
  | _ :: c :: r => if c = 94 then (match k, nuL r with
    | some a, some e => some (a, e)
    | _, _ => none) else none
theorem tmI_ptT {a : Int} {e : Nat} (h1 : 1 ≤ a) (h2 : a < 97) (he : e < 41) : tmI (ptT a e) = some (a, (e : Int)) := by
  have hd : ∀ c ∈ (if a ≠ 1 ∨ e = 0 then Lib.decDigits a.toNat else []), isDig c = true := by
    split
    · exact dec_dig (by omega)
    · simp
  have hk : (if (if a ≠ 1 ∨ e = 0 then Lib.decDigits a.toNat else []) = [] then some (1 : Int) else nuL (if a ≠ 1 ∨ e = 0 then Lib.decDigits a.toNat else [])) = some a := by
    by_cases h : a ≠ 1 ∨ e = 0
    · rw [if_pos h, if_neg (dec_ne _), nuL_dec (by omega)]; congr 1; omega
    · rw [if_neg h, if_pos rfl]
      congr 1; omega
  have hform : ptT a e = (if a ≠ 1 ∨ e = 0 then Lib.decDigits a.toNat else []) ++ ((if 0 < e then [120] else []) ++ (if 1 < e then 94 :: Lib.decDigits e else [])) := by
    unfold ptT; rw [List.append_assoc]
  have hr : ((if 0 < e then [(120 : UInt8)] else []) ++ (if 1 < e then 94 :: Lib.decDigits e else [])) = [] ∨ ((if 0 < e then [(120 : UInt8)] else []) ++ (if 1 < e then 94 :: Lib.decDigits e else [])).head? = some 120 := by
    by_cases h : 0 < e
    · right; rw [if_pos h]; rfl
    · left; rw [if_neg h, if_neg (by omega)]; rfl
  have ht := take_digs hd hr
  rw [← hform] at ht
  unfold tmI
  simp only [ht]
  rw [hk, hform, List.drop_left]
  by_cases e0 : e = 0
  · subst e0
    simp
  · by_cases e1 : e = 1
    · subst e1
      simp
    · rw [if_pos (show 0 < e by omega), if_pos (show 1 < e by omega)]
      simp only [List.cons_append, List.nil_append, if_pos]
      rw [nuL_dec (by omega)]
/-- What the program makes of the terms: 41 places, filled. -/
def piO : List (List UInt8) → List Int → Option (List Int)
  | [], o => some o
  | t :: r, o => match tmI t with
    | some z => if 0 ≤ z.2 ∧ z.2 ≤ 40 then piO r (o.set z.2.toNat z.1) else none
    | none => none
/-- What the program answers. -/
def psI (p : Int) (s : List UInt8) : List Int × Bool := match piO (spl 43 s) (List.replicate 41 0) with
  | none => ([], false)
  | some o => if polyB p (trim o) = true ∧ ptX (trim o) = s then (trim o, true) else ([], false)
theorem psI_no {p : Int} {s : List UInt8} (h : ∀ f, polyB p f = true → ptX f ≠ s) : psI p s = ([], false) := by
  unfold psI
  split
  · rfl
  · exact if_neg fun e => h _ e.1 e.2
theorem piO_full {p : Int} (h97 : p ≤ 97) : ∀ (zs : List (Nat × Int)) (o : List Int), (∀ z ∈ zs, 1 ≤ z.2 ∧ z.2 ≤ p - 1 ∧ z.1 < 41) → piO (zs.map fun z => ptT z.2 z.1) o = some (zs.foldl (fun o z => o.set z.1 z.2) o)
  | [], _, _ => rfl
  | z :: zs, o, h => by
    obtain ⟨h1, h2, h3⟩ := h z (by simp)
    rw [List.map_cons, piO, tmI_ptT h1 (by omega) h3]
    simp only
    rw [if_pos ⟨by omega, by omega⟩, Int.toNat_natCast]
    exact piO_full h97 zs _ fun y hy => h y (by simp [hy])
theorem set_all {f : List Int} (hl : f.length ≤ 41) : ∀ k, k ≤ f.length → (((upto (bwAt f) k).filter fun z => z.2 != 0).foldl (fun o z => o.set z.1 z.2) (List.replicate 41 (0 : Int))).length = 41 ∧
    ∀ i, cf (((upto (bwAt f) k).filter fun z => z.2 != 0).foldl (fun o z => o.set z.1 z.2) (List.replicate 41 (0 : Int))) i = if f.length - k ≤ i then cf f i else 0
  | 0, _ => by
    refine ⟨by simp [upto], fun i => ?_⟩
    have e : cf (List.replicate 41 (0 : Int)) i = 0 := by
      unfold cf
      rw [List.getElem?_replicate]
      split <;> rfl
    simp only [upto, List.range_zero, List.map_nil, List.filter_nil, List.foldl_nil]
    rw [e]
    split
    · rw [cf_ge (by omega)]
    · rfl
  | k + 1, hk => by
    obtain ⟨h1, h2⟩ := set_all hl k (by omega)
    have e1 : (bwAt f k).2 = cf f (f.length - 1 - k) := rfl
    have e2 : (bwAt f k).1 = f.length - 1 - k := rfl
    rw [upto_succ, List.filter_append, List.foldl_append]
    by_cases hz : (bwAt f k).2 = 0
    · rw [List.filter_cons_of_neg (by simp [hz]), List.filter_nil, List.foldl_nil]
      refine ⟨h1, fun i => ?_⟩
      rw [h2 i]
      by_cases hi : i = f.length - 1 - k
      · rw [if_neg (by omega), if_pos (by omega), hi, ← e1, hz]
      · by_cases hi2 : f.length - k ≤ i
        · rw [if_pos hi2, if_pos (by omega)]
        · rw [if_neg hi2, if_neg (by omega)]
    · rw [List.filter_cons_of_pos (by simpa using hz), List.filter_nil, List.foldl_cons, List.foldl_nil]
      refine ⟨by rw [List.length_set]; exact h1, fun i => ?_⟩
      by_cases hi : i = f.length - 1 - k
      · rw [cf_of (x := (bwAt f k).2) (by rw [hi, e2, List.getElem?_set_self (by rw [h1]; omega)]), if_pos (by omega), e1, hi]
      · have h3 := h2 i
        unfold cf at h3 ⊢
        rw [List.getElem?_set_ne (by rw [e2]; omega), h3]
        by_cases hi2 : f.length - k ≤ i
        · rw [if_pos hi2, if_pos (by omega)]
        · rw [if_neg hi2, if_neg (by omega)]
theorem psI_yes {p : Int} {f : List Int} (h : polyB p f = true) : psI p (ptX f) = (f, true) := by
  have hP := polyB_parts h
  have h97 := fieldB_hi hP.1
  have key : ∃ o, piO (spl 43 (ptX f)) (List.replicate 41 0) = some o ∧ trim o = f := by
    by_cases hne : f = []
    · subst hne
      have e : spl 43 (ptX []) = [[48]] := by rfl
      have e2 : tmI [48] = some (0, 0) := by
        have := nuL_dec (n := 0) (by omega)
        rw [dec_small (by omega)] at this
        have e3 : nuL [48] = some 0 := this
        simp [tmI, e3]
      refine ⟨(List.replicate 41 (0 : Int)).set 0 0, by rw [e]; simp [piO, e2], by rfl⟩
    · obtain ⟨h2, _, _⟩ := ptX_parts h hne
      refine ⟨_, by rw [h2]; exact piO_full h97 _ _ (upto_good h f.length (Nat.le_refl _)), ?_⟩
      have h3 := (set_all hP.2.1 f.length (Nat.le_refl _)).2
      refine (trim_ext (ys := f) fun i => ?_).trans hP.2.2.2
      rw [h3 i, if_pos (by omega)]
  obtain ⟨o, h1, h2⟩ := key
  unfold psI
  rw [h1]
  simp only
  rw [if_pos ⟨by rw [h2]; exact h, by rw [h2]⟩, h2]
/-- The program and the reference answer alike. -/
theorem psI_psS (p : Int) (s : List UInt8) : psI p s = psS p s := by
  by_cases h : ∃ f, polyB p f = true ∧ ptX f = s
  · obtain ⟨f, h1, rfl⟩ := h
    rw [psI_yes h1, psS_yes h1]
  · have h' : ∀ f, polyB p f = true → ptX f ≠ s := fun f h1 h2 => h ⟨f, h1, h2⟩
    rw [psI_no h', psS_no h']
end Go.Proofs.YtfggacnkediolaaGreatDoor
