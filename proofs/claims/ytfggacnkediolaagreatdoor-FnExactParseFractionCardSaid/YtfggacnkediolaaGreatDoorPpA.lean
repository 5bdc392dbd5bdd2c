/- Reading the text of a polynomial, in plain terms: what the reference's reader makes of a text that a polynomial has. -/
import Derived.Test.YtfggacnkediolaaGreatDoorPtA
namespace Go.Proofs.YtfggacnkediolaaGreatDoor
set_option maxRecDepth 100000
open Go
def isDig (c : UInt8) : Bool := decide (48 ≤ c.toNat) && decide (c.toNat ≤ 57)
def rdN (l : List UInt8) : Nat := l.foldl (fun n c => 10 * n + (c.toNat - 48)) 0
/-- A number of one to six digits without zeros ahead; else -1. -/
def rdL (l : List UInt8) : Int := if 1 ≤ l.length ∧ l.length ≤ 6 ∧ ¬ (l.head? = some 48 ∧ 1 < l.length) ∧ l.all isDig = true then (rdN l : Int) else -1
theorem dig_nat {d : Nat} (h : d < 10) : (UInt8.ofNat (48 + d)).toNat = 48 + d := by simp; omega
theorem dig_is {d : Nat} (h : d < 10) : isDig (UInt8.ofNat (48 + d)) = true := by simp only [isDig, dig_nat h]; simp; omega
theorem dig_ne {d : Nat} (h : d < 10) {c : UInt8} (hc : isDig c = false) : UInt8.ofNat (48 + d) ≠ c := fun e => by rw [← e, dig_is h] at hc; cases hc
theorem dec_dig {n : Nat} (h : n < 100) : ∀ c ∈ Lib.decDigits n, isDig c = true := by
  intro c hc
  by_cases h1 : n < 10
  · rw [dec_small h1] at hc
    simp only [List.mem_singleton] at hc
    rw [hc]; exact dig_is h1
  · rw [dec_big h1, dec_small (by omega)] at hc
    simp only [List.mem_append, List.mem_singleton] at hc
    rcases hc with rfl | rfl
    · exact dig_is (by omega)
    · exact dig_is (by omega)
theorem rdL_dec {n : Nat} (h : n < 100) : rdL (Lib.decDigits n) = (n : Int) := by
  have hd := dec_dig h
  have hl := dec_len h
  have hn := dec_ne n
  have hall : (Lib.decDigits n).all isDig = true := List.all_eq_true.2 hd
  have h1 : 1 ≤ (Lib.decDigits n).length := List.length_pos_iff.2 hn
  have hh : ¬ ((Lib.decDigits n).head? = some 48 ∧ 1 < (Lib.decDigits n).length) := by
    rintro ⟨e1, e2⟩
    by_cases h10 : n < 10
    · rw [dec_small h10] at e2; simp at e2
    · rw [dec_big h10, dec_small (by omega)] at e1
      simp only [List.cons_append, List.nil_append, List.head?_cons, Option.some.injEq] at e1
      have := congrArg UInt8.toNat e1
      rw [dig_nat (by omega)] at this
      simp at this
      omega
  unfold rdL
  rw [if_pos ⟨h1, by omega, hh, hall⟩]
  by_cases h10 : n < 10
  · rw [dec_small h10]
    simp only [rdN, List.foldl_cons, List.foldl_nil, dig_nat h10]
    omega
  · rw [dec_big h10, dec_small (by omega)]
    simp only [rdN, List.cons_append, List.nil_append, List.foldl_cons, List.foldl_nil, dig_nat (show n / 10 < 10 by omega), dig_nat (show n % 10 < 10 by omega)]
    omega
/-- A term that is read: its coefficient and its exponent; -1 for what is not valid. -/
def tmS (s : List UInt8) : Int × Int :=
  let h := s.takeWhile (· != 120)
  let k := if h = [] then 1 else rdL h
  match s.drop h.length with
  | [] => (if s = [] then -1 else k, 0)
  | [_] => (k, 1)
  | _ :: c :: r => if c = 94 then (k, rdL r) else (k, -1)
theorem take_digs {l r : List UInt8} (hl : ∀ c ∈ l, isDig c = true) (hr : r = [] ∨ r.head? = some 120) : (l ++ r).takeWhile (· != 120) = l := by
  induction l with
  | nil =>
    rcases hr with rfl | hr
    · rfl
    · cases r with
      | nil => rfl
      | cons c r => simp at hr; simp [hr]
  | cons c l ih =>
    have hc : (c != 120) = true := by
      have := hl c (by simp)
      rw [bne_iff_ne]
      rintro rfl
      revert this; decide
    rw [List.cons_append, List.takeWhile_cons, hc, if_pos rfl, ih fun c hc => hl c (by simp [hc])]
theorem tmS_ptT {a : Int} {e : Nat} (h1 : 1 ≤ a) (h2 : a < 97) (he : e < 41) : tmS (ptT a e) = (a, (e : Int)) := by
  have hd : ∀ c ∈ (if a ≠ 1 ∨ e = 0 then Lib.decDigits a.toNat else []), isDig c = true := by
    split
    · exact dec_dig (by omega)
    · simp
  have hk : (if (if a ≠ 1 ∨ e = 0 then Lib.decDigits a.toNat else []) = [] then (1 : Int) else rdL (if a ≠ 1 ∨ e = 0 then Lib.decDigits a.toNat else [])) = a := by
    by_cases h : a ≠ 1 ∨ e = 0
    · rw [if_pos h, if_neg (dec_ne _), rdL_dec (by omega)]; omega
    · rw [if_neg h, if_pos rfl]
      omega
  have hz : e = 0 → (if a ≠ 1 ∨ e = 0 then Lib.decDigits a.toNat else []) ≠ [] := fun h => by rw [if_pos (.inr h)]; exact dec_ne _
  have hform : ptT a e = (if a ≠ 1 ∨ e = 0 then Lib.decDigits a.toNat else []) ++ ((if 0 < e then [120] else []) ++ (if 1 < e then 94 :: Lib.decDigits e else [])) := by
    unfold ptT; rw [List.append_assoc]
  have hr : ((if 0 < e then [(120 : UInt8)] else []) ++ (if 1 < e then 94 :: Lib.decDigits e else [])) = [] ∨ ((if 0 < e then [(120 : UInt8)] else []) ++ (if 1 < e then 94 :: Lib.decDigits e else [])).head? = some 120 := by
    by_cases h : 0 < e
    · right; rw [if_pos h]; rfl
    · left; rw [if_neg h, if_neg (by omega)]; rfl
  have ht := take_digs hd hr
  rw [← hform] at ht
  unfold tmS
  simp only [ht]
  rw [hk, hform, List.drop_left]
  generalize hH : (if a ≠ 1 ∨ e = 0 then Lib.decDigits a.toNat else []) = H at *
  by_cases e0 : e = 0
  · subst e0
    simp [hz rfl]
  · by_cases e1 : e = 1
    · subst e1
      simp
    · rw [if_pos (show 0 < e by omega), if_pos (show 1 < e by omega)]
      simp only [List.cons_append, List.nil_append, if_pos]
      rw [rdL_dec (by omega)]
/-- The parts of a text between the bytes c. -/
def spl (c : UInt8) : List UInt8 → List (List UInt8)
  | [] => [[]]
  | b :: r => if b = c then [] :: spl c r else match spl c r with
    | [] => [[b]]
    | h :: t => (b :: h) :: t
theorem spl_ne (c : UInt8) : ∀ l, spl c l ≠ []
  | [] => by simp [spl]
  | b :: r => by
    unfold spl
    split
    · simp
    · split <;> simp
theorem spl_one {c : UInt8} : ∀ {l : List UInt8}, c ∉ l → spl c l = [l]
  | [], _ => rfl
  | b :: r, h => by
    have h1 : ¬ b = c := fun e => h (by simp [e])
    have h2 : c ∉ r := fun e => h (by simp [e])
    rw [spl, if_neg h1, spl_one h2]
theorem spl_more {c : UInt8} {l : List UInt8} (r : List UInt8) (h : c ∉ l) : spl c (l ++ c :: r) = l :: spl c r := by
  induction l with
  | nil => rw [List.nil_append, spl, if_pos rfl]
  | cons b l ih =>
    have h1 : ¬ b = c := fun e => h (by simp [e])
    have h2 : c ∉ l := fun e => h (by simp [e])
    rw [List.cons_append, spl, if_neg h1, ih h2]
theorem spl_join {c : UInt8} : ∀ {ts : List (List UInt8)}, ts ≠ [] → (∀ t ∈ ts, c ∉ t) → spl c (Lib.join ts [c]) = ts
  | [], h, _ => (h rfl).elim
  | [t], _, h => by rw [Lib.join_one, spl_one (h t (by simp))]
  | t :: u :: r, _, h => by
    have e : Lib.join (t :: u :: r) [c] = t ++ c :: Lib.join (u :: r) [c] := by
      rw [Lib.join_cons, Lib.join_cons]
      simp [Lib.joinTail]
    rw [e, spl_more _ (h t (by simp)), spl_join (by simp) fun x hx => h x (by simp [hx])]
theorem ptT_plus {a : Int} {e : Nat} (h1 : 0 ≤ a) (h2 : a < 97) (he : e < 41) : (43 : UInt8) ∉ ptT a e := by
  intro hm
  have nd : ∀ {n : Nat}, n < 100 → (43 : UInt8) ∉ Lib.decDigits n := fun hn h => by
    have := dec_dig hn _ h
    revert this; decide
  unfold ptT at hm
  simp only [List.mem_append] at hm
  rcases hm with (hm | hm) | hm
  · split at hm
    · exact nd (by omega) hm
    · cases hm
  · split at hm
    · simp at hm
    · cases hm
  · split at hm
    · simp only [List.mem_cons] at hm
      rcases hm with hm | hm
      · revert hm; decide
      · exact nd (by omega) hm
    · cases hm
/-- A coefficient is put at its place; zeros up to there. -/
def putT (out : List Int) (z : Int × Int) : List Int := (out ++ List.replicate (z.2.toNat + 1 - out.length) 0).set z.2.toNat z.1
theorem put_all {f : List Int} (hne : f ≠ []) (hlast : f.getLast hne ≠ 0) : ∀ k, 1 ≤ k → k ≤ f.length →
    ((upto (bwAt f) k).filter fun z => z.2 != 0).foldl (fun o z => putT o (z.2, (z.1 : Int))) [] = List.replicate (f.length - k) 0 ++ f.drop (f.length - k) := by
  have hpos : 0 < f.length := List.length_pos_iff.2 hne
  have hat : ∀ k, k < f.length → ∃ h : f.length - 1 - k < f.length, (bwAt f k).2 = f[f.length - 1 - k] ∧ (bwAt f k).1 = f.length - 1 - k := fun k hk =>
    ⟨by omega, by simp [bwAt, List.getElem?_eq_getElem (show f.length - 1 - k < f.length by omega)], rfl⟩
  intro k
  induction k with
  | zero => intro h; omega
  | succ k ih =>
    intro _ hk
    obtain ⟨hi, e1, e2⟩ := hat k (by omega)
    rw [upto_succ, List.filter_append, List.foldl_append]
    have hdrop : f.drop (f.length - (k + 1)) = (bwAt f k).2 :: f.drop (f.length - k) := by
      rw [show f.length - (k + 1) = f.length - 1 - k by omega, List.drop_eq_getElem_cons hi, e1]
      congr 2; omega
    by_cases h0 : k = 0
    · subst h0
      have hl : (bwAt f 0).2 ≠ 0 := by
        rw [e1]
        intro h
        exact hlast (by rw [List.getLast_eq_getElem]; exact h)
      simp only [upto, List.range_zero, List.map_nil, List.filter_nil, List.foldl_nil]
      rw [List.filter_cons_of_pos (by simpa using hl), List.filter_nil, List.foldl_cons, List.foldl_nil, hdrop]
      simp only [Nat.sub_zero, List.drop_length, putT, List.length_nil, List.nil_append, e2, Int.toNat_natCast]
      rw [show f.length - 1 + 1 = (f.length - 1) + 1 from rfl, List.replicate_succ']
      rw [show f.length - (0 + 1) = f.length - 1 by omega]
      rw [List.set_append_right _ _ (by simp)]
      simp
    · rw [ih (by omega) (by omega), hdrop]
      by_cases hz : (bwAt f k).2 = 0
      · rw [List.filter_cons_of_neg (by simp [hz]), List.filter_nil, List.foldl_nil, hz]
        rw [show f.length - k = (f.length - (k + 1)) + 1 by omega, List.replicate_succ', List.append_assoc]
        rfl
      · rw [List.filter_cons_of_pos (by simpa using hz), List.filter_nil, List.foldl_cons, List.foldl_nil]
        simp only [putT, e2, Int.toNat_natCast, List.length_append, List.length_replicate, List.length_drop]
        rw [show f.length - 1 - k + 1 - (f.length - k + (f.length - (f.length - k))) = 0 by omega, List.replicate_zero, List.append_nil]
        rw [show f.length - k = (f.length - (k + 1)) + 1 by omega, List.replicate_succ', List.append_assoc, show f.length - 1 - k = f.length - (k + 1) by omega]
        rw [List.set_append_right _ _ (by simp)]
        simp
end Go.Proofs.YtfggacnkediolaaGreatDoor
