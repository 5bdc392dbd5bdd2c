/- FractionOfSeries: the answer, in plain terms. -/
import Derived.Test.YtmekhjnhcgmphaaDoorBmE
import Derived.Test.YtmekhjnhcgmphaaDoorFrac5
namespace Go.Proofs.YtmekhjnhcgmphaaDoor
set_option maxRecDepth 100000
/-- The answer for a series. -/
def fosA (p : Int) (s : List Int) : List Int × List Int × Bool :=
  if 2 * (bmRun p s s.length).L ≤ s.length then ifR (lowN p (trim (cvL p (bmRun p s s.length).now s (bmRun p s s.length).L)) (bmRun p s s.length).now) (lowD p (trim (cvL p (bmRun p s s.length).now s (bmRun p s s.length).L)) (bmRun p s s.length).now)
  else ([], [], false)
def fosR (p : Int) (s : List Int) : List Int × List Int × Bool := if serB p s = true then fosA p s else ([], [], false)
theorem cv_cf {a a' b : List Int} (h : ∀ i, cf a i = cf a' i) (k : Nat) : ∀ j, cv a b k j = cv a' b k j
  | 0 => rfl
  | j + 1 => by
    have := h j
    unfold cf at this
    rw [cv, cv, cv_cf h k j, this]
theorem cvL_cf {a a' b : List Int} (p : Int) (h : ∀ i, cf a i = cf a' i) (n : Nat) : cvL p a b n = cvL p a' b n := by
  unfold cvL
  exact List.map_congr_left fun j _ => by rw [cv_cf h]
theorem cvL_el {p : Int} (hp : 0 < p) (a b : List Int) (n : Nat) : allEl p (cvL p a b n) = true := allEl_of fun i x hx => by
  unfold cvL at hx
  rw [List.getElem?_map] at hx
  cases hi : (List.range n)[i]? with
  | none => rw [hi] at hx; cases hx
  | some j => rw [hi] at hx; injection hx with hx; rw [← hx]; exact ⟨Int.emod_nonneg _ (by omega), Int.emod_lt_of_pos _ hp⟩
theorem fos_found {p : Int} (hF : fieldB p = true) {s : List Int} (hs : allEl p s = true) {m : Nat} {c : List Int} (h : recS p s m = some c) (h2 : 2 * m ≤ s.length) (hno : ∀ m', m' < m → recS p s m' = none) :
    fosA p s = ifR (lowN p (trim (cvL p (1 :: c) s m)) (trim (1 :: c))) (lowD p (trim (cvL p (1 :: c) s m)) (trim (1 :: c))) := by
  obtain ⟨h3, h4⟩ := rec_first hF hs h h2 hno
  have hg := bm_good hF s s.length
  unfold fosA
  rw [cvL_cf p h4, trim_ext h4, hg.nt, ← h3, if_pos h2]
theorem fos_none {p : Int} (hF : fieldB p = true) {s : List Int} (hs : allEl p s = true) (hno : ∀ m, 2 * m ≤ s.length → recS p s m = none) : fosA p s = ([], [], false) := if_neg (rec_none hF hs hno)
theorem now_ne {p : Int} (hF : fieldB p = true) (s : List Int) (n : Nat) : (bmRun p s n).now ≠ [] := fun e => by
  have := (bm_good hF s n).good.c0
  rw [e] at this
  cases this
theorem fos_no {p : Int} (_ : fieldB p = true) {s : List Int} (h : ¬ 2 * (bmRun p s s.length).L ≤ s.length) : fosA p s = ([], [], false) := if_neg h
end Go.Proofs.YtmekhjnhcgmphaaDoor
