/- FractionOfSeries, in plain terms: the reference's linear solve and the program's search have one answer. Plain lemmas of mine. -/
import Derived.Test.YtmekhjnhcgmphaaDoorBmD
import Derived.Test.YtmekhjnhcgmphaaDoorSeries
namespace Go.Proofs.YtmekhjnhcgmphaaDoor
set_option maxRecDepth 100000
def frRow (s : List Int) (m k : Nat) : List Int := (List.range (m + 1)).map fun i => cf s (k - i)
def frRows (s : List Int) (m : Nat) : List (List Int) := (List.range (s.length - m)).map fun t => frRow s m (m + t)
/-- What the reference finds for the length m. -/
def recS (p : Int) (s : List Int) (m : Nat) : Option (List Int) := (((zpOps p).spNull (m + 1) (frRows s m)).find? fun v => cf v 0 != 0).map (List.drop 1)
theorem frRow_cf (s : List Int) (m k i : Nat) : cf (frRow s m k) i = if i < m + 1 then cf s (k - i) else 0 := range_cf i
theorem frRow_dg (s : List Int) (m k : Nat) (c : Nat → Int) : sg (fun i => cf (frRow s m k) i * c i) (m + 1) = Dg (cf s) c m k := by
  unfold Dg
  exact sg_congr fun i hi => by rw [frRow_cf, if_pos hi, Int.mul_comm]
theorem frRows_wid (s : List Int) (m : Nat) : Wid (m + 1) (frRows s m) := fun v hv => by
  obtain ⟨t, _, rfl⟩ := List.mem_map.1 hv
  simp [frRow]
theorem frRows_el {p : Int} (hp : 0 < p) {s : List Int} (hs : allEl p s = true) (m : Nat) : ∀ r ∈ frRows s m, allEl p r = true := fun r hr => by
  obtain ⟨t, _, rfl⟩ := List.mem_map.1 hr
  refine allEl_of fun i x hx => ?_
  unfold frRow at hx
  rw [List.getElem?_map] at hx
  cases hi : (List.range (m + 1))[i]? with
  | none => rw [hi] at hx; cases hx
  | some j =>
    rw [hi] at hx
    injection hx with hx
    rw [← hx]
    exact cf_bd hs hp _
theorem frRows_all {p : Int} {s : List Int} {m : Nat} {c : Nat → Int} : (∀ r ∈ frRows s m, p ∣ sg (fun i => cf r i * c i) (m + 1)) ↔ ∀ k, m ≤ k → k < s.length → p ∣ Dg (cf s) c m k := by
  constructor
  · intro h k h1 h2
    have := h (frRow s m (m + (k - m))) (List.mem_map.2 ⟨k - m, List.mem_range.2 (by omega), rfl⟩)
    rwa [frRow_dg, show m + (k - m) = k by omega] at this
  · intro h r hr
    obtain ⟨t, ht, rfl⟩ := List.mem_map.1 hr
    have := List.mem_range.1 ht
    rw [frRow_dg]
    exact h _ (by omega) (by omega)
theorem cf_drop1 (v : List Int) (h1 : cf v 0 = 1) (i : Nat) : cf (1 :: v.drop 1) i = cf v i := by
  cases v with
  | nil => cases h1
  | cons x v =>
    cases i with
    | zero => exact h1.symm
    | succ i => rfl
/-- What is found is a recurrence. -/
theorem recS_some {p : Int} (hF : fieldB p = true) {s : List Int} (hs : allEl p s = true) {m : Nat} {c : List Int} (h : recS p s m = some c) : c.length = m ∧ allEl p (1 :: c) = true ∧ ∀ k, m ≤ k → k < s.length → p ∣ Dg (cf s) (cf (1 :: c)) m k := by
  have h2 := fieldB_lo hF
  unfold recS at h
  cases hv : ((zpOps p).spNull (m + 1) (frRows s m)).find? fun v => cf v 0 != 0 with
  | none => rw [hv] at h; cases h
  | some v =>
    rw [hv] at h
    injection h with h
    have hm := List.mem_of_find?_eq_some hv
    have hn := List.find?_some hv
    obtain ⟨a, b, c1, d⟩ := (sp_lead hF (by omega) (frRows_wid s m) (frRows_el (by omega) hs m)).2 v hm
    have h1 := c1 (by simpa using hn)
    subst h
    refine ⟨by rw [List.length_drop, a]; omega, allEl_of fun i x hx => ?_, frRows_all.1 fun r hr => ?_⟩
    · have e := cf_of hx
      rw [cf_drop1 v h1] at e
      rw [← e]
      exact cf_bd b (by omega) i
    · have := d r hr
      rwa [sg_congr (g := fun i => cf r i * cf (1 :: v.drop 1) i) fun i _ => by rw [cf_drop1 v h1]] at this
/-- A recurrence is found. -/
theorem recS_of {p : Int} (hF : fieldB p = true) {s : List Int} (hs : allEl p s = true) {m : Nat} {c : Nat → Int} (hc : c 0 = 1) (h : ∀ k, m ≤ k → k < s.length → p ∣ Dg (cf s) c m k) : recS p s m ≠ none := by
  have h2 := fieldB_lo hF
  obtain ⟨v, hv, h0⟩ := (sp_lead hF (by omega) (frRows_wid s m) (frRows_el (by omega) hs m)).1 c hc (frRows_all.2 h)
  intro e
  unfold recS at e
  rw [Option.map_eq_none_iff, List.find?_eq_none] at e
  exact e v hv (by simpa using h0)
/-- The reference's first length is the program's. -/
theorem rec_first {p : Int} (hF : fieldB p = true) {s : List Int} (hs : allEl p s = true) {m : Nat} {c : List Int} (h : recS p s m = some c) (h2 : 2 * m ≤ s.length) (hno : ∀ m', m' < m → recS p s m' = none) :
    m = (bmRun p s s.length).L ∧ (∀ i, cf (1 :: c) i = cf (bmRun p s s.length).now i) := by
  have hg := bm_good hF s s.length
  obtain ⟨x, hx⟩ : ∃ x, bmRun p s s.length = x := ⟨_, rfl⟩
  rw [hx] at hg ⊢
  have hp := fieldB_lo hF
  obtain ⟨a, b, d⟩ := recS_some hF hs h
  have hle : x.L ≤ m := hg.good.least _ _ rfl d
  have hm : m = x.L := by
    rcases Nat.lt_or_ge x.L m with h3 | h3
    · exact (recS_of hF hs hg.good.c0 hg.good.goes (hno _ h3)).elim
    · omega
  refine ⟨hm, fun i => ?_⟩
  subst hm
  rcases Nat.lt_or_ge x.L i with h3 | h3
  · rw [hg.good.deg i h3, cf_ge (by simp [a]; omega)]
  · have hinv : ∀ z : Int, ¬ p ∣ z → ∃ y, p ∣ y * z - 1 := fun z hz => by
      have h0 : 0 < z % p := by
        have := Int.emod_nonneg z (show p ≠ 0 by omega)
        rcases Int.lt_or_eq_of_le this with h4 | h4
        · exact h4
        · exact (hz (Int.dvd_of_emod_eq_zero h4.symm)).elim
      have hi := inv_mul hF h0 (Int.emod_lt_of_pos z (by omega))
      obtain ⟨y, hy⟩ : ∃ y, invM p (z % p) = y := ⟨_, rfl⟩
      rw [hy] at hi
      refine ⟨y, Int.dvd_of_emod_eq_zero ?_⟩
      have e1 : y * z % p = 1 % p := by rw [Int.mul_comm, Int.mul_emod, ← Int.emod_emod z p, ← Int.mul_emod, hi]; exact (Int.emod_eq_of_lt (by decide) (by omega)).symm
      exact Int.emod_eq_emod_iff_emod_sub_eq_zero.1 e1
    have hu := rec_unique (s := cf s) h2 (c := cf (1 :: c)) (d := cf x.now) rfl hg.good.c0 d hg.good.goes hg.good.least hinv i h3
    have b1 := cf_bd b (by omega) i
    have b2 := cf_bd hg.ne (by omega) i
    have := Int.emod_eq_zero_of_dvd hu
    have e1 : cf (1 :: c) i % p = cf x.now i % p := Int.emod_eq_emod_iff_emod_sub_eq_zero.2 this
    rwa [Int.emod_eq_of_lt b1.1 b1.2, Int.emod_eq_of_lt b2.1 b2.2] at e1
/-- If there is none, the program's length is too great. -/
theorem rec_none {p : Int} (hF : fieldB p = true) {s : List Int} (hs : allEl p s = true) (hno : ∀ m, 2 * m ≤ s.length → recS p s m = none) : ¬ 2 * (bmRun p s s.length).L ≤ s.length := fun h =>
  recS_of hF hs (bm_good hF s s.length).good.c0 (bm_good hF s s.length).good.goes (hno _ h)
end Go.Proofs.YtmekhjnhcgmphaaDoor
