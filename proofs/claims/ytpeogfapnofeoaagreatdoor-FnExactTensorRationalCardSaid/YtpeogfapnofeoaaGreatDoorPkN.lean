/- The power series of a fraction: plain theory; the contracts of both sides. The power series of a fraction: the reference's side; SeriesOf. Combinations of rows, on both sides. Runs of state spaces: ssPlus, crLists, isRun; lists of lists that grow. Lists of lists of ints that grow by append. -/
import Derived.Test.YtpeogfapnofeoaaGreatDoorFrac5
import Derived.Test.YtpeogfapnofeoaaGreatDoorPkM
import Derived.Deep.RegionHeld3
import Derived.Test.YtpeogfapnofeoaaGreatDoorMat
import Derived.Test.YtpeogfapnofeoaaGreatDoorPkA
import Derived.RegionCalls
import Derived.Deep.RegionWith
import Derived.Deep.Cut
import Derived.Deep.RegionLaw
import Derived.Deep.AppendLies
namespace Go.Proofs.YtpeogfapnofeoaaGreatDoor
set_option maxRecDepth 100000
open Go Go.RowKit
/-- The sum behind the coefficient k, of which j terms are done. -/
def sv (num den out : List Int) (k : Nat) : Nat → Int
  | 0 => cf num k
  | j + 1 => sv num den out k j - cf den (j + 1) * cf out (k - (j + 1))
/-- The first coefficients of the series. -/
def serL (p : Int) (num den : List Int) (b : Int) : Nat → List Int
  | 0 => []
  | k + 1 => serL p num den b k ++ [sv num den (serL p num den b k) k k % p * b % p]
theorem serL_len (p : Int) (num den : List Int) (b : Int) (n : Nat) : (serL p num den b n).length = n := by
  induction n with
  | zero => rfl
  | succ n ih => rw [serL, List.length_append, ih]; rfl
theorem serL_el {p : Int} (hp : 0 < p) (num den : List Int) (b : Int) (n : Nat) : allEl p (serL p num den b n) = true := by
  induction n with
  | zero => rfl
  | succ n ih =>
    rw [serL]
    simp only [allEl, List.all_append, List.all_cons, List.all_nil, Bool.and_true, Bool.and_eq_true] at ih ⊢
    refine ⟨ih, ?_⟩
    have h1 := Int.emod_nonneg (sv num den (serL p num den b n) n n % p * b) (show p ≠ 0 by omega)
    have h2 := Int.emod_lt_of_pos (sv num den (serL p num den b n) n n % p * b) hp
    simp [elB]; omega
theorem sv_bd {p : Int} {num den out : List Int} (hn : allEl p num = true) (hd : allEl p den = true) (ho : allEl p out = true) (h2 : 2 ≤ p) (h97 : p ≤ 97) (k j : Nat) : -(9216 * (j : Int)) ≤ sv num den out k j ∧ sv num den out k j ≤ 96 := by
  induction j with
  | zero => have := cf_bd hn (show 0 < p by omega) k; simp [sv]; omega
  | succ j ih =>
    have b1 := cf_bd hd (show 0 < p by omega) (j + 1)
    have b2 := cf_bd ho (show 0 < p by omega) (k - (j + 1))
    have := mul_bd (x := cf den (j + 1)) (y := cf out (k - (j + 1))) ⟨by omega, by omega⟩ ⟨by omega, by omega⟩
    simp only [sv]
    omega
/-- The sum looks at what is done alone. -/
theorem sv_ext (num den : List Int) {out out' : List Int} (k : Nat) (h : ∀ i, i < k → cf out i = cf out' i) : ∀ j, j ≤ k → sv num den out k j = sv num den out' k j
  | 0, _ => rfl
  | j + 1, hj => by rw [sv, sv, sv_ext num den k h j (by omega), h _ (by omega)]
/-- Behind the denominator's end nothing comes. -/
theorem sv_stop (num den out : List Int) (k : Nat) : ∀ (j i : Nat), den.length ≤ j + 1 → sv num den out k (j + i) = sv num den out k j
  | j, 0, _ => rfl
  | j, i + 1, h => by rw [show j + (i + 1) = (j + i) + 1 by omega, sv, cf_ge (by omega), Int.zero_mul, Int.sub_zero, sv_stop num den out k j i h]
theorem sub_mod2 (p a b : Int) : (a % p - b % p) % p = (a - b) % p := (Int.sub_emod a b p).symm
theorem ser_pad (p : Int) (num den : List Int) (b : Int) (n k : Nat) (hk : k < n) : (serL p num den b k ++ List.replicate (n - k) 0).set k (sv num den (serL p num den b k) k k % p * b % p) = serL p num den b (k + 1) ++ List.replicate (n - (k + 1)) 0 := by
  have hl := serL_len p num den b k
  rw [List.set_append_right _ _ (by omega), hl, Nat.sub_self, serL, List.append_assoc]
  congr 1
  obtain ⟨m, hm⟩ : ∃ m, n - k = m + 1 := ⟨n - k - 1, by omega⟩
  rw [hm, show n - (k + 1) = m by omega, List.replicate_succ]
  rfl
theorem pad_at (p : Int) (num den : List Int) (b : Int) (n k i : Nat) (hi : i < k) : (serL p num den b k ++ List.replicate (n - k) (0 : Int))[i]? = some (cf (serL p num den b k) i) := by
  have hl := serL_len p num den b k
  rw [List.getElem?_append_left (by omega), List.getElem?_eq_getElem (by omega), cf, List.getElem?_eq_getElem (by omega)]
  rfl
theorem pad_at0 (p : Int) (num den : List Int) (b : Int) (n k : Nat) (hk : k < n) : (serL p num den b k ++ List.replicate (n - k) (0 : Int))[k]? = some 0 := by
  have hl := serL_len p num den b k
  rw [List.getElem?_append_right (by omega), hl, Nat.sub_self, List.getElem?_replicate, if_pos (by omega)]
/-- What SeriesOf answers. -/
def serR (p : Int) (num den : List Int) (n : Int) : List Int × Bool := if fracB p num den = true ∧ causB den = true ∧ inB 0 60 n = true then (serL p num den (invM p (cf den 0)) n.toNat, true) else ([], false)
theorem getD_cf (xs : List Int) (i : Nat) : xs[i]?.getD 0 = cf xs i := rfl
end Go.Proofs.YtpeogfapnofeoaaGreatDoor
namespace Go.Proofs.YtpeogfapnofeoaaGreatDoor
set_option maxRecDepth 100000
open Go Go.RowKit
end Go.Proofs.YtpeogfapnofeoaaGreatDoor
namespace Go.Proofs.YtpeogfapnofeoaaGreatDoor
set_option maxRecDepth 100000
open Go Go.RowKit
/-- The combination of rows with coefficients x, k rows being done. -/
def cmbTo (p : Int) (n : Nat) (x : List Int) (rows : List (List Int)) : Nat → List Int
  | 0 => List.replicate n 0
  | k + 1 => addAt p (cmbTo p n x rows k) 0 (cf x k) (rows[k]?.getD [])
def cmb (p : Int) (n : Nat) (x : List Int) (rows : List (List Int)) : List Int := cmbTo p n x rows rows.length
theorem cmbTo_len (p : Int) (n : Nat) (x : List Int) (rows : List (List Int)) (k : Nat) : (cmbTo p n x rows k).length = n := by
  induction k with
  | zero => simp [cmbTo]
  | succ k ih => rw [cmbTo, addAt_len, ih]
theorem cmbTo_el {p : Int} (hp : 0 < p) (n : Nat) (x : List Int) (rows : List (List Int)) (k : Nat) : allEl p (cmbTo p n x rows k) = true := by
  induction k with
  | zero => exact rep_el hp n
  | succ k ih => rw [cmbTo]; exact addAt_el ih hp _ _ _
theorem rowsB_at {p n : Int} {m : List (List Int)} (h : rowsB p n m = true) {k : Nat} {r : List Int} (hr : m[k]? = some r) : (r.length : Int) = n ∧ allEl p r = true := by
  have := List.all_eq_true.1 h r (List.mem_of_getElem? hr)
  simpa using this
end Go.Proofs.YtpeogfapnofeoaaGreatDoor
namespace Go.Proofs.YtpeogfapnofeoaaGreatDoor
set_option maxRecDepth 100000
open Go Go.RowKit
def plsTo (p : Int) (a b : List Int) (k : Nat) : List Int := (List.range k).map fun i => (cf a i + cf b i) % p
def pls (p : Int) (a b : List Int) : List Int := plsTo p a b a.length
theorem plsTo_len (p : Int) (a b : List Int) (k : Nat) : (plsTo p a b k).length = k := by simp [plsTo]
theorem plsTo_succ (p : Int) (a b : List Int) (k : Nat) : plsTo p a b (k + 1) = plsTo p a b k ++ [(cf a k + cf b k) % p] := by simp [plsTo, List.range_succ]
theorem pls_addAt (p : Int) (a b : List Int) (h : a.length = b.length) : addAt p a 0 1 b = pls p a b := by
  refine cf_ext (by rw [addAt_len, pls, plsTo_len]) fun i => ?_
  rw [addAt_cf, pls, plsTo, range_cf]
  by_cases hi : i < a.length
  · rw [if_pos hi, if_pos hi, if_pos ⟨Nat.zero_le _, by omega⟩, Nat.sub_zero, Int.one_mul]
  · rw [if_neg hi, if_neg hi]
theorem pls_el {p : Int} (hp : 0 < p) (a b : List Int) : allEl p (pls p a b) = true := allEl_of fun i x hx => by
  have h := cf_of hx
  have hl : i < a.length := by have := (List.getElem?_eq_some_iff.1 hx).1; rwa [pls, plsTo_len] at this
  rw [pls, plsTo, range_cf, if_pos hl] at h
  rw [← h]
  exact ⟨Int.emod_nonneg _ (by omega), Int.emod_lt_of_pos _ hp⟩
end Go.Proofs.YtpeogfapnofeoaaGreatDoor
namespace Go.Proofs.YtpeogfapnofeoaaGreatDoor
set_option maxRecDepth 100000
open Go Go.RowKit
theorem FI.grown {w w' : World} {a b : Nat} {A : Option Addr} {c : Nat} {xs : List Int} {row : Option Nat} (h : FI w a b A c xs) (hg : w.grownBy w' row) (ho : ∀ k, row = some k → k < a ∨ b ≤ k) : FI w' a b A c xs := by
  cases row with
  | none => exact h.exo (A' := none) hg fun _ _ _ e => by cases e
  | some k =>
    refine h.exo (A' := some ⟨k, 0, none⟩) hg fun p p' e e' => ?_
    injection e' with e'
    have h1 := h.fr.hi p e
    have h2 := h.lo p e
    have := ho k rfl
    rw [← e']
    show p.block ≠ k
    omega
theorem ownsRow_ex {w w' : World} {B n s : Nat} {t : TypeId} {v : Value} {xs : List Value} (h : w.ownsRow B t s v n xs) (he : Ex w w') : w'.ownsRow B t s v n xs := by
  obtain ⟨h1, h2⟩ := h
  refine ⟨h1, ?_⟩
  rcases h2 with h2 | ⟨g, cap, cur, hv, hB, hh, r⟩
  · exact .inl h2
  · exact .inr ⟨g, cap, cur, hv, hB, (he.block (heap_lt_of hh)).trans hh, r⟩
/-- A list of lists that the call makes by append: all its blocks from B on and below H; each row in an interval of its own. -/
def GM (w : World) (B H : Nat) (v : Value) (rows : List (List Int)) : Prop :=
  H ≤ w.heap.size ∧ (∀ k, v.ownBlock = some k → k < H) ∧ ∃ (hs : List Value) (al bl : Nat → Nat), w.ownsRow B 52 1 v rows.length hs ∧
    (∀ (j : Nat) (r : List Int), rows[j]? = some r → ∃ A c, hs[j]? = some (.slice A r.length c) ∧ FI w (al j) (bl j) A c r ∧ B ≤ al j ∧ bl j ≤ H ∧ ∀ k, v.ownBlock = some k → k < al j ∨ bl j ≤ k) ∧
    ∀ i j, i < rows.length → j < rows.length → i ≠ j → (bl i ≤ al j ∨ bl j ≤ al i)
theorem GM.nil (w : World) (B H : Nat) (hH : H ≤ w.heap.size) : GM w B H (.slice none 0 0) [] :=
  ⟨hH, (fun k e => by cases e), [], fun _ => 0, fun _ => 0, World.ownsRow_nil w B _ 1, (fun j r hj => by simp at hj), (fun i j hi => by simp at hi)⟩
theorem GM.empty (w : World) {B : Nat} (hB : B ≤ w.heap.size) : GM (w.alloc (.cells #[] 52)) B (w.alloc (.cells #[] 52)).heap.size (.slice (some ⟨w.heap.size, 0, none⟩) 0 0) [] := by
  have ho : (w.alloc (.cells #[] 52)).ownsRow B 52 1 (.slice (some ⟨w.heap.size, 0, none⟩) 0 0) 0 [] := ⟨rfl, .inr ⟨w.heap.size, 0, #[], rfl, hB, heap_alloc_new w _, Nat.le_refl _, Nat.zero_le _, rfl, rfl⟩⟩
  exact ⟨Nat.le_refl _, fun k e => (World.ownsRow.lt ho k e).2, [], fun _ => 0, fun _ => 0, ho, (fun j r hj => by simp at hj), (fun i j hi => by simp at hi)⟩
theorem GM.ex {w w' : World} {B H : Nat} {v : Value} {rows : List (List Int)} (h : GM w B H v rows) (he : Ex w w') : GM w' B H v rows := by
  obtain ⟨hH, hown, hs, al, bl, ho, h1, h2⟩ := h
  refine ⟨Nat.le_trans hH he.size, hown, hs, al, bl, ownsRow_ex ho he, fun j r hj => ?_, h2⟩
  obtain ⟨A, c, q1, q2, q3⟩ := h1 j r hj
  exact ⟨A, c, q1, q2.ex he, q3⟩
theorem GM.more {w : World} {B B' H H' : Nat} {v : Value} {rows : List (List Int)} (h : GM w B H v rows) (hB : B' ≤ B) (h1 : H ≤ H') (h2 : H' ≤ w.heap.size) : GM w B' H' v rows := by
  obtain ⟨hH, hown, hs, al, bl, ho, h3, h4⟩ := h
  refine ⟨h2, fun k e => by have := hown k e; omega, hs, al, bl, ⟨ho.1, ?_⟩, fun j r hj => ?_, h4⟩
  · rcases ho.2 with h5 | ⟨g, cap, cur, hv, hg, r⟩
    · exact .inl h5
    · exact .inr ⟨g, cap, cur, hv, by omega, r⟩
  · obtain ⟨A, c, q1, q2, q3, q4, q5⟩ := h3 j r hj
    exact ⟨A, c, q1, q2, by omega, by omega, q5⟩
theorem GM.fmi {w : World} {B H : Nat} {v : Value} {rows : List (List Int)} (h : GM w B H v rows) (hl : rows.length ≤ 1099511627776) : ∃ A c, v = .slice A rows.length c ∧ FMI w B w.heap.size A rows := by
  obtain ⟨hH, hown, hs, al, bl, ho, h1, h2⟩ := h
  rcases ho.2 with ⟨hv, hn⟩ | ⟨g, cap, cur, hv, hB, hh, hnc, _, _, ht⟩
  · have : rows = [] := List.eq_nil_of_length_eq_zero hn
    subst this
    exact ⟨none, 0, hv, FMI.nil _ _ _ _⟩
  · refine ⟨_, cap, hv, hl, al, bl, fun j r hj => ?_, h2⟩
    obtain ⟨A, c, q1, q2, q3, q4, q5⟩ := h1 j r hj
    have hk := hown g (by rw [hv]; rfl)
    refine ⟨g, 0, A, c, rfl, hB, by omega, ?_, q2, q3, by omega, q5 g (by rw [hv]; rfl)⟩
    have hc : cur[j]? = some (.slice A r.length c) := by
      have : (cur.toList.take (rows.length * 1))[j]? = some (.slice A r.length c) := by rw [ht]; exact q1
      rw [List.getElem?_take] at this
      split at this
      · simpa using this
      · cases this
    rw [Nat.zero_add, cell_of_row w g j cur _ _ hh]
    exact hc
theorem GM.push {w : World} {B H : Nat} {v : Value} {rows : List (List Int)} (h : GM w B H v rows) {r : List Int} {A : Option Addr} {c a b : Nat} (hf : FI w a b A c r) (ha : H ≤ a) (hb : b ≤ w.heap.size) (hB : B ≤ H) (hl : rows.length + 1 ≤ 1099511627776) :
    ∃ v' w', (Builtin.append_ #[116, 116] 116 #[v, .slice (some ⟨w.heap.size, 0, none⟩) 1 1]).run Tryz.prog (w.alloc (.cells #[.slice A r.length c] 52)) = .ok v' w' ∧
      GM w' B w'.heap.size v' (rows ++ [r]) ∧ ExO v.ownBlock w w' ∧ (∀ k, v'.ownBlock = some k → v.ownBlock = some k ∨ w.heap.size ≤ k) ∧ ∀ b', Ex b' w → b'.heap.size ≤ B → Ex b' w' := by
  obtain ⟨hH, hown, hs, al, bl, ho, h1, h2⟩ := h
  have hx := (Ex.refl w).alloc (.cells #[.slice A r.length c] 52)
  have hsz := hx.size
  obtain ⟨i, hi, hz, hs1, hb1⟩ := info_parts sliceInfo
  have hnl : hs.length = rows.length := by have := ho.1; omega
  obtain ⟨v', w', hrun, hown', hg, _, hob⟩ := run_append_own_at (P := Tryz.prog) (w.alloc (.cells #[.slice A r.length c] 52)) B 116 116 52 i (.slice none 0 0) 1 24 Tryz.underlying116 hi hz hs1 hb1 rfl (by omega) v rows.length hs (ownsRow_ex ho hx) ⟨w.heap.size, 0, none⟩ 1 1 [.slice A r.length c] (by simp)
    (fun j u hj => World.news_of_block (heap_alloc_new w _) j u hj) (fun u hu => by simp at hu; subst hu; rfl) (by unfold maxLen; omega) (by omega) (by omega)
  have hsz2 := hg.size
  refine ⟨v', w', hrun, ⟨Nat.le_refl _, fun k e => (World.ownsRow.lt hown' k e).2, hs ++ [.slice A r.length c], (fun j => if j = rows.length then a else al j), (fun j => if j = rows.length then b else bl j), ?_, ?_, ?_⟩, ?_, ?_, ?_⟩
  · rw [List.length_append]; exact hown'
  · intro j q hj
    by_cases e : j = rows.length
    · subst e
      rw [List.getElem?_append_right (Nat.le_refl _), Nat.sub_self] at hj
      injection hj with hj
      subst hj
      refine ⟨A, c, by rw [List.getElem?_append_right (by omega), hnl, Nat.sub_self]; rfl, ?_, ?_, ?_, ?_⟩
      · simp only [if_pos]
        exact (hf.ex hx).grown hg fun k e => .inl (by have := hown k e; omega)
      · simp only [if_pos]; omega
      · simp only [if_pos]; omega
      · intro k e
        simp only [if_pos]
        rcases hob with e2 | e2
        · exact .inl (by have := hown k (e2 ▸ e); omega)
        · rw [e2] at e; injection e with e; exact .inr (by omega)
    · have hjl : j < rows.length := by have := (List.getElem?_eq_some_iff.1 hj).1; rw [List.length_append] at this; simp at this; omega
      rw [List.getElem?_append_left hjl] at hj
      obtain ⟨A2, c2, q1, q2, q3, q4, q5⟩ := h1 j q hj
      refine ⟨A2, c2, by rw [List.getElem?_append_left (by omega)]; exact q1, ?_, ?_, ?_, ?_⟩
      · simp only [if_neg e]
        exact (q2.ex hx).grown hg q5
      · simp only [if_neg e]; exact q3
      · simp only [if_neg e]; omega
      · intro k e2
        simp only [if_neg e]
        rcases hob with e3 | e3
        · exact q5 k (e3 ▸ e2)
        · rw [e3] at e2; injection e2 with e2; exact .inr (by omega)
  · intro i j hi' hj' hne
    simp only [List.length_append, List.length_cons, List.length_nil] at hi' hj'
    by_cases ei : i = rows.length
    · have ej : j ≠ rows.length := by omega
      have hjl : j < rows.length := by omega
      obtain ⟨_, _, _, _, _, q4, _⟩ := h1 j _ (List.getElem?_eq_getElem hjl)
      simp only [if_pos ei, if_neg ej]
      exact .inr (by omega)
    · have hil : i < rows.length := by omega
      obtain ⟨_, _, _, _, _, q4, _⟩ := h1 i _ (List.getElem?_eq_getElem hil)
      by_cases ej : j = rows.length
      · simp only [if_neg ei, if_pos ej]
        exact .inl (by omega)
      · simp only [if_neg ei, if_neg ej]
        exact h2 i j hil (by omega) hne
  · exact (ExO.of_ex hx).trans hg
  · intro k e
    rcases hob with e2 | e2
    · exact .inl (e2 ▸ e)
    · rw [e2] at e; injection e with e; exact .inr (by omega)
  · intro b' hb' hbB
    exact (hb'.trans hx).exo hg (fun g e => by have := (World.ownsRow.lt ho g e).1; omega)
end Go.Proofs.YtpeogfapnofeoaaGreatDoor
