/- Elimination over Z/p, on the reference's side: memory of the rows, plain lemmas. Marks and holds on lists of lists of ints, by intervals of blocks. -/
import Derived.Test.YtmekhjnhcgmphaaDoorAp18
import Derived.Test.YtmekhjnhcgmphaaDoorAp13
import Derived.Test.YtmekhjnhcgmphaaDoorAp00
import Derived.Test.YtmekhjnhcgmphaaDoorAp19
import Derived.Laws.EntriesVeiled
import Derived.Test.YtmekhjnhcgmphaaDoorAp17
import Derived.Test.YtmekhjnhcgmphaaDoorIv
namespace Go.Proofs.YtmekhjnhcgmphaaDoor
set_option maxRecDepth 100000
open Go Go.RowKit
theorem sp_at {K : Type} {O : Ops K} {Z : List (List K)} {r c t : Nat} (hr : r ≤ t) (h : ∀ (i : Nat) (v : List K), r ≤ i → i < t → Z[i]? = some v → O.isz (O.el v c) = true) {v : List K} (hv : Z[t]? = some v) (hz : O.isz (O.el v c) = false) : O.fnd Z r c = t := by
  have htl := (List.getElem?_eq_some_iff.1 hv).1
  have : (Z.drop r).findIdx (fun row => !O.isz (O.el row c)) = t - r := by
    rw [List.findIdx_eq (by rw [List.length_drop]; omega)]
    refine ⟨by rw [List.getElem_drop]; have e : Z[r + (t - r)]'(by omega) = v := by have := (List.getElem?_eq_some_iff.1 hv).2; rw [← this]; congr 1; omega
               rw [e, hz]; rfl, fun j hj => by
      rw [List.getElem_drop, h (r + j) _ (by omega) (by omega) (List.getElem?_eq_getElem _)]; rfl⟩
  unfold Ops.fnd
  rw [this]; omega
theorem sp_no {K : Type} {O : Ops K} {Z : List (List K)} {r c : Nat} (hr : r ≤ Z.length) (h : ∀ (i : Nat) (v : List K), r ≤ i → i < Z.length → Z[i]? = some v → O.isz (O.el v c) = true) : ¬ O.fnd Z r c < Z.length := by
  have : (Z.drop r).findIdx (fun row => !O.isz (O.el row c)) = Z.length - r := by
    rw [← List.length_drop, List.findIdx_eq_length]
    intro v hv
    obtain ⟨j, hj⟩ := List.getElem?_of_mem hv
    rw [List.getElem?_drop] at hj
    rw [h (r + j) v (by omega) (List.getElem?_eq_some_iff.1 hj).1 hj]; rfl
  unfold Ops.fnd
  rw [this]; omega
theorem set_swap3 {K : Type} {Z : List (List K)} {r t : Nat} {zt zr l : List K} (hzt : Z[t]? = some zt) (_ : Z[r]? = some zr) : ((Z.set r zt).set t zr).set r l = (Z.set t zr).set r l := by
  by_cases e : r = t
  · subst e
    rw [List.set_set, List.set_set, List.set_set]
  · rw [List.set_comm zt zr e, List.set_set]
theorem sp_mix {K : Type} {O : Ops K} {Z : List (List K)} {r c t : Nat} {zt zr : List K} (hzt : Z[t]? = some zt) (hzr : Z[r]? = some zr) {k : Nat} {u : List K} (hu : ((Z.set t zr).set r (O.nrm zt c))[k]? = some u) :
    (O.piv Z r c t)[k]? = some (if k = r then O.nrm zt c else if O.isz (O.el u c) then u else O.less u (O.el u c) (O.nrm zt c)) := by
  have htl := (List.getElem?_eq_some_iff.1 hzt).1
  have hrl := (List.getElem?_eq_some_iff.1 hzr).1
  have hkl : k < Z.length := by have := (List.getElem?_eq_some_iff.1 hu).1; simpa using this
  have e1 : Z.getD t [] = zt := by rw [List.getD_eq_getElem?_getD, hzt]; rfl
  rw [piv_at O hrl htl c k hkl, e1]
  unfold Ops.clr
  by_cases e : k = r
  · rw [if_pos e, if_pos e]
  · have : Z.getD (if k = t then r else if k = r then t else k) [] = u := by
      rw [List.getElem?_set, if_neg (fun h => e h.symm), List.getElem?_set] at hu
      by_cases e2 : k = t
      · rw [if_pos e2.symm, if_pos htl] at hu
        injection hu with hu
        rw [if_pos e2, List.getD_eq_getElem?_getD, hzr, ← hu]; rfl
      · rw [if_neg (fun h => e2 h.symm)] at hu
        rw [if_neg e2, if_neg e, List.getD_eq_getElem?_getD, hu]; rfl
    rw [this]
theorem dvd_mod' (p x : Int) : p ∣ x % p - x := by
  refine ⟨-(x / p), ?_⟩
  have := Int.emod_add_mul_ediv x p
  rw [Int.mul_neg]
  omega
theorem zp_less (p x f y : Int) : (zpOps p).add x ((zpOps p).mul ((zpOps p).neg f) y) = (x - f * y % p) % p := by
  show (x + (-f) % p * y % p) % p = (x - f * y % p) % p
  refine Int.emod_eq_emod_iff_emod_sub_eq_zero.2 (Int.emod_eq_zero_of_dvd ?_)
  have e : x + (-f) % p * y % p - (x - f * y % p) = ((-f) % p * y % p - (-f) % p * y) + (f * y % p - f * y) + ((-f) % p - -f) * y := by
    rw [Int.sub_mul, Int.neg_mul]; omega
  rw [e]
  exact Int.dvd_add (Int.dvd_add (dvd_mod' _ _) (dvd_mod' _ _)) (Int.dvd_mul_of_dvd_left (dvd_mod' _ _))
/-- A row on the way: its first j elements are less a multiple of the lead. -/
def lessTo (p f : Int) (v l : List Int) (j : Nat) : List Int := ((zpOps p).less v f l).take j ++ v.drop j
theorem lessI_len {K : Type} (O : Ops K) {v l : List K} (h : v.length = l.length) (f : K) : (O.less v f l).length = v.length := by simp [Ops.less, h]
theorem lessTo_zero (p f : Int) (v l : List Int) : lessTo p f v l 0 = v := by simp [lessTo]
theorem lessTo_all {p f : Int} {v l : List Int} (h : v.length = l.length) : lessTo p f v l v.length = (zpOps p).less v f l := by
  unfold lessTo
  rw [List.drop_length, List.append_nil, List.take_of_length_le (by rw [lessI_len _ h]; exact Nat.le_refl _)]
theorem take_set_step {α : Type} {a v : List α} {j : Nat} {x : α} (hl : a.length = v.length) (hx : a[j]? = some x) : (a.take j ++ v.drop j).set j x = a.take (j + 1) ++ v.drop (j + 1) := by
  have hj := (List.getElem?_eq_some_iff.1 hx).1
  apply List.ext_getElem?
  intro i
  simp only [List.getElem?_set, List.getElem?_append, List.getElem?_take, List.getElem?_drop, List.length_take, List.length_append, List.length_drop]
  by_cases e : j = i
  · subst e
    rw [if_pos rfl, if_pos (by omega), if_pos (by omega), if_pos (by omega), hx]
  · rw [if_neg e]
    by_cases h1 : i < j
    · rw [if_pos (by omega), if_pos h1, if_pos (by omega), if_pos (by omega)]
    · rw [if_neg (by omega), if_neg (by omega)]
      congr 1
      omega
theorem less_at {p f x y : Int} {v l : List Int} {j : Nat} (hx : v[j]? = some x) (hy : l[j]? = some y) : ((zpOps p).less v f l)[j]? = some ((x - f * y % p) % p) := by
  unfold Ops.less
  rw [List.getElem?_zipWith, hx, hy]
  exact congrArg some (zp_less p x f y)
theorem lessTo_succ {p f x y : Int} {v l : List Int} {j : Nat} (h : v.length = l.length) (hx : v[j]? = some x) (hy : l[j]? = some y) : (lessTo p f v l j).set j ((x - f * y % p) % p) = lessTo p f v l (j + 1) :=
  take_set_step (lessI_len _ h f) (less_at hx hy)
theorem lessTo_at {p f : Int} {v l : List Int} {j : Nat} (h : v.length = l.length) (hj : j < v.length) : (lessTo p f v l j)[j]? = v[j]? := by
  unfold lessTo
  rw [List.getElem?_append_right (by rw [List.length_take, lessI_len _ h]; omega), List.length_take, lessI_len _ h, List.getElem?_drop]
  congr 1; omega
/-- A row on the way: its first j elements have been multiplied by k. -/
def mulI (p k : Int) (v : List Int) (j : Nat) : List Int := (v.map fun x => x * k % p).take j ++ v.drop j
theorem mulI_len {p k : Int} {v : List Int} {j : Nat} (hj : j ≤ v.length) : (mulI p k v j).length = v.length := by simp [mulI]; omega
theorem mulI_zero (p k : Int) (v : List Int) : mulI p k v 0 = v := by simp [mulI]
theorem mulI_succ {p k x : Int} {v : List Int} {j : Nat} (hx : v[j]? = some x) : (mulI p k v j).set j (x * k % p) = mulI p k v (j + 1) :=
  take_set_step (by simp) (by rw [List.getElem?_map, hx]; rfl)
theorem mulI_at {p k : Int} {v : List Int} {j : Nat} (hj : j < v.length) : (mulI p k v j)[j]? = v[j]? := by
  unfold mulI
  rw [List.getElem?_append_right (by simp; omega), List.getElem?_drop]
  congr 1; simp; omega
theorem mulI_all {p : Int} {v : List Int} {c : Nat} {x : Int} (hx : v[c]? = some x) : mulI p (invM p x) v v.length = (zpOps p).nrm v c := by
  unfold mulI Ops.nrm
  rw [List.drop_length, List.append_nil, List.take_of_length_le (by simp), (zpOps p).el_in hx]
  refine List.map_congr_left fun a _ => ?_
  show a * invM p x % p = invM p x * a % p
  rw [Int.mul_comm]
theorem zp_isz (p x : Int) : (zpOps p).isz x = decide (x = 0) := rfl
theorem nrm_el {p : Int} (hp : 0 < p) {v : List Int} {c : Nat} : allEl p ((zpOps p).nrm v c) = true := allEl_of fun i x hx => by
  unfold Ops.nrm at hx
  rw [List.getElem?_map] at hx
  cases hv : v[i]? with
  | none => rw [hv] at hx; cases hx
  | some y => rw [hv] at hx; injection hx with hx; rw [← hx]; exact ⟨Int.emod_nonneg _ (by omega), Int.emod_lt_of_pos _ hp⟩
theorem less_el {p : Int} (hp : 0 < p) {v l : List Int} {f : Int} (hl : v.length = l.length) : allEl p ((zpOps p).less v f l) = true := allEl_of fun i x hx => by
  have hi : i < v.length := by have := (List.getElem?_eq_some_iff.1 hx).1; rwa [lessI_len _ hl] at this
  have h1 := less_at (p := p) (f := f) (List.getElem?_eq_getElem hi) (List.getElem?_eq_getElem (by omega : i < l.length))
  rw [hx] at h1
  injection h1 with h1
  rw [h1]
  exact ⟨Int.emod_nonneg _ (by omega), Int.emod_lt_of_pos _ hp⟩
/-- Rows of elements. -/
def AllM (p : Int) (Z : List (List Int)) : Prop := ∀ r ∈ Z, allEl p r = true
/-- An owned row of ints as an element. -/
def ELI : EL (List Int) where
  k := 1
  O := fun w a b vs x => ∃ g c, vs = [.slice (some ⟨g, 0, none⟩) x.length c] ∧ a ≤ g ∧ g < b ∧ x.length ≤ c ∧ Own w g x
  rlen := fun ⟨_, _, h, _⟩ => by rw [h]; rfl
  keep := fun ⟨g, c, h, h1, h2, h3, cur, h4, h5⟩ hk => ⟨g, c, h, h1, h2, h3, cur, (hk g h1 h2 (heap_lt_of h4)).trans h4, h5⟩
  one := fun ⟨_, _, h, _⟩ u hu => by rw [h] at hu; simp at hu; subst hu; rfl
theorem push_own {w : World} {B H : Nat} {v : Value} {xs : List (List Int)} (h : GE ELI 38 w B H v xs) (hH : H ≤ w.heap.size) {g c : Nat} {x : List Int} (hx : Own w g x) (hc : x.length ≤ c) (hg : H ≤ g) (hB : B ≤ H) (hl : xs.length + 1 ≤ 1099511627776) :
    ∃ v' w', (Builtin.append_ #[22, 22] 22 #[v, .slice (some ⟨w.heap.size, 0, none⟩) 1 1]).run Tryd.prog (w.alloc (.cells #[.slice (some ⟨g, 0, none⟩) x.length c] 38)) = .ok v' w' ∧
      GE ELI 38 w' B w'.heap.size v' (xs ++ [x]) ∧ ∀ b', Ex b' w → b'.heap.size ≤ B → Ex b' w' := by
  obtain ⟨i, hi, hz, hs, hby⟩ := info_parts sliceInfo
  obtain ⟨v', w', h1, h2, _, _, _, h6⟩ := GE.push ELI Tryd.underlying22 hi hz hs hby rfl (by decide) (by omega) h hH (u := [.slice (some ⟨g, 0, none⟩) x.length c]) (x := x) (a := g) (b := g + 1) ⟨g, c, rfl, Nat.le_refl _, Nat.lt_succ_self _, hc, hx⟩ hg (Nat.le_succ _) hx.lt hB hl
  exact ⟨v', w', h1, h2, h6⟩
def blockOf : Value → Nat
  | .slice (some a) _ _ => a.block
  | _ => 0
/-- A list of owned rows of n elements, once it has been built. -/
theorem GE.im {w : World} {B H g m c n : Nat} {xs : List (List Int)} (h : GE ELI 38 w B H (.slice (some ⟨g, 0, none⟩) m c) xs) (hw : Wid n xs) : ∃ bs, IM w g n bs xs ∧ B ≤ g ∧ ∀ b ∈ bs, B ≤ b := by
  obtain ⟨cur, al, bl, e, hB, hH, hh, h1, h2⟩ := h.at_
  have at_ : ∀ (j b : Nat), ((List.range xs.length).map fun j => blockOf (cur[j]?.getD .nilFunc))[j]? = some b → ∃ x cc, xs[j]? = some x ∧ x.length = n ∧ n ≤ cc ∧ cur[j]? = some (.slice (some ⟨b, 0, none⟩) n cc) ∧ Own w b x ∧ B ≤ b ∧ b ≠ g ∧ al j ≤ b ∧ b < bl j := fun j b hj => by
    have hjl : j < xs.length := by have := (List.getElem?_eq_some_iff.1 hj).1; simpa using this
    have hx : xs[j]? = some (xs[j]'hjl) := List.getElem?_eq_getElem hjl
    obtain ⟨u, q1, ⟨g2, c2, q2, q3, q4, q5, q6⟩, q7, q8, q9⟩ := h1 j _ hx
    have hl := hw _ (List.mem_of_getElem? hx)
    have hc := q1 0 _ (by rw [q2]; rfl)
    rw [show ELI.k = 1 from rfl, Nat.mul_one, Nat.add_zero] at hc
    rw [List.getElem?_map, List.getElem?_range hjl] at hj
    have hj : blockOf (cur[j]?.getD .nilFunc) = b := Option.some.inj hj
    rw [hc] at hj
    have hj : g2 = b := hj
    subst hj
    rw [hl] at hc q5
    exact ⟨_, c2, hx, hl, q5, hc, q6, by omega, by omega, q3, q4⟩
  refine ⟨(List.range xs.length).map fun j => blockOf (cur[j]?.getD .nilFunc), ⟨⟨cur, hh, fun j b hj => ?_⟩, by simp, fun j b r hj hr => ?_, fun i j b hi hj => ?_, fun j b hj => ?_⟩, hB, fun b hb => ?_⟩
  · obtain ⟨x, cc, _, _, q1, q2, _⟩ := at_ j b hj
    exact ⟨cc, q1, q2⟩
  · obtain ⟨x, cc, q0, q1, _, _, q2, _⟩ := at_ j b hj
    rw [hr] at q0
    injection q0 with q0
    subst q0
    exact ⟨q2, q1⟩
  · obtain ⟨x, _, q0, _, _, _, _, _, _, q1, q2⟩ := at_ i b hi
    obtain ⟨y, _, r0, _, _, _, _, _, _, r1, r2⟩ := at_ j b hj
    rcases Nat.lt_trichotomy i j with e | e | e
    · have := h2 i j (List.getElem?_eq_some_iff.1 q0).1 (List.getElem?_eq_some_iff.1 r0).1 (by omega); omega
    · exact e
    · have := h2 i j (List.getElem?_eq_some_iff.1 q0).1 (List.getElem?_eq_some_iff.1 r0).1 (by omega); omega
  · obtain ⟨_, _, _, _, _, _, _, _, q, _⟩ := at_ j b hj
    exact q
  · obtain ⟨j, hj⟩ := List.getElem?_of_mem hb
    obtain ⟨_, _, _, _, _, _, _, q, _⟩ := at_ j b hj
    exact q
theorem IM.rdm {w : World} {G n : Nat} {bs : List Nat} {rows : List (List Int)} (h : IM w G n bs rows) (hl : rows.length ≤ 1099511627776) (hn : n ≤ 1099511627776) (k : Nat) : RdM w (some ⟨G, 0, none⟩) (rows.take k) := by
  refine ⟨Nat.le_trans (List.length_take_le' _ _) hl, fun j r hj => ?_⟩
  rw [List.getElem?_take] at hj
  split at hj
  · obtain ⟨b, r', c, hc, _, hr, hrl, ho, _, hcell⟩ := h.at_ (List.getElem?_eq_some_iff.1 hj).1
    rw [hj] at hr
    injection hr with hr
    subst hr
    exact ⟨G, 0, _, c, rfl, by rw [Nat.zero_add, hrl]; exact hcell, ho.rd (by omega)⟩
  · cases hj
end Go.Proofs.YtmekhjnhcgmphaaDoor
namespace Go.Proofs.YtmekhjnhcgmphaaDoor
set_option maxRecDepth 100000
open Go Go.RowKit
/-- A list of lists of its own in the blocks from lo on and below hi: its headers in one block, each row in an interval of its own. -/
def FMI (w : World) (lo hi : Nat) (A : Option Addr) (rows : List (List Int)) : Prop :=
  rows.length ≤ 1099511627776 ∧ ∃ (al bl : Nat → Nat), (∀ (j : Nat) (r : List Int), rows[j]? = some r → ∃ g off A' c, A = some ⟨g, off, none⟩ ∧ lo ≤ g ∧ g < hi ∧ w.cell? ⟨g, off + j, none⟩ = some (.slice A' r.length c) ∧
      FI w (al j) (bl j) A' c r ∧ lo ≤ al j ∧ bl j ≤ hi ∧ (g < al j ∨ bl j ≤ g)) ∧
    ∀ i j, i < rows.length → j < rows.length → i ≠ j → (bl i ≤ al j ∨ bl j ≤ al i)
theorem FMI.rd {w : World} {lo hi : Nat} {A : Option Addr} {rows : List (List Int)} (h : FMI w lo hi A rows) : RdM w A rows := by
  obtain ⟨hl, al, bl, h1, _⟩ := h
  refine ⟨hl, fun j r hj => ?_⟩
  obtain ⟨g, off, A', c, hA, _, _, hc, hf, _⟩ := h1 j r hj
  exact ⟨g, off, A', c, hA, hc, hf.rd⟩
theorem FMI.nil (w : World) (lo hi : Nat) (A : Option Addr) : FMI w lo hi A [] := ⟨by simp, fun _ => 0, fun _ => 0, fun j r hj => by simp at hj, fun i j hi => by simp at hi⟩
theorem FMI.more {w : World} {lo hi lo' hi' : Nat} {A : Option Addr} {rows : List (List Int)} (h : FMI w lo hi A rows) (h1 : lo' ≤ lo) (h2 : hi ≤ hi') : FMI w lo' hi' A rows := by
  obtain ⟨hl, al, bl, k1, k2⟩ := h
  refine ⟨hl, al, bl, fun j r hj => ?_, k2⟩
  obtain ⟨g, off, A', c, hA, hg1, hg2, hc, hf, ha, hb, hd⟩ := k1 j r hj
  exact ⟨g, off, A', c, hA, by omega, by omega, hc, hf, by omega, by omega, hd⟩
theorem FMI.ex {w w' : World} {lo hi : Nat} {A : Option Addr} {rows : List (List Int)} (h : FMI w lo hi A rows) (he : Ex w w') : FMI w' lo hi A rows := by
  obtain ⟨hl, al, bl, k1, k2⟩ := h
  refine ⟨hl, al, bl, fun j r hj => ?_, k2⟩
  obtain ⟨g, off, A', c, hA, hg1, hg2, hc, hf, ha, hb, hd⟩ := k1 j r hj
  exact ⟨g, off, A', c, hA, hg1, hg2, cell_ex he hc, hf.ex he, ha, hb, hd⟩
theorem cell_iv {w w' : World} {a b g o : Nat} {v : Value} (k : ExI a b w w') (hc : w.cell? ⟨g, o, none⟩ = some v) (hd : g < a ∨ b ≤ g) : w'.cell? ⟨g, o, none⟩ = some v :=
  (World.cell?_of_block (w := w) (a := ⟨g, o, none⟩) (k.block g (cell_lt (p := ⟨g, o, none⟩) hc) hd)).trans hc
theorem FMI.iv {w w' : World} {lo hi a b : Nat} {A : Option Addr} {rows : List (List Int)} (h : FMI w lo hi A rows) (k : ExI a b w w') (hd : hi ≤ a ∨ b ≤ lo) : FMI w' lo hi A rows := by
  obtain ⟨hl, al, bl, k1, k2⟩ := h
  refine ⟨hl, al, bl, fun j r hj => ?_, k2⟩
  obtain ⟨g, off, A', c, hA, hg1, hg2, hc, hf, ha, hb, hd'⟩ := k1 j r hj
  exact ⟨g, off, A', c, hA, hg1, hg2, cell_iv k hc (by omega), hf.iv k (by omega), ha, hb, hd'⟩
/-- One row turned in place. -/
theorem FMI.row {w : World} {lo hi : Nat} {A : Option Addr} {rows : List (List Int)} (h : FMI w lo hi A rows) {i : Nat} {r : List Int} (hi' : rows[i]? = some r) :
    ∃ g off A' c a b, A = some ⟨g, off, none⟩ ∧ w.cell? ⟨g, off + i, none⟩ = some (.slice A' r.length c) ∧ FI w a b A' c r ∧ lo ≤ a ∧ b ≤ hi ∧
      ∀ w' r', ExI a b w w' → FI w' a b A' c r' → r'.length = r.length → FMI w' lo hi A (rows.set i r') := by
  obtain ⟨hl, al, bl, k1, k2⟩ := h
  have hlt := (List.getElem?_eq_some_iff.1 hi').1
  obtain ⟨g, off, A', c, hA, hg1, hg2, hc, hf, ha, hb, hd⟩ := k1 i r hi'
  refine ⟨g, off, A', c, al i, bl i, hA, hc, hf, ha, hb, fun w' r' k hf' hlen => ⟨by simpa using hl, al, bl, fun j q hj => ?_, by simpa using k2⟩⟩
  rw [List.getElem?_set] at hj
  split at hj
  · rename_i e
    subst e
    injection hj with hj
    subst hj
    exact ⟨g, off, A', c, hA, hg1, hg2, by rw [hlen]; exact cell_iv k hc hd, hf', ha, hb, hd⟩
  · rename_i e
    have hjl := (List.getElem?_eq_some_iff.1 hj).1
    obtain ⟨g2, off2, A2, c2, hA2, hg12, hg22, hc2, hf2, ha2, hb2, hd2⟩ := k1 j q hj
    rw [hA] at hA2
    injection hA2 with hA2
    injection hA2 with e1 e2 _
    subst e1 e2
    exact ⟨g, off, A2, c2, hA, hg1, hg2, cell_iv k hc2 hd, hf2.iv k (by have := k2 i j hlt hjl e; omega), ha2, hb2, hd2⟩
theorem FM.fmi {w : World} {B g : Nat} {gs : List Nat} {rows : List (List Int)} (h : FM w B g gs rows) (hl : rows.length ≤ 1099511627776) (hr : ∀ r ∈ rows, r.length ≤ 1099511627776) : FMI w B w.heap.size (some ⟨g, 0, none⟩) rows := by
  have hlt : ∀ i j, i < rows.length → j < rows.length → i < j → gs.getD i 0 < gs.getD j 0 := fun i j h1 h2 hij => by
    have hi : i < gs.length := by rw [h.len]; exact h1
    have hj : j < gs.length := by rw [h.len]; exact h2
    have := List.pairwise_iff_getElem.1 h.up i j hi hj hij
    simpa [List.getD_eq_getElem?_getD, List.getElem?_eq_getElem hi, List.getElem?_eq_getElem hj] using this
  refine ⟨hl, fun j => gs.getD j 0, fun j => gs.getD j 0 + 1, fun j r hj => ?_, fun i j h1 h2 hne => ?_⟩
  · have hjl := (List.getElem?_eq_some_iff.1 hj).1
    have hg : gs[j]? = some (gs[j]'(by rw [h.len]; exact hjl)) := List.getElem?_eq_getElem _
    obtain ⟨hgh, hb⟩ := h.row j _ r hg hj
    have e : gs.getD j 0 = gs[j]'(by rw [h.len]; exact hjl) := by rw [List.getD_eq_getElem?_getD, hg]; rfl
    have hc := h.head.cell j (v := .slice (some ⟨gs[j]'(by rw [h.len]; exact hjl), 0, none⟩) r.length r.length) (by simpa using hdr_at hg hj)
    have hlow := h.low
    have hbl := hb.lt
    refine ⟨g, 0, _, _, rfl, hlow, h.head.lt, by rw [Nat.zero_add]; exact hc, ⟨by show Fr w (gs.getD j 0) _ _ _; rw [e]; exact hb.fr (hr r (List.mem_of_getElem? hj)) (Nat.le_refl _) (Nat.le_refl _), fun a ea => by injection ea with ea; subst ea; simp only [e]; omega⟩, by simp only [e]; omega, by simp only [e]; omega, .inl (by simp only [e]; exact hgh)⟩
  · rcases Nat.lt_or_gt_of_ne hne with hlt' | hgt
    · left; have := hlt i j h1 h2 hlt'; show gs.getD i 0 + 1 ≤ gs.getD j 0; omega
    · right; have := hlt j i h2 h1 hgt; show gs.getD j 0 + 1 ≤ gs.getD i 0; omega
/-- The marks on rows of the lengths ns. -/
def mkM : Int → List Nat → List (List Int)
  | _, [] => []
  | k, n :: ns => mk k n :: mkM (k + (n : Int)) ns
theorem mkM_len : ∀ (k : Int) (ns : List Nat), (mkM k ns).length = ns.length
  | _, [] => rfl
  | k, n :: ns => by rw [mkM, List.length_cons, mkM_len, List.length_cons]
theorem mkM_at : ∀ (k : Int) (ns : List Nat) (i n : Nat), ns[i]? = some n → (mkM k ns)[i]? = some (mk (k + ((ns.take i).sum : Int)) n)
  | k, m :: ns, 0, n, h => by simp at h; subst h; simp [mkM]
  | k, m :: ns, i + 1, n, h => by
    rw [mkM, List.getElem?_cons_succ, mkM_at _ ns i n (by simpa using h), List.take_succ_cons, List.sum_cons]
    congr 2; push_cast; omega
theorem mkM_step (k : Int) (rows : List (List Int)) (i : Nat) (r : List Int) (hr : rows[i]? = some r) :
    (mkM k ((rows.map List.length).take i) ++ rows.drop i).set i (mk (k + (((rows.map List.length).take i).sum : Int)) r.length) = mkM k ((rows.map List.length).take (i + 1)) ++ rows.drop (i + 1) := by
  have hlt := (List.getElem?_eq_some_iff.1 hr).1
  have hl : (mkM k ((rows.map List.length).take i)).length = i := by rw [mkM_len, List.length_take, List.length_map]; omega
  rw [List.set_append_right _ _ (by omega), hl, Nat.sub_self, List.drop_eq_getElem_cons hlt, List.set_cons_zero]
  have hn : (rows.map List.length)[i]? = some r.length := by rw [List.getElem?_map, hr]; rfl
  have : mkM k ((rows.map List.length).take (i + 1)) = mkM k ((rows.map List.length).take i) ++ [mk (k + (((rows.map List.length).take i).sum : Int)) r.length] := by
    apply List.ext_getElem?
    intro j
    by_cases hj : j < i
    · rw [List.getElem?_append_left (by omega)]
      have hjn : ∃ n, (rows.map List.length)[j]? = some n := ⟨_, List.getElem?_eq_getElem (by simp; omega)⟩
      obtain ⟨n, hjn⟩ := hjn
      have e1 : ((rows.map List.length).take (i + 1))[j]? = some n := by rw [List.getElem?_take, if_pos (by omega)]; exact hjn
      have e2 : ((rows.map List.length).take i)[j]? = some n := by rw [List.getElem?_take, if_pos hj]; exact hjn
      rw [mkM_at _ _ j n e1, mkM_at _ _ j n e2, List.take_take, List.take_take, Nat.min_eq_left (by omega), Nat.min_eq_left (by omega)]
    · by_cases hji : j = i
      · subst hji
        have e1 : ((rows.map List.length).take (j + 1))[j]? = some r.length := by rw [List.getElem?_take, if_pos (by omega)]; exact hn
        rw [mkM_at _ _ j _ e1, List.take_take, Nat.min_eq_left (by omega), List.getElem?_append_right (by omega), hl, Nat.sub_self]; rfl
      · rw [List.getElem?_eq_none (by rw [mkM_len, List.length_take]; omega), List.getElem?_eq_none (by rw [List.length_append, hl]; simp; omega)]
  rw [this, List.append_assoc]
  rfl
theorem sum_take_le (ns : List Nat) (i : Nat) : (ns.take i).sum ≤ ns.sum := by
  have := List.take_append_drop i ns
  have e : ns.sum = (ns.take i).sum + (ns.drop i).sum := by rw [← List.sum_append, this]
  omega
theorem sum_take_succ (ns : List Nat) {i n : Nat} (h : ns[i]? = some n) : (ns.take (i + 1)).sum = (ns.take i).sum + n := by
  rw [List.take_add_one, h, List.sum_append]; simp
set_option maxHeartbeats 2000000 in
theorem markIntSS_i (lo hi : Nat) (A : Option Addr) (c : Nat) (rows : List (List Int)) (k : Int) (w : World) (h : FMI w lo hi A rows) (hk0 : 0 ≤ k) (hk : k + ((rows.map List.length).sum : Int) ≤ 4611686018427387904) :
    Calls Tryd.prog 32 #[.slice A rows.length c, .int .i64 k] w fun e w' => e = .returned (.int .i64 (k + ((rows.map List.length).sum : Int))) ∧ FMI w' lo hi A (mkM k (rows.map List.length)) ∧ ExI lo hi w w' := by
  have hl := h.1
  obtain ⟨ns, hns⟩ : ∃ ns, ns = rows.map List.length := ⟨_, rfl⟩
  have Hns := Lib.hid hns
  have hnl : ns.length = rows.length := by rw [hns, List.length_map]
  rw [← hns] at hk ⊢
  clear hns
  go_enter Tryd.func32, Tryd.ntmps32
  go_wp2
  go_loopw [1, 5] (fun q i wr => ∃ j : Nat, j ≤ rows.length ∧ q = .int .i64 (k + ((ns.take j).sum : Int)) ∧ i = .int .i64 j ∧ FMI wr lo hi A (mkM k (ns.take j) ++ rows.drop j) ∧ ExI lo hi w wr) (fun _ i _ => rows.length - (intOf i).toNat)
  case atStart => exact ⟨0, Nat.zero_le _, by simp, rfl, by simpa [mkM] using h, ExI.refl _ _ _⟩
  case round =>
    obtain ⟨j, hj, rfl, rfl, hf, he⟩ := hrel
    by_cases hlt : j < rows.length
    · obtain ⟨r, hr⟩ : ∃ r, rows[j]? = some r := ⟨_, List.getElem?_eq_getElem hlt⟩
      have hml : (mkM k (ns.take j)).length = j := by rw [mkM_len, List.length_take]; omega
      have hr2 : (mkM k (ns.take j) ++ rows.drop j)[j]? = some r := by rw [List.getElem?_append_right (by omega), hml, Nat.sub_self, List.getElem?_drop]; simpa using hr
      obtain ⟨g, off, A', c', a, b, rfl, hc, hfi, ha, hb, hset⟩ := hf.row hr2
      have hn : ns[j]? = some r.length := by rw [Hns.out, List.getElem?_map, hr]; rfl
      have s1 := sum_take_le ns j
      have s2 := sum_take_succ ns hn
      have s3 := sum_take_le ns (j + 1)
      have HS := Lib.hid (mkM_step k rows j r hr)
      rw [← Hns.out] at HS
      have S2 := Lib.hid s2
      clear hr hr2 hn s2 hml
      go_wp2_with fail
      refine (markIntS_i a b A' c' r (k + ((ns.take j).sum : Int)) _ hfi (by omega) (by omega)).mono ?_
      rintro e w1 ⟨rfl, m1, i1⟩
      have hf' := hset w1 _ i1 m1 (by rw [mk_len])
      rw [HS.out] at hf'
      go_wp2_with fail
      go_roundw
      case rel => exact ⟨j + 1, by omega, by rw [S2.out]; congr 1; push_cast; omega, by go_num, hf', he.trans (i1.widen ha hb)⟩
      case measure => simp [intOf]; omega
    · obtain rfl : j = rows.length := by omega
      have e1 : ns.take rows.length = ns := by rw [← hnl, List.take_length]
      have E1 := Lib.hid e1
      clear e1
      go_wp2
      go_ret
      rw [E1.out] at hf ⊢
      exact ⟨rfl, by simpa using hf, he⟩
end Go.Proofs.YtmekhjnhcgmphaaDoor
