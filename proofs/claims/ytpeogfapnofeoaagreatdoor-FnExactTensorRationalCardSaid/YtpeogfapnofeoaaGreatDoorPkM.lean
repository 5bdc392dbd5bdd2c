/- Marks and holds on lists of lists of ints, by intervals of blocks. Convolution of series: the contracts of both sides. Contracts: tables of elements, state spaces, on both sides. The laws' helpers on state spaces. Marks on state spaces, by intervals of blocks. Copies of state spaces, each matrix in an interval of blocks of its own. Uniform words and the laws' helpers on lists of lists of ints. The words and the laws' helpers on Relation: it reads, it is owned in an interval of blocks; copied, compared, marked, held. Printed by a program of mine. -/
import Derived.Test.YtpeogfapnofeoaaGreatDoorMat
import Derived.Test.YtpeogfapnofeoaaGreatDoorIv
import Derived.Test.YtpeogfapnofeoaaGreatDoorField
import Derived.StillTailTactics
import Derived.BigRegion
import Derived.Test.YtpeogfapnofeoaaGreatDoorU
namespace Go.Proofs.YtpeogfapnofeoaaGreatDoor
set_option maxRecDepth 100000
open Go Go.RowKit
/-- A list of lists of its own in the blocks from lo on and below hi: its headers in one block, each row in an interval of its own. -/
def FMI (w : World) (lo hi : Nat) (A : Option Addr) (rows : List (List Int)) : Prop :=
  rows.length ≤ 1099511627776 ∧ ∃ (al bl : Nat → Nat), (∀ (j : Nat) (r : List Int), rows[j]? = some r → ∃ g off A' c, A = some ⟨g, off, none⟩ ∧ lo ≤ g ∧ g < hi ∧ w.cell? ⟨g, off + j, none⟩ = some (.slice A' r.length c) ∧
      FI w (al j) (bl j) A' c r ∧ lo ≤ al j ∧ bl j ≤ hi ∧ (g < al j ∨ bl j ≤ g)) ∧
    ∀ i j, i < rows.length → j < rows.length → i ≠ j → (bl i ≤ al j ∨ bl j ≤ al i)
theorem FMI.rd {w : World} {lo hi : Nat} {A : Option Addr} {rows : List (List Int)} (h : FMI w lo hi A rows) : RdM w A rows := by
  obtain ⟨hl, al, bl, h1, _⟩ := h
  refine ⟨hl, fun j r hj => ?_⟩
  obtain ⟨g, off, A', c, hA, _, _, hc, hf, _⟩ := h1 j r hj
  exact ⟨g, off, A', c, hA, hc, hf.rd⟩
theorem FMI.nil (w : World) (lo hi : Nat) (A : Option Addr) : FMI w lo hi A [] := ⟨by simp, fun _ => 0, fun _ => 0, fun j r hj => by simp at hj, fun i j hi => by simp at hi⟩
theorem FMI.more {w : World} {lo hi lo' hi' : Nat} {A : Option Addr} {rows : List (List Int)} (h : FMI w lo hi A rows) (h1 : lo' ≤ lo) (h2 : hi ≤ hi') : FMI w lo' hi' A rows := by
  obtain ⟨hl, al, bl, k1, k2⟩ := h
  refine ⟨hl, al, bl, fun j r hj => ?_, k2⟩
  obtain ⟨g, off, A', c, hA, hg1, hg2, hc, hf, ha, hb, hd⟩ := k1 j r hj
  exact ⟨g, off, A', c, hA, by omega, by omega, hc, hf, by omega, by omega, hd⟩
theorem FMI.ex {w w' : World} {lo hi : Nat} {A : Option Addr} {rows : List (List Int)} (h : FMI w lo hi A rows) (he : Ex w w') : FMI w' lo hi A rows := by
  obtain ⟨hl, al, bl, k1, k2⟩ := h
  refine ⟨hl, al, bl, fun j r hj => ?_, k2⟩
  obtain ⟨g, off, A', c, hA, hg1, hg2, hc, hf, ha, hb, hd⟩ := k1 j r hj
  exact ⟨g, off, A', c, hA, hg1, hg2, cell_ex he hc, hf.ex he, ha, hb, hd⟩
theorem cell_iv {w w' : World} {a b g o : Nat} {v : Value} (k : ExI a b w w') (hc : w.cell? ⟨g, o, none⟩ = some v) (hd : g < a ∨ b ≤ g) : w'.cell? ⟨g, o, none⟩ = some v :=
  (World.cell?_of_block (w := w) (a := ⟨g, o, none⟩) (k.block g (cell_lt (p := ⟨g, o, none⟩) hc) hd)).trans hc
theorem FMI.iv {w w' : World} {lo hi a b : Nat} {A : Option Addr} {rows : List (List Int)} (h : FMI w lo hi A rows) (k : ExI a b w w') (hd : hi ≤ a ∨ b ≤ lo) : FMI w' lo hi A rows := by
  obtain ⟨hl, al, bl, k1, k2⟩ := h
  refine ⟨hl, al, bl, fun j r hj => ?_, k2⟩
  obtain ⟨g, off, A', c, hA, hg1, hg2, hc, hf, ha, hb, hd'⟩ := k1 j r hj
  exact ⟨g, off, A', c, hA, hg1, hg2, cell_iv k hc (by omega), hf.iv k (by omega), ha, hb, hd'⟩
/-- One row turned in place. -/
theorem FMI.row {w : World} {lo hi : Nat} {A : Option Addr} {rows : List (List Int)} (h : FMI w lo hi A rows) {i : Nat} {r : List Int} (hi' : rows[i]? = some r) :
    ∃ g off A' c a b, A = some ⟨g, off, none⟩ ∧ w.cell? ⟨g, off + i, none⟩ = some (.slice A' r.length c) ∧ FI w a b A' c r ∧ lo ≤ a ∧ b ≤ hi ∧
      ∀ w' r', ExI a b w w' → FI w' a b A' c r' → r'.length = r.length → FMI w' lo hi A (rows.set i r') := by
  obtain ⟨hl, al, bl, k1, k2⟩ := h
  have hlt := (List.getElem?_eq_some_iff.1 hi').1
  obtain ⟨g, off, A', c, hA, hg1, hg2, hc, hf, ha, hb, hd⟩ := k1 i r hi'
  refine ⟨g, off, A', c, al i, bl i, hA, hc, hf, ha, hb, fun w' r' k hf' hlen => ⟨by simpa using hl, al, bl, fun j q hj => ?_, by simpa using k2⟩⟩
  rw [List.getElem?_set] at hj
  split at hj
  · rename_i e
    subst e
    injection hj with hj
    subst hj
    exact ⟨g, off, A', c, hA, hg1, hg2, by rw [hlen]; exact cell_iv k hc hd, hf', ha, hb, hd⟩
  · rename_i e
    have hjl := (List.getElem?_eq_some_iff.1 hj).1
    obtain ⟨g2, off2, A2, c2, hA2, hg12, hg22, hc2, hf2, ha2, hb2, hd2⟩ := k1 j q hj
    rw [hA] at hA2
    injection hA2 with hA2
    injection hA2 with e1 e2 _
    subst e1 e2
    exact ⟨g, off, A2, c2, hA, hg1, hg2, cell_iv k hc2 hd, hf2.iv k (by have := k2 i j hlt hjl e; omega), ha2, hb2, hd2⟩
theorem FM.fmi {w : World} {B g : Nat} {gs : List Nat} {rows : List (List Int)} (h : FM w B g gs rows) (hl : rows.length ≤ 1099511627776) (hr : ∀ r ∈ rows, r.length ≤ 1099511627776) : FMI w B w.heap.size (some ⟨g, 0, none⟩) rows := by
  have hlt : ∀ i j, i < rows.length → j < rows.length → i < j → gs.getD i 0 < gs.getD j 0 := fun i j h1 h2 hij => by
    have hi : i < gs.length := by rw [h.len]; exact h1
    have hj : j < gs.length := by rw [h.len]; exact h2
    have := List.pairwise_iff_getElem.1 h.up i j hi hj hij
    simpa [List.getD_eq_getElem?_getD, List.getElem?_eq_getElem hi, List.getElem?_eq_getElem hj] using this
  refine ⟨hl, fun j => gs.getD j 0, fun j => gs.getD j 0 + 1, fun j r hj => ?_, fun i j h1 h2 hne => ?_⟩
  · have hjl := (List.getElem?_eq_some_iff.1 hj).1
    have hg : gs[j]? = some (gs[j]'(by rw [h.len]; exact hjl)) := List.getElem?_eq_getElem _
    obtain ⟨hgh, hb⟩ := h.row j _ r hg hj
    have e : gs.getD j 0 = gs[j]'(by rw [h.len]; exact hjl) := by rw [List.getD_eq_getElem?_getD, hg]; rfl
    have hc := h.head.cell j (v := .slice (some ⟨gs[j]'(by rw [h.len]; exact hjl), 0, none⟩) r.length r.length) (by simpa using hdr_at hg hj)
    have hlow := h.low
    have hbl := hb.lt
    refine ⟨g, 0, _, _, rfl, hlow, h.head.lt, by rw [Nat.zero_add]; exact hc, ⟨by show Fr w (gs.getD j 0) _ _ _; rw [e]; exact hb.fr (hr r (List.mem_of_getElem? hj)) (Nat.le_refl _) (Nat.le_refl _), fun a ea => by injection ea with ea; subst ea; simp only [e]; omega⟩, by simp only [e]; omega, by simp only [e]; omega, .inl (by simp only [e]; exact hgh)⟩
  · rcases Nat.lt_or_gt_of_ne hne with hlt' | hgt
    · left; have := hlt i j h1 h2 hlt'; show gs.getD i 0 + 1 ≤ gs.getD j 0; omega
    · right; have := hlt j i h2 h1 hgt; show gs.getD j 0 + 1 ≤ gs.getD i 0; omega
/-- The marks on rows of the lengths ns. -/
def mkM : Int → List Nat → List (List Int)
  | _, [] => []
  | k, n :: ns => mk k n :: mkM (k + (n : Int)) ns
theorem mkM_len : ∀ (k : Int) (ns : List Nat), (mkM k ns).length = ns.length
  | _, [] => rfl
  | k, n :: ns => by rw [mkM, List.length_cons, mkM_len, List.length_cons]
theorem mkM_at : ∀ (k : Int) (ns : List Nat) (i n : Nat), ns[i]? = some n → (mkM k ns)[i]? = some (mk (k + ((ns.take i).sum : Int)) n)
  | k, m :: ns, 0, n, h => by simp at h; subst h; simp [mkM]
  | k, m :: ns, i + 1, n, h => by
    rw [mkM, List.getElem?_cons_succ, mkM_at _ ns i n (by simpa using h), List.take_succ_cons, List.sum_cons]
    congr 2; push_cast; omega
theorem mkM_step (k : Int) (rows : List (List Int)) (i : Nat) (r : List Int) (hr : rows[i]? = some r) :
    (mkM k ((rows.map List.length).take i) ++ rows.drop i).set i (mk (k + (((rows.map List.length).take i).sum : Int)) r.length) = mkM k ((rows.map List.length).take (i + 1)) ++ rows.drop (i + 1) := by
  have hlt := (List.getElem?_eq_some_iff.1 hr).1
  have hl : (mkM k ((rows.map List.length).take i)).length = i := by rw [mkM_len, List.length_take, List.length_map]; omega
  rw [List.set_append_right _ _ (by omega), hl, Nat.sub_self, List.drop_eq_getElem_cons hlt, List.set_cons_zero]
  have hn : (rows.map List.length)[i]? = some r.length := by rw [List.getElem?_map, hr]; rfl
  have : mkM k ((rows.map List.length).take (i + 1)) = mkM k ((rows.map List.length).take i) ++ [mk (k + (((rows.map List.length).take i).sum : Int)) r.length] := by
    apply List.ext_getElem?
    intro j
    by_cases hj : j < i
    · rw [List.getElem?_append_left (by omega)]
      have hjn : ∃ n, (rows.map List.length)[j]? = some n := ⟨_, List.getElem?_eq_getElem (by simp; omega)⟩
      obtain ⟨n, hjn⟩ := hjn
      have e1 : ((rows.map List.length).take (i + 1))[j]? = some n := by rw [List.getElem?_take, if_pos (by omega)]; exact hjn
      have e2 : ((rows.map List.length).take i)[j]? = some n := by rw [List.getElem?_take, if_pos hj]; exact hjn
      rw [mkM_at _ _ j n e1, mkM_at _ _ j n e2, List.take_take, List.take_take, Nat.min_eq_left (by omega), Nat.min_eq_left (by omega)]
    · by_cases hji : j = i
      · subst hji
        have e1 : ((rows.map List.length).take (j + 1))[j]? = some r.length := by rw [List.getElem?_take, if_pos (by omega)]; exact hn
        rw [mkM_at _ _ j _ e1, List.take_take, Nat.min_eq_left (by omega), List.getElem?_append_right (by omega), hl, Nat.sub_self]; rfl
      · rw [List.getElem?_eq_none (by rw [mkM_len, List.length_take]; omega), List.getElem?_eq_none (by rw [List.length_append, hl]; simp; omega)]
  rw [this, List.append_assoc]
  rfl
theorem sum_take_le (ns : List Nat) (i : Nat) : (ns.take i).sum ≤ ns.sum := by
  have := List.take_append_drop i ns
  have e : ns.sum = (ns.take i).sum + (ns.drop i).sum := by rw [← List.sum_append, this]
  omega
theorem sum_take_succ (ns : List Nat) {i n : Nat} (h : ns[i]? = some n) : (ns.take (i + 1)).sum = (ns.take i).sum + n := by
  rw [List.take_add_one, h, List.sum_append]; simp
end Go.Proofs.YtpeogfapnofeoaaGreatDoor
namespace Go.Proofs.YtpeogfapnofeoaaGreatDoor
set_option maxRecDepth 100000
open Go Go.RowKit

/-- The sum of a[i] b[k - i] for i below j. -/
def cv (a b : List Int) (k : Nat) : Nat → Int
  | 0 => 0
  | j + 1 => cv a b k j + a[j]?.getD 0 * b[k - j]?.getD 0
theorem cv_bd {p : Int} {a b : List Int} (ha : allEl p a = true) (hb : allEl p b = true) (hp : p ≤ 97) (k j : Nat) : 0 ≤ cv a b k j ∧ cv a b k j ≤ 9216 * j := by
  induction j with
  | zero => simp [cv]
  | succ j ih =>
    have := mul_bd (allEl_bd ha hp j) (allEl_bd hb hp (k - j))
    simp only [cv]
    omega
/-- The convolution's first n coefficients, of which k are done. -/
def cvTo (p : Int) (a b : List Int) (n k : Nat) : List Int := (List.range n).map fun j => if j < k then cv a b j (j + 1) % p else 0
def cvL (p : Int) (a b : List Int) (n : Nat) : List Int := (List.range n).map fun j => cv a b j (j + 1) % p
theorem cvTo_len (p : Int) (a b : List Int) (n k : Nat) : (cvTo p a b n k).length = n := by simp [cvTo]
theorem cvTo_zero (p : Int) (a b : List Int) (n : Nat) : cvTo p a b n 0 = List.replicate n 0 := by
  apply List.ext_getElem?; intro i; simp [cvTo, List.getElem?_replicate]; grind
theorem cvTo_all (p : Int) (a b : List Int) (n : Nat) : cvTo p a b n n = cvL p a b n := by
  apply List.ext_getElem?; intro i; simp [cvTo, cvL]; grind
theorem cvTo_at (p : Int) (a b : List Int) (n k : Nat) (h : k < n) : (cvTo p a b n k)[k]? = some 0 := by simp [cvTo, h]
theorem cvTo_step (p : Int) (a b : List Int) (n k : Nat) : (cvTo p a b n k).set k (cv a b k (k + 1) % p) = cvTo p a b n (k + 1) := by
  apply List.ext_getElem?; intro i; simp only [cvTo, List.getElem?_set, List.getElem?_map, List.length_map, List.length_range]; grind
theorem cvL_len (p : Int) (a b : List Int) (n : Nat) : (cvL p a b n).length = n := by simp [cvL]
/-- A fresh list of ints and a Bool. -/
def LB (w : World) (r : List Int × Bool) (e : Ending) (w' : World) : Prop :=
  ∃ A c, e = .returned (.tuple #[.slice A r.1.length c, .bool r.2]) ∧ Fr w' w.heap.size A c r.1 ∧ Ex w w'
theorem LB.mk_ {w w' : World} {r : List Int × Bool} {A : Option Addr} {c n : Nat} {b : Bool} {e : Ending} (he : e = .returned (.tuple #[.slice A n c, .bool b])) (hn : n = r.1.length) (hb : b = r.2) (hf : Fr w' w.heap.size A c r.1) (hx : Ex w w') : LB w r e w' := by
  subst hn hb he
  exact ⟨A, c, rfl, hf, hx⟩
theorem LB.nil_ {w w' : World} {r : List Int × Bool} {e : Ending} (he : e = .returned (.tuple #[.slice none 0 0, .bool false])) (hr : r = ([], false)) (hx : Ex w w') : LB w r e w' := by
  subst hr
  exact LB.mk_ he rfl rfl (Fr.nil _ _ _) hx
end Go.Proofs.YtpeogfapnofeoaaGreatDoor
namespace Go.Proofs.YtpeogfapnofeoaaGreatDoor
set_option maxRecDepth 100000
open Go Go.RowKit
/-- Each row has n elements of the field. -/
def rowsB (p : Int) (n : Int) (m : List (List Int)) : Bool := m.all fun r => decide ((r.length : Int) = n) && allEl p r
end Go.Proofs.YtpeogfapnofeoaaGreatDoor
namespace Go.Proofs.YtpeogfapnofeoaaGreatDoor
set_option maxRecDepth 100000
open Go Go.RowKit
theorem szAll_le {l : Int} {ns : List Nat} (h : 0 ≤ szAll l ns) : ((ns.length + ns.sum : Nat) : Int) + szAll l ns = l := by
  rw [szAll] at h ⊢
  split at h
  · omega
  · rename_i hh
    rw [if_neg hh]
    have := szGo_le ns _ h
    omega
theorem szGo_lo : ∀ (ns : List Nat) (l : Int), 0 ≤ l → -1 ≤ szGo l ns ∧ szGo l ns ≤ l
  | [], l, h => by simp [szGo]; omega
  | n :: ns, l, h => by
    rw [szGo]
    split
    · omega
    · have := szGo_lo ns (l - (n : Int)) (by omega)
      omega
theorem szAll_lo (ns : List Nat) (l : Int) (h : 0 ≤ l) : -1 ≤ szAll l ns ∧ szAll l ns ≤ l := by
  rw [szAll]
  split
  · omega
  · have := szGo_lo ns (l - (ns.length : Int)) (by omega)
    omega
def szS (l : Int) : List (List Nat) → Int
  | [] => l
  | ns :: rest => if szAll l ns < 0 then -1 else szS (szAll l ns) rest
/-- The cells of a state space. -/
def ssC (x y z : Int) (u1 u2 u3 u4 : Value) : Array Value := #[.int .i64 x, .int .i64 y, .int .i64 z, u1, u2, u3, u4]
/-- u is a copy of rows, made from block B on. -/
def CM (w : World) (B : Nat) (u : Value) (rows : List (List Int)) : Prop := ∃ g gs, u = .slice (some ⟨g, 0, none⟩) rows.length rows.length ∧ FM w B g gs rows
theorem CM.ex {w w' : World} {B : Nat} {u : Value} {rows : List (List Int)} (h : CM w B u rows) (he : Ex w w') : CM w' B u rows := by
  obtain ⟨g, gs, e, f⟩ := h
  exact ⟨g, gs, e, f.ex he⟩
theorem FM.ex1 {w w' : World} {B g k : Nat} {gs : List Nat} {rows : List (List Int)} (h : FM w B g gs rows) (he : Ex1 k w w') (hk : k < B) : FM w' B g gs rows :=
  ⟨h.low, h.len, h.head.ex1 he (by have := h.low; omega), fun j b r hg hr => ⟨(h.row j b r hg hr).1, (h.row j b r hg hr).2.ex1 he (by have := (h.row j b r hg hr).1; have := h.low; omega)⟩, h.up⟩
theorem CM.ex1 {w w' : World} {B k : Nat} {u : Value} {rows : List (List Int)} (h : CM w B u rows) (he : Ex1 k w w') (hk : k < B) : CM w' B u rows := by
  obtain ⟨g, gs, e, f⟩ := h
  exact ⟨g, gs, e, f.ex1 he hk⟩
theorem FM.more {w : World} {B B' g : Nat} {gs : List Nat} {rows : List (List Int)} (h : FM w B g gs rows) (hb : B' ≤ B) : FM w B' g gs rows := ⟨Nat.le_trans hb h.low, h.len, h.head, h.row, h.up⟩
theorem CM.more {w : World} {B B' : Nat} {u : Value} {rows : List (List Int)} (h : CM w B u rows) (hb : B' ≤ B) : CM w B' u rows := by
  obtain ⟨g, gs, e, f⟩ := h
  exact ⟨g, gs, e, f.more hb⟩
theorem RdM.ex1 {w w' : World} {A : Option Addr} {rows : List (List Int)} {g : Nat} (h : RdM w A rows) (he : Ex1 g w w') (hg : w.heap.size ≤ g) : RdM w' A rows := h.ex (Ex.ex1 (Ex.refl w) he hg)
end Go.Proofs.YtpeogfapnofeoaaGreatDoor
namespace Go.Proofs.YtpeogfapnofeoaaGreatDoor
set_option maxRecDepth 100000
open Go Go.RowKit
def tot (rows : List (List Int)) : Int := ((rows.map List.length).sum : Int)
theorem tot_nn (rows : List (List Int)) : 0 ≤ tot rows := Int.natCast_nonneg _
end Go.Proofs.YtpeogfapnofeoaaGreatDoor
namespace Go.Proofs.YtpeogfapnofeoaaGreatDoor
set_option maxRecDepth 100000
open Go Go.RowKit
theorem FMI.ex1 {w w' : World} {lo hi k : Nat} {A : Option Addr} {rows : List (List Int)} (h : FMI w lo hi A rows) (he : Ex1 k w w') (hk : k < lo) : FMI w' lo hi A rows :=
  h.iv (a := k) (b := k + 1) (ExI.of_exo (A := some ⟨k, 0, none⟩) he (fun a e => by injection e with e; rw [← e]; exact Nat.le_refl _) (fun a e => by injection e with e; rw [← e]; exact Nat.lt_succ_self _)) (by omega)
theorem RdM.rows {w : World} {A : Option Addr} {rows : List (List Int)} (h : RdM w A rows) : ∀ r ∈ rows, r.length ≤ 1099511627776 := fun r hr => by
  obtain ⟨j, hj⟩ := List.mem_iff_getElem?.1 hr
  obtain ⟨_, _, _, _, _, _, q⟩ := h.2 j r hj
  exact q.len
/-- u is a copy of rows in the blocks from lo on and below hi. -/
def CI (w : World) (lo hi : Nat) (u : Value) (rows : List (List Int)) : Prop := ∃ g, u = .slice (some ⟨g, 0, none⟩) rows.length rows.length ∧ FMI w lo hi (some ⟨g, 0, none⟩) rows
theorem CI.ex {w w' : World} {lo hi : Nat} {u : Value} {rows : List (List Int)} (h : CI w lo hi u rows) (he : Ex w w') : CI w' lo hi u rows := by
  obtain ⟨g, e, f⟩ := h
  exact ⟨g, e, f.ex he⟩
theorem CI.ex1 {w w' : World} {lo hi k : Nat} {u : Value} {rows : List (List Int)} (h : CI w lo hi u rows) (he : Ex1 k w w') (hk : k < lo) : CI w' lo hi u rows := by
  obtain ⟨g, e, f⟩ := h
  exact ⟨g, e, f.ex1 he hk⟩
end Go.Proofs.YtpeogfapnofeoaaGreatDoor
namespace Go.Proofs.YtpeogfapnofeoaaGreatDoor
set_option maxRecDepth 100000
open Go Go.RowKit
def totM (x : List (List Int)) : Int := tot x
theorem totM_nn (x : List (List Int)) : 0 ≤ totM x := tot_nn x
def mkM' (k : Int) (x : List (List Int)) : List (List Int) := mkM k (x.map List.length)
theorem mkM_lens : ∀ (k : Int) (ns : List Nat), (mkM k ns).map List.length = ns
  | _, [] => rfl
  | k, n :: ns => by rw [mkM, List.map_cons, mk_len, mkM_lens]
theorem totM_mk (k : Int) (x : List (List Int)) : totM (mkM' k x) = totM x := by unfold totM tot mkM'; rw [mkM_lens]
def RM (w : World) (v : Value) (x : List (List Int)) : Prop := (∃ A c, v = .slice A x.length c ∧ RdM w A x) ∧ totM x ≤ 1125899906842624
theorem RM.ex {w w' : World} {v : Value} {x : List (List Int)} (h : RM w v x) (he : Ex w w') : RM w' v x := by
  obtain ⟨⟨A, c, e, r⟩, t⟩ := h
  exact ⟨⟨A, c, e, r.ex he⟩, t⟩
theorem RM.form {w : World} {v : Value} {x : List (List Int)} (h : RM w v x) : ∃ A n c, v = .slice A n c := by
  obtain ⟨⟨A, c, e, r⟩, _⟩ := h
  exact ⟨A, _, c, e⟩
theorem RM.tot {w : World} {v : Value} {x : List (List Int)} (h : RM w v x) : totM x ≤ 1125899906842624 := h.2
def OM2 (w : World) (a b : Nat) (v : Value) (x : List (List Int)) : Prop := (∃ A c, v = .slice A x.length c ∧ FMI w a b A x) ∧ totM x ≤ 1125899906842624
theorem OM2.rd {w : World} {a b : Nat} {v : Value} {x : List (List Int)} (h : OM2 w a b v x) : RM w v x := by
  obtain ⟨⟨A, c, e, r⟩, t⟩ := h
  exact ⟨⟨A, c, e, r.rd⟩, t⟩
theorem OM2.ex {w w' : World} {a b : Nat} {v : Value} {x : List (List Int)} (h : OM2 w a b v x) (he : Ex w w') : OM2 w' a b v x := by
  obtain ⟨⟨A, c, e, r⟩, t⟩ := h
  exact ⟨⟨A, c, e, r.ex he⟩, t⟩
theorem OM2.iv {w w' : World} {a b a' b' : Nat} {v : Value} {x : List (List Int)} (h : OM2 w a b v x) (k : ExI a' b' w w') (hd : b ≤ a' ∨ b' ≤ a) : OM2 w' a b v x := by
  obtain ⟨⟨A, c, e, r⟩, t⟩ := h
  exact ⟨⟨A, c, e, r.iv k hd⟩, t⟩
theorem OM2.e1 {w w' : World} {a b g : Nat} {v : Value} {x : List (List Int)} (h : OM2 w a b v x) (k : Ex1 g w w') (hd : g < a ∨ b ≤ g) : OM2 w' a b v x := h.iv (ExI.of_ex1 k) (by omega)
theorem OM2.more {w : World} {a b a' b' : Nat} {v : Value} {x : List (List Int)} (h : OM2 w a b v x) (ha : a' ≤ a) (hb : b ≤ b') : OM2 w a' b' v x := by
  obtain ⟨⟨A, c, e, r⟩, t⟩ := h
  exact ⟨⟨A, c, e, r.more ha hb⟩, t⟩
end Go.Proofs.YtpeogfapnofeoaaGreatDoor
namespace Go.Proofs.YtpeogfapnofeoaaGreatDoor
set_option maxRecDepth 100000
open Go Go.RowKit
structure Rln where
  l : Int
  r : Int
  b : List (List Int)
def RRln (w : World) (v0 : Value) (x : Rln) : Prop := RM w v0 x.b
def totRln (x : Rln) : Int := totM x.b
def mkRln (k : Int) (x : Rln) : Rln := ⟨x.l, x.r, mkM' (k) x.b⟩
theorem totRln_nn (x : Rln) : 0 ≤ totRln x := by
  unfold totRln
  have h0 := totM_nn x.b
  omega
theorem RRln.ex {w w' : World} {v0 : Value} {x : Rln} (h : RRln w v0 x) (he : Ex w w') : RRln w' v0 x := RM.ex h he
theorem RRln.tot {w : World} {v0 : Value} {x : Rln} (h : RRln w v0 x) : totRln x ≤ 1125899906842624 := RM.tot h
theorem RRln.form {w : World} {v0 : Value} {x : Rln} (h : RRln w v0 x) : ∃ A0 n0 c0, v0 = .slice A0 n0 c0 := by
  have h0 : RM w v0 _ := h
  obtain ⟨A0, n0, c0, e0⟩ := h0.form
  exact ⟨A0, n0, c0, e0⟩
def ORln (w : World) (lo hi : Nat) (v0 : Value) (x : Rln) : Prop := ∃ (a0 b0 : Nat), OM2 w a0 b0 v0 x.b ∧ lo ≤ a0 ∧ b0 ≤ hi
theorem ORln.rd {w : World} {lo hi : Nat} {v0 : Value} {x : Rln} (h : ORln w lo hi v0 x) : RRln w v0 x := by
  obtain ⟨a0, b0, m0, c0, c1⟩ := h
  exact m0.rd
theorem ORln.ex {w w' : World} {lo hi : Nat} {v0 : Value} {x : Rln} (h : ORln w lo hi v0 x) (he : Ex w w') : ORln w' lo hi v0 x := by
  obtain ⟨a0, b0, m0, c0, c1⟩ := h
  exact ⟨a0, b0, m0.ex he, c0, c1⟩
theorem ORln.iv {w w' : World} {lo hi : Nat} {v0 : Value} {x : Rln} (h : ORln w lo hi v0 x) {a b : Nat} (q : ExI a b w w') (hd : hi ≤ a ∨ b ≤ lo) : ORln w' lo hi v0 x := by
  obtain ⟨a0, b0, m0, c0, c1⟩ := h
  exact ⟨a0, b0, m0.iv q (by omega), c0, c1⟩
theorem ORln.e1 {w w' : World} {lo hi : Nat} {v0 : Value} {x : Rln} (h : ORln w lo hi v0 x) {g : Nat} (q : Ex1 g w w') (hd : g < lo ∨ hi ≤ g) : ORln w' lo hi v0 x := by
  obtain ⟨a0, b0, m0, c0, c1⟩ := h
  exact ⟨a0, b0, m0.e1 q (by omega), c0, c1⟩
theorem ORln.more {w : World} {lo hi lo' hi' : Nat} {v0 : Value} {x : Rln} (h : ORln w lo hi v0 x) (h1 : lo' ≤ lo) (h2 : hi ≤ hi') : ORln w lo' hi' v0 x := by
  obtain ⟨a0, b0, m0, c0, c1⟩ := h
  exact ⟨a0, b0, m0, by omega, by omega⟩
end Go.Proofs.YtpeogfapnofeoaaGreatDoor
