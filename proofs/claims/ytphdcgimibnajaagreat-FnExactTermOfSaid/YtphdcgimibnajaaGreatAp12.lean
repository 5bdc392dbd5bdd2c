/- The term of a drawn graph, in plain terms: layers, permutations. Types of terms, in plain terms: nodes are read onto a stack; what a wide cut makes is no term. The reference's record of a term's parts: three lists stand for the stack of types. Parts of terms joined (the program): leafOf, joinNodes, layer. -/
import Derived.Test.YtphdcgimibnajaaGreatAp11
import Derived.Test.YtphdcgimibnajaaGreatAp04
import Derived.Test.YtphdcgimibnajaaGreatAp05
namespace Go.Proofs.YtphdcgimibnajaaGreat
set_option maxRecDepth 100000
def nd (k v : Int) : Nd := ⟨k, v, ⟨#[]⟩⟩
def jn (k : Int) (a b : List Nd) : List Nd := a ++ b ++ [nd k 0]
/-- A part beside identities on the wires in front of it and behind it. -/
def layF (f : Nat) (t : List Nd) : List Nd := if 0 < f then jn 16 [nd 1 f] t else t
def layL (f : Nat) (t : List Nd) (b : Nat) : List Nd := if 0 < b then jn 16 (layF f t) [nd 1 b] else layF f t
/-- A factor more. -/
def addL (out f : List Nd) : List Nd := if out.length = 0 then f else jn 15 out f
theorem jn_len (k : Int) (a b : List Nd) : (jn k a b).length = a.length + b.length + 1 := by simp [jn]; omega
theorem layF_len (f : Nat) (t : List Nd) : t.length ≤ (layF f t).length ∧ (layF f t).length ≤ t.length + 2 := by
  unfold layF
  split
  · rw [jn_len]; simp; omega
  · omega
theorem layL_len (f : Nat) (t : List Nd) (b : Nat) : t.length ≤ (layL f t b).length ∧ (layL f t b).length ≤ t.length + 4 := by
  have := layF_len f t
  unfold layL
  split
  · rw [jn_len]; simp; omega
  · omega
theorem addL_len (out f : List Nd) : out.length ≤ (addL out f).length ∧ f.length ≤ (addL out f).length ∧ (addL out f).length ≤ out.length + f.length + 1 := by
  unfold addL
  split
  · omega
  · rw [jn_len]; omega
/-- Two neighbours exchanged. -/
def swapI (l : List Int) (i : Nat) : List Int := (l.set i (l.getD (i + 1) 0)).set (i + 1) (l.getD i 0)
def desc (l : List Int) : Option Nat := (List.range (l.length - 1)).find? fun i => decide (l.getD (i + 1) 0 < l.getD i 0)
def invN : List Int → Nat
  | [] => 0
  | x :: l => (l.countP fun y => decide (y < x)) + invN l
theorem swapI_len (l : List Int) (i : Nat) : (swapI l i).length = l.length := by simp [swapI]
theorem swapI_zero (x y : Int) (l : List Int) : swapI (x :: y :: l) 0 = y :: x :: l := by simp [swapI]
theorem swapI_succ (x : Int) (l : List Int) (i : Nat) : swapI (x :: l) (i + 1) = x :: swapI l i := by simp [swapI]
theorem swapI_perm : ∀ (l : List Int) (i : Nat), i + 1 < l.length → (swapI l i).Perm l
  | [], i, h => by simp at h
  | [x], i, h => by simp at h
  | x :: y :: l, 0, _ => by rw [swapI_zero]; exact List.Perm.swap x y l
  | x :: y :: l, i + 1, h => by
    rw [swapI_succ]
    exact (swapI_perm (y :: l) i (by simpa using h)).cons x
theorem invN_swap : ∀ (l : List Int) (i : Nat), i + 1 < l.length → l.getD (i + 1) 0 < l.getD i 0 → invN (swapI l i) + 1 = invN l
  | [], i, h, _ => by simp at h
  | [x], i, h, _ => by simp at h
  | x :: y :: l, 0, _, hd => by
    have hd' : y < x := by simpa using hd
    rw [swapI_zero]
    have h1 : ¬ x < y := by omega
    simp [invN, hd', h1]
    omega
  | x :: y :: l, i + 1, h, hd => by
    rw [swapI_succ]
    have ih := invN_swap (y :: l) i (by simpa using h) (by simpa using hd)
    have hp := (swapI_perm (y :: l) i (by simpa using h)).countP_eq (fun z => decide (z < x))
    show (swapI (y :: l) i).countP _ + invN (swapI (y :: l) i) + 1 = (y :: l).countP _ + invN (y :: l)
    rw [hp]
    omega
theorem invN_le : ∀ l : List Int, invN l ≤ l.length * l.length
  | [] => Nat.zero_le _
  | x :: l => by
    have := invN_le l
    have h2 := List.countP_le_length (p := fun y => decide (y < x)) (l := l)
    show l.countP _ + invN l ≤ (l.length + 1) * (l.length + 1)
    have e : (l.length + 1) * (l.length + 1) = l.length * l.length + 2 * l.length + 1 := by
      rw [Nat.add_mul, Nat.mul_add]; omega
    omega
theorem desc_some {l : List Int} {i : Nat} (h : desc l = some i) : i + 1 < l.length ∧ l.getD (i + 1) 0 < l.getD i 0 := by
  have h1 := List.find?_some h
  have h2 := List.mem_of_find?_eq_some h
  rw [List.mem_range] at h2
  exact ⟨by omega, by simpa using h1⟩
theorem desc_at {l : List Int} {i : Nat} (hp : ∀ j, j < i → l.getD j 0 ≤ l.getD (j + 1) 0) (hi : i + 1 < l.length) (hd : l.getD (i + 1) 0 < l.getD i 0) : desc l = some i := by
  unfold desc
  rw [List.find?_range_eq_some]
  exact ⟨by simpa using hd, List.mem_range.2 (by omega), fun j hj => by simpa using hp j hj⟩
theorem desc_none {l : List Int} (hp : ∀ j, j + 1 < l.length → l.getD j 0 ≤ l.getD (j + 1) 0) : desc l = none := by
  unfold desc
  rw [List.find?_eq_none]
  intro j hj
  rw [List.mem_range] at hj
  simpa using hp j (by omega)
def swpN (l : List Int) (i : Nat) : List Nd := layL i [nd 2 0] (l.length - 2 - i)
def permG : Nat → List Int → List Nd → List Nd
  | 0, _, out => out
  | f + 1, l, out => match desc l with
    | none => out
    | some i => permG f (swapI l i) (addL out (swpN l i))
def permL (l : List Int) (out : List Nd) : List Nd := permG (invN l) l out
theorem permL_none {l : List Int} (h : desc l = none) (out : List Nd) : permL l out = out := by
  unfold permL
  cases invN l with
  | zero => rfl
  | succ f => simp [permG, h]
theorem permL_some {l : List Int} {i : Nat} (h : desc l = some i) (out : List Nd) : permL l out = permL (swapI l i) (addL out (swpN l i)) := by
  obtain ⟨h1, h2⟩ := desc_some h
  have := invN_swap l i h1 h2
  unfold permL
  rw [← this]
  simp [permG, h]
theorem swpN_len (l : List Int) (i : Nat) : 1 ≤ (swpN l i).length ∧ (swpN l i).length ≤ 5 := by
  have := layL_len i [nd 2 0] (l.length - 2 - i)
  unfold swpN
  simp at this
  omega
theorem permG_len : ∀ (f : Nat) (l : List Int) (out : List Nd), out.length ≤ (permG f l out).length ∧ (permG f l out).length ≤ out.length + 6 * f
  | 0, _, out => ⟨Nat.le_refl _, Nat.le_refl _⟩
  | f + 1, l, out => by
    unfold permG
    split
    · omega
    · rename_i i _
      have h1 := permG_len f (swapI l i) (addL out (swpN l i))
      have h2 := addL_len out (swpN l i)
      have h3 := swpN_len l i
      omega
theorem permL_len (l : List Int) (out : List Nd) : out.length ≤ (permL l out).length ∧ (permL l out).length ≤ out.length + 6 * (l.length * l.length) := by
  have h1 := permG_len (invN l) l out
  have h2 := invN_le l
  unfold permL
  omega
/-- The nodes of a permutation. -/
def permN (l : List Int) : List Nd := if (permL l []).length = 0 then [nd 1 l.length] else permL l []
theorem permN_len (l : List Int) : 1 ≤ (permN l).length ∧ (permN l).length ≤ 1 + 6 * (l.length * l.length) := by
  have := permL_len l []
  unfold permN
  simp at this
  split
  · simp
  · omega
/-- What brings wires from one order into another one. -/
def posN (cut target : List Int) : List Int := cut.map fun w => (target.idxOf w : Int)
def mvA (out : List Nd) (cut target : List Int) : List Nd := if cut = target then out else addL out (permN (posN cut target))
theorem posN_len (cut target : List Int) : (posN cut target).length = cut.length := by simp [posN]
theorem posN_nodup {cut target : List Int} (hc : cut.Nodup) (hs : ∀ w ∈ cut, w ∈ target) : (posN cut target).Nodup := by
  unfold posN
  rw [List.nodup_iff_pairwise_ne, List.pairwise_map]
  refine List.Pairwise.imp_of_mem ?_ hc
  intro a b ha hb hne e
  have e' : target.idxOf a = target.idxOf b := by omega
  have h1 := List.getElem_idxOf (List.idxOf_lt_length_of_mem (hs a ha))
  have h2 := List.getElem_idxOf (List.idxOf_lt_length_of_mem (hs b hb))
  apply hne
  rw [← h1, ← h2]
  simp only [e']
theorem mvA_len (out : List Nd) (cut target : List Int) : out.length ≤ (mvA out cut target).length ∧ (mvA out cut target).length ≤ out.length + 2 + 6 * (cut.length * cut.length) := by
  unfold mvA
  split
  · omega
  · have h1 := addL_len out (permN (posN cut target))
    have h2 := permN_len (posN cut target)
    rw [posN_len] at h2
    omega
/-- The wires of a cut that an edge does not take. -/
def rstL (cut : List Int) (e : Ed) : List Int := cut.filter fun w => !decide (w ∈ e.ins)
def tStep (e : Ed) (out : List Nd) (cut : List Int) : List Nd := addL (mvA out cut (e.ins ++ rstL cut e)) (layL 0 [nd e.kd e.vl] (rstL cut e).length)
def tAll (es : List Ed) : List Int → List Nd → List Int → List Nd × List Int
  | [], out, cut => (out, cut)
  | i :: l, out, cut => tAll es l (tStep (edAt es i) out cut) (cutB cut (edAt es i))
def tEnd (out : List Nd) (n : Nat) : List Nd := if out.length = 0 then [nd 1 n] else out
def tFin (x : Gr) (l : List Int) (out : List Nd) (cut : List Int) : List Nd := tEnd (mvA (tAll x.es l out cut).1 (tAll x.es l out cut).2 x.outs) x.ins.length
theorem tFin_cons (x : Gr) (i : Int) (l : List Int) (out : List Nd) (cut : List Int) : tFin x (i :: l) out cut = tFin x l (tStep (edAt x.es i) out cut) (cutB cut (edAt x.es i)) := rfl
theorem tStep_len (e : Ed) (out : List Nd) (cut : List Int) : out.length < (tStep e out cut).length ∧ (tStep e out cut).length ≤ out.length + 9 + 6 * (cut.length * cut.length) := by
  have h1 := mvA_len out cut (e.ins ++ rstL cut e)
  have h2 := addL_len (mvA out cut (e.ins ++ rstL cut e)) (layL 0 [nd e.kd e.vl] (rstL cut e).length)
  have h3 := layL_len 0 [nd e.kd e.vl] (rstL cut e).length
  unfold tStep
  unfold addL at h2 ⊢
  simp at h3
  split
  · rename_i h
    rw [if_pos h] at h2
    omega
  · rename_i h
    rw [if_neg h, jn_len] at h2
    rw [jn_len]
    omega
end Go.Proofs.YtphdcgimibnajaaGreat
namespace Go.Proofs.YtphdcgimibnajaaGreat
set_option maxRecDepth 100000
def nmB (n : Nd) : Bool := decide (n.nm = ⟨#[]⟩)
/-- The type of a leaf. -/
def lfT (n : Nd) : Option (Int × Int) :=
  if nmB n = true ∧ n.kd = 1 ∧ inB 0 12 n.vl = true then some (n.vl, n.vl)
  else if nmB n = true ∧ n.kd = 2 ∧ n.vl = 0 then some (2, 2)
  else if nmB n = true ∧ inB 3 14 n.kd = true ∧ vlB n.kd n.vl = true then some (gw n.kd)
  else none
def jnT (k : Int) (a b : Int × Int) : Option (Int × Int) :=
  if k = 15 then (if a.2 = b.1 then some (a.1, b.2) else none)
  else (if a.1 + b.1 ≤ 12 ∧ a.2 + b.2 ≤ 12 then some (a.1 + b.1, a.2 + b.2) else none)
/-- One node is read. -/
def stp (st : List (Int × Int)) (n : Nd) : Option (List (Int × Int)) :=
  if n.kd = 15 ∨ n.kd = 16 then
    (if n.vl = 0 ∧ nmB n = true then
      match st with
      | b :: a :: r => (jnT n.kd a b).map (· :: r)
      | _ => none
    else none)
  else (lfT n).map (· :: st)
def scn : List Nd → List (Int × Int) → Option (List (Int × Int))
  | [], st => some st
  | n :: l, st => (stp st n).bind (scn l)
def typO (l : List Nd) : Option (Int × Int) :=
  if 1 ≤ l.length ∧ l.length ≤ 400 then
    match scn l [] with
    | some [w] => some w
    | _ => none
  else none
def trmB (l : List Nd) : Bool := (typO l).isSome
theorem scn_append (a b : List Nd) (st : List (Int × Int)) : scn (a ++ b) st = (scn a st).bind (scn b) := by
  induction a generalizing st with
  | nil => rfl
  | cons n a ih =>
    show (stp st n).bind (scn (a ++ b)) = ((stp st n).bind (scn a)).bind (scn b)
    cases stp st n with
    | none => rfl
    | some s => exact ih s
theorem scn_mid {X : List Nd} (h : ∀ st, scn X st = none) (a b : List Nd) (st : List (Int × Int)) : scn (a ++ X ++ b) st = none := by
  rw [scn_append, scn_append]
  cases scn a st with
  | none => rfl
  | some s => show ((scn X s).bind (scn b)) = none; rw [h]; rfl
theorem trmB_mid {X : List Nd} (h : ∀ st, scn X st = none) (a b : List Nd) : trmB (a ++ X ++ b) = false := by
  unfold trmB typO
  split
  · rw [scn_mid h]; rfl
  · rfl
theorem trmB_long {l : List Nd} (h : 400 < l.length) : trmB l = false := by
  unfold trmB typO
  rw [if_neg (by omega)]
  rfl
theorem inB12 {v : Int} (h : inB 0 12 v = true) : 0 ≤ v ∧ v ≤ 12 := by simpa [inB] using h
theorem lfT_bd {n : Nd} {w : Int × Int} (h : lfT n = some w) : (0 ≤ w.1 ∧ w.1 ≤ 12) ∧ (0 ≤ w.2 ∧ w.2 ≤ 12) := by
  unfold lfT at h
  split at h
  · rename_i h1
    have := inB12 h1.2.2
    injection h with h; subst h
    exact ⟨this, this⟩
  · split at h
    · injection h with h; subst h; decide
    · split at h
      · injection h with h; subst h
        unfold gw
        split
        · decide
        · split
          · decide
          · split
            · decide
            · split <;> decide
      · cases h
theorem jnT_bd {k : Int} {a b c : Int × Int} (ha : (0 ≤ a.1 ∧ a.1 ≤ 12) ∧ (0 ≤ a.2 ∧ a.2 ≤ 12)) (hb : (0 ≤ b.1 ∧ b.1 ≤ 12) ∧ (0 ≤ b.2 ∧ b.2 ≤ 12)) (h : jnT k a b = some c) : (0 ≤ c.1 ∧ c.1 ≤ 12) ∧ (0 ≤ c.2 ∧ c.2 ≤ 12) := by
  unfold jnT at h
  split at h
  · split at h
    · injection h with h; subst h; exact ⟨ha.1, hb.2⟩
    · cases h
  · split at h
    · injection h with h; subst h; dsimp only; omega
    · cases h
/-- A wide leaf beside identities. -/
theorem wide_none {k v : Int} {r : Nat} (h3 : inB 3 14 k = true) (h : 12 < (gw k).1 + r) (hr : 0 < r) : ∀ st, scn (layL 0 [nd k v] r) st = none := by
  intro st
  have hk : 3 ≤ k ∧ k ≤ 14 := by simpa [inB] using h3
  unfold layL layF
  rw [if_pos hr, if_neg (Nat.lt_irrefl 0)]
  show scn ([nd k v] ++ [nd 1 r] ++ [nd 16 0]) st = none
  rw [scn_append, scn_append]
  have e1 : scn [nd k v] st = (lfT (nd k v)).map (· :: st) := by
    show ((stp st (nd k v)).bind fun s => some s) = _
    unfold stp
    rw [if_neg (by show ¬ (k = 15 ∨ k = 16); omega)]
    cases lfT (nd k v) <;> rfl
  rw [e1]
  cases hl : lfT (nd k v) with
  | none => rfl
  | some w =>
    have hw : w = gw k := by
      unfold lfT at hl
      rw [if_neg (by show ¬ (_ ∧ k = 1 ∧ _); omega), if_neg (by show ¬ (_ ∧ k = 2 ∧ _); omega)] at hl
      split at hl
      · injection hl with hl; exact hl.symm
      · cases hl
    subst hw
    show ((scn [nd 1 r] (gw k :: st)).bind (scn [nd 16 0])) = none
    have e2 : scn [nd 1 r] (gw k :: st) = (lfT (nd 1 r)).map (· :: gw k :: st) := by
      show ((stp (gw k :: st) (nd 1 r)).bind fun s => some s) = _
      unfold stp
      rw [if_neg (by show ¬ ((1 : Int) = 15 ∨ (1 : Int) = 16); omega)]
      cases lfT (nd 1 r) <;> rfl
    rw [e2]
    unfold lfT
    split
    · show scn [nd 16 0] (((r : Int), (r : Int)) :: gw k :: st) = none
      show ((stp (((r : Int), (r : Int)) :: gw k :: st) (nd 16 0)).bind fun s => some s) = none
      unfold stp
      rw [if_pos (.inr rfl), if_pos ⟨rfl, rfl⟩]
      show ((jnT 16 (gw k) ((r : Int), (r : Int))).map (· :: st)).bind (fun s => some s) = none
      unfold jnT
      rw [if_neg (by decide), if_neg (by show ¬ ((gw k).1 + (r : Int) ≤ 12 ∧ _); omega)]
      rfl
    · rw [if_neg (by show ¬ (_ ∧ (1 : Int) = 2 ∧ _); omega), if_neg (by
        show ¬ (_ ∧ inB 3 14 1 = true ∧ _)
        intro h; exact absurd h.2.1 (by decide))]
      rfl
/-- The list begins with what it was. -/
def Ext (a b : List Nd) : Prop := ∃ c, b = a ++ c
theorem Ext.refl (a : List Nd) : Ext a a := ⟨[], by simp⟩
theorem Ext.trans {a b c : List Nd} (h : Ext a b) (k : Ext b c) : Ext a c := by
  obtain ⟨x, rfl⟩ := h
  obtain ⟨y, rfl⟩ := k
  exact ⟨x ++ y, by rw [List.append_assoc]⟩
theorem ext_addL {out f : List Nd} (h : 0 < out.length) : Ext out (addL out f) := by
  unfold addL
  rw [if_neg (by omega)]
  exact ⟨f ++ [nd 15 0], by simp [jn]⟩
theorem ext_mvA {out : List Nd} {cut target : List Int} (h : 0 < out.length) : Ext out (mvA out cut target) := by
  unfold mvA
  split
  · exact Ext.refl _
  · exact ext_addL h
theorem ext_tStep {e : Ed} {out : List Nd} {cut : List Int} (h : 0 < out.length) : Ext out (tStep e out cut) := by
  have h1 := ext_mvA (cut := cut) (target := e.ins ++ rstL cut e) h
  have h2 := mvA_len out cut (e.ins ++ rstL cut e)
  exact h1.trans (ext_addL (by omega))
theorem ext_tAll (es : List Ed) : ∀ (l : List Int) (out : List Nd) (cut : List Int), 0 < out.length → Ext out (tAll es l out cut).1
  | [], out, _, _ => Ext.refl out
  | i :: l, out, cut, h => by
    have h1 := tStep_len (edAt es i) out cut
    exact (ext_tStep h).trans (ext_tAll es l _ _ (by omega))
theorem ext_len {a b : List Nd} (h : Ext a b) : a.length ≤ b.length := by
  obtain ⟨c, rfl⟩ := h
  simp
theorem ext_tFin (x : Gr) (l : List Int) (out : List Nd) (cut : List Int) (h : 0 < out.length) : Ext out (tFin x l out cut) := by
  have h1 := ext_tAll x.es l out cut h
  have h2 := ext_len h1
  have h3 := ext_mvA (cut := (tAll x.es l out cut).2) (target := x.outs) (out := (tAll x.es l out cut).1) (by omega)
  have h4 := ext_len h3
  unfold tFin tEnd
  rw [if_neg (by omega)]
  exact h1.trans h3
/-- Too many nodes. -/
theorem fin_long (x : Gr) (l : List Int) (out : List Nd) (cut : List Int) (h : 400 < out.length) : trmB (tFin x l out cut) = false := by
  refine trmB_long ?_
  have := ext_len (ext_tFin x l out cut (by omega))
  omega
/-- A cut that is too wide. -/
theorem fin_wide (x : Gr) (i : Int) (l : List Int) (out : List Nd) (cut : List Int) (hk : inB 3 14 (edAt x.es i).kd = true) (hi : (gw (edAt x.es i).kd).1 = ((edAt x.es i).ins.length : Int)) (hi2 : (edAt x.es i).ins.length ≤ 2)
    (hr : (rstL cut (edAt x.es i)).length + (edAt x.es i).ins.length = cut.length) (hc : 12 < cut.length) : trmB (tFin x (i :: l) out cut) = false := by
  rw [tFin_cons]
  have hl := tStep_len (edAt x.es i) out cut
  obtain ⟨c, hcx⟩ := ext_tFin x l (tStep (edAt x.es i) out cut) (cutB cut (edAt x.es i)) (by omega)
  rw [hcx]
  unfold tStep addL
  have hn := wide_none (k := (edAt x.es i).kd) (v := (edAt x.es i).vl) (r := (rstL cut (edAt x.es i)).length) hk (by rw [hi]; omega) (by omega)
  split
  · exact trmB_mid hn [] c
  · rw [jn, List.append_assoc]
    exact trmB_mid hn _ _
end Go.Proofs.YtphdcgimibnajaaGreat
namespace Go.Proofs.YtphdcgimibnajaaGreat
set_option maxRecDepth 100000
/-- The parts that end at i, and in front of it, are the stack's. -/
def Ch (F I O : List Int) : Nat → List (Int × Int) → Prop
  | i, [] => i = 0
  | i, w :: st => 0 < i ∧ ∃ f : Nat, F[i - 1]? = some (f : Int) ∧ f < i ∧ I[i - 1]? = some w.1 ∧ O[i - 1]? = some w.2 ∧ Ch F I O f st
theorem Ch.push {F I O : List Int} (a b c : Int) : ∀ {i : Nat} {st : List (Int × Int)}, Ch F I O i st → i ≤ F.length → i ≤ I.length → i ≤ O.length → Ch (F ++ [a]) (I ++ [b]) (O ++ [c]) i st
  | i, [], h, _, _, _ => h
  | i, w :: st, h, hF, hI, hO => by
    obtain ⟨h0, f, h1, h2, h3, h4, h5⟩ := h
    refine ⟨h0, f, ?_, h2, ?_, ?_, h5.push a b c (by omega) (by omega) (by omega)⟩
    · rw [List.getElem?_append_left (by omega)]; exact h1
    · rw [List.getElem?_append_left (by omega)]; exact h3
    · rw [List.getElem?_append_left (by omega)]; exact h4
/-- What is known when i nodes have been read. -/
structure SC (F I O : List Int) (i : Nat) (st : List (Int × Int)) : Prop where
  lf : F.length = i
  li : I.length = i
  lo : O.length = i
  ch : Ch F I O i st
  bd : ∀ w ∈ st, (0 ≤ w.1 ∧ w.1 ≤ 12) ∧ (0 ≤ w.2 ∧ w.2 ≤ 12)
theorem SC.nil : SC [] [] [] 0 [] := ⟨rfl, rfl, rfl, rfl, fun w h => by simp at h⟩
theorem SC.add {F I O : List Int} {i f : Nat} {st r : List (Int × Int)} {w : Int × Int} (h : SC F I O i st) (hr : Ch F I O f r) (hf : f < i + 1) (hrb : ∀ u ∈ r, u ∈ st) (hw : (0 ≤ w.1 ∧ w.1 ≤ 12) ∧ (0 ≤ w.2 ∧ w.2 ≤ 12)) :
    SC (F ++ [(f : Int)]) (I ++ [w.1]) (O ++ [w.2]) (i + 1) (w :: r) := by
  have h1 := h.lf
  have h2 := h.li
  have h3 := h.lo
  refine ⟨by simp [h1], by simp [h2], by simp [h3], ⟨by omega, f, ?_, hf, ?_, ?_, hr.push _ _ _ (by omega) (by omega) (by omega)⟩, fun u hu => ?_⟩
  · rw [List.getElem?_append_right (by omega)]; simp [h1]
  · rw [List.getElem?_append_right (by omega)]; simp [h2]
  · rw [List.getElem?_append_right (by omega)]; simp [h3]
  · rcases List.mem_cons.1 hu with e | hu
    · rw [e]; exact hw
    · exact h.bd u (hrb u hu)
theorem SC.leaf {F I O : List Int} {i : Nat} {st : List (Int × Int)} {w : Int × Int} (h : SC F I O i st) (hw : (0 ≤ w.1 ∧ w.1 ≤ 12) ∧ (0 ≤ w.2 ∧ w.2 ≤ 12)) : SC (F ++ [(i : Int)]) (I ++ [w.1]) (O ++ [w.2]) (i + 1) (w :: st) :=
  h.add h.ch (by omega) (fun _ hu => hu) hw
/-- Two parts lie on the stack: where they are. -/
theorem SC.two {F I O : List Int} {i : Nat} {a b : Int × Int} {r : List (Int × Int)} (h : SC F I O i (b :: a :: r)) :
    ∃ f g : Nat, F[i - 1]? = some (f : Int) ∧ 1 ≤ f ∧ f < i ∧ I[i - 1]? = some b.1 ∧ O[i - 1]? = some b.2 ∧ F[f - 1]? = some (g : Int) ∧ g < f ∧ I[f - 1]? = some a.1 ∧ O[f - 1]? = some a.2 ∧ Ch F I O g r := by
  obtain ⟨h0, f, h1, h2, h3, h4, h5⟩ := h.ch
  obtain ⟨k0, g, k1, k2, k3, k4, k5⟩ := h5
  exact ⟨f, g, h1, k0, h2, h3, h4, k1, k2, k3, k4, k5⟩
theorem SC.one {F I O : List Int} {i : Nat} {b : Int × Int} (h : SC F I O i [b]) : 0 < i ∧ F[i - 1]? = some 0 := by
  obtain ⟨h0, f, h1, h2, h3, h4, h5⟩ := h.ch
  have h5 : f = 0 := h5
  subst h5
  exact ⟨h0, h1⟩
theorem SC.zero {F I O : List Int} {i : Nat} (h : SC F I O i []) : i = 0 := h.ch
/-- The first node of the last part is the first of all just if there is one part. -/
theorem SC.last {F I O : List Int} {i : Nat} {st : List (Int × Int)} (h : SC F I O i st) (hi : 0 < i) : ∃ f : Nat, F[i - 1]? = some (f : Int) ∧ (f = 0 ↔ st.length = 1) := by
  cases st with
  | nil => have := h.zero; omega
  | cons b st =>
    cases st with
    | nil => exact ⟨0, by have := h.one.2; simpa using this, by simp⟩
    | cons a r =>
      obtain ⟨f, g, h1, h2, _⟩ := h.two
      exact ⟨f, h1, by simp; omega⟩
theorem scn_snoc {l : List Nd} {k : Nat} {n : Nd} (h : l[k]? = some n) (st : List (Int × Int)) : scn (l.take (k + 1)) st = (scn (l.take k) st).bind fun s => stp s n := by
  rw [List.take_add_one, h, Option.toList_some, scn_append]
  congr 1
  funext s
  show (stp s n).bind (fun s => some s) = stp s n
  cases stp s n <;> rfl
theorem scn_stop {l : List Nd} {k : Nat} {st : List (Int × Int)} (h : scn (l.take k) st = none) : scn l st = none := by
  rw [← List.take_append_drop k l, scn_append, h]
  rfl
/-- The type, once all nodes have been read. -/
theorem typO_done {l : List Nd} {st : List (Int × Int)} (h : scn l [] = some st) (hl : 1 ≤ l.length ∧ l.length ≤ 400) : trmB l = decide (st.length = 1) := by
  unfold trmB typO
  rw [if_pos hl, h]
  match st with
  | [] => rfl
  | [w] => rfl
  | _ :: _ :: r => simp
theorem typO_stop {l : List Nd} (h : scn l [] = none) : trmB l = false := by
  unfold trmB typO
  rw [h]
  split <;> rfl
theorem typO_size {l : List Nd} (h : ¬ (1 ≤ l.length ∧ l.length ≤ 400)) : trmB l = false := by
  unfold trmB typO
  rw [if_neg h]
  rfl
end Go.Proofs.YtphdcgimibnajaaGreat
namespace Go.Proofs.YtphdcgimibnajaaGreat
set_option maxRecDepth 100000
open Go Go.RowKit
theorem an_one (w : World) {B : Nat} (hB : B ≤ w.heap.size) (k v : Int) : AN (w.alloc (.cells #[.int .i64 k, .int .i64 v, .string ⟨#[]⟩] 84)) B (.slice (some ⟨w.heap.size, 0, none⟩) 1 1) [nd k v] :=
  ⟨rfl, .inr ⟨w.heap.size, 1, _, rfl, hB, heap_alloc_new w _, Nat.le_refl _, by unfold maxLen; omega, rfl, rfl⟩⟩
theorem one_rd (w : World) (k v : Int) : RdS EN (w.alloc (.cells #[.int .i64 k, .int .i64 v, .string ⟨#[]⟩] 84)) (some ⟨w.heap.size, 0, none⟩) [nd k v] := peN.blk (t := 84) w (nd k v)
theorem AN.rd {w : World} {B : Nat} {v : Value} {xs : List Nd} (h : AN w B v xs) (hl : xs.length ≤ 1099511627776) : ∃ A c, v = .slice A xs.length c ∧ RdS EN w A xs := by
  obtain ⟨A, c, e, _, h2, _⟩ := h.ows peN hl
  exact ⟨A, c, e, h2⟩
theorem two_enn (w : World) (t : TypeId) {A B : Option Addr} {c d : Nat} {a b : List Nd} (ha : RdS EN w A a) (hb : RdS EN w B b) :
    RdS ENN (w.alloc (.cells #[.slice A a.length c, .slice B b.length d] t)) (some ⟨w.heap.size, 0, none⟩) [a, b] := by
  have v := VB.new w t #[.slice A a.length c, .slice B b.length d]
  have x := (Ex.refl w).alloc (.cells #[.slice A a.length c, .slice B b.length d] t)
  refine ⟨by simp, fun j r hj => ?_⟩
  rcases j with _ | _ | j
  · simp at hj; subst hj
    refine ⟨_, 0, _, rfl, fun i u hu => ?_, A, c, rfl, ha.ex x⟩
    rcases i with _ | i
    · simp at hu; subst hu
      exact v.cell 0 rfl
    · simp at hu
  · simp at hj; subst hj
    refine ⟨_, 0, _, rfl, fun i u hu => ?_, B, d, rfl, hb.ex x⟩
    rcases i with _ | i
    · simp at hu; subst hu
      exact v.cell 1 rfl
    · simp at hu
  · simp at hj
theorem leafOf_c (k v : Int) (w : World) : Calls Tryz.prog 59 #[.int .i64 k, .int .i64 v] w fun e w' => e = .returned (.agg #[.int .i64 k, .int .i64 v, .string ⟨#[]⟩]) ∧ Ex w w' := by
  have x1 := (Ex.refl w).alloc (.cells #[.int .i64 0, .int .i64 0, .string ⟨#[]⟩] 84)
  have v1 := VB.new w 84 #[.int .i64 0, .int .i64 0, .string ⟨#[]⟩]
  go_enter Tryz.func59, Tryz.ntmps59
  go_wp2_with fail
  refine bodyPost_ret (v := .agg #[.int .i64 k, .int .i64 v, .string ⟨#[]⟩]) (by simp [results, Tryz.results59, go_sem]) rfl ?_
  exact ⟨rfl, (Ex.refl w).alloc _⟩
set_option maxHeartbeats 2000000 in
theorem joinNodes_c (k : Int) (a b : List Nd) (A B : Option Addr) (c d : Nat) (w : World) (ha : RdS EN w A a) (hb : RdS EN w B b) (hal : a.length ≤ 100000000) (hbl : b.length ≤ 100000000) :
    Calls Tryz.prog 52 #[.int .i64 k, .slice A a.length c, .slice B b.length d] w fun e w' => ∃ v, e = .returned v ∧ AN w' w.heap.size v (jn k a b) ∧ Ex w w' := by
  have hr := two_enn (c := c) (d := d) w 27 ha hb
  have x1 := (Ex.refl w).alloc (.cells #[.slice A a.length c, .slice B b.length d] 27)
  have s1 : (w.alloc (.cells #[.slice A a.length c, .slice B b.length d] 27)).heap.size = w.heap.size + 1 := by simp
  have HL := Lib.hid (show (a ++ b).length ≤ 200000000 by rw [List.length_append]; omega)
  go_enter Tryz.func52, Tryz.ntmps52
  go_wp2_with fail
  generalize w.alloc (.cells #[.slice A a.length c, .slice B b.length d] 27) = W1 at *
  refine (concatN_c (some ⟨w.heap.size, 0, none⟩) 2 [a, b] W1 hr (by simp) (by intro r hr; simp at hr; rcases hr with rfl | rfl <;> assumption)).mono ?_
  rintro e w2 ⟨v, rfl, hv, x2⟩
  have hv : AN w2 W1.heap.size v (a ++ b) := by simpa using hv
  have z2 := x2.size
  obtain ⟨A2, c2, e2, _⟩ := hv.form
  obtain ⟨n, hn⟩ : ∃ n, (a ++ b).length = n := ⟨_, rfl⟩
  rw [hn] at e2
  subst e2
  obtain ⟨v', w3, hrun, hv3, _, hE, _⟩ := an_push 27 w2 W1.heap.size _ (a ++ b) (nd k 0) hv z2 (by have := HL.out; omega)
  have x3 := x2.exo hE (fun q e => (hv.lt q e).1)
  clear hE HL hn hv
  go_wp2_with (at_builtin; refine wpList_append_run rfl _ _ _ rfl rfl rfl hrun ?_)
  go_ret
  exact ⟨_, rfl, hv3.more (by omega), x1.trans x3⟩
set_option maxHeartbeats 2000000 in
theorem layer_c (n i : Nat) (hi : i + 2 ≤ n) (hn : n ≤ 1000) (w : World) :
    Calls Tryz.prog 89 #[.int .i64 n, .int .i64 i] w fun e w' => ∃ v, e = .returned v ∧ AN w' w.heap.size v (layL i [nd 2 0] (n - 2 - i)) ∧ Ex w w' := by
  have hw1 : IntKind.i64.wrap ((n : Int) - 2) = (n : Int) - 2 := IntWalk.i64_in _ (by omega)
  obtain ⟨r, hr⟩ : ∃ r, n - 2 - i = r := ⟨_, rfl⟩
  have hrn : r ≤ 1000 := by omega
  have hw2 : IntKind.i64.wrap ((n : Int) - 2 - (i : Int)) = (r : Int) := by rw [IntWalk.i64_in _ (by omega)]; omega
  rw [hr]
  clear hr
  have h1 := leafOf_c 2 0 w
  by_cases h0 : 0 < i
  · have HF := Lib.hid (show layF i [nd 2 0] = jn 16 [nd 1 i] [nd 2 0] from if_pos h0)
    have h0' : (0 : Int) < (i : Int) := by omega
    go_enter Tryz.func89, Tryz.ntmps89
    go_wp2_with fail
    refine h1.mono ?_
    rintro e w1 ⟨rfl, x1⟩
    go_wp2_with fail
    have y1 := (Ex.refl w1).alloc (.cells #[.int .i64 2, .int .i64 0, .string ⟨#[]⟩] 84)
    have hR1 := one_rd w1 2 0
    generalize w1.alloc (.cells #[.int .i64 2, .int .i64 0, .string ⟨#[]⟩] 84) = W1 at *
    refine (leafOf_c 1 i W1).mono ?_
    rintro e w2 ⟨rfl, x2⟩
    have y2 := (Ex.refl w2).alloc (.cells #[.int .i64 1, .int .i64 i, .string ⟨#[]⟩] 84)
    have hR3 := one_rd w2 1 i
    have xx := ((x1.trans y1).trans x2).trans y2
    have jN := joinNodes_c 16 [nd 1 i] [nd 2 0] (some ⟨w2.heap.size, 0, none⟩) (some ⟨w1.heap.size, 0, none⟩) 1 1 _ hR3 ((hR1.ex x2).ex y2) (by simp) (by simp)
    go_wp2_with fail
    refine jN.mono ?_
    rintro e w4 ⟨v4, rfl, o4, x4'⟩
    have x4 := xx.trans x4'
    replace o4 := o4.more xx.size
    have hl4 : (jn 16 [nd 1 i] [nd 2 0]).length = 3 := rfl
    obtain ⟨A4, c4, e4, hR4⟩ := o4.rd (by rw [hl4]; omega)
    rw [hl4] at e4
    subst e4
    have HT := HF
    have HL4 := Lib.hid (show (layF i [nd 2 0]).length = 3 by rw [HF.out]; rfl)
    have hL5 : (layF i [nd 2 0]).length ≤ 3 := by rw [HL4.out]; exact Nat.le_refl _
    by_cases h2 : 0 < r
    · have HG := Lib.hid (show layL i [nd 2 0] r = jn 16 (layF i [nd 2 0]) [nd 1 r] from if_pos h2)
      have h2' : (0 : Int) < (r : Int) := by omega
      go_wp2_with fail
      refine (leafOf_c 1 r w4).mono ?_
      rintro e w5 ⟨rfl, x5⟩
      have y6 := (Ex.refl w5).alloc (.cells #[.int .i64 1, .int .i64 r, .string ⟨#[]⟩] 84)
      have s6 : (w5.alloc (.cells #[.int .i64 1, .int .i64 r, .string ⟨#[]⟩] 84)).heap.size = w5.heap.size + 1 := by simp
      have hR6 := (hR4.ex x5).ex y6
      have xw6 := (x4.trans x5).trans y6
      have hR7 := one_rd w5 1 r
      rw [← HT.out] at hR6
      have jN := joinNodes_c 16 (layF i [nd 2 0]) [nd 1 r] A4 (some ⟨w5.heap.size, 0, none⟩) c4 1 _ hR6 hR7 (by omega) (by simp)
      rw [HL4.out] at jN
      go_wp2_with fail
      refine jN.mono ?_
      rintro e w7 ⟨v7, rfl, o7, x7⟩
      have z6 := xw6.size
      go_wp2_with fail
      go_ret
      rw [HG.out]
      exact ⟨_, rfl, o7.more z6, xw6.trans x7⟩
    · have HG := Lib.hid (show layL i [nd 2 0] r = layF i [nd 2 0] from if_neg h2)
      have h2' : ¬ (0 : Int) < (r : Int) := by omega
      go_wp2_with fail
      go_ret
      rw [HG.out, HT.out]
      exact ⟨_, rfl, o4, x4⟩
  · have HT := Lib.hid (show layF i [nd 2 0] = [nd 2 0] from if_neg h0)
    have h0' : ¬ (0 : Int) < (i : Int) := by omega
    go_enter Tryz.func89, Tryz.ntmps89
    go_wp2_with fail
    refine h1.mono ?_
    rintro e w1 ⟨rfl, x1⟩
    have y1 := (Ex.refl w1).alloc (.cells #[.int .i64 2, .int .i64 0, .string ⟨#[]⟩] 84)
    have o4 := an_one w1 (B := w.heap.size) x1.size 2 0
    have x4 := x1.trans y1
    have hR4 := one_rd w1 2 0
    have HL4 := Lib.hid (show (layF i [nd 2 0]).length = 1 by rw [HT.out]; rfl)
    have hL5 : (layF i [nd 2 0]).length ≤ 3 := by rw [HL4.out]; omega
    obtain ⟨w4, hw4⟩ : ∃ W, w1.alloc (.cells #[.int .i64 2, .int .i64 0, .string ⟨#[]⟩] 84) = W := ⟨_, rfl⟩
    rw [hw4] at o4 x4 hR4
    by_cases h2 : 0 < r
    · have HG := Lib.hid (show layL i [nd 2 0] r = jn 16 (layF i [nd 2 0]) [nd 1 r] from if_pos h2)
      have h2' : (0 : Int) < (r : Int) := by omega
      go_wp2_with fail
      refine (leafOf_c 1 r w4).mono ?_
      rintro e w5 ⟨rfl, x5⟩
      have y6 := (Ex.refl w5).alloc (.cells #[.int .i64 1, .int .i64 r, .string ⟨#[]⟩] 84)
      have s6 : (w5.alloc (.cells #[.int .i64 1, .int .i64 r, .string ⟨#[]⟩] 84)).heap.size = w5.heap.size + 1 := by simp
      have hR6 := (hR4.ex x5).ex y6
      have xw6 := (x4.trans x5).trans y6
      have hR7 := one_rd w5 1 r
      rw [← HT.out] at hR6
      have jN := joinNodes_c 16 (layF i [nd 2 0]) [nd 1 r] (some ⟨w1.heap.size, 0, none⟩) (some ⟨w5.heap.size, 0, none⟩) 1 1 _ hR6 hR7 (by omega) (by simp)
      rw [HL4.out] at jN
      go_wp2_with fail
      refine jN.mono ?_
      rintro e w7 ⟨v7, rfl, o7, x7⟩
      have z6 := xw6.size
      go_wp2_with fail
      go_ret
      rw [HG.out]
      exact ⟨_, rfl, o7.more z6, xw6.trans x7⟩
    · have HG := Lib.hid (show layL i [nd 2 0] r = layF i [nd 2 0] from if_neg h2)
      have h2' : ¬ (0 : Int) < (r : Int) := by omega
      go_wp2_with fail
      go_ret
      rw [HG.out, HT.out]
      exact ⟨_, rfl, o4, x4⟩
end Go.Proofs.YtphdcgimibnajaaGreat
