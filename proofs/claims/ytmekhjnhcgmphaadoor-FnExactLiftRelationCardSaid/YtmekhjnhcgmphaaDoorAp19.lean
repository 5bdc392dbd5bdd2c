/- Linear algebra: sums; more unknowns than equations. Plain lemmas of mine. Linear algebra: linear maps of spans; the lists whose product with each row is 0, found in two ways. Plain lemmas of mine. Linear algebra: the null list of a reduced list spans the kernel; so do the unit rows beside an elimination. Plain lemmas of mine. Linear algebra: unit rows beside an elimination span the kernel; compositions. Plain lemmas of mine. -/
import Derived.Test.YtmekhjnhcgmphaaDoorAp10
namespace Go.Proofs.YtmekhjnhcgmphaaDoor
set_option maxRecDepth 100000
variable {K : Type}
def Fld.sumN (F : Fld K) : Nat → (Nat → K) → K
  | 0, _ => F.z
  | n + 1, f => F.add (Fld.sumN F n f) (f n)
theorem Fld.sumN_congr (F : Fld K) {f g : Nat → K} : ∀ {n : Nat}, (∀ j, j < n → f j = g j) → F.sumN n f = F.sumN n g
  | 0, _ => rfl
  | n + 1, h => by
    rw [Fld.sumN, Fld.sumN, F.sumN_congr (n := n) fun j hj => h j (by omega), h n (by omega)]
theorem Fld.sumN_zero (F : Fld K) {f : Nat → K} : ∀ {n : Nat}, (∀ j, j < n → f j = F.z) → F.sumN n f = F.z
  | 0, _ => rfl
  | n + 1, h => by
    rw [Fld.sumN, F.sumN_zero (n := n) fun j hj => h j (by omega), h n (by omega), F.z_add]
theorem Fld.sumN_add (F : Fld K) (f g : Nat → K) : ∀ n : Nat, F.sumN n (fun j => F.add (f j) (g j)) = F.add (F.sumN n f) (F.sumN n g)
  | 0 => (F.z_add F.z).symm
  | n + 1 => by
    rw [Fld.sumN, F.sumN_add f g n, F.swap4]; rfl
theorem Fld.sumN_mul (F : Fld K) (c : K) (f : Nat → K) : ∀ n : Nat, F.sumN n (fun j => F.mul c (f j)) = F.mul c (F.sumN n f)
  | 0 => (F.mul_z c).symm
  | n + 1 => by
    rw [Fld.sumN, F.sumN_mul c f n, ← F.distrib]; rfl
end Go.Proofs.YtmekhjnhcgmphaaDoor
namespace Go.Proofs.YtmekhjnhcgmphaaDoor
set_option maxRecDepth 100000
variable {K : Type}
theorem Sp.map {F : Fld K} {φ : (Nat → K) → (Nat → K)} (hz : φ F.vz = F.vz) (ha : ∀ u r c, φ (F.va u (F.vs c r)) = F.va (φ u) (F.vs c (φ r))) {R : List (Nat → K)} {v : Nat → K} (h : Sp F R v) : Sp F (R.map φ) (φ v) :=
  h (fun x => Sp F (R.map φ) (φ x)) (by rw [hz]; exact Sp.zero F _) fun u hu r hr c => by
    rw [ha]
    exact hu.step (List.mem_map.2 ⟨r, hr, rfl⟩) c
theorem Sp.sumN {F : Fld K} {R : List (Nat → K)} {g : Nat → Nat → K} : ∀ {m : Nat}, (∀ i, i < m → Sp F R (g i)) → Sp F R (fun j => F.sumN m fun i => g i j)
  | 0, _ => Sp.zero F R
  | m + 1, h => (Sp.sumN (m := m) fun i hi => h i (by omega)).add (h m (by omega))
def Fld.dot (F : Fld K) (s : Nat) (a k : Nat → K) : K := F.sumN s fun i => F.mul (a i) (k i)
theorem Fld.dot_z (F : Fld K) (s : Nat) (a : Nat → K) : F.dot s a F.vz = F.z := F.sumN_zero fun _ _ => F.mul_z _
theorem Fld.z_dot (F : Fld K) (s : Nat) (a : Nat → K) : F.dot s F.vz a = F.z := F.sumN_zero fun _ _ => F.z_mul _
theorem Fld.dot_comm (F : Fld K) (s : Nat) (a k : Nat → K) : F.dot s a k = F.dot s k a := F.sumN_congr fun _ _ => F.mul_comm _ _
theorem Fld.dot_step (F : Fld K) (s : Nat) (a u r : Nat → K) (c : K) : F.dot s a (F.va u (F.vs c r)) = F.add (F.dot s a u) (F.mul c (F.dot s a r)) := by
  unfold Fld.dot
  rw [← F.sumN_mul, ← F.sumN_add]
  refine F.sumN_congr fun i _ => ?_
  show F.mul (a i) (F.add (u i) (F.mul c (r i))) = _
  rw [F.distrib, ← F.mul_assoc, F.mul_comm (a i) c, F.mul_assoc]
/-- k stands on s places and its product with each of the rows is 0. -/
def Ker (F : Fld K) (s : Nat) (M : List (Nat → K)) (k : Nat → K) : Prop := (∀ j, s ≤ j → k j = F.z) ∧ ∀ a ∈ M, F.dot s a k = F.z
theorem Ker.zero (F : Fld K) (s : Nat) (M : List (Nat → K)) : Ker F s M F.vz := ⟨fun _ _ => rfl, fun a _ => F.dot_z s a⟩
theorem Ker.step {F : Fld K} {s : Nat} {M : List (Nat → K)} {u r : Nat → K} (h : Ker F s M u) (k : Ker F s M r) (c : K) : Ker F s M (F.va u (F.vs c r)) :=
  ⟨fun j hj => by show F.add (u j) (F.mul c (r j)) = F.z; rw [h.1 j hj, k.1 j hj, F.mul_z, F.z_add], fun a ha => by rw [F.dot_step, h.2 a ha, k.2 a ha, F.mul_z, F.z_add]⟩
theorem Ker.sp {F : Fld K} {s : Nat} {M R : List (Nat → K)} (h : ∀ r ∈ R, Ker F s M r) {v : Nat → K} (hv : Sp F R v) : Ker F s M v :=
  hv (Ker F s M) (Ker.zero F s M) fun _ hu r hr c => hu.step (h r hr) c
theorem Ker.mono {F : Fld K} {s : Nat} {M M' : List (Nat → K)} (h : ∀ a ∈ M', Sp F M a) {k : Nat → K} (hk : Ker F s M k) : Ker F s M' k :=
  ⟨hk.1, fun a ha => h a ha (fun x => F.dot s x k = F.z) (F.z_dot s k) fun u hu r hr c => by
    rw [F.dot_comm, F.dot_step, F.dot_comm s k u, F.dot_comm s k r, hu, hk.2 r hr, F.mul_z, F.z_add]⟩
theorem Ker.same {F : Fld K} {s : Nat} {M M' : List (Nat → K)} (h : ∀ v, Sp F M v ↔ Sp F M' v) (k : Nat → K) : Ker F s M k ↔ Ker F s M' k :=
  ⟨Ker.mono fun a ha => (h a).2 (Sp.mem ha), Ker.mono fun a ha => (h a).1 (Sp.mem ha)⟩
end Go.Proofs.YtmekhjnhcgmphaaDoor
namespace Go.Proofs.YtmekhjnhcgmphaaDoor
set_option maxRecDepth 100000
variable {K : Type}
theorem Ech.lead {F : Fld K} {R : List (List K)} {n : Nat} {P : List Nat} (h : Ech F R R.length n P) (hw : Wid n R) {t : Nat} {r : List K} (hr : R[t]? = some r) : ∃ p, P[t]? = some p ∧ F.lead r = p ∧ p < n := by
  have ht := (List.getElem?_eq_some_iff.1 hr).1
  have hpl := h.pl
  have hp : P[t]? = some (P[t]'(by omega)) := List.getElem?_eq_getElem _
  have hl := h.lt _ (List.mem_of_getElem? hp)
  refine ⟨_, hp, lead_of F.toOps ?_ (by rw [hw r (List.mem_of_getElem? hr)]; exact hl) fun j hj => (F.isz_iff _).2 (h.led t _ r hp hr j hj), hl⟩
  rw [h.one t _ r hp hr]
  cases hb : F.isz F.o with
  | false => rfl
  | true => exact absurd ((F.isz_iff _).1 hb) F.o_ne
theorem Ech.inj {F : Fld K} {R : List (List K)} {n : Nat} {P : List Nat} (h : Ech F R R.length n P) {t t' p : Nat} (a : P[t]? = some p) (b : P[t']? = some p) : t = t' := by
  have ha := (List.getElem?_eq_some_iff.1 a).1
  have hb := (List.getElem?_eq_some_iff.1 b).1
  have e1 := (List.getElem?_eq_some_iff.1 a).2
  have e2 := (List.getElem?_eq_some_iff.1 b).2
  have hasc := List.pairwise_iff_getElem.1 h.asc
  rcases Nat.lt_trichotomy t t' with q | q | q
  · have := hasc t t' ha hb q; omega
  · exact q
  · have := hasc t' t hb ha q; omega
end Go.Proofs.YtmekhjnhcgmphaaDoor
namespace Go.Proofs.YtmekhjnhcgmphaaDoor
set_option maxRecDepth 100000
variable {K : Type}
/-- The columns. -/
def Ops.tr (O : Ops K) (n : Nat) (rows : List (List K)) : List (Nat → K) := (List.range n).map fun j i => O.el (rows.getD i []) j
end Go.Proofs.YtmekhjnhcgmphaaDoor
