/- Linear algebra: linear maps of spans; the lists whose product with each row is 0, found in two ways. Plain lemmas of mine. -/
import Derived.Test.YtmekhjnhcgmphaaDoorLinE
namespace Go.Proofs.YtmekhjnhcgmphaaDoor
set_option maxRecDepth 100000
variable {K : Type}
theorem Sp.map {F : Fld K} {φ : (Nat → K) → (Nat → K)} (hz : φ F.vz = F.vz) (ha : ∀ u r c, φ (F.va u (F.vs c r)) = F.va (φ u) (F.vs c (φ r))) {R : List (Nat → K)} {v : Nat → K} (h : Sp F R v) : Sp F (R.map φ) (φ v) :=
  h (fun x => Sp F (R.map φ) (φ x)) (by rw [hz]; exact Sp.zero F _) fun u hu r hr c => by
    rw [ha]
    exact hu.step (List.mem_map.2 ⟨r, hr, rfl⟩) c
theorem Sp.sumN {F : Fld K} {R : List (Nat → K)} {g : Nat → Nat → K} : ∀ {m : Nat}, (∀ i, i < m → Sp F R (g i)) → Sp F R (fun j => F.sumN m fun i => g i j)
  | 0, _ => Sp.zero F R
  | m + 1, h => (Sp.sumN (m := m) fun i hi => h i (by omega)).add (h m (by omega))
/-- One term of a sum has changed. -/
theorem Fld.sumN_upd (F : Fld K) {f g : Nat → K} {p : Nat} {d : K} (hp : f p = F.add (g p) d) : ∀ {s : Nat}, p < s → (∀ i, i < s → i ≠ p → f i = g i) → F.sumN s f = F.add (F.sumN s g) d
  | 0, h, _ => by omega
  | s + 1, h, he => by
    by_cases e : p = s
    · subst e
      rw [Fld.sumN, Fld.sumN, hp, ← F.add_assoc, F.sumN_congr (n := p) (f := f) (g := g) fun i hi => he i (by omega) (by omega)]
    · rw [Fld.sumN, Fld.sumN, F.sumN_upd hp (s := s) (by omega) fun i hi => he i (by omega), he s (by omega) (by omega), F.add_assoc, F.add_assoc, F.add_comm d]
theorem Fld.sumN_only (F : Fld K) {f : Nat → K} {p s : Nat} (hp : p < s) (h : ∀ i, i < s → i ≠ p → f i = F.z) : F.sumN s f = f p := by
  rw [F.sumN_upd (f := f) (g := fun _ => F.z) (p := p) (d := f p) (F.z_add _).symm hp h, F.sumN_zero fun _ _ => rfl, F.z_add]
def Fld.dot (F : Fld K) (s : Nat) (a k : Nat → K) : K := F.sumN s fun i => F.mul (a i) (k i)
theorem Fld.dot_z (F : Fld K) (s : Nat) (a : Nat → K) : F.dot s a F.vz = F.z := F.sumN_zero fun _ _ => F.mul_z _
theorem Fld.z_dot (F : Fld K) (s : Nat) (a : Nat → K) : F.dot s F.vz a = F.z := F.sumN_zero fun _ _ => F.z_mul _
theorem Fld.dot_comm (F : Fld K) (s : Nat) (a k : Nat → K) : F.dot s a k = F.dot s k a := F.sumN_congr fun _ _ => F.mul_comm _ _
theorem Fld.dot_step (F : Fld K) (s : Nat) (a u r : Nat → K) (c : K) : F.dot s a (F.va u (F.vs c r)) = F.add (F.dot s a u) (F.mul c (F.dot s a r)) := by
  unfold Fld.dot
  rw [← F.sumN_mul, ← F.sumN_add]
  refine F.sumN_congr fun i _ => ?_
  show F.mul (a i) (F.add (u i) (F.mul c (r i))) = _
  rw [F.distrib, ← F.mul_assoc, F.mul_comm (a i) c, F.mul_assoc]
/-- k stands on s places and its product with each of the rows is 0. -/
def Ker (F : Fld K) (s : Nat) (M : List (Nat → K)) (k : Nat → K) : Prop := (∀ j, s ≤ j → k j = F.z) ∧ ∀ a ∈ M, F.dot s a k = F.z
theorem Ker.zero (F : Fld K) (s : Nat) (M : List (Nat → K)) : Ker F s M F.vz := ⟨fun _ _ => rfl, fun a _ => F.dot_z s a⟩
theorem Ker.step {F : Fld K} {s : Nat} {M : List (Nat → K)} {u r : Nat → K} (h : Ker F s M u) (k : Ker F s M r) (c : K) : Ker F s M (F.va u (F.vs c r)) :=
  ⟨fun j hj => by show F.add (u j) (F.mul c (r j)) = F.z; rw [h.1 j hj, k.1 j hj, F.mul_z, F.z_add], fun a ha => by rw [F.dot_step, h.2 a ha, k.2 a ha, F.mul_z, F.z_add]⟩
theorem Ker.sp {F : Fld K} {s : Nat} {M R : List (Nat → K)} (h : ∀ r ∈ R, Ker F s M r) {v : Nat → K} (hv : Sp F R v) : Ker F s M v :=
  hv (Ker F s M) (Ker.zero F s M) fun _ hu r hr c => hu.step (h r hr) c
theorem Ker.mono {F : Fld K} {s : Nat} {M M' : List (Nat → K)} (h : ∀ a ∈ M', Sp F M a) {k : Nat → K} (hk : Ker F s M k) : Ker F s M' k :=
  ⟨hk.1, fun a ha => h a ha (fun x => F.dot s x k = F.z) (F.z_dot s k) fun u hu r hr c => by
    rw [F.dot_comm, F.dot_step, F.dot_comm s k u, F.dot_comm s k r, hu, hk.2 r hr, F.mul_z, F.z_add]⟩
theorem Ker.same {F : Fld K} {s : Nat} {M M' : List (Nat → K)} (h : ∀ v, Sp F M v ↔ Sp F M' v) (k : Nat → K) : Ker F s M k ↔ Ker F s M' k :=
  ⟨Ker.mono fun a ha => (h a).2 (Sp.mem ha), Ker.mono fun a ha => (h a).1 (Sp.mem ha)⟩
theorem el_set (F : Fld K) (v : List K) (p : Nat) (c : K) (i : Nat) : F.el (v.set p c) i = if p = i ∧ i < v.length then c else F.el v i := by
  unfold Ops.el
  rw [List.getD_eq_getElem?_getD, List.getD_eq_getElem?_getD, List.getElem?_set]
  by_cases e : p = i
  · subst e
    by_cases h : p < v.length
    · rw [if_pos rfl, if_pos h, if_pos ⟨rfl, h⟩]; rfl
    · rw [if_pos rfl, if_neg h, if_neg (fun q => h q.2), List.getElem?_eq_none (by omega)]
  · rw [if_neg e, if_neg (fun q => e q.1)]
theorem dot_set0 (F : Fld K) {s : Nat} {a : Nat → K} {v : List K} {p : Nat} (c : K) (ha : a p = F.z) : F.dot s a (F.fn (v.set p c)) = F.dot s a (F.fn v) :=
  F.sumN_congr fun i _ => by
    show F.mul (a i) (F.el (v.set p c) i) = F.mul (a i) (F.el v i)
    rw [el_set]
    split
    · rename_i h
      rw [← h.1, ha, F.z_mul, F.z_mul]
    · rfl
theorem dot_set (F : Fld K) {s : Nat} {a : Nat → K} {v : List K} {p : Nat} (c : K) (hv : F.el v p = F.z) (hp : p < v.length) (hs : p < s) : F.dot s a (F.fn (v.set p c)) = F.add (F.dot s a (F.fn v)) (F.mul (a p) c) := by
  refine F.sumN_upd (p := p) ?_ hs fun i _ hne => ?_
  · show F.mul (a p) (F.el (v.set p c) p) = F.add (F.mul (a p) (F.el v p)) _
    rw [el_set, if_pos ⟨rfl, hp⟩, hv, F.mul_z, F.z_add]
  · show F.mul (a i) (F.el (v.set p c) i) = F.mul (a i) (F.el v i)
    rw [el_set, if_neg fun q => hne q.1.symm]
/-- The vector that belongs to a place without a pivot. -/
def Ops.nset (O : Ops K) (R : List (List K)) (j : Nat) (v : List K) : List K := R.foldl (fun v r => v.set (O.lead r) (O.neg (O.el r j))) v
def Ops.nullv (O : Ops K) (s : Nat) (R : List (List K)) (j : Nat) : List K := O.nset R j ((List.replicate s O.z).set j O.o)
def Ops.nullGo (O : Ops K) (s : Nat) (R : List (List K)) : Nat → Nat → Nat → List (List K)
  | 0, _, _ => []
  | m + 1, j, t => if t < R.length ∧ O.lead (R.getD t []) = j then Ops.nullGo O s R m (j + 1) (t + 1) else O.nullv s R j :: Ops.nullGo O s R m (j + 1) t
def Ops.nullL (O : Ops K) (s : Nat) (R : List (List K)) : List (List K) := O.nullGo s R s 0 0
theorem nset_len (O : Ops K) (j : Nat) : ∀ (R : List (List K)) (v : List K), (O.nset R j v).length = v.length
  | [], _ => rfl
  | r :: R, v => by
    show (O.nset R j (v.set _ _)).length = _
    rw [nset_len O j R, List.length_set]
theorem nullv_len (O : Ops K) (s : Nat) (R : List (List K)) (j : Nat) : (O.nullv s R j).length = s := by
  unfold Ops.nullv
  rw [nset_len, List.length_set, List.length_replicate]
theorem nset_out (F : Fld K) (j i : Nat) : ∀ (R : List (List K)) (v : List K), (∀ r ∈ R, F.lead r ≠ i) → F.el (F.nset R j v) i = F.el v i
  | [], _, _ => rfl
  | r :: R, v, h => by
    show F.el (F.nset R j (v.set _ _)) i = _
    rw [nset_out F j i R _ (fun x hx => h x (by simp [hx])), el_set, if_neg fun q => h r (by simp) q.1]
theorem nset_dot0 (F : Fld K) {s j : Nat} {a : Nat → K} : ∀ (R : List (List K)) (v : List K), (∀ r ∈ R, a (F.lead r) = F.z) → F.dot s a (F.fn (F.nset R j v)) = F.dot s a (F.fn v)
  | [], _, _ => rfl
  | r :: R, v, h => by
    show F.dot s a (F.fn (F.nset R j (v.set _ _))) = _
    rw [nset_dot0 F R _ (fun x hx => h x (by simp [hx])), dot_set0 F _ (h r (by simp))]
theorem nset_app (O : Ops K) (R S : List (List K)) (j : Nat) (v : List K) : O.nset (R ++ S) j v = O.nset S j (O.nset R j v) := List.foldl_append ..
end Go.Proofs.YtmekhjnhcgmphaaDoor
