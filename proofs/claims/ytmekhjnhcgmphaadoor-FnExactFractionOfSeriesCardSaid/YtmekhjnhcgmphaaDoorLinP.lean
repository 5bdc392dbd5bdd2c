/- Linear algebra: the composition of relations, in two ways, also over what stands for a field. Plain lemmas of mine. -/
import Derived.Test.YtmekhjnhcgmphaaDoorLinO
namespace Go.Proofs.YtmekhjnhcgmphaaDoor
set_option maxRecDepth 100000
variable {K : Type}
variable {A : Type} {O : Ops K} {O' : Ops A} {f : K → A}
theorem Hom.reps (h : Hom O O' f) (n : Nat) : List.replicate n O'.z = (List.replicate n O.z).map f := by rw [List.map_replicate, h.z]
theorem Hom.unit (h : Hom O O' f) (s i : Nat) : O'.unit s i = (O.unit s i).map f := by
  unfold Ops.unit
  rw [h.reps, h.o, List.map_set]
theorem Hom.nset (h : Hom O O' f) (j : Nat) : ∀ (R : List (List K)) (v : List K), O'.nset (mp2 f R) j (v.map f) = (O.nset R j v).map f
  | [], _ => rfl
  | r :: R, v => by
    show O'.nset (mp2 f R) j ((v.map f).set (O'.lead (r.map f)) (O'.neg (O'.el (r.map f) j))) = (O.nset R j (v.set (O.lead r) (O.neg (O.el r j)))).map f
    rw [h.lead, h.el, h.neg, ← List.map_set, Hom.nset h j R]
theorem Hom.nullv (h : Hom O O' f) (s : Nat) (R : List (List K)) (j : Nat) : O'.nullv s (mp2 f R) j = (O.nullv s R j).map f := by
  unfold Ops.nullv
  rw [h.reps, h.o, ← List.map_set, h.nset]
theorem Hom.nullGo (h : Hom O O' f) (s : Nat) (R : List (List K)) : ∀ (m j t : Nat), O'.nullGo s (mp2 f R) m j t = mp2 f (O.nullGo s R m j t)
  | 0, _, _ => rfl
  | m + 1, j, t => by
    rw [Ops.nullGo, Ops.nullGo, getD_mp2, h.lead, List.length_map, Hom.nullGo h s R m, Hom.nullGo h s R m, h.nullv]
    split <;> rfl
theorem Hom.nullL (h : Hom O O' f) (s : Nat) (R : List (List K)) : O'.nullL s (mp2 f R) = mp2 f (O.nullL s R) := h.nullGo s R s 0 0
end Go.Proofs.YtmekhjnhcgmphaaDoor
