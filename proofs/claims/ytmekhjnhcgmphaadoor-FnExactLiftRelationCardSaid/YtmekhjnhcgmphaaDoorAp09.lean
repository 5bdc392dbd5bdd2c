/- Contracts: fractions made, checked and handed back, on both sides. Contracts: FractionMul, on both sides. The ring of polynomials in normal form; fractions in lowest terms are told by cross products. Plain lemmas of mine. Linear algebra over a field, no program in sight: spans, reduced lists, the elimination. Plain lemmas of mine. -/
import Derived.Test.YtmekhjnhcgmphaaDoorAp06
import Derived.Test.YtmekhjnhcgmphaaDoorLow
import Derived.Test.YtmekhjnhcgmphaaDoorIv
import Derived.RegionCalls
import Derived.Deep.RegionWith
import Derived.Deep.RegionHeld3
namespace Go.Proofs.YtmekhjnhcgmphaaDoor
set_option maxRecDepth 100000
open Go Go.RowKit
/-- A block of two cells, both stored. -/
theorem st2 {w : World} {g : Nat} {t : TypeId} {u v : Value} (h : VB w g t #[u, v]) (a b : Value) :
    VB ((w.setCell ⟨g, 0, none⟩ a).setCell ⟨g, 1, none⟩ b) g t #[a, b] ∧ Ex1 g w ((w.setCell ⟨g, 0, none⟩ a).setCell ⟨g, 1, none⟩ b) :=
  ⟨(h.set_ 0 a).set_ 1 b, ((Ex1.refl g w).setCell (p := ⟨g, 0, none⟩) rfl _).setCell (p := ⟨g, 1, none⟩) rfl _⟩
end Go.Proofs.YtmekhjnhcgmphaaDoor
namespace Go.Proofs.YtmekhjnhcgmphaaDoor
set_option maxRecDepth 100000
open Go Go.RowKit
/-- What is known of a fraction. -/
structure FrOK (p : Int) (n m : List Int) : Prop where
  f : fieldB p = true
  ne : allEl p n = true
  me : allEl p m = true
  nt : Tr n
  mt : Tr m
  nl : n.length ≤ 21
  ml : m.length ≤ 21
  m0 : m ≠ []
theorem FrOK.of {p : Int} {n m : List Int} (h : fracB p n m = true) : FrOK p n m := by
  obtain ⟨hF, h1, h2, k1, k2, hd0, _, _⟩ := fracB_parts h
  obtain ⟨_, _, hne, tn⟩ := polyB_parts h1
  obtain ⟨_, _, hde, td⟩ := polyB_parts h2
  exact ⟨hF, hne, hde, tn, td, k1, k2, hd0⟩
end Go.Proofs.YtmekhjnhcgmphaaDoor
namespace Go.Proofs.YtmekhjnhcgmphaaDoor
set_option maxRecDepth 100000
/-- A polynomial in normal form. -/
structure PN (p : Int) (f : List Int) : Prop where
  e : allEl p f = true
  t : Tr f
theorem PN.nil (p : Int) : PN p [] := ⟨allEl_nil p, Tr.nil⟩
theorem PN.one {p : Int} (h2 : 2 ≤ p) : PN p [1] := ⟨el_one h2, tr_one⟩
theorem PN.mul {p : Int} (hp : 0 < p) (f g : List Int) : PN p (pMul p f g) := ⟨pMul_el hp _ _, Tr.trim _⟩
theorem PN.add {p : Int} (hp : 0 < p) {f : List Int} (hf : PN p f) (b : Int) (g : List Int) : PN p (pAdd p f b g) := ⟨pAdd_el hf.e hp b g, pAdd_tr _ _ _ _⟩
theorem PN.eq {p : Int} (hp : 0 < p) {f g : List Int} (hf : PN p f) (hg : PN p g) (h : Cong p (cf f) (cf g)) : f = g := h.list hp hf.e hg.e hf.t hg.t
theorem pmul_comm {p : Int} (hp : 0 < p) (f g : List Int) : pMul p f g = pMul p g f :=
  PN.eq hp (PN.mul hp f g) (PN.mul hp g f) ((pMul_cong hp f g).trans ((Cong.of_eq (act_cf_comm f g)).trans (pMul_cong hp g f).symm))
theorem pmul_act {p : Int} (hp : 0 < p) (f g h : List Int) : Cong p (act (pMul p f g) (cf h)) (act f (act g (cf h))) := by
  obtain ⟨q, hq⟩ := act_prod f g
  have h1 : Cong p (cf (pMul p f g)) (cf q) := by
    refine (pMul_cong hp f g).trans (Cong.of_eq ?_)
    rw [cf_act q, hq, ← cf_act]
  exact (h1.actl h).trans (Cong.of_eq (hq _))
theorem pmul_assoc {p : Int} (hp : 0 < p) (f g h : List Int) : pMul p (pMul p f g) h = pMul p f (pMul p g h) :=
  PN.eq hp (PN.mul hp _ _) (PN.mul hp _ _) ((pMul_cong hp _ _).trans ((pmul_act hp f g h).trans (((pMul_cong hp g h).symm.act f).trans (pMul_cong hp f _).symm)))
theorem padd_cong {p : Int} (hp : 0 < p) {f : List Int} (hf : PN p f) (g : List Int) : Cong p (cf (pAdd p f 1 g)) (fun n => cf f n + cf g n) :=
  (pAdd_cong hp hf.e 1 g).trans (Cong.of_eq (funext fun n => by rw [Int.one_mul]))
theorem padd_comm {p : Int} (hp : 0 < p) {f g : List Int} (hf : PN p f) (hg : PN p g) : pAdd p f 1 g = pAdd p g 1 f :=
  PN.eq hp (hf.add hp _ _) (hg.add hp _ _) ((padd_cong hp hf g).trans ((Cong.of_eq (funext fun _ => Int.add_comm _ _)).trans (padd_cong hp hg f).symm))
theorem padd_assoc {p : Int} (hp : 0 < p) {f g h : List Int} (hf : PN p f) (hg : PN p g) : pAdd p (pAdd p f 1 g) 1 h = pAdd p f 1 (pAdd p g 1 h) := by
  refine PN.eq hp ((hf.add hp _ _).add hp _ _) (hf.add hp _ _) ?_
  refine (padd_cong hp (hf.add hp 1 g) h).trans ?_
  refine ((padd_cong hp hf g).add (Cong.refl p (cf h))).trans ?_
  refine Cong.trans ?_ (padd_cong hp hf (pAdd p g 1 h)).symm
  refine Cong.trans (Cong.of_eq (funext fun n => Int.add_assoc _ _ _)) ?_
  exact (Cong.refl p (cf f)).add (padd_cong hp hg h).symm
theorem pmul_add {p : Int} (hp : 0 < p) (f : List Int) {g h : List Int} (hg : PN p g) : pMul p f (pAdd p g 1 h) = pAdd p (pMul p f g) 1 (pMul p f h) := by
  refine PN.eq hp (PN.mul hp _ _) ((PN.mul hp f g).add hp _ _) ?_
  refine (pMul_cong hp f _).trans ?_
  refine ((padd_cong hp hg h).act f).trans ?_
  rw [act_add]
  exact ((pMul_cong hp f g).symm.add (pMul_cong hp f h).symm).trans (padd_cong hp (PN.mul hp f g) _).symm
theorem padd_mul {p : Int} (hp : 0 < p) (f : List Int) {g h : List Int} (hg : PN p g) : pMul p (pAdd p g 1 h) f = pAdd p (pMul p g f) 1 (pMul p h f) := by
  rw [pmul_comm hp, pmul_add hp f hg, pmul_comm hp f g, pmul_comm hp f h]
theorem pmul_one {p : Int} (h2 : 2 ≤ p) {f : List Int} (hf : PN p f) : pMul p f [1] = f := by
  refine PN.eq (by omega) (PN.mul (by omega) _ _) hf ?_
  rw [pmul_comm (by omega)]
  refine (pMul_cong (by omega) [1] f).trans (Cong.of_eq ?_)
  rw [act_one]
theorem pmul_nil (p : Int) (f : List Int) : pMul p f [] = [] := by rw [pMul, pMulR, if_pos (.inr rfl)]; rfl
theorem pnil_mul (p : Int) (f : List Int) : pMul p [] f = [] := by rw [pMul, pMulR, if_pos (.inl rfl)]; rfl
theorem padd_nil {p : Int} (hp : 0 < p) {f : List Int} (hf : PN p f) : pAdd p f 1 [] = f := by
  refine PN.eq hp (hf.add hp _ _) hf ((padd_cong hp hf []).trans (Cong.of_eq (funext fun n => by rw [cf_nil, Int.add_zero])))
theorem pmul_ne {p : Int} (hF : fieldB p = true) {f g : List Int} (hf : PN p f) (hg : PN p g) (h1 : f ≠ []) (h2 : g ≠ []) : pMul p f g ≠ [] := by
  intro e
  have := pMul_len hF hf.e hg.e hf.t hg.t h1 h2
  rw [e] at this
  have l1 := List.length_pos_iff.2 h1
  have l2 := List.length_pos_iff.2 h2
  simp at this; omega
theorem pscale_cong {p : Int} (hp : 0 < p) (b : Int) (g : List Int) : Cong p (cf (pScale p b g)) (fun n => b * cf g n) :=
  (pAdd_cong hp (f := []) (allEl_nil p) b g).trans (Cong.of_eq (funext fun n => by rw [cf_nil, Int.zero_add]))
theorem PN.scale {p : Int} (hp : 0 < p) (b : Int) (g : List Int) : PN p (pScale p b g) := (PN.nil p).add hp b g
/-- The negative. -/
def pNeg (p : Int) (f : List Int) : List Int := pScale p (p - 1) f
theorem PN.neg {p : Int} (hp : 0 < p) (f : List Int) : PN p (pNeg p f) := PN.scale hp _ _
theorem pneg_add {p : Int} (hp : 0 < p) (f : List Int) : pAdd p (pNeg p f) 1 f = [] := by
  refine PN.eq hp ((PN.scale hp _ _).add hp _ _) (PN.nil p) ?_
  refine (padd_cong hp (PN.scale hp (p - 1) f) f).trans ?_
  refine ((pscale_cong hp (p - 1) f).add (Cong.refl p (cf f))).trans ?_
  intro n
  rw [cf_nil]
  exact ⟨cf f n, by show (p - 1) * cf f n + cf f n - 0 = _; rw [Int.sub_mul, Int.one_mul]; omega⟩
theorem pneg_mul {p : Int} (hp : 0 < p) (f g : List Int) : pMul p (pNeg p f) g = pNeg p (pMul p f g) := by
  refine PN.eq hp (PN.mul hp _ _) (PN.scale hp _ _) ?_
  rw [pmul_comm hp]
  refine (pMul_cong hp g _).trans (((pscale_cong hp (p - 1) f).act g).trans ?_)
  rw [act_mul]
  refine Cong.trans ?_ (pscale_cong hp (p - 1) _).symm
  refine Cong.mul _ ?_
  rw [← act_cf_comm]
  exact (pMul_cong hp f g).symm
/-- A sum that is 0 with one part is told by it. -/
theorem padd_cancel {p : Int} (hp : 0 < p) {f g h : List Int} (hf : PN p f) (hg : PN p g) (hh : PN p h) (e : pAdd p f 1 g = pAdd p f 1 h) : g = h := by
  have h1 : ∀ {x : List Int}, PN p x → pAdd p (pNeg p f) 1 (pAdd p f 1 x) = x := fun {x} hx => by
    rw [← padd_assoc hp (PN.neg hp _) hf, pneg_add hp, padd_comm hp (PN.nil p) hx, padd_nil hp hx]
  rw [← h1 hg, e, h1 hh]
/-- No zero divisors: a factor other than 0 cancels. -/
theorem pmul_cancel {p : Int} (hF : fieldB p = true) {d f g : List Int} (hd : PN p d) (hf : PN p f) (hg : PN p g) (h0 : d ≠ []) (e : pMul p d f = pMul p d g) : f = g := by
  have hp : 0 < p := by have := fieldB_lo hF; omega
  have hn : PN p (pNeg p g) := PN.neg hp _
  have h1 : pMul p d (pAdd p f 1 (pNeg p g)) = [] := by
    rw [pmul_add hp d hf, e, pmul_comm hp d (pNeg p g), pneg_mul hp, pmul_comm hp g d, padd_comm hp (PN.mul hp _ _) (PN.neg hp _)]
    exact pneg_add hp _
  by_cases h2 : pAdd p f 1 (pNeg p g) = []
  · refine padd_cancel hp hn hf hg ?_
    rw [padd_comm hp hn hf, h2, pneg_add hp]
  · exact absurd h1 (pmul_ne hF hd (hf.add hp _ _) h0 h2)
/-- Coprime: a divisor of a product divides the other factor. -/
theorem coprime_div {p : Int} (hF : fieldB p = true) {n d : List Int} (hn : PN p n) (hd : PN p d) (hd0 : d ≠ []) (hg : (gcdM p n d).length = 1) {e : List Int} (h : InId p d (cf (pMul p n e))) : InId p d (cf e) := by
  have h2 := fieldB_lo hF
  have hp : 0 < p := by omega
  have hg1 := gcdM_one hF hn.e hd.e hn.t hd.t hd0 hg
  -- what has its product with e in the ideal of d is closed
  have key : ∀ (k : Nat) {f g : List Int}, InId p d (act e (cf f)) → InId p d (act e (cf g)) → InId p d (act e (cf (gcdL p k f g))) := by
    intro k
    induction k with
    | zero => intro f g h _; exact h
    | succ k ih =>
      intro f g h h'
      rw [gcdL]
      split
      · exact h
      · rename_i h0
        refine ih h' ?_
        have := h.sub (h'.act (pDivQ p f g))
        refine this.cong ?_
        have hc := (pDiv_cong (p := p) f h0).act e
        rw [act_add, act_comm e (pDivQ p f g)] at hc
        intro i
        have := Int.dvd_neg.2 (hc i)
        rwa [show ∀ x y z : Int, -(x - (y + z)) = z - (x - y) by intros; omega] at this
  have k1 : InId p d (act e (cf n)) := by
    refine h.cong ?_
    rw [act_cf_comm]
    exact (pMul_cong hp n e).symm
  have k2 : InId p d (act e (cf d)) := (InId.self' p d).act e
  have k3 : InId p d (act e (cf (gcdE p n d))) := key _ k1 k2
  have hs := (gcdM_sc hF hn.e hd.e hn.t hd.t (.inr hd0))
  -- gcdM = 1 is a multiple of gcdE
  have k4 : InId p d (act e (cf [1])) := by
    have hq : InId p (gcdE p n d) (cf (gcdM p n d)) := hs.2
    rw [hg1] at hq
    obtain ⟨q, hq⟩ := hq
    refine (k3.act q).cong ?_
    refine (hq.act e).trans ?_
    rw [act_comm]
    exact Cong.refl _ _
  refine k4.cong ?_
  rw [act_cf_comm, act_one]
  exact Cong.refl _ _
end Go.Proofs.YtmekhjnhcgmphaaDoor
namespace Go.Proofs.YtmekhjnhcgmphaaDoor
set_option maxRecDepth 100000
/-- What an elimination does with elements. -/
structure Ops (K : Type) where
  add : K → K → K
  mul : K → K → K
  neg : K → K
  inv : K → K
  z : K
  o : K
  isz : K → Bool
/-- A field. -/
structure Fld (K : Type) extends Ops K where
  add_comm : ∀ a b, add a b = add b a
  add_assoc : ∀ a b c, add (add a b) c = add a (add b c)
  z_add : ∀ a, add z a = a
  neg_add : ∀ a, add (neg a) a = z
  mul_comm : ∀ a b, mul a b = mul b a
  mul_assoc : ∀ a b c, mul (mul a b) c = mul a (mul b c)
  o_mul : ∀ a, mul o a = a
  distrib : ∀ a b c, mul a (add b c) = add (mul a b) (mul a c)
  inv_mul : ∀ a, a ≠ z → mul (inv a) a = o
  o_ne : o ≠ z
  isz_iff : ∀ a, isz a = true ↔ a = z
theorem Fld.add_z {K : Type} (F : Fld K) (a : K) : F.add a F.z = a := by rw [F.add_comm, F.z_add]
theorem Fld.add_neg {K : Type} (F : Fld K) (a : K) : F.add a (F.neg a) = F.z := by rw [F.add_comm, F.neg_add]
theorem Fld.cancel {K : Type} (F : Fld K) {a b c : K} (h : F.add a b = F.add a c) : b = c := by
  have := congrArg (F.add (F.neg a)) h
  rwa [← F.add_assoc, ← F.add_assoc, F.neg_add, F.z_add, F.z_add] at this
theorem Fld.mul_z {K : Type} (F : Fld K) (a : K) : F.mul a F.z = F.z := by
  refine F.cancel (a := F.mul a F.z) ?_
  rw [← F.distrib, F.z_add, F.add_z]
theorem Fld.z_mul {K : Type} (F : Fld K) (a : K) : F.mul F.z a = F.z := by rw [F.mul_comm, F.mul_z]
theorem Fld.mul_o {K : Type} (F : Fld K) (a : K) : F.mul a F.o = a := by rw [F.mul_comm, F.o_mul]
theorem Fld.distrib_r {K : Type} (F : Fld K) (a b c : K) : F.mul (F.add a b) c = F.add (F.mul a c) (F.mul b c) := by rw [F.mul_comm, F.distrib, F.mul_comm c, F.mul_comm c]
theorem Fld.neg_of {K : Type} (F : Fld K) {a b : K} (h : F.add a b = F.z) : a = F.neg b := by
  refine F.cancel (a := b) ?_
  rw [F.add_comm b a, h, F.add_neg]
theorem Fld.neg_mul {K : Type} (F : Fld K) (a b : K) : F.mul (F.neg a) b = F.neg (F.mul a b) := by
  refine F.neg_of ?_
  rw [← F.distrib_r, F.neg_add, F.z_mul]
theorem Fld.neg_neg {K : Type} (F : Fld K) (a : K) : F.neg (F.neg a) = a := (F.neg_of (F.add_neg a)).symm
theorem Fld.mul_inv {K : Type} (F : Fld K) {a : K} (h : a ≠ F.z) : F.mul a (F.inv a) = F.o := by rw [F.mul_comm, F.inv_mul a h]
theorem Fld.swap4 {K : Type} (F : Fld K) (a b c d : K) : F.add (F.add a b) (F.add c d) = F.add (F.add a c) (F.add b d) := by
  rw [F.add_assoc, F.add_assoc, ← F.add_assoc b, F.add_comm b c, F.add_assoc c]
/-- The sum of two vectors; a multiple of one; zero. -/
def Fld.va {K : Type} (F : Fld K) (u v : Nat → K) : Nat → K := fun j => F.add (u j) (v j)
def Fld.vs {K : Type} (F : Fld K) (c : K) (v : Nat → K) : Nat → K := fun j => F.mul c (v j)
def Fld.vz {K : Type} (F : Fld K) : Nat → K := fun _ => F.z
theorem Fld.va_assoc {K : Type} (F : Fld K) (u v w : Nat → K) : F.va (F.va u v) w = F.va u (F.va v w) := funext fun _ => F.add_assoc _ _ _
theorem Fld.va_z {K : Type} (F : Fld K) (u : Nat → K) : F.va u F.vz = u := funext fun _ => F.add_z _
theorem Fld.vz_a {K : Type} (F : Fld K) (u : Nat → K) : F.va F.vz u = u := funext fun _ => F.z_add _
theorem Fld.vs_o {K : Type} (F : Fld K) (u : Nat → K) : F.vs F.o u = u := funext fun _ => F.o_mul _
theorem Fld.vs_z {K : Type} (F : Fld K) (c : K) : F.vs c F.vz = F.vz := funext fun _ => F.mul_z _
theorem Fld.vs_a {K : Type} (F : Fld K) (c : K) (u v : Nat → K) : F.vs c (F.va u v) = F.va (F.vs c u) (F.vs c v) := funext fun _ => F.distrib _ _ _
theorem Fld.vs_vs {K : Type} (F : Fld K) (c d : K) (u : Nat → K) : F.vs c (F.vs d u) = F.vs (F.mul c d) u := funext fun _ => (F.mul_assoc _ _ _).symm
/-- v is a linear combination of R. -/
def Sp {K : Type} (F : Fld K) (R : List (Nat → K)) (v : Nat → K) : Prop := ∀ S : (Nat → K) → Prop, S F.vz → (∀ u, S u → ∀ r ∈ R, ∀ c, S (F.va u (F.vs c r))) → S v
theorem Sp.zero {K : Type} (F : Fld K) (R : List (Nat → K)) : Sp F R F.vz := fun _ h _ => h
theorem Sp.step {K : Type} {F : Fld K} {R : List (Nat → K)} {u : Nat → K} (h : Sp F R u) {r : Nat → K} (hr : r ∈ R) (c : K) : Sp F R (F.va u (F.vs c r)) := fun S h0 h1 => h1 u (h S h0 h1) r hr c
theorem Sp.add {K : Type} {F : Fld K} {R : List (Nat → K)} {u v : Nat → K} (h : Sp F R u) (k : Sp F R v) : Sp F R (F.va u v) :=
  k (fun x => Sp F R (F.va u x)) (by rw [F.va_z]; exact h) fun x hx r hr c => by
    rw [← F.va_assoc]
    exact hx.step hr c
theorem Sp.smul {K : Type} {F : Fld K} {R : List (Nat → K)} {u : Nat → K} (h : Sp F R u) (c : K) : Sp F R (F.vs c u) :=
  h (fun x => Sp F R (F.vs c x)) (by rw [F.vs_z]; exact Sp.zero F R) fun x hx r hr d => by
    rw [F.vs_a, F.vs_vs]
    exact hx.step hr _
theorem Sp.mem {K : Type} {F : Fld K} {R : List (Nat → K)} {r : Nat → K} (h : r ∈ R) : Sp F R r := by
  have := (Sp.zero F R).step h F.o
  rwa [F.vz_a, F.vs_o] at this
theorem Sp.mono {K : Type} {F : Fld K} {R R' : List (Nat → K)} (h : ∀ r ∈ R, Sp F R' r) {v : Nat → K} (hv : Sp F R v) : Sp F R' v :=
  hv (Sp F R') (Sp.zero F R') fun _ hu r hr c => hu.add ((h r hr).smul c)
theorem Sp.sub {K : Type} {F : Fld K} {R R' : List (Nat → K)} (h : ∀ r ∈ R, r ∈ R') {v : Nat → K} (hv : Sp F R v) : Sp F R' v := hv.mono fun r hr => Sp.mem (h r hr)
theorem Sp.nil {K : Type} {F : Fld K} {v : Nat → K} (h : Sp F [] v) : v = F.vz := h (fun x => x = F.vz) rfl fun _ _ r hr => by simp at hr
/-- The combination of rows by what a vector has at places. -/
def sumP {K : Type} (F : Fld K) (l : List ((Nat → K) × Nat)) (v : Nat → K) : Nat → K := fun j => l.foldr (fun q s => F.add (F.mul (v q.2) (q.1 j)) s) F.z
theorem sumP_cons {K : Type} (F : Fld K) (q : (Nat → K) × Nat) (l : List ((Nat → K) × Nat)) (v : Nat → K) (j : Nat) : sumP F (q :: l) v j = F.add (F.mul (v q.2) (q.1 j)) (sumP F l v j) := rfl
theorem sumP_zero {K : Type} (F : Fld K) (j : Nat) (v : Nat → K) : ∀ (l : List ((Nat → K) × Nat)), (∀ q ∈ l, v q.2 = F.z ∨ q.1 j = F.z) → sumP F l v j = F.z
  | [], _ => rfl
  | q :: l, h => by
    rw [sumP_cons, sumP_zero F j v l (fun x hx => h x (by simp [hx])), F.add_z]
    rcases h q (by simp) with e | e
    · rw [e, F.z_mul]
    · rw [e, F.mul_z]
theorem sumP_step {K : Type} (F : Fld K) (u r : Nat → K) (c : K) (j : Nat) : ∀ (l : List ((Nat → K) × Nat)), sumP F l (F.va u (F.vs c r)) j = F.add (sumP F l u j) (F.mul c (sumP F l r j))
  | [] => by show F.z = F.add F.z (F.mul c F.z); rw [F.mul_z, F.z_add]
  | q :: l => by
    rw [sumP_cons, sumP_cons, sumP_cons, sumP_step F u r c j l]
    show F.add (F.mul (F.add (u q.2) (F.mul c (r q.2))) (q.1 j)) _ = _
    rw [F.distrib_r, F.distrib, F.mul_assoc, F.swap4]
theorem sumP_one {K : Type} (F : Fld K) (v : Nat → K) : ∀ (l : List ((Nat → K) × Nat)) (i : Nat) (p : Nat), l[i]? = some (v, p) → v p = F.o → (∀ (i' : Nat) (q : (Nat → K) × Nat), l[i']? = some q → i' ≠ i → v q.2 = F.z) → ∀ j, sumP F l v j = v j
  | [], i, p, h, _, _, _ => by simp at h
  | q :: l, 0, p, h, h1, h0, j => by
    obtain rfl : q = (v, p) := by simpa using h
    rw [sumP_cons, h1, F.o_mul, sumP_zero F j v l (fun x hx => ?_), F.add_z]
    obtain ⟨i, hi⟩ := List.getElem?_of_mem hx
    exact .inl (h0 (i + 1) x (by simpa using hi) (by omega))
  | q :: l, i + 1, p, h, h1, h0, j => by
    rw [sumP_cons, h0 0 q rfl (by omega), F.z_mul, F.z_add]
    exact sumP_one F v l i p (by simpa using h) h1 (fun i' x hx hne => h0 (i' + 1) x (by simpa using hx) (by omega)) j
/-- An element of a row. -/
def Ops.el {K : Type} (O : Ops K) (v : List K) (j : Nat) : K := v.getD j O.z
theorem Ops.el_ext {K : Type} (O : Ops K) {u v : List K} (hl : u.length = v.length) (h : ∀ j, O.el u j = O.el v j) : u = v := by
  refine List.ext_getElem hl fun j h1 h2 => ?_
  have := h j
  rwa [Ops.el, Ops.el, List.getD_eq_getElem?_getD, List.getD_eq_getElem?_getD, List.getElem?_eq_getElem h1, List.getElem?_eq_getElem h2] at this
theorem Ops.el_out {K : Type} (O : Ops K) {v : List K} {j : Nat} (h : v.length ≤ j) : O.el v j = O.z := by
  rw [Ops.el, List.getD_eq_getElem?_getD, List.getElem?_eq_none h]; rfl
theorem Ops.el_in {K : Type} (O : Ops K) {v : List K} {j : Nat} {x : K} (h : v[j]? = some x) : O.el v j = x := by
  rw [Ops.el, List.getD_eq_getElem?_getD, h]; rfl
def Ops.fn {K : Type} (O : Ops K) (v : List K) : Nat → K := fun j => O.el v j
def Ops.fns {K : Type} (O : Ops K) (rows : List (List K)) : List (Nat → K) := rows.map O.fn
/-- A row less a multiple of another one; a row divided by its element at a place. -/
def Ops.less {K : Type} (O : Ops K) (v : List K) (k : K) (w : List K) : List K := List.zipWith (fun x y => O.add x (O.mul (O.neg k) y)) v w
def Ops.nrm {K : Type} (O : Ops K) (v : List K) (c : Nat) : List K := v.map fun x => O.mul (O.inv (O.el v c)) x
def swpL {K : Type} (rows : List (List K)) (i k : Nat) : List (List K) := (rows.set i (rows.getD k [])).set k (rows.getD i [])
/-- The first row from r on with an element other than 0 at c. -/
def Ops.fnd {K : Type} (O : Ops K) (rows : List (List K)) (r c : Nat) : Nat := r + (rows.drop r).findIdx fun row => !O.isz (O.el row c)
/-- Row i once row r, which lead is, has been divided. -/
def Ops.clr {K : Type} (O : Ops K) (r c : Nat) (lead : List K) (i : Nat) (v : List K) : List K := if i = r then lead else if O.isz (O.el v c) then v else O.less v (O.el v c) lead
def Ops.piv {K : Type} (O : Ops K) (rows : List (List K)) (r c k : Nat) : List (List K) := (swpL rows r k).mapIdx (O.clr r c (O.nrm (rows.getD k []) c))
def Ops.red {K : Type} (O : Ops K) : Nat → Nat → Nat → List (List K) → List (List K) × Nat
  | 0, _, r, rows => (rows, r)
  | m + 1, c, r, rows => if O.fnd rows r c < rows.length then Ops.red O m (c + 1) (r + 1) (O.piv rows r c (O.fnd rows r c)) else Ops.red O m (c + 1) r rows
/-- The reduced list of what rows of n elements span. -/
def Ops.rref {K : Type} (O : Ops K) (n : Nat) (rows : List (List K)) : List (List K) := (O.red n 0 0 rows).1.take (O.red n 0 0 rows).2
theorem swpL_len {K : Type} (rows : List (List K)) (i k : Nat) : (swpL rows i k).length = rows.length := by simp [swpL]
theorem piv_len {K : Type} (O : Ops K) (rows : List (List K)) (r c k : Nat) : (O.piv rows r c k).length = rows.length := by simp [Ops.piv, swpL_len]
theorem red_len {K : Type} (O : Ops K) : ∀ (m c r : Nat) (rows : List (List K)), (O.red m c r rows).1.length = rows.length
  | 0, _, _, _ => rfl
  | m + 1, c, r, rows => by
    rw [Ops.red]
    split
    · rw [red_len, piv_len]
    · rw [red_len]
theorem fnd_none {K : Type} (O : Ops K) {rows : List (List K)} {r c : Nat} (h : ¬ O.fnd rows r c < rows.length) : ∀ (i : Nat) (v : List K), r ≤ i → rows[i]? = some v → O.isz (O.el v c) = true := fun i v hr hi => by
  have hl := (List.getElem?_eq_some_iff.1 hi).1
  unfold Ops.fnd at h
  have h2 : ¬ (rows.drop r).findIdx (fun row => !O.isz (O.el row c)) < (rows.drop r).length := by rw [List.length_drop]; omega
  rw [List.findIdx_lt_length] at h2
  have hv : v ∈ rows.drop r := List.mem_iff_getElem?.2 ⟨i - r, by rw [List.getElem?_drop]; rw [show r + (i - r) = i by omega]; exact hi⟩
  cases hb : O.isz (O.el v c) with
  | true => rfl
  | false => exact absurd ⟨v, hv, by rw [hb]; rfl⟩ h2
theorem fnd_some {K : Type} (O : Ops K) {rows : List (List K)} {r c : Nat} (h : O.fnd rows r c < rows.length) : r ≤ O.fnd rows r c ∧ O.isz (O.el (rows.getD (O.fnd rows r c) []) c) = false := by
  refine ⟨Nat.le_add_right _ _, ?_⟩
  have h2 : (rows.drop r).findIdx (fun row => !O.isz (O.el row c)) < (rows.drop r).length := by rw [List.length_drop]; unfold Ops.fnd at h; omega
  have h3 := List.findIdx_getElem (w := h2)
  rw [List.getElem_drop] at h3
  rw [List.getD_eq_getElem?_getD, List.getElem?_eq_getElem h, Option.getD_some]
  rw [Bool.not_eq_true'] at h3
  exact h3
theorem swpL_at {K : Type} {rows : List (List K)} {r k : Nat} (hr : r < rows.length) (hk : k < rows.length) (i : Nat) (hi : i < rows.length) : (swpL rows r k)[i]? = some (rows.getD (if i = k then r else if i = r then k else i) []) := by
  unfold swpL
  rw [List.getElem?_set]
  by_cases e : k = i
  · subst e
    rw [if_pos rfl, if_pos rfl, if_pos (by simpa using hk)]
  · rw [if_neg e, if_neg (fun h => e h.symm), List.getElem?_set]
    by_cases e2 : r = i
    · subst e2
      rw [if_pos rfl, if_pos rfl, if_pos hr]
    · rw [if_neg e2, if_neg (fun h => e2 h.symm), List.getElem?_eq_getElem hi, List.getD_eq_getElem?_getD, List.getElem?_eq_getElem hi]; rfl
theorem piv_at {K : Type} (O : Ops K) {rows : List (List K)} {r k : Nat} (hr : r < rows.length) (hk : k < rows.length) (c i : Nat) (hi : i < rows.length) :
    (O.piv rows r c k)[i]? = some (O.clr r c (O.nrm (rows.getD k []) c) i (rows.getD (if i = k then r else if i = r then k else i) [])) := by
  unfold Ops.piv
  rw [List.getElem?_mapIdx, swpL_at hr hk i hi]; rfl
/-- All rows have n elements. -/
def Wid {K : Type} (n : Nat) (rows : List (List K)) : Prop := ∀ v ∈ rows, v.length = n
theorem Wid.at_ {K : Type} {n : Nat} {rows : List (List K)} (h : Wid n rows) {i : Nat} (hi : i < rows.length) : (rows.getD i []).length = n := by
  rw [List.getD_eq_getElem?_getD, List.getElem?_eq_getElem hi, Option.getD_some]
  exact h _ (List.getElem_mem _)
theorem nrm_len {K : Type} (O : Ops K) (v : List K) (c : Nat) : (O.nrm v c).length = v.length := by simp [Ops.nrm]
theorem less_len {K : Type} (O : Ops K) {n : Nat} {v w : List K} (hv : v.length = n) (hw : w.length = n) (k : K) : (O.less v k w).length = n := by simp [Ops.less, hv, hw]
theorem clr_len {K : Type} (O : Ops K) {n r c i : Nat} {v w : List K} (hv : v.length = n) (hw : w.length = n) : (O.clr r c w i v).length = n := by
  unfold Ops.clr
  split
  · exact hw
  · split
    · exact hv
    · exact less_len O hv hw _
theorem swp_lt {i r k n : Nat} (hi : i < n) (hr : r < n) (hk : k < n) : (if i = k then r else if i = r then k else i) < n := by
  split
  · exact hr
  · split <;> assumption
theorem Wid.piv {K : Type} {O : Ops K} {n : Nat} {rows : List (List K)} (h : Wid n rows) {r c k : Nat} (hr : r < rows.length) (hk : k < rows.length) : Wid n (O.piv rows r c k) := fun v hv => by
  obtain ⟨i, hi⟩ := List.getElem?_of_mem hv
  have hil : i < rows.length := by have := (List.getElem?_eq_some_iff.1 hi).1; rwa [piv_len] at this
  rw [piv_at O hr hk c i hil] at hi
  injection hi with hi
  rw [← hi]
  exact clr_len O (h.at_ (swp_lt hil hr hk)) (by rw [nrm_len]; exact h.at_ hk)
theorem el_less {K : Type} (F : Fld K) {v w : List K} (hl : v.length = w.length) (k : K) (j : Nat) : F.el (F.less v k w) j = F.add (F.el v j) (F.mul (F.neg k) (F.el w j)) := by
  by_cases h : j < v.length
  · rw [Ops.el_in F.toOps (x := F.add v[j] (F.mul (F.neg k) (w[j]'(by omega)))), Ops.el_in F.toOps (List.getElem?_eq_getElem h), Ops.el_in F.toOps (List.getElem?_eq_getElem (show j < w.length by omega))]
    unfold Ops.less
    rw [List.getElem?_zipWith, List.getElem?_eq_getElem h, List.getElem?_eq_getElem (show j < w.length by omega)]
  · rw [Ops.el_out _ (by rw [less_len F.toOps rfl hl.symm]; omega), Ops.el_out _ (by omega), Ops.el_out _ (by omega), F.mul_z, F.z_add]
theorem el_nrm {K : Type} (F : Fld K) (v : List K) (c j : Nat) : F.el (F.nrm v c) j = F.mul (F.inv (F.el v c)) (F.el v j) := by
  by_cases h : j < v.length
  · rw [Ops.el_in F.toOps (x := F.mul (F.inv (F.el v c)) v[j]), Ops.el_in F.toOps (List.getElem?_eq_getElem h)]
    unfold Ops.nrm
    rw [List.getElem?_map, List.getElem?_eq_getElem h]; rfl
  · rw [Ops.el_out _ (by rw [nrm_len]; omega), Ops.el_out F.toOps (j := j) (by omega), F.mul_z]
theorem fn_less {K : Type} (F : Fld K) {v w : List K} (hl : v.length = w.length) (k : K) : F.fn (F.less v k w) = F.va (F.fn v) (F.vs (F.neg k) (F.fn w)) := funext fun j => el_less F hl k j
theorem fn_nrm {K : Type} (F : Fld K) (v : List K) (c : Nat) : F.fn (F.nrm v c) = F.vs (F.inv (F.el v c)) (F.fn v) := funext fun j => el_nrm F v c j
/-- How far the elimination is: r rows with pivots at P, below c; the other rows are zero there. -/
structure Ech {K : Type} (F : Fld K) (rows : List (List K)) (r c : Nat) (P : List Nat) : Prop where
  pl : P.length = r
  hr : r ≤ rows.length
  asc : P.Pairwise (· < ·)
  lt : ∀ p ∈ P, p < c
  one : ∀ (i p : Nat) (v : List K), P[i]? = some p → rows[i]? = some v → F.el v p = F.o
  zer : ∀ (i i' p : Nat) (v : List K), P[i]? = some p → rows[i']? = some v → i' ≠ i → F.el v p = F.z
  led : ∀ (i p : Nat) (v : List K), P[i]? = some p → rows[i]? = some v → ∀ j, j < p → F.el v j = F.z
  low : ∀ (i : Nat) (v : List K), r ≤ i → rows[i]? = some v → ∀ j, j < c → F.el v j = F.z
theorem Ech.start {K : Type} (F : Fld K) (rows : List (List K)) : Ech F rows 0 0 [] :=
  ⟨rfl, Nat.zero_le _, List.Pairwise.nil, by simp, by simp, by simp, by simp, fun _ _ _ _ j hj => absurd hj (Nat.not_lt_zero j)⟩
theorem Ech.skip {K : Type} {F : Fld K} {rows : List (List K)} {r c : Nat} {P : List Nat} (h : Ech F rows r c P) (hn : ∀ (i : Nat) (v : List K), r ≤ i → rows[i]? = some v → F.el v c = F.z) : Ech F rows r (c + 1) P :=
  ⟨h.pl, h.hr, h.asc, fun p hp => Nat.lt_succ_of_lt (h.lt p hp), h.one, h.zer, h.led, fun i v hi hv j hj => by
    by_cases e : j = c
    · subst e; exact hn i v hi hv
    · exact h.low i v hi hv j (by omega)⟩
theorem Ech.piv {K : Type} {F : Fld K} {n : Nat} {rows : List (List K)} {r c : Nat} {P : List Nat} (h : Ech F rows r c P) (hw : Wid n rows) {k : Nat} (hrk : r ≤ k) (hk : k < rows.length) (hx : F.el (rows.getD k []) c ≠ F.z) : Ech F (F.piv rows r c k) (r + 1) (c + 1) (P ++ [c]) := by
  have hr : r < rows.length := by omega
  obtain ⟨vk, hvk⟩ : ∃ v, rows.getD k [] = v := ⟨_, rfl⟩
  have hkv : rows[k]? = some vk := by rw [← hvk, List.getD_eq_getElem?_getD, List.getElem?_eq_getElem hk]; rfl
  rw [hvk] at hx
  obtain ⟨L, hL⟩ : ∃ L, F.nrm vk c = L := ⟨_, rfl⟩
  have hLc : F.el L c = F.o := by rw [← hL, el_nrm, F.inv_mul _ hx]
  have hLlow : ∀ j, j < c → F.el L j = F.z := fun j hj => by rw [← hL, el_nrm, h.low k vk hrk hkv j hj, F.mul_z]
  have hLn : L.length = n := by rw [← hL, nrm_len]; exact hw vk (List.mem_of_getElem? hkv)
  -- a row of the new list: below c it is an old row; at c it is 0 but for row r
  have key : ∀ (i : Nat) (v : List K), (F.piv rows r c k)[i]? = some v → i < rows.length ∧ (i = r → v = L) ∧ (i ≠ r → F.el v c = F.z ∧ ∃ u, rows[if i = k then r else i]? = some u ∧ ∀ j, j < c → F.el v j = F.el u j) := by
    intro i v hv
    have hi : i < rows.length := by have := (List.getElem?_eq_some_iff.1 hv).1; rwa [piv_len] at this
    rw [piv_at F.toOps hr hk c i hi, hvk, hL] at hv
    injection hv with hv
    refine ⟨hi, fun e => ?_, fun e => ?_⟩
    · rw [← hv]; unfold Ops.clr; rw [if_pos e]
    · have hlt : (if i = k then r else i) < rows.length := by split <;> assumption
      have hs : (if i = k then r else if i = r then k else i) = (if i = k then r else i) := by rw [if_neg e]
      rw [hs] at hv
      obtain ⟨u, hu⟩ : ∃ u, rows[if i = k then r else i]? = some u := ⟨_, List.getElem?_eq_getElem hlt⟩
      have hul : u.length = n := hw u (List.mem_of_getElem? hu)
      rw [List.getD_eq_getElem?_getD, hu, Option.getD_some] at hv
      unfold Ops.clr at hv
      rw [if_neg e] at hv
      split at hv
      · rename_i hz
        subst hv
        exact ⟨(F.isz_iff _).1 hz, u, hu, fun _ _ => rfl⟩
      · subst hv
        refine ⟨?_, u, hu, fun j hj => ?_⟩
        · rw [el_less F (by rw [hul, hLn]), hLc, F.mul_o, F.add_neg]
        · rw [el_less F (by rw [hul, hLn]), hLlow j hj, F.mul_z, F.add_z]
  have hpl := h.pl
  have hPat : ∀ (i p : Nat), (P ++ [c])[i]? = some p → (i < r ∧ P[i]? = some p) ∨ (i = r ∧ p = c) := fun i p hp => by
    by_cases e : i < r
    · rw [List.getElem?_append_left (by omega)] at hp; exact .inl ⟨e, hp⟩
    · have := (List.getElem?_eq_some_iff.1 hp).1
      rw [List.length_append, List.length_singleton] at this
      obtain rfl : i = r := by omega
      rw [List.getElem?_append_right (by omega), hpl, Nat.sub_self] at hp
      exact .inr ⟨rfl, by simpa using hp.symm⟩
  refine ⟨by rw [List.length_append, List.length_singleton, hpl], by rw [piv_len]; omega, ?_, ?_, ?_, ?_, ?_, ?_⟩
  · rw [List.pairwise_append]
    exact ⟨h.asc, by simp, fun a ha b hb => by simp at hb; subst hb; exact h.lt a ha⟩
  · intro p hp
    rcases List.mem_append.1 hp with hp | hp
    · exact Nat.lt_succ_of_lt (h.lt p hp)
    · simp at hp; omega
  · intro i p v hp hv
    obtain ⟨hi, h1, h2⟩ := key i v hv
    rcases hPat i p hp with ⟨hir, hp⟩ | ⟨e, e2⟩
    · obtain ⟨_, u, hu, hj⟩ := h2 (by omega)
      rw [if_neg (by omega)] at hu
      rw [hj p (h.lt p (List.mem_of_getElem? hp))]
      exact h.one i p u hp hu
    · subst e2; rw [h1 e]; exact hLc
  · intro i i' p v hp hv hne
    obtain ⟨hi, h1, h2⟩ := key i' v hv
    rcases hPat i p hp with ⟨hir, hp⟩ | ⟨e, e2⟩
    · have hpc := h.lt p (List.mem_of_getElem? hp)
      by_cases e : i' = r
      · rw [h1 e]; exact hLlow p hpc
      · obtain ⟨_, u, hu, hj⟩ := h2 e
        rw [hj p hpc]
        refine h.zer i _ p u hp hu ?_
        split <;> omega
    · subst e2; exact (h2 (by omega)).1
  · intro i p v hp hv j hj
    obtain ⟨hi, h1, h2⟩ := key i v hv
    rcases hPat i p hp with ⟨hir, hp⟩ | ⟨e, e2⟩
    · have hpc := h.lt p (List.mem_of_getElem? hp)
      obtain ⟨_, u, hu, hj'⟩ := h2 (by omega)
      rw [if_neg (by omega)] at hu
      rw [hj' j (by omega)]
      exact h.led i p u hp hu j hj
    · subst e2; rw [h1 e]; exact hLlow j hj
  · intro i v hi hv j hj
    obtain ⟨_, _, h2⟩ := key i v hv
    obtain ⟨h0, u, hu, hj'⟩ := h2 (by omega)
    by_cases e : j = c
    · subst e; exact h0
    · rw [hj' j (by omega)]
      exact h.low _ u (by split <;> omega) hu j (by omega)
theorem Ech.red {K : Type} {F : Fld K} {n : Nat} : ∀ (m c r : Nat) (rows : List (List K)) (P : List Nat), Wid n rows → Ech F rows r c P → ∃ P', Ech F (F.red m c r rows).1 (F.red m c r rows).2 (c + m) P' ∧ Wid n (F.red m c r rows).1
  | 0, c, r, rows, P, hw, h => ⟨P, h, hw⟩
  | m + 1, c, r, rows, P, hw, h => by
    rw [Ops.red]
    split
    · rename_i hf
      obtain ⟨hrk, hx⟩ := fnd_some F.toOps hf
      have hx' : F.el (rows.getD (F.fnd rows r c) []) c ≠ F.z := fun e => by rw [(F.isz_iff _).2 e] at hx; cases hx
      have := Ech.red m (c + 1) (r + 1) _ _ (hw.piv (O := F.toOps) (c := c) (Nat.lt_of_le_of_lt hrk hf) hf) (h.piv hw hrk hf hx')
      rw [show c + (m + 1) = c + 1 + m by omega]
      exact this
    · rename_i hf
      have := Ech.red m (c + 1) r rows P hw (h.skip fun i v hi hv => (F.isz_iff _).1 (fnd_none F.toOps hf i v hi hv))
      rw [show c + (m + 1) = c + 1 + m by omega]
      exact this
/-- The same span. -/
theorem piv_span {K : Type} {F : Fld K} {n : Nat} {rows : List (List K)} (hw : Wid n rows) {r c k : Nat} (hr : r < rows.length) (hk : k < rows.length) (hx : F.el (rows.getD k []) c ≠ F.z) (v : Nat → K) : Sp F (F.fns (F.piv rows r c k)) v ↔ Sp F (F.fns rows) v := by
  have hmem : ∀ {R : List (List K)} {i : Nat} {u : List K}, R[i]? = some u → F.fn u ∈ F.fns R := fun h => List.mem_map.2 ⟨_, List.mem_of_getElem? h, rfl⟩
  have hrow : ∀ i, i < rows.length → rows[i]? = some (rows.getD i []) := fun i hi => by rw [List.getD_eq_getElem?_getD, List.getElem?_eq_getElem hi]; rfl
  have hlen : ∀ i, i < rows.length → (rows.getD i []).length = (F.nrm (rows.getD k []) c).length := fun i hi => by rw [hw.at_ hi, nrm_len, hw.at_ hk]
  constructor
  · refine Sp.mono fun q hq => ?_
    obtain ⟨u, hu, rfl⟩ := List.mem_map.1 hq
    obtain ⟨i, hi⟩ := List.getElem?_of_mem hu
    have hil : i < rows.length := by have := (List.getElem?_eq_some_iff.1 hi).1; rwa [piv_len] at this
    rw [piv_at F.toOps hr hk c i hil] at hi
    injection hi with hi
    have hL : Sp F (F.fns rows) (F.fn (F.nrm (rows.getD k []) c)) := by rw [fn_nrm]; exact (Sp.mem (hmem (hrow k hk))).smul _
    have hsl := swp_lt hil hr hk
    rw [← hi]
    generalize (if i = k then r else if i = r then k else i) = s at hsl
    unfold Ops.clr
    split
    · exact hL
    · split
      · exact Sp.mem (hmem (hrow _ hsl))
      · rw [fn_less F (hlen _ hsl)]
        exact (Sp.mem (hmem (hrow _ hsl))).add (hL.smul _)
  · refine Sp.mono fun q hq => ?_
    obtain ⟨u, hu, rfl⟩ := List.mem_map.1 hq
    obtain ⟨i, hi⟩ := List.getElem?_of_mem hu
    have hil := (List.getElem?_eq_some_iff.1 hi).1
    have hL : Sp F (F.fns (F.piv rows r c k)) (F.fn (F.nrm (rows.getD k []) c)) := by
      refine Sp.mem (hmem (i := r) ?_)
      rw [piv_at F.toOps hr hk c r hr]
      unfold Ops.clr
      rw [if_pos rfl]
    have hkk : Sp F (F.fns (F.piv rows r c k)) (F.fn (rows.getD k [])) := by
      have := hL.smul (F.el (rows.getD k []) c)
      rw [fn_nrm, F.vs_vs, F.mul_inv hx, F.vs_o] at this
      exact this
    have hui : u = rows.getD i [] := by rw [List.getD_eq_getElem?_getD, hi]; rfl
    by_cases e : i = k
    · rw [hui, e]; exact hkk
    -- where row i has gone
    obtain ⟨i', hi'l, hi'r, hs⟩ : ∃ i', i' < rows.length ∧ i' ≠ r ∧ (if i' = k then r else if i' = r then k else i') = i := by
      by_cases e2 : i = r
      · exact ⟨k, hk, fun e3 => e (e2.trans e3.symm), by rw [if_pos rfl]; exact e2.symm⟩
      · exact ⟨i, hil, e2, by rw [if_neg e, if_neg e2]⟩
    have hp := piv_at F.toOps hr hk c i' hi'l
    rw [hs] at hp
    unfold Ops.clr at hp
    rw [if_neg hi'r] at hp
    rw [hui]
    split at hp
    · exact Sp.mem (hmem hp)
    · have h1 := Sp.mem (F := F) (hmem hp)
      rw [fn_less F (hlen i hil)] at h1
      have h2 := h1.add (hL.smul (F.el (rows.getD i []) c))
      rw [F.va_assoc] at h2
      have h3 : F.va (F.vs (F.neg (F.el (rows.getD i []) c)) (F.fn (F.nrm (rows.getD k []) c))) (F.vs (F.el (rows.getD i []) c) (F.fn (F.nrm (rows.getD k []) c))) = F.vz := funext fun j => by
        show F.add (F.mul (F.neg _) _) (F.mul _ _) = F.z
        rw [F.neg_mul, F.neg_add]
      rw [h3, F.va_z] at h2
      exact h2
theorem red_span {K : Type} {F : Fld K} {n : Nat} : ∀ (m c r : Nat) (rows : List (List K)), Wid n rows → ∀ v, Sp F (F.fns (F.red m c r rows).1) v ↔ Sp F (F.fns rows) v
  | 0, _, _, _, _, _ => Iff.rfl
  | m + 1, c, r, rows, hw, v => by
    rw [Ops.red]
    split
    · rename_i hf
      obtain ⟨hrk, hx⟩ := fnd_some F.toOps hf
      have hx' : F.el (rows.getD (F.fnd rows r c) []) c ≠ F.z := fun e => by rw [(F.isz_iff _).2 e] at hx; cases hx
      have hr := Nat.lt_of_le_of_lt hrk hf
      rw [red_span m (c + 1) (r + 1) _ (hw.piv (O := F.toOps) (c := c) hr hf) v]
      exact piv_span hw hr hf hx' v
    · exact red_span m (c + 1) r rows hw v
/-- What the pivots tell: a vector of the span is the combination of the first rows by what it has at the pivots, and one of the rest. -/
theorem Ech.rep {K : Type} {F : Fld K} {rows : List (List K)} {r c : Nat} {P : List Nat} (h : Ech F rows r c P) {v : Nat → K} (hv : Sp F (F.fns rows) v) : ∃ u, Sp F (F.fns (rows.drop r)) u ∧ ∀ j, v j = F.add (sumP F ((F.fns (rows.take r)).zip P) v j) (u j) := by
  have hpl := h.pl
  have hr := h.hr
  have hzat : ∀ (i : Nat) (q : (Nat → K) × Nat), ((F.fns (rows.take r)).zip P)[i]? = some q → P[i]? = some q.2 ∧ ∃ u, rows[i]? = some u ∧ i < r ∧ q.1 = F.fn u := fun i q hq => by
    rw [List.getElem?_zip_eq_some] at hq
    obtain ⟨h1, h2⟩ := hq
    unfold Ops.fns at h1
    rw [List.getElem?_map, List.getElem?_take] at h1
    split at h1
    · rename_i hi
      cases hu : rows[i]? with
      | none => rw [hu] at h1; cases h1
      | some u => rw [hu] at h1; injection h1 with h1; exact ⟨h2, u, rfl, hi, h1.symm⟩
    · cases h1
  refine hv (fun v => ∃ u, Sp F (F.fns (rows.drop r)) u ∧ ∀ j, v j = F.add (sumP F ((F.fns (rows.take r)).zip P) v j) (u j)) ?_ ?_
  · exact ⟨F.vz, Sp.zero F _, fun j => by rw [sumP_zero F j F.vz _ (fun q _ => .inl rfl)]; show F.z = F.add F.z F.z; rw [F.z_add]⟩
  · rintro x ⟨u, hu, hx⟩ q hq d
    obtain ⟨y, hy, rfl⟩ := List.mem_map.1 hq
    obtain ⟨i, hi⟩ := List.getElem?_of_mem hy
    by_cases hir : i < r
    · refine ⟨u, hu, fun j => ?_⟩
      rw [sumP_step]
      obtain ⟨p, hp⟩ : ∃ p, P[i]? = some p := ⟨_, List.getElem?_eq_getElem (by omega)⟩
      have hz : ((F.fns (rows.take r)).zip P)[i]? = some (F.fn y, p) := by
        rw [List.getElem?_zip_eq_some]
        refine ⟨?_, hp⟩
        unfold Ops.fns
        rw [List.getElem?_map, List.getElem?_take, if_pos hir, hi]; rfl
      rw [sumP_one F (F.fn y) _ i p hz (h.one i p y hp hi) (fun i' q' hq' hne => (by
        obtain ⟨h1, _⟩ := hzat i' q' hq'
        exact h.zer i' i q'.2 y h1 hi (fun e => hne e.symm))) j]
      show F.add (x j) (F.mul d (F.fn y j)) = _
      rw [F.add_assoc, F.add_comm (F.mul d _) (u j), ← F.add_assoc, ← hx j]
    · refine ⟨F.va u (F.vs d (F.fn y)), hu.step (List.mem_map.2 ⟨y, List.mem_iff_getElem?.2 ⟨i - r, by rw [List.getElem?_drop, show r + (i - r) = i by omega]; exact hi⟩, rfl⟩) d, fun j => ?_⟩
      rw [sumP_step, sumP_zero F j (F.fn y) _ (fun q' hq' => ?_), F.mul_z, F.add_z]
      · show F.add (x j) (F.mul d (F.fn y j)) = F.add _ (F.add (u j) (F.mul d (F.fn y j)))
        rw [← F.add_assoc, ← hx j]
      · obtain ⟨i', hi'⟩ := List.getElem?_of_mem hq'
        obtain ⟨h1, _, _, hlt, _⟩ := hzat i' q' hi'
        exact .inl (h.zer i' i q'.2 y h1 hi (by omega))
end Go.Proofs.YtmekhjnhcgmphaaDoor
