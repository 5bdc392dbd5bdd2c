/- Fractions in lowest terms are a field. Plain lemmas of mine. Contracts: products, sums, negatives and inverses of fractions of any degrees, on both sides. Printed by a program of mine out of Frac9 and Frac10. Owned memory as a set of blocks: what turns only such blocks; ints owned in such blocks. Plain lemmas of mine. Rational rows: the program's small steps on fractions. -/
import Derived.Test.YtmekhjnhcgmphaaDoorAp09
import Derived.Test.YtmekhjnhcgmphaaDoorAp10
import Derived.RegionCalls
import Derived.Deep.RegionWith
import Derived.Deep.RegionHeld3
namespace Go.Proofs.YtmekhjnhcgmphaaDoor
set_option maxRecDepth 100000
/-- A fraction in lowest terms, of any degrees. -/
structure FV (p : Int) (x : Fra) : Prop where
  f : fieldB p = true
  n : PN p x.n
  d : PN p x.d
  d0 : x.d ≠ []
  mo : cf x.d (x.d.length - 1) = 1
  g : (gcdM p x.n x.d).length = 1
theorem FV.pos {p : Int} {x : Fra} (h : FV p x) : 0 < p := by have := fieldB_lo h.f; omega
def lowF (p : Int) (N D : List Int) : Fra := ⟨lowN p N D, lowD p N D⟩
theorem FV.low {p : Int} (hF : fieldB p = true) {N D : List Int} (hN : PN p N) (hD : PN p D) (h0 : D ≠ []) : FV p (lowF p N D) := by
  obtain ⟨h1, h2, h3, h4, h5, _, _, h6⟩ := low_parts hF hN.e hD.e hN.t hD.t h0
  exact ⟨hF, ⟨h1, h3⟩, ⟨h2, h4⟩, h5, h6, low_gcd hF hN.e hD.e hN.t hD.t h0⟩
theorem pscale_mul {p : Int} (hp : 0 < p) (b : Int) (f g : List Int) : pMul p (pScale p b f) g = pScale p b (pMul p f g) := by
  refine PN.eq hp (PN.mul hp _ _) (PN.scale hp _ _) ?_
  rw [pmul_comm hp]
  refine (pMul_cong hp g _).trans (((pscale_cong hp b f).act g).trans ?_)
  rw [act_mul]
  refine Cong.trans ?_ (pscale_cong hp b _).symm
  refine Cong.mul _ ?_
  rw [← act_cf_comm]
  exact (pMul_cong hp f g).symm
/-- The lowest terms' cross product. -/
theorem low_cross {p : Int} (hF : fieldB p = true) {N D : List Int} (hN : PN p N) (hD : PN p D) (h0 : D ≠ []) : pMul p (lowN p N D) D = pMul p N (lowD p N D) := by
  have hp : 0 < p := by have := fieldB_lo hF; omega
  by_cases hn : N = []
  · rw [lowN, lowD, if_pos hn, if_pos hn, hn, pnil_mul, pnil_mul]
  · have hg0 := gcdM_ne hF hN.e hD.e hN.t hD.t (.inr h0)
    have hge := gcdM_el (p := p) hp N D
    have hgt := gcdM_tr p N D
    have hdiv := gcdM_div hF hN.e hD.e hN.t hD.t (.inr h0)
    have e1 : N = pMul p (pDivQ p N (gcdM p N D)) (gcdM p N D) := PN.eq hp hN (PN.mul hp _ _) ((quot_cong hF hN.e hge hgt hg0 hdiv.1).trans (pMul_cong hp _ _).symm)
    have e2 : D = pMul p (lowM p N D) (gcdM p N D) := PN.eq hp hD (PN.mul hp _ _) ((quot_cong hF hD.e hge hgt hg0 hdiv.2).trans (pMul_cong hp _ _).symm)
    have eN : lowN p N D = pScale p (lowBy p N D) (pDivQ p N (gcdM p N D)) := by rw [lowN, if_neg hn]
    have eD : lowD p N D = pScale p (lowBy p N D) (lowM p N D) := by rw [lowD, if_neg hn]
    rw [eN, eD, pscale_mul hp, pmul_comm hp N, pscale_mul hp]
    congr 1
    generalize lowM p N D = u at *
    generalize pDivQ p N (gcdM p N D) = v at *
    generalize gcdM p N D = g at *
    rw [e1, e2, pmul_comm hp v g, ← pmul_assoc hp u g v, pmul_comm hp v]
/-- x stands for N / D. -/
def Eqv (p : Int) (x : Fra) (N D : List Int) : Prop := pMul p x.n D = pMul p N x.d
theorem Eqv.self (p : Int) (x : Fra) : Eqv p x x.n x.d := rfl
theorem Eqv.low {p : Int} (hF : fieldB p = true) {N D : List Int} (hN : PN p N) (hD : PN p D) (h0 : D ≠ []) : Eqv p (lowF p N D) N D := low_cross hF hN hD h0
theorem cross_eq {p : Int} {x y : Fra} (hx : FV p x) (hy : FV p y) (h : pMul p x.n y.d = pMul p y.n x.d) : x = y := by
  have hp := hx.pos
  have h1 : InId p x.d (cf y.d) := coprime_div hx.f hx.n hx.d hx.d0 hx.g (by rw [h]; exact ⟨y.n, pMul_cong hp _ _⟩)
  have h2 : InId p y.d (cf x.d) := coprime_div hx.f hy.n hy.d hy.d0 hy.g (by rw [← h]; exact ⟨x.n, pMul_cong hp _ _⟩)
  have hd : x.d = y.d := InId.monic hx.f hx.d.e hx.d.t hx.d0 hy.d.e hy.d.t hy.d0 h1 h2 hx.mo hy.mo
  have hn : x.n = y.n := by
    refine pmul_cancel hx.f hx.d hx.n hy.n hx.d0 ?_
    rw [pmul_comm hp x.d, pmul_comm hp x.d, ← h, hd]
  obtain ⟨xn, xd⟩ := x
  obtain ⟨yn, yd⟩ := y
  simp only at hn hd
  rw [hn, hd]
theorem Eqv.uniq {p : Int} {x y : Fra} (hx : FV p x) (hy : FV p y) {N D : List Int} (hD : PN p D) (h0 : D ≠ []) (h : Eqv p x N D) (k : Eqv p y N D) : x = y := by
  have hp := hx.pos
  refine cross_eq hx hy (pmul_cancel hx.f hD (PN.mul hp _ _) (PN.mul hp _ _) h0 ?_)
  unfold Eqv at h k
  have a1 : pMul p D (pMul p x.n y.d) = pMul p (pMul p x.n D) y.d := by
    rw [← pmul_assoc hp, pmul_comm hp D]
  have a2 : pMul p D (pMul p y.n x.d) = pMul p (pMul p y.n D) x.d := by
    rw [← pmul_assoc hp, pmul_comm hp D]
  rw [a1, a2, h, k, pmul_assoc hp, pmul_assoc hp, pmul_comm hp x.d]
theorem Eqv.change {p : Int} {x : Fra} (hx : FV p x) {N D N' D' : List Int} (hD : PN p D) (h0 : D ≠ []) (h : Eqv p x N D) (e : pMul p N D' = pMul p N' D) : Eqv p x N' D' := by
  have hp := hx.pos
  refine pmul_cancel hx.f hD (PN.mul hp _ _) (PN.mul hp _ _) h0 ?_
  unfold Eqv at h
  have a1 : pMul p D (pMul p x.n D') = pMul p (pMul p x.n D) D' := by rw [← pmul_assoc hp, pmul_comm hp D]
  have a2 : pMul p D (pMul p N' x.d) = pMul p (pMul p N' D) x.d := by rw [← pmul_assoc hp, pmul_comm hp D]
  rw [a1, a2, h, ← e, pmul_assoc hp, pmul_assoc hp, pmul_comm hp x.d]
def addF (p : Int) (x y : Fra) : Fra := lowF p (pAdd p (pMul p x.n y.d) 1 (pMul p y.n x.d)) (pMul p x.d y.d)
def mulF (p : Int) (x y : Fra) : Fra := lowF p (pMul p x.n y.n) (pMul p x.d y.d)
def negF (p : Int) (x : Fra) : Fra := ⟨pNeg p x.n, x.d⟩
def invF (p : Int) (x : Fra) : Fra := lowF p x.d x.n
def zF : Fra := ⟨[], [1]⟩
def oF : Fra := ⟨[1], [1]⟩
def iszF (x : Fra) : Bool := x.n.isEmpty
theorem iszF_iff {x : Fra} : iszF x = true ↔ x.n = [] := List.isEmpty_iff
theorem FV.add {p : Int} {x y : Fra} (hx : FV p x) (hy : FV p y) : FV p (addF p x y) :=
  FV.low hx.f ((PN.mul hx.pos _ _).add hx.pos _ _) (PN.mul hx.pos _ _) (pmul_ne hx.f hx.d hy.d hx.d0 hy.d0)
theorem FV.mul {p : Int} {x y : Fra} (hx : FV p x) (hy : FV p y) : FV p (mulF p x y) :=
  FV.low hx.f (PN.mul hx.pos _ _) (PN.mul hx.pos _ _) (pmul_ne hx.f hx.d hy.d hx.d0 hy.d0)
theorem FV.inv {p : Int} {x : Fra} (hx : FV p x) (h0 : x.n ≠ []) : FV p (invF p x) := FV.low hx.f hx.d hx.n h0
theorem FV.one_den {p : Int} (hF : fieldB p = true) {n : List Int} (hn : PN p n) : FV p ⟨n, [1]⟩ := by
  have h2 := fieldB_lo hF
  have h1 := PN.one (p := p) h2
  have hl := gcdM_len hF hn.e h1.e hn.t h1.t (.inr (by simp))
  have hd := gcdM_div hF hn.e h1.e hn.t h1.t (.inr (by simp))
  have hg0 := gcdM_ne hF hn.e h1.e hn.t h1.t (.inr (by simp))
  refine ⟨hF, hn, h1, by simp, rfl, ?_⟩
  obtain ⟨q, _, _, hq0, _, hle⟩ := InId.le hF (gcdM_el (p := p) (by omega) n [1]) (gcdM_tr p n [1]) hg0 h1.e h1.t (by simp) hd.2
  have l1 := List.length_pos_iff.2 hq0
  have l2 := List.length_pos_iff.2 hg0
  simp at hle
  show (gcdM p n [1]).length = 1
  omega
theorem FV.zero {p : Int} (hF : fieldB p = true) : FV p zF := FV.one_den hF (PN.nil p)
theorem FV.one {p : Int} (hF : fieldB p = true) : FV p oF := FV.one_den hF (PN.one (fieldB_lo hF))
theorem Eqv.add {p : Int} {x y : Fra} (hx : FV p x) (hy : FV p y) {N D M E : List Int} (_ : PN p N) (_ : PN p M) (h : Eqv p x N D) (k : Eqv p y M E) : Eqv p (addF p x y) (pAdd p (pMul p N E) 1 (pMul p M D)) (pMul p D E) := by
  have hp := hx.pos
  have hd := pmul_ne hx.f hx.d hy.d hx.d0 hy.d0
  have hl := Eqv.low hx.f ((PN.mul hp x.n y.d).add hp 1 (pMul p y.n x.d)) (PN.mul hp x.d y.d) hd
  refine Eqv.change (hx.add hy) (PN.mul hp _ _) hd hl ?_
  unfold Eqv at h k
  rw [padd_mul hp _ (PN.mul hp _ _), padd_mul hp _ (PN.mul hp _ _)]
  have ha : Std.Associative (pMul p) := ⟨pmul_assoc hp⟩
  have hc : Std.Commutative (pMul p) := ⟨pmul_comm hp⟩
  have e1 : pMul p (pMul p x.n y.d) (pMul p D E) = pMul p (pMul p N E) (pMul p x.d y.d) := by
    have : pMul p (pMul p x.n y.d) (pMul p D E) = pMul p (pMul p x.n D) (pMul p y.d E) := by ac_rfl
    rw [this, h]; ac_rfl
  have e2 : pMul p (pMul p y.n x.d) (pMul p D E) = pMul p (pMul p M D) (pMul p x.d y.d) := by
    have : pMul p (pMul p y.n x.d) (pMul p D E) = pMul p (pMul p y.n E) (pMul p x.d D) := by ac_rfl
    rw [this, k]; ac_rfl
  rw [e1, e2]
theorem Eqv.mul {p : Int} {x y : Fra} (hx : FV p x) (hy : FV p y) {N D M E : List Int} (h : Eqv p x N D) (k : Eqv p y M E) : Eqv p (mulF p x y) (pMul p N M) (pMul p D E) := by
  have hp := hx.pos
  have hd := pmul_ne hx.f hx.d hy.d hx.d0 hy.d0
  have hl := Eqv.low hx.f (PN.mul hp x.n y.n) (PN.mul hp x.d y.d) hd
  refine Eqv.change (hx.mul hy) (PN.mul hp _ _) hd hl ?_
  unfold Eqv at h k
  have ha : Std.Associative (pMul p) := ⟨pmul_assoc hp⟩
  have hc : Std.Commutative (pMul p) := ⟨pmul_comm hp⟩
  have e1 : pMul p (pMul p x.n y.n) (pMul p D E) = pMul p (pMul p x.n D) (pMul p y.n E) := by ac_rfl
  rw [e1, h, k]; ac_rfl
theorem FV.neg {p : Int} {x : Fra} (hx : FV p x) : FV p (negF p x) := by
  have hp := hx.pos
  refine ⟨hx.f, PN.neg hp _, hx.d, hx.d0, hx.mo, ?_⟩
  have hn := PN.neg hp x.n
  have hd := gcdM_div hx.f hn.e hx.d.e hn.t hx.d.t (.inr hx.d0)
  have hg0 := gcdM_ne hx.f hn.e hx.d.e hn.t hx.d.t (.inr hx.d0)
  have hxn : InId p (gcdM p (pNeg p x.n) x.d) (cf x.n) := by
    have hnn : pNeg p (pNeg p x.n) = x.n := by
      refine padd_cancel hp hn (PN.neg hp _) hx.n ?_
      rw [pneg_add hp, padd_comm hp hn (PN.neg hp _), pneg_add hp]
    have := (scale_div hp (p - 1) (pNeg p x.n)).trans hd.1
    have e : pScale p (p - 1) (pNeg p x.n) = x.n := hnn
    rwa [e] at this
  have h1 := gcdM_of hx.f hx.n.e hx.d.e hx.n.t hx.d.t (.inr hx.d0) hxn hd.2
  have hg1 := gcdM_one hx.f hx.n.e hx.d.e hx.n.t hx.d.t hx.d0 hx.g
  rw [hg1] at h1
  have h2 := fieldB_lo hx.f
  obtain ⟨q, _, _, hq0, _, hle⟩ := InId.le hx.f (gcdM_el (p := p) hp _ _) (gcdM_tr p _ _) hg0 (el_one h2) tr_one (by simp) h1
  have l1 := List.length_pos_iff.2 hq0
  have l2 := List.length_pos_iff.2 hg0
  simp at hle
  show (gcdM p (pNeg p x.n) x.d).length = 1
  omega
/-- Fractions are a field. -/
def invSF (p : Int) (x : {x : Fra // FV p x}) : {x : Fra // FV p x} := if h : x.1.n = [] then x else ⟨invF p x.1, x.2.inv h⟩
def frFld (p : Int) (hF : fieldB p = true) : Fld {x : Fra // FV p x} where
  add x y := ⟨addF p x.1 y.1, x.2.add y.2⟩
  mul x y := ⟨mulF p x.1 y.1, x.2.mul y.2⟩
  neg x := ⟨negF p x.1, x.2.neg⟩
  inv x := invSF p x
  z := ⟨zF, FV.zero hF⟩
  o := ⟨oF, FV.one hF⟩
  isz x := iszF x.1
  add_comm x y := Subtype.ext (by
    have hp := x.2.pos
    show lowF p _ _ = lowF p _ _
    rw [padd_comm hp (PN.mul hp _ _) (PN.mul hp _ _), pmul_comm hp x.1.d])
  add_assoc x y z := Subtype.ext (by
    have hp := x.2.pos
    have ha : Std.Associative (pMul p) := ⟨pmul_assoc hp⟩
    have hc : Std.Commutative (pMul p) := ⟨pmul_comm hp⟩
    have hxy := Eqv.add x.2 y.2 x.2.n y.2.n (Eqv.self p _) (Eqv.self p _)
    have hyz := Eqv.add y.2 z.2 y.2.n z.2.n (Eqv.self p _) (Eqv.self p _)
    have h1 := Eqv.add (x.2.add y.2) z.2 ((PN.mul hp _ _).add hp 1 _) z.2.n hxy (Eqv.self p z.1)
    have h2 := Eqv.add x.2 (y.2.add z.2) x.2.n ((PN.mul hp _ _).add hp 1 _) (Eqv.self p x.1) hyz
    refine Eqv.uniq ((x.2.add y.2).add z.2) (x.2.add (y.2.add z.2)) (PN.mul hp _ _) (pmul_ne x.2.f (PN.mul hp _ _) z.2.d (pmul_ne x.2.f x.2.d y.2.d x.2.d0 y.2.d0) z.2.d0) h1 ?_
    have e1 : pMul p x.1.d (pMul p y.1.d z.1.d) = pMul p (pMul p x.1.d y.1.d) z.1.d := (pmul_assoc hp _ _ _).symm
    rw [e1] at h2
    rw [padd_mul hp _ (PN.mul hp _ _)]
    rw [padd_mul hp _ (PN.mul hp _ _), ← padd_assoc hp (PN.mul hp _ _) (PN.mul hp _ _)] at h2
    have e2 : pMul p x.1.n (pMul p y.1.d z.1.d) = pMul p (pMul p x.1.n y.1.d) z.1.d := by ac_rfl
    have e3 : pMul p (pMul p y.1.n z.1.d) x.1.d = pMul p (pMul p y.1.n x.1.d) z.1.d := by ac_rfl
    have e4 : pMul p (pMul p z.1.n y.1.d) x.1.d = pMul p z.1.n (pMul p x.1.d y.1.d) := by ac_rfl
    rw [e2, e3, e4] at h2
    exact h2)
  z_add x := Subtype.ext (by
    have hp := x.2.pos
    have h2 := fieldB_lo hF
    have h1 := Eqv.add (FV.zero hF) x.2 (PN.nil p) x.2.n (Eqv.self p zF) (Eqv.self p x.1)
    refine Eqv.uniq ((FV.zero hF).add x.2) x.2 x.2.d x.2.d0 ?_ (Eqv.self p x.1)
    rw [pnil_mul, padd_comm hp (PN.nil p) (PN.mul hp _ _), padd_nil hp (PN.mul hp _ _)] at h1
    have e1 : pMul p x.1.n zF.d = x.1.n := pmul_one h2 x.2.n
    have e2 : pMul p zF.d x.1.d = x.1.d := by rw [pmul_comm hp]; exact pmul_one h2 x.2.d
    rw [e1, e2] at h1
    exact h1)
  neg_add x := Subtype.ext (by
    have hp := x.2.pos
    have h1 := Eqv.add x.2.neg x.2 (PN.neg hp _) x.2.n (Eqv.self p _) (Eqv.self p x.1)
    have hd := pmul_ne hF x.2.d x.2.d x.2.d0 x.2.d0
    refine Eqv.uniq (x.2.neg.add x.2) (FV.zero hF) (PN.mul hp x.1.d x.1.d) hd h1 ?_
    have e : pAdd p (pMul p (pNeg p x.1.n) x.1.d) 1 (pMul p x.1.n (negF p x.1).d) = [] := by
      show pAdd p (pMul p (pNeg p x.1.n) x.1.d) 1 (pMul p x.1.n x.1.d) = []
      rw [pneg_mul hp, pneg_add hp]
    show pMul p [] _ = pMul p _ [1]
    rw [e, pnil_mul, pnil_mul])
  mul_comm x y := Subtype.ext (by
    have hp := x.2.pos
    show lowF p _ _ = lowF p _ _
    rw [pmul_comm hp x.1.n, pmul_comm hp x.1.d])
  mul_assoc x y z := Subtype.ext (by
    have hp := x.2.pos
    have h1 := Eqv.mul (x.2.mul y.2) z.2 (Eqv.mul x.2 y.2 (Eqv.self p _) (Eqv.self p _)) (Eqv.self p z.1)
    have h2 := Eqv.mul x.2 (y.2.mul z.2) (Eqv.self p x.1) (Eqv.mul y.2 z.2 (Eqv.self p _) (Eqv.self p _))
    rw [← pmul_assoc hp, ← pmul_assoc hp] at h2
    exact Eqv.uniq ((x.2.mul y.2).mul z.2) (x.2.mul (y.2.mul z.2)) (PN.mul hp _ _) (pmul_ne x.2.f (PN.mul hp _ _) z.2.d (pmul_ne x.2.f x.2.d y.2.d x.2.d0 y.2.d0) z.2.d0) h1 h2)
  o_mul x := Subtype.ext (by
    have hp := x.2.pos
    have h2 := fieldB_lo hF
    have h1 := Eqv.mul (FV.one hF) x.2 (Eqv.self p oF) (Eqv.self p x.1)
    have e1 : pMul p oF.n x.1.n = x.1.n := by rw [pmul_comm hp]; exact pmul_one h2 x.2.n
    have e2 : pMul p oF.d x.1.d = x.1.d := by rw [pmul_comm hp]; exact pmul_one h2 x.2.d
    rw [e1, e2] at h1
    exact Eqv.uniq ((FV.one hF).mul x.2) x.2 x.2.d x.2.d0 h1 (Eqv.self p x.1))
  distrib x y z := Subtype.ext (by
    have hp := x.2.pos
    have ha : Std.Associative (pMul p) := ⟨pmul_assoc hp⟩
    have hc : Std.Commutative (pMul p) := ⟨pmul_comm hp⟩
    have h1 := Eqv.mul x.2 (y.2.add z.2) (Eqv.self p x.1) (Eqv.add y.2 z.2 y.2.n z.2.n (Eqv.self p _) (Eqv.self p _))
    have h2 := Eqv.add (x.2.mul y.2) (x.2.mul z.2) (PN.mul hp _ _) (PN.mul hp _ _) (Eqv.mul x.2 y.2 (Eqv.self p _) (Eqv.self p _)) (Eqv.mul x.2 z.2 (Eqv.self p _) (Eqv.self p _))
    have d1 := pmul_ne x.2.f x.2.d (PN.mul hp y.1.d z.1.d) x.2.d0 (pmul_ne x.2.f y.2.d z.2.d y.2.d0 z.2.d0)
    have d2 := pmul_ne x.2.f (PN.mul hp x.1.d y.1.d) (PN.mul hp x.1.d z.1.d) (pmul_ne x.2.f x.2.d y.2.d x.2.d0 y.2.d0) (pmul_ne x.2.f x.2.d z.2.d x.2.d0 z.2.d0)
    refine Eqv.uniq (x.2.mul (y.2.add z.2)) ((x.2.mul y.2).add (x.2.mul z.2)) (PN.mul hp _ _) d2 (Eqv.change (x.2.mul (y.2.add z.2)) (PN.mul hp _ _) d1 h1 ?_) h2
    rw [pmul_add hp _ (PN.mul hp _ _), padd_mul hp _ (PN.mul hp _ _), padd_mul hp _ (PN.mul hp _ _)]
    have e1 : pMul p (pMul p x.1.n (pMul p y.1.n z.1.d)) (pMul p (pMul p x.1.d y.1.d) (pMul p x.1.d z.1.d)) = pMul p (pMul p (pMul p x.1.n y.1.n) (pMul p x.1.d z.1.d)) (pMul p x.1.d (pMul p y.1.d z.1.d)) := by ac_rfl
    have e2 : pMul p (pMul p x.1.n (pMul p z.1.n y.1.d)) (pMul p (pMul p x.1.d y.1.d) (pMul p x.1.d z.1.d)) = pMul p (pMul p (pMul p x.1.n z.1.n) (pMul p x.1.d y.1.d)) (pMul p x.1.d (pMul p y.1.d z.1.d)) := by ac_rfl
    rw [e1, e2])
  inv_mul x hx := Subtype.ext (by
    have hp := x.2.pos
    have hn : x.1.n ≠ [] := fun e => hx (Subtype.ext (cross_eq x.2 (FV.zero hF) (by rw [e, pnil_mul]; exact (pnil_mul p _).symm)))
    have hi : invSF p x = ⟨invF p x.1, x.2.inv hn⟩ := by rw [invSF, dif_neg hn]
    rw [hi]
    have h1 := Eqv.mul (x.2.inv hn) x.2 (Eqv.low hF x.2.d x.2.n hn) (Eqv.self p x.1)
    have hd := pmul_ne hF x.2.n x.2.d hn x.2.d0
    refine Eqv.uniq ((x.2.inv hn).mul x.2) (FV.one hF) (PN.mul hp _ _) hd h1 ?_
    show pMul p [1] _ = pMul p _ [1]
    rw [pmul_comm hp [1], pmul_comm hp x.1.d])
  o_ne e := by
    have := congrArg (fun x => x.1.n) e
    simp [oF, zF] at this
  isz_iff x := by
    rw [iszF_iff]
    constructor
    · intro e
      exact Subtype.ext (cross_eq x.2 (FV.zero hF) (by rw [e, pnil_mul]; exact (pnil_mul p _).symm))
    · intro e; rw [e]; rfl
/-- The program's operations on fractions. -/
def frOps (p : Int) : Ops Fra := ⟨addF p, mulF p, negF p, invF p, zF, oF, iszF⟩
theorem frHom (p : Int) (hF : fieldB p = true) : Hom (frFld p hF).toOps (frOps p) Subtype.val where
  add _ _ := rfl
  mul _ _ := rfl
  neg _ := rfl
  inv x hx := by
    have hn : x.1.n ≠ [] := fun e => by
      have : iszF x.1 = true := iszF_iff.2 e
      have h2 : iszF x.1 = false := hx
      rw [this] at h2; cases h2
    show invF p x.1 = (invSF p x).1
    rw [invSF, dif_neg hn]
  z := rfl
  o := rfl
  isz _ := rfl
end Go.Proofs.YtmekhjnhcgmphaaDoor
namespace Go.Proofs.YtmekhjnhcgmphaaDoor
set_option maxRecDepth 100000
open Go Go.RowKit
/-- What is known of a fraction; its degrees are below a great bound. -/
structure FrOKB (p : Int) (n m : List Int) : Prop where
  f : fieldB p = true
  ne : allEl p n = true
  me : allEl p m = true
  nt : Tr n
  mt : Tr m
  nl : n.length ≤ 274877906944
  ml : m.length ≤ 274877906944
  m0 : m ≠ []
end Go.Proofs.YtmekhjnhcgmphaaDoor
namespace Go.Proofs.YtmekhjnhcgmphaaDoor
set_option maxRecDepth 100000
open Go Go.RowKit
/-- Of the old memory at most the blocks of S have turned. -/
structure ExS (S : Nat → Prop) (w w' : World) : Prop where
  os : w'.os = w.os
  tape : w'.tape = w.tape
  output : w'.output = w.output
  size : w.heap.size ≤ w'.heap.size
  block : ∀ k, k < w.heap.size → ¬ S k → w'.heap[k]? = w.heap[k]?
theorem ExS.refl (S : Nat → Prop) (w : World) : ExS S w w := ⟨rfl, rfl, rfl, Nat.le_refl _, fun _ _ _ => rfl⟩
/-- One behind the other; the second may turn what the first has made. -/
theorem ExS.trans {S T : Nat → Prop} {u v w : World} (h : ExS S u v) (k : ExS T v w) (hT : ∀ i, i < u.heap.size → T i → S i) : ExS S u w :=
  ⟨k.os.trans h.os, k.tape.trans h.tape, k.output.trans h.output, Nat.le_trans h.size k.size, fun i hi hn => (k.block i (Nat.lt_of_lt_of_le hi h.size) (fun ht => hn (hT i hi ht))).trans (h.block i hi hn)⟩
theorem ExS.of_ex {S : Nat → Prop} {v w : World} (h : Ex v w) : ExS S v w := ⟨h.os, h.tape, h.output, h.size, fun _ hi _ => h.block hi⟩
theorem ExS.widen {S T : Nat → Prop} {v w : World} (h : ExS S v w) (hT : ∀ i, i < v.heap.size → S i → T i) : ExS T v w := ⟨h.os, h.tape, h.output, h.size, fun k hk ho => h.block k hk fun hs => ho (hT k hk hs)⟩
theorem ExS.of_ex1 {S : Nat → Prop} {g : Nat} {v w : World} (h : Ex1 g v w) (hg : S g) : ExS S v w := ⟨h.os, h.tape, h.output, h.size, fun k hk hn => h.block k hk (by intro e; injection e with e; subst e; exact hn hg)⟩
theorem ExS.of_exo {S : Nat → Prop} {o : Option Nat} {v w : World} (h : ExO o v w) (hg : ∀ g, o = some g → S g) : ExS S v w := ⟨h.os, h.tape, h.output, h.size, fun k hk hn => h.block k hk (fun e => hn (hg k e.symm))⟩
theorem ExS.exi {S : Nat → Prop} {a b : Nat} {v w : World} (h : ExS S v w) (hS : ∀ k, S k → a ≤ k ∧ k < b) : ExI a b v w := ⟨h.os, h.tape, h.output, h.size, fun k hk hn => h.block k hk fun hs => by have := hS k hs; omega⟩
theorem ExS.of_exi {a b : Nat} {v w : World} (h : ExI a b v w) : ExS (fun k => a ≤ k ∧ k < b) v w := ⟨h.os, h.tape, h.output, h.size, fun k hk hn => h.block k hk (by omega)⟩
theorem Ex.sx {b v w : World} {S : Nat → Prop} (h : Ex b v) (k : ExS S v w) (hS : ∀ i, S i → b.heap.size ≤ i) : Ex b w :=
  ⟨k.os.trans h.os, k.tape.trans h.tape, k.output.trans h.output, Nat.le_trans h.size k.size, fun i hi => (k.block i (Nat.lt_of_lt_of_le hi h.size) (fun hs => by have := hS i hs; omega)).trans (h.block hi)⟩
/-- Ints owned in the blocks of S. -/
def XI (w : World) (S : Nat → Prop) (v : Value) (xs : List Int) : Prop := ∃ A c, v = .slice A xs.length c ∧ Fr w 0 A c xs ∧ ∀ a, A = some a → S a.block
theorem XI.rd {w : World} {S : Nat → Prop} {v : Value} {xs : List Int} (h : XI w S v xs) : RI w v xs := by
  obtain ⟨A, c, e, f, _⟩ := h
  exact ⟨A, c, e, f.rd⟩
theorem XI.keep {w w' : World} {S : Nat → Prop} {v : Value} {xs : List Int} (h : XI w S v xs) (hk : ∀ k, S k → k < w.heap.size → w'.heap[k]? = w.heap[k]?) : XI w' S v xs := by
  obtain ⟨A, c, e, f, hs⟩ := h
  have hk' : ∀ ad : Addr, A = some ad → ad.block < w.heap.size → w'.heap[ad.block]? = w.heap[ad.block]? := fun ad e hl => hk _ (hs ad e) hl
  exact ⟨A, c, e, ⟨f.rd.keep hk', f.cap, fun ad e => by
    obtain ⟨h1, cur, h2⟩ := f.2.2 ad e
    exact ⟨h1, cur, (hk' ad e (heap_lt_of h2)).trans h2⟩⟩, hs⟩
theorem XI.mono {w : World} {S T : Nat → Prop} {v : Value} {xs : List Int} (h : XI w S v xs) (hT : ∀ k, k < w.heap.size → S k → T k) : XI w T v xs := by
  obtain ⟨A, c, e, f, hs⟩ := h
  exact ⟨A, c, e, f, fun a ha => by
    obtain ⟨_, cur, h2⟩ := f.2.2 a ha
    exact hT _ (heap_lt_of h2) (hs a ha)⟩
theorem OI.xi {w : World} {a b : Nat} {v : Value} {xs : List Int} (h : OI w a b v xs) : XI w (fun k => a ≤ k ∧ k < b) v xs := by
  obtain ⟨A, c, e, f⟩ := h
  exact ⟨A, c, e, f.fr.more (Nat.zero_le _), fun ad e => ⟨f.fr.hi ad e, f.lo ad e⟩⟩
end Go.Proofs.YtmekhjnhcgmphaaDoor
namespace Go.Proofs.YtmekhjnhcgmphaaDoor
set_option maxRecDepth 100000
open Go Go.RowKit
theorem lowF_len {p : Int} (hF : fieldB p = true) {N D : List Int} (hN : PN p N) (hD : PN p D) (h0 : D ≠ []) : (lowF p N D).n.length ≤ N.length ∧ (lowF p N D).d.length ≤ D.length := by
  obtain ⟨_, _, _, _, _, h1, h2, _⟩ := low_parts hF hN.e hD.e hN.t hD.t h0
  exact ⟨h1, h2⟩
/-- Numerator and denominator have at most L coefficients. -/
def FL (L : Nat) (x : Fra) : Prop := x.n.length ≤ L ∧ x.d.length ≤ L
theorem FL.mono {L M : Nat} {x : Fra} (h : FL L x) (hm : L ≤ M) : FL M x := ⟨Nat.le_trans h.1 hm, Nat.le_trans h.2 hm⟩
theorem pmul_le {p : Int} (hF : fieldB p = true) {f g : List Int} (hf : PN p f) (hg : PN p g) : (pMul p f g).length ≤ f.length + g.length := by
  by_cases h1 : f = []
  · rw [h1, pnil_mul]; simp
  by_cases h2 : g = []
  · rw [h2, pmul_nil]; simp
  rw [pMul_len hF hf.e hg.e hf.t hg.t h1 h2]; omega
theorem padd_le (p : Int) (f : List Int) (b : Int) (g : List Int) : (pAdd p f b g).length ≤ max f.length g.length := by
  refine Nat.le_trans (trim_le _) ?_
  rw [addAt_len, padTo_len (by omega)]
  omega
theorem FL.mul {p : Int} {x y : Fra} (hx : FV p x) (hy : FV p y) {L M : Nat} (h : FL L x) (k : FL M y) : FL (L + M) (mulF p x y) := by
  have hp := hx.pos
  obtain ⟨h1, h2⟩ := lowF_len hx.f (PN.mul hp x.n y.n) (PN.mul hp x.d y.d) (pmul_ne hx.f hx.d hy.d hx.d0 hy.d0)
  have a1 := pmul_le hx.f hx.n hy.n
  have a2 := pmul_le hx.f hx.d hy.d
  obtain ⟨q1, q2⟩ := h
  obtain ⟨q3, q4⟩ := k
  exact ⟨by show (lowF p _ _).n.length ≤ _; omega, by show (lowF p _ _).d.length ≤ _; omega⟩
theorem FL.add {p : Int} {x y : Fra} (hx : FV p x) (hy : FV p y) {L M : Nat} (h : FL L x) (k : FL M y) : FL (L + M) (addF p x y) := by
  have hp := hx.pos
  obtain ⟨h1, h2⟩ := lowF_len hx.f ((PN.mul hp x.n y.d).add hp 1 (pMul p y.n x.d)) (PN.mul hp x.d y.d) (pmul_ne hx.f hx.d hy.d hx.d0 hy.d0)
  have a1 := pmul_le hx.f hx.n hy.d
  have a2 := pmul_le hx.f hy.n hx.d
  have a3 := pmul_le hx.f hx.d hy.d
  have a4 := padd_le p (pMul p x.n y.d) 1 (pMul p y.n x.d)
  obtain ⟨q1, q2⟩ := h
  obtain ⟨q3, q4⟩ := k
  exact ⟨by show (lowF p _ _).n.length ≤ _; omega, by show (lowF p _ _).d.length ≤ _; omega⟩
theorem FL.inv {p : Int} {x : Fra} (hx : FV p x) (h0 : x.n ≠ []) {L : Nat} (h : FL L x) : FL L (invF p x) := by
  obtain ⟨h1, h2⟩ := lowF_len hx.f hx.d hx.n h0
  exact ⟨Nat.le_trans h1 h.2, Nat.le_trans h2 h.1⟩
theorem FL.neg {p : Int} {x : Fra} {L : Nat} (h : FL L x) : FL L (negF p x) := by
  refine ⟨?_, h.2⟩
  have := padd_le p [] (p - 1) x.n
  have h1 := h.1
  show (pAdd p [] (p - 1) x.n).length ≤ L
  simp at this
  omega
/-- A fresh fraction. -/
def FFx (w : World) (x : Fra) (e : Ending) (w' : World) : Prop := FF w x.n x.d e w'
set_option maxHeartbeats 1000000 in
theorem constK_c (a : Int) (ha : a ≠ 0) (w : World) : Calls Tryd.prog 82 #[.int .i64 a] w fun e w' => ∃ A c B d, e = .returned (.agg #[.slice A 1 c, .slice B 1 d]) ∧ Fr w' w.heap.size A c [a] ∧ Fr w' w.heap.size B d [1] ∧ Apart A B ∧ Ex w w' := by
  have hb : (a == 0) = false := by simpa using ha
  go_enter Tryd.func82, Tryd.ntmps82
  go_wp2_with fail
  have x1 := (Ex.refl w).alloc (.cells #[.slice (some ⟨w.heap.size + 1, 0, none⟩) 1 1, .slice (some ⟨w.heap.size + 1 + 1, 0, none⟩) 1 1] 40)
  have v1 := VB.new w 40 #[.slice (some ⟨w.heap.size + 1, 0, none⟩) 1 1, .slice (some ⟨w.heap.size + 1 + 1, 0, none⟩) 1 1]
  have s1 : (w.alloc (.cells #[.slice (some ⟨w.heap.size + 1, 0, none⟩) 1 1, .slice (some ⟨w.heap.size + 1 + 1, 0, none⟩) 1 1] 40)).heap.size = w.heap.size + 1 := by simp
  generalize w.alloc (.cells #[.slice (some ⟨w.heap.size + 1, 0, none⟩) 1 1, .slice (some ⟨w.heap.size + 1 + 1, 0, none⟩) 1 1] 40) = W1 at *
  have x2 := ((Ex.refl W1).alloc (iObj [a])).alloc (iObj [1])
  have o1 := (Own.new W1 [a]).ex ((Ex.refl (W1.alloc (iObj [a]))).alloc (iObj [1]))
  have o2 := Own.new (W1.alloc (iObj [a])) [1]
  have s2 : (W1.alloc (iObj [a])).heap.size = w.heap.size + 1 + 1 := by simp [s1]
  rw [s2] at o2
  rw [s1] at o1
  have v2 := v1.ex x2
  have d0 := v2.cell 0 (v := .slice (some ⟨w.heap.size + 1, 0, none⟩) 1 1) rfl
  have d1 := v2.cell 1 (v := .slice (some ⟨w.heap.size + 1 + 1, 0, none⟩) 1 1) rfl
  change bodyPost _ _ _ _ _ ((W1.alloc (iObj [a])).alloc (iObj [1]))
  generalize (W1.alloc (iObj [a])).alloc (iObj [1]) = W2 at *
  refine bodyPost_ret (v := .agg #[.slice (some ⟨w.heap.size + 1, 0, none⟩) 1 1, .slice (some ⟨w.heap.size + 1 + 1, 0, none⟩) 1 1]) (by simp [results, Tryd.results82, go_sem, d0, d1]) rfl ?_
  exact ⟨_, _, _, _, rfl, o1.fr (by simp) (by omega) (by simp), o2.fr (by simp) (by omega) (by simp), apart_ne (by omega), x1.trans x2⟩
end Go.Proofs.YtmekhjnhcgmphaaDoor
