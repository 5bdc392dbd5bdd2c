/- Contracts: PolyBezout, on both sides. -/
import Derived.Test.YtpiplogjbeofoaaDoorBez2
namespace Go.Proofs.YtpiplogjbeofoaaDoor
set_option maxRecDepth 100000
open Go Go.RowKit
theorem results_tmp4 {fn : Func} {t u v x : Tmp} (h : fn.results = #[.tmp t, .tmp u, .tmp v, .tmp x]) (tmps : Array Value) (P : Program) (w : World) :
    (results fn tmps).run P w = .ok (.tuple #[tmps.getD t undef, tmps.getD u undef, tmps.getD v undef, tmps.getD x undef]) w := by
  simp [results, h]
/-- What PolyBezout answers. -/
def bezR (p : Int) (f g : List Int) : List Int × List Int × List Int × Bool :=
  if (polyB p f && polyB p g) = true ∧ (f ≠ [] ∨ g ≠ []) then (if g = [] then (gcdM p f g, [invM p (cf f (f.length - 1))], [], true) else (gcdM p f g, bezU p f g, bezV p f g, true)) else ([], [], [], false)
theorem bezR_no {p : Int} {f g : List Int} (h : ¬ ((polyB p f && polyB p g) = true ∧ (f ≠ [] ∨ g ≠ []))) : bezR p f g = ([], [], [], false) := if_neg h
theorem bezR_one {p : Int} {f g : List Int} (h : (polyB p f && polyB p g) = true ∧ (f ≠ [] ∨ g ≠ [])) (hg : g = []) : bezR p f g = (gcdM p f g, [invM p (cf f (f.length - 1))], [], true) := by rw [bezR, if_pos h, if_pos hg]
theorem bezR_two {p : Int} {f g : List Int} (h : (polyB p f && polyB p g) = true ∧ (f ≠ [] ∨ g ≠ [])) (hg : g ≠ []) : bezR p f g = (gcdM p f g, bezU p f g, bezV p f g, true) := by rw [bezR, if_pos h, if_neg hg]
/-- Three lists and a Bool, read. -/
def BZs (w : World) (r : List Int × List Int × List Int × Bool) (e : Ending) (w' : World) : Prop :=
  ∃ A a B b C c, e = .returned (.tuple #[.slice A r.1.length a, .slice B r.2.1.length b, .slice C r.2.2.1.length c, .bool r.2.2.2]) ∧ Rd w' A r.1 ∧ Rd w' B r.2.1 ∧ Rd w' C r.2.2.1 ∧ Ex w w'
/-- Three lists of their own, one behind the other, and a Bool. -/
def BZ (w : World) (r : List Int × List Int × List Int × Bool) (e : Ending) (w' : World) : Prop :=
  ∃ A a B b C c m1 m2, e = .returned (.tuple #[.slice A r.1.length a, .slice B r.2.1.length b, .slice C r.2.2.1.length c, .bool r.2.2.2]) ∧ FI w' w.heap.size m1 A a r.1 ∧ FI w' m1 m2 B b r.2.1 ∧ FI w' m2 w'.heap.size C c r.2.2.1 ∧
    w.heap.size ≤ m1 ∧ m1 ≤ m2 ∧ m2 ≤ w'.heap.size ∧ Ex w w'
theorem BZs.of {w w' : World} {r : List Int × List Int × List Int × Bool} {x y z : List Int} {t : Bool} {e : Ending} {A B C : Option Addr} {a b c : Nat} (hr : r = (x, y, z, t)) (he : e = .returned (.tuple #[.slice A x.length a, .slice B y.length b, .slice C z.length c, .bool t]))
    (h1 : Rd w' A x) (h2 : Rd w' B y) (h3 : Rd w' C z) (hx : Ex w w') : BZs w r e w' := by subst hr; exact ⟨A, a, B, b, C, c, he, h1, h2, h3, hx⟩
theorem BZ.of {w w' : World} {r : List Int × List Int × List Int × Bool} {x y z : List Int} {t : Bool} {e : Ending} {A B C : Option Addr} {a b c m1 m2 : Nat} (hr : r = (x, y, z, t)) (he : e = .returned (.tuple #[.slice A x.length a, .slice B y.length b, .slice C z.length c, .bool t]))
    (h1 : FI w' w.heap.size m1 A a x) (h2 : FI w' m1 m2 B b y) (h3 : FI w' m2 w'.heap.size C c z) (k1 : w.heap.size ≤ m1) (k2 : m1 ≤ m2) (k3 : m2 ≤ w'.heap.size) (hx : Ex w w') : BZ w r e w' := by subst hr; exact ⟨A, a, B, b, C, c, m1, m2, he, h1, h2, h3, k1, k2, k3, hx⟩
theorem FI.nil (w : World) (a b c : Nat) : FI w a b none c [] := ⟨Fr.nil w a c, fun _ e => by cases e⟩
theorem pScale_unit {p b : Int} (hb : 0 < b ∧ b < p) : pScale p b [1] = [b] := by
  have h1 := pAdd_tr p [] b [1]
  have h2 : Tr [b] := by
    refine Tr.of_last (by simp) ?_
    simp [cf]; omega
  refine Cong.list (p := p) ?_ (by omega) (pAdd_el (allEl_nil p) (by omega) _ _) (by simp [allEl, elB]; omega) h1 h2
  intro n
  have := pScale_cf p b [1] (by omega) n
  have e : cf (pScale p b [1]) n = b * cf [1] n % p := this
  rw [e]
  cases n with
  | zero => simp [cf]; rw [Int.emod_eq_of_lt (by omega) hb.2, Int.sub_self]; exact Int.dvd_zero _
  | succ n => simp [cf]
/-- What is known where both lists are polynomials and not both are 0. -/
structure BK (p : Int) (f g : List Int) : Prop where
  fd : fieldB p = true
  b : BC p f g [1] []
  lf : f.length ≤ 41
  lg : g.length ≤ 41
  ge : allEl p (gcdM p f g) = true
  gt : Tr (gcdM p f g)
  g0 : gcdM p f g ≠ []
theorem BK.of {p : Int} {f g : List Int} (hp : (polyB p f && polyB p g) = true) (h0 : f ≠ [] ∨ g ≠ []) : BK p f g := by
  rw [Bool.and_eq_true] at hp
  obtain ⟨hF, l1, hne, tn⟩ := polyB_parts hp.1
  obtain ⟨_, l2, hde, td⟩ := polyB_parts hp.2
  have h2 := fieldB_lo hF
  exact ⟨hF, BC.start hF hne hde tn td h0 l1 l2, l1, l2, gcdM_el (by omega) _ _, gcdM_tr _ _ _, gcdM_ne hF hne hde tn td h0⟩
structure BK2 (p : Int) (f g : List Int) : Prop where
  g0 : g ≠ []
  me : allEl p (pDivQ p g (gcdM p f g)) = true
  mt : Tr (pDivQ p g (gcdM p f g))
  m0 : pDivQ p g (gcdM p f g) ≠ []
  pe : allEl p (bezP p f g) = true
  pt : Tr (bezP p f g)
  ue : allEl p (bezU p f g) = true
  ut : Tr (bezU p f g)
  ul : (bezU p f g).length ≤ 42
theorem BK2.of {p : Int} {f g : List Int} (h : BK p f g) (hgn : g ≠ []) : BK2 p f g := by
  have h2 := fieldB_lo h.fd
  have hb := h.b
  have hgcdl := (gcdM_len h.fd hb.e1 hb.e2 hb.t1 hb.t2 hb.n0).1
  have hgel := gcdE_len h.fd hb.e1 hb.e2 hb.t1 hb.t2 hgn
  have hml := pDivQ_len h.fd hb.e2 h.ge hb.t2 h.gt h.g0 (by omega)
  have hm0 : pDivQ p g (gcdM p f g) ≠ [] := by intro e; rw [e] at hml; simp at hml
  have me := pDivQ_el (p := p) (by omega) hb.e2 (gcdM p f g)
  have mt := pDivQ_tr p g (gcdM p f g)
  have pe : allEl p (bezP p f g) = true := pAdd_el (allEl_nil p) (by omega) _ _
  have pt : Tr (bezP p f g) := pAdd_tr _ _ _ _
  have hul := pDivR_lt h.fd pe me mt hm0
  have l2 := h.lg
  exact ⟨hgn, me, mt, hm0, pe, pt, pDivR_el (by omega) pe _, pDivR_tr p pt _, by show (pDivR p (bezP p f g) (pDivQ p g (gcdM p f g))).length ≤ 42; omega⟩
theorem bezP_one {p : Int} {f g : List Int} (h : BK p f g) (hg : g = []) : bezP p f g = [invM p (cf f (f.length - 1))] := by
  subst hg
  have h2 := fieldB_lo h.fd
  have hfn : f ≠ [] := h.b.n0.resolve_right (by simp)
  have b := cf_bd h.b.e1 (show 0 < p by omega) (f.length - 1)
  have n := h.b.t1.last hfn
  rw [bezP, gcdE_nil, bezE_nil]
  exact pScale_unit (inv_pos h.fd (by omega) b.2)
set_option maxHeartbeats 4000000 in
theorem spPolyBezout_c (p : Int) (A B : Option Addr) (c d : Nat) (f g : List Int) (w : World) (hf : Rd w A f) (hg : Rd w B g) :
    Calls Tryd.prog 37 #[.int .i64 p, .slice A f.length c, .slice B g.length d] w fun e w' => BZs w (bezR p f g) e w' := by
  have hl := hf.len
  have hl1 := hg.len
  cases hp1 : polyB p f with
  | false =>
    have H := Lib.hid (bezR_no (fun h => by rw [hp1] at h; cases h.1) : bezR p f g = ([], [], [], false))
    go_enter Tryd.func37, Tryd.ntmps37
    go_wp2_with (go_at_call 73; refine (poGood_c _ _ _ _ _ (by first | exact hf | exact hg)).mono ?_; rintro e w' ⟨rfl, rfl⟩)
    (try simp only [Exit.inBlock, Exit.then]); refine bodyPost_ret (results_tmp4 rfl _ _ _) rfl ?_
    exact BZs.of H.out rfl (Rd.nil _ _) (Rd.nil _ _) (Rd.nil _ _) (Ex.refl w)
  | true =>
  cases hp2 : polyB p g with
  | false =>
    have H := Lib.hid (bezR_no (fun h => by rw [hp2, Bool.and_false] at h; cases h.1) : bezR p f g = ([], [], [], false))
    go_enter Tryd.func37, Tryd.ntmps37
    go_wp2_with fail
    refine (poGood_c _ _ _ _ _ hf).mono ?_
    rintro e w' ⟨rfl, rfl⟩
    go_wp2_with fail
    refine (poGood_c _ _ _ _ _ hg).mono ?_
    rintro e w' ⟨rfl, rfl⟩
    rw [hp2]
    go_wp2_with fail
    (try simp only [Exit.inBlock, Exit.then]); refine bodyPost_ret (results_tmp4 rfl _ _ _) rfl ?_
    exact BZs.of H.out rfl (Rd.nil _ _) (Rd.nil _ _) (Rd.nil _ _) (Ex.refl w)
  | true =>
  have hp : (polyB p f && polyB p g) = true := by rw [hp1, hp2]; rfl
  have Hp2 := Lib.hid hp2
  clear hp1 hp2
  by_cases h0 : f ≠ [] ∨ g ≠ []
  case neg =>
    have H := Lib.hid (bezR_no (fun h => h0 h.2) : bezR p f g = ([], [], [], false))
    have e1 : f = [] := by
      by_cases h : f = []
      · exact h
      · exact absurd (.inl h) h0
    have e2 : g = [] := by
      by_cases h : g = []
      · exact h
      · exact absurd (.inr h) h0
    have hz : ((f.length : Int) + (g.length : Int) == 0) = true := by rw [e1, e2]; rfl
    have HP1 := Lib.hid (show polyB p f = true by rw [Bool.and_eq_true] at hp; exact hp.1)
    clear h0 e1 e2 hp
    go_enter Tryd.func37, Tryd.ntmps37
    go_wp2_with fail
    refine (poGood_c _ _ _ _ _ hf).mono ?_
    rintro e w' ⟨rfl, rfl⟩
    rw [HP1.out]
    go_wp2_with fail
    refine (poGood_c _ _ _ _ _ hg).mono ?_
    rintro e w' ⟨rfl, rfl⟩
    rw [Hp2.out]
    go_wp2_with fail
    (try simp only [Exit.inBlock, Exit.then]); refine bodyPost_ret (results_tmp4 rfl _ _ _) rfl ?_
    exact BZs.of H.out rfl (Rd.nil _ _) (Rd.nil _ _) (Rd.nil _ _) (Ex.refl w)
  case pos =>
  have K := Lib.hid (BK.of hp h0)
  have HP1 := Lib.hid (show polyB p f = true by rw [Bool.and_eq_true] at hp; exact hp.1)
  have Hp := Lib.hid hp
  have H0 := Lib.hid h0
  have h2 := fieldB_lo K.out.fd
  have h97 := fieldB_hi K.out.fd
  have hz : ((f.length : Int) + (g.length : Int) == 0) = false := by
    simp
    rcases h0 with h | h
    · have := List.length_pos_iff.2 h; omega
    · have := List.length_pos_iff.2 h; omega
  clear h0 hp
  by_cases hg0 : g = []
  · have H := Lib.hid (bezR_one ⟨Hp.out, H0.out⟩ hg0)
    have HB := Lib.hid (bezP_one K.out hg0)
    have hzg : ((g.length : Int) == 0) = true := by rw [hg0]; rfl
    clear hg0
    go_enter Tryd.func37, Tryd.ntmps37
    go_wp2_with fail
    refine (poGood_c _ _ _ _ _ hf).mono ?_
    rintro e w' ⟨rfl, rfl⟩
    rw [HP1.out]
    go_wp2_with fail
    refine (poGood_c _ _ _ _ _ hg).mono ?_
    rintro e w' ⟨rfl, rfl⟩
    rw [Hp2.out]
    go_wp2_with fail
    refine (poGcd_c p A B c d f g _ hf hg K.out.fd K.out.b.e1 K.out.b.e2 K.out.b.t1 K.out.b.t2 H0.out).mono ?_
    rintro e w1 ⟨A1, c1, rfl, f1, x1⟩
    go_wp2_with fail
    refine (poBezout_c p A B c d f g _ (hf.ex x1) (hg.ex x1) K.out.fd K.out.b).mono ?_
    rintro e w2 ⟨A2, c2, rfl, f2, x2⟩
    rw [HB.out] at f2 ⊢
    go_wp2_with fail
    (try simp only [Exit.inBlock, Exit.then]); refine bodyPost_ret (results_tmp4 rfl _ _ _) rfl ?_
    exact BZs.of H.out rfl (f1.rd.ex x2) f2.rd (Rd.nil _ _) (x1.trans x2)
  · have H := Lib.hid (bezR_two ⟨Hp.out, H0.out⟩ hg0)
    have hgl := List.length_pos_iff.2 hg0
    have hzg : ((g.length : Int) == 0) = false := by simp; omega
    have K2 := Lib.hid (BK2.of K.out hg0)
    have HU := Lib.hid (show pDivR p (bezP p f g) (pDivQ p g (gcdM p f g)) = bezU p f g from rfl)
    have HV := Lib.hid (show pDivQ p (pAdd p (gcdM p f g) (-1) (pMul p (bezU p f g) f)) g = bezV p f g from rfl)
    have HM := Lib.hid (pMul_eq K.out.fd K2.out.ue K.out.b.e1 K2.out.ut K.out.b.t1)
    have Hme := Lib.hid (pMul_el (p := p) (by omega) (bezU p f g) f)
    have Hae := Lib.hid (pAdd_el (p := p) K.out.ge (by omega) (-1) (pMul p (bezU p f g) f))
    have lf := K.out.lf
    have ul := K2.out.ul
    clear hg0
    go_enter Tryd.func37, Tryd.ntmps37
    go_wp2_with fail
    refine (poGood_c _ _ _ _ _ hf).mono ?_
    rintro e w' ⟨rfl, rfl⟩
    rw [HP1.out]
    go_wp2_with fail
    refine (poGood_c _ _ _ _ _ hg).mono ?_
    rintro e w' ⟨rfl, rfl⟩
    rw [Hp2.out]
    go_wp2_with fail
    refine (poGcd_c p A B c d f g _ hf hg K.out.fd K.out.b.e1 K.out.b.e2 K.out.b.t1 K.out.b.t2 H0.out).mono ?_
    rintro e w1 ⟨A1, c1, rfl, f1, x1⟩
    go_wp2_with fail
    refine (poBezout_c p A B c d f g _ (hf.ex x1) (hg.ex x1) K.out.fd K.out.b).mono ?_
    rintro e w2 ⟨A2, c2, rfl, f2, x2⟩
    have y2 := x1.trans x2
    go_wp2_with fail
    refine (poDiv_c p B A1 d c1 g _ w2 (hg.ex y2) (f1.rd.ex x2) K.out.fd K.out.b.e2 K.out.ge K.out.g0 K.out.b.t2 K.out.gt).mono ?_
    rintro e w3 ⟨A3, c3, A3', c3', rfl, f3, _, _, x3⟩
    go_wp2_with fail
    refine (poDiv_c p A2 A3 c2 c3 _ _ w3 (f2.rd.ex x3) f3.rd K.out.fd K2.out.pe K2.out.me K2.out.m0 K2.out.pt K2.out.mt).mono ?_
    rintro e w4 ⟨A4, c4, A4', c4', rfl, _, f4, _, x4⟩
    rw [HU.out] at f4 ⊢
    have y4 := (y2.trans x3).trans x4
    go_wp2_with fail
    refine (poMul_c p A4' A c4' c _ f w4 f4.rd (hf.ex y4) h2 h97 K2.out.ue K.out.b.e1 (by omega)).mono ?_
    rintro e w5 ⟨A5, c5, rfl, f5, x5⟩
    rw [HM.out] at f5 ⊢
    have z2 := (x2.trans x3).trans (x4.trans x5)
    go_wp2_with fail
    refine (poSub_c p A1 A5 c1 c5 _ _ w5 (f1.rd.ex z2) f5.rd h2 h97 K.out.ge Hme.out).mono ?_
    rintro e w6 ⟨A6, c6, rfl, f6, x6⟩
    go_wp2_with fail
    refine (poDiv_c p A6 B c6 d _ g w6 f6.rd (hg.ex ((y4.trans x5).trans x6)) K.out.fd Hae.out K.out.b.e2 K2.out.g0 (pAdd_tr _ _ _ _) K.out.b.t2).mono ?_
    rintro e w7 ⟨A7, c7, A7', c7', rfl, f7, _, _, x7⟩
    rw [HV.out] at f7 ⊢
    go_wp2_with fail
    (try simp only [Exit.inBlock, Exit.then]); refine bodyPost_ret (results_tmp4 rfl _ _ _) rfl ?_
    exact BZs.of H.out rfl ((f1.rd.ex z2).ex (x6.trans x7)) ((f4.rd.ex x5).ex (x6.trans x7)) f7.rd ((y4.trans x5).trans (x6.trans x7))
set_option maxHeartbeats 4000000 in
theorem PolyBezout_c (p : Int) (A B : Option Addr) (c d : Nat) (f g : List Int) (w : World) (hf : Rd w A f) (hg : Rd w B g) (ht : Tb w) :
    Calls Tryd.prog 38 #[.int .i64 p, .slice A f.length c, .slice B g.length d] w fun e w' => BZ w (bezR p f g) e w' := by
  have hl := hf.len
  have hl1 := hg.len
  by_cases hb : (polyB p f && polyB p g) = true ∧ (f ≠ [] ∨ g ≠ [])
  case neg =>
    have H := Lib.hid (bezR_no hb)
    have HG := Lib.hid (gcdR_no hb)
    clear hb
    go_enter Tryd.func38, Tryd.ntmps38
    go_wp2_with fail
    refine (PolyGcd_c p A B c d f g w hf hg ht).mono ?_
    intro e w1 h1
    rw [HG.out] at h1
    obtain ⟨A1, c1, rfl, f1, x1⟩ := h1
    dsimp only at f1 ⊢
    go_wp2_with fail
    (try simp only [Exit.inBlock, Exit.then]); refine bodyPost_ret (results_tmp4 rfl _ _ _) rfl ?_
    exact BZ.of H.out rfl (FI.nil _ _ _ _) (FI.nil _ _ _ _) (FI.nil _ _ _ _) (Nat.le_refl _) (Nat.le_refl _) x1.size x1
  case pos =>
  have HG := Lib.hid (gcdR_yes hb)
  have K := Lib.hid (BK.of hb.1 hb.2)
  have Hb := Lib.hid hb
  have h2 := fieldB_lo K.out.fd
  have h97 := fieldB_hi K.out.fd
  clear hb
  by_cases hg0 : g = []
  · have H := Lib.hid (bezR_one Hb.out hg0)
    have hfn : f ≠ [] := by
      rcases Hb.out.2 with h | h
      · exact h
      · exact absurd hg0 h
    have hfl := List.length_pos_iff.2 hfn
    have hzg : ((g.length : Int) == 0) = true := by rw [hg0]; rfl
    obtain ⟨ml, hml⟩ : ∃ ml : Nat, f.length = ml + 1 := ⟨f.length - 1, by omega⟩
    obtain ⟨gA, goff, x, rfl, hx, hgA, hcell⟩ := hf.at_ (by omega : ml < f.length)
    have hxb := allEl_at K.out.b.e1 hx
    have hcx : cf f (f.length - 1) = x := by rw [hml]; exact cf_of hx
    have Hcx := Lib.hid hcx
    have hmi : (f.length : Int) - 1 = (ml : Int) := by omega
    have hm2 : ml < f.length := by omega
    clear hx hcx hml hg0 hfn
    go_enter Tryd.func38, Tryd.ntmps38
    go_wp2_with fail
    refine (PolyGcd_c p _ B c d f g w hf hg ht).mono ?_
    intro e w1 h1
    rw [HG.out] at h1
    obtain ⟨A1, c1, rfl, f1, x1⟩ := h1
    dsimp only at f1 ⊢
    have hcell1 := cell_ex x1 hcell
    clear hcell
    go_wp2_with fail
    refine (inverse_c p x w1 h2 h97 hxb).mono ?_
    rintro e w5 ⟨rfl, rfl⟩
    rw [← Hcx.out]
    clear hcell1 hmi
    go_wp2_with fail
    have o2 := Own.new w1 [invM p (cf f (f.length - 1))]
    have x2 := (Ex.refl w1).alloc (iObj [invM p (cf f (f.length - 1))])
    have s2 := o2.lt
    have s1 := x1.size
    have f2 := (f1.ex x2).fi
    (try simp only [Exit.inBlock, Exit.then]); refine bodyPost_ret (results_tmp4 rfl _ _ _) rfl ?_
    exact BZ.of (m1 := w1.heap.size) H.out rfl ⟨f1.ex x2, f1.lo⟩ ((o2.fr (c := 1) (by simp) (Nat.le_refl _) (by simp)).fi) (FI.nil _ _ _ _) s1 (Nat.le_of_lt s2) (Nat.le_refl _) (x1.trans x2)
  · have H := Lib.hid (bezR_two Hb.out hg0)
    have hgl := List.length_pos_iff.2 hg0
    have hzg : ((g.length : Int) == 0) = false := by simp; omega
    have K2 := Lib.hid (BK2.of K.out hg0)
    have HV := Lib.hid (show pDivQ p (pAdd p (gcdM p f g) (-1) (pMul p (bezU p f g) f)) g = bezV p f g from rfl)
    have Hme := Lib.hid (pMul_el (p := p) (by omega) (bezU p f g) f)
    have Hae := Lib.hid (pAdd_el (p := p) K.out.ge (by omega) (-1) (pMul p (bezU p f g) f))
    have lf := K.out.lf
    have ul := K2.out.ul
    clear hg0
    go_enter Tryd.func38, Tryd.ntmps38
    go_wp2_with fail
    refine (PolyGcd_c p A B c d f g w hf hg ht).mono ?_
    intro e w1 h1
    rw [HG.out] at h1
    obtain ⟨A1, c1, rfl, f1, x1⟩ := h1
    dsimp only at f1 ⊢
    go_wp2_with fail
    refine (polyInverse_c p A B A1 c d c1 f g w1 (hf.ex x1) (hg.ex x1) f1.rd K.out.fd K.out.b K2.out.g0).mono ?_
    rintro e w2 ⟨A2, c2, rfl, f2, x2⟩
    have y2 := x1.trans x2
    go_wp2_with fail
    refine (polyMul_c p A2 A c2 c _ f w2 f2.rd (hf.ex y2) h2 h97 K2.out.ue K.out.b.e1 (by omega)).mono ?_
    rintro e w3 ⟨A3, c3, rfl, f3, x3⟩
    go_wp2_with fail
    refine (polyAdd_c p A1 A3 c1 c3 _ _ (-1) w3 ((f1.rd.ex x2).ex x3) f3.rd h2 h97 K.out.ge Hme.out (by omega)).mono ?_
    rintro e w4 ⟨A4, c4, rfl, f4, x4⟩
    have y4 := (y2.trans x3).trans x4
    go_wp2_with fail
    refine (polyDivide_c p A4 B c4 d _ g w4 f4.rd (hg.ex y4) h2 h97 Hae.out K.out.b.e2 K2.out.g0).mono ?_
    rintro e w5 ⟨A5, c5, A5', c5', rfl, f5, _, _, x5⟩
    rw [HV.out] at f5 ⊢
    have u5 := ((f2.rd.ex x3).ex x4).ex x5
    have l5 := u5.len
    have l6 := f5.rd.len
    go_wp2_with fail
    refine (clone_c A2 c2 _ w5 u5).mono ?_
    rintro e w6 ⟨g6, c6, rfl, hc6, hg6, o6, x6⟩
    go_wp2_with fail
    refine (clone_c A5 c5 _ w6 (f5.rd.ex x6)).mono ?_
    rintro e w7 ⟨g7, c7, rfl, hc7, hg7, o7, x7⟩
    go_wp2_with fail
    (try simp only [Exit.inBlock, Exit.then]); refine bodyPost_ret (results_tmp4 rfl _ _ _) rfl ?_
    have z2 := ((x2.trans x3).trans (x4.trans x5)).trans (x6.trans x7)
    have s1 := x1.size
    have s2 := x2.size
    have s3 := x3.size
    have s4 := x4.size
    have s5 := x5.size
    have s6 := x6.size
    have s7 := x7.size
    have l8 := o6.lt
    exact BZ.of (m1 := w5.heap.size) (m2 := w6.heap.size) H.out rfl ⟨f1.ex z2, f1.lo.mono (by omega)⟩ ⟨(o6.ex x7).fr l5 hg6 hc6, fun a e => by injection e with e; subst e; exact l8⟩ ((o7.fr l6 hg7 hc7).fi) (by omega) s6 s7 ((y4.trans x5).trans (x6.trans x7))
end Go.Proofs.YtpiplogjbeofoaaDoor
