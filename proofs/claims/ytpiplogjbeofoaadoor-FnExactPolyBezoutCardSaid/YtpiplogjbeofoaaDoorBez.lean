/- The extended Euclidean algorithm: plain theory; the contracts of both sides' loops. -/
import Derived.Test.YtpiplogjbeofoaaDoorFrac2
import Derived.Test.YtpiplogjbeofoaaDoorLow
namespace Go.Proofs.YtpiplogjbeofoaaDoor
set_option maxRecDepth 100000
open Go Go.RowKit
def bezL (p : Int) : Nat → List Int → List Int → List Int → List Int → List Int × List Int
  | 0, f, _, u, _ => (f, u)
  | n + 1, f, g, u, v => if g = [] then (f, u) else bezL p n g (pDivR p f g) v (pAdd p u (-1) (pMul p (pDivQ p f g) v))
theorem bezL_nil (p : Int) (n : Nat) (f u v : List Int) : bezL p n f [] u v = (f, u) := by cases n <;> simp [bezL]
theorem bezL_step (p : Int) (n : Nat) (f : List Int) {g : List Int} (u v : List Int) (h : g ≠ []) : bezL p (n + 1) f g u v = bezL p n g (pDivR p f g) v (pAdd p u (-1) (pMul p (pDivQ p f g) v)) := by rw [bezL, if_neg h]
theorem bezL_fst (p : Int) : ∀ (n : Nat) (f g u v : List Int), (bezL p n f g u v).1 = gcdL p n f g
  | 0, f, g, u, v => rfl
  | n + 1, f, g, u, v => by
    by_cases h : g = []
    · subst h; rw [bezL_nil, gcdL_nil]
    · rw [bezL_step _ _ _ _ _ h, gcdL_step _ _ _ h, bezL_fst p n]
theorem bezL_fuel {p : Int} (hF : fieldB p = true) : ∀ (n m : Nat) {f g : List Int} (u v : List Int), allEl p f = true → allEl p g = true → Tr f → Tr g → g.length ≤ n → g.length ≤ m → bezL p n f g u v = bezL p m f g u v
  | n, m, f, g, u, v, hf, hg, tf, tg, hn, hm => by
    by_cases h0 : g = []
    · subst h0; rw [bezL_nil, bezL_nil]
    · have hgl := List.length_pos_iff.2 h0
      obtain ⟨n, rfl⟩ : ∃ k, n = k + 1 := ⟨n - 1, by omega⟩
      obtain ⟨m, rfl⟩ : ∃ k, m = k + 1 := ⟨m - 1, by omega⟩
      rw [bezL_step _ _ _ _ _ h0, bezL_step _ _ _ _ _ h0]
      have hl := pDivR_lt hF hf hg tg h0
      exact bezL_fuel hF n m _ _ hg (pDivR_el (by have := fieldB_lo hF; omega) hf g) tg (pDivR_tr p tf g) (by omega) (by omega)
def bezE (p : Int) (f g u v : List Int) : List Int × List Int := bezL p (g.length + 1) f g u v
theorem bezE_step {p : Int} (hF : fieldB p = true) {f g : List Int} (u v : List Int) (hf : allEl p f = true) (hg : allEl p g = true) (tf : Tr f) (tg : Tr g) (h0 : g ≠ []) : bezE p f g u v = bezE p g (pDivR p f g) v (pAdd p u (-1) (pMul p (pDivQ p f g) v)) := by
  rw [bezE, bezL_step _ _ _ _ _ h0, bezE]
  have hl := pDivR_lt hF hf hg tg h0
  exact bezL_fuel hF _ _ _ _ hg (pDivR_el (by have := fieldB_lo hF; omega) hf g) tg (pDivR_tr p tf g) (by omega) (by omega)
theorem bezE_nil (p : Int) (f u v : List Int) : bezE p f [] u v = (f, u) := bezL_nil p _ f u v
theorem bezE_fst (p : Int) (f g u v : List Int) : (bezE p f g u v).1 = gcdE p f g := bezL_fst p _ f g u v
/-- What is kept from round to round. -/
structure BC (p : Int) (f g u v : List Int) : Prop where
  e1 : allEl p f = true
  e2 : allEl p g = true
  e3 : allEl p u = true
  e4 : allEl p v = true
  t1 : Tr f
  t2 : Tr g
  t3 : Tr u
  t4 : Tr v
  n0 : f ≠ [] ∨ g ≠ []
  lf : f.length ≤ 41
  hk : ∃ k, k + g.length ≤ 41 ∧ u.length ≤ 100 * (k + 1) ∧ v.length ≤ 100 * (k + 1)
theorem BC.start {p : Int} (hF : fieldB p = true) {f g : List Int} (hf : allEl p f = true) (hg : allEl p g = true) (tf : Tr f) (tg : Tr g) (h0 : f ≠ [] ∨ g ≠ []) (lf : f.length ≤ 41) (lg : g.length ≤ 41) : BC p f g [1] [] :=
  ⟨hf, hg, el_one (fieldB_lo hF), rfl, tf, tg, rfl, rfl, h0, lf, 0, by omega, by simp, by simp⟩
theorem BC.lens {p : Int} {f g u v : List Int} (h : BC p f g u v) : g.length ≤ 41 ∧ u.length ≤ 4200 ∧ v.length ≤ 4200 := by
  obtain ⟨k, h1, h2, h3⟩ := h.hk
  omega
theorem BC.step {p : Int} (hF : fieldB p = true) {f g u v : List Int} (h : BC p f g u v) (h0 : g ≠ []) : BC p g (pDivR p f g) v (pAdd p u (-1) (pMul p (pDivQ p f g) v)) := by
  have h2 := fieldB_lo hF
  have hl := pDivR_lt hF h.e1 h.e2 h.t2 h0
  obtain ⟨k, k1, k2, k3⟩ := h.hk
  have lf := h.lf
  have q := pDivQ_le p f g
  have hgl := List.length_pos_iff.2 h0
  have m := pMul_le p (pDivQ p f g) v
  have a := pAdd_le p u (-1) (pMul p (pDivQ p f g) v)
  exact ⟨h.e2, pDivR_el (by omega) h.e1 g, h.e4, pAdd_el h.e3 (by omega) _ _, h.t2, pDivR_tr p h.t1 g, h.t4, pAdd_tr _ _ _ _, .inl h0, by omega, k + 1, by omega, by omega, by omega⟩
/-- The factor of f, not reduced. -/
def bezP (p : Int) (f g : List Int) : List Int := pScale p (invM p (cf (gcdE p f g) ((gcdE p f g).length - 1))) (bezE p f g [1] []).2
/-- The factor of f. -/
def bezU (p : Int) (f g : List Int) : List Int := pDivR p (bezP p f g) (pDivQ p g (gcdM p f g))
/-- The factor of g. -/
def bezV (p : Int) (f g : List Int) : List Int := pDivQ p (pAdd p (gcdM p f g) (-1) (pMul p (bezU p f g) f)) g
set_option maxHeartbeats 2000000 in
theorem poBezout_c (p : Int) (A B : Option Addr) (c d : Nat) (f g : List Int) (w : World) (hf : Rd w A f) (hg : Rd w B g) (hF : fieldB p = true) (hb : BC p f g [1] []) :
    Calls Tryd.prog 80 #[.int .i64 p, .slice A f.length c, .slice B g.length d] w fun e w' => LI w (bezP p f g) e w' := by
  have h2 := fieldB_lo hF
  have h97 := fieldB_hi hF
  have HF := Lib.hid hF
  have Hb := Lib.hid hb
  have x0 := ((Ex.refl w).alloc (iObj [1])).alloc (iObj [])
  have b0 : Blk ((w.alloc (iObj [1])).alloc (iObj [])) w.heap.size [1] := (Blk.new w [1]).ex ((Ex.refl _).alloc _)
  have b1 : Blk ((w.alloc (iObj [1])).alloc (iObj [])) (w.heap.size + 1) [] := by have := Blk.new (w.alloc (iObj [1])) []; rwa [show (w.alloc (iObj [1])).heap.size = w.heap.size + 1 by simp] at this
  clear hF hb
  go_enter Tryd.func80, Tryd.ntmps80
  go_wp2_with fail
  change Code.wp _ _ _ _ ((w.alloc (iObj [1])).alloc (iObj []))
  generalize (w.alloc (iObj [1])).alloc (iObj []) = W at *
  go_loopw [1, 2, 7, 8] (fun a b u v wr => ∃ (A' B' C' D' : Option Addr) (c' d' k' l' : Nat) (f' g' u' v' : List Int), a = .slice A' f'.length c' ∧ b = .slice B' g'.length d' ∧ u = .slice C' u'.length k' ∧ v = .slice D' v'.length l' ∧
      Rd wr A' f' ∧ Rd wr B' g' ∧ Rd wr C' u' ∧ Rd wr D' v' ∧ Hid (BC p f' g' u' v') ∧ Hid (bezE p f' g' u' v' = bezE p f g [1] []) ∧ Ex w wr) (fun _ b _ _ _ => match b with | .slice _ n _ => n | _ => 0)
  case atStart => exact ⟨A, B, _, _, c, d, 1, 0, f, g, [1], [], rfl, rfl, rfl, rfl, hf.ex x0, hg.ex x0, b0.rd (by simp), Rd.nil _ _, Hb, Lib.hid rfl, x0⟩
  case round =>
    obtain ⟨A', B', C', D', c', d', k', l', f', g', u', v', rfl, rfl, rfl, rfl, hf', hg', hu', hv', HC, He, hex⟩ := hrel
    have hl1 := hf'.len
    have hl2 := hg'.len
    have hl3 := HC.out.lens
    by_cases hg0 : g' = []
    · subst hg0
      have hfn : f' ≠ [] := HC.out.n0.resolve_right (by simp)
      have hfl := List.length_pos_iff.2 hfn
      have hE : bezE p f g [1] [] = (f', u') := by rw [← He.out, bezE_nil]
      have hG : gcdE p f g = f' := by rw [← bezE_fst p f g [1] [], hE]
      have HE := Lib.hid (show pScale p (invM p (cf f' (f'.length - 1))) u' = bezP p f g by rw [bezP, hG, hE])
      obtain ⟨ml, hml⟩ : ∃ ml : Nat, f'.length = ml + 1 := ⟨f'.length - 1, by omega⟩
      obtain ⟨gA, goff, x, rfl, hx, hgA, hcell⟩ := hf'.at_ (by omega : ml < f'.length)
      have hxb := allEl_at HC.out.e1 hx
      have hcx : cf f' (f'.length - 1) = x := by rw [hml]; exact cf_of hx
      have hx0 : 0 < x := by have := HC.out.t1.last hfn; rw [hcx] at this; omega
      have Hcx := Lib.hid hcx
      have hmi : (f'.length : Int) - 1 = (ml : Int) := by omega
      have hm2 : ml < f'.length := by omega
      clear hx hcx hml hE hG hfn
      go_wp2_with fail
      refine (fdInv_c p x _ HF.out ⟨hx0, hxb.2⟩).mono ?_
      rintro e w5 ⟨rfl, rfl⟩
      have hib := invM_bd x h2 (p := p)
      rw [← Hcx.out] at hib ⊢
      clear hcell hmi
      go_wp2_with fail
      refine (poTimes_c p C' k' _ u' _ hu' h2 h97 HC.out.e3 (by omega)).mono ?_
      rintro e w1 ⟨A1, c1, rfl, f1, x1⟩
      rw [HE.out] at f1 ⊢
      go_wp2
      go_ret
      exact ⟨A1, c1, rfl, f1.more hex.size, hex.trans x1⟩
    · have hgl := List.length_pos_iff.2 hg0
      have Hg0 := Lib.hid hg0
      clear hg0
      have HS := Lib.hid (HC.out.step HF.out Hg0.out)
      have hlt := pDivR_lt HF.out HC.out.e1 HC.out.e2 HC.out.t2 Hg0.out
      have Hq := Lib.hid (pDivQ_le p f' g')
      have hlf := HC.out.lf
      have hq2 : (pDivQ p f' g').length ≤ 42 := by have := Hq.out; omega
      have HM := Lib.hid (pMul_eq HF.out (pDivQ_el (show 0 < p by omega) HC.out.e1 g') HC.out.e4 (pDivQ_tr p f' g') HC.out.t4)
      go_wp2_with fail
      refine (poDiv_c p A' B' c' d' f' g' _ hf' hg' HF.out HC.out.e1 HC.out.e2 Hg0.out HC.out.t1 HC.out.t2).mono ?_
      rintro e w1 ⟨A1, c1, A2, c2, rfl, f1, f2, _, x1⟩
      go_wp2_with fail
      refine (poMul_c p A1 D' c1 l' _ v' w1 f1.rd (hv'.ex x1) h2 h97 (pDivQ_el (by omega) HC.out.e1 g') HC.out.e4 (by omega)).mono ?_
      rintro e w2 ⟨A3, c3, rfl, f3, x2⟩
      rw [HM.out] at f3 ⊢
      go_wp2_with fail
      refine (poSub_c p C' A3 k' c3 u' _ w2 ((hu'.ex x1).ex x2) f3.rd h2 h97 HC.out.e3 (pMul_el (by omega) _ _)).mono ?_
      rintro e w3 ⟨A4, c4, rfl, f4, x3⟩
      go_wp2_with fail
      go_roundw
      case rel =>
        have xx := (x1.trans x2).trans x3
        exact ⟨B', A2, D', A4, d', c2, l', c4, g', pDivR p f' g', v', _, rfl, rfl, rfl, rfl, hg'.ex xx, (f2.rd.ex x2).ex x3, hv'.ex xx, f4.rd, HS, Lib.hid ((bezE_step HF.out u' v' HC.out.e1 HC.out.e2 HC.out.t1 HC.out.t2 Hg0.out).symm.trans He.out), hex.trans xx⟩
      case measure => simpa using hlt
end Go.Proofs.YtpiplogjbeofoaaDoor
