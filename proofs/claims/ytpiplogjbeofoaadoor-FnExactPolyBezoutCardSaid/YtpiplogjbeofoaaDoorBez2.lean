/- Contracts: the inverse modulo a polynomial, the greatest common divisor as the program hands it back. -/
import Derived.Test.YtpiplogjbeofoaaDoorBez
import Derived.Test.YtpiplogjbeofoaaDoorSeries
import Derived.Test.YtpiplogjbeofoaaDoorIv
namespace Go.Proofs.YtpiplogjbeofoaaDoor
set_option maxRecDepth 100000
open Go Go.RowKit
set_option maxHeartbeats 4000000 in
theorem polyInverse_c (p : Int) (A B D : Option Addr) (c d k : Nat) (f g : List Int) (w : World) (hf : Rd w A f) (hg : Rd w B g) (hd : Rd w D (gcdM p f g)) (hF : fieldB p = true) (hb : BC p f g [1] []) (hgn : g ≠ []) :
    Calls Tryd.prog 86 #[.int .i64 p, .slice A f.length c, .slice B g.length d, .slice D (gcdM p f g).length k] w fun e w' => LI w (bezU p f g) e w' := by
  have h2 := fieldB_lo hF
  have h97 := fieldB_hi hF
  have HF := Lib.hid hF
  have Hb := Lib.hid hb
  have Hgn := Lib.hid hgn
  have hgcd0 := gcdM_ne hF hb.e1 hb.e2 hb.t1 hb.t2 hb.n0
  have hgcdl := (gcdM_len hF hb.e1 hb.e2 hb.t1 hb.t2 hb.n0).1
  have hgel := gcdE_len hF hb.e1 hb.e2 hb.t1 hb.t2 hgn
  have hml := pDivQ_len hF hb.e2 (gcdM_el (p := p) (by omega) f g) hb.t2 (gcdM_tr p f g) hgcd0 (by omega)
  have hm0 : pDivQ p g (gcdM p f g) ≠ [] := by intro e; rw [e] at hml; simp at hml
  have Hm0 := Lib.hid hm0
  have Hgcd0 := Lib.hid hgcd0
  have Hgcde := Lib.hid (gcdM_el (p := p) (by omega) f g)
  have Hme := Lib.hid (pDivQ_el (p := p) (by omega) hb.e2 (gcdM p f g))
  have x0 := ((Ex.refl w).alloc (iObj [1])).alloc (iObj [])
  have b0 : Blk ((w.alloc (iObj [1])).alloc (iObj [])) w.heap.size [1] := (Blk.new w [1]).ex ((Ex.refl _).alloc _)
  clear hF hb hgn hgcd0 hgcdl hgel hml hm0
  go_enter Tryd.func86, Tryd.ntmps86
  go_wp2_with fail
  change Code.wp _ _ _ _ ((w.alloc (iObj [1])).alloc (iObj []))
  generalize (w.alloc (iObj [1])).alloc (iObj []) = W at *
  go_loopw [9, 10, 11, 12] (fun a b u v wr => ∃ (A' B' C' D' : Option Addr) (c' d' k' l' : Nat) (f' g' u' v' : List Int), a = .slice A' f'.length c' ∧ b = .slice B' g'.length d' ∧ u = .slice C' u'.length k' ∧ v = .slice D' v'.length l' ∧
      Rd wr A' f' ∧ Rd wr B' g' ∧ Rd wr C' u' ∧ Rd wr D' v' ∧ Hid (BC p f' g' u' v') ∧ Hid (bezE p f' g' u' v' = bezE p f g [1] []) ∧ Ex w wr) (fun _ b _ _ _ => match b with | .slice _ n _ => n | _ => 0)
  case atStart => exact ⟨A, B, _, _, c, d, 1, 0, f, g, [1], [], rfl, rfl, rfl, rfl, hf.ex x0, hg.ex x0, b0.rd (by simp), Rd.nil _ _, Hb, Lib.hid rfl, x0⟩
  case round =>
    obtain ⟨A', B', C', D', c', d', k', l', f', g', u', v', rfl, rfl, rfl, rfl, hf', hg', hu', hv', HC, He, hex⟩ := hrel
    have hl1 := hf'.len
    have hl2 := hg'.len
    have hl3 := HC.out.lens
    by_cases hg0 : g' = []
    · subst hg0
      have hfn : f' ≠ [] := HC.out.n0.resolve_right (by simp)
      have hfl := List.length_pos_iff.2 hfn
      have hE : bezE p f g [1] [] = (f', u') := by rw [← He.out, bezE_nil]
      have hG : gcdE p f g = f' := by rw [← bezE_fst p f g [1] [], hE]
      have HE := Lib.hid (show pScale p (invM p (cf f' (f'.length - 1))) u' = bezP p f g by rw [bezP, hG, hE])
      have HU := Lib.hid (show pDivR p (bezP p f g) (pDivQ p g (gcdM p f g)) = bezU p f g from rfl)
      obtain ⟨ml, hml⟩ : ∃ ml : Nat, f'.length = ml + 1 := ⟨f'.length - 1, by omega⟩
      obtain ⟨gA, goff, x, rfl, hx, hgA, hcell⟩ := hf'.at_ (by omega : ml < f'.length)
      have hxb := allEl_at HC.out.e1 hx
      have hcx : cf f' (f'.length - 1) = x := by rw [hml]; exact cf_of hx
      have Hcx := Lib.hid hcx
      have hmi : (f'.length : Int) - 1 = (ml : Int) := by omega
      have hm2 : ml < f'.length := by omega
      have hbl := hg.len
      have hdl := hd.len
      clear hx hcx hml hE hG hfn
      go_wp2_with fail
      refine (polyDivide_c p B D d k g (gcdM p f g) _ (hg.ex hex) (hd.ex hex) h2 h97 Hb.out.e2 Hgcde.out Hgcd0.out).mono ?_
      rintro e w1 ⟨A1, c1, A1', c1', rfl, f1, _, _, x1⟩
      have hcell1 := cell_ex x1 hcell
      clear hcell
      go_wp2_with fail
      refine (inverse_c p x w1 h2 h97 hxb).mono ?_
      rintro e w5 ⟨rfl, rfl⟩
      have hib := invM_bd x h2 (p := p)
      rw [← Hcx.out] at hib ⊢
      clear hcell1 hmi
      go_wp2_with fail
      refine (scaled_c p C' k' _ u' _ (hu'.ex x1) h2 h97 HC.out.e3 (by omega)).mono ?_
      rintro e w2 ⟨A2, c2, rfl, f2, x2⟩
      rw [HE.out] at f2 ⊢
      go_wp2_with fail
      have hpe : allEl p (bezP p f g) = true := pAdd_el (allEl_nil p) (by omega) _ _
      refine (polyDivide_c p A2 A1 c2 c1 _ _ w2 f2.rd (f1.rd.ex x2) h2 h97 hpe Hme.out Hm0.out).mono ?_
      rintro e w3 ⟨A3, c3, A3', c3', rfl, _, f3, _, x3⟩
      rw [HU.out] at f3 ⊢
      clear hpe
      go_wp2
      go_ret
      have s1 := hex.size
      have s2 := x1.size
      have s3 := x2.size
      exact ⟨_, _, rfl, f3.more (by omega), hex.trans ((x1.trans x2).trans x3)⟩
    · have hgl := List.length_pos_iff.2 hg0
      have Hg0 := Lib.hid hg0
      clear hg0
      have HS := Lib.hid (HC.out.step HF.out Hg0.out)
      have hlt := pDivR_lt HF.out HC.out.e1 HC.out.e2 HC.out.t2 Hg0.out
      have Hq := Lib.hid (pDivQ_le p f' g')
      have hlf := HC.out.lf
      have hq2 : (pDivQ p f' g').length ≤ 42 := by have := Hq.out; omega
      go_wp2_with fail
      refine (polyDivide_c p A' B' c' d' f' g' _ hf' hg' h2 h97 HC.out.e1 HC.out.e2 Hg0.out).mono ?_
      rintro e w1 ⟨A1, c1, A2, c2, rfl, f1, f2, _, x1⟩
      go_wp2_with fail
      refine (polyMul_c p A1 D' c1 l' _ v' w1 f1.rd (hv'.ex x1) h2 h97 (pDivQ_el (by omega) HC.out.e1 g') HC.out.e4 (by omega)).mono ?_
      rintro e w2 ⟨A3, c3, rfl, f3, x2⟩
      go_wp2_with fail
      refine (polyAdd_c p C' A3 k' c3 u' _ (-1) w2 ((hu'.ex x1).ex x2) f3.rd h2 h97 HC.out.e3 (pMul_el (by omega) _ _) (by omega)).mono ?_
      rintro e w3 ⟨A4, c4, rfl, f4, x3⟩
      go_wp2_with fail
      go_roundw
      case rel =>
        have xx := (x1.trans x2).trans x3
        exact ⟨B', A2, D', A4, d', c2, l', c4, g', pDivR p f' g', v', _, rfl, rfl, rfl, rfl, hg'.ex xx, (f2.rd.ex x2).ex x3, hv'.ex xx, f4.rd, HS, Lib.hid ((bezE_step HF.out u' v' HC.out.e1 HC.out.e2 HC.out.t1 HC.out.t2 Hg0.out).symm.trans He.out), hex.trans xx⟩
      case measure => simpa using hlt
/-- What PolyGcd answers. -/
def gcdR (p : Int) (f g : List Int) : List Int × Bool := if (polyB p f && polyB p g) = true ∧ (f ≠ [] ∨ g ≠ []) then (gcdM p f g, true) else ([], false)
theorem gcdR_yes {p : Int} {f g : List Int} (h : (polyB p f && polyB p g) = true ∧ (f ≠ [] ∨ g ≠ [])) : gcdR p f g = (gcdM p f g, true) := if_pos h
theorem gcdR_no {p : Int} {f g : List Int} (h : ¬ ((polyB p f && polyB p g) = true ∧ (f ≠ [] ∨ g ≠ []))) : gcdR p f g = ([], false) := if_neg h
set_option maxHeartbeats 2000000 in
theorem PolyGcd_c (p : Int) (A B : Option Addr) (c d : Nat) (f g : List Int) (w : World) (hf : Rd w A f) (hg : Rd w B g) (ht : Tb w) :
    Calls Tryd.prog 84 #[.int .i64 p, .slice A f.length c, .slice B g.length d] w fun e w' => LB w (gcdR p f g) e w' := by
  have hl := hf.len
  have hl1 := hg.len
  have y := (Ex.refl w).alloc (.cells #[.slice A f.length c, .slice B g.length d] 31)
  have v2 := VB.new w 31 #[.slice A f.length c, .slice B g.length d]
  cases hp : (polyB p f && polyB p g) with
  | false =>
    have H := Lib.hid (gcdR_no (fun h => by rw [hp] at h; cases h.1) : gcdR p f g = ([], false))
    go_enter Tryd.func84, Tryd.ntmps84
    go_wp2_with fail
    generalize w.alloc (.cells #[.slice A f.length c, .slice B g.length d] 31) = W2 at *
    refine (arePolys2_c p _ A B c d f g W2 (v2.cell 0 rfl) (v2.cell 1 rfl) (hf.ex y) (hg.ex y) (ht.ex y)).mono ?_
    rintro e w' ⟨rfl, rfl⟩
    rw [hp]
    go_wp2_with fail
    go_ret2
    exact LB.nil_ rfl H.out y
  | true =>
    by_cases h0 : f ≠ [] ∨ g ≠ []
    · have H := Lib.hid (gcdR_yes ⟨hp, h0⟩)
      have hb2 := hp
      rw [Bool.and_eq_true] at hb2
      obtain ⟨hF, _, hne, tn⟩ := polyB_parts hb2.1
      obtain ⟨_, _, hde, td⟩ := polyB_parts hb2.2
      have hz : ((f.length : Int) + (g.length : Int) == 0) = false := by
        simp
        rcases h0 with h | h
        · have := List.length_pos_iff.2 h; omega
        · have := List.length_pos_iff.2 h; omega
      have HF := Lib.hid hF
      have Hne := Lib.hid hne
      have Hde := Lib.hid hde
      have H0 := Lib.hid h0
      have Hp := Lib.hid hp
      clear hF hne hde h0 hb2 hp
      go_enter Tryd.func84, Tryd.ntmps84
      go_wp2_with fail
      generalize w.alloc (.cells #[.slice A f.length c, .slice B g.length d] 31) = W2 at *
      refine (arePolys2_c p _ A B c d f g W2 (v2.cell 0 rfl) (v2.cell 1 rfl) (hf.ex y) (hg.ex y) (ht.ex y)).mono ?_
      rintro e w' ⟨rfl, rfl⟩
      rw [Hp.out]
      go_wp2_with fail
      refine (polyGcd_c p A B c d f g W2 (hf.ex y) (hg.ex y) HF.out Hne.out Hde.out tn td H0.out).mono ?_
      rintro e w1 ⟨A1, c1, rfl, f1, x1⟩
      have l1 := f1.rd.len
      go_wp2_with fail
      refine (clone_c A1 c1 _ w1 f1.rd).mono ?_
      rintro e w3 ⟨g3, c3, rfl, hc3, hg3, o3, x3⟩
      go_wp2_with fail
      go_ret2
      have s1 := y.size
      have s2 := x1.size
      refine LB.mk_ rfl (by rw [H.out]) (by rw [H.out]) ?_ ((y.trans x1).trans x3)
      rw [H.out]
      exact (o3.fr l1 (Nat.le_refl _) hc3).more (by omega)
    · have H := Lib.hid (gcdR_no (fun h => h0 h.2) : gcdR p f g = ([], false))
      have e1 : f = [] := by
        by_cases h : f = []
        · exact h
        · exact absurd (.inl h) h0
      have e2 : g = [] := by
        by_cases h : g = []
        · exact h
        · exact absurd (.inr h) h0
      have hz : ((f.length : Int) + (g.length : Int) == 0) = true := by rw [e1, e2]; rfl
      have Hp := Lib.hid hp
      clear h0 e1 e2 hp
      go_enter Tryd.func84, Tryd.ntmps84
      go_wp2_with fail
      generalize w.alloc (.cells #[.slice A f.length c, .slice B g.length d] 31) = W2 at *
      refine (arePolys2_c p _ A B c d f g W2 (v2.cell 0 rfl) (v2.cell 1 rfl) (hf.ex y) (hg.ex y) (ht.ex y)).mono ?_
      rintro e w' ⟨rfl, rfl⟩
      rw [Hp.out]
      go_wp2_with fail
      go_ret2
      exact LB.nil_ rfl H.out y
end Go.Proofs.YtpiplogjbeofoaaDoor
