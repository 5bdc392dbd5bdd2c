/- Contracts: multiples, greatest common divisors, valid polynomials, on both sides. -/
import Derived.Test.YtmekhjnhcgmphaaDoorPoly5
namespace Go.Proofs.YtmekhjnhcgmphaaDoor
set_option maxRecDepth 100000
open Go Go.RowKit
/-- A fresh list of ints. -/
def LI (w : World) (r : List Int) (e : Ending) (w' : World) : Prop := ∃ A c, e = .returned (.slice A r.length c) ∧ Fr w' w.heap.size A c r ∧ Ex w w'
set_option maxHeartbeats 400000 in
theorem scaled_c (p : Int) (A : Option Addr) (c : Nat) (b : Int) (f : List Int) (w : World) (hf : Rd w A f) (h2 : 2 ≤ p) (h97 : p ≤ 97) (hfe : allEl p f = true) (hb : -96 ≤ b ∧ b ≤ 96) :
    Calls Tryd.prog 73 #[.int .i64 p, .slice A f.length c, .int .i64 b] w fun e w' => LI w (pScale p b f) e w' := by
  go_enter Tryd.func73, Tryd.ntmps73
  go_wp2_with fail
  refine (polyAdd_c p none A 0 c [] f b w (Rd.nil _ _) hf h2 h97 (allEl_nil p) hfe hb).mono ?_
  rintro e w1 ⟨A1, c1, rfl, f1, x1⟩
  go_wp2
  go_ret
  exact ⟨A1, c1, rfl, f1, x1⟩
set_option maxHeartbeats 400000 in
theorem monic_c (p : Int) (A : Option Addr) (c : Nat) (f : List Int) (w : World) (hf : Rd w A f) (h2 : 2 ≤ p) (h97 : p ≤ 97) (hfe : allEl p f = true) (h0 : f ≠ []) :
    Calls Tryd.prog 97 #[.int .i64 p, .slice A f.length c] w fun e w' => LI w (monicM p f) e w' := by
  have hl := hf.len
  have hfl := List.length_pos_iff.2 h0
  obtain ⟨gl, hgl⟩ : ∃ gl : Nat, f.length = gl + 1 := ⟨f.length - 1, by omega⟩
  obtain ⟨gA, goff, x, rfl, hx, hgA, hcell⟩ := hf.at_ (by omega : gl < f.length)
  have hxb := allEl_at hfe hx
  have hcx : cf f (f.length - 1) = x := by rw [hgl]; exact cf_of hx
  have Hm := Lib.hid (show monicM p f = pScale p (invM p x) f by rw [monicM, hcx])
  have hinv := invM_bd x h2 (p := p)
  have hgi : (f.length : Int) - 1 = (gl : Int) := by omega
  have hgl2 : gl < f.length := by omega
  have Hfe := Lib.hid hfe
  clear hgl hx hcx hfe h0
  go_enter Tryd.func97, Tryd.ntmps97
  go_wp2_with fail
  refine (inverse_c p x _ h2 h97 hxb).mono ?_
  rintro e w3 ⟨rfl, rfl⟩
  go_wp2_with fail
  refine (scaled_c p _ c (invM p x) f _ hf h2 h97 Hfe.out (by omega)).mono ?_
  rintro e w1 ⟨A1, c1, rfl, f1, x1⟩
  go_wp2
  go_ret
  rw [← Hm.out] at f1 ⊢
  exact ⟨A1, c1, rfl, f1, x1⟩
set_option maxHeartbeats 400000 in
theorem poMonic_c (p : Int) (A : Option Addr) (c : Nat) (f : List Int) (w : World) (hf : Rd w A f) (hF : fieldB p = true) (hfe : allEl p f = true) (h0 : f ≠ []) (tf : Tr f) :
    Calls Tryd.prog 111 #[.int .i64 p, .slice A f.length c] w fun e w' => LI w (monicM p f) e w' := by
  have h2 := fieldB_lo hF
  have h97 := fieldB_hi hF
  have hl := hf.len
  have hfl := List.length_pos_iff.2 h0
  obtain ⟨gl, hgl⟩ : ∃ gl : Nat, f.length = gl + 1 := ⟨f.length - 1, by omega⟩
  obtain ⟨gA, goff, x, rfl, hx, hgA, hcell⟩ := hf.at_ (by omega : gl < f.length)
  have hxb := allEl_at hfe hx
  have hcx : cf f (f.length - 1) = x := by rw [hgl]; exact cf_of hx
  have hxp : 0 < x := by have := tf.last h0; rw [hcx] at this; omega
  have Hm := Lib.hid (show monicM p f = pScale p (invM p x) f by rw [monicM, hcx])
  have hinv := invM_bd x h2 (p := p)
  have hgi : (f.length : Int) - 1 = (gl : Int) := by omega
  have hgl2 : gl < f.length := by omega
  have Hfe := Lib.hid hfe
  have HF := Lib.hid hF
  clear hgl hx hcx hfe h0 hF
  go_enter Tryd.func111, Tryd.ntmps111
  go_wp2_with fail
  refine (fdInv_c p x _ HF.out ⟨hxp, hxb.2⟩).mono ?_
  rintro e w3 ⟨rfl, rfl⟩
  go_wp2_with fail
  refine (poTimes_c p _ c (invM p x) f _ hf h2 h97 Hfe.out (by omega)).mono ?_
  rintro e w1 ⟨A1, c1, rfl, f1, x1⟩
  go_wp2
  go_ret
  rw [← Hm.out] at f1 ⊢
  exact ⟨A1, c1, rfl, f1, x1⟩
set_option maxHeartbeats 1000000 in
theorem polyGcd_c (p : Int) (A B : Option Addr) (c d : Nat) (f g : List Int) (w : World) (hf : Rd w A f) (hg : Rd w B g) (hF : fieldB p = true) (hfe : allEl p f = true) (hge : allEl p g = true) (tf : Tr f) (tg : Tr g) (h0 : f ≠ [] ∨ g ≠ []) :
    Calls Tryd.prog 71 #[.int .i64 p, .slice A f.length c, .slice B g.length d] w fun e w' => LI w (gcdM p f g) e w' := by
  have h2 := fieldB_lo hF
  have h97 := fieldB_hi hF
  have HF := Lib.hid hF
  have Hs := Lib.hid (⟨hfe, hge, tf, tg, h0⟩ : allEl p f = true ∧ allEl p g = true ∧ Tr f ∧ Tr g ∧ (f ≠ [] ∨ g ≠ []))
  clear hF hfe hge tf tg h0
  go_enter Tryd.func71, Tryd.ntmps71
  go_wp2_with fail
  go_loopw [1, 2] (fun a b wr => ∃ (A' B' : Option Addr) (c' d' : Nat) (f' g' : List Int), a = .slice A' f'.length c' ∧ b = .slice B' g'.length d' ∧ Rd wr A' f' ∧ Rd wr B' g' ∧
      Hid (allEl p f' = true ∧ allEl p g' = true ∧ Tr f' ∧ Tr g' ∧ (f' ≠ [] ∨ g' ≠ [])) ∧ Hid (gcdE p f' g' = gcdE p f g) ∧ Ex w wr) (fun _ b _ => match b with | .slice _ n _ => n | _ => 0)
  case atStart => exact ⟨A, B, c, d, f, g, rfl, rfl, hf, hg, Hs, Lib.hid rfl, Ex.refl w⟩
  case round =>
    obtain ⟨A', B', c', d', f', g', rfl, rfl, hf', hg', Hs', He, hex⟩ := hrel
    have hl1 := hf'.len
    have hl2 := hg'.len
    obtain ⟨e1, e2, t1, t2, n0⟩ := Hs'.out
    have He1 := Lib.hid e1
    have He2 := Lib.hid e2
    clear e1 e2
    by_cases hg0 : g' = []
    · subst hg0
      have hfn : f' ≠ [] := n0.resolve_right (by simp)
      have hfl := List.length_pos_iff.2 hfn
      have hbf : ((f'.length : Int) == 0) = false := by simp; omega
      have hE : gcdM p f g = monicM p f' := by rw [gcdM, ← He.out, gcdE_nil]
      have HE := Lib.hid hE
      have Hfn := Lib.hid hfn
      clear hE hfn n0
      go_wp2_with fail
      refine (monic_c p A' c' f' _ hf' h2 h97 He1.out Hfn.out).mono ?_
      rintro e w1 ⟨A1, c1, rfl, f1, x1⟩
      go_wp2
      go_ret
      rw [HE.out]
      exact ⟨A1, c1, rfl, f1.more hex.size, hex.trans x1⟩
    · have hgl := List.length_pos_iff.2 hg0
      have Hg0 := Lib.hid hg0
      clear hg0 n0
      go_wp2_with fail
      refine (polyDivide_c p A' B' c' d' f' g' _ hf' hg' h2 h97 He1.out He2.out Hg0.out).mono ?_
      rintro e w1 ⟨A1, c1, A2, c2, rfl, f1, f2, _, x1⟩
      have hlt := pDivR_lt HF.out He1.out He2.out t2 Hg0.out
      go_wp2_with fail
      go_roundw
      case rel => exact ⟨B', A2, d', c2, g', pDivR p f' g', rfl, rfl, hg'.ex x1, f2.rd, Lib.hid ⟨He2.out, pDivR_el (by omega) He1.out _, t2, pDivR_tr p t1 _, .inl Hg0.out⟩, Lib.hid ((gcdE_step HF.out He1.out He2.out t1 t2 Hg0.out).symm.trans He.out), hex.trans x1⟩
      case measure => simpa using hlt
set_option maxHeartbeats 1000000 in
theorem poGcd_c (p : Int) (A B : Option Addr) (c d : Nat) (f g : List Int) (w : World) (hf : Rd w A f) (hg : Rd w B g) (hF : fieldB p = true) (hfe : allEl p f = true) (hge : allEl p g = true) (tf : Tr f) (tg : Tr g) (h0 : f ≠ [] ∨ g ≠ []) :
    Calls Tryd.prog 86 #[.int .i64 p, .slice A f.length c, .slice B g.length d] w fun e w' => LI w (gcdM p f g) e w' := by
  have h2 := fieldB_lo hF
  have HF := Lib.hid hF
  have Hs := Lib.hid (⟨hfe, hge, tf, tg, h0⟩ : allEl p f = true ∧ allEl p g = true ∧ Tr f ∧ Tr g ∧ (f ≠ [] ∨ g ≠ []))
  clear hF hfe hge tf tg h0
  go_enter Tryd.func86, Tryd.ntmps86
  go_wp2_with fail
  go_loopw [1, 2] (fun a b wr => ∃ (A' B' : Option Addr) (c' d' : Nat) (f' g' : List Int), a = .slice A' f'.length c' ∧ b = .slice B' g'.length d' ∧ Rd wr A' f' ∧ Rd wr B' g' ∧
      Hid (allEl p f' = true ∧ allEl p g' = true ∧ Tr f' ∧ Tr g' ∧ (f' ≠ [] ∨ g' ≠ [])) ∧ Hid (gcdE p f' g' = gcdE p f g) ∧ Ex w wr) (fun _ b _ => match b with | .slice _ n _ => n | _ => 0)
  case atStart => exact ⟨A, B, c, d, f, g, rfl, rfl, hf, hg, Hs, Lib.hid rfl, Ex.refl w⟩
  case round =>
    obtain ⟨A', B', c', d', f', g', rfl, rfl, hf', hg', Hs', He, hex⟩ := hrel
    have hl1 := hf'.len
    have hl2 := hg'.len
    obtain ⟨e1, e2, t1, t2, n0⟩ := Hs'.out
    have He1 := Lib.hid e1
    have He2 := Lib.hid e2
    clear e1 e2
    by_cases hg0 : g' = []
    · subst hg0
      have hfn : f' ≠ [] := n0.resolve_right (by simp)
      have hE : gcdM p f g = monicM p f' := by rw [gcdM, ← He.out, gcdE_nil]
      have HE := Lib.hid hE
      have Hfn := Lib.hid hfn
      clear hE hfn n0
      go_wp2_with fail
      refine (poMonic_c p A' c' f' _ hf' HF.out He1.out Hfn.out t1).mono ?_
      rintro e w1 ⟨A1, c1, rfl, f1, x1⟩
      go_wp2
      go_ret
      rw [HE.out]
      exact ⟨A1, c1, rfl, f1.more hex.size, hex.trans x1⟩
    · have hgl := List.length_pos_iff.2 hg0
      have Hg0 := Lib.hid hg0
      clear hg0 n0
      go_wp2_with fail
      refine (poDiv_c p A' B' c' d' f' g' _ hf' hg' HF.out He1.out He2.out Hg0.out t1 t2).mono ?_
      rintro e w1 ⟨A1, c1, A2, c2, rfl, f1, f2, _, x1⟩
      have hlt := pDivR_lt HF.out He1.out He2.out t2 Hg0.out
      go_wp2_with fail
      go_roundw
      case rel => exact ⟨B', A2, d', c2, g', pDivR p f' g', rfl, rfl, hg'.ex x1, f2.rd, Lib.hid ⟨He2.out, pDivR_el (by omega) He1.out _, t2, pDivR_tr p t1 _, .inl Hg0.out⟩, Lib.hid ((gcdE_step HF.out He1.out He2.out t1 t2 Hg0.out).symm.trans He.out), hex.trans x1⟩
      case measure => simpa using hlt
theorem ne_of_tr_test {x : Int} : (x != 0) = decide (x ≠ 0) := by by_cases h : x = 0 <;> simp [h]
set_option maxHeartbeats 1000000 in
theorem isPoly_c (p : Int) (A : Option Addr) (c : Nat) (f : List Int) (w : World) (hf : Rd w A f) (ht : Tb w) :
    Calls Tryd.prog 112 #[.int .i64 p, .slice A f.length c] w fun e w' => e = .returned (.bool (polyB p f)) ∧ w = w' := by
  have hl := hf.len
  cases hF : fieldB p with
  | false =>
    have H := Lib.hid (show polyB p f = false by simp [polyB, hF])
    go_enter Tryd.func112, Tryd.ntmps112
    go_wp2_with (go_at_call 50; refine (isField_c _ _ ht).mono ?_; rintro e w' ⟨rfl, rfl⟩)
    go_ret
    exact ⟨by rw [H.out]; rfl, rfl⟩
  | true =>
  by_cases h41 : f.length ≤ 41
  case neg =>
    have H := Lib.hid (show polyB p f = false by simp [polyB, h41])
    go_enter Tryd.func112, Tryd.ntmps112
    go_wp2_with (go_at_call 50; refine (isField_c _ _ ht).mono ?_; rintro e w' ⟨rfl, rfl⟩)
    go_ret
    exact ⟨by rw [H.out]; rfl, rfl⟩
  cases hE : allEl p f with
  | false =>
    have H := Lib.hid (show polyB p f = false by simp [polyB, hE])
    go_enter Tryd.func112, Tryd.ntmps112
    go_wp2_with (first | (go_at_call 50; refine (isField_c _ _ ht).mono ?_; rintro e w' ⟨rfl, rfl⟩) | (go_at_call 64; refine (isVector_c _ _ _ _ _ _ hf).mono ?_; rintro e w' ⟨rfl, rfl⟩))
    go_ret
    exact ⟨by rw [H.out]; rfl, rfl⟩
  | true =>
  by_cases h0 : f = []
  · subst h0
    have H := Lib.hid (show polyB p [] = true by simp [polyB, hF, hE])
    go_enter Tryd.func112, Tryd.ntmps112
    go_wp2_with (first | (go_at_call 50; refine (isField_c _ _ ht).mono ?_; rintro e w' ⟨rfl, rfl⟩) | (go_at_call 64; refine (isVector_c _ _ _ [] _ _ hf).mono ?_; rintro e w' ⟨rfl, rfl⟩))
    go_ret
    exact ⟨by rw [H.out]; rfl, rfl⟩
  · have hfl := List.length_pos_iff.2 h0
    have hb0 : ((f.length : Int) == 0) = false := by simp; omega
    obtain ⟨gl, hgl⟩ : ∃ gl : Nat, f.length = gl + 1 := ⟨f.length - 1, by omega⟩
    obtain ⟨gA, goff, x, rfl, hx, hgA, hcell⟩ := hf.at_ (by omega : gl < f.length)
    have hcx : cf f (f.length - 1) = x := by rw [hgl]; exact cf_of hx
    have H := Lib.hid (show polyB p f = (x != 0) by simp only [polyB, hF, hE, h41, hcx, ne_of_tr_test]; simp; intro h; exact absurd h h0)
    have hgi : (f.length : Int) - 1 = (gl : Int) := by omega
    have hgl2 : gl < f.length := by omega
    clear hgl hx hcx h0
    go_enter Tryd.func112, Tryd.ntmps112
    go_wp2_with (first | (go_at_call 50; refine (isField_c _ _ ht).mono ?_; rintro e w' ⟨rfl, rfl⟩) | (go_at_call 64; refine (isVector_c _ _ _ _ _ _ hf).mono ?_; rintro e w' ⟨rfl, rfl⟩))
    go_ret
    exact ⟨by rw [H.out]; rfl, rfl⟩
end Go.Proofs.YtmekhjnhcgmphaaDoor
