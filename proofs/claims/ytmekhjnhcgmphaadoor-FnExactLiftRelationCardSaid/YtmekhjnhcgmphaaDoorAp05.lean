/- Contracts: multiples, greatest common divisors, valid polynomials, on both sides. Plain arithmetic on fractions: when a pair of polynomials is a fraction in lowest terms. Contracts: lists of polynomials, fractions in lowest terms, valid fractions, on both sides. Contracts: valid fractions, on both sides; the laws' helpers on fractions. -/
import Derived.Test.YtmekhjnhcgmphaaDoorAp04
import Derived.Test.YtmekhjnhcgmphaaDoorAp00
import Derived.RegionCalls
import Derived.Deep.RegionWith
namespace Go.Proofs.YtmekhjnhcgmphaaDoor
set_option maxRecDepth 100000
open Go Go.RowKit
/-- A fresh list of ints. -/
def LI (w : World) (r : List Int) (e : Ending) (w' : World) : Prop := ∃ A c, e = .returned (.slice A r.length c) ∧ Fr w' w.heap.size A c r ∧ Ex w w'
set_option maxHeartbeats 400000 in
theorem poMonic_c (p : Int) (A : Option Addr) (c : Nat) (f : List Int) (w : World) (hf : Rd w A f) (hF : fieldB p = true) (hfe : allEl p f = true) (h0 : f ≠ []) (tf : Tr f) :
    Calls Tryd.prog 111 #[.int .i64 p, .slice A f.length c] w fun e w' => LI w (monicM p f) e w' := by
  have h2 := fieldB_lo hF
  have h97 := fieldB_hi hF
  have hl := hf.len
  have hfl := List.length_pos_iff.2 h0
  obtain ⟨gl, hgl⟩ : ∃ gl : Nat, f.length = gl + 1 := ⟨f.length - 1, by omega⟩
  obtain ⟨gA, goff, x, rfl, hx, hgA, hcell⟩ := hf.at_ (by omega : gl < f.length)
  have hxb := allEl_at hfe hx
  have hcx : cf f (f.length - 1) = x := by rw [hgl]; exact cf_of hx
  have hxp : 0 < x := by have := tf.last h0; rw [hcx] at this; omega
  have Hm := Lib.hid (show monicM p f = pScale p (invM p x) f by rw [monicM, hcx])
  have hinv := invM_bd x h2 (p := p)
  have hgi : (f.length : Int) - 1 = (gl : Int) := by omega
  have hgl2 : gl < f.length := by omega
  have Hfe := Lib.hid hfe
  have HF := Lib.hid hF
  clear hgl hx hcx hfe h0 hF
  go_enter Tryd.func111, Tryd.ntmps111
  go_wp2_with fail
  refine (fdInv_c p x _ HF.out ⟨hxp, hxb.2⟩).mono ?_
  rintro e w3 ⟨rfl, rfl⟩
  go_wp2_with fail
  refine (poTimes_c p _ c (invM p x) f _ hf h2 h97 Hfe.out (by omega)).mono ?_
  rintro e w1 ⟨A1, c1, rfl, f1, x1⟩
  go_wp2
  go_ret
  rw [← Hm.out] at f1 ⊢
  exact ⟨A1, c1, rfl, f1, x1⟩
set_option maxHeartbeats 1000000 in
theorem poGcd_c (p : Int) (A B : Option Addr) (c d : Nat) (f g : List Int) (w : World) (hf : Rd w A f) (hg : Rd w B g) (hF : fieldB p = true) (hfe : allEl p f = true) (hge : allEl p g = true) (tf : Tr f) (tg : Tr g) (h0 : f ≠ [] ∨ g ≠ []) :
    Calls Tryd.prog 86 #[.int .i64 p, .slice A f.length c, .slice B g.length d] w fun e w' => LI w (gcdM p f g) e w' := by
  have h2 := fieldB_lo hF
  have HF := Lib.hid hF
  have Hs := Lib.hid (⟨hfe, hge, tf, tg, h0⟩ : allEl p f = true ∧ allEl p g = true ∧ Tr f ∧ Tr g ∧ (f ≠ [] ∨ g ≠ []))
  clear hF hfe hge tf tg h0
  go_enter Tryd.func86, Tryd.ntmps86
  go_wp2_with fail
  go_loopw [1, 2] (fun a b wr => ∃ (A' B' : Option Addr) (c' d' : Nat) (f' g' : List Int), a = .slice A' f'.length c' ∧ b = .slice B' g'.length d' ∧ Rd wr A' f' ∧ Rd wr B' g' ∧
      Hid (allEl p f' = true ∧ allEl p g' = true ∧ Tr f' ∧ Tr g' ∧ (f' ≠ [] ∨ g' ≠ [])) ∧ Hid (gcdE p f' g' = gcdE p f g) ∧ Ex w wr) (fun _ b _ => match b with | .slice _ n _ => n | _ => 0)
  case atStart => exact ⟨A, B, c, d, f, g, rfl, rfl, hf, hg, Hs, Lib.hid rfl, Ex.refl w⟩
  case round =>
    obtain ⟨A', B', c', d', f', g', rfl, rfl, hf', hg', Hs', He, hex⟩ := hrel
    have hl1 := hf'.len
    have hl2 := hg'.len
    obtain ⟨e1, e2, t1, t2, n0⟩ := Hs'.out
    have He1 := Lib.hid e1
    have He2 := Lib.hid e2
    clear e1 e2
    by_cases hg0 : g' = []
    · subst hg0
      have hfn : f' ≠ [] := n0.resolve_right (by simp)
      have hE : gcdM p f g = monicM p f' := by rw [gcdM, ← He.out, gcdE_nil]
      have HE := Lib.hid hE
      have Hfn := Lib.hid hfn
      clear hE hfn n0
      go_wp2_with fail
      refine (poMonic_c p A' c' f' _ hf' HF.out He1.out Hfn.out t1).mono ?_
      rintro e w1 ⟨A1, c1, rfl, f1, x1⟩
      go_wp2
      go_ret
      rw [HE.out]
      exact ⟨A1, c1, rfl, f1.more hex.size, hex.trans x1⟩
    · have hgl := List.length_pos_iff.2 hg0
      have Hg0 := Lib.hid hg0
      clear hg0 n0
      go_wp2_with fail
      refine (poDiv_c p A' B' c' d' f' g' _ hf' hg' HF.out He1.out He2.out Hg0.out t1 t2).mono ?_
      rintro e w1 ⟨A1, c1, A2, c2, rfl, f1, f2, _, x1⟩
      have hlt := pDivR_lt HF.out He1.out He2.out t2 Hg0.out
      go_wp2_with fail
      go_roundw
      case rel => exact ⟨B', A2, d', c2, g', pDivR p f' g', rfl, rfl, hg'.ex x1, f2.rd, Lib.hid ⟨He2.out, pDivR_el (by omega) He1.out _, t2, pDivR_tr p t1 _, .inl Hg0.out⟩, Lib.hid ((gcdE_step HF.out He1.out He2.out t1 t2 Hg0.out).symm.trans He.out), hex.trans x1⟩
      case measure => simpa using hlt
theorem ne_of_tr_test {x : Int} : (x != 0) = decide (x ≠ 0) := by by_cases h : x = 0 <;> simp [h]
set_option maxHeartbeats 1000000 in
theorem poGood_c (p : Int) (A : Option Addr) (c : Nat) (f : List Int) (w : World) (hf : Rd w A f) :
    Calls Tryd.prog 117 #[.int .i64 p, .slice A f.length c] w fun e w' => e = .returned (.bool (polyB p f)) ∧ w = w' := by
  have hl := hf.len
  cases hF : fieldB p with
  | false =>
    have H := Lib.hid (show polyB p f = false by simp [polyB, hF])
    go_enter Tryd.func117, Tryd.ntmps117
    go_wp2_with (go_at_call 58; refine (fdGood_c _ _).mono ?_; rintro e w' ⟨rfl, rfl⟩)
    go_ret
    exact ⟨by rw [H.out]; rfl, rfl⟩
  | true =>
  have h2 := fieldB_lo hF
  have h97 := fieldB_hi hF
  by_cases h41 : f.length ≤ 41
  case neg =>
    have H := Lib.hid (show polyB p f = false by simp [polyB, h41])
    go_enter Tryd.func117, Tryd.ntmps117
    go_wp2_with (go_at_call 58; refine (fdGood_c _ _).mono ?_; rintro e w' ⟨rfl, rfl⟩)
    go_ret
    exact ⟨by rw [H.out]; rfl, rfl⟩
  cases hE : allEl p f with
  | false =>
    have H := Lib.hid (show polyB p f = false by simp [polyB, hE])
    go_enter Tryd.func117, Tryd.ntmps117
    go_wp2_with (first | (go_at_call 58; refine (fdGood_c _ _).mono ?_; rintro e w' ⟨rfl, rfl⟩) | (go_at_call 59; refine (fdIn_c _ _ _ _ _ hf h2 h97).mono ?_; rintro e w' ⟨rfl, rfl⟩))
    go_ret
    exact ⟨by rw [H.out]; rfl, rfl⟩
  | true =>
  by_cases h0 : f = []
  · subst h0
    have H := Lib.hid (show polyB p [] = true by simp [polyB, hF, hE])
    go_enter Tryd.func117, Tryd.ntmps117
    go_wp2_with (first | (go_at_call 58; refine (fdGood_c _ _).mono ?_; rintro e w' ⟨rfl, rfl⟩) | (go_at_call 59; refine (fdIn_c _ _ _ [] _ hf h2 h97).mono ?_; rintro e w' ⟨rfl, rfl⟩))
    go_ret
    exact ⟨by rw [H.out]; rfl, rfl⟩
  · have hfl := List.length_pos_iff.2 h0
    have hb0 : ((f.length : Int) == 0) = false := by simp; omega
    obtain ⟨gl, hgl⟩ : ∃ gl : Nat, f.length = gl + 1 := ⟨f.length - 1, by omega⟩
    obtain ⟨gA, goff, x, rfl, hx, hgA, hcell⟩ := hf.at_ (by omega : gl < f.length)
    have hcx : cf f (f.length - 1) = x := by rw [hgl]; exact cf_of hx
    have H := Lib.hid (show polyB p f = (x != 0) by simp only [polyB, hF, hE, h41, hcx, ne_of_tr_test]; simp; intro h; exact absurd h h0)
    have hgi : (f.length : Int) - 1 = (gl : Int) := by omega
    have hgl2 : gl < f.length := by omega
    clear hgl hx hcx h0
    go_enter Tryd.func117, Tryd.ntmps117
    go_wp2_with (first | (go_at_call 58; refine (fdGood_c _ _).mono ?_; rintro e w' ⟨rfl, rfl⟩) | (go_at_call 59; refine (fdIn_c _ _ _ _ _ hf h2 h97).mono ?_; rintro e w' ⟨rfl, rfl⟩))
    go_ret
    exact ⟨by rw [H.out]; rfl, rfl⟩
end Go.Proofs.YtmekhjnhcgmphaaDoor
namespace Go.Proofs.YtmekhjnhcgmphaaDoor
set_option maxRecDepth 100000
theorem gcdL_len {p : Int} (hF : fieldB p = true) : ∀ (n : Nat) {f g : List Int}, allEl p f = true → allEl p g = true → Tr f → Tr g → (gcdL p n f g).length ≤ max f.length g.length
  | 0, f, g, _, _, _, _ => by rw [gcdL]; omega
  | n + 1, f, g, hf, hg, tf, tg => by
    rw [gcdL]
    split
    · omega
    · rename_i h0
      have h2 := fieldB_lo hF
      have hl := pDivR_lt hF hf hg tg h0
      have := gcdL_len hF n hg (pDivR_el (by omega) hf g) tg (pDivR_tr p tf g)
      omega
theorem gcdE_len {p : Int} (hF : fieldB p = true) {f g : List Int} (hf : allEl p f = true) (hg : allEl p g = true) (tf : Tr f) (tg : Tr g) (h0 : g ≠ []) : (gcdE p f g).length ≤ g.length := by
  have h2 := fieldB_lo hF
  have hl := pDivR_lt hF hf hg tg h0
  rw [gcdE_step hF hf hg tf tg h0, gcdE]
  have := gcdL_len hF ((pDivR p f g).length + 1) hg (pDivR_el (by omega) hf g) tg (pDivR_tr p tf g)
  omega
theorem gcdM_len {p : Int} (hF : fieldB p = true) {f g : List Int} (hf : allEl p f = true) (hg : allEl p g = true) (tf : Tr f) (tg : Tr g) (h0 : f ≠ [] ∨ g ≠ []) : (gcdM p f g).length = (gcdE p f g).length ∧ cf (gcdM p f g) ((gcdM p f g).length - 1) = 1 := by
  have h2 := fieldB_lo hF
  have := monicM_len hF (gcdE_el (by omega) hf hg) (gcdE_tr p tf tg) (gcdE_ne p h0)
  refine ⟨this.1, ?_⟩
  rw [gcdM, this.1]; exact this.2
theorem gcdM_ne {p : Int} (hF : fieldB p = true) {f g : List Int} (hf : allEl p f = true) (hg : allEl p g = true) (tf : Tr f) (tg : Tr g) (h0 : f ≠ [] ∨ g ≠ []) : gcdM p f g ≠ [] := by
  intro e
  have := (gcdM_len hF hf hg tf tg h0).1
  rw [e] at this
  exact gcdE_ne p h0 (List.eq_nil_of_length_eq_zero this.symm)
theorem divGo_last (p : Int) (g : List Int) (b : Int) (k : Nat) (r : List Int) : cf (divGo p g b (k + 1) r).1 k = cf r (k + g.length - 1) * b % p := by
  rw [divGo]
  simp only [cf]
  rw [List.getElem?_append_right (by rw [(divGo_len _ _ _ _ _).1]; exact Nat.le_refl _), (divGo_len _ _ _ _ _).1]
  simp
/-- The quotient's length. -/
theorem pDivQ_len {p : Int} (hF : fieldB p = true) {f g : List Int} (hf : allEl p f = true) (hg : allEl p g = true) (tf : Tr f) (tg : Tr g) (hg0 : g ≠ []) (hle : g.length ≤ f.length) : (pDivQ p f g).length = f.length - g.length + 1 := by
  have h2 := fieldB_lo hF
  have hgl := List.length_pos_iff.2 hg0
  have hf0 : f ≠ [] := by intro e; rw [e] at hle; simp at hle; exact hg0 hle
  rw [pDivQ, if_neg (by omega)]
  have hlen := (divGo_len p g (invM p (cf g (g.length - 1))) (f.length - g.length + 1) f).1
  have ht : Tr (divGo p g (invM p (cf g (g.length - 1))) (f.length - g.length + 1) f).1 := by
    refine Tr.of_last (by intro e; rw [e] at hlen; simp at hlen) ?_
    rw [hlen, Nat.add_sub_cancel, divGo_last]
    have b1 := cf_bd hf (show 0 < p by omega) (f.length - 1)
    have b2 := cf_bd hg (show 0 < p by omega) (g.length - 1)
    have n1 := tf.last hf0
    have n2 := tg.last hg0
    have e : f.length - g.length + g.length - 1 = f.length - 1 := by omega
    rw [e]
    have hi := invM_bd (cf g (g.length - 1)) h2
    have hg1 : 0 < cf g (g.length - 1) := by omega
    have hm := inv_mul hF hg1 b2.2
    have hi0 : invM p (cf g (g.length - 1)) ≠ 0 := by intro e; rw [e] at hm; simp at hm
    exact noz hF ⟨by omega, b1.2⟩ ⟨by have := hi.1; omega, hi.2⟩
  rw [ht, hlen]
/-! ### Division by 1 -/
theorem inv_one {p : Int} (h2 : 2 ≤ p) : invM p 1 = 1 := by rw [invM, Int.one_pow]; exact Int.emod_eq_of_lt (by omega) (by omega)
theorem el_one {p : Int} (h2 : 2 ≤ p) : allEl p [1] = true := by simp [allEl, elB]; omega
theorem tr_one : Tr [1] := rfl
theorem divGo_one {p : Int} (h2 : 2 ≤ p) (k : Nat) : ∀ {r : List Int}, allEl p r = true → k ≤ r.length → (divGo p [1] 1 k r).1 = r.take k := by
  induction k with
  | zero => intro r _ _; rfl
  | succ k ih =>
    intro r hr hk
    rw [divGo, ih (addAt_el hr (by omega) _ _ _) (by rw [addAt_len]; omega)]
    simp only [List.length_singleton, Nat.add_sub_cancel, Int.mul_one]
    have hb := cf_bd hr (show 0 < p by omega) k
    rw [Int.emod_eq_of_lt hb.1 hb.2, List.take_add_one]
    have hk' : r[k]? = some (cf r k) := by rw [cf, List.getElem?_eq_getElem (by omega)]; rfl
    rw [hk']
    congr 1
    apply cf_ext (by rw [List.length_take, List.length_take, addAt_len])
    intro i
    by_cases hi : i < k
    · simp only [cf, List.getElem?_take, if_pos hi]
      have := addAt_cf p r k (-cf r k) [1] i
      simp only [cf] at this
      rw [this]
      rw [if_pos (by omega), if_neg (by omega)]
    · rw [cf_ge (by rw [List.length_take]; omega), cf_ge (by rw [List.length_take]; omega)]
theorem pDivQ_one {p : Int} (h2 : 2 ≤ p) {f : List Int} (hf : allEl p f = true) (tf : Tr f) : pDivQ p f [1] = f := by
  rw [pDivQ]
  split
  · rename_i h
    simp at h
    exact h.symm
  · rename_i h
    have e : invM p (cf [1] (([1] : List Int).length - 1)) = 1 := inv_one h2
    have hfl : 1 ≤ f.length := by simp at h; exact List.length_pos_iff.2 h
    rw [e, divGo_one h2 _ hf (by simp; omega)]
    rw [List.take_of_length_le (by simp; omega)]
    exact tf
theorem pScale_one {p : Int} (h2 : 2 ≤ p) {f : List Int} (hf : allEl p f = true) (tf : Tr f) : pScale p 1 f = f := by
  have t1 := pAdd_tr p [] 1 f
  unfold Tr at t1 tf
  rw [← tf, pScale]
  conv => lhs; rw [tf]
  rw [← t1]
  refine trim_ext fun i => ?_
  have := pScale_cf p 1 f (by omega) i
  rw [pScale] at this
  have hb := cf_bd hf (show 0 < p by omega) i
  rw [this, Int.one_mul, Int.emod_eq_of_lt hb.1 hb.2]
theorem pScale_len {p : Int} (hF : fieldB p = true) {b : Int} (hb : 0 < b ∧ b < p) {f : List Int} (hf : allEl p f = true) (tf : Tr f) : (pScale p b f).length = f.length := by
  have h2 := fieldB_lo hF
  by_cases h0 : f = []
  · subst h0; rfl
  have hfl := List.length_pos_iff.2 h0
  have hle : (pScale p b f).length ≤ f.length := by have := pAdd_le p [] b f; simpa [pScale] using this
  rcases Nat.lt_or_ge (pScale p b f).length f.length with h | h
  · have h1 := pScale_cf p b f (by omega) (f.length - 1)
    rw [cf_ge (by omega)] at h1
    have b1 := cf_bd hf (show 0 < p by omega) (f.length - 1)
    have n1 := tf.last h0
    exact absurd h1.symm (noz hF hb ⟨by omega, b1.2⟩)
  · omega

/-! ### Fractions -/
/-- The fraction num / den in lowest terms. -/
def lowM (p : Int) (num den : List Int) : List Int := pDivQ p den (gcdM p num den)
def lowBy (p : Int) (num den : List Int) : Int := invM p (cf (lowM p num den) ((lowM p num den).length - 1))
def lowN (p : Int) (num den : List Int) : List Int := if num = [] then [] else pScale p (lowBy p num den) (pDivQ p num (gcdM p num den))
def lowD (p : Int) (num den : List Int) : List Int := if num = [] then [1] else pScale p (lowBy p num den) (lowM p num den)
/-- num / den is a fraction in lowest terms. -/
def fracB (p : Int) (num den : List Int) : Bool := polyB p num && polyB p den && decide (num.length ≤ 21) && decide (den.length ≤ 21) && decide (den ≠ []) && decide (cf den (den.length - 1) = 1) && decide ((gcdM p num den).length = 1)
theorem lowM_len {p : Int} (hF : fieldB p = true) {num den : List Int} (hn : allEl p num = true) (hd : allEl p den = true) (tn : Tr num) (td : Tr den) (hd0 : den ≠ []) :
    (lowM p num den).length = den.length - (gcdM p num den).length + 1 ∧ 1 ≤ (gcdM p num den).length ∧ (gcdM p num den).length ≤ den.length := by
  have h2 := fieldB_lo hF
  have hg := gcdM_len hF hn hd tn td (.inr hd0)
  have hgl := gcdE_len hF hn hd tn td hd0
  have hgn := List.length_pos_iff.2 (gcdM_ne hF hn hd tn td (.inr hd0))
  refine ⟨pDivQ_len hF hd (gcdM_el (by omega) _ _) td (gcdM_tr _ _ _) (gcdM_ne hF hn hd tn td (.inr hd0)) (by omega), hgn, by omega⟩
theorem gcdM_one {p : Int} (hF : fieldB p = true) {num den : List Int} (hn : allEl p num = true) (hd : allEl p den = true) (tn : Tr num) (td : Tr den) (hd0 : den ≠ []) (h1 : (gcdM p num den).length = 1) : gcdM p num den = [1] := by
  have hg := (gcdM_len hF hn hd tn td (.inr hd0)).2
  rw [h1] at hg
  match hm : gcdM p num den, h1 with
  | [x], _ => rw [hm] at hg; simp [cf] at hg; rw [hg]
/-- A pair of polynomials equals its own form in lowest terms just if the denominator is monic and the greatest common divisor is 1. -/
theorem low_self {p : Int} (hF : fieldB p = true) {num den : List Int} (hn : allEl p num = true) (hd : allEl p den = true) (tn : Tr num) (td : Tr den) (hd0 : den ≠ []) :
    (lowN p num den = num ∧ lowD p num den = den) ↔ (cf den (den.length - 1) = 1 ∧ (gcdM p num den).length = 1) := by
  have h2 := fieldB_lo hF
  have hdl := List.length_pos_iff.2 hd0
  by_cases hn0 : num = []
  · subst hn0
    have hr : pDivR p [] den = [] := by rw [pDivR, if_pos (by simpa using hdl)]
    have hE : gcdE p [] den = den := by rw [gcdE_step hF hn hd tn td hd0, hr, gcdE_nil]
    have hgl := (gcdM_len hF hn hd tn td (.inr hd0)).1
    rw [hE] at hgl
    rw [lowN, lowD, if_pos rfl, if_pos rfl, hgl]
    constructor
    · rintro ⟨_, h⟩; rw [← h]; exact ⟨rfl, rfl⟩
    · rintro ⟨h1, h2⟩
      refine ⟨rfl, ?_⟩
      match den, h2 with
      | [x], _ => simp [cf] at h1; rw [h1]
  · obtain ⟨hml, hg1, hgd⟩ := lowM_len hF hn hd tn td hd0
    have hme : allEl p (lowM p num den) = true := pDivQ_el (by omega) hd _
    have hmt : Tr (lowM p num den) := pDivQ_tr _ _ _
    have hm0 : lowM p num den ≠ [] := by intro e; rw [e] at hml; simp at hml
    have hmon := monicM_len hF hme hmt hm0
    have hLD : lowD p num den = monicM p (lowM p num den) := by rw [lowD, if_neg hn0, lowBy, monicM]
    constructor
    · rintro ⟨_, h⟩
      rw [hLD] at h
      have hl := hmon.1
      rw [h] at hl
      refine ⟨?_, by omega⟩
      have := hmon.2
      rw [h, ← hl] at this
      exact this
    · rintro ⟨hmo, h1⟩
      have hg := gcdM_one hF hn hd tn td hd0 h1
      have hM : lowM p num den = den := by rw [lowM, hg, pDivQ_one h2 hd td]
      have hB : lowBy p num den = 1 := by rw [lowBy, hM, hmo, inv_one h2]
      rw [lowN, lowD, if_neg hn0, if_neg hn0, hB, hM, hg, pDivQ_one h2 hn tn, pScale_one h2 hn tn, pScale_one h2 hd td]
      exact ⟨rfl, rfl⟩
theorem fracB_parts {p : Int} {num den : List Int} (h : fracB p num den = true) : fieldB p = true ∧ polyB p num = true ∧ polyB p den = true ∧ num.length ≤ 21 ∧ den.length ≤ 21 ∧ den ≠ [] ∧ cf den (den.length - 1) = 1 ∧ (gcdM p num den).length = 1 := by
  simp only [fracB, Bool.and_eq_true, decide_eq_true_eq] at h
  exact ⟨(polyB_parts h.1.1.1.1.1.1).1, h.1.1.1.1.1.1, h.1.1.1.1.1.2, h.1.1.1.1.2, h.1.1.1.2, h.1.1.2, h.1.2, h.2⟩
end Go.Proofs.YtmekhjnhcgmphaaDoor
namespace Go.Proofs.YtmekhjnhcgmphaaDoor
set_option maxRecDepth 100000
open Go Go.RowKit
/-- The slice that begins at A holds the values vs, one cell each. -/
def RdV (w : World) (A : Option Addr) (vs : List Value) : Prop :=
  vs.length ≤ 1099511627776 ∧ ∀ (j : Nat) (v : Value), vs[j]? = some v → ∃ g off, A = some ⟨g, off, none⟩ ∧ w.cell? ⟨g, off + j, none⟩ = some v
/-- The slice value v reads as the ints xs. -/
def IsS (w : World) (v : Value) (xs : List Int) : Prop := ∃ A c, v = .slice A xs.length c ∧ Rd w A xs
theorem IsS.ex {w w' : World} {v : Value} {xs : List Int} (h : IsS w v xs) (he : Ex w w') : IsS w' v xs := by
  obtain ⟨A, c, hv, hr⟩ := h
  exact ⟨A, c, hv, hr.ex he⟩
theorem RdV.at_ {w : World} {A : Option Addr} {vs : List Value} (h : RdV w A vs) {k : Nat} (hk : k < vs.length) :
    ∃ g off v, A = some ⟨g, off, none⟩ ∧ vs[k]? = some v ∧ g < w.heap.size ∧ w.cell? ⟨g, off + k, none⟩ = some v := by
  obtain ⟨g, off, hA, hc⟩ := h.2 k _ (List.getElem?_eq_getElem hk)
  exact ⟨g, off, _, hA, List.getElem?_eq_getElem hk, cell_lt hc, hc⟩
theorem RdV.ex {w w' : World} {A : Option Addr} {vs : List Value} (h : RdV w A vs) (he : Ex w w') : RdV w' A vs :=
  ⟨h.1, fun j v hj => by
    obtain ⟨g, off, hA, hc⟩ := h.2 j v hj
    exact ⟨g, off, hA, (World.cell?_of_block (w := w) (a := ⟨g, off + j, none⟩) (he.block (cell_lt (p := ⟨g, off + j, none⟩) hc))).trans hc⟩⟩
/-- A new row of values. -/
theorem RdV.new (w : World) (vs : List Value) (t : TypeId) (hl : vs.length ≤ 1099511627776) : RdV (w.alloc (.cells vs.toArray t)) (some ⟨w.heap.size, 0, none⟩) vs :=
  ⟨hl, fun j v hj => ⟨w.heap.size, 0, rfl, by
    rw [Nat.zero_add, World.cell?_alloc_at _ _ _ _ rfl]; simpa using hj⟩⟩
/-- lowest: a fresh fraction. -/
def FF (w : World) (num den : List Int) (e : Ending) (w' : World) : Prop :=
  ∃ A c B d, e = .returned (.agg #[.slice A num.length c, .slice B den.length d]) ∧ Fr w' w.heap.size A c num ∧ Fr w' w.heap.size B d den ∧ Apart A B ∧ Ex w w'
end Go.Proofs.YtmekhjnhcgmphaaDoor
namespace Go.Proofs.YtmekhjnhcgmphaaDoor
set_option maxRecDepth 100000
open Go Go.RowKit
theorem box2 (w : World) (a b : Value) (t : TypeId) : (w.alloc (.cells #[a, b] t)).cell? ⟨w.heap.size, 0, none⟩ = some a ∧ (w.alloc (.cells #[a, b] t)).cell? ⟨w.heap.size, 1, none⟩ = some b := by
  constructor <;> (rw [World.cell?_alloc_at _ _ _ _ rfl]; rfl)
theorem box2a (w : World) (a b : Value) (t : TypeId) (o : Obj) : ((w.alloc (.cells #[a, b] t)).alloc o).cell? ⟨w.heap.size, 0, none⟩ = some a ∧ ((w.alloc (.cells #[a, b] t)).alloc o).cell? ⟨w.heap.size, 1, none⟩ = some b := by
  have h := box2 w a b t
  constructor
  · rw [World.cell?_alloc_past _ _ _ (by simp)]; exact h.1
  · rw [World.cell?_alloc_past _ _ _ (by simp)]; exact h.2
theorem box2b (w : World) (a b : Value) (t : TypeId) (o : Obj) : ((w.alloc o).alloc (.cells #[a, b] t)).cell? ⟨w.heap.size + 1, 0, none⟩ = some a ∧ ((w.alloc o).alloc (.cells #[a, b] t)).cell? ⟨w.heap.size + 1, 1, none⟩ = some b := by
  constructor <;> (rw [World.cell?_alloc_at _ _ _ _ (by simp)]; rfl)
end Go.Proofs.YtmekhjnhcgmphaaDoor
