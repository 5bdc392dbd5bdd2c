/- Contracts: quotients and remainders of both sides. -/
import Derived.Test.YtmekhjnhcgmphaaDoorPoly3
namespace Go.Proofs.YtmekhjnhcgmphaaDoor
set_option maxRecDepth 100000
open Go Go.RowKit
/-- Two fresh lists of ints, apart. -/
def LL (w : World) (q r : List Int) (e : Ending) (w' : World) : Prop :=
  ∃ A c B d, e = .returned (.tuple #[.slice A q.length c, .slice B r.length d]) ∧ Fr w' w.heap.size A c q ∧ Fr w' w.heap.size B d r ∧ Apart A B ∧ Ex w w'
theorem rep_at (k : Nat) (Q : List Int) : (List.replicate (k + 1) (0 : Int) ++ Q)[k]? = some 0 := by
  rw [List.getElem?_append_left (by simp)]; simp
theorem rep_set (k : Nat) (x : Int) (Q : List Int) : (List.replicate (k + 1) (0 : Int) ++ Q).set k x = List.replicate k 0 ++ (x :: Q) := by
  rw [List.replicate_succ', List.append_assoc, List.set_append_right _ _ (by simp)]
  simp
theorem apart_ne {g g' : Nat} {o o' : Nat} (h : g ≠ g') : Apart (some ⟨g, o, none⟩) (some ⟨g', o', none⟩) := fun a a' e e' => by
  injection e with e; injection e' with e'; subst e e'; exact h
theorem rep_at2 (k : Nat) (x : Int) (Q : List Int) : (List.replicate k (0 : Int) ++ (x :: Q))[k]? = some x := by
  rw [List.getElem?_append_right (by simp)]; simp
set_option maxHeartbeats 2000000 in
set_option maxRecDepth 100000 in
theorem polyDivide_c (p : Int) (A B : Option Addr) (c d : Nat) (f g : List Int) (w : World) (hf : Rd w A f) (hg : Rd w B g) (h2 : 2 ≤ p) (h97 : p ≤ 97) (hfe : allEl p f = true) (hge : allEl p g = true) (hg0 : g ≠ []) :
    Calls Tryd.prog 72 #[.int .i64 p, .slice A f.length c, .slice B g.length d] w fun e w' => LL w (pDivQ p f g) (pDivR p f g) e w' := by
  have hl := hf.len
  have hl' := hg.len
  have hgl := List.length_pos_iff.2 hg0
  by_cases hlt : f.length < g.length
  · have HQ := Lib.hid (show pDivQ p f g = [] by rw [pDivQ, if_pos hlt])
    have HR := Lib.hid (show pDivR p f g = f by rw [pDivR, if_pos hlt])
    go_enter Tryd.func72, Tryd.ntmps72
    go_wp2_with fail
    refine (clone_c A c f w hf).mono ?_
    rintro e w1 ⟨g1, c1, rfl, hc1, hg1, ho1, hx1⟩
    go_wp2
    go_ret2
    rw [HQ.out, HR.out]
    have ha := (Ex.refl w1).alloc (.cells #[] 3)
    refine ⟨some ⟨w1.heap.size, 0, none⟩, 0, some ⟨g1, 0, none⟩, c1, rfl, (Own.new w1 []).fr (by simp) hx1.size (Nat.le_refl _), (ho1.ex ha).fr hl hg1 hc1, apart_ne (by have := ho1.lt; omega), hx1.trans ha⟩
  · obtain ⟨m, hm⟩ : ∃ m : Nat, m = f.length - g.length + 1 := ⟨_, rfl⟩
    have hmi : (f.length : Int) - (g.length : Int) + 1 = (m : Int) := by omega
    have hmf : m + g.length = f.length + 1 := by omega
    obtain ⟨gl, hgl1⟩ : ∃ gl : Nat, g.length = gl + 1 := ⟨g.length - 1, by omega⟩
    obtain ⟨gA, goff, x, rfl, hx, hgA, hcell⟩ := hg.at_ (by omega : gl < g.length)
    have hxb := allEl_at hge hx
    have hcx : cf g (g.length - 1) = x := by rw [hgl1]; exact cf_of hx
    have HQ := Lib.hid (show pDivQ p f g = trim (divGo p g (invM p x) m f).1 by rw [pDivQ, if_neg hlt, hcx, ← hm])
    have HR := Lib.hid (show pDivR p f g = trim (divGo p g (invM p x) m f).2 by rw [pDivR, if_neg hlt, hcx, ← hm])
    have hinv := invM_bd x h2 (p := p)
    obtain ⟨b, hb⟩ : ∃ b, b = invM p x := ⟨_, rfl⟩
    rw [← hb] at HQ HR hinv
    have Hb := Lib.hid hb
    have Hfe := Lib.hid hfe
    have Hge := Lib.hid hge
    have Hg0 := Lib.hid hg0
    have Hmf := Lib.hid hmf
    have Hgl1 := Lib.hid hgl1
    have hm40 : m ≤ 1099511627776 := by omega
    have hgi : (g.length : Int) - 1 = (gl : Int) := by omega
    have hgl2 : gl < g.length := by omega
    have hgl3 : g.length ≤ gl + 1 := by omega
    clear hm hfe hge hg0 hx hcx hb hmf hgl1
    go_enter Tryd.func72, Tryd.ntmps72
    go_wp2_with fail
    refine (clone_c A c f w hf).mono ?_
    rintro e w1 ⟨gr, cr, rfl, hcr, hgr, hor, hx1⟩
    have hcell1 : w1.cell? ⟨gA, goff + gl, none⟩ = some (.int .i64 x) := (World.cell?_of_block (w := w) (a := ⟨gA, goff + gl, none⟩) (hx1.block hgA)).trans hcell
    clear hcell
    go_wp2_with fail
    refine (zeros_c m hm40 _).mono ?_
    rintro e w2 ⟨gq, rfl, hgq, hbq, hx2⟩
    have hcell2 : w2.cell? ⟨gA, goff + gl, none⟩ = some (.int .i64 x) := (World.cell?_of_block (w := w1) (a := ⟨gA, goff + gl, none⟩) (hx2.block (show gA < w1.heap.size by have := hx1.size; omega))).trans hcell1
    have hor2 := hor.ex hx2
    have hoq := hbq.own
    have hex2 := hx1.trans hx2
    have hne : gr ≠ gq := by have := hor.lt; omega
    have hgq2 : w.heap.size ≤ gq := by have := hx1.size; omega
    clear hcell1 hbq hor
    go_wp2_with fail
    refine (inverse_c p x _ h2 h97 hxb).mono ?_
    rintro e w3 ⟨rfl, rfl⟩
    rw [← Hb.out]
    go_wp2_with fail
    clear hcell2 hgi hmi
    go_loopw [11] (fun i wr => ∃ (k : Nat) (Q r : List Int), k ≤ m ∧ i = .int .i64 ((k : Int) - 1) ∧ Own wr gq (List.replicate k 0 ++ Q) ∧ Own wr gr r ∧ r.length = f.length ∧ allEl p r = true ∧ Q.length = m - k ∧
        (divGo p g b m f).1 = (divGo p g b k r).1 ++ Q ∧ (divGo p g b m f).2 = (divGo p g b k r).2 ∧ Ex w wr) (fun i _ => (intOf i + 1).toNat)
    case atStart => exact ⟨m, [], f, Nat.le_refl _, rfl, by simpa using hoq, hor2, rfl, Hfe.out, by simp, by simp, rfl, hex2⟩
    case round =>
      obtain ⟨k, Q, r, hk, rfl, hoQ, hoR, hrl, hre, hQl, hd1, hd2, hek⟩ := hrel
      have Hre := Lib.hid hre
      have Hd1 := Lib.hid hd1
      have Hd2 := Lib.hid hd2
      have HQl := Lib.hid hQl
      have Hrl := Lib.hid hrl
      clear hre hd1 hd2 hQl hrl
      cases k with
      | zero =>
        have e1 : (divGo p g b m f).1 = Q := by rw [Hd1.out]; rfl
        have e2 : (divGo p g b m f).2 = r := by rw [Hd2.out]; rfl
        rw [e1] at HQ
        rw [e2] at HR
        rw [List.replicate_zero, List.nil_append] at hoQ
        have hQm : Q.length = m := by rw [HQl.out]; omega
        have hrQ := hoQ.rd (by omega)
        have hrR := hoR.rd (by rw [Hrl.out]; omega)
        have HQm := Lib.hid hQm
        clear e1 e2 hQm
        go_wp2_with fail
        refine (trimmed_n _ m m Q _ hrQ HQm.out (Nat.le_refl _)).mono ?_
        rintro e w4 ⟨rfl, rfl⟩
        go_wp2_with fail
        refine (trimmed_n _ cr f.length r _ hrR Hrl.out hcr).mono ?_
        rintro e w5 ⟨rfl, rfl⟩
        go_wp2
        go_ret2
        rw [← HQ.out, ← HR.out]
        have q1 := hoQ.frTrim (B := w.heap.size) (by rw [HQm.out]; omega) hgq2
        have q2 := hoR.frTrim (B := w.heap.size) (by rw [Hrl.out]; omega) hgr
        rw [← HQ.out] at q1
        rw [← HR.out] at q2
        exact ⟨_, _, _, _, rfl, q1, q2, apart_ne hne.symm, hek⟩
      | succ k =>
        have hkf : k + gl < f.length := by have := Hmf.out; have := Hgl1.out; omega
        have hkm : k < m := by omega
        obtain ⟨z, hz⟩ : ∃ z, r[k + gl]? = some z := ⟨_, List.getElem?_eq_getElem (by rw [Hrl.out]; exact hkf)⟩
        have hcz := hoR.cell hz
        have hzb := allEl_at Hre.out hz
        have hczf : cf r (k + g.length - 1) = z := by rw [Hgl1.out]; exact cf_of hz
        have hzm := mul_bd (x := z) (y := b) ⟨by omega, by omega⟩ ⟨by omega, by omega⟩
        have hq0 := Int.emod_nonneg (z * b) (show p ≠ 0 by omega)
        have hq1 := Int.emod_lt_of_pos (z * b) (show 0 < p by omega)
        have hcq := hoQ.cell (rep_at k Q)
        have hfq := hoQ.frozen k
        have hsq := hoQ.set_ k (z * b % p)
        rw [rep_set] at hsq
        have hcq2 := hsq.cell (rep_at2 k (z * b % p) Q)
        have hsr : Own (World.setCell wr ⟨gq, k, none⟩ (.int .i64 (z * b % p))) gr r := hoR.ex1 ((Ex1.refl gq wr).setCell rfl _) hne
        have hes : Ex w (World.setCell wr ⟨gq, k, none⟩ (.int .i64 (z * b % p))) := hek.setCell hgq2 _
        have Hczf := Lib.hid hczf
        have e1 := Hd1.out
        have e2 := Hd2.out
        rw [divGo, hczf] at e1 e2
        simp only [List.append_assoc, List.singleton_append] at e1 e2
        have E1 := Lib.hid e1
        have E2 := Lib.hid e2
        have hgi : (k : Int) + (g.length : Int) - 1 = ((k + gl : Nat) : Int) := by have := Hgl1.out; omega
        clear hz hczf e1 e2
        rw [show (((k + 1 : Nat) : Int) - 1) = (k : Int) by omega]
        go_wp2_with fail
        generalize World.setCell wr ⟨gq, k, none⟩ (.int .i64 (z * b % p)) = W at *
        have w1 : IntKind.i64.wrap (-(z * b % p)) = -(z * b % p) := IntWalk.i64_in _ (by omega)
        have w2 : ¬ cr = k := by omega
        have w3 : k ≤ f.length := by omega
        refine wp_region_still_tail 10 (by kernel_rfl) (by kernel_rfl) ?_
        simp only [List.take_succ_cons, List.take_zero, List.drop_succ_cons, List.drop_zero]
        repeat still_step
        refine wpStill_nil ?_
        clear w1 w2 w3
        change wpList _ _ _ _ _ W.drew
        go_wp2_with fail
        refine (addTimes_c p gr k (f.length - k) (cr - k) r (-(z * b % p)) _ d g W.drew hsr (by rw [Hrl.out]; omega) (hg.ex hes.drew) (by have := Hmf.out; omega) (fun h0 => hg.off hgr h0) h2 h97 Hre.out Hge.out (by omega)).mono ?_
        rintro e w4 ⟨rfl, ho4, hx4⟩
        have hex4 : Ex w w4 := hes.drew.ex1 hx4 hgr
        have hoq4 : Own w4 gq _ := hsq.drew.ex1 hx4 hne.symm
        go_wp2_with fail
        go_roundw
        case rel =>
          refine ⟨k, z * b % p :: Q, _, by omega, by go_num, hoq4, ho4, by rw [addAt_len, Hrl.out], addAt_el Hre.out (by omega) _ _ _, ?_, E1.out, E2.out, hex4⟩
          rw [List.length_cons, HQl.out]; omega
        case measure => simp [intOf] <;> omega
theorem sub_mod (p a b : Int) : (a - b % p) % p = (a - b) % p := by rw [Int.sub_emod, Int.emod_emod, ← Int.sub_emod]
set_option maxHeartbeats 4000000 in
set_option maxRecDepth 100000 in
theorem poDiv_c (p : Int) (A B : Option Addr) (c d : Nat) (f g : List Int) (w : World) (hf : Rd w A f) (hg : Rd w B g) (hF : fieldB p = true) (hfe : allEl p f = true) (hge : allEl p g = true) (hg0 : g ≠ []) (tf : Tr f) (tg : Tr g) :
    Calls Tryd.prog 87 #[.int .i64 p, .slice A f.length c, .slice B g.length d] w fun e w' => LL w (pDivQ p f g) (pDivR p f g) e w' := by
  have h2 := fieldB_lo hF
  have h97 := fieldB_hi hF
  have hl := hf.len
  have hl' := hg.len
  have hgl := List.length_pos_iff.2 hg0
  obtain ⟨gl, hgl1⟩ : ∃ gl : Nat, g.length = gl + 1 := ⟨g.length - 1, by omega⟩
  obtain ⟨gA, goff, x, rfl, hx, hgA, hcell⟩ := hg.at_ (by omega : gl < g.length)
  have hxb := allEl_at hge hx
  have hcx : cf g (g.length - 1) = x := by rw [hgl1]; exact cf_of hx
  have hxp : 0 < x := by have := tg.last hg0; rw [hcx] at this; omega
  have hinv := invM_bd x h2 (p := p)
  have Hgl1 := Lib.hid hgl1
  have hgl2 : gl < g.length := by omega
  have hgl3 : g.length ≤ gl + 1 := by omega
  have hgi : (g.length : Int) - 1 = (gl : Int) := by omega
  have HF := Lib.hid hF
  by_cases hlt : f.length < g.length
  · have HQ := Lib.hid (show pDivQ p f g = [] by rw [pDivQ, if_pos hlt])
    have HR := Lib.hid (show pDivR p f g = f by rw [pDivR, if_pos hlt])
    have htf : trim f = f := tf
    have Htf := Lib.hid htf
    clear hgl1 hx hcx hF hfe hge hg0 htf
    go_enter Tryd.func87, Tryd.ntmps87
    go_wp2_with fail
    refine (l1Own_c A c f w hf).mono ?_
    rintro e w1 ⟨g1, c1, rfl, hc1, hg1, ho1, hx1⟩
    have hcell1 : w1.cell? ⟨gA, goff + gl, none⟩ = some (.int .i64 x) := (World.cell?_of_block (w := w) (a := ⟨gA, goff + gl, none⟩) (hx1.block hgA)).trans hcell
    clear hcell
    go_wp2_with fail
    refine (fdInv_c p x _ HF.out ⟨hxp, hxb.2⟩).mono ?_
    rintro e w2 ⟨rfl, rfl⟩
    go_wp2_with fail
    refine wp_loop_rounds 1 ?_
    rw [rounds_succ]
    go_wp2_with fail
    refine (poTrim_c none 0 [] _ (Rd.nil _ _) (Nat.le_refl _)).mono ?_
    rintro e w3 ⟨g3, c3, rfl, hc3, hg3, ho3, hx3⟩
    go_wp2_with fail
    refine (poTrim_c _ _ _ _ ((ho1.ex hx3).rd hl) hc1).mono ?_
    rintro e w4 ⟨g4, c4, rfl, hc4, hg4, ho4, hx4⟩
    rw [Htf.out] at hc4 ho4 ⊢
    go_wp2
    go_ret2
    rw [HQ.out, HR.out]
    have s1 := hx1.size
    have s3 := hx3.size
    have l3 := ho3.lt
    exact ⟨_, _, _, _, rfl, ((ho3.ex hx4).fr (Nat.zero_le _) (by omega) hc3), ho4.fr hl (by omega) hc4, apart_ne (by omega), (hx1.trans hx3).trans hx4⟩
  · obtain ⟨m, hm⟩ : ∃ m : Nat, m = f.length - g.length + 1 := ⟨_, rfl⟩
    have hmi : (f.length : Int) - (g.length : Int) + 1 = (m : Int) := by omega
    have hmf : m + g.length = f.length + 1 := by omega
    have HQ := Lib.hid (show pDivQ p f g = trim (divGo p g (invM p x) m f).1 by rw [pDivQ, if_neg hlt, hcx, ← hm])
    have HR := Lib.hid (show pDivR p f g = trim (divGo p g (invM p x) m f).2 by rw [pDivR, if_neg hlt, hcx, ← hm])
    obtain ⟨b, hb⟩ : ∃ b, b = invM p x := ⟨_, rfl⟩
    rw [← hb] at HQ HR hinv
    have Hb := Lib.hid hb
    have Hfe := Lib.hid hfe
    have Hge := Lib.hid hge
    have Hmf := Lib.hid hmf
    have hm40 : m ≤ 1099511627776 := by omega
    have hmk := fun W => run_make_ints m hm40 W
    clear hm hfe hge hg0 hx hcx hb hmf hF hgl1
    go_enter Tryd.func87, Tryd.ntmps87
    go_wp2_with fail
    refine (l1Own_c A c f w hf).mono ?_
    rintro e w1 ⟨gr, cr, rfl, hcr, hgr, hor, hx1⟩
    have hcell1 : w1.cell? ⟨gA, goff + gl, none⟩ = some (.int .i64 x) := (World.cell?_of_block (w := w) (a := ⟨gA, goff + gl, none⟩) (hx1.block hgA)).trans hcell
    have hx2 := (Ex.refl w1).alloc (iObj (List.replicate m 0))
    have hoq := Own.new w1 (List.replicate m 0)
    have hor2 := hor.ex hx2
    have hex2 := hx1.trans hx2
    have hne : gr ≠ w1.heap.size := by have := hor.lt; omega
    have hgq2 : w.heap.size ≤ w1.heap.size := hx1.size
    obtain ⟨gq, hgq⟩ : ∃ gq, gq = w1.heap.size := ⟨_, rfl⟩
    rw [← hgq] at hoq hne hgq2
    have Hgq := Lib.hid hgq
    have hcell2 : (w1.alloc (iObj (List.replicate m 0))).cell? ⟨gA, goff + gl, none⟩ = some (.int .i64 x) := (World.cell?_of_block (w := w1) (a := ⟨gA, goff + gl, none⟩) (hx2.block (show gA < w1.heap.size by have := hx1.size; omega))).trans hcell1
    clear hcell hor hgq hcell1
    go_wp2_with fail
    refine (fdInv_c p x _ HF.out ⟨hxp, hxb.2⟩).mono ?_
    rintro e w3 ⟨rfl, rfl⟩
    rw [← Hb.out]
    clear hcell2 hgi hmi hmk
    rw [← Hgq.out]
    generalize w1.alloc (iObj (List.replicate m 0)) = w2 at *
    go_wp2_with fail
    go_loopw [11] (fun i wr => ∃ (k : Nat) (Q r : List Int), k ≤ m ∧ i = .int .i64 ((k : Int) - 1) ∧ Own wr gq (List.replicate k 0 ++ Q) ∧ Own wr gr r ∧ r.length = f.length ∧ allEl p r = true ∧ Q.length = m - k ∧
        (divGo p g b m f).1 = (divGo p g b k r).1 ++ Q ∧ (divGo p g b m f).2 = (divGo p g b k r).2 ∧ Ex w wr) (fun i _ => (intOf i + 1).toNat)
    case atStart => exact ⟨m, [], f, Nat.le_refl _, rfl, by simpa using hoq, hor2, rfl, Hfe.out, by simp, by simp, rfl, hex2⟩
    case round =>
      obtain ⟨k, Q, r, hk, rfl, hoQ, hoR, hrl, hre, hQl, hd1, hd2, hek⟩ := hrel
      have Hre := Lib.hid hre
      have Hd1 := Lib.hid hd1
      have Hd2 := Lib.hid hd2
      have HQl := Lib.hid hQl
      have Hrl := Lib.hid hrl
      clear hre hd1 hd2 hQl hrl
      cases k with
      | zero =>
        have e1 : (divGo p g b m f).1 = Q := by rw [Hd1.out]; rfl
        have e2 : (divGo p g b m f).2 = r := by rw [Hd2.out]; rfl
        rw [e1] at HQ
        rw [e2] at HR
        rw [List.replicate_zero, List.nil_append] at hoQ
        have hQm : Q.length = m := by rw [HQl.out]; omega
        have hrQ := hoQ.rd (by omega)
        have hrR := hoR.rd (by rw [Hrl.out]; omega)
        have HQm := Lib.hid hQm
        clear e1 e2 hQm
        go_wp2_with fail
        rw [← HQm.out]
        refine (poTrim_c _ _ Q _ hrQ (Nat.le_refl _)).mono ?_
        rintro e w4 ⟨g4, c4, rfl, hc4, hg4, ho4, hx4⟩
        rw [← HQ.out] at hc4 ho4 ⊢
        go_wp2_with fail
        rw [← Hrl.out]
        refine (poTrim_c _ _ r _ (hrR.ex hx4) (by rw [Hrl.out]; exact hcr)).mono ?_
        rintro e w5 ⟨g5, c5, rfl, hc5, hg5, ho5, hx5⟩
        rw [← HR.out] at hc5 ho5 ⊢
        go_wp2
        go_ret2
        have s4 := hek.size
        have s5 := hx4.size
        have l4 := ho4.lt
        have lQ := pDivQ_le p f g
        have lR : (pDivR p f g).length ≤ f.length := by rw [HR.out]; have := trim_le r; rw [Hrl.out] at this; exact this
        exact ⟨_, _, _, _, rfl, ((ho4.ex hx5).fr (by have := Hmf.out; omega) (by omega) hc4), ho5.fr (by omega) (by omega) hc5, apart_ne (by omega), (hek.trans hx4).trans hx5⟩
      | succ k =>
        have hkf : k + gl < f.length := by have := Hmf.out; have := Hgl1.out; omega
        have hkm : k < m := by omega
        obtain ⟨z, hz⟩ : ∃ z, r[k + gl]? = some z := ⟨_, List.getElem?_eq_getElem (by rw [Hrl.out]; exact hkf)⟩
        have hcz := hoR.cell hz
        have hzb := allEl_at Hre.out hz
        have hczf : cf r (k + g.length - 1) = z := by rw [Hgl1.out]; exact cf_of hz
        have hzm := mul_bd (x := z) (y := b) ⟨by omega, by omega⟩ ⟨by omega, by omega⟩
        have hq0 := Int.emod_nonneg (z * b) (show p ≠ 0 by omega)
        have hq1 := Int.emod_lt_of_pos (z * b) (show 0 < p by omega)
        have hcq := hoQ.cell (rep_at k Q)
        have hfq := hoQ.frozen k
        have e1 := Hd1.out
        have e2 := Hd2.out
        rw [divGo, hczf] at e1 e2
        simp only [List.append_assoc, List.singleton_append] at e1 e2
        have hsq := hoQ.set_ k (z * b % p)
        rw [rep_set] at hsq
        have hsr : Own (World.setCell wr ⟨gq, k, none⟩ (.int .i64 (z * b % p))) gr r := hoR.ex1 ((Ex1.refl gq wr).setCell rfl _) hne
        have hes : Ex w (World.setCell wr ⟨gq, k, none⟩ (.int .i64 (z * b % p))) := hek.setCell hgq2 _
        have E1 := Lib.hid e1
        have E2 := Lib.hid e2
        have hgi : (k : Int) + (g.length : Int) - 1 = ((k + gl : Nat) : Int) := by have := Hgl1.out; omega
        clear hz hczf e1 e2
        rw [show (((k + 1 : Nat) : Int) - 1) = (k : Int) by omega]
        go_wp2_with fail
        refine (fdMul_c p z b _ h2 (by omega) (by omega)).mono ?_
        rintro e w5 ⟨rfl, rfl⟩
        generalize hqd : z * b % p = q at *
        have Hqd := Lib.hid hqd
        clear hqd
        go_wp2_with fail
        generalize World.setCell wr ⟨gq, k, none⟩ (.int .i64 q) = W at *
        clear hcq hfq hcz hgi
        go_loopw [61] (fun i wi => ∃ j : Nat, j ≤ g.length ∧ i = .int .i64 j ∧ Own wi gr (addAt p r k (-q) (g.take j)) ∧ Own wi gq (List.replicate k 0 ++ (q :: Q)) ∧ Ex w wi) (fun i _ => g.length - (intOf i).toNat)
        case atStart => exact ⟨0, Nat.zero_le _, rfl, by rw [List.take_zero, addAt_nil]; exact hsr, hsq, hes⟩
        case round =>
          obtain ⟨j, hj, rfl, hoj, hoqj, hej⟩ := hrel
          by_cases hjl : j < g.length
          · obtain ⟨g2, off2, y, hAe, hy, hg2, hcell2⟩ := (hg.ex hej).at_ hjl
            injection hAe with hAe
            injection hAe with ea eb _
            subst ea eb
            have hyb := allEl_at Hge.out hy
            have hkjn : k + j < f.length := by omega
            have hcf : (addAt p r k (-q) (g.take j))[k + j]? = some (cf r (k + j)) := addAt_at (by rw [Hrl.out]; exact hkjn) (by simp; omega)
            have hcx := hoj.cell hcf
            have hfz := hoj.frozen (k + j)
            have hzb := cf_bd Hre.out (by omega) (k + j)
            have hst := addAt_set0 p r k (-q) g j hjl hy rfl
            have hso := hoj.set_ (k + j) ((cf r (k + j) + -q * y) % p)
            have hsQ := hoqj.ex1 ((Ex1.refl gr wr).setCell (p := ⟨gr, k + j, none⟩) rfl (.int .i64 ((cf r (k + j) + -q * y) % p))) hne.symm
            rw [hst] at hso
            have hse := hej.setCell (p := ⟨gr, k + j, none⟩) hgr (.int .i64 ((cf r (k + j) + -q * y) % p))
            generalize cf r (k + j) = z at *
            have hzz : (z - q * y % p) % p = (z + -q * y) % p := by rw [sub_mod, Int.neg_mul, Int.sub_eq_add_neg]
            rw [← hzz] at hso hsQ hse
            have hzz2 : (z - q * y % p) % p = (z - q * y) % p := sub_mod _ _ _
            rw [hzz2] at hso hsQ hse
            have hxy := Int.emod_nonneg (q * y) (show p ≠ 0 by omega)
            have hxy2 := Int.emod_lt_of_pos (q * y) (show 0 < p by omega)
            clear hcf hy hst hzz hzz2
            have w1 : IntKind.i64.wrap ((k : Int) + (j : Int)) = (k : Int) + (j : Int) := IntWalk.i64_in _ (by omega)
            have w2 : (0 : Int) ≤ (k : Int) + (j : Int) := by omega
            have w3 : (k : Int) + (j : Int) < (f.length : Int) := by omega
            have w4 : ((k : Int) + (j : Int)).toNat = k + j := by omega
            go_wp2_with fail
            refine wp_region_still_tail 17 (by kernel_rfl) (by kernel_rfl) ?_
            simp only [List.take_succ_cons, List.take_zero, List.drop_succ_cons, List.drop_zero]
            repeat still_step
            refine wpStill_step (fun K hK => ?_)
            go_simp
            refine ⟨_, same_sym (fdMul_c p q y wr.drew h2 (by omega) (by omega)), hK _ ?_⟩
            clear hK K
            repeat still_step
            refine wpStill_step (fun K hK => ?_)
            go_simp
            refine ⟨_, same_sym (fdSub_c p z (q * y % p) wr.drew h2 h97 (by omega) (by omega)), hK _ ?_⟩
            clear hK K
            repeat still_step
            refine wpStill_nil ?_
            clear w1 w2 w3 w4
            change wpList _ _ _ _ _ wr.drew
            go_wp2_with fail
            go_roundw
            case rel => exact ⟨j + 1, by omega, by go_num, hso, hsQ, hse.drew⟩
            case measure => simp [intOf] <;> omega
          · obtain rfl : j = g.length := by omega
            rw [List.take_length] at hoj
            go_wp2_with fail
            go_roundw
            case rel =>
              refine ⟨k, q :: Q, _, by omega, by go_num, hoqj, hoj, by rw [addAt_len, Hrl.out], addAt_el Hre.out (by omega) _ _ _, ?_, E1.out, E2.out, hej⟩
              rw [List.length_cons, HQl.out]; omega
            case measure => simp [intOf] <;> omega
end Go.Proofs.YtmekhjnhcgmphaaDoor
