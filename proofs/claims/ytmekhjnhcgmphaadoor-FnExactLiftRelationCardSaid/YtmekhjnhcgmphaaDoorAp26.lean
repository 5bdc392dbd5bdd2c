/- RatRelationFrom: the program. Printed by a program of mine. A step of an elimination: the program's rowOperation.apply. The program's step of an elimination, in the rows and in what goes along: reduction's closure. The program's elimination over Z/p: reduction. -/
import Derived.Test.YtmekhjnhcgmphaaDoorAp25
import Derived.Test.YtmekhjnhcgmphaaDoorAp24
import Derived.Test.YtmekhjnhcgmphaaDoorAp04
import Derived.RegionCalls
import Derived.Deep.RegionWith
import Derived.Deep.RegionHeld3
import Derived.BigRegion
import Derived.Test.YtmekhjnhcgmphaaDoorAp11
namespace Go.Proofs.YtmekhjnhcgmphaaDoor
set_option maxRecDepth 100000
open Go Go.RowKit
theorem totF_le {p : Int} {L : Nat} {r : List Fra} (h : GdR p L r) : totF r ≤ 2 * L * r.length := by
  induction r with
  | nil => exact Int.le_refl _
  | cons x r ih =>
    have h1 := ih fun y hy => h y (List.mem_cons_of_mem _ hy)
    have h2 : totF (x :: r) = EF.tot x + totF r := totS_cons EF x r
    have h3 := (h x List.mem_cons_self).2
    have h4 : EF.tot x = (x.n.length : Int) + (x.d.length : Int) := rfl
    have h5 := h3.1
    have h6 := h3.2
    rw [h2, h4, List.length_cons]
    have : ((2 * L * (r.length + 1) : Nat) : Int) = 2 * L * r.length + 2 * L := by rw [Nat.mul_add]; push_cast; omega
    push_cast at this ⊢
    omega
theorem totFF_le {p : Int} {L n : Nat} {b : List (List Fra)} (h : GdM p L b) (hw : Wid n b) : totFF b ≤ 2 * L * n * b.length := by
  induction b with
  | nil => exact Int.le_refl _
  | cons r b ih =>
    have h1 := ih (fun y hy => h y (List.mem_cons_of_mem _ hy)) (fun y hy => hw y (List.mem_cons_of_mem _ hy))
    have h2 : totFF (r :: b) = totF r + totFF b := totS_cons EFF _ _
    have h3 := totF_le (h r List.mem_cons_self)
    rw [hw r List.mem_cons_self] at h3
    rw [h2, List.length_cons]
    have : ((2 * L * n * (b.length + 1) : Nat) : Int) = 2 * L * n * b.length + 2 * L * n := by rw [Nat.mul_add]; push_cast; omega
    push_cast at this ⊢
    omega
theorem rrB_tot {p : Int} {x : RRel} (h : rrB p x = true) : totFF x.b ≤ 1000000 := by
  obtain ⟨l, r, _, _, hlr, hg, hw, _, hb, _⟩ := rrB_has h
  have h1 := totFF_le hg hw
  have h2 : ((2 * 21 * (l + r) * x.b.length : Nat) : Int) ≤ ((2 * 21 * 12 * 12 : Nat) : Int) := by
    have := Nat.mul_le_mul (Nat.mul_le_mul (Nat.le_refl (2 * 21)) hlr) hb
    exact_mod_cast this
  push_cast at h1 h2
  omega
theorem ifU_tot (p : Int) (x : RRel) : totFF (ifU p x).1.b ≤ 1125899906842624 := by
  cases h : rrB p x with
  | true => rw [ifU_yes h]; have := rrB_tot h; show totFF x.b ≤ _; omega
  | false => rw [ifU_no h]; show (0 : Int) ≤ _; omega
end Go.Proofs.YtmekhjnhcgmphaaDoor
namespace Go.Proofs.YtmekhjnhcgmphaaDoor
set_option maxRecDepth 100000
open Go Go.RowKit
set_option maxHeartbeats 1000000 in
theorem applyX_c (p : Int) (G n : Nat) (bs : List Nat) (rows : List (List Int)) (R c i k : Nat) (b : Int) (w : World) (h : IM w G n bs rows) (hR : rows.length = R) (hi : i < R) (hk : k < R) (hne : i ≠ k) (_ : R ≤ 1000) :
    Calls Tryd.prog 116 #[.agg #[.int .i64 0, .int .i64 i, .int .i64 k, .int .i64 b], .int .i64 p, .slice (some ⟨G, 0, none⟩) R c] w fun e w' => ∃ bs' ri rk, e = .returned (.tuple #[]) ∧ rows[i]? = some ri ∧ rows[k]? = some rk ∧ IM w' G n bs' ((rows.set i rk).set k ri) ∧ (∀ z : Nat, z ∈ bs' → z ∈ bs) ∧ Ex1 G w w' := by
  obtain ⟨bi, ri, ci, hci, hbi, hri, hrl, ho, hng, c0⟩ := h.at_ (j := i) (by omega)
  obtain ⟨bk, rk, ck, hck, hbk, hrk, hrl2, ho2, hng2, c1⟩ := h.at_ (j := k) (by omega)
  have y0 := (Ex.refl w).alloc (.cells #[.int .i64 0, .int .i64 i, .int .i64 k, .int .i64 b] 119)
  have d0 := VB.new w 119 #[.int .i64 0, .int .i64 i, .int .i64 k, .int .i64 b]
  have h' := h.ex y0
  go_enter Tryd.func116, Tryd.ntmps116
  go_wp2_with fail
  generalize w.alloc (.cells #[.int .i64 0, .int .i64 i, .int .i64 k, .int .i64 b] 119) = W0 at *
  have q1 := d0.cell 1 (v := .int .i64 i) rfl
  have q2 := d0.cell 2 (v := .int .i64 k) rfl
  have q0 := d0.cell 0 (v := .int .i64 0) rfl
  have c0' := cell_ex y0 c0
  have c1' := cell_ex y0 c1
  have z0 := h'.frozen i
  have z1 := h'.frozen k
  have HS := Lib.hid (h'.swap hbi hbk hri hrk hci hck)
  have Hri := Lib.hid hri
  have Hrk := Lib.hid hrk
  have hgl := h.lt
  have hg1 : ¬ w.heap.size = G := by omega
  have hg2 : ¬ G = w.heap.size := by omega
  have hne2 : ¬ k = i := fun e => hne e.symm
  have hne1 : ¬ i = k := hne
  have HB := Lib.hid (show ∀ z : Nat, z ∈ (bs.set i bk).set k bi → z ∈ bs from fun z hz => by
    rcases List.mem_or_eq_of_mem_set hz with hz | rfl
    · rcases List.mem_or_eq_of_mem_set hz with hz | rfl
      · exact hz
      · exact List.mem_of_getElem? hbk
    · exact List.mem_of_getElem? hbi)
  clear c0 c1 h h' hri hrk hbi hbk hrl hrl2 ho ho2 hR hci hck
  go_region
  all_goals
    go_wp2_with fail
    first | rw [Exit.noGoto_ret] | skip
    refine bodyPost_end (results_none rfl _ _ _) rfl ?_
    exact ⟨_, ri, rk, rfl, Hri.out, Hrk.out, HS.out.ex (Ex.refl _).drew, HB.out, (Ex1.of_ex y0).trans (((Ex1.refl G _).setCell (p := ⟨G, i, none⟩) rfl _).setCell (p := ⟨G, k, none⟩) rfl _).drew⟩
set_option maxHeartbeats 4000000 in
theorem applyD_c (p : Int) (G n : Nat) (bs : List Nat) (rows : List (List Int)) (R c i bi : Nat) (b o : Int) (ri : List Int) (w : World) (h : IM w G n bs rows) (hR : rows.length = R) (hri : rows[i]? = some ri) (hbi : bs[i]? = some bi) (h2 : 2 ≤ p) (h97 : p ≤ 97) (hb : 0 ≤ b ∧ b < p) (he : allEl p ri = true) (hn : n ≤ 1000) (_ : R ≤ 1000) :
    Calls Tryd.prog 116 #[.agg #[.int .i64 1, .int .i64 i, .int .i64 o, .int .i64 b], .int .i64 p, .slice (some ⟨G, 0, none⟩) R c] w fun e w' => e = .returned (.tuple #[]) ∧ IM w' G n bs (rows.set i (mulI p (invM p b) ri n)) ∧ Ex1 bi w w' := by
  have hi : i < R := by have := (List.getElem?_eq_some_iff.1 hri).1; omega
  obtain ⟨bi', ri', ci, hci, hbi', hri', hrl, ho, hng, c0⟩ := h.at_ (j := i) (by omega)
  rw [hri] at hri'
  injection hri' with hri'
  subst hri'
  rw [hbi] at hbi'
  injection hbi' with hbi'
  subst hbi'
  have y0 := (Ex.refl w).alloc (.cells #[.int .i64 1, .int .i64 i, .int .i64 o, .int .i64 b] 119)
  have d0 := VB.new w 119 #[.int .i64 1, .int .i64 i, .int .i64 o, .int .i64 b]
  have h' := h.ex y0
  have hlt := ho.lt
  have o0 := ho.ex y0
  have Hrl := Lib.hid hrl
  have Hbi := Lib.hid hbi
  have He := Lib.hid he
  have hib := invM_bd (p := p) b h2
  clear hrl hbi he ho h hR hri
  go_enter Tryd.func116, Tryd.ntmps116
  go_wp2_with fail
  refine (inverse_c p b _ h2 h97 hb).mono ?_
  rintro e _ ⟨rfl, rfl⟩
  generalize w.alloc (.cells #[.int .i64 1, .int .i64 i, .int .i64 o, .int .i64 b] 119) = W0 at *
  obtain ⟨k, hk⟩ : ∃ k, invM p b = k := ⟨_, rfl⟩
  have Hk := Lib.hid hk
  rw [hk] at hib ⊢
  clear hk
  have q1 := d0.cell 1 (v := .int .i64 i) rfl
  have c0' := cell_ex y0 c0
  clear c0
  go_wp2_with fail
  go_loopw [43] (fun s43 wr => ∃ j : Nat, j ≤ n ∧ s43 = .int .i64 j ∧ Own wr bi (mulI p k ri j) ∧ Ex1 bi W0 wr) (fun s43 _ => n - (intOf s43).toNat)
  case atStart => exact ⟨0, Nat.zero_le _, rfl, by rw [mulI_zero]; exact o0, Ex1.refl _ _⟩
  case round =>
    rename World => wl
    obtain ⟨j, hj, rfl, hO, hk1⟩ := hrel
    have g1 := Ex1.cellz hk1 (fun e => hng e.symm) c0'
    have g0 := Ex1.cellz hk1 (by omega) q1
    by_cases hjn : j < n
    · obtain ⟨y, hy⟩ : ∃ y, ri[j]? = some y := ⟨_, List.getElem?_eq_getElem (by rw [Hrl.out]; exact hjn)⟩
      have hyb := allEl_at He.out hy
      have g2 := hO.cell ((mulI_at (p := p) (k := k) (by rw [Hrl.out]; exact hjn)).trans hy)
      have g3 := hO.frozen j
      have HS := Lib.hid (mulI_succ (p := p) (k := k) hy)
      have hm := mul_bd (x := y) (y := k) ⟨by omega, by omega⟩ ⟨by omega, by omega⟩
      have u2 : IntKind.i64.wrap (y * k) = y * k := IntWalk.i64_in _ (by omega)
      have u4 : (y * k).tmod p = y * k % p := Int.tmod_eq_emod_of_nonneg (by omega)
      have hp0 : ¬ p = 0 := by omega
      clear hy
      go_wp2_with fail
      go_still_tail 12, (by kernel_rfl)
      change wpList _ _ _ _ _ wl.drew
      go_wp2_with fail
      go_roundw
      case rel => exact ⟨j + 1, by omega, by go_num, by rw [← HS.out]; exact hO.drew.set_ _ _, hk1.drew.setCell rfl _⟩
      case measure => simp [intOf]; omega
    · have hjj : j = n := by omega
      subst hjj
      have hM3 := h'.turn Hbi.out hO (by rw [mulI_len (by rw [Hrl.out]; exact Nat.le_refl _), Hrl.out]) hk1
      clear h' hO o0 g1 g0
      go_wp2_with fail
      first | rw [Exit.noGoto_ret] | skip
      refine bodyPost_end (results_none rfl _ _ _) rfl ?_
      rw [Hk.out]
      exact ⟨rfl, hM3, (Ex1.of_ex y0).trans hk1⟩
theorem addAt_less {p f : Int} {u l : List Int} (h : u.length = l.length) : addAt p u 0 (-f) l = (zpOps p).less u f l := by
  apply List.ext_getElem?
  intro j
  by_cases hj : j < u.length
  · have e1 := less_at (p := p) (f := f) (List.getElem?_eq_getElem hj) (List.getElem?_eq_getElem (by omega : j < l.length))
    rw [e1]
    unfold addAt
    rw [List.getElem?_map, List.getElem?_range hj]
    show some (if 0 ≤ j ∧ j - 0 < l.length then (cf u j + -f * cf l (j - 0)) % p else cf u j) = _
    rw [if_pos ⟨Nat.zero_le _, by omega⟩, Nat.sub_zero, cf_of (List.getElem?_eq_getElem hj), cf_of (List.getElem?_eq_getElem (by omega : j < l.length))]
    congr 1
    rw [show u[j] + -f * l[j]'(by omega) = u[j] - f * l[j]'(by omega) by rw [Int.neg_mul]; omega]
    simp
  · rw [List.getElem?_eq_none (by rw [addAt_len]; omega), List.getElem?_eq_none (by rw [lessI_len _ h]; omega)]
set_option maxHeartbeats 4000000 in
theorem applyS_c (p : Int) (G n : Nat) (bs : List Nat) (rows : List (List Int)) (R c i k bi : Nat) (b : Int) (ri rk : List Int) (w : World) (h : IM w G n bs rows) (hR : rows.length = R) (hri : rows[i]? = some ri) (hrk : rows[k]? = some rk) (hbi : bs[i]? = some bi) (hne : i ≠ k) (h2 : 2 ≤ p) (h97 : p ≤ 97) (hb : 0 ≤ b ∧ b < p) (he : allEl p ri = true) (he2 : allEl p rk = true) (hn : n ≤ 1000) (_ : R ≤ 1000) :
    Calls Tryd.prog 116 #[.agg #[.int .i64 2, .int .i64 i, .int .i64 k, .int .i64 b], .int .i64 p, .slice (some ⟨G, 0, none⟩) R c] w fun e w' => e = .returned (.tuple #[]) ∧ IM w' G n bs (rows.set i ((zpOps p).less ri b rk)) ∧ Ex1 bi w w' := by
  have hi : i < R := by have := (List.getElem?_eq_some_iff.1 hri).1; omega
  have hk : k < R := by have := (List.getElem?_eq_some_iff.1 hrk).1; omega
  obtain ⟨bi', ri', ci, hci, hbi', hri', hrl, ho, hng, c0⟩ := h.at_ (j := i) (by omega)
  rw [hri] at hri'
  injection hri' with hri'
  subst hri'
  rw [hbi] at hbi'
  injection hbi' with hbi'
  subst hbi'
  obtain ⟨bk, rk', ck, hck, hbk, hrk', hrkl, hok, hngk, c1⟩ := h.at_ (j := k) (by omega)
  rw [hrk] at hrk'
  injection hrk' with hrk'
  subst hrk'
  have hbb : bk ≠ bi := fun e => hne (h.nd i k bi hbi (e ▸ hbk))
  have y0 := (Ex.refl w).alloc (.cells #[.int .i64 2, .int .i64 i, .int .i64 k, .int .i64 b] 119)
  have d0 := VB.new w 119 #[.int .i64 2, .int .i64 i, .int .i64 k, .int .i64 b]
  have h' := h.ex y0
  have o0 := ho.ex y0
  have r0 := (hok.ex y0).rd (by omega)
  have HA := Lib.hid (addAt_less (p := p) (f := b) (u := ri) (l := rk) (by omega))
  have cA := addTimesW_c p bi 0 n ci ri (-b) (some ⟨bk, 0, none⟩) ck rk _ o0.drew (by omega) r0.drew (by omega) (fun _ a e => by injection e with e; rw [← e]; exact hbb) h2 h97 he he2 ⟨by omega, by omega⟩
  have Hl := Lib.hid (show ((zpOps p).less ri b rk).length = n by rw [lessI_len _ (by omega), hrl])
  have Hbi := Lib.hid hbi
  have c0' := cell_ex y0 c0
  have c1' := cell_ex y0 c1
  have q1 := d0.cell 1 (v := .int .i64 i) rfl
  have q2 := d0.cell 2 (v := .int .i64 k) rfl
  have q3 := d0.cell 3 (v := .int .i64 b) rfl
  rw [HA.out, hrkl] at cA
  clear hrl hbi he he2 ho hok h hR hri hrk c0 c1 o0 r0 HA hrkl
  go_enter Tryd.func116, Tryd.ntmps116
  go_wp2_with fail
  generalize w.alloc (.cells #[.int .i64 2, .int .i64 i, .int .i64 k, .int .i64 b] 119) = W0 at *
  go_still_tail 14, (by kernel_rfl)
  change wpList _ _ _ _ _ W0.drew
  go_wp2_with fail
  refine cA.mono ?_
  rintro e w1 ⟨rfl, o1, k1⟩
  have hM3 := h'.turn Hbi.out o1 Hl.out (Ex1.trans (Ex1.refl _ W0).drew k1)
  have kk := Ex1.trans (Ex1.of_ex y0.drew) k1
  clear cA h' o1 k1
  go_wp2_with fail
  first | rw [Exit.noGoto_ret] | skip
  refine bodyPost_end (results_none rfl _ _ _) rfl ?_
  exact ⟨rfl, hM3, kk⟩
set_option maxHeartbeats 4000000 in
theorem applyN0_c (p : Int) (H R c i k : Nat) (b : Int) (w : World) (h : NilM w H R) (hi : i < R) (hk : k < R) (hne : i ≠ k) (_ : R ≤ 1000) :
    Calls Tryd.prog 116 #[.agg #[.int .i64 0, .int .i64 i, .int .i64 k, .int .i64 b], .int .i64 p, .slice (some ⟨H, 0, none⟩) R c] w fun e w' => e = .returned (.tuple #[]) ∧ NilM w' H R ∧ Ex1 H w w' := by
  have y0 := (Ex.refl w).alloc (.cells #[.int .i64 0, .int .i64 i, .int .i64 k, .int .i64 b] 119)
  have d0 := VB.new w 119 #[.int .i64 0, .int .i64 i, .int .i64 k, .int .i64 b]
  have q1 := d0.cell 1 (v := .int .i64 i) rfl
  have q2 := d0.cell 2 (v := .int .i64 k) rfl
  have hlt := h.lt
  have h' := h.keep (y0.block hlt)
  have c0 := h'.cell hi
  have c1 := h'.cell hk
  have z0 := h'.frozen i
  have z1 := h'.frozen k
  have hg1 : ¬ w.heap.size = H := by omega
  have hg2 : ¬ H = w.heap.size := by omega
  have hne2 : ¬ k = i := fun e => hne e.symm
  go_enter Tryd.func116, Tryd.ntmps116
  go_wp2_with fail
  generalize w.alloc (.cells #[.int .i64 0, .int .i64 i, .int .i64 k, .int .i64 b] 119) = W0 at *
  have hN := ((h'.set i).set k).keep (w' := ((W0.setCell ⟨H, i, none⟩ (.slice none 0 0)).setCell ⟨H, k, none⟩ (.slice none 0 0)).drew) rfl
  clear h h'
  go_region
  all_goals
    go_wp2_with fail
    first | rw [Exit.noGoto_ret] | skip
    refine bodyPost_end (results_none rfl _ _ _) rfl ?_
    exact ⟨rfl, hN, (Ex1.of_ex y0).trans (((Ex1.refl H _).setCell (p := ⟨H, i, none⟩) rfl _).setCell (p := ⟨H, k, none⟩) rfl _).drew⟩
set_option maxHeartbeats 4000000 in
theorem applyN1_c (p : Int) (H R c i : Nat) (o b : Int) (w : World) (h : NilM w H R) (hi : i < R) (h2 : 2 ≤ p) (h97 : p ≤ 97) (hb : 0 ≤ b ∧ b < p) (_ : R ≤ 1000) :
    Calls Tryd.prog 116 #[.agg #[.int .i64 1, .int .i64 i, .int .i64 o, .int .i64 b], .int .i64 p, .slice (some ⟨H, 0, none⟩) R c] w fun e w' => e = .returned (.tuple #[]) ∧ Ex w w' := by
  have y0 := (Ex.refl w).alloc (.cells #[.int .i64 1, .int .i64 i, .int .i64 o, .int .i64 b] 119)
  have d0 := VB.new w 119 #[.int .i64 1, .int .i64 i, .int .i64 o, .int .i64 b]
  have q1 := d0.cell 1 (v := .int .i64 i) rfl
  have h' := h.keep (y0.block h.lt)
  have c0 := h'.cell hi
  go_enter Tryd.func116, Tryd.ntmps116
  go_wp2_with fail
  refine (inverse_c p b _ h2 h97 hb).mono ?_
  rintro e _ ⟨rfl, rfl⟩
  generalize w.alloc (.cells #[.int .i64 1, .int .i64 i, .int .i64 o, .int .i64 b] 119) = W0 at *
  go_wp2_with fail
  go_loopw [43] (fun s43 wr => s43 = .int .i64 0 ∧ W0 = wr) (fun _ _ => 0)
  case atStart => exact ⟨rfl, rfl⟩
  case round =>
    obtain ⟨rfl, rfl⟩ := hrel
    go_wp2_with fail
    first | rw [Exit.noGoto_ret] | skip
    refine bodyPost_end (results_none rfl _ _ _) rfl ?_
    exact ⟨rfl, y0⟩
set_option maxHeartbeats 1000000 in
theorem addTimes0_c (p b : Int) (w : World) : Calls Tryd.prog 91 #[.int .i64 p, .slice none 0 0, .int .i64 b, .slice none 0 0] w fun e w' => e = .returned (.tuple #[]) ∧ w = w' := by
  go_enter Tryd.func91, Tryd.ntmps91
  go_wp2
  go_loopw [12] (fun s12 wr => s12 = .int .i64 0 ∧ w = wr) (fun _ _ => 0)
  case atStart => exact ⟨rfl, rfl⟩
  case round =>
    obtain ⟨rfl, rfl⟩ := hrel
    go_wp2
    first | rw [Exit.noGoto_ret] | skip
    refine bodyPost_end (results_none rfl _ _ _) rfl ?_
    exact ⟨rfl, rfl⟩
set_option maxHeartbeats 4000000 in
theorem applyN2_c (p : Int) (H R c i k : Nat) (b : Int) (w : World) (h : NilM w H R) (hi : i < R) (hk : k < R) (h2 : 2 ≤ p) (h97 : p ≤ 97) (hb : 0 ≤ b ∧ b < p) (_ : R ≤ 1000) :
    Calls Tryd.prog 116 #[.agg #[.int .i64 2, .int .i64 i, .int .i64 k, .int .i64 b], .int .i64 p, .slice (some ⟨H, 0, none⟩) R c] w fun e w' => e = .returned (.tuple #[]) ∧ Ex w w' := by
  have y0 := (Ex.refl w).alloc (.cells #[.int .i64 2, .int .i64 i, .int .i64 k, .int .i64 b] 119)
  have d0 := VB.new w 119 #[.int .i64 2, .int .i64 i, .int .i64 k, .int .i64 b]
  have q1 := d0.cell 1 (v := .int .i64 i) rfl
  have q2 := d0.cell 2 (v := .int .i64 k) rfl
  have q3 := d0.cell 3 (v := .int .i64 b) rfl
  have h' := h.keep (y0.block h.lt)
  have c0 := h'.cell hi
  have c1 := h'.cell hk
  go_enter Tryd.func116, Tryd.ntmps116
  go_wp2_with fail
  generalize w.alloc (.cells #[.int .i64 2, .int .i64 i, .int .i64 k, .int .i64 b] 119) = W0 at *
  go_still_tail 14, (by kernel_rfl)
  change wpList _ _ _ _ _ W0.drew
  go_wp2_with fail
  refine (addTimes0_c p (-b) _).mono ?_
  rintro e _ ⟨rfl, rfl⟩
  go_wp2_with fail
  first | rw [Exit.noGoto_ret] | skip
  refine bodyPost_end (results_none rfl _ _ _) rfl ?_
  exact ⟨rfl, y0.drew⟩
end Go.Proofs.YtmekhjnhcgmphaaDoor
namespace Go.Proofs.YtmekhjnhcgmphaaDoor
set_option maxRecDepth 100000
open Go Go.RowKit
/-- An elimination's memory: the rows, the nil rows that go along, the closure's boxes. -/
structure RW (w : World) (Z : Nat) (p : Int) (G H n R c ca xp xr xa : Nat) (bs : List Nat) (rows : List (List Int)) : Prop where
  im : IM w G n bs rows
  nl : NilM w H R
  bp : VB w xp 3 #[.int .i64 p]
  br : VB w xr 22 #[.slice (some ⟨G, 0, none⟩) R c]
  ba : VB w xa 22 #[.slice (some ⟨H, 0, none⟩) R ca]
  len : rows.length = R
  gh : G ≠ H
  gz : G < Z
  hz : H < Z
  bz : ∀ b ∈ bs, b < Z
  bh : ∀ b ∈ bs, b ≠ H
  zp : Z ≤ xp
  zr : Z ≤ xr
  za : Z ≤ xa
  e : AllM p rows
  h2 : 2 ≤ p
  h97 : p ≤ 97
  n1 : n ≤ 1000
  r1 : R ≤ 1000
theorem RW.ex {w w' : World} {Z G H n R c ca xp xr xa : Nat} {p : Int} {bs : List Nat} {rows : List (List Int)} (h : RW w Z p G H n R c ca xp xr xa bs rows) (k : Ex w w') : RW w' Z p G H n R c ca xp xr xa bs rows :=
  { h with im := h.im.ex k, nl := h.nl.keep (k.block h.nl.lt), bp := h.bp.ex k, br := h.br.ex k, ba := h.ba.ex k }
/-- One row has been turned. -/
theorem RW.turn {w w' : World} {Z G H n R c ca xp xr xa : Nat} {p : Int} {bs : List Nat} {rows rows' : List (List Int)} (h : RW w Z p G H n R c ca xp xr xa bs rows) {b : Nat} (hb : b < Z) (hbh : b ≠ H) (k : Ex1 b w w') (hI : IM w' G n bs rows') (hl : rows'.length = R) (he : AllM p rows') : RW w' Z p G H n R c ca xp xr xa bs rows' :=
  { h with im := hI, nl := h.nl.keep (k.block H h.nl.lt (fun e => by injection e with e; exact hbh e.symm)), bp := h.bp.ex1 k (by have := h.zp; omega), br := h.br.ex1 k (by have := h.zr; omega), ba := h.ba.ex1 k (by have := h.za; omega), len := hl, e := he }
/-- What goes along has been turned. -/
theorem RW.along {w w' : World} {Z G H n R c ca xp xr xa : Nat} {p : Int} {bs : List Nat} {rows : List (List Int)} (h : RW w Z p G H n R c ca xp xr xa bs rows) (k : Ex1 H w w') (hN : NilM w' H R) : RW w' Z p G H n R c ca xp xr xa bs rows :=
  { h with im := h.im.keep (fun q hq hc => k.block q hq (fun e => by
      injection e with e
      rcases hc with hc | ⟨j, hj⟩
      · exact h.gh (hc ▸ e)
      · exact h.bh q (List.mem_of_getElem? hj) e)), nl := hN, bp := h.bp.ex1 k (by have := h.zp; have := h.hz; omega), br := h.br.ex1 k (by have := h.zr; have := h.hz; omega), ba := h.ba.ex1 k (by have := h.za; have := h.hz; omega) }
theorem mulI_el {p k : Int} {v : List Int} {n : Nat} (hp : 0 < p) (h : allEl p v = true) : allEl p (mulI p k v n) = true := allEl_of fun i x hx => by
  unfold mulI at hx
  rw [List.getElem?_append] at hx
  split at hx
  · rw [List.getElem?_take] at hx
    split at hx
    · rw [List.getElem?_map] at hx
      cases hv : v[i]? with
      | none => rw [hv] at hx; cases hx
      | some y => rw [hv] at hx; injection hx with hx; rw [← hx]; exact ⟨Int.emod_nonneg _ (by omega), Int.emod_lt_of_pos _ hp⟩
    · cases hx
  · rw [List.getElem?_drop] at hx
    exact allEl_at h hx
set_option maxHeartbeats 4000000 in
theorem stepD_c {w : World} {Z G H n R c ca xp xr xa : Nat} {p : Int} {bs : List Nat} {rows : List (List Int)} (h : RW w Z p G H n R c ca xp xr xa bs rows) (i bi : Nat) (b : Int) (ri : List Int) (hri : rows[i]? = some ri) (hbi : bs[i]? = some bi) (hb : 0 ≤ b ∧ b < p) :
    Calls Tryd.prog 115 #[.agg #[.int .i64 1, .int .i64 i, .int .i64 0, .int .i64 b], .pointer (some ⟨xp, 0, none⟩), .pointer (some ⟨xr, 0, none⟩), .pointer (some ⟨xa, 0, none⟩)] w fun e w' => e = .returned (.tuple #[]) ∧ RW w' Z p G H n R c ca xp xr xa bs (rows.set i (mulI p (invM p b) ri n)) ∧ Ex1 bi w w' := by
  have hi : i < R := by have := (List.getElem?_eq_some_iff.1 hri).1; have := h.len; omega
  have hrl := (h.im.row i bi ri hbi hri).2
  have hre := h.e ri (List.mem_of_getElem? hri)
  have hbz := h.bz bi (List.mem_of_getElem? hbi)
  have hbh := h.bh bi (List.mem_of_getElem? hbi)
  have hbw := (h.im.row i bi ri hbi hri).1.lt
  have HE := Lib.hid (show AllM p (rows.set i (mulI p (invM p b) ri n)) from fun r hr => by
    rcases List.mem_or_eq_of_mem_set hr with hr | rfl
    · exact h.e r hr
    · exact mulI_el (by have := h.h2; omega) hre)
  have y0 := (Ex.refl w).alloc (.cells #[.int .i64 1, .int .i64 i, .int .i64 0, .int .i64 b] 119)
  have d0 := VB.new w 119 #[.int .i64 1, .int .i64 i, .int .i64 0, .int .i64 b]
  have h' := h.ex y0
  have cA := applyD_c p G n bs rows R c i bi b 0 ri _ h'.im h.len hri hbi h.h2 h.h97 hb hre h.n1 h.r1
  have hp := h'.bp.cell 0 (v := .int .i64 p) rfl
  have hr := h'.br.cell 0 (v := .slice (some ⟨G, 0, none⟩) R c) rfl
  have q1 := d0.cell 1 (v := .int .i64 i) rfl
  go_enter Tryd.func115, Tryd.ntmps115
  go_wp2_with fail
  generalize w.alloc (.cells #[.int .i64 1, .int .i64 i, .int .i64 0, .int .i64 b] 119) = W0 at *
  refine cA.mono ?_
  rintro e w1 ⟨rfl, hI, k1⟩
  have hW1 := h'.turn hbz hbh k1 hI (by rw [List.length_set]; exact h.len) HE.out
  have hp1 := hW1.bp.cell 0 (v := .int .i64 p) rfl
  have ha1 := hW1.ba.cell 0 (v := .slice (some ⟨H, 0, none⟩) R ca) rfl
  have d1 := d0.ex1 k1 (by omega)
  have u0 := d1.cell 0 (v := .int .i64 1) rfl
  have u1 := d1.cell 1 (v := .int .i64 i) rfl
  have u2 := d1.cell 2 (v := .int .i64 0) rfl
  have u3 := d1.cell 3 (v := .int .i64 b) rfl
  clear cA h' hp hr q1
  go_wp2_with fail
  refine (applyN1_c p H R ca i 0 b w1 hW1.nl hi h.h2 h.h97 hb h.r1).mono ?_
  rintro e w2 ⟨rfl, x2⟩
  go_wp2_with fail
  first | rw [Exit.noGoto_ret] | skip
  refine bodyPost_end (results_none rfl _ _ _) rfl ?_
  exact ⟨rfl, hW1.ex x2, ((Ex1.of_ex y0).trans k1).trans (Ex1.of_ex x2)⟩
set_option maxHeartbeats 4000000 in
theorem stepS_c {w : World} {Z G H n R c ca xp xr xa : Nat} {p : Int} {bs : List Nat} {rows : List (List Int)} (h : RW w Z p G H n R c ca xp xr xa bs rows) (i k bi : Nat) (b : Int) (ri rk : List Int) (hri : rows[i]? = some ri) (hrk : rows[k]? = some rk) (hbi : bs[i]? = some bi) (hne : i ≠ k) (hb : 0 ≤ b ∧ b < p) :
    Calls Tryd.prog 115 #[.agg #[.int .i64 2, .int .i64 i, .int .i64 k, .int .i64 b], .pointer (some ⟨xp, 0, none⟩), .pointer (some ⟨xr, 0, none⟩), .pointer (some ⟨xa, 0, none⟩)] w fun e w' => e = .returned (.tuple #[]) ∧ RW w' Z p G H n R c ca xp xr xa bs (rows.set i ((zpOps p).less ri b rk)) ∧ Ex1 bi w w' := by
  have hi : i < R := by have := (List.getElem?_eq_some_iff.1 hri).1; have := h.len; omega
  have hk : k < R := by have := (List.getElem?_eq_some_iff.1 hrk).1; have := h.len; omega
  have hrl := (h.im.row i bi ri hbi hri).2
  have hre := h.e ri (List.mem_of_getElem? hri)
  have hke := h.e rk (List.mem_of_getElem? hrk)
  have hkl : rk.length = n := by
    obtain ⟨_, rk', _, _, _, q1, q2, _⟩ := h.im.at_ (List.getElem?_eq_some_iff.1 hrk).1
    rw [hrk] at q1
    injection q1 with q1
    rw [q1]
    exact q2
  have hbz := h.bz bi (List.mem_of_getElem? hbi)
  have hbh := h.bh bi (List.mem_of_getElem? hbi)
  have hbw := (h.im.row i bi ri hbi hri).1.lt
  have HE := Lib.hid (show AllM p (rows.set i ((zpOps p).less ri b rk)) from fun r hr => by
    rcases List.mem_or_eq_of_mem_set hr with hr | rfl
    · exact h.e r hr
    · exact less_el (by have := h.h2; omega) (by rw [hrl, hkl]))
  have y0 := (Ex.refl w).alloc (.cells #[.int .i64 2, .int .i64 i, .int .i64 k, .int .i64 b] 119)
  have d0 := VB.new w 119 #[.int .i64 2, .int .i64 i, .int .i64 k, .int .i64 b]
  have h' := h.ex y0
  have cA := applyS_c p G n bs rows R c i k bi b ri rk _ h'.im h.len hri hrk hbi hne h.h2 h.h97 hb hre hke h.n1 h.r1
  have hp := h'.bp.cell 0 (v := .int .i64 p) rfl
  have hr := h'.br.cell 0 (v := .slice (some ⟨G, 0, none⟩) R c) rfl
  have q1 := d0.cell 1 (v := .int .i64 i) rfl
  go_enter Tryd.func115, Tryd.ntmps115
  go_wp2_with fail
  generalize w.alloc (.cells #[.int .i64 2, .int .i64 i, .int .i64 k, .int .i64 b] 119) = W0 at *
  refine cA.mono ?_
  rintro e w1 ⟨rfl, hI, k1⟩
  have hW1 := h'.turn hbz hbh k1 hI (by rw [List.length_set]; exact h.len) HE.out
  have hp1 := hW1.bp.cell 0 (v := .int .i64 p) rfl
  have ha1 := hW1.ba.cell 0 (v := .slice (some ⟨H, 0, none⟩) R ca) rfl
  have d1 := d0.ex1 k1 (by omega)
  have u0 := d1.cell 0 (v := .int .i64 2) rfl
  have u1 := d1.cell 1 (v := .int .i64 i) rfl
  have u2 := d1.cell 2 (v := .int .i64 k) rfl
  have u3 := d1.cell 3 (v := .int .i64 b) rfl
  clear cA h' hp hr q1
  go_wp2_with fail
  refine (applyN2_c p H R ca i k b w1 hW1.nl hi hk h.h2 h.h97 hb h.r1).mono ?_
  rintro e w2 ⟨rfl, x2⟩
  go_wp2_with fail
  first | rw [Exit.noGoto_ret] | skip
  refine bodyPost_end (results_none rfl _ _ _) rfl ?_
  exact ⟨rfl, hW1.ex x2, ((Ex1.of_ex y0).trans k1).trans (Ex1.of_ex x2)⟩
theorem RW.swap {w w' : World} {Z G H n R c ca xp xr xa : Nat} {p : Int} {bs bs' : List Nat} {rows rows' : List (List Int)} (h : RW w Z p G H n R c ca xp xr xa bs rows) (k : Ex1 G w w') (hI : IM w' G n bs' rows') (hb : ∀ b ∈ bs', b ∈ bs) (hl : rows'.length = R) (he : AllM p rows') : RW w' Z p G H n R c ca xp xr xa bs' rows' :=
  { h with im := hI, nl := h.nl.keep (k.block H h.nl.lt (fun e => by injection e with e; exact h.gh e.symm)), bp := h.bp.ex1 k (by have := h.zp; have := h.gz; omega), br := h.br.ex1 k (by have := h.zr; have := h.gz; omega), ba := h.ba.ex1 k (by have := h.za; have := h.gz; omega), bz := fun b hb' => h.bz b (hb b hb'), bh := fun b hb' => h.bh b (hb b hb'), len := hl, e := he }
set_option maxHeartbeats 4000000 in
theorem stepX_c {w : World} {Z G H n R c ca xp xr xa : Nat} {p : Int} {bs : List Nat} {rows : List (List Int)} (h : RW w Z p G H n R c ca xp xr xa bs rows) (i k : Nat) (ri rk : List Int) (hri : rows[i]? = some ri) (hrk : rows[k]? = some rk) (hne : i ≠ k) :
    Calls Tryd.prog 115 #[.agg #[.int .i64 0, .int .i64 i, .int .i64 k, .int .i64 0], .pointer (some ⟨xp, 0, none⟩), .pointer (some ⟨xr, 0, none⟩), .pointer (some ⟨xa, 0, none⟩)] w fun e w' => e = .returned (.tuple #[]) ∧ ∃ bs', RW w' Z p G H n R c ca xp xr xa bs' ((rows.set i rk).set k ri) ∧ (∀ b ∈ bs', b ∈ bs) ∧ ExS (fun z => z = G ∨ z = H) w w' := by
  have hi : i < R := by have := (List.getElem?_eq_some_iff.1 hri).1; have := h.len; omega
  have hk : k < R := by have := (List.getElem?_eq_some_iff.1 hrk).1; have := h.len; omega
  have hgl := h.im.lt
  have hhl := h.nl.lt
  have HE := Lib.hid (show AllM p ((rows.set i rk).set k ri) from fun r hr => by
    rcases List.mem_or_eq_of_mem_set hr with hr | rfl
    · rcases List.mem_or_eq_of_mem_set hr with hr | rfl
      · exact h.e r hr
      · exact h.e _ (List.mem_of_getElem? hrk)
    · exact h.e _ (List.mem_of_getElem? hri))
  have y0 := (Ex.refl w).alloc (.cells #[.int .i64 0, .int .i64 i, .int .i64 k, .int .i64 0] 119)
  have d0 := VB.new w 119 #[.int .i64 0, .int .i64 i, .int .i64 k, .int .i64 0]
  have h' := h.ex y0
  have cA := applyX_c p G n bs rows R c i k 0 _ h'.im h.len hi hk hne h.r1
  have hp := h'.bp.cell 0 (v := .int .i64 p) rfl
  have hr := h'.br.cell 0 (v := .slice (some ⟨G, 0, none⟩) R c) rfl
  have q1 := d0.cell 1 (v := .int .i64 i) rfl
  have hik : ¬ (k = i) := fun e => hne e.symm
  go_enter Tryd.func115, Tryd.ntmps115
  go_wp2_with fail
  generalize w.alloc (.cells #[.int .i64 0, .int .i64 i, .int .i64 k, .int .i64 0] 119) = W0 at *
  refine cA.mono ?_
  rintro e w1 ⟨bs', ri', rk', rfl, hr1, hr2, hI, hbb, k1⟩
  rw [hri] at hr1
  injection hr1 with hr1
  subst hr1
  rw [hrk] at hr2
  injection hr2 with hr2
  subst hr2
  have hW1 := h'.swap k1 hI hbb (by rw [List.length_set, List.length_set]; exact h.len) HE.out
  have hp1 := hW1.bp.cell 0 (v := .int .i64 p) rfl
  have ha1 := hW1.ba.cell 0 (v := .slice (some ⟨H, 0, none⟩) R ca) rfl
  have d1 := d0.ex1 k1 (by omega)
  have u0 := d1.cell 0 (v := .int .i64 0) rfl
  have u1 := d1.cell 1 (v := .int .i64 i) rfl
  have u2 := d1.cell 2 (v := .int .i64 k) rfl
  have u3 := d1.cell 3 (v := .int .i64 0) rfl
  clear cA h' hp hr q1
  go_wp2_with fail
  refine (applyN0_c p H R ca i k 0 w1 hW1.nl hi hk hne h.r1).mono ?_
  rintro e w2 ⟨rfl, hN, k2⟩
  have hW2 := hW1.along k2 hN
  go_wp2_with fail
  first | rw [Exit.noGoto_ret] | skip
  refine bodyPost_end (results_none rfl _ _ _) rfl ?_
  refine ⟨rfl, bs', hW2, hbb, ?_⟩
  exact ((ExS.of_ex1 (S := fun z => z = G ∨ z = H) (Ex1.of_ex y0) (.inl rfl)).trans (ExS.of_ex1 (S := fun z => z = G ∨ z = H) k1 (.inl rfl)) (fun _ _ h => h)).trans (ExS.of_ex1 (S := fun z => z = G ∨ z = H) k2 (.inr rfl)) (fun _ _ h => h)
set_option maxHeartbeats 4000000 in
theorem stepX0_c (i : Nat) (P1 P2 P3 : Value) (w : World) :
    Calls Tryd.prog 115 #[.agg #[.int .i64 0, .int .i64 i, .int .i64 i, .int .i64 0], P1, P2, P3] w fun e w' => e = .returned (.tuple #[]) ∧ Ex w w' := by
  have y0 := (Ex.refl w).alloc (.cells #[.int .i64 0, .int .i64 i, .int .i64 i, .int .i64 0] 119)
  go_enter Tryd.func115, Tryd.ntmps115
  go_wp2_with fail
  first | rw [Exit.noGoto_ret] | skip
  refine bodyPost_ret (results_none rfl _ _ _) rfl ?_
  exact ⟨rfl, y0⟩
end Go.Proofs.YtmekhjnhcgmphaaDoor
namespace Go.Proofs.YtmekhjnhcgmphaaDoor
set_option maxRecDepth 100000
open Go Go.RowKit
set_option maxHeartbeats 16000000 in
theorem reduction_c (w0 w : World) (p : Int) (G H n R cG cH : Nat) (bs : List Nat) (rows : List (List Int)) (hF : fieldB p = true) (him : IM w G n bs rows) (hnl : NilM w H R) (hlen : rows.length = R) (gh : G ≠ H) (bh : ∀ b ∈ bs, b ≠ H) (hw : Wid n rows) (he : AllM p rows) (hn : n ≤ 1000) (hR : R ≤ 1000) (x0 : Ex w0 w) (g0 : w0.heap.size ≤ G) (h0 : w0.heap.size ≤ H) (b0 : ∀ b ∈ bs, w0.heap.size ≤ b) :
    Calls Tryd.prog 108 #[.int .i64 p, .slice (some ⟨G, 0, none⟩) R cG, .int .i64 n, .slice (some ⟨H, 0, none⟩) R cH] w fun e w' => ∃ bs', e = .returned (.int .i64 ((zpOps p).red n 0 0 rows).2) ∧ IM w' G n bs' ((zpOps p).red n 0 0 rows).1 ∧ ((zpOps p).red n 0 0 rows).1.length = R ∧ ((zpOps p).red n 0 0 rows).2 ≤ R ∧ Ex w0 w' := by
  have h2 := fieldB_lo hF
  have h97 := fieldB_hi hF
  obtain ⟨FIN, hFIN⟩ : ∃ FIN, (zpOps p).red n 0 0 rows = FIN := ⟨_, rfl⟩
  have HF := Lib.hid hF
  have HFI := Lib.hid hFIN
  have HFIN := Lib.hid (show (zpOps p).red (n - 0) 0 0 rows = FIN from hFIN)
  have HW0 := Lib.hid hw
  have HB0 := Lib.hid b0
  rw [hFIN]
  have hbl : ∀ b ∈ bs, b < w.heap.size := fun b hb => by
    obtain ⟨j, hj⟩ := List.getElem?_of_mem hb
    have hjl := (List.getElem?_eq_some_iff.1 hj).1
    exact (him.row j b _ hj (List.getElem?_eq_getElem (by rw [← him.len]; exact hjl))).1.lt
  have y1 := (Ex.refl w).alloc (.cells #[.int .i64 p] 3)
  have v1 := VB.new w 3 #[.int .i64 p]
  have s1 : (w.alloc (.cells #[.int .i64 p] 3)).heap.size = w.heap.size + 1 := by simp
  obtain ⟨W1, hW1⟩ : ∃ W1, w.alloc (.cells #[.int .i64 p] 3) = W1 := ⟨_, rfl⟩
  rw [hW1] at y1 v1 s1
  have y2 := (Ex.refl W1).alloc (.cells #[.slice (some ⟨G, 0, none⟩) R cG] 22)
  have v2 := VB.new W1 22 #[.slice (some ⟨G, 0, none⟩) R cG]
  have s2 : (W1.alloc (.cells #[.slice (some ⟨G, 0, none⟩) R cG] 22)).heap.size = w.heap.size + 2 := by simp; omega
  obtain ⟨W2, hW2⟩ : ∃ W2, W1.alloc (.cells #[.slice (some ⟨G, 0, none⟩) R cG] 22) = W2 := ⟨_, rfl⟩
  rw [hW2] at y2 v2 s2
  have y3 := (Ex.refl W2).alloc (.cells #[.slice (some ⟨H, 0, none⟩) R cH] 22)
  have v3 := VB.new W2 22 #[.slice (some ⟨H, 0, none⟩) R cH]
  obtain ⟨W3, hW3⟩ : ∃ W3, W2.alloc (.cells #[.slice (some ⟨H, 0, none⟩) R cH] 22) = W3 := ⟨_, rfl⟩
  rw [hW3] at y3 v3
  have yy := (y1.trans y2).trans y3
  have HRW : RW W3 w.heap.size p G H n R cG cH w.heap.size W1.heap.size W2.heap.size bs rows :=
    { im := him.ex yy, nl := hnl.keep (yy.block hnl.lt), bp := (v1.ex y2).ex y3, br := v2.ex y3, ba := v3, len := hlen, gh := gh, gz := him.lt, hz := hnl.lt, bz := hbl, bh := bh, zp := Nat.le_refl _, zr := by omega, za := by omega, e := he, h2 := h2, h97 := h97, n1 := hn, r1 := hR }
  have xx := x0.trans yy
  clear y1 y2 y3 v1 v2 v3 s1 s2 him hnl hbl hFIN hF hw he b0 bh hlen
  go_enter Tryd.func108, Tryd.ntmps108
  go_wp2_with fail
  clear hW1 hW2 hW3 yy
  generalize W1.heap.size = xr at *
  generalize W2.heap.size = xa at *
  obtain ⟨xp, hxp⟩ : ∃ xp, w.heap.size = xp := ⟨_, rfl⟩
  rw [hxp] at HRW ⊢
  clear hxp x0
  obtain ⟨ZZ, hZZ⟩ : ∃ ZZ, xp = ZZ := ⟨_, rfl⟩
  have HRW2 : RW W3 ZZ p G H n R cG cH xp xr xa bs rows := by rw [← hZZ]; exact HRW
  clear HRW hZZ
  go_loopw [9, 11] (fun s9 s11 wr => ∃ (c r : Nat) (Z : List (List Int)) (bs : List Nat), c ≤ n ∧ s9 = .int .i64 r ∧ s11 = .int .i64 c ∧ RW wr ZZ p G H n R cG cH xp xr xa bs Z ∧ Hid (Wid n Z) ∧ r ≤ R ∧ Hid ((zpOps p).red (n - c) c r Z = FIN) ∧ Hid (∀ b ∈ bs, w0.heap.size ≤ b) ∧ Ex w0 wr) (fun _ s11 _ => n - (intOf s11).toNat)
  case atStart => exact ⟨0, 0, rows, bs, Nat.zero_le _, rfl, rfl, HRW2, HW0, Nat.zero_le _, HFIN, HB0, xx⟩
  case round =>
    rename World => wi
    clear HRW2 HW0 HFIN HB0 xx
    obtain ⟨c, r, Z, bs, hcn, rfl, rfl, hM, HW, hrR, HFIN, HB, he⟩ := hrel
    have hbr := hM.br.cell 0 (v := .slice (some ⟨G, 0, none⟩) R cG) rfl
    have HZ := Lib.hid hM.len
    have HE := Lib.hid hM.e
    by_cases hlt : c < n ∧ r < R
    case neg =>
      have HEq := Lib.hid (show FIN = (Z, r) by
        rw [← HFIN.out]
        by_cases e : c < n
        · exact redz_full _ _ _ _ _ (by rw [HZ.out]; omega)
        · rw [show n - c = 0 by omega]; rfl)
      by_cases e : c < n
      · have e2 : ¬ r < R := fun e2 => hlt ⟨e, e2⟩
        clear hlt HFIN
        go_wp2_with fail
        go_ret
        rw [HEq.out]
        exact ⟨bs, rfl, hM.im, HZ.out, hrR, he⟩
      · clear hlt HFIN
        go_wp2_with fail
        go_ret
        rw [HEq.out]
        exact ⟨bs, rfl, hM.im, HZ.out, hrR, he⟩
    obtain ⟨hc1, hr1⟩ := hlt
    go_wp2_with fail
    go_loopw [12] (fun s12 wr => ∃ t : Nat, r ≤ t ∧ t ≤ R ∧ s12 = .int .i64 t ∧ Hid (∀ (i : Nat) (v : List Int), r ≤ i → i < t → Z[i]? = some v → (zpOps p).isz ((zpOps p).el v c) = true) ∧ wi = wr) (fun s12 _ => R - (intOf s12).toNat)
    case atStart => exact ⟨r, Nat.le_refl _, hrR, rfl, Lib.hid (fun i v h1 h2 => by omega), rfl⟩
    case round =>
      obtain ⟨t, hrt, htR, rfl, Hz, rfl⟩ := hrel
      by_cases htl : t < R
      · obtain ⟨bt, zt, ct, hct, hbt, hzt, hztl, hot, hbtG, et⟩ := hM.im.at_ (by rw [HZ.out]; exact htl)
        obtain ⟨x, hx⟩ : ∃ x, zt[c]? = some x := ⟨_, List.getElem?_eq_getElem (by rw [hztl]; exact hc1)⟩
        have ec := hot.cell hx
        have Hel := Lib.hid (show (zpOps p).el zt c = x from (zpOps p).el_in hx)
        have Hzt := Lib.hid hzt
        have Hx := Lib.hid hx
        have Hztl := Lib.hid hztl
        have Hzte := Lib.hid (HE.out zt (List.mem_of_getElem? hzt))
        have hxb := allEl_at Hzte.out hx
        clear hzt hx hztl
        by_cases hx0 : x = 0
        · have Hx0 := Lib.hid hx0
          have hxe : (x == 0) = true := by rw [hx0]; rfl
          clear hx0 hxb
          go_wp2_with fail
          go_roundw
          case rel => exact ⟨t + 1, by omega, by omega, by go_num, Lib.hid (fun i v h1 h2 h3 => by
            by_cases e : i = t
            · subst e; rw [Hzt.out] at h3; injection h3 with h3; rw [← h3, Hel.out, zp_isz, Hx0.out]; rfl
            · exact Hz.out i v h1 (by omega) h3), trivial⟩
          case measure => simp [intOf]; omega
        · have hxe : (x == 0) = false := by simp; exact hx0
          have hfd := sp_at (O := zpOps p) hrt (fun i v h1 h2 h3 => Hz.out i v h1 h2 h3) Hzt.out (by rw [Hel.out, zp_isz]; simpa using hx0)
          have HFk := Lib.hid (show (zpOps p).red (n - (c + 1)) (c + 1) (r + 1) ((zpOps p).piv Z r c t) = FIN by rw [← HFIN.out, show n - c = (n - (c + 1)) + 1 by omega, Ops.red, hfd, if_pos (by rw [HZ.out]; exact htl)])
          obtain ⟨br, zr, cr, hcr, hbr2, hzr, hzrl, hor, hbrG, er⟩ := hM.im.at_ (by rw [HZ.out]; exact hr1)
          have hZ2 : ((Z.set r zt).set t zr)[r]? = some zt := by
            rw [List.getElem?_set]
            by_cases e : t = r
            · rw [if_pos e, if_pos (by rw [List.length_set, HZ.out]; exact htl)]
              have := Hzt.out
              rw [e, hzr] at this
              exact this
            · rw [if_neg e, List.getElem?_set, if_pos rfl, if_pos (by rw [HZ.out]; exact hr1)]
          have cX : Calls Tryd.prog 115 #[.agg #[.int .i64 0, .int .i64 r, .int .i64 t, .int .i64 0], .pointer (some ⟨xp, 0, none⟩), .pointer (some ⟨xr, 0, none⟩), .pointer (some ⟨xa, 0, none⟩)] wi fun e w' => e = .returned (.tuple #[]) ∧ ∃ bs', RW w' ZZ p G H n R cG cH xp xr xa bs' ((Z.set r zt).set t zr) ∧ (∀ b ∈ bs', b ∈ bs) ∧ Ex w0 w' := by
            by_cases e : r = t
            · subst e
              have hv : (Z.set r zt).set r zr = Z := by
                rw [List.set_set]
                apply List.ext_getElem?
                intro q
                rw [List.getElem?_set]
                split
                · rename_i e; subst e; rw [if_pos (by rw [HZ.out]; exact hr1), hzr]
                · rfl
              rw [hv]
              refine (stepX0_c r _ _ _ wi).mono ?_
              rintro _ w' ⟨rfl, x⟩
              exact ⟨rfl, bs, hM.ex x, fun _ h => h, he.trans x⟩
            · refine (stepX_c hM r t zr zt hzr Hzt.out e).mono ?_
              rintro _ w' ⟨rfl, bs', h1, h2, h3⟩
              exact ⟨rfl, bs', h1, h2, he.sx h3 (fun z hz => by rcases hz with rfl | rfl <;> omega)⟩
          have HSW := Lib.hid (show ∀ l, ((Z.set r zt).set t zr).set r l = (Z.set t zr).set r l from fun l => set_swap3 Hzt.out hzr)
          have HMIX := Lib.hid (fun (k : Nat) (u : List Int) => sp_mix (O := zpOps p) (c := c) Hzt.out hzr (k := k) (u := u))
          have HTW := Lib.hid (show Wid n ((zpOps p).piv Z r c t) from HW.out.piv (by rw [HZ.out]; exact hr1) (by rw [HZ.out]; exact htl))
          have HTl := Lib.hid (show ((zpOps p).piv Z r c t).length = R by rw [piv_len, HZ.out])
          have HZ2 := Lib.hid hZ2
          have Hzr := Lib.hid hzr
          have htb : ((t : Int) == (R : Int)) = false := by simp; omega
          clear hfd hZ2 hbt hbr2 hzr hx0 HFIN er hcr
          go_wp2_with fail
          refine cX.mono ?_
          rintro e w1 ⟨rfl, bs2, hM2, hbb, he2⟩
          have HB2 := Lib.hid (show ∀ b ∈ bs2, w0.heap.size ≤ b from fun b hb => HB.out b (hbb b hb))
          clear cX hM hbr et ec hot HB hbb
          have hb2 := hM2.br.cell 0 (v := .slice (some ⟨G, 0, none⟩) R cG) rfl
          obtain ⟨b1, z1, c1, _, hb1, hz1, _, hO1, hb1G, e1⟩ := hM2.im.at_ (j := r) (by rw [hM2.len]; exact hr1)
          rw [HZ2.out] at hz1
          injection hz1 with hz1
          subst hz1
          have e2 := hO1.cell Hx.out
          have cD := stepD_c hM2 r b1 x zt HZ2.out hb1 hxb
          have hb1z : w0.heap.size ≤ b1 := HB2.out _ (List.mem_of_getElem? hb1)
          obtain ⟨L, hL⟩ : ∃ L, mulI p (invM p x) zt n = L := ⟨_, rfl⟩
          have HLL := Lib.hid (show (zpOps p).nrm zt c = L by rw [← hL, ← mulI_all Hx.out, Hztl.out])
          rw [hL, HSW.out] at cD
          rw [HLL.out] at HMIX
          have HLl := Lib.hid (show L.length = n by rw [← hL, mulI_len (by rw [Hztl.out]; exact Nat.le_refl _), Hztl.out])
          clear hL hM2 hO1
          go_wp2_with fail
          refine cD.mono ?_
          rintro e w3 ⟨rfl, hM3, k3⟩
          have x3 := he2.ex1 k3 hb1z
          clear cD hb2 e1 e2 k3 he2 hb1z
          have HZ1l := Lib.hid (show ((Z.set t zr).set r L).length = R by rw [List.length_set, List.length_set, HZ.out])
          have HZ1r := Lib.hid (show ((Z.set t zr).set r L)[r]? = some L by rw [List.getElem?_set, if_pos rfl, if_pos (by rw [List.length_set, HZ.out]; exact hr1)])
          have HZ1g := Lib.hid (show ∀ (k : Nat) (u : List Int), k ≠ r → ((Z.set t zr).set r L)[k]? = some u → u ∈ Z from fun k u h1 h3 => sp_rest Hzr.out h1 h3)
          generalize (Z.set t zr).set r L = Z1 at *
          generalize (zpOps p).piv Z r c t = T at *
          have HTr := Lib.hid (show T[r]? = some L by rw [HMIX.out r L HZ1r.out, if_pos rfl])
          have hb3 := hM3.br.cell 0 (v := .slice (some ⟨G, 0, none⟩) R cG) rfl
          go_wp2_with fail
          go_loopw [65] (fun s65 wr => ∃ i : Nat, i ≤ R ∧ s65 = .int .i64 i ∧ RW wr ZZ p G H n R cG cH xp xr xa bs2 (T.take i ++ Z1.drop i) ∧ Ex w0 wr) (fun s65 _ => R - (intOf s65).toNat)
          case atStart => exact ⟨0, Nat.zero_le _, rfl, by simpa using hM3, x3⟩
          case round =>
            rename World => wm
            clear hM3 x3 hb3
            obtain ⟨i, hi, rfl, hMm, hem⟩ := hrel
            by_cases hiR : i < R
            · obtain ⟨u, hu⟩ : ∃ u, Z1[i]? = some u := ⟨_, List.getElem?_eq_getElem (by rw [HZ1l.out]; exact hiR)⟩
              have hmu : (T.take i ++ Z1.drop i)[i]? = some u := by
                rw [mixz_at T Z1 (by rw [HTl.out, HZ1l.out]) i (by rw [HZ1l.out]; exact hiR)]; exact hu
              have HTk := Lib.hid (HMIX.out i u hu)
              have hbm := hMm.br.cell 0 (v := .slice (some ⟨G, 0, none⟩) R cG) rfl
              by_cases hir : i = r
              · have hnb : ((i : Int) != (r : Int)) = false := by simp; omega
                have HSm := Lib.hid (mixz_same T Z1 (by rw [HTl.out, HZ1l.out]) i L (by rw [HTk.out, if_pos hir]) (by rw [hir]; exact HZ1r.out))
                clear hir hu hmu
                go_wp2_with fail
                go_roundw
                case rel => exact ⟨i + 1, by omega, by go_num, by rw [← HSm.out]; exact hMm, hem⟩
                case measure => simp [intOf]; omega
              · have hnb : ((i : Int) != (r : Int)) = true := by simp; omega
                obtain ⟨b5, u', c5, hc5, hb5, hu', hul, hO5, hb5G, e5⟩ := hMm.im.at_ (j := i) (by have := (List.getElem?_eq_some_iff.1 hmu).1; exact this)
                rw [hmu] at hu'
                injection hu' with hu'
                subst hu'
                obtain ⟨y, hy⟩ : ∃ y, u[c]? = some y := ⟨_, List.getElem?_eq_getElem (by rw [hul]; exact hc1)⟩
                have ey := hO5.cell hy
                have hyel := Lib.hid (show (zpOps p).el u c = y from (zpOps p).el_in hy)
                have hyb := allEl_at (HE.out u (HZ1g.out i u hir hu)) hy
                have HTk2 := Lib.hid (show T[i]? = some (if y = 0 then u else (zpOps p).less u y L) by
                  rw [HTk.out, if_neg hir, hyel.out, zp_isz]; simp)
                by_cases hy0 : y = 0
                · have hye : (y != 0) = false := by rw [hy0]; rfl
                  have HSm := Lib.hid (mixz_same T Z1 (by rw [HTl.out, HZ1l.out]) i u (by rw [HTk2.out, if_pos hy0]) hu)
                  clear hir hu hmu hy hy0 hul
                  go_wp2_with fail
                  go_roundw
                  case rel => exact ⟨i + 1, by omega, by go_num, by rw [← HSm.out]; exact hMm, hem⟩
                  case measure => simp [intOf]; omega
                · have hye : (y != 0) = true := by simp; exact hy0
                  have HSm := Lib.hid (mixz_set T Z1 (by rw [HTl.out, HZ1l.out]) i ((zpOps p).less u y L) (by rw [HTk2.out, if_neg hy0]))
                  have hmr := mix_both (i := i) (by rw [HTl.out, HZ1l.out]) HTr.out HZ1r.out
                  have cS := stepS_c hMm i r b5 y u L hmu hmr hb5 hir hyb
                  have hb5z : w0.heap.size ≤ b5 := HB2.out _ (List.mem_of_getElem? hb5)
                  rw [HSm.out] at cS
                  clear hir hu hmu hy hy0 hul hmr
                  go_wp2_with fail
                  refine cS.mono ?_
                  rintro e w7 ⟨rfl, hM7, k7⟩
                  have x7 := hem.ex1 k7 hb5z
                  clear cS hMm e5 ey hbm
                  go_wp2_with fail
                  go_roundw
                  case rel => exact ⟨i + 1, by omega, by go_num, hM7, x7⟩
                  case measure => simp [intOf]; omega
            · obtain rfl : i = R := by omega
              rw [List.take_of_length_le (by rw [HTl.out]; exact Nat.le_refl _), List.drop_of_length_le (by rw [HZ1l.out]; exact Nat.le_refl _), List.append_nil] at hMm
              go_wp2_with fail
              go_roundw
              case rel => exact ⟨c + 1, r + 1, T, bs2, by omega, by go_num, by go_num, hMm, HTW, by omega, HFk, HB2, hem⟩
              case measure => simp [intOf]; omega
      · have hRt : t = R := by omega
        subst hRt
        have HN := Lib.hid (sp_no (O := zpOps p) (by rw [HZ.out]; exact hrR) (fun i v h1 h2 h3 => Hz.out i v h1 (by rw [← HZ.out]; exact h2) h3))
        have HFk := Lib.hid (show (zpOps p).red (n - (c + 1)) (c + 1) r Z = FIN by rw [← HFIN.out, show n - c = (n - (c + 1)) + 1 by omega, Ops.red, if_neg HN.out])
        clear Hz HN
        go_wp2_with fail
        go_roundw
        case rel => exact ⟨c + 1, r, Z, bs, by omega, rfl, by go_num, hM, HW, hrR, HFk, HB, he⟩
        case measure => simp [intOf]; omega
end Go.Proofs.YtmekhjnhcgmphaaDoor
