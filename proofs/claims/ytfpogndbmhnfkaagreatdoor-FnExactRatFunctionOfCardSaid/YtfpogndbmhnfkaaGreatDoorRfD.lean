/- RatFunctionOf: the reference. -/
import Derived.Test.YtfpogndbmhnfkaaGreatDoorRfB
namespace Go.Proofs.YtfpogndbmhnfkaaGreatDoor
set_option maxRecDepth 100000
open Go Go.RowKit
theorem RdS.dropk {α : Type} {E : EK α} {w : World} {g off : Nat} {xs : List α} (h : RdS E w (some ⟨g, off, none⟩) xs) (k : Nat) : RdS E w (some ⟨g, off + k * E.k, none⟩) (xs.drop k) := by
  obtain ⟨hl, h⟩ := h
  refine ⟨by rw [List.length_drop]; omega, fun j x hj => ?_⟩
  rw [List.getElem?_drop] at hj
  obtain ⟨g', off', vs, e, hc, hR⟩ := h (k + j) x hj
  injection e with e
  injection e with e1 e2
  subst e1 e2
  refine ⟨g, _, vs, rfl, fun i u hu => ?_, hR⟩
  have := hc i u hu
  rwa [Nat.add_mul, ← Nat.add_assoc] at this
theorem RdS.takek {α : Type} {E : EK α} {w : World} {A : Option Addr} {xs : List α} (h : RdS E w A xs) (k : Nat) : RdS E w A (xs.take k) := by
  obtain ⟨hl, h⟩ := h
  exact ⟨Nat.le_trans (List.length_take_le' _ _) hl, fun j x hj => h j x (by rw [List.getElem?_take] at hj; split at hj; exact hj; cases hj)⟩
/-- Values of one cell each. -/
def ELV : EL Value where
  k := 1
  O := fun _ _ _ vs x => vs = [x] ∧ x.oneCell' = true
  rlen := fun h => by rw [h.1]; rfl
  keep := fun h _ => h
  one := fun h u hu => by rw [h.1] at hu; simp at hu; subst hu; exact h.2
/-- Rows that read, and whether. -/
def RdRB (w : World) (r : List (List Fra) × Bool) (e : Ending) (w' : World) : Prop := ∃ A c, e = .returned (.tuple #[.slice A r.1.length c, .bool r.2]) ∧ RdS EFF w' A r.1 ∧ Ex w w'
def rfR (l : Int) (b : List (List Fra)) : List (List Fra) × Bool := if rfB l b = true then (b.map (List.drop l.toNat), true) else ([], false)
theorem rfR_no {l : Int} {b : List (List Fra)} (h : ¬ rfB l b = true) : rfR l b = ([], false) := if_neg h
theorem rfR_yes {l : Int} {b : List (List Fra)} (h : rfB l b = true) : rfR l b = (b.map (List.drop l.toNat), true) := if_pos h
theorem push_val {w : World} {B H : Nat} {v : Value} {xs : List Value} (h : GE ELV 34 w B H v xs) (hH : H ≤ w.heap.size) (A : Option Addr) (n c : Nat) (hB : B ≤ H) (hl : xs.length + 1 ≤ 1099511627776) :
    ∃ v' w', (Builtin.append_ #[30, 30] 30 #[v, .slice (some ⟨w.heap.size, 0, none⟩) 1 1]).run Tryz.prog (w.alloc (.cells #[.slice A n c] 34)) = .ok v' w' ∧
      GE ELV 34 w' B w'.heap.size v' (xs ++ [.slice A n c]) ∧ ∀ b', Ex b' w → b'.heap.size ≤ B → Ex b' w' := by
  obtain ⟨i, hi, hz, hs, hby⟩ := info_parts fracsInfo
  obtain ⟨v', w', h1, h2, _, _, _, h6⟩ := GE.push ELV Tryz.underlying30 hi hz hs hby rfl (by decide) (by omega) h hH (u := [.slice A n c]) (x := .slice A n c) (a := H) (b := H) ⟨rfl, rfl⟩ (Nat.le_refl _) (Nat.le_refl _) hH hB hl
  exact ⟨v', w', h1, h2, h6⟩
theorem vals_rds {w : World} {B H : Nat} {v : Value} {vals : List Value} {rows : List (List Fra)} (h : GE ELV 34 w B H v vals) (hn : vals.length = rows.length) (hl : rows.length ≤ 1099511627776) (hr : ∀ (j : Nat) (r : List Fra), rows[j]? = some r → ∃ P pc, vals[j]? = some (.slice P r.length pc) ∧ RdS EF w P r) : ∃ A c, v = .slice A rows.length c ∧ RdS EFF w A rows := by
  by_cases hv : v = .slice none 0 0
  · subst hv
    have := h.len0
    subst this
    have : rows = [] := List.eq_nil_of_length_eq_zero hn.symm
    subst this
    exact ⟨none, 0, rfl, by simp, fun j x hj => by simp at hj⟩
  · obtain ⟨g, c, rfl, hgc, _⟩ := h.form hv
    obtain ⟨cur, al, bl, _, hB, hH, hh, h1, h2⟩ := h.at_
    refine ⟨_, c, by rw [hn], hl, fun j r hj => ?_⟩
    obtain ⟨P, pc, q1, q2⟩ := hr j r hj
    obtain ⟨u, k1, ⟨k2, _⟩, _⟩ := h1 j _ q1
    refine ⟨g, 0, u, rfl, fun i y hy => ?_, _, k2, P, pc, rfl, q2⟩
    rw [Nat.zero_add]
    exact cell_of_cur hh (k1 i y hy)
set_option maxHeartbeats 4000000 in
theorem rrRows_c (l rr : Int) (b : List (List Fra)) (A : Option Addr) (c : Nat) (w : World) (h : RdC w A b) (hlr : ∀ r ∈ b, l ≤ r.length ∧ 0 < r.length ∧ r.length ≤ 12) (h12 : b.length ≤ 12) :
    Calls Tryz.prog 64 #[.agg #[.int .i64 l, .int .i64 rr, .slice A b.length c]] w fun e w' => RdRB w (rfR l b) e w' := by
  have x0 := (Ex.refl w).alloc (.cells #[.int .i64 l, .int .i64 rr, .slice A b.length c] 32)
  have v0 := VB.new w 32 #[.int .i64 l, .int .i64 rr, .slice A b.length c]
  by_cases hn : (b.length : Int) = l
  case neg =>
    have HN := Lib.hid (rfR_no (l := l) (b := b) (fun e => hn (rfB_iff.1 e).1))
    have hnb : ((b.length : Int) != l) = true := by simpa using hn
    clear hn
    go_enter Tryz.func64, Tryz.ntmps64
    go_wp2_with fail
    go_ret2
    rw [RdRB, HN.out]
    exact ⟨none, 0, rfl, ⟨by simp, fun j x hj => by simp at hj⟩, x0⟩
  subst hn
  obtain ⟨L, hL⟩ : ∃ L, b.length = L := ⟨_, rfl⟩
  have HL := Lib.hid hL
  have Hlr := Lib.hid hlr
  have H := Lib.hid h
  rw [hL] at v0 x0 ⊢
  clear hlr hL h
  have h12' : L ≤ 12 := by have := HL.out; omega
  have hnb : ((L : Int) != (L : Int)) = false := by simp
  have p0 := v0.cell 0 (v := .int .i64 L) rfl
  have p2 := v0.cell 2 (v := .slice A L c) rfl
  go_enter Tryz.func64, Tryz.ntmps64
  go_wp2_with fail
  generalize w.alloc (.cells #[.int .i64 L, .int .i64 rr, .slice A L c] 32) = W0 at *
  have zx := x0.size
  go_loopw [4, 16] (fun o i wr => ∃ (k : Nat) (vals : List Value), k ≤ L ∧ i = .int .i64 k ∧ vals.length = k ∧ GE ELV 34 wr W0.heap.size wr.heap.size o vals ∧ Hid (∀ (j : Nat) (r : List Fra), j < k → b[j]? = some r → leadF r = j ∧ ∃ P pc, vals[j]? = some (.slice P (r.drop L).length pc) ∧ RdS EF w P (r.drop L)) ∧ Ex W0 wr) (fun _ i _ => L - (intOf i).toNat)
  case atStart => exact ⟨0, [], Nat.zero_le _, rfl, rfl, GE.nil _ _ _ _ _, Lib.hid (fun j r hj => by omega), Ex.refl _⟩
  case round =>
    rename World => wi
    obtain ⟨k, vals, hk, rfl, hvl, hge, Hall, he⟩ := hrel
    by_cases hlt : k < L
    · obtain ⟨g, off, r, P, pc, eA, hr, b0, hpc, hP⟩ := H.out.at_ (j := k) (by have := HL.out; omega)
      subst eA
      obtain ⟨hr1, hr2, hr3⟩ := Hlr.out r (List.mem_of_getElem? hr)
      have hrL : L ≤ r.length := by have := HL.out; omega
      obtain ⟨g2, off2, y, _, _, _, _, eP, _⟩ := hP.frac hr2
      subst eP
      have b1 := cell_ex (x0.trans he) b0
      have Hr := Lib.hid hr
      have p0w := cell_ex he p0
      have hlead := rrLead_c (some ⟨g2, off2, none⟩) pc r wi (hP.ex (x0.trans he))
      have hPd := Lib.hid (hP.dropk L)
      clear hr hr1 b0
      by_cases hld : leadF r = k
      · rw [hld] at hlead
        have Hld := Lib.hid hld
        have hnk : ((k : Int) != (k : Int)) = false := by simp
        have hdl : (r.drop L).length = r.length - L := List.length_drop
        obtain ⟨RL, hRL⟩ : ∃ RL, r.length = RL := ⟨_, rfl⟩
        rw [hRL] at hlead b1 hpc hr2 hr3 hrL hdl
        clear hld
        by_cases hpl : pc - L = 0
        · have hPe := Lib.hid (show RdS EF w (some ⟨g2, off2, none⟩) (r.drop L) by
            have : r.drop L = [] := List.eq_nil_of_length_eq_zero (by rw [hdl]; omega)
            rw [this]
            exact ⟨by simp, fun j x hj => by simp at hj⟩)
          have HX : ∀ (w4 : World), Ex wi w4 → ∃ v' w', (Builtin.append_ #[30, 30] 30 #[_, .slice (some ⟨w4.heap.size, 0, none⟩) 1 1]).run Tryz.prog (w4.alloc (.cells #[.slice (some ⟨g2, off2, none⟩) (RL - L) 0] 34)) = .ok v' w' ∧ GE ELV 34 w' W0.heap.size w'.heap.size v' (vals ++ [.slice (some ⟨g2, off2, none⟩) (RL - L) 0]) ∧ ∀ b', Ex b' w4 → b'.heap.size ≤ W0.heap.size → Ex b' w' := fun w4 h4 =>
            push_val (hge.ex h4) h4.size _ _ _ he.size (by omega)
          go_wp2_with fail
          refine hlead.mono ?_
          rintro e w4 ⟨rfl, x4⟩
          obtain ⟨v', w', hrun, hge', hE⟩ := HX w4 x4
          have xw := hE W0 (he.trans x4) (Nat.le_refl _)
          have p0x := cell_ex x4 p0w
          have HK := Lib.hid (show ∀ (j : Nat) (r' : List Fra), j < k + 1 → b[j]? = some r' → leadF r' = j ∧ ∃ P pc', (vals ++ [.slice (some ⟨g2, off2, none⟩) (RL - L) 0])[j]? = some (.slice P (r'.drop L).length pc') ∧ RdS EF w P (r'.drop L) from fun j r' hj hr' => by
            by_cases e : j < k
            · obtain ⟨q1, P', pc', q2, q3⟩ := Hall.out j r' e hr'
              exact ⟨q1, P', pc', by rw [List.getElem?_append_left (by omega)]; exact q2, q3⟩
            · obtain rfl : j = k := by omega
              rw [Hr.out] at hr'
              injection hr' with hr'
              subst hr'
              exact ⟨Hld.out, _, _, by rw [List.getElem?_append_right (by omega), hvl, Nat.sub_self, hdl]; rfl, hPe.out⟩)
          clear HX hE hge Hall hlead hRL hdl
          go_wp2_with (at_builtin; refine wpList_append_run rfl _ _ _ rfl rfl rfl hrun ?_)
          go_roundw
          case rel => exact ⟨k + 1, _, by omega, by go_num, by rw [List.length_append, hvl]; rfl, hge', HK, xw⟩
          case measure => simp [intOf]; omega
        · have HX : ∀ (w4 : World), Ex wi w4 → ∃ v' w', (Builtin.append_ #[30, 30] 30 #[_, .slice (some ⟨w4.heap.size, 0, none⟩) 1 1]).run Tryz.prog (w4.alloc (.cells #[.slice (some ⟨g2, off2 + L * 2, none⟩) (RL - L) (pc - L)] 34)) = .ok v' w' ∧ GE ELV 34 w' W0.heap.size w'.heap.size v' (vals ++ [.slice (some ⟨g2, off2 + L * 2, none⟩) (RL - L) (pc - L)]) ∧ ∀ b', Ex b' w4 → b'.heap.size ≤ W0.heap.size → Ex b' w' := fun w4 h4 =>
            push_val (hge.ex h4) h4.size _ _ _ he.size (by omega)
          go_wp2_with fail
          refine hlead.mono ?_
          rintro e w4 ⟨rfl, x4⟩
          obtain ⟨v', w', hrun, hge', hE⟩ := HX w4 x4
          have xw := hE W0 (he.trans x4) (Nat.le_refl _)
          have p0x := cell_ex x4 p0w
          have HK := Lib.hid (show ∀ (j : Nat) (r' : List Fra), j < k + 1 → b[j]? = some r' → leadF r' = j ∧ ∃ P pc', (vals ++ [.slice (some ⟨g2, off2 + L * 2, none⟩) (RL - L) (pc - L)])[j]? = some (.slice P (r'.drop L).length pc') ∧ RdS EF w P (r'.drop L) from fun j r' hj hr' => by
            by_cases e : j < k
            · obtain ⟨q1, P', pc', q2, q3⟩ := Hall.out j r' e hr'
              exact ⟨q1, P', pc', by rw [List.getElem?_append_left (by omega)]; exact q2, q3⟩
            · obtain rfl : j = k := by omega
              rw [Hr.out] at hr'
              injection hr' with hr'
              subst hr'
              exact ⟨Hld.out, _, _, by rw [List.getElem?_append_right (by omega), hvl, Nat.sub_self, hdl]; rfl, hPd.out⟩)
          clear HX hE hge Hall hlead hRL hdl
          go_wp2_with (at_builtin; refine wpList_append_run rfl _ _ _ rfl rfl rfl hrun ?_)
          go_roundw
          case rel => exact ⟨k + 1, _, by omega, by go_num, by rw [List.length_append, hvl]; rfl, hge', HK, xw⟩
          case measure => simp [intOf]; omega
      · have HN := Lib.hid (rfR_no (l := (L : Int)) (b := b) (fun e => hld ((rfB_iff.1 e).2 k r Hr.out)))
        obtain ⟨LD, hLD⟩ : ∃ LD, leadF r = LD := ⟨_, rfl⟩
        rw [hLD] at hlead hld
        have hnk : ((LD : Int) != (k : Int)) = true := by simp; omega
        clear hLD hld
        go_wp2_with fail
        refine hlead.mono ?_
        rintro e w4 ⟨rfl, x4⟩
        go_wp2_with fail
        go_ret2
        rw [RdRB, HN.out]
        exact ⟨none, 0, rfl, ⟨by simp, fun j x hj => by simp at hj⟩, (x0.trans he).trans x4⟩
    · obtain rfl : k = L := by omega
      have HY := Lib.hid (rfR_yes (l := (vals.length : Int)) (b := b) (rfB_iff.2 ⟨by rw [HL.out, hvl], fun i r hr => (Hall.out i r (by have := (List.getElem?_eq_some_iff.1 hr).1; have := HL.out; omega) hr).1⟩))
      obtain ⟨A7, c7, rfl, hf⟩ := vals_rds (rows := b.map (List.drop k)) hge (by rw [List.length_map, HL.out, hvl]) (by rw [List.length_map, HL.out]; omega) (fun j r hj => by
        rw [List.getElem?_map] at hj
        cases hb : b[j]? with
        | none => rw [hb] at hj; cases hj
        | some r' =>
          rw [hb] at hj
          injection hj with hj
          subst hj
          obtain ⟨_, P, pc, q2, q3⟩ := Hall.out j r' (by have := (List.getElem?_eq_some_iff.1 hb).1; have := HL.out; omega) hb
          exact ⟨P, pc, q2, q3.ex (x0.trans he)⟩)
      go_wp2_with fail
      go_ret2
      rw [hvl] at HY
      rw [RdRB, HY.out]
      exact ⟨A7, c7, rfl, hf, x0.trans he⟩
theorem rfU_good {p : Int} {x : RRel} (h : rrB p x = true) : rfU p x = rfR x.l x.b := by
  by_cases hk : rfB x.l x.b = true
  · rw [rfU_yes ⟨h, hk⟩, rfR_yes hk]
  · rw [rfU_no (fun e => hk e.2), rfR_no hk]
theorem rrB_rows {p : Int} {x : RRel} (h : rrB p x = true) : 0 ≤ x.l ∧ x.l ≤ 12 ∧ x.b.length ≤ 12 ∧ ∀ r ∈ x.b, x.l ≤ r.length ∧ 0 < r.length ∧ r.length ≤ 12 := by
  obtain ⟨h1, h2, h3, h4⟩ := rrB_iff.1 h
  have h5 := fit_lt h2
  have h6 := rrp_len h1 (gd_fv (okRows_gd h3)) h4
  exact ⟨by omega, by omega, by omega, fun r hr => by have := okRows_wid h3 r hr; have := (h4.one r hr).1; omega⟩
theorem totF_drop (n : Nat) : ∀ (r : List Fra), totF (r.drop n) ≤ totF r := by
  induction n with
  | zero => intro r; rw [List.drop_zero]; exact Int.le_refl _
  | succ n ih =>
    intro r
    cases r with
    | nil => exact Int.le_refl _
    | cons x r =>
      rw [List.drop_succ_cons]
      have h1 := ih r
      have h2 : totF (x :: r) = EF.tot x + totF r := totS_cons EF x r
      have h3 := EF.nn x
      omega
theorem totFF_drop (n : Nat) : ∀ (b : List (List Fra)), totFF (b.map (List.drop n)) ≤ totFF b := by
  intro b
  induction b with
  | nil => exact Int.le_refl _
  | cons r b ih =>
    have h1 : totFF ((r :: b).map (List.drop n)) = totF (r.drop n) + totFF (b.map (List.drop n)) := totS_cons EFF _ _
    have h2 : totFF (r :: b) = totF r + totFF b := totS_cons EFF _ _
    have := totF_drop n r
    omega
theorem rfR_tot (l : Int) (b : List (List Fra)) : totFF (rfR l b).1 ≤ totFF b := by
  by_cases hk : rfB l b = true
  · rw [rfR_yes hk]; exact totFF_drop _ _
  · rw [rfR_no hk]; exact totFF_nn b
set_option maxHeartbeats 2000000 in
theorem spRatFunctionOf_u (p : Int) (x : RRel) (v0 : Value) (w : World) (h : RRRelc w v0 x) :
    Calls Tryz.prog 24 #[.int .i64 p, .agg #[.int .i64 x.l, .int .i64 x.r, v0]] w fun e w' => ∃ y, e = .returned (.tuple #[y, .bool (rfU p x).2]) ∧ RFF w' y (rfU p x).1 ∧ Ex w w' := by
  obtain ⟨h0, A, c, rfl, hc⟩ := h
  have ht := h0.tot
  have h := hc.1
  have x0 := (Ex.refl w).alloc (.cells #[.int .i64 x.l, .int .i64 x.r, .slice A x.b.length c] 32)
  have d0 := VB.new w 32 #[.int .i64 x.l, .int .i64 x.r, .slice A x.b.length c]
  go_enter Tryz.func24, Tryz.ntmps24
  go_wp2_with fail
  generalize w.alloc (.cells #[.int .i64 x.l, .int .i64 x.r, .slice A x.b.length c] 32) = W0 at *
  refine (rrGood_c p x A c W0 (h.ex x0)).mono ?_
  rintro e w1 ⟨b0, rfl, hb0, x1⟩
  obtain rfl := rrB_of hb0
  clear hb0
  have d1 := d0.ex x1
  have p0 := d1.cell 0 (v := .int .i64 x.l) rfl
  have p1 := d1.cell 1 (v := .int .i64 x.r) rfl
  have p2 := d1.cell 2 (v := .slice A x.b.length c) rfl
  cases hb : rrB p x with
  | false =>
    have HN := Lib.hid (rfU_no (p := p) (x := x) (by rw [hb]; simp))
    clear hb
    go_wp2_with fail
    go_ret2
    rw [HN.out]
    exact ⟨_, rfl, ⟨⟨none, 0, rfl, ⟨by simp, fun j x hj => by simp at hj⟩⟩, by show (0 : Int) ≤ _; omega⟩, x0.trans x1⟩
  | true =>
    have HU := Lib.hid (rfU_good hb)
    have HB := Lib.hid (rrB_rows hb)
    have HI := Lib.hid (ifU_yes hb)
    clear hb
    go_wp2_with fail
    refine (rrIf_c p x A c w1 (h.ex (x0.trans x1))).mono ?_
    rw [HI.out]
    rintro e w2 ⟨A2, c2, rfl, hr2, x2⟩
    have y2 := (Ex.refl w2).alloc (.cells #[.int .i64 x.l, .int .i64 x.r, .slice A2 x.b.length c2] 32)
    dsimp only at hr2
    go_wp2_with fail
    refine (rrRows_c x.l x.r x.b A2 c2 _ (hr2.ex y2) HB.out.2.2.2 HB.out.2.2.1).mono ?_
    rintro e w3 ⟨A3, c3, rfl, hr3, x3⟩
    go_wp2_with fail
    go_ret2
    rw [HU.out]
    have := rfR_tot x.l x.b
    exact ⟨_, rfl, ⟨⟨A3, c3, rfl, hr3⟩, by have : totRRel x = totFF x.b := rfl; show totFF _ ≤ _; omega⟩, (((x0.trans x1).trans x2).trans y2).trans x3⟩
end Go.Proofs.YtfpogndbmhnfkaaGreatDoor
