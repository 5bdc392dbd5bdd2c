/- HasRatPair: the program. -/
import Derived.Test.YtpeogfapnofeoaaGreatDoorSHp
import Derived.Test.YtpeogfapnofeoaaGreatDoorCcC
import Derived.Test.YtpeogfapnofeoaaGreatDoorHrA
import Derived.Test.YtpeogfapnofeoaaGreatDoorRtQ
namespace Go.Proofs.YtpeogfapnofeoaaGreatDoor
set_option maxRecDepth 100000
open Go Go.RowKit
theorem less_zero {p : Int} {k : Fra} (hk : FV p k) (hz : iszF k = true) {vs ws : List Fra} (hv : ∀ x ∈ vs, FV p x) (hw : ∀ x ∈ ws, FV p x) (hl : vs.length = ws.length) : (frOps p).less vs k ws = vs := by
  refine List.ext_getElem? fun j => ?_
  unfold Ops.less
  rw [List.getElem?_zipWith]
  cases hx : vs[j]? with
  | none => rfl
  | some x =>
    have hj := (List.getElem?_eq_some_iff.1 hx).1
    rw [List.getElem?_eq_getElem (show j < ws.length by omega)]
    have hxv := hv x (List.mem_of_getElem? hx)
    have hyv := hw ws[j] (List.getElem_mem _)
    have hn : (negF p k).n = [] := (negF_nil hk).2 (iszF_iff.1 hz)
    have hm : (mulF p (negF p k) ws[j]).n = [] := by
      rw [mulF_comm hk.pos]
      exact mulF_zero hyv hk.neg hn
    show some (addF p x (mulF p (negF p k) ws[j])) = some x
    rw [addF_zero hxv (hk.neg.mul hyv) hm]
/-- What the program does for a row. -/
theorem addTm_red {p : Int} {k : Fra} (hk : FV p k) {vs ws : List Fra} (hv : ∀ x ∈ vs, FV p x) (hw : ∀ x ∈ ws, FV p x) (hl : vs.length = ws.length) : addTm p vs (negF p k) ws = (frOps p).less vs k ws := by
  rw [addTm_less hk hv hw]
  split
  · rename_i hz
    rw [less_zero hk hz hv hw hl]
  · rfl
/-- A collected row as one that may be turned. -/
theorem GE.fbk {w : World} {B H g n c : Nat} {xs : List Fra} (h : GE ELF 58 w B H (.slice (some ⟨g, 0, none⟩) n c) xs) : FBk w (fun z => z = g) g xs := by
  obtain ⟨cur, al, bl, _, hB, hH, hh, h1, h2⟩ := h.at_
  refine ⟨cur, hh, fun i x hx => ?_⟩
  obtain ⟨u, q1, ⟨v0, v1, rfl, a0, b0, a1, b1, ⟨A, c0, rfl, f0⟩, ⟨A', c1, rfl, f1⟩, l0, l1, l2, l3, _⟩, q3, q4, q5⟩ := h1 i x hx
  refine ⟨A, c0, A', c1, q1 0 _ rfl, q1 1 _ rfl, ⟨f0.rd, fun _ a e hs => ?_⟩, ⟨f1.rd, fun _ a e hs => ?_⟩⟩
  · have := f0.fr.hi a e; have := f0.lo a e; omega
  · have := f1.fr.hi a e; have := f1.lo a e; omega
theorem rd_two {w : World} {g : Nat} {A B : Option Addr} {c d : Nat} {xs ys : List Fra} (hv : VB w g 34 #[.slice A xs.length c, .slice B ys.length d]) (hx : RdS EF w A xs) (hy : RdS EF w B ys) : RdS EFF w (some ⟨g, 0, none⟩) [xs, ys] := by
  refine ⟨by simp, fun j r hj => ?_⟩
  rcases j with _ | _ | j
  · injection hj with hj
    subst hj
    exact ⟨g, 0, [.slice A xs.length c], rfl, fun i u hi => by
      rcases i with _ | i
      · injection hi with hi; subst hi; exact hv.cell 0 rfl
      · simp at hi, _, rfl, A, c, rfl, hx⟩
  · injection hj with hj
    subst hj
    exact ⟨g, 0, [.slice B ys.length d], rfl, fun i u hi => by
      rcases i with _ | i
      · injection hi with hi; subst hi; exact hv.cell 1 rfl
      · simp at hi, _, rfl, B, d, rfl, hy⟩
  · simp at hj
theorem RdS.okf {w : World} {A : Option Addr} {p : Int} {n c : Nat} {xs : List Fra} (h : RdS EF w A xs) (hn : xs.length = n) (hn1 : n ≤ 1000) (ht : Tb w) (hF : fieldB p = true) :
    Calls Tryz.prog 36 #[.int .i64 p, .slice A xs.length c] w fun e w' => e = .returned (.bool (okRow p n xs)) ∧ Ex w w' := by
  have := areFractions_c p A c (xs.map fun x => (x.n, x.d)) w (h.rdf (by omega)) ht
  rw [List.length_map, List.all_map, hF, Bool.and_true] at this
  have e : okRow p n xs = xs.all ((fun q => fracB p q.1 q.2) ∘ fun x => (x.n, x.d)) := by
    unfold okRow
    rw [decide_eq_true hn, Bool.true_and]
    rfl
  rw [e]
  exact this
set_option maxHeartbeats 8000000 in
theorem HasRatPair_u (p : Int) (x : RRel) (xs ys : List Fra) (v0 vx vy : Value) (w : World) (h : RRRel w v0 x) (hx : RF w vx xs) (hy : RF w vy ys) (ht : Tb w) :
    Calls Tryz.prog 13 #[.int .i64 p, .agg #[.int .i64 x.l, .int .i64 x.r, v0], vx, vy] w fun e w' => e = .returned (.tuple #[.bool (hasU p x xs ys).1, .bool (hasU p x xs ys).2]) ∧ Ex w w' := by
  have hh := h
  obtain ⟨⟨A, c, rfl, h⟩, _⟩ := h
  obtain ⟨⟨X, xc, rfl, hx⟩, _⟩ := hx
  obtain ⟨⟨Y, yc, rfl, hy⟩, _⟩ := hy
  have x0 := (Ex.refl w).alloc (.cells #[.int .i64 x.l, .int .i64 x.r, .slice A x.b.length c] 32)
  have d0 := VB.new w 32 #[.int .i64 x.l, .int .i64 x.r, .slice A x.b.length c]
  have hxl := hx.1
  have hyl := hy.1
  go_enter Tryz.func13, Tryz.ntmps13
  go_wp2_with fail
  generalize w.alloc (.cells #[.int .i64 x.l, .int .i64 x.r, .slice A x.b.length c] 32) = W0 at *
  refine (IsRatRelation_u p x (.slice A x.b.length c) W0 (hh.ex x0) (ht.ex x0)).mono ?_
  rintro e w1 ⟨rfl, x1⟩
  have d1 := d0.ex x1
  have X1 := x0.trans x1
  clear hh
  cases hb : rrB p x with
  | false =>
    have HN := Lib.hid (hasU_no (p := p) (x := x) (xs := xs) (ys := ys) (by rw [hb]; simp))
    clear hb
    go_wp2_with fail
    go_ret2
    exact ⟨by rw [HN.out]; rfl, X1⟩
  | true =>
    have HB := Lib.hid hb
    obtain ⟨l, r, hl, hr, hlr, hgd, hwd, hld, hbl, hF⟩ := rrB_has hb
    have p0 := d1.cell 0 (v := .int .i64 x.l) rfl
    rw [hl] at p0
    have p1 := d1.cell 1 (v := .int .i64 x.r) rfl
    rw [hr] at p1
    have Hgd := Lib.hid hgd
    have Hwd := Lib.hid hwd
    have Hld := Lib.hid hld
    have HF := Lib.hid hF
    clear hb hgd hwd hld hF
    by_cases hn1 : xs.length = l
    case neg =>
      have HN := Lib.hid (hasU_no (p := p) (x := x) (xs := xs) (ys := ys) (fun h => hn1 (by have := (okRow_gd h.2.1).1; omega)))
      have hnb : ((xs.length : Int) != (l : Int)) = true := by simp; omega
      clear hn1
      go_wp2_with fail
      go_ret2
      exact ⟨by rw [HN.out]; rfl, X1⟩
    by_cases hn2 : ys.length = r
    case neg =>
      have HN := Lib.hid (hasU_no (p := p) (x := x) (xs := xs) (ys := ys) (fun h => hn2 (by have := (okRow_gd h.2.2).1; omega)))
      have hnb : ((xs.length : Int) != (l : Int)) = false := by simp; omega
      have hnc : ((ys.length : Int) != (r : Int)) = true := by simp; omega
      clear hn1 hn2
      go_wp2_with fail
      go_ret2
      exact ⟨by rw [HN.out]; rfl, X1⟩
    have c1 : ∀ W, Ex w W → Calls Tryz.prog 36 #[.int .i64 p, .slice X xs.length xc] W fun e w' => e = .returned (.bool (okRow p l xs)) ∧ Ex W w' := fun W hW => (hx.ex hW).okf hn1 (by omega) (ht.ex hW) HF.out
    have c2 : ∀ W, Ex w W → Calls Tryz.prog 36 #[.int .i64 p, .slice Y ys.length yc] W fun e w' => e = .returned (.bool (okRow p r ys)) ∧ Ex W w' := fun W hW => (hy.ex hW).okf hn2 (by omega) (ht.ex hW) HF.out
    have hnb : ((xs.length : Int) != (l : Int)) = false := by simp; omega
    have hnc : ((ys.length : Int) != (r : Int)) = false := by simp; omega
    have Hn1 := Lib.hid hn1
    have Hn2 := Lib.hid hn2
    clear hn1 hn2
    cases ho1 : okRow p l xs with
    | false =>
      have HN := Lib.hid (hasU_no (p := p) (x := x) (xs := xs) (ys := ys) (by rw [hl, show ((l : Int)).toNat = l from rfl, ho1]; simp))
      rw [ho1] at c1
      clear ho1 c2
      go_wp2_with fail
      refine (c1 w1 X1).mono ?_
      rintro e w2 ⟨rfl, x2⟩
      go_wp2_with fail
      go_ret2
      exact ⟨by rw [HN.out]; rfl, X1.trans x2⟩
    | true =>
      have Ho1 := Lib.hid ho1
      rw [ho1] at c1
      clear ho1
      go_wp2_with fail
      refine (c1 w1 X1).mono ?_
      rintro e w2 ⟨rfl, x2⟩
      have d2 := d1.ex x2
      have X2 := X1.trans x2
      clear c1 hnb hnc
      cases ho2 : okRow p r ys with
      | false =>
        have HN := Lib.hid (hasU_no (p := p) (x := x) (xs := xs) (ys := ys) (by rw [hr, show ((r : Int)).toNat = r from rfl, ho2]; simp))
        rw [ho2] at c2
        clear ho2
        go_wp2_with fail
        refine (c2 w2 X2).mono ?_
        rintro e w3 ⟨rfl, x3⟩
        go_wp2_with fail
        go_ret2
        exact ⟨by rw [HN.out]; rfl, X2.trans x3⟩
      | true =>
        have HY := Lib.hid (hasU_yes (p := p) (x := x) (xs := xs) (ys := ys) ⟨HB.out, by rw [hl]; exact Ho1.out, by rw [hr]; exact ho2⟩)
        rw [ho2] at c2
        have Hg := Lib.hid ((okRow_gd Ho1.out).2.app (okRow_gd ho2).2)
        have HL := Lib.hid (show (xs ++ ys).length = l + r by rw [List.length_append, Hn1.out, Hn2.out])
        clear ho2
        go_wp2_with fail
        refine (c2 w2 X2).mono ?_
        rintro e w3 ⟨rfl, x3⟩
        have d3 := d2.ex x3
        have X3 := X2.trans x3
        clear c2 p0 p1
        go_wp2_with fail
        have y4 := (Ex.refl w3).alloc (.cells #[.slice X xs.length xc, .slice Y ys.length yc] 34)
        have d4 := VB.new w3 34 #[.slice X xs.length xc, .slice Y ys.length yc]
        generalize w3.alloc (.cells #[.slice X xs.length xc, .slice Y ys.length yc] 34) = W4 at *
        have cc := concat_c (some ⟨w3.heap.size, 0, none⟩) 2 [xs, ys] W4 (rd_two d4 (hx.ex (X3.trans y4)) (hy.ex (X3.trans y4))) (by simp) (fun r hr => by
          rcases List.mem_cons.1 hr with rfl | hr
          · rw [Hn1.out]; omega
          · rw [List.mem_singleton.1 hr, Hn2.out]; omega)
        rw [show ([xs, ys] : List (List Fra)).flatten = xs ++ ys by simp, HL.out] at cc
        refine cc.mono ?_
        rintro e w5 ⟨A5, c5, rfl, r5, x5⟩
        clear cc
        have X5 := (X3.trans y4).trans x5
        have d5 := (d3.ex y4).ex x5
        have ccp := copyFractions_c A5 c5 (xs ++ ys) w5 r5
        rw [HL.out] at ccp
        go_wp2_with fail
        refine ccp.mono ?_
        rintro e w6 ⟨v6, rfl, ⟨hnn6, ge6⟩, x6⟩
        clear ccp
        obtain ⟨b, bc, ev, _, _⟩ := ge6.form hnn6
        subst ev
        obtain ⟨hb1, hb2⟩ := ge6.own b rfl
        have F6 := ge6.fbk
        rw [HL.out]
        have X6 := X5.trans x6
        have d6 := d5.ex x6
        have p2 := d6.cell 2 (v := .slice A x.b.length c) rfl
        have hbw : w.heap.size ≤ b := Nat.le_trans X5.size hb1
        have hbl1 : x.b.length ≤ 1099511627776 := by omega
        clear ge6 r5 d0 d1 d2 d3 d4 d5 hnn6
        go_wp2_with fail
        have HRG := Lib.hid (redF_good Hgd.out Hwd.out Hld.out Hg.out HL.out)
        go_loopw [52] (fun i wr => ∃ k : Nat, k ≤ x.b.length ∧ i = .int .i64 k ∧ FBk wr (fun z => z = b) b (redF p (x.b.take k) (xs ++ ys)) ∧ ExS (fun z => z = b) w6 wr) (fun i _ => x.b.length - (intOf i).toNat)
        case atStart => exact ⟨0, Nat.zero_le _, rfl, by simpa [redF] using F6, ExS.of_ex (Ex.refl _)⟩
        case round =>
          obtain ⟨k, hk, rfl, hFk, he⟩ := hrel
          have hw : Ex w wr := X6.sx he (fun z e => e ▸ hbw)
          by_cases hlt : k < x.b.length
          · obtain ⟨g, off, row, u, rfl, hr, b0w, hu⟩ := h.fracs hlt
            obtain ⟨R, rc, rfl, hR⟩ := hu.form
            have b0 := cell_ex hw b0w
            have hm := List.mem_of_getElem? hr
            obtain ⟨h1, h2⟩ := HRG.out k hk
            have HT := Lib.hid (redF_step (p := p) (v := xs ++ ys) hr)
            have hrl := Hwd.out row hm
            have hll := Hld.out row hm
            have Hrb := Lib.hid (Hgd.out row hm)
            obtain ⟨V, hV⟩ : ∃ V, redF p (x.b.take k) (xs ++ ys) = V := ⟨_, rfl⟩
            rw [hV] at hFk HT h1 h2
            have H2 := Lib.hid (h2.mono (pow3_le (show k ≤ 12 by omega)))
            have cIx := idxFrac_c 40 (enters_of Tryz.func40 (by kernel_rfl) rfl) (fun P Q pc qc x W hl => hasNon1_c P Q pc qc x W hl) R rc row wr (hR.ex hw)
            obtain ⟨L, hL⟩ : ∃ L, leadF row = L := ⟨_, rfl⟩
            rw [hL] at hll
            rw [show ixF row = (L : Int) by unfold ixF; rw [hL, if_pos (by omega)]] at cIx
            obtain ⟨y, hy⟩ : ∃ y, V[L]? = some y := ⟨_, List.getElem?_eq_getElem (by omega)⟩
            have hel : (frOps p).el V L = y := (frOps p).el_in hy
            rw [hL, hel] at HT
            obtain ⟨Ay, cy, By, dy, e0, e1, hAy, hBy⟩ := hFk.at_ hy
            have hyg := Lib.hid (H2.out y (List.mem_of_getElem? hy))
            have hbl2 := hFk.lt
            have cNeg : ∀ W, Ex wr W → Calls Tryz.prog 43 #[.int .i64 p, .agg #[.slice Ay y.n.length cy, .slice By y.d.length dy]] W fun e w' => FFx W (negF p y) e w' := fun W hW =>
              ratNegative_c p y Ay By cy dy W hyg.out.1 (hAy.ex hW).1 (hBy.ex hW).1 (by have := hyg.out.2.1; omega) (by have := hyg.out.2.2; omega)
            have cAdd : ∀ (W W2 : World) (A3 B3 : Option Addr) (c3 d3 : Nat), Ex wr W → Ex W W2 → Fr W2 W.heap.size A3 c3 (negF p y).n → Fr W2 W.heap.size B3 d3 (negF p y).d → Calls Tryz.prog 42 #[.int .i64 p, .slice (some ⟨b, 0, none⟩) (l + r) bc, .agg #[.slice A3 (negF p y).n.length c3, .slice B3 (negF p y).d.length d3], .slice R row.length rc] W2 fun e w' => e = .returned (.tuple #[]) ∧ FBk w' (fun z => z = b) b (redF p (x.b.take (k + 1)) (xs ++ ys)) ∧ ExS (fun z => z = b) W2 w' := fun W W2 A3 B3 c3 d3 hW hW2 f3 g3 => by
              have hz := hW.size
              have hS : ∀ z, z = b → z < W.heap.size := fun z e => by omega
              have := ratAddTimesR_c p (fun z => z = b) b R V row (negF p y) A3 B3 c3 d3 bc rc W2 (fun z e => by have := hS z e; have := hW2.size; omega) rfl (hFk.ex (hW.trans hW2)) (fun W3 h3 => hR.ex ((hw.trans (hW.trans hW2)).sx h3 (fun z e => e ▸ hbw))) (by omega) (f3.rx hS) (g3.rx hS) (H2.out.mono (by omega)) (Hrb.out.mono (by omega)) hyg.out.1.neg hyg.out.2.neg (by omega)
              rw [h1, addTm_red hyg.out.1 (fun x hx => (H2.out x hx).1) (fun x hx => (Hrb.out x hx).1) (by omega), ← HT.out] at this
              exact this.mono fun e w' ⟨q1, q2, q3, _⟩ => ⟨q1, q2, q3⟩
            obtain ⟨N, hN⟩ : ∃ N, negF p y = N := ⟨_, rfl⟩
            rw [hN] at cNeg cAdd
            clear hr hu hm hL hy hel hN hAy hBy h2 hV HT h1 hrl
            go_wp2_with fail
            refine cIx.mono ?_
            rintro e w7 ⟨rfl, x7⟩
            have f0 := cell_ex x7 e0
            have f1 := cell_ex x7 e1
            clear e0 e1 cIx b0 b0w
            go_wp2_with fail
            refine (cNeg w7 x7).mono ?_
            rintro e w8 ⟨A8, c8, B8, d8, rfl, f8, g8, ap8, x8⟩
            go_wp2_with fail
            refine (cAdd w7 w8 A8 B8 c8 d8 x7 x8 f8 g8).mono ?_
            rintro e w9 ⟨rfl, F9, x9⟩
            clear cAdd cNeg
            go_wp2_with fail
            go_roundw
            case rel => exact ⟨k + 1, by omega, by go_num, F9, (he.trans (ExS.of_ex (x7.trans x8)) (fun _ _ h => h)).trans x9 (fun _ _ h => h)⟩
            case measure => simp [intOf]; omega
          · obtain rfl : k = x.b.length := by omega
            obtain ⟨h1, _⟩ := HRG.out x.b.length (Nat.le_refl _)
            rw [List.take_length] at hFk h1
            have HH := Lib.hid (show hasF p x.b (xs ++ ys) = decide (leadF (redF p x.b (xs ++ ys)) = l + r) by unfold hasF; rw [HL.out])
            have cCon := conFrac_c 45 (enters_of Tryz.func45 (by kernel_rfl) rfl) (fun P Q pc qc x W hl => hasNon2_c P Q pc qc x W hl) (some ⟨b, 0, none⟩) bc (redF p x.b (xs ++ ys)) wr (hFk.rds (by omega))
            have hle : leadF (redF p x.b (xs ++ ys)) ≤ l + r := by rw [← h1]; exact List.findIdx_le_length
            rw [h1] at cCon
            by_cases hL : leadF (redF p x.b (xs ++ ys)) = l + r
            · rw [hL, decide_eq_false (by omega)] at cCon
              rw [hL, decide_eq_true rfl] at HH
              clear hL hle h1
              go_wp2_with fail
              refine cCon.mono ?_
              rintro e w7 ⟨rfl, x7⟩
              go_wp2_with fail
              go_ret2
              exact ⟨by rw [HY.out, HH.out]; rfl, hw.trans x7⟩
            · rw [decide_eq_true (by omega)] at cCon
              rw [decide_eq_false hL] at HH
              clear hL hle h1
              go_wp2_with fail
              refine cCon.mono ?_
              rintro e w7 ⟨rfl, x7⟩
              go_wp2_with fail
              go_ret2
              exact ⟨by rw [HY.out, HH.out]; rfl, hw.trans x7⟩
end Go.Proofs.YtpeogfapnofeoaaGreatDoor
