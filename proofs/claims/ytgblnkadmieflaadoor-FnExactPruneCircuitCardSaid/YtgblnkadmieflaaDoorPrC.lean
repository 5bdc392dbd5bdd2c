/- Pruned circuits: the program keeps what is marked. -/
import Derived.Test.YtgblnkadmieflaaDoorPrB
import Derived.Deep.RegionWith
import Derived.Deep.RegionHeld3
import Derived.Deep.RegionLaw
import Derived.Deep.Cut
namespace Go.Proofs.YtgblnkadmieflaaDoor
set_option maxRecDepth 100000
open Go Go.RowKit
def kepT (n : Nat) (l : List Int) : List Int := toN n l l.length
def kepC (x : Circ) (l : List Int) : Circ := ⟨x.n, l.map (fun k => movG (kepT x.gs.length l) (gAt x.gs k)), x.outs.map (fun k => (kepT x.gs.length l).getD k.toNat 0)⟩
theorem prC_kep (x : Circ) : prC x = kepC x (mkdL (usedM x.gs x.outs)) := rfl
theorem kept1_c (k : Nat) (bt : Nat) (T : Option Addr) (c : Nat) (to : List Int) (y : Int) (w : World) (h : Rd w T to) (hb : w.cell? ⟨bt, 0, none⟩ = some (.slice T to.length c)) (hk : to[k]? = some y) :
    Calls Tryd.prog 98 #[.int .i64 k, .pointer (some ⟨bt, 0, none⟩)] w fun e w' => e = .returned (.int .i64 y) ∧ w' = w := by
  have hkl := (List.getElem?_eq_some_iff.1 hk).1
  have hl := h.len
  obtain ⟨g, off, z, rfl, hz, _, c1⟩ := h.at_ hkl
  obtain rfl : y = z := by rw [hk] at hz; injection hz
  clear hk hz
  go_enter Tryd.func98, Tryd.ntmps98
  go_wp2_with fail
  go_ret
  exact ⟨rfl, rfl⟩
set_option maxHeartbeats 8000000 in
theorem kept_c (x : Circ) (A : Option Addr) (c : Nat) (B : Option Addr) (d : Nat) (g0 : Nat) (m : List Bool) (w : World) (h : RdS EG w A x.gs) (ho : Rd w B x.outs) (hv : VB w g0 4 (bObj m)) (hml : m.length = x.gs.length) (hn : x.gs.length ≤ 1000) (hm : x.outs.length ≤ 1000) (hop : ∀ g ∈ x.gs, ∀ k ∈ opnd g, 0 ≤ k ∧ k < x.gs.length) (hou : ∀ k ∈ x.outs, 0 ≤ k ∧ k < x.gs.length) :
    Calls Tryd.prog 45 #[.agg #[.int .i64 x.n, .slice A x.gs.length c, .slice B x.outs.length d], .slice (some ⟨g0, 0, none⟩) x.gs.length x.gs.length] w fun e w' => ∃ y0 y1, e = .returned (.agg #[.int .i64 x.n, y0, y1]) ∧ OCirc w' w.heap.size w'.heap.size y0 y1 (kepC x (mkdL m)) ∧ Ex w w' := by
  obtain ⟨n, gs, outs⟩ := x
  dsimp only at h ho hn hm hop hou hml ⊢
  have hzs := fun W => zeros_c gs.length (by omega) W
  have Hop := Lib.hid hop
  have Hou := Lib.hid hou
  have y0 := (Ex.refl w).alloc (.cells #[.int .i64 n, .slice A gs.length c, .slice B outs.length d] 29)
  have d0 := VB.new w 29 #[.int .i64 n, .slice A gs.length c, .slice B outs.length d]
  have S0 := Lib.hid (show (w.alloc (.cells #[.int .i64 n, .slice A gs.length c, .slice B outs.length d] 29)).heap.size = w.heap.size + 1 by simp)
  have hlr : ∀ k ∈ mkdL m, 0 ≤ k ∧ k < gs.length := fun k hk => by have := mkdL_mem.1 hk; omega
  have hll : (mkdL m).length ≤ gs.length := asc_len (mkdL_asc m) hlr
  have Hlr := Lib.hid hlr
  have hmk := fun W (y : Ex w W) => marked_c g0 m W (hv.ex y) (by omega)
  rw [hml] at hmk
  clear hop hou hlr hml
  generalize mkdL m = l at *
  go_enter Tryd.func45, Tryd.ntmps45
  go_wp2_with fail
  generalize w.alloc (.cells #[.int .i64 n, .slice A gs.length c, .slice B outs.length d] 29) = W0 at *
  have y1 := (Ex.refl W0).alloc (.cells #[.int .i64 0, .slice none 0 0, .slice none 0 0] 29)
  have d1 := VB.new W0 29 #[.int .i64 0, .slice none 0 0, .slice none 0 0]
  rw [S0.out] at d1
  have S1 : (W0.alloc (.cells #[.int .i64 0, .slice none 0 0, .slice none 0 0] 29)).heap.size = w.heap.size + 1 + 1 := by simp; exact S0.out
  generalize W0.alloc (.cells #[.int .i64 0, .slice none 0 0, .slice none 0 0] 29) = W1 at *
  have d0 := d0.ex y1
  have xx := y0.trans y1
  clear y0 y1 S0
  refine (hmk W1 xx).mono ?_
  rintro e w2 ⟨_, rfl, ⟨L, lc, rfl, fl⟩, x2⟩
  have d0 := d0.ex x2
  have d1 := d1.ex x2
  have xx := xx.trans x2
  have hL := fl.rd
  have hLo := fl.fr.lo
  have z2 := x2.size
  clear x2 hmk hv fl
  have q1 := d0.cell 1 (v := .slice A gs.length c) rfl
  go_wp2_with fail
  refine (hzs w2).mono ?_
  rintro e w3 ⟨g, rfl, hg, hz, x3⟩
  have d0 := d0.ex x3
  have d1 := d1.ex x3
  have hL := hL.ex x3
  have xx := xx.trans x3
  have hgl := hz.lt
  have y4 := (Ex.refl w3).alloc (.cells #[.slice (some ⟨g, 0, none⟩) gs.length gs.length] 23)
  have v4 := VB.new w3 23 #[.slice (some ⟨g, 0, none⟩) gs.length gs.length]
  have z3 := x3.size
  clear hzs q1 x3
  go_wp2_with fail
  obtain ⟨T, hT⟩ : ∃ T, w3.heap.size = T := ⟨_, rfl⟩
  rw [hT] at v4 ⊢
  generalize w3.alloc (.cells #[.slice (some ⟨g, 0, none⟩) gs.length gs.length] 23) = W4 at *
  have d0 := d0.ex y4
  have d1 := d1.ex y4
  have hL := hL.ex y4
  have hz := hz.own.ex y4
  have xx := xx.trans y4
  have z4 := y4.size
  clear y4
  go_loopw [20] (fun i wi => ∃ k : Nat, k ≤ l.length ∧ i = .int .i64 k ∧ Own wi g (toN gs.length l k) ∧ VB wi w.heap.size 29 #[.int .i64 n, .slice A gs.length c, .slice B outs.length d] ∧ VB wi (w.heap.size + 1) 29 #[.int .i64 0, .slice none 0 0, .slice none 0 0] ∧ VB wi T 23 #[.slice (some ⟨g, 0, none⟩) gs.length gs.length] ∧ Ex1 g W4 wi) (fun i _ => l.length - (intOf i).toNat)
  case atStart => exact ⟨0, Nat.zero_le _, rfl, hz, d0, d1, v4, Ex1.refl _ _⟩
  case round =>
    clear hz d0 d1 v4
    obtain ⟨k, hk, rfl, ho1, hD0, hD1, hvT, he⟩ := hrel
    have hLr : Rd wr L l := hL.ex1 he (fun a e e2 => by have := hLo a e; omega)
    by_cases hlt : k < l.length
    · obtain ⟨gL, oL, q, rfl, hq, hgq, cq⟩ := hLr.at_ hlt
      obtain ⟨hq0, hq1⟩ := Hlr.out q (List.mem_of_getElem? hq)
      obtain ⟨q, rfl⟩ := Int.eq_ofNat_of_zero_le hq0
      have hto : toN gs.length l (k + 1) = (toN gs.length l k).set q k := by rw [toN, List.getD_eq_getElem?_getD, hq]; rfl
      have Hto := Lib.hid hto
      have ho2 := ho1.set_ q (k : Int)
      have E2 : Ex1 g wr (wr.setCell ⟨g, q, none⟩ (.int .i64 k)) := (Ex1.refl _ _).setCell rfl _
      have qt := hvT.cell 0 (v := .slice (some ⟨g, 0, none⟩) gs.length gs.length) rfl
      obtain ⟨y, hy⟩ : ∃ y, (toN gs.length l k)[q]? = some y := ⟨_, List.getElem?_eq_getElem (by rw [toN_len]; omega)⟩
      have cy := ho1.cell hy
      have fy := ho1.frozen q
      clear hq hto hy
      go_wp2_with fail
      go_roundw
      case rel => exact ⟨k + 1, by omega, by go_num, by rw [Hto.out]; exact ho2, hD0.ex1 E2 (by omega), hD1.ex1 E2 (by omega), hvT.ex1 E2 (by omega), he.trans E2⟩
      case measure => simp [intOf]; omega
    · obtain rfl : k = l.length := by omega
      have htol : (toN gs.length l l.length).length = gs.length := toN_len _ _ _
      obtain ⟨to, hto⟩ : ∃ to, toN gs.length l l.length = to := ⟨_, rfl⟩
      have Hto := Lib.hid hto
      rw [hto] at ho1 htol
      clear hto
      obtain ⟨mo, hmo⟩ : ∃ mo, outs.map (fun k => to.getD k.toNat 0) = mo := ⟨_, rfl⟩
      have Hmo := Lib.hid hmo
      have xw := xx.ex1 he (by omega)
      have Hm : ∀ W, Ex wr W → Calls Tryd.prog 96 #[.slice B outs.length d, .slice (some ⟨g, 0, none⟩) gs.length gs.length] W fun e w' => LIo W mo e w' := fun W x => by
        have := mapped_c B d outs (some ⟨g, 0, none⟩) gs.length to W (ho.ex (xw.trans x)) ((ho1.ex x).rd (by omega)) (by rw [htol]; exact Hou.out)
        rw [hmo, htol] at this
        exact this
      clear hmo
      have hwz := he.size'
      have q0 := hD0.cell 0 (v := .int .i64 n) rfl
      have q2 := hD0.cell 2 (v := .slice B outs.length d) rfl
      have q3 := hvT.cell 0 (v := .slice (some ⟨g, 0, none⟩) gs.length gs.length) rfl
      have HS : ∀ W, Ex wr W → (Ex wr W ∧ W.cell? ⟨w.heap.size, 0, none⟩ = some (.int .i64 n) ∧ W.cell? ⟨w.heap.size, 2, none⟩ = some (.slice B outs.length d) ∧ W.cell? ⟨T, 0, none⟩ = some (.slice (some ⟨g, 0, none⟩) gs.length gs.length)) := fun W h => ⟨h, cell_ex h q0, cell_ex h q2, cell_ex h q3⟩
      go_wp2_with fail
      go_cut [9] from 30 (fun s9 W => ∃ (O : Nat) (Z : Option Addr) (zc : Nat), s9 = .pointer (some ⟨O, 0, none⟩) ∧ VB W O 29 #[.int .i64 n, .slice none 0 0, .slice Z mo.length zc] ∧
        (∃ lo hi, OI W lo hi (.slice Z mo.length zc) mo ∧ wr.heap.size ≤ lo ∧ hi ≤ W.heap.size ∧ (O < lo ∨ hi ≤ O)) ∧ wr.heap.size ≤ O ∧ Ex wr W)
      case first =>
        have eA := (Ex.refl wr).drew
        have eB := ((Ex.refl wr).alloc (.cells #[.int .i64 0, .slice none 0 0, .slice none 0 0] 29)).drew
        have vB := VB.new wr 29 #[.int .i64 0, .slice none 0 0, .slice none 0 0]
        have s1 : (wr.alloc (.cells #[.int .i64 0, .slice none 0 0, .slice none 0 0] 29)).heap.size = wr.heap.size + 1 := by simp
        go_region_held3 (fun W => Ex wr W ∧ W.cell? ⟨w.heap.size, 0, none⟩ = some (.int .i64 n) ∧ W.cell? ⟨w.heap.size, 2, none⟩ = some (.slice B outs.length d) ∧ W.cell? ⟨T, 0, none⟩ = some (.slice (some ⟨g, 0, none⟩) gs.length gs.length)) (first
          | (exact HS _ (ex_stores3 x7 (by omega))) | (exact HS _ (x7.alloc _)) | (exact HS _ x7) | (exact HS _ eB) | (exact HS _ ((Ex.refl wr).alloc _)) | (exact HS _ eA) | (exact HS _ (Ex.refl wr))) (first
          | (go_at_call 96
             have hb := (‹Ex wr _ ∧ _›).1
             refine (Hm _ hb).mono ?_
             rintro e w7 ⟨_, rfl, ⟨Z, zc, rfl, fz⟩, x7'⟩
             have x7 := hb.trans x7'
             have hz7 := x7'.size
             have hzb := hb.size
             try have vC := VB.ex (w := (wr.alloc (.cells #[.int .i64 0, .slice none 0 0, .slice none 0 0] 29)).drew) vB x7'
             try have c0 := vC.cell 0 (v := .int .i64 0) rfl
             try have c1 := vC.cell 1 (v := .slice none 0 0) rfl
             try have c2 := vC.cell 2 (v := .slice none 0 0) rfl
             try have f0 := vC.frozen 0
             try have f1 := vC.frozen 1
             try have f2 := vC.frozen 2
             clear hb))
        all_goals
          go_wp2_with fail
          go_meet
          first
          | exact ⟨_, _, _, rfl, VB.new _ _ _, ⟨_, _, OI.ex ⟨Z, zc, rfl, fz⟩ ((Ex.refl _).alloc _), by omega, ((Ex.refl w7).alloc _).size, .inr (Nat.le_refl _)⟩, by omega, x7.alloc _⟩
          | (obtain ⟨dd, zz⟩ := vC.st3 (.int .i64 n) (.slice none 0 0) (.slice Z mo.length zc)
             have s2 : (wr.alloc (.cells #[.int .i64 0, .slice none 0 0, .slice none 0 0] 29)).drew.heap.size = wr.heap.size + 1 := s1
             exact ⟨_, _, _, rfl, dd, ⟨_, _, OI.e1 ⟨Z, zc, rfl, fz⟩ zz (by omega), by omega, zz.size, by omega⟩, by omega, x7.ex1 zz (by omega)⟩)
      case rest =>
        obtain ⟨W6, rfl⟩ : ∃ q, q = wc := ⟨_, rfl⟩
        obtain ⟨O, Z, zc, rfl, vO, ⟨lo, hi, oZ, hlo, hhi, hOz⟩, hO, x6⟩ := hcut
        clear HS Hm q0 q2 q3
        have D0 := hD0.ex x6
        have D1 := hD1.ex x6
        have vT := hvT.ex x6
        have oT := ho1.ex x6
        have X6 := xw.trans x6
        have hL6 := hLr.ex x6
        have hz6 := x6.size
        have hTl := hvT.lt
        have hD1l := hD1.lt
        clear hD0 hD1 hvT he hLr
        go_wp2_with fail
        have hW6 := Nat.le_refl W6.heap.size
        have hg0 := ALG.nil W6 wr.heap.size
        obtain ⟨V, rfl⟩ : ∃ q, q = wr := ⟨_, rfl⟩
        go_loopw [39] (fun i wi => ∃ (k : Nat) (Y : Option Addr) (N C : Nat), k ≤ l.length ∧ i = .int .i64 k ∧ Own wi g to ∧
          VB wi w.heap.size 29 #[.int .i64 n, .slice A gs.length c, .slice B outs.length d] ∧ VB wi (w.heap.size + 1) 29 #[.int .i64 0, .slice none 0 0, .slice none 0 0] ∧
          VB wi T 23 #[.slice (some ⟨g, 0, none⟩) gs.length gs.length] ∧ VB wi O 29 #[.int .i64 n, .slice Y N C, .slice Z mo.length zc] ∧ ALG wi V.heap.size (.slice Y N C) ((l.take k).map (fun k => movG to (gAt gs k))) ∧
          OI wi lo hi (.slice Z mo.length zc) mo ∧ (∀ k, (Value.slice Y N C).ownBlock = some k → k < lo ∨ hi ≤ k) ∧ (Value.slice Y N C).ownBlock ≠ some O ∧ Rd wi L l ∧ Ex w wi ∧ W6.heap.size ≤ wi.heap.size) (fun i _ => l.length - (intOf i).toNat)
        case atStart => exact ⟨0, none, 0, 0, Nat.zero_le _, rfl, oT, D0, D1, vT, vO, hg0, oZ, (fun k e => by cases e), (fun e => by cases e), hL6, X6, hW6⟩
        case round =>
          clear hg0 vO oZ D0 D1 vT oT hL6
          obtain ⟨k, Y, N, C, hk, rfl, ho, hD0, hD1, hvT, hvO, hgO, hoZ, hgz, nO, hLr, he, hzw⟩ := hrel
          by_cases hlt : k < l.length
          · obtain ⟨gL, oL, q, rfl, hq, hgq, cq⟩ := hLr.at_ hlt
            obtain ⟨hq0, hq1⟩ := Hlr.out q (List.mem_of_getElem? hq)
            obtain ⟨q, rfl⟩ := Int.eq_ofNat_of_zero_le hq0
            obtain ⟨g1, off, x, rfl, hx, c0, c1, c2, c3⟩ := h.gate (show q < gs.length by omega)
            have hglt := cell_lt c0
            dsimp only at hglt
            replace c0 := cell_ex he c0
            replace c1 := cell_ex he c1
            replace c2 := cell_ex he c2
            replace c3 := cell_ex he c3
            have HFL := Lib.hid (show (l.take (k + 1)).map (fun k => movG to (gAt gs k)) = (l.take k).map (fun k => movG to (gAt gs k)) ++ [movG to x] by
              rw [List.take_add_one, hq, List.map_append]
              simp [gAt_of (k := (q : Int)) (g := x) (by rw [Int.toNat_natCast]; exact hx)])
            have hopx := Hop.out x (List.mem_of_getElem? hx)
            have hflen : (l.take k).length ≤ 1000 := by rw [List.length_take]; omega
            clear hx hq
            obtain ⟨kd, ka, kb, vl⟩ := x
            dsimp only at c0 c1 c2 c3 HFL hopx
            have hwl := he.size
            have cG := hvO.cell 1 (v := .slice Y N C) rfl
            have cA := hD0.cell 1 (v := .slice (some ⟨g1, off, none⟩) gs.length c) rfl
            have cT := hvT.cell 0 (v := .slice (some ⟨g, 0, none⟩) gs.length gs.length) rfl
            have hcm := withOperands_c 98 (enters_of Tryd.func98 (by kernel_rfl) rfl) #[.pointer (some ⟨T, 0, none⟩)] ⟨kd, ka, kb, vl⟩ to wr.drew (fun W j y hx hy => by
              have hX := ((Ex.refl wr).drew).trans hx
              exact kept1_c j T (some ⟨g, 0, none⟩) gs.length to y W ((ho.ex hX).rd (by omega)) (by rw [htol]; exact cell_ex hX cT) hy) (by rw [htol]; exact hopx)
            unfold gtV at hcm
            obtain ⟨mg, hmg⟩ : ∃ m, movG to ⟨kd, ka, kb, vl⟩ = m := ⟨_, rfl⟩
            rw [hmg] at hcm HFL
            clear hmg
            go_wp2_with fail
            go_region_law (first
              | (refine step_append_run (vs := .slice Y N C) (vx := .slice (some ⟨w8.heap.size, 0, none⟩) 1 1) rfl _ _ _ rfl rfl rfl (by with_reducible exact hrun9) ?_)
              | (go_simp
                 go_at_call 97
                 refine hcm.mono ?_
                 rintro e w8 ⟨rfl, x8⟩
                 replace x8 := ((Ex.refl wr).drew).trans x8
                 have cG8 := cell_ex x8 cG
                 have cG9 := cell_ex (((Ex.refl w8).alloc (.cells #[.int .i64 mg.kd, .int .i64 mg.a, .int .i64 mg.b, .int .i64 mg.vl] 103))) cG8
                 have hz8 := x8.size
                 obtain ⟨v9, w9, hrun9, hg9, hI9, ho9, hE9⟩ := galp 27 w8 V.heap.size _ _ mg (hgO.ex x8) (by omega) (by rw [List.length_map]; omega)
                 obtain ⟨Y9, N9, C9, rfl⟩ := (hg9.og (by rw [List.length_append, List.length_map, List.length_singleton]; omega)).rd.form
                 have hv8 := hvO.ex x8
                 have hv9 : VB w9 O 29 #[.int .i64 n, .slice Y N C, .slice Z mo.length zc] := (hE9.block O hv8.lt (fun e => nO e.symm)).trans hv8
                 have cG10 := hv9.cell 1 (v := .slice Y N C) rfl
                 have fG10 := hv9.frozen 1))
            all_goals
              have E9 : Ex1 O w9 (w9.setCell ⟨O, 1, none⟩ (.slice Y9 N9 C9)) := (Ex1.refl _ _).setCell rfl _
              have vF := hv9.set_ 1 (.slice Y9 N9 C9)
              have hOl := hv8.lt
              have n9 : (Value.slice Y9 N9 C9).ownBlock ≠ some O := fun e => by
                rcases ho9 with h | ⟨q, h, hq⟩
                · rw [h] at e; exact nO e
                · rw [h] at e; injection e with e; omega
              have m9 : ∀ k, (Value.slice Y9 N9 C9).ownBlock = some k → k < lo ∨ hi ≤ k := fun k e => by
                rcases ho9 with h | ⟨q, h, hq⟩
                · rw [h] at e; exact hgz k e
                · rw [h] at e; injection e with e; omega
              have gF := hg9.k1 E9 n9
              rw [← HFL.out] at gF
              have z9 := hI9.size
              have zE := E9.size
              have keep : ∀ (q : Nat) (t : TypeId) (cs : Array Value), VB w8 q t cs → q < V.heap.size → VB (w9.setCell ⟨O, 1, none⟩ (.slice Y9 N9 C9)) q t cs := fun q t cs hq hlt => (hq.iv hI9 (by omega)).ex1 E9 (by omega)
              have oZ8 := hoZ.ex x8
              have oZ9 : OI w9 lo hi (.slice Z mo.length zc) mo := oZ8.keep (fun k h1 h2 h3 => hE9.block k h3 (fun e => by have := hgz k e.symm; omega))
              have oZF := oZ9.e1 E9 (by omega)
              have o9 : Own (w9.setCell ⟨O, 1, none⟩ (.slice Y9 N9 C9)) g to := by
                have h8 := ho.ex x8
                have h9 : Own w9 g to := by
                  obtain ⟨cur, hc, hx⟩ := h8
                  exact ⟨cur, (hI9.block g (by omega) (by omega)).trans hc, hx⟩
                exact h9.ex1 E9 (by omega)
              have hL9 : Rd (w9.setCell ⟨O, 1, none⟩ (.slice Y9 N9 C9)) (some ⟨gL, oL, none⟩) l := (hLr.ex x8).keep fun a e hl => by
                have h1 := hLo a e
                have h2 : (w9.setCell ⟨O, 1, none⟩ (.slice Y9 N9 C9)).heap[a.block]? = w9.heap[a.block]? := E9.block a.block (by omega) (by intro e2; injection e2 with e2; omega)
                rw [h2]
                exact hI9.block a.block hl (by omega)
              have eF := ((he.trans x8).iv hI9 (by omega)).ex1 E9 (by omega)
              have k0 := keep _ _ _ (hD0.ex x8) (by omega)
              have k1 := keep _ _ _ (hD1.ex x8) (by omega)
              have k3 := keep _ _ _ (hvT.ex x8) (by omega)
              clear keep c0 c1 c2 c3 cG cG8 cG9 cG10 fG10 hcm hrun9 cT cA cq
              go_wp2_with fail
              go_roundw
              case rel => exact ⟨k + 1, Y9, N9, C9, by omega, by go_num, o9, k0, k1, k3, vF, gF, oZF, m9, n9, hL9, eF, by omega⟩
              case measure => simp [intOf]; omega
          · obtain rfl : k = l.length := by omega
            rw [List.take_length] at hgO
            have hlg : (l.map (fun k => movG to (gAt gs k))).length ≤ 1048576 := by rw [List.length_map]; omega
            obtain ⟨ga, gb, hog, hga, hgb, hgd⟩ := hgO.og1 hlg (by omega)
            have OC : OCirc wr V.heap.size wr.heap.size (.slice Y N C) (.slice Z mo.length zc) (kepC ⟨n, gs, outs⟩ l) := by
              refine ⟨ga, gb, lo, hi, ?_, ?_, hga, hgb, hlo, by omega, ?_⟩
              · show OG _ _ _ _ (l.map (fun k => movG (toN gs.length l l.length) (gAt gs k)))
                rw [Hto.out]
                exact hog
              · show OI _ _ _ _ (outs.map (fun k => (toN gs.length l l.length).getD k.toNat 0))
                rw [Hto.out, Hmo.out]
                exact hoZ
              · rcases hgd with h | ⟨q, e, rfl, rfl⟩
                · omega
                · have := hgz _ e; omega
            obtain ⟨dd, zz⟩ := hD1.st3 (.int .i64 n) (.slice Y N C) (.slice Z mo.length zc)
            have s0 := hvO.cell 0 (v := .int .i64 n) rfl
            have s1 := hvO.cell 1 (v := .slice Y N C) rfl
            have s2 := hvO.cell 2 (v := .slice Z mo.length zc) rfl
            have r0 := hD1.cell 0 (v := .int .i64 0) rfl
            have r1 := hD1.cell 1 (v := .slice none 0 0) rfl
            have r2 := hD1.cell 2 (v := .slice none 0 0) rfl
            have f0 := hD1.frozen 0
            have f1 := hD1.frozen 1
            have f2 := hD1.frozen 2
            have C0 := dd.cell 0 (v := .int .i64 n) rfl
            have C1 := dd.cell 1 (v := .slice Y N C) rfl
            have C2 := dd.cell 2 (v := .slice Z mo.length zc) rfl
            have eF := he.ex1 zz (by omega)
            have xwz := xw.size
            go_wp2_with fail
            refine bodyPost_ret (v := .agg #[.int .i64 n, .slice Y N C, .slice Z mo.length zc]) (by simp [results, Tryd.results45, go_sem, C0, C1, C2]) rfl ?_
            have o7 := OC.e1 zz (by omega)
            have zs := zz.size
            exact ⟨_, _, rfl, o7.more (by omega) (by omega), eF⟩
end Go.Proofs.YtgblnkadmieflaaDoor
