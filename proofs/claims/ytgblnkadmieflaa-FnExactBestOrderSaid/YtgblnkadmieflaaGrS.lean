/- Contracts: monogamous graphs, cuts behind edges, widths of cuts; on both sides. -/
import Derived.Test.YtgblnkadmieflaaGrR
import Derived.Test.YtgblnkadmieflaaGrV
import Derived.Deep.RegionLaw
import Derived.Deep.Cut
namespace Go.Proofs.Ytgblnkadmieflaa
set_option maxRecDepth 100000
open Go Go.RowKit
theorem occursOnce_c (n : Nat) (L : Option Addr) (lc : Nat) (rows : List (List Int)) (w : World) (h : RdM w L rows) (hn : n ≤ 1000) (ht : rows.flatten.length ≤ 1099511627776) :
    Calls Try.prog 59 #[.int .i64 n, .slice L rows.length lc] w fun e w' => e = .returned (.bool (permB n rows.flatten)) ∧ Ex w w' := by
  have hj := joined_c L lc rows w h ht
  go_enter Try.func59, Try.ntmps59
  go_wp2_with fail
  refine hj.mono ?_
  rintro e w1 ⟨v, rfl, ⟨O, oc, rfl, fo⟩, x1⟩
  clear hj ht
  obtain ⟨fl, hfl⟩ : ∃ fl, rows.flatten = fl := ⟨_, rfl⟩
  have HF := Lib.hid hfl
  rw [hfl] at fo ⊢
  clear hfl
  go_wp2_with fail
  refine (isPermutation_c O oc fl n w1 fo.rd hn).mono ?_
  rintro e w2 ⟨rfl, x2⟩
  go_wp2
  go_ret
  exact ⟨ret_bool (by rw [HF.out]), x1.trans x2⟩
theorem validB_no_mono {x : Gr} (h : validB x = false) : (validB x && monoB x) = false := by rw [h]; rfl
theorem validB_yes_mono {x : Gr} (h : validB x = true) : (validB x && monoB x) = monoB x := by rw [h]; rfl
theorem validB_dims {x : Gr} (h : validB x = true) : 0 ≤ x.wires ∧ x.wires ≤ 100 ∧ x.es.length ≤ 60 ∧ x.ins.length ≤ 12 ∧ x.outs.length ≤ 12 ∧ (∀ e ∈ x.es, edK e = true) ∧ (∀ k ∈ x.ins, 0 ≤ k ∧ k ≤ x.wires - 1) ∧ (∀ k ∈ x.outs, 0 ≤ k ∧ k ≤ x.wires - 1) ∧ ∀ e ∈ x.es, (∀ k ∈ e.ins, 0 ≤ k ∧ k ≤ x.wires - 1) ∧ ∀ k ∈ e.outs, 0 ≤ k ∧ k ≤ x.wires - 1 := by
  simp only [validB, Bool.and_eq_true] at h
  obtain ⟨⟨⟨⟨hd, hi⟩, ho⟩, he⟩, _⟩ := h
  simp only [dimB, Bool.and_eq_true, decide_eq_true_eq] at hd
  have hw := inB_bd hd.1.1.1
  exact ⟨hw.1, hw.2, hd.1.1.2, hd.1.2, hd.2, fun e h => (edRK he h).1, fun k hk => all_bd hi hk, fun k hk => all_bd ho hk, fun e h => (edRK he h).2⟩
theorem two_lr {w w1 : World} {B : Nat} (y : Ex w w1) (hB : B ≤ w1.heap.size) {A : Option Addr} {c : Nat} {r : List Int} (hr : Rd w A r) {A' : Option Addr} {c' : Nat} {r' : List Int} (hr' : Rd w A' r') :
    LR w (((w1.alloc (.cells #[.slice A r.length c] 23)).alloc (.cells #[.slice A' r'.length c'] 23)).drew) B (.slice (some ⟨w1.heap.size, 0, none⟩) 1 1) [r] ∧ LR w (((w1.alloc (.cells #[.slice A r.length c] 23)).alloc (.cells #[.slice A' r'.length c'] 23)).drew) B (.slice (some ⟨w1.heap.size + 1, 0, none⟩) 1 1) [r'] := by
  have hs : (w1.alloc (.cells #[.slice A r.length c] 23)).heap.size = w1.heap.size + 1 := by simp
  have h1 := LR.one w w1 (c := c) hr hB
  have h2 := LR.one w (w1.alloc (.cells #[.slice A r.length c] 23)) (B := B) (c := c') hr' (by omega)
  rw [hs] at h2
  exact ⟨h1.ex (((Ex.refl _).alloc _).drew), h2.ex ((Ex.refl _).drew)⟩
set_option maxHeartbeats 4000000 in
theorem isMonogamous_c (x : Gr) (E : Option Addr) (ec : Nat) (I : Option Addr) (ic : Nat) (O : Option Addr) (oc : Nat) (w : World) (hE : RdS EE w E x.es) (hI : Rd w I x.ins) (hO : Rd w O x.outs) :
    Calls Try.prog 39 #[.agg #[.int .i64 x.wires, .slice E x.es.length ec, .slice I x.ins.length ic, .slice O x.outs.length oc]] w fun e w' => e = .returned (.bool (validB x && monoB x)) ∧ Ex w w' := by
  have hEl := hE.1
  have hIl := hI.len
  have hOl := hO.len
  have x0 := (Ex.refl w).alloc (.cells #[.int .i64 x.wires, .slice E x.es.length ec, .slice I x.ins.length ic, .slice O x.outs.length oc] 31)
  have d0 := VB.new w 31 #[.int .i64 x.wires, .slice E x.es.length ec, .slice I x.ins.length ic, .slice O x.outs.length oc]
  go_enter Try.func39, Try.ntmps39
  go_wp2_with fail
  generalize w.alloc (.cells #[.int .i64 x.wires, .slice E x.es.length ec, .slice I x.ins.length ic, .slice O x.outs.length oc] 31) = W0 at *
  refine (isGraph_c x E ec I ic O oc W0 (hE.ex x0) (hI.ex x0) (hO.ex x0)).mono ?_
  rintro e w1 ⟨rfl, x1⟩
  have d1 := d0.ex x1
  have y1 := x0.trans x1
  clear d0 x0 x1
  cases hb : validB x with
  | false =>
    have H := Lib.hid (validB_no_mono hb)
    clear hb
    go_wp2
    go_ret
    exact ⟨ret_bool H.out.symm, y1⟩
  | true =>
    have H := Lib.hid (validB_yes_mono hb)
    obtain ⟨hw0, hw1, hes, hin, hout, hk, _⟩ := validB_dims hb
    have Hk := Lib.hid hk
    clear hb hk
    have q2 := d1.cell 2 (v := .slice I x.ins.length ic) rfl
    have q3 := d1.cell 3 (v := .slice O x.outs.length oc) rfl
    have hz : w.heap.size + 1 ≤ w1.heap.size := d1.lt
    go_wp2_with fail
    go_cut [3, 4] from 10 (fun s3 s4 W => LR w W (w.heap.size + 1) s3 [x.ins] ∧ LR w W (w.heap.size + 1) s4 [x.outs] ∧ (∀ b, s3.ownBlock = some b → s4.ownBlock ≠ some b) ∧ VB W w.heap.size 31 #[.int .i64 x.wires, .slice E x.es.length ec, .slice I x.ins.length ic, .slice O x.outs.length oc] ∧ Ex w W)
    case first =>
      have r2 := cell_ex ((Ex.refl w1).alloc (.cells #[.slice O x.outs.length oc] 23)) q2
      have r3 := cell_ex ((Ex.refl w1).alloc (.cells #[.slice I x.ins.length ic] 23)) q3
      go_region
      all_goals (go_wp2_with fail)
      all_goals go_meet
      · exact ⟨(two_lr y1 hz hI hO).1, (two_lr y1 hz hI hO).2, (fun b e e2 => by injection e with e; injection e2 with e2; simp only at e e2; omega), (((d1.ex ((Ex.refl w1).alloc _)).ex ((Ex.refl _).alloc _)).drew), ((y1.alloc _).alloc _).drew⟩
      · exact ⟨(two_lr y1 hz hO hI).2, (two_lr y1 hz hO hI).1, (fun b e e2 => by injection e with e; injection e2 with e2; simp only at e e2; omega), (((d1.ex ((Ex.refl w1).alloc _)).ex ((Ex.refl _).alloc _)).drew), ((y1.alloc _).alloc _).drew⟩
    case rest =>
      obtain ⟨hLo, hLd, hne, hd, he⟩ := hcut
      clear d1 y1 q2 q3
      have q1 := hd.cell 1 (v := .slice E x.es.length ec) rfl
      go_wp2_with fail
      clear q1
      go_loopw [3, 4, 19] (fun o d i wr => ∃ k : Nat, k ≤ x.es.length ∧ i = .int .i64 k ∧ LR w wr (w.heap.size + 1) o (x.ins :: (x.es.take k).map (fun e : Ed => e.outs)) ∧ LR w wr (w.heap.size + 1) d (x.outs :: (x.es.take k).map (fun e : Ed => e.ins)) ∧ (∀ b, o.ownBlock = some b → d.ownBlock ≠ some b) ∧ VB wr w.heap.size 31 #[.int .i64 x.wires, .slice E x.es.length ec, .slice I x.ins.length ic, .slice O x.outs.length oc] ∧ Ex w wr) (fun _ _ i _ => x.es.length - (intOf i).toNat)
      case atStart => exact ⟨0, Nat.zero_le _, rfl, hLo, hLd, hne, hd, he⟩
      case round =>
        clear hLo hLd hne hd he
        obtain ⟨k, hk, rfl, hLo, hLd, hne, hd, he⟩ := hrel
        by_cases hlt : k < x.es.length
        · obtain ⟨g, off, e, P, pc, Q, qc, rfl, hx, c0, c1, c2, c3, hP, hQ⟩ := hE.edge hlt
          replace c0 := cell_ex he c0
          replace c1 := cell_ex he c1
          replace c2 := cell_ex he c2
          replace c3 := cell_ex he c3
          have y3 := (Ex.refl wr).alloc (.cells #[.int .i64 e.kd, .int .i64 e.vl, .slice P e.ins.length pc, .slice Q e.outs.length qc] 51)
          have v3 := VB.new wr 51 #[.int .i64 e.kd, .int .i64 e.vl, .slice P e.ins.length pc, .slice Q e.outs.length qc]
          have HO := Lib.hid (show (x.ins :: (x.es.take k).map (fun e : Ed => e.outs)) ++ [e.outs] = x.ins :: (x.es.take (k + 1)).map (fun e : Ed => e.outs) by rw [List.take_add_one, hx]; simp)
          have HD := Lib.hid (show (x.outs :: (x.es.take k).map (fun e : Ed => e.ins)) ++ [e.ins] = x.outs :: (x.es.take (k + 1)).map (fun e : Ed => e.ins) by rw [List.take_add_one, hx]; simp)
          have hlo : (x.ins :: (x.es.take k).map (fun e : Ed => e.outs)).length ≤ 61 := by simp; omega
          have hld : (x.outs :: (x.es.take k).map (fun e : Ed => e.ins)).length ≤ 61 := by simp; omega
          have hsz := he.size
          have z3 := y3.size
          clear hx
          generalize (x.ins :: (x.es.take k).map (fun e : Ed => e.outs)) = ro at *
          generalize (x.outs :: (x.es.take k).map (fun e : Ed => e.ins)) = rd at *
          have S3 : (wr.alloc (.cells #[.int .i64 e.kd, .int .i64 e.vl, .slice P e.ins.length pc, .slice Q e.outs.length qc] 51)).heap.size = wr.heap.size + 1 := by simp
          have hLo3 := hLo.ex y3
          have hLd3 := hLd.ex y3
          have hlo3 := hLo.lt
          have hld3 := hLd.lt
          obtain ⟨o', w4, hrun4, hLo4, hE4, ho4⟩ := hLo3.push (c := qc) hQ (by omega) (by omega)
          rw [S3] at hrun4 ho4
          have hLd4 := hLd3.exo hE4 hne
          have hs4 := hE4.size
          have v4 : VB w4 wr.heap.size 51 #[.int .i64 e.kd, .int .i64 e.vl, .slice P e.ins.length pc, .slice Q e.outs.length qc] := (hE4.block _ v3.lt (fun e => by have := (hlo3 _ e.symm).2; omega)).trans v3
          have k2 := v4.cell 2 (v := .slice P e.ins.length pc) rfl
          obtain ⟨d', w5, hrun5, hLd5, hE5, hd5⟩ := hLd4.push (c := pc) hP (by omega) (by omega)
          have hLo5 := hLo4.exo hE5 (fun g e e2 => by
            rcases ho4 with h | ⟨q, h, hq⟩
            · rw [h] at e2; exact hne g e2 e
            · rw [h] at e2; injection e2 with e2; have := (hld3 g e).2; omega)
          have hne5 : ∀ b, o'.ownBlock = some b → d'.ownBlock ≠ some b := fun b e e2 => by
            have hb4 := (hLo4.lt b e).2
            rcases hd5 with h | ⟨q, h, hq⟩
            · rw [h] at e2
              rcases ho4 with h4 | ⟨q, h4, hq⟩
              · rw [h4] at e; exact hne b e e2
              · rw [h4] at e; injection e with e; have := (hld3 b e2).2; omega
            · rw [h] at e2; injection e2 with e2; omega
          have he5 := ((he.trans y3).exo hE4 (fun g e => Nat.le_of_succ_le (hlo3 g e).1)).exo hE5 (fun g e => Nat.le_of_succ_le (hld3 g e).1)
          have hd5' : VB w5 w.heap.size 31 #[.int .i64 x.wires, .slice (some ⟨g, off, none⟩) x.es.length ec, .slice I x.ins.length ic, .slice O x.outs.length oc] := by
            have h1 := hd.ex y3
            have hw := hd.lt
            have h2 := (hE4.block _ h1.lt (fun e => by have := (hlo3 _ e.symm).1; omega)).trans h1
            exact (hE5.block _ (by omega) (fun e => by have := (hld3 _ e.symm).1; omega)).trans h2
          rw [HO.out] at hLo5
          rw [HD.out] at hLd5
          clear hLo hLd hLo3 hLd3 hLo4 hLd4 hd he hE4 hE5 hlo3 hld3 ho4 hd5 y3 v3 v4
          go_wp2_with (first | (at_builtin; refine wpList_append_run rfl _ _ _ rfl rfl rfl hrun4 ?_) | (at_builtin; refine wpList_append_run rfl _ _ _ rfl rfl rfl hrun5 ?_))
          go_roundw
          case rel => exact ⟨k + 1, by omega, by go_num, hLo5, hLd5, hne5, hd5', he5⟩
          case measure => simp [intOf]; omega
        · obtain rfl : k = x.es.length := by omega
          rw [List.take_length] at hLo hLd
          have hlo : (x.ins :: x.es.map (fun e : Ed => e.outs)).length ≤ 61 := by simp; omega
          have hld : (x.outs :: x.es.map (fun e : Ed => e.ins)).length ≤ 61 := by simp; omega
          obtain ⟨LA, lac, rfl, rmO⟩ := hLo.rdm he (by omega)
          obtain ⟨LD, ldc, rfl, rmD⟩ := hLd.rdm he (by omega)
          have q0 := hd.cell 0 (v := .int .i64 x.wires) rfl
          have eO : (x.ins :: x.es.map (fun e : Ed => e.outs)).flatten = frL x := by simp [frL, outsL, List.flatMap]
          have eD : (x.outs :: x.es.map (fun e : Ed => e.ins)).flatten = toWL x := by simp [toWL, insL, List.flatMap]
          have bO : (x.ins :: x.es.map (fun e : Ed => e.outs)).flatten.length ≤ 1099511627776 := by
            rw [eO, frL, List.length_append]
            have := outsL_len (es := x.es) Hk.out
            omega
          have bD : (x.outs :: x.es.map (fun e : Ed => e.ins)).flatten.length ≤ 1099511627776 := by
            rw [eD, toWL, List.length_append]
            have := insL_len (es := x.es) Hk.out
            omega
          obtain ⟨n, hn⟩ := Int.eq_ofNat_of_zero_le hw0
          have HM := Lib.hid (show (validB x && monoB x) = (permB n (x.ins :: x.es.map (fun e : Ed => e.outs)).flatten && permB n (x.outs :: x.es.map (fun e : Ed => e.ins)).flatten) by rw [H.out, eO, eD, monoB, hn]; rfl)
          rw [hn] at q0 hw1
          have hcO := fun W (y : Ex wr W) => occursOnce_c n LA lac _ W (rmO.ex y) (by omega) bO
          have hcD := fun W (y : Ex wr W) => occursOnce_c n LD ldc _ W (rmD.ex y) (by omega) bD
          clear eO eD bO bD
          generalize (x.ins :: x.es.map (fun e : Ed => e.outs)) = ro at *
          generalize (x.outs :: x.es.map (fun e : Ed => e.ins)) = rd at *
          clear hLo hLd rmO rmD hn
          go_wp2_with fail
          refine (hcO _ (Ex.refl wr)).mono ?_
          rintro e w6 ⟨rfl, x6⟩
          have he6 := he.trans x6
          have q6 := cell_ex x6 q0
          obtain ⟨b1, hb1⟩ : ∃ b, permB n ro.flatten = b := ⟨_, rfl⟩
          have HM1 := HM.out
          rw [hb1] at HM1 ⊢
          have HM1 := Lib.hid HM1
          clear hb1
          cases b1 with
          | false =>
            go_wp2
            go_ret
            exact ⟨ret_bool HM1.out.symm, he6⟩
          | true =>
            go_wp2_with fail
            refine (hcD _ x6).mono ?_
            rintro e w7 ⟨rfl, x7⟩
            go_wp2
            go_ret
            exact ⟨ret_bool (by rw [HM1.out]; rfl), he6.trans x7⟩
end Go.Proofs.Ytgblnkadmieflaa
