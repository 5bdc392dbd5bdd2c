/- Edges: lists of edges in the uniform words; the laws' helpers on them. -/
import Derived.Test.YtgblnkadmieflaaUB
import Derived.Test.YtgblnkadmieflaaUEd
import Derived.RegionCalls
import Derived.Deep.RegionWith
import Derived.Deep.RegionHeld3
namespace Go.Proofs.Ytgblnkadmieflaa
set_option maxRecDepth 100000
open Go Go.RowKit
theorem OEd.keep {w w' : World} {a b : Nat} {v0 v1 : Value} {x : Ed} (h : OEd w a b v0 v1 x) (hk : ∀ k, a ≤ k → k < b → k < w.heap.size → w'.heap[k]? = w.heap[k]?) : OEd w' a b v0 v1 x := by
  obtain ⟨a0, b0, a1, b1, m0, m1, c0, c1, c2, c3, c4⟩ := h
  exact ⟨a0, b0, a1, b1, m0.keep (fun k h1 h2 => hk k (by omega) (by omega)), m1.keep (fun k h1 h2 => hk k (by omega) (by omega)), c0, c1, c2, c3, c4⟩
def edC (x : Ed) (v0 v1 : Value) : List Value := [.int .i64 x.kd, .int .i64 x.vl, v0, v1]
def edZ : List Value := [.int .i64 0, .int .i64 0, .slice none 0 0, .slice none 0 0]
def EE : EK Ed where
  k := 4
  R := fun w vs x => ∃ v0 v1, vs = edC x v0 v1 ∧ REd w v0 v1 x
  O := fun w a b vs x => ∃ v0 v1, vs = edC x v0 v1 ∧ OEd w a b v0 v1 x
  tot := fun x => 2 + totEd x
  mkE := fun k x => ⟨k, k + 1, mkI (k + 2) x.ins, mkI (k + 2 + totI x.ins) x.outs⟩
  rlen := fun h => by obtain ⟨_, _, rfl, _⟩ := h; rfl
  ex := fun h he => by obtain ⟨v0, v1, e, h⟩ := h; exact ⟨v0, v1, e, h.ex he⟩
  rd := fun h => by obtain ⟨v0, v1, e, h⟩ := h; exact ⟨v0, v1, e, h.rd⟩
  keep := fun h hk => by obtain ⟨v0, v1, e, h⟩ := h; exact ⟨v0, v1, e, h.keep hk⟩
  nn := fun x => by have := totEd_nn x; omega
  tmk := fun k x => by simp [totEd, totI, mkI, mk_len]
def RE (w : World) (v : Value) (x : List Ed) : Prop := RS EE w v x
def totE (x : List Ed) : Int := totS EE x
def mkE (k : Int) (x : List Ed) : List Ed := mkS EE k x
theorem totE_nn (x : List Ed) : 0 ≤ totE x := totS_nn EE x
theorem RE.ex {w w' : World} {v : Value} {x : List Ed} (h : RE w v x) (he : Ex w w') : RE w' v x := RS.ex h he
theorem RE.tot {w : World} {v : Value} {x : List Ed} (h : RE w v x) : totE x ≤ 1125899906842624 := RS.tot h
theorem RE.form {w : World} {v : Value} {x : List Ed} (h : RE w v x) : ∃ A n c, v = .slice A n c := RS.form h
theorem RdS.edge {w : World} {A : Option Addr} {xs : List Ed} (h : RdS EE w A xs) {j : Nat} (hj : j < xs.length) :
    ∃ g off x P pc Q qc, A = some ⟨g, off, none⟩ ∧ xs[j]? = some x ∧ w.cell? ⟨g, off + j * 4, none⟩ = some (.int .i64 x.kd) ∧ w.cell? ⟨g, off + j * 4 + 1, none⟩ = some (.int .i64 x.vl) ∧ w.cell? ⟨g, off + j * 4 + 2, none⟩ = some (.slice P x.ins.length pc) ∧ w.cell? ⟨g, off + j * 4 + 3, none⟩ = some (.slice Q x.outs.length qc) ∧ Rd w P x.ins ∧ Rd w Q x.outs := by
  obtain ⟨g, off, vs, x, hA, hx, hc, v0, v1, rfl, ⟨P, pc, rfl, hP⟩, ⟨Q, qc, rfl, hQ⟩⟩ := h.at_ hj
  exact ⟨g, off, x, P, pc, Q, qc, hA, hx, hc 0 _ rfl, hc 1 _ rfl, hc 2 _ rfl, hc 3 _ rfl, hP, hQ⟩
def OE (w : World) (a b : Nat) (v : Value) (x : List Ed) : Prop := OS EE 51 w a b v x
theorem OE.rd {w : World} {a b : Nat} {v : Value} {x : List Ed} (h : OE w a b v x) : RE w v x := OS.rd h
theorem OE.ex {w w' : World} {a b : Nat} {v : Value} {x : List Ed} (h : OE w a b v x) (he : Ex w w') : OE w' a b v x := OS.ex h he
theorem OE.iv {w w' : World} {a b a' b' : Nat} {v : Value} {x : List Ed} (h : OE w a b v x) (k : ExI a' b' w w') (hd : b ≤ a' ∨ b' ≤ a) : OE w' a b v x := OS.iv h k hd
theorem OE.e1 {w w' : World} {a b g : Nat} {v : Value} {x : List Ed} (h : OE w a b v x) (k : Ex1 g w w') (hd : g < a ∨ b ≤ g) : OE w' a b v x := OS.e1 h k hd
theorem OE.more {w : World} {a b a' b' : Nat} {v : Value} {x : List Ed} (h : OE w a b v x) (ha : a' ≤ a) (hb : b ≤ b') : OE w a' b' v x := OS.more h ha hb
theorem edgeInfo : (Try.prog.info? 51).map (fun i => (i.zero, i.size, i.bytes)) = some (some (.agg #[.int .i64 0, .int .i64 0, .slice none 0 0, .slice none 0 0]), 4, 64) := by kernel_rfl
theorem run_make_edges (n : Nat) (hn : n ≤ 1099511627776) (w : World) :
    (Instr.makeSlice 29 (.int .i64 (n : Int)) (.int .i64 (n : Int))).run Try.prog w = .ok (.slice (some ⟨w.heap.size, 0, none⟩) n n) (w.alloc (.cells ((List.replicate n edZ).flatten).toArray 51)) := by
  obtain ⟨i, hi, hz, hs, hb⟩ := info_parts edgeInfo
  have hr := run_make (P := Try.prog) w 29 51 i _ Try.underlying29 hi hz .i64 .i64 n n (by omega) (by omega) (by rw [hb]; omega) (by omega)
  simp only [Int.toNat_natCast, hs] at hr
  rw [hr]
  have := made_flat edZ (by decide) n
  rw [show edZ.length = 4 from rfl] at this
  rw [← this]
  rfl
set_option maxHeartbeats 1000000 in
theorem szEdgeS_q (A : Option Addr) (n c : Nat) (zs : List Int) (w : World) (hm : n ≤ 9223372036854775807) (hl : zs.length = n) (h0 : ∀ (i : Nat) (z : Int), zs[i]? = some z → 0 ≤ z)
    (h : ∀ (i : Nat) (z : Int), zs[i]? = some z → ∃ g off, ∃ (a b : Int), ∃ P m pc Q l qc, A = some ⟨g, off, none⟩ ∧ w.cell? ⟨g, off + i * 4, none⟩ = some (.int .i64 a) ∧ w.cell? ⟨g, off + i * 4 + 1, none⟩ = some (.int .i64 b) ∧ w.cell? ⟨g, off + i * 4 + 2, none⟩ = some (.slice P m pc) ∧ w.cell? ⟨g, off + i * 4 + 3, none⟩ = some (.slice Q l qc) ∧ QS 33 w (.agg #[.int .i64 a, .int .i64 b, .slice P m pc, .slice Q l qc]) z) :
    QS 17 w (.slice A n c) (n + zs.sum) := fun u l hx hl0 hl1 => by
  have hs := zsum_nn h0
  by_cases hb : l < (n : Int)
  · rw [if_pos (by omega)]
    clear h h0
    go_enter Try.func17, Try.ntmps17
    go_wp2
    go_ret
    exact ⟨rfl, Ex.refl _⟩
  · have hn : n ≤ 1048576 := by omega
    obtain ⟨R, hR⟩ : ∃ R : Int, (if l < (n : Int) + zs.sum then (-1 : Int) else l - ((n : Int) + zs.sum)) = R := ⟨_, rfl⟩
    rw [hR]
    have HR := Lib.hid hR
    clear hR
    go_enter Try.func17, Try.ntmps17
    go_wp2
    go_loopw [1, 5] (fun q i wr => ∃ k : Nat, k ≤ n ∧ q = .int .i64 (l - n - (zs.take k).sum) ∧ 0 ≤ l - n - (zs.take k).sum ∧ i = .int .i64 k ∧ Ex u wr) (fun _ i _ => n - (intOf i).toNat)
    case atStart => exact ⟨0, Nat.zero_le _, by simp, by simp; omega, rfl, Ex.refl _⟩
    case round =>
      obtain ⟨k, hk, rfl, hq, rfl, he⟩ := hrel
      by_cases hlt : k < n
      · obtain ⟨z, hz⟩ : ∃ z, zs[k]? = some z := ⟨_, List.getElem?_eq_getElem (by omega)⟩
        obtain ⟨g, off, a, b, P, m, pc, Q, l', qc, rfl, c0, c1, c2, c3, hq4⟩ := h k z hz
        have hxe := hx.trans he
        have hh := hq4 wr (l - n - (zs.take k).sum) hxe hq (by have := zsum_nn (zs := zs.take k) (fun i z hz => h0 i z (by rw [List.getElem?_take] at hz; split at hz <;> simp_all)); omega)
        have hts := zsum_take_succ hz
        have htl := zsum_take_le h0 (k + 1)
        have hz0 := h0 k z hz
        replace c0 := cell_ex hxe c0
        replace c1 := cell_ex hxe c1
        replace c2 := cell_ex hxe c2
        replace c3 := cell_ex hxe c3
        have HT := Lib.hid hts
        clear h h0 hz hts hq4
        go_wp2_with fail
        by_cases hzl : l - n - (zs.take k).sum < z
        · rw [if_pos hzl] at hh
          refine hh.mono ?_
          rintro e w1 ⟨rfl, x1⟩
          go_wp2
          go_ret
          exact ⟨by rw [← HR.out, if_pos (by have := HT.out; omega)]; rfl, he.trans x1⟩
        · rw [if_neg hzl] at hh
          refine hh.mono ?_
          rintro e w1 ⟨rfl, x1⟩
          have hE : l - n - (zs.take k).sum - z = l - n - (zs.take (k + 1)).sum := by have := HT.out; omega
          rw [hE]
          have hq' : 0 ≤ l - n - (zs.take (k + 1)).sum := by omega
          go_wp2
          go_roundw
          case rel => exact ⟨k + 1, by omega, rfl, hq', by go_num, he.trans x1⟩
          case measure => simp [intOf] <;> omega
      · obtain rfl : k = n := by omega
        rw [← hl, List.take_length] at hq
        clear h h0
        go_wp2
        go_ret
        refine ⟨?_, he⟩
        rw [← HR.out, if_neg (by omega)]
        show Ending.returned (.int .i64 (l - k - (zs.take k).sum)) = _
        rw [← hl, List.take_length]
        congr 2
        omega
set_option maxHeartbeats 2000000 in
theorem toEdgeS_u (x : List Ed) (v : Value) (w : World) (h : RE w v x) :
    Calls Try.prog 22 #[v] w fun e w' => ∃ y, e = .returned y ∧ OE w' w.heap.size w'.heap.size y x ∧ Ex w w' := by
  obtain ⟨⟨A, c, rfl, h⟩, ht⟩ := h
  have hl := h.1
  have hmk := fun W => run_make_edges x.length hl W
  have v0 := VB.new w 51 ((List.replicate x.length edZ).flatten).toArray
  have he0 := (Ex.refl w).alloc (.cells ((List.replicate x.length edZ).flatten).toArray 51)
  go_enter Try.func22, Try.ntmps22
  go_wp2
  go_loopw [4] (fun i wr => ∃ k : Nat, k ≤ x.length ∧ i = .int .i64 k ∧ Mk EE 51 edZ wr w.heap.size x k ∧ Ex w wr) (fun i _ => x.length - (intOf i).toNat)
  case atStart => exact ⟨0, Nat.zero_le _, rfl, Mk.start v0, he0⟩
  case round =>
    obtain ⟨k, hk, rfl, hv, he⟩ := hrel
    by_cases hlt : k < x.length
    · obtain ⟨g, off, r, P, pc, Q, qc, rfl, hr, c0, c1, c2, c3, hP, hQ⟩ := (h.ex he).edge hlt
      have Hr := Lib.hid hr
      clear hr
      go_wp2_with fail
      refine (toEdge_u r _ _ wr ⟨⟨P, pc, rfl, hP⟩, ⟨Q, qc, rfl, hQ⟩⟩).mono ?_
      rintro e w1 ⟨y0, y1, rfl, o, x1⟩
      obtain ⟨Y0, N0, C0, Y1, N1, C1, rfl, rfl⟩ := o.rd.form
      have v1 := hv.ex x1
      have q0 : w1.cell? ⟨w.heap.size, k * 4, none⟩ = some (.int .i64 0) := v1.zero hlt (q := 0) rfl
      have q1 : w1.cell? ⟨w.heap.size, k * 4 + 1, none⟩ = some (.int .i64 0) := v1.zero hlt (q := 1) rfl
      have q2 : w1.cell? ⟨w.heap.size, k * 4 + 2, none⟩ = some (.slice none 0 0) := v1.zero hlt (q := 2) rfl
      have q3 : w1.cell? ⟨w.heap.size, k * 4 + 3, none⟩ = some (.slice none 0 0) := v1.zero hlt (q := 3) rfl
      have z0 := v1.frozen (k * 4)
      have z1 := v1.frozen (k * 4 + 1)
      have z2 := v1.frozen (k * 4 + 2)
      have z3 := v1.frozen (k * 4 + 3)
      go_wp2_with fail
      go_roundw
      case rel => exact ⟨k + 1, by omega, by go_num, hv.put4 rfl rfl Hr.out x1 ⟨_, _, rfl, o⟩, ((((he.trans x1).setCell (Nat.le_refl _) _).setCell (Nat.le_refl _) _).setCell (Nat.le_refl _) _).setCell (Nat.le_refl _) _⟩
      case measure => simp [intOf] <;> omega
    · obtain rfl : k = x.length := by omega
      go_wp2
      go_ret
      exact ⟨_, rfl, ⟨⟨_, _, rfl, hv.done hl (Nat.le_refl _)⟩, ht⟩, he⟩
set_option maxHeartbeats 2000000 in
theorem eqEdgeS_u (x : List Ed) (v u : Value) (w : World) (h : RE w v x) (h' : RE w u x) :
    Calls Try.prog 26 #[v, u] w fun e w' => e = .returned (.bool true) ∧ Ex w w' := by
  obtain ⟨⟨A, c, rfl, h⟩, _⟩ := h
  obtain ⟨⟨A', c', rfl, h'⟩, _⟩ := h'
  have hl := h.1
  go_enter Try.func26, Try.ntmps26
  go_wp2
  go_loopw [5] (fun i wr => ∃ k : Nat, k ≤ x.length ∧ i = .int .i64 k ∧ Ex w wr) (fun i _ => x.length - (intOf i).toNat)
  case atStart => exact ⟨0, Nat.zero_le _, rfl, Ex.refl w⟩
  case round =>
    obtain ⟨k, hk, rfl, he⟩ := hrel
    by_cases hlt : k < x.length
    · obtain ⟨g, off, r, P, pc, Q, qc, rfl, hr, c0, c1, c2, c3, hP, hQ⟩ := (h.ex he).edge hlt
      obtain ⟨g', off', r', P', pc', Q', qc', rfl, hr', d0, d1, d2, d3, hP', hQ'⟩ := (h'.ex he).edge hlt
      obtain rfl : r = r' := by rw [hr] at hr'; injection hr'
      clear hr hr'
      have he1 := fun W (y : Ex wr W) => eqEdge_u r _ _ _ _ W ⟨⟨P, pc, rfl, hP.ex y⟩, ⟨Q, qc, rfl, hQ.ex y⟩⟩ ⟨⟨P', pc', rfl, hP'.ex y⟩, ⟨Q', qc', rfl, hQ'.ex y⟩⟩
      have HS : ∀ W, Ex wr W → (Ex wr W ∧ W.cell? ⟨g, off + k * 4, none⟩ = some (.int .i64 r.kd) ∧ W.cell? ⟨g, off + k * 4 + 1, none⟩ = some (.int .i64 r.vl) ∧ W.cell? ⟨g, off + k * 4 + 2, none⟩ = some (.slice P r.ins.length pc) ∧ W.cell? ⟨g, off + k * 4 + 3, none⟩ = some (.slice Q r.outs.length qc) ∧ W.cell? ⟨g', off' + k * 4, none⟩ = some (.int .i64 r.kd) ∧ W.cell? ⟨g', off' + k * 4 + 1, none⟩ = some (.int .i64 r.vl) ∧ W.cell? ⟨g', off' + k * 4 + 2, none⟩ = some (.slice P' r.ins.length pc') ∧ W.cell? ⟨g', off' + k * 4 + 3, none⟩ = some (.slice Q' r.outs.length qc')) := fun W y => ⟨y, cell_ex y c0, cell_ex y c1, cell_ex y c2, cell_ex y c3, cell_ex y d0, cell_ex y d1, cell_ex y d2, cell_ex y d3⟩
      have eA := (Ex.refl wr).drew
      go_wp2_with fail
      go_region_held3 (fun W => Ex wr W ∧ W.cell? ⟨g, off + k * 4, none⟩ = some (.int .i64 r.kd) ∧ W.cell? ⟨g, off + k * 4 + 1, none⟩ = some (.int .i64 r.vl) ∧ W.cell? ⟨g, off + k * 4 + 2, none⟩ = some (.slice P r.ins.length pc) ∧ W.cell? ⟨g, off + k * 4 + 3, none⟩ = some (.slice Q r.outs.length qc) ∧ W.cell? ⟨g', off' + k * 4, none⟩ = some (.int .i64 r.kd) ∧ W.cell? ⟨g', off' + k * 4 + 1, none⟩ = some (.int .i64 r.vl) ∧ W.cell? ⟨g', off' + k * 4 + 2, none⟩ = some (.slice P' r.ins.length pc') ∧ W.cell? ⟨g', off' + k * 4 + 3, none⟩ = some (.slice Q' r.outs.length qc')) (first
        | (exact HS _ x1) | (exact HS _ eA) | (exact HS _ (Ex.refl wr))) (first
        | (go_at_call 45
           have hb := (‹Ex wr _ ∧ _›).1
           refine (he1 _ hb).mono ?_
           rintro e w1 ⟨rfl, x1'⟩
           have x1 := hb.trans x1'
           clear hb))
      all_goals go_wp2
      all_goals exact ⟨⟨k + 1, by omega, by go_num, he.trans x1⟩, by simp [intOf] <;> omega⟩
    · obtain rfl : k = x.length := by omega
      go_wp2
      go_ret
      exact ⟨rfl, he⟩
set_option maxHeartbeats 4000000 in
theorem markEdgeS_u (lo hi : Nat) (x : List Ed) (v : Value) (k : Int) (w : World) (h : OE w lo hi v x) (hb : hi ≤ w.heap.size) (hk0 : 0 ≤ k) (hk : k + totE x ≤ 4611686018427387904) :
    Calls Try.prog 27 #[v, .int .i64 k] w fun e w' => e = .returned (.int .i64 (k + totE x)) ∧ OE w' lo hi v (mkE k x) ∧ ExI lo hi w w' := by
  obtain ⟨⟨A, c, rfl, h⟩, ht⟩ := h
  have hl := h.1
  go_enter Try.func27, Try.ntmps27
  go_wp2
  go_loopw [1, 5] (fun q i wr => ∃ j : Nat, j ≤ x.length ∧ q = .int .i64 (k + totS EE (x.take j)) ∧ i = .int .i64 j ∧ OwS EE 51 wr lo hi A ((mkS EE k x).take j ++ x.drop j) ∧ ExI lo hi w wr) (fun _ i _ => x.length - (intOf i).toNat)
  case atStart => exact ⟨0, Nat.zero_le _, by simp [totS], rfl, by simpa using h, ExI.refl _ _ _⟩
  case round =>
    obtain ⟨j, hj, rfl, rfl, hf, he⟩ := hrel
    by_cases hlt : j < x.length
    · obtain ⟨r, hr⟩ : ∃ r, x[j]? = some r := ⟨_, List.getElem?_eq_getElem hlt⟩
      have hml : ((mkS EE k x).take j).length = j := by rw [List.length_take, mkS_len]; omega
      have hr2 : ((mkS EE k x).take j ++ x.drop j)[j]? = some r := by rw [List.getElem?_append_right (by omega), hml, Nat.sub_self, List.getElem?_drop]; simpa using hr
      obtain ⟨g, off, vs, a, b, cur, rfl, hh, hc, ⟨v0, v1, rfl, ho⟩, hg1, hg2, ha, hb', hd, hset⟩ := hf.row hr2
      obtain ⟨a0, b0, a1, b1, m0, m1, i0, i1, i2, i3, i4⟩ := ho
      obtain ⟨P, pc, rfl, f0⟩ := m0
      obtain ⟨Q, qc, rfl, f1⟩ := m1
      have m0 : OI wr a0 b0 (.slice P r.ins.length pc) r.ins := ⟨P, pc, rfl, f0⟩
      have m1 : OI wr a1 b1 (.slice Q r.outs.length qc) r.outs := ⟨Q, qc, rfl, f1⟩
      clear f0 f1
      have s1 := totS_nn EE (x.take j)
      have s2 := totS_take_succ EE hr
      have s3 := totS_take_le EE x (j + 1)
      have e4 : EE.tot r = 2 + (totI r.ins + totI r.outs) := rfl
      have n0 := totI_nn r.ins
      have n1 := totI_nn r.outs
      rw [e4] at s2
      have HS := Lib.hid (mkS_step EE k x j r hr)
      have S2 := Lib.hid s2
      have c0 := hc 0 _ rfl
      have c1 := hc 1 _ rfl
      have c2 := hc 2 _ rfl
      have c3 := hc 3 _ rfl
      simp only [show EE.k = 4 from rfl, Nat.add_zero] at c0 c1 c2 c3 hset
      have z0 := frozen_of_cur hh (off + j * 4)
      have z1 := frozen_of_cur hh (off + j * 4 + 1)
      have hgl := heap_lt_of hh
      have hsz := he.size
      have hk4 : k + totS EE (x.take j) + (2 + (totI r.ins + totI r.outs)) ≤ 4611686018427387904 := by have : totE x = totS EE x := rfl; omega
      clear hr hr2 s2 hml hc hh e4
      obtain ⟨K, hK⟩ : ∃ K, k + totS EE (x.take j) = K := ⟨_, rfl⟩
      have HK := Lib.hid hK
      rw [hK] at hk4
      have hK0 : 0 ≤ K := by omega
      rw [hK]
      clear hK
      go_wp2_with fail
      rw [show K + 1 + 1 = K + 2 by omega]
      have E0 : Ex1 g wr ((wr.setCell ⟨g, off + j * 4, none⟩ (.int .i64 K)).setCell ⟨g, off + j * 4 + 1, none⟩ (.int .i64 (K + 1))) := ((Ex1.refl g wr).setCell (p := ⟨g, off + j * 4, none⟩) rfl _).setCell (p := ⟨g, off + j * 4 + 1, none⟩) rfl _
      have T0 := (((TurnS.refl g (off + j * 4) (off + j * 4 + 4) a b 51 wr).set (o := off + j * 4) (by omega) (by omega) (.int .i64 K)).set (o := off + j * 4 + 1) (by omega) (by omega) (.int .i64 (K + 1)))
      have k0 := set_keep (u := .int .i64 (K + 1)) (i := off + j * 4 + 1) (set_new (u := .int .i64 K) c0) (by omega)
      have k1 := set_new (u := .int .i64 (K + 1)) (set_keep (u := .int .i64 K) (i := off + j * 4) c1 (by omega))
      have k2 := set_keep (u := .int .i64 (K + 1)) (i := off + j * 4 + 1) (set_keep (u := .int .i64 K) (i := off + j * 4) c2 (by omega)) (by omega)
      have k3 := set_keep (u := .int .i64 (K + 1)) (i := off + j * 4 + 1) (set_keep (u := .int .i64 K) (i := off + j * 4) c3 (by omega)) (by omega)
      have s0 := E0.size
      clear c0 c1 c2 c3 z0 z1
      generalize (wr.setCell ⟨g, off + j * 4, none⟩ (.int .i64 K)).setCell ⟨g, off + j * 4 + 1, none⟩ (.int .i64 (K + 1)) = W at *
      refine (markIntS_u a0 b0 r.ins (.slice P r.ins.length pc) (K + 2) W (m0.e1 E0 (by omega)) (by omega) (by omega) (by omega)).mono ?_
      rintro e w1 ⟨rfl, mm0, I1⟩
      have s1' := I1.size
      have mm1 := (m1.e1 E0 (by omega)).iv I1 (by omega)
      replace k0 := cell_iv' I1 k0 (by omega)
      replace k1 := cell_iv' I1 k1 (by omega)
      replace k2 := cell_iv' I1 k2 (by omega)
      replace k3 := cell_iv' I1 k3 (by omega)
      have T1 := T0.iv I1 i0 i1 hd hgl
      clear m0 m1 T0 E0
      go_wp2_with fail
      refine (markIntS_u a1 b1 r.outs (.slice Q r.outs.length qc) (K + 2 + totI r.ins) w1 mm1 (by omega) (by omega) (by omega)).mono ?_
      rintro e w2 ⟨rfl, mm2, I2⟩
      have mm3 := mm0.iv I2 (by omega)
      replace k0 := cell_iv' I2 k0 (by omega)
      replace k1 := cell_iv' I2 k1 (by omega)
      replace k2 := cell_iv' I2 k2 (by omega)
      replace k3 := cell_iv' I2 k3 (by omega)
      have T2 := T1.iv I2 i2 i3 hd hgl
      have C : ∀ (q : Nat) (u : Value), (edC (EE.mkE K r) (.slice P r.ins.length pc) (.slice Q r.outs.length qc))[q]? = some u → w2.cell? ⟨g, off + j * 4 + q, none⟩ = some u := by
        intro q u hq
        rcases q with _ | _ | _ | _ | q
        · injection hq with hq; subst hq; exact k0
        · injection hq with hq; subst hq; exact k1
        · injection hq with hq; subst hq; exact k2
        · injection hq with hq; subst hq; exact k3
        · simp [edC] at hq
      have hf' := hset w2 _ (EE.mkE K r) T2 C ⟨_, _, rfl, ⟨a0, b0, a1, b1, mm3, mm2, i0, i1, i2, i3, i4⟩⟩
      have HS' := HS.out
      rw [HK.out] at HS'
      rw [HS'] at hf'
      have hX := he.trans (T2.exi hg1 hg2 ha hb')
      have hQ : K + 2 + totI r.ins + totI r.outs = k + totS EE (x.take (j + 1)) := by have := S2.out; have := HK.out; omega
      clear C T1 T2 k0 k1 k2 k3 mm0 mm1 mm2 mm3 hset hf HS'
      rw [hQ]
      clear hQ
      go_wp2_with fail
      go_roundw
      case rel => exact ⟨j + 1, by omega, rfl, by go_num, hf', hX⟩
      case measure => simp [intOf] <;> omega
    · obtain rfl : j = x.length := by omega
      go_wp2
      go_ret
      rw [List.drop_length, List.append_nil, List.take_of_length_le (by rw [mkS_len]; exact Nat.le_refl _)] at hf
      rw [List.take_length]
      exact ⟨rfl, ⟨⟨A, c, by rw [mkE, mkS_len], hf⟩, by rw [mkE, totS_mk]; exact ht⟩, he⟩
end Go.Proofs.Ytgblnkadmieflaa
