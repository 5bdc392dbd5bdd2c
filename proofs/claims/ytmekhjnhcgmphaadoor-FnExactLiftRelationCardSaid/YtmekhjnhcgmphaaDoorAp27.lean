/- The program's reduced list over Z/p: clones, reduced. The program's rows with zeros behind them (pad), and their comparison. The program's check of a reduced list over Z/p: isReduced, fits, isRelation. LiftRelation: the reference's rrLift, spGood, rlGood, LiftRelation. -/
import Derived.Test.YtmekhjnhcgmphaaDoorAp26
import Derived.Test.YtmekhjnhcgmphaaDoorAp04
import Derived.Laws.Rows
import Derived.Laws.Tables
import Derived.Test.YtmekhjnhcgmphaaDoorAp24
import Derived.Deep.RegionHeld3
import Derived.Test.YtmekhjnhcgmphaaDoorAp25
import Derived.Deep.RegionLaw
import Derived.BigQuiet
namespace Go.Proofs.YtmekhjnhcgmphaaDoor
set_option maxRecDepth 100000
open Go Go.RowKit
theorem run_make_rows0 (n : Nat) (hn : n ≤ 1099511627776) (w : World) :
    (Instr.makeSlice 22 (.int .i64 0) (.int .i64 (n : Int))).run Tryd.prog w = .ok (.slice (some ⟨w.heap.size, 0, none⟩) 0 n) (w.alloc (.cells (Array.replicate n (Value.slice none 0 0)) 38)) := by
  obtain ⟨i, hi, hz, hs, hb⟩ := info_parts sliceInfo
  have hr := run_make (P := Tryd.prog) w 22 38 i (.slice none 0 0) Tryd.underlying22 hi hz .i64 .i64 (0 : Nat) n (by omega) (by omega) (by rw [hb]; omega) (by omega)
  simp only [Int.toNat_natCast, hs] at hr
  rw [madeSlices, show (List.replicate n (Value.slice none 0 0)).toArray = Array.replicate n (Value.slice none 0 0) by simp] at hr
  exact hr
theorem GE.room (w : World) {B n : Nat} (hB : B ≤ w.heap.size) (hn : n ≤ 1099511627776) : GE ELI 38 (w.alloc (.cells (Array.replicate n (Value.slice none 0 0)) 38)) B (w.heap.size + 1) (.slice (some ⟨w.heap.size, 0, none⟩) 0 n) [] := by
  have ho : (w.alloc (.cells (Array.replicate n (Value.slice none 0 0)) 38)).ownsRow B 38 ELI.k (.slice (some ⟨w.heap.size, 0, none⟩) 0 n) 0 [] := ⟨by simp, .inr ⟨w.heap.size, n, _, rfl, hB, heap_alloc_new w _, Nat.zero_le _, by unfold maxLen; omega, by simp [ELI], by simp⟩⟩
  exact ⟨fun k e => by injection e with e; subst e; exact ⟨hB, Nat.lt_succ_self _⟩, [], fun _ => 0, fun _ => 0, rfl, ho, (fun j r hj => by simp at hj), (fun i j hi => by simp at hi)⟩
set_option maxHeartbeats 4000000 in
theorem clones_c (rows : List (List Int)) (A : Option Addr) (c : Nat) (w : World) (h : RdM w A rows) (hR : rows.length ≤ 1000) :
    Calls Tryd.prog 107 #[.slice A rows.length c] w fun e w' => ∃ g c', e = .returned (.slice (some ⟨g, 0, none⟩) rows.length c') ∧ rows.length ≤ c' ∧ GE ELI 38 w' w.heap.size w'.heap.size (.slice (some ⟨g, 0, none⟩) rows.length c') rows ∧ Ex w w' := by
  obtain ⟨R, hRl⟩ : ∃ R, rows.length = R := ⟨_, rfl⟩
  have HR0 := Lib.hid hRl
  rw [hRl] at hR ⊢
  clear hRl
  have hmk := fun W => run_make_rows0 R (by omega) W
  have y1 := (Ex.refl w).alloc (.cells (Array.replicate R (Value.slice none 0 0)) 38)
  have g1 := GE.room w (B := w.heap.size) (n := R) (Nat.le_refl _) (by omega)
  have s1 : (w.alloc (.cells (Array.replicate R (Value.slice none 0 0)) 38)).heap.size = w.heap.size + 1 := by simp
  rw [← s1] at g1
  go_enter Tryd.func107, Tryd.ntmps107
  go_wp2_with fail
  generalize w.alloc (.cells (Array.replicate R (Value.slice none 0 0)) 38) = W1 at *
  go_loopw [3, 11] (fun s3 s11 wr => ∃ k : Nat, k ≤ R ∧ s11 = .int .i64 k ∧ GE ELI 38 wr w.heap.size wr.heap.size s3 (rows.take k) ∧ s3 ≠ .slice none 0 0 ∧ Ex w wr) (fun _ s11 _ => R - (intOf s11).toNat)
  case atStart => exact ⟨0, Nat.zero_le _, rfl, g1, (fun e => by injection e with e; cases e), y1⟩
  case round =>
    rename World => wb
    clear g1 y1 s1
    obtain ⟨k, hk, rfl, hge, hnn, hex⟩ := hrel
    by_cases hkR : k < R
    · obtain ⟨g0, off0, A1, c1, r1, rfl, hr1, hc1, hrd⟩ := (h.ex hex).at_ (by rw [HR0.out]; exact hkR)
      have HT := Lib.hid (show rows.take (k + 1) = rows.take k ++ [r1] by rw [List.take_add_one, hr1]; rfl)
      have htl := List.length_take_le k rows
      have htk : (rows.take (k + 1)).length = k + 1 := by rw [List.length_take, HR0.out]; omega
      have hsz := hex.size
      have cO := clone_c A1 c1 r1 wb hrd
      have HTK := Lib.hid htk
      clear hr1 htk
      go_wp2_with fail
      refine cO.mono ?_
      rintro e w1 ⟨g, c', rfl, hc', hg, hO, x1⟩
      have z1 := x1.size
      obtain ⟨v', w2, hrun, hge2, hE2⟩ := push_own (hge.ex x1) z1 hO hc' hg hsz (by omega)
      rw [← HT.out] at hge2
      have x2 := hE2 w (hex.trans x1) (Nat.le_refl _)
      have hn2 : v' ≠ .slice none 0 0 := fun e => by
        obtain ⟨_, _, e2⟩ := hge2.nilv
        rw [e, HTK.out] at e2
        injection e2 with _ e2 _
        omega
      clear hE2 HT htl cO hge
      go_wp2_with (at_builtin; refine wpList_append_run rfl _ _ _ rfl rfl rfl hrun ?_)
      go_roundw
      case rel => exact ⟨k + 1, by omega, by go_num, hge2, hn2, x2⟩
      case measure => simp [intOf]; omega
    · obtain rfl : R = k := by omega
      rw [List.take_of_length_le (by rw [HR0.out]; exact Nat.le_refl _)] at hge
      have hfm := hge.form hnn
      rw [HR0.out] at hfm
      obtain ⟨G, C, rfl, hRC, _⟩ := hfm
      go_wp2_with fail
      go_ret
      exact ⟨G, C, rfl, hRC, hge, hex⟩
set_option maxHeartbeats 4000000 in
theorem reduced_c (p : Int) (n : Nat) (rows : List (List Int)) (A : Option Addr) (c : Nat) (w : World) (hF : fieldB p = true) (h : RdM w A rows) (hw : Wid n rows) (he : AllM p rows) (hn : n ≤ 1000) (hR : rows.length ≤ 1000) :
    Calls Tryd.prog 80 #[.int .i64 p, .slice A rows.length c, .int .i64 n] w fun e w' => ∃ A' c', e = .returned (.slice A' ((zpOps p).rref n rows).length c') ∧ RdMC w' A' ((zpOps p).rref n rows) ∧ Ex w w' := by
  have HF := Lib.hid hF
  have HW := Lib.hid hw
  have HE := Lib.hid he
  have cC := clones_c rows A c w h hR
  obtain ⟨R, hRl⟩ : ∃ R, rows.length = R := ⟨_, rfl⟩
  have HR0 := Lib.hid hRl
  rw [hRl] at hR cC ⊢
  obtain ⟨FIN, hFIN⟩ : ∃ FIN, (zpOps p).red n 0 0 rows = FIN := ⟨_, rfl⟩
  have HFIN := Lib.hid hFIN
  have HRR := Lib.hid (show (zpOps p).rref n rows = FIN.1.take FIN.2 by unfold Ops.rref; rw [hFIN])
  clear hF hw he h hRl hFIN
  have hmk := fun W => run_make_slices R (by omega) W
  go_enter Tryd.func80, Tryd.ntmps80
  go_wp2_with fail
  refine cC.mono ?_
  rintro e w1 ⟨G, C, rfl, hRC, hge, x1⟩
  clear cC
  obtain ⟨bs, hM, hG, hbs⟩ := hge.im HW.out
  have hbl : ∀ b ∈ bs, b < w1.heap.size := fun b hb => by
    obtain ⟨j, hj⟩ := List.getElem?_of_mem hb
    have hjl := (List.getElem?_eq_some_iff.1 hj).1
    exact (hM.row j b _ hj (List.getElem?_eq_getElem (by rw [← hM.len]; exact hjl))).1.lt
  have y1 := (Ex.refl w1).alloc (.cells (List.replicate R (Value.slice none 0 0)).toArray 38)
  have hN : NilM (w1.alloc (.cells (List.replicate R (Value.slice none 0 0)).toArray 38)) w1.heap.size R := ⟨_, heap_alloc_new w1 _, fun j hj => by simp [hj]⟩
  have hgl := hM.lt
  have hsz := x1.size
  have cR := reduction_c w _ p G w1.heap.size n R C R bs rows HF.out (hM.ex y1) hN HR0.out (by omega) (fun b hb => by have := hbl b hb; omega) HW.out HE.out hn hR (x1.trans y1) hG hsz hbs
  rw [HFIN.out] at cR
  clear hge hM hbl hN hbs y1
  go_wp2_with fail
  refine cR.mono ?_
  rintro e w3 ⟨bs3, rfl, hM3, hl3, hr3, x3⟩
  clear cR
  have hrr := hM3.rdmc (by rw [hl3]; omega) FIN.2
  have HT := Lib.hid (show (FIN.1.take FIN.2).length = FIN.2 by rw [List.length_take, hl3]; omega)
  have HL3 := Lib.hid hl3
  obtain ⟨r, hr⟩ : ∃ r, FIN.2 = r := ⟨_, rfl⟩
  rw [hr] at hr3 hrr HT HRR ⊢
  have hrC : r ≤ C := by omega
  clear hM3 hl3 hr
  go_wp2_with fail
  go_ret
  rw [HRR.out]
  exact ⟨some ⟨G, 0, none⟩, r, by rw [HT.out]; rfl, hrr, x3⟩
end Go.Proofs.YtmekhjnhcgmphaaDoor
namespace Go.Proofs.YtmekhjnhcgmphaaDoor
set_option maxRecDepth 100000
open Go Go.RowKit
theorem wpList_instr {P : Program} {ops : Array Oper} {rest : List Oper} {o : Oper} {a : Act} {w : World} {Q : Exit → Act → World → Prop} (hg : o.guard = none) (dst : Option Tmp) (hdst : o.dst = dst)
    (m : Sem Value) (he : execOp a.eval o = (do pure (.value (← m)))) {v : Value} {w' : World} (hrun : m.run P w = .ok v w')
    (h : wpList P ops Q rest (a.put dst v) w') : wpList P ops Q (o :: rest) a w := by
  subst hdst
  refine wpList_plain hg fun K hK => ?_
  unfold Oper.wp
  rw [he]
  simp only [Sem.run_bind, hrun, Result.andThen_ok, Sem.run_pure, Oper.upon_value]
  exact hK _ _ h
def pVals (xs : List Int) : Array Value := (xs.map (Value.int .i64)).toArray
theorem pVals_size (xs : List Int) : (pVals xs).size = xs.length := by simp [pVals]
theorem pVals_one (xs : List Int) : (pVals xs).all (·.oneCell') = true := Array.all_eq_true_iff_forall_mem.2 (fun v hv => by
  obtain ⟨x, _, rfl⟩ := List.mem_map.1 (by simpa [pVals] using hv : v ∈ xs.map (Value.int .i64))
  rfl)
theorem padInfo : (Tryd.prog.info? 97).map (fun i => (i.size, i.zero)) = some (48, some (.agg (pVals (List.replicate 48 0)))) := by kernel_rfl
theorem run_alloc_pad (w : World) : (Instr.alloc 97 true (.tuple #[])).run Tryd.prog w = .ok (.pointer (some ⟨w.heap.size, 0, none⟩)) (w.alloc (.cells (pVals (List.replicate 48 0)) 97)) := by
  obtain ⟨i, hi, e⟩ := Option.map_eq_some_iff.1 padInfo
  have hs : i.size = 48 := congrArg Prod.fst e
  have hz : i.zero = some (.agg (pVals (List.replicate 48 0))) := congrArg Prod.snd e
  unfold Instr.alloc zeroValue
  simp [go_sem, typeInfo, hi, hz, newVar, newRow, Value.cells]
theorem run_build_pad (w : World) : (Instr.build 97 #[]).run Tryd.prog w = .ok (.agg (pVals (List.replicate 48 0))) w := by
  obtain ⟨i, hi, e⟩ := Option.map_eq_some_iff.1 padInfo
  have hz : i.zero = some (.agg (pVals (List.replicate 48 0))) := congrArg Prod.snd e
  have hs : (Tryd.prog.info? 3).map (·.size) = some 1 := by kernel_rfl
  obtain ⟨i1, hi1, _⟩ := Option.map_eq_some_iff.1 hs
  unfold Instr.build zeroValue
  simp [go_sem, typeInfo, hi, hi1, hz, Value.cells, sizeOf, Instr.fill]
theorem run_slice_pad (w : World) (g : Nat) : (Instr.sliceAt 97 (.pointer (some ⟨g, 0, none⟩)) none none none).run Tryd.prog w = .ok (.slice (some ⟨g, 0, none⟩) 48 48) w := by
  have hs : (Tryd.prog.info? 3).map (·.size) = some 1 := by kernel_rfl
  obtain ⟨i, hi, e⟩ := Option.map_eq_some_iff.1 hs
  unfold Instr.sliceAt
  simp [go_sem, Instr.sliceBounds, sizeOf, typeInfo, hi, Instr.sureAddr]
set_option maxHeartbeats 400000 in
theorem pad_c (v : List Int) (A : Option Addr) (c : Nat) (w : World) (h : Rd w A v) (hv : v.length ≤ 48) :
    Calls Tryd.prog 81 #[.slice A v.length c] w fun e w' => e = .returned (.agg (pVals (padTo v 48))) ∧ Ex w w' := by
  have hu : Tryd.prog.underlying 97 = some (.array 48 3) := Tryd.underlying97
  have hsz : (Tryd.prog.info? 97).map (·.size) = some 48 := by kernel_rfl
  have hz1 := pVals_size (List.replicate 48 0)
  have hz2 := pVals_one (List.replicate 48 0)
  have hpl : (padTo v 48).length = 48 := padTo_len hv
  have hp1 := pVals_size (padTo v 48)
  have hp2 := pVals_one (padTo v 48)
  have hfl : (v.map (Value.int .i64)).length = v.length := by simp
  have hpad : (splice ((List.replicate 48 (0 : Int)).map (Value.int .i64)) 0 (v.map (Value.int .i64))).toArray = pVals (padTo v 48) := by
    simp only [splice, List.take_zero, List.nil_append, Nat.zero_add, hfl, pVals, padTo, List.map_append, List.map_replicate, List.drop_replicate]
  have ra := fun W => run_alloc_pad W
  have rb := fun W => run_build_pad W
  have hzl : pVals (List.replicate 48 0) = ((List.replicate 48 (0 : Int)).map (Value.int .i64)).toArray := rfl
  have hzz : ((List.replicate 48 (0 : Int)).map (Value.int .i64)).length = 48 := by simp
  rw [hpl] at hp1
  rw [List.length_replicate] at hz1
  obtain ⟨Z, hZ⟩ : ∃ Z, pVals (List.replicate 48 0) = Z := ⟨_, rfl⟩
  obtain ⟨L, hL⟩ : ∃ L, (List.replicate 48 (0 : Int)).map (Value.int .i64) = L := ⟨_, rfl⟩
  obtain ⟨Y, hY⟩ : ∃ Y, pVals (padTo v 48) = Y := ⟨_, rfl⟩
  simp only [hZ, hL, hY] at hz1 hz2 hp1 hp2 hpad ra rb hzl hzz ⊢
  clear hZ hL hY
  go_enter Tryd.func81, Tryd.ntmps81
  refine wp_seq (wp_region_list (wpList_instr rfl (some 2) rfl _ rfl (ra w) (wpList_nil ?_)))
  show Code.wp _ _ _ _ _
  generalize hW1 : w.alloc (.cells (Z) 97) = W1
  refine wp_seq (wp_region_list ?_)
  refine wpList_instr rfl (some 4) rfl (Instr.build 97 #[]) (by kernel_rfl) (rb W1) ?_
  refine wpList_instr rfl (some 3) rfl _ rfl (ra W1) ?_
  generalize hW2 : W1.alloc (.cells (Z) 97) = W2
  have hb2 : W2.heap[W1.heap.size]? = some (.cells (Z) 97 (0, 0)) := by rw [← hW2]; exact heap_alloc_new _ _
  have hb1 : W2.heap[w.heap.size]? = some (.cells (Z) 97 (0, 0)) := by rw [← hW2, ((Ex.refl W1).alloc (.cells (Z) 97)).block (k := w.heap.size) (by rw [← hW1]; simp), ← hW1]; exact heap_alloc_new _ _
  have x2 : Ex w W2 := by rw [← hW2, ← hW1]; exact ((Ex.refl w).alloc _).alloc _
  have s1 : W1.heap.size = w.heap.size + 1 := by rw [← hW1]; simp
  clear hW1 hW2
  obtain ⟨G, hG⟩ : ∃ G, W1.heap.size = G := ⟨_, rfl⟩
  rw [hG] at hb2 s1 ⊢
  clear hG
  refine wpList_store_row rfl 97 (.tmp 3) (.tmp 4) rfl G (Z) rfl rfl _ _ hb2 (by rw [hz1]; exact hsz) rfl hz2 (wpList_nil ?_)
  have hb3 := setRow_heap W2 G _ (Z) _ _ hb2
  have x3 := below_setRow (w0 := w) (B := w.heap.size) x2 (by omega : w.heap.size ≤ G) (Z)
  have hb4 : (W2.setRow G (Z)).heap[w.heap.size]? = some (.cells (Z) 97 (0, 0)) := (setRow_other W2 G w.heap.size (Z) (by omega)).trans hb1
  generalize W2.setRow G (Z) = W3 at *
  show Code.wp _ _ _ _ _
  refine wp_seq (wp_region_list ?_)
  refine wpList_instr rfl (some 5) rfl (Instr.sliceAt 97 (.pointer (some ⟨G, 0, none⟩)) none none none) (by kernel_rfl) (run_slice_pad W3 G) ?_
  refine wpList_instr rfl (some 6) rfl (pure (.slice A v.length c)) (by kernel_rfl) rfl ?_
  have hsrc := h.ex x3
  refine wpList_copy_splice rfl (.tmp 5) (.tmp 6) _ _ rfl 3 Tryd.underlying38 (by kernel_rfl) (some ⟨G, 0, none⟩) A 48 48 v.length c rfl rfl G 0 L 97 (by rw [← hzl]; exact hb3) (v.map (Value.int .i64)) (by rw [hfl]; exact (Nat.min_eq_left hv).symm) ?_ (by rw [hfl, hzz]; omega) (by
      intro y hy
      obtain ⟨x, _, rfl⟩ := List.mem_map.1 hy
      rfl) G W3 (Below.refl _ _) (Nat.le_refl _) ?_
  · intro hpos
    refine ⟨rfl, ?_⟩
    have hf0 : 0 < v.length := by simpa using hpos
    obtain ⟨g', off, hA, _⟩ := hsrc.2 0 hf0
    refine ⟨⟨g', off, none⟩, hA, fun j y hj => ?_⟩
    rw [List.getElem?_map] at hj
    cases hfj : v[j]? with
    | none => rw [hfj] at hj; cases hj
    | some y =>
      rw [hfj] at hj
      injection hj with hj
      subst hj
      have e : (⟨g', off, none⟩ : Addr).add j = ⟨g', off + j, none⟩ := by unfold Addr.add; split <;> simp_all
      rw [e]
      rw [hA] at hsrc
      exact hsrc.cell hfj
  intro W4 hw hx4
  have hb5 := hw.out
  rw [hpad] at hb5
  have hb6 : W4.heap[w.heap.size]? = some (.cells (Z) 97 (0, 0)) := (hx4.block _ (by omega)).trans hb4
  have x5 : Ex w W4 := Below.trans x3 (Below.mono hx4 (by omega))
  clear hb3 hb4 x3 hx4 hsrc hw x2 hb2
  refine wpList_nil ?_
  show Code.wp _ _ _ _ _
  refine wp_seq (wp_region_list ?_)
  refine wpList_load_row rfl 97 (.tmp 3) rfl G (by kernel_rfl) 97 Y (0, 0) (.array 48 3) hb5 hu rfl (by rw [hp1]; exact hsz) ?_
  refine wpList_store_row rfl 97 (.tmp 2) (.tmp 8) rfl w.heap.size Y (by kernel_rfl) (by kernel_rfl) _ _ hb6 (by rw [hp1]; exact hsz) (by rw [hz1, hp1]) hp2 (wpList_nil ?_)
  have hb7 := setRow_heap W4 w.heap.size _ (Y) _ _ hb6
  have x6 : Ex w (W4.setRow w.heap.size (Y)) := below_setRow (w0 := w) (B := w.heap.size) x5 (Nat.le_refl _) _
  show Code.wp _ _ _ _ _
  refine wp_ret ?_
  exact bodyPost_ret (results_cell_row rfl _ _ w.heap.size 97 _ (0, 0) _ (by kernel_rfl) hb7 hu rfl (by rw [hp1]; exact hsz)) rfl ⟨rfl, x6⟩
theorem all_range_int : ∀ (xs ys : List Int), xs.length = ys.length → ((List.range xs.length).all fun i => xs.getD i 0 == ys.getD i 0) = (xs == ys)
  | [], [], _ => rfl
  | x :: xs, y :: ys, h => by
    rw [List.length_cons, List.range_succ_eq_map, List.all_cons, List.all_map]
    have := all_range_int xs ys (by simpa using h)
    simp only [Function.comp_def, List.getD_cons_zero, List.getD_cons_succ]
    rw [this]
    simp [List.cons_beq_cons]
  | [], _ :: _, h => by simp at h
  | _ :: _, [], h => by simp at h
theorem run_equalIn_ints {P : Program} (w : World) (d : Nat) (t e : TypeId) (n : Nat) (ht : P.underlying t = some (.array n e)) (he : P.underlying e = some (.int .i64)) (hsz : (P.info? e).map (·.size) = some 1) (xs ys : List Int) (hx : xs.length = n) (hy : ys.length = n) :
    (Op.equalIn (d + 2) t (.agg (pVals xs)) (.agg (pVals ys))).run P w = .ok (xs == ys) w := by
  have hs : ∀ w, (sizeOf e).run P w = .ok 1 w := fun w => by
    obtain ⟨i, hi, hz⟩ := Option.map_eq_some_iff.1 hsz
    simp [sizeOf, typeInfo, go_sem, hi, hz]
  rw [← all_range_int xs ys (hx.trans hy.symm), hx, List.range_eq_range', Op.equalIn]
  simp only [Sem.run_bind, run_underlying ht, Result.andThen_ok, hs, Std.Legacy.Range.forIn_eq_forIn_range', Std.Legacy.Range.size, Nat.sub_zero, Nat.add_sub_cancel, Nat.div_one]
  have hl : ∀ i ∈ List.range' 0 n 1, i < n := fun i hi => by simpa using (List.mem_range'_1.1 hi).2
  generalize List.range' 0 n 1 = l at hl ⊢
  induction l with
  | nil => simp
  | cons i l ih =>
    have hi : i < n := hl i (by simp)
    have px : (part e (pVals xs) (i * 1)).run P w = .ok (.int .i64 (xs.getD i 0)) w := by
      simp [pVals, part, isAgg, run_underlying he, List.getD, List.getElem?_eq_getElem (show i < xs.length by omega)]
    have py : (part e (pVals ys) (i * 1)).run P w = .ok (.int .i64 (ys.getD i 0)) w := by
      simp [pVals, part, isAgg, run_underlying he, List.getD, List.getElem?_eq_getElem (show i < ys.length by omega)]
    have pe : (Op.equalIn (d + 1) e (.int .i64 (xs.getD i 0)) (.int .i64 (ys.getD i 0))).run P w = .ok (xs.getD i 0 == ys.getD i 0) w := run_equalIn_int w d e .i64 .i64 _ _ he
    simp only [List.forIn_cons, Sem.run_bind, px, py, pe, Result.andThen_ok, List.all_cons]
    cases hb : (xs.getD i 0 == ys.getD i 0)
    · simp
    · simp only [Bool.not_true, Bool.false_eq_true, if_false, Sem.run_pure, Result.andThen_ok, Bool.true_and]
      exact ih fun j hj => hl j (by simp [hj])
theorem padTo_inj {xs ys : List Int} {m n : Nat} (hx : xs.length = m) (hy : ys.length = m) (h : padTo xs n = padTo ys n) : xs = ys := by
  unfold padTo at h
  exact (List.append_inj h (by omega)).1
theorem run_neq_pad (xs ys : List Int) (m : Nat) (hx : xs.length = m) (hy : ys.length = m) (hm : m ≤ 48) (w : World) :
    (binOp .neq 97 (.agg (pVals (padTo xs 48))) (.agg (pVals (padTo ys 48)))).run Tryd.prog w = .ok (.bool (xs != ys)) w := by
  rw [run_neq_struct, run_equalIn_ints w 9998 97 3 48 Tryd.underlying97 Tryd.underlying3 (by kernel_rfl) _ _ (padTo_len (by omega)) (padTo_len (by omega))]
  have e : (padTo xs 48 == padTo ys 48) = (xs == ys) := by
    rw [Bool.eq_iff_iff, beq_iff_eq, beq_iff_eq]
    exact ⟨padTo_inj hx hy, fun e => by rw [e]⟩
  rw [e]
  rfl
end Go.Proofs.YtmekhjnhcgmphaaDoor
namespace Go.Proofs.YtmekhjnhcgmphaaDoor
set_option maxRecDepth 100000
open Go Go.RowKit
def redB (p : Int) (n : Nat) (rows : List (List Int)) : Bool := decide (rows.length ≤ n) && rowsB p n rows && decide ((zpOps p).rref n rows = rows)
theorem rref_le {K : Type} (O : Ops K) (n : Nat) (rows : List (List K)) : (O.rref n rows).length ≤ rows.length := by
  unfold Ops.rref
  rw [List.length_take]
  have := red_len O n 0 0 rows
  omega
theorem zrref_wid {K : Type} {O : Ops K} {N : Nat} {rows : List (List K)} (n : Nat) (hw : Wid N rows) : Wid N (O.rref n rows) := by
  have key : ∀ (m c r : Nat) (rows : List (List K)), r ≤ rows.length → Wid N rows → Wid N (O.red m c r rows).1 := by
    intro m
    induction m with
    | zero => intro c r rows _ h; exact h
    | succ m ih =>
      intro c r rows hr h
      unfold Ops.red
      split
      · rename_i hk
        have hf := fnd_some O hk
        exact ih _ _ _ (by rw [piv_len]; omega) (h.piv (by omega) hk)
      · exact ih _ _ _ hr h
  intro v hv
  exact key n 0 0 rows (Nat.zero_le _) hw v (List.mem_of_mem_take hv)
set_option maxHeartbeats 4000000 in
theorem isReduced_c (p : Int) (n : Nat) (rows : List (List Int)) (A : Option Addr) (c : Nat) (w : World) (hF : fieldB p = true) (h : RdM w A rows) (hn : n ≤ 48) :
    Calls Tryd.prog 52 #[.int .i64 p, .slice A rows.length c, .int .i64 n] w fun e w' => e = .returned (.bool (redB p n rows)) ∧ Ex w w' := by
  have cV := areVectors_c p (n : Int) A c rows w h
  by_cases h1 : rows.length ≤ n
  case neg =>
    have HN := Lib.hid (show redB p n rows = false by unfold redB; rw [decide_eq_false h1]; rfl)
    go_enter Tryd.func52, Tryd.ntmps52
    go_wp2_with fail
    go_ret
    rw [HN.out]
    exact ⟨rfl, Ex.refl _⟩
  cases hb : rowsB p n rows with
  | false =>
    have HN := Lib.hid (show redB p n rows = false by unfold redB; rw [hb]; simp)
    rw [hb] at cV
    clear hb
    go_enter Tryd.func52, Tryd.ntmps52
    go_wp2_with fail
    refine cV.mono ?_
    rintro e w1 ⟨rfl, rfl⟩
    go_wp2_with fail
    go_ret
    rw [HN.out]
    exact ⟨rfl, Ex.refl _⟩
  | true =>
    rw [hb] at cV
    obtain ⟨hw, he⟩ := rowsB_parts (by omega) hb
    rw [Int.toNat_natCast] at hw
    have cR := fun W (hx : Ex w W) => reduced_c p n rows A c W hF (h.ex hx) hw he (by omega) (by omega)
    obtain ⟨R, hR⟩ : ∃ R, (zpOps p).rref n rows = R := ⟨_, rfl⟩
    have hRle := rref_le (zpOps p) n rows
    have HB := Lib.hid (show redB p n rows = decide (R = rows) by unfold redB; rw [hb, decide_eq_true h1, hR]; rfl)
    have hRw : Wid n R := by rw [← hR]; exact zrref_wid n hw
    simp only [hR] at cR hRle
    obtain ⟨m, hm⟩ : ∃ m, rows.length = m := ⟨_, rfl⟩
    obtain ⟨L, hL⟩ : ∃ L, R.length = L := ⟨_, rfl⟩
    have HM := Lib.hid hm
    have HL := Lib.hid hL
    have HW := Lib.hid hw
    have HRW := Lib.hid hRw
    have H := Lib.hid h
    simp only [hm, hL] at cR cV hRle h1 ⊢
    clear hm hL hw hRw h hR hb he
    go_enter Tryd.func52, Tryd.ntmps52
    go_wp2_with fail
    refine cV.mono ?_
    rintro e w1 ⟨rfl, rfl⟩
    go_wp2_with fail
    refine (cR w (Ex.refl _)).mono ?_
    rintro e w1 ⟨A', c', rfl, hrd, x1⟩
    go_wp2_with fail
    go_loopw [25] (fun s wr => ∃ k : Nat, k ≤ L ∧ s = .int .i64 k ∧ Hid (∀ j, j < k → R[j]? = rows[j]?) ∧ Ex w wr ∧ Ex w1 wr) (fun s _ => L - (intOf s).toNat)
    case atStart => exact ⟨0, Nat.zero_le _, rfl, Lib.hid (fun j hj => by omega), x1, Ex.refl _⟩
    case round =>
      rename World => wi
      obtain ⟨k, hk, rfl, Hall, xi, yi⟩ := hrel
      by_cases hlt : k < L
      · obtain ⟨g1, b1, d1, e1, hc1, hd1, ho1⟩ := hrd.2 k _ (List.getElem?_eq_getElem (by rw [HL.out]; exact hlt))
        obtain ⟨r1, hr1⟩ : ∃ r1, R[k]'(by rw [HL.out]; exact hlt) = r1 := ⟨_, rfl⟩
        have Hr1 := Lib.hid (show R[k]? = some r1 by rw [← hr1]; exact List.getElem?_eq_getElem _)
        rw [hr1] at hc1 hd1 ho1
        have hl1 : r1.length = n := HRW.out r1 (List.mem_of_getElem? Hr1.out)
        rw [hl1] at hc1 hd1
        have hq1 := (ho1.ex yi).rd (by omega)
        have hc1 := cell_ex yi hc1
        obtain ⟨g2, off2, B2, d2, r2, e2, hr2, hc2, hrd2⟩ := H.out.at_ (k := k) (by have := HM.out; omega)
        have Hr2 := Lib.hid hr2
        have hl2 : r2.length = n := HW.out r2 (List.mem_of_getElem? hr2)
        rw [hl2] at hc2
        have hc2 := cell_ex xi hc2
        have hq2 := hrd2.ex xi
        clear hr1 hr2 ho1
        subst e1 e2
        have p1 := fun W (hx : Ex wi W) => pad_c r1 (some ⟨b1, 0, none⟩) d1 W (hq1.ex hx) (by omega)
        have p2 := fun W (hx : Ex wi W) => pad_c r2 B2 d2 W (hq2.ex hx) (by omega)
        simp only [hl1] at p1
        simp only [hl2] at p2
        have hne := fun W => run_neq_pad r1 r2 n hl1 hl2 (by omega) W
        have hkm : k < m := by omega
        have hk0 : (0 : Int) ≤ (k : Int) := by omega
        have hkm' : (k : Int) < (m : Int) := by omega
        by_cases he : r1 = r2
        · have hb : (r1 != r2) = false := by rw [he]; simp
          simp only [hb] at hne
          have Hall' := Lib.hid (show ∀ j, j < k + 1 → R[j]? = rows[j]? from fun j hj => by
            by_cases e : j < k
            · exact Hall.out j e
            · obtain rfl : j = k := by omega
              rw [Hr1.out, Hr2.out, he])
          clear hb he Hr1 hl1 hl2 hq1 hq2 hrd2 Hall
          go_wp2_with fail
          go_region_held3 (fun W => W.cell? ⟨g2, off2 + k, none⟩ = some (.slice B2 n d2)) (first
            | (exact hc2)
            | (exact cell_ex x3 hc2)
            | (exact cell_ex (x3.trans x4) hc2)) (first
            | (go_at_call_of 81 (Value.slice (some ⟨b1, 0, none⟩) n d1)
               refine (p1 wi.drew (Ex.refl wi).drew).mono ?_
               rintro e w3 ⟨rfl, x3'⟩
               have x3 : Ex wi w3 := (Ex.refl wi).drew.trans x3')
            | (go_at_call_of 81 (Value.slice B2 n d2)
               refine (p2 w3 x3).mono ?_
               rintro e w4 ⟨rfl, x4⟩))
          have x5 := x3.trans x4
          go_wp2_with fail
          go_roundw
          case rel => exact ⟨k + 1, by omega, by go_num, Hall', xi.trans x5, yi.trans x5⟩
          case measure => simp [intOf]; omega
        · have hb : (r1 != r2) = true := by simpa using he
          simp only [hb] at hne
          have HN := Lib.hid (show redB p n rows = false by
            rw [HB.out]
            refine decide_eq_false fun e => he ?_
            have e1 := Hr1.out
            rw [e, Hr2.out] at e1
            injection e1 with e1
            exact e1.symm)
          clear hb he Hr1 hl1 hl2 hq1 hq2 hrd2 Hall
          go_wp2_with fail
          go_region_held3 (fun W => W.cell? ⟨g2, off2 + k, none⟩ = some (.slice B2 n d2)) (first
            | (exact hc2)
            | (exact cell_ex x3 hc2)
            | (exact cell_ex (x3.trans x4) hc2)) (first
            | (go_at_call_of 81 (Value.slice (some ⟨b1, 0, none⟩) n d1)
               refine (p1 wi.drew (Ex.refl wi).drew).mono ?_
               rintro e w3 ⟨rfl, x3'⟩
               have x3 : Ex wi w3 := (Ex.refl wi).drew.trans x3')
            | (go_at_call_of 81 (Value.slice B2 n d2)
               refine (p2 w3 x3).mono ?_
               rintro e w4 ⟨rfl, x4⟩))
          have x5 := x3.trans x4
          go_wp2_with fail
          go_ret
          rw [HN.out]
          exact ⟨rfl, xi.trans x5⟩
      · obtain rfl : k = L := by omega
        clear yi hrd
        go_wp2_with fail
        refine (cR wi xi).mono ?_
        rintro e w3 ⟨A3, c3, rfl, _, x3⟩
        go_wp2_with fail
        go_ret
        refine ⟨ret_bool ?_, xi.trans x3⟩
        rw [HB.out]
        have e1 := HM.out
        have e2 := HL.out
        rw [Bool.eq_iff_iff, beq_iff_eq, decide_eq_true_eq]
        constructor
        · intro e
          refine List.ext_getElem? fun j => ?_
          by_cases hj : j < k
          · exact Hall.out j hj
          · rw [List.getElem?_eq_none (by omega), List.getElem?_eq_none (by omega)]
        · intro e
          rw [e] at e2
          omega
end Go.Proofs.YtmekhjnhcgmphaaDoor
namespace Go.Proofs.YtmekhjnhcgmphaaDoor
set_option maxRecDepth 100000
open Go Go.RowKit
set_option maxHeartbeats 4000000 in
theorem rrLift_c (x : Rln) (A : Option Addr) (c : Nat) (w : World) (h : RdM w A x.b) :
    Calls Tryd.prog 25 #[.agg #[.int .i64 x.l, .int .i64 x.r, .slice A x.b.length c]] w fun e w' => ∃ A1 c1, e = .returned (.agg #[.int .i64 x.l, .int .i64 x.r, .slice A1 (cFs x.b).length c1]) ∧ RdS EFF w' A1 (cFs x.b) ∧ Ex w w' := by
  obtain ⟨l, r, rows⟩ := x
  dsimp only at h ⊢
  have hRle := h.1
  obtain ⟨R, hR⟩ : ∃ R, rows.length = R := ⟨_, rfl⟩
  have HR := Lib.hid hR
  have H := Lib.hid h
  have HCL := Lib.hid (show (cFs rows).length = R by rw [← hR]; simp [cFs])
  rw [hR] at hRle ⊢
  rw [HCL.out]
  clear hR h
  have x0 := (Ex.refl w).alloc (.cells #[.int .i64 l, .int .i64 r, .slice A R c] 31)
  have v0 := VB.new w 31 #[.int .i64 l, .int .i64 r, .slice A R c]
  have S0 : (w.alloc (.cells #[.int .i64 l, .int .i64 r, .slice A R c] 31)).heap.size = w.heap.size + 1 := by simp
  go_enter Tryd.func25, Tryd.ntmps25
  go_wp2_with fail
  generalize w.alloc (.cells #[.int .i64 l, .int .i64 r, .slice A R c] 31) = W0 at *
  have y1 := (Ex.refl W0).alloc (.cells #[.int .i64 0, .int .i64 0, .slice none 0 0] 28)
  have d1 := VB.new W0 28 #[.int .i64 0, .int .i64 0, .slice none 0 0]
  have S1 : (W0.alloc (.cells #[.int .i64 0, .int .i64 0, .slice none 0 0] 28)).heap.size = w.heap.size + 1 + 1 := by simp [S0]
  rw [S0] at d1
  generalize W0.alloc (.cells #[.int .i64 0, .int .i64 0, .slice none 0 0] 28) = W1 at *
  have y2 := (Ex.refl W1).alloc (.cells #[.int .i64 l, .int .i64 r, .slice none 0 0] 28)
  have d2 := VB.new W1 28 #[.int .i64 l, .int .i64 r, .slice none 0 0]
  rw [S1] at d2
  have S2 : (W1.alloc (.cells #[.int .i64 l, .int .i64 r, .slice none 0 0] 28)).heap.size = w.heap.size + 1 + 1 + 1 := by simp [S1]
  generalize W1.alloc (.cells #[.int .i64 l, .int .i64 r, .slice none 0 0] 28) = W2 at *
  have x1 := x0.trans y1
  obtain ⟨G, hG⟩ : ∃ G, w.heap.size + 1 + 1 = G := ⟨_, rfl⟩
  have hG2 : w.heap.size + 2 = G := by omega
  rw [hG] at d2 S1 S2 ⊢
  clear hG
  go_loopw [14] (fun i wr => ∃ (k : Nat) (v : Value), k ≤ R ∧ i = .int .i64 k ∧ VB wr G 28 #[.int .i64 l, .int .i64 r, v] ∧ GE ELS 70 wr (G + 1) wr.heap.size v (cFs (rows.take k)) ∧ Ex W1 wr) (fun i _ => R - (intOf i).toNat)
  case atStart => exact ⟨0, _, Nat.zero_le _, rfl, d2, GE.nil _ _ _ _ _, y2⟩
  case round =>
    clear d2 S2 y2
    rename World => wi
    obtain ⟨k, v, hk, rfl, d6, hgm, he⟩ := hrel
    by_cases hlt : k < R
    · obtain ⟨g, off, B, d, s, e1, hr, hc, hrd⟩ := H.out.at_ (k := k) (by rw [HR.out]; exact hlt)
      subst e1
      have Hr := Lib.hid hr
      have xi := x1.trans he
      have hc := cell_ex xi hc
      have hrd := hrd.ex xi
      have hrl := hrd.len
      have HT := Lib.hid (show cFs (rows.take (k + 1)) = cFs (rows.take k) ++ [s.map cF] by rw [List.take_add_one, hr]; simp [cFs])
      have htl : (cFs (rows.take k)).length ≤ k := by simp [cFs]; omega
      have cC := rrConsts_c s B d wi.drew hrd.drew
      have hd6 := d6.lt
      obtain ⟨A7, c7, ev⟩ := hgm.nilv
      have hk1 : (cFs (rows.take k)).length = k := by simp [cFs]; have := HR.out; omega
      have hk2 : (cFs (rows.take (k + 1))).length = k + 1 := by simp [cFs]; have := HR.out; omega
      rw [hk1] at ev
      subst ev
      have cG := d6.cell 2 (v := .slice A7 k c7) rfl
      clear hr
      go_wp2_with fail
      go_region_law (first
        | (refine step_append_run (vs := .slice A7 k c7) (vx := .slice (some ⟨w8.heap.size, 0, none⟩) 1 1) rfl _ _ _ rfl rfl rfl (by with_reducible exact hrun9) ?_)
        | (go_simp
           go_at_call 49
           refine cC.mono ?_
           rintro e w8 ⟨v8, rfl, hge8, x8'⟩
           have x8 : Ex wi w8 := (Ex.refl wi).drew.trans x8'
           have z8 := x8.size
           obtain ⟨A8, c8, ev8⟩ := hge8.nilv
           rw [List.length_map] at ev8
           subst ev8
           have cG8 := cell_ex x8 cG
           have cG9 := cell_ex ((Ex.refl w8).alloc (.cells #[.slice A8 s.length c8] 70)) cG8
           have d8 := d6.ex x8
           obtain ⟨v9, w9, hrun9, hgm9, ho9, _, hE9⟩ := push_rows (hgm.ex x8) z8 hge8 (by rw [List.length_map]; exact hrl) (Nat.le_refl _) z8 (Nat.le_refl _) (by omega) (by omega)
           have d9 : VB w9 G 28 #[.int .i64 l, .int .i64 r, .slice A7 k c7] := (ho9.block G d8.lt (fun e => by have := hgm.own _ e.symm; omega)).trans d8
           rw [← HT.out] at hgm9
           obtain ⟨A9, c9, ev9⟩ := hgm9.nilv
           rw [hk2] at ev9
           subst ev9
           have k2 := d9.frozen 2
           have cG10 := d9.cell 2 (v := .slice A7 k c7) rfl))
      all_goals
        have yz : Ex1 G w9 (w9.setCell ⟨G, 2, none⟩ (.slice A9 (k + 1) c9)) := (Ex1.refl _ w9).setCell (p := ⟨G, 2, none⟩) rfl _
        have xw : Ex W1 w9 := hE9 W1 (he.trans x8) (by omega)
        have hgm2 := hgm9.k1 yz (by omega)
        have d62 := d9.set_ 2 (.slice A9 (k + 1) c9)
        have xw2 := xw.ex1 yz (by omega)
        clear hgm9 hgm hE9 ho9 HT htl hrun9 cG cG8 cG9 cG10 k2
        go_wp2_with fail
        go_roundw
        case rel => exact ⟨k + 1, _, by omega, by go_num, d62, hgm2.more (Nat.le_refl _) (Nat.le_of_eq (by simp)), xw2⟩
        case measure => simp [intOf]; omega
    · obtain rfl : k = R := by omega
      rw [List.take_of_length_le (by rw [HR.out]; exact Nat.le_refl _)] at hgm
      obtain ⟨A7, c7, ev, _, hf⟩ := hgm.rows (by rw [HCL.out]; exact hRle)
      rw [HCL.out] at ev
      subst ev
      have d2r := d1.ex he
      obtain ⟨dd, zz⟩ := d2r.st3 (.int .i64 l) (.int .i64 r) (.slice A7 k c7)
      have u0 := d2r.cell 0 (v := .int .i64 0) rfl
      have u1 := d2r.cell 1 (v := .int .i64 0) rfl
      have u2 := d2r.cell 2 (v := .slice none 0 0) rfl
      have k0 := d2r.frozen 0
      have k1 := d2r.frozen 1
      have k2 := d2r.frozen 2
      have t0 := d6.cell 0 (v := .int .i64 l) rfl
      have t1 := d6.cell 1 (v := .int .i64 r) rfl
      have t2 := d6.cell 2 (v := .slice A7 k c7) rfl
      have C0 := dd.cell 0 (v := .int .i64 l) rfl
      have C1 := dd.cell 1 (v := .int .i64 r) rfl
      have C2 := dd.cell 2 (v := .slice A7 k c7) rfl
      have eF := (x1.trans he).ex1 zz (by omega)
      have hr8 := (((hgm.k1 zz (by omega)).ofx (by rw [HCL.out]; exact hRle)).rdc).1
      go_wp2_with fail
      refine bodyPost_ret (v := .agg #[.int .i64 l, .int .i64 r, .slice A7 k c7]) (by simp [results, Tryd.results25, go_sem, C0, C1, C2]) rfl ?_
      exact ⟨A7, c7, rfl, hr8, eF⟩
set_option maxHeartbeats 4000000 in
theorem spGood_c (p : Int) (N : Nat) (rows : List (List Int)) (A : Option Addr) (c : Nat) (w : World) (h : RdM w A rows) (hN : N ≤ 24) :
    Calls Tryd.prog 46 #[.int .i64 p, .agg #[.int .i64 N, .slice A rows.length c]] w fun e w' => e = .returned (.bool (fieldB p && redB p N rows)) ∧ Ex w w' := by
  have x0 := (Ex.refl w).alloc (.cells #[.int .i64 N, .slice A rows.length c] 68)
  have v0 := VB.new w 68 #[.int .i64 N, .slice A rows.length c]
  obtain ⟨W0, hW0⟩ : ∃ W, w.alloc (.cells #[.int .i64 N, .slice A rows.length c] 68) = W := ⟨_, rfl⟩
  rw [hW0] at x0 v0
  have q0 := v0.cell 0 (v := .int .i64 N) rfl
  have q1 := v0.cell 1 (v := .slice A rows.length c) rfl
  have HS : ∀ W, Ex W0 W → (Ex W0 W ∧ W.cell? ⟨w.heap.size, 0, none⟩ = some (.int .i64 N) ∧ W.cell? ⟨w.heap.size, 1, none⟩ = some (.slice A rows.length c)) := fun W h => ⟨h, cell_ex h q0, cell_ex h q1⟩
  have hin : inB 0 24 (N : Int) = true := by simp [inB]; omega
  have g2 : ∀ W, Calls Tryd.prog 45 #[.int .i64 N, .int .i64 0, .int .i64 24] W fun e w' => e = .returned (.bool true) ∧ w' = W := fun W => same_sym (by have := l1In_c (N : Int) 0 24 W; rw [hin] at this; exact this)
  have g1 : ∀ W, Calls Tryd.prog 58 #[.int .i64 p] W fun e w' => e = .returned (.bool (fieldB p)) ∧ w' = W := fun W => same_sym (fdGood_c p W)
  cases hF : fieldB p with
  | false =>
    simp only [hF] at g1
    clear hin
    go_enter Tryd.func46, Tryd.ntmps46
    go_wp2_with fail
    go_quiet (first | (go_at_call 58; exact Calls.quiet_of_same (g1 _)) | (go_at_call 45; exact Calls.quiet_of_same (g2 _)))
    go_wp2_with fail
    go_ret
    exact ⟨rfl, x0.trans ((Ex.refl W0).drewN _)⟩
  | true =>
    simp only [hF] at g1
    have hp := fieldB_lo hF
    have hp2 := fieldB_hi hF
    have g3 : ∀ n : Nat, Calls Tryd.prog 74 #[.int .i64 p, .int .i64 N, .slice A rows.length c] (W0.drewN n) fun e w' => e = .returned (.bool (rowsB p N rows)) ∧ w' = W0.drewN n := fun n => same_sym (spRows_c p N A c rows _ (h.ex (x0.trans ((Ex.refl W0).drewN n))) hp hp2)
    by_cases hle : rows.length ≤ N
    case neg =>
      have HB := Lib.hid (show redB p N rows = false by unfold redB; rw [decide_eq_false hle]; rfl)
      have hleb : decide (rows.length ≤ N) = false := decide_eq_false hle
      clear hin hF hp hp2
      go_enter Tryd.func46, Tryd.ntmps46
      go_wp2_with fail
      go_quiet (first | (go_at_call 58; exact Calls.quiet_of_same (g1 _)) | (go_at_call 45; exact Calls.quiet_of_same (g2 _)))
      go_wp2_with fail
      go_ret
      exact ⟨ret_bool HB.out.symm, x0.trans ((Ex.refl W0).drewN _)⟩
    have hleb : decide (rows.length ≤ N) = true := decide_eq_true hle
    cases hb : rowsB p N rows with
    | false =>
      have HB := Lib.hid (show redB p N rows = false by unfold redB; rw [hb]; simp)
      simp only [hb] at g3
      clear hin hF hp hp2 hb
      go_enter Tryd.func46, Tryd.ntmps46
      go_wp2_with fail
      go_quiet (first | (go_at_call 58; exact Calls.quiet_of_same (g1 _)) | (go_at_call 45; exact Calls.quiet_of_same (g2 _)) | (go_at_call 74; exact Calls.quiet_of_same (g3 _)))
      go_wp2_with fail
      go_ret
      exact ⟨ret_bool HB.out.symm, x0.trans ((Ex.refl W0).drewN _)⟩
    | true =>
      have HB := Lib.hid (show redB p N rows = decide ((zpOps p).rref N rows = rows) by unfold redB; rw [hb, hleb]; rfl)
      obtain ⟨hw, he⟩ := rowsB_parts (by omega) hb
      rw [Int.toNat_natCast] at hw
      have HF := Lib.hid hF
      have HW := Lib.hid hw
      have HE := Lib.hid he
      have HBB := Lib.hid hb
      have HP := Lib.hid (And.intro hp hp2)
      have HRL := Lib.hid (show ∀ r ∈ (zpOps p).rref N rows, r.length ≤ 1099511627776 from fun r hr => by have := zrref_wid N hw r hr; omega)
      clear hin hF hp hp2 hb hw he g3
      go_enter Tryd.func46, Tryd.ntmps46
      go_wp2_with fail
      go_region_held3 (fun W => Ex W0 W ∧ W.cell? ⟨w.heap.size, 0, none⟩ = some (.int .i64 N) ∧ W.cell? ⟨w.heap.size, 1, none⟩ = some (.slice A rows.length c)) (first
        | (exact HS _ e5) | (exact HS _ e4) | (exact HS _ e3) | (exact HS _ e2) | (exact HS _ e1) | (exact HS _ (Ex.refl _)) | (exact HS _ (Ex.refl _).drew)) (first
        | (go_at_call 58
           have hb := (‹Ex W0 _ ∧ _›).1
           refine (g1 _).mono ?_
           rintro e w1 ⟨rfl, ew⟩
           have e1 : Ex W0 w1 := ew ▸ hb)
        | (go_at_call 45
           have hb := (‹Ex W0 _ ∧ _›).1
           refine (g2 _).mono ?_
           rintro e w2 ⟨rfl, ew⟩
           have e2 : Ex W0 w2 := ew ▸ hb)
        | (go_at_call 74
           have hb := (‹Ex W0 _ ∧ _›).1
           refine (spRows_c p N A c rows _ (h.ex (x0.trans hb)) HP.out.1 HP.out.2).mono ?_
           rintro e w3 ⟨rfl, ew⟩
           have e3 : Ex W0 w3 := ew ▸ hb
           rw [HBB.out])
        | (go_at_call 76
           have hb := (‹Ex W0 _ ∧ _›).1
           refine (spReduce_c p N rows A c _ HF.out (h.ex (x0.trans hb)) HW.out HE.out (by omega) (by omega)).mono ?_
           rintro e w4 ⟨A4, c4, rfl, hr4, x4⟩
           have e4 := hb.trans x4)
        | (go_at_call 75
           refine (spSame_c _ rows A4 A c4 c w4 (hr4.rdm HRL.out) (h.ex (x0.trans e4))).mono ?_
           rintro e w5 ⟨rfl, x5⟩
           have e5 := e4.trans x5))
      all_goals
        go_wp2_with fail
        go_ret
        exact ⟨ret_bool (by rw [HB.out]; rfl), x0.trans e5⟩
end Go.Proofs.YtmekhjnhcgmphaaDoor
