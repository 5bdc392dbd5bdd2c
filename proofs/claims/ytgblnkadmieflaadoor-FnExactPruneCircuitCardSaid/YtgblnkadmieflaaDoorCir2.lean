/- Contracts: the order in which the gates of a circuit are made, on both sides. -/
import Derived.Test.YtgblnkadmieflaaDoorCir
import Derived.Test.YtgblnkadmieflaaDoorMapB
import Derived.Shelf.Abstract
import Derived.Deep.LoopGhost
namespace Go.Proofs.YtgblnkadmieflaaDoor
set_option maxRecDepth 100000
open Go Go.RowKit
def circV (n : Int) (A : Option Addr) (k c : Nat) (B : Option Addr) (m d : Nat) : Value := .agg #[.int .i64 n, .slice A k c, .slice B m d]
/-- A wanted gate is ready: none of what it needs is still open. -/
def isN (gs : List Gt) (S : Int → Bool) (i : Int) : Bool := S i && !((need (gs.getD i.toNat ⟨0, 0, 0, 0⟩)).any S)
set_option maxHeartbeats 400000 in
theorem sch11_c (k : Int) (bo b n cnt : Nat) (S : Int → Bool) (w : World) (hb : w.cell? ⟨bo, 0, none⟩ = some (.map (some b))) (hm : MS w b n S cnt) (h1 : -4611686018427387904 ≤ k) (h2 : k ≤ 4611686018427387904) :
    Calls Tryd.prog 131 #[.int .i64 k, .pointer (some ⟨bo, 0, none⟩)] w fun e w' => e = .returned (.bool (S k)) ∧ Ex w w' := by
  have hl := hm.look k h1 h2
  go_enter Tryd.func131, Tryd.ntmps131
  go_wp2_with fail
  go_ret
  exact ⟨rfl, Ex.refl w⟩
theorem enters11 : ∀ args w, (callFunc 131 args).run Tryd.prog w = .ok (.enter 131 args) w := enters_of Tryd.func131 (by kernel_rfl) rfl
theorem enters1 : ∀ args w, (callFunc 129 args).run Tryd.prog w = .ok (.enter 129 args) w := enters_of Tryd.func129 (by kernel_rfl) rfl
set_option maxHeartbeats 400000 in
theorem sch1_c (i : Nat) (x : Gt) (gs : List Gt) (bo bc b n cnt : Nat) (S : Int → Bool) (A : Option Addr) (c : Nat) (w : World) (hb : w.cell? ⟨bo, 0, none⟩ = some (.map (some b))) (hm : MS w b n S cnt) (hc : w.cell? ⟨bc, 1, none⟩ = some (.slice A gs.length c)) (hr : RdS EG w A gs) (hi : gs[i]? = some x)
    (hop : ∀ k ∈ need x, -4611686018427387904 ≤ k ∧ k ≤ 4611686018427387904) :
    Calls Tryd.prog 129 #[.int .i64 i, .pointer (some ⟨bo, 0, none⟩), .pointer (some ⟨bc, 0, none⟩)] w fun e w' => e = .returned (.bool (isN gs S i)) ∧ Ex w w' := by
  have hlt := (List.getElem?_eq_some_iff.1 hi).1
  have hl1 := hr.1
  have hl := hm.look i (by omega) (by omega)
  have HN := Lib.hid (show isN gs S i = (S i && !((need x).any S)) by rw [isN, Int.toNat_natCast, List.getD_eq_getElem?_getD, hi]; rfl)
  cases hS : S i with
  | false =>
    rw [hS] at hl
    have HS := Lib.hid hS
    clear hS
    go_enter Tryd.func129, Tryd.ntmps129
    go_wp2_with fail
    go_ret
    exact ⟨ret_bool (by rw [HN.out, HS.out]; rfl), Ex.refl w⟩
  | true =>
    rw [hS] at hl
    have HS := Lib.hid hS
    clear hS
    obtain ⟨g, off, x', rfl, hx', c0, c1, c2, c3⟩ := hr.gate hlt
    obtain rfl : x = x' := by rw [hi] at hx'; injection hx'
    have Hop := Lib.hid hop
    clear hi hx' hop
    go_enter Tryd.func129, Tryd.ntmps129
    go_wp2_with fail
    refine (needs_c x w).mono ?_
    rintro e w1 ⟨v, rfl, f, x1⟩
    obtain ⟨V, vc, rfl, fi⟩ := f
    have hcf := containsFunc_c 131 enters11 #[.pointer (some ⟨bo, 0, none⟩)] S V vc (need x) w1 fi.rd (fun W q y hW hy => sch11_c y bo b n cnt S W (cell_ex (x1.trans hW) hb) (hm.ex (x1.trans hW)) (Hop.out y (List.mem_of_getElem? hy)).1 (Hop.out y (List.mem_of_getElem? hy)).2)
    go_wp2_with fail
    refine hcf.mono ?_
    rintro e w2 ⟨rfl, x2⟩
    go_wp2
    go_ret
    exact ⟨ret_bool (by rw [HN.out, HS.out]; simp), x1.trans x2⟩
def nxt (gs : List Gt) (op : List Bool) : Int := idxP (isN gs (SL op)) (upL gs.length)
def sched (gs : List Gt) : Nat → List Bool → List Int × List Bool
  | 0, op => ([], op)
  | f + 1, op => if nxt gs op < 0 then ([], op) else (nxt gs op :: (sched gs f (op.set (nxt gs op).toNat false)).1, (sched gs f (op.set (nxt gs op).toNat false)).2)
theorem nxt_cases (gs : List Gt) (op : List Bool) : (nxt gs op < 0 ∧ ∀ i : Nat, i < gs.length → isN gs (SL op) i = false) ∨ ∃ i : Nat, i < gs.length ∧ nxt gs op = i ∧ isN gs (SL op) i = true ∧ op[i]? = some true := by
  rcases idxP_cases (isN gs (SL op)) gs.length with ⟨h, h2⟩ | ⟨i, hi, h, hp⟩
  · left; exact ⟨by unfold nxt; omega, h2⟩
  · right
    refine ⟨i, hi, h, hp, ?_⟩
    have : SL op i = true := by unfold isN at hp; simp at hp; exact hp.1
    rw [SL_nat, List.getD_eq_getElem?_getD] at this
    cases e : op[i]? with
    | none => rw [e] at this; cases this
    | some v => rw [e] at this; simp at this; rw [this]
theorem sched_count (gs : List Gt) : ∀ (f : Nat) (op : List Bool), (sched gs f op).1.length + (sched gs f op).2.count true = op.count true
  | 0, op => by simp [sched]
  | f + 1, op => by
    rw [sched]
    rcases nxt_cases gs op with ⟨h, _⟩ | ⟨i, hi, h, _, ho⟩
    · rw [if_pos h]; simp
    · rw [if_neg (by omega)]
      have := sched_count gs f (op.set (nxt gs op).toNat false)
      have c := count_set ho
      rw [h, Int.toNat_natCast] at this ⊢
      simp only [List.length_cons]
      omega
theorem sched_zero (gs : List Gt) (f : Nat) {op : List Bool} (h : op.count true = 0) : sched gs f op = ([], op) := by
  cases f with
  | zero => rfl
  | succ f =>
    rw [sched]
    rcases nxt_cases gs op with ⟨h', _⟩ | ⟨i, hi, h', _, ho⟩
    · rw [if_pos h']
    · have := List.count_pos_iff.2 (List.mem_of_getElem? ho); omega
theorem sched_end (gs : List Gt) (f : Nat) {op : List Bool} (h : nxt gs op < 0) : sched gs f op = ([], op) := by
  cases f with
  | zero => rfl
  | succ f => rw [sched, if_pos h]
theorem sched_next (gs : List Gt) (f : Nat) {op : List Bool} {i : Nat} (h : nxt gs op = i) : sched gs (f + 1) op = ((i : Int) :: (sched gs f (op.set i false)).1, (sched gs f (op.set i false)).2) := by
  rw [sched, if_neg (by omega), h, Int.toNat_natCast]
def opn (gs : List Gt) : List Bool := gs.map combB
def schedL (gs : List Gt) : List Int × List Bool := sched gs gs.length (opn gs)
/-- What schedule answers. -/
def schedR (gs : List Gt) : List Int × Bool := if (schedL gs).2.count true = 0 then ((schedL gs).1, true) else ([], false)
theorem need_ne (x : Gt) : combB x = decide (0 < (need x).length) := by
  unfold combB need
  by_cases h3 : x.kd = 3
  · simp [h3]
  · by_cases h4 : x.kd = 4 <;> simp [h3, h4]
set_option maxHeartbeats 2000000 in
theorem schedule_c (n : Int) (A : Option Addr) (c : Nat) (gs : List Gt) (B : Option Addr) (m d : Nat) (w : World) (h : RdS EG w A gs) (hn : gs.length ≤ 40) (hop : ∀ x ∈ gs, ∀ k ∈ need x, -4611686018427387904 ≤ k ∧ k ≤ 4611686018427387904) :
    Calls Tryd.prog 93 #[.agg #[.int .i64 n, .slice A gs.length c, .slice B m d]] w fun e w' => ∃ v, e = .returned (.tuple #[v, .bool (schedR gs).2]) ∧ OI w' w.heap.size w'.heap.size v (schedR gs).1 ∧ Ex w w' := by
  have hmm : ∀ W : World, (Instr.makeMap 149 none).run Tryd.prog W = .ok (.map (some W.heap.size)) (W.alloc (.map #[] 0)) := fun W => rfl
  have Hop := Lib.hid hop
  clear hop
  have y0 := (Ex.refl w).alloc (.cells #[.int .i64 n, .slice A gs.length c, .slice B m d] 29)
  have d0 := VB.new w 29 #[.int .i64 n, .slice A gs.length c, .slice B m d]
  have S0 := Lib.hid (show (w.alloc (.cells #[.int .i64 n, .slice A gs.length c, .slice B m d] 29)).heap.size = w.heap.size + 1 by simp)
  go_enter Tryd.func93, Tryd.ntmps93
  go_wp2_with fail
  generalize w.alloc (.cells #[.int .i64 n, .slice A gs.length c, .slice B m d] 29) = W0 at *
  have y1 := (Ex.refl W0).alloc (.map #[] 0)
  have m1 := MS.made W0
  rw [S0.out] at m1
  have S1 := Lib.hid (show (W0.alloc (.map #[] 0)).heap.size = w.heap.size + 1 + 1 by simp; exact S0.out)
  generalize W0.alloc (.map #[] 0) = W1 at *
  have y2 := (Ex.refl W1).alloc (.cells #[.map (some (w.heap.size + 1))] 149)
  have d2 := VB.new W1 149 #[.map (some (w.heap.size + 1))]
  rw [S1.out] at d2
  have S2 := Lib.hid (show (W1.alloc (.cells #[.map (some (w.heap.size + 1))] 149)).heap.size = w.heap.size + 1 + 1 + 1 by simp; exact S1.out)
  generalize W1.alloc (.cells #[.map (some (w.heap.size + 1))] 149) = W2 at *
  have xx := (y0.trans y1).trans y2
  have d0 := (d0.ex y1).ex y2
  have m1 := m1.ex y2
  clear y0 y1 y2 S0 S1
  have z2 := d2.lt
  go_loopw [13] (fun i wr => ∃ k : Nat, k ≤ gs.length ∧ i = .int .i64 k ∧ MS wr (w.heap.size + 1) k (SL ((gs.take k).map combB)) (((gs.take k).map combB).count true) ∧ VB wr w.heap.size 29 #[.int .i64 n, .slice A gs.length c, .slice B m d] ∧ VB wr (w.heap.size + 1 + 1) 149 #[.map (some (w.heap.size + 1))] ∧ Ex w wr) (fun i _ => gs.length - (intOf i).toNat)
  case atStart => exact ⟨0, Nat.zero_le _, rfl, by
    have e : SL ((gs.take 0).map combB) = fun _ => false := by
      funext x
      simp [SL]
    rw [e]
    simpa using m1, d0, d2, xx⟩
  case round =>
    obtain ⟨k, hk, rfl, hm, hd0, hd2, he⟩ := hrel
    by_cases hlt : k < gs.length
    · obtain ⟨g, off, x, rfl, hx, c0, c1, c2, c3⟩ := (h.ex he).gate hlt
      have Hx := Lib.hid hx
      clear hx
      have y3 := (Ex.refl wr).alloc (.cells #[.int .i64 x.kd, .int .i64 x.a, .int .i64 x.b, .int .i64 x.vl] 103)
      go_wp2_with fail
      generalize wr.alloc (.cells #[.int .i64 x.kd, .int .i64 x.a, .int .i64 x.b, .int .i64 x.vl] 103) = W3 at *
      refine (needs_c x W3).mono ?_
      rintro e w1 ⟨v, rfl, f, x1⟩
      obtain ⟨V, vc, rfl, fi⟩ := f
      have y4 := y3.trans x1
      have hl4 := fi.rd.len
      have hm1 := hm.ex y4
      have hd01 := hd0.ex y4
      have hd21 := hd2.ex y4
      have he1 := he.trans y4
      have hz1 := hd2.lt
      have hzz := y4.size
      have Htk : gs.take (k + 1) = gs.take k ++ [x] := by rw [List.take_add_one, Hx.out]; rfl
      have Hlen : ((gs.take k).map combB).length = k := by rw [List.length_map, List.length_take]; omega
      have HTK := Lib.hid Htk
      have HL := Lib.hid Hlen
      have hnn := need_ne x
      clear Htk Hlen hm hd0 hd2 he c0 c1 c2 c3 y3 x1 y4
      cases hcb : combB x with
      | true =>
        have HC := Lib.hid hcb
        rw [hcb] at hnn
        have hpos : 0 < (need x).length := by simpa using hnn.symm
        have hnS : SL ((gs.take k).map combB) (k : Int) = false := by
          rw [SL_nat, List.getD_eq_getElem?_getD, List.getElem?_eq_none (by rw [HL.out]; exact Nat.le_refl _)]; rfl
        obtain ⟨wp, hrun, hm2, hE⟩ := hm1.put (by omega) k (by omega) (by omega)
        rw [hnS] at hm2
        have e1 : (fun z => if z = (k : Int) then true else SL ((gs.take k).map combB) z) = SL ((gs.take (k + 1)).map combB) := by
          have := SL_push ((gs.take k).map combB)
          rw [HL.out] at this
          rw [this, HTK.out, List.map_append, List.map_cons, List.map_nil, HC.out]
        have e2 : (if false = true then ((gs.take k).map combB).count true else ((gs.take k).map combB).count true + 1) = ((gs.take (k + 1)).map combB).count true := by
          rw [HTK.out, List.map_append, List.map_cons, List.map_nil, HC.out]; simp
        rw [e1, e2] at hm2
        have q := hd21.cell 0 (v := .map (some (w.heap.size + 1))) rfl
        clear hcb hnn hnS e1 e2 hm1
        go_wp2_with fail
        go_roundw
        case rel => exact ⟨k + 1, by omega, by go_num, hm2, hd01.ex1 hE (by omega), hd21.ex1 hE (by omega), he1.ex1 hE (by omega)⟩
        case measure => simp [intOf]; omega
      | false =>
        have HC := Lib.hid hcb
        rw [hcb] at hnn
        have hz0 : (need x).length = 0 := by
          have : ¬ 0 < (need x).length := by simpa using hnn.symm
          omega
        have e1 : SL ((gs.take (k + 1)).map combB) = SL ((gs.take k).map combB) := by
          rw [HTK.out, List.map_append, List.map_cons, List.map_nil, HC.out, SL_pad]
        have e2 : ((gs.take (k + 1)).map combB).count true = ((gs.take k).map combB).count true := by
          rw [HTK.out, List.map_append, List.map_cons, List.map_nil, HC.out]; simp
        have HM := hm1.mono (Nat.le_succ k)
        rw [← e1, ← e2] at HM
        clear hcb hnn e1 e2 hm1
        go_wp2_with fail
        go_roundw
        case rel => exact ⟨k + 1, by omega, by go_num, HM, hd01, hd21, he1⟩
        case measure => simp [intOf]; omega
    · obtain rfl : k = gs.length := by omega
      rw [List.take_length] at hm
      have y5 := (Ex.refl wr).alloc (.cells #[] 3)
      have hal : AL (wr.alloc (.cells #[] 3)) (w.heap.size + 1 + 1 + 1) (.slice (some ⟨wr.heap.size, 0, none⟩) 0 0) [] := AL.empty wr (by have := hd2.lt; omega)
      have hd0 := hd0.ex y5
      have hd2 := hd2.ex y5
      have hm := hm.ex y5
      have he := he.trans y5
      have H0 := Lib.hid (show (([] : List Int) ++ (sched gs gs.length (opn gs)).1, (sched gs gs.length (opn gs)).2) = schedL gs from rfl)
      have HC := Lib.hid (show (opn gs).count true ≤ gs.length by have := List.count_le_length (a := true) (l := opn gs); simpa [opn] using this)
      have HLn := Lib.hid (show (opn gs).length = gs.length by simp [opn])
      change MS _ _ _ (SL (opn gs)) ((opn gs).count true) at hm
      go_wp2_with fail
      generalize wr.alloc (.cells #[] 3) = W5 at *
      clear hlt y5 hk S2 xx d0 d2 m1
      go_loopg [7] gs.length (fun f o wi => ∃ (op : List Bool) (out : List Int), Hid (op.length = gs.length) ∧ Hid (op.count true ≤ f) ∧ f ≤ gs.length ∧ out.length + f = gs.length ∧ AL wi (w.heap.size + 1 + 1 + 1) o out ∧ Hid ((out ++ (sched gs f op).1, (sched gs f op).2) = schedL gs) ∧ MS wi (w.heap.size + 1) gs.length (SL op) (op.count true) ∧
        VB wi w.heap.size 29 #[.int .i64 n, .slice A gs.length c, .slice B m d] ∧ VB wi (w.heap.size + 1 + 1) 149 #[.map (some (w.heap.size + 1))] ∧ Ex w wi)
      case atStart => exact ⟨opn gs, [], HLn, HC, Nat.le_refl _, by simp, hal, H0, hm, hd0, hd2, he⟩
      case round =>
        obtain ⟨op, out, Hlen, Hcnt, hf, hof, hal, Htot, hm, hd0, hd2, he⟩ := hrel
        have q0 := hd2.cell 0 (v := .map (some (w.heap.size + 1))) rfl
        have q1 := hd0.cell 1 (v := .slice A gs.length c) rfl
        have hlen := hm.len
        by_cases hz : op.count true = 0
        · have Hz := Lib.hid hz
          rw [hz] at hlen
          clear hz
          have HR := Lib.hid (show schedR gs = (out, true) by
            have e := Htot.out
            rw [sched_zero gs gk Hz.out] at e
            have e1 : (schedL gs).1 = out := by rw [← e]; simp
            have e2 : (schedL gs).2 = op := by rw [← e]
            rw [schedR, e2, Hz.out, if_pos rfl, e1])
          obtain ⟨O, oc, rfl, fo⟩ := hal.form (by omega)
          go_wp2_with fail
          go_ret2
          rw [HR.out]
          exact ⟨_, rfl, ⟨O, oc, rfl, (fo.more (by omega)).fi⟩, he⟩
        · obtain ⟨cz, hcz⟩ : ∃ cz, op.count true = cz := ⟨_, rfl⟩
          rw [hcz] at hlen hz
          have Hcz := Lib.hid hcz
          clear hcz
          go_wp2_with fail
          refine (upTo_c gs.length (by omega) wr).mono ?_
          rintro e w1 ⟨gu, rfl, hgu, hou, x1⟩
          have hru := hou.rd (by rw [upL_len]; omega)
          have hm1 := hm.ex x1
          have hd01 := hd0.ex x1
          have hd21 := hd2.ex x1
          have hal1 := hal.ex x1
          have he1 := he.trans x1
          have hr1 := h.ex he1
          have q0 := hd21.cell 0 (v := .map (some (w.heap.size + 1))) rfl
          have q1 := hd01.cell 1 (v := .slice A gs.length c) rfl
          have hIF := indexFunc_c 129 enters1 #[.pointer (some ⟨w.heap.size + 1 + 1, 0, none⟩), .pointer (some ⟨w.heap.size, 0, none⟩)] (isN gs (SL op)) (some ⟨gu, 0, none⟩) gs.length (upL gs.length) w1 hru (fun W k y hW hy => by
            have hk : k < gs.length := by have := (List.getElem?_eq_some_iff.1 hy).1; rwa [upL_len] at this
            rw [upL_at hk] at hy
            injection hy with hy
            subst hy
            exact sch1_c k gs[k] gs _ _ _ _ _ (SL op) A c W (cell_ex hW q0) (hm1.ex hW) (cell_ex hW q1) (hr1.ex hW) (List.getElem?_eq_getElem hk) (fun z hz => Hop.out _ (List.getElem_mem hk) z hz))
          rw [upL_len] at hIF
          have hzL := hd2.lt
          have hz1 := x1.size
          clear hm hd0 hd2 hal he hru hou hr1
          go_wp2_with fail
          refine hIF.mono ?_
          rintro e w2 ⟨rfl, x2⟩
          clear hIF q0 q1 hlen
          rw [show idxP (isN gs (SL op)) (upL gs.length) = nxt gs op from rfl]
          have hm2 := hm1.ex x2
          have hd02 := hd01.ex x2
          have hd22 := hd21.ex x2
          have hal2 := hal1.ex x2
          have he2 := he1.trans x2
          have hz2 := x2.size
          clear hm1 hd01 hd21 hal1 he1
          rcases nxt_cases gs op with ⟨hneg, _⟩ | ⟨i, hi, hni, _, hoi⟩
          · have HR := Lib.hid (show schedR gs = ([], false) by
              have e := Htot.out
              rw [sched_end gs gk hneg] at e
              have e2 : (schedL gs).2 = op := by rw [← e]
              rw [schedR, e2, Hcz.out, if_neg hz])
            generalize nxt gs op = q at *
            go_wp2
            go_ret2
            rw [HR.out]
            exact ⟨_, rfl, OI.nil _ _ _, he2⟩
          · have Hni := Lib.hid hni
            have hgk : ∃ f, gk = f + 1 := ⟨gk - 1, by have := Hcnt.out; rw [Hcz.out] at this; omega⟩
            obtain ⟨f, rfl⟩ := hgk
            have Hst := Lib.hid (sched_next gs f hni)
            have Hcs := Lib.hid (count_set hoi)
            have hSi : SL op (i : Int) = true := by rw [SL_nat, List.getD_eq_getElem?_getD, hoi]; rfl
            rw [hni]
            have q0 := hd22.cell 0 (v := .map (some (w.heap.size + 1))) rfl
            obtain ⟨wp, hrun, hm3, hE⟩ := hm2.del i (by omega) (by omega)
            rw [hSi, SL_set] at hm3
            have ec : op.count true - (if true = true then 1 else 0) = (op.set i false).count true := by have := Hcs.out; simp; omega
            rw [ec] at hm3
            have hz3 := hE.size
            have hal3 := hal2.e1 hE (by omega)
            have hd03 := hd02.ex1 hE (by omega)
            have hd23 := hd22.ex1 hE (by omega)
            have he3 := he2.ex1 hE (by omega)
            obtain ⟨v', w4, hrun2, hal4, hI⟩ := al_push_i wp (w.heap.size + 1 + 1 + 1) u7 out (i : Int) hal3 (by omega) (by omega)
            have hm4 := hm3.iv hI (by omega)
            have hd04 := hd03.iv hI (by omega)
            have hd24 := hd23.iv hI (by omega)
            have he4 := he3.iv hI (by omega)
            have HT := Lib.hid (show ((out ++ [(i : Int)]) ++ (sched gs f (op.set i false)).1, (sched gs f (op.set i false)).2) = schedL gs by
              have e := Htot.out
              rw [Hst.out] at e
              rw [← e, List.append_assoc]; rfl)
            have HC2 := Lib.hid (show (op.set i false).count true ≤ f by have := Hcs.out; have := Hcnt.out; omega)
            have HL2 := Lib.hid (show (op.set i false).length = gs.length by rw [List.length_set]; exact Hlen.out)
            clear hni hSi ec hm2 hd02 hd22 hal2 he2
            go_wp2_with (at_builtin; refine wpList_append_run rfl _ _ _ rfl rfl rfl hrun2 ?_)
            go_roundg f
            case measure => omega
            case rel => exact ⟨op.set i false, out ++ [(i : Int)], HL2, HC2, by omega, by rw [List.length_append, List.length_singleton]; omega, hal4, HT, hm4, hd04, hd24, he4⟩
end Go.Proofs.YtgblnkadmieflaaDoor
