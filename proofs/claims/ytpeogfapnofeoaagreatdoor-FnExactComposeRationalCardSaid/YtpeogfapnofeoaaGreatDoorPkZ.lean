/- The composition of rational relations: the program's ratComposed. ComposeRational on both sides, in the uniform words. Printed by a program of mine. -/
import Derived.Test.YtpeogfapnofeoaaGreatDoorPkY
import Derived.Test.YtpeogfapnofeoaaGreatDoorPkU
namespace Go.Proofs.YtpeogfapnofeoaaGreatDoor
set_option maxRecDepth 100000
open Go Go.RowKit
theorem kerL_fr {p : Int} (hF : fieldB p = true) {n : Nat} {rows : List (List Fra)} (hw : Wid n rows) (hg : GdM p 21 rows) (hn : n ≤ 12) : Wid rows.length ((frOps p).kerL n rows) ∧ GdM p 3563 ((frOps p).kerL n rows) ∧ ((frOps p).kerL n rows).length ≤ rows.length := by
  have e : (frOps p).red n 0 0 ((frOps p).beside rows) = stg (frOps p) ((frOps p).beside rows) n := by
    have := stg_red (frOps p) ((frOps p).beside rows) n 0
    rwa [Nat.zero_add] at this
  have hW : Wid (n + rows.length) ((frOps p).red n 0 0 ((frOps p).beside rows)).1 := Wid.red n 0 0 _ (Nat.zero_le _) (beside_wid hw)
  have hG : GdM p 3563 ((frOps p).red n 0 0 ((frOps p).beside rows)).1 := by
    rw [e]
    exact (stg_cramR hF (by omega) (beside_gd hF (by omega) hg) (beside_wid hw) (R := 12) (.inl hn) (by omega) n (Nat.le_refl _)).mono (by unfold cramB; omega)
  have hL := red_len (frOps p) n 0 0 ((frOps p).beside rows)
  rw [beside_len] at hL
  unfold Ops.kerL
  refine ⟨fun v hv => ?_, fun v hv => ?_, ?_⟩
  · obtain ⟨u, hu, rfl⟩ := List.mem_map.1 hv
    rw [List.length_drop, hW u (List.mem_of_mem_drop hu)]; omega
  · obtain ⟨u, hu, rfl⟩ := List.mem_map.1 hv
    exact (hG u (List.mem_of_mem_drop hu)).drop n
  · rw [List.length_map, List.length_drop]; omega
theorem midI_len {K : Type} (O : Ops K) (la mid : Nat) (A B : List (List K)) : (O.midI la mid A B).length = A.length + B.length := by simp [Ops.midI]
theorem midI_wid {K : Type} {O : Ops K} {la mid rb : Nat} {A B : List (List K)} (hA : Wid (la + mid) A) (hB : Wid (mid + rb) B) : Wid mid (O.midI la mid A B) := fun v hv => by
  rcases List.mem_append.1 hv with h | h
  · obtain ⟨u, hu, rfl⟩ := List.mem_map.1 h
    rw [List.length_drop, hA u hu]; omega
  · obtain ⟨u, hu, rfl⟩ := List.mem_map.1 h
    rw [List.length_map, List.length_take, hB u hu]; omega
theorem run_takeM {A : Option Addr} {n c hi : Nat} (h : hi ≤ c) (W : World) : (Instr.sliceAt 34 (.slice A n c) none (some (.int .i64 (hi : Int))) (some (.int .i64 (hi : Int)))).run Tryz.prog W = .ok (.slice A hi hi) W := by
  obtain ⟨i, hi', hz, hs, hby⟩ := info_parts fracInfo
  have e1 : (0 : Int) ≤ (hi : Int) := by omega
  have e2 : (hi : Int) ≤ (c : Int) := by omega
  have e3 : A.map (fun a => a.add 0) = A := by
    cases A with
    | none => rfl
    | some a => obtain ⟨g, off, x⟩ := a; cases x <;> simp [Addr.add]
  simp [Instr.sliceAt, Instr.slice, run_underlying Tryz.underlying34, Instr.sliceBounds, run_sliceBound, sizeOf, typeInfo, hi', hs, e1, e2, e3]
theorem push_empty {W0 w : World} {B a b : Nat} {v0 : Value} {x : List Fra} (ad : Addr) (hO : (ELQ W0).O w a b [v0] x) (hab : a ≤ b) (hb : b ≤ w.heap.size) (hB : B ≤ a) :
    ∃ v' w', (Builtin.append_ #[30, 30] 30 #[.slice (some ad) 0 0, .slice (some ⟨w.heap.size, 0, none⟩) 1 1]).run Tryz.prog (w.alloc (.cells #[v0] 34)) = .ok v' w' ∧
      GE (ELQ W0) 34 w' B w'.heap.size v' [x] ∧ v' ≠ .slice none 0 0 ∧ Ex w w' := by
  obtain ⟨i, hi, hz, hs, hby⟩ := info_parts fracsInfo
  have hx := (Ex.refl w).alloc (.cells #[v0] 34)
  have hsz : (w.alloc (.cells #[v0] 34)).heap.size = w.heap.size + 1 := by simp
  obtain ⟨v', w', hrun, hown, hgr⟩ := run_append_arg_grows (P := Tryz.prog) (w := w.alloc (.cells #[v0] 34)) 30 30 34 i (.slice none 0 0) 1 24 Tryz.underlying30 hi hz hs hby rfl (by omega) ad 0 0 [] (by simp) (fun j u h => by simp at h) ⟨w.heap.size, 0, none⟩ 1 1 [v0] rfl
    (fun j y hj => World.news_of_block (heap_alloc_new w _) j y (by simpa using hj)) (by omega) (by unfold maxLen; omega) (by omega)
  rw [List.nil_append, Nat.zero_add] at hown
  have hx' : Ex w w' := hx.exo hgr (fun g e => by cases e)
  have hlt := World.ownsRow.lt hown
  have hnn : v' ≠ .slice none 0 0 := fun e => by
    rcases hown.2 with ⟨_, e2⟩ | ⟨g, cap, cur, e2, _⟩
    · omega
    · rw [e] at e2; cases e2
  refine ⟨v', w', hrun, ⟨fun k e => by have := hlt k e; omega, [[v0]], fun _ => a, fun _ => b, rfl, ⟨hown.1, ?_⟩, fun j y hj => ?_, fun i j hi hj => by simp at hi hj; omega⟩, hnn, hx'⟩
  · rcases hown.2 with h5 | ⟨g, cap, cur, e2, hg, r⟩
    · exact .inl h5
    · exact .inr ⟨g, cap, cur, e2, by omega, r⟩
  · rcases j with _ | j
    · injection hj with hj
      subst hj
      have h1 := hx'.size
      refine ⟨[v0], rfl, (ELQ W0).oex hO hx', hB, ?_, fun k e => ?_⟩
      · show b ≤ w'.heap.size; omega
      · have := hlt k e
        show k < a ∨ b ≤ k; omega
    · simp at hj
theorem push_rowsQ2 {W0 w : World} {B H : Nat} {v : Value} {xs : List (List Fra)} (h : (xs = [] ∧ ∃ ad, v = .slice (some ad) 0 0) ∨ GE (ELQ W0) 34 w B H v xs) (hH : H ≤ w.heap.size) {v0 : Value} {x : List Fra} {a b : Nat} (hu : (ELQ W0).O w a b [v0] x) (ha : H ≤ a) (hab : a ≤ b) (hb : b ≤ w.heap.size) (hB : B ≤ H) (hl : xs.length + 1 ≤ 1099511627776) :
    ∃ v' w', (Builtin.append_ #[30, 30] 30 #[v, .slice (some ⟨w.heap.size, 0, none⟩) 1 1]).run Tryz.prog (w.alloc (.cells #[v0] 34)) = .ok v' w' ∧
      GE (ELQ W0) 34 w' B w'.heap.size v' (xs ++ [x]) ∧ v' ≠ .slice none 0 0 ∧ ∀ b', Ex b' w → b'.heap.size ≤ B → Ex b' w' := by
  rcases h with ⟨rfl, ad, rfl⟩ | h
  · obtain ⟨v', w', h1, h2, h3, h4⟩ := push_empty (B := B) ad hu hab hb (by omega)
    exact ⟨v', w', h1, h2, h3, fun b' hb' _ => hb'.trans h4⟩
  · obtain ⟨v', w', h1, h2, _, h4, h5⟩ := push_rowsQ h hH hu ha hab hb hB hl
    exact ⟨v', w', h1, h2, h4, h5⟩
theorem rowsQ2 {W0 w : World} {B H : Nat} {v : Value} {xs : List (List Fra)} (h : (xs = [] ∧ ∃ ad, v = .slice (some ad) 0 0) ∨ GE (ELQ W0) 34 w B H v xs) (hl : xs.length ≤ 1099511627776) (he : Ex W0 w) : ∃ A c, v = .slice A xs.length c ∧ RdS EFF w A xs := by
  rcases h with ⟨rfl, ad, rfl⟩ | h
  · exact ⟨_, _, rfl, by simp, fun j x hj => by simp at hj⟩
  · exact h.rowsQ hl he
set_option maxHeartbeats 4000000 in
theorem ratComposed_c (p : Int) (la mid rb : Nat) (a b : List (List Fra)) (A B : Option Addr) (ca cb : Nat) (w : World) (hA : RdC w A a) (hB : RdC w B b) (hna : a.length ≤ 12) (hnb : b.length ≤ 12) (h1 : la + mid ≤ 12) (h2 : mid + rb ≤ 12) (h3 : la + rb ≤ 12) (hwa : Wid (la + mid) a) (hwb : Wid (mid + rb) b) (hF : fieldB p = true) (hga : GdM p 21 a) (hgb : GdM p 21 b) :
    Calls Tryz.prog 63 #[.int .i64 p, .agg #[.int .i64 la, .int .i64 mid, .slice A a.length ca], .agg #[.int .i64 mid, .int .i64 rb, .slice B b.length cb]] w fun e w' => ∃ y, e = .returned (.agg #[.int .i64 la, .int .i64 rb, y]) ∧ OFX w' w.heap.size w'.heap.size y ((frOps p).cmpI la mid rb a b) ∧ Ex w w' := by
  have HWa := Lib.hid hwa
  have HWb := Lib.hid hwb
  have HF := Lib.hid hF
  have HGa := Lib.hid hga
  have HGb := Lib.hid hgb
  have HA := Lib.hid hA
  have HB := Lib.hid hB
  have hp2 := fieldB_lo hF
  have hp97 := fieldB_hi hF
  obtain ⟨na, hna'⟩ : ∃ na, a.length = na := ⟨_, rfl⟩
  obtain ⟨nb, hnb'⟩ : ∃ nb, b.length = nb := ⟨_, rfl⟩
  have HNa := Lib.hid hna'
  have HNb := Lib.hid hnb'
  rw [hna'] at hna ⊢
  rw [hnb'] at hnb ⊢
  have y0 := (Ex.refl w).alloc (.cells #[.int .i64 la, .int .i64 mid, .slice A na ca] 32)
  have d0 := VB.new w 32 #[.int .i64 la, .int .i64 mid, .slice A na ca]
  have S0 := Lib.hid (show (w.alloc (.cells #[.int .i64 la, .int .i64 mid, .slice A na ca] 32)).heap.size = w.heap.size + 1 by simp)
  clear hA hB hwa hwb hF hga hgb hna' hnb'
  go_enter Tryz.func63, Tryz.ntmps63
  go_wp2_with fail
  generalize w.alloc (.cells #[.int .i64 la, .int .i64 mid, .slice A na ca] 32) = W0 at *
  have y1 := (Ex.refl W0).alloc (.cells #[.int .i64 mid, .int .i64 rb, .slice B nb cb] 32)
  have d1 := VB.new W0 32 #[.int .i64 mid, .int .i64 rb, .slice B nb cb]
  have S1 := Lib.hid (show (W0.alloc (.cells #[.int .i64 mid, .int .i64 rb, .slice B nb cb] 32)).heap.size = w.heap.size + 1 + 1 by simp; exact S0.out)
  rw [S0.out] at d1
  generalize W0.alloc (.cells #[.int .i64 mid, .int .i64 rb, .slice B nb cb] 32) = W1 at *
  have y2 := (Ex.refl W1).alloc (.cells #[.int .i64 0, .int .i64 0, .slice none 0 0] 32)
  have d2 := VB.new W1 32 #[.int .i64 0, .int .i64 0, .slice none 0 0]
  have S2 := Lib.hid (show (W1.alloc (.cells #[.int .i64 0, .int .i64 0, .slice none 0 0] 32)).heap.size = w.heap.size + 1 + 1 + 1 by simp; exact S1.out)
  rw [S1.out] at d2
  have qa := (d0.ex y1).ex y2
  have qb := d1.ex y2
  generalize W1.alloc (.cells #[.int .i64 0, .int .i64 0, .slice none 0 0] 32) = W2 at *
  have xx := (y0.trans y1).trans y2
  clear y0 y1 y2 d0 d1
  have HQ := Lib.hid (show ∀ W, Ex W2 W → (W.cell? ⟨w.heap.size, 0, none⟩ = some (.int .i64 la) ∧ W.cell? ⟨w.heap.size, 1, none⟩ = some (.int .i64 mid) ∧ W.cell? ⟨w.heap.size, 2, none⟩ = some (.slice A na ca) ∧ W.cell? ⟨w.heap.size + 1, 0, none⟩ = some (.int .i64 mid) ∧ W.cell? ⟨w.heap.size + 1, 1, none⟩ = some (.int .i64 rb) ∧ W.cell? ⟨w.heap.size + 1, 2, none⟩ = some (.slice B nb cb)) from fun W h => ⟨(qa.ex h).cell 0 rfl, (qa.ex h).cell 1 rfl, (qa.ex h).cell 2 rfl, (qb.ex h).cell 0 rfl, (qb.ex h).cell 1 rfl, (qb.ex h).cell 2 rfl⟩)
  clear qa qb
  have ge0 := GE.empty (ELQ w) 34 W2 (Nat.le_refl W2.heap.size)
  have he1 := (Ex.refl W2).alloc (.cells #[] 34)
  have hs1 : (W2.alloc (.cells #[] 34)).heap.size = W2.heap.size + 1 := by simp
  obtain ⟨k0, k1, k2, k3, k4, k5⟩ := HQ.out _ he1
  go_wp2_with fail
  clear k0 k1 k2 k3 k4 k5
  go_loopw [7, 22] (fun o i wr => ∃ k : Nat, k ≤ na ∧ i = .int .i64 k ∧ GE (ELQ w) 34 wr W2.heap.size wr.heap.size o ((a.map (List.drop la)).take k) ∧ o ≠ .slice none 0 0 ∧ Ex W2 wr) (fun _ i _ => na - (intOf i).toNat)
  case atStart => exact ⟨0, Nat.zero_le _, rfl, by rw [hs1]; first | exact ge0 | simpa [S2.out] using ge0, by simp, he1⟩
  case round =>
    rename World => wi
    clear ge0 he1 hs1
    obtain ⟨k, hk, rfl, hge, hnn, he⟩ := hrel
    have xw := xx.trans he
    have hzi := he.size
    by_cases hlt : k < na
    · obtain ⟨g, off, row, P, pc, eA, hr, b0w, hpc, hP⟩ := HA.out.at_ (j := k) (by rw [HNa.out]; exact hlt)
      subst eA
      have hrl := HWa.out row (List.mem_of_getElem? hr)
      have HT := Lib.hid (map_step (f := List.drop la) hr)
      rw [hrl] at hpc
      obtain ⟨P', hsl, _, hrd⟩ := run_dropF (A := P) (n := la + mid) (c := pc) (lo := la) (by omega) hpc
      rw [Nat.add_sub_cancel_left] at hsl
      have b0 := cell_ex xw b0w
      rw [hrl] at b0
      have hq : (ELQ w).O wi wi.heap.size wi.heap.size [.slice P' mid (pc - la)] (row.drop la) := ⟨P', pc - la, by rw [List.length_drop, hrl, Nat.add_sub_cancel_left], fun w2 h0 _ => (hrd w row hrl hP).ex h0⟩
      have hctl : ((a.map (List.drop la)).take k).length ≤ k := List.length_take_le _ _
      obtain ⟨v7, w7, hrun, ge7, _, hn7, hE7⟩ := push_rowsQ hge (Nat.le_refl _) hq (Nat.le_refl _) (Nat.le_refl _) (Nat.le_refl _) hzi (by omega)
      rw [← HT.out] at ge7
      have x7 := hE7 W2 he (Nat.le_refl _)
      obtain ⟨k0, k1, k2, k3, k4, k5⟩ := HQ.out _ he
      clear hr hP hrd hq b0w hE7 hge HT hctl
      go_wp2_with (at_builtin; refine wpList_append_run rfl _ _ _ rfl rfl rfl hrun ?_)
      go_roundw
      case rel => exact ⟨k + 1, by omega, by go_num, ge7, hn7, x7⟩
      case measure => simp [intOf]; omega
    · obtain rfl : na = k := by omega
      rw [List.take_of_length_le (by rw [List.length_map, HNa.out]; exact Nat.le_refl _)] at hge
      obtain ⟨k0, k1, k2, k3, k4, k5⟩ := HQ.out _ he
      go_wp2_with fail
      clear k0 k1 k2 k3 k4 k5
      go_loopw [7, 37] (fun o i wr => ∃ k : Nat, k ≤ nb ∧ i = .int .i64 k ∧ GE (ELQ w) 34 wr W2.heap.size wr.heap.size o (a.map (List.drop la) ++ (b.map (fun r => (r.take mid).map (negF p))).take k) ∧ o ≠ .slice none 0 0 ∧ Ex W2 wr) (fun _ i _ => nb - (intOf i).toNat)
      case atStart => exact ⟨0, Nat.zero_le _, rfl, by simpa using hge, hnn, he⟩
      case round =>
        rename World => wj
        clear hge hnn he xw hzi
        obtain ⟨k, hk, rfl, hge, hnn, he⟩ := hrel
        have xw := xx.trans he
        have hzj := he.size
        by_cases hlt : k < nb
        · obtain ⟨g, off, row, P, pc, eA, hr, b0w, hpc, hP⟩ := HB.out.at_ (j := k) (by rw [HNb.out]; exact hlt)
          subst eA
          have hrl := HWb.out row (List.mem_of_getElem? hr)
          have hrg := HGb.out row (List.mem_of_getElem? hr)
          have HT := Lib.hid (map_step (f := fun r => (List.take mid r).map (negF p)) hr)
          rw [hrl] at hpc
          have hslT := fun W => run_takeF (A := P) (n := mid + rb) (c := pc) (hi := mid) (by omega) W
          have b0 := cell_ex xw b0w
          rw [hrl] at b0
          have htl : (row.take mid).length = mid := by rw [List.length_take, hrl]; omega
          have hctl : ((b.map (fun r => (r.take mid).map (negF p))).take k).length ≤ k := List.length_take_le _ _
          obtain ⟨k0, k1, k2, k3, k4, k5⟩ := HQ.out _ he
          go_wp2_with fail
          refine (noughts_c mid (by omega) _).mono ?_
          rintro e w1 ⟨v1, rfl, ⟨hn1, ge1⟩, x1⟩
          obtain ⟨b1, c1, e1, hc1, _⟩ := ge1.form hn1
          rw [List.length_replicate] at e1 hc1
          subst e1
          have F1 := ge1.fbkA (a := wj.heap.size) (Nat.le_refl _)
          have hb1 : wj.heap.size ≤ b1 := by
            obtain ⟨_, _, _, _, hB, _⟩ := ge1.at_
            exact hB
          have hbl1 := F1.lt
          have hz1 := x1.size
          clear ge1 hn1 k0 k1 k2 k3 k4 k5
          obtain ⟨k0, k1, k2, k3, k4, k5⟩ := HQ.out _ (he.trans x1)
          have hsub : IntKind.i64.wrap (p - 1) = p - 1 := IntWalk.i64_in _ (by omega)
          have hp1 : p - 1 ≠ 0 := by omega
          have cAdd : ∀ (W : World) (C D : Option Addr) (cc dd : Nat), Ex w1 W → Rd W C [p - 1] → Rd W D [1] → (∀ a', C = some a' → w1.heap.size ≤ a'.block) → (∀ a', D = some a' → w1.heap.size ≤ a'.block) → Calls Tryz.prog 42 #[.int .i64 p, .slice (some ⟨b1, 0, none⟩) mid c1, .agg #[.slice C 1 cc, .slice D 1 dd], .slice P mid pc] W fun e w' => e = .returned (.tuple #[]) ∧ FBk w' (fun z => z < wj.heap.size ∨ z = b1) b1 ((row.take mid).map (negF p)) ∧ ExS (fun z => z = b1) W w' := fun W C D cc dd hW hC hD hC2 hD2 => by
            have hWs := hW.size
            have hno := neg_one hp2
            have := ratAddTimesR_c p (fun z => z < wj.heap.size ∨ z = b1) b1 P (List.replicate mid zF) (row.take mid) (negF p oF) C D cc dd c1 pc W (fun z hz => by omega) (.inr rfl) (F1.ex hW) (fun W' h' => (hP.ex ((xw.trans (x1.trans hW)).sx h' (fun z e => by have := xw.size; omega))).tkk mid) (by rw [htl, List.length_replicate]) (by rw [hno]; exact ⟨hC, fun _ a' e hz => by have := hC2 a' e; have hz' : a'.block = b1 := hz; omega⟩) (by rw [hno]; exact ⟨hD, fun _ a' e hz => by have := hD2 a' e; have hz' : a'.block = b1 := hz; omega⟩) ((GdR.zeros HF.out (Nat.le_refl 1) mid).mono (by omega)) ((hrg.take mid).mono (by omega)) (FV.one HF.out).neg ((oF_gd HF.out (Nat.le_refl 1)).2.neg.mono (by omega)) (by rw [htl]; omega)
            have han := addTm_neg (p := p) HF.out (ws := row.take mid) (fun x hx => ((hrg.take mid) x hx).1)
            rw [htl] at han
            rw [han, htl, List.length_replicate, hno] at this
            exact this.mono fun e w' ⟨q1, q2, q3, _⟩ => ⟨q1, q2, q3⟩
          clear hr hP hrg F1 b0w
          go_wp2_with fail
          go_region_law (first
            | (go_simp
               go_at_call 76
               refine (constK_c (p - 1) hp1 _).mono ?_
               rintro e w2 ⟨C, cc, D, dd, rfl, fC, fD, apC, x2'⟩
               have x2 : Ex w1 w2 := (Ex.refl w1).drew.trans x2'
               obtain ⟨l0, l1, l2, l3, l4, l5⟩ := HQ.out _ (he.trans (x1.trans x2)))
            | (go_simp
               go_at_call 42
               refine (cAdd w2 C D cc dd x2 fC.rd fD.rd (fun a' e => fC.hi a' e) (fun a' e => fD.hi a' e)).mono ?_
               rintro e w3 ⟨rfl, F3, x3⟩))
          all_goals
            have x13 : Ex wj w3 := (x1.trans x2).sx x3 (fun z e => e ▸ hb1)
            have hq := F3.elq (W0 := w) (c := c1) hb1 (by rw [List.length_map, htl]; omega)
            rw [List.length_map, htl] at hq
            obtain ⟨v7, w7, hrun, ge7, _, hn7, hE7⟩ := push_rowsQ (hge.ex x13) x13.size hq (Nat.le_refl _) x13.size (Nat.le_refl _) hzj (by rw [List.length_append, List.length_map, HNa.out]; omega)
            rw [List.append_assoc, ← HT.out] at ge7
            have x7 := hE7 W2 (he.trans x13) (Nat.le_refl _)
            clear k0 k1 k2 k3 k4 k5 l0 l1 l2 l3 l4 l5 hq hE7 hge HT hctl F3 cAdd hslT b0
            go_wp2_with (at_builtin; refine wpList_append_run rfl _ _ _ rfl rfl rfl hrun ?_)
            go_roundw
            case rel => exact ⟨k + 1, by omega, by go_num, ge7, hn7, x7⟩
            case measure => simp [intOf]; omega
        · obtain rfl : nb = k := by omega
          rw [List.take_of_length_le (by rw [List.length_map, HNb.out]; exact Nat.le_refl _)] at hge
          obtain ⟨R, hR⟩ : ∃ R, (frOps p).midI la mid a b = R := ⟨_, rfl⟩
          have hge2 := hge
          rw [show a.map (List.drop la) ++ b.map (fun r => (r.take mid).map (negF p)) = R from hR] at hge2
          have hRl : R.length = na + nb := by rw [← hR, midI_len, HNa.out, HNb.out]
          obtain ⟨A5, c5, ev5, rd5⟩ := hge2.rowsQ (by omega) xw
          rw [hRl] at ev5
          subst ev5
          have hwR : Wid mid R := by rw [← hR]; exact midI_wid HWa.out HWb.out
          have hgR : GdM p 21 R := by rw [← hR]; exact midI_gd HGa.out HGb.out
          obtain ⟨hk1, hk2, hk3⟩ := kerL_fr HF.out hwR hgR (by omega)
          have y6 := (Ex.refl wj).alloc (.cells #[] 34)
          have s6 : (wj.alloc (.cells #[] 34)).heap.size = wj.heap.size + 1 := by simp
          have ge6 := GE.empty (ELQ w) 34 wj (Nat.le_refl wj.heap.size)
          have cK := ratKernel_c p mid R A5 c5 _ HF.out (rd5.ex y6) hwR hgR (by omega) (by rw [hRl]; omega)
          obtain ⟨KL, hKL⟩ : ∃ KL, (frOps p).kerL mid R = KL := ⟨_, rfl⟩
          have HFIN := Lib.hid (show (frOps p).cmpI la mid rb a b = (frOps p).rref (la + rb) (KL.map ((frOps p).cmpR la mid rb a b)) by rw [← hKL, ← hR]; rfl)
          rw [hKL, hRl] at cK
          rw [hKL] at hk1 hk2 hk3
          rw [hRl] at hk1 hk3
          have HKw := Lib.hid hk1
          have HKg := Lib.hid hk2
          obtain ⟨kl, hkl⟩ : ∃ kl, KL.length = kl := ⟨_, rfl⟩
          have HKl := Lib.hid hkl
          rw [hkl] at cK hk3
          clear hge hge2 hwR hgR hk1 hk2 rd5 hR hRl hKL hkl
          obtain ⟨k0, k1, k2, k3, k4, k5⟩ := HQ.out _ (he.trans y6)
          go_wp2_with fail
          refine cK.mono ?_
          rintro e w7 ⟨A7, c7, rfl, hC, x7⟩
          have y7 := y6.trans x7
          have ge7 := (ge6.ex x7).more (Nat.le_refl wj.heap.size) (H' := w7.heap.size) (by have := x7.size; omega)
          have X7 := he.trans y7
          clear k0 k1 k2 k3 k4 k5 cK ge6 x7 y6 s6
          go_wp2_with fail
          go_loopw [13, 66] (fun o i wr => ∃ k : Nat, k ≤ kl ∧ i = .int .i64 k ∧ (((KL.map ((frOps p).cmpR la mid rb a b)).take k = [] ∧ ∃ ad, o = .slice (some ad) 0 0) ∨ GE (ELQ w) 34 wr w7.heap.size wr.heap.size o ((KL.map ((frOps p).cmpR la mid rb a b)).take k)) ∧ o ≠ .slice none 0 0 ∧ Ex w7 wr) (fun _ i _ => kl - (intOf i).toNat)
          case atStart => exact ⟨0, Nat.zero_le _, rfl, .inl ⟨rfl, _, rfl⟩, by simp, Ex.refl _⟩
          case round =>
            rename World => wk
            clear ge7
            obtain ⟨k, hk, rfl, hge, hnn, he7⟩ := hrel
            have xj := X7.trans he7
            have xwj := xx.trans xj
            have hzk : w7.heap.size ≤ wk.heap.size := he7.size
            by_cases hlt2 : k < kl
            · obtain ⟨g, off, kr, P, pc, eA, hr, b0w, hpc, hP⟩ := hC.at_ (j := k) (by rw [HKl.out]; exact hlt2)
              subst eA
              have hkrl := HKw.out kr (List.mem_of_getElem? hr)
              have hkrg := HKg.out kr (List.mem_of_getElem? hr)
              have HT := Lib.hid (map_step (f := (frOps p).cmpR la mid rb a b) hr)
              have b0 := cell_ex he7 b0w
              obtain ⟨s, hs⟩ : ∃ s, na + nb = s := ⟨_, rfl⟩
              have Hs := Lib.hid hs
              rw [hkrl, hs] at b0
              rw [hkrl, hs] at hpc
              have hns : na ≤ s := by omega
              have hpn : na ≤ pc := by omega
              have hs1 := fun W => run_takeF (A := P) (n := s) (c := pc) (hi := na) hpn W
              obtain ⟨P', hs2, _, hrd⟩ := run_dropF (A := P) (n := s) (c := pc) (lo := na) hns hpc
              rw [show s - na = nb by omega] at hs2
              have l1 : (kr.take na).length = na := by rw [List.length_take, hkrl]; omega
              have l2 : (kr.drop na).length = nb := by rw [List.length_drop, hkrl]; omega
              obtain ⟨X, hX⟩ : ∃ X, (frOps p).cmb (la + mid) (kr.take na) a = X := ⟨_, rfl⟩
              obtain ⟨Z, hZ⟩ : ∃ Z, (frOps p).cmb (mid + rb) (kr.drop na) b = Z := ⟨_, rfl⟩
              have hXl : X.length = la + mid := by rw [← hX]; exact cmb_len' HWa.out (by rw [l1, HNa.out])
              have hZl : Z.length = mid + rb := by rw [← hZ]; exact cmb_len' HWb.out (by rw [l2, HNb.out])
              have HR := Lib.hid (show (frOps p).cmpR la mid rb a b kr = X.take la ++ Z.drop mid by
                unfold Ops.cmpR; rw [HNa.out, hX, hZ])
              have cX : ∀ W, Ex wk W → ∀ d, Calls Tryz.prog 90 #[.int .i64 p, .slice P na d, .slice A na ca, .int .i64 ((la + mid : Nat) : Int)] W fun e w' => ∃ b c', e = .returned (.slice (some ⟨b, 0, none⟩) (la + mid) c') ∧ la + mid ≤ c' ∧ W.heap.size ≤ b ∧ FBk w' (fun z => z < W.heap.size ∨ z = b) b X ∧ Ex W w' := fun W hW d => by
                have := ratCombine_c p (la + mid) a (kr.take na) A P ca d W HF.out (HA.out.1.ex (xwj.trans hW)) ((hP.ex (he7.trans hW)).tkk na) HWa.out (by rw [l1, HNa.out]) (by omega) (by rw [HNa.out]; exact hna) ((hkrg.take na).mono (by omega)) HGa.out
                rwa [HNa.out, l1, hX] at this
              have cZ : ∀ W, Ex wk W → ∀ d, Calls Tryz.prog 90 #[.int .i64 p, .slice P' nb d, .slice B nb cb, .int .i64 ((mid + rb : Nat) : Int)] W fun e w' => ∃ b c', e = .returned (.slice (some ⟨b, 0, none⟩) (mid + rb) c') ∧ mid + rb ≤ c' ∧ W.heap.size ≤ b ∧ FBk w' (fun z => z < W.heap.size ∨ z = b) b Z ∧ Ex W w' := fun W hW d => by
                have := ratCombine_c p (mid + rb) b (kr.drop na) B P' cb d W HF.out (HB.out.1.ex (xwj.trans hW)) (hrd _ kr (by rw [hkrl, hs]) (hP.ex (he7.trans hW))) HWb.out (by rw [l2, HNb.out]) (by omega) (by rw [HNb.out]; exact hnb) ((hkrg.drop na).mono (by omega)) HGb.out
                rwa [HNb.out, l2, hZ] at this
              have hlm : IntKind.i64.wrap ((la : Int) + (mid : Int)) = ((la + mid : Nat) : Int) := by rw [IntWalk.i64_in _ (by omega)]; omega
              have hmr : IntKind.i64.wrap ((mid : Int) + (rb : Int)) = ((mid + rb : Nat) : Int) := by rw [IntWalk.i64_in _ (by omega)]; omega
              have hctl : ((KL.map ((frOps p).cmpR la mid rb a b)).take k).length ≤ k := List.length_take_le _ _
              obtain ⟨lm, hlm'⟩ : ∃ lm, la + mid = lm := ⟨_, rfl⟩
              obtain ⟨mr, hmr'⟩ : ∃ mr, mid + rb = mr := ⟨_, rfl⟩
              have HLM := Lib.hid hlm'
              have HMR := Lib.hid hmr'
              rw [hlm'] at cX hlm hXl
              rw [hmr'] at cZ hmr hZl
              have HS : ∀ W, Ex wk W → (W.cell? ⟨w.heap.size, 0, none⟩ = some (.int .i64 la) ∧ W.cell? ⟨w.heap.size, 1, none⟩ = some (.int .i64 mid) ∧ W.cell? ⟨w.heap.size, 2, none⟩ = some (.slice A na ca) ∧ W.cell? ⟨w.heap.size + 1, 0, none⟩ = some (.int .i64 mid) ∧ W.cell? ⟨w.heap.size + 1, 1, none⟩ = some (.int .i64 rb) ∧ W.cell? ⟨w.heap.size + 1, 2, none⟩ = some (.slice B nb cb)) := fun W h => HQ.out _ (xj.trans h)
              clear hr hP hrd hkrl hkrg hX hZ b0w l1 l2 hlm' hmr' hs
              go_wp2_with fail
              go_region_held3 (fun W => W.cell? ⟨w.heap.size, 0, none⟩ = some (.int .i64 la) ∧ W.cell? ⟨w.heap.size, 1, none⟩ = some (.int .i64 mid) ∧ W.cell? ⟨w.heap.size, 2, none⟩ = some (.slice A na ca) ∧ W.cell? ⟨w.heap.size + 1, 0, none⟩ = some (.int .i64 mid) ∧ W.cell? ⟨w.heap.size + 1, 1, none⟩ = some (.int .i64 rb) ∧ W.cell? ⟨w.heap.size + 1, 2, none⟩ = some (.slice B nb cb)) (first
                | (exact HS _ x8) | (exact HS _ (Ex.refl _).drew) | (exact HS _ (Ex.refl _))) (first
                | (go_at_call 90
                   refine (cX _ (Ex.refl wk).drew _).mono ?_
                   rintro e w8 ⟨b1, c1, rfl, hc1, hb1, F1, x8'⟩
                   have x8 : Ex wk w8 := (Ex.refl wk).drew.trans x8'))
              go_wp2_with fail
              go_region_held3 (fun W => W.cell? ⟨w.heap.size, 0, none⟩ = some (.int .i64 la) ∧ W.cell? ⟨w.heap.size, 1, none⟩ = some (.int .i64 mid) ∧ W.cell? ⟨w.heap.size, 2, none⟩ = some (.slice A na ca) ∧ W.cell? ⟨w.heap.size + 1, 0, none⟩ = some (.int .i64 mid) ∧ W.cell? ⟨w.heap.size + 1, 1, none⟩ = some (.int .i64 rb) ∧ W.cell? ⟨w.heap.size + 1, 2, none⟩ = some (.slice B nb cb)) (first
                | (exact HS _ x9) | (exact HS _ x8.drew) | (exact HS _ x8)) (first
                | (go_at_call 90
                   refine (cZ _ x8.drew _).mono ?_
                   rintro e w9 ⟨b2, c2, rfl, hc2, hb2, F2, x9'⟩
                   have x89 : Ex w8 w9 := (Ex.refl w8).drew.trans x9'
                   have x9 : Ex wk w9 := x8.trans x89))
              clear cX cZ hs1 hs2 b0
              have hXr : X.length ≤ 1000 := by rw [hXl]; have := HLM.out; omega
              have hZr : Z.length ≤ 1000 := by rw [hZl]; have := HMR.out; omega
              have hsx := fun W => run_takeM (A := some ⟨b1, 0, none⟩) (n := lm) (c := c1) (hi := la) (by have := HLM.out; omega) W
              obtain ⟨Pz, hsz, hqz, _⟩ := run_dropF (A := some ⟨b2, 0, none⟩) (n := mr) (c := c2) (lo := mid) (by have := HMR.out; omega) hc2
              rw [show mr - mid = rb by have := HMR.out; omega] at hsz
              have t1 : (X.take la).length = la := by rw [List.length_take, hXl]; have := HLM.out; omega
              have t2 : (Z.drop mid).length = rb := by rw [List.length_drop, hZl]; have := HMR.out; omega
              have hb1' : wk.heap.size ≤ b1 := hb1
              have hb2' : w8.heap.size ≤ b2 := hb2
              have hz8 := x8.size
              have hz89 := x89.size
              have hl1 := F1.lt
              have q1 : RowQ (fun W => ∀ q, wk.heap.size ≤ q → q < w9.heap.size → W.heap[q]? = w9.heap[q]?) w9.drew (some ⟨b1, 0, none⟩) (X.take la) := (((F1.rowQ (by omega)).tk la).ex (x89.drew)).mono fun W hW q a1 a2 => (hW q a1 (Nat.lt_of_lt_of_le a2 hz89)).trans (x89.block a2)
              have q2 : RowQ (fun W => ∀ q, wk.heap.size ≤ q → q < w9.heap.size → W.heap[q]? = w9.heap[q]?) w9.drew Pz (Z.drop mid) := ((hqz _ w9 Z hZl (F2.rowQ (by omega))).ex (Ex.refl w9).drew).mono fun W hW q a1 a2 => hW q (Nat.le_trans hz8 a1) a2
              obtain ⟨A10, c10, w10, hrun10, x910, hq10⟩ := append_full (W0 := w) (a := wk.heap.size) q1 q2 (show wk.heap.size ≤ w9.heap.size by omega) hb1' (show b1 < w9.heap.size by omega) (fun W hW => hW) (c2 - mid) (by rw [t1]; omega) (by rw [t2]; omega)
              have hrl : ((frOps p).cmpR la mid rb a b kr).length = la + rb := by rw [HR.out, List.length_append, t1, t2]
              rw [← HR.out, hrl] at hq10 hrun10
              rw [t1, t2] at hrun10
              have x10 : Ex wk w10 := x9.drew.trans x910
              obtain ⟨v11, w11, hrun11, ge11, hn11, hE11⟩ := push_rowsQ2 (hge.elim .inl (fun h => .inr (h.ex x10))) x10.size hq10 (Nat.le_refl _) x10.size (Nat.le_refl _) hzk (by omega)
              rw [← HT.out] at ge11
              have x11 := hE11 w7 (he7.trans x10) (Nat.le_refl _)
              have HSx : ∀ W, Ex W2 W → (W.cell? ⟨w.heap.size, 0, none⟩ = some (.int .i64 la) ∧ W.cell? ⟨w.heap.size + 1, 0, none⟩ = some (.int .i64 mid)) := fun W h => ⟨(HQ.out W h).1, (HQ.out W h).2.2.2.1⟩
              obtain ⟨k0, k3⟩ := HSx _ (xj.trans x9)
              clear hE11 hq10 q1 q2 hge HS hXr hZr hXl hZl F1 F2 hqz
              go_wp2_with fail
              go_region_held3 (fun W => W.cell? ⟨w.heap.size, 0, none⟩ = some (.int .i64 la) ∧ W.cell? ⟨w.heap.size + 1, 0, none⟩ = some (.int .i64 mid)) (first
                | (exact HSx _ (X7.trans x11)) | (exact HSx _ ((xj.trans x10).alloc _)) | (exact HSx _ (xj.trans x10)) | (exact HSx _ (xj.trans x9).drew) | (exact HSx _ (xj.trans x9))) (first
                | (refine step_append_run (vx := .slice Pz rb (c2 - mid)) rfl _ _ _ rfl rfl rfl hrun10 ?_)
                | (refine step_append_run rfl _ _ _ rfl rfl rfl hrun11 ?_))
              clear hrun10 hrun11 hsx hsz k0 k3 HSx
              go_wp2_with fail
              go_roundw
              case rel => exact ⟨k + 1, by omega, by go_num, .inr ge11, hn11, x11⟩
              case measure => simp [intOf]; omega
            · obtain rfl : kl = k := by omega
              rw [List.take_of_length_le (by rw [List.length_map, HKl.out]; exact Nat.le_refl _)] at hge
              obtain ⟨D, hD⟩ : ∃ D, KL.map ((frOps p).cmpR la mid rb a b) = D := ⟨_, rfl⟩
              have hDl : D.length = kl := by rw [← hD, List.length_map, HKl.out]
              have hDw : Wid (la + rb) D := fun v hv => by
                rw [← hD] at hv
                obtain ⟨u, hu, rfl⟩ := List.mem_map.1 hv
                exact cmpR_len' HWa.out HWb.out (by rw [HKw.out u hu, HNa.out, HNb.out])
              have hDg : GdM p 43009 D := fun v hv => by
                rw [← hD] at hv
                obtain ⟨u, hu, rfl⟩ := List.mem_map.1 hv
                exact cmpR_gd HF.out (HKg.out u hu) HGa.out HGb.out (by rw [HNa.out]; exact hna) (by rw [HNb.out]; exact hnb) (by rw [HKw.out u hu, HNa.out, HNb.out]) (by omega)
              rw [hD] at hge HFIN
              clear hD
              obtain ⟨A3, c3, e3, hN⟩ := rowsQ2 hge (by omega) xwj
              rw [hDl] at e3
              subst e3
              have cO := ratRelation_c p la rb D A3 c3 wk HF.out hN hDw (fun c hc => (stg_cramR HF.out (by omega) hDg hDw (R := 12) (.inl h3) (Nat.le_refl _) c hc).mono (by unfold cramB; omega)) (by omega) (by rw [hDl]; omega)
              rw [hDl] at cO
              obtain ⟨RR, hRR⟩ : ∃ RR, (frOps p).rref (la + rb) D = RR := ⟨_, rfl⟩
              rw [hRR] at cO HFIN
              clear hRR hDw hDg hDl hN hge
              obtain ⟨k0, k1, k2, k3, k4, k5⟩ := HQ.out _ xj
              go_wp2_with fail
              refine cO.mono ?_
              rintro e w8 ⟨y4, rfl, fx, x8⟩
              obtain ⟨A4, c4, rfl, _⟩ := fx.rd
              clear cO k0 k1 k2 k3 k4 k5
              have hl2 := d2.lt
              have dz := (d2.ex xj).ex x8
              have xz := xwj.trans x8
              obtain ⟨dd, zz⟩ := dz.st3 (.int .i64 la) (.int .i64 rb) (.slice A4 RR.length c4)
              have u0 := dz.cell 0 (v := .int .i64 0) rfl
              have u1 := dz.cell 1 (v := .int .i64 0) rfl
              have u2 := dz.cell 2 (v := .slice none 0 0) rfl
              have k0 := dz.frozen 0
              have k1 := dz.frozen 1
              have k2 := dz.frozen 2
              have C0 := dd.cell 0 (v := .int .i64 la) rfl
              have C1 := dd.cell 1 (v := .int .i64 rb) rfl
              have C2 := dd.cell 2 (v := .slice A4 RR.length c4) rfl
              have eF := xz.ex1 zz (by omega)
              have hzj2 := xj.size
              have hzw := xx.size
              have fx2 := fx.iv (ExI.of_ex1 zz) (by omega)
              have fx3 := fx2.more (a' := w.heap.size) (b' := w8.heap.size) (by omega) (Nat.le_refl _)
              go_wp2_with fail
              refine bodyPost_ret (v := .agg #[.int .i64 la, .int .i64 rb, .slice A4 RR.length c4]) (by simp [results, Tryz.results63, go_sem, C0, C1, C2]) rfl ?_
              rw [HFIN.out]
              exact ⟨_, rfl, fx3.more (Nat.le_refl _) (Nat.le_of_eq (by simp)), eF⟩
end Go.Proofs.YtpeogfapnofeoaaGreatDoor
namespace Go.Proofs.YtpeogfapnofeoaaGreatDoor
set_option maxRecDepth 100000
open Go Go.RowKit
def cmpC (p : Int) (x y : RRel) : Prop := rrB p x = true ∧ rrB p y = true ∧ x.r = y.l ∧ x.l + y.r ≤ 12
noncomputable def cmpU (p : Int) (x y : RRel) : RRel × Bool := @ite _ (cmpC p x y) (Classical.propDecidable _) (ifU p ⟨x.l, y.r, (frOps p).cmpS x.l.toNat x.r.toNat y.r.toNat x.b y.b⟩) (⟨0, 0, []⟩, false)
theorem cmpU_no {p : Int} {x y : RRel} (h : ¬ cmpC p x y) : cmpU p x y = (⟨0, 0, []⟩, false) := if_neg h
theorem cmpU_yes {p : Int} {x y : RRel} (h : cmpC p x y) : cmpU p x y = ifU p ⟨x.l, y.r, (frOps p).cmpS x.l.toNat x.r.toNat y.r.toNat x.b y.b⟩ := if_pos h
theorem cmpU_tot (p : Int) (x y : RRel) : totFF (cmpU p x y).1.b ≤ 1125899906842624 := by
  by_cases h : cmpC p x y
  · rw [cmpU_yes h]; exact ifU_tot _ _
  · rw [cmpU_no h]; show (0 : Int) ≤ _; omega
theorem gdm_fv {p : Int} {L : Nat} {a : List (List Fra)} (h : GdM p L a) : ∀ v ∈ a, ∀ x ∈ v, FV p x := fun v hv x hx => (h v hv x hx).1
theorem cmpI_vr {p : Int} {la mid rb : Nat} {a b : List (List Fra)} (hF : fieldB p = true) (ha : GdM p 21 a) (hb : GdM p 21 b) (hwa : Wid (la + mid) a) (hwb : Wid (mid + rb) b) (hna : a.length ≤ 12) (hnb : b.length ≤ 12) (hm : mid ≤ 12) : rrB p ⟨la, rb, (frOps p).cmpI la mid rb a b⟩ = vrB p la rb ((frOps p).cmpI la mid rb a b) := by
  have hwR : Wid mid ((frOps p).midI la mid a b) := midI_wid hwa hwb
  have hgR : GdM p 21 ((frOps p).midI la mid a b) := midI_gd ha hb
  obtain ⟨k1, k2, _⟩ := kerL_fr hF hwR hgR hm
  rw [midI_len] at k1
  have e : ((la : Int) + (rb : Int)).toNat = la + rb := by omega
  have := rrB_rref (p := p) (l := la) (r := rb) (rows := ((frOps p).kerL mid ((frOps p).midI la mid a b)).map ((frOps p).cmpR la mid rb a b)) hF (fun v hv x hx => by
    obtain ⟨u, hu, rfl⟩ := List.mem_map.1 hv
    exact (cmpR_gd hF (k2 u hu) ha hb hna hnb (k1 u hu) (Nat.le_refl _) x hx).1) (by
    rw [e]
    intro v hv
    obtain ⟨u, hu, rfl⟩ := List.mem_map.1 hv
    exact cmpR_len' hwa hwb (k1 u hu))
  rw [e] at this
  exact this
set_option maxHeartbeats 8000000 in
theorem spComposeRational_u (p : Int) (x y : RRel) (v0 v1 : Value) (w : World) (hX : RRRelc w v0 x) (hY : RRRelc w v1 y) :
    Calls Tryz.prog 28 #[.int .i64 p, .agg #[.int .i64 x.l, .int .i64 x.r, v0], .agg #[.int .i64 y.l, .int .i64 y.r, v1]] w fun e w' => ∃ y0, e = .returned (.tuple #[.agg #[.int .i64 (cmpU p x y).1.l, .int .i64 (cmpU p x y).1.r, y0], .bool (cmpU p x y).2]) ∧ ORRel w' w.heap.size w'.heap.size y0 (cmpU p x y).1 ∧ Ex w w' := by
  obtain ⟨hx0, A, c, rfl, hc⟩ := hX
  obtain ⟨hy0, B, d, rfl, hd⟩ := hY
  have HT := Lib.hid (cmpU_tot p x y)
  have y0 := (Ex.refl w).alloc (.cells #[.int .i64 x.l, .int .i64 x.r, .slice A x.b.length c] 32)
  have d0 := VB.new w 32 #[.int .i64 x.l, .int .i64 x.r, .slice A x.b.length c]
  have S0 := Lib.hid (show (w.alloc (.cells #[.int .i64 x.l, .int .i64 x.r, .slice A x.b.length c] 32)).heap.size = w.heap.size + 1 by simp)
  go_enter Tryz.func28, Tryz.ntmps28
  go_wp2_with fail
  generalize w.alloc (.cells #[.int .i64 x.l, .int .i64 x.r, .slice A x.b.length c] 32) = W0 at *
  have y1 := (Ex.refl W0).alloc (.cells #[.int .i64 y.l, .int .i64 y.r, .slice B y.b.length d] 32)
  have d1 := VB.new W0 32 #[.int .i64 y.l, .int .i64 y.r, .slice B y.b.length d]
  have S1 := Lib.hid (show (W0.alloc (.cells #[.int .i64 y.l, .int .i64 y.r, .slice B y.b.length d] 32)).heap.size = w.heap.size + 1 + 1 by simp; exact S0.out)
  rw [S0.out] at d1
  generalize W0.alloc (.cells #[.int .i64 y.l, .int .i64 y.r, .slice B y.b.length d] 32) = W1 at *
  have y2 := (Ex.refl W1).alloc (.cells #[.int .i64 0, .int .i64 0, .slice none 0 0] 32)
  have d2 := VB.new W1 32 #[.int .i64 0, .int .i64 0, .slice none 0 0]
  rw [S1.out] at d2
  have qa := (d0.ex y1).ex y2
  have qb := d1.ex y2
  generalize W1.alloc (.cells #[.int .i64 0, .int .i64 0, .slice none 0 0] 32) = W2 at *
  have xx := (y0.trans y1).trans y2
  clear y0 y1 y2 d0 d1 S0 S1

  refine (rrGood_c p x A c W2 (hc.1.ex xx)).mono ?_
  rintro e w3 ⟨b0, rfl, hb0, x3⟩
  obtain rfl := rrB_of hb0
  clear hb0
  cases hb : rrB p x with
  | false =>
    have HN := Lib.hid (cmpU_no (p := p) (x := x) (y := y) (fun h => by have := h.1; rw [hb] at this; cases this))
    clear hb
    have dz := d2.ex x3
    have xz := xx.trans x3
    obtain ⟨dd, zz⟩ := dz.st3 (.int .i64 0) (.int .i64 0) (.slice none 0 0)
    have u0 := dz.cell 0 (v := .int .i64 0) rfl
    have u1 := dz.cell 1 (v := .int .i64 0) rfl
    have u2 := dz.cell 2 (v := .slice none 0 0) rfl
    have k0 := dz.frozen 0
    have k1 := dz.frozen 1
    have k2 := dz.frozen 2
    have C0 := dd.cell 0 (v := .int .i64 0) rfl
    have C1 := dd.cell 1 (v := .int .i64 0) rfl
    have C2 := dd.cell 2 (v := .slice none 0 0) rfl
    have eF := xz.ex1 zz (by omega)
    go_wp2_with fail
    refine bodyPost_ret (v := .tuple #[.agg #[.int .i64 0, .int .i64 0, .slice none 0 0], .bool false]) (by simp [results, Tryz.results28, go_sem, C0, C1, C2]) rfl ?_
    rw [HN.out]
    exact ⟨_, rfl, ⟨w.heap.size, w.heap.size, off_nil _ _ _, Nat.le_refl _, eF.size⟩, eF⟩
  | true =>
    have Hbx := Lib.hid hb
    have qb3 := qb.ex x3
    have p0 := qb3.cell 0 (v := .int .i64 y.l) rfl
    have p1 := qb3.cell 1 (v := .int .i64 y.r) rfl
    have p2 := qb3.cell 2 (v := .slice B y.b.length d) rfl
    clear hb
    go_wp2_with fail
    clear p0 p1 p2
    refine (rrGood_c p y B d w3 (hd.1.ex (xx.trans x3))).mono ?_
    rintro e w4 ⟨b0, rfl, hb0, x4⟩
    obtain rfl := rrB_of hb0
    clear hb0
    have X4 := (xx.trans x3).trans x4
    have D4 := (d2.ex x3).ex x4
    have qa4 := (qa.ex x3).ex x4
    have qb4 := qb3.ex x4
    cases hb : rrB p y with
    | false =>
      have HN := Lib.hid (cmpU_no (p := p) (x := x) (y := y) (fun h => by have := h.2.1; rw [hb] at this; cases this))
      clear hb
      have dz := D4
      have xz := X4
      obtain ⟨dd, zz⟩ := dz.st3 (.int .i64 0) (.int .i64 0) (.slice none 0 0)
      have u0 := dz.cell 0 (v := .int .i64 0) rfl
      have u1 := dz.cell 1 (v := .int .i64 0) rfl
      have u2 := dz.cell 2 (v := .slice none 0 0) rfl
      have k0 := dz.frozen 0
      have k1 := dz.frozen 1
      have k2 := dz.frozen 2
      have C0 := dd.cell 0 (v := .int .i64 0) rfl
      have C1 := dd.cell 1 (v := .int .i64 0) rfl
      have C2 := dd.cell 2 (v := .slice none 0 0) rfl
      have eF := xz.ex1 zz (by omega)
      go_wp2_with fail
      refine bodyPost_ret (v := .tuple #[.agg #[.int .i64 0, .int .i64 0, .slice none 0 0], .bool false]) (by simp [results, Tryz.results28, go_sem, C0, C1, C2]) rfl ?_
      rw [HN.out]
      exact ⟨_, rfl, ⟨w.heap.size, w.heap.size, off_nil _ _ _, Nat.le_refl _, eF.size⟩, eF⟩
    | true =>
      have Hby := Lib.hid hb
      have Ha0 := rrB_pos Hbx.out
      have Hb0 := rrB_pos Hby.out
      obtain ⟨al, ar, hal, har, halr, hga, hwa, _, hla, hF⟩ := rrB_has Hbx.out
      obtain ⟨bl, br, hbl, hbr, hblr, hgb, hwb, _, hlb, _⟩ := rrB_has Hby.out
      have p0 := qa4.cell 0 (v := .int .i64 x.l) rfl
      have p1 := qa4.cell 1 (v := .int .i64 x.r) rfl
      have p2 := qa4.cell 2 (v := .slice A x.b.length c) rfl
      have p3 := qb4.cell 0 (v := .int .i64 y.l) rfl
      have p4 := qb4.cell 1 (v := .int .i64 y.r) rfl
      have p5 := qb4.cell 2 (v := .slice B y.b.length d) rfl
      rw [hal] at p0
      rw [har] at p1
      rw [hbl] at p3
      rw [hbr] at p4
      clear hb
      by_cases heq : ar = bl
      case neg =>
        have HN := Lib.hid (cmpU_no (p := p) (x := x) (y := y) (fun h => heq (by have := h.2.2.1; omega)))
        have hnb : ((ar : Int) != (bl : Int)) = true := by simp; omega
        clear hga hwa hgb hwb hF Ha0 Hb0 heq
        have dz := D4
        have xz := X4
        obtain ⟨dd, zz⟩ := dz.st3 (.int .i64 0) (.int .i64 0) (.slice none 0 0)
        have u0 := dz.cell 0 (v := .int .i64 0) rfl
        have u1 := dz.cell 1 (v := .int .i64 0) rfl
        have u2 := dz.cell 2 (v := .slice none 0 0) rfl
        have k0 := dz.frozen 0
        have k1 := dz.frozen 1
        have k2 := dz.frozen 2
        have C0 := dd.cell 0 (v := .int .i64 0) rfl
        have C1 := dd.cell 1 (v := .int .i64 0) rfl
        have C2 := dd.cell 2 (v := .slice none 0 0) rfl
        have eF := xz.ex1 zz (by omega)
        go_wp2_with fail
        refine bodyPost_ret (v := .tuple #[.agg #[.int .i64 0, .int .i64 0, .slice none 0 0], .bool false]) (by simp [results, Tryz.results28, go_sem, C0, C1, C2]) rfl ?_
        rw [HN.out]
        exact ⟨_, rfl, ⟨w.heap.size, w.heap.size, off_nil _ _ _, Nat.le_refl _, eF.size⟩, eF⟩
      subst heq
      have hnb : ((ar : Int) != (ar : Int)) = false := by simp
      have hs1 : IntKind.i64.wrap ((al : Int) + (br : Int)) = ((al + br : Nat) : Int) := by rw [IntWalk.i64_in _ (by omega)]; omega
      obtain ⟨s3, hs3'⟩ : ∃ s, al + br = s := ⟨_, rfl⟩
      have HS3 := Lib.hid hs3'
      rw [hs3'] at hs1
      have hs60 : s3 ≤ 24 := by omega
      clear hs3'
      by_cases h12 : s3 ≤ 12
      case neg =>
        have HN := Lib.hid (cmpU_no (p := p) (x := x) (y := y) (fun h => h12 (by have := h.2.2.2; have := HS3.out; omega)))
        have hgt2 : (12 : Int) < (s3 : Int) := by omega
        have hgt3 : 12 < s3 := by omega
        clear hga hwa hgb hwb hF Ha0 Hb0
        have dz := D4
        have xz := X4
        obtain ⟨dd, zz⟩ := dz.st3 (.int .i64 0) (.int .i64 0) (.slice none 0 0)
        have u0 := dz.cell 0 (v := .int .i64 0) rfl
        have u1 := dz.cell 1 (v := .int .i64 0) rfl
        have u2 := dz.cell 2 (v := .slice none 0 0) rfl
        have k0 := dz.frozen 0
        have k1 := dz.frozen 1
        have k2 := dz.frozen 2
        have C0 := dd.cell 0 (v := .int .i64 0) rfl
        have C1 := dd.cell 1 (v := .int .i64 0) rfl
        have C2 := dd.cell 2 (v := .slice none 0 0) rfl
        have eF := xz.ex1 zz (by omega)
        go_wp2_with fail
        refine bodyPost_ret (v := .tuple #[.agg #[.int .i64 0, .int .i64 0, .slice none 0 0], .bool false]) (by simp [results, Tryz.results28, go_sem, C0, C1, C2]) rfl ?_
        rw [HN.out]
        exact ⟨_, rfl, ⟨w.heap.size, w.heap.size, off_nil _ _ _, Nat.le_refl _, eF.size⟩, eF⟩
      have hgt2 : ¬ (12 : Int) < (s3 : Int) := by omega
      have hgt3 : ¬ 12 < s3 := by omega
      have hsum : al + br ≤ 12 := by have := HS3.out; omega
      have cC := rrCompose_c p al ar br x.b y.b A B c d w4 (hc.ex X4) (hd.ex X4) hla hlb halr hblr hsum hwa hwb hF hga hgb
      have HG := Lib.hid (show cmpU p x y = ifU p ⟨(al : Int), (br : Int), (frOps p).cmpS al ar br x.b y.b⟩ by
        rw [cmpU_yes ⟨Hbx.out, Hby.out, by omega, by omega⟩, hal, har, hbr]; rfl)
      clear hga hwa hgb hwb hF Ha0 Hb0 hsum
      obtain ⟨RR, hRR⟩ : ∃ RR, (frOps p).cmpS al ar br x.b y.b = RR := ⟨_, rfl⟩
      rw [hRR] at cC HG
      clear hRR
      go_wp2_with fail
      refine cC.mono ?_
      rintro e w5 ⟨A5, c5, rfl, r5, x5⟩
      clear cC p0 p1 p2 p3 p4 p5 hs1
      go_wp2_with fail
      have cI := rrIf_c p ⟨al, br, RR⟩ A5 c5 w5 r5
      obtain ⟨⟨⟨rl, rr, rb⟩, bb⟩, hRES⟩ : ∃ RES, ifU p ⟨al, br, RR⟩ = RES := ⟨_, rfl⟩
      have HE := Lib.hid (HG.out.trans hRES)
      rw [hRES] at cI
      dsimp only at cI
      clear HG hRES
      refine cI.mono ?_
      clear cI
      rintro e w6 ⟨A6, c6, rfl, r6, x6⟩
      dsimp only at r6 ⊢
      have hzy := ((x3.trans x4).trans x5).size
      have hlt := d2.lt
      have dz := (D4.ex x5).ex x6
      have xz := (X4.trans x5).trans x6
      obtain ⟨dd, zz⟩ := dz.st3 (.int .i64 rl) (.int .i64 rr) (.slice A6 rb.length c6)
      have u0 := dz.cell 0 (v := .int .i64 0) rfl
      have u1 := dz.cell 1 (v := .int .i64 0) rfl
      have u2 := dz.cell 2 (v := .slice none 0 0) rfl
      have k0 := dz.frozen 0
      have k1 := dz.frozen 1
      have k2 := dz.frozen 2
      have C0 := dd.cell 0 (v := .int .i64 rl) rfl
      have C1 := dd.cell 1 (v := .int .i64 rr) rfl
      have C2 := dd.cell 2 (v := .slice A6 rb.length c6) rfl
      have eF := xz.ex1 zz (by omega)
      have hst := r6 _ ((ExI.of_ex1 zz).widen (Nat.zero_le _) (by omega))
      go_wp2_with fail
      refine bodyPost_ret (v := .tuple #[.agg #[.int .i64 rl, .int .i64 rr, .slice A6 rb.length c6], .bool bb]) (by simp [results, Tryz.results28, go_sem, C0, C1, C2]) rfl ?_
      have ht := HT.out
      rw [HE.out] at ht ⊢
      exact ⟨_, rfl, ⟨_, _, (hst.2.more (a' := w.heap.size) (b' := w6.heap.size) (by have := X4.size; have := x5.size; omega) (Nat.le_refl _)).off ht, Nat.le_refl _, Nat.le_of_eq (by simp)⟩, eF⟩
set_option maxHeartbeats 8000000 in
theorem ComposeRational_u (p : Int) (x y : RRel) (v0 v1 : Value) (w : World) (hX : RRRelc w v0 x) (hY : RRRelc w v1 y) (ht : Tb w) :
    Calls Tryz.prog 29 #[.int .i64 p, .agg #[.int .i64 x.l, .int .i64 x.r, v0], .agg #[.int .i64 y.l, .int .i64 y.r, v1]] w fun e w' => ∃ y0, e = .returned (.tuple #[.agg #[.int .i64 (cmpU p x y).1.l, .int .i64 (cmpU p x y).1.r, y0], .bool (cmpU p x y).2]) ∧ ORRel w' w.heap.size w'.heap.size y0 (cmpU p x y).1 ∧ Ex w w' := by
  obtain ⟨hx0, A, c, rfl, hc⟩ := hX
  obtain ⟨hy0, B, d, rfl, hd⟩ := hY
  have y0 := (Ex.refl w).alloc (.cells #[.int .i64 x.l, .int .i64 x.r, .slice A x.b.length c] 32)
  have d0 := VB.new w 32 #[.int .i64 x.l, .int .i64 x.r, .slice A x.b.length c]
  have S0 := Lib.hid (show (w.alloc (.cells #[.int .i64 x.l, .int .i64 x.r, .slice A x.b.length c] 32)).heap.size = w.heap.size + 1 by simp)
  go_enter Tryz.func29, Tryz.ntmps29
  go_wp2_with fail
  generalize w.alloc (.cells #[.int .i64 x.l, .int .i64 x.r, .slice A x.b.length c] 32) = W0 at *
  have y1 := (Ex.refl W0).alloc (.cells #[.int .i64 y.l, .int .i64 y.r, .slice B y.b.length d] 32)
  have d1 := VB.new W0 32 #[.int .i64 y.l, .int .i64 y.r, .slice B y.b.length d]
  have S1 := Lib.hid (show (W0.alloc (.cells #[.int .i64 y.l, .int .i64 y.r, .slice B y.b.length d] 32)).heap.size = w.heap.size + 1 + 1 by simp; exact S0.out)
  rw [S0.out] at d1
  generalize W0.alloc (.cells #[.int .i64 y.l, .int .i64 y.r, .slice B y.b.length d] 32) = W1 at *
  have y2 := (Ex.refl W1).alloc (.cells #[.int .i64 0, .int .i64 0, .slice none 0 0] 32)
  have d2 := VB.new W1 32 #[.int .i64 0, .int .i64 0, .slice none 0 0]
  rw [S1.out] at d2
  have qa := (d0.ex y1).ex y2
  have qb := d1.ex y2
  generalize W1.alloc (.cells #[.int .i64 0, .int .i64 0, .slice none 0 0] 32) = W2 at *
  have xx := (y0.trans y1).trans y2
  clear y0 y1 y2 d0 d1 S0 S1

  refine (IsRatRelation_u p x (.slice A x.b.length c) W2 (hx0.ex xx) (ht.ex xx)).mono ?_
  rintro e w3 ⟨rfl, x3⟩
  cases hb : rrB p x with
  | false =>
    have HN := Lib.hid (cmpU_no (p := p) (x := x) (y := y) (fun h => by have := h.1; rw [hb] at this; cases this))
    clear hb
    have dz := d2.ex x3
    have xz := xx.trans x3
    obtain ⟨dd, zz⟩ := dz.st3 (.int .i64 0) (.int .i64 0) (.slice none 0 0)
    have u0 := dz.cell 0 (v := .int .i64 0) rfl
    have u1 := dz.cell 1 (v := .int .i64 0) rfl
    have u2 := dz.cell 2 (v := .slice none 0 0) rfl
    have k0 := dz.frozen 0
    have k1 := dz.frozen 1
    have k2 := dz.frozen 2
    have C0 := dd.cell 0 (v := .int .i64 0) rfl
    have C1 := dd.cell 1 (v := .int .i64 0) rfl
    have C2 := dd.cell 2 (v := .slice none 0 0) rfl
    have eF := xz.ex1 zz (by omega)
    go_wp2_with fail
    refine bodyPost_ret (v := .tuple #[.agg #[.int .i64 0, .int .i64 0, .slice none 0 0], .bool false]) (by simp [results, Tryz.results29, go_sem, C0, C1, C2]) rfl ?_
    rw [HN.out]
    exact ⟨_, rfl, ⟨w.heap.size, w.heap.size, off_nil _ _ _, Nat.le_refl _, eF.size⟩, eF⟩
  | true =>
    have Hbx := Lib.hid hb
    have qb3 := qb.ex x3
    have p0 := qb3.cell 0 (v := .int .i64 y.l) rfl
    have p1 := qb3.cell 1 (v := .int .i64 y.r) rfl
    have p2 := qb3.cell 2 (v := .slice B y.b.length d) rfl
    clear hb
    go_wp2_with fail
    clear p0 p1 p2
    refine (IsRatRelation_u p y (.slice B y.b.length d) w3 (hy0.ex (xx.trans x3)) (ht.ex (xx.trans x3))).mono ?_
    rintro e w4 ⟨rfl, x4⟩
    have X4 := (xx.trans x3).trans x4
    have D4 := (d2.ex x3).ex x4
    have qa4 := (qa.ex x3).ex x4
    have qb4 := qb3.ex x4
    cases hb : rrB p y with
    | false =>
      have HN := Lib.hid (cmpU_no (p := p) (x := x) (y := y) (fun h => by have := h.2.1; rw [hb] at this; cases this))
      clear hb
      have dz := D4
      have xz := X4
      obtain ⟨dd, zz⟩ := dz.st3 (.int .i64 0) (.int .i64 0) (.slice none 0 0)
      have u0 := dz.cell 0 (v := .int .i64 0) rfl
      have u1 := dz.cell 1 (v := .int .i64 0) rfl
      have u2 := dz.cell 2 (v := .slice none 0 0) rfl
      have k0 := dz.frozen 0
      have k1 := dz.frozen 1
      have k2 := dz.frozen 2
      have C0 := dd.cell 0 (v := .int .i64 0) rfl
      have C1 := dd.cell 1 (v := .int .i64 0) rfl
      have C2 := dd.cell 2 (v := .slice none 0 0) rfl
      have eF := xz.ex1 zz (by omega)
      go_wp2_with fail
      refine bodyPost_ret (v := .tuple #[.agg #[.int .i64 0, .int .i64 0, .slice none 0 0], .bool false]) (by simp [results, Tryz.results29, go_sem, C0, C1, C2]) rfl ?_
      rw [HN.out]
      exact ⟨_, rfl, ⟨w.heap.size, w.heap.size, off_nil _ _ _, Nat.le_refl _, eF.size⟩, eF⟩
    | true =>
      have Hby := Lib.hid hb
      have Ha0 := rrB_pos Hbx.out
      have Hb0 := rrB_pos Hby.out
      obtain ⟨al, ar, hal, har, halr, hga, hwa, _, hla, hF⟩ := rrB_has Hbx.out
      obtain ⟨bl, br, hbl, hbr, hblr, hgb, hwb, _, hlb, _⟩ := rrB_has Hby.out
      have p0 := qa4.cell 0 (v := .int .i64 x.l) rfl
      have p1 := qa4.cell 1 (v := .int .i64 x.r) rfl
      have p2 := qa4.cell 2 (v := .slice A x.b.length c) rfl
      have p3 := qb4.cell 0 (v := .int .i64 y.l) rfl
      have p4 := qb4.cell 1 (v := .int .i64 y.r) rfl
      have p5 := qb4.cell 2 (v := .slice B y.b.length d) rfl
      rw [hal] at p0
      rw [har] at p1
      rw [hbl] at p3
      rw [hbr] at p4
      clear hb
      by_cases heq : ar = bl
      case neg =>
        have HN := Lib.hid (cmpU_no (p := p) (x := x) (y := y) (fun h => heq (by have := h.2.2.1; omega)))
        have hnb : ((ar : Int) != (bl : Int)) = true := by simp; omega
        clear hga hwa hgb hwb hF Ha0 Hb0 heq
        have dz := D4
        have xz := X4
        obtain ⟨dd, zz⟩ := dz.st3 (.int .i64 0) (.int .i64 0) (.slice none 0 0)
        have u0 := dz.cell 0 (v := .int .i64 0) rfl
        have u1 := dz.cell 1 (v := .int .i64 0) rfl
        have u2 := dz.cell 2 (v := .slice none 0 0) rfl
        have k0 := dz.frozen 0
        have k1 := dz.frozen 1
        have k2 := dz.frozen 2
        have C0 := dd.cell 0 (v := .int .i64 0) rfl
        have C1 := dd.cell 1 (v := .int .i64 0) rfl
        have C2 := dd.cell 2 (v := .slice none 0 0) rfl
        have eF := xz.ex1 zz (by omega)
        go_wp2_with fail
        refine bodyPost_ret (v := .tuple #[.agg #[.int .i64 0, .int .i64 0, .slice none 0 0], .bool false]) (by simp [results, Tryz.results29, go_sem, C0, C1, C2]) rfl ?_
        rw [HN.out]
        exact ⟨_, rfl, ⟨w.heap.size, w.heap.size, off_nil _ _ _, Nat.le_refl _, eF.size⟩, eF⟩
      subst heq
      have hnb : ((ar : Int) != (ar : Int)) = false := by simp
      have cF : ∀ W, Calls Tryz.prog 52 #[.int .i64 (al : Int), .int .i64 (br : Int)] W fun e w' => e = .returned (.bool (decide (al + br ≤ 12))) ∧ W = w' := fun W => by have := ratFits_c (al : Int) (br : Int) W; rwa [fit_sum] at this
      by_cases h12 : al + br ≤ 12
      case neg =>
        have HN := Lib.hid (cmpU_no (p := p) (x := x) (y := y) (fun h => h12 (by have := h.2.2.2; omega)))
        rw [decide_eq_false h12] at cF
        clear hga hwa hgb hwb hF Ha0 Hb0 h12
        go_wp2_with fail
        refine (cF _).mono ?_
        rintro e w5 ⟨rfl, rfl⟩
        clear p0 p1 p2 p3 p4 p5
        have dz := D4
        have xz := X4
        obtain ⟨dd, zz⟩ := dz.st3 (.int .i64 0) (.int .i64 0) (.slice none 0 0)
        have u0 := dz.cell 0 (v := .int .i64 0) rfl
        have u1 := dz.cell 1 (v := .int .i64 0) rfl
        have u2 := dz.cell 2 (v := .slice none 0 0) rfl
        have k0 := dz.frozen 0
        have k1 := dz.frozen 1
        have k2 := dz.frozen 2
        have C0 := dd.cell 0 (v := .int .i64 0) rfl
        have C1 := dd.cell 1 (v := .int .i64 0) rfl
        have C2 := dd.cell 2 (v := .slice none 0 0) rfl
        have eF := xz.ex1 zz (by omega)
        go_wp2_with fail
        refine bodyPost_ret (v := .tuple #[.agg #[.int .i64 0, .int .i64 0, .slice none 0 0], .bool false]) (by simp [results, Tryz.results29, go_sem, C0, C1, C2]) rfl ?_
        rw [HN.out]
        exact ⟨_, rfl, ⟨w.heap.size, w.heap.size, off_nil _ _ _, Nat.le_refl _, eF.size⟩, eF⟩
      rw [decide_eq_true h12] at cF
      have cC := ratComposed_c p al ar br x.b y.b A B c d w4 (hc.ex X4) (hd.ex X4) hla hlb halr hblr h12 hwa hwb hF hga hgb
      have HG := Lib.hid (show cmpU p x y = ifU p ⟨(al : Int), (br : Int), (frOps p).cmpI al ar br x.b y.b⟩ by
        rw [cmpU_yes ⟨Hbx.out, Hby.out, by omega, by omega⟩, hal, har, hbr, ← fr_cmp hF hwa hwb (gdm_fv hga) (gdm_fv hgb)]; rfl)
      have HV := Lib.hid (cmpI_vr (la := al) (mid := ar) (rb := br) hF hga hgb hwa hwb hla hlb (by omega))
      clear hga hwa hgb hwb hF Ha0 Hb0 h12
      obtain ⟨RR, hRR⟩ : ∃ RR, (frOps p).cmpI al ar br x.b y.b = RR := ⟨_, rfl⟩
      rw [hRR] at cC HG HV
      clear hRR
      go_wp2_with fail
      refine (cF _).mono ?_
      rintro e w5 ⟨rfl, rfl⟩
      clear cF
      go_wp2_with fail
      refine cC.mono ?_
      rintro e w5 ⟨y5, rfl, fx, x5⟩
      obtain ⟨A5, c5, rfl, r5⟩ := fx.rd
      clear cC p0 p1 p2 p3 p4 p5
      have cV := validRat_c p ⟨al, br, RR⟩ A5 c5 w5 r5 (ht.ex (X4.trans x5))
      dsimp only at cV
      have hlt := d2.lt
      have hz3 := (x3.trans x4).size
      have hzw := xx.size
      cases hv : vrB p al br RR with
      | false =>
        rw [hv] at cV
        have HN := Lib.hid (show cmpU p x y = (⟨0, 0, []⟩, false) by rw [HG.out]; exact ifU_no (HV.out.trans hv))
        rw [show pickV false (Value.agg #[.int .i64 (al : Int), .int .i64 (br : Int), .slice A5 RR.length c5]) (Value.agg #[.int .i64 0, .int .i64 0, .slice none 0 0]) = Value.agg #[.int .i64 0, .int .i64 0, .slice none 0 0] from rfl] at cV
        clear hv
        go_wp2_with fail
        refine cV.mono ?_
        rintro e w6 ⟨rfl, x6⟩
        clear cV
        have dz := (D4.ex x5).ex x6
        have xz := (X4.trans x5).trans x6
        obtain ⟨dd, zz⟩ := dz.st3 (.int .i64 0) (.int .i64 0) (.slice none 0 0)
        have u0 := dz.cell 0 (v := .int .i64 0) rfl
        have u1 := dz.cell 1 (v := .int .i64 0) rfl
        have u2 := dz.cell 2 (v := .slice none 0 0) rfl
        have k0 := dz.frozen 0
        have k1 := dz.frozen 1
        have k2 := dz.frozen 2
        have C0 := dd.cell 0 (v := .int .i64 0) rfl
        have C1 := dd.cell 1 (v := .int .i64 0) rfl
        have C2 := dd.cell 2 (v := .slice none 0 0) rfl
        have eF := xz.ex1 zz (by omega)
        go_wp2_with fail
        refine bodyPost_ret (v := .tuple #[.agg #[.int .i64 0, .int .i64 0, .slice none 0 0], .bool false]) (by simp [results, Tryz.results29, go_sem, C0, C1, C2]) rfl ?_
        rw [HN.out]
        exact ⟨_, rfl, ⟨w.heap.size, w.heap.size, off_nil _ _ _, Nat.le_refl _, eF.size⟩, eF⟩
      | true =>
        rw [hv] at cV
        have hrr := HV.out.trans hv
        have HE := Lib.hid (show cmpU p x y = (⟨al, br, RR⟩, true) by rw [HG.out]; exact ifU_yes hrr)
        have htt : totFF RR ≤ 1125899906842624 := by have h1 := rrB_tot hrr; dsimp only at h1; omega
        rw [show pickV true (Value.agg #[.int .i64 (al : Int), .int .i64 (br : Int), .slice A5 RR.length c5]) (Value.agg #[.int .i64 0, .int .i64 0, .slice none 0 0]) = Value.agg #[.int .i64 (al : Int), .int .i64 (br : Int), .slice A5 RR.length c5] from rfl] at cV
        clear hv hrr
        go_wp2_with fail
        refine cV.mono ?_
        rintro e w6 ⟨rfl, x6⟩
        clear cV
        have dz := (D4.ex x5).ex x6
        have xz := (X4.trans x5).trans x6
        obtain ⟨dd, zz⟩ := dz.st3 (.int .i64 al) (.int .i64 br) (.slice A5 RR.length c5)
        have u0 := dz.cell 0 (v := .int .i64 0) rfl
        have u1 := dz.cell 1 (v := .int .i64 0) rfl
        have u2 := dz.cell 2 (v := .slice none 0 0) rfl
        have k0 := dz.frozen 0
        have k1 := dz.frozen 1
        have k2 := dz.frozen 2
        have C0 := dd.cell 0 (v := .int .i64 al) rfl
        have C1 := dd.cell 1 (v := .int .i64 br) rfl
        have C2 := dd.cell 2 (v := .slice A5 RR.length c5) rfl
        have eF := xz.ex1 zz (by omega)
        have fx2 := (fx.ex x6).iv (ExI.of_ex1 zz) (by omega)
        have hz6 := x6.size
        have fx3 := (fx2.more (a' := w.heap.size) (b' := w6.heap.size) (by omega) hz6).off htt
        go_wp2_with fail
        refine bodyPost_ret (v := .tuple #[.agg #[.int .i64 al, .int .i64 br, .slice A5 RR.length c5], .bool true]) (by simp [results, Tryz.results29, go_sem, C0, C1, C2]) rfl ?_
        rw [HE.out]
        exact ⟨_, rfl, ⟨_, _, fx3, Nat.le_refl _, Nat.le_of_eq (by simp)⟩, eF⟩
end Go.Proofs.YtpeogfapnofeoaaGreatDoor
