/- SeqCircuits: the program's side. -/
import Derived.Test.YtkpfmnconnopnaaDoorCirD
namespace Go.Proofs.YtkpfmnconnopnaaDoor
set_option maxRecDepth 100000
open Go Go.RowKit
theorem circB_pos {p : Int} {x : Circ} (h : circB p x = true) : x.gs ≠ [] := by
  intro e
  simp [circB, e, inB] at h
theorem ALG.og1 {w : World} {B : Nat} {v : Value} {gs : List Gt} (h : ALG w B v gs) (hl : gs.length ≤ 1048576) (hB : B ≤ w.heap.size) : ∃ a b, OG w a b v gs ∧ B ≤ a ∧ b ≤ w.heap.size ∧ (b = B ∨ ∃ k, v.ownBlock = some k ∧ a = k ∧ b = k + 1) := by
  have hog := (h.og hl).2
  obtain ⟨_, h2⟩ := h
  rcases h2 with ⟨hv, hn⟩ | ⟨g, cap, cur, hv, hBg, hh, hnc, _, _, htk⟩
  · have : gs = [] := List.eq_nil_of_length_eq_zero hn
    subst this
    exact ⟨B, B, ⟨⟨none, 0, hv, OwS.nil _ _ _ _ _ _⟩, hog⟩, Nat.le_refl _, hB, .inl rfl⟩
  · refine ⟨g, g + 1, ⟨⟨_, cap, hv, by omega, fun _ => g + 1, fun _ => g, fun j x hj => ⟨g, 0, gtC x, cur, rfl, Nat.le_refl _, Nat.lt_succ_self _, hh, fun i u hu => ?_, rfl, Nat.le_succ _, Nat.le_succ _, .inl (Nat.lt_succ_self _)⟩, fun i j _ _ _ => .inl (Nat.le_succ _)⟩, hog⟩, hBg, heap_lt_of hh, .inr ⟨g, by rw [hv]; rfl, rfl, rfl⟩⟩
    have e := gflat_at hj hu
    rw [← htk, List.getElem?_take] at e
    split at e
    · rw [Nat.zero_add]
      show cur[j * 4 + i]? = some u
      simpa using e
    · cases e
set_option maxHeartbeats 1000000 in
theorem validCircuit_c (p : Int) (x : Circ) (v0 v1 : Value) (w : World) (h : RCirc w v0 v1 x) (ht : Tb w) :
    Calls Tryd.prog 68 #[.int .i64 p, .agg #[.int .i64 x.n, v0, v1]] w fun e w' => (circB p x = true → e = .returned (.tuple #[.agg #[.int .i64 x.n, v0, v1], .bool true])) ∧ (circB p x = false → e = .returned (.tuple #[.agg #[.int .i64 0, .slice none 0 0, .slice none 0 0], .bool false])) ∧ Ex w w' := by
  obtain ⟨⟨⟨A, c, rfl, hg⟩, _⟩, ⟨B', d, rfl, ho⟩⟩ := h
  have x0 := (Ex.refl w).alloc (.cells #[.int .i64 x.n, .slice A x.gs.length c, .slice B' x.outs.length d] 44)
  have d0 := VB.new w 44 #[.int .i64 x.n, .slice A x.gs.length c, .slice B' x.outs.length d]
  have S0 := Lib.hid (show (w.alloc (.cells #[.int .i64 x.n, .slice A x.gs.length c, .slice B' x.outs.length d] 44)).heap.size = w.heap.size + 1 by simp)
  go_enter Tryd.func68, Tryd.ntmps68
  go_wp2_with fail
  generalize w.alloc (.cells #[.int .i64 x.n, .slice A x.gs.length c, .slice B' x.outs.length d] 44) = W0 at *
  have x1 := (Ex.refl W0).alloc (.cells #[.int .i64 0, .slice none 0 0, .slice none 0 0] 44)
  have d1 := VB.new W0 44 #[.int .i64 0, .slice none 0 0, .slice none 0 0]
  rw [S0.out] at d1
  generalize W0.alloc (.cells #[.int .i64 0, .slice none 0 0, .slice none 0 0] 44) = W1 at *
  have d0 := d0.ex x1
  have xx := x0.trans x1
  refine (isCircuit_c p x.n A c x.gs B' d x.outs W1 (hg.ex xx) (ho.ex xx) (ht.ex xx)).mono ?_
  rintro e w2 ⟨rfl, x2⟩
  have d0 := d0.ex x2
  have d1 := d1.ex x2
  have q0 := d0.cell 0 (v := .int .i64 x.n) rfl
  have q1 := d0.cell 1 (v := .slice A x.gs.length c) rfl
  have q2 := d0.cell 2 (v := .slice B' x.outs.length d) rfl
  have r0 := d1.cell 0 (v := .int .i64 0) rfl
  have r1 := d1.cell 1 (v := .slice none 0 0) rfl
  have r2 := d1.cell 2 (v := .slice none 0 0) rfl
  have f0 := d1.frozen 0
  have f1 := d1.frozen 1
  have f2 := d1.frozen 2
  cases hb : circB p x with
  | false =>
    obtain ⟨dd, zz⟩ := d1.st3 (.int .i64 0) (.slice none 0 0) (.slice none 0 0)
    have C0 := dd.cell 0 (v := .int .i64 0) rfl
    have C1 := dd.cell 1 (v := .slice none 0 0) rfl
    have C2 := dd.cell 2 (v := .slice none 0 0) rfl
    have eF := (xx.trans x2).ex1 zz (by omega)
    go_wp2_with fail
    refine bodyPost_ret (v := .tuple #[.agg #[.int .i64 0, .slice none 0 0, .slice none 0 0], .bool false]) (by simp [results, Tryd.results68, go_sem, C0, C1, C2]) rfl ?_
    exact ⟨fun h => (by rw [hb] at h; cases h), fun _ => rfl, eF⟩
  | true =>
    obtain ⟨dd, zz⟩ := d1.st3 (.int .i64 x.n) (.slice A x.gs.length c) (.slice B' x.outs.length d)
    have C0 := dd.cell 0 (v := .int .i64 x.n) rfl
    have C1 := dd.cell 1 (v := .slice A x.gs.length c) rfl
    have C2 := dd.cell 2 (v := .slice B' x.outs.length d) rfl
    have eF := (xx.trans x2).ex1 zz (by omega)
    go_wp2_with fail
    refine bodyPost_ret (v := .tuple #[.agg #[.int .i64 x.n, .slice A x.gs.length c, .slice B' x.outs.length d], .bool true]) (by simp [results, Tryd.results68, go_sem, C0, C1, C2]) rfl ?_
    exact ⟨fun _ => rfl, fun h => (by rw [hb] at h; cases h), eF⟩
set_option maxHeartbeats 12000000 in
theorem SeqCircuits_u (p : Int) (a : Circ) (va0 va1 : Value) (b : Circ) (vb0 vb1 : Value) (w : World) (ha : RCirc w va0 va1 a) (hb : RCirc w vb0 vb1 b) (ht : Tb w) :
    Calls Tryd.prog 33 #[.int .i64 p, .agg #[.int .i64 a.n, va0, va1], .agg #[.int .i64 b.n, vb0, vb1]] w fun e w' => CB w (seqU p a b) e w' := by
  obtain ⟨⟨⟨A, ac, rfl, h1⟩, _⟩, ⟨P, pc, rfl, h2⟩⟩ := ha
  obtain ⟨⟨⟨B, bc, rfl, h3⟩, _⟩, ⟨R, rc, rfl, h4⟩⟩ := hb
  have hl2 := h2.len
  have y0 := (Ex.refl w).alloc (.cells #[.int .i64 a.n, .slice A a.gs.length ac, .slice P a.outs.length pc] 44)
  have d0 := VB.new w 44 #[.int .i64 a.n, .slice A a.gs.length ac, .slice P a.outs.length pc]
  have S0 := Lib.hid (show (w.alloc (.cells #[.int .i64 a.n, .slice A a.gs.length ac, .slice P a.outs.length pc] 44)).heap.size = w.heap.size + 1 by simp)
  go_enter Tryd.func33, Tryd.ntmps33
  go_wp2_with fail
  generalize w.alloc (.cells #[.int .i64 a.n, .slice A a.gs.length ac, .slice P a.outs.length pc] 44) = W0 at *
  have y1 := (Ex.refl W0).alloc (.cells #[.int .i64 b.n, .slice B b.gs.length bc, .slice R b.outs.length rc] 44)
  have d1 := VB.new W0 44 #[.int .i64 b.n, .slice B b.gs.length bc, .slice R b.outs.length rc]
  rw [S0.out] at d1
  have S1 := Lib.hid (show (W0.alloc (.cells #[.int .i64 b.n, .slice B b.gs.length bc, .slice R b.outs.length rc] 44)).heap.size = w.heap.size + 1 + 1 by simp; exact S0.out)
  generalize W0.alloc (.cells #[.int .i64 b.n, .slice B b.gs.length bc, .slice R b.outs.length rc] 44) = W1 at *
  have y2 := (Ex.refl W1).alloc (.cells #[.int .i64 0, .slice none 0 0, .slice none 0 0] 44)
  have d2 := VB.new W1 44 #[.int .i64 0, .slice none 0 0, .slice none 0 0]
  rw [S1.out] at d2
  generalize W1.alloc (.cells #[.int .i64 0, .slice none 0 0, .slice none 0 0] 44) = W2 at *
  have xx := (y0.trans y1).trans y2
  have d0 := (d0.ex y1).ex y2
  have d1 := d1.ex y2
  clear y0 y1 y2 S0 S1
  refine (isCircuit_c p a.n A ac a.gs P pc a.outs W2 (h1.ex xx) (h2.ex xx) (ht.ex xx)).mono ?_
  rintro e w3 ⟨rfl, x3⟩
  have d0 := d0.ex x3
  have d1 := d1.ex x3
  have d2 := d2.ex x3
  have xx := xx.trans x3
  clear x3
  have p1 := d1.cell 0 (v := .int .i64 b.n) rfl
  have p2 := d1.cell 1 (v := .slice B b.gs.length bc) rfl
  have p3 := d1.cell 2 (v := .slice R b.outs.length rc) rfl
  cases ca : circB p a with
  | false =>
    have H := Lib.hid (seqU_no (p := p) (a := a) (b := b) (fun h => by rw [ca] at h; cases h.1))
    obtain ⟨dd, zz⟩ := d2.st3 (.int .i64 0) (.slice none 0 0) (.slice none 0 0)
    have r0 := d2.cell 0 (v := .int .i64 0) rfl
    have r1 := d2.cell 1 (v := .slice none 0 0) rfl
    have r2 := d2.cell 2 (v := .slice none 0 0) rfl
    have f0 := d2.frozen 0
    have f1 := d2.frozen 1
    have f2 := d2.frozen 2
    have C0 := dd.cell 0 (v := .int .i64 0) rfl
    have C1 := dd.cell 1 (v := .slice none 0 0) rfl
    have C2 := dd.cell 2 (v := .slice none 0 0) rfl
    have eF := xx.ex1 zz (by omega)
    go_wp2_with fail
    refine bodyPost_ret (v := .tuple #[.agg #[.int .i64 0, .slice none 0 0, .slice none 0 0], .bool false]) (by simp [results, Tryd.results33, go_sem, C0, C1, C2]) rfl ?_
    rw [CB, H.out]
    exact ⟨_, _, rfl, OCirc.zero _ _ _ eF.size, eF⟩
  | true =>
    go_wp2_with fail
    refine (isCircuit_c p b.n B bc b.gs R rc b.outs w3 (h3.ex xx) (h4.ex xx) (ht.ex xx)).mono ?_
    rintro e w4 ⟨rfl, x4⟩
    have d0 := d0.ex x4
    have d1 := d1.ex x4
    have d2 := d2.ex x4
    have xx := xx.trans x4
    clear x4 p1 p2 p3
    have p1 := d1.cell 0 (v := .int .i64 b.n) rfl
    have p2 := d1.cell 1 (v := .slice B b.gs.length bc) rfl
    have p3 := d1.cell 2 (v := .slice R b.outs.length rc) rfl
    have p4 := d0.cell 0 (v := .int .i64 a.n) rfl
    have p5 := d0.cell 1 (v := .slice A a.gs.length ac) rfl
    have p6 := d0.cell 2 (v := .slice P a.outs.length pc) rfl
    cases cb : circB p b with
    | false =>
      have H := Lib.hid (seqU_no (p := p) (a := a) (b := b) (fun h => by rw [cb] at h; cases h.2.1))
      obtain ⟨dd, zz⟩ := d2.st3 (.int .i64 0) (.slice none 0 0) (.slice none 0 0)
      have r0 := d2.cell 0 (v := .int .i64 0) rfl
      have r1 := d2.cell 1 (v := .slice none 0 0) rfl
      have r2 := d2.cell 2 (v := .slice none 0 0) rfl
      have f0 := d2.frozen 0
      have f1 := d2.frozen 1
      have f2 := d2.frozen 2
      have C0 := dd.cell 0 (v := .int .i64 0) rfl
      have C1 := dd.cell 1 (v := .slice none 0 0) rfl
      have C2 := dd.cell 2 (v := .slice none 0 0) rfl
      have eF := xx.ex1 zz (by omega)
      go_wp2_with fail
      refine bodyPost_ret (v := .tuple #[.agg #[.int .i64 0, .slice none 0 0, .slice none 0 0], .bool false]) (by simp [results, Tryd.results33, go_sem, C0, C1, C2]) rfl ?_
      rw [CB, H.out]
      exact ⟨_, _, rfl, OCirc.zero _ _ _ eF.size, eF⟩
    | true =>
      by_cases hn : (a.outs.length : Int) = b.n
      · obtain ⟨la, _, _, _⟩ := circB_use ca
        obtain ⟨lb, hin, hop, hou⟩ := circB_use cb
        have Hn := Lib.hid hn
        have hb' : ((a.outs.length : Int) != b.n) = false := by simp [hn]
        clear hn
        have hza := fun W => zeros_c b.gs.length (by omega) W
        have p5 := d0.cell 1 (v := .slice A a.gs.length ac) rfl
        go_wp2_with fail
        have HS : ∀ W, Ex w4 W → (Ex w4 W ∧ W.cell? ⟨w.heap.size, 1, none⟩ = some (.slice A a.gs.length ac) ∧ W.cell? ⟨w.heap.size + 1, 1, none⟩ = some (.slice B b.gs.length bc)) := fun W h => ⟨h, cell_ex h p5, cell_ex h p2⟩
        go_cut [8, 9] from 34 (fun s8 s9 W => ∃ (T g : Nat), s8 = .pointer (some ⟨T, 0, none⟩) ∧ s9 = .int .i64 (a.gs.length : Int) ∧ VB W T 37 #[.slice (some ⟨g, 0, none⟩) b.gs.length b.gs.length] ∧ Own W g (List.replicate b.gs.length 0) ∧ T ≠ g ∧ w4.heap.size ≤ T ∧ w4.heap.size ≤ g ∧ Ex w4 W)
        case first =>
          have eA := (Ex.refl w4).drew
          have eB := ((Ex.refl w4).alloc (.cells #[.slice none 0 0] 37)).drew
          have vB := VB.new w4 37 #[.slice none 0 0]
          have s1 : (w4.alloc (.cells #[.slice none 0 0] 37)).heap.size = w4.heap.size + 1 := by simp
          go_region_held3 (fun W => Ex w4 W ∧ W.cell? ⟨w.heap.size, 1, none⟩ = some (.slice A a.gs.length ac) ∧ W.cell? ⟨w.heap.size + 1, 1, none⟩ = some (.slice B b.gs.length bc)) (first
            | (exact HS _ (x5.setCell (p := ⟨w4.heap.size, 0, none⟩) (Nat.le_refl _) _)) | (exact HS _ (x5.alloc _)) | (exact HS _ x5) | (exact HS _ eB) | (exact HS _ ((Ex.refl w4).alloc _)) | (exact HS _ eA)) (first
            | (go_at_call 51
               have hb := (‹Ex w4 _ ∧ _›).1
               refine (hza _).mono ?_
               rintro e w5 ⟨g5, rfl, hg5, hb5, x5'⟩
               have x5 := hb.trans x5'
               have hzb := x5'.size
               try have vZ := VB.ex (w := (w4.alloc (.cells #[.slice none 0 0] 37)).drew) vB x5'
               try have cZ := vZ.cell 0 (v := .slice none 0 0) rfl
               try have fZ := vZ.frozen 0
               clear hb))
          all_goals
            go_wp2_with fail
            go_meet
            first
            | exact ⟨_, _, rfl, rfl, VB.new _ _ _, hb5.own.ex ((Ex.refl _).alloc _), fun e => by (have := hb5.lt; omega), x5.size, hg5, x5.alloc _⟩
            | (have dd := vZ.set_ 0 (.slice (some ⟨g5, 0, none⟩) b.gs.length b.gs.length)
               have E1 : Ex1 w4.heap.size w5 (w5.setCell ⟨w4.heap.size, 0, none⟩ (.slice (some ⟨g5, 0, none⟩) b.gs.length b.gs.length)) := (Ex1.refl _ _).setCell rfl _
               have hg6 : w4.heap.size + 1 ≤ g5 := by rw [← s1]; exact hg5
               exact ⟨_, _, rfl, rfl, dd, hb5.own.ex1 E1 (by omega), by omega, Nat.le_refl _, by omega, x5.setCell (p := ⟨w4.heap.size, 0, none⟩) (Nat.le_refl _) _⟩)
        case rest =>
          obtain ⟨W5, rfl⟩ : ∃ q, q = wc := ⟨_, rfl⟩
          obtain ⟨T, g, rfl, rfl, vT, og, hTg, hT4, hg4, x5⟩ := hcut
          have X5 := xx.trans x5
          have D0 := d0.ex x5
          have D1 := d1.ex x5
          have D2 := d2.ex x5
          have hz5 := x5.size
          have lD := d2.lt
          clear HS x5 p1 p2 p3 p4 p5 p6
          have p2 := D1.cell 1 (v := .slice B b.gs.length bc) rfl
          go_wp2_with fail
          clear p2
          have Hin := Lib.hid hin
          have Hop := Lib.hid hop
          have Hou := Lib.hid hou
          have hTl := vT.lt
          have hgl := og.lt
          clear hin hop hou
          go_loopw [9, 44] (fun z i wr => ∃ (k cn : Nat), k ≤ b.gs.length ∧ i = .int .i64 k ∧ z = .int .i64 ((a.gs.length : Int) + (cn : Int)) ∧ Hid (nonIn (b.gs.take k) = cn) ∧ Own wr g (toL a.outs a.gs.length (b.gs.take k) ++ List.replicate (b.gs.length - k) 0) ∧
              VB wr w.heap.size 44 #[.int .i64 a.n, .slice A a.gs.length ac, .slice P a.outs.length pc] ∧ VB wr (w.heap.size + 1) 44 #[.int .i64 b.n, .slice B b.gs.length bc, .slice R b.outs.length rc] ∧ VB wr (w.heap.size + 1 + 1) 44 #[.int .i64 0, .slice none 0 0, .slice none 0 0] ∧
              VB wr T 37 #[.slice (some ⟨g, 0, none⟩) b.gs.length b.gs.length] ∧ Ex w wr ∧ T < wr.heap.size ∧ g < wr.heap.size) (fun _ i _ => b.gs.length - (intOf i).toNat)
          case atStart => exact ⟨0, 0, Nat.zero_le _, rfl, by simp, Lib.hid rfl, by simpa [toL] using og, D0, D1, D2, vT, X5, hTl, hgl⟩
          case round =>
            obtain ⟨k, cn, hk, rfl, rfl, Hcn, ho, hD0, hD1, hD2, hvT, he, hT7, hg7⟩ := hrel
            have hcl : cn ≤ b.gs.length := by
              have h1 := nonIn_le (b.gs.take k)
              rw [List.length_take, Hcn.out] at h1
              omega
            have htl : (toL a.outs a.gs.length (b.gs.take k)).length = k ∨ b.gs.length < k := by rw [toL_len, List.length_take]; omega
            by_cases hlt : k < b.gs.length
            · obtain ⟨g1, off, x, rfl, hx, c0, c1, c2, c3⟩ := (h3.ex he).gate hlt
              have hkl : (toL a.outs a.gs.length (b.gs.take k)).length = k := by omega
              have hsn := toL_snoc a.outs a.gs.length (b.gs.take k) x
              have Htk : b.gs.take (k + 1) = b.gs.take k ++ [x] := by rw [List.take_add_one, hx]; rfl
              rw [← Htk, Hcn.out] at hsn
              have hnn := nonIn_snoc (b.gs.take k) x
              rw [← Htk, Hcn.out] at hnn
              have hin0 := Hin.out x (List.mem_of_getElem? hx)
              have HFa := Lib.hid (fill_at (toL a.outs a.gs.length (b.gs.take k)) b.gs.length k hlt hkl)
              have HSf := Lib.hid (set_fill (toL a.outs a.gs.length (b.gs.take k)) b.gs.length k hlt hkl)
              clear Htk hkl htl hx
              obtain ⟨kd, ka, kb, vl⟩ := x
              dsimp only at c0 c1 c2 c3 hsn hnn hin0
              have y7 := (Ex.refl wr).alloc (.cells #[.int .i64 kd, .int .i64 ka, .int .i64 kb, .int .i64 vl] 84)
              have v7 := VB.new wr 84 #[.int .i64 kd, .int .i64 ka, .int .i64 kb, .int .i64 vl]
              by_cases hkd : kd = 1
              · subst hkd
                rw [if_pos rfl] at hsn hnn
                have hin := hin0 rfl
                obtain ⟨vn, rfl⟩ := Int.eq_ofNat_of_zero_le hin.1
                have hvl : (vn : Int) < a.outs.length := by have := hin.2; have := Hn.out; omega
                go_wp2_with fail
                generalize wr.alloc (.cells #[.int .i64 1, .int .i64 ka, .int .i64 kb, .int .i64 vn] 84) = W7 at *
                obtain ⟨g', off', y, rfl, hy, _, k1⟩ := (h2.ex (he.trans y7)).at_ (show vn < a.outs.length by omega)
                rw [Int.toNat_natCast, List.getD_eq_getElem?_getD, hy] at hsn
                have ho1 := ho.ex y7
                have qo := ho1.cell HFa.out
                have qf := ho1.frozen k
                have ho2 := ho1.set_ k y
                rw [HSf.out y] at ho2
                simp only [Option.getD_some] at hsn
                rw [← hsn] at ho2
                have HN := Lib.hid (show nonIn (b.gs.take (k + 1)) = cn by rw [hnn]; rfl)
                have hE := (Ex1.refl g W7).setCell (p := ⟨g, k, none⟩) rfl (.int .i64 y)
                have hzE := hE.size
                have hz7 := y7.size
                have t0 := (hvT.ex y7).cell 0 (v := .slice (some ⟨g, 0, none⟩) b.gs.length b.gs.length) rfl
                have t1 := (hD0.ex y7).cell 2 (v := .slice (some ⟨g', off', none⟩) a.outs.length pc) rfl
                have t2 := v7.cell 3 (v := .int .i64 vn) rfl
                clear hy hsn hnn hin0 hin
                have E8 := (Ex.refl (W7.setCell ⟨g, k, none⟩ (.int .i64 y))).drew
                have E9 := Ex.refl (W7.setCell ⟨g, k, none⟩ (.int .i64 y))
                have hz8 := E8.size
                go_region_with (fail)
                all_goals
                  go_wp2_with fail
                  go_roundw
                  case rel => first
                    | exact ⟨k + 1, cn, by omega, by go_num, rfl, HN, ho2.ex E8, ((hD0.ex y7).ex1 hE (by omega)).ex E8, ((hD1.ex y7).ex1 hE (by omega)).ex E8, ((hD2.ex y7).ex1 hE (by omega)).ex E8, ((hvT.ex y7).ex1 hE hTg).ex E8, ((he.trans y7).ex1 hE (by omega)).trans E8, by omega, by omega⟩
                    | exact ⟨k + 1, cn, by omega, by go_num, rfl, HN, ho2.ex E9, ((hD0.ex y7).ex1 hE (by omega)).ex E9, ((hD1.ex y7).ex1 hE (by omega)).ex E9, ((hD2.ex y7).ex1 hE (by omega)).ex E9, ((hvT.ex y7).ex1 hE hTg).ex E9, ((he.trans y7).ex1 hE (by omega)).trans E9, by omega, by omega⟩
                  case measure => simp [intOf]; omega
              · have hb1 : (kd == 1) = false := by simpa using hkd
                rw [if_neg hkd] at hsn hnn
                have ho2 := ho.set_ k ((a.gs.length : Int) + (cn : Int))
                rw [HSf.out _, ← hsn] at ho2
                have HN := Lib.hid hnn
                have hE := (Ex1.refl g wr).setCell (p := ⟨g, k, none⟩) rfl (.int .i64 ((a.gs.length : Int) + (cn : Int)))
                have y8 := (Ex.refl (wr.setCell ⟨g, k, none⟩ (.int .i64 ((a.gs.length : Int) + (cn : Int))))).alloc (.cells #[.int .i64 kd, .int .i64 ka, .int .i64 kb, .int .i64 vl] 84)
                have hzE := hE.size
                have hz8 := y8.size
                have ho1 := ho.ex y7
                have qo := ho1.cell HFa.out
                have qf := ho1.frozen k
                have t0 := (hvT.ex y7).cell 0 (v := .slice (some ⟨g, 0, none⟩) b.gs.length b.gs.length) rfl
                clear hsn hnn hin0
                go_wp2_with fail
                go_roundw
                case rel => exact ⟨k + 1, cn + 1, by omega, by go_num, by push_cast; rw [← Int.add_assoc], HN, ho2.ex y8, (hD0.ex1 hE (by omega)).ex y8, (hD1.ex1 hE (by omega)).ex y8, (hD2.ex1 hE (by omega)).ex y8, (hvT.ex1 hE hTg).ex y8, (he.ex1 hE (by omega)).trans y8, by omega, by omega⟩
                case measure => simp [intOf]; omega
            · obtain rfl : k = b.gs.length := by omega
              rw [List.take_length, Nat.sub_self, List.replicate_zero, List.append_nil] at ho
              have t0 := hvT.cell 0 (v := .slice (some ⟨g, 0, none⟩) b.gs.length b.gs.length) rfl
              go_wp2_with fail
              clear hcl htl Hcn t0 hza
              have htol : (toL a.outs a.gs.length b.gs).length = b.gs.length := toL_len _ _ _
              obtain ⟨to, hto⟩ : ∃ to, toL a.outs a.gs.length b.gs = to := ⟨_, rfl⟩
              have Hto := Lib.hid hto
              rw [hto] at ho htol
              clear hto
              obtain ⟨mo, hmo⟩ : ∃ mo, b.outs.map (fun k => to.getD k.toNat 0) = mo := ⟨_, rfl⟩
              have Hmo := Lib.hid hmo
              have Hc := fun W (x : Ex wr W) => cloneGates_c A ac a.gs W (h1.ex (he.trans x)) (by omega) (circB_pos ca)
              have Hm : ∀ W, Ex wr W → Calls Tryd.prog 65 #[.slice R b.outs.length rc, .slice (some ⟨g, 0, none⟩) b.gs.length b.gs.length] W fun e w' => LIo W mo e w' := fun W x => by
                have := mapped_c R rc b.outs (some ⟨g, 0, none⟩) b.gs.length to W (h4.ex (he.trans x)) ((ho.ex x).rd (by omega)) (by rw [htol]; exact Hou.out)
                rw [hmo, htol] at this
                exact this
              clear hmo
              have q0 := hD0.cell 0 (v := .int .i64 a.n) rfl
              have q1 := hD0.cell 1 (v := .slice A a.gs.length ac) rfl
              have q2 := hD1.cell 2 (v := .slice R b.outs.length rc) rfl
              have q3 := hvT.cell 0 (v := .slice (some ⟨g, 0, none⟩) b.gs.length b.gs.length) rfl
              have HS : ∀ W, Ex wr W → (Ex wr W ∧ W.cell? ⟨w.heap.size, 0, none⟩ = some (.int .i64 a.n) ∧ W.cell? ⟨w.heap.size, 1, none⟩ = some (.slice A a.gs.length ac) ∧ W.cell? ⟨w.heap.size + 1, 2, none⟩ = some (.slice R b.outs.length rc) ∧ W.cell? ⟨T, 0, none⟩ = some (.slice (some ⟨g, 0, none⟩) b.gs.length b.gs.length)) := fun W h => ⟨h, cell_ex h q0, cell_ex h q1, cell_ex h q2, cell_ex h q3⟩
              go_cut [12] from 68 (fun s12 W => ∃ (O : Nat) (Y : Option Addr) (N C : Nat) (Z : Option Addr) (zc : Nat), s12 = .pointer (some ⟨O, 0, none⟩) ∧ VB W O 44 #[.int .i64 a.n, .slice Y N C, .slice Z mo.length zc] ∧ ALG W wr.heap.size (.slice Y N C) a.gs ∧
                (∃ lo hi, OI W lo hi (.slice Z mo.length zc) mo ∧ wr.heap.size ≤ lo ∧ hi ≤ W.heap.size ∧ (O < lo ∨ hi ≤ O) ∧ ∀ k, (Value.slice Y N C).ownBlock = some k → k < lo) ∧ (Value.slice Y N C).ownBlock ≠ some O ∧ wr.heap.size ≤ O ∧ Ex wr W)
              case first =>
                have eA := (Ex.refl wr).drew
                have eB := ((Ex.refl wr).alloc (.cells #[.int .i64 0, .slice none 0 0, .slice none 0 0] 44)).drew
                have vB := VB.new wr 44 #[.int .i64 0, .slice none 0 0, .slice none 0 0]
                have s1 : (wr.alloc (.cells #[.int .i64 0, .slice none 0 0, .slice none 0 0] 44)).heap.size = wr.heap.size + 1 := by simp
                go_region_held3 (fun W => Ex wr W ∧ W.cell? ⟨w.heap.size, 0, none⟩ = some (.int .i64 a.n) ∧ W.cell? ⟨w.heap.size, 1, none⟩ = some (.slice A a.gs.length ac) ∧ W.cell? ⟨w.heap.size + 1, 2, none⟩ = some (.slice R b.outs.length rc) ∧ W.cell? ⟨T, 0, none⟩ = some (.slice (some ⟨g, 0, none⟩) b.gs.length b.gs.length)) (first
                  | (exact HS _ (ex_stores3 x7 (by omega))) | (exact HS _ (x7.alloc _)) | (exact HS _ x7) | (exact HS _ (x6.alloc _).drew) | (exact HS _ (x6.alloc _)) | (exact HS _ x6.drew) | (exact HS _ x6) | (exact HS _ eB) | (exact HS _ ((Ex.refl wr).alloc _)) | (exact HS _ eA) | (exact HS _ (Ex.refl wr))) (first
                  | (go_at_call 64
                     have hb := (‹Ex wr _ ∧ _›).1
                     refine (Hc _ hb).mono ?_
                     rintro e w6 ⟨v6, rfl, hg6, x6'⟩
                     have x6 := hb.trans x6'
                     obtain ⟨Y, N, C, rfl⟩ := (hg6.og (by omega)).rd.form
                     have hl6 := hg6.lt
                     have hz6 := x6'.size
                     have hzb := hb.size
                     have ha6 : ALG w6 wr.heap.size (.slice Y N C) a.gs := ⟨hg6.1, hg6.2.imp id (fun ⟨g, cap, cur, hv, hB, r⟩ => ⟨g, cap, cur, hv, by omega, r⟩)⟩
                     try have vC1 := VB.ex (w := (wr.alloc (.cells #[.int .i64 0, .slice none 0 0, .slice none 0 0] 44)).drew) vB x6'
                     clear hb)
                  | (go_at_call 65
                     have hb := (‹Ex wr _ ∧ _›).1
                     refine (Hm _ hb).mono ?_
                     rintro e w7 ⟨_, rfl, ⟨Z, zc, rfl, fz⟩, x7'⟩
                     have x7 := hb.trans x7'
                     have hz7 := x7'.size
                     try have vC := vC1.ex x7'
                     try have vC := VB.ex (VB.new w6 44 #[.int .i64 0, .slice none 0 0, .slice none 0 0]) x7'
                     try have vC := VB.ex (w := (w6.alloc (.cells #[.int .i64 0, .slice none 0 0, .slice none 0 0] 44)).drew) (VB.new w6 44 #[.int .i64 0, .slice none 0 0, .slice none 0 0]) x7'
                     try have c0 := vC.cell 0 (v := .int .i64 0) rfl
                     try have c1 := vC.cell 1 (v := .slice none 0 0) rfl
                     try have c2 := vC.cell 2 (v := .slice none 0 0) rfl
                     try have f0 := vC.frozen 0
                     try have f1 := vC.frozen 1
                     try have f2 := vC.frozen 2
                     clear hb))
                all_goals
                  go_wp2_with fail
                  go_meet
                  first
                  | exact ⟨_, _, _, _, _, _, rfl, VB.new _ _ _, (ha6.ex x7').ex ((Ex.refl _).alloc _), ⟨_, _, OI.ex ⟨Z, zc, rfl, fz⟩ ((Ex.refl _).alloc _), by omega, ((Ex.refl w7).alloc _).size, .inr (Nat.le_refl _), fun k e => (hl6 k e).2⟩, (fun e => by have := (hl6 _ e).2; omega), by omega, x7.alloc _⟩
                  | (obtain ⟨dd, zz⟩ := vC.st3 (.int .i64 a.n) (.slice Y N C) (.slice Z mo.length zc)
                     have s2 : (w6.alloc (.cells #[.int .i64 0, .slice none 0 0, .slice none 0 0] 44)).heap.size = w6.heap.size + 1 := by simp
                     have nB : (Value.slice Y N C).ownBlock ≠ some w6.heap.size := fun e => by have := (hl6 _ e).2; omega
                     have a7 := ha6.ex (((Ex.refl w6).alloc (.cells #[.int .i64 0, .slice none 0 0, .slice none 0 0] 44)).trans x7')
                     exact ⟨_, _, _, _, _, _, rfl, dd, a7.k1 zz nB, ⟨_, _, OI.e1 ⟨Z, zc, rfl, fz⟩ zz (by omega), by omega, zz.size, by omega, fun k e => by have := (hl6 k e).2; omega⟩, nB, by omega, x7.ex1 zz (by omega)⟩)
                  | (obtain ⟨dd, zz⟩ := vC.st3 (.int .i64 a.n) (.slice Y N C) (.slice Z mo.length zc)
                     have s2 : (wr.alloc (.cells #[.int .i64 0, .slice none 0 0, .slice none 0 0] 44)).drew.heap.size = wr.heap.size + 1 := s1
                     have nB : (Value.slice Y N C).ownBlock ≠ some wr.heap.size := fun e => by have := (hl6 _ e).1; omega
                     exact ⟨_, _, _, _, _, _, rfl, dd, (ha6.ex x7').k1 zz nB, ⟨_, _, OI.e1 ⟨Z, zc, rfl, fz⟩ zz (by omega), by omega, zz.size, by omega, fun k e => by have := (hl6 k e).2; omega⟩, nB, by omega, x7.ex1 zz (by omega)⟩)
              case rest =>
                obtain ⟨W6, rfl⟩ : ∃ q, q = wc := ⟨_, rfl⟩
                obtain ⟨O, Y, N, C, Z, zc, rfl, vO, gO, ⟨lo, hi, oZ, hlo, hhi, hOz, hgz⟩, nO, hO, x6⟩ := hcut
                clear HS Hc Hm q0 q1 q2 q3
                have D0 := hD0.ex x6
                have D1 := hD1.ex x6
                have D2 := hD2.ex x6
                have vT := hvT.ex x6
                have oT := ho.ex x6
                have X6 := he.trans x6
                have hz6 := x6.size
                have q1 := D1.cell 1 (v := .slice B b.gs.length bc) rfl
                go_wp2_with fail
                clear q1
                obtain ⟨V, rfl⟩ : ∃ q, q = wr := ⟨_, rfl⟩
                have hW6 := Nat.le_refl W6.heap.size
                go_loopw [81] (fun i wi => ∃ (k : Nat) (Y : Option Addr) (N C : Nat), k ≤ b.gs.length ∧ i = .int .i64 k ∧ Own wi g to ∧
                  VB wi w.heap.size 44 #[.int .i64 a.n, .slice A a.gs.length ac, .slice P a.outs.length pc] ∧ VB wi (w.heap.size + 1) 44 #[.int .i64 b.n, .slice B b.gs.length bc, .slice R b.outs.length rc] ∧ VB wi (w.heap.size + 1 + 1) 44 #[.int .i64 0, .slice none 0 0, .slice none 0 0] ∧
                  VB wi T 37 #[.slice (some ⟨g, 0, none⟩) b.gs.length b.gs.length] ∧ VB wi O 44 #[.int .i64 a.n, .slice Y N C, .slice Z mo.length zc] ∧ ALG wi V.heap.size (.slice Y N C) (a.gs ++ ((b.gs.take k).filter (fun g => decide (g.kd ≠ 1))).map (movG to)) ∧
                  OI wi lo hi (.slice Z mo.length zc) mo ∧ (∀ k, (Value.slice Y N C).ownBlock = some k → k < lo ∨ hi ≤ k) ∧ (Value.slice Y N C).ownBlock ≠ some O ∧ Ex w wi ∧ W6.heap.size ≤ wi.heap.size) (fun i _ => b.gs.length - (intOf i).toNat)
                case atStart => exact ⟨0, Y, N, C, Nat.zero_le _, rfl, oT, D0, D1, D2, vT, vO, by simpa using gO, oZ, fun k e => .inl (hgz k e), nO, X6, hW6⟩
                case round =>
                  clear gO vO oZ hgz nO D0 D1 D2 vT oT
                  obtain ⟨k, Y, N, C, hk, rfl, ho, hD0, hD1, hD2, hvT, hvO, hgO, hoZ, hgz, nO, he, hzw⟩ := hrel
                  by_cases hlt : k < b.gs.length
                  · obtain ⟨g1, off, x, rfl, hx, c0, c1, c2, c3⟩ := (h3.ex he).gate hlt
                    have Htk : b.gs.take (k + 1) = b.gs.take k ++ [x] := by rw [List.take_add_one, hx]; rfl
                    have hfl : ((b.gs.take (k + 1)).filter (fun g => decide (g.kd ≠ 1))).map (movG to) = ((b.gs.take k).filter (fun g => decide (g.kd ≠ 1))).map (movG to) ++ (if x.kd = 1 then [] else [movG to x]) := by
                      rw [Htk, List.filter_append, List.map_append]
                      by_cases h : x.kd = 1 <;> simp [h]
                    have hopx := Hop.out x (List.mem_of_getElem? hx)
                    have hflen : ((b.gs.take k).filter (fun g => decide (g.kd ≠ 1))).length ≤ 40 := by
                      have := List.length_filter_le (fun g : Gt => decide (g.kd ≠ 1)) (b.gs.take k)
                      rw [List.length_take] at this
                      omega
                    clear Htk hx
                    obtain ⟨kd, ka, kb, vl⟩ := x
                    dsimp only at c0 c1 c2 c3 hfl hopx
                    have y7 := (Ex.refl wr).alloc (.cells #[.int .i64 kd, .int .i64 ka, .int .i64 kb, .int .i64 vl] 84)
                    have v7 := VB.new wr 84 #[.int .i64 kd, .int .i64 ka, .int .i64 kb, .int .i64 vl]
                    by_cases hkd : kd = 1
                    · subst hkd
                      rw [if_pos rfl, List.append_nil] at hfl
                      have HFL := Lib.hid hfl
                      clear hfl
                      go_wp2_with fail
                      go_roundw
                      case rel => exact ⟨k + 1, Y, N, C, by omega, by go_num, ho.ex y7, hD0.ex y7, hD1.ex y7, hD2.ex y7, hvT.ex y7, hvO.ex y7, by rw [HFL.out]; exact hgO.ex y7, hoZ.ex y7, hgz, nO, he.trans y7, Nat.le_trans hzw y7.size⟩
                      case measure => simp [intOf]; omega
                    · rw [if_neg hkd] at hfl
                      have HFL := Lib.hid hfl
                      have hb1 : (kd == 1) = false := by simpa using hkd
                      clear hfl
                      go_wp2_with fail
                      generalize wr.alloc (.cells #[.int .i64 kd, .int .i64 ka, .int .i64 kb, .int .i64 vl] 84) = W7 at *
                      have hv7 := hvO.ex y7
                      have hG7 := hgO.ex y7
                      have ho7 := ho.ex y7
                      have hT7' := hvT.ex y7
                      have hz7 := y7.size
                      have cG := hv7.cell 1 (v := .slice Y N C) rfl
                      have cT := hT7'.cell 0 (v := .slice (some ⟨g, 0, none⟩) b.gs.length b.gs.length) rfl
                      have g0 := v7.cell 0 (v := .int .i64 kd) rfl
                      have g1 := v7.cell 1 (v := .int .i64 ka) rfl
                      have g2 := v7.cell 2 (v := .int .i64 kb) rfl
                      have g3 := v7.cell 3 (v := .int .i64 vl) rfl
                      have hcm := withOperands_c 67 (enters_of Tryd.func67 (by kernel_rfl) rfl) #[.pointer (some ⟨T, 0, none⟩)] ⟨kd, ka, kb, vl⟩ to W7.drew (fun W j y hx hy => by
                        have hX := ((Ex.refl W7).drew).trans hx
                        exact moved1_c j T (some ⟨g, 0, none⟩) b.gs.length to y W ((ho7.ex hX).rd (by omega)) (by rw [htol]; exact cell_ex hX cT) hy) (by rw [htol]; exact hopx)
                      unfold gtV at hcm
                      obtain ⟨mg, hmg⟩ : ∃ m, movG to ⟨kd, ka, kb, vl⟩ = m := ⟨_, rfl⟩
                      rw [hmg] at hcm HFL
                      clear hmg
                      go_region_law (first
                        | (refine step_append_run (vs := .slice Y N C) (vx := .slice (some ⟨w8.heap.size, 0, none⟩) 1 1) rfl _ _ _ rfl rfl rfl (by with_reducible exact hrun9) ?_)
                        | (go_simp
                           go_at_call 66
                           refine hcm.mono ?_
                           rintro e w8 ⟨rfl, x8⟩
                           replace x8 := ((Ex.refl W7).drew).trans x8
                           have cG8 := cell_ex x8 cG
                           have cG9 := cell_ex (((Ex.refl w8).alloc (.cells #[.int .i64 mg.kd, .int .i64 mg.a, .int .i64 mg.b, .int .i64 mg.vl] 84))) cG8
                           have hz8 := x8.size
                           obtain ⟨v9, w9, hrun9, hg9, hI9, ho9, hE9⟩ := galp 42 w8 V.heap.size _ _ mg (hG7.ex x8) (by omega) (by rw [List.length_append, List.length_map]; omega)
                           obtain ⟨Y9, N9, C9, rfl⟩ := (hg9.og (by rw [List.length_append, List.length_append, List.length_map, List.length_singleton]; omega)).rd.form
                           have hv8 := hv7.ex x8
                           have hv9 : VB w9 O 44 #[.int .i64 a.n, .slice Y N C, .slice Z mo.length zc] := (hE9.block O hv8.lt (fun e => nO e.symm)).trans hv8
                           have cG10 := hv9.cell 1 (v := .slice Y N C) rfl
                           have fG10 := hv9.frozen 1))
                      all_goals
                        have E9 : Ex1 O w9 (w9.setCell ⟨O, 1, none⟩ (.slice Y9 N9 C9)) := (Ex1.refl _ _).setCell rfl _
                        have vF := hv9.set_ 1 (.slice Y9 N9 C9)
                        have hOl := hv8.lt
                        have n9 : (Value.slice Y9 N9 C9).ownBlock ≠ some O := fun e => by
                          rcases ho9 with h | ⟨q, h, hq⟩
                          · rw [h] at e; exact nO e
                          · rw [h] at e; injection e with e; omega
                        have m9 : ∀ k, (Value.slice Y9 N9 C9).ownBlock = some k → k < lo ∨ hi ≤ k := fun k e => by
                          rcases ho9 with h | ⟨q, h, hq⟩
                          · rw [h] at e; exact hgz k e
                          · rw [h] at e; injection e with e; omega
                        have gF := hg9.k1 E9 n9
                        rw [List.append_assoc, ← HFL.out] at gF
                        have z9 := hI9.size
                        have zE := E9.size
                        have keep : ∀ (q : Nat) (t : TypeId) (cs : Array Value), VB w8 q t cs → q < V.heap.size → VB (w9.setCell ⟨O, 1, none⟩ (.slice Y9 N9 C9)) q t cs := fun q t cs hq hlt => (hq.iv hI9 (by omega)).ex1 E9 (by omega)
                        have oZ8 := (hoZ.ex y7).ex x8
                        have oZ9 : OI w9 lo hi (.slice Z mo.length zc) mo := oZ8.keep (fun k h1 h2 h3 => hE9.block k h3 (fun e => by have := hgz k e.symm; omega))
                        have oZF := oZ9.e1 E9 (by omega)
                        have o9 : Own (w9.setCell ⟨O, 1, none⟩ (.slice Y9 N9 C9)) g to := by
                          have h8 := ho7.ex x8
                          have h9 : Own w9 g to := by
                            obtain ⟨cur, hc, hx⟩ := h8
                            exact ⟨cur, (hI9.block g (by omega) (by omega)).trans hc, hx⟩
                          exact h9.ex1 E9 (by omega)
                        have eF := (((he.trans y7).trans x8).iv hI9 (by omega)).ex1 E9 (by omega)
                        have k0 := keep _ _ _ ((hD0.ex y7).ex x8) (by omega)
                        have k1 := keep _ _ _ ((hD1.ex y7).ex x8) (by omega)
                        have k2 := keep _ _ _ ((hD2.ex y7).ex x8) (by omega)
                        have k3 := keep _ _ _ (hT7'.ex x8) (by omega)
                        clear keep g0 g1 g2 g3 cG cG8 cG9 cG10 fG10 hcm hrun9 cT
                        go_wp2_with fail
                        go_roundw
                        case rel => exact ⟨k + 1, Y9, N9, C9, by omega, by go_num, o9, k0, k1, k2, k3, vF, gF, oZF, m9, n9, eF, by omega⟩
                        case measure => simp [intOf]; omega
                  · obtain rfl : k = b.gs.length := by omega
                    rw [List.take_length] at hgO
                    have r0 := hvO.cell 0 (v := .int .i64 a.n) rfl
                    have r1 := hvO.cell 1 (v := .slice Y N C) rfl
                    have r2 := hvO.cell 2 (v := .slice Z mo.length zc) rfl
                    go_wp2_with fail
                    clear r0 r1 r2
                    have hlg : (a.gs ++ (b.gs.filter (fun g => decide (g.kd ≠ 1))).map (movG to)).length ≤ 1048576 := by
                      have := List.length_filter_le (fun g : Gt => decide (g.kd ≠ 1)) b.gs
                      rw [List.length_append, List.length_map]
                      omega
                    obtain ⟨ga, gb, hog, hga, hgb, hgd⟩ := hgO.og1 hlg (by omega)
                    have OC : OCirc wr V.heap.size wr.heap.size (.slice Y N C) (.slice Z mo.length zc) (seqC a b) := by
                      refine ⟨ga, gb, lo, hi, ?_, ?_, hga, hgb, hlo, by omega, ?_⟩
                      · show OG _ _ _ _ (seqG a b)
                        rw [seqG, seqT, Hto.out]
                        exact hog
                      · show OI _ _ _ _ (b.outs.map (fun k => (toL a.outs a.gs.length b.gs).getD k.toNat 0))
                        rw [Hto.out, Hmo.out]
                        exact hoZ
                      · rcases hgd with h | ⟨q, e, rfl, rfl⟩
                        · omega
                        · have := hgz _ e; omega
                    refine (validCircuit_c p (seqC a b) _ _ wr OC.rd (ht.ex he)).mono ?_
                    rintro e w6 ⟨t, f, x6⟩
                    have d2 := hD2.ex x6
                    have yy := he.trans x6
                    have z6 := x6.size
                    cases cc : circB p (seqC a b) with
                    | true =>
                      have H := Lib.hid (seqU_yes (p := p) (a := a) (b := b) ⟨ca, cb, Hn.out, cc⟩)
                      obtain rfl := t cc
                      obtain ⟨dd, zz⟩ := d2.st3 (.int .i64 (seqC a b).n) (.slice Y N C) (.slice Z mo.length zc)
                      have r0 := d2.cell 0 (v := .int .i64 0) rfl
                      have r1 := d2.cell 1 (v := .slice none 0 0) rfl
                      have r2 := d2.cell 2 (v := .slice none 0 0) rfl
                      have f0 := d2.frozen 0
                      have f1 := d2.frozen 1
                      have f2 := d2.frozen 2
                      have C0 := dd.cell 0 (v := .int .i64 (seqC a b).n) rfl
                      have C1 := dd.cell 1 (v := .slice Y N C) rfl
                      have C2 := dd.cell 2 (v := .slice Z mo.length zc) rfl
                      have eF := yy.ex1 zz (by omega)
                      clear cc t f
                      go_wp2_with fail
                      refine bodyPost_ret (v := .tuple #[.agg #[.int .i64 (seqC a b).n, .slice Y N C, .slice Z mo.length zc], .bool true]) (by simp [results, Tryd.results33, go_sem, C0, C1, C2]) rfl ?_
                      rw [CB, H.out]
                      have o7 := (OC.ex x6).e1 zz (by omega)
                      have zs := zz.size
                      exact ⟨_, _, rfl, o7.more (by omega) (by omega), eF⟩
                    | false =>
                      have H := Lib.hid (seqU_no (p := p) (a := a) (b := b) (fun h => by rw [cc] at h; cases h.2.2.2))
                      obtain rfl := f cc
                      obtain ⟨dd, zz⟩ := d2.st3 (.int .i64 0) (.slice none 0 0) (.slice none 0 0)
                      have r0 := d2.cell 0 (v := .int .i64 0) rfl
                      have r1 := d2.cell 1 (v := .slice none 0 0) rfl
                      have r2 := d2.cell 2 (v := .slice none 0 0) rfl
                      have f0 := d2.frozen 0
                      have f1 := d2.frozen 1
                      have f2 := d2.frozen 2
                      have C0 := dd.cell 0 (v := .int .i64 0) rfl
                      have C1 := dd.cell 1 (v := .slice none 0 0) rfl
                      have C2 := dd.cell 2 (v := .slice none 0 0) rfl
                      have eF := yy.ex1 zz (by omega)
                      clear cc t f
                      go_wp2_with fail
                      refine bodyPost_ret (v := .tuple #[.agg #[.int .i64 0, .slice none 0 0, .slice none 0 0], .bool false]) (by simp [results, Tryd.results33, go_sem, C0, C1, C2]) rfl ?_
                      rw [CB, H.out]
                      exact ⟨_, _, rfl, OCirc.zero _ _ _ eF.size, eF⟩
      · have hb' : ((a.outs.length : Int) != b.n) = true := by simpa using hn
        have H := Lib.hid (seqU_no (p := p) (a := a) (b := b) (fun h => hn h.2.2.1))
        obtain ⟨dd, zz⟩ := d2.st3 (.int .i64 0) (.slice none 0 0) (.slice none 0 0)
        have r0 := d2.cell 0 (v := .int .i64 0) rfl
        have r1 := d2.cell 1 (v := .slice none 0 0) rfl
        have r2 := d2.cell 2 (v := .slice none 0 0) rfl
        have f0 := d2.frozen 0
        have f1 := d2.frozen 1
        have f2 := d2.frozen 2
        have C0 := dd.cell 0 (v := .int .i64 0) rfl
        have C1 := dd.cell 1 (v := .slice none 0 0) rfl
        have C2 := dd.cell 2 (v := .slice none 0 0) rfl
        have eF := xx.ex1 zz (by omega)
        go_wp2_with fail
        refine bodyPost_ret (v := .tuple #[.agg #[.int .i64 0, .slice none 0 0, .slice none 0 0], .bool false]) (by simp [results, Tryd.results33, go_sem, C0, C1, C2]) rfl ?_
        rw [CB, H.out]
        exact ⟨_, _, rfl, OCirc.zero _ _ _ eF.size, eF⟩
end Go.Proofs.YtkpfmnconnopnaaDoor
