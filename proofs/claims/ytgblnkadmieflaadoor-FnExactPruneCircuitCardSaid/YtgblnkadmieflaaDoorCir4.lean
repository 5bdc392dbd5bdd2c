/- Contracts: the reference's order of the gates. -/
import Derived.Test.YtgblnkadmieflaaDoorCir3
namespace Go.Proofs.YtgblnkadmieflaaDoor
set_option maxRecDepth 100000
open Go Go.RowKit
theorem replace_step {n k : Nat} {gs : List Gt} {x : Gt} (f : Gt → Bool) (z : Bool) (hx : gs[k]? = some x) (hn : gs.length = n) : ((gs.take k).map f ++ List.replicate (n - k) z).set k (f x) = (gs.take (k + 1)).map f ++ List.replicate (n - (k + 1)) z := by
  have hlt := (List.getElem?_eq_some_iff.1 hx).1
  have hl : ((gs.take k).map f).length = k := by rw [List.length_map, List.length_take]; omega
  rw [List.set_append_right _ _ (by omega), hl, Nat.sub_self, show n - k = (n - (k + 1)) + 1 by omega, List.replicate_succ, List.set_cons_zero, List.take_add_one, hx, List.map_append, List.append_assoc]
  rfl
theorem opnd_need {x : Gt} (h : combB x = true) : opnd x = need x := by
  unfold combB at h
  unfold opnd need
  by_cases h3 : x.kd = 3
  · simp [h3]
  · have h4 : x.kd = 4 := by simpa [h3] using h
    simp [h4]
theorem opn_at {gs : List Gt} {i : Nat} {x : Gt} (h : gs[i]? = some x) : (opn gs)[i]? = some (combB x) := by simp [opn, h]
/-- Only gates that were wanted at first are wanted. -/
def Sub (op op0 : List Bool) : Prop := ∀ i : Nat, op[i]? = some true → op0[i]? = some true
theorem Sub.set {op op0 : List Bool} (h : Sub op op0) (i : Nat) : Sub (op.set i false) op0 := fun j hj => by
  rw [List.getElem?_set] at hj
  split at hj
  · split at hj <;> simp at hj
  · exact h j hj
set_option maxHeartbeats 4000000 in
theorem crOrder_c (n : Int) (A : Option Addr) (c : Nat) (gs : List Gt) (B : Option Addr) (m d : Nat) (w : World) (h : RdS EG w A gs) (hn : gs.length ≤ 40) (hop : ∀ x ∈ gs, ∀ k ∈ need x, 0 ≤ k ∧ k < gs.length) :
    Calls Tryd.prog 82 #[.agg #[.int .i64 n, .slice A gs.length c, .slice B m d]] w fun e w' => LIo w (schedL gs).1 e w' := by
  have hmk := fun W => run_make_bools gs.length (by omega) W
  have Hop := Lib.hid hop
  clear hop
  have y0 := (Ex.refl w).alloc (.cells #[.int .i64 n, .slice A gs.length c, .slice B m d] 29)
  have d0 := VB.new w 29 #[.int .i64 n, .slice A gs.length c, .slice B m d]
  have S0 := Lib.hid (show (w.alloc (.cells #[.int .i64 n, .slice A gs.length c, .slice B m d] 29)).heap.size = w.heap.size + 1 by simp)
  go_enter Tryd.func82, Tryd.ntmps82
  go_wp2_with fail
  generalize w.alloc (.cells #[.int .i64 n, .slice A gs.length c, .slice B m d] 29) = W0 at *
  have y1 := (Ex.refl W0).alloc (.cells (bObj (List.replicate gs.length false)) 4)
  have d1 := VB.new W0 4 (bObj (List.replicate gs.length false))
  rw [S0.out] at d1
  generalize W0.alloc (.cells (bObj (List.replicate gs.length false)) 4) = W1 at *
  have xx := y0.trans y1
  have d0 := d0.ex y1
  clear y0 y1 S0
  have z1 := d1.lt
  go_loopw [20] (fun i wr => ∃ k : Nat, k ≤ gs.length ∧ i = .int .i64 k ∧ VB wr (w.heap.size + 1) 4 (bObj ((gs.take k).map (fun x => !combB x) ++ List.replicate (gs.length - k) false)) ∧ VB wr w.heap.size 29 #[.int .i64 n, .slice A gs.length c, .slice B m d] ∧ Ex w wr) (fun i _ => gs.length - (intOf i).toNat)
  case atStart => exact ⟨0, Nat.zero_le _, rfl, by simpa using d1, d0, xx⟩
  case round =>
    obtain ⟨k, hk, rfl, hd1, hd0, he⟩ := hrel
    by_cases hlt : k < gs.length
    · obtain ⟨g, off, x, rfl, hx, c0, c1, c2, c3⟩ := (h.ex he).gate hlt
      have HS := Lib.hid (replace_step (fun x => !combB x) false hx rfl)
      have hz : ((gs.take k).map (fun x => !combB x) ++ List.replicate (gs.length - k) false)[k]? = some false := by
        have hl : ((gs.take k).map (fun x => !combB x)).length = k := by rw [List.length_map, List.length_take]; omega
        rw [List.getElem?_append_right (by omega), hl, Nat.sub_self, List.getElem?_replicate, if_pos (by omega)]
      clear hx
      have y3 := (Ex.refl wr).alloc (.cells #[.int .i64 x.kd, .int .i64 x.a, .int .i64 x.b, .int .i64 x.vl] 103)
      go_wp2_with fail
      generalize wr.alloc (.cells #[.int .i64 x.kd, .int .i64 x.a, .int .i64 x.b, .int .i64 x.vl] 103) = W3 at *
      refine (crCombines_c x W3).mono ?_
      rintro e w1 ⟨rfl, x1⟩
      have y4 := y3.trans x1
      have hd11 := hd1.ex y4
      have hd01 := hd0.ex y4
      have he1 := he.trans y4
      have q := hd11.bcell hz
      have qf := hd11.frozen k
      have hd12 := hd11.bset k (!combB x)
      rw [HS.out] at hd12
      have hE : Ex1 (w.heap.size + 1) w1 (w1.setCell ⟨w.heap.size + 1, k, none⟩ (.bool (!combB x))) := (Ex1.refl _ _).setCell rfl _
      have hd02 := hd01.ex1 hE (by omega)
      have he2 := he1.ex1 hE (by omega)
      clear y3 x1 y4 hz hd1 hd0 he c0 c1 c2 c3
      go_wp2_with fail
      go_roundw
      case rel => exact ⟨k + 1, by omega, by go_num, hd12, hd02, he2⟩
      case measure => simp [intOf]; omega
    · obtain rfl : k = gs.length := by omega
      rw [List.take_length, Nat.sub_self, List.replicate_zero, List.append_nil] at hd1
      have H0 := Lib.hid (show (([] : List Int) ++ (sched gs gs.length (opn gs)).1, (sched gs gs.length (opn gs)).2) = schedL gs from rfl)
      have HC := Lib.hid (show (opn gs).count true ≤ gs.length by have := List.count_le_length (a := true) (l := opn gs); simpa [opn] using this)
      have HLn := Lib.hid (show (opn gs).length = gs.length by simp [opn])
      have HSb := Lib.hid (show Sub (opn gs) (opn gs) from fun _ h => h)
      have hdn : gs.map (fun x => !combB x) = (opn gs).map (fun b => !b) := by simp [opn]
      rw [hdn] at hd1
      clear hdn hlt
      go_wp2_with fail
      go_loopg [3] gs.length (fun f o wi => ∃ (op : List Bool) (out : List Int), Hid (op.length = gs.length) ∧ Hid (op.count true ≤ f) ∧ Hid (Sub op (opn gs)) ∧ f ≤ gs.length ∧ out.length + f = gs.length ∧ AL wi (w.heap.size + 1 + 1) o out ∧ Hid ((out ++ (sched gs f op).1, (sched gs f op).2) = schedL gs) ∧
        VB wi (w.heap.size + 1) 4 (bObj (op.map (fun b => !b))) ∧ VB wi w.heap.size 29 #[.int .i64 n, .slice A gs.length c, .slice B m d] ∧ Ex w wi)
      case atStart => exact ⟨opn gs, [], HLn, HC, HSb, Nat.le_refl _, by simp, AL.nil _ _, H0, hd1, hd0, he⟩
      case round =>
        obtain ⟨op, out, Hlen, Hcnt, Hsub, hf, hof, hal, Htot, hd1, hd0, he⟩ := hrel
        have q1 := hd0.cell 1 (v := .slice A gs.length c) rfl
        go_wp2_with fail
        clear q1
        go_loopw [7, 35] (fun a i wj => ∃ k : Nat, k ≤ gs.length ∧ i = .int .i64 k ∧ a = .int .i64 (idxP (isN gs (SL op)) (upL k)) ∧ AL wj (w.heap.size + 1 + 1) u3 out ∧ VB wj (w.heap.size + 1) 4 (bObj (op.map (fun b => !b))) ∧ VB wj w.heap.size 29 #[.int .i64 n, .slice A gs.length c, .slice B m d] ∧ Ex w wj) (fun _ i _ => gs.length - (intOf i).toNat)
        case atStart => exact ⟨0, Nat.zero_le _, rfl, rfl, hal, hd1, hd0, he⟩
        case round =>
          obtain ⟨k, hk, rfl, rfl, hal, hd1, hd0, he⟩ := hrel
          by_cases hlt : k < gs.length
          · obtain ⟨g, off, x, rfl, hx, c0, c1, c2, c3⟩ := (h.ex he).gate hlt
            obtain ⟨bk, hbk⟩ : ∃ bk, op[k]? = some bk := ⟨_, List.getElem?_eq_getElem (by rw [Hlen.out]; exact hlt)⟩
            have y3 := (Ex.refl wr).alloc (.cells #[.int .i64 x.kd, .int .i64 x.a, .int .i64 x.b, .int .i64 x.vl] 103)
            have v3 := VB.new wr 103 #[.int .i64 x.kd, .int .i64 x.a, .int .i64 x.b, .int .i64 x.vl]
            have qd := (hd1.ex y3).bcell (i := k) (b := !bk) (by rw [List.getElem?_map, hbk]; rfl)
            have hsn := idxP_snoc (isN gs (SL op)) k
            have hNk : isN gs (SL op) (k : Int) = (bk && !((need x).any (SL op))) := by
              rw [isN, Int.toNat_natCast, List.getD_eq_getElem?_getD, hx, SL_nat, List.getD_eq_getElem?_getD, hbk]; rfl
            obtain ⟨at_, hat⟩ : ∃ a, idxP (isN gs (SL op)) (upL k) = a := ⟨_, rfl⟩
            rw [hat] at hsn ⊢
            have Hat := Lib.hid hat
            have Hsn := Lib.hid hsn
            have HNk := Lib.hid hNk
            have Hx := Lib.hid hx
            have Hbk := Lib.hid hbk
            clear hat hsn hNk hx hbk
            have hal1 := hal.ex y3
            have hd11 := hd1.ex y3
            have hd01 := hd0.ex y3
            have he1 := he.trans y3
            have hzz := y3.size
            cases bk with
            | false =>
              have Hres := Lib.hid (show at_ = idxP (isN gs (SL op)) (upL (k + 1)) by
                rw [Hsn.out, HNk.out]
                rcases idxP_cases (isN gs (SL op)) k with ⟨h1, _⟩ | ⟨i, _, h1, _⟩
                · rw [Hat.out] at h1; subst h1; rfl
                · rw [Hat.out] at h1; rw [if_pos (by omega)])
              go_wp2_with fail
              go_roundw
              case rel => exact ⟨k + 1, by omega, by go_num, by rw [← Hres.out], hal1, hd11, hd01, he1⟩
              case measure => simp [intOf]; omega
            | true =>
              by_cases hp : 0 ≤ at_
              · have Hres := Lib.hid (show at_ = idxP (isN gs (SL op)) (upL (k + 1)) by rw [Hsn.out, if_pos hp])
                go_wp2_with fail
                go_roundw
                case rel => exact ⟨k + 1, by omega, by go_num, by rw [← Hres.out], hal1, hd11, hd01, he1⟩
                case measure => simp [intOf]; omega
              · have hcb : combB x = true := by
                  have := Hsub.out k Hbk.out
                  rw [opn_at Hx.out] at this
                  simpa using this
                have Hon := Lib.hid (opnd_need hcb)
                have hop1 := Hop.out x (List.mem_of_getElem? Hx.out)
                clear hcb
                go_wp2_with fail
                generalize wr.alloc (.cells #[.int .i64 x.kd, .int .i64 x.a, .int .i64 x.b, .int .i64 x.vl] 103) = W3 at *
                refine (crOperands_c x W3).mono ?_
                rintro e w1 ⟨v, rfl, f, x1⟩
                rw [Hon.out] at f
                obtain ⟨V, vc, rfl, fi⟩ := f
                have hlN := fi.rd.len
                have hal2 := hal1.ex x1
                have hd12 := hd11.ex x1
                have hd02 := hd01.ex x1
                have he2 := he1.trans x1
                have hfi := fi.rd
                have Hop1 := Lib.hid hop1
                clear hal hd1 hd0 he hal1 hd11 hd01 he1 y3 v3 qd fi x1 c0 c1 c2 c3 hop1
                go_wp2_with fail
                go_loop [10, 51] (fun r j => ∃ q : Nat, q ≤ (need x).length ∧ j = .int .i64 q ∧ r = .bool (((need x).take q).all (fun z => !SL op z))) (fun _ j => (need x).length - (intOf j).toNat)
                case atStart => exact ⟨0, Nat.zero_le _, rfl, rfl⟩
                case round =>
                  obtain ⟨q, hq, rfl, rfl⟩ := hrel
                  by_cases hql : q < (need x).length
                  · obtain ⟨gy, oy, y, rfl, hy, hgy, hcy⟩ := hfi.at_ hql
                    have hyb := Hop1.out y (List.mem_of_getElem? hy)
                    obtain ⟨yn, rfl⟩ := Int.eq_ofNat_of_zero_le hyb.1
                    obtain ⟨by_, hby⟩ : ∃ b, op[yn]? = some b := ⟨_, List.getElem?_eq_getElem (by rw [Hlen.out]; omega)⟩
                    have qy := hd12.bcell (i := yn) (b := !by_) (by rw [List.getElem?_map, hby]; rfl)
                    have Hall := Lib.hid (show ((need x).take (q + 1)).all (fun z => !SL op z) = (((need x).take q).all (fun z => !SL op z) && !by_) by
                      rw [List.take_add_one, hy, List.all_append]
                      simp [SL_nat, List.getD_eq_getElem?_getD, hby])
                    obtain ⟨rr, hrr⟩ : ∃ r, ((need x).take q).all (fun z => !SL op z) = r := ⟨_, rfl⟩
                    rw [hrr]
                    have Hrr := Lib.hid hrr
                    clear hrr hy hby
                    have hyb2 := hyb.2
                    cases rr with
                    | true =>
                      go_wp2_with fail
                      go_round
                      case rel => exact ⟨q + 1, by omega, by go_num, by rw [Hall.out, Hrr.out]; rfl⟩
                      case measure => simp [intOf]; omega
                    | false =>
                      go_wp2_with fail
                      go_round
                      case rel => exact ⟨q + 1, by omega, by go_num, by rw [Hall.out, Hrr.out]; rfl⟩
                      case measure => simp [intOf]; omega
                  · obtain rfl : q = (need x).length := by omega
                    rw [List.take_length]
                    have e1 : (need x).all (fun z => !SL op z) = isN gs (SL op) (k : Int) := by
                      rw [HNk.out]
                      simp [List.all_eq_not_any_not]
                    rw [e1]
                    have Hfin := Lib.hid (show idxP (isN gs (SL op)) (upL (k + 1)) = if isN gs (SL op) (k : Int) then (k : Int) else -1 by rw [Hsn.out, if_neg (by omega)])
                    have Hm1 := Lib.hid (show at_ = -1 by
                      rcases idxP_cases (isN gs (SL op)) k with ⟨h1, _⟩ | ⟨i, _, h1, _⟩
                      · rw [Hat.out] at h1; exact h1
                      · rw [Hat.out] at h1; omega)
                    clear e1
                    cases hN : isN gs (SL op) (k : Int) with
                    | true =>
                      have HN2 := Lib.hid hN
                      clear hN
                      go_wp2_with fail
                      go_roundw
                      case rel => exact ⟨k + 1, by omega, by go_num, by rw [Hfin.out, HN2.out]; rfl, hal2, hd12, hd02, he2⟩
                      case measure => simp [intOf]; omega
                    | false =>
                      have HN2 := Lib.hid hN
                      clear hN
                      go_wp2_with fail
                      go_roundw
                      case rel => exact ⟨k + 1, by omega, by go_num, by rw [Hfin.out, HN2.out, Hm1.out]; rfl, hal2, hd12, hd02, he2⟩
                      case measure => simp [intOf]; omega
          · obtain rfl : k = gs.length := by omega
            rw [show idxP (isN gs (SL op)) (upL gs.length) = nxt gs op from rfl]
            rcases nxt_cases gs op with ⟨hneg, _⟩ | ⟨i, hi, hni, _, hoi⟩
            · have HR := Lib.hid (show (schedL gs).1 = out by
                have e := Htot.out
                rw [sched_end gs gk hneg] at e
                rw [← e]; simp)
              obtain ⟨O, oc, rfl, fo⟩ := hal.form (by omega)
              generalize nxt gs op = q at *
              go_wp2_with fail
              go_ret
              rw [HR.out]
              exact ⟨_, rfl, ⟨O, oc, rfl, (fo.more (by omega)).fi⟩, he⟩
            · have Hni := Lib.hid hni
              have hgk : ∃ f, gk = f + 1 := ⟨gk - 1, by have := Hcnt.out; have := List.count_pos_iff.2 (List.mem_of_getElem? hoi); omega⟩
              obtain ⟨f, rfl⟩ := hgk
              have Hst := Lib.hid (sched_next gs f hni)
              have Hcs := Lib.hid (count_set hoi)
              rw [hni]
              have q2 := hd1.bcell (i := i) (b := false) (by rw [List.getElem?_map, hoi]; rfl)
              have qf := hd1.frozen i
              have hd1s := hd1.bset i true
              have hE : Ex1 (w.heap.size + 1) wr (wr.setCell ⟨w.heap.size + 1, i, none⟩ (.bool true)) := (Ex1.refl _ _).setCell rfl _
              have em : (op.map (fun b => !b)).set i true = (op.set i false).map (fun b => !b) := by rw [List.map_set]; rfl
              rw [em] at hd1s
              have hal3 := hal.e1 hE (by omega)
              have hd03 := hd0.ex1 hE (by omega)
              have he3 := he.ex1 hE (by omega)
              have hz3 := hE.size
              have hz4 := he.size
              have hz5 := hd1.lt
              obtain ⟨v', w4, hrun2, hal4, hI⟩ := al_push_i _ (w.heap.size + 1 + 1) u3 out (i : Int) hal3 (by omega) (by omega)
              rw [show (wr.setCell ⟨w.heap.size + 1, i, none⟩ (.bool true)).heap.size = wr.heap.size by simp [World.setCell]] at hrun2
              have hd14 := hd1s.iv hI (by omega)
              have hd04 := hd03.iv hI (by omega)
              have he4 := he3.iv hI (by omega)
              have HT := Lib.hid (show ((out ++ [(i : Int)]) ++ (sched gs f (op.set i false)).1, (sched gs f (op.set i false)).2) = schedL gs by
                have e := Htot.out
                rw [Hst.out] at e
                rw [← e, List.append_assoc]; rfl)
              have HC2 := Lib.hid (show (op.set i false).count true ≤ f by have := Hcs.out; have := Hcnt.out; omega)
              have HL2 := Lib.hid (show (op.set i false).length = gs.length by rw [List.length_set]; exact Hlen.out)
              have HS2 := Lib.hid (Hsub.out.set i)
              clear hni em hal hd1 hd0 he
              go_wp2_with (at_builtin; refine wpList_append_run rfl _ _ _ rfl rfl rfl hrun2 ?_)
              go_roundg f
              case measure => omega
              case rel => exact ⟨op.set i false, out ++ [(i : Int)], HL2, HC2, HS2, by omega, by rw [List.length_append, List.length_singleton]; omega, hal4, HT, hd14, hd04, he4⟩
end Go.Proofs.YtgblnkadmieflaaDoor
