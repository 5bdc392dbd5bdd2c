/- Contracts: the order of the edges (the program). -/
import Derived.Test.YtgblnkadmieflaaGrH
namespace Go.Proofs.Ytgblnkadmieflaa
set_option maxRecDepth 100000
open Go Go.RowKit
/-- Flags: what is listed. -/
def Lst (w : World) (bl sb n : Nat) (op : List Bool) : Prop := VB w bl 75 #[.slice (some ⟨sb, 0, none⟩) n n] ∧ VB w sb 4 (bObj (op.map fun b => !b)) ∧ op.length = n
theorem Lst.ex {w w' : World} {bl sb n : Nat} {op : List Bool} (h : Lst w bl sb n op) (he : Ex w w') : Lst w' bl sb n op := ⟨h.1.ex he, h.2.1.ex he, h.2.2⟩
theorem eo11_c (k : Nat) (bl sb n : Nat) (op : List Bool) (w : World) (h : Lst w bl sb n op) (hk : k < n) (hn : n ≤ 1099511627776) :
    Calls Try.prog 71 #[.int .i64 k, .pointer (some ⟨bl, 0, none⟩)] w fun e w' => e = .returned (.bool (SL op k)) ∧ Ex w w' := by
  obtain ⟨h1, h2, h3⟩ := h
  obtain ⟨b, hb⟩ : ∃ b, op[k]? = some b := ⟨_, List.getElem?_eq_getElem (by omega)⟩
  have c0 := h1.cell 0 (v := .slice (some ⟨sb, 0, none⟩) n n) rfl
  have c1 := h2.bcell (i := k) (b := !b) (by rw [List.getElem?_map, hb]; rfl)
  have H := Lib.hid (show SL op (k : Int) = b by rw [SL_nat, List.getD_eq_getElem?_getD, hb]; rfl)
  clear hb
  go_enter Try.func71, Try.ntmps71
  go_wp2_with fail
  go_ret
  exact ⟨ret_bool (by first | (rw [H.out]; done) | (rw [H.out]; simp)), Ex.refl _⟩
theorem enters_eo11 : ∀ args w, (callFunc 71 args).run Try.prog w = .ok (.enter 71 args) w := enters_of Try.func71 (by kernel_rfl) rfl
set_option maxHeartbeats 1000000 in
theorem eo1_c (i : Nat) (es : List Ed) (bl sb bn gn hi' : Nat) (vs : List Value) (op : List Bool) (w : World) (h : Lst w bl sb es.length op) (hb : VB w bn 58 #[.slice (some ⟨gn, 0, none⟩) es.length es.length]) (hr : Rows2 w gn hi' vs (ndR es)) (hi : i < es.length) (hn : es.length ≤ 60) :
    Calls Try.prog 70 #[.int .i64 i, .pointer (some ⟨bl, 0, none⟩), .pointer (some ⟨bn, 0, none⟩)] w fun e w' => e = .returned (.bool (isM (ndF es) (SL op) i)) ∧ Ex w w' := by
  obtain ⟨P, pc, cP, hP⟩ := hr.row (ndR_at hi)
  have h' := h
  obtain ⟨h1, h2, h3⟩ := h
  obtain ⟨b, hbb⟩ : ∃ b, op[i]? = some b := ⟨_, List.getElem?_eq_getElem (by omega)⟩
  have c0 := h1.cell 0 (v := .slice (some ⟨sb, 0, none⟩) es.length es.length) rfl
  have c1 := h2.bcell (i := i) (b := !b) (by rw [List.getElem?_map, hbb]; rfl)
  have c2 := hb.cell 0 (v := .slice (some ⟨gn, 0, none⟩) es.length es.length) rfl
  have HS := Lib.hid (show SL op (i : Int) = b by rw [SL_nat, List.getD_eq_getElem?_getD, hbb]; rfl)
  have hcf := fun W (hW : Ex w W) => containsFunc_c 71 enters_eo11 #[.pointer (some ⟨bl, 0, none⟩)] (SL op) P pc (ndF es i) W (hP.ex hW) (fun W' q u hW' hu => by
    obtain ⟨h0, h1⟩ := ndF_mem (List.mem_of_getElem? hu)
    obtain ⟨k, rfl⟩ := Int.eq_ofNat_of_zero_le h0
    exact eo11_c k bl sb es.length op W' ((h'.ex hW).ex hW') (by omega) (by omega))
  clear hbb
  cases b with
  | false =>
    go_enter Try.func70, Try.ntmps70
    go_wp2
    go_ret
    exact ⟨ret_bool (by rw [isM, HS.out]; rfl), Ex.refl _⟩
  | true =>
    have hcf := hcf w (Ex.refl w)
    obtain ⟨r, hr'⟩ : ∃ r, (ndF es i).any (SL op) = r := ⟨_, rfl⟩
    rw [hr'] at hcf
    have Hr := Lib.hid hr'
    clear hr'
    go_enter Try.func70, Try.ntmps70
    go_wp2_with fail
    refine hcf.mono ?_
    rintro e w1 ⟨rfl, x1⟩
    go_wp2
    go_ret
    exact ⟨ret_bool (by rw [isM, HS.out, Hr.out]; rfl), x1⟩
theorem enters_eo1 : ∀ args w, (callFunc 70 args).run Try.prog w = .ok (.enter 70 args) w := enters_of Try.func70 (by kernel_rfl) rfl
set_option maxHeartbeats 4000000 in
theorem edgeOrder_c (N : Int) (E : Option Addr) (ec : Nat) (es : List Ed) (I O : Value) (w : World) (hE : RdS EE w E es) (hn : es.length ≤ 60) (hI : ∃ A n c, I = .slice A n c) (hO : ∃ A n c, O = .slice A n c) :
    Calls Try.prog 60 #[.agg #[.int .i64 N, .slice E es.length ec, I, O]] w fun e w' => LIo w (orderL es) e w' := by
  obtain ⟨I, il, ic, rfl⟩ := hI
  obtain ⟨O, ol, oc, rfl⟩ := hO
  have hmk := fun W => run_make_bools es.length (by omega) W
  have y0 := (Ex.refl w).alloc (.cells #[.int .i64 N, .slice E es.length ec, .slice I il ic, .slice O ol oc] 31)
  go_enter Try.func60, Try.ntmps60
  go_wp2_with fail
  generalize w.alloc (.cells #[.int .i64 N, .slice E es.length ec, .slice I il ic, .slice O ol oc] 31) = W0 at *
  refine (gneeds_c N E ec es (.slice I il ic) (.slice O ol oc) W0 (hE.ex y0) hn ⟨_, _, _, rfl⟩ ⟨_, _, _, rfl⟩).mono ?_
  rintro e w1 ⟨gn, vs, rfl, hr, x1⟩
  have y1 := y0.trans x1
  clear y0 x1
  have a1 := (Ex.refl w1).alloc (.cells #[.slice (some ⟨gn, 0, none⟩) es.length es.length] 58)
  have v1 := VB.new w1 58 #[.slice (some ⟨gn, 0, none⟩) es.length es.length]
  have S1 := Lib.hid (show (w1.alloc (.cells #[.slice (some ⟨gn, 0, none⟩) es.length es.length] 58)).heap.size = w1.heap.size + 1 by simp)
  go_wp2_with fail
  obtain ⟨b, hb⟩ : ∃ b, w1.heap.size = b := ⟨_, rfl⟩
  rw [hb] at v1 S1 ⊢
  have Hb := Lib.hid hb
  clear hb
  generalize w1.alloc (.cells #[.slice (some ⟨gn, 0, none⟩) es.length es.length] 58) = W1 at *
  have a2 := (Ex.refl W1).alloc (.cells (bObj (List.replicate es.length false)) 4)
  have v2 := VB.new W1 4 (bObj (List.replicate es.length false))
  rw [S1.out] at v2
  have S2 := Lib.hid (show (W1.alloc (.cells (bObj (List.replicate es.length false)) 4)).heap.size = b + 1 + 1 by simp; exact S1.out)
  generalize W1.alloc (.cells (bObj (List.replicate es.length false)) 4) = W2 at *
  have a3 := (Ex.refl W2).alloc (.cells #[.slice (some ⟨b + 1, 0, none⟩) es.length es.length] 75)
  have v3 := VB.new W2 75 #[.slice (some ⟨b + 1, 0, none⟩) es.length es.length]
  rw [S2.out] at v3
  have S3 := Lib.hid (show (W2.alloc (.cells #[.slice (some ⟨b + 1, 0, none⟩) es.length es.length] 75)).heap.size = b + 1 + 1 + 1 by simp; exact S2.out)
  generalize W2.alloc (.cells #[.slice (some ⟨b + 1, 0, none⟩) es.length es.length] 75) = W3 at *
  have a4 := (Ex.refl W3).alloc (.cells #[] 3)
  have hal : AL (W3.alloc (.cells #[] 3)) (b + 1 + 1 + 1) (.slice (some ⟨W3.heap.size, 0, none⟩) 0 0) [] := AL.empty W3 (by have := S3.out; omega)
  rw [S3.out] at hal
  have z4 := a4.size
  have z3 := Lib.hid S3.out
  generalize W3.alloc (.cells #[] 3) = W4 at *
  have hv1 := ((v1.ex a2).ex a3).ex a4
  have hL : Lst W4 (b + 1 + 1) (b + 1) es.length (List.replicate es.length true) := ⟨v3.ex a4, by
    have e : (List.replicate es.length true).map (fun b => !b) = List.replicate es.length false := by simp
    rw [e]
    exact (v2.ex a3).ex a4, by simp⟩
  have hx := (((y1.trans a1).trans a2).trans a3).trans a4
  have hr4 := (((hr.ex a1).ex a2).ex a3).ex a4
  rw [Hb.out] at hr4
  have hwb : w.heap.size ≤ b := by have := Hb.out; have := y1.size; omega
  have hgb : gn < b := by have := Hb.out; have := hr.1.lt; omega
  clear a1 a2 a3 a4 v1 v2 v3 S1 S2 S3 z3 z4 y1 hr
  have H0 := Lib.hid (show ([] : List Int) ++ schM (ndF es) es.length es.length (List.replicate es.length true) = orderL es from rfl)
  go_loopg [5] es.length (fun f o wi => ∃ (op : List Bool) (out : List Int), f ≤ es.length ∧ out.length + f = es.length ∧ AL wi (b + 1 + 1 + 1) o out ∧ Hid (out ++ schM (ndF es) es.length f op = orderL es) ∧ Lst wi (b + 1 + 1) (b + 1) es.length op ∧ VB wi b 58 #[.slice (some ⟨gn, 0, none⟩) es.length es.length] ∧ Rows2 wi gn b vs (ndR es) ∧ Ex w wi)
  case atStart => exact ⟨_, [], Nat.le_refl _, by simp, hal, H0, hL, hv1, hr4, hx⟩
  case round =>
    obtain ⟨op, out, hf, hof, hal, Htot, hL, hv, hr, he⟩ := hrel
    by_cases hz : gk = 0
    · subst hz
      have HR := Lib.hid (show orderL es = out by rw [← Htot.out]; simp [schM])
      obtain ⟨O', oc', rfl, fo⟩ := hal.form (by omega)
      have q0 := hv.cell 0 (v := .slice (some ⟨gn, 0, none⟩) es.length es.length) rfl
      go_wp2_with fail
      go_ret
      rw [HR.out]
      exact ⟨_, rfl, ⟨O', oc', rfl, (fo.more (by omega)).fi⟩, he⟩
    · obtain ⟨f, rfl⟩ : ∃ f, gk = f + 1 := ⟨gk - 1, by omega⟩
      have q0 := hv.cell 0 (v := .slice (some ⟨gn, 0, none⟩) es.length es.length) rfl
      have Hof := Lib.hid hof
      obtain ⟨O', oc', rfl, fo⟩ := hal.form (by omega)
      have hlt : (out.length : Int) < es.length := by omega
      clear fo hz hof
      go_wp2_with fail
      refine (upTo_c es.length (by omega) wr).mono ?_
      rintro e w1 ⟨gu, rfl, hgu, hou, x1⟩
      have hru := hou.rd (by rw [upL_len]; omega)
      have hL1 := hL.ex x1
      have hv1 := hv.ex x1
      have hr1 := hr.ex x1
      have hal1 := hal.ex x1
      have he1 := he.trans x1
      have z1 := x1.size
      have hvl := hv.lt
      have hll := hL.1.lt
      have hIF := indexFunc_c 70 enters_eo1 #[.pointer (some ⟨b + 1 + 1, 0, none⟩), .pointer (some ⟨b, 0, none⟩)] (isM (ndF es) (SL op)) (some ⟨gu, 0, none⟩) es.length (upL es.length) w1 hru (fun W k y hW hy => by
        have hk : k < es.length := by have := (List.getElem?_eq_some_iff.1 hy).1; rwa [upL_len] at this
        rw [upL_at hk] at hy
        injection hy with hy
        subst hy
        exact eo1_c k es _ _ _ _ _ vs op W (hL1.ex hW) (hv1.ex hW) (hr1.ex hW) hk hn)
      rw [upL_len] at hIF
      clear hL hv hr hal he hru hou q0 x1
      go_wp2_with fail
      refine hIF.mono ?_
      rintro e w2 ⟨rfl, x2⟩
      clear hIF
      rw [show idxP (isM (ndF es) (SL op)) (upL es.length) = nxM (ndF es) es.length op from rfl]
      have hL2 := hL1.ex x2
      have hv2 := hv1.ex x2
      have hr2 := hr1.ex x2
      have hal2 := hal1.ex x2
      have he2 := he1.trans x2
      have z2 := x2.size
      clear hL1 hv1 hr1 hal1 he1 x2
      rcases nxM_cases (ndF es) es.length op with hneg | ⟨i, hi, hni, _, hoi⟩
      · have HR := Lib.hid (show orderL es = out by rw [← Htot.out, schM_end _ _ _ hneg, List.append_nil])
        obtain ⟨O2, oc2, hO2, fo⟩ := hal2.form (by omega)
        injection hO2 with e1 e2 e3
        subst e1 e3
        generalize nxM (ndF es) es.length op = q at *
        go_wp2
        go_ret
        rw [HR.out]
        exact ⟨_, rfl, ⟨O', oc', rfl, (fo.more (by omega)).fi⟩, he2⟩
      · have Hst := Lib.hid (schM_next (ndF es) es.length f hni)
        rw [hni]
        have hop := hL2.2.2
        have q0 := hL2.1.cell 0 (v := .slice (some ⟨b + 1, 0, none⟩) es.length es.length) rfl
        have q2 := hL2.2.1.bcell (i := i) (b := false) (by rw [List.getElem?_map, hoi]; rfl)
        have qf := hL2.2.1.frozen i
        have hs := hL2.2.1.bset i true
        have em : (op.map (fun b => !b)).set i true = (op.set i false).map (fun b => !b) := by rw [List.map_set]; rfl
        rw [em] at hs
        have hE1 : Ex1 (b + 1) w2 (w2.setCell ⟨b + 1, i, none⟩ (.bool true)) := (Ex1.refl _ _).setCell rfl _
        have hl3 := hL2.1.ex1 hE1 (by omega)
        have hv3 := hv2.ex1 hE1 (by omega)
        have hr3 := hr2.e1 hE1 (by omega)
        have hal3 := hal2.e1 hE1 (by omega)
        have he3 := he2.ex1 hE1 (by omega)
        have z3 := hE1.size
        obtain ⟨v', w4, hrun2, hal4, hI⟩ := al_push_i _ (b + 1 + 1 + 1) _ out (i : Int) hal3 (by omega) (by omega)
        rw [show (w2.setCell ⟨b + 1, i, none⟩ (.bool true)).heap.size = w2.heap.size by simp [World.setCell]] at hrun2
        have z4 := hI.size
        have hz2 : (w2.setCell ⟨b + 1, i, none⟩ (.bool true)).heap.size = w2.heap.size := by simp [World.setCell]
        have hL4 : Lst w4 (b + 1 + 1) (b + 1) es.length (op.set i false) := ⟨hl3.iv hI (by omega), hs.iv hI (by omega), by rw [List.length_set]; exact hop⟩
        have hv4 := hv3.iv hI (by omega)
        have hr4 := hr3.iv hI (by omega)
        have he4 := he3.iv hI (by omega)
        have HT := Lib.hid (show (out ++ [(i : Int)]) ++ schM (ndF es) es.length f (op.set i false) = orderL es by
          have e := Htot.out
          rw [Hst.out] at e
          rw [← e, List.append_assoc]; rfl)
        clear hni em hL2 hv2 hr2 hal2 he2 hl3 hv3 hr3 hal3 he3 hs hE1 hI
        go_wp2_with (at_builtin; refine wpList_append_run rfl _ _ _ rfl rfl rfl hrun2 ?_)
        go_roundg f
        case measure => omega
        case rel => exact ⟨op.set i false, out ++ [(i : Int)], by omega, by rw [List.length_append, List.length_singleton]; have := Hof.out; omega, hal4, HT, hL4, hv4, hr4, he4⟩
end Go.Proofs.Ytgblnkadmieflaa
