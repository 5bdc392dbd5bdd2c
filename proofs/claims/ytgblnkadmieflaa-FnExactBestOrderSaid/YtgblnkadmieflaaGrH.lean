/- Contracts: which edges an edge needs (the program). -/
import Derived.Test.YtgblnkadmieflaaGrG
import Derived.Test.YtgblnkadmieflaaMat
namespace Go.Proofs.Ytgblnkadmieflaa
set_option maxRecDepth 100000
open Go Go.RowKit
theorem ndF_snoc (es : List Ed) (i : Int) (k : Nat) : ((upL (k + 1)).filter fun k => meetB (edAt es i).ins (edAt es k).outs) = ((upL k).filter fun k => meetB (edAt es i).ins (edAt es k).outs) ++ (if meetB (edAt es i).ins (edAt es k).outs then [(k : Int)] else []) := by
  rw [upL_succ, List.filter_append]
  by_cases h : meetB (edAt es i).ins (edAt es k).outs = true <;> simp [h]
/-- A list of lists that lies in block g: read only. -/
def Rows2 (w : World) (g hi : Nat) (vs : List Value) (rows : List (List Int)) : Prop := VB w g 23 vs.toArray ∧ vs.length = rows.length ∧ (∀ (j : Nat) (v : Value) (r : List Int), vs[j]? = some v → rows[j]? = some r → OI w 0 hi v r) ∧ g < hi
theorem Rows2.ex {w w' : World} {g hi : Nat} {vs : List Value} {rows : List (List Int)} (h : Rows2 w g hi vs rows) (he : Ex w w') : Rows2 w' g hi vs rows := ⟨h.1.ex he, h.2.1, fun j v r hv hr => (h.2.2.1 j v r hv hr).ex he, h.2.2.2⟩
theorem Rows2.iv {w w' : World} {g hi a b : Nat} {vs : List Value} {rows : List (List Int)} (h : Rows2 w g hi vs rows) (k : ExI a b w w') (hd : hi ≤ a) : Rows2 w' g hi vs rows := ⟨h.1.iv k (by have := h.2.2.2; omega), h.2.1, fun j v r hv hr => (h.2.2.1 j v r hv hr).iv k (.inl hd), h.2.2.2⟩
theorem Rows2.e1 {w w' : World} {g hi q : Nat} {vs : List Value} {rows : List (List Int)} (h : Rows2 w g hi vs rows) (k : Ex1 q w w') (hd : hi ≤ q) : Rows2 w' g hi vs rows := h.iv (ExI.of_ex1 k) hd
theorem Rows2.row {w : World} {g hi : Nat} {vs : List Value} {rows : List (List Int)} (h : Rows2 w g hi vs rows) {j : Nat} {r : List Int} (hr : rows[j]? = some r) : ∃ P pc, w.cell? ⟨g, j, none⟩ = some (.slice P r.length pc) ∧ Rd w P r := by
  have hl := (List.getElem?_eq_some_iff.1 hr).1
  obtain ⟨v, hv⟩ : ∃ v, vs[j]? = some v := ⟨_, List.getElem?_eq_getElem (by rw [h.2.1]; exact hl)⟩
  obtain ⟨P, pc, rfl, hR⟩ := (h.2.2.1 j v r hv hr).rd
  exact ⟨P, pc, h.1.cell j (by rw [List.getElem?_toArray]; exact hv), hR⟩
set_option maxHeartbeats 4000000 in
theorem gneeds_c (N : Int) (E : Option Addr) (ec : Nat) (es : List Ed) (I O : Value) (w : World) (hE : RdS EE w E es) (hn : es.length ≤ 60) (hI : ∃ A n c, I = .slice A n c) (hO : ∃ A n c, O = .slice A n c) :
    Calls Try.prog 29 #[.agg #[.int .i64 N, .slice E es.length ec, I, O]] w fun e w' => ∃ g vs, e = .returned (.slice (some ⟨g, 0, none⟩) es.length es.length) ∧ Rows2 w' g w'.heap.size vs (ndR es) ∧ Ex w w' := by
  obtain ⟨I, il, ic, rfl⟩ := hI
  obtain ⟨O, ol, oc, rfl⟩ := hO
  have hmk := fun W => run_make_slices es.length (by omega) W
  have y0 := (Ex.refl w).alloc (.cells #[.int .i64 N, .slice E es.length ec, .slice I il ic, .slice O ol oc] 31)
  have d0 := VB.new w 31 #[.int .i64 N, .slice E es.length ec, .slice I il ic, .slice O ol oc]
  have S0 := Lib.hid (show (w.alloc (.cells #[.int .i64 N, .slice E es.length ec, .slice I il ic, .slice O ol oc] 31)).heap.size = w.heap.size + 1 by simp)
  go_enter Try.func29, Try.ntmps29
  go_wp2_with fail
  generalize w.alloc (.cells #[.int .i64 N, .slice E es.length ec, .slice I il ic, .slice O ol oc] 31) = W0 at *
  have y1 := (Ex.refl W0).alloc (.cells (Array.replicate es.length (.slice none 0 0)) 23)
  have v1 := VB.new W0 23 (Array.replicate es.length (.slice none 0 0))
  rw [S0.out] at v1
  have S1 : (W0.alloc (.cells (Array.replicate es.length (.slice none 0 0)) 23)).heap.size = w.heap.size + 1 + 1 := by simp; exact S0.out
  generalize W0.alloc (.cells (Array.replicate es.length (.slice none 0 0)) 23) = W1 at *
  have d0 := d0.ex y1
  have xx := y0.trans y1
  clear y0 y1 S0
  go_loopw [15] (fun i wr => ∃ (k : Nat) (us : List Value), k ≤ es.length ∧ i = .int .i64 k ∧ us.length = k ∧ VB wr (w.heap.size + 1) 23 ((us ++ List.replicate (es.length - k) (Value.slice none 0 0)).toArray) ∧ (∀ (j : Nat) (v : Value) (r : List Int), us[j]? = some v → (ndR es)[j]? = some r → OI wr (w.heap.size + 1 + 1) wr.heap.size v r) ∧ VB wr w.heap.size 31 #[.int .i64 N, .slice E es.length ec, .slice I il ic, .slice O ol oc] ∧ Ex w wr) (fun i _ => es.length - (intOf i).toNat)
  case atStart => exact ⟨0, [], Nat.zero_le _, rfl, rfl, by simpa using v1, fun j v r h => by simp at h, d0, xx⟩
  case round =>
    obtain ⟨k, us, hk, rfl, hus, hv, hrows, hd, he⟩ := hrel
    by_cases hlt : k < es.length
    · obtain ⟨g, off, x, P, pc, Q, qc, rfl, hx, c0, c1, c2, c3, hP, hQ⟩ := hE.edge hlt
      replace c0 := cell_ex he c0
      replace c1 := cell_ex he c1
      replace c2 := cell_ex he c2
      replace c3 := cell_ex he c3
      have y3 := (Ex.refl wr).alloc (.cells #[.int .i64 x.kd, .int .i64 x.vl, .slice P x.ins.length pc, .slice Q x.outs.length qc] 51)
      have v3 := VB.new wr 51 #[.int .i64 x.kd, .int .i64 x.vl, .slice P x.ins.length pc, .slice Q x.outs.length qc]
      have S3 : (wr.alloc (.cells #[.int .i64 x.kd, .int .i64 x.vl, .slice P x.ins.length pc, .slice Q x.outs.length qc] 51)).heap.size = wr.heap.size + 1 := by simp
      have hPl := hP.len
      have hed := edAt_nat hx
      have Hed := Lib.hid hed
      have hdE := (hd.ex y3).cell 1 (v := .slice (some ⟨g, off, none⟩) es.length ec) rfl
      clear hx hed
      go_wp2_with fail
      have hv3 := hv.ex y3
      have hd3 := hd.ex y3
      have he3 := he.trans y3
      have hrows3 : ∀ (j : Nat) (v : Value) (r : List Int), us[j]? = some v → (ndR es)[j]? = some r → OI (wr.alloc (.cells #[.int .i64 x.kd, .int .i64 x.vl, .slice P x.ins.length pc, .slice Q x.outs.length qc] 51)) (w.heap.size + 1 + 1) (wr.heap.size + 1) v r := fun j v r h1 h2 => ((hrows j v r h1 h2).ex y3).more (Nat.le_refl _) (by omega)
      have hvl := hv.lt
      clear c0 c1 c2 c3 hv hd hrows y3 hdE
      generalize wr.alloc (.cells #[.int .i64 x.kd, .int .i64 x.vl, .slice P x.ins.length pc, .slice Q x.outs.length qc] 51) = W3 at *
      obtain ⟨b, hb⟩ : ∃ b, wr.heap.size = b := ⟨_, rfl⟩
      rw [hb] at v3 S3 hrows3 hvl ⊢
      clear hb he
      rw [show es.length - k = (es.length - (k + 1)) + 1 by omega, List.replicate_succ] at hv3
      generalize hRest : List.replicate (es.length - (k + 1)) (Value.slice none 0 0) = rest at hv3
      have HRest := Lib.hid hRest
      clear hRest
      go_loopw [23] (fun i wi => ∃ (m : Nat) (v : Value), m ≤ es.length ∧ i = .int .i64 m ∧ VB wi (w.heap.size + 1) 23 ((us ++ v :: rest).toArray) ∧ AL wi (b + 1) v ((upL m).filter fun q => meetB (edAt es (k : Int)).ins (edAt es q).outs) ∧ (∀ (j : Nat) (v : Value) (r : List Int), us[j]? = some v → (ndR es)[j]? = some r → OI wi (w.heap.size + 1 + 1) (b + 1) v r) ∧
        VB wi w.heap.size 31 #[.int .i64 N, .slice (some ⟨g, off, none⟩) es.length ec, .slice I il ic, .slice O ol oc] ∧ VB wi b 51 #[.int .i64 x.kd, .int .i64 x.vl, .slice P x.ins.length pc, .slice Q x.outs.length qc] ∧ b + 1 ≤ wi.heap.size ∧ Ex w wi) (fun i _ => es.length - (intOf i).toNat)
      case atStart => exact ⟨0, _, Nat.zero_le _, rfl, hv3, AL.nil _ _, hrows3, hd3, v3, by omega, he3⟩
      case round =>
        clear hv3 hrows3 hd3 v3 he3
        obtain ⟨m, v, hm, rfl, hv, hal, hrows, hd, hvb, hbz, he⟩ := hrel
        by_cases hml : m < es.length
        · obtain ⟨g', off', y, P', pc', Q', qc', hAe, hy, c0, c1, c2, c3, hP', hQ'⟩ := hE.edge hml
          injection hAe with hAe
          injection hAe with e1 e2 _
          subst e1 e2
          replace c0 := cell_ex he c0
          replace c1 := cell_ex he c1
          replace c2 := cell_ex he c2
          replace c3 := cell_ex he c3
          have y4 := (Ex.refl wr).alloc (.cells #[.int .i64 y.kd, .int .i64 y.vl, .slice P' y.ins.length pc', .slice Q' y.outs.length qc'] 51)
          have v4 := VB.new wr 51 #[.int .i64 y.kd, .int .i64 y.vl, .slice P' y.ins.length pc', .slice Q' y.outs.length qc']
          have Hf := Lib.hid (ndF_snoc es k m)
          have hyE := edAt_nat hy
          have Hlen := Lib.hid (show ((upL m).filter fun q => meetB (edAt es (k : Int)).ins (edAt es q).outs).length ≤ m by
            have := List.length_filter_le (fun q => meetB (edAt es (k : Int)).ins (edAt es q).outs) (upL m)
            rwa [upL_len] at this)
          rw [hyE, Hed.out] at Hf
          rw [Hed.out] at Hlen hal
          clear hy hyE
          generalize (upL m).filter (fun q => meetB x.ins (edAt es q).outs) = row at *
          have q2 := (hvb.ex y4).cell 2 (v := .slice P x.ins.length pc) rfl
          have hv4 := hv.ex y4
          have hal4 := hal.ex y4
          have hd4 := hd.ex y4
          have hvb4 := hvb.ex y4
          have he4 := he.trans y4
          have z4 := y4.size
          have hvl2 := hv.lt
          have hrows4 : ∀ (j : Nat) (v : Value) (r : List Int), us[j]? = some v → (ndR es)[j]? = some r → OI (wr.alloc (.cells #[.int .i64 y.kd, .int .i64 y.vl, .slice P' y.ins.length pc', .slice Q' y.outs.length qc'] 51)) (w.heap.size + 1 + 1) (b + 1) v r := fun j v r h1 h2 => (hrows j v r h1 h2).ex y4
          have hcf := fun W (hW : Ex (wr.alloc (.cells #[.int .i64 y.kd, .int .i64 y.vl, .slice P' y.ins.length pc', .slice Q' y.outs.length qc'] 51)) W) =>
            containsFunc_c 50 enters_needs1 #[.pointer (some ⟨wr.heap.size, 0, none⟩)] (fun u => decide (u ∈ y.outs)) P pc x.ins W (hP.ex (he4.trans hW)) (fun W' i u hW' hu => needs1_c u wr.heap.size _ _ _ Q' qc' y.outs W' ((v4.ex hW).ex hW') (hQ'.ex ((he4.trans hW).trans hW')))
          go_wp2_with fail
          clear hv hal hd hvb he hrows y4 c0 c1 c2 c3
          generalize wr.alloc (.cells #[.int .i64 y.kd, .int .i64 y.vl, .slice P' y.ins.length pc', .slice Q' y.outs.length qc'] 51) = W4 at *
          refine (hcf W4 (Ex.refl _)).mono ?_
          rintro e w5 ⟨rfl, x5⟩
          rw [show (x.ins.any fun u => decide (u ∈ y.outs)) = meetB x.ins y.outs from rfl]
          have hv5 := hv4.ex x5
          have hal5 := hal4.ex x5
          have hd5 := hd4.ex x5
          have hvb5 := hvb4.ex x5
          have he5 := he4.trans x5
          have z5 := x5.size
          have hrows5 : ∀ (j : Nat) (v : Value) (r : List Int), us[j]? = some v → (ndR es)[j]? = some r → OI w5 (w.heap.size + 1 + 1) (b + 1) v r := fun j v r h1 h2 => (hrows4 j v r h1 h2).ex x5
          clear hcf q2 hv4 hal4 hd4 hvb4 he4 hrows4 v4
          cases hmt : meetB x.ins y.outs with
          | false =>
            rw [hmt] at Hf
            have Hf' := Lib.hid (Hf.out.trans (by simp : row ++ (if false = true then [(m : Int)] else []) = row))
            clear hmt
            go_wp2_with fail
            go_roundw
            case rel => exact ⟨m + 1, v, by omega, by go_num, hv5, by rw [Hed.out, Hf'.out]; exact hal5, hrows5, hd5, hvb5, by omega, he5⟩
            case measure => simp [intOf]; omega
          | true =>
            rw [hmt] at Hf
            have Hf' := Lib.hid (Hf.out.trans (by simp : row ++ (if true = true then [(m : Int)] else []) = row ++ [(m : Int)]))
            clear hmt
            obtain ⟨V, vc, rfl, hfr⟩ := hal5.form (by have := Hlen.out; omega)
            clear hfr
            have hix : (us ++ Value.slice V row.length vc :: rest)[k]? = some (Value.slice V row.length vc) := by rw [List.getElem?_append_right (by omega), hus, Nat.sub_self]; rfl
            have t1 := hv5.cell k (v := .slice V row.length vc) (by rw [List.getElem?_toArray]; exact hix)
            have hA5 := (Ex.refl w5).alloc (.cells #[.int .i64 m] 3)
            have t2 := (hv5.ex hA5).cell k (v := .slice V row.length vc) (by rw [List.getElem?_toArray]; exact hix)
            obtain ⟨v9, w9, hrun9, hal9, hI9⟩ := al_push_i w5 (b + 1) _ row (m : Int) hal5 (by omega) (by have := Hlen.out; omega)
            obtain ⟨V9, vc9, rfl, _⟩ := hal9.form (by rw [List.length_append, List.length_singleton]; have := Hlen.out; omega)
            have hv9 := hv5.iv hI9 (by omega)
            have hd9 := hd5.iv hI9 (by omega)
            have hvb9 := hvb5.iv hI9 (by omega)
            have he9 := he5.iv hI9 (by omega)
            have z9 := hI9.size
            have hrows9 : ∀ (j : Nat) (v : Value) (r : List Int), us[j]? = some v → (ndR es)[j]? = some r → OI w9 (w.heap.size + 1 + 1) (b + 1) v r := fun j v r h1 h2 => (hrows5 j v r h1 h2).iv hI9 (.inl (Nat.le_refl _))
            have t3 := hv9.cell k (v := .slice V row.length vc) (by rw [List.getElem?_toArray]; exact hix)
            have f3 := hv9.frozen k
            have hvs := hv9.set_ k (.slice V9 (row ++ [(m : Int)]).length vc9)
            rw [List.setIfInBounds_toArray, List.set_append_right _ _ (by omega), hus, Nat.sub_self, List.set_cons_zero] at hvs
            have E1 : Ex1 (w.heap.size + 1) w9 (w9.setCell ⟨w.heap.size + 1, k, none⟩ (.slice V9 (row ++ [(m : Int)]).length vc9)) := (Ex1.refl _ _).setCell rfl _
            have hal10 := hal9.e1 E1 (by omega)
            have hd10 := hd9.ex1 E1 (by omega)
            have hvb10 := hvb9.ex1 E1 (by omega)
            have he10 := he9.ex1 E1 (by omega)
            have z10 := E1.size
            have hrows10 : ∀ (j : Nat) (v : Value) (r : List Int), us[j]? = some v → (ndR es)[j]? = some r → OI (w9.setCell ⟨w.heap.size + 1, k, none⟩ (.slice V9 (row ++ [(m : Int)]).length vc9)) (w.heap.size + 1 + 1) (b + 1) v r := fun j v r h1 h2 => (hrows9 j v r h1 h2).e1 E1 (by omega)
            clear hal5 hix hv5 hv9 hal9 hd9 hvb9 he9 hrows9 hrows5 hd5 hvb5 he5 hI9 E1
            generalize (row ++ [(m : Int)]).length = rl at *
            go_wp2_with (at_builtin; refine wpList_append_run rfl _ _ _ rfl rfl rfl hrun9 ?_)
            go_roundw
            case rel => exact ⟨m + 1, _, by omega, by go_num, hvs, by rw [Hed.out, Hf'.out]; exact hal10, hrows10, hd10, hvb10, by omega, he10⟩
            case measure => simp [intOf]; omega
        · obtain rfl : m = es.length := by omega
          have hnd : (ndR es)[k]? = some ((upL es.length).filter fun q => meetB (edAt es (k : Int)).ins (edAt es q).outs) := ndR_at hlt
          have Hnd := Lib.hid hnd
          have Hl := Lib.hid (ndF_len es k)
          clear hnd
          go_wp2_with fail
          go_roundw
          case rel =>
            obtain ⟨V, vc, hV, hfr⟩ := hal.form (by have := Hl.out; unfold ndF at this; omega)
            refine ⟨k + 1, us ++ [v], by omega, by go_num, by simp [hus], ?_, fun j u r h1 h2 => ?_, hd, he⟩
            · rw [HRest.out, List.append_assoc]; exact hv
            · by_cases hjk : j < k
              · rw [List.getElem?_append_left (by omega)] at h1
                exact (hrows j u r h1 h2).more (Nat.le_refl _) hbz
              · have hjk' : j = k := by
                  have := (List.getElem?_eq_some_iff.1 h1).1
                  rw [List.length_append, List.length_singleton] at this
                  omega
                subst hjk'
                rw [List.getElem?_append_right (by omega), hus, Nat.sub_self] at h1
                simp at h1
                subst h1
                rw [Hnd.out] at h2
                injection h2 with h2
                subst h2
                exact ⟨V, vc, hV, (hfr.more (by omega)).fi⟩
          case measure => simp [intOf]; omega
    · obtain rfl : k = es.length := by omega
      go_wp2
      go_ret
      rw [Nat.sub_self, List.replicate_zero, List.append_nil] at hv
      exact ⟨_, us, rfl, ⟨hv, by rw [ndR_len]; exact hus, fun j v r h1 h2 => (hrows j v r h1 h2).more (Nat.zero_le _) (Nat.le_refl _), hv.lt⟩, he⟩
end Go.Proofs.Ytgblnkadmieflaa
