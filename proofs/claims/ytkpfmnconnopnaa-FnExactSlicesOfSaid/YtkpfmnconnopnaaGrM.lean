/- Contracts: the levels of the edges, on both sides. -/
import Derived.Test.YtkpfmnconnopnaaGrV
namespace Go.Proofs.Ytkpfmnconnopnaa
set_option maxRecDepth 100000
open Go Go.RowKit
def lvS (e : Int) (out : List Int) (f : Int) : List Int := out.set e.toNat (max (out.getD e.toNat 0) (out.getD f.toNat 0 + 1))
def lvR (es : List Ed) (out : List Int) (e : Int) : List Int := (ndF es e).foldl (lvS e) out
def levL (es : List Ed) : List Int := (orderL es).foldl (lvR es) (List.replicate es.length 0)
theorem lvS_len (e : Int) (out : List Int) (f : Int) : (lvS e out f).length = out.length := by simp [lvS]
theorem lvF_len (e : Int) : ∀ (l : List Int) (out : List Int), (l.foldl (lvS e) out).length = out.length
  | [], out => rfl
  | f :: l, out => by rw [List.foldl_cons, lvF_len e l, lvS_len]
theorem lvR_len (es : List Ed) (out : List Int) (e : Int) : (lvR es out e).length = out.length := lvF_len e _ out
theorem lvO_len (es : List Ed) : ∀ (l : List Int) (out : List Int), (l.foldl (lvR es) out).length = out.length
  | [], out => rfl
  | e :: l, out => by rw [List.foldl_cons, lvO_len es l, lvR_len]
theorem levL_len (es : List Ed) : (levL es).length = es.length := by rw [levL, lvO_len, List.length_replicate]
def Bd (out : List Int) (c : Int) : Prop := ∀ i : Nat, 0 ≤ out.getD i 0 ∧ out.getD i 0 ≤ c
theorem Bd.rep (n : Nat) : Bd (List.replicate n 0) 0 := fun i => by
  rw [List.getD_eq_getElem?_getD, List.getElem?_replicate]
  split <;> simp
theorem Bd.step {out : List Int} {c : Int} (h : Bd out c) (e f : Int) : Bd (lvS e out f) (c + 1) := fun i => by
  have h1 := h e.toNat
  have h2 := h f.toNat
  have h3 := h i
  unfold lvS
  rw [List.getD_eq_getElem?_getD, List.getElem?_set]
  split
  · split
    · simp only [Option.getD_some]; omega
    · simp; omega
  · rw [← List.getD_eq_getElem?_getD]; omega
theorem Bd.mono {out : List Int} {c d : Int} (h : Bd out c) (hd : c ≤ d) : Bd out d := fun i => by have := h i; omega
theorem Bd.fold {e : Int} : ∀ (l : List Int) {out : List Int} {c : Int}, Bd out c → Bd (l.foldl (lvS e) out) (c + l.length)
  | [], out, c, h => by simpa using h
  | f :: l, out, c, h => by
    rw [List.foldl_cons, List.length_cons]
    exact (Bd.fold l (h.step e f)).mono (by push_cast; omega)
theorem Bd.folds (es : List Ed) : ∀ (l : List Int) {out : List Int} {c : Int}, Bd out c → Bd (l.foldl (lvR es) out) (c + es.length * l.length)
  | [], out, c, h => by simpa using h
  | e :: l, out, c, h => by
    rw [List.foldl_cons, List.length_cons]
    have h1 := (Bd.fold (e := e) (ndF es e) h).mono (d := c + es.length) (by have := ndF_len es e; omega)
    refine (Bd.folds es l h1).mono ?_
    push_cast
    rw [Int.mul_add]
    omega
theorem Bd.lev (es : List Ed) : Bd (levL es) (es.length * es.length) := by
  have := Bd.folds es (orderL es) (Bd.rep es.length)
  refine this.mono ?_
  have h := orderL_len es
  have : (es.length : Int) * ((orderL es).length : Int) ≤ (es.length : Int) * (es.length : Int) := Int.mul_le_mul_of_nonneg_left (by omega) (by omega)
  omega
theorem fold_take_succ {β : Type} (f : β → Int → β) (b : β) {l : List Int} {k : Nat} {x : Int} (h : l[k]? = some x) : (l.take (k + 1)).foldl f b = f ((l.take k).foldl f b) x := by
  rw [List.take_add_one, h]
  simp
theorem getD_some {l : List Int} {i : Nat} (h : i < l.length) : l[i]? = some (l.getD i 0) := by
  rw [List.getD_eq_getElem?_getD, List.getElem?_eq_getElem h]; rfl
def levU (x : Gr) : List Int × Bool := if acyB x then (levL x.es, true) else ([], false)
theorem levU_no {x : Gr} (h : acyB x = false) : levU x = ([], false) := by simp [levU, h]
theorem levU_yes {x : Gr} (h : acyB x = true) : levU x = (levL x.es, true) := by simp [levU, h]
theorem Rows2.rowO {w : World} {g hi : Nat} {vs : List Value} {rows : List (List Int)} (h : Rows2 w g hi vs rows) {j : Nat} {r : List Int} (hr : rows[j]? = some r) : ∃ P pc, w.cell? ⟨g, j, none⟩ = some (.slice P r.length pc) ∧ OI w 0 hi (.slice P r.length pc) r := by
  have hl := (List.getElem?_eq_some_iff.1 hr).1
  obtain ⟨v, hv⟩ : ∃ v, vs[j]? = some v := ⟨_, List.getElem?_eq_getElem (by rw [h.2.1]; exact hl)⟩
  have ho := h.2.2.1 j v r hv hr
  obtain ⟨P, pc, rfl, hR⟩ := ho.rd
  exact ⟨P, pc, h.1.cell j (by rw [List.getElem?_toArray]; exact hv), ho⟩
theorem OI.at_ {w : World} {a b c : Nat} {A : Option Addr} {xs : List Int} (h : OI w a b (.slice A xs.length c) xs) : Rd w A xs := by
  obtain ⟨A', c', e, f⟩ := h
  injection e with e1 _ _
  subst e1
  exact f.rd
set_option maxHeartbeats 4000000 in
theorem levels_c (N : Int) (E : Option Addr) (ec : Nat) (es : List Ed) (I O : Value) (w : World) (hE : RdS EE w E es) (hn : es.length ≤ 60) (hI : ∃ A n c, I = .slice A n c) (hO : ∃ A n c, O = .slice A n c) :
    Calls Try.prog 43 #[.agg #[.int .i64 N, .slice E es.length ec, I, O]] w fun e w' => LIo w (levL es) e w' := by
  obtain ⟨I, il, ic, rfl⟩ := hI
  obtain ⟨O, ol, oc, rfl⟩ := hO
  have y0 := (Ex.refl w).alloc (.cells #[.int .i64 N, .slice E es.length ec, .slice I il ic, .slice O ol oc] 30)
  have d0 := VB.new w 30 #[.int .i64 N, .slice E es.length ec, .slice I il ic, .slice O ol oc]
  go_enter Try.func43, Try.ntmps43
  go_wp2_with fail
  generalize w.alloc (.cells #[.int .i64 N, .slice E es.length ec, .slice I il ic, .slice O ol oc] 30) = W0 at *
  refine (gneeds_c N E ec es (.slice I il ic) (.slice O ol oc) W0 (hE.ex y0) hn ⟨_, _, _, rfl⟩ ⟨_, _, _, rfl⟩).mono ?_
  rintro e w1 ⟨gn, vs, rfl, hr, x1⟩
  have y1 := y0.trans x1
  have d1 := d0.ex x1
  clear y0 x1 d0
  go_wp2_with fail
  refine (zeros_c es.length (by omega) w1).mono ?_
  rintro e w2 ⟨g, rfl, hg, hb, x2⟩
  have o2 := hb.own
  have hr2 := hr.ex x2
  have y2 := y1.trans x2
  have d2 := d1.ex x2
  have hg1 : w1.heap.size ≤ g := hg
  have q0 := d2.cell 0 (v := .int .i64 N) rfl
  have q1 := d2.cell 1 (v := .slice E es.length ec) rfl
  have q2 := d2.cell 2 (v := .slice I il ic) rfl
  have q3 := d2.cell 3 (v := .slice O ol oc) rfl
  clear hb hr d1 x2
  go_wp2_with fail
  refine (edgeOrder_c N E ec es (.slice I il ic) (.slice O ol oc) w2 (hE.ex y2) hn ⟨_, _, _, rfl⟩ ⟨_, _, _, rfl⟩).mono ?_
  rintro e w3 ⟨_, rfl, ⟨V, vc, rfl, fi⟩, x3⟩
  have o3 := o2.ex x3
  have hr3 := hr2.ex x3
  have y3 := y2.trans x3
  have z1 := y1.size
  have z2 := o2.lt
  clear q0 q1 q2 q3 d2 o2 hr2
  go_wp2_with fail
  have hoL := orderL_len es
  have hVl := fi.rd.len
  have hb0 := Bd.rep es.length
  go_loopw [17] (fun i wr => ∃ k : Nat, k ≤ (orderL es).length ∧ i = .int .i64 k ∧ Own wr g (((orderL es).take k).foldl (lvR es) (List.replicate es.length 0)) ∧ Rows2 wr gn w1.heap.size vs (ndR es) ∧ OI wr w2.heap.size w3.heap.size (.slice V (orderL es).length vc) (orderL es) ∧ Ex w wr) (fun i _ => (orderL es).length - (intOf i).toNat)
  case atStart => exact ⟨0, Nat.zero_le _, rfl, o3, hr3, ⟨V, vc, rfl, fi⟩, y3⟩
  case round =>
    clear o3 hr3 fi y3
    obtain ⟨k, hk, rfl, ho, hr, hOI, he⟩ := hrel
    by_cases hlt : k < (orderL es).length
    · obtain ⟨V', vc', hV, hfi⟩ := hOI
      injection hV with e1 _ e3
      subst e1 e3
      obtain ⟨g', off, x, rfl, hx, hg', hc'⟩ := hfi.rd.at_ hlt
      have hOI : OI wr w2.heap.size w3.heap.size (.slice (some ⟨g', off, none⟩) (orderL es).length vc) (orderL es) := ⟨_, _, rfl, hfi⟩
      have hxm := orderL_mem (List.mem_of_getElem? hx)
      obtain ⟨xn, rfl⟩ := Int.eq_ofNat_of_zero_le hxm.1
      have hxn : xn < es.length := by omega
      obtain ⟨P, pc, cP, hP⟩ := hr.rowO (ndR_at hxn)
      have HF := Lib.hid (fold_take_succ (lvR es) (List.replicate es.length 0) hx)
      obtain ⟨B0, hB0⟩ : ∃ B, ((orderL es).take k).foldl (lvR es) (List.replicate es.length 0) = B := ⟨_, rfl⟩
      have hB0l : B0.length = es.length := by rw [← hB0, lvO_len, List.length_replicate]
      have hbd : Bd B0 3600 := by
        rw [← hB0]
        refine (Bd.folds es ((orderL es).take k) hb0).mono ?_
        have h1 : ((orderL es).take k).length ≤ 60 := by rw [List.length_take]; omega
        have : (es.length : Int) * (((orderL es).take k).length : Int) ≤ 60 * 60 := Int.mul_le_mul (by omega) (by omega) (by omega) (by omega)
        omega
      rw [hB0] at ho HF
      have hnl := ndF_len es (xn : Int)
      have hPl := hP.at_.len
      clear hx hxm hB0
      go_wp2_with fail
      go_loopw [26] (fun i wi => ∃ q : Nat, q ≤ (ndF es (xn : Int)).length ∧ i = .int .i64 q ∧ Own wi g (((ndF es (xn : Int)).take q).foldl (lvS (xn : Int)) B0) ∧ Rows2 wi gn w1.heap.size vs (ndR es) ∧ OI wi w2.heap.size w3.heap.size (.slice (some ⟨g', off, none⟩) (orderL es).length vc) (orderL es) ∧ OI wi 0 w1.heap.size (.slice P (ndF es (xn : Int)).length pc) (ndF es (xn : Int)) ∧ Ex w wi) (fun i _ => (ndF es (xn : Int)).length - (intOf i).toNat)
      case atStart => exact ⟨0, Nat.zero_le _, rfl, ho, hr, hOI, hP, he⟩
      case round =>
        clear ho hr hOI he hP
        obtain ⟨q, hq, rfl, ho, hr, hOI, hP, he⟩ := hrel
        by_cases hql : q < (ndF es (xn : Int)).length
        · obtain ⟨g2, off2, y, rfl, hy, hg2, hc2⟩ := hP.at_.at_ hql
          have hym := ndF_mem (List.mem_of_getElem? hy)
          obtain ⟨yn, rfl⟩ := Int.eq_ofNat_of_zero_le hym.1
          have hyn : yn < es.length := by omega
          have HT := Lib.hid (fold_take_succ (lvS (xn : Int)) B0 hy)
          have hbq := Bd.fold (e := (xn : Int)) ((ndF es (xn : Int)).take q) hbd
          have hlq := lvF_len (xn : Int) ((ndF es (xn : Int)).take q) B0
          rw [hB0l] at hlq
          have htl : ((ndF es (xn : Int)).take q).length ≤ 60 := by rw [List.length_take]; omega
          clear hy hym
          generalize ((ndF es (xn : Int)).take q).foldl (lvS (xn : Int)) B0 = C at *
          have b1 := hbq xn
          have b2 := hbq yn
          have k1 := ho.cell (getD_some (l := C) (i := xn) (by omega))
          have k2 := ho.cell (getD_some (l := C) (i := yn) (by omega))
          have kf := ho.frozen xn
          have hst := ho.set_ xn (max (C.getD xn 0) (C.getD yn 0 + 1))
          have HT2 := Lib.hid (HT.out.trans (show lvS (xn : Int) C (yn : Int) = C.set xn (max (C.getD xn 0) (C.getD yn 0 + 1)) from rfl))
          rw [← HT2.out] at hst
          have hE := (Ex1.refl g wr).setCell (p := ⟨g, xn, none⟩) rfl (.int .i64 (max (C.getD xn 0) (C.getD yn 0 + 1)))
          have hr2 := hr.e1 hE hg1
          have hOI2 := hOI.e1 hE (by omega)
          have hP2 := hP.e1 hE (.inr hg1)
          have he2 := he.ex1 hE (by omega)
          have E8 := (Ex.refl (wr.setCell ⟨g, xn, none⟩ (.int .i64 (max (C.getD xn 0) (C.getD yn 0 + 1))))).drew
          have E9 := Ex.refl (wr.setCell ⟨g, xn, none⟩ (.int .i64 (max (C.getD xn 0) (C.getD yn 0 + 1))))
          clear HT HT2 hbq hlq hE ho hr hOI he hP
          generalize C.getD xn 0 = A at *
          generalize C.getD yn 0 = B at *
          rw [show max A (B + 1) = (if A < B + 1 then B + 1 else A) by split <;> omega] at hst hr2 hOI2 hP2 he2 E8 E9
          go_wp2_with fail
          go_region_with (fail)
          all_goals
            go_wp2_with fail
            go_roundw
            case rel => first
              | exact ⟨q + 1, by omega, by go_num, hst.ex E8, hr2.ex E8, hOI2.ex E8, hP2.ex E8, he2.trans E8⟩
              | exact ⟨q + 1, by omega, by go_num, hst.ex E9, hr2.ex E9, hOI2.ex E9, hP2.ex E9, he2.trans E9⟩
            case measure => simp [intOf]; omega
        · obtain rfl : q = (ndF es (xn : Int)).length := by omega
          rw [List.take_length] at ho
          go_wp2_with fail
          go_roundw
          case rel => exact ⟨k + 1, by omega, by go_num, by rw [HF.out]; exact ho, hr, hOI, he⟩
          case measure => simp [intOf]; omega
    · obtain rfl : k = (orderL es).length := by omega
      rw [List.take_length] at ho
      have HL := Lib.hid (levL_len es)
      go_wp2
      go_ret
      have hfr := (ho.fr (B := w.heap.size) (c := es.length) (by show (levL es).length ≤ _; rw [HL.out]; omega) (by omega) (by show (levL es).length ≤ _; rw [HL.out]; omega)).fi
      refine ⟨_, rfl, ⟨some ⟨g, 0, none⟩, es.length, ?_, hfr⟩, he⟩
      rw [HL.out]
      rfl
end Go.Proofs.Ytkpfmnconnopnaa
