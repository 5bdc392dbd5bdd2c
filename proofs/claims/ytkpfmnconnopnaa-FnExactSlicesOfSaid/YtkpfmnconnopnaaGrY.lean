/- SlicesOf, on both sides. -/
import Derived.Test.YtkpfmnconnopnaaGrN
import Derived.Test.YtkpfmnconnopnaaSlA
namespace Go.Proofs.Ytkpfmnconnopnaa
set_option maxRecDepth 100000
open Go Go.RowKit
def slPad (out : List (List Int)) (k : Nat) : List (List Int) := out ++ List.replicate (k + 1 - out.length) []
def slPut (out : List (List Int)) (k : Nat) (e : Int) : List (List Int) := (slPad out k).set k ((slPad out k).getD k [] ++ [e])
def slK (lev : List Int) : Nat → List (List Int)
  | 0 => []
  | m + 1 => slPut (slK lev m) (lev.getD m 0).toNat (m : Int)
def slL (lev : List Int) : List (List Int) := slK lev lev.length
theorem slPad_len (out : List (List Int)) (k : Nat) : (slPad out k).length = max out.length (k + 1) := by
  rw [slPad, List.length_append, List.length_replicate]; omega
theorem slPut_len (out : List (List Int)) (k : Nat) (e : Int) : (slPut out k e).length = max out.length (k + 1) := by rw [slPut, List.length_set, slPad_len]
theorem slPad_done {out : List (List Int)} {k : Nat} (h : k < out.length) : slPad out k = out := by
  rw [slPad, show k + 1 - out.length = 0 by omega, List.replicate_zero, List.append_nil]
theorem slPad_more {out : List (List Int)} {k : Nat} (h : out.length ≤ k) : slPad (out ++ [[]]) k = slPad out k := by
  rw [slPad, slPad, List.append_assoc, List.length_append, List.length_singleton]
  congr 1
  rw [show k + 1 - out.length = (k + 1 - (out.length + 1)) + 1 by omega, List.replicate_succ]
  rfl
theorem slK_bd {lev : List Int} (h : ∀ i : Nat, 0 ≤ lev.getD i 0 ∧ lev.getD i 0 ≤ 3600) : ∀ m, (slK lev m).length ≤ 3601 ∧ ∀ r ∈ slK lev m, r.length ≤ m
  | 0 => ⟨by simp [slK], fun r hr => by simp [slK] at hr⟩
  | m + 1 => by
    obtain ⟨h1, h2⟩ := slK_bd h m
    have hb := h m
    refine ⟨?_, fun r hr => ?_⟩
    · rw [slK, slPut_len]; omega
    · rw [slK, slPut] at hr
      have hp : ∀ q ∈ slPad (slK lev m) (lev.getD m 0).toNat, q.length ≤ m := fun q hq => by
        rcases List.mem_append.1 hq with hq | hq
        · exact h2 q hq
        · rw [(List.mem_replicate.1 hq).2]; simp
      rcases List.mem_or_eq_of_mem_set hr with hr | hr
      · have := hp r hr; omega
      · rw [hr, List.length_append, List.length_singleton, List.getD_eq_getElem?_getD]
        cases e : (slPad (slK lev m) (lev.getD m 0).toNat)[(lev.getD m 0).toNat]? with
        | none => simp
        | some q => have := hp q (List.mem_of_getElem? e); simpa using this
theorem tot_le {rows : List (List Int)} {b : Nat} (h : ∀ r ∈ rows, r.length ≤ b) : totM rows ≤ rows.length * b := by
  show (((rows.map List.length).sum : Nat) : Int) ≤ _
  have : (rows.map List.length).sum ≤ rows.length * b := by
    induction rows with
    | nil => simp
    | cons r rs ih =>
      have h1 := h r (by simp)
      have h2 := ih (fun q hq => h q (by simp [hq]))
      rw [List.map_cons, List.sum_cons, List.length_cons, Nat.add_mul]
      omega
  exact_mod_cast this
def slU (x : Gr) : List (List Int) × Bool := if acyB x then (slL (levL x.es), true) else ([], false)
theorem slU_no {x : Gr} (h : acyB x = false) : slU x = ([], false) := by simp [slU, h]
theorem slU_yes {x : Gr} (h : acyB x = true) : slU x = (slL (levL x.es), true) := by simp [slU, h]
theorem lev_bd {es : List Ed} (h : es.length ≤ 60) : ∀ i : Nat, 0 ≤ (levL es).getD i 0 ∧ (levL es).getD i 0 ≤ 3600 := fun i => by
  have := Bd.lev es i
  have h2 : (es.length : Int) * (es.length : Int) ≤ 60 * 60 := Int.mul_le_mul (by omega) (by omega) (by omega) (by omega)
  omega
set_option maxHeartbeats 4000000 in
theorem SlicesOf_u (x : Gr) (v0 v1 v2 : Value) (w : World) (h : RGr w v0 v1 v2 x) :
    Calls Try.prog 25 #[.agg #[.int .i64 x.wires, v0, v1, v2]] w fun e w' => ∃ y, e = .returned (.tuple #[y, .bool (slU x).2]) ∧ OM2 w' w.heap.size w'.heap.size y (slU x).1 ∧ Ex w w' := by
  obtain ⟨⟨⟨E, ec, rfl, hE⟩, hEt⟩, ⟨I, ic, rfl, hI⟩, ⟨O, oc, rfl, hO⟩⟩ := h
  have x0 := (Ex.refl w).alloc (.cells #[.int .i64 x.wires, .slice E x.es.length ec, .slice I x.ins.length ic, .slice O x.outs.length oc] 30)
  have d0 := VB.new w 30 #[.int .i64 x.wires, .slice E x.es.length ec, .slice I x.ins.length ic, .slice O x.outs.length oc]
  go_enter Try.func25, Try.ntmps25
  go_wp2_with fail
  generalize w.alloc (.cells #[.int .i64 x.wires, .slice E x.es.length ec, .slice I x.ins.length ic, .slice O x.outs.length oc] 30) = W0 at *
  refine (isAcyclic_c x _ _ _ W0 ⟨⟨⟨E, ec, rfl, hE.ex x0⟩, hEt⟩, ⟨I, ic, rfl, hI.ex x0⟩, ⟨O, oc, rfl, hO.ex x0⟩⟩).mono ?_
  rintro e w1 ⟨rfl, x1⟩
  have d1 := d0.ex x1
  have q0 := d1.cell 0 (v := .int .i64 x.wires) rfl
  have q1 := d1.cell 1 (v := .slice E x.es.length ec) rfl
  have q2 := d1.cell 2 (v := .slice I x.ins.length ic) rfl
  have q3 := d1.cell 3 (v := .slice O x.outs.length oc) rfl
  have y1 := x0.trans x1
  cases hb : acyB x with
  | false =>
    have H := Lib.hid (slU_no hb)
    clear hb
    go_wp2
    go_ret2
    rw [H.out]
    exact ⟨_, rfl, ⟨⟨none, 0, rfl, FMI.nil _ _ _ _⟩, by simp [totM, tot]⟩, y1⟩
  | true =>
    have H := Lib.hid (slU_yes hb)
    have hes := acyB_es hb
    have hz := y1.size
    have hal := (Ex.refl w1).alloc (.cells #[] 23)
    have q0 := (d1.ex hal).cell 0 (v := .int .i64 x.wires) rfl
    have q1 := (d1.ex hal).cell 1 (v := .slice E x.es.length ec) rfl
    have q2 := (d1.ex hal).cell 2 (v := .slice I x.ins.length ic) rfl
    have q3 := (d1.ex hal).cell 3 (v := .slice O x.outs.length oc) rfl
    have hG : GR (w1.alloc (.cells #[] 23)) w.heap.size (.slice (some ⟨w1.heap.size, 0, none⟩) 0 0) [] [] := by
      obtain ⟨⟨a1, a2⟩, b⟩ := GR.empty w1 (B := w.heap.size) hz
      exact ⟨⟨a1, a2⟩, b⟩
    clear hb
    go_wp2_with fail
    refine (levels_c x.wires E ec x.es (.slice I x.ins.length ic) (.slice O x.outs.length oc) (w1.alloc (.cells #[] 23)) (hE.ex (y1.trans hal)) hes ⟨_, _, _, rfl⟩ ⟨_, _, _, rfl⟩).mono ?_
    rintro e w2 ⟨_, rfl, ⟨V, vc, rfl, fi⟩, x2⟩
    have S1 : (w1.alloc (.cells #[] 23)).heap.size = w1.heap.size + 1 := by simp
    rw [S1] at fi
    have he0 := (y1.trans hal).trans x2
    have hG := hG.ex x2
    have hSep : SepG (.slice (some ⟨w1.heap.size, 0, none⟩) 0 0) [] (w1.heap.size + 1) w2.heap.size := ⟨fun b e => (by injection e with e; subst e; exact .inl (Nat.lt_succ_self _)), fun j u b h => (by simp at h)⟩
    have hOI0 : OI w2 (w1.heap.size + 1) w2.heap.size (.slice V (levL x.es).length vc) (levL x.es) := ⟨V, vc, rfl, fi⟩
    have hQ0 : w2.heap.size ≤ w2.heap.size := Nat.le_refl _
    clear q0 q1 q2 q3 hal x2 S1
    go_wp2_with fail
    obtain ⟨lev, hlev⟩ : ∃ l, levL x.es = l := ⟨_, rfl⟩
    have hbd := lev_bd hes
    have hll : lev.length ≤ 60 := by rw [← hlev, levL_len]; exact hes
    rw [hlev] at fi hbd H ⊢
    clear hlev
    have hVl := fi.rd.len
    go_loopw [4, 14] (fun o i wr => ∃ (m : Nat) (vs : List Value), m ≤ lev.length ∧ i = .int .i64 m ∧ GR wr w.heap.size o vs (slK lev m) ∧ SepG o vs (w1.heap.size + 1) w2.heap.size ∧ OI wr (w1.heap.size + 1) w2.heap.size (.slice V lev.length vc) lev ∧ w2.heap.size ≤ wr.heap.size ∧ Ex w wr) (fun _ i _ => lev.length - (intOf i).toNat)
    case atStart => exact ⟨0, [], Nat.zero_le _, rfl, hG, hSep, ⟨V, vc, rfl, fi⟩, hQ0, he0⟩
    case round =>
      clear hG hSep hOI0 hQ0 he0
      obtain ⟨m, vs, hm, rfl, hG, hSep, hOI, hQ, he⟩ := hrel
      obtain ⟨hk1, hk2⟩ := slK_bd hbd m
      by_cases hlt : m < lev.length
      · obtain ⟨V', vc', hV, hfi⟩ := hOI
        injection hV with e1 _ e3
        subst e1 e3
        obtain ⟨g', off, z, rfl, hz', hg', hc'⟩ := hfi.rd.at_ hlt
        have hOI : OI wr (w1.heap.size + 1) w2.heap.size (.slice (some ⟨g', off, none⟩) lev.length vc) lev := ⟨_, _, rfl, hfi⟩
        have hzb := hbd m
        rw [List.getD_eq_getElem?_getD, hz', Option.getD_some] at hzb
        obtain ⟨k, rfl⟩ := Int.eq_ofNat_of_zero_le hzb.1
        have Hz := Lib.hid hz'
        have hk3600 : k ≤ 3600 := by omega
        clear hz' hfi hzb
        go_wp2_with fail
        go_loopw [4] (fun o wi => ∃ (rows : List (List Int)) (vs : List Value), rows.length ≤ 3601 ∧ (∀ r ∈ rows, r.length ≤ m) ∧ Hid (slPad rows k = slPad (slK lev m) k) ∧ GR wi w.heap.size o vs rows ∧ SepG o vs (w1.heap.size + 1) w2.heap.size ∧ OI wi (w1.heap.size + 1) w2.heap.size (.slice (some ⟨g', off, none⟩) lev.length vc) lev ∧ w2.heap.size ≤ wi.heap.size ∧ Ex w wi) (fun o _ => match o with | .slice _ n _ => 3602 - n | _ => 0)
        case atStart => exact ⟨_, vs, hk1, hk2, Lib.hid rfl, hG, hSep, hOI, hQ, he⟩
        case round =>
          clear hG hSep hOI hQ he
          obtain ⟨rows, vs, hr1, hr2, Hpad, hG, hSep, hOI, hQ, he⟩ := hrel
          obtain ⟨A, ac, rfl⟩ := hG.form
          have hesz := he.size
          by_cases hkr : rows.length ≤ k
          · obtain ⟨v', w9, hrun, hG9, hI9, hO9, ho9⟩ := hG.push hesz (by omega)
            have hSep9 := hSep.push ho9 hQ
            have hOI9 : OI w9 (w1.heap.size + 1) w2.heap.size (.slice (some ⟨g', off, none⟩) lev.length vc) lev := hOI.keep fun q h1 h2 h3 => hO9.block q h3 (fun e => by have := hSep.1 q e.symm; omega)
            have he9 := he.iv hI9 (Nat.le_refl _)
            have hQ9 := Nat.le_trans hQ hI9.size
            obtain ⟨A9, ac9, rfl⟩ := hG9.form
            have Hp := Lib.hid ((slPad_more hkr).trans Hpad.out)
            have hl9 : (rows ++ [[]]).length = rows.length + 1 := by simp
            have hr9 : ∀ r ∈ rows ++ [[]], r.length ≤ m := fun r hr => by
              rcases List.mem_append.1 hr with hr | hr
              · exact hr2 r hr
              · simp at hr; subst hr; simp
            have hkr' : (rows.length : Int) ≤ (k : Int) := by omega
            rw [hl9] at hG9 hSep9 hrun
            generalize hRR : rows ++ [[]] = R9 at *
            have Hl9 := Lib.hid hl9
            clear hG hSep hOI he hl9 hRR
            go_wp2_with (at_builtin; refine wpList_append_run rfl _ _ _ rfl rfl rfl hrun ?_)
            go_roundw
            case rel => exact ⟨R9, _, by have := Hl9.out; omega, hr9, Hp, hG9, hSep9, hOI9, hQ9, he9⟩
            case measure => (show 3602 - (rows.length + 1) < 3602 - rows.length; omega)
          · have hkl : k < rows.length := by omega
            have hkr' : ¬ ((rows.length : Int) ≤ (k : Int)) := by omega
            have Hrw := Lib.hid (show rows = slPad (slK lev m) k by rw [← Hpad.out, slPad_done hkl])
            obtain ⟨r, hr⟩ : ∃ r, rows[k]? = some r := ⟨_, List.getElem?_eq_getElem hkl⟩
            obtain ⟨g, cap, u, hA, hu, hcu, hfu, halu, hug, hgB, hgl⟩ := hG.at_ hr
            injection hA with a1 _ a3
            subst a1 a3
            have hrl := hr2 r (List.mem_of_getElem? hr)
            obtain ⟨U, uc, rfl, _⟩ := halu.form (by omega)
            obtain ⟨u', w9, hrun, hal9, hE9, ho9⟩ := al_push_o wr w.heap.size _ r (m : Int) halu hesz (by omega)
            obtain ⟨U9, uc9, rfl, _⟩ := hal9.form (by rw [List.length_append, List.length_singleton]; omega)
            obtain ⟨hGF, hIF, hFr⟩ := hG.put hr hu hal9 hE9 ho9
            have hSepF := hSep.put hu ho9 hQ
            have hgS := hSep.1 g rfl
            have hOIF : OI (w9.setCell ⟨g, k, none⟩ (.slice U9 (r ++ [(m : Int)]).length uc9)) (w1.heap.size + 1) w2.heap.size (.slice (some ⟨g', off, none⟩) lev.length vc) lev := hOI.keep fun q h1 h2 h3 => hFr q h3 (fun e => by have := hSep.2 k _ q hu e; omega) (by omega)
            have heF := he.iv hIF (Nat.le_refl _)
            have hQF := Nat.le_trans hQ hIF.size
            have hbg : w9.heap[g]? = wr.heap[g]? := hE9.block g hgl (fun e => hug e.symm)
            have hc9 := (World.cell?_of_block (w := wr) (a := ⟨g, k, none⟩) hbg).trans hcu
            have hf9 : w9.frozen? ⟨g, k, none⟩ = false := by
              have := hfu
              unfold World.frozen? at this ⊢
              rw [hbg]; exact this
            have hA5 := (Ex.refl wr).alloc (.cells #[.int .i64 m] 3)
            have hcA := cell_ex hA5 hcu
            have HK := Lib.hid (show slK lev (m + 1) = rows.set k (r ++ [(m : Int)]) by
              rw [slK, List.getD_eq_getElem?_getD, Hz.out, Option.getD_some, Int.toNat_natCast, slPut, ← Hrw.out, List.getD_eq_getElem?_getD, hr]; rfl)
            rw [← HK.out] at hGF
            have hlen2 : (slK lev (m + 1)).length = rows.length := by rw [HK.out, List.length_set]
            clear hr hG hSep hOI he hal9 hE9 hu halu hug HK
            generalize hRL : (r ++ [(m : Int)]).length = rl at *
            clear hRL
            go_wp2_with (at_builtin; refine wpList_append_run rfl _ _ _ rfl rfl rfl hrun ?_)
            go_roundw
            case rel => exact ⟨m + 1, _, by omega, by go_num, hGF, hSepF, hOIF, hQF, heF⟩
            case measure => simp [intOf]; omega
      · obtain rfl : m = lev.length := by omega
        have hO := hG.om2 (by omega) (fun r hr => by have := hk2 r hr; omega) (by
          have h1 := tot_le hk2
          have h2 : ((slK lev lev.length).length : Int) * (lev.length : Int) ≤ 3601 * 60 := Int.mul_le_mul (by omega) (by omega) (by omega) (by omega)
          omega) he.size
        obtain ⟨A, ac, rfl⟩ := hG.form
        go_wp2
        go_ret2
        rw [H.out]
        exact ⟨_, rfl, hO, he⟩
set_option maxHeartbeats 4000000 in
theorem spSlicesOf_u (x : Gr) (v0 v1 v2 : Value) (w : World) (h : RGr w v0 v1 v2 x) :
    Calls Try.prog 24 #[.agg #[.int .i64 x.wires, v0, v1, v2]] w fun e w' => ∃ y, e = .returned (.tuple #[y, .bool (slU x).2]) ∧ RM w' y (slU x).1 ∧ Ex w w' := by
  obtain ⟨⟨⟨E, ec, rfl, hE⟩, hEt⟩, ⟨I, ic, rfl, hI⟩, ⟨O, oc, rfl, hO⟩⟩ := h
  have x0 := (Ex.refl w).alloc (.cells #[.int .i64 x.wires, .slice E x.es.length ec, .slice I x.ins.length ic, .slice O x.outs.length oc] 30)
  have d0 := VB.new w 30 #[.int .i64 x.wires, .slice E x.es.length ec, .slice I x.ins.length ic, .slice O x.outs.length oc]
  go_enter Try.func24, Try.ntmps24
  go_wp2_with fail
  generalize w.alloc (.cells #[.int .i64 x.wires, .slice E x.es.length ec, .slice I x.ins.length ic, .slice O x.outs.length oc] 30) = W0 at *
  refine (rbGood_c x E ec I ic O oc W0 (hE.ex x0) (hI.ex x0) (hO.ex x0)).mono ?_
  rintro e w1 ⟨rfl, x1⟩
  have d1 := d0.ex x1
  have q0 := d1.cell 0 (v := .int .i64 x.wires) rfl
  have q1 := d1.cell 1 (v := .slice E x.es.length ec) rfl
  have q2 := d1.cell 2 (v := .slice I x.ins.length ic) rfl
  have q3 := d1.cell 3 (v := .slice O x.outs.length oc) rfl
  have y1 := x0.trans x1
  cases hb : acyB x with
  | false =>
    have H := Lib.hid (slU_no hb)
    clear hb
    go_wp2
    go_ret2
    rw [H.out]
    exact ⟨_, rfl, ⟨⟨none, 0, rfl, (FMI.nil w1 0 0 _).rd⟩, by simp [totM, tot]⟩, y1⟩
  | true =>
    have H := Lib.hid (slU_yes hb)
    have hes := acyB_es hb
    have hz := y1.size
    have hc := rbLevels_c x.wires E ec x.es (.slice I x.ins.length ic) (.slice O x.outs.length oc) w1 (hE.ex y1) hes ⟨_, _, _, rfl⟩ ⟨_, _, _, rfl⟩
    clear hb
    go_wp2_with fail
    refine hc.mono ?_
    rintro e w2 ⟨_, rfl, ⟨V, vc, rfl, fi⟩, x2⟩
    clear hc
    go_wp2_with fail
    have hG : GR w2 w.heap.size (.slice none 0 0) [] [] := GR.nil _ _
    have hSep : SepG (.slice none 0 0) [] w1.heap.size w2.heap.size := ⟨fun b e => (by cases e), fun j u b h => (by simp at h)⟩
    have hOI0 : OI w2 w1.heap.size w2.heap.size (.slice V (levL x.es).length vc) (levL x.es) := ⟨V, vc, rfl, fi⟩
    have he0 := y1.trans x2
    have hQ0 : w2.heap.size ≤ w2.heap.size := Nat.le_refl _
    clear x2
    obtain ⟨lev, hlev⟩ : ∃ l, levL x.es = l := ⟨_, rfl⟩
    have hbd := lev_bd hes
    have hll : lev.length ≤ 60 := by rw [← hlev, levL_len]; exact hes
    rw [hlev] at fi hbd H ⊢
    clear hlev
    have hVl := fi.rd.len
    go_loopw [4, 13] (fun o i wr => ∃ (m : Nat) (vs : List Value), m ≤ lev.length ∧ i = .int .i64 m ∧ GR wr w.heap.size o vs (slK lev m) ∧ SepG o vs w1.heap.size w2.heap.size ∧ OI wr w1.heap.size w2.heap.size (.slice V lev.length vc) lev ∧ w2.heap.size ≤ wr.heap.size ∧ Ex w wr) (fun _ i _ => lev.length - (intOf i).toNat)
    case atStart => exact ⟨0, [], Nat.zero_le _, rfl, hG, hSep, ⟨V, vc, rfl, fi⟩, hQ0, he0⟩
    case round =>
      clear hG hSep hOI0 hQ0 he0
      obtain ⟨m, vs, hm, rfl, hG, hSep, hOI, hQ, he⟩ := hrel
      obtain ⟨hk1, hk2⟩ := slK_bd hbd m
      by_cases hlt : m < lev.length
      · obtain ⟨V', vc', hV, hfi⟩ := hOI
        injection hV with e1 _ e3
        subst e1 e3
        obtain ⟨g', off, z, rfl, hz', hg', hc'⟩ := hfi.rd.at_ hlt
        have hOI : OI wr w1.heap.size w2.heap.size (.slice (some ⟨g', off, none⟩) lev.length vc) lev := ⟨_, _, rfl, hfi⟩
        have hzb := hbd m
        rw [List.getD_eq_getElem?_getD, hz', Option.getD_some] at hzb
        obtain ⟨k, rfl⟩ := Int.eq_ofNat_of_zero_le hzb.1
        have Hz := Lib.hid hz'
        have hk3600 : k ≤ 3600 := by omega
        clear hz' hfi hzb
        go_wp2_with fail
        go_loopw [4] (fun o wi => ∃ (rows : List (List Int)) (vs : List Value), rows.length ≤ 3601 ∧ (∀ r ∈ rows, r.length ≤ m) ∧ Hid (slPad rows k = slPad (slK lev m) k) ∧ GR wi w.heap.size o vs rows ∧ SepG o vs w1.heap.size w2.heap.size ∧ OI wi w1.heap.size w2.heap.size (.slice (some ⟨g', off, none⟩) lev.length vc) lev ∧ w2.heap.size ≤ wi.heap.size ∧ Ex w wi) (fun o _ => match o with | .slice _ n _ => 3602 - n | _ => 0)
        case atStart => exact ⟨_, vs, hk1, hk2, Lib.hid rfl, hG, hSep, hOI, hQ, he⟩
        case round =>
          clear hG hSep hOI hQ he
          obtain ⟨rows, vs, hr1, hr2, Hpad, hG, hSep, hOI, hQ, he⟩ := hrel
          obtain ⟨A, ac, rfl⟩ := hG.form
          have hesz := he.size
          by_cases hkr : rows.length ≤ k
          · obtain ⟨v', w9, hrun, hG9, hI9, hO9, ho9⟩ := hG.push hesz (by omega)
            have hSep9 := hSep.push ho9 hQ
            have hOI9 : OI w9 w1.heap.size w2.heap.size (.slice (some ⟨g', off, none⟩) lev.length vc) lev := hOI.keep fun q h1 h2 h3 => hO9.block q h3 (fun e => by have := hSep.1 q e.symm; omega)
            have he9 := he.iv hI9 (Nat.le_refl _)
            have hQ9 := Nat.le_trans hQ hI9.size
            obtain ⟨A9, ac9, rfl⟩ := hG9.form
            have Hp := Lib.hid ((slPad_more hkr).trans Hpad.out)
            have hl9 : (rows ++ [[]]).length = rows.length + 1 := by simp
            have hr9 : ∀ r ∈ rows ++ [[]], r.length ≤ m := fun r hr => by
              rcases List.mem_append.1 hr with hr | hr
              · exact hr2 r hr
              · simp at hr; subst hr; simp
            have hkr' : (rows.length : Int) ≤ (k : Int) := by omega
            rw [hl9] at hG9 hSep9 hrun
            generalize hRR : rows ++ [[]] = R9 at *
            have Hl9 := Lib.hid hl9
            clear hG hSep hOI he hl9 hRR
            go_wp2_with (at_builtin; refine wpList_append_run rfl _ _ _ rfl rfl rfl hrun ?_)
            go_roundw
            case rel => exact ⟨R9, _, by have := Hl9.out; omega, hr9, Hp, hG9, hSep9, hOI9, hQ9, he9⟩
            case measure => (show 3602 - (rows.length + 1) < 3602 - rows.length; omega)
          · have hkl : k < rows.length := by omega
            have hkr' : ¬ ((rows.length : Int) ≤ (k : Int)) := by omega
            have Hrw := Lib.hid (show rows = slPad (slK lev m) k by rw [← Hpad.out, slPad_done hkl])
            obtain ⟨r, hr⟩ : ∃ r, rows[k]? = some r := ⟨_, List.getElem?_eq_getElem hkl⟩
            obtain ⟨g, cap, u, hA, hu, hcu, hfu, halu, hug, hgB, hgl⟩ := hG.at_ hr
            injection hA with a1 _ a3
            subst a1 a3
            have hrl := hr2 r (List.mem_of_getElem? hr)
            obtain ⟨U, uc, rfl, _⟩ := halu.form (by omega)
            obtain ⟨u', w9, hrun, hal9, hE9, ho9⟩ := al_push_o wr w.heap.size _ r (m : Int) halu hesz (by omega)
            obtain ⟨U9, uc9, rfl, _⟩ := hal9.form (by rw [List.length_append, List.length_singleton]; omega)
            obtain ⟨hGF, hIF, hFr⟩ := hG.put hr hu hal9 hE9 ho9
            have hSepF := hSep.put hu ho9 hQ
            have hgS := hSep.1 g rfl
            have hOIF : OI (w9.setCell ⟨g, k, none⟩ (.slice U9 (r ++ [(m : Int)]).length uc9)) w1.heap.size w2.heap.size (.slice (some ⟨g', off, none⟩) lev.length vc) lev := hOI.keep fun q h1 h2 h3 => hFr q h3 (fun e => by have := hSep.2 k _ q hu e; omega) (by omega)
            have heF := he.iv hIF (Nat.le_refl _)
            have hQF := Nat.le_trans hQ hIF.size
            have hbg : w9.heap[g]? = wr.heap[g]? := hE9.block g hgl (fun e => hug e.symm)
            have hc9 := (World.cell?_of_block (w := wr) (a := ⟨g, k, none⟩) hbg).trans hcu
            have hf9 : w9.frozen? ⟨g, k, none⟩ = false := by
              have := hfu
              unfold World.frozen? at this ⊢
              rw [hbg]; exact this
            have hA5 := (Ex.refl wr).alloc (.cells #[.int .i64 m] 3)
            have hcA := cell_ex hA5 hcu
            have HK := Lib.hid (show slK lev (m + 1) = rows.set k (r ++ [(m : Int)]) by
              rw [slK, List.getD_eq_getElem?_getD, Hz.out, Option.getD_some, Int.toNat_natCast, slPut, ← Hrw.out, List.getD_eq_getElem?_getD, hr]; rfl)
            rw [← HK.out] at hGF
            have hlen2 : (slK lev (m + 1)).length = rows.length := by rw [HK.out, List.length_set]
            clear hr hG hSep hOI he hal9 hE9 hu halu hug HK
            generalize hRL : (r ++ [(m : Int)]).length = rl at *
            clear hRL
            go_wp2_with (at_builtin; refine wpList_append_run rfl _ _ _ rfl rfl rfl hrun ?_)
            go_roundw
            case rel => exact ⟨m + 1, _, by omega, by go_num, hGF, hSepF, hOIF, hQF, heF⟩
            case measure => simp [intOf]; omega
      · obtain rfl : m = lev.length := by omega
        have hO := hG.om2 (by omega) (fun r hr => by have := hk2 r hr; omega) (by
          have h1 := tot_le hk2
          have h2 : ((slK lev lev.length).length : Int) * (lev.length : Int) ≤ 3601 * 60 := Int.mul_le_mul (by omega) (by omega) (by omega) (by omega)
          omega) he.size
        obtain ⟨A, ac, rfl⟩ := hG.form
        go_wp2
        go_ret2
        rw [H.out]
        exact ⟨_, rfl, hO.rd, he⟩
end Go.Proofs.Ytkpfmnconnopnaa
