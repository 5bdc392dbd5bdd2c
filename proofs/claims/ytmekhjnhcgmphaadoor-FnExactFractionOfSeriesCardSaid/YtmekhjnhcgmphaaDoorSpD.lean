/- The reference's kernel over Z/p: spNull. -/
import Derived.Test.YtmekhjnhcgmphaaDoorSpC
namespace Go.Proofs.YtmekhjnhcgmphaaDoor
set_option maxRecDepth 100000
open Go Go.RowKit
/-- The list of where the rows lead, when i rows have been looked at. -/
def LA (p : Int) (n : Nat) (M : List (List Int)) (i : Nat) (la : List Int) : Prop :=
  la.length = n ∧ ∀ (j : Nat) (x : Int), la[j]? = some x → (-1 ≤ x ∧ x ≤ 1000) ∧ (0 ≤ x ↔ ∃ (i' : Nat) (r : List Int), i' < i ∧ M[i']? = some r ∧ (zpOps p).lead r = j)
theorem LA.zero {p : Int} {n : Nat} {M : List (List Int)} {la : List Int} (hl : la.length = n) (h : ∀ (j : Nat) (x : Int), la[j]? = some x → x = -1) : LA p n M 0 la :=
  ⟨hl, fun j x hj => by
    have := h j x hj
    subst this
    exact ⟨⟨by omega, by omega⟩, ⟨fun e => by omega, fun ⟨_, _, e, _⟩ => by omega⟩⟩⟩
theorem LA.succ {p : Int} {n : Nat} {M : List (List Int)} {la : List Int} {i : Nat} {r : List Int} (h : LA p n M i la) (hr : M[i]? = some r) (hi : i ≤ 1000) : LA p n M (i + 1) (la.set ((zpOps p).lead r) i) := by
  refine ⟨by rw [List.length_set]; exact h.1, fun j x hj => ?_⟩
  rw [List.getElem?_set] at hj
  split at hj
  · rename_i e
    split at hj
    · injection hj with hj
      subst hj
      exact ⟨⟨by omega, by omega⟩, ⟨fun _ => ⟨i, r, by omega, hr, e⟩, fun _ => by omega⟩⟩
    · cases hj
  · rename_i e
    obtain ⟨h1, h2⟩ := h.2 j x hj
    refine ⟨h1, h2.trans ⟨fun ⟨i', r', a, b, c⟩ => ⟨i', r', by omega, b, c⟩, fun ⟨i', r', a, b, c⟩ => ?_⟩⟩
    by_cases e2 : i' = i
    · subst e2
      rw [hr] at b
      injection b with b
      subst b
      exact (e c).elim
    · exact ⟨i', r', by omega, b, c⟩
theorem RdMC.at_ {w : World} {A : Option Addr} {rows : List (List Int)} (h : RdMC w A rows) {k : Nat} (hk : k < rows.length) : ∃ g b c r, A = some ⟨g, 0, none⟩ ∧ rows[k]? = some r ∧ w.cell? ⟨g, k, none⟩ = some (.slice (some ⟨b, 0, none⟩) r.length c) ∧ r.length ≤ c ∧ Own w b r := by
  obtain ⟨g, b, c, h1, h2, h3, h4⟩ := h.2 k _ (List.getElem?_eq_getElem hk)
  exact ⟨g, b, c, _, h1, List.getElem?_eq_getElem hk, h2, h3, h4⟩
theorem GE.rdm {w : World} {B H n : Nat} {v : Value} {xs : List (List Int)} (h : GE ELI 38 w B H v xs) (hw : Wid n xs) (hl : xs.length ≤ 1099511627776) (hn : n ≤ 1099511627776) : ∃ A c, v = .slice A xs.length c ∧ RdM w A xs := by
  by_cases hv : v = .slice none 0 0
  · obtain ⟨_, _, e⟩ := h.nilv
    have e0 := e
    rw [hv] at e0
    injection e0 with _ e1 _
    have e2 : xs = [] := List.length_eq_zero_iff.1 e1.symm
    subst e2
    exact ⟨none, 0, hv, by simp, fun j r hj => by simp at hj⟩
  · obtain ⟨g, c, rfl, _⟩ := h.form hv
    obtain ⟨bs, hM, _⟩ := h.im hw
    have := hM.rdm hl hn xs.length
    rw [List.take_length] at this
    exact ⟨_, c, rfl, this⟩
set_option maxHeartbeats 16000000 in
theorem spNull_c (p : Int) (n : Nat) (rows : List (List Int)) (A : Option Addr) (c : Nat) (w : World) (hF : fieldB p = true) (h : RdM w A rows) (hw : Wid n rows) (hel : AllM p rows) (hn : n ≤ 1000) (hR : rows.length ≤ 1000) :
    Calls Tryd.prog 84 #[.int .i64 p, .int .i64 n, .slice A rows.length c] w fun e w' => ∃ A' c', e = .returned (.slice A' ((zpOps p).spNull n rows).length c') ∧ RdMC w' A' ((zpOps p).spNull n rows) ∧ Ex w w' := by
  have h2 := fieldB_lo hF
  have h97 := fieldB_hi hF
  have C1 := spReduce_c p n rows A c w hF h hw hel hn hR
  have HM := Lib.hid (zp_rref hF hel hw)
  have HF := Lib.hid hF
  unfold Ops.spNull
  obtain ⟨M, hMe⟩ : ∃ M, (zpOps p).rref n rows = M := ⟨_, rfl⟩
  rw [hMe] at C1 HM ⊢
  obtain ⟨R, hRe⟩ : ∃ R, rows.length = R := ⟨_, rfl⟩
  rw [hRe] at C1 ⊢
  clear hF h hw hel hR hMe hRe
  obtain ⟨ml, hml⟩ : ∃ ml, M.length = ml := ⟨_, rfl⟩
  have HMl := Lib.hid hml
  rw [hml] at C1
  have hms : ml ≤ n := by rw [← hml]; exact HM.out.2.2.2
  clear hml
  obtain ⟨NL, hNL⟩ : ∃ NL, (zpOps p).nullF n M = NL := ⟨_, rfl⟩
  have HNL := Lib.hid (show (zpOps p).nullTo n M n = NL from hNL)
  rw [hNL]
  have C2 : ∀ (A2 : Option Addr) (c2 : Nat) (W : World), RdM W A2 NL → Calls Tryd.prog 76 #[.int .i64 p, .int .i64 n, .slice A2 NL.length c2] W fun e w' => ∃ A' c', e = .returned (.slice A' ((zpOps p).rref n NL).length c') ∧ RdMC w' A' ((zpOps p).rref n NL) ∧ Ex W w' := fun A2 c2 W hA => by
    have hwn : Wid n NL := by rw [← hNL]; exact nullF_wid _ n M
    have hen : AllM p NL := by rw [← hNL]; exact zp_null HF.out HM.out.2.2.1
    have hln : NL.length ≤ n := by rw [← HNL.out]; exact nullTo_len n
    exact spReduce_c p n NL A2 c2 W HF.out hA hwn hen hn (by omega)
  clear hNL
  have hmk := fun W => run_make_ints n (by omega) W
  go_enter Tryd.func84, Tryd.ntmps84
  go_wp2_with fail
  refine C1.mono ?_
  rintro e w1 ⟨A1, c1, rfl, hm, x1⟩
  clear C1
  go_wp2_with fail
  have y1 := (Ex.refl w1).alloc (iObj (List.replicate n 0))
  have o1 := Own.new w1 (List.replicate n 0)
  obtain ⟨g, hg⟩ : ∃ g, w1.heap.size = g := ⟨_, rfl⟩
  rw [hg] at o1 ⊢
  generalize w1.alloc (iObj (List.replicate n 0)) = W1 at *
  go_loopw [25] (fun s25 wr => ∃ (k : Nat) (la : List Int), k ≤ n ∧ s25 = .int .i64 k ∧ Own wr g la ∧ la.length = n ∧ Hid (∀ (j : Nat) (x : Int), la[j]? = some x → j < k → x = -1) ∧ Ex w1 wr) (fun s25 _ => n - (intOf s25).toNat)
  case atStart => exact ⟨0, _, Nat.zero_le _, rfl, o1, by simp, Lib.hid (fun j x _ h => by omega), y1⟩
  case round =>
    rename World => wr
    obtain ⟨k, la, hk, rfl, ho, hlal, Hla, he⟩ := hrel
    clear o1 y1
    by_cases hkn : k < n
    · obtain ⟨y, hy⟩ : ∃ y, la[k]? = some y := ⟨_, List.getElem?_eq_getElem (by rw [hlal]; exact hkn)⟩
      have q1 := ho.cell hy
      have q2 := ho.frozen k
      clear hy
      go_wp2_with fail
      go_roundw
      case rel => exact ⟨k + 1, _, by omega, by go_num, ho.set_ k (-1), by rw [List.length_set]; exact hlal, Lib.hid (fun j x hj hjk => by
        rw [List.getElem?_set] at hj
        split at hj
        · split at hj
          · injection hj with hj; exact hj.symm
          · cases hj
        · exact Hla.out j x hj (by omega)), he.ex1 ((Ex1.refl g wr).setCell (p := ⟨g, k, none⟩) rfl _) (by omega)⟩
      case measure => simp [intOf]; omega
    have HLA := Lib.hid (LA.zero (p := p) (M := M) hlal fun j x hj => Hla.out j x hj (by have := (List.getElem?_eq_some_iff.1 hj).1; omega))
    have hkk : k = n := by omega
    subst hkk
    clear Hla hkn hk
    go_wp2_with fail
    go_loopw [34] (fun s34 wr => ∃ (i : Nat) (la : List Int), i ≤ ml ∧ s34 = .int .i64 i ∧ Own wr g la ∧ Hid (LA p k M i la) ∧ Ex w1 wr) (fun s34 _ => ml - (intOf s34).toNat)
    case atStart => exact ⟨0, la, Nat.zero_le _, rfl, ho, HLA, he⟩
    case round =>
      rename World => wr2
      clear ho HLA he hlal
      obtain ⟨i, la, hi, rfl, ho, HLA, he⟩ := hrel
      by_cases him : i < ml
      · obtain ⟨G, b, rc, r, rfl, hr, hc, hrc, hro⟩ := (hm.ex he).at_ (k := i) (by rw [HMl.out]; exact him)
        have Hrl := Lib.hid (HM.out.1 r (List.mem_of_getElem? hr))
        have hld := HM.out.2.1 r (List.mem_of_getElem? hr)
        have HS := Lib.hid (HLA.out.succ hr (by omega))
        have cL := spLead_c p r (some ⟨b, 0, none⟩) rc wr2 (hro.rd (by rw [Hrl.out]; omega))
        obtain ⟨l, hl⟩ : ∃ l, (zpOps p).lead r = l := ⟨_, rfl⟩
        rw [hl] at hld HS cL
        rw [Hrl.out] at cL hc
        obtain ⟨y, hy⟩ : ∃ y, la[l]? = some y := ⟨_, List.getElem?_eq_getElem (by rw [HLA.out.1]; exact hld)⟩
        have q1 := ho.cell hy
        have q2 := ho.frozen l
        clear hr hl hy
        go_wp2_with fail
        refine cL.mono ?_
        rintro e _ ⟨rfl, rfl⟩
        go_wp2_with fail
        go_roundw
        case rel => exact ⟨i + 1, _, by omega, by go_num, ho.set_ l i, HS, he.ex1 ((Ex1.refl g wr2).setCell (p := ⟨g, l, none⟩) rfl _) (by omega)⟩
        case measure => simp [intOf]; omega
      have hii : i = ml := by omega
      subst hii
      have HLO := Lib.hid (show ∀ (j : Nat) (x : Int), la[j]? = some x → (0 ≤ x ↔ ∃ r ∈ M, (zpOps p).lead r = j) from fun j x hj => (HLA.out.2 j x hj).2.trans ⟨fun ⟨i', r, _, b, c⟩ => ⟨r, List.mem_of_getElem? b, c⟩, fun ⟨r, a, b⟩ => by
        obtain ⟨i', hi'⟩ := List.getElem?_of_mem a
        exact ⟨i', r, by have := (List.getElem?_eq_some_iff.1 hi').1; rw [HMl.out] at this; exact this, hi', b⟩⟩)
      have hlal := HLA.out.1
      have hlab := Lib.hid (show ∀ (j : Nat) (x : Int), la[j]? = some x → -1 ≤ x ∧ x ≤ 1000 from fun j x hj => (HLA.out.2 j x hj).1)
      clear HLA him hi
      have x2 := x1.trans he
      have hm2 := hm.ex he
      have hgl := ho.lt
      go_wp2_with fail
      go_loopw [12, 13] (fun s12 s13 wr => ∃ (j : Nat), j ≤ k ∧ s13 = .int .i64 j ∧ GE ELI 38 wr wr2.heap.size wr.heap.size s12 ((zpOps p).nullTo k M j) ∧ Ex wr2 wr) (fun _ s13 _ => k - (intOf s13).toNat)
      case atStart => exact ⟨0, Nat.zero_le _, rfl, GE.nil _ _ _ _ _, Ex.refl _⟩
      case round =>
        rename World => wj
        obtain ⟨j, hj, rfl, hge, hej⟩ := hrel
        have hzj := hej.size
        by_cases hjk : j < k
        · obtain ⟨y, hy⟩ : ∃ y, la[j]? = some y := ⟨_, List.getElem?_eq_getElem (by rw [hlal]; exact hjk)⟩
          have q1 := (ho.ex hej).cell hy
          have hyb := hlab.out j y hy
          have HY := Lib.hid (HLO.out j y hy)
          clear hy
          by_cases hy0 : 0 ≤ y
          · have HN := Lib.hid (show (zpOps p).nullTo k M (j + 1) = (zpOps p).nullTo k M j by
              obtain ⟨r, hr, hl⟩ := HY.out.1 hy0
              exact nullTo_no hr hl)
            go_wp2_with fail
            go_roundw
            case rel => exact ⟨j + 1, by omega, by go_num, by rw [HN.out]; exact hge, hej⟩
            case measure => simp [intOf]; omega
          · have HN := Lib.hid (show (zpOps p).nullTo k M (j + 1) = (zpOps p).nullTo k M j ++ [(zpOps p).nullv k M j] from nullTo_yes fun r hr e => hy0 (HY.out.2 ⟨r, hr, e⟩))
            have htl := nullTo_len (O := zpOps p) (n := k) (R := M) j
            have o5 := Own.new wj (List.replicate k 0)
            have y5 := (Ex.refl wj).alloc (iObj (List.replicate k 0))
            have q5 := o5.cell (i := j) (x := 0) (by rw [List.getElem?_replicate, if_pos hjk])
            have q6 := o5.frozen j
            go_wp2_with fail
            have o6 := o5.set_ j 1
            have y6 := y5.ex1 ((Ex1.refl wj.heap.size _).setCell (p := ⟨wj.heap.size, j, none⟩) rfl (.int .i64 1)) (Nat.le_refl _)
            clear o5 y5 q5 q6 q1
            obtain ⟨v0, hv0⟩ : ∃ v0, (List.replicate k (0 : Int)).set j 1 = v0 := ⟨_, rfl⟩
            have HV0 := Lib.hid hv0
            have hvl : v0.length = k := by rw [← hv0]; simp
            rw [hv0] at o6
            clear hv0
            generalize (wj.alloc (iObj (List.replicate k 0))).setCell ⟨wj.heap.size, j, none⟩ (.int .i64 1) = W6 at *
            go_loopw [62] (fun s62 wr => ∃ (t : Nat), t ≤ i ∧ s62 = .int .i64 t ∧ Own wr wj.heap.size ((zpOps p).nset (M.take t) j v0) ∧ Ex wj wr) (fun s62 _ => i - (intOf s62).toNat)
            case atStart => exact ⟨0, Nat.zero_le _, rfl, o6, y6⟩
            case round =>
              rename World => wk
              clear o6 y6
              obtain ⟨t, ht, rfl, ho6, hek⟩ := hrel
              have hzk := hek.size
              by_cases hti : t < i
              · obtain ⟨G, b, rc, r, rfl, hr, hc, hrc, hro⟩ := (hm2.ex (hej.trans hek)).at_ (k := t) (by rw [HMl.out]; exact hti)
                have Hrl := Lib.hid (HM.out.1 r (List.mem_of_getElem? hr))
                have hld := HM.out.2.1 r (List.mem_of_getElem? hr)
                obtain ⟨x, hx⟩ : ∃ x, r[j]? = some x := ⟨_, List.getElem?_eq_getElem (by rw [Hrl.out]; exact hjk)⟩
                have hxb := allEl_at (HM.out.2.2.1 r (List.mem_of_getElem? hr)) hx
                have HS := Lib.hid (nset_succ (O := zpOps p) (j := j) (v := v0) hr)
                rw [(zpOps p).el_in hx] at HS
                have cL := stillC (spLead_c p r (some ⟨b, 0, none⟩) rc wk.drew (hro.drew.rd (by rw [Hrl.out]; omega)))
                have cN := stillC (fdNeg_c p x wk.drew h2 h97 hxb)
                obtain ⟨l, hl⟩ : ∃ l, (zpOps p).lead r = l := ⟨_, rfl⟩
                obtain ⟨nx, hnx⟩ : ∃ nx, (zpOps p).neg x = nx := ⟨_, rfl⟩
                rw [hl] at hld HS cL
                rw [hnx] at HS cN
                rw [Hrl.out] at cL hc
                have e1 := hro.cell hx
                obtain ⟨y2, hy2⟩ : ∃ y, ((zpOps p).nset (M.take t) j v0)[l]? = some y := ⟨_, List.getElem?_eq_getElem (by rw [nset_len, hvl]; exact hld)⟩
                have e2 := ho6.cell hy2
                have e3 := ho6.frozen l
                clear hr hl hx hy2 hnx
                go_wp2_with fail
                go_still_tail 12, (by kernel_rfl)
                still_call cL
                repeat still_step
                still_call cN
                repeat still_step
                refine wpStill_nil ?_
                change wpList _ _ _ _ _ wk.drew
                go_wp2_with fail
                go_roundw
                case rel => exact ⟨t + 1, by omega, by go_num, by rw [← HS.out]; exact ho6.drew.set_ l nx, hek.ex1 (((Ex1.refl wj.heap.size wk).setCell (p := ⟨wj.heap.size, l, none⟩) rfl _).drew) (Nat.le_refl _)⟩
                case measure => simp [intOf]; omega
              · have hvn : (zpOps p).nset (M.take t) j v0 = (zpOps p).nullv k M j := by
                  rw [List.take_of_length_le (by rw [HMl.out]; omega), ← HV0.out]; rfl
                rw [hvn] at ho6
                have hvk : ((zpOps p).nullv k M j).length = k := nullv_len _ k M j
                obtain ⟨v', w2, hrun, hge2, hE2⟩ := push_own (hge.ex hek) hzk ho6 (c := k) (by rw [hvk]; exact Nat.le_refl _) (Nat.le_refl _) hzj (by omega)
                rw [hvk] at hrun
                rw [← HN.out] at hge2
                have x9 := hE2 wr2 (hej.trans hek) (Nat.le_refl _)
                clear hE2 HN hvn hge ho6 htl
                go_wp2_with (at_builtin; refine wpList_append_run rfl _ _ _ rfl rfl rfl hrun ?_)
                go_roundw
                case rel => exact ⟨j + 1, by omega, by go_num, hge2, x9⟩
                case measure => simp [intOf]; omega
        · have hjj : j = k := by omega
          subst hjj
          rw [HNL.out] at hge
          have hwn : Wid j NL := by rw [← HNL.out]; exact nullF_wid _ j M
          have hln : NL.length ≤ j := by rw [← HNL.out]; exact nullTo_len j
          obtain ⟨A2, c2, rfl, hA2⟩ := hge.rdm hwn (by omega) (by omega)
          have cE := C2 A2 c2 wj hA2
          clear C2 hwn HNL HLO hlab
          go_wp2_with fail
          refine cE.mono ?_
          rintro e w9 ⟨A9, c9, rfl, h9, x9⟩
          go_wp2_with fail
          go_ret
          exact ⟨A9, c9, rfl, h9, (x2.trans hej).trans x9⟩
end Go.Proofs.YtmekhjnhcgmphaaDoor
