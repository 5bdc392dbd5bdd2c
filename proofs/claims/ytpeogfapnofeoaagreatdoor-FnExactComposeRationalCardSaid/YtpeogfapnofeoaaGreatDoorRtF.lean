/- The elimination of rational rows: the program's ratReduction. -/
import Derived.Test.YtpeogfapnofeoaaGreatDoorPkE
import Derived.Shelf.Abstract
namespace Go.Proofs.YtpeogfapnofeoaaGreatDoor
set_option maxRecDepth 100000
open Go Go.RowKit
/-- Where the elimination stands behind c columns. -/
def stg {K : Type} (O : Ops K) (Z0 : List (List K)) : Nat → List (List K) × Nat
  | 0 => (Z0, 0)
  | c + 1 => if O.fnd (stg O Z0 c).1 (stg O Z0 c).2 c < (stg O Z0 c).1.length then (O.piv (stg O Z0 c).1 (stg O Z0 c).2 c (O.fnd (stg O Z0 c).1 (stg O Z0 c).2 c), (stg O Z0 c).2 + 1) else stg O Z0 c
set_option maxHeartbeats 16000000 in
theorem ratReduction_c (p : Int) (S KS : Nat → Prop) (G G' : Nat) (bs0 bs0' : List (Option Nat)) (Z0 : List (List Fra)) (n m R cG cG' : Nat) (w : World) (hF : fieldB p = true) (hS : ∀ z, S z → z < w.heap.size) (h : RtTwo w S KS G G' bs0 bs0' Z0 n m) (hW : Wid (n + m) Z0) (hGd : ∀ c, c ≤ n → GdM p 17179869184 (stg (frOps p) Z0 c).1) (hR : Z0.length = R)
    (hn : n ≤ 1000) (hm : m ≤ 1000) (hR1 : R ≤ 1000) (hc1 : R ≤ cG) (hc2 : cG ≤ 9223372036854775807) :
    Calls Tryz.prog 111 #[.int .i64 p, .slice (some ⟨G, 0, none⟩) R cG, .int .i64 n, .slice (some ⟨G', 0, none⟩) R cG'] w fun e w' => ∃ bs bs', e = .returned (.int .i64 ((frOps p).red n 0 0 Z0).2) ∧ RtTwo w' S KS G G' bs bs' ((frOps p).red n 0 0 Z0).1 n m ∧ ExS S w w' := by
  obtain ⟨FIN, hFIN⟩ : ∃ FIN, (frOps p).red n 0 0 Z0 = FIN := ⟨_, rfl⟩
  rw [hFIN]
  have HF := Lib.hid hF
  have HW := Lib.hid hW
  have HG := Lib.hid (show stg (frOps p) Z0 0 = (Z0, 0) from rfl)
  have HGd := Lib.hid hGd
  have HRR := Lib.hid hR
  have HFIN := Lib.hid hFIN
  have HS := Lib.hid hS
  clear hF hW hGd hR hFIN hS
  go_enter Tryz.func111, Tryz.ntmps111
  go_wp2_with fail
  have x0 := (Ex.refl w).alloc (.cells #[.int .i64 0] 3)
  have v0 := VB.new w 3 #[.int .i64 0]
  generalize w.alloc (.cells #[.int .i64 0] 3) = W0 at *
  have h0 := h.ex x0
  go_loopg [9, 10] n (fun f s9 s10 wi => ∃ (c r q : Nat) (bs bs' : List (Option Nat)) (Z : List (List Fra)), c + f = n ∧ s9 = .int .i64 r ∧ s10 = .pointer (some ⟨q, 0, none⟩) ∧ VB wi q 3 #[.int .i64 c] ∧ w.heap.size ≤ q ∧ RtTwo wi S KS G G' bs bs' Z n m ∧ Hid (Wid (n + m) Z) ∧ Hid (stg (frOps p) Z0 c = (Z, r)) ∧ Hid (Z.length = R) ∧ r ≤ R ∧ Hid ((frOps p).red f c r Z = FIN) ∧ ExS S w wi)
  case atStart => exact ⟨0, 0, w.heap.size, bs0, bs0', Z0, by omega, rfl, rfl, v0, Nat.le_refl _, h0, HW, HG, HRR, Nat.zero_le _, HFIN, ExS.of_ex x0⟩
  case round =>
    clear h0 v0 HW HG HRR HFIN h
    obtain ⟨c, r, q, bs, bs', Z, hcf, rfl, rfl, hq, hql, hT, HW, HG, HZ, hrR, HFIN, he⟩ := hrel
    have HGm := Lib.hid (show GdM p 17179869184 Z by have := HGd.out c (by omega); rw [HG.out] at this; exact this)
    have q0 := hq.cell 0 (v := .int .i64 c) rfl
    have q1 := hq.frozen 0
    have fin : ∀ f, gk = f → (f = 0 ∨ R ≤ r) → FIN = (Z, r) := fun f e e2 => by
      rw [← HFIN.out]
      subst e
      rcases e2 with e2 | e2
      · rw [e2]; rfl
      · exact red_full _ _ _ _ _ (by rw [HZ.out]; exact e2)
    cases gk with
    | zero =>
      obtain rfl : c = n := by omega
      have H := Lib.hid (fin 0 rfl (.inl rfl))
      clear fin
      go_wp2_with fail
      go_ret
      rw [H.out]
      exact ⟨bs, bs', rfl, hT, he⟩
    | succ f =>
      by_cases hlt : r < R
      · clear fin
        obtain ⟨vs, hvl, hvs, hrd⟩ := hT.r.vals (by rw [List.length_map, HZ.out]; omega)
        rw [List.length_map, HZ.out] at hvl
        have hrdr := hrd r
        obtain ⟨qs, hqs⟩ : ∃ qs, (Z.drop r).map (fun row => !iszF ((frOps p).el row c)) = qs := ⟨_, rfl⟩
        have hql2 : qs.length = (vs.drop r).length := by rw [← hqs, List.length_map, List.length_drop, List.length_drop, HZ.out, hvl]
        have hcall := idxRows_c 139 (enters_of Tryz.func139 (by kernel_rfl) rfl) #[.pointer (some ⟨q, 0, none⟩)] qs (some ⟨G, r, none⟩) (cG - r) (vs.drop r) wr hrdr hql2 (fun W i v b hx hv hb => by
          have hil := (List.getElem?_eq_some_iff.1 hv).1
          rw [List.length_drop, hvl] at hil
          obtain ⟨ob, row, c9, hob, hrow, hrl, hFB, _⟩ := (hT.ex hx).r.at_ (j := r + i) (by rw [List.length_map, HZ.out]; omega)
          obtain ⟨c8, hv8⟩ := hvs _ ob hob
          rw [List.getElem?_drop, hv8] at hv
          injection hv with hv
          subst hv
          rw [← hrl]
          refine ratRed1_c p S ob row c c8 q W hFB (by omega) (cell_ex hx q0) (by omega) b ?_
          rw [← hqs, List.getElem?_map, List.getElem?_drop] at hb
          rw [List.getElem?_map] at hrow
          cases hz : Z[r + i]? with
          | none => rw [hz] at hrow; cases hrow
          | some z =>
            rw [hz] at hrow hb
            injection hrow with hrow
            injection hb with hb
            rw [← hb, ← hrow]
            have : (frOps p).el (z.take n) c = (frOps p).el z c := by
              unfold Ops.el
              rw [List.getD_eq_getElem?_getD, List.getD_eq_getElem?_getD, List.getElem?_take, if_pos (by omega)]
            rw [this])
        rw [show (vs.drop r).length = R - r by rw [List.length_drop, hvl]] at hcall
        have hdec := fnd_idx (p := p) Z r c qs hqs.symm (by rw [HZ.out]; omega)
        have hcr : ¬ (cG = r) := by omega
        clear hrd hrdr hql2 hvs hvl hqs
        have HD := Lib.hid hdec
        clear hdec
        go_wp2_with fail
        refine hcall.mono ?_
        rintro e w5 ⟨rfl, x5⟩
        have hT5 := hT.ex x5
        have hq5 := hq.ex x5
        have he5 := he.trans (ExS.of_ex (S := S) x5) (fun _ _ h => h)
        have hqq := hq5.lt
        clear hcall hT hq he q0 q1 vs
        have q0 := hq5.cell 0 (v := .int .i64 c) rfl
        have q1 := hq5.frozen 0
        rcases HD.out with ⟨hi, hnf⟩ | ⟨k, hi, hfd, hkl⟩
        · rw [hi]
          have HN := Lib.hid (show (frOps p).red f (c + 1) r Z = FIN by rw [← HFIN.out, Ops.red, if_neg hnf])
          have HSk := Lib.hid (show stg (frOps p) Z0 (c + 1) = (Z, r) by rw [stg, HG.out]; exact if_neg hnf)
          clear hi hnf HD
          go_wp2_with fail
          have y6 := (Ex.refl w5).alloc (.cells #[.int .i64 ((c : Int) + 1)] 3)
          have v6 := VB.new w5 3 #[.int .i64 ((c : Int) + 1)]
          go_roundg f
          case measure => omega
          case rel => exact ⟨c + 1, r, w5.heap.size, bs, bs', Z, by omega, rfl, rfl, by simpa using v6, Nat.le_of_lt (by omega), hT5.ex y6, HW, HSk, HZ, hrR, HN, he5.trans (ExS.of_ex (S := S) y6) (fun _ _ h => h)⟩
        · rw [hi]
          have HN := Lib.hid (show (frOps p).red f (c + 1) (r + 1) ((frOps p).piv Z r c (r + k)) = FIN by rw [← HFIN.out, Ops.red, if_pos (by rw [hfd]; exact hkl), hfd])
          have HX := Lib.hid (show iszF ((frOps p).el (Z.getD (r + k) []) c) = false by
            have := (fnd_some (frOps p) (show (frOps p).fnd Z r c < Z.length by rw [hfd]; exact hkl)).2
            rw [hfd] at this; exact this)
          have hkR : r + k < R := by rw [← HZ.out]; exact hkl
          have HSk := Lib.hid (show stg (frOps p) Z0 (c + 1) = ((frOps p).piv Z r c (r + k), r + 1) by rw [stg, HG.out]; dsimp only; rw [hfd, if_pos hkl])
          clear hi hfd HD hkl
          obtain ⟨K, hK⟩ : ∃ K, r + k = K := ⟨_, rfl⟩
          have hwr : IntKind.i64.wrap ((r : Int) + (k : Int)) = (K : Int) := by rw [IntWalk.i64_in _ (by omega)]; omega
          rw [hK] at HN HX hkR HSk
          have hrK : r ≤ K := by omega
          have HK := Lib.hid hK
          clear hK
          obtain ⟨oi, ri, ci, hci, hoi, hri, hril, hFi, ei⟩ := hT5.r.at_c (j := r) (by rw [List.length_map, HZ.out]; exact hlt)
          obtain ⟨ok, rk, ck, hck, hok, hrk, hrkl, hFk, ek⟩ := hT5.r.at_c (j := K) (by rw [List.length_map, HZ.out]; exact hkR)
          obtain ⟨ai, si, di, hdi, hai, hsi, hsil, hAi, fi⟩ := hT5.a.at_c (j := r) (by rw [List.length_map, HZ.out]; exact hlt)
          obtain ⟨ak, sk, dk, hdk, hak, hsk, hskl, hAk, fk⟩ := hT5.a.at_c (j := K) (by rw [List.length_map, HZ.out]; exact hkR)
          have z0 := hT5.r.frozen r
          have z1 := hT5.r.frozen K
          have z2 := hT5.a.frozen r
          have z3 := hT5.a.frozen K
          have hGne := hT5.ne
          have hHoi := Lib.hid hoi
          have hHok := Lib.hid hok
          have hHai := Lib.hid hai
          have hHak := Lib.hid hak
          have hri' := Lib.hid hri
          have hrk' := Lib.hid hrk
          have Hcap := Lib.hid (show (n ≤ ci ∧ n ≤ ck) ∧ m ≤ di ∧ m ≤ dk from ⟨⟨hci, hck⟩, hdi, hdk⟩)
          clear hci hck hdi hdk hoi hok hai hak hri hrk hsi hsk hFi hFk hAi hAk hril hrkl hsil hskl
          go_wp2_with fail
          go_cut [11] from 37 to 150 (fun s11 wx => s11 = .int .i64 k ∧ wx = ((w5.setCell ⟨G, r, none⟩ (.slice (pB ok) n ck)).setCell ⟨G, K, none⟩ (.slice (pB oi) n ci)).drew)
          case first =>
            by_cases hk0 : K = r
            · subst hk0
              have hii := ei.symm.trans ek
              injection hii with hii
              have Hii := Lib.hid hii
              clear hii
              go_region_with (fail)
              all_goals
                go_wp2_with fail
                go_meet
                exact ⟨rfl, by rw [Hii.out]⟩
            · go_region_with (fail)
              all_goals
                go_wp2_with fail
                go_meet
                exact ⟨rfl, rfl⟩
          case rest =>
            obtain ⟨rfl, rfl⟩ := hcut
            have E7 : Ex1 G w5 ((w5.setCell ⟨G, r, none⟩ (.slice (pB ok) n ck)).setCell ⟨G, K, none⟩ (.slice (pB oi) n ci)).drew := (((Ex1.refl G w5).setCell (p := ⟨G, r, none⟩) rfl _).setCell (p := ⟨G, K, none⟩) rfl _).drew
            have kx : ∀ (o : Nat) (v : Value), w5.cell? ⟨G', o, none⟩ = some v → (((w5.setCell ⟨G, r, none⟩ (.slice (pB ok) n ck)).setCell ⟨G, K, none⟩ (.slice (pB oi) n ci)).drew).cell? ⟨G', o, none⟩ = some v := fun o v hv =>
              (World.cell?_of_block (w := w5) (a := ⟨G', o, none⟩) (E7.block G' (cell_lt (p := ⟨G', o, none⟩) hv) (fun e => by injection e with e; exact hGne e.symm))).trans hv
            have kz : ∀ (o : Nat), w5.frozen? ⟨G', o, none⟩ = false → (((w5.setCell ⟨G, r, none⟩ (.slice (pB ok) n ck)).setCell ⟨G, K, none⟩ (.slice (pB oi) n ci)).drew).frozen? ⟨G', o, none⟩ = false := fun o hv => by
              have hb := E7.block G' hT5.a.lt (fun e => by injection e with e; exact hGne e.symm)
              unfold World.frozen? at hv ⊢
              rw [hb]; exact hv
            obtain ⟨W7, hW7⟩ : ∃ W, ((w5.setCell ⟨G, r, none⟩ (.slice (pB ok) n ck)).setCell ⟨G, K, none⟩ (.slice (pB oi) n ci)).drew = W := ⟨_, rfl⟩
            rw [hW7] at E7 kx kz ⊢
            have HW7 := Lib.hid hW7
            clear hW7
            replace fi := kx _ _ fi
            replace fk := kx _ _ fk
            replace z2 := kz _ z2
            replace z3 := kz _ z3
            clear kx kz ei ek z0 z1
            go_wp2_with fail
            go_cut [11] from 37 to 150 (fun s11 wx => s11 = .int .i64 k ∧ wx = ((W7.setCell ⟨G', r, none⟩ (.slice (pB ak) m dk)).setCell ⟨G', K, none⟩ (.slice (pB ai) m di)).drew)
            case first =>
              by_cases hk0 : K = r
              · subst hk0
                have hii := fi.symm.trans fk
                injection hii with hii
                have Hii := Lib.hid hii
                clear hii
                go_region_with (fail)
                all_goals
                  go_wp2_with fail
                  go_meet
                  exact ⟨rfl, by rw [Hii.out]⟩
              · go_region_with (fail)
                all_goals
                  go_wp2_with fail
                  go_meet
                  exact ⟨rfl, rfl⟩
            case rest =>
              obtain ⟨rfl, rfl⟩ := hcut
              obtain ⟨zi, hzi⟩ : ∃ z, Z[r]? = some z := ⟨_, List.getElem?_eq_getElem (by rw [HZ.out]; exact hlt)⟩
              obtain ⟨zk, hzk⟩ : ∃ z, Z[K]? = some z := ⟨_, List.getElem?_eq_getElem (by rw [HZ.out]; exact hkR)⟩
              obtain ⟨hT9, E9⟩ := hT5.swap hHoi.out hHok.out hHai.out hHak.out hzi hzk (ci := ci) (ck := ck) (di := di) (dk := dk) Hcap.out HW7.out.symm rfl
              generalize ((W7.setCell ⟨G', r, none⟩ (.slice (pB ak) m dk)).setCell ⟨G', K, none⟩ (.slice (pB ai) m di)).drew = W9 at *
              generalize (bs.set r ok).set K oi = bs2 at *
              generalize (bs'.set r ak).set K ai = bs2' at *
              have hqS : ¬ S q := fun hs => by have := HS.out _ hs; omega
              have hq9 : VB W9 q 3 #[.int .i64 c] := (E9.block q hqq hqS).trans hq5
              have he9 := he5.trans E9 (fun _ _ h => h)
              clear fi fk z2 z3 hHoi hHok hHai hHak hri' hrk' hT5 hq5 he5 E7 HW7 q0 q1 E9 hqq x5
              have hUr : (swpL Z r K)[r]? = some zk := by
                rw [swpL_at (by rw [HZ.out]; exact hlt) (by rw [HZ.out]; exact hkR) r (by rw [HZ.out]; exact hlt)]
                by_cases e : r = K
                · rw [if_pos e, List.getD_eq_getElem?_getD, e, hzk]; rfl
                · rw [if_neg e, if_pos rfl, List.getD_eq_getElem?_getD, hzk]; rfl
              have hUl : (swpL Z r K).length = R := by rw [swpL_len, HZ.out]
              have hUW : Wid (n + m) (swpL Z r K) := fun v hv => by
                obtain ⟨i, hi⟩ := List.getElem?_of_mem hv
                have hil := (List.getElem?_eq_some_iff.1 hi).1
                rw [hUl] at hil
                rw [swpL_at (by rw [HZ.out]; exact hlt) (by rw [HZ.out]; exact hkR) i (by rw [HZ.out]; exact hil)] at hi
                injection hi with hi
                rw [← hi]
                exact HW.out.at_ (swp_lt (by rw [HZ.out]; exact hil) (by rw [HZ.out]; exact hlt) (by rw [HZ.out]; exact hkR))
              have hUG : GdM p 17179869184 (swpL Z r K) := fun v hv => by
                obtain ⟨i, hi⟩ := List.getElem?_of_mem hv
                have hil := (List.getElem?_eq_some_iff.1 hi).1
                rw [hUl] at hil
                rw [swpL_at (by rw [HZ.out]; exact hlt) (by rw [HZ.out]; exact hkR) i (by rw [HZ.out]; exact hil)] at hi
                injection hi with hi
                have hsl := swp_lt (n := Z.length) (by rw [HZ.out]; exact hil) (by rw [HZ.out]; exact hlt) (by rw [HZ.out]; exact hkR) (i := i) (r := r) (k := K)
                rw [← hi, List.getD_eq_getElem?_getD, List.getElem?_eq_getElem hsl]
                exact HGm.out _ (List.getElem_mem hsl)
              have hzkn : zk.length = n + m := hUW _ (List.mem_of_getElem? hUr)
              have hzkg := hUG _ (List.mem_of_getElem? hUr)
              have hgetK : Z.getD K [] = zk := by rw [List.getD_eq_getElem?_getD, hzk]; rfl
              rw [hgetK] at HX
              -- the list behind this column
              have hTat : ∀ (i : Nat) (u : List Fra), (swpL Z r K)[i]? = some u → ((frOps p).piv Z r c K)[i]? = some ((frOps p).clr r c ((frOps p).nrm zk c) i u) := fun i u hu => by
                unfold Ops.piv
                rw [List.getElem?_mapIdx, hu, hgetK]; rfl
              have hTl : ((frOps p).piv Z r c K).length = R := by rw [piv_len, HZ.out]
              have hTW : Wid (n + m) ((frOps p).piv Z r c K) := HW.out.piv (by rw [HZ.out]; exact hlt) (by rw [HZ.out]; exact hkR)
              have HTat := Lib.hid hTat
              have HTW := Lib.hid hTW
              have HTl := Lib.hid hTl
              have HUW := Lib.hid hUW
              have HUG := Lib.hid hUG
              have HUr := Lib.hid hUr
              have HUl := Lib.hid hUl
              have Hzkn := Lib.hid hzkn
              have Hzkg := Lib.hid hzkg
              obtain ⟨B, hbd, hB⟩ : ∃ B : Nat, B ≤ 17179869184 ∧ 17179869184 = B := ⟨_, Nat.le_refl _, rfl⟩
              clear hTat hTW hTl hUW hUG hUr hUl hzkn hzkg hgetK hzi hzk HW HG HGm HFIN
              generalize (frOps p).piv Z r c K = T at *
              generalize swpL Z r K = U at *
              rw [hB] at Hzkg HUG
              have HB := Lib.hid hB
              clear hB
              -- the pivot
              have hcn : c < n := by omega
              obtain ⟨ob, row, cr, hob, hrow, hrl, hFB, er⟩ := hT9.r.at_ (j := r) (by rw [List.length_map, HUl.out]; exact hlt)
              obtain ⟨oa, sow, ca, hoa, hsow, hsl, hFA, ea⟩ := hT9.a.at_ (j := r) (by rw [List.length_map, HUl.out]; exact hlt)
              obtain rfl : row = zk.take n := by rw [List.getElem?_map, HUr.out] at hrow; injection hrow with hrow; exact hrow.symm
              obtain rfl : sow = zk.drop n := by rw [List.getElem?_map, HUr.out] at hsow; injection hsow with hsow; exact hsow.symm
              obtain ⟨x0, hx0⟩ : ∃ x, zk[c]? = some x := ⟨_, List.getElem?_eq_getElem (by rw [Hzkn.out]; omega)⟩
              have hx0t : (zk.take n)[c]? = some x0 := by rw [List.getElem?_take, if_pos hcn]; exact hx0
              have hel : (frOps p).el zk c = x0 := (frOps p).el_in hx0
              rw [hel] at HX
              obtain ⟨g0, rfl⟩ : ∃ g, ob = some g := by
                cases ob with
                | none => have : zk.take n = [] := hFB; rw [this] at hx0t; simp at hx0t
                | some g => exact ⟨g, rfl⟩
              obtain ⟨Ax, cx, Bx, dx, b0, b1, hAx, hBx⟩ := hFB.1.at_ hx0t
              have hpb : pB (some g0) = some ⟨g0, 0, none⟩ := rfl
              rw [hpb] at er
              have q0 := hq9.cell 0 (v := .int .i64 c) rfl
              have Hx0 := Lib.hid hx0
              have Hel := Lib.hid hel
              have Hob := Lib.hid hob
              have Hoa := Lib.hid hoa
              have x0g := Hzkg.out x0 (List.mem_of_getElem? hx0)
              have Hx0g := Lib.hid x0g
              clear hx0 hx0t hel hob hoa hrow hsow hrl hsl x0g hpb
              have hgG : ¬ (g0 = G) := hT9.r.ng r g0 Hob.out
              have hqG : ¬ (q = G) := fun e => hqS (e ▸ hT9.r.sg)
              go_wp2_with fail
              go_cut [12] from 37 to 150 (fun s12 wx => ∃ gp, s12 = .pointer (some ⟨gp, 0, none⟩) ∧ VB wx gp 58 #[.slice Ax x0.n.length cx, .slice Bx x0.d.length dx] ∧ W9.heap.size ≤ gp ∧ Ex W9 wx)
              case first =>
                have HS9 : ∀ W, Ex W9 W → (W.cell? ⟨G, r, none⟩ = some (.slice (some ⟨g0, 0, none⟩) n cr) ∧ W.cell? ⟨q, 0, none⟩ = some (.int .i64 c) ∧ W.cell? ⟨g0, c * 2, none⟩ = some (.slice Ax x0.n.length cx) ∧ W.cell? ⟨g0, c * 2 + 1, none⟩ = some (.slice Bx x0.d.length dx)) := fun W h => ⟨cell_ex h er, cell_ex h q0, cell_ex h b0, cell_ex h b1⟩
                go_region_held3 (fun W => W.cell? ⟨G, r, none⟩ = some (.slice (some ⟨g0, 0, none⟩) n cr) ∧ W.cell? ⟨q, 0, none⟩ = some (.int .i64 c) ∧ W.cell? ⟨g0, c * 2, none⟩ = some (.slice Ax x0.n.length cx) ∧ W.cell? ⟨g0, c * 2 + 1, none⟩ = some (.slice Bx x0.d.length dx)) (first
                  | (exact HS9 _ (Ex.refl W9)) | (exact HS9 _ (Ex.refl W9).drew) | (exact HS9 _ ((Ex.refl W9).alloc _)) | (exact HS9 _ ((Ex.refl W9).drew.alloc _)) | (exact HS9 _ ((Ex.refl W9).alloc _).drew)) (fail)
                all_goals
                  go_wp2_with fail
                  go_meet
                  first
                  | exact ⟨_, rfl, VB.new _ _ _, Nat.le_refl _, ((Ex.refl W9).alloc _).drew⟩
                  | exact ⟨_, rfl, VB.new _ _ _, Nat.le_refl _, ((Ex.refl W9).drew.alloc _)⟩
              case rest =>
                obtain ⟨W10, rfl⟩ : ∃ q, q = wc := ⟨_, rfl⟩
                obtain ⟨gp, rfl, hgp, hgpl, x10⟩ := hcut
                have hT10 := hT9.ex x10
                have hq10 := hq9.ex x10
                have he10 := he9.trans (ExS.of_ex (S := S) x10) (fun _ _ h => h)
                have er := cell_ex x10 er
                have ea := cell_ex x10 ea
                have hAx := hAx.ex x10
                have hBx := hBx.ex x10
                have hwz := he10.size
                have hw9 := he9.size
                have hgpS : ¬ S gp := fun hs => by have := HS.out _ hs; omega
                clear hT9 hq9 he9 x10 b0 b1 q0 hFB hFA
                go_wp2_with fail
                go_quiet (fail)
                go_wp2_with fail
                have hT11 := hT10.ex ((Ex.refl W10).drewN nq)
                have hq11 : VB (W10.drewN nq) q 3 #[.int .i64 c] := hq10
                have hgp11 : VB (W10.drewN nq) gp 58 #[.slice Ax x0.n.length cx, .slice Bx x0.d.length dx] := hgp
                have he11 := he10.trans (ExS.of_ex (S := S) ((Ex.refl W10).drewN nq)) (fun _ _ h => h)
                have hAx11 := hAx.ex ((Ex.refl W10).drewN nq)
                have hBx11 := hBx.ex ((Ex.refl W10).drewN nq)
                have hw11 : w.heap.size ≤ (W10.drewN nq).heap.size := hwz
                generalize W10.drewN nq = W11 at *
                clear hT10 hq10 hgp he10 hAx hBx er ea hwz hw9
                obtain ⟨lead, hlead⟩ : ∃ l, (frOps p).nrm zk c = l := ⟨_, rfl⟩
                have hleadl : lead.length = n + m := by rw [← hlead, nrm_len]; exact Hzkn.out
                have hlm : lead = zk.map (fun x => mulF p (invF p x0) x) := by rw [← hlead]; unfold Ops.nrm; rw [Hel.out]; rfl
                have hlg : GdR p (B + B) lead := by rw [← hlead]; exact Hzkg.out.nrm (by rw [Hzkn.out]; omega) (by rw [Hel.out]; exact HX.out)
                have Hlead := Lib.hid hlead
                have Hleadl := Lib.hid hleadl
                have Hlm := Lib.hid hlm
                have Hlg := Lib.hid hlg
                rw [hlead] at HTat
                clear hlead hleadl hlm hlg
                have hs0 : U = U.set r zk := by
                  refine List.ext_getElem? fun j => ?_
                  rw [List.getElem?_set]
                  split
                  · rename_i e; subst e; rw [HUr.out, if_pos (by rw [HUl.out]; exact hlt)]
                  · rfl
                have Hs0 := Lib.hid hs0
                clear hs0
                go_loopw [89] (fun i wi => ∃ (t : Nat) (y : List Fra), t ≤ 2 ∧ i = .int .i64 t ∧ RtTwo wi S KS G G' bs2 bs2' (U.set r y) n m ∧ Hid (y = (if 1 ≤ t then lead.take n else zk.take n) ++ (if 2 ≤ t then lead.drop n else zk.drop n)) ∧ VB wi q 3 #[.int .i64 c] ∧ VB wi gp 58 #[.slice Ax x0.n.length cx, .slice Bx x0.d.length dx] ∧ RX wi S Ax x0.n ∧ RX wi S Bx x0.d ∧ ExS S w wi) (fun i _ => 2 - (intOf i).toNat)
                case atStart => exact ⟨0, zk, by omega, rfl, by rw [← Hs0.out]; exact hT11, Lib.hid (by simp), hq11, hgp11, hAx11, hBx11, he11⟩
                case round =>
                  clear hT11 hq11 hgp11 hAx11 hBx11 he11 hw11
                  obtain ⟨t, y, ht, rfl, hT, Hy, hq, hgp, hAx, hBx, he⟩ := hrel
                  have hyl : y.length = n + m := by
                    rw [Hy.out]
                    have h1 := Hleadl.out
                    have h2 := Hzkn.out
                    split <;> split <;> simp [List.length_take, List.length_drop, h1, h2]
                  have hyr : (U.set r y)[r]? = some y := by rw [List.getElem?_set_self (by rw [HUl.out]; exact hlt)]
                  have Hyl := Lib.hid hyl
                  have hyt : y.take n = if 1 ≤ t then lead.take n else zk.take n := by
                    have h1 := Hleadl.out
                    have h2 := Hzkn.out
                    rw [Hy.out, List.take_left' (by split <;> simp [List.length_take, h1, h2])]
                  have hyd : y.drop n = if 2 ≤ t then lead.drop n else zk.drop n := by
                    have h1 := Hleadl.out
                    have h2 := Hzkn.out
                    rw [Hy.out, List.drop_left' (by split <;> simp [List.length_take, h1, h2])]
                  have hRw := (hT.r.row r (some g0) (y.take n) Hob.out (by rw [List.getElem?_map, hyr]; rfl)).1
                  have hAw := (hT.a.row r oa (y.drop n) Hoa.out (by rw [List.getElem?_map, hyr]; rfl)).1
                  rw [hyt] at hRw
                  rw [hyd] at hAw
                  have Hyt := Lib.hid hyt
                  have Hyd := Lib.hid hyd
                  clear hyl hyt hyd
                  rcases (show t = 0 ∨ t = 1 ∨ t = 2 by omega) with rfl | rfl | rfl
                  · rw [show ((0 : Nat) : Int) = (0 : Int) from rfl]
                    rw [if_neg (by omega)] at hRw
                    obtain ⟨hRw, hg0S⟩ := hRw
                    have Hy2 := Lib.hid (show y.drop n = zk.drop n by rw [Hyd.out, if_neg (by omega)])
                    clear hAw
                    have hgq : ¬ (q = g0) := fun e => hqS (e ▸ hg0S)
                    have hgg : ¬ (gp = g0) := fun e => hgpS (e ▸ hg0S)
                    have hpb : pB (some g0) = some ⟨g0, 0, none⟩ := rfl
                    have hxl : (zk.take n).length = n := by rw [List.length_take, Hzkn.out]; omega
                    have Hxl := Lib.hid hxl
                    have hxg : ∀ x ∈ (zk.take n), FV p x ∧ FL B x := fun x hx => Hzkg.out x (by first | exact List.mem_of_mem_take hx | exact List.mem_of_mem_drop hx)
                    have Hxg := Lib.hid hxg
                    clear hxl hxg
                    obtain ⟨xs, hxs⟩ : ∃ xs, (zk.take n) = xs := ⟨_, rfl⟩
                    rw [hxs] at hRw Hxl Hxg
                    have Hxs := Lib.hid hxs
                    clear hxs
                    obtain ⟨N, hN⟩ : ∃ N, xs.map (fun x => mulF p (invF p x0) x) = N := ⟨_, rfl⟩
                    have HNl := Lib.hid (show N.length = xs.length by rw [← hN, List.length_map])
                    have HNat := Lib.hid (show ∀ (j : Nat) (x : Fra), xs[j]? = some x → N[j]? = some (mulF p (invF p x0) x) from fun j x h => by rw [← hN, List.getElem?_map, h]; rfl)
                    have HNe := Lib.hid hN
                    clear hN
                    have hF0 := hRw
                    obtain ⟨wl, hwl⟩ : ∃ W, W = wr := ⟨_, rfl⟩
                    subst hwl
                    have hws := he.size
                    have hix := idx2_0 (some ⟨g0, 0, none⟩) (pB oa) n cr m ca wl
                    go_wp2_with fail
                    clear hix
                    go_loopw [94] (fun i wi => ∃ j : Nat, j ≤ n ∧ i = .int .i64 j ∧ FBk wi S g0 (N.take j ++ xs.drop j) ∧ VB wi q 3 #[.int .i64 c] ∧ VB wi gp 58 #[.slice Ax x0.n.length cx, .slice Bx x0.d.length dx] ∧ RX wi S Ax x0.n ∧ RX wi S Bx x0.d ∧ ExS (fun z => z = g0) wl wi ∧ OwK S g0 wl wi) (fun i _ => n - (intOf i).toNat)
                    case atStart => exact ⟨0, Nat.zero_le _, rfl, by simpa using hF0, hq, hgp, hAx, hBx, ExS.refl _ _, OwK.refl _ _ _⟩
                    case round =>
                      clear hF0 hRw hq hgp hAx hBx
                      obtain ⟨j, hj, rfl, hF, hq, hgp, hAx, hBx, hel, hok⟩ := hrel
                      have hsz := hel.size
                      by_cases hjl : j < n
                      · obtain ⟨x, hx⟩ : ∃ x, xs[j]? = some x := ⟨_, List.getElem?_eq_getElem (by rw [Hxl.out]; exact hjl)⟩
                        have hat := mix_at N xs HNl.out j (by rw [Hxl.out]; exact hjl)
                        rw [hx] at hat
                        obtain ⟨Ay, cy, By, dy, e0, e1, hAy, hBy⟩ := hF.at_ hat
                        have hxm := Hxg.out x (List.mem_of_getElem? hx)
                        have HMS := Lib.hid (mix_set N xs HNl.out j (mulF p (invF p x0) x) (HNat.out j x hx))
                        have Hxm := Lib.hid hxm
                        have z0 := hF.frozen (j * 2)
                        have z1 := hF.frozen (j * 2 + 1)
                        have y7 := (Ex.refl wr).alloc (.cells #[.slice Ay x.n.length cy, .slice By x.d.length dy] 58)
                        have v7 := VB.new wr 58 #[.slice Ay x.n.length cy, .slice By x.d.length dy]
                        have s7 : (wr.alloc (.cells #[.slice Ay x.n.length cy, .slice By x.d.length dy] 58)).heap.size = wr.heap.size + 1 := by simp
                        have gl0 := (hgp.ex y7).cell 0 (v := .slice Ax x0.n.length cx) rfl
                        have gl1 := (hgp.ex y7).cell 1 (v := .slice Bx x0.d.length dx) rfl
                        clear hx hat hxm
                        go_wp2_with fail
                        generalize wr.alloc (.cells #[.slice Ay x.n.length cy, .slice By x.d.length dy] 58) = W7 at *
                        have hxn0 : x0.n ≠ [] := fun e => by have := HX.out; rw [iszF_iff.2 e] at this; cases this
                        have hdv := divided_c p x x0 Ay By cy dy Ax Bx cx dx W7 Hxm.out.1 Hx0g.out.1 (hAy.ex y7).1 (hBy.ex y7).1 (hAx.ex y7).1 (hBx.ex y7).1 hxn0 (Hxm.out.2.mono (by omega)) (Hx0g.out.2.mono (by omega))
                        obtain ⟨res, hres⟩ : ∃ r, mulF p (invF p x0) x = r := ⟨_, rfl⟩
                        rw [hres] at hdv HMS
                        clear hres
                        refine hdv.mono ?_
                        rintro e w8 ⟨A8, c8, B8, d8, rfl, f8, p8, ap8, x8⟩
                        have y8 := y7.trans x8
                        have hF8 := hF.ex y8
                        have e0 := cell_ex y8 e0
                        have e1 := cell_ex y8 e1
                        have z0 := hF8.frozen (j * 2)
                        have z1 := hF8.frozen (j * 2 + 1)
                        have hz7 := y7.size
                        have hS7 : ∀ z, S z → z < W7.heap.size := fun z hz => by have := HS.out z hz; omega
                        have hP := hF8.put hg0S j res (c := c8) (d := d8) (f8.rx hS7) (p8.rx hS7)
                        rw [HMS.out] at hP
                        have E9 : Ex1 g0 w8 ((w8.setCell ⟨g0, j * 2, none⟩ (.slice A8 res.n.length c8)).setCell ⟨g0, j * 2 + 1, none⟩ (.slice B8 res.d.length d8)) := ((Ex1.refl g0 w8).setCell (p := ⟨g0, j * 2, none⟩) rfl _).setCell (p := ⟨g0, j * 2 + 1, none⟩) rfl _
                        have hq9 := (hq.ex y8).ex1 E9 hgq
                        have hgp9 := (hgp.ex y8).ex1 E9 hgg
                        have X9 := ExS.of_ex1 (S := fun z => z = g0) E9 rfl
                        have hAx9 := (hAx.ex y8).sx X9 (fun z e => e ▸ hg0S)
                        have hBx9 := (hBx.ex y8).sx X9 (fun z e => e ▸ hg0S)
                        have hel9 := (hel.trans (ExS.of_ex (S := fun z => z = g0) y8) (fun _ _ h => h)).trans X9 (fun _ _ h => h)
                        have hok9 := (hok.trans (OwK.of_ex y7)).trans (OwK.put2 (S := S) (b := g0) (i := j) x8 f8 p8 ap8 hg0S e0 e1)
                        have hjx : j < n := hjl
                        clear E9 X9 HMS gl0 gl1 f8 p8 hxn0 hF8 hdv
                        go_wp2_with fail
                        go_roundw
                        case rel => exact ⟨j + 1, by omega, by go_num, hP, hq9, hgp9, hAx9, hBx9, hel9, hok9⟩
                        case measure => simp [intOf]; omega
                      · obtain rfl : j = n := by omega
                        rw [List.take_of_length_le (by rw [HNl.out, Hxl.out]; exact Nat.le_refl _), List.drop_of_length_le (by rw [Hxl.out]; exact Nat.le_refl _), List.append_nil] at hF
                        have hgr : ExS (fun z => some g0 = some z) wl wr := hel.widen (fun z _ e => by rw [e])
                        have hT2 := hT.turnR (i := r) (z := y) hyr Hob.out (r' := N) ⟨hF, hg0S⟩ (by rw [HNl.out, Hxl.out]) hgr (fun q e => by cases e; exact hok)
                        rw [List.set_set] at hT2
                        have he2 := he.trans (hel.widen (T := S) (fun z _ e => e ▸ hg0S)) (fun _ _ h => h)
                        go_wp2_with fail
                        go_roundw
                        case rel => exact ⟨0 + 1, _, by omega, by go_num, hT2, Lib.hid (by rw [Hy2.out, ← HNe.out, ← Hxs.out, Hlm.out]; simp [List.map_take]), hq, hgp, hAx, hBx, he2⟩
                        case measure => simp [intOf]
                  · rw [show ((1 : Nat) : Int) = (1 : Int) from rfl]
                    rw [if_neg (by omega)] at hAw
                    clear hRw
                    have Hy2 := Lib.hid (show y.take n = lead.take n by rw [Hyt.out, if_pos (by omega)])
                    cases oa with
                    | none =>
                      have hm0 : zk.drop n = [] := hAw
                      have hm1 : m ≤ 0 := by have := congrArg List.length hm0; rw [List.length_drop, Hzkn.out] at this; simp at this; omega
                      have Hy3 := Lib.hid (show y = (if 1 ≤ 1 + 1 then lead.take n else zk.take n) ++ (if 2 ≤ 1 + 1 then lead.drop n else zk.drop n) by
                        rw [← List.take_append_drop n y, Hy2.out, Hyd.out, if_neg (by omega), hm0, if_pos (by omega), if_pos (by omega), List.drop_of_length_le (by rw [Hleadl.out]; omega)])
                      obtain ⟨wl, hwl⟩ : ∃ W, W = wr := ⟨_, rfl⟩
                      subst hwl
                      have hix := idx2_1 (some ⟨g0, 0, none⟩) (pB none) n cr m ca wl
                      clear hm0 hAw
                      go_wp2_with fail
                      clear hix
                      go_loopw [94] (fun i wi => i = .int .i64 0 ∧ wi = wl) (fun _ _ => 0)
                      case atStart => exact ⟨rfl, rfl⟩
                      case round =>
                        obtain ⟨rfl, ew⟩ := hrel
                        subst ew
                        go_wp2_with fail
                        go_roundw
                        case rel => exact ⟨1 + 1, y, by omega, by go_num, hT, Hy3, hq, hgp, hAx, hBx, he⟩
                        case measure => simp [intOf]
                    | some ga =>
                      obtain ⟨hAw, hgaS⟩ := hAw
                      have hgq : ¬ (q = ga) := fun e => hqS (e ▸ hgaS)
                      have hgg : ¬ (gp = ga) := fun e => hgpS (e ▸ hgaS)
                      have hpb : pB (some ga) = some ⟨ga, 0, none⟩ := rfl
                      rw [hpb]
                      have hxl : (zk.drop n).length = m := by rw [List.length_drop, Hzkn.out]; omega
                      have Hxl := Lib.hid hxl
                      have hxg : ∀ x ∈ (zk.drop n), FV p x ∧ FL B x := fun x hx => Hzkg.out x (by first | exact List.mem_of_mem_take hx | exact List.mem_of_mem_drop hx)
                      have Hxg := Lib.hid hxg
                      clear hxl hxg
                      obtain ⟨xs, hxs⟩ : ∃ xs, (zk.drop n) = xs := ⟨_, rfl⟩
                      rw [hxs] at hAw Hxl Hxg
                      have Hxs := Lib.hid hxs
                      clear hxs
                      obtain ⟨N, hN⟩ : ∃ N, xs.map (fun x => mulF p (invF p x0) x) = N := ⟨_, rfl⟩
                      have HNl := Lib.hid (show N.length = xs.length by rw [← hN, List.length_map])
                      have HNat := Lib.hid (show ∀ (j : Nat) (x : Fra), xs[j]? = some x → N[j]? = some (mulF p (invF p x0) x) from fun j x h => by rw [← hN, List.getElem?_map, h]; rfl)
                      have HNe := Lib.hid hN
                      clear hN
                      have hF0 := hAw
                      obtain ⟨wl, hwl⟩ : ∃ W, W = wr := ⟨_, rfl⟩
                      subst hwl
                      have hws := he.size
                      have hix := idx2_1 (some ⟨g0, 0, none⟩) (some ⟨ga, 0, none⟩) n cr m ca wl
                      go_wp2_with fail
                      clear hix
                      go_loopw [94] (fun i wi => ∃ j : Nat, j ≤ m ∧ i = .int .i64 j ∧ FBk wi S ga (N.take j ++ xs.drop j) ∧ VB wi q 3 #[.int .i64 c] ∧ VB wi gp 58 #[.slice Ax x0.n.length cx, .slice Bx x0.d.length dx] ∧ RX wi S Ax x0.n ∧ RX wi S Bx x0.d ∧ ExS (fun z => z = ga) wl wi ∧ OwK S ga wl wi) (fun i _ => m - (intOf i).toNat)
                      case atStart => exact ⟨0, Nat.zero_le _, rfl, by simpa using hF0, hq, hgp, hAx, hBx, ExS.refl _ _, OwK.refl _ _ _⟩
                      case round =>
                        clear hF0 hAw hq hgp hAx hBx
                        obtain ⟨j, hj, rfl, hF, hq, hgp, hAx, hBx, hel, hok⟩ := hrel
                        have hsz := hel.size
                        by_cases hjl : j < m
                        · obtain ⟨x, hx⟩ : ∃ x, xs[j]? = some x := ⟨_, List.getElem?_eq_getElem (by rw [Hxl.out]; exact hjl)⟩
                          have hat := mix_at N xs HNl.out j (by rw [Hxl.out]; exact hjl)
                          rw [hx] at hat
                          obtain ⟨Ay, cy, By, dy, e0, e1, hAy, hBy⟩ := hF.at_ hat
                          have hxm := Hxg.out x (List.mem_of_getElem? hx)
                          have HMS := Lib.hid (mix_set N xs HNl.out j (mulF p (invF p x0) x) (HNat.out j x hx))
                          have Hxm := Lib.hid hxm
                          have z0 := hF.frozen (j * 2)
                          have z1 := hF.frozen (j * 2 + 1)
                          have y7 := (Ex.refl wr).alloc (.cells #[.slice Ay x.n.length cy, .slice By x.d.length dy] 58)
                          have v7 := VB.new wr 58 #[.slice Ay x.n.length cy, .slice By x.d.length dy]
                          have s7 : (wr.alloc (.cells #[.slice Ay x.n.length cy, .slice By x.d.length dy] 58)).heap.size = wr.heap.size + 1 := by simp
                          have gl0 := (hgp.ex y7).cell 0 (v := .slice Ax x0.n.length cx) rfl
                          have gl1 := (hgp.ex y7).cell 1 (v := .slice Bx x0.d.length dx) rfl
                          clear hx hat hxm
                          go_wp2_with fail
                          generalize wr.alloc (.cells #[.slice Ay x.n.length cy, .slice By x.d.length dy] 58) = W7 at *
                          have hxn0 : x0.n ≠ [] := fun e => by have := HX.out; rw [iszF_iff.2 e] at this; cases this
                          have hdv := divided_c p x x0 Ay By cy dy Ax Bx cx dx W7 Hxm.out.1 Hx0g.out.1 (hAy.ex y7).1 (hBy.ex y7).1 (hAx.ex y7).1 (hBx.ex y7).1 hxn0 (Hxm.out.2.mono (by omega)) (Hx0g.out.2.mono (by omega))
                          obtain ⟨res, hres⟩ : ∃ r, mulF p (invF p x0) x = r := ⟨_, rfl⟩
                          rw [hres] at hdv HMS
                          clear hres
                          refine hdv.mono ?_
                          rintro e w8 ⟨A8, c8, B8, d8, rfl, f8, p8, ap8, x8⟩
                          have y8 := y7.trans x8
                          have hF8 := hF.ex y8
                          have e0 := cell_ex y8 e0
                          have e1 := cell_ex y8 e1
                          have z0 := hF8.frozen (j * 2)
                          have z1 := hF8.frozen (j * 2 + 1)
                          have hz7 := y7.size
                          have hS7 : ∀ z, S z → z < W7.heap.size := fun z hz => by have := HS.out z hz; omega
                          have hP := hF8.put hgaS j res (c := c8) (d := d8) (f8.rx hS7) (p8.rx hS7)
                          rw [HMS.out] at hP
                          have E9 : Ex1 ga w8 ((w8.setCell ⟨ga, j * 2, none⟩ (.slice A8 res.n.length c8)).setCell ⟨ga, j * 2 + 1, none⟩ (.slice B8 res.d.length d8)) := ((Ex1.refl ga w8).setCell (p := ⟨ga, j * 2, none⟩) rfl _).setCell (p := ⟨ga, j * 2 + 1, none⟩) rfl _
                          have hq9 := (hq.ex y8).ex1 E9 hgq
                          have hgp9 := (hgp.ex y8).ex1 E9 hgg
                          have X9 := ExS.of_ex1 (S := fun z => z = ga) E9 rfl
                          have hAx9 := (hAx.ex y8).sx X9 (fun z e => e ▸ hgaS)
                          have hBx9 := (hBx.ex y8).sx X9 (fun z e => e ▸ hgaS)
                          have hel9 := (hel.trans (ExS.of_ex (S := fun z => z = ga) y8) (fun _ _ h => h)).trans X9 (fun _ _ h => h)
                          have hok9 := (hok.trans (OwK.of_ex y7)).trans (OwK.put2 (S := S) (b := ga) (i := j) x8 f8 p8 ap8 hgaS e0 e1)
                          have hjx : j < m := hjl
                          clear E9 X9 HMS gl0 gl1 f8 p8 hxn0 hF8 hdv
                          go_wp2_with fail
                          go_roundw
                          case rel => exact ⟨j + 1, by omega, by go_num, hP, hq9, hgp9, hAx9, hBx9, hel9, hok9⟩
                          case measure => simp [intOf]; omega
                        · obtain rfl : j = m := by omega
                          rw [List.take_of_length_le (by rw [HNl.out, Hxl.out]; exact Nat.le_refl _), List.drop_of_length_le (by rw [Hxl.out]; exact Nat.le_refl _), List.append_nil] at hF
                          have hgr : ExS (fun z => some ga = some z) wl wr := hel.widen (fun z _ e => by rw [e])
                          have hT2 := hT.turnA (i := r) (z := y) hyr (by rw [Hyl.out]; omega) Hoa.out (a' := N) ⟨hF, hgaS⟩ (by rw [HNl.out, Hxl.out]) hgr (fun q e => by cases e; exact hok)
                          rw [List.set_set] at hT2
                          have he2 := he.trans (hel.widen (T := S) (fun z _ e => e ▸ hgaS)) (fun _ _ h => h)
                          go_wp2_with fail
                          first | rw [← hpb] | skip
                          go_roundw
                          case rel => exact ⟨1 + 1, _, by omega, by go_num, hT2, Lib.hid (by rw [Hy2.out, ← HNe.out, ← Hxs.out, Hlm.out]; simp [List.map_drop]), hq, hgp, hAx, hBx, he2⟩
                          case measure => simp [intOf]
                  · rw [show ((2 : Nat) : Int) = (2 : Int) from rfl]
                    have hyL : y = lead := by rw [Hy.out, if_pos (by omega), if_pos (by omega), List.take_append_drop]
                    rw [hyL] at hT
                    clear Hy Hyl Hyt Hyd hyr hyL hRw hAw hgp hAx hBx
                    have HVl := Lib.hid (show (U.set r lead).length = R by rw [List.length_set, HUl.out])
                    have HVr := Lib.hid (show (U.set r lead)[r]? = some lead by rw [List.getElem?_set_self (by rw [HUl.out]; exact hlt)])
                    have HVi := Lib.hid (show ∀ i : Nat, i ≠ r → (U.set r lead)[i]? = U[i]? from fun i h => by rw [List.getElem?_set_ne (Ne.symm h)])
                    have HTr := Lib.hid (show T[r]? = some lead by rw [HTat.out r zk HUr.out]; unfold Ops.clr; rw [if_pos rfl])
                    generalize U.set r lead = V at *
                    go_wp2_with fail
                    go_loopw [110] (fun i wi => ∃ j : Nat, j ≤ R ∧ i = .int .i64 j ∧ RtTwo wi S KS G G' bs2 bs2' (T.take j ++ V.drop j) n m ∧ VB wi q 3 #[.int .i64 c] ∧ ExS S w wi) (fun i _ => R - (intOf i).toNat)
                    case atStart => exact ⟨0, Nat.zero_le _, rfl, by simpa using hT, hq, he⟩
                    case round =>
                      clear hT hq he
                      obtain ⟨j, hj, rfl, hT, hq, he⟩ := hrel
                      have hez := he.size
                      by_cases hjl : j < R
                      · by_cases hjr : j = r
                        · have HM := Lib.hid (mix_same T V (HTl.out.trans HVl.out.symm) j lead (by rw [hjr]; exact HTr.out) (by rw [hjr]; exact HVr.out))
                          have hjq : decide ((j : Int) = (r : Int)) = true := by simp [hjr]
                          have hjq2 : (j : Int) = (r : Int) := by rw [hjr]
                          clear hjr
                          go_wp2_with fail
                          go_roundw
                          case rel => exact ⟨j + 1, by omega, by go_num, by rw [← HM.out]; exact hT, hq, he⟩
                          case measure => simp [intOf]; omega
                        · have hjq : ¬ ((j : Int) = (r : Int)) := by omega
                          have hMl : (T.take j ++ V.drop j).length = R := by rw [List.length_append, List.length_take, List.length_drop, HTl.out, HVl.out]; omega
                          obtain ⟨u, hu⟩ : ∃ u, U[j]? = some u := ⟨_, List.getElem?_eq_getElem (by rw [HUl.out]; exact hjl)⟩
                          have hVj : V[j]? = some u := by rw [HVi.out j hjr]; exact hu
                          have hMj : (T.take j ++ V.drop j)[j]? = some u := by rw [mix_at T V (HTl.out.trans HVl.out.symm) j (by rw [HVl.out]; exact hjl)]; exact hVj
                          have hMr : (T.take j ++ V.drop j)[r]? = some lead := by
                            by_cases h : r < j
                            · rw [List.getElem?_append_left (by rw [List.length_take, HTl.out]; omega), List.getElem?_take, if_pos h]; exact HTr.out
                            · rw [List.getElem?_append_right (by rw [List.length_take, HTl.out]; omega), List.length_take, HTl.out, List.getElem?_drop, show j + (r - min j R) = r by omega]; exact HVr.out
                          have hul : u.length = n + m := HUW.out _ (List.mem_of_getElem? hu)
                          have hug : GdR p B u := HUG.out _ (List.mem_of_getElem? hu)
                          obtain ⟨x, hx⟩ : ∃ x, u[c]? = some x := ⟨_, List.getElem?_eq_getElem (by rw [hul]; omega)⟩
                          have hxt : (u.take n)[c]? = some x := by rw [List.getElem?_take, if_pos hcn]; exact hx
                          have hxg := hug x (List.mem_of_getElem? hx)
                          have hTj : T[j]? = some (if iszF x = true then u else (frOps p).less u x lead) := by
                            rw [HTat.out j u hu]; unfold Ops.clr; rw [if_neg hjr, (frOps p).el_in hx]; rfl
                          obtain ⟨ob, row, cj, hob, hrow, hrl, hFB, er⟩ := hT.r.at_ (j := j) (by rw [List.length_map, hMl]; exact hjl)
                          obtain ⟨oa2, sow, dj, hoa2, hsow, hsl, hFA, ea⟩ := hT.a.at_ (j := j) (by rw [List.length_map, hMl]; exact hjl)
                          obtain ⟨ob3, row3, cr3, hob3, hrow3, _, hFB3, er3⟩ := hT.r.at_ (j := r) (by rw [List.length_map, hMl]; exact hlt)
                          obtain ⟨oa3, sow3, dr3, hoa3, hsow3, _, hFA3, ea3⟩ := hT.a.at_ (j := r) (by rw [List.length_map, hMl]; exact hlt)
                          obtain rfl : row = u.take n := by rw [List.getElem?_map, hMj] at hrow; injection hrow with hrow; exact hrow.symm
                          obtain ⟨gj, rfl⟩ : ∃ g, ob = some g := by
                            cases ob with
                            | none => have : u.take n = [] := hFB; rw [this] at hxt; simp at hxt
                            | some g => exact ⟨g, rfl⟩
                          obtain ⟨Ay, cy, By, dy, e0, e1, hAy, hBy⟩ := hFB.1.at_ hxt
                          have HFIN := Lib.hid (show addTm p (u.take n) (negF p x) (lead.take n) ++ addTm p (u.drop n) (negF p x) (lead.drop n) = if iszF x = true then u else (frOps p).less u x lead by
                            rw [addTm_less hxg.1 (fun y hy => (hug y (List.mem_of_mem_take hy)).1) (fun y hy => (Hlg.out y (List.mem_of_mem_take hy)).1), addTm_less hxg.1 (fun y hy => (hug y (List.mem_of_mem_drop hy)).1) (fun y hy => (Hlg.out y (List.mem_of_mem_drop hy)).1)]
                            split
                            · exact List.take_append_drop _ _
                            · rw [← less_take, ← less_drop, List.take_append_drop])
                          have HMS := Lib.hid (mix_set T V (HTl.out.trans HVl.out.symm) j _ hTj)
                          have Hug := Lib.hid hug
                          have Hul := Lib.hid hul
                          have Hxg := Lib.hid hxg
                          have HMj := Lib.hid hMj
                          have HMr := Lib.hid hMr
                          have HMl := Lib.hid hMl
                          have Hob2 := Lib.hid hob
                          have Hoa2 := Lib.hid hoa2
                          have Hob3 := Lib.hid hob3
                          have Hoa3 := Lib.hid hoa3
                          have hq0 := hq.cell 0 (v := .int .i64 c) rfl
                          have hpj : pB (some gj) = some ⟨gj, 0, none⟩ := rfl
                          clear hMl hu hVj hMj hMr hul hug hx hxt hxg hTj hob hoa2 hob3 hoa3 hrow hsow hrow3 hsow3 hrl hsl hFB hFA hFB3 hFA3
                          rw [hpj] at er
                          obtain ⟨nk, hnk⟩ : ∃ k, negF p x = k := ⟨_, rfl⟩
                          have HNg : ∀ W, Ex wr W → Calls Tryz.prog 43 #[.int .i64 p, .agg #[.slice Ay x.n.length cy, .slice By x.d.length dy]] W fun e w' => FFx W nk e w' := fun W h => by
                            rw [← hnk]
                            exact ratNegative_c p x Ay By cy dy W Hxg.out.1 (hAy.ex h).1 (hBy.ex h).1 (by have := Hxg.out.2.1; omega) (by have := Hxg.out.2.2; omega)
                          have HNf := Lib.hid (show FV p nk ∧ FL B nk from hnk ▸ ⟨Hxg.out.1.neg, Hxg.out.2.neg⟩)
                          rw [hnk] at HFIN
                          clear hnk
                          go_wp2_with fail
                          go_cut [18] from 111 to 147 (fun s18 wx => ∃ gk A1 c1 B1 d1, s18 = .pointer (some ⟨gk, 0, none⟩) ∧ VB wx gk 58 #[.slice A1 nk.n.length c1, .slice B1 nk.d.length d1] ∧ RX wx S A1 nk.n ∧ RX wx S B1 nk.d ∧ wr.heap.size ≤ gk ∧ Ex wr wx)
                          case first =>
                            have HSr : ∀ W, Ex wr W → (Ex wr W ∧ W.cell? ⟨G, j, none⟩ = some (.slice (some ⟨gj, 0, none⟩) n cj) ∧ W.cell? ⟨q, 0, none⟩ = some (.int .i64 c) ∧ W.cell? ⟨gj, c * 2, none⟩ = some (.slice Ay x.n.length cy) ∧ W.cell? ⟨gj, c * 2 + 1, none⟩ = some (.slice By x.d.length dy)) := fun W h => ⟨h, cell_ex h er, cell_ex h hq0, cell_ex h e0, cell_ex h e1⟩
                            have hSr : ∀ z, S z → z < wr.heap.size := fun z hz => by have := HS.out z hz; omega
                            go_region_held3 (fun W => Ex wr W ∧ W.cell? ⟨G, j, none⟩ = some (.slice (some ⟨gj, 0, none⟩) n cj) ∧ W.cell? ⟨q, 0, none⟩ = some (.int .i64 c) ∧ W.cell? ⟨gj, c * 2, none⟩ = some (.slice Ay x.n.length cy) ∧ W.cell? ⟨gj, c * 2 + 1, none⟩ = some (.slice By x.d.length dy)) (first
                              | (exact HSr _ (ex_st2 x6 (Nat.le_refl _))) | (exact HSr _ (x6.alloc _).drew) | (exact HSr _ (x6.alloc _)) | (exact HSr _ x6.drew) | (exact HSr _ x6) | (exact HSr _ ((Ex.refl wr).drew.alloc _)) | (exact HSr _ ((Ex.refl wr).alloc _).drew) | (exact HSr _ ((Ex.refl wr).alloc _)) | (exact HSr _ (Ex.refl wr).drew) | (exact HSr _ (Ex.refl wr))) (first
                                | (go_at_call 43
                                   have hb := (‹Ex wr _ ∧ _›).1
                                   refine (HNg _ hb).mono ?_
                                   rintro e w6 ⟨A6, c6, B6, d6, rfl, f6, p6, ap6, x6'⟩
                                   have x6 := hb.trans x6'
                                   have hz6 := x6'.size
                                   have hzb := hb.size
                                   have fA := f6.rx (S := S) (fun z hz => Nat.lt_of_lt_of_le (hSr z hz) hzb)
                                   have fB := p6.rx (S := S) (fun z hz => Nat.lt_of_lt_of_le (hSr z hz) hzb)
                                   try have vC : VB w6 wr.heap.size 58 #[.slice none 0 0, .slice none 0 0] := VB.ex (w := (wr.alloc (.cells #[.slice none 0 0, .slice none 0 0] 58)).drew) (VB.new wr 58 #[.slice none 0 0, .slice none 0 0]) x6'
                                   try have vC : VB w6 wr.heap.size 58 #[.slice none 0 0, .slice none 0 0] := VB.ex (w := wr.drew.alloc (.cells #[.slice none 0 0, .slice none 0 0] 58)) (VB.new wr.drew 58 #[.slice none 0 0, .slice none 0 0]) x6'
                                   try have vC : VB w6 wr.heap.size 58 #[.slice none 0 0, .slice none 0 0] := VB.ex (w := (wr.drew.alloc (.cells #[.slice none 0 0, .slice none 0 0] 58)).drew) (VB.new wr.drew 58 #[.slice none 0 0, .slice none 0 0]) x6'
                                   try have vC : VB w6 wr.heap.size 58 #[.slice none 0 0, .slice none 0 0] := VB.ex (w := wr.alloc (.cells #[.slice none 0 0, .slice none 0 0] 58)) (VB.new wr 58 #[.slice none 0 0, .slice none 0 0]) x6'
                                   try have c0 := vC.cell 0 (v := .slice none 0 0) rfl
                                   try have c1 := vC.cell 1 (v := .slice none 0 0) rfl
                                   try have f0 := vC.frozen 0
                                   try have f1 := vC.frozen 1
                                   clear hb))
                            all_goals
                              go_wp2_with fail
                              go_meet
                              first
                              | exact ⟨_, A6, c6, B6, d6, rfl, VB.new _ _ _, fA.ex ((Ex.refl w6).alloc _), fB.ex ((Ex.refl w6).alloc _), x6.size, x6.alloc _⟩
                              | exact ⟨_, A6, c6, B6, d6, rfl, VB.new _ _ _, fA.ex ((Ex.refl w6).drew.alloc _), fB.ex ((Ex.refl w6).drew.alloc _), x6.size, x6.drew.alloc _⟩
                              | exact ⟨_, A6, c6, B6, d6, rfl, (vC.set_ 0 (.slice A6 nk.n.length c6)).set_ 1 (.slice B6 nk.d.length d6), ⟨f6.rd.sx_k (S := fun z => z = wr.heap.size) (ExS.of_ex1 (((Ex1.refl wr.heap.size w6).setCell (p := ⟨wr.heap.size, 0, none⟩) rfl (.slice A6 nk.n.length c6)).setCell (p := ⟨wr.heap.size, 1, none⟩) rfl (.slice B6 nk.d.length d6)) rfl) (f6.rx (S := fun z => z = wr.heap.size) (fun z e => by subst e; simp)).2, fA.2⟩, ⟨p6.rd.sx_k (S := fun z => z = wr.heap.size) (ExS.of_ex1 (((Ex1.refl wr.heap.size w6).setCell (p := ⟨wr.heap.size, 0, none⟩) rfl (.slice A6 nk.n.length c6)).setCell (p := ⟨wr.heap.size, 1, none⟩) rfl (.slice B6 nk.d.length d6)) rfl) (p6.rx (S := fun z => z = wr.heap.size) (fun z e => by subst e; simp)).2, fB.2⟩, Nat.le_refl _, ex_st2 x6 (Nat.le_refl _)⟩
                          case rest =>
                            obtain ⟨W18, rfl⟩ : ∃ q, q = wc := ⟨_, rfl⟩
                            obtain ⟨gk, A1, c1, B1, d1, rfl, hgk, hA1, hB1, hgkl, x18⟩ := hcut
                            have hT18 := hT.ex x18
                            have hq18 := hq.ex x18
                            have he18 := he.trans (ExS.of_ex (S := S) x18) (fun _ _ h => h)
                            have er := cell_ex x18 er
                            have er3 := cell_ex x18 er3
                            have ea := cell_ex x18 ea
                            have ea3 := cell_ex x18 ea3
                            have k0 := hgk.cell 0 (v := .slice A1 nk.n.length c1) rfl
                            have k1 := hgk.cell 1 (v := .slice B1 nk.d.length d1) rfl
                            have hgkS : ¬ S gk := fun hs => by have := HS.out _ hs; omega
                            clear hT hq he e0 e1 hAy hBy HNg hq0
                            have hgjG : ¬ (gj = G) := hT18.r.ng j gj Hob2.out
                            have hgjS : S gj := by
                              obtain ⟨R', _, h1, _, _, h4, _⟩ := hT18.own
                              exact (h4 j gj Hob2.out).1
                            have hgkl18 := hgk.lt
                            have hgjG' : ¬ (gj = G') := hT18.d1 j gj Hob2.out
                            have hqG' : ¬ (q = G') := fun e => hqS (e ▸ hT18.a.sg)
                            have HADR : ∀ W, Ex W18 W → Calls Tryz.prog 42 #[.int .i64 p, .slice (some ⟨gj, 0, none⟩) n cj, .agg #[.slice A1 nk.n.length c1, .slice B1 nk.d.length d1], .slice (pB ob3) n cr3] W fun e w' => e = .returned (.tuple #[]) ∧ RtTwo w' S KS G G' bs2 bs2' ((T.take j ++ V.drop j).set j (addTm p (u.take n) nk (lead.take n) ++ u.drop n)) n m ∧ ExS (fun z => some gj = some z) W18 w' ∧ (∀ z, some gj = some z → S z) := fun W h =>
                              ((hT18.ex h).addR (p := p) (c1 := cj) (c2 := cr3) (fun z hz => (hT18.ex h).sl z hz) (fun e => hjq (by rw [e])) HMj.out HMr.out Hob2.out Hob3.out (by omega) hn (hA1.ex h) (hB1.ex h) ((Hug.out.mono (by omega)).take n) ((Hlg.out.mono (by omega)).take n) HNf.out.1 (HNf.out.2.mono (by omega))).mono fun e w' ⟨h1, h2, h3, h4⟩ => ⟨h1, h2, (ExS.of_ex h).trans h3 (fun _ _ h => h), h4⟩
                            have K24 : ∀ W', ExS (fun z => some gj = some z) W18 W' → (W'.cell? ⟨G, j, none⟩ = some (.slice (some ⟨gj, 0, none⟩) n cj) ∧ W'.cell? ⟨gk, 0, none⟩ = some (.slice A1 nk.n.length c1) ∧ W'.cell? ⟨gk, 1, none⟩ = some (.slice B1 nk.d.length d1) ∧ W'.cell? ⟨G, r, none⟩ = some (.slice (pB ob3) n cr3)) := fun W' x =>
                              ⟨(World.cell?_of_block (w := W18) (a := ⟨G, j, none⟩) (x.block G hT18.r.lt (fun e => by injection e with e; exact hgjG e))).trans er,
                               (World.cell?_of_block (w := W18) (a := ⟨gk, 0, none⟩) (x.block gk hgk.lt (fun e => by injection e with e; exact hgkS (e ▸ hgjS)))).trans k0,
                               (World.cell?_of_block (w := W18) (a := ⟨gk, 1, none⟩) (x.block gk hgk.lt (fun e => by injection e with e; exact hgkS (e ▸ hgjS)))).trans k1,
                               (World.cell?_of_block (w := W18) (a := ⟨G, r, none⟩) (x.block G hT18.r.lt (fun e => by injection e with e; exact hgjG e))).trans er3⟩
                            go_wp2_with fail
                            go_region_held3 (fun W' => W'.cell? ⟨G, j, none⟩ = some (.slice (some ⟨gj, 0, none⟩) n cj) ∧ W'.cell? ⟨gk, 0, none⟩ = some (.slice A1 nk.n.length c1) ∧ W'.cell? ⟨gk, 1, none⟩ = some (.slice B1 nk.d.length d1) ∧ W'.cell? ⟨G, r, none⟩ = some (.slice (pB ob3) n cr3)) (first | (exact K24 _ x6) | (exact K24 _ (ExS.refl _ _)) | (exact K24 _ (ExS.of_ex (Ex.refl _).drew))) (first
                              | (go_at_call 42
                                 refine (HADR _ (by first | exact Ex.refl _ | exact (Ex.refl _).drew | exact (Ex.refl _).drewN _)).mono ?_
                                 rintro e w6 ⟨rfl, hT6, x6, hs6⟩))
                            have hal : (addTm p (u.take n) nk (lead.take n)).length = n := by
                              have h1 := Hul.out
                              have h2 := Hleadl.out
                              unfold addTm addRw
                              split <;> simp [List.length_take, List.length_zipWith, h1, h2] <;> omega
                            have hjM : j < (T.take j ++ V.drop j).length := by rw [HMl.out]; exact hjl
                            have HZ1 := Lib.hid (show ((T.take j ++ V.drop j).set j (addTm p (u.take n) nk (lead.take n) ++ u.drop n))[j]? = some (addTm p (u.take n) nk (lead.take n) ++ u.drop n) by rw [List.getElem?_set_self hjM])
                            have HZ2 := Lib.hid (show ((T.take j ++ V.drop j).set j (addTm p (u.take n) nk (lead.take n) ++ u.drop n))[r]? = some lead by rw [List.getElem?_set_ne (fun e => hjq (by rw [e]))]; exact HMr.out)
                            have HADA : ∀ W, Ex w6 W → Calls Tryz.prog 42 #[.int .i64 p, .slice (pB oa2) m dj, .agg #[.slice A1 nk.n.length c1, .slice B1 nk.d.length d1], .slice (pB oa3) m dr3] W fun e w' => e = .returned (.tuple #[]) ∧ RtTwo w' S KS G G' bs2 bs2' (T.take (j + 1) ++ V.drop (j + 1)) n m ∧ ExS (fun z => oa2 = some z) w6 w' := fun W h =>
                              ((hT6.ex h).addA (p := p) (c1 := dj) (c2 := dr3) (fun z hz => (hT6.ex h).sl z hz) (fun e => hjq (by rw [e])) HZ1.out HZ2.out (by rw [List.length_append, hal]; omega) Hoa2.out Hoa3.out hm ((hA1.sx x6 hs6).ex h) ((hB1.sx x6 hs6).ex h) (by rw [List.drop_left' hal]; exact (Hug.out.mono (by omega)).drop n) ((Hlg.out.mono (by omega)).drop n) HNf.out.1 (HNf.out.2.mono (by omega))).mono fun e w' ⟨h1, h2, h3⟩ => ⟨h1, by
                                rw [List.set_set, List.take_left' hal, List.drop_left' hal, HFIN.out, HMS.out] at h2
                                exact h2, (ExS.of_ex h).trans h3 (fun _ _ h => h)⟩
                            have he6 := he18.trans x6 (fun z _ e => hs6 z e)
                            have hsz6 := x6.size
                            have hq6 : VB w6 q 3 #[.int .i64 c] := (x6.block q hq18.lt (fun e => hqS (hs6 q e))).trans hq18
                            have k0 : w6.cell? ⟨gk, 0, none⟩ = some (.slice A1 nk.n.length c1) := (World.cell?_of_block (w := W18) (a := ⟨gk, 0, none⟩) (x6.block gk hgk.lt (fun e => hgkS (hs6 gk e)))).trans k0
                            have k1 : w6.cell? ⟨gk, 1, none⟩ = some (.slice B1 nk.d.length d1) := (World.cell?_of_block (w := W18) (a := ⟨gk, 1, none⟩) (x6.block gk hgk.lt (fun e => hgkS (hs6 gk e)))).trans k1
                            have ea : w6.cell? ⟨G', j, none⟩ = some (.slice (pB oa2) m dj) := (World.cell?_of_block (w := W18) (a := ⟨G', j, none⟩) (x6.block G' hT18.a.lt (fun e => by injection e with e; exact hgjG' e))).trans ea
                            have ea3 : w6.cell? ⟨G', r, none⟩ = some (.slice (pB oa3) m dr3) := (World.cell?_of_block (w := W18) (a := ⟨G', r, none⟩) (x6.block G' hT18.a.lt (fun e => by injection e with e; exact hgjG' e))).trans ea3
                            clear hT18 hq18 he18 HADR HZ1 HZ2 hal hjM x6 er er3 hgk
                            have hGa := hT6.a.lt
                            have hgkl6 := Nat.lt_of_lt_of_le hgkl18 hsz6
                            have hkb : ∀ j', bs2'[j']? = some (some gk) → False := fun j' hb => by
                              obtain ⟨R', _, h1, _, _, _, h5⟩ := hT6.own
                              exact hgkS (h5 j' gk hb).1
                            have K25 : ∀ W', ExS (fun z => oa2 = some z) w6 W' → (W'.cell? ⟨G', j, none⟩ = some (.slice (pB oa2) m dj) ∧ W'.cell? ⟨gk, 0, none⟩ = some (.slice A1 nk.n.length c1) ∧ W'.cell? ⟨gk, 1, none⟩ = some (.slice B1 nk.d.length d1) ∧ W'.cell? ⟨G', r, none⟩ = some (.slice (pB oa3) m dr3)) := fun W' x =>
                              ⟨(World.cell?_of_block (w := w6) (a := ⟨G', j, none⟩) (x.block G' hGa (fun e => hT6.a.ng j G' (by rw [Hoa2.out, e]) rfl))).trans ea,
                               (World.cell?_of_block (w := w6) (a := ⟨gk, 0, none⟩) (x.block gk hgkl6 (fun e => hkb j (by rw [Hoa2.out, e])))).trans k0,
                               (World.cell?_of_block (w := w6) (a := ⟨gk, 1, none⟩) (x.block gk hgkl6 (fun e => hkb j (by rw [Hoa2.out, e])))).trans k1,
                               (World.cell?_of_block (w := w6) (a := ⟨G', r, none⟩) (x.block G' hGa (fun e => hT6.a.ng j G' (by rw [Hoa2.out, e]) rfl))).trans ea3⟩
                            go_wp2_with fail
                            go_region_held3 (fun W' => W'.cell? ⟨G', j, none⟩ = some (.slice (pB oa2) m dj) ∧ W'.cell? ⟨gk, 0, none⟩ = some (.slice A1 nk.n.length c1) ∧ W'.cell? ⟨gk, 1, none⟩ = some (.slice B1 nk.d.length d1) ∧ W'.cell? ⟨G', r, none⟩ = some (.slice (pB oa3) m dr3)) (first | (exact K25 _ x7) | (exact K25 _ (ExS.refl _ _)) | (exact K25 _ (ExS.of_ex (Ex.refl _).drew))) (first
                              | (go_at_call 42
                                 refine (HADA _ (by first | exact Ex.refl _ | exact (Ex.refl _).drew | exact (Ex.refl _).drewN _)).mono ?_
                                 rintro e w7 ⟨rfl, hT7, x7⟩))
                            have hoaS : ∀ z, oa2 = some z → S z := fun z e => by
                              obtain ⟨R', _, h1, _, _, _, h5⟩ := hT7.own
                              exact (h5 j z (by rw [Hoa2.out, e])).1
                            have he7 := he6.trans x7 (fun z _ e => hoaS z e)
                            have hq7 : VB w7 q 3 #[.int .i64 c] := (x7.block q hq6.lt (fun e => hqS (hoaS q e))).trans hq6
                            clear HADA k0 k1 ea ea3 hT6 hq6 he6 x7
                            go_wp2_with fail
                            go_roundw
                            case rel => exact ⟨j + 1, by omega, by go_num, hT7, hq7, he7⟩
                            case measure => simp [intOf]; omega
                      · obtain rfl : j = R := by omega
                        rw [List.take_of_length_le (by rw [HTl.out]; exact Nat.le_refl _), List.drop_of_length_le (by rw [HVl.out]; exact Nat.le_refl _), List.append_nil] at hT
                        have q0 := hq.cell 0 (v := .int .i64 c) rfl
                        have y6 := (Ex.refl wr).alloc (.cells #[.int .i64 ((c : Int) + 1)] 3)
                        have v6 := VB.new wr 3 #[.int .i64 ((c : Int) + 1)]
                        go_wp2_with fail
                        go_roundg f
                        case measure => omega
                        case rel => exact ⟨c + 1, r + 1, wr.heap.size, bs2, bs2', T, by omega, by go_num, rfl, by simpa using v6, by omega, hT.ex y6, HTW, HSk, HTl, by omega, HN, he.trans (ExS.of_ex (S := S) y6) (fun _ _ h => h)⟩
      · have H := Lib.hid (fin (f + 1) rfl (.inr (by omega)))
        clear fin
        go_wp2_with fail
        go_ret
        rw [H.out]
        exact ⟨bs, bs', rfl, hT, he⟩
end Go.Proofs.YtpeogfapnofeoaaGreatDoor
