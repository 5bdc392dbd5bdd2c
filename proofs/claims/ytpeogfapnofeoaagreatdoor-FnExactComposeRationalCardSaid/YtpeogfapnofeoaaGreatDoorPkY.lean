/- A full slice and what is appended to it, as a row of a call's own. The reference's null lists. The columns of a composition in the reference: rows of a made slice that grow by append. -/
import Derived.Test.YtpeogfapnofeoaaGreatDoorPkX
import Derived.Test.YtpeogfapnofeoaaGreatDoorPkU
import Derived.Test.YtpeogfapnofeoaaGreatDoorPkQ
namespace Go.Proofs.YtpeogfapnofeoaaGreatDoor
set_option maxRecDepth 100000
open Go Go.RowKit
theorem FBk.rowQ {w : World} {a b : Nat} {xs : List Fra} (h : FBk w (fun z => z < a ∨ z = b) b xs) (hl : xs.length ≤ 1099511627776) : RowQ (fun W => ∀ k, a ≤ k → k < w.heap.size → W.heap[k]? = w.heap[k]?) w (some ⟨b, 0, none⟩) xs := by
  refine ⟨hl, fun j x hj => ?_⟩
  obtain ⟨A, c, B, d, h0, h1, h2, h3⟩ := h.at_ hj
  have hrd : ∀ {W : World} {A : Option Addr} {l : List Int}, (∀ k, a ≤ k → k < w.heap.size → W.heap[k]? = w.heap[k]?) → RX w (fun z => z < a ∨ z = b) A l → Rd W A l := fun {W A l} hk hr => by
    by_cases hl0 : l = []
    · subst hl0; exact Rd.nil _ _
    · refine hr.1.keep fun p e hp => hk _ ?_ hp
      have := hr.2 hl0 p e
      omega
  exact ⟨b, 0, _, _, rfl, by rw [Nat.zero_add]; exact h0, by rw [Nat.zero_add]; exact h1, rfl, rfl, fun W hk => ⟨⟨A, c, rfl, hrd hk h2⟩, ⟨B, d, rfl, hrd hk h3⟩⟩⟩
theorem RowQ.rds {Good : World → Prop} {w w2 : World} {P : Option Addr} {r : List Fra} (h : RowQ Good w P r) (hk : ∀ ad : Addr, P = some ad → w2.heap[ad.block]? = w.heap[ad.block]?) (hg : Good w2) : RdS EF w2 P r := by
  refine ⟨h.1, fun j x hj => ?_⟩
  obtain ⟨g, off, u, v, rfl, q0, q1, _, _, hR⟩ := h.2 j x hj
  have hc := hk _ rfl
  have e : ∀ o, w2.cell? ⟨g, o, none⟩ = w.cell? ⟨g, o, none⟩ := fun o => World.cell?_of_block (w := w) (a := ⟨g, o, none⟩) hc
  refine ⟨g, off, [u, v], rfl, fun i y hi => ?_, u, v, rfl, hR w2 hg⟩
  rw [show EF.k = 2 from rfl]
  match i, hi with
  | 0, hi => simp at hi; rw [← hi, Nat.add_zero, e]; exact q0
  | 1, hi => simp at hi; rw [← hi, e]; exact q1
theorem RowQ.pairs {Good : World → Prop} {w : World} {ad : Addr} {r : List Fra} (h : RowQ Good w (some ad) r) : ∃ prs : List (Value × Value), prs.length = r.length ∧ (∀ (q : Nat) (u : Value), (prs.map pr2).flatten[q]? = some u → w.cell? (ad.add q) = some u) ∧ (∀ p ∈ prs, p.1.oneCell' = true ∧ p.2.oneCell' = true) ∧
    ∀ (j : Nat) (x : Fra), r[j]? = some x → ∃ a b, prs[j]? = some (a, b) ∧ ∀ w2, Good w2 → RFra w2 a b x := by
  obtain ⟨prs, k1, k2⟩ := choose_lstV (Q := fun j (p : Value × Value) => ∃ x g off, ad = ⟨g, off, none⟩ ∧ r[j]? = some x ∧ w.cell? ⟨g, off + j * 2, none⟩ = some p.1 ∧ w.cell? ⟨g, off + j * 2 + 1, none⟩ = some p.2 ∧ (∀ w2, Good w2 → RFra w2 p.1 p.2 x) ∧ p.1.oneCell' = true ∧ p.2.oneCell' = true) r.length (fun j hj => by
    obtain ⟨g, off, u, v, hA, q0, q1, o0, o1, hR⟩ := h.2 j _ (List.getElem?_eq_getElem hj)
    injection hA with hA
    subst hA
    exact ⟨(u, v), r[j], g, off, rfl, List.getElem?_eq_getElem hj, q0, q1, hR, o0, o1⟩)
  refine ⟨prs, k1, fun q u hu => ?_, fun p hp => ?_, fun j x hj => ?_⟩
  · obtain ⟨j, i, p, rfl, hp, hi2⟩ := pr2_at hu
    obtain ⟨x, g, off, rfl, _, q0, q1, _⟩ := k2 j p hp
    have e : (⟨g, off, none⟩ : Addr).add (j * 2 + i) = ⟨g, off + (j * 2 + i), none⟩ := by unfold Addr.add; split <;> simp_all
    rw [e]
    rcases i with _ | _ | i
    · injection hi2 with hi2; subst hi2; exact q0
    · injection hi2 with hi2; subst hi2; exact q1
    · simp [pr2] at hi2
  · obtain ⟨j, hj⟩ := List.getElem?_of_mem hp
    obtain ⟨_, _, _, _, _, _, _, _, q⟩ := k2 j p hj
    exact q
  · have hjl := (List.getElem?_eq_some_iff.1 hj).1
    have hp := List.getElem?_eq_getElem (show j < prs.length by omega)
    obtain ⟨x', g, off, _, hx', _, _, hR, _⟩ := k2 j _ hp
    rw [hj] at hx'
    injection hx' with hx'
    subst hx'
    exact ⟨_, _, hp, hR⟩
/-- append at a slice without room. -/
theorem append_full {Good : World → Prop} {W0 w : World} {a g off : Nat} {P : Option Addr} {r1 r2 : List Fra} (h1 : RowQ Good w (some ⟨g, off, none⟩) r1) (h2 : RowQ Good w P r2) (ha : a ≤ w.heap.size) (had : a ≤ g) (had2 : g < w.heap.size) (hG : ∀ w2 : World, (∀ k, a ≤ k → k < w.heap.size → w2.heap[k]? = w.heap[k]?) → Good w2) (c : Nat) (l1 : r1.length ≤ 1000) (l2 : r2.length ≤ 1000) :
    ∃ A c' w', (Builtin.append_ #[34, 34] 34 #[.slice (some ⟨g, off, none⟩) r1.length r1.length, .slice P r2.length c]).run Tryz.prog w = .ok (.slice A (r1 ++ r2).length c') w' ∧ Ex w w' ∧ (ELQ W0).O w' a w'.heap.size [.slice A (r1 ++ r2).length c'] (r1 ++ r2) := by
  obtain ⟨i, hi, hz, hs, hby⟩ := info_parts fracInfo
  by_cases hr : r2 = []
  · subst hr
    refine ⟨some ⟨g, off, none⟩, r1.length, w, ?_, Ex.refl w, ?_⟩
    · rw [List.append_nil]
      rcases P with _ | ad2
      case some => exact run_append_room_cells (P := Tryz.prog) (w := w) 34 34 58 i Tryz.underlying34 hi g off r1.length r1.length ad2 0 c [] (by simp) (fun j u h => by simp at h) (fun u h => by simp at h) (Nat.le_refl _) (fun j h => by simp at h) (fun j h => by simp at h)
      simp [Builtin.append_, run_underlying Tryz.underlying34, sizeOf, typeInfo, hi, Builtin.lenOf, Builtin.firstCells, storeCells]
    · rw [List.append_nil]
      exact ⟨some ⟨g, off, none⟩, r1.length, rfl, fun w2 _ hk => h1.rds (fun ad' e => by injection e with e; subst e; exact hk _ had had2 had2) (hG w2 fun k a1 a2 => hk k a1 a2 a2)⟩
  · have hrl := List.length_pos_iff.2 hr
    obtain ⟨ad2, rfl⟩ : ∃ ad2, P = some ad2 := by
      obtain ⟨g, off, _, _, e, _⟩ := h2.2 0 _ (List.getElem?_eq_getElem hrl)
      exact ⟨_, e⟩
    obtain ⟨p1, k1, n1, o1, q1⟩ := h1.pairs
    obtain ⟨p2, k2, n2, o2, q2⟩ := h2.pairs
    obtain ⟨v', w', hrun, hown, hgr⟩ := run_append_arg_grows (P := Tryz.prog) (w := w) 34 34 58 i (.agg #[.slice none 0 0, .slice none 0 0]) 2 48 Tryz.underlying34 hi hz hs hby rfl (by omega) ⟨g, off, none⟩ r1.length r1.length (p1.map pr2).flatten (by rw [pr2_len, k1]) n1 ad2 r2.length c (p2.map pr2).flatten (by rw [pr2_len, k2]) n2 (by omega) (by unfold maxLen; omega) (by omega)
    have hx : Ex w w' := (Ex.refl w).exo hgr (fun g e => by cases e)
    have hge : GE ELW 58 w' w.heap.size w'.heap.size v' (p1 ++ p2) := ELW.mk hx.size (by rw [List.length_append, List.map_append, List.flatten_append, k1, k2]; exact hown) (fun k e => World.ownsRow.lt hown k e) (fun p hp => by
      rcases List.mem_append.1 hp with h4 | h4
      · exact o1 p h4
      · exact o2 p h4)
    have rp : RowP Good w' w.heap.size w'.heap.size v' (r1 ++ r2) := ⟨p1 ++ p2, hge, by rw [List.length_append, List.length_append, k1, k2], fun j x hj => by
      by_cases e : j < r1.length
      · rw [List.getElem?_append_left e] at hj
        rw [List.getElem?_append_left (by omega)]
        exact q1 j x hj
      · rw [List.getElem?_append_right (by omega)] at hj
        rw [List.getElem?_append_right (by omega), k1]
        exact q2 _ x hj⟩
    obtain ⟨A, c', ev⟩ := rp.form
    subst ev
    refine ⟨A, c', w', hrun, hx, ?_⟩
    exact (rp.more ha (Nat.le_refl _)).elq (by rw [List.length_append]; omega) fun w2 _ hk => hG w2 fun k a1 a2 => (hk k a1 (Nat.lt_of_lt_of_le a2 hx.size) (Nat.lt_of_lt_of_le a2 hx.size)).trans (hx.block a2)
end Go.Proofs.YtpeogfapnofeoaaGreatDoor
namespace Go.Proofs.YtpeogfapnofeoaaGreatDoor
set_option maxRecDepth 100000
open Go Go.RowKit
theorem fr_rref {p : Int} (hF : fieldB p = true) {s : Nat} {rows : List (List Fra)} (hg : ∀ v ∈ rows, ∀ x ∈ v, FV p x) (hw : Wid s rows) : Wid s ((frOps p).rref s rows) ∧ (∀ r ∈ (frOps p).rref s rows, leadF r < s) ∧ ((frOps p).rref s rows).length ≤ s := by
  obtain ⟨u, rfl⟩ := lift2 (P := FV p) rows hg
  have hwu : Wid s u := Wid.mp2.1 hw
  rw [(frHom p hF).rref]
  have hI := rref_is (frFld p hF) hwu
  refine ⟨Wid.mp2.2 hI.1, fun r hr => ?_, by rw [List.length_map]; exact rref_len _ hI⟩
  obtain ⟨v, hv, rfl⟩ := List.mem_map.1 hr
  obtain ⟨t, ht⟩ := List.getElem?_of_mem hv
  obtain ⟨hW, P, hE⟩ := hI
  obtain ⟨q, _, e, hq⟩ := hE.lead hW ht
  rw [← leadF_lead p, (frHom p hF).lead, e]
  exact hq
theorem fr_rref_gd {p : Int} (hF : fieldB p = true) {s L R : Nat} {rows : List (List Fra)} (hL : 1 ≤ L) (hg : GdM p L rows) (hw : Wid s rows) (hn : s ≤ R ∨ rows.length ≤ R) : GdM p (cramB R L) ((frOps p).rref s rows) := by
  rw [stg_rref]
  intro v hv
  exact stg_cramR hF hL hg hw hn (Nat.le_refl s) s (Nat.le_refl s) v (List.mem_of_mem_take hv)
set_option maxHeartbeats 800000 in
theorem rrNull_c (p : Int) (s : Nat) (rows : List (List Fra)) (A : Option Addr) (c : Nat) (w : World) (hF : fieldB p = true) (h : RowsN (fun _ => False) w A rows) (hw : Wid s rows) (hg : GdM p 21 rows) (hs : s ≤ 24) (hR : rows.length ≤ 12) :
    Calls Tryz.prog 87 #[.int .i64 p, .int .i64 s, .slice A rows.length c] w fun e w' => ∃ A' c', e = .returned (.slice A' ((frOps p).rref s ((frOps p).nullL s ((frOps p).rref s rows))).length c') ∧ RdC w' A' ((frOps p).rref s ((frOps p).nullL s ((frOps p).rref s rows))) ∧ Ex w w' := by
  have C1 := rrReduce_c (fun _ => False) p s rows A c w hF h (fun _ h => h.elim) hw (fun c hc => (stg_cramR hF (by omega) hg hw (R := 12) (.inr hR) (Nat.le_refl _) c hc).mono (by unfold cramB; omega)) (by omega) (by omega)
  have HM := Lib.hid (fr_rref hF (fun v hv x hx => (hg v hv x hx).1) hw)
  have HG : Hid (GdM p 3563 ((frOps p).rref s rows)) := Lib.hid ((fr_rref_gd hF (by omega) hg hw (R := 12) (.inr hR)).mono (by unfold cramB; omega))
  have HF := Lib.hid hF
  obtain ⟨M, hMe⟩ : ∃ M, (frOps p).rref s rows = M := ⟨_, rfl⟩
  rw [hMe] at C1 HM HG ⊢
  obtain ⟨R, hRe⟩ : ∃ R, rows.length = R := ⟨_, rfl⟩
  rw [hRe] at C1 ⊢
  clear hF h hw hg hR hMe hRe
  obtain ⟨ml, hml⟩ : ∃ ml, M.length = ml := ⟨_, rfl⟩
  have HMl := Lib.hid hml
  rw [hml] at C1
  have hms : ml ≤ s := by rw [← hml]; exact HM.out.2.2
  clear hml
  obtain ⟨NL, hNL⟩ : ∃ NL, (frOps p).nullL s M = NL := ⟨_, rfl⟩
  have HNL := Lib.hid hNL
  rw [hNL]
  have C2 : ∀ (A2 : Option Addr) (c2 : Nat) (W : World), RowsN (fun _ => False) W A2 NL → Calls Tryz.prog 79 #[.int .i64 p, .int .i64 s, .slice A2 NL.length c2] W fun e w' => ∃ A' c', e = .returned (.slice A' ((frOps p).rref s NL).length c') ∧ (∀ w2, ExS (fun _ => False) w' w2 → RdC w2 A' ((frOps p).rref s NL)) ∧ Ex W w' := fun A2 c2 W hA => by
    have hgn : GdM p 3563 NL := by rw [← HNL.out]; exact nullL_gd HF.out (by omega) HG.out
    have hwn : Wid s NL := by rw [← HNL.out]; exact nullL_wid s M
    have hln : NL.length ≤ s := by rw [← HNL.out]; exact nullL_len _ s M
    exact rrReduceC_c (fun _ => False) p s NL A2 c2 W HF.out hA (fun _ h => h.elim) hwn (fun c hc => (stg_cramR HF.out (by omega) hgn hwn (R := 24) (.inl hs) (Nat.le_refl _) c hc).mono (by unfold cramB; omega)) (by omega) (by omega)
  have HN0 := Lib.hid (show [] ++ (frOps p).nullGo s M (s - 0) 0 0 = NL by rw [← hNL]; rfl)
  clear hNL
  go_enter Tryz.func87, Tryz.ntmps87
  go_wp2_with fail
  refine C1.mono ?_
  rintro e w1 ⟨A1, c1, rfl, hm, x1⟩
  have hm1 : RdS EFF w1 A1 M := hm w1 (ExS.refl _ _)
  clear hm C1
  go_wp2_with fail
  go_loopw [8, 9, 10] (fun o at_ i wr => ∃ (j t : Nat) (A2 : Option Addr) (c2 : Nat) (D : List (List Fra)), j ≤ s ∧ t ≤ j ∧ i = .int .i64 j ∧ at_ = .int .i64 t ∧ o = .slice A2 D.length c2 ∧ GE (ELQ w1) 34 wr w1.heap.size wr.heap.size (.slice A2 D.length c2) D ∧ Hid (D ++ (frOps p).nullGo s M (s - j) j t = NL) ∧ D.length ≤ j ∧ Ex w1 wr) (fun _ _ i _ => s - (intOf i).toNat)
  case atStart => exact ⟨0, 0, none, 0, [], Nat.zero_le _, Nat.le_refl _, rfl, rfl, rfl, GE.nil _ _ _ _ _, HN0, Nat.le_refl _, Ex.refl _⟩
  case round =>
    rename World => wi
    obtain ⟨j, t, A2, c2, D, hj, htj, rfl, rfl, rfl, hge, HD, hDj, he⟩ := hrel
    have hz := he.size
    by_cases hlt : j < s
    · have HGo := Lib.hid (show (frOps p).nullGo s M (s - j) j t = if t < M.length ∧ (frOps p).lead (M.getD t []) = j then (frOps p).nullGo s M (s - (j + 1)) (j + 1) (t + 1) else (frOps p).nullv s M j :: (frOps p).nullGo s M (s - (j + 1)) (j + 1) t by
        rw [show s - j = (s - (j + 1)) + 1 by omega]; rfl)
      by_cases htm : t < ml
      · obtain ⟨g, off, r, v, rfl, hr, b0, ⟨P, pc, rfl, hrr⟩⟩ := (hm1.ex he).fracs (j := t) (by rw [HMl.out]; exact htm)
        have Hrl := Lib.hid (HM.out.1 r (List.mem_of_getElem? hr))
        have Hr := Lib.hid hr
        have cL := rrLead_c P pc r wi hrr
        rw [Hrl.out] at b0 cL
        by_cases hld : leadF r = j
        · have HG2 := Lib.hid (show D ++ (frOps p).nullGo s M (s - (j + 1)) (j + 1) (t + 1) = NL by
            rw [← HD.out, HGo.out, if_pos ⟨by rw [HMl.out]; exact htm, by rw [List.getD_eq_getElem?_getD, Hr.out]; exact hld⟩])
          rw [hld] at cL
          clear HD HGo hr hld
          go_wp2_with fail
          refine cL.mono ?_
          rintro e w5 ⟨rfl, x5⟩
          have hz5 := x5.size
          go_wp2_with fail
          go_roundw
          case rel => exact ⟨j + 1, t + 1, A2, c2, D, by omega, by omega, by go_num, by go_num, rfl, (hge.ex x5).more (Nat.le_refl _) hz5, HG2, by omega, he.trans x5⟩
          case measure => simp [intOf]; omega
        · have HG2 := Lib.hid (show D ++ (frOps p).nullv s M j :: (frOps p).nullGo s M (s - (j + 1)) (j + 1) t = NL by
            rw [← HD.out, HGo.out, if_neg fun e => hld (by have := e.2; rw [List.getD_eq_getElem?_getD, Hr.out] at this; exact this)])
          obtain ⟨l0, hl0⟩ : ∃ l0, leadF r = l0 := ⟨_, rfl⟩
          rw [hl0] at cL hld
          clear HD HGo hr hl0
          go_wp2_with fail
          refine cL.mono ?_
          rintro e wi2 ⟨rfl, xi⟩
          have hz2 := xi.size
          replace hge := (hge.ex xi).more (Nat.le_refl _) hz2
          replace he := he.trans xi
          replace hz := Nat.le_trans hz hz2
          clear b0 hrr cL
          have hs1 : s ≤ 1000 := by omega
          go_wp2_with fail
          refine (rrZeros_c s hs1 _).mono ?_
          rintro e w5 ⟨A5, c5, rfl, ge5, x5⟩
          go_wp2_with fail
          obtain ⟨g5, c5', e5, hc5, _⟩ := ge5.form (by intro e; injection e with _ e _; omega)
          rw [List.length_replicate] at e5 hc5
          injection e5 with e5 _ e6
          subst e5 e6
          have F5 := ge5.fbkA (a := wi2.heap.size) (Nat.le_refl _)
          have hg5 : wi2.heap.size ≤ g5 := by
            obtain ⟨_, _, _, _, hB, _⟩ := ge5.at_
            exact hB
          have hg5l := F5.lt
          have hz5 := x5.size
          clear ge5
          refine (frOne_c w5).mono ?_
          rintro e w6 ⟨M6, mc6, N6, nc6, rfl, fM, fN, ap6, x6⟩
          have hz6 := x6.size
          have F6 := F5.ex x6
          obtain ⟨_, _, _, _, q0, q1, _, _⟩ := F6.at_ (i := j) (x := zF) (by rw [List.getElem?_replicate, if_pos hlt])
          have k0 := F6.frozen (j * 2)
          have k1 := F6.frozen (j * 2 + 1)
          have F7 := F6.put (c := mc6) (d := nc6) (.inr rfl) j oF (A := M6) (B := N6) (fM.rx fun k hk => by omega) (fN.rx fun k hk => by omega)
          have e7 : Ex1 g5 w6 ((w6.setCell ⟨g5, j * 2, none⟩ (.slice M6 oF.n.length mc6)).setCell ⟨g5, j * 2 + 1, none⟩ (.slice N6 oF.d.length nc6)) := ((Ex1.refl g5 w6).setCell (p := ⟨g5, j * 2, none⟩) rfl _).setCell (p := ⟨g5, j * 2 + 1, none⟩) rfl _
          have x7 := (x5.trans x6).ex1 e7 hg5
          clear F5 F6 fM fN ap6 e7 x5 x6
          obtain ⟨v0, hv0⟩ : ∃ v0, (List.replicate s zF).set j oF = v0 := ⟨_, rfl⟩
          have HV0 := Lib.hid hv0
          rw [hv0] at F7
          go_wp2_with fail
          clear hv0
          generalize (w6.setCell ⟨g5, j * 2, none⟩ (.slice M6 oF.n.length mc6)).setCell ⟨g5, j * 2 + 1, none⟩ (.slice N6 oF.d.length nc6) = W7 at *
          clear q0 q1 k0 k1
          go_loopw [13, 46] (fun _ i wr => ∃ k : Nat, k ≤ ml ∧ i = .int .i64 k ∧ FBk wr (fun z => z < wi2.heap.size ∨ z = g5) g5 ((frOps p).nset (M.take k) j v0) ∧ Ex wi2 wr) (fun _ i _ => ml - (intOf i).toNat)
          case atStart => exact ⟨0, Nat.zero_le _, rfl, F7, x7⟩
          case round =>
            rename World => wj
            obtain ⟨k, hk, rfl, F8, x8⟩ := hrel
            by_cases hkm : k < ml
            · obtain ⟨g9, off9, r, v, eA, hr, b0, ⟨P, pc, rfl, hrr⟩⟩ := (hm1.ex (he.trans x8)).fracs (j := k) (by rw [HMl.out]; exact hkm)
              injection eA with eA
              injection eA with ea eb
              subst ea eb
              have Hrl := Lib.hid (HM.out.1 r (List.mem_of_getElem? hr))
              have hll := HM.out.2.1 r (List.mem_of_getElem? hr)
              have Hrg := Lib.hid (HG.out r (List.mem_of_getElem? hr))
              obtain ⟨g', off', x, P1, pc1, Q1, qc1, rfl, hx, d0, d1, hP1, hQ1⟩ := hrr.frac (j := j) (by rw [Hrl.out]; exact hlt)
              have Hxg := Lib.hid (Hrg.out x (List.mem_of_getElem? hx))
              have HS := Lib.hid (show (frOps p).nset (M.take (k + 1)) j v0 = ((frOps p).nset (M.take k) j v0).set (leadF r) (negF p x) by
                rw [List.take_add_one, hr, Option.toList_some, nset_app]
                show ((frOps p).nset (M.take k) j v0).set ((frOps p).lead r) (negF p ((frOps p).el r j)) = _
                rw [Ops.el_in _ hx]; rfl)
              have cLead : ∀ W, Ex wj W → Calls Tryz.prog 68 #[.slice (some ⟨g', off', none⟩) s pc] W fun e w' => e = .returned (.int .i64 (leadF r)) ∧ Ex W w' := fun W hW => by
                have := rrLead_c (some ⟨g', off', none⟩) pc r W (hrr.ex hW)
                rw [Hrl.out] at this
                exact this
              have cNeg : ∀ W, Ex wj W → Calls Tryz.prog 86 #[.int .i64 p, .agg #[.slice P1 x.n.length pc1, .slice Q1 x.d.length qc1]] W fun e w' => FFx W (negF p x) e w' := fun W hW => frNeg_c p x P1 Q1 pc1 qc1 W Hxg.out.1 (hP1.ex hW) (hQ1.ex hW)
              obtain ⟨l, hl⟩ : ∃ l, leadF r = l := ⟨_, rfl⟩
              have HL := Lib.hid hl
              rw [hl] at cLead hll
              rw [Hrl.out] at b0
              clear hl hr hx hrr hP1 hQ1
              have hlen : ((frOps p).nset (M.take k) j v0).length = s := by rw [nset_len, ← HV0.out, List.length_set, List.length_replicate]
              obtain ⟨y, hy⟩ : ∃ y, ((frOps p).nset (M.take k) j v0)[l]? = some y := ⟨_, List.getElem?_eq_getElem (by rw [hlen]; exact hll)⟩
              have Hlen := Lib.hid hlen
              have HY := Lib.hid hy
              clear hlen hy
              go_wp2_with fail
              go_region_law (first
                | (go_simp
                   go_at_call 68
                   refine (cLead _ ((Ex.refl wj).drew)).mono ?_
                   rintro e w8 ⟨rfl, y8⟩
                   replace y8 := ((Ex.refl wj).drew).trans y8
                   have d0' := cell_ex y8 d0
                   have d1' := cell_ex y8 d1)
                | (go_simp
                   go_at_call 86
                   refine (cNeg _ (by first | exact y8 | exact y8.drew)).mono ?_
                   rintro e w9 ⟨A9, c9, B9, e9, rfl, f9, f9', ap9, y9⟩
                   replace y9 := y8.trans y9
                   have F9 := F8.ex y9
                   obtain ⟨_, _, _, _, q0, q1, _, _⟩ := F9.at_ HY.out
                   have k0 := F9.frozen (l * 2)
                   have k1 := F9.frozen (l * 2 + 1)))
              all_goals
                have hg8 := F8.lt
                have hs8 := y8.size
                have F10 := F9.put (c := c9) (d := e9) (.inr rfl) l (negF p x) (A := A9) (B := B9) (f9.rx fun z hz => by omega) (f9'.rx fun z hz => by omega)
                rw [← HL.out, ← HS.out, HL.out] at F10
                have e10 : Ex1 g5 w9 ((w9.setCell ⟨g5, l * 2, none⟩ (.slice A9 (negF p x).n.length c9)).setCell ⟨g5, l * 2 + 1, none⟩ (.slice B9 (negF p x).d.length e9)) := ((Ex1.refl g5 w9).setCell (p := ⟨g5, l * 2, none⟩) rfl _).setCell (p := ⟨g5, l * 2 + 1, none⟩) rfl _
                have x10 := (x8.trans y9).ex1 e10 hg5
                clear e10 F9 F8 cLead cNeg d0 d1 d0' d1' b0 f9 f9' ap9 q0 q1 k0 k1
                go_wp2_with fail
                go_roundw
                case rel => exact ⟨k + 1, by omega, by go_num, F10, x10⟩
                case measure => simp [intOf]; omega
            · obtain rfl : k = ml := by omega
              rw [List.take_of_length_le (by rw [HMl.out]; exact Nat.le_refl _)] at F8
              have hzj := x8.size
              have hVe : (frOps p).nset M j v0 = (frOps p).nullv s M j := by rw [← HV0.out]; rfl
              rw [hVe] at F8
              have hlv := nullv_len (frOps p) s M j
              have hE := F8.elq (W0 := w1) (c := c5) hg5 (by omega)
              rw [hlv] at hE
              obtain ⟨v', w10, hrun, ge10, _, hnn, hE10⟩ := push_rowsQ (hge.ex x8) hzj hE (Nat.le_refl _) hzj (Nat.le_refl _) hz (by omega)
              have he10 := hE10 w1 (he.trans x8) (Nat.le_refl _)
              obtain ⟨A10, c10, rfl⟩ := ge10.nilv
              clear hVe hlv hE hE10 F8 F7
              go_wp2_with (at_builtin; refine wpList_append_run rfl _ _ _ rfl rfl rfl hrun ?_)
              go_roundw
              case rel => exact ⟨j + 1, t, A10, c10, D ++ [(frOps p).nullv s M j], by omega, by omega, by go_num, rfl, by simp, ge10, Lib.hid (by rw [List.append_assoc]; exact HG2.out), by rw [List.length_append, List.length_singleton]; omega, he10⟩
              case measure => simp [intOf]; omega
      · have HG2 := Lib.hid (show D ++ (frOps p).nullv s M j :: (frOps p).nullGo s M (s - (j + 1)) (j + 1) t = NL by
          rw [← HD.out, HGo.out, if_neg fun e => htm (by rw [← HMl.out]; exact e.1)])
        clear HD HGo
        have hs1 : s ≤ 1000 := by omega
        go_wp2_with fail
        refine (rrZeros_c s hs1 _).mono ?_
        rintro e w5 ⟨A5, c5, rfl, ge5, x5⟩
        go_wp2_with fail
        obtain ⟨g5, c5', e5, hc5, _⟩ := ge5.form (by intro e; injection e with _ e _; omega)
        rw [List.length_replicate] at e5 hc5
        injection e5 with e5 _ e6
        subst e5 e6
        have F5 := ge5.fbkA (a := wi.heap.size) (Nat.le_refl _)
        have hg5 : wi.heap.size ≤ g5 := by
          obtain ⟨_, _, _, _, hB, _⟩ := ge5.at_
          exact hB
        have hg5l := F5.lt
        have hz5 := x5.size
        clear ge5
        refine (frOne_c w5).mono ?_
        rintro e w6 ⟨M6, mc6, N6, nc6, rfl, fM, fN, ap6, x6⟩
        have hz6 := x6.size
        have F6 := F5.ex x6
        obtain ⟨_, _, _, _, q0, q1, _, _⟩ := F6.at_ (i := j) (x := zF) (by rw [List.getElem?_replicate, if_pos hlt])
        have k0 := F6.frozen (j * 2)
        have k1 := F6.frozen (j * 2 + 1)
        have F7 := F6.put (c := mc6) (d := nc6) (.inr rfl) j oF (A := M6) (B := N6) (fM.rx fun k hk => by omega) (fN.rx fun k hk => by omega)
        have e7 : Ex1 g5 w6 ((w6.setCell ⟨g5, j * 2, none⟩ (.slice M6 oF.n.length mc6)).setCell ⟨g5, j * 2 + 1, none⟩ (.slice N6 oF.d.length nc6)) := ((Ex1.refl g5 w6).setCell (p := ⟨g5, j * 2, none⟩) rfl _).setCell (p := ⟨g5, j * 2 + 1, none⟩) rfl _
        have x7 := (x5.trans x6).ex1 e7 hg5
        clear F5 F6 fM fN ap6 e7 x5 x6
        obtain ⟨v0, hv0⟩ : ∃ v0, (List.replicate s zF).set j oF = v0 := ⟨_, rfl⟩
        have HV0 := Lib.hid hv0
        rw [hv0] at F7
        go_wp2_with fail
        clear hv0
        generalize (w6.setCell ⟨g5, j * 2, none⟩ (.slice M6 oF.n.length mc6)).setCell ⟨g5, j * 2 + 1, none⟩ (.slice N6 oF.d.length nc6) = W7 at *
        clear q0 q1 k0 k1
        go_loopw [13, 46] (fun _ i wr => ∃ k : Nat, k ≤ ml ∧ i = .int .i64 k ∧ FBk wr (fun z => z < wi.heap.size ∨ z = g5) g5 ((frOps p).nset (M.take k) j v0) ∧ Ex wi wr) (fun _ i _ => ml - (intOf i).toNat)
        case atStart => exact ⟨0, Nat.zero_le _, rfl, F7, x7⟩
        case round =>
          rename World => wj
          obtain ⟨k, hk, rfl, F8, x8⟩ := hrel
          by_cases hkm : k < ml
          · obtain ⟨g, off, r, v, rfl, hr, b0, ⟨P, pc, rfl, hrr⟩⟩ := (hm1.ex (he.trans x8)).fracs (j := k) (by rw [HMl.out]; exact hkm)
            have Hrl := Lib.hid (HM.out.1 r (List.mem_of_getElem? hr))
            have hll := HM.out.2.1 r (List.mem_of_getElem? hr)
            have Hrg := Lib.hid (HG.out r (List.mem_of_getElem? hr))
            obtain ⟨g', off', x, P1, pc1, Q1, qc1, rfl, hx, d0, d1, hP1, hQ1⟩ := hrr.frac (j := j) (by rw [Hrl.out]; exact hlt)
            have Hxg := Lib.hid (Hrg.out x (List.mem_of_getElem? hx))
            have HS := Lib.hid (show (frOps p).nset (M.take (k + 1)) j v0 = ((frOps p).nset (M.take k) j v0).set (leadF r) (negF p x) by
              rw [List.take_add_one, hr, Option.toList_some, nset_app]
              show ((frOps p).nset (M.take k) j v0).set ((frOps p).lead r) (negF p ((frOps p).el r j)) = _
              rw [Ops.el_in _ hx]; rfl)
            have cLead : ∀ W, Ex wj W → Calls Tryz.prog 68 #[.slice (some ⟨g', off', none⟩) s pc] W fun e w' => e = .returned (.int .i64 (leadF r)) ∧ Ex W w' := fun W hW => by
              have := rrLead_c (some ⟨g', off', none⟩) pc r W (hrr.ex hW)
              rw [Hrl.out] at this
              exact this
            have cNeg : ∀ W, Ex wj W → Calls Tryz.prog 86 #[.int .i64 p, .agg #[.slice P1 x.n.length pc1, .slice Q1 x.d.length qc1]] W fun e w' => FFx W (negF p x) e w' := fun W hW => frNeg_c p x P1 Q1 pc1 qc1 W Hxg.out.1 (hP1.ex hW) (hQ1.ex hW)
            obtain ⟨l, hl⟩ : ∃ l, leadF r = l := ⟨_, rfl⟩
            have HL := Lib.hid hl
            rw [hl] at cLead hll
            rw [Hrl.out] at b0
            clear hl hr hx hrr hP1 hQ1
            have hlen : ((frOps p).nset (M.take k) j v0).length = s := by rw [nset_len, ← HV0.out, List.length_set, List.length_replicate]
            obtain ⟨y, hy⟩ : ∃ y, ((frOps p).nset (M.take k) j v0)[l]? = some y := ⟨_, List.getElem?_eq_getElem (by rw [hlen]; exact hll)⟩
            have Hlen := Lib.hid hlen
            have HY := Lib.hid hy
            clear hlen hy
            go_wp2_with fail
            go_region_law (first
              | (go_simp
                 go_at_call 68
                 refine (cLead _ ((Ex.refl wj).drew)).mono ?_
                 rintro e w8 ⟨rfl, y8⟩
                 replace y8 := ((Ex.refl wj).drew).trans y8
                 have d0' := cell_ex y8 d0
                 have d1' := cell_ex y8 d1)
              | (go_simp
                 go_at_call 86
                 refine (cNeg _ (by first | exact y8 | exact y8.drew)).mono ?_
                 rintro e w9 ⟨A9, c9, B9, e9, rfl, f9, f9', ap9, y9⟩
                 replace y9 := y8.trans y9
                 have F9 := F8.ex y9
                 obtain ⟨_, _, _, _, q0, q1, _, _⟩ := F9.at_ HY.out
                 have k0 := F9.frozen (l * 2)
                 have k1 := F9.frozen (l * 2 + 1)))
            all_goals
              have hg8 := F8.lt
              have hs8 := y8.size
              have F10 := F9.put (c := c9) (d := e9) (.inr rfl) l (negF p x) (A := A9) (B := B9) (f9.rx fun z hz => by omega) (f9'.rx fun z hz => by omega)
              rw [← HL.out, ← HS.out, HL.out] at F10
              have e10 : Ex1 g5 w9 ((w9.setCell ⟨g5, l * 2, none⟩ (.slice A9 (negF p x).n.length c9)).setCell ⟨g5, l * 2 + 1, none⟩ (.slice B9 (negF p x).d.length e9)) := ((Ex1.refl g5 w9).setCell (p := ⟨g5, l * 2, none⟩) rfl _).setCell (p := ⟨g5, l * 2 + 1, none⟩) rfl _
              have x10 := (x8.trans y9).ex1 e10 hg5
              clear e10 F9 F8 cLead cNeg d0 d1 d0' d1' b0 f9 f9' ap9 q0 q1 k0 k1
              go_wp2_with fail
              go_roundw
              case rel => exact ⟨k + 1, by omega, by go_num, F10, x10⟩
              case measure => simp [intOf]; omega
          · obtain rfl : k = ml := by omega
            rw [List.take_of_length_le (by rw [HMl.out]; exact Nat.le_refl _)] at F8
            have hzj := x8.size
            have hVe : (frOps p).nset M j v0 = (frOps p).nullv s M j := by rw [← HV0.out]; rfl
            rw [hVe] at F8
            have hlv := nullv_len (frOps p) s M j
            have hE := F8.elq (W0 := w1) (c := c5) hg5 (by omega)
            rw [hlv] at hE
            obtain ⟨v', w10, hrun, ge10, _, hnn, hE10⟩ := push_rowsQ (hge.ex x8) hzj hE (Nat.le_refl _) hzj (Nat.le_refl _) hz (by omega)
            have he10 := hE10 w1 (he.trans x8) (Nat.le_refl _)
            obtain ⟨A10, c10, rfl⟩ := ge10.nilv
            clear hVe hlv hE hE10 F8 F7
            go_wp2_with (at_builtin; refine wpList_append_run rfl _ _ _ rfl rfl rfl hrun ?_)
            go_roundw
            case rel => exact ⟨j + 1, t, A10, c10, D ++ [(frOps p).nullv s M j], by omega, by omega, by go_num, rfl, by simp, ge10, Lib.hid (by rw [List.append_assoc]; exact HG2.out), by rw [List.length_append, List.length_singleton]; omega, he10⟩
            case measure => simp [intOf]; omega
    · obtain rfl : j = s := by omega
      have hDN : D = NL := by
        have := HD.out
        rw [Nat.sub_self] at this
        rw [← this]
        exact (List.append_nil D).symm
      subst hDN
      obtain ⟨A3, c3, e3, hrn⟩ := hge.rowsN (S := fun _ => False) (by omega) he (fun _ h => h.elim)
      injection e3 with e3 _ _
      subst e3
      have C3 := fun cc => C2 A2 cc wi hrn
      clear HD hDj
      go_wp2_with fail
      refine (C3 _).mono ?_
      rintro e w4 ⟨A4, c4, rfl, h4, x4⟩
      go_wp2_with fail
      go_ret
      exact ⟨A4, c4, rfl, h4 w4 (ExS.refl _ _), (x1.trans he).trans x4⟩
end Go.Proofs.YtpeogfapnofeoaaGreatDoor
namespace Go.Proofs.YtpeogfapnofeoaaGreatDoor
set_option maxRecDepth 100000
open Go Go.RowKit
/-- One value more. -/
theorem rowQ_one {Good : World → Prop} {w : World} {u v : Value} {x : Fra} (h0 : u.oneCell' = true) (h1 : v.oneCell' = true) (hr : ∀ w2, Good w2 → RFra w2 u v x) : RowQ Good (w.alloc (.cells #[u, v] 58)) (some ⟨w.heap.size, 0, none⟩) [x] := by
  refine ⟨by simp, fun j y hj => ?_⟩
  rcases j with _ | j
  · injection hj with hj
    subst hj
    have d := VB.new w 58 #[u, v]
    exact ⟨w.heap.size, 0, u, v, rfl, d.cell 0 rfl, d.cell 1 rfl, h0, h1, hr⟩
  · simp at hj
theorem RP.nil (W0 w : World) : RP W0 w.heap.size w (.slice none 0 0) [] := ⟨[], GE.nil _ _ _ _ _, rfl, fun j x hj => by simp at hj⟩
theorem RP.k1 {W0 w w' : World} {s G : Nat} {v : Value} {r : List Fra} (h : RP W0 s w v r) (he : Ex1 G w w') (hG : G < s) : RP W0 s w' v r := by
  obtain ⟨prs, h1, h2, h3⟩ := h
  have hsz := he.size
  have kb : ∀ k, s ≤ k → k < w.heap.size → w'.heap[k]? = w.heap[k]? := fun k a b => he.block k b (fun e => by injection e with e; omega)
  refine ⟨prs, (h1.keep fun k a _ b => kb k a b).more (Nat.le_refl _) hsz, h2, fun j x hj => ?_⟩
  obtain ⟨u, z, q1, q2⟩ := h3 j x hj
  exact ⟨u, z, q1, fun w2 h0 hk => q2 w2 h0 fun k a1 a2 a3 => (hk k a1 (Nat.lt_of_lt_of_le a2 hsz) a3).trans (kb k a1 a2)⟩
theorem RP.pushO {W0 w : World} {s : Nat} {v : Value} {r : List Fra} (h : RP W0 s w v r) (hs : s ≤ w.heap.size) {Good : World → Prop} {P : Option Addr} {r2 : List Fra} (hr : RowQ Good w P r2) (hG : ∀ w2, Ex W0 w2 → (∀ k, s ≤ k → k < w.heap.size → v.ownBlock ≠ some k → w2.heap[k]? = w.heap[k]?) → Good w2) (c : Nat) (hl : r.length + r2.length ≤ 1099511627776) :
    ∃ v' w', (Builtin.append_ #[34, 34] 34 #[v, .slice P r2.length c]).run Tryz.prog w = .ok v' w' ∧ RP W0 s w' v' (r ++ r2) ∧ (∀ k, k < s → w'.heap[k]? = w.heap[k]?) ∧ w.heap.size ≤ w'.heap.size ∧ (∀ b', Ex b' w → b'.heap.size ≤ s → Ex b' w') ∧ (v'.ownBlock = v.ownBlock ∨ v'.ownBlock = some w.heap.size) ∧ ExO v.ownBlock w w' := by
  obtain ⟨prs, h1, h2, h3⟩ := h
  obtain ⟨v', w', prs2, hrun, ge, hl2, hp2, ⟨hO, hown⟩, hE⟩ := push_fracsX h1 (Nat.le_refl _) hs P c r2 hr (by rw [h2]; exact hl)
  have hsz := hO.size
  have keep : ∀ w2 : World, (∀ k, s ≤ k → k < w'.heap.size → v'.ownBlock ≠ some k → w2.heap[k]? = w'.heap[k]?) → ∀ k, s ≤ k → k < w.heap.size → v.ownBlock ≠ some k → w2.heap[k]? = w.heap[k]? := fun w2 hk k a1 a2 a3 => by
    refine (hk k a1 (Nat.lt_of_lt_of_le a2 hsz) (fun e => ?_)).trans (hO.block k a2 (fun e => a3 e.symm))
    rcases hown with q | q
    · exact a3 (q ▸ e)
    · rw [q] at e; injection e with e; omega
  refine ⟨v', w', hrun, ⟨prs ++ prs2, ge, by rw [List.length_append, List.length_append, h2, hl2], fun j x hj => ?_⟩, fun k hk => hO.block k (by omega) (fun e => by have := (h1.own k e.symm).1; omega), hsz, hE, hown, hO⟩
  by_cases e : j < r.length
  · rw [List.getElem?_append_left e] at hj
    rw [List.getElem?_append_left (by omega)]
    obtain ⟨u, z, q1, q2⟩ := h3 j x hj
    exact ⟨u, z, q1, fun w2 h0 hk => q2 w2 h0 (keep w2 hk)⟩
  · rw [List.getElem?_append_right (by omega)] at hj
    rw [List.getElem?_append_right (by omega), h2]
    obtain ⟨u, z, q1, q2⟩ := hp2 _ x hj
    exact ⟨u, z, q1, fun w2 h0 hk => q2 w2 (hG w2 h0 (keep w2 hk))⟩
theorem RP.low {W0 w : World} {s s' : Nat} {v : Value} {r : List Fra} (h : RP W0 s w v r) (hs : s' ≤ s) : RP W0 s' w v r := by
  obtain ⟨prs, h1, h2, h3⟩ := h
  refine ⟨prs, h1.more hs (Nat.le_refl _), h2, fun j x hj => ?_⟩
  obtain ⟨u, z, q1, q2⟩ := h3 j x hj
  exact ⟨u, z, q1, fun w2 h0 hk => q2 w2 h0 fun k a1 a2 a3 => hk k (by omega) a2 a3⟩
theorem RP.good2 {W0 w0 w : World} {s B : Nat} {v : Value} (he : Ex w0 w) (hB : s ≤ B) (hv : ∀ k, v.ownBlock = some k → w0.heap.size ≤ k) : ∀ w2, Ex W0 w2 → (∀ k, s ≤ k → k < w.heap.size → v.ownBlock ≠ some k → w2.heap[k]? = w.heap[k]?) → ∀ k, B ≤ k → k < w0.heap.size → k < w0.heap.size → w2.heap[k]? = w0.heap[k]? := fun w2 _ hk k a1 a2 _ =>
  (hk k (by omega) (Nat.lt_of_lt_of_le a2 he.size) (fun e => by have := hv k e; omega)).trans (he.block a2)
/-- The rows below j are done, the j-th one is being made. -/
def MidI (W0 : World) (G s j : Nat) (M : List (List Fra)) (w : World) (v : Value) : Prop :=
  G < s ∧ ∃ cur : Array Value, w.heap[G]? = some (.cells cur 34 (0, 0)) ∧ cur[j]? = some v ∧
    (∀ (i : Nat) (r : List Fra), i < j → M[i]? = some r → ∃ P pc, cur[i]? = some (.slice P r.length pc) ∧ ∀ w2, Ex W0 w2 → (∀ k, G < k → k < s → w2.heap[k]? = w.heap[k]?) → RdS EF w2 P r) ∧
    ∀ i, j < i → i < M.length → cur[i]? = some (.slice none 0 0)
/-- The rows below j are done. -/
def MidE (W0 : World) (G s j : Nat) (M : List (List Fra)) (w : World) : Prop :=
  G < s ∧ ∃ cur : Array Value, w.heap[G]? = some (.cells cur 34 (0, 0)) ∧
    (∀ (i : Nat) (r : List Fra), i < j → M[i]? = some r → ∃ P pc, cur[i]? = some (.slice P r.length pc) ∧ ∀ w2, Ex W0 w2 → (∀ k, G < k → k < s → w2.heap[k]? = w.heap[k]?) → RdS EF w2 P r) ∧
    ∀ i, j ≤ i → i < M.length → cur[i]? = some (.slice none 0 0)
theorem MidE.start (W0 w : World) {m : Nat} {M : List (List Fra)} (hm : M.length = m) : MidE W0 w.heap.size (w.heap.size + 1) 0 M (w.alloc (.cells (List.replicate m (Value.slice none 0 0)).toArray 34)) :=
  ⟨Nat.lt_succ_self _, _, heap_alloc_new w _, fun i r h => by omega, fun i _ hi => by simp [show i < m from hm ▸ hi]⟩
theorem MidE.open_ {W0 w : World} {G s j : Nat} {M : List (List Fra)} (h : MidE W0 G s j M w) (hj : j < M.length) : MidI W0 G s j M w (.slice none 0 0) := by
  obtain ⟨h0, cur, h1, h2, h3⟩ := h
  exact ⟨h0, cur, h1, h3 j (Nat.le_refl _) hj, h2, fun i a b => h3 i (by omega) b⟩
theorem MidI.keep {W0 w w' : World} {G s j : Nat} {M : List (List Fra)} {v : Value} (h : MidI W0 G s j M w v) (hk : ∀ k, k < s → w'.heap[k]? = w.heap[k]?) : MidI W0 G s j M w' v := by
  obtain ⟨h0, cur, h1, hv, h2, h3⟩ := h
  refine ⟨h0, cur, (hk G h0).trans h1, hv, fun i r a b => ?_, h3⟩
  obtain ⟨P, pc, q1, q2⟩ := h2 i r a b
  exact ⟨P, pc, q1, fun w2 a0 a1 => q2 w2 a0 fun k b0 b1 => (a1 k b0 b1).trans (hk k b1)⟩
theorem MidI.ex {W0 w w' : World} {G s j : Nat} {M : List (List Fra)} {v : Value} (h : MidI W0 G s j M w v) (hs : s ≤ w.heap.size) (he : Ex w w') : MidI W0 G s j M w' v := h.keep fun k hk => he.block (by omega)
theorem MidI.cell {W0 w : World} {G s j : Nat} {M : List (List Fra)} {v : Value} (h : MidI W0 G s j M w v) : w.cell? ⟨G, j, none⟩ = some v := by
  obtain ⟨_, cur, h1, hv, _⟩ := h
  simp [World.cell?, h1, hv]
theorem MidI.frozen {W0 w : World} {G s j : Nat} {M : List (List Fra)} {v : Value} (h : MidI W0 G s j M w v) (i : Nat) : w.frozen? ⟨G, i, none⟩ = false := by
  obtain ⟨_, cur, h1, hv, _⟩ := h
  simp [World.frozen?, h1]
theorem MidI.set {W0 w : World} {G s j : Nat} {M : List (List Fra)} {v : Value} (h : MidI W0 G s j M w v) (v' : Value) : MidI W0 G s j M (w.setCell ⟨G, j, none⟩ v') v' := by
  obtain ⟨h0, cur, h1, hv, h2, h3⟩ := h
  have hl := (Array.getElem?_eq_some_iff.1 hv).1
  refine ⟨h0, cur.setIfInBounds j v', by simp [World.setCell, Array.getElem?_modify, h1], by rw [Array.getElem?_setIfInBounds, if_pos rfl, if_pos hl], fun i r a b => ?_, fun i a b => by rw [Array.getElem?_setIfInBounds, if_neg (by omega)]; exact h3 i a b⟩
  obtain ⟨P, pc, q1, q2⟩ := h2 i r a b
  refine ⟨P, pc, by rw [Array.getElem?_setIfInBounds, if_neg (by omega)]; exact q1, fun w2 a0 a1 => q2 w2 a0 fun k b0 b1 => (a1 k b0 b1).trans ?_⟩
  have hne : ¬ G = k := by omega
  simp [World.setCell, Array.getElem?_modify, hne]
theorem MidI.next {W0 w : World} {G s j c : Nat} {M : List (List Fra)} {P : Option Addr} {r : List Fra} (h : MidI W0 G s j M w (.slice P r.length c)) (hr : M[j]? = some r) (hl : r.length ≤ 1099511627776) (hs : s ≤ w.heap.size) (hp : RP W0 s w (.slice P r.length c) r) : MidE W0 G w.heap.size (j + 1) M w := by
  obtain ⟨h0, cur, h1, hv, h2, h3⟩ := h
  refine ⟨by omega, cur, h1, fun i z a b => ?_, fun i a b => h3 i (by omega) b⟩
  by_cases e : i < j
  · obtain ⟨P', pc, q1, q2⟩ := h2 i z e b
    exact ⟨P', pc, q1, fun w2 a0 a1 => q2 w2 a0 fun k b0 b1 => a1 k b0 (by omega)⟩
  · obtain rfl : i = j := by omega
    rw [hr] at b
    injection b with b
    subst b
    refine ⟨P, c, hv, fun w2 a0 a1 => ?_⟩
    obtain ⟨A, c', e1, e2⟩ := hp.elq hl
    injection e1 with e1 _
    injection e1 with e1 _ _
    subst e1
    exact e2 w2 a0 fun k b0 b1 _ => a1 k (by omega) b1
theorem MidE.rowsN {W0 w : World} {G s : Nat} {M : List (List Fra)} (h : MidE W0 G s M.length M w) (hs : s ≤ w.heap.size) (hl : M.length ≤ 1099511627776) (he : Ex W0 w) : RowsN (fun _ => False) w (some ⟨G, 0, none⟩) M := by
  obtain ⟨h0, cur, h1, h2, h3⟩ := h
  refine ⟨hl, fun j r hj => ?_⟩
  obtain ⟨P, pc, q1, q2⟩ := h2 j r (List.getElem?_eq_some_iff.1 hj).1 hj
  refine ⟨G, 0, P, pc, rfl, by simp [World.cell?, h1, q1], fun w2 hx => q2 w2 ?_ fun k _ b1 => hx.block k (by omega) (fun h => h)⟩
  exact he.sx hx (fun _ h => h.elim)
theorem GE.room {w : World} {B H m c : Nat} {P : Option Addr} {xs : List Fra} (h : GE ELF 58 w B H (.slice P m c) xs) (hl : xs.length ≤ 1099511627776) : xs.length ≤ c := by
  obtain ⟨_, c', e, hc, _⟩ := h.ox (E' := EXF) hl rfl elf_exf
  injection e with _ _ e3
  omega
theorem addr_map (g off n : Nat) : (some (⟨g, off, none⟩ : Addr)).map (fun a => a.add n) = some ⟨g, off + n, none⟩ := by
  rw [Option.map_some]
  unfold Addr.add
  split <;> simp_all
theorem run_takeF {A : Option Addr} {n c hi : Nat} (h : hi ≤ c) (W : World) : (Instr.sliceAt 34 (.slice A n c) none (some (.int .i64 (hi : Int))) none).run Tryz.prog W = .ok (.slice A hi c) W := by
  obtain ⟨i, hi', hz, hs, hby⟩ := info_parts fracInfo
  have e1 : (0 : Int) ≤ (hi : Int) := by omega
  have e2 : (hi : Int) ≤ (c : Int) := by omega
  have e3 : A.map (fun a => a.add 0) = A := by
    cases A with
    | none => rfl
    | some a => obtain ⟨g, off, x⟩ := a; cases x <;> simp [Addr.add]
  simp [Instr.sliceAt, Instr.slice, run_underlying Tryz.underlying34, Instr.sliceBounds, run_sliceBound, sizeOf, typeInfo, hi', hs, e1, e2, e3]
theorem run_dropF {A : Option Addr} {n c lo : Nat} (h1 : lo ≤ n) (h2 : n ≤ c) : ∃ P, (∀ W, (Instr.sliceAt 34 (.slice A n c) (some (.int .i64 (lo : Int))) none none).run Tryz.prog W = .ok (.slice P (n - lo) (c - lo)) W) ∧
    (∀ (Good : World → Prop) (W : World) (r : List Fra), r.length = n → RowQ Good W A r → RowQ Good W P (r.drop lo)) ∧ ∀ (W : World) (r : List Fra), r.length = n → RdS EF W A r → RdS EF W P (r.drop lo) := by
  obtain ⟨i, hi, hz, hs, hby⟩ := info_parts fracInfo
  have e1 : (0 : Int) ≤ (lo : Int) := by omega
  have e2 : (lo : Int) ≤ (n : Int) := by omega
  refine ⟨if c = lo then A else A.map (fun a => a.add (lo * 2)), fun W => ?_, fun Good W r hr hq => ?_, fun W r hr hq => ?_⟩
  · simp [Instr.sliceAt, Instr.slice, run_underlying Tryz.underlying34, Instr.sliceBounds, run_sliceBound, sizeOf, typeInfo, hi, hs, e1, e2]
  · by_cases e : r.drop lo = []
    · rw [e]; exact RowQ.nil _ _ _
    · have hl : lo < n := by
        have := List.length_pos_iff.2 e
        rw [List.length_drop] at this; omega
      rw [if_neg (by omega)]
      obtain ⟨g, off, _, _, rfl, _⟩ := hq.2 lo _ (List.getElem?_eq_getElem (by omega))
      rw [addr_map]
      exact hq.dp lo
  · by_cases e : r.drop lo = []
    · rw [e]; exact ⟨by simp, fun j x hj => by simp at hj⟩
    · have hl : lo < n := by
        have := List.length_pos_iff.2 e
        rw [List.length_drop] at this; omega
      rw [if_neg (by omega)]
      obtain ⟨g, off, _, rfl, _⟩ := hq.2 lo _ (List.getElem?_eq_getElem (by omega))
      rw [addr_map]
      exact hq.dropk lo
theorem cmb_len' {p : Int} {n : Nat} {k : List Fra} {R : List (List Fra)} (hW : Wid n R) (hl : k.length = R.length) : ((frOps p).cmb n k R).length = n := by
  rw [← sumT_all hl]; exact sumT_len hW _
theorem cmpR_gd {p : Int} (hF : fieldB p = true) {la mid rb X W L : Nat} {a b : List (List Fra)} {k : List Fra} (hk : GdR p X k) (ha : GdM p W a) (hb : GdM p W b) (hna : a.length ≤ 12) (hnb : b.length ≤ 12) (hl : k.length = a.length + b.length) (hL : 1 + 12 * (X + W) ≤ L) : GdR p L ((frOps p).cmpR la mid rb a b k) := by
  have l1 : (k.take a.length).length = a.length := by rw [List.length_take]; omega
  have l2 : (k.drop a.length).length = b.length := by rw [List.length_drop]; omega
  have m1 := Nat.mul_le_mul_right (X + W) hna
  have m2 := Nat.mul_le_mul_right (X + W) hnb
  have h1 := (cmb_gd hF (w := la + mid) (hk.take a.length) ha a.length).mono (show _ ≤ L by omega)
  have h2 := (cmb_gd hF (w := mid + rb) (hk.drop a.length) hb b.length).mono (show _ ≤ L by omega)
  have e1 := sumT_all (p := p) (n := la + mid) l1
  have e2 := sumT_all (p := p) (n := mid + rb) l2
  unfold Ops.cmpR
  rw [← e1, ← e2]
  exact (h1.take la).app (h2.drop mid)
theorem cmpR_len' {p : Int} {la mid rb : Nat} {a b : List (List Fra)} {k : List Fra} (ha : Wid (la + mid) a) (hb : Wid (mid + rb) b) (hl : k.length = a.length + b.length) : ((frOps p).cmpR la mid rb a b k).length = la + rb := by
  unfold Ops.cmpR
  rw [List.length_append, List.length_take, List.length_drop, cmb_len' ha (by rw [List.length_take]; omega), cmb_len' hb (by rw [List.length_drop]; omega)]
  omega
set_option maxHeartbeats 4000000 in
theorem rrCompose_c (p : Int) (la mid rb : Nat) (a b : List (List Fra)) (A B : Option Addr) (ca cb : Nat) (w : World) (hA : RdC w A a) (hB : RdC w B b) (hna : a.length ≤ 12) (hnb : b.length ≤ 12) (h1 : la + mid ≤ 12) (h2 : mid + rb ≤ 12) (h3 : la + rb ≤ 12) (hwa : Wid (la + mid) a) (hwb : Wid (mid + rb) b) (hF : fieldB p = true) (hga : GdM p 21 a) (hgb : GdM p 21 b) :
    Calls Tryz.prog 62 #[.int .i64 p, .agg #[.int .i64 la, .int .i64 mid, .slice A a.length ca], .agg #[.int .i64 mid, .int .i64 rb, .slice B b.length cb]] w fun e w' => ∃ A' c', e = .returned (.agg #[.int .i64 la, .int .i64 rb, .slice A' ((frOps p).cmpS la mid rb a b).length c']) ∧ RdS EFF w' A' ((frOps p).cmpS la mid rb a b) ∧ Ex w w' := by
  have HWa := Lib.hid hwa
  have HWb := Lib.hid hwb
  have HF := Lib.hid hF
  have HGa := Lib.hid hga
  have HGb := Lib.hid hgb
  have HA := Lib.hid hA
  have HB := Lib.hid hB
  obtain ⟨na, hna'⟩ : ∃ na, a.length = na := ⟨_, rfl⟩
  obtain ⟨nb, hnb'⟩ : ∃ nb, b.length = nb := ⟨_, rfl⟩
  have HNa := Lib.hid hna'
  have HNb := Lib.hid hnb'
  rw [hna'] at hna ⊢
  rw [hnb'] at hnb ⊢
  have y0 := (Ex.refl w).alloc (.cells #[.int .i64 la, .int .i64 mid, .slice A na ca] 32)
  have d0 := VB.new w 32 #[.int .i64 la, .int .i64 mid, .slice A na ca]
  have S0 := Lib.hid (show (w.alloc (.cells #[.int .i64 la, .int .i64 mid, .slice A na ca] 32)).heap.size = w.heap.size + 1 by simp)
  clear hA hB hwa hwb hF hga hgb hna' hnb'
  go_enter Tryz.func62, Tryz.ntmps62
  go_wp2_with fail
  generalize w.alloc (.cells #[.int .i64 la, .int .i64 mid, .slice A na ca] 32) = W0 at *
  have y1 := (Ex.refl W0).alloc (.cells #[.int .i64 mid, .int .i64 rb, .slice B nb cb] 32)
  have d1 := VB.new W0 32 #[.int .i64 mid, .int .i64 rb, .slice B nb cb]
  have S1 := Lib.hid (show (W0.alloc (.cells #[.int .i64 mid, .int .i64 rb, .slice B nb cb] 32)).heap.size = w.heap.size + 1 + 1 by simp; exact S0.out)
  rw [S0.out] at d1
  generalize W0.alloc (.cells #[.int .i64 mid, .int .i64 rb, .slice B nb cb] 32) = W1 at *
  have y2 := (Ex.refl W1).alloc (.cells #[.int .i64 0, .int .i64 0, .slice none 0 0] 32)
  have d2 := VB.new W1 32 #[.int .i64 0, .int .i64 0, .slice none 0 0]
  have S2 := Lib.hid (show (W1.alloc (.cells #[.int .i64 0, .int .i64 0, .slice none 0 0] 32)).heap.size = w.heap.size + 1 + 1 + 1 by simp; exact S1.out)
  rw [S1.out] at d2
  have qa := (d0.ex y1).ex y2
  have qb := d1.ex y2
  generalize W1.alloc (.cells #[.int .i64 0, .int .i64 0, .slice none 0 0] 32) = W2 at *
  have xx := (y0.trans y1).trans y2
  clear y0 y1 y2 d0 d1
  have HQ := Lib.hid (show ∀ W, Ex W2 W → (W.cell? ⟨w.heap.size, 0, none⟩ = some (.int .i64 la) ∧ W.cell? ⟨w.heap.size, 1, none⟩ = some (.int .i64 mid) ∧ W.cell? ⟨w.heap.size, 2, none⟩ = some (.slice A na ca) ∧ W.cell? ⟨w.heap.size + 1, 1, none⟩ = some (.int .i64 rb) ∧ W.cell? ⟨w.heap.size + 1, 2, none⟩ = some (.slice B nb cb)) from fun W h => ⟨(qa.ex h).cell 0 rfl, (qa.ex h).cell 1 rfl, (qa.ex h).cell 2 rfl, (qb.ex h).cell 1 rfl, (qb.ex h).cell 2 rfl⟩)
  clear qa qb
  obtain ⟨k0, k1, k2, k3, k4⟩ := HQ.out _ (Ex.refl _)
  have hmk := run_make_nils mid (by omega) W2
  obtain ⟨M, hM⟩ : ∃ M, (frOps p).midS la mid a b = M := ⟨_, rfl⟩
  have HM := Lib.hid hM
  have HMl := Lib.hid (show M.length = mid by rw [← hM]; unfold Ops.midS; simp)
  have HMat := Lib.hid (show ∀ j, j < mid → M[j]? = some (a.map (fun r => (frOps p).el r (la + j)) ++ b.map (fun r => negF p ((frOps p).el r j))) from fun j hj => by
    rw [← hM]; unfold Ops.midS
    rw [List.getElem?_map, List.getElem?_range hj]; rfl)
  clear hM
  go_wp2_with fail
  rw [hmk]
  go_wp2_with fail
  clear k0 k1 k2 k3 k4 hmk
  have ME0 := MidE.start w W2 HMl.out
  rw [nil_rep] at ME0
  have z3 := (Ex.refl W2).alloc (.cells (Array.replicate mid (Value.slice none 0 0)) 34)
  have S3 : (W2.alloc (.cells (Array.replicate mid (Value.slice none 0 0)) 34)).heap.size = W2.heap.size + 1 := by simp
  generalize W2.alloc (.cells (Array.replicate mid (Value.slice none 0 0)) 34) = W3 at *
  rw [← S3] at ME0
  clear S3
  go_loopw [25] (fun i wr => ∃ j : Nat, j ≤ mid ∧ i = .int .i64 j ∧ MidE w W2.heap.size wr.heap.size j M wr ∧ Ex W2 wr) (fun i _ => mid - (intOf i).toNat)
  case atStart => exact ⟨0, Nat.zero_le _, rfl, ME0, z3⟩
  case round =>
    rename World => wi
    clear ME0 z3
    obtain ⟨j, hj, rfl, hME, he⟩ := hrel
    have hzi := he.size
    by_cases hlt : j < mid
    · have hMI := hME.open_ (by rw [HMl.out]; exact hlt)
      have hGs : W2.heap.size < wi.heap.size := hME.1
      obtain ⟨k0, k1, k2, k3, k4⟩ := HQ.out _ he
      go_wp2_with fail
      clear k0 k1 k2 k3 k4
      go_loopw [31] (fun i wr => ∃ (k : Nat) (v : Value), k ≤ na ∧ i = .int .i64 k ∧ MidI w W2.heap.size wi.heap.size j M wr v ∧ RP w wi.heap.size wr v ((a.map (fun r => (frOps p).el r (la + j))).take k) ∧ wi.heap.size ≤ wr.heap.size ∧ Ex W2 wr) (fun i _ => na - (intOf i).toNat)
      case atStart => exact ⟨0, _, Nat.zero_le _, rfl, hMI, RP.nil w wi, Nat.le_refl _, he⟩
      case round =>
        rename World => wj
        clear hMI he
        obtain ⟨k, v, hk, rfl, hMI, hRP, hsz, he⟩ := hrel
        have xw := xx.trans he
        by_cases hlt2 : k < na
        · obtain ⟨g, off, row, P, pc, eA, hr, b0w, hpc, hP⟩ := HA.out.at_ (j := k) (by rw [HNa.out]; exact hlt2)
          subst eA
          have hrl := HWa.out row (List.mem_of_getElem? hr)
          obtain ⟨g2, off2, x, P1, pc1, Q1, qc1, eP, hx, c1w, c2w, hP1, hQ1⟩ := hP.frac (j := la + j) (by rw [hrl]; omega)
          subst eP
          have HT := Lib.hid (show (a.map (fun r => (frOps p).el r (la + j))).take (k + 1) = (a.map (fun r => (frOps p).el r (la + j))).take k ++ [x] by rw [map_step hr, Ops.el_in _ hx])
          obtain ⟨A2, c2, ev⟩ := hRP.form
          subst ev
          have htl := List.length_take_le k (a.map (fun r => (frOps p).el r (la + j)))
          obtain ⟨tl, htl'⟩ : ∃ tl, ((a.map (fun r => (frOps p).el r (la + j))).take k).length = tl := ⟨_, rfl⟩
          rw [hrl] at b0w
          rw [htl'] at hMI hRP htl
          have y1 : Ex wj (wj.drew.alloc (.cells #[.slice P1 x.n.length pc1, .slice Q1 x.d.length qc1] 58)) := ((Ex.refl wj).drew).alloc _
          obtain ⟨v', w5, hrun, rp5, kp5, sz5, hE5, _, _⟩ := (hRP.ex y1).pushO (Nat.le_trans hsz y1.size) (rowQ_one (w := wj.drew) (Good := fun w2 => Ex w w2) (x := x) (u := .slice P1 x.n.length pc1) (v := .slice Q1 x.d.length qc1) rfl rfl (fun w2 h2 => ⟨⟨P1, pc1, rfl, hP1.ex h2⟩, ⟨Q1, qc1, rfl, hQ1.ex h2⟩⟩)) (fun w2 h0 _ => h0) 1 (by rw [htl']; simp; omega)
          rw [List.length_singleton] at hrun
          obtain ⟨A5, c5, ev5⟩ := rp5.form
          rw [List.length_append, htl', List.length_singleton] at ev5
          subst ev5
          rw [← HT.out] at rp5
          have xe5 := hE5 W2 (he.trans y1) (by omega)
          have hMI5 := (hMI.ex hsz y1).keep kp5
          have m5 := hMI5.cell
          have z5 := hMI5.frozen j
          have hMI6 := hMI5.set (.slice A5 (tl + 1) c5)
          have e6 : Ex1 W2.heap.size w5 (w5.setCell ⟨W2.heap.size, j, none⟩ (.slice A5 (tl + 1) c5)) := (Ex1.refl _ _).setCell (p := ⟨W2.heap.size, j, none⟩) rfl _
          have rp6 := rp5.k1 e6 hGs
          have xe6 := xe5.ex1 e6 (Nat.le_refl _)
          have hz1 := y1.size
          have hz6 := e6.size
          obtain ⟨k0, k1, k2, k3, k4⟩ := HQ.out _ he
          have b0 := cell_ex xw b0w
          have c1 := cell_ex xw c1w
          have c2' := cell_ex xw c2w
          have m0 := hMI.cell
          have m0' : (wj.alloc (.cells #[.slice P1 x.n.length pc1, .slice Q1 x.d.length qc1] 58)).cell? ⟨W2.heap.size, j, none⟩ = some (.slice A2 tl c2) := cell_ex ((Ex.refl wj).alloc _) m0
          have hadd : IntKind.i64.wrap ((la : Int) + (j : Int)) = ((la + j : Nat) : Int) := by rw [IntWalk.i64_in _ (by omega)]; omega
          obtain ⟨lj, hlj⟩ : ∃ lj, la + j = lj := ⟨_, rfl⟩
          rw [hlj] at hadd c1 c2'
          have hljm : (lj : Int) < (la : Int) + (mid : Int) := by omega
          clear hlj
          clear hr hx hP hP1 hQ1 HT b0w c1w c2w hE5 hRP hMI hMI5 rp5 k1 k2 k3 k4
          go_wp2_with fail
          go_region_law (first | (refine step_append_run rfl _ _ _ rfl rfl rfl hrun ?_))
          all_goals
            clear hrun m0 m0' m5 z5 k0 b0 c1 c2'
            go_wp2_with fail
            go_roundw
            case rel => exact ⟨k + 1, _, by omega, by go_num, hMI6, rp6, by omega, xe6⟩
            case measure => simp [intOf]; omega
        · obtain rfl : na = k := by omega
          rw [List.take_of_length_le (by rw [List.length_map, HNa.out]; exact Nat.le_refl _)] at hRP
          obtain ⟨k0, k1, k2, k3, k4⟩ := HQ.out _ he
          go_wp2_with fail
          clear k0 k1 k2 k3 k4
          go_loopw [55] (fun i wr => ∃ (k : Nat) (v : Value), k ≤ nb ∧ i = .int .i64 k ∧ MidI w W2.heap.size wi.heap.size j M wr v ∧ RP w wi.heap.size wr v (a.map (fun r => (frOps p).el r (la + j)) ++ (b.map (fun r => negF p ((frOps p).el r j))).take k) ∧ wi.heap.size ≤ wr.heap.size ∧ Ex W2 wr) (fun i _ => nb - (intOf i).toNat)
          case atStart => exact ⟨0, _, Nat.zero_le _, rfl, hMI, by simpa using hRP, hsz, he⟩
          case round =>
            rename World => wk
            clear hMI he hRP xw hsz
            obtain ⟨k, v, hk, rfl, hMI, hRP, hsz, he⟩ := hrel
            have xw := xx.trans he
            by_cases hlt2 : k < nb
            · obtain ⟨g, off, row, P, pc, eA, hr, b0w, hpc, hP⟩ := HB.out.at_ (j := k) (by rw [HNb.out]; exact hlt2)
              subst eA
              have hrl := HWb.out row (List.mem_of_getElem? hr)
              obtain ⟨g2, off2, x, P1, pc1, Q1, qc1, eP, hx, c1w, c2w, hP1, hQ1⟩ := hP.frac (j := j) (by rw [hrl]; omega)
              subst eP
              have HT := Lib.hid (show (b.map (fun r => negF p ((frOps p).el r j))).take (k + 1) = (b.map (fun r => negF p ((frOps p).el r j))).take k ++ [negF p x] by rw [map_step hr, Ops.el_in _ hx])
              have hxg := Lib.hid (HGb.out row (List.mem_of_getElem? hr) x (List.mem_of_getElem? hx))
              obtain ⟨A2, c2, ev⟩ := hRP.form
              subst ev
              have htl : (a.map (fun r => (frOps p).el r (la + j)) ++ (b.map (fun r => negF p ((frOps p).el r j))).take k).length ≤ na + k := by
                have := List.length_take_le k (b.map (fun r => negF p ((frOps p).el r j)))
                rw [List.length_append, List.length_map, HNa.out]; omega
              obtain ⟨tl, htl'⟩ : ∃ tl, (a.map (fun r => (frOps p).el r (la + j)) ++ (b.map (fun r => negF p ((frOps p).el r j))).take k).length = tl := ⟨_, rfl⟩
              rw [hrl] at b0w
              rw [htl'] at hMI hRP htl
              have b0 := cell_ex xw b0w
              have c1 := cell_ex xw c1w
              have c2' := cell_ex xw c2w
              have m0 := hMI.cell
              have hjm : (j : Int) < (mid : Int) + (rb : Int) := by omega
              have hPk := hP1.ex xw
              have hQk := hQ1.ex xw
              clear hr hx hP hP1 hQ1 b0w c1w c2w
              go_wp2_with fail
              go_region_law (first
                | (go_simp
                   go_at_call 86
                   refine (frNeg_c p x P1 Q1 pc1 qc1 _ hxg.out.1 (hPk.ex (Ex.refl wk).drew) (hQk.ex (Ex.refl wk).drew)).mono ?_
                   rintro e w2 ⟨N1, n1, N2, n2, rfl, f1, f2, ap, x2'⟩
                   have x2 : Ex wk w2 := (Ex.refl wk).drew.trans x2'
                   have hz2 := x2.size
                   have y3 : Ex wk (w2.alloc (.cells #[.slice N1 (negF p x).n.length n1, .slice N2 (negF p x).d.length n2] 58)) := x2.alloc _
                   have hof := ofra_of_fr (x := negF p x) f1 f2 ap hz2
                   obtain ⟨v', w5, hrun, rp5, kp5, sz5, hE5, _, _⟩ := (hRP.ex y3).pushO (Nat.le_trans hsz y3.size) (rowQ_one (w := w2) (Good := fun W => ∀ q, wk.heap.size ≤ q → q < w2.heap.size → q < w2.heap.size → W.heap[q]? = w2.heap[q]?) (x := negF p x) (u := .slice N1 (negF p x).n.length n1) (v := .slice N2 (negF p x).d.length n2) rfl rfl (fun W hW => (hof.keep hW).rd)) (RP.good ((Ex.refl w2).alloc _) hsz hRP.own) 1 (by rw [htl']; simp; omega)
                   rw [List.length_singleton] at hrun
                   obtain ⟨A5, c5, ev5⟩ := rp5.form
                   rw [List.length_append, htl', List.length_singleton] at ev5
                   subst ev5
                   rw [List.append_assoc, ← HT.out] at rp5
                   have xe5 := hE5 W2 (he.trans y3) (by omega)
                   have m2 := cell_ex x2 m0
                   have m3 := cell_ex y3 m0
                   have hMI5 := (hMI.ex hsz y3).keep kp5
                   have m5 := hMI5.cell
                   have z5 := hMI5.frozen j)
                | (refine step_append_run rfl _ _ _ rfl rfl rfl hrun ?_))
              all_goals
                have hMI6 := hMI5.set (.slice A5 (tl + 1) c5)
                have e6 : Ex1 W2.heap.size w5 (w5.setCell ⟨W2.heap.size, j, none⟩ (.slice A5 (tl + 1) c5)) := (Ex1.refl _ _).setCell (p := ⟨W2.heap.size, j, none⟩) rfl _
                have rp6 := rp5.k1 e6 hGs
                have xe6 := xe5.ex1 e6 (Nat.le_refl _)
                have hz1 := y3.size
                have hz6 := e6.size
                clear hrun m0 m2 m3 m5 z5 b0 c1 c2' hof
                go_wp2_with fail
                go_roundw
                case rel => exact ⟨k + 1, _, by omega, by go_num, hMI6, rp6, by omega, xe6⟩
                case measure => simp [intOf]; omega
            · obtain rfl : nb = k := by omega
              rw [List.take_of_length_le (by rw [List.length_map, HNb.out]; exact Nat.le_refl _)] at hRP
              obtain ⟨A2, c2, ev⟩ := hRP.form
              subst ev
              have hEn := hMI.next (HMat.out j hlt) (by rw [List.length_append, List.length_map, List.length_map, HNa.out, HNb.out]; omega) hsz hRP
              clear hMI hRP
              go_wp2_with fail
              go_roundw
              case rel => exact ⟨j + 1, by omega, by go_num, hEn, he⟩
              case measure => simp [intOf]; omega
    · obtain rfl : mid = j := by omega
      have hME2 : MidE w W2.heap.size wi.heap.size M.length M wi := by rw [HMl.out]; exact hME
      have xw := xx.trans he
      have hrn := hME2.rowsN (Nat.le_refl _) (by rw [HMl.out]; omega) xw
      have hwM : Wid (na + nb) M := fun v hv => by
        obtain ⟨t, ht⟩ := List.getElem?_of_mem hv
        have htl := (List.getElem?_eq_some_iff.1 ht).1
        rw [HMat.out t (by rw [← HMl.out]; exact htl)] at ht
        injection ht with ht
        rw [← ht, List.length_append, List.length_map, List.length_map, HNa.out, HNb.out]
      have hgM : GdM p 21 M := by rw [← HM.out]; exact midS_gd HF.out (by omega) HGa.out HGb.out
      have cN : ∀ c, Calls Tryz.prog 87 #[.int .i64 p, .int .i64 ((na + nb : Nat) : Int), .slice (some ⟨W2.heap.size, 0, none⟩) mid c] wi fun e w' => ∃ A' c', e = .returned (.slice A' ((frOps p).rref (na + nb) ((frOps p).nullL (na + nb) ((frOps p).rref (na + nb) M))).length c') ∧ RdC w' A' ((frOps p).rref (na + nb) ((frOps p).nullL (na + nb) ((frOps p).rref (na + nb) M))) ∧ Ex wi w' := fun c => by
        have := rrNull_c p (na + nb) M (some ⟨W2.heap.size, 0, none⟩) c wi HF.out hrn hwM hgM (by omega) (by rw [HMl.out]; omega)
        rwa [HMl.out] at this
      have hgR : GdM p 3563 ((frOps p).rref (na + nb) M) := (fr_rref_gd HF.out (by omega) hgM hwM (R := 12) (.inr (by rw [HMl.out]; omega))).mono (by unfold cramB; omega)
      have hgN : GdM p 3563 ((frOps p).nullL (na + nb) ((frOps p).rref (na + nb) M)) := nullL_gd HF.out (by omega) hgR
      have hwN : Wid (na + nb) ((frOps p).nullL (na + nb) ((frOps p).rref (na + nb) M)) := nullL_wid _ _
      have HKg := Lib.hid (show GdM p 3000000 ((frOps p).rref (na + nb) ((frOps p).nullL (na + nb) ((frOps p).rref (na + nb) M))) from (fr_rref_gd HF.out (by omega) hgN hwN (R := 24) (.inl (by omega))).mono (by unfold cramB; omega))
      obtain ⟨hkw, hkl, hkn⟩ := fr_rref HF.out (fun v hv x hx => (hgN v hv x hx).1) hwN
      have HFIN := Lib.hid (show (frOps p).cmpS la mid rb a b = (frOps p).rref (la + rb) (((frOps p).rref (na + nb) ((frOps p).nullL (na + nb) ((frOps p).rref (na + nb) M))).map ((frOps p).cmpR la mid rb a b)) by
        rw [← HM.out, ← HNa.out, ← HNb.out]; rfl)
      obtain ⟨KL, hKL⟩ : ∃ KL, (frOps p).rref (na + nb) ((frOps p).nullL (na + nb) ((frOps p).rref (na + nb) M)) = KL := ⟨_, rfl⟩
      rw [hKL] at cN HKg hkw hkl hkn HFIN
      have HKw := Lib.hid hkw
      have HKn : Hid (KL ≠ [] → 0 < na + nb) := Lib.hid fun h => by
        obtain ⟨v, hv⟩ := List.exists_mem_of_ne_nil _ h
        have := hkl v hv
        omega
      obtain ⟨kl, hkl'⟩ : ∃ kl, KL.length = kl := ⟨_, rfl⟩
      have HKl := Lib.hid hkl'
      rw [hkl'] at cN hkn
      obtain ⟨s, hs⟩ : ∃ s, na + nb = s := ⟨_, rfl⟩
      have Hs := Lib.hid hs
      have hadd : IntKind.i64.wrap ((na : Int) + (nb : Int)) = (s : Int) := by rw [IntWalk.i64_in _ (by omega)]; omega
      rw [hs] at cN hkn
      have hs24 : s ≤ 24 := by omega
      obtain ⟨k0, k1, k2, k3, k4⟩ := HQ.out _ he
      clear hME hME2 hrn hwM hgM hgR hgN hwN hkw hkl hKL hkl' hs
      go_wp2_with fail
      refine (cN _).mono ?_
      rintro e w5 ⟨A5, c5, rfl, hC, x5⟩
      clear cN k0 k1 k2 k3 k4
      go_wp2_with fail
      have X5 := he.trans x5
      go_loopw [14, 87] (fun o i wr => ∃ k : Nat, k ≤ kl ∧ i = .int .i64 k ∧ GE (ELQ w) 34 wr w5.heap.size wr.heap.size o ((KL.map ((frOps p).cmpR la mid rb a b)).take k) ∧ Ex w5 wr) (fun _ i _ => kl - (intOf i).toNat)
      case atStart => exact ⟨0, Nat.zero_le _, rfl, GE.nil _ _ _ _ _, Ex.refl _⟩
      case round =>
        rename World => wj
        obtain ⟨k, hk, rfl, hge, he5⟩ := hrel
        have hzj := he5.size
        by_cases hlt2 : k < kl
        · obtain ⟨g, off, kr, P, pc, eA, hr, b0w, hpc, hP⟩ := hC.at_ (j := k) (by rw [HKl.out]; exact hlt2)
          subst eA
          have hkrl := HKw.out kr (List.mem_of_getElem? hr)
          have hkrg := HKg.out kr (List.mem_of_getElem? hr)
          have HT := Lib.hid (map_step (f := (frOps p).cmpR la mid rb a b) hr)
          have b0 := cell_ex he5 b0w
          rw [hkrl, Hs.out] at b0
          rw [hkrl, Hs.out] at hpc
          have hns : na ≤ s := by have := Hs.out; omega
          have hpn : na ≤ pc := by omega
          have hs1 := fun W => run_takeF (A := P) (n := s) (c := pc) (hi := na) hpn W
          obtain ⟨P', hs2, _, hrd⟩ := run_dropF (A := P) (n := s) (c := pc) (lo := na) hns hpc
          rw [show s - na = nb by have := Hs.out; omega] at hs2
          have xj := X5.trans he5
          have xwj := xx.trans xj
          have l1 : (kr.take na).length = na := by rw [List.length_take, hkrl]; omega
          have l2 : (kr.drop na).length = nb := by rw [List.length_drop, hkrl]; omega
          obtain ⟨X, hX⟩ : ∃ X, (frOps p).cmb (la + mid) (kr.take na) a = X := ⟨_, rfl⟩
          obtain ⟨Z, hZ⟩ : ∃ Z, (frOps p).cmb (mid + rb) (kr.drop na) b = Z := ⟨_, rfl⟩
          have hXl : X.length = la + mid := by rw [← hX]; exact cmb_len' HWa.out (by rw [l1, HNa.out])
          have hZl : Z.length = mid + rb := by rw [← hZ]; exact cmb_len' HWb.out (by rw [l2, HNb.out])
          have HR := Lib.hid (show (frOps p).cmpR la mid rb a b kr = X.take la ++ Z.drop mid by
            unfold Ops.cmpR; rw [HNa.out, hX, hZ])
          have cX : ∀ W, Ex wj W → ∀ d, Calls Tryz.prog 88 #[.int .i64 p, .int .i64 ((la + mid : Nat) : Int), .slice A na ca, .slice P na d] W fun e w' => ∃ A' c', e = .returned (.slice A' (la + mid) c') ∧ GE ELF 58 w' W.heap.size w'.heap.size (.slice A' (la + mid) c') X ∧ Ex W w' := fun W hW d => by
            have := rrSum_c p (la + mid) a (kr.take na) A P ca d W HF.out (HA.out.1.ex (xwj.trans hW)) ((hP.ex (he5.trans hW)).tkk na) HWa.out (by rw [l1, HNa.out]) (by omega) (by rw [HNa.out]; exact hna) (hkrg.take na) HGa.out
            rwa [HNa.out, l1, hX] at this
          have cZ : ∀ W, Ex wj W → ∀ d, Calls Tryz.prog 88 #[.int .i64 p, .int .i64 ((mid + rb : Nat) : Int), .slice B nb cb, .slice P' nb d] W fun e w' => ∃ A' c', e = .returned (.slice A' (mid + rb) c') ∧ GE ELF 58 w' W.heap.size w'.heap.size (.slice A' (mid + rb) c') Z ∧ Ex W w' := fun W hW d => by
            have := rrSum_c p (mid + rb) b (kr.drop na) B P' cb d W HF.out (HB.out.1.ex (xwj.trans hW)) (hrd _ kr (by rw [hkrl, Hs.out]) (hP.ex (he5.trans hW))) HWb.out (by rw [l2, HNb.out]) (by omega) (by rw [HNb.out]; exact hnb) (hkrg.drop na) HGb.out
            rwa [HNb.out, l2, hZ] at this
          have hlm : IntKind.i64.wrap ((la : Int) + (mid : Int)) = ((la + mid : Nat) : Int) := by rw [IntWalk.i64_in _ (by omega)]; omega
          have hmr : IntKind.i64.wrap ((mid : Int) + (rb : Int)) = ((mid + rb : Nat) : Int) := by rw [IntWalk.i64_in _ (by omega)]; omega
          have hctl : ((KL.map ((frOps p).cmpR la mid rb a b)).take k).length ≤ k := List.length_take_le _ _
          obtain ⟨lm, hlm'⟩ : ∃ lm, la + mid = lm := ⟨_, rfl⟩
          obtain ⟨mr, hmr'⟩ : ∃ mr, mid + rb = mr := ⟨_, rfl⟩
          have HLM := Lib.hid hlm'
          have HMR := Lib.hid hmr'
          rw [hlm'] at cX hlm hXl
          rw [hmr'] at cZ hmr hZl
          have HS : ∀ W, Ex wj W → (W.cell? ⟨w.heap.size, 0, none⟩ = some (.int .i64 la) ∧ W.cell? ⟨w.heap.size, 2, none⟩ = some (.slice A na ca) ∧ W.cell? ⟨w.heap.size + 1, 1, none⟩ = some (.int .i64 rb) ∧ W.cell? ⟨w.heap.size + 1, 2, none⟩ = some (.slice B nb cb)) := fun W h => by
            obtain ⟨k0, k1, k2, k3, k4⟩ := HQ.out _ (xj.trans h)
            exact ⟨k0, k2, k3, k4⟩
          clear hr hP hrd hkrl hkrg hX hZ b0w l1 l2 hlm' hmr'
          go_wp2_with fail
          go_region_held3 (fun W => W.cell? ⟨w.heap.size, 0, none⟩ = some (.int .i64 la) ∧ W.cell? ⟨w.heap.size, 2, none⟩ = some (.slice A na ca) ∧ W.cell? ⟨w.heap.size + 1, 1, none⟩ = some (.int .i64 rb) ∧ W.cell? ⟨w.heap.size + 1, 2, none⟩ = some (.slice B nb cb)) (first
            | (exact HS _ x6) | (exact HS _ (Ex.refl _).drew) | (exact HS _ (Ex.refl _))) (first
            | (go_at_call 88
               refine (cX _ (Ex.refl wj).drew _).mono ?_
               rintro e w6 ⟨A6, c6, rfl, ge6, x6'⟩
               have x6 : Ex wj w6 := (Ex.refl wj).drew.trans x6'))
          go_wp2_with fail
          go_region_held3 (fun W => W.cell? ⟨w.heap.size, 0, none⟩ = some (.int .i64 la) ∧ W.cell? ⟨w.heap.size, 2, none⟩ = some (.slice A na ca) ∧ W.cell? ⟨w.heap.size + 1, 1, none⟩ = some (.int .i64 rb) ∧ W.cell? ⟨w.heap.size + 1, 2, none⟩ = some (.slice B nb cb)) (first
            | (exact HS _ x7) | (exact HS _ x6.drew) | (exact HS _ x6)) (first
            | (go_at_call 88
               refine (cZ _ x6.drew _).mono ?_
               rintro e w7 ⟨A7, c7, rfl, ge7, x7'⟩
               have x67 : Ex w6 w7 := (Ex.refl w6).drew.trans x7'
               have x7 : Ex wj w7 := x6.trans x67))
          clear cX cZ hs1 hs2 b0
          have hXr : X.length ≤ 1000 := by rw [hXl]; have := HLM.out; omega
          have hZr : Z.length ≤ 1000 := by rw [hZl]; have := HMR.out; omega
          have hc6 := ge6.room (by omega)
          have hc7 := ge7.room (by omega)
          rw [hXl] at hc6
          rw [hZl] at hc7
          have hsx := fun W => run_takeF (A := A6) (n := lm) (c := c6) (hi := la) (by have := HLM.out; omega) W
          obtain ⟨Pz, hsz, hqz, _⟩ := run_dropF (A := A7) (n := mr) (c := c7) (lo := mid) (by have := HMR.out; omega) hc7
          rw [show mr - mid = rb by have := HMR.out; omega] at hsz
          have t1 : (X.take la).length = la := by rw [List.length_take, hXl]; have := HLM.out; omega
          have t2 : (Z.drop mid).length = rb := by rw [List.length_drop, hZl]; have := HMR.out; omega
          have hz6 := x6.size
          have hz67 := x67.size
          have x78 : Ex w7 (w7.drew.alloc (.cells #[] 58)) := (Ex.refl w7).drew.alloc _
          have r0 := (RP.start w w7.drew).low (s' := wj.heap.size) (show wj.heap.size ≤ w7.heap.size by omega)
          obtain ⟨v9, w9, hrun9, rp9, _, hz9, hE9, hown9, hO9⟩ := r0.pushO (show wj.heap.size ≤ _ from by have := x78.size; omega) (((ge6.rowQ (by omega)).tk la).ex (x67.trans x78)) (RP.good2 (x67.trans x78) (Nat.le_refl _) (fun k e => by injection e with e; rw [← e]; exact hz67)) c6 (by rw [t1]; simp; omega)
          have x9 := hE9 wj (x7.trans x78) (Nat.le_refl _)
          have x79 : Ex w7 w9 := x78.exo hO9 (fun g e => by injection e with e; rw [← e]; exact Nat.le_refl _)
          rw [List.nil_append] at rp9
          rw [t1] at hrun9
          have hv9 : ∀ k, v9.ownBlock = some k → w7.heap.size ≤ k := fun k e => by
            rcases hown9 with q | q
            · rw [q] at e; injection e with e; rw [← e]; exact Nat.le_refl _
            · rw [q] at e; injection e with e; rw [← e]; exact x78.size
          obtain ⟨v10, w10, hrun10, rp10, _, hz10, hE10, hown10, hO10⟩ := rp9.pushO x9.size ((hqz _ w7 Z hZl (ge7.rowQ (by omega))).ex x79) (RP.good2 x79 (show wj.heap.size ≤ w6.drew.heap.size from hz6) hv9) (c7 - mid) (by rw [t1, t2]; have := HMR.out; have := HLM.out; omega)
          have x10 := hE10 wj x9 (Nat.le_refl _)
          rw [t2] at hrun10
          rw [← HR.out] at rp10
          obtain ⟨A10, c10, ev10⟩ := rp10.form
          have hrl : ((frOps p).cmpR la mid rb a b kr).length = la + rb := by rw [HR.out, List.length_append, t1, t2]
          rw [hrl] at ev10
          subst ev10
          have hq := rp10.elq (by rw [hrl]; omega)
          obtain ⟨v11, w11, hrun11, ge11, _, _, hE11⟩ := push_rowsQ (hge.ex x10) x10.size hq (Nat.le_refl _) x10.size (Nat.le_refl _) hzj (by omega)
          rw [← HT.out] at ge11
          have x11 := hE11 w5 (he5.trans x10) (Nat.le_refl _)
          have HSx : ∀ W, Ex W2 W → W.cell? ⟨w.heap.size, 0, none⟩ = some (.int .i64 la) := fun W h => (HQ.out W h).1
          have q0 := HSx _ (xj.trans x7)
          have q1 : (w7.alloc (.cells #[] 58)).cell? ⟨w.heap.size, 0, none⟩ = some (.int .i64 la) := cell_ex ((Ex.refl w7).alloc _) q0
          clear hE9 hE10 hE11 rp9 rp10 hq r0 ge6 ge7 hqz hge hv9 HS hown9 hown10 hO9 hO10 hXr hZr hXl hZl
          go_wp2_with fail
          go_region_held3 (fun W => W.cell? ⟨w.heap.size, 0, none⟩ = some (.int .i64 la)) (first
            | (exact HSx _ (X5.trans x11)) | (exact HSx _ ((xj.trans x10).alloc _)) | (exact HSx _ (xj.trans x10)) | (exact HSx _ (xj.trans x9)) | (exact HSx _ (xj.trans (x7.trans x78))) | (exact HSx _ (xj.trans x7).drew) | (exact HSx _ (xj.trans x7))) (first
            | (refine step_append_run (vx := .slice A6 la c6) rfl _ _ _ rfl rfl rfl hrun9 ?_)
            | (refine step_append_run (vs := v9) rfl _ _ _ rfl rfl rfl hrun10 ?_)
            | (refine step_append_run rfl _ _ _ rfl rfl rfl hrun11 ?_))
          clear hrun9 hrun10 hrun11 hsx hsz q0 q1 HSx
          go_wp2_with fail
          go_roundw
          case rel => exact ⟨k + 1, by omega, by go_num, ge11, x11⟩
          case measure => simp [intOf]; omega
        · obtain rfl : kl = k := by omega
          rw [List.take_of_length_le (by rw [List.length_map, HKl.out]; exact Nat.le_refl _)] at hge
          obtain ⟨D, hD⟩ : ∃ D, KL.map ((frOps p).cmpR la mid rb a b) = D := ⟨_, rfl⟩
          have hDl : D.length = kl := by rw [← hD, List.length_map, HKl.out]
          have hDw : Wid (la + rb) D := fun v hv => by
            rw [← hD] at hv
            obtain ⟨u, hu, rfl⟩ := List.mem_map.1 hv
            exact cmpR_len' HWa.out HWb.out (by rw [HKw.out u hu, HNa.out, HNb.out])
          have hDg : GdM p 36000253 D := fun v hv => by
            rw [← hD] at hv
            obtain ⟨u, hu, rfl⟩ := List.mem_map.1 hv
            exact cmpR_gd HF.out (HKg.out u hu) HGa.out HGb.out (by rw [HNa.out]; exact hna) (by rw [HNb.out]; exact hnb) (by rw [HKw.out u hu, HNa.out, HNb.out]) (by omega)
          rw [hD] at hge HFIN
          clear hD
          have hzX := X5.size
          obtain ⟨A3, c3, e3, hN⟩ := hge.rowsN (S := fun z => w.heap.size ≤ z ∧ z < W2.heap.size) (by rw [hDl]; omega) ((xx.trans X5).trans he5) (fun z hz => ⟨hz.1, by omega⟩)
          rw [hDl] at e3
          subst e3
          have X6 := X5.trans he5
          have hz6 := X6.size
          have cO := rrOf_c (fun z => w.heap.size ≤ z ∧ z < W2.heap.size) p la rb D A3 c3 wj HF.out hN (fun z hz => by omega) hDw (fun c hc => (stg_cramR HF.out (by omega) hDg hDw (R := 12) (.inl h3) (Nat.le_refl _) c hc).mono (by unfold cramB; omega)) (by omega) (by rw [hDl]; omega)
          rw [hDl] at cO
          obtain ⟨RR, hRR⟩ : ∃ RR, (frOps p).rref (la + rb) D = RR := ⟨_, rfl⟩
          rw [hRR] at cO HFIN
          clear hRR hDw hDg hDl hN hge
          obtain ⟨k0, k1, k2, k3, k4⟩ := HQ.out _ X6
          go_wp2_with fail
          refine cO.mono ?_
          rintro e w8 ⟨A4, c4, rfl, r4, x8⟩
          clear cO k0 k1 k2 k3 k4
          have dz := (d2.ex X6).ex x8
          have xz := (xx.trans X6).trans x8
          obtain ⟨dd, zz⟩ := dz.st3 (.int .i64 la) (.int .i64 rb) (.slice A4 RR.length c4)
          have u0 := dz.cell 0 (v := .int .i64 0) rfl
          have u1 := dz.cell 1 (v := .int .i64 0) rfl
          have u2 := dz.cell 2 (v := .slice none 0 0) rfl
          have k0 := dz.frozen 0
          have k1 := dz.frozen 1
          have k2 := dz.frozen 2
          have C0 := dd.cell 0 (v := .int .i64 la) rfl
          have C1 := dd.cell 1 (v := .int .i64 rb) rfl
          have C2 := dd.cell 2 (v := .slice A4 RR.length c4) rfl
          have eF := xz.ex1 zz (by omega)
          have hl2 := d2.lt
          have rF := r4 _ (ExS.of_ex1 (S := fun z => w.heap.size ≤ z ∧ z < W2.heap.size) zz (by omega))
          go_wp2_with fail
          refine bodyPost_ret (v := .agg #[.int .i64 la, .int .i64 rb, .slice A4 RR.length c4]) (by simp [results, Tryz.results62, go_sem, C0, C1, C2]) rfl ?_
          rw [HFIN.out]
          exact ⟨A4, c4, rfl, rF, eF⟩
end Go.Proofs.YtpeogfapnofeoaaGreatDoor
