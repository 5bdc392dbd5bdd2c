/- HasRatPair: the plain answer; the reference. -/
import Derived.Test.YtpeogfapnofeoaaGreatDoorSRh
import Derived.Test.YtpeogfapnofeoaaGreatDoorCcA
namespace Go.Proofs.YtpeogfapnofeoaaGreatDoor
set_option maxRecDepth 100000
open Go Go.RowKit
noncomputable def hasU (p : Int) (x : RRel) (xs ys : List Fra) : Bool × Bool := if rrB p x = true ∧ okRow p x.l.toNat xs = true ∧ okRow p x.r.toNat ys = true then (hasF p x.b (xs ++ ys), true) else (false, false)
theorem hasU_no {p : Int} {x : RRel} {xs ys : List Fra} (h : ¬ (rrB p x = true ∧ okRow p x.l.toNat xs = true ∧ okRow p x.r.toNat ys = true)) : hasU p x xs ys = (false, false) := if_neg h
theorem hasU_yes {p : Int} {x : RRel} {xs ys : List Fra} (h : rrB p x = true ∧ okRow p x.l.toNat xs = true ∧ okRow p x.r.toNat ys = true) : hasU p x xs ys = (hasF p x.b (xs ++ ys), true) := if_pos h
theorem okRow_sp {p l : Int} {xs : List Fra} (hl : 0 ≤ l) : (xs.all (fun x => fracB p x.n x.d) && decide ((xs.length : Int) = l)) = okRow p l.toNat xs := by
  rw [Bool.eq_iff_iff]
  simp only [okRow, Bool.and_eq_true, decide_eq_true_eq]
  constructor
  · rintro ⟨h1, h2⟩; exact ⟨by omega, h1⟩
  · rintro ⟨h1, h2⟩; exact ⟨h2, by omega⟩
theorem okRow_gd {p : Int} {n : Nat} {r : List Fra} (h : okRow p n r = true) : r.length = n ∧ GdR p 21 r := by
  simp only [okRow, Bool.and_eq_true, decide_eq_true_eq] at h
  exact ⟨h.1, fun x hx => fv_of (List.all_eq_true.1 h.2 x hx)⟩
theorem GdR.app {p : Int} {L : Nat} {u v : List Fra} (h : GdR p L u) (k : GdR p L v) : GdR p L (u ++ v) := fun x hx => by
  rcases List.mem_append.1 hx with e | e
  · exact h x e
  · exact k x e
/-- What a valid relation's rows are. -/
theorem rrB_has {p : Int} {x : RRel} (h : rrB p x = true) : ∃ l r : Nat, x.l = (l : Int) ∧ x.r = (r : Int) ∧ l + r ≤ 12 ∧ GdM p 21 x.b ∧ Wid (l + r) x.b ∧ (∀ v ∈ x.b, leadF v < l + r) ∧ x.b.length ≤ 12 ∧ fieldB p = true := by
  obtain ⟨h1, h2, h3, h4⟩ := rrB_iff.1 h
  have h5 := fit_lt h2
  have h6 := rrp_len h1 (gd_fv (okRows_gd h3)) h4
  obtain ⟨l, hl⟩ : ∃ l : Nat, x.l = (l : Int) := ⟨x.l.toNat, by omega⟩
  obtain ⟨r, hr⟩ : ∃ r : Nat, x.r = (r : Int) := ⟨x.r.toNat, by omega⟩
  have e : (x.l + x.r).toNat = l + r := by omega
  rw [e] at h3 h4 h6
  exact ⟨l, r, hl, hr, by omega, okRows_gd h3, okRows_wid h3, fun v hv => (h4.one v hv).1, by omega, h1⟩
set_option maxHeartbeats 8000000 in
theorem spHasRatPair_u (p : Int) (x : RRel) (xs ys : List Fra) (v0 vx vy : Value) (w : World) (h : RRRel w v0 x) (hx : RF w vx xs) (hy : RF w vy ys) :
    Calls Tryz.prog 10 #[.int .i64 p, .agg #[.int .i64 x.l, .int .i64 x.r, v0], vx, vy] w fun e w' => e = .returned (.tuple #[.bool (hasU p x xs ys).1, .bool (hasU p x xs ys).2]) ∧ Ex w w' := by
  obtain ⟨⟨A, c, rfl, h⟩, _⟩ := h
  obtain ⟨⟨X, xc, rfl, hx⟩, _⟩ := hx
  obtain ⟨⟨Y, yc, rfl, hy⟩, _⟩ := hy
  have x0 := (Ex.refl w).alloc (.cells #[.int .i64 x.l, .int .i64 x.r, .slice A x.b.length c] 32)
  have d0 := VB.new w 32 #[.int .i64 x.l, .int .i64 x.r, .slice A x.b.length c]
  have hxl := hx.1
  have hyl := hy.1
  go_enter Tryz.func10, Tryz.ntmps10
  go_wp2_with fail
  generalize w.alloc (.cells #[.int .i64 x.l, .int .i64 x.r, .slice A x.b.length c] 32) = W0 at *
  refine (rrGood_c p x A c W0 (h.ex x0)).mono ?_
  rintro e w1 ⟨b0, rfl, hb0, x1⟩
  obtain rfl := rrB_of hb0
  clear hb0
  have d1 := d0.ex x1
  have X1 := x0.trans x1
  cases hb : rrB p x with
  | false =>
    have HN := Lib.hid (hasU_no (p := p) (x := x) (xs := xs) (ys := ys) (by rw [hb]; simp))
    clear hb
    go_wp2_with fail
    go_ret2
    exact ⟨by rw [HN.out]; rfl, X1⟩
  | true =>
    have HB := Lib.hid hb
    obtain ⟨l, r, hl, hr, hlr, hgd, hwd, hld, hbl, hF⟩ := rrB_has hb
    have c1 := rrGoodRow_c p l X xc xs
    rw [okRow_sp (show (0 : Int) ≤ (l : Int) by omega), show ((l : Int)).toNat = l from rfl] at c1
    have c2 := rrGoodRow_c p r Y yc ys
    rw [okRow_sp (show (0 : Int) ≤ (r : Int) by omega), show ((r : Int)).toNat = r from rfl] at c2
    have p0 := d1.cell 0 (v := .int .i64 x.l) rfl
    rw [hl] at p0
    clear hb
    cases ho1 : okRow p l xs with
    | false =>
      have HN := Lib.hid (hasU_no (p := p) (x := x) (xs := xs) (ys := ys) (by rw [hl, show ((l : Int)).toNat = l from rfl, ho1]; simp))
      rw [ho1] at c1
      clear ho1 c2
      go_wp2_with fail
      refine (c1 w1 (hx.ex X1)).mono ?_
      rintro e w2 ⟨rfl, x2⟩
      go_wp2_with fail
      go_ret2
      exact ⟨by rw [HN.out]; rfl, X1.trans x2⟩
    | true =>
      have Ho1 := Lib.hid ho1
      rw [ho1] at c1
      clear ho1
      go_wp2_with fail
      refine (c1 w1 (hx.ex X1)).mono ?_
      rintro e w2 ⟨rfl, x2⟩
      have d2 := d1.ex x2
      have X2 := X1.trans x2
      have p1 := d2.cell 1 (v := .int .i64 x.r) rfl
      rw [hr] at p1
      cases ho2 : okRow p r ys with
      | false =>
        have HN := Lib.hid (hasU_no (p := p) (x := x) (xs := xs) (ys := ys) (by rw [hr, show ((r : Int)).toNat = r from rfl, ho2]; simp))
        rw [ho2] at c2
        clear ho2 c1
        go_wp2_with fail
        refine (c2 w2 (hy.ex X2)).mono ?_
        rintro e w3 ⟨rfl, x3⟩
        go_wp2_with fail
        go_ret2
        exact ⟨by rw [HN.out]; rfl, X2.trans x3⟩
      | true =>
        have HY := Lib.hid (hasU_yes (p := p) (x := x) (xs := xs) (ys := ys) ⟨HB.out, by rw [hl]; exact Ho1.out, by rw [hr]; exact ho2⟩)
        rw [ho2] at c2
        obtain ⟨hxn, hxg⟩ := okRow_gd Ho1.out
        obtain ⟨hyn, hyg⟩ := okRow_gd ho2
        have Hg := Lib.hid (hxg.app hyg)
        have HL := Lib.hid (show (xs ++ ys).length = l + r by rw [List.length_append, hxn, hyn])
        have hxl2 : xs.length ≤ 12 := by omega
        have hyl2 : ys.length ≤ 12 := by omega
        have Hgd := Lib.hid hgd
        have Hwd := Lib.hid hwd
        have Hld := Lib.hid hld
        clear ho2 c1 hxg hyg hgd hwd hld hxn hyn
        go_wp2_with fail
        refine (c2 w2 (hy.ex X2)).mono ?_
        rintro e w3 ⟨rfl, x3⟩
        have d3 := d2.ex x3
        have X3 := X2.trans x3
        clear c2 p0 p1
        have q2 := d3.cell 2 (v := .slice A x.b.length c) rfl
        have x4 := (Ex.refl w3).drew.alloc (.cells #[] 58)
        obtain ⟨v5, w5, prs1, hrun1, ge5, hl5, hp5, hE5⟩ := push_fracs (GE.empty ELW 58 w3.drew (Nat.le_refl _)) (by simp) (by simp) w3 x4 X xc xs (hx.ex X3) (by simp; omega)
        have x5 := hE5 w3 x4 (Nat.le_refl _)
        obtain ⟨v6, w6, prs2, hrun2, ge6, hl6, hp6, hE6⟩ := push_fracs ge5 (Nat.le_refl _) x5.size w3 x5 Y yc ys (hy.ex X3) (by simp; omega)
        have x6 := hE6 w3 x5 (Nat.le_refl _)
        obtain ⟨A6, c6, ev, r6⟩ := pairs_rds (xs := xs ++ ys) ge6 (by simp [hl5, hl6]) (by simp; omega) (fun j x hj => by
          rw [List.nil_append]
          by_cases e : j < xs.length
          · rw [List.getElem?_append_left e] at hj
            rw [List.getElem?_append_left (by omega)]
            obtain ⟨a, b, q1, q2⟩ := hp5 j x hj
            exact ⟨a, b, q1, q2.ex x6⟩
          · rw [List.getElem?_append_right (by omega)] at hj
            rw [List.getElem?_append_right (by omega), hl5]
            obtain ⟨a, b, q1, q2⟩ := hp6 _ x hj
            exact ⟨a, b, q1, q2.ex x6⟩)
        rw [HL.out] at ev
        subst ev
        have HS : ∀ W, Ex w3 W → (W.cell? ⟨w.heap.size, 2, none⟩ = some (.slice A x.b.length c)) := fun W h => cell_ex h q2
        clear hE5 hE6 hp5 hp6 ge5 ge6 hl5 hl6
        go_wp2_with fail
        go_region_held3 (fun W => W.cell? ⟨w.heap.size, 2, none⟩ = some (.slice A x.b.length c)) (first
          | (exact HS _ e7) | (exact HS _ x6) | (exact HS _ x5) | (exact HS _ x4) | (exact HS _ (Ex.refl _).drew) | (exact HS _ (Ex.refl _)) | (exact HS _ ((Ex.refl _).alloc _))) (first
          | (refine step_append_run rfl _ _ _ rfl rfl rfl hrun1 ?_)
          | (refine step_append_run rfl _ _ _ rfl rfl rfl hrun2 ?_)
          | (go_at_call 33
             refine (rrHas_c p (l + r) x.b (xs ++ ys) A A6 c c6 w6 (h.ex (X3.trans x6)) r6 Hgd.out Hwd.out Hld.out Hg.out HL.out hlr hbl).mono ?_
             rintro e w7 ⟨rfl, x7⟩
             have e7 : Ex w3 w7 := x6.trans x7))
        all_goals
          go_wp2_with fail
          go_ret2
          exact ⟨by rw [HY.out]; rfl, X3.trans e7⟩
end Go.Proofs.YtpeogfapnofeoaaGreatDoor
