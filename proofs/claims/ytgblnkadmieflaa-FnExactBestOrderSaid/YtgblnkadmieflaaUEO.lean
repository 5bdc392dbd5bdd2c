/- Arguments opened, in the uniform words: lists of edges. -/
import Derived.Test.YtgblnkadmieflaaUO
import Derived.Test.YtgblnkadmieflaaUE
import Derived.Test.YtgblnkadmieflaaUCells
namespace Go.Proofs.Ytgblnkadmieflaa
set_option maxRecDepth 100000
open Go.ChangeShapes Go.WideShapes Go.ChangeAt Go.RowKit Go.Joins Go.Deep
/-- What an edge's cells hold. -/
structure EdH where
  a : Int
  b : Int
  P : Option Addr
  m : Nat
  pc : Nat
  Q : Option Addr
  l : Nat
  qc : Nat
  z : Int
set_option maxHeartbeats 2000000 in
theorem fopen_EdgeS {H : Type} {enc : TypeId × Value → H} {W : World} {base fuel : Nat} {sp : Nat → Bool} {hd : Bool} {v : Value} {x : DataW H × List MemPlace}
    (h : DataW.trod enc Try.prog W base sp hd fuel 22 [v] = some x) : ∃ z : Int, 0 ≤ z ∧ QS 17 W v z ∧ (z ≤ 1048576 → ∃ x : List Ed, RE W v x) := by
  have hc4 : Try.prog.cellsOf 63 = 4 := by kernel_rfl
  have hi1 : Try.prog.cellsOf 3 = 1 := by kernel_rfl
  have hi2 : Try.prog.cellsOf 23 = 1 := by kernel_rfl
  obtain ⟨A, n, c, rfl, hn, k⟩ := open_cells Try.underlying22 (by rw [hc4]; decide) h
  obtain ⟨xs, hx, hq⟩ := choose_list (α := EdH) n (Q := fun i x => ∃ g off, A = some ⟨g, off, none⟩ ∧ W.cell? ⟨g, off + i * 4, none⟩ = some (.int .i64 x.a) ∧ W.cell? ⟨g, off + i * 4 + 1, none⟩ = some (.int .i64 x.b) ∧
      W.cell? ⟨g, off + i * 4 + 2, none⟩ = some (.slice x.P x.m x.pc) ∧ W.cell? ⟨g, off + i * 4 + 3, none⟩ = some (.slice x.Q x.l x.qc) ∧ 0 ≤ x.z ∧ (x.m : Int) + (x.l : Int) = x.z ∧
      QS 33 W (.agg #[.int .i64 x.a, .int .i64 x.b, .slice x.P x.m x.pc, .slice x.Q x.l x.qc]) x.z ∧
      (x.z ≤ 1048576 → (∃ u : List Int, RI W (.slice x.P x.m x.pc) u) ∧ ∃ u : List Int, RI W (.slice x.Q x.l x.qc) u)) (fun i hi => by
    obtain ⟨g, off, cs, y, m, hA, hl, hcell, hy⟩ := k i hi
    rw [hc4] at hl hcell
    obtain ⟨xs, n', _, _, hl', hlen, hfld⟩ := DataW.trod_struct Try.underlying63 hy
    match cs, hl with
    | [u0, u1, u2, u3], _ =>
      have f0 := hfld 0 _ rfl
      have f1 := hfld 1 _ rfl
      have f2 := hfld 2 _ rfl
      have f3 := hfld 3 _ rfl
      rw [List.getElem?_eq_getElem (by rw [hlen]; decide)] at f0 f1 f2 f3
      obtain ⟨a0, e0, _, _⟩ := DataW.trod_int (k := .i64) Try.underlying3 f0
      obtain ⟨a1, e1, _, _⟩ := DataW.trod_int (k := .i64) Try.underlying3 f1
      have h0 : u0 = .int .i64 a0 := by simpa [cellsInt] using e0
      have h1 : u1 = .int .i64 a1 := by simpa [cellsInt] using e1
      have g2 : DataW.trod enc Try.prog W base sp hd n' 23 [u2] = some _ := f2
      have g3 : DataW.trod enc Try.prog W base sp hd n' 23 [u3] = some _ := f3
      obtain ⟨P, m2, pc, rfl, hm2, k2⟩ := open_t g2
      obtain ⟨Q, m3, qc, rfl, hm3, k3⟩ := open_t g3
      subst h0 h1
      refine ⟨⟨a0, a1, P, m2, pc, Q, m3, qc, (m2 : Int) + (m3 : Int)⟩, g, off, hA, hcell 0 _ rfl, hcell 1 _ rfl, hcell 2 _ rfl, hcell 3 _ rfl, by dsimp only; omega, rfl, szEdge_q _ _ _ _ _ _ W (szIntS_q P m2 pc W hm2) (by omega) (szIntS_q Q m3 qc W hm3) (by omega), fun hz => ?_⟩
      dsimp only at hz ⊢
      obtain ⟨x2, hx2, r2⟩ := k2 (by omega)
      obtain ⟨x3, hx3, r3⟩ := k3 (by omega)
      subst hx2 hx3
      exact ⟨⟨x2, P, pc, rfl, r2⟩, ⟨x3, Q, qc, rfl, r3⟩⟩)
  have hz0 : ∀ (i : Nat) (z : Int), (xs.map (fun x : EdH => x.z))[i]? = some z → 0 ≤ z := fun i z hz => by
    rw [List.getElem?_map, Option.map_eq_some_iff] at hz
    obtain ⟨x, hxi, rfl⟩ := hz
    obtain ⟨_, _, _, _, _, _, _, h0, _⟩ := hq i x hxi
    exact h0
  have hs := zsum_nn hz0
  refine ⟨(n : Int) + (xs.map (fun x : EdH => x.z)).sum, by omega, szEdgeS_q A n c _ W hn (by rw [List.length_map, hx]) hz0 (fun i z hz => ?_), fun hz => ?_⟩
  · rw [List.getElem?_map, Option.map_eq_some_iff] at hz
    obtain ⟨x, hxi, rfl⟩ := hz
    obtain ⟨g, off, hA, c0, c1, c2, c3, h0, _, hQ, _⟩ := hq i x hxi
    exact ⟨g, off, _, _, _, _, _, _, _, _, hA, c0, c1, c2, c3, hQ⟩
  · have hle : ∀ (i : Nat) (x : EdH), xs[i]? = some x → x.z ≤ 1048576 := fun i x hxi => by
      have h1 := zsum_take_succ (zs := xs.map (fun x : EdH => x.z)) (k := i) (z := x.z) (by rw [List.getElem?_map, hxi]; rfl)
      have h2 := zsum_take_le hz0 (i + 1)
      have h3 := zsum_nn (zs := (xs.map (fun x : EdH => x.z)).take i) (fun j z hz => hz0 j z (by rw [List.getElem?_take] at hz; split at hz <;> simp_all))
      omega
    obtain ⟨es, hel, he⟩ := choose_list (α := Ed) n (Q := fun i e => ∃ x, xs[i]? = some x ∧ e.kd = x.a ∧ e.vl = x.b ∧ RI W (.slice x.P x.m x.pc) e.ins ∧ RI W (.slice x.Q x.l x.qc) e.outs) (fun i hi => by
      obtain ⟨x, hxi⟩ : ∃ x, xs[i]? = some x := ⟨_, List.getElem?_eq_getElem (by omega)⟩
      obtain ⟨g, off, hA, c0, c1, c2, c3, h0, _, hQ, hk⟩ := hq i x hxi
      obtain ⟨⟨u, hu⟩, ⟨u', hu'⟩⟩ := hk (hle i x hxi)
      exact ⟨⟨x.a, x.b, u, u'⟩, x, hxi, rfl, rfl, hu, hu'⟩)
    have htot : ∀ k, k ≤ n → totS EE (es.take k) = 2 * (k : Int) + ((xs.map (fun x : EdH => x.z)).take k).sum := fun k => by
      induction k with
      | zero => intro _; simp [totS]
      | succ k ih =>
        intro hk
        obtain ⟨e, hei⟩ : ∃ e, es[k]? = some e := ⟨_, List.getElem?_eq_getElem (by omega)⟩
        obtain ⟨x, hxi, _, _, ⟨P, pc, e1, _⟩, ⟨Q, qc, e2, _⟩⟩ := he k e hei
        obtain ⟨g, off, hA, c0, c1, c2, c3, h0, hsum, _⟩ := hq k x hxi
        rw [totS_take_succ EE hei, zsum_take_succ (z := x.z) (by rw [List.getElem?_map, hxi]; rfl), ih (by omega)]
        injection e1 with _ e1 _
        injection e2 with _ e2 _
        show _ + (2 + ((e.ins.length : Int) + (e.outs.length : Int))) = _
        push_cast
        omega
    refine ⟨es, ⟨A, c, by rw [hel], by omega, fun j e hj => ?_⟩, ?_⟩
    · obtain ⟨x, hxi, h1, h2, h3, h4⟩ := he j e hj
      obtain ⟨g, off, hA, c0, c1, c2, c3, _⟩ := hq j x hxi
      refine ⟨g, off, edC e (.slice x.P x.m x.pc) (.slice x.Q x.l x.qc), hA, fun i u hi => ?_, ⟨_, _, rfl, h3, h4⟩⟩
      rcases i with _ | _ | _ | _ | i
      · injection hi with hi; subst hi; rw [h1]; exact c0
      · injection hi with hi; subst hi; rw [h2]; exact c1
      · injection hi with hi; subst hi; exact c2
      · injection hi with hi; subst hi; exact c3
      · simp [edC] at hi
    · have := htot n (Nat.le_refl _)
      rw [List.take_of_length_le (by omega), List.take_of_length_le (by rw [List.length_map]; omega)] at this
      omega
end Go.Proofs.Ytgblnkadmieflaa
