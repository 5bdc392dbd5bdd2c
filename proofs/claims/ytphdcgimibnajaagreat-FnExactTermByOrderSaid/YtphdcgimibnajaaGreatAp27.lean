/- Arguments opened, in the uniform words: lists of ints. A slice of structs, opened: at each index its cells. Arguments opened, in the uniform words: lists of edges. Arguments opened, in the uniform words: Graph. Printed by a program of mine. -/
import Derived.Test.YtphdcgimibnajaaGreatAp02
import Derived.Test.YtphdcgimibnajaaGreatAp04
import Derived.Deep.Fields
import Derived.Test.YtphdcgimibnajaaGreatAp06
namespace Go.Proofs.YtphdcgimibnajaaGreat
set_option maxRecDepth 100000
open Go.ChangeShapes Go.WideShapes Go.ChangeAt Go.RowKit Go.Joins Go.Deep
theorem fopen_IntS {H : Type} {enc : TypeId × Value → H} {W : World} {base fuel : Nat} {sp : Nat → Bool} {hd : Bool} {v : Value} {x : DataW H × List MemPlace}
    (h : DataW.trod enc Tryz.prog W base sp hd fuel 23 [v] = some x) : ∃ z : Int, 0 ≤ z ∧ QS 20 W v z ∧ (z ≤ 1048576 → ∃ x : List Int, RI W v x) := by
  obtain ⟨A, n, c, rfl, hn, k⟩ := open_t h
  refine ⟨n, Int.natCast_nonneg _, szIntS_q A n c W hn, fun hz => ?_⟩
  obtain ⟨xs, hx, r⟩ := k (by omega)
  subst hx
  exact ⟨xs, A, c, rfl, r⟩
end Go.Proofs.YtphdcgimibnajaaGreat
namespace Go.Proofs.YtphdcgimibnajaaGreat
set_option maxRecDepth 100000
open Go.ChangeShapes Go.WideShapes Go.ChangeAt Go.RowKit Go.Joins Go.Deep
/-- A slice of structs of k cells each, from its reading: at each index its cells. -/
theorem open_cells {H : Type} {enc : TypeId × Value → H} {P : Program} {W : World} {base fuel : Nat} {sp : Nat → Bool} {hd : Bool} {v : Value} {x : DataW H × List MemPlace} {t e : TypeId} (ht : P.underlying t = some (.slice e)) (hk : 0 < P.cellsOf e)
    (h : DataW.trod enc P W base sp hd fuel t [v] = some x) :
    ∃ (A : Option Addr) (n c : Nat), v = .slice A n c ∧ n ≤ 9223372036854775807 ∧ ∀ i, i < n → ∃ g off cs y m, A = some ⟨g, off, none⟩ ∧ cs.length = P.cellsOf e ∧ (∀ (q : Nat) (u : Value), cs[q]? = some u → W.cell? ⟨g, off + i * P.cellsOf e + q, none⟩ = some u) ∧ DataW.trod enc P W base sp hd m e cs = some y := by
  rcases DataW.trod_slice ht h with ⟨hcs, _⟩ | ⟨a, len, cap, elems, rest, n, _, hcs, _, _, hl, hm, hlen, hel, _, _⟩
  · injection hcs with hcs
    subst hcs
    exact ⟨none, 0, 0, rfl, by simp, fun i hi => by omega⟩
  · injection hcs with hcs
    subst hcs
    refine ⟨some a, len, cap, rfl, by unfold maxLen at hm; omega, fun i hi => ?_⟩
    have each : ∀ i, i < len → ∃ cs' y, cs'.length = P.cellsOf e ∧ (∀ (q : Nat) (u : Value), cs'[q]? = some u → W.cell? (a.add (i * P.cellsOf e + q)) = some u) ∧ DataW.trod enc P W base sp hd n e cs' = some y := fun i hi => by
      have h1 := hel i hi
      rw [List.getElem?_eq_getElem (by omega), Option.bind_eq_some_iff] at h1
      obtain ⟨cs', hc', hy⟩ := h1
      obtain ⟨_, hl1, hcell⟩ := World.cells?_some hc'
      refine ⟨cs', _, hl1, fun q u hq => ?_, hy⟩
      have hql : q < P.cellsOf e := by rw [← hl1]; exact (List.getElem?_eq_some_iff.1 hq).1
      have := hcell q hql
      rw [add_add] at this
      rw [this]; exact hq
    obtain ⟨cs', y, hl1, hcell', hy⟩ := each i hi
    obtain ⟨g, off, spot⟩ := a
    cases spot with
    | some s =>
      exfalso
      obtain ⟨c0, _, hl0, hcell0, _⟩ := each 0 (by omega)
      have hc0 := hcell0 0 _ (List.getElem?_eq_getElem (by omega : 0 < c0.length))
      have e0 : (⟨g, off, some s⟩ : Addr).add (0 * P.cellsOf e + 0) = ⟨g, off, some s⟩ := by simp [Addr.add]
      rw [e0] at hc0
      unfold World.cell? at hc0
      split at hc0 <;> simp at hc0
    | none =>
      refine ⟨g, off, cs', y, n, rfl, hl1, fun q u hq => ?_, hy⟩
      have := hcell' q u hq
      have e1 : ((⟨g, off, none⟩ : Addr).add (i * P.cellsOf e + q)) = ⟨g, off + i * P.cellsOf e + q, none⟩ := by unfold Addr.add; split <;> simp_all [Nat.add_assoc]
      rwa [e1] at this
theorem choose_list {α : Type} : ∀ (n : Nat) {Q : Nat → α → Prop}, (∀ i, i < n → ∃ x, Q i x) → ∃ xs : List α, xs.length = n ∧ ∀ i x, xs[i]? = some x → Q i x
  | 0, _, _ => ⟨[], rfl, fun i n h => by simp at h⟩
  | n + 1, Q, h => by
    obtain ⟨m, hm⟩ := h 0 (by omega)
    obtain ⟨ns, hl, q⟩ := choose_list n (Q := fun i => Q (i + 1)) (fun i hi => h (i + 1) (by omega))
    refine ⟨m :: ns, by simp [hl], fun i n hi => ?_⟩
    cases i with
    | zero => simp at hi; subst hi; exact hm
    | succ i => exact q i n (by simpa using hi)
/-- A struct of fields of one cell each, opened. -/
theorem open_agg_all {H : Type} {enc : TypeId × Value → H} {P : Program} {W : World} {base b0 : Nat} {sp : Nat → Bool} {hd : Bool} {r : Reach} {t : TypeId} {fs : Array Field} {v : Value} {d : DataW H} {p : List MemPlace}
    (hs : P.underlying t = some (.struct fs)) (hone : oneCellFields P fs = true) (hC : P.cellsOf t = fs.size) (hv : Value.okWide P W r b0 t v) (h : DataW.Trod enc P W base sp hd t v d p) :
    ∃ cs : Array Value, v = .agg cs ∧ cs.size = fs.size ∧ ∀ (i : Nat) (f : Field) (u : Value), fs[i]? = some f → cs[i]? = some u → ∃ y n, DataW.trod enc P W base sp hd n f.type [u] = some y := by
  obtain ⟨cs, rfl, hsz⟩ := okWide_struct hs hv
  obtain ⟨fuel, hf⟩ := h
  obtain ⟨xs, n, _, _, hl, hlen, hfld⟩ := DataW.trod_struct hs hf
  refine ⟨cs, rfl, hsz.trans hC, fun i f u hi hu => ?_⟩
  obtain ⟨o, k⟩ := hone_of hone i f hi
  have h1 := hfld i f hi
  rw [o, k] at h1
  have hlt : i < fs.size := (Array.getElem?_eq_some_iff.1 hi).1
  rw [List.getElem?_eq_getElem (by omega)] at h1
  have hc : (List.take 1 (List.drop i (Value.agg cs).cells.toList)) = [u] := by
    have hk : i < cs.toList.length := by simpa using (Array.getElem?_eq_some_iff.1 hu).1
    have hu' : cs.toList[i] = u := by simpa using (Array.getElem?_eq_some_iff.1 hu).2
    show List.take 1 (List.drop i cs.toList) = [u]
    rw [List.drop_eq_getElem_cons hk, hu']
    rfl
  rw [hc] at h1
  exact ⟨_, _, h1⟩
end Go.Proofs.YtphdcgimibnajaaGreat
namespace Go.Proofs.YtphdcgimibnajaaGreat
set_option maxRecDepth 100000
open Go.ChangeShapes Go.WideShapes Go.ChangeAt Go.RowKit Go.Joins Go.Deep
/-- What an edge's cells hold. -/
structure EdH where
  a : Int
  b : Int
  P : Option Addr
  m : Nat
  pc : Nat
  Q : Option Addr
  l : Nat
  qc : Nat
  z : Int
set_option maxHeartbeats 2000000 in
theorem fopen_EdgeS {H : Type} {enc : TypeId × Value → H} {W : World} {base fuel : Nat} {sp : Nat → Bool} {hd : Bool} {v : Value} {x : DataW H × List MemPlace}
    (h : DataW.trod enc Tryz.prog W base sp hd fuel 22 [v] = some x) : ∃ z : Int, 0 ≤ z ∧ QS 19 W v z ∧ (z ≤ 1048576 → ∃ x : List Ed, RE W v x) := by
  have hc4 : Tryz.prog.cellsOf 63 = 4 := by kernel_rfl
  have hi1 : Tryz.prog.cellsOf 3 = 1 := by kernel_rfl
  have hi2 : Tryz.prog.cellsOf 23 = 1 := by kernel_rfl
  obtain ⟨A, n, c, rfl, hn, k⟩ := open_cells Tryz.underlying22 (by rw [hc4]; decide) h
  obtain ⟨xs, hx, hq⟩ := choose_list (α := EdH) n (Q := fun i x => ∃ g off, A = some ⟨g, off, none⟩ ∧ W.cell? ⟨g, off + i * 4, none⟩ = some (.int .i64 x.a) ∧ W.cell? ⟨g, off + i * 4 + 1, none⟩ = some (.int .i64 x.b) ∧
      W.cell? ⟨g, off + i * 4 + 2, none⟩ = some (.slice x.P x.m x.pc) ∧ W.cell? ⟨g, off + i * 4 + 3, none⟩ = some (.slice x.Q x.l x.qc) ∧ 0 ≤ x.z ∧ (x.m : Int) + (x.l : Int) = x.z ∧
      QS 36 W (.agg #[.int .i64 x.a, .int .i64 x.b, .slice x.P x.m x.pc, .slice x.Q x.l x.qc]) x.z ∧
      (x.z ≤ 1048576 → (∃ u : List Int, RI W (.slice x.P x.m x.pc) u) ∧ ∃ u : List Int, RI W (.slice x.Q x.l x.qc) u)) (fun i hi => by
    obtain ⟨g, off, cs, y, m, hA, hl, hcell, hy⟩ := k i hi
    rw [hc4] at hl hcell
    obtain ⟨xs, n', _, _, hl', hlen, hfld⟩ := DataW.trod_struct Tryz.underlying63 hy
    match cs, hl with
    | [u0, u1, u2, u3], _ =>
      have f0 := hfld 0 _ rfl
      have f1 := hfld 1 _ rfl
      have f2 := hfld 2 _ rfl
      have f3 := hfld 3 _ rfl
      rw [List.getElem?_eq_getElem (by rw [hlen]; decide)] at f0 f1 f2 f3
      obtain ⟨a0, e0, _, _⟩ := DataW.trod_int (k := .i64) Tryz.underlying3 f0
      obtain ⟨a1, e1, _, _⟩ := DataW.trod_int (k := .i64) Tryz.underlying3 f1
      have h0 : u0 = .int .i64 a0 := by simpa [cellsInt] using e0
      have h1 : u1 = .int .i64 a1 := by simpa [cellsInt] using e1
      have g2 : DataW.trod enc Tryz.prog W base sp hd n' 23 [u2] = some _ := f2
      have g3 : DataW.trod enc Tryz.prog W base sp hd n' 23 [u3] = some _ := f3
      obtain ⟨P, m2, pc, rfl, hm2, k2⟩ := open_t g2
      obtain ⟨Q, m3, qc, rfl, hm3, k3⟩ := open_t g3
      subst h0 h1
      refine ⟨⟨a0, a1, P, m2, pc, Q, m3, qc, (m2 : Int) + (m3 : Int)⟩, g, off, hA, hcell 0 _ rfl, hcell 1 _ rfl, hcell 2 _ rfl, hcell 3 _ rfl, by dsimp only; omega, rfl, szEdge_q _ _ _ _ _ _ W (szIntS_q P m2 pc W hm2) (by omega) (szIntS_q Q m3 qc W hm3) (by omega), fun hz => ?_⟩
      dsimp only at hz ⊢
      obtain ⟨x2, hx2, r2⟩ := k2 (by omega)
      obtain ⟨x3, hx3, r3⟩ := k3 (by omega)
      subst hx2 hx3
      exact ⟨⟨x2, P, pc, rfl, r2⟩, ⟨x3, Q, qc, rfl, r3⟩⟩)
  have hz0 : ∀ (i : Nat) (z : Int), (xs.map (fun x : EdH => x.z))[i]? = some z → 0 ≤ z := fun i z hz => by
    rw [List.getElem?_map, Option.map_eq_some_iff] at hz
    obtain ⟨x, hxi, rfl⟩ := hz
    obtain ⟨_, _, _, _, _, _, _, h0, _⟩ := hq i x hxi
    exact h0
  have hs := zsum_nn hz0
  refine ⟨(n : Int) + (xs.map (fun x : EdH => x.z)).sum, by omega, szEdgeS_q A n c _ W hn (by rw [List.length_map, hx]) hz0 (fun i z hz => ?_), fun hz => ?_⟩
  · rw [List.getElem?_map, Option.map_eq_some_iff] at hz
    obtain ⟨x, hxi, rfl⟩ := hz
    obtain ⟨g, off, hA, c0, c1, c2, c3, h0, _, hQ, _⟩ := hq i x hxi
    exact ⟨g, off, _, _, _, _, _, _, _, _, hA, c0, c1, c2, c3, hQ⟩
  · have hle : ∀ (i : Nat) (x : EdH), xs[i]? = some x → x.z ≤ 1048576 := fun i x hxi => by
      have h1 := zsum_take_succ (zs := xs.map (fun x : EdH => x.z)) (k := i) (z := x.z) (by rw [List.getElem?_map, hxi]; rfl)
      have h2 := zsum_take_le hz0 (i + 1)
      have h3 := zsum_nn (zs := (xs.map (fun x : EdH => x.z)).take i) (fun j z hz => hz0 j z (by rw [List.getElem?_take] at hz; split at hz <;> simp_all))
      omega
    obtain ⟨es, hel, he⟩ := choose_list (α := Ed) n (Q := fun i e => ∃ x, xs[i]? = some x ∧ e.kd = x.a ∧ e.vl = x.b ∧ RI W (.slice x.P x.m x.pc) e.ins ∧ RI W (.slice x.Q x.l x.qc) e.outs) (fun i hi => by
      obtain ⟨x, hxi⟩ : ∃ x, xs[i]? = some x := ⟨_, List.getElem?_eq_getElem (by omega)⟩
      obtain ⟨g, off, hA, c0, c1, c2, c3, h0, _, hQ, hk⟩ := hq i x hxi
      obtain ⟨⟨u, hu⟩, ⟨u', hu'⟩⟩ := hk (hle i x hxi)
      exact ⟨⟨x.a, x.b, u, u'⟩, x, hxi, rfl, rfl, hu, hu'⟩)
    have htot : ∀ k, k ≤ n → totS EE (es.take k) = 2 * (k : Int) + ((xs.map (fun x : EdH => x.z)).take k).sum := fun k => by
      induction k with
      | zero => intro _; simp [totS]
      | succ k ih =>
        intro hk
        obtain ⟨e, hei⟩ : ∃ e, es[k]? = some e := ⟨_, List.getElem?_eq_getElem (by omega)⟩
        obtain ⟨x, hxi, _, _, ⟨P, pc, e1, _⟩, ⟨Q, qc, e2, _⟩⟩ := he k e hei
        obtain ⟨g, off, hA, c0, c1, c2, c3, h0, hsum, _⟩ := hq k x hxi
        rw [totS_take_succ EE hei, zsum_take_succ (z := x.z) (by rw [List.getElem?_map, hxi]; rfl), ih (by omega)]
        injection e1 with _ e1 _
        injection e2 with _ e2 _
        show _ + (2 + ((e.ins.length : Int) + (e.outs.length : Int))) = _
        push_cast
        omega
    refine ⟨es, ⟨A, c, by rw [hel], by omega, fun j e hj => ?_⟩, ?_⟩
    · obtain ⟨x, hxi, h1, h2, h3, h4⟩ := he j e hj
      obtain ⟨g, off, hA, c0, c1, c2, c3, _⟩ := hq j x hxi
      refine ⟨g, off, edC e (.slice x.P x.m x.pc) (.slice x.Q x.l x.qc), hA, fun i u hi => ?_, ⟨_, _, rfl, h3, h4⟩⟩
      rcases i with _ | _ | _ | _ | i
      · injection hi with hi; subst hi; rw [h1]; exact c0
      · injection hi with hi; subst hi; rw [h2]; exact c1
      · injection hi with hi; subst hi; exact c2
      · injection hi with hi; subst hi; exact c3
      · simp [edC] at hi
    · have := htot n (Nat.le_refl _)
      rw [List.take_of_length_le (by omega), List.take_of_length_le (by rw [List.length_map]; omega)] at this
      omega
end Go.Proofs.YtphdcgimibnajaaGreat
namespace Go.Proofs.YtphdcgimibnajaaGreat
set_option maxRecDepth 100000
open Go.ChangeShapes Go.WideShapes Go.ChangeAt Go.RowKit Go.Joins Go.Deep
theorem array_Graph {α : Type} {cs : Array α} (h : cs.size = 4) : ∃ c0 c1 c2 c3, cs = #[c0, c1, c2, c3] := by
  obtain ⟨l⟩ := cs
  match l, h with
  | [c0, c1, c2, c3], _ => exact ⟨c0, c1, c2, c3, rfl⟩
theorem open_Graph {H : Type} {enc : TypeId × Value → H} {W : World} {base b0 : Nat} {sp : Nat → Bool} {hd : Bool} {r : Reach} {v : Value} {d : DataW H} {p : List MemPlace} (hv : Value.okWide Tryz.prog W r b0 25 v)
    (h : DataW.Trod enc Tryz.prog W base sp hd 25 v d p) : ∃ (c0 c1 c2 c3 : Value) (z : Int), v = .agg #[c0, c1, c2, c3] ∧ 0 ≤ z ∧ QS 5 W (.agg #[c0, c1, c2, c3]) z ∧ (z ≤ 1048576 → ∃ (x : Gr) (v0 v1 v2 : Value), c0 = .int .i64 x.wires ∧ c1 = v0 ∧ c2 = v1 ∧ c3 = v2 ∧ RGr W v0 v1 v2 x) := by
  obtain ⟨cs, rfl, hsz, hf⟩ := open_agg_all Tryz.underlying25 (by kernel_rfl) (by kernel_rfl) hv h
  obtain ⟨c0, c1, c2, c3, rfl⟩ := array_Graph (hsz.trans (by rfl))
  obtain ⟨_, _, h0⟩ := hf 0 _ _ rfl rfl
  obtain ⟨_, _, h1⟩ := hf 1 _ _ rfl rfl
  obtain ⟨_, _, h2⟩ := hf 2 _ _ rfl rfl
  obtain ⟨_, _, h3⟩ := hf 3 _ _ rfl rfl
  obtain ⟨e0, j0, _, _⟩ := DataW.trod_int Tryz.underlying3 h0
  injection j0 with j0
  subst j0
  obtain ⟨z0, n0, q0, k0⟩ := fopen_EdgeS h1
  obtain ⟨z1, n1, q1, k1⟩ := fopen_IntS h2
  obtain ⟨z2, n2, q2, k2⟩ := fopen_IntS h3
  refine ⟨_, _, _, _, z0 + z1 + z2, rfl, by omega, szGraph_q _ _ _ _ z0 z1 z2 W q0 n0 q1 n1 q2 n2, fun hz => ?_⟩
  obtain ⟨x0, r0⟩ := k0 (by omega)
  obtain ⟨x1, r1⟩ := k1 (by omega)
  obtain ⟨x2, r2⟩ := k2 (by omega)
  exact ⟨⟨e0, x0, x1, x2⟩, _, _, _, rfl, rfl, rfl, rfl, r0, r1, r2⟩
end Go.Proofs.YtphdcgimibnajaaGreat
