/- Lists of gates that grow by append. -/
import Derived.Test.YtgblnkadmieflaaDoorCirU
import Derived.Lib.SliceRun
namespace Go.Proofs.YtgblnkadmieflaaDoor
set_option maxRecDepth 100000
open Go Go.RowKit
def gflat (gs : List Gt) : List Value := (gs.map gtC).flatten
theorem gflat_len (gs : List Gt) : (gflat gs).length = gs.length * 4 := by
  unfold gflat
  rw [flatten_len (k := 4) (fun u hu => by obtain ⟨y, _, rfl⟩ := List.mem_map.1 hu; rfl), List.length_map]
theorem gflat_at {gs : List Gt} {j : Nat} {x : Gt} (h : gs[j]? = some x) {i : Nat} {u : Value} (hu : (gtC x)[i]? = some u) : (gflat gs)[j * 4 + i]? = some u :=
  flatten_at (k := 4) (fun u hu => by obtain ⟨y, _, rfl⟩ := List.mem_map.1 hu; rfl) (by rw [List.getElem?_map, h]; rfl) hu
theorem gflat_append (xs ys : List Gt) : gflat (xs ++ ys) = gflat xs ++ gflat ys := by simp [gflat]
theorem gflat_one {gs : List Gt} {u : Value} (h : u ∈ gflat gs) : u.oneCell' = true := by
  obtain ⟨l, hl, hu⟩ := List.mem_flatten.1 h
  obtain ⟨x, _, rfl⟩ := List.mem_map.1 hl
  simp only [gtC, List.mem_cons, List.not_mem_nil, or_false] at hu
  rcases hu with rfl | rfl | rfl | rfl <;> rfl
def ALG (w : World) (B : Nat) (v : Value) (gs : List Gt) : Prop := w.ownsRow B 103 4 v gs.length (gflat gs)
theorem ALG.nil (w : World) (B : Nat) : ALG w B (.slice none 0 0) [] := World.ownsRow_nil w B 103 4
theorem ALG.empty (w : World) {B : Nat} (hB : B ≤ w.heap.size) : ALG (w.alloc (.cells #[] 103)) B (.slice (some ⟨w.heap.size, 0, none⟩) 0 0) [] :=
  ⟨rfl, .inr ⟨w.heap.size, 0, #[], rfl, hB, heap_alloc_new w _, Nat.le_refl _, Nat.zero_le _, rfl, rfl⟩⟩
theorem ALG.lt {w : World} {B : Nat} {v : Value} {xs : List Gt} (h : ALG w B v xs) : ∀ k, v.ownBlock = some k → B ≤ k ∧ k < w.heap.size := World.ownsRow.lt h
theorem ALG.iv {w w' : World} {B a b : Nat} {v : Value} {xs : List Gt} (h : ALG w B v xs) (k : ExI a b w w') (hd : b ≤ B) : ALG w' B v xs := by
  obtain ⟨h1, h2⟩ := h
  refine ⟨h1, ?_⟩
  rcases h2 with h2 | ⟨g, cap, cur, hv, hB, hh, r⟩
  · exact .inl h2
  · exact .inr ⟨g, cap, cur, hv, hB, (k.block g (heap_lt_of hh) (by omega)).trans hh, r⟩
theorem ALG.ex {w w' : World} {B : Nat} {v : Value} {xs : List Gt} (h : ALG w B v xs) (he : Ex w w') : ALG w' B v xs := h.iv (ExI.of_ex (a := 0) (b := 0) he) (Nat.zero_le _)
theorem ALG.k1 {w w' : World} {B g : Nat} {v : Value} {xs : List Gt} (h : ALG w B v xs) (he : Ex1 g w w') (hne : v.ownBlock ≠ some g) : ALG w' B v xs := by
  obtain ⟨h1, h2⟩ := h
  refine ⟨h1, ?_⟩
  rcases h2 with h2 | ⟨b, cap, cur, hv, hB, hh, r⟩
  · exact .inl h2
  · exact .inr ⟨b, cap, cur, hv, hB, (he.block b (heap_lt_of hh) (by intro e; injection e with e; exact hne (by rw [hv, ← e]; rfl))).trans hh, r⟩
theorem ALG.og {w : World} {B : Nat} {v : Value} {gs : List Gt} (h : ALG w B v gs) (hl : gs.length ≤ 1048576) : OG w B w.heap.size v gs := by
  have ht : totS EG gs ≤ 1125899906842624 := by
    have : ∀ xs : List Gt, totS EG xs = 4 * (xs.length : Int) := fun xs => by
      induction xs with
      | nil => rfl
      | cons y ys ih => rw [totS_cons, ih, List.length_cons]; show 4 + _ = _; push_cast; omega
    rw [this]; omega
  obtain ⟨_, h2⟩ := h
  rcases h2 with ⟨hv, hn⟩ | ⟨g, cap, cur, hv, hB, hh, hnc, _, _, htk⟩
  · have : gs = [] := List.eq_nil_of_length_eq_zero hn
    subst this
    exact ⟨⟨none, 0, hv, OwS.nil _ _ _ _ _ _⟩, ht⟩
  · refine ⟨⟨_, cap, hv, by omega, fun _ => w.heap.size, fun _ => B, fun j x hj => ⟨g, 0, gtC x, cur, rfl, hB, heap_lt_of hh, hh, fun i u hu => ?_, rfl, by have := heap_lt_of hh; show B ≤ w.heap.size; omega, by have := heap_lt_of hh; show B ≤ w.heap.size; omega, .inl (heap_lt_of hh)⟩, fun i j _ _ _ => .inl (by have := heap_lt_of hh; show B ≤ w.heap.size; omega)⟩, ht⟩
    have e := gflat_at hj hu
    rw [← htk, List.getElem?_take] at e
    split at e
    · rw [Nat.zero_add]
      show cur[j * 4 + i]? = some u
      simpa using e
    · cases e
theorem ALG.ogk {w : World} {B : Nat} {v : Value} {gs : List Gt} (h : ALG w B v gs) (hl : gs.length ≤ 1048576) (hB : B ≤ w.heap.size) : ∃ lo hi, OG w lo hi v gs ∧ B ≤ lo ∧ hi ≤ w.heap.size ∧ ∀ g, v.ownBlock ≠ some g → B ≤ g → (g < lo ∨ hi ≤ g) := by
  have hog := (h.og hl).2
  obtain ⟨_, h2⟩ := h
  rcases h2 with ⟨hv, hn⟩ | ⟨g, cap, cur, hv, hBg, hh, hnc, _, _, htk⟩
  · have : gs = [] := List.eq_nil_of_length_eq_zero hn
    subst this
    exact ⟨B, B, ⟨⟨none, 0, hv, OwS.nil _ _ _ _ _ _⟩, hog⟩, Nat.le_refl _, hB, fun _ _ h => .inr h⟩
  · refine ⟨g, g + 1, ⟨⟨_, cap, hv, by omega, fun _ => g + 1, fun _ => g, fun j x hj => ⟨g, 0, gtC x, cur, rfl, Nat.le_refl _, Nat.lt_succ_self _, hh, fun i u hu => ?_, rfl, Nat.le_succ _, Nat.le_succ _, .inl (Nat.lt_succ_self _)⟩, fun i j _ _ _ => .inl (Nat.le_succ _)⟩, hog⟩, hBg, heap_lt_of hh, fun k hne _ => ?_⟩
    · have e := gflat_at hj hu
      rw [← htk, List.getElem?_take] at e
      split at e
      · rw [Nat.zero_add]
        show cur[j * 4 + i]? = some u
        simpa using e
      · cases e
    · have : k ≠ g := fun e => hne (by rw [hv, e]; rfl)
      omega
theorem run_append_gates (ty : TypeId) (w : World) (B : Nat) (v : Value) (ys : List Gt) (hv : ALG w B v ys) (hB : B ≤ w.heap.size) (A : Option Addr) (c : Nat) (xs : List Gt) (h : RdS EG w A xs) (hl : ys.length + xs.length ≤ 1048576) :
    ∃ v' w', (Builtin.append_ #[27, 27] ty #[v, .slice A xs.length c]).run Tryd.prog w = .ok v' w' ∧ ALG w' B v' (ys ++ xs) ∧ ExI B w.heap.size w w' ∧ (v'.ownBlock = v.ownBlock ∨ v'.ownBlock = some w.heap.size) ∧ ExO v.ownBlock w w' := by
  obtain ⟨i, hi, hz, hs, hb⟩ := info_parts gateInfo
  rcases A with _ | ad
  · have hx : xs = [] := by
      cases xs with
      | nil => rfl
      | cons x xs => obtain ⟨g, off, vs, hA, _⟩ := h.2 0 x rfl; cases hA
    subst hx
    refine ⟨v, w, ?_, by simpa using hv, ExI.refl _ _ _, .inl rfl, ExO.refl _ _⟩
    rcases hv.2 with ⟨rfl, _⟩ | ⟨g, cap, cur, rfl, _, _, hnc, _⟩
    · simp [Builtin.append_, run_underlying Tryd.underlying27, sizeOf, typeInfo, hi, Builtin.lenOf, Builtin.firstCells]
    · simp [Builtin.append_, run_underlying Tryd.underlying27, sizeOf, typeInfo, hi, Builtin.lenOf, Builtin.firstCells, hnc, storeCells]
  · have hc : ∀ (j : Nat) (u : Value), (gflat xs)[j]? = some u → w.cell? (ad.add j) = some u := by
      intro j u hu
      have hjl := (List.getElem?_eq_some_iff.1 hu).1
      rw [gflat_len] at hjl
      have hq : j / 4 < xs.length := by omega
      obtain ⟨g, off, vs, hA, hcell, hvs⟩ := h.2 (j / 4) _ (List.getElem?_eq_getElem hq)
      have hvs : vs = gtC xs[j / 4] := hvs
      subst hvs
      injection hA with hA
      subst hA
      have hr : (gtC xs[j / 4])[j % 4]? = some u := by
        have hr4 : j % 4 < 4 := by omega
        have e : (gflat xs)[j / 4 * 4 + j % 4]? = (gtC xs[j / 4])[j % 4]? := by
          rw [gflat_at (List.getElem?_eq_getElem hq) (List.getElem?_eq_getElem (by show _ < 4; exact hr4))]
          rw [List.getElem?_eq_getElem (by show _ < 4; exact hr4)]
        rw [← e, show j / 4 * 4 + j % 4 = j by omega]
        exact hu
      have e : (⟨g, off, none⟩ : Addr).add j = ⟨g, off + j, none⟩ := by unfold Addr.add; split <;> simp_all
      rw [e]
      have := hcell (j % 4) u hr
      rwa [show off + j / 4 * EG.k + j % 4 = off + j by show off + j / 4 * 4 + j % 4 = _; omega] at this
    obtain ⟨v', w', hrun, h2, h3, _, h5⟩ := run_append_own_at (P := Tryd.prog) w B 27 ty 103 i _ 4 32 Tryd.underlying27 hi hz hs hb rfl (by omega) v ys.length _ hv ad xs.length c (gflat xs) (gflat_len xs) hc (fun u hu => gflat_one hu) (by unfold maxLen; omega) (by omega) hB
    refine ⟨v', w', hrun, ?_, ⟨h3.os, h3.tape, h3.output, h3.size, fun k hk hd => h3.block k hk (fun e => by have := (hv.lt k e.symm).1; omega)⟩, h5, h3⟩
    unfold ALG
    rw [List.length_append, gflat_append]
    exact h2
theorem gblk (w : World) (x : Gt) : RdS EG (w.alloc (.cells #[.int .i64 x.kd, .int .i64 x.a, .int .i64 x.b, .int .i64 x.vl] 103)) (some ⟨w.heap.size, 0, none⟩) [x] := by
  have v := VB.new w 103 #[.int .i64 x.kd, .int .i64 x.a, .int .i64 x.b, .int .i64 x.vl]
  refine ⟨by simp, fun j y hj => ?_⟩
  cases j with
  | zero =>
    simp at hj
    subst hj
    refine ⟨_, 0, gtC x, rfl, fun i u hu => ?_, rfl⟩
    have := v.cell i (v := u) (by simpa [gtC] using hu)
    simpa using this
  | succ j => simp at hj
/-- One gate appended. -/
theorem galp (ty : TypeId) (w : World) (B : Nat) (v : Value) (ys : List Gt) (x : Gt) (hv : ALG w B v ys) (hB : B ≤ w.heap.size) (hl : ys.length + 1 ≤ 1048576) :
    ∃ v' w', (Builtin.append_ #[27, 27] ty #[v, .slice (some ⟨w.heap.size, 0, none⟩) 1 1]).run Tryd.prog (w.alloc (.cells #[.int .i64 x.kd, .int .i64 x.a, .int .i64 x.b, .int .i64 x.vl] 103)) = .ok v' w' ∧ ALG w' B v' (ys ++ [x]) ∧ ExI B w.heap.size w w' ∧ (v'.ownBlock = v.ownBlock ∨ ∃ k, v'.ownBlock = some k ∧ w.heap.size ≤ k) ∧ ExO v.ownBlock w w' := by
  have ha := (Ex.refl w).alloc (.cells #[.int .i64 x.kd, .int .i64 x.a, .int .i64 x.b, .int .i64 x.vl] 103)
  obtain ⟨v', w', h1, h2, h3, h4, h5⟩ := run_append_gates ty _ B v ys (hv.ex ha) (Nat.le_trans hB ha.size) (some ⟨w.heap.size, 0, none⟩) 1 [x] (gblk w x) (by simpa using hl)
  refine ⟨v', w', h1, h2, ⟨h3.os.trans ha.os, h3.tape.trans ha.tape, h3.output.trans ha.output, Nat.le_trans ha.size h3.size, fun k hk hd => ?_⟩, h4.imp id (fun e => ⟨_, e, ha.size⟩), (ExO.of_ex ha).trans h5⟩
  rcases hd with hd | hd
  · rw [h3.block k (Nat.lt_of_lt_of_le hk ha.size) (.inl hd)]
    exact ha.block hk
  · omega
/-- An append of all of a list to a fresh empty one. -/
theorem app0 (W : World) (g B : Nat) (hv : ALG W B (.slice (some ⟨g, 0, none⟩) 0 0) []) (hB : B ≤ W.heap.size) (A : Option Addr) (c : Nat) (xs : List Gt) (h : RdS EG W A xs) (hl : xs.length ≤ 1048576) :
    ∃ Y N C w4, (Builtin.append_ #[27, 27] 27 #[.slice (some ⟨g, 0, none⟩) 0 0, .slice A xs.length c]).run Tryd.prog W = .ok (.slice Y N C) w4 ∧ ALG w4 B (.slice Y N C) xs ∧ W.heap.size ≤ w4.heap.size ∧
      (∀ W0 : World, Ex W0 W → W0.heap.size ≤ g → Ex W0 w4) ∧ (∀ k t cs, VB W k t cs → k ≠ g → VB w4 k t cs) ∧ (∀ k, (Value.slice Y N C).ownBlock = some k → k = g ∨ k = W.heap.size) := by
  obtain ⟨v', w4, hrun, hg4, hI, ho, hE⟩ := run_append_gates 27 W B _ [] hv hB A c xs h (by simpa using hl)
  rw [List.nil_append] at hg4
  obtain ⟨Y, N, C, rfl⟩ := (hg4.og hl).rd.form
  refine ⟨Y, N, C, w4, hrun, hg4, hI.size, fun W0 h0 hg => h0.exo hE (fun k e => by simp [Value.ownBlock] at e; omega), fun k t cs hk hne => ?_, fun k hk => ?_⟩
  · exact (hE.block k hk.lt (by simpa [Value.ownBlock] using hne)).trans hk
  · rcases ho with h | h
    · rw [h] at hk; simp [Value.ownBlock] at hk; exact .inl hk.symm
    · rw [h] at hk; injection hk with hk; exact .inr hk.symm
def toL (outs : List Int) : Int → List Gt → List Int
  | _, [] => []
  | n, g :: gs => if g.kd = 1 then outs.getD g.vl.toNat 0 :: toL outs n gs else n :: toL outs (n + 1) gs
theorem toL_len (outs : List Int) : ∀ (n : Int) (gs : List Gt), (toL outs n gs).length = gs.length
  | _, [] => rfl
  | n, g :: gs => by rw [toL]; split <;> simp [toL_len]
def nonIn (gs : List Gt) : Nat := gs.countP (fun g => decide (g.kd ≠ 1))
theorem nonIn_cons (x : Gt) (gs : List Gt) : nonIn (x :: gs) = nonIn gs + (if x.kd = 1 then 0 else 1) := by
  by_cases h : x.kd = 1 <;> simp [nonIn, h]
theorem toL_snoc (outs : List Int) : ∀ (n : Int) (gs : List Gt) (g : Gt), toL outs n (gs ++ [g]) = toL outs n gs ++ [if g.kd = 1 then outs.getD g.vl.toNat 0 else n + nonIn gs]
  | n, [], g => by by_cases h : g.kd = 1 <;> simp [toL, h, nonIn]
  | n, x :: gs, g => by
    by_cases h : x.kd = 1
    · rw [List.cons_append, toL, if_pos h, toL, if_pos h, toL_snoc, nonIn_cons, if_pos h]
      rfl
    · rw [List.cons_append, toL, if_neg h, toL, if_neg h, toL_snoc, nonIn_cons, if_neg h, List.cons_append]
      congr 2
      by_cases hg : g.kd = 1
      · simp [hg]
      · simp only [hg, if_false]
        congr 1
        push_cast
        omega
def movG (to : List Int) (g : Gt) : Gt :=
  if g.kd = 3 then ⟨g.kd, to.getD g.a.toNat 0, to.getD g.b.toNat 0, g.vl⟩ else if g.kd = 4 ∨ g.kd = 5 then ⟨g.kd, to.getD g.a.toNat 0, g.b, g.vl⟩ else g
def seqT (a b : Circ) : List Int := toL a.outs a.gs.length b.gs
def seqG (a b : Circ) : List Gt := a.gs ++ (b.gs.filter (fun g => decide (g.kd ≠ 1))).map (movG (seqT a b))
def seqC (a b : Circ) : Circ := ⟨a.n, seqG a b, b.outs.map (fun k => (seqT a b).getD k.toNat 0)⟩
def seqU (p : Int) (a b : Circ) : Circ × Bool := if circB p a = true ∧ circB p b = true ∧ (a.outs.length : Int) = b.n ∧ circB p (seqC a b) = true then (seqC a b, true) else (⟨0, [], []⟩, false)
set_option maxHeartbeats 1000000 in
theorem crMoved_c (x : Gt) (T : Option Addr) (c : Nat) (to : List Int) (w : World) (h : Rd w T to) (hx : ∀ k ∈ opnd x, 0 ≤ k ∧ k < to.length) :
    Calls Tryd.prog 88 #[gtV x, .slice T to.length c] w fun e w' => e = .returned (gtV (movG to x)) ∧ Ex w w' := by
  obtain ⟨kd, a, b, vl⟩ := x
  have hl := h.len
  unfold gtV
  dsimp only
  have x0 := (Ex.refl w).alloc (.cells #[.int .i64 kd, .int .i64 a, .int .i64 b, .int .i64 vl] 103)
  by_cases h3 : kd = 3
  · subst h3
    obtain ⟨h1a, h1b⟩ := hx a (by simp [opnd])
    obtain ⟨h2a, h2b⟩ := hx b (by simp [opnd])
    obtain ⟨an, rfl⟩ := Int.eq_ofNat_of_zero_le h1a
    obtain ⟨bn, rfl⟩ := Int.eq_ofNat_of_zero_le h2a
    obtain ⟨g, off, y, rfl, hy, _, c1⟩ := h.at_ (show an < to.length by omega)
    obtain ⟨g', off', z, e2, hz, _, c2⟩ := h.at_ (show bn < to.length by omega)
    injection e2 with e2
    injection e2 with e3 e4 _
    subst e3 e4
    have k1 : ∀ o1 o2, ((w.alloc o1).alloc o2).cell? ⟨g, off + an, none⟩ = some (.int .i64 y) := fun o1 o2 => cell_ex (((Ex.refl w).alloc o1).alloc o2) c1
    have k2 : ∀ o1 o2, ((w.alloc o1).alloc o2).cell? ⟨g, off + bn, none⟩ = some (.int .i64 z) := fun o1 o2 => cell_ex (((Ex.refl w).alloc o1).alloc o2) c2
    have H := Lib.hid (show movG to ⟨3, an, bn, vl⟩ = ⟨3, y, z, vl⟩ by simp [movG, List.getD_eq_getElem?_getD, hy, hz])
    clear hy hz hx c1 c2
    go_enter Tryd.func88, Tryd.ntmps88
    go_wp2_with fail
    refine bodyPost_ret (v := .agg #[.int .i64 3, .int .i64 y, .int .i64 z, .int .i64 vl]) (by simp [results, Tryd.results88, go_sem]) rfl ?_
    rw [H.out]
    exact ⟨rfl, ((Ex.refl w).alloc _).alloc _⟩
  by_cases h4 : kd = 4
  · subst h4
    obtain ⟨h1a, h1b⟩ := hx a (by simp [opnd])
    obtain ⟨an, rfl⟩ := Int.eq_ofNat_of_zero_le h1a
    obtain ⟨g, off, y, rfl, hy, _, c1⟩ := h.at_ (show an < to.length by omega)
    have k1 : ∀ o1 o2, ((w.alloc o1).alloc o2).cell? ⟨g, off + an, none⟩ = some (.int .i64 y) := fun o1 o2 => cell_ex (((Ex.refl w).alloc o1).alloc o2) c1
    have H := Lib.hid (show movG to ⟨4, an, b, vl⟩ = ⟨4, y, b, vl⟩ by simp [movG, List.getD_eq_getElem?_getD, hy])
    clear hy hx c1
    go_enter Tryd.func88, Tryd.ntmps88
    go_wp2_with fail
    refine bodyPost_ret (v := .agg #[.int .i64 4, .int .i64 y, .int .i64 b, .int .i64 vl]) (by simp [results, Tryd.results88, go_sem]) rfl ?_
    rw [H.out]
    exact ⟨rfl, ((Ex.refl w).alloc _).alloc _⟩
  by_cases h5 : kd = 5
  · subst h5
    obtain ⟨h1a, h1b⟩ := hx a (by simp [opnd])
    obtain ⟨an, rfl⟩ := Int.eq_ofNat_of_zero_le h1a
    obtain ⟨g, off, y, rfl, hy, _, c1⟩ := h.at_ (show an < to.length by omega)
    have k1 : ∀ o1 o2, ((w.alloc o1).alloc o2).cell? ⟨g, off + an, none⟩ = some (.int .i64 y) := fun o1 o2 => cell_ex (((Ex.refl w).alloc o1).alloc o2) c1
    have H := Lib.hid (show movG to ⟨5, an, b, vl⟩ = ⟨5, y, b, vl⟩ by simp [movG, List.getD_eq_getElem?_getD, hy])
    clear hy hx c1
    go_enter Tryd.func88, Tryd.ntmps88
    go_wp2_with fail
    refine bodyPost_ret (v := .agg #[.int .i64 5, .int .i64 y, .int .i64 b, .int .i64 vl]) (by simp [results, Tryd.results88, go_sem]) rfl ?_
    rw [H.out]
    exact ⟨rfl, ((Ex.refl w).alloc _).alloc _⟩
  · have H := Lib.hid (show movG to ⟨kd, a, b, vl⟩ = ⟨kd, a, b, vl⟩ by simp [movG, h3, h4, h5])
    clear hx
    go_enter Tryd.func88, Tryd.ntmps88
    go_wp2_with fail
    refine bodyPost_ret (v := .agg #[.int .i64 kd, .int .i64 a, .int .i64 b, .int .i64 vl]) (by simp [results, Tryd.results88, go_sem]) rfl ?_
    rw [H.out]
    exact ⟨rfl, ((Ex.refl w).alloc _).alloc _⟩
end Go.Proofs.YtgblnkadmieflaaDoor
