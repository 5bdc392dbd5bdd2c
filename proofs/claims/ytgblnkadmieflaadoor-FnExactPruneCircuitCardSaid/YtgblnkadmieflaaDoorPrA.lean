/- Queues of ints, appended to at the end and cut off at the front; pruned circuits in plain terms. -/
import Derived.Test.YtgblnkadmieflaaDoorCirD
import Derived.ArgAppend
namespace Go.Proofs.YtgblnkadmieflaaDoor
set_option maxRecDepth 100000
open Go Go.RowKit
theorem setCells_blk (g : Nat) (t : TypeId) (fz : Nat × Nat) : ∀ (vs : List Value) (o : Nat) (w : World) (cur : Array Value), w.heap[g]? = some (.cells cur t fz) → o + vs.length ≤ cur.size →
    ∃ cur', (w.setCells g o vs).heap[g]? = some (.cells cur' t fz) ∧ cur'.size = cur.size ∧ (∀ k, k < o → cur'[k]? = cur[k]?) ∧ (∀ j u, vs[j]? = some u → cur'[o + j]? = some u) ∧ Ex1 g w (w.setCells g o vs)
  | [], o, w, cur, h, _ => ⟨cur, h, rfl, fun _ _ => rfl, fun j u hj => by simp at hj, Ex1.refl _ _⟩
  | v :: r, o, w, cur, h, hl => by
    rw [List.length_cons] at hl
    have h1 : (w.setCell ⟨g, o, none⟩ v).heap[g]? = some (.cells (cur.setIfInBounds o v) t fz) := by simp [World.setCell, Array.getElem?_modify, h]
    obtain ⟨cur', e1, e2, e3, e4, e5⟩ := setCells_blk g t fz r (o + 1) _ _ h1 (by rw [Array.size_setIfInBounds]; omega)
    refine ⟨cur', e1, by rw [e2, Array.size_setIfInBounds], fun k hk => ?_, fun j u hj => ?_, ((Ex1.refl g w).setCell rfl v).trans e5⟩
    · rw [e3 k (by omega), Array.getElem?_setIfInBounds, if_neg (by omega)]
    · cases j with
      | zero =>
        rw [Nat.add_zero, e3 o (by omega), Array.getElem?_setIfInBounds, if_pos rfl, if_pos (by omega)]
        simpa using hj
      | succ j => rw [← e4 j u (by simpa using hj)]; congr 1; omega
/-- A queue of ints of the call's own: its front may have been cut off. -/
def AQ (w : World) (B : Nat) (v : Value) (xs : List Int) : Prop :=
  (v = .slice none 0 0 ∧ xs = []) ∨ ∃ g off cap cur, v = .slice (some ⟨g, off, none⟩) xs.length cap ∧ B ≤ g ∧ w.heap[g]? = some (.cells cur 3 (0, 0)) ∧ xs.length ≤ cap ∧ cap ≤ maxLen ∧ off + cap ≤ cur.size ∧ ∀ (j : Nat) (x : Int), xs[j]? = some x → cur[off + j]? = some (.int .i64 x)
theorem AQ.lt {w : World} {B : Nat} {v : Value} {xs : List Int} (h : AQ w B v xs) : ∀ k, v.ownBlock = some k → B ≤ k ∧ k < w.heap.size := fun k e => by
  rcases h with ⟨rfl, _⟩ | ⟨g, off, cap, cur, rfl, hB, hh, _⟩
  · cases e
  · injection e with e
    subst e
    exact ⟨hB, heap_lt_of hh⟩
theorem AQ.exo {w w' : World} {B : Nat} {v : Value} {xs : List Int} {o : Option Nat} (h : AQ w B v xs) (he : ExO o w w') (ho : ∀ k, o = some k → v.ownBlock ≠ some k) : AQ w' B v xs := by
  rcases h with h | ⟨g, off, cap, cur, rfl, hB, hh, r⟩
  · exact .inl h
  · exact .inr ⟨g, off, cap, cur, rfl, hB, (he.block _ (heap_lt_of hh) (fun e => ho g e.symm rfl)).trans hh, r⟩
theorem AQ.ex {w w' : World} {B : Nat} {v : Value} {xs : List Int} (h : AQ w B v xs) (he : Ex w w') : AQ w' B v xs := h.exo (ExO.of_ex (o := none) he) (fun k e => by cases e)
theorem AQ.e1 {w w' : World} {B g : Nat} {v : Value} {xs : List Int} (h : AQ w B v xs) (he : Ex1 g w w') (ho : v.ownBlock ≠ some g) : AQ w' B v xs := h.exo he (fun k e => by injection e with e; subst e; exact ho)
theorem AL.aq {w : World} {B : Nat} {v : Value} {xs : List Int} (h : AL w B v xs) : AQ w B v xs := by
  obtain ⟨_, h2⟩ := h
  rcases h2 with ⟨rfl, hn⟩ | ⟨g, cap, cur, hv, hB, hh, hnc, hcm, hsz, ht⟩
  · exact .inl ⟨rfl, List.eq_nil_of_length_eq_zero hn⟩
  · refine .inr ⟨g, 0, cap, cur, hv, hB, hh, hnc, hcm, by omega, fun j x hj => ?_⟩
    have : (cur.toList.take (xs.length * 1))[j]? = some (.int .i64 x) := by rw [ht]; simp [hj]
    rw [List.getElem?_take] at this
    split at this
    · simpa using this
    · cases this
theorem AQ.form {w : World} {B : Nat} {v : Value} {xs : List Int} (h : AQ w B v xs) (hl : xs.length ≤ 1099511627776) : ∃ A c, v = .slice A xs.length c ∧ Fr w B A c xs := by
  rcases h with ⟨rfl, rfl⟩ | ⟨g, off, cap, cur, rfl, hB, hh, hc, _, hs, hx⟩
  · exact ⟨none, 0, rfl, Fr.nil _ _ _⟩
  · refine ⟨_, _, rfl, ⟨hl, fun j hj => ⟨g, off, rfl, ?_⟩⟩, hc, fun a e => ?_⟩
    · have := hx j _ (List.getElem?_eq_getElem hj)
      rw [List.getElem?_eq_getElem hj]
      simp [World.cell?, hh, this]
    · injection e with e
      subst e
      exact ⟨hB, cur, hh⟩
/-- The front cut off. -/
theorem AQ.tail {w : World} {B : Nat} {v : Value} {x : Int} {t : List Int} (h : AQ w B v (x :: t)) : ∃ g off cap, v = .slice (some ⟨g, off, none⟩) (t.length + 1) cap ∧ t.length + 1 ≤ cap ∧ cap ≤ maxLen ∧ w.cell? ⟨g, off, none⟩ = some (.int .i64 x) ∧ AQ w B (.slice (some ⟨g, if cap = 1 then off else off + 1, none⟩) t.length (cap - 1)) t := by
  rcases h with ⟨_, h⟩ | ⟨g, off, cap, cur, rfl, hB, hh, hc, hm, hs, hx⟩
  · cases h
  · rw [List.length_cons] at hc
    refine ⟨g, off, cap, rfl, hc, hm, ?_, .inr ⟨g, if cap = 1 then off else off + 1, cap - 1, cur, rfl, hB, hh, by omega, by omega, by split <;> omega, fun j y hj => ?_⟩⟩
    · have := hx 0 x rfl
      rw [Nat.add_zero] at this
      simp [World.cell?, hh, this]
    · have hjl := (List.getElem?_eq_some_iff.1 hj).1
      rw [if_neg (by omega), ← hx (j + 1) y (by simpa using hj)]
      congr 1; omega
set_option maxRecDepth 100000 in
theorem run_append_q (t ty : TypeId) (ht : Tryd.prog.underlying t = some (.slice 3)) (w : World) (B : Nat) (v : Value) (ys : List Int) (hv : AQ w B v ys) (hB : B ≤ w.heap.size) (A : Option Addr) (c : Nat) (xs : List Int) (h : Rd w A xs)
    (hl : ys.length + xs.length ≤ 1099511627776) :
    ∃ v' w', (Builtin.append_ #[t, t] ty #[v, .slice A xs.length c]).run Tryd.prog w = .ok v' w' ∧ AQ w' B v' (ys ++ xs) ∧ ExO v.ownBlock w w' ∧ (v'.ownBlock = v.ownBlock ∨ ∃ k, v'.ownBlock = some k ∧ w.heap.size ≤ k) := by
  obtain ⟨i, hi, hz, hs, hb⟩ := info_parts intInfo
  rcases hv with ⟨rfl, rfl⟩ | ⟨g, off, cap, cur, rfl, hBg, hh, hcl, hcm, hsz, hx⟩
  · obtain ⟨v', w', h1, h2, h3, h4⟩ := run_append_ints t ty ht w B _ [] (AL.nil w B) hB A c xs h (by simpa using hl)
    exact ⟨v', w', h1, h2.aq, h3, h4.imp id fun e => ⟨_, e, Nat.le_refl _⟩⟩
  rcases A with _ | ad
  · have hx0 : xs = [] := by
      cases xs with
      | nil => rfl
      | cons x xs => obtain ⟨g, off, hA, _⟩ := h.2 0 (by simp); cases hA
    subst hx0
    refine ⟨_, w, ?_, .inr ⟨g, off, cap, cur, by rw [List.append_nil], hBg, hh, by rw [List.append_nil]; exact hcl, hcm, hsz, by rw [List.append_nil]; exact hx⟩, ExO.refl _ _, .inl rfl⟩
    simp [Builtin.append_, run_underlying ht, sizeOf, typeInfo, hi, Builtin.lenOf, Builtin.firstCells, hcl, storeCells]
  · have hc : ∀ (j : Nat) (u : Value), (xs.map (Value.int .i64))[j]? = some u → w.cell? (ad.add j) = some u := by
      intro j u hu
      rw [List.getElem?_map] at hu
      cases hj : xs[j]? with
      | none => rw [hj] at hu; cases hu
      | some x =>
        rw [hj] at hu
        injection hu with hu
        subst hu
        have hlt : j < xs.length := (List.getElem?_eq_some_iff.1 hj).1
        obtain ⟨g', off', hA, hcell⟩ := h.2 j hlt
        injection hA with hA
        subst hA
        have e : (⟨g', off', none⟩ : Addr).add j = ⟨g', off' + j, none⟩ := by unfold Addr.add; split <;> simp_all
        rw [e, hcell, hj]; rfl
    have h1 : ∀ u ∈ xs.map (Value.int .i64), u.oneCell' = true := fun u hu => by
      obtain ⟨x, _, rfl⟩ := List.mem_map.1 hu
      rfl
    by_cases hroom : ys.length + xs.length ≤ cap
    · have hfit : off + ys.length + (xs.map (Value.int .i64)).length ≤ cur.size := by rw [List.length_map]; omega
      have hr := run_append_room_cells (P := Tryd.prog) w t ty 3 i ht hi g off ys.length cap ad xs.length c (xs.map (Value.int .i64)) (by rw [hs]; simp) hc h1 hroom (fun j hj => by
        rw [hs, Nat.mul_one]
        have hlt : off + ys.length + j < cur.size := by omega
        simp [World.cell?, hh, hlt]) (fun j hj => by simp [World.frozen?, hh])
      rw [hs, Nat.mul_one] at hr
      obtain ⟨cur', e1, e2, e3, e4, e5⟩ := setCells_blk g 3 (0, 0) (xs.map (Value.int .i64)) (off + ys.length) w cur hh hfit
      refine ⟨_, _, hr, .inr ⟨g, off, cap, cur', by rw [List.length_append], hBg, e1, by rw [List.length_append]; exact hroom, hcm, by omega, fun j x hj => ?_⟩, e5, .inl rfl⟩
      by_cases hjl : j < ys.length
      · rw [List.getElem?_append_left hjl] at hj
        rw [e3 _ (by omega)]
        exact hx j x hj
      · rw [List.getElem?_append_right (by omega)] at hj
        rw [← e4 (j - ys.length) (.int .i64 x) (by rw [List.getElem?_map, hj]; rfl)]
        congr 1; omega
    · have hold : ∀ (j : Nat) (u : Value), (ys.map (Value.int .i64))[j]? = some u → w.cell? ((⟨g, off, none⟩ : Addr).add j) = some u := by
        intro j u hu
        rw [List.getElem?_map] at hu
        cases hj : ys[j]? with
        | none => rw [hj] at hu; cases hu
        | some x =>
          rw [hj] at hu
          injection hu with hu
          subst hu
          rw [Addr.add_lit]
          simp [World.cell?, hh, hx j x hj]
      obtain ⟨v', w', hr, h2, h3⟩ := run_append_arg_grows (P := Tryd.prog) w t ty 3 i (.int .i64 0) 1 8 ht hi hz hs hb rfl (by omega) ⟨g, off, none⟩ ys.length cap (ys.map (Value.int .i64)) (by simp) hold ad xs.length c (xs.map (Value.int .i64)) (by simp) hc (by omega) (by unfold maxLen; omega) (by omega)
      have hal : AL w' w.heap.size v' (ys ++ xs) := by
        unfold AL
        rw [List.length_append, List.map_append]
        exact h2
      have hlt := hal.lt
      refine ⟨v', w', hr, ?_, ?_, ?_⟩
      · rcases hal.aq with hq | ⟨g', o', c', cu, r1, r2, r3⟩
        · exact .inl hq
        · exact .inr ⟨g', o', c', cu, r1, by omega, r3⟩
      · exact ⟨h3.os, h3.tape, h3.output, h3.size, fun k hk _ => h3.block k hk (by simp)⟩
      · rcases hal.2 with ⟨hv', hn⟩ | ⟨g', cap', cur', hv', hB', _⟩
        · exfalso
          rw [List.length_append] at hn
          omega
        · exact .inr ⟨g', by rw [hv']; rfl, hB'⟩
/-- k is an output, or an operand of such a gate. -/
def Rch (gs : List Gt) (outs : List Int) (k : Int) : Prop := ∀ S : Int → Prop, (∀ k ∈ outs, S k) → (∀ k g, S k → gs[k.toNat]? = some g → ∀ m ∈ opnd g, S m) → S k
theorem Rch.out {gs : List Gt} {outs : List Int} {k : Int} (h : k ∈ outs) : Rch gs outs k := fun _ h1 _ => h1 k h
theorem Rch.op {gs : List Gt} {outs : List Int} {k m : Int} {g : Gt} (h : Rch gs outs k) (hg : gs[k.toNat]? = some g) (hm : m ∈ opnd g) : Rch gs outs m := fun S h1 h2 => h2 k g (h S h1 h2) hg m hm
def gAt (gs : List Gt) (k : Int) : Gt := gs.getD k.toNat ⟨0, 0, 0, 0⟩
theorem gAt_of {gs : List Gt} {k : Int} {g : Gt} (h : gs[k.toNat]? = some g) : gAt gs k = g := by rw [gAt, List.getD_eq_getElem?_getD, h]; rfl
theorem gAt_at {gs : List Gt} {k : Int} (h0 : 0 ≤ k) (h1 : k < gs.length) : gs[k.toNat]? = some (gAt gs k) := by
  have hl : k.toNat < gs.length := by omega
  rw [gAt, List.getD_eq_getElem?_getD, List.getElem?_eq_getElem hl]; rfl
/-- The marks behind the worklist. -/
def usedF (gs : List Gt) : Nat → List Int → List Bool → List Bool
  | 0, _, m => m
  | _ + 1, [], m => m
  | f + 1, k :: t, m => if m.getD k.toNat false then usedF gs f t m else usedF gs f (t ++ opnd (gAt gs k)) (m.set k.toNat true)
def usedM (gs : List Gt) (outs : List Int) : List Bool := usedF gs (outs.length + 3 * gs.length) outs (List.replicate gs.length false)
def muP (t : List Int) (m : List Bool) : Nat := t.length + 3 * m.count false
theorem opnd_le (g : Gt) : (opnd g).length ≤ 2 := by
  unfold opnd
  split
  · simp
  · split <;> simp
theorem count_false_set {m : List Bool} {k : Nat} (h : m[k]? = some false) : (m.set k true).count false + 1 = m.count false := by
  have hl := (List.getElem?_eq_some_iff.1 h).1
  have e := (List.getElem?_eq_some_iff.1 h).2
  rw [List.count_set hl, e]
  have : 0 < m.count false := List.count_pos_iff.2 (List.mem_of_getElem? h)
  simp
  omega
structure UOk (gs : List Gt) (outs : List Int) (t : List Int) (m : List Bool) : Prop where
  len : m.length = gs.length
  rg : ∀ k ∈ t, 0 ≤ k ∧ k < gs.length
  r1 : ∀ k : Nat, m[k]? = some true → Rch gs outs k
  r2 : ∀ k ∈ t, Rch gs outs k
  c1 : ∀ k ∈ outs, k ∈ t ∨ m[k.toNat]? = some true
  c2 : ∀ k : Nat, m[k]? = some true → ∀ j ∈ opnd (gAt gs k), j ∈ t ∨ m[j.toNat]? = some true
theorem UOk.skip {gs : List Gt} {outs : List Int} {k : Int} {t : List Int} {m : List Bool} (h : UOk gs outs (k :: t) m) (hk : m[k.toNat]? = some true) : UOk gs outs t m :=
  ⟨h.len, fun j hj => h.rg j (by simp [hj]), h.r1, fun j hj => h.r2 j (by simp [hj]), fun j hj => by
    rcases h.c1 j hj with h1 | h1
    · rcases List.mem_cons.1 h1 with h1 | h1
      · subst h1; exact .inr hk
      · exact .inl h1
    · exact .inr h1, fun i hi j hj => by
    rcases h.c2 i hi j hj with h1 | h1
    · rcases List.mem_cons.1 h1 with h1 | h1
      · subst h1; exact .inr hk
      · exact .inl h1
    · exact .inr h1⟩
theorem UOk.mark {gs : List Gt} {outs : List Int} (hop : ∀ g ∈ gs, ∀ k ∈ opnd g, 0 ≤ k ∧ k < gs.length) {k : Int} {t : List Int} {m : List Bool} (h : UOk gs outs (k :: t) m) : UOk gs outs (t ++ opnd (gAt gs k)) (m.set k.toNat true) := by
  obtain ⟨hk0, hk1⟩ := h.rg k (by simp)
  have hg := gAt_at hk0 hk1
  have hself : (m.set k.toNat true)[k.toNat]? = some true := by rw [List.getElem?_set_self (by rw [h.len]; omega)]
  have hkeep : ∀ j : Nat, m[j]? = some true → (m.set k.toNat true)[j]? = some true := fun j hj => by
    by_cases e : k.toNat = j
    · subst e; exact hself
    · rw [List.getElem?_set_ne e]; exact hj
  have hput : ∀ j : Int, (j ∈ k :: t ∨ m[j.toNat]? = some true) → (j ∈ t ++ opnd (gAt gs k) ∨ (m.set k.toNat true)[j.toNat]? = some true) := fun j hj => by
    rcases hj with hj | hj
    · rcases List.mem_cons.1 hj with e | hj
      · subst e; exact .inr hself
      · exact .inl (List.mem_append_left _ hj)
    · exact .inr (hkeep _ hj)
  refine ⟨by rw [List.length_set, h.len], fun j hj => ?_, fun j hj => ?_, fun j hj => ?_, fun j hj => hput j (h.c1 j hj), fun i hi j hj => ?_⟩
  · rcases List.mem_append.1 hj with hj | hj
    · exact h.rg j (by simp [hj])
    · exact hop _ (List.mem_of_getElem? hg) j hj
  · by_cases e : k.toNat = j
    · subst e
      have := h.r2 k (by simp)
      rwa [show ((k.toNat : Nat) : Int) = k by omega]
    · rw [List.getElem?_set_ne e] at hj; exact h.r1 j hj
  · rcases List.mem_append.1 hj with hj | hj
    · exact h.r2 j (by simp [hj])
    · exact (h.r2 k (by simp)).op hg hj
  · by_cases e : k.toNat = i
    · subst e
      rw [show ((k.toNat : Nat) : Int) = k by omega] at hj
      exact .inl (List.mem_append_right _ hj)
    · rw [List.getElem?_set_ne e] at hi
      exact hput j (h.c2 i hi j hj)
theorem usedF_ok {gs : List Gt} {outs : List Int} (hop : ∀ g ∈ gs, ∀ k ∈ opnd g, 0 ≤ k ∧ k < gs.length) : ∀ (f : Nat) (t : List Int) (m : List Bool), muP t m ≤ f → UOk gs outs t m → UOk gs outs [] (usedF gs f t m)
  | 0, t, m, hf, h => by
    have : t = [] := List.eq_nil_of_length_eq_zero (by unfold muP at hf; omega)
    subst this
    exact h
  | f + 1, [], m, _, h => h
  | f + 1, k :: t, m, hf, h => by
    obtain ⟨hk0, hk1⟩ := h.rg k (by simp)
    have hl : k.toNat < m.length := by rw [h.len]; omega
    rw [usedF, List.getD_eq_getElem?_getD]
    unfold muP at hf
    rw [List.length_cons] at hf
    cases hb : m[k.toNat]? with
    | none => rw [List.getElem?_eq_getElem hl] at hb; cases hb
    | some b =>
      cases b with
      | true =>
        rw [Option.getD_some, if_pos rfl]
        exact usedF_ok hop f t m (by unfold muP; omega) (h.skip hb)
      | false =>
        rw [Option.getD_some, if_neg (by decide)]
        have hc := count_false_set hb
        have ho := opnd_le (gAt gs k)
        exact usedF_ok hop f _ _ (by unfold muP; rw [List.length_append]; omega) (h.mark hop)
theorem UOk.start {gs : List Gt} {outs : List Int} (ho : ∀ k ∈ outs, 0 ≤ k ∧ k < gs.length) : UOk gs outs outs (List.replicate gs.length false) :=
by
  have hn : ∀ k : Nat, ¬ (List.replicate gs.length false)[k]? = some true := fun k hk => by
    rw [List.getElem?_replicate] at hk
    split at hk
    · cases hk
    · cases hk
  exact ⟨by simp, ho, fun k hk => (hn k hk).elim, fun k hk => Rch.out hk, fun k hk => .inl hk, fun k hk => (hn k hk).elim⟩
theorem usedM_ok {gs : List Gt} {outs : List Int} (hop : ∀ g ∈ gs, ∀ k ∈ opnd g, 0 ≤ k ∧ k < gs.length) (ho : ∀ k ∈ outs, 0 ≤ k ∧ k < gs.length) : UOk gs outs [] (usedM gs outs) :=
  usedF_ok hop _ _ _ (by unfold muP; simp [List.count_replicate]) (UOk.start ho)
theorem usedM_iff {gs : List Gt} {outs : List Int} (hop : ∀ g ∈ gs, ∀ k ∈ opnd g, 0 ≤ k ∧ k < gs.length) (ho : ∀ k ∈ outs, 0 ≤ k ∧ k < gs.length) (k : Nat) (hk : k < gs.length) : (usedM gs outs)[k]? = some true ↔ Rch gs outs k := by
  have h := usedM_ok hop ho
  refine ⟨h.r1 k, fun hr => ?_⟩
  refine hr (fun j => (usedM gs outs)[j.toNat]? = some true) (fun j hj => ?_) (fun j g hj hg m hm => ?_)
  · exact (h.c1 j hj).resolve_left (by simp)
  · refine (h.c2 j.toNat hj m ?_).resolve_left (by simp)
    rw [gAt_of (k := (j.toNat : Int)) (g := g) (by rw [Int.toNat_natCast]; exact hg)]
    exact hm
/-- The indices that are marked. -/
def mkdL (m : List Bool) : List Int := (upL m.length).filter fun k => m.getD k.toNat false
theorem mkdL_mem {m : List Bool} {k : Int} : k ∈ mkdL m ↔ 0 ≤ k ∧ k < m.length ∧ m[k.toNat]? = some true := by
  unfold mkdL
  rw [List.mem_filter]
  constructor
  · rintro ⟨h1, h2⟩
    obtain ⟨j, hj, hk⟩ := List.mem_map.1 h1
    obtain rfl : k = (j : Int) := hk.symm
    have hl := List.mem_range.1 hj
    refine ⟨by omega, by omega, ?_⟩
    rw [List.getD_eq_getElem?_getD] at h2
    rw [List.getElem?_eq_getElem (by simpa using hl)] at h2 ⊢
    simpa using h2
  · rintro ⟨h0, h1, h2⟩
    obtain ⟨j, rfl⟩ := Int.eq_ofNat_of_zero_le h0
    refine ⟨List.mem_map.2 ⟨j, List.mem_range.2 (by omega), rfl⟩, ?_⟩
    rw [List.getD_eq_getElem?_getD, h2]; rfl
theorem mkdL_asc (m : List Bool) : (mkdL m).Pairwise (· < ·) := by
  refine List.Pairwise.filter _ ?_
  rw [upL, List.pairwise_map]
  exact List.pairwise_lt_range.imp fun h => Int.ofNat_lt.2 h
theorem asc_ext : ∀ {a b : List Int}, a.Pairwise (· < ·) → b.Pairwise (· < ·) → (∀ k, k ∈ a ↔ k ∈ b) → a = b
  | [], [], _, _, _ => rfl
  | [], y :: b, _, _, h => by have := (h y).2 (by simp); simp at this
  | x :: a, [], _, _, h => by have := (h x).1 (by simp); simp at this
  | x :: a, y :: b, ha, hb, h => by
    rw [List.pairwise_cons] at ha hb
    have hxy : x = y := by
      rcases List.mem_cons.1 ((h x).1 (by simp)) with e | hx
      · exact e
      · rcases List.mem_cons.1 ((h y).2 (by simp)) with e | hy
        · exact e.symm
        · have h1 := ha.1 y hy
          have h2 := hb.1 x hx
          omega
    subst hxy
    congr 1
    refine asc_ext ha.2 hb.2 fun k => ⟨fun hk => ?_, fun hk => ?_⟩
    · rcases List.mem_cons.1 ((h k).1 (by simp [hk])) with e | hk'
      · have := ha.1 k hk; omega
      · exact hk'
    · rcases List.mem_cons.1 ((h k).2 (by simp [hk])) with e | hk'
      · have := hb.1 k hk; omega
      · exact hk'
/-- An ascending list with a number put in. -/
def putL : List Int → Int → List Int
  | [], n => [n]
  | x :: l, n => if x < n then x :: putL l n else if x = n then x :: l else n :: x :: l
theorem putL_mem {n k : Int} : ∀ {l : List Int}, k ∈ putL l n ↔ k = n ∨ k ∈ l
  | [] => by simp [putL]
  | x :: l => by
    rw [putL]
    split
    · rw [List.mem_cons, putL_mem (l := l), List.mem_cons]
      constructor
      · rintro (h | h | h) <;> simp [h]
      · rintro (h | h | h) <;> simp [h]
    · split
      · rename_i _ e; subst e; simp
      · simp
theorem putL_asc {n : Int} : ∀ {l : List Int}, l.Pairwise (· < ·) → (putL l n).Pairwise (· < ·)
  | [], _ => by simp [putL]
  | x :: l, h => by
    rw [List.pairwise_cons] at h
    rw [putL]
    split
    · rename_i hx
      rw [List.pairwise_cons]
      refine ⟨fun k hk => ?_, putL_asc h.2⟩
      rcases putL_mem.1 hk with e | hk
      · omega
      · exact h.1 k hk
    · split
      · rw [List.pairwise_cons]; exact h
      · rename_i h1 h2
        rw [List.pairwise_cons, List.pairwise_cons]
        refine ⟨fun k hk => ?_, h⟩
        rcases List.mem_cons.1 hk with e | hk
        · omega
        · have := h.1 k hk; omega
theorem putL_in {n : Int} : ∀ {l : List Int}, l.Pairwise (· < ·) → n ∈ l → putL l n = l
  | [], _, h => by simp at h
  | x :: l, h, hn => by
    rw [List.pairwise_cons] at h
    rw [putL]
    rcases List.mem_cons.1 hn with e | hn
    · subst e; rw [if_neg (by omega), if_pos rfl]
    · rw [if_pos (h.1 n hn), putL_in h.2 hn]
theorem asc_len {n : Nat} {l : List Int} (h : l.Pairwise (· < ·)) (hr : ∀ k ∈ l, 0 ≤ k ∧ k < n) : l.length ≤ n := by
  have h1 : l = (upL n).filter (fun k => decide (k ∈ l)) := by
    refine asc_ext h (List.Pairwise.filter _ (by rw [upL, List.pairwise_map]; exact List.pairwise_lt_range.imp fun h => Int.ofNat_lt.2 h)) fun k => ?_
    rw [List.mem_filter]
    constructor
    · intro hk
      obtain ⟨h0, h1⟩ := hr k hk
      obtain ⟨j, rfl⟩ := Int.eq_ofNat_of_zero_le h0
      exact ⟨List.mem_map.2 ⟨j, List.mem_range.2 (by omega), rfl⟩, by simpa using hk⟩
    · rintro ⟨_, hk⟩
      simpa using hk
  rw [h1]
  refine Nat.le_trans (List.length_filter_le _ _) ?_
  rw [upL_len]
  exact Nat.le_refl _
/-- Where the kept gates go. -/
def toN (n : Nat) (l : List Int) : Nat → List Int
  | 0 => List.replicate n 0
  | j + 1 => (toN n l j).set (l.getD j 0).toNat j
theorem toN_len (n : Nat) (l : List Int) : ∀ j, (toN n l j).length = n
  | 0 => by simp [toN]
  | j + 1 => by rw [toN, List.length_set, toN_len]
def keptL (x : Circ) : List Int := mkdL (usedM x.gs x.outs)
def keptT (x : Circ) : List Int := toN x.gs.length (keptL x) (keptL x).length
def prC (x : Circ) : Circ := ⟨x.n, (keptL x).map (fun k => movG (keptT x) (gAt x.gs k)), x.outs.map (fun k => (keptT x).getD k.toNat 0)⟩
def pruU (p : Int) (x : Circ) : Circ × Bool := if circB p x = true ∧ circB p (prC x) = true then (prC x, true) else (⟨0, [], []⟩, false)
theorem pruU_no {p : Int} {x : Circ} (h : ¬ (circB p x = true ∧ circB p (prC x) = true)) : pruU p x = (⟨0, [], []⟩, false) := if_neg h
theorem pruU_yes {p : Int} {x : Circ} (h1 : circB p x = true) (h2 : circB p (prC x) = true) : pruU p x = (prC x, true) := if_pos ⟨h1, h2⟩
end Go.Proofs.YtgblnkadmieflaaDoor
