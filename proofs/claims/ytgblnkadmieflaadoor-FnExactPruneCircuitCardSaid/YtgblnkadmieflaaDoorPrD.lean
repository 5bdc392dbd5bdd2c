/- Pruned circuits: the reference's side. -/
import Derived.Test.YtgblnkadmieflaaDoorPrC
import Derived.Test.YtgblnkadmieflaaDoorHas
namespace Go.Proofs.YtgblnkadmieflaaDoor
set_option maxRecDepth 100000
open Go Go.RowKit
theorem putL_len {n : Int} : ∀ {l : List Int}, n ∉ l → (putL l n).length = l.length + 1
  | [], _ => rfl
  | x :: l, h => by
    rw [putL]
    have hx : x ≠ n := fun e => h (by simp [e])
    by_cases h1 : x < n
    · rw [if_pos h1, List.length_cons, putL_len (fun hm => h (by simp [hm])), List.length_cons]
    · rw [if_neg h1, if_neg hx]; rfl
/-- What is kept so far. -/
structure KeepOk (gs : List Gt) (outs K : List Int) : Prop where
  asc : K.Pairwise (· < ·)
  rg : ∀ k ∈ K, 0 ≤ k ∧ k < gs.length
  rch : ∀ k ∈ K, Rch gs outs k
theorem KeepOk.nil (gs : List Gt) (outs : List Int) : KeepOk gs outs [] := ⟨List.Pairwise.nil, by simp, by simp⟩
theorem KeepOk.put {gs : List Gt} {outs K : List Int} (h : KeepOk gs outs K) {m : Int} (hr : 0 ≤ m ∧ m < gs.length) (hm : Rch gs outs m) : KeepOk gs outs (putL K m) :=
  ⟨putL_asc h.asc, fun k hk => (putL_mem.1 hk).elim (fun e => e ▸ hr) (h.rg k), fun k hk => (putL_mem.1 hk).elim (fun e => e ▸ hm) (h.rch k)⟩
theorem KeepOk.len {gs : List Gt} {outs K : List Int} (h : KeepOk gs outs K) : K.length ≤ gs.length := asc_len h.asc h.rg
theorem KeepOk.done {gs : List Gt} {outs K : List Int} (h : KeepOk gs outs K) (hop : ∀ g ∈ gs, ∀ k ∈ opnd g, 0 ≤ k ∧ k < gs.length) (hou : ∀ k ∈ outs, 0 ≤ k ∧ k < gs.length) (ho : ∀ k ∈ outs, k ∈ K) (hc : ∀ k ∈ K, ∀ m ∈ opnd (gAt gs k), m ∈ K) : K = mkdL (usedM gs outs) := by
  have hl := (usedM_ok hop hou).len
  refine asc_ext h.asc (mkdL_asc _) fun k => ⟨fun hk => ?_, fun hk => ?_⟩
  · obtain ⟨h0, h1⟩ := h.rg k hk
    obtain ⟨k, rfl⟩ := Int.eq_ofNat_of_zero_le h0
    exact mkdL_mem.2 ⟨h0, by rw [hl]; exact h1, (usedM_iff hop hou k (by omega)).2 (h.rch _ hk)⟩
  · obtain ⟨h0, h1, h2⟩ := mkdL_mem.1 hk
    obtain ⟨k, rfl⟩ := Int.eq_ofNat_of_zero_le h0
    refine (usedM_iff hop hou k (by omega)).1 h2 (· ∈ K) ho (fun j g hj hg m hm => ?_)
    refine hc j hj m ?_
    rw [gAt_of hg]
    exact hm
theorem Rd.keep_n {w w' : World} {A : Option Addr} {xs : List Int} (h : Rd w A xs) (hk : xs ≠ [] → ∀ a : Addr, A = some a → a.block < w.heap.size → w'.heap[a.block]? = w.heap[a.block]?) : Rd w' A xs := by
  by_cases hx : xs = []
  · subst hx; exact Rd.nil _ _
  · exact h.keep (hk hx)
theorem Rd.drop_k {w : World} {g off : Nat} {xs : List Int} (h : Rd w (some ⟨g, off, none⟩) xs) (k : Nat) : Rd w (some ⟨g, off + k, none⟩) (xs.drop k) :=
  ⟨by have := h.1; rw [List.length_drop]; omega, fun j hj => by
    rw [List.length_drop] at hj
    obtain ⟨g', off', hA, hc⟩ := h.2 (k + j) (by omega)
    injection hA with hA
    injection hA with e1 e2 _
    subst e1 e2
    refine ⟨g, off + k, rfl, ?_⟩
    rw [Nat.add_assoc, hc, List.getElem?_drop]⟩
theorem putL_split {n : Int} : ∀ (l : List Int) (k : Nat), (∀ i : Nat, i < k → l.getD i 0 < n) → k ≤ l.length → (k < l.length → ¬ l.getD k 0 < n) → putL l n = if k < l.length ∧ l.getD k 0 = n then l else l.take k ++ n :: l.drop k
  | [], k, _, hk, _ => by simp at hk; subst hk; simp [putL]
  | x :: l, 0, _, _, h2 => by
    have hx : ¬ x < n := by simpa using h2 (by simp)
    rw [putL, if_neg hx]
    by_cases e : x = n
    · rw [if_pos e, if_pos ⟨by simp, by simpa using e⟩]
    · rw [if_neg e, if_neg (by simpa using e)]
      rfl
  | x :: l, k + 1, h1, hk, h2 => by
    have hx : x < n := by simpa using h1 0 (by omega)
    rw [putL, if_pos hx, putL_split l k (fun i hi => by simpa using h1 (i + 1) (by omega)) (by simpa using hk) (fun h => by simpa using h2 (by simpa using h))]
    by_cases e : k < l.length ∧ l.getD k 0 = n
    · rw [if_pos e, if_pos (by simpa using e)]
    · rw [if_neg e, if_neg (by simpa using e)]
      rfl
set_option maxHeartbeats 2000000 in
theorem l1Put_c (A : Option Addr) (c : Nat) (l : List Int) (n : Int) (w : World) (h : Rd w A l) (hc : l.length ≤ c) (hl : l.length ≤ 1000000) :
    Calls Tryd.prog 83 #[.slice A l.length c, .int .i64 n] w fun e w' => ∃ A' c', e = .returned (.slice A' (putL l n).length c') ∧ Rd w' A' (putL l n) ∧ (putL l n).length ≤ c' ∧ Ex w w' := by
  go_enter Tryd.func83, Tryd.ntmps83
  go_wp2_with fail
  go_loopw [5] (fun i wi => ∃ k : Nat, k ≤ l.length ∧ i = .int .i64 k ∧ Hid (∀ i : Nat, i < k → l.getD i 0 < n) ∧ wi = w) (fun i _ => l.length - (intOf i).toNat)
  case atStart => exact ⟨0, Nat.zero_le _, rfl, Lib.hid (fun i hi => absurd hi (Nat.not_lt_zero i)), rfl⟩
  case round =>
    obtain ⟨k, hk, rfl, Hk, rfl⟩ := hrel
    by_cases hlt : k < l.length
    · obtain ⟨g, off, x, rfl, hx, hg, cx⟩ := h.at_ hlt
      have hgd : l.getD k 0 = x := by rw [List.getD_eq_getElem?_getD, hx]; rfl
      by_cases hxn : x < n
      · have Hk2 := Lib.hid (show ∀ i : Nat, i < k + 1 → l.getD i 0 < n from fun i hi => by
          by_cases e : i = k
          · subst e; rw [hgd]; exact hxn
          · exact Hk.out i (by omega))
        clear hx hgd
        go_wp2_with fail
        go_roundw
        case rel => exact ⟨k + 1, by omega, by go_num, Hk2, trivial⟩
        case measure => simp [intOf]; omega
      · have HS := putL_split l k Hk.out hk (fun _ => by rw [hgd]; exact hxn)
        by_cases hxe : x = n
        · have H := Lib.hid (show putL l n = l by rw [HS, if_pos ⟨hlt, by rw [hgd]; exact hxe⟩])
          have hb : (x == n) = true := by simpa using hxe
          clear hx hgd HS hxe
          go_wp2_with fail
          go_ret
          exact ⟨some ⟨g, off, none⟩, c, by rw [H.out]; rfl, by rw [H.out]; exact h, by rw [H.out]; exact hc, Ex.refl _⟩
        · have H := Lib.hid (show putL l n = l.take k ++ n :: l.drop k by rw [HS, if_neg (by rw [hgd]; exact fun h => hxe h.2)])
          have hb : (x == n) = false := by simpa using hxe
          clear hx hgd HS hxe
          have hal : AL (wr.alloc (.cells #[] 3)) wr.heap.size (.slice (some ⟨wr.heap.size, 0, none⟩) 0 0) [] := AL.empty wr (Nat.le_refl _)
          have e0 := (Ex.refl wr).alloc (.cells #[] 3)
          have htl : (l.take k).length = k := by rw [List.length_take]; omega
          obtain ⟨v1, w1, hrun1, al1, ex1, _⟩ := run_append_ints 23 23 Tryd.underlying23 _ _ _ _ hal (by simp) (some ⟨g, off, none⟩) c (l.take k) ((h.take k).ex e0) (by simp; omega)
          rw [htl] at hrun1
          have E1 : Ex wr w1 := e0.exo ex1 (fun g e => by injection e with e; dsimp only at e; omega)
          rw [List.nil_append] at al1
          obtain ⟨v2, w2, hrun2, al2, hI2⟩ := al_push_i w1 wr.heap.size _ _ n al1 E1.size (by omega)
          have E2 := E1.iv hI2 (Nat.le_refl _)
          have hdl : (l.drop k).length = l.length - k := List.length_drop
          obtain ⟨v3, w3, hrun3, al3, ex3, _⟩ := run_append_ints 23 23 Tryd.underlying23 w2 _ _ _ al2 E2.size (some ⟨g, off + k, none⟩) (c - k) (l.drop k) ((h.drop_k k).ex E2) (by rw [List.length_append, List.length_singleton]; omega)
          rw [hdl] at hrun3
          have E3 : Ex wr w3 := E2.exo ex3 (fun g e => (al2.lt g e).1)
          rw [List.append_assoc, List.singleton_append, ← H.out] at al3
          have hPl : (putL l n).length = l.length + 1 := by rw [H.out, List.length_append, List.length_cons]; omega
          obtain ⟨A3, c3, rfl, f3⟩ := al3.form (by omega)
          have hr3 := f3.rd
          have hc3 := f3.cap
          clear al1 al2 al3 hal f3 htl hdl hPl
          go_wp2_with (at_builtin; first | (refine wpList_append_run rfl _ _ _ rfl rfl rfl hrun1 ?_) | (refine wpList_append_run rfl _ _ _ rfl rfl rfl hrun2 ?_) | (refine wpList_append_run rfl _ _ _ rfl rfl rfl hrun3 ?_))
          go_ret
          exact ⟨_, _, rfl, hr3, hc3, E3⟩
    · obtain rfl : k = l.length := by omega
      have H := Lib.hid (show putL l n = l ++ [n] by rw [putL_split l l.length Hk.out hk (fun h => absurd h hlt), if_neg (fun h => hlt h.1), List.take_length, List.drop_length])
      have key : ∀ (A9 : Option Addr) (c9 : Nat), ∃ v1 w1 v2 w2 A3 c3 w3, (Builtin.append_ #[23, 23] 23 #[.slice (some ⟨wr.heap.size, 0, none⟩) 0 0, .slice A l.length c]).run Tryd.prog (wr.alloc (.cells #[] 3)) = .ok v1 w1 ∧
          (Builtin.append_ #[23, 23] 23 #[v1, .slice (some ⟨w1.heap.size, 0, none⟩) 1 1]).run Tryd.prog (w1.alloc (iObj [n])) = .ok v2 w2 ∧
          (Builtin.append_ #[23, 23] 23 #[v2, .slice A9 0 c9]).run Tryd.prog w2 = .ok (.slice A3 (putL l n).length c3) w3 ∧ Rd w3 A3 (putL l n) ∧ (putL l n).length ≤ c3 ∧ Ex wr w3 := fun A9 c9 => by
        have hal : AL (wr.alloc (.cells #[] 3)) wr.heap.size (.slice (some ⟨wr.heap.size, 0, none⟩) 0 0) [] := AL.empty wr (Nat.le_refl _)
        have e0 := (Ex.refl wr).alloc (.cells #[] 3)
        obtain ⟨v1, w1, hrun1, al1, ex1, _⟩ := run_append_ints 23 23 Tryd.underlying23 _ _ _ _ hal (by simp) A c l (h.ex e0) (by simp; omega)
        have E1 : Ex wr w1 := e0.exo ex1 (fun g e => by injection e with e; dsimp only at e; omega)
        rw [List.nil_append] at al1
        obtain ⟨v2, w2, hrun2, al2, hI2⟩ := al_push_i w1 wr.heap.size _ _ n al1 E1.size (by omega)
        have E2 := E1.iv hI2 (Nat.le_refl _)
        obtain ⟨v3, w3, hrun3, al3, ex3, _⟩ := run_append_ints 23 23 Tryd.underlying23 w2 _ _ _ al2 E2.size A9 c9 [] (Rd.nil _ _) (by rw [List.length_append, List.length_singleton]; simp; omega)
        have E3 : Ex wr w3 := E2.exo ex3 (fun g e => (al2.lt g e).1)
        rw [List.append_nil, ← H.out] at al3
        obtain ⟨A3, c3, rfl, f3⟩ := al3.form (by rw [H.out, List.length_append, List.length_singleton]; omega)
        exact ⟨v1, w1, v2, w2, A3, c3, w3, hrun1, hrun2, hrun3, f3.rd, f3.cap, E3⟩
      by_cases hl0 : l = []
      · subst hl0
        obtain ⟨v1, w1, v2, w2, A3, c3, w3, hrun1, hrun2, hrun3, hr3, hc3, E3⟩ := key A c
        clear key
        go_wp2_with (at_builtin; first | (refine wpList_append_run rfl _ _ _ rfl rfl rfl hrun1 ?_) | (refine wpList_append_run rfl _ _ _ rfl rfl rfl hrun2 ?_) | (refine wpList_append_run rfl _ _ _ rfl rfl rfl hrun3 ?_))
        go_ret
        exact ⟨_, _, rfl, hr3, hc3, E3⟩
      · have hpos := List.length_pos_iff.2 hl0
        obtain ⟨g, off, hA, _⟩ := h.2 0 hpos
        subst hA
        by_cases hc2 : c = l.length
        · obtain ⟨v1, w1, v2, w2, A3, c3, w3, hrun1, hrun2, hrun3, hr3, hc3, E3⟩ := key (some ⟨g, off, none⟩) 0
          clear key
          subst hc2
          go_wp2_with (at_builtin; first | (refine wpList_append_run rfl _ _ _ rfl rfl rfl hrun1 ?_) | (refine wpList_append_run rfl _ _ _ rfl rfl rfl hrun2 ?_) | (refine wpList_append_run rfl _ _ _ rfl rfl rfl hrun3 ?_))
          go_ret
          exact ⟨_, _, rfl, hr3, hc3, E3⟩
        · obtain ⟨v1, w1, v2, w2, A3, c3, w3, hrun1, hrun2, hrun3, hr3, hc3, E3⟩ := key (some ⟨g, off + l.length, none⟩) (c - l.length)
          clear key
          go_wp2_with (at_builtin; first | (refine wpList_append_run rfl _ _ _ rfl rfl rfl hrun1 ?_) | (refine wpList_append_run rfl _ _ _ rfl rfl rfl hrun2 ?_) | (refine wpList_append_run rfl _ _ _ rfl rfl rfl hrun3 ?_))
          go_ret
          exact ⟨_, _, rfl, hr3, hc3, E3⟩
set_option maxHeartbeats 8000000 in
theorem crPrune_c (x : Circ) (A : Option Addr) (c : Nat) (B : Option Addr) (d : Nat) (w : World) (h : RdS EG w A x.gs) (ho : Rd w B x.outs) (hn : x.gs.length ≤ 1000) (hm : x.outs.length ≤ 1000) (hop : ∀ g ∈ x.gs, ∀ k ∈ opnd g, 0 ≤ k ∧ k < x.gs.length) (hou : ∀ k ∈ x.outs, 0 ≤ k ∧ k < x.gs.length) :
    Calls Tryd.prog 41 #[.agg #[.int .i64 x.n, .slice A x.gs.length c, .slice B x.outs.length d]] w fun e w' => ∃ y0 y1, e = .returned (.agg #[.int .i64 x.n, y0, y1]) ∧ OCirc w' w.heap.size w'.heap.size y0 y1 (prC x) ∧ Ex w w' := by
  obtain ⟨n, gs, outs⟩ := x
  dsimp only at h ho hn hm hop hou ⊢
  have Hop := Lib.hid hop
  have Hou := Lib.hid hou
  have y0 := (Ex.refl w).alloc (.cells #[.int .i64 n, .slice A gs.length c, .slice B outs.length d] 29)
  have d0 := VB.new w 29 #[.int .i64 n, .slice A gs.length c, .slice B outs.length d]
  have S0 := Lib.hid (show (w.alloc (.cells #[.int .i64 n, .slice A gs.length c, .slice B outs.length d] 29)).heap.size = w.heap.size + 1 by simp)
  clear hop hou
  go_enter Tryd.func41, Tryd.ntmps41
  go_wp2_with fail
  generalize w.alloc (.cells #[.int .i64 n, .slice A gs.length c, .slice B outs.length d] 29) = W0 at *
  have y1 := (Ex.refl W0).alloc (.cells #[.int .i64 0, .slice none 0 0, .slice none 0 0] 29)
  have d1 := VB.new W0 29 #[.int .i64 0, .slice none 0 0, .slice none 0 0]
  rw [S0.out] at d1
  have S1 : (W0.alloc (.cells #[.int .i64 0, .slice none 0 0, .slice none 0 0] 29)).heap.size = w.heap.size + 1 + 1 := by simp; exact S0.out
  generalize W0.alloc (.cells #[.int .i64 0, .slice none 0 0, .slice none 0 0] 29) = W1 at *
  have d0 := d0.ex y1
  have xx := y0.trans y1
  clear y0 y1 S0
  have k0 := KeepOk.nil gs outs
  go_loopw [3, 20] (fun kp i wi => ∃ (k : Nat) (K : List Int) (C : Option Addr) (cc : Nat), k ≤ outs.length ∧ i = .int .i64 k ∧ kp = .slice C K.length cc ∧ Rd wi C K ∧ K.length ≤ cc ∧ Hid (KeepOk gs outs K) ∧ Hid (∀ j ∈ outs.take k, j ∈ K) ∧ Ex W1 wi) (fun _ i _ => outs.length - (intOf i).toNat)
  case atStart => exact ⟨0, [], none, 0, Nat.zero_le _, rfl, rfl, Rd.nil _ _, Nat.le_refl _, Lib.hid k0, Lib.hid (by simp), Ex.refl _⟩
  case round =>
    obtain ⟨k, K, C, cc, hk, rfl, rfl, hK, hcc, HK, HO, he⟩ := hrel
    have hKl := HK.out.len
    by_cases hlt : k < outs.length
    · obtain ⟨gL, oL, q, rfl, hq, hgq, cq⟩ := (ho.ex (xx.trans he)).at_ hlt
      have hqr := Hou.out q (List.mem_of_getElem? hq)
      have HK2 := Lib.hid (HK.out.put hqr (Rch.out (List.mem_of_getElem? hq)))
      have HO2 := Lib.hid (show ∀ j ∈ outs.take (k + 1), j ∈ putL K q from fun j hj => by
        rw [List.take_add_one, hq] at hj
        rcases List.mem_append.1 hj with hj | hj
        · exact putL_mem.2 (.inr (HO.out j hj))
        · simp at hj; exact putL_mem.2 (.inl hj))
      clear hq hqr
      go_wp2_with fail
      refine (l1Put_c C cc K q wr hK hcc (by omega)).mono ?_
      rintro e w5 ⟨C5, cc5, rfl, hK5, hcc5, x5⟩
      go_wp2_with fail
      go_roundw
      case rel => exact ⟨k + 1, _, C5, cc5, by omega, by go_num, rfl, hK5, hcc5, HK2, HO2, he.trans x5⟩
      case measure => simp [intOf]; omega
    · obtain rfl : k = outs.length := by omega
      rw [List.take_length] at HO
      go_wp2_with fail
      go_loopg [3, 6] (gs.length + 1) (fun f kp ag wi => ∃ (K : List Int) (C : Option Addr) (cc : Nat) (b : Bool), kp = .slice C K.length cc ∧ ag = .bool b ∧ Rd wi C K ∧ K.length ≤ cc ∧ Hid (KeepOk gs outs K) ∧ Hid (∀ j ∈ outs, j ∈ K) ∧ Hid (b = false → ∀ j ∈ K, ∀ m ∈ opnd (gAt gs j), m ∈ K) ∧ Hid (b = true → gs.length + 1 ≤ f + K.length) ∧ Ex W1 wi)
      case atStart => exact ⟨K, C, cc, true, rfl, rfl, hK, hcc, HK, HO, Lib.hid (fun e => by cases e), Lib.hid (fun _ => by omega), he⟩
      case round =>
        clear hK hcc HK HO he hKl
        obtain ⟨K, C, cc, b, rfl, rfl, hK, hcc, HK, HO, Hcl, Hf, he⟩ := hrel
        have hKl := HK.out.len
        cases b with
        | true =>
          have hf := Hf.out rfl
          cases gk with
          | zero => omega
          | succ f =>
            clear Hcl Hf
            go_wp2_with fail
            refine (l1Own_c C cc K wr hK).mono ?_
            rintro e w5 ⟨g5, c5, rfl, hc5, hg5, ho5, x5⟩
            have hr5 := ho5.rd (by omega)
            have hK5 := hK.ex x5
            have he5 := he.trans x5
            clear hK he x5 ho5
            go_wp2_with fail
            go_loopw [3, 6, 32] (fun kp ag i wi => ∃ (k : Nat) (K' : List Int) (C : Option Addr) (cc : Nat) (b : Bool), k ≤ K.length ∧ i = .int .i64 k ∧ kp = .slice C K'.length cc ∧ ag = .bool b ∧ Rd wi C K' ∧ K'.length ≤ cc ∧ Hid (KeepOk gs outs K') ∧ Hid (∀ j ∈ K, j ∈ K') ∧ Hid (∀ j ∈ K.take k, ∀ m ∈ opnd (gAt gs j), m ∈ K') ∧ Hid (b = false → K' = K) ∧ Hid (b = true → K.length < K'.length) ∧ Rd wi (some ⟨g5, 0, none⟩) K ∧ Ex W1 wi) (fun _ _ i _ => K.length - (intOf i).toNat)
            case atStart => exact ⟨0, K, C, cc, false, Nat.zero_le _, rfl, rfl, rfl, hK5, hcc, HK, Lib.hid (fun _ h => h), Lib.hid (by simp), Lib.hid (fun _ => rfl), Lib.hid (fun e => by cases e), hr5, he5⟩
            case round =>
              clear hr5 hK5 he5
              obtain ⟨k, K', C', cc', b, hk, rfl, rfl, rfl, hK', hcc', HK', HS, HC, Hb0, Hb1, hr5, he5⟩ := hrel
              have hKl' := HK'.out.len
              by_cases hlt : k < K.length
              · obtain ⟨gL, oL, q, eA, hq, hgq, cq⟩ := hr5.at_ hlt
                injection eA with eA
                injection eA with e1 e2 _
                subst e1
                subst e2
                rw [Nat.zero_add] at cq
                obtain ⟨hq0, hq1⟩ := HK.out.rg q (List.mem_of_getElem? hq)
                have hqr := HK.out.rch q (List.mem_of_getElem? hq)
                obtain ⟨q, rfl⟩ := Int.eq_ofNat_of_zero_le hq0
                obtain ⟨g1, off, x, rfl, hx, c0, c1, c2, c3⟩ := h.gate (show q < gs.length by omega)
                have hxx := xx.trans he5
                replace c0 := cell_ex hxx c0
                replace c1 := cell_ex hxx c1
                replace c2 := cell_ex hxx c2
                replace c3 := cell_ex hxx c3
                have hgx : gAt gs (q : Int) = x := gAt_of (by rw [Int.toNat_natCast]; exact hx)
                have HR := Lib.hid (show ∀ m ∈ opnd x, Rch gs outs m from fun m hm => hqr.op (by rw [Int.toNat_natCast]; exact hx) hm)
                have HR2 := Lib.hid (show ∀ m ∈ opnd x, 0 ≤ m ∧ m < gs.length from Hop.out x (List.mem_of_getElem? hx))
                have HT := Lib.hid (show K.take (k + 1) = K.take k ++ [(q : Int)] by rw [List.take_add_one, hq]; rfl)
                have HG := Lib.hid hgx
                have hol := opnd_le x
                have cA := (d0.ex he5).cell 1 (v := .slice (some ⟨g1, off, none⟩) gs.length c) rfl
                clear hq hx hqr hgx
                go_wp2_with fail
                refine (crOperands_c x wr).mono ?_
                rintro e w6 ⟨_, rfl, ⟨V, vc, rfl, fi⟩, x6⟩
                have hV := fi.rd
                have hK6 := hK'.ex x6
                have hr6 := hr5.ex x6
                have he6 := he5.trans x6
                clear hK' hr5 he5 x6 fi c0 c1 c2 c3 cA cq
                go_wp2_with fail
                go_loopw [3, 6, 43] (fun kp ag i wi => ∃ (r : Nat) (K' : List Int) (C : Option Addr) (cc : Nat) (b : Bool), r ≤ (opnd x).length ∧ i = .int .i64 r ∧ kp = .slice C K'.length cc ∧ ag = .bool b ∧ Rd wi C K' ∧ K'.length ≤ cc ∧ Hid (KeepOk gs outs K') ∧ Hid (∀ j ∈ K, j ∈ K') ∧ Hid (∀ j ∈ K.take k, ∀ m ∈ opnd (gAt gs j), m ∈ K') ∧ Hid (∀ m ∈ (opnd x).take r, m ∈ K') ∧ Hid (b = false → K' = K) ∧ Hid (b = true → K.length < K'.length) ∧ Rd wi V (opnd x) ∧ Rd wi (some ⟨g5, 0, none⟩) K ∧ Ex W1 wi) (fun _ _ i _ => (opnd x).length - (intOf i).toNat)
                case atStart => exact ⟨0, K', C', cc', b, Nat.zero_le _, rfl, rfl, rfl, hK6, hcc', HK', HS, HC, Lib.hid (by simp), Hb0, Hb1, hV, hr6, he6⟩
                case round =>
                  clear hK6 hr6 he6 hV HK' HS HC Hb0 Hb1 hcc' hKl'
                  obtain ⟨r, K', C', cc', b, hr, rfl, rfl, rfl, hK', hcc', HK', HS, HC, HP, Hb0, Hb1, hV, hr5, he5⟩ := hrel
                  have hKl' := HK'.out.len
                  by_cases hlr : r < (opnd x).length
                  · obtain ⟨gV, oV, m, rfl, hm, _, cm⟩ := hV.at_ hlr
                    have hmm := List.mem_of_getElem? hm
                    have HK2 := Lib.hid (HK'.out.put (HR2.out m hmm) (HR.out m hmm))
                    have HS2 := Lib.hid (show ∀ j ∈ K, j ∈ putL K' m from fun j hj => putL_mem.2 (.inr (HS.out j hj)))
                    have HC2 := Lib.hid (show ∀ j ∈ K.take k, ∀ z ∈ opnd (gAt gs j), z ∈ putL K' m from fun j hj z hz => putL_mem.2 (.inr (HC.out j hj z hz)))
                    have HP2 := Lib.hid (show ∀ z ∈ (opnd x).take (r + 1), z ∈ putL K' m from fun z hz => by
                      rw [List.take_add_one, hm] at hz
                      rcases List.mem_append.1 hz with hz | hz
                      · exact putL_mem.2 (.inr (HP.out z hz))
                      · simp at hz; exact putL_mem.2 (.inl hz))
                    have hhas := l1Has_h C' cc' K' m wr hK'
                    have hput := fun W (y : Ex wr W) => l1Put_c C' cc' K' m W (hK'.ex y) hcc' (by omega)
                    clear hm hmm
                    by_cases hin : m ∈ K'
                    · have HE := Lib.hid (putL_in HK'.out.asc hin)
                      rw [HE.out] at HK2 HS2 HC2 HP2 hput
                      rw [decide_eq_true hin] at hhas
                      clear hin
                      cases b with
                      | true =>
                        go_wp2_with fail
                        refine (hput _ (Ex.refl _)).mono ?_
                        rintro e w7 ⟨C7, cc7, rfl, hK7, hcc7, x7⟩
                        go_wp2_with fail
                        go_roundw
                        case rel => exact ⟨r + 1, K', C7, cc7, true, by omega, by go_num, rfl, rfl, hK7, hcc7, HK2, HS2, HC2, HP2, Lib.hid (fun e => by cases e), Lib.hid (fun _ => Hb1.out trivial), hV.ex x7, hr5.ex x7, he5.trans x7⟩
                        case measure => simp [intOf]; omega
                      | false =>
                        go_wp2_with fail
                        refine hhas.mono ?_
                        rintro e w7 ⟨rfl, rfl⟩
                        go_wp2_with fail
                        refine (hput _ (Ex.refl _)).mono ?_
                        rintro e w7 ⟨C7, cc7, rfl, hK7, hcc7, x7⟩
                        go_wp2_with fail
                        go_roundw
                        case rel => exact ⟨r + 1, K', C7, cc7, false, by omega, by go_num, rfl, rfl, hK7, hcc7, HK2, HS2, HC2, HP2, Lib.hid (fun _ => Hb0.out trivial), Lib.hid (fun e => by cases e), hV.ex x7, hr5.ex x7, he5.trans x7⟩
                        case measure => simp [intOf]; omega
                    · have Hlen := Lib.hid (show K.length < (putL K' m).length by
                        rw [putL_len hin]
                        cases b with
                        | true => have := Hb1.out rfl; omega
                        | false => rw [Hb0.out rfl]; omega)
                      rw [decide_eq_false hin] at hhas
                      clear hin
                      cases b with
                      | true =>
                        go_wp2_with fail
                        refine (hput _ (Ex.refl _)).mono ?_
                        rintro e w7 ⟨C7, cc7, rfl, hK7, hcc7, x7⟩
                        go_wp2_with fail
                        go_roundw
                        case rel => exact ⟨r + 1, _, C7, cc7, true, by omega, by go_num, rfl, rfl, hK7, hcc7, HK2, HS2, HC2, HP2, Lib.hid (fun e => by cases e), Lib.hid (fun _ => Hlen.out), hV.ex x7, hr5.ex x7, he5.trans x7⟩
                        case measure => simp [intOf]; omega
                      | false =>
                        go_wp2_with fail
                        refine hhas.mono ?_
                        rintro e w7 ⟨rfl, rfl⟩
                        go_wp2_with fail
                        refine (hput _ (Ex.refl _)).mono ?_
                        rintro e w7 ⟨C7, cc7, rfl, hK7, hcc7, x7⟩
                        go_wp2_with fail
                        go_roundw
                        case rel => exact ⟨r + 1, _, C7, cc7, true, by omega, by go_num, rfl, rfl, hK7, hcc7, HK2, HS2, HC2, HP2, Lib.hid (fun e => by cases e), Lib.hid (fun _ => Hlen.out), hV.ex x7, hr5.ex x7, he5.trans x7⟩
                        case measure => simp [intOf]; omega
                  · obtain rfl : r = (opnd x).length := by omega
                    rw [List.take_length] at HP
                    have HC2 := Lib.hid (show ∀ j ∈ K.take (k + 1), ∀ z ∈ opnd (gAt gs j), z ∈ K' from fun j hj z hz => by
                      rw [HT.out] at hj
                      rcases List.mem_append.1 hj with hj | hj
                      · exact HC.out j hj z hz
                      · simp at hj; subst hj; rw [HG.out] at hz; exact HP.out z hz)
                    go_wp2_with fail
                    go_roundw
                    case rel => exact ⟨k + 1, K', C', cc', b, by omega, by go_num, rfl, rfl, hK', hcc', HK', HS, HC2, Hb0, Hb1, hr5, he5⟩
                    case measure => simp [intOf]; omega
              · obtain rfl : k = K.length := by omega
                rw [List.take_length] at HC
                go_wp2_with fail
                go_roundg f
                case measure => omega
                case rel => exact ⟨K', C', cc', b, rfl, rfl, hK', hcc', HK', Lib.hid (fun j hj => HS.out j (HO.out j hj)), Lib.hid (fun e j hj z hz => by have := Hb0.out e; subst this; exact HC.out j hj z hz), Lib.hid (fun e => by have := Hb1.out e; omega), he5⟩
        | false =>
          have HE := Lib.hid (HK.out.done Hop.out Hou.out HO.out (Hcl.out rfl))
          have hml := mkdL_asc (usedM gs outs)
          rw [HE.out] at hK hcc hKl HK
          have HL := Lib.hid (show prC ⟨n, gs, outs⟩ = kepC ⟨n, gs, outs⟩ (mkdL (usedM gs outs)) from rfl)
          have HKl := Lib.hid (congrArg List.length HE.out)
          rw [HKl.out]
          clear HO Hcl Hf HE HKl
          generalize mkdL (usedM gs outs) = l at *
          have d0 := d0.ex he
          have d1 := d1.ex he
          have xx := xx.trans he
          have cA := d0.cell 1 (v := .slice A gs.length c) rfl
          have hmk := run_make_ints gs.length (by omega) wr
          have hz := Own.new wr (List.replicate gs.length (0 : Int))
          have y4 := (Ex.refl wr).alloc (iObj (List.replicate gs.length (0 : Int)))
          go_wp2_with fail
          rw [show (wr.alloc (iObj (List.replicate gs.length (0 : Int)))) = wr.alloc (iObj (List.replicate gs.length (0 : Int))) from rfl]
          have hLo : l ≠ [] → ∀ a, C = some a → a.block < wr.heap.size := fun hne a e => hK.blk_lt hne a e
          have hL := hK.ex y4
          have d0 := d0.ex y4
          have d1 := d1.ex y4
          have xx := xx.trans y4
          have z4 := y4.size
          have hwr := xx.size
          have zwr := he.size
          have zxx := d1.lt
          obtain ⟨g, hg⟩ : ∃ g, wr.heap.size = g := ⟨_, rfl⟩
          have hzl := hz.lt
          rw [hg] at hz hLo hzl z4 zwr ⊢
          generalize wr.alloc (iObj (List.replicate gs.length (0 : Int))) = W4 at *
          clear hmk cA y4 hK he hg
          obtain ⟨L, rfl⟩ : ∃ q, q = C := ⟨_, rfl⟩
          go_loopw [65] (fun i wi => ∃ k : Nat, k ≤ l.length ∧ i = .int .i64 k ∧ Own wi g (toN gs.length l k) ∧ VB wi w.heap.size 29 #[.int .i64 n, .slice A gs.length c, .slice B outs.length d] ∧ VB wi (w.heap.size + 1) 29 #[.int .i64 0, .slice none 0 0, .slice none 0 0] ∧ Ex1 g W4 wi) (fun i _ => l.length - (intOf i).toNat)
          case atStart => exact ⟨0, Nat.zero_le _, rfl, hz, d0, d1, Ex1.refl _ _⟩
          case round =>
            clear hz d0 d1
            obtain ⟨k, hk, rfl, ho1, hD0, hD1, he⟩ := hrel
            have hLr : Rd wr L l := hL.keep_n (fun hne a e hl => he.block _ hl (by intro e2; injection e2 with e2; have := hLo hne a e; omega))
            by_cases hlt : k < l.length
            · obtain ⟨gL, oL, q, rfl, hq, hgq, cq⟩ := hLr.at_ hlt
              obtain ⟨hq0, hq1⟩ := HK.out.rg q (List.mem_of_getElem? hq)
              obtain ⟨q, rfl⟩ := Int.eq_ofNat_of_zero_le hq0
              have hto : toN gs.length l (k + 1) = (toN gs.length l k).set q k := by rw [toN, List.getD_eq_getElem?_getD, hq]; rfl
              have Hto := Lib.hid hto
              have ho2 := ho1.set_ q (k : Int)
              have E2 : Ex1 g wr (wr.setCell ⟨g, q, none⟩ (.int .i64 k)) := (Ex1.refl _ _).setCell rfl _
              obtain ⟨y, hy⟩ : ∃ y, (toN gs.length l k)[q]? = some y := ⟨_, List.getElem?_eq_getElem (by rw [toN_len]; omega)⟩
              have cy := ho1.cell hy
              have fy := ho1.frozen q
              clear hq hto hy
              go_wp2_with fail
              go_roundw
              case rel => exact ⟨k + 1, by omega, by go_num, by rw [Hto.out]; exact ho2, hD0.ex1 E2 (by omega), hD1.ex1 E2 (by omega), he.trans E2⟩
              case measure => simp [intOf]; omega
            · obtain rfl : k = l.length := by omega
              have hll := hKl
              have Hlr := Lib.hid HK.out.rg
              have htol : (toN gs.length l l.length).length = gs.length := toN_len _ _ _
              obtain ⟨to, hto⟩ : ∃ to, toN gs.length l l.length = to := ⟨_, rfl⟩
              have Hto := Lib.hid hto
              rw [hto] at ho1 htol
              clear hto
              obtain ⟨mo, hmo⟩ : ∃ mo, outs.map (fun k => to.getD k.toNat 0) = mo := ⟨_, rfl⟩
              have Hmo := Lib.hid hmo
              have xw := xx.ex1 he (by omega)
              have Hm : ∀ W, Ex wr W → Calls Tryd.prog 87 #[.slice B outs.length d, .slice (some ⟨g, 0, none⟩) gs.length gs.length] W fun e w' => LIo W mo e w' := fun W x => by
                have := hgList_c B d outs (some ⟨g, 0, none⟩) gs.length to W (ho.ex (xw.trans x)) ((ho1.ex x).rd (by omega)) (by rw [htol]; exact Hou.out)
                rw [hmo, htol] at this
                exact this
              clear hmo
              have hwz := he.size'
              have q0 := hD0.cell 0 (v := .int .i64 n) rfl
              have q2 := hD0.cell 2 (v := .slice B outs.length d) rfl
              have HS : ∀ W, Ex wr W → (Ex wr W ∧ W.cell? ⟨w.heap.size, 0, none⟩ = some (.int .i64 n) ∧ W.cell? ⟨w.heap.size, 2, none⟩ = some (.slice B outs.length d)) := fun W h => ⟨h, cell_ex h q0, cell_ex h q2⟩
              go_wp2_with fail
              go_cut [14] from 75 (fun s9 W => ∃ (O : Nat) (Z : Option Addr) (zc : Nat), s9 = .pointer (some ⟨O, 0, none⟩) ∧ VB W O 29 #[.int .i64 n, .slice none 0 0, .slice Z mo.length zc] ∧
                (∃ lo hi, OI W lo hi (.slice Z mo.length zc) mo ∧ wr.heap.size ≤ lo ∧ hi ≤ W.heap.size ∧ (O < lo ∨ hi ≤ O)) ∧ wr.heap.size ≤ O ∧ Ex wr W)
              case first =>
                have eA := (Ex.refl wr).drew
                have eB := ((Ex.refl wr).alloc (.cells #[.int .i64 0, .slice none 0 0, .slice none 0 0] 29)).drew
                have vB := VB.new wr 29 #[.int .i64 0, .slice none 0 0, .slice none 0 0]
                have s1 : (wr.alloc (.cells #[.int .i64 0, .slice none 0 0, .slice none 0 0] 29)).heap.size = wr.heap.size + 1 := by simp
                go_region_held3 (fun W => Ex wr W ∧ W.cell? ⟨w.heap.size, 0, none⟩ = some (.int .i64 n) ∧ W.cell? ⟨w.heap.size, 2, none⟩ = some (.slice B outs.length d)) (first
                  | (exact HS _ (ex_stores3 x7 (by omega))) | (exact HS _ (x7.alloc _)) | (exact HS _ x7) | (exact HS _ eB) | (exact HS _ ((Ex.refl wr).alloc _)) | (exact HS _ eA) | (exact HS _ (Ex.refl wr))) (first
                  | (go_at_call 87
                     have hb := (‹Ex wr _ ∧ _›).1
                     refine (Hm _ hb).mono ?_
                     rintro e w7 ⟨_, rfl, ⟨Z, zc, rfl, fz⟩, x7'⟩
                     have x7 := hb.trans x7'
                     have hz7 := x7'.size
                     have hzb := hb.size
                     try have vC := VB.ex (w := (wr.alloc (.cells #[.int .i64 0, .slice none 0 0, .slice none 0 0] 29)).drew) vB x7'
                     try have c0 := vC.cell 0 (v := .int .i64 0) rfl
                     try have c1 := vC.cell 1 (v := .slice none 0 0) rfl
                     try have c2 := vC.cell 2 (v := .slice none 0 0) rfl
                     try have f0 := vC.frozen 0
                     try have f1 := vC.frozen 1
                     try have f2 := vC.frozen 2
                     clear hb))
                all_goals
                  go_wp2_with fail
                  go_meet
                  first
                  | exact ⟨_, _, _, rfl, VB.new _ _ _, ⟨_, _, OI.ex ⟨Z, zc, rfl, fz⟩ ((Ex.refl _).alloc _), by omega, ((Ex.refl w7).alloc _).size, .inr (Nat.le_refl _)⟩, by omega, x7.alloc _⟩
                  | (obtain ⟨dd, zz⟩ := vC.st3 (.int .i64 n) (.slice none 0 0) (.slice Z mo.length zc)
                     have s2 : (wr.alloc (.cells #[.int .i64 0, .slice none 0 0, .slice none 0 0] 29)).drew.heap.size = wr.heap.size + 1 := s1
                     exact ⟨_, _, _, rfl, dd, ⟨_, _, OI.e1 ⟨Z, zc, rfl, fz⟩ zz (by omega), by omega, zz.size, by omega⟩, by omega, x7.ex1 zz (by omega)⟩)
              case rest =>
                obtain ⟨W6, rfl⟩ : ∃ q, q = wc := ⟨_, rfl⟩
                obtain ⟨O, Z, zc, rfl, vO, ⟨lo, hi, oZ, hlo, hhi, hOz⟩, hO, x6⟩ := hcut
                clear HS Hm q0 q2
                have D0 := hD0.ex x6
                have D1 := hD1.ex x6
                have oT := ho1.ex x6
                have X6 := xw.trans x6
                have hL6 := hLr.ex x6
                have hz6 := x6.size
                have hD1l := hD1.lt
                clear hD0 hD1 he hLr
                go_wp2_with fail
                have hW6 := Nat.le_refl W6.heap.size
                have hg0 := ALG.nil W6 wr.heap.size
                obtain ⟨V, rfl⟩ : ∃ q, q = wr := ⟨_, rfl⟩
                go_loopw [84] (fun i wi => ∃ (k : Nat) (Y : Option Addr) (N C : Nat), k ≤ l.length ∧ i = .int .i64 k ∧ Own wi g to ∧
                  VB wi w.heap.size 29 #[.int .i64 n, .slice A gs.length c, .slice B outs.length d] ∧ VB wi (w.heap.size + 1) 29 #[.int .i64 0, .slice none 0 0, .slice none 0 0] ∧
                  VB wi O 29 #[.int .i64 n, .slice Y N C, .slice Z mo.length zc] ∧ ALG wi V.heap.size (.slice Y N C) ((l.take k).map (fun k => movG to (gAt gs k))) ∧
                  OI wi lo hi (.slice Z mo.length zc) mo ∧ (∀ k, (Value.slice Y N C).ownBlock = some k → k < lo ∨ hi ≤ k) ∧ (Value.slice Y N C).ownBlock ≠ some O ∧ Rd wi L l ∧ Ex w wi ∧ W6.heap.size ≤ wi.heap.size) (fun i _ => l.length - (intOf i).toNat)
                case atStart => exact ⟨0, none, 0, 0, Nat.zero_le _, rfl, oT, D0, D1, vO, hg0, oZ, (fun k e => by cases e), (fun e => by cases e), hL6, X6, hW6⟩
                case round =>
                  clear hg0 vO oZ D0 D1 oT hL6
                  obtain ⟨k, Y, N, C, hk, rfl, ho, hD0, hD1, hvO, hgO, hoZ, hgz, nO, hLr, he, hzw⟩ := hrel
                  by_cases hlt : k < l.length
                  · obtain ⟨gL, oL, q, rfl, hq, hgq, cq⟩ := hLr.at_ hlt
                    obtain ⟨hq0, hq1⟩ := Hlr.out q (List.mem_of_getElem? hq)
                    obtain ⟨q, rfl⟩ := Int.eq_ofNat_of_zero_le hq0
                    obtain ⟨g1, off, x, rfl, hx, c0, c1, c2, c3⟩ := h.gate (show q < gs.length by omega)
                    have hglt := cell_lt c0
                    dsimp only at hglt
                    replace c0 := cell_ex he c0
                    replace c1 := cell_ex he c1
                    replace c2 := cell_ex he c2
                    replace c3 := cell_ex he c3
                    have HFL := Lib.hid (show (l.take (k + 1)).map (fun k => movG to (gAt gs k)) = (l.take k).map (fun k => movG to (gAt gs k)) ++ [movG to x] by
                      rw [List.take_add_one, hq, List.map_append]
                      simp [gAt_of (k := (q : Int)) (g := x) (by rw [Int.toNat_natCast]; exact hx)])
                    have hopx := Hop.out x (List.mem_of_getElem? hx)
                    have hflen : (l.take k).length ≤ 1000 := by rw [List.length_take]; omega
                    clear hx hq
                    obtain ⟨kd, ka, kb, vl⟩ := x
                    dsimp only at c0 c1 c2 c3 HFL hopx
                    have hwl := he.size
                    have cG := hvO.cell 1 (v := .slice Y N C) rfl
                    have cA := hD0.cell 1 (v := .slice (some ⟨g1, off, none⟩) gs.length c) rfl
                    have hcm := crMoved_c ⟨kd, ka, kb, vl⟩ (some ⟨g, 0, none⟩) gs.length to wr.drew ((ho.ex (Ex.refl wr).drew).rd (by omega)) (by rw [htol]; exact hopx)
                    rw [htol] at hcm
                    unfold gtV at hcm
                    obtain ⟨mg, hmg⟩ : ∃ m, movG to ⟨kd, ka, kb, vl⟩ = m := ⟨_, rfl⟩
                    rw [hmg] at hcm HFL
                    clear hmg
                    go_wp2_with fail
                    go_region_law (first
                      | (refine step_append_run (vs := .slice Y N C) (vx := .slice (some ⟨w8.heap.size, 0, none⟩) 1 1) rfl _ _ _ rfl rfl rfl (by with_reducible exact hrun9) ?_)
                      | (go_simp
                         go_at_call 88
                         refine hcm.mono ?_
                         rintro e w8 ⟨rfl, x8⟩
                         replace x8 := ((Ex.refl wr).drew).trans x8
                         have cG8 := cell_ex x8 cG
                         have cG9 := cell_ex (((Ex.refl w8).alloc (.cells #[.int .i64 mg.kd, .int .i64 mg.a, .int .i64 mg.b, .int .i64 mg.vl] 103))) cG8
                         have hz8 := x8.size
                         obtain ⟨v9, w9, hrun9, hg9, hI9, ho9, hE9⟩ := galp 27 w8 V.heap.size _ _ mg (hgO.ex x8) (by omega) (by rw [List.length_map]; omega)
                         obtain ⟨Y9, N9, C9, rfl⟩ := (hg9.og (by rw [List.length_append, List.length_map, List.length_singleton]; omega)).rd.form
                         have hv8 := hvO.ex x8
                         have hv9 : VB w9 O 29 #[.int .i64 n, .slice Y N C, .slice Z mo.length zc] := (hE9.block O hv8.lt (fun e => nO e.symm)).trans hv8
                         have cG10 := hv9.cell 1 (v := .slice Y N C) rfl
                         have fG10 := hv9.frozen 1))
                    all_goals
                      have E9 : Ex1 O w9 (w9.setCell ⟨O, 1, none⟩ (.slice Y9 N9 C9)) := (Ex1.refl _ _).setCell rfl _
                      have vF := hv9.set_ 1 (.slice Y9 N9 C9)
                      have hOl := hv8.lt
                      have n9 : (Value.slice Y9 N9 C9).ownBlock ≠ some O := fun e => by
                        rcases ho9 with h | ⟨q, h, hq⟩
                        · rw [h] at e; exact nO e
                        · rw [h] at e; injection e with e; omega
                      have m9 : ∀ k, (Value.slice Y9 N9 C9).ownBlock = some k → k < lo ∨ hi ≤ k := fun k e => by
                        rcases ho9 with h | ⟨q, h, hq⟩
                        · rw [h] at e; exact hgz k e
                        · rw [h] at e; injection e with e; omega
                      have gF := hg9.k1 E9 n9
                      rw [← HFL.out] at gF
                      have z9 := hI9.size
                      have zE := E9.size
                      have keep : ∀ (q : Nat) (t : TypeId) (cs : Array Value), VB w8 q t cs → q < V.heap.size → VB (w9.setCell ⟨O, 1, none⟩ (.slice Y9 N9 C9)) q t cs := fun q t cs hq hlt => (hq.iv hI9 (by omega)).ex1 E9 (by omega)
                      have oZ8 := hoZ.ex x8
                      have oZ9 : OI w9 lo hi (.slice Z mo.length zc) mo := oZ8.keep (fun k h1 h2 h3 => hE9.block k h3 (fun e => by have := hgz k e.symm; omega))
                      have oZF := oZ9.e1 E9 (by omega)
                      have o9 : Own (w9.setCell ⟨O, 1, none⟩ (.slice Y9 N9 C9)) g to := by
                        have h8 := ho.ex x8
                        have h9 : Own w9 g to := by
                          obtain ⟨cur, hc, hx⟩ := h8
                          exact ⟨cur, (hI9.block g (by omega) (by omega)).trans hc, hx⟩
                        exact h9.ex1 E9 (by omega)
                      have hL9 : Rd (w9.setCell ⟨O, 1, none⟩ (.slice Y9 N9 C9)) (some ⟨gL, oL, none⟩) l := (hLr.ex x8).keep_n fun hne a e hl => by
                        have h1 := hLo hne a e
                        have h2 : (w9.setCell ⟨O, 1, none⟩ (.slice Y9 N9 C9)).heap[a.block]? = w9.heap[a.block]? := E9.block a.block (by omega) (by intro e2; injection e2 with e2; omega)
                        rw [h2]
                        exact hI9.block a.block hl (by omega)
                      have eF := ((he.trans x8).iv hI9 (by omega)).ex1 E9 (by omega)
                      have k0 := keep _ _ _ (hD0.ex x8) (by omega)
                      have k1 := keep _ _ _ (hD1.ex x8) (by omega)
                      clear keep c0 c1 c2 c3 cG cG8 cG9 cG10 fG10 hcm hrun9 cA cq
                      go_wp2_with fail
                      go_roundw
                      case rel => exact ⟨k + 1, Y9, N9, C9, by omega, by go_num, o9, k0, k1, vF, gF, oZF, m9, n9, hL9, eF, by omega⟩
                      case measure => simp [intOf]; omega
                  · obtain rfl : k = l.length := by omega
                    rw [List.take_length] at hgO
                    have hlg : (l.map (fun k => movG to (gAt gs k))).length ≤ 1048576 := by rw [List.length_map]; omega
                    obtain ⟨ga, gb, hog, hga, hgb, hgd⟩ := hgO.og1 hlg (by omega)
                    have OC : OCirc wr V.heap.size wr.heap.size (.slice Y N C) (.slice Z mo.length zc) (prC ⟨n, gs, outs⟩) := by
                      rw [HL.out]
                      refine ⟨ga, gb, lo, hi, ?_, ?_, hga, hgb, hlo, by omega, ?_⟩
                      · show OG _ _ _ _ (l.map (fun k => movG (toN gs.length l l.length) (gAt gs k)))
                        rw [Hto.out]
                        exact hog
                      · show OI _ _ _ _ (outs.map (fun k => (toN gs.length l l.length).getD k.toNat 0))
                        rw [Hto.out, Hmo.out]
                        exact hoZ
                      · rcases hgd with h | ⟨q, e, rfl, rfl⟩
                        · omega
                        · have := hgz _ e; omega
                    obtain ⟨dd, zz⟩ := hD1.st3 (.int .i64 n) (.slice Y N C) (.slice Z mo.length zc)
                    have s0 := hvO.cell 0 (v := .int .i64 n) rfl
                    have s1 := hvO.cell 1 (v := .slice Y N C) rfl
                    have s2 := hvO.cell 2 (v := .slice Z mo.length zc) rfl
                    have r0 := hD1.cell 0 (v := .int .i64 0) rfl
                    have r1 := hD1.cell 1 (v := .slice none 0 0) rfl
                    have r2 := hD1.cell 2 (v := .slice none 0 0) rfl
                    have f0 := hD1.frozen 0
                    have f1 := hD1.frozen 1
                    have f2 := hD1.frozen 2
                    have C0 := dd.cell 0 (v := .int .i64 n) rfl
                    have C1 := dd.cell 1 (v := .slice Y N C) rfl
                    have C2 := dd.cell 2 (v := .slice Z mo.length zc) rfl
                    have eF := he.ex1 zz (by omega)
                    have xwz := xw.size
                    go_wp2_with fail
                    refine bodyPost_ret (v := .agg #[.int .i64 n, .slice Y N C, .slice Z mo.length zc]) (by simp [results, Tryd.results41, go_sem, C0, C1, C2]) rfl ?_
                    have o7 := OC.e1 zz (by omega)
                    have zs := zz.size
                    exact ⟨_, _, rfl, o7.more (by omega) (by omega), eF⟩
end Go.Proofs.YtgblnkadmieflaaDoor
