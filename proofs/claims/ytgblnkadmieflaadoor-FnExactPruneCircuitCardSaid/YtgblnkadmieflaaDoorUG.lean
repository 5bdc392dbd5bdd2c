/- Gates: lists of gates in the uniform words; the laws' helpers on them. -/
import Derived.Test.YtgblnkadmieflaaDoorUS
import Derived.RegionCalls
import Derived.Deep.RegionWith
import Derived.Deep.RegionHeld3
namespace Go.Proofs.YtgblnkadmieflaaDoor
set_option maxRecDepth 100000
open Go Go.RowKit
structure Gt where
  kd : Int
  a : Int
  b : Int
  vl : Int
def gtC (x : Gt) : List Value := [.int .i64 x.kd, .int .i64 x.a, .int .i64 x.b, .int .i64 x.vl]
def EG : EK Gt where
  k := 4
  R := fun _ vs x => vs = gtC x
  O := fun _ _ _ vs x => vs = gtC x
  tot := fun _ => 4
  mkE := fun k _ => ⟨k, k + 1, k + 2, k + 3⟩
  rlen := fun h => by subst h; rfl
  ex := fun h _ => h
  rd := fun h => h
  keep := fun h _ => h
  nn := fun _ => by omega
  tmk := fun _ _ => rfl
def RG (w : World) (v : Value) (x : List Gt) : Prop := RS EG w v x
def OG (w : World) (a b : Nat) (v : Value) (x : List Gt) : Prop := OS EG 103 w a b v x
def totG (x : List Gt) : Int := totS EG x
def mkG (k : Int) (x : List Gt) : List Gt := mkS EG k x
theorem totG_nn (x : List Gt) : 0 ≤ totG x := totS_nn EG x
theorem RG.ex {w w' : World} {v : Value} {x : List Gt} (h : RG w v x) (he : Ex w w') : RG w' v x := RS.ex h he
theorem RG.tot {w : World} {v : Value} {x : List Gt} (h : RG w v x) : totG x ≤ 1125899906842624 := RS.tot h
theorem RG.form {w : World} {v : Value} {x : List Gt} (h : RG w v x) : ∃ A n c, v = .slice A n c := RS.form h
theorem OG.rd {w : World} {a b : Nat} {v : Value} {x : List Gt} (h : OG w a b v x) : RG w v x := OS.rd h
theorem OG.ex {w w' : World} {a b : Nat} {v : Value} {x : List Gt} (h : OG w a b v x) (he : Ex w w') : OG w' a b v x := OS.ex h he
theorem OG.iv {w w' : World} {a b a' b' : Nat} {v : Value} {x : List Gt} (h : OG w a b v x) (k : ExI a' b' w w') (hd : b ≤ a' ∨ b' ≤ a) : OG w' a b v x := OS.iv h k hd
theorem OG.e1 {w w' : World} {a b g : Nat} {v : Value} {x : List Gt} (h : OG w a b v x) (k : Ex1 g w w') (hd : g < a ∨ b ≤ g) : OG w' a b v x := OS.e1 h k hd
theorem OG.more {w : World} {a b a' b' : Nat} {v : Value} {x : List Gt} (h : OG w a b v x) (ha : a' ≤ a) (hb : b ≤ b') : OG w a' b' v x := OS.more h ha hb
theorem RdS.gate {w : World} {A : Option Addr} {xs : List Gt} (h : RdS EG w A xs) {j : Nat} (hj : j < xs.length) :
    ∃ g off x, A = some ⟨g, off, none⟩ ∧ xs[j]? = some x ∧ w.cell? ⟨g, off + j * 4, none⟩ = some (.int .i64 x.kd) ∧ w.cell? ⟨g, off + j * 4 + 1, none⟩ = some (.int .i64 x.a) ∧ w.cell? ⟨g, off + j * 4 + 2, none⟩ = some (.int .i64 x.b) ∧ w.cell? ⟨g, off + j * 4 + 3, none⟩ = some (.int .i64 x.vl) := by
  obtain ⟨g, off, vs, x, hA, hx, hc, rfl⟩ := h.at_ hj
  exact ⟨g, off, x, hA, hx, hc 0 _ rfl, hc 1 _ rfl, hc 2 _ rfl, hc 3 _ rfl⟩
theorem gateInfo : (Tryd.prog.info? 103).map (fun i => (i.zero, i.size, i.bytes)) = some (some (.agg #[.int .i64 0, .int .i64 0, .int .i64 0, .int .i64 0]), 4, 32) := by kernel_rfl
theorem run_make_gates (n : Nat) (hn : n ≤ 1099511627776) (w : World) :
    (Instr.makeSlice 27 (.int .i64 (n : Int)) (.int .i64 (n : Int))).run Tryd.prog w = .ok (.slice (some ⟨w.heap.size, 0, none⟩) n n) (w.alloc (.cells ((List.replicate n (gtC ⟨0, 0, 0, 0⟩)).flatten).toArray 103)) := by
  obtain ⟨i, hi, hz, hs, hb⟩ := info_parts gateInfo
  have hr := run_make (P := Tryd.prog) w 27 103 i _ Tryd.underlying27 hi hz .i64 .i64 n n (by omega) (by omega) (by rw [hb]; omega) (by omega)
  simp only [Int.toNat_natCast, hs] at hr
  rw [hr]
  have := made_flat (gtC ⟨0, 0, 0, 0⟩) (by decide) n
  rw [show (gtC ⟨0, 0, 0, 0⟩).length = 4 from rfl] at this
  rw [← this]
  rfl
theorem toGate_c (x : Gt) (w : World) : Calls Tryd.prog 89 #[.agg #[.int .i64 x.kd, .int .i64 x.a, .int .i64 x.b, .int .i64 x.vl]] w fun e w' => e = .returned (.agg #[.int .i64 x.kd, .int .i64 x.a, .int .i64 x.b, .int .i64 x.vl]) ∧ Ex w w' := by
  obtain ⟨x0, x1, x2, x3⟩ := x
  dsimp only
  go_enter Tryd.func89, Tryd.ntmps89
  go_wp2_with fail
  refine bodyPost_ret (v := .agg #[.int .i64 x0, .int .i64 x1, .int .i64 x2, .int .i64 x3]) (by simp [results, Tryd.results89, go_sem]) rfl ?_
  exact ⟨rfl, (((Ex.refl w).alloc _).alloc _).alloc _⟩
theorem eqGate_c (x : Gt) (w : World) : Calls Tryd.prog 101 #[.agg #[.int .i64 x.kd, .int .i64 x.a, .int .i64 x.b, .int .i64 x.vl], .agg #[.int .i64 x.kd, .int .i64 x.a, .int .i64 x.b, .int .i64 x.vl]] w fun e w' => e = .returned (.bool true) ∧ Ex w w' := by
  obtain ⟨x0, x1, x2, x3⟩ := x
  dsimp only
  go_enter Tryd.func101, Tryd.ntmps101
  go_wp2_with fail
  go_ret
  exact ⟨rfl, ((Ex.refl w).alloc _).alloc _⟩
theorem szGateS_q (A : Option Addr) (n c : Nat) (w : World) (hm : n ≤ 9223372036854775807) : QS 37 w (.slice A n c) (n : Int) := fun u l _ h0 hl => by
  by_cases hb : l < (n : Int)
  · rw [if_pos hb]
    go_enter Tryd.func37, Tryd.ntmps37
    go_wp2
    go_ret
    exact ⟨rfl, Ex.refl _⟩
  · rw [if_neg hb]
    go_enter Tryd.func37, Tryd.ntmps37
    go_wp2
    go_ret
    exact ⟨rfl, Ex.refl _⟩
set_option maxHeartbeats 2000000 in
theorem toGateS_u (x : List Gt) (v : Value) (w : World) (h : RG w v x) :
    Calls Tryd.prog 42 #[v] w fun e w' => ∃ y, e = .returned y ∧ OG w' w.heap.size w'.heap.size y x ∧ Ex w w' := by
  obtain ⟨⟨A, c, rfl, h⟩, ht⟩ := h
  have hl := h.1
  have hmk := fun W => run_make_gates x.length hl W
  have v0 := VB.new w 103 ((List.replicate x.length (gtC ⟨0, 0, 0, 0⟩)).flatten).toArray
  have he0 := (Ex.refl w).alloc (.cells ((List.replicate x.length (gtC ⟨0, 0, 0, 0⟩)).flatten).toArray 103)
  go_enter Tryd.func42, Tryd.ntmps42
  go_wp2
  go_loopw [4] (fun i wr => ∃ k : Nat, k ≤ x.length ∧ i = .int .i64 k ∧ VB wr w.heap.size 103 (((x.take k).map gtC ++ List.replicate (x.length - k) (gtC ⟨0, 0, 0, 0⟩)).flatten).toArray ∧ Ex w wr) (fun i _ => x.length - (intOf i).toNat)
  case atStart => exact ⟨0, Nat.zero_le _, rfl, by simpa using v0, he0⟩
  case round =>
    obtain ⟨k, hk, rfl, hv, he⟩ := hrel
    by_cases hlt : k < x.length
    · obtain ⟨g, off, r, rfl, hr, c0, c1, c2, c3⟩ := (h.ex he).gate hlt
      have Hr := Lib.hid hr
      clear hr
      go_wp2_with fail
      refine (toGate_c r wr).mono ?_
      rintro e w1 ⟨rfl, x1⟩
      have v1 := hv.ex x1
      have Hf : ((x.take k).map gtC).flatten.length = k * 4 := by
        rw [flatten_len (k := 4) (fun u hu => by obtain ⟨y, _, rfl⟩ := List.mem_map.1 hu; rfl), List.length_map, List.length_take]; congr 1; omega
      rw [show x.length - k = (x.length - (k + 1)) + 1 by omega, List.replicate_succ] at v1
      have HH := Lib.hid Hf
      clear Hf hv
      have q : ∀ i, i < 4 → w1.cell? ⟨w.heap.size, k * 4 + i, none⟩ = some (.int .i64 0) := fun i hi => v1.cell (k * 4 + i) (by
        rw [List.getElem?_toArray, List.flatten_append, List.getElem?_append_right (by rw [HH.out]; omega), HH.out, show k * 4 + i - k * 4 = i by omega, List.flatten_cons, List.getElem?_append_left (by show i < 4; exact hi)]
        match i, hi with
        | 0, _ => rfl
        | 1, _ => rfl
        | 2, _ => rfl
        | 3, _ => rfl)
      have q0 : w1.cell? ⟨w.heap.size, k * 4, none⟩ = some (.int .i64 0) := q 0 (by omega)
      have q1 := q 1 (by omega)
      have q2 := q 2 (by omega)
      have q3 := q 3 (by omega)
      have z0 := v1.frozen (k * 4)
      have z1 := v1.frozen (k * 4 + 1)
      have z2 := v1.frozen (k * 4 + 2)
      have z3 := v1.frozen (k * 4 + 3)
      clear q
      go_wp2_with fail
      go_roundw
      case rel =>
        refine ⟨k + 1, by omega, by go_num, ?_, ((((he.trans x1).setCell (Nat.le_refl _) _).setCell (Nat.le_refl _) _).setCell (Nat.le_refl _) _).setCell (Nat.le_refl _) _⟩
        have hp := flat_put4 (rest := List.replicate (x.length - (k + 1)) (gtC ⟨0, 0, 0, 0⟩)) HH.out (.int .i64 0) (.int .i64 0) (.int .i64 0) (.int .i64 0) (.int .i64 r.kd) (.int .i64 r.a) (.int .i64 r.b) (.int .i64 r.vl)
        rw [List.take_add_one, Hr.out, List.map_append, List.append_assoc]
        have h4 := (((v1.set_ (k * 4) (.int .i64 r.kd)).set_ (k * 4 + 1) (.int .i64 r.a)).set_ (k * 4 + 2) (.int .i64 r.b)).set_ (k * 4 + 3) (.int .i64 r.vl)
        simp only [List.setIfInBounds_toArray] at h4
        rw [show gtC ⟨0, 0, 0, 0⟩ = [.int .i64 0, .int .i64 0, .int .i64 0, .int .i64 0] from rfl] at h4 hp
        rw [hp] at h4
        exact h4
      case measure => simp [intOf] <;> omega
    · obtain rfl : k = x.length := by omega
      go_wp2
      go_ret
      refine ⟨_, rfl, ⟨⟨_, _, rfl, ?_⟩, ht⟩, he⟩
      rw [List.take_length, Nat.sub_self, List.replicate_zero, List.append_nil] at hv
      refine OwS.of_flat hl (us := x.map gtC) (by simp) (fun u hu => by obtain ⟨y, _, rfl⟩ := List.mem_map.1 hu; rfl) hv (fun _ => wr.heap.size) (fun _ => w.heap.size) (fun j y vs hj hvs => ⟨?_, he.size, he.size, .inl hv.lt⟩) (fun _ _ _ _ _ => .inl he.size) (Nat.le_refl _) hv.lt
      rw [List.getElem?_map, hj] at hvs
      injection hvs with hvs
      exact hvs.symm
theorem eqGateS_u (x : List Gt) (v u : Value) (w : World) (h : RG w v x) (h' : RG w u x) :
    Calls Tryd.prog 47 #[v, u] w fun e w' => e = .returned (.bool true) ∧ Ex w w' := by
  obtain ⟨⟨A, c, rfl, h⟩, _⟩ := h
  obtain ⟨⟨A', c', rfl, h'⟩, _⟩ := h'
  have hl := h.1
  go_enter Tryd.func47, Tryd.ntmps47
  go_wp2
  go_loopw [5] (fun i wr => ∃ k : Nat, k ≤ x.length ∧ i = .int .i64 k ∧ Ex w wr) (fun i _ => x.length - (intOf i).toNat)
  case atStart => exact ⟨0, Nat.zero_le _, rfl, Ex.refl w⟩
  case round =>
    obtain ⟨k, hk, rfl, he⟩ := hrel
    by_cases hlt : k < x.length
    · obtain ⟨g, off, r, rfl, hr, c0, c1, c2, c3⟩ := (h.ex he).gate hlt
      obtain ⟨g', off', r', rfl, hr', d0, d1, d2, d3⟩ := (h'.ex he).gate hlt
      obtain rfl : r = r' := by rw [hr] at hr'; injection hr'
      clear hr hr'
      go_wp2_with fail
      go_region_held3 (fun W => W.cell? ⟨g, off + k * 4, none⟩ = some (.int .i64 r.kd) ∧ W.cell? ⟨g, off + k * 4 + 1, none⟩ = some (.int .i64 r.a) ∧ W.cell? ⟨g, off + k * 4 + 2, none⟩ = some (.int .i64 r.b) ∧ W.cell? ⟨g, off + k * 4 + 3, none⟩ = some (.int .i64 r.vl) ∧ W.cell? ⟨g', off' + k * 4, none⟩ = some (.int .i64 r.kd) ∧ W.cell? ⟨g', off' + k * 4 + 1, none⟩ = some (.int .i64 r.a) ∧ W.cell? ⟨g', off' + k * 4 + 2, none⟩ = some (.int .i64 r.b) ∧ W.cell? ⟨g', off' + k * 4 + 3, none⟩ = some (.int .i64 r.vl)) (first | (exact ⟨cell_ex x1 c0, cell_ex x1 c1, cell_ex x1 c2, cell_ex x1 c3, cell_ex x1 d0, cell_ex x1 d1, cell_ex x1 d2, cell_ex x1 d3⟩) | (exact ⟨c0, c1, c2, c3, d0, d1, d2, d3⟩)) (first
        | (go_at_call 101
           refine (eqGate_c r _).mono ?_
           rintro e w1 ⟨rfl, x1⟩))
      all_goals go_wp2
      all_goals exact ⟨⟨k + 1, by omega, by go_num, he.drew.trans x1⟩, by simp [intOf] <;> omega⟩
    · obtain rfl : k = x.length := by omega
      go_wp2
      go_ret
      exact ⟨rfl, he⟩
set_option maxHeartbeats 2000000 in
theorem markGateS_u (lo hi : Nat) (x : List Gt) (v : Value) (k : Int) (w : World) (h : OG w lo hi v x) (hb : hi ≤ w.heap.size) (hk0 : 0 ≤ k) (hk : k + totG x ≤ 4611686018427387904) :
    Calls Tryd.prog 48 #[v, .int .i64 k] w fun e w' => e = .returned (.int .i64 (k + totG x)) ∧ OG w' lo hi v (mkG k x) ∧ ExI lo hi w w' := by
  obtain ⟨⟨A, c, rfl, h⟩, ht⟩ := h
  have hl := h.1
  go_enter Tryd.func48, Tryd.ntmps48
  go_wp2
  go_loopw [1, 5] (fun q i wr => ∃ j : Nat, j ≤ x.length ∧ q = .int .i64 (k + totS EG (x.take j)) ∧ i = .int .i64 j ∧ OwS EG 103 wr lo hi A ((mkS EG k x).take j ++ x.drop j) ∧ ExI lo hi w wr) (fun _ i _ => x.length - (intOf i).toNat)
  case atStart => exact ⟨0, Nat.zero_le _, by simp [totS], rfl, by simpa using h, ExI.refl _ _ _⟩
  case round =>
    obtain ⟨j, hj, rfl, rfl, hf, he⟩ := hrel
    by_cases hlt : j < x.length
    · obtain ⟨r, hr⟩ : ∃ r, x[j]? = some r := ⟨_, List.getElem?_eq_getElem hlt⟩
      have hml : ((mkS EG k x).take j).length = j := by rw [List.length_take, mkS_len]; omega
      have hr2 : ((mkS EG k x).take j ++ x.drop j)[j]? = some r := by rw [List.getElem?_append_right (by omega), hml, Nat.sub_self, List.getElem?_drop]; simpa using hr
      obtain ⟨g, off, vs, a, b, cur, rfl, hh, hc, rfl, hg1, hg2, ha, hb', hd, hset⟩ := hf.row hr2
      have s1 := totS_nn EG (x.take j)
      have s2 := totS_take_succ EG hr
      have s3 := totS_take_le EG x (j + 1)
      have e4 : EG.tot r = 4 := rfl
      rw [e4] at s2
      have HS := Lib.hid (mkS_step EG k x j r hr)
      have S2 := Lib.hid s2
      have c0 := hc 0 _ rfl
      have c1 := hc 1 _ rfl
      have c2 := hc 2 _ rfl
      have c3 := hc 3 _ rfl
      simp only [show EG.k = 4 from rfl, Nat.add_zero] at c0 c1 c2 c3 hset
      have z0 := frozen_of_cur hh (off + j * 4)
      have z1 := frozen_of_cur hh (off + j * 4 + 1)
      have z2 := frozen_of_cur hh (off + j * 4 + 2)
      have z3 := frozen_of_cur hh (off + j * 4 + 3)
      have hk4 : k + totS EG (x.take j) + 4 ≤ 4611686018427387904 := by have : totG x = totS EG x := rfl; omega
      clear hr hr2 s2 hml hc hh
      go_wp2_with fail
      go_roundw
      case rel =>
        have T := ((((TurnS.refl g (off + j * 4) (off + j * 4 + 4) a b 103 wr).set (o := off + j * 4) (by omega) (by omega) (.int .i64 (k + totS EG (x.take j)))).set (o := off + j * 4 + 1) (by omega) (by omega) (.int .i64 (k + totS EG (x.take j) + 1))).set (o := off + j * 4 + 2) (by omega) (by omega) (.int .i64 (k + totS EG (x.take j) + 1 + 1))).set (o := off + j * 4 + 3) (by omega) (by omega) (.int .i64 (k + totS EG (x.take j) + 1 + 1 + 1))
        have C := set4_cells c0 c1 c2 c3 (.int .i64 (k + totS EG (x.take j))) (.int .i64 (k + totS EG (x.take j) + 1)) (.int .i64 (k + totS EG (x.take j) + 1 + 1)) (.int .i64 (k + totS EG (x.take j) + 1 + 1 + 1))
        have hf' := hset _ _ (EG.mkE (k + totS EG (x.take j)) r) T C (by
          generalize k + totS EG (x.take j) = K
          show [Value.int .i64 K, .int .i64 (K + 1), .int .i64 (K + 1 + 1), .int .i64 (K + 1 + 1 + 1)] = [.int .i64 K, .int .i64 (K + 1), .int .i64 (K + 2), .int .i64 (K + 3)]
          rw [show K + 1 + 1 = K + 2 by omega, show K + 2 + 1 = K + 3 by omega])
        rw [HS.out] at hf'
        exact ⟨j + 1, by omega, by rw [S2.out]; congr 1; omega, by go_num, hf', he.trans (T.exi hg1 hg2 ha hb')⟩
      case measure => simp [intOf] <;> omega
    · obtain rfl : j = x.length := by omega
      go_wp2
      go_ret
      rw [List.drop_length, List.append_nil, List.take_of_length_le (by rw [mkS_len]; exact Nat.le_refl _)] at hf
      rw [List.take_length]
      exact ⟨rfl, ⟨⟨A, c, by rw [mkG, mkS_len], hf⟩, by rw [mkG, totS_mk]; exact ht⟩, he⟩
set_option maxHeartbeats 2000000 in
theorem heldGateS_u (x : List Gt) (v : Value) (k : Int) (w : World) (h : RG w v (mkG k x)) (hk0 : 0 ≤ k) (hk : k + totG x ≤ 4611686018427387904) :
    Calls Tryd.prog 50 #[v, .int .i64 k] w fun e w' => e = .returned (.int .i64 (k + totG x)) ∧ Ex w w' := by
  obtain ⟨⟨A, c, e, h⟩, _⟩ := h
  rw [mkG, mkS_len] at e
  subst e
  have hl := h.1
  rw [mkG, mkS_len] at hl
  go_enter Tryd.func50, Tryd.ntmps50
  go_wp2
  go_loop [1, 5] (fun q i => ∃ j : Nat, j ≤ x.length ∧ q = .int .i64 (k + totS EG (x.take j)) ∧ i = .int .i64 j) (fun _ i => x.length - (intOf i).toNat)
  case atStart => exact ⟨0, Nat.zero_le _, by simp [totS], rfl⟩
  case round =>
    obtain ⟨j, hj, rfl, rfl⟩ := hrel
    by_cases hlt : j < x.length
    · obtain ⟨r, hr⟩ : ∃ r, x[j]? = some r := ⟨_, List.getElem?_eq_getElem hlt⟩
      obtain ⟨g, off, r', rfl, hr', c0, c1, c2, c3⟩ := h.gate (by rw [mkS_len]; exact hlt : j < (mkS EG k x).length)
      rw [mkG, mkS_at EG k x j r hr] at hr'
      injection hr' with hr'
      subst hr'
      have s1 := totS_nn EG (x.take j)
      have s2 := totS_take_succ EG hr
      have s3 := totS_take_le EG x (j + 1)
      have e4 : EG.tot r = 4 := rfl
      rw [e4] at s2
      have S2 := Lib.hid s2
      have hk4 : k + totS EG (x.take j) + 4 ≤ 4611686018427387904 := by have : totG x = totS EG x := rfl; omega
      replace c0 : w.cell? ⟨g, off + j * 4, none⟩ = some (.int .i64 (k + totS EG (x.take j))) := c0
      replace c1 : w.cell? ⟨g, off + j * 4 + 1, none⟩ = some (.int .i64 (k + totS EG (x.take j) + 1)) := c1
      replace c2 : w.cell? ⟨g, off + j * 4 + 2, none⟩ = some (.int .i64 (k + totS EG (x.take j) + 2)) := c2
      replace c3 : w.cell? ⟨g, off + j * 4 + 3, none⟩ = some (.int .i64 (k + totS EG (x.take j) + 3)) := c3
      clear hr s2
      go_wp2_with fail
      go_round
      case rel => exact ⟨j + 1, by omega, by rw [S2.out]; congr 1; omega, by go_num⟩
      case measure => simp [intOf] <;> omega
    · obtain rfl : j = x.length := by omega
      go_wp2
      go_ret
      exact ⟨rfl, Ex.refl _⟩
end Go.Proofs.YtgblnkadmieflaaDoor
