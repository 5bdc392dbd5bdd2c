/- A slice whose elements are rows of 2 cells or of 1 cell, filled by a loop; owned slices under turns of other memory. Printed by a program of mine. Lists of fractions in the uniform words; the laws' helpers on them. Lists of lists of fractions in the uniform words; the laws' helpers on them. -/
import Derived.Test.YtpeogfapnofeoaaGreatDoorPkF
import Derived.Test.YtpeogfapnofeoaaGreatDoorUFr
import Derived.RegionCalls
import Derived.Deep.RegionWith
import Derived.Deep.RegionHeld3
namespace Go.Proofs.YtpeogfapnofeoaaGreatDoor
set_option maxRecDepth 100000
open Go Go.RowKit
variable {α : Type}
theorem flat_put2 {us rest : List (List Value)} {s : Nat} (hs : us.flatten.length = s) (z0 z1 a b : Value) :
    ((((us ++ [z0, z1] :: rest).flatten).set s a).set (s + 1) b) = (us ++ [a, b] :: rest).flatten := by
  subst hs
  simp [List.flatten_append]
theorem Mk.put2 {E : EK α} {t : TypeId} {z : List Value} {w w1 : World} {g k : Nat} {xs : List α} (h : Mk E t z w g xs k) (hE : E.k = 2) (hz : z.length = 2) {x : α} (hx : xs[k]? = some x) (he : Ex w w1) {a b : Value} (ho : E.O w1 w.heap.size w1.heap.size [a, b] x) :
    Mk E t z ((w1.setCell ⟨g, k * 2, none⟩ a).setCell ⟨g, k * 2 + 1, none⟩ b) g xs (k + 1) := by
  obtain ⟨us, al, bl, h1, h2, h3, h4, h5, h6⟩ := h
  have hlt := (List.getElem?_eq_some_iff.1 hx).1
  have hgl := h3.lt
  have hf : us.flatten.length = k * 2 := by rw [flatten_len h2, h1, hE]
  have v1 := h3.ex he
  rw [show xs.length - k = (xs.length - (k + 1)) + 1 by omega, List.replicate_succ] at v1
  have E1 : Ex1 g w1 ((w1.setCell ⟨g, k * 2, none⟩ a).setCell ⟨g, k * 2 + 1, none⟩ b) := ((Ex1.refl g w1).setCell (p := ⟨g, k * 2, none⟩) rfl a).setCell (p := ⟨g, k * 2 + 1, none⟩) rfl b
  have hv := ((v1.set_ (k * 2) a).set_ (k * 2 + 1) b)
  simp only [List.setIfInBounds_toArray] at hv
  match z, hz with
  | [z0, z1], _ =>
    rw [flat_put2 (rest := List.replicate (xs.length - (k + 1)) [z0, z1]) hf z0 z1 a b] at hv
    generalize ((w1.setCell ⟨g, k * 2, none⟩ a).setCell ⟨g, k * 2 + 1, none⟩ b) = w2 at *
    have s1 := he.size
    have s2 := E1.size
    refine ⟨us ++ [[a, b]], fun j => if j < k then al j else w.heap.size, fun j => if j < k then bl j else w1.heap.size, by simp [h1], fun u hu => ?_, by rw [List.append_assoc]; exact hv, fun j hj => ?_, fun i j hij hj => ?_, fun j y vs hj hu => ?_⟩
    · rcases List.mem_append.1 hu with hu | hu
      · exact h2 u hu
      · simp at hu; subst hu; exact hE.symm
    · dsimp only
      by_cases hjk : j < k
      · rw [if_pos hjk, if_pos hjk]; have := h4 j hjk; omega
      · rw [if_neg hjk, if_neg hjk]; omega
    · dsimp only
      have hik : i < k := by omega
      rw [if_pos hik]
      by_cases hjk : j < k
      · rw [if_pos hjk]; exact h5 i j hij hjk
      · rw [if_neg hjk]; exact (h4 i hik).2
    · dsimp only
      by_cases hjk : j < k
      · rw [if_pos hjk, if_pos hjk]
        rw [List.getElem?_append_left (by omega)] at hu
        have := h4 j hjk
        exact E.oiv (E.oex (h6 j y vs hj hu) he) (ExI.of_ex1 E1) (by omega)
      · rw [if_neg hjk, if_neg hjk]
        have hjk' : j = k := by
          have := (List.getElem?_eq_some_iff.1 hu).1
          rw [List.length_append, h1, List.length_singleton] at this
          omega
        subst hjk'
        rw [List.getElem?_append_right (by omega), h1, Nat.sub_self] at hu
        simp at hu
        subst hu
        rw [hx] at hj
        injection hj with hj
        subst hj
        exact E.oiv ho (ExI.of_ex1 E1) (by omega)
theorem flat_put1 {us rest : List (List Value)} {s : Nat} (hs : us.flatten.length = s) (z0 a : Value) :
    (((us ++ [z0] :: rest).flatten).set s a) = (us ++ [a] :: rest).flatten := by
  subst hs
  simp [List.flatten_append]
theorem Mk.put1 {E : EK α} {t : TypeId} {z : List Value} {w w1 : World} {g k : Nat} {xs : List α} (h : Mk E t z w g xs k) (hE : E.k = 1) (hz : z.length = 1) {x : α} (hx : xs[k]? = some x) (he : Ex w w1) {a : Value} (ho : E.O w1 w.heap.size w1.heap.size [a] x) :
    Mk E t z (w1.setCell ⟨g, k, none⟩ a) g xs (k + 1) := by
  obtain ⟨us, al, bl, h1, h2, h3, h4, h5, h6⟩ := h
  have hlt := (List.getElem?_eq_some_iff.1 hx).1
  have hgl := h3.lt
  have hf : us.flatten.length = k := by rw [flatten_len h2, h1, hE]; omega
  have v1 := h3.ex he
  rw [show xs.length - k = (xs.length - (k + 1)) + 1 by omega, List.replicate_succ] at v1
  have E1 : Ex1 g w1 (w1.setCell ⟨g, k, none⟩ a) := (Ex1.refl g w1).setCell (p := ⟨g, k, none⟩) rfl a
  have hv := (v1.set_ (k) a)
  simp only [List.setIfInBounds_toArray] at hv
  match z, hz with
  | [z0], _ =>
    rw [flat_put1 (rest := List.replicate (xs.length - (k + 1)) [z0]) hf z0 a] at hv
    generalize (w1.setCell ⟨g, k, none⟩ a) = w2 at *
    have s1 := he.size
    have s2 := E1.size
    refine ⟨us ++ [[a]], fun j => if j < k then al j else w.heap.size, fun j => if j < k then bl j else w1.heap.size, by simp [h1], fun u hu => ?_, by rw [List.append_assoc]; exact hv, fun j hj => ?_, fun i j hij hj => ?_, fun j y vs hj hu => ?_⟩
    · rcases List.mem_append.1 hu with hu | hu
      · exact h2 u hu
      · simp at hu; subst hu; exact hE.symm
    · dsimp only
      by_cases hjk : j < k
      · rw [if_pos hjk, if_pos hjk]; have := h4 j hjk; omega
      · rw [if_neg hjk, if_neg hjk]; omega
    · dsimp only
      have hik : i < k := by omega
      rw [if_pos hik]
      by_cases hjk : j < k
      · rw [if_pos hjk]; exact h5 i j hij hjk
      · rw [if_neg hjk]; exact (h4 i hik).2
    · dsimp only
      by_cases hjk : j < k
      · rw [if_pos hjk, if_pos hjk]
        rw [List.getElem?_append_left (by omega)] at hu
        have := h4 j hjk
        exact E.oiv (E.oex (h6 j y vs hj hu) he) (ExI.of_ex1 E1) (by omega)
      · rw [if_neg hjk, if_neg hjk]
        have hjk' : j = k := by
          have := (List.getElem?_eq_some_iff.1 hu).1
          rw [List.length_append, h1, List.length_singleton] at this
          omega
        subst hjk'
        rw [List.getElem?_append_right (by omega), h1, Nat.sub_self] at hu
        simp at hu
        subst hu
        rw [hx] at hj
        injection hj with hj
        subst hj
        exact E.oiv ho (ExI.of_ex1 E1) (by omega)
theorem OwS.keep {E : EK α} {t : TypeId} {w w' : World} {lo hi : Nat} {A : Option Addr} {xs : List α} (h : OwS E t w lo hi A xs) (hk : ∀ k, lo ≤ k → k < hi → k < w.heap.size → w'.heap[k]? = w.heap[k]?) : OwS E t w' lo hi A xs := by
  obtain ⟨hl, al, bl, k1, k2⟩ := h
  refine ⟨hl, al, bl, fun j r hj => ?_, k2⟩
  obtain ⟨g, off, vs, cur, hA, hg1, hg2, hh, hc, ho, ha, hb, hd'⟩ := k1 j r hj
  exact ⟨g, off, vs, cur, hA, hg1, hg2, (hk g hg1 hg2 (heap_lt_of hh)).trans hh, hc, E.keep ho (fun k h1 h2 h3 => hk k (by omega) (by omega) h3), ha, hb, hd'⟩
theorem OS.keep {E : EK α} {t : TypeId} {w w' : World} {a b : Nat} {v : Value} {xs : List α} (h : OS E t w a b v xs) (hk : ∀ k, a ≤ k → k < b → k < w.heap.size → w'.heap[k]? = w.heap[k]?) : OS E t w' a b v xs := by
  obtain ⟨⟨A, c, e, r⟩, q⟩ := h
  exact ⟨⟨A, c, e, r.keep hk⟩, q⟩
end Go.Proofs.YtpeogfapnofeoaaGreatDoor
namespace Go.Proofs.YtpeogfapnofeoaaGreatDoor
set_option maxRecDepth 100000
open Go Go.RowKit
theorem OFra.keep {w w' : World} {a b : Nat} {v0 v1 : Value} {x : Fra} (h : OFra w a b v0 v1 x) (hk : ∀ k, a ≤ k → k < b → k < w.heap.size → w'.heap[k]? = w.heap[k]?) : OFra w' a b v0 v1 x := by
  obtain ⟨a0, b0, a1, b1, m0, m1, c0, c1, c2, c3, c4⟩ := h
  exact ⟨a0, b0, a1, b1, m0.keep (fun k h1 h2 => hk k (by omega) (by omega)), m1.keep (fun k h1 h2 => hk k (by omega) (by omega)), c0, c1, c2, c3, c4⟩
def frZ : List Value := [.slice none 0 0, .slice none 0 0]
def EF : EK Fra where
  k := 2
  R := fun w vs x => ∃ v0 v1, vs = [v0, v1] ∧ RFra w v0 v1 x
  O := fun w a b vs x => ∃ v0 v1, vs = [v0, v1] ∧ OFra w a b v0 v1 x
  tot := totFra
  mkE := mkFra
  rlen := fun h => by obtain ⟨_, _, rfl, _⟩ := h; rfl
  ex := fun h he => by obtain ⟨v0, v1, e, h⟩ := h; exact ⟨v0, v1, e, h.ex he⟩
  rd := fun h => by obtain ⟨v0, v1, e, h⟩ := h; exact ⟨v0, v1, e, h.rd⟩
  keep := fun h hk => by obtain ⟨v0, v1, e, h⟩ := h; exact ⟨v0, v1, e, h.keep hk⟩
  nn := totFra_nn
  tmk := fun k x => by simp [totFra, mkFra, totI, mkI, mk_len]
def RF (w : World) (v : Value) (x : List Fra) : Prop := RS EF w v x
def totF (x : List Fra) : Int := totS EF x
def mkF (k : Int) (x : List Fra) : List Fra := mkS EF k x
theorem totF_nn (x : List Fra) : 0 ≤ totF x := totS_nn EF x
theorem RF.ex {w w' : World} {v : Value} {x : List Fra} (h : RF w v x) (he : Ex w w') : RF w' v x := RS.ex h he
theorem RF.tot {w : World} {v : Value} {x : List Fra} (h : RF w v x) : totF x ≤ 1125899906842624 := RS.tot h
theorem RF.form {w : World} {v : Value} {x : List Fra} (h : RF w v x) : ∃ A n c, v = .slice A n c := RS.form h
theorem RdS.frac {w : World} {A : Option Addr} {xs : List Fra} (h : RdS EF w A xs) {j : Nat} (hj : j < xs.length) :
    ∃ g off x P pc Q qc, A = some ⟨g, off, none⟩ ∧ xs[j]? = some x ∧ w.cell? ⟨g, off + j * 2, none⟩ = some (.slice P x.n.length pc) ∧ w.cell? ⟨g, off + j * 2 + 1, none⟩ = some (.slice Q x.d.length qc) ∧ Rd w P x.n ∧ Rd w Q x.d := by
  obtain ⟨g, off, vs, x, hA, hx, hc, v0, v1, rfl, ⟨P, pc, rfl, hP⟩, ⟨Q, qc, rfl, hQ⟩⟩ := h.at_ hj
  exact ⟨g, off, x, P, pc, Q, qc, hA, hx, hc 0 _ rfl, hc 1 _ rfl, hP, hQ⟩
def OF (w : World) (a b : Nat) (v : Value) (x : List Fra) : Prop := OS EF 58 w a b v x
theorem OF.rd {w : World} {a b : Nat} {v : Value} {x : List Fra} (h : OF w a b v x) : RF w v x := OS.rd h
theorem OF.ex {w w' : World} {a b : Nat} {v : Value} {x : List Fra} (h : OF w a b v x) (he : Ex w w') : OF w' a b v x := OS.ex h he
theorem OF.iv {w w' : World} {a b a' b' : Nat} {v : Value} {x : List Fra} (h : OF w a b v x) (k : ExI a' b' w w') (hd : b ≤ a' ∨ b' ≤ a) : OF w' a b v x := OS.iv h k hd
theorem OF.e1 {w w' : World} {a b g : Nat} {v : Value} {x : List Fra} (h : OF w a b v x) (k : Ex1 g w w') (hd : g < a ∨ b ≤ g) : OF w' a b v x := OS.e1 h k hd
theorem OF.more {w : World} {a b a' b' : Nat} {v : Value} {x : List Fra} (h : OF w a b v x) (ha : a' ≤ a) (hb : b ≤ b') : OF w a' b' v x := OS.more h ha hb
theorem fracInfo : (Tryz.prog.info? 58).map (fun i => (i.zero, i.size, i.bytes)) = some (some (.agg #[.slice none 0 0, .slice none 0 0]), 2, 48) := by kernel_rfl
theorem run_make_fracs (n : Nat) (hn : n ≤ 1099511627776) (w : World) :
    (Instr.makeSlice 34 (.int .i64 (n : Int)) (.int .i64 (n : Int))).run Tryz.prog w = .ok (.slice (some ⟨w.heap.size, 0, none⟩) n n) (w.alloc (.cells ((List.replicate n frZ).flatten).toArray 58)) := by
  obtain ⟨i, hi, hz, hs, hb⟩ := info_parts fracInfo
  have hr := run_make (P := Tryz.prog) w 34 58 i _ Tryz.underlying34 hi hz .i64 .i64 n n (by omega) (by omega) (by rw [hb]; omega) (by omega)
  simp only [Int.toNat_natCast, hs] at hr
  rw [hr]
  have := made_flat frZ (by decide) n
  rw [show frZ.length = 2 from rfl] at this
  rw [← this]
  rfl
set_option maxHeartbeats 1000000 in
theorem szFractionS_q (A : Option Addr) (n c : Nat) (zs : List Int) (w : World) (hm : n ≤ 9223372036854775807) (hl : zs.length = n) (h0 : ∀ (i : Nat) (z : Int), zs[i]? = some z → 0 ≤ z)
    (h : ∀ (i : Nat) (z : Int), zs[i]? = some z → ∃ g off P m pc Q l qc, A = some ⟨g, off, none⟩ ∧ w.cell? ⟨g, off + i * 2, none⟩ = some (.slice P m pc) ∧ w.cell? ⟨g, off + i * 2 + 1, none⟩ = some (.slice Q l qc) ∧ QS 30 w (.agg #[.slice P m pc, .slice Q l qc]) z) :
    QS 9 w (.slice A n c) (n + zs.sum) := fun u l hx hl0 hl1 => by
  have hs := zsum_nn h0
  by_cases hb : l < (n : Int)
  · rw [if_pos (by omega)]
    clear h h0
    go_enter Tryz.func9, Tryz.ntmps9
    go_wp2
    go_ret
    exact ⟨rfl, Ex.refl _⟩
  · have hn : n ≤ 1048576 := by omega
    obtain ⟨R, hR⟩ : ∃ R : Int, (if l < (n : Int) + zs.sum then (-1 : Int) else l - ((n : Int) + zs.sum)) = R := ⟨_, rfl⟩
    rw [hR]
    have HR := Lib.hid hR
    clear hR
    go_enter Tryz.func9, Tryz.ntmps9
    go_wp2
    go_loopw [1, 5] (fun q i wr => ∃ k : Nat, k ≤ n ∧ q = .int .i64 (l - n - (zs.take k).sum) ∧ 0 ≤ l - n - (zs.take k).sum ∧ i = .int .i64 k ∧ Ex u wr) (fun _ i _ => n - (intOf i).toNat)
    case atStart => exact ⟨0, Nat.zero_le _, by simp, by simp; omega, rfl, Ex.refl _⟩
    case round =>
      obtain ⟨k, hk, rfl, hq, rfl, he⟩ := hrel
      by_cases hlt : k < n
      · obtain ⟨z, hz⟩ : ∃ z, zs[k]? = some z := ⟨_, List.getElem?_eq_getElem (by omega)⟩
        obtain ⟨g, off, P, m, pc, Q, l', qc, rfl, c2, c3, hq4⟩ := h k z hz
        have hxe := hx.trans he
        have hh := hq4 wr (l - n - (zs.take k).sum) hxe hq (by have := zsum_nn (zs := zs.take k) (fun i z hz => h0 i z (by rw [List.getElem?_take] at hz; split at hz <;> simp_all)); omega)
        have hts := zsum_take_succ hz
        have htl := zsum_take_le h0 (k + 1)
        have hz0 := h0 k z hz
        replace c2 := cell_ex hxe c2
        replace c3 := cell_ex hxe c3
        have HT := Lib.hid hts
        clear h h0 hz hts hq4
        go_wp2_with fail
        by_cases hzl : l - n - (zs.take k).sum < z
        · rw [if_pos hzl] at hh
          refine hh.mono ?_
          rintro e w1 ⟨rfl, x1⟩
          go_wp2
          go_ret
          exact ⟨by rw [← HR.out, if_pos (by have := HT.out; omega)]; rfl, he.trans x1⟩
        · rw [if_neg hzl] at hh
          refine hh.mono ?_
          rintro e w1 ⟨rfl, x1⟩
          have hE : l - n - (zs.take k).sum - z = l - n - (zs.take (k + 1)).sum := by have := HT.out; omega
          rw [hE]
          have hq' : 0 ≤ l - n - (zs.take (k + 1)).sum := by omega
          go_wp2
          go_roundw
          case rel => exact ⟨k + 1, by omega, rfl, hq', by go_num, he.trans x1⟩
          case measure => simp [intOf] <;> omega
      · obtain rfl : k = n := by omega
        rw [← hl, List.take_length] at hq
        clear h h0
        go_wp2
        go_ret
        refine ⟨?_, he⟩
        rw [← HR.out, if_neg (by omega)]
        show Ending.returned (.int .i64 (l - k - (zs.take k).sum)) = _
        rw [← hl, List.take_length]
        congr 2
        omega
set_option maxHeartbeats 2000000 in
theorem toFractionS_k (x : List Fra) (v : Value) (w : World) (h : RF w v x) :
    Calls Tryz.prog 12 #[v] w fun e w' => ∃ A c, e = .returned (.slice A x.length c) ∧ x.length ≤ c ∧ OwS EF 58 w' w.heap.size w'.heap.size A x ∧ Ex w w' := by
  obtain ⟨⟨A, c, rfl, h⟩, _⟩ := h
  have hl := h.1
  have hmk := fun W => run_make_fracs x.length hl W
  have v0 := VB.new w 58 ((List.replicate x.length frZ).flatten).toArray
  have he0 := (Ex.refl w).alloc (.cells ((List.replicate x.length frZ).flatten).toArray 58)
  go_enter Tryz.func12, Tryz.ntmps12
  go_wp2
  go_loopw [4] (fun i wr => ∃ k : Nat, k ≤ x.length ∧ i = .int .i64 k ∧ Mk EF 58 frZ wr w.heap.size x k ∧ Ex w wr) (fun i _ => x.length - (intOf i).toNat)
  case atStart => exact ⟨0, Nat.zero_le _, rfl, Mk.start v0, he0⟩
  case round =>
    obtain ⟨k, hk, rfl, hv, he⟩ := hrel
    by_cases hlt : k < x.length
    · obtain ⟨g, off, r, P, pc, Q, qc, rfl, hr, c0, c1, hP, hQ⟩ := (h.ex he).frac hlt
      have Hr := Lib.hid hr
      clear hr
      go_wp2_with fail
      refine (toFraction_u r _ _ wr ⟨⟨P, pc, rfl, hP⟩, ⟨Q, qc, rfl, hQ⟩⟩).mono ?_
      rintro e w1 ⟨y0, y1, rfl, o, x1⟩
      obtain ⟨Y0, N0, C0, Y1, N1, C1, rfl, rfl⟩ := o.rd.form
      have v1 := hv.ex x1
      have q0 : w1.cell? ⟨w.heap.size, k * 2, none⟩ = some (.slice none 0 0) := v1.zero hlt (q := 0) rfl
      have q1 : w1.cell? ⟨w.heap.size, k * 2 + 1, none⟩ = some (.slice none 0 0) := v1.zero hlt (q := 1) rfl
      have z0 := v1.frozen (k * 2)
      have z1 := v1.frozen (k * 2 + 1)
      go_wp2_with fail
      go_roundw
      case rel => exact ⟨k + 1, by omega, by go_num, hv.put2 rfl rfl Hr.out x1 ⟨_, _, rfl, o⟩, ((he.trans x1).setCell (Nat.le_refl _) _).setCell (Nat.le_refl _) _⟩
      case measure => simp [intOf] <;> omega
    · obtain rfl : k = x.length := by omega
      go_wp2
      go_ret
      exact ⟨_, _, rfl, Nat.le_refl _, hv.done hl (Nat.le_refl _), he⟩
set_option maxHeartbeats 2000000 in
theorem eqFractionS_u (x : List Fra) (v u : Value) (w : World) (h : RF w v x) (h' : RF w u x) :
    Calls Tryz.prog 15 #[v, u] w fun e w' => e = .returned (.bool true) ∧ Ex w w' := by
  obtain ⟨⟨A, c, rfl, h⟩, _⟩ := h
  obtain ⟨⟨A', c', rfl, h'⟩, _⟩ := h'
  have hl := h.1
  go_enter Tryz.func15, Tryz.ntmps15
  go_wp2
  go_loopw [5] (fun i wr => ∃ k : Nat, k ≤ x.length ∧ i = .int .i64 k ∧ Ex w wr) (fun i _ => x.length - (intOf i).toNat)
  case atStart => exact ⟨0, Nat.zero_le _, rfl, Ex.refl w⟩
  case round =>
    obtain ⟨k, hk, rfl, he⟩ := hrel
    by_cases hlt : k < x.length
    · obtain ⟨g, off, r, P, pc, Q, qc, rfl, hr, c0, c1, hP, hQ⟩ := (h.ex he).frac hlt
      obtain ⟨g', off', r', P', pc', Q', qc', rfl, hr', d0, d1, hP', hQ'⟩ := (h'.ex he).frac hlt
      obtain rfl : r = r' := by rw [hr] at hr'; injection hr'
      clear hr hr'
      have he1 := fun W (y : Ex wr W) => eqFraction_u r _ _ _ _ W ⟨⟨P, pc, rfl, hP.ex y⟩, ⟨Q, qc, rfl, hQ.ex y⟩⟩ ⟨⟨P', pc', rfl, hP'.ex y⟩, ⟨Q', qc', rfl, hQ'.ex y⟩⟩
      have HS : ∀ W, Ex wr W → (Ex wr W ∧ W.cell? ⟨g, off + k * 2, none⟩ = some (.slice P r.n.length pc) ∧ W.cell? ⟨g, off + k * 2 + 1, none⟩ = some (.slice Q r.d.length qc) ∧ W.cell? ⟨g', off' + k * 2, none⟩ = some (.slice P' r.n.length pc') ∧ W.cell? ⟨g', off' + k * 2 + 1, none⟩ = some (.slice Q' r.d.length qc')) := fun W y => ⟨y, cell_ex y c0, cell_ex y c1, cell_ex y d0, cell_ex y d1⟩
      have eA := (Ex.refl wr).drew
      go_wp2_with fail
      go_region_held3 (fun W => Ex wr W ∧ W.cell? ⟨g, off + k * 2, none⟩ = some (.slice P r.n.length pc) ∧ W.cell? ⟨g, off + k * 2 + 1, none⟩ = some (.slice Q r.d.length qc) ∧ W.cell? ⟨g', off' + k * 2, none⟩ = some (.slice P' r.n.length pc') ∧ W.cell? ⟨g', off' + k * 2 + 1, none⟩ = some (.slice Q' r.d.length qc')) (first
        | (exact HS _ x1) | (exact HS _ eA) | (exact HS _ (Ex.refl wr))) (first
        | (go_at_call 46
           have hb := (‹Ex wr _ ∧ _›).1
           refine (he1 _ hb).mono ?_
           rintro e w1 ⟨rfl, x1'⟩
           have x1 := hb.trans x1'
           clear hb))
      all_goals go_wp2
      all_goals exact ⟨⟨k + 1, by omega, by go_num, he.trans x1⟩, by simp [intOf] <;> omega⟩
    · obtain rfl : k = x.length := by omega
      go_wp2
      go_ret
      exact ⟨rfl, he⟩
set_option maxHeartbeats 4000000 in
theorem heldFractionS_u (x : List Fra) (v : Value) (k : Int) (w : World) (h : RF w v (mkF k x)) (hk0 : 0 ≤ k) (hk : k + totF x ≤ 4611686018427387904) :
    Calls Tryz.prog 83 #[v, .int .i64 k] w fun e w' => e = .returned (.int .i64 (k + totF x)) ∧ Ex w w' := by
  obtain ⟨⟨A, c, e, h⟩, ht⟩ := h
  rw [mkF, mkS_len] at e
  subst e
  have hl : x.length ≤ 1099511627776 := by have := h.1; rwa [mkF, mkS_len] at this
  go_enter Tryz.func83, Tryz.ntmps83
  go_wp2
  go_loopw [1, 5] (fun q i wr => ∃ j : Nat, j ≤ x.length ∧ q = .int .i64 (k + totS EF (x.take j)) ∧ i = .int .i64 j ∧ Ex w wr) (fun _ i _ => x.length - (intOf i).toNat)
  case atStart => exact ⟨0, Nat.zero_le _, by simp [totS], rfl, Ex.refl _⟩
  case round =>
    obtain ⟨j, hj, rfl, rfl, he⟩ := hrel
    by_cases hlt : j < x.length
    · obtain ⟨r, hr⟩ : ∃ r, x[j]? = some r := ⟨_, List.getElem?_eq_getElem hlt⟩
      have hm := mkS_at EF k x j r hr
      obtain ⟨g, off, r', P, pc, Q, qc, rfl, hr', c2, c3, hP, hQ⟩ := (h.ex he).frac (j := j) (by rw [mkF, mkS_len]; exact hlt)
      rw [mkF, hm] at hr'
      injection hr' with hr'
      subst hr'
      have s1 := totS_nn EF (x.take j)
      have s2 := totS_take_succ EF hr
      have s3 := totS_take_le EF x (j + 1)
      have e4 : EF.tot r = totI r.n + totI r.d := rfl
      have n0 := totI_nn r.n
      have n1 := totI_nn r.d
      rw [e4] at s2
      have hk4 : k + totS EF (x.take j) + (totI r.n + totI r.d) ≤ 4611686018427387904 := by have : totF x = totS EF x := rfl; omega
      have S2 := Lib.hid s2
      clear hr hm s2 e4
      obtain ⟨K, hK⟩ : ∃ K, k + totS EF (x.take j) = K := ⟨_, rfl⟩
      have HK := Lib.hid hK
      rw [hK] at hk4 c2 c3 hP hQ
      have hK0 : 0 ≤ K := by omega
      rw [hK]
      clear hK
      have q1 : RI wr (.slice P (EF.mkE K r).n.length pc) (mkI K r.n) := ⟨P, pc, rfl, hP⟩
      have q2 : RI wr (.slice Q (EF.mkE K r).d.length qc) (mkI (K + totI r.n) r.d) := ⟨Q, qc, rfl, hQ⟩
      have hPl := hP.len
      have hQl := hQ.len
      clear hP hQ
      generalize (EF.mkE K r).n.length = m1 at *
      generalize (EF.mkE K r).d.length = m2 at *
      go_wp2_with fail
      refine (heldIntS_u r.n (.slice P m1 pc) K wr q1 (by omega) (by omega)).mono ?_
      rintro e w1 ⟨rfl, x1⟩
      replace c2 := cell_ex x1 c2
      replace c3 := cell_ex x1 c3
      go_wp2_with fail
      refine (heldIntS_u r.d (.slice Q m2 qc) (K + totI r.n) w1 (q2.ex x1) (by omega) (by omega)).mono ?_
      rintro e w2 ⟨rfl, x2⟩
      have hQ : K + totI r.n + totI r.d = k + totS EF (x.take (j + 1)) := by have := S2.out; have := HK.out; omega
      have hX := (he.trans x1).trans x2
      clear c2 c3
      rw [hQ]
      clear hQ
      have hp : 0 ≤ k + totS EF (x.take (j + 1)) := by have := totS_nn EF (x.take (j + 1)); omega
      go_wp2_with fail
      go_roundw
      case rel => exact ⟨j + 1, by omega, rfl, by go_num, hX⟩
      case measure => simp [intOf] <;> omega
    · obtain rfl : j = x.length := by omega
      go_wp2
      go_ret
      rw [List.take_length]
      exact ⟨rfl, he⟩
end Go.Proofs.YtpeogfapnofeoaaGreatDoor
namespace Go.Proofs.YtpeogfapnofeoaaGreatDoor
set_option maxRecDepth 100000
open Go Go.RowKit
def RF0 (w : World) (v : Value) (x : List Fra) : Prop := ∃ A c, v = .slice A x.length c ∧ RdS EF w A x
theorem RF0.ex {w w' : World} {v : Value} {x : List Fra} (h : RF0 w v x) (he : Ex w w') : RF0 w' v x := by
  obtain ⟨A, c, e, r⟩ := h
  exact ⟨A, c, e, r.ex he⟩
theorem RF0.form {w : World} {v : Value} {x : List Fra} (h : RF0 w v x) : ∃ A c, v = .slice A x.length c ∧ RdS EF w A x := h
def OF0 (w : World) (a b : Nat) (v : Value) (x : List Fra) : Prop := ∃ A c, v = .slice A x.length c ∧ x.length ≤ c ∧ OwS EF 58 w a b A x
theorem totS_at_le {α : Type} (E : EK α) {xs : List α} {j : Nat} {x : α} (h : xs[j]? = some x) : E.tot x ≤ totS E xs := by
  have := totS_take_succ E h
  have := totS_take_le E xs (j + 1)
  have := totS_nn E (xs.take j)
  omega
def EFF : EK (List Fra) where
  k := 1
  R := fun w vs x => ∃ v, vs = [v] ∧ RF0 w v x
  O := fun w a b vs x => ∃ v, vs = [v] ∧ OF0 w a b v x
  tot := totF
  mkE := mkF
  rlen := fun h => by obtain ⟨_, rfl, _⟩ := h; rfl
  ex := fun h he => by obtain ⟨v, e, h⟩ := h; exact ⟨v, e, h.ex he⟩
  rd := fun h => by obtain ⟨v, e, A, c, e2, _, h⟩ := h; exact ⟨v, e, A, c, e2, h.rd⟩
  keep := fun h hk => by obtain ⟨v, e, A, c, e2, hc, h⟩ := h; exact ⟨v, e, A, c, e2, hc, h.keep hk⟩
  nn := totF_nn
  tmk := fun k x => totS_mk EF k x
def RFF (w : World) (v : Value) (x : List (List Fra)) : Prop := RS EFF w v x
def totFF (x : List (List Fra)) : Int := totS EFF x
def mkFF (k : Int) (x : List (List Fra)) : List (List Fra) := mkS EFF k x
theorem totFF_nn (x : List (List Fra)) : 0 ≤ totFF x := totS_nn EFF x
theorem RFF.ex {w w' : World} {v : Value} {x : List (List Fra)} (h : RFF w v x) (he : Ex w w') : RFF w' v x := RS.ex h he
theorem RFF.tot {w : World} {v : Value} {x : List (List Fra)} (h : RFF w v x) : totFF x ≤ 1125899906842624 := RS.tot h
theorem RFF.form {w : World} {v : Value} {x : List (List Fra)} (h : RFF w v x) : ∃ A n c, v = .slice A n c := RS.form h
theorem RdS.fracs {w : World} {A : Option Addr} {xs : List (List Fra)} (h : RdS EFF w A xs) {j : Nat} (hj : j < xs.length) :
    ∃ g off x v, A = some ⟨g, off, none⟩ ∧ xs[j]? = some x ∧ w.cell? ⟨g, off + j, none⟩ = some v ∧ RF0 w v x := by
  obtain ⟨g, off, vs, x, hA, hx, hc, v, rfl, hR⟩ := h.at_ hj
  have := hc 0 _ rfl
  rw [show EFF.k = 1 from rfl, Nat.mul_one, Nat.add_zero] at this
  exact ⟨g, off, x, v, hA, hx, this, hR⟩
def OFFi (w : World) (a b : Nat) (v : Value) (x : List (List Fra)) : Prop := OS EFF 34 w a b v x
theorem OFFi.rd {w : World} {a b : Nat} {v : Value} {x : List (List Fra)} (h : OFFi w a b v x) : RFF w v x := OS.rd h
theorem OFFi.ex {w w' : World} {a b : Nat} {v : Value} {x : List (List Fra)} (h : OFFi w a b v x) (he : Ex w w') : OFFi w' a b v x := OS.ex h he
theorem OFFi.iv {w w' : World} {a b a' b' : Nat} {v : Value} {x : List (List Fra)} (h : OFFi w a b v x) (k : ExI a' b' w w') (hd : b ≤ a' ∨ b' ≤ a) : OFFi w' a b v x := OS.iv h k hd
theorem OFFi.e1 {w w' : World} {a b g : Nat} {v : Value} {x : List (List Fra)} (h : OFFi w a b v x) (k : Ex1 g w w') (hd : g < a ∨ b ≤ g) : OFFi w' a b v x := OS.e1 h k hd
theorem OFFi.more {w : World} {a b a' b' : Nat} {v : Value} {x : List (List Fra)} (h : OFFi w a b v x) (ha : a' ≤ a) (hb : b ≤ b') : OFFi w a' b' v x := OS.more h ha hb
def slZ : List Value := [.slice none 0 0]
theorem fracsInfo : (Tryz.prog.info? 34).map (fun i => (i.zero, i.size, i.bytes)) = some (some (.slice none 0 0), 1, 24) := by kernel_rfl
theorem run_make_fracss (n : Nat) (hn : n ≤ 1099511627776) (w : World) :
    (Instr.makeSlice 30 (.int .i64 (n : Int)) (.int .i64 (n : Int))).run Tryz.prog w = .ok (.slice (some ⟨w.heap.size, 0, none⟩) n n) (w.alloc (.cells ((List.replicate n slZ).flatten).toArray 34)) := by
  obtain ⟨i, hi, hz, hs, hb⟩ := info_parts fracsInfo
  have hr := run_make (P := Tryz.prog) w 30 34 i _ Tryz.underlying30 hi hz .i64 .i64 n n (by omega) (by omega) (by rw [hb]; omega) (by omega)
  simp only [Int.toNat_natCast, hs] at hr
  rw [hr]
  have := made_flat slZ (by decide) n
  rw [show slZ.length = 1 from rfl] at this
  rw [← this]
  rfl
set_option maxHeartbeats 1000000 in
theorem szFractionSS_q (A : Option Addr) (n c : Nat) (zs : List Int) (w : World) (hm : n ≤ 9223372036854775807) (hl : zs.length = n) (h0 : ∀ (i : Nat) (z : Int), zs[i]? = some z → 0 ≤ z)
    (h : ∀ (i : Nat) (z : Int), zs[i]? = some z → ∃ g off P m pc, A = some ⟨g, off, none⟩ ∧ w.cell? ⟨g, off + i, none⟩ = some (.slice P m pc) ∧ QS 9 w (.slice P m pc) z) :
    QS 16 w (.slice A n c) (n + zs.sum) := fun u l hx hl0 hl1 => by
  have hs := zsum_nn h0
  by_cases hb : l < (n : Int)
  · rw [if_pos (by omega)]
    clear h h0
    go_enter Tryz.func16, Tryz.ntmps16
    go_wp2
    go_ret
    exact ⟨rfl, Ex.refl _⟩
  · have hn : n ≤ 1048576 := by omega
    obtain ⟨R, hR⟩ : ∃ R : Int, (if l < (n : Int) + zs.sum then (-1 : Int) else l - ((n : Int) + zs.sum)) = R := ⟨_, rfl⟩
    rw [hR]
    have HR := Lib.hid hR
    clear hR
    go_enter Tryz.func16, Tryz.ntmps16
    go_wp2
    go_loopw [1, 5] (fun q i wr => ∃ k : Nat, k ≤ n ∧ q = .int .i64 (l - n - (zs.take k).sum) ∧ 0 ≤ l - n - (zs.take k).sum ∧ i = .int .i64 k ∧ Ex u wr) (fun _ i _ => n - (intOf i).toNat)
    case atStart => exact ⟨0, Nat.zero_le _, by simp, by simp; omega, rfl, Ex.refl _⟩
    case round =>
      obtain ⟨k, hk, rfl, hq, rfl, he⟩ := hrel
      by_cases hlt : k < n
      · obtain ⟨z, hz⟩ : ∃ z, zs[k]? = some z := ⟨_, List.getElem?_eq_getElem (by omega)⟩
        obtain ⟨g, off, P, m, pc, rfl, c2, hq4⟩ := h k z hz
        have hxe := hx.trans he
        have hh := hq4 wr (l - n - (zs.take k).sum) hxe hq (by have := zsum_nn (zs := zs.take k) (fun i z hz => h0 i z (by rw [List.getElem?_take] at hz; split at hz <;> simp_all)); omega)
        have hts := zsum_take_succ hz
        have htl := zsum_take_le h0 (k + 1)
        have hz0 := h0 k z hz
        replace c2 := cell_ex hxe c2
        have HT := Lib.hid hts
        clear h h0 hz hts hq4
        go_wp2_with fail
        by_cases hzl : l - n - (zs.take k).sum < z
        · rw [if_pos hzl] at hh
          refine hh.mono ?_
          rintro e w1 ⟨rfl, x1⟩
          go_wp2
          go_ret
          exact ⟨by rw [← HR.out, if_pos (by have := HT.out; omega)]; rfl, he.trans x1⟩
        · rw [if_neg hzl] at hh
          refine hh.mono ?_
          rintro e w1 ⟨rfl, x1⟩
          have hE : l - n - (zs.take k).sum - z = l - n - (zs.take (k + 1)).sum := by have := HT.out; omega
          rw [hE]
          have hq' : 0 ≤ l - n - (zs.take (k + 1)).sum := by omega
          go_wp2
          go_roundw
          case rel => exact ⟨k + 1, by omega, rfl, hq', by go_num, he.trans x1⟩
          case measure => simp [intOf] <;> omega
      · obtain rfl : k = n := by omega
        rw [← hl, List.take_length] at hq
        clear h h0
        go_wp2
        go_ret
        refine ⟨?_, he⟩
        rw [← HR.out, if_neg (by omega)]
        show Ending.returned (.int .i64 (l - k - (zs.take k).sum)) = _
        rw [← hl, List.take_length]
        congr 2
        omega
set_option maxHeartbeats 2000000 in
theorem toFractionSS_i (x : List (List Fra)) (v : Value) (w : World) (h : RFF w v x) :
    Calls Tryz.prog 18 #[v] w fun e w' => ∃ y, e = .returned y ∧ OFFi w' w.heap.size w'.heap.size y x ∧ Ex w w' := by
  obtain ⟨⟨A, c, rfl, h⟩, ht⟩ := h
  have hl := h.1
  have hmk := fun W => run_make_fracss x.length hl W
  have v0 := VB.new w 34 ((List.replicate x.length slZ).flatten).toArray
  have he0 := (Ex.refl w).alloc (.cells ((List.replicate x.length slZ).flatten).toArray 34)
  go_enter Tryz.func18, Tryz.ntmps18
  go_wp2
  go_loopw [4] (fun i wr => ∃ k : Nat, k ≤ x.length ∧ i = .int .i64 k ∧ Mk EFF 34 slZ wr w.heap.size x k ∧ Ex w wr) (fun i _ => x.length - (intOf i).toNat)
  case atStart => exact ⟨0, Nat.zero_le _, rfl, Mk.start v0, he0⟩
  case round =>
    obtain ⟨k, hk, rfl, hv, he⟩ := hrel
    by_cases hlt : k < x.length
    · obtain ⟨g, off, r, v, rfl, hr, c0, hR0⟩ := (h.ex he).fracs hlt
      have hR : RF wr v r := ⟨hR0, Int.le_trans (totS_at_le EFF hr) ht⟩
      obtain ⟨P, m, pc, rfl⟩ := hR.form
      clear hR0
      have Hr := Lib.hid hr
      clear hr
      go_wp2_with fail
      refine (toFractionS_k r _ wr hR).mono ?_
      rintro e w1 ⟨Y, C, rfl, hC, o, x1⟩
      have v1 := hv.ex x1
      have q0 : w1.cell? ⟨w.heap.size, k, none⟩ = some (.slice none 0 0) := by
        have := v1.zero hlt (q := 0) (u := .slice none 0 0) rfl
        rwa [show EFF.k = 1 from rfl, Nat.mul_one] at this
      have z0 := v1.frozen k
      go_wp2_with fail
      go_roundw
      case rel => exact ⟨k + 1, by omega, by go_num, hv.put1 rfl rfl Hr.out x1 ⟨_, rfl, Y, C, rfl, hC, o⟩, (he.trans x1).setCell (Nat.le_refl _) _⟩
      case measure => simp [intOf] <;> omega
    · obtain rfl : k = x.length := by omega
      go_wp2
      go_ret
      exact ⟨_, rfl, ⟨⟨_, _, rfl, hv.done hl (Nat.le_refl _)⟩, ht⟩, he⟩
set_option maxHeartbeats 2000000 in
theorem eqFractionSS_u (x : List (List Fra)) (v u : Value) (w : World) (h : RFF w v x) (h' : RFF w u x) :
    Calls Tryz.prog 20 #[v, u] w fun e w' => e = .returned (.bool true) ∧ Ex w w' := by
  obtain ⟨⟨A, c, rfl, h⟩, ht⟩ := h
  obtain ⟨⟨A', c', rfl, h'⟩, _⟩ := h'
  have hl := h.1
  go_enter Tryz.func20, Tryz.ntmps20
  go_wp2
  go_loopw [5] (fun i wr => ∃ k : Nat, k ≤ x.length ∧ i = .int .i64 k ∧ Ex w wr) (fun i _ => x.length - (intOf i).toNat)
  case atStart => exact ⟨0, Nat.zero_le _, rfl, Ex.refl w⟩
  case round =>
    obtain ⟨k, hk, rfl, he⟩ := hrel
    by_cases hlt : k < x.length
    · obtain ⟨g, off, r, v, rfl, hr, c0, hR0⟩ := (h.ex he).fracs hlt
      obtain ⟨g', off', r', v', rfl, hr', d0, hR0'⟩ := (h'.ex he).fracs hlt
      obtain rfl : r = r' := by rw [hr] at hr'; injection hr'
      have hR : RF wr v r := ⟨hR0, Int.le_trans (totS_at_le EFF hr) ht⟩
      have hR' : RF wr v' r := ⟨hR0', Int.le_trans (totS_at_le EFF hr) ht⟩
      clear hR0 hR0'
      obtain ⟨P, m, pc, rfl⟩ := hR.form
      obtain ⟨P', m', pc', rfl⟩ := hR'.form
      clear hr hr'
      have he1 := fun W (y : Ex wr W) => eqFractionS_u r _ _ W (hR.ex y) (hR'.ex y)
      have HS : ∀ W, Ex wr W → (Ex wr W ∧ W.cell? ⟨g, off + k, none⟩ = some (.slice P m pc) ∧ W.cell? ⟨g', off' + k, none⟩ = some (.slice P' m' pc')) := fun W y => ⟨y, cell_ex y c0, cell_ex y d0⟩
      have eA := (Ex.refl wr).drew
      go_wp2_with fail
      go_region_held3 (fun W => Ex wr W ∧ W.cell? ⟨g, off + k, none⟩ = some (.slice P m pc) ∧ W.cell? ⟨g', off' + k, none⟩ = some (.slice P' m' pc')) (first
        | (exact HS _ x1) | (exact HS _ eA) | (exact HS _ (Ex.refl wr))) (first
        | (go_at_call 15
           have hb := (‹Ex wr _ ∧ _›).1
           refine (he1 _ hb).mono ?_
           rintro e w1 ⟨rfl, x1'⟩
           have x1 := hb.trans x1'
           clear hb))
      all_goals go_wp2
      all_goals exact ⟨⟨k + 1, by omega, by go_num, he.trans x1⟩, by simp [intOf] <;> omega⟩
    · obtain rfl : k = x.length := by omega
      go_wp2
      go_ret
      exact ⟨rfl, he⟩
set_option maxHeartbeats 4000000 in
theorem heldFractionSS_u (x : List (List Fra)) (v : Value) (k : Int) (w : World) (h : RFF w v (mkFF k x)) (hk0 : 0 ≤ k) (hk : k + totFF x ≤ 4611686018427387904) :
    Calls Tryz.prog 57 #[v, .int .i64 k] w fun e w' => e = .returned (.int .i64 (k + totFF x)) ∧ Ex w w' := by
  obtain ⟨⟨A, c, e, h⟩, ht⟩ := h
  rw [mkFF, mkS_len] at e
  subst e
  have hl : x.length ≤ 1099511627776 := by have := h.1; rwa [mkFF, mkS_len] at this
  go_enter Tryz.func57, Tryz.ntmps57
  go_wp2
  go_loopw [1, 5] (fun q i wr => ∃ j : Nat, j ≤ x.length ∧ q = .int .i64 (k + totS EFF (x.take j)) ∧ i = .int .i64 j ∧ Ex w wr) (fun _ i _ => x.length - (intOf i).toNat)
  case atStart => exact ⟨0, Nat.zero_le _, by simp [totS], rfl, Ex.refl _⟩
  case round =>
    obtain ⟨j, hj, rfl, rfl, he⟩ := hrel
    by_cases hlt : j < x.length
    · obtain ⟨r, hr⟩ : ∃ r, x[j]? = some r := ⟨_, List.getElem?_eq_getElem hlt⟩
      have hm := mkS_at EFF k x j r hr
      obtain ⟨g, off, r', v, rfl, hr', c2, hR0⟩ := (h.ex he).fracs (j := j) (by rw [mkFF, mkS_len]; exact hlt)
      have hR : RF wr v r' := ⟨hR0, Int.le_trans (totS_at_le EFF hr') ht⟩
      clear hR0
      rw [mkFF, hm] at hr'
      injection hr' with hr'
      subst hr'
      obtain ⟨P, m, pc, rfl⟩ := hR.form
      have s1 := totS_nn EFF (x.take j)
      have s2 := totS_take_succ EFF hr
      have s3 := totS_take_le EFF x (j + 1)
      have e4 : EFF.tot r = totF r := rfl
      have n0 := totF_nn r
      rw [e4] at s2
      have hk4 : k + totS EFF (x.take j) + totF r ≤ 4611686018427387904 := by have : totFF x = totS EFF x := rfl; omega
      have S2 := Lib.hid s2
      clear hr hm s2 e4
      obtain ⟨K, hK⟩ : ∃ K, k + totS EFF (x.take j) = K := ⟨_, rfl⟩
      have HK := Lib.hid hK
      rw [hK] at hk4 hR
      have hK0 : 0 ≤ K := by omega
      rw [hK]
      clear hK
      go_wp2_with fail
      refine (heldFractionS_u r (.slice P m pc) K wr hR (by omega) (by omega)).mono ?_
      rintro e w1 ⟨rfl, x1⟩
      have hQ : K + totF r = k + totS EFF (x.take (j + 1)) := by have := S2.out; have := HK.out; omega
      have hX := he.trans x1
      clear c2
      rw [hQ]
      clear hQ
      have hp : 0 ≤ k + totS EFF (x.take (j + 1)) := by have := totS_nn EFF (x.take (j + 1)); omega
      go_wp2_with fail
      go_roundw
      case rel => exact ⟨j + 1, by omega, rfl, by go_num, hX⟩
      case measure => simp [intOf] <;> omega
    · obtain rfl : j = x.length := by omega
      go_wp2
      go_ret
      rw [List.take_length]
      exact ⟨rfl, he⟩
end Go.Proofs.YtpeogfapnofeoaaGreatDoor
