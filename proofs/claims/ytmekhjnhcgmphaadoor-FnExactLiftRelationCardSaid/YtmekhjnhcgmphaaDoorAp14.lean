/- Lists of fractions in the uniform words; the laws' helpers on them. Lists of lists of fractions in the uniform words; the laws' helpers on them. Copies of fractions, of rows, of lists of rows. Rows under the elimination: kept when other blocks are written; built from collected rows; how they read. -/
import Derived.Test.YtmekhjnhcgmphaaDoorAp13
import Derived.Test.YtmekhjnhcgmphaaDoorAp10
import Derived.RegionCalls
import Derived.Deep.RegionWith
import Derived.Deep.RegionHeld3
import Derived.Test.YtmekhjnhcgmphaaDoorAp12
import Derived.Test.YtmekhjnhcgmphaaDoorAp11
namespace Go.Proofs.YtmekhjnhcgmphaaDoor
set_option maxRecDepth 100000
open Go Go.RowKit
theorem OFra.keep {w w' : World} {a b : Nat} {v0 v1 : Value} {x : Fra} (h : OFra w a b v0 v1 x) (hk : ∀ k, a ≤ k → k < b → k < w.heap.size → w'.heap[k]? = w.heap[k]?) : OFra w' a b v0 v1 x := by
  obtain ⟨a0, b0, a1, b1, m0, m1, c0, c1, c2, c3, c4⟩ := h
  exact ⟨a0, b0, a1, b1, m0.keep (fun k h1 h2 => hk k (by omega) (by omega)), m1.keep (fun k h1 h2 => hk k (by omega) (by omega)), c0, c1, c2, c3, c4⟩
def EF : EK Fra where
  k := 2
  R := fun w vs x => ∃ v0 v1, vs = [v0, v1] ∧ RFra w v0 v1 x
  O := fun w a b vs x => ∃ v0 v1, vs = [v0, v1] ∧ OFra w a b v0 v1 x
  tot := totFra
  mkE := mkFra
  rlen := fun h => by obtain ⟨_, _, rfl, _⟩ := h; rfl
  ex := fun h he => by obtain ⟨v0, v1, e, h⟩ := h; exact ⟨v0, v1, e, h.ex he⟩
  rd := fun h => by obtain ⟨v0, v1, e, h⟩ := h; exact ⟨v0, v1, e, h.rd⟩
  keep := fun h hk => by obtain ⟨v0, v1, e, h⟩ := h; exact ⟨v0, v1, e, h.keep hk⟩
  nn := totFra_nn
  tmk := fun k x => by simp [totFra, mkFra, totI, mkI, mk_len]
def RF (w : World) (v : Value) (x : List Fra) : Prop := RS EF w v x
def totF (x : List Fra) : Int := totS EF x
def mkF (k : Int) (x : List Fra) : List Fra := mkS EF k x
theorem totF_nn (x : List Fra) : 0 ≤ totF x := totS_nn EF x
theorem RF.ex {w w' : World} {v : Value} {x : List Fra} (h : RF w v x) (he : Ex w w') : RF w' v x := RS.ex h he
theorem RF.tot {w : World} {v : Value} {x : List Fra} (h : RF w v x) : totF x ≤ 1125899906842624 := RS.tot h
theorem RF.form {w : World} {v : Value} {x : List Fra} (h : RF w v x) : ∃ A n c, v = .slice A n c := RS.form h
theorem RdS.frac {w : World} {A : Option Addr} {xs : List Fra} (h : RdS EF w A xs) {j : Nat} (hj : j < xs.length) :
    ∃ g off x P pc Q qc, A = some ⟨g, off, none⟩ ∧ xs[j]? = some x ∧ w.cell? ⟨g, off + j * 2, none⟩ = some (.slice P x.n.length pc) ∧ w.cell? ⟨g, off + j * 2 + 1, none⟩ = some (.slice Q x.d.length qc) ∧ Rd w P x.n ∧ Rd w Q x.d := by
  obtain ⟨g, off, vs, x, hA, hx, hc, v0, v1, rfl, ⟨P, pc, rfl, hP⟩, ⟨Q, qc, rfl, hQ⟩⟩ := h.at_ hj
  exact ⟨g, off, x, P, pc, Q, qc, hA, hx, hc 0 _ rfl, hc 1 _ rfl, hP, hQ⟩
def OF (w : World) (a b : Nat) (v : Value) (x : List Fra) : Prop := OS EF 40 w a b v x
theorem OF.rd {w : World} {a b : Nat} {v : Value} {x : List Fra} (h : OF w a b v x) : RF w v x := OS.rd h
theorem OF.ex {w w' : World} {a b : Nat} {v : Value} {x : List Fra} (h : OF w a b v x) (he : Ex w w') : OF w' a b v x := OS.ex h he
theorem OF.iv {w w' : World} {a b a' b' : Nat} {v : Value} {x : List Fra} (h : OF w a b v x) (k : ExI a' b' w w') (hd : b ≤ a' ∨ b' ≤ a) : OF w' a b v x := OS.iv h k hd
theorem OF.e1 {w w' : World} {a b g : Nat} {v : Value} {x : List Fra} (h : OF w a b v x) (k : Ex1 g w w') (hd : g < a ∨ b ≤ g) : OF w' a b v x := OS.e1 h k hd
theorem OF.more {w : World} {a b a' b' : Nat} {v : Value} {x : List Fra} (h : OF w a b v x) (ha : a' ≤ a) (hb : b ≤ b') : OF w a' b' v x := OS.more h ha hb
theorem fracInfo : (Tryd.prog.info? 40).map (fun i => (i.zero, i.size, i.bytes)) = some (some (.agg #[.slice none 0 0, .slice none 0 0]), 2, 48) := by kernel_rfl
set_option maxHeartbeats 2000000 in
theorem eqFractionS_u (x : List Fra) (v u : Value) (w : World) (h : RF w v x) (h' : RF w u x) :
    Calls Tryd.prog 55 #[v, u] w fun e w' => e = .returned (.bool true) ∧ Ex w w' := by
  obtain ⟨⟨A, c, rfl, h⟩, _⟩ := h
  obtain ⟨⟨A', c', rfl, h'⟩, _⟩ := h'
  have hl := h.1
  go_enter Tryd.func55, Tryd.ntmps55
  go_wp2
  go_loopw [5] (fun i wr => ∃ k : Nat, k ≤ x.length ∧ i = .int .i64 k ∧ Ex w wr) (fun i _ => x.length - (intOf i).toNat)
  case atStart => exact ⟨0, Nat.zero_le _, rfl, Ex.refl w⟩
  case round =>
    obtain ⟨k, hk, rfl, he⟩ := hrel
    by_cases hlt : k < x.length
    · obtain ⟨g, off, r, P, pc, Q, qc, rfl, hr, c0, c1, hP, hQ⟩ := (h.ex he).frac hlt
      obtain ⟨g', off', r', P', pc', Q', qc', rfl, hr', d0, d1, hP', hQ'⟩ := (h'.ex he).frac hlt
      obtain rfl : r = r' := by rw [hr] at hr'; injection hr'
      clear hr hr'
      have he1 := fun W (y : Ex wr W) => eqFraction_u r _ _ _ _ W ⟨⟨P, pc, rfl, hP.ex y⟩, ⟨Q, qc, rfl, hQ.ex y⟩⟩ ⟨⟨P', pc', rfl, hP'.ex y⟩, ⟨Q', qc', rfl, hQ'.ex y⟩⟩
      have HS : ∀ W, Ex wr W → (Ex wr W ∧ W.cell? ⟨g, off + k * 2, none⟩ = some (.slice P r.n.length pc) ∧ W.cell? ⟨g, off + k * 2 + 1, none⟩ = some (.slice Q r.d.length qc) ∧ W.cell? ⟨g', off' + k * 2, none⟩ = some (.slice P' r.n.length pc') ∧ W.cell? ⟨g', off' + k * 2 + 1, none⟩ = some (.slice Q' r.d.length qc')) := fun W y => ⟨y, cell_ex y c0, cell_ex y c1, cell_ex y d0, cell_ex y d1⟩
      have eA := (Ex.refl wr).drew
      go_wp2_with fail
      go_region_held3 (fun W => Ex wr W ∧ W.cell? ⟨g, off + k * 2, none⟩ = some (.slice P r.n.length pc) ∧ W.cell? ⟨g, off + k * 2 + 1, none⟩ = some (.slice Q r.d.length qc) ∧ W.cell? ⟨g', off' + k * 2, none⟩ = some (.slice P' r.n.length pc') ∧ W.cell? ⟨g', off' + k * 2 + 1, none⟩ = some (.slice Q' r.d.length qc')) (first
        | (exact HS _ x1) | (exact HS _ eA) | (exact HS _ (Ex.refl wr))) (first
        | (go_at_call 17
           have hb := (‹Ex wr _ ∧ _›).1
           refine (he1 _ hb).mono ?_
           rintro e w1 ⟨rfl, x1'⟩
           have x1 := hb.trans x1'
           clear hb))
      all_goals go_wp2
      all_goals exact ⟨⟨k + 1, by omega, by go_num, he.trans x1⟩, by simp [intOf] <;> omega⟩
    · obtain rfl : k = x.length := by omega
      go_wp2
      go_ret
      exact ⟨rfl, he⟩
set_option maxHeartbeats 4000000 in
theorem heldFractionS_u (x : List Fra) (v : Value) (k : Int) (w : World) (h : RF w v (mkF k x)) (hk0 : 0 ≤ k) (hk : k + totF x ≤ 4611686018427387904) :
    Calls Tryd.prog 57 #[v, .int .i64 k] w fun e w' => e = .returned (.int .i64 (k + totF x)) ∧ Ex w w' := by
  obtain ⟨⟨A, c, e, h⟩, ht⟩ := h
  rw [mkF, mkS_len] at e
  subst e
  have hl : x.length ≤ 1099511627776 := by have := h.1; rwa [mkF, mkS_len] at this
  go_enter Tryd.func57, Tryd.ntmps57
  go_wp2
  go_loopw [1, 5] (fun q i wr => ∃ j : Nat, j ≤ x.length ∧ q = .int .i64 (k + totS EF (x.take j)) ∧ i = .int .i64 j ∧ Ex w wr) (fun _ i _ => x.length - (intOf i).toNat)
  case atStart => exact ⟨0, Nat.zero_le _, by simp [totS], rfl, Ex.refl _⟩
  case round =>
    obtain ⟨j, hj, rfl, rfl, he⟩ := hrel
    by_cases hlt : j < x.length
    · obtain ⟨r, hr⟩ : ∃ r, x[j]? = some r := ⟨_, List.getElem?_eq_getElem hlt⟩
      have hm := mkS_at EF k x j r hr
      obtain ⟨g, off, r', P, pc, Q, qc, rfl, hr', c2, c3, hP, hQ⟩ := (h.ex he).frac (j := j) (by rw [mkF, mkS_len]; exact hlt)
      rw [mkF, hm] at hr'
      injection hr' with hr'
      subst hr'
      have s1 := totS_nn EF (x.take j)
      have s2 := totS_take_succ EF hr
      have s3 := totS_take_le EF x (j + 1)
      have e4 : EF.tot r = totI r.n + totI r.d := rfl
      have n0 := totI_nn r.n
      have n1 := totI_nn r.d
      rw [e4] at s2
      have hk4 : k + totS EF (x.take j) + (totI r.n + totI r.d) ≤ 4611686018427387904 := by have : totF x = totS EF x := rfl; omega
      have S2 := Lib.hid s2
      clear hr hm s2 e4
      obtain ⟨K, hK⟩ : ∃ K, k + totS EF (x.take j) = K := ⟨_, rfl⟩
      have HK := Lib.hid hK
      rw [hK] at hk4 c2 c3 hP hQ
      have hK0 : 0 ≤ K := by omega
      rw [hK]
      clear hK
      have q1 : RI wr (.slice P (EF.mkE K r).n.length pc) (mkI K r.n) := ⟨P, pc, rfl, hP⟩
      have q2 : RI wr (.slice Q (EF.mkE K r).d.length qc) (mkI (K + totI r.n) r.d) := ⟨Q, qc, rfl, hQ⟩
      have hPl := hP.len
      have hQl := hQ.len
      clear hP hQ
      generalize (EF.mkE K r).n.length = m1 at *
      generalize (EF.mkE K r).d.length = m2 at *
      go_wp2_with fail
      refine (heldIntS_u r.n (.slice P m1 pc) K wr q1 (by omega) (by omega)).mono ?_
      rintro e w1 ⟨rfl, x1⟩
      replace c2 := cell_ex x1 c2
      replace c3 := cell_ex x1 c3
      go_wp2_with fail
      refine (heldIntS_u r.d (.slice Q m2 qc) (K + totI r.n) w1 (q2.ex x1) (by omega) (by omega)).mono ?_
      rintro e w2 ⟨rfl, x2⟩
      have hQ : K + totI r.n + totI r.d = k + totS EF (x.take (j + 1)) := by have := S2.out; have := HK.out; omega
      have hX := (he.trans x1).trans x2
      clear c2 c3
      rw [hQ]
      clear hQ
      have hp : 0 ≤ k + totS EF (x.take (j + 1)) := by have := totS_nn EF (x.take (j + 1)); omega
      go_wp2_with fail
      go_roundw
      case rel => exact ⟨j + 1, by omega, rfl, by go_num, hX⟩
      case measure => simp [intOf] <;> omega
    · obtain rfl : j = x.length := by omega
      go_wp2
      go_ret
      rw [List.take_length]
      exact ⟨rfl, he⟩
end Go.Proofs.YtmekhjnhcgmphaaDoor
namespace Go.Proofs.YtmekhjnhcgmphaaDoor
set_option maxRecDepth 100000
open Go Go.RowKit
def RF0 (w : World) (v : Value) (x : List Fra) : Prop := ∃ A c, v = .slice A x.length c ∧ RdS EF w A x
theorem RF0.ex {w w' : World} {v : Value} {x : List Fra} (h : RF0 w v x) (he : Ex w w') : RF0 w' v x := by
  obtain ⟨A, c, e, r⟩ := h
  exact ⟨A, c, e, r.ex he⟩
theorem RF0.form {w : World} {v : Value} {x : List Fra} (h : RF0 w v x) : ∃ A c, v = .slice A x.length c ∧ RdS EF w A x := h
def OF0 (w : World) (a b : Nat) (v : Value) (x : List Fra) : Prop := ∃ A c, v = .slice A x.length c ∧ x.length ≤ c ∧ OwS EF 40 w a b A x
theorem totS_at_le {α : Type} (E : EK α) {xs : List α} {j : Nat} {x : α} (h : xs[j]? = some x) : E.tot x ≤ totS E xs := by
  have := totS_take_succ E h
  have := totS_take_le E xs (j + 1)
  have := totS_nn E (xs.take j)
  omega
def EFF : EK (List Fra) where
  k := 1
  R := fun w vs x => ∃ v, vs = [v] ∧ RF0 w v x
  O := fun w a b vs x => ∃ v, vs = [v] ∧ OF0 w a b v x
  tot := totF
  mkE := mkF
  rlen := fun h => by obtain ⟨_, rfl, _⟩ := h; rfl
  ex := fun h he => by obtain ⟨v, e, h⟩ := h; exact ⟨v, e, h.ex he⟩
  rd := fun h => by obtain ⟨v, e, A, c, e2, _, h⟩ := h; exact ⟨v, e, A, c, e2, h.rd⟩
  keep := fun h hk => by obtain ⟨v, e, A, c, e2, hc, h⟩ := h; exact ⟨v, e, A, c, e2, hc, h.keep hk⟩
  nn := totF_nn
  tmk := fun k x => totS_mk EF k x
def RFF (w : World) (v : Value) (x : List (List Fra)) : Prop := RS EFF w v x
def totFF (x : List (List Fra)) : Int := totS EFF x
def mkFF (k : Int) (x : List (List Fra)) : List (List Fra) := mkS EFF k x
theorem totFF_nn (x : List (List Fra)) : 0 ≤ totFF x := totS_nn EFF x
theorem RFF.ex {w w' : World} {v : Value} {x : List (List Fra)} (h : RFF w v x) (he : Ex w w') : RFF w' v x := RS.ex h he
theorem RFF.tot {w : World} {v : Value} {x : List (List Fra)} (h : RFF w v x) : totFF x ≤ 1125899906842624 := RS.tot h
theorem RFF.form {w : World} {v : Value} {x : List (List Fra)} (h : RFF w v x) : ∃ A n c, v = .slice A n c := RS.form h
theorem RdS.fracs {w : World} {A : Option Addr} {xs : List (List Fra)} (h : RdS EFF w A xs) {j : Nat} (hj : j < xs.length) :
    ∃ g off x v, A = some ⟨g, off, none⟩ ∧ xs[j]? = some x ∧ w.cell? ⟨g, off + j, none⟩ = some v ∧ RF0 w v x := by
  obtain ⟨g, off, vs, x, hA, hx, hc, v, rfl, hR⟩ := h.at_ hj
  have := hc 0 _ rfl
  rw [show EFF.k = 1 from rfl, Nat.mul_one, Nat.add_zero] at this
  exact ⟨g, off, x, v, hA, hx, this, hR⟩
def OFFi (w : World) (a b : Nat) (v : Value) (x : List (List Fra)) : Prop := OS EFF 70 w a b v x
theorem OFFi.rd {w : World} {a b : Nat} {v : Value} {x : List (List Fra)} (h : OFFi w a b v x) : RFF w v x := OS.rd h
theorem OFFi.ex {w w' : World} {a b : Nat} {v : Value} {x : List (List Fra)} (h : OFFi w a b v x) (he : Ex w w') : OFFi w' a b v x := OS.ex h he
theorem OFFi.iv {w w' : World} {a b a' b' : Nat} {v : Value} {x : List (List Fra)} (h : OFFi w a b v x) (k : ExI a' b' w w') (hd : b ≤ a' ∨ b' ≤ a) : OFFi w' a b v x := OS.iv h k hd
theorem OFFi.e1 {w w' : World} {a b g : Nat} {v : Value} {x : List (List Fra)} (h : OFFi w a b v x) (k : Ex1 g w w') (hd : g < a ∨ b ≤ g) : OFFi w' a b v x := OS.e1 h k hd
theorem OFFi.more {w : World} {a b a' b' : Nat} {v : Value} {x : List (List Fra)} (h : OFFi w a b v x) (ha : a' ≤ a) (hb : b ≤ b') : OFFi w a' b' v x := OS.more h ha hb
theorem fracsInfo : (Tryd.prog.info? 70).map (fun i => (i.zero, i.size, i.bytes)) = some (some (.slice none 0 0), 1, 24) := by kernel_rfl
set_option maxHeartbeats 2000000 in
theorem eqFractionSS_u (x : List (List Fra)) (v u : Value) (w : World) (h : RFF w v x) (h' : RFF w u x) :
    Calls Tryd.prog 30 #[v, u] w fun e w' => e = .returned (.bool true) ∧ Ex w w' := by
  obtain ⟨⟨A, c, rfl, h⟩, ht⟩ := h
  obtain ⟨⟨A', c', rfl, h'⟩, _⟩ := h'
  have hl := h.1
  go_enter Tryd.func30, Tryd.ntmps30
  go_wp2
  go_loopw [5] (fun i wr => ∃ k : Nat, k ≤ x.length ∧ i = .int .i64 k ∧ Ex w wr) (fun i _ => x.length - (intOf i).toNat)
  case atStart => exact ⟨0, Nat.zero_le _, rfl, Ex.refl w⟩
  case round =>
    obtain ⟨k, hk, rfl, he⟩ := hrel
    by_cases hlt : k < x.length
    · obtain ⟨g, off, r, v, rfl, hr, c0, hR0⟩ := (h.ex he).fracs hlt
      obtain ⟨g', off', r', v', rfl, hr', d0, hR0'⟩ := (h'.ex he).fracs hlt
      obtain rfl : r = r' := by rw [hr] at hr'; injection hr'
      have hR : RF wr v r := ⟨hR0, Int.le_trans (totS_at_le EFF hr) ht⟩
      have hR' : RF wr v' r := ⟨hR0', Int.le_trans (totS_at_le EFF hr) ht⟩
      clear hR0 hR0'
      obtain ⟨P, m, pc, rfl⟩ := hR.form
      obtain ⟨P', m', pc', rfl⟩ := hR'.form
      clear hr hr'
      have he1 := fun W (y : Ex wr W) => eqFractionS_u r _ _ W (hR.ex y) (hR'.ex y)
      have HS : ∀ W, Ex wr W → (Ex wr W ∧ W.cell? ⟨g, off + k, none⟩ = some (.slice P m pc) ∧ W.cell? ⟨g', off' + k, none⟩ = some (.slice P' m' pc')) := fun W y => ⟨y, cell_ex y c0, cell_ex y d0⟩
      have eA := (Ex.refl wr).drew
      go_wp2_with fail
      go_region_held3 (fun W => Ex wr W ∧ W.cell? ⟨g, off + k, none⟩ = some (.slice P m pc) ∧ W.cell? ⟨g', off' + k, none⟩ = some (.slice P' m' pc')) (first
        | (exact HS _ x1) | (exact HS _ eA) | (exact HS _ (Ex.refl wr))) (first
        | (go_at_call 55
           have hb := (‹Ex wr _ ∧ _›).1
           refine (he1 _ hb).mono ?_
           rintro e w1 ⟨rfl, x1'⟩
           have x1 := hb.trans x1'
           clear hb))
      all_goals go_wp2
      all_goals exact ⟨⟨k + 1, by omega, by go_num, he.trans x1⟩, by simp [intOf] <;> omega⟩
    · obtain rfl : k = x.length := by omega
      go_wp2
      go_ret
      exact ⟨rfl, he⟩
set_option maxHeartbeats 4000000 in
theorem heldFractionSS_u (x : List (List Fra)) (v : Value) (k : Int) (w : World) (h : RFF w v (mkFF k x)) (hk0 : 0 ≤ k) (hk : k + totFF x ≤ 4611686018427387904) :
    Calls Tryd.prog 34 #[v, .int .i64 k] w fun e w' => e = .returned (.int .i64 (k + totFF x)) ∧ Ex w w' := by
  obtain ⟨⟨A, c, e, h⟩, ht⟩ := h
  rw [mkFF, mkS_len] at e
  subst e
  have hl : x.length ≤ 1099511627776 := by have := h.1; rwa [mkFF, mkS_len] at this
  go_enter Tryd.func34, Tryd.ntmps34
  go_wp2
  go_loopw [1, 5] (fun q i wr => ∃ j : Nat, j ≤ x.length ∧ q = .int .i64 (k + totS EFF (x.take j)) ∧ i = .int .i64 j ∧ Ex w wr) (fun _ i _ => x.length - (intOf i).toNat)
  case atStart => exact ⟨0, Nat.zero_le _, by simp [totS], rfl, Ex.refl _⟩
  case round =>
    obtain ⟨j, hj, rfl, rfl, he⟩ := hrel
    by_cases hlt : j < x.length
    · obtain ⟨r, hr⟩ : ∃ r, x[j]? = some r := ⟨_, List.getElem?_eq_getElem hlt⟩
      have hm := mkS_at EFF k x j r hr
      obtain ⟨g, off, r', v, rfl, hr', c2, hR0⟩ := (h.ex he).fracs (j := j) (by rw [mkFF, mkS_len]; exact hlt)
      have hR : RF wr v r' := ⟨hR0, Int.le_trans (totS_at_le EFF hr') ht⟩
      clear hR0
      rw [mkFF, hm] at hr'
      injection hr' with hr'
      subst hr'
      obtain ⟨P, m, pc, rfl⟩ := hR.form
      have s1 := totS_nn EFF (x.take j)
      have s2 := totS_take_succ EFF hr
      have s3 := totS_take_le EFF x (j + 1)
      have e4 : EFF.tot r = totF r := rfl
      have n0 := totF_nn r
      rw [e4] at s2
      have hk4 : k + totS EFF (x.take j) + totF r ≤ 4611686018427387904 := by have : totFF x = totS EFF x := rfl; omega
      have S2 := Lib.hid s2
      clear hr hm s2 e4
      obtain ⟨K, hK⟩ : ∃ K, k + totS EFF (x.take j) = K := ⟨_, rfl⟩
      have HK := Lib.hid hK
      rw [hK] at hk4 hR
      have hK0 : 0 ≤ K := by omega
      rw [hK]
      clear hK
      go_wp2_with fail
      refine (heldFractionS_u r (.slice P m pc) K wr hR (by omega) (by omega)).mono ?_
      rintro e w1 ⟨rfl, x1⟩
      have hQ : K + totF r = k + totS EFF (x.take (j + 1)) := by have := S2.out; have := HK.out; omega
      have hX := he.trans x1
      clear c2
      rw [hQ]
      clear hQ
      have hp : 0 ≤ k + totS EFF (x.take (j + 1)) := by have := totS_nn EFF (x.take (j + 1)); omega
      go_wp2_with fail
      go_roundw
      case rel => exact ⟨j + 1, by omega, rfl, by go_num, hX⟩
      case measure => simp [intOf] <;> omega
    · obtain rfl : j = x.length := by omega
      go_wp2
      go_ret
      rw [List.take_length]
      exact ⟨rfl, he⟩
end Go.Proofs.YtmekhjnhcgmphaaDoor
namespace Go.Proofs.YtmekhjnhcgmphaaDoor
set_option maxRecDepth 100000
open Go Go.RowKit
theorem ofra_of_fr {w : World} {B : Nat} {A A' : Option Addr} {c c' : Nat} {x : Fra} (hA : Fr w B A c x.n) (hA' : Fr w B A' c' x.d) (h : Apart A A') (hB : B ≤ w.heap.size) : OFra w B w.heap.size (.slice A x.n.length c) (.slice A' x.d.length c') x := by
  have one : ∀ {A : Option Addr} {c : Nat} {l : List Int}, Fr w B A c l → ∃ a b, OI w a b (.slice A l.length c) l ∧ B ≤ a ∧ b ≤ w.heap.size ∧ ((A = none ∧ a = B ∧ b = B) ∨ ∃ p, A = some p ∧ a = p.block ∧ b = p.block + 1) := fun {A c l} hf => by
    cases A with
    | none => exact ⟨B, B, ⟨_, _, rfl, ⟨hf.1, hf.2.1, fun a e => by cases e⟩, fun a e => by cases e⟩, Nat.le_refl _, hB, .inl ⟨rfl, rfl, rfl⟩⟩
    | some p =>
      obtain ⟨h1, cur, h2⟩ := hf.2.2 p rfl
      exact ⟨p.block, p.block + 1, ⟨_, _, rfl, ⟨hf.1, hf.2.1, fun a e => by injection e with e; subst e; exact ⟨Nat.le_refl _, cur, h2⟩⟩, fun a e => by injection e with e; subst e; exact Nat.lt_succ_self _⟩, h1, heap_lt_of h2, .inr ⟨p, rfl, rfl, rfl⟩⟩
  obtain ⟨a0, b0, o0, l0, u0, k0⟩ := one hA
  obtain ⟨a1, b1, o1, l1, u1, k1⟩ := one hA'
  refine ⟨a0, b0, a1, b1, o0, o1, l0, u0, l1, u1, ?_⟩
  rcases k0 with ⟨_, e1, e2⟩ | ⟨p, e0, e1, e2⟩ <;> rcases k1 with ⟨_, e3, e4⟩ | ⟨q, e5, e3, e4⟩
  · omega
  · omega
  · omega
  · have := h p q e0 e5; omega
/-- How a fraction is owned. -/
def ELF : EL Fra where
  k := 2
  O := fun w a b vs x => ∃ v0 v1, vs = [v0, v1] ∧ OFra w a b v0 v1 x
  rlen := fun h => by obtain ⟨_, _, rfl, _⟩ := h; rfl
  keep := fun h hk => by obtain ⟨v0, v1, e, h⟩ := h; exact ⟨v0, v1, e, h.keep hk⟩
  one := fun h u hu => by
    obtain ⟨v0, v1, e, h⟩ := h
    obtain ⟨_, _, _, _, ⟨A, c, e0, _⟩, ⟨B, d, e1, _⟩, _⟩ := h
    subst e e0 e1
    simp at hu
    rcases hu with rfl | rfl <;> rfl
/-- A row of fractions that a call has collected. -/
def RowF (w : World) (a b : Nat) (v : Value) (x : List Fra) : Prop := v ≠ .slice none 0 0 ∧ GE ELF 40 w a b v x
def ELR : EL (List Fra) where
  k := 1
  O := fun w a b vs x => ∃ v, vs = [v] ∧ RowF w a b v x
  rlen := fun h => by obtain ⟨_, rfl, _⟩ := h; rfl
  keep := fun h hk => by obtain ⟨v, e, h1, h2⟩ := h; exact ⟨v, e, h1, h2.keep hk⟩
  one := fun h u hu => by
    obtain ⟨v, e, h1, h2⟩ := h
    obtain ⟨A, c, e2⟩ := h2.nilv
    subst e e2
    simp at hu
    subst hu; rfl
/-- A list of rows that a call has collected. -/
def RowsF (w : World) (a b : Nat) (v : Value) (x : List (List Fra)) : Prop := v ≠ .slice none 0 0 ∧ GE ELR 70 w a b v x
theorem RowF.ex {w w' : World} {a b : Nat} {v : Value} {x : List Fra} (h : RowF w a b v x) (he : Ex w w') : RowF w' a b v x := ⟨h.1, h.2.ex he⟩
theorem RowsF.ex {w w' : World} {a b : Nat} {v : Value} {x : List (List Fra)} (h : RowsF w a b v x) (he : Ex w w') : RowsF w' a b v x := ⟨h.1, h.2.ex he⟩
theorem push_frac {w : World} {B H : Nat} {v : Value} {xs : List Fra} (h : GE ELF 40 w B H v xs) (hH : H ≤ w.heap.size) {v0 v1 : Value} {x : Fra} {a b : Nat} (hu : OFra w a b v0 v1 x) (ha : H ≤ a) (hab : a ≤ b) (hb : b ≤ w.heap.size) (hB : B ≤ H) (hl : xs.length + 1 ≤ 1099511627776) :
    ∃ v' w', (Builtin.append_ #[70, 70] 70 #[v, .slice (some ⟨w.heap.size, 0, none⟩) 1 1]).run Tryd.prog (w.alloc (.cells #[v0, v1] 40)) = .ok v' w' ∧
      GE ELF 40 w' B w'.heap.size v' (xs ++ [x]) ∧ ExO v.ownBlock w w' ∧ v' ≠ .slice none 0 0 ∧ ∀ b', Ex b' w → b'.heap.size ≤ B → Ex b' w' := by
  obtain ⟨i, hi, hz, hs, hby⟩ := info_parts fracInfo
  obtain ⟨v', w', h1, h2, h3, _, h5, h6⟩ := GE.push ELF Tryd.underlying70 hi hz hs hby rfl (by decide) (by omega) h hH ⟨v0, v1, rfl, hu⟩ ha hab hb hB hl
  exact ⟨v', w', h1, h2, h3, h5, h6⟩
end Go.Proofs.YtmekhjnhcgmphaaDoor
namespace Go.Proofs.YtmekhjnhcgmphaaDoor
set_option maxRecDepth 100000
open Go Go.RowKit
theorem FBk.k1 {w w' : World} {S S' : Nat → Prop} {R : Nat → Nat → Prop} {b q : Nat} {xs : List Fra} (h : FBk w S b xs) (hO : Ow w S' R) (hR : ∀ o, o < 2 * xs.length → R b o) (hq : S' q) (hb : b ≠ q) (k : Ex1 q w w') : FBk w' S b xs := by
  have hl := h.lt
  obtain ⟨cur, hc, hx⟩ := h
  refine ⟨cur, (k.block b hl (by intro e; injection e with e; exact hb e)).trans hc, fun i x hi => ?_⟩
  obtain ⟨A, c, B, d, h1, h2, h3, h4⟩ := hx i x hi
  have hil := (List.getElem?_eq_some_iff.1 hi).1
  have kp : ∀ (o : Nat) (A : Option Addr) (n c : Nat) (l : List Int), o < 2 * xs.length → cur[o]? = some (.slice A n c) → RX w S A l → RX w' S A l := fun o A n c l ho hcu hr =>
    ⟨hr.1.keep fun a e hl => k.block _ hl (by
      subst e
      intro e2
      injection e2 with e2
      have := (hO b o a n c (hR o ho) (by simp [World.cell?, hc, hcu])).1.1
      exact this (e2 ▸ hq)), hr.2⟩
  exact ⟨A, c, B, d, h1, h2, kp _ A _ _ _ (by omega) h1 h3, kp _ B _ _ _ (by omega) h2 h4⟩
theorem RatM.k1 {w w' : World} {S S' : Nat → Prop} {R : Nat → Nat → Prop} {G n q : Nat} {bs : List (Option Nat)} {rows : List (List Fra)} (h : RatM w S G bs rows n) (hO : Ow w S' R) (hR : ∀ (j b : Nat), bs[j]? = some (some b) → ∀ o, o < 2 * n → R b o) (hq : S' q) (hS : ¬ S q) (k : Ex1 q w w') : RatM w' S G bs rows n := by
  have hl := h.lt
  obtain ⟨cur, hc, hx⟩ := h.out
  refine ⟨⟨cur, (k.block G hl (by intro e; injection e with e; exact hS (e ▸ h.sg))).trans hc, hx⟩, h.len, fun j ob r h1 h2 => ?_, h.nd, h.sg, h.ng⟩
  obtain ⟨q1, q2⟩ := h.row j ob r h1 h2
  refine ⟨?_, q2⟩
  cases ob with
  | none => exact q1
  | some b => exact ⟨q1.1.k1 hO (fun o ho => hR j b h1 o (by omega)) hq (fun e => hS (e ▸ q1.2)) k, q1.2⟩
theorem RtTwo.k1 {w w' : World} {S K : Nat → Prop} {G G' : Nat} {bs bs' : List (Option Nat)} {Z : List (List Fra)} {n m q : Nat} (h : RtTwo w S K G G' bs bs' Z n m) (hq : K q) (hS : ¬ S q) (k : Ex1 q w w') : RtTwo w' S K G G' bs bs' Z n m := by
  obtain ⟨R, hO, h1, h2, h3, h4, h5⟩ := h.own
  refine ⟨h.r.k1 hO (fun j b hb => (h4 j b hb).2) (.inr hq) hS k, h.a.k1 hO (fun j b hb => (h5 j b hb).2) (.inr hq) hS k, h.ne, h.d, h.d1, h.d2, fun z hz => Nat.lt_of_lt_of_le (h.sl z hz) k.size, fun z hz => Nat.lt_of_lt_of_le (h.kl z hz) k.size, R, ?_, h1, h2, h3, h4, h5⟩
  exact hO.sx (fun z o hz => h.sl z (h1 z o hz)) (ExS.of_ex1 (S := fun z => z = q) k rfl) (fun i e => .inr (e ▸ hq)) (fun i o e hr => hS (h1 q o (e ▸ hr)))
/-- A list of rows of a call's own, all its blocks from B on. -/
def RatO (w : World) (B : Nat) (v : Value) (rows : List (List Fra)) (n : Nat) : Prop :=
  ∃ (S S' : Nat → Prop) (R : Nat → Nat → Prop) (G : Nat) (bs : List (Option Nat)) (c : Nat), v = .slice (some ⟨G, 0, none⟩) rows.length c ∧ rows.length ≤ c ∧ RatM w S G bs rows n ∧ Ow w S' R ∧ (∀ z, S z → S' z) ∧ (∀ z, z < B → S' z) ∧ (∀ z, S z → B ≤ z ∧ z < w.heap.size) ∧
    (∀ z o, R z o → S z) ∧ (∀ (j b : Nat), bs[j]? = some (some b) → S b ∧ ∀ o, o < 2 * n → R b o)
theorem RatO.ex {w w' : World} {B n : Nat} {v : Value} {rows : List (List Fra)} (h : RatO w B v rows n) (he : Ex w w') : RatO w' B v rows n := by
  obtain ⟨S, S', R, G, bs, c, e, hc, hM, hO, h1, h2, h3, h4, h5⟩ := h
  exact ⟨S, S', R, G, bs, c, e, hc, hM.ex he, hO.sx (fun z o hz => (h3 z (h4 z o hz)).2) (ExS.of_ex (S := fun _ => False) he) (fun _ h => h.elim) (fun _ _ h => h.elim), h1, h2, fun z hz => ⟨(h3 z hz).1, Nat.lt_of_lt_of_le (h3 z hz).2 he.size⟩, h4, h5⟩
theorem RatM.take {w : World} {S : Nat → Prop} {G n : Nat} {bs : List (Option Nat)} {rows : List (List Fra)} (h : RatM w S G bs rows n) (r : Nat) : RatM w S G (bs.take r) (rows.take r) n := by
  have at_ : ∀ {α : Type} (l : List α) (j : Nat) (x : α), (l.take r)[j]? = some x → l[j]? = some x := fun l j x hj => by
    rw [List.getElem?_take] at hj
    split at hj
    · exact hj
    · cases hj
  obtain ⟨cur, hc, hx⟩ := h.out
  exact ⟨⟨cur, hc, fun j ob hj => hx j ob (at_ _ _ _ hj)⟩, by rw [List.length_take, List.length_take, h.len], fun j ob q h1 h2 => h.row j ob q (at_ _ _ _ h1) (at_ _ _ _ h2), fun i j b h1 h2 => h.nd i j b (at_ _ _ _ h1) (at_ _ _ _ h2), h.sg, fun j b hb => h.ng j b (at_ _ _ _ hb)⟩
theorem FBk.rds {w : World} {S : Nat → Prop} {b : Nat} {xs : List Fra} (h : FBk w S b xs) (hl : xs.length ≤ 1099511627776) : RdS EF w (some ⟨b, 0, none⟩) xs := by
  refine ⟨hl, fun j x hj => ?_⟩
  obtain ⟨A, c, B, d, h0, h1, h2, h3⟩ := h.at_ hj
  refine ⟨b, 0, [.slice A x.n.length c, .slice B x.d.length d], rfl, fun i u hi => ?_, _, _, rfl, ⟨A, c, rfl, h2.1⟩, ⟨B, d, rfl, h3.1⟩⟩
  rw [show EF.k = 2 from rfl, Nat.zero_add]
  match i, hi with
  | 0, hi => simp at hi; rw [← hi]; exact h0
  | 1, hi => simp at hi; rw [← hi]; exact h1
theorem RatM.rds {w : World} {S : Nat → Prop} {G n : Nat} {bs : List (Option Nat)} {rows : List (List Fra)} (h : RatM w S G bs rows n) (hl : rows.length ≤ 1099511627776) (hn : n ≤ 1099511627776) : RdS EFF w (some ⟨G, 0, none⟩) rows := by
  refine ⟨hl, fun j r hj => ?_⟩
  obtain ⟨ob, r', c, h1, h2, h3, h4, h5⟩ := h.at_ (List.getElem?_eq_some_iff.1 hj).1
  rw [hj] at h2
  injection h2 with h2
  subst h2
  refine ⟨G, 0, [.slice (pB ob) n c], rfl, fun i u hi => ?_, _, rfl, pB ob, c, by rw [h3], ?_⟩
  · rw [show EFF.k = 1 from rfl, Nat.zero_add, Nat.mul_one]
    match i, hi with
    | 0, hi => simp at hi; rw [← hi]; exact h5
  · cases ob with
    | none => obtain rfl : r = [] := h4; exact ⟨by simp, fun j x hj => by simp at hj⟩
    | some b => exact h4.1.rds (by omega)
theorem RatO.rds {w : World} {B n : Nat} {v : Value} {rows : List (List Fra)} (h : RatO w B v rows n) (hl : rows.length ≤ 1099511627776) (hn : n ≤ 1099511627776) : ∃ A c, v = .slice A rows.length c ∧ RdS EFF w A rows := by
  obtain ⟨S, S', R, G, bs, c, e, hc, hM, _⟩ := h
  exact ⟨_, c, e, hM.rds hl hn⟩
end Go.Proofs.YtmekhjnhcgmphaaDoor
