/- Runs of state spaces: ssPlus, crLists, isRun; lists of lists that grow. -/
import Derived.Test.YtkpfmnconnopnaaDoorCmb
import Derived.Test.YtkpfmnconnopnaaDoorSer3
import Derived.RegionCalls
import Derived.Deep.RegionWith
import Derived.Deep.Cut
import Derived.Deep.RegionLaw
namespace Go.Proofs.YtkpfmnconnopnaaDoor
set_option maxRecDepth 100000
open Go Go.RowKit
/-- An append whose run is known, as a step of a region that draws. -/
theorem step_append_run {P : Program} {ops : Array Oper} {o : Oper} {a : Act} {w : World} {K : Act → World → Prop} {Q : Exit → Act → World → Prop} {E : Prop}
    (hg : o.guard = none) (s x : Operand) (t : TypeId) (ho : o.op = Op.call { callee := Callee.builtin Builtin.append, args := #[s, x], argTypes := #[t, t] })
    {vs vx v' : Value} {w' : World} (hs : a.eval s = vs) (hx : a.eval x = vx) (hrun : (Builtin.append_ #[t, t] o.type #[vs, vx]).run P w = .ok v' w') (hK : K (a.put o.dst v') w') :
    if Region.wanted o (yielded ops a.tmps) = true then Oper.wp P o a w K Q else E := by
  have hw : Region.wanted o (yielded ops a.tmps) = true := by simp [Region.wanted, hg]
  rw [if_pos hw]
  unfold Oper.wp execOp
  simp only [ho, resolve, invoke, builtin, Sem.run_bind, Sem.run_pure, Result.andThen_ok, List.map_toArray, List.map_cons, List.map_nil, hs, hx, hrun]
  exact hK
def plsTo (p : Int) (a b : List Int) (k : Nat) : List Int := (List.range k).map fun i => (cf a i + cf b i) % p
def pls (p : Int) (a b : List Int) : List Int := plsTo p a b a.length
theorem plsTo_len (p : Int) (a b : List Int) (k : Nat) : (plsTo p a b k).length = k := by simp [plsTo]
theorem plsTo_succ (p : Int) (a b : List Int) (k : Nat) : plsTo p a b (k + 1) = plsTo p a b k ++ [(cf a k + cf b k) % p] := by simp [plsTo, List.range_succ]
theorem pls_addAt (p : Int) (a b : List Int) (h : a.length = b.length) : addAt p a 0 1 b = pls p a b := by
  refine cf_ext (by rw [addAt_len, pls, plsTo_len]) fun i => ?_
  rw [addAt_cf, pls, plsTo, range_cf]
  by_cases hi : i < a.length
  · rw [if_pos hi, if_pos hi, if_pos ⟨Nat.zero_le _, by omega⟩, Nat.sub_zero, Int.one_mul]
  · rw [if_neg hi, if_neg hi]
theorem pls_el {p : Int} (hp : 0 < p) (a b : List Int) : allEl p (pls p a b) = true := allEl_of fun i x hx => by
  have h := cf_of hx
  have hl : i < a.length := by have := (List.getElem?_eq_some_iff.1 hx).1; rwa [pls, plsTo_len] at this
  rw [pls, plsTo, range_cf, if_pos hl] at h
  rw [← h]
  exact ⟨Int.emod_nonneg _ (by omega), Int.emod_lt_of_pos _ hp⟩
set_option maxHeartbeats 1000000 in
theorem ssPlus_c (p : Int) (A B : Option Addr) (c d : Nat) (a b : List Int) (w : World) (ha : Rd w A a) (hb : Rd w B b) (h2 : 2 ≤ p) (h97 : p ≤ 97) (hae : allEl p a = true) (hbe : allEl p b = true) (hl : a.length = b.length) :
    Calls Tryd.prog 84 #[.int .i64 p, .slice A a.length c, .slice B b.length d] w fun e w' => LI w (pls p a b) e w' := by
  have la := ha.len
  have lb := hb.len
  have Hae := Lib.hid hae
  have Hbe := Lib.hid hbe
  have Hl := Lib.hid hl
  clear hae hbe hl
  go_enter Tryd.func84, Tryd.ntmps84
  go_wp2_with fail
  go_loopw [7, 11] (fun o i wi => ∃ k : Nat, k ≤ a.length ∧ i = .int .i64 k ∧ AL wi w.heap.size o (plsTo p a b k) ∧ Ex w wi) (fun _ i _ => a.length - (intOf i).toNat)
  case atStart => exact ⟨0, Nat.zero_le _, rfl, AL.nil _ _, Ex.refl w⟩
  case round =>
    obtain ⟨k, hk, rfl, hal, hek⟩ := hrel
    by_cases hlt : k < a.length
    · obtain ⟨gA, oA, x, rfl, hx, hgA, qa⟩ := (ha.ex hek).at_ hlt
      obtain ⟨gB, oB, y, rfl, hy, hgB, qb⟩ := (hb.ex hek).at_ (by rw [← Hl.out]; exact hlt : k < b.length)
      have hkb : k < b.length := by rw [← Hl.out]; exact hlt
      have hxb := allEl_at Hae.out hx
      have hyb := allEl_at Hbe.out hy
      have Hst := Lib.hid (show plsTo p a b (k + 1) = plsTo p a b k ++ [(x + y) % p] by rw [plsTo_succ, cf_of hx, cf_of hy])
      clear hx hy
      obtain ⟨v', w2, hrun, hal2, hex2⟩ := al_push wr.drew w.heap.size _ _ ((x + y) % p) hal.drew hek.size (by rw [plsTo_len]; omega)
      have hE2 := hex2 w hek.drew (Nat.le_refl _)
      rw [← Hst.out] at hal2
      go_wp2_with fail
      go_region_law (first | (refine step_append_run rfl _ _ _ rfl rfl rfl hrun ?_) | (go_simp; go_at_call 124; refine (fdAdd_c p x y _ h2 (by omega) (by omega)).mono ?_; rintro e _ ⟨rfl, rfl⟩))
      all_goals
        go_wp2
        go_roundw
        case rel => exact ⟨k + 1, by omega, by go_num, hal2, hE2⟩
        case measure => simp [intOf]; omega
      done
    · have hka : k = a.length := by omega
      subst hka
      obtain ⟨A', c', rfl, hf⟩ := hal.form (by rw [plsTo_len]; omega)
      go_wp2_with fail
      go_ret
      exact ⟨A', c', rfl, hf, hek⟩
theorem crLists_c (p n : Int) (A : Option Addr) (c : Nat) (m : List (List Int)) (w : World) (h : RdM w A m) (h2 : 2 ≤ p) (h97 : p ≤ 97) :
    Calls Tryd.prog 47 #[.int .i64 p, .int .i64 n, .slice A m.length c] w fun e w' => e = .returned (.bool (decide ((m.length : Int) ≤ 60) && rowsB p n m)) ∧ w = w' := by
  have hl := h.1
  go_enter Tryd.func47, Tryd.ntmps47
  by_cases hm : (m.length : Int) ≤ 60
  · go_wp2_with fail
    refine (spRows_c p n A c m w h h2 h97).mono ?_
    rintro e _ ⟨rfl, rfl⟩
    go_wp2_with fail
    go_ret
    simp [hm]
  · go_wp2_with fail
    go_ret
    refine ⟨?_, rfl⟩
    rw [decide_eq_false (by omega), Bool.false_and]
    rfl
theorem isRun_c (p n : Int) (A : Option Addr) (c : Nat) (m : List (List Int)) (w : World) (h : RdM w A m) :
    Calls Tryd.prog 50 #[.int .i64 p, .slice A m.length c, .int .i64 n] w fun e w' => e = .returned (.bool (decide ((m.length : Int) ≤ 60) && rowsB p n m)) ∧ w = w' := by
  have hl := h.1
  go_enter Tryd.func50, Tryd.ntmps50
  by_cases hm : (m.length : Int) ≤ 60
  · go_wp2_with fail
    refine (areVectors_c p n A c m w h).mono ?_
    rintro e _ ⟨rfl, rfl⟩
    go_wp2_with fail
    go_ret
    simp [hm]
  · go_wp2_with fail
    go_ret
    refine ⟨?_, rfl⟩
    rw [decide_eq_false (by omega), Bool.false_and]
    rfl
end Go.Proofs.YtkpfmnconnopnaaDoor
