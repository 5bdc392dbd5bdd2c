/- The first fraction other than 0, by slices.IndexFunc and slices.ContainsFunc with the program's closures. -/
import Derived.Test.YtpeogfapnofeoaaGreatDoorSRr
import Derived.Test.YtpeogfapnofeoaaGreatDoorRtM
namespace Go.Proofs.YtpeogfapnofeoaaGreatDoor
set_option maxRecDepth 100000
open Go Go.RowKit
theorem iszF_dec (x : Fra) : decide (x.n = []) = iszF x := by
  rw [Bool.eq_iff_iff, iszF_iff]; simp
def ixF (xs : List Fra) : Int := if leadF xs < xs.length then (leadF xs : Int) else -1
theorem hasNon1_c (A B : Option Addr) (c d : Nat) (x : Fra) (w : World) (hl : x.n.length ≤ 1099511627776) :
    Calls Tryz.prog 40 #[.agg #[.slice A x.n.length c, .slice B x.d.length d]] w fun e w' => e = .returned (.bool (!iszF x)) ∧ Ex w w' := by
  have x0 := (Ex.refl w).alloc (.cells #[.slice A x.n.length c, .slice B x.d.length d] 58)
  have hz := isNought_c A B c d x.n x.d (w.alloc (.cells #[.slice A x.n.length c, .slice B x.d.length d] 58)) hl
  rw [iszF_dec] at hz
  go_enter Tryz.func40, Tryz.ntmps40
  go_wp2_with fail
  refine hz.mono ?_
  rintro e w1 ⟨rfl, x1⟩
  go_wp2_with fail
  go_ret
  exact ⟨rfl, x0.trans x1⟩
theorem hasNon2_c (A B : Option Addr) (c d : Nat) (x : Fra) (w : World) (hl : x.n.length ≤ 1099511627776) :
    Calls Tryz.prog 45 #[.agg #[.slice A x.n.length c, .slice B x.d.length d]] w fun e w' => e = .returned (.bool (!iszF x)) ∧ Ex w w' := by
  have x0 := (Ex.refl w).alloc (.cells #[.slice A x.n.length c, .slice B x.d.length d] 58)
  have hz := isNought_c A B c d x.n x.d (w.alloc (.cells #[.slice A x.n.length c, .slice B x.d.length d] 58)) hl
  rw [iszF_dec] at hz
  go_enter Tryz.func45, Tryz.ntmps45
  go_wp2_with fail
  refine hz.mono ?_
  rintro e w1 ⟨rfl, x1⟩
  go_wp2_with fail
  go_ret
  exact ⟨rfl, x0.trans x1⟩
set_option maxHeartbeats 2000000 in
theorem idxFrac_c (G : FuncId) (eg : ∀ args w, (callFunc G args).run Tryz.prog w = .ok (.enter G args) w)
    (hG : ∀ (P Q : Option Addr) (pc qc : Nat) (x : Fra) (W : World), x.n.length ≤ 1099511627776 → Calls Tryz.prog G #[.agg #[.slice P x.n.length pc, .slice Q x.d.length qc]] W fun e w' => e = .returned (.bool (!iszF x)) ∧ Ex W w')
    (A : Option Addr) (c : Nat) (xs : List Fra) (w : World) (h : RdS EF w A xs) :
    Calls Tryz.prog 39 #[.slice A xs.length c, .func (.func G) #[] #[]] w fun e w' => e = .returned (.int .i64 (ixF xs)) ∧ Ex w w' := by
  have hl := h.1
  go_enter Tryz.func39, Tryz.ntmps39
  go_wp2_with fail
  go_loopw [8] (fun i wr => ∃ k : Nat, k ≤ xs.length ∧ i = .int .i64 k ∧ Hid (∀ (j : Nat) (x : Fra), j < k → xs[j]? = some x → iszF x = true) ∧ Ex w wr) (fun i _ => xs.length - (intOf i).toNat)
  case atStart => exact ⟨0, Nat.zero_le _, rfl, Lib.hid (fun j x h => by omega), Ex.refl _⟩
  case round =>
    obtain ⟨k, hk, rfl, Hz, he⟩ := hrel
    by_cases hlt : k < xs.length
    · obtain ⟨g, off, x, P, pc, Q, qc, rfl, hx, c0, c1, hP, hQ⟩ := (h.ex he).frac hlt
      have Hx := Lib.hid hx
      have hz := hG P Q pc qc x wr hP.len
      cases hb : iszF x with
      | true =>
        have Hb := Lib.hid hb
        rw [hb] at hz
        clear hb hx
        go_wp2_with fail
        refine hz.mono ?_
        rintro e w1 ⟨rfl, x1⟩
        go_wp2_with fail
        go_roundw
        case rel => exact ⟨k + 1, by omega, by go_num, Lib.hid (fun j y hj hy => by
          by_cases e : j = k
          · subst e; rw [Hx.out] at hy; injection hy with hy; rw [← hy]; exact Hb.out
          · exact Hz.out j y (by omega) hy), he.trans x1⟩
        case measure => simp [intOf]; omega
      | false =>
        have HL := Lib.hid (show ixF xs = k by
          have hL : leadF xs = k := by
            rw [leadF, List.findIdx_eq (by omega)]
            have hxe : xs[k] = x := by rw [List.getElem?_eq_getElem hlt] at hx; injection hx
            refine ⟨by rw [hxe, hb]; rfl, fun j hj => by
              have := Hz.out j _ hj (List.getElem?_eq_getElem (by omega))
              rw [this]; rfl⟩
          rw [ixF, hL, if_pos hlt])
        rw [hb] at hz
        clear hb hx
        go_wp2_with fail
        refine hz.mono ?_
        rintro e w1 ⟨rfl, x1⟩
        go_wp2_with fail
        go_ret
        exact ⟨by rw [HL.out]; rfl, he.trans x1⟩
    · obtain rfl : k = xs.length := by omega
      have HL := Lib.hid (show ixF xs = -1 by
        have hL : leadF xs = xs.length := by
          rw [leadF, List.findIdx_eq_length]
          intro x hx
          obtain ⟨j, hj⟩ := List.getElem?_of_mem hx
          rw [Hz.out j x (List.getElem?_eq_some_iff.1 hj).1 hj]; rfl
        rw [ixF, hL, if_neg (by omega)])
      go_wp2_with fail
      go_ret
      exact ⟨by rw [HL.out]; rfl, he⟩
set_option maxHeartbeats 1000000 in
theorem conFrac_c (G : FuncId) (eg : ∀ args w, (callFunc G args).run Tryz.prog w = .ok (.enter G args) w)
    (hG : ∀ (P Q : Option Addr) (pc qc : Nat) (x : Fra) (W : World), x.n.length ≤ 1099511627776 → Calls Tryz.prog G #[.agg #[.slice P x.n.length pc, .slice Q x.d.length qc]] W fun e w' => e = .returned (.bool (!iszF x)) ∧ Ex W w')
    (A : Option Addr) (c : Nat) (xs : List Fra) (w : World) (h : RdS EF w A xs) :
    Calls Tryz.prog 44 #[.slice A xs.length c, .func (.func G) #[] #[]] w fun e w' => e = .returned (.bool (decide (leadF xs < xs.length))) ∧ Ex w w' := by
  have hl := h.1
  have hi := idxFrac_c G eg hG A c xs w h
  have hle : leadF xs ≤ xs.length := List.findIdx_le_length
  clear eg hG
  by_cases hlt : leadF xs < xs.length
  · have hix : ixF xs = (leadF xs : Int) := if_pos hlt
    rw [hix] at hi
    have HD := Lib.hid (decide_eq_true hlt)
    obtain ⟨L, hL⟩ : ∃ L, leadF xs = L := ⟨_, rfl⟩
    rw [hL] at hi
    clear hix hlt hle
    go_enter Tryz.func44, Tryz.ntmps44
    go_wp2_with fail
    refine hi.mono ?_
    rintro e w1 ⟨rfl, x1⟩
    go_wp2_with fail
    go_ret
    exact ⟨ret_bool (by rw [HD.out]), x1⟩
  · have hix : ixF xs = -1 := if_neg hlt
    rw [hix] at hi
    have HD := Lib.hid (decide_eq_false hlt)
    clear hix hlt hle
    go_enter Tryz.func44, Tryz.ntmps44
    go_wp2_with fail
    refine hi.mono ?_
    rintro e w1 ⟨rfl, x1⟩
    go_wp2_with fail
    go_ret
    exact ⟨ret_bool (by rw [HD.out]), x1⟩
end Go.Proofs.YtpeogfapnofeoaaGreatDoor
