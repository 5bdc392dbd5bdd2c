/- The reference's kernel over Z/p: spLead, spNull. -/
import Derived.Test.YtmekhjnhcgmphaaDoorSpB
namespace Go.Proofs.YtmekhjnhcgmphaaDoor
set_option maxRecDepth 100000
open Go Go.RowKit
theorem all_val {p : Int} (v : List {a : Int // elB p a = true}) : allEl p (v.map Subtype.val) = true := by
  unfold allEl
  rw [List.all_eq_true]
  intro x hx
  obtain ⟨y, _, rfl⟩ := List.mem_map.1 hx
  exact y.2
theorem lift_all {p : Int} {rows : List (List Int)} (h : AllM p rows) : ∃ u : List (List {a : Int // elB p a = true}), rows = mp2 Subtype.val u := lift2 (P := fun a => elB p a = true) rows fun v hv x hx => by
  have := h v hv
  unfold allEl at this
  exact List.all_eq_true.1 this x hx
theorem zp_rref {p : Int} (hF : fieldB p = true) {n : Nat} {rows : List (List Int)} (hel : AllM p rows) (hw : Wid n rows) : Wid n ((zpOps p).rref n rows) ∧ (∀ r ∈ (zpOps p).rref n rows, (zpOps p).lead r < n) ∧ AllM p ((zpOps p).rref n rows) ∧ ((zpOps p).rref n rows).length ≤ n := by
  obtain ⟨u, rfl⟩ := lift_all hel
  have hwu := Wid.mp2.1 hw
  rw [(zpHom p hF).rref]
  have hI := rref_is (zpFld p hF) hwu
  refine ⟨Wid.mp2.2 hI.1, fun r hr => ?_, fun r hr => ?_, by rw [mp2, List.length_map]; exact rref_len _ hI⟩
  · obtain ⟨v, hv, rfl⟩ := List.mem_map.1 hr
    obtain ⟨t, ht⟩ := List.getElem?_of_mem hv
    obtain ⟨hW, P, hE⟩ := hI
    obtain ⟨q, _, e, hq⟩ := hE.lead hW ht
    rw [(zpHom p hF).lead, e]
    exact hq
  · obtain ⟨v, hv, rfl⟩ := List.mem_map.1 hr
    exact all_val v
theorem zp_null {p : Int} (hF : fieldB p = true) {n : Nat} {M : List (List Int)} (hel : AllM p M) : AllM p ((zpOps p).nullF n M) := by
  obtain ⟨u, rfl⟩ := lift_all hel
  rw [(zpHom p hF).nullF]
  intro v hv
  obtain ⟨x, _, rfl⟩ := List.mem_map.1 hv
  exact all_val x
variable {K : Type}
def Ops.nullTo (O : Ops K) (n : Nat) (R : List (List K)) (k : Nat) : List (List K) := ((List.range k).filter fun j => R.all fun r => O.lead r != j).map (O.nullv n R)
theorem nullTo_yes {O : Ops K} {n : Nat} {R : List (List K)} {k : Nat} (h : ∀ r ∈ R, O.lead r ≠ k) : O.nullTo n R (k + 1) = O.nullTo n R k ++ [O.nullv n R k] := by
  unfold Ops.nullTo
  rw [List.range_succ, List.filter_append, List.map_append]
  congr 1
  have : (R.all fun r => O.lead r != k) = true := by rw [List.all_eq_true]; intro r hr; exact bne_iff_ne.2 (h r hr)
  rw [List.filter_cons, this]; rfl
theorem nullTo_no {O : Ops K} {n : Nat} {R : List (List K)} {k : Nat} {r : List K} (hr : r ∈ R) (h : O.lead r = k) : O.nullTo n R (k + 1) = O.nullTo n R k := by
  unfold Ops.nullTo
  rw [List.range_succ, List.filter_append, List.map_append]
  have : (R.all fun r => O.lead r != k) = false := by
    rw [← Bool.not_eq_true, List.all_eq_true]
    intro h2
    have := h2 r hr
    rw [h] at this
    simp at this
  rw [List.filter_cons, this]
  simp
theorem nullTo_len {O : Ops K} {n : Nat} {R : List (List K)} (k : Nat) : (O.nullTo n R k).length ≤ k := by
  unfold Ops.nullTo
  rw [List.length_map]
  exact Nat.le_trans (List.length_filter_le _ _) (by simp)
theorem nset_succ {O : Ops K} {R : List (List K)} {i j : Nat} {r : List K} {v : List K} (hr : R[i]? = some r) : (O.nset (R.take i) j v).set (O.lead r) (O.neg (O.el r j)) = O.nset (R.take (i + 1)) j v := by
  unfold Ops.nset
  rw [List.take_add_one, hr, Option.toList, List.foldl_append]; rfl
theorem zlead_at {p : Int} {v : List Int} {k : Nat} (hk : k ≤ v.length) (h0 : ∀ i x, i < k → v[i]? = some x → x = 0) (h1 : ∀ x, v[k]? = some x → x ≠ 0) : (zpOps p).lead v = k := by
  unfold Ops.lead
  rcases Nat.lt_or_ge k v.length with h | h
  · rw [List.findIdx_eq h]
    refine ⟨?_, fun j hj => ?_⟩
    · have := h1 _ (List.getElem?_eq_getElem h)
      rw [zp_isz]; simpa using this
    · have := h0 j _ hj (List.getElem?_eq_getElem (by omega))
      rw [zp_isz, this]; rfl
  · obtain rfl : k = v.length := by omega
    rw [List.findIdx_eq_length]
    intro x hx
    obtain ⟨i, hi⟩ := List.getElem?_of_mem hx
    rw [zp_isz, h0 i x (List.getElem?_eq_some_iff.1 hi).1 hi]; rfl
theorem fdNeg_c (p a : Int) (w : World) (h2 : 2 ≤ p) (h97 : p ≤ 97) (ha : 0 ≤ a ∧ a < p) : Calls Tryd.prog 110 #[.int .i64 p, .int .i64 a] w fun e w' => e = .returned (.int .i64 ((zpOps p).neg a)) ∧ w = w' := by
  have e : (zpOps p).neg a = (p - a) % p := by
    show (-a) % p = _
    rw [show p - a = -a + p by omega, Int.add_emod_right]
  rw [e]
  clear e
  go_enter Tryd.func110, Tryd.ntmps110
  go_wp2
  go_ret
  exact ⟨by simp, rfl⟩
set_option maxHeartbeats 4000000 in
theorem spLead_c (p : Int) (v : List Int) (A : Option Addr) (c : Nat) (w : World) (h : Rd w A v) :
    Calls Tryd.prog 109 #[.slice A v.length c] w fun e w' => e = .returned (.int .i64 ((zpOps p).lead v)) ∧ w = w' := by
  have hl := h.len
  go_enter Tryd.func109, Tryd.ntmps109
  go_wp2_with fail
  go_loopw [3] (fun s3 wr => ∃ k : Nat, k ≤ v.length ∧ s3 = .int .i64 k ∧ Hid (∀ i x, i < k → v[i]? = some x → x = 0) ∧ w = wr) (fun s3 _ => v.length - (intOf s3).toNat)
  case atStart => exact ⟨0, Nat.zero_le _, rfl, Lib.hid (fun i x h => by omega), rfl⟩
  case round =>
    obtain ⟨k, hk, rfl, H0, rfl⟩ := hrel
    by_cases hkl : k < v.length
    · obtain ⟨g, off, x, rfl, hx, hg, hc⟩ := h.at_ hkl
      have Hx := Lib.hid hx
      clear hx
      by_cases hx0 : x = 0
      · have hxe : (x == 0) = true := by rw [hx0]; rfl
        have Hx0 := Lib.hid hx0
        clear hx0
        go_wp2_with fail
        go_roundw
        case rel => exact ⟨k + 1, by omega, by go_num, Lib.hid (fun i y h1 h2 => by
          by_cases e : i = k
          · subst e; rw [Hx.out] at h2; injection h2 with h2; rw [← h2]; exact Hx0.out
          · exact H0.out i y (by omega) h2), trivial⟩
        case measure => simp [intOf]; omega
      · have hxe : (x == 0) = false := by simp; exact hx0
        have HL := Lib.hid (zlead_at (p := p) hk H0.out (fun y hy => by rw [Hx.out] at hy; injection hy with hy; rw [← hy]; exact hx0))
        clear hx0
        go_wp2_with fail
        go_ret
        exact ⟨by rw [HL.out]; rfl, rfl⟩
    · have HL := Lib.hid (zlead_at (p := p) hk H0.out (fun y hy => by have := (List.getElem?_eq_some_iff.1 hy).1; omega))
      have hkk : k = v.length := by omega
      subst hkk
      go_wp2_with fail
      go_ret
      exact ⟨by rw [HL.out]; rfl, rfl⟩
end Go.Proofs.YtmekhjnhcgmphaaDoor
