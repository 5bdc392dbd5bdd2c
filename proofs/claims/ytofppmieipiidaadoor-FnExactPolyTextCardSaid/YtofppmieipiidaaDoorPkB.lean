/- Contracts: lists of polynomials, fractions in lowest terms, valid fractions, on both sides. Contracts: valid fractions, on both sides; the laws' helpers on fractions. Contracts: the reference's valid fractions; the laws' helpers on fractions. -/
import Derived.Test.YtofppmieipiidaaDoorPkAD
import Derived.Test.YtofppmieipiidaaDoorPkC
import Derived.RegionCalls
import Derived.Deep.RegionWith
namespace Go.Proofs.YtofppmieipiidaaDoor
set_option maxRecDepth 100000
open Go Go.RowKit
/-- The slice that begins at A holds the values vs, one cell each. -/
def RdV (w : World) (A : Option Addr) (vs : List Value) : Prop :=
  vs.length ≤ 1099511627776 ∧ ∀ (j : Nat) (v : Value), vs[j]? = some v → ∃ g off, A = some ⟨g, off, none⟩ ∧ w.cell? ⟨g, off + j, none⟩ = some v
/-- The slice value v reads as the ints xs. -/
def IsS (w : World) (v : Value) (xs : List Int) : Prop := ∃ A c, v = .slice A xs.length c ∧ Rd w A xs
theorem IsS.ex {w w' : World} {v : Value} {xs : List Int} (h : IsS w v xs) (he : Ex w w') : IsS w' v xs := by
  obtain ⟨A, c, hv, hr⟩ := h
  exact ⟨A, c, hv, hr.ex he⟩
theorem RdV.at_ {w : World} {A : Option Addr} {vs : List Value} (h : RdV w A vs) {k : Nat} (hk : k < vs.length) :
    ∃ g off v, A = some ⟨g, off, none⟩ ∧ vs[k]? = some v ∧ g < w.heap.size ∧ w.cell? ⟨g, off + k, none⟩ = some v := by
  obtain ⟨g, off, hA, hc⟩ := h.2 k _ (List.getElem?_eq_getElem hk)
  exact ⟨g, off, _, hA, List.getElem?_eq_getElem hk, cell_lt hc, hc⟩
theorem RdV.ex {w w' : World} {A : Option Addr} {vs : List Value} (h : RdV w A vs) (he : Ex w w') : RdV w' A vs :=
  ⟨h.1, fun j v hj => by
    obtain ⟨g, off, hA, hc⟩ := h.2 j v hj
    exact ⟨g, off, hA, (World.cell?_of_block (w := w) (a := ⟨g, off + j, none⟩) (he.block (cell_lt (p := ⟨g, off + j, none⟩) hc))).trans hc⟩⟩
/-- A new row of values. -/
theorem RdV.new (w : World) (vs : List Value) (t : TypeId) (hl : vs.length ≤ 1099511627776) : RdV (w.alloc (.cells vs.toArray t)) (some ⟨w.heap.size, 0, none⟩) vs :=
  ⟨hl, fun j v hj => ⟨w.heap.size, 0, rfl, by
    rw [Nat.zero_add, World.cell?_alloc_at _ _ _ _ rfl]; simpa using hj⟩⟩
set_option maxHeartbeats 1000000 in
theorem arePolys_c (p : Int) (A : Option Addr) (c : Nat) (vs : List Value) (xss : List (List Int)) (w : World) (h : RdV w A vs) (hx : ∀ (j : Nat) (v : Value), vs[j]? = some v → ∃ xs, xss[j]? = some xs ∧ IsS w v xs) (hl : xss.length = vs.length) (ht : Tb w) :
    Calls Tryd.prog 16 #[.int .i64 p, .slice A vs.length c] w fun e w' => e = .returned (.bool (xss.all (polyB p) && fieldB p)) ∧ w = w' := by
  have hl1 := h.1
  have Hl := Lib.hid hl
  have Hx := Lib.hid hx
  clear hl hx
  go_enter Tryd.func16, Tryd.ntmps16
  go_wp2_with fail
  go_loop [9] (fun i => ∃ k : Nat, k ≤ vs.length ∧ Hid ((xss.take k).all (polyB p) = true) ∧ i = .int .i64 k) (fun i => vs.length - (intOf i).toNat)
  case atStart => exact ⟨0, Nat.zero_le _, rfl, rfl⟩
  case round =>
    obtain ⟨k, hk, Hall, rfl⟩ := hrel
    by_cases hlt : k < vs.length
    · obtain ⟨g, off, v, rfl, hv, hg, hc⟩ := h.at_ hlt
      obtain ⟨xs, hxs, A', c', rfl, hr⟩ := Hx.out k v hv
      have Hxs := Lib.hid hxs
      clear hv hxs
      cases hp : polyB p xs with
      | true =>
        have Hp := Lib.hid hp
        go_wp2_with (go_at_call 25; refine (isPoly_c _ _ _ _ _ hr ht).mono ?_; rintro e w' ⟨rfl, rfl⟩)
        go_round
        case rel => exact ⟨k + 1, by omega, by
          show _ = true
          rw [List.take_add_one, Hxs.out, List.all_append, Hall.out]; simp [Hp.out], by go_num⟩
        case measure => simp [intOf] <;> omega
      | false =>
        have Hp := Lib.hid hp
        go_wp2_with (go_at_call 25; refine (isPoly_c _ _ _ _ _ hr ht).mono ?_; rintro e w' ⟨rfl, rfl⟩)
        go_ret
        exact ⟨ret_bool (by rw [List.all_eq_false.2 ⟨xs, List.mem_of_getElem? Hxs.out, by simp [Hp.out]⟩]; rfl), rfl⟩
    · obtain rfl : k = vs.length := by omega
      go_wp2_with (go_at_call 26; refine (isField_c _ _ ht).mono ?_; rintro e w' ⟨rfl, rfl⟩)
      go_ret
      exact ⟨ret_bool (by have := Hall.out; rw [← Hl.out, List.take_length] at this; rw [this]; rfl), rfl⟩
end Go.Proofs.YtofppmieipiidaaDoor
namespace Go.Proofs.YtofppmieipiidaaDoor
set_option maxRecDepth 100000
open Go Go.RowKit
end Go.Proofs.YtofppmieipiidaaDoor
namespace Go.Proofs.YtofppmieipiidaaDoor
set_option maxRecDepth 100000
open Go Go.RowKit
end Go.Proofs.YtofppmieipiidaaDoor
