/- SeqCircuits, on both sides. -/
import Derived.Test.YtgblnkadmieflaaDoorCirW
import Derived.RegionCalls
import Derived.Deep.RegionWith
import Derived.Deep.RegionHeld3
import Derived.Deep.RegionLaw
import Derived.Deep.Cut
namespace Go.Proofs.YtgblnkadmieflaaDoor
set_option maxRecDepth 100000
open Go Go.RowKit
set_option maxHeartbeats 1000000 in
theorem hgList_c (L : Option Addr) (lc : Nat) (l : List Int) (T : Option Addr) (tc : Nat) (to : List Int) (w : World) (hl : Rd w L l) (ht : Rd w T to) (hb : ∀ k ∈ l, 0 ≤ k ∧ k < to.length) :
    Calls Tryd.prog 87 #[.slice L l.length lc, .slice T to.length tc] w fun e w' => LIo w (l.map (fun k => to.getD k.toNat 0)) e w' := by
  have hll := hl.len
  have hlt := ht.len
  have Hb := Lib.hid hb
  clear hb
  go_enter Tryd.func87, Tryd.ntmps87
  go_wp2_with fail
  go_loopw [5, 10] (fun o i wr => ∃ k : Nat, k ≤ l.length ∧ i = .int .i64 k ∧ AL wr w.heap.size o ((l.take k).map (fun k => to.getD k.toNat 0)) ∧ Ex w wr) (fun _ i _ => l.length - (intOf i).toNat)
  case atStart => exact ⟨0, Nat.zero_le _, rfl, AL.nil _ _, Ex.refl w⟩
  case round =>
    obtain ⟨k, hk, rfl, hal, he⟩ := hrel
    by_cases hlt : k < l.length
    · obtain ⟨g, off, x, rfl, hx, _, c1⟩ := (hl.ex he).at_ hlt
      have hxb := Hb.out x (List.mem_of_getElem? hx)
      obtain ⟨xn, rfl⟩ := Int.eq_ofNat_of_zero_le hxb.1
      have hxl := hxb.2
      obtain ⟨g', off', y, rfl, hy, _, c2⟩ := (ht.ex he).at_ (show xn < to.length by omega)
      have Hst := Lib.hid (show (l.take (k + 1)).map (fun k => to.getD k.toNat 0) = (l.take k).map (fun k => to.getD k.toNat 0) ++ [y] by
        rw [List.take_add_one, hx, List.map_append]
        simp [List.getD_eq_getElem?_getD, hy])
      have hlen : ((l.take k).map (fun k => to.getD k.toNat 0)).length = k := by rw [List.length_map, List.length_take]; omega
      have hz := he.size
      obtain ⟨v', w4, hrun2, hal4, hI⟩ := al_push_i wr w.heap.size u5 _ y hal hz (by omega)
      rw [← Hst.out] at hal4
      have he4 := he.iv hI (Nat.le_refl _)
      clear hx hy hlen
      go_wp2_with (at_builtin; refine wpList_append_run rfl _ _ _ rfl rfl rfl hrun2 ?_)
      go_roundw
      case rel => exact ⟨k + 1, by omega, by go_num, hal4, he4⟩
      case measure => simp [intOf]; omega
    · obtain rfl : k = l.length := by omega
      rw [List.take_length] at hal
      obtain ⟨O, oc, rfl, fo⟩ := hal.form (by rw [List.length_map]; omega)
      rw [List.length_map] at *
      go_wp2_with fail
      go_ret
      exact ⟨_, rfl, ⟨O, oc, by rw [List.length_map]; rfl, fo.fi⟩, he⟩
set_option maxHeartbeats 1000000 in
theorem chosen_c (L : Option Addr) (lc : Nat) (l : List Int) (T : Option Addr) (tc : Nat) (to : List Int) (w : World) (hl : Rd w L l) (ht : Rd w T to) (hb : ∀ k ∈ l, 0 ≤ k ∧ k < to.length) :
    Calls Tryd.prog 132 #[.slice T to.length tc, .slice L l.length lc] w fun e w' => LIo w (l.map (fun k => to.getD k.toNat 0)) e w' := by
  have hll := hl.len
  have hlt := ht.len
  have Hb := Lib.hid hb
  clear hb
  obtain ⟨i0, hi, hz0, hs, hby⟩ := info_parts intInfo
  obtain ⟨w1, hmk, hal, hg⟩ := run_make_own (P := Tryd.prog) w w.heap.size 23 3 i0 (.int .i64 0) 1 Tryd.underlying23 hi hz0 hs .i64 .i64 l.length (by rw [hby]; omega) (by unfold maxLen; omega) (Nat.le_refl _)
  have he1 : Ex w w1 := (Ex.refl w).exo (o := none) hg (fun g e => by cases e)
  have hal : AL w1 w.heap.size (.slice (some ⟨w.heap.size, 0, none⟩) 0 l.length) [] := hal
  clear hi hz0 hs hby
  go_enter Tryd.func132, Tryd.ntmps132
  go_wp2_with fail
  clear hmk hg
  go_loopw [5, 13] (fun o i wr => ∃ k : Nat, k ≤ l.length ∧ i = .int .i64 k ∧ AL wr w.heap.size o ((l.take k).map (fun k => to.getD k.toNat 0)) ∧ Ex w wr) (fun _ i _ => l.length - (intOf i).toNat)
  case atStart => exact ⟨0, Nat.zero_le _, rfl, hal, he1⟩
  case round =>
    obtain ⟨k, hk, rfl, hal, he⟩ := hrel
    by_cases hlt : k < l.length
    · obtain ⟨g, off, x, rfl, hx, _, c1⟩ := (hl.ex he).at_ hlt
      have hxb := Hb.out x (List.mem_of_getElem? hx)
      obtain ⟨xn, rfl⟩ := Int.eq_ofNat_of_zero_le hxb.1
      have hxl := hxb.2
      obtain ⟨g', off', y, rfl, hy, _, c2⟩ := (ht.ex he).at_ (show xn < to.length by omega)
      have Hst := Lib.hid (show (l.take (k + 1)).map (fun k => to.getD k.toNat 0) = (l.take k).map (fun k => to.getD k.toNat 0) ++ [y] by
        rw [List.take_add_one, hx, List.map_append]
        simp [List.getD_eq_getElem?_getD, hy])
      have hlen : ((l.take k).map (fun k => to.getD k.toNat 0)).length = k := by rw [List.length_map, List.length_take]; omega
      have hz := he.size
      obtain ⟨v', w4, hrun2, hal4, hI⟩ := al_push_i wr w.heap.size u5 _ y hal hz (by omega)
      rw [← Hst.out] at hal4
      have he4 := he.iv hI (Nat.le_refl _)
      clear hx hy hlen
      go_wp2_with (at_builtin; refine wpList_append_run rfl _ _ _ rfl rfl rfl hrun2 ?_)
      go_roundw
      case rel => exact ⟨k + 1, by omega, by go_num, hal4, he4⟩
      case measure => simp [intOf]; omega
    · obtain rfl : k = l.length := by omega
      rw [List.take_length] at hal
      obtain ⟨O, oc, rfl, fo⟩ := hal.form (by rw [List.length_map]; omega)
      rw [List.length_map] at *
      go_wp2_with fail
      go_ret
      exact ⟨_, rfl, ⟨O, oc, by rw [List.length_map]; rfl, fo.fi⟩, he⟩
theorem mapped_c (L : Option Addr) (lc : Nat) (l : List Int) (T : Option Addr) (tc : Nat) (to : List Int) (w : World) (hl : Rd w L l) (ht : Rd w T to) (hb : ∀ k ∈ l, 0 ≤ k ∧ k < to.length) :
    Calls Tryd.prog 96 #[.slice L l.length lc, .slice T to.length tc] w fun e w' => LIo w (l.map (fun k => to.getD k.toNat 0)) e w' := by
  have hc := chosen_c L lc l T tc to w hl ht hb
  go_enter Tryd.func96, Tryd.ntmps96
  go_wp2_with fail
  refine hc.mono ?_
  rintro e w1 ⟨v, rfl, f, x⟩
  go_wp2
  go_ret
  exact ⟨_, rfl, f, x⟩
theorem set_fill (xs : List Int) (m k : Nat) (hk : k < m) (hl : xs.length = k) (y : Int) : (xs ++ List.replicate (m - k) (0 : Int)).set k y = (xs ++ [y]) ++ List.replicate (m - (k + 1)) (0 : Int) := by
  rw [List.set_append_right _ _ (by omega), hl, Nat.sub_self, show m - k = (m - (k + 1)) + 1 by omega, List.replicate_succ, List.set_cons_zero, List.append_assoc]
  rfl
theorem fill_at (xs : List Int) (m k : Nat) (hk : k < m) (hl : xs.length = k) : (xs ++ List.replicate (m - k) (0 : Int))[k]? = some 0 := by
  rw [List.getElem?_append_right (by omega), hl, Nat.sub_self, List.getElem?_replicate, if_pos (by omega)]
theorem nonIn_snoc (gs : List Gt) (g : Gt) : nonIn (gs ++ [g]) = nonIn gs + (if g.kd = 1 then 0 else 1) := by
  by_cases h : g.kd = 1 <;> simp [nonIn, h]
theorem nonIn_le (gs : List Gt) : nonIn gs ≤ gs.length := List.countP_le_length
end Go.Proofs.YtgblnkadmieflaaDoor
