/- A range over slices.Backward whose body may know that what comes is a coefficient and its exponent. -/
import Derived.Test.YtfggacnkediolaaGreatDoorPtA
import Derived.Test.YtfggacnkediolaaGreatDoorRFunc
namespace Go.Proofs.YtfggacnkediolaaGreatDoor
set_option maxRecDepth 100000
open Go Go.RowKit Go.Shelf
attribute [local go_sem] Oper.semAt_some
def GoodZ (z : Nat × Int) : Prop := z.1 < 41 ∧ 0 ≤ z.2 ∧ z.2 < 97
instance (z : Nat × Int) : Decidable (GoodZ z) := by unfold GoodZ; infer_instance
def bwS (zs : List Int) (j : Nat) : {z : Nat × Int // GoodZ z} := if h : GoodZ (bwAt zs j) then ⟨bwAt zs j, h⟩ else ⟨(0, 0), by unfold GoodZ; decide⟩
theorem bwS_val {zs : List Int} {j : Nat} (h : GoodZ (bwAt zs j)) : (bwS zs j).1 = bwAt zs j := by unfold bwS; rw [dif_pos h]
theorem bwS_map {zs : List Int} {k : Nat} (h : ∀ j, j < k → GoodZ (bwAt zs j)) : (upto (bwS zs) k).map Subtype.val = upto (bwAt zs) k := by
  unfold upto
  rw [List.map_map]
  refine List.map_congr_left fun j hj => ?_
  exact bwS_val (h j (List.mem_range.1 hj))
theorem good_bw {f : List Int} (hl : f.length ≤ 41) (hf : ∀ x ∈ f, 0 ≤ x ∧ x < 97) : ∀ k, k < f.length → GoodZ (bwAt f k) := fun k hk => by
  obtain ⟨h1, h2, h3, _⟩ := bw_small hk hl hf
  exact ⟨h1, h2, h3⟩
set_option maxHeartbeats 2000000 in
theorem bw1S_in (F : Fence) (n : Nat) (h7 : F.fn 65) (hro : F.round = none) (hn : 1 ≤ n) (l Bs n₀ : Nat) (A : Option Addr) (cap : Nat) (zs : List Int) (hG : ∀ k, k < zs.length → GoodZ (bwAt zs k)) (J Jx : List {z : Nat × Int // GoodZ z} → World → Prop)
    (hY : ∀ pre x W, J pre W → pre.length < zs.length → YieldAt F (n - 1) Tryz.prog l #[.int .i64 (x.1.1 : Int), .int .i64 x.1.2] W fun e W' =>
      (e = .returned (.bool true) ∧ J (pre ++ [x]) W' ∧ KpB n₀ Bs W W') ∨ (e = .returned (.bool false) ∧ Jx (pre ++ [x]) W'))
    (W : World) (hBs : W.cell? ⟨Bs, 0, none⟩ = some (.slice A zs.length cap)) (hc : Rd W A zs) (hlo : zs ≠ [] → Lo A n₀) (h0 : J [] W) :
    CallsIn F n Tryz.prog 65 #[.func (.yield l) #[] #[], .pointer (some ⟨Bs, 0, none⟩)] W fun e W' => (∃ v, e = .returned v) ∧
      ((∃ ys, ys = upto (bwS zs) zs.length ∧ J ys W') ∨ (∃ pre, (∃ k, k ≤ zs.length ∧ pre = upto (bwS zs) k) ∧ Jx pre W')) := by
  have hl := hc.len
  refine callsIn_of_wp Tryz.func65 rfl h7 ?_ hro
  simp only [Tryz.ntmps65, List.size_toArray, List.length_cons, List.length_nil, Nat.reduceAdd, Nat.reduceSub, Array.replicate_succ, Array.replicate_zero, List.push_toArray, List.append_toArray, List.nil_append, List.cons_append]
  gi_wp2
  gi_loopw [3] (fun i wr => ∃ k : Nat, k ≤ zs.length ∧ i = .int .i64 ((zs.length : Int) - 1 - (k : Int)) ∧ J (upto (bwS zs) k) wr ∧ KpB n₀ Bs W wr) (fun i _ => (intOf i + 1).toNat)
  case atStart => exact ⟨0, Nat.zero_le _, by simp, h0, KpB.refl _ _ _⟩
  case round =>
    obtain ⟨k, hk, rfl, hJs, hnx⟩ := hrel
    have hBr : wr.cell? ⟨Bs, 0, none⟩ = some (.slice A zs.length cap) := (World.cell?_of_block (w := W) (a := ⟨Bs, 0, none⟩) hnx.2).trans hBs
    by_cases hlt : k < zs.length
    · obtain ⟨m, hm⟩ : ∃ m : Nat, m = zs.length - 1 - k := ⟨_, rfl⟩
      have hmi : (zs.length : Int) - 1 - (k : Int) = (m : Int) := by omega
      have hml : m < zs.length := by omega
      obtain ⟨g, off, x, rfl, hx, hg, hcell⟩ := hc.at_ hml
      have hne : zs ≠ [] := by intro e; rw [e] at hlt; simp at hlt
      have hgn : g < n₀ := hlo hne _ rfl
      have hcr : wr.cell? ⟨g, off + m, none⟩ = some (.int .i64 x) := (hnx.1.cell (p := ⟨g, off + m, none⟩) hgn).trans hcell
      obtain ⟨fn, tmps, assign, body, hy, hR⟩ := hY _ (bwS zs k) wr hJs (by rw [upto_length]; exact hlt)
      have eb : (bwS zs k).1 = (m, x) := by rw [bwS_val (hG k hlt), bwAt, ← hm, hx]; rfl
      rw [eb] at hy
      dsimp only at hy
      have Hk := Lib.hid hk
      have Hx := Lib.hid hx
      have Hm := Lib.hid hm
      have Hmi := Lib.hid hmi
      have Eb := Lib.hid eb
      rw [hmi]
      clear hk hx hm hmi eb hcell
      gi_wp2
      refine hR.mono ?_
      rintro e W3 (⟨rfl, hJ3, hk3⟩ | ⟨rfl, hJx3⟩)
      · gi_wp2
        go_roundw
        case rel => exact ⟨k + 1, by omega, by have := Hmi.out; congr 1; omega, by rw [upto_succ]; exact hJ3, hnx.trans hk3⟩
        case measure => simp [intOf]
      · gi_wp2
        refine bodyPost_ret (results_none rfl _ _ _) rfl ?_
        exact ⟨⟨_, rfl⟩, .inr ⟨_, ⟨k + 1, by omega, by rw [upto_succ]⟩, hJx3⟩⟩
    · obtain rfl : k = zs.length := by omega
      rw [show (zs.length : Int) - 1 - (zs.length : Int) = -1 by omega]
      gi_wp2
      go_end0
      exact ⟨⟨_, rfl⟩, .inl ⟨_, rfl, hJs⟩⟩
theorem bwS_stops (F : Fence) (n : Nat) (h8 : F.fn 65) (hro : F.round = none) (hn : 1 ≤ n) (Bs n₀ : Nat) (A : Option Addr) (cap : Nat) (zs : List Int) (hG : ∀ k, k < zs.length → GoodZ (bwAt zs k)) (w : World) (hBs : Bs < w.heap.size)
    (hc : w.cell? ⟨Bs, 0, none⟩ = some (.slice A zs.length cap)) (hr : Rd w A zs) (hlo : zs ≠ [] → Lo A n₀) :
    SeqStopsK F n Tryz.prog 65 #[.pointer (some ⟨Bs, 0, none⟩)] (fun x : {z : Nat × Int // GoodZ z} => #[Value.int .i64 (x.1.1 : Int), Value.int .i64 x.1.2]) (KpB n₀ Bs) (fun ys => ys = upto (bwS zs) zs.length)
      (fun pre => ∃ k, k ≤ zs.length ∧ pre = upto (bwS zs) k) zs.length w := fun l J Jx W hW _ _ hY h0 => by
  have hc' := (hW.cell (p := ⟨Bs, 0, none⟩) hBs).trans hc
  exact bw1S_in F n h8 hro hn l Bs n₀ A cap zs hG J Jx hY W hc' (hr.ex hW) hlo h0
end Go.Proofs.YtfggacnkediolaaGreatDoor
