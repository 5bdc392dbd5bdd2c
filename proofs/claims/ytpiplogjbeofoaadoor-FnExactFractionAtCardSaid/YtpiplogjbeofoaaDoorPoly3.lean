/- Contracts of the reference's functions on polynomials: sums, multiples, products. -/
import Derived.Test.YtpiplogjbeofoaaDoorPoly2
namespace Go.Proofs.YtpiplogjbeofoaaDoor
set_option maxRecDepth 100000
open Go Go.RowKit
theorem addAt_set0 (p : Int) (v : List Int) (s : Nat) (b : Int) (w : List Int) (k : Nat) (hk : k < w.length) {y : Int} (hy : w[k]? = some y) {x : Int} (hx : cf v (s + k) = x) :
    (addAt p v s b (w.take k)).set (s + k) ((x + b * y) % p) = addAt p v s b (w.take (k + 1)) := by
  rw [← addAt_take_succ p v s b w k hk, hx, cf_of hy]
theorem take_step (f : List Int) (n k : Nat) (hk : k < f.length) (hn : f.length ≤ n) {x : Int} (hx : f[k]? = some x) :
    (f.take k ++ (List.replicate n (0 : Int)).drop k).set k x = f.take (k + 1) ++ (List.replicate n (0 : Int)).drop (k + 1) := by
  apply List.ext_getElem?
  intro j
  obtain ⟨_, rfl⟩ := List.getElem?_eq_some_iff.1 hx
  simp only [List.getElem?_set, List.getElem?_append, List.getElem?_take, List.length_take, List.drop_replicate, List.getElem?_replicate, List.length_append, List.length_replicate]
  grind
set_option maxHeartbeats 1000000 in
theorem poAdd_c (p : Int) (A B : Option Addr) (c d : Nat) (f g : List Int) (w : World) (hf : Rd w A f) (hg : Rd w B g) (h2 : 2 ≤ p) (h97 : p ≤ 97) (hfe : allEl p f = true) (hge : allEl p g = true) :
    Calls Tryd.prog 147 #[.int .i64 p, .slice A f.length c, .slice B g.length d] w fun e w' => ∃ A' c', e = .returned (.slice A' (pAdd p f 1 g).length c') ∧ Fr w' w.heap.size A' c' (pAdd p f 1 g) ∧ Ex w w' := by
  have hl := hf.len
  have hl' := hg.len
  obtain ⟨n, hn⟩ : ∃ n : Nat, n = max f.length g.length := ⟨_, rfl⟩
  have hfn : f.length ≤ n := by omega
  have hgn : g.length ≤ n := by omega
  have hn2 : n ≤ 1099511627776 := by omega
  have hni : max (f.length : Int) (g.length : Int) = (n : Int) := by omega
  have Hn := Lib.hid hn
  have Hfe := Lib.hid hfe
  have Hge := Lib.hid hge
  clear hn hfe hge
  have hmk := fun W => run_make_ints n hn2 W
  have ho0 := Own.new w (List.replicate n 0)
  have he0 := (Ex.refl w).alloc (iObj (List.replicate n 0))
  go_enter Tryd.func147, Tryd.ntmps147
  go_wp2_with (go_at_call 128; refine (l1Most_c _ _ _).mono ?_; rintro e w' ⟨rfl, rfl⟩)
  clear hmk
  go_loopw [20] (fun i wr => ∃ k : Nat, k ≤ f.length ∧ i = .int .i64 k ∧ Own wr w.heap.size (f.take k ++ (List.replicate n 0).drop k) ∧ Ex w wr) (fun i _ => f.length - (intOf i).toNat)
  case atStart => exact ⟨0, Nat.zero_le _, rfl, by simpa using ho0, he0⟩
  case round =>
    obtain ⟨k, hk, rfl, hok, hek⟩ := hrel
    by_cases hlt : k < f.length
    · obtain ⟨g', off, x, rfl, hx, hg', hcell⟩ := (hf.ex hek).at_ hlt
      have hc2 := hok.cell (i := k) (x := 0) (by rw [List.getElem?_append_right (by simp; omega), List.drop_replicate, List.getElem?_replicate, if_pos (by simp; omega)])
      have hfz := hok.frozen k
      have hso := hok.set_ k x
      rw [take_step f n k hlt hfn hx] at hso
      have hkn : k < n := by omega
      clear hx
      go_wp2_with fail
      go_roundw
      case rel => exact ⟨k + 1, by omega, by go_num, hso, hek.setCell (Nat.le_refl _) _⟩
      case measure => simp [intOf]; omega
    · obtain rfl : k = f.length := by omega
      rw [List.take_length, copy_pad] at hok
      have hpl := Lib.hid (padTo_len hfn)
      have hpe := Lib.hid (padTo_el Hfe.out (by omega) n)
      go_wp2_with fail
      go_loopw [32] (fun i wr => ∃ k : Nat, k ≤ g.length ∧ i = .int .i64 k ∧ Own wr w.heap.size (addAt p (padTo f n) 0 1 (g.take k)) ∧ Ex w wr) (fun i _ => g.length - (intOf i).toNat)
      case atStart => exact ⟨0, Nat.zero_le _, rfl, by rw [List.take_zero, addAt_nil]; exact hok, hek⟩
      case round =>
        obtain ⟨k, hk, rfl, hok, hek⟩ := hrel
        by_cases hlt : k < g.length
        · obtain ⟨g', off, y, rfl, hy, hg', hcell⟩ := (hg.ex hek).at_ hlt
          have hcf : (addAt p (padTo f n) 0 1 (g.take k))[k]? = some (cf (padTo f n) k) := addAt_at (by rw [hpl.out]; omega) (by simp; omega)
          have hcx := hok.cell hcf
          have hfz := hok.frozen k
          have hbx := cf_bd hpe.out (by omega) k
          have hby := allEl_at Hge.out hy
          have hso := hok.set_ k ((cf (padTo f n) k + y) % p)
          have hst := addAt_set0 p (padTo f n) 0 1 g k hlt hy rfl
          rw [Nat.zero_add, Int.one_mul] at hst
          rw [hst] at hso
          have hkn : k < n := by omega
          generalize cf (padTo f n) k = x at *
          clear hcf hy hst
          go_wp2_with (go_at_call 148; refine (fdAdd_c _ _ _ _ h2 (by omega) (by omega)).mono ?_; rintro e w' ⟨rfl, rfl⟩)
          go_roundw
          case rel => exact ⟨k + 1, by omega, by go_num, hso, hek.setCell (Nat.le_refl _) _⟩
          case measure => simp [intOf]; omega
        · obtain rfl : k = g.length := by omega
          rw [List.take_length] at hok
          have hll : (addAt p (padTo f n) 0 1 g).length = n := by rw [addAt_len, hpl.out]
          have hP : trim (addAt p (padTo f n) 0 1 g) = pAdd p f 1 g := by rw [pAdd, ← Hn.out]
          have HP := Lib.hid hP
          have Hll := Lib.hid hll
          have hr := hok.rd (by omega)
          clear hP hll
          go_wp2_with fail
          rw [← Hll.out]
          refine (poTrim_c _ _ _ _ hr (Nat.le_refl _)).mono ?_
          rintro e w4 ⟨g4, c4, rfl, hc4, hg4, ho4, hx4⟩
          rw [HP.out] at hc4 ho4 ⊢
          have hpl2 := pAdd_le p f 1 g
          go_wp2_with fail
          go_ret
          exact ⟨_, c4, rfl, ho4.fr (by omega) (by have := hek.size; omega) hc4, hek.trans hx4⟩
set_option maxHeartbeats 1000000 in
theorem poTimes_c (p : Int) (A : Option Addr) (c : Nat) (b : Int) (f : List Int) (w : World) (hf : Rd w A f) (h2 : 2 ≤ p) (h97 : p ≤ 97) (hfe : allEl p f = true) (hb : 0 ≤ b ∧ b ≤ 96) :
    Calls Tryd.prog 140 #[.int .i64 p, .int .i64 b, .slice A f.length c] w fun e w' => ∃ A' c', e = .returned (.slice A' (pScale p b f).length c') ∧ Fr w' w.heap.size A' c' (pScale p b f) ∧ Ex w w' := by
  have hl := hf.len
  have Hfe := Lib.hid hfe
  clear hfe
  have hmk := fun W => run_make_ints f.length hl W
  have ho0 := Own.new w (List.replicate f.length 0)
  have he0 := (Ex.refl w).alloc (iObj (List.replicate f.length 0))
  go_enter Tryd.func140, Tryd.ntmps140
  go_wp2_with fail
  clear hmk
  go_loopw [15] (fun i wr => ∃ k : Nat, k ≤ f.length ∧ i = .int .i64 k ∧ Own wr w.heap.size (addAt p (List.replicate f.length 0) 0 b (f.take k)) ∧ Ex w wr) (fun i _ => f.length - (intOf i).toNat)
  case atStart => exact ⟨0, Nat.zero_le _, rfl, by rw [List.take_zero, addAt_nil]; exact ho0, he0⟩
  case round =>
    obtain ⟨k, hk, rfl, hok, hek⟩ := hrel
    by_cases hlt : k < f.length
    · obtain ⟨g', off, y, rfl, hy, hg', hcell⟩ := (hf.ex hek).at_ hlt
      have hcf : (addAt p (List.replicate f.length 0) 0 b (f.take k))[k]? = some (cf (List.replicate f.length 0) k) := addAt_at (by simp; omega) (by simp; omega)
      rw [rep_cf] at hcf
      have hcx := hok.cell hcf
      have hfz := hok.frozen k
      have hby := allEl_at Hfe.out hy
      have hso := hok.set_ k (b * y % p)
      have hst := addAt_set0 p (List.replicate f.length 0) 0 b f k hlt hy (rep_cf _ _)
      rw [Nat.zero_add, Int.zero_add] at hst
      rw [hst] at hso
      clear hcf hy hst
      go_wp2_with (go_at_call 99; refine (fdMul_c _ _ _ _ h2 hb (by omega)).mono ?_; rintro e w' ⟨rfl, rfl⟩)
      go_roundw
      case rel => exact ⟨k + 1, by omega, by go_num, hso, hek.setCell (Nat.le_refl _) _⟩
      case measure => simp [intOf]; omega
    · obtain rfl : k = f.length := by omega
      rw [List.take_length] at hok
      have hP : trim (addAt p (List.replicate f.length 0) 0 b f) = pScale p b f := by
        rw [pScale, pAdd]; simp [padTo]
      have HP := Lib.hid hP
      have hr := hok.rd (by rw [addAt_len]; simpa using hl)
      have Hll := Lib.hid (show (addAt p (List.replicate f.length 0) 0 b f).length = f.length by rw [addAt_len]; simp)
      clear hP
      go_wp2_with fail
      rw [← Hll.out]
      refine (poTrim_c _ _ _ _ hr (Nat.le_refl _)).mono ?_
      rintro e w4 ⟨g4, c4, rfl, hc4, hg4, ho4, hx4⟩
      rw [HP.out] at hc4 ho4 ⊢
      have hpl2 : (pScale p b f).length ≤ f.length := by have := pAdd_le p [] b f; simpa [pScale] using this
      go_wp2_with fail
      go_ret
      exact ⟨_, c4, rfl, ho4.fr (by omega) (by have := hek.size; omega) hc4, hek.trans hx4⟩
theorem pSub_eq {p : Int} (h2 : 2 ≤ p) {f g : List Int} (hf : allEl p f = true) : pAdd p f 1 (pScale p (p - 1) g) = pAdd p f (-1) g := by
  have h := fun i => pAdd_cf p 1 (pScale p (p - 1) g) hf (by omega) i
  have h' := fun i => pAdd_cf p (-1) g hf (by omega) i
  have t1 := pAdd_tr p f 1 (pScale p (p - 1) g)
  have t2 := pAdd_tr p f (-1) g
  unfold Tr at t1 t2
  rw [← t1, ← t2]
  refine trim_ext fun i => ?_
  rw [h, h', pScale, pAdd_cf p _ g (allEl_nil p) (by omega), cf_nil, Int.zero_add, Int.one_mul, Int.add_emod_emod]
  rw [show cf f i + (p - 1) * cf g i = cf f i + -1 * cf g i + p * cf g i by rw [Int.sub_mul]; omega, Int.add_mul_emod_self_left]
set_option maxHeartbeats 1000000 in
theorem poSub_c (p : Int) (A B : Option Addr) (c d : Nat) (f g : List Int) (w : World) (hf : Rd w A f) (hg : Rd w B g) (h2 : 2 ≤ p) (h97 : p ≤ 97) (hfe : allEl p f = true) (hge : allEl p g = true) :
    Calls Tryd.prog 82 #[.int .i64 p, .slice A f.length c, .slice B g.length d] w fun e w' => ∃ A' c', e = .returned (.slice A' (pAdd p f (-1) g).length c') ∧ Fr w' w.heap.size A' c' (pAdd p f (-1) g) ∧ Ex w w' := by
  have He := Lib.hid (pSub_eq h2 (g := g) hfe)
  have hse : allEl p (pScale p (p - 1) g) = true := pAdd_el (allEl_nil p) (by omega) _ _
  go_enter Tryd.func82, Tryd.ntmps82
  go_wp2_with fail
  refine (poTimes_c p B d (p - 1) g w hg h2 h97 hge (by omega)).mono ?_
  rintro e w1 ⟨A1, c1, rfl, f1, x1⟩
  go_wp2_with fail
  refine (poAdd_c p A A1 c c1 f (pScale p (p - 1) g) w1 (hf.ex x1) f1.rd h2 h97 hfe hse).mono ?_
  rintro e w2 ⟨A2, c2, rfl, f2, x2⟩
  rw [He.out] at f2 ⊢
  go_wp2_with fail
  go_ret
  exact ⟨A2, c2, rfl, f2.more x1.size, x1.trans x2⟩
end Go.Proofs.YtpiplogjbeofoaaDoor
