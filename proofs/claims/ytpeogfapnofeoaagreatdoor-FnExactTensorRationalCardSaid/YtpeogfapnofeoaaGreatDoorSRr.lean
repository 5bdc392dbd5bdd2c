/- The reference's small functions on rational rows. -/
import Derived.Test.YtpeogfapnofeoaaGreatDoorRtA
import Derived.Test.YtpeogfapnofeoaaGreatDoorPkG
import Derived.Deep.RegionLaw
namespace Go.Proofs.YtpeogfapnofeoaaGreatDoor
set_option maxRecDepth 100000
open Go Go.RowKit
set_option maxHeartbeats 400000 in
theorem l1Same_c (A B : Option Addr) (c d : Nat) (xs ys : List Int) (w : World) (h : Rd w A xs) (h' : Rd w B ys) :
    Calls Tryz.prog 118 #[.slice A xs.length c, .slice B ys.length d] w fun e w' => e = .returned (.bool (decide (xs = ys))) ∧ Ex w w' := by
  have hl := h.len
  have hl' := h'.len
  by_cases hn : xs.length = ys.length
  case neg =>
    have hb : ((xs.length : Int) != (ys.length : Int)) = true := by simp; omega
    have he : decide (xs = ys) = false := by simp; intro e; exact hn (by rw [e])
    have He := Lib.hid he
    clear he
    go_enter Tryz.func118, Tryz.ntmps118
    go_wp2
    go_ret
    exact ⟨by rw [He.out]; rfl, Ex.refl w⟩
  have hb : ((xs.length : Int) != (ys.length : Int)) = false := by simp; omega
  have hn2 : ys.length ≤ xs.length := by omega
  have hn3 : xs.length ≤ ys.length := by omega
  have Hn := Lib.hid hn
  clear hn
  go_enter Tryz.func118, Tryz.ntmps118
  go_wp2
  go_loopw [13] (fun i wr => ∃ k : Nat, k ≤ xs.length ∧ i = .int .i64 k ∧ Hid (xs.take k = ys.take k) ∧ ∃ n, wr = w.drewN n) (fun i _ => xs.length - (intOf i).toNat)
  case atStart => exact ⟨0, Nat.zero_le _, rfl, rfl, 0, rfl⟩
  case round =>
    obtain ⟨k, hk, rfl, He, n, rfl⟩ := hrel
    by_cases hlt : k < xs.length
    · have hlt2 : k < ys.length := by omega
      obtain ⟨g, off, x, rfl, hx, hg, hc⟩ := h.at_ hlt
      obtain ⟨g', off', y, rfl, hy, hg', hc'⟩ := h'.at_ hlt2
      have Hx := Lib.hid hx
      have Hy := Lib.hid hy
      clear hx hy
      by_cases hxy : x = y
      · subst hxy
        go_wp2
        go_quiet (fail)
        go_wp2
        go_roundw
        case rel => exact ⟨k + 1, by omega, by go_num, by
          show _ = _
          rw [List.take_add_one, List.take_add_one, Hx.out, Hy.out, He.out], _, rfl⟩
        case measure => simp [intOf] <;> omega
      · have hbx : (x != y) = true := by simpa using hxy
        have he : decide (xs = ys) = false := by
          simp; rintro rfl
          have := Hx.out; rw [Hy.out] at this; injection this with this; exact hxy this.symm
        have He2 := Lib.hid he
        clear he hxy
        go_wp2
        go_quiet (fail)
        go_wp2
        go_ret
        exact ⟨by rw [He2.out]; rfl, ((Ex.refl w).drewN _).drewN _⟩
    · obtain rfl : k = xs.length := by omega
      have he : decide (xs = ys) = true := by
        have := He.out
        rw [List.take_length, List.take_of_length_le (by omega)] at this
        simpa using this
      have He2 := Lib.hid he
      clear he
      go_wp2
      go_ret
      exact ⟨by rw [He2.out]; rfl, (Ex.refl w).drewN _⟩
set_option maxHeartbeats 1000000 in
theorem frSame_c (A B A' B' : Option Addr) (c d c' d' : Nat) (x y : Fra) (w : World) (h1 : Rd w A x.n) (h2 : Rd w B x.d) (h3 : Rd w A' y.n) (h4 : Rd w B' y.d) :
    Calls Tryz.prog 91 #[.agg #[.slice A x.n.length c, .slice B x.d.length d], .agg #[.slice A' y.n.length c', .slice B' y.d.length d']] w fun e w' => e = .returned (.bool (decide (x.n = y.n) && decide (x.d = y.d))) ∧ Ex w w' := by
  obtain ⟨n, m⟩ := x
  obtain ⟨n', m'⟩ := y
  dsimp only at h1 h2 h3 h4 ⊢
  have x0 : ∀ (a b : Obj), Ex w ((w.alloc a).alloc b) := fun a b => ((Ex.refl w).alloc a).alloc b
  by_cases hn : n = n'
  · have hd : decide (n = n') = true := by simpa using hn
    have Hd := Lib.hid hd
    clear hn
    go_enter Tryz.func91, Tryz.ntmps91
    go_wp2_with fail
    refine (l1Same_c A A' c c' n n' _ (h1.ex (x0 _ _)) (h3.ex (x0 _ _))).mono ?_
    rintro e w1 ⟨rfl, x1⟩
    have c0 := cell_ex x1 (g := w.heap.size) (o := 1) (v := .slice B m.length d) (box2a _ _ _ _ _).2
    have c1 := cell_ex x1 (g := w.heap.size + 1) (o := 1) (v := .slice B' m'.length d') (box2b _ _ _ _ _).2
    have xx := (x0 _ _).trans x1
    clear x0 x1
    rw [hd]
    clear hd
    go_wp2_with fail
    refine (l1Same_c B B' d d' m m' _ (h2.ex xx) (h4.ex xx)).mono ?_
    rintro e w2 ⟨rfl, x2⟩
    go_wp2
    go_ret
    exact ⟨by rw [Hd.out]; rfl, xx.trans x2⟩
  · have hd : decide (n = n') = false := by simpa using hn
    have Hd := Lib.hid hd
    clear hn
    go_enter Tryz.func91, Tryz.ntmps91
    go_wp2_with fail
    refine (l1Same_c A A' c c' n n' _ (h1.ex (x0 _ _)) (h3.ex (x0 _ _))).mono ?_
    rintro e w1 ⟨rfl, x1⟩
    have xx := (x0 _ _).trans x1
    clear x0 x1
    rw [hd]
    clear hd
    go_wp2
    go_ret
    exact ⟨by rw [Hd.out]; rfl, xx⟩
set_option maxHeartbeats 1000000 in
theorem frOne_c (w : World) : Calls Tryz.prog 92 #[] w fun e w' => FFx w oF e w' := by
  go_enter Tryz.func92, Tryz.ntmps92
  go_wp2_with fail
  have x1 := (Ex.refl w).alloc (.cells #[.slice (some ⟨w.heap.size + 1, 0, none⟩) 1 1, .slice (some ⟨w.heap.size + 1 + 1, 0, none⟩) 1 1] 58)
  have v1 := VB.new w 58 #[.slice (some ⟨w.heap.size + 1, 0, none⟩) 1 1, .slice (some ⟨w.heap.size + 1 + 1, 0, none⟩) 1 1]
  have s1 : (w.alloc (.cells #[.slice (some ⟨w.heap.size + 1, 0, none⟩) 1 1, .slice (some ⟨w.heap.size + 1 + 1, 0, none⟩) 1 1] 58)).heap.size = w.heap.size + 1 := by simp
  generalize w.alloc (.cells #[.slice (some ⟨w.heap.size + 1, 0, none⟩) 1 1, .slice (some ⟨w.heap.size + 1 + 1, 0, none⟩) 1 1] 58) = W1 at *
  have x2 := ((Ex.refl W1).alloc (iObj [1])).alloc (iObj [1])
  have o1 := (Own.new W1 [1]).ex ((Ex.refl (W1.alloc (iObj [1]))).alloc (iObj [1]))
  have o2 := Own.new (W1.alloc (iObj [1])) [1]
  have s2 : (W1.alloc (iObj [1])).heap.size = w.heap.size + 1 + 1 := by simp [s1]
  rw [s2] at o2
  rw [s1] at o1
  have v2 := v1.ex x2
  have d0 := v2.cell 0 (v := .slice (some ⟨w.heap.size + 1, 0, none⟩) 1 1) rfl
  have d1 := v2.cell 1 (v := .slice (some ⟨w.heap.size + 1 + 1, 0, none⟩) 1 1) rfl
  change bodyPost _ _ _ _ _ ((W1.alloc (iObj [1])).alloc (iObj [1]))
  generalize (W1.alloc (iObj [1])).alloc (iObj [1]) = W2 at *
  refine bodyPost_ret (v := .agg #[.slice (some ⟨w.heap.size + 1, 0, none⟩) 1 1, .slice (some ⟨w.heap.size + 1 + 1, 0, none⟩) 1 1]) (by simp [results, Tryz.results92, go_sem, d0, d1]) rfl ?_
  exact ⟨_, _, _, _, rfl, o1.fr (by simp) (by omega) (by simp), o2.fr (by simp) (by omega) (by simp), apart_ne (by omega), x1.trans x2⟩
theorem rrIsZero_c (A B : Option Addr) (c d : Nat) (x : Fra) (w : World) (hl : x.n.length ≤ 1099511627776) :
    Calls Tryz.prog 93 #[.agg #[.slice A x.n.length c, .slice B x.d.length d]] w fun e w' => e = .returned (.bool (iszF x)) ∧ Ex w w' := by
  have hb : iszF x = decide ((x.n.length : Int) = 0) := by
    rw [Bool.eq_iff_iff, iszF_iff]
    cases x.n <;> simp
    omega
  rw [hb]
  have x0 := (Ex.refl w).alloc (.cells #[.slice A x.n.length c, .slice B x.d.length d] 58)
  clear hb
  generalize x.n.length = n at *
  go_enter Tryz.func93, Tryz.ntmps93
  go_wp2
  go_ret
  exact ⟨ret_bool (by simp [BEq.beq]), x0⟩
def leadF (xs : List Fra) : Nat := xs.findIdx fun x => !iszF x
theorem leadF_lead (p : Int) (xs : List Fra) : (frOps p).lead xs = leadF xs := rfl
set_option maxHeartbeats 1000000 in
theorem rrLead_c (A : Option Addr) (c : Nat) (xs : List Fra) (w : World) (h : RdS EF w A xs) :
    Calls Tryz.prog 68 #[.slice A xs.length c] w fun e w' => e = .returned (.int .i64 (leadF xs)) ∧ Ex w w' := by
  have hl := h.1
  go_enter Tryz.func68, Tryz.ntmps68
  go_wp2_with fail
  go_loopw [3] (fun i wr => ∃ k : Nat, k ≤ xs.length ∧ i = .int .i64 k ∧ Hid (∀ (j : Nat) (x : Fra), j < k → xs[j]? = some x → iszF x = true) ∧ Ex w wr) (fun i _ => xs.length - (intOf i).toNat)
  case atStart => exact ⟨0, Nat.zero_le _, rfl, Lib.hid (fun j x h => by omega), Ex.refl _⟩
  case round =>
    obtain ⟨k, hk, rfl, Hz, he⟩ := hrel
    by_cases hlt : k < xs.length
    · obtain ⟨g, off, x, P, pc, Q, qc, rfl, hx, c0, c1, hP, hQ⟩ := (h.ex he).frac hlt
      have Hx := Lib.hid hx
      clear hx
      have hz := rrIsZero_c P Q pc qc x wr hP.len
      cases hb : iszF x with
      | true =>
        have Hb := Lib.hid hb
        rw [hb] at hz
        clear hb
        go_wp2_with fail
        refine hz.mono ?_
        rintro e w1 ⟨rfl, x1⟩
        go_wp2_with fail
        go_roundw
        case rel => exact ⟨k + 1, by omega, by go_num, Lib.hid (fun j y hj hy => by
          by_cases e : j = k
          · subst e; rw [Hx.out] at hy; injection hy with hy; rw [← hy]; exact Hb.out
          · exact Hz.out j y (by omega) hy), he.trans x1⟩
        case measure => simp [intOf]; omega
      | false =>
        have HL := Lib.hid (show leadF xs = k by
          rw [leadF, List.findIdx_eq (by omega)]
          have hxe : xs[k] = x := by have := Hx.out; rw [List.getElem?_eq_getElem hlt] at this; injection this
          refine ⟨by rw [hxe, hb]; rfl, fun j hj => by
            have := Hz.out j _ hj (List.getElem?_eq_getElem (by omega))
            rw [this]; rfl⟩)
        rw [hb] at hz
        clear hb
        go_wp2_with fail
        refine hz.mono ?_
        rintro e w1 ⟨rfl, x1⟩
        go_wp2_with fail
        go_ret
        exact ⟨by rw [HL.out]; rfl, he.trans x1⟩
    · obtain rfl : k = xs.length := by omega
      have HL := Lib.hid (show leadF xs = xs.length by
        rw [leadF, List.findIdx_eq_length]
        intro x hx
        obtain ⟨j, hj⟩ := List.getElem?_of_mem hx
        rw [Hz.out j x (List.getElem?_eq_some_iff.1 hj).1 hj]; rfl)
      go_wp2_with fail
      go_ret
      exact ⟨by rw [HL.out]; rfl, he⟩
set_option maxHeartbeats 1000000 in
theorem rrGoodRow_c (p n : Int) (A : Option Addr) (c : Nat) (xs : List Fra) (w : World) (h : RdS EF w A xs) :
    Calls Tryz.prog 32 #[.int .i64 p, .int .i64 n, .slice A xs.length c] w fun e w' => e = .returned (.bool (xs.all (fun x => fracB p x.n x.d) && decide ((xs.length : Int) = n))) ∧ Ex w w' := by
  have hl := h.1
  go_enter Tryz.func32, Tryz.ntmps32
  go_wp2_with fail
  go_loopw [11] (fun i wr => ∃ k : Nat, k ≤ xs.length ∧ i = .int .i64 k ∧ Hid ((xs.take k).all (fun x => fracB p x.n x.d) = true) ∧ Ex w wr) (fun i _ => xs.length - (intOf i).toNat)
  case atStart => exact ⟨0, Nat.zero_le _, rfl, Lib.hid rfl, Ex.refl _⟩
  case round =>
    obtain ⟨k, hk, rfl, Hall, he⟩ := hrel
    by_cases hlt : k < xs.length
    · obtain ⟨g, off, x, P, pc, Q, qc, rfl, hx, c0, c1, hP, hQ⟩ := (h.ex he).frac hlt
      have Hx := Lib.hid hx
      clear hx
      have y1 := (Ex.refl wr).alloc (.cells #[.slice P x.n.length pc, .slice Q x.d.length qc] 58)
      cases hb : fracB p x.n x.d with
      | true =>
        have Hb := Lib.hid hb
        clear hb
        go_wp2_with fail
        generalize wr.alloc (.cells #[.slice P x.n.length pc, .slice Q x.d.length qc] 58) = W1 at *
        refine (frGood_c p P Q pc qc x.n x.d W1 (hP.ex y1) (hQ.ex y1)).mono ?_
        rintro e w1 ⟨rfl, x1⟩
        rw [Hb.out]
        go_wp2_with fail
        go_roundw
        case rel => exact ⟨k + 1, by omega, by go_num, Lib.hid (by rw [List.take_add_one, Hx.out, List.all_append, Hall.out]; simp [Hb.out]), (he.trans y1).trans x1⟩
        case measure => simp [intOf]; omega
      | false =>
        have Hb := Lib.hid hb
        clear hb
        go_wp2_with fail
        generalize wr.alloc (.cells #[.slice P x.n.length pc, .slice Q x.d.length qc] 58) = W1 at *
        refine (frGood_c p P Q pc qc x.n x.d W1 (hP.ex y1) (hQ.ex y1)).mono ?_
        rintro e w1 ⟨rfl, x1⟩
        rw [Hb.out]
        go_wp2_with fail
        go_ret
        exact ⟨ret_bool (by rw [List.all_eq_false.2 ⟨x, List.mem_of_getElem? Hx.out, by simp [Hb.out]⟩]; rfl), (he.trans y1).trans x1⟩
    · obtain rfl : k = xs.length := by omega
      have HA := Lib.hid (show xs.all (fun x => fracB p x.n x.d) = true by have := Hall.out; rwa [List.take_length] at this)
      go_wp2_with fail
      go_ret
      exact ⟨ret_bool (by rw [HA.out, Bool.true_and]; simp [BEq.beq]), he⟩
end Go.Proofs.YtpeogfapnofeoaaGreatDoor
