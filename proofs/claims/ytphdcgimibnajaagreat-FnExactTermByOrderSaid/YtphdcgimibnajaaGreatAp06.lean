/- A slice of structs that a loop fills, element by element. Plain lemmas of mine. The words and the laws' helpers on Edge: it reads, it is owned in an interval of blocks; copied, compared, marked, held. Printed by a program of mine. Edges: lists of edges in the uniform words; the laws' helpers on them. The words and the laws' helpers on Graph: it reads, it is owned in an interval of blocks; copied, compared, marked, held. Printed by a program of mine. -/
import Derived.Test.YtphdcgimibnajaaGreatAp04
import Derived.RegionCalls
import Derived.Deep.RegionWith
import Derived.Deep.RegionHeld3
namespace Go.Proofs.YtphdcgimibnajaaGreat
set_option maxRecDepth 100000
open Go Go.RowKit
variable {α : Type}
/-- The first k elements of xs lie in block g, the others are zero; each element's own memory lies behind that of the one before. -/
def Mk (E : EK α) (t : TypeId) (z : List Value) (w : World) (g : Nat) (xs : List α) (k : Nat) : Prop :=
  ∃ (us : List (List Value)) (al bl : Nat → Nat), us.length = k ∧ (∀ u ∈ us, u.length = E.k) ∧ VB w g t ((us ++ List.replicate (xs.length - k) z).flatten).toArray ∧ (∀ j, j < k → g < al j ∧ bl j ≤ w.heap.size) ∧ (∀ i j, i < j → j < k → bl i ≤ al j) ∧
    ∀ j x vs, xs[j]? = some x → us[j]? = some vs → E.O w (al j) (bl j) vs x
theorem Mk.start {E : EK α} {t : TypeId} {z : List Value} {w : World} {g : Nat} {xs : List α} (h : VB w g t ((List.replicate xs.length z).flatten).toArray) : Mk E t z w g xs 0 :=
  ⟨[], fun _ => 0, fun _ => 0, rfl, by simp, by simpa using h, fun j hj => by omega, fun i j _ hj => by omega, fun j x vs _ h => by simp at h⟩
theorem Mk.ex {E : EK α} {t : TypeId} {z : List Value} {w w' : World} {g k : Nat} {xs : List α} (h : Mk E t z w g xs k) (he : Ex w w') : Mk E t z w' g xs k := by
  obtain ⟨us, al, bl, h1, h2, h3, h4, h5, h6⟩ := h
  exact ⟨us, al, bl, h1, h2, h3.ex he, fun j hj => ⟨(h4 j hj).1, Nat.le_trans (h4 j hj).2 he.size⟩, h5, fun j x vs hj hu => E.oex (h6 j x vs hj hu) he⟩
theorem Mk.lt {E : EK α} {t : TypeId} {z : List Value} {w : World} {g k : Nat} {xs : List α} (h : Mk E t z w g xs k) : g < w.heap.size := by
  obtain ⟨us, al, bl, h1, h2, h3, _⟩ := h
  exact h3.lt
theorem Mk.frozen {E : EK α} {t : TypeId} {z : List Value} {w : World} {g k : Nat} {xs : List α} (h : Mk E t z w g xs k) (i : Nat) : w.frozen? ⟨g, i, none⟩ = false := by
  obtain ⟨us, al, bl, h1, h2, h3, _⟩ := h
  exact h3.frozen i
theorem Mk.zero {E : EK α} {t : TypeId} {z : List Value} {w : World} {g k : Nat} {xs : List α} (h : Mk E t z w g xs k) (hk : k < xs.length) {q : Nat} {u : Value} (hq : z[q]? = some u) : w.cell? ⟨g, k * E.k + q, none⟩ = some u := by
  obtain ⟨us, al, bl, h1, h2, h3, _⟩ := h
  have hf : us.flatten.length = k * E.k := by rw [flatten_len h2, h1]
  rw [show xs.length - k = (xs.length - (k + 1)) + 1 by omega, List.replicate_succ] at h3
  refine h3.cell (k * E.k + q) ?_
  have hql := (List.getElem?_eq_some_iff.1 hq).1
  rw [List.getElem?_toArray, List.flatten_append, List.getElem?_append_right (by rw [hf]; omega), hf, show k * E.k + q - k * E.k = q by omega, List.flatten_cons, List.getElem?_append_left hql, hq]
theorem Mk.put4 {E : EK α} {t : TypeId} {z : List Value} {w w1 : World} {g k : Nat} {xs : List α} (h : Mk E t z w g xs k) (hE : E.k = 4) (hz : z.length = 4) {x : α} (hx : xs[k]? = some x) (he : Ex w w1) {a b c d : Value} (ho : E.O w1 w.heap.size w1.heap.size [a, b, c, d] x) :
    Mk E t z ((((w1.setCell ⟨g, k * 4, none⟩ a).setCell ⟨g, k * 4 + 1, none⟩ b).setCell ⟨g, k * 4 + 2, none⟩ c).setCell ⟨g, k * 4 + 3, none⟩ d) g xs (k + 1) := by
  obtain ⟨us, al, bl, h1, h2, h3, h4, h5, h6⟩ := h
  have hlt := (List.getElem?_eq_some_iff.1 hx).1
  have hgl := h3.lt
  have hf : us.flatten.length = k * 4 := by rw [flatten_len h2, h1, hE]
  have v1 := h3.ex he
  rw [show xs.length - k = (xs.length - (k + 1)) + 1 by omega, List.replicate_succ] at v1
  have E1 : Ex1 g w1 ((((w1.setCell ⟨g, k * 4, none⟩ a).setCell ⟨g, k * 4 + 1, none⟩ b).setCell ⟨g, k * 4 + 2, none⟩ c).setCell ⟨g, k * 4 + 3, none⟩ d) := ((((Ex1.refl g w1).setCell (p := ⟨g, k * 4, none⟩) rfl a).setCell (p := ⟨g, k * 4 + 1, none⟩) rfl b).setCell (p := ⟨g, k * 4 + 2, none⟩) rfl c).setCell (p := ⟨g, k * 4 + 3, none⟩) rfl d
  have hv := (((v1.set_ (k * 4) a).set_ (k * 4 + 1) b).set_ (k * 4 + 2) c).set_ (k * 4 + 3) d
  simp only [List.setIfInBounds_toArray] at hv
  match z, hz with
  | [z0, z1, z2, z3], _ =>
    rw [flat_put4 (rest := List.replicate (xs.length - (k + 1)) [z0, z1, z2, z3]) hf z0 z1 z2 z3 a b c d] at hv
    generalize ((((w1.setCell ⟨g, k * 4, none⟩ a).setCell ⟨g, k * 4 + 1, none⟩ b).setCell ⟨g, k * 4 + 2, none⟩ c).setCell ⟨g, k * 4 + 3, none⟩ d) = w2 at *
    have s1 := he.size
    have s2 := E1.size
    refine ⟨us ++ [[a, b, c, d]], fun j => if j < k then al j else w.heap.size, fun j => if j < k then bl j else w1.heap.size, by simp [h1], fun u hu => ?_, by rw [List.append_assoc]; exact hv, fun j hj => ?_, fun i j hij hj => ?_, fun j y vs hj hu => ?_⟩
    · rcases List.mem_append.1 hu with hu | hu
      · exact h2 u hu
      · simp at hu; subst hu; exact hE.symm
    · dsimp only
      by_cases hjk : j < k
      · rw [if_pos hjk, if_pos hjk]; have := h4 j hjk; omega
      · rw [if_neg hjk, if_neg hjk]; omega
    · dsimp only
      have hik : i < k := by omega
      rw [if_pos hik]
      by_cases hjk : j < k
      · rw [if_pos hjk]; exact h5 i j hij hjk
      · rw [if_neg hjk]; exact (h4 i hik).2
    · dsimp only
      by_cases hjk : j < k
      · rw [if_pos hjk, if_pos hjk]
        rw [List.getElem?_append_left (by omega)] at hu
        have := h4 j hjk
        exact E.oiv (E.oex (h6 j y vs hj hu) he) (ExI.of_ex1 E1) (by omega)
      · rw [if_neg hjk, if_neg hjk]
        have hjk' : j = k := by
          have := (List.getElem?_eq_some_iff.1 hu).1
          rw [List.length_append, h1, List.length_singleton] at this
          omega
        subst hjk'
        rw [List.getElem?_append_right (by omega), h1, Nat.sub_self] at hu
        simp at hu
        subst hu
        rw [hx] at hj
        injection hj with hj
        subst hj
        exact E.oiv ho (ExI.of_ex1 E1) (by omega)
theorem Mk.done {E : EK α} {t : TypeId} {z : List Value} {w : World} {g : Nat} {xs : List α} (h : Mk E t z w g xs xs.length) (hl : xs.length ≤ 1099511627776) {lo : Nat} (hlo : lo ≤ g) : OwS E t w lo w.heap.size (some ⟨g, 0, none⟩) xs := by
  obtain ⟨us, al, bl, h1, h2, h3, h4, h5, h6⟩ := h
  rw [Nat.sub_self, List.replicate_zero, List.append_nil] at h3
  refine OwS.of_flat hl h1 h2 h3 al bl (fun j x vs hj hu => ?_) (fun i j hi hj hne => ?_) hlo h3.lt
  · have hjl := (List.getElem?_eq_some_iff.1 hj).1
    have := h4 j hjl
    exact ⟨h6 j x vs hj hu, by omega, by omega, .inl (by omega)⟩
  · rcases Nat.lt_or_gt_of_ne hne with hh | hh
    · exact .inl (h5 i j hh hj)
    · exact .inr (h5 j i hh hi)
theorem zsum_take_succ {zs : List Int} {k : Nat} {z : Int} (h : zs[k]? = some z) : (zs.take (k + 1)).sum = (zs.take k).sum + z := by
  rw [List.take_add_one, h]
  simp
theorem zsum_nn {zs : List Int} (h : ∀ (i : Nat) (z : Int), zs[i]? = some z → 0 ≤ z) : 0 ≤ zs.sum := by
  induction zs with
  | nil => simp
  | cons z zs ih =>
    rw [List.sum_cons]
    have h0 := h 0 z rfl
    have := ih (fun i y hy => h (i + 1) y (by simpa using hy))
    omega
theorem zsum_take_le {zs : List Int} (h : ∀ (i : Nat) (z : Int), zs[i]? = some z → 0 ≤ z) (k : Nat) : (zs.take k).sum ≤ zs.sum := by
  have e := List.take_append_drop k zs
  have : zs.sum = (zs.take k).sum + (zs.drop k).sum := by
    conv => lhs; rw [← e]
    simp only [List.sum_append]
  have := zsum_nn (zs := zs.drop k) (fun i z hz => h (k + i) z (by rw [List.getElem?_drop] at hz; exact hz))
  omega
end Go.Proofs.YtphdcgimibnajaaGreat
namespace Go.Proofs.YtphdcgimibnajaaGreat
set_option maxRecDepth 100000
open Go Go.RowKit
structure Ed where
  kd : Int
  vl : Int
  ins : List Int
  outs : List Int
def REd (w : World) (v0 v1 : Value) (x : Ed) : Prop := RI w v0 x.ins ∧ RI w v1 x.outs
def totEd (x : Ed) : Int := totI x.ins + totI x.outs
theorem totEd_nn (x : Ed) : 0 ≤ totEd x := by
  unfold totEd
  have h0 := totI_nn x.ins
  have h1 := totI_nn x.outs
  omega
theorem REd.ex {w w' : World} {v0 v1 : Value} {x : Ed} (h : REd w v0 v1 x) (he : Ex w w') : REd w' v0 v1 x := by
  obtain ⟨h0, h1⟩ := h
  exact ⟨h0.ex he, h1.ex he⟩
theorem REd.tot {w : World} {v0 v1 : Value} {x : Ed} (h : REd w v0 v1 x) : totEd x ≤ 2251799813685248 := by
  obtain ⟨h0, h1⟩ := h
  have t0 := h0.tot
  have t1 := h1.tot
  unfold totEd
  omega
theorem REd.form {w : World} {v0 v1 : Value} {x : Ed} (h : REd w v0 v1 x) : ∃ A0 n0 c0 A1 n1 c1, v0 = .slice A0 n0 c0 ∧ v1 = .slice A1 n1 c1 := by
  obtain ⟨h0, h1⟩ := h
  obtain ⟨A0, n0, c0, e0⟩ := h0.form
  obtain ⟨A1, n1, c1, e1⟩ := h1.form
  exact ⟨A0, n0, c0, A1, n1, c1, e0, e1⟩
def OEd (w : World) (lo hi : Nat) (v0 v1 : Value) (x : Ed) : Prop := ∃ (a0 b0 a1 b1 : Nat), OI w a0 b0 v0 x.ins ∧ OI w a1 b1 v1 x.outs ∧ lo ≤ a0 ∧ b0 ≤ hi ∧ lo ≤ a1 ∧ b1 ≤ hi ∧ (b0 ≤ a1 ∨ b1 ≤ a0)
theorem OEd.rd {w : World} {lo hi : Nat} {v0 v1 : Value} {x : Ed} (h : OEd w lo hi v0 v1 x) : REd w v0 v1 x := by
  obtain ⟨a0, b0, a1, b1, m0, m1, c0, c1, c2, c3, c4⟩ := h
  exact ⟨m0.rd, m1.rd⟩
theorem OEd.ex {w w' : World} {lo hi : Nat} {v0 v1 : Value} {x : Ed} (h : OEd w lo hi v0 v1 x) (he : Ex w w') : OEd w' lo hi v0 v1 x := by
  obtain ⟨a0, b0, a1, b1, m0, m1, c0, c1, c2, c3, c4⟩ := h
  exact ⟨a0, b0, a1, b1, m0.ex he, m1.ex he, c0, c1, c2, c3, c4⟩
theorem OEd.iv {w w' : World} {lo hi : Nat} {v0 v1 : Value} {x : Ed} (h : OEd w lo hi v0 v1 x) {a b : Nat} (q : ExI a b w w') (hd : hi ≤ a ∨ b ≤ lo) : OEd w' lo hi v0 v1 x := by
  obtain ⟨a0, b0, a1, b1, m0, m1, c0, c1, c2, c3, c4⟩ := h
  exact ⟨a0, b0, a1, b1, m0.iv q (by omega), m1.iv q (by omega), c0, c1, c2, c3, c4⟩
theorem OEd.e1 {w w' : World} {lo hi : Nat} {v0 v1 : Value} {x : Ed} (h : OEd w lo hi v0 v1 x) {g : Nat} (q : Ex1 g w w') (hd : g < lo ∨ hi ≤ g) : OEd w' lo hi v0 v1 x := by
  obtain ⟨a0, b0, a1, b1, m0, m1, c0, c1, c2, c3, c4⟩ := h
  exact ⟨a0, b0, a1, b1, m0.e1 q (by omega), m1.e1 q (by omega), c0, c1, c2, c3, c4⟩
theorem OEd.more {w : World} {lo hi lo' hi' : Nat} {v0 v1 : Value} {x : Ed} (h : OEd w lo hi v0 v1 x) (h1 : lo' ≤ lo) (h2 : hi ≤ hi') : OEd w lo' hi' v0 v1 x := by
  obtain ⟨a0, b0, a1, b1, m0, m1, c0, c1, c2, c3, c4⟩ := h
  exact ⟨a0, b0, a1, b1, m0, m1, by omega, by omega, by omega, by omega, by omega⟩
set_option maxHeartbeats 4000000 in
set_option maxRecDepth 100000 in
theorem szEdge_q (c0 c1 v0 v1 : Value) (z0 z1 : Int) (w : World) (q0 : QS 20 w v0 z0) (n0 : 0 ≤ z0) (q1 : QS 20 w v1 z1) (n1 : 0 ≤ z1) : QS 36 w (.agg #[c0, c1, v0, v1]) (z0 + z1) := by
  intro u l hx h0 hl
  have x0 := (Ex.refl u).alloc (.cells #[c0, c1, v0, v1] 63)
  have d0 := VB.new u 63 #[c0, c1, v0, v1]
  go_enter Tryz.func36, Tryz.ntmps36
  go_wp2_with fail
  generalize u.alloc (.cells #[c0, c1, v0, v1] 63) = W0 at *
  have hs := q0 W0 (l) (hx.trans x0) (by omega) (by omega)
  by_cases g0 : l < z0
  · rw [if_pos g0] at hs
    refine hs.mono ?_
    clear hs
    rintro e W1 ⟨rfl, x1⟩
    go_wp2
    go_ret
    exact ⟨by first | rfl | (rw [if_pos (by omega)]; rfl), x0.trans x1⟩
  rw [if_neg g0] at hs
  refine hs.mono ?_
  clear hs
  rintro e W1 ⟨rfl, x1⟩
  replace x0 := x0.trans x1
  replace d0 := d0.ex x1
  clear x1
  have y := d0.cell 3 (v := v1) rfl
  go_wp2_with fail
  clear y
  have hs := q1 W1 (l - z0) (hx.trans x0) (by omega) (by omega)
  by_cases g1 : l - z0 < z1
  · rw [if_pos g1] at hs
    refine hs.mono ?_
    clear hs
    rintro e W2 ⟨rfl, x1⟩
    go_wp2
    go_ret
    exact ⟨by first | rfl | (rw [if_pos (by omega)]; rfl), x0.trans x1⟩
  rw [if_neg g1] at hs
  refine hs.mono ?_
  clear hs
  rintro e W2 ⟨rfl, x1⟩
  replace x0 := x0.trans x1
  replace d0 := d0.ex x1
  clear x1
  have HE := Lib.hid (show (if l < z0 + z1 then (-1 : Int) else l - (z0 + z1)) = l - z0 - z1 by rw [if_neg (by omega)]; omega)
  have HF := Lib.hid (show l - (z0 + z1) = l - z0 - z1 by omega)
  go_wp2
  go_ret
  exact ⟨by first | (rw [HE.out]; rfl) | (rw [HF.out]; rfl) | rfl, x0⟩
set_option maxHeartbeats 4000000 in
set_option maxRecDepth 100000 in
theorem toEdge_u (x : Ed) (v0 v1 : Value) (w : World) (h : REd w v0 v1 x) :
    Calls Tryz.prog 48 #[.agg #[.int .i64 x.kd, .int .i64 x.vl, v0, v1]] w fun e w' => ∃ y0 y1, e = .returned (.agg #[.int .i64 x.kd, .int .i64 x.vl, y0, y1]) ∧ OEd w' w.heap.size w'.heap.size y0 y1 x ∧ Ex w w' := by
  obtain ⟨kd, vl, x0, x1⟩ := x
  obtain ⟨h0, h1⟩ := h
  dsimp only at h0 h1 ⊢
  have y0 := (Ex.refl w).alloc (.cells #[.int .i64 kd, .int .i64 vl, v0, v1] 63)
  have d0 := VB.new w 63 #[.int .i64 kd, .int .i64 vl, v0, v1]
  have S0 := Lib.hid (show (w.alloc (.cells #[.int .i64 kd, .int .i64 vl, v0, v1] 63)).heap.size = w.heap.size + 1 by simp)
  go_enter Tryz.func48, Tryz.ntmps48
  go_wp2_with fail
  generalize w.alloc (.cells #[.int .i64 kd, .int .i64 vl, v0, v1] 63) = W0 at *
  have y1 := (Ex.refl W0).alloc (.cells #[.int .i64 0, .int .i64 0, .slice none 0 0, .slice none 0 0] 69)
  have d1 := VB.new W0 69 #[.int .i64 0, .int .i64 0, .slice none 0 0, .slice none 0 0]
  rw [S0.out] at d1
  have S1 := Lib.hid (show (W0.alloc (.cells #[.int .i64 0, .int .i64 0, .slice none 0 0, .slice none 0 0] 69)).heap.size = w.heap.size + 1 + 1 by simp; exact S0.out)
  generalize W0.alloc (.cells #[.int .i64 0, .int .i64 0, .slice none 0 0, .slice none 0 0] 69) = W1 at *
  have y2 := (Ex.refl W1).alloc (.cells #[.int .i64 kd, .int .i64 vl, .slice none 0 0, .slice none 0 0] 69)
  have d2 := VB.new W1 69 #[.int .i64 kd, .int .i64 vl, .slice none 0 0, .slice none 0 0]
  rw [S1.out] at d2
  have S2 := Lib.hid (show (W1.alloc (.cells #[.int .i64 kd, .int .i64 vl, .slice none 0 0, .slice none 0 0] 69)).heap.size = w.heap.size + 1 + 1 + 1 by simp; exact S1.out)
  generalize W1.alloc (.cells #[.int .i64 kd, .int .i64 vl, .slice none 0 0, .slice none 0 0] 69) = W2 at *
  have xx := (y0.trans y1).trans y2
  have dA := (d0.ex y1).ex y2
  have dB := d1.ex y2
  have dC := d2
  have sz : w.heap.size + 1 + 1 + 1 ≤ W2.heap.size := Nat.le_of_eq S2.out.symm
  clear d0 d1 d2 y0 y1 y2 S0 S1 S2
  refine (toIntS_u x0 v0 W2 (h0.ex xx)).mono ?_
  rintro e u0 ⟨y0, rfl, m0, z0⟩
  obtain ⟨Y0, N0, C0, rfl⟩ := m0.rd.form
  have tz0 := z0.size
  replace dA := dA.ex z0
  replace dB := dB.ex z0
  replace dC := dC.ex z0
  replace xx := xx.trans z0
  have sz0 := sz
  replace sz := Nat.le_trans sz z0.size
  have q0 := dA.cell 3 (v := v1) rfl
  have q1 := dC.cell 2 (v := .slice none 0 0) rfl
  have q2 := dC.frozen 2
  go_wp2_with fail
  clear q0 q1 q2
  have p1 : Ex1 (w.heap.size + 1 + 1) u0 (u0.setCell ⟨w.heap.size + 1 + 1, 2, none⟩ (.slice Y0 N0 C0)) := (Ex1.refl _ _).setCell rfl _
  replace dC : VB (u0.setCell ⟨w.heap.size + 1 + 1, 2, none⟩ (.slice Y0 N0 C0)) (w.heap.size + 1 + 1) 69 #[.int .i64 kd, .int .i64 vl, .slice Y0 N0 C0, .slice none 0 0] := dC.set_ 2 _
  replace dA := dA.ex1 p1 (by omega)
  replace dB := dB.ex1 p1 (by omega)
  replace m0 := m0.e1 p1 (by omega)
  replace sz := Nat.le_trans sz p1.size
  have tp0 := p1.size
  replace xx := xx.ex1 p1 (by omega)
  clear p1 z0
  generalize (u0.setCell ⟨w.heap.size + 1 + 1, 2, none⟩ (.slice Y0 N0 C0)) = V0 at *
  refine (toIntS_u x1 v1 V0 (h1.ex xx)).mono ?_
  rintro e u1 ⟨y1, rfl, m1, z1⟩
  obtain ⟨Y1, N1, C1, rfl⟩ := m1.rd.form
  have tz1 := z1.size
  replace m0 := m0.ex z1
  replace dA := dA.ex z1
  replace dB := dB.ex z1
  replace dC := dC.ex z1
  replace xx := xx.trans z1
  have sz1 := sz
  replace sz := Nat.le_trans sz z1.size
  have q1 := dC.cell 3 (v := .slice none 0 0) rfl
  have q2 := dC.frozen 3
  have r0 := dC.cell 0 (v := .int .i64 kd) rfl
  have r1 := dC.cell 1 (v := .int .i64 vl) rfl
  have r2 := dC.cell 2 (v := .slice Y0 N0 C0) rfl
  have t0 := dB.cell 0 (v := .int .i64 0) rfl
  have s0 := dB.frozen 0
  have t1 := dB.cell 1 (v := .int .i64 0) rfl
  have s1 := dB.frozen 1
  have t2 := dB.cell 2 (v := .slice none 0 0) rfl
  have s2 := dB.frozen 2
  have t3 := dB.cell 3 (v := .slice none 0 0) rfl
  have s3 := dB.frozen 3
  go_wp2_with fail
  clear q1 q2 r0 r1 r2 t0 s0 t1 s1 t2 s2 t3 s3
  have p1 : Ex1 (w.heap.size + 1 + 1) u1 (u1.setCell ⟨w.heap.size + 1 + 1, 3, none⟩ (.slice Y1 N1 C1)) := (Ex1.refl _ _).setCell rfl _
  replace dC : VB (u1.setCell ⟨w.heap.size + 1 + 1, 3, none⟩ (.slice Y1 N1 C1)) (w.heap.size + 1 + 1) 69 #[.int .i64 kd, .int .i64 vl, .slice Y0 N0 C0, .slice Y1 N1 C1] := dC.set_ 3 _
  replace dA := dA.ex1 p1 (by omega)
  replace dB := dB.ex1 p1 (by omega)
  replace m0 := m0.e1 p1 (by omega)
  replace m1 := m1.e1 p1 (by omega)
  replace sz := Nat.le_trans sz p1.size
  have tp1 := p1.size
  replace xx := xx.ex1 p1 (by omega)
  clear p1 z1
  generalize (u1.setCell ⟨w.heap.size + 1 + 1, 3, none⟩ (.slice Y1 N1 C1)) = V1 at *
  have p1 : Ex1 (w.heap.size + 1) V1 ((((V1.setCell ⟨w.heap.size + 1, 0, none⟩ (.int .i64 kd)).setCell ⟨w.heap.size + 1, 1, none⟩ (.int .i64 vl)).setCell ⟨w.heap.size + 1, 2, none⟩ (.slice Y0 N0 C0)).setCell ⟨w.heap.size + 1, 3, none⟩ (.slice Y1 N1 C1)) := ((((Ex1.refl (w.heap.size + 1) V1).setCell (p := ⟨w.heap.size + 1, 0, none⟩) rfl _).setCell (p := ⟨w.heap.size + 1, 1, none⟩) rfl _).setCell (p := ⟨w.heap.size + 1, 2, none⟩) rfl _).setCell (p := ⟨w.heap.size + 1, 3, none⟩) rfl _
  replace dB : VB ((((V1.setCell ⟨w.heap.size + 1, 0, none⟩ (.int .i64 kd)).setCell ⟨w.heap.size + 1, 1, none⟩ (.int .i64 vl)).setCell ⟨w.heap.size + 1, 2, none⟩ (.slice Y0 N0 C0)).setCell ⟨w.heap.size + 1, 3, none⟩ (.slice Y1 N1 C1)) (w.heap.size + 1) 69 #[.int .i64 kd, .int .i64 vl, .slice Y0 N0 C0, .slice Y1 N1 C1] := ((((dB.set_ 0 _).set_ 1 _).set_ 2 _).set_ 3 _)
  replace m0 := m0.e1 p1 (by omega)
  replace m1 := m1.e1 p1 (by omega)
  replace xx := xx.ex1 p1 (by omega)
  have tq := p1.size
  clear p1
  generalize ((((V1.setCell ⟨w.heap.size + 1, 0, none⟩ (.int .i64 kd)).setCell ⟨w.heap.size + 1, 1, none⟩ (.int .i64 vl)).setCell ⟨w.heap.size + 1, 2, none⟩ (.slice Y0 N0 C0)).setCell ⟨w.heap.size + 1, 3, none⟩ (.slice Y1 N1 C1)) = VE at *
  have c0 := dB.cell 0 (v := .int .i64 kd) rfl
  have c1 := dB.cell 1 (v := .int .i64 vl) rfl
  have c2 := dB.cell 2 (v := .slice Y0 N0 C0) rfl
  have c3 := dB.cell 3 (v := .slice Y1 N1 C1) rfl
  refine bodyPost_ret (v := .agg #[.int .i64 kd, .int .i64 vl, .slice Y0 N0 C0, .slice Y1 N1 C1]) (by simp [results, Tryz.results48, go_sem, c0, c1, c2, c3]) rfl ?_
  exact ⟨_, _, rfl, ⟨W2.heap.size, u0.heap.size, V0.heap.size, u1.heap.size, m0, m1, by omega, by omega, by omega, by omega, by omega⟩, xx⟩
set_option maxHeartbeats 4000000 in
set_option maxRecDepth 100000 in
theorem eqEdge_u (x : Ed) (v0 v1 u0 u1 : Value) (w : World) (h : REd w v0 v1 x) (h' : REd w u0 u1 x) :
    Calls Tryz.prog 69 #[.agg #[.int .i64 x.kd, .int .i64 x.vl, v0, v1], .agg #[.int .i64 x.kd, .int .i64 x.vl, u0, u1]] w fun e w' => e = .returned (.bool true) ∧ Ex w w' := by
  obtain ⟨kd, vl, x0, x1⟩ := x
  obtain ⟨h0, h1⟩ := h
  obtain ⟨g0, g1⟩ := h'
  dsimp only at h0 g0 h1 g1 ⊢
  have x1 := (Ex.refl w).alloc (.cells #[.int .i64 kd, .int .i64 vl, v0, v1] 69)
  have d1 := VB.new w 69 #[.int .i64 kd, .int .i64 vl, v0, v1]
  have S1 := Lib.hid (show (w.alloc (.cells #[.int .i64 kd, .int .i64 vl, v0, v1] 69)).heap.size = w.heap.size + 1 by simp)
  go_enter Tryz.func69, Tryz.ntmps69
  go_wp2_with fail
  generalize w.alloc (.cells #[.int .i64 kd, .int .i64 vl, v0, v1] 69) = W1 at *
  have y2 := (Ex.refl W1).alloc (.cells #[.int .i64 kd, .int .i64 vl, u0, u1] 69)
  have d2 := VB.new W1 69 #[.int .i64 kd, .int .i64 vl, u0, u1]
  rw [S1.out] at d2
  generalize W1.alloc (.cells #[.int .i64 kd, .int .i64 vl, u0, u1] 69) = V0 at *
  have xx := x1.trans y2
  have dA := d1.ex y2
  have dB := d2
  clear x1 d1 d2 y2 S1
  refine (eqIntS_u x0 v0 u0 V0 (h0.ex xx) (g0.ex xx)).mono ?_
  rintro e V1 ⟨rfl, z0⟩
  replace dA := dA.ex z0
  replace dB := dB.ex z0
  replace xx := xx.trans z0
  have q0 := dA.cell 3 (v := v1) rfl
  have q1 := dB.cell 3 (v := u1) rfl
  go_wp2_with fail
  clear q0 q1
  refine (eqIntS_u x1 v1 u1 V1 (h1.ex xx) (g1.ex xx)).mono ?_
  rintro e V2 ⟨rfl, z1⟩
  replace dA := dA.ex z1
  replace dB := dB.ex z1
  replace xx := xx.trans z1
  go_wp2
  go_ret
  exact ⟨rfl, xx⟩
end Go.Proofs.YtphdcgimibnajaaGreat
namespace Go.Proofs.YtphdcgimibnajaaGreat
set_option maxRecDepth 100000
open Go Go.RowKit
theorem OEd.keep {w w' : World} {a b : Nat} {v0 v1 : Value} {x : Ed} (h : OEd w a b v0 v1 x) (hk : ∀ k, a ≤ k → k < b → k < w.heap.size → w'.heap[k]? = w.heap[k]?) : OEd w' a b v0 v1 x := by
  obtain ⟨a0, b0, a1, b1, m0, m1, c0, c1, c2, c3, c4⟩ := h
  exact ⟨a0, b0, a1, b1, m0.keep (fun k h1 h2 => hk k (by omega) (by omega)), m1.keep (fun k h1 h2 => hk k (by omega) (by omega)), c0, c1, c2, c3, c4⟩
def edC (x : Ed) (v0 v1 : Value) : List Value := [.int .i64 x.kd, .int .i64 x.vl, v0, v1]
def edZ : List Value := [.int .i64 0, .int .i64 0, .slice none 0 0, .slice none 0 0]
def EE : EK Ed where
  k := 4
  R := fun w vs x => ∃ v0 v1, vs = edC x v0 v1 ∧ REd w v0 v1 x
  O := fun w a b vs x => ∃ v0 v1, vs = edC x v0 v1 ∧ OEd w a b v0 v1 x
  tot := fun x => 2 + totEd x
  mkE := fun k x => ⟨k, k + 1, mkI (k + 2) x.ins, mkI (k + 2 + totI x.ins) x.outs⟩
  rlen := fun h => by obtain ⟨_, _, rfl, _⟩ := h; rfl
  ex := fun h he => by obtain ⟨v0, v1, e, h⟩ := h; exact ⟨v0, v1, e, h.ex he⟩
  rd := fun h => by obtain ⟨v0, v1, e, h⟩ := h; exact ⟨v0, v1, e, h.rd⟩
  keep := fun h hk => by obtain ⟨v0, v1, e, h⟩ := h; exact ⟨v0, v1, e, h.keep hk⟩
  nn := fun x => by have := totEd_nn x; omega
  tmk := fun k x => by simp [totEd, totI, mkI, mk_len]
def RE (w : World) (v : Value) (x : List Ed) : Prop := RS EE w v x
def totE (x : List Ed) : Int := totS EE x
def mkE (k : Int) (x : List Ed) : List Ed := mkS EE k x
theorem totE_nn (x : List Ed) : 0 ≤ totE x := totS_nn EE x
theorem RE.ex {w w' : World} {v : Value} {x : List Ed} (h : RE w v x) (he : Ex w w') : RE w' v x := RS.ex h he
theorem RE.tot {w : World} {v : Value} {x : List Ed} (h : RE w v x) : totE x ≤ 1125899906842624 := RS.tot h
theorem RE.form {w : World} {v : Value} {x : List Ed} (h : RE w v x) : ∃ A n c, v = .slice A n c := RS.form h
theorem RdS.edge {w : World} {A : Option Addr} {xs : List Ed} (h : RdS EE w A xs) {j : Nat} (hj : j < xs.length) :
    ∃ g off x P pc Q qc, A = some ⟨g, off, none⟩ ∧ xs[j]? = some x ∧ w.cell? ⟨g, off + j * 4, none⟩ = some (.int .i64 x.kd) ∧ w.cell? ⟨g, off + j * 4 + 1, none⟩ = some (.int .i64 x.vl) ∧ w.cell? ⟨g, off + j * 4 + 2, none⟩ = some (.slice P x.ins.length pc) ∧ w.cell? ⟨g, off + j * 4 + 3, none⟩ = some (.slice Q x.outs.length qc) ∧ Rd w P x.ins ∧ Rd w Q x.outs := by
  obtain ⟨g, off, vs, x, hA, hx, hc, v0, v1, rfl, ⟨P, pc, rfl, hP⟩, ⟨Q, qc, rfl, hQ⟩⟩ := h.at_ hj
  exact ⟨g, off, x, P, pc, Q, qc, hA, hx, hc 0 _ rfl, hc 1 _ rfl, hc 2 _ rfl, hc 3 _ rfl, hP, hQ⟩
def OE (w : World) (a b : Nat) (v : Value) (x : List Ed) : Prop := OS EE 69 w a b v x
theorem OE.rd {w : World} {a b : Nat} {v : Value} {x : List Ed} (h : OE w a b v x) : RE w v x := OS.rd h
theorem OE.ex {w w' : World} {a b : Nat} {v : Value} {x : List Ed} (h : OE w a b v x) (he : Ex w w') : OE w' a b v x := OS.ex h he
theorem OE.iv {w w' : World} {a b a' b' : Nat} {v : Value} {x : List Ed} (h : OE w a b v x) (k : ExI a' b' w w') (hd : b ≤ a' ∨ b' ≤ a) : OE w' a b v x := OS.iv h k hd
theorem OE.e1 {w w' : World} {a b g : Nat} {v : Value} {x : List Ed} (h : OE w a b v x) (k : Ex1 g w w') (hd : g < a ∨ b ≤ g) : OE w' a b v x := OS.e1 h k hd
theorem OE.more {w : World} {a b a' b' : Nat} {v : Value} {x : List Ed} (h : OE w a b v x) (ha : a' ≤ a) (hb : b ≤ b') : OE w a' b' v x := OS.more h ha hb
theorem edgeInfo : (Tryz.prog.info? 69).map (fun i => (i.zero, i.size, i.bytes)) = some (some (.agg #[.int .i64 0, .int .i64 0, .slice none 0 0, .slice none 0 0]), 4, 64) := by kernel_rfl
theorem run_make_edges (n : Nat) (hn : n ≤ 1099511627776) (w : World) :
    (Instr.makeSlice 32 (.int .i64 (n : Int)) (.int .i64 (n : Int))).run Tryz.prog w = .ok (.slice (some ⟨w.heap.size, 0, none⟩) n n) (w.alloc (.cells ((List.replicate n edZ).flatten).toArray 69)) := by
  obtain ⟨i, hi, hz, hs, hb⟩ := info_parts edgeInfo
  have hr := run_make (P := Tryz.prog) w 32 69 i _ Tryz.underlying32 hi hz .i64 .i64 n n (by omega) (by omega) (by rw [hb]; omega) (by omega)
  simp only [Int.toNat_natCast, hs] at hr
  rw [hr]
  have := made_flat edZ (by decide) n
  rw [show edZ.length = 4 from rfl] at this
  rw [← this]
  rfl
set_option maxHeartbeats 1000000 in
theorem szEdgeS_q (A : Option Addr) (n c : Nat) (zs : List Int) (w : World) (hm : n ≤ 9223372036854775807) (hl : zs.length = n) (h0 : ∀ (i : Nat) (z : Int), zs[i]? = some z → 0 ≤ z)
    (h : ∀ (i : Nat) (z : Int), zs[i]? = some z → ∃ g off, ∃ (a b : Int), ∃ P m pc Q l qc, A = some ⟨g, off, none⟩ ∧ w.cell? ⟨g, off + i * 4, none⟩ = some (.int .i64 a) ∧ w.cell? ⟨g, off + i * 4 + 1, none⟩ = some (.int .i64 b) ∧ w.cell? ⟨g, off + i * 4 + 2, none⟩ = some (.slice P m pc) ∧ w.cell? ⟨g, off + i * 4 + 3, none⟩ = some (.slice Q l qc) ∧ QS 36 w (.agg #[.int .i64 a, .int .i64 b, .slice P m pc, .slice Q l qc]) z) :
    QS 19 w (.slice A n c) (n + zs.sum) := fun u l hx hl0 hl1 => by
  have hs := zsum_nn h0
  by_cases hb : l < (n : Int)
  · rw [if_pos (by omega)]
    clear h h0
    go_enter Tryz.func19, Tryz.ntmps19
    go_wp2
    go_ret
    exact ⟨rfl, Ex.refl _⟩
  · have hn : n ≤ 1048576 := by omega
    obtain ⟨R, hR⟩ : ∃ R : Int, (if l < (n : Int) + zs.sum then (-1 : Int) else l - ((n : Int) + zs.sum)) = R := ⟨_, rfl⟩
    rw [hR]
    have HR := Lib.hid hR
    clear hR
    go_enter Tryz.func19, Tryz.ntmps19
    go_wp2
    go_loopw [1, 5] (fun q i wr => ∃ k : Nat, k ≤ n ∧ q = .int .i64 (l - n - (zs.take k).sum) ∧ 0 ≤ l - n - (zs.take k).sum ∧ i = .int .i64 k ∧ Ex u wr) (fun _ i _ => n - (intOf i).toNat)
    case atStart => exact ⟨0, Nat.zero_le _, by simp, by simp; omega, rfl, Ex.refl _⟩
    case round =>
      obtain ⟨k, hk, rfl, hq, rfl, he⟩ := hrel
      by_cases hlt : k < n
      · obtain ⟨z, hz⟩ : ∃ z, zs[k]? = some z := ⟨_, List.getElem?_eq_getElem (by omega)⟩
        obtain ⟨g, off, a, b, P, m, pc, Q, l', qc, rfl, c0, c1, c2, c3, hq4⟩ := h k z hz
        have hxe := hx.trans he
        have hh := hq4 wr (l - n - (zs.take k).sum) hxe hq (by have := zsum_nn (zs := zs.take k) (fun i z hz => h0 i z (by rw [List.getElem?_take] at hz; split at hz <;> simp_all)); omega)
        have hts := zsum_take_succ hz
        have htl := zsum_take_le h0 (k + 1)
        have hz0 := h0 k z hz
        replace c0 := cell_ex hxe c0
        replace c1 := cell_ex hxe c1
        replace c2 := cell_ex hxe c2
        replace c3 := cell_ex hxe c3
        have HT := Lib.hid hts
        clear h h0 hz hts hq4
        go_wp2_with fail
        by_cases hzl : l - n - (zs.take k).sum < z
        · rw [if_pos hzl] at hh
          refine hh.mono ?_
          rintro e w1 ⟨rfl, x1⟩
          go_wp2
          go_ret
          exact ⟨by rw [← HR.out, if_pos (by have := HT.out; omega)]; rfl, he.trans x1⟩
        · rw [if_neg hzl] at hh
          refine hh.mono ?_
          rintro e w1 ⟨rfl, x1⟩
          have hE : l - n - (zs.take k).sum - z = l - n - (zs.take (k + 1)).sum := by have := HT.out; omega
          rw [hE]
          have hq' : 0 ≤ l - n - (zs.take (k + 1)).sum := by omega
          go_wp2
          go_roundw
          case rel => exact ⟨k + 1, by omega, rfl, hq', by go_num, he.trans x1⟩
          case measure => simp [intOf] <;> omega
      · obtain rfl : k = n := by omega
        rw [← hl, List.take_length] at hq
        clear h h0
        go_wp2
        go_ret
        refine ⟨?_, he⟩
        rw [← HR.out, if_neg (by omega)]
        show Ending.returned (.int .i64 (l - k - (zs.take k).sum)) = _
        rw [← hl, List.take_length]
        congr 2
        omega
set_option maxHeartbeats 2000000 in
theorem toEdgeS_u (x : List Ed) (v : Value) (w : World) (h : RE w v x) :
    Calls Tryz.prog 25 #[v] w fun e w' => ∃ y, e = .returned y ∧ OE w' w.heap.size w'.heap.size y x ∧ Ex w w' := by
  obtain ⟨⟨A, c, rfl, h⟩, ht⟩ := h
  have hl := h.1
  have hmk := fun W => run_make_edges x.length hl W
  have v0 := VB.new w 69 ((List.replicate x.length edZ).flatten).toArray
  have he0 := (Ex.refl w).alloc (.cells ((List.replicate x.length edZ).flatten).toArray 69)
  go_enter Tryz.func25, Tryz.ntmps25
  go_wp2
  go_loopw [4] (fun i wr => ∃ k : Nat, k ≤ x.length ∧ i = .int .i64 k ∧ Mk EE 69 edZ wr w.heap.size x k ∧ Ex w wr) (fun i _ => x.length - (intOf i).toNat)
  case atStart => exact ⟨0, Nat.zero_le _, rfl, Mk.start v0, he0⟩
  case round =>
    obtain ⟨k, hk, rfl, hv, he⟩ := hrel
    by_cases hlt : k < x.length
    · obtain ⟨g, off, r, P, pc, Q, qc, rfl, hr, c0, c1, c2, c3, hP, hQ⟩ := (h.ex he).edge hlt
      have Hr := Lib.hid hr
      clear hr
      go_wp2_with fail
      refine (toEdge_u r _ _ wr ⟨⟨P, pc, rfl, hP⟩, ⟨Q, qc, rfl, hQ⟩⟩).mono ?_
      rintro e w1 ⟨y0, y1, rfl, o, x1⟩
      obtain ⟨Y0, N0, C0, Y1, N1, C1, rfl, rfl⟩ := o.rd.form
      have v1 := hv.ex x1
      have q0 : w1.cell? ⟨w.heap.size, k * 4, none⟩ = some (.int .i64 0) := v1.zero hlt (q := 0) rfl
      have q1 : w1.cell? ⟨w.heap.size, k * 4 + 1, none⟩ = some (.int .i64 0) := v1.zero hlt (q := 1) rfl
      have q2 : w1.cell? ⟨w.heap.size, k * 4 + 2, none⟩ = some (.slice none 0 0) := v1.zero hlt (q := 2) rfl
      have q3 : w1.cell? ⟨w.heap.size, k * 4 + 3, none⟩ = some (.slice none 0 0) := v1.zero hlt (q := 3) rfl
      have z0 := v1.frozen (k * 4)
      have z1 := v1.frozen (k * 4 + 1)
      have z2 := v1.frozen (k * 4 + 2)
      have z3 := v1.frozen (k * 4 + 3)
      go_wp2_with fail
      go_roundw
      case rel => exact ⟨k + 1, by omega, by go_num, hv.put4 rfl rfl Hr.out x1 ⟨_, _, rfl, o⟩, ((((he.trans x1).setCell (Nat.le_refl _) _).setCell (Nat.le_refl _) _).setCell (Nat.le_refl _) _).setCell (Nat.le_refl _) _⟩
      case measure => simp [intOf] <;> omega
    · obtain rfl : k = x.length := by omega
      go_wp2
      go_ret
      exact ⟨_, rfl, ⟨⟨_, _, rfl, hv.done hl (Nat.le_refl _)⟩, ht⟩, he⟩
set_option maxHeartbeats 2000000 in
theorem eqEdgeS_u (x : List Ed) (v u : Value) (w : World) (h : RE w v x) (h' : RE w u x) :
    Calls Tryz.prog 30 #[v, u] w fun e w' => e = .returned (.bool true) ∧ Ex w w' := by
  obtain ⟨⟨A, c, rfl, h⟩, _⟩ := h
  obtain ⟨⟨A', c', rfl, h'⟩, _⟩ := h'
  have hl := h.1
  go_enter Tryz.func30, Tryz.ntmps30
  go_wp2
  go_loopw [5] (fun i wr => ∃ k : Nat, k ≤ x.length ∧ i = .int .i64 k ∧ Ex w wr) (fun i _ => x.length - (intOf i).toNat)
  case atStart => exact ⟨0, Nat.zero_le _, rfl, Ex.refl w⟩
  case round =>
    obtain ⟨k, hk, rfl, he⟩ := hrel
    by_cases hlt : k < x.length
    · obtain ⟨g, off, r, P, pc, Q, qc, rfl, hr, c0, c1, c2, c3, hP, hQ⟩ := (h.ex he).edge hlt
      obtain ⟨g', off', r', P', pc', Q', qc', rfl, hr', d0, d1, d2, d3, hP', hQ'⟩ := (h'.ex he).edge hlt
      obtain rfl : r = r' := by rw [hr] at hr'; injection hr'
      clear hr hr'
      have he1 := fun W (y : Ex wr W) => eqEdge_u r _ _ _ _ W ⟨⟨P, pc, rfl, hP.ex y⟩, ⟨Q, qc, rfl, hQ.ex y⟩⟩ ⟨⟨P', pc', rfl, hP'.ex y⟩, ⟨Q', qc', rfl, hQ'.ex y⟩⟩
      have HS : ∀ W, Ex wr W → (Ex wr W ∧ W.cell? ⟨g, off + k * 4, none⟩ = some (.int .i64 r.kd) ∧ W.cell? ⟨g, off + k * 4 + 1, none⟩ = some (.int .i64 r.vl) ∧ W.cell? ⟨g, off + k * 4 + 2, none⟩ = some (.slice P r.ins.length pc) ∧ W.cell? ⟨g, off + k * 4 + 3, none⟩ = some (.slice Q r.outs.length qc) ∧ W.cell? ⟨g', off' + k * 4, none⟩ = some (.int .i64 r.kd) ∧ W.cell? ⟨g', off' + k * 4 + 1, none⟩ = some (.int .i64 r.vl) ∧ W.cell? ⟨g', off' + k * 4 + 2, none⟩ = some (.slice P' r.ins.length pc') ∧ W.cell? ⟨g', off' + k * 4 + 3, none⟩ = some (.slice Q' r.outs.length qc')) := fun W y => ⟨y, cell_ex y c0, cell_ex y c1, cell_ex y c2, cell_ex y c3, cell_ex y d0, cell_ex y d1, cell_ex y d2, cell_ex y d3⟩
      have eA := (Ex.refl wr).drew
      go_wp2_with fail
      go_region_held3 (fun W => Ex wr W ∧ W.cell? ⟨g, off + k * 4, none⟩ = some (.int .i64 r.kd) ∧ W.cell? ⟨g, off + k * 4 + 1, none⟩ = some (.int .i64 r.vl) ∧ W.cell? ⟨g, off + k * 4 + 2, none⟩ = some (.slice P r.ins.length pc) ∧ W.cell? ⟨g, off + k * 4 + 3, none⟩ = some (.slice Q r.outs.length qc) ∧ W.cell? ⟨g', off' + k * 4, none⟩ = some (.int .i64 r.kd) ∧ W.cell? ⟨g', off' + k * 4 + 1, none⟩ = some (.int .i64 r.vl) ∧ W.cell? ⟨g', off' + k * 4 + 2, none⟩ = some (.slice P' r.ins.length pc') ∧ W.cell? ⟨g', off' + k * 4 + 3, none⟩ = some (.slice Q' r.outs.length qc')) (first
        | (exact HS _ x1) | (exact HS _ eA) | (exact HS _ (Ex.refl wr))) (first
        | (go_at_call 69
           have hb := (‹Ex wr _ ∧ _›).1
           refine (he1 _ hb).mono ?_
           rintro e w1 ⟨rfl, x1'⟩
           have x1 := hb.trans x1'
           clear hb))
      all_goals go_wp2
      all_goals exact ⟨⟨k + 1, by omega, by go_num, he.trans x1⟩, by simp [intOf] <;> omega⟩
    · obtain rfl : k = x.length := by omega
      go_wp2
      go_ret
      exact ⟨rfl, he⟩
set_option maxHeartbeats 4000000 in
theorem markEdgeS_u (lo hi : Nat) (x : List Ed) (v : Value) (k : Int) (w : World) (h : OE w lo hi v x) (hb : hi ≤ w.heap.size) (hk0 : 0 ≤ k) (hk : k + totE x ≤ 4611686018427387904) :
    Calls Tryz.prog 31 #[v, .int .i64 k] w fun e w' => e = .returned (.int .i64 (k + totE x)) ∧ OE w' lo hi v (mkE k x) ∧ ExI lo hi w w' := by
  obtain ⟨⟨A, c, rfl, h⟩, ht⟩ := h
  have hl := h.1
  go_enter Tryz.func31, Tryz.ntmps31
  go_wp2
  go_loopw [1, 5] (fun q i wr => ∃ j : Nat, j ≤ x.length ∧ q = .int .i64 (k + totS EE (x.take j)) ∧ i = .int .i64 j ∧ OwS EE 69 wr lo hi A ((mkS EE k x).take j ++ x.drop j) ∧ ExI lo hi w wr) (fun _ i _ => x.length - (intOf i).toNat)
  case atStart => exact ⟨0, Nat.zero_le _, by simp [totS], rfl, by simpa using h, ExI.refl _ _ _⟩
  case round =>
    obtain ⟨j, hj, rfl, rfl, hf, he⟩ := hrel
    by_cases hlt : j < x.length
    · obtain ⟨r, hr⟩ : ∃ r, x[j]? = some r := ⟨_, List.getElem?_eq_getElem hlt⟩
      have hml : ((mkS EE k x).take j).length = j := by rw [List.length_take, mkS_len]; omega
      have hr2 : ((mkS EE k x).take j ++ x.drop j)[j]? = some r := by rw [List.getElem?_append_right (by omega), hml, Nat.sub_self, List.getElem?_drop]; simpa using hr
      obtain ⟨g, off, vs, a, b, cur, rfl, hh, hc, ⟨v0, v1, rfl, ho⟩, hg1, hg2, ha, hb', hd, hset⟩ := hf.row hr2
      obtain ⟨a0, b0, a1, b1, m0, m1, i0, i1, i2, i3, i4⟩ := ho
      obtain ⟨P, pc, rfl, f0⟩ := m0
      obtain ⟨Q, qc, rfl, f1⟩ := m1
      have m0 : OI wr a0 b0 (.slice P r.ins.length pc) r.ins := ⟨P, pc, rfl, f0⟩
      have m1 : OI wr a1 b1 (.slice Q r.outs.length qc) r.outs := ⟨Q, qc, rfl, f1⟩
      clear f0 f1
      have s1 := totS_nn EE (x.take j)
      have s2 := totS_take_succ EE hr
      have s3 := totS_take_le EE x (j + 1)
      have e4 : EE.tot r = 2 + (totI r.ins + totI r.outs) := rfl
      have n0 := totI_nn r.ins
      have n1 := totI_nn r.outs
      rw [e4] at s2
      have HS := Lib.hid (mkS_step EE k x j r hr)
      have S2 := Lib.hid s2
      have c0 := hc 0 _ rfl
      have c1 := hc 1 _ rfl
      have c2 := hc 2 _ rfl
      have c3 := hc 3 _ rfl
      simp only [show EE.k = 4 from rfl, Nat.add_zero] at c0 c1 c2 c3 hset
      have z0 := frozen_of_cur hh (off + j * 4)
      have z1 := frozen_of_cur hh (off + j * 4 + 1)
      have hgl := heap_lt_of hh
      have hsz := he.size
      have hk4 : k + totS EE (x.take j) + (2 + (totI r.ins + totI r.outs)) ≤ 4611686018427387904 := by have : totE x = totS EE x := rfl; omega
      clear hr hr2 s2 hml hc hh e4
      obtain ⟨K, hK⟩ : ∃ K, k + totS EE (x.take j) = K := ⟨_, rfl⟩
      have HK := Lib.hid hK
      rw [hK] at hk4
      have hK0 : 0 ≤ K := by omega
      rw [hK]
      clear hK
      go_wp2_with fail
      rw [show K + 1 + 1 = K + 2 by omega]
      have E0 : Ex1 g wr ((wr.setCell ⟨g, off + j * 4, none⟩ (.int .i64 K)).setCell ⟨g, off + j * 4 + 1, none⟩ (.int .i64 (K + 1))) := ((Ex1.refl g wr).setCell (p := ⟨g, off + j * 4, none⟩) rfl _).setCell (p := ⟨g, off + j * 4 + 1, none⟩) rfl _
      have T0 := (((TurnS.refl g (off + j * 4) (off + j * 4 + 4) a b 69 wr).set (o := off + j * 4) (by omega) (by omega) (.int .i64 K)).set (o := off + j * 4 + 1) (by omega) (by omega) (.int .i64 (K + 1)))
      have k0 := set_keep (u := .int .i64 (K + 1)) (i := off + j * 4 + 1) (set_new (u := .int .i64 K) c0) (by omega)
      have k1 := set_new (u := .int .i64 (K + 1)) (set_keep (u := .int .i64 K) (i := off + j * 4) c1 (by omega))
      have k2 := set_keep (u := .int .i64 (K + 1)) (i := off + j * 4 + 1) (set_keep (u := .int .i64 K) (i := off + j * 4) c2 (by omega)) (by omega)
      have k3 := set_keep (u := .int .i64 (K + 1)) (i := off + j * 4 + 1) (set_keep (u := .int .i64 K) (i := off + j * 4) c3 (by omega)) (by omega)
      have s0 := E0.size
      clear c0 c1 c2 c3 z0 z1
      generalize (wr.setCell ⟨g, off + j * 4, none⟩ (.int .i64 K)).setCell ⟨g, off + j * 4 + 1, none⟩ (.int .i64 (K + 1)) = W at *
      refine (markIntS_u a0 b0 r.ins (.slice P r.ins.length pc) (K + 2) W (m0.e1 E0 (by omega)) (by omega) (by omega) (by omega)).mono ?_
      rintro e w1 ⟨rfl, mm0, I1⟩
      have s1' := I1.size
      have mm1 := (m1.e1 E0 (by omega)).iv I1 (by omega)
      replace k0 := cell_iv' I1 k0 (by omega)
      replace k1 := cell_iv' I1 k1 (by omega)
      replace k2 := cell_iv' I1 k2 (by omega)
      replace k3 := cell_iv' I1 k3 (by omega)
      have T1 := T0.iv I1 i0 i1 hd hgl
      clear m0 m1 T0 E0
      go_wp2_with fail
      refine (markIntS_u a1 b1 r.outs (.slice Q r.outs.length qc) (K + 2 + totI r.ins) w1 mm1 (by omega) (by omega) (by omega)).mono ?_
      rintro e w2 ⟨rfl, mm2, I2⟩
      have mm3 := mm0.iv I2 (by omega)
      replace k0 := cell_iv' I2 k0 (by omega)
      replace k1 := cell_iv' I2 k1 (by omega)
      replace k2 := cell_iv' I2 k2 (by omega)
      replace k3 := cell_iv' I2 k3 (by omega)
      have T2 := T1.iv I2 i2 i3 hd hgl
      have C : ∀ (q : Nat) (u : Value), (edC (EE.mkE K r) (.slice P r.ins.length pc) (.slice Q r.outs.length qc))[q]? = some u → w2.cell? ⟨g, off + j * 4 + q, none⟩ = some u := by
        intro q u hq
        rcases q with _ | _ | _ | _ | q
        · injection hq with hq; subst hq; exact k0
        · injection hq with hq; subst hq; exact k1
        · injection hq with hq; subst hq; exact k2
        · injection hq with hq; subst hq; exact k3
        · simp [edC] at hq
      have hf' := hset w2 _ (EE.mkE K r) T2 C ⟨_, _, rfl, ⟨a0, b0, a1, b1, mm3, mm2, i0, i1, i2, i3, i4⟩⟩
      have HS' := HS.out
      rw [HK.out] at HS'
      rw [HS'] at hf'
      have hX := he.trans (T2.exi hg1 hg2 ha hb')
      have hQ : K + 2 + totI r.ins + totI r.outs = k + totS EE (x.take (j + 1)) := by have := S2.out; have := HK.out; omega
      clear C T1 T2 k0 k1 k2 k3 mm0 mm1 mm2 mm3 hset hf HS'
      rw [hQ]
      clear hQ
      go_wp2_with fail
      go_roundw
      case rel => exact ⟨j + 1, by omega, rfl, by go_num, hf', hX⟩
      case measure => simp [intOf] <;> omega
    · obtain rfl : j = x.length := by omega
      go_wp2
      go_ret
      rw [List.drop_length, List.append_nil, List.take_of_length_le (by rw [mkS_len]; exact Nat.le_refl _)] at hf
      rw [List.take_length]
      exact ⟨rfl, ⟨⟨A, c, by rw [mkE, mkS_len], hf⟩, by rw [mkE, totS_mk]; exact ht⟩, he⟩
end Go.Proofs.YtphdcgimibnajaaGreat
namespace Go.Proofs.YtphdcgimibnajaaGreat
set_option maxRecDepth 100000
open Go Go.RowKit
structure Gr where
  wires : Int
  es : List Ed
  ins : List Int
  outs : List Int
def RGr (w : World) (v0 v1 v2 : Value) (x : Gr) : Prop := RE w v0 x.es ∧ RI w v1 x.ins ∧ RI w v2 x.outs
def totGr (x : Gr) : Int := totE x.es + totI x.ins + totI x.outs
def mkGr (k : Int) (x : Gr) : Gr := ⟨x.wires, mkE (k) x.es, mkI (k + totE x.es) x.ins, mkI (k + totE x.es + totI x.ins) x.outs⟩
theorem totGr_nn (x : Gr) : 0 ≤ totGr x := by
  unfold totGr
  have h0 := totE_nn x.es
  have h1 := totI_nn x.ins
  have h2 := totI_nn x.outs
  omega
theorem RGr.ex {w w' : World} {v0 v1 v2 : Value} {x : Gr} (h : RGr w v0 v1 v2 x) (he : Ex w w') : RGr w' v0 v1 v2 x := by
  obtain ⟨h0, h1, h2⟩ := h
  exact ⟨h0.ex he, h1.ex he, h2.ex he⟩
theorem RGr.tot {w : World} {v0 v1 v2 : Value} {x : Gr} (h : RGr w v0 v1 v2 x) : totGr x ≤ 3377699720527872 := by
  obtain ⟨h0, h1, h2⟩ := h
  have t0 := h0.tot
  have t1 := h1.tot
  have t2 := h2.tot
  unfold totGr
  omega
theorem RGr.form {w : World} {v0 v1 v2 : Value} {x : Gr} (h : RGr w v0 v1 v2 x) : ∃ A0 n0 c0 A1 n1 c1 A2 n2 c2, v0 = .slice A0 n0 c0 ∧ v1 = .slice A1 n1 c1 ∧ v2 = .slice A2 n2 c2 := by
  obtain ⟨h0, h1, h2⟩ := h
  obtain ⟨A0, n0, c0, e0⟩ := h0.form
  obtain ⟨A1, n1, c1, e1⟩ := h1.form
  obtain ⟨A2, n2, c2, e2⟩ := h2.form
  exact ⟨A0, n0, c0, A1, n1, c1, A2, n2, c2, e0, e1, e2⟩
def OGr (w : World) (lo hi : Nat) (v0 v1 v2 : Value) (x : Gr) : Prop := ∃ (a0 b0 a1 b1 a2 b2 : Nat), OE w a0 b0 v0 x.es ∧ OI w a1 b1 v1 x.ins ∧ OI w a2 b2 v2 x.outs ∧ lo ≤ a0 ∧ b0 ≤ hi ∧ lo ≤ a1 ∧ b1 ≤ hi ∧ lo ≤ a2 ∧ b2 ≤ hi ∧ (b0 ≤ a1 ∨ b1 ≤ a0) ∧ (b0 ≤ a2 ∨ b2 ≤ a0) ∧ (b1 ≤ a2 ∨ b2 ≤ a1)
theorem OGr.rd {w : World} {lo hi : Nat} {v0 v1 v2 : Value} {x : Gr} (h : OGr w lo hi v0 v1 v2 x) : RGr w v0 v1 v2 x := by
  obtain ⟨a0, b0, a1, b1, a2, b2, m0, m1, m2, c0, c1, c2, c3, c4, c5, c6, c7, c8⟩ := h
  exact ⟨m0.rd, m1.rd, m2.rd⟩
theorem OGr.ex {w w' : World} {lo hi : Nat} {v0 v1 v2 : Value} {x : Gr} (h : OGr w lo hi v0 v1 v2 x) (he : Ex w w') : OGr w' lo hi v0 v1 v2 x := by
  obtain ⟨a0, b0, a1, b1, a2, b2, m0, m1, m2, c0, c1, c2, c3, c4, c5, c6, c7, c8⟩ := h
  exact ⟨a0, b0, a1, b1, a2, b2, m0.ex he, m1.ex he, m2.ex he, c0, c1, c2, c3, c4, c5, c6, c7, c8⟩
theorem OGr.iv {w w' : World} {lo hi : Nat} {v0 v1 v2 : Value} {x : Gr} (h : OGr w lo hi v0 v1 v2 x) {a b : Nat} (q : ExI a b w w') (hd : hi ≤ a ∨ b ≤ lo) : OGr w' lo hi v0 v1 v2 x := by
  obtain ⟨a0, b0, a1, b1, a2, b2, m0, m1, m2, c0, c1, c2, c3, c4, c5, c6, c7, c8⟩ := h
  exact ⟨a0, b0, a1, b1, a2, b2, m0.iv q (by omega), m1.iv q (by omega), m2.iv q (by omega), c0, c1, c2, c3, c4, c5, c6, c7, c8⟩
theorem OGr.e1 {w w' : World} {lo hi : Nat} {v0 v1 v2 : Value} {x : Gr} (h : OGr w lo hi v0 v1 v2 x) {g : Nat} (q : Ex1 g w w') (hd : g < lo ∨ hi ≤ g) : OGr w' lo hi v0 v1 v2 x := by
  obtain ⟨a0, b0, a1, b1, a2, b2, m0, m1, m2, c0, c1, c2, c3, c4, c5, c6, c7, c8⟩ := h
  exact ⟨a0, b0, a1, b1, a2, b2, m0.e1 q (by omega), m1.e1 q (by omega), m2.e1 q (by omega), c0, c1, c2, c3, c4, c5, c6, c7, c8⟩
theorem OGr.more {w : World} {lo hi lo' hi' : Nat} {v0 v1 v2 : Value} {x : Gr} (h : OGr w lo hi v0 v1 v2 x) (h1 : lo' ≤ lo) (h2 : hi ≤ hi') : OGr w lo' hi' v0 v1 v2 x := by
  obtain ⟨a0, b0, a1, b1, a2, b2, m0, m1, m2, c0, c1, c2, c3, c4, c5, c6, c7, c8⟩ := h
  exact ⟨a0, b0, a1, b1, a2, b2, m0, m1, m2, by omega, by omega, by omega, by omega, by omega, by omega, by omega, by omega, by omega⟩
set_option maxHeartbeats 4000000 in
set_option maxRecDepth 100000 in
theorem szGraph_q (c0 v0 v1 v2 : Value) (z0 z1 z2 : Int) (w : World) (q0 : QS 19 w v0 z0) (n0 : 0 ≤ z0) (q1 : QS 20 w v1 z1) (n1 : 0 ≤ z1) (q2 : QS 20 w v2 z2) (n2 : 0 ≤ z2) : QS 5 w (.agg #[c0, v0, v1, v2]) (z0 + z1 + z2) := by
  intro u l hx h0 hl
  have x0 := (Ex.refl u).alloc (.cells #[c0, v0, v1, v2] 25)
  have d0 := VB.new u 25 #[c0, v0, v1, v2]
  go_enter Tryz.func5, Tryz.ntmps5
  go_wp2_with fail
  generalize u.alloc (.cells #[c0, v0, v1, v2] 25) = W0 at *
  have hs := q0 W0 (l) (hx.trans x0) (by omega) (by omega)
  by_cases g0 : l < z0
  · rw [if_pos g0] at hs
    refine hs.mono ?_
    clear hs
    rintro e W1 ⟨rfl, x1⟩
    go_wp2
    go_ret
    exact ⟨by first | rfl | (rw [if_pos (by omega)]; rfl), x0.trans x1⟩
  rw [if_neg g0] at hs
  refine hs.mono ?_
  clear hs
  rintro e W1 ⟨rfl, x1⟩
  replace x0 := x0.trans x1
  replace d0 := d0.ex x1
  clear x1
  have y := d0.cell 2 (v := v1) rfl
  go_wp2_with fail
  clear y
  have hs := q1 W1 (l - z0) (hx.trans x0) (by omega) (by omega)
  by_cases g1 : l - z0 < z1
  · rw [if_pos g1] at hs
    refine hs.mono ?_
    clear hs
    rintro e W2 ⟨rfl, x1⟩
    go_wp2
    go_ret
    exact ⟨by first | rfl | (rw [if_pos (by omega)]; rfl), x0.trans x1⟩
  rw [if_neg g1] at hs
  refine hs.mono ?_
  clear hs
  rintro e W2 ⟨rfl, x1⟩
  replace x0 := x0.trans x1
  replace d0 := d0.ex x1
  clear x1
  have y := d0.cell 3 (v := v2) rfl
  go_wp2_with fail
  clear y
  have hs := q2 W2 (l - z0 - z1) (hx.trans x0) (by omega) (by omega)
  by_cases g2 : l - z0 - z1 < z2
  · rw [if_pos g2] at hs
    refine hs.mono ?_
    clear hs
    rintro e W3 ⟨rfl, x1⟩
    go_wp2
    go_ret
    exact ⟨by first | rfl | (rw [if_pos (by omega)]; rfl), x0.trans x1⟩
  rw [if_neg g2] at hs
  refine hs.mono ?_
  clear hs
  rintro e W3 ⟨rfl, x1⟩
  replace x0 := x0.trans x1
  replace d0 := d0.ex x1
  clear x1
  have HE := Lib.hid (show (if l < z0 + z1 + z2 then (-1 : Int) else l - (z0 + z1 + z2)) = l - z0 - z1 - z2 by rw [if_neg (by omega)]; omega)
  have HF := Lib.hid (show l - (z0 + z1 + z2) = l - z0 - z1 - z2 by omega)
  go_wp2
  go_ret
  exact ⟨by first | (rw [HE.out]; rfl) | (rw [HF.out]; rfl) | rfl, x0⟩
set_option maxHeartbeats 4000000 in
set_option maxRecDepth 100000 in
theorem toGraph_u (x : Gr) (v0 v1 v2 : Value) (w : World) (h : RGr w v0 v1 v2 x) :
    Calls Tryz.prog 7 #[.agg #[.int .i64 x.wires, v0, v1, v2]] w fun e w' => ∃ y0 y1 y2, e = .returned (.agg #[.int .i64 x.wires, y0, y1, y2]) ∧ OGr w' w.heap.size w'.heap.size y0 y1 y2 x ∧ Ex w w' := by
  obtain ⟨wires, x0, x1, x2⟩ := x
  obtain ⟨h0, h1, h2⟩ := h
  dsimp only at h0 h1 h2 ⊢
  have y0 := (Ex.refl w).alloc (.cells #[.int .i64 wires, v0, v1, v2] 25)
  have d0 := VB.new w 25 #[.int .i64 wires, v0, v1, v2]
  have S0 := Lib.hid (show (w.alloc (.cells #[.int .i64 wires, v0, v1, v2] 25)).heap.size = w.heap.size + 1 by simp)
  go_enter Tryz.func7, Tryz.ntmps7
  go_wp2_with fail
  generalize w.alloc (.cells #[.int .i64 wires, v0, v1, v2] 25) = W0 at *
  have y1 := (Ex.refl W0).alloc (.cells #[.int .i64 0, .slice none 0 0, .slice none 0 0, .slice none 0 0] 34)
  have d1 := VB.new W0 34 #[.int .i64 0, .slice none 0 0, .slice none 0 0, .slice none 0 0]
  rw [S0.out] at d1
  have S1 := Lib.hid (show (W0.alloc (.cells #[.int .i64 0, .slice none 0 0, .slice none 0 0, .slice none 0 0] 34)).heap.size = w.heap.size + 1 + 1 by simp; exact S0.out)
  generalize W0.alloc (.cells #[.int .i64 0, .slice none 0 0, .slice none 0 0, .slice none 0 0] 34) = W1 at *
  have y2 := (Ex.refl W1).alloc (.cells #[.int .i64 wires, .slice none 0 0, .slice none 0 0, .slice none 0 0] 34)
  have d2 := VB.new W1 34 #[.int .i64 wires, .slice none 0 0, .slice none 0 0, .slice none 0 0]
  rw [S1.out] at d2
  have S2 := Lib.hid (show (W1.alloc (.cells #[.int .i64 wires, .slice none 0 0, .slice none 0 0, .slice none 0 0] 34)).heap.size = w.heap.size + 1 + 1 + 1 by simp; exact S1.out)
  generalize W1.alloc (.cells #[.int .i64 wires, .slice none 0 0, .slice none 0 0, .slice none 0 0] 34) = W2 at *
  have xx := (y0.trans y1).trans y2
  have dA := (d0.ex y1).ex y2
  have dB := d1.ex y2
  have dC := d2
  have sz : w.heap.size + 1 + 1 + 1 ≤ W2.heap.size := Nat.le_of_eq S2.out.symm
  clear d0 d1 d2 y0 y1 y2 S0 S1 S2
  refine (toEdgeS_u x0 v0 W2 (h0.ex xx)).mono ?_
  rintro e u0 ⟨y0, rfl, m0, z0⟩
  obtain ⟨Y0, N0, C0, rfl⟩ := m0.rd.form
  have tz0 := z0.size
  replace dA := dA.ex z0
  replace dB := dB.ex z0
  replace dC := dC.ex z0
  replace xx := xx.trans z0
  have sz0 := sz
  replace sz := Nat.le_trans sz z0.size
  have q0 := dA.cell 2 (v := v1) rfl
  have q1 := dC.cell 1 (v := .slice none 0 0) rfl
  have q2 := dC.frozen 1
  go_wp2_with fail
  clear q0 q1 q2
  have p1 : Ex1 (w.heap.size + 1 + 1) u0 (u0.setCell ⟨w.heap.size + 1 + 1, 1, none⟩ (.slice Y0 N0 C0)) := (Ex1.refl _ _).setCell rfl _
  replace dC : VB (u0.setCell ⟨w.heap.size + 1 + 1, 1, none⟩ (.slice Y0 N0 C0)) (w.heap.size + 1 + 1) 34 #[.int .i64 wires, .slice Y0 N0 C0, .slice none 0 0, .slice none 0 0] := dC.set_ 1 _
  replace dA := dA.ex1 p1 (by omega)
  replace dB := dB.ex1 p1 (by omega)
  replace m0 := m0.e1 p1 (by omega)
  replace sz := Nat.le_trans sz p1.size
  have tp0 := p1.size
  replace xx := xx.ex1 p1 (by omega)
  clear p1 z0
  generalize (u0.setCell ⟨w.heap.size + 1 + 1, 1, none⟩ (.slice Y0 N0 C0)) = V0 at *
  refine (toIntS_u x1 v1 V0 (h1.ex xx)).mono ?_
  rintro e u1 ⟨y1, rfl, m1, z1⟩
  obtain ⟨Y1, N1, C1, rfl⟩ := m1.rd.form
  have tz1 := z1.size
  replace m0 := m0.ex z1
  replace dA := dA.ex z1
  replace dB := dB.ex z1
  replace dC := dC.ex z1
  replace xx := xx.trans z1
  have sz1 := sz
  replace sz := Nat.le_trans sz z1.size
  have q0 := dA.cell 3 (v := v2) rfl
  have q1 := dC.cell 2 (v := .slice none 0 0) rfl
  have q2 := dC.frozen 2
  go_wp2_with fail
  clear q0 q1 q2
  have p1 : Ex1 (w.heap.size + 1 + 1) u1 (u1.setCell ⟨w.heap.size + 1 + 1, 2, none⟩ (.slice Y1 N1 C1)) := (Ex1.refl _ _).setCell rfl _
  replace dC : VB (u1.setCell ⟨w.heap.size + 1 + 1, 2, none⟩ (.slice Y1 N1 C1)) (w.heap.size + 1 + 1) 34 #[.int .i64 wires, .slice Y0 N0 C0, .slice Y1 N1 C1, .slice none 0 0] := dC.set_ 2 _
  replace dA := dA.ex1 p1 (by omega)
  replace dB := dB.ex1 p1 (by omega)
  replace m0 := m0.e1 p1 (by omega)
  replace m1 := m1.e1 p1 (by omega)
  replace sz := Nat.le_trans sz p1.size
  have tp1 := p1.size
  replace xx := xx.ex1 p1 (by omega)
  clear p1 z1
  generalize (u1.setCell ⟨w.heap.size + 1 + 1, 2, none⟩ (.slice Y1 N1 C1)) = V1 at *
  refine (toIntS_u x2 v2 V1 (h2.ex xx)).mono ?_
  rintro e u2 ⟨y2, rfl, m2, z2⟩
  obtain ⟨Y2, N2, C2, rfl⟩ := m2.rd.form
  have tz2 := z2.size
  replace m0 := m0.ex z2
  replace m1 := m1.ex z2
  replace dA := dA.ex z2
  replace dB := dB.ex z2
  replace dC := dC.ex z2
  replace xx := xx.trans z2
  have sz2 := sz
  replace sz := Nat.le_trans sz z2.size
  have q1 := dC.cell 3 (v := .slice none 0 0) rfl
  have q2 := dC.frozen 3
  have r0 := dC.cell 0 (v := .int .i64 wires) rfl
  have r1 := dC.cell 1 (v := .slice Y0 N0 C0) rfl
  have r2 := dC.cell 2 (v := .slice Y1 N1 C1) rfl
  have t0 := dB.cell 0 (v := .int .i64 0) rfl
  have s0 := dB.frozen 0
  have t1 := dB.cell 1 (v := .slice none 0 0) rfl
  have s1 := dB.frozen 1
  have t2 := dB.cell 2 (v := .slice none 0 0) rfl
  have s2 := dB.frozen 2
  have t3 := dB.cell 3 (v := .slice none 0 0) rfl
  have s3 := dB.frozen 3
  go_wp2_with fail
  clear q1 q2 r0 r1 r2 t0 s0 t1 s1 t2 s2 t3 s3
  have p1 : Ex1 (w.heap.size + 1 + 1) u2 (u2.setCell ⟨w.heap.size + 1 + 1, 3, none⟩ (.slice Y2 N2 C2)) := (Ex1.refl _ _).setCell rfl _
  replace dC : VB (u2.setCell ⟨w.heap.size + 1 + 1, 3, none⟩ (.slice Y2 N2 C2)) (w.heap.size + 1 + 1) 34 #[.int .i64 wires, .slice Y0 N0 C0, .slice Y1 N1 C1, .slice Y2 N2 C2] := dC.set_ 3 _
  replace dA := dA.ex1 p1 (by omega)
  replace dB := dB.ex1 p1 (by omega)
  replace m0 := m0.e1 p1 (by omega)
  replace m1 := m1.e1 p1 (by omega)
  replace m2 := m2.e1 p1 (by omega)
  replace sz := Nat.le_trans sz p1.size
  have tp2 := p1.size
  replace xx := xx.ex1 p1 (by omega)
  clear p1 z2
  generalize (u2.setCell ⟨w.heap.size + 1 + 1, 3, none⟩ (.slice Y2 N2 C2)) = V2 at *
  have p1 : Ex1 (w.heap.size + 1) V2 ((((V2.setCell ⟨w.heap.size + 1, 0, none⟩ (.int .i64 wires)).setCell ⟨w.heap.size + 1, 1, none⟩ (.slice Y0 N0 C0)).setCell ⟨w.heap.size + 1, 2, none⟩ (.slice Y1 N1 C1)).setCell ⟨w.heap.size + 1, 3, none⟩ (.slice Y2 N2 C2)) := ((((Ex1.refl (w.heap.size + 1) V2).setCell (p := ⟨w.heap.size + 1, 0, none⟩) rfl _).setCell (p := ⟨w.heap.size + 1, 1, none⟩) rfl _).setCell (p := ⟨w.heap.size + 1, 2, none⟩) rfl _).setCell (p := ⟨w.heap.size + 1, 3, none⟩) rfl _
  replace dB : VB ((((V2.setCell ⟨w.heap.size + 1, 0, none⟩ (.int .i64 wires)).setCell ⟨w.heap.size + 1, 1, none⟩ (.slice Y0 N0 C0)).setCell ⟨w.heap.size + 1, 2, none⟩ (.slice Y1 N1 C1)).setCell ⟨w.heap.size + 1, 3, none⟩ (.slice Y2 N2 C2)) (w.heap.size + 1) 34 #[.int .i64 wires, .slice Y0 N0 C0, .slice Y1 N1 C1, .slice Y2 N2 C2] := ((((dB.set_ 0 _).set_ 1 _).set_ 2 _).set_ 3 _)
  replace m0 := m0.e1 p1 (by omega)
  replace m1 := m1.e1 p1 (by omega)
  replace m2 := m2.e1 p1 (by omega)
  replace xx := xx.ex1 p1 (by omega)
  have tq := p1.size
  clear p1
  generalize ((((V2.setCell ⟨w.heap.size + 1, 0, none⟩ (.int .i64 wires)).setCell ⟨w.heap.size + 1, 1, none⟩ (.slice Y0 N0 C0)).setCell ⟨w.heap.size + 1, 2, none⟩ (.slice Y1 N1 C1)).setCell ⟨w.heap.size + 1, 3, none⟩ (.slice Y2 N2 C2)) = VE at *
  have c0 := dB.cell 0 (v := .int .i64 wires) rfl
  have c1 := dB.cell 1 (v := .slice Y0 N0 C0) rfl
  have c2 := dB.cell 2 (v := .slice Y1 N1 C1) rfl
  have c3 := dB.cell 3 (v := .slice Y2 N2 C2) rfl
  refine bodyPost_ret (v := .agg #[.int .i64 wires, .slice Y0 N0 C0, .slice Y1 N1 C1, .slice Y2 N2 C2]) (by simp [results, Tryz.results7, go_sem, c0, c1, c2, c3]) rfl ?_
  exact ⟨_, _, _, rfl, ⟨W2.heap.size, u0.heap.size, V0.heap.size, u1.heap.size, V1.heap.size, u2.heap.size, m0, m1, m2, by omega, by omega, by omega, by omega, by omega, by omega, by omega, by omega, by omega⟩, xx⟩
set_option maxHeartbeats 4000000 in
set_option maxRecDepth 100000 in
theorem eqGraph_u (x : Gr) (v0 v1 v2 u0 u1 u2 : Value) (w : World) (h : RGr w v0 v1 v2 x) (h' : RGr w u0 u1 u2 x) :
    Calls Tryz.prog 10 #[.agg #[.int .i64 x.wires, v0, v1, v2], .agg #[.int .i64 x.wires, u0, u1, u2]] w fun e w' => e = .returned (.bool true) ∧ Ex w w' := by
  obtain ⟨wires, x0, x1, x2⟩ := x
  obtain ⟨h0, h1, h2⟩ := h
  obtain ⟨g0, g1, g2⟩ := h'
  dsimp only at h0 g0 h1 g1 h2 g2 ⊢
  have x1 := (Ex.refl w).alloc (.cells #[.int .i64 wires, v0, v1, v2] 34)
  have d1 := VB.new w 34 #[.int .i64 wires, v0, v1, v2]
  have S1 := Lib.hid (show (w.alloc (.cells #[.int .i64 wires, v0, v1, v2] 34)).heap.size = w.heap.size + 1 by simp)
  go_enter Tryz.func10, Tryz.ntmps10
  go_wp2_with fail
  generalize w.alloc (.cells #[.int .i64 wires, v0, v1, v2] 34) = W1 at *
  have y2 := (Ex.refl W1).alloc (.cells #[.int .i64 wires, u0, u1, u2] 34)
  have d2 := VB.new W1 34 #[.int .i64 wires, u0, u1, u2]
  rw [S1.out] at d2
  generalize W1.alloc (.cells #[.int .i64 wires, u0, u1, u2] 34) = V0 at *
  have xx := x1.trans y2
  have dA := d1.ex y2
  have dB := d2
  clear x1 d1 d2 y2 S1
  refine (eqEdgeS_u x0 v0 u0 V0 (h0.ex xx) (g0.ex xx)).mono ?_
  rintro e V1 ⟨rfl, z0⟩
  replace dA := dA.ex z0
  replace dB := dB.ex z0
  replace xx := xx.trans z0
  have q0 := dA.cell 2 (v := v1) rfl
  have q1 := dB.cell 2 (v := u1) rfl
  go_wp2_with fail
  clear q0 q1
  refine (eqIntS_u x1 v1 u1 V1 (h1.ex xx) (g1.ex xx)).mono ?_
  rintro e V2 ⟨rfl, z1⟩
  replace dA := dA.ex z1
  replace dB := dB.ex z1
  replace xx := xx.trans z1
  have q0 := dA.cell 3 (v := v2) rfl
  have q1 := dB.cell 3 (v := u2) rfl
  go_wp2_with fail
  clear q0 q1
  refine (eqIntS_u x2 v2 u2 V2 (h2.ex xx) (g2.ex xx)).mono ?_
  rintro e V3 ⟨rfl, z2⟩
  replace dA := dA.ex z2
  replace dB := dB.ex z2
  replace xx := xx.trans z2
  go_wp2
  go_ret
  exact ⟨rfl, xx⟩
set_option maxHeartbeats 4000000 in
set_option maxRecDepth 100000 in
theorem markGraph_u (lo hi : Nat) (x : Gr) (v0 v1 v2 : Value) (k : Int) (w : World) (h : OGr w lo hi v0 v1 v2 x) (hb : hi ≤ w.heap.size) (hk0 : 0 ≤ k) (hk : k + totGr x ≤ 4611686018427387904) :
    Calls Tryz.prog 11 #[.agg #[.int .i64 x.wires, v0, v1, v2], .int .i64 k] w fun e w' => e = .returned (.int .i64 (k + totGr x)) ∧ OGr w' lo hi v0 v1 v2 (mkGr k x) ∧ ExI lo hi w w' := by
  obtain ⟨wires, x0, x1, x2⟩ := x
  obtain ⟨a0, b0, a1, b1, a2, b2, m0, m1, m2, c0, c1, c2, c3, c4, c5, c6, c7, c8⟩ := h
  dsimp only at m0 m1 m2 ⊢
  have t0 := totE_nn x0
  have t1 := totI_nn x1
  have t2 := totI_nn x2
  have ek : k + totGr ⟨wires, x0, x1, x2⟩ = k + totE x0 + totI x1 + totI x2 := by simp only [totGr]; omega
  rw [ek] at hk ⊢
  clear ek
  have xe := (Ex.refl w).alloc (.cells #[.int .i64 wires, v0, v1, v2] 34)
  have d0 := VB.new w 34 #[.int .i64 wires, v0, v1, v2]
  have dl := d0.lt
  go_enter Tryz.func11, Tryz.ntmps11
  go_wp2_with fail
  generalize w.alloc (.cells #[.int .i64 wires, v0, v1, v2] 34) = W0 at *
  replace m0 := m0.ex xe
  replace m1 := m1.ex xe
  replace m2 := m2.ex xe
  have zz := xe.size
  have ee := ExI.of_ex (a := lo) (b := hi) xe
  clear xe
  refine (markEdgeS_u a0 b0 x0 v0 (k) W0 m0 (by omega) (by omega) (by omega)).mono ?_
  clear m0
  rintro e u0 ⟨rfl, m0, z0⟩
  replace m1 := m1.iv z0 (by omega)
  replace m2 := m2.iv z0 (by omega)
  replace d0 := d0.iv z0 (by omega)
  replace ee := ee.trans (z0.widen (by omega) (by omega))
  replace zz := Nat.le_trans zz z0.size
  clear z0
  have q := d0.cell 2 (v := v1) rfl
  go_wp2_with fail
  clear q
  refine (markIntS_u a1 b1 x1 v1 (k + totE x0) u0 m1 (by omega) (by omega) (by omega)).mono ?_
  clear m1
  rintro e u1 ⟨rfl, m1, z1⟩
  replace m0 := m0.iv z1 (by omega)
  replace m2 := m2.iv z1 (by omega)
  replace d0 := d0.iv z1 (by omega)
  replace ee := ee.trans (z1.widen (by omega) (by omega))
  replace zz := Nat.le_trans zz z1.size
  clear z1
  have q := d0.cell 3 (v := v2) rfl
  go_wp2_with fail
  clear q
  refine (markIntS_u a2 b2 x2 v2 (k + totE x0 + totI x1) u1 m2 (by omega) (by omega) (by omega)).mono ?_
  clear m2
  rintro e u2 ⟨rfl, m2, z2⟩
  replace m0 := m0.iv z2 (by omega)
  replace m1 := m1.iv z2 (by omega)
  replace d0 := d0.iv z2 (by omega)
  replace ee := ee.trans (z2.widen (by omega) (by omega))
  replace zz := Nat.le_trans zz z2.size
  clear z2
  go_wp2
  go_ret
  exact ⟨rfl, ⟨a0, b0, a1, b1, a2, b2, m0, m1, m2, c0, c1, c2, c3, c4, c5, c6, c7, c8⟩, ee⟩
end Go.Proofs.YtphdcgimibnajaaGreat
