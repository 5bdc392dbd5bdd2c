/- The law on PolyPowerModulo: the program's answer is the reference's, for all arguments; the walk of the law's own text. No conditions. -/
import Derived.Test.YtjkomgoncmbgiaaDoorPPM
import Derived.Test.YtjkomgoncmbgiaaDoorLaw
namespace Go.Proofs.YtjkomgoncmbgiaaDoor
open Go Go.RowKit
set_option maxHeartbeats 2000000 in
set_option maxRecDepth 100000 in
theorem lawPolyPowerModulo_big1 (p k : Int) (A B : Option Addr) (n m c d : Nat) (w : World) (hn : 1048576 < n) :
    Calls Tryd.prog 5 #[.int .i64 p, .slice A n c, .int .i64 k, .slice B m d] w fun e w' => e = .returned (.bool true) ∧ Ex w w' := by
  go_enter Tryd.func5, Tryd.ntmps5
  go_wp2
  go_ret
  exact ⟨rfl, Ex.refl w⟩
set_option maxHeartbeats 2000000 in
set_option maxRecDepth 100000 in
theorem lawPolyPowerModulo_big2 (p k : Int) (A B : Option Addr) (n m c d : Nat) (w : World) (hn : n ≤ 1048576) (hm : 1048576 < m) :
    Calls Tryd.prog 5 #[.int .i64 p, .slice A n c, .int .i64 k, .slice B m d] w fun e w' => e = .returned (.bool true) ∧ Ex w w' := by
  go_enter Tryd.func5, Tryd.ntmps5
  go_wp2
  go_ret
  exact ⟨rfl, Ex.refl w⟩
set_option maxHeartbeats 4000000 in
set_option maxRecDepth 100000 in
theorem lawPolyPowerModulo_walk (p n : Int) (A B : Option Addr) (c d : Nat) (a b : List Int) (w : World) (ha : Rd w A a) (hb : Rd w B b) (hla : a.length ≤ 1048576) (hlb : b.length ≤ 1048576) (ht : Tb w) :
    Calls Tryd.prog 5 #[.int .i64 p, .slice A a.length c, .int .i64 n, .slice B b.length d] w fun e w' => e = .returned (.bool true) ∧ Ex w w' := by
  have hok : ∃ L ok, ppmR p a n b = (L, ok) := ⟨_, _, rfl⟩
  obtain ⟨L, ok, hr⟩ := hok
  have Hr := Lib.hid hr
  clear hr
  go_enter Tryd.func5, Tryd.ntmps5
  go_wp2_with fail
  refine (toIntS_c _ _ _ _ ha).mono ?_
  rintro e w1 ⟨g1, rfl, hg1, hb1, x1⟩
  go_wp2_with fail
  refine (toIntS_c _ _ _ _ (hb.ex x1)).mono ?_
  rintro e w2 ⟨g2, rfl, hg2, hb2, x2⟩
  go_wp2_with fail
  refine (spPolyPowerModulo_c _ _ _ _ _ _ _ _ _ ((hb1.ex x2).rd (by omega)) (hb2.rd (by omega))).mono ?_
  intro e w3 h3
  rw [Hr.out] at h3
  obtain ⟨A3, c3, rfl, f3, x3⟩ := h3
  dsimp only at f3 ⊢
  have h3f := f3
  have xw3 := (x1.trans x2).trans x3
  clear hb1 hb2
  go_wp2_with fail
  refine (toIntS_c _ _ _ _ (ha.ex xw3)).mono ?_
  rintro e w4 ⟨g4, rfl, hg4, hb4, x4⟩
  go_wp2_with fail
  refine (toIntS_c _ _ _ _ (hb.ex (xw3.trans x4))).mono ?_
  rintro e w5 ⟨g5, rfl, hg5, hb5, x5⟩
  have xw5 := (xw3.trans x4).trans x5
  go_wp2_with fail
  refine (PolyPowerModulo_c _ _ _ _ _ _ _ _ _ ((hb4.ex x5).rd (by omega)) (hb5.rd (by omega)) (ht.ex xw5)).mono ?_
  intro e w6 h6
  rw [Hr.out] at h6
  obtain ⟨A6, c6, rfl, f6, x6⟩ := h6
  dsimp only at f6 ⊢
  have xw6 := xw5.trans x6
  go_wp2_with fail
  refine (eqIntS_c _ _ _ _ _ _ f6.rd (f3.rd.ex ((x4.trans x5).trans x6))).mono ?_
  rintro e w7 ⟨rfl, x7⟩
  have xw7 := xw6.trans x7
  have fx1 : Fr w7 w3.heap.size (some ⟨g4, 0, none⟩) a.length a := (hb4.ex ((x5.trans x6).trans x7)).fr (by omega) hg4 (Nat.le_refl _)
  have fx2 : Fr w7 w4.heap.size (some ⟨g5, 0, none⟩) b.length b := (hb5.ex (x6.trans x7)).fr (by omega) hg5 (Nat.le_refl _)
  have l4 : g4 < w4.heap.size := hb4.lt
  have l5 : g5 < w5.heap.size := hb5.lt
  have fg := f6.ex x7
  have fw := f3.ex (((x4.trans x5).trans x6).trans x7)
  have s4 := x4.size
  have s5 := x5.size
  have s6 := x6.size
  have s7 := x7.size
  have s3 := xw3.size
  clear f6 f3 hb4 hb5
  go_wp2_with fail
  refine (toIntS_c _ _ _ _ (ha.ex xw7)).mono ?_
  rintro e w8 ⟨g8, rfl, hg8, hb8, x8⟩
  go_wp2_with fail
  refine (eqIntS_c _ _ _ _ _ _ (fx1.rd.ex x8) (hb8.rd (by omega))).mono ?_
  rintro e w9 ⟨rfl, x9⟩
  have xw9 := (xw7.trans x8).trans x9
  go_wp2_with fail
  refine (toIntS_c _ _ _ _ (hb.ex xw9)).mono ?_
  rintro e w10 ⟨g10, rfl, hg10, hb10, x10⟩
  go_wp2_with fail
  refine (eqIntS_c _ _ _ _ _ _ (fx2.rd.ex ((x8.trans x9).trans x10)) (hb10.rd (by omega))).mono ?_
  rintro e w11 ⟨rfl, x11⟩
  have x711 := ((x8.trans x9).trans x10).trans x11
  have s11 := x711.size
  clear hb8 hb10
  go_wp2_with fail
  refine (markIntS_c _ _ _ _ _ _ (fx1.ex x711) (by omega) (by omega)).mono ?_
  rintro e w12 ⟨rfl, m12, y12⟩
  go_wp2_with fail
  have ap1 : Apart (some ⟨g5, 0, none⟩) (some ⟨g4, 0, none⟩) := (Apart.of_lo (B := w4.heap.size) (fun a e => by injection e with e; subst e; exact l4) fx2.hi).symm
  refine (markIntS_c _ _ _ _ _ _ ((fx2.ex x711).exo y12 ap1) (by omega) (by omega)).mono ?_
  rintro e w13 ⟨rfl, m13, y13⟩
  have xw11 := xw7.trans x711
  have xw12 : Ex w w12 := xw11.exo y12 (fun g e => by injection e with e; subst e; show w.heap.size ≤ g4; omega)
  have xw13 : Ex w w13 := xw12.exo y13 (fun g e => by injection e with e; subst e; show w.heap.size ≤ g5; omega)
  have k1 : Apart A6 (some ⟨g4, 0, none⟩) := (Apart.of_lo (B := w5.heap.size) (fun a e => by injection e with e; subst e; show g4 < _; omega) fg.hi).symm
  have k2 : Apart A6 (some ⟨g5, 0, none⟩) := (Apart.of_lo (B := w5.heap.size) (fun a e => by injection e with e; subst e; exact l5) fg.hi).symm
  have lw : Lo A3 w3.heap.size := fun a e => by
    obtain ⟨_, cur, hc⟩ := h3f.2.2 a e
    exact heap_lt_of hc
  have k3 : Apart A3 (some ⟨g4, 0, none⟩) := Apart.of_lo lw (fun a e => by injection e with e; subst e; exact hg4)
  have k4 : Apart A3 (some ⟨g5, 0, none⟩) := Apart.of_lo lw (fun a e => by injection e with e; subst e; show _ ≤ g5; omega)
  have fg13 := ((fg.ex x711).exo y12 k1).exo y13 k2
  have fw13 := ((fw.ex x711).exo y12 k3).exo y13 k4
  clear m12 m13 fx1 fx2
  go_wp2_with fail
  refine (eqIntS_c _ _ _ _ _ _ fg13.rd fw13.rd).mono ?_
  rintro e w14 ⟨rfl, x14⟩
  go_wp2_with fail
  refine (markIntS_c _ _ _ _ _ _ (fg13.ex x14) (by omega) (by omega)).mono ?_
  rintro e w15 ⟨rfl, m15, y15⟩
  have hLl := fg13.rd.len
  have xw15 : Ex w w15 := (xw13.trans x14).exo y15 (fun g e => by
    cases hA : A6 with
    | none => rw [hA] at e; cases e
    | some a => rw [hA] at e; injection e with e; subst e; have := fg.hi a hA; omega)
  have k5 : Apart A3 A6 := Apart.of_lo (B := w5.heap.size) (lw.mono (by omega)) fg.hi
  have fw15 := (fw13.ex x14).exo y15 k5
  go_wp2_with fail
  refine (heldIntS_c _ _ _ _ _ m15.rd (by omega) (by omega)).mono ?_
  rintro e w16 ⟨rfl, rfl⟩
  go_wp2_with fail
  refine (toIntS_c _ _ _ _ (ha.ex xw15)).mono ?_
  rintro e w17 ⟨g17, rfl, hg17, hb17, x17⟩
  go_wp2_with fail
  refine (toIntS_c _ _ _ _ (hb.ex (xw15.trans x17))).mono ?_
  rintro e w18 ⟨g18, rfl, hg18, hb18, x18⟩
  have xw18 := (xw15.trans x17).trans x18
  go_wp2_with fail
  refine (PolyPowerModulo_c _ _ _ _ _ _ _ _ _ ((hb17.ex x18).rd (by omega)) (hb18.rd (by omega)) (ht.ex xw18)).mono ?_
  intro e w19 h19
  rw [Hr.out] at h19
  obtain ⟨A19, c19, rfl, f19, x19⟩ := h19
  dsimp only at f19 ⊢
  have x1519 := (x17.trans x18).trans x19
  go_wp2_with fail
  refine (eqIntS_c _ _ _ _ _ _ f19.rd (fw15.rd.ex x1519)).mono ?_
  rintro e w20 ⟨rfl, x20⟩
  go_wp2_with fail
  refine (heldIntS_c _ _ _ _ _ (m15.rd.ex (x1519.trans x20)) (by omega) (by omega)).mono ?_
  rintro e w21 ⟨rfl, rfl⟩
  have xw20 := (xw15.trans x1519).trans x20
  clear xw18 xw15 xw13 xw12 xw11 ha hb ht
  go_wp2_with fail
  all_goals go_ret
  exact ⟨rfl, xw20⟩
end Go.Proofs.YtjkomgoncmbgiaaDoor
