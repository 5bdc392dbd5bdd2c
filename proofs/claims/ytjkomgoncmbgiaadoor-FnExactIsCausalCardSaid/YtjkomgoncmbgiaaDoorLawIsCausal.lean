/- The law on IsCausal: the program's answer is the reference's; the walk of the law's own text. -/
import Derived.Test.YtjkomgoncmbgiaaDoorFrac4
import Derived.RegionCalls
import Derived.Deep.RegionWith
namespace Go.Proofs.YtjkomgoncmbgiaaDoor
open Go Go.RowKit
set_option maxHeartbeats 2000000 in
set_option maxRecDepth 100000 in
theorem lawIsCausal_big (p : Int) (A B : Option Addr) (n m c d : Nat) (w : World) (hn : 1048576 < (n : Int) + (m : Int)) (h1 : n ≤ 9223372036854775807) (h2 : m ≤ 9223372036854775807) :
    Calls Tryd.prog 7 #[.int .i64 p, .agg #[.slice A n c, .slice B m d]] w fun e w' => e = .returned (.bool true) ∧ Ex w w' := by
  have x0 := (Ex.refl w).alloc (.cells #[.slice A n c, .slice B m d] 41)
  go_enter Tryd.func7, Tryd.ntmps7
  go_wp2_with fail
  refine (szFraction_big A B c d n m 1048576 _ hn h1 h2 (by omega) (by omega)).mono ?_
  rintro e w1 ⟨rfl, x1⟩
  go_wp2
  go_ret
  exact ⟨rfl, x0.trans x1⟩
set_option maxHeartbeats 4000000 in
set_option maxRecDepth 100000 in
theorem lawIsCausal_walk (p : Int) (A B : Option Addr) (c d : Nat) (num den : List Int) (w : World) (hn : Rd w A num) (hd : Rd w B den) (hl : (num.length : Int) + (den.length : Int) ≤ 1048576) (ht : Tb w) :
    Calls Tryd.prog 7 #[.int .i64 p, .agg #[.slice A num.length c, .slice B den.length d]] w fun e w' => e = .returned (.bool true) ∧ Ex w w' := by
  have x0 := (Ex.refl w).alloc (.cells #[.slice A num.length c, .slice B den.length d] 41)
  have v0 := VB.new w 41 #[.slice A num.length c, .slice B den.length d]
  go_enter Tryd.func7, Tryd.ntmps7
  go_wp2_with fail
  generalize w.alloc (.cells #[.slice A num.length c, .slice B den.length d] 41) = W at *
  refine (szFraction_ok A B c d num.length den.length 1048576 W hl (by omega)).mono ?_
  rintro e w1 ⟨rfl, x1⟩
  have v1 := v0.ex x1
  have q0 := v1.cell 0 (v := .slice A num.length c) rfl
  have q1 := v1.cell 1 (v := .slice B den.length d) rfl
  have y1 := x0.trans x1
  go_wp2_with fail
  refine (toFraction_c A B c d num den w1 (hn.ex y1) (hd.ex y1)).mono ?_
  rintro e w2 ⟨A2, c2, B2, d2, rfl, f2, g2, ap2, x2⟩
  clear q0 q1
  go_wp2_with fail
  refine (spIsCausal_c p A2 B2 c2 d2 num den w2 f2.rd g2.rd).mono ?_
  rintro e w3 ⟨rfl, x3⟩
  have y3 := (y1.trans x2).trans x3
  have v3 := (v1.ex x2).ex x3
  have q0 := v3.cell 0 (v := .slice A num.length c) rfl
  have q1 := v3.cell 1 (v := .slice B den.length d) rfl
  go_wp2_with fail
  refine (toFraction_c A B c d num den w3 (hn.ex y3) (hd.ex y3)).mono ?_
  rintro e w4 ⟨A4, c4, B4, d4, rfl, f4, g4, ap4, x4⟩
  have y4 := y3.trans x4
  have v4 := v3.ex x4
  clear q0 q1
  go_wp2_with fail
  have x5 := (Ex.refl w4).alloc (.cells #[.slice A4 num.length c4, .slice B4 den.length d4] 44)
  have v5 := VB.new w4 44 #[.slice A4 num.length c4, .slice B4 den.length d4]
  generalize w4.alloc (.cells #[.slice A4 num.length c4, .slice B4 den.length d4] 44) = W5 at *
  have y5 := y4.trans x5
  refine (IsCausal_c p A4 B4 c4 d4 num den W5 (f4.rd.ex x5) (g4.rd.ex x5) (ht.ex y5)).mono ?_
  rintro e w6 ⟨rfl, x6⟩
  have y6 := y5.trans x6
  have v6 := v5.ex x6
  have v06 := (v4.ex x5).ex x6
  have q0 := v06.cell 0 (v := .slice A num.length c) rfl
  have q1 := v06.cell 1 (v := .slice B den.length d) rfl
  have q2 := v6.cell 0 (v := .slice A4 num.length c4) rfl
  have q3 := v6.cell 1 (v := .slice B4 den.length d4) rfl
  have f6 := (f4.rd.ex x5).ex x6
  have g6 := (g4.rd.ex x5).ex x6
  have hn6 := hn.ex y6
  have hd6 := hd.ex y6
  have z6 := y6.drew
  clear x0 v0 x1 v1 y1 f2 g2 ap2 x2 x3 y3 v3 f4 g4 ap4 x4 y4 v4 x5 v5 y5 x6 y6 v6 v06 hn hd ht
  generalize w.heap.size = s0 at *
  generalize w4.heap.size = s4 at *
  go_wp2_with fail
  go_region_with (first
    | (go_at_call 24
       refine (toFraction_c A B c d num den w6.drew hn6.drew hd6.drew).mono ?_
       rintro e w7 ⟨A7, c7, B7, d7, rfl, f7, g7, _, x7⟩
       have e2 := cell_ex x7 (g := s4) (o := 0) (v := .slice A4 num.length c4) q2
       have e3 := cell_ex x7 (g := s4) (o := 1) (v := .slice B4 den.length d4) q3)
    | (go_at_call 26
       refine (eqFraction_c A4 B4 A7 B7 c4 d4 c7 d7 num den _ (f6.drew.ex x7) (g6.drew.ex x7) f7.rd g7.rd).mono ?_
       rintro e w8 ⟨rfl, x8⟩))
  all_goals go_wp2
  all_goals go_ret
  all_goals exact ⟨rfl, (z6.trans x7).trans x8⟩
end Go.Proofs.YtjkomgoncmbgiaaDoor
