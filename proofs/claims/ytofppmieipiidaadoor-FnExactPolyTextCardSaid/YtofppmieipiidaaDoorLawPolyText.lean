/- The law on PolyText: the program's answer is the reference's; the walk of the law's own text. -/
import Derived.Test.YtofppmieipiidaaDoorPtE
import Derived.Test.YtofppmieipiidaaDoorLaw
namespace Go.Proofs.YtofppmieipiidaaDoor
set_option maxRecDepth 100000
open Go Go.RowKit
set_option maxHeartbeats 2000000 in
set_option maxRecDepth 100000 in
theorem lawPolyText_big (p : Int) (A : Option Addr) (n c : Nat) (w : World) (hn : 1048576 < n) :
    Calls Tryd.prog 3 #[.int .i64 p, .slice A n c] w fun e w' => e = .returned (.bool true) ∧ Ex w w' := by
  go_enter Tryd.func3, Tryd.ntmps3
  go_wp2
  go_ret
  exact ⟨rfl, Ex.refl w⟩
set_option maxHeartbeats 4000000 in
set_option maxRecDepth 100000 in
theorem lawPolyText_walk (p : Int) (A : Option Addr) (c : Nat) (a : List Int) (w : World) (ha : Rd w A a) (hla : a.length ≤ 1048576) (ht : Tb w) :
    Calls Tryd.prog 3 #[.int .i64 p, .slice A a.length c] w fun e w' => e = .returned (.bool true) ∧ Ex w w' := by
  go_enter Tryd.func3, Tryd.ntmps3
  go_wp2_with fail
  refine (toIntS_c _ _ _ _ ha).mono ?_
  rintro e w1 ⟨g1, rfl, hg1, hb1, x1⟩
  go_wp2_with fail
  refine (spPolyText_c _ _ _ _ _ (hb1.rd (by omega))).mono ?_
  rintro e w2 ⟨rfl, x2⟩
  have y2 := x1.trans x2
  go_wp2_with fail
  refine (toIntS_c _ _ _ _ (ha.ex y2)).mono ?_
  rintro e w3 ⟨g3, rfl, hg3, hb3, x3⟩
  have y3 := y2.trans x3
  go_wp2_with fail
  refine (PolyText_c _ _ _ _ _ (hb3.rd (by omega)) (ht.ex y3)).mono ?_
  rintro e w4 ⟨rfl, x4⟩
  have y4 := y3.trans x4
  go_wp2_with fail
  refine (toIntS_c _ _ _ _ (ha.ex y4)).mono ?_
  rintro e w5 ⟨g5, rfl, hg5, hb5, x5⟩
  have y5 := y4.trans x5
  go_wp2_with fail
  refine (eqIntS_c _ _ _ _ _ _ (((hb3.ex x4).ex x5).rd (by omega)) (hb5.rd (by omega))).mono ?_
  rintro e w6 ⟨rfl, x6⟩
  go_wp2
  go_ret
  exact ⟨rfl, y5.trans x6⟩
end Go.Proofs.YtofppmieipiidaaDoor
