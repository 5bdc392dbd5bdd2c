/- The law on ParsePoly: the program's answer is the reference's, for all arguments; the walk of the law's own text. No conditions. -/
import Derived.Test.YtfggacnkediolaaDoorPpL
import Derived.Test.YtfggacnkediolaaDoorLaw
namespace Go.Proofs.YtfggacnkediolaaDoor
set_option maxRecDepth 100000
open Go Go.RowKit
set_option maxHeartbeats 2000000 in
set_option maxRecDepth 100000 in
theorem lawParsePoly_big (p : Int) (s : ByteArray) (w : World) (hn : 1048576 < s.size) :
    Calls Tryd.prog 3 #[.int .i64 p, .string s] w fun e w' => e = .returned (.bool true) ∧ Ex w w' := by
  go_enter Tryd.func3, Tryd.ntmps3
  go_wp2
  go_ret
  exact ⟨rfl, Ex.refl w⟩
set_option maxHeartbeats 4000000 in
set_option maxRecDepth 100000 in
theorem lawParsePoly_walk (p : Int) (s : ByteArray) (w : World) (hs : s.size ≤ 1048576) (hw : Wl w) :
    Calls Tryd.prog 3 #[.int .i64 p, .string s] w fun e w' => e = .returned (.bool true) ∧ Ex w w' := by
  obtain ⟨L, ok, hr⟩ : ∃ L ok, psS p s.data.toList = (L, ok) := ⟨_, _, rfl⟩
  have cS := fun W => spParsePoly_c p s W hs
  have cI := fun W (h : Ex w W) => ParsePoly_c p s W hs (hw.ex h)
  rw [hr] at cS cI
  clear hr hw
  go_enter Tryd.func3, Tryd.ntmps3
  go_wp2_with fail
  refine (cS _).mono ?_
  rintro e w1 ⟨A1, c1, rfl, f1, x1⟩
  dsimp only at f1 ⊢
  go_wp2_with fail
  refine (cI _ x1).mono ?_
  rintro e w2 ⟨A2, c2, rfl, f2, x2⟩
  dsimp only at f2 ⊢
  have y2 := x1.trans x2
  have lo1 := f1.lo
  have s1 := x1.size
  have s2 := x2.size
  have hL := f2.rd.len
  go_wp2_with fail
  refine (eqIntS_c _ _ _ _ _ _ f2.rd (f1.rd.ex x2)).mono ?_
  rintro e w3 ⟨rfl, x3⟩
  go_wp2_with fail
  refine (markIntS_c _ _ _ _ _ _ (f2.ex x3) (by omega) (by omega)).mono ?_
  rintro e w4 ⟨rfl, m4, y4⟩
  have ap : Apart A1 A2 := Apart.of_lo lo1 f2.hi
  have xw4 : Ex w w4 := (y2.trans x3).exo y4 (fun g e => by
    cases hA : A2 with
    | none => rw [hA] at e; cases e
    | some a => rw [hA] at e; injection e with e; have := f2.hi a hA; omega)
  have r4 : Rd w4 A1 L := (f1.rd.ex (x2.trans x3)).exo y4 ap
  have hml : (mk 1 L.length).length = L.length := mk_len _ _
  go_wp2_with fail
  refine (heldIntS_c _ _ _ _ _ m4.rd (by omega) (by omega)).mono ?_
  rintro e _ ⟨rfl, rfl⟩
  go_wp2_with fail
  refine (cI _ xw4).mono ?_
  rintro e w5 ⟨A5, c5, rfl, f5, x5⟩
  dsimp only at f5 ⊢
  go_wp2_with fail
  refine (eqIntS_c _ _ _ _ _ _ f5.rd (r4.ex x5)).mono ?_
  rintro e w6 ⟨rfl, x6⟩
  go_wp2_with fail
  refine (heldIntS_c _ _ _ _ _ (m4.rd.ex (x5.trans x6)) (by omega) (by omega)).mono ?_
  rintro e _ ⟨rfl, rfl⟩
  go_wp2_with fail
  go_ret
  exact ⟨rfl, (xw4.trans x5).trans x6⟩
end Go.Proofs.YtfggacnkediolaaDoor
