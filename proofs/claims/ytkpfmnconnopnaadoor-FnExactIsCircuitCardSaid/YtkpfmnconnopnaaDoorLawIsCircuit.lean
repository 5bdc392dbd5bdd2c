/- The law on IsCircuit: the program's answer is the reference's, for all arguments; the walk of the law's own text. No conditions. -/
import Derived.Test.YtkpfmnconnopnaaDoorCirU
import Derived.Test.YtkpfmnconnopnaaDoorU
import Derived.RegionCalls
import Derived.Deep.RegionWith
import Derived.Deep.RegionHeld3
import Derived.Deep.Cut
namespace Go.Proofs.YtkpfmnconnopnaaDoor
set_option maxRecDepth 100000
open Go Go.RowKit
set_option maxHeartbeats 8000000 in
set_option maxRecDepth 100000 in
theorem lawIsCircuit_big1 (p : Int) (c_c0 c_c1 c_c2 : Value) (cz : Int) (w : World) (cq : QS 21 w (.agg #[c_c0, c_c1, c_c2]) cz) (h0c : 0 ≤ cz) (hbig : 1048576 < cz) :
    Calls Tryd.prog 4 #[.int .i64 p, .agg #[c_c0, c_c1, c_c2]] w fun e w' => e = .returned (.bool true) ∧ Ex w w' := by
  have xw := (Ex.refl w).alloc (.cells #[c_c0, c_c1, c_c2] 39)
  have v_c := VB.new w 39 #[c_c0, c_c1, c_c2]
  go_enter Tryd.func4, Tryd.ntmps4
  go_wp2_with fail
  generalize w.alloc (.cells #[c_c0, c_c1, c_c2] 39) = Wp0 at *
  have hs := cq Wp0 (1048576) xw (by omega) (by omega)
  rw [if_pos (by omega)] at hs
  refine hs.mono ?_
  clear hs
  rintro e wz ⟨rfl, xz⟩
  go_wp2
  go_ret
  exact ⟨rfl, xw.trans xz⟩
set_option maxHeartbeats 8000000 in
set_option maxRecDepth 100000 in
theorem lawIsCircuit_walk (p : Int) (c : Circ) (c_0 c_1 : Value) (cz : Int) (w : World) (ch : RCirc w c_0 c_1 c) (cq : QS 21 w (.agg #[.int .i64 c.n, c_0, c_1]) cz) (h0c : 0 ≤ cz) (hl : cz ≤ 1048576) (ht : Tb w) :
    Calls Tryd.prog 4 #[.int .i64 p, .agg #[.int .i64 c.n, c_0, c_1]] w fun e w' => e = .returned (.bool true) ∧ Ex w w' := by
  obtain ⟨r0, hr⟩ : ∃ r0, circB p c = (r0) := ⟨_, rfl⟩
  have Hr := Lib.hid hr
  clear hr
  have tn_c := totCirc_nn c
  have tb_c := ch.tot
  have xw := (Ex.refl w).alloc (.cells #[.int .i64 c.n, c_0, c_1] 39)
  have v_c := VB.new w 39 #[.int .i64 c.n, c_0, c_1]
  go_enter Tryd.func4, Tryd.ntmps4
  go_wp2_with fail
  generalize w.alloc (.cells #[.int .i64 c.n, c_0, c_1] 39) = Wp0 at *
  have zWp := xw.size
  have xp := Ex.refl Wp0
  have hs := cq Wp0 (1048576) xw (by omega) (by omega)
  rw [if_neg (by omega)] at hs
  refine hs.mono ?_
  clear hs
  rintro e o1 ⟨rfl, xo1⟩
  replace xw := xw.trans xo1
  replace xp := xp.trans xo1
  have zo1 := xo1.size
  have qv_c0 := (v_c.ex xp).cell 0 (v := .int .i64 c.n) rfl
  have qv_c1 := (v_c.ex xp).cell 1 (v := c_0) rfl
  have qv_c2 := (v_c.ex xp).cell 2 (v := c_1) rfl
  go_wp2_with fail
  clear qv_c0 qv_c1 qv_c2
  refine (toCircuit_u c c_0 c_1 o1 (ch.ex xw)).mono ?_
  rintro e o2 ⟨o2_0, o2_1, rfl, fo2, xo2⟩
  obtain ⟨o2A0, o2N0, o2C0, o2A1, o2N1, o2C1, rfl, rfl⟩ := fo2.rd.form
  replace xw := xw.trans xo2
  replace xp := xp.trans xo2
  have zo2 := xo2.size
  go_wp2_with fail
  refine (spIsCircuit_u _  _ _ _ o2 fo2.rd).mono ?_
  intro e o3 ho3
  rw [Hr.out] at ho3
  obtain ⟨rfl, xo3⟩ := ho3
  dsimp only
  replace xw := xw.trans xo3
  replace xp := xp.trans xo3
  replace fo2 := fo2.ex xo3
  have zo3 := xo3.size
  clear fo2
  have xs := Ex.refl o3
  have qv_c0 := (v_c.ex xp).cell 0 (v := .int .i64 c.n) rfl
  have qv_c1 := (v_c.ex xp).cell 1 (v := c_0) rfl
  have qv_c2 := (v_c.ex xp).cell 2 (v := c_1) rfl
  go_wp2_with fail
  clear qv_c0 qv_c1 qv_c2
  refine (toCircuit_u c c_0 c_1 o3 (ch.ex xw)).mono ?_
  rintro e o4 ⟨o4_0, o4_1, rfl, fo4, xo4⟩
  obtain ⟨o4A0, o4N0, o4C0, o4A1, o4N1, o4C1, rfl, rfl⟩ := fo4.rd.form
  replace xw := xw.trans xo4
  replace xp := xp.trans xo4
  replace xs := xs.trans xo4
  have zo4 := xo4.size
  go_wp2_with fail
  have xa := (Ex.refl o4).alloc (.cells #[.int .i64 c.n, (.slice o4A0 o4N0 o4C0), (.slice o4A1 o4N1 o4C1)] 44)
  have vx_c := VB.new o4 44 #[.int .i64 c.n, (.slice o4A0 o4N0 o4C0), (.slice o4A1 o4N1 o4C1)]
  have vx_cl := vx_c.lt
  generalize o4.alloc (.cells #[.int .i64 c.n, (.slice o4A0 o4N0 o4C0), (.slice o4A1 o4N1 o4C1)] 44) = o5 at *
  replace xw := xw.trans xa
  replace xp := xp.trans xa
  replace xs := xs.trans xa
  replace fo4 := fo4.ex xa
  have zo5 := xa.size
  clear xa
  refine (IsCircuit_u _  _ _ _ o5 fo4.rd (ht.ex xw)).mono ?_
  intro e o6 ho6
  rw [Hr.out] at ho6
  obtain ⟨rfl, xo6⟩ := ho6
  dsimp only
  replace xw := xw.trans xo6
  replace xp := xp.trans xo6
  replace xs := xs.trans xo6
  replace fo4 := fo4.ex xo6
  replace vx_c := vx_c.ex xo6
  have zo6 := xo6.size
  have qvx_c0 := vx_c.cell 0 (v := .int .i64 c.n) rfl
  have qvx_c1 := vx_c.cell 1 (v := (.slice o4A0 o4N0 o4C0)) rfl
  have qvx_c2 := vx_c.cell 2 (v := (.slice o4A1 o4N1 o4C1)) rfl
  have qv_c0 := (v_c.ex xp).cell 0 (v := .int .i64 c.n) rfl
  have qv_c1 := (v_c.ex xp).cell 1 (v := c_0) rfl
  have qv_c2 := (v_c.ex xp).cell 2 (v := c_1) rfl
  go_wp2_with fail
  go_region_held3 (fun W => W.cell? ⟨o4.heap.size, 0, none⟩ = some (.int .i64 c.n) ∧ W.cell? ⟨o4.heap.size, 1, none⟩ = some ((.slice o4A0 o4N0 o4C0)) ∧ W.cell? ⟨o4.heap.size, 2, none⟩ = some ((.slice o4A1 o4N1 o4C1)) ∧ W.cell? ⟨w.heap.size, 0, none⟩ = some (.int .i64 c.n) ∧ W.cell? ⟨w.heap.size, 1, none⟩ = some (c_0) ∧ W.cell? ⟨w.heap.size, 2, none⟩ = some (c_1)) (first | (exact ⟨(cell_ex xo8 (cell_ex xo7 qvx_c0)), (cell_ex xo8 (cell_ex xo7 qvx_c1)), (cell_ex xo8 (cell_ex xo7 qvx_c2)), (cell_ex xo8 (cell_ex xo7 qv_c0)), (cell_ex xo8 (cell_ex xo7 qv_c1)), (cell_ex xo8 (cell_ex xo7 qv_c2))⟩) | (exact ⟨(cell_ex xo7 qvx_c0), (cell_ex xo7 qvx_c1), (cell_ex xo7 qvx_c2), (cell_ex xo7 qv_c0), (cell_ex xo7 qv_c1), (cell_ex xo7 qv_c2)⟩) | (exact ⟨qvx_c0, qvx_c1, qvx_c2, qv_c0, qv_c1, qv_c2⟩)) (first
    | (go_at_call 23
       refine (toCircuit_u c c_0 c_1 o6.drew (ch.ex xw.drew)).mono ?_
       rintro e o7 ⟨o7_0, o7_1, rfl, fo7, xo7⟩)
    | (go_at_call 25
       refine (eqCircuit_u c (.slice o4A0 o4N0 o4C0) (.slice o4A1 o4N1 o4C1) o7_0 o7_1 _ ((fo4.rd.ex (Ex.refl o6).drew).ex xo7) fo7.rd).mono ?_
       rintro e o8 ⟨rfl, xo8⟩))
  have xd : Ex o6 o8 := ((Ex.refl o6).drew.trans xo7).trans xo8
  clear qvx_c0 qvx_c1 qvx_c2 qv_c0 qv_c1 qv_c2 fo7 xo7 xo8
  replace xw := xw.trans xd
  replace xp := xp.trans xd
  replace xs := xs.trans xd
  replace fo4 := fo4.ex xd
  replace vx_c := vx_c.ex xd
  have zo8 := xd.size
  clear xd
  go_wp2
  all_goals go_ret
  exact ⟨rfl, xw⟩
end Go.Proofs.YtkpfmnconnopnaaDoor
