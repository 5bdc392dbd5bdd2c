/- The law on RunSpace: the program's answer is the reference's, for all arguments; the walk of the law's own text. No conditions. -/
import Derived.Test.YtkpfmnconnopnaaDoorURun
import Derived.Test.YtkpfmnconnopnaaDoorU
import Derived.RegionCalls
import Derived.Deep.RegionWith
import Derived.Deep.RegionHeld3
import Derived.Deep.Cut
namespace Go.Proofs.YtkpfmnconnopnaaDoor
set_option maxRecDepth 100000
open Go Go.RowKit
set_option maxHeartbeats 8000000 in
set_option maxRecDepth 100000 in
theorem lawRunSpace_big1 (p : Int) (s_c0 s_c1 s_c2 s_c3 s_c4 s_c5 s_c6 : Value) (sz : Int) (ins_c0 : Value) (insz : Int) (w : World) (sq : QS 10 w (.agg #[s_c0, s_c1, s_c2, s_c3, s_c4, s_c5, s_c6]) sz) (h0s : 0 ≤ sz) (hbig : 1048576 < sz) :
    Calls Tryd.prog 3 #[.int .i64 p, .agg #[s_c0, s_c1, s_c2, s_c3, s_c4, s_c5, s_c6], ins_c0] w fun e w' => e = .returned (.bool true) ∧ Ex w w' := by
  have xw := (Ex.refl w).alloc (.cells #[s_c0, s_c1, s_c2, s_c3, s_c4, s_c5, s_c6] 24)
  have v_s := VB.new w 24 #[s_c0, s_c1, s_c2, s_c3, s_c4, s_c5, s_c6]
  go_enter Tryd.func3, Tryd.ntmps3
  go_wp2_with fail
  generalize w.alloc (.cells #[s_c0, s_c1, s_c2, s_c3, s_c4, s_c5, s_c6] 24) = Wp0 at *
  have hs := sq Wp0 (1048576) xw (by omega) (by omega)
  rw [if_pos (by omega)] at hs
  refine hs.mono ?_
  clear hs
  rintro e wz ⟨rfl, xz⟩
  go_wp2
  go_ret
  exact ⟨rfl, xw.trans xz⟩
set_option maxHeartbeats 8000000 in
set_option maxRecDepth 100000 in
theorem lawRunSpace_big2 (p : Int) (s_c0 s_c1 s_c2 s_c3 s_c4 s_c5 s_c6 : Value) (sz : Int) (ins_c0 : Value) (insz : Int) (w : World) (sq : QS 10 w (.agg #[s_c0, s_c1, s_c2, s_c3, s_c4, s_c5, s_c6]) sz) (h0s : 0 ≤ sz) (insq : QS 11 w (ins_c0) insz) (h0ins : 0 ≤ insz) (hoks : sz ≤ 1048576) (hbig : 1048576 - sz < insz) :
    Calls Tryd.prog 3 #[.int .i64 p, .agg #[s_c0, s_c1, s_c2, s_c3, s_c4, s_c5, s_c6], ins_c0] w fun e w' => e = .returned (.bool true) ∧ Ex w w' := by
  have xw := (Ex.refl w).alloc (.cells #[s_c0, s_c1, s_c2, s_c3, s_c4, s_c5, s_c6] 24)
  have v_s := VB.new w 24 #[s_c0, s_c1, s_c2, s_c3, s_c4, s_c5, s_c6]
  go_enter Tryd.func3, Tryd.ntmps3
  go_wp2_with fail
  generalize w.alloc (.cells #[s_c0, s_c1, s_c2, s_c3, s_c4, s_c5, s_c6] 24) = Wp0 at *
  have hs := sq Wp0 (1048576) xw (by omega) (by omega)
  rw [if_neg (by omega)] at hs
  refine hs.mono ?_
  clear hs
  rintro e wss ⟨rfl, xss⟩
  replace v_s := v_s.ex xss
  replace xw := xw.trans xss
  go_wp2_with fail
  have hs := insq wss (1048576 - sz) xw (by omega) (by omega)
  rw [if_pos (by omega)] at hs
  refine hs.mono ?_
  clear hs
  rintro e wz ⟨rfl, xz⟩
  go_wp2
  go_ret
  exact ⟨rfl, xw.trans xz⟩
set_option maxHeartbeats 8000000 in
set_option maxRecDepth 100000 in
theorem lawRunSpace_walk (p : Int) (s : SSp) (s_0 s_1 s_2 s_3 : Value) (sz : Int) (ins : List (List Int)) (ins_0 : Value) (insz : Int) (w : World) (sh : RSSp w s_0 s_1 s_2 s_3 s) (sq : QS 10 w (.agg #[.int .i64 s.n, .int .i64 s.m, .int .i64 s.q, s_0, s_1, s_2, s_3]) sz) (h0s : 0 ≤ sz) (insh : RM w ins_0 ins) (insq : QS 11 w (ins_0) insz) (h0ins : 0 ≤ insz) (hl : sz + insz ≤ 1048576) (ht : Tb w) :
    Calls Tryd.prog 3 #[.int .i64 p, .agg #[.int .i64 s.n, .int .i64 s.m, .int .i64 s.q, s_0, s_1, s_2, s_3], ins_0] w fun e w' => e = .returned (.bool true) ∧ Ex w w' := by
  obtain ⟨r0, r1, hr⟩ : ∃ r0 r1, runU p s ins = (r0, r1) := ⟨_, _, rfl⟩
  have Hr := Lib.hid hr
  clear hr
  have tn_s := totSSp_nn s
  have tb_s := sh.tot
  have tn_ins := totM_nn ins
  have tb_ins := insh.tot
  have xw := (Ex.refl w).alloc (.cells #[.int .i64 s.n, .int .i64 s.m, .int .i64 s.q, s_0, s_1, s_2, s_3] 24)
  have v_s := VB.new w 24 #[.int .i64 s.n, .int .i64 s.m, .int .i64 s.q, s_0, s_1, s_2, s_3]
  go_enter Tryd.func3, Tryd.ntmps3
  go_wp2_with fail
  generalize w.alloc (.cells #[.int .i64 s.n, .int .i64 s.m, .int .i64 s.q, s_0, s_1, s_2, s_3] 24) = Wp0 at *
  have zWp := xw.size
  have xp := Ex.refl Wp0
  have hs := sq Wp0 (1048576) xw (by omega) (by omega)
  rw [if_neg (by omega)] at hs
  refine hs.mono ?_
  clear hs
  rintro e o1 ⟨rfl, xo1⟩
  replace xw := xw.trans xo1
  replace xp := xp.trans xo1
  have zo1 := xo1.size
  go_wp2_with fail
  have hs := insq o1 (1048576 - sz) xw (by omega) (by omega)
  rw [if_neg (by omega)] at hs
  refine hs.mono ?_
  clear hs
  rintro e o2 ⟨rfl, xo2⟩
  replace xw := xw.trans xo2
  replace xp := xp.trans xo2
  have zo2 := xo2.size
  have qv_s0 := (v_s.ex xp).cell 0 (v := .int .i64 s.n) rfl
  have qv_s1 := (v_s.ex xp).cell 1 (v := .int .i64 s.m) rfl
  have qv_s2 := (v_s.ex xp).cell 2 (v := .int .i64 s.q) rfl
  have qv_s3 := (v_s.ex xp).cell 3 (v := s_0) rfl
  have qv_s4 := (v_s.ex xp).cell 4 (v := s_1) rfl
  have qv_s5 := (v_s.ex xp).cell 5 (v := s_2) rfl
  have qv_s6 := (v_s.ex xp).cell 6 (v := s_3) rfl
  go_wp2_with fail
  clear qv_s0 qv_s1 qv_s2 qv_s3 qv_s4 qv_s5 qv_s6
  refine (toStateSpace_u s s_0 s_1 s_2 s_3 o2 (sh.ex xw)).mono ?_
  rintro e o3 ⟨o3_0, o3_1, o3_2, o3_3, rfl, fo3, xo3⟩
  obtain ⟨o3A0, o3N0, o3C0, o3A1, o3N1, o3C1, o3A2, o3N2, o3C2, o3A3, o3N3, o3C3, rfl, rfl, rfl, rfl⟩ := fo3.rd.form
  replace xw := xw.trans xo3
  replace xp := xp.trans xo3
  have zo3 := xo3.size
  go_wp2_with fail
  refine (toIntSS_u ins ins_0 o3 (insh.ex xw)).mono ?_
  rintro e o4 ⟨o4_0, rfl, fo4, xo4⟩
  obtain ⟨o4A0, o4N0, o4C0, rfl⟩ := fo4.rd.form
  replace xw := xw.trans xo4
  replace xp := xp.trans xo4
  replace fo3 := fo3.ex xo4
  have zo4 := xo4.size
  go_wp2_with fail
  refine (spRunSpace_u _  _ _ _ _ _  _ _ o4 fo3.rd fo4.rd).mono ?_
  intro e o5 ho5
  rw [Hr.out] at ho5
  obtain ⟨o5r0_0, rfl, fo50, xo5⟩ := ho5
  dsimp only at fo50 ⊢
  obtain ⟨o5r0A0, o5r0N0, o5r0C0, rfl⟩ := fo50.form
  have tnfo50 := totM_nn r0
  have tbfo50 := fo50.tot
  replace xw := xw.trans xo5
  replace xp := xp.trans xo5
  replace fo3 := fo3.ex xo5
  replace fo4 := fo4.ex xo5
  have zo5 := xo5.size
  clear fo3
  clear fo4
  have w0_0 := fo50
  clear fo50
  have xs := Ex.refl o5
  have qv_s0 := (v_s.ex xp).cell 0 (v := .int .i64 s.n) rfl
  have qv_s1 := (v_s.ex xp).cell 1 (v := .int .i64 s.m) rfl
  have qv_s2 := (v_s.ex xp).cell 2 (v := .int .i64 s.q) rfl
  have qv_s3 := (v_s.ex xp).cell 3 (v := s_0) rfl
  have qv_s4 := (v_s.ex xp).cell 4 (v := s_1) rfl
  have qv_s5 := (v_s.ex xp).cell 5 (v := s_2) rfl
  have qv_s6 := (v_s.ex xp).cell 6 (v := s_3) rfl
  go_wp2_with fail
  clear qv_s0 qv_s1 qv_s2 qv_s3 qv_s4 qv_s5 qv_s6
  refine (toStateSpace_u s s_0 s_1 s_2 s_3 o5 (sh.ex xw)).mono ?_
  rintro e o6 ⟨o6_0, o6_1, o6_2, o6_3, rfl, fo6, xo6⟩
  obtain ⟨o6A0, o6N0, o6C0, o6A1, o6N1, o6C1, o6A2, o6N2, o6C2, o6A3, o6N3, o6C3, rfl, rfl, rfl, rfl⟩ := fo6.rd.form
  replace xw := xw.trans xo6
  replace xp := xp.trans xo6
  replace xs := xs.trans xo6
  have zo6 := xo6.size
  go_wp2_with fail
  have xa := (Ex.refl o6).alloc (.cells #[.int .i64 s.n, .int .i64 s.m, .int .i64 s.q, (.slice o6A0 o6N0 o6C0), (.slice o6A1 o6N1 o6C1), (.slice o6A2 o6N2 o6C2), (.slice o6A3 o6N3 o6C3)] 29)
  have vx_s := VB.new o6 29 #[.int .i64 s.n, .int .i64 s.m, .int .i64 s.q, (.slice o6A0 o6N0 o6C0), (.slice o6A1 o6N1 o6C1), (.slice o6A2 o6N2 o6C2), (.slice o6A3 o6N3 o6C3)]
  have vx_sl := vx_s.lt
  generalize o6.alloc (.cells #[.int .i64 s.n, .int .i64 s.m, .int .i64 s.q, (.slice o6A0 o6N0 o6C0), (.slice o6A1 o6N1 o6C1), (.slice o6A2 o6N2 o6C2), (.slice o6A3 o6N3 o6C3)] 29) = o7 at *
  replace xw := xw.trans xa
  replace xp := xp.trans xa
  replace xs := xs.trans xa
  replace fo6 := fo6.ex xa
  have zo7 := xa.size
  clear xa
  refine (toIntSS_u ins ins_0 o7 (insh.ex xw)).mono ?_
  rintro e o8 ⟨o8_0, rfl, fo8, xo8⟩
  obtain ⟨o8A0, o8N0, o8C0, rfl⟩ := fo8.rd.form
  replace xw := xw.trans xo8
  replace xp := xp.trans xo8
  replace xs := xs.trans xo8
  replace fo6 := fo6.ex xo8
  replace vx_s := vx_s.ex xo8
  have zo8 := xo8.size
  have qvx_s0 := vx_s.cell 0 (v := .int .i64 s.n) rfl
  have qvx_s1 := vx_s.cell 1 (v := .int .i64 s.m) rfl
  have qvx_s2 := vx_s.cell 2 (v := .int .i64 s.q) rfl
  have qvx_s3 := vx_s.cell 3 (v := (.slice o6A0 o6N0 o6C0)) rfl
  have qvx_s4 := vx_s.cell 4 (v := (.slice o6A1 o6N1 o6C1)) rfl
  have qvx_s5 := vx_s.cell 5 (v := (.slice o6A2 o6N2 o6C2)) rfl
  have qvx_s6 := vx_s.cell 6 (v := (.slice o6A3 o6N3 o6C3)) rfl
  go_wp2_with fail
  clear qvx_s0 qvx_s1 qvx_s2 qvx_s3 qvx_s4 qvx_s5 qvx_s6
  refine (RunSpace_u _  _ _ _ _ _  _ _ o8 fo6.rd fo8.rd (ht.ex xw)).mono ?_
  intro e o9 ho9
  rw [Hr.out] at ho9
  obtain ⟨o9r0_0, rfl, fo90, xo9⟩ := ho9
  dsimp only at fo90 ⊢
  obtain ⟨o9r0A0, o9r0N0, o9r0C0, rfl⟩ := fo90.rd.form
  replace xw := xw.trans xo9
  replace xp := xp.trans xo9
  replace xs := xs.trans xo9
  replace fo6 := fo6.ex xo9
  replace vx_s := vx_s.ex xo9
  replace fo8 := fo8.ex xo9
  have zo9 := xo9.size
  go_wp2_with fail
  refine (eqIntSS_u r0 (.slice o9r0A0 o9r0N0 o9r0C0) (.slice o5r0A0 o5r0N0 o5r0C0) o9 fo90.rd (w0_0.ex xs)).mono ?_
  rintro e o10 ⟨rfl, xo10⟩
  replace xw := xw.trans xo10
  replace xp := xp.trans xo10
  replace xs := xs.trans xo10
  replace fo6 := fo6.ex xo10
  replace vx_s := vx_s.ex xo10
  replace fo8 := fo8.ex xo10
  replace fo90 := fo90.ex xo10
  have zo10 := xo10.size
  have qvx_s0 := vx_s.cell 0 (v := .int .i64 s.n) rfl
  have qvx_s1 := vx_s.cell 1 (v := .int .i64 s.m) rfl
  have qvx_s2 := vx_s.cell 2 (v := .int .i64 s.q) rfl
  have qvx_s3 := vx_s.cell 3 (v := (.slice o6A0 o6N0 o6C0)) rfl
  have qvx_s4 := vx_s.cell 4 (v := (.slice o6A1 o6N1 o6C1)) rfl
  have qvx_s5 := vx_s.cell 5 (v := (.slice o6A2 o6N2 o6C2)) rfl
  have qvx_s6 := vx_s.cell 6 (v := (.slice o6A3 o6N3 o6C3)) rfl
  have qv_s0 := (v_s.ex xp).cell 0 (v := .int .i64 s.n) rfl
  have qv_s1 := (v_s.ex xp).cell 1 (v := .int .i64 s.m) rfl
  have qv_s2 := (v_s.ex xp).cell 2 (v := .int .i64 s.q) rfl
  have qv_s3 := (v_s.ex xp).cell 3 (v := s_0) rfl
  have qv_s4 := (v_s.ex xp).cell 4 (v := s_1) rfl
  have qv_s5 := (v_s.ex xp).cell 5 (v := s_2) rfl
  have qv_s6 := (v_s.ex xp).cell 6 (v := s_3) rfl
  go_wp2_with fail
  go_region_held3 (fun W => W.cell? ⟨o6.heap.size, 0, none⟩ = some (.int .i64 s.n) ∧ W.cell? ⟨o6.heap.size, 1, none⟩ = some (.int .i64 s.m) ∧ W.cell? ⟨o6.heap.size, 2, none⟩ = some (.int .i64 s.q) ∧ W.cell? ⟨o6.heap.size, 3, none⟩ = some ((.slice o6A0 o6N0 o6C0)) ∧ W.cell? ⟨o6.heap.size, 4, none⟩ = some ((.slice o6A1 o6N1 o6C1)) ∧ W.cell? ⟨o6.heap.size, 5, none⟩ = some ((.slice o6A2 o6N2 o6C2)) ∧ W.cell? ⟨o6.heap.size, 6, none⟩ = some ((.slice o6A3 o6N3 o6C3)) ∧ W.cell? ⟨w.heap.size, 0, none⟩ = some (.int .i64 s.n) ∧ W.cell? ⟨w.heap.size, 1, none⟩ = some (.int .i64 s.m) ∧ W.cell? ⟨w.heap.size, 2, none⟩ = some (.int .i64 s.q) ∧ W.cell? ⟨w.heap.size, 3, none⟩ = some (s_0) ∧ W.cell? ⟨w.heap.size, 4, none⟩ = some (s_1) ∧ W.cell? ⟨w.heap.size, 5, none⟩ = some (s_2) ∧ W.cell? ⟨w.heap.size, 6, none⟩ = some (s_3)) (first | (exact ⟨(cell_ex xo12 (cell_ex xo11 qvx_s0)), (cell_ex xo12 (cell_ex xo11 qvx_s1)), (cell_ex xo12 (cell_ex xo11 qvx_s2)), (cell_ex xo12 (cell_ex xo11 qvx_s3)), (cell_ex xo12 (cell_ex xo11 qvx_s4)), (cell_ex xo12 (cell_ex xo11 qvx_s5)), (cell_ex xo12 (cell_ex xo11 qvx_s6)), (cell_ex xo12 (cell_ex xo11 qv_s0)), (cell_ex xo12 (cell_ex xo11 qv_s1)), (cell_ex xo12 (cell_ex xo11 qv_s2)), (cell_ex xo12 (cell_ex xo11 qv_s3)), (cell_ex xo12 (cell_ex xo11 qv_s4)), (cell_ex xo12 (cell_ex xo11 qv_s5)), (cell_ex xo12 (cell_ex xo11 qv_s6))⟩) | (exact ⟨(cell_ex xo11 qvx_s0), (cell_ex xo11 qvx_s1), (cell_ex xo11 qvx_s2), (cell_ex xo11 qvx_s3), (cell_ex xo11 qvx_s4), (cell_ex xo11 qvx_s5), (cell_ex xo11 qvx_s6), (cell_ex xo11 qv_s0), (cell_ex xo11 qv_s1), (cell_ex xo11 qv_s2), (cell_ex xo11 qv_s3), (cell_ex xo11 qv_s4), (cell_ex xo11 qv_s5), (cell_ex xo11 qv_s6)⟩) | (exact ⟨qvx_s0, qvx_s1, qvx_s2, qvx_s3, qvx_s4, qvx_s5, qvx_s6, qv_s0, qv_s1, qv_s2, qv_s3, qv_s4, qv_s5, qv_s6⟩)) (first
    | (go_at_call 13
       refine (toStateSpace_u s s_0 s_1 s_2 s_3 o10.drew (sh.ex xw.drew)).mono ?_
       rintro e o11 ⟨o11_0, o11_1, o11_2, o11_3, rfl, fo11, xo11⟩)
    | (go_at_call 17
       refine (eqStateSpace_u s (.slice o6A0 o6N0 o6C0) (.slice o6A1 o6N1 o6C1) (.slice o6A2 o6N2 o6C2) (.slice o6A3 o6N3 o6C3) o11_0 o11_1 o11_2 o11_3 _ ((fo6.rd.ex (Ex.refl o10).drew).ex xo11) fo11.rd).mono ?_
       rintro e o12 ⟨rfl, xo12⟩))
  have xd : Ex o10 o12 := ((Ex.refl o10).drew.trans xo11).trans xo12
  clear qvx_s0 qvx_s1 qvx_s2 qvx_s3 qvx_s4 qvx_s5 qvx_s6 qv_s0 qv_s1 qv_s2 qv_s3 qv_s4 qv_s5 qv_s6 fo11 xo11 xo12
  replace xw := xw.trans xd
  replace xp := xp.trans xd
  replace xs := xs.trans xd
  replace fo6 := fo6.ex xd
  replace vx_s := vx_s.ex xd
  replace fo8 := fo8.ex xd
  replace fo90 := fo90.ex xd
  have zo12 := xd.size
  clear xd
  go_wp2_with fail
  refine (toIntSS_u ins ins_0 o12 (insh.ex xw)).mono ?_
  rintro e o13 ⟨o13_0, rfl, fo13, xo13⟩
  obtain ⟨o13A0, o13N0, o13C0, rfl⟩ := fo13.rd.form
  replace xw := xw.trans xo13
  replace xp := xp.trans xo13
  replace xs := xs.trans xo13
  replace fo6 := fo6.ex xo13
  replace vx_s := vx_s.ex xo13
  replace fo8 := fo8.ex xo13
  replace fo90 := fo90.ex xo13
  have zo13 := xo13.size
  go_wp2_with fail
  refine (eqIntSS_u ins (.slice o8A0 o8N0 o8C0) (.slice o13A0 o13N0 o13C0) o13 fo8.rd fo13.rd).mono ?_
  rintro e o14 ⟨rfl, xo14⟩
  replace xw := xw.trans xo14
  replace xp := xp.trans xo14
  replace xs := xs.trans xo14
  replace fo6 := fo6.ex xo14
  replace vx_s := vx_s.ex xo14
  replace fo8 := fo8.ex xo14
  replace fo90 := fo90.ex xo14
  replace fo13 := fo13.ex xo14
  have zo14 := xo14.size
  clear fo13
  have qvx_s0 := vx_s.cell 0 (v := .int .i64 s.n) rfl
  have qvx_s1 := vx_s.cell 1 (v := .int .i64 s.m) rfl
  have qvx_s2 := vx_s.cell 2 (v := .int .i64 s.q) rfl
  have qvx_s3 := vx_s.cell 3 (v := (.slice o6A0 o6N0 o6C0)) rfl
  have qvx_s4 := vx_s.cell 4 (v := (.slice o6A1 o6N1 o6C1)) rfl
  have qvx_s5 := vx_s.cell 5 (v := (.slice o6A2 o6N2 o6C2)) rfl
  have qvx_s6 := vx_s.cell 6 (v := (.slice o6A3 o6N3 o6C3)) rfl
  go_wp2_with fail
  clear qvx_s0 qvx_s1 qvx_s2 qvx_s3 qvx_s4 qvx_s5 qvx_s6
  refine (markStateSpace_u (o5.heap.size) (o6.heap.size) s (.slice o6A0 o6N0 o6C0) (.slice o6A1 o6N1 o6C1) (.slice o6A2 o6N2 o6C2) (.slice o6A3 o6N3 o6C3) (1) o14 fo6 (by omega) (by omega) (by omega)).mono ?_
  rintro e o15 ⟨rfl, mo15, io15⟩
  clear fo6
  replace xw := xw.iv io15 (by omega)
  replace xp := xp.iv io15 (by omega)
  replace xs := xs.iv io15 (by omega)
  replace vx_s := vx_s.iv io15 (by omega)
  replace fo8 := fo8.iv io15 (by omega)
  replace fo90 := fo90.iv io15 (by omega)
  have zo15 := io15.size
  clear mo15
  clear vx_s
  go_wp2_with fail
  refine (markIntSS_u (o7.heap.size) (o8.heap.size) ins (.slice o8A0 o8N0 o8C0) (1 + totSSp s) o15 fo8 (by omega) (by omega) (by omega)).mono ?_
  rintro e o16 ⟨rfl, mo16, io16⟩
  clear fo8
  replace xw := xw.iv io16 (by omega)
  replace xp := xp.iv io16 (by omega)
  replace xs := xs.iv io16 (by omega)
  replace fo90 := fo90.iv io16 (by omega)
  have zo16 := io16.size
  clear mo16
  go_wp2_with fail
  refine (eqIntSS_u r0 (.slice o9r0A0 o9r0N0 o9r0C0) (.slice o5r0A0 o5r0N0 o5r0C0) o16 fo90.rd (w0_0.ex xs)).mono ?_
  rintro e o17 ⟨rfl, xo17⟩
  replace xw := xw.trans xo17
  replace xp := xp.trans xo17
  replace xs := xs.trans xo17
  replace fo90 := fo90.ex xo17
  have zo17 := xo17.size
  go_wp2_with fail
  refine (markIntSS_u (o8.heap.size) (o9.heap.size) r0 (.slice o9r0A0 o9r0N0 o9r0C0) (1) o17 fo90 (by omega) (by omega) (by omega)).mono ?_
  rintro e o18 ⟨rfl, mo18, io18⟩
  clear fo90
  replace xw := xw.iv io18 (by omega)
  replace xp := xp.iv io18 (by omega)
  replace xs := xs.iv io18 (by omega)
  have zo18 := io18.size
  go_wp2_with fail
  refine (heldIntSS_u r0 (.slice o9r0A0 o9r0N0 o9r0C0) (1) o18 mo18.rd (by omega) (by omega)).mono ?_
  rintro e o19 ⟨rfl, xo19⟩
  replace xw := xw.trans xo19
  replace xp := xp.trans xo19
  replace xs := xs.trans xo19
  replace mo18 := mo18.ex xo19
  have zo19 := xo19.size
  have qv_s0 := (v_s.ex xp).cell 0 (v := .int .i64 s.n) rfl
  have qv_s1 := (v_s.ex xp).cell 1 (v := .int .i64 s.m) rfl
  have qv_s2 := (v_s.ex xp).cell 2 (v := .int .i64 s.q) rfl
  have qv_s3 := (v_s.ex xp).cell 3 (v := s_0) rfl
  have qv_s4 := (v_s.ex xp).cell 4 (v := s_1) rfl
  have qv_s5 := (v_s.ex xp).cell 5 (v := s_2) rfl
  have qv_s6 := (v_s.ex xp).cell 6 (v := s_3) rfl
  go_wp2_with fail
  clear qv_s0 qv_s1 qv_s2 qv_s3 qv_s4 qv_s5 qv_s6
  refine (toStateSpace_u s s_0 s_1 s_2 s_3 o19 (sh.ex xw)).mono ?_
  rintro e o20 ⟨o20_0, o20_1, o20_2, o20_3, rfl, fo20, xo20⟩
  obtain ⟨o20A0, o20N0, o20C0, o20A1, o20N1, o20C1, o20A2, o20N2, o20C2, o20A3, o20N3, o20C3, rfl, rfl, rfl, rfl⟩ := fo20.rd.form
  replace xw := xw.trans xo20
  replace xp := xp.trans xo20
  replace xs := xs.trans xo20
  replace mo18 := mo18.ex xo20
  have zo20 := xo20.size
  go_wp2_with fail
  refine (toIntSS_u ins ins_0 o20 (insh.ex xw)).mono ?_
  rintro e o21 ⟨o21_0, rfl, fo21, xo21⟩
  obtain ⟨o21A0, o21N0, o21C0, rfl⟩ := fo21.rd.form
  replace xw := xw.trans xo21
  replace xp := xp.trans xo21
  replace xs := xs.trans xo21
  replace mo18 := mo18.ex xo21
  replace fo20 := fo20.ex xo21
  have zo21 := xo21.size
  go_wp2_with fail
  refine (RunSpace_u _  _ _ _ _ _  _ _ o21 fo20.rd fo21.rd (ht.ex xw)).mono ?_
  intro e o22 ho22
  rw [Hr.out] at ho22
  obtain ⟨o22r0_0, rfl, fo220, xo22⟩ := ho22
  dsimp only at fo220 ⊢
  obtain ⟨o22r0A0, o22r0N0, o22r0C0, rfl⟩ := fo220.rd.form
  replace xw := xw.trans xo22
  replace xp := xp.trans xo22
  replace xs := xs.trans xo22
  replace mo18 := mo18.ex xo22
  replace fo20 := fo20.ex xo22
  replace fo21 := fo21.ex xo22
  have zo22 := xo22.size
  clear fo20
  clear fo21
  go_wp2_with fail
  refine (eqIntSS_u r0 (.slice o22r0A0 o22r0N0 o22r0C0) (.slice o5r0A0 o5r0N0 o5r0C0) o22 fo220.rd (w0_0.ex xs)).mono ?_
  rintro e o23 ⟨rfl, xo23⟩
  replace xw := xw.trans xo23
  replace xp := xp.trans xo23
  replace xs := xs.trans xo23
  replace mo18 := mo18.ex xo23
  replace fo220 := fo220.ex xo23
  have zo23 := xo23.size
  go_wp2_with fail
  refine (heldIntSS_u r0 (.slice o9r0A0 o9r0N0 o9r0C0) (1) o23 mo18.rd (by omega) (by omega)).mono ?_
  rintro e o24 ⟨rfl, xo24⟩
  replace xw := xw.trans xo24
  replace xp := xp.trans xo24
  replace xs := xs.trans xo24
  replace mo18 := mo18.ex xo24
  replace fo220 := fo220.ex xo24
  have zo24 := xo24.size
  clear Hr
  go_wp2
  all_goals go_ret
  exact ⟨rfl, xw⟩
end Go.Proofs.YtkpfmnconnopnaaDoor
