/- THE CARD OF laws.FnExactTermOf: for every input the law returns true and each argument reads as before: the program's TermOf answers as the reference does. -/
import Derived.Test.YtphdcgimibnajaaGreatAp02
import Derived.Test.YtphdcgimibnajaaGreatLawTermOf
import Derived.Test.YtphdcgimibnajaaGreatAp26
namespace Go.Proofs.YtphdcgimibnajaaGreat.lawTermOf
set_option maxRecDepth 100000
open Go.ChangeShapes Go.WideShapes Go.ChangeAt Go.RowKit

set_option maxHeartbeats 4000000 in
theorem contract (H : Type) (enc : TypeId × Value → H) (W : World) (base : Nat) (args : Array Value) (ds gs : List (DataW H)) (before : List MemPlace)
    (hval : ∀ (j : Nat) t v, Tryz.f3.params[j]? = some t → args[j]? = some v → Value.okWide Tryz.prog W .any base t v)
    (hW : DataW.Whole enc Tryz.prog Tryz.f3.params.toList Rows.fnExactTermOfSpec.vars false W args.toList ds gs before) (hL : laidMetH Tryz.prog Rows.fnExactTermOfRow.laid W) :
    Calls Tryz.prog 3 args W fun e W' => ∃ v, e = .returned v ∧ Rows.fnExactTermOfSpec.post enc Tryz.prog Tryz.f3 false true false false W args v W' := by
  have hW' := hW
  obtain ⟨p, q, hA, hV, rfl, hfz, hnd⟩ := hW
  rw [Tryz.params3] at hA hval
  obtain ⟨v0, vs0, d0, ds0, p0, q0, hargs, rfl, rfl, h0, r0⟩ := trodAll_cons hA
  obtain ⟨rfl, rfl, rfl⟩ := trodAll_nil r0
  obtain rfl : args = #[v0] := by cases args; simp_all
  obtain rfl : gs = [] := by
    cases gs with
    | nil => rfl
    | cons _ _ => exact (show False from hV).elim
  have fin : ∀ W', Ex W W' → Rows.fnExactTermOfSpec.post enc Tryz.prog Tryz.f3 false true false false W #[v0] (.bool true) W' := fun W' hx =>
    law_post laidOut (by kernel_rfl) (fun n hn => by cases hn) rfl Tryz.underlying4 rfl hW' hx
  obtain ⟨g_c0, g_c1, g_c2, g_c3, gz, rfl, h0g, gq, gk⟩ := open_Graph (hval 0 25 v0 rfl rfl) h0
  clear hA
  by_cases b1 : 1048576 < gz
  · exact (lawTermOf_big1 g_c0 g_c1 g_c2 g_c3 gz W gq h0g  b1).mono fun e W' ⟨he, hx⟩ => ⟨_, he, fin W' hx⟩
  obtain ⟨g, g_0, g_1, g_2, rfl, rfl, rfl, rfl, gh⟩ := gk (by omega)
  exact (lawTermOf_walk g g_c1 g_c2 g_c3 gz W gh gq h0g (by omega)).mono fun e W' ⟨he, hx⟩ => ⟨_, he, fin W' hx⟩

noncomputable def wit : Array Value := #[.agg #[.int .i64 0, .slice none 0 0, .slice none 0 0, .slice none 0 0]]
theorem laid_met (os : Os) : laidMet Tryz.prog Rows.fnExactTermOfRow.laid ((World.holding Tryz.prog os ⟨#[], #[], []⟩).forCall (fun _ _ => 0) ⟨#[], wit, []⟩).memory := by
  first | exact laidMet_of_run' 8 (by kernel_rfl) (by kernel_rfl) | trivial | (intro _ h; cases h)
theorem reads (os : Os) {H : Type} (enc : TypeId × Value → H) : DataW.whole enc Tryz.prog ((World.holding Tryz.prog os ⟨#[], #[], []⟩).forCall (fun _ _ => 0) ⟨#[], wit, []⟩).memory Tryz.f3.params.toList Rows.fnExactTermOfSpec.vars false wit.toList 8 = some ([.agg [.lit (.int .i64 0), .nil, .nil, .nil]], [], []) := by kernel_rfl
set_option maxRecDepth 100000 in
theorem lifted (os : Os) (started : os.Started) (H : Type) (enc : TypeId × Value → H) (F : Stop.Interp) :
    ReturnsInHanded {} Tryz.checked os 3 .any ((OpenSpec.ofChange Rows.fnExactTermOfSpec).preRow enc Tryz.prog Tryz.f3 Rows.fnExactTermOfRow.domain false Rows.fnExactTermOfRow.laid) (((OpenSpec.ofChange Rows.fnExactTermOfSpec).at F).post enc Tryz.prog Tryz.f3 false true false false) := by
  refine returnsInHanded_of_row (C := Tryz.checked) (s := OpenSpec.ofChange Rows.fnExactTermOfSpec) ownGod started (by kernel_rfl) Tryz.func3
    (witness_row_at (enc := enc) (C := Tryz.checked) false (World.holding Tryz.prog os ⟨#[], #[], []⟩) wit rfl (by kernel_rfl) (by kernel_rfl) (by kernel_rfl)
      (OpenSpec.preRow_of_cond 8 (reads os enc) (by kernel_rfl) (fun k hk => by cases hk) (by kernel_rfl) (laid_met os))) ?_
  intro W base args ds gs before hval hW _ _ _ hL _ _
  exact contract H enc W base args ds gs before hval hW hL
theorem said : Rows.FnExactTermOfSaid :=
  OpenClaim.holds_of_cond 3 Tryz.f3 rfl rfl rfl rfl rfl rfl rfl ⟨rfl, rfl, rfl, rfl, rfl⟩ rfl rfl rfl rfl rfl (by kernel_rfl) Tryz.func3 (by kernel_rfl)
    (of_decide_eq_true (by kernel_rfl)) (by unfold Func.isWrapper; first | (rw [if_pos (by decide +kernel)]; kernel_rfl) | (rw [if_neg (by decide +kernel)]; exact ⟨rfl, rfl⟩))
    (fun os started H enc _ F => by rw [OpenClaim.pre_eq_preRow]; exact lifted os started H enc F)
/-- THE STATEMENT. -/
theorem card : Rows.FnExactTermOfSaid := said
#print axioms card
end Go.Proofs.YtphdcgimibnajaaGreat.lawTermOf
