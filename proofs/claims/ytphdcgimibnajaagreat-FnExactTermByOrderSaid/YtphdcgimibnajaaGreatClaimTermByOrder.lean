/- THE CARD OF laws.FnExactTermByOrder: for every input the law returns true and each argument reads as before: the program's TermByOrder answers as the reference does. -/
import Derived.Test.YtphdcgimibnajaaGreatAp02
import Derived.Test.YtphdcgimibnajaaGreatLawTermByOrder
import Derived.Test.YtphdcgimibnajaaGreatAp27
import Derived.Test.YtphdcgimibnajaaGreatUL
namespace Go.Proofs.YtphdcgimibnajaaGreat.lawTermByOrder
set_option maxRecDepth 100000
open Go.ChangeShapes Go.WideShapes Go.ChangeAt Go.RowKit

set_option maxHeartbeats 4000000 in
theorem contract (H : Type) (enc : TypeId × Value → H) (W : World) (base : Nat) (args : Array Value) (ds gs : List (DataW H)) (before : List MemPlace)
    (hval : ∀ (j : Nat) t v, Tryz.f4.params[j]? = some t → args[j]? = some v → Value.okWide Tryz.prog W .any base t v)
    (hW : DataW.Whole enc Tryz.prog Tryz.f4.params.toList Rows.fnExactTermByOrderSpec.vars false W args.toList ds gs before) (hL : laidMetH Tryz.prog Rows.fnExactTermByOrderRow.laid W) :
    Calls Tryz.prog 4 args W fun e W' => ∃ v, e = .returned v ∧ Rows.fnExactTermByOrderSpec.post enc Tryz.prog Tryz.f4 false true false false W args v W' := by
  have hW' := hW
  obtain ⟨p, q, hA, hV, rfl, hfz, hnd⟩ := hW
  rw [Tryz.params4] at hA hval
  obtain ⟨v0, vs0, d0, ds0, p0, q0, hargs, rfl, rfl, h0, r0⟩ := trodAll_cons hA
  obtain ⟨v1, vs1, d1, ds1, p1, q1, rfl, rfl, rfl, h1, r1⟩ := trodAll_cons r0
  obtain ⟨rfl, rfl, rfl⟩ := trodAll_nil r1
  obtain rfl : args = #[v0, v1] := by cases args; simp_all
  obtain rfl : gs = [] := by
    cases gs with
    | nil => rfl
    | cons _ _ => exact (show False from hV).elim
  have fin : ∀ W', Ex W W' → Rows.fnExactTermByOrderSpec.post enc Tryz.prog Tryz.f4 false true false false W #[v0, v1] (.bool true) W' := fun W' hx =>
    law_post laidOut (by kernel_rfl) (fun n hn => by cases hn) rfl Tryz.underlying4 rfl hW' hx
  obtain ⟨g_c0, g_c1, g_c2, g_c3, gz, rfl, h0g, gq, gk⟩ := open_Graph (hval 0 25 v0 rfl rfl) h0
  obtain ⟨orderA, ordern, orderc, rfl, orderm, orderk⟩ := open_len (hval 1 23 v1 rfl rfl) h1
  clear hA
  by_cases blorder : 1048576 < ordern
  · exact (lawTermByOrder_len_order g_c0 g_c1 g_c2 g_c3 orderA ordern orderc W blorder orderm).mono fun e W' ⟨he, hx⟩ => ⟨_, he, fin W' hx⟩
  by_cases b1 : 1048576 < gz
  · exact (lawTermByOrder_big1 g_c0 g_c1 g_c2 g_c3 gz orderA ordern orderc W gq h0g (by omega)  b1).mono fun e W' ⟨he, hx⟩ => ⟨_, he, fin W' hx⟩
  obtain ⟨g, g_0, g_1, g_2, rfl, rfl, rfl, rfl, gh⟩ := gk (by omega)
  obtain ⟨order, rfl, orderR⟩ := orderk (by omega)
  exact (lawTermByOrder_walk g g_c1 g_c2 g_c3 gz order (.slice orderA order.length orderc) W gh gq h0g ⟨orderA, orderc, rfl, orderR⟩ (by omega) (by omega)).mono fun e W' ⟨he, hx⟩ => ⟨_, he, fin W' hx⟩

noncomputable def wit : Array Value := #[.agg #[.int .i64 0, .slice none 0 0, .slice none 0 0, .slice none 0 0], .slice none 0 0]
theorem laid_met (os : Os) : laidMet Tryz.prog Rows.fnExactTermByOrderRow.laid ((World.holding Tryz.prog os ⟨#[], #[], []⟩).forCall (fun _ _ => 0) ⟨#[], wit, []⟩).memory := by
  first | exact laidMet_of_run' 8 (by kernel_rfl) (by kernel_rfl) | trivial | (intro _ h; cases h)
theorem reads (os : Os) {H : Type} (enc : TypeId × Value → H) : DataW.whole enc Tryz.prog ((World.holding Tryz.prog os ⟨#[], #[], []⟩).forCall (fun _ _ => 0) ⟨#[], wit, []⟩).memory Tryz.f4.params.toList Rows.fnExactTermByOrderSpec.vars false wit.toList 8 = some ([.agg [.lit (.int .i64 0), .nil, .nil, .nil], .nil], [], []) := by kernel_rfl
set_option maxRecDepth 100000 in
theorem lifted (os : Os) (started : os.Started) (H : Type) (enc : TypeId × Value → H) (F : Stop.Interp) :
    ReturnsInHanded {} Tryz.checked os 4 .any ((OpenSpec.ofChange Rows.fnExactTermByOrderSpec).preRow enc Tryz.prog Tryz.f4 Rows.fnExactTermByOrderRow.domain false Rows.fnExactTermByOrderRow.laid) (((OpenSpec.ofChange Rows.fnExactTermByOrderSpec).at F).post enc Tryz.prog Tryz.f4 false true false false) := by
  refine returnsInHanded_of_row (C := Tryz.checked) (s := OpenSpec.ofChange Rows.fnExactTermByOrderSpec) ownGod started (by kernel_rfl) Tryz.func4
    (witness_row_at (enc := enc) (C := Tryz.checked) false (World.holding Tryz.prog os ⟨#[], #[], []⟩) wit rfl (by kernel_rfl) (by kernel_rfl) (by kernel_rfl)
      (OpenSpec.preRow_of_cond 8 (reads os enc) (by kernel_rfl) (fun k hk => by cases hk) (by kernel_rfl) (laid_met os))) ?_
  intro W base args ds gs before hval hW _ _ _ hL _ _
  exact contract H enc W base args ds gs before hval hW hL
theorem said : Rows.FnExactTermByOrderSaid :=
  OpenClaim.holds_of_cond 4 Tryz.f4 rfl rfl rfl rfl rfl rfl rfl ⟨rfl, rfl, rfl, rfl, rfl⟩ rfl rfl rfl rfl rfl (by kernel_rfl) Tryz.func4 (by kernel_rfl)
    (of_decide_eq_true (by kernel_rfl)) (by unfold Func.isWrapper; first | (rw [if_pos (by decide +kernel)]; kernel_rfl) | (rw [if_neg (by decide +kernel)]; exact ⟨rfl, rfl⟩))
    (fun os started H enc _ F => by rw [OpenClaim.pre_eq_preRow]; exact lifted os started H enc F)
/-- THE STATEMENT. -/
theorem card : Rows.FnExactTermByOrderSaid := said
#print axioms card
end Go.Proofs.YtphdcgimibnajaaGreat.lawTermByOrder
