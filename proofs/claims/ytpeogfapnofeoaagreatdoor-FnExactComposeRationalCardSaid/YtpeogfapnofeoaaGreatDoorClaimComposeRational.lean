/- THE CARD OF laws.FnExactComposeRational: for every input the law returns true and each argument reads as before: the program's ComposeRational answers as the reference does. -/
import Derived.Test.YtpeogfapnofeoaaGreatDoorOpen
import Derived.Test.YtpeogfapnofeoaaGreatDoorRow
import Derived.Test.YtpeogfapnofeoaaGreatDoorLawComposeRational
import Derived.Test.YtpeogfapnofeoaaGreatDoorPkJ
namespace Go.Proofs.YtpeogfapnofeoaaGreatDoor.lawComposeRational
set_option maxRecDepth 100000
open Go.ChangeShapes Go.WideShapes Go.ChangeAt Go.RowKit

set_option maxHeartbeats 4000000 in
theorem contract (H : Type) (enc : TypeId × Value → H) (W : World) (base : Nat) (args : Array Value) (ds gs : List (DataW H)) (before : List MemPlace)
    (hval : ∀ (j : Nat) t v, Tryz.f7.params[j]? = some t → args[j]? = some v → Value.okWide Tryz.prog W .any base t v)
    (hW : DataW.Whole enc Tryz.prog Tryz.f7.params.toList Rows.fnExactComposeRationalSpec.vars false W args.toList ds gs before) (hL : laidMetH Tryz.prog Rows.fnExactComposeRationalRow.laid W) :
    Calls Tryz.prog 7 args W fun e W' => ∃ v, e = .returned v ∧ Rows.fnExactComposeRationalSpec.post enc Tryz.prog Tryz.f7 false true false false W args v W' := by
  have hW' := hW
  obtain ⟨p, q, hA, hV, rfl, hfz, hnd⟩ := hW
  rw [Tryz.params7] at hA hval
  obtain ⟨v0, vs0, d0, ds0, p0, q0, hargs, rfl, rfl, h0, r0⟩ := trodAll_cons hA
  obtain ⟨v1, vs1, d1, ds1, p1, q1, rfl, rfl, rfl, h1, r1⟩ := trodAll_cons r0
  obtain ⟨v2, vs2, d2, ds2, p2, q2, rfl, rfl, rfl, h2, r2⟩ := trodAll_cons r1
  obtain ⟨rfl, rfl, rfl⟩ := trodAll_nil r2
  obtain rfl : args = #[v0, v1, v2] := by cases args; simp_all
  obtain ⟨g, t, cs, fu, dg, pg, rfl, _⟩ := trodVars_one hV
  have ht := table hL
  have fin : ∀ W', Ex W W' → Rows.fnExactComposeRationalSpec.post enc Tryz.prog Tryz.f7 false true false false W #[v0, v1, v2] (.bool true) W' := fun W' hx =>
    law_post laidOut (by kernel_rfl) hvsPrimes rfl Tryz.underlying4 rfl hW' hx
  obtain ⟨p, rfl, _, _, _⟩ := open_int Tryz.underlying3 (hval 0 3 v0 rfl rfl) h0
  obtain ⟨a_c0, a_c1, a_c2, az, rfl, h0a, aq, ak⟩ := open_RatRelation (hval 1 24 v1 rfl rfl) h1
  obtain ⟨b_c0, b_c1, b_c2, bz, rfl, h0b, bq, bk⟩ := open_RatRelation (hval 2 24 v2 rfl rfl) h2
  clear hA hV
  by_cases b1 : 1048576 < az
  · exact (lawComposeRational_big1 p a_c0 a_c1 a_c2 az b_c0 b_c1 b_c2 bz W aq h0a  b1).mono fun e W' ⟨he, hx⟩ => ⟨_, he, fin W' hx⟩
  by_cases b2 : 1048576 - az < bz
  · exact (lawComposeRational_big2 p a_c0 a_c1 a_c2 az b_c0 b_c1 b_c2 bz W aq h0a bq h0b (by omega) b2).mono fun e W' ⟨he, hx⟩ => ⟨_, he, fin W' hx⟩
  obtain ⟨a, a_0, rfl, rfl, rfl, ah⟩ := ak (by omega)
  obtain ⟨b, b_0, rfl, rfl, rfl, bh⟩ := bk (by omega)
  exact (lawComposeRational_walk p a a_c2 az b b_c2 bz W ah aq h0a bh bq h0b (by omega) ht).mono fun e W' ⟨he, hx⟩ => ⟨_, he, fin W' hx⟩

noncomputable def wit : Array Value := #[.int .i64 0, .agg #[.int .i64 0, .int .i64 0, .slice none 0 0], .agg #[.int .i64 0, .int .i64 0, .slice none 0 0]]
theorem laid_met (os : Os) : laidMet Tryz.prog Rows.fnExactComposeRationalRow.laid ((laidWorld os).forCall (fun _ _ => 0) ⟨#[], wit, []⟩).memory :=
  laidMet_of_run' 8 (by kernel_rfl) (by kernel_rfl)
def tab {H : Type} : DataW H := .agg [.lit (.int .i64 2), .lit (.int .i64 3), .lit (.int .i64 5), .lit (.int .i64 7)]
theorem reads (os : Os) {H : Type} (enc : TypeId × Value → H) : DataW.whole enc Tryz.prog ((laidWorld os).forCall (fun _ _ => 0) ⟨#[], wit, []⟩).memory Tryz.f7.params.toList Rows.fnExactComposeRationalSpec.vars false wit.toList 8 = some ([.lit (.int .i64 0), .agg [.lit (.int .i64 0), .lit (.int .i64 0), .nil], .agg [.lit (.int .i64 0), .lit (.int .i64 0), .nil]], [tab], MemPlace.row ⟨0, 0, none⟩ 4) := by kernel_rfl
set_option maxRecDepth 100000 in
theorem lifted (os : Os) (started : os.Started) (H : Type) (enc : TypeId × Value → H) (F : Stop.Interp) :
    ReturnsInHanded {} Tryz.checked os 7 .any ((OpenSpec.ofChange Rows.fnExactComposeRationalSpec).preRow enc Tryz.prog Tryz.f7 Rows.fnExactComposeRationalRow.domain false Rows.fnExactComposeRationalRow.laid) (((OpenSpec.ofChange Rows.fnExactComposeRationalSpec).at F).post enc Tryz.prog Tryz.f7 false true false false) := by
  refine returnsInHanded_of_row (C := Tryz.checked) (s := OpenSpec.ofChange Rows.fnExactComposeRationalSpec) ownGod started (by kernel_rfl) Tryz.func7
    (witness_row_at (enc := enc) (C := Tryz.checked) false (laidWorld os) wit rfl (by kernel_rfl) (by kernel_rfl) (by kernel_rfl)
      (OpenSpec.preRow_of_cond 8 (reads os enc) (by kernel_rfl) (fun k hk => by cases hk) (by kernel_rfl) (laid_met os))) ?_
  intro W base args ds gs before hval hW _ _ _ hL _ _
  exact contract H enc W base args ds gs before hval hW hL
theorem said : Rows.FnExactComposeRationalSaid :=
  OpenClaim.holds_of_cond 7 Tryz.f7 rfl rfl rfl rfl rfl rfl rfl ⟨rfl, rfl, rfl, rfl, rfl⟩ rfl rfl rfl rfl rfl (by kernel_rfl) Tryz.func7 (by kernel_rfl)
    (of_decide_eq_true (by kernel_rfl)) (by unfold Func.isWrapper; first | (rw [if_pos (by decide +kernel)]; kernel_rfl) | (rw [if_neg (by decide +kernel)]; exact ⟨rfl, rfl⟩))
    (fun os started H enc _ F => by rw [OpenClaim.pre_eq_preRow]; exact lifted os started H enc F)
theorem plain (f : FuncId) (fn : Func) (hf : Tryz.pinned.checked.prog.funcNamed "loop.example/g01073/laws.FnExactComposeRational" = some f) (hfn : Tryz.pinned.checked.prog.funcs[f]? = some fn) :
    false = Tryz.pinned.checked.prog.looks [] ∧ ∀ (j : Nat) t, fn.params[j]? = some t → Tryz.pinned.checked.prog.wantsStandIn t = false := by
  obtain rfl : f = 7 := Option.some.inj ((show Tryz.prog.funcNamed "loop.example/g01073/laws.FnExactComposeRational" = some 7 by kernel_rfl).symm.trans hf) |>.symm
  obtain rfl : fn = Tryz.f7 := (Option.some.inj (Tryz.func7.symm.trans hfn)).symm
  refine ⟨by kernel_rfl, fun j t ht => ?_⟩
  have hall : Tryz.f7.params.all (fun t => Tryz.prog.wantsStandIn t == false) = true := by kernel_rfl
  have := Array.all_eq_true_iff_forall_mem.1 hall t (Array.mem_of_getElem? ht)
  have h2 : Tryz.prog.wantsStandIn t = false := by simpa using this
  exact h2
/-- THE CARD. -/
theorem card : Rows.FnExactComposeRationalCardSaid :=
  Claim7.holds_tied_plain_at .later [] _ _ _ _ said (fun _ h => by cases h) (by kernel_rfl) (fun _ h => by cases h) fnExactComposeRational_row_tie rfl ⟨rfl, rfl⟩ (by kernel_rfl) rfl plain (by kernel_rfl)
#print axioms card
end Go.Proofs.YtpeogfapnofeoaaGreatDoor.lawComposeRational
