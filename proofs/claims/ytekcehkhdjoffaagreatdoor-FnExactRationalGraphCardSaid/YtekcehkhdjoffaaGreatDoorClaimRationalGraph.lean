/- THE CARD OF laws.FnExactRationalGraph: for every input the law returns true and each argument reads as before: the program's RationalGraph answers as the reference does. -/
import Derived.Test.YtekcehkhdjoffaaGreatDoorLawRationalGraph
namespace Go.Proofs.YtekcehkhdjoffaaGreatDoor.lawRationalGraph
set_option maxRecDepth 100000
open Go.ChangeShapes Go.WideShapes Go.ChangeAt Go.RowKit
theorem contract(H:Type)(enc:TypeId×Value->H)(W:World)(base:Nat)(args:Array Value)(ds gs:List (DataW H))(before:List MemPlace)
 (hval:∀(j:Nat) t v,Tryz.f3.params[j]?=some t->args[j]?=some v->Value.okWide Tryz.prog W .any base t v)
 (hW:DataW.Whole enc Tryz.prog Tryz.f3.params.toList Rows.fnExactRationalGraphSpec.vars false W args.toList ds gs before) (hL:laidMetH Tryz.prog Rows.fnExactRationalGraphRow.laid W):
 Calls Tryz.prog 3 args W λe W'=>∃v,e=.returned v/\Rows.fnExactRationalGraphSpec.post enc Tryz.prog Tryz.f3 false true false false W args v W':=by
 have hW':=hW;obtain⟨p,q,hA,hV,rfl,hfz,hnd⟩:=hW;rw[Tryz.params3]at hA hval;obtain⟨v0,vs0,d0,ds0,p0,q0,hargs,rfl,rfl,h0,r0⟩:=trodAll_cons hA;obtain⟨v1,vs1,d1,ds1,p1,q1,rfl,rfl,rfl,h1,r1⟩:=trodAll_cons r0;obtain⟨rfl,rfl,rfl⟩:=trodAll_nil r1;obtain rfl:args= #[v0,v1]:=by cases args;simp_all
 obtain⟨g,t,cs,fu,dg,pg,rfl,_⟩:=trodVars_one hV;have ht:=table hL;have fin:∀W',Ex W W'->Rows.fnExactRationalGraphSpec.post enc Tryz.prog Tryz.f3 false true false false W #[v0,v1] (.bool true) W':=λW' hx=>
  QV laidOut (by kernel_rfl) Np rfl Tryz.underlying4 rfl hW' hx
 obtain⟨p,rfl,_,_,_⟩:=open_int Tryz.underlying3 (hval 0 3 v0 rfl rfl) h0;obtain⟨NN,Jv,Ju,Jt,gz,rfl,h0g,gq,gk⟩:=I5 (hval 1 25 v1 rfl rfl) h1;clear hA hV;by_cases b1:1048576<gz
 .exact(pF p NN Jv Ju Jt gz W gq h0g b1).mono λe W' ⟨he,hx⟩=>⟨_,he,fin W' hx⟩
 obtain⟨g,RZ,g_1,g_2,rfl,rfl,rfl,rfl,gh⟩:=gk (by omega);exact(pE p g Jv Ju Jt gz W gh gq h0g (by omega) ht).mono λe W' ⟨he,hx⟩=>⟨_,he,fin W' hx⟩
noncomputable def wit:Array Value:= #[.int .i64 0,.agg #[.int .i64 0,.slice none 0 0,.slice none 0 0,.slice none 0 0]]
theorem QW(os:Os):laidMet Tryz.prog Rows.fnExactRationalGraphRow.laid ((laidWorld os).forCall (λ_ _=>0) ⟨#[],wit,[]⟩).memory:=
 laidMet_of_run' 8 (by kernel_rfl) (by kernel_rfl)
def tab{H:Type}:DataW H:=.agg [.lit (.int .i64 2),.lit (.int .i64 3),.lit (.int .i64 5),.lit (.int .i64 7)]
theorem reads(os:Os){H:Type}(enc:TypeId×Value->H):DataW.whole enc Tryz.prog ((laidWorld os).forCall (λ_ _=>0) ⟨#[],wit,[]⟩).memory Tryz.f3.params.toList Rows.fnExactRationalGraphSpec.vars false wit.toList 8=some ([.lit (.int .i64 0),.agg [.lit (.int .i64 0),.nil,.nil,.nil]],[tab],MemPlace.row ⟨0,0,none⟩ 4):=by kernel_rfl
theorem lifted(os:Os)(started:os.Started)(H:Type)(enc:TypeId×Value->H)(F:Stop.Interp):
 ReturnsInHanded {} Tryz.checked os 3 .any ((OpenSpec.ofChange Rows.fnExactRationalGraphSpec).preRow enc Tryz.prog Tryz.f3 Rows.fnExactRationalGraphRow.domain false Rows.fnExactRationalGraphRow.laid) (((OpenSpec.ofChange Rows.fnExactRationalGraphSpec).at F).post enc Tryz.prog Tryz.f3 false true false false):=by
 refine returnsInHanded_of_row (C:=Tryz.checked) (s:=OpenSpec.ofChange Rows.fnExactRationalGraphSpec) XR started (by kernel_rfl) Tryz.func3
  (witness_row_at (enc:=enc) (C:=Tryz.checked) false (laidWorld os) wit rfl (by kernel_rfl) (by kernel_rfl) (by kernel_rfl)
    (OpenSpec.preRow_of_cond 8 (reads os enc) (by kernel_rfl) (λk hk=>by cases hk) (by kernel_rfl) (QW os))) ?_
 intro W base args ds gs before hval hW _ _ _ hL _ _;exact contract H enc W base args ds gs before hval hW hL
theorem said:Rows.FnExactRationalGraphSaid:=
 OpenClaim.holds_of_cond 3 Tryz.f3 rfl rfl rfl rfl rfl rfl rfl ⟨rfl,rfl,rfl,rfl,rfl⟩ rfl rfl rfl rfl rfl (by kernel_rfl) Tryz.func3 (by kernel_rfl)
  (of_decide_eq_true (by kernel_rfl)) (by unfold Func.isWrapper;first|(rw[amY (by decide+kernel)];kernel_rfl)|(rw[amZ (by decide+kernel)];exact⟨rfl,rfl⟩))
  (λos started H enc _ F=>by rw[OpenClaim.pre_eq_preRow];exact lifted os started H enc F)
theorem plain(f:FuncId)(fn:Func)(hf:Tryz.pinned.checked.prog.funcNamed "loop.example/g01073/laws.FnExactRationalGraph" =some f)(hfn:Tryz.pinned.checked.prog.funcs[f]?=some fn):
 false=Tryz.pinned.checked.prog.looks []/\∀(j:Nat) t,fn.params[j]?=some t->Tryz.pinned.checked.prog.wantsStandIn t=false:=by
 obtain rfl:f=3:=Option.some.inj ((show Tryz.prog.funcNamed "loop.example/g01073/laws.FnExactRationalGraph" =some 3 by kernel_rfl).symm.trans hf) |>.symm
 obtain rfl:fn=Tryz.f3:=(Option.some.inj (Tryz.func3.symm.trans hfn)).symm;refine⟨by kernel_rfl,λj t ht=>?_⟩;have hall:Tryz.f3.params.all (λt=>Tryz.prog.wantsStandIn t==false)=true:=by kernel_rfl
 have:=Array.all_eq_true_iff_forall_mem.1 hall t (Array.mem_of_getElem? ht);have h2:Tryz.prog.wantsStandIn t=false:=by simpa using this
 exact h2
theorem card:Rows.FnExactRationalGraphCardSaid:=
 Claim7.holds_tied_plain_at .later [] _ _ _ _ said (λ_ h=>by cases h) (by kernel_rfl) (λ_ h=>by cases h) fnExactRationalGraph_row_tie rfl ⟨rfl,rfl⟩ (by kernel_rfl) rfl plain (by kernel_rfl)
#print axioms card
end Go.Proofs.YtekcehkhdjoffaaGreatDoor.lawRationalGraph
