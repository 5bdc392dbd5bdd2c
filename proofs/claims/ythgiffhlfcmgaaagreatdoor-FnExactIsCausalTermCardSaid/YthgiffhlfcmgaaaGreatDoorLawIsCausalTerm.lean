/- The law on IsCausalTerm: the program's answer is the reference's, for all arguments; the walk of the law's own text. No conditions. -/
import Derived.Test.YthgiffhlfcmgaaaGreatDoorEIsCausalTerm
namespace Go.Proofs.YthgiffhlfcmgaaaGreatDoor
set_option maxRecDepth 100000
set_option maxHeartbeats 8000000
set_option linter.all false
open Go Go.RowKit
theorem uF(p:Int)(wZ:Value)(tz:Int)(w:World)(tq:QS 6 w (.agg #[wZ]) tz)(h0t:0<=tz)(hbig:1048576<tz):
 Calls Tryz.prog 5 #[.int .i64 p,.agg #[wZ]] w λe w'=>e=.returned (.bool true)/\Ex w w':=by
 obtain⟨xw,v_t⟩:=VB.xn w 24 #[wZ];go_enter Tryz.func5,Tryz.ntmps5
 go_wp2_with fail
 generalize w.alloc (.cells #[wZ] 24)=Ld at*;have hs:=tq Ld (1048576) xw (by omega) (by omega);rw[axl (by omega)]at hs;refine hs.mono ?_;clear hs;rintro e wz ⟨rfl,xz⟩;go_wp2;go_ret;exact⟨rfl,xw.trans xz⟩
theorem uE(p:Int)(t:Tm)(Gp:Value)(tz:Int)(w:World)(th:CP w Gp t)(tq:QS 6 w (.agg #[Gp]) tz)(h0t:0<=tz)(hl:tz<=1048576)(ht:Tb w):
 Calls Tryz.prog 5 #[.int .i64 p,.agg #[Gp]] w λe w'=>e=.returned (.bool true)/\Ex w w':=by
 obtain⟨r0,r1,hr⟩:∃r0 r1,icU p t=(r0,r1):=⟨_,_,rfl⟩;have Hr:=axj hr;clear hr;have amw:=yj t;have amz:=th.tot;obtain⟨xw,v_t⟩:=VB.xn w 24 #[Gp];go_enter Tryz.func5,Tryz.ntmps5
 go_wp2_with fail
 generalize w.alloc (.cells #[Gp] 24)=Ld at*;have zWp:=xw.size;have xp:=aCQ Ld;have hs:=tq Ld (1048576) xw (by omega) (by omega);rw[axm (by omega)]at hs;refine hs.mono ?_;clear hs;rintro e o1 ⟨rfl,Xw⟩;replace xw:=xw.trans Xw;replace xp:=xp.trans Xw;have zo1:=Xw.size;have kM:=(v_t.ex xp).c0;go_wp2_with fail
 clear kM;refine(toTerm_u t Gp o1 (th.ex xw)).mono ?_;rintro e o2 ⟨am0,rfl,fo2,Xv⟩;obtain⟨am3,am1,am2,rfl⟩:=fo2.rd.form;replace xw:=xw.trans Xv;replace xp:=xp.trans Xv;have zo2:=Xv.size;go_wp2_with fail
 refine(Ar _ _ _ o2 fo2.rd).mono ?_;intro e o3 ho3;rw[Hr.out]at ho3;obtain⟨rfl,Xu⟩:=ho3;dsimp only;replace xw:=xw.trans Xu;replace xp:=xp.trans Xu;replace fo2:=fo2.ex Xu;have zo3:=Xu.size;clear fo2;have xs:=aCQ o3;have kM:=(v_t.ex xp).c0;go_wp2_with fail
 clear kM;refine(toTerm_u t Gp o3 (th.ex xw)).mono ?_;rintro e o4 ⟨amY,rfl,RH,xo4⟩;obtain⟨acp,acn,aco,rfl⟩:=RH.rd.form;replace xw:=xw.trans xo4;replace xp:=xp.trans xo4;replace xs:=xs.trans xo4;have zo4:=xo4.size;go_wp2_with fail
 obtain⟨xa,pJ⟩:=VB.xn o4 33 #[(.slice acp acn aco)];have aii:=pJ.lt;generalize o4.alloc (.cells #[(.slice acp acn aco)] 33)=o5 at*;replace xw:=xw.trans xa;replace xp:=xp.trans xa;replace xs:=xs.trans xa;replace RH:=RH.ex xa;have zo5:=xa.size;clear xa;refine(Gl _ _ _ o5 RH.rd (ht.ex xw)).mono ?_;intro e o6 ho6;rw[Hr.out]at ho6;obtain⟨rfl,xo6⟩:=ho6;dsimp only;replace xw:=xw.trans xo6;replace xp:=xp.trans xo6;replace xs:=xs.trans xo6;replace RH:=RH.ex xo6;replace pJ:=pJ.ex xo6;have zo6:=xo6.size;have nT:=pJ.c0;have kM:=(v_t.ex xp).c0;go_wp2_with fail
 go_region_held3 (λW=>W.cell? ⟨o4.heap.size,0,none⟩=some ((.slice acp acn aco))/\W.cell? ⟨w.heap.size,0,none⟩=some (Gp)) (first|(exact⟨(af xo8 (af G9 nT)),(af xo8 (af G9 kM))⟩)|(exact⟨(af G9 nT),(af G9 kM)⟩)|(exact⟨nT,kM⟩)) (first
  |(go_at_call 8
    refine(toTerm_u t Gp o6.drew (th.ex xw.drew)).mono ?_;rintro e o7 ⟨aiF,rfl,La,G9⟩)
  |(go_at_call 11
    refine(zH t (.slice acp acn aco) aiF _ ((RH.rd.ex (aCQ o6).drew).ex G9) La.rd).mono ?_;rintro e o8 ⟨rfl,xo8⟩))
 have xd:Ex o6 o8:=((aCQ o6).drew.trans G9).trans xo8;clear nT kM La G9 xo8;replace xw:=xw.trans xd;replace xp:=xp.trans xd;replace xs:=xs.trans xd;replace RH:=RH.ex xd;replace pJ:=pJ.ex xd;have zo8:=xd.size;clear xd;go_wp2
 all_goals go_ret
 exact⟨rfl,xw⟩
end Go.Proofs.YthgiffhlfcmgaaaGreatDoor
