/- The law on EqualRational: the program's answer is the reference's, for all arguments; the walk of the law's own text. No conditions. -/
import Derived.Test.YthgiffhlfcmgaaaGreatDoorEEqualRational
namespace Go.Proofs.YthgiffhlfcmgaaaGreatDoor
set_option maxRecDepth 100000
set_option maxHeartbeats 8000000
set_option linter.all false
open Go Go.RowKit
theorem tL(p:Int)(xP:Value)(az:Int)(CK:Value)(bz:Int)(w:World)(aq:QS 6 w (.agg #[xP]) az)(h0a:0<=az)(hbig:1048576<az):
 Calls Tryz.prog 4 #[.int .i64 p,.agg #[xP],.agg #[CK]] w λe w'=>e=.returned (.bool true)/\Ex w w':=by
 obtain⟨xw,UH⟩:=VB.xn w 24 #[xP];have S0:=axj (show(w.alloc (.cells #[xP] 24)).heap.size=w.heap.size+1 by simp);go_enter Tryz.func4,Tryz.ntmps4
 go_wp2_with fail
 generalize w.alloc (.cells #[xP] 24)=Ld at*;obtain⟨yw,Xd⟩:=VB.xn Ld 24 #[CK];rw[S0.out]at Xd;replace UH:=UH.ex yw;replace xw:=xw.trans yw;generalize Ld.alloc (.cells #[CK] 24)=Wp1 at*;have hs:=aq Wp1 (1048576) xw (by omega) (by omega);rw[axl (by omega)]at hs;refine hs.mono ?_;clear hs;rintro e wz ⟨rfl,xz⟩;go_wp2;go_ret;exact⟨rfl,xw.trans xz⟩
theorem tK(p:Int)(xP:Value)(az:Int)(CK:Value)(bz:Int)(w:World)(aq:QS 6 w (.agg #[xP]) az)(h0a:0<=az)(bq:QS 6 w (.agg #[CK]) bz)(h0b:0<=bz)(atL:az<=1048576)(hbig:1048576-az<bz):
 Calls Tryz.prog 4 #[.int .i64 p,.agg #[xP],.agg #[CK]] w λe w'=>e=.returned (.bool true)/\Ex w w':=by
 obtain⟨xw,UH⟩:=VB.xn w 24 #[xP];have S0:=axj (show(w.alloc (.cells #[xP] 24)).heap.size=w.heap.size+1 by simp);go_enter Tryz.func4,Tryz.ntmps4
 go_wp2_with fail
 generalize w.alloc (.cells #[xP] 24)=Ld at*;obtain⟨yw,Xd⟩:=VB.xn Ld 24 #[CK];rw[S0.out]at Xd;replace UH:=UH.ex yw;replace xw:=xw.trans yw;generalize Ld.alloc (.cells #[CK] 24)=Wp1 at*;have hs:=aq Wp1 (1048576) xw (by omega) (by omega);rw[axm (by omega)]at hs;refine hs.mono ?_;clear hs;rintro e wsa ⟨rfl,xsa⟩;replace UH:=UH.ex xsa;replace Xd:=Xd.ex xsa;replace xw:=xw.trans xsa;have qy:=Xd.c0;go_wp2_with fail
 clear qy;have hs:=bq wsa (1048576-az) xw (by omega) (by omega);rw[axl (by omega)]at hs;refine hs.mono ?_;clear hs;rintro e wz ⟨rfl,xz⟩;go_wp2;go_ret;exact⟨rfl,xw.trans xz⟩
theorem tJ(p:Int)(a:Tm)(Uy:Value)(az:Int)(b:Tm)(WK:Value)(bz:Int)(w:World)(ah:CP w Uy a)(aq:QS 6 w (.agg #[Uy]) az)(h0a:0<=az)(bh:CP w WK b)(bq:QS 6 w (.agg #[WK]) bz)(h0b:0<=bz)(hl:az+bz<=1048576)(ht:Tb w):
 Calls Tryz.prog 4 #[.int .i64 p,.agg #[Uy],.agg #[WK]] w λe w'=>e=.returned (.bool true)/\Ex w w':=by
 obtain⟨r0,r1,hr⟩:∃r0 r1,eqU p a b=(r0,r1):=⟨_,_,rfl⟩;have Hr:=axj hr;clear hr;have as1:=yj a;have as3:=ah.tot;have as0:=yj b;have as2:=bh.tot;obtain⟨xw,UH⟩:=VB.xn w 24 #[Uy];have S0:=axj (show(w.alloc (.cells #[Uy] 24)).heap.size=w.heap.size+1 by simp);go_enter Tryz.func4,Tryz.ntmps4
 go_wp2_with fail
 generalize w.alloc (.cells #[Uy] 24)=Ld at*;obtain⟨yw,Xd⟩:=VB.xn Ld 24 #[WK];rw[S0.out]at Xd;replace UH:=UH.ex yw;replace xw:=xw.trans yw;generalize Ld.alloc (.cells #[WK] 24)=Wp1 at*;have zWp:=xw.size;have xp:=aCQ Wp1;have hs:=aq Wp1 (1048576) xw (by omega) (by omega);rw[axm (by omega)]at hs;refine hs.mono ?_;clear hs;rintro e o1 ⟨rfl,Xw⟩;replace xw:=xw.trans Xw;replace xp:=xp.trans Xw;have zo1:=Xw.size;have qy:=(Xd.ex xp).c0;go_wp2_with fail
 clear qy;have hs:=bq o1 (1048576-az) xw (by omega) (by omega);rw[axm (by omega)]at hs;refine hs.mono ?_;clear hs;rintro e o2 ⟨rfl,Xv⟩;replace xw:=xw.trans Xv;replace xp:=xp.trans Xv;have zo2:=Xv.size;have yG:=(UH.ex xp).c0;have qy:=(Xd.ex xp).c0;go_wp2_with fail
 have HS:∀W,Ex o2 W->(Ex o2 W/\W.cell? ⟨w.heap.size,0,none⟩=some (Uy)/\W.cell? ⟨w.heap.size+1,0,none⟩=some (WK)):=λW h=>⟨h,af h yG,af h qy⟩
 go_cut [8,9]from 14 (λs8 s9 W=>s8=.bool r0/\s9=.bool r1/\Ex o2 W)
 case first=>
  go_region_held3 (λW=>Ex o2 W/\W.cell? ⟨w.heap.size,0,none⟩=some (Uy)/\W.cell? ⟨w.heap.size+1,0,none⟩=some (WK)) (first|(exact HS _ (ho3.alloc _))|(exact HS _ (ho5.alloc _))|(exact HS _ (NP.alloc _))|(exact HS _ (((aCQ o2).drew).alloc _))|(exact HS _ ((aCQ o2).alloc _))|(exact HS _ ((aCQ o2).alloc _).drew)|(exact HS _ ho3)|(exact HS _ ho5)|(exact HS _ NP)|(exact HS _ (aCQ o2).drew)) (first
   |(go_at_call_of 8 (Value.agg #[Uy])
     have hb:=(‹Ex o2 _/\_›).1;refine(toTerm_u a Uy _ (ah.ex (xw.trans hb))).mono ?_;rintro e o4 ⟨amY,rfl,RH,xo4⟩;replace RH:=RH.rd;have NP:=hb.trans xo4;clear hb)
   |(go_at_call_of 8 (Value.agg #[WK])
     have hb:=(‹Ex o2 _/\_›).1;refine(toTerm_u b WK _ (bh.ex (xw.trans hb))).mono ?_;rintro e o5 ⟨amX,rfl,J_,xo5⟩;replace J_:=J_.rd;have ho5:=hb.trans xo5;clear hb;replace RH:=RH.ex (by first|exact xo5|exact((aCQ o4).alloc _).trans xo5))
   |(go_at_call 15
     have hb:=(‹Ex o2 _/\_›).1;have hc:=aCQ o5;refine(yx _ _ _ _ _ _ (RH.ex hc) (J_.ex hc)).mono ?_;intro e o3 ho3;rw[Hr.out]at ho3;obtain⟨rfl,Xu⟩:=ho3;dsimp only;have ho3:=hb.trans Xu;clear hb))
  all_goals
   go_wp2_with fail
   go_meet
   exact⟨rfl,rfl,(‹Ex o2 _/\_›).1⟩
 case rest=>
  obtain⟨o6,rfl⟩:∃q,q=wc:=⟨_,rfl⟩;obtain⟨rfl,rfl,xd⟩:=hcut;clear yG qy HS;replace xw:=xw.trans xd;replace xp:=xp.trans xd;have zo6:=xd.size;clear xd;have xs:=aCQ o6;have yG:=(UH.ex xp).c0;go_wp2_with fail
  clear yG;refine(toTerm_u a Uy o6 (ah.ex xw)).mono ?_;rintro e o7 ⟨aiF,rfl,La,G9⟩;obtain⟨YT,YR,YS,rfl⟩:=La.rd.form;replace xw:=xw.trans G9;replace xp:=xp.trans G9;replace xs:=xs.trans G9;have zo7:=G9.size;have qy:=((Xd.ex xp).ex ((aCQ o7).alloc (.cells #[(.slice YT YR YS)] 33))).c0;go_wp2_with fail
  clear qy;obtain⟨xa,Ai⟩:=VB.xn o7 33 #[(.slice YT YR YS)];have aqa:=Ai.lt;generalize o7.alloc (.cells #[(.slice YT YR YS)] 33)=o8 at*;replace xw:=xw.trans xa;replace xp:=xp.trans xa;replace xs:=xs.trans xa;replace La:=La.ex xa;have zo8:=xa.size;clear xa;refine(toTerm_u b WK o8 (bh.ex xw)).mono ?_;rintro e o9 ⟨atc,rfl,fo9,Pq⟩;obtain⟨YQ,YO,YP,rfl⟩:=fo9.rd.form;replace xw:=xw.trans Pq;replace xp:=xp.trans Pq;replace xs:=xs.trans Pq;replace La:=La.ex Pq;replace Ai:=Ai.ex Pq;have zo9:=Pq.size;have AJ:=(Ai.ex ((aCQ o9).alloc (.cells #[(.slice YQ YO YP)] 33))).c0;go_wp2_with fail
  clear AJ;obtain⟨xa,Ls⟩:=VB.xn o9 33 #[(.slice YQ YO YP)];have ap_:=Ls.lt;generalize o9.alloc (.cells #[(.slice YQ YO YP)] 33)=o10 at*;replace xw:=xw.trans xa;replace xp:=xp.trans xa;replace xs:=xs.trans xa;replace La:=La.ex xa;replace Ai:=Ai.ex xa;replace fo9:=fo9.ex xa;have asF:=xa.size;clear xa;refine(CS _ _ _ _ _ o10 La.rd fo9.rd (ht.ex xw)).mono ?_;intro e o11 ajm;rw[Hr.out]at ajm;obtain⟨rfl,Af⟩:=ajm;dsimp only;replace xw:=xw.trans Af;replace xp:=xp.trans Af;replace xs:=xs.trans Af;replace La:=La.ex Af;replace Ai:=Ai.ex Af;replace fo9:=fo9.ex Af;replace Ls:=Ls.ex Af;have amd:=Af.size;have AJ:=Ai.c0;have yG:=(UH.ex xp).c0;go_wp2_with fail
  go_region_held3 (λW=>W.cell? ⟨o7.heap.size,0,none⟩=some ((.slice YT YR YS))/\W.cell? ⟨w.heap.size,0,none⟩=some (Uy)) (first|(exact⟨(af BZ (af PU AJ)),(af BZ (af PU yG))⟩)|(exact⟨(af PU AJ),(af PU yG)⟩)|(exact⟨AJ,yG⟩)) (first
   |(go_at_call 8
     refine(toTerm_u a Uy o11.drew (ah.ex xw.drew)).mono ?_;rintro e o12 ⟨aiI,rfl,akw,PU⟩)
   |(go_at_call 11
     refine(zH a (.slice YT YR YS) aiI _ ((La.rd.ex (aCQ o11).drew).ex PU) akw.rd).mono ?_;rintro e o13 ⟨rfl,BZ⟩))
  have xd:Ex o11 o13:=((aCQ o11).drew.trans PU).trans BZ;clear AJ yG akw PU BZ;replace xw:=xw.trans xd;replace xp:=xp.trans xd;replace xs:=xs.trans xd;replace La:=La.ex xd;replace Ai:=Ai.ex xd;replace fo9:=fo9.ex xd;replace Ls:=Ls.ex xd;have amc:=xd.size;clear xd;have JE:=Ls.c0;have qy:=(Xd.ex xp).c0;go_wp2_with fail
  go_region_held3 (λW=>W.cell? ⟨o9.heap.size,0,none⟩=some ((.slice YQ YO YP))/\W.cell? ⟨w.heap.size+1,0,none⟩=some (WK)) (first|(exact⟨(af BX (af PO JE)),(af BX (af PO qy))⟩)|(exact⟨(af PO JE),(af PO qy)⟩)|(exact⟨JE,qy⟩)) (first
   |(go_at_call 8
     refine(toTerm_u b WK o13.drew (bh.ex xw.drew)).mono ?_;rintro e o14 ⟨aiH,rfl,akv,PO⟩)
   |(go_at_call 11
     refine(zH b (.slice YQ YO YP) aiH _ ((fo9.rd.ex (aCQ o13).drew).ex PO) akv.rd).mono ?_;rintro e o15 ⟨rfl,BX⟩))
  have xd:Ex o13 o15:=((aCQ o13).drew.trans PO).trans BX;clear JE qy akv PO BX;replace xw:=xw.trans xd;replace xp:=xp.trans xd;replace xs:=xs.trans xd;replace La:=La.ex xd;replace Ai:=Ai.ex xd;replace fo9:=fo9.ex xd;replace Ls:=Ls.ex xd;have amb:=xd.size;clear xd;go_wp2
  all_goals go_ret
  exact⟨rfl,xw⟩
end Go.Proofs.YthgiffhlfcmgaaaGreatDoor
