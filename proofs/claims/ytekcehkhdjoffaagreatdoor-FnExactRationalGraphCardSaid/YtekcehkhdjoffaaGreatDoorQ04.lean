/- Lemmas and walks on terms over rational functions: Contracts: fractions made, checked and handed .. -/
import Derived.Test.YtekcehkhdjoffaaGreatDoorQ01
import Derived.Deep.RegionHeld3
namespace Go.Proofs.YtekcehkhdjoffaaGreatDoor
set_option maxRecDepth 100000
set_option maxHeartbeats 8000000
set_option linter.all false
open Go Go.RowKit
theorem st2{w:World}{g:Nat}{t:TypeId}{u v:Value}(h:VB w g t #[u,v])(a b:Value):
 VB ((w.setCell ⟨g,0,none⟩ a).setCell ⟨g,1,none⟩ b) g t #[a,b]/\aJ g w ((w.setCell ⟨g,0,none⟩ a).setCell ⟨g,1,none⟩ b):=
 ⟨(h.aX 0 a).aX 1 b,((aJ.refl g w).setCell (p:=⟨g,0,none⟩) rfl _).setCell (p:=⟨g,1,none⟩) rfl _⟩
theorem Ac(p:Int)(A B:Option Addr)(c d:Nat)(num den:List Int)(w:World)(hn:Rd w A num)(hd:Rd w B den)(hF:aj p=true)(hne:av p num=true)(hde:av p den=true)(tn:Tr num)(td:Tr den)(hd0:den≠[]):
 Calls Tryz.prog 74 #[.int .i64 p,.slice A num.length c,.slice B den.length d] w λe w'=>FF w (aW p num den) (aT p num den) e w':=by
 have hl:=hn.len;have hl':=hd.len;have h2:=au hF;have h97:=aQ hF;obtain⟨hml,hg1,hgd⟩:=mV hF hne hde tn td hd0;have hpl:=M7 hF hne hde tn td hd0;have hg0:=jM hF hne hde tn td (.inr hd0);have Hg:=amW hg0;have JR:=amW (kr (p:=p) (by omega) num den);have Hgt:=amW (lH p num den);have HM:=amW (show bq p den (bJ p num den)=bW p num den from rfl);have hme:av p (bW p num den)=true:=jh (by omega) hde _;have hmt:Tr (bW p num den):=mQ _ _ _;have hm0:bW p num den≠[]:=by intro e;rw[e]at hml;simp at hml
 have abh:=hmt.last hm0;obtain⟨ml,Rw⟩:∃ml:Nat,(bW p num den).length=ml+1:=⟨den.length-(bJ p num den).length,hml⟩;have HB:=amW (show iB p num den=bO p (cf (bW p num den) ((bW p num den).length-1))from rfl);have HN:=amW hpl.1;have HD:=amW hpl.2;have Hqe:=amW (jh (p:=p) (by omega) hne (bJ p num den));have Zm:=amW hme;have Lj:=amW hne;have Lm:=amW hde;have HF:=amW hF;have Hd0:=amW hd0;have En:=amW Rw;have agc:=amW abh;clear hne hde hF hd0 hml Rw hme hpl hg0 hm0 abh hmt;go_enter Tryz.func74,Tryz.ntmps74
 go_wp2_with fail
 obtain⟨x1,v1⟩:=VB.xn w 51 #[.slice none 0 0,.slice none 0 0];have S1:=amW (show(w.alloc (.cells #[.slice none 0 0,.slice none 0 0] 51)).heap.size=w.heap.size+1 by simp);generalize w.alloc (.cells #[.slice none 0 0,.slice none 0 0] 51)=w1 at*;refine(Kq p A B c d num den w1 (hn.ex x1) (hd.ex x1) HF.out Lj.out Lm.out tn td (.inr Hd0.out)).mono ?_;rintro e w2 ⟨A2,c2,rfl,f2,x2⟩;have Xn:=x1.trans x2;go_wp2_with fail
 refine(Du p A A2 c c2 num _ w2 (hn.ex Xn) f2.rd HF.out Lj.out JR.out Hg.out tn Hgt.out).mono ?_;rintro e w3 ⟨A3,c3,A3',c3',rfl,f3,_,_,x3⟩;have xw3:=Xn.trans x3;go_wp2_with fail
 refine(Du p B A2 d c2 den _ w3 (hd.ex xw3) (f2.rd.ex x3) HF.out Lm.out JR.out Hg.out td Hgt.out).mono ?_;rintro e w4 ⟨A4,c4,A4',c4',rfl,f4,_,_,x4⟩;rw[HM.out]at f4⊢;have xw4:=xw3.trans x4;obtain⟨gA,nZ,x,rfl,hx,hgA,hcell⟩:=f4.rd.at_ (by rw[En.out];omega:ml<(bW p num den).length);have hxb:=bI Zm.out hx;have Xg:=amW (show cf (bW p num den) ((bW p num den).length-1)=x by rw[En.out];exact iW hx);have hx0:0<x:=by have:=agc.out;rw[Xg.out]at this;omega
 have Yq:((bW p num den).length:Int)-1=(ml:Int):=by have:=En.out;omega
 have hm2:ml<(bW p num den).length:=by have:=En.out;omega
 have hm3:=f4.rd.len;clear hx;go_wp2_with fail
 refine(yw p x w4 HF.out ⟨hx0,hxb.2⟩).mono ?_;rintro e w5 ⟨rfl,rfl⟩;have hib:=jL x h2 (p:=p);rw[<-Xg.out,<-HB.out]at hib⊢;clear hcell Yq;go_wp2_with fail
 refine(qB p A3 c3 _ _ w4 (f3.rd.ex x4) h2 h97 Hqe.out (by omega)).mono ?_;rintro e w6 ⟨A6,c6,rfl,f6,x6⟩;rw[HN.out]at f6⊢;go_wp2_with fail
 refine(jK A6 c6 _ w6 f6.rd).mono ?_;rintro e w7 ⟨g7,c7,rfl,hc7,hg7,o7,x7⟩;go_wp2_with fail
 refine(qB p _ c4 _ _ w7 ((f4.rd.ex x6).ex x7) h2 h97 Zm.out (by omega)).mono ?_;rintro e w8 ⟨A8,c8,rfl,f8,x8⟩;rw[HD.out]at f8⊢;go_wp2_with fail
 refine(jK A8 c8 _ w8 f8.rd).mono ?_;rintro e w9 ⟨g9,c9,rfl,ZL,hg9,o9,x9⟩;have x29:=(((x2.trans x3).trans x4).trans (x6.trans x7)).trans (x8.trans x9);have v9:=v1.ex x29;obtain⟨r0,r1⟩:=v9.d2;obtain⟨f0,f1⟩:=v9.z2;go_wp2_with fail
 obtain⟨dd,z⟩:=st2 v9 (.slice (some ⟨g7,0,none⟩) (aW p num den).length c7) (.slice (some ⟨g9,0,none⟩) (aT p num den).length c9);have i7:=(o7.ex x8).ex x9;have s1:=S1.out;have s2:=x2.size;have s3:=x3.size;have s4:=x4.size;have s6:=x6.size;have s7:=x7.size;have s8:=x8.size;have s9:=x9.size;have j7:=i7.aM z (by omega);have j9:=o9.aM z (by omega);have l7:=o7.lt;generalize(w9.setCell ⟨w.heap.size,0,none⟩ (.slice (some ⟨g7,0,none⟩) (aW p num den).length c7)).setCell ⟨w.heap.size,1,none⟩ (.slice (some ⟨g9,0,none⟩) (aT p num den).length c9)=W2 at*;obtain⟨d0,d1⟩:=dd.d2;refine ane (v:=.agg #[.slice (some ⟨g7,0,none⟩) (aW p num den).length c7,.slice (some ⟨g9,0,none⟩) (aT p num den).length c9]) (by simp[results,Tryz.results74,go_sem,d0,d1]) rfl ?_;exact⟨_,_,_,_,rfl,j7.fr f6.rd.len (by omega) hc7,j9.fr f8.rd.len (by omega) ZL,fq (by omega),(x1.trans x29).aM z (amX _)⟩
structure Zy (p:Int) (n m:List Int):Prop where
 f:aj p=true
 ne:av p n=true
 me:av p m=true
 nt:Tr n
 mt:Tr m
 nl:n.length<=21
 ml:m.length<=21
 m0:m≠[]
theorem Zy.of{p:Int}{n m:List Int}(h:bF p n m=true):Zy p n m:=by obtain⟨hF,h1,h2,k1,k2,hd0,_,_⟩:=wS h;obtain⟨_,_,hne,tn⟩:=fE h1;obtain⟨_,_,hde,td⟩:=fE h2;exact⟨hF,hne,hde,tn,td,k1,k2,hd0⟩
theorem QC{p:Int}(hF:aj p=true){f g:List Int}(hf:av p f=true)(hg:av p g=true)(tf:Tr f)(tg:Tr g)(h1:f≠[])(h2:g≠[]):ax p f g≠[]:=by intro e;have:=tL hF hf hg tf tg h1 h2;rw[e]at this;have l1:=ana.2 h1;have l2:=ana.2 h2;simp at this;omega
theorem dP{u:World}{g b o:Nat}{v v0 v1:Value}(hc:u.cell? ⟨b,o,none⟩=some v)(hne:b≠g):((u.setCell ⟨g,0,none⟩ v0).setCell ⟨g,1,none⟩ v1).cell? ⟨b,o,none⟩=some v:=by rw[aom _ _ _ _ (by intro e;injection e with e _;omega),aom _ _ _ _ (by intro e;injection e with e _;omega)];exact hc
def addN(p:Int)(n m n' m':List Int):List Int:=aW p (bL p (ax p n m') 1 (ax p n' m)) (ax p m m')
def pG(p:Int)(n m n' m':List Int):List Int:=aT p (bL p (ax p n m') 1 (ax p n' m)) (ax p m m')
end Go.Proofs.YtekcehkhdjoffaaGreatDoor
