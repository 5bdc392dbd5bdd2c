/- Lemmas and walks on terms over rational functions: Contracts: lists of fractions; causal .. -/
import Derived.Test.YthgiffhlfcmgaaaGreatDoorQ02
import Derived.Test.YthgiffhlfcmgaaaGreatDoorQ01
import Derived.Deep.RegionLaw
import Derived.Deep.LoopGhost
import Derived.Deep.Cut
import Derived.Deep.CutRange
import Derived.Shelf.Abstract
namespace Go.Proofs.YthgiffhlfcmgaaaGreatDoor
open List(replicate)
open Tryz(prog)
set_option maxRecDepth 100000
set_option maxHeartbeats 8000000
set_option linter.all false
open Go Go.RowKit
variable{x y:aG}{p:Int}{Z rows:List (List aG)}{bs bs':List (Option Nat)}{v xs z:List aG}{l:List Int}{B G G' H L M N b c d g i k m n q r:Nat}{R:Nat->Nat->Prop}{K S T:Nat->Prop}{A:Option Addr}{ob:Option Nat}{α:Type}{v0 v1:Value}{u w w' w1:World}
def RdF(w:World)(A:Option Addr)(fs:List (List Int×List Int)):Prop:=
 fs.length<=549755813888/\∀(j:Nat) (q:List Int×List Int),fs[j]?=some q->∃g off A' c B' d,A=some ⟨g,off,none⟩/\
  w.cell? ⟨g,off+j*2,none⟩=some (.slice A' q.1.length c)/\w.cell? ⟨g,off+j*2+1,none⟩=some (.slice B' q.2.length d)/\Rd w A' q.1/\Rd w B' q.2
theorem RdF.ex{fs:List (List Int×List Int)}(h:RdF w A fs)(he:Ex w w'):RdF w' A fs:=
 ⟨h.1,λj q hj=>by
  obtain⟨g,off,A',c,B',d,hA,h0,h1,r0,r1⟩:=h.2 j q hj;exact⟨g,off,A',c,B',d,hA,af he h0,af he h1,r0.ex he,r1.ex he⟩⟩
theorem F_(p:Int)(A:Option Addr)(c:Nat)(fs:List (List Int×List Int))(w:World)(h:RdF w A fs)(ht:Tb w):
 Calls prog 132 #[.int .i64 p,.slice A fs.length c] w λe w'=>e=.returned (.bool (fs.all (λq=>dm p q.1 q.2)&&av p))/\Ex w w':=by
 have hl1:=h.1;go_enter Tryz.func132,Tryz.ntmps132
 go_wp2_with fail
 go_loopw [9] (λi w'=>∃k:Nat,k<=fs.length/\Hid ((fs.take k).all (λq=>dm p q.1 q.2)=true)/\Ex w w'/\i=.int .i64 k) (λi _=>fs.length-(intOf i).toNat)
 case atStart=>exact⟨0,axq _,rfl,aCQ w,rfl⟩
 case round=>
  obtain⟨k,hk,fH,xw,rfl⟩:=hrel;by_cases hlt:k<fs.length
  .obtain⟨g,off,A',c',B',d',rfl,h0,h1,r0,r1⟩:=(h.ex xw).2 k _ (axn hlt);have Hq:=axj (axn hlt);generalize fs[k]=q at*;obtain⟨n,m⟩:=q;dsimp only at h0 h1 r0 r1;have x1:=(aCQ wr).alloc (.cells #[.slice A' n.length c',.slice B' m.length d'] 57);cases hp:dm p n m with
   |true=>
    have Hp:=axj hp;clear hp;go_wp2_with fail
    generalize wr.alloc (.cells #[.slice A' n.length c',.slice B' m.length d'] 57)=W1 at*;refine(y_ p A' B' c' d' n m W1 (r0.ex x1) (r1.ex x1) (ht.ex (xw.trans x1))).mono ?_;rintro e w2 ⟨rfl,x2⟩;rw[Hp.out];go_wp2
    go_round
    case rel=>exact⟨k+1,by omega,by
     show _=true;rw[axy,Hq.out,ayK,fH.out];simp[Hp.out],(xw.trans x1).trans x2,by go_num⟩
    case measure=>simp[intOf]<;>omega
   |false=>
    have Hp:=axj hp;clear hp;go_wp2_with fail
    generalize wr.alloc (.cells #[.slice A' n.length c',.slice B' m.length d'] 57)=W1 at*;refine(y_ p A' B' c' d' n m W1 (r0.ex x1) (r1.ex x1) (ht.ex (xw.trans x1))).mono ?_;rintro e w2 ⟨rfl,x2⟩;rw[Hp.out];go_wp2;go_ret;exact⟨aI (by rw[ayJ.2 ⟨(n,m),axo Hq.out,by simp[Hp.out]⟩];rfl),(xw.trans x1).trans x2⟩
  .obtain rfl:k=fs.length:=by omega
   have htw:=ht.ex xw;go_wp2_with (go_at_call 47;refine(jA _ _ htw).mono ?_;rintro e w' ⟨rfl,rfl⟩)
   go_ret;exact⟨aI (by have:=fH.out;rw[axE]at this;rw[this];rfl),xw⟩
theorem st2{t:TypeId}{u v:Value}(h:VB w g t #[u,v])(a b:Value):
 VB ((w.setCell ⟨g,0,none⟩ a).setCell ⟨g,1,none⟩ b) g t #[a,b]/\aM g w ((w.setCell ⟨g,0,none⟩ a).setCell ⟨g,1,none⟩ b):=
 ⟨(h.bC 0 a).bC 1 b,((aM.refl g w).setCell (p:=⟨g,0,none⟩) rfl _).setCell (p:=⟨g,1,none⟩) rfl _⟩
theorem Fv(p:Int)(A B:Option Addr)(c d:Nat)(num den:List Int)(w:World)(hn:Rd w A num)(hd:Rd w B den)(hF:av p=true)(hne:aA p num=true)(hde:aA p den=true)(tn:Tr num)(td:Tr den)(hd0:den≠[]):
 Calls prog 168 #[.int .i64 p,.slice A num.length c,.slice B den.length d] w λe w'=>FF w (a_ p num den) (aY p num den) e w':=by
 have hl:=hn.len;have hl':=hd.len;have h2:=ax hF;have h97:=aT hF;obtain⟨hml,hg1,hgd⟩:=qK hF hne hde tn td hd0;have hpl:=Vu hF hne hde tn td hd0;have hg0:=lW hF hne hde tn td (.inr hd0);have Hg:=axj hg0;have Sm:=axj (nD (p:=p) (by omega) num den);have Hgt:=axj (o_ p num den);have HM:=axj (show bH p den (bZ p num den)=dQ p num den from rfl);have hme:aA p (dQ p num den)=true:=kP (by omega) hde _;have hmt:Tr (dQ p num den):=qG _ _ _;have hm0:dQ p num den≠[]:=by intro e;rw[e]at hml;simp at hml
 have ajr:=hmt.last hm0;obtain⟨ml,ZJ⟩:∃ml:Nat,(dQ p num den).length=ml+1:=⟨den.length-(bZ p num den).length,hml⟩;have HB:=axj (show jG p num den=dh p (cf (dQ p num den) ((dQ p num den).length-1))from rfl);have HN:=axj hpl.1;have HD:=axj hpl.2;have Hqe:=axj (kP (p:=p) (by omega) hne (bZ p num den));have Hme:=axj hme;have Uz:=axj hne;have UB:=axj hde;have HF:=axj hF;have Hd0:=axj hd0;have KT:=axj ZJ;have apk:=axj ajr;clear hne hde hF hd0 hml ZJ hme hpl hg0 hm0 ajr hmt;go_enter Tryz.func168,Tryz.ntmps168
 go_wp2_with fail
 obtain⟨x1,v1⟩:=VB.xn w 57 #[.slice none 0 0,.slice none 0 0];have S1:=axj (show(w.alloc (.cells #[.slice none 0 0,.slice none 0 0] 57)).heap.size=w.heap.size+1 by simp);generalize w.alloc (.cells #[.slice none 0 0,.slice none 0 0] 57)=w1 at*;refine(Tf p A B c d num den w1 (hn.ex x1) (hd.ex x1) HF.out Uz.out UB.out tn td (.inr Hd0.out)).mono ?_;rintro e w2 ⟨A2,c2,rfl,f2,x2⟩;have xw2:=x1.trans x2;go_wp2_with fail
 refine(JF p A A2 c c2 num _ w2 (hn.ex xw2) f2.rd HF.out Uz.out Sm.out Hg.out tn Hgt.out).mono ?_;rintro e w3 ⟨A3,c3,A3',c3',rfl,f3,_,_,x3⟩;have xw3:=xw2.trans x3;go_wp2_with fail
 refine(JF p B A2 d c2 den _ w3 (hd.ex xw3) (f2.rd.ex x3) HF.out UB.out Sm.out Hg.out td Hgt.out).mono ?_;rintro e w4 ⟨A4,c4,A4',c4',rfl,f4,_,_,x4⟩;rw[HM.out]at f4⊢;have xw4:=xw3.trans x4;obtain⟨gA,sM,x,rfl,hx,hgA,hcell⟩:=f4.rd.at_ (by rw[KT.out];omega:ml<(dQ p num den).length);have hxb:=bg Hme.out hx;have Hcx:=axj (show cf (dQ p num den) ((dQ p num den).length-1)=x by rw[KT.out];exact jY hx);have hx0:0<x:=by have:=apk.out;rw[Hcx.out]at this;omega
 have hmi:((dQ p num den).length:Int)-1=(ml:Int):=by have:=KT.out;omega
 have hm2:ml<(dQ p num den).length:=by have:=KT.out;omega
 have hm3:=f4.rd.len;clear hx;go_wp2_with fail
 refine(zG p x w4 HF.out ⟨hx0,hxb.2⟩).mono ?_;rintro e w5 ⟨rfl,rfl⟩;have hib:=kS x h2 (p:=p);rw[<-Hcx.out,<-HB.out]at hib⊢;clear hcell hmi;go_wp2_with fail
 refine(vw p A3 c3 _ _ w4 (f3.rd.ex x4) h2 h97 Hqe.out (by omega)).mono ?_;rintro e w6 ⟨A6,c6,rfl,f6,x6⟩;rw[HN.out]at f6⊢;go_wp2_with fail
 refine(kR A6 c6 _ w6 f6.rd).mono ?_;rintro e w7 ⟨g7,c7,rfl,hc7,hg7,o7,x7⟩;go_wp2_with fail
 refine(vw p _ c4 _ _ w7 ((f4.rd.ex x6).ex x7) h2 h97 Hme.out (by omega)).mono ?_;rintro e w8 ⟨A8,c8,rfl,f8,x8⟩;rw[HD.out]at f8⊢;go_wp2_with fail
 refine(kR A8 c8 _ w8 f8.rd).mono ?_;rintro e w9 ⟨g9,c9,rfl,hc9,hg9,o9,x9⟩;have x29:=(((x2.trans x3).trans x4).trans (x6.trans x7)).trans (x8.trans x9);have v9:=v1.ex x29;obtain⟨r0,r1⟩:=v9.d2;obtain⟨f0,f1⟩:=v9.z2;go_wp2_with fail
 obtain⟨dd,z⟩:=st2 v9 (.slice (some ⟨g7,0,none⟩) (a_ p num den).length c7) (.slice (some ⟨g9,0,none⟩) (aY p num den).length c9);have i7:=(o7.ex x8).ex x9;have s1:=S1.out;have s2:=x2.size;have s3:=x3.size;have s4:=x4.size;have s6:=x6.size;have s7:=x7.size;have s8:=x8.size;have s9:=x9.size;have j7:=i7.aK z (by omega);have j9:=o9.aK z (by omega);have l7:=o7.lt;generalize(w9.setCell ⟨w.heap.size,0,none⟩ (.slice (some ⟨g7,0,none⟩) (a_ p num den).length c7)).setCell ⟨w.heap.size,1,none⟩ (.slice (some ⟨g9,0,none⟩) (aY p num den).length c9)=W2 at*;obtain⟨d0,d1⟩:=dd.d2;refine axu (v:=.agg #[.slice (some ⟨g7,0,none⟩) (a_ p num den).length c7,.slice (some ⟨g9,0,none⟩) (aY p num den).length c9]) (by simp[results,Tryz.results168,go_sem,d0,d1]) rfl ?_;exact⟨_,_,_,_,rfl,j7.fr f6.rd.len (by omega) hc7,j9.fr f8.rd.len (by omega) hc9,iA (by omega),(x1.trans x29).aK z (axk _)⟩
structure aht (p:Int) (n m:List Int):Prop where
 f:av p=true
 ne:aA p n=true
 me:aA p m=true
 nt:Tr n
 mt:Tr m
 nl:n.length<=21
 ml:m.length<=21
 m0:m≠[]
theorem aht.of{n m:List Int}(h:dm p n m=true):aht p n m:=by obtain⟨hF,h1,h2,k1,k2,hd0,_,_⟩:=uN h;obtain⟨_,_,hne,tn⟩:=iE h1;obtain⟨_,_,hde,td⟩:=iE h2;exact⟨hF,hne,hde,tn,td,k1,k2,hd0⟩
theorem Y6(hF:av p=true){f g:List Int}(hf:aA p f=true)(hg:aA p g=true)(tf:Tr f)(tg:Tr g)(h1:f≠[])(h2:g≠[]):aB p f g≠[]:=by intro e;have:=yK hF hf hg tf tg h1 h2;rw[e]at this;have l1:=axB.2 h1;have l2:=axB.2 h2;simp at this;omega
theorem gy{o:Nat}{v:Value}(hc:u.cell? ⟨b,o,none⟩=some v)(hne:b≠g):((u.setCell ⟨g,0,none⟩ v0).setCell ⟨g,1,none⟩ v1).cell? ⟨b,o,none⟩=some v:=by rw[ayV _ _ _ _ (by intro e;injection e with e _;omega),ayV _ _ _ _ (by intro e;injection e with e _;omega)];exact hc
def addN(p:Int)(n m n' m':List Int):List Int:=a_ p (bQ p (aB p n m') 1 (aB p n' m)) (aB p m m')
def tO(p:Int)(n m n' m':List Int):List Int:=aY p (bQ p (aB p n m') 1 (aB p n' m)) (aB p m m')
theorem adn(p:Int)(A B:Option Addr)(c d:Nat)(num den:List Int)(w:World)(hn:Rd w A num)(hd:Rd w B den)(hF:av p=true)(hne:aA p num=true)(hde:aA p den=true)(tn:Tr num)(td:Tr den)(hn0:num≠[]):
 Calls prog 136 #[.int .i64 p,.agg #[.slice A num.length c,.slice B den.length d]] w λe w'=>FF w (a_ p den num) (aY p den num) e w':=by
 have HF:=axj hF;have Uz:=axj hne;have UB:=axj hde;have H0:=axj hn0;clear hF hne hde hn0;have xw:=aCQ w;go_enter Tryz.func136,Tryz.ntmps136
 go_wp2_with fail
 obtain⟨xa,vx⟩:=VB.xn w 57 #[.slice A num.length c,.slice B den.length d];have Su1:=axj (show(w.alloc (.cells #[.slice A num.length c,.slice B den.length d] 57)).heap.size=w.heap.size+1 by simp);generalize w.alloc (.cells #[.slice A num.length c,.slice B den.length d] 57)=u1 at*;have Sy:=Su1;clear Su1;have Sz:=Sy;clear Sy;replace xw:=xw.trans xa;clear xa;obtain⟨xa,vr⟩:=VB.xn u1 57 #[.slice none 0 0,.slice none 0 0];have Su2:=axj (show(u1.alloc (.cells #[.slice none 0 0,.slice none 0 0] 57)).heap.size=u1.heap.size+1 by simp);rw[Sz.out]at vr;generalize u1.alloc (.cells #[.slice none 0 0,.slice none 0 0] 57)=u2 at*;have Sy:=axj (Su2.out.trans (congrArg (·+1) Sz.out));clear Sz Su2;have Sz:=Sy;clear Sy;replace vx:=vx.ex xa;replace xw:=xw.trans xa;clear xa;have zu2:w.heap.size+2<=u2.heap.size:=ayH (by have:=Sz.out;omega);clear Sz;refine(Fv p B A d c den num u2 (hd.ex xw) (hn.ex xw) HF.out UB.out Uz.out td tn H0.out).mono ?_;rintro e u3 ⟨A2,c2,B2,d2,rfl,f2,g2,ap,xu3⟩;replace vx:=vx.ex xu3;replace vr:=vr.ex xu3;replace xw:=xw.trans xu3;have zu3:=xu3.size;obtain⟨YC,YB⟩:=vr.d2;obtain⟨uM,uL⟩:=vr.z2;go_wp2_with fail
 clear YC YB uM uL;have yz:aM (w.heap.size+1) u3 ((u3.setCell ⟨w.heap.size+1,0,none⟩ (.slice A2 (a_ p den num).length c2)).setCell ⟨w.heap.size+1,1,none⟩ (.slice B2 (aY p den num).length d2)):=((aM.refl _ u3).setCell (p:=⟨w.heap.size+1,0,none⟩) rfl (.slice A2 (a_ p den num).length c2)).setCell (p:=⟨w.heap.size+1,1,none⟩) rfl (.slice B2 (aY p den num).length d2);replace vr:VB ((u3.setCell ⟨w.heap.size+1,0,none⟩ (.slice A2 (a_ p den num).length c2)).setCell ⟨w.heap.size+1,1,none⟩ (.slice B2 (aY p den num).length d2)) (w.heap.size+1) 57 #[.slice A2 (a_ p den num).length c2,.slice B2 (aY p den num).length d2]:=((vr.bC 0 (.slice A2 (a_ p den num).length c2)).bC 1 (.slice B2 (aY p den num).length d2));replace vx:=vx.aK yz (by omega);replace f2:=f2.aK yz (f2.hi.off (by omega));replace g2:=g2.aK yz (g2.hi.off (by omega));replace xw:=xw.aK yz (by omega);have zu4:=yz.size;generalize((u3.setCell ⟨w.heap.size+1,0,none⟩ (.slice A2 (a_ p den num).length c2)).setCell ⟨w.heap.size+1,1,none⟩ (.slice B2 (aY p den num).length d2))=u4 at*;clear yz;obtain⟨FJ,FH⟩:=vr.d2;refine axu (v:=.agg #[.slice A2 (a_ p den num).length c2,.slice B2 (aY p den num).length d2]) (by simp[results,Tryz.results136,go_sem,FJ,FH]) rfl ?_;exact⟨A2,c2,B2,d2,rfl,f2.more (by omega),g2.more (by omega),ap,xw⟩
theorem zu(p:Int)(A B:Option Addr)(c d:Nat)(num den:List Int)(w:World)(hn:Rd w A num)(hd:Rd w B den)(hF:av p=true)(hne:aA p num=true)(hde:aA p den=true)(tn:Tr num)(td:Tr den)(hn0:num≠[]):
 Calls prog 187 #[.int .i64 p,.agg #[.slice A num.length c,.slice B den.length d]] w λe w'=>FF w (a_ p den num) (aY p den num) e w':=by
 have HF:=axj hF;have Uz:=axj hne;have UB:=axj hde;have H0:=axj hn0;clear hF hne hde hn0;have xw:=aCQ w;go_enter Tryz.func187,Tryz.ntmps187
 go_wp2_with fail
 obtain⟨xa,vx⟩:=VB.xn w 57 #[.slice A num.length c,.slice B den.length d];have Su1:=axj (show(w.alloc (.cells #[.slice A num.length c,.slice B den.length d] 57)).heap.size=w.heap.size+1 by simp);generalize w.alloc (.cells #[.slice A num.length c,.slice B den.length d] 57)=u1 at*;have Sy:=Su1;clear Su1;have Sz:=Sy;clear Sy;replace xw:=xw.trans xa;clear xa;obtain⟨xa,vr⟩:=VB.xn u1 57 #[.slice none 0 0,.slice none 0 0];have Su2:=axj (show(u1.alloc (.cells #[.slice none 0 0,.slice none 0 0] 57)).heap.size=u1.heap.size+1 by simp);rw[Sz.out]at vr;generalize u1.alloc (.cells #[.slice none 0 0,.slice none 0 0] 57)=u2 at*;have Sy:=axj (Su2.out.trans (congrArg (·+1) Sz.out));clear Sz Su2;have Sz:=Sy;clear Sy;replace vx:=vx.ex xa;replace xw:=xw.trans xa;clear xa;have zu2:w.heap.size+2<=u2.heap.size:=ayH (by have:=Sz.out;omega);clear Sz;refine(yT p B A d c den num u2 (hd.ex xw) (hn.ex xw) HF.out UB.out Uz.out td tn H0.out).mono ?_;rintro e u3 ⟨A2,c2,B2,d2,rfl,f2,g2,ap,xu3⟩;replace vx:=vx.ex xu3;replace vr:=vr.ex xu3;replace xw:=xw.trans xu3;have zu3:=xu3.size;obtain⟨YC,YB⟩:=vr.d2;obtain⟨uM,uL⟩:=vr.z2;go_wp2_with fail
 clear YC YB uM uL;have yz:aM (w.heap.size+1) u3 ((u3.setCell ⟨w.heap.size+1,0,none⟩ (.slice A2 (a_ p den num).length c2)).setCell ⟨w.heap.size+1,1,none⟩ (.slice B2 (aY p den num).length d2)):=((aM.refl _ u3).setCell (p:=⟨w.heap.size+1,0,none⟩) rfl (.slice A2 (a_ p den num).length c2)).setCell (p:=⟨w.heap.size+1,1,none⟩) rfl (.slice B2 (aY p den num).length d2);replace vr:VB ((u3.setCell ⟨w.heap.size+1,0,none⟩ (.slice A2 (a_ p den num).length c2)).setCell ⟨w.heap.size+1,1,none⟩ (.slice B2 (aY p den num).length d2)) (w.heap.size+1) 57 #[.slice A2 (a_ p den num).length c2,.slice B2 (aY p den num).length d2]:=((vr.bC 0 (.slice A2 (a_ p den num).length c2)).bC 1 (.slice B2 (aY p den num).length d2));replace vx:=vx.aK yz (by omega);replace f2:=f2.aK yz (f2.hi.off (by omega));replace g2:=g2.aK yz (g2.hi.off (by omega));replace xw:=xw.aK yz (by omega);have zu4:=yz.size;generalize((u3.setCell ⟨w.heap.size+1,0,none⟩ (.slice A2 (a_ p den num).length c2)).setCell ⟨w.heap.size+1,1,none⟩ (.slice B2 (aY p den num).length d2))=u4 at*;clear yz;obtain⟨FJ,FH⟩:=vr.d2;refine axu (v:=.agg #[.slice A2 (a_ p den num).length c2,.slice B2 (aY p den num).length d2]) (by simp[results,Tryz.results187,go_sem,FJ,FH]) rfl ?_;exact⟨A2,c2,B2,d2,rfl,f2.more (by omega),g2.more (by omega),ap,xw⟩
theorem og(A B:Option Addr)(c d:Nat)(num den:List Int)(w:World)(_:num.length<=1099511627776):
 Calls prog 116 #[.agg #[.slice A num.length c,.slice B den.length d]] w λe w'=>e=.returned (.bool (decide (num=[])))/\Ex w w':=by
 have x0:=(aCQ w).alloc (.cells #[.slice A num.length c,.slice B den.length d] 57);go_enter Tryz.func116,Tryz.ntmps116
 go_wp2;go_ret;exact⟨aI (by rw[ayB];simp),x0⟩
structure rP (p:Int) (n m:List Int):Prop where
 f:av p=true
 ne:aA p n=true
 me:aA p m=true
 nt:Tr n
 mt:Tr m
 nl:n.length<=274877906944
 ml:m.length<=274877906944
 m0:m≠[]
theorem FV.Tq(h:FV p x)(h1:x.n.length<=274877906944)(h2:x.d.length<=274877906944):rP p x.n x.d:=⟨h.f,h.n.e,h.d.e,h.n.t,h.d.t,h1,h2,h.d0⟩
theorem Nh{n m n' m':List Int}(h:rP p n m)(h':rP p n' m'):
 aA p (aB p n n')=true/\aA p (aB p m m')=true/\Tr (aB p n n')/\Tr (aB p m m')/\aB p m m'≠[]:=by
 have h2:=ax h.f;exact⟨lV (by omega) _ _,lV (by omega) _ _,Tr.trim _,Tr.trim _,Y6 h.f h.me h'.me h.mt h'.mt h.m0 h'.m0⟩
theorem OZ{n m n' m':List Int}(h:rP p n m)(h':rP p n' m'):
 aA p (bQ p (aB p n m') 1 (aB p n' m))=true/\aA p (aB p m m')=true/\Tr (bQ p (aB p n m') 1 (aB p n' m))/\Tr (aB p m m')/\aB p m m'≠[]:=by
 have h2:=ax h.f;exact⟨yL (lV (by omega) _ _) (by omega) _ _,lV (by omega) _ _,vH _ _ _ _,Tr.trim _,Y6 h.f h.me h'.me h.mt h'.mt h.m0 h'.m0⟩
theorem Uc(p:Int)(A B:Option Addr)(c d:Nat)(n m:List Int)(A' B':Option Addr)(c' d':Nat)(n' m':List Int)(w:World)(hn:Rd w A n)(hd:Rd w B m)(hn':Rd w A' n')(hd':Rd w B' m')(h1:rP p n m)(h2:rP p n' m'):
 Calls prog 137 #[.int .i64 p,.agg #[.slice A n.length c,.slice B m.length d],.agg #[.slice A' n'.length c',.slice B' m'.length d']] w λe w'=>FF w (a_ p (aB p n n') (aB p m m')) (aY p (aB p n n') (aB p m m')) e w':=by
 have E1:=axj h1;have E2:=axj h2;have g2:=ax E1.out.f;have PG:=aT E1.out.f;have EM:=axj (Nh E1.out E2.out);clear h1 h2;go_enter Tryz.func137,Tryz.ntmps137
 go_wp2_with fail
 obtain⟨u3,hu3,xw,vx,vy,vr,zu3⟩:=VB.three w 57 #[.slice A n.length c,.slice B m.length d] #[.slice A' n'.length c',.slice B' m'.length d'] #[.slice none 0 0,.slice none 0 0];rw[hu3];clear hu3;obtain⟨kF,kE⟩:=vx.d2;obtain⟨kD,kC⟩:=vy.d2;go_wp2_with fail
 obtain⟨L9,L8⟩:=vr.d2;obtain⟨uM,uL⟩:=vr.z2;go_region_held3 (λW=>W.cell? ⟨w.heap.size,0,none⟩=some (.slice A n.length c)/\W.cell? ⟨w.heap.size,1,none⟩=some (.slice B m.length d)/\W.cell? ⟨w.heap.size+1,0,none⟩=some (.slice A' n'.length c')/\W.cell? ⟨w.heap.size+1,1,none⟩=some (.slice B' m'.length d')) (first|(exact⟨gy (af jo (af gV (af d_ kF))) (by omega),gy (af jo (af gV (af d_ kE))) (by omega),gy (af jo (af gV (af d_ kD))) (by omega),gy (af jo (af gV (af d_ kC))) (by omega)⟩)|(exact⟨(af jo (af gV (af d_ kF))),(af jo (af gV (af d_ kE))),(af jo (af gV (af d_ kD))),(af jo (af gV (af d_ kC)))⟩)|(exact⟨(af gV (af d_ kF)),(af gV (af d_ kE)),(af gV (af d_ kD)),(af gV (af d_ kC))⟩)|(exact⟨(af d_ kF),(af d_ kE),(af d_ kD),(af d_ kC)⟩)|(exact⟨kF,kE,kD,kC⟩)) (first
  |(go_at_call_of 169 (Value.slice A n.length c)
    refine(yJ p A A' c c' n n' u3.drew (hn.ex (xw.drew)) (hn'.ex (xw.drew)) g2 PG E1.out.ne E2.out.ne (by have:=E1.out.nl;have:=E2.out.nl;omega)).mono ?_;rintro e u4 ⟨A1,c1,rfl,f1,d_⟩;rw[vD E1.out.f E1.out.ne E2.out.ne E1.out.nt E2.out.nt]at f1⊢)
  |(go_at_call_of 169 (Value.slice B m.length d)
    refine(yJ p B B' d d' m m' u4 (hd.ex ((xw.drew).trans d_)) (hd'.ex ((xw.drew).trans d_)) g2 PG E1.out.me E2.out.me (by have:=E1.out.ml;have:=E2.out.ml;omega)).mono ?_;rintro e u5 ⟨A2,c2,rfl,f2,gV⟩;rw[vD E1.out.f E1.out.me E2.out.me E1.out.mt E2.out.mt]at f2⊢)
  |(go_at_call 168
    refine(Fv p A1 A2 c1 c2 _ _ u5 ((f1.ex gV).rd) (f2.rd) E1.out.f EM.out.1 EM.out.2.1 EM.out.2.2.1 EM.out.2.2.2.1 EM.out.2.2.2.2).mono ?_;rintro e u6 ⟨A3,c3,B3,d3,rfl,f3,g3,ap,jo⟩;have aen:=(af jo (af gV (af d_ L9)));have aem:=(af jo (af gV (af d_ L8)));have Zt:=(vr.ex (((((aCQ u3).drew).trans d_).trans gV).trans jo)).frozen 0;have Zr:=(vr.ex (((((aCQ u3).drew).trans d_).trans gV).trans jo)).frozen 1))
 have xd:Ex u3 u6:=((((aCQ u3).drew).trans d_).trans gV).trans jo;replace vx:=vx.ex xd;replace vy:=vy.ex xd;replace vr:=vr.ex xd;replace xw:=xw.trans xd;have zu6:=xd.size;replace f1:=f1.ex gV;replace f1:=f1.ex jo;replace f2:=f2.ex jo;clear kF kE kD kC L9 L8 uM uL xd;have aia:u3.heap.size<=u3.drew.heap.size:=axk _;have ae5:=d_.size;have ae4:=gV.size;have ae3:=jo.size;have yz:aM (w.heap.size+1+1) u6 ((u6.setCell ⟨w.heap.size+1+1,0,none⟩ (.slice A3 (a_ p (aB p n n') (aB p m m')).length c3)).setCell ⟨w.heap.size+1+1,1,none⟩ (.slice B3 (aY p (aB p n n') (aB p m m')).length d3)):=((aM.refl _ u6).setCell (p:=⟨w.heap.size+1+1,0,none⟩) rfl (.slice A3 (a_ p (aB p n n') (aB p m m')).length c3)).setCell (p:=⟨w.heap.size+1+1,1,none⟩) rfl (.slice B3 (aY p (aB p n n') (aB p m m')).length d3);replace vr:VB ((u6.setCell ⟨w.heap.size+1+1,0,none⟩ (.slice A3 (a_ p (aB p n n') (aB p m m')).length c3)).setCell ⟨w.heap.size+1+1,1,none⟩ (.slice B3 (aY p (aB p n n') (aB p m m')).length d3)) (w.heap.size+1+1) 57 #[.slice A3 (a_ p (aB p n n') (aB p m m')).length c3,.slice B3 (aY p (aB p n n') (aB p m m')).length d3]:=((vr.bC 0 (.slice A3 (a_ p (aB p n n') (aB p m m')).length c3)).bC 1 (.slice B3 (aY p (aB p n n') (aB p m m')).length d3));replace vx:=vx.aK yz (by omega);replace vy:=vy.aK yz (by omega);replace f1:=f1.aK yz (f1.hi.off (by omega));replace f2:=f2.aK yz (f2.hi.off (by omega));replace f3:=f3.aK yz (f3.hi.off (by omega));replace g3:=g3.aK yz (g3.hi.off (by omega));replace xw:=xw.aK yz (by omega);have zu7:=yz.size;generalize((u6.setCell ⟨w.heap.size+1+1,0,none⟩ (.slice A3 (a_ p (aB p n n') (aB p m m')).length c3)).setCell ⟨w.heap.size+1+1,1,none⟩ (.slice B3 (aY p (aB p n n') (aB p m m')).length d3))=u7 at*;clear yz;go_wp2_with fail
 obtain⟨FJ,FH⟩:=vr.d2;refine axu (v:=.agg #[.slice A3 (a_ p (aB p n n') (aB p m m')).length c3,.slice B3 (aY p (aB p n n') (aB p m m')).length d3]) (by simp[results,Tryz.results137,go_sem,FJ,FH]) rfl ?_;exact⟨A3,c3,B3,d3,rfl,f3.more (by omega),g3.more (by omega),ap,xw⟩
theorem p_(p:Int)(A B:Option Addr)(c d:Nat)(n m:List Int)(A' B':Option Addr)(c' d':Nat)(n' m':List Int)(w:World)(hn:Rd w A n)(hd:Rd w B m)(hn':Rd w A' n')(hd':Rd w B' m')(h1:rP p n m)(h2:rP p n' m'):
 Calls prog 118 #[.int .i64 p,.agg #[.slice A n.length c,.slice B m.length d],.agg #[.slice A' n'.length c',.slice B' m'.length d']] w λe w'=>FF w (a_ p (aB p n n') (aB p m m')) (aY p (aB p n n') (aB p m m')) e w':=by
 have E1:=axj h1;have E2:=axj h2;have g2:=ax E1.out.f;have PG:=aT E1.out.f;have EM:=axj (Nh E1.out E2.out);clear h1 h2;go_enter Tryz.func118,Tryz.ntmps118
 go_wp2_with fail
 obtain⟨u3,hu3,xw,vx,vy,vr,zu3⟩:=VB.three w 57 #[.slice A n.length c,.slice B m.length d] #[.slice A' n'.length c',.slice B' m'.length d'] #[.slice none 0 0,.slice none 0 0];rw[hu3];clear hu3;obtain⟨kF,kE⟩:=vx.d2;obtain⟨kD,kC⟩:=vy.d2;go_wp2_with fail
 obtain⟨L9,L8⟩:=vr.d2;obtain⟨uM,uL⟩:=vr.z2;go_region_held3 (λW=>W.cell? ⟨w.heap.size,0,none⟩=some (.slice A n.length c)/\W.cell? ⟨w.heap.size,1,none⟩=some (.slice B m.length d)/\W.cell? ⟨w.heap.size+1,0,none⟩=some (.slice A' n'.length c')/\W.cell? ⟨w.heap.size+1,1,none⟩=some (.slice B' m'.length d')) (first|(exact⟨gy (af jo (af gV (af d_ kF))) (by omega),gy (af jo (af gV (af d_ kE))) (by omega),gy (af jo (af gV (af d_ kD))) (by omega),gy (af jo (af gV (af d_ kC))) (by omega)⟩)|(exact⟨(af jo (af gV (af d_ kF))),(af jo (af gV (af d_ kE))),(af jo (af gV (af d_ kD))),(af jo (af gV (af d_ kC)))⟩)|(exact⟨(af gV (af d_ kF)),(af gV (af d_ kE)),(af gV (af d_ kD)),(af gV (af d_ kC))⟩)|(exact⟨(af d_ kF),(af d_ kE),(af d_ kD),(af d_ kC)⟩)|(exact⟨kF,kE,kD,kC⟩)) (first
  |(go_at_call_of 152 (Value.slice A n.length c)
    refine(qC p A A' c c' n n' u3.drew (hn.ex (xw.drew)) (hn'.ex (xw.drew)) g2 PG E1.out.ne E2.out.ne (by have:=E1.out.nl;have:=E2.out.nl;omega)).mono ?_;rintro e u4 ⟨A1,c1,rfl,f1,d_⟩)
  |(go_at_call_of 152 (Value.slice B m.length d)
    refine(qC p B B' d d' m m' u4 (hd.ex ((xw.drew).trans d_)) (hd'.ex ((xw.drew).trans d_)) g2 PG E1.out.me E2.out.me (by have:=E1.out.ml;have:=E2.out.ml;omega)).mono ?_;rintro e u5 ⟨A2,c2,rfl,f2,gV⟩)
  |(go_at_call 153
    refine(yT p A1 A2 c1 c2 _ _ u5 ((f1.ex gV).rd) (f2.rd) E1.out.f EM.out.1 EM.out.2.1 EM.out.2.2.1 EM.out.2.2.2.1 EM.out.2.2.2.2).mono ?_;rintro e u6 ⟨A3,c3,B3,d3,rfl,f3,g3,ap,jo⟩;have aen:=(af jo (af gV (af d_ L9)));have aem:=(af jo (af gV (af d_ L8)));have Zt:=(vr.ex (((((aCQ u3).drew).trans d_).trans gV).trans jo)).frozen 0;have Zr:=(vr.ex (((((aCQ u3).drew).trans d_).trans gV).trans jo)).frozen 1))
 have xd:Ex u3 u6:=((((aCQ u3).drew).trans d_).trans gV).trans jo;replace vx:=vx.ex xd;replace vy:=vy.ex xd;replace vr:=vr.ex xd;replace xw:=xw.trans xd;have zu6:=xd.size;replace f1:=f1.ex gV;replace f1:=f1.ex jo;replace f2:=f2.ex jo;clear kF kE kD kC L9 L8 uM uL xd;have aia:u3.heap.size<=u3.drew.heap.size:=axk _;have ae5:=d_.size;have ae4:=gV.size;have ae3:=jo.size;have yz:aM (w.heap.size+1+1) u6 ((u6.setCell ⟨w.heap.size+1+1,0,none⟩ (.slice A3 (a_ p (aB p n n') (aB p m m')).length c3)).setCell ⟨w.heap.size+1+1,1,none⟩ (.slice B3 (aY p (aB p n n') (aB p m m')).length d3)):=((aM.refl _ u6).setCell (p:=⟨w.heap.size+1+1,0,none⟩) rfl (.slice A3 (a_ p (aB p n n') (aB p m m')).length c3)).setCell (p:=⟨w.heap.size+1+1,1,none⟩) rfl (.slice B3 (aY p (aB p n n') (aB p m m')).length d3);replace vr:VB ((u6.setCell ⟨w.heap.size+1+1,0,none⟩ (.slice A3 (a_ p (aB p n n') (aB p m m')).length c3)).setCell ⟨w.heap.size+1+1,1,none⟩ (.slice B3 (aY p (aB p n n') (aB p m m')).length d3)) (w.heap.size+1+1) 57 #[.slice A3 (a_ p (aB p n n') (aB p m m')).length c3,.slice B3 (aY p (aB p n n') (aB p m m')).length d3]:=((vr.bC 0 (.slice A3 (a_ p (aB p n n') (aB p m m')).length c3)).bC 1 (.slice B3 (aY p (aB p n n') (aB p m m')).length d3));replace vx:=vx.aK yz (by omega);replace vy:=vy.aK yz (by omega);replace f1:=f1.aK yz (f1.hi.off (by omega));replace f2:=f2.aK yz (f2.hi.off (by omega));replace f3:=f3.aK yz (f3.hi.off (by omega));replace g3:=g3.aK yz (g3.hi.off (by omega));replace xw:=xw.aK yz (by omega);have zu7:=yz.size;generalize((u6.setCell ⟨w.heap.size+1+1,0,none⟩ (.slice A3 (a_ p (aB p n n') (aB p m m')).length c3)).setCell ⟨w.heap.size+1+1,1,none⟩ (.slice B3 (aY p (aB p n n') (aB p m m')).length d3))=u7 at*;clear yz;go_wp2_with fail
 obtain⟨FJ,FH⟩:=vr.d2;refine axu (v:=.agg #[.slice A3 (a_ p (aB p n n') (aB p m m')).length c3,.slice B3 (aY p (aB p n n') (aB p m m')).length d3]) (by simp[results,Tryz.results118,go_sem,FJ,FH]) rfl ?_;exact⟨A3,c3,B3,d3,rfl,f3.more (by omega),g3.more (by omega),ap,xw⟩
theorem ado(p:Int)(A B:Option Addr)(c d:Nat)(n m:List Int)(A' B':Option Addr)(c' d':Nat)(n' m':List Int)(w:World)(hn:Rd w A n)(hd:Rd w B m)(hn':Rd w A' n')(hd':Rd w B' m')(h1:rP p n m)(h2:rP p n' m'):
 Calls prog 146 #[.int .i64 p,.agg #[.slice A n.length c,.slice B m.length d],.agg #[.slice A' n'.length c',.slice B' m'.length d']] w λe w'=>FF w (addN p n m n' m') (tO p n m n' m') e w':=by
 have E1:=axj h1;have E2:=axj h2;have g2:=ax E1.out.f;have PG:=aT E1.out.f;have EM:=axj (OZ E1.out E2.out);clear h1 h2;have HN:=axj (show a_ p (bQ p (aB p n m') 1 (aB p n' m)) (aB p m m')=addN p n m n' m' from rfl);have HD:=axj (show aY p (bQ p (aB p n m') 1 (aB p n' m)) (aB p m m')=tO p n m n' m' from rfl);have q1:=axj (lV (p:=p) (by omega) n m');have q2:=axj (lV (p:=p) (by omega) n' m);go_enter Tryz.func146,Tryz.ntmps146
 go_wp2_with fail
 obtain⟨u3,hu3,xw,vx,vy,vr,zu3⟩:=VB.three w 57 #[.slice A n.length c,.slice B m.length d] #[.slice A' n'.length c',.slice B' m'.length d'] #[.slice none 0 0,.slice none 0 0];rw[hu3];clear hu3;obtain⟨kF,kE⟩:=vx.d2;obtain⟨kD,kC⟩:=vy.d2;go_wp2_with fail
 obtain⟨L9,L8⟩:=vr.d2;obtain⟨uM,uL⟩:=vr.z2;go_region_held3 (λW=>W.cell? ⟨w.heap.size,0,none⟩=some (.slice A n.length c)/\W.cell? ⟨w.heap.size,1,none⟩=some (.slice B m.length d)/\W.cell? ⟨w.heap.size+1,0,none⟩=some (.slice A' n'.length c')/\W.cell? ⟨w.heap.size+1,1,none⟩=some (.slice B' m'.length d')) (first|(exact⟨gy (af zX (af wW (af jo (af gV (af d_ kF))))) (by omega),gy (af zX (af wW (af jo (af gV (af d_ kE))))) (by omega),gy (af zX (af wW (af jo (af gV (af d_ kD))))) (by omega),gy (af zX (af wW (af jo (af gV (af d_ kC))))) (by omega)⟩)|(exact⟨(af zX (af wW (af jo (af gV (af d_ kF))))),(af zX (af wW (af jo (af gV (af d_ kE))))),(af zX (af wW (af jo (af gV (af d_ kD))))),(af zX (af wW (af jo (af gV (af d_ kC)))))⟩)|(exact⟨(af wW (af jo (af gV (af d_ kF)))),(af wW (af jo (af gV (af d_ kE)))),(af wW (af jo (af gV (af d_ kD)))),(af wW (af jo (af gV (af d_ kC))))⟩)|(exact⟨(af jo (af gV (af d_ kF))),(af jo (af gV (af d_ kE))),(af jo (af gV (af d_ kD))),(af jo (af gV (af d_ kC)))⟩)|(exact⟨(af gV (af d_ kF)),(af gV (af d_ kE)),(af gV (af d_ kD)),(af gV (af d_ kC))⟩)|(exact⟨(af d_ kF),(af d_ kE),(af d_ kD),(af d_ kC)⟩)|(exact⟨kF,kE,kD,kC⟩)) (first
  |(go_at_call_of 169 (Value.slice A n.length c)
    refine(yJ p A B' c d' n m' u3.drew (hn.ex (xw.drew)) (hd'.ex (xw.drew)) g2 PG E1.out.ne E2.out.me (by have:=E1.out.nl;have:=E2.out.ml;omega)).mono ?_;rintro e u4 ⟨A1,c1,rfl,f1,d_⟩;rw[vD E1.out.f E1.out.ne E2.out.me E1.out.nt E2.out.mt]at f1⊢)
  |(go_at_call_of 169 (Value.slice A' n'.length c')
    refine(yJ p A' B c' d n' m u4 (hn'.ex ((xw.drew).trans d_)) (hd.ex ((xw.drew).trans d_)) g2 PG E2.out.ne E1.out.me (by have:=E2.out.nl;have:=E1.out.ml;omega)).mono ?_;rintro e u5 ⟨A2,c2,rfl,f2,gV⟩;rw[vD E1.out.f E2.out.ne E1.out.me E2.out.nt E1.out.mt]at f2⊢)
  |(go_at_call 175
    refine(acg p A1 A2 c1 c2 _ _ u5 ((f1.ex gV).rd) (f2.rd) g2 PG q1.out q2.out).mono ?_;rintro e u6 ⟨A3,c3,rfl,f3,jo⟩)
  |(go_at_call_of 169 (Value.slice B m.length d)
    refine(yJ p B B' d d' m m' u6 (hd.ex ((((xw.drew).trans d_).trans gV).trans jo)) (hd'.ex ((((xw.drew).trans d_).trans gV).trans jo)) g2 PG E1.out.me E2.out.me (by have:=E1.out.ml;have:=E2.out.ml;omega)).mono ?_;rintro e u7 ⟨A4,c4,rfl,f4,wW⟩;rw[vD E1.out.f E1.out.me E2.out.me E1.out.mt E2.out.mt]at f4⊢)
  |(go_at_call 168
    refine(Fv p A3 A4 c3 c4 _ _ u7 ((f3.ex wW).rd) (f4.rd) E1.out.f EM.out.1 EM.out.2.1 EM.out.2.2.1 EM.out.2.2.2.1 EM.out.2.2.2.2).mono ?_;rintro e u8 ⟨A5,c5,B5,d5,rfl,f5,g5,ap,zX⟩;rw[HN.out]at f5⊢;rw[HD.out]at g5⊢;have aen:=(af zX (af wW (af jo (af gV (af d_ L9)))));have aem:=(af zX (af wW (af jo (af gV (af d_ L8)))));have Zt:=(vr.ex (((((((aCQ u3).drew).trans d_).trans gV).trans jo).trans wW).trans zX)).frozen 0;have Zr:=(vr.ex (((((((aCQ u3).drew).trans d_).trans gV).trans jo).trans wW).trans zX)).frozen 1))
 have xd:Ex u3 u8:=((((((aCQ u3).drew).trans d_).trans gV).trans jo).trans wW).trans zX;replace vx:=vx.ex xd;replace vy:=vy.ex xd;replace vr:=vr.ex xd;replace xw:=xw.trans xd;have zu8:=xd.size;replace f1:=f1.ex gV;replace f1:=f1.ex jo;replace f1:=f1.ex wW;replace f1:=f1.ex zX;replace f2:=f2.ex jo;replace f2:=f2.ex wW;replace f2:=f2.ex zX;replace f3:=f3.ex wW;replace f3:=f3.ex zX;replace f4:=f4.ex zX;clear kF kE kD kC L9 L8 uM uL xd;have asK:u3.heap.size<=u3.drew.heap.size:=axk _;have ae5:=d_.size;have ae4:=gV.size;have ae3:=jo.size;have asJ:=wW.size;have asI:=zX.size;have yz:aM (w.heap.size+1+1) u8 ((u8.setCell ⟨w.heap.size+1+1,0,none⟩ (.slice A5 (addN p n m n' m').length c5)).setCell ⟨w.heap.size+1+1,1,none⟩ (.slice B5 (tO p n m n' m').length d5)):=((aM.refl _ u8).setCell (p:=⟨w.heap.size+1+1,0,none⟩) rfl (.slice A5 (addN p n m n' m').length c5)).setCell (p:=⟨w.heap.size+1+1,1,none⟩) rfl (.slice B5 (tO p n m n' m').length d5);replace vr:VB ((u8.setCell ⟨w.heap.size+1+1,0,none⟩ (.slice A5 (addN p n m n' m').length c5)).setCell ⟨w.heap.size+1+1,1,none⟩ (.slice B5 (tO p n m n' m').length d5)) (w.heap.size+1+1) 57 #[.slice A5 (addN p n m n' m').length c5,.slice B5 (tO p n m n' m').length d5]:=((vr.bC 0 (.slice A5 (addN p n m n' m').length c5)).bC 1 (.slice B5 (tO p n m n' m').length d5));replace vx:=vx.aK yz (by omega);replace vy:=vy.aK yz (by omega);replace f1:=f1.aK yz (f1.hi.off (by omega));replace f2:=f2.aK yz (f2.hi.off (by omega));replace f3:=f3.aK yz (f3.hi.off (by omega));replace f4:=f4.aK yz (f4.hi.off (by omega));replace f5:=f5.aK yz (f5.hi.off (by omega));replace g5:=g5.aK yz (g5.hi.off (by omega));replace xw:=xw.aK yz (by omega);have zu9:=yz.size;generalize((u8.setCell ⟨w.heap.size+1+1,0,none⟩ (.slice A5 (addN p n m n' m').length c5)).setCell ⟨w.heap.size+1+1,1,none⟩ (.slice B5 (tO p n m n' m').length d5))=u9 at*;clear yz;go_wp2_with fail
 obtain⟨FJ,FH⟩:=vr.d2;refine axu (v:=.agg #[.slice A5 (addN p n m n' m').length c5,.slice B5 (tO p n m n' m').length d5]) (by simp[results,Tryz.results146,go_sem,FJ,FH]) rfl ?_;exact⟨A5,c5,B5,d5,rfl,f5.more (by omega),g5.more (by omega),ap,xw⟩
theorem GU(p:Int)(A B:Option Addr)(c d:Nat)(n m:List Int)(A' B':Option Addr)(c' d':Nat)(n' m':List Int)(w:World)(hn:Rd w A n)(hd:Rd w B m)(hn':Rd w A' n')(hd':Rd w B' m')(h1:rP p n m)(h2:rP p n' m'):
 Calls prog 117 #[.int .i64 p,.agg #[.slice A n.length c,.slice B m.length d],.agg #[.slice A' n'.length c',.slice B' m'.length d']] w λe w'=>FF w (addN p n m n' m') (tO p n m n' m') e w':=by
 have E1:=axj h1;have E2:=axj h2;have g2:=ax E1.out.f;have PG:=aT E1.out.f;have EM:=axj (OZ E1.out E2.out);clear h1 h2;have HN:=axj (show a_ p (bQ p (aB p n m') 1 (aB p n' m)) (aB p m m')=addN p n m n' m' from rfl);have HD:=axj (show aY p (bQ p (aB p n m') 1 (aB p n' m)) (aB p m m')=tO p n m n' m' from rfl);have q1:=axj (lV (p:=p) (by omega) n m');have q2:=axj (lV (p:=p) (by omega) n' m);go_enter Tryz.func117,Tryz.ntmps117
 go_wp2_with fail
 obtain⟨u3,hu3,xw,vx,vy,vr,zu3⟩:=VB.three w 57 #[.slice A n.length c,.slice B m.length d] #[.slice A' n'.length c',.slice B' m'.length d'] #[.slice none 0 0,.slice none 0 0];rw[hu3];clear hu3;obtain⟨kF,kE⟩:=vx.d2;obtain⟨kD,kC⟩:=vy.d2;go_wp2_with fail
 go_region_held3 (λW=>W.cell? ⟨w.heap.size,0,none⟩=some (.slice A n.length c)/\W.cell? ⟨w.heap.size,1,none⟩=some (.slice B m.length d)/\W.cell? ⟨w.heap.size+1,0,none⟩=some (.slice A' n'.length c')/\W.cell? ⟨w.heap.size+1,1,none⟩=some (.slice B' m'.length d')) (first|(exact⟨(af jo (af gV (af d_ kF))),(af jo (af gV (af d_ kE))),(af jo (af gV (af d_ kD))),(af jo (af gV (af d_ kC)))⟩)|(exact⟨(af gV (af d_ kF)),(af gV (af d_ kE)),(af gV (af d_ kD)),(af gV (af d_ kC))⟩)|(exact⟨(af d_ kF),(af d_ kE),(af d_ kD),(af d_ kC)⟩)|(exact⟨kF,kE,kD,kC⟩)) (first
  |(go_at_call_of 152 (Value.slice A n.length c)
    refine(qC p A B' c d' n m' u3.drew (hn.ex (xw.drew)) (hd'.ex (xw.drew)) g2 PG E1.out.ne E2.out.me (by have:=E1.out.nl;have:=E2.out.ml;omega)).mono ?_;rintro e u4 ⟨A1,c1,rfl,f1,d_⟩)
  |(go_at_call_of 152 (Value.slice A' n'.length c')
    refine(qC p A' B c' d n' m u4 (hn'.ex ((xw.drew).trans d_)) (hd.ex ((xw.drew).trans d_)) g2 PG E2.out.ne E1.out.me (by have:=E2.out.nl;have:=E1.out.ml;omega)).mono ?_;rintro e u5 ⟨A2,c2,rfl,f2,gV⟩)
  |(go_at_call 151
    refine(Ih p A1 A2 c1 c2 _ _ 1 u5 ((f1.ex gV).rd) (f2.rd) g2 PG q1.out q2.out (by omega)).mono ?_;rintro e u6 ⟨A3,c3,rfl,f3,jo⟩))
 have xd:Ex u3 u6:=((((aCQ u3).drew).trans d_).trans gV).trans jo;replace vx:=vx.ex xd;replace vy:=vy.ex xd;replace vr:=vr.ex xd;replace xw:=xw.trans xd;have zu6:=xd.size;replace f1:=f1.ex gV;replace f1:=f1.ex jo;replace f2:=f2.ex jo;clear kF kE kD kC xd;have aia:u3.heap.size<=u3.drew.heap.size:=axk _;have ae5:=d_.size;have ae4:=gV.size;have ae3:=jo.size;obtain⟨kF,kE⟩:=vx.d2;obtain⟨kD,kC⟩:=vy.d2;go_wp2_with fail
 clear kF kE kD kC;refine(qC p B B' d d' m m' u6 (hd.ex xw) (hd'.ex xw) g2 PG E1.out.me E2.out.me (by have:=E1.out.ml;have:=E2.out.ml;omega)).mono ?_;rintro e u7 ⟨A4,c4,rfl,f4,wW⟩;replace vx:=vx.ex wW;replace vy:=vy.ex wW;replace vr:=vr.ex wW;replace f1:=f1.ex wW;replace f2:=f2.ex wW;replace f3:=f3.ex wW;replace xw:=xw.trans wW;have zu7:=wW.size;go_wp2_with fail
 refine(yT p A3 A4 c3 c4 _ _ u7 f3.rd f4.rd E1.out.f EM.out.1 EM.out.2.1 EM.out.2.2.1 EM.out.2.2.2.1 EM.out.2.2.2.2).mono ?_;rintro e u8 ⟨A5,c5,B5,d5,rfl,f5,g5,ap,zX⟩;replace vx:=vx.ex zX;replace vy:=vy.ex zX;replace vr:=vr.ex zX;replace f1:=f1.ex zX;replace f2:=f2.ex zX;replace f3:=f3.ex zX;replace f4:=f4.ex zX;replace xw:=xw.trans zX;have zu8:=zX.size;rw[HN.out]at f5⊢;rw[HD.out]at g5⊢;obtain⟨YC,YB⟩:=vr.d2;obtain⟨uM,uL⟩:=vr.z2;go_wp2_with fail
 clear YC YB uM uL;have yz:aM (w.heap.size+1+1) u8 ((u8.setCell ⟨w.heap.size+1+1,0,none⟩ (.slice A5 (addN p n m n' m').length c5)).setCell ⟨w.heap.size+1+1,1,none⟩ (.slice B5 (tO p n m n' m').length d5)):=((aM.refl _ u8).setCell (p:=⟨w.heap.size+1+1,0,none⟩) rfl (.slice A5 (addN p n m n' m').length c5)).setCell (p:=⟨w.heap.size+1+1,1,none⟩) rfl (.slice B5 (tO p n m n' m').length d5);replace vr:VB ((u8.setCell ⟨w.heap.size+1+1,0,none⟩ (.slice A5 (addN p n m n' m').length c5)).setCell ⟨w.heap.size+1+1,1,none⟩ (.slice B5 (tO p n m n' m').length d5)) (w.heap.size+1+1) 57 #[.slice A5 (addN p n m n' m').length c5,.slice B5 (tO p n m n' m').length d5]:=((vr.bC 0 (.slice A5 (addN p n m n' m').length c5)).bC 1 (.slice B5 (tO p n m n' m').length d5));replace vx:=vx.aK yz (by omega);replace vy:=vy.aK yz (by omega);replace f1:=f1.aK yz (f1.hi.off (by omega));replace f2:=f2.aK yz (f2.hi.off (by omega));replace f3:=f3.aK yz (f3.hi.off (by omega));replace f4:=f4.aK yz (f4.hi.off (by omega));replace f5:=f5.aK yz (f5.hi.off (by omega));replace g5:=g5.aK yz (g5.hi.off (by omega));replace xw:=xw.aK yz (by omega);have zu9:=yz.size;generalize((u8.setCell ⟨w.heap.size+1+1,0,none⟩ (.slice A5 (addN p n m n' m').length c5)).setCell ⟨w.heap.size+1+1,1,none⟩ (.slice B5 (tO p n m n' m').length d5))=u9 at*;clear yz;obtain⟨FJ,FH⟩:=vr.d2;refine axu (v:=.agg #[.slice A5 (addN p n m n' m').length c5,.slice B5 (tO p n m n' m').length d5]) (by simp[results,Tryz.results117,go_sem,FJ,FH]) rfl ?_;exact⟨A5,c5,B5,d5,rfl,f5.more (by omega),g5.more (by omega),ap,xw⟩
theorem IA(hp:0<p)(x y:aG):fP p x y=fP p y x:=by show uD p _ _=uD p _ _;rw[aL hp x.n,aL hp x.d]
theorem Qz(hx:FV p x):fP p ⟨[p-1],[1]⟩ x=bY p x:=by
 have hp:=hx.pos;have h2:=ax hx.f;have hc:FV p ⟨[p-1],[1]⟩:=FV.one_den hx.f ⟨by simp[aA,iF];omega,by
  show trim [p-1]=[p-1];have:p-1≠0:=by omega
  simp[trim,this]⟩
 have h1:=eY.mul hc hx (eY.self p _) (eY.self p x);have e1:aB p (aG.mk [p-1] [1]).n x.n=kG p x.n:=Qr h2 x.n;have e2:aB p (aG.mk [p-1] [1]).d x.d=x.d:=by rw[aL hp];exact gH h2 hx.d
 rw[e1,e2]at h1;exact eY.uniq (hc.mul hx) hx.neg hx.d hx.d0 h1 (eY.self p (bY p x))
theorem yU(hF:av p=true){N D:List Int}(hN:PN p N)(hD:PN p D)(h0:D≠[]):(uD p N D).n.length<=N.length/\(uD p N D).d.length<=D.length:=by obtain⟨_,_,_,_,_,h1,h2,_⟩:=A_ hF hN.e hD.e hN.t hD.t h0;exact⟨h1,h2⟩
def FL(L:Nat)(x:aG):Prop:=x.n.length<=L/\x.d.length<=L
theorem FL.mono(h:FL L x)(hm:L<=M):FL M x:=⟨axA h.1 hm,axA h.2 hm⟩
theorem kN(hF:av p=true){f g:List Int}(hf:PN p f)(hg:PN p g):(aB p f g).length<=f.length+g.length:=by
 by_cases h1:f=[]
 .rw[h1,gG];simp
 by_cases h2:g=[]
 .rw[h2,M0];simp
 rw[yK hF hf.e hg.e hf.t hg.t h1 h2];omega
theorem JH(p:Int)(f:List Int)(b:Int)(g:List Int):(bQ p f b g).length<=max f.length g.length:=by refine axA (iY _) ?_;rw[aX,qF (by omega)];omega
theorem FL.mul(hx:FV p x)(hy:FV p y)(h:FL L x)(k:FL M y):FL (L+M) (fP p x y):=by have hp:=hx.pos;obtain⟨h1,h2⟩:=yU hx.f (PN.mul hp x.n y.n) (PN.mul hp x.d y.d) (dX hx.f hx.d hy.d hx.d0 hy.d0);have a1:=kN hx.f hx.n hy.n;have a2:=kN hx.f hx.d hy.d;obtain⟨q1,q2⟩:=h;obtain⟨q3,q4⟩:=k;exact⟨by show(uD p _ _).n.length<=_;omega,by show(uD p _ _).d.length<=_;omega⟩
theorem FL.add(hx:FV p x)(hy:FV p y)(h:FL L x)(k:FL M y):FL (L+M) (uV p x y):=by have hp:=hx.pos;obtain⟨h1,h2⟩:=yU hx.f ((PN.mul hp x.n y.d).add hp 1 (aB p y.n x.d)) (PN.mul hp x.d y.d) (dX hx.f hx.d hy.d hx.d0 hy.d0);have a1:=kN hx.f hx.n hy.d;have a2:=kN hx.f hy.n hx.d;have a3:=kN hx.f hx.d hy.d;have a4:=JH p (aB p x.n y.d) 1 (aB p y.n x.d);obtain⟨q1,q2⟩:=h;obtain⟨q3,q4⟩:=k;exact⟨by show(uD p _ _).n.length<=_;omega,by show(uD p _ _).d.length<=_;omega⟩
theorem FL.inv(hx:FV p x)(h0:x.n≠[])(h:FL L x):FL L (qQ p x):=by obtain⟨h1,h2⟩:=yU hx.f hx.d hx.n h0;exact⟨axA h1 h.2,axA h2 h.1⟩
theorem FL.neg(h:FL L x):FL L (bY p x):=by refine⟨?_,h.2⟩;have:=JH p [] (p-1) x.n;have h1:=h.1;show(bQ p [] (p-1) x.n).length<=L;simp at this;omega
def G8(w:World)(x:aG)(e:Ending)(w':World):Prop:=FF w x.n x.d e w'
theorem zJ(a:Int)(ha:a≠0)(w:World):Calls prog 85 #[.int .i64 a] w λe w'=>∃A c B d,e=.returned (.agg #[.slice A 1 c,.slice B 1 d])/\Fr w' w.heap.size A c [a]/\Fr w' w.heap.size B d [1]/\Apart A B/\Ex w w':=by
 have hb:(a==0)=false:=by simpa using ha
 go_enter Tryz.func85,Tryz.ntmps85
 go_wp2_with fail
 obtain⟨x1,v1⟩:=VB.xn w 57 #[.slice (some ⟨w.heap.size+1,0,none⟩) 1 1,.slice (some ⟨w.heap.size+1+1,0,none⟩) 1 1];have s1:(w.alloc (.cells #[.slice (some ⟨w.heap.size+1,0,none⟩) 1 1,.slice (some ⟨w.heap.size+1+1,0,none⟩) 1 1] 57)).heap.size=w.heap.size+1:=by simp
 generalize w.alloc (.cells #[.slice (some ⟨w.heap.size+1,0,none⟩) 1 1,.slice (some ⟨w.heap.size+1+1,0,none⟩) 1 1] 57)=W1 at*;have x2:=((aCQ W1).alloc (aN [a])).alloc (aN [1]);have o1:=(Own.new W1 [a]).ex ((aCQ (W1.alloc (aN [a]))).alloc (aN [1]));have o2:=Own.new (W1.alloc (aN [a])) [1];have s2:(W1.alloc (aN [a])).heap.size=w.heap.size+1+1:=by simp[s1]
 rw[s2]at o2;rw[s1]at o1;have v2:=v1.ex x2;obtain⟨d0,d1⟩:=v2.d2;change bodyPost _ _ _ _ _ ((W1.alloc (aN [a])).alloc (aN [1]));generalize(W1.alloc (aN [a])).alloc (aN [1])=W2 at*;refine axu (v:=.agg #[.slice (some ⟨w.heap.size+1,0,none⟩) 1 1,.slice (some ⟨w.heap.size+1+1,0,none⟩) 1 1]) (by simp[results,Tryz.results85,go_sem,d0,d1]) rfl ?_;exact⟨_,_,_,_,rfl,o1.fr (by simp) (by omega) (by simp),o2.fr (by simp) (by omega) (by simp),iA (by omega),x1.trans x2⟩
theorem Gy(p:Int)(x:aG)(A B:Option Addr)(c d:Nat)(w:World)(hx:FV p x)(hA:Rd w A x.n)(hB:Rd w B x.d)(h1:x.n.length<=137438953472)(h2:x.d.length<=137438953472):
 Calls prog 158 #[.int .i64 p,.agg #[.slice A x.n.length c,.slice B x.d.length d]] w λe w'=>G8 w (bY p x) e w':=by
 have g2:=ax hx.f;have PG:=aT hx.f;have HM:=axj (Qz hx);have hc:FV p ⟨[p-1],[1]⟩:=FV.one_den hx.f ⟨by simp[aA,iF];omega,by
  show trim [p-1]=[p-1];have:p-1≠0:=by omega
  simp[trim,this]⟩
 have E1:=axj (hc.Tq (by simp) (by simp));have E2:=axj (hx.Tq (by omega) (by omega));clear hx hc;obtain⟨n,m⟩:=x;dsimp only at hA hB h1 h2 HM E1 E2⊢;obtain⟨x0,v0⟩:=VB.xn w 57 #[.slice A n.length c,.slice B m.length d];have s0:(w.alloc (.cells #[.slice A n.length c,.slice B m.length d] 57)).heap.size=w.heap.size+1:=by simp
 go_enter Tryz.func158,Tryz.ntmps158
 go_wp2_with fail
 generalize w.alloc (.cells #[.slice A n.length c,.slice B m.length d] 57)=W0 at*;obtain⟨x1,v1⟩:=VB.xn W0 57 #[.slice none 0 0,.slice none 0 0];have s1:(W0.alloc (.cells #[.slice none 0 0,.slice none 0 0] 57)).heap.size=w.heap.size+1+1:=by simp;exact s0
 rw[s0]at v1;generalize W0.alloc (.cells #[.slice none 0 0,.slice none 0 0] 57)=W1 at*;have v0:=v0.ex x1;have xx:=x0.trans x1;clear x0 x1;obtain⟨q0,q1⟩:=v0.d2;have hp1:p-1≠0:=by omega
 have hwr:IntKind.i64.wrap (p-1)=p-1:=axC _ (by omega);have HF:∀(A3 B3:Option Addr) (c3 d3:Nat) (W:World),aM (w.heap.size+1) W1 W->Rd W A3 [p-1]->Rd W B3 [1]->Calls prog 118 #[.int .i64 p,.agg #[.slice A3 1 c3,.slice B3 1 d3],.agg #[.slice A n.length c,.slice B m.length d]] W λe w'=>FF W (kG p n) m e w':=λA3 B3 c3 d3 W h r1 r2=>by have:=p_ p A3 B3 c3 d3 [p-1] [1] A B c d n m W r1 r2 (hA.ex (xx.aK h (by omega))) (hB.ex (xx.aK h (by omega))) E1.out E2.out;have e1:a_ p (aB p [p-1] n) (aB p [1] m)=kG p n:=congrArg aG.n HM.out;have e2:aY p (aB p [p-1] n) (aB p [1] m)=m:=congrArg aG.d HM.out;rw[e1,e2]at this;exact this
 have HS:∀W,aM (w.heap.size+1) W1 W->(aM (w.heap.size+1) W1 W/\W.cell? ⟨w.heap.size,0,none⟩=some (.slice A n.length c)/\W.cell? ⟨w.heap.size,1,none⟩=some (.slice B m.length d)):=λW h=>⟨h,(v0.aK h (by omega)).c0,(v0.aK h (by omega)).c1⟩
 have eA:=(aM.refl (w.heap.size+1) W1).drew;go_region_held3 (λW=>aM (w.heap.size+1) W1 W/\W.cell? ⟨w.heap.size,0,none⟩=some (.slice A n.length c)/\W.cell? ⟨w.heap.size,1,none⟩=some (.slice B m.length d)) (first
  |(exact HS _ ((e4.setCell rfl _).setCell rfl _))|(exact HS _ e4)|(exact HS _ e3)|(exact HS _ eA)|(exact HS _ (aM.refl _ _))) (first
  |(go_at_call 85
    have hb:=(‹aM (w.heap.size+1) W1 _/\_›).1;refine(zJ (p-1) hp1 _).mono ?_;rintro e w3 ⟨A3,c3,B3,d3,rfl,f3,g3,Uw,x3⟩;have e3:=hb.trans (aM.aP x3);have z3:=hb.size';clear hb)
  |(go_at_call 118
    refine(HF A3 B3 c3 d3 w3 e3 f3.rd g3.rd).mono ?_;rintro e w4 ⟨A4,c4,B4,d4,rfl,f4,g4,ap4,x4⟩;have e4:=e3.trans (aM.aP x4);have z4:=x3.size;have v4:VB w4 (w.heap.size+1) 57 #[.slice none 0 0,.slice none 0 0]:=by first|exact(v1.ex x3).ex x4|exact(VB.ex (w:=W1.drew) v1 x3).ex x4
    obtain⟨r0,r1⟩:=v4.d2;have k0:=v4.frozen 0;have k1:=v4.frozen 1))
 all_goals
  have E5:aM (w.heap.size+1) w4 ((w4.setCell ⟨w.heap.size+1,0,none⟩ (.slice A4 (kG p n).length c4)).setCell ⟨w.heap.size+1,1,none⟩ (.slice B4 m.length d4)):=((aM.refl _ w4).setCell (p:=⟨w.heap.size+1,0,none⟩) rfl _).setCell (p:=⟨w.heap.size+1,1,none⟩) rfl _;have v5:VB ((w4.setCell ⟨w.heap.size+1,0,none⟩ (.slice A4 (kG p n).length c4)).setCell ⟨w.heap.size+1,1,none⟩ (.slice B4 m.length d4)) (w.heap.size+1) 57 #[.slice A4 (kG p n).length c4,.slice B4 m.length d4]:=(v4.bC 0 _).bC 1 _;obtain⟨D0,D1⟩:=v5.d2;have yy:Ex w _:=(xx.aK e4 (by omega)).aK E5 (by omega);have zx:=xx.size;go_wp2_with fail
  refine axu (v:=.agg #[.slice A4 (kG p n).length c4,.slice B4 m.length d4]) (by simp[results,Tryz.results158,go_sem,D0,D1]) rfl ?_;exact⟨A4,c4,B4,d4,rfl,(f4.aK E5 (f4.hi.off (by omega))).more (by omega),(g4.aK E5 (g4.hi.off (by omega))).more (by omega),ap4,yy⟩
theorem I8(p:Int)(x y:aG)(A B:Option Addr)(c d:Nat)(A' B':Option Addr)(c' d':Nat)(w:World)(hx:FV p x)(hy:FV p y)(hA:Rd w A x.n)(hB:Rd w B x.d)(hA':Rd w A' y.n)(hB':Rd w B' y.d)(hy0:y.n≠[])(h1:FL 137438953472 x)(h2:FL 137438953472 y):
 Calls prog 157 #[.int .i64 p,.agg #[.slice A x.n.length c,.slice B x.d.length d],.agg #[.slice A' y.n.length c',.slice B' y.d.length d']] w λe w'=>G8 w (fP p (qQ p y) x) e w':=by
 have hi:=hy.inv hy0;have hil:=h2.inv hy hy0;have HM:=axj (IA hx.pos x (qQ p y));have E1:=axj (hx.Tq (by have:=h1.1;omega) (by have:=h1.2;omega));have E2:=axj (hi.Tq (by have:=hil.1;omega) (by have:=hil.2;omega));have E3:=axj hy;have Hy0:=axj hy0;have hb:decide (y.n=[])=false:=by simpa using hy0
 have hyl:=hA'.len;clear hx hy hi hil h1 h2 hy0;obtain⟨n,m⟩:=x;obtain⟨n',m'⟩:=y;dsimp only at hA hB hA' hB' HM E1 E2 E3 Hy0 hb hyl⊢;obtain⟨x0,v0⟩:=VB.xn w 57 #[.slice A n.length c,.slice B m.length d];have s0:(w.alloc (.cells #[.slice A n.length c,.slice B m.length d] 57)).heap.size=w.heap.size+1:=by simp
 go_enter Tryz.func157,Tryz.ntmps157
 go_wp2_with fail
 generalize w.alloc (.cells #[.slice A n.length c,.slice B m.length d] 57)=W0 at*;obtain⟨x1,v1⟩:=VB.xn W0 57 #[.slice A' n'.length c',.slice B' m'.length d'];have s1:(W0.alloc (.cells #[.slice A' n'.length c',.slice B' m'.length d'] 57)).heap.size=w.heap.size+1+1:=by simp;exact s0
 rw[s0]at v1;generalize W0.alloc (.cells #[.slice A' n'.length c',.slice B' m'.length d'] 57)=W1 at*;obtain⟨x2,v2⟩:=VB.xn W1 57 #[.slice none 0 0,.slice none 0 0];have s2:(W1.alloc (.cells #[.slice none 0 0,.slice none 0 0] 57)).heap.size=w.heap.size+1+1+1:=by simp;exact s1
 rw[s1]at v2;generalize W1.alloc (.cells #[.slice none 0 0,.slice none 0 0] 57)=W2 at*;have v1:=v1.ex x2;have v0:=(v0.ex x1).ex x2;have xx:=(x0.trans x1).trans x2;clear x0 x1 x2;have hno:=og A' B' c' d' n' m' W2 hyl;rw[hb]at hno;obtain⟨q2,q3⟩:=v1.d2;refine hno.mono ?_;rintro e w3 ⟨rfl,x3⟩;have v0:=v0.ex x3;have v1:=v1.ex x3;have v2:=v2.ex x3;have z3:=x3.size;have xx:=xx.trans x3;clear q2 q3 hno hb;go_wp2_with fail
 have HI:∀W,aM (w.heap.size+1+1) w3 W->Calls prog 187 #[.int .i64 p,.agg #[.slice A' n'.length c',.slice B' m'.length d']] W λe w'=>FF W (a_ p m' n') (aY p m' n') e w':=λW h=>zu p A' B' c' d' n' m' W (hA'.ex (xx.aK h (by omega))) (hB'.ex (xx.aK h (by omega))) E3.out.f E3.out.n.e E3.out.d.e E3.out.n.t E3.out.d.t Hy0.out
 have HF:∀(A3 B3:Option Addr) (c3 d3:Nat) (W:World),aM (w.heap.size+1+1) w3 W->Rd W A3 (a_ p m' n')->Rd W B3 (aY p m' n')->Calls prog 118 #[.int .i64 p,.agg #[.slice A n.length c,.slice B m.length d],.agg #[.slice A3 (a_ p m' n').length c3,.slice B3 (aY p m' n').length d3]] W λe w'=>G8 W (fP p (qQ p ⟨n',m'⟩) ⟨n,m⟩) e w':=λA3 B3 c3 d3 W h r1 r2=>by have:=p_ p A B c d n m A3 B3 c3 d3 (a_ p m' n') (aY p m' n') W (hA.ex (xx.aK h (by omega))) (hB.ex (xx.aK h (by omega))) r1 r2 E1.out E2.out;rw[<-HM.out];exact this
 generalize a_ p m' n'=in1 at*;generalize aY p m' n'=id1 at*;obtain⟨res,hres⟩:=xq (fP p (qQ p ⟨n',m'⟩) ⟨n,m⟩);rw[hres]at HF;have HR:=axj hres;clear hres;obtain⟨q0,q1⟩:=v0.d2;obtain⟨q2,q3⟩:=v1.d2;have HS:∀W,aM (w.heap.size+1+1) w3 W->(aM (w.heap.size+1+1) w3 W/\W.cell? ⟨w.heap.size,0,none⟩=some (.slice A n.length c)/\W.cell? ⟨w.heap.size,1,none⟩=some (.slice B m.length d)/\W.cell? ⟨w.heap.size+1,0,none⟩=some (.slice A' n'.length c')/\W.cell? ⟨w.heap.size+1,1,none⟩=some (.slice B' m'.length d')):=λW h=>⟨h,(v0.aK h (by omega)).c0,(v0.aK h (by omega)).c1,(v1.aK h (by omega)).c0,(v1.aK h (by omega)).c1⟩
 have eA:=(aM.refl (w.heap.size+1+1) w3).drew;clear HM E1 E2 E3;go_region_held3 (λW=>aM (w.heap.size+1+1) w3 W/\W.cell? ⟨w.heap.size,0,none⟩=some (.slice A n.length c)/\W.cell? ⟨w.heap.size,1,none⟩=some (.slice B m.length d)/\W.cell? ⟨w.heap.size+1,0,none⟩=some (.slice A' n'.length c')/\W.cell? ⟨w.heap.size+1,1,none⟩=some (.slice B' m'.length d')) (first
  |(exact HS _ ((e5.setCell rfl _).setCell rfl _))|(exact HS _ e5)|(exact HS _ e4)|(exact HS _ eA)|(exact HS _ (aM.refl _ _))) (first
  |(go_at_call 187
    have hb:=(‹aM (w.heap.size+1+1) w3 _/\_›).1;refine(HI _ hb).mono ?_;rintro e w4 ⟨A4,c4,B4,d4,rfl,f4,g4,ap4,x4⟩;have e4:=hb.trans (aM.aP x4);have z4:=hb.size';clear hb)
  |(go_at_call 118
    refine(HF A4 B4 c4 d4 w4 e4 f4.rd g4.rd).mono ?_;rintro e w5 ⟨A5,c5,B5,d5,rfl,f5,g5,ap5,x5⟩;have e5:=e4.trans (aM.aP x5);have z5:=x4.size;have v5:VB w5 (w.heap.size+1+1) 57 #[.slice none 0 0,.slice none 0 0]:=by first|exact(v2.ex x4).ex x5|exact(VB.ex (w:=w3.drew) v2 x4).ex x5
    obtain⟨r0,r1⟩:=v5.d2;have k0:=v5.frozen 0;have k1:=v5.frozen 1))
 all_goals
  have E6:aM (w.heap.size+1+1) w5 ((w5.setCell ⟨w.heap.size+1+1,0,none⟩ (.slice A5 res.n.length c5)).setCell ⟨w.heap.size+1+1,1,none⟩ (.slice B5 res.d.length d5)):=((aM.refl _ w5).setCell (p:=⟨w.heap.size+1+1,0,none⟩) rfl _).setCell (p:=⟨w.heap.size+1+1,1,none⟩) rfl _;have v6:VB ((w5.setCell ⟨w.heap.size+1+1,0,none⟩ (.slice A5 res.n.length c5)).setCell ⟨w.heap.size+1+1,1,none⟩ (.slice B5 res.d.length d5)) (w.heap.size+1+1) 57 #[.slice A5 res.n.length c5,.slice B5 res.d.length d5]:=(v5.bC 0 _).bC 1 _;obtain⟨D0,D1⟩:=v6.d2;have yy:Ex w _:=(xx.aK e5 (by omega)).aK E6 (by omega);have zx:=xx.size;go_wp2_with fail
  refine axu (v:=.agg #[.slice A5 res.n.length c5,.slice B5 res.d.length d5]) (by simp[results,Tryz.results157,go_sem,D0,D1]) rfl ?_;rw[HR.out];exact⟨A5,c5,B5,d5,rfl,(f5.aK E6 (f5.hi.off (by omega))).more (by omega),(g5.aK E6 (g5.hi.off (by omega))).more (by omega),ap5,yy⟩
theorem Rd.afn{xs:List Int}(h:Rd w A xs)(k:bG S w w')(hd:xs≠[]->∀a,A=some a->¬S a.block):Rd w' A xs:=by
 by_cases hx:xs=[]
 .subst hx;exact Rd.nil _ _
 .exact h.keep λa e hl=>k.block _ hl (hd hx a e)
def RX(w:World)(S:Nat->Prop)(A:Option Addr)(l:List Int):Prop:=Rd w A l/\(l≠[]->∀a,A=some a->¬S a.block)
theorem RX.sx(h:RX w S A l)(k:bG T w w')(hT:∀i,T i->S i):RX w' S A l:=⟨h.1.afn k λhn a e ht=>h.2 hn a e (hT _ ht),h.2⟩
theorem RX.ex(h:RX w S A l)(k:Ex w w'):RX w' S A l:=⟨h.1.ex k,h.2⟩
theorem Fr.rx(h:Fr w B A c l)(hS:∀k,S k->k<B):RX w S A l:=⟨h.rd,λ_ a e hs=>by have:=h.hi a e;have:=hS _ hs;omega⟩
def pG(w:World)(S:Nat->Prop)(b:Nat)(xs:List aG):Prop:=
 ∃cur:Array Value,w.heap[b]?=some (.cells cur 57 (0,0))/\∀(i:Nat) (x:aG),xs[i]?=some x->∃A c B d,cur[i*2]?=some (.slice A x.n.length c)/\cur[i*2+1]?=some (.slice B x.d.length d)/\RX w S A x.n/\RX w S B x.d
theorem pG.lt(h:pG w S b xs):b<w.heap.size:=by obtain⟨_,h,_⟩:=h;exact aF h
theorem pG.at_(h:pG w S b xs)(hi:xs[i]?=some x):
 ∃A c B d,w.cell? ⟨b,i*2,none⟩=some (.slice A x.n.length c)/\w.cell? ⟨b,i*2+1,none⟩=some (.slice B x.d.length d)/\RX w S A x.n/\RX w S B x.d:=by
 obtain⟨cur,hc,hx⟩:=h;obtain⟨A,c,B,d,h1,h2,h3,h4⟩:=hx i x hi;exact⟨A,c,B,d,by simp[World.cell?,hc,h1],by simp[World.cell?,hc,h2],h3,h4⟩
theorem pG.frozen(h:pG w S b xs)(i:Nat):w.frozen? ⟨b,i,none⟩=false:=by obtain⟨cur,hc,_⟩:=h;simp[World.frozen?,hc]
theorem pG.sx(h:pG w S b xs)(k:bG T w w')(hT:∀i,T i->S i)(hb:¬T b):pG w' S b xs:=by have hl:=h.lt;obtain⟨cur,hc,hx⟩:=h;refine⟨cur,(k.block b hl hb).trans hc,λi x hi=>?_⟩;obtain⟨A,c,B,d,h1,h2,h3,h4⟩:=hx i x hi;exact⟨A,c,B,d,h1,h2,h3.sx k hT,h4.sx k hT⟩
theorem pG.ex(h:pG w S b xs)(k:Ex w w'):pG w' S b xs:=h.sx (bG.aP (S:=λ_=>False) k) (λ_ h=>h.elim) id
theorem pG.put(h:pG w S b xs)(hb:S b)(i:Nat)(x:aG){B:Option Addr}(hA:RX w S A x.n)(hB:RX w S B x.d):
 pG ((w.setCell ⟨b,i*2,none⟩ (.slice A x.n.length c)).setCell ⟨b,i*2+1,none⟩ (.slice B x.d.length d)) S b (xs.set i x):=by
 have k:bG (λz=>z=b) w ((w.setCell ⟨b,i*2,none⟩ (.slice A x.n.length c)).setCell ⟨b,i*2+1,none⟩ (.slice B x.d.length d)):=
  bG.aZ (((aM.refl b w).setCell (p:=⟨b,i*2,none⟩) rfl _).setCell (p:=⟨b,i*2+1,none⟩) rfl _) rfl
 have hT:∀z,z=b->S z:=λz e=>e▸hb
 obtain⟨cur,hc,hx⟩:=h;refine⟨(cur.setIfInBounds (i*2) (.slice A x.n.length c)).setIfInBounds (i*2+1) (.slice B x.d.length d),by simp[World.setCell,ayn,hc],λj y hj=>?_⟩;rw[axK]at hj;split at hj
 .rename_i e;subst e;split at hj
  .rename_i hl;injection hj with hj;subst hj;obtain⟨A',c',B',d',h1,h2,_⟩:=hx i _ (axn hl);have l1:i*2<cur.size:=(aye.1 h1).1;have l2:i*2+1<cur.size:=(aye.1 h2).1;refine⟨A,c,B,d,?_,?_,hA.sx k hT,hB.sx k hT⟩
   .rw[ax1,axm (by omega),ax1,axl rfl,axl l1]
   .rw[ax1,axl rfl,axl (by simpa using l2)]
  .cases hj
 .rename_i e;obtain⟨A',c',B',d',h1,h2,h3,h4⟩:=hx j y hj;refine⟨A',c',B',d',?_,?_,h3.sx k hT,h4.sx k hT⟩
  .rw[ax1,axm (by omega),ax1,axm (by omega)];exact h1
  .rw[ax1,axm (by omega),ax1,axm (by omega)];exact h2
def Ow(w:World)(S:Nat->Prop)(R:Nat->Nat->Prop):Prop:=
 ∀(b o:Nat) (a:Addr) (n c:Nat),R b o->w.cell? ⟨b,o,none⟩=some (.slice (some a) n c)->
  (¬S a.block/\n<=c/\∃cur,w.heap[a.block]?=some (.cells cur 3 (0,0)))/\
   ∀(b' o':Nat) (a':Addr) (n' c':Nat),R b' o'->w.cell? ⟨b',o',none⟩=some (.slice (some a') n' c')->a'.block=a.block->b'=b/\o'=o
theorem Ow.sx(h:Ow w S R)(hR:∀b o,R b o->b<w.heap.size)(k:bG T w w')(hTS:∀i,T i->S i)(hTR:∀i o,T i->¬R i o):Ow w' S R:=by
 have hc:∀(b o:Nat),R b o->w'.cell? ⟨b,o,none⟩=w.cell? ⟨b,o,none⟩:=λb o hb=>
  axP (w:=w) (a:=⟨b,o,none⟩) (k.block b (hR b o hb) (λht=>hTR b o ht hb))
 intro b o a n c hb he;rw[hc b o hb]at he;obtain⟨⟨h1,h2,cur,h3⟩,h4⟩:=h b o a n c hb he;refine⟨⟨h1,h2,cur,(k.block _ (aF h3) (λht=>h1 (hTS _ ht))).trans h3⟩,λb' o' a' n' c' hb' he' e=>?_⟩;rw[hc b' o' hb']at he';exact h4 b' o' a' n' c' hb' he' e
theorem Ow.YD{m:List Int}{B:Option Addr}(h:Ow w S R)(hR:∀z o,R z o->z<w.heap.size)(hS:∀z,S z->z<w.heap.size)(he:Ex w w1)
 (hA:Fr w1 w.heap.size A c l) (hB:Fr w1 w.heap.size B d m) (hAB:Apart A B) (hbS:S b) {u v:Value} (c0:w1.cell? ⟨b,i*2,none⟩=some u) (c1:w1.cell? ⟨b,i*2+1,none⟩=some v):
 Ow ((w1.setCell ⟨b,i*2,none⟩ (.slice A l.length c)).setCell ⟨b,i*2+1,none⟩ (.slice B m.length d)) S R:=by
 have h1:Ow w1 S R:=h.sx hR (bG.aP (S:=λ_=>False) he) (λ_ h=>h.elim) (λ_ _ h=>h.elim);have k:bG (λz=>z=b) w1 ((w1.setCell ⟨b,i*2,none⟩ (.slice A l.length c)).setCell ⟨b,i*2+1,none⟩ (.slice B m.length d)):=
  bG.aZ (((aM.refl b w1).setCell (p:=⟨b,i*2,none⟩) rfl _).setCell (p:=⟨b,i*2+1,none⟩) rfl _) rfl
 have old:∀(b' o':Nat) (a:Addr) (n cc:Nat),R b' o'->w1.cell? ⟨b',o',none⟩=some (.slice (some a) n cc)->a.block<w.heap.size:=λb' o' a n cc hb' e=>by rw[axP (w:=w) (a:=⟨b',o',none⟩) (he.block (hR b' o' hb'))]at e;obtain⟨⟨_,_,cur,h3⟩,_⟩:=h b' o' a n cc hb' e;exact aF h3
 obtain⟨w2,hw2⟩:=xq ((w1.setCell ⟨b,i*2,none⟩ (.slice A l.length c)).setCell ⟨b,i*2+1,none⟩ (.slice B m.length d));have at0:w2.cell? ⟨b,i*2,none⟩=some (.slice A l.length c):=by rw[<-hw2,ayV _ _ _ _ (by intro e;injection e;omega),World.cell?_setCell_same _ _ _ c0]
 have at1:w2.cell? ⟨b,i*2+1,none⟩=some (.slice B m.length d):=by
  have c2:(w1.setCell ⟨b,i*2,none⟩ (.slice A l.length c)).cell? ⟨b,i*2+1,none⟩=some v:=by rw[ayV _ _ _ _ (by intro e;injection e;omega)];exact c1
  rw[<-hw2];exact World.cell?_setCell_same _ _ _ c2
 have atn:∀(b' o':Nat),¬(b'=b/\o'=i*2)->¬(b'=b/\o'=i*2+1)->w2.cell? ⟨b',o',none⟩=w1.cell? ⟨b',o',none⟩:=λb' o' n0 n1=>by rw[<-hw2,ayV _ _ _ _ (by intro e;injection e with e1 e2;exact n1 ⟨e1.symm,e2.symm⟩),ayV _ _ _ _ (by intro e;injection e with e1 e2;exact n0 ⟨e1.symm,e2.symm⟩)]
 rw[hw2]at k⊢;have kind:∀(b' o':Nat) (a:Addr) (n cc:Nat),R b' o'->w2.cell? ⟨b',o',none⟩=some (.slice (some a) n cc)->
  ((b'=b/\o'=i*2/\A=some a/\n=l.length/\cc=c)∨(b'=b/\o'=i*2+1/\B=some a/\n=m.length/\cc=d))∨(w1.cell? ⟨b',o',none⟩=some (.slice (some a) n cc)/\a.block<w.heap.size):=λb' o' a n cc hb' e=>by
  by_cases n0:b'=b/\o'=i*2
  .obtain⟨rfl,rfl⟩:=n0;rw[at0]at e;injection e with e;injection e with e1 e2 e3;exact .inl (.inl ⟨rfl,rfl,e1,e2.symm,e3.symm⟩)
  by_cases n1:b'=b/\o'=i*2+1
  .obtain⟨rfl,rfl⟩:=n1;rw[at1]at e;injection e with e;injection e with e1 e2 e3;exact .inl (.inr ⟨rfl,rfl,e1,e2.symm,e3.symm⟩)
  rw[atn b' o' n0 n1]at e;exact .inr ⟨e,old b' o' a n cc hb' e⟩
 have fresh:∀{C:Option Addr} {cc:Nat} {q:List Int} {a:Addr},Fr w1 w.heap.size C cc q->C=some a->¬S a.block/\w.heap.size<=a.block/\q.length<=cc/\∃cur,w2.heap[a.block]?=some (.cells cur 3 (0,0)):=λ{C cc q a} hC e=>by obtain⟨g1,cur,g2⟩:=hC.2.2 a e;refine⟨λhs=>by have:=hS _ hs;omega,g1,hC.cap,cur,(k.block _ (aF g2) (λe2=>?_)).trans g2⟩;have:=hS b hbS;omega
 intro b' o' a n cc hb' e;rcases kind b' o' a n cc hb' e with(⟨rfl,rfl,e1,rfl,rfl⟩|⟨rfl,rfl,e1,rfl,rfl⟩)|⟨e1,hl⟩
 .obtain⟨f1,f2,f3,f4⟩:=fresh hA e1;refine⟨⟨f1,f3,f4⟩,λb2 o2 a2 n2 c2 hb2 e2 ea=>?_⟩;rcases kind b2 o2 a2 n2 c2 hb2 e2 with(⟨rfl,rfl,_⟩|⟨rfl,rfl,q1,_⟩)|⟨_,hl2⟩
  .exact⟨rfl,rfl⟩
  .exact absurd ea.symm (hAB a a2 e1 q1)
  .omega
 .obtain⟨f1,f2,f3,f4⟩:=fresh hB e1;refine⟨⟨f1,f3,f4⟩,λb2 o2 a2 n2 c2 hb2 e2 ea=>?_⟩;rcases kind b2 o2 a2 n2 c2 hb2 e2 with(⟨rfl,rfl,q1,_⟩|⟨rfl,rfl,_⟩)|⟨_,hl2⟩
  .exact absurd ea (hAB a2 a q1 e1)
  .exact⟨rfl,rfl⟩
  .omega
 .obtain⟨⟨f1,f2,cur,f3⟩,f4⟩:=h1 b' o' a n cc hb' e1;refine⟨⟨f1,f2,cur,(k.block _ (aF f3) (λe2=>f1 (e2▸hbS))).trans f3⟩,λb2 o2 a2 n2 c2 hb2 e2 ea=>?_⟩;rcases kind b2 o2 a2 n2 c2 hb2 e2 with(⟨rfl,rfl,q1,_⟩|⟨rfl,rfl,q1,_⟩)|⟨e3,hl2⟩
  .have:=(fresh hA q1).2.1;omega
  .have:=(fresh hB q1).2.1;omega
  .exact f4 b2 o2 a2 n2 c2 hb2 e3 ea
def Aa(S:Nat->Prop)(b:Nat)(w w':World):Prop:=w.heap.size<=w'.heap.size/\(S b->∀(S':Nat->Prop) (R:Nat->Nat->Prop),(∀z,S z->S' z)->(∀z o,R z o->S' z)->(∀z,S' z->z<w.heap.size)->Ow w S' R->Ow w' S' R)
theorem Aa.refl(S:Nat->Prop)(b:Nat)(w:World):Aa S b w w:=⟨axk _,λ_ _ _ _ _ _ h=>h⟩
theorem Aa.trans{v:World}(h:Aa S b u v)(k:Aa S b v w):Aa S b u w:=
 ⟨axA h.1 k.1,λhb S' R h1 h2 h3 h4=>k.2 hb S' R h1 h2 (λz hz=>axD (h3 z hz) h.1) (h.2 hb S' R h1 h2 h3 h4)⟩
theorem Aa.aP{v:World}(h:Ex v w):Aa S b v w:=
 ⟨h.size,λ_ _ _ _ h2 h3 h4=>h4.sx (λz o hz=>h3 z (h2 z o hz)) (bG.aP (S:=λ_=>False) h) (λ_ h=>h.elim) (λ_ _ h=>h.elim)⟩
theorem Aa.YD{m:List Int}{B:Option Addr}(he:Ex w w1)
 (hA:Fr w1 w.heap.size A c l) (hB:Fr w1 w.heap.size B d m) (hAB:Apart A B) (hbS:S b) {u v:Value} (c0:w1.cell? ⟨b,i*2,none⟩=some u) (c1:w1.cell? ⟨b,i*2+1,none⟩=some v):
 Aa S b w ((w1.setCell ⟨b,i*2,none⟩ (.slice A l.length c)).setCell ⟨b,i*2+1,none⟩ (.slice B m.length d)):=
 ⟨by simpa[World.setCell]using he.size,λ_ S' R h1 h2 h3 h4=>h4.YD (λz o hz=>h3 z (h2 z o hz)) h3 he hA hB hAB (h1 b hbS) c0 c1⟩
def Je(p:Int)(k v x:aG):aG:=if jy x=true then v else uV p v (fP p k x)
def tF(p:Int)(vs:List aG)(k:aG)(ws:List aG):List aG:=List.zipWith (Je p k) vs ws
def jk(p:Int)(vs:List aG)(k:aG)(ws:List aG):List aG:=if jy k=true then vs else tF p vs k ws
theorem yQ(R vs:List α)(hl:R.length=vs.length)(i:Nat)(x:α)(hx:R[i]?=some x):(R.take i++vs.drop i).set i x=R.take (i+1)++vs.drop (i+1):=by
 have hi:=(axp.1 hx).1;rw[List.set_append,axm (by rw[axx];omega),axy,hx];have:i-(R.take i).length=0:=by rw[axx];omega
 rw[this,ayg];congr 1;rw[azh (by omega:i<vs.length)];rfl
theorem yR(R vs:List α)(hl:R.length=vs.length)(i:Nat)(x:α)(hx:R[i]?=some x)(hv:vs[i]?=some x):R.take i++vs.drop i=R.take (i+1)++vs.drop (i+1):=by
 have hi:=(axp.1 hx).1;rw[axy,hx,azh (by omega:i<vs.length)];have:vs[i]'(by omega)=x:=by rw[axn (by omega)]at hv;injection hv
 rw[this];simp
theorem EG(R vs:List α)(hl:R.length=vs.length)(i:Nat)(hi:i<vs.length):(R.take i++vs.drop i)[i]?=vs[i]?:=by rw[axN (by rw[axx];omega),axx,axY];congr 1;omega
def NK(q:List Bool):Int:=match q.findIdx? id with|some i=>(i:Int)|none=> -1
theorem VT{q:List Bool}(h:q.all (λx=> !x)=true):NK q= -1:=by
 have:q.findIdx? id=none:=by rw[List.findIdx?_eq_none_iff];intro x hx;simpa using axQ.1 h x hx
 rw[NK,this]
theorem VS{q:List Bool}(hx:q[k]?=some true)(h:(q.take k).all (λx=> !x)=true):NK q=k:=by
 have hk:=(axp.1 hx).1;have:q.findIdx? id=some k:=by rw[List.findIdx?_eq_some_iff_getElem];refine⟨hk,by have:=(axp.1 hx).2;simpa using this,λj hj=>?_⟩;have:=axQ.1 h (q[j]'(by omega)) (azk.2 ⟨j,by rw[axL,axl hj];exact axn _⟩);simpa using this
 rw[NK,this]
theorem VQ(g:FuncId)(eg:∀args w,(callFunc g args).run prog w=.ok (.enter g args) w)(lb:Array Value)(q:List Bool)(A:Option Addr)(c:Nat)(vs:List Value)(w:World)(h:RdV w A vs)(hq:q.length=vs.length)
 (hf:∀(W:World) (i:Nat) (v:Value) (b:Bool),Ex w W->vs[i]?=some v->q[i]?=some b->Calls prog g (#[v]++lb) W λe W'=>e=.returned (.bool b)/\Ex W W'):
 Calls prog 155 #[.slice A vs.length c,.func (.func g) #[] lb] w λe w'=>e=.returned (.int .i64 (NK q))/\Ex w w':=by
 have hl:=h.1;have Hq:=axj hq;clear hq;go_enter Tryz.func155,Tryz.ntmps155
 go_wp2;go_loopw [8] (λi wr=>∃k:Nat,k<=vs.length/\Hid ((q.take k).all (λx=> !x)=true)/\i=.int .i64 k/\Ex w wr) (λi _=>vs.length-(intOf i).toNat)
 case atStart=>exact⟨0,axq _,axj rfl,rfl,aCQ w⟩
 case round=>
  obtain⟨k,hk,fH,rfl,he⟩:=hrel;by_cases hlt:k<vs.length
  .obtain⟨g',off,v,rfl,hx,hg,hc⟩:=(h.ex he).at_ hlt;obtain⟨b,hb⟩:∃b,q[k]?=some b:=⟨_,axn (by rw[Hq.out];exact hlt)⟩;have hcall:=hf wr k v b he hx hb;have Hb:=axj hb;clear hx hf hb;cases b with
   |true=>
    have H:=axj (VS Hb.out fH.out);go_wp2_with fail
    refine hcall.mono ?_;rintro e w' ⟨rfl,hb'⟩;go_wp2;go_ret;exact⟨by rw[H.out];rfl,he.trans hb'⟩
   |false=>
    have H:=axj (show(q.take (k+1)).all (λx=> !x)=true by rw[axy,Hb.out,ayK,fH.out];rfl);go_wp2_with fail
    refine hcall.mono ?_;rintro e w' ⟨rfl,hb'⟩;go_wp2_with fail
    go_roundw;case rel=>exact⟨k+1,by omega,H,by go_num,he.trans hb'⟩
    case measure=>simp[intOf];omega
  .obtain rfl:k=vs.length:=by omega
   have H:=axj (VT (q:=q) (by have:=fH.out;rwa[<-Hq.out,axE]at this));clear hf;go_wp2;go_ret;exact⟨by rw[H.out];rfl,he⟩
def pB(ob:Option Nat):Option Addr:=ob.map λb=>⟨b,0,none⟩
def Xp(w:World)(S:Nat->Prop)(ob:Option Nat)(xs:List aG):Prop:=match ob with
 |none=>xs=[]
 |some b=>pG w S b xs/\S b
theorem Xp.sx(h:Xp w S ob xs)(k:bG T w w')(hT:∀i,T i->S i)(hb:∀b,ob=some b->¬T b):Xp w' S ob xs:=by
 cases ob with
 |none=>exact h
 |some b=>exact⟨h.1.sx k hT (hb b rfl),h.2⟩
structure iW (w:World) (S:Nat->Prop) (G:Nat) (bs:List (Option Nat)) (rows:List (List aG)) (n:Nat):Prop where
 out:∃cur:Array Value,w.heap[G]?=some (.cells cur 54 (0,0))/\∀(j:Nat) (ob:Option Nat),bs[j]?=some ob->∃c,n<=c/\cur[j]?=some (.slice (pB ob) n c)
 len:bs.length=rows.length
 row:∀(j:Nat) (ob:Option Nat) (r:List aG),bs[j]?=some ob->rows[j]?=some r->Xp w S ob r/\r.length=n
 nd:∀(i j:Nat) (b:Nat),bs[i]?=some (some b)->bs[j]?=some (some b)->i=j
 sg:S G
 ng:∀(j:Nat) (b:Nat),bs[j]?=some (some b)->b≠G
theorem iW.lt(h:iW w S G bs rows n):G<w.heap.size:=by obtain⟨_,h,_⟩:=h.out;exact aF h
theorem iW.at_(h:iW w S G bs rows n){j:Nat}(hj:j<rows.length):
 ∃ob r c,bs[j]?=some ob/\rows[j]?=some r/\r.length=n/\Xp w S ob r/\w.cell? ⟨G,j,none⟩=some (.slice (pB ob) n c):=by
 obtain⟨ob,nL⟩:∃ob,bs[j]?=some ob:=⟨_,axn (by rw[h.len];exact hj)⟩;obtain⟨r,hr⟩:∃r,rows[j]?=some r:=⟨_,axn hj⟩;obtain⟨cur,hc,hx⟩:=h.out;obtain⟨c,_,hcc⟩:=hx j ob nL;obtain⟨h1,h2⟩:=h.row j ob r nL hr;exact⟨ob,r,c,nL,hr,h2,h1,by simp[World.cell?,hc,hcc]⟩
theorem iW.aa4(h:iW w S G bs rows n){j:Nat}(hj:j<rows.length):
 ∃ob r c,n<=c/\bs[j]?=some ob/\rows[j]?=some r/\r.length=n/\Xp w S ob r/\w.cell? ⟨G,j,none⟩=some (.slice (pB ob) n c):=by
 obtain⟨ob,nL⟩:∃ob,bs[j]?=some ob:=⟨_,axn (by rw[h.len];exact hj)⟩;obtain⟨r,hr⟩:∃r,rows[j]?=some r:=⟨_,axn hj⟩;obtain⟨cur,hc,hx⟩:=h.out;obtain⟨c,hnc,hcc⟩:=hx j ob nL;obtain⟨h1,h2⟩:=h.row j ob r nL hr;exact⟨ob,r,c,hnc,nL,hr,h2,h1,by simp[World.cell?,hc,hcc]⟩
theorem iW.frozen(h:iW w S G bs rows n)(i:Nat):w.frozen? ⟨G,i,none⟩=false:=by obtain⟨cur,hc,_⟩:=h.out;simp[World.frozen?,hc]
theorem iW.sx(h:iW w S G bs rows n)(k:bG T w w')(hT:∀i,T i->S i)(hG:¬T G)(hb:∀(j:Nat) (b:Nat),bs[j]?=some (some b)->¬T b):iW w' S G bs rows n:=by have hl:=h.lt;obtain⟨cur,hc,hx⟩:=h.out;exact⟨⟨cur,(k.block G hl hG).trans hc,hx⟩,h.len,λj ob r h1 h2=>⟨(h.row j ob r h1 h2).1.sx k hT λb e=>hb j b (by rw[<-e];exact h1),(h.row j ob r h1 h2).2⟩,h.nd,h.sg,h.ng⟩
theorem iW.ex(h:iW w S G bs rows n)(k:Ex w w'):iW w' S G bs rows n:=h.sx (bG.aP (S:=λ_=>False) k) (λ_ h=>h.elim) id (λ_ _ _=>id)
theorem iW.turn(h:iW w S G bs rows n)(hi:bs[i]?=some ob){r':List aG}(hr:Xp w' S ob r')(hl:r'.length=n)(k:bG (λz=>ob=some z) w w'):iW w' S G bs (rows.set i r') n:=by
 have hS:∀z,ob=some z->S z:=λz e=>by subst e;exact hr.2
 have hil:=(axp.1 hi).1;have hg:¬(ob=some G):=λe=>h.ng i G (by rw[hi,e]) rfl
 have hgl:=h.lt;obtain⟨cur,hc,hx⟩:=h.out;refine⟨⟨cur,(k.block G hgl hg).trans hc,hx⟩,by rw[axM];exact h.len,λj Vn r h1 h2=>?_,h.nd,h.sg,h.ng⟩;rw[axK]at h2;by_cases e:i=j
 .subst e;rw[axl rfl,axl (by rw[<-h.len];exact hil)]at h2;injection h2 with h2;subst h2;rw[hi]at h1;injection h1 with h1;subst h1;exact⟨hr,hl⟩
 .rw[axm e]at h2;refine⟨(h.row j Vn r h1 h2).1.sx k hS λb e2 e3=>e ?_,(h.row j Vn r h1 h2).2⟩;subst e2 e3;exact h.nd i j b hi h1
theorem iW.swap(h:iW w S G bs rows n){oi ok:Option Nat}{ri rk:List aG}{ci ck:Nat}(hi:bs[i]?=some oi)(hk:bs[k]?=some ok)(oW:rows[i]?=some ri)(hrk:rows[k]?=some rk)(hci:n<=ci)(hck:n<=ck):
 iW ((w.setCell ⟨G,i,none⟩ (.slice (pB ok) n ck)).setCell ⟨G,k,none⟩ (.slice (pB oi) n ci)) S G ((bs.set i ok).set k oi) ((rows.set i rk).set k ri) n:=by
 have hil:=(axp.1 hi).1;have hkl:=(axp.1 hk).1;have kx:bG (λz=>z=G) w ((w.setCell ⟨G,i,none⟩ (.slice (pB ok) n ck)).setCell ⟨G,k,none⟩ (.slice (pB oi) n ci)):=
  bG.aZ (((aM.refl G w).setCell (p:=⟨G,i,none⟩) rfl _).setCell (p:=⟨G,k,none⟩) rfl _) rfl
 have hT:∀z,z=G->S z:=λz e=>e▸h.sg
 have at2:∀{α:Type} (l:List α) (a b:α) (j:Nat) (x:α),i<l.length->k<l.length->((l.set i a).set k b)[j]?=some x->(j=k/\x=b)∨(j≠k/\j=i/\x=a)∨(j≠k/\j≠i/\l[j]?=some x):=by
  intro α l a b j x h1 h2 h3;rw[axK]at h3;split at h3
  .rename_i e;rw[axl (by rw[axM];omega)]at h3;injection h3 with h3;exact .inl ⟨e.symm,h3.symm⟩
  .rename_i e;rw[axK]at h3;split at h3
   .rename_i e2
    try rw[axl (by omega)]at h3
    injection h3 with h3;exact .inr (.inl ⟨λe3=>e e3.symm,e2.symm,h3.symm⟩)
   .rename_i e2;exact .inr (.inr ⟨λe3=>e e3.symm,λe3=>e2 e3.symm,h3⟩)
 have uI:=(h.row i oi ri hi oW);have CB:=(h.row k ok rk hk hrk);have hgl:=h.lt;have hlen:=h.len;have keep:∀(ob:Option Nat) (r:List aG) (j:Nat),bs[j]?=some ob->Xp w S ob r->Xp ((w.setCell ⟨G,i,none⟩ (.slice (pB ok) n ck)).setCell ⟨G,k,none⟩ (.slice (pB oi) n ci)) S ob r:=λob r j h1 h2=>h2.sx kx hT λb e e2=>h.ng j b (by rw[h1,e]) e2
 obtain⟨cur,hc,hx⟩:=h.out;refine⟨⟨(cur.setIfInBounds i (.slice (pB ok) n ck)).setIfInBounds k (.slice (pB oi) n ci),by simp[World.setCell,ayn,hc],λj ob hj=>?_⟩,by simp[hlen],λj ob r h1 h2=>?_,λa b z h1 h2=>?_,h.sg,λj b hj=>?_⟩
 .obtain⟨_,_,hi1⟩:=hx i oi hi;obtain⟨_,_,hk1⟩:=hx k ok hk;have l1:i<cur.size:=(aye.1 hi1).1;have l2:k<cur.size:=(aye.1 hk1).1;rcases at2 bs ok oi j ob hil hkl hj with⟨e,e2⟩|⟨e,e2,e3⟩|⟨e,e2,e3⟩
  .subst e e2;exact⟨ci,hci,by rw[ax1,axl rfl,axl (by simpa using l2)]⟩
  .subst e2 e3;exact⟨ck,hck,by rw[ax1,axm (λh=>e h.symm),ax1,axl rfl,axl l1]⟩
  .obtain⟨c,hnc,hc'⟩:=hx j ob e3;exact⟨c,hnc,by rw[ax1,axm (λh=>e h.symm),ax1,axm (λh=>e2 h.symm)];exact hc'⟩
 .rcases at2 bs ok oi j ob hil hkl h1 with⟨e,e2⟩|⟨e,e2,e3⟩|⟨e,e2,e3⟩
  .subst e e2;rcases at2 rows rk ri j r (by omega) (by omega) h2 with⟨_,e4⟩|⟨e4,_⟩|⟨e4,_⟩
   .subst e4;exact⟨keep _ _ i hi uI.1,uI.2⟩
   .exact absurd rfl e4
   .exact absurd rfl e4
  .subst e2 e3;rcases at2 rows rk ri j r (by omega) (by omega) h2 with⟨e4,_⟩|⟨_,_,e4⟩|⟨_,e4,_⟩
   .exact absurd e4 e
   .subst e4;exact⟨keep _ _ k hk CB.1,CB.2⟩
   .exact absurd rfl e4
  .rcases at2 rows rk ri j r (by omega) (by omega) h2 with⟨e4,_⟩|⟨_,e4,_⟩|⟨_,_,e4⟩
   .exact absurd e4 e
   .exact absurd e4 e2
   .exact⟨keep _ _ j e3 (h.row j ob r e3 e4).1,(h.row j ob r e3 e4).2⟩
 .rcases at2 bs ok oi a _ hil hkl h1 with⟨e1,q1⟩|⟨e1,f1,q1⟩|⟨e1,f1,q1⟩<;>rcases at2 bs ok oi b _ hil hkl h2 with⟨e2,q2⟩|⟨e2,f2,q2⟩|⟨e2,f2,q2⟩
  .omega
  .rw[<-q1]at hi;rw[<-q2]at hk;have:=h.nd i k z hi hk;omega
  .rw[<-q1]at hi;have:=h.nd i b z hi q2;omega
  .rw[<-q1]at hk;rw[<-q2]at hi;have:=h.nd i k z hi hk;omega
  .omega
  .rw[<-q1]at hk;have:=h.nd k b z hk q2;omega
  .rw[<-q2]at hi;have:=h.nd a i z q1 hi;omega
  .rw[<-q2]at hk;have:=h.nd a k z q1 hk;omega
  .exact h.nd a b z q1 q2
 .rcases at2 bs ok oi j _ hil hkl hj with⟨e1,q1⟩|⟨e1,f1,q1⟩|⟨e1,f1,q1⟩
  .rw[<-q1]at hi;exact h.ng i b hi
  .rw[<-q1]at hk;exact h.ng k b hk
  .exact h.ng j b q1
def jS(p:Int)(L:Nat)(v:List aG):Prop:=∀x∈v,FV p x/\FL L x
def iB(p:Int)(L:Nat)(Z:List (List aG)):Prop:=∀z∈Z,jS p L z
theorem jS.mono(h:jS p L v)(hm:L<=M):jS p M v:=λx hx=>⟨(h x hx).1,(h x hx).2.mono hm⟩
theorem iB.mono(h:iB p L Z)(hm:L<=M):iB p M Z:=λz hz=>(h z hz).mono hm
theorem jS.take(h:jS p L v)(n:Nat):jS p L (v.take n):=λx hx=>h x (ayS hx)
theorem jS.drop(h:jS p L v)(n:Nat):jS p L (v.drop n):=λx hx=>h x (ayM hx)
theorem wF(hx:FV p x)(hy:FV p y)(hz:y.n=[]):uV p x y=x:=by have:=(aj p hx.f).dP ⟨x,hx⟩;have hy0:y=zF:=uR hy (FV.zero hx.f) (by rw[hz,gG];exact(gG p _).symm);rw[hy0];exact congrArg Subtype.val this
theorem Iz(hx:FV p x)(hy:FV p y)(hz:y.n=[]):(fP p x y).n=[]:=by have:=(aj p hx.f).aS ⟨x,hx⟩;have hy0:y=zF:=uR hy (FV.zero hx.f) (by rw[hz,gG];exact(gG p _).symm);rw[hy0];exact congrArg (λq=>q.1.n) this
theorem Nc(hx:FV p x):(bY p x).n=[]↔x.n=[]:=by
 constructor
 .intro h;apply ayv;intro h2;exact ach hx.pos hx.n h2 h
 .intro h;show kG p x.n=[];rw[h];rfl
theorem WU{k v:aG}(hk:FV p k)(hv:FV p v)(hx:FV p x):Je p k v x=uV p v (fP p k x):=by
 unfold Je;split
 .rename_i h;exact(wF hv (hk.mul hx) (Iz hk hx (dR.1 h))).symm
 .rfl
theorem xO{k:aG}(hk:FV p k):∀{vs ws:List aG},(∀x∈vs,FV p x)->(∀x∈ws,FV p x)->jk p vs (bY p k) ws=if jy k=true then vs else(au p).less vs k ws:=by
 intro vs ws hv hw;unfold jk;have hi:jy (bY p k)=jy k:=by rw[ayB,dR,dR,Nc hk]
 rw[hi];split
 .rfl
 .unfold tF Ops.less;clear hi
  induction vs generalizing ws with
  |nil=>rfl
  |cons v vs ih=>
   cases ws with
   |nil=>rfl
   |cons x ws=>rw[List.zipWith_cons_cons,List.zipWith_cons_cons,WU hk.neg (hv v (by simp)) (hw x (by simp)),ih (λy hy=>hv y (by simp[hy])) (λy hy=>hw y (by simp[hy]))];rfl
theorem Vz{K:Type}(O:Ops K)(v:List K)(k:K)(w:List K)(n:Nat):(O.less v k w).take n=O.less (v.take n) k (w.take n):=by unfold Ops.less;rw[List.take_zipWith]
theorem VD{K:Type}(O:Ops K)(v:List K)(k:K)(w:List K)(n:Nat):(O.less v k w).drop n=O.less (v.drop n) k (w.drop n):=by unfold Ops.less;rw[List.drop_zipWith]
theorem Ec{K:Type}(O:Ops K):∀(m c r:Nat) (rows:List (List K)),rows.length<=r->O.red m c r rows=(rows,r)
 |0,_,_,_,_=>rfl
 |m+1,c,r,rows,h=>by rw[Ops.red,axm (by unfold Ops.uP;omega),Ec O m (c+1) r rows h]
theorem adp(rows:List (List aG))(r c:Nat)(q:List Bool)(hq:q=(rows.drop r).map λrow=> !jy ((au p).el row c))(hr:r<=rows.length):
 (NK q= -1/\¬(au p).uP rows r c<rows.length)∨∃k:Nat,NK q=k/\(au p).uP rows r c=r+k/\r+k<rows.length:=by
 have hf:(au p).uP rows r c=r+q.findIdx id:=by unfold Ops.uP;rw[hq,List.findIdx_map];rfl
 have hql:q.length=rows.length-r:=by rw[hq,axs,axF]
 rw[hf];unfold NK;cases h:q.findIdx? id with
 |none=>refine .inl ⟨rfl,?_⟩;have:=List.findIdx?_eq_none_iff_findIdx_eq.1 h;omega
 |some k=>refine .inr ⟨k,rfl,?_⟩;obtain⟨h1,h2⟩:=List.findIdx?_eq_some_iff_findIdx_eq.1 h;omega
theorem jS.oJ(h:jS p L v)(hc:c<v.length)(hz:jy ((au p).el v c)=false):jS p (L+L) ((au p).oJ v c):=λx hx=>by
 obtain⟨y,hy,rfl⟩:=axr.1 hx;have he:(au p).el v c=v[c]:=(au p).dD (axn hc);rw[he]at hz⊢;obtain⟨h1,h2⟩:=h v[c] (ax6 hc);have h0:v[c].n≠[]:=λe=>by rw[dR.2 e]at hz;cases hz
 obtain⟨h3,h4⟩:=h y hy;exact⟨(h1.inv h0).mul h3,(h2.inv h1 h0).mul (h1.inv h0) h3 h4⟩
theorem jS.less{w:List aG}(h:jS p L v)(k:jS p M w)(hx:FV p x)(hl:FL L x):jS p (L+(L+M)) ((au p).less v x w):=λy hy=>by unfold Ops.less at hy;obtain⟨i,hi⟩:=axz hy;rw[List.getElem?_zipWith_eq_some]at hi;obtain⟨a,b,ha,hb,rfl⟩:=hi;obtain⟨h1,h2⟩:=h a (axo ha);obtain⟨h3,h4⟩:=k b (axo hb);exact⟨h1.add (hx.neg.mul h3),h2.add h1 (hx.neg.mul h3) (hl.neg.mul hx.neg h3 h4)⟩
theorem Uj(h:jS p L v)(hc:c<v.length):FV p ((au p).el v c)/\FL L ((au p).el v c):=by rw[(au p).dD (axn hc)];exact h _ (ax6 hc)
theorem iB.piv(h:iB p L Z)(hw:aQ N Z)(hr:r<Z.length)(hk:k<Z.length)(hc:c<N)(hz:jy ((au p).el (Z.getD k []) c)=false):iB p (4*L) ((au p).piv Z r c k):=λz hz'=>by
 obtain⟨i,hi⟩:=axz hz';have hil:i<Z.length:=by have:=(axp.1 hi).1;rwa[eH]at this
 rw[pU (au p) hr hk c i hil]at hi;injection hi with hi;have hat:∀j,j<Z.length->jS p L (Z.getD j []):=λj hj=>by rw[axt,axn hj];exact h _ (ax6 hj)
 have hsl:=Ao hil hr hk;have hlead:=(hat k hk).oJ (p:=p) (c:=c) (by rw[hw.at_ hk];exact hc) hz;rw[<-hi];generalize(if i=k then r else if i=r then k else i)=s at hsl;unfold Ops.Gt;split
 .have h4:L+L<=4*L:=by omega
  exact hlead.mono h4
 .split
  .have h4:L<=4*L:=by omega
   exact(hat _ hsl).mono h4
  .obtain⟨e1,e2⟩:=Uj (hat _ hsl) (c:=c) (by rw[hw.at_ hsl];exact hc);have h4:L+(L+(L+L))<=4*L:=by omega
   exact((hat _ hsl).less hlead e1 e2).mono h4
theorem iW.vals(h:iW w S G bs rows n)(hl:rows.length<=1099511627776):
 ∃vs:List Value,vs.length=rows.length/\(∀(j:Nat) (ob:Option Nat),bs[j]?=some ob->∃c,vs[j]?=some (.slice (pB ob) n c))/\∀r,RdV w (some ⟨G,r,none⟩) (vs.drop r):=by
 obtain⟨cur,hc,hx⟩:=h.out;have hsz:rows.length<=cur.size:=by apply ayv;intro hn;obtain⟨ob,nL⟩:∃ob,bs[cur.size]?=some ob:=⟨_,axn (by rw[h.len];omega)⟩;obtain⟨c,_,hcc⟩:=hx _ ob nL;have:=(aye.1 hcc).1;omega
 refine⟨cur.toList.take rows.length,by simp;omega,λj ob hj=>?_,λr=>⟨by simp;omega,λj v hj=>⟨G,r,rfl,?_⟩⟩⟩
 .obtain⟨c,_,hcc⟩:=hx j ob hj;have hjl:=(axp.1 hj).1;rw[h.len]at hjl;exact⟨c,by rw[axL,axl hjl];simpa using hcc⟩
 .rw[axY,axL]at hj;split at hj
  .simp[World.cell?,hc];simpa using hj
  .cases hj
structure bV (w:World) (S K:Nat->Prop) (G G':Nat) (bs bs':List (Option Nat)) (Z:List (List aG)) (n m:Nat):Prop where
 r:iW w S G bs (Z.map (List.take n)) n
 a:iW w S G' bs' (Z.map (List.drop n)) m
 ne:G≠G'
 d:∀(i j b:Nat),bs[i]?=some (some b)->bs'[j]?=some (some b)->False
 d1:∀(j b:Nat),bs[j]?=some (some b)->b≠G'
 d2:∀(j b:Nat),bs'[j]?=some (some b)->b≠G
 sl:∀z,S z->z<w.heap.size
 kl:∀z,K z->z<w.heap.size
 own:∃R:Nat->Nat->Prop,Ow w (λz=>S z∨K z) R/\(∀z o,R z o->S z)/\(∀o,¬R G o)/\(∀o,¬R G' o)/\(∀(j b:Nat),bs[j]?=some (some b)->S b/\∀o,o<2*n->R b o)/\(∀(j b:Nat),bs'[j]?=some (some b)->S b/\∀o,o<2*m->R b o)
theorem bV.ex(h:bV w S K G G' bs bs' Z n m)(k:Ex w w'):bV w' S K G G' bs bs' Z n m:=⟨h.r.ex k,h.a.ex k,h.ne,h.d,h.d1,h.d2,λz hz=>axD (h.sl z hz) k.size,λz hz=>axD (h.kl z hz) k.size,by
 obtain⟨R,hO,h1,h2⟩:=h.own;exact⟨R,hO.sx (λz o hz=>h.sl z (h1 z o hz)) (bG.aP (S:=λ_=>False) k) (λ_ h=>h.elim) (λ_ _ h=>h.elim),h1,h2⟩⟩
theorem bV.ad5(h:bV w S K G G' bs bs' Z n m)(hz:Z[i]?=some z)(hi:bs[i]?=some ob){r':List aG}(hr:Xp w' S ob r')(hl:r'.length=n)(k:bG (λq=>ob=some q) w w')(ko:∀q,ob=some q->Aa S q w w'):
 bV w' S K G G' bs bs' (Z.set i (r'++z.drop n)) n m:=by
 have hS:∀q,ob=some q->S q:=λq e=>by subst e;exact hr.2
 have e1:(Z.set i (r'++z.drop n)).map (List.take n)=(Z.map (List.take n)).set i r':=by rw[ayy,azr hl]
 have e2:(Z.set i (r'++z.drop n)).map (List.drop n)=Z.map (List.drop n):=by
  rw[ayy,azs hl];refine ax_ λj=>?_
  rw[axK];split
  .rename_i e;subst e;rw[axw,hz,axl (by rw[axs];exact(axp.1 hz).1)];rfl
  .rfl
 have q1:iW w' S G' bs' (Z.map (List.drop n)) m:=h.a.sx k hS (λe=>h.d1 i G' (by rw[hi,e]) rfl) (λj b hb e=>h.d i j b (by rw[hi,e]) hb);exact⟨by rw[e1];exact h.r.turn hi hr hl k,by rw[e2];exact q1,h.ne,h.d,h.d1,h.d2,λz hz=>axD (h.sl z hz) k.size,λz hz=>axD (h.kl z hz) k.size,by
  obtain⟨R,hO,h1,h2,h3,h4,h5⟩:=h.own;refine⟨R,?_,h1,h2,h3,h4,h5⟩;cases ob with
  |none=>exact hO.sx (λz o hz=>h.sl z (h1 z o hz)) k (λi e=>by cases e) (λi o e=>by cases e)
  |some q=>exact(ko q rfl).2 (hS q rfl) _ R (λz hz=> .inl hz) (λz o hz=> .inl (h1 z o hz)) (λz hz=>hz.elim (h.sl z) (h.kl z)) hO⟩
theorem bV.ad6(h:bV w S K G G' bs bs' Z n m)(hz:Z[i]?=some z)(hzl:n<=z.length)(hi:bs'[i]?=some ob){a':List aG}(hr:Xp w' S ob a')(hl:a'.length=m)(k:bG (λq=>ob=some q) w w')(ko:∀q,ob=some q->Aa S q w w'):
 bV w' S K G G' bs bs' (Z.set i (z.take n++a')) n m:=by
 have hS:∀q,ob=some q->S q:=λq e=>by subst e;exact hr.2
 have htl:(z.take n).length=n:=by rw[axx];omega
 have e1:(Z.set i (z.take n++a')).map (List.drop n)=(Z.map (List.drop n)).set i a':=by rw[ayy,azs htl]
 have e2:(Z.set i (z.take n++a')).map (List.take n)=Z.map (List.take n):=by
  rw[ayy,azr htl];refine ax_ λj=>?_
  rw[axK];split
  .rename_i e;subst e;rw[axw,hz,axl (by rw[axs];exact(axp.1 hz).1)];rfl
  .rfl
 have q1:iW w' S G bs (Z.map (List.take n)) n:=h.r.sx k hS (λe=>h.d2 i G (by rw[hi,e]) rfl) (λj b hb e=>h.d j i b hb (by rw[hi,e]));exact⟨by rw[e2];exact q1,by rw[e1];exact h.a.turn hi hr hl k,h.ne,h.d,h.d1,h.d2,λz hz=>axD (h.sl z hz) k.size,λz hz=>axD (h.kl z hz) k.size,by
  obtain⟨R,hO,h1,h2,h3,h4,h5⟩:=h.own;refine⟨R,?_,h1,h2,h3,h4,h5⟩;cases ob with
  |none=>exact hO.sx (λz o hz=>h.sl z (h1 z o hz)) k (λi e=>by cases e) (λi o e=>by cases e)
  |some q=>exact(ko q rfl).2 (hS q rfl) _ R (λz hz=> .inl hz) (λz o hz=> .inl (h1 z o hz)) (λz hz=>hz.elim (h.sl z) (h.kl z)) hO⟩
theorem bV.swap{w2:World}(h:bV w S K G G' bs bs' Z n m){oi ok ai ak:Option Nat}{zi zk:List aG}(hi:bs[i]?=some oi)(hk:bs[k]?=some ok)(hai:bs'[i]?=some ai)(hak:bs'[k]?=some ak)(hzi:Z[i]?=some zi)(VU:Z[k]?=some zk){ci ck di dk:Nat}(hcap:(n<=ci/\n<=ck)/\m<=di/\m<=dk)
 (e1:w1=((w.setCell ⟨G,i,none⟩ (.slice (pB ok) n ck)).setCell ⟨G,k,none⟩ (.slice (pB oi) n ci)).drew) (e2:w2=((w1.setCell ⟨G',i,none⟩ (.slice (pB ak) m dk)).setCell ⟨G',k,none⟩ (.slice (pB ai) m di)).drew):
 bV w2 S K G G' ((bs.set i ok).set k oi) ((bs'.set i ak).set k ai) (lq Z i k) n m/\bG S w w2:=by
 have hil:=(axp.1 hi).1;have hkl:=(axp.1 hk).1;have hs:lq Z i k=(Z.set i zk).set k zi:=by unfold lq;rw[axt,axt,hzi,VU];rfl
 have k1:bG (λz=>z=G) w w1:=by rw[e1];exact bG.aZ ((((aM.refl G w).setCell (p:=⟨G,i,none⟩) rfl _).setCell (p:=⟨G,k,none⟩) rfl _).drew) rfl
 have k2:bG (λz=>z=G') w1 w2:=by rw[e2];exact bG.aZ ((((aM.refl G' w1).setCell (p:=⟨G',i,none⟩) rfl _).setCell (p:=⟨G',k,none⟩) rfl _).drew) rfl
 have t1:∀z,z=G->S z:=λz e=>e▸h.r.sg
 have t2:∀z,z=G'->S z:=λz e=>e▸h.a.sg
 have hr1:iW w1 S G ((bs.set i ok).set k oi) ((Z.set i zk).set k zi |>.map (List.take n)) n:=by rw[ayy,ayy,e1];exact(h.r.swap hi hk (by rw[axw,hzi];rfl) (by rw[axw,VU];rfl) hcap.1.1 hcap.1.2).ex (aCQ _).drew
 have ha1:iW w1 S G' bs' (Z.map (List.drop n)) m:=h.a.sx k1 t1 (λe=>h.ne e.symm) (λj b hb e=>h.d2 j b hb e);have sub:∀(l:List (Option Nat)) (a b:Option Nat) (j:Nat) (x:Option Nat),l[i]?=some b->l[k]?=some a->((l.set i a).set k b)[j]?=some x->∃j':Nat,l[j']?=some x:=by
  intro l a b j x h1 h2 h3;rw[axK]at h3;split at h3
  .split at h3
   .injection h3 with h3;exact⟨i,by rw[<-h3];exact h1⟩
   .cases h3
  .rw[axK]at h3;split at h3
   .split at h3
    .injection h3 with h3;exact⟨k,by rw[<-h3];exact h2⟩
    .cases h3
   .exact⟨j,h3⟩
 have dd1:∀(j b:Nat),((bs.set i ok).set k oi)[j]?=some (some b)->b≠G':=λj b hb=>by obtain⟨j',hj'⟩:=sub bs ok oi j _ hi hk hb;exact h.d1 j' b hj'
 rw[hs];refine⟨⟨hr1.sx k2 t2 h.ne (λj b hb e=>dd1 j b hb e),?_,h.ne,λa b z h1 h2=>?_,dd1,λj b hb=>?_,λz hz=>axD (h.sl z hz) (axA k1.size k2.size),λz hz=>axD (h.kl z hz) (axA k1.size k2.size),?_⟩,(k1.widen (λz _ e=>t1 z e)).trans (k2.widen (λz _ e=>t2 z e)) (λ_ _ h=>h)⟩
 .rw[ayy,ayy,e2];exact(ha1.swap hai hak (by rw[axw,hzi];rfl) (by rw[axw,VU];rfl) hcap.2.1 hcap.2.2).ex (aCQ _).drew
 .obtain⟨j1,q1⟩:=sub bs ok oi a _ hi hk h1;obtain⟨j2,q2⟩:=sub bs' ak ai b _ hai hak h2;exact h.d j1 j2 z q1 q2
 .obtain⟨j',hj'⟩:=sub bs' ak ai j _ hai hak hb;exact h.d2 j' b hj'
 .obtain⟨R,hO,r1,r2,r3,r4,r5⟩:=h.own;have hs:=λz o hz=>h.sl z (r1 z o hz)
  have hO1:=hO.sx hs k1 (λz e=> .inl (t1 z e)) (λi o e hr=>r2 o (e▸hr));exact⟨R,hO1.sx (λz o hz=>axD (hs z o hz) k1.size) k2 (λz e=> .inl (t2 z e)) (λi o e hr=>r3 o (e▸hr)),r1,r2,r3,λj b hb=>by
   obtain⟨j',hj'⟩:=sub bs ok oi j _ hi hk hb;exact r4 j' b hj',λj b hb=>by
   obtain⟨j',hj'⟩:=sub bs' ak ai j _ hai hak hb;exact r5 j' b hj'⟩
theorem U9(p:Int)(S:Nat->Prop)(ob:Option Nat)(v:List aG)(c cap q:Nat)(w:World)(h:Xp w S ob v)(hc:c<v.length)(hq:w.cell? ⟨q,0,none⟩=some (.int .i64 c))(_:v.length<=1000)(b:Bool)(hb:b= !jy ((au p).el v c)):
 Calls prog 156 #[.slice (pB ob) v.length cap,.pointer (some ⟨q,0,none⟩)] w λe w'=>e=.returned (.bool b)/\Ex w w':=by
 cases ob with
 |none=>have:v=[]:=h;rw[this]at hc;simp at hc
 |some g=>
  obtain⟨hF,_⟩:=h;obtain⟨x,hx⟩:∃x,v[c]?=some x:=⟨_,axn hc⟩;obtain⟨A,ca,B,cb,e0,e1,hA,_⟩:=hF.at_ hx;have hel:(au p).el v c=x:=(au p).dD hx;have hno:=λW=>og A B ca cb x.n x.d W hA.1.len
  have HB:=axj (show b= !decide (x.n=[]) by
   rw[hb,hel];congr 1;rw[ayB,dR];simp)
  have hpb:pB (some g)=some ⟨g,0,none⟩:=rfl;rw[hpb];clear hx hel hb hpb;go_enter Tryz.func156,Tryz.ntmps156
  go_wp2_with fail
  refine(hno w).mono ?_;rintro e w1 ⟨rfl,x1⟩;go_wp2;go_ret;exact⟨aI (by rw[HB.out]),x1⟩
theorem Ua:(prog.info? 54).map (λi=>(i.zero,i.size,i.bytes))=some (some (.slice none 0 0),1,24):=by kernel_rfl
theorem afY(A B:Option Addr)(n c m d:Nat)(w:World):(Instr.index 168 (.agg #[.slice A n c,.slice B m d]) (.int .i64 0)).run prog w=.ok (.slice A n c) w:=by
 have hu:prog.underlying 168=some (.array 2 54):=by kernel_rfl
 obtain⟨i,hi,hz,hs,hb⟩:=axW Ua;simp[Instr.index,ayj hu,asIntOf,sizeOf,typeInfo,hi,hs,part]
theorem ZA(A B:Option Addr)(n c m d:Nat)(w:World):(Instr.index 168 (.agg #[.slice A n c,.slice B m d]) (.int .i64 1)).run prog w=.ok (.slice B m d) w:=by
 have hu:prog.underlying 168=some (.array 2 54):=by kernel_rfl
 obtain⟨i,hi,hz,hs,hb⟩:=axW Ua;simp[Instr.index,ayj hu,asIntOf,sizeOf,typeInfo,hi,hs,part]
theorem pG.JC(h:pG w S b xs)(hl:xs.length<=1099511627776):bW EF w (some ⟨b,0,none⟩) xs:=by
 refine⟨hl,λj x hj=>?_⟩;obtain⟨A,c,B,d,h0,h1,h2,h3⟩:=h.at_ hj;refine⟨b,0,[.slice A x.n.length c,.slice B x.d.length d],rfl,λi u hi=>?_,_,_,rfl,⟨A,c,rfl,h2.1⟩,⟨B,d,rfl,h3.1⟩⟩;rw[show EF.k=2 from rfl,axT]
 match i,hi with
 |0,hi=>simp at hi;rw[<-hi];exact h0
 |1,hi=>simp at hi;rw[<-hi];exact h1
theorem nS(p:Int)(S:Nat->Prop)(b:Nat)(Aw:Option Addr)(vs ws:List aG)(k:aG)(A B:Option Addr)(c d c1 c2:Nat)(w:World)(hS:∀z,S z->z<w.heap.size)(hb:S b)(hv:pG w S b vs)(hw:∀W,bG (λz=>z=b) w W->bW EF W Aw ws)(hl:vs.length=ws.length)(hA:RX w (λz=>z=b) A k.n)(hB:RX w (λz=>z=b) B k.d)
 (hvv:∀x∈vs,FV p x/\FL 137438953472 x) (hww:∀x∈ws,FV p x/\FL 68719476736 x) (hk:FV p k) (hkl:FL 68719476736 k) (hn:ws.length<=1000):
 Calls prog 84 #[.int .i64 p,.slice (some ⟨b,0,none⟩) vs.length c1,.agg #[.slice A k.n.length c,.slice B k.d.length d],.slice Aw ws.length c2] w λe w'=>e=.returned (.tuple #[])/\pG w' S b (jk p vs k ws)/\bG (λz=>z=b) w w'/\Aa S b w w':=by
 have Hvv:=axj hvv;have Hww:=axj hww;have HK:=axj hk;have HKL:=axj hkl;have Hl:=axj hl;have agk:=hA.1.len;obtain⟨x0,v0⟩:=VB.xn w 57 #[.slice A k.n.length c,.slice B k.d.length d];have s0:(w.alloc (.cells #[.slice A k.n.length c,.slice B k.d.length d] 57)).heap.size=w.heap.size+1:=by simp
 have HB:∀z,S z->z<w.heap.size:=hS;have hbl:=hS b hb;clear hvv hww hk hkl hl;go_enter Tryz.func84,Tryz.ntmps84
 go_wp2_with fail
 generalize w.alloc (.cells #[.slice A k.n.length c,.slice B k.d.length d] 57)=W0 at*;refine(og A B c d k.n k.d W0 agk).mono ?_;rintro e w1 ⟨rfl,x1⟩;have v0:=v0.ex x1;have xx:=x0.trans x1;have z1:=x1.size;by_cases hz:k.n=[]
 .rw[decide_eq_true hz];have HT:=axj (show jk p vs k ws=vs from axl (dR.2 hz));clear hz;go_wp2_with fail
  first|rw[ayo]|skip
  refine axu (results_none rfl _ _ _) rfl ?_;rw[HT.out];exact⟨rfl,hv.ex xx,bG.aP xx,Aa.aP xx⟩
 .rw[decide_eq_false hz];have HT:=axj (show jk p vs k ws=tF p vs k ws from axm (λh=>hz (dR.1 h)));have hRl:(tF p vs k ws).length=vs.length:=by rw[tF,List.length_zipWith,<-Hl.out];omega
  have aj3:∀(i:Nat) (v x:aG),vs[i]?=some v->ws[i]?=some x->(tF p vs k ws)[i]?=some (Je p k v x):=λi v x h1 h2=>by rw[tF,azl,h1,h2]
  have HRl:=axj hRl;have apy:=axj aj3;clear hz hRl aj3;generalize tF p vs k ws=R at*;go_wp2_with fail
  go_loopw [14] (λi wi=>∃j:Nat,j<=ws.length/\i=.int .i64 j/\pG wi S b (R.take j++vs.drop j)/\VB wi w.heap.size 57 #[.slice A k.n.length c,.slice B k.d.length d]/\bG (λz=>z=b) w wi/\Aa S b w wi) (λi _=>ws.length-(intOf i).toNat)
  case atStart=>exact⟨0,axq _,rfl,by simpa using hv.ex xx,v0,bG.aP xx,Aa.aP xx⟩
  case round=>
   clear v0 x1 x0 xx z1;obtain⟨j,hj,rfl,hF,hD,he,hok⟩:=hrel;have hez:=he.size;have hbx:¬(w.heap.size=b):=by omega
   by_cases hlt:j<ws.length
   .obtain⟨gx,ox,x,Ax,cx,Bx,dx,rfl,hx,e0,e1,hAx,hBx⟩:=(hw wr he).iy hlt;obtain⟨v,hv'⟩:∃v,vs[j]?=some v:=⟨_,axn (by rw[Hl.out];exact hlt)⟩;have hat:=EG R vs HRl.out j (by rw[Hl.out];exact hlt);rw[hv']at hat;obtain⟨Av,cv,Bv,dv,g0,g1,hAv,hBv⟩:=hF.at_ hat;have hxm:=Hww.out x (axo hx);have hvm:=Hvv.out v (axo hv');have hR:=apy.out j v x hv' hx;have HX:=axj hxm;have HV:=axj hvm;have HR:=axj hR;have HV':=axj hv';have anf:=hAx.len;obtain⟨y7,v7⟩:=VB.xn wr 57 #[.slice Ax x.n.length cx,.slice Bx x.d.length dx];have s7:(wr.alloc (.cells #[.slice Ax x.n.length cx,.slice Bx x.d.length dx] 57)).heap.size=wr.heap.size+1:=by simp
    clear hx hv' hat hxm hvm hR;go_wp2_with fail
    generalize wr.alloc (.cells #[.slice Ax x.n.length cx,.slice Bx x.d.length dx] 57)=W7 at*;refine(og Ax Bx cx dx x.n x.d W7 anf).mono ?_;rintro e w8 ⟨rfl,x8⟩;have v8:=v7.ex x8;have y8:=y7.trans x8;have z8:=x8.size;have Xj:=hF.ex y8;have hD8:=hD.ex y8;have he8:=he.trans (bG.aP (S:=λz=>z=b) y8) (λ_ _ h=>h);have ajd:=hok.trans (Aa.aP y8);clear v7 hF hD he;by_cases hxz:x.n=[]
    .rw[decide_eq_true hxz];have HR1:=axj (show R.take j++vs.drop j=R.take (j+1)++vs.drop (j+1)from yR R vs HRl.out j v (by rw[HR.out,Je,axl (dR.2 hxz)]) HV'.out);clear hxz;go_wp2_with fail
     go_roundw;case rel=>exact⟨j+1,by omega,by go_num,by rw[<-HR1.out];exact Xj,hD8,he8,ajd⟩
     case measure=>simp[intOf];omega
    .rw[decide_eq_false hxz];have HR1:=axj (show(R.take j++vs.drop j).set j (uV p v (fP p k x))=R.take (j+1)++vs.drop (j+1)from yQ R vs HRl.out j _ (by rw[HR.out,Je,axm (λh=>hxz (dR.1 h))]));clear hxz;have hM:=HK.out.mul HX.out.1;have Rw:=HKL.out.mul HK.out HX.out.1 HX.out.2;have HMul:∀W,Ex w8 W->Calls prog 118 #[.int .i64 p,.agg #[.slice A k.n.length c,.slice B k.d.length d],.agg #[.slice Ax x.n.length cx,.slice Bx x.d.length dx]] W λe w'=>G8 W (fP p k x) e w':=λW h=>
      p_ p A B c d k.n k.d Ax Bx cx dx x.n x.d W ((hA.sx he8 (λz e=>e)).1.ex h) ((hB.sx he8 (λz e=>e)).1.ex h) ((hAx.ex y8).ex h) ((hBx.ex y8).ex h) (HK.out.Tq (by have:=HKL.out.1;omega) (by have:=HKL.out.2;omega)) (HX.out.1.Tq (by have:=HX.out.2.1;omega) (by have:=HX.out.2.2;omega))
     have HAdd:∀(A3 B3:Option Addr) (c3 d3:Nat) (W:World),Ex w8 W->Rd W A3 (fP p k x).n->Rd W B3 (fP p k x).d->Calls prog 117 #[.int .i64 p,.agg #[.slice Av v.n.length cv,.slice Bv v.d.length dv],.agg #[.slice A3 (fP p k x).n.length c3,.slice B3 (fP p k x).d.length d3]] W λe w'=>G8 W (uV p v (fP p k x)) e w':=λA3 B3 c3 d3 W h r1 r2=>
      GU p Av Bv cv dv v.n v.d A3 B3 c3 d3 (fP p k x).n (fP p k x).d W ((hAv.ex y8).1.ex h) ((hBv.ex y8).1.ex h) r1 r2 (HV.out.1.Tq (by have:=HV.out.2.1;omega) (by have:=HV.out.2.2;omega)) (hM.Tq (by have:=Rw.1;omega) (by have:=Rw.2;omega))
     have HM:=axj hM;clear hM Rw;generalize fP p k x=M at*;obtain⟨N,hN⟩:=xq (uV p v M);rw[hN]at HAdd HR1;clear hN;obtain⟨k0,k1⟩:=hD8.d2;obtain⟨k2,k3⟩:=v8.d2;have g0:=af y8 g0;have g1:=af y8 g1;have hjv:j<vs.length:=by have:=Hl.out;omega
     go_wp2_with fail
     go_region_law (first
      |(go_simp
        go_at_call 118
        refine(HMul _ (aCQ w8).drew).mono ?_;rintro e w9 ⟨A9,c9,B9,d9,rfl,f9,p9,ap9,x9⟩;replace x9:=((aCQ w8).drew).trans x9;have l0:=af x9 g0;have l1:=af x9 g1)
      |(go_simp
        go_at_call 117
        refine(HAdd A9 B9 c9 d9 w9 x9 f9.rd p9.rd).mono ?_;rintro e KX ⟨A10,c10,B10,d10,rfl,f10,p10,aoZ,x10⟩;have agH:=(Xj.ex x9).ex x10;have m0:=af x10 l0;have m1:=af x10 l1;have n0:=agH.frozen (j*2);have n1:=agH.frozen (j*2+1)))
     all_goals
      have z9:=x9.size;have z10:=x10.size;have aj1:∀z,S z->z<w9.heap.size:=λz hz=>by have:=HB z hz;omega
      have hP:=agH.put hb j N (c:=c10) (d:=d10) (f10.rx aj1) (p10.rx aj1);have E11:bG (λz=>z=b) KX ((KX.setCell ⟨b,j*2,none⟩ (.slice A10 N.n.length c10)).setCell ⟨b,j*2+1,none⟩ (.slice B10 N.d.length d10)):=bG.aZ (((aM.refl b KX).setCell (p:=⟨b,j*2,none⟩) rfl _).setCell (p:=⟨b,j*2+1,none⟩) rfl _) rfl;have D11:=((hD8.ex x9).ex x10).aK (((aM.refl b KX).setCell (p:=⟨b,j*2,none⟩) rfl (.slice A10 N.n.length c10)).setCell (p:=⟨b,j*2+1,none⟩) rfl (.slice B10 N.d.length d10)) hbx;have ac3:=(he8.trans (bG.aP (S:=λz=>z=b) (x9.trans x10)) (λ_ _ h=>h)).trans E11 (λ_ _ h=>h);have ajf:=(ajd.trans (Aa.aP x9)).trans (Aa.YD (S:=S) (b:=b) (i:=j) x10 f10 p10 aoZ hb m0 m1);rw[HR1.out]at hP;clear HMul HAdd k0 k1 k2 k3 g0 g1 l0 l1 m0 m1 n0 n1;go_wp2_with fail
      go_roundw;case rel=>exact⟨j+1,by omega,by go_num,hP,D11,ac3,ajf⟩
      case measure=>simp[intOf];omega
   .obtain rfl:j=ws.length:=by omega
    rw[axG (by rw[HRl.out,Hl.out];exact axk _),ay0 (by rw[Hl.out];exact axk _),ax8]at hF;go_wp2_with fail
    first|rw[ayo]|skip
    refine bodyPost_end (results_none rfl _ _ _) rfl ?_;rw[HT.out];exact⟨rfl,hF,he,hok⟩
theorem wP(p:Int)(S:Nat->Prop)(b b':Nat)(vs ws:List aG)(k:aG)(A B:Option Addr)(c d c1 c2:Nat)(w:World)(hS:∀z,S z->z<w.heap.size)(hb:S b)(_:S b')(hne:b≠b')(hv:pG w S b vs)(hw:pG w S b' ws)(hl:vs.length=ws.length)(hA:RX w S A k.n)(hB:RX w S B k.d)
 (hvv:∀x∈vs,FV p x/\FL 137438953472 x) (hww:∀x∈ws,FV p x/\FL 68719476736 x) (hk:FV p k) (hkl:FL 68719476736 k) (hn:ws.length<=1000):
 Calls prog 84 #[.int .i64 p,.slice (some ⟨b,0,none⟩) vs.length c1,.agg #[.slice A k.n.length c,.slice B k.d.length d],.slice (some ⟨b',0,none⟩) ws.length c2] w λe w'=>e=.returned (.tuple #[])/\pG w' S b (jk p vs k ws)/\bG (λz=>z=b) w w'/\Aa S b w w':=
 have hm:∀{E:Option Addr} {l:List Int},RX w S E l->RX w (λz=>z=b) E l:=λh=>⟨h.1,λn a e hz=>h.2 n a e (by rw[show a.block=b from hz];exact hb)⟩
 nS p S b (some ⟨b',0,none⟩) vs ws k A B c d c1 c2 w hS hb hv (λW h=>(hw.sx h (λz e=>by rw[show z=b from e];exact hb) (λe=>hne e.symm)).JC (by omega)) hl (hm hA) (hm hB) hvv hww hk hkl hn
theorem Cc(p:Int)(k:aG)(A B D E:Option Addr)(c d c1 c2:Nat)(w:World)(hA:Rd w A k.n):
 Calls prog 84 #[.int .i64 p,.slice D 0 c1,.agg #[.slice A k.n.length c,.slice B k.d.length d],.slice E 0 c2] w λe w'=>e=.returned (.tuple #[])/\Ex w w':=by
 have agk:=hA.len;obtain⟨x0,v0⟩:=VB.xn w 57 #[.slice A k.n.length c,.slice B k.d.length d];go_enter Tryz.func84,Tryz.ntmps84
 go_wp2_with fail
 generalize w.alloc (.cells #[.slice A k.n.length c,.slice B k.d.length d] 57)=W0 at*;refine(og A B c d k.n k.d W0 agk).mono ?_;rintro e w1 ⟨rfl,x1⟩;have v0:=v0.ex x1;have xx:=x0.trans x1;by_cases hz:k.n=[]
 .rw[decide_eq_true hz];clear hz;go_wp2_with fail
  first|rw[ayo]|skip
  refine axu (results_none rfl _ _ _) rfl ?_;exact⟨rfl,xx⟩
 .rw[decide_eq_false hz];clear hz;obtain⟨wl,hwl⟩:∃W,W=w1:=⟨_,rfl⟩;subst hwl;go_wp2_with fail
  go_loopw [14] (λi wi=>i=.int .i64 0/\wi=wl) (λ_ _=>0)
  case atStart=>exact⟨rfl,rfl⟩
  case round=>
   obtain⟨rfl,ew⟩:=hrel;subst ew;go_wp2_with fail
   first|rw[ayo]|skip
   refine bodyPost_end (results_none rfl _ _ _) rfl ?_;exact⟨rfl,xx⟩
theorem aaq{b:World}(h:Ex b u)(hg:b.heap.size<=g):Ex b ((u.setCell ⟨g,0,none⟩ v0).setCell ⟨g,1,none⟩ v1):=(h.setCell (p:=⟨g,0,none⟩) hg v0).setCell (p:=⟨g,1,none⟩) hg v1
theorem bV.ao1(h:bV w S K G G' bs bs' Z n m)(hS:∀z,S z->z<w.heap.size)(hir:i≠r){l:List aG}(hz:Z[i]?=some z)(hl:Z[r]?=some l){Vn:Option Nat}(hi:bs[i]?=some ob)(hr:bs[r]?=some Vn)(hn0:0<n)(hn:n<=1000)
 {k:aG} {A B:Option Addr} {c d c1 c2:Nat} (hA:RX w S A k.n) (hB:RX w S B k.d) (hzg:jS p 137438953472 (z.take n)) (hlg:jS p 68719476736 (l.take n)) (hk:FV p k) (hkl:FL 68719476736 k):
 Calls prog 84 #[.int .i64 p,.slice (pB ob) n c1,.agg #[.slice A k.n.length c,.slice B k.d.length d],.slice (pB Vn) n c2] w λe w'=>e=.returned (.tuple #[])/\bV w' S K G G' bs bs' (Z.set i (jk p (z.take n) k (l.take n)++z.drop n)) n m/\bG (λq=>ob=some q) w w'/\(∀q,ob=some q->S q):=by
 obtain⟨f1,e1⟩:=h.r.row i ob (z.take n) hi (by rw[axw,hz];rfl);obtain⟨f2,e2⟩:=h.r.row r Vn (l.take n) hr (by rw[axw,hl];rfl);cases ob with
 |none=>have:z.take n=[]:=f1;rw[this]at e1;simp at e1;omega
 |some g=>
  cases Vn with
  |none=>have:l.take n=[]:=f2;rw[this]at e2;simp at e2;omega
  |some g'=>
   have hne:g≠g':=λe=>hir (h.r.nd i r g hi (by rw[hr,e]))
   have hc:=wP p S g g' (z.take n) (l.take n) k A B c d c1 c2 w hS f1.2 f2.2 hne f1.1 f2.1 (by rw[e1,e2]) hA hB hzg hlg hk hkl (by rw[e2];exact hn);rw[e1,e2]at hc;refine hc.mono ?_;rintro e w' ⟨rfl,hF,x,ok⟩;have hx:bG (λq=>some g=some q) w w':=x.widen (λz _ e=>by rw[e]);refine⟨rfl,h.ad5 hz hi ⟨hF,f1.2⟩ ?_ hx (λq e=>by cases e;exact ok),hx,λq e=>by injection e with e;exact e▸f1.2⟩;unfold jk tF;split
   .exact e1
   .rw[List.length_zipWith,e1,e2,Nat.min_self]
theorem bV.ao2(h:bV w S K G G' bs bs' Z n m)(hS:∀z,S z->z<w.heap.size)(hir:i≠r){l:List aG}(hz:Z[i]?=some z)(hl:Z[r]?=some l)(hzn:n<=z.length){Vn:Option Nat}(hi:bs'[i]?=some ob)(hr:bs'[r]?=some Vn)(hm:m<=1000)
 {k:aG} {A B:Option Addr} {c d c1 c2:Nat} (hA:RX w S A k.n) (hB:RX w S B k.d) (hzg:jS p 137438953472 (z.drop n)) (hlg:jS p 68719476736 (l.drop n)) (hk:FV p k) (hkl:FL 68719476736 k):
 Calls prog 84 #[.int .i64 p,.slice (pB ob) m c1,.agg #[.slice A k.n.length c,.slice B k.d.length d],.slice (pB Vn) m c2] w λe w'=>e=.returned (.tuple #[])/\bV w' S K G G' bs bs' (Z.set i (z.take n++jk p (z.drop n) k (l.drop n))) n m/\bG (λq=>ob=some q) w w':=by
 obtain⟨f1,e1⟩:=h.a.row i ob (z.drop n) hi (by rw[axw,hz];rfl);obtain⟨f2,e2⟩:=h.a.row r Vn (l.drop n) hr (by rw[axw,hl];rfl);by_cases hm0:m=0
 .subst hm0;have q1:z.drop n=[]:=ayp e1;refine(Cc p k A B (pB ob) (pB Vn) c d c1 c2 w hA.1).mono ?_;rintro e w' ⟨rfl,x⟩;have ha:jk p (z.drop n) k (l.drop n)=z.drop n:=by
   rw[q1];unfold jk tF;split<;>rfl
  rw[ha,ayw];have hs:Z.set i z=Z:=by
   refine ax_ λj=>?_
   rw[axK];split
   .rename_i e;subst e;rw[hz,axl (axp.1 hz).1]
   .rfl
  rw[hs];exact⟨rfl,h.ex x,bG.aP x⟩
 .cases ob with
  |none=>have:z.drop n=[]:=f1;rw[this]at e1;simp at e1;omega
  |some g=>
   cases Vn with
   |none=>have:l.drop n=[]:=f2;rw[this]at e2;simp at e2;omega
   |some g'=>
    have hne:g≠g':=λe=>hir (h.a.nd i r g hi (by rw[hr,e]))
    have hc:=wP p S g g' (z.drop n) (l.drop n) k A B c d c1 c2 w hS f1.2 f2.2 hne f1.1 f2.1 (by rw[e1,e2]) hA hB hzg hlg hk hkl (by rw[e2];exact hm);rw[e1,e2]at hc;refine hc.mono ?_;rintro e w' ⟨rfl,hF,x,ok⟩;have hx:bG (λq=>some g=some q) w w':=x.widen (λz _ e=>by rw[e]);refine⟨rfl,h.ad6 hz hzn hi ⟨hF,f1.2⟩ ?_ hx (λq e=>by cases e;exact ok),hx⟩;unfold jk tF;split
    .exact e1
    .rw[List.length_zipWith,e1,e2,Nat.min_self]
def jN{K:Type}(O:Ops K)(Z0:List (List K)):Nat->List (List K)×Nat
 |0=>(Z0,0)
 |c+1=>if O.uP (jN O Z0 c).1 (jN O Z0 c).2 c<(jN O Z0 c).1.length then(O.piv (jN O Z0 c).1 (jN O Z0 c).2 c (O.uP (jN O Z0 c).1 (jN O Z0 c).2 c),(jN O Z0 c).2+1)else jN O Z0 c
theorem uw(p:Int)(S KS:Nat->Prop)(G G':Nat)(bs0 OP:List (Option Nat))(Z0:List (List aG))(n m R cG Xm:Nat)(w:World)(hF:av p=true)(hS:∀z,S z->z<w.heap.size)(h:bV w S KS G G' bs0 OP Z0 n m)(hW:aQ (n+m) Z0)(Dk:∀c,c<=n->iB p 17179869184 (jN (au p) Z0 c).1)(hR:Z0.length=R)
 (hn:n<=1000) (hm:m<=1000) (hR1:R<=1000) (hc1:R<=cG) (hc2:cG<=9223372036854775807):
 Calls prog 122 #[.int .i64 p,.slice (some ⟨G,0,none⟩) R cG,.int .i64 n,.slice (some ⟨G',0,none⟩) R Xm] w λe w'=>∃bs bs',e=.returned (.int .i64 ((au p).red n 0 0 Z0).2)/\bV w' S KS G G' bs bs' ((au p).red n 0 0 Z0).1 n m/\bG S w w':=by
 obtain⟨FIN,qR⟩:=xq ((au p).red n 0 0 Z0);rw[qR];have HF:=axj hF;have HW:=axj hW;have HG:=axj (show jN (au p) Z0 0=(Z0,0)from rfl);have HGd:=axj Dk;have HRR:=axj hR;have dN:=axj qR;have HS:=axj hS;clear hF hW Dk hR qR hS;go_enter Tryz.func122,Tryz.ntmps122
 go_wp2_with fail
 obtain⟨x0,v0⟩:=VB.xn w 3 #[.int .i64 0];generalize w.alloc (.cells #[.int .i64 0] 3)=W0 at*;have h0:=h.ex x0;go_loopg [9,10] n (λf s9 s10 wi=>∃(c r q:Nat) (bs bs':List (Option Nat)) (Z:List (List aG)),c+f=n/\s9=.int .i64 r/\s10=.pointer (some ⟨q,0,none⟩)/\VB wi q 3 #[.int .i64 c]/\w.heap.size<=q/\bV wi S KS G G' bs bs' Z n m/\Hid (aQ (n+m) Z)/\Hid (jN (au p) Z0 c=(Z,r))/\Hid (Z.length=R)/\r<=R/\Hid ((au p).red f c r Z=FIN)/\bG S w wi)
 case atStart=>exact⟨0,0,w.heap.size,bs0,OP,Z0,by omega,rfl,rfl,v0,axk _,h0,HW,HG,HRR,axq _,dN,bG.aP x0⟩
 case round=>
  clear h0 v0 HW HG HRR dN h;obtain⟨c,r,q,bs,bs',Z,hcf,rfl,rfl,hq,hql,hT,HW,HG,HZ,JW,dN,he⟩:=hrel;have HGm:=axj (show iB p 17179869184 Z by have:=HGd.out c (by omega);rw[HG.out]at this;exact this);have q0:=hq.c0;have q1:=hq.frozen 0;have fin:∀f,gk=f->(f=0∨R<=r)->FIN=(Z,r):=λf e e2=>by
   rw[<-dN.out];subst e;rcases e2 with e2|e2
   .rw[e2];rfl
   .exact Ec _ _ _ _ _ (by rw[HZ.out];exact e2)
  cases gk with
  |zero=>
   obtain rfl:c=n:=by omega
   have H:=axj (fin 0 rfl (.inl rfl));clear fin;go_wp2_with fail
   go_ret;rw[H.out];exact⟨bs,bs',rfl,hT,he⟩
  |succ f=>
   by_cases hlt:r<R
   .clear fin;obtain⟨vs,hvl,hvs,hrd⟩:=hT.r.vals (by rw[axs,HZ.out];omega);rw[axs,HZ.out]at hvl;have ai9:=hrd r;obtain⟨qs,hqs⟩:∃qs,(Z.drop r).map (λrow=> !jy ((au p).el row c))=qs:=⟨_,rfl⟩;have ai_:qs.length=(vs.drop r).length:=by rw[<-hqs,axs,axF,axF,HZ.out,hvl]
    have hcall:=VQ 156 (enters_of Tryz.func156 (by kernel_rfl) rfl) #[.pointer (some ⟨q,0,none⟩)] qs (some ⟨G,r,none⟩) (cG-r) (vs.drop r) wr ai9 ai_ (λW i v b hx hv hb=>by
     have hil:=(axp.1 hv).1;rw[axF,hvl]at hil;obtain⟨ob,row,c9,nL,hrow,hrl,hFB,_⟩:=(hT.ex hx).r.at_ (j:=r+i) (by rw[axs,HZ.out];omega);obtain⟨c8,hv8⟩:=hvs _ ob nL;rw[axY,hv8]at hv;injection hv with hv;subst hv;rw[<-hrl];refine U9 p S ob row c c8 q W hFB (by omega) (af hx q0) (by omega) b ?_;rw[<-hqs,axw,axY]at hb;rw[axw]at hrow;cases hz:Z[r+i]? with
     |none=>rw[hz]at hrow;cases hrow
     |some z=>
      rw[hz]at hrow hb;injection hrow with hrow;injection hb with hb;rw[<-hb,<-hrow];have:(au p).el (z.take n) c=(au p).el z c:=by unfold Ops.el;rw[axt,axt,axL,axl (by omega)]
      rw[this])
    rw[show(vs.drop r).length=R-r by rw[axF,hvl]]at hcall;have hdec:=adp (p:=p) Z r c qs hqs.symm (by rw[HZ.out];omega);have hcr:¬(cG=r):=by omega
    clear hrd ai9 ai_ hvs hvl hqs;have HD:=axj hdec;clear hdec;go_wp2_with fail
    refine hcall.mono ?_;rintro e w5 ⟨rfl,x5⟩;have Gs:=hT.ex x5;have hq5:=hq.ex x5;have Fe:=he.trans (bG.aP (S:=S) x5) (λ_ _ h=>h);have hqq:=hq5.lt;clear hcall hT hq he q0 q1 vs;have q0:=hq5.c0;have q1:=hq5.frozen 0;rcases HD.out with⟨hi,hnf⟩|⟨k,hi,Px,hkl⟩
    .rw[hi];have HN:=axj (show(au p).red f (c+1) r Z=FIN by rw[<-dN.out,Ops.red,axm hnf]);have HSk:=axj (show jN (au p) Z0 (c+1)=(Z,r) by rw[jN,HG.out];exact axm hnf);clear hi hnf HD;go_wp2_with fail
     obtain⟨y6,v6⟩:=VB.xn w5 3 #[.int .i64 ((c:Int)+1)]
     go_roundg f
     case measure=>omega
     case rel=>exact⟨c+1,r,w5.heap.size,bs,bs',Z,by omega,rfl,rfl,by simpa using v6,Nat.le_of_lt (by omega),Gs.ex y6,HW,HSk,HZ,JW,HN,Fe.trans (bG.aP (S:=S) y6) (λ_ _ h=>h)⟩
    .rw[hi];have HN:=axj (show(au p).red f (c+1) (r+1) ((au p).piv Z r c (r+k))=FIN by rw[<-dN.out,Ops.red,axl (by rw[Px];exact hkl),Px]);have HX:=axj (show jy ((au p).el (Z.getD (r+k) []) c)=false by
      have:=(kU (au p) (show(au p).uP Z r c<Z.length by rw[Px];exact hkl)).2;rw[Px]at this;exact this)
     have NS:r+k<R:=by rw[<-HZ.out];exact hkl
     have HSk:=axj (show jN (au p) Z0 (c+1)=((au p).piv Z r c (r+k),r+1) by rw[jN,HG.out];dsimp only;rw[Px,axl hkl]);clear hi Px HD hkl;obtain⟨K,hK⟩:=xq (r+k);have hwr:IntKind.i64.wrap ((r:Int)+(k:Int))=(K:Int):=by rw[axC _ (by omega)];omega
     rw[hK]at HN HX NS HSk;have hrK:r<=K:=by omega
     have HK:=axj hK;clear hK;obtain⟨oi,ri,ci,hci,hoi,oW,anA,hFi,ei⟩:=Gs.r.aa4 (j:=r) (by rw[axs,HZ.out];exact hlt);obtain⟨ok,rk,ck,hck,hok,hrk,acS,hFk,ek⟩:=Gs.r.aa4 (j:=K) (by rw[axs,HZ.out];exact NS);obtain⟨ai,si,di,hdi,hai,hsi,anx,hAi,fi⟩:=Gs.a.aa4 (j:=r) (by rw[axs,HZ.out];exact hlt);obtain⟨ak,sk,dk,hdk,hak,hsk,anw,hAk,fk⟩:=Gs.a.aa4 (j:=K) (by rw[axs,HZ.out];exact NS);have z0:=Gs.r.frozen r;have z1:=Gs.r.frozen K;have z2:=Gs.a.frozen r;have z3:=Gs.a.frozen K;have akm:=Gs.ne;have akh:=axj hoi;have akg:=axj hok;have akj:=axj hai;have aki:=axj hak;have uI:=axj oW;have CB:=axj hrk;have aps:=axj (show(n<=ci/\n<=ck)/\m<=di/\m<=dk from⟨⟨hci,hck⟩,hdi,hdk⟩);clear hci hck hdi hdk hoi hok hai hak oW hrk hsi hsk hFi hFk hAi hAk anA acS anx anw;go_wp2_with fail
     go_cut [11]from 37 to 150 (λs11 wx=>s11=.int .i64 k/\wx=((w5.setCell ⟨G,r,none⟩ (.slice (pB ok) n ck)).setCell ⟨G,K,none⟩ (.slice (pB oi) n ci)).drew)
     case first=>
      by_cases hk0:K=r
      .subst hk0;have hii:=ei.symm.trans ek;injection hii with hii;have Hii:=axj hii;clear hii;go_region_with (fail)
       all_goals
        go_wp2_with fail
        go_meet
        exact⟨rfl,by rw[Hii.out]⟩
      .go_region_with (fail)
       all_goals
        go_wp2_with fail
        go_meet
        exact⟨rfl,rfl⟩
     case rest=>
      obtain⟨rfl,rfl⟩:=hcut;have E7:aM G w5 ((w5.setCell ⟨G,r,none⟩ (.slice (pB ok) n ck)).setCell ⟨G,K,none⟩ (.slice (pB oi) n ci)).drew:=(((aM.refl G w5).setCell (p:=⟨G,r,none⟩) rfl _).setCell (p:=⟨G,K,none⟩) rfl _).drew;have kx:∀(o:Nat) (v:Value),w5.cell? ⟨G',o,none⟩=some v->(((w5.setCell ⟨G,r,none⟩ (.slice (pB ok) n ck)).setCell ⟨G,K,none⟩ (.slice (pB oi) n ci)).drew).cell? ⟨G',o,none⟩=some v:=λo v hv=>
       (axP (w:=w5) (a:=⟨G',o,none⟩) (E7.block G' (jC (p:=⟨G',o,none⟩) hv) (λe=>by injection e with e;exact akm e.symm))).trans hv
      have kz:∀(o:Nat),w5.frozen? ⟨G',o,none⟩=false->(((w5.setCell ⟨G,r,none⟩ (.slice (pB ok) n ck)).setCell ⟨G,K,none⟩ (.slice (pB oi) n ci)).drew).frozen? ⟨G',o,none⟩=false:=λo hv=>by have hb:=E7.block G' Gs.a.lt (λe=>by injection e with e;exact akm e.symm);unfold World.frozen? at hv⊢;rw[hb];exact hv
      obtain⟨W7,hW7⟩:=xq (((w5.setCell ⟨G,r,none⟩ (.slice (pB ok) n ck)).setCell ⟨G,K,none⟩ (.slice (pB oi) n ci)).drew);rw[hW7]at E7 kx kz⊢;have HW7:=axj hW7;clear hW7;replace fi:=kx _ _ fi;replace fk:=kx _ _ fk;replace z2:=kz _ z2;replace z3:=kz _ z3;clear kx kz ei ek z0 z1;go_wp2_with fail
      go_cut [11]from 37 to 150 (λs11 wx=>s11=.int .i64 k/\wx=((W7.setCell ⟨G',r,none⟩ (.slice (pB ak) m dk)).setCell ⟨G',K,none⟩ (.slice (pB ai) m di)).drew)
      case first=>
       by_cases hk0:K=r
       .subst hk0;have hii:=fi.symm.trans fk;injection hii with hii;have Hii:=axj hii;clear hii;go_region_with (fail)
        all_goals
         go_wp2_with fail
         go_meet
         exact⟨rfl,by rw[Hii.out]⟩
       .go_region_with (fail)
        all_goals
         go_wp2_with fail
         go_meet
         exact⟨rfl,rfl⟩
      case rest=>
       obtain⟨rfl,rfl⟩:=hcut;obtain⟨zi,hzi⟩:∃z,Z[r]?=some z:=⟨_,axn (by rw[HZ.out];exact hlt)⟩;obtain⟨zk,VU⟩:∃z,Z[K]?=some z:=⟨_,axn (by rw[HZ.out];exact NS)⟩;obtain⟨hT9,E9⟩:=Gs.swap akh.out akg.out akj.out aki.out hzi VU (ci:=ci) (ck:=ck) (di:=di) (dk:=dk) aps.out HW7.out.symm rfl;generalize((W7.setCell ⟨G',r,none⟩ (.slice (pB ak) m dk)).setCell ⟨G',K,none⟩ (.slice (pB ai) m di)).drew=W9 at*;generalize(bs.set r ok).set K oi=Xn at*;generalize(bs'.set r ak).set K ai=WJ at*;have hqS:¬S q:=λhs=>by have:=HS.out _ hs;omega
       have hq9:VB W9 q 3 #[.int .i64 c]:=(E9.block q hqq hqS).trans hq5;have he9:=Fe.trans E9 (λ_ _ h=>h);clear fi fk z2 z3 akh akg akj aki uI CB Gs hq5 Fe E7 HW7 q0 q1 E9 hqq x5;have hUr:(lq Z r K)[r]?=some zk:=by
        rw[oP (by rw[HZ.out];exact hlt) (by rw[HZ.out];exact NS) r (by rw[HZ.out];exact hlt)];by_cases e:r=K
        .rw[axl e,axt,e,VU];rfl
        .rw[axm e,axl rfl,axt,VU];rfl
       have hUl:(lq Z r K).length=R:=by rw[yo,HZ.out]
       have hUW:aQ (n+m) (lq Z r K):=λv hv=>by obtain⟨i,hi⟩:=axz hv;have hil:=(axp.1 hi).1;rw[hUl]at hil;rw[oP (by rw[HZ.out];exact hlt) (by rw[HZ.out];exact NS) i (by rw[HZ.out];exact hil)]at hi;injection hi with hi;rw[<-hi];exact HW.out.at_ (Ao (by rw[HZ.out];exact hil) (by rw[HZ.out];exact hlt) (by rw[HZ.out];exact NS))
       have hUG:iB p 17179869184 (lq Z r K):=λv hv=>by obtain⟨i,hi⟩:=axz hv;have hil:=(axp.1 hi).1;rw[hUl]at hil;rw[oP (by rw[HZ.out];exact hlt) (by rw[HZ.out];exact NS) i (by rw[HZ.out];exact hil)]at hi;injection hi with hi;have hsl:=Ao (n:=Z.length) (by rw[HZ.out];exact hil) (by rw[HZ.out];exact hlt) (by rw[HZ.out];exact NS) (i:=i) (r:=r) (k:=K);rw[<-hi,axt,axn hsl];exact HGm.out _ (ax6 hsl)
       have aiW:zk.length=n+m:=hUW _ (axo hUr);have aiX:=hUG _ (axo hUr);have ZO:Z.getD K []=zk:=by rw[axt,VU];rfl
       rw[ZO]at HX;have ajW:∀(i:Nat) (u:List aG),(lq Z r K)[i]?=some u->((au p).piv Z r c K)[i]?=some ((au p).Gt r c ((au p).oJ zk c) i u):=λi u hu=>by unfold Ops.piv;rw[ay3,hu,ZO];rfl
       have hTl:((au p).piv Z r c K).length=R:=by rw[eH,HZ.out]
       have hTW:aQ (n+m) ((au p).piv Z r c K):=HW.out.piv (by rw[HZ.out];exact hlt) (by rw[HZ.out];exact NS);have ahk:=axj ajW;have HTW:=axj hTW;have xR:=axj hTl;have HUW:=axj hUW;have HUG:=axj hUG;have HUr:=axj hUr;have HUl:=axj hUl;have KR:=axj aiW;have abb:=axj aiX;obtain⟨B,hbd,hB⟩:∃B:Nat,B<=17179869184/\17179869184=B:=⟨_,axk _,rfl⟩;clear ajW hTW hTl hUW hUG hUr hUl aiW aiX ZO hzi VU HW HG HGm dN;generalize(au p).piv Z r c K=T at*;generalize lq Z r K=U at*;rw[hB]at abb HUG;have HB:=axj hB;clear hB;have hcn:c<n:=by omega
       obtain⟨ob,row,cr,nL,hrow,hrl,hFB,er⟩:=hT9.r.at_ (j:=r) (by rw[axs,HUl.out];exact hlt);obtain⟨oa,sow,ca,hoa,Rh,hsl,hFA,ea⟩:=hT9.a.at_ (j:=r) (by rw[axs,HUl.out];exact hlt);obtain rfl:row=zk.take n:=by rw[axw,HUr.out]at hrow;injection hrow with hrow;exact hrow.symm
       obtain rfl:sow=zk.drop n:=by rw[axw,HUr.out]at Rh;injection Rh with Rh;exact Rh.symm
       obtain⟨x0,hx0⟩:∃x,zk[c]?=some x:=⟨_,axn (by rw[KR.out];omega)⟩;have acR:(zk.take n)[c]?=some x0:=by rw[axL,axl hcn];exact hx0
       have hel:(au p).el zk c=x0:=(au p).dD hx0;rw[hel]at HX;obtain⟨g0,rfl⟩:∃g,ob=some g:=by
        cases ob with
        |none=>have:zk.take n=[]:=hFB;rw[this]at acR;simp at acR
        |some g=>exact⟨g,rfl⟩
       obtain⟨Ax,cx,Bx,dx,b0,b1,hAx,hBx⟩:=hFB.1.at_ acR;have hpb:pB (some g0)=some ⟨g0,0,none⟩:=rfl;rw[hpb]at er;have q0:=hq9.c0;have Hx0:=axj hx0;have CR:=axj hel;have Hob:=axj nL;have Hoa:=axj hoa;have x0g:=abb.out x0 (axo hx0);have adQ:=axj x0g;clear hx0 acR hel nL hoa hrow Rh hrl hsl x0g hpb;have hgG:¬(g0=G):=hT9.r.ng r g0 Hob.out;have hqG:¬(q=G):=λe=>hqS (e▸hT9.r.sg)
       go_wp2_with fail
       go_cut [12]from 37 to 150 (λs12 wx=>∃gp,s12=.pointer (some ⟨gp,0,none⟩)/\VB wx gp 57 #[.slice Ax x0.n.length cx,.slice Bx x0.d.length dx]/\W9.heap.size<=gp/\Ex W9 wx)
       case first=>
        have HS9:∀W,Ex W9 W->(W.cell? ⟨G,r,none⟩=some (.slice (some ⟨g0,0,none⟩) n cr)/\W.cell? ⟨q,0,none⟩=some (.int .i64 c)/\W.cell? ⟨g0,c*2,none⟩=some (.slice Ax x0.n.length cx)/\W.cell? ⟨g0,c*2+1,none⟩=some (.slice Bx x0.d.length dx)):=λW h=>⟨af h er,af h q0,af h b0,af h b1⟩
        go_region_held3 (λW=>W.cell? ⟨G,r,none⟩=some (.slice (some ⟨g0,0,none⟩) n cr)/\W.cell? ⟨q,0,none⟩=some (.int .i64 c)/\W.cell? ⟨g0,c*2,none⟩=some (.slice Ax x0.n.length cx)/\W.cell? ⟨g0,c*2+1,none⟩=some (.slice Bx x0.d.length dx)) (first
         |(exact HS9 _ (aCQ W9))|(exact HS9 _ (aCQ W9).drew)|(exact HS9 _ ((aCQ W9).alloc _))|(exact HS9 _ ((aCQ W9).drew.alloc _))|(exact HS9 _ ((aCQ W9).alloc _).drew)) (fail)
        all_goals
         go_wp2_with fail
         go_meet
         first
         |exact⟨_,rfl,VB.new _ _ _,axk _,((aCQ W9).alloc _).drew⟩
         |exact⟨_,rfl,VB.new _ _ _,axk _,((aCQ W9).drew.alloc _)⟩
       case rest=>
        obtain⟨W10,rfl⟩:∃q,q=wc:=⟨_,rfl⟩;obtain⟨gp,rfl,JZ,aua,x10⟩:=hcut;have ajY:=hT9.ex x10;have VX:=hq9.ex x10;have Rt:=he9.trans (bG.aP (S:=S) x10) (λ_ _ h=>h);have er:=af x10 er;have ea:=af x10 ea;have hAx:=hAx.ex x10;have hBx:=hBx.ex x10;have hwz:=Rt.size;have hw9:=he9.size;have ajy:¬S gp:=λhs=>by have:=HS.out _ hs;omega
        clear hT9 hq9 he9 x10 b0 b1 q0 hFB hFA;go_wp2_with fail
        go_quiet (fail)
        go_wp2_with fail
        have ajX:=ajY.ex ((aCQ W10).drewN nq);have hq11:VB (W10.drewN nq) q 3 #[.int .i64 c]:=VX;have aex:VB (W10.drewN nq) gp 57 #[.slice Ax x0.n.length cx,.slice Bx x0.d.length dx]:=JZ;have ac3:=Rt.trans (bG.aP (S:=S) ((aCQ W10).drewN nq)) (λ_ _ h=>h);have aeI:=hAx.ex ((aCQ W10).drewN nq);have aeH:=hBx.ex ((aCQ W10).drewN nq);have anm:w.heap.size<=(W10.drewN nq).heap.size:=hwz;generalize W10.drewN nq=W11 at*;clear ajY VX JZ Rt hAx hBx er ea hwz hw9;obtain⟨lead,hlead⟩:=xq ((au p).oJ zk c);have ZK:lead.length=n+m:=by rw[<-hlead,sw];exact KR.out
        have hlm:lead=zk.map (λx=>fP p (qQ p x0) x):=by rw[<-hlead];unfold Ops.oJ;rw[CR.out];rfl
        have hlg:jS p (B+B) lead:=by rw[<-hlead];exact abb.out.oJ (by rw[KR.out];omega) (by rw[CR.out];exact HX.out)
        have arY:=axj hlead;have Gm:=axj ZK;have Hlm:=axj hlm;have Hlg:=axj hlg;rw[hlead]at ahk;clear hlead ZK hlm hlg;have hs0:U=U.set r zk:=by
         refine ax_ λj=>?_
         rw[axK];split
         .rename_i e;subst e;rw[HUr.out,axl (by rw[HUl.out];exact hlt)]
         .rfl
        have Hs0:=axj hs0;clear hs0;go_loopw [89] (λi wi=>∃(t:Nat) (y:List aG),t<=2/\i=.int .i64 t/\bV wi S KS G G' Xn WJ (U.set r y) n m/\Hid (y=(if 1<=t then lead.take n else zk.take n)++(if 2<=t then lead.drop n else zk.drop n))/\VB wi q 3 #[.int .i64 c]/\VB wi gp 57 #[.slice Ax x0.n.length cx,.slice Bx x0.d.length dx]/\RX wi S Ax x0.n/\RX wi S Bx x0.d/\bG S w wi) (λi _=>2-(intOf i).toNat)
        case atStart=>exact⟨0,zk,by omega,rfl,by rw[<-Hs0.out];exact ajX,axj (by simp),hq11,aex,aeI,aeH,ac3⟩
        case round=>
         clear ajX hq11 aex aeI aeH ac3 anm;obtain⟨t,y,ht,rfl,hT,Hy,hq,JZ,hAx,hBx,he⟩:=hrel;have hyl:y.length=n+m:=by rw[Hy.out];have h1:=Gm.out;have h2:=KR.out;split<;>split<;>simp[axx,axF,h1,h2]
         have hyr:(U.set r y)[r]?=some y:=by rw[aAi (by rw[HUl.out];exact hlt)]
         have Hyl:=axj hyl;have hyt:y.take n=if 1<=t then lead.take n else zk.take n:=by have h1:=Gm.out;have h2:=KR.out;rw[Hy.out,azr (by split<;>simp[axx,h1,h2])]
         have hyd:y.drop n=if 2<=t then lead.drop n else zk.drop n:=by have h1:=Gm.out;have h2:=KR.out;rw[Hy.out,azs (by split<;>simp[axx,h1,h2])]
         have Wl:=(hT.r.row r (some g0) (y.take n) Hob.out (by rw[axw,hyr];rfl)).1;have Xk:=(hT.a.row r oa (y.drop n) Hoa.out (by rw[axw,hyr];rfl)).1;rw[hyt]at Wl;rw[hyd]at Xk;have Hyt:=axj hyt;have Hyd:=axj hyd;clear hyl hyt hyd;rcases(show t=0∨t=1∨t=2 by omega)with rfl|rfl|rfl
         .rw[show((0:Nat):Int)=(0:Int)from rfl];rw[axm (by omega)]at Wl;obtain⟨Wl,NU⟩:=Wl;have Hy2:=axj (show y.drop n=zk.drop n by rw[Hyd.out,axm (by omega)]);clear Xk;have hgq:¬(q=g0):=λe=>hqS (e▸NU)
          have hgg:¬(gp=g0):=λe=>ajy (e▸NU)
          have hpb:pB (some g0)=some ⟨g0,0,none⟩:=rfl;have hxl:(zk.take n).length=n:=by rw[axx,KR.out];omega
          have WZ:=axj hxl;have hxg:∀x∈(zk.take n),FV p x/\FL B x:=λx hx=>abb.out x (by first|exact ayS hx|exact ayM hx)
          have xQ:=axj hxg;clear hxl hxg;obtain⟨xs,hxs⟩:=xq ((zk.take n));rw[hxs]at Wl WZ xQ;have Hxs:=axj hxs;clear hxs;obtain⟨N,hN⟩:∃N,xs.map (λx=>fP p (qQ p x0) x)=N:=⟨_,rfl⟩;have UC:=axj (show N.length=xs.length by rw[<-hN,axs]);have ahq:=axj (show∀(j:Nat) (x:aG),xs[j]?=some x->N[j]?=some (fP p (qQ p x0) x)from λj x h=>by rw[<-hN,axw,h];rfl);have HNe:=axj hN;clear hN;have hF0:=Wl;obtain⟨wl,hwl⟩:∃W,W=wr:=⟨_,rfl⟩;subst hwl;have hws:=he.size;have hix:=afY (some ⟨g0,0,none⟩) (pB oa) n cr m ca wl;go_wp2_with fail
          clear hix;go_loopw [94] (λi wi=>∃j:Nat,j<=n/\i=.int .i64 j/\pG wi S g0 (N.take j++xs.drop j)/\VB wi q 3 #[.int .i64 c]/\VB wi gp 57 #[.slice Ax x0.n.length cx,.slice Bx x0.d.length dx]/\RX wi S Ax x0.n/\RX wi S Bx x0.d/\bG (λz=>z=g0) wl wi/\Aa S g0 wl wi) (λi _=>n-(intOf i).toNat)
          case atStart=>exact⟨0,axq _,rfl,by simpa using hF0,hq,JZ,hAx,hBx,bG.refl _ _,Aa.refl _ _ _⟩
          case round=>
           clear hF0 Wl hq JZ hAx hBx;obtain⟨j,hj,rfl,hF,hq,JZ,hAx,hBx,hel,hok⟩:=hrel;have hsz:=hel.size;by_cases hjl:j<n
           .obtain⟨x,hx⟩:∃x,xs[j]?=some x:=⟨_,axn (by rw[WZ.out];exact hjl)⟩;have hat:=EG N xs UC.out j (by rw[WZ.out];exact hjl);rw[hx]at hat;obtain⟨Ay,cy,By,dy,e0,e1,hAy,hBy⟩:=hF.at_ hat;have hxm:=xQ.out x (axo hx);have HMS:=axj (yQ N xs UC.out j (fP p (qQ p x0) x) (ahq.out j x hx));have Hxm:=axj hxm;have z0:=hF.frozen (j*2);have z1:=hF.frozen (j*2+1);obtain⟨y7,v7⟩:=VB.xn wr 57 #[.slice Ay x.n.length cy,.slice By x.d.length dy];have s7:(wr.alloc (.cells #[.slice Ay x.n.length cy,.slice By x.d.length dy] 57)).heap.size=wr.heap.size+1:=by simp
            have gl0:=(JZ.ex y7).c0;have gl1:=(JZ.ex y7).c1;clear hx hat hxm;go_wp2_with fail
            generalize wr.alloc (.cells #[.slice Ay x.n.length cy,.slice By x.d.length dy] 57)=W7 at*;have ZF:x0.n≠[]:=λe=>by have:=HX.out;rw[dR.2 e]at this;cases this
            have hdv:=I8 p x x0 Ay By cy dy Ax Bx cx dx W7 Hxm.out.1 adQ.out.1 (hAy.ex y7).1 (hBy.ex y7).1 (hAx.ex y7).1 (hBx.ex y7).1 ZF (Hxm.out.2.mono (by omega)) (adQ.out.2.mono (by omega));obtain⟨res,hres⟩:=xq (fP p (qQ p x0) x);rw[hres]at hdv HMS;clear hres;refine hdv.mono ?_;rintro e w8 ⟨A8,c8,B8,d8,rfl,f8,p8,ap8,x8⟩;have y8:=y7.trans x8;have Xj:=hF.ex y8;have e0:=af y8 e0;have e1:=af y8 e1;have z0:=Xj.frozen (j*2);have z1:=Xj.frozen (j*2+1);have hz7:=y7.size;have hS7:∀z,S z->z<W7.heap.size:=λz hz=>by have:=HS.out z hz;omega
            have hP:=Xj.put NU j res (c:=c8) (d:=d8) (f8.rx hS7) (p8.rx hS7);rw[HMS.out]at hP;have E9:aM g0 w8 ((w8.setCell ⟨g0,j*2,none⟩ (.slice A8 res.n.length c8)).setCell ⟨g0,j*2+1,none⟩ (.slice B8 res.d.length d8)):=((aM.refl g0 w8).setCell (p:=⟨g0,j*2,none⟩) rfl _).setCell (p:=⟨g0,j*2+1,none⟩) rfl _;have hq9:=(hq.ex y8).aK E9 hgq;have agn:=(JZ.ex y8).aK E9 hgg;have X9:=bG.aZ (S:=λz=>z=g0) E9 rfl;have agK:=(hAx.ex y8).sx X9 (λz e=>e▸NU);have agJ:=(hBx.ex y8).sx X9 (λz e=>e▸NU);have agx:=(hel.trans (bG.aP (S:=λz=>z=g0) y8) (λ_ _ h=>h)).trans X9 (λ_ _ h=>h);have agb:=(hok.trans (Aa.aP y7)).trans (Aa.YD (S:=S) (b:=g0) (i:=j) x8 f8 p8 ap8 NU e0 e1);have hjx:j<n:=hjl;clear E9 X9 HMS gl0 gl1 f8 p8 ZF Xj hdv;go_wp2_with fail
            go_roundw;case rel=>exact⟨j+1,by omega,by go_num,hP,hq9,agn,agK,agJ,agx,agb⟩
            case measure=>simp[intOf];omega
           .obtain rfl:j=n:=by omega
            rw[axG (by rw[UC.out,WZ.out];exact axk _),ay0 (by rw[WZ.out];exact axk _),ax8]at hF;have hgr:bG (λz=>some g0=some z) wl wr:=hel.widen (λz _ e=>by rw[e]);have Ff:=hT.ad5 (i:=r) (z:=y) hyr Hob.out (r':=N) ⟨hF,NU⟩ (by rw[UC.out,WZ.out]) hgr (λq e=>by cases e;exact hok);rw[ay9]at Ff;have he2:=he.trans (hel.widen (T:=S) (λz _ e=>e▸NU)) (λ_ _ h=>h);go_wp2_with fail
            go_roundw;case rel=>exact⟨0+1,_,by omega,by go_num,Ff,axj (by rw[Hy2.out,<-HNe.out,<-Hxs.out,Hlm.out];simp[aze]),hq,JZ,hAx,hBx,he2⟩
            case measure=>simp[intOf]
         .rw[show((1:Nat):Int)=(1:Int)from rfl];rw[axm (by omega)]at Xk;clear Wl;have Hy2:=axj (show y.take n=lead.take n by rw[Hyt.out,axl (by omega)]);cases oa with
          |none=>
           have hm0:zk.drop n=[]:=Xk;have hm1:m<=0:=by have:=congrArg List.length hm0;rw[axF,KR.out]at this;simp at this;omega
           have Hy3:=axj (show y=(if 1<=1+1 then lead.take n else zk.take n)++(if 2<=1+1 then lead.drop n else zk.drop n) by
            rw[<-ayw n y,Hy2.out,Hyd.out,axm (by omega),hm0,axl (by omega),axl (by omega),ay0 (by rw[Gm.out];omega)])
           obtain⟨wl,hwl⟩:∃W,W=wr:=⟨_,rfl⟩;subst hwl;have hix:=ZA (some ⟨g0,0,none⟩) (pB none) n cr m ca wl;clear hm0 Xk;go_wp2_with fail
           clear hix;go_loopw [94] (λi wi=>i=.int .i64 0/\wi=wl) (λ_ _=>0)
           case atStart=>exact⟨rfl,rfl⟩
           case round=>
            obtain⟨rfl,ew⟩:=hrel;subst ew;go_wp2_with fail
            go_roundw;case rel=>exact⟨1+1,y,by omega,by go_num,hT,Hy3,hq,JZ,hAx,hBx,he⟩
            case measure=>simp[intOf]
          |some ga=>
           obtain⟨Xk,NT⟩:=Xk;have hgq:¬(q=ga):=λe=>hqS (e▸NT)
           have hgg:¬(gp=ga):=λe=>ajy (e▸NT)
           have hpb:pB (some ga)=some ⟨ga,0,none⟩:=rfl;rw[hpb];have hxl:(zk.drop n).length=m:=by rw[axF,KR.out];omega
           have WZ:=axj hxl;have hxg:∀x∈(zk.drop n),FV p x/\FL B x:=λx hx=>abb.out x (by first|exact ayS hx|exact ayM hx)
           have xQ:=axj hxg;clear hxl hxg;obtain⟨xs,hxs⟩:=xq ((zk.drop n));rw[hxs]at Xk WZ xQ;have Hxs:=axj hxs;clear hxs;obtain⟨N,hN⟩:∃N,xs.map (λx=>fP p (qQ p x0) x)=N:=⟨_,rfl⟩;have UC:=axj (show N.length=xs.length by rw[<-hN,axs]);have ahq:=axj (show∀(j:Nat) (x:aG),xs[j]?=some x->N[j]?=some (fP p (qQ p x0) x)from λj x h=>by rw[<-hN,axw,h];rfl);have HNe:=axj hN;clear hN;have hF0:=Xk;obtain⟨wl,hwl⟩:∃W,W=wr:=⟨_,rfl⟩;subst hwl;have hws:=he.size;have hix:=ZA (some ⟨g0,0,none⟩) (some ⟨ga,0,none⟩) n cr m ca wl;go_wp2_with fail
           clear hix;go_loopw [94] (λi wi=>∃j:Nat,j<=m/\i=.int .i64 j/\pG wi S ga (N.take j++xs.drop j)/\VB wi q 3 #[.int .i64 c]/\VB wi gp 57 #[.slice Ax x0.n.length cx,.slice Bx x0.d.length dx]/\RX wi S Ax x0.n/\RX wi S Bx x0.d/\bG (λz=>z=ga) wl wi/\Aa S ga wl wi) (λi _=>m-(intOf i).toNat)
           case atStart=>exact⟨0,axq _,rfl,by simpa using hF0,hq,JZ,hAx,hBx,bG.refl _ _,Aa.refl _ _ _⟩
           case round=>
            clear hF0 Xk hq JZ hAx hBx;obtain⟨j,hj,rfl,hF,hq,JZ,hAx,hBx,hel,hok⟩:=hrel;have hsz:=hel.size;by_cases hjl:j<m
            .obtain⟨x,hx⟩:∃x,xs[j]?=some x:=⟨_,axn (by rw[WZ.out];exact hjl)⟩;have hat:=EG N xs UC.out j (by rw[WZ.out];exact hjl);rw[hx]at hat;obtain⟨Ay,cy,By,dy,e0,e1,hAy,hBy⟩:=hF.at_ hat;have hxm:=xQ.out x (axo hx);have HMS:=axj (yQ N xs UC.out j (fP p (qQ p x0) x) (ahq.out j x hx));have Hxm:=axj hxm;have z0:=hF.frozen (j*2);have z1:=hF.frozen (j*2+1);obtain⟨y7,v7⟩:=VB.xn wr 57 #[.slice Ay x.n.length cy,.slice By x.d.length dy];have s7:(wr.alloc (.cells #[.slice Ay x.n.length cy,.slice By x.d.length dy] 57)).heap.size=wr.heap.size+1:=by simp
             have gl0:=(JZ.ex y7).c0;have gl1:=(JZ.ex y7).c1;clear hx hat hxm;go_wp2_with fail
             generalize wr.alloc (.cells #[.slice Ay x.n.length cy,.slice By x.d.length dy] 57)=W7 at*;have ZF:x0.n≠[]:=λe=>by have:=HX.out;rw[dR.2 e]at this;cases this
             have hdv:=I8 p x x0 Ay By cy dy Ax Bx cx dx W7 Hxm.out.1 adQ.out.1 (hAy.ex y7).1 (hBy.ex y7).1 (hAx.ex y7).1 (hBx.ex y7).1 ZF (Hxm.out.2.mono (by omega)) (adQ.out.2.mono (by omega));obtain⟨res,hres⟩:=xq (fP p (qQ p x0) x);rw[hres]at hdv HMS;clear hres;refine hdv.mono ?_;rintro e w8 ⟨A8,c8,B8,d8,rfl,f8,p8,ap8,x8⟩;have y8:=y7.trans x8;have Xj:=hF.ex y8;have e0:=af y8 e0;have e1:=af y8 e1;have z0:=Xj.frozen (j*2);have z1:=Xj.frozen (j*2+1);have hz7:=y7.size;have hS7:∀z,S z->z<W7.heap.size:=λz hz=>by have:=HS.out z hz;omega
             have hP:=Xj.put NT j res (c:=c8) (d:=d8) (f8.rx hS7) (p8.rx hS7);rw[HMS.out]at hP;have E9:aM ga w8 ((w8.setCell ⟨ga,j*2,none⟩ (.slice A8 res.n.length c8)).setCell ⟨ga,j*2+1,none⟩ (.slice B8 res.d.length d8)):=((aM.refl ga w8).setCell (p:=⟨ga,j*2,none⟩) rfl _).setCell (p:=⟨ga,j*2+1,none⟩) rfl _;have hq9:=(hq.ex y8).aK E9 hgq;have agn:=(JZ.ex y8).aK E9 hgg;have X9:=bG.aZ (S:=λz=>z=ga) E9 rfl;have agK:=(hAx.ex y8).sx X9 (λz e=>e▸NT);have agJ:=(hBx.ex y8).sx X9 (λz e=>e▸NT);have agx:=(hel.trans (bG.aP (S:=λz=>z=ga) y8) (λ_ _ h=>h)).trans X9 (λ_ _ h=>h);have agb:=(hok.trans (Aa.aP y7)).trans (Aa.YD (S:=S) (b:=ga) (i:=j) x8 f8 p8 ap8 NT e0 e1);have hjx:j<m:=hjl;clear E9 X9 HMS gl0 gl1 f8 p8 ZF Xj hdv;go_wp2_with fail
             go_roundw;case rel=>exact⟨j+1,by omega,by go_num,hP,hq9,agn,agK,agJ,agx,agb⟩
             case measure=>simp[intOf];omega
            .obtain rfl:j=m:=by omega
             rw[axG (by rw[UC.out,WZ.out];exact axk _),ay0 (by rw[WZ.out];exact axk _),ax8]at hF;have hgr:bG (λz=>some ga=some z) wl wr:=hel.widen (λz _ e=>by rw[e]);have Ff:=hT.ad6 (i:=r) (z:=y) hyr (by rw[Hyl.out];omega) Hoa.out (a':=N) ⟨hF,NT⟩ (by rw[UC.out,WZ.out]) hgr (λq e=>by cases e;exact hok);rw[ay9]at Ff;have he2:=he.trans (hel.widen (T:=S) (λz _ e=>e▸NT)) (λ_ _ h=>h);go_wp2_with fail
             first|rw[<-hpb]|skip
             go_roundw;case rel=>exact⟨1+1,_,by omega,by go_num,Ff,axj (by rw[Hy2.out,<-HNe.out,<-Hxs.out,Hlm.out];simp[ayT]),hq,JZ,hAx,hBx,he2⟩
             case measure=>simp[intOf]
         .rw[show((2:Nat):Int)=(2:Int)from rfl];have hyL:y=lead:=by rw[Hy.out,axl (by omega),axl (by omega),ayw]
          rw[hyL]at hT;clear Hy Hyl Hyt Hyd hyr hyL Wl Xk JZ hAx hBx;have HVl:=axj (show(U.set r lead).length=R by rw[axM,HUl.out]);have HVr:=axj (show(U.set r lead)[r]?=some lead by rw[aAi (by rw[HUl.out];exact hlt)]);have HVi:=axj (show∀i:Nat,i≠r->(U.set r lead)[i]?=U[i]? from λi h=>by rw[List.getElem?_set_ne (Ne.symm h)]);have HTr:=axj (show T[r]?=some lead by rw[ahk.out r zk HUr.out];unfold Ops.Gt;rw[axl rfl]);generalize U.set r lead=V at*;go_wp2_with fail
          go_loopw [110] (λi wi=>∃j:Nat,j<=R/\i=.int .i64 j/\bV wi S KS G G' Xn WJ (T.take j++V.drop j) n m/\VB wi q 3 #[.int .i64 c]/\bG S w wi) (λi _=>R-(intOf i).toNat)
          case atStart=>exact⟨0,axq _,rfl,by simpa using hT,hq,he⟩
          case round=>
           clear hT hq he;obtain⟨j,hj,rfl,hT,hq,he⟩:=hrel;have hez:=he.size;by_cases hjl:j<R
           .by_cases hjr:j=r
            .have HM:=axj (yR T V (xR.out.trans HVl.out.symm) j lead (by rw[hjr];exact HTr.out) (by rw[hjr];exact HVr.out));have hjq:decide ((j:Int)=(r:Int))=true:=by simp[hjr]
             have atZ:(j:Int)=(r:Int):=by rw[hjr]
             clear hjr;go_wp2_with fail
             go_roundw;case rel=>exact⟨j+1,by omega,by go_num,by rw[<-HM.out];exact hT,hq,he⟩
             case measure=>simp[intOf];omega
            .have hjq:¬((j:Int)=(r:Int)):=by omega
             have Rw:(T.take j++V.drop j).length=R:=by rw[axv,axx,axF,xR.out,HVl.out];omega
             obtain⟨u,hu⟩:∃u,U[j]?=some u:=⟨_,axn (by rw[HUl.out];exact hjl)⟩;have hVj:V[j]?=some u:=by rw[HVi.out j hjr];exact hu
             have hMj:(T.take j++V.drop j)[j]?=some u:=by rw[EG T V (xR.out.trans HVl.out.symm) j (by rw[HVl.out];exact hjl)];exact hVj
             have hMr:(T.take j++V.drop j)[r]?=some lead:=by
              by_cases h:r<j
              .rw[axX (by rw[axx,xR.out];omega),axL,axl h];exact HTr.out
              .rw[axN (by rw[axx,xR.out];omega),axx,xR.out,axY,show j+(r-min j R)=r by omega];exact HVr.out
             have zY:u.length=n+m:=HUW.out _ (axo hu);have hug:jS p B u:=HUG.out _ (axo hu);obtain⟨x,hx⟩:∃x,u[c]?=some x:=⟨_,axn (by rw[zY];omega)⟩;have hxt:(u.take n)[c]?=some x:=by rw[axL,axl hcn];exact hx
             have hxg:=hug x (axo hx);have hTj:T[j]?=some (if jy x=true then u else(au p).less u x lead):=by rw[ahk.out j u hu];unfold Ops.Gt;rw[axm hjr,(au p).dD hx];rfl
             obtain⟨ob,row,cj,nL,hrow,hrl,hFB,er⟩:=hT.r.at_ (j:=j) (by rw[axs,Rw];exact hjl);obtain⟨oa2,sow,dj,ajj,Rh,hsl,hFA,ea⟩:=hT.a.at_ (j:=j) (by rw[axs,Rw];exact hjl);obtain⟨ob3,as7,cr3,ajg,hrow3,_,aov,er3⟩:=hT.r.at_ (j:=r) (by rw[axs,Rw];exact hlt);obtain⟨oa3,as5,dr3,aji,ai7,_,aow,ea3⟩:=hT.a.at_ (j:=r) (by rw[axs,Rw];exact hlt);obtain rfl:row=u.take n:=by rw[axw,hMj]at hrow;injection hrow with hrow;exact hrow.symm
             obtain⟨gj,rfl⟩:∃g,ob=some g:=by
              cases ob with
              |none=>have:u.take n=[]:=hFB;rw[this]at hxt;simp at hxt
              |some g=>exact⟨g,rfl⟩
             obtain⟨Ay,cy,By,dy,e0,e1,hAy,hBy⟩:=hFB.1.at_ hxt;have dN:=axj (show jk p (u.take n) (bY p x) (lead.take n)++jk p (u.drop n) (bY p x) (lead.drop n)=if jy x=true then u else(au p).less u x lead by
              rw[xO hxg.1 (λy hy=>(hug y (ayS hy)).1) (λy hy=>(Hlg.out y (ayS hy)).1),xO hxg.1 (λy hy=>(hug y (ayM hy)).1) (λy hy=>(Hlg.out y (ayM hy)).1)];split
              .exact ayw _ _
              .rw[<-Vz,<-VD,ayw])
             have HMS:=axj (yQ T V (xR.out.trans HVl.out.symm) j _ hTj);have Hug:=axj hug;have Xo:=axj zY;have xQ:=axj hxg;have HMj:=axj hMj;have HMr:=axj hMr;have BU:=axj Rw;have adR:=axj nL;have W_:=axj ajj;have aph:=axj ajg;have apj:=axj aji;have hq0:=hq.c0;have hpj:pB (some gj)=some ⟨gj,0,none⟩:=rfl;clear Rw hu hVj hMj hMr zY hug hx hxt hxg hTj nL ajj ajg aji hrow Rh hrow3 ai7 hrl hsl hFB hFA aov aow;rw[hpj]at er;obtain⟨nk,hnk⟩:=xq (bY p x);have HNg:∀W,Ex wr W->Calls prog 158 #[.int .i64 p,.agg #[.slice Ay x.n.length cy,.slice By x.d.length dy]] W λe w'=>G8 W nk e w':=λW h=>by rw[<-hnk];exact Gy p x Ay By cy dy W xQ.out.1 (hAy.ex h).1 (hBy.ex h).1 (by have:=xQ.out.2.1;omega) (by have:=xQ.out.2.2;omega)
             have HNf:=axj (show FV p nk/\FL B nk from hnk▸⟨xQ.out.1.neg,xQ.out.2.neg⟩);rw[hnk]at dN;clear hnk;go_wp2_with fail
             go_cut [18]from 111 to 147 (λs18 wx=>∃gk A1 c1 B1 d1,s18=.pointer (some ⟨gk,0,none⟩)/\VB wx gk 57 #[.slice A1 nk.n.length c1,.slice B1 nk.d.length d1]/\RX wx S A1 nk.n/\RX wx S B1 nk.d/\wr.heap.size<=gk/\Ex wr wx)
             case first=>
              have HSr:∀W,Ex wr W->(Ex wr W/\W.cell? ⟨G,j,none⟩=some (.slice (some ⟨gj,0,none⟩) n cj)/\W.cell? ⟨q,0,none⟩=some (.int .i64 c)/\W.cell? ⟨gj,c*2,none⟩=some (.slice Ay x.n.length cy)/\W.cell? ⟨gj,c*2+1,none⟩=some (.slice By x.d.length dy)):=λW h=>⟨h,af h er,af h hq0,af h e0,af h e1⟩
              have hSr:∀z,S z->z<wr.heap.size:=λz hz=>by have:=HS.out z hz;omega
              go_region_held3 (λW=>Ex wr W/\W.cell? ⟨G,j,none⟩=some (.slice (some ⟨gj,0,none⟩) n cj)/\W.cell? ⟨q,0,none⟩=some (.int .i64 c)/\W.cell? ⟨gj,c*2,none⟩=some (.slice Ay x.n.length cy)/\W.cell? ⟨gj,c*2+1,none⟩=some (.slice By x.d.length dy)) (first
               |(exact HSr _ (aaq x6 (axk _)))|(exact HSr _ (x6.alloc _).drew)|(exact HSr _ (x6.alloc _))|(exact HSr _ x6.drew)|(exact HSr _ x6)|(exact HSr _ ((aCQ wr).drew.alloc _))|(exact HSr _ ((aCQ wr).alloc _).drew)|(exact HSr _ ((aCQ wr).alloc _))|(exact HSr _ (aCQ wr).drew)|(exact HSr _ (aCQ wr))) (first
                |(go_at_call 158
                  have hb:=(‹Ex wr _/\_›).1;refine(HNg _ hb).mono ?_;rintro e w6 ⟨A6,c6,B6,d6,rfl,f6,p6,ap6,SB⟩;have x6:=hb.trans SB;have VW:=SB.size;have hzb:=hb.size;have fA:=f6.rx (S:=S) (λz hz=>axD (hSr z hz) hzb);have fB:=p6.rx (S:=S) (λz hz=>axD (hSr z hz) hzb)
                  try have vC:VB w6 wr.heap.size 57 #[.slice none 0 0,.slice none 0 0]:=VB.ex (w:=(wr.alloc (.cells #[.slice none 0 0,.slice none 0 0] 57)).drew) (VB.new wr 57 #[.slice none 0 0,.slice none 0 0]) SB
                  try have vC:VB w6 wr.heap.size 57 #[.slice none 0 0,.slice none 0 0]:=VB.ex (w:=wr.drew.alloc (.cells #[.slice none 0 0,.slice none 0 0] 57)) (VB.new wr.drew 57 #[.slice none 0 0,.slice none 0 0]) SB
                  try have vC:VB w6 wr.heap.size 57 #[.slice none 0 0,.slice none 0 0]:=VB.ex (w:=(wr.drew.alloc (.cells #[.slice none 0 0,.slice none 0 0] 57)).drew) (VB.new wr.drew 57 #[.slice none 0 0,.slice none 0 0]) SB
                  try have vC:VB w6 wr.heap.size 57 #[.slice none 0 0,.slice none 0 0]:=VB.ex (w:=wr.alloc (.cells #[.slice none 0 0,.slice none 0 0] 57)) (VB.new wr 57 #[.slice none 0 0,.slice none 0 0]) SB
                  try have c0:=vC.c0
                  try have c1:=vC.c1
                  try have f0:=vC.frozen 0
                  try have f1:=vC.frozen 1
                  clear hb))
              all_goals
               go_wp2_with fail
               go_meet
               first
               |exact⟨_,A6,c6,B6,d6,rfl,VB.new _ _ _,fA.ex ((aCQ w6).alloc _),fB.ex ((aCQ w6).alloc _),x6.size,x6.alloc _⟩
               |exact⟨_,A6,c6,B6,d6,rfl,VB.new _ _ _,fA.ex ((aCQ w6).drew.alloc _),fB.ex ((aCQ w6).drew.alloc _),x6.size,x6.drew.alloc _⟩
               |exact⟨_,A6,c6,B6,d6,rfl,(vC.bC 0 (.slice A6 nk.n.length c6)).bC 1 (.slice B6 nk.d.length d6),⟨f6.rd.afn (S:=λz=>z=wr.heap.size) (bG.aZ (((aM.refl wr.heap.size w6).setCell (p:=⟨wr.heap.size,0,none⟩) rfl (.slice A6 nk.n.length c6)).setCell (p:=⟨wr.heap.size,1,none⟩) rfl (.slice B6 nk.d.length d6)) rfl) (f6.rx (S:=λz=>z=wr.heap.size) (λz e=>by subst e;simp)).2,fA.2⟩,⟨p6.rd.afn (S:=λz=>z=wr.heap.size) (bG.aZ (((aM.refl wr.heap.size w6).setCell (p:=⟨wr.heap.size,0,none⟩) rfl (.slice A6 nk.n.length c6)).setCell (p:=⟨wr.heap.size,1,none⟩) rfl (.slice B6 nk.d.length d6)) rfl) (p6.rx (S:=λz=>z=wr.heap.size) (λz e=>by subst e;simp)).2,fB.2⟩,axk _,aaq x6 (axk _)⟩
             case rest=>
              obtain⟨W18,rfl⟩:∃q,q=wc:=⟨_,rfl⟩;obtain⟨gk,A1,c1,B1,d1,rfl,hgk,hA1,hB1,auc,x18⟩:=hcut;have Fg:=hT.ex x18;have af9:=hq.ex x18;have ajG:=he.trans (bG.aP (S:=S) x18) (λ_ _ h=>h);have er:=af x18 er;have er3:=af x18 er3;have ea:=af x18 ea;have ea3:=af x18 ea3;obtain⟨k0,k1⟩:=hgk.d2;have ZN:¬S gk:=λhs=>by have:=HS.out _ hs;omega
              clear hT hq he e0 e1 hAy hBy HNg hq0;have ajA:¬(gj=G):=Fg.r.ng j gj adR.out;have ajz:S gj:=by obtain⟨R',_,h1,_,_,h4,_⟩:=Fg.own;exact(h4 j gj adR.out).1
              have agq:=hgk.lt;have aez:¬(gj=G'):=Fg.d1 j gj adR.out;have atH:¬(q=G'):=λe=>hqS (e▸Fg.a.sg)
              have ald:∀W,Ex W18 W->Calls prog 84 #[.int .i64 p,.slice (some ⟨gj,0,none⟩) n cj,.agg #[.slice A1 nk.n.length c1,.slice B1 nk.d.length d1],.slice (pB ob3) n cr3] W λe w'=>e=.returned (.tuple #[])/\bV w' S KS G G' Xn WJ ((T.take j++V.drop j).set j (jk p (u.take n) nk (lead.take n)++u.drop n)) n m/\bG (λz=>some gj=some z) W18 w'/\(∀z,some gj=some z->S z):=λW h=>
               ((Fg.ex h).ao1 (p:=p) (c1:=cj) (c2:=cr3) (λz hz=>(Fg.ex h).sl z hz) (λe=>hjq (by rw[e])) HMj.out HMr.out adR.out aph.out (by omega) hn (hA1.ex h) (hB1.ex h) ((Hug.out.mono (by omega)).take n) ((Hlg.out.mono (by omega)).take n) HNf.out.1 (HNf.out.2.mono (by omega))).mono λe w' ⟨h1,h2,h3,h4⟩=>⟨h1,h2,(bG.aP h).trans h3 (λ_ _ h=>h),h4⟩
              have K24:∀W',bG (λz=>some gj=some z) W18 W'->(W'.cell? ⟨G,j,none⟩=some (.slice (some ⟨gj,0,none⟩) n cj)/\W'.cell? ⟨gk,0,none⟩=some (.slice A1 nk.n.length c1)/\W'.cell? ⟨gk,1,none⟩=some (.slice B1 nk.d.length d1)/\W'.cell? ⟨G,r,none⟩=some (.slice (pB ob3) n cr3)):=λW' x=>
               ⟨(axP (w:=W18) (a:=⟨G,j,none⟩) (x.block G Fg.r.lt (λe=>by injection e with e;exact ajA e))).trans er,
                (axP (w:=W18) (a:=⟨gk,0,none⟩) (x.block gk hgk.lt (λe=>by injection e with e;exact ZN (e▸ajz)))).trans k0,
                (axP (w:=W18) (a:=⟨gk,1,none⟩) (x.block gk hgk.lt (λe=>by injection e with e;exact ZN (e▸ajz)))).trans k1,
                (axP (w:=W18) (a:=⟨G,r,none⟩) (x.block G Fg.r.lt (λe=>by injection e with e;exact ajA e))).trans er3⟩
              go_wp2_with fail
              go_region_held3 (λW'=>W'.cell? ⟨G,j,none⟩=some (.slice (some ⟨gj,0,none⟩) n cj)/\W'.cell? ⟨gk,0,none⟩=some (.slice A1 nk.n.length c1)/\W'.cell? ⟨gk,1,none⟩=some (.slice B1 nk.d.length d1)/\W'.cell? ⟨G,r,none⟩=some (.slice (pB ob3) n cr3)) (first|(exact K24 _ x6)|(exact K24 _ (bG.refl _ _))|(exact K24 _ (bG.aP (aCQ _).drew))) (first
               |(go_at_call 84
                 refine(ald _ (by first|exact aCQ _|exact(aCQ _).drew|exact(aCQ _).drewN _)).mono ?_;rintro e w6 ⟨rfl,hT6,x6,hs6⟩))
              have hal:(jk p (u.take n) nk (lead.take n)).length=n:=by have h1:=Xo.out;have h2:=Gm.out;unfold jk tF;split<;>simp[axx,List.length_zipWith,h1,h2]<;>omega
              have hjM:j<(T.take j++V.drop j).length:=by rw[BU.out];exact hjl
              have HZ1:=axj (show((T.take j++V.drop j).set j (jk p (u.take n) nk (lead.take n)++u.drop n))[j]?=some (jk p (u.take n) nk (lead.take n)++u.drop n) by rw[aAi hjM]);have HZ2:=axj (show((T.take j++V.drop j).set j (jk p (u.take n) nk (lead.take n)++u.drop n))[r]?=some lead by rw[List.getElem?_set_ne (λe=>hjq (by rw[e]))];exact HMr.out);have ale:∀W,Ex w6 W->Calls prog 84 #[.int .i64 p,.slice (pB oa2) m dj,.agg #[.slice A1 nk.n.length c1,.slice B1 nk.d.length d1],.slice (pB oa3) m dr3] W λe w'=>e=.returned (.tuple #[])/\bV w' S KS G G' Xn WJ (T.take (j+1)++V.drop (j+1)) n m/\bG (λz=>oa2=some z) w6 w':=λW h=>
               ((hT6.ex h).ao2 (p:=p) (c1:=dj) (c2:=dr3) (λz hz=>(hT6.ex h).sl z hz) (λe=>hjq (by rw[e])) HZ1.out HZ2.out (by rw[axv,hal];omega) W_.out apj.out hm ((hA1.sx x6 hs6).ex h) ((hB1.sx x6 hs6).ex h) (by rw[azs hal];exact(Hug.out.mono (by omega)).drop n) ((Hlg.out.mono (by omega)).drop n) HNf.out.1 (HNf.out.2.mono (by omega))).mono λe w' ⟨h1,h2,h3⟩=>⟨h1,by
                rw[ay9,azr hal,azs hal,dN.out,HMS.out]at h2;exact h2,(bG.aP h).trans h3 (λ_ _ h=>h)⟩
              have he6:=ajG.trans x6 (λz _ e=>hs6 z e);have ant:=x6.size;have hq6:VB w6 q 3 #[.int .i64 c]:=(x6.block q af9.lt (λe=>hqS (hs6 q e))).trans af9;have k0:w6.cell? ⟨gk,0,none⟩=some (.slice A1 nk.n.length c1):=(axP (w:=W18) (a:=⟨gk,0,none⟩) (x6.block gk hgk.lt (λe=>ZN (hs6 gk e)))).trans k0;have k1:w6.cell? ⟨gk,1,none⟩=some (.slice B1 nk.d.length d1):=(axP (w:=W18) (a:=⟨gk,1,none⟩) (x6.block gk hgk.lt (λe=>ZN (hs6 gk e)))).trans k1;have ea:w6.cell? ⟨G',j,none⟩=some (.slice (pB oa2) m dj):=(axP (w:=W18) (a:=⟨G',j,none⟩) (x6.block G' Fg.a.lt (λe=>by injection e with e;exact aez e))).trans ea;have ea3:w6.cell? ⟨G',r,none⟩=some (.slice (pB oa3) m dr3):=(axP (w:=W18) (a:=⟨G',r,none⟩) (x6.block G' Fg.a.lt (λe=>by injection e with e;exact aez e))).trans ea3;clear Fg af9 ajG ald HZ1 HZ2 hal hjM x6 er er3 hgk;have hGa:=hT6.a.lt;have aey:=axD agq ant;have hkb:∀j',WJ[j']?=some (some gk)->False:=λj' hb=>by obtain⟨R',_,h1,_,_,_,h5⟩:=hT6.own;exact ZN (h5 j' gk hb).1
              have K25:∀W',bG (λz=>oa2=some z) w6 W'->(W'.cell? ⟨G',j,none⟩=some (.slice (pB oa2) m dj)/\W'.cell? ⟨gk,0,none⟩=some (.slice A1 nk.n.length c1)/\W'.cell? ⟨gk,1,none⟩=some (.slice B1 nk.d.length d1)/\W'.cell? ⟨G',r,none⟩=some (.slice (pB oa3) m dr3)):=λW' x=>
               ⟨(axP (w:=w6) (a:=⟨G',j,none⟩) (x.block G' hGa (λe=>hT6.a.ng j G' (by rw[W_.out,e]) rfl))).trans ea,
                (axP (w:=w6) (a:=⟨gk,0,none⟩) (x.block gk aey (λe=>hkb j (by rw[W_.out,e])))).trans k0,
                (axP (w:=w6) (a:=⟨gk,1,none⟩) (x.block gk aey (λe=>hkb j (by rw[W_.out,e])))).trans k1,
                (axP (w:=w6) (a:=⟨G',r,none⟩) (x.block G' hGa (λe=>hT6.a.ng j G' (by rw[W_.out,e]) rfl))).trans ea3⟩
              go_wp2_with fail
              go_region_held3 (λW'=>W'.cell? ⟨G',j,none⟩=some (.slice (pB oa2) m dj)/\W'.cell? ⟨gk,0,none⟩=some (.slice A1 nk.n.length c1)/\W'.cell? ⟨gk,1,none⟩=some (.slice B1 nk.d.length d1)/\W'.cell? ⟨G',r,none⟩=some (.slice (pB oa3) m dr3)) (first|(exact K25 _ x7)|(exact K25 _ (bG.refl _ _))|(exact K25 _ (bG.aP (aCQ _).drew))) (first
               |(go_at_call 84
                 refine(ale _ (by first|exact aCQ _|exact(aCQ _).drew|exact(aCQ _).drewN _)).mono ?_;rintro e w7 ⟨rfl,hT7,x7⟩))
              have ajh:∀z,oa2=some z->S z:=λz e=>by obtain⟨R',_,h1,_,_,_,h5⟩:=hT7.own;exact(h5 j z (by rw[W_.out,e])).1
              have TP:=he6.trans x7 (λz _ e=>ajh z e);have hq7:VB w7 q 3 #[.int .i64 c]:=(x7.block q hq6.lt (λe=>hqS (ajh q e))).trans hq6;clear ale k0 k1 ea ea3 hT6 hq6 he6 x7;go_wp2_with fail
              go_roundw;case rel=>exact⟨j+1,by omega,by go_num,hT7,hq7,TP⟩
              case measure=>simp[intOf];omega
           .obtain rfl:j=R:=by omega
            rw[axG (by rw[xR.out];exact axk _),ay0 (by rw[HVl.out];exact axk _),ax8]at hT;have q0:=hq.c0;obtain⟨y6,v6⟩:=VB.xn wr 3 #[.int .i64 ((c:Int)+1)];go_wp2_with fail
            go_roundg f
            case measure=>omega
            case rel=>exact⟨c+1,r+1,wr.heap.size,Xn,WJ,T,by omega,by go_num,rfl,by simpa using v6,by omega,hT.ex y6,HTW,HSk,xR,by omega,HN,he.trans (bG.aP (S:=S) y6) (λ_ _ h=>h)⟩
   .have H:=axj (fin (f+1) rfl (.inr (by omega)));clear fin;go_wp2_with fail
    go_ret;rw[H.out];exact⟨bs,bs',rfl,hT,he⟩
theorem XR{Z0:List (List aG)}(hG:iB p L Z0)(hW:aQ N Z0):∀c,c<=N->iB p (L*4^c) (jN (au p) Z0 c).1/\aQ N (jN (au p) Z0 c).1/\(jN (au p) Z0 c).1.length=Z0.length
 |0,_=>⟨by simpa[jN]using hG,hW,rfl⟩
 |c+1,hc=>by
  obtain⟨h1,h2,h3⟩:=XR hG hW c (by omega);rw[jN];split
  .rename_i hf;have hr:=kU (au p) hf;dsimp only;refine⟨?_,h2.piv (by omega) hf,by rw[eH];exact h3⟩;rw[show L*4^(c+1)=4*(L*4^c) by rw[Nat.pow_succ,ayq (4^c) 4,Nat.mul_left_comm]];exact h1.piv h2 (by omega) hf (by omega) hr.2
  .exact⟨h1.mono (by rw[Nat.pow_succ];exact Nat.mul_le_mul_left _ (by omega)),h2,h3⟩
theorem Qa{Z0:List (List aG)}(hG:iB p L Z0)(hW:aQ N Z0)(hn:n<=N)(hL:L*4^n<=17179869184):∀c,c<=n->iB p 17179869184 (jN (au p) Z0 c).1:=λc hc=>
 (XR hG hW c (by omega)).1.mono (axA (Nat.mul_le_mul_left _ (Nat.pow_le_pow_right (by omega) hc)) hL)
theorem dZ{A':Option Addr}{c':Nat}(hA:Fr w B A c x.n)(hA':Fr w B A' c' x.d)(h:Apart A A')(hB:B<=w.heap.size):tQ w B w.heap.size (.slice A x.n.length c) (.slice A' x.d.length c') x:=by
 have one:∀{A:Option Addr} {c:Nat} {l:List Int},Fr w B A c l->∃a b,OI w a b (.slice A l.length c) l/\B<=a/\b<=w.heap.size/\((A=none/\a=B/\b=B)∨∃p,A=some p/\a=p.block/\b=p.block+1):=λ{A c l} hf=>by
  cases A with
  |none=>exact⟨B,B,⟨_,_,rfl,⟨hf.1,hf.2.1,λa e=>by cases e⟩,λa e=>by cases e⟩,axk _,hB,.inl ⟨rfl,rfl,rfl⟩⟩
  |some p=>obtain⟨h1,cur,h2⟩:=hf.2.2 p rfl;exact⟨p.block,p.block+1,⟨_,_,rfl,⟨hf.1,hf.2.1,λa e=>by injection e with e;subst e;exact⟨axk _,cur,h2⟩⟩,λa e=>by injection e with e;subst e;exact ayf _⟩,h1,aF h2,.inr ⟨p,rfl,rfl,rfl⟩⟩
 obtain⟨a0,b0,o0,l0,u0,k0⟩:=one hA;obtain⟨a1,b1,o1,l1,u1,k1⟩:=one hA';refine⟨a0,b0,a1,b1,o0,o1,l0,u0,l1,u1,?_⟩;rcases k0 with⟨_,e1,e2⟩|⟨p,e0,e1,e2⟩<;>rcases k1 with⟨_,e3,e4⟩|⟨q,e5,e3,e4⟩
 .omega
 .omega
 .omega
 .have:=h p q e0 e5;omega
def rR:EL aG where
 k:=2
 O:=λw a b vs x=>∃v0 v1,vs=[v0,v1]/\tQ w a b v0 v1 x
 mM:=λh=>by obtain⟨_,_,rfl,_⟩:=h;rfl
 keep:=λh hk=>by obtain⟨v0,v1,e,h⟩:=h;exact⟨v0,v1,e,h.keep hk⟩
 one:=λh u hu=>by obtain⟨v0,v1,e,h⟩:=h;obtain⟨_,_,_,_,⟨A,c,e0,_⟩,⟨B,d,e1,_⟩,_⟩:=h;subst e e0 e1;simp at hu;rcases hu with rfl|rfl<;>rfl
def O4(w:World)(a b:Nat)(v:Value)(x:List aG):Prop:=v≠.slice none 0 0/\GE rR 57 w a b v x
def Pn:EL (List aG) where
 k:=1
 O:=λw a b vs x=>∃v,vs=[v]/\O4 w a b v x
 mM:=λh=>by obtain⟨_,rfl,_⟩:=h;rfl
 keep:=λh hk=>by obtain⟨v,e,h1,h2⟩:=h;exact⟨v,e,h1,h2.keep hk⟩
 one:=λh u hu=>by obtain⟨v,e,h1,h2⟩:=h;obtain⟨A,c,e2⟩:=h2.kH;subst e e2;simp at hu;subst hu;rfl
def akR(w:World)(a b:Nat)(v:Value)(x:List (List aG)):Prop:=v≠.slice none 0 0/\GE Pn 54 w a b v x
theorem jU{v:Value}(h:GE rR 57 w B H v xs)(hH:H<=w.heap.size){a:Nat}(hu:tQ w a b v0 v1 x)(ha:H<=a)(hab:a<=b)(hb:b<=w.heap.size)(hB:B<=H)(hl:xs.length+1<=1099511627776):
 ∃v' w',(Builtin.append_ #[54,54] 54 #[v,.slice (some ⟨w.heap.size,0,none⟩) 1 1]).run prog (w.alloc (.cells #[v0,v1] 57))=.ok v' w'/\
  GE rR 57 w' B w'.heap.size v' (xs++[x])/\qh v.ownBlock w w'/\v'≠.slice none 0 0/\∀b',Ex b' w->b'.heap.size<=B->Ex b' w':=by
 obtain⟨i,hi,hz,hs,hby⟩:=axW mH;obtain⟨v',w',h1,h2,h3,_,h5,h6⟩:=GE.push rR Tryz.underlying54 hi hz hs hby rfl (by decide) (by omega) h hH ⟨v0,v1,rfl,hu⟩ ha hab hb hB hl;exact⟨v',w',h1,h2,h3,h5,h6⟩
theorem MS{v:Value}{xs:List (List aG)}(h:GE Pn 54 w B H v xs)(hH:H<=w.heap.size){x:List aG}{a:Nat}(hu:O4 w a b v0 x)(ha:H<=a)(hab:a<=b)(hb:b<=w.heap.size)(hB:B<=H)(hl:xs.length+1<=1099511627776):
 ∃v' w',(Builtin.append_ #[26,26] 26 #[v,.slice (some ⟨w.heap.size,0,none⟩) 1 1]).run prog (w.alloc (.cells #[v0] 54))=.ok v' w'/\
  GE Pn 54 w' B w'.heap.size v' (xs++[x])/\qh v.ownBlock w w'/\v'≠.slice none 0 0/\∀b',Ex b' w->b'.heap.size<=B->Ex b' w':=by
 obtain⟨i,hi,hz,hs,hby⟩:=axW jB;obtain⟨v',w',h1,h2,h3,_,h5,h6⟩:=GE.push Pn Tryz.underlying26 hi hz hs hby rfl (by decide) (by omega) h hH ⟨v0,rfl,hu⟩ ha hab hb hB hl;exact⟨v',w',h1,h2,h3,h5,h6⟩
theorem FP(x:aG)(A B:Option Addr)(c d:Nat)(w:World)(hA:Rd w A x.n)(hB:Rd w B x.d):
 Calls prog 101 #[.agg #[.slice A x.n.length c,.slice B x.d.length d]] w λe w'=>G8 w x e w':=by
 obtain⟨n,m⟩:=x;dsimp only at hA hB⊢;obtain⟨x0,v0⟩:=VB.xn w 57 #[.slice A n.length c,.slice B m.length d];have s0:(w.alloc (.cells #[.slice A n.length c,.slice B m.length d] 57)).heap.size=w.heap.size+1:=by simp
 go_enter Tryz.func101,Tryz.ntmps101
 go_wp2_with fail
 generalize w.alloc (.cells #[.slice A n.length c,.slice B m.length d] 57)=W0 at*;obtain⟨x1,v1⟩:=VB.xn W0 57 #[.slice none 0 0,.slice none 0 0];have s1:(W0.alloc (.cells #[.slice none 0 0,.slice none 0 0] 57)).heap.size=w.heap.size+1+1:=by simp;exact s0
 rw[s0]at v1;generalize W0.alloc (.cells #[.slice none 0 0,.slice none 0 0] 57)=W1 at*;have v0:=v0.ex x1;have xx:=x0.trans x1;clear x0 x1;obtain⟨q0,q1⟩:=v0.d2;have Xi:∀W,aM (w.heap.size+1) W1 W->(aM (w.heap.size+1) W1 W/\W.cell? ⟨w.heap.size,0,none⟩=some (.slice A n.length c)/\W.cell? ⟨w.heap.size,1,none⟩=some (.slice B m.length d)):=λW h=>⟨h,(v0.aK h (by omega)).c0,(v0.aK h (by omega)).c1⟩
 have eA:=(aM.refl (w.heap.size+1) W1).drew;go_region_held3 (λW=>aM (w.heap.size+1) W1 W/\W.cell? ⟨w.heap.size,0,none⟩=some (.slice A n.length c)/\W.cell? ⟨w.heap.size,1,none⟩=some (.slice B m.length d)) (first
  |(exact Xi _ ((e4.setCell rfl _).setCell rfl _))|(exact Xi _ e4)|(exact Xi _ e3)|(exact Xi _ eA)|(exact Xi _ (aM.refl _ _))) (first
  |(go_at_call_of 134 (Value.slice A n.length c)
    have hb:=(‹aM (w.heap.size+1) W1 _/\_›).1;refine(zK A c n _ (hA.ex (xx.aK hb (by omega)))).mono ?_;rintro e w3 ⟨g3,c3,rfl,hc3,hg3,o3,x3⟩;have e3:=hb.trans (aM.aP x3);have z3:=hb.size';clear hb)
  |(go_at_call_of 134 (Value.slice B m.length d)
    refine(zK B d m w3 (hB.ex (xx.aK e3 (by omega)))).mono ?_;rintro e w4 ⟨g4,c4,rfl,hc4,hg4,o4,x4⟩;have e4:=e3.trans (aM.aP x4);have z4:=x3.size;have v4:VB w4 (w.heap.size+1) 57 #[.slice none 0 0,.slice none 0 0]:=by first|exact(v1.ex x3).ex x4|exact(VB.ex (w:=W1.drew) v1 x3).ex x4
    obtain⟨r0,r1⟩:=v4.d2;have k0:=v4.frozen 0;have k1:=v4.frozen 1))
 all_goals
  have hl3:=o3.lt;have E5:aM (w.heap.size+1) w4 ((w4.setCell ⟨w.heap.size+1,0,none⟩ (.slice (some ⟨g3,0,none⟩) n.length c3)).setCell ⟨w.heap.size+1,1,none⟩ (.slice (some ⟨g4,0,none⟩) m.length c4)):=((aM.refl _ w4).setCell (p:=⟨w.heap.size+1,0,none⟩) rfl _).setCell (p:=⟨w.heap.size+1,1,none⟩) rfl _;have v5:VB ((w4.setCell ⟨w.heap.size+1,0,none⟩ (.slice (some ⟨g3,0,none⟩) n.length c3)).setCell ⟨w.heap.size+1,1,none⟩ (.slice (some ⟨g4,0,none⟩) m.length c4)) (w.heap.size+1) 57 #[.slice (some ⟨g3,0,none⟩) n.length c3,.slice (some ⟨g4,0,none⟩) m.length c4]:=(v4.bC 0 _).bC 1 _;obtain⟨D0,D1⟩:=v5.d2;have yy:Ex w _:=(xx.aK e4 (by omega)).aK E5 (by omega);have zx:=xx.size;have f3:=(((o3.ex x4).aK E5 (by omega)).fr hA.len (B:=w.heap.size) (by omega) hc3);have f4:=((o4.aK E5 (by omega)).fr hB.len (B:=w.heap.size) (by omega) hc4);go_wp2_with fail
  refine axu (v:=.agg #[.slice (some ⟨g3,0,none⟩) n.length c3,.slice (some ⟨g4,0,none⟩) m.length c4]) (by simp[results,Tryz.results101,go_sem,D0,D1]) rfl ?_;exact⟨_,c3,_,c4,rfl,f3,f4,iA (by omega),yy⟩
theorem mP(A:Option Addr)(c:Nat)(xs:List aG)(w:World)(h:bW EF w A xs):
 Calls prog 67 #[.slice A xs.length c] w λe w'=>∃v,e=.returned v/\O4 w' w.heap.size w'.heap.size v xs/\Ex w w':=by
 have hl:=h.1;have tX:=GE.empty rR 57 w (axk w.heap.size);have he1:=(aCQ w).alloc (.cells #[] 57);have hs1:(w.alloc (.cells #[] 57)).heap.size=w.heap.size+1:=by simp
 go_enter Tryz.func67,Tryz.ntmps67
 go_wp2_with fail
 go_loopw [3,9] (λo i wr=>∃k:Nat,k<=xs.length/\i=.int .i64 k/\GE rR 57 wr w.heap.size wr.heap.size o (xs.take k)/\o≠.slice none 0 0/\Ex w wr) (λ_ i _=>xs.length-(intOf i).toNat)
 case atStart=>exact⟨0,axq _,rfl,by rw[hs1];exact tX,by simp,he1⟩
 case round=>
  clear tX he1 hs1;obtain⟨k,hk,rfl,hge,hnn,he⟩:=hrel;by_cases hlt:k<xs.length
  .obtain⟨g,off,x,P,pc,Q,qc,rfl,hx,c0,c1,hP,hQ⟩:=(h.ex he).iy hlt;have HT:=axj (show xs.take (k+1)=xs.take k++[x] by rw[axy,hx];rfl);have y1:=(aCQ wr).alloc (.cells #[.slice P x.n.length pc,.slice Q x.d.length qc] 57);have hz:=he.size;have htl:(xs.take k).length<=k:=ax7 _ _;clear hx;go_wp2_with fail
   generalize wr.alloc (.cells #[.slice P x.n.length pc,.slice Q x.d.length qc] 57)=W1 at*;refine(FP x P Q pc qc W1 (hP.ex y1) (hQ.ex y1)).mono ?_;rintro e w3 ⟨A3,c3,B3,d3,rfl,f3,p3,Uw,x3⟩;have y3:=y1.trans x3;have hz1:=y1.size;have hz3:=x3.size;obtain⟨v',w4,hrun,hge4,_,NQ,zf⟩:=jU (hge.ex y3) (by omega) (dZ (x:=x) f3 p3 Uw hz3) (by omega) hz3 (axk _) hz (by omega);rw[<-HT.out]at hge4;have xL:=zf w (he.trans y3) (axk _);clear zf HT htl;go_wp2_with (at_builtin;refine wpList_append_run rfl _ _ _ rfl rfl rfl hrun ?_)
   go_roundw;case rel=>exact⟨k+1,by omega,by go_num,hge4,NQ,xL⟩
   case measure=>simp[intOf];omega
  .obtain rfl:k=xs.length:=by omega
   rw[axE]at hge;go_wp2_with fail
   go_ret;exact⟨_,rfl,⟨hnn,hge⟩,he⟩
theorem FO(A:Option Addr)(c:Nat)(xs:List (List aG))(w:World)(h:bW iX w A xs):
 Calls prog 119 #[.slice A xs.length c] w λe w'=>∃v,e=.returned v/\akR w' w.heap.size w'.heap.size v xs/\Ex w w':=by
 have hl:=h.1;have tX:=GE.empty Pn 54 w (axk w.heap.size);have he1:=(aCQ w).alloc (.cells #[] 54);have hs1:(w.alloc (.cells #[] 54)).heap.size=w.heap.size+1:=by simp
 go_enter Tryz.func119,Tryz.ntmps119
 go_wp2_with fail
 go_loopw [3,9] (λo i wr=>∃k:Nat,k<=xs.length/\i=.int .i64 k/\GE Pn 54 wr w.heap.size wr.heap.size o (xs.take k)/\o≠.slice none 0 0/\Ex w wr) (λ_ i _=>xs.length-(intOf i).toNat)
 case atStart=>exact⟨0,axq _,rfl,by rw[hs1];exact tX,by simp,he1⟩
 case round=>
  clear tX he1 hs1;obtain⟨k,hk,rfl,hge,hnn,he⟩:=hrel;by_cases hlt:k<xs.length
  .obtain⟨g,off,x,v,rfl,hx,c0,hv⟩:=(h.ex he).jf hlt;obtain⟨P,pc,rfl,hP⟩:=hv.form;have HT:=axj (show xs.take (k+1)=xs.take k++[x] by rw[axy,hx];rfl);have hz:=he.size;have htl:(xs.take k).length<=k:=ax7 _ _;clear hx hv;go_wp2_with fail
   refine(mP P pc x wr hP).mono ?_;rintro e w3 ⟨v3,rfl,r3,x3⟩;obtain⟨A3,c3,ev⟩:=r3.2.kH;subst ev;have hz3:=x3.size;obtain⟨v',w4,hrun,hge4,_,NQ,zf⟩:=MS (hge.ex x3) hz3 r3 (axk _) hz3 (axk _) hz (by omega);rw[<-HT.out]at hge4;have xL:=zf w (he.trans x3) (axk _);clear zf HT htl;go_wp2_with (at_builtin;refine wpList_append_run rfl _ _ _ rfl rfl rfl hrun ?_)
   go_roundw;case rel=>exact⟨k+1,by omega,by go_num,hge4,NQ,xL⟩
   case measure=>simp[intOf];omega
  .obtain rfl:k=xs.length:=by omega
   rw[axE]at hge;go_wp2_with fail
   go_ret;exact⟨_,rfl,⟨hnn,hge⟩,he⟩
theorem BJ{P:Nat->Nat->Prop}:∀(n:Nat),(∀j,j<n->∃g,P j g)->∃gs:List Nat,gs.length=n/\∀(j g:Nat),gs[j]?=some g->P j g
 |0,_=>⟨[],rfl,λj g h=>by simp at h⟩
 |n+1,h=>by
  obtain⟨gs,h1,h2⟩:=BJ n λj hj=>h j (by omega)
  obtain⟨g,hg⟩:=h n (by omega);refine⟨gs++[g],by simp[h1],λj g' hj=>?_⟩;by_cases e:j<n
  .rw[axX (by omega)]at hj;exact h2 j g' hj
  .have hl:=(axp.1 hj).1;rw[axv,ayt]at hl;obtain rfl:j=n:=by omega
   rw[axN (by omega),h1,ayd]at hj;injection hj with hj;subst hj;exact hg
theorem Eb(h:GE rR 57 w B H (.slice (some ⟨g,0,none⟩) n c) xs):
 ∃(cur:Array Value) (lo hi:Nat->Nat),w.heap[g]?=some (.cells cur 57 (0,0))/\B<=g/\g<H/\n=xs.length/\
  (∀(i:Nat) (x:aG),xs[i]?=some x->∃A c A' d,cur[i*2]?=some (.slice A x.n.length c)/\cur[i*2+1]?=some (.slice A' x.d.length d)/\FI w (lo (i*2)) (hi (i*2)) A c x.n/\FI w (lo (i*2+1)) (hi (i*2+1)) A' d x.d)/\
  (∀o,o<2*xs.length->B<=lo o/\hi o<=H/\(g<lo o∨hi o<=g))/\
  ∀o o',o<2*xs.length->o'<2*xs.length->o≠o'->hi o<=lo o'∨hi o'<=lo o:=by
 obtain⟨cur,al,bl,hn,hB,hH,hc,h1,h2⟩:=h.at_;have hsk:∀i,∃p:(Nat×Nat)×(Nat×Nat),∀(x:aG),xs[i]?=some x->∃A c A' d,cur[i*2]?=some (.slice A x.n.length c)/\cur[i*2+1]?=some (.slice A' x.d.length d)/\FI w p.1.1 p.1.2 A c x.n/\FI w p.2.1 p.2.2 A' d x.d/\
  al i<=p.1.1/\p.1.2<=bl i/\al i<=p.2.1/\p.2.2<=bl i/\(p.1.2<=p.2.1∨p.2.2<=p.1.1):=λi=>by
  cases hx:xs[i]? with
  |none=>exact⟨((0,0),(0,0)),λx h=>by cases h⟩
  |some x=>obtain⟨u,q1,⟨v0,v1,rfl,a0,b0,a1,b1,⟨A,c,rfl,f0⟩,⟨A',d,rfl,f1⟩,r1,r2,r3,r4,r5⟩,_⟩:=h1 i x hx;refine⟨((a0,b0),(a1,b1)),λy hy=>?_⟩;injection hy with hy;subst hy;exact⟨A,c,A',d,q1 0 _ rfl,q1 1 _ rfl,f0,f1,r1,r2,r3,r4,r5⟩
 obtain⟨f,hf⟩:=Classical.skolem.1 hsk;have he:∀i,(i*2)%2=0/\i*2 / 2=i/\(i*2+1)%2≠0/\(i*2+1) / 2=i:=λi=>by omega
 have hat:∀o,o<2*xs.length->∃x,xs[o / 2]?=some x:=λo ho=>⟨_,axn (by omega)⟩
 have bd:∀o,o<2*xs.length->al (o / 2)<=(if o%2=0 then(f (o / 2)).1.1 else(f (o / 2)).2.1)/\(if o%2=0 then(f (o / 2)).1.2 else(f (o / 2)).2.2)<=bl (o / 2):=λo ho=>by
  obtain⟨x,hx⟩:=hat o ho;obtain⟨_,_,_,_,_,_,_,_,r1,r2,r3,r4,_⟩:=hf (o / 2) x hx;split
  .exact⟨r1,r2⟩
  .exact⟨r3,r4⟩
 refine⟨cur,λo=>if o%2=0 then(f (o / 2)).1.1 else(f (o / 2)).2.1,λo=>if o%2=0 then(f (o / 2)).1.2 else(f (o / 2)).2.2,hc,hB,hH,hn,λi x hx=>?_,λo ho=>?_,λo o' ho ho' hne=>?_⟩
 .obtain⟨A,c,A',d,q1,q2,q3,q4,_⟩:=hf i x hx;obtain⟨e1,e2,e3,e4⟩:=he i;refine⟨A,c,A',d,q1,q2,?_,?_⟩
  .dsimp only;rw[axl e1,axl e1,e2];exact q3
  .dsimp only;rw[axm e3,axm e3,e4];exact q4
 .obtain⟨x,hx⟩:=hat o ho;obtain⟨_,_,_,hb1,hb2,hb3⟩:=h1 (o / 2) x hx;have:=bd o ho;dsimp only;omega
 .dsimp only;have b1:=bd o ho;have b2:=bd o' ho';by_cases e:o / 2=o' / 2
  .obtain⟨x,hx⟩:=hat o ho;obtain⟨_,_,_,_,_,_,_,_,_,_,_,_,r5⟩:=hf (o / 2) x hx;rw[<-e];by_cases p0:o%2=0
   .rw[axl p0,axl p0,axm (by omega),axm (by omega)];omega
   .rw[axm p0,axm p0,axl (by omega),axl (by omega)];omega
  .have:=h2 (o / 2) (o' / 2) (by omega) (by omega) e;omega
theorem Ea{R:Nat}(h:GE Pn 54 w B H (.slice (some ⟨G,0,none⟩) R c) rows)(hw:aQ n rows):
 R=rows.length/\B<=G/\G<H/\∃gs:List Nat,gs.length=rows.length/\(∀(j g:Nat),gs[j]?=some g->B<=g/\g<H/\g≠G)/\(∀(i j g:Nat),gs[i]?=some g->gs[j]?=some g->i=j)/\
  (∃cur:Array Value,w.heap[G]?=some (.cells cur 54 (0,0))/\∀(j g:Nat),gs[j]?=some g->∃c,n<=c/\cur[j]?=some (.slice (some ⟨g,0,none⟩) n c))/\
  ∀S:Nat->Prop,(∀z,S z->B<=z->z<H->z=G∨∃j:Nat,gs[j]?=some z)->
   (∀(j g:Nat) (r:List aG),gs[j]?=some g->rows[j]?=some r->pG w S g r)/\Ow w S (λb o=>∃j:Nat,gs[j]?=some b/\o<2*n)/\
   ∀(b o:Nat) (a:Addr) (m d:Nat),(∃j:Nat,gs[j]?=some b/\o<2*n)->w.cell? ⟨b,o,none⟩=some (.slice (some a) m d)->B<=a.block/\a.block<H:=by
 obtain⟨cur,al,bl,hR,hB,hH,hc,h1,h2⟩:=h.at_;refine⟨hR,hB,hH,?_⟩;obtain⟨gs,hgl,hgs⟩:=BJ (P:=λj g=>∃x c,rows[j]?=some x/\n<=c/\cur[j]?=some (.slice (some ⟨g,0,none⟩) n c)/\GE rR 57 w (al j) (bl j) (.slice (some ⟨g,0,none⟩) n c) x/\B<=al j/\bl j<=H/\(G<al j∨bl j<=G)) rows.length λj hj=>by obtain⟨u,q1,⟨v,rfl,hv,hge⟩,r1,r2,r3⟩:=h1 j _ (axn hj);obtain⟨g,d,e,hd,_⟩:=hge.form hv;subst e;have hwj:=hw rows[j] (ax6 hj);rw[hwj]at q1 hge hd;refine⟨g,rows[j],d,axn hj,hd,?_,hge,r1,r2,r3⟩;have:=q1 0 _ rfl;rwa[show Pn.k=1 from rfl,ays,ayb]at this
 have hlt:∀(j g:Nat),gs[j]?=some g->j<rows.length:=λj g hj=>by have:=(axp.1 hj).1;omega
 have hin:∀(j g:Nat),gs[j]?=some g->al j<=g/\g<bl j:=λj g hj=>by obtain⟨x,d,_,_,_,hge,_⟩:=hgs j g hj;exact hge.own g rfl
 have hnd:∀(i j g:Nat),gs[i]?=some g->gs[j]?=some g->i=j:=λi j g hi hj=>by apply ayv;intro hne;have:=h2 i j (hlt i g hi) (hlt j g hj) hne;have:=hin i g hi;have:=hin j g hj;omega
 refine⟨gs,hgl,λj g hj=>?_,hnd,⟨cur,hc,λj g hj=>?_⟩,λS hS=>?_⟩
 .obtain⟨x,d,_,_,_,_,r1,r2,r3⟩:=hgs j g hj;have:=hin j g hj;omega
 .obtain⟨x,d,_,q0,q,_⟩:=hgs j g hj;exact⟨d,q0,q⟩
 ·
  have away:∀(j g p lo hi:Nat),gs[j]?=some g->al j<=lo->hi<=bl j->(g<lo∨hi<=g)->lo<=p->p<hi->¬S p/\B<=p/\p<H:=λj g p lo hi hj k1 k2 k3 k4 k5=>by
   obtain⟨x,d,_,_,_,_,r1,r2,r3⟩:=hgs j g hj;refine⟨λhs=>?_,by omega,by omega⟩;rcases hS p hs (by omega) (by omega)with e|⟨i,hi'⟩
   .omega
   .by_cases e:i=j
    .subst e;rw[hj]at hi';injection hi' with hi';omega
    .have:=h2 i j (hlt i p hi') (hlt j g hj) e;have:=hin i p hi';omega
  refine⟨λj g r hj hr=>?_,?_,?_⟩
  .obtain⟨x,d,hx,_,_,hge,_⟩:=hgs j g hj;rw[hr]at hx;injection hx with hx;subst hx;obtain⟨cu,lo,hi,k1,k2,k3,k4,k5,k6,k7⟩:=Eb hge;refine⟨cu,k1,λi x hi'=>?_⟩;obtain⟨A,ca,A',d',q1,q2,q3,q4⟩:=k5 i x hi';have hil:=(axp.1 hi').1;have b0:=k6 (i*2) (by omega);have b1:=k6 (i*2+1) (by omega);exact⟨A,ca,A',d',q1,q2,⟨q3.rd,λ_ a e=>(away j g a.block _ _ hj b0.1 b0.2.1 b0.2.2 (q3.fr.hi a e) (q3.lo a e)).1⟩,⟨q4.rd,λ_ a e=>(away j g a.block _ _ hj b1.1 b1.2.1 b1.2.2 (q4.fr.hi a e) (q4.lo a e)).1⟩⟩
  all_goals
   have key:∀(b o:Nat) (a:Addr) (m d:Nat),(∃j:Nat,gs[j]?=some b/\o<2*n)->w.cell? ⟨b,o,none⟩=some (.slice (some a) m d)->(¬S a.block/\m<=d/\∃cu,w.heap[a.block]?=some (.cells cu 3 (0,0)))/\B<=a.block/\a.block<H/\
    ∃(j:Nat) (x:List aG) (lo hi:Nat->Nat),gs[j]?=some b/\o<2*n/\lo o<=a.block/\a.block<hi o/\al j<=lo o/\hi o<=bl j/\∀o' a',o'<2*n->o'≠o->w.cell? ⟨b,o',none⟩=some (.slice (some a') m d)->True:=by
    intro b o a m d hb hcell;obtain⟨j,hj,ho⟩:=hb;obtain⟨x,d2,hx,_,_,hge,_⟩:=hgs j b hj;obtain⟨cu,lo,hi,k1,k2,k3,k4,k5,k6,k7⟩:=Eb hge;obtain⟨y,hy⟩:∃y,x[o / 2]?=some y:=⟨_,axn (by omega)⟩;obtain⟨A,ca,A',d',q1,q2,q3,q4⟩:=k5 _ y hy;have b0:=k6 o (by omega);have TQ:cu[o]?=some (.slice (some a) m d):=by simpa[World.cell?,k1]using hcell
    have hfin:∃(A:Option Addr) (ca:Nat) (l:List Int),FI w (lo o) (hi o) A ca l/\A=some a/\m=l.length/\d=ca:=by
     rcases(show o=o / 2*2∨o=o / 2*2+1 by omega)with e|e
     .rw[<-e]at q1 q3;rw[TQ]at q1;injection q1 with q1;injection q1 with e1 e2 e3;exact⟨A,ca,_,q3,e1.symm,e2,e3⟩
     .rw[<-e]at q2 q4;rw[TQ]at q2;injection q2 with q2;injection q2 with e1 e2 e3;exact⟨A',d',_,q4,e1.symm,e2,e3⟩
    obtain⟨A2,c2,l,hf,rfl,rfl,rfl⟩:=hfin;have h3:=hf.fr.hi a rfl;have h4:=hf.lo a rfl;obtain⟨s1,s2,s3⟩:=away j b a.block _ _ hj b0.1 b0.2.1 b0.2.2 h3 h4;obtain⟨_,cu2,h5⟩:=hf.fr.2.2 a rfl;exact⟨⟨s1,hf.fr.cap,cu2,h5⟩,s2,s3,j,x,lo,hi,hj,ho,h3,h4,b0.1,b0.2.1,λ_ _ _ _ _=>trivial⟩
  .intro b o a m d hb hcell;refine⟨(key b o a m d hb hcell).1,λb' o' a' m' d' hb' hcell' ea=>?_⟩;obtain⟨_,_,_,j,_,_,_,hj,_,l1,l2,l3,l4,_⟩:=key b o a m d hb hcell;obtain⟨_,_,_,j',_,_,_,hj',_,m1,m2,m3,m4,_⟩:=key b' o' a' m' d' hb' hcell';obtain rfl:j=j':=by
    apply ayv;intro hne;have:=h2 j j' (hlt j b hj) (hlt j' b' hj') hne;omega
   rw[hj]at hj';injection hj' with hj';subst hj';refine⟨rfl,?_⟩;obtain⟨_,_,ho⟩:=hb;obtain⟨_,_,ho'⟩:=hb';obtain⟨x,d2,hx,_,_,hge,_⟩:=hgs j b hj;obtain⟨cu,lo,hi,k1,k2,k3,k4,k5,k6,k7⟩:=Eb hge;have inn:∀(o:Nat) (a:Addr) (m d:Nat),o<2*n->w.cell? ⟨b,o,none⟩=some (.slice (some a) m d)->lo o<=a.block/\a.block<hi o:=λo a m d ho hcell=>by
    obtain⟨y,hy⟩:∃y,x[o / 2]?=some y:=⟨_,axn (by omega)⟩;obtain⟨A,ca,A',d',q1,q2,q3,q4⟩:=k5 _ y hy;have TQ:cu[o]?=some (.slice (some a) m d):=by simpa[World.cell?,k1]using hcell
    rcases(show o=o / 2*2∨o=o / 2*2+1 by omega)with e|e
    .rw[<-e]at q1 q3;rw[TQ]at q1;injection q1 with q1;injection q1 with e1 e2 e3;exact⟨q3.fr.hi a e1.symm,q3.lo a e1.symm⟩
    .rw[<-e]at q2 q4;rw[TQ]at q2;injection q2 with q2;injection q2 with e1 e2 e3;exact⟨q4.fr.hi a e1.symm,q4.lo a e1.symm⟩
   apply ayv;intro hne;have i1:=inn o a m d ho hcell;have i2:=inn o' a' m' d' ho' hcell';have:=k7 o o' (by omega) (by omega) (λe=>hne e.symm);omega
  .intro b o a m d hb hcell;obtain⟨_,r1,r2,_⟩:=key b o a m d hb hcell;exact⟨r1,r2⟩
theorem pG.k1{S':Nat->Prop}(h:pG w S b xs)(hO:Ow w S' R)(hR:∀o,o<2*xs.length->R b o)(hq:S' q)(hb:b≠q)(k:aM q w w'):pG w' S b xs:=by
 have hl:=h.lt;obtain⟨cur,hc,hx⟩:=h;refine⟨cur,(k.block b hl (by intro e;injection e with e;exact hb e)).trans hc,λi x hi=>?_⟩;obtain⟨A,c,B,d,h1,h2,h3,h4⟩:=hx i x hi;have hil:=(axp.1 hi).1;have kp:∀(o:Nat) (A:Option Addr) (n c:Nat) (l:List Int),o<2*xs.length->cur[o]?=some (.slice A n c)->RX w S A l->RX w' S A l:=λo A n c l ho TQ hr=>
  ⟨hr.1.keep λa e hl=>k.block _ hl (by
   subst e;intro e2;injection e2 with e2;have:=(hO b o a n c (hR o ho) (by simp[World.cell?,hc,TQ])).1.1;exact this (e2▸hq)),hr.2⟩
 exact⟨A,c,B,d,h1,h2,kp _ A _ _ _ (by omega) h1 h3,kp _ B _ _ _ (by omega) h2 h4⟩
theorem iW.k1{S':Nat->Prop}(h:iW w S G bs rows n)(hO:Ow w S' R)(hR:∀(j b:Nat),bs[j]?=some (some b)->∀o,o<2*n->R b o)(hq:S' q)(hS:¬S q)(k:aM q w w'):iW w' S G bs rows n:=by
 have hl:=h.lt;obtain⟨cur,hc,hx⟩:=h.out;refine⟨⟨cur,(k.block G hl (by intro e;injection e with e;exact hS (e▸h.sg))).trans hc,hx⟩,h.len,λj ob r h1 h2=>?_,h.nd,h.sg,h.ng⟩;obtain⟨q1,q2⟩:=h.row j ob r h1 h2;refine⟨?_,q2⟩;cases ob with
 |none=>exact q1
 |some b=>exact⟨q1.1.k1 hO (λo ho=>hR j b h1 o (by omega)) hq (λe=>hS (e▸q1.2)) k,q1.2⟩
theorem bV.k1(h:bV w S K G G' bs bs' Z n m)(hq:K q)(hS:¬S q)(k:aM q w w'):bV w' S K G G' bs bs' Z n m:=by obtain⟨R,hO,h1,h2,h3,h4,h5⟩:=h.own;refine⟨h.r.k1 hO (λj b hb=>(h4 j b hb).2) (.inr hq) hS k,h.a.k1 hO (λj b hb=>(h5 j b hb).2) (.inr hq) hS k,h.ne,h.d,h.d1,h.d2,λz hz=>axD (h.sl z hz) k.size,λz hz=>axD (h.kl z hz) k.size,R,?_,h1,h2,h3,h4,h5⟩;exact hO.sx (λz o hz=>h.sl z (h1 z o hz)) (bG.aZ (S:=λz=>z=q) k rfl) (λi e=> .inr (e▸hq)) (λi o e hr=>hS (h1 q o (e▸hr)))
theorem bV.aef{K':Nat->Prop}(h:bV w S K G G' bs bs' Z n m)(he:Ex w w')(hK:∀z,K' z->K z∨(w.heap.size<=z/\z<w'.heap.size)):bV w' S K' G G' bs bs' Z n m:=by
 obtain⟨R,hO,h1,h2,h3,h4,h5⟩:=h.own;have hw:=h.ex he;refine⟨hw.r,hw.a,h.ne,h.d,h.d1,h.d2,hw.sl,λz hz=>?_,R,?_,h1,h2,h3,h4,h5⟩
 .rcases hK z hz with hz|hz
  .exact hw.kl z hz
  .exact hz.2
 .have hO':Ow w (λz=>S z∨K' z) R:=λb o a nn c hb hc=>by
   obtain⟨⟨q1,q2,cur,q3⟩,q4⟩:=hO b o a nn c hb hc;refine⟨⟨λe=>?_,q2,cur,q3⟩,q4⟩;rcases e with e|e
   .exact q1 (.inl e)
   .rcases hK _ e with e|e
    .exact q1 (.inr e)
    .have:=aF q3;omega
  exact hO'.sx (λz o hz=>h.sl z (h1 z o hz)) (bG.aP (S:=λ_=>False) he) (λ_ h=>h.elim) (λ_ _ h=>h.elim)
theorem bV.ack{R:Nat}(h:GE Pn 54 w B H (.slice (some ⟨G,0,none⟩) R c) rows)(hw:aQ n rows)(hG':VB w G' 54 (replicate R (Value.slice none 0 0)).toArray)(hH:H<=G')
 (hK:∀z,K z->z<w.heap.size/\(z<B∨H<=z)) (hHs:H<=w.heap.size):R=rows.length/\B<=G/\G<H/\∃(S:Nat->Prop) (bs:List (Option Nat)),bV w S K G G' bs (replicate R none) rows n 0/\∀z,S z->(B<=z/\z<H)∨z=G':=by
 obtain⟨hR,hB,hGH,gs,g1,g2,g3,g4,g5⟩:=Ea h hw;refine⟨hR,hB,hGH,λz=>z=G∨z=G'∨∃j:Nat,gs[j]?=some z,gs.map some,?_,λz hz=>?_⟩
 .have hat:∀(j b:Nat),(gs.map some)[j]?=some (some b)->gs[j]?=some b:=λj b hb=>by
   rw[axw]at hb;cases hx:gs[j]? with
   |none=>rw[hx]at hb;cases hb
   |some x=>rw[hx]at hb;cases hb;rfl
  have e1:rows.map (List.take n)=rows:=by
   conv=>rhs;rw[<-List.map_id rows]
   exact ax0 λv hv=>by rw[<-hw v hv,axE];rfl
  have e2:rows.map (List.drop n)=replicate R []:=by
   rw[hR];refine azy (by simp) λj h1 h2=>?_
   rw[azf,List.getElem_replicate];refine ay0 ?_;rw[axs]at h1;rw[hw _ (ax6 h1)];exact axk _
  have s1:=g5 (λz=>z=G∨z=G'∨∃j:Nat,gs[j]?=some z) (λz hz l u=>by
   rcases hz with e|e|e
   .exact .inl e
   .omega
   .exact .inr e)
  have s2:=g5 (λz=>(z=G∨z=G'∨∃j:Nat,gs[j]?=some z)∨K z) (λz hz l u=>by
   rcases hz with(e|e|e)|e
   .exact .inl e
   .omega
   .exact .inr e
   .have:=hK z e;omega)
  obtain⟨cur,hc,TQ⟩:=g4;refine⟨⟨⟨cur,hc,λj ob hj=>?_⟩,by rw[axs,axs];exact g1,λj ob r h1 h2=>?_,λi j b h1 h2=>g3 i j b (hat i b h1) (hat j b h2),.inl rfl,λj b hb=>(g2 j b (hat j b hb)).2.2⟩,?_,by omega,λi j b h1 h2=>?_,λj b hb=>by have:=(g2 j b (hat j b hb)).2.1;omega,λj b hb=>?_,λz hz=>?_,λz hz=>(hK z hz).1,λb o=>∃j:Nat,gs[j]?=some b/\o<2*n,s2.2.1,λz o hz=>?_,λo hz=>?_,λo hz=>?_,λj b hb=>⟨.inr (.inr ⟨j,hat j b hb⟩),λo ho=>⟨j,hat j b hb,ho⟩⟩,λj b hb=>?_⟩
  .rw[axw]at hj;cases hx:gs[j]? with
   |none=>rw[hx]at hj;cases hj
   |some x=>rw[hx]at hj;injection hj with hj;subst hj;exact TQ j x hx
  .rw[e1]at h2;rw[axw]at h1;cases hx:gs[j]? with
   |none=>rw[hx]at h1;cases h1
   |some x=>rw[hx]at h1;injection h1 with h1;subst h1;exact⟨⟨s1.1 j x r hx h2,.inr (.inr ⟨j,hx⟩)⟩,hw r (axo h2)⟩
  .rw[e2];refine⟨⟨_,hG',λj ob hj=>?_⟩,by simp,λj ob r h1 h2=>?_,λi j b h1 h2=>?_,.inr (.inl rfl),λj b hb=>?_⟩
   .rw[ax3]at hj;split at hj
    .rename_i hlt;injection hj with hj;subst hj;exact⟨0,axk 0,by simp[hlt,pB]⟩
    .cases hj
   .rw[ax3]at h1 h2;split at h1
    .rename_i hlt;rw[axl hlt]at h2;injection h1 with h1;injection h2 with h2;subst h1 h2;exact⟨rfl,rfl⟩
    .cases h1
   .rw[ax3]at h1;split at h1<;>cases h1
   .rw[ax3]at hb;split at hb<;>cases hb
  .rw[ax3]at h2;split at h2<;>cases h2
  .rw[ax3]at hb;split at hb<;>cases hb
  .rcases hz with e|e|⟨j,hj⟩
   .have:=aF hc;omega
   .have:=hG'.lt;omega
   .have:=(g2 j z hj).2.1;omega
  .obtain⟨j,hj,_⟩:=hz;exact .inr (.inr ⟨j,hj⟩)
  .obtain⟨j,hj,_⟩:=hz;exact(g2 j G hj).2.2 rfl
  .obtain⟨j,hj,_⟩:=hz;have:=(g2 j G' hj).2.1;omega
  .rw[ax3]at hb;split at hb<;>cases hb
 .rcases hz with e|e|⟨j,hj⟩
  .exact .inl (by omega)
  .exact .inr e
  .exact .inl ⟨(g2 j z hj).1,(g2 j z hj).2.1⟩
def adO(w:World)(B:Nat)(v:Value)(rows:List (List aG))(n:Nat):Prop:=
 ∃(S S':Nat->Prop) (R:Nat->Nat->Prop) (G:Nat) (bs:List (Option Nat)) (c:Nat),v=.slice (some ⟨G,0,none⟩) rows.length c/\rows.length<=c/\iW w S G bs rows n/\Ow w S' R/\(∀z,S z->S' z)/\(∀z,z<B->S' z)/\(∀z,S z->B<=z/\z<w.heap.size)/\
  (∀z o,R z o->S z)/\(∀(j b:Nat),bs[j]?=some (some b)->S b/\∀o,o<2*n->R b o)
theorem iW.take(h:iW w S G bs rows n)(r:Nat):iW w S G (bs.take r) (rows.take r) n:=by
 have at_:∀{α:Type} (l:List α) (j:Nat) (x:α),(l.take r)[j]?=some x->l[j]?=some x:=λl j x hj=>by
  rw[axL]at hj;split at hj
  .exact hj
  .cases hj
 obtain⟨cur,hc,hx⟩:=h.out;exact⟨⟨cur,hc,λj ob hj=>hx j ob (at_ _ _ _ hj)⟩,by rw[axx,axx,h.len],λj ob q h1 h2=>h.row j ob q (at_ _ _ _ h1) (at_ _ _ _ h2),λi j b h1 h2=>h.nd i j b (at_ _ _ _ h1) (at_ _ _ _ h2),h.sg,λj b hb=>h.ng j b (at_ _ _ _ hb)⟩
theorem Qn(p:Int)(S KS:Nat->Prop)(G G':Nat)(bs0 OP:List (Option Nat))(Z0:List (List aG))(n m R cG Xm b0 b1 b2 b3 b4:Nat)(w:World)(hF:av p=true)(h:bV w S KS G G' bs0 OP Z0 n m)(hW:aQ (n+m) Z0)(Dk:∀c,c<=n->iB p 17179869184 (jN (au p) Z0 c).1)(hR:Z0.length=R)
 (hn:n<=1000) (hm:m<=1000) (hR1:R<=1000) (hc1:R<=cG) (hc2:cG<=9223372036854775807)
 (c0:w.cell? ⟨b0,0,none⟩=some (.int .i64 p)) (c1:w.cell? ⟨b1,0,none⟩=some (.slice (some ⟨G,0,none⟩) R cG)) (c2:w.cell? ⟨b2,0,none⟩=some (.int .i64 n)) (c3:w.cell? ⟨b3,0,none⟩=some (.slice (some ⟨G',0,none⟩) R Xm)) (v4:VB w b4 3 #[.int .i64 0]) (hS4:¬S b4) (hK4:KS b4):
 Calls prog 159 #[.pointer (some ⟨b0,0,none⟩),.pointer (some ⟨b1,0,none⟩),.pointer (some ⟨b2,0,none⟩),.pointer (some ⟨b3,0,none⟩),.pointer (some ⟨b4,0,none⟩)] w λe w'=>e=.returned (.tuple #[])/\bG (λz=>S z∨z=b4) w w'/\
  VB w' b4 3 #[.int .i64 ((au p).red n 0 0 Z0).2]/\∃bs bs',bV w' S KS G G' bs bs' ((au p).red n 0 0 Z0).1 n m:=by
 have hcall:=uw p S KS G G' bs0 OP Z0 n m R cG Xm w hF h.sl h hW Dk hR hn hm hR1 hc1 hc2;clear h hW Dk hR;generalize(au p).red n 0 0 Z0=FIN at*;go_enter Tryz.func159,Tryz.ntmps159
 go_wp2_with fail
 refine hcall.mono ?_;rintro e w1 ⟨bs,bs',rfl,hT,x1⟩;have v1:VB w1 b4 3 #[.int .i64 0]:=(x1.block _ v4.lt hS4).trans v4;have d0:=v1.c0;have d1:=v1.frozen 0;have E2:aM b4 w1 (w1.setCell ⟨b4,0,none⟩ (.int .i64 FIN.2)):=(aM.refl _ w1).setCell (p:=⟨b4,0,none⟩) rfl _;have v2:VB (w1.setCell ⟨b4,0,none⟩ (.int .i64 FIN.2)) b4 3 #[.int .i64 FIN.2]:=v1.bC 0 _;have Ff:=hT.k1 hK4 hS4 E2;have x2:=(x1.widen (T:=λz=>S z∨z=b4) (λz _ h=> .inl h)).trans (bG.aZ (S:=λz=>z=b4) E2 rfl) (λz _ e=> .inr e);clear hcall;go_wp2_with fail
 first|rw[ayo]|skip
 refine bodyPost_end (results_none rfl _ _ _) rfl ?_;exact⟨rfl,x2,v2,bs,bs',Ff⟩
theorem wO(n:Nat)(hn:n<=1099511627776)(w:World):
 (Instr.makeSlice 26 (.int .i64 (n:Int)) (.int .i64 (n:Int))).run prog w=.ok (.slice (some ⟨w.heap.size,0,none⟩) n n) (w.alloc (.cells (replicate n (Value.slice none 0 0)).toArray 54)):=by
 have h:=sW n hn w;have e:(replicate n slZ).flatten=replicate n (Value.slice none 0 0):=by
  induction n with
  |zero=>rfl
  |succ n ih=>rw[List.replicate_succ,ayN,ih (by omega) (sW n (by omega) w)];rfl
 rw[e]at h;exact h
theorem C_{K:Type}(O:Ops K):∀(m c r:Nat) (rows:List (List K)),r<=rows.length->(O.red m c r rows).2<=rows.length
 |0,_,_,_,h=>h
 |m+1,c,r,rows,h=>by
  rw[Ops.red];split
  .rename_i hf;have hk:=kU O hf;have:=C_ O m (c+1) (r+1) (O.piv rows r c (O.uP rows r c)) (by rw[eH];omega);rwa[eH]at this
  .exact C_ O m (c+1) r rows h
theorem aQ.red{K:Type}{O:Ops K}:∀(m c r:Nat) (rows:List (List K)),r<=rows.length->aQ N rows->aQ N (O.red m c r rows).1
 |0,_,_,_,_,h=>h
 |m+1,c,r,rows,hr,h=>by
  rw[Ops.red];split
  .rename_i hf;have hk:=kU O hf;exact aQ.red m (c+1) (r+1) _ (by rw[eH];omega) (h.piv (by omega) hf)
  .exact aQ.red m (c+1) r rows hr h
theorem TD(n:Nat):(replicate n (Value.slice none 0 0)).toArray=Array.replicate n (Value.slice none 0 0):=by simp
theorem JD(p:Int)(n:Nat)(rows:List (List aG))(A:Option Addr)(c:Nat)(w:World)(hF:av p=true)(h:bW iX w A rows)(hw:aQ n rows)(Dk:∀c,c<=n->iB p 17179869184 (jN (au p) rows c).1)(hn:n<=1000)(hR:rows.length<=1000):
 Calls prog 123 #[.int .i64 p,.slice A rows.length c,.int .i64 n] w λe w'=>∃v,e=.returned v/\adO w' w.heap.size v ((au p).aC n rows) n/\Ex w w':=by
 have HF:=axj hF;have HW:=axj hw;have HGd:=axj Dk;have x0:=((aCQ w).alloc (.cells #[.int .i64 p] 3)).alloc (.cells #[.int .i64 n] 3);have v0:=(VB.new w 3 #[.int .i64 p]).ex ((aCQ _).alloc (.cells #[.int .i64 n] 3));have v1:=VB.new (w.alloc (.cells #[.int .i64 p] 3)) 3 #[.int .i64 n];have s0:((w.alloc (.cells #[.int .i64 p] 3)).alloc (.cells #[.int .i64 n] 3)).heap.size=w.heap.size+2:=by simp
 rw[show(w.alloc (.cells #[.int .i64 p] 3)).heap.size=w.heap.size+1 by simp]at v1;clear hF hw Dk;go_enter Tryz.func123,Tryz.ntmps123
 go_wp2_with fail
 generalize(w.alloc (.cells #[.int .i64 p] 3)).alloc (.cells #[.int .i64 n] 3)=W0 at*;refine(FO A c rows W0 (h.ex x0)).mono ?_;rintro e w1 ⟨v,rfl,⟨hnn,hge⟩,x1⟩;obtain⟨G,cG,ev,hcG,hcm⟩:=hge.form hnn;subst ev;clear hnn;have hz1:=x1.size;have hmk:=λW=>wO rows.length (by omega) W
 go_wp2_with fail
 obtain⟨y1,vN⟩:=VB.xn w1 26 #[.slice (some ⟨G,0,none⟩) rows.length cG];have t1:(w1.alloc (.cells #[.slice (some ⟨G,0,none⟩) rows.length cG] 26)).heap.size=w1.heap.size+1:=by simp
 generalize w1.alloc (.cells #[.slice (some ⟨G,0,none⟩) rows.length cG] 26)=V1 at*;have vM:=VB.new V1 54 (Array.replicate rows.length (Value.slice none 0 0));have y2:=(aCQ V1).alloc (.cells (Array.replicate rows.length (Value.slice none 0 0)) 54);have t2:(V1.alloc (.cells (Array.replicate rows.length (Value.slice none 0 0)) 54)).heap.size=w1.heap.size+1+1:=by simp;exact t1
 rw[t1]at vM;generalize V1.alloc (.cells (Array.replicate rows.length (Value.slice none 0 0)) 54)=V2 at*;obtain⟨y3,vO⟩:=VB.xn V2 26 #[.slice (some ⟨w1.heap.size+1,0,none⟩) rows.length rows.length];have t3:(V2.alloc (.cells #[.slice (some ⟨w1.heap.size+1,0,none⟩) rows.length rows.length] 26)).heap.size=w1.heap.size+1+1+1:=by simp;exact t2
 rw[t2]at vO;generalize V2.alloc (.cells #[.slice (some ⟨w1.heap.size+1,0,none⟩) rows.length rows.length] 26)=V3 at*;obtain⟨y4,vR⟩:=VB.xn V3 3 #[.int .i64 0];have t4:(V3.alloc (.cells #[.int .i64 0] 3)).heap.size=w1.heap.size+1+1+1+1:=by simp;exact t3
 rw[t3]at vR;generalize V3.alloc (.cells #[.int .i64 0] 3)=V4 at*;have y14:=((y1.trans y2).trans y3).trans y4;have v0:=(v0.ex x1).ex y14;have v1:=(v1.ex x1).ex y14;have vN:=vN.ex ((y2.trans y3).trans y4);have vM:=vM.ex (y3.trans y4);have vO:=vO.ex y4;have hge4:=hge.ex y14;obtain⟨_,hBG,hGH,S,bs,hT,hSb⟩:=bV.ack (K:=λz=>z<W0.heap.size∨(w1.heap.size<=z/\z<V4.heap.size)) hge4 HW.out (G':=w1.heap.size+1) (by rw[TD];exact vM) (by omega) (λz hz=>by omega) (by omega);clear y1 y2 y3 y4 hge hge4 hmk vM;have hS5:∀z,S z∨z=w1.heap.size+1+1+1->w.heap.size<=z/\z<V4.heap.size:=λz hz=>by
  rcases hz with hz|hz
  .rcases hSb z hz with h|h<;>omega
  .omega
 have hSn:¬S (w1.heap.size+1+1+1):=λh=>by rcases hSb _ h with h|h<;>omega
 have hSN:¬S V4.heap.size:=λh=>by have:=hS5 _ (.inl h);omega
 have hSo:¬S w1.heap.size:=λh=>by rcases hSb _ h with h|h<;>omega
 have hfl:=oV (au p) n 0 0 rows;have hfs:=C_ (au p) n 0 0 rows (axq _);have hfw:aQ n ((au p).red n 0 0 rows).1:=aQ.red n 0 0 rows (axq _) HW.out;have hrr:(au p).aC n rows=((au p).red n 0 0 rows).1.take ((au p).red n 0 0 rows).2:=rfl;have hcall:=SF 159 (enters_of Tryz.func159 (by kernel_rfl) rfl) #[.pointer (some ⟨w.heap.size,0,none⟩),.pointer (some ⟨w1.heap.size,0,none⟩),.pointer (some ⟨w.heap.size+1,0,none⟩),.pointer (some ⟨w1.heap.size+1+1,0,none⟩),.pointer (some ⟨w1.heap.size+1+1+1,0,none⟩)] V4 (λz=>S z∨z=w1.heap.size+1+1+1)
  (λW=>VB W (w1.heap.size+1+1+1) 3 #[.int .i64 ((au p).red n 0 0 rows).2]/\∃bs bs',bV W S (λz=>(z<W0.heap.size∨(w1.heap.size<=z/\z<V4.heap.size))∨z=V4.heap.size) G (w1.heap.size+1) bs bs' ((au p).red n 0 0 rows).1 n 0) (λz hz=>(hS5 z hz).2) (λW hW hsz=>by
   have hTW:=hT.aef (K':=λz=>(z<W0.heap.size∨(w1.heap.size<=z/\z<V4.heap.size))∨z=V4.heap.size) hW (λz hz=>by
    rcases hz with hz|hz
    .exact .inl hz
    .exact .inr (by omega))
   refine(Qn p S _ G (w1.heap.size+1) bs _ rows n 0 rows.length cG rows.length w.heap.size w1.heap.size (w.heap.size+1) (w1.heap.size+1+1) (w1.heap.size+1+1+1) W HF.out hTW (by simpa using HW.out) HGd.out rfl hn (by omega) hR hcG hcm ((v0.ex hW).c0) ((vN.ex hW).c0) ((v1.ex hW).c0) ((vO.ex hW).c0) (vR.ex hW) hSn (.inl (.inr (by omega)))).mono ?_;rintro e W' ⟨rfl,a1,a2,a3⟩;exact⟨rfl,a1,a2,a3⟩) (λW W' hq he=>by
   obtain⟨q1,bs1,ag6,q2⟩:=hq;exact⟨q1.aK he (by omega),bs1,ag6,q2.k1 (.inr rfl) hSN he⟩)
 have x4:=(x0.trans x1).trans y14;clear hT v0 v1 vO vR;generalize(au p).red n 0 0 rows=FIN at*;refine hcall.mono ?_;rintro e w5 ⟨rfl,x5,v5,bs5,aoS,Gs⟩;have vN5:VB w5 w1.heap.size 26 #[.slice (some ⟨G,0,none⟩) rows.length cG]:=(x5.block _ vN.lt (λh=>by
  rcases h with h|h
  .exact hSo h
  .omega)).trans vN
 have d0:=vN5.c0;have d1:=v5.c0;have x5w:Ex w w5:=x4.sx x5 (λz hz=>(hS5 z hz).1);have hz5:=x5.size;have hlr:((au p).aC n rows).length=FIN.2:=by rw[hrr,axx];omega
 have hfin:adO w5 w.heap.size (.slice (some ⟨G,0,none⟩) FIN.2 FIN.2) ((au p).aC n rows) n:=by
  obtain⟨R,hO,h1,h2,h3,h4,h5⟩:=Gs.own;refine⟨S,_,R,G,bs5.take FIN.2,FIN.2,by rw[hlr],by omega,?_,hO,λz hz=> .inl hz,λz hz=> .inr (.inl (.inl (by have:=x0.size;omega))),λz hz=>⟨(hS5 z (.inl hz)).1,Gs.sl z hz⟩,h1,λj b hb=>h4 j b ?_⟩
  .have hM:=Gs.r.take FIN.2;have:FIN.1.map (List.take n)=FIN.1:=by
    conv=>rhs;rw[<-List.map_id FIN.1]
    exact ax0 λv hv=>by rw[<-hfw v hv,axE];rfl
   rw[this,<-hrr]at hM;exact hM
  .rw[axL]at hb;split at hb
   .exact hb
   .cases hb
 have ahh:=axj hfin;clear hcall hfin Gs hlr hfw hrr hfl;go_wp2_with fail
 go_ret;exact⟨_,rfl,ahh.out,x5w⟩
theorem bW.rdf(h:bW EF w A xs)(hl:xs.length<=549755813888):RdF w A (xs.map λx=>(x.n,x.d)):=by
 refine⟨by rw[axs];exact hl,λj q hj=>?_⟩;rw[axw]at hj;cases hx:xs[j]? with
 |none=>rw[hx]at hj;cases hj
 |some x=>rw[hx]at hj;injection hj with hj;subst hj;obtain⟨g,off,y,P,pc,Q,qc,hA,hy,c0,c1,hP,hQ⟩:=h.iy (axp.1 hx).1;rw[hx]at hy;injection hy with hy;subst hy;exact⟨g,off,P,pc,Q,qc,hA,c0,c1,hP,hQ⟩
def mU(p:Int)(n:Nat)(r:List aG):Bool:=decide (r.length=n)&&r.all λx=>dm p x.n x.d
def fV(p:Int)(n:Nat)(rows:List (List aG)):Bool:=rows.all (mU p n)
theorem WM(p:Int)(n:Nat)(A:Option Addr)(c:Nat)(rows:List (List aG))(w:World)(h:bW iX w A rows)(hn:n<=1000)(ht:Tb w):
 Calls prog 94 #[.int .i64 p,.slice A rows.length c,.int .i64 n] w λe w'=>e=.returned (.bool (fV p n rows&&av p))/\Ex w w':=by
 have hl:=h.1;go_enter Tryz.func94,Tryz.ntmps94
 go_wp2_with fail
 go_loopw [11] (λi wr=>∃k:Nat,k<=rows.length/\i=.int .i64 k/\Hid (fV p n (rows.take k)=true)/\Ex w wr) (λi _=>rows.length-(intOf i).toNat)
 case atStart=>exact⟨0,axq _,rfl,axj rfl,aCQ _⟩
 case round=>
  obtain⟨k,hk,rfl,fH,he⟩:=hrel;by_cases hlt:k<rows.length
  .obtain⟨g,off,r,v,rfl,hr,c0,hv⟩:=(h.ex he).jf hlt;obtain⟨P,pc,rfl,hP⟩:=hv.form;have Hr:=axj hr;have hPl:=hP.1;clear hr hv;have hno:mU p n r=false->(fV p n rows&&av p)=false:=λe=>by
    have:fV p n rows=false:=ayJ.2 ⟨r,axo Hr.out,by rw[e];simp⟩;rw[this];rfl
   by_cases hrn:r.length=n
   .have hb:((r.length:Int) !=(n:Int))=false:=by simp;omega
    have hcall:=F_ p P pc (r.map λx=>(x.n,x.d)) wr (hP.rdf (by omega)) (ht.ex he);rw[axs]at hcall;have hcb:((r.map λx=>(x.n,x.d)).all (λq=>dm p q.1 q.2)&&av p)=(mU p n r&&av p):=by rw[List.all_map,mU,hrn];simp;rfl
    rw[hcb]at hcall;clear hcb;cases hok:(mU p n r&&av p)with
    |true=>
     rw[hok]at hcall;rw[axU]at hok;have Hok:=axj hok.1;have HrN:=axj hrn;clear hok hno hrn;go_wp2_with fail
     refine hcall.mono ?_;rintro e w1 ⟨rfl,x1⟩;go_wp2_with fail
     go_roundw;case rel=>exact⟨k+1,by omega,by go_num,axj (by rw[fV,axy,Hr.out,ayK];rw[show((rows.take k).all (mU p n))=true from fH.out];simp[Hok.out]),he.trans x1⟩
     case measure=>simp[intOf];omega
    |false=>
     rw[hok]at hcall;have HF:=axj (show(fV p n rows&&av p)=false by
      rw[Bool.and_eq_false_iff]at hok;rcases hok with e|e
      .exact hno e
      .rw[e];simp)
     have HrN:=axj hrn;clear hok hno hrn;go_wp2_with fail
     refine hcall.mono ?_;rintro e w1 ⟨rfl,x1⟩;go_wp2_with fail
     go_ret;exact⟨by rw[HF.out];rfl,he.trans x1⟩
   .have hb:((r.length:Int) !=(n:Int))=true:=by simp;omega
    have HF:=axj (hno (by rw[mU,decide_eq_false hrn];rfl));clear hno hrn;go_wp2_with fail
    go_ret;exact⟨by rw[HF.out];rfl,he⟩
  .obtain rfl:k=rows.length:=by omega
   have HA:=axj (show fV p n rows=true by have:=fH.out;rwa[axE]at this);have htw:=ht.ex he;go_wp2_with (go_at_call 47;refine(jA _ _ htw).mono ?_;rintro e w' ⟨rfl,rfl⟩)
   go_ret;exact⟨by rw[HA.out,ayr];rfl,he⟩
def qf(l r:Int):Bool:=bL 0 12 l&&bL 0 12 r&&decide (l+r<=12)
theorem qx(l r:Int)(w:World):Calls prog 50 #[.int .i64 l,.int .i64 r] w λe w'=>e=.returned (.bool (qf l r))/\w=w':=by
 cases h1:bL 0 12 l with
 |false=>
  have H:=axj (show qf l r=false by rw[qf,h1];rfl);go_enter Tryz.func50,Tryz.ntmps50
  go_wp2_with fail
  refine(jb l 0 12 w).mono ?_;rintro e w1 ⟨rfl,rfl⟩;rw[h1];go_wp2_with fail
  go_ret;exact⟨by rw[H.out];rfl,rfl⟩
 |true=>
  cases h2:bL 0 12 r with
  |false=>
   have H:=axj (show qf l r=false by rw[qf,h1,h2];rfl);go_enter Tryz.func50,Tryz.ntmps50
   go_wp2_with fail
   refine(jb l 0 12 w).mono ?_;rintro e w1 ⟨rfl,rfl⟩;rw[h1];go_wp2_with fail
   refine(jb r 0 12 w).mono ?_;rintro e w1 ⟨rfl,rfl⟩;rw[h2];go_wp2_with fail
   go_ret;exact⟨by rw[H.out];rfl,rfl⟩
  |true=>
   have H:=axj (show qf l r=decide (l+r<=12) by rw[qf,h1,h2];rfl);have hb1:0<=l/\l<=12:=by simpa[bL]using h1
   have hb2:0<=r/\r<=12:=by simpa[bL]using h2
   have hwr:IntKind.i64.wrap (l+r)=l+r:=axC _ (by omega);go_enter Tryz.func50,Tryz.ntmps50
   go_wp2_with fail
   refine(jb l 0 12 w).mono ?_;rintro e w1 ⟨rfl,rfl⟩;rw[h1];go_wp2_with fail
   refine(jb r 0 12 w).mono ?_;rintro e w1 ⟨rfl,rfl⟩;rw[h2];go_wp2_with fail
   go_ret;exact⟨aI (by rw[H.out]),rfl⟩
theorem aku(h:dm p x.n x.d=true):FV p x/\FL 21 x:=by obtain⟨h1,h2,h3,h4,h5,h6,h7,h8⟩:=uN h;have k:=aht.of h;exact⟨⟨h1,⟨k.ne,k.nt⟩,⟨k.me,k.mt⟩,h6,h7,h8⟩,h4,h5⟩
theorem xC(h:fV p n rows=true):∀r∈rows,r.length=n/\∀x∈r,dm p x.n x.d=true:=λr hr=>by have:=axQ.1 h r hr;rw[mU,axU,decide_eq_true_eq]at this;exact⟨this.1,λx hx=>axQ.1 this.2 x hx⟩
theorem lD(h:fV p n rows=true):aQ n rows:=λr hr=>(xC h r hr).1
theorem qH(h:fV p n rows=true):iB p 21 rows:=λr hr x hx=>aku ((xC h r hr).2 x hx)
theorem IX(h:iB p L rows):∀v∈rows,∀x∈v,FV p x:=λv hv x hx=>(h v hv x hx).1
theorem Jz(hF:av p=true)(hg:∀v∈rows,∀x∈v,FV p x)(h:Dx (au p) n rows):rows.length<=n:=by
 obtain⟨U,hU⟩:=BK (P:=FV p) rows hg;have hH:=mV p hF;have hi:∀a b:{x:aG // FV p x},a.1=b.1->a=b:=λa b h=>axS h
 rw[hU]at h⊢;rw[hH.rrp hi,yB]at h;have:=uq _ h;rwa[axs]
def Gj(p:Int)(x:iK):Prop:=av p=true/\qf x.l x.r=true/\fV p (x.l+x.r).toNat x.b=true/\Dx (au p) (x.l+x.r).toNat x.b
theorem Fz{l r:Int}(h:qf l r=true):0<=l/\0<=r/\l+r<=12:=by simp only[qf,bL,axU,decide_eq_true_eq]at h;omega
theorem EU(A B:Option Addr)(c d:Nat)(xs ys:List Int)(w:World)(h:Rd w A xs)(h':Rd w B ys):
 Calls prog 98 #[.slice A xs.length c,.slice B ys.length d] w λe w'=>e=.returned (.bool (decide (xs=ys)))/\Ex w w':=by
 have hl:=h.len;have hl':=h'.len;by_cases hn:xs.length=ys.length;case neg=>
  have hb:((xs.length:Int) !=(ys.length:Int))=true:=by simp;omega
  have he:decide (xs=ys)=false:=by simp;intro e;exact hn (by rw[e])
  have He:=axj he;clear he;go_enter Tryz.func98,Tryz.ntmps98
  go_wp2;go_ret;exact⟨by rw[He.out];rfl,aCQ w⟩
 have hb:((xs.length:Int) !=(ys.length:Int))=false:=by simp;omega
 have hn2:ys.length<=xs.length:=by omega
 have VZ:xs.length<=ys.length:=by omega
 have Hn:=axj hn;clear hn;go_enter Tryz.func98,Tryz.ntmps98
 go_wp2;go_loopw [13] (λi wr=>∃k:Nat,k<=xs.length/\i=.int .i64 k/\Hid (xs.take k=ys.take k)/\∃n,wr=w.drewN n) (λi _=>xs.length-(intOf i).toNat)
 case atStart=>exact⟨0,axq _,rfl,rfl,0,rfl⟩
 case round=>
  obtain⟨k,hk,rfl,He,n,rfl⟩:=hrel;by_cases hlt:k<xs.length
  .have hlt2:k<ys.length:=by omega
   obtain⟨g,off,x,rfl,hx,hg,hc⟩:=h.at_ hlt;obtain⟨g',off',y,rfl,hy,hg',hc'⟩:=h'.at_ hlt2;have Hx:=axj hx;have Hy:=axj hy;clear hx hy;by_cases hxy:x=y
   .subst hxy;go_wp2;go_quiet (fail)
    go_wp2;go_roundw;case rel=>exact⟨k+1,by omega,by go_num,by
     show _=_;rw[axy,axy,Hx.out,Hy.out,He.out],_,rfl⟩
    case measure=>simp[intOf]<;>omega
   .have hbx:(x !=y)=true:=by simpa using hxy
    have he:decide (xs=ys)=false:=by simp;rintro rfl;have:=Hx.out;rw[Hy.out]at this;injection this with this;exact hxy this.symm
    have O7:=axj he;clear he hxy;go_wp2;go_quiet (fail)
    go_wp2;go_ret;exact⟨by rw[O7.out];rfl,((aCQ w).drewN _).drewN _⟩
  .obtain rfl:k=xs.length:=by omega
   have he:decide (xs=ys)=true:=by have:=He.out;rw[axE,axG (by omega)]at this;simpa using this
   have O7:=axj he;clear he;go_wp2;go_ret;exact⟨by rw[O7.out];rfl,(aCQ w).drewN _⟩
theorem N_(A B A' B':Option Addr)(c d c' d':Nat)(x y:aG)(w:World)(h1:Rd w A x.n)(h2:Rd w B x.d)(h3:Rd w A' y.n)(h4:Rd w B' y.d):
 Calls prog 60 #[.agg #[.slice A x.n.length c,.slice B x.d.length d],.agg #[.slice A' y.n.length c',.slice B' y.d.length d']] w λe w'=>e=.returned (.bool (decide (x.n=y.n)&&decide (x.d=y.d)))/\Ex w w':=by
 obtain⟨n,m⟩:=x;obtain⟨n',m'⟩:=y;dsimp only at h1 h2 h3 h4⊢;have x0:∀(a b:Obj),Ex w ((w.alloc a).alloc b):=λa b=>((aCQ w).alloc a).alloc b
 by_cases hn:n=n'
 .have hd:decide (n=n')=true:=by simpa using hn
  have Hd:=axj hd;clear hn;go_enter Tryz.func60,Tryz.ntmps60
  go_wp2_with fail
  refine(EU A A' c c' n n' _ (h1.ex (x0 _ _)) (h3.ex (x0 _ _))).mono ?_;rintro e w1 ⟨rfl,x1⟩;have c0:=af x1 (g:=w.heap.size) (o:=1) (v:=.slice B m.length d) (aa3 _ _ _ _ _).2;have c1:=af x1 (g:=w.heap.size+1) (o:=1) (v:=.slice B' m'.length d') (tC _ _ _ _ _).2;have xx:=(x0 _ _).trans x1;clear x0 x1;rw[hd];clear hd;go_wp2_with fail
  refine(EU B B' d d' m m' _ (h2.ex xx) (h4.ex xx)).mono ?_;rintro e w2 ⟨rfl,x2⟩;go_wp2;go_ret;exact⟨by rw[Hd.out];rfl,xx.trans x2⟩
 .have hd:decide (n=n')=false:=by simpa using hn
  have Hd:=axj hd;clear hn;go_enter Tryz.func60,Tryz.ntmps60
  go_wp2_with fail
  refine(EU A A' c c' n n' _ (h1.ex (x0 _ _)) (h3.ex (x0 _ _))).mono ?_;rintro e w1 ⟨rfl,x1⟩;have xx:=(x0 _ _).trans x1;clear x0 x1;rw[hd];clear hd;go_wp2;go_ret;exact⟨by rw[Hd.out];rfl,xx⟩
theorem pq(w:World):Calls prog 72 #[] w λe w'=>G8 w oF e w':=by
 go_enter Tryz.func72,Tryz.ntmps72
 go_wp2_with fail
 obtain⟨x1,v1⟩:=VB.xn w 57 #[.slice (some ⟨w.heap.size+1,0,none⟩) 1 1,.slice (some ⟨w.heap.size+1+1,0,none⟩) 1 1];have s1:(w.alloc (.cells #[.slice (some ⟨w.heap.size+1,0,none⟩) 1 1,.slice (some ⟨w.heap.size+1+1,0,none⟩) 1 1] 57)).heap.size=w.heap.size+1:=by simp
 generalize w.alloc (.cells #[.slice (some ⟨w.heap.size+1,0,none⟩) 1 1,.slice (some ⟨w.heap.size+1+1,0,none⟩) 1 1] 57)=W1 at*;have x2:=((aCQ W1).alloc (aN [1])).alloc (aN [1]);have o1:=(Own.new W1 [1]).ex ((aCQ (W1.alloc (aN [1]))).alloc (aN [1]));have o2:=Own.new (W1.alloc (aN [1])) [1];have s2:(W1.alloc (aN [1])).heap.size=w.heap.size+1+1:=by simp[s1]
 rw[s2]at o2;rw[s1]at o1;have v2:=v1.ex x2;obtain⟨d0,d1⟩:=v2.d2;change bodyPost _ _ _ _ _ ((W1.alloc (aN [1])).alloc (aN [1]));generalize(W1.alloc (aN [1])).alloc (aN [1])=W2 at*;refine axu (v:=.agg #[.slice (some ⟨w.heap.size+1,0,none⟩) 1 1,.slice (some ⟨w.heap.size+1+1,0,none⟩) 1 1]) (by simp[results,Tryz.results72,go_sem,d0,d1]) rfl ?_;exact⟨_,_,_,_,rfl,o1.fr (by simp) (by omega) (by simp),o2.fr (by simp) (by omega) (by simp),iA (by omega),x1.trans x2⟩
theorem rV(A B:Option Addr)(c d:Nat)(x:aG)(w:World)(_:x.n.length<=1099511627776):
 Calls prog 100 #[.agg #[.slice A x.n.length c,.slice B x.d.length d]] w λe w'=>e=.returned (.bool (jy x))/\Ex w w':=by
 have hb:jy x=decide ((x.n.length:Int)=0):=by
  rw[ayB,dR];cases x.n<;>simp
  omega
 rw[hb];have x0:=(aCQ w).alloc (.cells #[.slice A x.n.length c,.slice B x.d.length d] 57);clear hb;generalize x.n.length=n at*;go_enter Tryz.func100,Tryz.ntmps100
 go_wp2;go_ret;exact⟨aI (by simp[BEq.beq]),x0⟩
def bX(xs:List aG):Nat:=xs.findIdx λx=> !jy x
theorem n_(p:Int)(xs:List aG):(au p).lead xs=bX xs:=rfl
theorem nR(A:Option Addr)(c:Nat)(xs:List aG)(w:World)(h:bW EF w A xs):
 Calls prog 65 #[.slice A xs.length c] w λe w'=>e=.returned (.int .i64 (bX xs))/\Ex w w':=by
 have hl:=h.1;go_enter Tryz.func65,Tryz.ntmps65
 go_wp2_with fail
 go_loopw [3] (λi wr=>∃k:Nat,k<=xs.length/\i=.int .i64 k/\Hid (∀(j:Nat) (x:aG),j<k->xs[j]?=some x->jy x=true)/\Ex w wr) (λi _=>xs.length-(intOf i).toNat)
 case atStart=>exact⟨0,axq _,rfl,axj (λj x h=>by omega),aCQ _⟩
 case round=>
  obtain⟨k,hk,rfl,Hz,he⟩:=hrel;by_cases hlt:k<xs.length
  .obtain⟨g,off,x,P,pc,Q,qc,rfl,hx,c0,c1,hP,hQ⟩:=(h.ex he).iy hlt;have Hx:=axj hx;clear hx;have hz:=rV P Q pc qc x wr hP.len;cases hb:jy x with
   |true=>
    have Hb:=axj hb;rw[hb]at hz;clear hb;go_wp2_with fail
    refine hz.mono ?_;rintro e w1 ⟨rfl,x1⟩;go_wp2_with fail
    go_roundw;case rel=>exact⟨k+1,by omega,by go_num,axj (λj y hj hy=>by
     by_cases e:j=k
     .subst e;rw[Hx.out]at hy;injection hy with hy;rw[<-hy];exact Hb.out
     .exact Hz.out j y (by omega) hy),he.trans x1⟩
    case measure=>simp[intOf];omega
   |false=>
    have HL:=axj (show bX xs=k by
     rw[bX,azO (by omega)];have hxe:xs[k]=x:=by have:=Hx.out;rw[axn hlt]at this;injection this
     refine⟨by rw[hxe,hb];rfl,λj hj=>by
      have:=Hz.out j _ hj (axn (by omega));rw[this];rfl⟩)
    rw[hb]at hz;clear hb;go_wp2_with fail
    refine hz.mono ?_;rintro e w1 ⟨rfl,x1⟩;go_wp2_with fail
    go_ret;exact⟨by rw[HL.out];rfl,he.trans x1⟩
  .obtain rfl:k=xs.length:=by omega
   have HL:=axj (show bX xs=xs.length by
    rw[bX,aAc];intro x hx;obtain⟨j,hj⟩:=axz hx;rw[Hz.out j x (axp.1 hj).1 hj];rfl)
   go_wp2_with fail
   go_ret;exact⟨by rw[HL.out];rfl,he⟩
theorem Md(p n:Int)(A:Option Addr)(c:Nat)(xs:List aG)(w:World)(h:bW EF w A xs):
 Calls prog 112 #[.int .i64 p,.int .i64 n,.slice A xs.length c] w λe w'=>e=.returned (.bool (xs.all (λx=>dm p x.n x.d)&&decide ((xs.length:Int)=n)))/\Ex w w':=by
 have hl:=h.1;go_enter Tryz.func112,Tryz.ntmps112
 go_wp2_with fail
 go_loopw [11] (λi wr=>∃k:Nat,k<=xs.length/\i=.int .i64 k/\Hid ((xs.take k).all (λx=>dm p x.n x.d)=true)/\Ex w wr) (λi _=>xs.length-(intOf i).toNat)
 case atStart=>exact⟨0,axq _,rfl,axj rfl,aCQ _⟩
 case round=>
  obtain⟨k,hk,rfl,fH,he⟩:=hrel;by_cases hlt:k<xs.length
  .obtain⟨g,off,x,P,pc,Q,qc,rfl,hx,c0,c1,hP,hQ⟩:=(h.ex he).iy hlt;have Hx:=axj hx;clear hx;have y1:=(aCQ wr).alloc (.cells #[.slice P x.n.length pc,.slice Q x.d.length qc] 57);cases hb:dm p x.n x.d with
   |true=>
    have Hb:=axj hb;clear hb;go_wp2_with fail
    generalize wr.alloc (.cells #[.slice P x.n.length pc,.slice Q x.d.length qc] 57)=W1 at*;refine(Oa p P Q pc qc x.n x.d W1 (hP.ex y1) (hQ.ex y1)).mono ?_;rintro e w1 ⟨rfl,x1⟩;rw[Hb.out];go_wp2_with fail
    go_roundw;case rel=>exact⟨k+1,by omega,by go_num,axj (by rw[axy,Hx.out,ayK,fH.out];simp[Hb.out]),(he.trans y1).trans x1⟩
    case measure=>simp[intOf];omega
   |false=>
    have Hb:=axj hb;clear hb;go_wp2_with fail
    generalize wr.alloc (.cells #[.slice P x.n.length pc,.slice Q x.d.length qc] 57)=W1 at*;refine(Oa p P Q pc qc x.n x.d W1 (hP.ex y1) (hQ.ex y1)).mono ?_;rintro e w1 ⟨rfl,x1⟩;rw[Hb.out];go_wp2_with fail
    go_ret;exact⟨aI (by rw[ayJ.2 ⟨x,axo Hx.out,by simp[Hb.out]⟩];rfl),(he.trans y1).trans x1⟩
  .obtain rfl:k=xs.length:=by omega
   have HA:=axj (show xs.all (λx=>dm p x.n x.d)=true by have:=fH.out;rwa[axE]at this);go_wp2_with fail
   go_ret;exact⟨aI (by rw[HA.out,ayr];simp[BEq.beq]),he⟩
end Go.Proofs.YthgiffhlfcmgaaaGreatDoor
