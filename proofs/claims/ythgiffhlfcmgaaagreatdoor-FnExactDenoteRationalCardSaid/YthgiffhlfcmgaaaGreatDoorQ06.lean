/- Lemmas and walks on terms over rational functions: Lists joined: the program's .. -/
import Derived.Test.YthgiffhlfcmgaaaGreatDoorQ03
import Derived.Test.YthgiffhlfcmgaaaGreatDoorQ16
import Derived.Test.YthgiffhlfcmgaaaGreatDoorQ05
namespace Go.Proofs.YthgiffhlfcmgaaaGreatDoor
open Tryz(prog)
set_option maxRecDepth 100000
set_option maxHeartbeats 8000000
set_option linter.all false
open Go Go.RowKit
variable{rows:List (List aG)}{r:List aG}{G c j n q:Nat}{S T:Nat->Prop}{A P:Option Addr}{K:Type}{w w':World}
theorem CJ(rows:List (List Int))(k:Nat):(rows.take k).flatten.length<=rows.flatten.length:=by have:=congrArg (λl=>l.flatten.length) (ayw k rows);simp only[ay6,axv]at this;omega
theorem NA(L:Option Addr)(lc:Nat)(rows:List (List Int))(w:World)(h:oC w L rows)(ht:rows.flatten.length<=1099511627776):
 Calls prog 160 #[.slice L rows.length lc] w λe w'=>LIo w rows.flatten e w':=by
 have hl:=h.1;go_enter Tryz.func160,Tryz.ntmps160
 go_wp2_with fail
 go_loopw [3,9] (λo i wr=>∃k:Nat,k<=rows.length/\i=.int .i64 k/\AL wr w.heap.size o (rows.take k).flatten/\Ex w wr) (λ_ i _=>rows.length-(intOf i).toNat)
 case atStart=>exact⟨0,axq _,rfl,AL.empty w (axk _),(aCQ w).alloc _⟩
 case round=>
  obtain⟨k,hk,rfl,hal,he⟩:=hrel;by_cases hlt:k<rows.length
  .obtain⟨g,off,P,pc,r,rfl,hr,c1,hP⟩:=(h.ex he).at_ hlt;have Hst:=axj (show(rows.take (k+1)).flatten=(rows.take k).flatten++r by
    rw[axy,hr,ay6];simp)
   have hle:=CJ rows (k+1);rw[Hst.out,axv]at hle;have hz:=he.size;have hPl:=hP.len;obtain⟨v',w4,fG,ZV,hE,_⟩:=bK 55 55 Tryz.underlying55 wr w.heap.size u3 _ hal hz P pc r hP (by omega);rw[<-Hst.out]at ZV;have xL:=he.Og hE (λg e=>(hal.lt g e).1);clear hr hle;go_wp2_with (at_builtin;refine wpList_append_run rfl _ _ _ rfl rfl rfl fG ?_)
   go_roundw;case rel=>exact⟨k+1,by omega,by go_num,ZV,xL⟩
   case measure=>simp[intOf];omega
  .obtain rfl:k=rows.length:=by omega
   rw[axE]at hal;obtain⟨O,oc,rfl,fo⟩:=hal.form ht;go_wp2_with fail
   go_ret;exact⟨_,rfl,⟨O,oc,rfl,fo.fi⟩,he⟩
theorem zw(p:Int)(x:aG)(A B:Option Addr)(c d:Nat)(w:World)(hx:FV p x)(hA:Rd w A x.n)(hB:Rd w B x.d):
 Calls prog 75 #[.int .i64 p,.agg #[.slice A x.n.length c,.slice B x.d.length d]] w λe w'=>G8 w (bY p x) e w':=by
 have h2:=ax hx.f;have h97:=aT hx.f;have hne:=hx.n.e;have hw:IntKind.i64.wrap (p-1)=p-1:=axC _ (by omega);obtain⟨n,m⟩:=x;dsimp only at hA hB hne⊢;clear hx;obtain⟨x0,v0⟩:=VB.xn w 57 #[.slice A n.length c,.slice B m.length d];have s0:(w.alloc (.cells #[.slice A n.length c,.slice B m.length d] 57)).heap.size=w.heap.size+1:=by simp
 go_enter Tryz.func75,Tryz.ntmps75
 go_wp2_with fail
 generalize w.alloc (.cells #[.slice A n.length c,.slice B m.length d] 57)=W0 at*;obtain⟨x1,v1⟩:=VB.xn W0 57 #[.slice none 0 0,.slice none 0 0];have s1:(W0.alloc (.cells #[.slice none 0 0,.slice none 0 0] 57)).heap.size=w.heap.size+1+1:=by simp;exact s0
 rw[s0]at v1;generalize W0.alloc (.cells #[.slice none 0 0,.slice none 0 0] 57)=W1 at*;have v0:=v0.ex x1;have xx:=x0.trans x1;clear x0 x1;obtain⟨q0,q1⟩:=v0.d2;have Xi:∀W,aM (w.heap.size+1) W1 W->(aM (w.heap.size+1) W1 W/\W.cell? ⟨w.heap.size,0,none⟩=some (.slice A n.length c)/\W.cell? ⟨w.heap.size,1,none⟩=some (.slice B m.length d)):=λW h=>⟨h,(v0.aK h (by omega)).c0,(v0.aK h (by omega)).c1⟩
 have eA:=(aM.refl (w.heap.size+1) W1).drew;go_region_held3 (λW=>aM (w.heap.size+1) W1 W/\W.cell? ⟨w.heap.size,0,none⟩=some (.slice A n.length c)/\W.cell? ⟨w.heap.size,1,none⟩=some (.slice B m.length d)) (first
  |(exact Xi _ ((e5.setCell rfl _).setCell rfl _))|(exact Xi _ e5)|(exact Xi _ e4)|(exact Xi _ e3)|(exact Xi _ eA)|(exact Xi _ (aM.refl _ _))) (first
  |(go_at_call_of 109 (Value.slice A n.length c)
    have hb:=(‹aM (w.heap.size+1) W1 _/\_›).1;refine(vw p A c (p-1) n _ (hA.ex (xx.aK hb (by omega))) h2 h97 hne ⟨by omega,by omega⟩).mono ?_;rintro e w3 ⟨A3,c3,rfl,f3,x3⟩;have e3:=hb.trans (aM.aP x3);have z3:=hb.size';have y3:=x3.size;clear hb)
  |(go_at_call 45
    refine(kR A3 c3 (aW p (p-1) n) w3 f3.rd).mono ?_;rintro e w4 ⟨g4,c4,rfl,hc4,hg4,o4,x4⟩;have e4:=e3.trans (aM.aP x4);have z4:=x4.size)
  |(go_at_call_of 45 (Value.slice B m.length d)
    refine(kR B d m w4 (hB.ex (xx.aK e4 (by omega)))).mono ?_;rintro e w5 ⟨g5,c5,rfl,Xh,hg5,o5,x5⟩;have e5:=e4.trans (aM.aP x5);have z5:=x5.size;have v5:VB w5 (w.heap.size+1) 57 #[.slice none 0 0,.slice none 0 0]:=by first|exact((v1.ex x3).ex x4).ex x5|exact((VB.ex (w:=W1.drew) v1 x3).ex x4).ex x5
    obtain⟨r0,r1⟩:=v5.d2;have k0:=v5.frozen 0;have k1:=v5.frozen 1))
 all_goals
  have hl4:=o4.lt;have E5:aM (w.heap.size+1) w5 ((w5.setCell ⟨w.heap.size+1,0,none⟩ (.slice (some ⟨g4,0,none⟩) (aW p (p-1) n).length c4)).setCell ⟨w.heap.size+1,1,none⟩ (.slice (some ⟨g5,0,none⟩) m.length c5)):=((aM.refl _ w5).setCell (p:=⟨w.heap.size+1,0,none⟩) rfl _).setCell (p:=⟨w.heap.size+1,1,none⟩) rfl _;have v6:VB ((w5.setCell ⟨w.heap.size+1,0,none⟩ (.slice (some ⟨g4,0,none⟩) (aW p (p-1) n).length c4)).setCell ⟨w.heap.size+1,1,none⟩ (.slice (some ⟨g5,0,none⟩) m.length c5)) (w.heap.size+1) 57 #[.slice (some ⟨g4,0,none⟩) (aW p (p-1) n).length c4,.slice (some ⟨g5,0,none⟩) m.length c5]:=(v5.bC 0 _).bC 1 _;obtain⟨D0,D1⟩:=v6.d2;have yy:Ex w _:=(xx.aK e5 (by omega)).aK E5 (by omega);have zx:=xx.size;have F4:=(((o4.ex x5).aK E5 (by omega)).fr f3.rd.len (B:=w.heap.size) (by omega) hc4);have F5:=((o5.aK E5 (by omega)).fr hB.len (B:=w.heap.size) (by omega) Xh);clear hw;go_wp2_with fail
  refine axu (v:=.agg #[.slice (some ⟨g4,0,none⟩) (aW p (p-1) n).length c4,.slice (some ⟨g5,0,none⟩) m.length c5]) (by simp[results,Tryz.results75,go_sem,D0,D1]) rfl ?_;exact⟨_,c4,_,c5,rfl,F4,F5,iA (by omega),yy⟩
theorem Mc(p:Int)(vs ws:List aG)(x:aG)(A B P Q:Option Addr)(c d pc qc:Nat)(w:World)(hv:bW EF w A vs)(hw:bW EF w B ws)(hl:vs.length=ws.length)(hP:Rd w P x.n)(hQ:Rd w Q x.d)
 (hvv:jS p 137438953472 vs) (hww:jS p 68719476736 ws) (hx:FV p x) (hxl:FL 68719476736 x):
 Calls prog 110 #[.int .i64 p,.slice A vs.length c,.slice B ws.length d,.agg #[.slice P x.n.length pc,.slice Q x.d.length qc]] w λe w'=>∃v,e=.returned v/\GE rR 57 w' w.heap.size w'.heap.size v ((au p).less vs x ws)/\Ex w w':=by
 have Hvv:=axj hvv;have Hww:=axj hww;have HX:=axj hx;have HXL:=axj hxl;have Hl:=axj hl;have hvl:=hv.1;obtain⟨x0,v0⟩:=VB.xn w 57 #[.slice P x.n.length pc,.slice Q x.d.length qc];have s0:(w.alloc (.cells #[.slice P x.n.length pc,.slice Q x.d.length qc] 57)).heap.size=w.heap.size+1:=by simp
 clear hvv hww hx hxl hl;go_enter Tryz.func110,Tryz.ntmps110
 go_wp2_with fail
 generalize w.alloc (.cells #[.slice P x.n.length pc,.slice Q x.d.length qc] 57)=W0 at*;refine(zw p x P Q pc qc W0 HX.out (hP.ex x0) (hQ.ex x0)).mono ?_;rintro e w1 ⟨M,mc,N,nc,rfl,fM,fN,apM,x1⟩;obtain⟨m,hm⟩:=xq (bY p x);have Hm:=axj hm;rw[hm]at fM fN⊢;clear hm;have HM:=axj (show FV p m by rw[<-Hm.out];exact HX.out.neg);have HML:=axj (show FL 68719476736 m by rw[<-Hm.out];exact HXL.out.neg);obtain⟨y1,d1⟩:=VB.xn w1 57 #[.slice M m.n.length mc,.slice N m.d.length nc];have s1:(w1.alloc (.cells #[.slice M m.n.length mc,.slice N m.d.length nc] 57)).heap.size=w1.heap.size+1:=by simp
 go_wp2_with fail
 generalize w1.alloc (.cells #[.slice M m.n.length mc,.slice N m.d.length nc] 57)=W1 at*;have xW:=(x0.trans x1).trans y1;have rM:=fM.rd.ex y1;have rN:=fN.rd.ex y1;have zW:=xW.size;clear x0 x1 y1 v0 s0 fM fN apM;go_loopw [10,18] (λo i wr=>∃k:Nat,k<=vs.length/\i=.int .i64 k/\GE rR 57 wr W1.heap.size wr.heap.size o (((au p).less vs x ws).take k)/\Ex W1 wr) (λ_ i _=>vs.length-(intOf i).toNat)
 case atStart=>exact⟨0,axq _,rfl,GE.nil _ _ _ _ _,aCQ _⟩
 case round=>
  rename World=>wi;obtain⟨k,hk,rfl,hge,he⟩:=hrel;by_cases hlt:k<vs.length
  .have hlt2:k<ws.length:=by have:=Hl.out;omega
   obtain⟨g,off,y,P2,pc2,Q2,qc2,rfl,hy,c0,c1,hP2,hQ2⟩:=(hv.ex (xW.trans he)).iy hlt;obtain⟨g',off',u,P3,pc3,Q3,qc3,rfl,hu,bW0,bW1,aj9,aj7⟩:=(hw.ex xW).iy hlt2;have b0:=af he bW0;have b1:=af he bW1;have hP3:=aj9.ex he;have hQ3:=aj7.ex he;clear aj9 aj7;have HY:=axj (Hvv.out y (axo hy));have HU:=axj (Hww.out u (axo hu));have HT:=axj (show((au p).less vs x ws).take (k+1)=((au p).less vs x ws).take k++[uV p y (fP p m u)] by
    rw[axy];congr 1;unfold Ops.less;rw[azl,hy,hu,<-Hm.out];rfl)
   clear hy hu;have htl:(((au p).less vs x ws).take k).length<=k:=ax7 _ _;have cMul:∀W,Ex wi W->Calls prog 137 #[.int .i64 p,.agg #[.slice M m.n.length mc,.slice N m.d.length nc],.agg #[.slice P3 u.n.length pc3,.slice Q3 u.d.length qc3]] W λe w'=>G8 W (fP p m u) e w':=λW hW=>
    Uc p M N mc nc m.n m.d P3 Q3 pc3 qc3 u.n u.d W (rM.ex (he.trans hW)) (rN.ex (he.trans hW)) (hP3.ex hW) (hQ3.ex hW) (HM.out.Tq (by have:=HML.out.1;omega) (by have:=HML.out.2;omega)) (HU.out.1.Tq (by have:=HU.out.2.1;omega) (by have:=HU.out.2.2;omega))
   have HZ:=axj (show FV p (fP p m u)/\FL 137438953472 (fP p m u)from⟨HM.out.mul HU.out.1,(FL.mul HM.out HU.out.1 HML.out HU.out.2).mono (by omega)⟩);obtain⟨z,hz⟩:=xq (fP p m u);rw[hz]at cMul HT HZ;clear hz;have cAdd:∀(A5 B5:Option Addr) (c5 d5:Nat) (W:World),Ex wi W->Rd W A5 z.n->Rd W B5 z.d->Calls prog 146 #[.int .i64 p,.agg #[.slice P2 y.n.length pc2,.slice Q2 y.d.length qc2],.agg #[.slice A5 z.n.length c5,.slice B5 z.d.length d5]] W λe w'=>G8 W (uV p y z) e w':=λA5 B5 c5 d5 W hW r1 r2=>
    ado p P2 Q2 pc2 qc2 y.n y.d A5 B5 c5 d5 z.n z.d W (hP2.ex hW) (hQ2.ex hW) r1 r2 (HY.out.1.Tq (by have:=HY.out.2.1;omega) (by have:=HY.out.2.2;omega)) (HZ.out.1.Tq (by have:=HZ.out.2.1;omega) (by have:=HZ.out.2.2;omega))
   obtain⟨y1,dy⟩:=VB.xn wi 57 #[.slice P2 y.n.length pc2,.slice Q2 y.d.length qc2];have d1w:=d1.ex he;go_wp2_with fail
   generalize wi.alloc (.cells #[.slice P2 y.n.length pc2,.slice Q2 y.d.length qc2] 57)=W3 at*;have hzi:=he.size;have zy1:=y1.size;have hd1:=d1.lt;obtain⟨q0,q1⟩:=dy.d2;have q2:=(d1w.ex y1).c0;have q3:=(d1w.ex y1).c1;have q4:=af y1 b0;have q5:=af y1 b1;have hS:∀W,Ex W3 W->(W.cell? ⟨wi.heap.size,0,none⟩=some (.slice P2 y.n.length pc2)/\W.cell? ⟨wi.heap.size,1,none⟩=some (.slice Q2 y.d.length qc2)/\W.cell? ⟨w1.heap.size,0,none⟩=some (.slice M m.n.length mc)/\W.cell? ⟨w1.heap.size,1,none⟩=some (.slice N m.d.length nc)/\W.cell? ⟨g',off'+k*2,none⟩=some (.slice P3 u.n.length pc3)/\W.cell? ⟨g',off'+k*2+1,none⟩=some (.slice Q3 u.d.length qc3)):=λW h=>⟨af h q0,af h q1,af h q2,af h q3,af h q4,af h q5⟩
   go_region_held3 (λW=>W.cell? ⟨wi.heap.size,0,none⟩=some (.slice P2 y.n.length pc2)/\W.cell? ⟨wi.heap.size,1,none⟩=some (.slice Q2 y.d.length qc2)/\W.cell? ⟨w1.heap.size,0,none⟩=some (.slice M m.n.length mc)/\W.cell? ⟨w1.heap.size,1,none⟩=some (.slice N m.d.length nc)/\W.cell? ⟨g',off'+k*2,none⟩=some (.slice P3 u.n.length pc3)/\W.cell? ⟨g',off'+k*2+1,none⟩=some (.slice Q3 u.d.length qc3)) (first
    |(exact hS _ (aCQ _))|(exact hS _ (aCQ _).drew)|(exact hS _ e4)|(exact hS _ E5)|(exact hS _ (E5.alloc _))|(exact hK6)) (first
    |(go_at_call 137
      refine(cMul W3.drew y1.drew).mono ?_;rintro e w4 ⟨A4,c4,B4,d4,rfl,f4,g4,ap4,x4⟩;have e4:Ex W3 w4:=(aCQ W3).drew.trans x4)
    |(go_at_call 146
      refine(cAdd A4 B4 c4 d4 w4 (y1.trans e4) f4.rd g4.rd).mono ?_;rintro e w5 ⟨A5,c5,B5,d5,rfl,f5,g5,ap5,x5⟩;have E5:Ex W3 w5:=e4.trans x5;have z5:=x5.size;have z4:=e4.size;obtain⟨v6,w6,hrun,ajD,hO6,ajo,hE6⟩:=jU (hge.ex (y1.trans E5)) (by omega) (dZ (x:=uV p y z) f5 g5 ap5 z5) (by omega) z5 (axk _) hzi (by omega);have hK6:w6.cell? ⟨wi.heap.size,0,none⟩=some (.slice P2 y.n.length pc2)/\w6.cell? ⟨wi.heap.size,1,none⟩=some (.slice Q2 y.d.length qc2)/\w6.cell? ⟨w1.heap.size,0,none⟩=some (.slice M m.n.length mc)/\w6.cell? ⟨w1.heap.size,1,none⟩=some (.slice N m.d.length nc)/\w6.cell? ⟨g',off'+k*2,none⟩=some (.slice P3 u.n.length pc3)/\w6.cell? ⟨g',off'+k*2+1,none⟩=some (.slice Q3 u.d.length qc3):=by
       have dy6:VB w6 wi.heap.size 57 #[.slice P2 y.n.length pc2,.slice Q2 y.d.length qc2]:=(hO6.block wi.heap.size (dy.ex E5).lt (λe=>by have:=hge.own _ e.symm;omega)).trans (dy.ex E5);have x6:=hE6 W1 (he.trans (y1.trans E5)) (axk _);have d6:=d1.ex x6;have hw6:=(hw.ex xW);exact⟨dy6.c0,dy6.c1,d6.c0,d6.c1,af x6 bW0,af x6 bW1⟩)
    |(refine aH rfl _ _ _ rfl rfl rfl hrun ?_))
   all_goals
    have x6:=hE6 W1 (he.trans (y1.trans E5)) (axk _);rw[<-HT.out]at ajD;clear q0 q1 q2 q3 q4 q5 hS hK6 hE6 hO6 hrun hge HT htl cMul cAdd;go_wp2_with fail
    go_roundw;case rel=>exact⟨k+1,by omega,by go_num,ajD,x6⟩
    case measure=>simp[intOf];omega
  .obtain rfl:k=vs.length:=by omega
   have hfull:((au p).less vs x ws).length=vs.length:=qM (au p) rfl Hl.out.symm x;rw[axG (by omega)]at hge;go_wp2_with fail
   go_ret;exact⟨_,rfl,hge.more zW (axk _),xW.trans he⟩
theorem BP{α:Type}{Q:Nat->α->Prop}:∀(n:Nat),(∀j,j<n->∃a,Q j a)->∃l:List α,l.length=n/\∀(j:Nat) (a:α),l[j]?=some a->Q j a
 |0,_=>⟨[],rfl,λj a h=>by simp at h⟩
 |n+1,h=>by
  obtain⟨l,h1,h2⟩:=BP n (λj hj=>h j (by omega));obtain⟨a,ha⟩:=h n (by omega);refine⟨l++[a],by simp[h1],λj b hb=>?_⟩;by_cases e:j<l.length
  .rw[axX e]at hb;exact h2 j b hb
  .rw[axN (by omega)]at hb;have:j-l.length=0:=by
    rcases Nat.eq_zero_or_pos (j-l.length)with h0|h0
    .exact h0
    .rw[ax2 (by simp;omega)]at hb;cases hb
   rw[this]at hb;injection hb with hb;subst hb;rw[show j=n by omega];exact ha
theorem agS{O:Ops K}{Z:List (List K)}{r t:Nat}(hr:r<=t)(h:∀(i:Nat) (v:List K),r<=i->i<t->Z[i]?=some v->O.kZ (O.el v c)=true){v:List K}(hv:Z[t]?=some v)(hz:O.kZ (O.el v c)=false):O.uP Z r c=t:=by
 have htl:=(axp.1 hv).1;have:(Z.drop r).findIdx (λrow=> !O.kZ (O.el row c))=t-r:=by
  rw[azO (by rw[axF];omega)]
  refine⟨by rw[azC];have e:Z[r+(t-r)]'(by omega)=v:=by have:=(axp.1 hv).2;rw[<-this];congr 1;omega
            rw[e,hz];rfl,λj hj=>by
   rw[azC,h (r+j) _ (by omega) (by omega) (axn _)];rfl⟩
 unfold Ops.uP;rw[this];omega
theorem agR{O:Ops K}{Z:List (List K)}{r:Nat}(hr:r<=Z.length)(h:∀(i:Nat) (v:List K),r<=i->i<Z.length->Z[i]?=some v->O.kZ (O.el v c)=true):¬O.uP Z r c<Z.length:=by
 have:(Z.drop r).findIdx (λrow=> !O.kZ (O.el row c))=Z.length-r:=by rw[<-axF,aAc];intro v hv;obtain⟨j,hj⟩:=axz hv;rw[axY]at hj;rw[h (r+j) v (by omega) (axp.1 hj).1 hj];rfl
 unfold Ops.uP;rw[this];omega
theorem jS.app{p:Int}{L:Nat}{u v:List aG}(h:jS p L u)(k:jS p L v):jS p L (u++v):=λx hx=>by
 rcases axZ.1 hx with e|e
 .exact h x e
 .exact k x e
theorem ab5{p:Int}{x:iK}(h:U6 p x=true):∃l r:Nat,x.l=(l:Int)/\x.r=(r:Int)/\l+r<=12/\iB p 21 x.b/\aQ (l+r) x.b/\(∀v∈x.b,bX v<l+r)/\x.b.length<=12/\av p=true:=by
 obtain⟨h1,h2,h3,h4⟩:=rW.1 h;have h5:=Fz h2;have h6:=Jz h1 (IX (qH h3)) h4;obtain⟨l,hl⟩:∃l:Nat,x.l=(l:Int):=⟨x.l.toNat,by omega⟩;obtain⟨r,hr⟩:∃r:Nat,x.r=(r:Int):=⟨x.r.toNat,by omega⟩;have e:(x.l+x.r).toNat=l+r:=by omega
 rw[e]at h3 h4 h6;exact⟨l,r,hl,hr,by omega,qH h3,lD h3,λv hv=>(h4.one v hv).1,by omega,h1⟩
theorem bW.tkk{α:Type}{E:EK α}{xs:List α}(h:bW E w A xs)(k:Nat):bW E w A (xs.take k):=by obtain⟨hl,h⟩:=h;exact⟨axA (ayL _ _) hl,λj x hj=>h j x (by rw[axL]at hj;split at hj;exact hj;cases hj)⟩
def Gi(S:Nat->Prop)(G:Nat)(w:World)(P:Option Addr)(r:List aG):Prop:=∀w',bG (λk=>k=G∨S k) w w'->bW EF w' P r
theorem Gi.rd(h:Gi S G w P r):bW EF w P r:=h w (bG.refl _ _)
theorem Gi.k1(h:Gi S G w P r)(k:aM G w w'):Gi S G w' P r:=λw2 h2=>h w2 ((bG.aZ (S:=λk=>k=G∨S k) k (.inl rfl)).trans h2 (λ_ _ h=>h))
theorem Gi.ex(h:Gi S G w P r)(k:Ex w w'):Gi S G w' P r:=h.k1 (aM.aP k)
theorem Gi.iv(h:Gi S G w P r)(k:bG S w w'):bW EF w' P r:=h w' (k.widen λ_ _ h=> .inr h)
theorem aM.cell(k:aM G w w'){g o:Nat}(hg:g≠G){v:Value}(h:w.cell? ⟨g,o,none⟩=some v):w'.cell? ⟨g,o,none⟩=some v:=
 (axP (w:=w) (a:=⟨g,o,none⟩) (k.block g (jC (p:=⟨g,o,none⟩) h) (λe=>by injection e with e;exact hg e))).trans h
theorem Gi.iy(h:Gi S G w P r)(hj:j<r.length):
 ∃g off x X xc Y yc,P=some ⟨g,off,none⟩/\r[j]?=some x/\¬(g=G)/\w.cell? ⟨g,off+j*2,none⟩=some (.slice X x.n.length xc)/\w.cell? ⟨g,off+j*2+1,none⟩=some (.slice Y x.d.length yc)/\∀w',aM G w w'->Rd w' X x.n/\Rd w' Y x.d:=by
 obtain⟨g,off,x,X,xc,Y,yc,rfl,hx,c0,c1,hX,hY⟩:=h.rd.iy hj;have hne:¬(g=G):=λe=>by
  subst e;obtain⟨w2,hw2⟩:∃w2:World,w2={w with heap:=w.heap.modify g λ_=> .cells #[] 0 (0,0)}:=⟨_,rfl⟩;have k:aM g w w2:=by subst hw2;refine⟨rfl,rfl,rfl,by simp,λi hi hn=>?_⟩;simp only[ayn];rw[axm (λe=>hn (by rw[e]))]
  obtain⟨g',off',x',X',xc',Y',yc',e,_,c0',_⟩:=(h w2 (bG.aZ k (.inl rfl))).iy hj;injection e with e;injection e with e1 e2;subst e1;have hlt:=jC (p:=⟨g,off+j*2,none⟩) c0;rw[hw2]at c0';simp[World.cell?,ayn,azQ hlt]at c0'
 refine⟨g,off,x,X,xc,Y,yc,rfl,hx,hne,c0,c1,λw' k=>?_⟩;obtain⟨g',off',x',X',xc',Y',yc',e,hx',c0',c1',hX',hY'⟩:=(h w' (bG.aZ k (.inl rfl))).iy hj;injection e with e;injection e with e1 e2;subst e1 e2;rw[hx]at hx';injection hx' with hx';subst hx';have d0:=aM.cell k hne c0;have d1:=aM.cell k hne c1;rw[c0']at d0;rw[c1']at d1;injection d0 with d0;injection d0 with d0;injection d1 with d1;injection d1 with d1;subst d0 d1;exact⟨hX',hY'⟩
theorem aci{O:Ops K}{Z:List (List K)}{r t:Nat}{zt zr:List K}(Gq:Z[t]?=some zt)(wR:Z[r]?=some zr){k:Nat}{u:List K}(hu:((Z.set t zr).set r (O.oJ zt c))[k]?=some u):
 (O.piv Z r c t)[k]?=some (if k=r then O.oJ zt c else if O.kZ (O.el u c)then u else O.less u (O.el u c) (O.oJ zt c)):=by
 have htl:=(axp.1 Gq).1;have hrl:=(axp.1 wR).1;have hkl:k<Z.length:=by have:=(axp.1 hu).1;simpa using this
 have e1:Z.getD t []=zt:=by rw[axt,Gq];rfl
 rw[pU O hrl htl c k hkl,e1];unfold Ops.Gt;by_cases e:k=r
 .rw[axl e,axl e]
 .have:Z.getD (if k=t then r else if k=r then t else k) []=u:=by
   rw[axK,axm (λh=>e h.symm),axK]at hu;by_cases e2:k=t
   .rw[axl e2.symm,axl htl]at hu;injection hu with hu;rw[axl e2,axt,wR,<-hu];rfl
   .rw[axm (λh=>e2 h.symm)]at hu;rw[axm e2,axm e,axt,hu];rfl
  rw[this]
theorem GE.rdn{B H m:Nat}{xs:List aG}(h:GE rR 57 w B H (.slice P m c) xs)(hG:G<B)(hb:∀k,S k->k<B)(hl:xs.length<=1099511627776):Gi S G w P xs:=λw' k=>by obtain⟨A,c',e,_,o⟩:=(h.keep (w':=w') λi h1 _ hi=>k.block i hi (λe=>e.elim (λe=>by omega) (λe=>by have:=hb i e;omega))).ox (E':=Jf) hl rfl sO;injection e with e1 _ _;subst e1;exact o.JC rfl Bg
theorem Gi.weak(h:Gi T G w P r)(hT:∀k,S k->T k):Gi S G w P r:=λw2 h2=>h w2 (h2.widen λk _ e=>e.elim .inl λe=> .inr (hT k e))
def sq(S T:Nat->Prop)(q j:Nat):Nat->Prop:=λk=>S k∨(j<q/\T k)
structure MR (w:World) (S T:Nat->Prop) (G n q:Nat) (rows:List (List aG)):Prop where
 out:∃cur:Array Value,w.heap[G]?=some (.cells cur 54 (0,0))/\∀(j:Nat) (r:List aG),rows[j]?=some r->r.length=n/\∃P c,cur[j]?=some (.slice P n c)/\(j<q->n<=c)/\Gi (sq S T q j) G w P r
theorem MR.lt(h:MR w S T G n q rows):G<w.heap.size:=by obtain⟨_,h,_⟩:=h.out;exact aF h
theorem MR.frozen(h:MR w S T G n q rows)(i:Nat):w.frozen? ⟨G,i,none⟩=false:=by obtain⟨cur,hc,_⟩:=h.out;simp[World.frozen?,hc]
theorem MR.at_(h:MR w S T G n q rows)(hj:rows[j]?=some r):∃P c,w.cell? ⟨G,j,none⟩=some (.slice P n c)/\Gi S G w P r:=by obtain⟨cur,hc,hx⟩:=h.out;obtain⟨_,P,c,h1,_,h2⟩:=hx j r hj;exact⟨P,c,by simp[World.cell?,hc,h1],h2.weak λk e=> .inl e⟩
theorem MR.len(h:MR w S T G n q rows)(hj:rows[j]?=some r):r.length=n:=by obtain⟨cur,hc,hx⟩:=h.out;exact(hx j r hj).1
theorem MR.ex(h:MR w S T G n q rows)(k:Ex w w'):MR w' S T G n q rows:=by have hl:=h.lt;obtain⟨cur,hc,hx⟩:=h.out;refine⟨cur,(k.block hl).trans hc,λj r hj=>?_⟩;obtain⟨h0,P,c,h1,hr,h2⟩:=hx j r hj;exact⟨h0,P,c,h1,hr,h2.ex k⟩
theorem MR.put(h:MR w S T G n q rows)(i:Nat){q':Nat}(hr:Gi (sq S T q' i) G w P r)(hn:r.length=n)(hroom:i<q'->n<=c)(hq:∀j,j<q'->j≠i->j<q):MR (w.setCell ⟨G,i,none⟩ (.slice P n c)) S T G n q' (rows.set i r):=by
 have k:aM G w (w.setCell ⟨G,i,none⟩ (.slice P n c)):=(aM.refl _ _).setCell (p:=⟨G,i,none⟩) rfl _;obtain⟨cur,hc,hx⟩:=h.out;refine⟨cur.setIfInBounds i (.slice P n c),by simp[World.setCell,ayn,hc],λj z hj=>?_⟩;rw[axK]at hj;split at hj
 .rename_i e;subst e;split at hj
  .rename_i hl;injection hj with hj;subst hj;obtain⟨_,_,_,h1,_⟩:=hx i _ (axn hl);exact⟨hn,P,c,by rw[ax1,axl rfl,axl (aye.1 h1).1],hroom,hr.k1 k⟩
  .cases hj
 .rename_i e;obtain⟨h0,P',c',h1,h3,h2⟩:=hx j z hj;exact⟨h0,P',c',by rw[ax1,axm e];exact h1,λhj=>h3 (hq j hj λe2=>e e2.symm),(h2.weak λk hk=>hk.imp id λhk=>⟨hq j hk.1 λe2=>e e2.symm,hk.2⟩).k1 k⟩
theorem MR.Da(h:MR w S T G n q rows)(hl:rows.length<=1099511627776)(hb:¬T G)(k:bG T w w'):j_ w' (some ⟨G,0,none⟩) (rows.take q):=by
 have hgl:=h.lt;obtain⟨cur,hc,hx⟩:=h.out;have hc2:=(k.block G hgl hb).trans hc;have key:∀(j:Nat) (r:List aG),(rows.take q)[j]?=some r->∃P c,w'.cell? ⟨G,0+j,none⟩=some (.slice P r.length c)/\r.length<=c/\bW EF w' P r:=λj r hj=>by
  have hjq:j<q:=by
   rw[axL]at hj;split at hj
   .assumption
   .cases hj
  rw[axL,axl hjq]at hj;obtain⟨h0,P,c,h1,h3,h2⟩:=hx j r hj;subst h0;exact⟨P,c,by simp[World.cell?,hc2,h1],h3 hjq,(h2.weak (S:=T) λk e=> .inr ⟨hjq,e⟩).iv k⟩
 refine⟨⟨axA (ayL _ _) hl,λj r hj=>?_⟩,λj r hj=>?_⟩
 .obtain⟨P,c,h1,h2,h3⟩:=key j r hj;refine⟨G,0,[.slice P r.length c],rfl,λi u hi=>?_,_,rfl,P,c,rfl,h3⟩;rcases i with _|i
  .injection hi with hi;subst hi;rw[show iX.k=1 from rfl,ays,ayb];exact h1
  .simp at hi
 .obtain⟨P,c,h1,h2,h3⟩:=key j r hj;exact⟨G,0,P,c,rfl,h1,h2,h3⟩
def mW(S:Nat->Prop)(w:World)(A:Option Addr)(rows:List (List aG)):Prop:=
 rows.length<=1099511627776/\∀(j:Nat) (r:List aG),rows[j]?=some r->∃g off P pc,A=some ⟨g,off,none⟩/\w.cell? ⟨g,off+j,none⟩=some (.slice P r.length pc)/\∀w2,bG S w w2->bW EF w2 P r
theorem mW.iU{w0:World}(h:bW iX w0 A rows)(he:Ex w0 w)(hS:∀k,S k->w0.heap.size<=k):mW S w A rows:=⟨h.1,λj r hj=>by
 obtain⟨g,off,r',u,hA,hr,b0,hu⟩:=h.jf (axp.1 hj).1;rw[hj]at hr;injection hr with hr;subst hr;obtain⟨P,pc,rfl,hP⟩:=hu.form;exact⟨g,off,P,pc,hA,af he b0,λw2 h2=>hP.ex (he.sx h2 hS)⟩⟩
theorem mW.ex(h:mW S w A rows)(he:Ex w w')(hS:∀k,T k->S k∨w.heap.size<=k):mW T w' A rows:=⟨h.1,λj r hj=>by
 obtain⟨g,off,P,pc,e,q,k⟩:=h.2 j r hj;exact⟨g,off,P,pc,e,af he q,λw2 h2=>k w2 ((bG.aP (S:=S) he).trans h2 (λi hi ht=>(hS i ht).elim id (λq=>by omega)))⟩⟩
theorem Gw(h:mW S w A rows)(_:∀k,S k->k<w.heap.size)(hw:aQ n rows)(hl:rows.length<=1000):
 ∃G C w',(Builtin.append_ #[26,26] 26 #[.slice (some ⟨w.heap.size,0,none⟩) 0 0,.slice A rows.length c]).run prog (w.alloc (.cells #[] 54))=.ok (.slice (some ⟨G,0,none⟩) rows.length C) w'/\rows.length<=C/\w.heap.size<=G/\MR w' S T G n 0 rows/\Ex w w':=by
 obtain⟨i,hi,hz,hs,hby⟩:=axW jB;have x1:=(aCQ w).alloc (.cells #[] 54);have hs1:(w.alloc (.cells #[] 54)).heap.size=w.heap.size+1:=by simp
 have h1:(w.alloc (.cells #[] 54)).ownsRow w.heap.size 54 1 (.slice (some ⟨w.heap.size,0,none⟩) 0 0) 0 []:=⟨by simp,.inr ⟨w.heap.size,0,#[],rfl,axk _,heap_alloc_new w _,axk _,axq _,by simp,by simp⟩⟩;rcases A with _|ad
 .have hx:rows=[]:=by
   cases rows with
   |nil=>rfl
   |cons x xs=>obtain⟨g,off,P,pc,hA,_⟩:=h.2 0 x rfl;cases hA
  subst hx;refine⟨w.heap.size,0,_,?_,axk _,axk _,⟨#[],heap_alloc_new w _,λj r hj=>by simp at hj⟩,x1⟩;simp[Builtin.append_,ayj Tryz.underlying26,sizeOf,typeInfo,hi,Builtin.lenOf,Builtin.firstCells,storeCells]
 .obtain⟨vals,k1,k2⟩:=BP (Q:=λj (v:Value)=>∃r g off P pc,ad=⟨g,off,none⟩/\rows[j]?=some r/\r.length=n/\v=.slice P n pc/\w.cell? ⟨g,off+j,none⟩=some v/\∀w2,bG S w w2->bW EF w2 P r) rows.length (λj hj=>by
   obtain⟨g,off,P,pc,hA,b0,hP⟩:=h.2 j _ (axn hj);injection hA with hA;subst hA;have hrn:=hw rows[j] (ax6 hj);exact⟨.slice P n pc,rows[j],g,off,P,pc,rfl,axn hj,hrn,rfl,by rw[<-hrn];exact b0,hP⟩)
  have hnews:∀(q:Nat) (u:Value),vals[q]?=some u->(w.alloc (.cells #[] 54)).cell? (ad.add q)=some u:=λq u hu=>by
   obtain⟨r,g,off,P,pc,rfl,_,_,_,q0,_⟩:=k2 q u hu;have e:(⟨g,off,none⟩:Addr).add q=⟨g,off+q,none⟩:=by unfold Addr.add;split<;>simp_all
   rw[e];exact af x1 q0
  obtain⟨v',w',hrun,h2,h3,h4,h5⟩:=run_append_own_at (P:=prog) (w.alloc (.cells #[] 54)) w.heap.size 26 26 54 i (.slice none 0 0) 1 24 Tryz.underlying26 hi hz hs hby rfl (by omega) _ 0 [] h1 ad rows.length c vals (by rw[k1,ays]) hnews (by
   intro u hu;obtain⟨j,hj⟩:=axz hu;obtain⟨r,g,off,P,pc,_,_,_,rfl,_⟩:=k2 j u hj;rfl) (by unfold maxLen;omega) (by omega) (by omega)
  rw[axT,ayz]at h2;have xw:Ex w w':=x1.Og h3 (λg e=>by simp[Value.ownBlock]at e;omega);rcases h2.2 with⟨e,_⟩|⟨G,C,cur,e,hB,hh,hnc,_,_,ht⟩
  .exact absurd (h4.1 e).1 (by simp)
  .subst e;refine⟨G,C,w',hrun,hnc,hB,⟨cur,hh,λj r hj=>?_⟩,xw⟩;have hjl:=(axp.1 hj).1;obtain⟨v,hv⟩:∃v,vals[j]?=some v:=⟨_,axn (by omega)⟩;obtain⟨r',g,off,P,pc,_,hr',hrn,rfl,_,hP⟩:=k2 j v hv;rw[hj]at hr';injection hr' with hr';subst hr';refine⟨hrn,P,pc,?_,λe=>by omega,λw2 hw2=>hP w2 ((bG.aP (S:=S) xw).trans hw2 (λi hi e=>e.elim (λe=>by omega) λe=>e.elim id λe=>absurd e.1 (ay4 _)))⟩;have:(cur.toList.take (rows.length*1))[j]?=some (.slice P n pc):=by rw[ht];exact hv
   rw[axL]at this;split at this
   .simpa using this
   .cases this
end Go.Proofs.YthgiffhlfcmgaaaGreatDoor
