/- The reference's elimination: rrReduce. -/
import Derived.Test.YthgiffhlfcmgaaaGreatDoorQ06
namespace Go.Proofs.YthgiffhlfcmgaaaGreatDoor
set_option maxRecDepth 100000
set_option maxHeartbeats 8000000
set_option linter.all false
open Go Go.RowKit
theorem BF(S:Nat->Prop)(p:Int)(n:Nat)(rows:List (List aG))(A:Option Addr)(c:Nat)(w:World)(hF:av p=true)(h:mW S w A rows)(hS:∀k,S k->k<w.heap.size)(hw:aQ n rows)(Dk:∀c,c<=n->iB p 17179869184 (jN (au p) rows c).1)(hn:n<=1000)(hR:rows.length<=1000):
 Calls Tryz.prog 105 #[.int .i64 p,.int .i64 n,.slice A rows.length c] w λe w'=>∃A' c',e=.returned (.slice A' ((au p).aC n rows).length c')/\(∀w2,bG (λk=>k<w.heap.size) w' w2->j_ w2 A' ((au p).aC n rows))/\Ex w w':=by
 obtain⟨FIN,qR⟩:=xq ((au p).red n 0 0 rows);have HRR:=axj (show(au p).aC n rows=FIN.1.take FIN.2 by unfold Ops.aC;rw[qR]);have HF:=axj hF;have HG0:=axj (show jN (au p) rows 0=(rows,0)from rfl);have HGd:=axj Dk;have dN:=axj (show(au p).red (n-0) 0 0 rows=FIN from qR);obtain⟨G,C,w1,hrun,hRC,hG,hM,x1⟩:=Gw (T:=λk=>k<w.heap.size) (c:=c) h hS hw hR;have hSG:¬G<w.heap.size:=by omega
 have HS:=axj hS;have HW0:=axj hw;obtain⟨R,hRl⟩:=xq rows.length;have Pj:=axj hRl;rw[hRl]at hrun hRC hR⊢;have hl:=h.1;clear hF Dk qR hw hRl h hS;go_enter Tryz.func105,Tryz.ntmps105
 go_wp2_with (at_builtin;refine wpList_append_run rfl _ _ _ rfl rfl rfl hrun ?_)
 clear hrun;go_loopw [8,9] (λs8 s9 wr=>∃(c r:Nat) (Z:List (List aG)),c<=n/\s8=.int .i64 r/\s9=.int .i64 c/\MR wr S (λk=>k<w.heap.size) G n r Z/\Hid (aQ n Z)/\Hid (jN (au p) rows c=(Z,r))/\Hid (Z.length=R)/\r<=R/\Hid ((au p).red (n-c) c r Z=FIN)/\Ex w wr) (λ_ s9 _=>n-(intOf s9).toNat)
 case atStart=>exact⟨0,0,rows,axq _,rfl,rfl,hM,HW0,HG0,Pj,axq _,dN,x1⟩
 case round=>
  rename World=>wi;clear hM HW0 HG0 Pj dN x1;obtain⟨c,r,Z,hcn,rfl,rfl,hM,HW,HG,HZ,JW,dN,he⟩:=hrel;have HGm:=axj (show iB p 17179869184 Z by have:=HGd.out c hcn;rw[HG.out]at this;exact this);by_cases hlt:c<n/\r<R;case neg=>
   have HE:=axj (show FIN=(Z,r) by
    rw[<-dN.out];by_cases e:c<n
    .exact Ec _ _ _ _ _ (by rw[HZ.out];omega)
    .rw[show n-c=0 by omega];rfl)
   have hrr:∀w2,bG (λk=>k<w.heap.size) wi w2->j_ w2 (some ⟨G,0,none⟩) (Z.take r):=λw2 k=>hM.Da (by rw[HZ.out];omega) hSG k
   have HT:=axj (show(Z.take r).length=r by rw[axx,HZ.out];omega);have hrC:r<=C:=by omega
   by_cases e:c<n
   .have e2:¬r<R:=λe2=>hlt ⟨e,e2⟩
    clear hlt dN HG;go_wp2_with fail
    go_ret;rw[HRR.out,HE.out];exact⟨some ⟨G,0,none⟩,C,by rw[HT.out];rfl,hrr,he⟩
   .clear hlt dN HG;go_wp2_with fail
    go_ret;rw[HRR.out,HE.out];exact⟨some ⟨G,0,none⟩,C,by rw[HT.out];rfl,hrr,he⟩
  obtain⟨hc1,hr1⟩:=hlt;go_wp2_with fail
  go_loopw [10] (λs10 wr=>∃t:Nat,r<=t/\t<=R/\s10=.int .i64 t/\Hid (∀(i:Nat) (v:List aG),r<=i->i<t->Z[i]?=some v->jy ((au p).el v c)=true)/\Ex wi wr) (λs10 _=>R-(intOf s10).toNat)
  case atStart=>exact⟨r,axk _,JW,rfl,axj (λi v h1 h2=>by omega),aCQ _⟩
  case round=>
   rename World=>wj;obtain⟨t,hrt,htR,rfl,Hz,xU⟩:=hrel;by_cases htl:t<R
   .obtain⟨zt,Gq⟩:∃z,Z[t]?=some z:=⟨_,axn (by rw[HZ.out];exact htl)⟩;have KQ:=axj Gq;obtain⟨P,pc,etc,hP⟩:=(hM.ex xU).at_ Gq;have Cm:=axj (HW.out zt (axo Gq));obtain⟨g2,off2,x,X,xc,Y,yc,rfl,hx,hgG,c0,c1,hXY⟩:=hP.iy (j:=c) (by rw[Cm.out];exact hc1);have Hx:=axj hx;have hX:=(hXY _ (aM.refl _ _)).1;have hel:(au p).el zt c=x:=(au p).dD hx;have CR:=axj hel;have cIz:=rV X Y xc yc x wj hX.len;clear Gq hx hel;cases hb:jy x with
    |true=>
     have Hb:=axj hb;rw[hb]at cIz;clear hb;go_wp2_with fail
     refine cIz.mono ?_;rintro e w2 ⟨rfl,x2⟩;go_wp2_with fail
     go_roundw;case rel=>exact⟨t+1,by omega,by omega,by go_num,axj (λi v h1 h2 h3=>by
      by_cases e:i=t
      .subst e;rw[KQ.out]at h3;injection h3 with h3;rw[<-h3,CR.out];exact Hb.out
      .exact Hz.out i v h1 (by omega) h3),xU.trans x2⟩
     case measure=>simp[intOf];omega
    |false=>
     have Px:=agS (O:=au p) hrt (λi v h1 h2 h3=>Hz.out i v h1 h2 h3) KQ.out (by rw[CR.out];exact hb);have HSk:=axj (show jN (au p) rows (c+1)=((au p).piv Z r c t,r+1) by rw[jN,HG.out];dsimp only;rw[Px,axl (by rw[HZ.out];exact htl)]);have HFk:=axj (show(au p).red (n-(c+1)) (c+1) (r+1) ((au p).piv Z r c t)=FIN by rw[<-dN.out,show n-c=(n-(c+1))+1 by omega,Ops.red,Px,axl (by rw[HZ.out];exact htl)]);have Hb:=axj hb;obtain⟨zr,wR⟩:∃z,Z[r]?=some z:=⟨_,axn (by rw[HZ.out];exact hr1)⟩;obtain⟨Q,qc,er,hQ⟩:=(hM.ex xU).at_ wR;have Hzr:=axj wR;have apa:=axj (HW.out zr (axo wR));have G7:=axj (λ(k:Nat) (u:List aG)=>aci (O:=au p) (c:=c) KQ.out wR (k:=k) (u:=u));have HTW:=axj (show aQ n ((au p).piv Z r c t)from HW.out.piv (by rw[HZ.out];exact hr1) (by rw[HZ.out];exact htl));have xR:=axj (show((au p).piv Z r c t).length=R by rw[eH,HZ.out]);have ahd:=axj (HGm.out zt (axo KQ.out));have xQ:=axj (ahd.out x (axo Hx.out));have Hxn:=axj (show x.n≠[]from λe=>by have:=Hb.out;rw[dR.2 e]at this;cases this);have atV:=(hM.ex xU).lt;rw[hb]at cIz;have htb:((t:Int)==(R:Int))=false:=by simp;omega
     clear hb Px wR;go_wp2_with fail
     refine cIz.mono ?_;rintro e w2 ⟨rfl,x2⟩;have e2:=aM.aP (g:=G) x2;have et:=af x2 etc;replace er:=af x2 er;replace c0:=af x2 c0;replace c1:=af x2 c1;have hM2:=hM.ex (xU.trans x2);have fz:=hM2.frozen t;have NY:=hM2.put t (c:=qc) (q':=r) ((hQ.ex x2).weak λk e=>e.elim id λe=>absurd e.1 (by omega)) apa.out (λh=>by omega) (λj h _=>h);have k3:aM G w2 (w2.setCell ⟨G,t,none⟩ (.slice Q n qc)):=(aM.refl _ _).setCell (p:=⟨G,t,none⟩) rfl _;have K3:aM G wj (w2.setCell ⟨G,t,none⟩ (.slice Q n qc)):=e2.trans k3;have akI:=adn p X Y xc yc x.n x.d (w2.setCell ⟨G,t,none⟩ (.slice Q n qc)) (hXY _ K3).1 (hXY _ K3).2 HF.out xQ.out.1.n.e xQ.out.1.d.e xQ.out.1.n.t xQ.out.1.d.t Hxn.out;go_wp2_with fail
     have C0:=aM.cell k3 hgG c0;have C1:=aM.cell k3 hgG c1;clear et er c0 c1 fz cIz htb hM2;generalize w2.setCell ⟨G,t,none⟩ (.slice Q n qc)=W3 at*;refine akI.mono ?_;rintro e w4 ⟨I,ic,J,jc,rfl,fI,fJ,apI,x4⟩;clear akI;obtain⟨iv,hiv⟩:∃iv:aG,qQ p x=iv:=⟨_,rfl⟩;have Hiv:=axj hiv;have ajw:a_ p x.d x.n=iv.n:=by rw[<-hiv];rfl
     have ajx:aY p x.d x.n=iv.d:=by rw[<-hiv];rfl
     rw[ajw]at fI⊢;rw[ajx]at fJ⊢;have HIV:=axj (show FV p iv/\FL 17179869184 iv by rw[<-hiv];exact⟨xQ.out.1.inv Hxn.out,FL.inv xQ.out.1 Hxn.out xQ.out.2⟩);clear hiv ajw ajx;obtain⟨y4,dI⟩:=VB.xn w4 57 #[.slice I iv.n.length ic,.slice J iv.d.length jc];go_wp2_with fail
     generalize w4.alloc (.cells #[.slice I iv.n.length ic,.slice J iv.d.length jc] 57)=W4 at*;have X4:=x4.trans y4;have rI:=fI.rd.ex y4;have rJ:=fJ.rd.ex y4;have K4:aM G wj W4:=K3.trans (aM.aP X4);have hM4:=NY.ex X4;obtain⟨L,hL⟩:=xq ((au p).oJ zt c);have HL:=axj hL;have Lj:=axj (show L.length=n by rw[<-hL,sw];exact Cm.out);have apG:=axj (show∀(k:Nat) (y:aG),zt[k]?=some y->L.take (k+1)=L.take k++[fP p iv y]from λk y hy=>by
      have:L[k]?=some (fP p iv y):=by rw[<-hL,<-Hiv.out];unfold Ops.oJ;rw[axw,hy,CR.out];rfl
      rw[axy,this];rfl)
     have HLg:=axj (show jS p 34359738368 L by rw[<-hL];exact ahd.out.oJ (by rw[Cm.out];exact hc1) (by rw[CR.out];exact Hb.out));rw[hL]at G7;clear hL NY fI fJ apI x4 y4 K3 k3 C0 C1;have hGW:G<W4.heap.size:=hM4.lt;go_loopw [13,71] (λo s71 wr=>∃k:Nat,k<=n/\s71=.int .i64 k/\GE rR 57 wr W4.heap.size wr.heap.size o (L.take k)/\Ex W4 wr) (λ_ s71 _=>n-(intOf s71).toNat)
     case atStart=>exact⟨0,axq _,rfl,GE.nil _ _ _ _ _,aCQ _⟩
     case round=>
      rename World=>wl;obtain⟨k,hk,rfl,hge,hel⟩:=hrel;have Kl:aM G wj wl:=K4.trans (aM.aP hel);have dIl:=dI.ex hel;by_cases hkn:k<n
      .obtain⟨g3,amT,y,P2,pc2,Q2,qc2,eP,hy,ajF,e0,e1,hPQ⟩:=hP.iy (j:=k) (by rw[Cm.out];exact hkn);injection eP with eP;injection eP with ea eb;subst ea eb;have HT:=axj (apG.out k y hy);have Hyg:=axj (ahd.out y (axo hy));have E0:=aM.cell Kl ajF e0;have E1:=aM.cell Kl ajF e1;have hP2:=(hPQ _ Kl).1;have hQ2:=(hPQ _ Kl).2;have af4:(L.take k).length<=k:=ax7 _ _;have hzl:=hel.size;have cMul:∀W,Ex wl W->Calls Tryz.prog 137 #[.int .i64 p,.agg #[.slice I iv.n.length ic,.slice J iv.d.length jc],.agg #[.slice P2 y.n.length pc2,.slice Q2 y.d.length qc2]] W λe w'=>G8 W (fP p iv y) e w':=λW hW=>
        Uc p I J ic jc iv.n iv.d P2 Q2 pc2 qc2 y.n y.d W (rI.ex (hel.trans hW)) (rJ.ex (hel.trans hW)) (hP2.ex hW) (hQ2.ex hW) (HIV.out.1.Tq (by have:=HIV.out.2.1;omega) (by have:=HIV.out.2.2;omega)) (Hyg.out.1.Tq (by have:=Hyg.out.2.1;omega) (by have:=Hyg.out.2.2;omega))
       obtain⟨z,hz⟩:=xq (fP p iv y);rw[hz]at cMul HT;obtain⟨y1,dy⟩:=VB.xn wl 57 #[.slice P2 y.n.length pc2,.slice Q2 y.d.length qc2];obtain⟨q0,q1⟩:=dy.d2;have q2:=(dIl.ex y1).c0;have q3:=(dIl.ex y1).c1;clear hy hz hPQ e0 e1;go_wp2_with fail
       generalize wl.alloc (.cells #[.slice P2 y.n.length pc2,.slice Q2 y.d.length qc2] 57)=W5 at*;refine(cMul W5 y1).mono ?_;rintro e w6 ⟨A6,c6,B6,d6,rfl,f6,g6,ap6,x6⟩;have z6:=x6.size;have z5:=y1.size;obtain⟨v7,w7,hrun,ajC,_,_,wS⟩:=jU (hge.ex (y1.trans x6)) (by omega) (dZ (x:=z) f6 g6 ap6 z6) (by omega) z6 (axk _) hzl (by omega);rw[<-HT.out]at ajC;have x7:=wS W4 (hel.trans (y1.trans x6)) (axk _);clear wS HT af4 cMul hge q0 q1 q2 q3 dIl;go_wp2_with (at_builtin;refine wpList_append_run rfl _ _ _ rfl rfl rfl hrun ?_)
       go_roundw;case rel=>exact⟨k+1,by omega,by go_num,ajC,x7⟩
       case measure=>simp[intOf];omega
      .obtain rfl:n=k:=by omega
       rw[axG (by rw[Lj.out];exact axk _)]at hge;obtain⟨LA,lc,ev,hlc,_⟩:=hge.ox (E':=Jf) (by rw[Lj.out];omega) rfl sO;rw[Lj.out]at ev hlc;subst ev;have agB:Gi (λk=>k<w.heap.size) G wl LA L:=hge.rdn hGW (λi hi=>by have:=(he.trans xU).size;have:=K4.size';omega) (by rw[Lj.out];omega);have aj2:Gi S G wl LA L:=agB.weak λk e=>HS.out k e
       have Rw:=hM4.ex hel;have fz:=Rw.frozen r;obtain⟨ro,hro⟩:∃ro,(Z.set t zr)[r]?=some ro:=⟨_,axn (by rw[axM,HZ.out];exact hr1)⟩;obtain⟨_,_,er2,_⟩:=Rw.at_ hro;have hM6:=Rw.put r (c:=lc) (q':=r+1) (agB.weak λk e=>e.elim (HS.out k) λe=>e.2) Lj.out (λ_=>hlc) (λj h1 h2=>by omega);have k6:aM G wl (wl.setCell ⟨G,r,none⟩ (.slice LA n lc)):=(aM.refl _ _).setCell (p:=⟨G,r,none⟩) rfl _;have xw6:Ex w (wl.setCell ⟨G,r,none⟩ (.slice LA n lc)):=(he.trans xU).aK (Kl.trans k6) hG;have hR6:=aj2.k1 k6;clear hge hro Rw hM4;go_wp2_with fail
       clear fz er2 aj2 agB k6;generalize wl.setCell ⟨G,r,none⟩ (.slice LA n lc)=W6 at*;have mR:=axj (show((Z.set t zr).set r L).length=R by rw[axM,axM,HZ.out]);have KU:=axj (show((Z.set t zr).set r L)[r]?=some L by rw[axK,axl rfl,axl (by rw[axM,HZ.out];exact hr1)]);have abf:=axj (show∀(k:Nat) (u:List aG),k≠r->((Z.set t zr).set r L)[k]?=some u->jS p 17179869184 u from λk u hne hu=>by
        rw[axK,axm (λh=>hne h.symm),axK]at hu;split at hu
        .split at hu
         .injection hu with hu;rw[<-hu];exact HGm.out zr (axo Hzr.out)
         .cases hu
        .exact HGm.out u (axo hu))
       generalize(Z.set t zr).set r L=Z1 at*;generalize(au p).piv Z r c t=T at*;go_loopw [89] (λs89 wr=>∃k:Nat,k<=R/\s89=.int .i64 k/\MR wr S (λk=>k<w.heap.size) G n (r+1) (T.take k++Z1.drop k)/\Gi S G wr LA L/\Ex w wr) (λs89 _=>R-(intOf s89).toNat)
       case atStart=>exact⟨0,axq _,rfl,by simpa using hM6,hR6,xw6⟩
       case round=>
        rename World=>wm;clear hM6 hR6 xw6;obtain⟨i,hi,rfl,z_,hLm,hem⟩:=hrel;by_cases hiR:i<R
        .obtain⟨u,hu⟩:∃u,Z1[i]?=some u:=⟨_,axn (by rw[mR.out];exact hiR)⟩;have hmu:(T.take i++Z1.drop i)[i]?=some u:=by
          rw[EG T Z1 (by rw[xR.out,mR.out]) i (by rw[mR.out];exact hiR)];exact hu
         have HTk:=axj (G7.out i u hu);have Hu:=axj hu;by_cases hir:i=r
         .have hnb:((i:Int) !=(r:Int))=false:=by simp;omega
          have Pg:=axj (yR T Z1 (by rw[xR.out,mR.out]) i L (by rw[HTk.out,axl hir]) (by rw[hir];exact KU.out));clear hir hu hmu;go_wp2_with fail
          go_roundw;case rel=>exact⟨i+1,by omega,by go_num,by rw[<-Pg.out];exact z_,hLm,hem⟩
          case measure=>simp[intOf];omega
         .have hnb:((i:Int) !=(r:Int))=true:=by simp;omega
          obtain⟨Pu,puc,eu,hPu⟩:=z_.at_ hmu;have Xo:=axj (z_.len hmu);obtain⟨g5,aiB,y,P5,pc5,Q5,qc5,rfl,hy,auf,e0,e1,hPQ⟩:=hPu.iy (j:=c) (by rw[Xo.out];exact hc1);have ZE:=axj (show(au p).el u c=y from(au p).dD hy);have hP5:=(hPQ _ (aM.refl _ _)).1;have hQ5:=(hPQ _ (aM.refl _ _)).2;have aa2:=rV P5 Q5 pc5 qc5 y wm hP5.len;have Hug:=axj (abf.out i u hir hu);have Hyg:=axj (Hug.out y (axo hy));have O8:=axj (show T[i]?=some (if jy y=true then u else(au p).less u y L) by
           rw[HTk.out,axm hir,ZE.out];rfl)
          cases hb2:jy y with
          |true=>
           rw[hb2]at aa2;have Pg:=axj (yR T Z1 (by rw[xR.out,mR.out]) i u (by rw[O8.out,axl hb2]) hu);clear hir hu hmu hy hb2;go_wp2_with fail
           refine aa2.mono ?_;rintro e w7 ⟨rfl,x7⟩;go_wp2_with fail
           go_roundw;case rel=>exact⟨i+1,by omega,by go_num,by rw[<-Pg.out];exact z_.ex x7,hLm.ex x7,hem.trans x7⟩
           case measure=>simp[intOf];omega
          |false=>
           rw[hb2]at aa2;have Pg:=axj (yQ T Z1 (by rw[xR.out,mR.out]) i ((au p).less u y L) (by rw[O8.out,hb2];rfl));have UC:=axj (show((au p).less u y L).length=n from qM _ Xo.out Lj.out _);have aeN:∀W,Ex wm W->Calls Tryz.prog 110 #[.int .i64 p,.slice (some ⟨g5,aiB,none⟩) n puc,.slice LA n lc,.agg #[.slice P5 y.n.length pc5,.slice Q5 y.d.length qc5]] W λe w'=>∃A9 c9,e=.returned (.slice A9 n c9)/\n<=c9/\Gi (λk=>k<w.heap.size) G w' A9 ((au p).less u y L)/\Ex W w':=λW hW=>by have hq:=Mc p u L y (some ⟨g5,aiB,none⟩) LA P5 Q5 puc lc pc5 qc5 W (hPu.rd.ex hW) (hLm.rd.ex hW) (by rw[Xo.out,Lj.out]) (hP5.ex hW) (hQ5.ex hW) (Hug.out.mono (by omega)) (HLg.out.mono (by omega)) Hyg.out.1 (Hyg.out.2.mono (by omega));rw[Xo.out,Lj.out]at hq;refine hq.mono ?_;rintro e w' ⟨v,rfl,ge,xx⟩;obtain⟨A9,c9,ev,hc9,_⟩:=ge.ox (E':=Jf) (by rw[UC.out];omega) rfl sO;rw[UC.out]at ev hc9;subst ev;have hGm:=z_.lt;have hWs:=hW.size;exact⟨A9,c9,rfl,hc9,ge.rdn (by omega) (λi hi=>by have:=hem.size;omega) (by rw[UC.out];omega),xx⟩
           clear hir hu hmu hy hb2 hPu hPQ;go_wp2_with fail
           refine aa2.mono ?_;rintro e w7 ⟨rfl,x7⟩;clear aa2;replace eu:=af x7 eu;replace e0:=af x7 e0;replace e1:=af x7 e1;go_wp2_with fail
           go_region_law (first
            |(go_simp
              go_at_call 110
              refine(aeN _ (x7.trans (aCQ w7).drew)).mono ?_;rintro e w9 ⟨A9,c9,rfl,hc9,r9,x9⟩;replace x9:=((aCQ w7).drew).trans x9;have l0:=af x9 eu;have hM9:=z_.ex (x7.trans x9);have n0:=hM9.frozen i))
           all_goals
            have akc:=hM9.put i (c:=c9) (q':=r+1) (r9.weak λk e=>e.elim (HS.out k) λe=>e.2) UC.out (λ_=>hc9) (λj h _=>h);rw[Pg.out]at akc;have k10:aM G w9 (w9.setCell ⟨G,i,none⟩ (.slice A9 n c9)):=(aM.refl _ _).setCell (p:=⟨G,i,none⟩) rfl _;have aot:=(hLm.ex (x7.trans x9)).k1 k10;have ang:=(hem.trans (x7.trans x9)).aK k10 hG;clear aeN eu e0 e1 l0 n0 hM9 z_ hLm;go_wp2_with fail
            go_roundw;case rel=>exact⟨i+1,by omega,by go_num,akc,aot,ang⟩
            case measure=>simp[intOf];omega
        .obtain rfl:i=R:=by omega
         rw[axG (by rw[xR.out];exact axk _),ay0 (by rw[mR.out];exact axk _),ax8]at z_;go_wp2_with fail
         go_roundw;case rel=>exact⟨c+1,r+1,T,by omega,by go_num,by go_num,z_,HTW,HSk,xR,by omega,HFk,hem⟩
         case measure=>simp[intOf];omega
   .obtain rfl:t=R:=by omega
    have HN:=axj (agR (O:=au p) (by rw[HZ.out];exact JW) (λi v h1 h2 h3=>Hz.out i v h1 (by rw[<-HZ.out];exact h2) h3));have HSk:=axj (show jN (au p) rows (c+1)=(Z,r) by rw[jN,HG.out];exact axm HN.out);have HFk:=axj (show(au p).red (n-(c+1)) (c+1) r Z=FIN by rw[<-dN.out,show n-c=(n-(c+1))+1 by omega,Ops.red,axm HN.out]);clear Hz HN;go_wp2_with fail
    go_roundw;case rel=>exact⟨c+1,r,Z,by omega,rfl,by go_num,hM.ex xU,HW,HSk,HZ,JW,HFk,he.trans xU⟩
    case measure=>simp[intOf];omega
theorem BG(S:Nat->Prop)(p:Int)(n:Nat)(rows:List (List aG))(A:Option Addr)(c:Nat)(w:World)(hF:av p=true)(h:mW S w A rows)(hS:∀k,S k->k<w.heap.size)(hw:aQ n rows)(Dk:∀c,c<=n->iB p 17179869184 (jN (au p) rows c).1)(hn:n<=1000)(hR:rows.length<=1000):
 Calls Tryz.prog 105 #[.int .i64 p,.int .i64 n,.slice A rows.length c] w λe w'=>∃A' c',e=.returned (.slice A' ((au p).aC n rows).length c')/\(∀w2,bG S w' w2->j_ w2 A' ((au p).aC n rows))/\Ex w w':=by
 refine(BF S p n rows A c w hF h hS hw Dk hn hR).mono ?_;rintro e w' ⟨A',c',rfl,hR,x⟩;exact⟨A',c',rfl,λw2 hw2=>hR w2 (hw2.widen λk _ hk=>hS k hk),x⟩
theorem Qi(S:Nat->Prop)(p:Int)(n:Nat)(rows:List (List aG))(A:Option Addr)(c:Nat)(w:World)(hF:av p=true)(h:mW S w A rows)(hS:∀k,S k->k<w.heap.size)(hw:aQ n rows)(Dk:∀c,c<=n->iB p 17179869184 (jN (au p) rows c).1)(hn:n<=1000)(hR:rows.length<=1000):
 Calls Tryz.prog 105 #[.int .i64 p,.int .i64 n,.slice A rows.length c] w λe w'=>∃A' c',e=.returned (.slice A' ((au p).aC n rows).length c')/\(∀w2,bG S w' w2->bW iX w2 A' ((au p).aC n rows))/\Ex w w':=by
 refine(BG S p n rows A c w hF h hS hw Dk hn hR).mono ?_;rintro e w' ⟨A',c',rfl,hR,x⟩;exact⟨A',c',rfl,λw2 hw2=>(hR w2 hw2).1,x⟩
end Go.Proofs.YthgiffhlfcmgaaaGreatDoor
