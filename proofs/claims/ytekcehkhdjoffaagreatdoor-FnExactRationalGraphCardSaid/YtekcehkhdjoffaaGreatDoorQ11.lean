/- The reference's elimination: rrReduce. -/
import Derived.Test.YtekcehkhdjoffaaGreatDoorQ09
namespace Go.Proofs.YtekcehkhdjoffaaGreatDoor
set_option maxRecDepth 100000
set_option maxHeartbeats 8000000
set_option linter.all false
open Go Go.RowKit
theorem wF(S:Nat->Prop)(p:Int)(n:Nat)(rows:List (List aF))(A:Option Addr)(c:Nat)(w:World)(hF:aj p=true)(h:jo S w A rows)(hS:∀k,S k->k<w.heap.size)(hw:aZ n rows)(sJ:∀c,c<=n->iK p 17179869184 (gJ (ah p) rows c).1)(hn:n<=1000)(hR:rows.length<=1000):
 Calls Tryz.prog 46 #[.int .i64 p,.int .i64 n,.slice A rows.length c] w λe w'=>∃A' c',e=.returned (.slice A' ((ah p).aB n rows).length c')/\(∀w2,bn (λk=>k<w.heap.size) w' w2->wo w2 A' ((ah p).aB n rows))/\Ex w w':=by
 obtain⟨FIN,qW⟩:=xq ((ah p).red n 0 0 rows);have HRR:=amW (show(ah p).aB n rows=FIN.1.take FIN.2 by unfold Ops.aB;rw[qW]);have HF:=amW hF;have HG0:=amW (show gJ (ah p) rows 0=(rows,0)from rfl);have Zw:=amW sJ;have iP:=amW (show(ah p).red (n-0) 0 0 rows=FIN from qW);obtain⟨G,C,w1,hrun,hRC,hG,hM,x1⟩:=Br (T:=λk=>k<w.heap.size) (c:=c) h hS hw hR;have hSG:¬G<w.heap.size:=by omega
 have HS:=amW hS;have HW0:=amW hw;obtain⟨R,hRl⟩:=xq rows.length;have Ud:=amW hRl;rw[hRl]at hrun hRC hR⊢;have hl:=h.1;clear hF sJ qW hw hRl h hS;go_enter Tryz.func46,Tryz.ntmps46
 go_wp2_with (at_builtin;refine wpList_append_run rfl _ _ _ rfl rfl rfl hrun ?_)
 clear hrun;go_loopw [8,9] (λs8 s9 wr=>∃(c r:Nat) (Z:List (List aF)),c<=n/\s8=.int .i64 r/\s9=.int .i64 c/\MR wr S (λk=>k<w.heap.size) G n r Z/\Hid (aZ n Z)/\Hid (gJ (ah p) rows c=(Z,r))/\Hid (Z.length=R)/\r<=R/\Hid ((ah p).red (n-c) c r Z=FIN)/\Ex w wr) (λ_ s9 _=>n-(intOf s9).toNat)
 case atStart=>exact⟨0,0,rows,am4 _,rfl,rfl,hM,HW0,HG0,Ud,am4 _,iP,x1⟩
 case round=>
  rename World=>wi;clear hM HW0 HG0 Ud iP x1;obtain⟨c,r,Z,hcn,rfl,rfl,hM,HW,HG,HZ,Jl,iP,he⟩:=hrel;have Z8:=amW (show iK p 17179869184 Z by have:=Zw.out c hcn;rw[HG.out]at this;exact this);by_cases hlt:c<n/\r<R;case neg=>
   have HE:=amW (show FIN=(Z,r) by
    rw[<-iP.out];by_cases e:c<n
    .exact yY _ _ _ _ _ (by rw[HZ.out];omega)
    .rw[show n-c=0 by omega];rfl)
   have hrr:∀w2,bn (λk=>k<w.heap.size) wi w2->wo w2 (some ⟨G,0,none⟩) (Z.take r):=λw2 k=>hM.P7 (by rw[HZ.out];omega) hSG k
   have HT:=amW (show(Z.take r).length=r by rw[am8,HZ.out];omega);have hrC:r<=C:=by omega
   by_cases e:c<n
   .have e2:¬r<R:=λe2=>hlt ⟨e,e2⟩
    clear hlt iP HG;go_wp2_with fail
    go_ret;rw[HRR.out,HE.out];exact⟨some ⟨G,0,none⟩,C,by rw[HT.out];rfl,hrr,he⟩
   .clear hlt iP HG;go_wp2_with fail
    go_ret;rw[HRR.out,HE.out];exact⟨some ⟨G,0,none⟩,C,by rw[HT.out];rfl,hrr,he⟩
  obtain⟨hc1,hr1⟩:=hlt;go_wp2_with fail
  go_loopw [10] (λs10 wr=>∃t:Nat,r<=t/\t<=R/\s10=.int .i64 t/\Hid (∀(i:Nat) (v:List aF),r<=i->i<t->Z[i]?=some v->ig ((ah p).el v c)=true)/\Ex wi wr) (λs10 _=>R-(intOf s10).toNat)
  case atStart=>exact⟨r,amX _,Jl,rfl,amW (λi v h1 h2=>by omega),asF _⟩
  case round=>
   rename World=>wj;obtain⟨t,hrt,htR,rfl,Hz,p_⟩:=hrel;by_cases htl:t<R
   .obtain⟨zt,Jj⟩:∃z,Z[t]?=some z:=⟨_,am0 (by rw[HZ.out];exact htl)⟩;have TL:=amW Jj;obtain⟨P,pc,etc,hP⟩:=(hM.ex p_).at_ Jj;have Gf:=amW (HW.out zt (am1 Jj));obtain⟨g2,off2,x,X,xc,Y,yc,rfl,hx,hgG,c0,c1,hXY⟩:=hP.ku (j:=c) (by rw[Gf.out];exact hc1);have Hx:=amW hx;have hX:=(hXY _ (aJ.refl _ _)).1;have hel:(ah p).el zt c=x:=(ah p).bT hx;have Bg:=amW hel;have cIz:=nM X Y xc yc x wj hX.len;clear Jj hx hel;cases hb:ig x with
    |true=>
     have Hb:=amW hb;rw[hb]at cIz;clear hb;go_wp2_with fail
     refine cIz.mono ?_;rintro e w2 ⟨rfl,x2⟩;go_wp2_with fail
     go_roundw;case rel=>exact⟨t+1,by omega,by omega,by go_num,amW (λi v h1 h2 h3=>by
      by_cases e:i=t
      .subst e;rw[TL.out]at h3;injection h3 with h3;rw[<-h3,Bg.out];exact Hb.out
      .exact Hz.out i v h1 (by omega) h3),p_.trans x2⟩
     case measure=>simp[intOf];omega
    |false=>
     have NA:=YW (O:=ah p) hrt (λi v h1 h2 h3=>Hz.out i v h1 h2 h3) TL.out (by rw[Bg.out];exact hb);have Xi:=amW (show gJ (ah p) rows (c+1)=((ah p).piv Z r c t,r+1) by rw[gJ,HG.out];dsimp only;rw[NA,amY (by rw[HZ.out];exact htl)]);have Zx:=amW (show(ah p).red (n-(c+1)) (c+1) (r+1) ((ah p).piv Z r c t)=FIN by rw[<-iP.out,show n-c=(n-(c+1))+1 by omega,Ops.red,NA,amY (by rw[HZ.out];exact htl)]);have Hb:=amW hb;obtain⟨zr,BF⟩:∃z,Z[r]?=some z:=⟨_,am0 (by rw[HZ.out];exact hr1)⟩;obtain⟨Q,qc,er,hQ⟩:=(hM.ex p_).at_ BF;have Hzr:=amW BF;have af0:=amW (HW.out zr (am1 BF));have Oq:=amW (λ(k:Nat) (u:List aF)=>UE (O:=ah p) (c:=c) TL.out BF (k:=k) (u:=u));have HTW:=amW (show aZ n ((ah p).piv Z r c t)from HW.out.piv (by rw[HZ.out];exact hr1) (by rw[HZ.out];exact htl));have AX:=amW (show((ah p).piv Z r c t).length=R by rw[dU,HZ.out]);have Zj:=amW (Z8.out zt (am1 TL.out));have AR:=amW (Zj.out x (am1 Hx.out));have Hxn:=amW (show x.n≠[]from λe=>by have:=Hb.out;rw[dM.2 e]at this;cases this);have aj7:=(hM.ex p_).lt;rw[hb]at cIz;have htb:((t:Int)==(R:Int))=false:=by simp;omega
     clear hb NA BF;go_wp2_with fail
     refine cIz.mono ?_;rintro e w2 ⟨rfl,x2⟩;have e2:=aJ.aN (g:=G) x2;have et:=af x2 etc;replace er:=af x2 er;replace c0:=af x2 c0;replace c1:=af x2 c1;have hM2:=hM.ex (p_.trans x2);have fz:=hM2.frozen t;have KJ:=hM2.put t (c:=qc) (q':=r) ((hQ.ex x2).weak λk e=>e.elim id λe=>absurd e.1 (by omega)) af0.out (λh=>by omega) (λj h _=>h);have k3:aJ G w2 (w2.setCell ⟨G,t,none⟩ (.slice Q n qc)):=(aJ.refl _ _).setCell (p:=⟨G,t,none⟩) rfl _;have K3:aJ G wj (w2.setCell ⟨G,t,none⟩ (.slice Q n qc)):=e2.trans k3;have acu:=Vm p X Y xc yc x.n x.d (w2.setCell ⟨G,t,none⟩ (.slice Q n qc)) (hXY _ K3).1 (hXY _ K3).2 HF.out AR.out.1.n.e AR.out.1.d.e AR.out.1.n.t AR.out.1.d.t Hxn.out;go_wp2_with fail
     have C0:=aJ.cell k3 hgG c0;have C1:=aJ.cell k3 hgG c1;clear et er c0 c1 fz cIz htb hM2;generalize w2.setCell ⟨G,t,none⟩ (.slice Q n qc)=W3 at*;refine acu.mono ?_;rintro e w4 ⟨I,ic,J,jc,rfl,fI,fJ,apI,x4⟩;clear acu;obtain⟨iv,hiv⟩:∃iv:aF,mX p x=iv:=⟨_,rfl⟩;have Hiv:=amW hiv;have abk:aW p x.d x.n=iv.n:=by rw[<-hiv];rfl
     have abl:aT p x.d x.n=iv.d:=by rw[<-hiv];rfl
     rw[abk]at fI⊢;rw[abl]at fJ⊢;have HIV:=amW (show FV p iv/\FL 17179869184 iv by rw[<-hiv];exact⟨AR.out.1.inv Hxn.out,FL.inv AR.out.1 Hxn.out AR.out.2⟩);clear hiv abk abl;obtain⟨y4,dI⟩:=VB.xn w4 51 #[.slice I iv.n.length ic,.slice J iv.d.length jc];go_wp2_with fail
     generalize w4.alloc (.cells #[.slice I iv.n.length ic,.slice J iv.d.length jc] 51)=W4 at*;have X4:=x4.trans y4;have rI:=fI.rd.ex y4;have rJ:=fJ.rd.ex y4;have K4:aJ G wj W4:=K3.trans (aJ.aN X4);have hM4:=KJ.ex X4;obtain⟨L,hL⟩:=xq ((ah p).oJ zt c);have HL:=amW hL;have VX:=amW (show L.length=n by rw[<-hL,nW];exact Gf.out);have agy:=amW (show∀(k:Nat) (y:aF),zt[k]?=some y->L.take (k+1)=L.take k++[eG p iv y]from λk y hy=>by
      have:L[k]?=some (eG p iv y):=by rw[<-hL,<-Hiv.out];unfold Ops.oJ;rw[am7,hy,Bg.out];rfl
      rw[am_,this];rfl)
     have HLg:=amW (show jH p 34359738368 L by rw[<-hL];exact Zj.out.oJ (by rw[Gf.out];exact hc1) (by rw[Bg.out];exact Hb.out));rw[hL]at Oq;clear hL KJ fI fJ apI x4 y4 K3 k3 C0 C1;have hGW:G<W4.heap.size:=hM4.lt;go_loopw [13,71] (λo s71 wr=>∃k:Nat,k<=n/\s71=.int .i64 k/\GE pq 51 wr W4.heap.size wr.heap.size o (L.take k)/\Ex W4 wr) (λ_ s71 _=>n-(intOf s71).toNat)
     case atStart=>exact⟨0,am4 _,rfl,GE.nil _ _ _ _ _,asF _⟩
     case round=>
      rename World=>wl;obtain⟨k,hk,rfl,hge,hel⟩:=hrel;have Kl:aJ G wj wl:=K4.trans (aJ.aN hel);have dIl:=dI.ex hel;by_cases hkn:k<n
      .obtain⟨g3,ad9,y,P2,pc2,Q2,qc2,eP,hy,abu,e0,e1,hPQ⟩:=hP.ku (j:=k) (by rw[Gf.out];exact hkn);injection eP with eP;injection eP with ea eb;subst ea eb;have HT:=amW (agy.out k y hy);have ZY:=amW (Zj.out y (am1 hy));have E0:=aJ.cell Kl abu e0;have E1:=aJ.cell Kl abu e1;have hP2:=(hPQ _ Kl).1;have ZP:=(hPQ _ Kl).2;have Yj:(L.take k).length<=k:=aoc _ _;have hzl:=hel.size;have cMul:∀W,Ex wl W->Calls Tryz.prog 79 #[.int .i64 p,.agg #[.slice I iv.n.length ic,.slice J iv.d.length jc],.agg #[.slice P2 y.n.length pc2,.slice Q2 y.d.length qc2]] W λe w'=>wZ W (eG p iv y) e w':=λW hW=>
        KR p I J ic jc iv.n iv.d P2 Q2 pc2 qc2 y.n y.d W (rI.ex (hel.trans hW)) (rJ.ex (hel.trans hW)) (hP2.ex hW) (ZP.ex hW) (HIV.out.1.xZ (by have:=HIV.out.2.1;omega) (by have:=HIV.out.2.2;omega)) (ZY.out.1.xZ (by have:=ZY.out.2.1;omega) (by have:=ZY.out.2.2;omega))
       obtain⟨z,hz⟩:=xq (eG p iv y);rw[hz]at cMul HT;obtain⟨y1,dy⟩:=VB.xn wl 51 #[.slice P2 y.n.length pc2,.slice Q2 y.d.length qc2];obtain⟨q0,q1⟩:=dy.d2;have q2:=(dIl.ex y1).c0;have q3:=(dIl.ex y1).c1;clear hy hz hPQ e0 e1;go_wp2_with fail
       generalize wl.alloc (.cells #[.slice P2 y.n.length pc2,.slice Q2 y.d.length qc2] 51)=W5 at*;refine(cMul W5 y1).mono ?_;rintro e w6 ⟨A6,c6,B6,d6,rfl,f6,g6,ZX,x6⟩;have z6:=x6.size;have z5:=y1.size;obtain⟨v7,w7,hrun,abq,_,_,WO⟩:=iU (hge.ex (y1.trans x6)) (by omega) (cB (x:=z) f6 g6 ZX z6) (by omega) z6 (amX _) hzl (by omega);rw[<-HT.out]at abq;have x7:=WO W4 (hel.trans (y1.trans x6)) (amX _);clear WO HT Yj cMul hge q0 q1 q2 q3 dIl;go_wp2_with (at_builtin;refine wpList_append_run rfl _ _ _ rfl rfl rfl hrun ?_)
       go_roundw;case rel=>exact⟨k+1,by omega,by go_num,abq,x7⟩
       case measure=>simp[intOf];omega
      .obtain rfl:n=k:=by omega
       rw[ann (by rw[VX.out];exact amX _)]at hge;obtain⟨LA,lc,ev,hlc,_⟩:=hge.ox (E':=Lp) (by rw[VX.out];omega) rfl uG;rw[VX.out]at ev hlc;subst ev;have YI:AP (λk=>k<w.heap.size) G wl LA L:=hge.rdn hGW (λi hi=>by have:=(he.trans p_).size;have:=K4.size';omega) (by rw[VX.out];omega);have abM:AP S G wl LA L:=YI.weak λk e=>HS.out k e
       have Js:=hM4.ex hel;have fz:=Js.frozen r;obtain⟨ro,hro⟩:∃ro,(Z.set t zr)[r]?=some ro:=⟨_,am0 (by rw[anj,HZ.out];exact hr1)⟩;obtain⟨_,_,er2,_⟩:=Js.at_ hro;have hM6:=Js.put r (c:=lc) (q':=r+1) (YI.weak λk e=>e.elim (HS.out k) λe=>e.2) VX.out (λ_=>hlc) (λj h1 h2=>by omega);have k6:aJ G wl (wl.setCell ⟨G,r,none⟩ (.slice LA n lc)):=(aJ.refl _ _).setCell (p:=⟨G,r,none⟩) rfl _;have xw6:Ex w (wl.setCell ⟨G,r,none⟩ (.slice LA n lc)):=(he.trans p_).aM (Kl.trans k6) hG;have hR6:=abM.k1 k6;clear hge hro Js hM4;go_wp2_with fail
       clear fz er2 abM YI k6;generalize wl.setCell ⟨G,r,none⟩ (.slice LA n lc)=W6 at*;have rf:=amW (show((Z.set t zr).set r L).length=R by rw[anj,anj,HZ.out]);have TQ:=amW (show((Z.set t zr).set r L)[r]?=some L by rw[ang,amY rfl,amY (by rw[anj,HZ.out];exact hr1)]);have Zo:=amW (show∀(k:Nat) (u:List aF),k≠r->((Z.set t zr).set r L)[k]?=some u->jH p 17179869184 u from λk u hne hu=>by
        rw[ang,amZ (λh=>hne h.symm),ang]at hu;split at hu
        .split at hu
         .injection hu with hu;rw[<-hu];exact Z8.out zr (am1 Hzr.out)
         .cases hu
        .exact Z8.out u (am1 hu))
       generalize(Z.set t zr).set r L=Z1 at*;generalize(ah p).piv Z r c t=T at*;go_loopw [89] (λs89 wr=>∃k:Nat,k<=R/\s89=.int .i64 k/\MR wr S (λk=>k<w.heap.size) G n (r+1) (T.take k++Z1.drop k)/\AP S G wr LA L/\Ex w wr) (λs89 _=>R-(intOf s89).toNat)
       case atStart=>exact⟨0,am4 _,rfl,by simpa using hM6,hR6,xw6⟩
       case round=>
        rename World=>wm;clear hM6 hR6 xw6;obtain⟨i,hi,rfl,Ep,hLm,hem⟩:=hrel;by_cases hiR:i<R
        .obtain⟨u,hu⟩:∃u,Z1[i]?=some u:=⟨_,am0 (by rw[rf.out];exact hiR)⟩;have hmu:(T.take i++Z1.drop i)[i]?=some u:=by
          rw[zK T Z1 (by rw[AX.out,rf.out]) i (by rw[rf.out];exact hiR)];exact hu
         have HTk:=amW (Oq.out i u hu);have Hu:=amW hu;by_cases hir:i=r
         .have hnb:((i:Int) !=(r:Int))=false:=by simp;omega
          have TS:=amW (tX T Z1 (by rw[AX.out,rf.out]) i L (by rw[HTk.out,amY hir]) (by rw[hir];exact TQ.out));clear hir hu hmu;go_wp2_with fail
          go_roundw;case rel=>exact⟨i+1,by omega,by go_num,by rw[<-TS.out];exact Ep,hLm,hem⟩
          case measure=>simp[intOf];omega
         .have hnb:((i:Int) !=(r:Int))=true:=by simp;omega
          obtain⟨Pu,puc,eu,hPu⟩:=Ep.at_ hmu;have Z4:=amW (Ep.len hmu);obtain⟨g5,aaz,y,P5,pc5,Q5,qc5,rfl,hy,akj,e0,e1,hPQ⟩:=hPu.ku (j:=c) (by rw[Z4.out];exact hc1);have Yh:=amW (show(ah p).el u c=y from(ah p).bT hy);have hP5:=(hPQ _ (aJ.refl _ _)).1;have hQ5:=(hPQ _ (aJ.refl _ _)).2;have Tq:=nM P5 Q5 pc5 qc5 y wm hP5.len;have Hug:=amW (Zo.out i u hir hu);have ZY:=amW (Hug.out y (am1 hy));have TR:=amW (show T[i]?=some (if ig y=true then u else(ah p).less u y L) by
           rw[HTk.out,amZ hir,Yh.out];rfl)
          cases hb2:ig y with
          |true=>
           rw[hb2]at Tq;have TS:=amW (tX T Z1 (by rw[AX.out,rf.out]) i u (by rw[TR.out,amY hb2]) hu);clear hir hu hmu hy hb2;go_wp2_with fail
           refine Tq.mono ?_;rintro e w7 ⟨rfl,x7⟩;go_wp2_with fail
           go_roundw;case rel=>exact⟨i+1,by omega,by go_num,by rw[<-TS.out];exact Ep.ex x7,hLm.ex x7,hem.trans x7⟩
           case measure=>simp[intOf];omega
          |false=>
           rw[hb2]at Tq;have TS:=amW (tV T Z1 (by rw[AX.out,rf.out]) i ((ah p).less u y L) (by rw[TR.out,hb2];rfl));have xL:=amW (show((ah p).less u y L).length=n from uf _ Z4.out VX.out _);have WZ:∀W,Ex wm W->Calls Tryz.prog 80 #[.int .i64 p,.slice (some ⟨g5,aaz,none⟩) n puc,.slice LA n lc,.agg #[.slice P5 y.n.length pc5,.slice Q5 y.d.length qc5]] W λe w'=>∃A9 c9,e=.returned (.slice A9 n c9)/\n<=c9/\AP (λk=>k<w.heap.size) G w' A9 ((ah p).less u y L)/\Ex W w':=λW hW=>by have hq:=PD p u L y (some ⟨g5,aaz,none⟩) LA P5 Q5 puc lc pc5 qc5 W (hPu.rd.ex hW) (hLm.rd.ex hW) (by rw[Z4.out,VX.out]) (hP5.ex hW) (hQ5.ex hW) (Hug.out.mono (by omega)) (HLg.out.mono (by omega)) ZY.out.1 (ZY.out.2.mono (by omega));rw[Z4.out,VX.out]at hq;refine hq.mono ?_;rintro e w' ⟨v,rfl,ge,xx⟩;obtain⟨A9,c9,ev,ZL,_⟩:=ge.ox (E':=Lp) (by rw[xL.out];omega) rfl uG;rw[xL.out]at ev ZL;subst ev;have hGm:=Ep.lt;have hWs:=hW.size;exact⟨A9,c9,rfl,ZL,ge.rdn (by omega) (λi hi=>by have:=hem.size;omega) (by rw[xL.out];omega),xx⟩
           clear hir hu hmu hy hb2 hPu hPQ;go_wp2_with fail
           refine Tq.mono ?_;rintro e w7 ⟨rfl,x7⟩;clear Tq;replace eu:=af x7 eu;replace e0:=af x7 e0;replace e1:=af x7 e1;go_wp2_with fail
           go_region_law (first
            |(go_simp
              go_at_call 80
              refine(WZ _ (x7.trans (asF w7).drew)).mono ?_;rintro e w9 ⟨A9,c9,rfl,ZL,r9,x9⟩;replace x9:=((asF w7).drew).trans x9;have l0:=af x9 eu;have hM9:=Ep.ex (x7.trans x9);have n0:=hM9.frozen i))
           all_goals
            have abV:=hM9.put i (c:=c9) (q':=r+1) (r9.weak λk e=>e.elim (HS.out k) λe=>e.2) xL.out (λ_=>ZL) (λj h _=>h);rw[TS.out]at abV;have k10:aJ G w9 (w9.setCell ⟨G,i,none⟩ (.slice A9 n c9)):=(aJ.refl _ _).setCell (p:=⟨G,i,none⟩) rfl _;have afj:=(hLm.ex (x7.trans x9)).k1 k10;have ael:=(hem.trans (x7.trans x9)).aM k10 hG;clear WZ eu e0 e1 l0 n0 hM9 Ep hLm;go_wp2_with fail
            go_roundw;case rel=>exact⟨i+1,by omega,by go_num,abV,afj,ael⟩
            case measure=>simp[intOf];omega
        .obtain rfl:i=R:=by omega
         rw[ann (by rw[AX.out];exact amX _),aoA (by rw[rf.out];exact amX _),anR]at Ep;go_wp2_with fail
         go_roundw;case rel=>exact⟨c+1,r+1,T,by omega,by go_num,by go_num,Ep,HTW,Xi,AX,by omega,Zx,hem⟩
         case measure=>simp[intOf];omega
   .obtain rfl:t=R:=by omega
    have HN:=amW (YV (O:=ah p) (by rw[HZ.out];exact Jl) (λi v h1 h2 h3=>Hz.out i v h1 (by rw[<-HZ.out];exact h2) h3));have Xi:=amW (show gJ (ah p) rows (c+1)=(Z,r) by rw[gJ,HG.out];exact amZ HN.out);have Zx:=amW (show(ah p).red (n-(c+1)) (c+1) r Z=FIN by rw[<-iP.out,show n-c=(n-(c+1))+1 by omega,Ops.red,amZ HN.out]);clear Hz HN;go_wp2_with fail
    go_roundw;case rel=>exact⟨c+1,r,Z,by omega,rfl,by go_num,hM.ex p_,HW,Xi,HZ,Jl,Zx,he.trans p_⟩
    case measure=>simp[intOf];omega
theorem wH(S:Nat->Prop)(p:Int)(n:Nat)(rows:List (List aF))(A:Option Addr)(c:Nat)(w:World)(hF:aj p=true)(h:jo S w A rows)(hS:∀k,S k->k<w.heap.size)(hw:aZ n rows)(sJ:∀c,c<=n->iK p 17179869184 (gJ (ah p) rows c).1)(hn:n<=1000)(hR:rows.length<=1000):
 Calls Tryz.prog 46 #[.int .i64 p,.int .i64 n,.slice A rows.length c] w λe w'=>∃A' c',e=.returned (.slice A' ((ah p).aB n rows).length c')/\(∀w2,bn S w' w2->wo w2 A' ((ah p).aB n rows))/\Ex w w':=by
 refine(wF S p n rows A c w hF h hS hw sJ hn hR).mono ?_;rintro e w' ⟨A',c',rfl,hR,x⟩;exact⟨A',c',rfl,λw2 hw2=>hR w2 (hw2.widen λk _ hk=>hS k hk),x⟩
theorem IA(S:Nat->Prop)(p:Int)(n:Nat)(rows:List (List aF))(A:Option Addr)(c:Nat)(w:World)(hF:aj p=true)(h:jo S w A rows)(hS:∀k,S k->k<w.heap.size)(hw:aZ n rows)(sJ:∀c,c<=n->iK p 17179869184 (gJ (ah p) rows c).1)(hn:n<=1000)(hR:rows.length<=1000):
 Calls Tryz.prog 46 #[.int .i64 p,.int .i64 n,.slice A rows.length c] w λe w'=>∃A' c',e=.returned (.slice A' ((ah p).aB n rows).length c')/\(∀w2,bn S w' w2->gm iE w2 A' ((ah p).aB n rows))/\Ex w w':=by
 refine(wH S p n rows A c w hF h hS hw sJ hn hR).mono ?_;rintro e w' ⟨A',c',rfl,hR,x⟩;exact⟨A',c',rfl,λw2 hw2=>(hR w2 hw2).1,x⟩
end Go.Proofs.YtekcehkhdjoffaaGreatDoor
