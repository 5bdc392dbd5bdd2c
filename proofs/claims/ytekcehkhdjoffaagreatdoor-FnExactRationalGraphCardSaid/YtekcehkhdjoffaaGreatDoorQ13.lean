/- Lemmas and walks on terms over rational functions: Linear combinations of rows in the .. -/
import Derived.Test.YtekcehkhdjoffaaGreatDoorQ12
namespace Go.Proofs.YtekcehkhdjoffaaGreatDoor
open List(range)
open List(replicate)
open _root_.Go.Proofs.Tryz(prog)
set_option maxRecDepth 100000
set_option maxHeartbeats 8000000
set_option linter.all false
open Go Go.RowKit
variable{e:Ed}{x:aF}{k p:Int}{rows:List (List aF)}{bs:List (Option Nat)}{r row xs:List aF}{E I J:List Nat}{B G H L R W a b c ca g j l m n:Nat}{S T:Nat->Prop}{A P:Option Addr}{K:Type}{v v0:Value}{W0 w w':World}{Good:World->Prop}
theorem GE.II(h:GE pq 51 w B H (.slice P m c) xs)(hl:xs.length<=1099511627776):gm EF w P xs:=by obtain⟨A,c',e,_,o⟩:=h.ox (E':=Lp) hl rfl uG;injection e with e1 _ _;subst e1;exact o.II rfl D6
theorem GE.acf(h:GE pq 51 w B H (.slice (some ⟨g,0,none⟩) n c) xs)(ha:a<=B):oC w (λz=>z<a∨z=g) g xs:=by
 obtain⟨cur,al,bl,_,hB,hH,hh,h1,h2⟩:=h.at_;refine⟨cur,hh,λi x hx=>?_⟩;obtain⟨u,q1,⟨v0,v1,rfl,a0,b0,a1,b1,⟨A,c0,rfl,f0⟩,⟨A',c1,rfl,f1⟩,l0,l1,l2,l3,_⟩,q3,q4,q5⟩:=h1 i x hx;refine⟨A,c0,A',c1,q1 0 _ rfl,q1 1 _ rfl,⟨f0.rd,λ_ a e hs=>?_⟩,⟨f1.rd,λ_ a e hs=>?_⟩⟩
 .have:=f0.fr.hi a e;have:=f0.lo a e;omega
 .have:=f1.fr.hi a e;have:=f1.lo a e;omega
theorem oC.WV(h:oC w (λz=>z<a∨z=g) g xs)(hg:a<=g)(hl:xs.length<=1099511627776):(wC W0).O w a w.heap.size [.slice (some ⟨g,0,none⟩) xs.length c] xs:=by
 refine⟨_,c,rfl,λw2 _ hk=>?_⟩;have hgl:=h.lt;obtain⟨cur,hh,hx⟩:=h;have Gi:w2.heap[g]?=some (.cells cur 51 (0,0)):=(hk g hg hgl hgl).trans hh;have hrd:∀{A:Option Addr} {l:List Int},RX w (λz=>z<a∨z=g) A l->Rd w2 A l:=λ{A l} hr=>by
  by_cases hl0:l=[]
  .subst hl0;exact Rd.nil _ _
  .refine hr.1.keep λp e hp=>hk _ ?_ hp hp
   have:=hr.2 hl0 p e;omega
 refine oC.II (S:=λ_=>False) ⟨cur,Gi,λi x hi=>?_⟩ hl;obtain⟨A,c,B,d,h1,h2,h3,h4⟩:=hx i x hi;exact⟨A,c,B,d,h1,h2,⟨hrd h3,λ_ _ _ h=>h.elim⟩,⟨hrd h4,λ_ _ _ h=>h.elim⟩⟩
theorem KQ(hF:aj p=true){s:Nat}(hg:∀v∈rows,∀x∈v,FV p x)(hw:aZ s rows):aZ s ((ah p).aB s rows)/\(∀r∈(ah p).aB s rows,dY r<s)/\((ah p).aB s rows).length<=s:=by obtain⟨u,rfl⟩:=CK (P:=FV p) rows hg;have hwu:aZ s u:=aZ.dh.1 hw;rw[(jl p hF).aB];have hI:=iL (ay p hF) hwu;refine⟨aZ.dh.2 hI.1,λr hr=>?_,by rw[am5];exact yT _ hI⟩;obtain⟨v,hv,rfl⟩:=am3.1 hr;obtain⟨t,ht⟩:=anc hv;obtain⟨hW,P,hE⟩:=hI;obtain⟨q,_,e,hq⟩:=hE.lead hW ht;rw[<-sw p,(jl p hF).lead,e];exact hq
theorem Ab(hF:aj p=true){s:Nat}(hL:1<=L)(hg:iK p L rows)(hw:aZ s rows)(hn:s<=R∨rows.length<=R):iK p (bZ R L) ((ah p).aB s rows):=by rw[O6];intro v hv;exact iR hF hL hg hw hn (amX s) s (amX s) v (an5 hv)
theorem L6(p:Int)(s:Nat)(rows:List (List aF))(A:Option Addr)(c:Nat)(w:World)(B:Nat)(hF:aj p=true)(h:jo (λ_=>False) w A rows)(hw:aZ s rows)(hv:∀v∈rows,∀x∈v,FV p x)(hC:∀c,c<=s->iK p 17179869184 (gJ (ah p) rows c).1)(hG:iK p B ((ah p).aB s rows))(hB1:1<=B)(hB:B<=27000000)(hs:s<=24)(hR:rows.length<=1000):
 Calls prog 17 #[.int .i64 p,.int .i64 s,.slice A rows.length c] w λe w'=>∃A' c',e=.returned (.slice A' ((ah p).aB s ((ah p).j4 s ((ah p).aB s rows))).length c')/\wo w' A' ((ah p).aB s ((ah p).j4 s ((ah p).aB s rows)))/\Ex w w':=by
 have C1:=IA (λ_=>False) p s rows A c w hF h (λ_ h=>h.elim) hw hC (by omega) hR;have HM:=amW (KQ hF hv hw);have HG:=amW hG;have HF:=amW hF;obtain⟨M,hMe⟩:=xq ((ah p).aB s rows);rw[hMe]at C1 HM HG⊢;obtain⟨R,hRe⟩:=xq rows.length;rw[hRe]at C1⊢;clear hF h hw hv hC hG hR hMe hRe;obtain⟨ml,hml⟩:=xq M.length;have VU:=amW hml;rw[hml]at C1;have hms:ml<=s:=by rw[<-hml];exact HM.out.2.2
 clear hml;obtain⟨NL,hNL⟩:=xq ((ah p).j4 s M);have HNL:=amW hNL;rw[hNL];have C2:∀(A2:Option Addr) (c2:Nat) (W:World),jo (λ_=>False) W A2 NL->Calls prog 46 #[.int .i64 p,.int .i64 s,.slice A2 NL.length c2] W λe w'=>∃A' c',e=.returned (.slice A' ((ah p).aB s NL).length c')/\(∀w2,bn (λ_=>False) w' w2->wo w2 A' ((ah p).aB s NL))/\Ex W w':=λA2 c2 W hA=>by
  have hgn:iK p B NL:=by rw[<-HNL.out];exact zD HF.out (by omega) HG.out
  have hwn:aZ s NL:=by rw[<-HNL.out];exact mU s M
  have hln:NL.length<=s:=by rw[<-HNL.out];exact MW _ s M
  exact wH (λ_=>False) p s NL A2 c2 W HF.out hA (λ_ h=>h.elim) hwn (λc hc=>(iR HF.out (by omega) hgn hwn (R:=24) (.inl hs) (amX _) c hc).mono (by unfold bZ;omega)) (by omega) (by omega)
 have HN0:=amW (show[]++(ah p).bR s M (s-0) 0 0=NL by rw[<-hNL];rfl);clear hNL;go_enter Tryz.func17,Tryz.ntmps17
 go_wp2_with fail
 refine C1.mono ?_;rintro e w1 ⟨A1,c1,rfl,hm,x1⟩;have hm1:gm iE w1 A1 M:=hm w1 (bn.refl _ _);clear hm C1;go_wp2_with fail
 go_loopw [8,9,10] (λo at_ i wr=>∃(j t:Nat) (A2:Option Addr) (c2:Nat) (D:List (List aF)),j<=s/\t<=j/\i=.int .i64 j/\at_=.int .i64 t/\o=.slice A2 D.length c2/\GE (wC w1) 48 wr w1.heap.size wr.heap.size (.slice A2 D.length c2) D/\Hid (D++(ah p).bR s M (s-j) j t=NL)/\D.length<=j/\Ex w1 wr) (λ_ _ i _=>s-(intOf i).toNat)
 case atStart=>exact⟨0,0,none,0,[],am4 _,amX _,rfl,rfl,rfl,GE.nil _ _ _ _ _,HN0,amX _,asF _⟩
 case round=>
  rename World=>wi;obtain⟨j,t,A2,c2,D,hj,htj,rfl,rfl,rfl,hge,HD,hDj,he⟩:=hrel;have hz:=he.size;by_cases hlt:j<s
  .have Z7:=amW (show(ah p).bR s M (s-j) j t=if t<M.length/\(ah p).lead (M.getD t [])=j then(ah p).bR s M (s-(j+1)) (j+1) (t+1)else(ah p).fK s M j::(ah p).bR s M (s-(j+1)) (j+1) t by
    rw[show s-j=(s-(j+1))+1 by omega];rfl)
   by_cases htm:t<ml
   .obtain⟨g,off,r,v,rfl,hr,b0,⟨P,pc,rfl,hrr⟩⟩:=(hm1.ex he).j5 (j:=t) (by rw[VU.out];exact htm);have Hrl:=amW (HM.out.1 r (am1 hr));have Hr:=amW hr;have cL:=mJ P pc r wi hrr;rw[Hrl.out]at b0 cL;by_cases hld:dY r=j
    .have HG2:=amW (show D++(ah p).bR s M (s-(j+1)) (j+1) (t+1)=NL by
      rw[<-HD.out,Z7.out,amY ⟨by rw[VU.out];exact htm,by rw[am6,Hr.out];exact hld⟩])
     rw[hld]at cL;clear HD Z7 hr hld;go_wp2_with fail
     refine cL.mono ?_;rintro e w5 ⟨rfl,x5⟩;have ZH:=x5.size;go_wp2_with fail
     go_roundw;case rel=>exact⟨j+1,t+1,A2,c2,D,by omega,by omega,by go_num,by go_num,rfl,(hge.ex x5).more (amX _) ZH,HG2,by omega,he.trans x5⟩
     case measure=>simp[intOf];omega
    .have HG2:=amW (show D++(ah p).fK s M j::(ah p).bR s M (s-(j+1)) (j+1) t=NL by
      rw[<-HD.out,Z7.out,amZ λe=>hld (by have:=e.2;rw[am6,Hr.out]at this;exact this)])
     obtain⟨l0,hl0⟩:=xq (dY r);rw[hl0]at cL hld;clear HD Z7 hr hl0;go_wp2_with fail
     refine cL.mono ?_;rintro e wi2 ⟨rfl,xi⟩;have hz2:=xi.size;replace hge:=(hge.ex xi).more (amX _) hz2;replace he:=he.trans xi;replace hz:=anb hz hz2;clear b0 hrr cL;have hs1:s<=1000:=by omega
     go_wp2_with fail
     refine(qy s hs1 _).mono ?_;rintro e w5 ⟨A5,c5,rfl,qX,x5⟩;go_wp2_with fail
     obtain⟨g5,c5',e5,NF,_⟩:=qX.form (by intro e;injection e with _ e _;omega);rw[anD]at e5 NF;injection e5 with e5 _ e6;subst e5 e6;have F5:=qX.acf (a:=wi2.heap.size) (amX _);have hg5:wi2.heap.size<=g5:=by obtain⟨_,_,_,_,hB,_⟩:=qX.at_;exact hB
     have aeU:=F5.lt;have ZH:=x5.size;clear qX;refine(lI w5).mono ?_;rintro e w6 ⟨M6,X_,N6,X8,rfl,fM,fN,ZX,x6⟩;have Yg:=x6.size;have F6:=F5.ex x6;obtain⟨_,_,_,_,q0,q1,_,_⟩:=F6.at_ (i:=j) (x:=zF) (by rw[anH,amY hlt]);have k0:=F6.frozen (j*2);have k1:=F6.frozen (j*2+1);have F7:=F6.put (c:=X_) (d:=X8) (.inr rfl) j oF (A:=M6) (B:=N6) (fM.rx λk hk=>by omega) (fN.rx λk hk=>by omega);have e7:aJ g5 w6 ((w6.setCell ⟨g5,j*2,none⟩ (.slice M6 oF.n.length X_)).setCell ⟨g5,j*2+1,none⟩ (.slice N6 oF.d.length X8)):=((aJ.refl g5 w6).setCell (p:=⟨g5,j*2,none⟩) rfl _).setCell (p:=⟨g5,j*2+1,none⟩) rfl _;have x7:=(x5.trans x6).aM e7 hg5;clear F5 F6 fM fN ZX e7 x5 x6;obtain⟨v0,hv0⟩:=xq ((replicate s zF).set j oF);have HV0:=amW hv0;rw[hv0]at F7;go_wp2_with fail
     clear hv0;generalize(w6.setCell ⟨g5,j*2,none⟩ (.slice M6 oF.n.length X_)).setCell ⟨g5,j*2+1,none⟩ (.slice N6 oF.d.length X8)=W7 at*;clear q0 q1 k0 k1;go_loopw [13,46] (λ_ i wr=>∃k:Nat,k<=ml/\i=.int .i64 k/\oC wr (λz=>z<wi2.heap.size∨z=g5) g5 ((ah p).h_ (M.take k) j v0)/\Ex wi2 wr) (λ_ i _=>ml-(intOf i).toNat)
     case atStart=>exact⟨0,am4 _,rfl,F7,x7⟩
     case round=>
      rename World=>wj;obtain⟨k,hk,rfl,F8,x8⟩:=hrel;by_cases hkm:k<ml
      .obtain⟨g9,aji,r,v,eA,hr,b0,⟨P,pc,rfl,hrr⟩⟩:=(hm1.ex (he.trans x8)).j5 (j:=k) (by rw[VU.out];exact hkm);injection eA with eA;injection eA with ea eb;subst ea eb;have Hrl:=amW (HM.out.1 r (am1 hr));have hll:=HM.out.2.1 r (am1 hr);have Hrg:=amW (HG.out r (am1 hr));obtain⟨g',off',x,P1,pc1,Q1,qc1,rfl,hx,d0,d1,hP1,hQ1⟩:=hrr.ku (j:=j) (by rw[Hrl.out];exact hlt);have AR:=amW (Hrg.out x (am1 hx));have HS:=amW (show(ah p).h_ (M.take (k+1)) j v0=((ah p).h_ (M.take k) j v0).set (dY r) (aV p x) by
        rw[am_,hr,Option.toList_some,zH];show((ah p).h_ (M.take k) j v0).set ((ah p).lead r) (aV p ((ah p).el r j))=_;rw[Ops.bT _ hx];rfl)
       have fV:∀W,Ex wj W->Calls prog 47 #[.slice (some ⟨g',off',none⟩) s pc] W λe w'=>e=.returned (.int .i64 (dY r))/\Ex W w':=λW hW=>by have:=mJ (some ⟨g',off',none⟩) pc r W (hrr.ex hW);rw[Hrl.out]at this;exact this
       have Tm:∀W,Ex wj W->Calls prog 48 #[.int .i64 p,.agg #[.slice P1 x.n.length pc1,.slice Q1 x.d.length qc1]] W λe w'=>wZ W (aV p x) e w':=λW hW=>DV p x P1 Q1 pc1 qc1 W AR.out.1 (hP1.ex hW) (hQ1.ex hW)
       obtain⟨l,hl⟩:=xq (dY r);have HL:=amW hl;rw[hl]at fV hll;rw[Hrl.out]at b0;clear hl hr hx hrr hP1 hQ1;have hlen:((ah p).h_ (M.take k) j v0).length=s:=by rw[pV,<-HV0.out,anj,anD]
       obtain⟨y,hy⟩:∃y,((ah p).h_ (M.take k) j v0)[l]?=some y:=⟨_,am0 (by rw[hlen];exact hll)⟩;have Hlen:=amW hlen;have HY:=amW hy;clear hlen hy;go_wp2_with fail
       go_region_law (first
        |(go_simp
          go_at_call 47
          refine(fV _ ((asF wj).drew)).mono ?_;rintro e w8 ⟨rfl,y8⟩;replace y8:=((asF wj).drew).trans y8;have d0':=af y8 d0;have d1':=af y8 d1)
        |(go_simp
          go_at_call 48
          refine(Tm _ (by first|exact y8|exact y8.drew)).mono ?_;rintro e w9 ⟨A9,c9,B9,e9,rfl,f9,f9',Ua,y9⟩;replace y9:=y8.trans y9;have F9:=F8.ex y9;obtain⟨_,_,_,_,q0,q1,_,_⟩:=F9.at_ HY.out;have k0:=F9.frozen (l*2);have k1:=F9.frozen (l*2+1)))
       all_goals
        have hg8:=F8.lt;have hs8:=y8.size;have F10:=F9.put (c:=c9) (d:=e9) (.inr rfl) l (aV p x) (A:=A9) (B:=B9) (f9.rx λz hz=>by omega) (f9'.rx λz hz=>by omega);rw[<-HL.out,<-HS.out,HL.out]at F10;have e10:aJ g5 w9 ((w9.setCell ⟨g5,l*2,none⟩ (.slice A9 (aV p x).n.length c9)).setCell ⟨g5,l*2+1,none⟩ (.slice B9 (aV p x).d.length e9)):=((aJ.refl g5 w9).setCell (p:=⟨g5,l*2,none⟩) rfl _).setCell (p:=⟨g5,l*2+1,none⟩) rfl _;have x10:=(x8.trans y9).aM e10 hg5;clear e10 F9 F8 fV Tm d0 d1 d0' d1' b0 f9 f9' Ua q0 q1 k0 k1;go_wp2_with fail
        go_roundw;case rel=>exact⟨k+1,by omega,by go_num,F10,x10⟩
        case measure=>simp[intOf];omega
      .obtain rfl:k=ml:=by omega
       rw[ann (by rw[VU.out];exact amX _)]at F8;have hzj:=x8.size;have Ve:(ah p).h_ M j v0=(ah p).fK s M j:=by rw[<-HV0.out];rfl
       rw[Ve]at F8;have hlv:=mR (ah p) s M j;have hE:=F8.WV (W0:=w1) (c:=c5) hg5 (by omega);rw[hlv]at hE;obtain⟨v',Di,hrun,BI,_,hnn,Gp⟩:=iO (hge.ex x8) hzj hE (amX _) hzj (amX _) hz (by omega);have Jr:=Gp w1 (he.trans x8) (amX _);obtain⟨ZA,c10,rfl⟩:=BI.lu;clear Ve hlv hE Gp F8 F7;go_wp2_with (at_builtin;refine wpList_append_run rfl _ _ _ rfl rfl rfl hrun ?_)
       go_roundw;case rel=>exact⟨j+1,t,ZA,c10,D++[(ah p).fK s M j],by omega,by omega,by go_num,rfl,by simp,BI,amW (by rw[anP];exact HG2.out),by rw[am9,aop];omega,Jr⟩
       case measure=>simp[intOf];omega
   .have HG2:=amW (show D++(ah p).fK s M j::(ah p).bR s M (s-(j+1)) (j+1) t=NL by
     rw[<-HD.out,Z7.out,amZ λe=>htm (by rw[<-VU.out];exact e.1)])
    clear HD Z7;have hs1:s<=1000:=by omega
    go_wp2_with fail
    refine(qy s hs1 _).mono ?_;rintro e w5 ⟨A5,c5,rfl,qX,x5⟩;go_wp2_with fail
    obtain⟨g5,c5',e5,NF,_⟩:=qX.form (by intro e;injection e with _ e _;omega);rw[anD]at e5 NF;injection e5 with e5 _ e6;subst e5 e6;have F5:=qX.acf (a:=wi.heap.size) (amX _);have hg5:wi.heap.size<=g5:=by obtain⟨_,_,_,_,hB,_⟩:=qX.at_;exact hB
    have aeU:=F5.lt;have ZH:=x5.size;clear qX;refine(lI w5).mono ?_;rintro e w6 ⟨M6,X_,N6,X8,rfl,fM,fN,ZX,x6⟩;have Yg:=x6.size;have F6:=F5.ex x6;obtain⟨_,_,_,_,q0,q1,_,_⟩:=F6.at_ (i:=j) (x:=zF) (by rw[anH,amY hlt]);have k0:=F6.frozen (j*2);have k1:=F6.frozen (j*2+1);have F7:=F6.put (c:=X_) (d:=X8) (.inr rfl) j oF (A:=M6) (B:=N6) (fM.rx λk hk=>by omega) (fN.rx λk hk=>by omega);have e7:aJ g5 w6 ((w6.setCell ⟨g5,j*2,none⟩ (.slice M6 oF.n.length X_)).setCell ⟨g5,j*2+1,none⟩ (.slice N6 oF.d.length X8)):=((aJ.refl g5 w6).setCell (p:=⟨g5,j*2,none⟩) rfl _).setCell (p:=⟨g5,j*2+1,none⟩) rfl _;have x7:=(x5.trans x6).aM e7 hg5;clear F5 F6 fM fN ZX e7 x5 x6;obtain⟨v0,hv0⟩:=xq ((replicate s zF).set j oF);have HV0:=amW hv0;rw[hv0]at F7;go_wp2_with fail
    clear hv0;generalize(w6.setCell ⟨g5,j*2,none⟩ (.slice M6 oF.n.length X_)).setCell ⟨g5,j*2+1,none⟩ (.slice N6 oF.d.length X8)=W7 at*;clear q0 q1 k0 k1;go_loopw [13,46] (λ_ i wr=>∃k:Nat,k<=ml/\i=.int .i64 k/\oC wr (λz=>z<wi.heap.size∨z=g5) g5 ((ah p).h_ (M.take k) j v0)/\Ex wi wr) (λ_ i _=>ml-(intOf i).toNat)
    case atStart=>exact⟨0,am4 _,rfl,F7,x7⟩
    case round=>
     rename World=>wj;obtain⟨k,hk,rfl,F8,x8⟩:=hrel;by_cases hkm:k<ml
     .obtain⟨g,off,r,v,rfl,hr,b0,⟨P,pc,rfl,hrr⟩⟩:=(hm1.ex (he.trans x8)).j5 (j:=k) (by rw[VU.out];exact hkm);have Hrl:=amW (HM.out.1 r (am1 hr));have hll:=HM.out.2.1 r (am1 hr);have Hrg:=amW (HG.out r (am1 hr));obtain⟨g',off',x,P1,pc1,Q1,qc1,rfl,hx,d0,d1,hP1,hQ1⟩:=hrr.ku (j:=j) (by rw[Hrl.out];exact hlt);have AR:=amW (Hrg.out x (am1 hx));have HS:=amW (show(ah p).h_ (M.take (k+1)) j v0=((ah p).h_ (M.take k) j v0).set (dY r) (aV p x) by
       rw[am_,hr,Option.toList_some,zH];show((ah p).h_ (M.take k) j v0).set ((ah p).lead r) (aV p ((ah p).el r j))=_;rw[Ops.bT _ hx];rfl)
      have fV:∀W,Ex wj W->Calls prog 47 #[.slice (some ⟨g',off',none⟩) s pc] W λe w'=>e=.returned (.int .i64 (dY r))/\Ex W w':=λW hW=>by have:=mJ (some ⟨g',off',none⟩) pc r W (hrr.ex hW);rw[Hrl.out]at this;exact this
      have Tm:∀W,Ex wj W->Calls prog 48 #[.int .i64 p,.agg #[.slice P1 x.n.length pc1,.slice Q1 x.d.length qc1]] W λe w'=>wZ W (aV p x) e w':=λW hW=>DV p x P1 Q1 pc1 qc1 W AR.out.1 (hP1.ex hW) (hQ1.ex hW)
      obtain⟨l,hl⟩:=xq (dY r);have HL:=amW hl;rw[hl]at fV hll;rw[Hrl.out]at b0;clear hl hr hx hrr hP1 hQ1;have hlen:((ah p).h_ (M.take k) j v0).length=s:=by rw[pV,<-HV0.out,anj,anD]
      obtain⟨y,hy⟩:∃y,((ah p).h_ (M.take k) j v0)[l]?=some y:=⟨_,am0 (by rw[hlen];exact hll)⟩;have Hlen:=amW hlen;have HY:=amW hy;clear hlen hy;go_wp2_with fail
      go_region_law (first
       |(go_simp
         go_at_call 47
         refine(fV _ ((asF wj).drew)).mono ?_;rintro e w8 ⟨rfl,y8⟩;replace y8:=((asF wj).drew).trans y8;have d0':=af y8 d0;have d1':=af y8 d1)
       |(go_simp
         go_at_call 48
         refine(Tm _ (by first|exact y8|exact y8.drew)).mono ?_;rintro e w9 ⟨A9,c9,B9,e9,rfl,f9,f9',Ua,y9⟩;replace y9:=y8.trans y9;have F9:=F8.ex y9;obtain⟨_,_,_,_,q0,q1,_,_⟩:=F9.at_ HY.out;have k0:=F9.frozen (l*2);have k1:=F9.frozen (l*2+1)))
      all_goals
       have hg8:=F8.lt;have hs8:=y8.size;have F10:=F9.put (c:=c9) (d:=e9) (.inr rfl) l (aV p x) (A:=A9) (B:=B9) (f9.rx λz hz=>by omega) (f9'.rx λz hz=>by omega);rw[<-HL.out,<-HS.out,HL.out]at F10;have e10:aJ g5 w9 ((w9.setCell ⟨g5,l*2,none⟩ (.slice A9 (aV p x).n.length c9)).setCell ⟨g5,l*2+1,none⟩ (.slice B9 (aV p x).d.length e9)):=((aJ.refl g5 w9).setCell (p:=⟨g5,l*2,none⟩) rfl _).setCell (p:=⟨g5,l*2+1,none⟩) rfl _;have x10:=(x8.trans y9).aM e10 hg5;clear e10 F9 F8 fV Tm d0 d1 d0' d1' b0 f9 f9' Ua q0 q1 k0 k1;go_wp2_with fail
       go_roundw;case rel=>exact⟨k+1,by omega,by go_num,F10,x10⟩
       case measure=>simp[intOf];omega
     .obtain rfl:k=ml:=by omega
      rw[ann (by rw[VU.out];exact amX _)]at F8;have hzj:=x8.size;have Ve:(ah p).h_ M j v0=(ah p).fK s M j:=by rw[<-HV0.out];rfl
      rw[Ve]at F8;have hlv:=mR (ah p) s M j;have hE:=F8.WV (W0:=w1) (c:=c5) hg5 (by omega);rw[hlv]at hE;obtain⟨v',Di,hrun,BI,_,hnn,Gp⟩:=iO (hge.ex x8) hzj hE (amX _) hzj (amX _) hz (by omega);have Jr:=Gp w1 (he.trans x8) (amX _);obtain⟨ZA,c10,rfl⟩:=BI.lu;clear Ve hlv hE Gp F8 F7;go_wp2_with (at_builtin;refine wpList_append_run rfl _ _ _ rfl rfl rfl hrun ?_)
      go_roundw;case rel=>exact⟨j+1,t,ZA,c10,D++[(ah p).fK s M j],by omega,by omega,by go_num,rfl,by simp,BI,amW (by rw[anP];exact HG2.out),by rw[am9,aop];omega,Jr⟩
      case measure=>simp[intOf];omega
  .obtain rfl:j=s:=by omega
   have hDN:D=NL:=by have:=HD.out;rw[an4]at this;rw[<-this];exact(anR D).symm
   subst hDN;obtain⟨A3,c3,e3,hrn⟩:=hge.aau (S:=λ_=>False) (by omega) he (λ_ h=>h.elim);injection e3 with e3 _ _;subst e3;have C3:=λcc=>C2 A2 cc wi hrn
   clear HD hDj;go_wp2_with fail
   refine(C3 _).mono ?_;rintro e w4 ⟨A4,c4,rfl,h4,x4⟩;go_wp2_with fail
   go_ret;exact⟨A4,c4,rfl,h4 w4 (bn.refl _ _),(x1.trans he).trans x4⟩
theorem vV{a b:Value}:∀{us:List (List Value)} {i:Nat},(∀u∈us,u.length=2)->i<us.length->(us.flatten.set (i*2) a).set (i*2+1) b=(us.set i [a,b]).flatten
 |[],i,_,h=>by simp at h
 |u::us,i,hu,h=>by
  have hl:=hu u (by simp)
  match u,hl with
  |[p,q],_=>
   cases i with
   |zero=>simp
   |succ i=>have ih:=vV (a:=a) (b:=b) (us:=us) (i:=i) (λv hv=>hu v (by simp[hv])) (by simpa using h);rw[List.set_cons_succ,aoy,aoy,<-ih,show(i+1)*2=i*2+1+1 by omega];rfl
theorem GE.OV{i:Nat}(h:GE pq 51 w B H (.slice (some ⟨g,0,none⟩) xs.length c) xs){v1:Value}(hi:i<xs.length){cur:Array Value}(hc:w.heap[g]?=some (.cells cur 51 (0,0)))
 (hc':w'.heap[g]?=some (.cells ((cur.setIfInBounds (i*2) v0).setIfInBounds (i*2+1) v1) 51 (0,0))) (hk:∀k,k<w.heap.size->k≠g->w'.heap[k]?=w.heap[k]?) (ho:mr w' H b v0 v1 x) (hHb:H<=b):
 GE pq 51 w' B b (.slice (some ⟨g,0,none⟩) xs.length c) (xs.set i x):=by
 obtain⟨hown,us,al,bl,hl,ho1,h1,h2⟩:=h;have hu2:∀u∈us,u.length=2:=λu hu=>by obtain⟨j,hj⟩:=anc hu;have hjl:=(am2.1 hj).1;obtain⟨u2,q1,q2,_⟩:=h1 j _ (am0 (by omega));rw[hj]at q1;injection q1 with q1;subst q1;exact pq.lN q2
 have hg:=hown g rfl;have hiu:i<us.length:=by omega
 refine⟨λk e=>by have:=hown k e;omega,us.set i [v0,v1],(λj=>if j=i then H else al j),(λj=>if j=i then b else bl j),by rw[anj,anj,hl],?_,λj y hj=>?_,λj k hj hk' hne=>?_⟩
 .refine⟨?_,?_⟩
  .rw[<-vV hu2 hiu,anj,anj,anj];exact ho1.1
  .rcases ho1.2 with⟨e,_⟩|⟨g',cap,cu,e,hB,hh,q1,q2,q3,q4⟩
   .cases e
   .injection e with e1 e2 e3;injection e1 with e1;injection e1 with e1 _ _;subst e1;rw[hc]at hh;injection hh with hh;injection hh with hh _ _;subst hh;refine .inr ⟨g,cap,_,by rw[anj,e3],hB,hc',by rw[anj];exact q1,q2,by simpa using q3,?_⟩;rw[<-vV hu2 hiu,<-q4];simp[List.take_set]
 .rw[ang]at hj;by_cases e:i=j
  .subst e;rw[amY rfl,amY hi]at hj;injection hj with hj;subst hj;refine⟨[v0,v1],by rw[ang,amY rfl,amY hiu],?_,?_,?_,?_⟩
   .simp only[amY];exact⟨_,_,rfl,ho⟩
   .simp only[amY];omega
   .simp only[amY];omega
   .intro k e;have:=hown k e;simp only[amY];omega
  .rw[amZ e]at hj;obtain⟨u,q1,q2,q3,q4,q5⟩:=h1 j y hj;have e':¬j=i:=λh=>e h.symm
   refine⟨u,by rw[ang,amZ e];exact q1,?_,?_,?_,?_⟩
   .simp only[amZ e'];exact pq.keep q2 λk a1 a2 a3=>hk k a3 (λeg=>by have:=q5 g rfl;omega)
   .simp only[amZ e'];exact q3
   .simp only[amZ e'];omega
   .simp only[amZ e'];exact q5
 .rw[anj]at hj hk';have bd:∀j,j<xs.length->bl j<=H:=λj hj=>by
   obtain⟨_,_,_,_,q4,_⟩:=h1 j _ (am0 hj);exact q4
  by_cases ej:j=i
  .have ek:¬k=i:=by omega
   simp only[amY ej,amZ ek];have:=bd k hk';omega
  .by_cases ek:k=i
   .simp only[amZ ej,amY ek];have:=bd j hj;omega
   .simp only[amZ ej,amZ ek];exact h2 j k hj hk' hne
theorem Ir(n i:Nat)(hi:i<n)(hn:n<=1000)(w:World):
 Calls prog 87 #[.int .i64 n,.int .i64 i] w λe w'=>∃v,e=.returned v/\Ho w' w.heap.size w'.heap.size v (wD n i)/\Ex w w':=by
 go_enter Tryz.func87,Tryz.ntmps87
 go_wp2_with fail
 refine(CB n hn w).mono ?_;rintro e w2 ⟨v,rfl,⟨hnn,hge⟩,x2⟩;obtain⟨g0,c0,e0,hc0,_⟩:=hge.form hnn;subst e0;obtain⟨cur,_,_,_,hgB,hgH,hh,hcells,_⟩:=hge.at_;obtain⟨u,hu,⟨u0,u1,rfl,_⟩,_⟩:=hcells i zF (by rw[anH,amY hi]);have hz2:=x2.size;have r0:cur[i*2]?=some u0:=hu 0 u0 rfl;have r1:cur[i*2+1]?=some u1:=hu 1 u1 rfl;clear hu hcells;have hv:VB w2 g0 51 cur:=hh;rw[anD];go_wp2_with fail
 refine(xR w2).mono ?_;rintro e w3 ⟨A3,c3,B3,d3,rfl,f3,p3,Ig,x3⟩;have hz3:=x3.size;have xf:=cB (x:=oF) f3 p3 Ig hz3;have hgl:=aC hh;have d3v:VB w3 g0 51 cur:=(x3.block hgl).trans hh;have q0:=d3v.cell (i*2) r0;have q1:=d3v.cell (i*2+1) r1;have k0:=d3v.frozen (i*2);have k1:=d3v.frozen (i*2+1);have dv:VB ((w3.setCell ⟨g0,i*2,none⟩ (.slice A3 oF.n.length c3)).setCell ⟨g0,i*2+1,none⟩ (.slice B3 oF.d.length d3)) g0 51 ((cur.setIfInBounds (i*2) (.slice A3 oF.n.length c3)).setIfInBounds (i*2+1) (.slice B3 oF.d.length d3)):=(d3v.aX _ _).aX _ _;have e1:aJ g0 w3 ((w3.setCell ⟨g0,i*2,none⟩ (.slice A3 oF.n.length c3)).setCell ⟨g0,i*2+1,none⟩ (.slice B3 oF.d.length d3)):=((aJ.refl g0 w3).setCell (p:=⟨g0,i*2,none⟩) rfl _).setCell (p:=⟨g0,i*2+1,none⟩) rfl _;have sz:((w3.setCell ⟨g0,i*2,none⟩ (.slice A3 oF.n.length c3)).setCell ⟨g0,i*2+1,none⟩ (.slice B3 oF.d.length d3)).heap.size=w3.heap.size:=by simp
 have hT:=hge.OV (x:=oF) (b:=w3.heap.size) (v0:=.slice A3 oF.n.length c3) (v1:=.slice B3 oF.d.length d3) (i:=i) (by rw[anD];exact hi) hh dv (λk hk hkg=>(e1.block k (anq hk hz3) (λe=>hkg (by injection e))).trans (x3.block hk)) (xf.e1 e1 (.inl hgH)) hz3;rw[anD]at hT;have eF:=(x2.trans x3).aM e1 hgB;clear hge xf dv;go_wp2_with fail
 go_ret;exact⟨_,rfl,⟨by simp,by rw[sz];exact hT⟩,eF⟩
theorem bD.XT{B' H' G' R' c':Nat}{rows' Z:List (List aF)}{K:Nat->Prop}(h:GE xN 48 w B H (.slice (some ⟨G,0,none⟩) R c) rows)(hw:aZ n rows)(h':GE xN 48 w B' H' (.slice (some ⟨G',0,none⟩) R' c') rows')(hw':aZ m rows')
 (e1:Z.map (List.take n)=rows) (e2:Z.map (List.drop n)=rows') (hHB:H<=B') (hK:∀z,K z->z<w.heap.size/\(z<B∨H<=z)/\(z<B'∨H'<=z)) (hHs:H'<=w.heap.size):
 ∃(S:Nat->Prop) (bs bs':List (Option Nat)),bD w S K G G' bs bs' Z n m/\∀z,S z->(B<=z/\z<H)∨(B'<=z/\z<H'):=by
 obtain⟨hR,hB,hGH,gs,g1,g2,g3,g4,g5⟩:=yU h hw;obtain⟨hR',hB',akO,ts,t1,t2,t3,t4,t5⟩:=yU h' hw';have hat:∀(gs:List Nat) (j b:Nat),(gs.map some)[j]?=some (some b)->gs[j]?=some b:=λgs j b hb=>by
  rw[am7]at hb;cases hx:gs[j]? with
  |none=>rw[hx]at hb;cases hb
  |some x=>rw[hx]at hb;cases hb;rfl
 have hS:∀z,(z=G∨(∃j:Nat,gs[j]?=some z)∨z=G'∨∃j:Nat,ts[j]?=some z)->(B<=z/\z<H)∨(B'<=z/\z<H'):=λz hz=>by
  rcases hz with e|⟨j,hj⟩|e|⟨j,hj⟩
  .exact .inl (by omega)
  .exact .inl ⟨(g2 j z hj).1,(g2 j z hj).2.1⟩
  .exact .inr (by omega)
  .exact .inr ⟨(t2 j z hj).1,(t2 j z hj).2.1⟩
 refine⟨λz=>z=G∨(∃j:Nat,gs[j]?=some z)∨z=G'∨∃j:Nat,ts[j]?=some z,gs.map some,ts.map some,?_,hS⟩;have aap:∀(T:Nat->Prop),(∀z,T z->z<B∨H<=z)->∀z,((z=G∨(∃j:Nat,gs[j]?=some z)∨z=G'∨∃j:Nat,ts[j]?=some z)∨T z)->B<=z->z<H->z=G∨∃j:Nat,gs[j]?=some z:=λT hT z hz l u=>by
  rcases hz with(e|e|e|⟨j,e⟩)|e
  .exact .inl e
  .exact .inr e
  .omega
  .have:=(t2 j z e).1;omega
  .have:=hT z e;omega
 have aao:∀(T:Nat->Prop),(∀z,T z->z<B'∨H'<=z)->∀z,((z=G∨(∃j:Nat,gs[j]?=some z)∨z=G'∨∃j:Nat,ts[j]?=some z)∨T z)->B'<=z->z<H'->z=G'∨∃j:Nat,ts[j]?=some z:=λT hT z hz l u=>by
  rcases hz with(e|⟨j,e⟩|e|e)|e
  .omega
  .have:=(g2 j z e).2.1;omega
  .exact .inl e
  .exact .inr e
  .have:=hT z e;omega
 have s1:=g5 (λz=>z=G∨(∃j:Nat,gs[j]?=some z)∨z=G'∨∃j:Nat,ts[j]?=some z) (λz hz=>aap (λ_=>False) (λ_ h=>h.elim) z (.inl hz));have s2:=g5 (λz=>(z=G∨(∃j:Nat,gs[j]?=some z)∨z=G'∨∃j:Nat,ts[j]?=some z)∨K z) (aap K λz hz=>(hK z hz).2.1);have s3:=t5 (λz=>z=G∨(∃j:Nat,gs[j]?=some z)∨z=G'∨∃j:Nat,ts[j]?=some z) (λz hz=>aao (λ_=>False) (λ_ h=>h.elim) z (.inl hz));have s4:=t5 (λz=>(z=G∨(∃j:Nat,gs[j]?=some z)∨z=G'∨∃j:Nat,ts[j]?=some z)∨K z) (aao K λz hz=>(hK z hz).2.2);obtain⟨cur,hc,Ia⟩:=g4;obtain⟨cur',hc',aeX⟩:=t4;have row:∀(gs:List Nat) (n:Nat) (cur:Array Value),(∀(j g:Nat),gs[j]?=some g->∃c,n<=c/\cur[j]?=some (.slice (some ⟨g,0,none⟩) n c))->∀(j:Nat) (ob:Option Nat),(gs.map some)[j]?=some ob->∃c,n<=c/\cur[j]?=some (.slice (pB ob) n c):=λgs n cur hq j ob hj=>by
  rw[am7]at hj;cases hx:gs[j]? with
  |none=>rw[hx]at hj;cases hj
  |some x=>rw[hx]at hj;injection hj with hj;subst hj;exact hq j x hx
 refine⟨⟨⟨cur,hc,row gs n cur Ia⟩,by rw[am5,e1];exact g1,λj ob r h1 h2=>?_,λi j b h1 h2=>g3 i j b (hat gs i b h1) (hat gs j b h2),.inl rfl,λj b hb=>(g2 j b (hat gs j b hb)).2.2⟩,⟨⟨cur',hc',row ts m cur' aeX⟩,by rw[am5,e2];exact t1,λj ob r h1 h2=>?_,λi j b h1 h2=>t3 i j b (hat ts i b h1) (hat ts j b h2),.inr (.inr (.inl rfl)),λj b hb=>(t2 j b (hat ts j b hb)).2.2⟩,by omega,λi j b h1 h2=>?_,λj b hb=>by have:=(g2 j b (hat gs j b hb)).2.1;omega,λj b hb=>by have:=(t2 j b (hat ts j b hb)).1;omega,λz hz=>by rcases hS z hz with h|h<;>omega,λz hz=>(hK z hz).1,λb o=>(∃j:Nat,gs[j]?=some b/\o<2*n)∨(∃j:Nat,ts[j]?=some b/\o<2*m),?_,λz o hz=>?_,λo hz=>?_,λo hz=>?_,λj b hb=>⟨.inr (.inl ⟨j,hat gs j b hb⟩),λo ho=> .inl ⟨j,hat gs j b hb,ho⟩⟩,λj b hb=>⟨.inr (.inr (.inr ⟨j,hat ts j b hb⟩)),λo ho=> .inr ⟨j,hat ts j b hb,ho⟩⟩⟩
 .rw[e1]at h2;rw[am7]at h1;cases hx:gs[j]? with
  |none=>rw[hx]at h1;cases h1
  |some x=>rw[hx]at h1;injection h1 with h1;subst h1;exact⟨⟨s1.1 j x r hx h2,.inr (.inl ⟨j,hx⟩)⟩,hw r (am1 h2)⟩
 .rw[e2]at h2;rw[am7]at h1;cases hx:ts[j]? with
  |none=>rw[hx]at h1;cases h1
  |some x=>rw[hx]at h1;injection h1 with h1;subst h1;exact⟨⟨s3.1 j x r hx h2,.inr (.inr (.inr ⟨j,hx⟩))⟩,hw' r (am1 h2)⟩
 .have:=(g2 i b (hat gs i b h1)).2.1;have:=(t2 j b (hat ts j b h2)).1;omega
 .intro b o a nn cc hb hcell;rcases hb with hb|hb
  .refine⟨(s2.2.1 b o a nn cc hb hcell).1,λb' o' a' n' c' hb' hcell' ea=>?_⟩;rcases hb' with hb'|hb'
   .exact(s2.2.1 b o a nn cc hb hcell).2 b' o' a' n' c' hb' hcell' ea
   .have:=s2.2.2 b o a nn cc hb hcell;have:=s4.2.2 b' o' a' n' c' hb' hcell';omega
  .refine⟨(s4.2.1 b o a nn cc hb hcell).1,λb' o' a' n' c' hb' hcell' ea=>?_⟩;rcases hb' with hb'|hb'
   .have:=s4.2.2 b o a nn cc hb hcell;have:=s2.2.2 b' o' a' n' c' hb' hcell';omega
   .exact(s4.2.1 b o a nn cc hb hcell).2 b' o' a' n' c' hb' hcell' ea
 .rcases hz with⟨j,hj,_⟩|⟨j,hj,_⟩
  .exact .inr (.inl ⟨j,hj⟩)
  .exact .inr (.inr (.inr ⟨j,hj⟩))
 .rcases hz with⟨j,hj,_⟩|⟨j,hj,_⟩
  .exact(g2 j G hj).2.2 rfl
  .have:=(t2 j G hj).1;omega
 .rcases hz with⟨j,hj,_⟩|⟨j,hj,_⟩
  .have:=(g2 j G' hj).2.1;omega
  .exact(t2 j G' hj).2.2 rfl
theorem GV{O:Ops K}{rows:List (List K)}(hw:aZ n rows):(O.beside rows).map (List.take n)=rows:=by
 refine anG λj=>?_
 rw[am7,kJ];cases hj:rows[j]? with
 |none=>rfl
 |some r=>rw[aoN,aoN,aoY (hw r (am1 hj))]
theorem GY{O:Ops K}{rows:List (List K)}(hw:aZ n rows):(O.beside rows).map (List.drop n)=(range rows.length).map (O.unit rows.length):=by
 refine anG λj=>?_
 rw[am7,kJ,am7];cases hj:rows[j]? with
 |none=>rw[anz (by rw[anK];exact List.getElem?_eq_none_iff.1 hj)];rfl
 |some r=>rw[List.getElem?_range (am2.1 hj).1,aoN,aoN,aoN,aoM (hw r (am1 hj))]
theorem Uy{α:Type}(f:Nat->α)(k:Nat):(range (k+1)).map f=(range k).map f++[f k]:=by rw[List.range_succ,anQ];rfl
theorem fC.P7(h:fC w S G bs rows n)(hl:rows.length<=1099511627776)(hn:n<=1099511627776)(r:Nat):wo w (some ⟨G,r,none⟩) (rows.drop r):=by
 have key:∀(j:Nat) (z:List aF),(rows.drop r)[j]?=some z->∃P pc,w.cell? ⟨G,r+j,none⟩=some (.slice P z.length pc)/\z.length<=pc/\gm EF w P z:=λj z hj=>by
  rw[anB]at hj;obtain⟨ob,z',c,hc,h1,h2,h3,h4,h5⟩:=h.TA (am2.1 hj).1;rw[hj]at h2;injection h2 with h2;subst h2;rw[<-h3]at h5 hc;refine⟨_,c,h5,hc,?_⟩;cases ob with
  |none=>obtain rfl:z=[]:=h4;exact⟨by simp,λj x hj=>by simp at hj⟩
  |some b=>exact h4.1.II (by omega)
 refine⟨⟨by rw[anp];omega,λj z hj=>?_⟩,λj z hj=>?_⟩
 .obtain⟨P,pc,h1,h2,h3⟩:=key j z hj;refine⟨G,r,[.slice P z.length pc],rfl,λi u hi=>?_,_,rfl,P,pc,rfl,h3⟩;rw[show iE.k=1 from rfl,anY]
  match i,hi with
  |0,hi=>simp at hi;rw[<-hi];exact h1
 .obtain⟨P,pc,h1,h2,h3⟩:=key j z hj;exact⟨G,r,P,pc,rfl,h1,h2,h3⟩
theorem oC.kT{S':Nat->Prop}{R:Nat->Nat->Prop}(h:oC w S b xs)(hO:Ow w S' R)(hR:∀o,o<2*xs.length->R b o)(hT:∀q,T q->S' q)(hb:¬T b)(k:bn T w w'):oC w' S b xs:=by
 have hl:=h.lt;obtain⟨cur,hc,hx⟩:=h;refine⟨cur,(k.block b hl hb).trans hc,λi x hi=>?_⟩;obtain⟨A,c,B,d,h1,h2,h3,h4⟩:=hx i x hi;have hil:=(am2.1 hi).1;have kp:∀(o:Nat) (A:Option Addr) (n c:Nat) (l:List Int),o<2*xs.length->cur[o]?=some (.slice A n c)->RX w S A l->RX w' S A l:=λo A n c l ho Ia hr=>
  ⟨hr.1.keep λa e hl=>k.block _ hl (by
   subst e;intro e2;have:=(hO b o a n c (hR o ho) (by simp[World.cell?,hc,Ia])).1.1;exact this (hT _ e2)),hr.2⟩
 exact⟨A,c,B,d,h1,h2,kp _ A _ _ _ (by omega) h1 h3,kp _ B _ _ _ (by omega) h2 h4⟩
theorem fC.kT{S':Nat->Prop}{R:Nat->Nat->Prop}(h:fC w S G bs rows n)(hO:Ow w S' R)(hR:∀(j b:Nat),bs[j]?=some (some b)->∀o,o<2*n->R b o)(hT:∀q,T q->S' q)(hS:∀q,T q->¬S q)(k:bn T w w'):fC w' S G bs rows n:=by
 have hl:=h.lt;obtain⟨cur,hc,hx⟩:=h.out;refine⟨⟨cur,(k.block G hl λe=>hS G e h.sg).trans hc,hx⟩,h.len,λj ob r h1 h2=>?_,h.nd,h.sg,h.ng⟩;obtain⟨q1,q2⟩:=h.row j ob r h1 h2;refine⟨?_,q2⟩;cases ob with
 |none=>exact q1
 |some b=>exact⟨q1.1.kT hO (λo ho=>hR j b h1 o (by omega)) hT (λe=>hS b e q1.2) k,q1.2⟩
theorem bD.kA{K:Nat->Prop}{G':Nat}{bs':List (Option Nat)}{Z:List (List aF)}(h:bD w S K G G' bs bs' Z n m)(hK:∀q,T q->K q)(hS:∀q,T q->¬S q)(k:bn T w w'):fC w' S G' bs' (Z.map (List.drop n)) m:=by obtain⟨R,hO,h1,h2,h3,h4,h5⟩:=h.own;exact h.a.kT hO (λj b hb=>(h5 j b hb).2) (λq hq=> .inr (hK q hq)) hS k
theorem MK{xs:List (List aF)}(h:(xs=[]/\∃ad,v=.slice (some ad) 0 0)∨GE xN 48 w B H v xs)(hH:H<=w.heap.size){x:List aF}(hu:Ho w a b v0 x)(ha:H<=a)(hab:a<=b)(hb:b<=w.heap.size)(hB:B<=H)(hl:xs.length+1<=1099511627776):
 ∃v' w',(Builtin.append_ #[27,27] 27 #[v,.slice (some ⟨w.heap.size,0,none⟩) 1 1]).run prog (w.alloc (.cells #[v0] 48))=.ok v' w'/\
  GE xN 48 w' B w'.heap.size v' (xs++[x])/\v'≠.slice none 0 0/\(∀k,k<B->w'.heap[k]?=w.heap[k]?)/\∀b',Ex b' w->b'.heap.size<=B->Ex b' w':=by
 rcases h with⟨rfl,ad,rfl⟩|h
 .obtain⟨i,hi,hz,hs,hby⟩:=anA fZ;have hx:=(asF w).alloc (.cells #[v0] 48);have hsz:(w.alloc (.cells #[v0] 48)).heap.size=w.heap.size+1:=by simp
  have hO:xN.O w a b [v0] x:=⟨v0,rfl,hu⟩;obtain⟨v',w',hrun,hown,hgr⟩:=run_append_arg_grows (P:=prog) (w:=w.alloc (.cells #[v0] 48)) 27 27 48 i (.slice none 0 0) 1 24 Tryz.underlying27 hi hz hs hby rfl (by omega) ad 0 0 [] (by simp) (λj u h=>by simp at h) ⟨w.heap.size,0,none⟩ 1 1 [v0] rfl
   (λj y hj=>World.news_of_block (heap_alloc_new w _) j y (by simpa using hj)) (by omega) (by unfold maxLen;omega) (by omega)
  rw[aon,anE]at hown;have hx':Ex w w':=hx.Sj hgr (λg e=>by cases e);have hlt:=World.ownsRow.lt hown;have hnn:v'≠.slice none 0 0:=λe=>by
   rcases hown.2 with⟨_,e2⟩|⟨g,cap,cur,e2,_⟩
   .omega
   .rw[e]at e2;cases e2
  refine⟨v',w',hrun,⟨λk e=>by have:=hlt k e;omega,[[v0]],λ_=>a,λ_=>b,rfl,⟨hown.1,?_⟩,λj y hj=>?_,λi j hi hj=>by simp at hi hj;omega⟩,hnn,λk hk=>hx'.block (by omega),λb' hb' _=>hb'.trans hx'⟩
  .rcases hown.2 with h5|⟨g,cap,cur,e2,hg,r⟩
   .exact .inl h5
   .exact .inr ⟨g,cap,cur,e2,by omega,r⟩
  .rcases j with _|j
   .injection hj with hj;subst hj;have h1:=hx'.size;refine⟨[v0],rfl,xN.UG hO hx',?_,?_,λk e=>?_⟩
    .show B<=a;omega
    .show b<=w'.heap.size;omega
    .have:=hlt k e;show k<a∨b<=k;omega
   .simp at hj
 .obtain⟨v',w',h1,h2,h3,h4,h5⟩:=Ff h hH hu ha hab hb hB hl;exact⟨v',w',h1,h2,h4,λk hk=>h3.block k (by omega) (λe=>by have:=(h.own k e.symm).1;omega),h5⟩
theorem LW{lo:Nat}(h1:lo<=n)(_:n<=c)(W:World):(Instr.sliceAt 27 (.slice A n c) (some (.int .i64 (lo:Int))) none none).run prog W=.ok (.slice (if c=lo then A else A.map (λa=>a.add (lo*1))) (n-lo) (c-lo)) W:=by
 obtain⟨i,hi,hz,hs,hby⟩:=anA fZ;have e1:(0:Int)<=(lo:Int):=by omega
 have e2:(lo:Int)<=(n:Int):=by omega
 simp[Instr.sliceAt,Instr.slice,aob Tryz.underlying27,Instr.sliceBounds,run_sliceBound,sizeOf,typeInfo,hi,hs,e1,e2]
theorem LC(m i:Nat):(wD m i).length=m:=by simp[wD]
theorem MG(p:Int)(S KS:Nat->Prop)(G G':Nat)(Xb GU:List (Option Nat))(Z0:List (List aF))(n m R cG OD b0 b1 b2 b3 b4:Nat)(w:World)(hF:aj p=true)(h:bD w S KS G G' Xb GU Z0 n m)(hW:aZ (n+m) Z0)(sJ:∀c,c<=n->iK p 17179869184 (gJ (ah p) Z0 c).1)(hR:Z0.length=R)
 (hn:n<=1000) (hm:m<=1000) (hR1:R<=1000) (hc1:R<=cG) (hc2:cG<=9223372036854775807)
 (c0:w.cell? ⟨b0,0,none⟩=some (.int .i64 p)) (c1:w.cell? ⟨b1,0,none⟩=some (.slice (some ⟨G,0,none⟩) R cG)) (c2:w.cell? ⟨b2,0,none⟩=some (.int .i64 n)) (c3:w.cell? ⟨b3,0,none⟩=some (.slice (some ⟨G',0,none⟩) R OD)) (v4:VB w b4 3 #[.int .i64 0]) (hS4:¬S b4) (hK4:KS b4):
 Calls prog 89 #[.pointer (some ⟨b0,0,none⟩),.pointer (some ⟨b1,0,none⟩),.pointer (some ⟨b2,0,none⟩),.pointer (some ⟨b3,0,none⟩),.pointer (some ⟨b4,0,none⟩)] w λe w'=>e=.returned (.tuple #[])/\bn (λz=>S z∨z=b4) w w'/\
  VB w' b4 3 #[.int .i64 ((ah p).red n 0 0 Z0).2]/\∃bs bs',bD w' S KS G G' bs bs' ((ah p).red n 0 0 Z0).1 n m:=by
 have hcall:=pR p S KS G G' Xb GU Z0 n m R cG OD w hF h.sl h hW sJ hR hn hm hR1 hc1 hc2;clear h hW sJ hR;generalize(ah p).red n 0 0 Z0=FIN at*;go_enter Tryz.func89,Tryz.ntmps89
 go_wp2_with fail
 refine hcall.mono ?_;rintro e w1 ⟨bs,bs',rfl,hT,x1⟩;have v1:VB w1 b4 3 #[.int .i64 0]:=(x1.block _ v4.lt hS4).trans v4;have d0:=v1.c0;have d1:=v1.frozen 0;have E2:aJ b4 w1 (w1.setCell ⟨b4,0,none⟩ (.int .i64 FIN.2)):=(aJ.refl _ w1).setCell (p:=⟨b4,0,none⟩) rfl _;have v2:VB (w1.setCell ⟨b4,0,none⟩ (.int .i64 FIN.2)) b4 3 #[.int .i64 FIN.2]:=v1.aX 0 _;have Oy:=hT.k1 hK4 hS4 E2;have x2:=(x1.widen (T:=λz=>S z∨z=b4) (λz _ h=> .inl h)).trans (bn.a_ (S:=λz=>z=b4) E2 rfl) (λz _ e=> .inr e);clear hcall;go_wp2_with fail
 first|rw[anU]|skip
 refine bodyPost_end (results_none rfl _ _ _) rfl ?_;exact⟨rfl,x2,v2,bs,bs',Oy⟩
theorem Dt(p:Int)(n:Nat)(rows:List (List aF))(A:Option Addr)(c:Nat)(w:World)(hF:aj p=true)(h:gm iE w A rows)(hw:aZ n rows)(hg:∀c,c<=n->iK p 17179869184 (gJ (ah p) ((ah p).beside rows) c).1)(hn:n<=1000)(hR:rows.length<=24):
 Calls prog 55 #[.int .i64 p,.slice A rows.length c,.int .i64 n] w λe w'=>∃A' c',e=.returned (.slice A' ((ah p).l6 n rows).length c')/\(∀w2,bn (λk=>k<w.heap.size) w' w2->wo w2 A' ((ah p).l6 n rows))/\Ex w w':=by
 have HF:=amW hF;have HW:=amW hw;have Zw:=amW hg;have x0:=((asF w).alloc (.cells #[.int .i64 p] 3)).alloc (.cells #[.int .i64 n] 3);have v0:=(VB.new w 3 #[.int .i64 p]).ex ((asF _).alloc (.cells #[.int .i64 n] 3));have v1:=VB.new (w.alloc (.cells #[.int .i64 p] 3)) 3 #[.int .i64 n];have s0:((w.alloc (.cells #[.int .i64 p] 3)).alloc (.cells #[.int .i64 n] 3)).heap.size=w.heap.size+2:=by simp
 rw[show(w.alloc (.cells #[.int .i64 p] 3)).heap.size=w.heap.size+1 by simp]at v1;clear hF hw hg;go_enter Tryz.func55,Tryz.ntmps55
 go_wp2_with fail
 generalize(w.alloc (.cells #[.int .i64 p] 3)).alloc (.cells #[.int .i64 n] 3)=W0 at*;refine(Am A c rows W0 (h.ex x0)).mono ?_;rintro e w1 ⟨v,rfl,⟨hnn,hge⟩,x1⟩;obtain⟨G,cG,ev,hcG,hcm⟩:=hge.form hnn;subst ev;clear hnn;have hz1:=x1.size;obtain⟨m,hm⟩:=xq rows.length;have Hm:=amW hm;rw[hm]at hge hcG hR⊢;clear hm h;go_wp2_with fail
 obtain⟨y1,vE⟩:=VB.xn w1 48 #[];have t1:(w1.alloc (.cells #[] 48)).heap.size=w1.heap.size+1:=by simp
 generalize w1.alloc (.cells #[] 48)=V1 at*;obtain⟨y2,vN⟩:=VB.xn V1 27 #[.slice (some ⟨G,0,none⟩) m cG];have t2:(V1.alloc (.cells #[.slice (some ⟨G,0,none⟩) m cG] 27)).heap.size=w1.heap.size+1+1:=by simp;exact t1
 rw[t1]at vN;generalize V1.alloc (.cells #[.slice (some ⟨G,0,none⟩) m cG] 27)=V2 at*;obtain⟨y3,vO⟩:=VB.xn V2 27 #[.slice (some ⟨w1.heap.size,0,none⟩) 0 0];have t3:(V2.alloc (.cells #[.slice (some ⟨w1.heap.size,0,none⟩) 0 0] 27)).heap.size=w1.heap.size+1+1+1:=by simp;exact t2
 rw[t2]at vO;generalize V2.alloc (.cells #[.slice (some ⟨w1.heap.size,0,none⟩) 0 0] 27)=V3 at*;have vE:=(vE.ex y2).ex y3;have vN:=vN.ex y3;have y13:=(y1.trans y2).trans y3;clear y1 y2 y3 t1 t2;go_loopw [16] (λi wr=>∃(k:Nat) (v:Value),k<=m/\i=.int .i64 k/\VB wr (w1.heap.size+1+1) 27 #[v]/\(((range k).map (wD m)=[]/\∃ad,v=.slice (some ad) 0 0/\ad=⟨w1.heap.size,0,none⟩)∨GE xN 48 wr (w1.heap.size+1+1+1) wr.heap.size v ((range k).map (wD m)))/\v≠.slice none 0 0/\VB wr w1.heap.size 48 #[]/\VB wr (w1.heap.size+1) 27 #[.slice (some ⟨G,0,none⟩) m cG]/\w1.heap.size+1+1+1<=wr.heap.size/\Ex w1 wr) (λi _=>m-(intOf i).toNat)
 case atStart=>exact⟨0,_,am4 _,rfl,vO,.inl ⟨rfl,_,rfl,rfl⟩,by simp,vE,vN,by omega,y13⟩
 case round=>
  rename World=>wi;clear vE vN vO y13 t3;obtain⟨k,v,hk,rfl,vO,hG,hnn,vE,vN,hsz,he⟩:=hrel;by_cases hlt:k<m
  .have HT:=amW (Uy (wD m) k);obtain⟨v1',v2',Lx,ev⟩:∃A n c,v=.slice A n c:=by
    rcases hG with⟨_,ad,e,_⟩|hG
    .exact⟨_,_,_,e⟩
    .obtain⟨A,c,e⟩:=hG.lu;exact⟨_,_,_,e⟩
   have k0:=vO.c0;subst ev;have Yu:m<=1000:=by omega
   go_wp2_with fail
   go_region_law (first
    |(go_simp
      go_at_call 87
      refine(Ir m k hlt Yu _).mono ?_;rintro e w2 ⟨v0,rfl,hu,x2'⟩;obtain⟨gu,cu,eu,_,_⟩:=hu.2.form hu.1;subst eu;have x2:Ex wi w2:=(asF wi).drew.trans x2';have hz2:=x2.size;have vO2:=vO.ex x2;have l0:=vO2.c0;obtain⟨v5,w5,hrun,qX,hn5,hk5,hE5⟩:=MK (w:=w2) (B:=w1.heap.size+1+1+1) (H:=wi.heap.size) (hG.elim (λh=> .inl ⟨h.1,by obtain⟨_,ad,e,_⟩:=h;exact⟨ad,e⟩⟩) (λh=> .inr (h.ex x2))) hz2 hu (amX _) hz2 (amX _) hsz (by rw[am5,anK];omega);rw[<-HT.out]at qX;obtain⟨A5,c5,e5⟩:=qX.lu;subst e5;rw[am5,anK]at qX hn5 hrun;have x5:=hE5 w1 (he.trans x2) (by omega);have l1:=(vO2.ex ((asF w2).alloc (.cells #[.slice (some ⟨gu,0,none⟩) (wD m k).length cu] 48))).c0;have Xx:VB w5 (w1.heap.size+1+1) 27 #[.slice v1' v2' Lx]:=(hk5 _ (by omega)).trans vO2;have l5:=Xx.c0;have f5:=Xx.frozen 0)
    |(refine b_ rfl _ _ _ rfl rfl rfl hrun ?_))
   all_goals
    have e6:aJ (w1.heap.size+1+1) w5 (w5.setCell ⟨w1.heap.size+1+1,0,none⟩ (.slice A5 (k+1) c5)):=(aJ.refl _ w5).setCell (p:=⟨w1.heap.size+1+1,0,none⟩) rfl _;have vO6:VB (w5.setCell ⟨w1.heap.size+1+1,0,none⟩ (.slice A5 (k+1) c5)) (w1.heap.size+1+1) 27 #[.slice A5 (k+1) c5]:=Xx.aX 0 _;have vE6:=VB.aM (vE.ex x2 |> λh=>(show VB w5 w1.heap.size 48 #[]from(hk5 _ (by omega)).trans h)) e6 (by omega);have vN6:=VB.aM (vN.ex x2 |> λh=>(show VB w5 (w1.heap.size+1) 27 #[.slice (some ⟨G,0,none⟩) m cG]from(hk5 _ (by omega)).trans h)) e6 (by omega);have ge6:=(qX.k1 e6 (by omega)).more (amX _) (H':=(w5.setCell ⟨w1.heap.size+1+1,0,none⟩ (.slice A5 (k+1) c5)).heap.size) (by simp);have x6:=x5.aM e6 (by omega);have Yg:=e6.size;have ZH:=x5.size;have ajM:=x2.size;have aj8:=Xx.lt;clear k0 hrun qX hE5 Xx l0 l1 l5 f5 vO2 hu hG vE vN vO;go_wp2_with fail
    go_roundw;case rel=>exact⟨k+1,_,by omega,by go_num,vO6,.inr ge6,hn5,vE6,vN6,by omega,x6⟩
    case measure=>simp[intOf];omega
  .obtain rfl:m=k:=by omega
   obtain⟨B',H',hge',hb1,hb2,hb3⟩:∃B' H',GE xN 48 wi B' H' v ((range m).map (wD m))/\w1.heap.size<=B'/\(H'<=w1.heap.size+1∨w1.heap.size+1+1+1<=B')/\H'<=wi.heap.size:=by
    rcases hG with⟨h0,ad,e,e2⟩|hG
    .subst e2;subst e;refine⟨w1.heap.size,w1.heap.size+1,?_,amX _,.inl (amX _),by omega⟩;rw[h0];exact⟨λk e=>by injection e with e;subst e;exact⟨amX _,aoF _⟩,[],λ_=>0,λ_=>0,rfl,⟨by simp,.inr ⟨w1.heap.size,0,#[],rfl,amX _,vE,amX _,am4 _,by simp,by simp⟩⟩,(λj r hj=>by simp at hj),(λi j hi=>by simp at hi)⟩
    .exact⟨_,_,hG,by omega,.inr (amX _),amX _⟩
   obtain⟨G',OD,ev,hc',hcm'⟩:=hge'.form hnn;rw[am5,anK]at ev hc';subst ev;obtain⟨y4,vR⟩:=VB.xn wi 3 #[.int .i64 0];have t4:(wi.alloc (.cells #[.int .i64 0] 3)).heap.size=wi.heap.size+1:=by simp
   clear hG hnn;go_wp2_with fail
   generalize wi.alloc (.cells #[.int .i64 0] 3)=V4 at*;have v0:=((v0.ex x1).ex he).ex y4;have v1:=((v1.ex x1).ex he).ex y4;have vN:=vN.ex y4;have vO:=vO.ex y4;have ZH:=he.size;obtain⟨S,bs,bs',hT,hSb⟩:=bD.XT (K:=λz=>z=wi.heap.size∨z<w.heap.size) (Z:=(ah p).beside rows) (hge.ex (he.trans y4)) HW.out (hge'.ex y4) (λv hv=>by
    obtain⟨i,_,rfl⟩:=am3.1 hv;exact LC m i) (GV HW.out) (by rw[GY HW.out,Hm.out];rfl) hb1 (λz hz=>by rcases hz with hz|hz<;>omega) (by omega)
   have hS5:∀z,S z∨z=wi.heap.size->w.heap.size<=z/\z<V4.heap.size:=λz hz=>by
    have:=hge'.own;rcases hz with hz|hz
    .rcases hSb z hz with h|h<;>omega
    .omega
   have hSn:¬S wi.heap.size:=λh=>by rcases hSb _ h with h|h<;>omega
   have hSN:¬S V4.heap.size:=λh=>by have:=hS5 _ (.inl h);omega
   have hSo:¬S (w1.heap.size+1+1):=λh=>by rcases hSb _ h with h|h<;>omega
   have hZl:((ah p).beside rows).length=m:=by rw[kX,Hm.out]
   have hfl:=nO (ah p) n 0 0 ((ah p).beside rows);have hfs:=xX (ah p) n 0 0 ((ah p).beside rows) (am4 _);rw[hZl]at hfl hfs;have hke:(ah p).l6 n rows=(((ah p).red n 0 0 ((ah p).beside rows)).1.map (List.drop n)).drop ((ah p).red n 0 0 ((ah p).beside rows)).2:=by unfold Ops.l6;rw[List.map_drop]
   have hcall:=JW 89 (enters_of Tryz.func89 (by kernel_rfl) rfl) #[.pointer (some ⟨w.heap.size,0,none⟩),.pointer (some ⟨w1.heap.size+1,0,none⟩),.pointer (some ⟨w.heap.size+1,0,none⟩),.pointer (some ⟨w1.heap.size+1+1,0,none⟩),.pointer (some ⟨wi.heap.size,0,none⟩)] V4 (λz=>S z∨z=wi.heap.size)
    (λW=>VB W wi.heap.size 3 #[.int .i64 ((ah p).red n 0 0 ((ah p).beside rows)).2]/\∃bs bs',bD W S (λz=>z=wi.heap.size∨z=V4.heap.size∨z<w.heap.size) G G' bs bs' ((ah p).red n 0 0 ((ah p).beside rows)).1 n m) (λz hz=>(hS5 z hz).2) (λW hW hsz=>by
     have ZN:=hT.Wq (K':=λz=>z=wi.heap.size∨z=V4.heap.size∨z<w.heap.size) hW (λz hz=>by
      rcases hz with hz|hz|hz
      .exact .inl (.inl hz)
      .exact .inr (by omega)
      .exact .inl (.inr hz))
     refine(MG p S _ G G' bs bs' ((ah p).beside rows) n m m cG OD w.heap.size (w1.heap.size+1) (w.heap.size+1) (w1.heap.size+1+1) wi.heap.size W HF.out ZN (by have:=gW (O:=ah p) HW.out;rwa[Hm.out]at this) Zw.out hZl (by omega) (by omega) (by omega) hcG hcm ((v0.ex hW).c0) ((vN.ex hW).c0) ((v1.ex hW).c0) ((vO.ex hW).c0) (vR.ex hW) hSn (.inl rfl)).mono ?_;rintro e W' ⟨rfl,a1,a2,a3⟩;exact⟨rfl,a1,a2,a3⟩) (λW W' hq he=>by
     obtain⟨q1,bs1,Za,q2⟩:=hq;exact⟨q1.aM he (by omega),bs1,Za,q2.k1 (.inr (.inl rfl)) hSN he⟩)
   have x4:=((x0.trans x1).trans he).trans y4;clear hT v0 v1 vN vR hge hge' vE;generalize(ah p).red n 0 0 ((ah p).beside rows)=FIN at*;refine hcall.mono ?_;rintro e w5 ⟨rfl,x5,v5,bs5,afM,BH⟩;have Xx:VB w5 (w1.heap.size+1+1) 27 #[.slice (some ⟨G',0,none⟩) m OD]:=(x5.block _ vO.lt (λh=>by
    rcases h with h|h
    .exact hSo h
    .omega)).trans vO
   have d0:=Xx.c0;have d1:=v5.c0;have x5w:Ex w w5:=x4.sx x5 (λz hz=>(hS5 z hz).1);have hsl:=λW=>LW (A:=some ⟨G',0,none⟩) hfs hc' W
   have hkl:((ah p).l6 n rows).length=m-FIN.2:=by rw[hke,anp,am5,hfl]
   have hfin:∀w2,bn (λk=>k<w.heap.size) w5 w2->wo w2 (if OD=FIN.2 then some ⟨G',0,none⟩else(some (⟨G',0,none⟩:Addr)).map (λa=>a.add (FIN.2*1))) ((ah p).l6 n rows):=λw2 hw2=>by
    have hA:=BH.kA (T:=λk=>k<w.heap.size) (λq hq=> .inr (.inr hq)) (λq hq hs=>by have:=(hS5 q (.inl hs)).1;omega) hw2;rw[hke];by_cases e:FIN.2=m
    .rw[aoA (by rw[am5,hfl];omega)];exact wo.nil _ _
    .have:=hA.P7 (by rw[am5,hfl];omega) (by omega) FIN.2;rw[amZ (by omega)];have e2:(some (⟨G',0,none⟩:Addr)).map (λa=>a.add (FIN.2*1))=some ⟨G',FIN.2,none⟩:=by
      rw[aoN,anY];unfold Addr.add;split<;>simp_all
     rw[e2];exact this
   have Zn:=amW hfin;have Hkl:=amW hkl;generalize(if OD=FIN.2 then some ⟨G',0,none⟩else(some (⟨G',0,none⟩:Addr)).map (λa=>a.add (FIN.2*1)))=PP at*;obtain⟨f,hf⟩:=xq FIN.2;rw[hf]at d1 hsl Hkl;clear hcall BH hfin hkl hke hfl v5 hf;go_wp2_with fail
   go_ret;rw[Hkl.out];exact⟨_,_,rfl,Zn.out,x5w⟩
theorem pI.two{cb:Nat}{r s:List Int}(h0:w.cell? ⟨g,0,none⟩=some (.slice (some ⟨a,0,none⟩) r.length ca))(h1:w.cell? ⟨g,1,none⟩=some (.slice (some ⟨b,0,none⟩) s.length cb))(hr:Rd w (some ⟨a,0,none⟩) r)(hs:Rd w (some ⟨b,0,none⟩) s):pI w (some ⟨g,0,none⟩) [r,s]:=
 ⟨by simp,λj x hj=>by
  rcases j with _|_|j
  .injection hj with hj;subst hj;exact⟨g,0,_,ca,rfl,h0,hr⟩
  .injection hj with hj;subst hj;exact⟨g,0,_,cb,rfl,h1,hs⟩
  .simp at hj⟩
theorem pI.one{r:List Int}(h0:w.cell? ⟨g,0,none⟩=some (.slice (some ⟨a,0,none⟩) r.length ca))(hr:Rd w (some ⟨a,0,none⟩) r):pI w (some ⟨g,0,none⟩) [r]:=
 ⟨by simp,λj x hj=>by
  rcases j with _|j
  .injection hj with hj;subst hj;exact⟨g,0,_,ca,rfl,h0,hr⟩
  .simp at hj⟩
theorem iw.st{rows:List (List Int)}{t:Nat}{ty:TypeId}{a b:Int}{S:Option Addr}(h:iw w A rows)(hv:VB w t ty #[.int .i64 a,.int .i64 b,.slice S n c])(hty:ty≠3)(k:aJ t w w'):iw w' A rows:=
 ⟨h.1,λj r hj=>by
  obtain⟨g0,_,_,e0,_⟩:=h.2 j r hj;have hg:g0≠t:=λe=>by
   have hl:0<rows.length:=by have:=(am2.1 hj).1;omega
   obtain⟨g1,_,_,e1,q,_⟩:=h.2 0 _ (am0 hl);rw[e0]at e1;injection e1 with e1;injection e1 with e1 _ _;subst e1 e;rw[hv.c0]at q;cases q
  obtain⟨g,B,C,e1,q,l,o⟩:=h.2 j r hj;rw[e0]at e1;injection e1 with e1;injection e1 with e1 _ _;subst e1;have hB:B≠t:=λe=>by obtain⟨cur,hb,_⟩:=o;subst e;have h2:w.heap[B]?=some (.cells #[.int .i64 a,.int .i64 b,.slice S n c] ty (0,0)):=hv;rw[hb]at h2;injection h2 with h2;injection h2 with _ h3 _;exact hty h3.symm
  exact⟨g0,B,C,e0,(anm (w:=w) (a:=⟨g0,j,none⟩) (k.block g0 (iM (p:=⟨g0,j,none⟩) q) (λe=>by injection e with e;exact hg e))).trans q,l,o.aM k hB⟩⟩
theorem oL(k v:Int)(w:World):Calls prog 132 #[.int .i64 k,.int .i64 v] w λe w'=>∃A c,e=.returned (.slice A (jF k v).length c)/\pI w' A (jF k v)/\Ex w w':=by
 have FC:∀r:List Int,r.length<=10->∃W,W=(w.alloc (aO r)).alloc (.cells #[.slice (some ⟨w.heap.size,0,none⟩) r.length r.length] 23)/\pI W (some ⟨w.heap.size+1,0,none⟩) [r]/\Ex w W:=λr hr=>by
  have x1:=(asF w).alloc (aO r);have s1:(w.alloc (aO r)).heap.size=w.heap.size+1:=by simp
  have x2:=(asF (w.alloc (aO r))).alloc (.cells #[.slice (some ⟨w.heap.size,0,none⟩) r.length r.length] 23);have v2:=VB.new (w.alloc (aO r)) 23 #[.slice (some ⟨w.heap.size,0,none⟩) r.length r.length];rw[s1]at v2;exact⟨_,rfl,pI.one (v2.c0) (((dH.new w r).rd (by omega)).ex x2),x1.trans x2⟩
 by_cases h3:k=3
 .subst h3;obtain⟨W,hW,hR,hE⟩:=FC [1,1,1] (by simp);subst hW;clear FC;go_enter Tryz.func132,Tryz.ntmps132
  go_wp2;go_ret;exact⟨some ⟨w.heap.size+1,0,none⟩,1,rfl,hR,hE⟩
 by_cases h4:k=4
 .subst h4;obtain⟨W,hW,hR,hE⟩:=FC [1] (by simp);subst hW;clear FC;go_enter Tryz.func132,Tryz.ntmps132
  go_wp2;go_ret;exact⟨some ⟨w.heap.size+1,0,none⟩,1,rfl,hR,hE⟩
 by_cases h5:k=5
 .subst h5;have x1:=(asF w).alloc (aO [1,0,1]);have s1:(w.alloc (aO [1,0,1])).heap.size=w.heap.size+1:=by simp
  have x2:=(asF (w.alloc (aO [1,0,1]))).alloc (aO [0,1,1]);have b2:=dH.new (w.alloc (aO [1,0,1])) [0,1,1];have s2:((w.alloc (aO [1,0,1])).alloc (aO [0,1,1])).heap.size=w.heap.size+1+1:=by simp
  rw[s1]at b2;have x3:=(asF ((w.alloc (aO [1,0,1])).alloc (aO [0,1,1]))).alloc (.cells #[.slice (some ⟨w.heap.size,0,none⟩) 3 3,.slice (some ⟨w.heap.size+1,0,none⟩) 3 3] 23);have v3:=VB.new ((w.alloc (aO [1,0,1])).alloc (aO [0,1,1])) 23 #[.slice (some ⟨w.heap.size,0,none⟩) 3 3,.slice (some ⟨w.heap.size+1,0,none⟩) 3 3];rw[s2]at v3;have hR:=pI.two (r:=[1,0,1]) (s:=[0,1,1]) (v3.c0) (v3.c1) (((dH.new w [1,0,1]).rd (by simp)).ex (x2.trans x3)) ((b2.rd (by simp)).ex x3);have hE:=(x1.trans x2).trans x3;clear FC;go_enter Tryz.func132,Tryz.ntmps132
  go_wp2;go_ret;exact⟨some ⟨w.heap.size+1+1,0,none⟩,2,rfl,hR,hE⟩
 by_cases h7:k=7
 .subst h7;obtain⟨W,hW,hR,hE⟩:=FC [1,v] (by simp);subst hW;clear FC;go_enter Tryz.func132,Tryz.ntmps132
  go_wp2;go_ret;exact⟨some ⟨w.heap.size+1,0,none⟩,1,rfl,hR,hE⟩
 have hg:jF k v=[]:=by unfold jF;rw[amZ h3,amZ h4,amZ h5,amZ h7]
 have HG:=amW hg;clear hg FC;go_enter Tryz.func132,Tryz.ntmps132
 go_wp2;go_ret;rw[HG.out];exact⟨none,0,rfl,⟨by simp,λj r hj=>by simp at hj⟩,asF w⟩
theorem DF(k:Int)(h:bN 9 14 k=true)(w:World):Calls prog 130 #[.int .i64 k] w λe w'=>e=.returned (.int .i64 (k-6))/\w=w':=by
 have c1:=λW=>gK k 3 8 W
 have c2:=λW=>gK k 9 14 W
 have hk:9<=k/\k<=14:=by simpa[bN]using h
 have h1:bN 3 8 k=false:=by simp[bN];omega
 rw[h1]at c1;rw[h]at c2;have w1:IntKind.i64.wrap (k-9)=k-9:=ant _ (by omega);have w2:IntKind.i64.wrap (k-9+3)=k-6:=by rw[ant _ (by omega)];omega
 clear h h1 hk;go_enter Tryz.func130,Tryz.ntmps130
 go_wp2_with fail
 refine(c1 _).mono ?_;rintro e _ ⟨rfl,rfl⟩;go_wp2_with fail
 refine(c2 _).mono ?_;rintro e _ ⟨rfl,rfl⟩;go_wp2;go_ret;exact⟨rfl,rfl⟩
theorem Xy(n i:Nat)(hn:n<=1099511627776)(hi:i<n)(w:World):Calls prog 149 #[.int .i64 n,.int .i64 i] w λe w'=>∃g,e=.returned (.slice (some ⟨g,0,none⟩) n n)/\w.heap.size<=g/\dH w' g ((replicate n 0).set i 1)/\Ex w w':=by
 go_enter Tryz.func149,Tryz.ntmps149
 go_wp2_with fail
 refine(xO n hn _).mono ?_;rintro e w2 ⟨g,rfl,hg,hb,x2⟩;have hc:=hb.cell (i:=i) (x:=0) (by simp[hi]);have hf:=hb.frozen i;have hB:=hb.aX i 1;have hE:Ex w (w2.setCell ⟨g,i,none⟩ (.int .i64 1)):=x2.setCell (p:=⟨g,i,none⟩) hg _;go_wp2_with fail
 go_ret;exact⟨g,rfl,hg,hB,hE⟩
theorem nN(p:Int)(l r:Nat)(rows:List (List Int))(A:Option Addr)(c:Nat)(w:World)(hF:aj p=true)(h:pI w A rows)(hw:aZ (l+r) rows)(he:kF p rows)(hn:l+r<=1000)(hR:rows.length<=1000):
 Calls prog 129 #[.int .i64 p,.int .i64 l,.int .i64 r,.slice A rows.length c] w λe w'=>∃A' c',e=.returned (.agg #[.int .i64 l,.int .i64 r,.slice A' ((aA p).aB (l+r) rows).length c'])/\iw w' A' ((aA p).aB (l+r) rows)/\Ex w w':=by
 have hwr:IntKind.i64.wrap ((l:Int)+(r:Int))=((l+r:Nat):Int):=by rw[ant _ (by omega)];omega
 obtain⟨x0,d0⟩:=VB.xn w 112 #[.int .i64 0,.int .i64 0,.slice none 0 0];have cR:=Me p (l+r) rows A c (w.alloc (.cells #[.int .i64 0,.int .i64 0,.slice none 0 0] 112)) hF (h.ex x0) hw he hn hR;have hs0:(w.alloc (.cells #[.int .i64 0,.int .i64 0,.slice none 0 0] 112)).heap.size=w.heap.size+1:=by simp
 generalize(aA p).aB (l+r) rows=RR at*;obtain⟨N,hN⟩:=xq (l+r);rw[hN]at hwr cR;clear hN hn hF h hw he hR;go_enter Tryz.func129,Tryz.ntmps129
 go_wp2_with fail
 generalize w.alloc (.cells #[.int .i64 0,.int .i64 0,.slice none 0 0] 112)=W0 at*;refine cR.mono ?_;rintro e w1 ⟨A1,c1,rfl,r1,x1⟩;have dz:=d0.ex x1;have xz:=x0.trans x1;obtain⟨dd,zz⟩:=dz.ru (.int .i64 l) (.int .i64 r) (.slice A1 RR.length c1);obtain⟨u0,u1,u2⟩:=dz.d3;obtain⟨k0,k1,k2⟩:=dz.z3;obtain⟨C0,C1,C2⟩:=dd.d3;have eF:=xz.aM zz (amX _);clear cR;go_wp2_with fail
 refine ane (v:=.agg #[.int .i64 l,.int .i64 r,.slice A1 RR.length c1]) (by simp[results,Tryz.results129,go_sem,C0,C1,C2]) rfl ?_;exact⟨A1,c1,rfl,r1.st dz (by decide) zz,eF⟩
theorem LX{lo:Nat}(h1:lo<=n)(h2:n<=c):∃P,(∀W,(Instr.sliceAt 23 (.slice A n c) (some (.int .i64 (lo:Int))) none none).run prog W=.ok (.slice P (n-lo) (c-lo)) W)/\
 ∀(W:World) (r:List Int),r.length=n->Rd W A r->Rd W P (r.drop lo):=by
 obtain⟨i,hi,hz,hs,hby⟩:=anA yj;have e1:(0:Int)<=(lo:Int):=by omega
 have e2:(lo:Int)<=(n:Int):=by omega
 refine⟨if c=lo then A else A.map (λa=>a.add (lo*1)),λW=>?_,λW r hr hq=>?_⟩
 .simp[Instr.sliceAt,Instr.slice,aob Tryz.underlying23,Instr.sliceBounds,run_sliceBound,sizeOf,typeInfo,hi,hs,e1,e2]
 .by_cases e:r.drop lo=[]
  .rw[e];exact Rd.nil _ _
  .have hl:lo<n:=by
    have:=ana.2 e;rw[anp]at this;omega
   rw[amZ (by omega)];obtain⟨g,off,x,rfl,_⟩:=hq.at_ (k:=lo) (by omega);rw[show(some (⟨g,off,none⟩:Addr)).map (λa=>a.add (lo*1))=some ⟨g,off+lo*1,none⟩ by
    rw[aoN];unfold Addr.add;split<;>simp_all,anY]
   refine⟨by rw[anp];have:=hq.len;omega,λj hj=>⟨g,off+lo,rfl,?_⟩⟩;have hj':lo+j<r.length:=by rw[anp]at hj;omega
   have:=hq.cell (am0 hj');rw[anB,am0 hj',Nat.add_assoc];exact this
theorem LV{hi:Nat}(h:hi<=c)(W:World):(Instr.sliceAt 23 (.slice A n c) none (some (.int .i64 (hi:Int))) none).run prog W=.ok (.slice A hi c) W:=by
 obtain⟨i,hi',hz,hs,hby⟩:=anA yj;have e1:(0:Int)<=(hi:Int):=by omega
 have e2:(hi:Int)<=(c:Int):=by omega
 have e3:A.map (λa=>a.add 0)=A:=by
  cases A with
  |none=>rfl
  |some a=>obtain⟨g,off,x⟩:=a;cases x<;>simp[Addr.add]
 simp[Instr.sliceAt,Instr.slice,aob Tryz.underlying23,Instr.sliceBounds,run_sliceBound,sizeOf,typeInfo,hi',e1,e2,e3]
theorem OI.form'{xs:List Int}(h:OI w a b v xs):∃A c,v=.slice A xs.length c/\Rd w A xs:=by obtain⟨A,c,e,r⟩:=h.rd;exact⟨A,c,e,r⟩
def OH:EL (List Int) where
 k:=1
 O:=λw a b vs x=>∃v,vs=[v]/\OI w a b v x
 lN:=λ⟨_,h,_⟩=>by rw[h];rfl
 keep:=λ⟨v,h,o⟩ hk=>⟨v,h,o.keep hk⟩
 one:=λ⟨v,h,o⟩ u hu=>by obtain⟨_,_,e,_⟩:=o.form';rw[h]at hu;simp at hu;subst hu;rw[e];rfl
theorem UA{xs:List (List Int)}(h:GE OH 23 w B H v xs)(hH:H<=w.heap.size){u:Value}{x:List Int}(hx:OI w a b u x)(ha:H<=a)(hab:a<=b)(hb:b<=w.heap.size)(hB:B<=H)(hl:xs.length+1<=1099511627776):
 ∃v' w',(Builtin.append_ #[68,68] 68 #[v,.slice (some ⟨w.heap.size,0,none⟩) 1 1]).run prog (w.alloc (.cells #[u] 23))=.ok v' w'/\
  GE OH 23 w' B w'.heap.size v' (xs++[x])/\∀b',Ex b' w->b'.heap.size<=B->Ex b' w':=by
 obtain⟨i,hi,hz,hs,hby⟩:=anA mH;obtain⟨v',w',h1,h2,_,_,_,h6⟩:=GE.push OH Tryz.underlying68 hi hz hs hby rfl (by decide) (by omega) h hH (u:=[u]) (x:=x) (a:=a) (b:=b) ⟨u,rfl,hx⟩ ha hab hb hB hl;exact⟨v',w',h1,h2,h6⟩
theorem GE.aax{xs:List (List Int)}(h:GE OH 23 w B H v xs)(hl:xs.length<=1099511627776):∃A c,v=.slice A xs.length c/\pI w A xs:=by
 by_cases hv:v=.slice none 0 0
 .obtain⟨_,_,e⟩:=h.lu;rw[hv]at e;injection e with _ e1 _;have e2:xs=[]:=List.length_eq_zero_iff.1 e1.symm;subst e2;exact⟨none,0,hv,by simp,λj r hj=>by simp at hj⟩
 .obtain⟨g,c,rfl,_⟩:=h.form hv;obtain⟨cur,al,bl,e,_,_,hh,h1,_⟩:=h.at_;refine⟨_,c,rfl,hl,λj r hj=>?_⟩;obtain⟨u,q1,⟨v2,q2,q3⟩,_⟩:=h1 j r hj;obtain⟨A2,c2,e2,r2⟩:=q3.form';have hc:=q1 0 _ (by rw[q2];rfl);rw[show OH.k=1 from rfl,anY,anS]at hc;refine⟨g,0,A2,c2,rfl,?_,r2⟩;rw[<-e2];simp[World.cell?,hh,hc]
theorem Vo(l r:Nat)(V:Value)(n:Nat)(P:Option Addr)(pc:Nat)(w:World)(h:l<=pc)(hV:∃A n c,V=.slice A n c):
 Calls prog 154 #[.agg #[.int .i64 l,.int .i64 r,V],.slice P n pc] w λe w'=>e=.returned (.slice P l pc)/\Ex w w':=by
 obtain⟨A,m,c,rfl⟩:=hV;have hs:=λW=>LV (A:=P) (n:=n) h W
 have x0:=(asF w).alloc (.cells #[.int .i64 l,.int .i64 r,.slice A m c] 112);go_enter Tryz.func154,Tryz.ntmps154
 go_wp2;go_ret;exact⟨rfl,x0⟩
theorem Pn(l r:Nat)(V:Value)(n:Nat)(P:Option Addr)(pc:Nat)(h:l<=n)(hc:n<=pc)(hV:∃A n c,V=.slice A n c):
 ∃P',(∀(W:World) (row:List Int),row.length=n->Rd W P row->Rd W P' (row.drop l))/\∀w,Calls prog 153 #[.agg #[.int .i64 l,.int .i64 r,V],.slice P n pc] w λe w'=>e=.returned (.slice P' (n-l) (pc-l))/\Ex w w':=by
 obtain⟨A,m,c,rfl⟩:=hV;obtain⟨P',hs,hr⟩:=LX (A:=P) h hc;refine⟨P',hr,λw=>?_⟩;have x0:=(asF w).alloc (.cells #[.int .i64 l,.int .i64 r,.slice A m c] 112);clear hr;go_enter Tryz.func153,Tryz.ntmps153
 go_wp2;go_ret;exact⟨rfl,x0⟩
theorem GJ(l r t:Nat)(V:Value)(row:List Int)(P:Option Addr)(pc:Nat)(w:World)(h:l<=row.length)(hc:row.length<=pc)(hV:∃A n c,V=.slice A n c)(hR:Rd w P row)(hv:VB w t 112 #[.int .i64 l,.int .i64 r,V])(hrl:row.length<=1000):
 Calls prog 152 #[.slice P row.length pc,.pointer (some ⟨t,0,none⟩)] w λe w'=>LIo w (row.drop l++row.take l) e w':=by
 obtain⟨P',hd,c2⟩:=Pn l r V row.length P pc h hc hV;have c1:=λW=>Vo l r V row.length P pc W (anb h hc) hV
 obtain⟨A,n,c,rfl⟩:=hV;have HS:∀W,Ex w W->(Ex w W/\W.cell? ⟨t,0,none⟩=some (.int .i64 l)/\W.cell? ⟨t,1,none⟩=some (.int .i64 r)/\W.cell? ⟨t,2,none⟩=some (.slice A n c)):=λW hW=>
  have hv':=hv.ex hW
  ⟨hW,hv'.c0,hv'.c1,hv'.c2⟩
 have cJ:∀(W:World) (g:Nat),Ex w W->VB W g 23 #[.slice P' (row.length-l) (pc-l),.slice P l pc]->Calls prog 27 #[.slice (some ⟨g,0,none⟩) 2 2] W λe w'=>LIo W (row.drop l++row.take l) e w':=λW g hW hb=>by
  have hR':=hR.ex hW;have hdl:(row.drop l).length=row.length-l:=anp;have htl:(row.take l).length=l:=by rw[am8];omega
  have:=uh (some ⟨g,0,none⟩) 2 [row.drop l,row.take l] W ⟨by simp,λj x hj=>by
   rcases j with _|_|j
   .injection hj with hj;subst hj;exact⟨g,0,P',pc-l,rfl,by rw[hdl];exact hb.c0,hd W row rfl hR'⟩
   .injection hj with hj;subst hj;exact⟨g,0,P,pc,rfl,by rw[htl];exact hb.c1,hR'.take l⟩
   .simp at hj⟩ (by simp;omega)
  simpa using this
 obtain⟨m,hm⟩:=xq row.length;obtain⟨out,hout⟩:=xq (row.drop l++row.take l);rw[hm]at c1 c2 cJ⊢;rw[hout]at cJ⊢;clear hm hout hd hR hrl h hc hv;go_enter Tryz.func152,Tryz.ntmps152
 go_wp2_with fail
 go_region_held3 (λW=>Ex w W/\W.cell? ⟨t,0,none⟩=some (.int .i64 l)/\W.cell? ⟨t,1,none⟩=some (.int .i64 r)/\W.cell? ⟨t,2,none⟩=some (.slice A n c)) (first
  |(exact HS _ x9)|(exact HS _ (x1.alloc _))|(exact HS _ x1)|(exact HS _ (asF w).drew)|(exact HS _ (asF w))) (first
  |(go_at_call 153
    have hb:=(‹Ex w _/\_›).1;refine(c2 _).mono ?_;rintro e _ ⟨rfl,Lu⟩;have x1:=hb.trans Lu;clear hb Lu)
  |(go_at_call 154
    have hb:=(‹Ex w _/\_›).1;refine(c1 _).mono ?_;rintro e _ ⟨rfl,Lu⟩;have x1:=hb.trans Lu;clear hb Lu)
  |(go_at_call 27
    refine(cJ _ _ (x1.alloc _) (VB.new _ _ _)).mono ?_;rintro e w9 ⟨v,rfl,o9,x9'⟩;have x0:=x1.alloc (.cells #[.slice P' (m-l) (pc-l),.slice P l pc] 23);have x9:=x0.trans x9';have o10:=o9.more x0.size (amX _)))
 all_goals
  go_wp2;go_ret;exact⟨_,rfl,o10,x9⟩
theorem D_:∀args w,(callFunc 152 args).run prog w=.ok (.enter 152 args) w:=enters_of Tryz.func152 (by kernel_rfl) rfl
theorem Y5(l r t:Nat)(rows:List (List Int))(A:Option Addr)(c:Nat)(w:World)(h:iw w A rows)(hw:aZ (l+r) rows)(hn:l+r<=1000)(hR:rows.length<=1000)(hv:VB w t 112 #[.int .i64 l,.int .i64 r,.slice A rows.length c]):
 Calls prog 151 #[.agg #[.int .i64 l,.int .i64 r,.slice A rows.length c],.func (.func 152) #[] #[.pointer (some ⟨t,0,none⟩)]] w λe w'=>∃A' c',e=.returned (.slice A' rows.length c')/\pI w' A' (fQ l rows)/\Ex w w':=by
 have eg:=D_;obtain⟨out,ho⟩:=xq (fQ l rows);have HO:=amW ho;have hol:out.length=rows.length:=by rw[<-ho];unfold fQ;rw[am5]
 rw[ho];clear ho;obtain⟨R,hRl⟩:=xq rows.length;have Ud:=amW hRl;rw[hRl]at hol;have cF:∀(W:World) (k:Nat),k<R->Ex w W->∃g off P pc row,A=some ⟨g,off,none⟩/\W.cell? ⟨g,off+k,none⟩=some (.slice P row pc)/\∀W',Ex W W'->Calls prog 152 #[.slice P row pc,.pointer (some ⟨t,0,none⟩)] W' λe w'=>∃x,out[k]?=some x/\LIo W' x e w':=λW k hk hW=>by
  have hkl:k<rows.length:=by omega
  obtain⟨row,hr⟩:∃row,rows[k]?=some row:=⟨_,am0 hkl⟩;obtain⟨g,b,pc,eA,hc,hcp,hO⟩:=(h.ex hW).2 k row hr;have hl:=hw row (am1 hr);refine⟨g,0,some ⟨b,0,none⟩,pc,row.length,eA,by rw[anE];exact hc,λW' hW'=>?_⟩;refine(GJ l r t (.slice A rows.length c) row (some ⟨b,0,none⟩) pc W' (by omega) hcp ⟨_,_,_,rfl⟩ ((hO.ex hW').rd (by omega)) ((hv.ex hW).ex hW') (by omega)).mono λe w' q=>⟨_,?_,q⟩
  rw[<-HO.out];unfold fQ;rw[am7,hr];rfl
 rw[hRl]at hR⊢;clear hRl;obtain⟨y0,d0⟩:=VB.xn w 112 #[.int .i64 l,.int .i64 r,.slice A R c];have s0:(w.alloc (.cells #[.int .i64 l,.int .i64 r,.slice A R c] 112)).heap.size=w.heap.size+1:=by simp
 have C2:=d0.c2;clear h hw hn hv;go_enter Tryz.func151,Tryz.ntmps151
 go_wp2_with fail
 generalize w.alloc (.cells #[.int .i64 l,.int .i64 r,.slice A R c] 112)=W0 at*;have wO:=GE.empty OH 23 W0 (B:=W0.heap.size) (amX _);have y1:=y0.alloc (.cells #[] 23);have s1:(W0.alloc (.cells #[] 23)).heap.size=W0.heap.size+1:=by simp
 have C2:=(d0.ex ((asF W0).alloc (.cells #[] 23))).c2;rw[<-s1]at wO;go_wp2_with fail
 generalize W0.alloc (.cells #[] 23)=W1 at*;have Bc:=GE.more (B':=w.heap.size) wO (by omega) (amX _);go_loopw [5,12] (λs5 s12 wr=>∃k:Nat,k<=R/\s12=.int .i64 k/\GE OH 23 wr w.heap.size wr.heap.size s5 (out.take k)/\Ex w wr) (λ_ s12 _=>R-(intOf s12).toNat)
 case atStart=>exact⟨0,am4 _,rfl,by first|exact Bc|(rw[<-s0];exact Bc)|simpa[s0]using Bc,y1⟩
 case round=>
  rename World=>wb;clear Bc wO y0 y1 s1 s0 d0 C2;obtain⟨k,hk,rfl,hge,hex⟩:=hrel;by_cases KH:k<R
  .obtain⟨g0,ad_,P,pc,m,rfl,hc1,cO⟩:=cF wb k KH hex;have hsz:=hex.size;have HOL:=amW hol;clear cF hol;go_wp2_with fail
   refine(cO _ (asF _)).mono ?_;rintro e w1 ⟨x,hx,v,rfl,ho,x1⟩;have z1:=x1.size;have HT:=amW (show out.take (k+1)=out.take k++[x] by rw[am_,hx];rfl);have htl:=aoc k out;obtain⟨v',w2,hrun,Ns,hE2⟩:=UA (hge.ex x1) z1 ho (amX _) z1 (amX _) hsz (by omega);rw[<-HT.out]at Ns;have x2:=hE2 w (hex.trans x1) (amX _);clear hE2 HT htl cO hge hx;obtain⟨_,_,rfl,_⟩:=ho.form';go_wp2_with (at_builtin;refine wpList_append_run rfl _ _ _ rfl rfl rfl hrun ?_)
   go_roundw;case rel=>exact⟨k+1,by omega,by go_num,Ns,x2⟩
   case measure=>simp[intOf];omega
  .obtain rfl:R=k:=by omega
   rw[ann (by omega)]at hge;obtain⟨G,C,rfl,hM⟩:=hge.aax (by omega);rw[hol];clear cF hol;go_wp2_with fail
   go_ret;exact⟨G,C,rfl,hM,hex⟩
theorem C8{r:Nat}{rows:List (List Int)}(hw:aZ (l+r) rows):aZ (r+l) (fQ l rows):=λv hv=>by obtain⟨u,hu,rfl⟩:=am3.1 hv;have:=hw u hu;rw[am9,anp,am8];omega
theorem Gx{rows:List (List Int)}(he:kF p rows):kF p (fQ l rows):=λv hv=>by obtain⟨u,hu,rfl⟩:=am3.1 hv;have h:=anl.1 (he u hu);exact anl.2 λx hx=>(anu.1 hx).elim (λq=>h x (aoi q)) λq=>h x (an5 q)
theorem JH(p:Int)(l r:Nat)(rows:List (List Int))(A:Option Addr)(c:Nat)(w:World)(hF:aj p=true)(h:iw w A rows)(hw:aZ (l+r) rows)(he:kF p rows)(hn:l+r<=1000)(hR:rows.length<=1000):
 Calls prog 131 #[.int .i64 p,.agg #[.int .i64 l,.int .i64 r,.slice A rows.length c]] w λe w'=>∃A' c',e=.returned (.agg #[.int .i64 r,.int .i64 l,.slice A' ((aA p).aB (r+l) (fQ l rows)).length c'])/\iw w' A' ((aA p).aB (r+l) (fQ l rows))/\Ex w w':=by
 have Yr:∀(fn:Fn) (first cap:Array Value) (w:World),(Instr.makeFunc fn first cap).run prog w=.ok (.func fn first cap) w:=λ_ _ _ _=>rfl
 obtain⟨x0,d0,W0,hW0⟩:=VB.al w 112 #[.int .i64 l,.int .i64 r,.slice A rows.length c];have s0:(w.alloc (.cells #[.int .i64 l,.int .i64 r,.slice A rows.length c] 112)).heap.size=w.heap.size+1:=by simp
 have cE:∀W,Ex (w.alloc (.cells #[.int .i64 l,.int .i64 r,.slice A rows.length c] 112)) W->Calls prog 151 #[.agg #[.int .i64 l,.int .i64 r,.slice A rows.length c],.func (.func 152) #[] #[.pointer (some ⟨w.heap.size,0,none⟩)]] W λe w'=>∃A' c',e=.returned (.slice A' rows.length c')/\pI w' A' (fQ l rows)/\Ex W w':=
  λW hW=>Y5 l r w.heap.size rows A c W ((h.ex x0).ex hW) hw hn hR (d0.ex hW)
 have cR:∀(W:World) (A':Option Addr) (c':Nat),pI W A' (fQ l rows)->Calls prog 129 #[.int .i64 p,.int .i64 r,.int .i64 l,.slice A' rows.length c'] W λe w'=>∃A2 c2,e=.returned (.agg #[.int .i64 r,.int .i64 l,.slice A2 ((aA p).aB (r+l) (fQ l rows)).length c2])/\iw w' A2 ((aA p).aB (r+l) (fQ l rows))/\Ex W w':=λW A' c' hM=>by have:=nN p r l (fQ l rows) A' c' W hF hM (C8 hw) (Gx he) (by omega) (by unfold fQ;rw[am5];exact hR);rwa[show(fQ l rows).length=rows.length by unfold fQ;rw[am5]]at this
 rw[hW0]at x0 d0 s0 cE;generalize(aA p).aB (r+l) (fQ l rows)=RR at*;generalize fQ l rows=FR at*;obtain⟨m,hm⟩:=xq rows.length;rw[hm]at cE cR d0 hW0⊢;obtain⟨x1,d1,W1,hW1⟩:=VB.al W0 112 #[.int .i64 0,.int .i64 0,.slice none 0 0];have s1:(W0.alloc (.cells #[.int .i64 0,.int .i64 0,.slice none 0 0] 112)).heap.size=W0.heap.size+1:=by simp
 have D0:=d0.ex x1;rw[hW1]at x1 d1 s1 D0;rw[s0]at d1 s1;have X1:=x0.trans x1;have HS:∀W,aJ (w.heap.size+1) W1 W->(W.cell? ⟨w.heap.size,0,none⟩=some (.int .i64 l)/\W.cell? ⟨w.heap.size,1,none⟩=some (.int .i64 r)/\W.cell? ⟨w.heap.size,2,none⟩=some (.slice A m c)):=λW hW=>
  have hv':=VB.aM D0 hW (by omega)
  ⟨hv'.c0,hv'.c1,hv'.c2⟩
 have cE:=cE W1.drew x1.drew;clear hm hF h hw he hn hR D0;go_enter Tryz.func131,Tryz.ntmps131
 go_wp2_with fail
 clear hW0 hW1;go_region_held3 (λW=>W.cell? ⟨w.heap.size,0,none⟩=some (.int .i64 l)/\W.cell? ⟨w.heap.size,1,none⟩=some (.int .i64 r)/\W.cell? ⟨w.heap.size,2,none⟩=some (.slice A m c)) (first
  |(exact HS _ z4)|(exact HS _ (aJ.aN y3))|(exact HS _ (aJ.aN y2))|(exact HS _ (aJ.aN (asF W1).drew))|(exact HS _ (aJ.refl _ W1))) (first
  |(go_at_call 151
    refine cE.mono ?_;rintro e w2 ⟨A2,c2,rfl,r2,x2'⟩;have y2:=(asF W1).drew.trans x2')
  |(go_at_call 129
    refine(cR _ _ _ r2).mono ?_;rintro e w3 ⟨A3,c3,rfl,r3,x3'⟩;have y3:=y2.trans x3';have dz:=d1.ex y3;obtain⟨dd,zz⟩:=dz.ru (.int .i64 r) (.int .i64 l) (.slice A3 RR.length c3);have z4:=(aJ.aN y3).trans zz;obtain⟨u0,u1,u2⟩:=dz.d3;obtain⟨k0,k1,k2⟩:=dz.z3;obtain⟨C0,C1,C2⟩:=dd.d3;have eF:=(X1.trans y3).aM zz (by omega);have rF:=r3.st dz (by decide) zz))
 all_goals
  go_wp2_with fail
  refine ane (v:=.agg #[.int .i64 r,.int .i64 l,.slice A3 RR.length c3]) (by simp[results,Tryz.results131,go_sem,C0,C1,C2]) rfl ?_;exact⟨A3,c3,rfl,rF,eF⟩
def H_(n:Nat):List (List Int):=(range n).map λi=>(replicate n (0:Int)).set i 1++(replicate n 0).set i 1
theorem Qc{xs:List (List Int)}(h:GE OH 23 w B H v xs)(hH:H<=w.heap.size){u:Value}{x:List Int}(hx:OI w a b u x)(ha:H<=a)(hab:a<=b)(hb:b<=w.heap.size)(hB:B<=H)(hl:xs.length+1<=1099511627776):
 ∃v' w',(Builtin.append_ #[68,68] 68 #[v,.slice (some ⟨w.heap.size,0,none⟩) 1 1]).run prog (w.alloc (.cells #[u] 23))=.ok v' w'/\
  GE OH 23 w' B w'.heap.size v' (xs++[x])/\(∀k,k<B->k<w.heap.size->w'.heap[k]?=w.heap[k]?)/\∀b',Ex b' w->b'.heap.size<=B->Ex b' w':=by
 obtain⟨i,hi,hz,hs,hby⟩:=anA mH;obtain⟨v',w',h1,h2,h3,_,_,h6⟩:=GE.push OH Tryz.underlying68 hi hz hs hby rfl (by decide) (by omega) h hH (u:=[u]) (x:=x) (a:=a) (b:=b) ⟨u,rfl,hx⟩ ha hab hb hB hl;exact⟨v',w',h1,h2,λk hk hl=>h3.block k hl λe=>by have:=h.own k e.symm;omega,h6⟩
theorem sH(n:Nat)(w:World)(hn:n<=1000):
 Calls prog 128 #[.int .i64 n] w λe w'=>∃v,e=.returned (.agg #[.int .i64 n,.int .i64 n,v])/\GE OH 23 w' w.heap.size w'.heap.size v (H_ n)/\Ex w w':=by
 obtain⟨W0,hW0,y0,d0,s0⟩:=VB.an w 112 #[.int .i64 0,.int .i64 0,.slice none 0 0] rfl;obtain⟨W1,hW1,y1,dz,s1⟩:=VB.an W0 112 #[.int .i64 0,.int .i64 0,.slice none 0 0] s0;obtain⟨d1,zz⟩:=dz.ru (.int .i64 n) (.int .i64 n) (.slice none 0 0);obtain⟨u0,u1,u2⟩:=dz.d3;obtain⟨k0,k1,k2⟩:=dz.z3;have D0:=VB.aM (d0.ex y1) zz (by omega);have Y1:=(y0.trans y1).aM zz (by omega);have S1:w.heap.size+1+1<=(((W1.setCell ⟨w.heap.size+1,0,none⟩ (.int .i64 n)).setCell ⟨w.heap.size+1,1,none⟩ (.int .i64 n)).setCell ⟨w.heap.size+1,2,none⟩ (.slice none 0 0)).heap.size:=by have:=zz.size;omega
 clear y0 y1 d0;go_enter Tryz.func128,Tryz.ntmps128
 go_wp2_with fail
 clear hW0 hW1 k0 k1 k2 u0 u1 u2 dz;go_loopw [9] (λs9 wr=>∃(k:Nat) (v:Value),k<=n/\s9=.int .i64 k/\VB wr w.heap.size 112 #[.int .i64 0,.int .i64 0,.slice none 0 0]/\VB wr (w.heap.size+1) 112 #[.int .i64 n,.int .i64 n,v]/\GE OH 23 wr (w.heap.size+1+1) wr.heap.size v ((H_ n).take k)/\w.heap.size+1+1<=wr.heap.size/\Ex w wr) (λs9 _=>n-(intOf s9).toNat)
 case atStart=>exact⟨0,_,am4 _,rfl,D0,d1,GE.nil _ _ _ _ _,S1,Y1⟩
 case round=>
  rename World=>wi;clear D0 d1 Y1 zz S1 s0 s1 W0 W1;obtain⟨k,v,hk,rfl,V0,V1,hge,hsz,hex⟩:=hrel;have hil:(H_ n).length=n:=by unfold H_;rw[am5,anK]
  by_cases hkn:k<n
  .obtain⟨u,hu⟩:=xq ((replicate n (0:Int)).set k 1);have zT:u.length=n:=by rw[<-hu,anj,anD]
   have HT:=amW (show(H_ n).take (k+1)=(H_ n).take k++[u++u] by
    rw[am_,am0 (by omega)];simp[H_,hu])
   have htl:=aoc k (H_ n);have cU:∀W,Calls prog 149 #[.int .i64 n,.int .i64 k] W λe w'=>∃g,e=.returned (.slice (some ⟨g,0,none⟩) n n)/\W.heap.size<=g/\dH w' g u/\Ex W w':=λW=>by rw[<-hu];exact Xy n k (by omega) hkn W
   have cJ:∀(W:World) (ga gb:Nat),dH W ga u->dH W gb u->Calls prog 27 #[.slice (some ⟨W.heap.size,0,none⟩) 2 2] (W.alloc (.cells #[.slice (some ⟨ga,0,none⟩) n n,.slice (some ⟨gb,0,none⟩) n n] 23)) λe w'=>LIo (W.alloc (.cells #[.slice (some ⟨ga,0,none⟩) n n,.slice (some ⟨gb,0,none⟩) n n] 23)) (u++u) e w':=λW ga gb ha hb=>by obtain⟨hx,hv⟩:=VB.xn W 23 #[.slice (some ⟨ga,0,none⟩) n n,.slice (some ⟨gb,0,none⟩) n n];have:=uh (some ⟨W.heap.size,0,none⟩) 2 [u,u] _ (pI.two (by rw[zT];exact hv.c0) (by rw[zT];exact hv.c1) ((ha.ex hx).rd (by omega)) ((hb.ex hx).rd (by omega))) (by simp;omega);simpa using this
   have hHl:((H_ n).take k).length+1<=1099511627776:=by omega
   obtain⟨A,m,c,rfl⟩:∃A m c,v=.slice A m c:=by obtain⟨A,c,e⟩:=hge.lu;exact⟨A,_,c,e⟩
   have l0:=V1.c2;generalize u++u=uu at*;have HIL:=amW hil;clear hu zT hil htl;go_wp2_with fail
   go_region_law (first
    |(go_simp
      go_at_call 149
      refine(cU _).mono ?_;rintro e wu ⟨gu,rfl,hgu,bu,xu⟩
      first
      |(have y2:=y1.trans xu
        have b2:=bu;have b1:=b1.ex xu;have l2:=(V1.ex y2).c2;have lA:=λu=>(V1.ex (y2.alloc (.cells u 23))).c2)
      |(have y1:=(asF wi).drew.trans xu
        have b1:=bu;have l1:=(V1.ex y1).c2))
    |(refine b_ rfl _ _ _ rfl rfl rfl hrun ?_)
    |(go_simp
      go_at_call 27
      first
      |refine(cJ _ _ _ b1 b2).mono ?_
      |refine(cJ _ _ _ b2 b1).mono ?_
      rintro e w9 ⟨v9,rfl,o9,x9⟩;have y9:=(y2.alloc _).trans x9;have z9:=y9.size;have l9:=(V1.ex y9).c2;have lB:=λu=>(V1.ex (y9.alloc (.cells u 23))).c2
      obtain⟨v',Di,hrun,BI,hk10,Gp⟩:=Qc (hge.ex y9) z9 o9 (anb y2.size (by simp)) x9.size (amX _) hsz hHl;rw[<-HT.out]at BI;obtain⟨A5,m5,c5,rfl⟩:∃A m c,v'=.slice A m c:=by obtain⟨A,c,e⟩:=BI.lu;exact⟨A,_,c,e⟩
      have x10:=Gp w (hex.trans y9) (by omega);have afV:VB Di w.heap.size 112 #[.int .i64 0,.int .i64 0,.slice none 0 0]:=(hk10 _ (by omega) (by omega)).trans (V0.ex y9);have VN:VB Di (w.heap.size+1) 112 #[.int .i64 n,.int .i64 n,.slice A m c]:=(hk10 _ (by omega) (by omega)).trans (V1.ex y9);have q10:=VN.c2;have f10:=VN.frozen 2;obtain⟨_,_,rfl,_⟩:=o9.form'))
   all_goals
    have e6:aJ (w.heap.size+1) Di (Di.setCell ⟨w.heap.size+1,2,none⟩ (.slice A5 m5 c5)):=(aJ.refl _ Di).setCell (p:=⟨w.heap.size+1,2,none⟩) rfl _;have V16:VB (Di.setCell ⟨w.heap.size+1,2,none⟩ (.slice A5 m5 c5)) (w.heap.size+1) 112 #[.int .i64 n,.int .i64 n,.slice A5 m5 c5]:=VN.aX 2 _;have V06:=VB.aM afV e6 (by omega);have ge6:=(BI.k1 e6 (by omega)).more (amX _) (H':=(Di.setCell ⟨w.heap.size+1,2,none⟩ (.slice A5 m5 c5)).heap.size) (by simp);have x6:=x10.aM e6 (by omega);have z10:=VN.lt;have z6:w.heap.size+1+1<=(Di.setCell ⟨w.heap.size+1,2,none⟩ (.slice A5 m5 c5)).heap.size:=by simp;omega
    clear hrun BI Gp hk10 cU cJ HT hge V0 V1;go_wp2_with fail
    go_roundw;case rel=>exact⟨k+1,_,by omega,by go_num,V06,V16,ge6,z6,x6⟩
    case measure=>simp[intOf];omega
  .obtain rfl:n=k:=by omega
   rw[ann (by omega)]at hge;obtain⟨q0,q1,q2⟩:=V1.d3;obtain⟨dd,zz⟩:=V0.ru (.int .i64 n) (.int .i64 n) v;obtain⟨u0,u1,u2⟩:=V0.d3;obtain⟨k0,k1,k2⟩:=V0.z3;obtain⟨C0,C1,C2⟩:=dd.d3;have eF:=hex.aM zz (amX _);have gF:=(hge.k1 zz (by omega)).more (anb (Nat.le_succ _) (Nat.le_succ _)) zz.size;obtain⟨A,m,c,rfl⟩:∃A m c,v=.slice A m c:=by obtain⟨A,c,e⟩:=hge.lu;exact⟨A,_,c,e⟩
   clear hge V0 V1 hil;go_wp2_with fail
   refine ane (v:=.agg #[.int .i64 n,.int .i64 n,.slice A m c]) (by simp[results,Tryz.results128,go_sem,C0,C1,C2]) rfl ?_;exact⟨_,rfl,gF,eF⟩
theorem uS(hF:aj p=true){rows:List (List Int)}(hw:aZ n rows)(he:kF p rows)(hn:n<=1000):∀r∈(aA p).aB n rows,r.length<=1099511627776:=λr hr=>by have:=(nJ hF hw he).1.len r hr;omega
theorem DR(k:Int):∃l r:Nat,gw k=((l:Int),(r:Int))/\l+r<=3:=by
 unfold gw;split
 .exact⟨1,2,rfl,by omega⟩
 .split
  .exact⟨1,0,rfl,by omega⟩
  .split
   .exact⟨2,1,rfl,by omega⟩
   .split
    .exact⟨0,1,rfl,by omega⟩
    .exact⟨1,1,rfl,by omega⟩
theorem Je(p:Int)(n:Nat)(nm:ByteArray)(w:World)(hn:n<=1000):
 Calls prog 94 #[.int .i64 p,.agg #[.int .i64 1,.int .i64 n,.string nm]] w λe w'=>∃A c,e=.returned (.agg #[.int .i64 n,.int .i64 n,.slice A (H_ n).length c])/\pI w' A (H_ n)/\Ex w w':=by
 obtain⟨W0,hW0,x0,d0,s0⟩:=VB.an w 82 #[.int .i64 1,.int .i64 n,.string nm] rfl;obtain⟨W1,hW1,x1,d1,s1⟩:=VB.an W0 112 #[.int .i64 0,.int .i64 0,.slice none 0 0] s0;have D0:=d0.ex x1;have X1:=x0.trans x1;obtain⟨n0,n1⟩:=D0.d2;have cI:=sH n W1 hn;have hil:=amW (show(H_ n).length=n by unfold H_;rw[am5,anK]);go_enter Tryz.func94,Tryz.ntmps94
 go_wp2_with fail
 refine cI.mono ?_;rintro e w2 ⟨y,rfl,g2,x2⟩;have dz:=d1.ex x2;obtain⟨dd,zz⟩:=dz.ru (.int .i64 n) (.int .i64 n) y;obtain⟨u0,u1,u2⟩:=dz.d3;obtain⟨k0,k1,k2⟩:=dz.z3;obtain⟨C0,C1,C2⟩:=dd.d3;have eF:=(X1.trans x2).aM zz (by omega);obtain⟨A,c,rfl,hM⟩:=(g2.k1 zz (by omega)).aax (by have:=hil.out;omega);clear g2 cI;go_wp2_with fail
 refine ane (v:=.agg #[.int .i64 n,.int .i64 n,.slice A (H_ n).length c]) (by simp[results,Tryz.results94,go_sem,C0,C1,C2]) rfl ?_;exact⟨A,c,rfl,hM,eF⟩
theorem DJ(p v:Int)(nm:ByteArray)(w:World)(hF:aj p=true):
 Calls prog 94 #[.int .i64 p,.agg #[.int .i64 2,.int .i64 v,.string nm]] w λe w'=>∃A c,e=.returned (.agg #[.int .i64 2,.int .i64 2,.slice A ((aA p).aB 4 [[1,0,0,1],[0,1,1,0]]).length c])/\pI w' A ((aA p).aB 4 [[1,0,0,1],[0,1,1,0]])/\Ex w w':=by
 have h2:=au hF;have hw4:aZ 4 [[1,0,0,1],[0,1,1,(0:Int)]]:=λu hu=>by
  rcases ani.1 hu with rfl|hu
  .rfl
  .rw[ank.1 hu];rfl
 have qO:kF p [[1,0,0,1],[0,1,1,0]]:=λu hu=>by
  have e1:fe p 1=true:=by simp[fe];omega
  have e0:fe p 0=true:=by simp[fe];omega
  rcases ani.1 hu with rfl|hu
  .simp[av,e1,e0]
  .rw[ank.1 hu];simp[av,e1,e0]
 obtain⟨W0,hW0,x0,d0,s0⟩:=VB.an w 82 #[.int .i64 2,.int .i64 v,.string nm] rfl;obtain⟨W1,hW1,x1,d1,s1⟩:=VB.an W0 112 #[.int .i64 0,.int .i64 0,.slice none 0 0] s0;have D0:=d0.ex x1;have X1:=x0.trans x1;have n0:=D0.c0;have b1:=dH.new W1 [1,0,0,1];have y1:=(asF W1).alloc (aO [1,0,0,1]);obtain⟨W2,hW2⟩:=xq (W1.alloc (aO [1,0,0,1]));have s2:W2.heap.size=w.heap.size+1+1+1:=by rw[<-hW2];simp[s1]
 rw[hW2]at b1 y1;have b2:=dH.new W2 [0,1,1,0];have y2:=(asF W2).alloc (aO [0,1,1,0]);obtain⟨W3,hW3⟩:=xq (W2.alloc (aO [0,1,1,0]));have s3:W3.heap.size=w.heap.size+1+1+1+1:=by rw[<-hW3];simp[s2]
 rw[hW3]at b2 y2;rw[s2]at b2;rw[s1]at b1;obtain⟨y3,v4,W4,Vd⟩:=VB.al W3 23 #[.slice (some ⟨w.heap.size+1+1,0,none⟩) 4 4,.slice (some ⟨w.heap.size+1+1+1,0,none⟩) 4 4];rw[Vd]at y3 v4;rw[s3]at v4;have hM:pI W4 (some ⟨w.heap.size+1+1+1+1,0,none⟩) [[1,0,0,1],[0,1,1,0]]:=pI.two (v4.c0) (v4.c1) (((b1.ex y2).ex y3).rd (by simp)) ((b2.ex y3).rd (by simp));have cR:=nN p 2 2 [[1,0,0,1],[0,1,1,0]] _ 2 W4 hF hM hw4 qO (by omega) (by simp);rw[show 2+2=4 from rfl]at cR;have YJ:=uS hF hw4 qO (by omega);generalize(aA p).aB 4 [[1,0,0,1],[0,1,1,0]]=RR at*;have Y:=(y1.trans y2).trans y3;clear hM hw4 qO b1 b2 y1 y2 y3 v4;go_enter Tryz.func94,Tryz.ntmps94
 go_wp2_with fail
 subst Vd hW3 hW2;refine cR.mono ?_;rintro e w2 ⟨A,c,rfl,r2,x2⟩;have dz:=d1.ex (Y.trans x2);obtain⟨dd,zz⟩:=dz.ru (.int .i64 2) (.int .i64 2) (.slice A RR.length c);obtain⟨u0,u1,u2⟩:=dz.d3;obtain⟨k0,k1,k2⟩:=dz.z3;obtain⟨C0,C1,C2⟩:=dd.d3;have eF:=(X1.trans (Y.trans x2)).aM zz (by omega);have rF:=r2.st dz (by decide) zz;clear cR;go_wp2_with fail
 refine ane (v:=.agg #[.int .i64 2,.int .i64 2,.slice A RR.length c]) (by simp[results,Tryz.results94,go_sem,C0,C1,C2]) rfl ?_;exact⟨A,c,rfl,rF.rdm YJ,eF⟩
theorem FQ(p k v:Int)(nm:ByteArray)(l r:Nat)(w:World)(hF:aj p=true)(hk:bN 3 7 k=true)(hv:k=7->fe p v=true)(hg:gw k=((l:Int),(r:Int))):
 Calls prog 94 #[.int .i64 p,.agg #[.int .i64 k,.int .i64 v,.string nm]] w λe w'=>∃A c,e=.returned (.agg #[.int .i64 l,.int .i64 r,.slice A (dX p k v).length c])/\pI w' A (dX p k v)/\Ex w w':=by
 have NH:=Nb (p:=p) (v:=v) hk;obtain⟨NJ,Bc,gl⟩:=CX hF hk hv;rw[hg]at NH NJ;have NH:(aA p).aB (l+r) (jF k v)=dX p k v:=NH;have NJ:aZ (l+r) (jF k v):=NJ;have hlr:l+r<=3:=by obtain⟨l',r',e,h⟩:=DR k;rw[hg]at e;injection e with e1 e2;omega
 have YJ:=uS hF NJ Bc (by omega);have cR:∀(W:World) (A:Option Addr) (c:Nat),pI W A (jF k v)->Calls prog 129 #[.int .i64 p,.int .i64 l,.int .i64 r,.slice A (jF k v).length c] W λe w'=>∃A' c',e=.returned (.agg #[.int .i64 l,.int .i64 r,.slice A' (dX p k v).length c'])/\iw w' A' (dX p k v)/\Ex W w':=λW A c h=>by have:=nN p l r (jF k v) A c W hF h NJ Bc (by omega) (by omega);rwa[NH]at this
 rw[NH]at YJ;have hk3:3<=k/\k<=7:=by simpa[bN]using hk
 have cW:=λW=>jE k (by simp[bN];omega) W
 rw[hg]at cW;have cG:=λW=>oL k v W
 have hb1:(k==1)=false:=by simp;omega
 have hb2:(k==2)=false:=by simp;omega
 have hb9:¬(9<=k):=by omega
 generalize dX p k v=LZ at*;generalize jF k v=GZ at*;clear NH NJ Bc gl hk hk3 hF hv hg hlr;obtain⟨W0,hW0,x0,d0,s0⟩:=VB.an w 82 #[.int .i64 k,.int .i64 v,.string nm] rfl;obtain⟨W1,hW1,x1,d1,s1⟩:=VB.an W0 112 #[.int .i64 0,.int .i64 0,.slice none 0 0] s0;have D0:=d0.ex x1;have X1:=x0.trans x1;obtain⟨n0,n1⟩:=D0.d2;go_enter Tryz.func94,Tryz.ntmps94
 go_wp2_with fail
 refine(cW _).mono ?_;rintro e w2 ⟨rfl,x2⟩;have z2:=x2.size;obtain⟨xw,dw,W3,hW3⟩:=VB.al w2 127 #[.int .i64 l,.int .i64 r];rw[hW3]at xw dw;have y3:=x2.trans xw;have d3:=d1.ex y3;have HS:∀W,aJ (w.heap.size+1) W3 W->(W.cell? ⟨w.heap.size,0,none⟩=some (.int .i64 k)/\W.cell? ⟨w.heap.size,1,none⟩=some (.int .i64 v)/\W.cell? ⟨w2.heap.size,0,none⟩=some (.int .i64 l)/\W.cell? ⟨w2.heap.size,1,none⟩=some (.int .i64 r)):=λW hW=>
  have h1:=VB.aM (D0.ex y3) hW (by omega);have h2:=VB.aM dw hW (by omega)
  ⟨h1.c0,h1.c1,h2.c0,h2.c1⟩
 have X3:=X1.trans y3;obtain⟨dw0,dw1⟩:=dw.d2;clear cW hW0 hW1 D0 d1 dw;go_wp2_with fail
 clear hW3;go_region_held3 (λW=>W.cell? ⟨w.heap.size,0,none⟩=some (.int .i64 k)/\W.cell? ⟨w.heap.size,1,none⟩=some (.int .i64 v)/\W.cell? ⟨w2.heap.size,0,none⟩=some (.int .i64 l)/\W.cell? ⟨w2.heap.size,1,none⟩=some (.int .i64 r)) (first
  |(exact HS _ z9)|(exact HS _ (aJ.aN y5))|(exact HS _ (aJ.aN y4))|(exact HS _ (aJ.aN (asF W3).drew))|(exact HS _ (aJ.refl _ W3))) (first
  |(go_at_call 132
    refine(cG _).mono ?_;rintro e w4 ⟨A4,c4,rfl,r4,x4⟩;have y4:=(asF W3).drew.trans x4)
  |(go_at_call 129
    refine(cR _ _ _ r4).mono ?_;rintro e w9 ⟨A9,c9,rfl,r9,x9⟩;have y5:=y4.trans x9;have dz:=d3.ex y5;obtain⟨dd,zz⟩:=dz.ru (.int .i64 l) (.int .i64 r) (.slice A9 LZ.length c9);have z9:=(aJ.aN y5).trans zz;obtain⟨u0,u1,u2⟩:=dz.d3;obtain⟨k0,k1,k2⟩:=dz.z3;obtain⟨C0,C1,C2⟩:=dd.d3;have eF:=(X3.trans y5).aM zz (by omega);have rF:=r9.st dz (by decide) zz))
 all_goals
  go_wp2_with fail
  refine ane (v:=.agg #[.int .i64 l,.int .i64 r,.slice A9 LZ.length c9]) (by simp[results,Tryz.results94,go_sem,C0,C1,C2]) rfl ?_;exact⟨A9,c9,rfl,rF.rdm YJ,eF⟩
theorem Jf(p k v:Int)(nm:ByteArray)(l r:Nat)(w:World)(hF:aj p=true)(hk:bN 9 13 k=true)(hv:k=13->fe p v=true)(hg:gw (k-6)=((l:Int),(r:Int))):
 Calls prog 94 #[.int .i64 p,.agg #[.int .i64 k,.int .i64 v,.string nm]] w λe w'=>∃A c,e=.returned (.agg #[.int .i64 r,.int .i64 l,.slice A (dX p k v).length c])/\pI w' A (dX p k v)/\Ex w w':=by
 have hk3:9<=k/\k<=13:=by simpa[bN]using hk
 have NH:=Jd (p:=p) (v:=v) hF hk hv;obtain⟨NJ,Bc,gl⟩:=CX (k:=k-6) (v:=v) hF (by simp[bN];omega) (λe=>hv (by omega));rw[hg]at NH NJ;have NH:(aA p).aB (r+l) (fQ l ((aA p).aB (l+r) (jF (k-6) v)))=dX p k v:=NH;have NJ:aZ (l+r) (jF (k-6) v):=NJ;have hlr:l+r<=3:=by obtain⟨l',r',e,h⟩:=DR (k-6);rw[hg]at e;injection e with e1 e2;omega
 have cR:∀(W:World) (A:Option Addr) (c:Nat),pI W A (jF (k-6) v)->Calls prog 129 #[.int .i64 p,.int .i64 l,.int .i64 r,.slice A (jF (k-6) v).length c] W λe w'=>∃A' c',e=.returned (.agg #[.int .i64 l,.int .i64 r,.slice A' ((aA p).aB (l+r) (jF (k-6) v)).length c'])/\iw w' A' ((aA p).aB (l+r) (jF (k-6) v))/\Ex W w':=λW A c h=>
  nN p l r (jF (k-6) v) A c W hF h NJ Bc (by omega) (by omega)
 obtain⟨qP,qE⟩:=nJ hF NJ Bc;have qL:=pQ (aA p) (l+r) (jF (k-6) v);have YJ:=uS hF (C8 qP.len) (Gx qE) (by omega);rw[NH]at YJ;have cK:∀(W:World) (A:Option Addr) (c:Nat),iw W A ((aA p).aB (l+r) (jF (k-6) v))->Calls prog 131 #[.int .i64 p,.agg #[.int .i64 l,.int .i64 r,.slice A ((aA p).aB (l+r) (jF (k-6) v)).length c]] W λe w'=>∃A' c',e=.returned (.agg #[.int .i64 r,.int .i64 l,.slice A' (dX p k v).length c'])/\iw w' A' (dX p k v)/\Ex W w':=λW A c h=>by have:=JH p l r _ A c W hF h qP.len qE (by omega) (by omega);rwa[NH]at this
 have cM:=λW=>DF k (by simp[bN];omega) W
 have cW:=λW=>jE (k-6) (by simp[bN];omega) W
 rw[hg]at cW;have cG:=λW=>oL (k-6) v W
 have hb1:(k==1)=false:=by simp;omega
 have hb2:(k==2)=false:=by simp;omega
 have hb9:(9<=k):=by omega
 generalize dX p k v=LZ at*;generalize(aA p).aB (l+r) (jF (k-6) v)=QZ at*;generalize jF (k-6) v=GZ at*;generalize k-6=k6 at*;clear NH NJ Bc gl hk hk3 hF hv hg hlr qP qE qL;obtain⟨W0,hW0,x0,d0,s0⟩:=VB.an w 82 #[.int .i64 k,.int .i64 v,.string nm] rfl;obtain⟨W1,hW1,x1,d1,s1⟩:=VB.an W0 112 #[.int .i64 0,.int .i64 0,.slice none 0 0] s0;have D0:=d0.ex x1;have X1:=x0.trans x1;obtain⟨n0,n1⟩:=D0.d2;go_enter Tryz.func94,Tryz.ntmps94
 go_wp2_with fail
 refine(cM _).mono ?_;rintro e _ ⟨rfl,rfl⟩;go_wp2_with fail
 refine(cW _).mono ?_;rintro e w2 ⟨rfl,x2⟩;have z2:=x2.size;obtain⟨xw,dw,W3,hW3⟩:=VB.al w2 127 #[.int .i64 l,.int .i64 r];rw[hW3]at xw dw;have y3:=x2.trans xw;have d3:=d1.ex y3;have HS:∀W,aJ (w.heap.size+1) W3 W->(W.cell? ⟨w.heap.size,0,none⟩=some (.int .i64 k)/\W.cell? ⟨w.heap.size,1,none⟩=some (.int .i64 v)/\W.cell? ⟨w2.heap.size,0,none⟩=some (.int .i64 l)/\W.cell? ⟨w2.heap.size,1,none⟩=some (.int .i64 r)):=λW hW=>
  have h1:=VB.aM (D0.ex y3) hW (by omega);have h2:=VB.aM dw hW (by omega)
  ⟨h1.c0,h1.c1,h2.c0,h2.c1⟩
 have X3:=X1.trans y3;obtain⟨dw0,dw1⟩:=dw.d2;clear cW hW0 hW1 D0 d1 dw;go_wp2_with fail
 clear hW3;go_region_held3 (λW=>W.cell? ⟨w.heap.size,0,none⟩=some (.int .i64 k)/\W.cell? ⟨w.heap.size,1,none⟩=some (.int .i64 v)/\W.cell? ⟨w2.heap.size,0,none⟩=some (.int .i64 l)/\W.cell? ⟨w2.heap.size,1,none⟩=some (.int .i64 r)) (first
  |(exact HS _ z9)|(exact HS _ (aJ.aN y6))|(exact HS _ (aJ.aN y5))|(exact HS _ (aJ.aN y4))|(exact HS _ (aJ.aN (asF W3).drew))|(exact HS _ (aJ.refl _ W3))) (first
  |(go_at_call 130
    refine(cM _).mono ?_;rintro e _ ⟨rfl,rfl⟩)
  |(go_at_call 132
    refine(cG _).mono ?_;rintro e w4 ⟨A4,c4,rfl,r4,x4⟩;have y4:=(asF W3).drew.trans x4)
  |(go_at_call 129
    refine(cR _ _ _ r4).mono ?_;rintro e w5 ⟨A5,c5,rfl,r5,x5⟩;have y5:=y4.trans x5)
  |(go_at_call 131
    refine(cK _ _ _ r5).mono ?_;rintro e w9 ⟨A9,c9,rfl,r9,x9⟩;have y6:=y5.trans x9;have dz:=d3.ex y6;obtain⟨dd,zz⟩:=dz.ru (.int .i64 r) (.int .i64 l) (.slice A9 LZ.length c9);have z9:=(aJ.aN y6).trans zz;obtain⟨u0,u1,u2⟩:=dz.d3;obtain⟨k0,k1,k2⟩:=dz.z3;obtain⟨C0,C1,C2⟩:=dd.d3;have eF:=(X3.trans y6).aM zz (by omega);have rF:=r9.st dz (by decide) zz))
 all_goals
  go_wp2_with fail
  refine ane (v:=.agg #[.int .i64 r,.int .i64 l,.slice A9 LZ.length c9]) (by simp[results,Tryz.results94,go_sem,C0,C1,C2]) rfl ?_;exact⟨A9,c9,rfl,rF.rdm YJ,eF⟩
theorem zN(x:Rln)(A:Option Addr)(c:Nat)(w:World)(h:pI w A x.b):
 Calls prog 93 #[.agg #[.int .i64 x.l,.int .i64 x.r,.slice A x.b.length c]] w λe w'=>∃y,e=.returned (.agg #[.int .i64 x.l,.int .i64 x.r,y])/\rV w' w.heap.size w'.heap.size y (oN x.b)/\Ex w w':=by
 obtain⟨l,r,rows⟩:=x;dsimp only at h⊢;obtain⟨x0,v0⟩:=VB.xn w 112 #[.int .i64 l,.int .i64 r,.slice A rows.length c];have S0:(w.alloc (.cells #[.int .i64 l,.int .i64 r,.slice A rows.length c] 112)).heap.size=w.heap.size+1:=by simp
 go_enter Tryz.func93,Tryz.ntmps93
 go_wp2_with fail
 generalize w.alloc (.cells #[.int .i64 l,.int .i64 r,.slice A rows.length c] 112)=W0 at*;obtain⟨y1,d1⟩:=VB.xn W0 29 #[.int .i64 0,.int .i64 0,.slice none 0 0];rw[S0]at d1;generalize W0.alloc (.cells #[.int .i64 0,.int .i64 0,.slice none 0 0] 29)=W1 at*;have x1:=x0.trans y1;have v1:=v0.ex y1;obtain⟨q0,q1,q2⟩:=v1.d3;have hl1:=v1.lt;have hd1:=d1.lt;have cL:=QM rows A c W1.drew (h.ex x1.drew);have z0:=d1.c0;go_region_held3 (λW=>W.cell? ⟨w.heap.size,0,none⟩=some (.int .i64 l)/\W.cell? ⟨w.heap.size,1,none⟩=some (.int .i64 r)/\W.cell? ⟨w.heap.size,2,none⟩=some (.slice A rows.length c)) (first
  |(exact⟨q0,q1,q2⟩)
  |(exact⟨af e3 q0,af e3 q1,af e3 q2⟩)
  |(exact⟨V4.c0,V4.c1,V4.c2⟩)) (first
  |(go_at_call 127
    refine cL.mono ?_;rintro e w3 ⟨v,rfl,o,x3⟩;have e3:Ex W1 w3:=(asF W1).drew.trans x3;obtain⟨A1,c1,rfl,_⟩:=o.rd;have dz:=d1.ex e3;obtain⟨u0,u1,u2⟩:=dz.d3;obtain⟨k0,k1,k2⟩:=dz.z3;obtain⟨dd,zz⟩:=dz.ru (.int .i64 l) (.int .i64 r) (.slice A1 (oN rows).length c1);have V4:=(v1.ex e3).aM zz (by omega)))
 obtain⟨C0,C1,C2⟩:=dd.d3;have o':rV w3 W1.heap.size w3.heap.size (.slice A1 (oN rows).length c1) (oN rows):=o;have s3:=x1.size;have YU:=(o'.iv (fD.a_ zz) (by omega)).more (a':=w.heap.size) (b':=w3.heap.size) (by omega) (amX _);have eF:=(x1.trans e3).aM zz (by omega);go_wp2_with fail
 refine ane (v:=.agg #[.int .i64 l,.int .i64 r,.slice A1 (oN rows).length c1]) (by simp[results,Tryz.results93,go_sem,C0,C1,C2]) rfl ?_;exact⟨_,rfl,YU.more (amX _) (aoh (by simp)),eF⟩
theorem Iu(k:Int):trim [k]=(cF k).n/\(cF k).d=[1]:=by
 by_cases h:k=0
 .subst h;exact⟨rfl,rfl⟩
 .have e:cF k=⟨[k],[1]⟩:=amZ h;rw[e];exact⟨Tr.qH (by simp) (by simpa[cf]using h),rfl⟩
theorem L9(k:Int)(w:World):Calls prog 72 #[.int .i64 k] w λe w'=>wZ w (cF k) e w':=by
 obtain⟨x1,v1⟩:=VB.xn w 51 #[.slice none 0 0,.slice none 0 0];have s1:(w.alloc (.cells #[.slice none 0 0,.slice none 0 0] 51)).heap.size=w.heap.size+1:=by simp
 go_enter Tryz.func72,Tryz.ntmps72
 go_wp2_with fail
 generalize w.alloc (.cells #[.slice none 0 0,.slice none 0 0] 51)=W1 at*;have y1:=(asF W1).alloc (aO [k]);have o1:=Own.new W1 [k];have s2:(W1.alloc (aO [k])).heap.size=w.heap.size+1+1:=by simp[s1]
 rw[s1]at o1;change Calls _ _ _ (W1.alloc (aO [k])) _;generalize W1.alloc (aO [k])=W2 at*;refine(kN (some ⟨w.heap.size+1,0,none⟩) 1 [k] W2 (o1.rd (by simp)) (by simp)).mono ?_;rintro e w2 ⟨g,c,rfl,hc,hg,ho,x2⟩;obtain⟨e1,e2⟩:=Iu k;rw[e1]at hc ho⊢;have Hd:=amW e2;clear e1 e2 o1;have z2:=x2.size;have v2:=(v1.ex y1).ex x2;have y3:=(asF w2).alloc (.cells #[.int .i64 1] 3);have o3:Own (w2.alloc (.cells #[.int .i64 1] 3)) w2.heap.size [1]:=Own.new w2 [1];have v3:=v2.ex y3;have s3:(w2.alloc (.cells #[.int .i64 1] 3)).heap.size=w2.heap.size+1:=by simp
 have akg:=ho.lt;have ho3:=ho.ex y3;obtain⟨r0,r1⟩:=v3.d2;obtain⟨k0,k1⟩:=v3.z2;obtain⟨dd,zz⟩:=v3.st2 (.slice (some ⟨g,0,none⟩) (cF k).n.length c) (.slice (some ⟨w2.heap.size,0,none⟩) 1 1);obtain⟨C0,C1⟩:=dd.d2;have hnl:(cF k).n.length<=1:=by unfold cF;split<;>simp[zF]
 have f4:=ho3.fr (B:=w.heap.size+1) (by omega) (by omega) hc;have f4:=(f4.aM zz (f4.hi.off (by omega))).more (B':=w.heap.size) (by omega);have f5:=o3.fr (B:=w.heap.size+1) (c:=1) (by simp) (by omega) (by simp);have f5:=(f5.aM zz (f5.hi.off (by omega))).more (B':=w.heap.size) (by omega);have eF:=(((x1.trans y1).trans x2).trans y3).aM zz (amX _);go_wp2_with fail
 refine ane (v:=.agg #[.slice (some ⟨g,0,none⟩) (cF k).n.length c,.slice (some ⟨w2.heap.size,0,none⟩) 1 1]) (by simp[results,Tryz.results72,go_sem,C0,C1]) rfl ?_;refine⟨some ⟨g,0,none⟩,c,some ⟨w2.heap.size,0,none⟩,1,?_,f4,?_,fq (by omega),eF⟩
 .rw[Hd.out];rfl
 .rw[Hd.out];exact f5
theorem IB(xs:List Int)(A:Option Addr)(c:Nat)(w:World)(h:Rd w A xs):
 Calls prog 42 #[.slice A xs.length c] w λe w'=>∃v,e=.returned v/\GE pq 51 w' w.heap.size w'.heap.size v (xs.map cF)/\Ex w w':=by
 have hrl:=h.len;obtain⟨L,hL⟩:=xq xs.length;have HL:=amW hL;rw[hL]at hrl⊢;clear hL;have H:=amW h;go_enter Tryz.func42,Tryz.ntmps42
 go_wp2_with fail
 go_loopw [3,8] (λo i wr=>∃j:Nat,j<=L/\i=.int .i64 j/\GE pq 51 wr w.heap.size wr.heap.size o ((xs.take j).map cF)/\Ex w wr) (λ_ i _=>L-(intOf i).toNat)
 case atStart=>exact⟨0,am4 _,rfl,GE.nil _ _ _ _ _,asF _⟩
 case round=>
  rename World=>wj;obtain⟨j,hj,rfl,hgf,hij⟩:=hrel;by_cases hlt2:j<L
  .obtain⟨g',off',y,eB,hy,hgl,hcell⟩:=(H.out.ex hij).at_ (by rw[HL.out];exact hlt2);subst eB;have HT2:=amW (show(xs.take (j+1)).map cF=(xs.take j).map cF++[cF y] by rw[am_,hy];simp);have Yj:((xs.take j).map cF).length<=j:=by simp;omega
   have hzj:=hij.size;clear hy;go_wp2_with fail
   refine(L9 y wj).mono ?_;rintro e w3 ⟨A3,c3,B3,d3,rfl,f3,p3,Ig,x3⟩;have hz3:=x3.size;obtain⟨v',w4,hrun,hge4,_,BG,CW⟩:=iU (hgf.ex x3) hz3 (cB (x:=cF y) f3 p3 Ig hz3) (amX _) hz3 (amX _) hzj (by omega);rw[<-HT2.out]at hge4;have qO:=CW w (hij.trans x3) (amX _);clear CW HT2 hgf;go_wp2_with (at_builtin;refine wpList_append_run rfl _ _ _ rfl rfl rfl hrun ?_)
   go_roundw;case rel=>exact⟨j+1,by omega,by go_num,hge4,qO⟩
   case measure=>simp[intOf];omega
  .obtain rfl:j=L:=by omega
   rw[ann (by rw[HL.out];exact amX _)]at hgf;go_wp2_with fail
   go_ret;exact⟨_,rfl,hgf,hij⟩
theorem push_empty{x:List aF}(ad:Addr)(hO:(wC W0).O w a b [v0] x)(hab:a<=b)(hb:b<=w.heap.size)(hB:B<=a):
 ∃v' w',(Builtin.append_ #[27,27] 27 #[.slice (some ad) 0 0,.slice (some ⟨w.heap.size,0,none⟩) 1 1]).run prog (w.alloc (.cells #[v0] 48))=.ok v' w'/\
  GE (wC W0) 48 w' B w'.heap.size v' [x]/\v'≠.slice none 0 0/\Ex w w':=by
 obtain⟨i,hi,hz,hs,hby⟩:=anA fZ;have hx:=(asF w).alloc (.cells #[v0] 48);have hsz:(w.alloc (.cells #[v0] 48)).heap.size=w.heap.size+1:=by simp
 obtain⟨v',w',hrun,hown,hgr⟩:=run_append_arg_grows (P:=prog) (w:=w.alloc (.cells #[v0] 48)) 27 27 48 i (.slice none 0 0) 1 24 Tryz.underlying27 hi hz hs hby rfl (by omega) ad 0 0 [] (by simp) (λj u h=>by simp at h) ⟨w.heap.size,0,none⟩ 1 1 [v0] rfl
  (λj y hj=>World.news_of_block (heap_alloc_new w _) j y (by simpa using hj)) (by omega) (by unfold maxLen;omega) (by omega)
 rw[aon,anE]at hown;have hx':Ex w w':=hx.Sj hgr (λg e=>by cases e);have hlt:=World.ownsRow.lt hown;have hnn:v'≠.slice none 0 0:=λe=>by
  rcases hown.2 with⟨_,e2⟩|⟨g,cap,cur,e2,_⟩
  .omega
  .rw[e]at e2;cases e2
 refine⟨v',w',hrun,⟨λk e=>by have:=hlt k e;omega,[[v0]],λ_=>a,λ_=>b,rfl,⟨hown.1,?_⟩,λj y hj=>?_,λi j hi hj=>by simp at hi hj;omega⟩,hnn,hx'⟩
 .rcases hown.2 with h5|⟨g,cap,cur,e2,hg,r⟩
  .exact .inl h5
  .exact .inr ⟨g,cap,cur,e2,by omega,r⟩
 .rcases j with _|j
  .injection hj with hj;subst hj;have h1:=hx'.size;refine⟨[v0],rfl,(wC W0).UG hO hx',hB,?_,λk e=>?_⟩
   .show b<=w'.heap.size;omega
   .have:=hlt k e;show k<a∨b<=k;omega
  .simp at hj
theorem Fe{xs:List (List aF)}(h:(xs=[]/\∃ad,v=.slice (some ad) 0 0)∨GE (wC W0) 48 w B H v xs)(hH:H<=w.heap.size){x:List aF}(hu:(wC W0).O w a b [v0] x)(ha:H<=a)(hab:a<=b)(hb:b<=w.heap.size)(hB:B<=H)(hl:xs.length+1<=1099511627776):
 ∃v' w',(Builtin.append_ #[27,27] 27 #[v,.slice (some ⟨w.heap.size,0,none⟩) 1 1]).run prog (w.alloc (.cells #[v0] 48))=.ok v' w'/\
  GE (wC W0) 48 w' B w'.heap.size v' (xs++[x])/\v'≠.slice none 0 0/\∀b',Ex b' w->b'.heap.size<=B->Ex b' w':=by
 rcases h with⟨rfl,ad,rfl⟩|h
 .obtain⟨v',w',h1,h2,h3,h4⟩:=push_empty (B:=B) ad hu hab hb (by omega);exact⟨v',w',h1,h2,h3,λb' hb' _=>hb'.trans h4⟩
 .obtain⟨v',w',h1,h2,_,h4,h5⟩:=iO h hH hu ha hab hb hB hl;exact⟨v',w',h1,h2,h4,h5⟩
theorem XJ{xs:List (List aF)}(h:(xs=[]/\∃ad,v=.slice (some ad) 0 0)∨GE (wC W0) 48 w B H v xs)(hl:xs.length<=1099511627776)(he:Ex W0 w):∃A c,v=.slice A xs.length c/\gm iE w A xs:=by
 rcases h with⟨rfl,ad,rfl⟩|h
 .exact⟨_,_,rfl,by simp,λj x hj=>by simp at hj⟩
 .exact h.J7 hl he
section
section
variable {K : Type}
def Ops.cols(O:Ops K)(n:Nat)(rows:List (List K)):List (List K):=(range n).map λi=>rows.map (λr=>O.el r i)
def Ops.gH(O:Ops K)(n:Nat)(rows:List (List K)):List (List K):=O.l6 rows.length (O.cols n rows)
theorem nC(O:Ops K)(n:Nat)(rows:List (List K)):aZ rows.length (O.cols n rows):=λv hv=>by obtain⟨i,_,rfl⟩:=am3.1 hv;exact am5 _
theorem kW(O:Ops K)(n:Nat)(rows:List (List K)):(O.cols n rows).length=n:=by unfold Ops.cols;rw[am5,anK]
theorem VG(F:aL K){i:Nat}{rows:List (List K)}(hi:i<n)(hj:j<rows.length):F.el ((F.cols n rows).getD i []) j=F.el (rows.getD j []) i:=by unfold Ops.cols;rw[am6,am7,am0 (by rw[anK];exact hi)];show F.el (rows.map _) j=_;rw[Ops.bT F.toOps (by rw[am7,am0 hj];rfl),aoW,am6,am0 hj];rfl
theorem vI(F:aL K){rows:List (List K)}(k:Nat->K):Sp F (F.fns (F.gH n rows)) k↔mE F n (F.fns rows) k:=by
 unfold Ops.gH;rw[Nc (nC _ _ _),kW];have hd:∀j,j<rows.length->F.dot n (λi=>F.el ((F.cols n rows).getD i []) j) k=F.dot n (F.fn (rows.getD j [])) k:=λj hj=>F.bK λi hi=>by show F.mul (F.el _ j) _=F.mul (F.el _ i) _;rw[VG F hi hj]
 constructor
 .rintro⟨h1,h2⟩;refine⟨h1,λa ha=>?_⟩;obtain⟨u,hu,rfl⟩:=am3.1 ha;obtain⟨j,hj⟩:=anc hu;have hjl:=(am2.1 hj).1;have:=hd j hjl;rw[show rows.getD j []=u by rw[am6,hj];rfl]at this;rw[<-this];exact h2 _ (am3.2 ⟨j,an8.2 hjl,rfl⟩)
 .rintro⟨h1,h2⟩;refine⟨h1,λa ha=>?_⟩;obtain⟨j,hj,rfl⟩:=am3.1 ha;rw[an8]at hj;have:=hd j hj;refine this.trans (h2 _ (am3.2 ⟨_,?_,rfl⟩));rw[am6,am0 hj];exact anO _
theorem FD(F:aL K){rows:List (List K)}:aZ n (F.gH n rows):=λv hv=>by have:=Q9 (nC F.toOps n rows) v hv;rwa[kW]at this
def Ops.iG(O:Ops K)(W:Nat)(E:List Nat)(row:List K):List K:=(E.zip row).foldl (λo x=>o.set x.1 (O.add (O.el o x.1) x.2)) (replicate W O.z)
def aL.Lr(F:aL K)(v:Nat->K)(l:List (Nat×K)):K:=l.foldr (λx s=>F.add (F.mul x.2 (v x.1)) s) F.z
theorem Dp(F:aL K){W:Nat}(v:Nat->K):∀(l:List (Nat×K)) (o:List K),o.length=W->(∀x∈l,x.1<W)->
 (l.foldl (λo x=>o.set x.1 (F.add (F.el o x.1) x.2)) o).length=W/\F.dot W (F.fn (l.foldl (λo x=>o.set x.1 (F.add (F.el o x.1) x.2)) o)) v=F.add (F.dot W (F.fn o) v) (F.Lr v l)
 |[],o,ho,_=>⟨ho,(F.d_ _).symm⟩
 |x::l,o,ho,hx=>by
  have hx0:=hx x (by simp);have h1:=Dp F v l (o.set x.1 (F.add (F.el o x.1) x.2)) (by rw[anj];exact ho) λy hy=>hx y (by simp[hy])
  refine⟨h1.1,h1.2.trans ?_⟩;have h2:F.dot W (F.fn (o.set x.1 (F.add (F.el o x.1) x.2))) v=F.add (F.dot W (F.fn o) v) (F.mul x.2 (v x.1)):=by
   refine F.pO (p:=x.1) ?_ hx0 λi _ hne=>?_
   .show F.mul (F.el (o.set x.1 _) x.1) (v x.1)=F.add (F.mul (F.el o x.1) (v x.1)) _;rw[kV,amY ⟨rfl,by omega⟩,F.qU]
   .show F.mul (F.el (o.set x.1 _) i) (v i)=F.mul (F.el o i) (v i);rw[kV,amZ λq=>hne q.1.symm]
  rw[h2,F.add_assoc];rfl
theorem EP(F:aL K)(hE:∀e∈E,e<W)(row:List K):(F.iG W E row).length=W:=
 (Dp F F.vz (E.zip row) _ anD λx hx=>hE _ (List.of_mem_zip hx).1).1
theorem sV(F:aL K)(hE:∀e∈E,e<W)(row:List K)(v:Nat->K):F.dot W (F.fn (F.iG W E row)) v=F.Lr v (E.zip row):=by have:=(Dp F v (E.zip row) (replicate W F.z) anD λx hx=>hE _ (List.of_mem_zip hx).1).2;refine this.trans ?_;rw[show F.dot W (F.fn (replicate W F.z)) v=F.z from F.iQ λi _=>by show F.mul (F.el _ i) _=F.z;rw[Sv,F.iF],F.bG]
theorem yK(F:aL K)(f:Nat->K):∀n:Nat,F.bS (n+1) f=F.add (f 0) (F.bS n λj=>f (j+1))
 |0=>by show F.add F.z (f 0)=F.add (f 0) F.z;rw[F.bG,F.d_]
 |n+1=>by rw[aL.bS,yK F f n,F.add_assoc];rfl
theorem yF(F:aL K)(v:Nat->K):∀(E:List Nat) (row:List K),row.length=E.length->F.Lr v (E.zip row)=F.dot E.length (F.fn row) (nQ F E v)
 |[],_,_=>rfl
 |e::E,[],h=>by simp at h
 |e::E,x::row,h=>by
  have h0:=yF F v E row (by simpa using h);show F.add (F.mul x (v e)) (F.Lr v (E.zip row))=F.bS (E.length+1) _;rw[yK,h0];congr 1;refine F.bK λj hj=>?_
  show F.mul (F.el row j) (nQ F E v j)=F.mul (F.el (x::row) (j+1)) (nQ F (e::E) v (j+1));unfold nQ;rw[amY hj,amY (by rw[anJ];omega)];rfl
theorem SA(F:aL K){B M:List (List K)}(hE:∀e∈E,e<W)(hM:aZ E.length M)(hs:∀v,Sp F (F.fns B) v↔mE F E.length (F.fns M) v)(v:Nat->K):
 (∀r∈(F.gH E.length B).map (F.iG W E),F.dot W (F.fn r) v=F.z)↔∀m∈M,F.dot E.length (F.fn m) (nQ F E v)=F.z:=by
 have hout:∀j,E.length<=j->nQ F E v j=F.z:=λj hj=>amZ (by omega)
 constructor
 .intro h m hm;have hk:mE F E.length (F.fns B) (F.fn m):=by
   refine⟨λj hj=>Ops.eH _ (by have:=hM m hm;omega),λa ha=>?_⟩;have:=((hs a).1 (Sp.mem ha)).2 (F.fn m) (am3.2 ⟨m,hm,rfl⟩);rw[F.dot_comm];exact this
  refine((vI F _).2 hk) (λx=>F.dot E.length x (nQ F E v)=F.z) (F.V7 _ _) λu hu r hr c=>?_
  rw[F.dot_comm,F.uH,F.dot_comm _ _ u,F.dot_comm _ _ r,hu,F.bG];obtain⟨q,hq,rfl⟩:=am3.1 hr;have:=h _ (am3.2 ⟨q,hq,rfl⟩);rw[sV F hE,yF F v E q (FD F q hq)]at this;rw[this,F.bf]
 .intro h r hr;obtain⟨q,hq,rfl⟩:=am3.1 hr;rw[sV F hE,yF F v E q (FD F q hq)];have hq':mE F E.length (F.fns B) (F.fn q):=(vI F _).1 (Sp.mem (am3.2 ⟨q,hq,rfl⟩));have hv:Sp F (F.fns B) (nQ F E v):=(hs _).2 ⟨hout,λa ha=>by obtain⟨m,hm,rfl⟩:=am3.1 ha;exact h m hm⟩;refine hv (λx=>F.dot E.length (F.fn q) x=F.z) (F.WW _ _) λu hu b hb c=>?_
  rw[F.uH,hu,F.dot_comm,hq'.2 b hb,F.bf,F.bG]
end
end
section
section
variable {K A : Type} {O : Ops K} {O' : Ops A} {f : K -> A}
theorem aL.inv_of(F:aL K){a b:K}(hb:b≠F.z)(h:F.mul a b=F.o):a=F.inv b:=by
 have h1:F.mul a (F.mul b (F.inv b))=F.inv b:=by rw[<-F.mul_assoc,h,F.bB]
 rwa[F.Dz hb,F.fO]at h1
theorem iN.iG(h:iN O O' f)(W:Nat)(E:List Nat)(row:List K):O'.iG W E (row.map f)=(O.iG W E row).map f:=by
 have go:∀(l:List Nat) (r:List K) (o:List K),(l.zip (r.map f)).foldl (λo x=>o.set x.1 (O'.add (O'.el o x.1) x.2)) (o.map f)=((l.zip r).foldl (λo x=>o.set x.1 (O.add (O.el o x.1) x.2)) o).map f:=by
  intro l
  induction l with
  |nil=>intro r o;rfl
  |cons e l ih=>
   intro r o;cases r with
   |nil=>rfl
   |cons x r=>show(l.zip (r.map f)).foldl _ ((o.map f).set e (O'.add (O'.el (o.map f) e) (f x)))=_;rw[h.el,h.add,<-anZ];exact ih r _
 unfold Ops.iG;rw[h.z,<-List.map_replicate];exact go E row _
def Ops.Ie(O:Ops K)(k:Int)(v:K)(i o:List Nat):List (List Nat×List K):=
 if k=3 then[([o.getD 0 0,i.getD 0 0],[O.o,O.neg O.o]),([o.getD 1 0,i.getD 0 0],[O.o,O.neg O.o])]
 else if k=5 then[([o.getD 0 0,i.getD 0 0,i.getD 1 0],[O.o,O.neg O.o,O.neg O.o])]
 else if k=6 then[([o.getD 0 0],[O.o])]
 else if k=7 then[([o.getD 0 0,i.getD 0 0],[O.o,O.neg v])]
 else[]
def Ops.Ic(O:Ops K)(k:Int)(v:K)(i o:List Nat):List (List Nat×List K):=if 9<=k then O.Ie (k-6) v o i else O.Ie k v i o
def Ops.oM(O:Ops K)(W:Nat)(k:Int)(v:K)(i o:List Nat):List (List K):=(O.Ic k v i o).map λs=>O.iG W s.1 s.2
theorem iN.oM(h:iN O O' f)(W:Nat)(k:Int)(v:K)(i o:List Nat):O'.oM W k (f v) i o=dh f (O.oM W k v i o):=by
 have hq:∀k i o,O'.Ie k (f v) i o=(O.Ie k v i o).map λs=>(s.1,s.2.map f):=λk i o=>by
  unfold Ops.Ie
  repeat' split
  all_goals simp[h.o,h.neg]
 have hw:O'.Ic k (f v) i o=(O.Ic k v i o).map λs=>(s.1,s.2.map f):=by unfold Ops.Ic;split<;>exact hq _ _ _
 unfold Ops.oM dh;rw[hw,anr,anr];exact anF λs _=>h.iG W s.1 s.2
def okW(k:Int)(n m:Nat):Prop:=∀q,q=(if 9<=k then k-6 else k)->((q=3->(if 9<=k then m else n)=1/\(if 9<=k then n else m)=2)/\(q=5->(if 9<=k then m else n)=2/\(if 9<=k then n else m)=1)/\(q=6->(if 9<=k then n else m)=1)/\(q=7->(if 9<=k then m else n)=1/\(if 9<=k then n else m)=1))
theorem n_{g:Nat->Nat}{l:List Nat}(h:j<l.length):(l.map g).getD j 0=g (l.getD j 0):=by rw[am6,am7,am0 h,am6,am0 h];rfl
theorem iH{l:List Nat}(h:j<l.length):l.getD j 0∈l:=by rw[am6,am0 h];exact anO h
theorem KY(O:Ops K)(v:K)(g:Nat->Nat)(h:(k=3->I.length=1/\J.length=2)/\(k=5->I.length=2/\J.length=1)/\(k=6->J.length=1)/\(k=7->I.length=1/\J.length=1)):
 O.Ie k v (I.map g) (J.map g)=(O.Ie k v I J).map (λs=>(s.1.map g,s.2))/\∀s∈O.Ie k v I J,∀a∈s.1,a∈I∨a∈J:=by
 obtain⟨h3,h5,h6,h7⟩:=h;unfold Ops.Ie;split
 .rename_i e;obtain⟨a,b⟩:=h3 e;rw[n_ (l:=J) (by omega),n_ (l:=J) (by omega),n_ (l:=I) (by omega)];refine⟨rfl,λs hs x hx=>?_⟩;have m1:=iH (l:=J) (j:=0) (by omega);have m2:=iH (l:=J) (j:=1) (by omega);have m3:=iH (l:=I) (j:=0) (by omega);simp at hs;rcases hs with rfl|rfl<;>simp at hx<;>rcases hx with rfl|rfl<;>simp_all
 split
 .rename_i e;obtain⟨a,b⟩:=h5 e;rw[n_ (l:=J) (by omega),n_ (l:=I) (by omega),n_ (l:=I) (by omega)];refine⟨rfl,λs hs x hx=>?_⟩;have m1:=iH (l:=J) (j:=0) (by omega);have m2:=iH (l:=I) (j:=1) (by omega);have m3:=iH (l:=I) (j:=0) (by omega);simp at hs;subst hs;simp at hx;rcases hx with rfl|rfl|rfl<;>simp_all
 split
 .rename_i e;have b:=h6 e;rw[n_ (l:=J) (by omega)];refine⟨rfl,λs hs x hx=>?_⟩;have m1:=iH (l:=J) (j:=0) (by omega);simp at hs;subst hs;simp at hx;subst hx
  simp_all
 split
 .rename_i e;obtain⟨a,b⟩:=h7 e;rw[n_ (l:=J) (by omega),n_ (l:=I) (by omega)];refine⟨rfl,λs hs x hx=>?_⟩;have m1:=iH (l:=J) (j:=0) (by omega);have m3:=iH (l:=I) (j:=0) (by omega);simp at hs;subst hs;simp at hx;rcases hx with rfl|rfl<;>simp_all
 exact⟨rfl,λs hs=>by simp at hs⟩
theorem KX(O:Ops K)(v:K)(g:Nat->Nat)(h:okW k I.length J.length):
 O.Ic k v (I.map g) (J.map g)=(O.Ic k v I J).map (λs=>(s.1.map g,s.2))/\∀s∈O.Ic k v I J,∀a∈s.1,a∈I∨a∈J:=by
 have h:=h _ rfl;unfold Ops.Ic;by_cases h9:9<=k
 .simp only[amY h9]at h⊢;obtain⟨h1,h2⟩:=KY O v (I:=J) (J:=I) g h;exact⟨h1,λs hs a ha=>(h2 s hs a ha).symm⟩
 .simp only[amZ h9]at h⊢;exact KY O v g h
theorem Ey(F:aL K)(E:List Nat)(x:Nat->K):∀(l:List Nat) (r:List K),(∀a∈l,a<E.length)->F.Lr x ((l.map λa=>E.getD a 0).zip r)=F.Lr (nQ F E x) (l.zip r)
 |[],_,_=>rfl
 |a::l,[],_=>rfl
 |a::l,c::r,h=>by show F.add (F.mul c (x (E.getD a 0))) _=F.add (F.mul c (nQ F E x a)) _;rw[show nQ F E x a=x (E.getD a 0)from amY (h a (by simp))];congr 1;exact Ey F E x l r λb hb=>h b (by simp[hb])
theorem YX(F:aL K)(v:K)(h:okW k n m)(hl:E.length=n+m)(hE:∀e∈E,e<W)(x:Nat->K):
 (∀r∈F.oM W k v (E.take n) (E.drop n),F.dot W (F.fn r) x=F.z)↔∀r∈F.oM (n+m) k v (range n) ((range m).map (n+·)),F.dot (n+m) (F.fn r) (nQ F E x)=F.z:=by
 have e1:E.take n=(range n).map λa=>E.getD a 0:=aoB (by rw[am8,am5,anK];omega) λj h1 h2=>by rw[am8]at h1;rw[List.getElem_take,aor,aoW,am6,am0 (by omega)];rfl
 have e2:E.drop n=((range m).map (n+·)).map λa=>E.getD a 0:=aoB (by rw[anp,am5,am5,anK];omega) λj h1 h2=>by rw[anp]at h1;rw[aoS,aor,aor,aoW,am6,am0 (by omega)];rfl
 obtain⟨h1,h2⟩:=KX F.toOps v (I:=range n) (J:=(range m).map (n+·)) (λa=>E.getD a 0) (by rw[am5,anK,anK];exact h);have hlt:∀s∈F.Ic k v (range n) ((range m).map (n+·)),∀a∈s.1,a<n+m:=λs hs a ha=>by
  rcases h2 s hs a ha with q|q
  .rw[an8]at q;omega
  .obtain⟨b,hb,rfl⟩:=am3.1 q;rw[an8]at hb;omega
 have key:∀s∈F.Ic k v (range n) ((range m).map (n+·)),F.dot W (F.fn (F.iG W (s.1.map λa=>E.getD a 0) s.2)) x=F.dot (n+m) (F.fn (F.iG (n+m) s.1 s.2)) (nQ F E x):=λs hs=>by
  rw[sV F (W:=n+m) (hlt s hs),sV F (W:=W) (λe he=>by
   obtain⟨a,ha,rfl⟩:=am3.1 he;exact hE _ (iH (by have:=hlt s hs a ha;omega)))]
  exact Ey F E x s.1 s.2 λa ha=>by have:=hlt s hs a ha;omega
 unfold Ops.oM;rw[e1,e2,h1,anr];constructor
 .intro q r hr;obtain⟨s,hs,rfl⟩:=am3.1 hr;rw[<-key s hs];exact q _ (am3.2 ⟨s,hs,rfl⟩)
 .intro q r hr;obtain⟨s,hs,rfl⟩:=am3.1 hr;exact(key s hs).trans (q _ (am3.2 ⟨s,hs,rfl⟩))
end
section
variable {p : Int}
noncomputable def kE (hF:aj p=true) (a:Zp p):xM p:=pe hF (cp a.1)
theorem Q_(hF:aj p=true)(a:Zp p):(kE hF a).1=cF a.1:=Xa a.2
theorem Ya(hF:aj p=true):iN (aD p hF).toOps (ay p hF).toOps (kE hF):=by
 have h2:=au hF;have hp:0<p:=by omega
 have h5:∀x y z:Int,(x-y)+(y-z)=x-z:=λx y z=>by omega
 have hA:∀a b:Zp p,(ay p hF).add (kE hF a) (kE hF b)=kE hF ((aD p hF).add a b):=λa b=>by
  unfold kE;rw[IW hF (qj a.2) (qj b.2)];congr 1;refine PN.eq hp ((qj a.2).add hp 1 _) (qj (oh hp _)) λu=>?_
  have h3:=dJ hp (qj a.2) (cp b.1) u;have h4:p ∣ (cf (cp a.1) u+cf (cp b.1) u)-cf (cp ((a.1+b.1)%p)) u:=by
   unfold cp;rw[bU,bU,bU];cases u with
   |zero=>exact Int.dvd_self_sub_of_emod_eq rfl
   |succ u=>exact⟨0,by rw[jO,jO,jO,iD];simp⟩
  have:=aoq h3 h4;rwa[h5]at this
 have hM:∀a b:Zp p,(ay p hF).mul (kE hF a) (kE hF b)=kE hF ((aD p hF).mul a b):=λa b=>by
  unfold kE;rw[lU hF (qj a.2) (qj b.2)];congr 1;refine PN.eq hp (PN.mul hp _ _) (qj (oh hp _)) λu=>?_
  have h3:=((aU hp (cp a.1) (cp b.1)).trans (aP.JN (aP.of_eq (funext λt=>bU [a.1] t)) (cp b.1))) u;have h0:act [a.1] (cf (cp b.1)) u=a.1*cf (cp b.1) u:=by rw[show[a.1]=(range 1).map (λ_=>a.1)from rfl,uN];show 0+a.1*(if 0<=u then cf (cp b.1) (u-0)else 0)=_;rw[amY (am4 u),Nat.sub_zero,aoC]
  rw[h0]at h3;have h4:p ∣ a.1*cf (cp b.1) u-cf (cp (a.1*b.1%p)) u:=by
   unfold cp;rw[bU,bU];cases u with
   |zero=>exact Int.dvd_self_sub_of_emod_eq rfl
   |succ u=>exact⟨0,by rw[jO,jO,iD];omega⟩
  have:=aoq h3 h4;rwa[h5]at this
 have hz:(ay p hF).z=kE hF (aD p hF).z:=(jV hF).symm;have ho:(ay p hF).o=kE hF (aD p hF).o:=(vG hF).symm;have hi:∀a:Zp p,(ay p hF).jq (kE hF a)=(aD p hF).jq a:=λa=>by show ig (kE hF a).1=decide (a.1=0);rw[Q_,Tt]
 refine⟨hA,hM,λa=>?_,λa ha=>?_,hz,ho,hi⟩
 .refine((ay p hF).lY ?_).symm;rw[hA,(aD p hF).neg_add];exact hz.symm
 .have ha0:a≠(aD p hF).z:=λe=>by rw[((aD p hF).dZ a).2 e]at ha;cases ha
  refine((ay p hF).inv_of (λe=>?_) ?_).symm
  .have:=((ay p hF).dZ _).2 e;rw[hi,ha]at this;cases this
  .rw[hM,(aD p hF).inv_mul a ha0];exact ho.symm
theorem W_(hF:aj p=true)(Z:List (List (Zp p))):oN (dh Subtype.val Z)=dh Subtype.val (dh (kE hF) Z):=by
 unfold oN dh;rw[anr,anr];refine anF λv _=>?_
 show(v.map Subtype.val).map cF=(v.map (kE hF)).map Subtype.val;rw[anr,anr];exact anF λa _=>(Q_ hF a).symm
theorem ach(hF:aj p=true)(n:Nat)(k v:Int)(i o:List Nat):WU p n k v i o=((aA p).Ie k v i o).map λs=>(aA p).iG n s.1 s.2:=by
 unfold WU Ops.Ie;rw[QA hF]
 repeat' split
 all_goals rfl
theorem KZ(hF:aj p=true)(n:Nat)(k v:Int)(i o:List Nat):Ah p n k v i o=(aA p).oM n k v i o:=by unfold Ah Ops.oM Ops.Ic;split<;>exact ach hF _ _ _ _ _
noncomputable def Wy (hF:aj p=true) (v:Int):xM p:=if h:fe p v=true then kE hF ⟨v,h⟩else(ay p hF).z
theorem Sm(O:Ops K)(n:Nat)(v v':K)(h7:k≠7)(h13:k≠13)(i o:List Nat):O.oM n k v i o=O.oM n k v' i o:=by
 unfold Ops.oM Ops.Ic Ops.Ie;by_cases h9:9<=k
 .rw[amY h9,amY h9,amZ (show¬k-6=7 by omega),amZ (show¬k-6=7 by omega)]
 .rw[amZ h9,amZ h9,amZ h7,amZ h7]
theorem aci(hF:aj p=true)(n:Nat){v:Int}(hv:k=7∨k=13->fe p v=true)(i o:List Nat):oN (Ah p n k v i o)=dh Subtype.val ((ay p hF).oM n k (Wy hF v) i o):=by
 have h2:=au hF;have key:∀u:Int,∀h:fe p u=true,oN (Ah p n k u i o)=dh Subtype.val ((ay p hF).oM n k (kE hF ⟨u,h⟩) i o):=λu h=>by rw[KZ hF,show(aA p).oM n k u i o=dh Subtype.val ((aD p hF).oM n k ⟨u,h⟩ i o)from(mF p hF).oM n k ⟨u,h⟩ i o,W_ hF,<-(Ya hF).oM]
 by_cases h:k=7∨k=13
 .rw[key v (hv h),show Wy hF v=kE hF ⟨v,hv h⟩from dif_pos (hv h)]
 .have e0:fe p 0=true:=by simp[fe];omega
  rw[KZ hF,Sm (aA p) n v 0 (λe=>h (.inl e)) (λe=>h (.inr e)),<-KZ hF,key 0 e0,Sm _ n (Wy hF v) (kE hF ⟨0,e0⟩) (λe=>h (.inl e)) (λe=>h (.inr e))]
end
end
section
section
variable {K A : Type} {O : Ops K} {O' : Ops A} {f : K -> A}
theorem iN.cols(h:iN O O' f)(n:Nat)(rows:List (List K)):O'.cols n (dh f rows)=dh f (O.cols n rows):=by
 unfold Ops.cols dh;rw[anr];refine anF λi _=>?_
 show(rows.map (List.map f)).map _=(rows.map λr=>O.el r i).map f;rw[anr,anr];exact anF λr _=>h.el r i
theorem iN.gH(h:iN O O' f)(n:Nat)(rows:List (List K)):O'.gH n (dh f rows)=dh f (O.gH n rows):=by unfold Ops.gH;rw[h.cols,h.l6,show(dh f rows).length=rows.length from am5 _]
theorem iN.eU(h:iN O O' f)(n:Nat)(rows:List (List K)):O'.eU n (dh f rows)=dh f (O.eU n rows):=by unfold Ops.eU;rw[h.aB,h.j4,h.aB]
theorem G5(F:aL K){L:List (List K)}(v:Nat->K):Sp F (F.fns (F.aB E.length (L.map (F.kY E)))) v↔∃k,Sp F (F.fns L) k/\nQ F E k=v:=by
 have hf:F.fns (L.map (F.kY E))=(F.fns L).map (nQ F E):=by unfold Ops.fns;rw[anr,anr];exact anF λr _=>funext λj=>Zb F E r j
 have hz:nQ F E F.vz=F.vz:=funext λj=>by show(if _ then F.z else F.z)=F.z;split<;>rfl
 have hs:∀u r c,nQ F E (F.va u (F.vs c r))=F.va (nQ F E u) (F.vs c (nQ F E r)):=λu r c=>funext λj=>by
  show(if _ then _ else _)=F.add (if _ then _ else _) (F.mul c (if _ then _ else _));split
  .rfl
  .rw[F.bf,F.bG]
 have hwd:aZ E.length (L.map (F.kY E)):=λr hr=>by obtain⟨u,_,rfl⟩:=am3.1 hr;exact yC _ _ _
 rw[iT F hwd,hf];constructor
 .intro h;exact h.UR hz hs
 .rintro⟨k,h1,rfl⟩;exact h1.map hz hs
theorem TB(F:aL K){L L':List (List K)}(h:∀v,Sp F (F.fns L) v↔Sp F (F.fns L') v):F.aB E.length (L.map (F.kY E))=F.aB E.length (L'.map (F.kY E)):=by
 have hwd:∀L:List (List K),aZ E.length (L.map (F.kY E)):=λL r hr=>by obtain⟨u,_,rfl⟩:=am3.1 hr;exact yC _ _ _
 refine lF (iL F (hwd L)) (iL F (hwd L')) λv=>?_
 rw[G5 F,G5 F];exact⟨λ⟨k,h1,h2⟩=>⟨k,(h k).1 h1,h2⟩,λ⟨k,h1,h2⟩=>⟨k,(h k).2 h1,h2⟩⟩
theorem yx(F:aL K){v:K}(h:okW k I.length J.length)(hI:∀a∈I,a<W)(hJ:∀a∈J,a<W):aZ W (F.oM W k v I J):=λr hr=>by
 obtain⟨s,hs,rfl⟩:=am3.1 hr;refine EP F (λa ha=>?_) _;rcases(KX F.toOps v (I:=I) (J:=J) id h).2 s hs a ha with q|q
 .exact hI a q
 .exact hJ a q
end
section
variable {p : Int}
def KE(k:Int):Int:=if k=8 then 7 else if k=14 then 13 else k
noncomputable def sD (hF:aj p=true) (k v:Int):xM p:=if k=8∨k=14 then pe hF [0,1]else Wy hF v
theorem Ql(hk:bN 3 14 k=true)(hg:gw k=((n:Int),(m:Int))):okW (KE k) n m:=by
 rcases kinds hk with rfl|rfl|rfl|rfl|rfl|rfl|rfl|rfl|rfl|rfl|rfl|rfl<;>
  (injection hg with h1 h2
   intro q hq;simp[KE]at h1 h2 hq;subst hq;simp[KE]
   try omega)
theorem QN(hF:aj p=true){v:Int}(nm:ByteArray)(hk:bN 3 14 k=true)(hv:k=7∨k=13->fe p v=true)(hg:gw k=((n:Int),(m:Int))):
 ∃B:List (List (xM p)),dN p ⟨k,v,nm⟩=dh Subtype.val B/\∀u,Sp (ay p hF) ((ay p hF).fns B) u↔mE (ay p hF) (n+m) ((ay p hF).fns ((ay p hF).oM (n+m) (KE k) (sD hF k v) (range n) ((range m).map (n+·)))) u:=by
 obtain⟨F,hFe⟩:=xq (ay p hF);by_cases h8:k=8
 .subst h8;obtain⟨rfl,rfl⟩:n=1/\m=1:=by injection hg with h1 h2;exact⟨(Int.ofNat.inj h1).symm,(Int.ofNat.inj h2).symm⟩
  refine⟨(ay p hF).aB 2 [[(ay p hF).o,pe hF [0,1]]],?_,λu=>?_⟩
  .show(ah p).aB 2 [[oF,xF]]=_;rw[<-(jl p hF).aB];show _=(ah p).aB 2 [[oF,(pe hF [0,1]).1]];rw[oD]
  .rw[FO,kI _ (λr hr=>by simp at hr;rw[hr];rfl)];have e:(ay p hF).oM 2 (KE 8) (sD hF 8 v) (range 1) ((range 1).map (1+·))=[[(ay p hF).neg (pe hF [0,1]),(ay p hF).o]]:=by
    show[[(ay p hF).add (ay p hF).z ((ay p hF).neg (sD hF 8 v)),(ay p hF).add (ay p hF).z (ay p hF).o]]=_;rw[(ay p hF).bG,(ay p hF).bG,show sD hF 8 v=pe hF [0,1]from amY (.inl rfl)]
   rw[<-e]
 by_cases mD:k=14
 .subst mD;obtain⟨rfl,rfl⟩:n=1/\m=1:=by injection hg with h1 h2;exact⟨(Int.ofNat.inj h1).symm,(Int.ofNat.inj h2).symm⟩
  refine⟨(ay p hF).aB 2 [[pe hF [0,1],(ay p hF).o]],?_,λu=>?_⟩
  .show(ah p).aB 2 [[xF,oF]]=_;rw[<-(jl p hF).aB];show _=(ah p).aB 2 [[(pe hF [0,1]).1,oF]];rw[oD]
  .rw[zO,kI _ (λr hr=>by simp at hr;rw[hr];rfl)];have e:(ay p hF).oM 2 (KE 14) (sD hF 14 v) (range 1) ((range 1).map (1+·))=[[(ay p hF).o,(ay p hF).neg (pe hF [0,1])]]:=by
    show[[(ay p hF).add (ay p hF).z (ay p hF).o,(ay p hF).add (ay p hF).z ((ay p hF).neg (sD hF 14 v))]]=_;rw[(ay p hF).bG,(ay p hF).bG,show sD hF 14 v=pe hF [0,1]from amY (.inr rfl)]
   rw[<-e]
 have hkd:KE k=k:=by unfold KE;rw[amZ h8,amZ mD]
 have hkp:sD hF k v=Wy hF v:=amZ (by omega);rw[hkd,hkp];have hok:=Ql hk hg;rw[hkd]at hok;have hlr:∀a∈range n,a<n+m:=λa ha=>by rw[an8]at ha;omega
 have hlj:∀a∈(range m).map (n+·),a<n+m:=λa ha=>by obtain⟨b,hb,rfl⟩:=am3.1 ha;rw[an8]at hb;omega
 have hl2:okW k (range n).length ((range m).map (n+·)).length:=by rw[am5,anK,anK];exact hok
 have key:∀(u:Int) (hu:fe p u=true),(aA p).oK (n+m) (range (n+m)) (Ah p (n+m) k u (range n) ((range m).map (n+·)))=dX p k u->
  ∃B:List (List (xM p)),oN (dX p k u)=dh Subtype.val B/\∀t,Sp (ay p hF) ((ay p hF).fns B) t↔mE (ay p hF) (n+m) ((ay p hF).fns ((ay p hF).oM (n+m) k (kE hF ⟨u,hu⟩) (range n) ((range m).map (n+·)))) t:=λu hu h=>by
  rw[KZ hF,show(aA p).oM (n+m) k u (range n) ((range m).map (n+·))=dh Subtype.val ((aD p hF).oM (n+m) k ⟨u,hu⟩ (range n) ((range m).map (n+·)))from(mF p hF).oM (n+m) k ⟨u,hu⟩ _ _,(mF p hF).oK]at h;refine⟨(ay p hF).eU (n+m) ((ay p hF).oM (n+m) k (kE hF ⟨u,hu⟩) (range n) ((range m).map (n+·))),?_,λt=>kI _ (yx _ hl2 hlr hlj) t⟩;rw[<-h,W_ hF,<-(Ya hF).oK,<-(Ya hF).oM,KC _ (yx _ hl2 hlr hlj),CQ]
 have hl:dN p ⟨k,v,nm⟩=oN (dX p k v):=by unfold dN;rw[amZ h8,amZ mD]
 rw[hl];by_cases h:k=7∨k=13
 .rw[show Wy hF v=kE hF ⟨v,hv h⟩from dif_pos (hv h)];exact key v (hv h) (zP hF hk h8 mD hv hg)
 .have e0:fe p 0=true:=by have:=au hF;simp[fe];omega
  have ez:dX p k v=dX p k 0:=by unfold dX;rcases kinds hk with rfl|rfl|rfl|rfl|rfl|rfl|rfl|rfl|rfl|rfl|rfl|rfl<;>first|rfl|omega
  rw[ez,Sm _ (n+m) (Wy hF v) (kE hF ⟨0,e0⟩) (λe=>h (.inl e)) (λe=>h (.inr e))];exact key 0 e0 (zP hF hk h8 mD (λe=>absurd e h) hg)
def aK(l:List Int):List Nat:=l.map Int.toNat
def fT(p:Int)(W:Nat)(e:Ed):List (List aF):=((ah p).gH (aK (e.ins++e.outs)).length (dN p ⟨e.kd,e.vl,ByteArray.empty⟩)).map ((ah p).iG W (aK (e.ins++e.outs)))
def dK(p:Int)(W:Nat)(e:Ed):List (List aF):=if e.kd=8 then(ah p).oM W 7 xF (aK e.ins) (aK e.outs)else if e.kd=14 then(ah p).oM W 13 xF (aK e.ins) (aK e.outs)else oN (Ah p W e.kd e.vl (aK e.ins) (aK e.outs))
def OB(p:Int)(W:Nat)(e:Ed):Prop:=bN 3 14 e.kd=true/\(e.kd=7∨e.kd=13->fe p e.vl=true)/\gw e.kd=((e.ins.length:Int),(e.outs.length:Int))/\∀a∈e.ins++e.outs,0<=a/\a<W
theorem vX(hF:aj p=true)(h:OB p W e):∃P R:List (List (xM p)),fT p W e=dh Subtype.val P/\dK p W e=dh Subtype.val R/\aZ W P/\aZ W R/\∀x:Nat->xM p,(∀r∈P,(ay p hF).dot W ((ay p hF).fn r) x=(ay p hF).z)↔∀r∈R,(ay p hF).dot W ((ay p hF).fn r) x=(ay p hF).z:=by
 obtain⟨hk,hv,hg,hw⟩:=h;obtain⟨B,hB,hS⟩:=QN hF ByteArray.empty hk hv hg;have hE:∀a∈aK (e.ins++e.outs),a<W:=λa ha=>by obtain⟨b,hb,rfl⟩:=am3.1 ha;have:=hw b hb;omega
 have hl:(aK (e.ins++e.outs)).length=e.ins.length+e.outs.length:=by unfold aK;rw[am5,am9]
 have ht:(aK (e.ins++e.outs)).take e.ins.length=aK e.ins:=by unfold aK;rw[anQ];exact aoY (am5 _)
 have hd:(aK (e.ins++e.outs)).drop e.ins.length=aK e.outs:=by unfold aK;rw[anQ];exact aoM (am5 _)
 have hok:=Ql hk hg;have hin:∀a∈aK e.ins,a<W:=λa ha=>hE a (by unfold aK at ha⊢;rw[anQ];exact an7 _ ha)
 have hout:∀a∈aK e.outs,a<W:=λa ha=>hE a (by unfold aK at ha⊢;rw[anQ];exact aoG _ ha)
 have hok2:okW (KE e.kd) (aK e.ins).length (aK e.outs).length:=by unfold aK;rw[am5,am5];exact hok
 refine⟨((ay p hF).gH (aK (e.ins++e.outs)).length B).map ((ay p hF).iG W (aK (e.ins++e.outs))),(ay p hF).oM W (KE e.kd) (sD hF e.kd e.vl) (aK e.ins) (aK e.outs),?_,?_,λr hr=>?_,yx _ hok2 hin hout,λx=>?_⟩
 .unfold fT dh;rw[hB,(jl p hF).gH,dh,anr,anr];exact anF λr _=>(jl p hF).iG W _ r
 .unfold dK;by_cases h8:e.kd=8
  .rw[amY h8,h8,<-(jl p hF).oM,show sD hF 8 e.vl=pe hF [0,1]from amY (.inl rfl),oD];rfl
  by_cases mD:e.kd=14
  .rw[amZ h8,amY mD,mD,<-(jl p hF).oM,show sD hF 14 e.vl=pe hF [0,1]from amY (.inr rfl),oD];rfl
  rw[amZ h8,amZ mD,aci hF W hv,show KE e.kd=e.kd by unfold KE;rw[amZ h8,amZ mD],show sD hF e.kd e.vl=Wy hF e.vl from amZ (by omega)]
 .obtain⟨q,_,rfl⟩:=am3.1 hr;exact EP _ hE q
 .have hlr:∀a∈range e.ins.length,a<(aK (e.ins++e.outs)).length:=λa ha=>by rw[an8]at ha;omega
  have hlj:∀a∈(range e.outs.length).map (e.ins.length+·),a<(aK (e.ins++e.outs)).length:=λa ha=>by obtain⟨b,hb,rfl⟩:=am3.1 ha;rw[an8]at hb;omega
  have hM:aZ (aK (e.ins++e.outs)).length ((ay p hF).oM (e.ins.length+e.outs.length) (KE e.kd) (sD hF e.kd e.vl) (range e.ins.length) ((range e.outs.length).map (e.ins.length+·))):=by have:=yx (ay p hF) (W:=(aK (e.ins++e.outs)).length) (k:=KE e.kd) (v:=sD hF e.kd e.vl) (I:=range e.ins.length) (J:=(range e.outs.length).map (e.ins.length+·)) (by rw[am5,anK,anK];exact hok) hlr hlj;rw[hl]at this⊢;exact this
  rw[SA (ay p hF) hE hM (by rw[hl];exact hS) x,<-ht,<-hd,YX (ay p hF) (sD hF e.kd e.vl) hok hl hE x,hl]
def WS(p:Int)(W:Nat)(E:List Nat)(es:List Ed):List (List aF):=(ah p).aB E.length (((ah p).gH W (es.flatMap (fT p W))).map ((ah p).kY E))
def grR(p:Int)(W:Nat)(E:List Nat)(es:List Ed):List (List aF):=(ah p).aB E.length (((ah p).eU W (es.flatMap (dK p W))).map ((ah p).kY E))
theorem Vi(hF:aj p=true)(E:List Nat){es:List Ed}(h:∀e∈es,OB p W e):WS p W E es=grR p W E es:=by
 have all:∃P R:List (List (xM p)),es.flatMap (fT p W)=dh Subtype.val P/\es.flatMap (dK p W)=dh Subtype.val R/\aZ W P/\aZ W R/\∀x:Nat->xM p,(∀r∈P,(ay p hF).dot W ((ay p hF).fn r) x=(ay p hF).z)↔∀r∈R,(ay p hF).dot W ((ay p hF).fn r) x=(ay p hF).z:=by
  induction es with
  |nil=>exact⟨[],[],rfl,rfl,λr hr=>absurd hr (by simp),λr hr=>absurd hr (by simp),λx=>Iff.rfl⟩
  |cons e es ih=>
   obtain⟨P,R,h1,h2,h3,h4,h5⟩:=ih λa ha=>h a (by simp[ha])
   obtain⟨P',R',k1,k2,k3,k4,k5⟩:=vX hF (h e (by simp));refine⟨P'++P,R'++R,?_,?_,λr hr=>?_,λr hr=>?_,λx=>?_⟩
   .rw[ao_,h1,k1];exact(anQ ..).symm
   .rw[ao_,h2,k2];exact(anQ ..).symm
   .rcases anu.1 hr with q|q
    .exact k3 r q
    .exact h3 r q
   .rcases anu.1 hr with q|q
    .exact k4 r q
    .exact h4 r q
   .constructor
    .intro q r hr;rcases anu.1 hr with a|a
     .exact(k5 x).1 (λr hr=>q r (an7 _ hr)) r a
     .exact(h5 x).1 (λr hr=>q r (aoG _ hr)) r a
    .intro q r hr;rcases anu.1 hr with a|a
     .exact(k5 x).2 (λr hr=>q r (an7 _ hr)) r a
     .exact(h5 x).2 (λr hr=>q r (aoG _ hr)) r a
 obtain⟨P,R,h1,h2,h3,h4,h5⟩:=all;unfold WS grR;have hat:∀L:List (List (xM p)),(dh Subtype.val L).map ((ah p).kY E)=dh Subtype.val (L.map ((ay p hF).kY E)):=λL=>by unfold dh;rw[anr,anr];exact anF λr _=>(jl p hF).kY E r
 rw[h1,h2,(jl p hF).gH,(jl p hF).eU,hat,hat,(jl p hF).aB,(jl p hF).aB];congr 1;refine TB (ay p hF) λv=>?_
 rw[vI,kI _ h4,gG,gG,h5]
end
end
theorem kD.ex(h:kD Good w a b v r)(he:Ex w w'):kD Good w' a b v r:=by obtain⟨jB,h1,h2⟩:=h;exact⟨jB,h1.ex he,h2⟩
theorem GE.f3{α:Type}{E:EL α}{t:TypeId}{xs:List α}(h:GE E t w B H v xs):∃A n c,v=.slice A n c:=by obtain⟨A,c,e⟩:=h.lu;exact⟨_,_,_,e⟩
theorem kD.f3(h:kD Good w a b v r):∃A n c,v=.slice A n c:=by obtain⟨A,c,e⟩:=h.form;exact⟨_,_,_,e⟩
theorem P6{w0:World}(h:gm EF w0 P r)(he:Ex w0 w){k:Nat}(hk:r[k]?=some x):
 ∃g off A c B d,P=some ⟨g,off,none⟩/\w.cell? ⟨g,off+k*2,none⟩=some (.slice A x.n.length c)/\w.cell? ⟨g,off+k*2+1,none⟩=some (.slice B x.d.length d)/\∀W:World,jr (Ex w0) (W.alloc (.cells #[.slice A x.n.length c,.slice B x.d.length d] 51)) (some ⟨W.heap.size,0,none⟩) [x]:=by
 obtain⟨g,off,vs,hA,hc,v0,v1,e,hR⟩:=h.2 k x hk;subst e;obtain⟨⟨A,c,rfl,hP⟩,⟨B,d,rfl,hQ⟩⟩:=hR;refine⟨g,off,A,c,B,d,hA,af he (hc 0 _ rfl),af he (hc 1 _ rfl),λW=>⟨by simp,λj y hj=>?_⟩⟩;have hj0:j=0:=by have:=(am2.1 hj).1;simpa using this
 subst hj0;obtain rfl:x=y:=by simpa using hj
 have b:=VB.new W 51 #[.slice A x.n.length c,.slice B x.d.length d];exact⟨W.heap.size,0,_,_,rfl,b.c0,b.c1,rfl,rfl,λw2 hw=>⟨⟨A,c,rfl,hP.ex hw⟩,⟨B,d,rfl,hQ.ex hw⟩⟩⟩
theorem Mc(h:kD Good w B H v r)(hH:H<=w.heap.size)(hB:B<=H)(P:Option Addr)(c:Nat)(s:List aF)(hs:jr Good w P s)(hl:r.length+s.length<=1099511627776):
 ∃v' w',(Builtin.append_ #[48,48] 48 #[v,.slice P s.length c]).run prog w=.ok v' w'/\kD Good w' B w'.heap.size v' (r++s)/\∀b',Ex b' w->b'.heap.size<=B->Ex b' w':=by
 obtain⟨jB,h1,h2,h3⟩:=h;obtain⟨v',w',tJ,k1,k2,k3,k4,k5⟩:=wI h1 hH hB P c s hs (by omega);refine⟨v',w',k1,⟨jB++tJ,k2,by rw[am9,am9,h2,k3],λj x hj=>?_⟩,k5⟩;by_cases e:j<r.length
 .rw[anN e]at hj;rw[anN (by omega)];exact h3 j x hj
 .rw[anw (by omega)]at hj;rw[anw (by omega),h2];exact k4 _ x hj
theorem VH{O:Ops aF}{k:Nat}(hk:k<n):(O.cols n rows).take (k+1)=(O.cols n rows).take k++[rows.map λr=>O.el r k]:=by rw[am_];congr 1;unfold Ops.cols;rw[am7,am0 (by rw[anK];exact hk),aoW];rfl
theorem oH(p:Int)(n:Nat)(rows:List (List aF))(A:Option Addr)(c:Nat)(w:World)(hF:aj p=true)(h:gm iE w A rows)(hw:aZ n rows)(hn:n<=24)(hR:rows.length<=1000)(sJ:∀c,c<=rows.length->iK p 17179869184 (gJ (ah p) ((ah p).beside ((ah p).cols n rows)) c).1):
 Calls prog 25 #[.int .i64 p,.slice A rows.length c,.int .i64 n] w λe w'=>∃A' c',e=.returned (.slice A' ((ah p).gH n rows).length c')/\(∀w2,bn (λk=>k<w.heap.size) w' w2->wo w2 A' ((ah p).gH n rows))/\Ex w w':=by
 have hl:=h.1;have HK:=λ(A':Option Addr) (c':Nat) (W:World) (hr:gm iE W A' ((ah p).cols n rows))=>Dt p rows.length ((ah p).cols n rows) A' c' W hF hr (nC _ _ _) sJ hR (by rw[kW];exact hn)
 rw[show(ah p).l6 rows.length ((ah p).cols n rows)=(ah p).gH n rows from rfl]at HK;have HCl:=amW (kW (ah p) n rows);have HCa:=amW (λk (hk:k<n)=>VH (O:=ah p) (rows:=rows) hk);have Hw:=amW hw;generalize(ah p).gH n rows=OR at*;generalize(ah p).cols n rows=C at*;rw[HCl.out]at HK;clear sJ hw hF;have wO:=GE.empty (wC w) 48 w (amX w.heap.size);have he1:=(asF w).alloc (.cells #[] 48);have hs1:(w.alloc (.cells #[] 48)).heap.size=w.heap.size+1:=by simp
 go_enter Tryz.func25,Tryz.ntmps25
 go_wp2_with fail
 go_loopw [7,14] (λo i wr=>∃k:Nat,k<=n/\i=.int .i64 k/\GE (wC w) 48 wr w.heap.size wr.heap.size o (C.take k)/\o≠.slice none 0 0/\Ex w wr) (λ_ i _=>n-(intOf i).toNat)
 case atStart=>exact⟨0,am4 _,rfl,by rw[hs1];exact wO,by simp,he1⟩
 case round=>
  rename World=>wi;clear wO he1 hs1;obtain⟨k,hk,rfl,hge,hnn,he⟩:=hrel;have hz:=he.size;by_cases hlt:k<n
  .have Bc:=GE.empty Ew 51 wi (amX wi.heap.size);have y1:=(asF wi).alloc (.cells #[] 51);have t1:(wi.alloc (.cells #[] 51)).heap.size=wi.heap.size+1:=by simp
   obtain⟨vA,vn,vc,ev⟩:=hge.f3;subst ev;go_wp2_with fail
   go_loopw [9,20] (λo i wr=>∃m:Nat,m<=rows.length/\i=.int .i64 m/\kD (Ex w) wr wi.heap.size wr.heap.size o ((rows.take m).map λr=>(ah p).el r k)/\Ex wi wr) (λ_ i _=>rows.length-(intOf i).toNat)
   case atStart=>exact⟨0,am4 _,rfl,⟨[],by rw[t1];exact Bc,rfl,λj x hj=>by simp at hj⟩,y1⟩
   case round=>
    rename World=>wj;clear Bc y1 t1;obtain⟨m,hm,rfl,hP,hj⟩:=hrel;have hzj:=hj.size;obtain⟨uA,un,uc,eu⟩:=hP.f3;subst eu;by_cases hmt:m<rows.length
    .obtain⟨g,off,r,v,rfl,hr,c0,hv⟩:=h.j5 hmt;obtain⟨P,pc,rfl,Gm⟩:=hv.form;have c0:=af (he.trans hj) c0;have hrn:=Hw.out r (am1 hr);obtain⟨x,hx⟩:∃x,r[k]?=some x:=⟨_,am0 (by omega)⟩;obtain⟨g1,o1,A1,c1,B1,d1,rfl,a0,a1,hq⟩:=P6 Gm (he.trans hj) hx;have HT:=amW (show(rows.take (m+1)).map (λr=>(ah p).el r k)=(rows.take m).map (λr=>(ah p).el r k)++[x] by
      rw[am_,hr,anQ];congr 1;show[(ah p).el r k]=[x];rw[(ah p).bT hx])
     have xa:=(asF wj).alloc (.cells #[.slice A1 x.n.length c1,.slice B1 x.d.length d1] 51);obtain⟨v',w',hrun,hP',hE⟩:=Mc (hP.ex xa) xa.size hzj (some ⟨wj.heap.size,0,none⟩) 1 [x] (hq wj) (by rw[am5,am8,aop];omega);rw[<-HT.out]at hP';have xw:=hE wi (hj.trans xa) (amX _);rw[hrn]at c0;clear hq hE hr hx hP HT hv Gm hrn;go_wp2_with (at_builtin;refine wpList_append_run rfl _ _ _ rfl rfl rfl hrun ?_)
     go_roundw;case rel=>exact⟨m+1,by omega,by go_num,hP',xw⟩
     case measure=>simp[intOf];omega
    .obtain rfl:m=rows.length:=by omega
     rw[anf]at hP;have HT:=amW (HCa.out k hlt);have hu:(wC w).O wj wi.heap.size wj.heap.size [.slice uA un uc] (rows.map λr=>(ah p).el r k):=hP.WV (by rw[am5];exact hl) (λw2 h0 _=>h0);obtain⟨v',w',hrun,hge',_,Ru,hE⟩:=iO (hge.ex hj) hzj hu (amX _) hzj (amX _) hz (by have:=HCl.out;rw[am8];omega);rw[<-HT.out]at hge';have xw:=hE w (he.trans hj) (amX _);clear hE hu hge hP HT;go_wp2_with (at_builtin;refine wpList_append_run rfl _ _ _ rfl rfl rfl hrun ?_)
     go_roundw;case rel=>exact⟨k+1,by omega,by go_num,hge',Ru,xw⟩
     case measure=>simp[intOf];omega
  .obtain rfl:k=n:=by omega
   rw[ann (by rw[HCl.out];exact amX _)]at hge;obtain⟨A3,c3,e3,hr3⟩:=hge.J7 (by rw[HCl.out];omega) he;subst e3;have hcall:=HK A3 c3 wi hr3;rw[HCl.out];clear HK;go_wp2_with fail
   refine hcall.mono ?_;rintro e w4 ⟨A4,c4,rfl,h4,x4⟩;go_wp2_with fail
   go_ret;exact⟨A4,c4,rfl,λw2 k2=>h4 w2 (k2.widen λz _ q=>anq q hz),he.trans x4⟩
section
section
variable {p : Int}
theorem U0(hF:aj p=true)(hL:1<=L)(hw:aZ n rows)(hg:iK p L rows)(hR:n<=R∨rows.length<=R):aZ rows.length ((ah p).l6 n rows)/\iK p (bZ R L) ((ah p).l6 n rows)/\((ah p).l6 n rows).length<=rows.length:=by
 have e:(ah p).red n 0 0 ((ah p).beside rows)=gJ (ah p) ((ah p).beside rows) n:=by have:=Dl (ah p) ((ah p).beside rows) n 0;rwa[anE]at this
 have hW:aZ (n+rows.length) ((ah p).red n 0 0 ((ah p).beside rows)).1:=aZ.red n 0 0 _ (am4 _) (gW hw);have hG:iK p (bZ R L) ((ah p).red n 0 0 ((ah p).beside rows)).1:=by rw[e];exact iR hF hL (v_ hF hL hg) (gW hw) (R:=R) (by rw[kX];exact hR) (by omega) n (amX _)
 have hL:=nO (ah p) n 0 0 ((ah p).beside rows);rw[kX]at hL;unfold Ops.l6;refine⟨λv hv=>?_,λv hv=>?_,?_⟩
 .obtain⟨u,hu,rfl⟩:=am3.1 hv;rw[anp,hW u (aoi hu)];omega
 .obtain⟨u,hu,rfl⟩:=am3.1 hv;exact λx hx=>hG u (aoi hu) x (aoi hx)
 .rw[am5,anp];omega
theorem Eg(hF:aj p=true)(hL:1<=L)(hg:iK p L rows):iK p L ((ah p).cols n rows):=λv hv=>by
 obtain⟨i,_,rfl⟩:=am3.1 hv;intro x hx;obtain⟨r,hr,rfl⟩:=am3.1 hx;unfold Ops.el;rw[am6];cases hi:r[i]? with
 |none=>exact⟨FV.zero hF,by simp[FL,zF,ah];omega⟩
 |some y=>exact hg r hr y (am1 hi)
theorem Dw(hF:aj p=true)(hL:1<=L)(hg:iK p L rows)(hR:n<=R):aZ n ((ah p).gH n rows)/\iK p (bZ R L) ((ah p).gH n rows)/\((ah p).gH n rows).length<=n:=by have:=U0 hF hL (nC (ah p) n rows) (Eg hF (n:=n) hL hg) (R:=R) (.inr (by rw[kW];exact hR));rw[kW]at this;exact this
theorem Dq(hF:aj p=true){L:Nat}:∀(l:List (Nat×aF)) (o:List aF) (M:Nat),1<=M->(∀x∈l,FV p x.2/\FL L x.2)->jH p M o->jH p (M+l.length*L) (l.foldl (λo x=>o.set x.1 ((ah p).add ((ah p).el o x.1) x.2)) o)
 |[],o,M,_,_,h=>by simpa using h
 |x::l,o,M,hM,hl,h=>by
  have hx:=hl x (by simp);have he:FV p ((ah p).el o x.1)/\FL M ((ah p).el o x.1):=by
   unfold Ops.el;rw[am6];cases hi:o[x.1]? with
   |none=>exact⟨FV.zero hF,by simp[FL,zF,ah];omega⟩
   |some y=>exact h y (am1 hi)
  have h1:jH p (M+L) (o.set x.1 ((ah p).add ((ah p).el o x.1) x.2)):=λy hy=>by
   rcases aoz hy with q|q
   .exact⟨(h y q).1,(h y q).2.mono (by omega)⟩
   .rw[q];exact⟨he.1.add hx.1,FL.add he.1 hx.1 he.2 hx.2⟩
  have h2:=Dq hF l _ (M+L) (by omega) (λy hy=>hl y (by simp[hy])) h1;refine h2.mono ?_;rw[anJ,aos];omega
theorem ER(hF:aj p=true)(h:jH p L row):jH p (1+E.length*L) ((ah p).iG W E row):=by
 have:=Dq hF (L:=L) (E.zip row) (replicate W zF) 1 (amX _) (λx hx=>h x.2 (List.of_mem_zip hx).2) (λy hy=>by
  rw[(List.mem_replicate.1 hy).2];exact⟨FV.zero hF,by simp[FL,zF]⟩)
 refine this.mono ?_;have h1:(E.zip row).length<=E.length:=by rw[List.length_zip];omega
 have:=an6 L h1;omega
theorem Lc(h:OB p W e):(aK (e.ins++e.outs)).length<=3/\e.ins.length+e.outs.length=(aK (e.ins++e.outs)).length:=by
 obtain⟨hk,_,hg,_⟩:=h;have hl:(aK (e.ins++e.outs)).length=e.ins.length+e.outs.length:=by unfold aK;rw[am5,am9]
 refine⟨?_,hl.symm⟩;rw[hl];rcases kinds hk with q|q|q|q|q|q|q|q|q|q|q|q<;>rw[q]at hg<;>simp[gw]at hg<;>omega
theorem SE(h:OB p W e)(hvl:Eo e.kd e.vl=true):ZG ⟨e.kd,e.vl,ByteArray.empty⟩=some (gw e.kd)/\ZF p ⟨e.kd,e.vl,ByteArray.empty⟩=true:=by
 obtain⟨hk,hv,_,_⟩:=h;have hk':3<=e.kd/\e.kd<=14:=by simpa[bN]using hk
 refine⟨?_,?_⟩
 .unfold ZG;rw[amZ (λq=>by have:=q.2.1;simp at this;omega),amZ (λq=>by have:=q.2.1;simp at this;omega),amY ⟨rfl,hk,hvl⟩]
 .unfold ZF;by_cases h7:e.kd=7∨e.kd=13
  .have:=hv h7;have:0<=e.vl/\e.vl<p:=by simpa[fe]using this
   simp;exact .inr this.2
  .simp[h7]
theorem D8(hF:aj p=true)(h:OB p W e)(hvl:Eo e.kd e.vl=true):aZ W (fT p W e)/\iK p 169 (fT p W e)/\(fT p W e).length<=3/\iK p 2 (dN p ⟨e.kd,e.vl,ByteArray.empty⟩)/\aZ (aK (e.ins++e.outs)).length (dN p ⟨e.kd,e.vl,ByteArray.empty⟩)/\(dN p ⟨e.kd,e.vl,ByteArray.empty⟩).length<=3:=by
 obtain⟨h1,h2⟩:=SE h hvl;have hd:=QU hF h1 h2;obtain⟨l3,l2⟩:=Lc h;have hg:=h.2.2.1;have ew:(gw e.kd).1.toNat+(gw e.kd).2.toNat=(aK (e.ins++e.outs)).length:=by rw[hg,<-l2];simp
 rw[ew]at hd;have hgd:=hd.gd;have hO:=Dw hF (n:=(aK (e.ins++e.outs)).length) (R:=3) (by omega) hgd l3;have hE:∀a∈aK (e.ins++e.outs),a<W:=λa ha=>by obtain⟨b,hb,rfl⟩:=am3.1 ha;have:=h.2.2.2 b hb;omega
 obtain⟨P,_,hP,_,wP,_⟩:=vX hF h;refine⟨?_,λr hr=>?_,?_,hgd,hd.wid,by have:=hd.len;omega⟩
 .rw[hP];exact aZ.dh.2 wP
 .obtain⟨q,hq,rfl⟩:=am3.1 hr;refine(ER hF (hO.2.1 q hq)).mono ?_;unfold bZ;omega
 .unfold fT;rw[am5];omega
theorem D7(hF:aj p=true)(h:OB p W e):aZ W (dK p W e)/\iK p 5 (dK p W e)/\(dK p W e).length<=2:=by
 obtain⟨_,R,_,hR,_,wR,_⟩:=vX hF h;have h2:=au hF;refine⟨by rw[hR];exact aZ.dh.2 wR,?_,?_⟩
 .unfold dK;have hx:FV p xF/\FL 2 xF:=⟨by rw[<-oD (hF:=hF)];exact(pe hF [0,1]).2,by simp[FL,xF]⟩;have ho:FV p oF/\FL 2 oF:=⟨FV.one hF,by simp[FL,oF]⟩;have key:∀a b:Nat,jH p 5 ((ah p).iG W [a,b] [oF,(ah p).neg xF]):=λa b=>ER hF (L:=2) λy hy=>by
   simp at hy;rcases hy with rfl|rfl
   .exact ho
   .exact⟨hx.1.neg,hx.2.neg⟩
  split
  .intro r hr;have:r=(ah p).iG W [(aK e.outs).getD 0 0,(aK e.ins).getD 0 0] [oF,(ah p).neg xF]:=by simpa[Ops.oM,Ops.Ic,Ops.Ie,ah]using hr
   rw[this];exact key _ _
  split
  .intro r hr;have:r=(ah p).iG W [(aK e.ins).getD 0 0,(aK e.outs).getD 0 0] [oF,(ah p).neg xF]:=by simpa[Ops.oM,Ops.Ic,Ops.Ie,ah]using hr
   rw[this];exact key _ _
  .intro r hr x hx;obtain⟨u,hu,rfl⟩:=am3.1 hr;obtain⟨a,ha,rfl⟩:=am3.1 hx;have he:=anl.1 ((Ag h2 W e.kd e.vl (aK e.ins) (aK e.outs)).2.1 u hu) a ha;obtain⟨f1,f2⟩:=WT (R3 hF he);refine⟨f1,?_⟩;unfold cF;split<;>simp[FL,zF]
 .unfold dK;split
  .simp[Ops.oM,Ops.Ic,Ops.Ie]
  split
  .simp[Ops.oM,Ops.Ic,Ops.Ie]
  .unfold oN;rw[am5];exact(Ag h2 W e.kd e.vl (aK e.ins) (aK e.outs)).2.2
theorem uF{L W m:Nat}{f:Ed->List (List aF)}:∀{es:List Ed},(∀e∈es,aZ W (f e)/\iK p L (f e)/\(f e).length<=m)->aZ W (es.flatMap f)/\iK p L (es.flatMap f)/\(es.flatMap f).length<=es.length*m
 |[],_=>⟨λr hr=>by simp at hr,λr hr=>by simp at hr,by simp⟩
 |e::es,h=>by
  obtain⟨h1,h2,h3⟩:=uF (es:=es) λa ha=>h a (by simp[ha])
  obtain⟨k1,k2,k3⟩:=h e (by simp);rw[ao_];refine⟨λr hr=>?_,λr hr=>?_,?_⟩
  .rcases anu.1 hr with q|q
   .exact k1 r q
   .exact h1 r q
  .rcases anu.1 hr with q|q
   .exact k2 r q
   .exact h2 r q
  .rw[am9,anJ,aos];omega
end
end
def ESP(P:World->Nat->Nat->Value->List (List aF)->Prop):EL RQ where
 k:=3
 O w a b vs q:=a<b/\b<=w.heap.size/\∃A c,vs=[.int .i64 q.l,.int .i64 q.r,.slice A q.b.length c]/\∀w2:World,(∀k,a<=k->k<b->w2.heap[k]?=w.heap[k]?)->P w2 a b (.slice A q.b.length c) q.b
 lN:=λ⟨_,_,A,c,h,_⟩=>by subst h;rfl
 keep:=λ{w w' a b vs x} ⟨h0,h1,A,c,h2,h3⟩ hk=>by
  have hbw:b<=w'.heap.size:=by have h4:=hk (b-1) (by omega) (by omega) (by omega);have h5:w.heap[b-1]?=some (w.heap[b-1]'(by omega)):=Array.getElem?_eq_getElem (by omega);rw[h5]at h4;have:=(an9.1 h4).1;omega
  exact⟨h0,hbw,A,c,h2,λw2 h=>h3 w2 λk k1 k2=>(h k k1 k2).trans (hk k k1 k2 (by omega))⟩
 one:=λ⟨_,_,A,c,h,_⟩ u hu=>by subst h;simp only[ani,anC,or_false]at hu;rcases hu with rfl|rfl|rfl<;>rfl
abbrev VY:EL RQ:=ESP rV
theorem J5(hF:aj p=true):(ah p).aB 2 [[oF,xF]]=[[oF,xF]]:=by
 have h:=tQ (ay p hF) (v:=[pe hF [1],pe hF [0,1]]) (n:=2) rfl (q:=0) (by omega) (vG hF) λj hj=>by omega
 have e:=(jl p hF).aB 2 [[pe hF [1],pe hF [0,1]]];rw[h]at e;have e2:dh Subtype.val [[pe hF [1],pe hF [0,1]]]=[[oF,xF]]:=by show[[(pe hF [1]).1,(pe hF [0,1]).1]]=_;rw[vG,oD];rfl
 rw[e2]at e;exact e
structure Dly (w:World) (g h:Nat) (A B C D:Option Addr) (a b c d gc hc:Nat):Prop where
 row:w.cell? ⟨g,0,none⟩=some (.slice (some ⟨h,0,none⟩) 2 hc)
 hc2:2<=hc
 c0:w.cell? ⟨h,0,none⟩=some (.slice A 1 a)
 c1:w.cell? ⟨h,1,none⟩=some (.slice B 1 b)
 c2:w.cell? ⟨h,2,none⟩=some (.slice C 2 c)
 c3:w.cell? ⟨h,3,none⟩=some (.slice D 1 d)
 rA:Rd w A [1]
 rB:Rd w B [1]
 rC:Rd w C [0,1]
 rD:Rd w D [1]
theorem Dly.P7{h:Nat}{B C D:Option Addr}{d gc hc:Nat}(k:Dly w g h A B C D a b c d gc hc):wo w (some ⟨g,0,none⟩) [[oF,xF]]:=by
 have hrow:gm EF w (some ⟨h,0,none⟩) [oF,xF]:=⟨by simp,λj x hj=>by
  rcases j with _|_|j
  .injection hj with hj;subst hj;refine⟨h,0,[.slice A 1 a,.slice B 1 b],rfl,λi u hi=>?_,_,_,rfl,⟨A,a,rfl,k.rA⟩,⟨B,b,rfl,k.rB⟩⟩;rcases i with _|_|i
   .injection hi with hi;subst hi;exact k.c0
   .injection hi with hi;subst hi;exact k.c1
   .simp at hi
  .injection hj with hj;subst hj;refine⟨h,0,[.slice C 2 c,.slice D 1 d],rfl,λi u hi=>?_,_,_,rfl,⟨C,c,rfl,k.rC⟩,⟨D,d,rfl,k.rD⟩⟩;rcases i with _|_|i
   .injection hi with hi;subst hi;exact k.c2
   .injection hi with hi;subst hi;exact k.c3
   .simp at hi
  .simp at hj⟩
 refine⟨⟨by simp,λj x hj=>?_⟩,λj r hj=>?_⟩
 .rcases j with _|j
  .injection hj with hj;subst hj;refine⟨g,0,[.slice (some ⟨h,0,none⟩) 2 hc],rfl,λi u hi=>?_,_,rfl,some ⟨h,0,none⟩,hc,rfl,hrow⟩;rcases i with _|i
   .injection hi with hi;subst hi;exact k.row
   .simp at hi
  .simp at hj
 .rcases j with _|j
  .injection hj with hj;subst hj;exact⟨g,0,some ⟨h,0,none⟩,hc,rfl,k.row,k.hc2,hrow⟩
  .simp at hj
theorem Vx{B:Option Addr}{cb:Nat}(fX:xK w (λk=>a<=k/\k<m) (.slice A 1 ca) (.slice B 1 cb) oF)(ham:a<=m)(b1:dH w m [0,1])(b2:dH w (m+1) [1])
 (v3:VB w (m+1+1) 51 #[.slice A 1 ca,.slice B 1 cb,.slice (some ⟨m,0,none⟩) 2 2,.slice (some ⟨m+1,0,none⟩) 1 1])
 (v4:VB w (m+1+1+1) 48 #[.slice (some ⟨m+1+1,0,none⟩) 2 2]):rV w a (m+1+1+1+1) (.slice (some ⟨m+1+1+1,0,none⟩) 1 1) [[oF,xF]]:=by
 have hC:XI w (λk=>k=m) (.slice (some ⟨m,0,none⟩) 2 2) xF.n:=⟨_,_,rfl,⟨b1.rd (by simp),amX _,λq e=>by injection e with e;subst e;exact⟨am4 _,_,b1⟩⟩,λq e=>by injection e with e;subst e;rfl⟩;have hD:XI w (λk=>k=m+1) (.slice (some ⟨m+1,0,none⟩) 1 1) xF.d:=⟨_,_,rfl,⟨b2.rd (by simp),amX _,λq e=>by injection e with e;subst e;exact⟨am4 _,_,b2⟩⟩,λq e=>by injection e with e;subst e;rfl⟩;have hx:xK w (λk=>m<=k/\k<m+1+1) (.slice (some ⟨m,0,none⟩) 2 2) (.slice (some ⟨m+1,0,none⟩) 1 1) xF:=⟨_,_,hC,hD,λk hk=>by omega,λk hk=>by omega,λk h1 h2=>by omega⟩;have hrow:OX Lp 51 w (λk=>a<=k/\k<m+1+1+1) (some ⟨m+1+1,0,none⟩) [oF,xF]:=by
  refine⟨by simp,λj k=>if j=0 then a<=k/\k<m else m<=k/\k<m+1+1,λj x hj=>?_,λi j k hi hj hne h1 h2=>?_⟩
  .rcases j with _|_|j
   .injection hj with hj;subst hj;refine⟨m+1+1,0,[.slice A 1 ca,.slice B 1 cb],_,rfl,by omega,v3,λi u hi=>?_,⟨_,_,rfl,fX⟩,λk hk=>?_,λhk=>?_⟩
    .rcases i with _|_|i
     .exact hi
     .exact hi
     .simp at hi
    .have hk:a<=k/\k<m:=hk;omega
    .have hk:a<=m+1+1/\m+1+1<m:=hk;omega
   .injection hj with hj;subst hj;refine⟨m+1+1,0,[.slice (some ⟨m,0,none⟩) 2 2,.slice (some ⟨m+1,0,none⟩) 1 1],_,rfl,by omega,v3,λi u hi=>?_,⟨_,_,rfl,hx⟩,λk hk=>?_,λhk=>?_⟩
    .rcases i with _|_|i
     .exact hi
     .exact hi
     .simp at hi
    .have hk:m<=k/\k<m+1+1:=hk;omega
    .have hk:m<=m+1+1/\m+1+1<m+1+1:=hk;omega
   .simp at hj
  .have hi:i<2:=hi;have hj:j<2:=hj;dsimp only at h1 h2;by_cases i0:i=0
   .rw[amY i0]at h1;rw[amZ (by omega)]at h2;omega
   .rw[amZ i0]at h1;rw[amY (by omega)]at h2;omega
 refine⟨_,_,λk=>a<=k/\k<m+1+1+1+1,rfl,λk hk=>hk,by simp,λ_ k=>a<=k/\k<m+1+1+1,λj x hj=>?_,λi j k hi hj hne=>?_⟩
 .rcases j with _|j
  .injection hj with hj;subst hj;refine⟨m+1+1+1,0,[.slice (some ⟨m+1+1,0,none⟩) 2 2],_,rfl,by omega,v4,λi u hi=>?_,⟨_,_,rfl,amX _,hrow⟩,λk hk=>by omega,λhk=>by omega⟩;rcases i with _|i
   .exact hi
   .simp at hi
  .simp at hj
 .have hi:i<1:=hi;have hj:j<1:=hj;omega
theorem VY.I6{y:Value}{q:RQ}(h:rV w a b y q.b)(hab:a<b)(hb:b<=w.heap.size):VY.O w a b [.int .i64 q.l,.int .i64 q.r,y] q:=by obtain⟨A,c,S,e,hS,o⟩:=h;subst e;exact⟨hab,hb,A,c,rfl,λw2 hk=>⟨A,c,S,rfl,hS,o.keep λi hi _=>hk i (hS i hi).1 (hS i hi).2⟩⟩
theorem MC(p v:Int)(nm:ByteArray)(w:World):
 Calls prog 56 #[.int .i64 p,.agg #[.int .i64 8,.int .i64 v,.string nm]] w λe w'=>∃y,e=.returned (.agg #[.int .i64 1,.int .i64 1,y])/\VY.O w' w.heap.size w'.heap.size [.int .i64 (1:Nat),.int .i64 (1:Nat),y] ⟨1,1,[[oF,xF]]⟩/\Ex w w':=by
 obtain⟨W0,hW0,x0,d0,s0⟩:=VB.an w 82 #[.int .i64 8,.int .i64 v,.string nm] rfl;obtain⟨W1,hW1,x1,d1,s1⟩:=VB.an W0 29 #[.int .i64 0,.int .i64 0,.slice none 0 0] s0;have D0:=d0.ex x1;have X1:=x0.trans x1;have cU:Calls prog 91 #[] W1 λe w'=>∃A c B d,e=.returned (.agg #[.slice A 1 c,.slice B 1 d])/\Fr w' W1.heap.size A c [1]/\Fr w' W1.heap.size B d [1]/\Apart A B/\Ex W1 w':=xR W1
 clear x0 x1 d0;go_enter Tryz.func56,Tryz.ntmps56
 go_wp2_with fail
 refine cU.mono ?_;rintro e w2 ⟨A,a,B,b,rfl,fA,fB,fAB,x2⟩;clear cU hW0 hW1;have b1:=dH.new w2 [0,1];have y1:=(asF w2).alloc (aO [0,1]);obtain⟨V1,hV1⟩:=xq (w2.alloc (.cells #[.int .i64 0,.int .i64 1] 3));have RH:w2.alloc (aO [0,1])=V1:=hV1;have t1:V1.heap.size=w2.heap.size+1:=by rw[<-hV1];simp
 rw[RH]at b1 y1;have b2:=dH.new V1 [1];have y2:=(asF V1).alloc (aO [1]);obtain⟨V2,hV2⟩:=xq (V1.alloc (.cells #[.int .i64 1] 3));have RG:V1.alloc (aO [1])=V2:=hV2;have t2:V2.heap.size=w2.heap.size+1+1:=by rw[<-hV2];simp[t1]
 rw[RG]at b2 y2;rw[t1]at b2;obtain⟨V3,hV3,y3,v3,t3⟩:=VB.an V2 51 #[.slice A 1 a,.slice B 1 b,.slice (some ⟨w2.heap.size,0,none⟩) 2 2,.slice (some ⟨w2.heap.size+1,0,none⟩) 1 1] t2;obtain⟨V4,hV4,y4,v4,t4⟩:=VB.an V3 48 #[.slice (some ⟨w2.heap.size+1+1,0,none⟩) 2 2] t3;obtain⟨V5,hV5,y5,dz,t5⟩:=VB.an V4 29 #[.int .i64 0,.int .i64 0,.slice none 0 0] t4;obtain⟨d6,zz⟩:=dz.ru (.int .i64 1) (.int .i64 1) (.slice (some ⟨w2.heap.size+1+1+1,0,none⟩) 1 1);obtain⟨u0,u1,u2⟩:=dz.d3;obtain⟨k0,k1,k2⟩:=dz.z3;have hz2:=x2.size;have y25:=(((y1.trans y2).trans y3).trans y4).trans y5;have XW:=(x2.trans y25);obtain⟨V6,hV6⟩:=xq (((V5.setCell ⟨w2.heap.size+1+1+1+1,0,none⟩ (.int .i64 1)).setCell ⟨w2.heap.size+1+1+1+1,1,none⟩ (.int .i64 1)).setCell ⟨w2.heap.size+1+1+1+1,2,none⟩ (.slice (some ⟨w2.heap.size+1+1+1,0,none⟩) 1 1));rw[hV6]at d6 zz;have e6:=zz.size;have DX:rV V6 (w.heap.size+1+1) (w2.heap.size+1+1+1+1) (.slice (some ⟨w2.heap.size+1+1+1,0,none⟩) 1 1) [[oF,xF]]:=by have Lx:=VB.aM ((v3.ex y4).ex y5) zz (by omega);have v4':=VB.aM (v4.ex y5) zz (by omega);have b1':=dH.aM ((((b1.ex y2).ex y3).ex y4).ex y5) zz (by omega);have b2':=dH.aM (((b2.ex y3).ex y4).ex y5) zz (by omega);have fX:=(((cB (x:=oF) (B:=w.heap.size+1+1) (by rw[<-s1];exact fA) (by rw[<-s1];exact fB) fAB (by omega)).ex y25).e1 zz (.inr (by omega))).xf;exact Vx fX (by omega) b1' b2' Lx v4'
 have d1':=VB.aM (d1.ex XW) zz (by omega);have D0':=VB.aM (D0.ex XW) zz (by omega);have X6:=(X1.trans XW).aM zz (by omega);obtain⟨g0,g1,g2⟩:=D0'.d3;obtain⟨m0,m1,m2⟩:=d6.d3;obtain⟨dd,zr⟩:=d1'.ru (.int .i64 1) (.int .i64 1) (Value.slice (some ⟨w2.heap.size+1+1+1,0,none⟩) 1 1);obtain⟨r0,r1,r2⟩:=d1'.d3;obtain⟨f0,f1,f2⟩:=d1'.z3;obtain⟨C0,C1,C2⟩:=dd.d3;have eF:=X6.aM zr (by omega);have zs:=zr.size;clear d6 D0' D0 dz v3 v4 b1 b2;go_wp2_with fail
 refine ane (v:=.agg #[.int .i64 1,.int .i64 1,.slice (some ⟨w2.heap.size+1+1+1,0,none⟩) 1 1]) (by simp[results,Tryz.results56,go_sem,C0,C1,C2]) rfl ?_;refine⟨_,rfl,VY.I6 (q:=⟨1,1,[[oF,xF]]⟩) (((DX.iv (fD.a_ zr) (.inr (by omega))).more (a':=w.heap.size) (by omega) (by omega))) (by omega) (amX _),eF⟩
theorem IK(p v:Int)(nm:ByteArray)(w:World)(hF:aj p=true):
 Calls prog 56 #[.int .i64 p,.agg #[.int .i64 14,.int .i64 v,.string nm]] w λe w'=>∃y,e=.returned (.agg #[.int .i64 1,.int .i64 1,y])/\VY.O w' w.heap.size w'.heap.size [.int .i64 (1:Nat),.int .i64 (1:Nat),y] ⟨1,1,(ah p).aB 2 [[xF,oF]]⟩/\Ex w w':=by
 have hG:iK p 21 [[oF,xF]]:=by have:=(w_.delay (hF:=hF)).gd.mono (show 1+1<=21 by omega);rwa[J5 hF]at this
 obtain⟨RR,hRR⟩:=xq ((ah p).aB 2 [[xF,oF]]);rw[hRR];have HRR:=amW hRR;clear hRR;obtain⟨W0,hW0,x0,d0,s0⟩:=VB.an w 82 #[.int .i64 14,.int .i64 v,.string nm] rfl;obtain⟨W1,hW1,x1,d1,s1⟩:=VB.an W0 29 #[.int .i64 0,.int .i64 0,.slice none 0 0] s0;have D0:=d0.ex x1;have X1:=x0.trans x1;have cU:Calls prog 91 #[] W1 λe w'=>∃A c B d,e=.returned (.agg #[.slice A 1 c,.slice B 1 d])/\Fr w' W1.heap.size A c [1]/\Fr w' W1.heap.size B d [1]/\Apart A B/\Ex W1 w':=xR W1
 clear x0 x1 d0;go_enter Tryz.func56,Tryz.ntmps56
 go_wp2_with fail
 refine cU.mono ?_;rintro e w2 ⟨A,a,B,b,rfl,fA,fB,_,x2⟩;clear cU hW0 hW1;have b1:=dH.new w2 [0,1];have y1:=(asF w2).alloc (aO [0,1]);obtain⟨V1,hV1⟩:=xq (w2.alloc (.cells #[.int .i64 0,.int .i64 1] 3));have RH:w2.alloc (aO [0,1])=V1:=hV1;have t1:V1.heap.size=w2.heap.size+1:=by rw[<-hV1];simp
 rw[RH]at b1 y1;have b2:=dH.new V1 [1];have y2:=(asF V1).alloc (aO [1]);obtain⟨V2,hV2⟩:=xq (V1.alloc (.cells #[.int .i64 1] 3));have RG:V1.alloc (aO [1])=V2:=hV2;have t2:V2.heap.size=w2.heap.size+1+1:=by rw[<-hV2];simp[t1]
 rw[RG]at b2 y2;rw[t1]at b2;obtain⟨V3,hV3,y3,v3,t3⟩:=VB.an V2 51 #[.slice A 1 a,.slice B 1 b,.slice (some ⟨w2.heap.size,0,none⟩) 2 2,.slice (some ⟨w2.heap.size+1,0,none⟩) 1 1] t2;obtain⟨V4,hV4,y4,v4,t4⟩:=VB.an V3 48 #[.slice (some ⟨w2.heap.size+1+1,0,none⟩) 2 2] t3;obtain⟨V5,hV5,y5,dz,t5⟩:=VB.an V4 29 #[.int .i64 0,.int .i64 0,.slice none 0 0] t4;obtain⟨d6,zz⟩:=dz.ru (.int .i64 1) (.int .i64 1) (.slice (some ⟨w2.heap.size+1+1+1,0,none⟩) 1 1);obtain⟨u0,u1,u2⟩:=dz.d3;obtain⟨k0,k1,k2⟩:=dz.z3;have hz2:=x2.size;have y25:=(((y1.trans y2).trans y3).trans y4).trans y5;have XW:=(x2.trans y25);obtain⟨V6,hV6⟩:=xq (((V5.setCell ⟨w2.heap.size+1+1+1+1,0,none⟩ (.int .i64 1)).setCell ⟨w2.heap.size+1+1+1+1,1,none⟩ (.int .i64 1)).setCell ⟨w2.heap.size+1+1+1+1,2,none⟩ (.slice (some ⟨w2.heap.size+1+1+1,0,none⟩) 1 1));rw[hV6]at d6 zz;have e6:=zz.size;have DL:Dly V6 (w2.heap.size+1+1+1) (w2.heap.size+1+1) A B (some ⟨w2.heap.size,0,none⟩) (some ⟨w2.heap.size+1,0,none⟩) a b 2 1 1 2:=by have Lx:=VB.aM ((v3.ex y4).ex y5) zz (by omega);have v4':=VB.aM (v4.ex y5) zz (by omega);have b1':=dH.aM ((((b1.ex y2).ex y3).ex y4).ex y5) zz (by omega);have b2':=dH.aM (((b2.ex y3).ex y4).ex y5) zz (by omega);have hA:=(fA.rd.ex y25).aM zz (λq e=>by have:=fA.rd.oq (by simp) q e;omega);have hB:=(fB.rd.ex y25).aM zz (λq e=>by have:=fB.rd.oq (by simp) q e;omega);exact⟨v4'.c0,amX _,Lx.c0,Lx.c1,Lx.c2,Lx.c3,hA,hB,b1'.rd (by simp),b2'.rd (by simp)⟩
 have lA:∀q,A=some q->w.heap.size+1+1<=q.block/\q.block<w2.heap.size+1:=λq e=>⟨by have:=fA.hi q e;omega,by have:=fA.rd.oq (by simp) q e;omega⟩
 have lB:∀q,B=some q->w.heap.size+1+1<=q.block/\q.block<w2.heap.size+1:=λq e=>⟨by have:=fB.hi q e;omega,by have:=fB.rd.oq (by simp) q e;omega⟩
 have d1':=VB.aM (d1.ex XW) zz (by omega);have D0':=VB.aM (D0.ex XW) zz (by omega);have X6:=(X1.trans XW).aM zz (by omega);obtain⟨g0,g1,g2⟩:=D0'.d3;obtain⟨m0,m1,m2⟩:=d6.d3;have cC:Calls prog 92 #[.int .i64 p,.agg #[.int .i64 1,.int .i64 1,.slice (some ⟨w2.heap.size+1+1+1,0,none⟩) 1 1]] V6 λe w'=>∃y,e=.returned (.agg #[.int .i64 1,.int .i64 1,y])/\rV w' V6.heap.size w'.heap.size y RR/\Ex V6 w':=by rw[<-HRR.out];exact Bz p 1 1 [[oF,xF]] (some ⟨w2.heap.size+1+1+1,0,none⟩) 1 V6 DL.P7 (by simp) (by omega) (λu hu=>by rw[ank.1 hu];rfl) (λu hu=>by rw[ank.1 hu];simp) hF hG
 clear hG hF;clear d6 D0' D0 dz v3 v4 b1 b2;go_wp2_with fail
 refine cC.mono ?_;rintro e w9 ⟨y,rfl,o9,x9⟩;have d9:=d1'.ex x9;obtain⟨A9,c9,ey,_⟩:=o9.rd;subst ey;have z9:=x9.size;obtain⟨dd,zr⟩:=d9.ru (.int .i64 1) (.int .i64 1) (.slice A9 RR.length c9);obtain⟨r0,r1,r2⟩:=d9.d3;obtain⟨f0,f1,f2⟩:=d9.z3;obtain⟨C0,C1,C2⟩:=dd.d3;have eF:=(X6.trans x9).aM zr (by omega);have zs:=zr.size;have oF9:=(o9.iv (fD.a_ zr) (.inr (by omega))).more (a':=w.heap.size) (by omega) zs;have hE:=VY.I6 (q:=⟨1,1,RR⟩) oF9 (by omega) (amX _);clear cC o9 oF9;go_wp2_with fail
 refine ane (v:=.agg #[.int .i64 1,.int .i64 1,.slice A9 RR.length c9]) (by simp[results,Tryz.results56,go_sem,C0,C1,C2]) rfl ?_;exact⟨_,rfl,hE,eF⟩
theorem qz(p k v:Int)(nm:ByteArray)(l r:Nat)(LZ:List (List Int))(w:World)(h8:k≠8)(mD:k≠14)
 (cL:∀W,Calls prog 94 #[.int .i64 p,.agg #[.int .i64 k,.int .i64 v,.string nm]] W λe w'=>∃A c,e=.returned (.agg #[.int .i64 l,.int .i64 r,.slice A LZ.length c])/\pI w' A LZ/\Ex W w'):
 Calls prog 56 #[.int .i64 p,.agg #[.int .i64 k,.int .i64 v,.string nm]] w λe w'=>∃y,e=.returned (.agg #[.int .i64 l,.int .i64 r,y])/\VY.O w' w.heap.size w'.heap.size [.int .i64 l,.int .i64 r,y] ⟨l,r,oN LZ⟩/\Ex w w':=by
 have hb8:(k==8)=false:=by simp;omega
 have aky:(k==14)=false:=by simp;omega
 clear h8 mD;have cK:=λ(W:World) (A:Option Addr) (c:Nat) (h:pI W A LZ)=>zN ⟨l,r,LZ⟩ A c W h
 dsimp only at cK;obtain⟨RR,hRR⟩:=xq (oN LZ);rw[hRR]at cK⊢;clear hRR;obtain⟨W0,hW0,x0,d0,s0⟩:=VB.an w 82 #[.int .i64 k,.int .i64 v,.string nm] rfl;obtain⟨W1,hW1,x1,d1,s1⟩:=VB.an W0 29 #[.int .i64 0,.int .i64 0,.slice none 0 0] s0;have D0:=d0.ex x1;have X1:=x0.trans x1;have cU:Calls prog 91 #[] W1 λe w'=>∃A c B d,e=.returned (.agg #[.slice A 1 c,.slice B 1 d])/\Fr w' W1.heap.size A c [1]/\Fr w' W1.heap.size B d [1]/\Apart A B/\Ex W1 w':=xR W1
 clear x0 x1 d0;go_enter Tryz.func56,Tryz.ntmps56
 go_wp2_with fail
 refine cU.mono ?_;rintro e w2 ⟨A,a,B,b,rfl,fA,fB,_,x2⟩;clear cU hW0 hW1;have b1:=dH.new w2 [0,1];have y1:=(asF w2).alloc (aO [0,1]);obtain⟨V1,hV1⟩:=xq (w2.alloc (.cells #[.int .i64 0,.int .i64 1] 3));have RH:w2.alloc (aO [0,1])=V1:=hV1;have t1:V1.heap.size=w2.heap.size+1:=by rw[<-hV1];simp
 rw[RH]at b1 y1;have b2:=dH.new V1 [1];have y2:=(asF V1).alloc (aO [1]);obtain⟨V2,hV2⟩:=xq (V1.alloc (.cells #[.int .i64 1] 3));have RG:V1.alloc (aO [1])=V2:=hV2;have t2:V2.heap.size=w2.heap.size+1+1:=by rw[<-hV2];simp[t1]
 rw[RG]at b2 y2;rw[t1]at b2;obtain⟨V3,hV3,y3,v3,t3⟩:=VB.an V2 51 #[.slice A 1 a,.slice B 1 b,.slice (some ⟨w2.heap.size,0,none⟩) 2 2,.slice (some ⟨w2.heap.size+1,0,none⟩) 1 1] t2;obtain⟨V4,hV4,y4,v4,t4⟩:=VB.an V3 48 #[.slice (some ⟨w2.heap.size+1+1,0,none⟩) 2 2] t3;obtain⟨V5,hV5,y5,dz,t5⟩:=VB.an V4 29 #[.int .i64 0,.int .i64 0,.slice none 0 0] t4;obtain⟨d6,zz⟩:=dz.ru (.int .i64 1) (.int .i64 1) (.slice (some ⟨w2.heap.size+1+1+1,0,none⟩) 1 1);obtain⟨u0,u1,u2⟩:=dz.d3;obtain⟨k0,k1,k2⟩:=dz.z3;have hz2:=x2.size;have y25:=(((y1.trans y2).trans y3).trans y4).trans y5;have XW:=(x2.trans y25);obtain⟨V6,hV6⟩:=xq (((V5.setCell ⟨w2.heap.size+1+1+1+1,0,none⟩ (.int .i64 1)).setCell ⟨w2.heap.size+1+1+1+1,1,none⟩ (.int .i64 1)).setCell ⟨w2.heap.size+1+1+1+1,2,none⟩ (.slice (some ⟨w2.heap.size+1+1+1,0,none⟩) 1 1));rw[hV6]at d6 zz;have e6:=zz.size;have DL:Dly V6 (w2.heap.size+1+1+1) (w2.heap.size+1+1) A B (some ⟨w2.heap.size,0,none⟩) (some ⟨w2.heap.size+1,0,none⟩) a b 2 1 1 2:=by have Lx:=VB.aM ((v3.ex y4).ex y5) zz (by omega);have v4':=VB.aM (v4.ex y5) zz (by omega);have b1':=dH.aM ((((b1.ex y2).ex y3).ex y4).ex y5) zz (by omega);have b2':=dH.aM (((b2.ex y3).ex y4).ex y5) zz (by omega);have hA:=(fA.rd.ex y25).aM zz (λq e=>by have:=fA.rd.oq (by simp) q e;omega);have hB:=(fB.rd.ex y25).aM zz (λq e=>by have:=fB.rd.oq (by simp) q e;omega);exact⟨v4'.c0,amX _,Lx.c0,Lx.c1,Lx.c2,Lx.c3,hA,hB,b1'.rd (by simp),b2'.rd (by simp)⟩
 have lA:∀q,A=some q->w.heap.size+1+1<=q.block/\q.block<w2.heap.size+1:=λq e=>⟨by have:=fA.hi q e;omega,by have:=fA.rd.oq (by simp) q e;omega⟩
 have lB:∀q,B=some q->w.heap.size+1+1<=q.block/\q.block<w2.heap.size+1:=λq e=>⟨by have:=fB.hi q e;omega,by have:=fB.rd.oq (by simp) q e;omega⟩
 have d1':=VB.aM (d1.ex XW) zz (by omega);have D0':=VB.aM (D0.ex XW) zz (by omega);have X6:=(X1.trans XW).aM zz (by omega);obtain⟨g0,g1,g2⟩:=D0'.d3;obtain⟨m0,m1,m2⟩:=d6.d3;clear d6 D0' D0 dz v3 v4 b1 b2 DL;go_wp2_with fail
 refine(cL _).mono ?_;rintro e w8 ⟨A8,c8,rfl,r8,x8⟩;go_wp2_with fail
 refine(cK _ _ _ r8).mono ?_;rintro e w9 ⟨y,rfl,o9,x9⟩;have d9:=d1'.ex (x8.trans x9);obtain⟨A9,c9,ey,_⟩:=o9.rd;subst ey;have z9:=x9.size;have z8:=x8.size;obtain⟨dd,zr⟩:=d9.ru (.int .i64 l) (.int .i64 r) (.slice A9 RR.length c9);obtain⟨r0,r1,r2⟩:=d9.d3;obtain⟨f0,f1,f2⟩:=d9.z3;obtain⟨C0,C1,C2⟩:=dd.d3;have eF:=(X6.trans (x8.trans x9)).aM zr (by omega);have zs:=zr.size;have oF9:=(o9.iv (fD.a_ zr) (.inr (by omega))).more (a':=w.heap.size) (by omega) zs;have hE:=VY.I6 (q:=⟨l,r,RR⟩) oF9 (by omega) (amX _);clear cK cL o9 oF9;go_wp2_with fail
 refine ane (v:=.agg #[.int .i64 l,.int .i64 r,.slice A9 RR.length c9]) (by simp[results,Tryz.results56,go_sem,C0,C1,C2]) rfl ?_;exact⟨_,rfl,hE,eF⟩
theorem YT(h:bN 9 13 k=true){r:Nat}(hg:gw (k-6)=((l:Int),(r:Int))):gw k=((r:Int),(l:Int)):=by
 have h:k=9∨k=10∨k=11∨k=12∨k=13:=by simp[bN]at h;omega
 rcases h with rfl|rfl|rfl|rfl|rfl
 all_goals
  obtain⟨h1,h2⟩:=Prod.mk.inj hg;exact Prod.ext h2 h1
theorem MF(p:Int)(nd:Nd)(T:Int×Int)(w:World)(hF:aj p=true)(hl:ZG nd=some T)(hv:ZF p nd=true)(hT:T.1.toNat+T.2.toNat<=12):
 Calls prog 56 #[.int .i64 p,.agg #[.int .i64 nd.kd,.int .i64 nd.vl,.string nd.nm]] w λe w'=>∃y,e=.returned (.agg #[.int .i64 T.1.toNat,.int .i64 T.2.toNat,y])/\VY.O w' w.heap.size w'.heap.size [.int .i64 T.1.toNat,.int .i64 T.2.toNat,y] ⟨T.1.toNat,T.2.toNat,dN p nd⟩/\Ex w w':=by
 obtain⟨k,v,nm⟩:=nd;unfold ZG at hl;dsimp only at hl⊢;split at hl
 .rename_i h1;injection hl with hl;subst hl;obtain⟨_,hk,hi⟩:=h1;subst hk;have hi:0<=v/\v<=12:=by simpa[bN]using hi
  obtain⟨n,rfl⟩:∃n:Nat,v=(n:Int):=⟨v.toNat,by omega⟩;have e:dN p ⟨1,(n:Int),nm⟩=oN (H_ n):=by unfold dN;rw[amZ (by dsimp only;omega),amZ (by dsimp only;omega)];rfl
  rw[e];exact qz p 1 n nm n n (H_ n) w (by decide) (by decide) λW=>Je p n nm W (by omega)
 .split at hl
  .rename_i h1;injection hl with hl;subst hl;obtain⟨_,hk,hi⟩:=h1;subst hk hi;have e:dN p ⟨2,0,nm⟩=oN ((aA p).aB 4 [[1,0,0,1],[0,1,1,0]]):=by
    unfold dN;rw[amZ (by dsimp only;omega),amZ (by dsimp only;omega)];rfl
   rw[e];exact qz p 2 0 nm 2 2 _ w (by decide) (by decide) λW=>DJ p 0 nm W hF
  .split at hl
   .rename_i h1;injection hl with hl;subst hl;obtain⟨_,hk,hvl⟩:=h1;have hk':3<=k/\k<=14:=by simpa[bN]using hk
    have hel:k=7∨k=13->fe p v=true:=λe=>by unfold Eo at hvl;rw[amY e]at hvl;unfold ZF at hv;simp[e,bN]at hv hvl;simp[fe];omega
    by_cases h8:k=8
    .subst h8;have e:dN p ⟨8,v,nm⟩=[[oF,xF]]:=by
      unfold dN;rw[amY rfl];exact J5 hF
     rw[e];exact MC p v nm w
    .by_cases mD:k=14
     .subst mD;have e:dN p ⟨14,v,nm⟩=(ah p).aB 2 [[xF,oF]]:=by
       unfold dN;rw[amZ (by dsimp only;omega),amY rfl]
      rw[e];exact IK p v nm w hF
     .have e:dN p ⟨k,v,nm⟩=oN (dX p k v):=by
       unfold dN;rw[amZ h8,amZ mD]
      rw[e];by_cases h7:k<=7
      .obtain⟨l,r,hg,_⟩:=DR k;rw[hg];exact qz p k v nm l r (dX p k v) w h8 mD λW=>FQ p k v nm l r W hF (by simp[bN];omega) (λe=>hel (.inl e)) hg
      .obtain⟨l,r,hg,_⟩:=DR (k-6);have h9:bN 9 13 k=true:=by simp[bN];omega
       rw[YT h9 hg];exact qz p k v nm r l (dX p k v) w h8 mD λW=>Jf p k v nm l r W hF h9 (λe=>hel (.inr e)) hg
   .cases hl
theorem E8{r:List Int}(hr:Rd w A r){A':Option Addr}{c':Nat}{r':List Int}(hr':Rd w A' r')(t:TypeId):
 pI (w.alloc (.cells #[.slice A r.length c,.slice A' r'.length c'] t)) (some ⟨w.heap.size,0,none⟩) [r,r']:=by
 have v:=VB.new w t #[.slice A r.length c,.slice A' r'.length c'];have x:=(asF w).alloc (.cells #[.slice A r.length c,.slice A' r'.length c'] t);refine⟨by simp,λj y hj=>?_⟩;rcases j with _|_|j
 .simp at hj;subst hj;exact⟨_,0,A,c,rfl,v.c0,hr.ex x⟩
 .simp at hj;subst hj;exact⟨_,0,A',c',rfl,v.c1,hr'.ex x⟩
 .simp at hj
def bV(p:Int)(W:Nat)(E:List Nat)(row:List aF)(j:Nat):List aF:=((E.zip row).take j).foldl (λo x=>o.set x.1 ((ah p).add ((ah p).el o x.1) x.2)) (replicate W zF)
theorem uZ(p:Int)(W:Nat)(E:List Nat)(row:List aF)(j:Nat):(bV p W E row j).length=W:=by
 unfold bV;have:∀(l:List (Nat×aF)) (o:List aF),(l.foldl (λo x=>o.set x.1 ((ah p).add ((ah p).el o x.1) x.2)) o).length=o.length:=by
  intro l
  induction l with
  |nil=>intro o;rfl
  |cons x l ih=>intro o;rw[List.foldl_cons,ih,anj]
 rw[this,anD]
theorem kM(p:Int)(W:Nat){u:Nat}(hu:E[j]?=some u)(hx:row[j]?=some x):bV p W E row (j+1)=(bV p W E row j).set u (eO p ((ah p).el (bV p W E row j) u) x):=by
 unfold bV;have:(E.zip row)[j]?=some (u,x):=by rw[aoU];exact⟨hu,hx⟩
 rw[am_,this,List.foldl_append];rfl
theorem BR(p:Int)(W:Nat)(hj:E.length<=j):bV p W E row j=(ah p).iG W E row:=by unfold bV Ops.iG;rw[ann (by rw[List.length_zip];omega)];rfl
theorem yN(hF:aj p=true)(h:jH p L row)(j:Nat):jH p (1+E.length*L) (bV p W E row j):=by
 have:=Dq hF (L:=L) ((E.zip row).take j) (replicate W zF) 1 (amX _) (λx hx=>h x.2 (List.of_mem_zip (an5 hx)).2) (λy hy=>by
  rw[(List.mem_replicate.1 hy).2];exact⟨FV.zero hF,by simp[FL,zF]⟩)
 refine this.mono ?_;have h1:((E.zip row).take j).length<=E.length:=by rw[am8,List.length_zip];omega
 have:=an6 L h1;omega
theorem IL(p:Int)(N n:Nat)(pl:List Int)(row:List aF)(PL:Option Addr)(plc:Nat)(P:Option Addr)(pc g0 c0 B:Nat)(w:World)(hF:aj p=true)(hpl:Rd w PL pl)(hpn:pl.length=n)(hin:∀a∈pl,0<=a/\a<N)(hrow:gm EF w P row)(hrn:row.length=n)(hg:jH p 100000 row)(hn3:n<=3)(hN:N<=100)(j:Nat)(hj:j<n)
 (hge:GE pq 51 w B w.heap.size (.slice (some ⟨g0,0,none⟩) N c0) (bV p N (aK pl) row j)) (hB:B<=w.heap.size):
 ∃(a:Nat) (A C D G:Option Addr) (ac cc dc gc:Nat) (gp op gr Wm:Nat) (x y:aF),PL=some ⟨gp,op,none⟩/\P=some ⟨gr,Wm,none⟩/\w.cell? ⟨gp,op+j,none⟩=some (.int .i64 a)/\a<N/\
  (∃cur:Array Value,VB w g0 51 cur/\cur[a*2]?=some (.slice A x.n.length ac)/\cur[a*2+1]?=some (.slice C x.d.length cc))/\w.cell? ⟨gr,Wm+j*2,none⟩=some (.slice D y.n.length dc)/\w.cell? ⟨gr,Wm+j*2+1,none⟩=some (.slice G y.d.length gc)/\B<=g0/\
  (∀W,Ex w W->Calls prog 59 #[.int .i64 p,.agg #[.slice A x.n.length ac,.slice C x.d.length cc],.agg #[.slice D y.n.length dc,.slice G y.d.length gc]] W λe w'=>wZ W (eO p x y) e w')/\
  ∀(W:World) (A3 B3:Option Addr) (c3 d3:Nat),Ex w W->∀W3,Ex W W3->Fr W3 W.heap.size A3 c3 (eO p x y).n->Fr W3 W.heap.size B3 d3 (eO p x y).d->Apart A3 B3->
   GE pq 51 ((W3.setCell ⟨g0,a*2,none⟩ (.slice A3 (eO p x y).n.length c3)).setCell ⟨g0,a*2+1,none⟩ (.slice B3 (eO p x y).d.length d3)) B W3.heap.size (.slice (some ⟨g0,0,none⟩) N c0) (bV p N (aK pl) row (j+1)):=by
 have hlen:=uZ p N (aK pl) row j;obtain⟨gp,op,ai,rfl,hai,Ba,hcp⟩:=hpl.at_ (k:=j) (by omega);obtain⟨abD,abC⟩:=hin ai (am1 hai);obtain⟨a,rfl⟩:∃a:Nat,ai=(a:Int):=⟨ai.toNat,by omega⟩;have Vb:a<N:=by omega
 obtain⟨gr,Wm,y,D,dc,G,gc,rfl,hy,d0,d1,hD,hG⟩:=hrow.ku (j:=j) (by omega);obtain⟨x,hx⟩:∃x,(bV p N (aK pl) row j)[a]?=some x:=⟨_,am0 (by omega)⟩;have Yz:=hge;obtain⟨cur,al,bl,_,hgB,hgH,hh,hcells,_⟩:=Yz.at_;obtain⟨u,hu,hO,hal,hbl,hgo⟩:=hcells a x hx;obtain⟨u0,u1,rfl,hxo⟩:=hO;obtain⟨⟨A,ac,rfl,hA⟩,⟨C,cc,rfl,hC⟩⟩:=hxo.rd;have hv:VB w g0 51 cur:=hh;have r0:cur[a*2]?=some (.slice A x.n.length ac):=hu 0 _ rfl;have r1:cur[a*2+1]?=some (.slice C x.d.length cc):=hu 1 _ rfl;have hst:=kM p N (E:=aK pl) (row:=row) (j:=j) (u:=a) (x:=y) (by unfold aK;rw[am7,hai];rfl) hy;have hel:(ah p).el (bV p N (aK pl) row j) a=x:=(ah p).bT hx;rw[hel]at hst;obtain⟨hx1,hx2⟩:=yN hF (W:=N) (E:=aK pl) hg j x (am1 hx);have hnl:(aK pl).length=n:=by unfold aK;rw[am5,hpn]
 rw[hnl]at hx2;obtain⟨hy1,hy2⟩:=hg y (am1 hy);have hx3:FL 400000 x:=hx2.mono (by have:=an6 100000 hn3;omega);refine⟨a,A,C,D,G,ac,cc,dc,gc,gp,op,gr,Wm,x,y,rfl,rfl,hcp,Vb,⟨cur,hv,r0,r1⟩,d0,d1,hgB,λW hW=>?_,λW A3 B3 c3 d3 hW W3 hW3 f3 p3 Ig=>?_⟩
 .exact rT p A C ac cc x.n x.d D G dc gc y.n y.d W (hA.ex hW) (hC.ex hW) (hD.ex hW) (hG.ex hW) (hx1.xZ (by have:=hx3.1;omega) (by have:=hx3.2;omega)) (hy1.xZ (by have:=hy2.1;omega) (by have:=hy2.2;omega))
 .have hz:=hW.size;have hz3:=hW3.size;have xf:=cB (x:=eO p x y) f3 p3 Ig hz3;have hgl:=aC hh;have hv3:VB W3 g0 51 cur:=((hW.trans hW3).block hgl).trans hh;have dv:VB ((W3.setCell ⟨g0,a*2,none⟩ (.slice A3 (eO p x y).n.length c3)).setCell ⟨g0,a*2+1,none⟩ (.slice B3 (eO p x y).d.length d3)) g0 51 ((cur.setIfInBounds (a*2) (.slice A3 (eO p x y).n.length c3)).setIfInBounds (a*2+1) (.slice B3 (eO p x y).d.length d3)):=(hv3.aX _ _).aX _ _;have e1:aJ g0 W3 ((W3.setCell ⟨g0,a*2,none⟩ (.slice A3 (eO p x y).n.length c3)).setCell ⟨g0,a*2+1,none⟩ (.slice B3 (eO p x y).d.length d3)):=((aJ.refl g0 W3).setCell (p:=⟨g0,a*2,none⟩) rfl _).setCell (p:=⟨g0,a*2+1,none⟩) rfl _;have hge':GE pq 51 w B w.heap.size (.slice (some ⟨g0,0,none⟩) (bV p N (aK pl) row j).length c0) (bV p N (aK pl) row j):=by rw[hlen];exact hge
  have hT:=hge'.OV (x:=eO p x y) (b:=W3.heap.size) (v0:=.slice A3 (eO p x y).n.length c3) (v1:=.slice B3 (eO p x y).d.length d3) (i:=a) (by omega) hh dv (λk hk hkg=>(e1.block k (by omega) (λe=>hkg (by injection e))).trans ((hW.trans hW3).block hk)) ((xf.e1 e1 (.inl (by omega))).more hz (amX _)) (by omega);rw[hst];rw[hlen]at hT;exact hT
theorem fD.own{u v:World}{o:Option Nat}(h:fD 0 a u v)(k:wB o v w)(ho:∀g,o=some g->g<a∨u.heap.size<=g):fD 0 a u w:=
 ⟨k.os.trans h.os,k.tape.trans h.tape,k.output.trans h.output,anb h.size k.size,λi hi hn=>(k.block i (by have:=h.size;omega) (λe=>by have:=ho i e.symm;omega)).trans (h.block i hi hn)⟩
theorem fD.sx{u v:World}(h:fD 0 a u v)(hab:a<=b):bn (λk=>k<b) u v:=⟨h.os,h.tape,h.output,h.size,λk hk hn=>h.block k hk (.inr (by omega))⟩
theorem MJ{xs:List (List aF)}(h:GE xN 48 w B H v xs)(hH:H<=w.heap.size){x:List aF}(hu:Ho w a b v0 x)(ha:H<=a)(hab:a<=b)(hb:b<=w.heap.size)(hB:B<=H)(hl:xs.length+1<=1099511627776):
 ∃v' w',(Builtin.append_ #[27,27] 27 #[v,.slice (some ⟨w.heap.size,0,none⟩) 1 1]).run prog (w.alloc (.cells #[v0] 48))=.ok v' w'/\
  GE xN 48 w' B w'.heap.size v' (xs++[x])/\wB v.ownBlock w w'/\(v'.ownBlock=v.ownBlock∨v'.ownBlock=some (w.heap.size+1))/\v'≠.slice none 0 0/\∀b',Ex b' w->b'.heap.size<=B->Ex b' w':=by
 obtain⟨i,hi,hz,hs,hby⟩:=anA fZ;exact GE.push xN Tryz.underlying27 hi hz hs hby rfl (by decide) (by omega) h hH ⟨v0,rfl,hu⟩ ha hab hb hB hl
theorem y_(p:Int)(N:Nat)(x:Gr)(E:Option Addr)(ec:Nat)(I:Option Addr)(ic:Nat)(O:Option Addr)(oc:Nat)(w:World)(hF:aj p=true)(hE:gm EE w E x.es)(hN:x.aI=(N:Int))(aft:N<=100)(hes:∀e∈x.es,OB p N e/\Eo e.kd e.vl=true)(Jm:x.es.length<=60):
 Calls prog 26 #[.agg #[.int .i64 x.aI,.slice E x.es.length ec,.slice I x.ins.length ic,.slice O x.outs.length oc],.int .i64 p] w λe w'=>∃v,e=.returned v/\v≠.slice none 0 0/\GE xN 48 w' w.heap.size w'.heap.size v (x.es.flatMap (fT p N))/\Ex w w':=by
 obtain⟨aI,es,ins,outs⟩:=x;dsimp only at hE hN hes Jm⊢;subst hN;have HF:=amW hF;have H:=amW hE;have HS:=amW hes;obtain⟨L,hL⟩:=xq es.length;have HL:=amW hL;obtain⟨y0,d0⟩:=VB.xn w 34 #[.int .i64 (N:Int),.slice E es.length ec,.slice I ins.length ic,.slice O outs.length oc];have s0:(w.alloc (.cells #[.int .i64 (N:Int),.slice E es.length ec,.slice I ins.length ic,.slice O outs.length oc] 34)).heap.size=w.heap.size+1:=by simp
 rw[hL]at y0 d0 s0 Jm⊢;clear hL hE hes hF;go_enter Tryz.func26,Tryz.ntmps26
 go_wp2_with fail
 generalize w.alloc (.cells #[.int .i64 (N:Int),.slice E L ec,.slice I ins.length ic,.slice O outs.length oc] 34)=W0 at*;have q0:=d0.c0;have wO:=GE.empty xN 48 W0 (amX W0.heap.size);have he1:=(asF W0).alloc (.cells #[] 48);have hs1:(W0.alloc (.cells #[] 48)).heap.size=W0.heap.size+1:=by simp
 go_loopw [5,19] (λo i wr=>∃k:Nat,k<=L/\i=.int .i64 k/\GE xN 48 wr W0.heap.size wr.heap.size o ((es.take k).flatMap (fT p N))/\o≠.slice none 0 0/\Ex W0 wr) (λ_ i _=>L-(intOf i).toNat)
 case atStart=>exact⟨0,am4 _,rfl,by rw[hs1];have:=wO;rw[show(⟨W0.heap.size,0,none⟩:Addr)=⟨w.heap.size+1,0,none⟩ by rw[s0]]at this;exact this,by simp,he1⟩
 case round=>
  rename World=>wi;clear wO he1 hs1;obtain⟨k,hk,rfl,hge,hnn,he⟩:=hrel;have hz:=he.size;have xi:=y0.trans he;obtain⟨vA,vn,vc,ev⟩:=hge.f3;subst ev;by_cases hlt:k<L
  .obtain⟨g,off,e,P,pc,Q,qc,rfl,hx,c0,c1,c2,c3,hP,hQ⟩:=H.out.edge (j:=k) (by rw[HL.out];exact hlt);have c0:=af xi c0;have c1:=af xi c1;have c2:=af xi c2;have c3:=af xi c3;have hP:=hP.ex xi;have hQ:=hQ.ex xi;obtain⟨NC,hvl⟩:=HS.out e (am1 hx);have HT:=amW (show(es.take (k+1)).flatMap (fT p N)=(es.take k).flatMap (fT p N)++fT p N e by
    rw[am_,hx,List.flatMap_append];simp)
   have hDl:((es.take k).flatMap (fT p N)).length<=180:=by
    have:=(uF (L:=169) (W:=N) (m:=3) (f:=fT p N) (es:=es.take k) λa ha=>by
     obtain⟨a1,a2⟩:=HS.out a (an5 ha);have:=D8 HF.out a1 a2;exact⟨this.1,this.2.1,this.2.2.1⟩).2.2
    rw[am8,HL.out]at this;have:=an6 3 (Nat.min_le_right k L);omega
   obtain⟨hlf,T9⟩:=SE NC hvl;obtain⟨l3,l2⟩:=Lc NC;obtain⟨_,_,_,hgd,hwd,hbl⟩:=D8 HF.out NC hvl;have hgw:=NC.2.2.1;have hin:=NC.2.2.2;have abG:(gw e.kd).1.toNat+(gw e.kd).2.toNat<=12:=by rw[hgw];simp;omega
   have Yo:(e.ins++e.outs).length=e.ins.length+e.outs.length:=am9;have cRl:=λW=>MF p ⟨e.kd,e.vl,⟨#[]⟩⟩ (gw e.kd) W HF.out hlf T9 abG
   have hO:=Dw HF.out (n:=(aK (e.ins++e.outs)).length) (R:=3) (by omega) hgd l3;have hOG:∀c,c<=(dN p ⟨e.kd,e.vl,ByteArray.empty⟩).length->iK p 17179869184 (gJ (ah p) ((ah p).beside ((ah p).cols (aK (e.ins++e.outs)).length (dN p ⟨e.kd,e.vl,ByteArray.empty⟩))) c).1:=λc hc=>
    (iR HF.out (by omega) (v_ HF.out (by omega) (Eg HF.out (by omega) hgd)) (gW (nC _ _ _)) (R:=3) (.inl hbl) (by omega) c hc).mono (by unfold bZ;omega)
   have cOr:=λ(A:Option Addr) (c:Nat) (W:World) (h:gm iE W A (dN p ⟨e.kd,e.vl,ByteArray.empty⟩))=>oH p _ _ A c W HF.out h hwd (by omega) (by omega) hOG
   have HEq:=amW (show fT p N e=((ah p).gH (aK (e.ins++e.outs)).length (dN p ⟨e.kd,e.vl,ByteArray.empty⟩)).map ((ah p).iG N (aK (e.ins++e.outs)))from rfl);have hnl:(aK (e.ins++e.outs)).length=e.ins.length+e.outs.length:=l2.symm;generalize(ah p).gH (aK (e.ins++e.outs)).length (dN p ⟨e.kd,e.vl,ByteArray.empty⟩)=OR at*;have WA:dN p ⟨e.kd,e.vl,⟨#[]⟩⟩=dN p ⟨e.kd,e.vl,ByteArray.empty⟩:=rfl;rw[WA]at cRl;clear WA;generalize dN p ⟨e.kd,e.vl,ByteArray.empty⟩=LB at*;rw[hnl]at cOr;have HO:=amW hO;have xL:=amW hnl;have HIN:=amW hin;clear hx NC hvl hlf T9 hO hOG hgd hwd hgw hin abG l2 hnl;generalize(gw e.kd).1.toNat=lw at cRl;generalize(gw e.kd).2.toNat=rw_ at cRl;obtain⟨y4,n4,W4,Vd⟩:=VB.al wi 45 #[.int .i64 e.kd,.int .i64 e.vl,.slice P e.ins.length pc,.slice Q e.outs.length qc];rw[Vd]at y4 n4;obtain⟨f0,f1⟩:=n4.d2;go_wp2_with fail
   refine(QR e.kd e.vl W4).mono ?_;rintro e5 w5 ⟨rfl,x5⟩;go_wp2_with fail
   refine(cRl w5).mono ?_;rintro e6 w6 ⟨y,rfl,⟨_,_,A6,c6,hy6,hO6⟩,x6⟩;obtain rfl:y=.slice A6 LB.length c6:=by injection hy6 with _ h6;injection h6 with _ h6;injection h6 with h6 _
   clear hy6;have r6:wo w6 A6 LB:=(hO6 w6 λ_ _ _=>rfl).P7;clear hO6 cRl;have x46:=x5.trans x6;obtain⟨y7,n7,W7,ZM⟩:=VB.al w6 29 #[.int .i64 lw,.int .i64 rw_,.slice A6 LB.length c6];rw[ZM]at y7 n7;have N4:=n4.ex (x46.trans y7);have f2:=N4.c2;have f3:=N4.c3;have xi7:=(y4.trans x46).trans y7;have y8:=(asF W7).alloc (.cells #[.slice P e.ins.length pc,.slice Q e.outs.length qc] 23);have cJ:=uh (some ⟨W7.heap.size,0,none⟩) 2 [e.ins,e.outs] _ (E8 (c:=pc) (c':=qc) (hP.ex xi7) (hQ.ex xi7) 23) (by have:=xL.out;simp;omega);have z7:=xi7.size;go_wp2_with fail
   refine cJ.mono ?_;rintro e9 w9 ⟨v9,rfl,o9,x9⟩;clear cJ;have x79:=y8.trans x9;rw[show[e.ins,e.outs].flatten=e.ins++e.outs by simp]at o9;obtain⟨PL,plc,rfl,aeB⟩:=o9.rd;rw[Yo]at o9⊢;have HPl:=amW Yo;clear Yo;have h2:=(n7.ex x79).c2;have cO:=cOr A6 c6 w9 (r6.1.ex (y7.trans x79));have hzs:=(show(W7.alloc (.cells #[.slice P e.ins.length pc,.slice Q e.outs.length qc] 23)).heap.size=W7.heap.size+1 by simp);rw[hzs]at o9;clear cOr r6 ZM Vd;go_wp2_with fail
   refine cO.mono ?_;rintro e10 Di ⟨ZA,c10,rfl,r10,x10⟩;clear cO;have Xq:=(xi7.trans x79).trans x10;have z79:=x79.size;have z10:=x10.size;have adJ:=Xq.size;obtain⟨M,hM⟩:=xq OR.length;have HM:=amW hM;have KJ:M<=3:=by rw[<-hM];have:=HO.out.2.2;omega
   rw[hM];have hD:=amW hDl;generalize(es.take k).flatMap (fT p N)=DD at*;have o10:=o9.ex x10;have hown0:∀g,(Value.slice vA vn vc).ownBlock=some g->g<wi.heap.size:=λg h=>(hge.own g h).2
   clear hM;go_wp2_with fail
   go_loopw [5,43] (λo i wr=>∃m:Nat,m<=M/\i=.int .i64 m/\GE xN 48 wr W0.heap.size wr.heap.size o (DD++(OR.take m).map ((ah p).iG N (aK (e.ins++e.outs))))/\o≠.slice none 0 0/\(∀g,o.ownBlock=some g->g<wi.heap.size∨Di.heap.size<=g)/\Ex W0 wr/\fD 0 wi.heap.size Di wr) (λ_ i _=>M-(intOf i).toNat)
   case atStart=>exact⟨0,am4 _,rfl,by simpa using(hge.ex Xq).more (amX _) adJ,hnn,λg h=> .inl (hown0 g h),he.trans Xq,fD.refl _ _ _⟩
   case round=>
    rename World=>wj;obtain⟨m,hm,rfl,hgj,hnj,hoj,p_,hij⟩:=hrel;obtain⟨uA,un,uc,eu⟩:=hgj.f3;subst eu;have hzj:=p_.size;have ajI:=hij.size;by_cases hmt:m<M
    .obtain⟨g2,off2,row,P2,pc2,rfl,hr,b0,aeD,hP2⟩:=(r10 wj (hij.sx (by omega))).at_ (j:=m) (by rw[HM.out];exact hmt);have hrow:=HO.out.1 row (am1 hr);have hrg:=HO.out.2.1 row (am1 hr);obtain⟨_,_,Y6,Rq⟩:=(o10.iv hij (.inr (by omega))).rd;injection Y6 with Y6 hq1 hq2;subst Y6;clear hq1 hq2;have q0:=af p_ q0;have HTm:=amW (show(OR.take (m+1)).map ((ah p).iG N (aK (e.ins++e.outs)))=(OR.take m).map ((ah p).iG N (aK (e.ins++e.outs)))++[(ah p).iG N (aK (e.ins++e.outs)) row] by
      rw[am_,hr,anQ];rfl)
     rw[hrow,xL.out]at b0 aeD;have agn:=amW hrow;have HRg:=amW hrg;clear hr hrow hrg;go_wp2_with fail
     refine(CB N (by omega) wj).mono ?_;rintro e11 H8 ⟨v11,rfl,⟨abf,ab9⟩,x11⟩;obtain⟨g0,c0',ev0,hc0',_⟩:=ab9.form abf;rw[anD]at ev0 hc0';subst ev0;have ajN:=x11.size;have hs3:e.ins.length+e.outs.length<=3:=by have:=xL.out;omega
     go_wp2_with fail
     go_loopw [52] (λi wr=>∃j:Nat,j<=e.ins.length+e.outs.length/\i=.int .i64 j/\GE pq 51 wr wj.heap.size wr.heap.size (.slice (some ⟨g0,0,none⟩) N c0') (bV p N (aK (e.ins++e.outs)) row j)/\Ex wj wr) (λi _=>(e.ins.length+e.outs.length)-(intOf i).toNat)
     case atStart=>exact⟨0,am4 _,rfl,ab9,x11⟩
     case round=>
      rename World=>wk;obtain⟨j,hj,rfl,Nr,hk'⟩:=hrel;have Gg:=hk'.size;by_cases hjt:j<e.ins.length+e.outs.length
      .obtain⟨a,A,C,Dd,G,ac,cc,dc,gc,gp,op,gr,Wm,x,y,rfl,rfl,hcp,Vb,⟨cur,hv,r0,r1⟩,e0,e1,hgB,HAdd,lg⟩:=IL p N (e.ins.length+e.outs.length) (e.ins++e.outs) row PL plc P2 pc2 g0 c0' wj.heap.size wk HF.out (Rq.ex hk') HPl.out HIN.out (hP2.ex hk') (by rw[agn.out,xL.out]) (HRg.out.mono (by unfold bZ;omega)) (by have:=xL.out;omega) aft j hjt Nr Gg;obtain⟨X,hX⟩:=xq (eO p x y);rw[hX]at HAdd lg;have m0:=hv.cell (a*2) r0;have m1:=hv.cell (a*2+1) r1;clear hX Nr;go_wp2_with fail
       go_region_law (first
        |(go_simp
          go_at_call 59
          refine(HAdd _ (asF wk).drew).mono ?_;rintro e12 ZB ⟨A12,c12,B12,d12,rfl,f12,p12,afQ,aai⟩;have x12:=((asF wk).drew).trans aai;have U6:=hv.ex x12;have l0:=U6.cell (a*2) r0;have l1:=U6.cell (a*2+1) r1;have n0:=U6.frozen (a*2);have n1:=U6.frozen (a*2+1)))
       all_goals
        have hT:=lg _ A12 B12 c12 d12 ((asF wk).drew) ZB aai f12 p12 afQ;have e13:aJ g0 ZB ((ZB.setCell ⟨g0,a*2,none⟩ (.slice A12 X.n.length c12)).setCell ⟨g0,a*2+1,none⟩ (.slice B12 X.d.length d12)):=((aJ.refl g0 ZB).setCell (p:=⟨g0,a*2,none⟩) rfl _).setCell (p:=⟨g0,a*2+1,none⟩) rfl _;have xk:=(hk'.trans x12).aM e13 hgB;have sz:((ZB.setCell ⟨g0,a*2,none⟩ (.slice A12 X.n.length c12)).setCell ⟨g0,a*2+1,none⟩ (.slice B12 X.d.length d12)).heap.size=ZB.heap.size:=by simp
        have Oy:=amW hT;have SZ:=amW sz;clear HAdd lg m0 m1 l0 l1 n0 n1 hT sz e0 e1 hcp;go_wp2_with fail
        go_roundw;case rel=>exact⟨j+1,by omega,by go_num,by rw[SZ.out];exact Oy.out,xk⟩
        case measure=>simp[intOf];omega
      .have hjE:j=e.ins.length+e.outs.length:=by omega
       subst hjE;rw[BR p N (by rw[xL.out];exact amX _)]at Nr;have hu:Ho wk wj.heap.size wk.heap.size (.slice (some ⟨g0,0,none⟩) N c0') ((ah p).iG N (aK (e.ins++e.outs)) row):=⟨by simp,Nr⟩;obtain⟨v',w',hrun,ge',WN,lq,Ru,hE⟩:=MJ (hgj.ex hk') Gg hu (amX _) Gg (amX _) hzj (by
        have:=hD.out;rw[am9,am5,am8];omega)
       rw[anP,<-HTm.out]at ge';have hI:=(hij.trans (fD.aN hk')).own WN hoj;have YO:∀g,v'.ownBlock=some g->g<wi.heap.size∨Di.heap.size<=g:=λg hg=>by
        rcases lq with q|q
        .rw[q]at hg;exact hoj g hg
        .rw[q]at hg;injection hg with hg;exact .inr (by omega)
       have xW:=hE W0 (p_.trans hk') (amX _);clear hE WN lq hu Nr hgj hij hoj HTm;go_wp2_with (at_builtin;refine wpList_append_run rfl _ _ _ rfl rfl rfl hrun ?_)
       go_roundw;case rel=>exact⟨m+1,by omega,by go_num,ge',Ru,YO,xW,hI⟩
       case measure=>simp[intOf];omega
    .obtain rfl:m=M:=by omega
     rw[ann (by rw[HM.out];exact amX _),<-HEq.out,<-HT.out]at hgj;go_wp2_with fail
     go_roundw;case rel=>exact⟨k+1,by omega,by go_num,hgj,hnj,p_⟩
     case measure=>simp[intOf];omega
  .obtain rfl:k=L:=by omega
   rw[ann (by rw[HL.out];exact amX _)]at hge;go_wp2_with fail
   go_ret;exact⟨_,rfl,hnn,hge.more (by omega) (amX _),xi⟩
def Ov(p:Int)(x:Gr):iJ×Bool:=
 if hgB p x=true/\x.aI<=24/\jW x.ins.length x.outs.length=true then
  (if Ou p x.ins.length x.outs.length (WS p x.aI.toNat (aK (x.ins++x.outs)) x.es)=true then(⟨x.ins.length,x.outs.length,WS p x.aI.toNat (aK (x.ins++x.outs)) x.es⟩,true)else(⟨0,0,[]⟩,false))
 else(⟨0,0,[]⟩,false)
theorem vg{x:Gr}(h:¬(hgB p x=true/\x.aI<=24/\jW x.ins.length x.outs.length=true)):Ov p x=(⟨0,0,[]⟩,false):=amZ h
theorem J8{x:Gr}(h:hgB p x=true/\x.aI<=24/\jW x.ins.length x.outs.length=true):Ov p x=if Ou p x.ins.length x.outs.length (WS p x.aI.toNat (aK (x.ins++x.outs)) x.es)=true then(⟨x.ins.length,x.outs.length,WS p x.aI.toNat (aK (x.ins++x.outs)) x.es⟩,true)else(⟨0,0,[]⟩,false):=amY h
theorem CV{x:Gr}(h:hgB p x=true):aj p=true/\0<=x.aI/\x.aI<=100/\x.es.length<=60/\(∀k∈x.ins++x.outs,0<=k/\k<x.aI)/\∀e∈x.es,OB p x.aI.toNat e/\Eo e.kd e.vl=true:=by
 unfold hgB at h;simp only[anx]at h;obtain⟨hF,hV,hv⟩:=h;have hV0:=hV;simp only[f_,anx]at hV;obtain⟨⟨⟨⟨hd,hi⟩,ho⟩,he⟩,_⟩:=hV;simp only[JF,anx,decide_eq_true_eq]at hd;have hw:=zS hd.1.1.1;refine⟨hF,hw.1,hw.2,hd.1.1.2,λk hk=>?_,λe h=>?_⟩
 .rcases anu.1 hk with q|q
  .have:=wh hi q;omega
  .have:=wh ho q;omega
 .obtain⟨k1,k2,k3⟩:=ack he h;have hlt:=anl.1 hv e h;rw[decide_eq_true_eq]at hlt;simp only[BK,OC,anx,decide_eq_true_eq]at k1;obtain⟨⟨⟨a1,a2⟩,a3⟩,a4⟩:=k1;refine⟨⟨a1,λh7=>?_,Prod.ext a3 a4,λk hk=>?_⟩,a2⟩
  .unfold Eo at a2;rw[amY h7]at a2;have:=zS a2;simp[fe];omega
  .rcases anu.1 hk with q|q
   .have:=k2 k q;omega
   .have:=k3 k q;omega
theorem TD(hF:aj p=true){R:List (List aF)}(hL:1<=L)(h:iK p L R):iK p L (R.map ((ah p).kY E)):=λv hv=>by
 obtain⟨r,hr,rfl⟩:=am3.1 hv;intro x hx;obtain⟨i,_,rfl⟩:=am3.1 hx;unfold Ops.el;rw[am6];cases hi:r[i]? with
 |none=>exact⟨FV.zero hF,by simp[FL,zF,ah];omega⟩
 |some y=>exact h r hr y (am1 hi)
theorem BZ{w0:World}(h:gm EF w0 P r)(he:Ex w0 w){k:Nat}(hk:r[k]?=some x):
 ∃g off A c B d,P=some ⟨g,off,none⟩/\w.cell? ⟨g,off+k*2,none⟩=some (.slice A x.n.length c)/\w.cell? ⟨g,off+k*2+1,none⟩=some (.slice B x.d.length d)/\∀w2,Ex w0 w2->oz w2 (.slice A x.n.length c) (.slice B x.d.length d) x:=by
 obtain⟨g,off,vs,hA,hc,v0,v1,e,hR⟩:=h.2 k x hk;subst e;obtain⟨⟨A,c,rfl,hP⟩,⟨B,d,rfl,hQ⟩⟩:=hR;exact⟨g,off,A,c,B,d,hA,af he (hc 0 _ rfl),af he (hc 1 _ rfl),λw2 hw=>⟨⟨A,c,rfl,hP.ex hw⟩,⟨B,d,rfl,hQ.ex hw⟩⟩⟩
theorem yX(h:kD Good w B H v r)(hH:H<=w.heap.size)(hB:B<=H){C:Option Addr}{d:Nat}(hx:∀w2,Good w2->oz w2 (.slice A x.n.length c) (.slice C x.d.length d) x)(hl:r.length+1<=1099511627776):
 ∃v' w',(Builtin.append_ #[48,48] 48 #[v,.slice (some ⟨w.heap.size,0,none⟩) 1 1]).run prog (w.alloc (.cells #[.slice A x.n.length c,.slice C x.d.length d] 51))=.ok v' w'/\kD Good w' B w'.heap.size v' (r++[x])/\wB v.ownBlock w w'/\(v'.ownBlock=v.ownBlock∨v'.ownBlock=some (w.heap.size+1))/\∀b',Ex b' w->b'.heap.size<=B->Ex b' w':=by
 obtain⟨jB,h1,h2,h3⟩:=h;obtain⟨i,hi,hz,hs,hby⟩:=anA uz;obtain⟨v',w',k1,k2,k3,k4,_,k6⟩:=GE.push Ew Tryz.underlying48 hi hz hs hby rfl (by show 0<2;omega) (by omega) h1 hH (u:=[.slice A x.n.length c,.slice C x.d.length d]) (x:=(.slice A x.n.length c,.slice C x.d.length d)) (a:=w.heap.size) (b:=w.heap.size) ⟨rfl,rfl,rfl⟩ hH (amX _) (amX _) hB (by omega);refine⟨v',w',k1,⟨jB++[(.slice A x.n.length c,.slice C x.d.length d)],k2,by rw[am9,am9,h2];rfl,λj y hj=>?_⟩,k3,k4,k6⟩;by_cases e:j<r.length
 .rw[anN e]at hj;rw[anN (by omega)];exact h3 j y hj
 .rw[anw (by omega)]at hj;rw[anw (by omega),h2];obtain⟨q,hq⟩:=xq (j-r.length);rw[hq]at hj⊢;rcases q with _|q
  .obtain rfl:x=y:=by simpa using hj
   exact⟨_,_,rfl,hx⟩
  .simp at hj
theorem Vr(h:GE xN 48 w B H v rows)(hl:rows.length<=1099511627776)(hw:∀r∈rows,r.length<=1099511627776):∃A c,v=.slice A rows.length c/\gm iE w A rows:=by
 by_cases hv:v=.slice none 0 0
 .subst hv;have:=h.Na;subst this;exact⟨none,0,rfl,by simp,λj x hj=>by simp at hj⟩
 .obtain⟨g,c,rfl,hgc,_⟩:=h.form hv;obtain⟨cur,al,bl,_,hB,hH,hh,h1,h2⟩:=h.at_;refine⟨_,c,rfl,hl,λj r hj=>?_⟩;obtain⟨u,k1,⟨y,k2,hr⟩,_⟩:=h1 j r hj;subst k2;obtain⟨A,c2,e2⟩:=hr.2.lu;subst e2;have hr2:=hr.2.II (hw r (am1 hj));refine⟨g,0,[.slice A r.length c2],rfl,λi y hy=>?_,_,rfl,A,c2,rfl,hr2⟩;rw[anE];exact dF hh (k1 i y hy)
theorem Vs{xs:List (List aF)}(h:(xs=[]/\∃ad,v=.slice (some ad) 0 0)∨GE (wC W0) 48 w B H v xs):∃A n c,v=.slice A n c:=by
 rcases h with⟨_,ad,e⟩|q
 .exact⟨_,_,_,e⟩
 .exact q.f3
theorem o_(p:Int)(x:Gr)(v0 v1 v2:Value)(w:World)(h:JP w v0 v1 v2 x)(ht:Tb w):
 Calls prog 7 #[.int .i64 p,.agg #[.int .i64 x.aI,v0,v1,v2]] w λe w'=>∃y0,e=.returned (.tuple #[.agg #[.int .i64 (Ov p x).1.l,.int .i64 (Ov p x).1.r,y0],.bool (Ov p x).2])/\qw w' w.heap.size w'.heap.size y0 (Ov p x).1/\Ex w w':=by
 obtain⟨⟨⟨E,ec,rfl,hE⟩,hEt⟩,⟨I,ic,rfl,hI⟩,⟨O,oc,rfl,hO⟩⟩:=h;clear hEt;have cG:=λ(W:World) (y:Ex w W)=>BB p x E ec I ic O oc W (hE.ex y) (hI.ex y) (hO.ex y) (ht.ex y)
 have cF:∀W,Calls prog 24 #[.int .i64 x.ins.length,.int .i64 x.outs.length] W λe w'=>e=.returned (.bool (jW x.ins.length x.outs.length))/\W=w':=λW=>vo _ _ W
 have HI:=amW hI;have HO:=amW hO;have HE:=amW hE;have WM:=hI.len;have YN:=hO.len;have hEl:=hE.1;obtain⟨W0,hW0,x0,d0,s0⟩:=VB.an w 34 #[.int .i64 x.aI,.slice E x.es.length ec,.slice I x.ins.length ic,.slice O x.outs.length oc] rfl;obtain⟨W1,hW1,y1,b1,s1⟩:=VB.an W0 29 #[.int .i64 0,.int .i64 0,.slice none 0 0] s0;have D1:=d0.ex y1;have x1:=x0.trans y1;obtain⟨q0,q1,q2,q3⟩:=D1.d4;have cG:=cG W1 x1;clear d0 y1 x0 hE hI hO;cases hG:hgB p x with
 |false=>
  have HN:=amW (vg (p:=p) (x:=x) (λh=>by rw[hG]at h;cases h.1));rw[hG]at cG;clear hG cF;go_enter Tryz.func7,Tryz.ntmps7
  go_wp2_with fail
  refine cG.mono ?_;rintro e w2 ⟨rfl,x2⟩;clear cG;obtain⟨dd,zz⟩:=(b1.ex x2).ru (.int .i64 0) (.int .i64 0) (.slice none 0 0);have dz:=b1.ex x2;obtain⟨u0,u1,u2⟩:=dz.d3;obtain⟨k0,k1,k2⟩:=dz.z3;obtain⟨C0,C1,C2⟩:=dd.d3;have eF:=(x1.trans x2).aM zz (by omega);go_wp2_with fail
  refine ane (v:=.tuple #[.agg #[.int .i64 0,.int .i64 0,.slice none 0 0],.bool false]) (by simp[results,Tryz.results7,go_sem,C0,C1,C2]) rfl ?_;rw[HN.out];exact⟨_,rfl,⟨w.heap.size,w.heap.size,x_ _ _ _,amX _,eF.size⟩,eF⟩
 |true=>
  rw[hG]at cG;have HG:=amW hG;by_cases NI:x.aI<=24;case neg=>
   have HN:=amW (vg (p:=p) (x:=x) (λh=>NI h.2.1));have hgt:(24:Int)<x.aI:=by omega
   clear hG cF NI;go_enter Tryz.func7,Tryz.ntmps7
   go_wp2_with fail
   refine cG.mono ?_;rintro e w2 ⟨rfl,x2⟩;have q0:=af x2 q0;clear cG;obtain⟨dd,zz⟩:=(b1.ex x2).ru (.int .i64 0) (.int .i64 0) (.slice none 0 0);have dz:=b1.ex x2;obtain⟨u0,u1,u2⟩:=dz.d3;obtain⟨k0,k1,k2⟩:=dz.z3;obtain⟨C0,C1,C2⟩:=dd.d3;have eF:=(x1.trans x2).aM zz (by omega);go_wp2_with fail
   refine ane (v:=.tuple #[.agg #[.int .i64 0,.int .i64 0,.slice none 0 0],.bool false]) (by simp[results,Tryz.results7,go_sem,C0,C1,C2]) rfl ?_;rw[HN.out];exact⟨_,rfl,⟨w.heap.size,w.heap.size,x_ _ _ _,amX _,eF.size⟩,eF⟩
  have hgt:¬(24:Int)<x.aI:=by omega
  cases hfit:jW x.ins.length x.outs.length with
  |false=>
   have HN:=amW (vg (p:=p) (x:=x) (λh=>by rw[hfit]at h;cases h.2.2));rw[hfit]at cF;clear hG hfit NI;go_enter Tryz.func7,Tryz.ntmps7
   go_wp2_with fail
   refine cG.mono ?_;rintro e w2 ⟨rfl,x2⟩;have q0:=af x2 q0;have q2:=af x2 q2;have q3:=af x2 q3;clear cG;go_wp2_with fail
   refine(cF w2).mono ?_;rintro e w3 ⟨rfl,rfl⟩;clear cF;obtain⟨dd,zz⟩:=(b1.ex x2).ru (.int .i64 0) (.int .i64 0) (.slice none 0 0);have dz:=b1.ex x2;obtain⟨u0,u1,u2⟩:=dz.d3;obtain⟨k0,k1,k2⟩:=dz.z3;obtain⟨C0,C1,C2⟩:=dd.d3;have eF:=(x1.trans x2).aM zz (by omega);go_wp2_with fail
   refine ane (v:=.tuple #[.agg #[.int .i64 0,.int .i64 0,.slice none 0 0],.bool false]) (by simp[results,Tryz.results7,go_sem,C0,C1,C2]) rfl ?_;rw[HN.out];exact⟨_,rfl,⟨w.heap.size,w.heap.size,x_ _ _ _,amX _,eF.size⟩,eF⟩
  |true=>
   rw[hfit]at cF;have HY:=amW (J8 (p:=p) (x:=x) ⟨hG,NI,hfit⟩);obtain⟨hF,hw0,hw1,Jm,zX,ji⟩:=CV hG;have hlr:=DZ hfit;obtain⟨N,hN⟩:∃N:Nat,x.aI=(N:Int):=⟨x.aI.toNat,by omega⟩;have RO:x.aI.toNat=N:=by omega
   rw[RO]at HY ji;obtain⟨aI,es,ins,outs⟩:=x;dsimp only at hN hw0 hw1 Jm zX ji hlr NI hgt cG cF q0 q1 q2 q3 D1 hW0 HY HI HO HE WM YN hEl HG RO⊢;subst hN;have HF:=amW hF;have hEq:=uF (L:=169) (W:=N) (m:=3) (f:=fT p N) (es:=es) λa ha=>by obtain⟨a1,a2⟩:=ji a ha;have:=D8 hF a1 a2;exact⟨this.1,this.2.1,this.2.2.1⟩
   have Gn:N<=24:=by omega
   have RN:(es.flatMap (fT p N)).length<=180:=by have:=hEq.2.2;omega
   have Vg:=Dw hF (n:=N) (R:=24) (by omega) hEq.2.1 Gn;have hOG:∀c,c<=(es.flatMap (fT p N)).length->iK p 17179869184 (gJ (ah p) ((ah p).beside ((ah p).cols N (es.flatMap (fT p N)))) c).1:=λc hc=>
    (iR hF (by omega) (v_ hF (by omega) (Eg hF (by omega) hEq.2.1)) (gW (nC _ _ _)) (R:=24) (.inr (by rw[kX,kW];exact Gn)) (by omega) c hc).mono (by unfold bZ;omega)
   have cE:=λ(W:World) (y:Ex w W)=>y_ p N ⟨(N:Int),es,ins,outs⟩ E ec I ic O oc W hF (HE.out.ex y) rfl (by omega) ji Jm
   have cR:=λ(A:Option Addr) (c:Nat) (W:World) (h:gm iE W A (es.flatMap (fT p N)))=>oH p N _ A c W hF h hEq.1 Gn (by omega) hOG
   have z_:(aK (ins++outs)).length=ins.length+outs.length:=by unfold aK;rw[am5,am9]
   have hGr:WS p N (aK (ins++outs)) es=(ah p).aB (ins.length+outs.length) (((ah p).gH N (es.flatMap (fT p N))).map ((ah p).kY (aK (ins++outs)))):=by unfold WS;rw[z_]
   have YL:=TD hF (E:=aK (ins++outs)) (by unfold bZ;omega) Vg.2.1;have Vf:aZ (ins.length+outs.length) (((ah p).gH N (es.flatMap (fT p N))).map ((ah p).kY (aK (ins++outs)))):=λv hv=>by obtain⟨r,_,rfl⟩:=am3.1 hv;rw[yC,z_]
   have WL:(((ah p).gH N (es.flatMap (fT p N))).map ((ah p).kY (aK (ins++outs)))).length<=24:=by rw[am5];have:=Vg.2.2;omega
   have cL:=λ(A:Option Addr) (c:Nat) (W:World) (h:gm iE W A (((ah p).gH N (es.flatMap (fT p N))).map ((ah p).kY (aK (ins++outs)))))=>rz p ins.length outs.length _ A c W hF h Vf (λc hc=>(iR hF (by unfold bZ;omega) YL Vf (R:=12) (.inl (by omega)) (amX _) c hc).mono (by unfold bZ;omega)) (by omega) (by omega)
   rw[hGr]at HY;have agm:=amW (show Ou p ins.length outs.length ((ah p).aB (ins.length+outs.length) (((ah p).gH N (es.flatMap (fT p N))).map ((ah p).kY (aK (ins++outs)))))=true->fF ((ah p).aB (ins.length+outs.length) (((ah p).gH N (es.flatMap (fT p N))).map ((ah p).kY (aK (ins++outs)))))<=1125899906842624 from λhv=>by
    have h0:=EW (p:=p) (l:=ins.length) (r:=outs.length) (rows:=((ah p).gH N (es.flatMap (fT p N))).map ((ah p).kY (aK (ins++outs)))) hF (CY YL) (by rw[show((ins.length:Int)+outs.length).toNat=ins.length+outs.length by omega];exact Vf);rw[show((ins.length:Int)+outs.length).toNat=ins.length+outs.length by omega]at h0;have h1:=J6 (h0.trans hv);dsimp only at h1;omega)
   have HPa:=amW (λ(k:Nat) (row:List aF) (hk:((ah p).gH N (es.flatMap (fT p N)))[k]?=some row)=>(show(((ah p).gH N (es.flatMap (fT p N))).map ((ah p).kY (aK (ins++outs)))).take (k+1)=(((ah p).gH N (es.flatMap (fT p N))).map ((ah p).kY (aK (ins++outs)))).take k++[(aK (ins++outs)).map ((ah p).el row)] by
    rw[am_,am7,hk];rfl))
   have HPn:=amW (show(((ah p).gH N (es.flatMap (fT p N))).map ((ah p).kY (aK (ins++outs)))).length=((ah p).gH N (es.flatMap (fT p N))).length from am5 _);have HOd:=amW Vg;have TU:=amW zX;have HEl:=amW z_;have HIL:=amW (show ins.length+outs.length<=12 from by omega);have HQw:=amW (show∀r∈es.flatMap (fT p N),r.length<=1099511627776 from λr hr=>by rw[hEq.1 r hr];omega);generalize((ah p).gH N (es.flatMap (fT p N))).map ((ah p).kY (aK (ins++outs)))=PR at*;generalize(ah p).gH N (es.flatMap (fT p N))=OR at*;generalize es.flatMap (fT p N)=EQ at*;clear hEq Vg hOG hGr YL Vf zX z_ ji hG hfit hF RO;obtain⟨M,hM⟩:=xq OR.length;have HM:=amW hM;have afh:M<=24:=by rw[<-hM];have:=HOd.out.2.2;omega
   clear hM;go_enter Tryz.func7,Tryz.ntmps7
   go_wp2_with fail
   refine cG.mono ?_;rintro e w2 ⟨rfl,x2⟩;have q0:=af x2 q0;have q1:=af x2 q1;have q2:=af x2 q2;have q3:=af x2 q3;clear cG;go_wp2_with fail
   refine(cF w2).mono ?_;rintro e w3 ⟨rfl,rfl⟩;clear cF;have y3:=(asF w2).alloc (.cells #[] 48);obtain⟨V,hV⟩:=xq (w2.alloc (.cells #[] 48));rw[hV]at y3;have xV:=(x1.trans x2).trans y3;have q0:=af y3 q0;have q1:=af y3 q1;have q2:=af y3 q2;have q3:=af y3 q3;have HS:∀W,Ex V W->(Ex V W/\W.cell? ⟨w.heap.size,0,none⟩=some (.int .i64 N)/\W.cell? ⟨w.heap.size,1,none⟩=some (.slice E es.length ec)/\W.cell? ⟨w.heap.size,2,none⟩=some (.slice I ins.length ic)/\W.cell? ⟨w.heap.size,3,none⟩=some (.slice O outs.length oc)):=λW y=>⟨y,af y q0,af y q1,af y q2,af y q3⟩
   go_wp2_with fail
   go_region_held3 (λW=>Ex V W/\W.cell? ⟨w.heap.size,0,none⟩=some (.int .i64 N)/\W.cell? ⟨w.heap.size,1,none⟩=some (.slice E es.length ec)/\W.cell? ⟨w.heap.size,2,none⟩=some (.slice I ins.length ic)/\W.cell? ⟨w.heap.size,3,none⟩=some (.slice O outs.length oc)) (first
    |(exact HS _ x5)
    |(exact HS _ x4)
    |(exact HS _ (asF V).drew)
    |(exact HS _ (asF V))) (first
    |(go_at_call 26
      have hb:=(‹Ex V _/\_›).1;refine(cE _ (xV.trans hb)).mono ?_;rintro e w4 ⟨v4,rfl,BG,ge4,OM⟩;have x4:=hb.trans OM;obtain⟨A4,c4,ev4,r4⟩:=Vr ge4 (by omega) HQw.out;subst ev4;clear hb)
    |(go_at_call 25
      have hb:=(‹Ex V _/\_›).1;refine(cR A4 c4 _ r4).mono ?_;rintro e w5 ⟨A5,c5,rfl,r5,EA⟩;have x5:=x4.trans EA;clear hb))
   all_goals
    rw[HM.out];have z5:=x5.size;have R5:=(r5 w5 (bn.refl _ _));have xB:=xV.trans x5;have WM:=HIL.out;clear cE cR r4;have B2:=af x5 q2;have B3:=af x5 q3;go_wp2_with fail
    go_loopw [6,41] (λo i wr=>∃k:Nat,k<=M/\i=.int .i64 k/\((PR.take k=[]/\∃ad,o=.slice (some ad) 0 0)∨GE (wC w5) 48 wr w5.heap.size wr.heap.size o (PR.take k))/\Ex w5 wr) (λ_ i _=>M-(intOf i).toNat)
    case atStart=>exact⟨0,am4 _,rfl,.inl ⟨rfl,_,rfl⟩,asF _⟩
    case round=>
     rename World=>wi;obtain⟨k,hk,rfl,hge,he⟩:=hrel;have hz:=he.size;have hxi:=xB.trans he;have B2:=af he B2;have B3:=af he B3;obtain⟨vA,vn,vc,ev⟩:=Vs hge;subst ev;by_cases hlt:k<M
     .obtain⟨g,off,row,P,pc,rfl,hr,b0,hpc,hP⟩:=R5.at_ (j:=k) (by rw[HM.out];exact hlt);have hrn:=HOd.out.1 row (am1 hr);have b0:=af he b0;rw[hrn]at b0 hpc;have HT:=amW (HPa.out k row hr);have HRn:=amW hrn;clear hr hrn;have y6:=(asF wi).alloc (.cells #[] 51);obtain⟨W6,hW6⟩:=xq (wi.alloc (.cells #[] 51));have s6:W6.heap.size=wi.heap.size+1:=by rw[<-hW6];simp
      have Bc:=GE.empty Ew 51 wi (amX wi.heap.size);rw[hW6]at y6 Bc;have c2:=af y6 B2;have c3:=af y6 B3;have y7:=(asF W6).alloc (.cells #[.slice I ins.length ic,.slice O outs.length oc] 23);have hx6:=hxi.trans y6;have cJ:=uh (some ⟨W6.heap.size,0,none⟩) 2 [ins,outs] _ (E8 (c:=ic) (c':=oc) (HI.out.ex hx6) (HO.out.ex hx6) 23) (by simp;omega);rw[s6]at cJ;go_wp2_with fail
      refine cJ.mono ?_;rintro e w9 ⟨v9,rfl,o9,x9⟩;clear cJ;rw[show[ins,outs].flatten=ins++outs by simp]at o9;obtain⟨PL,plc,rfl,aeB⟩:=o9.rd;have YQ:(ins++outs).length=ins.length+outs.length:=am9;rw[YQ]at o9⊢;have HPl:=amW YQ;clear YQ;have x69:=y7.trans x9;have z69:=x69.size;have ge9:=(Bc.ex x69).more (amX _) (show wi.heap.size+1<=w9.heap.size by omega);have YF:=y6.trans x69;have z9:=YF.size;rw[show(W6.alloc (.cells #[.slice I ins.length ic,.slice O outs.length oc] 23)).heap.size=wi.heap.size+2 by simp[s6]]at o9;have P9:=hP.ex (he.trans YF);go_wp2_with fail
      go_loopw [9,53] (λo i wr=>∃j:Nat,j<=ins.length+outs.length/\i=.int .i64 j/\kD (Ex w5) wr wi.heap.size wr.heap.size o (((aK (ins++outs)).take j).map ((ah p).el row))/\(∀g,o.ownBlock=some g->g<wi.heap.size+1∨w9.heap.size<=g)/\Ex wi wr/\fD 0 (wi.heap.size+1) w9 wr) (λ_ i _=>(ins.length+outs.length)-(intOf i).toNat)
      case atStart=>exact⟨0,am4 _,rfl,⟨[],ge9,rfl,λj x hj=>by simp at hj⟩,λg e=> .inl (Bc.own g e).2,YF,fD.refl _ _ _⟩
      case round=>
       rename World=>wk;clear Bc ge9 c2 c3 y7 hW6;obtain⟨j,hj,rfl,NG,lq,hek,hik⟩:=hrel;have Gg:=hek.size;have ajJ:=hik.size;obtain⟨uA,un,uc,eu⟩:=NG.f3;subst eu;by_cases hjt:j<ins.length+outs.length
       .obtain⟨_,_,Y6,Rq⟩:=(o9.iv hik (.inr (by omega))).rd;injection Y6 with Y6 hq1 hq2;subst Y6;clear hq1 hq2;obtain⟨gp,op,ai,rfl,hai,Ba,hcp⟩:=Rq.at_ (k:=j) (by rw[HPl.out];exact hjt);obtain⟨abD,abC⟩:=TU.out ai (am1 hai);obtain⟨a,rfl⟩:∃a:Nat,ai=(a:Int):=⟨ai.toNat,by omega⟩;have Vb:a<N:=by omega
        obtain⟨x,hx⟩:∃x,row[a]?=some x:=⟨_,am0 (by rw[HRn.out];exact Vb)⟩;obtain⟨gr,Wm,A1,c1,B1,d1,rfl,a0,a1,hq⟩:=BZ (hP.ex (asF w5)) (he.trans hek) hx;have HTj:=amW (show((aK (ins++outs)).take (j+1)).map ((ah p).el row)=((aK (ins++outs)).take j).map ((ah p).el row)++[x] by
         have:(aK (ins++outs))[j]?=some a:=by unfold aK;rw[am7,hai];rfl
         rw[am_,this,anQ];congr 1;show[(ah p).el row a]=[x];rw[(ah p).bT hx])
        obtain⟨v',w',hrun,hP',WN,Rt,hE⟩:=yX NG (amX _) Gg hq (by rw[am5,am8];omega);rw[<-HTj.out]at hP';have xw:=hE wi hek (amX _);have hI:=hik.own WN lq;have YO:∀g,v'.ownBlock=some g->g<wi.heap.size+1∨w9.heap.size<=g:=λg hg=>by
         rcases Rt with q|q
         .rw[q]at hg;exact lq g hg
         .rw[q]at hg;injection hg with hg;exact .inr (by omega)
        clear hE WN lq Rt hq hx hai NG HTj;go_wp2_with (at_builtin;refine wpList_append_run rfl _ _ _ rfl rfl rfl hrun ?_)
        go_roundw;case rel=>exact⟨j+1,by omega,by go_num,hP',YO,xw,hI⟩
        case measure=>simp[intOf];omega
       .obtain rfl:j=ins.length+outs.length:=by omega
        rw[ann (by rw[HEl.out];exact amX _)]at NG;have hu:(wC w5).O wk wi.heap.size wk.heap.size [.slice uA un uc] ((aK (ins++outs)).map ((ah p).el row)):=NG.WV (by rw[am5,HEl.out];omega) (λw2 h0 _=>h0);obtain⟨v',w',hrun,hge',Ru,hE⟩:=Fe (B:=w5.heap.size) (H:=wi.heap.size) (v:=.slice vA vn vc) (xs:=PR.take k) (by
         rcases hge with q|q
         .exact .inl q
         .exact .inr (q.ex hek)) Gg hu (amX _) Gg (amX _) hz (by rw[am8];omega)
        rw[<-HT.out]at hge';have xw:=hE w5 (he.trans hek) (amX _);clear hE hu hge NG HT;go_wp2_with (at_builtin;refine wpList_append_run rfl _ _ _ rfl rfl rfl hrun ?_)
        go_roundw;case rel=>exact⟨k+1,by omega,by go_num,.inr hge',xw⟩
        case measure=>simp[intOf];omega
     .obtain rfl:k=M:=by omega
      have HPk:=HPn.out.trans HM.out;rw[ann (by rw[HPk];exact amX _)]at hge;obtain⟨A6,c6,ev,hr6⟩:=XJ hge (by omega) he;injection ev with ev1 ev2 ev3;subst ev1 ev2 ev3;have cL:=cL vA vc wi hr6;rw[HPk]at cL;have B1:=b1.ex ((x2.trans y3).trans (x5.trans he));clear hge hr6;generalize(ah p).aB (ins.length+outs.length) PR=RR at*;have U3:=hxi;go_wp2_with fail
      refine cL.mono ?_;rintro e w7 ⟨y7,rfl,fx,x7⟩;obtain⟨A7,c7,rfl,r7⟩:=fx.rd;clear cL;have cV:=Io p ⟨ins.length,outs.length,RR⟩ A7 c7 w7 r7 (ht.ex (U3.trans x7));dsimp only at cV;cases hv:Ou p ins.length outs.length RR with
      |false=>
       rw[hv]at cV;have HN:=amW (HY.out.trans (amZ (by rw[hv];exact Bool.false_ne_true)));rw[show Qg false (Value.agg #[.int .i64 (ins.length:Int),.int .i64 (outs.length:Int),.slice A7 RR.length c7]) (Value.agg #[.int .i64 0,.int .i64 0,.slice none 0 0])=Value.agg #[.int .i64 0,.int .i64 0,.slice none 0 0]from rfl]at cV;clear hv HY;go_wp2_with fail
       refine cV.mono ?_;rintro e w8 ⟨rfl,x8⟩;clear cV;have dz:=B1.ex (x7.trans x8);have xz:=(U3.trans x7).trans x8;obtain⟨dd,zz⟩:=dz.ru (.int .i64 0) (.int .i64 0) (.slice none 0 0);obtain⟨u0,u1,u2⟩:=dz.d3;obtain⟨k0,k1,k2⟩:=dz.z3;obtain⟨C0,C1,C2⟩:=dd.d3;have eF:=xz.aM zz (by omega);go_wp2_with fail
       refine ane (v:=.tuple #[.agg #[.int .i64 0,.int .i64 0,.slice none 0 0],.bool false]) (by simp[results,Tryz.results7,go_sem,C0,C1,C2]) rfl ?_;rw[HN.out];exact⟨_,rfl,⟨w.heap.size,w.heap.size,x_ _ _ _,amX _,eF.size⟩,eF⟩
      |true=>
       rw[hv]at cV;have htt:fF RR<=1125899906842624:=agm.out hv;have HE:=amW (HY.out.trans (amY hv));rw[show Qg true (Value.agg #[.int .i64 (ins.length:Int),.int .i64 (outs.length:Int),.slice A7 RR.length c7]) (Value.agg #[.int .i64 0,.int .i64 0,.slice none 0 0])=Value.agg #[.int .i64 (ins.length:Int),.int .i64 (outs.length:Int),.slice A7 RR.length c7]from rfl]at cV;clear hv HY;go_wp2_with fail
       refine cV.mono ?_;rintro e w8 ⟨rfl,x8⟩;clear cV;have dz:=B1.ex (x7.trans x8);have xz:=(U3.trans x7).trans x8;obtain⟨dd,zz⟩:=dz.ru (.int .i64 ins.length) (.int .i64 outs.length) (.slice A7 RR.length c7);obtain⟨u0,u1,u2⟩:=dz.d3;obtain⟨k0,k1,k2⟩:=dz.z3;obtain⟨C0,C1,C2⟩:=dd.d3;have eF:=xz.aM zz (by omega);have hzi:=U3.size;have hb1:=b1.lt;have hzV:=(x2.trans y3).trans (x5.trans he);have hzV:=hzV.size;have YU:=(fx.ex x8).iv (fD.a_ zz) (by omega);have hz8:=x8.size;have fx3:=(YU.more (a':=w.heap.size) (b':=w8.heap.size) (by omega) hz8).off htt;go_wp2_with fail
       refine ane (v:=.tuple #[.agg #[.int .i64 ins.length,.int .i64 outs.length,.slice A7 RR.length c7],.bool true]) (by simp[results,Tryz.results7,go_sem,C0,C1,C2]) rfl ?_;rw[HE.out];exact⟨_,rfl,⟨_,_,fx3,amX _,aoh (by simp)⟩,eF⟩
end Go.Proofs.YtekcehkhdjoffaaGreatDoor
