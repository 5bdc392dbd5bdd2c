/- Lemmas and walks on terms over rational functions: The reference's null .. -/
import Derived.Test.YthgiffhlfcmgaaaGreatDoorQ10
namespace Go.Proofs.YthgiffhlfcmgaaaGreatDoor
open _root_.Go.Proofs.Tryz(prog)
set_option maxRecDepth 100000
set_option maxHeartbeats 8000000
set_option linter.all false
open Go Go.RowKit
variable{p:Int}{M:List (List aG)}{k r:List aG}{G c j n s:Nat}{P:Option Addr}{v:Value}{W0 w w':World}
theorem Ub(hF:av p=true){rows:List (List aG)}(hg:∀v∈rows,∀x∈v,FV p x)(hw:aQ s rows):aQ s ((au p).aC s rows)/\(∀r∈(au p).aC s rows,bX r<s)/\((au p).aC s rows).length<=s:=by obtain⟨u,rfl⟩:=BK (P:=FV p) rows hg;have hwu:aQ s u:=aQ.dO.1 hw;rw[(mV p hF).aC];have hI:=dL (aj p hF) hwu;refine⟨aQ.dO.2 hI.1,λr hr=>?_,by rw[axs];exact uq _ hI⟩;obtain⟨v,hv,rfl⟩:=axr.1 hr;obtain⟨t,ht⟩:=axz hv;obtain⟨hW,P,hE⟩:=hI;obtain⟨q,_,e,hq⟩:=hE.lead hW ht;rw[<-n_ p,(mV p hF).lead,e];exact hq
theorem Fq(hF:av p=true){L R:Nat}{rows:List (List aG)}(hL:1<=L)(hg:iB p L rows)(hw:aQ s rows)(hn:s<=R∨rows.length<=R):iB p (jg R L) ((au p).aC s rows):=by rw[XQ];intro v hv;exact jw hF hL hg hw hn (axk s) s (axk s) v (ayS hv)
theorem Yl(p:Int)(s:Nat)(rows:List (List aG))(A:Option Addr)(c:Nat)(w:World)(hF:av p=true)(h:mW (λ_=>False) w A rows)(hw:aQ s rows)(hg:iB p 512 rows)(hs:s<=24)(hR:rows.length<=12):
 Calls prog 76 #[.int .i64 p,.int .i64 s,.slice A rows.length c] w λe w'=>∃A' c',e=.returned (.slice A' ((au p).aC s ((au p).gJ s ((au p).aC s rows))).length c')/\j_ w' A' ((au p).aC s ((au p).gJ s ((au p).aC s rows)))/\Ex w w':=by
 have C1:=Qi (λ_=>False) p s rows A c w hF h (λ_ h=>h.elim) hw (λc hc=>(jw hF (by omega) hg hw (R:=12) (.inr hR) (axk _) c hc).mono (by unfold jg;omega)) (by omega) (by omega);have HM:=axj (Ub hF (λv hv x hx=>(hg v hv x hx).1) hw);have HG:Hid (iB p 86542 ((au p).aC s rows)):=axj ((Fq hF (by omega) hg hw (R:=12) (.inr hR)).mono (by unfold jg;omega));have HF:=axj hF;obtain⟨M,hMe⟩:=xq ((au p).aC s rows);rw[hMe]at C1 HM HG⊢;obtain⟨R,hRe⟩:=xq rows.length;rw[hRe]at C1⊢;clear hF h hw hg hR hMe hRe;obtain⟨ml,hml⟩:=xq M.length;have BU:=axj hml;rw[hml]at C1;have hms:ml<=s:=by rw[<-hml];exact HM.out.2.2
 clear hml;obtain⟨NL,IU⟩:=xq ((au p).gJ s M);have Lh:=axj IU;rw[IU];have C2:∀(A2:Option Addr) (c2:Nat) (W:World),mW (λ_=>False) W A2 NL->Calls prog 105 #[.int .i64 p,.int .i64 s,.slice A2 NL.length c2] W λe w'=>∃A' c',e=.returned (.slice A' ((au p).aC s NL).length c')/\(∀w2,bG (λ_=>False) w' w2->j_ w2 A' ((au p).aC s NL))/\Ex W w':=λA2 c2 W hA=>by
  have hgn:iB p 86542 NL:=by rw[<-Lh.out];exact Na HF.out (by omega) HG.out
  have hwn:aQ s NL:=by rw[<-Lh.out];exact lF s M
  have hln:NL.length<=s:=by rw[<-Lh.out];exact Vp _ s M
  exact BG (λ_=>False) p s NL A2 c2 W HF.out hA (λ_ h=>h.elim) hwn (λc hc=>(jw HF.out (by omega) hgn hwn (R:=24) (.inl hs) (axk _) c hc).mono (by unfold jg;omega)) (by omega) (by omega)
 have HN0:=axj (show[]++(au p).dK s M (s-0) 0 0=NL by rw[<-IU];rfl);clear IU;go_enter Tryz.func76,Tryz.ntmps76
 go_wp2_with fail
 refine C1.mono ?_;rintro e w1 ⟨A1,c1,rfl,hm,x1⟩;have hm1:bW iX w1 A1 M:=hm w1 (bG.refl _ _);clear hm C1;go_wp2_with fail
 go_loopw [8,9,10] (λo at_ i wr=>∃(j t:Nat) (A2:Option Addr) (c2:Nat) (D:List (List aG)),j<=s/\t<=j/\i=.int .i64 j/\at_=.int .i64 t/\o=.slice A2 D.length c2/\GE (wK w1) 54 wr w1.heap.size wr.heap.size (.slice A2 D.length c2) D/\Hid (D++(au p).dK s M (s-j) j t=NL)/\D.length<=j/\Ex w1 wr) (λ_ _ i _=>s-(intOf i).toNat)
 case atStart=>exact⟨0,0,none,0,[],axq _,axk _,rfl,rfl,rfl,GE.nil _ _ _ _ _,HN0,axk _,aCQ _⟩
 case round=>
  rename World=>wi;obtain⟨j,t,A2,c2,D,hj,htj,rfl,rfl,rfl,hge,HD,hDj,he⟩:=hrel;have hz:=he.size;by_cases hlt:j<s
  .have HGo:=axj (show(au p).dK s M (s-j) j t=if t<M.length/\(au p).lead (M.getD t [])=j then(au p).dK s M (s-(j+1)) (j+1) (t+1)else(au p).fT s M j::(au p).dK s M (s-(j+1)) (j+1) t by
    rw[show s-j=(s-(j+1))+1 by omega];rfl)
   by_cases htm:t<ml
   .obtain⟨g,off,r,v,rfl,hr,b0,⟨P,pc,rfl,hrr⟩⟩:=(hm1.ex he).jf (j:=t) (by rw[BU.out];exact htm);have Hrl:=axj (HM.out.1 r (axo hr));have Hr:=axj hr;have cL:=nR P pc r wi hrr;rw[Hrl.out]at b0 cL;by_cases hld:bX r=j
    .have HG2:=axj (show D++(au p).dK s M (s-(j+1)) (j+1) (t+1)=NL by
      rw[<-HD.out,HGo.out,axl ⟨by rw[BU.out];exact htm,by rw[axt,Hr.out];exact hld⟩])
     rw[hld]at cL;clear HD HGo hr hld;go_wp2_with fail
     refine cL.mono ?_;rintro e w5 ⟨rfl,x5⟩;have hz5:=x5.size;go_wp2_with fail
     go_roundw;case rel=>exact⟨j+1,t+1,A2,c2,D,by omega,by omega,by go_num,by go_num,rfl,(hge.ex x5).more (axk _) hz5,HG2,by omega,he.trans x5⟩
     case measure=>simp[intOf];omega
    .have HG2:=axj (show D++(au p).fT s M j::(au p).dK s M (s-(j+1)) (j+1) t=NL by
      rw[<-HD.out,HGo.out,axm λe=>hld (by have:=e.2;rw[axt,Hr.out]at this;exact this)])
     obtain⟨l0,hl0⟩:=xq (bX r);rw[hl0]at cL hld;clear HD HGo hr hl0;go_wp2_with fail
     refine cL.mono ?_;rintro e wi2 ⟨rfl,xi⟩;have hz2:=xi.size;replace hge:=(hge.ex xi).more (axk _) hz2;replace he:=he.trans xi;replace hz:=axA hz hz2;clear b0 hrr cL;have hs1:s<=1000:=by omega
     go_wp2_with fail
     refine(h_ s hs1 _).mono ?_;rintro e w5 ⟨A5,c5,rfl,Ry,x5⟩;go_wp2_with fail
     obtain⟨g5,c5',e5,Xh,_⟩:=Ry.form (by intro e;injection e with _ e _;omega);rw[axH]at e5 Xh;injection e5 with e5 _ e6;subst e5 e6;have F5:=Ry.adr (a:=wi2.heap.size) (axk _);have hg5:wi2.heap.size<=g5:=by obtain⟨_,_,_,_,hB,_⟩:=Ry.at_;exact hB
     have anZ:=F5.lt;have hz5:=x5.size;clear Ry;refine(pq w5).mono ?_;rintro e w6 ⟨M6,mc6,N6,nc6,rfl,fM,fN,ap6,x6⟩;have VW:=x6.size;have F6:=F5.ex x6;obtain⟨_,_,_,_,q0,q1,_,_⟩:=F6.at_ (i:=j) (x:=zF) (by rw[ax3,axl hlt]);have k0:=F6.frozen (j*2);have k1:=F6.frozen (j*2+1);have F7:=F6.put (c:=mc6) (d:=nc6) (.inr rfl) j oF (A:=M6) (B:=N6) (fM.rx λk hk=>by omega) (fN.rx λk hk=>by omega);have e7:aM g5 w6 ((w6.setCell ⟨g5,j*2,none⟩ (.slice M6 oF.n.length mc6)).setCell ⟨g5,j*2+1,none⟩ (.slice N6 oF.d.length nc6)):=((aM.refl g5 w6).setCell (p:=⟨g5,j*2,none⟩) rfl _).setCell (p:=⟨g5,j*2+1,none⟩) rfl _;have x7:=(x5.trans x6).aK e7 hg5;clear F5 F6 fM fN ap6 e7 x5 x6;obtain⟨v0,hv0⟩:=xq ((List.replicate s zF).set j oF);have HV0:=axj hv0;rw[hv0]at F7;go_wp2_with fail
     clear hv0;generalize(w6.setCell ⟨g5,j*2,none⟩ (.slice M6 oF.n.length mc6)).setCell ⟨g5,j*2+1,none⟩ (.slice N6 oF.d.length nc6)=W7 at*;clear q0 q1 k0 k1;go_loopw [13,46] (λ_ i wr=>∃k:Nat,k<=ml/\i=.int .i64 k/\pG wr (λz=>z<wi2.heap.size∨z=g5) g5 ((au p).iD (M.take k) j v0)/\Ex wi2 wr) (λ_ i _=>ml-(intOf i).toNat)
     case atStart=>exact⟨0,axq _,rfl,F7,x7⟩
     case round=>
      rename World=>wj;obtain⟨k,hk,rfl,F8,x8⟩:=hrel;by_cases hkm:k<ml
      .obtain⟨g9,atb,r,v,eA,hr,b0,⟨P,pc,rfl,hrr⟩⟩:=(hm1.ex (he.trans x8)).jf (j:=k) (by rw[BU.out];exact hkm);injection eA with eA;injection eA with ea eb;subst ea eb;have Hrl:=axj (HM.out.1 r (axo hr));have hll:=HM.out.2.1 r (axo hr);have Hrg:=axj (HG.out r (axo hr));obtain⟨g',off',x,P1,pc1,Q1,qc1,rfl,hx,d0,d1,hP1,NV⟩:=hrr.iy (j:=j) (by rw[Hrl.out];exact hlt);have xQ:=axj (Hrg.out x (axo hx));have HS:=axj (show(au p).iD (M.take (k+1)) j v0=((au p).iD (M.take k) j v0).set (bX r) (bY p x) by
        rw[axy,hr,ayE,EB];show((au p).iD (M.take k) j v0).set ((au p).lead r) (bY p ((au p).el r j))=_;rw[Ops.dD _ hx];rfl)
       have iP:∀W,Ex wj W->Calls prog 65 #[.slice (some ⟨g',off',none⟩) s pc] W λe w'=>e=.returned (.int .i64 (bX r))/\Ex W w':=λW hW=>by have:=nR (some ⟨g',off',none⟩) pc r W (hrr.ex hW);rw[Hrl.out]at this;exact this
       have aa0:∀W,Ex wj W->Calls prog 75 #[.int .i64 p,.agg #[.slice P1 x.n.length pc1,.slice Q1 x.d.length qc1]] W λe w'=>G8 W (bY p x) e w':=λW hW=>zw p x P1 Q1 pc1 qc1 W xQ.out.1 (hP1.ex hW) (NV.ex hW)
       obtain⟨l,hl⟩:=xq (bX r);have HL:=axj hl;rw[hl]at iP hll;rw[Hrl.out]at b0;clear hl hr hx hrr hP1 NV;have hlen:((au p).iD (M.take k) j v0).length=s:=by rw[qJ,<-HV0.out,axM,axH]
       obtain⟨y,hy⟩:∃y,((au p).iD (M.take k) j v0)[l]?=some y:=⟨_,axn (by rw[hlen];exact hll)⟩;have Hlen:=axj hlen;have HY:=axj hy;clear hlen hy;go_wp2_with fail
       go_region_law (first
        |(go_simp
          go_at_call 65
          refine(iP _ ((aCQ wj).drew)).mono ?_;rintro e w8 ⟨rfl,y8⟩;replace y8:=((aCQ wj).drew).trans y8;have d0':=af y8 d0;have d1':=af y8 d1)
        |(go_simp
          go_at_call 75
          refine(aa0 _ (by first|exact y8|exact y8.drew)).mono ?_;rintro e w9 ⟨A9,c9,B9,e9,rfl,f9,f9',ap9,y9⟩;replace y9:=y8.trans y9;have F9:=F8.ex y9;obtain⟨_,_,_,_,q0,q1,_,_⟩:=F9.at_ HY.out;have k0:=F9.frozen (l*2);have k1:=F9.frozen (l*2+1)))
       all_goals
        have hg8:=F8.lt;have hs8:=y8.size;have F10:=F9.put (c:=c9) (d:=e9) (.inr rfl) l (bY p x) (A:=A9) (B:=B9) (f9.rx λz hz=>by omega) (f9'.rx λz hz=>by omega);rw[<-HL.out,<-HS.out,HL.out]at F10;have e10:aM g5 w9 ((w9.setCell ⟨g5,l*2,none⟩ (.slice A9 (bY p x).n.length c9)).setCell ⟨g5,l*2+1,none⟩ (.slice B9 (bY p x).d.length e9)):=((aM.refl g5 w9).setCell (p:=⟨g5,l*2,none⟩) rfl _).setCell (p:=⟨g5,l*2+1,none⟩) rfl _;have x10:=(x8.trans y9).aK e10 hg5;clear e10 F9 F8 iP aa0 d0 d1 d0' d1' b0 f9 f9' ap9 q0 q1 k0 k1;go_wp2_with fail
        go_roundw;case rel=>exact⟨k+1,by omega,by go_num,F10,x10⟩
        case measure=>simp[intOf];omega
      .obtain rfl:k=ml:=by omega
       rw[axG (by rw[BU.out];exact axk _)]at F8;have hzj:=x8.size;have hVe:(au p).iD M j v0=(au p).fT s M j:=by rw[<-HV0.out];rfl
       rw[hVe]at F8;have hlv:=nK (au p) s M j;have hE:=F8.KA (W0:=w1) (c:=c5) hg5 (by omega);rw[hlv]at hE;obtain⟨v',KX,hrun,GR,_,hnn,Fj⟩:=bO (hge.ex x8) hzj hE (axk _) hzj (axk _) hz (by omega);have Rt:=Fj w1 (he.trans x8) (axk _);obtain⟨A10,c10,rfl⟩:=GR.kH;clear hVe hlv hE Fj F8 F7;go_wp2_with (at_builtin;refine wpList_append_run rfl _ _ _ rfl rfl rfl hrun ?_)
       go_roundw;case rel=>exact⟨j+1,t,A10,c10,D++[(au p).fT s M j],by omega,by omega,by go_num,rfl,by simp,GR,axj (by rw[ayg];exact HG2.out),by rw[axv,ayt];omega,Rt⟩
       case measure=>simp[intOf];omega
   .have HG2:=axj (show D++(au p).fT s M j::(au p).dK s M (s-(j+1)) (j+1) t=NL by
     rw[<-HD.out,HGo.out,axm λe=>htm (by rw[<-BU.out];exact e.1)])
    clear HD HGo;have hs1:s<=1000:=by omega
    go_wp2_with fail
    refine(h_ s hs1 _).mono ?_;rintro e w5 ⟨A5,c5,rfl,Ry,x5⟩;go_wp2_with fail
    obtain⟨g5,c5',e5,Xh,_⟩:=Ry.form (by intro e;injection e with _ e _;omega);rw[axH]at e5 Xh;injection e5 with e5 _ e6;subst e5 e6;have F5:=Ry.adr (a:=wi.heap.size) (axk _);have hg5:wi.heap.size<=g5:=by obtain⟨_,_,_,_,hB,_⟩:=Ry.at_;exact hB
    have anZ:=F5.lt;have hz5:=x5.size;clear Ry;refine(pq w5).mono ?_;rintro e w6 ⟨M6,mc6,N6,nc6,rfl,fM,fN,ap6,x6⟩;have VW:=x6.size;have F6:=F5.ex x6;obtain⟨_,_,_,_,q0,q1,_,_⟩:=F6.at_ (i:=j) (x:=zF) (by rw[ax3,axl hlt]);have k0:=F6.frozen (j*2);have k1:=F6.frozen (j*2+1);have F7:=F6.put (c:=mc6) (d:=nc6) (.inr rfl) j oF (A:=M6) (B:=N6) (fM.rx λk hk=>by omega) (fN.rx λk hk=>by omega);have e7:aM g5 w6 ((w6.setCell ⟨g5,j*2,none⟩ (.slice M6 oF.n.length mc6)).setCell ⟨g5,j*2+1,none⟩ (.slice N6 oF.d.length nc6)):=((aM.refl g5 w6).setCell (p:=⟨g5,j*2,none⟩) rfl _).setCell (p:=⟨g5,j*2+1,none⟩) rfl _;have x7:=(x5.trans x6).aK e7 hg5;clear F5 F6 fM fN ap6 e7 x5 x6;obtain⟨v0,hv0⟩:=xq ((List.replicate s zF).set j oF);have HV0:=axj hv0;rw[hv0]at F7;go_wp2_with fail
    clear hv0;generalize(w6.setCell ⟨g5,j*2,none⟩ (.slice M6 oF.n.length mc6)).setCell ⟨g5,j*2+1,none⟩ (.slice N6 oF.d.length nc6)=W7 at*;clear q0 q1 k0 k1;go_loopw [13,46] (λ_ i wr=>∃k:Nat,k<=ml/\i=.int .i64 k/\pG wr (λz=>z<wi.heap.size∨z=g5) g5 ((au p).iD (M.take k) j v0)/\Ex wi wr) (λ_ i _=>ml-(intOf i).toNat)
    case atStart=>exact⟨0,axq _,rfl,F7,x7⟩
    case round=>
     rename World=>wj;obtain⟨k,hk,rfl,F8,x8⟩:=hrel;by_cases hkm:k<ml
     .obtain⟨g,off,r,v,rfl,hr,b0,⟨P,pc,rfl,hrr⟩⟩:=(hm1.ex (he.trans x8)).jf (j:=k) (by rw[BU.out];exact hkm);have Hrl:=axj (HM.out.1 r (axo hr));have hll:=HM.out.2.1 r (axo hr);have Hrg:=axj (HG.out r (axo hr));obtain⟨g',off',x,P1,pc1,Q1,qc1,rfl,hx,d0,d1,hP1,NV⟩:=hrr.iy (j:=j) (by rw[Hrl.out];exact hlt);have xQ:=axj (Hrg.out x (axo hx));have HS:=axj (show(au p).iD (M.take (k+1)) j v0=((au p).iD (M.take k) j v0).set (bX r) (bY p x) by
       rw[axy,hr,ayE,EB];show((au p).iD (M.take k) j v0).set ((au p).lead r) (bY p ((au p).el r j))=_;rw[Ops.dD _ hx];rfl)
      have iP:∀W,Ex wj W->Calls prog 65 #[.slice (some ⟨g',off',none⟩) s pc] W λe w'=>e=.returned (.int .i64 (bX r))/\Ex W w':=λW hW=>by have:=nR (some ⟨g',off',none⟩) pc r W (hrr.ex hW);rw[Hrl.out]at this;exact this
      have aa0:∀W,Ex wj W->Calls prog 75 #[.int .i64 p,.agg #[.slice P1 x.n.length pc1,.slice Q1 x.d.length qc1]] W λe w'=>G8 W (bY p x) e w':=λW hW=>zw p x P1 Q1 pc1 qc1 W xQ.out.1 (hP1.ex hW) (NV.ex hW)
      obtain⟨l,hl⟩:=xq (bX r);have HL:=axj hl;rw[hl]at iP hll;rw[Hrl.out]at b0;clear hl hr hx hrr hP1 NV;have hlen:((au p).iD (M.take k) j v0).length=s:=by rw[qJ,<-HV0.out,axM,axH]
      obtain⟨y,hy⟩:∃y,((au p).iD (M.take k) j v0)[l]?=some y:=⟨_,axn (by rw[hlen];exact hll)⟩;have Hlen:=axj hlen;have HY:=axj hy;clear hlen hy;go_wp2_with fail
      go_region_law (first
       |(go_simp
         go_at_call 65
         refine(iP _ ((aCQ wj).drew)).mono ?_;rintro e w8 ⟨rfl,y8⟩;replace y8:=((aCQ wj).drew).trans y8;have d0':=af y8 d0;have d1':=af y8 d1)
       |(go_simp
         go_at_call 75
         refine(aa0 _ (by first|exact y8|exact y8.drew)).mono ?_;rintro e w9 ⟨A9,c9,B9,e9,rfl,f9,f9',ap9,y9⟩;replace y9:=y8.trans y9;have F9:=F8.ex y9;obtain⟨_,_,_,_,q0,q1,_,_⟩:=F9.at_ HY.out;have k0:=F9.frozen (l*2);have k1:=F9.frozen (l*2+1)))
      all_goals
       have hg8:=F8.lt;have hs8:=y8.size;have F10:=F9.put (c:=c9) (d:=e9) (.inr rfl) l (bY p x) (A:=A9) (B:=B9) (f9.rx λz hz=>by omega) (f9'.rx λz hz=>by omega);rw[<-HL.out,<-HS.out,HL.out]at F10;have e10:aM g5 w9 ((w9.setCell ⟨g5,l*2,none⟩ (.slice A9 (bY p x).n.length c9)).setCell ⟨g5,l*2+1,none⟩ (.slice B9 (bY p x).d.length e9)):=((aM.refl g5 w9).setCell (p:=⟨g5,l*2,none⟩) rfl _).setCell (p:=⟨g5,l*2+1,none⟩) rfl _;have x10:=(x8.trans y9).aK e10 hg5;clear e10 F9 F8 iP aa0 d0 d1 d0' d1' b0 f9 f9' ap9 q0 q1 k0 k1;go_wp2_with fail
       go_roundw;case rel=>exact⟨k+1,by omega,by go_num,F10,x10⟩
       case measure=>simp[intOf];omega
     .obtain rfl:k=ml:=by omega
      rw[axG (by rw[BU.out];exact axk _)]at F8;have hzj:=x8.size;have hVe:(au p).iD M j v0=(au p).fT s M j:=by rw[<-HV0.out];rfl
      rw[hVe]at F8;have hlv:=nK (au p) s M j;have hE:=F8.KA (W0:=w1) (c:=c5) hg5 (by omega);rw[hlv]at hE;obtain⟨v',KX,hrun,GR,_,hnn,Fj⟩:=bO (hge.ex x8) hzj hE (axk _) hzj (axk _) hz (by omega);have Rt:=Fj w1 (he.trans x8) (axk _);obtain⟨A10,c10,rfl⟩:=GR.kH;clear hVe hlv hE Fj F8 F7;go_wp2_with (at_builtin;refine wpList_append_run rfl _ _ _ rfl rfl rfl hrun ?_)
      go_roundw;case rel=>exact⟨j+1,t,A10,c10,D++[(au p).fT s M j],by omega,by omega,by go_num,rfl,by simp,GR,axj (by rw[ayg];exact HG2.out),by rw[axv,ayt];omega,Rt⟩
      case measure=>simp[intOf];omega
  .obtain rfl:j=s:=by omega
   have hDN:D=NL:=by have:=HD.out;rw[ayd]at this;rw[<-this];exact(ax8 D).symm
   subst hDN;obtain⟨A3,c3,e3,hrn⟩:=hge.MC (S:=λ_=>False) (by omega) he (λ_ h=>h.elim);injection e3 with e3 _ _;subst e3;have C3:=λcc=>C2 A2 cc wi hrn
   clear HD hDj;go_wp2_with fail
   refine(C3 _).mono ?_;rintro e w4 ⟨A4,c4,rfl,h4,x4⟩;go_wp2_with fail
   go_ret;exact⟨A4,c4,rfl,h4 w4 (bG.refl _ _),(x1.trans he).trans x4⟩
theorem MF{Good:World->Prop}{u:Value}{x:aG}(h0:u.oneCell'=true)(h1:v.oneCell'=true)(hr:∀w2,Good w2->oD w2 u v x):aU Good (w.alloc (.cells #[u,v] 57)) (some ⟨w.heap.size,0,none⟩) [x]:=by
 refine⟨by simp,λj y hj=>?_⟩;rcases j with _|j
 .injection hj with hj;subst hj;have d:=VB.new w 57 #[u,v];exact⟨w.heap.size,0,u,v,rfl,d.c0,d.c1,h0,h1,hr⟩
 .simp at hj
theorem RP.nil(W0 w:World):RP W0 w.heap.size w (.slice none 0 0) []:=⟨[],GE.nil _ _ _ _ _,rfl,λj x hj=>by simp at hj⟩
theorem RP.k1(h:RP W0 s w v r)(he:aM G w w')(hG:G<s):RP W0 s w' v r:=by
 obtain⟨ig,h1,h2,h3⟩:=h;have hsz:=he.size;have kb:∀k,s<=k->k<w.heap.size->w'.heap[k]?=w.heap[k]?:=λk a b=>he.block k b (λe=>by injection e with e;omega)
 refine⟨ig,(h1.keep λk a _ b=>kb k a b).more (axk _) hsz,h2,λj x hj=>?_⟩;obtain⟨u,z,q1,q2⟩:=h3 j x hj;exact⟨u,z,q1,λw2 h0 hk=>q2 w2 h0 λk a1 a2 a3=>(hk k a1 (axD a2 hsz) a3).trans (kb k a1 a2)⟩
theorem RP.Tc(h:RP W0 s w v r)(hs:s<=w.heap.size){Good:World->Prop}{r2:List aG}(hr:aU Good w P r2)(hG:∀w2,Ex W0 w2->(∀k,s<=k->k<w.heap.size->v.ownBlock≠some k->w2.heap[k]?=w.heap[k]?)->Good w2)(c:Nat)(hl:r.length+r2.length<=1099511627776):
 ∃v' w',(Builtin.append_ #[54,54] 54 #[v,.slice P r2.length c]).run prog w=.ok v' w'/\RP W0 s w' v' (r++r2)/\(∀k,k<s->w'.heap[k]?=w.heap[k]?)/\w.heap.size<=w'.heap.size/\(∀b',Ex b' w->b'.heap.size<=s->Ex b' w')/\(v'.ownBlock=v.ownBlock∨v'.ownBlock=some w.heap.size)/\qh v.ownBlock w w':=by
 obtain⟨ig,h1,h2,h3⟩:=h;obtain⟨v',w',mg,hrun,ge,hl2,hp2,⟨hO,hown⟩,hE⟩:=BH h1 (axk _) hs P c r2 hr (by rw[h2];exact hl);have hsz:=hO.size;have keep:∀w2:World,(∀k,s<=k->k<w'.heap.size->v'.ownBlock≠some k->w2.heap[k]?=w'.heap[k]?)->∀k,s<=k->k<w.heap.size->v.ownBlock≠some k->w2.heap[k]?=w.heap[k]?:=λw2 hk k a1 a2 a3=>by
  refine(hk k a1 (axD a2 hsz) (λe=>?_)).trans (hO.block k a2 (λe=>a3 e.symm));rcases hown with q|q
  .exact a3 (q▸e)
  .rw[q]at e;injection e with e;omega
 refine⟨v',w',hrun,⟨ig++mg,ge,by rw[axv,axv,h2,hl2],λj x hj=>?_⟩,λk hk=>hO.block k (by omega) (λe=>by have:=(h1.own k e.symm).1;omega),hsz,hE,hown,hO⟩;by_cases e:j<r.length
 .rw[axX e]at hj;rw[axX (by omega)];obtain⟨u,z,q1,q2⟩:=h3 j x hj;exact⟨u,z,q1,λw2 h0 hk=>q2 w2 h0 (keep w2 hk)⟩
 .rw[axN (by omega)]at hj;rw[axN (by omega),h2];obtain⟨u,z,q1,q2⟩:=hp2 _ x hj;exact⟨u,z,q1,λw2 h0 hk=>q2 w2 (hG w2 h0 (keep w2 hk))⟩
theorem RP.low{s':Nat}(h:RP W0 s w v r)(hs:s'<=s):RP W0 s' w v r:=by obtain⟨ig,h1,h2,h3⟩:=h;refine⟨ig,h1.more hs (axk _),h2,λj x hj=>?_⟩;obtain⟨u,z,q1,q2⟩:=h3 j x hj;exact⟨u,z,q1,λw2 h0 hk=>q2 w2 h0 λk a1 a2 a3=>hk k (by omega) a2 a3⟩
theorem RP.aeJ{w0:World}{B:Nat}(he:Ex w0 w)(hB:s<=B)(hv:∀k,v.ownBlock=some k->w0.heap.size<=k):∀w2,Ex W0 w2->(∀k,s<=k->k<w.heap.size->v.ownBlock≠some k->w2.heap[k]?=w.heap[k]?)->∀k,B<=k->k<w0.heap.size->k<w0.heap.size->w2.heap[k]?=w0.heap[k]?:=λw2 _ hk k a1 a2 _=>
 (hk k (by omega) (axD a2 he.size) (λe=>by have:=hv k e;omega)).trans (he.block a2)
def tT(W0:World)(G s j:Nat)(M:List (List aG))(w:World)(v:Value):Prop:=
 G<s/\∃cur:Array Value,w.heap[G]?=some (.cells cur 54 (0,0))/\cur[j]?=some v/\
  (∀(i:Nat) (r:List aG),i<j->M[i]?=some r->∃P pc,cur[i]?=some (.slice P r.length pc)/\∀w2,Ex W0 w2->(∀k,G<k->k<s->w2.heap[k]?=w.heap[k]?)->bW EF w2 P r)/\
  ∀i,j<i->i<M.length->cur[i]?=some (.slice none 0 0)
def G5(W0:World)(G s j:Nat)(M:List (List aG))(w:World):Prop:=
 G<s/\∃cur:Array Value,w.heap[G]?=some (.cells cur 54 (0,0))/\
  (∀(i:Nat) (r:List aG),i<j->M[i]?=some r->∃P pc,cur[i]?=some (.slice P r.length pc)/\∀w2,Ex W0 w2->(∀k,G<k->k<s->w2.heap[k]?=w.heap[k]?)->bW EF w2 P r)/\
  ∀i,j<=i->i<M.length->cur[i]?=some (.slice none 0 0)
theorem G5.start(W0 w:World){m:Nat}(hm:M.length=m):G5 W0 w.heap.size (w.heap.size+1) 0 M (w.alloc (.cells (List.replicate m (Value.slice none 0 0)).toArray 54)):=
 ⟨ayf _,_,heap_alloc_new w _,λi r h=>by omega,λi _ hi=>by simp[show i<m from hm▸hi]⟩
theorem G5.open_(h:G5 W0 G s j M w)(hj:j<M.length):tT W0 G s j M w (.slice none 0 0):=by obtain⟨h0,cur,h1,h2,h3⟩:=h;exact⟨h0,cur,h1,h3 j (axk _) hj,h2,λi a b=>h3 i (by omega) b⟩
theorem tT.keep(h:tT W0 G s j M w v)(hk:∀k,k<s->w'.heap[k]?=w.heap[k]?):tT W0 G s j M w' v:=by obtain⟨h0,cur,h1,hv,h2,h3⟩:=h;refine⟨h0,cur,(hk G h0).trans h1,hv,λi r a b=>?_,h3⟩;obtain⟨P,pc,q1,q2⟩:=h2 i r a b;exact⟨P,pc,q1,λw2 a0 a1=>q2 w2 a0 λk b0 b1=>(a1 k b0 b1).trans (hk k b1)⟩
theorem tT.ex(h:tT W0 G s j M w v)(hs:s<=w.heap.size)(he:Ex w w'):tT W0 G s j M w' v:=h.keep λk hk=>he.block (by omega)
theorem tT.cell(h:tT W0 G s j M w v):w.cell? ⟨G,j,none⟩=some v:=by obtain⟨_,cur,h1,hv,_⟩:=h;simp[World.cell?,h1,hv]
theorem tT.frozen(h:tT W0 G s j M w v)(i:Nat):w.frozen? ⟨G,i,none⟩=false:=by obtain⟨_,cur,h1,hv,_⟩:=h;simp[World.frozen?,h1]
theorem tT.set(h:tT W0 G s j M w v)(v':Value):tT W0 G s j M (w.setCell ⟨G,j,none⟩ v') v':=by
 obtain⟨h0,cur,h1,hv,h2,h3⟩:=h;have hl:=(aye.1 hv).1;refine⟨h0,cur.setIfInBounds j v',by simp[World.setCell,ayn,h1],by rw[ax1,axl rfl,axl hl],λi r a b=>?_,λi a b=>by rw[ax1,axm (by omega)];exact h3 i a b⟩;obtain⟨P,pc,q1,q2⟩:=h2 i r a b;refine⟨P,pc,by rw[ax1,axm (by omega)];exact q1,λw2 a0 a1=>q2 w2 a0 λk b0 b1=>(a1 k b0 b1).trans ?_⟩;have hne:¬G=k:=by omega
 simp[World.setCell,ayn,hne]
theorem tT.next(h:tT W0 G s j M w (.slice P r.length c))(hr:M[j]?=some r)(hl:r.length<=1099511627776)(hs:s<=w.heap.size)(hp:RP W0 s w (.slice P r.length c) r):G5 W0 G w.heap.size (j+1) M w:=by
 obtain⟨h0,cur,h1,hv,h2,h3⟩:=h;refine⟨by omega,cur,h1,λi z a b=>?_,λi a b=>h3 i (by omega) b⟩;by_cases e:i<j
 .obtain⟨P',pc,q1,q2⟩:=h2 i z e b;exact⟨P',pc,q1,λw2 a0 a1=>q2 w2 a0 λk b0 b1=>a1 k b0 (by omega)⟩
 .obtain rfl:i=j:=by omega
  rw[hr]at b;injection b with b;subst b;refine⟨P,c,hv,λw2 a0 a1=>?_⟩;obtain⟨A,c',e1,e2⟩:=hp.KA hl;injection e1 with e1 _;injection e1 with e1 _ _;subst e1;exact e2 w2 a0 λk b0 b1 _=>a1 k (by omega) b1
theorem G5.MC(h:G5 W0 G s M.length M w)(hs:s<=w.heap.size)(hl:M.length<=1099511627776)(he:Ex W0 w):mW (λ_=>False) w (some ⟨G,0,none⟩) M:=by obtain⟨h0,cur,h1,h2,h3⟩:=h;refine⟨hl,λj r hj=>?_⟩;obtain⟨P,pc,q1,q2⟩:=h2 j r (axp.1 hj).1 hj;refine⟨G,0,P,pc,rfl,by simp[World.cell?,h1,q1],λw2 hx=>q2 w2 ?_ λk _ b1=>hx.block k (by omega) (λh=>h)⟩;exact he.sx hx (λ_ h=>h.elim)
theorem GE.ad_{B H m:Nat}{xs:List aG}(h:GE rR 57 w B H (.slice P m c) xs)(hl:xs.length<=1099511627776):xs.length<=c:=by obtain⟨_,c',e,hc,_⟩:=h.ox (E':=Jf) hl rfl sO;injection e with _ _ e3;omega
theorem OY(g off n:Nat):(some (⟨g,off,none⟩:Addr)).map (λa=>a.add n)=some ⟨g,off+n,none⟩:=by rw[ayP];unfold Addr.add;split<;>simp_all
theorem u_{A:Option Addr}{hi:Nat}(h:hi<=c)(W:World):(Instr.sliceAt 54 (.slice A n c) none (some (.int .i64 (hi:Int))) none).run prog W=.ok (.slice A hi c) W:=by
 obtain⟨i,hi',hz,hs,hby⟩:=axW mH;have e1:(0:Int)<=(hi:Int):=by omega
 have e2:(hi:Int)<=(c:Int):=by omega
 have e3:A.map (λa=>a.add 0)=A:=by
  cases A with
  |none=>rfl
  |some a=>obtain⟨g,off,x⟩:=a;cases x<;>simp[Addr.add]
 simp[Instr.sliceAt,Instr.slice,ayj Tryz.underlying54,Instr.sliceBounds,run_sliceBound,sizeOf,typeInfo,hi',e1,e2,e3]
theorem qm{A:Option Addr}{lo:Nat}(h1:lo<=n)(h2:n<=c):∃P,(∀W,(Instr.sliceAt 54 (.slice A n c) (some (.int .i64 (lo:Int))) none none).run prog W=.ok (.slice P (n-lo) (c-lo)) W)/\
 (∀(Good:World->Prop) (W:World) (r:List aG),r.length=n->aU Good W A r->aU Good W P (r.drop lo))/\∀(W:World) (r:List aG),r.length=n->bW EF W A r->bW EF W P (r.drop lo):=by
 obtain⟨i,hi,hz,hs,hby⟩:=axW mH;have e1:(0:Int)<=(lo:Int):=by omega
 have e2:(lo:Int)<=(n:Int):=by omega
 refine⟨if c=lo then A else A.map (λa=>a.add (lo*2)),λW=>?_,λGood W r hr hq=>?_,λW r hr hq=>?_⟩
 .simp[Instr.sliceAt,Instr.slice,ayj Tryz.underlying54,Instr.sliceBounds,run_sliceBound,sizeOf,typeInfo,hi,hs,e1,e2]
 .by_cases e:r.drop lo=[]
  .rw[e];exact aU.nil _ _ _
  .have hl:lo<n:=by
    have:=axB.2 e;rw[axF]at this;omega
   rw[axm (by omega)];obtain⟨g,off,_,_,rfl,_⟩:=hq.2 lo _ (axn (by omega));rw[OY];exact hq.dp lo
 .by_cases e:r.drop lo=[]
  .rw[e];exact⟨by simp,λj x hj=>by simp at hj⟩
  .have hl:lo<n:=by
    have:=axB.2 e;rw[axF]at this;omega
   rw[axm (by omega)];obtain⟨g,off,_,rfl,_⟩:=hq.2 lo _ (axn (by omega));rw[OY];exact hq.aaz lo
theorem rf{R:List (List aG)}(hW:aQ n R)(hl:k.length=R.length):((au p).nN n k R).length=n:=by rw[<-uj hl];exact uh hW _
theorem Ur(hF:av p=true){la mid rb X W L:Nat}{a b:List (List aG)}(hk:jS p X k)(ha:iB p W a)(hb:iB p W b)(hna:a.length<=12)(hnb:b.length<=12)(hl:k.length=a.length+b.length)(hL:1+12*(X+W)<=L):jS p L ((au p).gW la mid rb a b k):=by
 have l1:(k.take a.length).length=a.length:=by rw[axx];omega
 have l2:(k.drop a.length).length=b.length:=by rw[axF];omega
 have m1:=ayk (X+W) hna;have m2:=ayk (X+W) hnb;have h1:=(FX hF (w:=la+mid) (hk.take a.length) ha a.length).mono (show _<=L by omega);have h2:=(FX hF (w:=mid+rb) (hk.drop a.length) hb b.length).mono (show _<=L by omega);have e1:=uj (p:=p) (n:=la+mid) l1;have e2:=uj (p:=p) (n:=mid+rb) l2;unfold Ops.gW;rw[<-e1,<-e2];exact(h1.take la).app (h2.drop mid)
theorem Ja{la mid rb:Nat}{a b:List (List aG)}(ha:aQ (la+mid) a)(hb:aQ (mid+rb) b)(hl:k.length=a.length+b.length):((au p).gW la mid rb a b k).length=la+rb:=by unfold Ops.gW;rw[axv,axx,axF,rf ha (by rw[axx];omega),rf hb (by rw[axF];omega)];omega
theorem Me(p:Int)(la mid rb:Nat)(a b:List (List aG))(A B:Option Addr)(ca cb:Nat)(w:World)(hA:j_ w A a)(hB:j_ w B b)(hna:a.length<=12)(hnb:b.length<=12)(h1:la+mid<=12)(h2:mid+rb<=12)(h3:la+rb<=12)(Q_:aQ (la+mid) a)(hwb:aQ (mid+rb) b)(hF:av p=true)(hga:iB p 512 a)(hgb:iB p 512 b)(hkg:iB p 3000000 ((au p).aC (a.length+b.length) ((au p).gJ (a.length+b.length) ((au p).aC (a.length+b.length) ((au p).oK la mid a b))))):
 Calls prog 42 #[.int .i64 p,.agg #[.int .i64 la,.int .i64 mid,.slice A a.length ca],.agg #[.int .i64 mid,.int .i64 rb,.slice B b.length cb]] w λe w'=>∃A' c',e=.returned (.agg #[.int .i64 la,.int .i64 rb,.slice A' ((au p).FU la mid rb a b).length c'])/\(∀w2,bG (λk=>k<w.heap.size) w' w2->j_ w2 A' ((au p).FU la mid rb a b))/\Ex w w':=by
 have HKG:=axj hkg;clear hkg;have Ac:=axj Q_;have Ab:=axj hwb;have HF:=axj hF;have HGa:=axj hga;have Xb:=axj hgb;have HA:=axj hA;have HB:=axj hB;obtain⟨na,hna'⟩:=xq a.length;obtain⟨nb,hnb'⟩:=xq b.length;have Ad:=axj hna';have Bt:=axj hnb';rw[hna']at hna⊢;rw[hnb']at hnb⊢;obtain⟨y0,d0⟩:=VB.xn w 28 #[.int .i64 la,.int .i64 mid,.slice A na ca];have S0:=axj (show(w.alloc (.cells #[.int .i64 la,.int .i64 mid,.slice A na ca] 28)).heap.size=w.heap.size+1 by simp);clear hA hB Q_ hwb hF hga hgb hna' hnb';go_enter Tryz.func42,Tryz.ntmps42
 go_wp2_with fail
 generalize w.alloc (.cells #[.int .i64 la,.int .i64 mid,.slice A na ca] 28)=W0 at*;obtain⟨y1,d1⟩:=VB.xn W0 28 #[.int .i64 mid,.int .i64 rb,.slice B nb cb];have S1:=axj (show(W0.alloc (.cells #[.int .i64 mid,.int .i64 rb,.slice B nb cb] 28)).heap.size=w.heap.size+1+1 by simp;exact S0.out);rw[S0.out]at d1;generalize W0.alloc (.cells #[.int .i64 mid,.int .i64 rb,.slice B nb cb] 28)=W1 at*;obtain⟨y2,d2⟩:=VB.xn W1 28 #[.int .i64 0,.int .i64 0,.slice none 0 0];have S2:=axj (show(W1.alloc (.cells #[.int .i64 0,.int .i64 0,.slice none 0 0] 28)).heap.size=w.heap.size+1+1+1 by simp;exact S1.out);rw[S1.out]at d2;have qa:=(d0.ex y1).ex y2;have qb:=d1.ex y2;generalize W1.alloc (.cells #[.int .i64 0,.int .i64 0,.slice none 0 0] 28)=W2 at*;have xx:=(y0.trans y1).trans y2;clear y0 y1 y2 d0 d1;have HQ:=axj (show∀W,Ex W2 W->(W.cell? ⟨w.heap.size,0,none⟩=some (.int .i64 la)/\W.cell? ⟨w.heap.size,1,none⟩=some (.int .i64 mid)/\W.cell? ⟨w.heap.size,2,none⟩=some (.slice A na ca)/\W.cell? ⟨w.heap.size+1,1,none⟩=some (.int .i64 rb)/\W.cell? ⟨w.heap.size+1,2,none⟩=some (.slice B nb cb))from λW h=>⟨(qa.ex h).c0,(qa.ex h).c1,(qa.ex h).c2,(qb.ex h).c1,(qb.ex h).c2⟩);clear qa qb;obtain⟨k0,k1,k2,k3,k4⟩:=HQ.out _ (aCQ _);have hmk:=wO mid (by omega) W2;obtain⟨M,hM⟩:=xq ((au p).oK la mid a b);have HM:=axj hM;have BU:=axj (show M.length=mid by rw[<-hM];unfold Ops.oK;simp);have ala:=axj (show∀j,j<mid->M[j]?=some (a.map (λr=>(au p).el r (la+j))++b.map (λr=>bY p ((au p).el r j)))from λj hj=>by
  rw[<-hM];unfold Ops.oK;rw[axw,ayO hj];rfl)
 clear hM;go_wp2_with fail
 rw[hmk];go_wp2_with fail
 clear k0 k1 k2 k3 k4 hmk;have ME0:=G5.start w W2 BU.out;rw[TD]at ME0;have z3:=(aCQ W2).alloc (.cells (Array.replicate mid (Value.slice none 0 0)) 54);have S3:(W2.alloc (.cells (Array.replicate mid (Value.slice none 0 0)) 54)).heap.size=W2.heap.size+1:=by simp
 generalize W2.alloc (.cells (Array.replicate mid (Value.slice none 0 0)) 54)=W3 at*;rw[<-S3]at ME0;clear S3;go_loopw [25] (λi wr=>∃j:Nat,j<=mid/\i=.int .i64 j/\G5 w W2.heap.size wr.heap.size j M wr/\Ex W2 wr) (λi _=>mid-(intOf i).toNat)
 case atStart=>exact⟨0,axq _,rfl,ME0,z3⟩
 case round=>
  rename World=>wi;clear ME0 z3;obtain⟨j,hj,rfl,hME,he⟩:=hrel;have hzi:=he.size;by_cases hlt:j<mid
  .have Rx:=hME.open_ (by rw[BU.out];exact hlt);have hGs:W2.heap.size<wi.heap.size:=hME.1;obtain⟨k0,k1,k2,k3,k4⟩:=HQ.out _ he;go_wp2_with fail
   clear k0 k1 k2 k3 k4;go_loopw [31] (λi wr=>∃(k:Nat) (v:Value),k<=na/\i=.int .i64 k/\tT w W2.heap.size wi.heap.size j M wr v/\RP w wi.heap.size wr v ((a.map (λr=>(au p).el r (la+j))).take k)/\wi.heap.size<=wr.heap.size/\Ex W2 wr) (λi _=>na-(intOf i).toNat)
   case atStart=>exact⟨0,_,axq _,rfl,Rx,RP.nil w wi,axk _,he⟩
   case round=>
    rename World=>wj;clear Rx he;obtain⟨k,v,hk,rfl,Rx,Py,hsz,he⟩:=hrel;have xw:=xx.trans he;by_cases hlt2:k<na
    .obtain⟨g,off,row,P,pc,eA,hr,wE,hpc,hP⟩:=HA.out.at_ (j:=k) (by rw[Ad.out];exact hlt2);subst eA;have hrl:=Ac.out row (axo hr);obtain⟨g2,off2,x,P1,pc1,Q1,qc1,eP,hx,c1w,c2w,hP1,NV⟩:=hP.iy (j:=la+j) (by rw[hrl];omega);subst eP;have HT:=axj (show(a.map (λr=>(au p).el r (la+j))).take (k+1)=(a.map (λr=>(au p).el r (la+j))).take k++[x] by rw[jO hr,Ops.dD _ hx]);obtain⟨A2,c2,ev⟩:=Py.form;subst ev;have htl:=ax7 k (a.map (λr=>(au p).el r (la+j)));obtain⟨tl,Rb⟩:∃tl,((a.map (λr=>(au p).el r (la+j))).take k).length=tl:=⟨_,rfl⟩;rw[hrl]at wE;rw[Rb]at Rx Py htl;have y1:Ex wj (wj.drew.alloc (.cells #[.slice P1 x.n.length pc1,.slice Q1 x.d.length qc1] 57)):=((aCQ wj).drew).alloc _;obtain⟨v',w5,hrun,C9,kp5,sz5,Be,_,_⟩:=(Py.ex y1).Tc (axA hsz y1.size) (MF (w:=wj.drew) (Good:=λw2=>Ex w w2) (x:=x) (u:=.slice P1 x.n.length pc1) (v:=.slice Q1 x.d.length qc1) rfl rfl (λw2 h2=>⟨⟨P1,pc1,rfl,hP1.ex h2⟩,⟨Q1,qc1,rfl,NV.ex h2⟩⟩)) (λw2 h0 _=>h0) 1 (by rw[Rb];simp;omega);rw[ayt]at hrun;obtain⟨A5,c5,Ug⟩:=C9.form;rw[axv,Rb,ayt]at Ug;subst Ug;rw[<-HT.out]at C9;have xe5:=Be W2 (he.trans y1) (by omega);have NW:=(Rx.ex hsz y1).keep kp5;have m5:=NW.cell;have z5:=NW.frozen j;have agF:=NW.set (.slice A5 (tl+1) c5);have e6:aM W2.heap.size w5 (w5.setCell ⟨W2.heap.size,j,none⟩ (.slice A5 (tl+1) c5)):=(aM.refl _ _).setCell (p:=⟨W2.heap.size,j,none⟩) rfl _;have rp6:=C9.k1 e6 hGs;have xe6:=xe5.aK e6 (axk _);have hz1:=y1.size;have VW:=e6.size;obtain⟨k0,k1,k2,k3,k4⟩:=HQ.out _ he;have b0:=af xw wE;have c1:=af xw c1w;have c2':=af xw c2w;have m0:=Rx.cell;have m0':(wj.alloc (.cells #[.slice P1 x.n.length pc1,.slice Q1 x.d.length qc1] 57)).cell? ⟨W2.heap.size,j,none⟩=some (.slice A2 tl c2):=af ((aCQ wj).alloc _) m0;have hadd:IntKind.i64.wrap ((la:Int)+(j:Int))=((la+j:Nat):Int):=by rw[axC _ (by omega)];omega
     obtain⟨lj,hlj⟩:=xq (la+j);rw[hlj]at hadd c1 c2';have atX:(lj:Int)<(la:Int)+(mid:Int):=by omega
     clear hlj;clear hr hx hP hP1 NV HT wE c1w c2w Be Py Rx NW C9 k1 k2 k3 k4;go_wp2_with fail
     go_region_law (first|(refine aH rfl _ _ _ rfl rfl rfl hrun ?_))
     all_goals
      clear hrun m0 m0' m5 z5 k0 b0 c1 c2';go_wp2_with fail
      go_roundw;case rel=>exact⟨k+1,_,by omega,by go_num,agF,rp6,by omega,xe6⟩
      case measure=>simp[intOf];omega
    .obtain rfl:na=k:=by omega
     rw[axG (by rw[axs,Ad.out];exact axk _)]at Py;obtain⟨k0,k1,k2,k3,k4⟩:=HQ.out _ he;go_wp2_with fail
     clear k0 k1 k2 k3 k4;go_loopw [55] (λi wr=>∃(k:Nat) (v:Value),k<=nb/\i=.int .i64 k/\tT w W2.heap.size wi.heap.size j M wr v/\RP w wi.heap.size wr v (a.map (λr=>(au p).el r (la+j))++(b.map (λr=>bY p ((au p).el r j))).take k)/\wi.heap.size<=wr.heap.size/\Ex W2 wr) (λi _=>nb-(intOf i).toNat)
     case atStart=>exact⟨0,_,axq _,rfl,Rx,by simpa using Py,hsz,he⟩
     case round=>
      rename World=>wk;clear Rx he Py xw hsz;obtain⟨k,v,hk,rfl,Rx,Py,hsz,he⟩:=hrel;have xw:=xx.trans he;by_cases hlt2:k<nb
      .obtain⟨g,off,row,P,pc,eA,hr,wE,hpc,hP⟩:=HB.out.at_ (j:=k) (by rw[Bt.out];exact hlt2);subst eA;have hrl:=Ab.out row (axo hr);obtain⟨g2,off2,x,P1,pc1,Q1,qc1,eP,hx,c1w,c2w,hP1,NV⟩:=hP.iy (j:=j) (by rw[hrl];omega);subst eP;have HT:=axj (show(b.map (λr=>bY p ((au p).el r j))).take (k+1)=(b.map (λr=>bY p ((au p).el r j))).take k++[bY p x] by rw[jO hr,Ops.dD _ hx]);have hxg:=axj (Xb.out row (axo hr) x (axo hx));obtain⟨A2,c2,ev⟩:=Py.form;subst ev;have htl:(a.map (λr=>(au p).el r (la+j))++(b.map (λr=>bY p ((au p).el r j))).take k).length<=na+k:=by
        have:=ax7 k (b.map (λr=>bY p ((au p).el r j)));rw[axv,axs,Ad.out];omega
       obtain⟨tl,Rb⟩:∃tl,(a.map (λr=>(au p).el r (la+j))++(b.map (λr=>bY p ((au p).el r j))).take k).length=tl:=⟨_,rfl⟩;rw[hrl]at wE;rw[Rb]at Rx Py htl;have b0:=af xw wE;have c1:=af xw c1w;have c2':=af xw c2w;have m0:=Rx.cell;have hjm:(j:Int)<(mid:Int)+(rb:Int):=by omega
       have hPk:=hP1.ex xw;have hQk:=NV.ex xw;clear hr hx hP hP1 NV wE c1w c2w;go_wp2_with fail
       go_region_law (first
        |(go_simp
          go_at_call 75
          refine(zw p x P1 Q1 pc1 qc1 _ hxg.out.1 (hPk.ex (aCQ wk).drew) (hQk.ex (aCQ wk).drew)).mono ?_;rintro e w2 ⟨N1,n1,N2,n2,rfl,f1,f2,ap,x2'⟩;have x2:Ex wk w2:=(aCQ wk).drew.trans x2';have hz2:=x2.size;have y3:Ex wk (w2.alloc (.cells #[.slice N1 (bY p x).n.length n1,.slice N2 (bY p x).d.length n2] 57)):=x2.alloc _;have hof:=dZ (x:=bY p x) f1 f2 ap hz2;obtain⟨v',w5,hrun,C9,kp5,sz5,Be,_,_⟩:=(Py.ex y3).Tc (axA hsz y3.size) (MF (w:=w2) (Good:=λW=>∀q,wk.heap.size<=q->q<w2.heap.size->q<w2.heap.size->W.heap[q]?=w2.heap[q]?) (x:=bY p x) (u:=.slice N1 (bY p x).n.length n1) (v:=.slice N2 (bY p x).d.length n2) rfl rfl (λW hW=>(hof.keep hW).rd)) (RP.good ((aCQ w2).alloc _) hsz Py.own) 1 (by rw[Rb];simp;omega);rw[ayt]at hrun;obtain⟨A5,c5,Ug⟩:=C9.form;rw[axv,Rb,ayt]at Ug;subst Ug;rw[ayg,<-HT.out]at C9;have xe5:=Be W2 (he.trans y3) (by omega);have m2:=af x2 m0;have m3:=af y3 m0;have NW:=(Rx.ex hsz y3).keep kp5;have m5:=NW.cell;have z5:=NW.frozen j)
        |(refine aH rfl _ _ _ rfl rfl rfl hrun ?_))
       all_goals
        have agF:=NW.set (.slice A5 (tl+1) c5);have e6:aM W2.heap.size w5 (w5.setCell ⟨W2.heap.size,j,none⟩ (.slice A5 (tl+1) c5)):=(aM.refl _ _).setCell (p:=⟨W2.heap.size,j,none⟩) rfl _;have rp6:=C9.k1 e6 hGs;have xe6:=xe5.aK e6 (axk _);have hz1:=y3.size;have VW:=e6.size;clear hrun m0 m2 m3 m5 z5 b0 c1 c2' hof;go_wp2_with fail
        go_roundw;case rel=>exact⟨k+1,_,by omega,by go_num,agF,rp6,by omega,xe6⟩
        case measure=>simp[intOf];omega
      .obtain rfl:nb=k:=by omega
       rw[axG (by rw[axs,Bt.out];exact axk _)]at Py;obtain⟨A2,c2,ev⟩:=Py.form;subst ev;have hEn:=Rx.next (ala.out j hlt) (by rw[axv,axs,axs,Ad.out,Bt.out];omega) hsz Py;clear Rx Py;go_wp2_with fail
       go_roundw;case rel=>exact⟨j+1,by omega,by go_num,hEn,he⟩
       case measure=>simp[intOf];omega
  .obtain rfl:mid=j:=by omega
   have aj_:G5 w W2.heap.size wi.heap.size M.length M wi:=by rw[BU.out];exact hME
   have xw:=xx.trans he;have hrn:=aj_.MC (axk _) (by rw[BU.out];omega) xw;have hwM:aQ (na+nb) M:=λv hv=>by obtain⟨t,ht⟩:=axz hv;have htl:=(axp.1 ht).1;rw[ala.out t (by rw[<-BU.out];exact htl)]at ht;injection ht with ht;rw[<-ht,axv,axs,axs,Ad.out,Bt.out]
   have hgM:iB p 512 M:=by rw[<-HM.out];exact acD HF.out (by omega) HGa.out Xb.out
   have cN:∀c,Calls prog 76 #[.int .i64 p,.int .i64 ((na+nb:Nat):Int),.slice (some ⟨W2.heap.size,0,none⟩) mid c] wi λe w'=>∃A' c',e=.returned (.slice A' ((au p).aC (na+nb) ((au p).gJ (na+nb) ((au p).aC (na+nb) M))).length c')/\j_ w' A' ((au p).aC (na+nb) ((au p).gJ (na+nb) ((au p).aC (na+nb) M)))/\Ex wi w':=λc=>by have:=Yl p (na+nb) M (some ⟨W2.heap.size,0,none⟩) c wi HF.out hrn hwM hgM (by omega) (by rw[BU.out];omega);rwa[BU.out]at this
   have hgR:iB p 86542 ((au p).aC (na+nb) M):=(Fq HF.out (by omega) hgM hwM (R:=12) (.inr (by rw[BU.out];omega))).mono (by unfold jg;omega);have hgN:iB p 86542 ((au p).gJ (na+nb) ((au p).aC (na+nb) M)):=Na HF.out (by omega) hgR;have hwN:aQ (na+nb) ((au p).gJ (na+nb) ((au p).aC (na+nb) M)):=lF _ _;have HKg:=axj (show iB p 3000000 ((au p).aC (na+nb) ((au p).gJ (na+nb) ((au p).aC (na+nb) M)))from by
    have h:=HKG.out;rw[Ad.out,Bt.out,HM.out]at h;exact h)
   obtain⟨hkw,hkl,hkn⟩:=Ub HF.out (λv hv x hx=>(hgN v hv x hx).1) hwN;have dN:=axj (show(au p).FU la mid rb a b=(au p).aC (la+rb) (((au p).aC (na+nb) ((au p).gJ (na+nb) ((au p).aC (na+nb) M))).map ((au p).gW la mid rb a b)) by
    rw[<-HM.out,<-Ad.out,<-Bt.out];rfl)
   obtain⟨KL,hKL⟩:=xq ((au p).aC (na+nb) ((au p).gJ (na+nb) ((au p).aC (na+nb) M)));rw[hKL]at cN HKg hkw hkl hkn dN;have HKw:=axj hkw;have HKn:Hid (KL≠[]->0<na+nb):=axj λh=>by obtain⟨v,hv⟩:=List.exists_mem_of_ne_nil _ h;have:=hkl v hv;omega
   obtain⟨kl,hkl'⟩:=xq KL.length;have HKl:=axj hkl';rw[hkl']at cN hkn;obtain⟨s,hs⟩:=xq (na+nb);have Hs:=axj hs;have hadd:IntKind.i64.wrap ((na:Int)+(nb:Int))=(s:Int):=by rw[axC _ (by omega)];omega
   rw[hs]at cN hkn;have atD:s<=24:=by omega
   obtain⟨k0,k1,k2,k3,k4⟩:=HQ.out _ he;clear hME aj_ hrn hwM hgM hgR hgN hwN hkw hkl hKL hkl' hs;go_wp2_with fail
   refine(cN _).mono ?_;rintro e w5 ⟨A5,c5,rfl,hC,x5⟩;clear cN k0 k1 k2 k3 k4;go_wp2_with fail
   have X5:=he.trans x5;go_loopw [14,87] (λo i wr=>∃k:Nat,k<=kl/\i=.int .i64 k/\GE (wK w) 54 wr w5.heap.size wr.heap.size o ((KL.map ((au p).gW la mid rb a b)).take k)/\Ex w5 wr) (λ_ i _=>kl-(intOf i).toNat)
   case atStart=>exact⟨0,axq _,rfl,GE.nil _ _ _ _ _,aCQ _⟩
   case round=>
    rename World=>wj;obtain⟨k,hk,rfl,hge,Fe⟩:=hrel;have hzj:=Fe.size;by_cases hlt2:k<kl
    .obtain⟨g,off,kr,P,pc,eA,hr,wE,hpc,hP⟩:=hC.at_ (j:=k) (by rw[HKl.out];exact hlt2);subst eA;have Bc:=HKw.out kr (axo hr);have Rk:=HKg.out kr (axo hr);have HT:=axj (jO (f:=(au p).gW la mid rb a b) hr);have b0:=af Fe wE;rw[Bc,Hs.out]at b0;rw[Bc,Hs.out]at hpc;have hns:na<=s:=by have:=Hs.out;omega
     have hpn:na<=pc:=by omega
     have hs1:=λW=>u_ (A:=P) (n:=s) (c:=pc) (hi:=na) hpn W
     obtain⟨P',hs2,_,hrd⟩:=qm (A:=P) (n:=s) (c:=pc) (lo:=na) hns hpc;rw[show s-na=nb by have:=Hs.out;omega]at hs2;have xj:=X5.trans Fe;have xwj:=xx.trans xj;have l1:(kr.take na).length=na:=by rw[axx,Bc];omega
     have l2:(kr.drop na).length=nb:=by rw[axF,Bc];omega
     obtain⟨X,hX⟩:=xq ((au p).nN (la+mid) (kr.take na) a);obtain⟨Z,hZ⟩:=xq ((au p).nN (mid+rb) (kr.drop na) b);have hXl:X.length=la+mid:=by rw[<-hX];exact rf Ac.out (by rw[l1,Ad.out])
     have Ru:Z.length=mid+rb:=by rw[<-hZ];exact rf Ab.out (by rw[l2,Bt.out])
     have HR:=axj (show(au p).gW la mid rb a b kr=X.take la++Z.drop mid by
      unfold Ops.gW;rw[Ad.out,hX,hZ])
     have cX:∀W,Ex wj W->∀d,Calls prog 77 #[.int .i64 p,.int .i64 ((la+mid:Nat):Int),.slice A na ca,.slice P na d] W λe w'=>∃A' c',e=.returned (.slice A' (la+mid) c')/\GE rR 57 w' W.heap.size w'.heap.size (.slice A' (la+mid) c') X/\Ex W w':=λW hW d=>by have:=SX p (la+mid) a (kr.take na) A P ca d W HF.out (HA.out.1.ex (xwj.trans hW)) ((hP.ex (Fe.trans hW)).tkk na) Ac.out (by rw[l1,Ad.out]) (by omega) (by rw[Ad.out];exact hna) (Rk.take na) HGa.out;rwa[Ad.out,l1,hX]at this
     have cZ:∀W,Ex wj W->∀d,Calls prog 77 #[.int .i64 p,.int .i64 ((mid+rb:Nat):Int),.slice B nb cb,.slice P' nb d] W λe w'=>∃A' c',e=.returned (.slice A' (mid+rb) c')/\GE rR 57 w' W.heap.size w'.heap.size (.slice A' (mid+rb) c') Z/\Ex W w':=λW hW d=>by have:=SX p (mid+rb) b (kr.drop na) B P' cb d W HF.out (HB.out.1.ex (xwj.trans hW)) (hrd _ kr (by rw[Bc,Hs.out]) (hP.ex (Fe.trans hW))) Ab.out (by rw[l2,Bt.out]) (by omega) (by rw[Bt.out];exact hnb) (Rk.drop na) Xb.out;rwa[Bt.out,l2,hZ]at this
     have hlm:IntKind.i64.wrap ((la:Int)+(mid:Int))=((la+mid:Nat):Int):=by rw[axC _ (by omega)];omega
     have hmr:IntKind.i64.wrap ((mid:Int)+(rb:Int))=((mid+rb:Nat):Int):=by rw[axC _ (by omega)];omega
     have tN:((KL.map ((au p).gW la mid rb a b)).take k).length<=k:=ax7 _ _;obtain⟨lm,Rj⟩:=xq (la+mid);obtain⟨mr,Ri⟩:=xq (mid+rb);have HLM:=axj Rj;have HMR:=axj Ri;rw[Rj]at cX hlm hXl;rw[Ri]at cZ hmr Ru;have HS:∀W,Ex wj W->(W.cell? ⟨w.heap.size,0,none⟩=some (.int .i64 la)/\W.cell? ⟨w.heap.size,2,none⟩=some (.slice A na ca)/\W.cell? ⟨w.heap.size+1,1,none⟩=some (.int .i64 rb)/\W.cell? ⟨w.heap.size+1,2,none⟩=some (.slice B nb cb)):=λW h=>by obtain⟨k0,k1,k2,k3,k4⟩:=HQ.out _ (xj.trans h);exact⟨k0,k2,k3,k4⟩
     clear hr hP hrd Bc Rk hX hZ wE l1 l2 Rj Ri;go_wp2_with fail
     go_region_held3 (λW=>W.cell? ⟨w.heap.size,0,none⟩=some (.int .i64 la)/\W.cell? ⟨w.heap.size,2,none⟩=some (.slice A na ca)/\W.cell? ⟨w.heap.size+1,1,none⟩=some (.int .i64 rb)/\W.cell? ⟨w.heap.size+1,2,none⟩=some (.slice B nb cb)) (first
      |(exact HS _ x6)|(exact HS _ (aCQ _).drew)|(exact HS _ (aCQ _))) (first
      |(go_at_call 77
        refine(cX _ (aCQ wj).drew _).mono ?_;rintro e w6 ⟨A6,c6,rfl,PD,SB⟩;have x6:Ex wj w6:=(aCQ wj).drew.trans SB))
     go_wp2_with fail
     go_region_held3 (λW=>W.cell? ⟨w.heap.size,0,none⟩=some (.int .i64 la)/\W.cell? ⟨w.heap.size,2,none⟩=some (.slice A na ca)/\W.cell? ⟨w.heap.size+1,1,none⟩=some (.int .i64 rb)/\W.cell? ⟨w.heap.size+1,2,none⟩=some (.slice B nb cb)) (first
      |(exact HS _ x7)|(exact HS _ x6.drew)|(exact HS _ x6)) (first
      |(go_at_call 77
        refine(cZ _ x6.drew _).mono ?_;rintro e w7 ⟨A7,c7,rfl,zm,x7'⟩;have x67:Ex w6 w7:=(aCQ w6).drew.trans x7';have x7:Ex wj w7:=x6.trans x67))
     clear cX cZ hs1 hs2 b0;have hXr:X.length<=1000:=by rw[hXl];have:=HLM.out;omega
     have hZr:Z.length<=1000:=by rw[Ru];have:=HMR.out;omega
     have hc6:=PD.ad_ (by omega);have hc7:=zm.ad_ (by omega);rw[hXl]at hc6;rw[Ru]at hc7;have hsx:=λW=>u_ (A:=A6) (n:=lm) (c:=c6) (hi:=la) (by have:=HLM.out;omega) W
     obtain⟨Pz,hsz,hqz,_⟩:=qm (A:=A7) (n:=mr) (c:=c7) (lo:=mid) (by have:=HMR.out;omega) hc7;rw[show mr-mid=rb by have:=HMR.out;omega]at hsz;have t1:(X.take la).length=la:=by rw[axx,hXl];have:=HLM.out;omega
     have t2:(Z.drop mid).length=rb:=by rw[axF,Ru];have:=HMR.out;omega
     have VW:=x6.size;have ana:=x67.size;have x78:Ex w7 (w7.drew.alloc (.cells #[] 57)):=(aCQ w7).drew.alloc _;have r0:=(RP.start w w7.drew).low (s':=wj.heap.size) (show wj.heap.size<=w7.heap.size by omega);obtain⟨v9,w9,IL,rp9,_,hz9,hE9,aeo,hO9⟩:=r0.Tc (show wj.heap.size<=_ from by have:=x78.size;omega) (((PD.rX (by omega)).tk la).ex (x67.trans x78)) (RP.aeJ (x67.trans x78) (axk _) (λk e=>by injection e with e;rw[<-e];exact ana)) c6 (by rw[t1];simp;omega);have x9:=hE9 wj (x7.trans x78) (axk _);have x79:Ex w7 w9:=x78.Og hO9 (λg e=>by injection e with e;rw[<-e];exact axk _);rw[ayz]at rp9;rw[t1]at IL;have hv9:∀k,v9.ownBlock=some k->w7.heap.size<=k:=λk e=>by
      rcases aeo with q|q
      .rw[q]at e;injection e with e;rw[<-e];exact axk _
      .rw[q]at e;injection e with e;rw[<-e];exact x78.size
     obtain⟨v10,KX,uH,ab6,_,atr,Fj,af_,aop⟩:=rp9.Tc x9.size ((hqz _ w7 Z Ru (zm.rX (by omega))).ex x79) (RP.aeJ x79 (show wj.heap.size<=w6.drew.heap.size from VW) hv9) (c7-mid) (by rw[t1,t2];have:=HMR.out;have:=HLM.out;omega);have x10:=Fj wj x9 (axk _);rw[t2]at uH;rw[<-HR.out]at ab6;obtain⟨A10,c10,akB⟩:=ab6.form;have hrl:((au p).gW la mid rb a b kr).length=la+rb:=by rw[HR.out,axv,t1,t2]
     rw[hrl]at akB;subst akB;have hq:=ab6.KA (by rw[hrl];omega);obtain⟨v11,w11,E8,aad,_,_,Z8⟩:=bO (hge.ex x10) x10.size hq (axk _) x10.size (axk _) hzj (by omega);rw[<-HT.out]at aad;have x11:=Z8 w5 (Fe.trans x10) (axk _);have O_:∀W,Ex W2 W->W.cell? ⟨w.heap.size,0,none⟩=some (.int .i64 la):=λW h=>(HQ.out W h).1
     have q0:=O_ _ (xj.trans x7);have q1:(w7.alloc (.cells #[] 57)).cell? ⟨w.heap.size,0,none⟩=some (.int .i64 la):=af ((aCQ w7).alloc _) q0;clear hE9 Fj Z8 rp9 ab6 hq r0 PD zm hqz hge hv9 HS aeo af_ hO9 aop hXr hZr hXl Ru;go_wp2_with fail
     go_region_held3 (λW=>W.cell? ⟨w.heap.size,0,none⟩=some (.int .i64 la)) (first
      |(exact O_ _ (X5.trans x11))|(exact O_ _ ((xj.trans x10).alloc _))|(exact O_ _ (xj.trans x10))|(exact O_ _ (xj.trans x9))|(exact O_ _ (xj.trans (x7.trans x78)))|(exact O_ _ (xj.trans x7).drew)|(exact O_ _ (xj.trans x7))) (first
      |(refine aH (vx:=.slice A6 la c6) rfl _ _ _ rfl rfl rfl IL ?_)
      |(refine aH (vs:=v9) rfl _ _ _ rfl rfl rfl uH ?_)
      |(refine aH rfl _ _ _ rfl rfl rfl E8 ?_))
     clear IL uH E8 hsx hsz q0 q1 O_;go_wp2_with fail
     go_roundw;case rel=>exact⟨k+1,by omega,by go_num,aad,x11⟩
     case measure=>simp[intOf];omega
    .obtain rfl:kl=k:=by omega
     rw[axG (by rw[axs,HKl.out];exact axk _)]at hge;obtain⟨D,hD⟩:=xq (KL.map ((au p).gW la mid rb a b));have hDl:D.length=kl:=by rw[<-hD,axs,HKl.out]
     have hDw:aQ (la+rb) D:=λv hv=>by rw[<-hD]at hv;obtain⟨u,hu,rfl⟩:=axr.1 hv;exact Ja Ac.out Ab.out (by rw[HKw.out u hu,Ad.out,Bt.out])
     have hDg:iB p 36006145 D:=λv hv=>by rw[<-hD]at hv;obtain⟨u,hu,rfl⟩:=axr.1 hv;exact Ur HF.out (HKg.out u hu) HGa.out Xb.out (by rw[Ad.out];exact hna) (by rw[Bt.out];exact hnb) (by rw[HKw.out u hu,Ad.out,Bt.out]) (by omega)
     rw[hD]at hge dN;clear hD;have hzX:=X5.size;obtain⟨A3,c3,e3,hN⟩:=hge.MC (S:=λz=>w.heap.size<=z/\z<W2.heap.size) (by rw[hDl];omega) ((xx.trans X5).trans Fe) (λz hz=>⟨hz.1,by omega⟩);rw[hDl]at e3;subst e3;have X6:=X5.trans Fe;have VW:=X6.size;have cO:=CZ (λz=>w.heap.size<=z/\z<W2.heap.size) p la rb D A3 c3 wj HF.out hN (λz hz=>by omega) hDw (λc hc=>(jw HF.out (by omega) hDg hDw (R:=12) (.inl h3) (axk _) c hc).mono (by unfold jg;omega)) (by omega) (by rw[hDl];omega);rw[hDl]at cO;obtain⟨RR,hRR⟩:=xq ((au p).aC (la+rb) D);rw[hRR]at cO dN;clear hRR hDw hDg hDl hN hge;obtain⟨k0,k1,k2,k3,k4⟩:=HQ.out _ X6;go_wp2_with fail
     refine cO.mono ?_;rintro e w8 ⟨A4,c4,rfl,r4,x8⟩;clear cO k0 k1 k2 k3 k4;have dz:=(d2.ex X6).ex x8;have xz:=(xx.trans X6).trans x8;obtain⟨dd,zz⟩:=dz.l8 (.int .i64 la) (.int .i64 rb) (.slice A4 RR.length c4);obtain⟨u0,u1,u2⟩:=dz.d3;obtain⟨k0,k1,k2⟩:=dz.z3;obtain⟨C0,C1,C2⟩:=dd.d3;have eF:=xz.aK zz (by omega);have hl2:=d2.lt;have rF:∀w2,bG (λk=>k<w.heap.size) _ w2->j_ w2 A4 RR:=λw2 hk=>r4 _ ((bG.aZ (S:=λk=>k<wj.heap.size) zz (by show _<wj.heap.size;omega)).trans hk (λi _ e=>by show i<wj.heap.size;have e:i<w.heap.size:=e;omega))
     go_wp2_with fail
     refine axu (v:=.agg #[.int .i64 la,.int .i64 rb,.slice A4 RR.length c4]) (by simp[results,Tryz.results42,go_sem,C0,C1,C2]) rfl ?_;rw[dN.out];exact⟨A4,c4,rfl,rF,eF⟩
end Go.Proofs.YthgiffhlfcmgaaaGreatDoor
