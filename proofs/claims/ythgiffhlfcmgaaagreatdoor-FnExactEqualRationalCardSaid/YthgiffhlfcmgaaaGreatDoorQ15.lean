/- Lemmas and walks on terms over rational functions: The composition of rational relations: the .. -/
import Derived.Test.YthgiffhlfcmgaaaGreatDoorQ13
import Derived.Test.YthgiffhlfcmgaaaGreatDoorQ18
import Derived.Test.YthgiffhlfcmgaaaGreatDoorQ17
namespace Go.Proofs.YthgiffhlfcmgaaaGreatDoor
open _root_.Go.Proofs.Tryz(prog)
set_option maxRecDepth 100000
set_option maxHeartbeats 8000000
set_option linter.all false
open Go Go.RowKit
variable{p:Int}{vs:List Value}{B a b c k n:Nat}{A:Option Addr}{W0 w:World}
theorem acN(hF:av p=true){rows:List (List aG)}(hw:aQ n rows)(hg:iB p 512 rows)(hn:n<=12):aQ rows.length ((au p).lJ n rows)/\iB p 86542 ((au p).lJ n rows)/\((au p).lJ n rows).length<=rows.length:=by
 have e:(au p).red n 0 0 ((au p).beside rows)=jN (au p) ((au p).beside rows) n:=by have:=Js (au p) ((au p).beside rows) n 0;rwa[axT]at this
 have hW:aQ (n+rows.length) ((au p).red n 0 0 ((au p).beside rows)).1:=aQ.red n 0 0 _ (axq _) (iJ hw);have hG:iB p 86542 ((au p).red n 0 0 ((au p).beside rows)).1:=by rw[e];exact(jw hF (by omega) (Jb hF (by omega) hg) (iJ hw) (R:=12) (.inl hn) (by omega) n (axk _)).mono (by unfold jg;omega)
 have hL:=oV (au p) n 0 0 ((au p).beside rows);rw[oq]at hL;unfold Ops.lJ;refine⟨λv hv=>?_,λv hv=>?_,?_⟩
 .obtain⟨u,hu,rfl⟩:=axr.1 hv;rw[axF,hW u (ayM hu)];omega
 .obtain⟨u,hu,rfl⟩:=axr.1 hv;exact(hG u (ayM hu)).drop n
 .rw[axs,axF];omega
theorem Zb{K:Type}(O:Ops K)(la mid:Nat)(A B:List (List K)):(O.kI la mid A B).length=A.length+B.length:=by simp[Ops.kI]
theorem Za{K:Type}{O:Ops K}{la mid rb:Nat}{A B:List (List K)}(hA:aQ (la+mid) A)(hB:aQ (mid+rb) B):aQ mid (O.kI la mid A B):=λv hv=>by
 rcases axZ.1 hv with h|h
 .obtain⟨u,hu,rfl⟩:=axr.1 h;rw[axF,hA u hu];omega
 .obtain⟨u,hu,rfl⟩:=axr.1 h;rw[axs,axx,hB u hu];omega
theorem UX{hi:Nat}(h:hi<=c)(W:World):(Instr.sliceAt 54 (.slice A n c) none (some (.int .i64 (hi:Int))) (some (.int .i64 (hi:Int)))).run prog W=.ok (.slice A hi hi) W:=by
 obtain⟨i,hi',hz,hs,hby⟩:=axW mH;have e1:(0:Int)<=(hi:Int):=by omega
 have e2:(hi:Int)<=(c:Int):=by omega
 have e3:A.map (λa=>a.add 0)=A:=by
  cases A with
  |none=>rfl
  |some a=>obtain⟨g,off,x⟩:=a;cases x<;>simp[Addr.add]
 simp[Instr.sliceAt,Instr.slice,ayj Tryz.underlying54,Instr.sliceBounds,run_sliceBound,sizeOf,typeInfo,hi',e1,e2,e3]
theorem push_empty{v0:Value}{x:List aG}(ad:Addr)(hO:(wK W0).O w a b [v0] x)(hab:a<=b)(hb:b<=w.heap.size)(hB:B<=a):
 ∃v' w',(Builtin.append_ #[26,26] 26 #[.slice (some ad) 0 0,.slice (some ⟨w.heap.size,0,none⟩) 1 1]).run prog (w.alloc (.cells #[v0] 54))=.ok v' w'/\
  GE (wK W0) 54 w' B w'.heap.size v' [x]/\v'≠.slice none 0 0/\Ex w w':=by
 obtain⟨i,hi,hz,hs,hby⟩:=axW jB;have hx:=(aCQ w).alloc (.cells #[v0] 54);have hsz:(w.alloc (.cells #[v0] 54)).heap.size=w.heap.size+1:=by simp
 obtain⟨v',w',hrun,hown,hgr⟩:=run_append_arg_grows (P:=prog) (w:=w.alloc (.cells #[v0] 54)) 26 26 54 i (.slice none 0 0) 1 24 Tryz.underlying26 hi hz hs hby rfl (by omega) ad 0 0 [] (by simp) (λj u h=>by simp at h) ⟨w.heap.size,0,none⟩ 1 1 [v0] rfl
  (λj y hj=>World.news_of_block (heap_alloc_new w _) j y (by simpa using hj)) (by omega) (by unfold maxLen;omega) (by omega)
 rw[ayz,axT]at hown;have hx':Ex w w':=hx.Og hgr (λg e=>by cases e);have hlt:=World.ownsRow.lt hown;have hnn:v'≠.slice none 0 0:=λe=>by
  rcases hown.2 with⟨_,e2⟩|⟨g,cap,cur,e2,_⟩
  .omega
  .rw[e]at e2;cases e2
 refine⟨v',w',hrun,⟨λk e=>by have:=hlt k e;omega,[[v0]],λ_=>a,λ_=>b,rfl,⟨hown.1,?_⟩,λj y hj=>?_,λi j hi hj=>by simp at hi hj;omega⟩,hnn,hx'⟩
 .rcases hown.2 with h5|⟨g,cap,cur,e2,hg,r⟩
  .exact .inl h5
  .exact .inr ⟨g,cap,cur,e2,by omega,r⟩
 .rcases j with _|j
  .injection hj with hj;subst hj;have h1:=hx'.size;refine⟨[v0],rfl,(wK W0).oex hO hx',hB,?_,λk e=>?_⟩
   .show b<=w'.heap.size;omega
   .have:=hlt k e;show k<a∨b<=k;omega
  .simp at hj
theorem MQ{H:Nat}{v:Value}{xs:List (List aG)}(h:(xs=[]/\∃ad,v=.slice (some ad) 0 0)∨GE (wK W0) 54 w B H v xs)(hH:H<=w.heap.size){v0:Value}{x:List aG}(hu:(wK W0).O w a b [v0] x)(ha:H<=a)(hab:a<=b)(hb:b<=w.heap.size)(hB:B<=H)(hl:xs.length+1<=1099511627776):
 ∃v' w',(Builtin.append_ #[26,26] 26 #[v,.slice (some ⟨w.heap.size,0,none⟩) 1 1]).run prog (w.alloc (.cells #[v0] 54))=.ok v' w'/\
  GE (wK W0) 54 w' B w'.heap.size v' (xs++[x])/\v'≠.slice none 0 0/\∀b',Ex b' w->b'.heap.size<=B->Ex b' w':=by
 rcases h with⟨rfl,ad,rfl⟩|h
 .obtain⟨v',w',h1,h2,h3,h4⟩:=push_empty (B:=B) ad hu hab hb (by omega);exact⟨v',w',h1,h2,h3,λb' hb' _=>hb'.trans h4⟩
 .obtain⟨v',w',h1,h2,_,h4,h5⟩:=bO h hH hu ha hab hb hB hl;exact⟨v',w',h1,h2,h4,h5⟩
theorem afy{H:Nat}{v:Value}{xs:List (List aG)}(h:(xs=[]/\∃ad,v=.slice (some ad) 0 0)∨GE (wK W0) 54 w B H v xs)(hl:xs.length<=1099511627776)(he:Ex W0 w):∃A c,v=.slice A xs.length c/\bW iX w A xs:=by
 rcases h with⟨rfl,ad,rfl⟩|h
 .exact⟨_,_,rfl,by simp,λj x hj=>by simp at hj⟩
 .exact h.SY hl he
theorem GD(p:Int)(la mid rb:Nat)(a b:List (List aG))(A B:Option Addr)(ca cb:Nat)(w:World)(hA:j_ w A a)(hB:j_ w B b)(hna:a.length<=12)(hnb:b.length<=12)(h1:la+mid<=12)(h2:mid+rb<=12)(h3:la+rb<=12)(Q_:aQ (la+mid) a)(hwb:aQ (mid+rb) b)(hF:av p=true)(hga:iB p 512 a)(hgb:iB p 512 b):
 Calls prog 51 #[.int .i64 p,.agg #[.int .i64 la,.int .i64 mid,.slice A a.length ca],.agg #[.int .i64 mid,.int .i64 rb,.slice B b.length cb]] w λe w'=>∃y,e=.returned (.agg #[.int .i64 la,.int .i64 rb,y])/\rQ w' w.heap.size w'.heap.size y ((au p).oo la mid rb a b)/\Ex w w':=by
 have Ac:=axj Q_;have Ab:=axj hwb;have HF:=axj hF;have HGa:=axj hga;have Xb:=axj hgb;have HA:=axj hA;have HB:=axj hB;have hp2:=ax hF;have atJ:=aT hF;obtain⟨na,hna'⟩:=xq a.length;obtain⟨nb,hnb'⟩:=xq b.length;have Ad:=axj hna';have Bt:=axj hnb';rw[hna']at hna⊢;rw[hnb']at hnb⊢;obtain⟨y0,d0⟩:=VB.xn w 28 #[.int .i64 la,.int .i64 mid,.slice A na ca];have S0:=axj (show(w.alloc (.cells #[.int .i64 la,.int .i64 mid,.slice A na ca] 28)).heap.size=w.heap.size+1 by simp);clear hA hB Q_ hwb hF hga hgb hna' hnb';go_enter Tryz.func51,Tryz.ntmps51
 go_wp2_with fail
 generalize w.alloc (.cells #[.int .i64 la,.int .i64 mid,.slice A na ca] 28)=W0 at*;obtain⟨y1,d1⟩:=VB.xn W0 28 #[.int .i64 mid,.int .i64 rb,.slice B nb cb];have S1:=axj (show(W0.alloc (.cells #[.int .i64 mid,.int .i64 rb,.slice B nb cb] 28)).heap.size=w.heap.size+1+1 by simp;exact S0.out);rw[S0.out]at d1;generalize W0.alloc (.cells #[.int .i64 mid,.int .i64 rb,.slice B nb cb] 28)=W1 at*;obtain⟨y2,d2⟩:=VB.xn W1 28 #[.int .i64 0,.int .i64 0,.slice none 0 0];have S2:=axj (show(W1.alloc (.cells #[.int .i64 0,.int .i64 0,.slice none 0 0] 28)).heap.size=w.heap.size+1+1+1 by simp;exact S1.out);rw[S1.out]at d2;have qa:=(d0.ex y1).ex y2;have qb:=d1.ex y2;generalize W1.alloc (.cells #[.int .i64 0,.int .i64 0,.slice none 0 0] 28)=W2 at*;have xx:=(y0.trans y1).trans y2;clear y0 y1 y2 d0 d1;have HQ:=axj (show∀W,Ex W2 W->(W.cell? ⟨w.heap.size,0,none⟩=some (.int .i64 la)/\W.cell? ⟨w.heap.size,1,none⟩=some (.int .i64 mid)/\W.cell? ⟨w.heap.size,2,none⟩=some (.slice A na ca)/\W.cell? ⟨w.heap.size+1,0,none⟩=some (.int .i64 mid)/\W.cell? ⟨w.heap.size+1,1,none⟩=some (.int .i64 rb)/\W.cell? ⟨w.heap.size+1,2,none⟩=some (.slice B nb cb))from λW h=>⟨(qa.ex h).c0,(qa.ex h).c1,(qa.ex h).c2,(qb.ex h).c0,(qb.ex h).c1,(qb.ex h).c2⟩);clear qa qb;have tX:=GE.empty (wK w) 54 W2 (axk W2.heap.size);have he1:=(aCQ W2).alloc (.cells #[] 54);have hs1:(W2.alloc (.cells #[] 54)).heap.size=W2.heap.size+1:=by simp
 obtain⟨k0,k1,k2,k3,k4,k5⟩:=HQ.out _ he1;go_wp2_with fail
 clear k0 k1 k2 k3 k4 k5;go_loopw [7,22] (λo i wr=>∃k:Nat,k<=na/\i=.int .i64 k/\GE (wK w) 54 wr W2.heap.size wr.heap.size o ((a.map (List.drop la)).take k)/\o≠.slice none 0 0/\Ex W2 wr) (λ_ i _=>na-(intOf i).toNat)
 case atStart=>exact⟨0,axq _,rfl,by rw[hs1];first|exact tX|simpa[S2.out]using tX,by simp,he1⟩
 case round=>
  rename World=>wi;clear tX he1 hs1;obtain⟨k,hk,rfl,hge,hnn,he⟩:=hrel;have xw:=xx.trans he;have hzi:=he.size;by_cases hlt:k<na
  .obtain⟨g,off,row,P,pc,eA,hr,wE,hpc,hP⟩:=HA.out.at_ (j:=k) (by rw[Ad.out];exact hlt);subst eA;have hrl:=Ac.out row (axo hr);have HT:=axj (jO (f:=List.drop la) hr);rw[hrl]at hpc;obtain⟨P',hsl,_,hrd⟩:=qm (A:=P) (n:=la+mid) (c:=pc) (lo:=la) (by omega) hpc;rw[aya]at hsl;have b0:=af xw wE;rw[hrl]at b0;have hq:(wK w).O wi wi.heap.size wi.heap.size [.slice P' mid (pc-la)] (row.drop la):=⟨P',pc-la,by rw[axF,hrl,aya],λw2 h0 _=>(hrd w row hrl hP).ex h0⟩;have tN:((a.map (List.drop la)).take k).length<=k:=ax7 _ _;obtain⟨v7,w7,hrun,zm,_,hn7,wS⟩:=bO hge (axk _) hq (axk _) (axk _) (axk _) hzi (by omega);rw[<-HT.out]at zm;have x7:=wS W2 he (axk _);obtain⟨k0,k1,k2,k3,k4,k5⟩:=HQ.out _ he;clear hr hP hrd hq wE wS hge HT tN;go_wp2_with (at_builtin;refine wpList_append_run rfl _ _ _ rfl rfl rfl hrun ?_)
   go_roundw;case rel=>exact⟨k+1,by omega,by go_num,zm,hn7,x7⟩
   case measure=>simp[intOf];omega
  .obtain rfl:na=k:=by omega
   rw[axG (by rw[axs,Ad.out];exact axk _)]at hge;obtain⟨k0,k1,k2,k3,k4,k5⟩:=HQ.out _ he;go_wp2_with fail
   clear k0 k1 k2 k3 k4 k5;go_loopw [7,37] (λo i wr=>∃k:Nat,k<=nb/\i=.int .i64 k/\GE (wK w) 54 wr W2.heap.size wr.heap.size o (a.map (List.drop la)++(b.map (λr=>(r.take mid).map (bY p))).take k)/\o≠.slice none 0 0/\Ex W2 wr) (λ_ i _=>nb-(intOf i).toNat)
   case atStart=>exact⟨0,axq _,rfl,by simpa using hge,hnn,he⟩
   case round=>
    rename World=>wj;clear hge hnn he xw hzi;obtain⟨k,hk,rfl,hge,hnn,he⟩:=hrel;have xw:=xx.trans he;have hzj:=he.size;by_cases hlt:k<nb
    .obtain⟨g,off,row,P,pc,eA,hr,wE,hpc,hP⟩:=HB.out.at_ (j:=k) (by rw[Bt.out];exact hlt);subst eA;have hrl:=Ab.out row (axo hr);have hrg:=Xb.out row (axo hr);have HT:=axj (jO (f:=λr=>(List.take mid r).map (bY p)) hr);rw[hrl]at hpc;have anu:=λW=>u_ (A:=P) (n:=mid+rb) (c:=pc) (hi:=mid) (by omega) W
     have b0:=af xw wE;rw[hrl]at b0;have htl:(row.take mid).length=mid:=by rw[axx,hrl];omega
     have tN:((b.map (λr=>(r.take mid).map (bY p))).take k).length<=k:=ax7 _ _;obtain⟨k0,k1,k2,k3,k4,k5⟩:=HQ.out _ he;go_wp2_with fail
     refine(gm mid (by omega) _).mono ?_;rintro e w1 ⟨v1,rfl,⟨hn1,oL⟩,x1⟩;obtain⟨b1,c1,e1,hc1,_⟩:=oL.form hn1;rw[axH]at e1 hc1;subst e1;have F1:=oL.adr (a:=wj.heap.size) (axk _);have hb1:wj.heap.size<=b1:=by obtain⟨_,_,_,_,hB,_⟩:=oL.at_;exact hB
     have aun:=F1.lt;have hz1:=x1.size;clear oL hn1 k0 k1 k2 k3 k4 k5;obtain⟨k0,k1,k2,k3,k4,k5⟩:=HQ.out _ (he.trans x1);have hsub:IntKind.i64.wrap (p-1)=p-1:=axC _ (by omega);have hp1:p-1≠0:=by omega
     have cAdd:∀(W:World) (C D:Option Addr) (cc dd:Nat),Ex w1 W->Rd W C [p-1]->Rd W D [1]->(∀a',C=some a'->w1.heap.size<=a'.block)->(∀a',D=some a'->w1.heap.size<=a'.block)->Calls prog 84 #[.int .i64 p,.slice (some ⟨b1,0,none⟩) mid c1,.agg #[.slice C 1 cc,.slice D 1 dd],.slice P mid pc] W λe w'=>e=.returned (.tuple #[])/\pG w' (λz=>z<wj.heap.size∨z=b1) b1 ((row.take mid).map (bY p))/\bG (λz=>z=b1) W w':=λW C D cc dd hW hC hD hC2 hD2=>by have hWs:=hW.size;have hno:=acs hp2;have:=nS p (λz=>z<wj.heap.size∨z=b1) b1 P (List.replicate mid zF) (row.take mid) (bY p oF) C D cc dd c1 pc W (λz hz=>by omega) (.inr rfl) (F1.ex hW) (λW' h'=>(hP.ex ((xw.trans (x1.trans hW)).sx h' (λz e=>by have:=xw.size;omega))).tkk mid) (by rw[htl,axH]) (by rw[hno];exact⟨hC,λ_ a' e hz=>by have:=hC2 a' e;have hz':a'.block=b1:=hz;omega⟩) (by rw[hno];exact⟨hD,λ_ a' e hz=>by have:=hD2 a' e;have hz':a'.block=b1:=hz;omega⟩) ((jS.zeros HF.out (axk 1) mid).mono (by omega)) ((hrg.take mid).mono (by omega)) (FV.one HF.out).neg ((YN HF.out (axk 1)).2.neg.mono (by omega)) (by rw[htl];omega);have han:=WT (p:=p) HF.out (ws:=row.take mid) (λx hx=>((hrg.take mid) x hx).1);rw[htl]at han;rw[han,htl,axH,hno]at this;exact this.mono λe w' ⟨q1,q2,q3,_⟩=>⟨q1,q2,q3⟩
     clear hr hP hrg F1 wE;go_wp2_with fail
     go_region_law (first
      |(go_simp
        go_at_call 85
        refine(zJ (p-1) hp1 _).mono ?_;rintro e w2 ⟨C,cc,D,dd,rfl,fC,fD,apC,x2'⟩;have x2:Ex w1 w2:=(aCQ w1).drew.trans x2';obtain⟨l0,l1,l2,l3,l4,l5⟩:=HQ.out _ (he.trans (x1.trans x2)))
      |(go_simp
        go_at_call 84
        refine(cAdd w2 C D cc dd x2 fC.rd fD.rd (λa' e=>fC.hi a' e) (λa' e=>fD.hi a' e)).mono ?_;rintro e w3 ⟨rfl,F3,x3⟩))
     all_goals
      have x13:Ex wj w3:=(x1.trans x2).sx x3 (λz e=>e▸hb1);have hq:=F3.KA (W0:=w) (c:=c1) hb1 (by rw[axs,htl];omega);rw[axs,htl]at hq;obtain⟨v7,w7,hrun,zm,_,hn7,wS⟩:=bO (hge.ex x13) x13.size hq (axk _) x13.size (axk _) hzj (by rw[axv,axs,Ad.out];omega);rw[ayg,<-HT.out]at zm;have x7:=wS W2 (he.trans x13) (axk _);clear k0 k1 k2 k3 k4 k5 l0 l1 l2 l3 l4 l5 hq wS hge HT tN F3 cAdd anu b0;go_wp2_with (at_builtin;refine wpList_append_run rfl _ _ _ rfl rfl rfl hrun ?_)
      go_roundw;case rel=>exact⟨k+1,by omega,by go_num,zm,hn7,x7⟩
      case measure=>simp[intOf];omega
    .obtain rfl:nb=k:=by omega
     rw[axG (by rw[axs,Bt.out];exact axk _)]at hge;obtain⟨R,hR⟩:=xq ((au p).kI la mid a b);have wH:=hge;rw[show a.map (List.drop la)++b.map (λr=>(r.take mid).map (bY p))=R from hR]at wH;have hRl:R.length=na+nb:=by rw[<-hR,Zb,Ad.out,Bt.out]
     obtain⟨A5,c5,Ug,rd5⟩:=wH.SY (by omega) xw;rw[hRl]at Ug;subst Ug;have hwR:aQ mid R:=by rw[<-hR];exact Za Ac.out Ab.out
     have hgR:iB p 512 R:=by rw[<-hR];exact acE HGa.out Xb.out
     obtain⟨hk1,hk2,hk3⟩:=acN HF.out hwR hgR (by omega);have y6:=(aCQ wj).alloc (.cells #[] 54);have s6:(wj.alloc (.cells #[] 54)).heap.size=wj.heap.size+1:=by simp
     have PD:=GE.empty (wK w) 54 wj (axk wj.heap.size);have cK:=MJ p mid R A5 c5 _ HF.out (rd5.ex y6) hwR hgR (by omega) (by rw[hRl];omega);obtain⟨KL,hKL⟩:=xq ((au p).lJ mid R);have dN:=axj (show(au p).oo la mid rb a b=(au p).aC (la+rb) (KL.map ((au p).gW la mid rb a b)) by rw[<-hKL,<-hR];rfl);rw[hKL,hRl]at cK;rw[hKL]at hk1 hk2 hk3;rw[hRl]at hk1 hk3;have HKw:=axj hk1;have HKg:=axj hk2;obtain⟨kl,hkl⟩:=xq KL.length;have HKl:=axj hkl;rw[hkl]at cK hk3;clear hge wH hwR hgR hk1 hk2 rd5 hR hRl hKL hkl;obtain⟨k0,k1,k2,k3,k4,k5⟩:=HQ.out _ (he.trans y6);go_wp2_with fail
     refine cK.mono ?_;rintro e w7 ⟨A7,c7,rfl,hC,x7⟩;have y7:=y6.trans x7;have zm:=(PD.ex x7).more (axk wj.heap.size) (H':=w7.heap.size) (by have:=x7.size;omega);have X7:=he.trans y7;clear k0 k1 k2 k3 k4 k5 cK PD x7 y6 s6;go_wp2_with fail
     go_loopw [13,66] (λo i wr=>∃k:Nat,k<=kl/\i=.int .i64 k/\(((KL.map ((au p).gW la mid rb a b)).take k=[]/\∃ad,o=.slice (some ad) 0 0)∨GE (wK w) 54 wr w7.heap.size wr.heap.size o ((KL.map ((au p).gW la mid rb a b)).take k))/\o≠.slice none 0 0/\Ex w7 wr) (λ_ i _=>kl-(intOf i).toNat)
     case atStart=>exact⟨0,axq _,rfl,.inl ⟨rfl,_,rfl⟩,by simp,aCQ _⟩
     case round=>
      rename World=>wk;clear zm;obtain⟨k,hk,rfl,hge,hnn,TP⟩:=hrel;have xj:=X7.trans TP;have xwj:=xx.trans xj;have VU:w7.heap.size<=wk.heap.size:=TP.size;by_cases hlt2:k<kl
      .obtain⟨g,off,kr,P,pc,eA,hr,wE,hpc,hP⟩:=hC.at_ (j:=k) (by rw[HKl.out];exact hlt2);subst eA;have Bc:=HKw.out kr (axo hr);have Rk:=HKg.out kr (axo hr);have HT:=axj (jO (f:=(au p).gW la mid rb a b) hr);have b0:=af TP wE;obtain⟨s,hs⟩:=xq (na+nb);have Hs:=axj hs;rw[Bc,hs]at b0;rw[Bc,hs]at hpc;have hns:na<=s:=by omega
       have hpn:na<=pc:=by omega
       have hs1:=λW=>u_ (A:=P) (n:=s) (c:=pc) (hi:=na) hpn W
       obtain⟨P',hs2,_,hrd⟩:=qm (A:=P) (n:=s) (c:=pc) (lo:=na) hns hpc;rw[show s-na=nb by omega]at hs2;have l1:(kr.take na).length=na:=by rw[axx,Bc];omega
       have l2:(kr.drop na).length=nb:=by rw[axF,Bc];omega
       obtain⟨X,hX⟩:=xq ((au p).nN (la+mid) (kr.take na) a);obtain⟨Z,hZ⟩:=xq ((au p).nN (mid+rb) (kr.drop na) b);have hXl:X.length=la+mid:=by rw[<-hX];exact rf Ac.out (by rw[l1,Ad.out])
       have Ru:Z.length=mid+rb:=by rw[<-hZ];exact rf Ab.out (by rw[l2,Bt.out])
       have HR:=axj (show(au p).gW la mid rb a b kr=X.take la++Z.drop mid by
        unfold Ops.gW;rw[Ad.out,hX,hZ])
       have cX:∀W,Ex wk W->∀d,Calls prog 87 #[.int .i64 p,.slice P na d,.slice A na ca,.int .i64 ((la+mid:Nat):Int)] W λe w'=>∃b c',e=.returned (.slice (some ⟨b,0,none⟩) (la+mid) c')/\la+mid<=c'/\W.heap.size<=b/\pG w' (λz=>z<W.heap.size∨z=b) b X/\Ex W w':=λW hW d=>by have:=yE p (la+mid) a (kr.take na) A P ca d W HF.out (HA.out.1.ex (xwj.trans hW)) ((hP.ex (TP.trans hW)).tkk na) Ac.out (by rw[l1,Ad.out]) (by omega) (by rw[Ad.out];exact hna) ((Rk.take na).mono (by omega)) HGa.out;rwa[Ad.out,l1,hX]at this
       have cZ:∀W,Ex wk W->∀d,Calls prog 87 #[.int .i64 p,.slice P' nb d,.slice B nb cb,.int .i64 ((mid+rb:Nat):Int)] W λe w'=>∃b c',e=.returned (.slice (some ⟨b,0,none⟩) (mid+rb) c')/\mid+rb<=c'/\W.heap.size<=b/\pG w' (λz=>z<W.heap.size∨z=b) b Z/\Ex W w':=λW hW d=>by have:=yE p (mid+rb) b (kr.drop na) B P' cb d W HF.out (HB.out.1.ex (xwj.trans hW)) (hrd _ kr (by rw[Bc,hs]) (hP.ex (TP.trans hW))) Ab.out (by rw[l2,Bt.out]) (by omega) (by rw[Bt.out];exact hnb) ((Rk.drop na).mono (by omega)) Xb.out;rwa[Bt.out,l2,hZ]at this
       have hlm:IntKind.i64.wrap ((la:Int)+(mid:Int))=((la+mid:Nat):Int):=by rw[axC _ (by omega)];omega
       have hmr:IntKind.i64.wrap ((mid:Int)+(rb:Int))=((mid+rb:Nat):Int):=by rw[axC _ (by omega)];omega
       have tN:((KL.map ((au p).gW la mid rb a b)).take k).length<=k:=ax7 _ _;obtain⟨lm,Rj⟩:=xq (la+mid);obtain⟨mr,Ri⟩:=xq (mid+rb);have HLM:=axj Rj;have HMR:=axj Ri;rw[Rj]at cX hlm hXl;rw[Ri]at cZ hmr Ru;have HS:∀W,Ex wk W->(W.cell? ⟨w.heap.size,0,none⟩=some (.int .i64 la)/\W.cell? ⟨w.heap.size,1,none⟩=some (.int .i64 mid)/\W.cell? ⟨w.heap.size,2,none⟩=some (.slice A na ca)/\W.cell? ⟨w.heap.size+1,0,none⟩=some (.int .i64 mid)/\W.cell? ⟨w.heap.size+1,1,none⟩=some (.int .i64 rb)/\W.cell? ⟨w.heap.size+1,2,none⟩=some (.slice B nb cb)):=λW h=>HQ.out _ (xj.trans h)
       clear hr hP hrd Bc Rk hX hZ wE l1 l2 Rj Ri hs;go_wp2_with fail
       go_region_held3 (λW=>W.cell? ⟨w.heap.size,0,none⟩=some (.int .i64 la)/\W.cell? ⟨w.heap.size,1,none⟩=some (.int .i64 mid)/\W.cell? ⟨w.heap.size,2,none⟩=some (.slice A na ca)/\W.cell? ⟨w.heap.size+1,0,none⟩=some (.int .i64 mid)/\W.cell? ⟨w.heap.size+1,1,none⟩=some (.int .i64 rb)/\W.cell? ⟨w.heap.size+1,2,none⟩=some (.slice B nb cb)) (first
        |(exact HS _ x8)|(exact HS _ (aCQ _).drew)|(exact HS _ (aCQ _))) (first
        |(go_at_call 87
          refine(cX _ (aCQ wk).drew _).mono ?_;rintro e w8 ⟨b1,c1,rfl,hc1,hb1,F1,x8'⟩;have x8:Ex wk w8:=(aCQ wk).drew.trans x8'))
       go_wp2_with fail
       go_region_held3 (λW=>W.cell? ⟨w.heap.size,0,none⟩=some (.int .i64 la)/\W.cell? ⟨w.heap.size,1,none⟩=some (.int .i64 mid)/\W.cell? ⟨w.heap.size,2,none⟩=some (.slice A na ca)/\W.cell? ⟨w.heap.size+1,0,none⟩=some (.int .i64 mid)/\W.cell? ⟨w.heap.size+1,1,none⟩=some (.int .i64 rb)/\W.cell? ⟨w.heap.size+1,2,none⟩=some (.slice B nb cb)) (first
        |(exact HS _ x9)|(exact HS _ x8.drew)|(exact HS _ x8)) (first
        |(go_at_call 87
          refine(cZ _ x8.drew _).mono ?_;rintro e w9 ⟨b2,c2,rfl,hc2,hb2,F2,x9'⟩;have x89:Ex w8 w9:=(aCQ w8).drew.trans x9';have x9:Ex wk w9:=x8.trans x89))
       clear cX cZ hs1 hs2 b0;have hXr:X.length<=1000:=by rw[hXl];have:=HLM.out;omega
       have hZr:Z.length<=1000:=by rw[Ru];have:=HMR.out;omega
       have hsx:=λW=>UX (A:=some ⟨b1,0,none⟩) (n:=lm) (c:=c1) (hi:=la) (by have:=HLM.out;omega) W
       obtain⟨Pz,hsz,hqz,_⟩:=qm (A:=some ⟨b2,0,none⟩) (n:=mr) (c:=c2) (lo:=mid) (by have:=HMR.out;omega) hc2;rw[show mr-mid=rb by have:=HMR.out;omega]at hsz;have t1:(X.take la).length=la:=by rw[axx,hXl];have:=HLM.out;omega
       have t2:(Z.drop mid).length=rb:=by rw[axF,Ru];have:=HMR.out;omega
       have hb1':wk.heap.size<=b1:=hb1;have hb2':w8.heap.size<=b2:=hb2;have hz8:=x8.size;have am_:=x89.size;have hl1:=F1.lt;have q1:aU (λW=>∀q,wk.heap.size<=q->q<w9.heap.size->W.heap[q]?=w9.heap[q]?) w9.drew (some ⟨b1,0,none⟩) (X.take la):=(((F1.rX (by omega)).tk la).ex (x89.drew)).mono λW hW q a1 a2=>(hW q a1 (axD a2 am_)).trans (x89.block a2)
       have q2:aU (λW=>∀q,wk.heap.size<=q->q<w9.heap.size->W.heap[q]?=w9.heap[q]?) w9.drew Pz (Z.drop mid):=((hqz _ w9 Z Ru (F2.rX (by omega))).ex (aCQ w9).drew).mono λW hW q a1 a2=>hW q (axA hz8 a1) a2
       obtain⟨A10,c10,KX,uH,amk,VX⟩:=OW (W0:=w) (a:=wk.heap.size) q1 q2 (show wk.heap.size<=w9.heap.size by omega) hb1' (show b1<w9.heap.size by omega) (λW hW=>hW) (c2-mid) (by rw[t1];omega) (by rw[t2];omega);have hrl:((au p).gW la mid rb a b kr).length=la+rb:=by rw[HR.out,axv,t1,t2]
       rw[<-HR.out,hrl]at VX uH;rw[t1,t2]at uH;have x10:Ex wk KX:=x9.drew.trans amk;obtain⟨v11,w11,E8,aad,anN,Z8⟩:=MQ (hge.elim .inl (λh=> .inr (h.ex x10))) x10.size VX (axk _) x10.size (axk _) VU (by omega);rw[<-HT.out]at aad;have x11:=Z8 w7 (TP.trans x10) (axk _);have O_:∀W,Ex W2 W->(W.cell? ⟨w.heap.size,0,none⟩=some (.int .i64 la)/\W.cell? ⟨w.heap.size+1,0,none⟩=some (.int .i64 mid)):=λW h=>⟨(HQ.out W h).1,(HQ.out W h).2.2.2.1⟩
       obtain⟨k0,k3⟩:=O_ _ (xj.trans x9);clear Z8 VX q1 q2 hge HS hXr hZr hXl Ru F1 F2 hqz;go_wp2_with fail
       go_region_held3 (λW=>W.cell? ⟨w.heap.size,0,none⟩=some (.int .i64 la)/\W.cell? ⟨w.heap.size+1,0,none⟩=some (.int .i64 mid)) (first
        |(exact O_ _ (X7.trans x11))|(exact O_ _ ((xj.trans x10).alloc _))|(exact O_ _ (xj.trans x10))|(exact O_ _ (xj.trans x9).drew)|(exact O_ _ (xj.trans x9))) (first
        |(refine aH (vx:=.slice Pz rb (c2-mid)) rfl _ _ _ rfl rfl rfl uH ?_)
        |(refine aH rfl _ _ _ rfl rfl rfl E8 ?_))
       clear uH E8 hsx hsz k0 k3 O_;go_wp2_with fail
       go_roundw;case rel=>exact⟨k+1,by omega,by go_num,.inr aad,anN,x11⟩
       case measure=>simp[intOf];omega
      .obtain rfl:kl=k:=by omega
       rw[axG (by rw[axs,HKl.out];exact axk _)]at hge;obtain⟨D,hD⟩:=xq (KL.map ((au p).gW la mid rb a b));have hDl:D.length=kl:=by rw[<-hD,axs,HKl.out]
       have hDw:aQ (la+rb) D:=λv hv=>by rw[<-hD]at hv;obtain⟨u,hu,rfl⟩:=axr.1 hv;exact Ja Ac.out Ab.out (by rw[HKw.out u hu,Ad.out,Bt.out])
       have hDg:iB p 1044649 D:=λv hv=>by rw[<-hD]at hv;obtain⟨u,hu,rfl⟩:=axr.1 hv;exact Ur HF.out (HKg.out u hu) HGa.out Xb.out (by rw[Ad.out];exact hna) (by rw[Bt.out];exact hnb) (by rw[HKw.out u hu,Ad.out,Bt.out]) (by omega)
       rw[hD]at hge dN;clear hD;obtain⟨A3,c3,e3,hN⟩:=afy hge (by omega) xwj;rw[hDl]at e3;subst e3;have cO:=pO p la rb D A3 c3 wk HF.out hN hDw (λc hc=>(jw HF.out (by omega) hDg hDw (R:=12) (.inl h3) (axk _) c hc).mono (by unfold jg;omega)) (by omega) (by rw[hDl];omega);rw[hDl]at cO;obtain⟨RR,hRR⟩:=xq ((au p).aC (la+rb) D);rw[hRR]at cO dN;clear hRR hDw hDg hDl hN hge;obtain⟨k0,k1,k2,k3,k4,k5⟩:=HQ.out _ xj;go_wp2_with fail
       refine cO.mono ?_;rintro e w8 ⟨y4,rfl,fx,x8⟩;obtain⟨A4,c4,rfl,_⟩:=fx.rd;clear cO k0 k1 k2 k3 k4 k5;have hl2:=d2.lt;have dz:=(d2.ex xj).ex x8;have xz:=xwj.trans x8;obtain⟨dd,zz⟩:=dz.l8 (.int .i64 la) (.int .i64 rb) (.slice A4 RR.length c4);obtain⟨u0,u1,u2⟩:=dz.d3;obtain⟨k0,k1,k2⟩:=dz.z3;obtain⟨C0,C1,C2⟩:=dd.d3;have eF:=xz.aK zz (by omega);have atm:=xj.size;have hzw:=xx.size;have fx2:=fx.iv (jE.aZ zz) (by omega);have fx3:=fx2.more (a':=w.heap.size) (b':=w8.heap.size) (by omega) (axk _);go_wp2_with fail
       refine axu (v:=.agg #[.int .i64 la,.int .i64 rb,.slice A4 RR.length c4]) (by simp[results,Tryz.results51,go_sem,C0,C1,C2]) rfl ?_;rw[dN.out];exact⟨_,rfl,fx3.more (axk _) (ayH (by simp)),eF⟩
theorem CW{l:List Nd}(h:iR l=true):∃w0,ny l []=some [w0]:=by
 unfold iR Jl at h;split at h
 .split at h
  .rename_i w0 e;exact⟨w0,e⟩
  .cases h
 .cases h
theorem f_{l:List Nd}(h:sZ p l=true):iR l=true/\∀n∈l,Ci p n=true:=by simp only[sZ,axU]at h;exact⟨h.2.1,λn hn=>axQ.1 h.2.2 n hn⟩
theorem kW{hF:av p=true}{l:List Nd}{st:List RQ}{n:Nd}(hok:sZ p l=true)(hn:l[k]?=some n)(hr:jR p (l.take k) []=some st)(hs:ny (l.take k) []=some (xS st))(hg:kg (hF:=hF) k st):
 (jJ p st n=none/\qg p l=none)∨∃q s,jJ p st n=some (q::s)/\jR p (l.take (k+1)) []=some (q::s)/\ny (l.take (k+1)) []=some (xS (q::s))/\kg (hF:=hF) (k+1) (q::s):=by
 obtain⟨ht,hv⟩:=f_ hok;have hs1:=qj hn [];have hr1:=nJ (p:=p) hn [];rw[hs]at hs1;rw[hr]at hr1;have hs1:ny (l.take (k+1)) []=oQ (xS st) n:=hs1;have hr1:jR p (l.take (k+1)) []=jJ p st n:=hr1;cases hst:oQ (xS st) n with
 |none=>rw[hst]at hs1;obtain⟨w0,hw0⟩:=CW ht;rw[um hs1]at hw0;cases hw0
 |some ts=>
  rcases Ie hg (hv n (axo hn)) hst with⟨h1,_⟩|⟨q,s,h1,h2,h3,_⟩
  .rw[h1]at hr1;refine .inl ⟨h1,?_⟩;unfold qg;rw[Au hr1]
  .exact .inr ⟨q,s,h1,hr1.trans h1,by rw[hs1,hst,h2],h3⟩
theorem FB(x y:Nat):qf (x:Int) (y:Int)=decide (x+y<=12):=by unfold qf bL;rw[ayB];simp only[axU,decide_eq_true_eq];omega
theorem yh{l:List Nd}(h:iR l=true):l.length<=400:=by
 unfold iR Jl at h;split at h
 .rename_i h1;exact h1.2
 .cases h
theorem Ul{l:List Nd}{st:List RQ}{n:Nd}(hok:sZ p l=true)(hn:l[k]?=some n)(hs:ny (l.take k) []=some (xS st)):∃ts,oQ (xS st) n=some ts:=by
 obtain⟨ht,_⟩:=f_ hok;have hs1:=qj hn [];rw[hs]at hs1;have hs1:ny (l.take (k+1)) []=oQ (xS st) n:=hs1;cases hst:oQ (xS st) n with
 |none=>rw[hst]at hs1;obtain⟨w0,hw0⟩:=CW ht;rw[um hs1]at hw0;cases hw0
 |some ts=>exact⟨ts,rfl⟩
theorem KG{l:List Nd}{st:List RQ}{n:Nd}(hok:sZ p l=true)(hn:l[k]?=some n)(hs:ny (l.take k) []=some (xS st))(hk:n.kd=15∨n.kd=16):∃b a s,st=b::a::s/\(n.kd=15->a.r=b.l):=by
 obtain⟨ts,h⟩:=Ul hok hn hs;unfold oQ at h;rw[axl hk]at h;split at h
 .match st,h with
  |[],h=>cases h
  |[_],h=>cases h
  |b::a::s,h=>
   refine⟨b,a,s,rfl,λe=>?_⟩;have h:(Dh n.kd ((a.l:Int),(a.r:Int)) ((b.l:Int),(b.r:Int))).map (·::xS s)=some ts:=h;unfold Dh at h;rw[axl e]at h;split at h
   .rename_i h2;have h2:(a.r:Int)=(b.l:Int):=h2;omega
   .cases h
 .cases h
theorem agN(k:Int):(gw k).1.toNat+(gw k).2.toNat<=4:=by have:=Z9 k;omega
theorem Oy{l:List Nd}{st:List RQ}{n:Nd}(hok:sZ p l=true)(hn:l[k]?=some n)(hs:ny (l.take k) []=some (xS st))(zh:¬n.kd=15)(h16:¬n.kd=16):
 ∃T,jP n=some T/\(jJ p st n=if T.1.toNat+T.2.toNat<=12 then some (⟨T.1.toNat,T.2.toNat,gU p n⟩::st)else none)/\(n.kd=1->T=(n.vl,n.vl)/\0<=n.vl/\n.vl<=12)/\(¬n.kd=1->T.1.toNat+T.2.toNat<=12):=by
 obtain⟨ts,h⟩:=Ul hok hn hs;unfold oQ at h;rw[axm (by omega)]at h;cases hl:jP n with
 |none=>rw[hl]at h;cases h
 |some T=>
  refine⟨T,rfl,?_,?_⟩
  .unfold jJ;rw[axm zh,axm h16,hl]
  .unfold jP at hl;split at hl
   .rename_i h1;injection hl with hl;subst hl;have hi:0<=n.vl/\n.vl<=12:=by simpa[bL]using h1.2.2
    exact⟨λ_=>⟨rfl,hi⟩,λe=>absurd h1.2.1 e⟩
   .split at hl
    .rename_i h1;injection hl with hl;subst hl;exact⟨λe=>by have:=h1.2.1;omega,λ_=>by decide⟩
    .split at hl
     .rename_i h1;injection hl with hl;subst hl;have hi:3<=n.kd/\n.kd<=14:=by simpa[bL]using h1.2.1
      exact⟨λe=>by omega,λ_=>by have:=agN n.kd;omega⟩
     .cases hl
theorem bA(w:World){m:Nat}(t:TypeId)(cs ds:Array Value)(hm:w.heap.size=m):
 VB ((w.alloc (.cells cs t)).alloc (.cells ds t)).drew m t cs/\VB ((w.alloc (.cells cs t)).alloc (.cells ds t)).drew (m+1) t ds/\w.heap.size<=m/\w.heap.size<=m+1/\Ex w ((w.alloc (.cells cs t)).alloc (.cells ds t)).drew:=by
 subst hm;have h2:=VB.new (w.alloc (.cells cs t)) t ds;have hs:(w.alloc (.cells cs t)).heap.size=w.heap.size+1:=by simp
 rw[hs]at h2;exact⟨((VB.new w t cs).ex ((aCQ _).alloc (.cells ds t))).drew,h2.drew,axk _,ayY _,(((aCQ w).alloc _).alloc _).drew⟩
theorem CU.aiE{a' b':Nat}{q:RQ}(h:CU.O w a b vs q)(ha:a'<=a)(hb:b<=b')(hw:b'<=w.heap.size):CU.O w a' b' vs q:=by obtain⟨h0,_,A,c,e,hk⟩:=h;exact⟨by omega,hw,A,c,e,λw2 h2=>(hk w2 λk k1 k2=>h2 k (by omega) (by omega)).more ha hb⟩
theorem Bn(p:Int)(l:List Nd)(A:Option Addr)(c:Nat)(w:World)(hF:av p=true)(h:bW EN w A l)(hok:sZ p l=true)(ht:Tb w):
 Calls prog 24 #[.int .i64 p,.agg #[.slice A l.length c]] w λe w'=>∃(x:iK) (A':Option Addr) (c':Nat) (b:Bool),e=.returned (.tuple #[.agg #[.int .i64 x.l,.int .i64 x.r,.slice A' x.b.length c'],.bool b])/\(x,b)=bF p ⟨l⟩/\rQ w' w.heap.size w'.heap.size (.slice A' x.b.length c') x.b/\Ex w w':=by
 have H:=axj h;have hNb:=h.1;obtain⟨N,hN⟩:=xq l.length;have HN:=axj hN;rw[hN]at hNb⊢;clear hN h;have zU:=axj hok;clear hok;obtain⟨W0,hW0,x0,d0,s0⟩:=VB.an w 33 #[.slice A N c] rfl;obtain⟨W1,hW1,x1,d1,s1⟩:=VB.an W0 28 #[.int .i64 0,.int .i64 0,.slice none 0 0] s0;have x2:=(aCQ W1).alloc (.cells #[] 28);have tX:=GE.empty CU 28 W1 (B:=W1.heap.size) (axk _);obtain⟨W2,hW2⟩:=xq (W1.alloc (.cells #[] 28));have s2:W2.heap.size=w.heap.size+1+1+1:=by rw[<-hW2];simp[s1]
 rw[hW2]at x2 tX;rw[s1]at tX;have D0:=(d0.ex x1).ex x2;have D1:=d1.ex x2;have X2:=(x0.trans x1).trans x2;have q0:=D0.c0;have oL:GE CU 28 W2 (w.heap.size+1+1) W2.heap.size (.slice (some ⟨w.heap.size+1+1,0,none⟩) 0 0) []:=tX.more (axk _) (by omega);clear x0 x1 x2 d0 d1 tX;go_enter Tryz.func24,Tryz.ntmps24
 go_wp2_with fail
 clear q0 hW0 hW1 hW2;go_loopw [6,19] (λs6 s19 wr=>∃(k:Nat) (st:List RQ),k<=N/\s19=.int .i64 k/\Hid (jR p (l.take k) []=some st)/\Hid (ny (l.take k) []=some (xS st))/\Hid (kg (hF:=hF) k st)/\st.length<=k/\GE CU 28 wr (w.heap.size+1+1) wr.heap.size s6 st.reverse/\VB wr (w.heap.size+1) 28 #[.int .i64 0,.int .i64 0,.slice none 0 0]/\w.heap.size+1+1<=wr.heap.size/\Ex w wr) (λ_ s19 _=>N-(intOf s19).toNat)
 case atStart=>exact⟨0,[],axq _,rfl,axj rfl,axj rfl,axj trivial,axk _,oL,D1,by omega,X2⟩
 case round=>
  rename World=>wi;clear D0 D1 X2 oL s0 s1 s2 W0 W1 W2;obtain⟨k,st,hk,rfl,HR,HS,HG,hlen,hge,V1,hsz,he⟩:=hrel;by_cases hlt:k<N
  .obtain⟨g,off,n,eA,hn,q0,q1,q2⟩:=(H.out.ex he).node (by rw[HN.out];exact hlt);subst eA;have Hn:=axj hn;have HRS:=axj (nJ (p:=p) hn []);have HSS:=axj (qj hn []);have JX:=axj ((f_ zU.out).2 n (axo hn));obtain⟨A6,c6,rfl⟩:=hge.kH;obtain⟨m,hm⟩:=xq st.reverse.length;have HM:=axj hm;have hmk:m<=k:=by rw[<-hm,ayc];exact hlen
   rw[hm]at hge⊢;have hw1:IntKind.i64.wrap ((m:Int)-1)=(m:Int)-1:=axC _ (by omega);obtain⟨W4,zZ,y4,n2,s4⟩:=VB.an wi 70 #[.int .i64 n.kd,.int .i64 n.vl,.string n.nm] rfl;obtain⟨W5,hW5,y5,n5,s5⟩:=VB.an W4 28 #[.int .i64 0,.int .i64 0,.slice none 0 0] s4;have N4:=n2.ex y5;have Bz:=y4.trans y5;obtain⟨e0,e1,e2⟩:=N4.d3;clear hn hm y4 y5;by_cases zh:n.kd=15
   .skip
    obtain⟨b,a,s,rfl,hmid⟩:=KG zU.out Hn.out HS.out (.inl zh);obtain⟨m0,hm0⟩:=xq s.length;have hmm:m=m0+2:=by rw[<-HM.out];simp[hm0]
    obtain⟨m1,hm1⟩:=xq (m0+1);have Q_:IntKind.i64.wrap ((m:Int)-1)=(m1:Int):=by rw[axC _ (by omega)];omega
    have hwb:IntKind.i64.wrap ((m1:Int)-1)=(m0:Int):=by rw[axC _ (by omega)];omega
    have hb0:m0<m:=by omega
    have hb1:m1<m:=by omega
    have Ff:=GE.afj rQ.Da hge;rw[hm0,hm1]at Ff;obtain⟨gS,cS,A,ca,D,cd,e6,a0,a1,a2,aR,b0,b1,b2,bR⟩:=Ff;injection e6 with e6 e7 e8;subst e6 e8;obtain⟨_,c7,e9,hc7,_⟩:=hge.form (λh=>by cases h);injection e9 with e9a e9b e9;subst e9;have hc8:m<=c6:=by rw[e9b];exact hc7
    clear e9a e9b hw1;have gC:=hge.aaP m0 (by omega);have a0:=af Bz a0;have a1:=af Bz a1;have a2:=af Bz a2;have b0:=af Bz b0;have b1:=af Bz b1;have b2:=af Bz b2;have aR:=aR.ex Bz;have bR:=bR.ex Bz;have HMM:=axj hmm;have HM0:=axj hm0;have HM1:=axj hm1;have HG2:=HG;obtain⟨db,ajO,hbD,ac4,da,had,K_,ac6,hgs⟩:=HG.out;have E_:=yh (f_ zU.out).1;rw[HN.out]at E_;have gA:=axj (K_.gd.mono (show da+1<=512 by omega));have gB:=axj (hbD.gd.mono (show db+1<=512 by omega));have wA:=axj K_.wid;have wB:=axj hbD.wid;have lA:=K_.len;have lB:=hbD.len;have pA:=axj K_.pos;have pB:=axj hbD.pos;obtain⟨nA,ZI⟩:=xq a.b.length;obtain⟨nB,ZH⟩:=xq b.b.length;have HNA:=axj ZI;have HNB:=axj ZH;rw[ZI]at a2 lA;rw[ZH]at b2 lB;have Wi:GE CU 28 wi (w.heap.size+1+1) wi.heap.size (.slice (some ⟨gS,0,none⟩) m0 c6) s.reverse:=by
     have:(b::a::s).reverse.take m0=s.reverse:=by rw[<-HM0.out];simp
     rw[<-this];exact gC
    have ajt:m0<=c6:=by omega
    have hmd:=hmid zh;have hstep:jJ p (b::a::s) n=if a.l+b.r<=12 then some (⟨a.l,b.r,(au p).oo a.l a.r b.r a.b b.b⟩::s)else none:=by unfold jJ;rw[axl zh]
    obtain⟨RR,hRR⟩:=xq ((au p).oo a.l a.r b.r a.b b.b);have HRR:=axj hRR;rw[hRR]at hstep;have rH:=axj hstep;have cC:=λ(W:World) (hA:j_ W A a.b) (hB:j_ W D b.b) (h3:a.l+b.r<=12)=>GD p a.l a.r b.r a.b b.b A D ca cd W hA hB (by rw[HNA.out];omega) (by rw[HNB.out];omega) ac6 (by rw[hmd];exact ac4) h3 wA.out (by rw[hmd];exact wB.out) hF gA.out gB.out
    rw[HNA.out,HNB.out,HRR.out,hmd]at cC;rw[hmd]at a1;clear hRR hstep;have b15:(n.kd==15)=true:=by simp[zh]
    have bM:(b.l:Int)=(b.l:Int):=rfl;clear zh bM gC hge hgs K_ hbD ZI ZH hmm hm0 hm1 hmid e7;have hF5:qf (a.l:Int) (b.r:Int)=decide (a.l+b.r<=12):=FB _ _;go_wp2_with fail
    go_cut [11,12]from 45 to 53 (λs11 s12 W=>∃(g1 g2:Nat),s11=.pointer (some ⟨g1,0,none⟩)/\s12=.pointer (some ⟨g2,0,none⟩)/\VB W g1 28 #[.int .i64 a.l,.int .i64 b.l,.slice A nA ca]/\VB W g2 28 #[.int .i64 b.l,.int .i64 b.r,.slice D nB cd]/\W5.heap.size<=g1/\W5.heap.size<=g2/\Ex W5 W)
    case first=>
     have HS2:∀W,Ex W5 W->(Ex W5 W/\W.cell? ⟨gS,m0*3,none⟩=some (.int .i64 a.l)/\W.cell? ⟨gS,m0*3+1,none⟩=some (.int .i64 b.l)/\W.cell? ⟨gS,m0*3+2,none⟩=some (.slice A nA ca)/\W.cell? ⟨gS,m1*3,none⟩=some (.int .i64 b.l)/\W.cell? ⟨gS,m1*3+1,none⟩=some (.int .i64 b.r)/\W.cell? ⟨gS,m1*3+2,none⟩=some (.slice D nB cd)):=λW h=>⟨h,af h a0,af h a1,af h a2,af h b0,af h b1,af h b2⟩
     go_region_held3 (λW=>Ex W5 W/\W.cell? ⟨gS,m0*3,none⟩=some (.int .i64 a.l)/\W.cell? ⟨gS,m0*3+1,none⟩=some (.int .i64 b.l)/\W.cell? ⟨gS,m0*3+2,none⟩=some (.slice A nA ca)/\W.cell? ⟨gS,m1*3,none⟩=some (.int .i64 b.l)/\W.cell? ⟨gS,m1*3+1,none⟩=some (.int .i64 b.r)/\W.cell? ⟨gS,m1*3+2,none⟩=some (.slice D nB cd)) (first
      |(exact HS2 _ (by repeat (first|exact aCQ _|refine Ex.drew ?_|refine Ex.alloc ?_ _|refine Ex.setCell ?_ (by simp) _)))) (first
      |(fail))
     all_goals
      go_wp2_with fail
      go_meet
      first
       |exact⟨_,_,rfl,rfl,(bA W5 _ _ _ s5).1,(bA W5 _ _ _ s5).2.1,(bA W5 28 #[] #[] s5).2.2.1,(bA W5 28 #[] #[] s5).2.2.2.1,(bA W5 _ _ _ s5).2.2.2.2⟩
       |exact⟨_,_,rfl,rfl,(bA W5 _ _ _ s5).2.1,(bA W5 _ _ _ s5).1,(bA W5 28 #[] #[] s5).2.2.2.1,(bA W5 28 #[] #[] s5).2.2.1,(bA W5 _ _ _ s5).2.2.2.2⟩
    case rest=>
     obtain⟨W6,rfl⟩:∃q,q=wc:=⟨_,rfl⟩;obtain⟨g1,g2,rfl,rfl,v1,v2,hg1,hg2,x6⟩:=hcut;obtain⟨A0,A1,A2⟩:=v1.d3;obtain⟨B0,B1,B2⟩:=v2.d3;have aR6:=aR.ex x6;have bR6:=bR.ex x6;have n6:=n5.ex x6;have V6:=(V1.ex Bz).ex x6;have X6:=(he.trans Bz).trans x6;have z6:=x6.size;clear a0 a1 a2 b0 b1 b2 e0 e1 e2 q0 q1 q2 N4 n2;go_wp2_with fail
     refine(qx _ _ _).mono ?_;rintro e w7 ⟨rfl,rfl⟩;rw[hF5];by_cases hfit:a.l+b.r<=12
     .rw[decide_eq_true hfit];have cC:=cC W6 aR6 bR6 hfit;have Bw:=axj hfit;go_wp2_with fail
      refine cC.mono ?_;rintro e w9 ⟨y,rfl,o9,x9⟩;obtain⟨A9,c9,ey,_⟩:=o9.rd;subst ey;have z9:=x9.size;have n9:=n6.ex x9;obtain⟨dd,zr⟩:=n9.l8 (.int .i64 (a.l:Int)) (.int .i64 (b.r:Int)) (.slice A9 RR.length c9);obtain⟨r0,r1,r2⟩:=n9.d3;obtain⟨f0,f1,f2⟩:=n9.z3;obtain⟨C0,C1,C2⟩:=dd.d3;have X9:=X6.trans x9;have zs:=zr.size;have V9:=VB.aK (V6.ex x9) zr (by omega);have eF:=X9.aK zr (by omega);have g9:=(((Wi.ex Bz).ex x6).ex x9).iv (jE.aZ zr) (.inl (ayY _));have hE:=CU.AQ (q:=⟨a.l,b.r,RR⟩) ((o9.iv (jE.aZ zr) (.inr (by omega))).more (a':=wi.heap.size) (by omega) zs) (by omega) (axk _);have sz9:((((w9.setCell ⟨wi.heap.size+1,0,none⟩ (.int .i64 (a.l:Int))).setCell ⟨wi.heap.size+1,1,none⟩ (.int .i64 (b.r:Int))).setCell ⟨wi.heap.size+1,2,none⟩ (.slice A9 RR.length c9))).heap.size=w9.heap.size:=by simp
      have HQ:=axj (show jR p (l.take (k+1)) []=some (⟨a.l,b.r,RR⟩::s)/\ny (l.take (k+1)) []=some (xS (⟨a.l,b.r,RR⟩::s))/\kg (hF:=hF) (k+1) (⟨a.l,b.r,RR⟩::s)from by
       rcases kW zU.out Hn.out HR.out HS.out HG2.out with⟨h,_⟩|⟨q,s',h,h1,h2,h3⟩
       .rw[rH.out,axl Bw.out]at h;cases h
       .rw[rH.out,axl Bw.out]at h;injection h with h;injection h with e1 e2;subst e1 e2;exact⟨h1,h2,h3⟩)
      have IQ:s.length+1<=k/\k<=400:=by rw[HM0.out];have:=HMM.out;omega
      obtain⟨v',w',hrun,hgN,_,hblk,IV⟩:=nU g9 (q:=⟨a.l,b.r,RR⟩) (y:=.slice A9 RR.length c9) (a:=wi.heap.size) (by omega) hE (axk _) (by omega) (axk _) (by omega) (by rw[ayc];omega);rw[sz9]at hrun;have XN:=IV w eF (by omega);have VN:VB w' (w.heap.size+1) 28 #[.int .i64 0,.int .i64 0,.slice none 0 0]:=(hblk _ (by omega) V9.lt).trans V9;have zN:w.heap.size+1+1<=w'.heap.size:=by have:=VN.lt;omega
      rw[<-ay_]at hgN;clear IV hblk g9 hE eF V9;go_wp2_with (at_builtin;refine wpList_append_run rfl _ _ _ rfl rfl rfl hrun ?_)
      go_roundw;case rel=>exact⟨k+1,⟨a.l,b.r,RR⟩::s,by omega,by go_num,axj HQ.out.1,axj HQ.out.2.1,axj HQ.out.2.2,by rw[axR];omega,hgN,VN,zN,XN⟩
      case measure=>simp[intOf];omega
     .rw[decide_eq_false hfit];have Xa:=axj (nM (t:=⟨l⟩) (by
       rcases kW zU.out Hn.out HR.out HS.out HG2.out with⟨_,h⟩|⟨q,s',h,_⟩
       .exact h
       .rw[rH.out,axm hfit]at h;cases h))
      obtain⟨dd,zr⟩:=V6.l8 (.int .i64 0) (.int .i64 0) (.slice none 0 0);obtain⟨r0,r1,r2⟩:=V6.d3;obtain⟨f0,f1,f2⟩:=V6.z3;obtain⟨C0,C1,C2⟩:=dd.d3;have eF:=(X6).aK zr (by omega);go_wp2_with fail
      refine axu (v:=.tuple #[.agg #[.int .i64 0,.int .i64 0,.slice none 0 0],.bool false]) (by simp[results,Tryz.results24,go_sem,C0,C1,C2]) rfl ?_;exact⟨⟨0,0,[]⟩,none,0,false,rfl,Xa.out.symm,rQ.nil _ _ _ _ _,eF⟩
   .by_cases h16:n.kd=16
    .skip
     obtain⟨b,a,s,rfl,hmid⟩:=KG zU.out Hn.out HS.out (.inr h16);obtain⟨m0,hm0⟩:=xq s.length;have hmm:m=m0+2:=by rw[<-HM.out];simp[hm0]
     obtain⟨m1,hm1⟩:=xq (m0+1);have Q_:IntKind.i64.wrap ((m:Int)-1)=(m1:Int):=by rw[axC _ (by omega)];omega
     have hwb:IntKind.i64.wrap ((m1:Int)-1)=(m0:Int):=by rw[axC _ (by omega)];omega
     have hb0:m0<m:=by omega
     have hb1:m1<m:=by omega
     have Ff:=GE.afj rQ.Da hge;rw[hm0,hm1]at Ff;obtain⟨gS,cS,A,ca,D,cd,e6,a0,a1,a2,aR,b0,b1,b2,bR⟩:=Ff;injection e6 with e6 e7 e8;subst e6 e8;obtain⟨_,c7,e9,hc7,_⟩:=hge.form (λh=>by cases h);injection e9 with e9a e9b e9;subst e9;have hc8:m<=c6:=by rw[e9b];exact hc7
     clear e9a e9b hw1;have gC:=hge.aaP m0 (by omega);have a0:=af Bz a0;have a1:=af Bz a1;have a2:=af Bz a2;have b0:=af Bz b0;have b1:=af Bz b1;have b2:=af Bz b2;have aR:=aR.ex Bz;have bR:=bR.ex Bz;have HMM:=axj hmm;have HM0:=axj hm0;have HM1:=axj hm1;have HG2:=HG;obtain⟨db,ajO,hbD,ac4,da,had,K_,ac6,hgs⟩:=HG.out;have E_:=yh (f_ zU.out).1;rw[HN.out]at E_;have gA:=axj (K_.gd.mono (show da+1<=512 by omega));have gB:=axj (hbD.gd.mono (show db+1<=512 by omega));have wA:=axj K_.wid;have wB:=axj hbD.wid;have lA:=K_.len;have lB:=hbD.len;have pA:=axj K_.pos;have pB:=axj hbD.pos;obtain⟨nA,ZI⟩:=xq a.b.length;obtain⟨nB,ZH⟩:=xq b.b.length;have HNA:=axj ZI;have HNB:=axj ZH;rw[ZI]at a2 lA;rw[ZH]at b2 lB;have Wi:GE CU 28 wi (w.heap.size+1+1) wi.heap.size (.slice (some ⟨gS,0,none⟩) m0 c6) s.reverse:=by
      have:(b::a::s).reverse.take m0=s.reverse:=by rw[<-HM0.out];simp
      rw[<-this];exact gC
     have ajt:m0<=c6:=by omega
     have hsl:IntKind.i64.wrap ((a.l:Int)+(b.l:Int))=((a.l+b.l:Nat):Int):=by rw[axC _ (by omega)];omega
     have hsr:IntKind.i64.wrap ((a.r:Int)+(b.r:Int))=((a.r+b.r:Nat):Int):=by rw[axC _ (by omega)];omega
     obtain⟨LL,hLL⟩:=xq (a.l+b.l);obtain⟨LR,hLR⟩:=xq (a.r+b.r);rw[hLL]at hsl;rw[hLR]at hsr;have hstep:jJ p (b::a::s) n=if(a.l+b.l)+(a.r+b.r)<=12 then some (⟨a.l+b.l,a.r+b.r,(au p).aC ((a.l+b.l)+(a.r+b.r)) (nu a.l a.r b.l b.r a.b b.b)⟩::s)else none:=by unfold jJ;rw[axm zh,axl h16]
     obtain⟨RR,hRR⟩:=xq ((au p).aC ((a.l+b.l)+(a.r+b.r)) (nu a.l a.r b.l b.r a.b b.b));have HRR:=axj hRR;rw[hRR,hLL,hLR]at hstep;have rH:=axj hstep;have cC:=λ(W:World) (hA:j_ W A a.b) (hB:j_ W D b.b) (h3:(a.l+b.l)+(a.r+b.r)<=12)=>MI p a.l a.r b.l b.r a.b b.b A D ca cd W hA hB (by rw[HNA.out];omega) (by rw[HNB.out];omega) h3 wA.out wB.out pA.out pB.out hF gA.out gB.out
     rw[HNA.out,HNB.out,HRR.out,hLL,hLR]at cC;have HLL:=axj hLL;have HLR:=axj hLR;clear hRR hstep hLL hLR;have b15:(n.kd==15)=false:=by simp[h16]
     have b16:(n.kd==16)=true:=by simp[h16]
     have bM:(b.l:Int)=(b.l:Int):=rfl;clear h16 bM gC hge hgs K_ hbD ZI ZH hmm hm0 hm1 hmid e7;have hF5:qf (LL:Int) (LR:Int)=decide (LL+LR<=12):=FB _ _;go_wp2_with fail
     go_cut [13,14]from 71 to 79 (λs13 s14 W=>∃(g1 g2:Nat),s13=.pointer (some ⟨g1,0,none⟩)/\s14=.pointer (some ⟨g2,0,none⟩)/\VB W g1 28 #[.int .i64 a.l,.int .i64 a.r,.slice A nA ca]/\VB W g2 28 #[.int .i64 b.l,.int .i64 b.r,.slice D nB cd]/\W5.heap.size<=g1/\W5.heap.size<=g2/\Ex W5 W)
     case first=>
      have HS2:∀W,Ex W5 W->(Ex W5 W/\W.cell? ⟨gS,m0*3,none⟩=some (.int .i64 a.l)/\W.cell? ⟨gS,m0*3+1,none⟩=some (.int .i64 a.r)/\W.cell? ⟨gS,m0*3+2,none⟩=some (.slice A nA ca)/\W.cell? ⟨gS,m1*3,none⟩=some (.int .i64 b.l)/\W.cell? ⟨gS,m1*3+1,none⟩=some (.int .i64 b.r)/\W.cell? ⟨gS,m1*3+2,none⟩=some (.slice D nB cd)):=λW h=>⟨h,af h a0,af h a1,af h a2,af h b0,af h b1,af h b2⟩
      go_region_held3 (λW=>Ex W5 W/\W.cell? ⟨gS,m0*3,none⟩=some (.int .i64 a.l)/\W.cell? ⟨gS,m0*3+1,none⟩=some (.int .i64 a.r)/\W.cell? ⟨gS,m0*3+2,none⟩=some (.slice A nA ca)/\W.cell? ⟨gS,m1*3,none⟩=some (.int .i64 b.l)/\W.cell? ⟨gS,m1*3+1,none⟩=some (.int .i64 b.r)/\W.cell? ⟨gS,m1*3+2,none⟩=some (.slice D nB cd)) (first
       |(exact HS2 _ (by repeat (first|exact aCQ _|refine Ex.drew ?_|refine Ex.alloc ?_ _|refine Ex.setCell ?_ (by simp) _)))) (first
       |(fail))
      all_goals
       go_wp2_with fail
       go_meet
       first
        |exact⟨_,_,rfl,rfl,(bA W5 _ _ _ s5).1,(bA W5 _ _ _ s5).2.1,(bA W5 28 #[] #[] s5).2.2.1,(bA W5 28 #[] #[] s5).2.2.2.1,(bA W5 _ _ _ s5).2.2.2.2⟩
        |exact⟨_,_,rfl,rfl,(bA W5 _ _ _ s5).2.1,(bA W5 _ _ _ s5).1,(bA W5 28 #[] #[] s5).2.2.2.1,(bA W5 28 #[] #[] s5).2.2.1,(bA W5 _ _ _ s5).2.2.2.2⟩
     case rest=>
      obtain⟨W6,rfl⟩:∃q,q=wc:=⟨_,rfl⟩;obtain⟨g1,g2,rfl,rfl,v1,v2,hg1,hg2,x6⟩:=hcut;obtain⟨A0,A1,A2⟩:=v1.d3;obtain⟨B0,B1,B2⟩:=v2.d3;have aR6:=aR.ex x6;have bR6:=bR.ex x6;have n6:=n5.ex x6;have V6:=(V1.ex Bz).ex x6;have X6:=(he.trans Bz).trans x6;have z6:=x6.size;clear a0 a1 a2 b0 b1 b2 e0 e1 e2 q0 q1 q2 N4 n2;go_wp2_with fail
      refine(qx _ _ _).mono ?_;rintro e w7 ⟨rfl,rfl⟩;rw[hF5];by_cases hfit:LL+LR<=12
      .rw[decide_eq_true hfit];have cC:=cC W6 aR6 bR6 hfit;have Bw:=axj hfit;go_wp2_with fail
       refine cC.mono ?_;rintro e w9 ⟨y,rfl,o9,x9⟩;obtain⟨A9,c9,ey,_⟩:=o9.rd;subst ey;have z9:=x9.size;have n9:=n6.ex x9;obtain⟨dd,zr⟩:=n9.l8 (.int .i64 (LL:Int)) (.int .i64 (LR:Int)) (.slice A9 RR.length c9);obtain⟨r0,r1,r2⟩:=n9.d3;obtain⟨f0,f1,f2⟩:=n9.z3;obtain⟨C0,C1,C2⟩:=dd.d3;have X9:=X6.trans x9;have zs:=zr.size;have V9:=VB.aK (V6.ex x9) zr (by omega);have eF:=X9.aK zr (by omega);have g9:=(((Wi.ex Bz).ex x6).ex x9).iv (jE.aZ zr) (.inl (ayY _));have hE:=CU.AQ (q:=⟨LL,LR,RR⟩) ((o9.iv (jE.aZ zr) (.inr (by omega))).more (a':=wi.heap.size) (by omega) zs) (by omega) (axk _);have sz9:((((w9.setCell ⟨wi.heap.size+1,0,none⟩ (.int .i64 (LL:Int))).setCell ⟨wi.heap.size+1,1,none⟩ (.int .i64 (LR:Int))).setCell ⟨wi.heap.size+1,2,none⟩ (.slice A9 RR.length c9))).heap.size=w9.heap.size:=by simp
       have HQ:=axj (show jR p (l.take (k+1)) []=some (⟨LL,LR,RR⟩::s)/\ny (l.take (k+1)) []=some (xS (⟨LL,LR,RR⟩::s))/\kg (hF:=hF) (k+1) (⟨LL,LR,RR⟩::s)from by
        rcases kW zU.out Hn.out HR.out HS.out HG2.out with⟨h,_⟩|⟨q,s',h,h1,h2,h3⟩
        .rw[rH.out,axl Bw.out]at h;cases h
        .rw[rH.out,axl Bw.out]at h;injection h with h;injection h with e1 e2;subst e1 e2;exact⟨h1,h2,h3⟩)
       have IQ:s.length+1<=k/\k<=400:=by rw[HM0.out];have:=HMM.out;omega
       obtain⟨v',w',hrun,hgN,_,hblk,IV⟩:=nU g9 (q:=⟨LL,LR,RR⟩) (y:=.slice A9 RR.length c9) (a:=wi.heap.size) (by omega) hE (axk _) (by omega) (axk _) (by omega) (by rw[ayc];omega);rw[sz9]at hrun;have XN:=IV w eF (by omega);have VN:VB w' (w.heap.size+1) 28 #[.int .i64 0,.int .i64 0,.slice none 0 0]:=(hblk _ (by omega) V9.lt).trans V9;have zN:w.heap.size+1+1<=w'.heap.size:=by have:=VN.lt;omega
       rw[<-ay_]at hgN;clear IV hblk g9 hE eF V9;go_wp2_with (at_builtin;refine wpList_append_run rfl _ _ _ rfl rfl rfl hrun ?_)
       go_roundw;case rel=>exact⟨k+1,⟨LL,LR,RR⟩::s,by omega,by go_num,axj HQ.out.1,axj HQ.out.2.1,axj HQ.out.2.2,by rw[axR];omega,hgN,VN,zN,XN⟩
       case measure=>simp[intOf];omega
      .rw[decide_eq_false hfit];have Xa:=axj (nM (t:=⟨l⟩) (by
        rcases kW zU.out Hn.out HR.out HS.out HG2.out with⟨_,h⟩|⟨q,s',h,_⟩
        .exact h
        .rw[rH.out,axm hfit]at h;cases h))
       obtain⟨dd,zr⟩:=V6.l8 (.int .i64 0) (.int .i64 0) (.slice none 0 0);obtain⟨r0,r1,r2⟩:=V6.d3;obtain⟨f0,f1,f2⟩:=V6.z3;obtain⟨C0,C1,C2⟩:=dd.d3;have eF:=(X6).aK zr (by omega);go_wp2_with fail
       refine axu (v:=.tuple #[.agg #[.int .i64 0,.int .i64 0,.slice none 0 0],.bool false]) (by simp[results,Tryz.results24,go_sem,C0,C1,C2]) rfl ?_;exact⟨⟨0,0,[]⟩,none,0,false,rfl,Xa.out.symm,rQ.nil _ _ _ _ _,eF⟩
    .skip
     have b15:(n.kd==15)=false:=by simpa using zh
     have b16:(n.kd==16)=false:=by simpa using h16
     obtain⟨T,hT,hstep,hT1,Ff⟩:=Oy zU.out Hn.out HS.out zh h16;have E_:=yh (f_ zU.out).1;rw[HN.out]at E_;have cL:=λ(W:World) (h12:T.1.toNat+T.2.toNat<=12)=>Va p n T W hF hT JX.out h12
     obtain⟨L0,hL0⟩:=xq T.1.toNat;obtain⟨L1,hL1⟩:=xq T.2.toNat;obtain⟨RR,hRR⟩:=xq (gU p n);rw[hL0,hL1,hRR]at hstep cL;rw[hL0,hL1]at Ff;have rH:=axj hstep;have HT1:=axj hT1;have n6:=n5;have V6:=V1.ex Bz;have X6:=he.trans Bz;clear hstep hRR hT hT1;by_cases h1:n.kd=1
     .have b1:(n.kd==1)=true:=by simp[h1]
      have H1:=axj h1;clear h1;have hF5:qf n.vl n.vl=decide (L0+L1<=12):=by obtain⟨rfl,hv0,hv1⟩:=HT1.out H1.out;rw[show n.vl=((n.vl.toNat:Nat):Int) by omega,FB];dsimp only at hL0 hL1;rw[hL0,hL1.symm.trans hL0]
      clear hL0 hL1 Ff;go_wp2_with fail
      refine(qx _ _ _).mono ?_;rintro e w7 ⟨rfl,rfl⟩;rw[hF5];by_cases hfit:L0+L1<=12
      .rw[decide_eq_true hfit];have Bw:=axj hfit;clear hfit;go_wp2_with fail
       refine(cL W5 Bw.out).mono ?_;rintro e w9 ⟨y,rfl,o9,x9⟩;obtain⟨_,_,A9,c9,ey,_⟩:=id o9;injection ey with _ ey;injection ey with _ ey;injection ey with ey _;subst ey;have z9:=x9.size;have n9:=n6.ex x9;obtain⟨dd,zr⟩:=n9.l8 (.int .i64 (L0:Int)) (.int .i64 (L1:Int)) (.slice A9 RR.length c9);obtain⟨r0,r1,r2⟩:=n9.d3;obtain⟨f0,f1,f2⟩:=n9.z3;obtain⟨C0,C1,C2⟩:=dd.d3;have X9:=X6.trans x9;have zs:=zr.size;have V9:=VB.aK (V6.ex x9) zr (by omega);have eF:=X9.aK zr (by omega);have g9:=((hge.ex Bz).ex x9).iv (jE.aZ zr) (.inl (ayY _));have hE:=CU.aiE (CU.keep o9 (λi i1 i2 i3=>zr.block i i3 (λe=>by injection e;omega))) (show wi.heap.size<=W5.heap.size by omega) zs (axk _);have sz9:((((w9.setCell ⟨wi.heap.size+1,0,none⟩ (.int .i64 (L0:Int))).setCell ⟨wi.heap.size+1,1,none⟩ (.int .i64 (L1:Int))).setCell ⟨wi.heap.size+1,2,none⟩ (.slice A9 RR.length c9))).heap.size=w9.heap.size:=by simp
       have HQ:=axj (show jR p (l.take (k+1)) []=some (⟨L0,L1,RR⟩::st)/\ny (l.take (k+1)) []=some (xS (⟨L0,L1,RR⟩::st))/\kg (hF:=hF) (k+1) (⟨L0,L1,RR⟩::st)from by
        rcases kW zU.out Hn.out HR.out HS.out HG.out with⟨h,_⟩|⟨q,s',h,h1,h2,h3⟩
        .rw[rH.out,axl Bw.out]at h;cases h
        .rw[rH.out,axl Bw.out]at h;injection h with h;injection h with e1 e2;subst e1 e2;exact⟨h1,h2,h3⟩)
       have IQ:st.length+1<=k+1/\k<=400:=by omega
       obtain⟨v',w',hrun,hgN,_,hblk,IV⟩:=nU g9 (q:=⟨L0,L1,RR⟩) (y:=.slice A9 RR.length c9) (a:=wi.heap.size) (by omega) hE (axk _) (by omega) (axk _) (by omega) (by rw[ayc];omega);rw[sz9]at hrun;have XN:=IV w eF (by omega);have VN:VB w' (w.heap.size+1) 28 #[.int .i64 0,.int .i64 0,.slice none 0 0]:=(hblk _ (by omega) V9.lt).trans V9;have zN:w.heap.size+1+1<=w'.heap.size:=by have:=VN.lt;omega
       rw[<-ay_]at hgN;clear IV hblk g9 hE eF V9;go_wp2_with (at_builtin;refine wpList_append_run rfl _ _ _ rfl rfl rfl hrun ?_)
       go_roundw;case rel=>exact⟨k+1,⟨L0,L1,RR⟩::st,by omega,by go_num,axj HQ.out.1,axj HQ.out.2.1,axj HQ.out.2.2,by rw[axR];omega,hgN,VN,zN,XN⟩
       case measure=>simp[intOf];omega
      .rw[decide_eq_false hfit];have Xa:=axj (nM (t:=⟨l⟩) (by
        rcases kW zU.out Hn.out HR.out HS.out HG.out with⟨_,h⟩|⟨q,s',h,_⟩
        .exact h
        .rw[rH.out,axm hfit]at h;cases h))
       obtain⟨dd,zr⟩:=V6.l8 (.int .i64 0) (.int .i64 0) (.slice none 0 0);obtain⟨r0,r1,r2⟩:=V6.d3;obtain⟨f0,f1,f2⟩:=V6.z3;obtain⟨C0,C1,C2⟩:=dd.d3;have eF:=(X6).aK zr (by omega);go_wp2_with fail
       refine axu (v:=.tuple #[.agg #[.int .i64 0,.int .i64 0,.slice none 0 0],.bool false]) (by simp[results,Tryz.results24,go_sem,C0,C1,C2]) rfl ?_;exact⟨⟨0,0,[]⟩,none,0,false,rfl,Xa.out.symm,rQ.nil _ _ _ _ _,eF⟩
     .have b1:(n.kd==1)=false:=by simpa using h1
      have Bw:=axj (Ff h1);clear hL0 hL1 Ff;go_wp2_with fail
      refine(cL W5 Bw.out).mono ?_;rintro e w9 ⟨y,rfl,o9,x9⟩;obtain⟨_,_,A9,c9,ey,_⟩:=id o9;injection ey with _ ey;injection ey with _ ey;injection ey with ey _;subst ey;have z9:=x9.size;have n9:=n6.ex x9;obtain⟨dd,zr⟩:=n9.l8 (.int .i64 (L0:Int)) (.int .i64 (L1:Int)) (.slice A9 RR.length c9);obtain⟨r0,r1,r2⟩:=n9.d3;obtain⟨f0,f1,f2⟩:=n9.z3;obtain⟨C0,C1,C2⟩:=dd.d3;have X9:=X6.trans x9;have zs:=zr.size;have V9:=VB.aK (V6.ex x9) zr (by omega);have eF:=X9.aK zr (by omega);have g9:=((hge.ex Bz).ex x9).iv (jE.aZ zr) (.inl (ayY _));have hE:=CU.aiE (CU.keep o9 (λi i1 i2 i3=>zr.block i i3 (λe=>by injection e;omega))) (show wi.heap.size<=W5.heap.size by omega) zs (axk _);have sz9:((((w9.setCell ⟨wi.heap.size+1,0,none⟩ (.int .i64 (L0:Int))).setCell ⟨wi.heap.size+1,1,none⟩ (.int .i64 (L1:Int))).setCell ⟨wi.heap.size+1,2,none⟩ (.slice A9 RR.length c9))).heap.size=w9.heap.size:=by simp
      have HQ:=axj (show jR p (l.take (k+1)) []=some (⟨L0,L1,RR⟩::st)/\ny (l.take (k+1)) []=some (xS (⟨L0,L1,RR⟩::st))/\kg (hF:=hF) (k+1) (⟨L0,L1,RR⟩::st)from by
       rcases kW zU.out Hn.out HR.out HS.out HG.out with⟨h,_⟩|⟨q,s',h,h1,h2,h3⟩
       .rw[rH.out,axl Bw.out]at h;cases h
       .rw[rH.out,axl Bw.out]at h;injection h with h;injection h with e1 e2;subst e1 e2;exact⟨h1,h2,h3⟩)
      have IQ:st.length+1<=k+1/\k<=400:=by omega
      obtain⟨v',w',hrun,hgN,_,hblk,IV⟩:=nU g9 (q:=⟨L0,L1,RR⟩) (y:=.slice A9 RR.length c9) (a:=wi.heap.size) (by omega) hE (axk _) (by omega) (axk _) (by omega) (by rw[ayc];omega);rw[sz9]at hrun;have XN:=IV w eF (by omega);have VN:VB w' (w.heap.size+1) 28 #[.int .i64 0,.int .i64 0,.slice none 0 0]:=(hblk _ (by omega) V9.lt).trans V9;have zN:w.heap.size+1+1<=w'.heap.size:=by have:=VN.lt;omega
      rw[<-ay_]at hgN;clear IV hblk g9 hE eF V9;go_wp2_with (at_builtin;refine wpList_append_run rfl _ _ _ rfl rfl rfl hrun ?_)
      go_roundw;case rel=>exact⟨k+1,⟨L0,L1,RR⟩::st,by omega,by go_num,axj HQ.out.1,axj HQ.out.2.1,axj HQ.out.2.2,by rw[axR];omega,hgN,VN,zN,XN⟩
      case measure=>simp[intOf];omega
  .obtain rfl:k=N:=by omega
   have hk0:l.take k=l:=by rw[<-HN.out,axE]
   obtain⟨w0,hw0⟩:=CW (f_ zU.out).1;have hs:=HS.out;have hr:=HR.out;rw[hk0]at hs hr;rw[hw0]at hs;injection hs with hs;obtain⟨q,rfl⟩:∃q,st=[q]:=by
    match st,hs with
    |[q],_=>exact⟨q,rfl⟩
   have hU:=wo (t:=⟨l⟩) zU.out (show qg p l=some q by unfold qg;rw[hr]);have HU:=axj hU;obtain⟨g,cc,A1,ca,a1,b1,rfl,p0,p1,p2,lo1,hi1,pR⟩:=hge.stk (j:=0) (q:=q) rfl;have cV:=PX p ⟨q.l,q.r,q.b⟩ A1 ca wi (pR wi λ_ _ _=>rfl).Da.1 (ht.ex he);dsimp only at cV;rw[Nat.zero_mul]at p0 p1 p2;clear hU hge hs hr hw0 hk0;cases hv:SG p q.l q.r q.b with
   |true=>
    rw[hv]at cV;have cV:Calls prog 54 #[.int .i64 p,.agg #[.int .i64 q.l,.int .i64 q.r,.slice A1 q.b.length ca]] wi λe w'=>e=.returned (.tuple #[.agg #[.int .i64 q.l,.int .i64 q.r,.slice A1 q.b.length ca],.bool true])/\Ex wi w':=cV
    have hv2:=axj hv;clear hv;go_wp2_with fail
    refine cV.mono ?_;rintro e w9 ⟨rfl,x9⟩;have d9:=V1.ex x9;obtain⟨dd,zr⟩:=d9.l8 (.int .i64 q.l) (.int .i64 q.r) (.slice A1 q.b.length ca);obtain⟨r0,r1,r2⟩:=d9.d3;obtain⟨f0,f1,f2⟩:=d9.z3;obtain⟨C0,C1,C2⟩:=dd.d3;have eF:=(he.trans x9).aK zr (by omega);go_wp2_with fail
    refine axu (v:=.tuple #[.agg #[.int .i64 q.l,.int .i64 q.r,.slice A1 q.b.length ca],.bool true]) (by simp[results,Tryz.results24,go_sem,C0,C1,C2]) rfl ?_;refine⟨⟨q.l,q.r,q.b⟩,A1,ca,true,rfl,by rw[HU.out,axl hv2.out],?_,eF⟩;exact(pR _ λi i1 i2=>(zr.block i (axD i2 x9.size) (λe=>by injection e;omega)).trans (x9.block i2)).more (a':=w.heap.size) (by omega) (axA hi1 (axA x9.size zr.size))
   |false=>
    rw[hv]at cV;have cV:Calls prog 54 #[.int .i64 p,.agg #[.int .i64 q.l,.int .i64 q.r,.slice A1 q.b.length ca]] wi λe w'=>e=.returned (.tuple #[.agg #[.int .i64 0,.int .i64 0,.slice none 0 0],.bool false])/\Ex wi w':=cV
    have hv2:=axj hv;clear hv;go_wp2_with fail
    refine cV.mono ?_;rintro e w9 ⟨rfl,x9⟩;have d9:=V1.ex x9;obtain⟨dd,zr⟩:=d9.l8 (.int .i64 0) (.int .i64 0) (.slice none 0 0);obtain⟨r0,r1,r2⟩:=d9.d3;obtain⟨f0,f1,f2⟩:=d9.z3;obtain⟨C0,C1,C2⟩:=dd.d3;have eF:=(he.trans x9).aK zr (by omega);go_wp2_with fail
    refine axu (v:=.tuple #[.agg #[.int .i64 0,.int .i64 0,.slice none 0 0],.bool false]) (by simp[results,Tryz.results24,go_sem,C0,C1,C2]) rfl ?_;exact⟨⟨0,0,[]⟩,none,0,false,rfl,by rw[HU.out,axm (by rw[hv2.out];decide)],rQ.nil _ _ _ _ _,eF⟩
theorem SH{g h:Nat}{x y:aG}{B C D:Option Addr}{d hc:Nat}(row:w.cell? ⟨g,0,none⟩=some (.slice (some ⟨h,0,none⟩) 2 hc))
 (c0:w.cell? ⟨h,0,none⟩=some (.slice A x.n.length a)) (c1:w.cell? ⟨h,1,none⟩=some (.slice B x.d.length b)) (c2:w.cell? ⟨h,2,none⟩=some (.slice C y.n.length c)) (c3:w.cell? ⟨h,3,none⟩=some (.slice D y.d.length d))
 (rA:Rd w A x.n) (rB:Rd w B x.d) (rC:Rd w C y.n) (rD:Rd w D y.d):bW iX w (some ⟨g,0,none⟩) [[x,y]]:=by
 have hrow:bW EF w (some ⟨h,0,none⟩) [x,y]:=⟨by simp,λj q hj=>by
  rcases j with _|_|j
  .injection hj with hj;subst hj;refine⟨h,0,[.slice A x.n.length a,.slice B x.d.length b],rfl,λi u hi=>?_,_,_,rfl,⟨A,a,rfl,rA⟩,⟨B,b,rfl,rB⟩⟩;rcases i with _|_|i
   .injection hi with hi;subst hi;exact c0
   .injection hi with hi;subst hi;exact c1
   .simp at hi
  .injection hj with hj;subst hj;refine⟨h,0,[.slice C y.n.length c,.slice D y.d.length d],rfl,λi u hi=>?_,_,_,rfl,⟨C,c,rfl,rC⟩,⟨D,d,rfl,rD⟩⟩;rcases i with _|_|i
   .injection hi with hi;subst hi;exact c2
   .injection hi with hi;subst hi;exact c3
   .simp at hi
  .simp at hj⟩
 refine⟨by simp,λj q hj=>?_⟩;rcases j with _|j
 .injection hj with hj;subst hj;refine⟨g,0,[.slice (some ⟨h,0,none⟩) 2 hc],rfl,λi u hi=>?_,_,rfl,some ⟨h,0,none⟩,hc,rfl,hrow⟩;rcases i with _|i
  .injection hi with hi;subst hi;exact row
  .simp at hi
 .simp at hj
theorem EST.afK{q:RQ}(h:CU.O w a b vs q):EST.O w a b vs q:=by obtain⟨h0,h1,A,c,e,hk⟩:=h;exact⟨h0,h1,A,c,e,λw2 h2=>⟨A,c,rfl,(hk w2 h2).Da⟩⟩
theorem EST.BN{v w':World}{q:RQ}{g:Nat}(h:∀w2,bG (λk=>k<v.heap.size) w w2->j_ w2 A q.b)(zr:aM g w w')(hg:g<v.heap.size)(ha:a<w'.heap.size)(hav:a<=v.heap.size):EST.O w' a w'.heap.size [.int .i64 q.l,.int .i64 q.r,.slice A q.b.length c] q:=
 ⟨ha,axk _,A,c,rfl,λw2 hk=>⟨A,c,rfl,by
  have zs:=zr.size;have hsz:w'.heap.size<=w2.heap.size:=by have h4:=hk (w'.heap.size-1) (by omega) (by omega);rw[azQ (show w'.heap.size-1<w'.heap.size by omega)]at h4;have:=(aye.1 h4).1;omega
  have:=h (wth w w2) ⟨rfl,rfl,rfl,axA zs hsz,λk k1 k2=>(hk k (by omega) (by omega)).trans (zr.block k k1 (λe=>by injection e;omega))⟩;exact this⟩⟩
theorem aaI(p k v:Int)(nm:ByteArray)(T:Int×Int)(N:Nat)(Es:List Nat)(w:World)(hG:LGd p k v T N Es)(hF:av p=true)(hl:jP ⟨k,v,nm⟩=some T)
 (cE:∀e∈(dM k v).es,∀(W:World) (P:Option Addr) (pc:Nat) (Q:Option Addr) (qc:Nat),Rd W P e.ins->Rd W Q e.outs->Calls prog 172 #[.int .i64 p,.int .i64 N,.agg #[.int .i64 e.kd,.int .i64 e.vl,.slice P e.ins.length pc,.slice Q e.outs.length qc]] W λe' w'=>∃A c,e'=.returned (.slice A (eqG p N e).length c)/\dU w' A (eqG p N e)/\(eqG p N e=[]->A=none/\c=0)/\Ex W w'):
 Calls prog 74 #[.int .i64 p,.agg #[.int .i64 k,.int .i64 v,.string nm]] w λe w'=>∃A c,e=.returned (.agg #[.int .i64 T.1.toNat,.int .i64 T.2.toNat,.slice A (fU p k v).length c])/\oC w' A (fU p k v)/\Ex w w':=by
 have h2:=ax hF;obtain⟨gN,g1,gn,gD,gEs,gb,gE0,gLE,gli,glo,glt⟩:=hG;have cH:=λW=>ZQ k v nm T W hl
 have hgd:aQ N ((dM k v).es.flatMap (eqG p N))/\fQ p ((dM k v).es.flatMap (eqG p N))/\((dM k v).es.flatMap (eqG p N)).length<=1000:=by
  cases he:(dM k v).es with
  |nil=>exact⟨λr hr=>by simp at hr,λr hr=>by simp at hr,by simp⟩
  |cons e t=>
   have ht:t=[]:=by rw[he]at g1;simpa using g1
   subst ht;have:=aax h2 N e.kd e.vl (e.ins.map Int.toNat) (e.outs.map Int.toNat);rw[List.flatMap_cons,List.flatMap_nil,ax8];exact⟨this.1,this.2.1,by have h3:=this.2.2;show(RV p N e.kd e.vl (e.ins.map Int.toNat) (e.outs.map Int.toNat)).length<=1000;omega⟩
 have cG:=λ(E:Option Addr) (ec:Nat) (I:Option Addr) (ic:Nat) (O:Option Addr) (oc:Nat) (W:World) (hE:bW EE W E (dM k v).es) (hI:Rd W I (dM k v).ins) (hO:Rd W O (dM k v).outs)=>
  WE p N (dM k v) (eqG p N) Es (fU p k v) E ec I ic O oc W hF gN hE hI hO g1 (by omega) hgd.1 hgd.2.1 hgd.2.2 cE gD gEs gb gE0 gLE (by rw[gli,glo];exact glt)
 obtain⟨x,hx⟩:=xq (dM k v);obtain⟨LZ,hLZ⟩:=xq (fU p k v);rw[hx]at cH cG gli glo;rw[hLZ]at cG⊢;obtain⟨xw,es,ins,outs⟩:=x;dsimp only at cH cG gli glo;unfold RdG at cH;dsimp only at cH;obtain⟨l,hl0⟩:=xq T.1.toNat;obtain⟨r,hr0⟩:=xq T.2.toNat;obtain⟨le,hle⟩:=xq es.length;rw[hl0]at gli⊢;rw[hr0]at glo⊢;rw[gli,glo,hle]at cH cG;clear gN g1 gn gD gEs gb gE0 gLE gli glo glt hgd hx hLZ hl0 hr0 hle cE hl;obtain⟨W0,hW0,x0,d0,s0⟩:=VB.an w 70 #[.int .i64 k,.int .i64 v,.string nm] rfl;obtain⟨W1,hW1,x1,d1,s1⟩:=VB.an W0 94 #[.int .i64 0,.int .i64 0,.slice none 0 0] s0;have D0:=d0.ex x1;have X1:=x0.trans x1;obtain⟨q0,q1,q2⟩:=D0.d3;go_enter Tryz.func74,Tryz.ntmps74
 go_wp2_with fail
 refine(cH _).mono ?_;rintro e w2 ⟨⟨E,ec,I,ic,O,oc,rfl,hE,hI,hO⟩,x2⟩;go_wp2_with fail
 refine(cG E ec I ic O oc w2 hE hI hO).mono ?_;rintro e w3 ⟨A3,c3,rfl,hr3,hLw,x3⟩;have HLw:=axj hLw;have hz:=(d1.ex x2).ex x3;have X3:=(X1.trans x2).trans x3;have z3:=X3.size;have z23:=(x2.trans x3).size;obtain⟨y4,d4,W4,zZ⟩:=VB.al w3 94 #[.int .i64 l,.int .i64 r,.slice A3 LZ.length c3];rw[zZ]at y4 d4;have Xf:=hz.ex y4;obtain⟨dd,zz⟩:=Xf.l8 (.int .i64 l) (.int .i64 r) (.slice A3 LZ.length c3);obtain⟨v0,v1,v2⟩:=d4.d3;obtain⟨u0,u1,u2⟩:=Xf.d3;obtain⟨k0,k1,k2⟩:=Xf.z3;obtain⟨C0,C1,C2⟩:=dd.d3;have eF:=(X3.trans y4).aK zz (by omega);have hr5:=(hr3.ex y4).e1v zz Xf ⟨_,rfl⟩ ⟨_,rfl⟩ ⟨_,rfl⟩ rfl;clear cH cG hr3 hLw;go_wp2_with fail
 refine axu (v:=.agg #[.int .i64 l,.int .i64 r,.slice A3 LZ.length c3]) (by simp[results,Tryz.results74,go_sem,C0,C1,C2]) rfl ?_;exact⟨A3,c3,rfl,hr5.rdm HLw.out,eF⟩
theorem Ym(p k v:Int)(nm:ByteArray)(l r:Nat)(LZ:List (List Int))(w:World)(h8:k≠8)(uJ:k≠14)
 (cL:∀W,Calls prog 74 #[.int .i64 p,.agg #[.int .i64 k,.int .i64 v,.string nm]] W λe w'=>∃A c,e=.returned (.agg #[.int .i64 l,.int .i64 r,.slice A LZ.length c])/\oC w' A LZ/\Ex W w'):
 Calls prog 41 #[.int .i64 p,.agg #[.int .i64 k,.int .i64 v,.string nm]] w λe w'=>∃y,e=.returned (.agg #[.int .i64 l,.int .i64 r,y])/\EST.O w' w.heap.size w'.heap.size [.int .i64 l,.int .i64 r,y] ⟨l,r,rq LZ⟩/\Ex w w':=by
 have hb8:(k==8)=false:=by simp;omega
 have aoc:(k==14)=false:=by simp;omega
 clear h8 uJ;have cK:=λ(W:World) (A:Option Addr) (c:Nat) (h:oC W A LZ)=>U2 ⟨l,r,LZ⟩ A c W h
 dsimp only at cK;obtain⟨RR,hRR⟩:=xq (rq LZ);rw[hRR]at cK⊢;clear hRR;obtain⟨W0,hW0,x0,d0,s0⟩:=VB.an w 70 #[.int .i64 k,.int .i64 v,.string nm] rfl;obtain⟨W1,hW1,x1,d1,s1⟩:=VB.an W0 28 #[.int .i64 0,.int .i64 0,.slice none 0 0] s0;have y2:=(aCQ W1).alloc (aN [0,1]);have b2:=dW.new W1 [0,1];obtain⟨W2,hW2⟩:=xq (W1.alloc (.cells #[.int .i64 0,.int .i64 1] 3));have GN:W1.alloc (aN [0,1])=W2:=hW2;have s2:W2.heap.size=w.heap.size+1+1+1:=by rw[<-hW2];simp[s1]
 rw[GN]at y2 b2;rw[s1]at b2;have y3:=(aCQ W2).alloc (aN [1]);have b3:=dW.new W2 [1];obtain⟨W3,hW3⟩:=xq (W2.alloc (.cells #[.int .i64 1] 3));have GL:W2.alloc (aN [1])=W3:=hW3;have s3:W3.heap.size=w.heap.size+1+1+1+1:=by rw[<-hW3];simp[s2]
 rw[GL]at y3 b3;rw[s2]at b3;obtain⟨W4,zZ,y4,d4,s4⟩:=VB.an W3 57 #[.slice (some ⟨w.heap.size+1+1,0,none⟩) 2 2,.slice (some ⟨w.heap.size+1+1+1,0,none⟩) 1 1] s3;have B2:=((b2.ex y3).ex y4).rd (by decide);have B3:=(b3.ex y4).rd (by decide);have y24:=(y2.trans y3).trans y4;have D0:=(d0.ex x1).ex y24;have D1:=d1.ex y24;have X4:=(x0.trans x1).trans y24;obtain⟨q0,q1,q2⟩:=D0.d3;obtain⟨p0,p1⟩:=d4.d2;clear x0 x1 d0 d1 y2 y3 b2 b3 GN GL;go_enter Tryz.func41,Tryz.ntmps41
 go_wp2_with fail
 refine(cL _).mono ?_;rintro e w8 ⟨A8,c8,rfl,r8,x8⟩;go_wp2_with fail
 refine(cK _ _ _ r8).mono ?_;rintro e w9 ⟨A9,c9,rfl,o9,x9⟩;have n9:=D1.ex (x8.trans x9);have z9:=x9.size;have z8:=x8.size;obtain⟨dd,zr⟩:=n9.l8 (.int .i64 l) (.int .i64 r) (.slice A9 RR.length c9);obtain⟨r0,r1,r2⟩:=n9.d3;obtain⟨f0,f1,f2⟩:=n9.z3;obtain⟨C0,C1,C2⟩:=dd.d3;have eF:=(X4.trans (x8.trans x9)).aK zr (by omega);have zs:=zr.size;have oF9:=(o9.iv (jE.aZ zr) (.inr (by omega))).more (a':=w.heap.size) (by omega) zs;have hE:=EST.afK (CU.AQ (q:=⟨l,r,RR⟩) oF9 (by omega) (axk _));clear cK cL o9 oF9;go_wp2_with fail
 refine axu (v:=.agg #[.int .i64 l,.int .i64 r,.slice A9 RR.length c9]) (by simp[results,Tryz.results41,go_sem,C0,C1,C2]) rfl ?_;exact⟨_,rfl,hE,eF⟩
theorem Yn(p v:Int)(nm:ByteArray)(w:World)(hF:av p=true):
 Calls prog 41 #[.int .i64 p,.agg #[.int .i64 8,.int .i64 v,.string nm]] w λe w'=>∃y,e=.returned (.agg #[.int .i64 1,.int .i64 1,y])/\EST.O w' w.heap.size w'.heap.size [.int .i64 (1:Nat),.int .i64 (1:Nat),y] ⟨1,1,(au p).aC 2 [[oF,xF]]⟩/\Ex w w':=by
 have hGo:iB p 21 [[oF,xF]]:=by have:=(mX.delay (hF:=hF)).gd.mono (show 1+1<=21 by omega);rwa[CY hF]at this
 have hWd:aQ (1+1) [[oF,xF]]:=λu hu=>by rw[axJ.1 hu];rfl
 have hBd:=λ(c:Nat) (hc:c<=1+1)=>(jw hF (by omega) hGo hWd (R:=12) (.inl (by omega:1+1<=12)) (axk _) c hc).mono (show jg 12 21<=17179869184 by unfold jg;omega)
 have cO:=λ(A:Option Addr) (c:Nat) (W:World) (h:bW iX W A [[oF,xF]])=>CZ (λ_=>False) p 1 1 [[oF,xF]] A c W hF (mW.iU h (aCQ W) λ_ e=>e.elim) (λ_ e=>e.elim) hWd hBd (by omega) (by simp)
 obtain⟨RR,hRR⟩:=xq ((au p).aC 2 [[oF,xF]]);rw[hRR];rw[show(1+1:Nat)=2 from rfl,hRR]at cO;clear hRR hBd hWd hGo hF;obtain⟨W0,hW0,x0,d0,s0⟩:=VB.an w 70 #[.int .i64 8,.int .i64 v,.string nm] rfl;obtain⟨W1,hW1,x1,d1,s1⟩:=VB.an W0 28 #[.int .i64 0,.int .i64 0,.slice none 0 0] s0;have y2:=(aCQ W1).alloc (aN [0,1]);have b2:=dW.new W1 [0,1];obtain⟨W2,hW2⟩:=xq (W1.alloc (.cells #[.int .i64 0,.int .i64 1] 3));have GN:W1.alloc (aN [0,1])=W2:=hW2;have s2:W2.heap.size=w.heap.size+1+1+1:=by rw[<-hW2];simp[s1]
 rw[GN]at y2 b2;rw[s1]at b2;have y3:=(aCQ W2).alloc (aN [1]);have b3:=dW.new W2 [1];obtain⟨W3,hW3⟩:=xq (W2.alloc (.cells #[.int .i64 1] 3));have GL:W2.alloc (aN [1])=W3:=hW3;have s3:W3.heap.size=w.heap.size+1+1+1+1:=by rw[<-hW3];simp[s2]
 rw[GL]at y3 b3;rw[s2]at b3;obtain⟨W4,zZ,y4,d4,s4⟩:=VB.an W3 57 #[.slice (some ⟨w.heap.size+1+1,0,none⟩) 2 2,.slice (some ⟨w.heap.size+1+1+1,0,none⟩) 1 1] s3;have B2:=((b2.ex y3).ex y4).rd (by decide);have B3:=(b3.ex y4).rd (by decide);have y24:=(y2.trans y3).trans y4;have D0:=(d0.ex x1).ex y24;have D1:=d1.ex y24;have X4:=(x0.trans x1).trans y24;obtain⟨q0,q1,q2⟩:=D0.d3;obtain⟨p0,p1⟩:=d4.d2;clear x0 x1 d0 d1 y2 y3 b2 b3 GN GL;have cU:∀W,Calls prog 72 #[] W λe w'=>∃A c B d,e=.returned (.agg #[.slice A 1 c,.slice B 1 d])/\Fr w' W.heap.size A c [1]/\Fr w' W.heap.size B d [1]/\Apart A B/\Ex W w':=λW=>pq W
 have HS2:∀W,Ex W4 W->(W.cell? ⟨w.heap.size+1+1+1+1,0,none⟩=some (.slice (some ⟨w.heap.size+1+1,0,none⟩) 2 2)/\W.cell? ⟨w.heap.size+1+1+1+1,1,none⟩=some (.slice (some ⟨w.heap.size+1+1+1,0,none⟩) 1 1)):=λW h=>⟨af h p0,af h p1⟩
 go_enter Tryz.func41,Tryz.ntmps41
 go_wp2_with fail
 go_region_held3 (λW=>W.cell? ⟨w.heap.size+1+1+1+1,0,none⟩=some (.slice (some ⟨w.heap.size+1+1,0,none⟩) 2 2)/\W.cell? ⟨w.heap.size+1+1+1+1,1,none⟩=some (.slice (some ⟨w.heap.size+1+1+1,0,none⟩) 1 1)) (first
  |(exact hS9)
  |(exact HS2 _ x9)
  |(exact HS2 _ ((x7.alloc _).alloc _))
  |(exact HS2 _ (x7.alloc _))
  |(exact HS2 _ x7)
  |(exact HS2 _ (aCQ W4).drew)) (first
  |(go_at_call 72
    refine(cU _).mono ?_;rintro e w7 ⟨A,a,B,b,rfl,fA,fB,_,x7'⟩;have x7:Ex W4 w7:=(aCQ W4).drew.trans x7';have z7:=x7.size)
  |(go_at_call 71
    obtain⟨m1,n1,V1,hV1⟩:=VB.al w7 57 #[.slice A 1 a,.slice B 1 b,.slice (some ⟨w.heap.size+1+1,0,none⟩) 2 2,.slice (some ⟨w.heap.size+1+1+1,0,none⟩) 1 1];have t1:V1.heap.size=w7.heap.size+1:=by rw[<-hV1];simp
    rw[hV1]at n1 m1⊢;obtain⟨m2,n2,V2,hV2⟩:=VB.al V1 54 #[.slice (some ⟨w7.heap.size,0,none⟩) 2 2];rw[hV2]at n2 m2⊢;rw[t1]at n2;have N1:=n1.ex m2;have m12:=m1.trans m2;have hrd:bW iX V2 (some ⟨w7.heap.size+1,0,none⟩) [[oF,xF]]:=SH (x:=oF) (y:=xF) (n2.c0) (N1.c0) (N1.c1) (N1.c2) (N1.c3) (fA.rd.ex m12) (fB.rd.ex m12) ((B2.ex x7).ex m12) ((B3.ex x7).ex m12);refine(cO _ _ V2 hrd).mono ?_;rintro e w9 ⟨A9,c9,rfl,hR9,x9'⟩;have x9:Ex W4 w9:=(x7.trans m12).trans x9';have n9:=D1.ex x9;have z9:=x9.size;have z92:=(m12.trans x9').size;obtain⟨dd,zr⟩:=n9.l8 (.int .i64 1) (.int .i64 1) (.slice A9 RR.length c9);obtain⟨r0,r1,r2⟩:=n9.d3;obtain⟨f0,f1,f2⟩:=n9.z3;have g4:=VB.aK (d4.ex x9) zr (by omega);have hS9:=And.intro (g4.c0) (g4.c1);clear g4 n9))
 all_goals
  obtain⟨C0,C1,C2⟩:=dd.d3;have eF:=(X4.trans x9).aK zr (by omega);have zs:=zr.size;have zV:=m12.size;have hE2:=EST.BN (q:=⟨1,1,RR⟩) (A:=A9) (c:=c9) (a:=w.heap.size) hR9 zr (by omega) (by omega) (by omega);clear hR9;go_wp2_with fail
  refine axu (v:=.agg #[.int .i64 1,.int .i64 1,.slice A9 RR.length c9]) (by simp[results,Tryz.results41,go_sem,C0,C1,C2]) rfl ?_;exact⟨_,rfl,hE2,eF⟩
theorem U3(p v:Int)(nm:ByteArray)(w:World)(hF:av p=true):
 Calls prog 41 #[.int .i64 p,.agg #[.int .i64 14,.int .i64 v,.string nm]] w λe w'=>∃y,e=.returned (.agg #[.int .i64 1,.int .i64 1,y])/\EST.O w' w.heap.size w'.heap.size [.int .i64 (1:Nat),.int .i64 (1:Nat),y] ⟨1,1,(au p).aC 2 [[xF,oF]]⟩/\Ex w w':=by
 have hGo:iB p 21 [[oF,xF]]:=by have:=(mX.delay (hF:=hF)).gd.mono (show 1+1<=21 by omega);rwa[CY hF]at this
 have hGs:iB p 21 [[xF,oF]]:=λr hr x hx=>by rw[axJ.1 hr]at hx;refine hGo [oF,xF] (by simp) x ?_;simp only[axI,axV,or_false]at hx⊢;exact hx.symm
 have hWd:aQ (1+1) [[xF,oF]]:=λu hu=>by rw[axJ.1 hu];rfl
 have hBd:=λ(c:Nat) (hc:c<=1+1)=>(jw hF (by omega) hGs hWd (R:=12) (.inl (by omega:1+1<=12)) (axk _) c hc).mono (show jg 12 21<=17179869184 by unfold jg;omega)
 have cO:=λ(A:Option Addr) (c:Nat) (W:World) (h:bW iX W A [[xF,oF]])=>CZ (λ_=>False) p 1 1 [[xF,oF]] A c W hF (mW.iU h (aCQ W) λ_ e=>e.elim) (λ_ e=>e.elim) hWd hBd (by omega) (by simp)
 obtain⟨RR,hRR⟩:=xq ((au p).aC 2 [[xF,oF]]);rw[hRR];rw[show(1+1:Nat)=2 from rfl,hRR]at cO;clear hRR hBd hWd hGo hGs hF;obtain⟨W0,hW0,x0,d0,s0⟩:=VB.an w 70 #[.int .i64 14,.int .i64 v,.string nm] rfl;obtain⟨W1,hW1,x1,d1,s1⟩:=VB.an W0 28 #[.int .i64 0,.int .i64 0,.slice none 0 0] s0;have y2:=(aCQ W1).alloc (aN [0,1]);have b2:=dW.new W1 [0,1];obtain⟨W2,hW2⟩:=xq (W1.alloc (.cells #[.int .i64 0,.int .i64 1] 3));have GN:W1.alloc (aN [0,1])=W2:=hW2;have s2:W2.heap.size=w.heap.size+1+1+1:=by rw[<-hW2];simp[s1]
 rw[GN]at y2 b2;rw[s1]at b2;have y3:=(aCQ W2).alloc (aN [1]);have b3:=dW.new W2 [1];obtain⟨W3,hW3⟩:=xq (W2.alloc (.cells #[.int .i64 1] 3));have GL:W2.alloc (aN [1])=W3:=hW3;have s3:W3.heap.size=w.heap.size+1+1+1+1:=by rw[<-hW3];simp[s2]
 rw[GL]at y3 b3;rw[s2]at b3;obtain⟨W4,zZ,y4,d4,s4⟩:=VB.an W3 57 #[.slice (some ⟨w.heap.size+1+1,0,none⟩) 2 2,.slice (some ⟨w.heap.size+1+1+1,0,none⟩) 1 1] s3;have B2:=((b2.ex y3).ex y4).rd (by decide);have B3:=(b3.ex y4).rd (by decide);have y24:=(y2.trans y3).trans y4;have D0:=(d0.ex x1).ex y24;have D1:=d1.ex y24;have X4:=(x0.trans x1).trans y24;obtain⟨q0,q1,q2⟩:=D0.d3;obtain⟨p0,p1⟩:=d4.d2;clear x0 x1 d0 d1 y2 y3 b2 b3 GN GL;have cU:∀W,Calls prog 72 #[] W λe w'=>∃A c B d,e=.returned (.agg #[.slice A 1 c,.slice B 1 d])/\Fr w' W.heap.size A c [1]/\Fr w' W.heap.size B d [1]/\Apart A B/\Ex W w':=λW=>pq W
 have HS2:∀W,Ex W4 W->(W.cell? ⟨w.heap.size+1+1+1+1,0,none⟩=some (.slice (some ⟨w.heap.size+1+1,0,none⟩) 2 2)/\W.cell? ⟨w.heap.size+1+1+1+1,1,none⟩=some (.slice (some ⟨w.heap.size+1+1+1,0,none⟩) 1 1)):=λW h=>⟨af h p0,af h p1⟩
 go_enter Tryz.func41,Tryz.ntmps41
 go_wp2_with fail
 go_region_held3 (λW=>W.cell? ⟨w.heap.size+1+1+1+1,0,none⟩=some (.slice (some ⟨w.heap.size+1+1,0,none⟩) 2 2)/\W.cell? ⟨w.heap.size+1+1+1+1,1,none⟩=some (.slice (some ⟨w.heap.size+1+1+1,0,none⟩) 1 1)) (first
  |(exact hS9)
  |(exact HS2 _ x9)
  |(exact HS2 _ ((x7.alloc _).alloc _))
  |(exact HS2 _ (x7.alloc _))
  |(exact HS2 _ x7)
  |(exact HS2 _ (aCQ W4).drew)) (first
  |(go_at_call 72
    refine(cU _).mono ?_;rintro e w7 ⟨A,a,B,b,rfl,fA,fB,_,x7'⟩;have x7:Ex W4 w7:=(aCQ W4).drew.trans x7';have z7:=x7.size)
  |(go_at_call 71
    obtain⟨m1,n1,V1,hV1⟩:=VB.al w7 57 #[.slice (some ⟨w.heap.size+1+1,0,none⟩) 2 2,.slice (some ⟨w.heap.size+1+1+1,0,none⟩) 1 1,.slice A 1 a,.slice B 1 b];have t1:V1.heap.size=w7.heap.size+1:=by rw[<-hV1];simp
    rw[hV1]at n1 m1⊢;obtain⟨m2,n2,V2,hV2⟩:=VB.al V1 54 #[.slice (some ⟨w7.heap.size,0,none⟩) 2 2];rw[hV2]at n2 m2⊢;rw[t1]at n2;have N1:=n1.ex m2;have m12:=m1.trans m2;have hrd:bW iX V2 (some ⟨w7.heap.size+1,0,none⟩) [[xF,oF]]:=SH (x:=xF) (y:=oF) (n2.c0) (N1.c0) (N1.c1) (N1.c2) (N1.c3) ((B2.ex x7).ex m12) ((B3.ex x7).ex m12) (fA.rd.ex m12) (fB.rd.ex m12);refine(cO _ _ V2 hrd).mono ?_;rintro e w9 ⟨A9,c9,rfl,hR9,x9'⟩;have x9:Ex W4 w9:=(x7.trans m12).trans x9';have n9:=D1.ex x9;have z9:=x9.size;have z92:=(m12.trans x9').size;obtain⟨dd,zr⟩:=n9.l8 (.int .i64 1) (.int .i64 1) (.slice A9 RR.length c9);obtain⟨r0,r1,r2⟩:=n9.d3;obtain⟨f0,f1,f2⟩:=n9.z3;have g4:=VB.aK (d4.ex x9) zr (by omega);have hS9:=And.intro (g4.c0) (g4.c1);clear g4 n9))
 all_goals
  obtain⟨C0,C1,C2⟩:=dd.d3;have eF:=(X4.trans x9).aK zr (by omega);have zs:=zr.size;have zV:=m12.size;have hE2:=EST.BN (q:=⟨1,1,RR⟩) (A:=A9) (c:=c9) (a:=w.heap.size) hR9 zr (by omega) (by omega) (by omega);clear hR9;go_wp2_with fail
  refine axu (v:=.agg #[.int .i64 1,.int .i64 1,.slice A9 RR.length c9]) (by simp[results,Tryz.results41,go_sem,C0,C1,C2]) rfl ?_;exact⟨_,rfl,hE2,eF⟩
theorem aaG(p vl:Int)(n:Nat)(P:Option Addr)(pc:Nat)(Q:Option Addr)(qc:Nat)(w:World):
 Calls prog 172 #[.int .i64 p,.int .i64 n,.agg #[.int .i64 4,.int .i64 vl,.slice P 1 pc,.slice Q 0 qc]] w λe' w'=>e'=.returned (.slice none 0 0)/\Ex w w':=by
 obtain⟨y0,d0,W0,hW0⟩:=VB.al w 156 #[.int .i64 4,.int .i64 vl,.slice P 1 pc,.slice Q 0 qc];rw[hW0]at y0 d0;have q0:=d0.c0;have q2:=d0.c2;have q3:=d0.c3;go_enter Tryz.func172,Tryz.ntmps172
 go_wp2_with fail
 go_quiet (fail)
 go_wp2_with fail
 go_ret;exact⟨rfl,y0.drewN _⟩
theorem WC(p vl:Int)(n:Nat)(P:Option Addr)(pc:Nat)(Q:Option Addr)(qc:Nat)(w:World):
 Calls prog 172 #[.int .i64 p,.int .i64 n,.agg #[.int .i64 10,.int .i64 vl,.slice P 0 pc,.slice Q 1 qc]] w λe' w'=>e'=.returned (.slice none 0 0)/\Ex w w':=by
 obtain⟨y0,d0,W0,hW0⟩:=VB.al w 156 #[.int .i64 10,.int .i64 vl,.slice P 0 pc,.slice Q 1 qc];rw[hW0]at y0 d0;have q0:=d0.c0;have q2:=d0.c2;have q3:=d0.c3;go_enter Tryz.func172,Tryz.ntmps172
 go_wp2_with fail
 go_quiet (fail)
 go_wp2_with fail
 go_quiet (fail)
 go_wp2_with fail
 go_ret;exact⟨rfl,y0.drewN _⟩
theorem Ot{k v:Int}{nm:ByteArray}{T:Int×Int}{N:Nat}(hF:av p=true)(hl:jP ⟨k,v,nm⟩=some T)(hv:Ci p ⟨k,v,nm⟩=true)(h8:k≠8)(uJ:k≠14)(hN:(dM k v).kK=(N:Int)):
 ∀e∈(dM k v).es,∀(W:World) (P:Option Addr) (pc:Nat) (Q:Option Addr) (qc:Nat),Rd W P e.ins->Rd W Q e.outs->Calls prog 172 #[.int .i64 p,.int .i64 N,.agg #[.int .i64 e.kd,.int .i64 e.vl,.slice P e.ins.length pc,.slice Q e.outs.length qc]] W λe' w'=>∃A c,e'=.returned (.slice A (eqG p N e).length c)/\dU w' A (eqG p N e)/\(eqG p N e=[]->A=none/\c=0)/\Ex W w':=by
 unfold jP at hl;dsimp only at hl;split at hl
 .rename_i h1;obtain⟨_,hk,_⟩:=h1;subst hk;intro e he;cases he
 .split at hl
  .rename_i h1;obtain⟨_,hk,_⟩:=h1;subst hk;intro e he;cases he
  .split at hl
   .rename_i h1;obtain⟨_,hk,hvl⟩:=h1;have hel:k=7∨k=13->iF p v=true:=λe=>by
     unfold KY at hvl;rw[axl e]at hvl;unfold Ci at hv;simp[e,bL]at hv hvl;simp[iF];omega
    rcases kinds hk with rfl|rfl|rfl|rfl|rfl|rfl|rfl|rfl|rfl|rfl|rfl|rfl;case inr.inr.inr.inr.inr.inl=>exact absurd rfl h8
    case inr.inr.inr.inr.inr.inr.inr.inr.inr.inr.inr=>exact absurd rfl uJ
    .obtain rfl:N=3:=by
      have h:((3:Nat):Int)=(N:Int):=hN;omega
     intro e he W P pc Q qc hP hQ;obtain rfl:e=⟨3,v,nP 1,mG 1 2⟩:=axJ.1 he;refine(aaH p v 3 0 1 2 P pc Q qc W hF hP hQ (by decide) (by omega)).mono ?_;rintro e' w' ⟨X,cx,rfl,hm,x⟩;exact⟨X,cx,rfl,hm,λh=>(by cases h),x⟩
    .obtain rfl:N=1:=by
      have h:((1:Nat):Int)=(N:Int):=hN;omega
     intro e he W P pc Q qc hP hQ;obtain rfl:e=⟨4,v,nP 1,mG 1 0⟩:=axJ.1 he;refine(aaG p v 1 P pc Q qc W).mono ?_;rintro e' w' ⟨rfl,x⟩;exact⟨none,0,rfl,Ef _ _,λ_=>⟨rfl,rfl⟩,x⟩
    .obtain rfl:N=3:=by
      have h:((3:Nat):Int)=(N:Int):=hN;omega
     intro e he W P pc Q qc hP hQ;obtain rfl:e=⟨5,v,nP 2,mG 2 1⟩:=axJ.1 he;refine(aaF p v 3 0 1 2 P pc Q qc W hF hP hQ (by decide) (by omega)).mono ?_;rintro e' w' ⟨X,cx,rfl,hm,x⟩;exact⟨X,cx,rfl,hm,λh=>(by cases h),x⟩
    .obtain rfl:N=1:=by
      have h:((1:Nat):Int)=(N:Int):=hN;omega
     intro e he W P pc Q qc hP hQ;obtain rfl:e=⟨6,v,nP 0,mG 0 1⟩:=axJ.1 he;refine(aaE p v 1 0 P pc Q qc W hF hP hQ (by decide) (by omega)).mono ?_;rintro e' w' ⟨X,cx,rfl,hm,x⟩;exact⟨X,cx,rfl,hm,λh=>(by cases h),x⟩
    .obtain rfl:N=2:=by
      have h:((2:Nat):Int)=(N:Int):=hN;omega
     intro e he W P pc Q qc hP hQ;obtain rfl:e=⟨7,v,nP 1,mG 1 1⟩:=axJ.1 he;refine(aaD p v 2 0 1 P pc Q qc W hF hP hQ (by decide) (hel (.inl rfl)) (by omega)).mono ?_;rintro e' w' ⟨X,cx,rfl,hm,x⟩;exact⟨X,cx,rfl,hm,λh=>(by cases h),x⟩
    .obtain rfl:N=3:=by
      have h:((3:Nat):Int)=(N:Int):=hN;omega
     intro e he W P pc Q qc hP hQ;obtain rfl:e=⟨9,v,nP 2,mG 2 1⟩:=axJ.1 he;refine(aaC p v 3 2 0 1 P pc Q qc W hF hP hQ (by decide) (by omega)).mono ?_;rintro e' w' ⟨X,cx,rfl,hm,x⟩;exact⟨X,cx,rfl,hm,λh=>(by cases h),x⟩
    .obtain rfl:N=1:=by
      have h:((1:Nat):Int)=(N:Int):=hN;omega
     intro e he W P pc Q qc hP hQ;obtain rfl:e=⟨10,v,nP 0,mG 0 1⟩:=axJ.1 he;refine(WC p v 1 P pc Q qc W).mono ?_;rintro e' w' ⟨rfl,x⟩;exact⟨none,0,rfl,Ef _ _,λ_=>⟨rfl,rfl⟩,x⟩
    .obtain rfl:N=3:=by
      have h:((3:Nat):Int)=(N:Int):=hN;omega
     intro e he W P pc Q qc hP hQ;obtain rfl:e=⟨11,v,nP 1,mG 1 2⟩:=axJ.1 he;refine(WB p v 3 1 2 0 P pc Q qc W hF hP hQ (by decide) (by omega)).mono ?_;rintro e' w' ⟨X,cx,rfl,hm,x⟩;exact⟨X,cx,rfl,hm,λh=>(by cases h),x⟩
    .obtain rfl:N=1:=by
      have h:((1:Nat):Int)=(N:Int):=hN;omega
     intro e he W P pc Q qc hP hQ;obtain rfl:e=⟨12,v,nP 1,mG 1 0⟩:=axJ.1 he;refine(WA p v 1 0 P pc Q qc W hF hP hQ (by decide) (by omega)).mono ?_;rintro e' w' ⟨X,cx,rfl,hm,x⟩;exact⟨X,cx,rfl,hm,λh=>(by cases h),x⟩
    .obtain rfl:N=2:=by
      have h:((2:Nat):Int)=(N:Int):=hN;omega
     intro e he W P pc Q qc hP hQ;obtain rfl:e=⟨13,v,nP 1,mG 1 1⟩:=axJ.1 he;refine(Wz p v 2 1 0 P pc Q qc W hF hP hQ (by decide) (hel (.inr rfl)) (by omega)).mono ?_;rintro e' w' ⟨X,cx,rfl,hm,x⟩;exact⟨X,cx,rfl,hm,λh=>(by cases h),x⟩
   .cases hl
theorem Yo(p:Int)(nd:Nd)(T:Int×Int)(w:World)(hF:av p=true)(hl:jP nd=some T)(hv:Ci p nd=true):
 Calls prog 41 #[.int .i64 p,.agg #[.int .i64 nd.kd,.int .i64 nd.vl,.string nd.nm]] w λe w'=>∃y,e=.returned (.agg #[.int .i64 T.1.toNat,.int .i64 T.2.toNat,y])/\EST.O w' w.heap.size w'.heap.size [.int .i64 T.1.toNat,.int .i64 T.2.toNat,y] ⟨T.1.toNat,T.2.toNat,gU p nd⟩/\Ex w w':=by
 by_cases h8:nd.kd=8
 .obtain⟨k,v,nm⟩:=nd;dsimp only at h8;subst h8;have hT:T=(1,1):=by
   unfold jP at hl;dsimp only at hl;rw[axm (by omega),axm (by omega)]at hl;split at hl
   .injection hl with hl;exact hl.symm
   .cases hl
  subst hT;have e:gU p ⟨8,v,nm⟩=(au p).aC 2 [[oF,xF]]:=by unfold gU;rw[axl rfl]
  rw[e];exact Yn p v nm w hF
 .by_cases uJ:nd.kd=14
  .obtain⟨k,v,nm⟩:=nd;dsimp only at uJ;subst uJ;have hT:T=(1,1):=by
    unfold jP at hl;dsimp only at hl;rw[axm (by omega),axm (by omega)]at hl;split at hl
    .injection hl with hl;exact hl.symm
    .cases hl
   subst hT;have e:gU p ⟨14,v,nm⟩=(au p).aC 2 [[xF,oF]]:=by unfold gU;rw[axm (by dsimp only;omega),axl rfl]
   rw[e];exact U3 p v nm w hF
  .obtain⟨N,Es,hG⟩:=acJ hF hl hv h8 uJ;have e:gU p nd=rq (fU p nd.kd nd.vl):=by
    unfold gU;rw[axm h8,axm uJ]
   rw[e];obtain⟨k,v,nm⟩:=nd;exact Ym p k v nm T.1.toNat T.2.toNat (fU p k v) w h8 uJ λW=>aaI p k v nm T N Es W hG hF hl (Ot hF hl hv h8 uJ hG.hN)
theorem afp{st:List (Int×Int)}{n:Nd}{ts:List (Int×Int)}(hb:∀u∈st,(0<=u.1/\u.1<=12)/\(0<=u.2/\u.2<=12))(h:oQ st n=some ts):∀u∈ts,(0<=u.1/\u.1<=12)/\(0<=u.2/\u.2<=12):=by
 unfold oQ at h;split at h
 .split at h
  .match st,hb,h with
   |[],_,h=>cases h
   |[_],_,h=>cases h
   |b::a::r,hb,h=>
    have h:(Dh n.kd a b).map (·::r)=some ts:=h;cases hj:Dh n.kd a b with
    |none=>rw[hj]at h;cases h
    |some c=>
     rw[hj]at h;injection h with h;subst h;intro u hu;rcases axI.1 hu with rfl|hu
     .exact Zv (hb a (by simp)) (hb b (by simp)) hj
     .exact hb u (by simp[hu])
  .cases h
 .cases hl:jP n with
  |none=>rw[hl]at h;cases h
  |some c=>
   rw[hl]at h;injection h with h;subst h;intro u hu;rcases axI.1 hu with rfl|hu
   .exact JQ hl
   .exact hb u hu
theorem ab2{l:List Nd}:∀{st ts:List (Int×Int)},(∀u∈st,(0<=u.1/\u.1<=12)/\(0<=u.2/\u.2<=12))->ny l st=some ts->∀u∈ts,(0<=u.1/\u.1<=12)/\(0<=u.2/\u.2<=12):=by
 induction l with
 |nil=>intro st ts hb h;injection h with h;subst h;exact hb
 |cons n l ih=>
  intro st ts hb h;have h:(oQ st n).bind (ny l)=some ts:=h;cases hs:oQ st n with
  |none=>rw[hs]at h;cases h
  |some s=>rw[hs]at h;exact ih (afp hb hs) h
theorem adA{hF:av p=true}{l:List Nd}{st:List RQ}{n:Nd}{a b:Int}{r:List (Int×Int)}(hok:sZ p l=true)(hn:l[k]?=some n)(hr:jR p (l.take k) []=some st)(hs:ny (l.take k) []=some (xS st))(hg:kg (hF:=hF) k st)(hT:ny (l.take (k+1)) []=some ((a,b)::r)):
 (12<a+b/\qg p l=none)∨(a+b<=12/\∃s,jR p (l.take (k+1)) []=some s/\ny (l.take (k+1)) []=some (xS s)/\kg (hF:=hF) (k+1) s):=by
 obtain⟨_,hv⟩:=f_ hok;have hs1:=qj hn [];have hr1:=nJ (p:=p) hn [];rw[hs]at hs1;rw[hr]at hr1;have hs1:ny (l.take (k+1)) []=oQ (xS st) n:=hs1;have hr1:jR p (l.take (k+1)) []=jJ p st n:=hr1;have hst:=hs1.symm.trans hT;rcases Ie hg (hv n (axo hn)) hst with⟨h1,w,r',e,h2⟩|⟨q,s,h1,h2,h3,h4⟩
 .injection e with e1 e2;subst e1;refine .inl ⟨h2,?_⟩;rw[h1]at hr1;unfold qg;rw[Au hr1]
 .refine .inr ⟨?_,q::s,hr1.trans h1,by rw[hT,h2],h3⟩;have h2:((q.l:Int),(q.r:Int))::xS s=(a,b)::r:=h2;injection h2 with h2 _;injection h2 with e1 e2;omega
def rtU(p:Int)(l:List Nd):iK×Bool:=if sZ p l=true then(match qg p l with|some q=>(⟨q.l,q.r,q.b⟩,true)|none=>(⟨0,0,[]⟩,false))else(⟨0,0,[]⟩,false)
theorem Yb{l:List Nd}(h:sZ p l=false):rtU p l=(⟨0,0,[]⟩,false):=axm (by rw[h];decide)
theorem L_{l:List Nd}(h:qg p l=none):rtU p l=(⟨0,0,[]⟩,false):=by
 unfold rtU;split
 .rw[h]
 .rfl
theorem D_{l:List Nd}(h:sZ p l=true){q:RQ}(hq:qg p l=some q):rtU p l=(⟨q.l,q.r,q.b⟩,true):=by unfold rtU;rw[axl h,hq]
theorem adm{hF:av p=true}{la mid rb dA dB:Nat}{a b:List (List aG)}(ha:mX hF (la+mid) dA a)(hb:mX hF (mid+rb) dB b):(au p).FU la mid rb a b=(au p).oo la mid rb a b:=
 agQ hF ha.wid hb.wid (IX ha.gd) (IX hb.gd)
theorem EST.amU{a' b':Nat}{q:RQ}(h:EST.O w a b vs q)(ha:a'<=a)(hb:b<=b')(hw:b'<=w.heap.size):EST.O w a' b' vs q:=by obtain⟨h0,_,A,c,e,hk⟩:=h;exact⟨by omega,hw,A,c,e,λw2 h2=>hk w2 λk k1 k2=>h2 k (by omega) (by omega)⟩
theorem Yi(p:Int)(l:List Nd)(A:Option Addr)(c:Nat)(w:World)(h:bW EN w A l):
 Calls prog 20 #[.int .i64 p,.agg #[.slice A l.length c]] w λe w'=>∃(x:iK) (A':Option Addr) (c':Nat) (b:Bool),e=.returned (.tuple #[.agg #[.int .i64 x.l,.int .i64 x.r,.slice A' x.b.length c'],.bool b])/\(x,b)=rtU p l/\j_ w' A' x.b/\Ex w w':=by
 have H:=axj h;have hNb:=h.1;have cG:=λ(W:World) (x:Ex w W)=>XK p l A c W (h.ex x)
 have cS:=λ(W:World) (x:Ex w W)=>LC l A c W (h.ex x)
 obtain⟨N,hN⟩:=xq l.length;have HN:=axj hN;rw[hN]at hNb cG cS⊢;clear hN h;obtain⟨W0,hW0,x0,d0,s0⟩:=VB.an w 33 #[.slice A N c] rfl;obtain⟨W1,hW1,x1,d1,s1⟩:=VB.an W0 28 #[.int .i64 0,.int .i64 0,.slice none 0 0] s0;have D0:=d0.ex x1;have X1:=x0.trans x1;have q0:=D0.c0;have cG:=cG W1 X1;clear x0 x1 d0;cases hok:sZ p l with
 |false=>
  have Xa:=axj (Yb hok);rw[hok]at cG;clear hok;go_enter Tryz.func20,Tryz.ntmps20
  go_wp2_with fail
  refine cG.mono ?_;rintro e w2 ⟨rfl,x2⟩;have V2:=d1.ex x2;have X2:=X1.trans x2;obtain⟨dd,zr⟩:=V2.l8 (.int .i64 0) (.int .i64 0) (.slice none 0 0);obtain⟨r0,r1,r2⟩:=V2.d3;obtain⟨f0,f1,f2⟩:=V2.z3;obtain⟨C0,C1,C2⟩:=dd.d3;have eF:=(X2).aK zr (by omega);go_wp2_with fail
  refine axu (v:=.tuple #[.agg #[.int .i64 0,.int .i64 0,.slice none 0 0],.bool false]) (by simp[results,Tryz.results20,go_sem,C0,C1,C2]) rfl ?_;exact⟨⟨0,0,[]⟩,none,0,false,rfl,Xa.out.symm,j_.nil _ _,eF⟩
 |true=>
  have zU:=axj hok;have hF:av p=true:=by unfold sZ at hok;rw[axU]at hok;exact hok.1
  rw[hok]at cG;have hT:=(f_ hok).1;have E_:=yh hT;rw[show l.length=N from HN.out]at E_;rw[hT]at cS;clear hok hT;go_enter Tryz.func20,Tryz.ntmps20
  go_wp2_with fail
  refine cG.mono ?_;rintro e w2 ⟨rfl,x2⟩;have V2:=d1.ex x2;have X2:=X1.trans x2;have q0:=(D0.ex x2).c0;have z2:=x2.size;go_wp2_with fail
  refine(cS w2 X2).mono ?_;rintro e w3 ⟨F,fn,fc,I,GK,ic,O,on,oc,rfl,x3,hK⟩;obtain⟨Il,Ol,ci,co,ei,eo,fI,fO,lI,lO,ajV⟩:=hK (by first|trivial|rfl);have ei:=ei.symm;have eo:=eo.symm;subst ei eo;have V3:=V2.ex x3;have X3:=X2.trans x3;have z3:=x3.size;have ak2:=axj ajV;have rI:=axj fI.rd;have rO:=axj fO.rd;have HIl:=axj lI;have HOl:=axj lO;clear hK ajV fI fO lI lO cS cG;obtain⟨y4,d4,W4,zZ⟩:=VB.al w3 66 #[.slice F fn fc,.slice I N ic,.slice O N oc];rw[zZ]at y4 d4;have q0:=(((D0.ex x2).ex x3).ex y4).c0;have V4:=V3.ex y4;have X4:=X3.trans y4;have z4:=y4.size;go_wp2_with fail
  clear q0;go_loopw [27] (λs27 wr=>∃(k:Nat) (st:List RQ),k<=N/\s27=.int .i64 k/\Hid (jR p (l.take k) []=some st)/\Hid (ny (l.take k) []=some (xS st))/\Hid (kg (hF:=hF) k st)/\Ex W4 wr) (λs27 _=>N-(intOf s27).toNat)
  case atStart=>exact⟨0,[],axq _,rfl,axj rfl,axj rfl,axj trivial,aCQ _⟩
  case round=>
   rename World=>wi;obtain⟨k,st,hk,rfl,HR,HS,HG,he⟩:=hrel;by_cases hlt:k<N
   .obtain⟨n,hn⟩:∃n,l[k]?=some n:=⟨_,axn (by rw[HN.out];exact hlt)⟩;obtain⟨sT,hsT⟩:=ak2.out k hlt;obtain⟨gI,oI,a,eI,ha,hgI,hcI⟩:=((rI.out.ex y4).ex he).at_ (k:=k) (by rw[HIl.out];exact hlt);obtain⟨gO,oO,b,eO,hb,hgO,hcO⟩:=((rO.out.ex y4).ex he).at_ (k:=k) (by rw[HOl.out];exact hlt);subst eI eO;have ea:Il.getD k 0=a:=by rw[axt,ha];rfl
    have eb:Ol.getD k 0=b:=by rw[axt,hb];rfl
    rw[ea,eb]at hsT;have hbd:=ab2 (λu hu=>by simp at hu) hsT (a,b) (by simp);have hab:(0<=a/\a<=12)/\(0<=b/\b<=12):=hbd;have hw1:IntKind.i64.wrap (a+b)=a+b:=axC _ (by omega);have e1:=(d4.ex he).c1;have e2:=(d4.ex he).c2;have hk0:(0:Int)<=(k:Int):=by omega
    have hkN:(k:Int)<(N:Int):=by omega
    have Ve:=V4.ex he;have Xe:=X4.trans he;rcases adA zU.out hn HR.out HS.out HG.out hsT with⟨ai1,hno⟩|⟨ai1,st',h1,h2,h3⟩
    .have Xa:=axj (L_ hno);have ai0:(12:Int)<a+b:=ai1;clear ha hb ea eb hsT hbd hn hno;go_wp2_with fail
     go_quiet (fail)
     generalize hWq:World.drewN wi _=wq;have eq:Ex wi wq:=by rw[<-hWq];exact(aCQ wi).drewN _
     have Vq:=Ve.ex eq;have Xq:=Xe.trans eq;have zq:=Xe.size;clear hWq;obtain⟨dd,zr⟩:=Vq.l8 (.int .i64 0) (.int .i64 0) (.slice none 0 0);obtain⟨r0,r1,r2⟩:=Vq.d3;obtain⟨f0,f1,f2⟩:=Vq.z3;obtain⟨C0,C1,C2⟩:=dd.d3;have eF:=(Xq).aK zr (by omega);go_wp2_with fail
     refine axu (v:=.tuple #[.agg #[.int .i64 0,.int .i64 0,.slice none 0 0],.bool false]) (by simp[results,Tryz.results20,go_sem,C0,C1,C2]) rfl ?_;exact⟨⟨0,0,[]⟩,none,0,false,rfl,Xa.out.symm,j_.nil _ _,eF⟩
    .have H1:=axj h1;have H2:=axj h2;have H3:=axj h3;have ai0:¬((12:Int)<a+b):=by omega
     clear ha hb ea eb hsT hbd hn h1 h2 h3;go_wp2_with fail
     go_quiet (fail)
     go_wp2_with fail
     go_roundw;case rel=>exact⟨k+1,st',by omega,by go_num,H1,H2,H3,he.drewN _⟩
     case measure=>simp[intOf];omega
   .obtain rfl:k=N:=by omega
    have apP:=axj (show jR p l []≠none from λhno=>by
     have hr:=HR.out;rw[<-HN.out,axE,hno]at hr;cases hr)
    have Ve:=V4.ex he;have Xe:=X4.trans he;have q0:=((((D0.ex x2).ex x3).ex y4).ex he).c0;have oL:=GE.nil EST 28 wi (w.heap.size+1+1) wi.heap.size;have ze:=Xe.size;have ze4:=he.size;clear HR HS HG;go_wp2_with fail
    clear q0 V2 V3 V4 X2 X3 X4 D0 d1 d4 rI rO ak2 HIl HOl hW0 hW1 zZ;go_loopw [9,47] (λs9 s47 wr=>∃(j:Nat) (st:List RQ),j<=k/\s47=.int .i64 j/\Hid (jR p (l.take j) []=some st)/\Hid (ny (l.take j) []=some (xS st))/\Hid (kg (hF:=hF) j st)/\st.length<=j/\GE EST 28 wr (w.heap.size+1+1) wr.heap.size s9 st.reverse/\VB wr (w.heap.size+1) 28 #[.int .i64 0,.int .i64 0,.slice none 0 0]/\w.heap.size+1+1<=wr.heap.size/\Ex w wr) (λ_ s47 _=>k-(intOf s47).toNat)
    case atStart=>exact⟨0,[],axq _,rfl,axj rfl,axj rfl,axj trivial,axk _,oL,Ve,by omega,Xe⟩
    case round=>
     rename World=>wj;clear oL Ve Xe he ze ze4 y4 x3 x2 X1 z2 z3 z4 s0 s1 hk hlt;obtain⟨j,st,hj,rfl,HR,HS,HG,hlen,hge,V1,hsz,he⟩:=hrel;by_cases hlt:j<k
     .obtain⟨g,off,n,eA,hn,q0,q1,q2⟩:=(H.out.ex he).node (by rw[HN.out];exact hlt);subst eA;have Hn:=axj hn;obtain⟨A6,c6,rfl⟩:=hge.kH;obtain⟨m,hm⟩:=xq st.reverse.length;have HM:=axj hm;have hmk:m<=j:=by rw[<-hm,ayc];exact hlen
      rw[hm]at hge⊢;have ahn:=axj (show∃q s,jJ p st n=some (q::s)/\jR p (l.take (j+1)) []=some (q::s)/\ny (l.take (j+1)) []=some (xS (q::s))/\kg (hF:=hF) (j+1) (q::s)from by
       rcases kW zU.out Hn.out HR.out HS.out HG.out with⟨h1,_⟩|h1
       .have hr1:=nJ (p:=p) Hn.out [];rw[HR.out]at hr1;have hr1:jR p (l.take (j+1)) []=jJ p st n:=hr1;rw[h1]at hr1;exact absurd (Au hr1) apP.out
       .exact h1)
      obtain⟨W5,hW5,y4,n2,s5⟩:=VB.an wj 70 #[.int .i64 n.kd,.int .i64 n.vl,.string n.nm] rfl;obtain⟨e0,e1,e2⟩:=n2.d3;have V5:=V1.ex y4;have X5:=he.trans y4;clear hn hm;by_cases hjn:n.kd=15∨n.kd=16
      .obtain⟨b,a,s,rfl,hmid⟩:=KG zU.out Hn.out HS.out hjn;obtain⟨m0,hm0⟩:=xq s.length;have hmm:m=m0+2:=by rw[<-HM.out];simp[hm0]
       obtain⟨m1,hm1⟩:=xq (m0+1);have Q_:IntKind.i64.wrap ((m:Int)-1)=(m1:Int):=by rw[axC _ (by omega)];omega
       have hwb:IntKind.i64.wrap ((m:Int)-2)=(m0:Int):=by rw[axC _ (by omega)];omega
       have hb0:m0<m:=by omega
       have hb1:m1<m:=by omega
       have Ff:=GE.afj rdP.Da hge;rw[hm0,hm1]at Ff;obtain⟨gS,cS,A,ca,D,cd,e6,a0,a1,a2,aR,b0,b1,b2,bR⟩:=Ff;injection e6 with e6 e7 e8;subst e6 e8;obtain⟨_,c7,e9,hc7,_⟩:=hge.form (λh=>by cases h);injection e9 with e9a e9b e9;subst e9;have hc8:m<=c6:=by rw[e9b];exact hc7
       clear e9a e9b;have gC:=hge.aaP m0 (by omega);have a0:=af y4 a0;have a1:=af y4 a1;have a2:=af y4 a2;have b0:=af y4 b0;have b1:=af y4 b1;have b2:=af y4 b2;have aR:=aR.ex y4;have bR:=bR.ex y4;have HMM:=axj hmm;have HM0:=axj hm0;have HM1:=axj hm1;obtain⟨db,ajO,hbD,ac4,da,had,K_,ac6,hgs⟩:=HG.out;have HA:=axj K_;have HB:=axj hbD;have gA:=axj (K_.gd.mono (show da+1<=512 by omega));have gB:=axj (hbD.gd.mono (show db+1<=512 by omega));have wA:=axj K_.wid;have wB:=axj hbD.wid;have lA:=K_.len;have lB:=hbD.len;have pA:=axj K_.pos;have pB:=axj hbD.pos;obtain⟨nA,ZI⟩:=xq a.b.length;obtain⟨nB,ZH⟩:=xq b.b.length;have HNA:=axj ZI;have HNB:=axj ZH;rw[ZI]at a2 lA;rw[ZH]at b2 lB;have Wi:GE EST 28 wj (w.heap.size+1+1) wj.heap.size (.slice (some ⟨gS,0,none⟩) m0 c6) s.reverse:=by
        have:(b::a::s).reverse.take m0=s.reverse:=by rw[<-HM0.out];simp
        rw[<-this];exact gC
       have ajt:m0<=c6:=by omega
       have HJN:=axj hjn;have apD:=axj hmid;have bj:(n.kd !=15&&n.kd !=16)=false:=by rcases hjn with h|h<;>simp[h]
       have HS2:∀W,Ex W5 W->(Ex W5 W/\W.cell? ⟨gS,m0*3,none⟩=some (.int .i64 a.l)/\W.cell? ⟨gS,m0*3+1,none⟩=some (.int .i64 a.r)/\W.cell? ⟨gS,m0*3+2,none⟩=some (.slice A nA ca)/\W.cell? ⟨gS,m1*3,none⟩=some (.int .i64 b.l)/\W.cell? ⟨gS,m1*3+1,none⟩=some (.int .i64 b.r)/\W.cell? ⟨gS,m1*3+2,none⟩=some (.slice D nB cd)):=λW h=>⟨h,af h a0,af h a1,af h a2,af h b0,af h b1,af h b2⟩
       have hK:(n.kd=15/\(n.kd !=15)=false)∨(n.kd=16/\(n.kd !=15)=true/\(n.kd !=16)=false):=by
        rcases hjn with h|h
        .exact .inl ⟨h,by simp[h]⟩
        .exact .inr ⟨h,by simp[h],by simp[h]⟩
       clear bj hjn hmid gC hge hgs K_ hbD ZI ZH hmm hm0 hm1 e7;rcases hK with⟨acZ,hK1⟩|⟨agm,hK1,hK2⟩
       .have hmd:=apD.out acZ;have hstep:jJ p (b::a::s) n=if a.l+b.r<=12 then some (⟨a.l,b.r,(au p).oo a.l a.r b.r a.b b.b⟩::s)else none:=by unfold jJ;rw[axl acZ]
        have aeB:a.r+b.r<=12:=by rw[hmd];exact ac4
        have hBm:mX hF (a.r+b.r) db b.b:=by rw[hmd];exact HB.out
        have hkr:=(HA.out.ker hBm).mono (show da+db+1<=3000000 by omega);have hcm:=adm HA.out hBm;obtain⟨RR,hRR⟩:=xq ((au p).oo a.l a.r b.r a.b b.b);rw[hRR]at hstep hcm;obtain⟨q',s',hq1,hq2,hq3,hq4⟩:=ahn.out;have hfit:a.l+b.r<=12:=by
         rw[hstep]at hq1;split at hq1
         .rename_i h;exact h
         .cases hq1
        rw[hstep,axl hfit]at hq1;injection hq1 with hq1;injection hq1 with e1' e2';subst e1' e2';have cC:=λ(W:World) (hA:j_ W A a.b) (hB:j_ W D b.b)=>Me p a.l a.r b.r a.b b.b A D ca cd W hA hB (by rw[HNA.out];omega) (by rw[HNB.out];omega) ac6 aeB hfit wA.out hBm.wid hF gA.out gB.out hkr
        rw[HNA.out,HNB.out,hcm]at cC;have HMD:=axj hmd;clear hkr hcm hRR hBm hstep hmd aeB hfit;have HQ2:=axj hq2;have HQ3:=axj hq3;have HQ4:=axj hq4;have b15:(n.kd==15)=true:=by simp[acZ]
        clear hq2 hq3 hq4 acZ;go_wp2_with fail
        go_cut [12,13]from 65 to 76 (λs12 s13 W=>∃(g1 g2:Nat),s12=.pointer (some ⟨g1,0,none⟩)/\s13=.pointer (some ⟨g2,0,none⟩)/\VB W g1 28 #[.int .i64 a.l,.int .i64 a.r,.slice A nA ca]/\VB W g2 28 #[.int .i64 b.l,.int .i64 b.r,.slice D nB cd]/\W5.heap.size<=g1/\W5.heap.size<=g2/\Ex W5 W)
        case first=>
         go_region_held3 (λW=>Ex W5 W/\W.cell? ⟨gS,m0*3,none⟩=some (.int .i64 a.l)/\W.cell? ⟨gS,m0*3+1,none⟩=some (.int .i64 a.r)/\W.cell? ⟨gS,m0*3+2,none⟩=some (.slice A nA ca)/\W.cell? ⟨gS,m1*3,none⟩=some (.int .i64 b.l)/\W.cell? ⟨gS,m1*3+1,none⟩=some (.int .i64 b.r)/\W.cell? ⟨gS,m1*3+2,none⟩=some (.slice D nB cd)) (first
          |(exact HS2 _ (by repeat (first|exact aCQ _|refine Ex.drew ?_|refine Ex.alloc ?_ _|refine Ex.setCell ?_ (by simp) _)))) (first
          |(fail))
         all_goals
          go_wp2_with fail
          go_meet
          first
           |exact⟨_,_,rfl,rfl,(bA W5 _ _ _ s5).1,(bA W5 _ _ _ s5).2.1,(bA W5 28 #[] #[] s5).2.2.1,(bA W5 28 #[] #[] s5).2.2.2.1,(bA W5 _ _ _ s5).2.2.2.2⟩
           |exact⟨_,_,rfl,rfl,(bA W5 _ _ _ s5).2.1,(bA W5 _ _ _ s5).1,(bA W5 28 #[] #[] s5).2.2.2.1,(bA W5 28 #[] #[] s5).2.2.1,(bA W5 _ _ _ s5).2.2.2.2⟩
        case rest=>
         obtain⟨W6,rfl⟩:∃q,q=wc:=⟨_,rfl⟩;obtain⟨g1,g2,rfl,rfl,v1,v2,hg1,hg2,x6⟩:=hcut;obtain⟨A0,A1,A2⟩:=v1.d3;obtain⟨B0,B1,B2⟩:=v2.d3;have cC:=cC W6 (aR.ex x6) (bR.ex x6);have e0:=(n2.ex x6).c0;have V6:=V5.ex x6;have X6:=X5.trans x6;have z6:=x6.size;rw[<-HMD.out]at B0;clear a0 a1 a2 b0 b1 b2 e1 e2 q0 q1 q2 n2 HS2;go_wp2_with fail
         refine cC.mono ?_;rintro e w9 ⟨A9,c9,rfl,hR9,x9⟩;have z9:=x9.size;have V9:=V6.ex x9;have X9:=X6.trans x9;have g9:=(Wi.ex (y4.trans x6)).ex x9;have hE:=EST.M_ (q:=⟨a.l,b.r,RR⟩) (A:=A9) (c:=c9) (a:=wj.heap.size) (by omega) (by omega) hR9;have IQ:s.length+1<=j/\j<=400:=by rw[HM0.out];have:=HMM.out;omega
         obtain⟨v',w',hrun,hgN,_,hblk,IV⟩:=nU g9 (q:=⟨a.l,b.r,RR⟩) (y:=.slice A9 RR.length c9) (a:=wj.heap.size) (by omega) hE (axk _) (by omega) (axk _) (by omega) (by rw[ayc];omega);have XN:=IV w X9 (by omega);have VN:VB w' (w.heap.size+1) 28 #[.int .i64 0,.int .i64 0,.slice none 0 0]:=(hblk _ (by omega) V9.lt).trans V9;have zN:w.heap.size+1+1<=w'.heap.size:=by have:=VN.lt;omega
         rw[<-ay_]at hgN;clear IV hblk g9 hE V9;go_wp2_with (at_builtin;refine wpList_append_run rfl _ _ _ rfl rfl rfl hrun ?_)
         go_roundw;case rel=>exact⟨j+1,_,by omega,by go_num,HQ2,HQ3,HQ4,by rw[axR];omega,hgN,VN,zN,XN⟩
         case measure=>simp[intOf];omega
       .have aeu:¬n.kd=15:=by omega
        have hstep:jJ p (b::a::s) n=if(a.l+b.l)+(a.r+b.r)<=12 then some (⟨a.l+b.l,a.r+b.r,(au p).aC ((a.l+b.l)+(a.r+b.r)) (nu a.l a.r b.l b.r a.b b.b)⟩::s)else none:=by unfold jJ;rw[axm aeu,axl agm]
        obtain⟨LL,hLL⟩:=xq (a.l+b.l);obtain⟨LR,hLR⟩:=xq (a.r+b.r);obtain⟨RR,hRR⟩:=xq ((au p).aC ((a.l+b.l)+(a.r+b.r)) (nu a.l a.r b.l b.r a.b b.b));rw[hRR]at hstep;obtain⟨q',s',hq1,hq2,hq3,hq4⟩:=ahn.out;have hfit:(a.l+b.l)+(a.r+b.r)<=12:=by
         rw[hstep]at hq1;split at hq1
         .rename_i h;exact h
         .cases hq1
        rw[hstep,axl hfit]at hq1;injection hq1 with hq1;injection hq1 with e1' e2';subst e1' e2';have cC:=λ(W:World) (hA:j_ W A a.b) (hB:j_ W D b.b)=>Qh p a.l a.r b.l b.r a.b b.b A D ca cd W hA hB (by rw[HNA.out];omega) (by rw[HNB.out];omega) hfit wA.out wB.out pA.out pB.out hF gA.out gB.out
        rw[HNA.out,HNB.out,hRR,hLL,hLR]at cC;rw[hLL,hLR]at hq2 hq3 hq4;clear hRR hLL hLR aeu hstep hfit;have HQ2:=axj hq2;have HQ3:=axj hq3;have HQ4:=axj hq4;have b15:(n.kd==15)=false:=by simp[agm]
        clear hq2 hq3 hq4 agm;go_wp2_with fail
        go_cut [12,13]from 65 to 76 (λs12 s13 W=>∃(g1 g2:Nat),s12=.pointer (some ⟨g1,0,none⟩)/\s13=.pointer (some ⟨g2,0,none⟩)/\VB W g1 28 #[.int .i64 a.l,.int .i64 a.r,.slice A nA ca]/\VB W g2 28 #[.int .i64 b.l,.int .i64 b.r,.slice D nB cd]/\W5.heap.size<=g1/\W5.heap.size<=g2/\Ex W5 W)
        case first=>
         go_region_held3 (λW=>Ex W5 W/\W.cell? ⟨gS,m0*3,none⟩=some (.int .i64 a.l)/\W.cell? ⟨gS,m0*3+1,none⟩=some (.int .i64 a.r)/\W.cell? ⟨gS,m0*3+2,none⟩=some (.slice A nA ca)/\W.cell? ⟨gS,m1*3,none⟩=some (.int .i64 b.l)/\W.cell? ⟨gS,m1*3+1,none⟩=some (.int .i64 b.r)/\W.cell? ⟨gS,m1*3+2,none⟩=some (.slice D nB cd)) (first
          |(exact HS2 _ (by repeat (first|exact aCQ _|refine Ex.drew ?_|refine Ex.alloc ?_ _|refine Ex.setCell ?_ (by simp) _)))) (first
          |(fail))
         all_goals
          go_wp2_with fail
          go_meet
          first
           |exact⟨_,_,rfl,rfl,(bA W5 _ _ _ s5).1,(bA W5 _ _ _ s5).2.1,(bA W5 28 #[] #[] s5).2.2.1,(bA W5 28 #[] #[] s5).2.2.2.1,(bA W5 _ _ _ s5).2.2.2.2⟩
           |exact⟨_,_,rfl,rfl,(bA W5 _ _ _ s5).2.1,(bA W5 _ _ _ s5).1,(bA W5 28 #[] #[] s5).2.2.2.1,(bA W5 28 #[] #[] s5).2.2.1,(bA W5 _ _ _ s5).2.2.2.2⟩
        case rest=>
         obtain⟨W6,rfl⟩:∃q,q=wc:=⟨_,rfl⟩;obtain⟨g1,g2,rfl,rfl,v1,v2,hg1,hg2,x6⟩:=hcut;obtain⟨A0,A1,A2⟩:=v1.d3;obtain⟨B0,B1,B2⟩:=v2.d3;have cC:=cC W6 (aR.ex x6) (bR.ex x6);have e0:=(n2.ex x6).c0;have V6:=V5.ex x6;have X6:=X5.trans x6;have z6:=x6.size;clear a0 a1 a2 b0 b1 b2 e1 e2 q0 q1 q2 n2 HS2;go_wp2_with fail
         refine cC.mono ?_;rintro e w9 ⟨A9,c9,rfl,hR9,x9⟩;have z9:=x9.size;have V9:=V6.ex x9;have X9:=X6.trans x9;have g9:=(Wi.ex (y4.trans x6)).ex x9;have hE:=EST.M_ (q:=⟨LL,LR,RR⟩) (A:=A9) (c:=c9) (a:=wj.heap.size) (by omega) (by omega) hR9;have IQ:s.length+1<=j/\j<=400:=by rw[HM0.out];have:=HMM.out;omega
         obtain⟨v',w',hrun,hgN,_,hblk,IV⟩:=nU g9 (q:=⟨LL,LR,RR⟩) (y:=.slice A9 RR.length c9) (a:=wj.heap.size) (by omega) hE (axk _) (by omega) (axk _) (by omega) (by rw[ayc];omega);have XN:=IV w X9 (by omega);have VN:VB w' (w.heap.size+1) 28 #[.int .i64 0,.int .i64 0,.slice none 0 0]:=(hblk _ (by omega) V9.lt).trans V9;have zN:w.heap.size+1+1<=w'.heap.size:=by have:=VN.lt;omega
         rw[<-ay_]at hgN;clear IV hblk g9 hE V9;go_wp2_with (at_builtin;refine wpList_append_run rfl _ _ _ rfl rfl rfl hrun ?_)
         go_roundw;case rel=>exact⟨j+1,_,by omega,by go_num,HQ2,HQ3,HQ4,by rw[axR];omega,hgN,VN,zN,XN⟩
         case measure=>simp[intOf];omega
      .have zh:¬n.kd=15:=λh=>hjn (.inl h)
       have h16:¬n.kd=16:=λh=>hjn (.inr h)
       have b15:(n.kd !=15)=true:=by simpa using zh
       have b16:(n.kd !=16)=true:=by simpa using h16
       obtain⟨T,hT,hstep,_,_⟩:=Oy zU.out Hn.out HS.out zh h16;have cL:=λ(W:World)=>Yo p n T W hF hT ((f_ zU.out).2 n (axo Hn.out))
       obtain⟨L0,hL0⟩:=xq T.1.toNat;obtain⟨L1,hL1⟩:=xq T.2.toNat;obtain⟨RR,hRR⟩:=xq (gU p n);rw[hL0,hL1,hRR]at hstep cL;obtain⟨q',s',hq1,hq2,hq3,hq4⟩:=ahn.out;have hfit:L0+L1<=12:=by
        rw[hstep]at hq1;split at hq1
        .rename_i h;exact h
        .cases hq1
       rw[hstep,axl hfit]at hq1;injection hq1 with hq1;injection hq1 with e1' e2';subst e1' e2';have HQ2:=axj hq2;have HQ3:=axj hq3;have HQ4:=axj hq4;clear hq2 hq3 hq4 hstep hRR hT hL0 hL1 hjn zh h16 hfit;go_wp2_with fail
       refine(cL W5).mono ?_;rintro e w9 ⟨y,rfl,o9,x9⟩;obtain⟨_,_,A9,c9,ey,_⟩:=id o9;injection ey with _ ey;injection ey with _ ey;injection ey with ey _;subst ey;have z9:=x9.size;have V9:=V5.ex x9;have X9:=X5.trans x9;have g9:=(hge.ex y4).ex x9;have hE:=EST.amU o9 (show wj.heap.size<=W5.heap.size by omega) (axk _) (axk _);have IQ:st.length+1<=j+1/\j<=400:=by omega
       obtain⟨v',w',hrun,hgN,_,hblk,IV⟩:=nU g9 (q:=⟨L0,L1,RR⟩) (y:=.slice A9 RR.length c9) (a:=wj.heap.size) (by omega) hE (axk _) (by omega) (axk _) (by omega) (by rw[ayc];omega);have XN:=IV w X9 (by omega);have VN:VB w' (w.heap.size+1) 28 #[.int .i64 0,.int .i64 0,.slice none 0 0]:=(hblk _ (by omega) V9.lt).trans V9;have zN:w.heap.size+1+1<=w'.heap.size:=by have:=VN.lt;omega
       rw[<-ay_]at hgN;clear IV hblk g9 hE V9;go_wp2_with (at_builtin;refine wpList_append_run rfl _ _ _ rfl rfl rfl hrun ?_)
       go_roundw;case rel=>exact⟨j+1,_,by omega,by go_num,HQ2,HQ3,HQ4,by rw[axR];omega,hgN,VN,zN,XN⟩
       case measure=>simp[intOf];omega
     .obtain rfl:j=k:=by omega
      have hk0:l.take j=l:=by rw[<-HN.out,axE]
      obtain⟨w0,hw0⟩:=CW (f_ zU.out).1;have hs:=HS.out;have hr:=HR.out;rw[hk0]at hs hr;rw[hw0]at hs;injection hs with hs;obtain⟨q,rfl⟩:∃q,st=[q]:=by
       match st,hs with
       |[q],_=>exact⟨q,rfl⟩
      have HU:=axj (D_ zU.out (show qg p l=some q by unfold qg;rw[hr]));obtain⟨g,cc,A1,ca,a1,b1,rfl,p0,p1,p2,lo1,hi1,pR⟩:=hge.stk (j:=0) (q:=q) rfl;rw[Nat.zero_mul]at p0 p1 p2;obtain⟨dd,zr⟩:=V1.l8 (.int .i64 q.l) (.int .i64 q.r) (.slice A1 q.b.length ca);obtain⟨r0,r1,r2⟩:=V1.d3;obtain⟨f0,f1,f2⟩:=V1.z3;obtain⟨C0,C1,C2⟩:=dd.d3;have eF:=he.aK zr (by omega);have hRF:j_ _ A1 q.b:=(pR _ λi i1 i2=>zr.block i i2 (λe=>by injection e;omega)).Da;clear hge hs hr hw0 hk0 pR;go_wp2_with fail
      refine axu (v:=.tuple #[.agg #[.int .i64 q.l,.int .i64 q.r,.slice A1 q.b.length ca],.bool true]) (by simp[results,Tryz.results20,go_sem,C0,C1,C2]) rfl ?_;exact⟨⟨q.l,q.r,q.b⟩,A1,ca,true,rfl,HU.out.symm,hRF,eF⟩
section
section
variable {p : Int} {hF : av p = true} {l : List Nd}
theorem Un(hok:sZ p l=true):∀k,k<=l.length->∀st,jR p (l.take k) []=some st->ny (l.take k) []=some (xS st)/\kg (hF:=hF) k st
 |0,_,st,h=>by injection h with h;subst h;exact⟨rfl,trivial⟩
 |k+1,hk,st,h=>by
  obtain⟨n,hn⟩:∃n,l[k]?=some n:=⟨_,axn (by omega)⟩;cases hr:jR p (l.take k) []with
  |none=>have hr1:=nJ (p:=p) hn [];rw[hr,h]at hr1;cases hr1
  |some s0=>
   obtain⟨h1,h2⟩:=Un hok k (by omega) s0 hr;rcases kW hok hn hr h1 h2 with⟨h3,_⟩|⟨q,s,_,h4,h5,h6⟩
   .have hr1:=nJ (p:=p) hn [];rw[hr,h]at hr1;have hr1:some st=jJ p s0 n:=hr1;rw[h3]at hr1;cases hr1
   .rw[h]at h4;injection h4 with h4;subst h4;exact⟨h5,h6⟩
theorem agY(hF:av p=true)(hok:sZ p l=true){q:RQ}(hq:qg p l=some q):∃d,d<=400/\mX hF (q.l+q.r) d q.b/\q.l+q.r<=12:=by
 have hr:jR p l []=some [q]:=by
  unfold qg at hq;split at hq
  .rename_i q' e;injection hq with hq;subst hq;exact e
  .cases hq
 have:=Un (hF:=hF) hok l.length (axk _) [q] (by rw[axE];exact hr);obtain⟨_,d,h1,h2,h3,_⟩:=this;have:=yh (f_ hok).1;exact⟨d,by omega,h2,h3⟩
theorem ady{d:Nat}{L:List (List aG)}(h:mX hF n d L):Dx (au p) n L:=by
 obtain⟨M,rfl,h2,_⟩:=h;have hinj:∀a b:xX p,a.val=b.val->a=b:=λa b=>axS
 exact((mV p hF).rrp hinj).2 ((yB _).2 h2)
theorem Um(hF:av p=true)(hok:sZ p l=true){q:RQ}(hq:qg p l=some q):U6 p ⟨q.l,q.r,q.b⟩=SG p q.l q.r q.b:=by
 obtain⟨d,_,h2,_⟩:=agY hF hok hq;have hR:=ady h2;have e:((q.l:Int)+(q.r:Int)).toNat=q.l+q.r:=by omega
 rw[ayB,rW];unfold SG;rw[axU,axU];refine⟨λh=>⟨h.2.1,h.2.2.1,hF⟩,λh=>⟨hF,h.1,h.2.1,?_⟩⟩;show Dx (au p) ((q.l:Int)+(q.r:Int)).toNat q.b;rw[e];exact hR
theorem OA{t:Tm}(h:(rtU p t.ns).2=true):ifU p (rtU p t.ns).1=bF p t:=by
 cases hok:sZ p t.ns with
 |false=>rw[Yb hok]at h;cases h
 |true=>
  have hF:av p=true:=by have:=hok;unfold sZ at this;rw[axU]at this;exact this.1
  cases hq:qg p t.ns with
  |none=>rw[L_ hq]at h;cases h
  |some q=>rw[D_ hok hq,wo hok hq];unfold ifU;rw[Um hF hok hq]
theorem Oz{t:Tm}(h:(rtU p t.ns).2=false):bF p t=(⟨0,0,[]⟩,false):=by
 cases hok:sZ p t.ns with
 |false=>exact Dp hok
 |true=>
  cases hq:qg p t.ns with
  |none=>exact nM hq
  |some q=>rw[D_ hok hq]at h;cases h
theorem FM(p:Int)(t:Tm):eZ (bF p t).1.b<=1125899906842624:=by
 cases h:(rtU p t.ns).2 with
 |false=>rw[Oz h];show(0:Int)<=_;omega
 |true=>rw[<-OA h];exact acP _ _
end
theorem iC(p:Int)(x:Tm)(v0:Value)(w:World)(h:CP w v0 x)(ht:Tb w):
 Calls prog 9 #[.int .i64 p,.agg #[v0]] w λe w'=>∃y0,e=.returned (.tuple #[.agg #[.int .i64 (bF p x).1.l,.int .i64 (bF p x).1.r,y0],.bool (bF p x).2])/\oG w' w.heap.size w'.heap.size y0 (bF p x).1/\Ex w w':=by
 obtain⟨⟨A,c,rfl,h⟩,_⟩:=h;have HT:=axj (FM p x);obtain⟨ns⟩:=x;dsimp only at h⊢;have cO:=λ(W:World) (y:Ex w W)=>Zw p ns A c W (h.ex y) (ht.ex y)
 have cD:=λ(W:World) (y:Ex w W) (hF:av p=true) (hok:sZ p ns=true)=>Bn p ns A c W hF (h.ex y) hok (ht.ex y)
 obtain⟨N,hN⟩:=xq ns.length;rw[hN]at cO cD⊢;obtain⟨W0,hW0,x0,d0,s0⟩:=VB.an w 33 #[.slice A N c] rfl;obtain⟨W1,hW1,x1,d1,s1⟩:=VB.an W0 28 #[.int .i64 0,.int .i64 0,.slice none 0 0] s0;have D0:=d0.ex x1;have X1:=x0.trans x1;have q0:=D0.c0;have cO:=cO W1 X1;clear hN h ht;cases hok:sZ p ns with
 |false=>
  have HN:=axj (Dp (t:=⟨ns⟩) hok);rw[hok]at cO;clear hok cD;go_enter Tryz.func9,Tryz.ntmps9
  go_wp2_with fail
  refine cO.mono ?_;rintro e w2 ⟨rfl,x2⟩;have dz:=d1.ex x2;obtain⟨dd,zz⟩:=dz.l8 (.int .i64 0) (.int .i64 0) (.slice none 0 0);obtain⟨u0,u1,u2⟩:=dz.d3;obtain⟨k0,k1,k2⟩:=dz.z3;obtain⟨C0,C1,C2⟩:=dd.d3;have eF:=(X1.trans x2).aK zz (by omega);go_wp2_with fail
  refine axu (v:=.tuple #[.agg #[.int .i64 0,.int .i64 0,.slice none 0 0],.bool false]) (by simp[results,Tryz.results9,go_sem,C0,C1,C2]) rfl ?_;rw[HN.out];exact⟨_,rfl,⟨w.heap.size,w.heap.size,(rQ.nil _ _ _ _ _).off (by show(0:Int)<=_;omega),axk _,eF.size⟩,eF⟩
 |true=>
  have zU:=axj hok;have hF:av p=true:=by unfold sZ at hok;rw[axU]at hok;exact hok.1
  have HF:=axj hF;rw[hok]at cO;clear hok hF;go_enter Tryz.func9,Tryz.ntmps9
  go_wp2_with fail
  refine cO.mono ?_;rintro e w2 ⟨rfl,x2⟩;have q0:=(D0.ex x2).c0;go_wp2_with fail
  refine(cD w2 (X1.trans x2) HF.out zU.out).mono ?_;rintro e w3 ⟨x,A3,c3,b,rfl,hx,o3,x3⟩;have hz2:=x2.size;have dz:=(d1.ex x2).ex x3;obtain⟨l3,r3,b3⟩:=x;dsimp only at o3⊢;obtain⟨n3,VZ⟩:=xq b3.length;have HN3:=axj VZ;have HX:=axj hx;rw[VZ]at o3⊢;clear VZ hx;obtain⟨dd,zz⟩:=dz.l8 (.int .i64 l3) (.int .i64 r3) (.slice A3 n3 c3);obtain⟨u0,u1,u2⟩:=dz.d3;obtain⟨k0,k1,k2⟩:=dz.z3;obtain⟨C0,C1,C2⟩:=dd.d3;have eF:=((X1.trans x2).trans x3).aK zz (by omega);have o4:=o3.iv (jE.aZ zz) (.inr (by omega));have zs:=zz.size;clear cD o3;go_wp2_with fail
  refine axu (v:=.tuple #[.agg #[.int .i64 l3,.int .i64 r3,.slice A3 n3 c3],.bool b]) (by simp[results,Tryz.results9,go_sem,C0,C1,C2]) rfl ?_;have hT:=HT.out;rw[<-HX.out]at hT⊢;exact⟨_,rfl,⟨_,_,o4.off hT,by omega,zs⟩,eF⟩
theorem iH(p:Int)(x:Tm)(v0:Value)(w:World)(h:CP w v0 x):
 Calls prog 7 #[.int .i64 p,.agg #[v0]] w λe w'=>∃y0,e=.returned (.tuple #[.agg #[.int .i64 (bF p x).1.l,.int .i64 (bF p x).1.r,y0],.bool (bF p x).2])/\Sj w' y0 (bF p x).1/\Ex w w':=by
 obtain⟨⟨A,c,rfl,h⟩,_⟩:=h;have HT:=axj (FM p x);have HIF:=axj (λh=>OA (p:=p) (t:=x) h);have Xa:=axj (λh=>Oz (p:=p) (t:=x) h);obtain⟨ns⟩:=x;dsimp only at h⊢;have cR:=λ(W:World) (y:Ex w W)=>Yi p ns A c W (h.ex y)
 obtain⟨N,hN⟩:=xq ns.length;rw[hN]at cR⊢;obtain⟨W0,hW0,x0,d0,s0⟩:=VB.an w 33 #[.slice A N c] rfl;obtain⟨W1,hW1,x1,d1,s1⟩:=VB.an W0 28 #[.int .i64 0,.int .i64 0,.slice none 0 0] s0;have D0:=d0.ex x1;have X1:=x0.trans x1;have q0:=D0.c0;clear hN h;go_enter Tryz.func7,Tryz.ntmps7
 go_wp2_with fail
 refine(cR W1 X1).mono ?_;rintro e w3 ⟨x,A3,c3,b,rfl,hx,o3,x3⟩;clear cR;obtain⟨l3,r3,b3⟩:=x;dsimp only at o3⊢;obtain⟨n3,VZ⟩:=xq b3.length;have HX:=axj hx;have cI:=λ(W:World) (y:Ex w3 W)=>afu p ⟨l3,r3,b3⟩ A3 c3 W (o3.1.ex y)
 dsimp only at cI;rw[VZ]at cI⊢;obtain⟨x4,d4,W4,zZ⟩:=VB.al w3 28 #[.int .i64 l3,.int .i64 r3,.slice A3 n3 c3];rw[zZ]at x4 d4;obtain⟨t0,t1,t2⟩:=d4.d3;have dz4:=(d1.ex x3).ex x4;have X4:=(X1.trans x3).trans x4;have z4:=(x3.trans x4).size;cases b with
 |false=>
  have HN:=axj (Xa.out (by rw[<-HX.out]));have dz:=dz4;obtain⟨dd,zz⟩:=dz.l8 (.int .i64 0) (.int .i64 0) (.slice none 0 0);obtain⟨u0,u1,u2⟩:=dz.d3;obtain⟨k0,k1,k2⟩:=dz.z3;obtain⟨C0,C1,C2⟩:=dd.d3;have eF:=X4.aK zz (by omega);clear hx VZ;go_wp2_with fail
  refine axu (v:=.tuple #[.agg #[.int .i64 0,.int .i64 0,.slice none 0 0],.bool false]) (by simp[results,Tryz.results7,go_sem,C0,C1,C2]) rfl ?_;rw[HN.out];exact⟨_,rfl,⟨⟨⟨none,0,rfl,⟨by simp,λj x hj=>by simp at hj⟩⟩,by show(0:Int)<=_;omega⟩,none,0,rfl,j_.nil _ _⟩,eF⟩
 |true=>
  have HY:=axj (HIF.out (by rw[<-HX.out]));have HY2:=axj (show ifU p ⟨l3,r3,b3⟩=bF p ⟨ns⟩ by
   have h1:=HY.out;have h2:=HX.out;rw[<-h2]at h1;exact h1)
  rw[HY2.out]at cI;obtain⟨U,hU⟩:=xq (bF p ⟨ns⟩);have HU:=axj hU;rw[hU]at cI;obtain⟨⟨ul,ur,ub⟩,uo⟩:=U;clear hx VZ hU;go_wp2_with fail
  refine(cI W4 x4).mono ?_;rintro e w5 ⟨A5,c5,rfl,hf5,x5⟩;dsimp only at hf5⊢;have dz:=dz4.ex x5;obtain⟨n5,hn5⟩:=xq ub.length;have HN5:=axj hn5;rw[hn5];obtain⟨dd,zz⟩:=dz.l8 (.int .i64 ul) (.int .i64 ur) (.slice A5 n5 c5);obtain⟨u0,u1,u2⟩:=dz.d3;obtain⟨k0,k1,k2⟩:=dz.z3;obtain⟨C0,C1,C2⟩:=dd.d3;have eF:=(X4.trans x5).aK zz (by omega);have hR:=(hf5 _ ((jE.aZ zz).widen (a':=0) (b':=W4.heap.size) (axq _) (by omega))).1;clear hn5 hf5 cI;go_wp2_with fail
  refine axu (v:=.tuple #[.agg #[.int .i64 ul,.int .i64 ur,.slice A5 n5 c5],.bool uo]) (by simp[results,Tryz.results7,go_sem,C0,C1,C2]) rfl ?_;rw[HU.out];have hT:=HT.out;rw[HU.out]at hT;dsimp only at hT⊢;have e5:Value.slice A5 n5 c5=Value.slice A5 ub.length c5:=by rw[HN5.out]
  exact⟨_,rfl,⟨⟨⟨A5,c5,e5,hR.1⟩,hT⟩,A5,c5,e5,hR⟩,eF⟩
end
end Go.Proofs.YthgiffhlfcmgaaaGreatDoor
