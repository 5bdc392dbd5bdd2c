/- Lemmas and walks on terms over rational functions: The juxtaposition of rational relations: the .. -/
import Derived.Test.YthgiffhlfcmgaaaGreatDoorQ10
import Derived.Test.YthgiffhlfcmgaaaGreatDoorQ12
import Derived.Laws.Rows
import Derived.Laws.Tables
import Derived.Test.YthgiffhlfcmgaaaGreatDoorQ11
namespace Go.Proofs.YthgiffhlfcmgaaaGreatDoor
open List(range)
open List(replicate)
open _root_.Go.Proofs.Tryz(prog)
set_option maxRecDepth 100000
set_option maxHeartbeats 8000000
set_option linter.all false
open Go Go.RowKit
variable{p:Int}{rows:List (List Int)}{r:List aG}{B H a b c g n:Nat}{A:Option Addr}{v:Value}{w:World}{P:World->Nat->Nat->Value->List (List aG)->Prop}{Good:World->Prop}
theorem uX.more{a' b':Nat}(h:uX Good w a b v r)(ha:a'<=a)(hb:b<=b'):uX Good w a' b' v r:=by obtain⟨ig,h1,h2⟩:=h;exact⟨ig,h1.more ha hb,h2⟩
theorem C8{n1 n2 n3 n4:Nat}{A1 A2 A3 A4:Option Addr}{c1 c2 c3 c4:Nat}{r1 r2 r3 r4:List aG}(hv:VB w g 54 #[.slice A1 n1 c1,.slice A2 n2 c2,.slice A3 n3 c3,.slice A4 n4 c4])(q1:aU Good w A1 r1)(q2:aU Good w A2 r2)(q3:aU Good w A3 r3)(q4:aU Good w A4 r4)(h1:r1.length=n1)(h2:r2.length=n2)(h3:r3.length=n3)(h4:r4.length=n4):BS Good w (some ⟨g,0,none⟩) [r1,r2,r3,r4]:=by
 subst h1 h2 h3 h4;intro j r hj;rcases j with _|_|_|_|j
 .injection hj with hj;subst hj;exact⟨g,0,A1,c1,rfl,hv.c0,q1⟩
 .injection hj with hj;subst hj;exact⟨g,0,A2,c2,rfl,hv.c1,q2⟩
 .injection hj with hj;subst hj;exact⟨g,0,A3,c3,rfl,hv.c2,q3⟩
 .injection hj with hj;subst hj;exact⟨g,0,A4,c4,rfl,hv.c3,q4⟩
 .simp at hj
theorem MI(p:Int)(al ar bl br:Nat)(a b:List (List aG))(A B:Option Addr)(ca cb:Nat)(w:World)(hA:j_ w A a)(hB:j_ w B b)(hna:a.length<=12)(hnb:b.length<=12)(hlr:(al+bl)+(ar+br)<=12)(Q_:aQ (al+ar) a)(hwb:aQ (bl+br) b)(ha0:∀v∈a,0<v.length)(hb0:∀v∈b,0<v.length)(hF:av p=true)(hga:iB p 512 a)(hgb:iB p 512 b):
 Calls prog 52 #[.int .i64 p,.agg #[.int .i64 al,.int .i64 ar,.slice A a.length ca],.agg #[.int .i64 bl,.int .i64 br,.slice B b.length cb]] w λe w'=>∃y,e=.returned (.agg #[.int .i64 ((al+bl:Nat):Int),.int .i64 ((ar+br:Nat):Int),y])/\rQ w' w.heap.size w'.heap.size y ((au p).aC ((al+bl)+(ar+br)) (nu al ar bl br a b))/\Ex w w':=by
 have Ac:=axj Q_;have Ab:=axj hwb;have HF:=axj hF;have HGa:=axj hga;have Xb:=axj hgb;have Ha0:=axj ha0;have Hb0:=axj hb0;have HA:=axj hA;have HB:=axj hB;have hla:=hA.1.1;have hlb:=hB.1.1;have hwl:IntKind.i64.wrap ((al:Int)+(bl:Int))=((al+bl:Nat):Int):=by rw[axC _ (by omega)];omega
 have hwr:IntKind.i64.wrap ((ar:Int)+(br:Int))=((ar+br:Nat):Int):=by rw[axC _ (by omega)];omega
 obtain⟨NL,IU⟩:=xq (al+bl);obtain⟨NR,hNR⟩:=xq (ar+br);rw[IU]at hwl;rw[hNR]at hwr;have Lh:=axj IU;have HNR:=axj hNR;rw[IU,hNR];have h1:al<=12/\ar<=12/\bl<=12/\br<=12:=by omega
 obtain⟨y0,d0⟩:=VB.xn w 28 #[.int .i64 al,.int .i64 ar,.slice A a.length ca];have S0:=axj (show(w.alloc (.cells #[.int .i64 al,.int .i64 ar,.slice A a.length ca] 28)).heap.size=w.heap.size+1 by simp);clear hA hB Q_ hwb hF hga hgb ha0 hb0 IU hNR;go_enter Tryz.func52,Tryz.ntmps52
 go_wp2_with fail
 generalize w.alloc (.cells #[.int .i64 al,.int .i64 ar,.slice A a.length ca] 28)=W0 at*;obtain⟨y1,d1⟩:=VB.xn W0 28 #[.int .i64 bl,.int .i64 br,.slice B b.length cb];have S1:=axj (show(W0.alloc (.cells #[.int .i64 bl,.int .i64 br,.slice B b.length cb] 28)).heap.size=w.heap.size+1+1 by simp;exact S0.out);rw[S0.out]at d1;generalize W0.alloc (.cells #[.int .i64 bl,.int .i64 br,.slice B b.length cb] 28)=W1 at*;obtain⟨y2,d2⟩:=VB.xn W1 28 #[.int .i64 0,.int .i64 0,.slice none 0 0];have S2:=axj (show(W1.alloc (.cells #[.int .i64 0,.int .i64 0,.slice none 0 0] 28)).heap.size=w.heap.size+1+1+1 by simp;exact S1.out);rw[S1.out]at d2;have qa:=(d0.ex y1).ex y2;have qb:=d1.ex y2;generalize W1.alloc (.cells #[.int .i64 0,.int .i64 0,.slice none 0 0] 28)=W2' at*;have xx:=(y0.trans y1).trans y2;clear y0 y1 y2 d0 d1;generalize hW2:W2'=W2 at*;clear hW2;have tX:=GE.empty (wK w) 54 W2 (axk W2.heap.size);have he1:=(aCQ W2).alloc (.cells #[] 54);have hs1:(W2.alloc (.cells #[] 54)).heap.size=W2.heap.size+1:=by simp
 have qa2:=(qa.ex he1).c2;go_wp2_with fail
 clear qa2;go_loopw [7,16] (λo i wr=>∃k:Nat,k<=a.length/\i=.int .i64 k/\GE (wK w) 54 wr W2.heap.size wr.heap.size o ((a.map (Jr al bl br)).take k)/\Ex W2 wr) (λ_ i _=>a.length-(intOf i).toNat)
 case atStart=>exact⟨0,axq _,rfl,by rw[hs1];first|exact tX|simpa[S2.out]using tX,he1⟩
 case round=>
  rename World=>wi;clear tX he1 hs1;obtain⟨k,hk,rfl,hge,he⟩:=hrel;have xw:=xx.trans he;have hzi:=he.size;by_cases hlt:k<a.length
  .obtain⟨g,off,row,P,pc,eA,hr,wE,hpc,hP⟩:=HA.out.at_ hlt;subst eA;have hm:=axo hr;have hr0:=Ha0.out row hm;have hrl:=Ac.out row hm;have HT:=axj (jO (f:=Jr al bl br) hr);obtain⟨g2,off2,y,_,_,_,_,eP,_⟩:=hP.iy hr0;subst eP;have b0:=af xw wE;have hdl:(row.drop al).length=row.length-al:=axF;have htl:(row.take al).length=al:=by rw[axx];omega
   have tN:((a.map (Jr al bl br)).take k).length<=k:=ax7 _ _;have Bq:=axj (Jq (bl:=bl) (br:=br) hrl);have acX:al<=pc:=by omega
   obtain⟨RL,Fh⟩:=xq row.length;rw[Fh]at b0 hpc hr0 hrl hdl;have acY:al<=RL:=by omega
   have TR:RL<=12:=by omega
   clear hr hm wE hrl Fh;by_cases hpl:pc-al=0
   .obtain rfl:al=pc:=by omega
    obtain rfl:al=RL:=by omega
    rw[ayd]at hdl;clear hpl;have Wm:row.drop al=[]:=ayp hdl;have QD:∀W,Ex w W->aU (λw2=>Ex w w2) W (some ⟨g2,off2,none⟩) (row.drop al):=λW _=>by rw[Wm];exact aU.nil _ _ _
    have QT:∀W,Ex w W->aU (λw2=>Ex w w2) W (some ⟨g2,off2,none⟩) (row.take al):=λW hW=>(aU.iU hP hW (λ_ h=>h)).tk al
    have HS:∀W,Ex wi W->(W.cell? ⟨w.heap.size,0,none⟩=some (.int .i64 al)/\W.cell? ⟨w.heap.size,1,none⟩=some (.int .i64 ar)/\W.cell? ⟨w.heap.size+1,0,none⟩=some (.int .i64 bl)/\W.cell? ⟨w.heap.size+1,1,none⟩=some (.int .i64 br)):=λW h=>⟨(qa.ex (he.trans h)).c0,(qa.ex (he.trans h)).c1,(qb.ex (he.trans h)).c0,(qb.ex (he.trans h)).c1⟩
    have af2:bl<=12/\br<=12:=by omega
    have hfl:([row.take al,replicate bl zF,row.drop al,replicate br zF]:List (List aG)).flatten=Jr al bl br row:=by simp[Jr]
    have hl12:∀r∈([row.take al,replicate bl zF,row.drop al,replicate br zF]:List (List aG)),r.length<=1000:=λr hr=>by simp only[axI,axV,or_false]at hr;rcases hr with rfl|rfl|rfl|rfl<;>first|(rw[htl];omega)|(rw[hdl];omega)|(rw[axH];omega)
    go_wp2_with fail
    go_region_held3 (λW=>W.cell? ⟨w.heap.size,0,none⟩=some (.int .i64 al)/\W.cell? ⟨w.heap.size,1,none⟩=some (.int .i64 ar)/\W.cell? ⟨w.heap.size+1,0,none⟩=some (.int .i64 bl)/\W.cell? ⟨w.heap.size+1,1,none⟩=some (.int .i64 br)) (first
     |(exact Ph)|(exact HS _ (x6.alloc _))|(exact HS _ x6)|(exact HS _ (x2.alloc _))|(exact HS _ x2)|(exact HS _ x1)|(exact HS _ (aCQ _).drew)|(exact HS _ (aCQ _))) (first
     |(go_at_call 89
       obtain⟨x24,v4⟩:=VB.xn w2 54 #[.slice (some ⟨g2,off2,none⟩) al al,.slice (some ⟨gz1,0,none⟩) bl cz1,.slice (some ⟨g2,off2,none⟩) 0 0,.slice (some ⟨gz2,0,none⟩) br cz2];have x4:=x2.trans x24;have QT4:aU (λW=>Ex w W/\∀k,wi.heap.size<=k->k<w2.heap.size->W.heap[k]?=w2.heap[k]?) _ _ _:=(QT _ (xw.trans x4)).mono λ_ h=>h.1
       have QD4:aU (λW=>Ex w W/\∀k,wi.heap.size<=k->k<w2.heap.size->W.heap[k]?=w2.heap[k]?) _ _ _:=(QD _ (xw.trans x4)).mono λ_ h=>h.1
       have R1:aU (λW=>Ex w W/\∀k,wi.heap.size<=k->k<w2.heap.size->W.heap[k]?=w2.heap[k]?) _ _ _:=((oL.rX (by simp;omega)).ex (Jj.trans x24)).mono λ_ h k a1 a2 _=>(h.2 k a1 (axD a2 Jj.size)).trans (Jj.block a2)
       have R2:aU (λW=>Ex w W/\∀k,wi.heap.size<=k->k<w2.heap.size->W.heap[k]?=w2.heap[k]?) _ _ _:=((ge2.rX (by simp;omega)).ex x24).mono λ_ h k a1 a2 _=>h.2 k (axA x1.size a1) a2
       have cC:=qZ (some ⟨w2.heap.size,0,none⟩) 4 [row.take al,replicate bl zF,row.drop al,replicate br zF] _ (C8 v4 QT4 R1 QD4 R2 htl axH hdl axH) (by simp) hl12;rw[hfl]at cC;refine cC.mono ?_;clear cC;rintro e w6 ⟨v6,rfl,rp,x46⟩;have Ji:Ex w2 w6:=x24.trans x46;have x6:Ex wi w6:=x2.trans Ji;obtain⟨A6,c6,ev6⟩:=rp.form;rw[Bq.out]at ev6;subst ev6;have hq:=(rp.more (a':=wi.heap.size) x4.size (axk _)).KA (W0:=w) (by rw[Bq.out];omega) (λW h0 hk=>⟨h0,λk a1 a2=>(hk k a1 (axD a2 Ji.size) (axD a2 Ji.size)).trans (Ji.block a2)⟩);obtain⟨v7,w7,eG,zm,_,_,wS⟩:=bO (hge.ex x6) x6.size hq (axk _) x6.size (axk _) hzi (by first|omega|(rw[axv,axs];omega));rw[<-HT.out]at zm;have x7:=wS W2 (he.trans x6) (axk _);have Ph:w7.cell? ⟨w.heap.size,0,none⟩=some (.int .i64 al)/\w7.cell? ⟨w.heap.size,1,none⟩=some (.int .i64 ar)/\w7.cell? ⟨w.heap.size+1,0,none⟩=some (.int .i64 bl)/\w7.cell? ⟨w.heap.size+1,1,none⟩=some (.int .i64 br):=⟨(qa.ex x7).c0,(qa.ex x7).c1,(qb.ex x7).c0,(qb.ex x7).c1⟩)
     |(go_at_call_of 83 (Value.int IntKind.i64 (bl:Int))
       refine(gm bl (by omega) wi.drew).mono ?_;rintro e w1 ⟨v1,rfl,⟨hn1,oL⟩,Gv⟩;obtain⟨gz1,cz1,Ku,_,_⟩:=oL.form hn1;rw[axH]at Ku;subst Ku;have x1:Ex wi w1:=(aCQ wi).drew.trans Gv)
     |(go_at_call_of 83 (Value.int IntKind.i64 (br:Int))
       refine(gm br (by omega) w1).mono ?_;rintro e w2 ⟨v2,rfl,⟨hn2,ge2⟩,Jj⟩;obtain⟨gz2,cz2,ev2,_,_⟩:=ge2.form hn2;rw[axH]at ev2;subst ev2;have x2:Ex wi w2:=x1.trans Jj)
     |(refine aH rfl _ _ _ rfl rfl rfl eG ?_))
    all_goals
     clear HS Ph eG wS rp hq hge HT Bq hfl hl12 hdl htl QD QT tN;go_wp2_with fail
     go_roundw;case rel=>exact⟨k+1,by omega,by go_num,zm,x7⟩
     case measure=>simp[intOf];omega
   .have VY:¬(pc=al):=by omega
    have QD:∀W,Ex w W->aU (λw2=>Ex w w2) W (some ⟨g2,off2+al*2,none⟩) (row.drop al):=λW hW=>(aU.iU hP hW (λ_ h=>h)).dp al
    have QT:∀W,Ex w W->aU (λw2=>Ex w w2) W (some ⟨g2,off2,none⟩) (row.take al):=λW hW=>(aU.iU hP hW (λ_ h=>h)).tk al
    have HS:∀W,Ex wi W->(W.cell? ⟨w.heap.size,0,none⟩=some (.int .i64 al)/\W.cell? ⟨w.heap.size,1,none⟩=some (.int .i64 ar)/\W.cell? ⟨w.heap.size+1,0,none⟩=some (.int .i64 bl)/\W.cell? ⟨w.heap.size+1,1,none⟩=some (.int .i64 br)):=λW h=>⟨(qa.ex (he.trans h)).c0,(qa.ex (he.trans h)).c1,(qb.ex (he.trans h)).c0,(qb.ex (he.trans h)).c1⟩
    have af2:bl<=12/\br<=12:=by omega
    have hfl:([row.take al,replicate bl zF,row.drop al,replicate br zF]:List (List aG)).flatten=Jr al bl br row:=by simp[Jr]
    have hl12:∀r∈([row.take al,replicate bl zF,row.drop al,replicate br zF]:List (List aG)),r.length<=1000:=λr hr=>by simp only[axI,axV,or_false]at hr;rcases hr with rfl|rfl|rfl|rfl<;>first|(rw[htl];omega)|(rw[hdl];omega)|(rw[axH];omega)
    go_wp2_with fail
    go_region_held3 (λW=>W.cell? ⟨w.heap.size,0,none⟩=some (.int .i64 al)/\W.cell? ⟨w.heap.size,1,none⟩=some (.int .i64 ar)/\W.cell? ⟨w.heap.size+1,0,none⟩=some (.int .i64 bl)/\W.cell? ⟨w.heap.size+1,1,none⟩=some (.int .i64 br)) (first
     |(exact Ph)|(exact HS _ (x6.alloc _))|(exact HS _ x6)|(exact HS _ (x2.alloc _))|(exact HS _ x2)|(exact HS _ x1)|(exact HS _ (aCQ _).drew)|(exact HS _ (aCQ _))) (first
     |(go_at_call 89
       obtain⟨x24,v4⟩:=VB.xn w2 54 #[.slice (some ⟨g2,off2,none⟩) al pc,.slice (some ⟨gz1,0,none⟩) bl cz1,.slice (some ⟨g2,off2+al*2,none⟩) (RL-al) (pc-al),.slice (some ⟨gz2,0,none⟩) br cz2];have x4:=x2.trans x24;have QT4:aU (λW=>Ex w W/\∀k,wi.heap.size<=k->k<w2.heap.size->W.heap[k]?=w2.heap[k]?) _ _ _:=(QT _ (xw.trans x4)).mono λ_ h=>h.1
       have QD4:aU (λW=>Ex w W/\∀k,wi.heap.size<=k->k<w2.heap.size->W.heap[k]?=w2.heap[k]?) _ _ _:=(QD _ (xw.trans x4)).mono λ_ h=>h.1
       have R1:aU (λW=>Ex w W/\∀k,wi.heap.size<=k->k<w2.heap.size->W.heap[k]?=w2.heap[k]?) _ _ _:=((oL.rX (by simp;omega)).ex (Jj.trans x24)).mono λ_ h k a1 a2 _=>(h.2 k a1 (axD a2 Jj.size)).trans (Jj.block a2)
       have R2:aU (λW=>Ex w W/\∀k,wi.heap.size<=k->k<w2.heap.size->W.heap[k]?=w2.heap[k]?) _ _ _:=((ge2.rX (by simp;omega)).ex x24).mono λ_ h k a1 a2 _=>h.2 k (axA x1.size a1) a2
       have cC:=qZ (some ⟨w2.heap.size,0,none⟩) 4 [row.take al,replicate bl zF,row.drop al,replicate br zF] _ (C8 v4 QT4 R1 QD4 R2 htl axH hdl axH) (by simp) hl12;rw[hfl]at cC;refine cC.mono ?_;clear cC;rintro e w6 ⟨v6,rfl,rp,x46⟩;have Ji:Ex w2 w6:=x24.trans x46;have x6:Ex wi w6:=x2.trans Ji;obtain⟨A6,c6,ev6⟩:=rp.form;rw[Bq.out]at ev6;subst ev6;have hq:=(rp.more (a':=wi.heap.size) x4.size (axk _)).KA (W0:=w) (by rw[Bq.out];omega) (λW h0 hk=>⟨h0,λk a1 a2=>(hk k a1 (axD a2 Ji.size) (axD a2 Ji.size)).trans (Ji.block a2)⟩);obtain⟨v7,w7,eG,zm,_,_,wS⟩:=bO (hge.ex x6) x6.size hq (axk _) x6.size (axk _) hzi (by first|omega|(rw[axv,axs];omega));rw[<-HT.out]at zm;have x7:=wS W2 (he.trans x6) (axk _);have Ph:w7.cell? ⟨w.heap.size,0,none⟩=some (.int .i64 al)/\w7.cell? ⟨w.heap.size,1,none⟩=some (.int .i64 ar)/\w7.cell? ⟨w.heap.size+1,0,none⟩=some (.int .i64 bl)/\w7.cell? ⟨w.heap.size+1,1,none⟩=some (.int .i64 br):=⟨(qa.ex x7).c0,(qa.ex x7).c1,(qb.ex x7).c0,(qb.ex x7).c1⟩)
     |(go_at_call_of 83 (Value.int IntKind.i64 (bl:Int))
       refine(gm bl (by omega) wi.drew).mono ?_;rintro e w1 ⟨v1,rfl,⟨hn1,oL⟩,Gv⟩;obtain⟨gz1,cz1,Ku,_,_⟩:=oL.form hn1;rw[axH]at Ku;subst Ku;have x1:Ex wi w1:=(aCQ wi).drew.trans Gv)
     |(go_at_call_of 83 (Value.int IntKind.i64 (br:Int))
       refine(gm br (by omega) w1).mono ?_;rintro e w2 ⟨v2,rfl,⟨hn2,ge2⟩,Jj⟩;obtain⟨gz2,cz2,ev2,_,_⟩:=ge2.form hn2;rw[axH]at ev2;subst ev2;have x2:Ex wi w2:=x1.trans Jj)
     |(refine aH rfl _ _ _ rfl rfl rfl eG ?_))
    all_goals
     clear HS Ph eG wS rp hq hge HT Bq hfl hl12 hdl htl QD QT tN;go_wp2_with fail
     go_roundw;case rel=>exact⟨k+1,by omega,by go_num,zm,x7⟩
     case measure=>simp[intOf];omega
  .obtain rfl:k=a.length:=by omega
   rw[axG (by rw[axs];exact axk _)]at hge;have qb2:=(qb.ex he).c2;go_wp2_with fail
   clear qb2;go_loopw [7,43] (λo i wr=>∃k:Nat,k<=b.length/\i=.int .i64 k/\GE (wK w) 54 wr W2.heap.size wr.heap.size o (a.map (Jr al bl br)++(b.map (Lx al ar bl)).take k)/\Ex W2 wr) (λ_ i _=>b.length-(intOf i).toNat)
   case atStart=>exact⟨0,axq _,rfl,by simpa using hge,he⟩
   case round=>
    clear hge he xw hzi hlt;rename World=>wi;obtain⟨k,hk,rfl,hge,he⟩:=hrel;have xw:=xx.trans he;have hzi:=he.size;by_cases hlt:k<b.length
    .obtain⟨g,off,row,P,pc,eA,hr,wE,hpc,hP⟩:=HB.out.at_ hlt;subst eA;have hm:=axo hr;have hr0:=Hb0.out row hm;have hrl:=Ab.out row hm;have HT:=axj (jO (f:=Lx al ar bl) hr);obtain⟨g2,off2,y,_,_,_,_,eP,_⟩:=hP.iy hr0;subst eP;have b0:=af xw wE;have hdl:(row.drop bl).length=row.length-bl:=axF;have htl:(row.take bl).length=bl:=by rw[axx];omega
     have tN:((b.map (Lx al ar bl)).take k).length<=k:=ax7 _ _;have Bq:=axj (Jp (al:=al) (ar:=ar) hrl);have acX:bl<=pc:=by omega
     obtain⟨RL,Fh⟩:=xq row.length;rw[Fh]at b0 hpc hr0 hrl hdl;have acY:bl<=RL:=by omega
     have TR:RL<=12:=by omega
     clear hr hm wE hrl Fh;by_cases hpl:pc-bl=0
     .obtain rfl:bl=pc:=by omega
      obtain rfl:bl=RL:=by omega
      rw[ayd]at hdl;clear hpl;have Wm:row.drop bl=[]:=ayp hdl;have QD:∀W,Ex w W->aU (λw2=>Ex w w2) W (some ⟨g2,off2,none⟩) (row.drop bl):=λW _=>by rw[Wm];exact aU.nil _ _ _
      have QT:∀W,Ex w W->aU (λw2=>Ex w w2) W (some ⟨g2,off2,none⟩) (row.take bl):=λW hW=>(aU.iU hP hW (λ_ h=>h)).tk bl
      have HS:∀W,Ex wi W->(W.cell? ⟨w.heap.size,0,none⟩=some (.int .i64 al)/\W.cell? ⟨w.heap.size,1,none⟩=some (.int .i64 ar)/\W.cell? ⟨w.heap.size+1,0,none⟩=some (.int .i64 bl)/\W.cell? ⟨w.heap.size+1,1,none⟩=some (.int .i64 br)):=λW h=>⟨(qa.ex (he.trans h)).c0,(qa.ex (he.trans h)).c1,(qb.ex (he.trans h)).c0,(qb.ex (he.trans h)).c1⟩
      have af2:al<=12/\ar<=12:=by omega
      have hfl:([replicate al zF,row.take bl,replicate ar zF,row.drop bl]:List (List aG)).flatten=Lx al ar bl row:=by simp[Lx]
      have hl12:∀r∈([replicate al zF,row.take bl,replicate ar zF,row.drop bl]:List (List aG)),r.length<=1000:=λr hr=>by simp only[axI,axV,or_false]at hr;rcases hr with rfl|rfl|rfl|rfl<;>first|(rw[htl];omega)|(rw[hdl];omega)|(rw[axH];omega)
      go_wp2_with fail
      go_region_held3 (λW=>W.cell? ⟨w.heap.size,0,none⟩=some (.int .i64 al)/\W.cell? ⟨w.heap.size,1,none⟩=some (.int .i64 ar)/\W.cell? ⟨w.heap.size+1,0,none⟩=some (.int .i64 bl)/\W.cell? ⟨w.heap.size+1,1,none⟩=some (.int .i64 br)) (first
       |(exact Ph)|(exact HS _ (x6.alloc _))|(exact HS _ x6)|(exact HS _ (x2.alloc _))|(exact HS _ x2)|(exact HS _ x1)|(exact HS _ (aCQ _).drew)|(exact HS _ (aCQ _))) (first
       |(go_at_call 89
         obtain⟨x24,v4⟩:=VB.xn w2 54 #[.slice (some ⟨gz1,0,none⟩) al cz1,.slice (some ⟨g2,off2,none⟩) bl bl,.slice (some ⟨gz2,0,none⟩) ar cz2,.slice (some ⟨g2,off2,none⟩) 0 0];have x4:=x2.trans x24;have QT4:aU (λW=>Ex w W/\∀k,wi.heap.size<=k->k<w2.heap.size->W.heap[k]?=w2.heap[k]?) _ _ _:=(QT _ (xw.trans x4)).mono λ_ h=>h.1
         have QD4:aU (λW=>Ex w W/\∀k,wi.heap.size<=k->k<w2.heap.size->W.heap[k]?=w2.heap[k]?) _ _ _:=(QD _ (xw.trans x4)).mono λ_ h=>h.1
         have R1:aU (λW=>Ex w W/\∀k,wi.heap.size<=k->k<w2.heap.size->W.heap[k]?=w2.heap[k]?) _ _ _:=((oL.rX (by simp;omega)).ex (Jj.trans x24)).mono λ_ h k a1 a2 _=>(h.2 k a1 (axD a2 Jj.size)).trans (Jj.block a2)
         have R2:aU (λW=>Ex w W/\∀k,wi.heap.size<=k->k<w2.heap.size->W.heap[k]?=w2.heap[k]?) _ _ _:=((ge2.rX (by simp;omega)).ex x24).mono λ_ h k a1 a2 _=>h.2 k (axA x1.size a1) a2
         have cC:=qZ (some ⟨w2.heap.size,0,none⟩) 4 [replicate al zF,row.take bl,replicate ar zF,row.drop bl] _ (C8 v4 R1 QT4 R2 QD4 axH htl axH hdl) (by simp) hl12;rw[hfl]at cC;refine cC.mono ?_;clear cC;rintro e w6 ⟨v6,rfl,rp,x46⟩;have Ji:Ex w2 w6:=x24.trans x46;have x6:Ex wi w6:=x2.trans Ji;obtain⟨A6,c6,ev6⟩:=rp.form;rw[Bq.out]at ev6;subst ev6;have hq:=(rp.more (a':=wi.heap.size) x4.size (axk _)).KA (W0:=w) (by rw[Bq.out];omega) (λW h0 hk=>⟨h0,λk a1 a2=>(hk k a1 (axD a2 Ji.size) (axD a2 Ji.size)).trans (Ji.block a2)⟩);obtain⟨v7,w7,eG,zm,_,_,wS⟩:=bO (hge.ex x6) x6.size hq (axk _) x6.size (axk _) hzi (by first|omega|(rw[axv,axs];omega));rw[ayg,<-HT.out]at zm;have x7:=wS W2 (he.trans x6) (axk _);have Ph:w7.cell? ⟨w.heap.size,0,none⟩=some (.int .i64 al)/\w7.cell? ⟨w.heap.size,1,none⟩=some (.int .i64 ar)/\w7.cell? ⟨w.heap.size+1,0,none⟩=some (.int .i64 bl)/\w7.cell? ⟨w.heap.size+1,1,none⟩=some (.int .i64 br):=⟨(qa.ex x7).c0,(qa.ex x7).c1,(qb.ex x7).c0,(qb.ex x7).c1⟩)
       |(go_at_call_of 83 (Value.int IntKind.i64 (al:Int))
         refine(gm al (by omega) wi.drew).mono ?_;rintro e w1 ⟨v1,rfl,⟨hn1,oL⟩,Gv⟩;obtain⟨gz1,cz1,Ku,_,_⟩:=oL.form hn1;rw[axH]at Ku;subst Ku;have x1:Ex wi w1:=(aCQ wi).drew.trans Gv)
       |(go_at_call_of 83 (Value.int IntKind.i64 (ar:Int))
         refine(gm ar (by omega) w1).mono ?_;rintro e w2 ⟨v2,rfl,⟨hn2,ge2⟩,Jj⟩;obtain⟨gz2,cz2,ev2,_,_⟩:=ge2.form hn2;rw[axH]at ev2;subst ev2;have x2:Ex wi w2:=x1.trans Jj)
       |(refine aH rfl _ _ _ rfl rfl rfl eG ?_))
      all_goals
       clear HS Ph eG wS rp hq hge HT Bq hfl hl12 hdl htl QD QT tN;go_wp2_with fail
       go_roundw;case rel=>exact⟨k+1,by omega,by go_num,zm,x7⟩
       case measure=>simp[intOf];omega
     .have VY:¬(pc=bl):=by omega
      have QD:∀W,Ex w W->aU (λw2=>Ex w w2) W (some ⟨g2,off2+bl*2,none⟩) (row.drop bl):=λW hW=>(aU.iU hP hW (λ_ h=>h)).dp bl
      have QT:∀W,Ex w W->aU (λw2=>Ex w w2) W (some ⟨g2,off2,none⟩) (row.take bl):=λW hW=>(aU.iU hP hW (λ_ h=>h)).tk bl
      have HS:∀W,Ex wi W->(W.cell? ⟨w.heap.size,0,none⟩=some (.int .i64 al)/\W.cell? ⟨w.heap.size,1,none⟩=some (.int .i64 ar)/\W.cell? ⟨w.heap.size+1,0,none⟩=some (.int .i64 bl)/\W.cell? ⟨w.heap.size+1,1,none⟩=some (.int .i64 br)):=λW h=>⟨(qa.ex (he.trans h)).c0,(qa.ex (he.trans h)).c1,(qb.ex (he.trans h)).c0,(qb.ex (he.trans h)).c1⟩
      have af2:al<=12/\ar<=12:=by omega
      have hfl:([replicate al zF,row.take bl,replicate ar zF,row.drop bl]:List (List aG)).flatten=Lx al ar bl row:=by simp[Lx]
      have hl12:∀r∈([replicate al zF,row.take bl,replicate ar zF,row.drop bl]:List (List aG)),r.length<=1000:=λr hr=>by simp only[axI,axV,or_false]at hr;rcases hr with rfl|rfl|rfl|rfl<;>first|(rw[htl];omega)|(rw[hdl];omega)|(rw[axH];omega)
      go_wp2_with fail
      go_region_held3 (λW=>W.cell? ⟨w.heap.size,0,none⟩=some (.int .i64 al)/\W.cell? ⟨w.heap.size,1,none⟩=some (.int .i64 ar)/\W.cell? ⟨w.heap.size+1,0,none⟩=some (.int .i64 bl)/\W.cell? ⟨w.heap.size+1,1,none⟩=some (.int .i64 br)) (first
       |(exact Ph)|(exact HS _ (x6.alloc _))|(exact HS _ x6)|(exact HS _ (x2.alloc _))|(exact HS _ x2)|(exact HS _ x1)|(exact HS _ (aCQ _).drew)|(exact HS _ (aCQ _))) (first
       |(go_at_call 89
         obtain⟨x24,v4⟩:=VB.xn w2 54 #[.slice (some ⟨gz1,0,none⟩) al cz1,.slice (some ⟨g2,off2,none⟩) bl pc,.slice (some ⟨gz2,0,none⟩) ar cz2,.slice (some ⟨g2,off2+bl*2,none⟩) (RL-bl) (pc-bl)];have x4:=x2.trans x24;have QT4:aU (λW=>Ex w W/\∀k,wi.heap.size<=k->k<w2.heap.size->W.heap[k]?=w2.heap[k]?) _ _ _:=(QT _ (xw.trans x4)).mono λ_ h=>h.1
         have QD4:aU (λW=>Ex w W/\∀k,wi.heap.size<=k->k<w2.heap.size->W.heap[k]?=w2.heap[k]?) _ _ _:=(QD _ (xw.trans x4)).mono λ_ h=>h.1
         have R1:aU (λW=>Ex w W/\∀k,wi.heap.size<=k->k<w2.heap.size->W.heap[k]?=w2.heap[k]?) _ _ _:=((oL.rX (by simp;omega)).ex (Jj.trans x24)).mono λ_ h k a1 a2 _=>(h.2 k a1 (axD a2 Jj.size)).trans (Jj.block a2)
         have R2:aU (λW=>Ex w W/\∀k,wi.heap.size<=k->k<w2.heap.size->W.heap[k]?=w2.heap[k]?) _ _ _:=((ge2.rX (by simp;omega)).ex x24).mono λ_ h k a1 a2 _=>h.2 k (axA x1.size a1) a2
         have cC:=qZ (some ⟨w2.heap.size,0,none⟩) 4 [replicate al zF,row.take bl,replicate ar zF,row.drop bl] _ (C8 v4 R1 QT4 R2 QD4 axH htl axH hdl) (by simp) hl12;rw[hfl]at cC;refine cC.mono ?_;clear cC;rintro e w6 ⟨v6,rfl,rp,x46⟩;have Ji:Ex w2 w6:=x24.trans x46;have x6:Ex wi w6:=x2.trans Ji;obtain⟨A6,c6,ev6⟩:=rp.form;rw[Bq.out]at ev6;subst ev6;have hq:=(rp.more (a':=wi.heap.size) x4.size (axk _)).KA (W0:=w) (by rw[Bq.out];omega) (λW h0 hk=>⟨h0,λk a1 a2=>(hk k a1 (axD a2 Ji.size) (axD a2 Ji.size)).trans (Ji.block a2)⟩);obtain⟨v7,w7,eG,zm,_,_,wS⟩:=bO (hge.ex x6) x6.size hq (axk _) x6.size (axk _) hzi (by first|omega|(rw[axv,axs];omega));rw[ayg,<-HT.out]at zm;have x7:=wS W2 (he.trans x6) (axk _);have Ph:w7.cell? ⟨w.heap.size,0,none⟩=some (.int .i64 al)/\w7.cell? ⟨w.heap.size,1,none⟩=some (.int .i64 ar)/\w7.cell? ⟨w.heap.size+1,0,none⟩=some (.int .i64 bl)/\w7.cell? ⟨w.heap.size+1,1,none⟩=some (.int .i64 br):=⟨(qa.ex x7).c0,(qa.ex x7).c1,(qb.ex x7).c0,(qb.ex x7).c1⟩)
       |(go_at_call_of 83 (Value.int IntKind.i64 (al:Int))
         refine(gm al (by omega) wi.drew).mono ?_;rintro e w1 ⟨v1,rfl,⟨hn1,oL⟩,Gv⟩;obtain⟨gz1,cz1,Ku,_,_⟩:=oL.form hn1;rw[axH]at Ku;subst Ku;have x1:Ex wi w1:=(aCQ wi).drew.trans Gv)
       |(go_at_call_of 83 (Value.int IntKind.i64 (ar:Int))
         refine(gm ar (by omega) w1).mono ?_;rintro e w2 ⟨v2,rfl,⟨hn2,ge2⟩,Jj⟩;obtain⟨gz2,cz2,ev2,_,_⟩:=ge2.form hn2;rw[axH]at ev2;subst ev2;have x2:Ex wi w2:=x1.trans Jj)
       |(refine aH rfl _ _ _ rfl rfl rfl eG ?_))
      all_goals
       clear HS Ph eG wS rp hq hge HT Bq hfl hl12 hdl htl QD QT tN;go_wp2_with fail
       go_roundw;case rel=>exact⟨k+1,by omega,by go_num,zm,x7⟩
       case measure=>simp[intOf];omega
    .obtain rfl:k=b.length:=by omega
     rw[axG (by rw[axs];exact axk _)]at hge;have hzw:=xx.size;have JY:(nu al ar bl br a b).length=a.length+b.length:=LG a b;obtain⟨A3,c3,ev,hN⟩:=GE.SY (xs:=nu al ar bl br a b) hge (by rw[JY];omega) xw;have hgd:=SQ (al:=al) (ar:=ar) (bl:=bl) (br:=br) HF.out (by omega) HGa.out Xb.out;have hwd:=DT Ac.out Ab.out;rw[Lh.out,HNR.out]at hwd;have agj:NL+NR<=12:=by have:=Lh.out;have:=HNR.out;omega
     have cO:=pO p NL NR (nu al ar bl br a b) A3 c3 wi HF.out hN hwd (Qa hgd hwd (axk _) (MW agj)) (by omega) (by rw[JY];omega);subst ev;clear hge hN hgd hwd;obtain⟨RR,hRR⟩:=xq ((au p).aC (NL+NR) (nu al ar bl br a b));have HRR:=axj hRR;rw[hRR]at cO;clear hRR;rw[JY]at cO⊢;clear JY;obtain⟨k0,k1,k2,k3⟩:wi.cell? ⟨w.heap.size,0,none⟩=some (.int .i64 al)/\wi.cell? ⟨w.heap.size,1,none⟩=some (.int .i64 ar)/\wi.cell? ⟨w.heap.size+1,0,none⟩=some (.int .i64 bl)/\wi.cell? ⟨w.heap.size+1,1,none⟩=some (.int .i64 br):=⟨(qa.ex he).c0,(qa.ex he).c1,(qb.ex he).c0,(qb.ex he).c1⟩;go_wp2_with fail
     refine cO.mono ?_;rintro e w4 ⟨y4,rfl,fx,x4⟩;obtain⟨A4,c4,rfl,_⟩:=fx.rd;clear cO k0 k1 k2 k3 hwl hwr;have hl2:=d2.lt;have dz:=(d2.ex he).ex x4;have xz:=xw.trans x4;obtain⟨dd,zz⟩:=dz.l8 (.int .i64 NL) (.int .i64 NR) (.slice A4 RR.length c4);obtain⟨u0,u1,u2⟩:=dz.d3;obtain⟨k0,k1,k2⟩:=dz.z3;obtain⟨C0,C1,C2⟩:=dd.d3;have eF:=xz.aK zz (by omega);have fx2:=fx.iv (jE.aZ zz) (by omega);have fx3:=fx2.more (a':=w.heap.size) (b':=w4.heap.size) (by omega) (axk _);go_wp2_with fail
     refine axu (v:=.agg #[.int .i64 NL,.int .i64 NR,.slice A4 RR.length c4]) (by simp[results,Tryz.results52,go_sem,C0,C1,C2]) rfl ?_;rw[HRR.out];exact⟨_,rfl,fx3.more (axk _) (ayH (by simp)),eF⟩
theorem pG.rX{xs:List aG}(h:pG w (λz=>z<a∨z=b) b xs)(hl:xs.length<=1099511627776):aU (λW=>∀k,a<=k->k<w.heap.size->W.heap[k]?=w.heap[k]?) w (some ⟨b,0,none⟩) xs:=by
 refine⟨hl,λj x hj=>?_⟩;obtain⟨A,c,B,d,h0,h1,h2,h3⟩:=h.at_ hj;have hrd:∀{W:World} {A:Option Addr} {l:List Int},(∀k,a<=k->k<w.heap.size->W.heap[k]?=w.heap[k]?)->RX w (λz=>z<a∨z=b) A l->Rd W A l:=λ{W A l} hk hr=>by
  by_cases hl0:l=[]
  .subst hl0;exact Rd.nil _ _
  .refine hr.1.keep λp e hp=>hk _ ?_ hp
   have:=hr.2 hl0 p e;omega
 exact⟨b,0,_,_,rfl,by rw[axT];exact h0,by rw[axT];exact h1,rfl,rfl,λW hk=>⟨⟨A,c,rfl,hrd hk h2⟩,⟨B,d,rfl,hrd hk h3⟩⟩⟩
theorem aU.JC{w2:World}{P:Option Addr}(h:aU Good w P r)(hk:∀ad:Addr,P=some ad->w2.heap[ad.block]?=w.heap[ad.block]?)(hg:Good w2):bW EF w2 P r:=by
 refine⟨h.1,λj x hj=>?_⟩;obtain⟨g,off,u,v,rfl,q0,q1,_,_,hR⟩:=h.2 j x hj;have hc:=hk _ rfl;have e:∀o,w2.cell? ⟨g,o,none⟩=w.cell? ⟨g,o,none⟩:=λo=>axP (w:=w) (a:=⟨g,o,none⟩) hc
 refine⟨g,off,[u,v],rfl,λi y hi=>?_,u,v,rfl,hR w2 hg⟩;rw[show EF.k=2 from rfl]
 match i,hi with
 |0,hi=>simp at hi;rw[<-hi,ayb,e];exact q0
 |1,hi=>simp at hi;rw[<-hi,e];exact q1
theorem aU.pairs{ad:Addr}(h:aU Good w (some ad) r):∃ig:List (Value×Value),ig.length=r.length/\(∀(q:Nat) (u:Value),(ig.map Ce).flatten[q]?=some u->w.cell? (ad.add q)=some u)/\(∀p∈ig,p.1.oneCell'=true/\p.2.oneCell'=true)/\
 ∀(j:Nat) (x:aG),r[j]?=some x->∃a b,ig[j]?=some (a,b)/\∀w2,Good w2->oD w2 a b x:=by
 obtain⟨ig,k1,k2⟩:=pF (Q:=λj (p:Value×Value)=>∃x g off,ad=⟨g,off,none⟩/\r[j]?=some x/\w.cell? ⟨g,off+j*2,none⟩=some p.1/\w.cell? ⟨g,off+j*2+1,none⟩=some p.2/\(∀w2,Good w2->oD w2 p.1 p.2 x)/\p.1.oneCell'=true/\p.2.oneCell'=true) r.length (λj hj=>by
  obtain⟨g,off,u,v,hA,q0,q1,o0,o1,hR⟩:=h.2 j _ (axn hj);injection hA with hA;subst hA;exact⟨(u,v),r[j],g,off,rfl,axn hj,q0,q1,hR,o0,o1⟩)
 refine⟨ig,k1,λq u hu=>?_,λp hp=>?_,λj x hj=>?_⟩
 .obtain⟨j,i,p,rfl,hp,hi2⟩:=Qp hu;obtain⟨x,g,off,rfl,_,q0,q1,_⟩:=k2 j p hp;have e:(⟨g,off,none⟩:Addr).add (j*2+i)=⟨g,off+(j*2+i),none⟩:=by unfold Addr.add;split<;>simp_all
  rw[e];rcases i with _|_|i
  .injection hi2 with hi2;subst hi2;exact q0
  .injection hi2 with hi2;subst hi2;exact q1
  .simp[Ce]at hi2
 .obtain⟨j,hj⟩:=axz hp;obtain⟨_,_,_,_,_,_,_,_,q⟩:=k2 j p hj;exact q
 .have hjl:=(axp.1 hj).1;have hp:=axn (show j<ig.length by omega);obtain⟨x',g,off,_,hx',_,_,hR,_⟩:=k2 j _ hp;rw[hj]at hx';injection hx' with hx';subst hx';exact⟨_,_,hp,hR⟩
theorem OW{W0:World}{off:Nat}{P:Option Addr}{r1 r2:List aG}(h1:aU Good w (some ⟨g,off,none⟩) r1)(h2:aU Good w P r2)(ha:a<=w.heap.size)(had:a<=g)(ajQ:g<w.heap.size)(hG:∀w2:World,(∀k,a<=k->k<w.heap.size->w2.heap[k]?=w.heap[k]?)->Good w2)(c:Nat)(l1:r1.length<=1000)(l2:r2.length<=1000):
 ∃A c' w',(Builtin.append_ #[54,54] 54 #[.slice (some ⟨g,off,none⟩) r1.length r1.length,.slice P r2.length c]).run prog w=.ok (.slice A (r1++r2).length c') w'/\Ex w w'/\(wK W0).O w' a w'.heap.size [.slice A (r1++r2).length c'] (r1++r2):=by
 obtain⟨i,hi,hz,hs,hby⟩:=axW mH;by_cases hr:r2=[]
 .subst hr;refine⟨some ⟨g,off,none⟩,r1.length,w,?_,aCQ w,?_⟩
  .rw[ax8];rcases P with _|ad2;case some=>exact run_append_room_cells (P:=prog) (w:=w) 54 54 57 i Tryz.underlying54 hi g off r1.length r1.length ad2 0 c [] (by simp) (λj u h=>by simp at h) (λu h=>by simp at h) (axk _) (λj h=>by simp at h) (λj h=>by simp at h)
   simp[Builtin.append_,ayj Tryz.underlying54,sizeOf,typeInfo,hi,Builtin.lenOf,Builtin.firstCells,storeCells]
  .rw[ax8];exact⟨some ⟨g,off,none⟩,r1.length,rfl,λw2 _ hk=>h1.JC (λad' e=>by injection e with e;subst e;exact hk _ had ajQ ajQ) (hG w2 λk a1 a2=>hk k a1 a2 a2)⟩
 .have hrl:=axB.2 hr;obtain⟨ad2,rfl⟩:∃ad2,P=some ad2:=by
   obtain⟨g,off,_,_,e,_⟩:=h2.2 0 _ (axn hrl);exact⟨_,e⟩
  obtain⟨p1,k1,n1,o1,q1⟩:=h1.pairs;obtain⟨p2,k2,n2,o2,q2⟩:=h2.pairs;obtain⟨v',w',hrun,hown,hgr⟩:=run_append_arg_grows (P:=prog) (w:=w) 54 54 57 i (.agg #[.slice none 0 0,.slice none 0 0]) 2 48 Tryz.underlying54 hi hz hs hby rfl (by omega) ⟨g,off,none⟩ r1.length r1.length (p1.map Ce).flatten (by rw[yI,k1]) n1 ad2 r2.length c (p2.map Ce).flatten (by rw[yI,k2]) n2 (by omega) (by unfold maxLen;omega) (by omega);have hx:Ex w w':=(aCQ w).Og hgr (λg e=>by cases e);have hge:GE Dy 57 w' w.heap.size w'.heap.size v' (p1++p2):=Dy.mk hx.size (by rw[axv,ax4,ay6,k1,k2];exact hown) (λk e=>World.ownsRow.lt hown k e) (λp hp=>by
   rcases axZ.1 hp with h4|h4
   .exact o1 p h4
   .exact o2 p h4)
  have rp:uX Good w' w.heap.size w'.heap.size v' (r1++r2):=⟨p1++p2,hge,by rw[axv,axv,k1,k2],λj x hj=>by
   by_cases e:j<r1.length
   .rw[axX e]at hj;rw[axX (by omega)];exact q1 j x hj
   .rw[axN (by omega)]at hj;rw[axN (by omega),k1];exact q2 _ x hj⟩
  obtain⟨A,c',ev⟩:=rp.form;subst ev;refine⟨A,c',w',hrun,hx,?_⟩;exact(rp.more ha (axk _)).KA (by rw[axv];omega) λw2 _ hk=>hG w2 λk a1 a2=>(hk k a1 (axD a2 hx.size) (axD a2 hx.size)).trans (hx.block a2)
def wth(w w2:World):World:={w with heap:=w2.heap}
def ESP(P:World->Nat->Nat->Value->List (List aG)->Prop):EL RQ where
 k:=3
 O w a b vs q:=a<b/\b<=w.heap.size/\∃A c,vs=[.int .i64 q.l,.int .i64 q.r,.slice A q.b.length c]/\∀w2:World,(∀k,a<=k->k<b->w2.heap[k]?=w.heap[k]?)->P w2 a b (.slice A q.b.length c) q.b
 mM:=λ⟨_,_,A,c,h,_⟩=>by subst h;rfl
 keep:=λ{w w' a b vs x} ⟨h0,h1,A,c,h2,h3⟩ hk=>by
  have hbw:b<=w'.heap.size:=by have h4:=hk (b-1) (by omega) (by omega) (by omega);have h5:w.heap[b-1]?=some (w.heap[b-1]'(by omega)):=azQ (by omega);rw[h5]at h4;have:=(aye.1 h4).1;omega
  exact⟨h0,hbw,A,c,h2,λw2 h=>h3 w2 λk k1 k2=>(h k k1 k2).trans (hk k k1 k2 (by omega))⟩
 one:=λ⟨_,_,A,c,h,_⟩ u hu=>by subst h;simp only[axI,axV,or_false]at hu;rcases hu with rfl|rfl|rfl<;>rfl
def rdP(w:World)(_ _:Nat)(v:Value)(x:List (List aG)):Prop:=∃A c,v=.slice A x.length c/\j_ w A x
abbrev EST:EL RQ:=ESP rdP
abbrev CU:EL RQ:=ESP rQ
theorem EST.M_{w':World}{q:RQ}(ha:a<w'.heap.size)(hs:a<=w.heap.size)(h:∀w2,bG (λk=>k<w.heap.size) w' w2->j_ w2 A q.b):EST.O w' a w'.heap.size [.int .i64 q.l,.int .i64 q.r,.slice A q.b.length c] q:=
 ⟨ha,axk _,A,c,rfl,λw2 hk=>by
  have hsz:w'.heap.size<=w2.heap.size:=by have h4:=hk (w'.heap.size-1) (by omega) (by omega);rw[azQ (show w'.heap.size-1<w'.heap.size by omega)]at h4;have:=(aye.1 h4).1;omega
  have:=h (wth w' w2) ⟨rfl,rfl,rfl,hsz,λk k1 k2=>hk k (by omega) k1⟩;exact⟨A,c,rfl,this⟩⟩
theorem I4{q:Nat}:∀(l:List (List Value)) (m:Nat),(∀u∈l,u.length=q)->(l.take m).flatten=l.flatten.take (m*q)
 |[],m,_=>by simp
 |u::l,0,_=>by simp
 |u::l,m+1,hu=>by have hu0:=hu u (by simp);rw[azb,ayN,ayN,I4 l m λv hv=>hu v (by simp[hv]),ayX,List.take_append,axG (l:=u) (i:=m*q+q) (by omega),hu0,ay7]
theorem GE.aaP{α:Type}{E:EL α}{t:TypeId}{xs:List α}(h:GE E t w B H (.slice (some ⟨g,0,none⟩) n c) xs)(k:Nat)(hk:k<=n):GE E t w B H (.slice (some ⟨g,0,none⟩) k c) (xs.take k):=by
 obtain⟨hown,us,al,bl,hl,ho,h1,h2⟩:=h;have hn:n=xs.length:=by
  rcases ho.2 with⟨e,_⟩|⟨g',cap,cur,e,_⟩
  .cases e
  .injection e with _ e2 _
 have zY:∀u∈us,u.length=E.k:=λu hu=>by obtain⟨j',hj'⟩:=axz hu;have hl':=(axp.1 hj').1;obtain⟨u2,r1,r2,_⟩:=h1 j' _ (axn (by omega));rw[hj']at r1;injection r1 with r1;subst r1;exact E.mM r2
 have hfl:∀(l:List (List Value)) (m:Nat),(∀u∈l,u.length=E.k)->(l.take m).flatten=l.flatten.take (m*E.k):=I4;have hkx:(xs.take k).length=k:=by rw[axx];omega
 have hown':(Value.slice (some ⟨g,0,none⟩) k c).ownBlock=(Value.slice (some ⟨g,0,none⟩) n c).ownBlock:=rfl;refine⟨λi e=>hown i (hown'▸e),us.take k,al,bl,by rw[axx,axx,hl],?_,λj x hj=>?_,λi j hi hj hne=>h2 i j (by omega) (by omega) hne⟩
 .obtain⟨h0,ho⟩:=ho;rcases ho with⟨e,_⟩|⟨g',cap,cur,e,hB,hh,hnc,hcm,hsz,ht⟩
  .cases e
  .injection e with e1 e2 e3;injection e1 with e1;injection e1 with e1 _ _;subst e1 e3;rw[hkx,hfl us k zY];refine⟨?_,.inr ⟨g,c,cur,rfl,hB,hh,by omega,hcm,hsz,?_⟩⟩
   .rw[axx];have h3:us.flatten.length=xs.length*E.k:=h0;rw[h3];have:=ayk E.k (show k<=xs.length by omega);omega
   .have h4:k*E.k<=xs.length*E.k:=ayk E.k (by omega);rw[<-ht,List.take_take,Nat.min_eq_left h4]
 .rw[axL]at hj;split at hj
  .rename_i hjk;obtain⟨u,q1,q2,q3,q4,q5⟩:=h1 j x hj;exact⟨u,by rw[axL,axl hjk];exact q1,q2,q3,q4,λi e=>q5 i (hown'▸e)⟩
  .cases hj
theorem CY(hF:av p=true):(au p).aC 2 [[oF,xF]]=[[oF,xF]]:=by
 have h:=yN (aj p hF) (v:=[pe hF [1],pe hF [0,1]]) (n:=2) rfl (q:=0) (by omega) (su hF) λj hj=>by omega
 have e:=(mV p hF).aC 2 [[pe hF [1],pe hF [0,1]]];rw[h]at e;have e2:dO Subtype.val [[pe hF [1],pe hF [0,1]]]=[[oF,xF]]:=by show[[(pe hF [1]).1,(pe hF [0,1]).1]]=_;rw[su,Xx];rfl
 rw[e2]at e;exact e
structure Dly (w:World) (g h:Nat) (A B C D:Option Addr) (a b c d gc hc:Nat):Prop where
 row:w.cell? ⟨g,0,none⟩=some (.slice (some ⟨h,0,none⟩) 2 hc)
 hc2:2<=hc
 c0:w.cell? ⟨h,0,none⟩=some (.slice A 1 a)
 c1:w.cell? ⟨h,1,none⟩=some (.slice B 1 b)
 c2:w.cell? ⟨h,2,none⟩=some (.slice C 2 c)
 c3:w.cell? ⟨h,3,none⟩=some (.slice D 1 d)
 rA:Rd w A [1]
 rB:Rd w B [1]
 rC:Rd w C [0,1]
 rD:Rd w D [1]
theorem Dly.Da{h:Nat}{B C D:Option Addr}{d gc hc:Nat}(k:Dly w g h A B C D a b c d gc hc):j_ w (some ⟨g,0,none⟩) [[oF,xF]]:=by
 have hrow:bW EF w (some ⟨h,0,none⟩) [oF,xF]:=⟨by simp,λj x hj=>by
  rcases j with _|_|j
  .injection hj with hj;subst hj;refine⟨h,0,[.slice A 1 a,.slice B 1 b],rfl,λi u hi=>?_,_,_,rfl,⟨A,a,rfl,k.rA⟩,⟨B,b,rfl,k.rB⟩⟩;rcases i with _|_|i
   .injection hi with hi;subst hi;exact k.c0
   .injection hi with hi;subst hi;exact k.c1
   .simp at hi
  .injection hj with hj;subst hj;refine⟨h,0,[.slice C 2 c,.slice D 1 d],rfl,λi u hi=>?_,_,_,rfl,⟨C,c,rfl,k.rC⟩,⟨D,d,rfl,k.rD⟩⟩;rcases i with _|_|i
   .injection hi with hi;subst hi;exact k.c2
   .injection hi with hi;subst hi;exact k.c3
   .simp at hi
  .simp at hj⟩
 refine⟨⟨by simp,λj x hj=>?_⟩,λj r hj=>?_⟩
 .rcases j with _|j
  .injection hj with hj;subst hj;refine⟨g,0,[.slice (some ⟨h,0,none⟩) 2 hc],rfl,λi u hi=>?_,_,rfl,some ⟨h,0,none⟩,hc,rfl,hrow⟩;rcases i with _|i
   .injection hi with hi;subst hi;exact k.row
   .simp at hi
  .simp at hj
 .rcases j with _|j
  .injection hj with hj;subst hj;exact⟨g,0,some ⟨h,0,none⟩,hc,rfl,k.row,k.hc2,hrow⟩
  .simp at hj
theorem adw{m:Nat}{B:Option Addr}{ca cb:Nat}(fX:CO w (λk=>a<=k/\k<m) (.slice A 1 ca) (.slice B 1 cb) oF)(ham:a<=m)(b1:dW w m [0,1])(b2:dW w (m+1) [1])
 (v3:VB w (m+1+1) 57 #[.slice A 1 ca,.slice B 1 cb,.slice (some ⟨m,0,none⟩) 2 2,.slice (some ⟨m+1,0,none⟩) 1 1])
 (v4:VB w (m+1+1+1) 54 #[.slice (some ⟨m+1+1,0,none⟩) 2 2]):rQ w a (m+1+1+1+1) (.slice (some ⟨m+1+1+1,0,none⟩) 1 1) [[oF,xF]]:=by
 have hC:XI w (λk=>k=m) (.slice (some ⟨m,0,none⟩) 2 2) xF.n:=⟨_,_,rfl,⟨b1.rd (by simp),axk _,λq e=>by injection e with e;subst e;exact⟨axq _,_,b1⟩⟩,λq e=>by injection e with e;subst e;rfl⟩;have hD:XI w (λk=>k=m+1) (.slice (some ⟨m+1,0,none⟩) 1 1) xF.d:=⟨_,_,rfl,⟨b2.rd (by simp),axk _,λq e=>by injection e with e;subst e;exact⟨axq _,_,b2⟩⟩,λq e=>by injection e with e;subst e;rfl⟩;have hx:CO w (λk=>m<=k/\k<m+1+1) (.slice (some ⟨m,0,none⟩) 2 2) (.slice (some ⟨m+1,0,none⟩) 1 1) xF:=⟨_,_,hC,hD,λk hk=>by omega,λk hk=>by omega,λk h1 h2=>by omega⟩;have hrow:OX Jf 57 w (λk=>a<=k/\k<m+1+1+1) (some ⟨m+1+1,0,none⟩) [oF,xF]:=by
  refine⟨by simp,λj k=>if j=0 then a<=k/\k<m else m<=k/\k<m+1+1,λj x hj=>?_,λi j k hi hj hne h1 h2=>?_⟩
  .rcases j with _|_|j
   .injection hj with hj;subst hj;refine⟨m+1+1,0,[.slice A 1 ca,.slice B 1 cb],_,rfl,by omega,v3,λi u hi=>?_,⟨_,_,rfl,fX⟩,λk hk=>?_,λhk=>?_⟩
    .rcases i with _|_|i
     .exact hi
     .exact hi
     .simp at hi
    .have hk:a<=k/\k<m:=hk;omega
    .have hk:a<=m+1+1/\m+1+1<m:=hk;omega
   .injection hj with hj;subst hj;refine⟨m+1+1,0,[.slice (some ⟨m,0,none⟩) 2 2,.slice (some ⟨m+1,0,none⟩) 1 1],_,rfl,by omega,v3,λi u hi=>?_,⟨_,_,rfl,hx⟩,λk hk=>?_,λhk=>?_⟩
    .rcases i with _|_|i
     .exact hi
     .exact hi
     .simp at hi
    .have hk:m<=k/\k<m+1+1:=hk;omega
    .have hk:m<=m+1+1/\m+1+1<m+1+1:=hk;omega
   .simp at hj
  .have hi:i<2:=hi;have hj:j<2:=hj;dsimp only at h1 h2;by_cases i0:i=0
   .rw[axl i0]at h1;rw[axm (by omega)]at h2;omega
   .rw[axm i0]at h1;rw[axl (by omega)]at h2;omega
 refine⟨_,_,λk=>a<=k/\k<m+1+1+1+1,rfl,λk hk=>hk,by simp,λ_ k=>a<=k/\k<m+1+1+1,λj x hj=>?_,λi j k hi hj hne=>?_⟩
 .rcases j with _|j
  .injection hj with hj;subst hj;refine⟨m+1+1+1,0,[.slice (some ⟨m+1+1,0,none⟩) 2 2],_,rfl,by omega,v4,λi u hi=>?_,⟨_,_,rfl,axk _,hrow⟩,λk hk=>by omega,λhk=>by omega⟩;rcases i with _|i
   .exact hi
   .simp at hi
  .simp at hj
 .have hi:i<1:=hi;have hj:j<1:=hj;omega
def Pv(n:Nat):List (List Int):=(range n).map λi=>(replicate n (0:Int)).set i 1++(replicate n 0).set i 1
theorem YE{xs:List (List Int)}(h:GE Xr 55 w B H v xs)(hH:H<=w.heap.size){u:Value}{x:List Int}(hx:OI w a b u x)(ha:H<=a)(hab:a<=b)(hb:b<=w.heap.size)(hB:B<=H)(hl:xs.length+1<=1099511627776):
 ∃v' w',(Builtin.append_ #[92,92] 92 #[v,.slice (some ⟨w.heap.size,0,none⟩) 1 1]).run prog (w.alloc (.cells #[u] 55))=.ok v' w'/\
  GE Xr 55 w' B w'.heap.size v' (xs++[x])/\(∀k,k<B->k<w.heap.size->w'.heap[k]?=w.heap[k]?)/\∀b',Ex b' w->b'.heap.size<=B->Ex b' w':=by
 obtain⟨i,hi,hz,hs,hby⟩:=axW nI;obtain⟨v',w',h1,h2,h3,_,_,h6⟩:=GE.push Xr Tryz.underlying92 hi hz hs hby rfl (by decide) (by omega) h hH (u:=[u]) (x:=x) (a:=a) (b:=b) ⟨u,rfl,hx⟩ ha hab hb hB hl;exact⟨v',w',h1,h2,λk hk hl=>h3.block k hl λe=>by have:=h.own k e.symm;omega,h6⟩
theorem xK(n:Nat)(w:World)(hn:n<=1000):
 Calls prog 126 #[.int .i64 n] w λe w'=>∃v,e=.returned (.agg #[.int .i64 n,.int .i64 n,v])/\GE Xr 55 w' w.heap.size w'.heap.size v (Pv n)/\Ex w w':=by
 obtain⟨W0,hW0,y0,d0,s0⟩:=VB.an w 94 #[.int .i64 0,.int .i64 0,.slice none 0 0] rfl;obtain⟨W1,hW1,y1,dz,s1⟩:=VB.an W0 94 #[.int .i64 0,.int .i64 0,.slice none 0 0] s0;obtain⟨d1,zz⟩:=dz.l8 (.int .i64 n) (.int .i64 n) (.slice none 0 0);obtain⟨u0,u1,u2⟩:=dz.d3;obtain⟨k0,k1,k2⟩:=dz.z3;have D0:=VB.aK (d0.ex y1) zz (by omega);have Y1:=(y0.trans y1).aK zz (by omega);have S1:w.heap.size+1+1<=(((W1.setCell ⟨w.heap.size+1,0,none⟩ (.int .i64 n)).setCell ⟨w.heap.size+1,1,none⟩ (.int .i64 n)).setCell ⟨w.heap.size+1,2,none⟩ (.slice none 0 0)).heap.size:=by have:=zz.size;omega
 clear y0 y1 d0;go_enter Tryz.func126,Tryz.ntmps126
 go_wp2_with fail
 clear hW0 hW1 k0 k1 k2 u0 u1 u2 dz;go_loopw [9] (λs9 wr=>∃(k:Nat) (v:Value),k<=n/\s9=.int .i64 k/\VB wr w.heap.size 94 #[.int .i64 0,.int .i64 0,.slice none 0 0]/\VB wr (w.heap.size+1) 94 #[.int .i64 n,.int .i64 n,v]/\GE Xr 55 wr (w.heap.size+1+1) wr.heap.size v ((Pv n).take k)/\w.heap.size+1+1<=wr.heap.size/\Ex w wr) (λs9 _=>n-(intOf s9).toNat)
 case atStart=>exact⟨0,_,axq _,rfl,D0,d1,GE.nil _ _ _ _ _,S1,Y1⟩
 case round=>
  rename World=>wi;clear D0 d1 Y1 zz S1 s0 s1 W0 W1;obtain⟨k,v,hk,rfl,V0,V1,hge,hsz,hex⟩:=hrel;have hil:(Pv n).length=n:=by unfold Pv;rw[axs,ayC]
  by_cases hkn:k<n
  .obtain⟨u,hu⟩:=xq ((replicate n (0:Int)).set k 1);have zY:u.length=n:=by rw[<-hu,axM,axH]
   have HT:=axj (show(Pv n).take (k+1)=(Pv n).take k++[u++u] by
    rw[axy,axn (by omega)];simp[Pv,hu])
   have htl:=ax7 k (Pv n);have cU:∀W,Calls prog 161 #[.int .i64 n,.int .i64 k] W λe w'=>∃g,e=.returned (.slice (some ⟨g,0,none⟩) n n)/\W.heap.size<=g/\dW w' g u/\Ex W w':=λW=>by rw[<-hu];exact afi n k (by omega) hkn W
   have cJ:∀(W:World) (ga gb:Nat),dW W ga u->dW W gb u->Calls prog 160 #[.slice (some ⟨W.heap.size,0,none⟩) 2 2] (W.alloc (.cells #[.slice (some ⟨ga,0,none⟩) n n,.slice (some ⟨gb,0,none⟩) n n] 55)) λe w'=>LIo (W.alloc (.cells #[.slice (some ⟨ga,0,none⟩) n n,.slice (some ⟨gb,0,none⟩) n n] 55)) (u++u) e w':=λW ga gb ha hb=>by obtain⟨hx,hv⟩:=VB.xn W 55 #[.slice (some ⟨ga,0,none⟩) n n,.slice (some ⟨gb,0,none⟩) n n];have:=NA (some ⟨W.heap.size,0,none⟩) 2 [u,u] _ (oC.two (by rw[zY];exact hv.c0) (by rw[zY];exact hv.c1) ((ha.ex hx).rd (by omega)) ((hb.ex hx).rd (by omega))) (by simp;omega);simpa using this
   have hHl:((Pv n).take k).length+1<=1099511627776:=by omega
   obtain⟨A,m,c,rfl⟩:∃A m c,v=.slice A m c:=by obtain⟨A,c,e⟩:=hge.kH;exact⟨A,_,c,e⟩
   have l0:=V1.c2;generalize u++u=uu at*;have HIL:=axj hil;clear hu zY hil htl;go_wp2_with fail
   go_region_law (first
    |(go_simp
      go_at_call 161
      refine(cU _).mono ?_;rintro e wu ⟨gu,rfl,hgu,bu,xu⟩
      first
      |(have y2:=y1.trans xu
        have b2:=bu;have b1:=b1.ex xu;have l2:=(V1.ex y2).c2;have lA:=λu=>(V1.ex (y2.alloc (.cells u 55))).c2)
      |(have y1:=(aCQ wi).drew.trans xu
        have b1:=bu;have l1:=(V1.ex y1).c2))
    |(refine aH rfl _ _ _ rfl rfl rfl hrun ?_)
    |(go_simp
      go_at_call 160
      first
      |refine(cJ _ _ _ b1 b2).mono ?_
      |refine(cJ _ _ _ b2 b1).mono ?_
      rintro e w9 ⟨v9,rfl,o9,x9⟩;have y9:=(y2.alloc _).trans x9;have z9:=y9.size;have l9:=(V1.ex y9).c2;have lB:=λu=>(V1.ex (y9.alloc (.cells u 55))).c2
      obtain⟨v',KX,hrun,GR,hk10,Fj⟩:=YE (hge.ex y9) z9 o9 (axA y2.size (by simp)) x9.size (axk _) hsz hHl;rw[<-HT.out]at GR;obtain⟨A5,m5,c5,rfl⟩:∃A m c,v'=.slice A m c:=by obtain⟨A,c,e⟩:=GR.kH;exact⟨A,_,c,e⟩
      have x10:=Fj w (hex.trans y9) (by omega);have ao6:VB KX w.heap.size 94 #[.int .i64 0,.int .i64 0,.slice none 0 0]:=(hk10 _ (by omega) (by omega)).trans (V0.ex y9);have adM:VB KX (w.heap.size+1) 94 #[.int .i64 n,.int .i64 n,.slice A m c]:=(hk10 _ (by omega) (by omega)).trans (V1.ex y9);have q10:=adM.c2;have f10:=adM.frozen 2;obtain⟨_,_,rfl,_⟩:=o9.form'))
   all_goals
    have e6:aM (w.heap.size+1) KX (KX.setCell ⟨w.heap.size+1,2,none⟩ (.slice A5 m5 c5)):=(aM.refl _ KX).setCell (p:=⟨w.heap.size+1,2,none⟩) rfl _;have WX:VB (KX.setCell ⟨w.heap.size+1,2,none⟩ (.slice A5 m5 c5)) (w.heap.size+1) 94 #[.int .i64 n,.int .i64 n,.slice A5 m5 c5]:=adM.bC 2 _;have V06:=VB.aK ao6 e6 (by omega);have PD:=(GR.k1 e6 (by omega)).more (axk _) (H':=(KX.setCell ⟨w.heap.size+1,2,none⟩ (.slice A5 m5 c5)).heap.size) (by simp);have x6:=x10.aK e6 (by omega);have z10:=adM.lt;have z6:w.heap.size+1+1<=(KX.setCell ⟨w.heap.size+1,2,none⟩ (.slice A5 m5 c5)).heap.size:=by simp;omega
    clear hrun GR Fj hk10 cU cJ HT hge V0 V1;go_wp2_with fail
    go_roundw;case rel=>exact⟨k+1,_,by omega,by go_num,V06,WX,PD,z6,x6⟩
    case measure=>simp[intOf];omega
  .obtain rfl:n=k:=by omega
   rw[axG (by omega)]at hge;obtain⟨q0,q1,q2⟩:=V1.d3;obtain⟨dd,zz⟩:=V0.l8 (.int .i64 n) (.int .i64 n) v;obtain⟨u0,u1,u2⟩:=V0.d3;obtain⟨k0,k1,k2⟩:=V0.z3;obtain⟨C0,C1,C2⟩:=dd.d3;have eF:=hex.aK zz (axk _);have gF:=(hge.k1 zz (by omega)).more (axA (ayY _) (ayY _)) zz.size;obtain⟨A,m,c,rfl⟩:∃A m c,v=.slice A m c:=by obtain⟨A,c,e⟩:=hge.kH;exact⟨A,_,c,e⟩
   clear hge V0 V1 hil;go_wp2_with fail
   refine axu (v:=.agg #[.int .i64 n,.int .i64 n,.slice A m c]) (by simp[results,Tryz.results126,go_sem,C0,C1,C2]) rfl ?_;exact⟨_,rfl,gF,eF⟩
theorem Ae(hF:av p=true)(hw:aQ n rows)(he:fQ p rows)(hn:n<=1000):∀r∈(ay p).aC n rows,r.length<=1099511627776:=λr hr=>by have:=(rT hF hw he).1.len r hr;omega
theorem J4(k:Int):∃l r:Nat,gw k=((l:Int),(r:Int))/\l+r<=3:=by
 unfold gw;split
 .exact⟨1,2,rfl,by omega⟩
 .split
  .exact⟨1,0,rfl,by omega⟩
  .split
   .exact⟨2,1,rfl,by omega⟩
   .split
    .exact⟨0,1,rfl,by omega⟩
    .exact⟨1,1,rfl,by omega⟩
theorem QW(p:Int)(n:Nat)(nm:ByteArray)(w:World)(hn:n<=1000):
 Calls prog 93 #[.int .i64 p,.agg #[.int .i64 1,.int .i64 n,.string nm]] w λe w'=>∃A c,e=.returned (.agg #[.int .i64 n,.int .i64 n,.slice A (Pv n).length c])/\oC w' A (Pv n)/\Ex w w':=by
 obtain⟨W0,hW0,x0,d0,s0⟩:=VB.an w 70 #[.int .i64 1,.int .i64 n,.string nm] rfl;obtain⟨W1,hW1,x1,d1,s1⟩:=VB.an W0 94 #[.int .i64 0,.int .i64 0,.slice none 0 0] s0;have D0:=d0.ex x1;have X1:=x0.trans x1;obtain⟨n0,n1⟩:=D0.d2;have cI:=xK n W1 hn;have hil:=axj (show(Pv n).length=n by unfold Pv;rw[axs,ayC]);go_enter Tryz.func93,Tryz.ntmps93
 go_wp2_with fail
 refine cI.mono ?_;rintro e w2 ⟨y,rfl,g2,x2⟩;have dz:=d1.ex x2;obtain⟨dd,zz⟩:=dz.l8 (.int .i64 n) (.int .i64 n) y;obtain⟨u0,u1,u2⟩:=dz.d3;obtain⟨k0,k1,k2⟩:=dz.z3;obtain⟨C0,C1,C2⟩:=dd.d3;have eF:=(X1.trans x2).aK zz (by omega);obtain⟨A,c,rfl,hM⟩:=(g2.k1 zz (by omega)).aiw (by have:=hil.out;omega);clear g2 cI;go_wp2_with fail
 refine axu (v:=.agg #[.int .i64 n,.int .i64 n,.slice A (Pv n).length c]) (by simp[results,Tryz.results93,go_sem,C0,C1,C2]) rfl ?_;exact⟨A,c,rfl,hM,eF⟩
theorem JS(p v:Int)(nm:ByteArray)(w:World)(hF:av p=true):
 Calls prog 93 #[.int .i64 p,.agg #[.int .i64 2,.int .i64 v,.string nm]] w λe w'=>∃A c,e=.returned (.agg #[.int .i64 2,.int .i64 2,.slice A ((ay p).aC 4 [[1,0,0,1],[0,1,1,0]]).length c])/\oC w' A ((ay p).aC 4 [[1,0,0,1],[0,1,1,0]])/\Ex w w':=by
 have h2:=ax hF;have hw4:aQ 4 [[1,0,0,1],[0,1,1,(0:Int)]]:=λu hu=>by
  rcases axI.1 hu with rfl|hu
  .rfl
  .rw[axJ.1 hu];rfl
 have xL:fQ p [[1,0,0,1],[0,1,1,0]]:=λu hu=>by
  have e1:iF p 1=true:=by simp[iF];omega
  have e0:iF p 0=true:=by simp[iF];omega
  rcases axI.1 hu with rfl|hu
  .simp[aA,e1,e0]
  .rw[axJ.1 hu];simp[aA,e1,e0]
 obtain⟨W0,hW0,x0,d0,s0⟩:=VB.an w 70 #[.int .i64 2,.int .i64 v,.string nm] rfl;obtain⟨W1,hW1,x1,d1,s1⟩:=VB.an W0 94 #[.int .i64 0,.int .i64 0,.slice none 0 0] s0;have D0:=d0.ex x1;have X1:=x0.trans x1;have n0:=D0.c0;have b1:=dW.new W1 [1,0,0,1];have y1:=(aCQ W1).alloc (aN [1,0,0,1]);obtain⟨W2,hW2⟩:=xq (W1.alloc (aN [1,0,0,1]));have s2:W2.heap.size=w.heap.size+1+1+1:=by rw[<-hW2];simp[s1]
 rw[hW2]at b1 y1;have b2:=dW.new W2 [0,1,1,0];have y2:=(aCQ W2).alloc (aN [0,1,1,0]);obtain⟨W3,hW3⟩:=xq (W2.alloc (aN [0,1,1,0]));have s3:W3.heap.size=w.heap.size+1+1+1+1:=by rw[<-hW3];simp[s2]
 rw[hW3]at b2 y2;rw[s2]at b2;rw[s1]at b1;obtain⟨y3,v4,W4,zZ⟩:=VB.al W3 55 #[.slice (some ⟨w.heap.size+1+1,0,none⟩) 4 4,.slice (some ⟨w.heap.size+1+1+1,0,none⟩) 4 4];rw[zZ]at y3 v4;rw[s3]at v4;have hM:oC W4 (some ⟨w.heap.size+1+1+1+1,0,none⟩) [[1,0,0,1],[0,1,1,0]]:=oC.two (v4.c0) (v4.c1) (((b1.ex y2).ex y3).rd (by simp)) ((b2.ex y3).rd (by simp));have cR:=rY p 2 2 [[1,0,0,1],[0,1,1,0]] _ 2 W4 hF hM hw4 xL (by omega) (by simp);rw[show 2+2=4 from rfl]at cR;have hRW:=Ae hF hw4 xL (by omega);generalize(ay p).aC 4 [[1,0,0,1],[0,1,1,0]]=RR at*;have Y:=(y1.trans y2).trans y3;clear hM hw4 xL b1 b2 y1 y2 y3 v4;go_enter Tryz.func93,Tryz.ntmps93
 go_wp2_with fail
 subst zZ hW3 hW2;refine cR.mono ?_;rintro e w2 ⟨A,c,rfl,r2,x2⟩;have dz:=d1.ex (Y.trans x2);obtain⟨dd,zz⟩:=dz.l8 (.int .i64 2) (.int .i64 2) (.slice A RR.length c);obtain⟨u0,u1,u2⟩:=dz.d3;obtain⟨k0,k1,k2⟩:=dz.z3;obtain⟨C0,C1,C2⟩:=dd.d3;have eF:=(X1.trans (Y.trans x2)).aK zz (by omega);have rF:=r2.st dz (by decide) zz;clear cR;go_wp2_with fail
 refine axu (v:=.agg #[.int .i64 2,.int .i64 2,.slice A RR.length c]) (by simp[results,Tryz.results93,go_sem,C0,C1,C2]) rfl ?_;exact⟨A,c,rfl,rF.rdm hRW,eF⟩
theorem Ny(p k v:Int)(nm:ByteArray)(l r:Nat)(w:World)(hF:av p=true)(hk:bL 3 7 k=true)(hv:k=7->iF p v=true)(hg:gw k=((l:Int),(r:Int))):
 Calls prog 93 #[.int .i64 p,.agg #[.int .i64 k,.int .i64 v,.string nm]] w λe w'=>∃A c,e=.returned (.agg #[.int .i64 l,.int .i64 r,.slice A (fU p k v).length c])/\oC w' A (fU p k v)/\Ex w w':=by
 have Wn:=VK (p:=p) (v:=v) hk;obtain⟨Wp,oL,gl⟩:=IW hF hk hv;rw[hg]at Wn Wp;have Wn:(ay p).aC (l+r) (lM k v)=fU p k v:=Wn;have Wp:aQ (l+r) (lM k v):=Wp;have hlr:l+r<=3:=by obtain⟨l',r',e,h⟩:=J4 k;rw[hg]at e;injection e with e1 e2;omega
 have hRW:=Ae hF Wp oL (by omega);have cR:∀(W:World) (A:Option Addr) (c:Nat),oC W A (lM k v)->Calls prog 127 #[.int .i64 p,.int .i64 l,.int .i64 r,.slice A (lM k v).length c] W λe w'=>∃A' c',e=.returned (.agg #[.int .i64 l,.int .i64 r,.slice A' (fU p k v).length c'])/\dU w' A' (fU p k v)/\Ex W w':=λW A c h=>by have:=rY p l r (lM k v) A c W hF h Wp oL (by omega) (by omega);rwa[Wn]at this
 rw[Wn]at hRW;have hk3:3<=k/\k<=7:=by simpa[bL]using hk
 have cW:=λW=>lK k (by simp[bL];omega) W
 rw[hg]at cW;have cG:=λW=>tu k v W
 have hb1:(k==1)=false:=by simp;omega
 have hb2:(k==2)=false:=by simp;omega
 have hb9:¬(9<=k):=by omega
 generalize fU p k v=LZ at*;generalize lM k v=GZ at*;clear Wn Wp oL gl hk hk3 hF hv hg hlr;obtain⟨W0,hW0,x0,d0,s0⟩:=VB.an w 70 #[.int .i64 k,.int .i64 v,.string nm] rfl;obtain⟨W1,hW1,x1,d1,s1⟩:=VB.an W0 94 #[.int .i64 0,.int .i64 0,.slice none 0 0] s0;have D0:=d0.ex x1;have X1:=x0.trans x1;obtain⟨n0,n1⟩:=D0.d2;go_enter Tryz.func93,Tryz.ntmps93
 go_wp2_with fail
 refine(cW _).mono ?_;rintro e w2 ⟨rfl,x2⟩;have z2:=x2.size;obtain⟨xw,dw,W3,hW3⟩:=VB.al w2 104 #[.int .i64 l,.int .i64 r];rw[hW3]at xw dw;have y3:=x2.trans xw;have d3:=d1.ex y3;have HS:∀W,aM (w.heap.size+1) W3 W->(W.cell? ⟨w.heap.size,0,none⟩=some (.int .i64 k)/\W.cell? ⟨w.heap.size,1,none⟩=some (.int .i64 v)/\W.cell? ⟨w2.heap.size,0,none⟩=some (.int .i64 l)/\W.cell? ⟨w2.heap.size,1,none⟩=some (.int .i64 r)):=λW hW=>
  have h1:=VB.aK (D0.ex y3) hW (by omega);have h2:=VB.aK dw hW (by omega)
  ⟨h1.c0,h1.c1,h2.c0,h2.c1⟩
 have X3:=X1.trans y3;obtain⟨dw0,dw1⟩:=dw.d2;clear cW hW0 hW1 D0 d1 dw;go_wp2_with fail
 clear hW3;go_region_held3 (λW=>W.cell? ⟨w.heap.size,0,none⟩=some (.int .i64 k)/\W.cell? ⟨w.heap.size,1,none⟩=some (.int .i64 v)/\W.cell? ⟨w2.heap.size,0,none⟩=some (.int .i64 l)/\W.cell? ⟨w2.heap.size,1,none⟩=some (.int .i64 r)) (first
  |(exact HS _ z9)|(exact HS _ (aM.aP y5))|(exact HS _ (aM.aP y4))|(exact HS _ (aM.aP (aCQ W3).drew))|(exact HS _ (aM.refl _ W3))) (first
  |(go_at_call 131
    refine(cG _).mono ?_;rintro e w4 ⟨A4,c4,rfl,r4,x4⟩;have y4:=(aCQ W3).drew.trans x4)
  |(go_at_call 127
    refine(cR _ _ _ r4).mono ?_;rintro e w9 ⟨A9,c9,rfl,r9,x9⟩;have y5:=y4.trans x9;have dz:=d3.ex y5;obtain⟨dd,zz⟩:=dz.l8 (.int .i64 l) (.int .i64 r) (.slice A9 LZ.length c9);have z9:=(aM.aP y5).trans zz;obtain⟨u0,u1,u2⟩:=dz.d3;obtain⟨k0,k1,k2⟩:=dz.z3;obtain⟨C0,C1,C2⟩:=dd.d3;have eF:=(X3.trans y5).aK zz (by omega);have rF:=r9.st dz (by decide) zz))
 all_goals
  go_wp2_with fail
  refine axu (v:=.agg #[.int .i64 l,.int .i64 r,.slice A9 LZ.length c9]) (by simp[results,Tryz.results93,go_sem,C0,C1,C2]) rfl ?_;exact⟨A9,c9,rfl,rF.rdm hRW,eF⟩
theorem QX(p k v:Int)(nm:ByteArray)(l r:Nat)(w:World)(hF:av p=true)(hk:bL 9 13 k=true)(hv:k=13->iF p v=true)(hg:gw (k-6)=((l:Int),(r:Int))):
 Calls prog 93 #[.int .i64 p,.agg #[.int .i64 k,.int .i64 v,.string nm]] w λe w'=>∃A c,e=.returned (.agg #[.int .i64 r,.int .i64 l,.slice A (fU p k v).length c])/\oC w' A (fU p k v)/\Ex w w':=by
 have hk3:9<=k/\k<=13:=by simpa[bL]using hk
 have Wn:=QV (p:=p) (v:=v) hF hk hv;obtain⟨Wp,oL,gl⟩:=IW (k:=k-6) (v:=v) hF (by simp[bL];omega) (λe=>hv (by omega));rw[hg]at Wn Wp;have Wn:(ay p).aC (r+l) (iM l ((ay p).aC (l+r) (lM (k-6) v)))=fU p k v:=Wn;have Wp:aQ (l+r) (lM (k-6) v):=Wp;have hlr:l+r<=3:=by obtain⟨l',r',e,h⟩:=J4 (k-6);rw[hg]at e;injection e with e1 e2;omega
 have cR:∀(W:World) (A:Option Addr) (c:Nat),oC W A (lM (k-6) v)->Calls prog 127 #[.int .i64 p,.int .i64 l,.int .i64 r,.slice A (lM (k-6) v).length c] W λe w'=>∃A' c',e=.returned (.agg #[.int .i64 l,.int .i64 r,.slice A' ((ay p).aC (l+r) (lM (k-6) v)).length c'])/\dU w' A' ((ay p).aC (l+r) (lM (k-6) v))/\Ex W w':=λW A c h=>
  rY p l r (lM (k-6) v) A c W hF h Wp oL (by omega) (by omega)
 obtain⟨qP,qE⟩:=rT hF Wp oL;have qL:=oU (ay p) (l+r) (lM (k-6) v);have hRW:=Ae hF (IZ qP.len) (Oe qE) (by omega);rw[Wn]at hRW;have cK:∀(W:World) (A:Option Addr) (c:Nat),dU W A ((ay p).aC (l+r) (lM (k-6) v))->Calls prog 130 #[.int .i64 p,.agg #[.int .i64 l,.int .i64 r,.slice A ((ay p).aC (l+r) (lM (k-6) v)).length c]] W λe w'=>∃A' c',e=.returned (.agg #[.int .i64 r,.int .i64 l,.slice A' (fU p k v).length c'])/\dU w' A' (fU p k v)/\Ex W w':=λW A c h=>by have:=R7 p l r _ A c W hF h qP.len qE (by omega) (by omega);rwa[Wn]at this
 have cM:=λW=>JO k (by simp[bL];omega) W
 have cW:=λW=>lK (k-6) (by simp[bL];omega) W
 rw[hg]at cW;have cG:=λW=>tu (k-6) v W
 have hb1:(k==1)=false:=by simp;omega
 have hb2:(k==2)=false:=by simp;omega
 have hb9:(9<=k):=by omega
 generalize fU p k v=LZ at*;generalize(ay p).aC (l+r) (lM (k-6) v)=QZ at*;generalize lM (k-6) v=GZ at*;generalize k-6=k6 at*;clear Wn Wp oL gl hk hk3 hF hv hg hlr qP qE qL;obtain⟨W0,hW0,x0,d0,s0⟩:=VB.an w 70 #[.int .i64 k,.int .i64 v,.string nm] rfl;obtain⟨W1,hW1,x1,d1,s1⟩:=VB.an W0 94 #[.int .i64 0,.int .i64 0,.slice none 0 0] s0;have D0:=d0.ex x1;have X1:=x0.trans x1;obtain⟨n0,n1⟩:=D0.d2;go_enter Tryz.func93,Tryz.ntmps93
 go_wp2_with fail
 refine(cM _).mono ?_;rintro e _ ⟨rfl,rfl⟩;go_wp2_with fail
 refine(cW _).mono ?_;rintro e w2 ⟨rfl,x2⟩;have z2:=x2.size;obtain⟨xw,dw,W3,hW3⟩:=VB.al w2 104 #[.int .i64 l,.int .i64 r];rw[hW3]at xw dw;have y3:=x2.trans xw;have d3:=d1.ex y3;have HS:∀W,aM (w.heap.size+1) W3 W->(W.cell? ⟨w.heap.size,0,none⟩=some (.int .i64 k)/\W.cell? ⟨w.heap.size,1,none⟩=some (.int .i64 v)/\W.cell? ⟨w2.heap.size,0,none⟩=some (.int .i64 l)/\W.cell? ⟨w2.heap.size,1,none⟩=some (.int .i64 r)):=λW hW=>
  have h1:=VB.aK (D0.ex y3) hW (by omega);have h2:=VB.aK dw hW (by omega)
  ⟨h1.c0,h1.c1,h2.c0,h2.c1⟩
 have X3:=X1.trans y3;obtain⟨dw0,dw1⟩:=dw.d2;clear cW hW0 hW1 D0 d1 dw;go_wp2_with fail
 clear hW3;go_region_held3 (λW=>W.cell? ⟨w.heap.size,0,none⟩=some (.int .i64 k)/\W.cell? ⟨w.heap.size,1,none⟩=some (.int .i64 v)/\W.cell? ⟨w2.heap.size,0,none⟩=some (.int .i64 l)/\W.cell? ⟨w2.heap.size,1,none⟩=some (.int .i64 r)) (first
  |(exact HS _ z9)|(exact HS _ (aM.aP y6))|(exact HS _ (aM.aP y5))|(exact HS _ (aM.aP y4))|(exact HS _ (aM.aP (aCQ W3).drew))|(exact HS _ (aM.refl _ W3))) (first
  |(go_at_call 129
    refine(cM _).mono ?_;rintro e _ ⟨rfl,rfl⟩)
  |(go_at_call 131
    refine(cG _).mono ?_;rintro e w4 ⟨A4,c4,rfl,r4,x4⟩;have y4:=(aCQ W3).drew.trans x4)
  |(go_at_call 127
    refine(cR _ _ _ r4).mono ?_;rintro e w5 ⟨A5,c5,rfl,r5,x5⟩;have y5:=y4.trans x5)
  |(go_at_call 130
    refine(cK _ _ _ r5).mono ?_;rintro e w9 ⟨A9,c9,rfl,r9,x9⟩;have y6:=y5.trans x9;have dz:=d3.ex y6;obtain⟨dd,zz⟩:=dz.l8 (.int .i64 r) (.int .i64 l) (.slice A9 LZ.length c9);have z9:=(aM.aP y6).trans zz;obtain⟨u0,u1,u2⟩:=dz.d3;obtain⟨k0,k1,k2⟩:=dz.z3;obtain⟨C0,C1,C2⟩:=dd.d3;have eF:=(X3.trans y6).aK zz (by omega);have rF:=r9.st dz (by decide) zz))
 all_goals
  go_wp2_with fail
  refine axu (v:=.agg #[.int .i64 r,.int .i64 l,.slice A9 LZ.length c9]) (by simp[results,Tryz.results93,go_sem,C0,C1,C2]) rfl ?_;exact⟨A9,c9,rfl,rF.rdm hRW,eF⟩
theorem aaT(a:Int)(w:World):Calls prog 85 #[.int .i64 a] w λe w'=>G8 w (cF a) e w':=by
 by_cases h:a=0
 .subst h;exact OE w
 .have e:cF a=⟨[a],[1]⟩:=axm h;rw[e];exact zJ a h w
theorem Zg(rows:List (List Int))(A:Option Addr)(c:Nat)(w:World)(h:oC w A rows):
 Calls prog 125 #[.slice A rows.length c] w λe w'=>∃v,e=.returned v/\rQ w' w.heap.size w'.heap.size v (rq rows)/\Ex w w':=by
 have ZY:=h.1;obtain⟨R,hR⟩:=xq rows.length;have HR:=axj hR;rw[hR]at ZY⊢;clear hR;have H:=axj h;have tX:=GE.empty Xc 54 w (axk w.heap.size);have he1:=(aCQ w).alloc (.cells #[] 54);have hs1:(w.alloc (.cells #[] 54)).heap.size=w.heap.size+1:=by simp
 rw[<-hs1]at tX;go_enter Tryz.func125,Tryz.ntmps125
 go_wp2_with fail
 generalize w.alloc (.cells #[] 54)=W1 at*;go_loopw [3,12] (λo i wr=>∃k:Nat,k<=R/\i=.int .i64 k/\GE Xc 54 wr w.heap.size wr.heap.size o (rq (rows.take k))/\Ex w wr) (λ_ i _=>R-(intOf i).toNat)
 case atStart=>exact⟨0,axq _,rfl,tX,he1⟩
 case round=>
  rename World=>wi;clear tX he1 hs1;obtain⟨k,hk,rfl,hge,hi⟩:=hrel;by_cases hlt:k<R
  .obtain⟨g,off,B,d,r,e1,hr,hc,hrd⟩:=H.out.at_ (k:=k) (by rw[HR.out];exact hlt);subst e1;have Hr:=axj hr;have hc:=af hi hc;have hrd:=axj (hrd.ex hi);have hrl:=hrd.out.len;obtain⟨L,hL⟩:=xq r.length;have HL:=axj hL;rw[hL]at hc hrl;have HT:=axj (show rq (rows.take (k+1))=rq (rows.take k)++[r.map cF] by rw[axy,hr];simp[rq]);have htl:(rq (rows.take k)).length<=k:=by simp[rq];omega
   clear hr hL;have hz:=hi.size;have gf0:=GE.empty rR 57 wi (axk wi.heap.size);have y1:=(aCQ wi).alloc (.cells #[] 57);have s1:(wi.alloc (.cells #[] 57)).heap.size=wi.heap.size+1:=by simp
   rw[<-s1]at gf0;go_wp2_with fail
   generalize wi.alloc (.cells #[] 57)=W2 at*;go_loopw [6,19] (λo i wr=>∃j:Nat,j<=L/\i=.int .i64 j/\GE rR 57 wr wi.heap.size wr.heap.size o ((r.take j).map cF)/\Ex wi wr) (λ_ i _=>L-(intOf i).toNat)
   case atStart=>exact⟨0,axq _,rfl,gf0,y1⟩
   case round=>
    rename World=>wj;clear gf0 y1 s1;obtain⟨j,hj,rfl,hgf,hij⟩:=hrel;by_cases hlt2:j<L
    .obtain⟨g',off',y,eB,hy,hgl,hcell⟩:=(hrd.out.ex hij).at_ (by rw[HL.out];exact hlt2);subst eB;have HT2:=axj (show(r.take (j+1)).map cF=(r.take j).map cF++[cF y] by rw[axy,hy];simp);have af4:((r.take j).map cF).length<=j:=by simp;omega
     have hzj:=hij.size;clear hy;go_wp2_with fail
     refine(aaT y wj).mono ?_;rintro e w3 ⟨A3,c3,B3,d3,rfl,f3,p3,Uw,x3⟩;have hz3:=x3.size;obtain⟨v',w4,hrun,hge4,_,NQ,zf⟩:=jU (hgf.ex x3) hz3 (dZ (x:=cF y) f3 p3 Uw hz3) (axk _) hz3 (axk _) hzj (by omega);rw[<-HT2.out]at hge4;have xL:=zf wi (hij.trans x3) (axk _);clear zf HT2 hgf;go_wp2_with (at_builtin;refine wpList_append_run rfl _ _ _ rfl rfl rfl hrun ?_)
     go_roundw;case rel=>exact⟨j+1,by omega,by go_num,hge4,xL⟩
     case measure=>simp[intOf];omega
    .obtain rfl:j=L:=by omega
     rw[axG (by rw[HL.out];exact axk _)]at hgf;have hzj:=hij.size;obtain⟨oA,oc,eo⟩:=hgf.kH;rw[axs,HL.out]at eo;subst eo;obtain⟨v',w',hrun,Rn,ho',_,hE'⟩:=qz (hge.ex hij) hzj hgf (by rw[axs,HL.out];omega) (axk _) hzj (axk _) hz (by omega);rw[<-HT.out]at Rn;have xw:=hE' w (hi.trans hij) (axk _);clear hE' HT hge ho';go_wp2_with (at_builtin;refine wpList_append_run rfl _ _ _ rfl rfl rfl hrun ?_)
     go_roundw;case rel=>exact⟨k+1,by omega,by go_num,Rn,xw⟩
     case measure=>simp[intOf];omega
  .obtain rfl:k=R:=by omega
   rw[axG (by rw[HR.out];exact axk _)]at hge;go_wp2_with fail
   go_ret;exact⟨_,rfl,hge.ofx (by simp[rq];have:=HR.out;omega),hi⟩
theorem EP(x:Rln)(A:Option Addr)(c:Nat)(w:World)(h:oC w A x.b):
 Calls prog 92 #[.agg #[.int .i64 x.l,.int .i64 x.r,.slice A x.b.length c]] w λe w'=>∃y,e=.returned (.agg #[.int .i64 x.l,.int .i64 x.r,y])/\rQ w' w.heap.size w'.heap.size y (rq x.b)/\Ex w w':=by
 obtain⟨l,r,rows⟩:=x;dsimp only at h⊢;obtain⟨x0,v0⟩:=VB.xn w 94 #[.int .i64 l,.int .i64 r,.slice A rows.length c];have S0:(w.alloc (.cells #[.int .i64 l,.int .i64 r,.slice A rows.length c] 94)).heap.size=w.heap.size+1:=by simp
 go_enter Tryz.func92,Tryz.ntmps92
 go_wp2_with fail
 generalize w.alloc (.cells #[.int .i64 l,.int .i64 r,.slice A rows.length c] 94)=W0 at*;obtain⟨y1,d1⟩:=VB.xn W0 28 #[.int .i64 0,.int .i64 0,.slice none 0 0];rw[S0]at d1;generalize W0.alloc (.cells #[.int .i64 0,.int .i64 0,.slice none 0 0] 28)=W1 at*;have x1:=x0.trans y1;have v1:=v0.ex y1;obtain⟨q0,q1,q2⟩:=v1.d3;have hl1:=v1.lt;have hd1:=d1.lt;have cL:=Zg rows A c W1.drew (h.ex x1.drew);have z0:=d1.c0;go_region_held3 (λW=>W.cell? ⟨w.heap.size,0,none⟩=some (.int .i64 l)/\W.cell? ⟨w.heap.size,1,none⟩=some (.int .i64 r)/\W.cell? ⟨w.heap.size,2,none⟩=some (.slice A rows.length c)) (first
  |(exact⟨q0,q1,q2⟩)
  |(exact⟨af e3 q0,af e3 q1,af e3 q2⟩)
  |(exact⟨V4.c0,V4.c1,V4.c2⟩)) (first
  |(go_at_call 125
    refine cL.mono ?_;rintro e w3 ⟨v,rfl,o,x3⟩;have e3:Ex W1 w3:=(aCQ W1).drew.trans x3;obtain⟨A1,c1,rfl,_⟩:=o.rd;have dz:=d1.ex e3;obtain⟨u0,u1,u2⟩:=dz.d3;obtain⟨k0,k1,k2⟩:=dz.z3;obtain⟨dd,zz⟩:=dz.l8 (.int .i64 l) (.int .i64 r) (.slice A1 (rq rows).length c1);have V4:=(v1.ex e3).aK zz (by omega)))
 obtain⟨C0,C1,C2⟩:=dd.d3;have o':rQ w3 W1.heap.size w3.heap.size (.slice A1 (rq rows).length c1) (rq rows):=o;have s3:=x1.size;have fx2:=(o'.iv (jE.aZ zz) (by omega)).more (a':=w.heap.size) (b':=w3.heap.size) (by omega) (axk _);have eF:=(x1.trans e3).aK zz (by omega);go_wp2_with fail
 refine axu (v:=.agg #[.int .i64 l,.int .i64 r,.slice A1 (rq rows).length c1]) (by simp[results,Tryz.results92,go_sem,C0,C1,C2]) rfl ?_;exact⟨_,rfl,fx2.more (axk _) (ayH (by simp)),eF⟩
theorem CU.AQ{y:Value}{q:RQ}(h:rQ w a b y q.b)(hab:a<b)(hb:b<=w.heap.size):CU.O w a b [.int .i64 q.l,.int .i64 q.r,y] q:=by obtain⟨A,c,S,e,hS,o⟩:=h;subst e;exact⟨hab,hb,A,c,rfl,λw2 hk=>⟨A,c,S,rfl,hS,o.keep λi hi _=>hk i (hS i hi).1 (hS i hi).2⟩⟩
theorem U_(p v:Int)(nm:ByteArray)(w:World):
 Calls prog 53 #[.int .i64 p,.agg #[.int .i64 8,.int .i64 v,.string nm]] w λe w'=>∃y,e=.returned (.agg #[.int .i64 1,.int .i64 1,y])/\CU.O w' w.heap.size w'.heap.size [.int .i64 (1:Nat),.int .i64 (1:Nat),y] ⟨1,1,[[oF,xF]]⟩/\Ex w w':=by
 obtain⟨W0,hW0,x0,d0,s0⟩:=VB.an w 70 #[.int .i64 8,.int .i64 v,.string nm] rfl;obtain⟨W1,hW1,x1,d1,s1⟩:=VB.an W0 28 #[.int .i64 0,.int .i64 0,.slice none 0 0] s0;have D0:=d0.ex x1;have X1:=x0.trans x1;have cU:Calls prog 90 #[] W1 λe w'=>∃A c B d,e=.returned (.agg #[.slice A 1 c,.slice B 1 d])/\Fr w' W1.heap.size A c [1]/\Fr w' W1.heap.size B d [1]/\Apart A B/\Ex W1 w':=yg W1
 clear x0 x1 d0;go_enter Tryz.func53,Tryz.ntmps53
 go_wp2_with fail
 refine cU.mono ?_;rintro e w2 ⟨A,a,B,b,rfl,fA,fB,fAB,x2⟩;clear cU hW0 hW1;have b1:=dW.new w2 [0,1];have y1:=(aCQ w2).alloc (aN [0,1]);obtain⟨V1,hV1⟩:=xq (w2.alloc (.cells #[.int .i64 0,.int .i64 1] 3));have ZX:w2.alloc (aN [0,1])=V1:=hV1;have t1:V1.heap.size=w2.heap.size+1:=by rw[<-hV1];simp
 rw[ZX]at b1 y1;have b2:=dW.new V1 [1];have y2:=(aCQ V1).alloc (aN [1]);obtain⟨V2,hV2⟩:=xq (V1.alloc (.cells #[.int .i64 1] 3));have ZW:V1.alloc (aN [1])=V2:=hV2;have t2:V2.heap.size=w2.heap.size+1+1:=by rw[<-hV2];simp[t1]
 rw[ZW]at b2 y2;rw[t1]at b2;obtain⟨V3,hV3,y3,v3,t3⟩:=VB.an V2 57 #[.slice A 1 a,.slice B 1 b,.slice (some ⟨w2.heap.size,0,none⟩) 2 2,.slice (some ⟨w2.heap.size+1,0,none⟩) 1 1] t2;obtain⟨V4,hV4,y4,v4,t4⟩:=VB.an V3 54 #[.slice (some ⟨w2.heap.size+1+1,0,none⟩) 2 2] t3;obtain⟨V5,hV5,y5,dz,t5⟩:=VB.an V4 28 #[.int .i64 0,.int .i64 0,.slice none 0 0] t4;obtain⟨d6,zz⟩:=dz.l8 (.int .i64 1) (.int .i64 1) (.slice (some ⟨w2.heap.size+1+1+1,0,none⟩) 1 1);obtain⟨u0,u1,u2⟩:=dz.d3;obtain⟨k0,k1,k2⟩:=dz.z3;have hz2:=x2.size;have y25:=(((y1.trans y2).trans y3).trans y4).trans y5;have XW:=(x2.trans y25);obtain⟨V6,hV6⟩:=xq (((V5.setCell ⟨w2.heap.size+1+1+1+1,0,none⟩ (.int .i64 1)).setCell ⟨w2.heap.size+1+1+1+1,1,none⟩ (.int .i64 1)).setCell ⟨w2.heap.size+1+1+1+1,2,none⟩ (.slice (some ⟨w2.heap.size+1+1+1,0,none⟩) 1 1));rw[hV6]at d6 zz;have e6:=zz.size;have DX:rQ V6 (w.heap.size+1+1) (w2.heap.size+1+1+1+1) (.slice (some ⟨w2.heap.size+1+1+1,0,none⟩) 1 1) [[oF,xF]]:=by have UI:=VB.aK ((v3.ex y4).ex y5) zz (by omega);have v4':=VB.aK (v4.ex y5) zz (by omega);have b1':=dW.aK ((((b1.ex y2).ex y3).ex y4).ex y5) zz (by omega);have b2':=dW.aK (((b2.ex y3).ex y4).ex y5) zz (by omega);have fX:=(((dZ (x:=oF) (B:=w.heap.size+1+1) (by rw[<-s1];exact fA) (by rw[<-s1];exact fB) fAB (by omega)).ex y25).e1 zz (.inr (by omega))).xf;exact adw fX (by omega) b1' b2' UI v4'
 have d1':=VB.aK (d1.ex XW) zz (by omega);have D0':=VB.aK (D0.ex XW) zz (by omega);have X6:=(X1.trans XW).aK zz (by omega);obtain⟨g0,g1,g2⟩:=D0'.d3;obtain⟨m0,m1,m2⟩:=d6.d3;obtain⟨dd,zr⟩:=d1'.l8 (.int .i64 1) (.int .i64 1) (Value.slice (some ⟨w2.heap.size+1+1+1,0,none⟩) 1 1);obtain⟨r0,r1,r2⟩:=d1'.d3;obtain⟨f0,f1,f2⟩:=d1'.z3;obtain⟨C0,C1,C2⟩:=dd.d3;have eF:=X6.aK zr (by omega);have zs:=zr.size;clear d6 D0' D0 dz v3 v4 b1 b2;go_wp2_with fail
 refine axu (v:=.agg #[.int .i64 1,.int .i64 1,.slice (some ⟨w2.heap.size+1+1+1,0,none⟩) 1 1]) (by simp[results,Tryz.results53,go_sem,C0,C1,C2]) rfl ?_;refine⟨_,rfl,CU.AQ (q:=⟨1,1,[[oF,xF]]⟩) (((DX.iv (jE.aZ zr) (.inr (by omega))).more (a':=w.heap.size) (by omega) (by omega))) (by omega) (axk _),eF⟩
theorem Qo(p v:Int)(nm:ByteArray)(w:World)(hF:av p=true):
 Calls prog 53 #[.int .i64 p,.agg #[.int .i64 14,.int .i64 v,.string nm]] w λe w'=>∃y,e=.returned (.agg #[.int .i64 1,.int .i64 1,y])/\CU.O w' w.heap.size w'.heap.size [.int .i64 (1:Nat),.int .i64 (1:Nat),y] ⟨1,1,(au p).aC 2 [[xF,oF]]⟩/\Ex w w':=by
 have hG:iB p 21 [[oF,xF]]:=by have:=(mX.delay (hF:=hF)).gd.mono (show 1+1<=21 by omega);rwa[CY hF]at this
 obtain⟨RR,hRR⟩:=xq ((au p).aC 2 [[xF,oF]]);rw[hRR];have HRR:=axj hRR;clear hRR;obtain⟨W0,hW0,x0,d0,s0⟩:=VB.an w 70 #[.int .i64 14,.int .i64 v,.string nm] rfl;obtain⟨W1,hW1,x1,d1,s1⟩:=VB.an W0 28 #[.int .i64 0,.int .i64 0,.slice none 0 0] s0;have D0:=d0.ex x1;have X1:=x0.trans x1;have cU:Calls prog 90 #[] W1 λe w'=>∃A c B d,e=.returned (.agg #[.slice A 1 c,.slice B 1 d])/\Fr w' W1.heap.size A c [1]/\Fr w' W1.heap.size B d [1]/\Apart A B/\Ex W1 w':=yg W1
 clear x0 x1 d0;go_enter Tryz.func53,Tryz.ntmps53
 go_wp2_with fail
 refine cU.mono ?_;rintro e w2 ⟨A,a,B,b,rfl,fA,fB,_,x2⟩;clear cU hW0 hW1;have b1:=dW.new w2 [0,1];have y1:=(aCQ w2).alloc (aN [0,1]);obtain⟨V1,hV1⟩:=xq (w2.alloc (.cells #[.int .i64 0,.int .i64 1] 3));have ZX:w2.alloc (aN [0,1])=V1:=hV1;have t1:V1.heap.size=w2.heap.size+1:=by rw[<-hV1];simp
 rw[ZX]at b1 y1;have b2:=dW.new V1 [1];have y2:=(aCQ V1).alloc (aN [1]);obtain⟨V2,hV2⟩:=xq (V1.alloc (.cells #[.int .i64 1] 3));have ZW:V1.alloc (aN [1])=V2:=hV2;have t2:V2.heap.size=w2.heap.size+1+1:=by rw[<-hV2];simp[t1]
 rw[ZW]at b2 y2;rw[t1]at b2;obtain⟨V3,hV3,y3,v3,t3⟩:=VB.an V2 57 #[.slice A 1 a,.slice B 1 b,.slice (some ⟨w2.heap.size,0,none⟩) 2 2,.slice (some ⟨w2.heap.size+1,0,none⟩) 1 1] t2;obtain⟨V4,hV4,y4,v4,t4⟩:=VB.an V3 54 #[.slice (some ⟨w2.heap.size+1+1,0,none⟩) 2 2] t3;obtain⟨V5,hV5,y5,dz,t5⟩:=VB.an V4 28 #[.int .i64 0,.int .i64 0,.slice none 0 0] t4;obtain⟨d6,zz⟩:=dz.l8 (.int .i64 1) (.int .i64 1) (.slice (some ⟨w2.heap.size+1+1+1,0,none⟩) 1 1);obtain⟨u0,u1,u2⟩:=dz.d3;obtain⟨k0,k1,k2⟩:=dz.z3;have hz2:=x2.size;have y25:=(((y1.trans y2).trans y3).trans y4).trans y5;have XW:=(x2.trans y25);obtain⟨V6,hV6⟩:=xq (((V5.setCell ⟨w2.heap.size+1+1+1+1,0,none⟩ (.int .i64 1)).setCell ⟨w2.heap.size+1+1+1+1,1,none⟩ (.int .i64 1)).setCell ⟨w2.heap.size+1+1+1+1,2,none⟩ (.slice (some ⟨w2.heap.size+1+1+1,0,none⟩) 1 1));rw[hV6]at d6 zz;have e6:=zz.size;have DL:Dly V6 (w2.heap.size+1+1+1) (w2.heap.size+1+1) A B (some ⟨w2.heap.size,0,none⟩) (some ⟨w2.heap.size+1,0,none⟩) a b 2 1 1 2:=by have UI:=VB.aK ((v3.ex y4).ex y5) zz (by omega);have v4':=VB.aK (v4.ex y5) zz (by omega);have b1':=dW.aK ((((b1.ex y2).ex y3).ex y4).ex y5) zz (by omega);have b2':=dW.aK (((b2.ex y3).ex y4).ex y5) zz (by omega);have hA:=(fA.rd.ex y25).aK zz (λq e=>by have:=fA.rd.sS (by simp) q e;omega);have hB:=(fB.rd.ex y25).aK zz (λq e=>by have:=fB.rd.sS (by simp) q e;omega);exact⟨v4'.c0,axk _,UI.c0,UI.c1,UI.c2,UI.c3,hA,hB,b1'.rd (by simp),b2'.rd (by simp)⟩
 have lA:∀q,A=some q->w.heap.size+1+1<=q.block/\q.block<w2.heap.size+1:=λq e=>⟨by have:=fA.hi q e;omega,by have:=fA.rd.sS (by simp) q e;omega⟩
 have lB:∀q,B=some q->w.heap.size+1+1<=q.block/\q.block<w2.heap.size+1:=λq e=>⟨by have:=fB.hi q e;omega,by have:=fB.rd.sS (by simp) q e;omega⟩
 have d1':=VB.aK (d1.ex XW) zz (by omega);have D0':=VB.aK (D0.ex XW) zz (by omega);have X6:=(X1.trans XW).aK zz (by omega);obtain⟨g0,g1,g2⟩:=D0'.d3;obtain⟨m0,m1,m2⟩:=d6.d3;have cC:Calls prog 91 #[.int .i64 p,.agg #[.int .i64 1,.int .i64 1,.slice (some ⟨w2.heap.size+1+1+1,0,none⟩) 1 1]] V6 λe w'=>∃y,e=.returned (.agg #[.int .i64 1,.int .i64 1,y])/\rQ w' V6.heap.size w'.heap.size y RR/\Ex V6 w':=by rw[<-HRR.out];exact GA p 1 1 [[oF,xF]] (some ⟨w2.heap.size+1+1+1,0,none⟩) 1 V6 DL.Da (by simp) (by omega) (λu hu=>by rw[axJ.1 hu];rfl) (λu hu=>by rw[axJ.1 hu];simp) hF hG
 clear hG hF;clear d6 D0' D0 dz v3 v4 b1 b2;go_wp2_with fail
 refine cC.mono ?_;rintro e w9 ⟨y,rfl,o9,x9⟩;have d9:=d1'.ex x9;obtain⟨A9,c9,ey,_⟩:=o9.rd;subst ey;have z9:=x9.size;obtain⟨dd,zr⟩:=d9.l8 (.int .i64 1) (.int .i64 1) (.slice A9 RR.length c9);obtain⟨r0,r1,r2⟩:=d9.d3;obtain⟨f0,f1,f2⟩:=d9.z3;obtain⟨C0,C1,C2⟩:=dd.d3;have eF:=(X6.trans x9).aK zr (by omega);have zs:=zr.size;have oF9:=(o9.iv (jE.aZ zr) (.inr (by omega))).more (a':=w.heap.size) (by omega) zs;have hE:=CU.AQ (q:=⟨1,1,RR⟩) oF9 (by omega) (axk _);clear cC o9 oF9;go_wp2_with fail
 refine axu (v:=.agg #[.int .i64 1,.int .i64 1,.slice A9 RR.length c9]) (by simp[results,Tryz.results53,go_sem,C0,C1,C2]) rfl ?_;exact⟨_,rfl,hE,eF⟩
theorem vo(p k v:Int)(nm:ByteArray)(l r:Nat)(LZ:List (List Int))(w:World)(h8:k≠8)(uJ:k≠14)
 (cL:∀W,Calls prog 93 #[.int .i64 p,.agg #[.int .i64 k,.int .i64 v,.string nm]] W λe w'=>∃A c,e=.returned (.agg #[.int .i64 l,.int .i64 r,.slice A LZ.length c])/\oC w' A LZ/\Ex W w'):
 Calls prog 53 #[.int .i64 p,.agg #[.int .i64 k,.int .i64 v,.string nm]] w λe w'=>∃y,e=.returned (.agg #[.int .i64 l,.int .i64 r,y])/\CU.O w' w.heap.size w'.heap.size [.int .i64 l,.int .i64 r,y] ⟨l,r,rq LZ⟩/\Ex w w':=by
 have hb8:(k==8)=false:=by simp;omega
 have aoc:(k==14)=false:=by simp;omega
 clear h8 uJ;have cK:=λ(W:World) (A:Option Addr) (c:Nat) (h:oC W A LZ)=>EP ⟨l,r,LZ⟩ A c W h
 dsimp only at cK;obtain⟨RR,hRR⟩:=xq (rq LZ);rw[hRR]at cK⊢;clear hRR;obtain⟨W0,hW0,x0,d0,s0⟩:=VB.an w 70 #[.int .i64 k,.int .i64 v,.string nm] rfl;obtain⟨W1,hW1,x1,d1,s1⟩:=VB.an W0 28 #[.int .i64 0,.int .i64 0,.slice none 0 0] s0;have D0:=d0.ex x1;have X1:=x0.trans x1;have cU:Calls prog 90 #[] W1 λe w'=>∃A c B d,e=.returned (.agg #[.slice A 1 c,.slice B 1 d])/\Fr w' W1.heap.size A c [1]/\Fr w' W1.heap.size B d [1]/\Apart A B/\Ex W1 w':=yg W1
 clear x0 x1 d0;go_enter Tryz.func53,Tryz.ntmps53
 go_wp2_with fail
 refine cU.mono ?_;rintro e w2 ⟨A,a,B,b,rfl,fA,fB,_,x2⟩;clear cU hW0 hW1;have b1:=dW.new w2 [0,1];have y1:=(aCQ w2).alloc (aN [0,1]);obtain⟨V1,hV1⟩:=xq (w2.alloc (.cells #[.int .i64 0,.int .i64 1] 3));have ZX:w2.alloc (aN [0,1])=V1:=hV1;have t1:V1.heap.size=w2.heap.size+1:=by rw[<-hV1];simp
 rw[ZX]at b1 y1;have b2:=dW.new V1 [1];have y2:=(aCQ V1).alloc (aN [1]);obtain⟨V2,hV2⟩:=xq (V1.alloc (.cells #[.int .i64 1] 3));have ZW:V1.alloc (aN [1])=V2:=hV2;have t2:V2.heap.size=w2.heap.size+1+1:=by rw[<-hV2];simp[t1]
 rw[ZW]at b2 y2;rw[t1]at b2;obtain⟨V3,hV3,y3,v3,t3⟩:=VB.an V2 57 #[.slice A 1 a,.slice B 1 b,.slice (some ⟨w2.heap.size,0,none⟩) 2 2,.slice (some ⟨w2.heap.size+1,0,none⟩) 1 1] t2;obtain⟨V4,hV4,y4,v4,t4⟩:=VB.an V3 54 #[.slice (some ⟨w2.heap.size+1+1,0,none⟩) 2 2] t3;obtain⟨V5,hV5,y5,dz,t5⟩:=VB.an V4 28 #[.int .i64 0,.int .i64 0,.slice none 0 0] t4;obtain⟨d6,zz⟩:=dz.l8 (.int .i64 1) (.int .i64 1) (.slice (some ⟨w2.heap.size+1+1+1,0,none⟩) 1 1);obtain⟨u0,u1,u2⟩:=dz.d3;obtain⟨k0,k1,k2⟩:=dz.z3;have hz2:=x2.size;have y25:=(((y1.trans y2).trans y3).trans y4).trans y5;have XW:=(x2.trans y25);obtain⟨V6,hV6⟩:=xq (((V5.setCell ⟨w2.heap.size+1+1+1+1,0,none⟩ (.int .i64 1)).setCell ⟨w2.heap.size+1+1+1+1,1,none⟩ (.int .i64 1)).setCell ⟨w2.heap.size+1+1+1+1,2,none⟩ (.slice (some ⟨w2.heap.size+1+1+1,0,none⟩) 1 1));rw[hV6]at d6 zz;have e6:=zz.size;have DL:Dly V6 (w2.heap.size+1+1+1) (w2.heap.size+1+1) A B (some ⟨w2.heap.size,0,none⟩) (some ⟨w2.heap.size+1,0,none⟩) a b 2 1 1 2:=by have UI:=VB.aK ((v3.ex y4).ex y5) zz (by omega);have v4':=VB.aK (v4.ex y5) zz (by omega);have b1':=dW.aK ((((b1.ex y2).ex y3).ex y4).ex y5) zz (by omega);have b2':=dW.aK (((b2.ex y3).ex y4).ex y5) zz (by omega);have hA:=(fA.rd.ex y25).aK zz (λq e=>by have:=fA.rd.sS (by simp) q e;omega);have hB:=(fB.rd.ex y25).aK zz (λq e=>by have:=fB.rd.sS (by simp) q e;omega);exact⟨v4'.c0,axk _,UI.c0,UI.c1,UI.c2,UI.c3,hA,hB,b1'.rd (by simp),b2'.rd (by simp)⟩
 have lA:∀q,A=some q->w.heap.size+1+1<=q.block/\q.block<w2.heap.size+1:=λq e=>⟨by have:=fA.hi q e;omega,by have:=fA.rd.sS (by simp) q e;omega⟩
 have lB:∀q,B=some q->w.heap.size+1+1<=q.block/\q.block<w2.heap.size+1:=λq e=>⟨by have:=fB.hi q e;omega,by have:=fB.rd.sS (by simp) q e;omega⟩
 have d1':=VB.aK (d1.ex XW) zz (by omega);have D0':=VB.aK (D0.ex XW) zz (by omega);have X6:=(X1.trans XW).aK zz (by omega);obtain⟨g0,g1,g2⟩:=D0'.d3;obtain⟨m0,m1,m2⟩:=d6.d3;clear d6 D0' D0 dz v3 v4 b1 b2 DL;go_wp2_with fail
 refine(cL _).mono ?_;rintro e w8 ⟨A8,c8,rfl,r8,x8⟩;go_wp2_with fail
 refine(cK _ _ _ r8).mono ?_;rintro e w9 ⟨y,rfl,o9,x9⟩;have d9:=d1'.ex (x8.trans x9);obtain⟨A9,c9,ey,_⟩:=o9.rd;subst ey;have z9:=x9.size;have z8:=x8.size;obtain⟨dd,zr⟩:=d9.l8 (.int .i64 l) (.int .i64 r) (.slice A9 RR.length c9);obtain⟨r0,r1,r2⟩:=d9.d3;obtain⟨f0,f1,f2⟩:=d9.z3;obtain⟨C0,C1,C2⟩:=dd.d3;have eF:=(X6.trans (x8.trans x9)).aK zr (by omega);have zs:=zr.size;have oF9:=(o9.iv (jE.aZ zr) (.inr (by omega))).more (a':=w.heap.size) (by omega) zs;have hE:=CU.AQ (q:=⟨l,r,RR⟩) oF9 (by omega) (axk _);clear cK cL o9 oF9;go_wp2_with fail
 refine axu (v:=.agg #[.int .i64 l,.int .i64 r,.slice A9 RR.length c9]) (by simp[results,Tryz.results53,go_sem,C0,C1,C2]) rfl ?_;exact⟨_,rfl,hE,eF⟩
theorem agO{k:Int}(h:bL 9 13 k=true){l r:Nat}(hg:gw (k-6)=((l:Int),(r:Int))):gw k=((r:Int),(l:Int)):=by
 have h:k=9∨k=10∨k=11∨k=12∨k=13:=by simp[bL]at h;omega
 rcases h with rfl|rfl|rfl|rfl|rfl
 all_goals
  obtain⟨h1,h2⟩:=Prod.mk.inj hg;exact Prod.ext h2 h1
theorem Va(p:Int)(nd:Nd)(T:Int×Int)(w:World)(hF:av p=true)(hl:jP nd=some T)(hv:Ci p nd=true)(hT:T.1.toNat+T.2.toNat<=12):
 Calls prog 53 #[.int .i64 p,.agg #[.int .i64 nd.kd,.int .i64 nd.vl,.string nd.nm]] w λe w'=>∃y,e=.returned (.agg #[.int .i64 T.1.toNat,.int .i64 T.2.toNat,y])/\CU.O w' w.heap.size w'.heap.size [.int .i64 T.1.toNat,.int .i64 T.2.toNat,y] ⟨T.1.toNat,T.2.toNat,gU p nd⟩/\Ex w w':=by
 obtain⟨k,v,nm⟩:=nd;unfold jP at hl;dsimp only at hl⊢;split at hl
 .rename_i h1;injection hl with hl;subst hl;obtain⟨_,hk,hi⟩:=h1;subst hk;have hi:0<=v/\v<=12:=by simpa[bL]using hi
  obtain⟨n,rfl⟩:∃n:Nat,v=(n:Int):=⟨v.toNat,by omega⟩;have e:gU p ⟨1,(n:Int),nm⟩=rq (Pv n):=by unfold gU;rw[axm (by dsimp only;omega),axm (by dsimp only;omega)];rfl
  rw[e];exact vo p 1 n nm n n (Pv n) w (by decide) (by decide) λW=>QW p n nm W (by omega)
 .split at hl
  .rename_i h1;injection hl with hl;subst hl;obtain⟨_,hk,hi⟩:=h1;subst hk hi;have e:gU p ⟨2,0,nm⟩=rq ((ay p).aC 4 [[1,0,0,1],[0,1,1,0]]):=by
    unfold gU;rw[axm (by dsimp only;omega),axm (by dsimp only;omega)];rfl
   rw[e];exact vo p 2 0 nm 2 2 _ w (by decide) (by decide) λW=>JS p 0 nm W hF
  .split at hl
   .rename_i h1;injection hl with hl;subst hl;obtain⟨_,hk,hvl⟩:=h1;have hk':3<=k/\k<=14:=by simpa[bL]using hk
    have hel:k=7∨k=13->iF p v=true:=λe=>by unfold KY at hvl;rw[axl e]at hvl;unfold Ci at hv;simp[e,bL]at hv hvl;simp[iF];omega
    by_cases h8:k=8
    .subst h8;have e:gU p ⟨8,v,nm⟩=[[oF,xF]]:=by
      unfold gU;rw[axl rfl];exact CY hF
     rw[e];exact U_ p v nm w
    .by_cases uJ:k=14
     .subst uJ;have e:gU p ⟨14,v,nm⟩=(au p).aC 2 [[xF,oF]]:=by
       unfold gU;rw[axm (by dsimp only;omega),axl rfl]
      rw[e];exact Qo p v nm w hF
     .have e:gU p ⟨k,v,nm⟩=rq (fU p k v):=by
       unfold gU;rw[axm h8,axm uJ]
      rw[e];by_cases h7:k<=7
      .obtain⟨l,r,hg,_⟩:=J4 k;rw[hg];exact vo p k v nm l r (fU p k v) w h8 uJ λW=>Ny p k v nm l r W hF (by simp[bL];omega) (λe=>hel (.inl e)) hg
      .obtain⟨l,r,hg,_⟩:=J4 (k-6);have h9:bL 9 13 k=true:=by simp[bL];omega
       rw[agO h9 hg];exact vo p k v nm r l (fU p k v) w h8 uJ λW=>QX p k v nm l r W hF h9 (λe=>hel (.inr e)) hg
   .cases hl
theorem GE.stk{xs:List RQ}(h:GE (ESP P) 28 w B H v xs){j:Nat}{q:RQ}(hj:xs[j]?=some q):
 ∃g c A ca a b,v=.slice (some ⟨g,0,none⟩) xs.length c/\w.cell? ⟨g,j*3,none⟩=some (.int .i64 q.l)/\w.cell? ⟨g,j*3+1,none⟩=some (.int .i64 q.r)/\w.cell? ⟨g,j*3+2,none⟩=some (.slice A q.b.length ca)/\B<=a/\b<=H/\∀w2:World,(∀i,B<=i->i<H->w2.heap[i]?=w.heap[i]?)->P w2 a b (.slice A q.b.length ca) q.b:=by
 have hne:v≠.slice none 0 0:=λe=>by obtain⟨_,_,e2⟩:=h.kH;rw[e]at e2;injection e2 with _ e2 _;have:=(axp.1 hj).1;omega
 obtain⟨g,c,rfl,_⟩:=h.form hne;obtain⟨cur,al,bl,e,_,_,hh,h1,_⟩:=h.at_;obtain⟨u,q1,⟨_,_,A,ca,q2,q3⟩,lo,up,_⟩:=h1 j q hj;rw[show(ESP P).k=3 from rfl]at q1;refine⟨g,c,A,ca,al j,bl j,rfl,?_,?_,?_,lo,up,λw2 hk=>q3 w2 λi i1 i2=>hk i (by omega) (by omega)⟩
 .have:=q1 0 _ (by rw[q2];rfl);simp[World.cell?,hh];simpa using this
 .have:=q1 1 _ (by rw[q2];rfl);simp[World.cell?,hh];simpa using this
 .have:=q1 2 _ (by rw[q2];rfl);simp[World.cell?,hh];simpa using this
theorem GE.afj(hP:∀{w:World} {a b:Nat} {A:Option Addr} {n c:Nat} {x:List (List aG)},P w a b (.slice A n c) x->j_ w A x){s:List RQ}{a b:RQ}(h:GE (ESP P) 28 w B H v (b::a::s).reverse):
 ∃g c A ca D cd,v=.slice (some ⟨g,0,none⟩) (s.length+2) c/\w.cell? ⟨g,s.length*3,none⟩=some (.int .i64 a.l)/\w.cell? ⟨g,s.length*3+1,none⟩=some (.int .i64 a.r)/\w.cell? ⟨g,s.length*3+2,none⟩=some (.slice A a.b.length ca)/\j_ w A a.b/\
  w.cell? ⟨g,(s.length+1)*3,none⟩=some (.int .i64 b.l)/\w.cell? ⟨g,(s.length+1)*3+1,none⟩=some (.int .i64 b.r)/\w.cell? ⟨g,(s.length+1)*3+2,none⟩=some (.slice D b.b.length cd)/\j_ w D b.b:=by
 have e:(b::a::s).reverse=s.reverse++[a,b]:=by simp
 rw[e]at h;obtain⟨g,c,A,ca,_,_,e1,p1,p2,p3,_,_,p4⟩:=h.stk (j:=s.length) (q:=a) (by rw[axN (by simp)];simp);obtain⟨g',c',D,cd,_,_,e2,q1,q2,q3,_,_,q4⟩:=h.stk (j:=s.length+1) (q:=b) (by rw[axN (by simp)];simp);rw[e1]at e2;injection e2 with e2 _ e3;injection e2 with e2;injection e2 with e2 _ _;subst e2;exact⟨g,c,A,ca,D,cd,by rw[e1];simp,p1,p2,p3,hP (p4 w λ_ _ _=>rfl),q1,q2,q3,hP (q4 w λ_ _ _=>rfl)⟩
theorem rdP.Da{x:List (List aG)}(h:rdP w a b (.slice A n c) x):j_ w A x:=by obtain⟨A',c',e,o⟩:=h;injection e with e1 _ _;subst e1;exact o
theorem acd:(prog.info? 28).map (λi=>(i.zero,i.size,i.bytes))=some (some (.agg #[.int .i64 0,.int .i64 0,.slice none 0 0]),3,40):=by kernel_rfl
theorem nU{xs:List RQ}(h:GE (ESP P) 28 w B H v xs)(hH:H<=w.heap.size){q:RQ}{y:Value}(hx:(ESP P).O w a b [.int .i64 q.l,.int .i64 q.r,y] q)(ha:H<=a)(hab:a<=b)(hb:b<=w.heap.size)(hB:B<=H)(hl:xs.length+1<=1099511627776):
 ∃v' w',(Builtin.append_ #[69,69] 69 #[v,.slice (some ⟨w.heap.size,0,none⟩) 1 1]).run prog (w.alloc (.cells #[.int .i64 q.l,.int .i64 q.r,y] 28))=.ok v' w'/\
  GE (ESP P) 28 w' B w'.heap.size v' (xs++[q])/\v'≠.slice none 0 0/\(∀k,k<B->k<w.heap.size->w'.heap[k]?=w.heap[k]?)/\∀b',Ex b' w->b'.heap.size<=B->Ex b' w':=by
 obtain⟨i,hi,hz,hs,hby⟩:=axW acd;obtain⟨v',w',h1,h2,h3,_,h5,h6⟩:=GE.push (ESP P) Tryz.underlying69 hi hz hs hby rfl (show 0<3 by omega) (by omega) h hH (u:=[.int .i64 q.l,.int .i64 q.r,y]) (x:=q) (a:=a) (b:=b) hx ha hab hb hB hl;exact⟨v',w',h1,h2,h5,λk hk hl=>h3.block k hl λe=>by have:=h.own k e.symm;omega,h6⟩
theorem LC(l:List Nd)(A:Option Addr)(c:Nat)(w:World)(h:bW EN w A l):
 Calls prog 40 #[.agg #[.slice A l.length c]] w λe w'=>∃F fn fc I GK ic O on oc,e=.returned (.tuple #[.agg #[.slice F fn fc,.slice I GK ic,.slice O on oc],.bool (iR l)])/\Ex w w'/\(iR l=true->∃Il Ol ci co,GK=l.length/\on=l.length/\Fr w' w.heap.size I ci Il/\Fr w' w.heap.size O co Ol/\Il.length=l.length/\Ol.length=l.length/\WY l l.length Il Ol):=by
 obtain⟨W0,hW0,x0,v0,s0⟩:=VB.an w 33 #[.slice A l.length c] rfl;obtain⟨x1,v1,W1,hW1⟩:=VB.al W0 66 #[.slice none 0 0,.slice none 0 0,.slice none 0 0];rw[hW1]at x1 v1;rw[s0]at v1;have q0:=(v0.ex x1).c0;go_enter Tryz.func40,Tryz.ntmps40
 go_wp2_with fail
 refine(Zn l A c _ (h.ex (x0.trans x1))).mono ?_;rintro e w2 ⟨F,fn,fc,I,GK,ic,O,on,oc,rfl,x2,hTL⟩;have hv:=v1.ex x2;obtain⟨r0,r1,r2⟩:=hv.d3;obtain⟨z0,z1,z2⟩:=hv.z3;obtain⟨dd,zz⟩:=hv.l8 (.slice F fn fc) (.slice I GK ic) (.slice O on oc);obtain⟨C0,C1,C2⟩:=dd.d3;have eF:=((x0.trans x1).trans x2).aK zz (ayY _);have ZZ:=zz;have s1:=x1.size;have s2:=v1.lt;clear q0 v0 v1 hv dd zz;go_wp2_with fail
 refine axu (v:=.tuple #[.agg #[.slice F fn fc,.slice I GK ic,.slice O on oc],.bool (iR l)]) (by simp[results,Tryz.results40,go_sem,C0,C1,C2]) rfl ?_;refine⟨_,_,_,_,_,_,_,_,_,rfl,eF,λh=>?_⟩;obtain⟨Il,Ol,ci,co,h1,h2,h3,h4,h5,h6,h7⟩:=hTL h;exact⟨Il,Ol,ci,co,h1,h2,(h3.aK ZZ (λa e=>by have:=h3.hi a e;omega)).more (by omega),(h4.aK ZZ (λa e=>by have:=h4.hi a e;omega)).more (by omega),h5,h6,h7⟩
theorem Iq{l:List Nd}(h:av p=false):sZ p l=false:=by unfold sZ;rw[h];rfl
theorem Ip{l:List Nd}(h:iR l=false):sZ p l=false:=by unfold sZ;rw[h,Bool.false_and,Bool.and_false]
theorem Io{l:List Nd}{k:Nat}{n:Nd}(hn:l[k]?=some n)(h:Ci p n=false):sZ p l=false:=by
 have e:l.all (Ci p)=false:=by
  cases he:l.all (Ci p)with
  |false=>rfl
  |true=>rw[axQ.1 he n (axo hn)]at h;cases h
 unfold sZ;rw[e,Bool.and_false,Bool.and_false]
theorem Tt{l:List Nd}(hF:av p=true)(hT:iR l=true)(h:(l.take l.length).all (Ci p)=true):sZ p l=true:=by rw[axE]at h;unfold sZ;rw[hF,hT,h];rfl
theorem zP{l:List Nd}{k:Nat}{n:Nd}(hn:l[k]?=some n)(h:(l.take k).all (Ci p)=true)(hb:Ci p n=true):(l.take (k+1)).all (Ci p)=true:=by rw[axy,hn,ayE,ayK,h];simp[hb]
theorem Tv{n:Nd}(h:n.kd=7∨n.kd=13):Ci p n= !decide (p<=n.vl):=by simp[Ci,h]
theorem Tz{n:Nd}(h:¬(n.kd=7∨n.kd=13)):Ci p n=true:=by simp[Ci,h]
theorem Zw(p:Int)(l:List Nd)(A:Option Addr)(c:Nat)(w:World)(h:bW EN w A l)(ht:Tb w):
 Calls prog 23 #[.agg #[.slice A l.length c],.int .i64 p] w λe w'=>e=.returned (.bool (sZ p l))/\Ex w w':=by
 have H:=axj h;have hNb:=h.1;obtain⟨N,hN⟩:=xq l.length;have HN:=axj hN;obtain⟨x0,v0⟩:=VB.xn w 33 #[.slice A l.length c];have cF:=jA p (w.alloc (.cells #[.slice A l.length c] 33)) (ht.ex x0);have cV:=VO l A c (w.alloc (.cells #[.slice A l.length c] 33)) (h.ex x0);rw[hN]at x0 v0 cF cV hNb⊢;generalize hW0:w.alloc (.cells #[.slice A N c] 33)=W0 at*;have q0:=v0.c0;clear hN h;cases hF:av p with
 |false=>
  rw[Iq hF];rw[hF]at cF;go_enter Tryz.func23,Tryz.ntmps23
  go_wp2_with fail
  refine cF.mono ?_;rintro e _ ⟨rfl,rfl⟩;go_wp2;go_ret;exact⟨rfl,x0⟩
 |true=>
  have HF:=axj hF;rw[hF]at cF;clear hF;cases hT:iR l with
  |false=>
   rw[Ip hT];rw[hT]at cV;go_enter Tryz.func23,Tryz.ntmps23
   go_wp2_with fail
   refine cF.mono ?_;rintro e _ ⟨rfl,rfl⟩;go_wp2_with fail
   refine cV.mono ?_;rintro e w2 ⟨rfl,x2⟩;go_wp2;go_ret;exact⟨rfl,x0.trans x2⟩
  |true=>
   have HT:=axj hT;rw[hT]at cV;clear hT;go_enter Tryz.func23,Tryz.ntmps23
   go_wp2_with fail
   refine cF.mono ?_;rintro e _ ⟨rfl,rfl⟩;go_wp2_with fail
   refine cV.mono ?_;rintro e w2 ⟨rfl,x2⟩;have q2:=af x2 q0;have y2:=x0.trans x2;clear cV cF;go_wp2_with fail
   clear q2 q0;go_loopw [18] (λs18 wr=>∃k:Nat,k<=N/\s18=.int .i64 k/\Hid ((l.take k).all (Ci p)=true)/\Ex w wr) (λs18 _=>N-(intOf s18).toNat)
   case atStart=>exact⟨0,axq _,rfl,axj rfl,y2⟩
   case round=>
    rename World=>wi;obtain⟨k,hk,rfl,HA,he⟩:=hrel;by_cases hlt:k<N
    .obtain⟨g,off,n,eA,hn,q0,q1,q2⟩:=(H.out.ex he).node (by rw[HN.out];exact hlt);subst eA;have Hn:=axj hn;obtain⟨y4,n2,W4,zZ⟩:=VB.al wi 70 #[.int .i64 n.kd,.int .i64 n.vl,.string n.nm];rw[zZ]at y4 n2;obtain⟨d0,d1⟩:=n2.d2;have cH:=λW=>xM n.kd W
     have xL:=he.trans y4;clear hn;by_cases hb:n.kd=7∨n.kd=13
     .rw[decide_eq_true hb]at cH;have JX:=Tv (p:=p) hb;clear hb;by_cases hp:p<=n.vl
      .have hok:=axj (Io Hn.out (JX.trans (by simp[hp])));clear JX;go_wp2_with fail
       refine(cH _).mono ?_;rintro e _ ⟨rfl,rfl⟩;go_wp2;go_ret;rw[hok.out];exact⟨rfl,xL⟩
      .have HS:=axj (zP Hn.out HA.out (JX.trans (by simp[hp])));clear JX;go_wp2_with fail
       refine(cH _).mono ?_;rintro e _ ⟨rfl,rfl⟩;go_wp2_with fail
       go_roundw;case rel=>exact⟨k+1,by omega,by go_num,HS,xL⟩
       case measure=>simp[intOf];omega
     .rw[decide_eq_false hb]at cH;have HS:=axj (zP Hn.out HA.out (Tz hb));clear hb;go_wp2_with fail
      refine(cH _).mono ?_;rintro e _ ⟨rfl,rfl⟩;go_wp2_with fail
      go_roundw;case rel=>exact⟨k+1,by omega,by go_num,HS,xL⟩
      case measure=>simp[intOf];omega
    .obtain rfl:k=N:=by omega
     have hok:=axj (Tt HF.out HT.out (by rw[HN.out];exact HA.out));go_wp2_with fail
     go_ret;rw[hok.out];exact⟨rfl,he⟩
theorem XK(p:Int)(l:List Nd)(A:Option Addr)(c:Nat)(w:World)(h:bW EN w A l):
 Calls prog 39 #[.int .i64 p,.agg #[.slice A l.length c]] w λe w'=>e=.returned (.bool (sZ p l))/\Ex w w':=by
 have H:=axj h;have hNb:=h.1;obtain⟨N,hN⟩:=xq l.length;have HN:=axj hN;obtain⟨x0,v0⟩:=VB.xn w 33 #[.slice A l.length c];have cF:=λW=>mI p W
 have cV:=LC l A c (w.alloc (.cells #[.slice A l.length c] 33)) (h.ex x0);rw[hN]at x0 v0 cV hNb⊢;generalize hW0:w.alloc (.cells #[.slice A N c] 33)=W0 at*;have q0:=v0.c0;clear hN h;have c2:Calls prog 40 #[.agg #[.slice A N c]] W0 λe w'=>∃F fn fc I GK ic O on oc,e=.returned (.tuple #[.agg #[.slice F fn fc,.slice I GK ic,.slice O on oc],.bool (iR l)])/\Ex W0 w':=cV.mono λe w' q=>by obtain⟨F,fn,fc,I,GK,ic,O,on,oc,e1,e2,_⟩:=q;exact⟨F,fn,fc,I,GK,ic,O,on,oc,e1,e2⟩
 clear cV;cases hT:iR l with
 |false=>
  rw[Ip hT];rw[hT]at c2;go_enter Tryz.func39,Tryz.ntmps39
  go_wp2_with fail
  refine c2.mono ?_;rintro e w2 ⟨F,fn,fc,I,GK,ic,O,on,oc,rfl,x2⟩;have y2:=(x0.trans x2).alloc (.cells #[.slice F fn fc,.slice I GK ic,.slice O on oc] 66);go_wp2;go_ret;exact⟨rfl,y2⟩
 |true=>
  have HT:=axj hT;rw[hT]at c2;clear hT;cases hF:av p with
  |false=>
   rw[Iq hF];rw[hF]at cF;go_enter Tryz.func39,Tryz.ntmps39
   go_wp2_with fail
   refine c2.mono ?_;rintro e w2 ⟨F,fn,fc,I,GK,ic,O,on,oc,rfl,x2⟩;have y2:=(x0.trans x2).alloc (.cells #[.slice F fn fc,.slice I GK ic,.slice O on oc] 66);go_wp2_with fail
   refine(cF _).mono ?_;rintro e _ ⟨rfl,rfl⟩;go_wp2;go_ret;exact⟨rfl,y2⟩
  |true=>
   have HF:=axj hF;rw[hF]at cF;clear hF;go_enter Tryz.func39,Tryz.ntmps39
   go_wp2_with fail
   refine c2.mono ?_;rintro e w2 ⟨F,fn,fc,I,GK,ic,O,on,oc,rfl,x2⟩;have y2:=(x0.trans x2).alloc (.cells #[.slice F fn fc,.slice I GK ic,.slice O on oc] 66);have q2:=af (x2.alloc (.cells #[.slice F fn fc,.slice I GK ic,.slice O on oc] 66)) q0;go_wp2_with fail
   refine(cF _).mono ?_;rintro e _ ⟨rfl,rfl⟩;go_wp2_with fail
   generalize w2.alloc (.cells #[.slice F fn fc,.slice I GK ic,.slice O on oc] 66)=W2 at*;clear q2 q0 c2 cF;go_loopw [24] (λs24 wr=>∃k:Nat,k<=N/\s24=.int .i64 k/\Hid ((l.take k).all (Ci p)=true)/\Ex w wr) (λs24 _=>N-(intOf s24).toNat)
   case atStart=>exact⟨0,axq _,rfl,axj rfl,y2⟩
   case round=>
    rename World=>wi;obtain⟨k,hk,rfl,HA,he⟩:=hrel;by_cases hlt:k<N
    .obtain⟨g,off,n,eA,hn,q0,q1,q2⟩:=(H.out.ex he).node (by rw[HN.out];exact hlt);subst eA;have Hn:=axj hn;obtain⟨y4,n2,W4,zZ⟩:=VB.al wi 70 #[.int .i64 n.kd,.int .i64 n.vl,.string n.nm];rw[zZ]at y4 n2;obtain⟨d0,d1⟩:=n2.d2;have xL:=he.trans y4;clear hn;by_cases hb:n.kd=7∨n.kd=13
     .have JX:=Tv (p:=p) hb;have hb':n.kd=7∨(¬n.kd=7/\n.kd=13):=by omega
      clear hb;by_cases hp:p<=n.vl
      .have hok:=axj (Io Hn.out (JX.trans (by simp[hp])));clear JX;rcases hb' with hb1|⟨hb1,hb2⟩
       all_goals
        go_wp2_with fail
        go_ret;rw[hok.out];exact⟨rfl,he.alloc _⟩
      .have HS:=axj (zP Hn.out HA.out (JX.trans (by simp[hp])));clear JX;rcases hb' with hb1|⟨hb1,hb2⟩
       all_goals
        go_wp2_with fail
        go_roundw;case rel=>exact⟨k+1,by omega,by go_num,HS,he.alloc _⟩
        case measure=>simp[intOf];omega
     .have HS:=axj (zP Hn.out HA.out (Tz hb));have hb1:¬n.kd=7:=by omega
      have hb2:¬n.kd=13:=by omega
      clear hb;go_wp2_with fail
      go_roundw;case rel=>exact⟨k+1,by omega,by go_num,HS,xL⟩
      case measure=>simp[intOf];omega
    .obtain rfl:k=N:=by omega
     have hok:=axj (Tt HF.out HT.out (by rw[HN.out];exact HA.out));go_wp2_with fail
     go_ret;rw[hok.out];exact⟨rfl,he⟩
theorem Wh(L:Option Addr)(lc:Nat)(l:List Int)(T:Option Addr)(tc:Nat)(tl:List Int)(w:World)(hl:Rd w L l)(ht:Rd w T tl)(hb:∀k∈l,0<=k/\k<tl.length)(hne:0<l.length):
 Calls prog 141 #[.slice L l.length lc,.slice T tl.length tc] w λe w'=>∃g c,e=.returned (.slice (some ⟨g,0,none⟩) l.length c)/\l.length<=c/\w.heap.size<=g/\Own w' g (l.map (λk=>tl.getD k.toNat 0))/\Ex w w':=by
 have hll:=hl.len;have hlt:=ht.len;have Hb:=axj hb;clear hb;go_enter Tryz.func141,Tryz.ntmps141
 go_wp2_with fail
 go_loopw [5,10] (λo i wr=>∃k:Nat,k<=l.length/\i=.int .i64 k/\AL wr w.heap.size o ((l.take k).map (λk=>tl.getD k.toNat 0))/\Ex w wr) (λ_ i _=>l.length-(intOf i).toNat)
 case atStart=>exact⟨0,axq _,rfl,AL.nil _ _,aCQ w⟩
 case round=>
  obtain⟨k,hk,rfl,hal,he⟩:=hrel;by_cases hlt:k<l.length
  .obtain⟨g,off,x,rfl,hx,_,c1⟩:=(hl.ex he).at_ hlt;have hxb:=Hb.out x (axo hx);obtain⟨xn,rfl⟩:=ayx hxb.1;have hxl:=hxb.2;obtain⟨g',off',y,rfl,hy,_,c2⟩:=(ht.ex he).at_ (show xn<tl.length by omega);have Hst:=axj (show(l.take (k+1)).map (λk=>tl.getD k.toNat 0)=(l.take k).map (λk=>tl.getD k.toNat 0)++[y] by
    rw[axy,hx,ax4];simp[axt,hy])
   have hlen:((l.take k).map (λk=>tl.getD k.toNat 0)).length=k:=by rw[axs,axx];omega
   have hz:=he.size;obtain⟨v',w4,fG,ZV,hI⟩:=WR wr w.heap.size u5 _ y hal hz (by omega);rw[<-Hst.out]at ZV;have xL:=he.iv hI (axk _);clear hx hy hlen;go_wp2_with (at_builtin;refine wpList_append_run rfl _ _ _ rfl rfl rfl fG ?_)
   go_roundw;case rel=>exact⟨k+1,by omega,by go_num,ZV,xL⟩
   case measure=>simp[intOf];omega
  .obtain rfl:k=l.length:=by omega
   rw[axE]at hal;have aju:(l.map (λk=>tl.getD k.toNat 0)).length=l.length:=axs _;rcases hal.2 with⟨_,e0⟩|⟨g,cap,cur,e,hB,hh,hnc,hcm,hsz,ht⟩
   .omega
   .subst e;have ho:=(hal.own).2.2.2.2;rw[aju]at hnc⊢;clear aju ht hsz hh;go_wp2_with fail
    go_ret;exact⟨g,cap,rfl,hnc,hB,ho,he⟩
theorem run_append_nil(w:World):(Builtin.append_ #[92,92] 92 #[.slice none 0 0,.slice none 0 0]).run prog w=.ok (.slice none 0 0) w:=by simp[go_sem,Tryz.underlying92]
theorem Cb(h:dU w A rows)(h0:0<rows.length)(hl:rows.length<=1000):
 ∃g c' w',(Builtin.append_ #[92,92] 92 #[.slice none 0 0,.slice A rows.length c]).run prog w=.ok (.slice (some ⟨g,0,none⟩) rows.length c') w'/\dU w' (some ⟨g,0,none⟩) rows/\Ex w w':=by
 obtain⟨i,hi,hz,hs,hby⟩:=axW nI;obtain⟨g0,b0,c0,_,rfl,_⟩:=h.at_ h0;obtain⟨us,hus⟩:∃us:List Value,us=(range rows.length).map λj=>(w.cell? ⟨g0,j,none⟩).getD (.slice none 0 0):=⟨_,rfl⟩
 have zY:us.length=rows.length:=by rw[hus];simp
 have hcell:∀j u,us[j]?=some u->w.cell? ⟨g0,j,none⟩=some u/\∃b c r,rows[j]?=some r/\u=.slice (some ⟨b,0,none⟩) r.length c/\r.length<=c/\Own w b r:=λj u hj=>by
  have hjl:j<rows.length:=by rw[<-zY];exact(axp.1 hj).1
  obtain⟨g1,b1,c1,r1,e1,q1,q2,q3,q4⟩:=h.at_ hjl;injection e1 with e1;injection e1 with e1 _;subst e1;rw[hus,axw,ayO hjl]at hj;injection hj with hj;have hj:(w.cell? ⟨g0,j,none⟩).getD (.slice none 0 0)=u:=hj;rw[q2]at hj;have hj:Value.slice (some ⟨b1,0,none⟩) r1.length c1=u:=hj;subst hj;exact⟨q2,b1,c1,r1,q1,rfl,q3,q4⟩
 obtain⟨v',w',hrun,hown,hg,hnn,nL⟩:=run_append_own_at (P:=prog) (w:=w) 0 92 92 55 i (.slice none 0 0) 1 24 Tryz.underlying92 hi hz hs hby rfl (by omega) (.slice none 0 0) 0 [] (World.ownsRow_nil _ _ _ _) ⟨g0,0,none⟩ rows.length c us (by omega)
  (λj u hj=>by
    have:=(hcell j u hj).1;rwa[show(⟨g0,0,none⟩:Addr).add j=⟨g0,j,none⟩ by cases j<;>simp[Addr.add]]) (λu hu=>by
    obtain⟨j,hj⟩:=axz hu;obtain⟨_,b,c,r,_,e,_⟩:=hcell j u hj;subst e;rfl) (by unfold maxLen;omega) (by omega) (axq _)
 have he:Ex w w':=(aCQ w).Og (o:=none) hg (λg e=>by cases e);rw[axT,ayz]at hown;rcases hown.2 with⟨_,e0⟩|⟨g,cap,cur,e,hB,hh,hnc,hcm,hsz,ht⟩
 .omega
 .subst e;refine⟨g,cap,w',hrun,⟨by omega,λj r hj=>?_⟩,he⟩;have hjl:=(axp.1 hj).1;obtain⟨u,hu⟩:∃u,us[j]?=some u:=⟨_,axn (by omega)⟩;obtain⟨_,b,c,r',hr',e,h3,h4⟩:=hcell j u hu;rw[hj]at hr';injection hr' with hr';subst hr' e;refine⟨g,b,c,rfl,?_,h3,h4.ex he⟩;have hcur:cur[j]?=some (.slice (some ⟨b,0,none⟩) r.length c):=by
   rw[<-ht]at hu;rw[axL]at hu;split at hu
   .simpa using hu
   .cases hu
  simp[World.cell?,hh];simpa using hcur
theorem RZ(p:Int)(N:Nat)(x:Gr)(R:Ed->List (List Int))(E:Option Addr)(ec:Nat)(I:Option Addr)(ic:Nat)(O:Option Addr)(oc:Nat)(w:World)(hF:av p=true)(hN:x.kK=(N:Int))(hE:bW EE w E x.es)(h1:x.es.length<=1)(hn:N<=1000)(hw:aQ N (x.es.flatMap R))(hel:fQ p (x.es.flatMap R))(hl:(x.es.flatMap R).length<=1000)
 (cE:∀e∈x.es,∀(W:World) (P:Option Addr) (pc:Nat) (Q:Option Addr) (qc:Nat),Rd W P e.ins->Rd W Q e.outs->Calls prog 172 #[.int .i64 p,.int .i64 N,.agg #[.int .i64 e.kd,.int .i64 e.vl,.slice P e.ins.length pc,.slice Q e.outs.length qc]] W λe' w'=>∃A c,e'=.returned (.slice A (R e).length c)/\dU w' A (R e)/\(R e=[]->A=none/\c=0)/\Ex W w'):
 Calls prog 140 #[.int .i64 p,.agg #[.int .i64 x.kK,.slice E x.es.length ec,.slice I x.ins.length ic,.slice O x.outs.length oc]] w λe w'=>∃A c,e=.returned (.slice A ((ay p).g_ N (x.es.flatMap R)).length c)/\dU w' A ((ay p).g_ N (x.es.flatMap R))/\Ex w w':=by
 rw[hN];obtain⟨M,hM⟩:=xq (x.es.flatMap R);obtain⟨ml,hml⟩:=xq M.length;have HM:=axj hM;have BU:=axj hml;rw[hM]at hw hel hl⊢;obtain⟨y0,d0,W0,hW0⟩:=VB.al w 130 #[.int .i64 N,.slice E x.es.length ec,.slice I x.ins.length ic,.slice O x.outs.length oc];rw[hW0]at y0 d0;obtain⟨q0,q1⟩:=d0.d2;have cS:=λ(A:Option Addr) (c:Nat) (W:World) (h:oC W A M)=>XU p N M A c W hF h hw hel hn hl
 rw[hml]at cS hl;have HW:=axj hw;obtain⟨L,hL⟩:=xq x.es.length;have HL:=axj hL;have HE:=axj hE;rw[hL]at h1 q1 d0⊢;clear hL hw hel hE hN hM hml;go_enter Tryz.func140,Tryz.ntmps140
 rw[show x.es.length=L from HL.out]at hW0;go_wp2_with fail
 go_loopw [5,11] (λs5 s11 wr=>∃(k:Nat) (A:Option Addr) (c:Nat) (q:Nat),k<=L/\s11=.int .i64 k/\s5=.slice A q c/\Hid (((x.es.take k).flatMap R).length=q)/\dU wr A ((x.es.take k).flatMap R)/\(k=0->A=none/\c=0)/\Ex W0 wr) (λ_ s11 _=>L-(intOf s11).toNat)
 case atStart=>exact⟨0,none,0,0,axq _,rfl,rfl,axj rfl,Ef _ _,λ_=>⟨rfl,rfl⟩,aCQ _⟩
 case round=>
  rename World=>wi;obtain⟨k,A,c,q,hk,rfl,rfl,HQ,hr,h0,he⟩:=hrel;by_cases hlt:k<L
  .have Hk:=axj (show k=0 by omega);obtain⟨rfl,rfl⟩:=h0 Hk.out;obtain⟨g,off,ed,P,pc,Q,qc,eE,hx,c0,c1,c2,c3,hP,hQ⟩:=((HE.out.ex y0).ex he).edge (show k<x.es.length by rw[HL.out];exact hlt);subst eE;have HT:=axj (show(x.es.take (k+1)).flatMap R=R ed by rw[axy,hx,Hk.out];simp);have h00:q=0:=by rw[<-HQ.out,Hk.out];rfl
   rw[h00];have hmem:=axo hx;obtain⟨y3,v3⟩:=VB.xn wi 156 #[.int .i64 ed.kd,.int .i64 ed.vl,.slice P ed.ins.length pc,.slice Q ed.outs.length qc];have cR:=λW (y:Ex wi W)=>cE ed hmem W P pc Q qc (hP.ex y) (hQ.ex y)
   have qw:=((d0.ex he).ex y3).c0;have hRl:(R ed).length<=1000:=by
    refine axA ?_ hl;rw[<-BU.out,<-HM.out];have:x.es=ed::x.es.drop 1:=by
     have hx:=hx;rw[Hk.out]at hx
     match hh:x.es,hx with
     |e::t,hx=>injection hx with hx;subst hx;rfl
    rw[this,List.flatMap_cons,axv];omega
   clear hx hr hmem cE h00 h0;go_wp2_with fail
   refine(cR _ y3).mono ?_;rintro e w4 ⟨A4,c4,rfl,hm4,Xf,x4⟩;clear cR;cases hre:R ed with
   |nil=>
    obtain⟨rfl,rfl⟩:=Xf hre;have hrun:=run_append_nil w4;have HRE:=axj hre;rw[hre]at hm4;clear Xf hre;rw[show([]:List (List Int)).length=0 from rfl];go_wp2_with (at_builtin;refine wpList_append_run rfl _ _ _ rfl rfl rfl hrun ?_)
    go_roundw;case rel=>exact⟨k+1,none,0,0,by omega,by go_num,rfl,axj (by rw[HT.out,HRE.out];rfl),by rw[HT.out,HRE.out];exact hm4,λh=>by omega,(he.trans y3).trans x4⟩
    case measure=>simp[intOf];omega
   |cons r0 rs=>
    obtain⟨g5,c5,w5,hrun,hm5,x5⟩:=Cb (c:=c4) hm4 (by rw[hre];simp) hRl;rw[<-hre];obtain⟨n4,hn4⟩:=xq ((R ed).length);have HN4:=axj hn4;rw[hn4]at hrun hRl⊢;clear hre Xf hm4 hn4;go_wp2_with (at_builtin;refine wpList_append_run rfl _ _ _ rfl rfl rfl hrun ?_)
    go_roundw;case rel=>exact⟨k+1,_,c5,n4,by omega,by go_num,rfl,axj (by rw[HT.out,HN4.out]),by rw[HT.out];exact hm5,λh=>by omega,((he.trans y3).trans x4).trans x5⟩
    case measure=>simp[intOf];omega
  .obtain rfl:k=L:=by omega
   have e:x.es.take k=x.es:=by rw[<-HL.out,axE]
   have hq:=HQ.out;rw[e,HM.out]at hr hq;obtain rfl:ml=q:=BU.out.symm.trans hq;have cS:=cS A c wi (hr.rdm λr h=>by rw[HW.out r h];omega);have qw:=(d0.ex he).c0;clear e hr hq HQ;go_wp2_with fail
   refine cS.mono ?_;rintro e w5 ⟨A5,c5,rfl,hm5,x5⟩;go_wp2_with fail
   go_ret;exact⟨A5,c5,rfl,hm5,(y0.trans he).trans x5⟩
theorem UE(hF:av p=true){M:List (List Int)}(hel:fQ p M)(hw:aQ n M):aQ n ((ay p).g_ n M)/\fQ p ((ay p).g_ n M)/\((ay p).g_ n M).length<=n:=by
 obtain⟨u,rfl⟩:=EO hel;rw[(kX p hF).g_];have hI:eX (aD p hF) n ((aD p hF).g_ n u):=dL _ (qI _ _ _);refine⟨aQ.dO.2 hI.1,λv hv=>?_,?_⟩
 .obtain⟨x,_,rfl⟩:=axr.1 hv;exact axQ.2 λy hy=>by obtain⟨z,_,rfl⟩:=axr.1 hy;exact z.2
 .unfold dO;rw[axs];exact uq _ hI
theorem FZ{Es:List Nat}{SN:List (List Int)}(h2:2<=p)(hel:fQ p SN):aQ Es.length (SN.map ((ay p).xV Es))/\fQ p (SN.map ((ay p).xV Es)):=by
 refine⟨λv hv=>?_,λv hv=>?_⟩
 .obtain⟨x,_,rfl⟩:=axr.1 hv;exact Dt _ _ _
 .obtain⟨x,hx,rfl⟩:=axr.1 hv;refine axQ.2 λy hy=>?_
  obtain⟨j,_,rfl⟩:=axr.1 hy;show iF p (x.getD j 0)=true;rw[axt];cases h:x[j]? with
  |none=>simp[iF];omega
  |some z=>exact axQ.1 (hel x hx) z (axo h)
theorem adJ{Es:List Nat}{L:List Int}(h:L=Es.map Int.ofNat)(row:List Int):L.map (λk=>row.getD k.toNat 0)=(ay p).xV Es row:=by subst h;unfold Ops.xV;rw[axO];rfl
theorem acM(A:Option Addr)(c:Nat)(xs:List Int)(w:World)(h:Rd w A xs):
 Calls prog 45 #[.slice A xs.length c] w λe w'=>∃v,e=.returned v/\AL w' w.heap.size v xs/\Ex w w':=by
 have hl:=h.len;have hal:AL (w.alloc (.cells #[] 3)) w.heap.size (.slice (some ⟨w.heap.size,0,none⟩) 0 0) []:=AL.empty w (axk _);obtain⟨v',w1,hrun,hv,hx,hb⟩:=bK 55 55 Tryz.underlying55 _ _ _ _ hal (by simp) A c xs (h.ex ((aCQ w).alloc _)) (by simpa using hl);have hex:Ex w w1:=((aCQ w).alloc (.cells #[] 3)).Og hx (λg e=>by simp[Value.ownBlock]at e;omega);rw[ayz]at hv;go_enter Tryz.func45,Tryz.ntmps45
 go_wp2_with (at_builtin;refine wpList_append_run rfl _ _ _ rfl rfl rfl hrun ?_)
 go_ret;exact⟨v',rfl,hv,hex⟩
theorem dU.e1v{w':World}{cs:Array Value}(h:dU w A rows)(he:aM g w w')(hv:VB w g 94 cs)(h0:∃k,cs[0]?=some (.int .i64 k))(h1:∃k,cs[1]?=some (.int .i64 k))(h2:∃c,cs[2]?=some (.slice none 0 c))(h3:cs.size=3):dU w' A rows:=⟨h.1,λj r hj=>by
 obtain⟨G,b,c,e,q,hc,ho⟩:=h.2 j r hj;have hb:b≠g:=λe=>by obtain⟨cur,hcur,_⟩:=ho;rw[e]at hcur;have:=hcur.symm.trans hv;injection this with this;injection this with _ ht _;exact absurd ht (by decide)
 have hG:G≠g:=λe=>by
  subst e;have hv':w.heap[G]?=some (.cells cs 94 (0,0)):=hv;simp[World.cell?,hv']at q;obtain⟨k0,e0⟩:=h0;obtain⟨k1,e1⟩:=h1;obtain⟨k2,e2⟩:=h2;have hj3:j<3:=by have:=(aye.1 q).1;omega
  match j,q with
  |0,q=>rw[e0]at q;cases q
  |1,q=>rw[e1]at q;cases q
  |2,q=>rw[e2]at q;cases q
 exact⟨G,b,c,e,(axP (w:=w) (a:=⟨G,j,none⟩) (he.block G (jC q) (by intro x;injection x;omega))).trans q,hc,ho.aK he hb⟩⟩
theorem afA(p:Int)(l r:Nat)(rows:List (List Int))(A:Option Addr)(c:Nat)(w:World)(hF:av p=true)(h:oC w A rows)(hw:aQ (l+r) rows)(hel:fQ p rows)(hn:l+r<=1000)(hR:rows.length<=1000):
 Calls prog 142 #[.int .i64 p,.int .i64 l,.int .i64 r,.slice A rows.length c] w λe w'=>∃A' c',e=.returned (.agg #[.int .i64 l,.int .i64 r,.slice A' ((ay p).aC (l+r) rows).length c'])/\dU w' A' ((ay p).aC (l+r) rows)/\w.heap.size<w'.heap.size/\Ex w w':=by
 have hwr:IntKind.i64.wrap ((l:Int)+(r:Int))=((l+r:Nat):Int):=by rw[axC _ (by omega)];omega
 obtain⟨RR,hRR⟩:=xq ((ay p).aC (l+r) rows);obtain⟨W0,hW0,x0,d0,s0⟩:=VB.an w 94 #[.int .i64 0,.int .i64 0,.slice none 0 0] rfl;have cR:=xh p (l+r) rows A c W0 hF (h.ex x0) hw hel hn hR;rw[hRR]at cR⊢;obtain⟨m,hm⟩:=xq (l+r);rw[hm]at cR hwr;clear hRR hm hw hel;go_enter Tryz.func142,Tryz.ntmps142
 go_wp2_with fail
 refine cR.mono ?_;rintro e w2 ⟨A2,c2,rfl,hr2,x2⟩;have hz:=d0.ex x2;have z2:=x2.size;obtain⟨dd,zz⟩:=hz.l8 (.int .i64 l) (.int .i64 r) (.slice A2 RR.length c2);obtain⟨u0,u1,u2⟩:=hz.d3;obtain⟨k0,k1,k2⟩:=hz.z3;obtain⟨C0,C1,C2⟩:=dd.d3;have eF:=(x0.trans x2).aK zz (axk _);have zs:=zz.size;have hr3:dU (((w2.setCell ⟨w.heap.size,0,none⟩ (.int .i64 l)).setCell ⟨w.heap.size,1,none⟩ (.int .i64 r)).setCell ⟨w.heap.size,2,none⟩ (.slice A2 RR.length c2)) A2 RR:=hr2.e1v zz hz ⟨_,rfl⟩ ⟨_,rfl⟩ ⟨_,rfl⟩ rfl;clear cR;go_wp2_with fail
 refine axu (v:=.agg #[.int .i64 l,.int .i64 r,.slice A2 RR.length c2]) (by simp[results,Tryz.results142,go_sem,C0,C1,C2]) rfl ?_;exact⟨A2,c2,rfl,hr3,by omega,eF⟩
theorem WE(p:Int)(N:Nat)(x:Gr)(R:Ed->List (List Int))(Es:List Nat)(LE:List (List Int))(E:Option Addr)(ec:Nat)(I:Option Addr)(ic:Nat)(O:Option Addr)(oc:Nat)(w:World)(hF:av p=true)(hN:x.kK=(N:Int))(hE:bW EE w E x.es)(hI:Rd w I x.ins)(hO:Rd w O x.outs)(h1:x.es.length<=1)(hn:N<=1000)(hw:aQ N (x.es.flatMap R))(hel:fQ p (x.es.flatMap R))(hl:(x.es.flatMap R).length<=1000)
 (cE:∀e∈x.es,∀(W:World) (P:Option Addr) (pc:Nat) (Q:Option Addr) (qc:Nat),Rd W P e.ins->Rd W Q e.outs->Calls prog 172 #[.int .i64 p,.int .i64 N,.agg #[.int .i64 e.kd,.int .i64 e.vl,.slice P e.ins.length pc,.slice Q e.outs.length qc]] W λe' w'=>∃A c,e'=.returned (.slice A (R e).length c)/\dU w' A (R e)/\(R e=[]->A=none/\c=0)/\Ex W w')
 (hD:KF p x=true) (hEs:x.ins++x.outs=Es.map Int.ofNat) (hb:∀k∈Es,k<N) (hE0:0<N->0<Es.length) (hLE:(ay p).kY N Es (x.es.flatMap R)=LE) (hlen:x.ins.length+x.outs.length<=100):
 Calls prog 107 #[.int .i64 p,.agg #[.int .i64 x.kK,.slice E x.es.length ec,.slice I x.ins.length ic,.slice O x.outs.length oc]] w λe w'=>∃A c,e=.returned (.tuple #[.agg #[.int .i64 x.ins.length,.int .i64 x.outs.length,.slice A LE.length c],.bool true])/\dU w' A LE/\(∀q∈LE,q.length<=1099511627776)/\Ex w w':=by
 obtain⟨W0,hW0,y0,d0,s0⟩:=VB.an w 130 #[.int .i64 x.kK,.slice E x.es.length ec,.slice I x.ins.length ic,.slice O x.outs.length oc] rfl;obtain⟨W1,hW1,y1,d1,s1⟩:=VB.an W0 94 #[.int .i64 0,.int .i64 0,.slice none 0 0] s0;have D0:=d0.ex y1;have X1:=y0.trans y1;have cD:=λ(W:World) (h:Ex w W)=>WG p x E ec I ic O oc W (hE.ex h) (hI.ex h) (hO.ex h)
 rw[hD]at cD;have cV:=λ(W:World) (h:Ex w W)=>RZ p N x R E ec I ic O oc W hF hN (hE.ex h) h1 hn hw hel hl cE
 have cI:=λ(W:World) (h:Ex w W)=>acM I ic x.ins W (hI.ex h)
 obtain⟨M,hM⟩:=xq (x.es.flatMap R);rw[hM]at cV hw hel hLE;obtain⟨SN,hSN⟩:=xq ((ay p).g_ N M);obtain⟨ls,hls⟩:=xq SN.length;obtain⟨l,hil⟩:=xq x.ins.length;obtain⟨r,hol⟩:=xq x.outs.length;obtain⟨le,ac1⟩:=xq x.es.length;have HLS:=axj hls;have HIL:=axj hil;have HOL:=axj hol;have HES:=axj hEs;have HB:=axj hb;have HI:=axj hI;have HO:=axj hO;have hgood:aQ N SN/\fQ p SN/\SN.length<=N:=by rw[<-hSN];exact UE hF hel hw
 have HGD:=axj hgood;have hEl:Es.length=l+r:=by have:=congrArg List.length hEs;rw[axv,hil,hol,axs]at this;exact this.symm
 have HEL:=axj hEl;have HLE:=axj (show(ay p).aC (l+r) (SN.map ((ay p).xV Es))=LE by rw[<-hLE,<-hSN,<-hEl];rfl);rw[hSN,hls,hil,hol,ac1]at cV;rw[hil,hol,ac1]at cD D0 hW0⊢;rw[hil]at cI;rw[hil,hol]at hlen;rw[ac1]at h1;have h2:=ax hF;have atW:ls<=N:=by rw[<-hls];exact hgood.2.2
 have HE0:=axj hE0;have hLl:=congrArg List.length hEs;rw[axv,hil,hol,axs]at hLl;have Lj:=axj (show(x.ins++x.outs).length=l+r by rw[axv,hil,hol]);clear hLE hSN hls hil hol ac1 hb hEs hD hw hel hI hO cE hN hE0 hgood hEl hM hLl hl hE h1;obtain⟨q0,q1,q2,q3⟩:=D0.d4;go_enter Tryz.func107,Tryz.ntmps107
 go_wp2_with fail
 refine(cD W1 X1).mono ?_;rintro e w2 ⟨rfl,x2⟩;have D2:=D0.ex x2;have X2:=X1.trans x2;have d2:=d1.ex x2;have p2:=D2.c2;have p3:=D2.c3;clear cD q0 q1 q2 q3 hW0 hW1;have z2:=x2.size;have HS2:∀W,Ex w2 W->(Ex w2 W/\W.cell? ⟨w.heap.size,2,none⟩=some (.slice I l ic)/\W.cell? ⟨w.heap.size,3,none⟩=some (.slice O r oc)):=λW h=>⟨h,af h p2,af h p3⟩
 go_wp2_with fail
 go_region_held3 (λW=>Ex w2 W/\W.cell? ⟨w.heap.size,2,none⟩=some (.slice I l ic)/\W.cell? ⟨w.heap.size,3,none⟩=some (.slice O r oc)) (first
  |(exact HS2 _ x8)
  |(exact HS2 _ x7)
  |(exact HS2 _ (aCQ w2).drew)
  |(exact HS2 _ (aCQ w2))) (first
  |(refine aH (vs:=v7) (vx:=.slice O r oc) rfl _ _ _ rfl rfl rfl (by with_reducible exact hrun) ?_)
  |(go_at_call 45
    have hb:=(‹Ex w2 _/\_›).1;refine(cI _ (X2.trans hb)).mono ?_;rintro e w7 ⟨v7,rfl,al7,x7'⟩;have x7:=hb.trans x7';obtain⟨v8,w8,hrun,al8,e8,_⟩:=bK 55 55 Tryz.underlying55 w7 _ v7 x.ins al7 x7'.size O oc x.outs ((HO.out.ex X2).ex x7) (by rw[HIL.out,HOL.out];omega);rw[HOL.out]at hrun;have x8:Ex w2 w8:=x7.Og e8 (λg e=>by have:=(al7.lt g e).1;have:=hb.size;omega);clear hb e8))
 all_goals
  obtain⟨A6,c6,e6,f6⟩:=al8.form (by rw[Lj.out];omega);rw[Lj.out]at e6;subst e6;have r6:=f6.rd;have D8:=D2.ex x8;have X8:=X2.trans x8;have d8:=d2.ex x8;have z8:=x8.size;clear al7 al8 hrun f6;have p2:=D8.c2;have p3:=D8.c3;obtain⟨p0,p1⟩:=D8.d2;go_wp2_with fail
  refine(cV w8 X8).mono ?_;rintro e w9 ⟨A9,c9,rfl,hm9,x9⟩;clear p0 p1 p2 p3 cV cI;have z9:=x9.size;have r9:=r6.ex x9;go_wp2_with fail
  go_loopw [7,25] (λs7 s25 wr=>∃k:Nat,k<=ls/\s25=.int .i64 k/\GE UD 55 wr w9.heap.size wr.heap.size s7 ((SN.take k).map ((ay p).xV Es))/\Ex w9 wr) (λ_ s25 _=>ls-(intOf s25).toNat)
  case atStart=>exact⟨0,axq _,rfl,GE.nil _ _ _ _ _,aCQ _⟩
  case round=>
   rename World=>wi;obtain⟨k,hk,rfl,hge,he⟩:=hrel;by_cases hlt:k<ls
   .obtain⟨g,b,c,row,eA,hr,hc,hrc,hro⟩:=(hm9.ex he).at_ (k:=k) (by rw[HLS.out];exact hlt);subst eA;have hrl:row.length=N:=HGD.out.1 row (axo hr);have HT:=axj (show(SN.take (k+1)).map ((ay p).xV Es)=(SN.take k).map ((ay p).xV Es)++[(ay p).xV Es row] by rw[axy,hr];simp);have hpos:0<l+r:=by rw[<-HEL.out];exact HE0.out (by omega)
    have cL:=Wh A6 c6 (x.ins++x.outs) (some ⟨b,0,none⟩) c row wi (r9.ex he) (hro.rd (by omega)) (λq hq=>by
     rw[HES.out]at hq;obtain⟨j,hj,rfl⟩:=axr.1 hq;have:=HB.out j hj;exact⟨Int.natCast_nonneg _,by rw[hrl];show((j:Nat):Int)<(N:Int);omega⟩) (by rw[Lj.out];exact hpos)
    rw[Lj.out,hrl,adJ (p:=p) HES.out]at cL;have hal:((ay p).xV Es row).length=l+r:=by rw[Dt,HEL.out]
    have htl:((SN.take k).map ((ay p).xV Es)).length<=k:=by simp;omega
    rw[hrl]at hc;have zi:=he.size;clear hr hrl;go_wp2_with fail
    refine cL.mono ?_;rintro e w5 ⟨g5,c5,rfl,Xh,hg5,o5,x5⟩;obtain⟨v',w',hrun,hge',hE'⟩:=yH (hge.ex x5) x5.size o5 (by rw[hal];exact Xh) hg5 zi (by omega);rw[hal]at hrun;rw[<-HT.out]at hge';have he':=hE' w9 (he.trans x5) (axk _);clear HT hge hE' cL htl hal;go_wp2_with (at_builtin;refine wpList_append_run rfl _ _ _ rfl rfl rfl hrun ?_)
    go_roundw;case rel=>exact⟨k+1,by omega,by go_num,hge',he'⟩
    case measure=>simp[intOf];omega
   .obtain rfl:k=ls:=by omega
    rw[axG (by rw[HLS.out];exact axk _)]at hge;obtain⟨hW1,hW2⟩:=FZ (Es:=Es) h2 HGD.out.2.1;have hml:(SN.map ((ay p).xV Es)).length=k:=by rw[axs];exact HLS.out
    obtain⟨A3,c3,e3,rd3⟩:=hge.rdm hW1 (by rw[hml];omega) (by rw[HEL.out];omega);rw[hml]at e3;subst e3;have cR:=afA p l r (SN.map ((ay p).xV Es)) A3 c3 wi hF rd3 (by rw[<-HEL.out];exact hW1) hW2 (by omega) (by rw[hml];omega);rw[hml,HLE.out]at cR;have XI:=(X8.trans x9).trans he;have DI:=(D8.ex x9).ex he;have p2:=DI.c2;have p3:=DI.c3;clear hge rd3 hW1 hW2 hml;go_wp2_with fail
    refine cR.mono ?_;rintro e w4 ⟨A4,c4,rfl,hr4,_,x4⟩;have hz:=((d8.ex x9).ex he).ex x4;obtain⟨dd,zz⟩:=hz.l8 (.int .i64 l) (.int .i64 r) (.slice A4 LE.length c4);obtain⟨u0,u1,u2⟩:=hz.d3;obtain⟨k0,k1,k2⟩:=hz.z3;obtain⟨C0,C1,C2⟩:=dd.d3;have eF:=(XI.trans x4).aK zz (by omega);have hr5:=hr4.e1v zz hz ⟨_,rfl⟩ ⟨_,rfl⟩ ⟨_,rfl⟩ rfl;have hLw:∀q∈LE,q.length<=1099511627776:=λq hq=>by rw[<-HLE.out]at hq;have:=(SA (n:=l+r) hF (rows:=SN.map ((ay p).xV Es)) (FZ h2 HGD.out.2.1).2 (by rw[<-HEL.out];exact(FZ h2 HGD.out.2.1).1)).1 q hq;omega
    have HLw:=axj hLw;clear cR hr4 hLw;go_wp2_with fail
    refine axu (v:=.tuple #[.agg #[.int .i64 l,.int .i64 r,.slice A4 LE.length c4],.bool true]) (by simp[results,Tryz.results107,go_sem,C0,C1,C2]) rfl ?_;exact⟨A4,c4,rfl,hr5,HLw.out,eF⟩
def eqG(p:Int)(N:Nat)(e:Ed):List (List Int):=RV p N e.kd e.vl (e.ins.map Int.toNat) (e.outs.map Int.toNat)
theorem Oi(h2:2<=p)(n:Nat)(k v:Int)(i o:List Nat):aQ n (eqR p n k v i o)/\fQ p (eqR p n k v i o)/\(eqR p n k v i o).length<=2:=by
 have key:∀a b,(mK p n a b).length=n/\aA p (mK p n a b)=true:=λa b=>⟨jd p n a b,axQ.2 λx hx=>by
  have:=ab8 (show 0<p by omega) n a b x hx;simp[iF];omega⟩
 unfold eqR;split
 .refine⟨λr hr=>?_,λr hr=>?_,by simp⟩
  .rcases axI.1 hr with rfl|hr
   .exact(key _ _).1
   .rw[axJ.1 hr];exact(key _ _).1
  .rcases axI.1 hr with rfl|hr
   .exact(key _ _).2
   .rw[axJ.1 hr];exact(key _ _).2
 .split
  .exact⟨λr hr=>by rw[axJ.1 hr];exact(key _ _).1,λr hr=>by rw[axJ.1 hr];exact(key _ _).2,by simp⟩
  .split
   .exact⟨λr hr=>by rw[axJ.1 hr];exact(key _ _).1,λr hr=>by rw[axJ.1 hr];exact(key _ _).2,by simp⟩
   .split
    .exact⟨λr hr=>by rw[axJ.1 hr];exact(key _ _).1,λr hr=>by rw[axJ.1 hr];exact(key _ _).2,by simp⟩
    .exact⟨λr hr=>by simp at hr,λr hr=>by simp at hr,by simp⟩
theorem aax(h2:2<=p)(n:Nat)(k v:Int)(i o:List Nat):aQ n (RV p n k v i o)/\fQ p (RV p n k v i o)/\(RV p n k v i o).length<=2:=by
 unfold RV;split
 .exact Oi h2 _ _ _ _ _
 .exact Oi h2 _ _ _ _ _
structure LGd (p k v:Int) (T:Int×Int) (N:Nat) (Es:List Nat):Prop where
 hN:(dM k v).kK=(N:Int)
 h1:(dM k v).es.length<=1
 hn:N<=100
 hD:KF p (dM k v)=true
 hEs:(dM k v).ins++(dM k v).outs=Es.map Int.ofNat
 hb:∀j∈Es,j<N
 hE0:0<N->0<Es.length
 hLE:(ay p).kY N Es ((dM k v).es.flatMap (eqG p N))=fU p k v
 li:(dM k v).ins.length=T.1.toNat
 lo:(dM k v).outs.length=T.2.toNat
 lt:T.1.toNat+T.2.toNat<=100
theorem XC:∀n:Fin 13,jI ⟨((n:Nat):Int),[],nP n,nP n⟩=true:=by decide
theorem acJ{nd:Nd}{T:Int×Int}(hF:av p=true)(hl:jP nd=some T)(hv:Ci p nd=true)(h8:nd.kd≠8)(uJ:nd.kd≠14):∃N Es,LGd p nd.kd nd.vl T N Es:=by
 have h2:=ax hF;obtain⟨k,v,nm⟩:=nd;unfold jP at hl;dsimp only at hl h8 uJ⊢;split at hl
 .rename_i h1;injection hl with hl;subst hl;obtain⟨_,hk,hi⟩:=h1;subst hk;have hi:0<=v/\v<=12:=by simpa[bL]using hi
  obtain⟨n,rfl⟩:∃n:Nat,v=(n:Int):=⟨v.toNat,by omega⟩;have hn:n<13:=by omega
  have e:dM 1 (n:Int)=⟨n,[],nP n,nP n⟩:=rfl;refine⟨n,range n++range n,by rw[e],by rw[e];exact axq _,by omega,?_,?_,λj hj=>?_,λh=>by simp;omega,?_,by rw[e];simp[iG],by rw[e];simp[iG],by dsimp only;omega⟩
  .rw[e];unfold KF hgB;rw[hF,XC ⟨n,hn⟩];rfl
  .rw[e];simp[nP]
  .rcases axZ.1 hj with h|h<;>exact ax5.1 h
  .rw[e];show(ay p).kY n (range n++range n) []=_;rw[Zl hF];rfl
 .split at hl
  .rename_i h1;injection hl with hl;subst hl;obtain⟨_,hk,hi⟩:=h1;subst hk hi;refine⟨2,[0,1,1,0],rfl,axq _,by omega,?_,rfl,λj hj=>by simp at hj;omega,λ_=>by simp,QY hF,rfl,rfl,by decide⟩;unfold KF hgB;rw[hF];rfl
  .split at hl
   .rename_i h1;injection hl with hl;subst hl;obtain⟨_,hk,hvl⟩:=h1;have hel:k=7∨k=13->iF p v=true:=λe=>by
     unfold KY at hvl;rw[axl e]at hvl;unfold Ci at hv;simp[e,bL]at hv hvl;simp[iF];omega
    have hvp:v<p:=by
     by_cases e:k=7∨k=13
     .have:=hel e;simp[iF]at this;omega
     .unfold KY at hvl;rw[axm e]at hvl;have:v=0:=by simpa using hvl
      omega
    have hdv:decide (v<p)=true:=decide_eq_true hvp;have key:∀(n m:Nat),gw k=((n:Int),(m:Int))->dM k v=⟨((n+m:Nat):Int),[⟨k,v,nP n,mG n m⟩],nP n,mG n m⟩:=λn m hg=>by
     have:3<=k/\k<=14:=by simpa[bL]using hk
     unfold dM;rw[axm (by omega),axm (by omega),hg];simp
    have hE:=λ{n m:Nat} (hg:gw k=((n:Int),(m:Int)))=>Q0 hF hk h8 uJ hel hg
    rcases kinds hk with rfl|rfl|rfl|rfl|rfl|rfl|rfl|rfl|rfl|rfl|rfl|rfl;case inr.inr.inr.inr.inr.inl=>exact absurd rfl h8
    case inr.inr.inr.inr.inr.inr.inr.inr.inr.inr.inr=>exact absurd rfl uJ
    .refine⟨3,range 3,rfl,axk _,by omega,?_,rfl,λj hj=>ax5.1 hj,λ_=>by simp,hE (n:=1) (m:=2) rfl,rfl,rfl,by decide⟩;rw[key 1 2 rfl];unfold KF hgB jI;simp only[ayA,ayG,GX,PI,hvl,hdv,hF];rfl
    .refine⟨1,range 1,rfl,axk _,by omega,?_,rfl,λj hj=>ax5.1 hj,λ_=>by simp,hE (n:=1) (m:=0) rfl,rfl,rfl,by decide⟩;rw[key 1 0 rfl];unfold KF hgB jI;simp only[ayA,ayG,GX,PI,hvl,hdv,hF];rfl
    .refine⟨3,range 3,rfl,axk _,by omega,?_,rfl,λj hj=>ax5.1 hj,λ_=>by simp,hE (n:=2) (m:=1) rfl,rfl,rfl,by decide⟩;rw[key 2 1 rfl];unfold KF hgB jI;simp only[ayA,ayG,GX,PI,hvl,hdv,hF];rfl
    .refine⟨1,range 1,rfl,axk _,by omega,?_,rfl,λj hj=>ax5.1 hj,λ_=>by simp,hE (n:=0) (m:=1) rfl,rfl,rfl,by decide⟩;rw[key 0 1 rfl];unfold KF hgB jI;simp only[ayA,ayG,GX,PI,hvl,hdv,hF];rfl
    .refine⟨2,range 2,rfl,axk _,by omega,?_,rfl,λj hj=>ax5.1 hj,λ_=>by simp,hE (n:=1) (m:=1) rfl,rfl,rfl,by decide⟩;rw[key 1 1 rfl];unfold KF hgB jI;simp only[ayA,ayG,GX,PI,hvl,hdv,hF];rfl
    .refine⟨3,range 3,rfl,axk _,by omega,?_,rfl,λj hj=>ax5.1 hj,λ_=>by simp,hE (n:=2) (m:=1) rfl,rfl,rfl,by decide⟩;rw[key 2 1 rfl];unfold KF hgB jI;simp only[ayA,ayG,GX,PI,hvl,hdv,hF];rfl
    .refine⟨1,range 1,rfl,axk _,by omega,?_,rfl,λj hj=>ax5.1 hj,λ_=>by simp,hE (n:=0) (m:=1) rfl,rfl,rfl,by decide⟩;rw[key 0 1 rfl];unfold KF hgB jI;simp only[ayA,ayG,GX,PI,hvl,hdv,hF];rfl
    .refine⟨3,range 3,rfl,axk _,by omega,?_,rfl,λj hj=>ax5.1 hj,λ_=>by simp,hE (n:=1) (m:=2) rfl,rfl,rfl,by decide⟩;rw[key 1 2 rfl];unfold KF hgB jI;simp only[ayA,ayG,GX,PI,hvl,hdv,hF];rfl
    .refine⟨1,range 1,rfl,axk _,by omega,?_,rfl,λj hj=>ax5.1 hj,λ_=>by simp,hE (n:=1) (m:=0) rfl,rfl,rfl,by decide⟩;rw[key 1 0 rfl];unfold KF hgB jI;simp only[ayA,ayG,GX,PI,hvl,hdv,hF];rfl
    .refine⟨2,range 2,rfl,axk _,by omega,?_,rfl,λj hj=>ax5.1 hj,λ_=>by simp,hE (n:=1) (m:=1) rfl,rfl,rfl,by decide⟩;rw[key 1 1 rfl];unfold KF hgB jI;simp only[ayA,ayG,GX,PI,hvl,hdv,hF];rfl
   .cases hl
theorem PZ(k:Int):trim [k]=(cF k).n/\(cF k).d=[1]:=by
 by_cases h:k=0
 .subst h;exact⟨rfl,rfl⟩
 .have e:cF k=⟨[k],[1]⟩:=axm h;rw[e];exact⟨Tr.yO (by simp) (by simpa[cf]using h),rfl⟩
theorem U4(k:Int)(w:World):Calls prog 138 #[.int .i64 k] w λe w'=>G8 w (cF k) e w':=by
 obtain⟨x1,v1⟩:=VB.xn w 57 #[.slice none 0 0,.slice none 0 0];have s1:(w.alloc (.cells #[.slice none 0 0,.slice none 0 0] 57)).heap.size=w.heap.size+1:=by simp
 go_enter Tryz.func138,Tryz.ntmps138
 go_wp2_with fail
 generalize w.alloc (.cells #[.slice none 0 0,.slice none 0 0] 57)=W1 at*;have y1:=(aCQ W1).alloc (aN [k]);have o1:=Own.new W1 [k];have s2:(W1.alloc (aN [k])).heap.size=w.heap.size+1+1:=by simp[s1]
 rw[s1]at o1;change Calls _ _ _ (W1.alloc (aN [k])) _;generalize W1.alloc (aN [k])=W2 at*;refine(nV (some ⟨w.heap.size+1,0,none⟩) 1 [k] W2 (o1.rd (by simp)) (by simp)).mono ?_;rintro e w2 ⟨g,c,rfl,hc,hg,ho,x2⟩;obtain⟨e1,e2⟩:=PZ k;rw[e1]at hc ho⊢;have Hd:=axj e2;clear e1 e2 o1;have z2:=x2.size;have v2:=(v1.ex y1).ex x2;have y3:=(aCQ w2).alloc (.cells #[.int .i64 1] 3);have o3:Own (w2.alloc (.cells #[.int .i64 1] 3)) w2.heap.size [1]:=Own.new w2 [1];have v3:=v2.ex y3;have s3:(w2.alloc (.cells #[.int .i64 1] 3)).heap.size=w2.heap.size+1:=by simp
 have aub:=ho.lt;have ho3:=ho.ex y3;obtain⟨r0,r1⟩:=v3.d2;obtain⟨k0,k1⟩:=v3.z2;obtain⟨dd,zz⟩:=v3.st2 (.slice (some ⟨g,0,none⟩) (cF k).n.length c) (.slice (some ⟨w2.heap.size,0,none⟩) 1 1);obtain⟨C0,C1⟩:=dd.d2;have hnl:(cF k).n.length<=1:=by unfold cF;split<;>simp[zF]
 have f4:=ho3.fr (B:=w.heap.size+1) (by omega) (by omega) hc;have f4:=(f4.aK zz (f4.hi.off (by omega))).more (B':=w.heap.size) (by omega);have f5:=o3.fr (B:=w.heap.size+1) (c:=1) (by simp) (by omega) (by simp);have f5:=(f5.aK zz (f5.hi.off (by omega))).more (B':=w.heap.size) (by omega);have eF:=(((x1.trans y1).trans x2).trans y3).aK zz (axk _);go_wp2_with fail
 refine axu (v:=.agg #[.slice (some ⟨g,0,none⟩) (cF k).n.length c,.slice (some ⟨w2.heap.size,0,none⟩) 1 1]) (by simp[results,Tryz.results138,go_sem,C0,C1]) rfl ?_;refine⟨some ⟨g,0,none⟩,c,some ⟨w2.heap.size,0,none⟩,1,?_,f4,?_,iA (by omega),eF⟩
 .rw[Hd.out];rfl
 .rw[Hd.out];exact f5
theorem Qj(xs:List Int)(A:Option Addr)(c:Nat)(w:World)(h:Rd w A xs):
 Calls prog 106 #[.slice A xs.length c] w λe w'=>∃v,e=.returned v/\GE rR 57 w' w.heap.size w'.heap.size v (xs.map cF)/\Ex w w':=by
 have hrl:=h.len;obtain⟨L,hL⟩:=xq xs.length;have HL:=axj hL;rw[hL]at hrl⊢;clear hL;have H:=axj h;go_enter Tryz.func106,Tryz.ntmps106
 go_wp2_with fail
 go_loopw [3,8] (λo i wr=>∃j:Nat,j<=L/\i=.int .i64 j/\GE rR 57 wr w.heap.size wr.heap.size o ((xs.take j).map cF)/\Ex w wr) (λ_ i _=>L-(intOf i).toNat)
 case atStart=>exact⟨0,axq _,rfl,GE.nil _ _ _ _ _,aCQ _⟩
 case round=>
  rename World=>wj;obtain⟨j,hj,rfl,hgf,hij⟩:=hrel;by_cases hlt2:j<L
  .obtain⟨g',off',y,eB,hy,hgl,hcell⟩:=(H.out.ex hij).at_ (by rw[HL.out];exact hlt2);subst eB;have HT2:=axj (show(xs.take (j+1)).map cF=(xs.take j).map cF++[cF y] by rw[axy,hy];simp);have af4:((xs.take j).map cF).length<=j:=by simp;omega
   have hzj:=hij.size;clear hy;go_wp2_with fail
   refine(U4 y wj).mono ?_;rintro e w3 ⟨A3,c3,B3,d3,rfl,f3,p3,Uw,x3⟩;have hz3:=x3.size;obtain⟨v',w4,hrun,hge4,_,NQ,zf⟩:=jU (hgf.ex x3) hz3 (dZ (x:=cF y) f3 p3 Uw hz3) (axk _) hz3 (axk _) hzj (by omega);rw[<-HT2.out]at hge4;have xL:=zf w (hij.trans x3) (axk _);clear zf HT2 hgf;go_wp2_with (at_builtin;refine wpList_append_run rfl _ _ _ rfl rfl rfl hrun ?_)
   go_roundw;case rel=>exact⟨j+1,by omega,by go_num,hge4,xL⟩
   case measure=>simp[intOf];omega
  .obtain rfl:j=L:=by omega
   rw[axG (by rw[HL.out];exact axk _)]at hgf;go_wp2_with fail
   go_ret;exact⟨_,rfl,hgf,hij⟩
theorem U2(x:Rln)(A:Option Addr)(c:Nat)(w:World)(h:oC w A x.b):
 Calls prog 73 #[.agg #[.int .i64 x.l,.int .i64 x.r,.slice A x.b.length c]] w λe w'=>∃A1 c1,e=.returned (.agg #[.int .i64 x.l,.int .i64 x.r,.slice A1 (rq x.b).length c1])/\rQ w' w.heap.size w'.heap.size (.slice A1 (rq x.b).length c1) (rq x.b)/\Ex w w':=by
 obtain⟨l,r,rows⟩:=x;dsimp only at h⊢;have ZY:=h.1;obtain⟨R,hR⟩:=xq rows.length;have HR:=axj hR;have H:=axj h;have HCL:=axj (show(rq rows).length=R by rw[<-hR];simp[rq]);rw[hR]at ZY⊢;rw[HCL.out];clear hR h;obtain⟨x0,v0⟩:=VB.xn w 94 #[.int .i64 l,.int .i64 r,.slice A R c];have S0:(w.alloc (.cells #[.int .i64 l,.int .i64 r,.slice A R c] 94)).heap.size=w.heap.size+1:=by simp
 go_enter Tryz.func73,Tryz.ntmps73
 go_wp2_with fail
 generalize w.alloc (.cells #[.int .i64 l,.int .i64 r,.slice A R c] 94)=W0 at*;obtain⟨y1,d1⟩:=VB.xn W0 28 #[.int .i64 0,.int .i64 0,.slice none 0 0];have S1:(W0.alloc (.cells #[.int .i64 0,.int .i64 0,.slice none 0 0] 28)).heap.size=w.heap.size+1+1:=by simp[S0]
 rw[S0]at d1;generalize W0.alloc (.cells #[.int .i64 0,.int .i64 0,.slice none 0 0] 28)=W1 at*;obtain⟨y2,d2⟩:=VB.xn W1 28 #[.int .i64 l,.int .i64 r,.slice none 0 0];rw[S1]at d2;have S2:(W1.alloc (.cells #[.int .i64 l,.int .i64 r,.slice none 0 0] 28)).heap.size=w.heap.size+1+1+1:=by simp[S1]
 generalize W1.alloc (.cells #[.int .i64 l,.int .i64 r,.slice none 0 0] 28)=W2 at*;have x1:=x0.trans y1;obtain⟨G,hG⟩:=xq (w.heap.size+1+1);have hG2:w.heap.size+2=G:=by omega
 rw[hG]at d2 S1 S2⊢;clear hG;go_loopw [14] (λi wr=>∃(k:Nat) (v:Value),k<=R/\i=.int .i64 k/\VB wr G 28 #[.int .i64 l,.int .i64 r,v]/\GE Xc 54 wr (G+1) wr.heap.size v (rq (rows.take k))/\Ex W1 wr) (λi _=>R-(intOf i).toNat)
 case atStart=>exact⟨0,_,axq _,rfl,d2,GE.nil _ _ _ _ _,y2⟩
 case round=>
  clear d2 S2 y2;rename World=>wi;obtain⟨k,v,hk,rfl,d6,hgm,he⟩:=hrel;by_cases hlt:k<R
  .obtain⟨g,off,B,d,s,e1,hr,hc,hrd⟩:=H.out.at_ (k:=k) (by rw[HR.out];exact hlt);subst e1;have Hr:=axj hr;have xi:=x1.trans he;have hc:=af xi hc;have hrd:=hrd.ex xi;have hrl:=hrd.len;have HT:=axj (show rq (rows.take (k+1))=rq (rows.take k)++[s.map cF] by rw[axy,hr];simp[rq]);have htl:(rq (rows.take k)).length<=k:=by simp[rq];omega
   have cC:=Qj s B d wi.drew hrd.drew;have hd6:=d6.lt;obtain⟨A7,c7,ev⟩:=hgm.kH;have hk1:(rq (rows.take k)).length=k:=by simp[rq];have:=HR.out;omega
   have hk2:(rq (rows.take (k+1))).length=k+1:=by simp[rq];have:=HR.out;omega
   rw[hk1]at ev;subst ev;have cG:=d6.c2;clear hr;go_wp2_with fail
   go_region_law (first
    |(refine aH (vs:=.slice A7 k c7) (vx:=.slice (some ⟨w8.heap.size,0,none⟩) 1 1) rfl _ _ _ rfl rfl rfl (by with_reducible exact IL) ?_)
    |(go_simp
      go_at_call 106
      refine cC.mono ?_;rintro e w8 ⟨v8,rfl,ajB,x8'⟩;have x8:Ex wi w8:=(aCQ wi).drew.trans x8';have z8:=x8.size;obtain⟨A8,c8,ev8⟩:=ajB.kH;rw[axs]at ev8;subst ev8;have cG8:=af x8 cG;have cG9:=af ((aCQ w8).alloc (.cells #[.slice A8 s.length c8] 54)) cG8;have d8:=d6.ex x8;obtain⟨v9,w9,IL,ac0,ho9,_,hE9⟩:=qz (hgm.ex x8) z8 ajB (by rw[axs];exact hrl) (axk _) z8 (axk _) (by omega) (by omega);have d9:VB w9 G 28 #[.int .i64 l,.int .i64 r,.slice A7 k c7]:=(ho9.block G d8.lt (λe=>by have:=hgm.own _ e.symm;omega)).trans d8;rw[<-HT.out]at ac0;obtain⟨A9,c9,ev9⟩:=ac0.kH;rw[hk2]at ev9;subst ev9;have k2:=d9.frozen 2;have aoR:=d9.c2))
   all_goals
    have yz:aM G w9 (w9.setCell ⟨G,2,none⟩ (.slice A9 (k+1) c9)):=(aM.refl _ w9).setCell (p:=⟨G,2,none⟩) rfl _;have xw:Ex W1 w9:=hE9 W1 (he.trans x8) (by omega);have agp:=ac0.k1 yz (by omega);have d62:=d9.bC 2 (.slice A9 (k+1) c9);have xw2:=xw.aK yz (by omega);clear ac0 hgm hE9 ho9 HT htl IL cG cG8 cG9 aoR k2;go_wp2_with fail
    go_roundw;case rel=>exact⟨k+1,_,by omega,by go_num,d62,agp.more (axk _) (ayH (by simp)),xw2⟩
    case measure=>simp[intOf];omega
  .obtain rfl:k=R:=by omega
   rw[axG (by rw[HR.out];exact axk _)]at hgm;obtain⟨A7,c7,ev,_,hf⟩:=hgm.rows (by rw[HCL.out];exact ZY);rw[HCL.out]at ev;subst ev;have d2r:=d1.ex he;obtain⟨dd,zz⟩:=d2r.l8 (.int .i64 l) (.int .i64 r) (.slice A7 k c7);obtain⟨u0,u1,u2⟩:=d2r.d3;obtain⟨k0,k1,k2⟩:=d2r.z3;obtain⟨t0,t1,t2⟩:=d6.d3;obtain⟨C0,C1,C2⟩:=dd.d3;have eF:=(x1.trans he).aK zz (by omega);have hr8:=((hgm.k1 zz (by omega)).ofx (by rw[HCL.out];exact ZY)).more (a':=w.heap.size) (by omega) zz.size;go_wp2_with fail
   refine axu (v:=.agg #[.int .i64 l,.int .i64 r,.slice A7 k c7]) (by simp[results,Tryz.results73,go_sem,C0,C1,C2]) rfl ?_;exact⟨A7,c7,rfl,hr8,eF⟩
end Go.Proofs.YthgiffhlfcmgaaaGreatDoor
