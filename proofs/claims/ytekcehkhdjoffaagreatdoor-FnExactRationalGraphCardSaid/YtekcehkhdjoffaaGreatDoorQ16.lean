/- Lemmas and walks on terms over rational functions: RationalGraph: the reference's equations of an .. -/
import Derived.Test.YtekcehkhdjoffaaGreatDoorQ13
import Derived.Test.YtekcehkhdjoffaaGreatDoorQ15
import Derived.Test.YtekcehkhdjoffaaGreatDoorQ14
namespace Go.Proofs.YtekcehkhdjoffaaGreatDoor
open _root_.Go.Proofs.Tryz(prog)
set_option maxRecDepth 100000
set_option maxHeartbeats 8000000
set_option linter.all false
open Go Go.RowKit
variable{p:Int}{B N:Nat}{w:World}
theorem Ky(I:List Nat):aK (I.map Int.ofNat)=I:=by unfold aK;rw[anr];exact(anF λa _=>by simp).trans (List.map_id I)
theorem Kv{l:List Int}(h:∀a∈l,0<=a):∃I:List Nat,l=I.map Int.ofNat:=⟨aK l,by
 unfold aK;rw[anr];exact((anF λa ha=>by have:=h a ha;simp;omega).trans (List.map_id l)).symm⟩
theorem yh{α:Type}{l:List α}(h:l.length=2):∃a b,l=[a,b]:=by
 match l,h with
 |[a,b],_=>exact⟨a,b,rfl⟩
theorem NV{e:Ed}(hF:aj p=true)(h:OB p N e)(h8:e.kd≠8)(mD:e.kd≠14)(hN:N<=1000)(P:Option Addr)(pc:Nat)(Q:Option Addr)(qc:Nat)(w:World)(hP:Rd w P e.ins)(hQ:Rd w Q e.outs):
 Calls prog 41 #[.int .i64 p,.int .i64 N,.agg #[.int .i64 e.kd,.int .i64 e.vl,.slice P e.ins.length pc,.slice Q e.outs.length qc]] w λe' w'=>∃A c,e'=.returned (.slice A (Ah p N e.kd e.vl (aK e.ins) (aK e.outs)).length c)/\iw w' A (Ah p N e.kd e.vl (aK e.ins) (aK e.outs))/\Ex w w':=by
 obtain⟨hk,hv,hg,hw⟩:=h;obtain⟨kd,vl,ins,outs⟩:=e;dsimp only at hk hv hg hw h8 mD hP hQ⊢;obtain⟨I,rfl⟩:=Kv (l:=ins) λa ha=>(hw a (by simp[ha])).1
 obtain⟨O,rfl⟩:=Kv (l:=outs) λa ha=>(hw a (by simp[ha])).1
 rw[Ky,Ky];have hb:∀x∈I++O,x<N:=λx hx=>by
  have:=hw (Int.ofNat x) (by
   rcases anu.1 hx with q|q
   .exact an7 _ (List.mem_map_of_mem q)
   .exact aoG _ (List.mem_map_of_mem q))
  have h2:=this.2;simp at h2;omega
 rw[am5,am5]at hg⊢;have hl:∀(a b:Nat),gw kd=((a:Int),(b:Int))->I.length=a/\O.length=b:=λa b e=>by rw[e]at hg;injection hg with h1 h2;omega
 clear hw hg;rcases kinds hk with rfl|rfl|rfl|rfl|rfl|rfl|rfl|rfl|rfl|rfl|rfl|rfl;case inr.inr.inr.inr.inr.inl=>exact absurd rfl h8
 case inr.inr.inr.inr.inr.inr.inr.inr.inr.inr.inr=>exact absurd rfl mD
 .obtain⟨h1,h2⟩:=hl 1 2 rfl;obtain⟨a,rfl⟩:=an2.1 h1;obtain⟨b,c,rfl⟩:=yh h2;refine(SV p vl N a b c P pc Q qc w hF hP hQ hb hN).mono ?_;rintro e' w' ⟨X,cx,rfl,hm,x⟩;exact⟨X,cx,rfl,hm,x⟩
 .obtain⟨h1,h2⟩:=hl 1 0 rfl;rw[h1,h2];refine(SS p vl N P pc Q qc w).mono ?_;rintro e' w' ⟨rfl,x⟩;exact⟨none,0,rfl,iw.nil _ _,x⟩
 .obtain⟨h1,h2⟩:=hl 2 1 rfl;obtain⟨a,b,rfl⟩:=yh h1;obtain⟨c,rfl⟩:=an2.1 h2;refine(SQ p vl N a b c P pc Q qc w hF hP hQ hb hN).mono ?_;rintro e' w' ⟨X,cx,rfl,hm,x⟩;exact⟨X,cx,rfl,hm,x⟩
 .obtain⟨h1,h2⟩:=hl 0 1 rfl;obtain rfl:=aou h1;obtain⟨a,rfl⟩:=an2.1 h2;refine(SN p vl N a P pc Q qc w hF hP hQ hb hN).mono ?_;rintro e' w' ⟨X,cx,rfl,hm,x⟩;exact⟨X,cx,rfl,hm,x⟩
 .obtain⟨h1,h2⟩:=hl 1 1 rfl;obtain⟨a,rfl⟩:=an2.1 h1;obtain⟨b,rfl⟩:=an2.1 h2;refine(SK p vl N a b P pc Q qc w hF hP hQ hb (hv (.inl rfl)) hN).mono ?_;rintro e' w' ⟨X,cx,rfl,hm,x⟩;exact⟨X,cx,rfl,hm,x⟩
 .obtain⟨h1,h2⟩:=hl 2 1 rfl;obtain⟨b,c,rfl⟩:=yh h1;obtain⟨a,rfl⟩:=an2.1 h2;refine(SI p vl N a b c P pc Q qc w hF hP hQ hb hN).mono ?_;rintro e' w' ⟨X,cx,rfl,hm,x⟩;exact⟨X,cx,rfl,hm,x⟩
 .obtain⟨h1,h2⟩:=hl 0 1 rfl;rw[h1,h2];refine(N7 p vl N P pc Q qc w).mono ?_;rintro e' w' ⟨rfl,x⟩;exact⟨none,0,rfl,iw.nil _ _,x⟩
 .obtain⟨h1,h2⟩:=hl 1 2 rfl;obtain⟨c,rfl⟩:=an2.1 h1;obtain⟨a,b,rfl⟩:=yh h2;refine(NZ p vl N a b c P pc Q qc w hF hP hQ hb hN).mono ?_;rintro e' w' ⟨X,cx,rfl,hm,x⟩;exact⟨X,cx,rfl,hm,x⟩
 .obtain⟨h1,h2⟩:=hl 1 0 rfl;obtain⟨a,rfl⟩:=an2.1 h1;obtain rfl:=aou h2;refine(NY p vl N a P pc Q qc w hF hP hQ hb hN).mono ?_;rintro e' w' ⟨X,cx,rfl,hm,x⟩;exact⟨X,cx,rfl,hm,x⟩
 .obtain⟨h1,h2⟩:=hl 1 1 rfl;obtain⟨b,rfl⟩:=an2.1 h1;obtain⟨a,rfl⟩:=an2.1 h2;refine(NW p vl N a b P pc Q qc w hF hP hQ hb (hv (.inr rfl)) hN).mono ?_;rintro e' w' ⟨X,cx,rfl,hm,x⟩;exact⟨X,cx,rfl,hm,x⟩
theorem tu{g0 c0 a:Nat}{Z:List aF}(hge:GE pq 51 w B w.heap.size (.slice (some ⟨g0,0,none⟩) N c0) Z)(hlen:Z.length=N)(Vb:a<N){x:aF}(hx:Z[a]?=some x):
 ∃(A C:Option Addr) (ac cc:Nat) (cur:Array Value),VB w g0 51 cur/\cur[a*2]?=some (.slice A x.n.length ac)/\cur[a*2+1]?=some (.slice C x.d.length cc)/\Rd w A x.n/\Rd w C x.d/\B<=g0/\
  ∀(y:aF) (W:World) (A3 B3:Option Addr) (c3 d3:Nat),Ex w W->∀W3,Ex W W3->Fr W3 W.heap.size A3 c3 y.n->Fr W3 W.heap.size B3 d3 y.d->Apart A3 B3->
   GE pq 51 ((W3.setCell ⟨g0,a*2,none⟩ (.slice A3 y.n.length c3)).setCell ⟨g0,a*2+1,none⟩ (.slice B3 y.d.length d3)) B W3.heap.size (.slice (some ⟨g0,0,none⟩) N c0) (Z.set a y):=by
 have Yz:=hge;obtain⟨cur,al,bl,_,hgB,hgH,hh,hcells,_⟩:=Yz.at_;obtain⟨u,hu,hO,hal,hbl,hgo⟩:=hcells a x hx;obtain⟨u0,u1,rfl,hxo⟩:=hO;obtain⟨⟨A,ac,rfl,hA⟩,⟨C,cc,rfl,hC⟩⟩:=hxo.rd;have hv:VB w g0 51 cur:=hh;refine⟨A,C,ac,cc,cur,hv,hu 0 _ rfl,hu 1 _ rfl,hA,hC,hgB,λy W A3 B3 c3 d3 hW W3 hW3 f3 p3 Ig=>?_⟩;have hz:=hW.size;have hz3:=hW3.size;have xf:=cB (x:=y) f3 p3 Ig hz3;have hgl:=aC hh;have hv3:VB W3 g0 51 cur:=((hW.trans hW3).block hgl).trans hh;have dv:VB ((W3.setCell ⟨g0,a*2,none⟩ (.slice A3 y.n.length c3)).setCell ⟨g0,a*2+1,none⟩ (.slice B3 y.d.length d3)) g0 51 ((cur.setIfInBounds (a*2) (.slice A3 y.n.length c3)).setIfInBounds (a*2+1) (.slice B3 y.d.length d3)):=(hv3.aX _ _).aX _ _;have e1:aJ g0 W3 ((W3.setCell ⟨g0,a*2,none⟩ (.slice A3 y.n.length c3)).setCell ⟨g0,a*2+1,none⟩ (.slice B3 y.d.length d3)):=((aJ.refl g0 W3).setCell (p:=⟨g0,a*2,none⟩) rfl _).setCell (p:=⟨g0,a*2+1,none⟩) rfl _;have hge':GE pq 51 w B w.heap.size (.slice (some ⟨g0,0,none⟩) Z.length c0) Z:=by rw[hlen];exact hge
 have hT:=hge'.OV (x:=y) (b:=W3.heap.size) (v0:=.slice A3 y.n.length c3) (v1:=.slice B3 y.d.length d3) (i:=a) (by omega) hh dv (λk hk hkg=>(e1.block k (by omega) (λe=>hkg (by injection e))).trans ((hW.trans hW3).block hk)) ((xf.e1 e1 (.inl (by omega))).more hz (amX _)) (by omega);rw[hlen]at hT;exact hT
theorem Qy(hF:aj p=true):aV p xF=⟨[0,p-1],[1]⟩:=by
 have h2:=au hF;show(⟨je p [0,1],[1]⟩:aF)=_;have e:je p [0,1]=[0,p-1]:=by
  have e1:(0:Int)+(p-1)*0=0:=by omega
  have e2:(0:Int)+(p-1)*1=p-1:=by omega
  show trim (bA p [0,0] 0 (p-1) [0,1])=[0,p-1];show trim [(0+(p-1)*0)%p,(0+(p-1)*1)%p]=[0,p-1];rw[e1,e2,Int.zero_emod,anX (by omega) (by omega)];have hn:p-1≠0:=by omega
  simp[trim,hn]
 rw[e]
theorem Po(p:Int)(N a b:Nat):(ah p).iG N [a,b] [oF,aV p xF]=bV p N [a,b] [oF,aV p xF] 2:=(BR p N (E:=[a,b]) (row:=[oF,aV p xF]) (j:=2) (by simp)).symm
theorem GE.one{α:Type}(E:EL α){t:TypeId}{a b:Nat}{u:List Value}{x:α}(h:E.O w a b u x)(hB:B<=a)(hab:a<=b)(hb:b<=w.heap.size):GE E t (w.alloc (.cells u.toArray t)) B (w.heap.size+1) (.slice (some ⟨w.heap.size,0,none⟩) 1 1) [x]:=by
 have hl:=E.lN h;have hx:=(asF w).alloc (.cells u.toArray t);have hBw:B<=w.heap.size:=by omega
 have hbw:b<=w.heap.size+1:=by omega
 refine⟨λk e=>by injection e with e;subst e;exact⟨hBw,aoF _⟩,[u],λ_=>a,λ_=>b,rfl,⟨by simp[hl],.inr ⟨w.heap.size,1,u.toArray,rfl,hBw,heap_alloc_new w _,amX _,by unfold maxLen;omega,by simp[hl],by rw[aop,aox,<-hl];simp⟩⟩,λj y hj=>?_,λi j hi hj hne=>by simp at hi hj;omega⟩;rcases j with _|j
 .injection hj with hj;subst hj;exact⟨u,rfl,E.UG h hx,hB,hbw,λk e=>by injection e with e;subst e;exact .inr hb⟩
 .simp at hj
theorem PG(p:Int)(N:Nat)(e:Ed)(P:Option Addr)(pc:Nat)(Q:Option Addr)(qc:Nat)(w:World)(hF:aj p=true)(hE:OB p N e)(hN:N<=100)(hP:Rd w P e.ins)(hQ:Rd w Q e.outs)(h8:e.kd≠8)(mD:e.kd≠14):
 Calls prog 16 #[.int .i64 p,.int .i64 N,.agg #[.int .i64 e.kd,.int .i64 e.vl,.slice P e.ins.length pc,.slice Q e.outs.length qc]] w λe' w'=>∃v,e'=.returned v/\GE AY 48 w' w.heap.size w'.heap.size v (dK p N e)/\Ex w w':=by
 obtain⟨y0,d0⟩:=VB.xn w 45 #[.int .i64 e.kd,.int .i64 e.vl,.slice P e.ins.length pc,.slice Q e.outs.length qc];have cD:=NV hF hE h8 mD (by omega:N<=1000) P pc Q qc (w.alloc (.cells #[.int .i64 e.kd,.int .i64 e.vl,.slice P e.ins.length pc,.slice Q e.outs.length qc] 45)) (hP.ex y0) (hQ.ex y0);have cT:=λW=>om e.kd W
 rw[show(decide (e.kd≠8)&&decide (e.kd≠14))=true by simp[h8,mD]]at cT;have HEq:=amW (show dK p N e=oN (Ah p N e.kd e.vl (aK e.ins) (aK e.outs)) by unfold dK;rw[amZ h8,amZ mD]);have hgood:=(Ag (au hF) N e.kd e.vl (aK e.ins) (aK e.outs));obtain⟨MM,hMM⟩:=xq (Ah p N e.kd e.vl (aK e.ins) (aK e.outs));rw[hMM]at HEq cD hgood;have HW:=amW hgood.1;have hl2:=hgood.2.2;obtain⟨L,hL⟩:=xq MM.length;rw[hL]at cD hl2;have HL:=amW hL;clear hgood hMM hL hE;obtain⟨W0,hW0⟩:=xq (w.alloc (.cells #[.int .i64 e.kd,.int .i64 e.vl,.slice P e.ins.length pc,.slice Q e.outs.length qc] 45));have s0:W0.heap.size=w.heap.size+1:=by rw[<-hW0];simp
 rw[hW0]at y0 d0 cD;obtain⟨q0,q1,q2,q3⟩:=d0.d4;go_enter Tryz.func16,Tryz.ntmps16
 go_wp2_with fail
 refine(cT W0).mono ?_;rintro e1 w1 ⟨rfl,rfl⟩;go_wp2_with fail
 refine cD.mono ?_;rintro e2 w2 ⟨A2,c2,rfl,hm2,x2⟩;have x02:=y0.trans x2;have hz2:=x02.size;clear cD cT;go_wp2_with fail
 go_loopw [7,21] (λo i wr=>∃j:Nat,j<=L/\i=.int .i64 j/\GE AY 48 wr w2.heap.size wr.heap.size o (oN (MM.take j))/\Ex w2 wr) (λ_ i _=>L-(intOf i).toNat)
 case atStart=>exact⟨0,am4 _,rfl,GE.nil _ _ _ _ _,asF _⟩
 case round=>
  rename World=>wj;obtain⟨j,hj,rfl,hgf,hij⟩:=hrel;by_cases hlt:j<L
  .obtain⟨r,hr⟩:∃r,MM[j]?=some r:=⟨_,am0 (by rw[HL.out];exact hlt)⟩;obtain⟨g,b,c,rfl,b0,hc,hown⟩:=hm2.2 j r hr;have b0:=af hij b0;have Zt:=amW (HW.out r (am1 hr));have hrd:=(hown.ex hij).rd (by have:=Zt.out;omega);have HT:=amW (show oN (MM.take (j+1))=oN (MM.take j)++[r.map cF] by unfold oN;rw[am_,hr];simp);have htl:(oN (MM.take j)).length<=j:=by unfold oN;simp;omega
   have hzj:=hij.size;clear hr;go_wp2_with fail
   refine(IB r _ c wj hrd).mono ?_;rintro e3 w3 ⟨v3,rfl,ge3,x3⟩;have hz3:=x3.size;obtain⟨A3,c3,ev⟩:=ge3.lu;rw[am5]at ev;subst ev;obtain⟨v',w4,hrun,hge4,_,BG,CW⟩:=vF (hgf.ex x3) (anb (amX _) hz3) ge3 (by rw[am5];have:=Zt.out;omega) (amX _) hz3 (amX _) hij.size (by omega);rw[<-HT.out]at hge4;have qO:=CW w2 (hij.trans x3) (amX _);clear CW HT hgf ge3;go_wp2_with (at_builtin;refine wpList_append_run rfl _ _ _ rfl rfl rfl hrun ?_)
   go_roundw;case rel=>exact⟨j+1,by omega,by go_num,hge4,qO⟩
   case measure=>simp[intOf];omega
  .obtain rfl:j=L:=by omega
   rw[ann (by rw[HL.out];exact amX _),<-HEq.out]at hgf;go_wp2_with fail
   go_ret;exact⟨_,rfl,hgf.more hz2 (amX _),x02.trans hij⟩
theorem rd1{m:Nat}{x:Int}(h:w.heap.size=m):Rd (w.alloc (.cells #[.int .i64 x] 3)) (some ⟨m,0,none⟩) [x]:=by subst h;exact(dH.new w [x]).rd (by simp)
theorem PK(p vl:Int)(N a b:Nat)(P:Option Addr)(pc:Nat)(Q:Option Addr)(qc:Nat)(w:World)(hF:aj p=true)(hN:N<=100)(hP:Rd w P [(a:Int)])(hQ:Rd w Q [(b:Int)])(Vb:a<N)(hbN:b<N):
 Calls prog 16 #[.int .i64 p,.int .i64 N,.agg #[.int .i64 8,.int .i64 vl,.slice P 1 pc,.slice Q 1 qc]] w λe' w'=>∃v,e'=.returned v/\GE AY 48 w' w.heap.size w'.heap.size v [(ah p).iG N [b,a] [oF,aV p xF]]/\Ex w w':=by
 have h2:=au hF;have h97:=aQ hF;have hwp:IntKind.i64.wrap (p-1)=p-1:=ant _ (by omega);obtain⟨y0,d0,W0,hW0⟩:=VB.al w 45 #[.int .i64 8,.int .i64 vl,.slice P 1 pc,.slice Q 1 qc];have cT:=λW=>om 8 W
 rw[show(decide ((8:Int)≠8)&&decide ((8:Int)≠14))=false from rfl]at cT;have s0:W0.heap.size=w.heap.size+1:=by rw[<-hW0];simp
 rw[hW0]at y0 d0;obtain⟨q0,q1,q2,q3⟩:=d0.d4;obtain⟨gP,oP,xP,rfl,hxP,_,cP⟩:=(hP.ex y0).at_ (k:=0) (by simp);obtain⟨gQ,oQ,xQ,rfl,hxQ,_,cQ⟩:=(hQ.ex y0).at_ (k:=0) (by simp);obtain rfl:(a:Int)=xP:=by simpa using hxP
 obtain rfl:(b:Int)=xQ:=by simpa using hxQ
 rw[anS]at cP cQ;clear hxP hxQ hP hQ;have SD:=amW (Po p N b a);have SG:=amW (λj=>(show jH p 5 (bV p N [b,a] [oF,aV p xF] j)from(yN hF (W:=N) (E:=[b,a]) (L:=2) (row:=[oF,aV p xF]) (λy hy=>by
  simp at hy;rcases hy with rfl|rfl
  .exact⟨FV.one hF,by simp[FL,oF]⟩
  .have hx:FV p xF/\FL 2 xF:=⟨by rw[<-oD (hF:=hF)];exact(pe hF [0,1]).2,by simp[FL,xF]⟩;exact⟨hx.1.neg,hx.2.neg⟩) j).mono (by simp)))
 have SL:=amW (λj=>uZ p N [b,a] [oF,aV p xF] j);have S1:=amW (λx (hx:(bV p N [b,a] [oF,aV p xF] 0)[b]?=some x)=>(show bV p N [b,a] [oF,aV p xF] 1=(bV p N [b,a] [oF,aV p xF] 0).set b (eO p x oF) by
  rw[kM p N (E:=[b,a]) (row:=[oF,aV p xF]) (j:=0) (u:=b) (x:=oF) rfl rfl,(ah p).bT hx]))
 have S2:=amW (λx (hx:(bV p N [b,a] [oF,aV p xF] 1)[a]?=some x)=>(show bV p N [b,a] [oF,aV p xF] 2=(bV p N [b,a] [oF,aV p xF] 1).set a (eO p x (aV p xF)) by
  rw[kM p N (E:=[b,a]) (row:=[oF,aV p xF]) (j:=1) (u:=a) (x:=aV p xF) rfl rfl,(ah p).bT hx]))
 have S0:List.replicate N zF=bV p N [b,a] [oF,aV p xF] 0:=rfl;have HF:=amW hF;have HO:=amW (FV.one hF);have HNX:=amW (show FV p (aV p xF)from(show FV p xF by rw[<-oD (hF:=hF)];exact(pe hF [0,1]).2).neg);have HNE:=amW (Qy hF);clear hF;go_enter Tryz.func16,Tryz.ntmps16
 go_wp2_with fail
 refine(cT W0).mono ?_;rintro e1 w1 ⟨rfl,rfl⟩;clear cT;go_wp2_with fail
 go_quiet (fail)
 have yq:=y0.drewN nq;go_wp2_with fail
 refine(qy N (by omega) _).mono ?_;rintro e2 w2 ⟨A5,c5,rfl,qX,x5⟩;obtain⟨g5,c5',e5,NF,_⟩:=qX.form (by intro e;injection e with _ e _;omega);rw[anD]at e5 NF;injection e5 with e5 _ e6;subst e5 e6;replace qX:=qX.more yq.size (amX _);replace x5:=yq.trans x5;rw[S0]at qX;clear S0 q0 q1 q2 q3 cP cQ yq;generalize bV p N [b,a] [oF,aV p xF]=SC at*;obtain⟨x,hx⟩:∃x,(SC 0)[b]?=some x:=⟨_,am0 (by rw[SL.out];omega)⟩;obtain⟨A,C,ac,cc,cur,hv,r0,r1,hA,hC,hgB,lg⟩:=tu qX (SL.out 0) (by omega) hx;have hS1:=S1.out x hx;have hxg:=SG.out 0 x (am1 hx);have cAdd:∀(A8 B8:Option Addr) (c8 d8:Nat) (W:World),Ex w2 W->Rd W A8 oF.n->Rd W B8 oF.d->Calls prog 44 #[.int .i64 p,.agg #[.slice A x.n.length ac,.slice C x.d.length cc],.agg #[.slice A8 oF.n.length c8,.slice B8 oF.d.length d8]] W λe w'=>wZ W (eO p x oF) e w':=λA8 B8 c8 d8 W hW h8 h8'=>
  uD p A C ac cc x.n x.d A8 B8 c8 d8 oF.n oF.d W (hA.ex hW) (hC.ex hW) h8 h8' (hxg.1.xZ (by have:=hxg.2.1;omega) (by have:=hxg.2.2;omega)) (HO.out.xZ (by simp[oF]) (by simp[oF]))
 obtain⟨X,hX⟩:=xq (eO p x oF);rw[hX]at cAdd hS1;have m0:=hv.cell (b*2) r0;have m1:=hv.cell (b*2+1) r1;clear hX qX hA hC hxg;have HS1:=amW hS1;clear hS1 hx;go_wp2_with fail
 go_region_law (first
  |(go_simp
    go_at_call 45
    refine(lI _).mono ?_;rintro e w8 ⟨A8,c8,B8,d8,rfl,f8,p8,Zc,y8⟩;replace y8:=((asF w2).drew).trans y8;have U5:=hv.ex y8;have i0:=U5.cell (b*2) r0;have i1:=U5.cell (b*2+1) r1)
  |(go_simp
    go_at_call 44
    refine(cAdd A8 B8 c8 d8 _ (by first|exact y8|exact y8.drew) (by first|exact f8.rd|exact f8.rd.ex (asF _).drew) (by first|exact p8.rd|exact p8.rd.ex (asF _).drew)).mono ?_;rintro e w9 ⟨A9,c9,B9,d9,rfl,f9,p9,Ua,y9⟩;have hT:=lg X _ A9 B9 c9 d9 (show Ex w2 _ from by first|exact y8|exact y8.drew) w9 y9 f9 p9 Ua;have y29:Ex w2 w9:=Ex.trans (by first|exact y8|exact y8.drew) y9;have Rl:=hv.ex y29;have l0:=Rl.cell (b*2) r0;have l1:=Rl.cell (b*2+1) r1;have n0:=Rl.frozen (b*2);have n1:=Rl.frozen (b*2+1)))
 all_goals
  rw[<-HS1.out]at hT;have e10:aJ g5 w9 ((w9.setCell ⟨g5,b*2,none⟩ (.slice A9 X.n.length c9)).setCell ⟨g5,b*2+1,none⟩ (.slice B9 X.d.length d9)):=((aJ.refl g5 w9).setCell (p:=⟨g5,b*2,none⟩) rfl _).setCell (p:=⟨g5,b*2+1,none⟩) rfl _;have x10:=(x5.trans y29).aM e10 hgB;have sz:((w9.setCell ⟨g5,b*2,none⟩ (.slice A9 X.n.length c9)).setCell ⟨g5,b*2+1,none⟩ (.slice B9 X.d.length d9)).heap.size=w9.heap.size:=by simp
  rw[<-sz]at hT;clear lg cAdd m0 m1 i0 i1 l0 l1 n0 n1 hv U5 Rl r0 r1 e10 sz f9 p9 Ua f8 p8 Zc hgB;generalize(w9.setCell ⟨g5,b*2,none⟩ (.slice A9 X.n.length c9)).setCell ⟨g5,b*2+1,none⟩ (.slice B9 X.d.length d9)=Be at*;obtain⟨x2,hx2⟩:∃x,(SC 1)[a]?=some x:=⟨_,am0 (by rw[SL.out];omega)⟩;obtain⟨A,C,ac,cc,cur,hv,r0,r1,hA,hC,hgB,lg⟩:=tu hT (SL.out 1) (by omega) hx2;have hS2:=S2.out x2 hx2;have hxg:=SG.out 1 x2 (am1 hx2);have VS:=amW (show(aV p xF).n=[0,p-1] by rw[HNE.out]);have VT:=amW (show(aV p xF).d=[1] by rw[HNE.out]);have Az:∀(A8 B8:Option Addr) (c8 d8:Nat) (W:World),Ex Be W->Rd W A8 [0,p-1]->Rd W B8 [1]->Calls prog 44 #[.int .i64 p,.agg #[.slice A x2.n.length ac,.slice C x2.d.length cc],.agg #[.slice A8 2 c8,.slice B8 1 d8]] W λe w'=>wZ W (eO p x2 (aV p xF)) e w':=λA8 B8 c8 d8 W hW h8 h8'=>by have:=uD p A C ac cc x2.n x2.d A8 B8 c8 d8 (aV p xF).n (aV p xF).d W (hA.ex hW) (hC.ex hW) (by rw[VS.out];exact h8) (by rw[VT.out];exact h8') (hxg.1.xZ (by have:=hxg.2.1;omega) (by have:=hxg.2.2;omega)) (HNX.out.xZ (by rw[VS.out];simp) (by rw[VT.out];simp));rw[show(aV p xF).n.length=2 by rw[VS.out];rfl,show(aV p xF).d.length=1 by rw[VT.out];rfl]at this;exact this
  obtain⟨X2,hX2⟩:=xq (eO p x2 (aV p xF));rw[hX2]at Az hS2;have m0:=hv.cell (a*2) r0;have m1:=hv.cell (a*2+1) r1;have HS2:=amW hS2;clear hX2 hT hA hC hxg hS2 hx2 HS1 y8 y9 y29 VS VT;go_wp2_with fail
  have xA:=((asF Be).alloc (.cells #[.int .i64 0,.int .i64 (p-1)] 3)).alloc (.cells #[.int .i64 1] 3);have r8:=(TW (w:=Be) (x:=0) (y:=p-1) rfl).ex ((asF (Be.alloc (.cells #[.int .i64 0,.int .i64 (p-1)] 3))).alloc (.cells #[.int .i64 1] 3));have r9:=rd1 (w:=Be.alloc (.cells #[.int .i64 0,.int .i64 (p-1)] 3)) (x:=1) (m:=Be.heap.size+1) (by simp);refine(Az _ _ _ _ _ xA r8 r9).mono ?_;rintro e H8 ⟨VZ,c11,B11,d11,rfl,f11,p11,Ze,y11⟩;have hT:=lg X2 _ VZ B11 c11 d11 xA H8 y11 f11 p11 Ze;rw[<-HS2.out,<-SD.out]at hT;have xA2:=xA.trans y11;have DK:=hv.ex xA2;have l0:=DK.cell (a*2) r0;have l1:=DK.cell (a*2+1) r1;have n0:=DK.frozen (a*2);have n1:=DK.frozen (a*2+1);have e13:aJ g5 H8 ((H8.setCell ⟨g5,a*2,none⟩ (.slice VZ X2.n.length c11)).setCell ⟨g5,a*2+1,none⟩ (.slice B11 X2.d.length d11)):=((aJ.refl g5 H8).setCell (p:=⟨g5,a*2,none⟩) rfl _).setCell (p:=⟨g5,a*2+1,none⟩) rfl _;have Xt:=(x10.trans xA2).aM e13 hgB;have sz:((H8.setCell ⟨g5,a*2,none⟩ (.slice VZ X2.n.length c11)).setCell ⟨g5,a*2+1,none⟩ (.slice B11 X2.d.length d11)).heap.size=H8.heap.size:=by simp
  rw[<-sz]at hT;have hG:=GE.one AY (t:=48) (w:=((H8.setCell ⟨g5,a*2,none⟩ (.slice VZ X2.n.length c11)).setCell ⟨g5,a*2+1,none⟩ (.slice B11 X2.d.length d11))) (u:=[.slice (some ⟨g5,0,none⟩) N c5]) (x:=(ah p).iG N [b,a] [oF,aV p xF]) ⟨_,rfl,by rw[SD.out,SL.out];omega,hT⟩ (amX _) Xt.size (amX _);rw[sz]at hG;have Rk:=Xt.alloc (.cells #[.slice (some ⟨g5,0,none⟩) N c5] 48);have HG:=amW hG;have HX:=amW Rk;have HSZ:=amW sz;clear hG Rk hT lg Az sz e13 Xt m0 m1;go_wp2_with fail
  go_ret;refine⟨_,rfl,HG.out.more (amX _) ?_,HX.out⟩;simp
theorem L8(p vl:Int)(N a b:Nat)(P:Option Addr)(pc:Nat)(Q:Option Addr)(qc:Nat)(w:World)(hF:aj p=true)(hN:N<=100)(hP:Rd w P [(a:Int)])(hQ:Rd w Q [(b:Int)])(Vb:a<N)(hbN:b<N):
 Calls prog 16 #[.int .i64 p,.int .i64 N,.agg #[.int .i64 14,.int .i64 vl,.slice P 1 pc,.slice Q 1 qc]] w λe' w'=>∃v,e'=.returned v/\GE AY 48 w' w.heap.size w'.heap.size v [(ah p).iG N [a,b] [oF,aV p xF]]/\Ex w w':=by
 have h2:=au hF;have h97:=aQ hF;have hwp:IntKind.i64.wrap (p-1)=p-1:=ant _ (by omega);obtain⟨y0,d0,W0,hW0⟩:=VB.al w 45 #[.int .i64 14,.int .i64 vl,.slice P 1 pc,.slice Q 1 qc];have cT:=λW=>om 14 W
 rw[show(decide ((14:Int)≠8)&&decide ((14:Int)≠14))=false from rfl]at cT;have s0:W0.heap.size=w.heap.size+1:=by rw[<-hW0];simp
 rw[hW0]at y0 d0;obtain⟨q0,q1,q2,q3⟩:=d0.d4;obtain⟨gP,oP,xP,rfl,hxP,_,cP⟩:=(hP.ex y0).at_ (k:=0) (by simp);obtain⟨gQ,oQ,xQ,rfl,hxQ,_,cQ⟩:=(hQ.ex y0).at_ (k:=0) (by simp);obtain rfl:(a:Int)=xP:=by simpa using hxP
 obtain rfl:(b:Int)=xQ:=by simpa using hxQ
 rw[anS]at cP cQ;clear hxP hxQ hP hQ;have SD:=amW (Po p N a b);have SG:=amW (λj=>(show jH p 5 (bV p N [a,b] [oF,aV p xF] j)from(yN hF (W:=N) (E:=[a,b]) (L:=2) (row:=[oF,aV p xF]) (λy hy=>by
  simp at hy;rcases hy with rfl|rfl
  .exact⟨FV.one hF,by simp[FL,oF]⟩
  .have hx:FV p xF/\FL 2 xF:=⟨by rw[<-oD (hF:=hF)];exact(pe hF [0,1]).2,by simp[FL,xF]⟩;exact⟨hx.1.neg,hx.2.neg⟩) j).mono (by simp)))
 have SL:=amW (λj=>uZ p N [a,b] [oF,aV p xF] j);have S1:=amW (λx (hx:(bV p N [a,b] [oF,aV p xF] 0)[a]?=some x)=>(show bV p N [a,b] [oF,aV p xF] 1=(bV p N [a,b] [oF,aV p xF] 0).set a (eO p x oF) by
  rw[kM p N (E:=[a,b]) (row:=[oF,aV p xF]) (j:=0) (u:=a) (x:=oF) rfl rfl,(ah p).bT hx]))
 have S2:=amW (λx (hx:(bV p N [a,b] [oF,aV p xF] 1)[b]?=some x)=>(show bV p N [a,b] [oF,aV p xF] 2=(bV p N [a,b] [oF,aV p xF] 1).set b (eO p x (aV p xF)) by
  rw[kM p N (E:=[a,b]) (row:=[oF,aV p xF]) (j:=1) (u:=b) (x:=aV p xF) rfl rfl,(ah p).bT hx]))
 have S0:List.replicate N zF=bV p N [a,b] [oF,aV p xF] 0:=rfl;have HF:=amW hF;have HO:=amW (FV.one hF);have HNX:=amW (show FV p (aV p xF)from(show FV p xF by rw[<-oD (hF:=hF)];exact(pe hF [0,1]).2).neg);have HNE:=amW (Qy hF);clear hF;go_enter Tryz.func16,Tryz.ntmps16
 go_wp2_with fail
 refine(cT W0).mono ?_;rintro e1 w1 ⟨rfl,rfl⟩;clear cT;go_wp2_with fail
 go_quiet (fail)
 have yq:=y0.drewN nq;go_wp2_with fail
 refine(qy N (by omega) _).mono ?_;rintro e2 w2 ⟨A5,c5,rfl,qX,x5⟩;obtain⟨g5,c5',e5,NF,_⟩:=qX.form (by intro e;injection e with _ e _;omega);rw[anD]at e5 NF;injection e5 with e5 _ e6;subst e5 e6;replace qX:=qX.more yq.size (amX _);replace x5:=yq.trans x5;rw[S0]at qX;clear S0 q0 q1 q2 q3 cP cQ yq;generalize bV p N [a,b] [oF,aV p xF]=SC at*;obtain⟨x,hx⟩:∃x,(SC 0)[a]?=some x:=⟨_,am0 (by rw[SL.out];omega)⟩;obtain⟨A,C,ac,cc,cur,hv,r0,r1,hA,hC,hgB,lg⟩:=tu qX (SL.out 0) (by omega) hx;have hS1:=S1.out x hx;have hxg:=SG.out 0 x (am1 hx);have cAdd:∀(A8 B8:Option Addr) (c8 d8:Nat) (W:World),Ex w2 W->Rd W A8 oF.n->Rd W B8 oF.d->Calls prog 44 #[.int .i64 p,.agg #[.slice A x.n.length ac,.slice C x.d.length cc],.agg #[.slice A8 oF.n.length c8,.slice B8 oF.d.length d8]] W λe w'=>wZ W (eO p x oF) e w':=λA8 B8 c8 d8 W hW h8 h8'=>
  uD p A C ac cc x.n x.d A8 B8 c8 d8 oF.n oF.d W (hA.ex hW) (hC.ex hW) h8 h8' (hxg.1.xZ (by have:=hxg.2.1;omega) (by have:=hxg.2.2;omega)) (HO.out.xZ (by simp[oF]) (by simp[oF]))
 obtain⟨X,hX⟩:=xq (eO p x oF);rw[hX]at cAdd hS1;have m0:=hv.cell (a*2) r0;have m1:=hv.cell (a*2+1) r1;clear hX qX hA hC hxg;have HS1:=amW hS1;clear hS1 hx;go_wp2_with fail
 go_region_law (first
  |(go_simp
    go_at_call 45
    refine(lI _).mono ?_;rintro e w8 ⟨A8,c8,B8,d8,rfl,f8,p8,Zc,y8⟩;replace y8:=((asF w2).drew).trans y8;have U5:=hv.ex y8;have i0:=U5.cell (a*2) r0;have i1:=U5.cell (a*2+1) r1)
  |(go_simp
    go_at_call 44
    refine(cAdd A8 B8 c8 d8 _ (by first|exact y8|exact y8.drew) (by first|exact f8.rd|exact f8.rd.ex (asF _).drew) (by first|exact p8.rd|exact p8.rd.ex (asF _).drew)).mono ?_;rintro e w9 ⟨A9,c9,B9,d9,rfl,f9,p9,Ua,y9⟩;have hT:=lg X _ A9 B9 c9 d9 (show Ex w2 _ from by first|exact y8|exact y8.drew) w9 y9 f9 p9 Ua;have y29:Ex w2 w9:=Ex.trans (by first|exact y8|exact y8.drew) y9;have Rl:=hv.ex y29;have l0:=Rl.cell (a*2) r0;have l1:=Rl.cell (a*2+1) r1;have n0:=Rl.frozen (a*2);have n1:=Rl.frozen (a*2+1)))
 all_goals
  rw[<-HS1.out]at hT;have e10:aJ g5 w9 ((w9.setCell ⟨g5,a*2,none⟩ (.slice A9 X.n.length c9)).setCell ⟨g5,a*2+1,none⟩ (.slice B9 X.d.length d9)):=((aJ.refl g5 w9).setCell (p:=⟨g5,a*2,none⟩) rfl _).setCell (p:=⟨g5,a*2+1,none⟩) rfl _;have x10:=(x5.trans y29).aM e10 hgB;have sz:((w9.setCell ⟨g5,a*2,none⟩ (.slice A9 X.n.length c9)).setCell ⟨g5,a*2+1,none⟩ (.slice B9 X.d.length d9)).heap.size=w9.heap.size:=by simp
  rw[<-sz]at hT;clear lg cAdd m0 m1 i0 i1 l0 l1 n0 n1 hv U5 Rl r0 r1 e10 sz f9 p9 Ua f8 p8 Zc hgB;generalize(w9.setCell ⟨g5,a*2,none⟩ (.slice A9 X.n.length c9)).setCell ⟨g5,a*2+1,none⟩ (.slice B9 X.d.length d9)=Be at*;obtain⟨x2,hx2⟩:∃x,(SC 1)[b]?=some x:=⟨_,am0 (by rw[SL.out];omega)⟩;obtain⟨A,C,ac,cc,cur,hv,r0,r1,hA,hC,hgB,lg⟩:=tu hT (SL.out 1) (by omega) hx2;have hS2:=S2.out x2 hx2;have hxg:=SG.out 1 x2 (am1 hx2);have VS:=amW (show(aV p xF).n=[0,p-1] by rw[HNE.out]);have VT:=amW (show(aV p xF).d=[1] by rw[HNE.out]);have Az:∀(A8 B8:Option Addr) (c8 d8:Nat) (W:World),Ex Be W->Rd W A8 [0,p-1]->Rd W B8 [1]->Calls prog 44 #[.int .i64 p,.agg #[.slice A x2.n.length ac,.slice C x2.d.length cc],.agg #[.slice A8 2 c8,.slice B8 1 d8]] W λe w'=>wZ W (eO p x2 (aV p xF)) e w':=λA8 B8 c8 d8 W hW h8 h8'=>by have:=uD p A C ac cc x2.n x2.d A8 B8 c8 d8 (aV p xF).n (aV p xF).d W (hA.ex hW) (hC.ex hW) (by rw[VS.out];exact h8) (by rw[VT.out];exact h8') (hxg.1.xZ (by have:=hxg.2.1;omega) (by have:=hxg.2.2;omega)) (HNX.out.xZ (by rw[VS.out];simp) (by rw[VT.out];simp));rw[show(aV p xF).n.length=2 by rw[VS.out];rfl,show(aV p xF).d.length=1 by rw[VT.out];rfl]at this;exact this
  obtain⟨X2,hX2⟩:=xq (eO p x2 (aV p xF));rw[hX2]at Az hS2;have m0:=hv.cell (b*2) r0;have m1:=hv.cell (b*2+1) r1;have HS2:=amW hS2;clear hX2 hT hA hC hxg hS2 hx2 HS1 y8 y9 y29 VS VT;go_wp2_with fail
  have xA:=((asF Be).alloc (.cells #[.int .i64 0,.int .i64 (p-1)] 3)).alloc (.cells #[.int .i64 1] 3);have r8:=(TW (w:=Be) (x:=0) (y:=p-1) rfl).ex ((asF (Be.alloc (.cells #[.int .i64 0,.int .i64 (p-1)] 3))).alloc (.cells #[.int .i64 1] 3));have r9:=rd1 (w:=Be.alloc (.cells #[.int .i64 0,.int .i64 (p-1)] 3)) (x:=1) (m:=Be.heap.size+1) (by simp);refine(Az _ _ _ _ _ xA r8 r9).mono ?_;rintro e H8 ⟨VZ,c11,B11,d11,rfl,f11,p11,Ze,y11⟩;have hT:=lg X2 _ VZ B11 c11 d11 xA H8 y11 f11 p11 Ze;rw[<-HS2.out,<-SD.out]at hT;have xA2:=xA.trans y11;have DK:=hv.ex xA2;have l0:=DK.cell (b*2) r0;have l1:=DK.cell (b*2+1) r1;have n0:=DK.frozen (b*2);have n1:=DK.frozen (b*2+1);have e13:aJ g5 H8 ((H8.setCell ⟨g5,b*2,none⟩ (.slice VZ X2.n.length c11)).setCell ⟨g5,b*2+1,none⟩ (.slice B11 X2.d.length d11)):=((aJ.refl g5 H8).setCell (p:=⟨g5,b*2,none⟩) rfl _).setCell (p:=⟨g5,b*2+1,none⟩) rfl _;have Xt:=(x10.trans xA2).aM e13 hgB;have sz:((H8.setCell ⟨g5,b*2,none⟩ (.slice VZ X2.n.length c11)).setCell ⟨g5,b*2+1,none⟩ (.slice B11 X2.d.length d11)).heap.size=H8.heap.size:=by simp
  rw[<-sz]at hT;have hG:=GE.one AY (t:=48) (w:=((H8.setCell ⟨g5,b*2,none⟩ (.slice VZ X2.n.length c11)).setCell ⟨g5,b*2+1,none⟩ (.slice B11 X2.d.length d11))) (u:=[.slice (some ⟨g5,0,none⟩) N c5]) (x:=(ah p).iG N [a,b] [oF,aV p xF]) ⟨_,rfl,by rw[SD.out,SL.out];omega,hT⟩ (amX _) Xt.size (amX _);rw[sz]at hG;have Rk:=Xt.alloc (.cells #[.slice (some ⟨g5,0,none⟩) N c5] 48);have HG:=amW hG;have HX:=amW Rk;have HSZ:=amW sz;clear hG Rk hT lg Az sz e13 Xt m0 m1;go_wp2_with fail
  go_ret;refine⟨_,rfl,HG.out.more (amX _) ?_,HX.out⟩;simp
theorem PI(p:Int)(N:Nat)(e:Ed)(P:Option Addr)(pc:Nat)(Q:Option Addr)(qc:Nat)(w:World)(hF:aj p=true)(hE:OB p N e)(hN:N<=100)(hP:Rd w P e.ins)(hQ:Rd w Q e.outs):
 Calls prog 16 #[.int .i64 p,.int .i64 N,.agg #[.int .i64 e.kd,.int .i64 e.vl,.slice P e.ins.length pc,.slice Q e.outs.length qc]] w λe' w'=>∃v,e'=.returned v/\GE AY 48 w' w.heap.size w'.heap.size v (dK p N e)/\Ex w w':=by
 by_cases h8:e.kd=8
 .obtain⟨hk,hv,hg,hw⟩:=hE;obtain⟨kd,vl,ins,outs⟩:=e;dsimp only at h8 hg hw hP hQ⊢;subst h8;have hg2:=hg;injection hg2 with h1 h2;obtain⟨a',rfl⟩:=an2.1 (show ins.length=1 by omega);obtain⟨b',rfl⟩:=an2.1 (show outs.length=1 by omega);have ha:=hw a' (by simp);have hb:=hw b' (by simp);obtain⟨a,rfl⟩:∃a:Nat,a'=(a:Int):=⟨a'.toNat,by omega⟩;obtain⟨b,rfl⟩:∃b:Nat,b'=(b:Int):=⟨b'.toNat,by omega⟩;exact PK p vl N a b P pc Q qc w hF hN hP hQ (by omega) (by omega)
 by_cases mD:e.kd=14
 .obtain⟨hk,hv,hg,hw⟩:=hE;obtain⟨kd,vl,ins,outs⟩:=e;dsimp only at mD hg hw hP hQ⊢;subst mD;have hg2:=hg;injection hg2 with h1 h2;obtain⟨a',rfl⟩:=an2.1 (show ins.length=1 by omega);obtain⟨b',rfl⟩:=an2.1 (show outs.length=1 by omega);have ha:=hw a' (by simp);have hb:=hw b' (by simp);obtain⟨a,rfl⟩:∃a:Nat,a'=(a:Int):=⟨a'.toNat,by omega⟩;obtain⟨b,rfl⟩:∃b:Nat,b'=(b:Int):=⟨b'.toNat,by omega⟩;exact L8 p vl N a b P pc Q qc w hF hN hP hQ (by omega) (by omega)
 exact PG p N e P pc Q qc w hF hE hN hP hQ h8 mD
theorem IQ{H B2 H2:Nat}{v v2:Value}{xs ys:List (List aF)}(h:GE AY 48 w B H v xs)(h2:GE AY 48 w B2 H2 v2 ys)(h12:H<=B2)(hH2:H2<=w.heap.size)(hB:B<=H)(hBH:B2<=H2)(hl:xs.length+ys.length<=1099511627776):
 ∃v' w',(Builtin.append_ #[27,27] 27 #[v,v2]).run prog w=.ok v' w'/\GE AY 48 w' B w'.heap.size v' (xs++ys)/\∀b',Ex b' w->b'.heap.size<=B->Ex b' w':=by
 obtain⟨i,hi,hz,hs,hby⟩:=anA fZ;by_cases hv2:v2=.slice none 0 0
 .subst hv2;obtain rfl:=h2.Na;have ho:=h.2;refine⟨v,w,?_,by simpa using h.more (amX _) (by omega),λb' hb _=>hb⟩;obtain⟨us,al,bl,zT,ho,_⟩:=ho;rcases ho.2 with⟨rfl,_⟩|⟨g,cap,cur,rfl,_,_,hnc,_⟩
  .simp[Builtin.append_,aob Tryz.underlying27,sizeOf,typeInfo,hi,Builtin.lenOf,Builtin.firstCells]
  .simp[Builtin.append_,aob Tryz.underlying27,sizeOf,typeInfo,hi,Builtin.lenOf,Builtin.firstCells,hnc,storeCells]
 obtain⟨hown,us,al,bl,zT,ho,h1,hd⟩:=h;obtain⟨hown2,us2,al2,bl2,aep,ho2,h3,hd2⟩:=h2;obtain⟨aeV,⟨e,_⟩|⟨g2,cap2,VF,rfl,hg2,Gi,aj6,_,_,ht2⟩⟩:=ho2
 .exact absurd e hv2
 have aa6:∀u∈us2.flatten,u.oneCell'=true:=λu hu=>by obtain⟨l,hl2,hu2⟩:=List.mem_flatten.1 hu;obtain⟨j,hj⟩:=anc hl2;have hjl:=(am2.1 hj).1;obtain⟨u2,r1,r2,_⟩:=h3 j _ (am0 (by omega));rw[hj]at r1;injection r1 with r1;subst r1;exact AY.one r2 u hu2
 have hnews:∀(q:Nat) (u:Value),us2.flatten[q]?=some u->w.cell? ((⟨g2,0,none⟩:Addr).add q)=some u:=λq u hu=>by
  have e:(⟨g2,0,none⟩:Addr).add q=⟨g2,q,none⟩:=by unfold Addr.add;split<;>simp_all
  rw[e];rw[<-ht2,anh]at hu;split at hu
  .exact dF Gi (by simpa using hu)
  .cases hu
 obtain⟨v',w',hrun,hown',hg,hnn,lq⟩:=run_append_own_at (P:=prog) w B 27 27 48 i (.slice none 0 0) 1 24 Tryz.underlying27 hi hz hs hby rfl (by omega) v xs.length _ ho ⟨g2,0,none⟩ ys.length cap2 us2.flatten aeV hnews aa6 (by unfold maxLen;omega) (by omega) (by omega);have hown3:∀k,v'.ownBlock=some k->B<=k/\k<w'.heap.size:=World.ownsRow.lt hown';have hsz:=hg.size;refine⟨v',w',hrun,⟨hown3,us++us2,(λj=>if j<xs.length then al j else al2 (j-xs.length)),(λj=>if j<xs.length then bl j else bl2 (j-xs.length)),by simp[zT,aep],?_,?_,?_⟩,λb' hb hbB=>hb.Sj hg (λg e=>by have:=(hown g e).1;omega)⟩
 .rw[am9,aoE];exact hown'
 .intro j q hj;by_cases e:j<xs.length
  .rw[anN e]at hj;obtain⟨u2,q1,q2,q3,q4,q5⟩:=h1 j q hj;refine⟨u2,by rw[anN (by omega)];exact q1,?_,?_,?_,?_⟩
   .simp only[amY e];exact AY.grown q2 hg q5
   .simp only[amY e];exact q3
   .simp only[amY e];omega
   .intro k e2;simp only[amY e];rcases lq with e3|e3
    .exact q5 k (e3▸e2)
    .rw[e3]at e2;injection e2 with e2;exact .inr (by omega)
  .rw[anw (by omega)]at hj;obtain⟨u2,q1,q2,q3,q4,q5⟩:=h3 _ q hj;refine⟨u2,by rw[anw (by omega),zT];exact q1,?_,?_,?_,?_⟩
   .simp only[amZ e];exact AY.grown q2 hg λk ek=> .inl (by have:=hown k ek;omega)
   .simp only[amZ e];omega
   .simp only[amZ e];omega
   .intro k e2;simp only[amZ e];rcases lq with e3|e3
    .exact .inl (by have:=hown k (e3▸e2);omega)
    .rw[e3]at e2;injection e2 with e2;exact .inr (by omega)
 .intro i j hi' hj' hne;rw[am9]at hi' hj';by_cases ei:i<xs.length<;>by_cases ej:j<xs.length
  .simp only[amY ei,amY ej];exact hd i j ei ej hne
  .obtain⟨_,_,_,_,q4,_⟩:=h1 i _ (am0 ei);obtain⟨_,_,_,q3,_⟩:=h3 (j-xs.length) _ (am0 (by omega));simp only[amY ei,amZ ej];exact .inl (by omega)
  .obtain⟨_,_,_,_,q4,_⟩:=h1 j _ (am0 ej);obtain⟨_,_,_,q3,_⟩:=h3 (i-xs.length) _ (am0 (by omega));simp only[amZ ei,amY ej];exact .inr (by omega)
  .simp only[amZ ei,amZ ej];exact hd2 _ _ (by omega) (by omega) (by omega)
theorem yS(w:World):nE w (.slice none 0 0) ⟨0,0,[]⟩:=⟨⟨none,0,rfl,by simp,λj x hj=>by simp at hj⟩,by show(0:Int)<=_;omega⟩
theorem XL{x:Gr}(hG:hgB p x=true)(NI:x.aI<=24)(hfit:jW x.ins.length x.outs.length=true)(hN:x.aI.toNat=N)(hE:∀e∈x.es,OB p N e)(z_:(aK (x.ins++x.outs)).length=x.ins.length+x.outs.length)(hF:aj p=true)(hg:∀v∈((ah p).eU N (x.es.flatMap (dK p N))).map ((ah p).kY (aK (x.ins++x.outs))),∀y∈v,FV p y)(hw:aZ (x.ins.length+x.outs.length) (((ah p).eU N (x.es.flatMap (dK p N))).map ((ah p).kY (aK (x.ins++x.outs))))):
 Ov p x=Yc p ⟨x.ins.length,x.outs.length,(ah p).aB (x.ins.length+x.outs.length) (((ah p).eU N (x.es.flatMap (dK p N))).map ((ah p).kY (aK (x.ins++x.outs))))⟩:=by
 rw[J8 ⟨hG,NI,hfit⟩,hN,Vi hF _ hE];unfold grR;rw[z_];have h0:=EW (p:=p) (l:=x.ins.length) (r:=x.outs.length) (rows:=((ah p).eU N (x.es.flatMap (dK p N))).map ((ah p).kY (aK (x.ins++x.outs)))) hF hg (by rw[show((x.ins.length:Int)+x.outs.length).toNat=x.ins.length+x.outs.length by omega];exact hw);rw[show((x.ins.length:Int)+x.outs.length).toNat=x.ins.length+x.outs.length by omega]at h0;unfold Yc;rw[h0]
theorem QX(A:Option Addr)(c:Nat)(xs:List Int)(w:World)(h:Rd w A xs):
 Calls prog 18 #[.slice A xs.length c] w λe w'=>∃v,e=.returned v/\AL w' w.heap.size v xs/\Ex w w':=by
 have hl:=h.len;have hal:AL (w.alloc (.cells #[] 3)) w.heap.size (.slice (some ⟨w.heap.size,0,none⟩) 0 0) []:=AL.empty w (amX _);obtain⟨v',w1,hrun,hv,hx,hb⟩:=fH 23 23 Tryz.underlying23 _ _ _ _ hal (by simp) A c xs (h.ex ((asF w).alloc _)) (by simpa using hl);have hex:Ex w w1:=((asF w).alloc (.cells #[] 3)).Sj hx (λg e=>by simp[Value.ownBlock]at e;omega);rw[aon]at hv;go_enter Tryz.func18,Tryz.ntmps18
 go_wp2_with (at_builtin;refine wpList_append_run rfl _ _ _ rfl rfl rfl hrun ?_)
 go_ret;exact⟨v',rfl,hv,hex⟩
theorem sU(p:Int)(x:Gr)(v0 v1 v2:Value)(w:World)(h:JP w v0 v1 v2 x):
 Calls prog 5 #[.int .i64 p,.agg #[.int .i64 x.aI,v0,v1,v2]] w λe w'=>∃y0,e=.returned (.tuple #[.agg #[.int .i64 (Ov p x).1.l,.int .i64 (Ov p x).1.r,y0],.bool (Ov p x).2])/\nE w' y0 (Ov p x).1/\Ex w w':=by
 obtain⟨⟨⟨E,ec,rfl,hE⟩,hEt⟩,⟨I,ic,rfl,hI⟩,⟨O,oc,rfl,hO⟩⟩:=h;clear hEt;have cG:=λ(W:World) (y:Ex w W)=>RB p x E ec I ic O oc W (hE.ex y) (hI.ex y) (hO.ex y)
 have HI:=amW hI;have HO:=amW hO;have HE:=amW hE;have WM:=hI.len;have YN:=hO.len;have hEl:=hE.1;have hws:IntKind.i64.wrap ((x.ins.length:Int)+(x.outs.length:Int))=((x.ins.length+x.outs.length:Nat):Int):=by rw[ant _ (by omega)];omega
 obtain⟨W0,hW0,x0,d0,s0⟩:=VB.an w 34 #[.int .i64 x.aI,.slice E x.es.length ec,.slice I x.ins.length ic,.slice O x.outs.length oc] rfl;obtain⟨W1,hW1,y1,b1,s1⟩:=VB.an W0 29 #[.int .i64 0,.int .i64 0,.slice none 0 0] s0;have D1:=d0.ex y1;have x1:=x0.trans y1;obtain⟨q0,q1,q2,q3⟩:=D1.d4;have cG:=cG W1 x1;clear d0 y1 x0 hE hI hO;obtain⟨s3,hs3⟩:=xq (x.ins.length+x.outs.length);rw[hs3]at hws;have Xj:=amW hs3;have zV:jW x.ins.length x.outs.length=decide (s3<=12):=by rw[<-hs3,an3];simp only[jW,bN,anx,decide_eq_true_eq];omega
 clear hs3;cases hG:hgB p x with
 |false=>
  have HN:=amW (vg (p:=p) (x:=x) (λh=>by rw[hG]at h;cases h.1));rw[hG]at cG;clear hG hws zV;go_enter Tryz.func5,Tryz.ntmps5
  go_wp2_with fail
  refine cG.mono ?_;rintro e w2 ⟨rfl,x2⟩;clear cG;obtain⟨dd,zz⟩:=(b1.ex x2).ru (.int .i64 0) (.int .i64 0) (.slice none 0 0);have dz:=b1.ex x2;obtain⟨u0,u1,u2⟩:=dz.d3;obtain⟨k0,k1,k2⟩:=dz.z3;obtain⟨C0,C1,C2⟩:=dd.d3;have eF:=(x1.trans x2).aM zz (by omega);go_wp2_with fail
  refine ane (v:=.tuple #[.agg #[.int .i64 0,.int .i64 0,.slice none 0 0],.bool false]) (by simp[results,Tryz.results5,go_sem,C0,C1,C2]) rfl ?_;rw[HN.out];exact⟨_,rfl,yS _,eF⟩
 |true=>
  rw[hG]at cG;by_cases NI:x.aI<=24;case neg=>
   have HN:=amW (vg (p:=p) (x:=x) (λh=>NI h.2.1));have hgt:(24:Int)<x.aI:=by omega
   clear hG NI hws zV;go_enter Tryz.func5,Tryz.ntmps5
   go_wp2_with fail
   refine cG.mono ?_;rintro e w2 ⟨rfl,x2⟩;have q0:=af x2 q0;clear cG;obtain⟨dd,zz⟩:=(b1.ex x2).ru (.int .i64 0) (.int .i64 0) (.slice none 0 0);have dz:=b1.ex x2;obtain⟨u0,u1,u2⟩:=dz.d3;obtain⟨k0,k1,k2⟩:=dz.z3;obtain⟨C0,C1,C2⟩:=dd.d3;have eF:=(x1.trans x2).aM zz (by omega);go_wp2_with fail
   refine ane (v:=.tuple #[.agg #[.int .i64 0,.int .i64 0,.slice none 0 0],.bool false]) (by simp[results,Tryz.results5,go_sem,C0,C1,C2]) rfl ?_;rw[HN.out];exact⟨_,rfl,yS _,eF⟩
  have hgt:¬(24:Int)<x.aI:=by omega
  by_cases h12:s3<=12;case neg=>
   have hgt2:(12:Int)<(s3:Int):=by omega
   have aeO:12<s3:=by omega
   have HN:=amW (vg (p:=p) (x:=x) (λh=>by rw[zV]at h;exact h12 (by simpa using h.2.2)));clear hG NI zV h12;go_enter Tryz.func5,Tryz.ntmps5
   go_wp2_with fail
   refine cG.mono ?_;rintro e w2 ⟨rfl,x2⟩;have q0:=af x2 q0;have q2:=af x2 q2;have q3:=af x2 q3;clear cG;obtain⟨dd,zz⟩:=(b1.ex x2).ru (.int .i64 0) (.int .i64 0) (.slice none 0 0);have dz:=b1.ex x2;obtain⟨u0,u1,u2⟩:=dz.d3;obtain⟨k0,k1,k2⟩:=dz.z3;obtain⟨C0,C1,C2⟩:=dd.d3;have eF:=(x1.trans x2).aM zz (by omega);go_wp2_with fail
   refine ane (v:=.tuple #[.agg #[.int .i64 0,.int .i64 0,.slice none 0 0],.bool false]) (by simp[results,Tryz.results5,go_sem,C0,C1,C2]) rfl ?_;rw[HN.out];exact⟨_,rfl,yS _,eF⟩
  obtain⟨hF,hw0,hw1,Jm,zX,ji⟩:=CV hG;have hfit:jW x.ins.length x.outs.length=true:=by rw[zV];simpa using h12
  have hgt2:¬(12:Int)<(s3:Int):=by omega
  have aeO:¬12<s3:=by omega
  obtain⟨N,hN⟩:∃N:Nat,x.aI=(N:Int):=⟨x.aI.toNat,by omega⟩;have RO:x.aI.toNat=N:=by omega
  rw[RO]at ji;have hG0:=amW hG;obtain⟨aI,es,ins,outs⟩:=x;dsimp only at hN hw0 hw1 Jm zX ji NI hgt cG q0 q1 q2 q3 D1 hW0 HI HO HE WM YN hEl RO hfit zV hws Xj hG⊢;subst hN;have Gn:N<=24:=by omega
  have z_:(aK (ins++outs)).length=ins.length+outs.length:=by unfold aK;rw[am5,am9]
  have hEq:=uF (L:=5) (W:=N) (m:=2) (f:=dK p N) (es:=es) λa ha=>D7 hF (ji a ha).1
  have RN:(es.flatMap (dK p N)).length<=120:=by have:=hEq.2.2;omega
  have aaV:=λc hc=>iR hF (by omega) hEq.2.1 hEq.1 (R:=24) (.inl Gn) (amX _) c hc
  have hrr:=Ab hF (by omega) hEq.2.1 hEq.1 (R:=24) (.inl Gn);have cN0:=λ(A:Option Addr) (c:Nat) (W:World) (h:jo (λ_=>False) W A (es.flatMap (dK p N)))=>L6 p N _ A c W (bZ 24 5) hF h hEq.1 (CY hEq.2.1) (λc hc=>(aaV c hc).mono (by unfold bZ;omega)) hrr (by unfold bZ;omega) (by unfold bZ;omega) Gn (by omega)
  have hNg:iK p (bZ 24 (bZ 24 5)) ((ah p).eU N (es.flatMap (dK p N))):=Ab hF (by unfold bZ;omega) (zD hF (by unfold bZ;omega) hrr) (mU _ _) (R:=24) (.inl Gn);have hNw:=KQ hF (CY (zD hF (by unfold bZ;omega) hrr)) (mU (O:=ah p) N ((ah p).aB N (es.flatMap (dK p N))));have hNW:aZ N ((ah p).eU N (es.flatMap (dK p N))):=hNw.1;have hNl:((ah p).eU N (es.flatMap (dK p N))).length<=N:=hNw.2.2;have cN:∀(A:Option Addr) (c:Nat) (W:World),jo (λ_=>False) W A (es.flatMap (dK p N))->Calls prog 17 #[.int .i64 p,.int .i64 N,.slice A (es.flatMap (dK p N)).length c] W λe w'=>∃A' c',e=.returned (.slice A' ((ah p).eU N (es.flatMap (dK p N))).length c')/\wo w' A' ((ah p).eU N (es.flatMap (dK p N)))/\Ex W w':=cN0
  clear cN0;have YL:=TD hF (E:=aK (ins++outs)) (by unfold bZ;omega) hNg;have Vf:aZ (ins.length+outs.length) (((ah p).eU N (es.flatMap (dK p N))).map ((ah p).kY (aK (ins++outs)))):=λv hv=>by obtain⟨r,_,rfl⟩:=am3.1 hv;rw[yC,z_]
  have HY:=amW (XL (x:=⟨(N:Int),es,ins,outs⟩) hG NI hfit RO (λe he=>(ji e he).1) z_ hF (CY YL) Vf);have cO:=λ(A:Option Addr) (c:Nat) (W:World) (h:gm iE W A (((ah p).eU N (es.flatMap (dK p N))).map ((ah p).kY (aK (ins++outs)))))=>XE (λ_=>False) p ins.length outs.length _ A c W hF (jo.vK h (asF _) (λ_ h=>h.elim)) (λ_ h=>h.elim) Vf (λc hc=>(iR hF (by unfold bZ;omega) YL Vf (R:=12) (.inl (by have:=Xj.out;omega)) (amX _) c hc).mono (by unfold bZ;omega)) (by have:=Xj.out;omega) (by rw[am5];omega)
  have HPa:=amW (λ(k:Nat) (row:List aF) (hk:((ah p).eU N (es.flatMap (dK p N)))[k]?=some row)=>(show(((ah p).eU N (es.flatMap (dK p N))).map ((ah p).kY (aK (ins++outs)))).take (k+1)=(((ah p).eU N (es.flatMap (dK p N))).map ((ah p).kY (aK (ins++outs)))).take k++[(aK (ins++outs)).map ((ah p).el row)] by
   rw[am_,am7,hk];rfl))
  have HPn:=amW (show(((ah p).eU N (es.flatMap (dK p N))).map ((ah p).kY (aK (ins++outs)))).length=((ah p).eU N (es.flatMap (dK p N))).length from am5 _);have HNW:=amW hNW;have HQg:=amW (λ(k:Nat) (e:Ed) (hk:es[k]?=some e)=>(show(es.take (k+1)).flatMap (dK p N)=(es.take k).flatMap (dK p N)++dK p N e/\((es.take k).flatMap (dK p N)).length<=120/\(dK p N e).length<=2 from⟨by rw[am_,hk,List.flatMap_append];simp,by
   have:=(uF (L:=5) (W:=N) (m:=2) (f:=dK p N) (es:=es.take k) λa ha=>D7 hF (ji a (an5 ha)).1).2.2;rw[am8]at this;have:=an6 2 (Nat.min_le_right k es.length);omega,(D7 hF (ji e (am1 hk)).1).2.2⟩))
  have HQ:=amW (show(es.take es.length).flatMap (dK p N)=es.flatMap (dK p N) by rw[anf]);generalize afc:((ah p).eU N (es.flatMap (dK p N))).map ((ah p).kY (aK (ins++outs)))=PR at*;generalize afd:(ah p).eU N (es.flatMap (dK p N))=OR at*;generalize afp:es.flatMap (dK p N)=EQ at*;have cE:=λ(e:Ed) (he:e∈es) (P:Option Addr) (pc:Nat) (Q:Option Addr) (qc:Nat) (W:World) (hP:Rd W P e.ins) (hQ:Rd W Q e.outs)=>PI p N e P pc Q qc W hF (ji e he).1 (by omega) hP hQ
  have TU:=amW zX;have HEl:=amW z_;clear afc afd afp hEq aaV hrr hNg hNw YL Vf zX z_ ji hG hfit RO zV hF hNW;have HL:=amW (rfl:es.length=es.length);obtain⟨M,hM⟩:=xq OR.length;have HM:=amW hM;have afh:M<=24:=by omega
  rw[hM]at cN;clear hM hNl;go_enter Tryz.func5,Tryz.ntmps5
  go_wp2_with fail
  refine cG.mono ?_;rintro e w2 ⟨rfl,x2⟩;have q0:=af x2 q0;have q1:=af x2 q1;have q2:=af x2 q2;have q3:=af x2 q3;have X2:=x1.trans x2;have B1:=b1.ex x2;clear cG;go_wp2_with fail
  go_loopw [6,38] (λo i wr=>∃k:Nat,k<=es.length/\i=.int .i64 k/\GE AY 48 wr w2.heap.size wr.heap.size o ((es.take k).flatMap (dK p N))/\Ex w2 wr) (λ_ i _=>es.length-(intOf i).toNat)
  case atStart=>exact⟨0,am4 _,rfl,GE.nil _ _ _ _ _,asF _⟩
  case round=>
   rename World=>wi;obtain⟨k,hk,rfl,hge,he⟩:=hrel;have hz:=he.size;have hxi:=X2.trans he;obtain⟨vA,vn,vc,ev⟩:=hge.f3;subst ev;by_cases hlt:k<es.length
   .obtain⟨g,off,e,P,pc,Q,qc,rfl,hx,c0,c1,c2,c3,hP,hQ⟩:=(HE.out.ex hxi).edge (j:=k) hlt;obtain⟨hT1,Oy,hT3⟩:=HQg.out k e hx;have HT:=amW hT1;obtain⟨y4,n4,W4,Vd⟩:=VB.al wi 45 #[.int .i64 e.kd,.int .i64 e.vl,.slice P e.ins.length pc,.slice Q e.outs.length qc];rw[Vd]at y4 n4;obtain⟨f0,f1,f2,f3⟩:=n4.d4;have p0:=af (he.trans y4) q0;have cE:=cE e (am1 hx) P pc Q qc W4 (hP.ex y4) (hQ.ex y4);generalize dK p N e=RE at*;clear hx hT1;go_wp2_with fail
    refine cE.mono ?_;rintro e5 w5 ⟨v5,rfl,qX,x5⟩;clear cE;obtain⟨A5,c5,ev5⟩:=qX.lu;subst ev5;obtain⟨v',w',hrun,hge',hE⟩:=IQ (hge.ex (y4.trans x5)) qX y4.size (amX _) hz x5.size (by omega);rw[<-HT.out]at hge';have xw:=hE w2 (he.trans (y4.trans x5)) (amX _);clear hE hge HT qX;go_wp2_with (at_builtin;refine wpList_append_run rfl _ _ _ rfl rfl rfl hrun ?_)
    go_roundw;case rel=>exact⟨k+1,by omega,by go_num,hge',xw⟩
    case measure=>simp[intOf];omega
   .obtain rfl:k=es.length:=by omega
    rw[HQ.out]at hge;obtain⟨A4,c4,e4,_,hr4⟩:=hge.rows (by omega);injection e4 with e41 e42 e43;subst e41 e42 e43;have cN:=cN vA vc wi (jo.vK hr4.1 (asF _) (λ_ h=>h.elim));have q0:=af he q0;have q2:=af he q2;have q3:=af he q3;clear hge;go_wp2_with fail
    refine cN.mono ?_;rintro e w5 ⟨A5,c5,rfl,r5,x5⟩;clear cN;have z5:=x5.size;have X5:=hxi.trans x5;have q2:=af x5 q2;have q3:=af x5 q3;have B5:=B1.ex (he.trans x5);have hIL:ins.length+outs.length<=12:=by have:=Xj.out;omega
    have HNr:=HNW;go_wp2_with fail
    go_loopw [9,56] (λo i wr=>∃k:Nat,k<=M/\i=.int .i64 k/\GE (wC w5) 48 wr w5.heap.size wr.heap.size o (PR.take k)/\Ex w5 wr) (λ_ i _=>M-(intOf i).toNat)
    case atStart=>exact⟨0,am4 _,rfl,GE.nil _ _ _ _ _,asF _⟩
    case round=>
     rename World=>wk;obtain⟨k,hk,rfl,hge,he⟩:=hrel;have hz:=he.size;have hxk:=X5.trans he;have B2:=af he q2;have B3:=af he q3;obtain⟨vA,vn,vc,ev⟩:=hge.f3;subst ev;by_cases hlt:k<M
     .obtain⟨g,off,row,P,pc,rfl,hr,b0,hpc,hP⟩:=r5.at_ (j:=k) (by rw[HM.out];exact hlt);have hrn:=HNr.out row (am1 hr);have b0:=af he b0;rw[hrn]at b0 hpc;have HT:=amW (HPa.out k row hr);have HRn:=amW hrn;clear hr hrn;have HS2:∀W,Ex wk W->(Ex wk W/\W.cell? ⟨w.heap.size,2,none⟩=some (.slice I ins.length ic)/\W.cell? ⟨w.heap.size,3,none⟩=some (.slice O outs.length oc)):=λW h=>⟨h,af h B2,af h B3⟩
      go_wp2_with fail
      go_region_held3 (λW=>Ex wk W/\W.cell? ⟨w.heap.size,2,none⟩=some (.slice I ins.length ic)/\W.cell? ⟨w.heap.size,3,none⟩=some (.slice O outs.length oc)) (first
       |(exact HS2 _ x8)
       |(exact HS2 _ x7)
       |(exact HS2 _ (asF wk).drew)
       |(exact HS2 _ (asF wk))) (first
       |(refine b_ (vs:=v7) (vx:=.slice O outs.length oc) rfl _ _ _ rfl rfl rfl (by with_reducible exact hrun) ?_)
       |(go_at_call 18
         have hb:=(‹Ex wk _/\_›).1;refine(QX I ic ins _ (HI.out.ex (hxk.trans hb))).mono ?_;rintro e w7 ⟨v7,rfl,al7,x7'⟩;have x7:=hb.trans x7';obtain⟨v8,w8,hrun,al8,e8,_⟩:=fH 23 23 Tryz.underlying23 w7 _ v7 ins al7 x7'.size O oc outs ((HO.out.ex hxk).ex x7) (by omega);have x8:Ex wk w8:=x7.Sj e8 (λg e=>by have:=(al7.lt g e).1;have:=hb.size;omega);have hbs:=hb.size;obtain⟨A8,c8,ev8,f8⟩:=al8.form (by rw[am9];omega);rw[am9,Xj.out]at ev8;subst ev8;clear hb e8 al7 al8))
      all_goals
       have z8:=x8.size;have F8:Fr w8 wk.heap.size A8 c8 (ins++outs):=f8;have HS:=amW (show(ins++outs).length=s3 by rw[am9];exact Xj.out);obtain⟨gl,hgl⟩:=xq (ins++outs);rw[hgl]at F8 HS;have HGl:=amW hgl;clear f8 hrun hbs HS2 x7 x7' hgl;go_wp2_with fail
       go_loopw [12,67] (λo i wr=>∃j:Nat,j<=s3/\i=.int .i64 j/\kD (Ex w5) wr wk.heap.size wr.heap.size o (((aK gl).take j).map ((ah p).el row))/\(∀g,o.ownBlock=some g->g<wk.heap.size∨w8.heap.size<=g)/\Ex wk wr/\fD 0 wk.heap.size w8 wr) (λ_ i _=>s3-(intOf i).toNat)
       case atStart=>exact⟨0,am4 _,rfl,⟨[],GE.nil _ _ _ _ _,rfl,λj x hj=>by simp at hj⟩,(λg e=>by cases e),x8,fD.refl _ _ _⟩
       case round=>
        rename World=>wj;obtain⟨j,hj,rfl,NG,lq,p_,hij⟩:=hrel;have hzj:=p_.size;have ajK:=hij.size;obtain⟨uA,un,uc,eu⟩:=NG.f3;subst eu;by_cases hjt:j<s3
        .have Rq:=(F8.fi.iv hij (.inr (amX _))).rd;obtain⟨gp,op,ai,rfl,hai,Ba,hcp⟩:=Rq.at_ (k:=j) (by rw[HS.out];exact hjt);obtain⟨abD,abC⟩:=TU.out ai (by rw[HGl.out];exact am1 hai);obtain⟨a,rfl⟩:∃a:Nat,ai=(a:Int):=⟨ai.toNat,by omega⟩;have Vb:a<N:=by omega
         obtain⟨x,hx⟩:∃x,row[a]?=some x:=⟨_,am0 (by rw[HRn.out];exact Vb)⟩;obtain⟨gr,Wm,A1,c1,B1',d1,rfl,a0,a1,hq⟩:=BZ hP (he.trans p_) hx;have b0j:=af p_ b0;have HTj:=amW (show((aK gl).take (j+1)).map ((ah p).el row)=((aK gl).take j).map ((ah p).el row)++[x] by
          have:(aK gl)[j]?=some a:=by unfold aK;rw[am7,hai];rfl
          rw[am_,this,anQ];congr 1;show[(ah p).el row a]=[x];rw[(ah p).bT hx])
         obtain⟨v',w',hrun,hP',WN,Rt,hE⟩:=yX NG (amX _) hzj hq (by rw[am5,am8];omega);rw[<-HTj.out]at hP';have xw:=hE wk p_ (amX _);have hI:=hij.own WN lq;have YO:∀g,v'.ownBlock=some g->g<wk.heap.size∨w8.heap.size<=g:=λg hg=>by
          rcases Rt with q|q
          .rw[q]at hg;exact lq g hg
          .rw[q]at hg;injection hg with hg;exact .inr (by omega)
         clear hE WN lq Rt hq hx hai NG HTj;go_wp2_with (at_builtin;refine wpList_append_run rfl _ _ _ rfl rfl rfl hrun ?_)
         go_roundw;case rel=>exact⟨j+1,by omega,by go_num,hP',YO,xw,hI⟩
         case measure=>simp[intOf];omega
        .obtain rfl:s3=j:=by omega
         have xL:=amW (show(aK gl).length=s3 by rw[<-HGl.out];exact HEl.out.trans Xj.out);rw[ann (by rw[xL.out];exact amX _)]at NG;have hu:(wC w5).O wj wk.heap.size wj.heap.size [.slice uA un uc] ((aK gl).map ((ah p).el row)):=NG.WV (by rw[am5,xL.out];omega) (λw2 h0 _=>h0);obtain⟨v',w',hrun,hge',_,Ru,hE⟩:=iO (hge.ex p_) hzj hu (amX _) hzj (amX _) hz (by rw[am8];omega);rw[<-HGl.out,<-HT.out]at hge';have xw:=hE w5 (he.trans p_) (amX _);clear hE hu hge NG HT xL;go_wp2_with (at_builtin;refine wpList_append_run rfl _ _ _ rfl rfl rfl hrun ?_)
         go_roundw;case rel=>exact⟨k+1,by omega,by go_num,hge',xw⟩
         case measure=>simp[intOf];omega
     .obtain rfl:k=M:=by omega
      have HPk:=HPn.out.trans HM.out;rw[ann (by rw[HPk];exact amX _)]at hge;obtain⟨A6,c6,ev,hr6⟩:=hge.J7 (by omega) he;injection ev with ev1 ev2 ev3;subst ev1 ev2 ev3;have cO:=cO vA vc wk hr6;rw[HPk]at cO;have B6:=B5.ex he;have HSl:=Xj.out;generalize(ah p).aB (ins.length+outs.length) PR=RR at*;clear hge hr6;go_wp2_with fail
      refine cO.mono ?_;rintro e w7 ⟨A7,c7,rfl,r7,x7⟩;clear cO;go_wp2_with fail
      have cI:=XG p ⟨ins.length,outs.length,RR⟩ A7 c7 w7 (r7 w7 (bn.refl _ _));have YG:=U2 p ⟨ins.length,outs.length,RR⟩;obtain⟨⟨⟨rl,rr,rb⟩,bb⟩,YK⟩:∃RES,Yc p ⟨ins.length,outs.length,RR⟩=RES:=⟨_,rfl⟩;have HE2:=amW (HY.out.trans YK);rw[YK]at cI YG;dsimp only at cI YG;clear YK HY;refine cI.mono ?_;clear cI;rintro e w8 ⟨A8,c8,rfl,r8,x8⟩;dsimp only at r8⊢;have dz:=(B6.ex x7).ex x8;have xz:=(hxk.trans x7).trans x8;obtain⟨dd,zz⟩:=dz.ru (.int .i64 rl) (.int .i64 rr) (.slice A8 rb.length c8);obtain⟨u0,u1,u2⟩:=dz.d3;obtain⟨k0,k1,k2⟩:=dz.z3;obtain⟨C0,C1,C2⟩:=dd.d3;have eF:=xz.aM zz (by omega);have hb6:=B6.lt;have hz7:=x7.size;have hst:=r8 _ ((fD.a_ zz).widen (am4 _) (by omega));go_wp2_with fail
      refine ane (v:=.tuple #[.agg #[.int .i64 rl,.int .i64 rr,.slice A8 rb.length c8],.bool bb]) (by simp[results,Tryz.results5,go_sem,C0,C1,C2]) rfl ?_;rw[HE2.out];exact⟨_,rfl,⟨⟨A8,c8,rfl,hst.1.1⟩,YG⟩,eF⟩
end Go.Proofs.YtekcehkhdjoffaaGreatDoor
