/- Lemmas and walks on terms over rational functions: Linear combinations of rows in the .. -/
import Derived.Test.YthgiffhlfcmgaaaGreatDoorQ09
namespace Go.Proofs.YthgiffhlfcmgaaaGreatDoor
open List(range)
open _root_.Go.Proofs.Tryz(prog)
set_option maxRecDepth 100000
set_option maxHeartbeats 8000000
set_option linter.all false
open Go Go.RowKit
variable{x:aG}{p:Int}{xs:List aG}{B H a c g n:Nat}{w:World}
theorem GE.JC{m:Nat}{P:Option Addr}(h:GE rR 57 w B H (.slice P m c) xs)(hl:xs.length<=1099511627776):bW EF w P xs:=by obtain⟨A,c',e,_,o⟩:=h.ox (E':=Jf) hl rfl sO;injection e with e1 _ _;subst e1;exact o.JC rfl Bg
def yt(p:Int)(n:Nat)(k:List aG)(R:List (List aG))(t:Nat):List aG:=((k.zip R).take t).foldl (λv q=>(au p).less v ((au p).neg q.1) q.2) (List.replicate n zF)
theorem uh{p:Int}{n:Nat}{k:List aG}{R:List (List aG)}(hW:aQ n R):∀t,(yt p n k R t).length=n
 |0=>by unfold yt;rw[ayF];exact axH ..
 |t+1=>by
  have ih:=uh (p:=p) (k:=k) hW t;unfold yt at ih⊢;rw[axy];cases hz:(k.zip R)[t]? with
  |none=>rw[Option.toList_none,ax8];exact ih
  |some q=>rw[ayE,azg];exact qM _ ih (hW q.2 (axo (ayD.1 hz).2)) _
theorem H9{k:List aG}{R:List (List aG)}{t:Nat}{r:List aG}(hx:k[t]?=some x)(hr:R[t]?=some r):yt p n k R (t+1)=(au p).less (yt p n k R t) (bY p x) r:=by unfold yt;have hz:(k.zip R)[t]?=some (x,r):=ayD.2 ⟨hx,hr⟩;rw[axy,hz,ayE,azg];rfl
theorem uj{k:List aG}{R:List (List aG)}(hl:k.length=R.length):yt p n k R R.length=(au p).nN n k R:=by unfold yt Ops.nN;rw[axG (by rw[azE];omega)];rfl
theorem SX(p:Int)(n:Nat)(R:List (List aG))(k:List aG)(A K:Option Addr)(c d:Nat)(w:World)(hF:av p=true)(hR:bW iX w A R)(hK:bW EF w K k)(hW:aQ n R)(hl:k.length=R.length)(hn:n<=1000)(hm:R.length<=12)(hk:jS p 3000000 k)(hg:iB p 512 R):
 Calls prog 77 #[.int .i64 p,.int .i64 n,.slice A R.length c,.slice K k.length d] w λe w'=>∃A' c',e=.returned (.slice A' n c')/\GE rR 57 w' w.heap.size w'.heap.size (.slice A' n c') ((au p).nN n k R)/\Ex w w':=by
 have HW:=axj hW;have HK:=axj hk;have HG:=axj hg;have Hl:=axj hl;have dN:=axj (uj (p:=p) (n:=n) hl);obtain⟨m,hRm⟩:=xq R.length;have HRm:=axj hRm;rw[hRm]at hm⊢;obtain⟨kl,hkl⟩:=xq k.length;have HKl:=axj hkl;rw[hkl]at⊢;have Hmk:=axj (show kl=m by rw[<-hkl,<-hRm];exact hl);clear hW hk hg hl hRm hkl;go_enter Tryz.func77,Tryz.ntmps77
 go_wp2_with fail
 refine(h_ n hn _).mono ?_;rintro e w1 ⟨A1,c1,rfl,oL,x1⟩;go_wp2_with fail
 go_loopw [9,16] (λo i wr=>∃(t:Nat) (A2:Option Addr) (c2:Nat),t<=m/\i=.int .i64 t/\o=.slice A2 n c2/\GE rR 57 wr w.heap.size wr.heap.size (.slice A2 n c2) (yt p n k R t)/\Ex w wr) (λ_ i _=>m-(intOf i).toNat)
 case atStart=>exact⟨0,A1,c1,axq _,rfl,rfl,oL,x1⟩
 case round=>
  rename World=>wi;obtain⟨t,A2,c2,ht,rfl,rfl,hge,he⟩:=hrel;by_cases hlt:t<m
  .have hR1:=hR.ex he;obtain⟨g,off,r,v,rfl,hr,b0,⟨P,pc,rfl,hrr⟩⟩:=hR1.jf (j:=t) (by rw[HRm.out];exact hlt);obtain⟨g',off',x,P1,pc1,Q1,qc1,rfl,hx,d0,d1,hP1,NV⟩:=(hK.ex he).iy (j:=t) (by rw[HKl.out,Hmk.out];exact hlt);have HS:=axj (H9 (p:=p) (n:=n) hx hr);have HSl:=axj (uh (p:=p) (k:=k) HW.out t);have apw:=axj (uh (p:=p) (k:=k) HW.out (t+1));have Hrl:=axj (HW.out r (axo hr));have xQ:=axj (HK.out x (axo hx));have Hrg:=axj (HG.out r (axo hr));have HSg:=axj (FX hF (w:=n) HK.out HG.out t);have hz:=he.size;rw[Hrl.out]at b0;have hcap:t<=11:=by omega
   have hlk:t<kl:=by rw[Hmk.out];exact hlt
   go_wp2_with fail
   refine(zw p x P1 Q1 pc1 qc1 wi xQ.out.1 hP1 NV).mono ?_;rintro e w2 ⟨M,mc,N,nc,rfl,fM,fN,apM,x2⟩;have cL:=Mc p (yt p n k R t) r (bY p x) A2 P M N c2 pc mc nc w2 ((hge.JC (by rw[HSl.out];omega)).ex x2) (hrr.ex x2) (by rw[HSl.out,Hrl.out]) fM.rd fN.rd (HSg.out.mono (by omega)) (Hrg.out.mono (by omega)) xQ.out.1.neg (xQ.out.2.neg.mono (by omega));rw[<-HS.out,HSl.out,Hrl.out]at cL;have hz2:=x2.size;clear hR1 b0 d0 d1 hP1 NV fM fN apM hrr;go_wp2_with fail
   refine cL.mono ?_;rintro e w3 ⟨v3,rfl,Rz,x3⟩;have hz3:=x3.size;obtain⟨A3,c3,rfl⟩:=Rz.kH;rw[apw.out]at Rz⊢;clear cL;go_wp2_with fail
   go_roundw;case rel=>exact⟨t+1,A3,c3,by omega,by go_num,rfl,Rz.more (by omega) (axk _),(he.trans x2).trans x3⟩
   case measure=>simp[intOf];omega
  .go_wp2_with fail
   go_ret;obtain rfl:t=m:=by omega
   rw[<-dN.out,HRm.out];exact⟨A2,c2,rfl,hge,he⟩
theorem GE.adr(h:GE rR 57 w B H (.slice (some ⟨g,0,none⟩) n c) xs)(ha:a<=B):pG w (λz=>z<a∨z=g) g xs:=by
 obtain⟨cur,al,bl,_,hB,hH,hh,h1,h2⟩:=h.at_;refine⟨cur,hh,λi x hx=>?_⟩;obtain⟨u,q1,⟨v0,v1,rfl,a0,b0,a1,b1,⟨A,c0,rfl,f0⟩,⟨A',c1,rfl,f1⟩,l0,l1,l2,l3,_⟩,q3,q4,q5⟩:=h1 i x hx;refine⟨A,c0,A',c1,q1 0 _ rfl,q1 1 _ rfl,⟨f0.rd,λ_ a e hs=>?_⟩,⟨f1.rd,λ_ a e hs=>?_⟩⟩
 .have:=f0.fr.hi a e;have:=f0.lo a e;omega
 .have:=f1.fr.hi a e;have:=f1.lo a e;omega
theorem pG.KA{W0:World}(h:pG w (λz=>z<a∨z=g) g xs)(hg:a<=g)(hl:xs.length<=1099511627776):(wK W0).O w a w.heap.size [.slice (some ⟨g,0,none⟩) xs.length c] xs:=by
 refine⟨_,c,rfl,λw2 _ hk=>?_⟩;have hgl:=h.lt;obtain⟨cur,hh,hx⟩:=h;have Dj:w2.heap[g]?=some (.cells cur 57 (0,0)):=(hk g hg hgl hgl).trans hh;have hrd:∀{A:Option Addr} {l:List Int},RX w (λz=>z<a∨z=g) A l->Rd w2 A l:=λ{A l} hr=>by
  by_cases hl0:l=[]
  .subst hl0;exact Rd.nil _ _
  .refine hr.1.keep λp e hp=>hk _ ?_ hp hp
   have:=hr.2 hl0 p e;omega
 refine pG.JC (S:=λ_=>False) ⟨cur,Dj,λi x hi=>?_⟩ hl;obtain⟨A,c,B,d,h1,h2,h3,h4⟩:=hx i x hi;exact⟨A,c,B,d,h1,h2,⟨hrd h3,λ_ _ _ h=>h.elim⟩,⟨hrd h4,λ_ _ _ h=>h.elim⟩⟩
theorem afR(hx:FV p x):bY p (bY p x)=x:=congrArg Subtype.val ((aj p hx.f).neg_neg ⟨x,hx⟩)
theorem WS{k:aG}(hk:FV p k){vs ws:List aG}(hv:∀x∈vs,FV p x)(hw:∀x∈ws,FV p x)(hl:vs.length=ws.length):jk p vs k ws=(au p).less vs ((au p).neg k) ws:=by have:=Jd hk.neg hv hw hl;rw[afR hk]at this;exact this
theorem WT(hF:av p=true){ws:List aG}(hw:∀x∈ws,FV p x):jk p (List.replicate ws.length zF) (bY p oF) ws=ws.map (bY p):=by
 rw[Jd (FV.one hF) (λx hx=>by rw[(List.mem_replicate.1 hx).2];exact FV.zero hF) hw (by simp)];unfold Ops.less;refine ax_ λi=>?_
 rw[azl,axw,ax3];cases hi:ws[i]? with
 |none=>
  split
  .rename_i h;cases h
  .rfl
 |some x=>
  rw[axl (axp.1 hi).1];have hx:=hw x (axo hi);show some (uV p zF (fP p (bY p oF) x))=some (bY p x);have:(aj p hF).add (aj p hF).z ((aj p hF).mul ((aj p hF).neg (aj p hF).o) ⟨x,hx⟩)=(aj p hF).neg ⟨x,hx⟩:=by rw[(aj p hF).bB,(aj p hF).neg_mul,(aj p hF).bE]
  exact congrArg (λy=>some y.1) this
theorem acs(h:2<=p):bY p oF=⟨[p-1],[1]⟩:=by
 have e:(p-1)%p=p-1:=ayl (by omega) (by omega);have h0:p-1≠0:=by omega
 have:bQ p [] (p-1) [1]=[p-1]:=by simp[bQ,je,bI,cf,trim,e,h0]
 show(⟨kG p [1],[1]⟩:aG)=_;rw[show kG p [1]=bQ p [] (p-1) [1]from rfl,this]
theorem yE(p:Int)(n:Nat)(R:List (List aG))(k:List aG)(A K:Option Addr)(c d:Nat)(w:World)(hF:av p=true)(hR:bW iX w A R)(hK:bW EF w K k)(hW:aQ n R)(hl:k.length=R.length)(hn:n<=1000)(hm:R.length<=12)(hk:jS p 3000000 k)(hg:iB p 512 R):
 Calls prog 87 #[.int .i64 p,.slice K k.length d,.slice A R.length c,.int .i64 n] w λe w'=>∃b c',e=.returned (.slice (some ⟨b,0,none⟩) n c')/\n<=c'/\w.heap.size<=b/\pG w' (λz=>z<w.heap.size∨z=b) b ((au p).nN n k R)/\Ex w w':=by
 have HW:=axj hW;have HK:=axj hk;have HG:=axj hg;have dN:=axj (uj (p:=p) (n:=n) hl);obtain⟨m,hRm⟩:=xq R.length;have HRm:=axj hRm;rw[hRm]at hm hl⊢;obtain⟨kl,hkl⟩:=xq k.length;have HKl:=axj hkl;rw[hkl]at hl⊢;have Hmk:=axj hl;clear hW hk hg hl hRm hkl;go_enter Tryz.func87,Tryz.ntmps87
 go_wp2_with fail
 refine(gm n hn _).mono ?_;rintro e w1 ⟨v,rfl,⟨hnn,hge⟩,x1⟩;obtain⟨b,c0,e0,hc0,_⟩:=hge.form hnn;rw[axH]at e0 hc0;subst e0;have F1:=hge.adr (a:=w.heap.size) (axk _);have hb:w.heap.size<=b:=by obtain⟨_,_,_,_,hB,_⟩:=hge.at_;exact hB
 clear hge hnn;go_wp2_with fail
 go_loopw [16] (λi wr=>∃t:Nat,t<=m/\i=.int .i64 t/\pG wr (λz=>z<w.heap.size∨z=b) b (yt p n k R t)/\Ex w wr) (λi _=>m-(intOf i).toNat)
 case atStart=>exact⟨0,axq _,rfl,F1,x1⟩
 case round=>
  rename World=>wi;obtain⟨t,ht,rfl,F,he⟩:=hrel;by_cases hlt:t<m
  .obtain⟨g,off,r,v,rfl,hr,a0,⟨P,pc,rfl,hrr⟩⟩:=hR.jf (j:=t) (by rw[HRm.out];exact hlt);obtain⟨g',off',x,P1,pc1,Q1,qc1,rfl,hx,c1,c2,hP1,NV⟩:=hK.iy (j:=t) (by rw[HKl.out,Hmk.out];exact hlt);have b0:=af he a0;have d0:=af he c1;have d1:=af he c2;have rx:∀{A:Option Addr} {l:List Int},Rd w A l->RX wi (λz=>z=b) A l:=λ{A l} h=>⟨h.ex he,λhn a e q=>by
    obtain⟨g,off,_,hA,_,hg,_⟩:=h.at_ (k:=0) (axB.2 hn);rw[e]at hA;injection hA with hA;subst hA;have q':g=b:=q;omega⟩
   have HS:=axj (H9 (p:=p) (n:=n) hx hr);have HSl:=axj (uh (p:=p) (k:=k) HW.out t);have Hrl:=axj (HW.out r (axo hr));have xQ:=axj (HK.out x (axo hx));have Hrg:=axj (HG.out r (axo hr));have HSg:=axj (show jS p (1+t*(3000000+512)) (yt p n k R t)from FX hF (w:=n) HK.out HG.out t);have hcap:t<=11:=by omega
   have hlk:t<kl:=by rw[Hmk.out];exact hlt
   have hbl:=F.lt;have hz:=he.size;have cA:=nS p (λz=>z<w.heap.size∨z=b) b P (yt p n k R t) r x P1 Q1 pc1 qc1 c0 pc wi (λz hz=>by omega) (.inr rfl) F (λW h=>hrr.ex (he.sx h (λz e=>e▸hb))) (by rw[HSl.out,Hrl.out]) (rx hP1) (rx NV) (HSg.out.mono (by omega)) (Hrg.out.mono (by omega)) xQ.out.1 (xQ.out.2.mono (by omega)) (by rw[Hrl.out];exact hn);rw[WS xQ.out.1 (λy hy=>(HSg.out y hy).1) (λy hy=>(Hrg.out y hy).1) (by rw[HSl.out,Hrl.out]),HSl.out,Hrl.out]at cA;rw[Hrl.out]at b0;clear hr hx a0 c1 c2 hP1 NV hrr rx F;go_wp2_with fail
   refine cA.mono ?_;rintro e w3 ⟨rfl,F3,x3,_⟩;have x4:=he.sx x3 (λz e=>e▸hb);have F4:pG w3 (λz=>z<w.heap.size∨z=b) b (yt p n k R (t+1)):=by rw[HS.out];exact F3
   clear cA F3 x3 b0 d0 d1;go_wp2_with fail
   go_roundw;case rel=>exact⟨t+1,by omega,by go_num,F4,x4⟩
   case measure=>simp[intOf];omega
  .go_wp2_with fail
   go_ret;obtain rfl:t=m:=by omega
   rw[HRm.out]at dN;rw[dN.out]at F;exact⟨b,c0,rfl,hc0,hb,F,he⟩
theorem Bf{a b:Value}:∀{us:List (List Value)} {i:Nat},(∀u∈us,u.length=2)->i<us.length->(us.flatten.set (i*2) a).set (i*2+1) b=(us.set i [a,b]).flatten
 |[],i,_,h=>by simp at h
 |u::us,i,hu,h=>by
  have hl:=hu u (by simp)
  match u,hl with
  |[p,q],_=>
   cases i with
   |zero=>simp
   |succ i=>have ih:=Bf (a:=a) (b:=b) (us:=us) (i:=i) (λv hv=>hu v (by simp[hv])) (by simpa using h);rw[azt,ayN,ayN,<-ih,show(i+1)*2=i*2+1+1 by omega];rfl
theorem GE.ain{w':World}{b i:Nat}(h:GE rR 57 w B H (.slice (some ⟨g,0,none⟩) xs.length c) xs){v0 v1:Value}(hi:i<xs.length){cur:Array Value}(hc:w.heap[g]?=some (.cells cur 57 (0,0)))
 (hc':w'.heap[g]?=some (.cells ((cur.setIfInBounds (i*2) v0).setIfInBounds (i*2+1) v1) 57 (0,0))) (hk:∀k,k<w.heap.size->k≠g->w'.heap[k]?=w.heap[k]?) (ho:tQ w' H b v0 v1 x) (hHb:H<=b):
 GE rR 57 w' B b (.slice (some ⟨g,0,none⟩) xs.length c) (xs.set i x):=by
 obtain⟨hown,us,al,bl,hl,ho1,h1,h2⟩:=h;have hu2:∀u∈us,u.length=2:=λu hu=>by obtain⟨j,hj⟩:=axz hu;have hjl:=(axp.1 hj).1;obtain⟨u2,q1,q2,_⟩:=h1 j _ (axn (by omega));rw[hj]at q1;injection q1 with q1;subst q1;exact rR.mM q2
 have hg:=hown g rfl;have hiu:i<us.length:=by omega
 refine⟨λk e=>by have:=hown k e;omega,us.set i [v0,v1],(λj=>if j=i then H else al j),(λj=>if j=i then b else bl j),by rw[axM,axM,hl],?_,λj y hj=>?_,λj k hj hk' hne=>?_⟩
 .refine⟨?_,?_⟩
  .rw[<-Bf hu2 hiu,axM,axM,axM];exact ho1.1
  .rcases ho1.2 with⟨e,_⟩|⟨g',cap,cu,e,hB,hh,q1,q2,q3,q4⟩
   .cases e
   .injection e with e1 e2 e3;injection e1 with e1;injection e1 with e1 _ _;subst e1;rw[hc]at hh;injection hh with hh;injection hh with hh _ _;subst hh;refine .inr ⟨g,cap,_,by rw[axM,e3],hB,hc',by rw[axM];exact q1,q2,by simpa using q3,?_⟩;rw[<-Bf hu2 hiu,<-q4];simp[List.take_set]
 .rw[axK]at hj;by_cases e:i=j
  .subst e;rw[axl rfl,axl hi]at hj;injection hj with hj;subst hj;refine⟨[v0,v1],by rw[axK,axl rfl,axl hiu],?_,?_,?_,?_⟩
   .simp only[axl];exact⟨_,_,rfl,ho⟩
   .simp only[axl];omega
   .simp only[axl];omega
   .intro k e;have:=hown k e;simp only[axl];omega
  .rw[axm e]at hj;obtain⟨u,q1,q2,q3,q4,q5⟩:=h1 j y hj;have e':¬j=i:=λh=>e h.symm
   refine⟨u,by rw[axK,axm e];exact q1,?_,?_,?_,?_⟩
   .simp only[axm e'];exact rR.keep q2 λk a1 a2 a3=>hk k a3 (λeg=>by have:=q5 g rfl;omega)
   .simp only[axm e'];exact q3
   .simp only[axm e'];omega
   .simp only[axm e'];exact q5
 .rw[axM]at hj hk';have bd:∀j,j<xs.length->bl j<=H:=λj hj=>by
   obtain⟨_,_,_,_,q4,_⟩:=h1 j _ (axn hj);exact q4
  by_cases ej:j=i
  .have ek:¬k=i:=by omega
   simp only[axl ej,axm ek];have:=bd k hk';omega
  .by_cases ek:k=i
   .simp only[axm ej,axl ek];have:=bd j hj;omega
   .simp only[axm ej,axm ek];exact h2 j k hj hk' hne
theorem PY(n i:Nat)(hi:i<n)(hn:n<=1000)(w:World):
 Calls prog 66 #[.int .i64 n,.int .i64 i] w λe w'=>∃v,e=.returned v/\O4 w' w.heap.size w'.heap.size v (gY n i)/\Ex w w':=by
 go_enter Tryz.func66,Tryz.ntmps66
 go_wp2_with fail
 refine(gm n hn w).mono ?_;rintro e w2 ⟨v,rfl,⟨hnn,hge⟩,x2⟩;obtain⟨g0,c0,e0,hc0,_⟩:=hge.form hnn;subst e0;obtain⟨cur,_,_,_,hgB,hgH,hh,hcells,_⟩:=hge.at_;obtain⟨u,hu,⟨u0,u1,rfl,_⟩,_⟩:=hcells i zF (by rw[ax3,axl hi]);have hz2:=x2.size;have r0:cur[i*2]?=some u0:=hu 0 u0 rfl;have r1:cur[i*2+1]?=some u1:=hu 1 u1 rfl;clear hu hcells;have hv:VB w2 g0 57 cur:=hh;rw[axH];go_wp2_with fail
 refine(yg w2).mono ?_;rintro e w3 ⟨A3,c3,B3,d3,rfl,f3,p3,Uw,x3⟩;have hz3:=x3.size;have xf:=dZ (x:=oF) f3 p3 Uw hz3;have hgl:=aF hh;have d3v:VB w3 g0 57 cur:=(x3.block hgl).trans hh;have q0:=d3v.cell (i*2) r0;have q1:=d3v.cell (i*2+1) r1;have k0:=d3v.frozen (i*2);have k1:=d3v.frozen (i*2+1);have dv:VB ((w3.setCell ⟨g0,i*2,none⟩ (.slice A3 oF.n.length c3)).setCell ⟨g0,i*2+1,none⟩ (.slice B3 oF.d.length d3)) g0 57 ((cur.setIfInBounds (i*2) (.slice A3 oF.n.length c3)).setIfInBounds (i*2+1) (.slice B3 oF.d.length d3)):=(d3v.bC _ _).bC _ _;have e1:aM g0 w3 ((w3.setCell ⟨g0,i*2,none⟩ (.slice A3 oF.n.length c3)).setCell ⟨g0,i*2+1,none⟩ (.slice B3 oF.d.length d3)):=((aM.refl g0 w3).setCell (p:=⟨g0,i*2,none⟩) rfl _).setCell (p:=⟨g0,i*2+1,none⟩) rfl _;have sz:((w3.setCell ⟨g0,i*2,none⟩ (.slice A3 oF.n.length c3)).setCell ⟨g0,i*2+1,none⟩ (.slice B3 oF.d.length d3)).heap.size=w3.heap.size:=by simp
 have hT:=hge.ain (x:=oF) (b:=w3.heap.size) (v0:=.slice A3 oF.n.length c3) (v1:=.slice B3 oF.d.length d3) (i:=i) (by rw[axH];exact hi) hh dv (λk hk hkg=>(e1.block k (axD hk hz3) (λe=>hkg (by injection e))).trans (x3.block hk)) (xf.e1 e1 (.inl hgH)) hz3;rw[axH]at hT;have eF:=(x2.trans x3).aK e1 hgB;clear hge xf dv;go_wp2_with fail
 go_ret;exact⟨_,rfl,⟨by simp,by rw[sz];exact hT⟩,eF⟩
theorem bV.afG{B' H' G G' R R' c' m:Nat}{rows rows' Z:List (List aG)}{K:Nat->Prop}(h:GE Pn 54 w B H (.slice (some ⟨G,0,none⟩) R c) rows)(hw:aQ n rows)(h':GE Pn 54 w B' H' (.slice (some ⟨G',0,none⟩) R' c') rows')(hw':aQ m rows')
 (e1:Z.map (List.take n)=rows) (e2:Z.map (List.drop n)=rows') (hHB:H<=B') (hK:∀z,K z->z<w.heap.size/\(z<B∨H<=z)/\(z<B'∨H'<=z)) (hHs:H'<=w.heap.size):
 ∃(S:Nat->Prop) (bs bs':List (Option Nat)),bV w S K G G' bs bs' Z n m/\∀z,S z->(B<=z/\z<H)∨(B'<=z/\z<H'):=by
 obtain⟨hR,hB,hGH,gs,g1,g2,g3,g4,g5⟩:=Ea h hw;obtain⟨hR',hB',auP,ts,t1,t2,t3,t4,t5⟩:=Ea h' hw';have hat:∀(gs:List Nat) (j b:Nat),(gs.map some)[j]?=some (some b)->gs[j]?=some b:=λgs j b hb=>by
  rw[axw]at hb;cases hx:gs[j]? with
  |none=>rw[hx]at hb;cases hb
  |some x=>rw[hx]at hb;cases hb;rfl
 have hS:∀z,(z=G∨(∃j:Nat,gs[j]?=some z)∨z=G'∨∃j:Nat,ts[j]?=some z)->(B<=z/\z<H)∨(B'<=z/\z<H'):=λz hz=>by
  rcases hz with e|⟨j,hj⟩|e|⟨j,hj⟩
  .exact .inl (by omega)
  .exact .inl ⟨(g2 j z hj).1,(g2 j z hj).2.1⟩
  .exact .inr (by omega)
  .exact .inr ⟨(t2 j z hj).1,(t2 j z hj).2.1⟩
 refine⟨λz=>z=G∨(∃j:Nat,gs[j]?=some z)∨z=G'∨∃j:Nat,ts[j]?=some z,gs.map some,ts.map some,?_,hS⟩;have air:∀(T:Nat->Prop),(∀z,T z->z<B∨H<=z)->∀z,((z=G∨(∃j:Nat,gs[j]?=some z)∨z=G'∨∃j:Nat,ts[j]?=some z)∨T z)->B<=z->z<H->z=G∨∃j:Nat,gs[j]?=some z:=λT hT z hz l u=>by
  rcases hz with(e|e|e|⟨j,e⟩)|e
  .exact .inl e
  .exact .inr e
  .omega
  .have:=(t2 j z e).1;omega
  .have:=hT z e;omega
 have aiq:∀(T:Nat->Prop),(∀z,T z->z<B'∨H'<=z)->∀z,((z=G∨(∃j:Nat,gs[j]?=some z)∨z=G'∨∃j:Nat,ts[j]?=some z)∨T z)->B'<=z->z<H'->z=G'∨∃j:Nat,ts[j]?=some z:=λT hT z hz l u=>by
  rcases hz with(e|⟨j,e⟩|e|e)|e
  .omega
  .have:=(g2 j z e).2.1;omega
  .exact .inl e
  .exact .inr e
  .have:=hT z e;omega
 have s1:=g5 (λz=>z=G∨(∃j:Nat,gs[j]?=some z)∨z=G'∨∃j:Nat,ts[j]?=some z) (λz hz=>air (λ_=>False) (λ_ h=>h.elim) z (.inl hz));have s2:=g5 (λz=>(z=G∨(∃j:Nat,gs[j]?=some z)∨z=G'∨∃j:Nat,ts[j]?=some z)∨K z) (air K λz hz=>(hK z hz).2.1);have s3:=t5 (λz=>z=G∨(∃j:Nat,gs[j]?=some z)∨z=G'∨∃j:Nat,ts[j]?=some z) (λz hz=>aiq (λ_=>False) (λ_ h=>h.elim) z (.inl hz));have s4:=t5 (λz=>(z=G∨(∃j:Nat,gs[j]?=some z)∨z=G'∨∃j:Nat,ts[j]?=some z)∨K z) (aiq K λz hz=>(hK z hz).2.2);obtain⟨cur,hc,TQ⟩:=g4;obtain⟨cur',hc',an5⟩:=t4;have row:∀(gs:List Nat) (n:Nat) (cur:Array Value),(∀(j g:Nat),gs[j]?=some g->∃c,n<=c/\cur[j]?=some (.slice (some ⟨g,0,none⟩) n c))->∀(j:Nat) (ob:Option Nat),(gs.map some)[j]?=some ob->∃c,n<=c/\cur[j]?=some (.slice (pB ob) n c):=λgs n cur hq j ob hj=>by
  rw[axw]at hj;cases hx:gs[j]? with
  |none=>rw[hx]at hj;cases hj
  |some x=>rw[hx]at hj;injection hj with hj;subst hj;exact hq j x hx
 refine⟨⟨⟨cur,hc,row gs n cur TQ⟩,by rw[axs,e1];exact g1,λj ob r h1 h2=>?_,λi j b h1 h2=>g3 i j b (hat gs i b h1) (hat gs j b h2),.inl rfl,λj b hb=>(g2 j b (hat gs j b hb)).2.2⟩,⟨⟨cur',hc',row ts m cur' an5⟩,by rw[axs,e2];exact t1,λj ob r h1 h2=>?_,λi j b h1 h2=>t3 i j b (hat ts i b h1) (hat ts j b h2),.inr (.inr (.inl rfl)),λj b hb=>(t2 j b (hat ts j b hb)).2.2⟩,by omega,λi j b h1 h2=>?_,λj b hb=>by have:=(g2 j b (hat gs j b hb)).2.1;omega,λj b hb=>by have:=(t2 j b (hat ts j b hb)).1;omega,λz hz=>by rcases hS z hz with h|h<;>omega,λz hz=>(hK z hz).1,λb o=>(∃j:Nat,gs[j]?=some b/\o<2*n)∨(∃j:Nat,ts[j]?=some b/\o<2*m),?_,λz o hz=>?_,λo hz=>?_,λo hz=>?_,λj b hb=>⟨.inr (.inl ⟨j,hat gs j b hb⟩),λo ho=> .inl ⟨j,hat gs j b hb,ho⟩⟩,λj b hb=>⟨.inr (.inr (.inr ⟨j,hat ts j b hb⟩)),λo ho=> .inr ⟨j,hat ts j b hb,ho⟩⟩⟩
 .rw[e1]at h2;rw[axw]at h1;cases hx:gs[j]? with
  |none=>rw[hx]at h1;cases h1
  |some x=>rw[hx]at h1;injection h1 with h1;subst h1;exact⟨⟨s1.1 j x r hx h2,.inr (.inl ⟨j,hx⟩)⟩,hw r (axo h2)⟩
 .rw[e2]at h2;rw[axw]at h1;cases hx:ts[j]? with
  |none=>rw[hx]at h1;cases h1
  |some x=>rw[hx]at h1;injection h1 with h1;subst h1;exact⟨⟨s3.1 j x r hx h2,.inr (.inr (.inr ⟨j,hx⟩))⟩,hw' r (axo h2)⟩
 .have:=(g2 i b (hat gs i b h1)).2.1;have:=(t2 j b (hat ts j b h2)).1;omega
 .intro b o a nn cc hb hcell;rcases hb with hb|hb
  .refine⟨(s2.2.1 b o a nn cc hb hcell).1,λb' o' a' n' c' hb' hcell' ea=>?_⟩;rcases hb' with hb'|hb'
   .exact(s2.2.1 b o a nn cc hb hcell).2 b' o' a' n' c' hb' hcell' ea
   .have:=s2.2.2 b o a nn cc hb hcell;have:=s4.2.2 b' o' a' n' c' hb' hcell';omega
  .refine⟨(s4.2.1 b o a nn cc hb hcell).1,λb' o' a' n' c' hb' hcell' ea=>?_⟩;rcases hb' with hb'|hb'
   .have:=s4.2.2 b o a nn cc hb hcell;have:=s2.2.2 b' o' a' n' c' hb' hcell';omega
   .exact(s4.2.1 b o a nn cc hb hcell).2 b' o' a' n' c' hb' hcell' ea
 .rcases hz with⟨j,hj,_⟩|⟨j,hj,_⟩
  .exact .inr (.inl ⟨j,hj⟩)
  .exact .inr (.inr (.inr ⟨j,hj⟩))
 .rcases hz with⟨j,hj,_⟩|⟨j,hj,_⟩
  .exact(g2 j G hj).2.2 rfl
  .have:=(t2 j G hj).1;omega
 .rcases hz with⟨j,hj,_⟩|⟨j,hj,_⟩
  .have:=(g2 j G' hj).2.1;omega
  .exact(t2 j G' hj).2.2 rfl
theorem OQ{K:Type}{O:Ops K}{rows:List (List K)}(hw:aQ n rows):(O.beside rows).map (List.take n)=rows:=by
 refine ax_ λj=>?_
 rw[axw,nO];cases hj:rows[j]? with
 |none=>rfl
 |some r=>rw[ayP,ayP,azr (hw r (axo hj))]
theorem OT{K:Type}{O:Ops K}{rows:List (List K)}(hw:aQ n rows):(O.beside rows).map (List.drop n)=(range rows.length).map (O.unit rows.length):=by
 refine ax_ λj=>?_
 rw[axw,nO,axw];cases hj:rows[j]? with
 |none=>rw[ax2 (by rw[ayC];exact List.getElem?_eq_none_iff.1 hj)];rfl
 |some r=>rw[ayO (axp.1 hj).1,ayP,ayP,ayP,azs (hw r (axo hj))]
theorem ab9{α:Type}(f:Nat->α)(k:Nat):(range (k+1)).map f=(range k).map f++[f k]:=by rw[azN,ax4];rfl
theorem iW.Da{S:Nat->Prop}{G:Nat}{bs:List (Option Nat)}{rows:List (List aG)}(h:iW w S G bs rows n)(hl:rows.length<=1099511627776)(hn:n<=1099511627776)(r:Nat):j_ w (some ⟨G,r,none⟩) (rows.drop r):=by
 have key:∀(j:Nat) (z:List aG),(rows.drop r)[j]?=some z->∃P pc,w.cell? ⟨G,r+j,none⟩=some (.slice P z.length pc)/\z.length<=pc/\bW EF w P z:=λj z hj=>by
  rw[axY]at hj;obtain⟨ob,z',c,hc,h1,h2,h3,h4,h5⟩:=h.aa4 (axp.1 hj).1;rw[hj]at h2;injection h2 with h2;subst h2;rw[<-h3]at h5 hc;refine⟨_,c,h5,hc,?_⟩;cases ob with
  |none=>obtain rfl:z=[]:=h4;exact⟨by simp,λj x hj=>by simp at hj⟩
  |some b=>exact h4.1.JC (by omega)
 refine⟨⟨by rw[axF];omega,λj z hj=>?_⟩,λj z hj=>?_⟩
 .obtain⟨P,pc,h1,h2,h3⟩:=key j z hj;refine⟨G,r,[.slice P z.length pc],rfl,λi u hi=>?_,_,rfl,P,pc,rfl,h3⟩;rw[show iX.k=1 from rfl,ays]
  match i,hi with
  |0,hi=>simp at hi;rw[<-hi];exact h1
 .obtain⟨P,pc,h1,h2,h3⟩:=key j z hj;exact⟨G,r,P,pc,rfl,h1,h2,h3⟩
theorem Vf{v:Value}{xs:List (List aG)}(h:(xs=[]/\∃ad,v=.slice (some ad) 0 0)∨GE Pn 54 w B H v xs)(hH:H<=w.heap.size){v0:Value}{x:List aG}{b:Nat}(hu:O4 w a b v0 x)(ha:H<=a)(hab:a<=b)(hb:b<=w.heap.size)(hB:B<=H)(hl:xs.length+1<=1099511627776):
 ∃v' w',(Builtin.append_ #[26,26] 26 #[v,.slice (some ⟨w.heap.size,0,none⟩) 1 1]).run prog (w.alloc (.cells #[v0] 54))=.ok v' w'/\
  GE Pn 54 w' B w'.heap.size v' (xs++[x])/\v'≠.slice none 0 0/\(∀k,k<B->w'.heap[k]?=w.heap[k]?)/\∀b',Ex b' w->b'.heap.size<=B->Ex b' w':=by
 rcases h with⟨rfl,ad,rfl⟩|h
 .obtain⟨i,hi,hz,hs,hby⟩:=axW jB;have hx:=(aCQ w).alloc (.cells #[v0] 54);have hsz:(w.alloc (.cells #[v0] 54)).heap.size=w.heap.size+1:=by simp
  have hO:Pn.O w a b [v0] x:=⟨v0,rfl,hu⟩;obtain⟨v',w',hrun,hown,hgr⟩:=run_append_arg_grows (P:=prog) (w:=w.alloc (.cells #[v0] 54)) 26 26 54 i (.slice none 0 0) 1 24 Tryz.underlying26 hi hz hs hby rfl (by omega) ad 0 0 [] (by simp) (λj u h=>by simp at h) ⟨w.heap.size,0,none⟩ 1 1 [v0] rfl
   (λj y hj=>World.news_of_block (heap_alloc_new w _) j y (by simpa using hj)) (by omega) (by unfold maxLen;omega) (by omega)
  rw[ayz,axT]at hown;have hx':Ex w w':=hx.Og hgr (λg e=>by cases e);have hlt:=World.ownsRow.lt hown;have hnn:v'≠.slice none 0 0:=λe=>by
   rcases hown.2 with⟨_,e2⟩|⟨g,cap,cur,e2,_⟩
   .omega
   .rw[e]at e2;cases e2
  refine⟨v',w',hrun,⟨λk e=>by have:=hlt k e;omega,[[v0]],λ_=>a,λ_=>b,rfl,⟨hown.1,?_⟩,λj y hj=>?_,λi j hi hj=>by simp at hi hj;omega⟩,hnn,λk hk=>hx'.block (by omega),λb' hb' _=>hb'.trans hx'⟩
  .rcases hown.2 with h5|⟨g,cap,cur,e2,hg,r⟩
   .exact .inl h5
   .exact .inr ⟨g,cap,cur,e2,by omega,r⟩
  .rcases j with _|j
   .injection hj with hj;subst hj;have h1:=hx'.size;refine⟨[v0],rfl,Pn.oex hO hx',?_,?_,λk e=>?_⟩
    .show B<=a;omega
    .show b<=w'.heap.size;omega
    .have:=hlt k e;show k<a∨b<=k;omega
   .simp at hj
 .obtain⟨v',w',h1,h2,h3,h4,h5⟩:=MS h hH hu ha hab hb hB hl;exact⟨v',w',h1,h2,h4,λk hk=>h3.block k (by omega) (λe=>by have:=(h.own k e.symm).1;omega),h5⟩
theorem UZ{A:Option Addr}{lo:Nat}(h1:lo<=n)(_:n<=c)(W:World):(Instr.sliceAt 26 (.slice A n c) (some (.int .i64 (lo:Int))) none none).run prog W=.ok (.slice (if c=lo then A else A.map (λa=>a.add (lo*1))) (n-lo) (c-lo)) W:=by
 obtain⟨i,hi,hz,hs,hby⟩:=axW jB;have e1:(0:Int)<=(lo:Int):=by omega
 have e2:(lo:Int)<=(n:Int):=by omega
 simp[Instr.sliceAt,Instr.slice,ayj Tryz.underlying26,Instr.sliceBounds,run_sliceBound,sizeOf,typeInfo,hi,hs,e1,e2]
theorem Ak(m i:Nat):(gY m i).length=m:=by simp[gY]
theorem Vb(p:Int)(S KS:Nat->Prop)(G G':Nat)(bs0 OP:List (Option Nat))(Z0:List (List aG))(n m R cG Xm b0 b1 b2 b3 b4:Nat)(w:World)(hF:av p=true)(h:bV w S KS G G' bs0 OP Z0 n m)(hW:aQ (n+m) Z0)(Dk:∀c,c<=n->iB p 17179869184 (jN (au p) Z0 c).1)(hR:Z0.length=R)
 (hn:n<=1000) (hm:m<=1000) (hR1:R<=1000) (hc1:R<=cG) (hc2:cG<=9223372036854775807)
 (c0:w.cell? ⟨b0,0,none⟩=some (.int .i64 p)) (c1:w.cell? ⟨b1,0,none⟩=some (.slice (some ⟨G,0,none⟩) R cG)) (c2:w.cell? ⟨b2,0,none⟩=some (.int .i64 n)) (c3:w.cell? ⟨b3,0,none⟩=some (.slice (some ⟨G',0,none⟩) R Xm)) (v4:VB w b4 3 #[.int .i64 0]) (hS4:¬S b4) (hK4:KS b4):
 Calls prog 121 #[.pointer (some ⟨b0,0,none⟩),.pointer (some ⟨b1,0,none⟩),.pointer (some ⟨b2,0,none⟩),.pointer (some ⟨b3,0,none⟩),.pointer (some ⟨b4,0,none⟩)] w λe w'=>e=.returned (.tuple #[])/\bG (λz=>S z∨z=b4) w w'/\
  VB w' b4 3 #[.int .i64 ((au p).red n 0 0 Z0).2]/\∃bs bs',bV w' S KS G G' bs bs' ((au p).red n 0 0 Z0).1 n m:=by
 have hcall:=uw p S KS G G' bs0 OP Z0 n m R cG Xm w hF h.sl h hW Dk hR hn hm hR1 hc1 hc2;clear h hW Dk hR;generalize(au p).red n 0 0 Z0=FIN at*;go_enter Tryz.func121,Tryz.ntmps121
 go_wp2_with fail
 refine hcall.mono ?_;rintro e w1 ⟨bs,bs',rfl,hT,x1⟩;have v1:VB w1 b4 3 #[.int .i64 0]:=(x1.block _ v4.lt hS4).trans v4;have d0:=v1.c0;have d1:=v1.frozen 0;have E2:aM b4 w1 (w1.setCell ⟨b4,0,none⟩ (.int .i64 FIN.2)):=(aM.refl _ w1).setCell (p:=⟨b4,0,none⟩) rfl _;have v2:VB (w1.setCell ⟨b4,0,none⟩ (.int .i64 FIN.2)) b4 3 #[.int .i64 FIN.2]:=v1.bC 0 _;have Ff:=hT.k1 hK4 hS4 E2;have x2:=(x1.widen (T:=λz=>S z∨z=b4) (λz _ h=> .inl h)).trans (bG.aZ (S:=λz=>z=b4) E2 rfl) (λz _ e=> .inr e);clear hcall;go_wp2_with fail
 first|rw[ayo]|skip
 refine bodyPost_end (results_none rfl _ _ _) rfl ?_;exact⟨rfl,x2,v2,bs,bs',Ff⟩
theorem MJ(p:Int)(n:Nat)(rows:List (List aG))(A:Option Addr)(c:Nat)(w:World)(hF:av p=true)(h:bW iX w A rows)(hw:aQ n rows)(hg:iB p 512 rows)(hn:n<=12)(hR:rows.length<=24):
 Calls prog 86 #[.int .i64 p,.slice A rows.length c,.int .i64 n] w λe w'=>∃A' c',e=.returned (.slice A' ((au p).lJ n rows).length c')/\j_ w' A' ((au p).lJ n rows)/\Ex w w':=by
 have HF:=axj hF;have HW:=axj hw;have HGd:=axj (show∀c,c<=n->iB p 17179869184 (jN (au p) ((au p).beside rows) c).1 from λc hc=>(jw hF (by omega) (Jb hF (by omega) hg) (iJ hw) (R:=12) (.inl hn) (by omega) c hc).mono (by unfold jg;omega));have x0:=((aCQ w).alloc (.cells #[.int .i64 p] 3)).alloc (.cells #[.int .i64 n] 3);have v0:=(VB.new w 3 #[.int .i64 p]).ex ((aCQ _).alloc (.cells #[.int .i64 n] 3));have v1:=VB.new (w.alloc (.cells #[.int .i64 p] 3)) 3 #[.int .i64 n];have s0:((w.alloc (.cells #[.int .i64 p] 3)).alloc (.cells #[.int .i64 n] 3)).heap.size=w.heap.size+2:=by simp
 rw[show(w.alloc (.cells #[.int .i64 p] 3)).heap.size=w.heap.size+1 by simp]at v1;clear hF hw hg;go_enter Tryz.func86,Tryz.ntmps86
 go_wp2_with fail
 generalize(w.alloc (.cells #[.int .i64 p] 3)).alloc (.cells #[.int .i64 n] 3)=W0 at*;refine(FO A c rows W0 (h.ex x0)).mono ?_;rintro e w1 ⟨v,rfl,⟨hnn,hge⟩,x1⟩;obtain⟨G,cG,ev,hcG,hcm⟩:=hge.form hnn;subst ev;clear hnn;have hz1:=x1.size;obtain⟨m,hm⟩:=xq rows.length;have Hm:=axj hm;rw[hm]at hge hcG hR⊢;clear hm h;go_wp2_with fail
 obtain⟨y1,vE⟩:=VB.xn w1 54 #[];have t1:(w1.alloc (.cells #[] 54)).heap.size=w1.heap.size+1:=by simp
 generalize w1.alloc (.cells #[] 54)=V1 at*;obtain⟨y2,vN⟩:=VB.xn V1 26 #[.slice (some ⟨G,0,none⟩) m cG];have t2:(V1.alloc (.cells #[.slice (some ⟨G,0,none⟩) m cG] 26)).heap.size=w1.heap.size+1+1:=by simp;exact t1
 rw[t1]at vN;generalize V1.alloc (.cells #[.slice (some ⟨G,0,none⟩) m cG] 26)=V2 at*;obtain⟨y3,vO⟩:=VB.xn V2 26 #[.slice (some ⟨w1.heap.size,0,none⟩) 0 0];have t3:(V2.alloc (.cells #[.slice (some ⟨w1.heap.size,0,none⟩) 0 0] 26)).heap.size=w1.heap.size+1+1+1:=by simp;exact t2
 rw[t2]at vO;generalize V2.alloc (.cells #[.slice (some ⟨w1.heap.size,0,none⟩) 0 0] 26)=V3 at*;have vE:=(vE.ex y2).ex y3;have vN:=vN.ex y3;have y13:=(y1.trans y2).trans y3;clear y1 y2 y3 t1 t2;go_loopw [16] (λi wr=>∃(k:Nat) (v:Value),k<=m/\i=.int .i64 k/\VB wr (w1.heap.size+1+1) 26 #[v]/\(((range k).map (gY m)=[]/\∃ad,v=.slice (some ad) 0 0/\ad=⟨w1.heap.size,0,none⟩)∨GE Pn 54 wr (w1.heap.size+1+1+1) wr.heap.size v ((range k).map (gY m)))/\v≠.slice none 0 0/\VB wr w1.heap.size 54 #[]/\VB wr (w1.heap.size+1) 26 #[.slice (some ⟨G,0,none⟩) m cG]/\w1.heap.size+1+1+1<=wr.heap.size/\Ex w1 wr) (λi _=>m-(intOf i).toNat)
 case atStart=>exact⟨0,_,axq _,rfl,vO,.inl ⟨rfl,_,rfl,rfl⟩,by simp,vE,vN,by omega,y13⟩
 case round=>
  rename World=>wi;clear vE vN vO y13 t3;obtain⟨k,v,hk,rfl,vO,hG,hnn,vE,vN,hsz,he⟩:=hrel;by_cases hlt:k<m
  .have HT:=axj (ab9 (gY m) k);obtain⟨v1',v2',UI,ev⟩:∃A n c,v=.slice A n c:=by
    rcases hG with⟨_,ad,e,_⟩|hG
    .exact⟨_,_,_,e⟩
    .obtain⟨A,c,e⟩:=hG.kH;exact⟨_,_,_,e⟩
   have k0:=vO.c0;subst ev;have agh:m<=1000:=by omega
   go_wp2_with fail
   go_region_law (first
    |(go_simp
      go_at_call 66
      refine(PY m k hlt agh _).mono ?_;rintro e w2 ⟨v0,rfl,hu,x2'⟩;obtain⟨gu,cu,eu,_,_⟩:=hu.2.form hu.1;subst eu;have x2:Ex wi w2:=(aCQ wi).drew.trans x2';have hz2:=x2.size;have vO2:=vO.ex x2;have l0:=vO2.c0;obtain⟨v5,w5,hrun,Ry,hn5,hk5,Be⟩:=Vf (w:=w2) (B:=w1.heap.size+1+1+1) (H:=wi.heap.size) (hG.elim (λh=> .inl ⟨h.1,by obtain⟨_,ad,e,_⟩:=h;exact⟨ad,e⟩⟩) (λh=> .inr (h.ex x2))) hz2 hu (axk _) hz2 (axk _) hsz (by rw[axs,ayC];omega);rw[<-HT.out]at Ry;obtain⟨A5,c5,e5⟩:=Ry.kH;subst e5;rw[axs,ayC]at Ry hn5 hrun;have x5:=Be w1 (he.trans x2) (by omega);have l1:=(vO2.ex ((aCQ w2).alloc (.cells #[.slice (some ⟨gu,0,none⟩) (gY m k).length cu] 54))).c0;have vO5:VB w5 (w1.heap.size+1+1) 26 #[.slice v1' v2' UI]:=(hk5 _ (by omega)).trans vO2;have l5:=vO5.c0;have f5:=vO5.frozen 0)
    |(refine aH rfl _ _ _ rfl rfl rfl hrun ?_))
   all_goals
    have e6:aM (w1.heap.size+1+1) w5 (w5.setCell ⟨w1.heap.size+1+1,0,none⟩ (.slice A5 (k+1) c5)):=(aM.refl _ w5).setCell (p:=⟨w1.heap.size+1+1,0,none⟩) rfl _;have vO6:VB (w5.setCell ⟨w1.heap.size+1+1,0,none⟩ (.slice A5 (k+1) c5)) (w1.heap.size+1+1) 26 #[.slice A5 (k+1) c5]:=vO5.bC 0 _;have vE6:=VB.aK (vE.ex x2 |> λh=>(show VB w5 w1.heap.size 54 #[]from(hk5 _ (by omega)).trans h)) e6 (by omega);have vN6:=VB.aK (vN.ex x2 |> λh=>(show VB w5 (w1.heap.size+1) 26 #[.slice (some ⟨G,0,none⟩) m cG]from(hk5 _ (by omega)).trans h)) e6 (by omega);have PD:=(Ry.k1 e6 (by omega)).more (axk _) (H':=(w5.setCell ⟨w1.heap.size+1+1,0,none⟩ (.slice A5 (k+1) c5)).heap.size) (by simp);have x6:=x5.aK e6 (by omega);have VW:=e6.size;have hz5:=x5.size;have atq:=x2.size;have agi:=vO5.lt;clear k0 hrun Ry Be vO5 l0 l1 l5 f5 vO2 hu hG vE vN vO;go_wp2_with fail
    go_roundw;case rel=>exact⟨k+1,_,by omega,by go_num,vO6,.inr PD,hn5,vE6,vN6,by omega,x6⟩
    case measure=>simp[intOf];omega
  .obtain rfl:m=k:=by omega
   obtain⟨B',H',hge',hb1,hb2,hb3⟩:∃B' H',GE Pn 54 wi B' H' v ((range m).map (gY m))/\w1.heap.size<=B'/\(H'<=w1.heap.size+1∨w1.heap.size+1+1+1<=B')/\H'<=wi.heap.size:=by
    rcases hG with⟨h0,ad,e,e2⟩|hG
    .subst e2;subst e;refine⟨w1.heap.size,w1.heap.size+1,?_,axk _,.inl (axk _),by omega⟩;rw[h0];exact⟨λk e=>by injection e with e;subst e;exact⟨axk _,ayf _⟩,[],λ_=>0,λ_=>0,rfl,⟨by simp,.inr ⟨w1.heap.size,0,#[],rfl,axk _,vE,axk _,axq _,by simp,by simp⟩⟩,(λj r hj=>by simp at hj),(λi j hi=>by simp at hi)⟩
    .exact⟨_,_,hG,by omega,.inr (axk _),axk _⟩
   obtain⟨G',Xm,ev,hc',hcm'⟩:=hge'.form hnn;rw[axs,ayC]at ev hc';subst ev;obtain⟨y4,vR⟩:=VB.xn wi 3 #[.int .i64 0];have t4:(wi.alloc (.cells #[.int .i64 0] 3)).heap.size=wi.heap.size+1:=by simp
   clear hG hnn;go_wp2_with fail
   generalize wi.alloc (.cells #[.int .i64 0] 3)=V4 at*;have v0:=((v0.ex x1).ex he).ex y4;have v1:=((v1.ex x1).ex he).ex y4;have vN:=vN.ex y4;have vO:=vO.ex y4;have hz5:=he.size;obtain⟨S,bs,bs',hT,hSb⟩:=bV.afG (K:=λz=>z=wi.heap.size) (Z:=(au p).beside rows) (hge.ex (he.trans y4)) HW.out (hge'.ex y4) (λv hv=>by
    obtain⟨i,_,rfl⟩:=axr.1 hv;exact Ak m i) (OQ HW.out) (by rw[OT HW.out,Hm.out];rfl) hb1 (λz hz=>by omega) (by omega)
   have hS5:∀z,S z∨z=wi.heap.size->w.heap.size<=z/\z<V4.heap.size:=λz hz=>by
    have:=hge'.own;rcases hz with hz|hz
    .rcases hSb z hz with h|h<;>omega
    .omega
   have hSn:¬S wi.heap.size:=λh=>by rcases hSb _ h with h|h<;>omega
   have hSN:¬S V4.heap.size:=λh=>by have:=hS5 _ (.inl h);omega
   have hSo:¬S (w1.heap.size+1+1):=λh=>by rcases hSb _ h with h|h<;>omega
   have Ru:((au p).beside rows).length=m:=by rw[oq,Hm.out]
   have hfl:=oV (au p) n 0 0 ((au p).beside rows);have hfs:=C_ (au p) n 0 0 ((au p).beside rows) (axq _);rw[Ru]at hfl hfs;have hke:(au p).lJ n rows=(((au p).red n 0 0 ((au p).beside rows)).1.map (List.drop n)).drop ((au p).red n 0 0 ((au p).beside rows)).2:=by unfold Ops.lJ;rw[ayT]
   have hcall:=SF 121 (enters_of Tryz.func121 (by kernel_rfl) rfl) #[.pointer (some ⟨w.heap.size,0,none⟩),.pointer (some ⟨w1.heap.size+1,0,none⟩),.pointer (some ⟨w.heap.size+1,0,none⟩),.pointer (some ⟨w1.heap.size+1+1,0,none⟩),.pointer (some ⟨wi.heap.size,0,none⟩)] V4 (λz=>S z∨z=wi.heap.size)
    (λW=>VB W wi.heap.size 3 #[.int .i64 ((au p).red n 0 0 ((au p).beside rows)).2]/\∃bs bs',bV W S (λz=>z=wi.heap.size∨z=V4.heap.size) G G' bs bs' ((au p).red n 0 0 ((au p).beside rows)).1 n m) (λz hz=>(hS5 z hz).2) (λW hW hsz=>by
     have hTW:=hT.aef (K':=λz=>z=wi.heap.size∨z=V4.heap.size) hW (λz hz=>by
      rcases hz with hz|hz
      .exact .inl hz
      .exact .inr (by omega))
     refine(Vb p S _ G G' bs bs' ((au p).beside rows) n m m cG Xm w.heap.size (w1.heap.size+1) (w.heap.size+1) (w1.heap.size+1+1) wi.heap.size W HF.out hTW (by have:=iJ (O:=au p) HW.out;rwa[Hm.out]at this) HGd.out Ru (by omega) (by omega) (by omega) hcG hcm ((v0.ex hW).c0) ((vN.ex hW).c0) ((v1.ex hW).c0) ((vO.ex hW).c0) (vR.ex hW) hSn (.inl rfl)).mono ?_;rintro e W' ⟨rfl,a1,a2,a3⟩;exact⟨rfl,a1,a2,a3⟩) (λW W' hq he=>by
     obtain⟨q1,bs1,ag6,q2⟩:=hq;exact⟨q1.aK he (by omega),bs1,ag6,q2.k1 (.inr rfl) hSN he⟩)
   have x4:=((x0.trans x1).trans he).trans y4;clear hT v0 v1 vN vR hge hge' vE;generalize(au p).red n 0 0 ((au p).beside rows)=FIN at*;refine hcall.mono ?_;rintro e w5 ⟨rfl,x5,v5,bs5,aoS,Gs⟩;have vO5:VB w5 (w1.heap.size+1+1) 26 #[.slice (some ⟨G',0,none⟩) m Xm]:=(x5.block _ vO.lt (λh=>by
    rcases h with h|h
    .exact hSo h
    .omega)).trans vO
   have d0:=vO5.c0;have d1:=v5.c0;have x5w:Ex w w5:=x4.sx x5 (λz hz=>(hS5 z hz).1);have hsl:=λW=>UZ (A:=some ⟨G',0,none⟩) hfs hc' W
   have hkl:((au p).lJ n rows).length=m-FIN.2:=by rw[hke,axF,axs,hfl]
   have hfin:j_ w5 (if Xm=FIN.2 then some ⟨G',0,none⟩else(some (⟨G',0,none⟩:Addr)).map (λa=>a.add (FIN.2*1))) ((au p).lJ n rows):=by
    rw[hke];by_cases e:FIN.2=m
    .rw[ay0 (by rw[axs,hfl];omega)];exact j_.nil _ _
    .have:=Gs.a.Da (by rw[axs,hfl];omega) (by omega) FIN.2;rw[axm (by omega)];have e2:(some (⟨G',0,none⟩:Addr)).map (λa=>a.add (FIN.2*1))=some ⟨G',FIN.2,none⟩:=by
      rw[ayP,ays];unfold Addr.add;split<;>simp_all
     rw[e2];exact this
   have ahh:=axj hfin;have Hkl:=axj hkl;generalize(if Xm=FIN.2 then some ⟨G',0,none⟩else(some (⟨G',0,none⟩:Addr)).map (λa=>a.add (FIN.2*1)))=PP at*;obtain⟨f,hf⟩:=xq FIN.2;rw[hf]at d1 hsl Hkl;clear hcall Gs hfin hkl hke hfl v5 hf;go_wp2_with fail
   go_ret;rw[Hkl.out];exact⟨_,_,rfl,ahh.out,x5w⟩
end Go.Proofs.YthgiffhlfcmgaaaGreatDoor
