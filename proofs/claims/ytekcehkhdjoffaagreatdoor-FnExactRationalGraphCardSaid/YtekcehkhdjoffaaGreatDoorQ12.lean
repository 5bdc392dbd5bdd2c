/- Lemmas and walks on terms over rational functions: RatRelationFrom: the plain answer; the .. -/
import Derived.Test.YtekcehkhdjoffaaGreatDoorQ11
import Derived.Test.YtekcehkhdjoffaaGreatDoorQ10
namespace Go.Proofs.YtekcehkhdjoffaaGreatDoor
open List(range)
open List(replicate)
open _root_.Go.Proofs.Tryz(prog)
set_option maxRecDepth 100000
set_option maxHeartbeats 8000000
set_option linter.all false
open Go Go.RowKit
variable{k p v x:Int}{b:List (List aF)}{L c g l m n:Nat}{A:Option Addr}{K:Type}{w:World}
theorem wo.nil(w:World)(A:Option Addr):wo w A []:=⟨⟨by simp,λj x hj=>by simp at hj⟩,λj r hj=>by simp at hj⟩
theorem Us(S:Nat->Prop)(p:Int)(l r:Nat)(rows:List (List aF))(A:Option Addr)(c:Nat)(w:World)(hF:aj p=true)(h:jo S w A rows)(hS:∀k,S k->k<w.heap.size)(hw:aZ (l+r) rows)(sJ:∀c,c<=l+r->iK p 17179869184 (gJ (ah p) rows c).1)(hn:l+r<=1000)(hR:rows.length<=1000):
 Calls prog 20 #[.int .i64 p,.int .i64 l,.int .i64 r,.slice A rows.length c] w λe w'=>∃A' c',e=.returned (.agg #[.int .i64 l,.int .i64 r,.slice A' ((ah p).aB (l+r) rows).length c'])/\(∀w2,bn (λk=>k<w.heap.size) w' w2->wo w2 A' ((ah p).aB (l+r) rows))/\Ex w w':=by
 have hwr:IntKind.i64.wrap ((l:Int)+(r:Int))=((l+r:Nat):Int):=by rw[ant _ (by omega)];omega
 obtain⟨x0,d0⟩:=VB.xn w 29 #[.int .i64 0,.int .i64 0,.slice none 0 0];have cR:=wF (λk=>S k∨k=w.heap.size) p (l+r) rows A c (w.alloc (.cells #[.int .i64 0,.int .i64 0,.slice none 0 0] 29)) hF (h.ex x0 (λk e=>e.elim .inl (λe=> .inr (aoh e.symm)))) (λk e=>by
  have:=d0.lt;exact e.elim (λe=>by have:=hS k e;omega) (λe=>by omega)) hw sJ hn hR
 clear hF h hw sJ hR hS;generalize(ah p).aB (l+r) rows=RR at*;obtain⟨N,hN⟩:=xq (l+r);rw[hN]at hwr cR;clear hN hn;go_enter Tryz.func20,Tryz.ntmps20
 go_wp2_with fail
 have hs0:(w.alloc (.cells #[.int .i64 0,.int .i64 0,.slice none 0 0] 29)).heap.size=w.heap.size+1:=by simp
 generalize w.alloc (.cells #[.int .i64 0,.int .i64 0,.slice none 0 0] 29)=W0 at*;refine cR.mono ?_;rintro e w1 ⟨A1,c1,rfl,r1,x1⟩;have dz:=d0.ex x1;have xz:=x0.trans x1;obtain⟨dd,zz⟩:=dz.ru (.int .i64 l) (.int .i64 r) (.slice A1 RR.length c1);obtain⟨u0,u1,u2⟩:=dz.d3;obtain⟨k0,k1,k2⟩:=dz.z3;obtain⟨C0,C1,C2⟩:=dd.d3;have eF:=xz.aM zz (amX _);have hlt:=d0.lt;have rr:∀w2,bn (λk=>k<w.heap.size) _ w2->wo w2 A1 RR:=λw2 k=>r1 w2 ((bn.a_ (S:=λk=>k<W0.heap.size) zz (by rw[hs0];omega)).trans k (λi _ e=>by show i<W0.heap.size;rw[hs0];have e:i<w.heap.size:=e;omega))
 clear cR;go_wp2_with fail
 refine ane (v:=.agg #[.int .i64 l,.int .i64 r,.slice A1 RR.length c1]) (by simp[results,Tryz.results20,go_sem,C0,C1,C2]) rfl ?_;exact⟨A1,c1,rfl,rr,eF⟩
theorem Ut(S:Nat->Prop)(p:Int)(l r:Nat)(rows:List (List aF))(A:Option Addr)(c:Nat)(w:World)(hF:aj p=true)(h:jo S w A rows)(hS:∀k,S k->k<w.heap.size)(hw:aZ (l+r) rows)(sJ:∀c,c<=l+r->iK p 17179869184 (gJ (ah p) rows c).1)(hn:l+r<=1000)(hR:rows.length<=1000):
 Calls prog 20 #[.int .i64 p,.int .i64 l,.int .i64 r,.slice A rows.length c] w λe w'=>∃A' c',e=.returned (.agg #[.int .i64 l,.int .i64 r,.slice A' ((ah p).aB (l+r) rows).length c'])/\(∀w2,bn S w' w2->wo w2 A' ((ah p).aB (l+r) rows))/\Ex w w':=by
 refine(Us S p l r rows A c w hF h hS hw sJ hn hR).mono ?_;rintro e w' ⟨A',c',rfl,hR,x⟩;exact⟨A',c',rfl,λw2 hw2=>hR w2 (hw2.widen λk _ hk=>hS k hk),x⟩
theorem XE(S:Nat->Prop)(p:Int)(l r:Nat)(rows:List (List aF))(A:Option Addr)(c:Nat)(w:World)(hF:aj p=true)(h:jo S w A rows)(hS:∀k,S k->k<w.heap.size)(hw:aZ (l+r) rows)(sJ:∀c,c<=l+r->iK p 17179869184 (gJ (ah p) rows c).1)(hn:l+r<=1000)(hR:rows.length<=1000):
 Calls prog 20 #[.int .i64 p,.int .i64 l,.int .i64 r,.slice A rows.length c] w λe w'=>∃A' c',e=.returned (.agg #[.int .i64 l,.int .i64 r,.slice A' ((ah p).aB (l+r) rows).length c'])/\(∀w2,bn S w' w2->gm iE w2 A' ((ah p).aB (l+r) rows))/\Ex w w':=by
 refine(Ut S p l r rows A c w hF h hS hw sJ hn hR).mono ?_;rintro e w' ⟨A',c',rfl,hR,x⟩;exact⟨A',c',rfl,λw2 hw2=>(hR w2 hw2).1,x⟩
theorem Ul{r:List aF}(h:jH p L r):pz r<=2*L*r.length:=by
 induction r with
 |nil=>exact Int.le_refl _
 |cons x r ih=>
  have h1:=ih λy hy=>h y (apa _ hy)
  have h2:pz (x::r)=EF.tot x+pz r:=kG EF x r;have h3:=(h x apb).2;have h4:EF.tot x=(x.n.length:Int)+(x.d.length:Int):=rfl;have h5:=h3.1;have h6:=h3.2;rw[h2,h4,anJ];have:((2*L*(r.length+1):Nat):Int)=2*L*r.length+2*L:=by rw[Nat.mul_add];push_cast;omega
  push_cast at this⊢
  omega
theorem OZ(h:iK p L b)(hw:aZ n b):fF b<=2*L*n*b.length:=by
 induction b with
 |nil=>exact Int.le_refl _
 |cons r b ih=>
  have h1:=ih (λy hy=>h y (apa _ hy)) (λy hy=>hw y (apa _ hy));have h2:fF (r::b)=pz r+fF b:=kG iE _ _;have h3:=Ul (h r apb);rw[hw r apb]at h3;rw[h2,anJ];have:((2*L*n*(b.length+1):Nat):Int)=2*L*n*b.length+2*L*n:=by rw[Nat.mul_add];push_cast;omega
  push_cast at this⊢
  omega
theorem J6{x:iJ}(h:PO p x=true):fF x.b<=1000000:=by
 obtain⟨l,r,_,_,hlr,hg,hw,_,hb,_⟩:=Uu h;have h1:=OZ hg hw;have h2:((2*21*(l+r)*x.b.length:Nat):Int)<=((2*21*12*12:Nat):Int):=by
  have:=Nat.mul_le_mul (Nat.mul_le_mul (amX (2*21)) hlr) hb
  exact_mod_cast this
 push_cast at h1 h2
 omega
theorem U2(p:Int)(x:iJ):fF (Yc p x).1.b<=1125899906842624:=by
 cases h:PO p x with
 |true=>rw[KF h];have:=J6 h;show fF x.b<=_;omega
 |false=>rw[Rh h];show(0:Int)<=_;omega
def Qg(b:Bool)(u v:Value):Value:=if b=true then u else v
def Ou(p l r:Int)(b:List (List aF)):Bool:=jW l r&&(dO p (l+r).toNat b&&aj p)
theorem EW{l r:Int}{rows:List (List aF)}(hF:aj p=true)(hg:∀v∈rows,∀x∈v,FV p x)(hw:aZ (l+r).toNat rows):PO p ⟨l,r,(ah p).aB (l+r).toNat rows⟩=Ou p l r ((ah p).aB (l+r).toNat rows):=by have hR:=(LY hF hg hw).1;rw[an3,xU];unfold Ou;rw[anx,anx];exact⟨λh=>⟨h.2.1,h.2.2.1,hF⟩,λh=>⟨hF,h.1,h.2.1,hR⟩⟩
theorem x_(w:World)(a b:Nat):OFF w a b (.slice none 0 0) []:=⟨⟨none,0,λ_=>False,rfl,λk hk=>hk.elim,OX.nil _ _ _ _ _⟩,by show(0:Int)<=_;omega⟩
theorem rz(p:Int)(l r:Nat)(rows:List (List aF))(A:Option Addr)(c:Nat)(w:World)(hF:aj p=true)(h:gm iE w A rows)(hw:aZ (l+r) rows)(sJ:∀c,c<=l+r->iK p 17179869184 (gJ (ah p) rows c).1)(hn:l+r<=1000)(hR:rows.length<=1000):
 Calls prog 29 #[.int .i64 p,.int .i64 l,.int .i64 r,.slice A rows.length c] w λe w'=>∃y,e=.returned (.agg #[.int .i64 l,.int .i64 r,y])/\rV w' w.heap.size w'.heap.size y ((ah p).aB (l+r) rows)/\Ex w w':=by
 have hwr:IntKind.i64.wrap ((l:Int)+(r:Int))=((l+r:Nat):Int):=by rw[ant _ (by omega)];omega
 obtain⟨x0,d0⟩:=VB.xn w 29 #[.int .i64 0,.int .i64 0,.slice none 0 0];have cR:=Dr p (l+r) rows A c (w.alloc (.cells #[.int .i64 0,.int .i64 0,.slice none 0 0] 29)) hF (h.ex x0) hw sJ hn hR;have hrl:((ah p).aB (l+r) rows).length<=1000:=by unfold Ops.aB;rw[am8,nO];omega
 clear hF h hw sJ hR;generalize(ah p).aB (l+r) rows=RR at*;obtain⟨N,hN⟩:=xq (l+r);rw[hN]at hwr cR hn;clear hN;go_enter Tryz.func29,Tryz.ntmps29
 go_wp2_with fail
 generalize w.alloc (.cells #[.int .i64 0,.int .i64 0,.slice none 0 0] 29)=W0 at*;refine cR.mono ?_;rintro e w1 ⟨v,rfl,o,x1⟩;have fx:rV w1 W0.heap.size w1.heap.size v RR:=o.ofx (by omega) (by omega);obtain⟨A1,c1,rfl,_⟩:=fx.rd;have hlt:=d0.lt;clear cR o;have dz:=d0.ex x1;have xz:=x0.trans x1;obtain⟨dd,zz⟩:=dz.ru (.int .i64 l) (.int .i64 r) (.slice A1 RR.length c1);obtain⟨u0,u1,u2⟩:=dz.d3;obtain⟨k0,k1,k2⟩:=dz.z3;obtain⟨C0,C1,C2⟩:=dd.d3;have eF:=xz.aM zz (amX _);have YU:=fx.iv (fD.a_ zz) (by omega);have fx3:=YU.more (a':=w.heap.size) (b':=w1.heap.size) (by omega) (amX _);go_wp2_with fail
 refine ane (v:=.agg #[.int .i64 l,.int .i64 r,.slice A1 RR.length c1]) (by simp[results,Tryz.results29,go_sem,C0,C1,C2]) rfl ?_;exact⟨_,rfl,fx3.more (amX _) (aoh (by simp)),eF⟩
theorem Io(p:Int)(x:iJ)(A:Option Addr)(c:Nat)(w:World)(h:gm iE w A x.b)(ht:Tb w):
 Calls prog 28 #[.int .i64 p,.agg #[.int .i64 x.l,.int .i64 x.r,.slice A x.b.length c]] w λe w'=>e=.returned (.tuple #[Qg (Ou p x.l x.r x.b) (.agg #[.int .i64 x.l,.int .i64 x.r,.slice A x.b.length c]) (.agg #[.int .i64 0,.int .i64 0,.slice none 0 0]),.bool (Ou p x.l x.r x.b)])/\Ex w w':=by
 obtain⟨l,r,rows⟩:=x;dsimp only at h⊢;have hl:=h.1;obtain⟨y0,d0⟩:=VB.xn w 29 #[.int .i64 l,.int .i64 r,.slice A rows.length c];have S0:=amW (show(w.alloc (.cells #[.int .i64 l,.int .i64 r,.slice A rows.length c] 29)).heap.size=w.heap.size+1 by simp);cases hfit:jW l r with
 |false=>
  have HV:=amW (show Ou p l r rows=false by unfold Ou;rw[hfit];rfl);have c1:∀W,Calls prog 24 #[.int .i64 l,.int .i64 r] W λe w'=>e=.returned (.bool false)/\W=w':=λW=>by have:=vo l r W;rw[hfit]at this;exact this
  clear hfit;go_enter Tryz.func28,Tryz.ntmps28
  go_wp2_with fail
  generalize w.alloc (.cells #[.int .i64 l,.int .i64 r,.slice A rows.length c] 29)=W0 at*;obtain⟨y2,d2⟩:=VB.xn W0 29 #[.int .i64 0,.int .i64 0,.slice none 0 0];rw[S0.out]at d2;generalize W0.alloc (.cells #[.int .i64 0,.int .i64 0,.slice none 0 0] 29)=W2 at*;have xx:=y0.trans y2;have q:=d0.ex y2;clear y0 y2;obtain⟨q0,q1⟩:=q.d2;refine(c1 _).mono ?_;rintro e w3 ⟨rfl,rfl⟩;have dz:=d2;have xz:=xx;obtain⟨dd,zz⟩:=dz.ru (.int .i64 0) (.int .i64 0) (.slice none 0 0);obtain⟨u0,u1,u2⟩:=dz.d3;obtain⟨k0,k1,k2⟩:=dz.z3;obtain⟨C0,C1,C2⟩:=dd.d3;have eF:=xz.aM zz (by omega);go_wp2_with fail
  refine ane (v:=.tuple #[.agg #[.int .i64 0,.int .i64 0,.slice none 0 0],.bool false]) (by simp[results,Tryz.results28,go_sem,C0,C1,C2]) rfl ?_;rw[HV.out];exact⟨rfl,eF⟩
 |true=>
  have hlr:=DZ hfit;obtain⟨N,hN⟩:∃N:Nat,(l+r).toNat=N:=⟨_,rfl⟩;have hwr:IntKind.i64.wrap (l+r)=(N:Int):=by rw[ant _ (by omega)];omega
  have akJ:N<=12:=by omega
  have HVB:=amW (show Ou p l r rows=(dO p N rows&&aj p) by unfold Ou;rw[hfit,hN];rfl);have c1:∀W,Calls prog 24 #[.int .i64 l,.int .i64 r] W λe w'=>e=.returned (.bool true)/\W=w':=λW=>by have:=vo l r W;rw[hfit]at this;exact this
  have c2:=λW (hW:Ex w W)=>Ob p N A c rows W (h.ex hW) (by omega) (ht.ex hW)
  clear hfit hlr hN;cases hok:(dO p N rows&&aj p)with
  |false=>
   have HV:=amW (HVB.out.trans hok);rw[hok]at c2;clear hok;go_enter Tryz.func28,Tryz.ntmps28
   go_wp2_with fail
   generalize w.alloc (.cells #[.int .i64 l,.int .i64 r,.slice A rows.length c] 29)=W0 at*;obtain⟨y2,d2⟩:=VB.xn W0 29 #[.int .i64 0,.int .i64 0,.slice none 0 0];rw[S0.out]at d2;generalize W0.alloc (.cells #[.int .i64 0,.int .i64 0,.slice none 0 0] 29)=W2 at*;have xx:=y0.trans y2;have q:=d0.ex y2;clear y0 y2;obtain⟨q0,q1,q2⟩:=q.d3;refine(c1 _).mono ?_;rintro e w3 ⟨rfl,rfl⟩;go_wp2_with fail
   refine(c2 W2 xx).mono ?_;rintro e w4 ⟨rfl,x4⟩;clear hwr;have dz:=d2.ex x4;have xz:=xx.trans x4;obtain⟨dd,zz⟩:=dz.ru (.int .i64 0) (.int .i64 0) (.slice none 0 0);obtain⟨u0,u1,u2⟩:=dz.d3;obtain⟨k0,k1,k2⟩:=dz.z3;obtain⟨C0,C1,C2⟩:=dd.d3;have eF:=xz.aM zz (by omega);go_wp2_with fail
   refine ane (v:=.tuple #[.agg #[.int .i64 0,.int .i64 0,.slice none 0 0],.bool false]) (by simp[results,Tryz.results28,go_sem,C0,C1,C2]) rfl ?_;rw[HV.out];exact⟨rfl,eF⟩
  |true=>
   have HV:=amW (HVB.out.trans hok);rw[hok]at c2;clear hok;go_enter Tryz.func28,Tryz.ntmps28
   go_wp2_with fail
   generalize w.alloc (.cells #[.int .i64 l,.int .i64 r,.slice A rows.length c] 29)=W0 at*;obtain⟨y2,d2⟩:=VB.xn W0 29 #[.int .i64 0,.int .i64 0,.slice none 0 0];rw[S0.out]at d2;generalize W0.alloc (.cells #[.int .i64 0,.int .i64 0,.slice none 0 0] 29)=W2 at*;have xx:=y0.trans y2;have q:=d0.ex y2;clear y0 y2;obtain⟨q0,q1,q2⟩:=q.d3;refine(c1 _).mono ?_;rintro e w3 ⟨rfl,rfl⟩;go_wp2_with fail
   refine(c2 W2 xx).mono ?_;rintro e w4 ⟨rfl,x4⟩;clear hwr;replace q0:=af x4 q0;replace q1:=af x4 q1;replace q2:=af x4 q2;have dz:=d2.ex x4;have xz:=xx.trans x4;obtain⟨dd,zz⟩:=dz.ru (.int .i64 l) (.int .i64 r) (.slice A rows.length c);obtain⟨u0,u1,u2⟩:=dz.d3;obtain⟨k0,k1,k2⟩:=dz.z3;obtain⟨C0,C1,C2⟩:=dd.d3;have eF:=xz.aM zz (by omega);go_wp2_with fail
   refine ane (v:=.tuple #[.agg #[.int .i64 l,.int .i64 r,.slice A rows.length c],.bool true]) (by simp[results,Tryz.results28,go_sem,C0,C1,C2]) rfl ?_;rw[HV.out];exact⟨rfl,eF⟩
def nA(l:Nat)(b:List (List aF)):List (List aF):=b.map λr=>r.drop l++r.take l
theorem JI{k:Nat}{r:List aF}(h:b[k]?=some r):(nA l b).take (k+1)=(nA l b).take k++[r.drop l++r.take l]:=by rw[am_,nA,am7,h];rfl
theorem Da{r:Nat}(h:aZ (l+r) b):aZ (r+l) (nA l b):=λv hv=>by obtain⟨u,hu,rfl⟩:=am3.1 hv;have:=h u hu;rw[am9,anp,am8];omega
theorem S_(h:iK p L b):iK p L (nA l b):=λv hv=>by obtain⟨u,hu,rfl⟩:=am3.1 hv;exact((h u hu).drop l).app ((h u hu).take l)
theorem UB(h:n<=12):21*4^n<=17179869184:=by have:4^n<=4^12:=Nat.pow_le_pow_right (by omega) h;omega
theorem GE.aau{W0:World}{S:Nat->Prop}{B H:Nat}{v:Value}{xs:List (List aF)}(h:GE (wC W0) 48 w B H v xs)(hl:xs.length<=1099511627776)(he:Ex W0 w)(hS:∀k,S k->W0.heap.size<=k/\k<B):∃A c,v=.slice A xs.length c/\jo S w A xs:=by
 by_cases hv:v=.slice none 0 0
 .subst hv;have:=h.Na;subst this;exact⟨none,0,rfl,by simp,λj x hj=>by simp at hj⟩
 .obtain⟨g,c,rfl,hgc,_⟩:=h.form hv;obtain⟨cur,al,bl,_,hB,hH,hh,h1,h2⟩:=h.at_;refine⟨_,c,rfl,hl,λj r hj=>?_⟩;obtain⟨u,k1,⟨A,c2,k2,k3⟩,k4,_⟩:=h1 j r hj;subst k2;refine⟨g,0,A,c2,rfl,?_,λw2 hw2=>k3 w2 (he.sx hw2 λi hi=>(hS i hi).1) λk q1 _ q3=>hw2.block k q3 λe=>by have:=hS k e;omega⟩;have:=k1 0 _ rfl;rw[show(wC W0).k=1 from rfl,anY,anS]at this;rw[anE];exact dF hh this
theorem PU{Good:World->Prop}{B:Option Addr}{d:Nat}{xs ys:List aF}(hv:VB w g 48 #[.slice A n c,.slice B m d])(hx:jr Good w A xs)(hy:jr Good w B ys)(hn:xs.length=n)(hm:ys.length=m):AO Good w (some ⟨g,0,none⟩) [xs,ys]:=by
 subst hn hm;intro j r hj;rcases j with _|_|j
 .injection hj with hj;subst hj;exact⟨g,0,A,c,rfl,hv.c0,hx⟩
 .injection hj with hj;subst hj;exact⟨g,0,B,d,rfl,hv.c1,hy⟩
 .simp at hj
theorem Bz(p:Int)(l r:Nat)(b:List (List aF))(A:Option Addr)(c:Nat)(w:World)(h:wo w A b)(hb:b.length<=12)(hlr:l+r<=12)(hw:aZ (l+r) b)(h0:∀v∈b,0<v.length)(hF:aj p=true)(hg:iK p 21 b):
 Calls prog 92 #[.int .i64 p,.agg #[.int .i64 l,.int .i64 r,.slice A b.length c]] w λe w'=>∃y,e=.returned (.agg #[.int .i64 r,.int .i64 l,y])/\rV w' w.heap.size w'.heap.size y ((ah p).aB (r+l) (nA l b))/\Ex w w':=by
 have HW:=amW hw;have HF:=amW hF;have HG:=amW hg;have H0:=amW h0;have H:=amW h;have hl:=h.1.1;obtain⟨y0,d0⟩:=VB.xn w 29 #[.int .i64 l,.int .i64 r,.slice A b.length c];have S0:=amW (show(w.alloc (.cells #[.int .i64 l,.int .i64 r,.slice A b.length c] 29)).heap.size=w.heap.size+1 by simp);clear hw hF hg h0 h;go_enter Tryz.func92,Tryz.ntmps92
 go_wp2_with fail
 generalize w.alloc (.cells #[.int .i64 l,.int .i64 r,.slice A b.length c] 29)=W0 at*;obtain⟨y2,d2⟩:=VB.xn W0 29 #[.int .i64 0,.int .i64 0,.slice none 0 0];have S2:=amW (show(W0.alloc (.cells #[.int .i64 0,.int .i64 0,.slice none 0 0] 29)).heap.size=w.heap.size+1+1 by simp;exact S0.out);rw[S0.out]at d2;have q:=d0.ex y2;generalize W0.alloc (.cells #[.int .i64 0,.int .i64 0,.slice none 0 0] 29)=W2 at*;have xx:=y0.trans y2;clear y0 y2 d0;have wO:=GE.empty (wC w) 48 W2 (amX W2.heap.size);have he1:=(asF W2).alloc (.cells #[] 48);have hs1:(W2.alloc (.cells #[] 48)).heap.size=W2.heap.size+1:=by simp
 have q2:=(q.ex he1).c2;go_wp2_with fail
 go_loopw [5,12] (λo i wr=>∃k:Nat,k<=b.length/\i=.int .i64 k/\GE (wC w) 48 wr W2.heap.size wr.heap.size o ((nA l b).take k)/\Ex W2 wr) (λ_ i _=>b.length-(intOf i).toNat)
 case atStart=>exact⟨0,am4 _,rfl,by rw[hs1,<-S2.out];first|exact wO|simpa[S2.out]using wO,he1⟩
 case round=>
  rename World=>wi;clear wO he1 hs1 q2;obtain⟨k,hk,rfl,hge,he⟩:=hrel;have xw:=xx.trans he;have hzi:=he.size;by_cases hlt:k<b.length
  .obtain⟨g,off,row,P,pc,eA,hr,b0w,hpc,hP⟩:=H.out.at_ hlt;subst eA;have hm:=am1 hr;have hr0:=H0.out row hm;have hrl:=HW.out row hm;have HT:=amW (JI (l:=l) hr);obtain⟨g2,off2,y,_,_,_,_,eP,_⟩:=hP.ku hr0;subst eP;have b0:=af xw b0w;have q0:=(q.ex he).c0;have hdl:(row.drop l).length=row.length-l:=anp;have htl:(row.take l).length=l:=by rw[am8];omega
   have akp:((nA l b).take k).length<=k:=aoc _ _;have aj9:l<=pc:=by omega
   obtain⟨RL,hRL⟩:=xq row.length;rw[hRL]at b0 hpc hr0 hrl hdl;have aj_:l<=RL:=by omega
   have ahG:RL<=12:=by omega
   clear hr hm b0w hrl;by_cases hpl:pc-l=0
   .obtain rfl:l=pc:=by omega
    obtain rfl:l=RL:=by omega
    rw[an4]at hdl;clear hpl;have hPe:row.drop l=[]:=aou hdl;have QD:∀W,Ex w W->jr (λw2=>Ex w w2) W (some ⟨g2,off2,none⟩) (row.drop l):=λW _=>by rw[hPe];exact jr.nil _ _ _
    have QT:∀W,Ex w W->jr (λw2=>Ex w w2) W (some ⟨g2,off2,none⟩) (row.take l):=λW hW=>(jr.vK hP hW (λ_ h=>h)).tk l
    have x4:=((asF wi).alloc (.cells #[.slice (some ⟨g2,off2,none⟩) 0 0,.slice (some ⟨g2,off2,none⟩) l l] 48)).drew;have v4:VB (wi.alloc (.cells #[.slice (some ⟨g2,off2,none⟩) 0 0,.slice (some ⟨g2,off2,none⟩) l l] 48)).drew wi.heap.size 48 #[.slice (some ⟨g2,off2,none⟩) 0 0,.slice (some ⟨g2,off2,none⟩) l l]:=VB.new wi _ _;have cC:∀W,Ex wi W->VB W wi.heap.size 48 #[.slice (some ⟨g2,off2,none⟩) 0 0,.slice (some ⟨g2,off2,none⟩) l l]->Calls prog 126 #[.slice (some ⟨wi.heap.size,0,none⟩) 2 2] W λe w'=>∃A6 c6,e=.returned (.slice A6 l c6)/\kD (λw2=>Ex w w2) w' W.heap.size w'.heap.size (.slice A6 l c6) (row.drop l++row.take l)/\Ex W w':=λW hW hv=>by
     have hq:=GL (Good:=λw2=>Ex w w2) (some ⟨wi.heap.size,0,none⟩) 2 [row.drop l,row.take l] W (PU hv (QD _ (xw.trans hW)) (QT _ (xw.trans hW)) hdl htl) (by simp) (λr hr=>by
      rcases ani.1 hr with rfl|hr
      .rw[hdl];omega
      .rw[ank.1 hr,htl];omega)
     refine hq.mono ?_;rintro e w' ⟨v,rfl,rp,xx2⟩;have e2:([row.drop l,row.take l]:List (List aF)).flatten=row.drop l++row.take l:=by simp
     rw[e2]at rp;obtain⟨A6,c6,ev⟩:=rp.form;rw[show(row.drop l++row.take l).length=l by rw[am9,hdl,htl];omega]at ev;subst ev;exact⟨A6,c6,rfl,rp,xx2⟩
    have Zu:=amW (show(row.drop l++row.take l).length<=1099511627776 by rw[am9,hdl,htl];omega);have HS:∀W,Ex wi W->(W.cell? ⟨w.heap.size,0,none⟩=some (.int .i64 l)):=λW h=>af h q0
    clear QD QT hdl htl hRL;go_wp2_with fail
    go_region_held3 (λW=>W.cell? ⟨w.heap.size,0,none⟩=some (.int .i64 l)) (first
     |(exact HS7)|(exact HS _ (x6.alloc _))|(exact HS _ x6)|(exact HS _ x4)|(exact HS _ (asF _).drew)|(exact HS _ (asF _))|(exact HS _ ((asF _).alloc _))) (first
     |(go_at_call 126
       refine(cC _ x4 v4).mono ?_;rintro e w6 ⟨A6,c6,rfl,rp,Ot⟩;have x6:Ex wi w6:=x4.trans Ot;have Yg:=x6.size;have hz4:=x4.size;have Yf:=Ot.size;have hq:=rp.WV (W0:=w) Zu.out (λw2 h0 _=>h0);obtain⟨v7,w7,Gh,ge7,_,aeH,WO⟩:=iO (hge.ex x6) Yg hq hz4 Yf (amX _) hzi (by simp;omega);rw[<-HT.out]at ge7;have x7:=WO W2 (he.trans x6) (amX _);have HS7:=(q.ex x7).c0)
     |(refine b_ rfl _ _ _ rfl rfl rfl Gh ?_))
    all_goals
     clear HS HS7 Gh q0 WO rp hq cC v4 hge HT;go_wp2_with fail
     go_roundw;case rel=>exact⟨k+1,by omega,by go_num,ge7,x7⟩
     case measure=>simp[intOf];omega
   .have aa3:¬(pc=l):=by omega
    have QD:∀W,Ex w W->jr (λw2=>Ex w w2) W (some ⟨g2,off2+l*2,none⟩) (row.drop l):=λW hW=>(jr.vK hP hW (λ_ h=>h)).dp l
    have QT:∀W,Ex w W->jr (λw2=>Ex w w2) W (some ⟨g2,off2,none⟩) (row.take l):=λW hW=>(jr.vK hP hW (λ_ h=>h)).tk l
    have x4:=((asF wi).alloc (.cells #[.slice (some ⟨g2,off2+l*2,none⟩) (RL-l) (pc-l),.slice (some ⟨g2,off2,none⟩) l pc] 48)).drew;have v4:VB (wi.alloc (.cells #[.slice (some ⟨g2,off2+l*2,none⟩) (RL-l) (pc-l),.slice (some ⟨g2,off2,none⟩) l pc] 48)).drew wi.heap.size 48 #[.slice (some ⟨g2,off2+l*2,none⟩) (RL-l) (pc-l),.slice (some ⟨g2,off2,none⟩) l pc]:=VB.new wi _ _;have cC:∀W,Ex wi W->VB W wi.heap.size 48 #[.slice (some ⟨g2,off2+l*2,none⟩) (RL-l) (pc-l),.slice (some ⟨g2,off2,none⟩) l pc]->Calls prog 126 #[.slice (some ⟨wi.heap.size,0,none⟩) 2 2] W λe w'=>∃A6 c6,e=.returned (.slice A6 RL c6)/\kD (λw2=>Ex w w2) w' W.heap.size w'.heap.size (.slice A6 RL c6) (row.drop l++row.take l)/\Ex W w':=λW hW hv=>by
     have hq:=GL (Good:=λw2=>Ex w w2) (some ⟨wi.heap.size,0,none⟩) 2 [row.drop l,row.take l] W (PU hv (QD _ (xw.trans hW)) (QT _ (xw.trans hW)) hdl htl) (by simp) (λr hr=>by
      rcases ani.1 hr with rfl|hr
      .rw[hdl];omega
      .rw[ank.1 hr,htl];omega)
     refine hq.mono ?_;rintro e w' ⟨v,rfl,rp,xx2⟩;have e2:([row.drop l,row.take l]:List (List aF)).flatten=row.drop l++row.take l:=by simp
     rw[e2]at rp;obtain⟨A6,c6,ev⟩:=rp.form;rw[show(row.drop l++row.take l).length=RL by rw[am9,hdl,htl];omega]at ev;subst ev;exact⟨A6,c6,rfl,rp,xx2⟩
    have Zu:=amW (show(row.drop l++row.take l).length<=1099511627776 by rw[am9,hdl,htl];omega);have HS:∀W,Ex wi W->(W.cell? ⟨w.heap.size,0,none⟩=some (.int .i64 l)):=λW h=>af h q0
    clear QD QT hdl htl hRL;go_wp2_with fail
    go_region_held3 (λW=>W.cell? ⟨w.heap.size,0,none⟩=some (.int .i64 l)) (first
     |(exact HS7)|(exact HS _ (x6.alloc _))|(exact HS _ x6)|(exact HS _ x4)|(exact HS _ (asF _).drew)|(exact HS _ (asF _))|(exact HS _ ((asF _).alloc _))) (first
     |(go_at_call 126
       refine(cC _ x4 v4).mono ?_;rintro e w6 ⟨A6,c6,rfl,rp,Ot⟩;have x6:Ex wi w6:=x4.trans Ot;have Yg:=x6.size;have hz4:=x4.size;have Yf:=Ot.size;have hq:=rp.WV (W0:=w) Zu.out (λw2 h0 _=>h0);obtain⟨v7,w7,Gh,ge7,_,aeH,WO⟩:=iO (hge.ex x6) Yg hq hz4 Yf (amX _) hzi (by simp;omega);rw[<-HT.out]at ge7;have x7:=WO W2 (he.trans x6) (amX _);have HS7:=(q.ex x7).c0)
     |(refine b_ rfl _ _ _ rfl rfl rfl Gh ?_))
    all_goals
     clear HS HS7 Gh q0 WO rp hq cC v4 hge HT;go_wp2_with fail
     go_roundw;case rel=>exact⟨k+1,by omega,by go_num,ge7,x7⟩
     case measure=>simp[intOf];omega
  .obtain rfl:k=b.length:=by omega
   rw[ann (by rw[nA,am5];exact amX _)]at hge;obtain⟨A3,c3,ev,hN⟩:=hge.J7 (by rw[nA,am5];omega) xw;subst ev;have qr:=q.ex he;obtain⟨q0,q1⟩:=qr.d2;have cO:=rz p r l (nA l b) A3 c3 wi HF.out hN (Da HW.out) (XB (S_ HG.out) (Da HW.out) (amX _) (UB (by omega))) (by omega) (by rw[nA,am5];omega);clear hge hN;obtain⟨RR,hRR⟩:=xq ((ah p).aB (r+l) (nA l b));have HRR:=amW hRR;rw[hRR]at cO;clear hRR;go_wp2_with fail
   refine cO.mono ?_;rintro e w4 ⟨y4,rfl,fx,x4⟩;obtain⟨A4,c4,rfl,_⟩:=fx.rd;clear cO q0 q1;have hl2:=d2.lt;have hzx:=xx.size;have dz:=(d2.ex he).ex x4;have xz:=xw.trans x4;obtain⟨dd,zz⟩:=dz.ru (.int .i64 r) (.int .i64 l) (.slice A4 RR.length c4);obtain⟨u0,u1,u2⟩:=dz.d3;obtain⟨k0,k1,k2⟩:=dz.z3;obtain⟨C0,C1,C2⟩:=dd.d3;have eF:=xz.aM zz (by omega);have YU:=fx.iv (fD.a_ zz) (by omega);have fx3:=YU.more (a':=w.heap.size) (b':=w4.heap.size) (by omega) (amX _);go_wp2_with fail
   refine ane (v:=.agg #[.int .i64 r,.int .i64 l,.slice A4 RR.length c4]) (by simp[results,Tryz.results92,go_sem,C0,C1,C2]) rfl ?_;rw[HRR.out];exact⟨_,rfl,fx3.more (amX _) (aoh (by simp)),eF⟩
theorem R7(w:World):Calls prog 73 #[] w λe w'=>wZ w zF e w':=by
 go_enter Tryz.func73,Tryz.ntmps73
 go_wp2_with fail
 obtain⟨x1,v1⟩:=VB.xn w 51 #[.slice none 0 0,.slice (some ⟨w.heap.size+1,0,none⟩) 1 1];have s1:(w.alloc (.cells #[.slice none 0 0,.slice (some ⟨w.heap.size+1,0,none⟩) 1 1] 51)).heap.size=w.heap.size+1:=by simp
 generalize w.alloc (.cells #[.slice none 0 0,.slice (some ⟨w.heap.size+1,0,none⟩) 1 1] 51)=W1 at*;have x2:=(asF W1).alloc (aO [1]);have o1:=Own.new W1 [1];rw[s1]at o1;have v2:=v1.ex x2;obtain⟨d0,d1⟩:=v2.d2;change bodyPost _ _ _ _ _ (W1.alloc (aO [1]));generalize W1.alloc (aO [1])=W2 at*;refine ane (v:=.agg #[.slice none 0 0,.slice (some ⟨w.heap.size+1,0,none⟩) 1 1]) (by simp[results,Tryz.results73,go_sem,d0,d1]) rfl ?_;exact⟨none,0,_,_,rfl,Fr.nil _ _ _,o1.fr (by simp) (by omega) (by simp),(λa a' e=>by cases e),x1.trans x2⟩
theorem qy(n:Nat)(hn:n<=1000)(w:World):
 Calls prog 43 #[.int .i64 n] w λe w'=>∃A c,e=.returned (.slice A n c)/\GE pq 51 w' w.heap.size w'.heap.size (.slice A n c) (replicate n zF)/\Ex w w':=by
 go_enter Tryz.func43,Tryz.ntmps43
 go_wp2_with fail
 go_loopg [3] n (λf o wr=>∃(k:Nat) (A:Option Addr) (c:Nat),k+f=n/\o=.slice A k c/\GE pq 51 wr w.heap.size wr.heap.size (.slice A k c) (replicate k zF)/\Ex w wr)
 case atStart=>exact⟨0,none,0,by omega,rfl,GE.nil _ _ _ _ _,asF _⟩
 case round=>
  obtain⟨k,A,c,hkf,rfl,hge,he⟩:=hrel;have hz:=he.size;cases gk with
  |zero=>
   obtain rfl:k=n:=by omega
   go_wp2_with fail
   go_ret;exact⟨A,c,rfl,hge,he⟩
  |succ f=>
   have hlt:k<n:=by omega
   have HT:=amW (show replicate (k+1) zF=replicate k zF++[zF] by rw[List.replicate_succ']);go_wp2_with fail
   refine(R7 _).mono ?_;rintro e w3 ⟨A3,c3,B3,d3,rfl,f3,p3,Ig,x3⟩;have hz3:=x3.size;obtain⟨v',w4,hrun,hge4,_,BG,CW⟩:=iU (hge.ex x3) hz3 (cB (x:=zF) f3 p3 Ig hz3) (amX _) hz3 (amX _) hz (by simp;omega);rw[<-HT.out]at hge4;have qO:=CW w (he.trans x3) (amX _);obtain⟨A5,c5,ev⟩:=hge4.lu;rw[anD]at ev;subst ev;clear CW HT;go_wp2_with (at_builtin;refine wpList_append_run rfl _ _ _ rfl rfl rfl hrun ?_)
   go_roundg f
   case measure=>omega
   case rel=>exact⟨k+1,A5,c5,by omega,rfl,hge4,qO⟩
section
structure RQ where
 l:Nat
 r:Nat
 b:List (List aF)
def xF:aF:=⟨[0,1],[1]⟩
def dX(p k v:Int):List (List Int):=
 if k=1 then(aA p).Nn v.toNat
 else if k=2 then(aA p).aB 4 [[1,0,0,1],[0,1,1,0]]
 else if k=3 then(aA p).aB 3 [[1,1,1]]
 else if k=4 then(aA p).aB 1 [[1]]
 else if k=5 then(aA p).aB 3 [[1,0,1],[0,1,1]]
 else if k=6 then(aA p).aB 1 []
 else if k=7 then(aA p).aB 2 [[1,v]]
 else if k=9 then(aA p).aB 3 [[1,1,1]]
 else if k=10 then(aA p).aB 1 [[1]]
 else if k=11 then(aA p).aB 3 [[1,1,0],[1,0,1]]
 else if k=12 then(aA p).aB 1 []
 else(aA p).aB 2 [[v,1]]
def dN(p:Int)(n:Nd):List (List aF):=
 if n.kd=8 then(ah p).aB 2 [[oF,xF]]
 else if n.kd=14 then(ah p).aB 2 [[xF,oF]]
 else oN (dX p n.kd n.vl)
section
variable {p : Int} {hF : aj p = true}
theorem adU:Tr [0,1]:=Tr.qH (by decide) (by decide)
theorem Xr(hF:aj p=true):PN p [0,1]:=⟨by
 have:=au hF;simp[av,fe];omega,adU⟩
theorem oD:(pe hF [0,1]).1=xF:=nR hF (Xr hF)
theorem Xa{a:Int}(h:fe p a=true):(pe hF (cp a)).1=cF a:=by
 rw[nR hF (qj h)];unfold cF cp;by_cases e:a=0
 .subst e;rfl
 .rw[amZ e];have:trim [a]=[a]:=by
   have h1:=Tr.trim [a];have h2:=bU [a] 0;cases ht:trim [a]with
   |nil=>rw[ht]at h2;exact absurd h2.symm e
   |cons b t=>
    have h3:=gD [a];rw[ht]at h3 h2;have h4:t=[]:=by
     cases t with
     |nil=>rfl
     |cons _ _=>simp at h3
    subst h4;have h5:b=a:=h2;rw[h5]
  rw[this]
theorem w_.const{R:List (List Int)}(hR:Bf (aA p) n R)(hel:kF p R):w_ hF n 0 (oN R):=by
 obtain⟨L,hL⟩:∃L:List (List (xM p)),L=R.map λv=>v.map λa=>pe hF (cp a):=⟨_,rfl⟩
 have e1:oN R=dh Subtype.val L:=by
  rw[hL];unfold oN dh;rw[anr];refine anF λv hv=>?_
  show v.map cF=(v.map λa=>pe hF (cp a)).map Subtype.val;rw[anr];exact anF λa ha=>(Xa (anl.1 (hel v hv) a ha)).symm
 have hinj:∀a b:xM p,a.val=b.val->a=b:=λa b=>ano
 have h2:=VK hR;rw[e1]at h2;have h3:jZ (ay p hF) n L:=(sZ _).1 (((jl p hF).rrp hinj).1 h2);refine⟨L,e1,h3,Ih.const h3 λv hv x hx=>?_⟩;rw[hL]at hv;obtain⟨u,hu,rfl⟩:=am3.1 hv;obtain⟨a,ha,rfl⟩:=am3.1 hx;exact⟨cp a,qj (anl.1 (hel u hu) a ha),gD _,rfl⟩
theorem pQ(O:Ops K)(n:Nat)(rows:List (List K)):(O.aB n rows).length<=rows.length:=by unfold Ops.aB;rw[am8,nO];omega
theorem w_.pair{a b:List Int}(ha:PN p a)(hb:PN p b)(la:a.length<=2)(lb:b.length<=2)(h1:a=[1]∨b=[1]):w_ hF 2 1 ((ah p).aB 2 [[(pe hF a).1,(pe hF b).1]]):=by
 obtain⟨L0,hL0⟩:∃L0:List (List (xM p)),L0=[[pe hF a,pe hF b]]:=⟨_,rfl⟩;have hw:aZ 2 L0:=λv hv=>by rw[hL0]at hv;rw[ank.1 hv];rfl
 have e:[[(pe hF a).1,(pe hF b).1]]=dh Subtype.val L0:=by rw[hL0];rfl
 rw[e,(jl p hF).aB];refine⟨_,rfl,iL _ hw,?_⟩;have hm:=Ih.leaf hF (Sp.aan (ay p hF) ((ay p hF).fns L0)) 1 1 (λ_ j=>if j=0 then a else if j=1 then b else[]) (λ_=>if a=[1]then 0 else 1) λi hi=>by
  refine⟨λj=>?_,?_,?_,λl hl hli=>by omega⟩
  .by_cases j0:j=0
   .rw[amY j0];exact⟨ha,la⟩
   .rw[amZ j0];by_cases j1:j=1
    .rw[amY j1];exact⟨hb,lb⟩
    .rw[amZ j1];exact⟨PN.nil p,by simp⟩
  .refine Sp.mem ?_;rw[hL0];refine am3.2 ⟨[pe hF a,pe hF b],by simp,funext λj=>?_⟩;rcases j with _|_|j
   .rfl
   .rfl
   .show(ay p hF).el _ _=pe hF (if j+2=0 then a else if j+2=1 then b else[]);rw[amZ (by omega),amZ (by omega),jV,Ops.eH _ (by simp)]
  .by_cases e:a=[1]
   .rw[amY e,amY rfl,e]
   .rw[amZ e,amZ (by omega),amY rfl];exact h1.resolve_left e
 refine(hm.iff λv hv=>(iT (ay p hF) hw v).2 hv).mono ?_ (amX _);have:=pQ (ay p hF).toOps 2 L0;rw[hL0]at this⊢;exact this
theorem w_.delay:w_ hF 2 1 ((ah p).aB 2 [[oF,xF]]):=by have h:=w_.pair (hF:=hF) (PN.one (au hF)) (Xr hF) (by simp) (by simp) (.inl rfl);rw[oD,vG]at h;exact h
theorem w_.VI:w_ hF 2 1 ((ah p).aB 2 [[xF,oF]]):=by have h:=w_.pair (hF:=hF) (Xr hF) (PN.one (au hF)) (by simp) (by simp) (.inr rfl);rw[oD,vG]at h;exact h
theorem nJ{rows:List (List Int)}(hF:aj p=true)(hw:aZ n rows)(hel:kF p rows):Bf (aA p) n ((aA p).aB n rows)/\kF p ((aA p).aB n rows):=by
 obtain⟨u,hu⟩:=CK (P:=λa=>fe p a=true) rows (λv hv x hx=>anl.1 (hel v hv) x hx);subst hu;have hinj:∀a b:Zp p,a.val=b.val->a=b:=λa b=>ano
 rw[(mF p hF).aB];refine⟨((mF p hF).rrp hinj).2 ((sZ _).2 (iL _ (aZ.dh.1 hw))),λv hv=>?_⟩;obtain⟨w,_,rfl⟩:=am3.1 hv;exact anl.2 λx hx=>by obtain⟨y,_,rfl⟩:=am3.1 hx;exact y.2
theorem iN.Nn{A:Type}{O:Ops K}{O':Ops A}{f:K->A}(h:iN O O' f)(n:Nat):O'.Nn n=dh f (O.Nn n):=by
 unfold Ops.Nn dh;rw[anr];refine anF λi _=>?_
 show O'.unit n i++O'.unit n i=(O.unit n i++O.unit n i).map f;rw[anQ,h.unit]
theorem Ls(hF:aj p=true)(n:Nat):Bf (aA p) (n+n) ((aA p).Nn n)/\kF p ((aA p).Nn n):=by
 have hinj:∀a b:Zp p,a.val=b.val->a=b:=λa b=>ano
 rw[(mF p hF).Nn];refine⟨((mF p hF).rrp hinj).2 ((sZ _).2 (Ye _ n)),λv hv=>?_⟩;obtain⟨w,_,rfl⟩:=am3.1 hv;exact anl.2 λx hx=>by obtain⟨y,_,rfl⟩:=am3.1 hx;exact y.2
theorem Jc(hF:aj p=true)(hk:bN 3 14 k=true)(h8:k≠8)(mD:k≠14)(hv:k=7∨k=13->0<=v/\v<p):Bf (aA p) ((gw k).1.toNat+(gw k).2.toNat) (dX p k v)/\kF p (dX p k v):=by
 have h2:=au hF;have e1:fe p 1=true:=by simp[fe];omega
 have e0:fe p 0=true:=by simp[fe];omega
 have key:∀(n:Nat) (rows:List (List Int)),aZ n rows->kF p rows->Bf (aA p) n ((aA p).aB n rows)/\kF p ((aA p).aB n rows):=λn rows hw he=>nJ hF hw he
 rcases kinds hk with rfl|rfl|rfl|rfl|rfl|rfl|rfl|rfl|rfl|rfl|rfl|rfl
 .exact key 3 [[1,1,1]] (λv hv=>by simp at hv;rw[hv];rfl) (λv hv=>by simp at hv;rw[hv];simp[av,e1])
 .exact key 1 [[1]] (λv hv=>by simp at hv;rw[hv];rfl) (λv hv=>by simp at hv;rw[hv];simp[av,e1])
 .exact key 3 [[1,0,1],[0,1,1]] (λv hv=>by simp at hv;rcases hv with rfl|rfl<;>rfl) (λv hv=>by simp at hv;rcases hv with rfl|rfl<;>simp[av,e1,e0])
 .exact key 1 [] (λv hv=>by simp at hv) (λv hv=>by simp at hv)
 .have ev:fe p v=true:=by have:=hv (.inl rfl);simp[fe];omega
  exact key 2 [[1,v]] (λv hv=>by simp at hv;rw[hv];rfl) (λv hv=>by simp at hv;rw[hv];simp[av,e1,ev])
 .exact absurd rfl h8
 .exact key 3 [[1,1,1]] (λv hv=>by simp at hv;rw[hv];rfl) (λv hv=>by simp at hv;rw[hv];simp[av,e1])
 .exact key 1 [[1]] (λv hv=>by simp at hv;rw[hv];rfl) (λv hv=>by simp at hv;rw[hv];simp[av,e1])
 .exact key 3 [[1,1,0],[1,0,1]] (λv hv=>by simp at hv;rcases hv with rfl|rfl<;>rfl) (λv hv=>by simp at hv;rcases hv with rfl|rfl<;>simp[av,e1,e0])
 .exact key 1 [] (λv hv=>by simp at hv) (λv hv=>by simp at hv)
 .have ev:fe p v=true:=by have:=hv (.inr rfl);simp[fe];omega
  exact key 2 [[v,1]] (λv hv=>by simp at hv;rw[hv];rfl) (λv hv=>by simp at hv;rw[hv];simp[av,e1,ev])
 .exact absurd rfl mD
def ZF(p:Int)(n:Nd):Bool:= !(decide (n.kd=7∨n.kd=13)&&decide (p<=n.vl))
theorem QU(hF:aj p=true){n:Nd}{w:Int×Int}(h:ZG n=some w)(hv:ZF p n=true):w_ hF (w.1.toNat+w.2.toNat) 1 (dN p n):=by
 have h2:=au hF;unfold ZG at h;split at h
 .rename_i h1;injection h with h;subst h;obtain⟨_,hk,hi⟩:=h1;unfold dN;rw[amZ (by omega),amZ (by omega)];unfold dX;rw[amY hk];obtain⟨a,b⟩:=Ls hF n.vl.toNat;exact(w_.const a b).mono (by omega)
 .split at h
  .rename_i h1;injection h with h;subst h;obtain⟨_,hk,hi⟩:=h1;unfold dN;rw[amZ (by omega),amZ (by omega)];unfold dX;rw[amZ (by omega),amY hk];obtain⟨a,b⟩:=nJ (p:=p) (n:=4) (rows:=[[1,0,0,1],[0,1,1,0]]) hF (λv hv=>by simp at hv;rcases hv with rfl|rfl<;>rfl) (λv hv=>by
    have e1:fe p 1=true:=by simp[fe];omega
    have e0:fe p 0=true:=by simp[fe];omega
    simp at hv;rcases hv with rfl|rfl<;>simp[av,e1,e0])
   exact(w_.const a b).mono (by omega)
  .split at h
   .rename_i h1;injection h with h;subst h;obtain⟨_,hk,hvl⟩:=h1;unfold dN;by_cases h8:n.kd=8
    .rw[amY h8,h8];exact w_.delay
    .by_cases mD:n.kd=14
     .rw[amZ h8,amY mD,mD];exact w_.VI
     .rw[amZ h8,amZ mD];obtain⟨a,b⟩:=Jc (p:=p) (v:=n.vl) hF hk h8 mD λe=>by
       unfold Eo at hvl;rw[amY e]at hvl;unfold ZF at hv;simp[e,bN]at hv hvl;omega
      exact(w_.const a b).mono (by omega)
   .cases h
end
end
section
def fQ(l:Nat)(rows:List (List Int)):List (List Int):=rows.map λx=>x.drop l++x.take l
def jF(k v:Int):List (List Int):=if k=3 then[[1,1,1]]else if k=4 then[[1]]else if k=5 then[[1,0,1],[0,1,1]]else if k=7 then[[1,v]]else[]
theorem tQ(F:aL K){v:List K}(hv:v.length=n){q:Nat}(hq:q<n)(h1:F.el v q=F.o)(h0:∀j,j<q->F.el v j=F.z):F.aB n [v]=[v]:=
 u_ ⟨λu hu=>by rw[ank.1 hu];exact hv,[q],
  {pl:=rfl
   hr:=amX _
   Et:=by simp
   lt:=λx hx=>by rw[ank.1 hx];exact hq
   one:=λi x u hi hu=>by
    rcases i with _|i
    .injection hi with hi;injection hu with hu;subst hi hu;exact h1
    .simp at hi
   Bh:=λi i' x u hi hu hne=>by
    rcases i with _|i
    .rcases i' with _|i'
     .exact absurd rfl hne
     .simp at hu
    .simp at hi
   led:=λi x u hi hu j hj=>by
    rcases i with _|i
    .injection hi with hi;injection hu with hu;subst hi hu;exact h0 j hj
    .simp at hi
   low:=λi u hi hu=>by
    have:=(am2.1 hu).1;omega}⟩
theorem OU(F:aL K):F.aB 3 [[F.o,F.z,F.o],[F.z,F.o,F.o]]=[[F.o,F.z,F.o],[F.z,F.o,F.o]]:=
 u_ ⟨λu hu=>by
  simp only[ani,anC,or_false]at hu;rcases hu with rfl|rfl<;>rfl,[0,1],
  {pl:=rfl
   hr:=amX _
   Et:=by simp
   lt:=λx hx=>by simp only[ani,anC,or_false]at hx;omega
   one:=λi x u hi hu=>by
    rcases i with _|_|i
    .injection hi with hi;injection hu with hu;subst hi hu;rfl
    .injection hi with hi;injection hu with hu;subst hi hu;rfl
    .simp at hi
   Bh:=λi i' x u hi hu hne=>by
    rcases i with _|_|i
    .rcases i' with _|_|i'
     .exact absurd rfl hne
     .injection hi with hi;injection hu with hu;subst hi hu;rfl
     .simp at hu
    .rcases i' with _|_|i'
     .injection hi with hi;injection hu with hu;subst hi hu;rfl
     .exact absurd rfl hne
     .simp at hu
    .simp at hi
   led:=λi x u hi hu j hj=>by
    rcases i with _|_|i
    .injection hi with hi;subst hi;omega
    .injection hi with hi;injection hu with hu;subst hi hu;obtain rfl:j=0:=by omega
     rfl
    .simp at hi
   low:=λi u hi hu=>by
    have:=(am2.1 hu).1;omega}⟩
section
variable {p : Int}
theorem Pz(O:Ops K)(n:Nat):O.aB n []=[]:=List.length_eq_zero_iff.1 (Nat.le_zero.1 (pQ O n []))
theorem V8(hF:aj p=true):(aA p).aB 3 [[1,1,1]]=[[1,1,1]]:=by
 have h:=tQ (aD p hF) (v:=[(aD p hF).o,(aD p hF).o,(aD p hF).o]) (n:=3) rfl (q:=0) (by omega) rfl λj hj=>by omega
 have e:=(mF p hF).aB 3 [[(aD p hF).o,(aD p hF).o,(aD p hF).o]];rw[h]at e;exact e
theorem z_1(hF:aj p=true):(aA p).aB 1 [[1]]=[[1]]:=by
 have h:=tQ (aD p hF) (v:=[(aD p hF).o]) (n:=1) rfl (q:=0) (by omega) rfl λj hj=>by omega
 have e:=(mF p hF).aB 1 [[(aD p hF).o]];rw[h]at e;exact e
theorem Z_(hF:aj p=true):(aA p).aB 3 [[1,0,1],[0,1,1]]=[[1,0,1],[0,1,1]]:=by have h:=OU (aD p hF);have e:=(mF p hF).aB 3 [[(aD p hF).o,(aD p hF).z,(aD p hF).o],[(aD p hF).z,(aD p hF).o,(aD p hF).o]];rw[h]at e;exact e
theorem adK(hF:aj p=true)(hv:fe p v=true):(aA p).aB 2 [[1,v]]=[[1,v]]:=by
 have h:=tQ (aD p hF) (v:=[(aD p hF).o,⟨v,hv⟩]) (n:=2) rfl (q:=0) (by omega) rfl λj hj=>by omega
 have e:=(mF p hF).aB 2 [[(aD p hF).o,⟨v,hv⟩]];rw[h]at e;exact e
theorem Jd(hF:aj p=true)(hk:bN 9 13 k=true)(hv:k=13->fe p v=true):
 (aA p).aB ((gw (k-6)).2.toNat+(gw (k-6)).1.toNat) (fQ (gw (k-6)).1.toNat ((aA p).aB ((gw (k-6)).1.toNat+(gw (k-6)).2.toNat) (jF (k-6) v)))=dX p k v:=by
 have h:k=9∨k=10∨k=11∨k=12∨k=13:=by simp[bN]at hk;omega
 rcases h with rfl|rfl|rfl|rfl|rfl
 .show(aA p).aB 3 (fQ 1 ((aA p).aB 3 [[1,1,1]]))=(aA p).aB 3 [[1,1,1]];rw[V8 hF];exact V8 hF
 .show(aA p).aB 1 (fQ 1 ((aA p).aB 1 [[1]]))=(aA p).aB 1 [[1]];rw[z_1 hF];exact z_1 hF
 .show(aA p).aB 3 (fQ 2 ((aA p).aB 3 [[1,0,1],[0,1,1]]))=(aA p).aB 3 [[1,1,0],[1,0,1]];rw[Z_ hF];rfl
 .show(aA p).aB 1 (fQ 0 ((aA p).aB 1 []))=(aA p).aB 1 [];rw[Pz];rfl
 .show(aA p).aB 2 (fQ 1 ((aA p).aB 2 [[1,v]]))=(aA p).aB 2 [[v,1]];rw[adK hF (hv rfl)];rfl
theorem Nb(hk:bN 3 7 k=true):(aA p).aB ((gw k).1.toNat+(gw k).2.toNat) (jF k v)=dX p k v:=by
 have h:k=3∨k=4∨k=5∨k=6∨k=7:=by simp[bN]at hk;omega
 rcases h with rfl|rfl|rfl|rfl|rfl<;>rfl
theorem CX(hF:aj p=true)(hk:bN 3 7 k=true)(hv:k=7->fe p v=true):aZ ((gw k).1.toNat+(gw k).2.toNat) (jF k v)/\kF p (jF k v)/\(jF k v).length<=2:=by
 have h2:=au hF;have e1:fe p 1=true:=by simp[fe];omega
 have e0:fe p 0=true:=by simp[fe];omega
 have h:k=3∨k=4∨k=5∨k=6∨k=7:=by simp[bN]at hk;omega
 rcases h with rfl|rfl|rfl|rfl|rfl
 .exact⟨λu hu=>by rw[ank.1 hu];rfl,λu hu=>by rw[ank.1 hu];simp[av,e1],by show 1<=2;omega⟩
 .exact⟨λu hu=>by rw[ank.1 hu];rfl,λu hu=>by rw[ank.1 hu];simp[av,e1],by show 1<=2;omega⟩
 .refine⟨λu hu=>?_,λu hu=>?_,by show 2<=2;omega⟩
  .rcases ani.1 hu with rfl|hu
   .rfl
   .rw[ank.1 hu];rfl
  .rcases ani.1 hu with rfl|hu
   .simp[av,e1,e0]
   .rw[ank.1 hu];simp[av,e1,e0]
 .exact⟨λu hu=>absurd (show u∈([]:List (List Int))from hu) anC,λu hu=>absurd (show u∈([]:List (List Int))from hu) anC,by show 0<=2;omega⟩
 .exact⟨λu hu=>by rw[ank.1 hu];rfl,λu hu=>by rw[ank.1 hu];simp[av,e1,hv rfl],by show 1<=2;omega⟩
end
end
section
section
variable {K : Type}
theorem EO(F:aL K){M:List (List K)}(hw:aZ n M):F.nL n M=F.eU n M:=
 lF (iL F (Cj F.toOps n _)) (yg F) λv=>(EN F hw v).trans (kI F hw v).symm
def Ops.oK(O:Ops K)(W:Nat)(E:List Nat)(M:List (List K)):List (List K):=O.aB E.length ((O.nL W M).map (O.kY E))
theorem KC(F:aL K){W:Nat}{E:List Nat}{M:List (List K)}(hw:aZ W M):F.oK W E M=F.KA W E M:=by unfold Ops.oK Ops.KA;rw[EO F hw]
theorem iN.kY{A:Type}{O:Ops K}{O':Ops A}{f:K->A}(h:iN O O' f)(E:List Nat)(v:List K):O'.kY E (v.map f)=(O.kY E v).map f:=by unfold Ops.kY;rw[anr];exact anF λj _=>h.el v j
theorem iN.oK{A:Type}{O:Ops K}{O':Ops A}{f:K->A}(h:iN O O' f)(W:Nat)(E:List Nat)(M:List (List K)):O'.oK W E (dh f M)=dh f (O.oK W E M):=by unfold Ops.oK;rw[h.nL,<-h.aB];congr 1;unfold dh;rw[anr,anr];exact anF λv _=>h.kY E v
end
section
variable {p : Int}
def jU(p:Int)(n:Nat)(at_:List Nat)(vs:List Int):List Int:=(at_.zip vs).foldl (λo x=>o.set x.1 ((o.getD x.1 0+x.2)%p)) (replicate n 0)
def WU(p:Int)(n:Nat)(k v:Int)(i o:List Nat):List (List Int):=
 if k=3 then[jU p n [o.getD 0 0,i.getD 0 0] [1,p-1],jU p n [o.getD 1 0,i.getD 0 0] [1,p-1]]
 else if k=5 then[jU p n [o.getD 0 0,i.getD 0 0,i.getD 1 0] [1,p-1,p-1]]
 else if k=6 then[jU p n [o.getD 0 0] [1]]
 else if k=7 then[jU p n [o.getD 0 0,i.getD 0 0] [1,(aA p).neg v]]
 else[]
def Ah(p:Int)(n:Nat)(k v:Int)(i o:List Nat):List (List Int):=if 9<=k then WU p n (k-6) v o i else WU p n k v i o
theorem QA(hF:aj p=true):p-1=(aA p).neg 1:=by have:=au hF;show p-1=(-1)%p;rw[show(-1:Int)=(p-1)+p*(-1) by omega,Int.add_mul_emod_self_left,anX (by omega) (by omega)]
theorem add0(hF:aj p=true){a:Int}(h:fe p a=true):(0+a)%p=a:=by
 have:0<=a/\a<p:=by simpa[fe]using h
 rw[aoC,anX this.1 this.2]
theorem Eb(hF:aj p=true)(a:Int):fe p ((aA p).neg a)=true:=oh (by have:=au hF;omega) _
theorem zP(hF:aj p=true)(hk:bN 3 14 k=true)(h8:k≠8)(mD:k≠14)(hv:k=7∨k=13->fe p v=true)(hg:gw k=((n:Int),(m:Int))):
 (aA p).oK (n+m) (range (n+m)) (Ah p (n+m) k v (range n) ((range m).map (n+·)))=dX p k v:=by
 have h2:=au hF;have e1:fe p 1=true:=by simp[fe];omega
 have en1:=Eb hF 1;have a1:=add0 hF e1;have an1:=add0 hF en1;have anv:=add0 hF (Eb hF v);have key:∀(W:Nat) (M G:List (List (Zp p))),aZ W M->(aD p hF).aB W G=(aD p hF).eU W M->(aA p).oK W (range W) (dh Subtype.val M)=(aA p).aB W (dh Subtype.val G):=λW M G hw e=>by rw[(mF p hF).oK,KC _ hw,CQ,<-e,(mF p hF).aB]
 have F:=aD p hF;rcases kinds hk with rfl|rfl|rfl|rfl|rfl|rfl|rfl|rfl|rfl|rfl|rfl|rfl
 .obtain⟨rfl,rfl⟩:n=1/\m=2:=by injection hg with h1 h2;exact⟨(Int.ofNat.inj h1).symm,(Int.ofNat.inj h2).symm⟩
  have e:Ah p 3 3 v (range 1) ((range 2).map (1+·))=dh Subtype.val [[(aD p hF).neg (aD p hF).o,(aD p hF).o,(aD p hF).z],[(aD p hF).neg (aD p hF).o,(aD p hF).z,(aD p hF).o]]:=by show[[(0+(p-1))%p,(0+1)%p,0],[(0+(p-1))%p,0,(0+1)%p]]=[[(aA p).neg 1,1,0],[(aA p).neg 1,0,1]];rw[QA hF,an1,a1]
  exact(congrArg _ e).trans (key 3 _ [[(aD p hF).o,(aD p hF).o,(aD p hF).o]] (λv hv=>by simp at hv;rcases hv with rfl|rfl<;>rfl) (CP _ (λv hv=>by simp at hv;rcases hv with rfl|rfl<;>rfl) (S9 _)))
 .obtain⟨rfl,rfl⟩:n=1/\m=0:=by injection hg with h1 h2;exact⟨(Int.ofNat.inj h1).symm,(Int.ofNat.inj h2).symm⟩
  exact key 1 [] [[(aD p hF).o]] (λv hv=>by simp at hv) (FP _)
 .obtain⟨rfl,rfl⟩:n=2/\m=1:=by injection hg with h1 h2;exact⟨(Int.ofNat.inj h1).symm,(Int.ofNat.inj h2).symm⟩
  have e:Ah p 3 5 v (range 2) ((range 1).map (2+·))=dh Subtype.val [[(aD p hF).neg (aD p hF).o,(aD p hF).neg (aD p hF).o,(aD p hF).o]]:=by show[[(0+(p-1))%p,(0+(p-1))%p,(0+1)%p]]=[[(aA p).neg 1,(aA p).neg 1,1]];rw[QA hF,an1,a1]
  exact(congrArg _ e).trans (key 3 _ [[(aD p hF).o,(aD p hF).z,(aD p hF).o],[(aD p hF).z,(aD p hF).o,(aD p hF).o]] (λv hv=>by simp at hv;rw[hv];rfl) (QO _))
 .obtain⟨rfl,rfl⟩:n=0/\m=1:=by injection hg with h1 h2;exact⟨(Int.ofNat.inj h1).symm,(Int.ofNat.inj h2).symm⟩
  have e:Ah p 1 6 v (range 0) ((range 1).map (0+·))=dh Subtype.val [[(aD p hF).o]]:=by show[[(0+1)%p]]=[[1]];rw[a1]
  exact(congrArg _ e).trans (key 1 _ [] (λv hv=>by simp at hv;rw[hv];rfl) (CO _))
 .obtain⟨rfl,rfl⟩:n=1/\m=1:=by injection hg with h1 h2;exact⟨(Int.ofNat.inj h1).symm,(Int.ofNat.inj h2).symm⟩
  have ev:=hv (.inl rfl);have e:Ah p 2 7 v (range 1) ((range 1).map (1+·))=dh Subtype.val [[(aD p hF).neg ⟨v,ev⟩,(aD p hF).o]]:=by show[[(0+(aA p).neg v)%p,(0+1)%p]]=[[(aA p).neg v,1]];rw[anv,a1]
  exact(congrArg _ e).trans (key 2 _ [[(aD p hF).o,⟨v,ev⟩]] (λv hv=>by simp at hv;rw[hv];rfl) (FO _ _))
 .exact absurd rfl h8
 .obtain⟨rfl,rfl⟩:n=2/\m=1:=by injection hg with h1 h2;exact⟨(Int.ofNat.inj h1).symm,(Int.ofNat.inj h2).symm⟩
  have e:Ah p 3 9 v (range 2) ((range 1).map (2+·))=dh Subtype.val [[(aD p hF).o,(aD p hF).z,(aD p hF).neg (aD p hF).o],[(aD p hF).z,(aD p hF).o,(aD p hF).neg (aD p hF).o]]:=by show[[(0+1)%p,0,(0+(p-1))%p],[0,(0+1)%p,(0+(p-1))%p]]=[[1,0,(aA p).neg 1],[0,1,(aA p).neg 1]];rw[QA hF,an1,a1]
  exact(congrArg _ e).trans (key 3 _ [[(aD p hF).o,(aD p hF).o,(aD p hF).o]] (λv hv=>by simp at hv;rcases hv with rfl|rfl<;>rfl) (CP _ (λv hv=>by simp at hv;rcases hv with rfl|rfl<;>rfl) (JJ _)))
 .obtain⟨rfl,rfl⟩:n=0/\m=1:=by injection hg with h1 h2;exact⟨(Int.ofNat.inj h1).symm,(Int.ofNat.inj h2).symm⟩
  exact key 1 [] [[(aD p hF).o]] (λv hv=>by simp at hv) (FP _)
 .obtain⟨rfl,rfl⟩:n=1/\m=2:=by injection hg with h1 h2;exact⟨(Int.ofNat.inj h1).symm,(Int.ofNat.inj h2).symm⟩
  have e:Ah p 3 11 v (range 1) ((range 2).map (1+·))=dh Subtype.val [[(aD p hF).o,(aD p hF).neg (aD p hF).o,(aD p hF).neg (aD p hF).o]]:=by show[[(0+1)%p,(0+(p-1))%p,(0+(p-1))%p]]=[[1,(aA p).neg 1,(aA p).neg 1]];rw[QA hF,an1,a1]
  exact(congrArg _ e).trans (key 3 _ [[(aD p hF).o,(aD p hF).o,(aD p hF).z],[(aD p hF).o,(aD p hF).z,(aD p hF).o]] (λv hv=>by simp at hv;rw[hv];rfl) (Jb _))
 .obtain⟨rfl,rfl⟩:n=1/\m=0:=by injection hg with h1 h2;exact⟨(Int.ofNat.inj h1).symm,(Int.ofNat.inj h2).symm⟩
  have e:Ah p 1 12 v (range 1) ((range 0).map (1+·))=dh Subtype.val [[(aD p hF).o]]:=by show[[(0+1)%p]]=[[1]];rw[a1]
  exact(congrArg _ e).trans (key 1 _ [] (λv hv=>by simp at hv;rw[hv];rfl) (CO _))
 .obtain⟨rfl,rfl⟩:n=1/\m=1:=by injection hg with h1 h2;exact⟨(Int.ofNat.inj h1).symm,(Int.ofNat.inj h2).symm⟩
  have ev:=hv (.inr rfl);have e:Ah p 2 13 v (range 1) ((range 1).map (1+·))=dh Subtype.val [[(aD p hF).o,(aD p hF).neg ⟨v,ev⟩]]:=by show[[(0+1)%p,(0+(aA p).neg v)%p]]=[[1,(aA p).neg v]];rw[anv,a1]
  exact(congrArg _ e).trans (key 2 _ [[⟨v,ev⟩,(aD p hF).o]] (λv hv=>by simp at hv;rw[hv];rfl) (zO _ _))
 .exact absurd rfl mD
end
end
def ve(p:Int)(n:Nat)(at_:List Nat)(vs:List Int)(k:Nat):List Int:=((at_.zip vs).take k).foldl (λo x=>o.set x.1 ((o.getD x.1 0+x.2)%p)) (replicate n 0)
theorem PY{at_:List Nat}{vs:List Int}(h:at_.length=vs.length):ve p n at_ vs at_.length=jU p n at_ vs:=by unfold ve jU;rw[ann (by rw[List.length_zip];omega)]
theorem Md{at_:List Nat}{vs:List Int}{k i:Nat}(hi:at_[k]?=some i)(hx:vs[k]?=some x):ve p n at_ vs (k+1)=(ve p n at_ vs k).set i (((ve p n at_ vs k).getD i 0+x)%p):=by
 have:(at_.zip vs)[k]?=some (i,x):=by rw[aoU];exact⟨hi,hx⟩
 unfold ve;rw[am_,this,Option.toList_some,List.foldl_append];rfl
theorem l_(p:Int):∀(l:List (Nat×Int)) (o:List Int),(l.foldl (λo x=>o.set x.1 ((o.getD x.1 0+x.2)%p)) o).length=o.length
 |[],o=>rfl
 |x::l,o=>by rw[List.foldl_cons,l_ p l,anj]
theorem PX(p:Int)(n:Nat)(at_:List Nat)(vs:List Int)(k:Nat):(ve p n at_ vs k).length=n:=by unfold ve;rw[l_,anD]
theorem gL(p:Int)(n:Nat)(at_:List Nat)(vs:List Int):(jU p n at_ vs).length=n:=by unfold jU;rw[l_,anD]
theorem og{p:Int}(hp:0<p):∀(l:List (Nat×Int)) (o:List Int),(∀x∈o,0<=x/\x<p)->∀x∈l.foldl (λo x=>o.set x.1 ((o.getD x.1 0+x.2)%p)) o,0<=x/\x<p
 |[],o,h=>h
 |y::l,o,h=>by
  rw[List.foldl_cons];refine og hp l _ λx hx=>?_
  rcases aoz hx with hx|hx
  .exact h x hx
  .rw[hx];exact⟨anV _ (by omega),anW _ hp⟩
theorem Uw(hp:0<p)(n:Nat)(at_:List Nat)(vs:List Int)(k:Nat):∀x∈ve p n at_ vs k,0<=x/\x<p:=
 og hp _ _ λx hx=>by rw[List.eq_of_mem_replicate hx];exact⟨Int.le_refl _,hp⟩
theorem Ux(hp:0<p)(n:Nat)(at_:List Nat)(vs:List Int):∀x∈jU p n at_ vs,0<=x/\x<p:=
 og hp _ _ λx hx=>by rw[List.eq_of_mem_replicate hx];exact⟨Int.le_refl _,hp⟩
theorem Gy(h2:2<=p)(n:Nat)(k v:Int)(i o:List Nat):aZ n (WU p n k v i o)/\kF p (WU p n k v i o)/\(WU p n k v i o).length<=2:=by
 have key:∀a b,(jU p n a b).length=n/\av p (jU p n a b)=true:=λa b=>⟨gL p n a b,anl.2 λx hx=>by
  have:=Ux (show 0<p by omega) n a b x hx;simp[fe];omega⟩
 unfold WU;split
 .refine⟨λr hr=>?_,λr hr=>?_,by simp⟩
  .rcases ani.1 hr with rfl|hr
   .exact(key _ _).1
   .rw[ank.1 hr];exact(key _ _).1
  .rcases ani.1 hr with rfl|hr
   .exact(key _ _).2
   .rw[ank.1 hr];exact(key _ _).2
 .split
  .exact⟨λr hr=>by rw[ank.1 hr];exact(key _ _).1,λr hr=>by rw[ank.1 hr];exact(key _ _).2,by simp⟩
  .split
   .exact⟨λr hr=>by rw[ank.1 hr];exact(key _ _).1,λr hr=>by rw[ank.1 hr];exact(key _ _).2,by simp⟩
   .split
    .exact⟨λr hr=>by rw[ank.1 hr];exact(key _ _).1,λr hr=>by rw[ank.1 hr];exact(key _ _).2,by simp⟩
    .exact⟨λr hr=>by simp at hr,λr hr=>by simp at hr,by simp⟩
theorem Ag(h2:2<=p)(n:Nat)(k v:Int)(i o:List Nat):aZ n (Ah p n k v i o)/\kF p (Ah p n k v i o)/\(Ah p n k v i o).length<=2:=by
 unfold Ah;split
 .exact Gy h2 _ _ _ _ _
 .exact Gy h2 _ _ _ _ _
theorem jN(p:Int)(n:Nat)(at_:List Nat)(vs:List Int)(A:Option Addr)(c:Nat)(B:Option Addr)(d:Nat)(w:World)(hF:aj p=true)(hA:Rd w A (at_.map Int.ofNat))(hB:Rd w B vs)(hl:at_.length=vs.length)(hb:∀i∈at_,i<n)(hv:∀x∈vs,0<=x/\x<=96)(hn:n<=1000):
 Calls prog 70 #[.int .i64 p,.int .i64 n,.slice A at_.length c,.slice B vs.length d] w λe w'=>∃g,e=.returned (.slice (some ⟨g,0,none⟩) n n)/\w.heap.size<=g/\Own w' g (jU p n at_ vs)/\Ex w w':=by
 have h2:=au hF;have h97:=aQ hF;have hAl:=hA.len;rw[am5]at hAl;have HB:=amW hb;have HV:=amW hv;obtain⟨L,hL⟩:=xq at_.length;have HRF:=amW (show ve p n at_ vs L=jU p n at_ vs by rw[<-hL];exact PY hl);have HL:=amW hL;have HL2:=amW (hl.symm.trans hL);have hmk:=λW=>dD n (by omega) W
 have H:=amW hA;have HH:=amW hB;rw[hl.symm.trans hL,hL];rw[hL]at hAl;clear hb hv hl hL hF hA hB;go_enter Tryz.func70,Tryz.ntmps70
 go_wp2_with fail
 have o1:=Own.new w (replicate n 0);have x1:=(asF w).alloc (aO (replicate n 0));generalize w.alloc (aO (replicate n 0))=W at*;clear hmk;go_loopw [16] (λi wr=>∃k:Nat,k<=L/\i=.int .i64 k/\Own wr w.heap.size (ve p n at_ vs k)/\Ex w wr) (λi _=>L-(intOf i).toNat)
 case atStart=>exact⟨0,am4 _,rfl,o1,x1⟩
 case round=>
  clear o1 x1;obtain⟨k,hk,rfl,ho,he⟩:=hrel;by_cases hlt:k<L
  .obtain⟨gA,oA,y,eA,hy,hgA,hcA⟩:=(H.out.ex he).at_ (show k<(at_.map Int.ofNat).length by rw[am5,HL.out];exact hlt);subst eA;obtain⟨gB,oB,z,eB,hz,hgB,hcB⟩:=(HH.out.ex he).at_ (show k<vs.length by rw[HL2.out];exact hlt);subst eB;obtain⟨i,hi,rfl⟩:∃i,at_[k]?=some i/\y=Int.ofNat i:=by
    rw[am7]at hy;cases hi:at_[k]? with
    |none=>rw[hi]at hy;cases hy
    |some i=>rw[hi]at hy;injection hy with hy;exact⟨i,rfl,hy.symm⟩
   have hin:=HB.out i (am1 hi);have hzb:=HV.out z (am1 hz);have HS:=amW (Md (p:=p) (n:=n) hi hz);have hrl:=PX p n at_ vs k;obtain⟨V,hV⟩:=xq (ve p n at_ vs k);have Ve:=Uw (show 0<p by omega) n at_ vs k;rw[hV]at ho HS hrl Ve;have hvi:V[i]?=some (V.getD i 0):=by rw[am6,am0 (by omega)];rfl
   obtain⟨x,hx⟩:=xq (V.getD i 0);rw[hx]at hvi HS;have hxb:=Ve x (am1 hvi);have qo:=ho.cell hvi;have fz:=ho.frozen i;have hset:=ho.aX i ((x+z)%p);rw[<-HS.out]at hset;have cA:=λW=>D5 p x z W h2 (by omega) hzb
   have he2:=he.setCell (p:=⟨w.heap.size,i,none⟩) (amX _) (.int .i64 ((x+z)%p));have hcA:wr.cell? ⟨gA,oA+k,none⟩=some (.int .i64 (i:Int)):=hcA;clear hy hz hV hrl Ve hvi hi hx HS ho;go_wp2_with fail
   refine wp_region_still_tail 13 (by kernel_rfl) (by kernel_rfl) ?_;simp only[aoO,aoo,List.drop_succ_cons,List.drop_zero]
   repeat still_step
   still_call ((cA wr.drew).mono λe w' h=>(⟨h.1,h.2.symm⟩:e=.returned (.int .i64 ((x+z)%p))/\w'=wr.drew))
   repeat still_step
   refine wpStill_nil ?_;change wpList _ _ _ _ _ wr.drew;go_wp2_with fail
   go_roundw;case rel=>exact⟨k+1,by omega,by go_num,hset,he2.drew⟩
   case measure=>simp[intOf];omega
  .obtain rfl:k=L:=by omega
   have hr:ve p n at_ vs k=jU p n at_ vs:=HRF.out;rw[hr]at ho;clear hr;go_wp2_with fail
   go_ret;exact⟨_,rfl,amX _,ho,he⟩
theorem jY(xs:List Int)(h:w.heap.size=m):dH (w.alloc (aO xs)) m xs:=by subst h;exact dH.new w xs
theorem Rd.c1(h:Rd w A [x]):∃g o,A=some ⟨g,o,none⟩/\w.cell? ⟨g,o,none⟩=some (.int .i64 x):=by obtain⟨g,o,y,e,hy,_,hc⟩:=h.at_ (show 0<[x].length by simp);injection hy with hy;subst hy;exact⟨g,o,e,hc⟩
theorem Rd.c2{y:Int}(h:Rd w A [x,y]):∃g o,A=some ⟨g,o,none⟩/\w.cell? ⟨g,o,none⟩=some (.int .i64 x)/\w.cell? ⟨g,o+1,none⟩=some (.int .i64 y):=by obtain⟨g,o,z,e,hz,_,hc⟩:=h.at_ (show 0<[x,y].length by simp);obtain⟨g',o',z',e',hz',_,hc'⟩:=h.at_ (show 1<[x,y].length by simp);injection hz with hz;injection hz' with hz';subst hz hz' e;injection e' with e';injection e' with e1 e2;subst e1 e2;exact⟨g,o,rfl,hc,hc'⟩
theorem mK{r:List Int}(ho:Own w g r)(hr:r.length=n)(hc:n<=c)(hm:w.heap.size=m):iw (w.alloc (.cells #[.slice (some ⟨g,0,none⟩) n c] 23)) (some ⟨m,0,none⟩) [r]:=by
 subst hm hr;have hv:=VB.new w 23 #[.slice (some ⟨g,0,none⟩) r.length c];refine⟨by simp,λj s hj=>?_⟩;rcases j with _|j
 .injection hj with hj;subst hj;exact⟨_,g,c,rfl,hv.c0,hc,ho.ex ((asF w).alloc _)⟩
 .simp at hj
theorem EZ{h d:Nat}{r s:List Int}(ho:Own w g r)(ho':Own w h s)(hr:r.length=n)(hs:s.length=n)(hc:n<=c)(hd:n<=d)(hm:w.heap.size=m):iw (w.alloc (.cells #[.slice (some ⟨g,0,none⟩) n c,.slice (some ⟨h,0,none⟩) n d] 23)) (some ⟨m,0,none⟩) [r,s]:=by
 subst hm hr;have hv:=VB.new w 23 #[.slice (some ⟨g,0,none⟩) r.length c,.slice (some ⟨h,0,none⟩) r.length d];refine⟨by simp,λj q hj=>?_⟩;rcases j with _|_|j
 .injection hj with hj;subst hj;exact⟨_,g,c,rfl,hv.c0,hc,ho.ex ((asF w).alloc _)⟩
 .injection hj with hj;subst hj;exact⟨_,h,d,rfl,by rw[hs];exact hv.c1,by rw[hs];exact hd,ho'.ex ((asF w).alloc _)⟩
 .simp at hj
theorem SQ(p vl:Int)(n a b c:Nat)(P:Option Addr)(pc:Nat)(Q:Option Addr)(qc:Nat)(w:World)(hF:aj p=true)(hP:Rd w P ([a,b].map Int.ofNat))(hQ:Rd w Q ([c].map Int.ofNat))(hb:∀x∈[a,b]++[c],x<n)(hn:n<=1000):
 Calls prog 41 #[.int .i64 p,.int .i64 n,.agg #[.int .i64 5,.int .i64 vl,.slice P 2 pc,.slice Q 1 qc]] w λe' w'=>∃X cx,e'=.returned (.slice X 1 cx)/\iw w' X [jU p n [c,a,b] [1,p-1,p-1]]/\Ex w w':=by
 have h2:=au hF;have h97:=aQ hF;have hwp:IntKind.i64.wrap (p-1)=p-1:=ant _ (by omega);obtain⟨y0,d0,W0,hW0⟩:=VB.al w 45 #[.int .i64 5,.int .i64 vl,.slice P 2 pc,.slice Q 1 qc];rw[hW0]at y0 d0;have q0:=d0.c0;have q2:=d0.c2;have q3:=d0.c3;have Gm:=hP.ex y0;have KI:=hQ.ex y0;clear hP hQ;obtain⟨gI,oI,rfl,i0,i1⟩:=Gm.c2;obtain⟨gO,oO,rfl,c0⟩:=KI.c1;have JU:=amW (show∀x∈[c,a,b],x<n from λx hx=>by
  have hm:=hb x;simp only[anu,ani,anC,or_false]at hx hm;refine hm ?_;omega)
 have HV5:=amW (show∀x∈[1,p-1,p-1],0<=x/\x<=96 from λx hx=>by
  simp only[ani,anC,or_false]at hx;omega)
 have l5:=amW (gL p n [c,a,b] [1,p-1,p-1]);clear hb;go_enter Tryz.func41,Tryz.ntmps41
 go_wp2_with fail
 go_quiet (fail)
 generalize hW1:World.drewN W0 _=W1;have e1:Ex W0 W1:=by rw[<-hW1];exact(asF W0).drewN _
 have x1:=y0.trans e1;have i0:=af e1 i0;have i1:=af e1 i1;have c0:=af e1 c0;have q0:=af e1 q0;have q2:=af e1 q2;have q3:=af e1 q3;clear hW1 hW0 d0 y0;go_wp2_with fail
 have HS2:∀W,Ex W1 W->(Ex W1 W/\W.cell? ⟨gI,oI,none⟩=some (.int .i64 (Int.ofNat a))/\W.cell? ⟨gI,oI+1,none⟩=some (.int .i64 (Int.ofNat b))/\W.cell? ⟨gO,oO,none⟩=some (.int .i64 (Int.ofNat c))):=λW h=>⟨h,af h i0,af h i1,af h c0⟩
 go_region_held3 (λW=>Ex W1 W/\W.cell? ⟨gI,oI,none⟩=some (.int .i64 (Int.ofNat a))/\W.cell? ⟨gI,oI+1,none⟩=some (.int .i64 (Int.ofNat b))/\W.cell? ⟨gO,oO,none⟩=some (.int .i64 (Int.ofNat c))) (first
  |(exact HS2 _ (by repeat (first|exact asF _|exact x5|exact x4|refine Ex.drew ?_|refine Ex.alloc ?_ _|refine Ex.setCell ?_ (by simp) _)))) (first
  |(go_at_call 70
    have hb:=(‹Ex W1 _/\_›).1;refine(jN p n [c,a,b] [1,p-1,p-1] _ 3 _ 3 _ hF ?_ ?_ rfl ?_ ?_ hn).mono ?_
    .refine dH.rd ?_ (by simp)
     repeat (first|exact jY [Int.ofNat c,Int.ofNat a,Int.ofNat b] (by simp)|refine dH.drew ?_|refine dH.ex ?_ ((asF _).alloc _))
    .refine dH.rd ?_ (by simp)
     repeat (first|exact jY [1,p-1,p-1] (by simp)|refine dH.drew ?_|refine dH.ex ?_ ((asF _).alloc _))
    .exact JU.out
    .exact HV5.out
    rintro e w5 ⟨g5,rfl,hg5,o5,EA⟩;have x5:=hb.trans EA;clear hb))
 all_goals
  go_wp2_with fail
  go_ret;exact⟨_,_,rfl,mK o5 l5.out (amX _) rfl,(x1.trans x5).alloc _⟩
theorem SN(p vl:Int)(n a:Nat)(P:Option Addr)(pc:Nat)(Q:Option Addr)(qc:Nat)(w:World)(hF:aj p=true)(hP:Rd w P ([].map Int.ofNat))(hQ:Rd w Q ([a].map Int.ofNat))(hb:∀x∈[]++[a],x<n)(hn:n<=1000):
 Calls prog 41 #[.int .i64 p,.int .i64 n,.agg #[.int .i64 6,.int .i64 vl,.slice P 0 pc,.slice Q 1 qc]] w λe' w'=>∃X cx,e'=.returned (.slice X 1 cx)/\iw w' X [jU p n [a] [(1:Int)]]/\Ex w w':=by
 have h2:=au hF;have h97:=aQ hF;have hwp:IntKind.i64.wrap (p-1)=p-1:=ant _ (by omega);obtain⟨y0,d0,W0,hW0⟩:=VB.al w 45 #[.int .i64 6,.int .i64 vl,.slice P 0 pc,.slice Q 1 qc];rw[hW0]at y0 d0;have q0:=d0.c0;have q2:=d0.c2;have q3:=d0.c3;have Gm:=hP.ex y0;have KI:=hQ.ex y0;clear hP hQ;obtain⟨gO,oO,rfl,c0⟩:=KI.c1;have JU:=amW (show∀x∈[a],x<n from λx hx=>by
  have hm:=hb x;simp only[anu,ani,anC,or_false]at hx hm;refine hm ?_;omega)
 have HV5:=amW (show∀x∈[(1:Int)],0<=x/\x<=96 from λx hx=>by
  simp only[ani,anC,or_false]at hx;omega)
 have l5:=amW (gL p n [a] [(1:Int)]);clear hb;go_enter Tryz.func41,Tryz.ntmps41
 go_wp2_with fail
 go_quiet (fail)
 generalize hW1:World.drewN W0 _=W1;have e1:Ex W0 W1:=by rw[<-hW1];exact(asF W0).drewN _
 have x1:=y0.trans e1;have c0:=af e1 c0;have q0:=af e1 q0;have q2:=af e1 q2;have q3:=af e1 q3;clear hW1 hW0 d0 y0;go_wp2_with fail
 refine(jN p n [a] [1] _ 1 _ 1 _ hF ?_ ?_ rfl JU.out HV5.out hn).mono ?_
 .refine dH.rd ?_ (by simp)
  repeat (first|exact jY [Int.ofNat a] (by simp)|refine dH.drew ?_|refine dH.ex ?_ ((asF _).alloc _))
 .refine dH.rd ?_ (by simp)
  repeat (first|exact jY [1] (by simp)|refine dH.drew ?_|refine dH.ex ?_ ((asF _).alloc _))
 rintro e w5 ⟨g5,rfl,hg5,o5,x5⟩;go_wp2_with fail
 go_ret;exact⟨_,_,rfl,mK o5 l5.out (amX _) rfl,(x1.trans ((((asF W1).alloc _).alloc _).trans x5)).alloc _⟩
theorem SK(p vl:Int)(n a b:Nat)(P:Option Addr)(pc:Nat)(Q:Option Addr)(qc:Nat)(w:World)(hF:aj p=true)(hP:Rd w P ([a].map Int.ofNat))(hQ:Rd w Q ([b].map Int.ofNat))(hb:∀x∈[a]++[b],x<n)(hel:fe p vl=true)(hn:n<=1000):
 Calls prog 41 #[.int .i64 p,.int .i64 n,.agg #[.int .i64 7,.int .i64 vl,.slice P 1 pc,.slice Q 1 qc]] w λe' w'=>∃X cx,e'=.returned (.slice X 1 cx)/\iw w' X [jU p n [b,a] [1,(aA p).neg vl]]/\Ex w w':=by
 have h2:=au hF;have h97:=aQ hF;have hwp:IntKind.i64.wrap (p-1)=p-1:=ant _ (by omega);obtain⟨y0,d0,W0,hW0⟩:=VB.al w 45 #[.int .i64 7,.int .i64 vl,.slice P 1 pc,.slice Q 1 qc];rw[hW0]at y0 d0;have q0:=d0.c0;have q2:=d0.c2;have q3:=d0.c3;have Gm:=hP.ex y0;have KI:=hQ.ex y0;clear hP hQ;obtain⟨gI,oI,rfl,i0⟩:=Gm.c1;obtain⟨gO,oO,rfl,c0⟩:=KI.c1;have YC:0<=vl/\vl<p:=by simpa[fe]using hel
 obtain⟨nv,T9⟩:=xq ((aA p).neg vl);have hne:=Eb hF vl;rw[T9]at hne⊢;have hneb:0<=nv/\nv<p:=by simpa[fe]using hne
 have cN:=λW=>KW p vl W h2 h97 YC
 rw[T9]at cN;have q1:=d0.c1;clear T9 hel hne;have JU:=amW (show∀x∈[b,a],x<n from λx hx=>by
  have hm:=hb x;simp only[anu,ani,anC,or_false]at hx hm;refine hm ?_;omega)
 have HV5:=amW (show∀x∈[1,nv],0<=x/\x<=96 from λx hx=>by
  simp only[ani,anC,or_false]at hx;omega)
 have l5:=amW (gL p n [b,a] [1,nv]);clear hb;go_enter Tryz.func41,Tryz.ntmps41
 go_wp2_with fail
 go_quiet (fail)
 generalize hW1:World.drewN W0 _=W1;have e1:Ex W0 W1:=by rw[<-hW1];exact(asF W0).drewN _
 have x1:=y0.trans e1;have q1:=af e1 q1;have i0:=af e1 i0;have c0:=af e1 c0;have q0:=af e1 q0;have q2:=af e1 q2;have q3:=af e1 q3;clear hW1 hW0 d0 y0;go_wp2_with fail
 have HS2:∀W,Ex W1 W->(Ex W1 W/\W.cell? ⟨gI,oI,none⟩=some (.int .i64 (Int.ofNat a))/\W.cell? ⟨gO,oO,none⟩=some (.int .i64 (Int.ofNat b))/\W.cell? ⟨w.heap.size,1,none⟩=some (.int .i64 vl)):=λW h=>⟨h,af h i0,af h c0,af h q1⟩
 go_region_held3 (λW=>Ex W1 W/\W.cell? ⟨gI,oI,none⟩=some (.int .i64 (Int.ofNat a))/\W.cell? ⟨gO,oO,none⟩=some (.int .i64 (Int.ofNat b))/\W.cell? ⟨w.heap.size,1,none⟩=some (.int .i64 vl)) (first
  |(exact HS2 _ (by repeat (first|exact asF _|exact x5|exact x4|refine Ex.drew ?_|refine Ex.alloc ?_ _|refine Ex.setCell ?_ (by simp) _)))) (first
  |(go_at_call 71
    refine(cN _).mono ?_;rintro e _ ⟨rfl,rfl⟩)
  |(go_at_call 70
    have hb:=(‹Ex W1 _/\_›).1;refine(jN p n [b,a] [1,nv] _ 2 _ 2 _ hF ?_ ?_ rfl ?_ ?_ hn).mono ?_
    .refine dH.rd ?_ (by simp)
     repeat (first|exact jY [Int.ofNat b,Int.ofNat a] (by simp)|refine dH.drew ?_|refine dH.ex ?_ ((asF _).alloc _))
    .refine dH.rd ?_ (by simp)
     repeat (first|exact jY [1,nv] (by simp)|refine dH.drew ?_|refine dH.ex ?_ ((asF _).alloc _))
    .exact JU.out
    .exact HV5.out
    rintro e w5 ⟨g5,rfl,hg5,o5,EA⟩;have x5:=hb.trans EA;clear hb))
 all_goals
  go_wp2_with fail
  go_ret;exact⟨_,_,rfl,mK o5 l5.out (amX _) rfl,(x1.trans x5).alloc _⟩
theorem NZ(p vl:Int)(n a b c:Nat)(P:Option Addr)(pc:Nat)(Q:Option Addr)(qc:Nat)(w:World)(hF:aj p=true)(hP:Rd w P ([c].map Int.ofNat))(hQ:Rd w Q ([a,b].map Int.ofNat))(hb:∀x∈[c]++[a,b],x<n)(hn:n<=1000):
 Calls prog 41 #[.int .i64 p,.int .i64 n,.agg #[.int .i64 11,.int .i64 vl,.slice P 1 pc,.slice Q 2 qc]] w λe' w'=>∃X cx,e'=.returned (.slice X 1 cx)/\iw w' X [jU p n [c,a,b] [1,p-1,p-1]]/\Ex w w':=by
 have h2:=au hF;have h97:=aQ hF;have hwp:IntKind.i64.wrap (p-1)=p-1:=ant _ (by omega);obtain⟨y0,d0,W0,hW0⟩:=VB.al w 45 #[.int .i64 11,.int .i64 vl,.slice P 1 pc,.slice Q 2 qc];rw[hW0]at y0 d0;have q0:=d0.c0;have q2:=d0.c2;have q3:=d0.c3;have Gm:=hP.ex y0;have KI:=hQ.ex y0;clear hP hQ;obtain⟨gI,oI,rfl,i0,i1⟩:=KI.c2;obtain⟨gO,oO,rfl,c0⟩:=Gm.c1;have JU:=amW (show∀x∈[c,a,b],x<n from λx hx=>by
  have hm:=hb x;simp only[anu,ani,anC,or_false]at hx hm;refine hm ?_;omega)
 have HV5:=amW (show∀x∈[1,p-1,p-1],0<=x/\x<=96 from λx hx=>by
  simp only[ani,anC,or_false]at hx;omega)
 have l5:=amW (gL p n [c,a,b] [1,p-1,p-1]);clear hb;go_enter Tryz.func41,Tryz.ntmps41
 go_wp2_with fail
 go_quiet (fail)
 go_wp2_with fail
 go_quiet (fail)
 generalize hW1:World.drewN (World.drewN W0 _) _=W1;have e1:Ex W0 W1:=by rw[<-hW1];exact((asF W0).drewN _).drewN _
 have x1:=y0.trans e1;have i0:=af e1 i0;have i1:=af e1 i1;have c0:=af e1 c0;have q0:=af e1 q0;clear hW1 hW0 d0 y0;go_wp2_with fail
 have HS2:∀W,Ex W1 W->(Ex W1 W/\W.cell? ⟨gI,oI,none⟩=some (.int .i64 (Int.ofNat a))/\W.cell? ⟨gI,oI+1,none⟩=some (.int .i64 (Int.ofNat b))/\W.cell? ⟨gO,oO,none⟩=some (.int .i64 (Int.ofNat c))):=λW h=>⟨h,af h i0,af h i1,af h c0⟩
 go_region_held3 (λW=>Ex W1 W/\W.cell? ⟨gI,oI,none⟩=some (.int .i64 (Int.ofNat a))/\W.cell? ⟨gI,oI+1,none⟩=some (.int .i64 (Int.ofNat b))/\W.cell? ⟨gO,oO,none⟩=some (.int .i64 (Int.ofNat c))) (first
  |(exact HS2 _ (by repeat (first|exact asF _|exact x5|exact x4|refine Ex.drew ?_|refine Ex.alloc ?_ _|refine Ex.setCell ?_ (by simp) _)))) (first
  |(go_at_call 70
    have hb:=(‹Ex W1 _/\_›).1;refine(jN p n [c,a,b] [1,p-1,p-1] _ 3 _ 3 _ hF ?_ ?_ rfl ?_ ?_ hn).mono ?_
    .refine dH.rd ?_ (by simp)
     repeat (first|exact jY [Int.ofNat c,Int.ofNat a,Int.ofNat b] (by simp)|refine dH.drew ?_|refine dH.ex ?_ ((asF _).alloc _))
    .refine dH.rd ?_ (by simp)
     repeat (first|exact jY [1,p-1,p-1] (by simp)|refine dH.drew ?_|refine dH.ex ?_ ((asF _).alloc _))
    .exact JU.out
    .exact HV5.out
    rintro e w5 ⟨g5,rfl,hg5,o5,EA⟩;have x5:=hb.trans EA;clear hb))
 all_goals
  go_wp2_with fail
  go_ret;exact⟨_,_,rfl,mK o5 l5.out (amX _) rfl,(x1.trans x5).alloc _⟩
theorem NY(p vl:Int)(n a:Nat)(P:Option Addr)(pc:Nat)(Q:Option Addr)(qc:Nat)(w:World)(hF:aj p=true)(hP:Rd w P ([a].map Int.ofNat))(hQ:Rd w Q ([].map Int.ofNat))(hb:∀x∈[a]++[],x<n)(hn:n<=1000):
 Calls prog 41 #[.int .i64 p,.int .i64 n,.agg #[.int .i64 12,.int .i64 vl,.slice P 1 pc,.slice Q 0 qc]] w λe' w'=>∃X cx,e'=.returned (.slice X 1 cx)/\iw w' X [jU p n [a] [(1:Int)]]/\Ex w w':=by
 have h2:=au hF;have h97:=aQ hF;have hwp:IntKind.i64.wrap (p-1)=p-1:=ant _ (by omega);obtain⟨y0,d0,W0,hW0⟩:=VB.al w 45 #[.int .i64 12,.int .i64 vl,.slice P 1 pc,.slice Q 0 qc];rw[hW0]at y0 d0;have q0:=d0.c0;have q2:=d0.c2;have q3:=d0.c3;have Gm:=hP.ex y0;have KI:=hQ.ex y0;clear hP hQ;obtain⟨gO,oO,rfl,c0⟩:=Gm.c1;have JU:=amW (show∀x∈[a],x<n from λx hx=>by
  have hm:=hb x;simp only[anu,ani,anC,or_false]at hx hm;refine hm ?_;omega)
 have HV5:=amW (show∀x∈[(1:Int)],0<=x/\x<=96 from λx hx=>by
  simp only[ani,anC,or_false]at hx;omega)
 have l5:=amW (gL p n [a] [(1:Int)]);clear hb;go_enter Tryz.func41,Tryz.ntmps41
 go_wp2_with fail
 go_quiet (fail)
 go_wp2_with fail
 go_quiet (fail)
 generalize hW1:World.drewN (World.drewN W0 _) _=W1;have e1:Ex W0 W1:=by rw[<-hW1];exact((asF W0).drewN _).drewN _
 have x1:=y0.trans e1;have c0:=af e1 c0;have q0:=af e1 q0;clear hW1 hW0 d0 y0;go_wp2_with fail
 refine(jN p n [a] [1] _ 1 _ 1 _ hF ?_ ?_ rfl JU.out HV5.out hn).mono ?_
 .refine dH.rd ?_ (by simp)
  repeat (first|exact jY [Int.ofNat a] (by simp)|refine dH.drew ?_|refine dH.ex ?_ ((asF _).alloc _))
 .refine dH.rd ?_ (by simp)
  repeat (first|exact jY [1] (by simp)|refine dH.drew ?_|refine dH.ex ?_ ((asF _).alloc _))
 rintro e w5 ⟨g5,rfl,hg5,o5,x5⟩;go_wp2_with fail
 go_ret;exact⟨_,_,rfl,mK o5 l5.out (amX _) rfl,(x1.trans ((((asF W1).alloc _).alloc _).trans x5)).alloc _⟩
theorem NW(p vl:Int)(n a b:Nat)(P:Option Addr)(pc:Nat)(Q:Option Addr)(qc:Nat)(w:World)(hF:aj p=true)(hP:Rd w P ([b].map Int.ofNat))(hQ:Rd w Q ([a].map Int.ofNat))(hb:∀x∈[b]++[a],x<n)(hel:fe p vl=true)(hn:n<=1000):
 Calls prog 41 #[.int .i64 p,.int .i64 n,.agg #[.int .i64 13,.int .i64 vl,.slice P 1 pc,.slice Q 1 qc]] w λe' w'=>∃X cx,e'=.returned (.slice X 1 cx)/\iw w' X [jU p n [b,a] [1,(aA p).neg vl]]/\Ex w w':=by
 have h2:=au hF;have h97:=aQ hF;have hwp:IntKind.i64.wrap (p-1)=p-1:=ant _ (by omega);obtain⟨y0,d0,W0,hW0⟩:=VB.al w 45 #[.int .i64 13,.int .i64 vl,.slice P 1 pc,.slice Q 1 qc];rw[hW0]at y0 d0;have q0:=d0.c0;have q2:=d0.c2;have q3:=d0.c3;have Gm:=hP.ex y0;have KI:=hQ.ex y0;clear hP hQ;obtain⟨gI,oI,rfl,i0⟩:=KI.c1;obtain⟨gO,oO,rfl,c0⟩:=Gm.c1;have YC:0<=vl/\vl<p:=by simpa[fe]using hel
 obtain⟨nv,T9⟩:=xq ((aA p).neg vl);have hne:=Eb hF vl;rw[T9]at hne⊢;have hneb:0<=nv/\nv<p:=by simpa[fe]using hne
 have cN:=λW=>KW p vl W h2 h97 YC
 rw[T9]at cN;have q1:=d0.c1;clear T9 hel hne;have JU:=amW (show∀x∈[b,a],x<n from λx hx=>by
  have hm:=hb x;simp only[anu,ani,anC,or_false]at hx hm;refine hm ?_;omega)
 have HV5:=amW (show∀x∈[1,nv],0<=x/\x<=96 from λx hx=>by
  simp only[ani,anC,or_false]at hx;omega)
 have l5:=amW (gL p n [b,a] [1,nv]);clear hb;go_enter Tryz.func41,Tryz.ntmps41
 go_wp2_with fail
 go_quiet (fail)
 go_wp2_with fail
 go_quiet (fail)
 generalize hW1:World.drewN (World.drewN W0 _) _=W1;have e1:Ex W0 W1:=by rw[<-hW1];exact((asF W0).drewN _).drewN _
 have x1:=y0.trans e1;have q1:=af e1 q1;have i0:=af e1 i0;have c0:=af e1 c0;have q0:=af e1 q0;clear hW1 hW0 d0 y0;go_wp2_with fail
 have HS2:∀W,Ex W1 W->(Ex W1 W/\W.cell? ⟨gI,oI,none⟩=some (.int .i64 (Int.ofNat a))/\W.cell? ⟨gO,oO,none⟩=some (.int .i64 (Int.ofNat b))/\W.cell? ⟨w.heap.size,1,none⟩=some (.int .i64 vl)):=λW h=>⟨h,af h i0,af h c0,af h q1⟩
 go_region_held3 (λW=>Ex W1 W/\W.cell? ⟨gI,oI,none⟩=some (.int .i64 (Int.ofNat a))/\W.cell? ⟨gO,oO,none⟩=some (.int .i64 (Int.ofNat b))/\W.cell? ⟨w.heap.size,1,none⟩=some (.int .i64 vl)) (first
  |(exact HS2 _ (by repeat (first|exact asF _|exact x5|exact x4|refine Ex.drew ?_|refine Ex.alloc ?_ _|refine Ex.setCell ?_ (by simp) _)))) (first
  |(go_at_call 71
    refine(cN _).mono ?_;rintro e _ ⟨rfl,rfl⟩)
  |(go_at_call 70
    have hb:=(‹Ex W1 _/\_›).1;refine(jN p n [b,a] [1,nv] _ 2 _ 2 _ hF ?_ ?_ rfl ?_ ?_ hn).mono ?_
    .refine dH.rd ?_ (by simp)
     repeat (first|exact jY [Int.ofNat b,Int.ofNat a] (by simp)|refine dH.drew ?_|refine dH.ex ?_ ((asF _).alloc _))
    .refine dH.rd ?_ (by simp)
     repeat (first|exact jY [1,nv] (by simp)|refine dH.drew ?_|refine dH.ex ?_ ((asF _).alloc _))
    .exact JU.out
    .exact HV5.out
    rintro e w5 ⟨g5,rfl,hg5,o5,EA⟩;have x5:=hb.trans EA;clear hb))
 all_goals
  go_wp2_with fail
  go_ret;exact⟨_,_,rfl,mK o5 l5.out (amX _) rfl,(x1.trans x5).alloc _⟩
theorem TW{y:Int}(h:w.heap.size=m):Rd (w.alloc (.cells #[.int .i64 x,.int .i64 y] 3)) (some ⟨m,0,none⟩) [x,y]:=by subst h;exact(dH.new w [x,y]).rd (by simp)
theorem SV(p vl:Int)(n a b c:Nat)(P:Option Addr)(pc:Nat)(Q:Option Addr)(qc:Nat)(w:World)(hF:aj p=true)(hP:Rd w P ([a].map Int.ofNat))(hQ:Rd w Q ([b,c].map Int.ofNat))(hb:∀x∈[a]++[b,c],x<n)(hn:n<=1000):
 Calls prog 41 #[.int .i64 p,.int .i64 n,.agg #[.int .i64 3,.int .i64 vl,.slice P 1 pc,.slice Q 2 qc]] w λe' w'=>∃X cx,e'=.returned (.slice X 2 cx)/\iw w' X [jU p n [b,a] [1,p-1],jU p n [c,a] [1,p-1]]/\Ex w w':=by
 have h2:=au hF;have h97:=aQ hF;have hwp:IntKind.i64.wrap (p-1)=p-1:=ant _ (by omega);obtain⟨y0,d0,W0,hW0⟩:=VB.al w 45 #[.int .i64 3,.int .i64 vl,.slice P 1 pc,.slice Q 2 qc];rw[hW0]at y0 d0;have q0:=d0.c0;have q2:=d0.c2;have q3:=d0.c3;have Gm:=hP.ex y0;have KI:=hQ.ex y0;clear hP hQ;obtain⟨gI,oI,rfl,i0⟩:=Gm.c1;obtain⟨gO,oO,rfl,c0,c1⟩:=KI.c2;have HB4:=amW (show∀x∈[b,a],x<n from λx hx=>by
  have hm:=hb x;simp only[anu,ani,anC,or_false]at hx hm;refine hm ?_;omega)
 have HV4:=amW (show∀x∈[1,p-1],0<=x/\x<=96 from λx hx=>by
  simp only[ani,anC,or_false]at hx;omega)
 have l4:=amW (gL p n [b,a] [1,p-1]);have JU:=amW (show∀x∈[c,a],x<n from λx hx=>by
  have hm:=hb x;simp only[anu,ani,anC,or_false]at hx hm;refine hm ?_;omega)
 have HV5:=amW (show∀x∈[1,p-1],0<=x/\x<=96 from λx hx=>by
  simp only[ani,anC,or_false]at hx;omega)
 have l5:=amW (gL p n [c,a] [1,p-1]);clear hb;go_enter Tryz.func41,Tryz.ntmps41
 go_wp2_with fail
 go_quiet (fail)
 generalize hW1:World.drewN W0 _=W1;have e1:Ex W0 W1:=by rw[<-hW1];exact(asF W0).drewN _
 have x1:=y0.trans e1;have i0:=af e1 i0;have c0:=af e1 c0;have c1:=af e1 c1;have q0:=af e1 q0;have q2:=af e1 q2;have q3:=af e1 q3;clear hW1 hW0 d0 y0;go_wp2_with fail
 have HS2:∀W,Ex W1 W->(Ex W1 W/\W.cell? ⟨gI,oI,none⟩=some (.int .i64 (Int.ofNat a))/\W.cell? ⟨gO,oO,none⟩=some (.int .i64 (Int.ofNat b))/\W.cell? ⟨gO,oO+1,none⟩=some (.int .i64 (Int.ofNat c))):=λW h=>⟨h,af h i0,af h c0,af h c1⟩
 go_region_held3 (λW=>Ex W1 W/\W.cell? ⟨gI,oI,none⟩=some (.int .i64 (Int.ofNat a))/\W.cell? ⟨gO,oO,none⟩=some (.int .i64 (Int.ofNat b))/\W.cell? ⟨gO,oO+1,none⟩=some (.int .i64 (Int.ofNat c))) (first
  |(exact HS2 _ (by repeat (first|exact asF _|exact x5|exact x4|refine Ex.drew ?_|refine Ex.alloc ?_ _|refine Ex.setCell ?_ (by simp) _)))) (first
  |(go_at_call 70
    have hg:=OM.size;have hb:=(‹Ex W1 _/\_›).1;refine(jN p n [c,a] [1,p-1] _ 2 _ 2 _ hF ?_ ?_ rfl ?_ ?_ hn).mono ?_
    .show Rd _ _ [((c:Nat):Int),((a:Nat):Int)]
     repeat (first|(with_reducible refine TW ?_;(simp;done))|with_reducible refine Rd.drew ?_|with_reducible refine Rd.ex ?_ ((asF _).alloc _)|with_reducible refine Rd.ex ?_ OM)
    .repeat (first|(with_reducible refine TW ?_;(simp;done))|with_reducible refine Rd.drew ?_|with_reducible refine Rd.ex ?_ ((asF _).alloc _)|with_reducible refine Rd.ex ?_ OM)
    .exact JU.out
    .exact HV5.out
    rintro e w5 ⟨g5,rfl,hg5,o5,EA⟩;have x5:=hb.trans EA;clear hb)
  |(go_at_call 70
    skip
    have hb:=(‹Ex W1 _/\_›).1;refine(jN p n [b,a] [1,p-1] _ 2 _ 2 _ hF ?_ ?_ rfl ?_ ?_ hn).mono ?_
    .show Rd _ _ [((b:Nat):Int),((a:Nat):Int)]
     repeat (first|(with_reducible refine TW ?_;(simp;done))|with_reducible refine Rd.drew ?_|with_reducible refine Rd.ex ?_ ((asF _).alloc _))
    .repeat (first|(with_reducible refine TW ?_;(simp;done))|with_reducible refine Rd.drew ?_|with_reducible refine Rd.ex ?_ ((asF _).alloc _))
    .exact HB4.out
    .exact HV4.out
    rintro e w4 ⟨g4,rfl,hg4,o4,OM⟩;have x4:=hb.trans OM;clear hb))
 all_goals
  go_wp2_with fail
  go_ret;exact⟨_,_,rfl,EZ (o4.ex (by repeat (first|exact asF _|exact EA|refine Ex.trans ?_ EA|refine Ex.drew ?_|refine Ex.alloc ?_ _))) o5 l4.out l5.out (amX _) (amX _) rfl,(x1.trans x5).alloc _⟩
end Go.Proofs.YtekcehkhdjoffaaGreatDoor
