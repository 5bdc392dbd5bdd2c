/- Lemmas and walks on terms over rational functions: IsRatRelation, on both sides, in the uniform .. -/
import Derived.Test.YtekcehkhdjoffaaGreatDoorQ08
import Derived.Test.YtekcehkhdjoffaaGreatDoorQ07
namespace Go.Proofs.YtekcehkhdjoffaaGreatDoor
set_option maxRecDepth 100000
set_option maxHeartbeats 8000000
set_option linter.all false
open Go Go.RowKit
variable{p:Int}{x xs:List (List aF)}{r:List aF}{B G H a b c j n q:Nat}{S T:Nat->Prop}{A P:Option Addr}{K α:Type}{v:Value}{w w':World}
noncomputable def PO (p:Int) (x:iJ):Bool:=@decide (AQ p x) (Classical.propDecidable _)
theorem xU{x:iJ}:PO p x=true↔AQ p x:=@decide_eq_true_iff (AQ p x) (Classical.propDecidable _)
theorem XH{x:iJ}{b:Bool}(h:b=true↔AQ p x):b=PO p x:=by rw[an3,h,xU]
theorem GE.Na{E:EL α}{t:TypeId}{xs:List α}(h:GE E t w B H (.slice none 0 0) xs):xs=[]:=by
 obtain⟨_,us,al,bl,hl,ho,_⟩:=h;rcases ho.2 with⟨e,hn⟩|⟨g,cap,cur,e,_⟩
 .exact aou hn
 .cases e
theorem GE.ox{E:EL α}{E':EX α}{t:TypeId}{xs:List α}(h:GE E t w B H v xs)(hl:xs.length<=1099511627776)(hk:E'.k=E.k)(hE:∀{a b vs x},E.O w a b vs x->E'.O w (λk=>a<=k/\k<b) vs x):
 ∃A c,v=.slice A xs.length c/\xs.length<=c/\OX E' t w (λk=>B<=k/\k<H) A xs:=by
 by_cases hv:v=.slice none 0 0
 .subst hv;obtain rfl:=h.Na;exact⟨none,0,rfl,amX _,OX.nil _ _ _ _ _⟩
 .obtain⟨g,c,rfl,hgc,_⟩:=h.form hv;obtain⟨cur,al,bl,_,hB,hH,hh,h1,h2⟩:=h.at_;refine⟨_,c,rfl,hgc,hl,λj k=>al j<=k/\k<bl j,λj x hj=>?_,λi j k hi hj hne a b=>by have:=h2 i j hi hj hne;omega⟩;obtain⟨u,q1,q2,q3,q4,q5⟩:=h1 j x hj;exact⟨g,0,u,cur,rfl,⟨hB,hH⟩,hh,λi y hy=>by rw[hk,anE];exact q1 i y hy,hE q2,λk hk=>by omega,by omega⟩
theorem GE.k1{E:EL α}{t:TypeId}{k:Nat}{xs:List α}(h:GE E t w B H v xs)(he:aJ k w w')(hk:k<B):GE E t w' B H v xs:=h.iv (fD.a_ he) (by omega)
theorem uG{vs:List Value}{x:aF}(h:pq.O w a b vs x):Lp.O w (λk=>a<=k/\k<b) vs x:=by obtain⟨v0,v1,e,h⟩:=h;exact⟨v0,v1,e,h.xf⟩
theorem PV{x:List aF}(h:GE pq 51 w a b v x)(hl:x.length<=1099511627776):JV.O w (λk=>a<=k/\k<b) [v] x:=by obtain⟨A,c,e,hc,o⟩:=h.ox (E':=Lp) hl rfl uG;exact⟨A,c,by rw[e],hc,o⟩
def AY:EL (List aF) where
 k:=1
 O:=λw a b vs x=>∃v,vs=[v]/\x.length<=1099511627776/\GE pq 51 w a b v x
 lN:=λh=>by obtain⟨_,rfl,_⟩:=h;rfl
 keep:=λh hk=>by obtain⟨v,e,h1,h2⟩:=h;exact⟨v,e,h1,h2.keep hk⟩
 one:=λh u hu=>by obtain⟨v,e,h1,h2⟩:=h;obtain⟨A,c,e2⟩:=h2.lu;subst e e2;simp at hu;subst hu;rfl
theorem Vq{vs:List Value}{x:List aF}(h:AY.O w a b vs x):JV.O w (λk=>a<=k/\k<b) vs x:=by obtain⟨v,rfl,hl,h⟩:=h;exact PV h hl
theorem vF(h:GE AY 48 w B H v xs)(hH:H<=w.heap.size){v0:Value}{x:List aF}(hu:GE pq 51 w a b v0 x)(hx:x.length<=1099511627776)(ha:H<=a)(hab:a<=b)(hb:b<=w.heap.size)(hB:B<=H)(hl:xs.length+1<=1099511627776):
 ∃v' w',(Builtin.append_ #[27,27] 27 #[v,.slice (some ⟨w.heap.size,0,none⟩) 1 1]).run Tryz.prog (w.alloc (.cells #[v0] 48))=.ok v' w'/\
  GE AY 48 w' B w'.heap.size v' (xs++[x])/\wB v.ownBlock w w'/\v'≠.slice none 0 0/\∀b',Ex b' w->b'.heap.size<=B->Ex b' w':=by
 obtain⟨i,hi,hz,hs,hby⟩:=anA fZ;obtain⟨v',w',h1,h2,h3,_,h5,h6⟩:=GE.push AY Tryz.underlying27 hi hz hs hby rfl (by decide) (by omega) h hH ⟨v0,rfl,hx,hu⟩ ha hab hb hB hl;exact⟨v',w',h1,h2,h3,h5,h6⟩
theorem GE.rows(h:GE AY 48 w B H v xs)(hl:xs.length<=1099511627776):∃A c,v=.slice A xs.length c/\OX JV 48 w (λk=>B<=k/\k<H) A xs/\wo w A xs:=by obtain⟨A,c,e,_,o⟩:=h.ox (E':=JV) hl rfl Vq;exact⟨A,c,e,o,o.P7⟩
def rV(w:World)(a b:Nat)(v:Value)(x:List (List aF)):Prop:=∃(A:Option Addr) (c:Nat) (S:Nat->Prop),v=.slice A x.length c/\(∀k,S k->a<=k/\k<b)/\OX JV 48 w S A x
theorem rV.off(h:rV w a b v x)(ht:fF x<=1125899906842624):OFF w a b v x:=⟨h,ht⟩
theorem rV.iv{a' b':Nat}(h:rV w a b v x)(k:fD a' b' w w')(hd:b<=a'∨b'<=a):rV w' a b v x:=by obtain⟨A,c,S,e,hS,o⟩:=h;exact⟨A,c,S,e,hS,o.keep λi hi hl=>k.block i hl (by have:=hS i hi;omega)⟩
theorem rV.ex(h:rV w a b v x)(k:Ex w w'):rV w' a b v x:=by obtain⟨A,c,S,e,hS,o⟩:=h;exact⟨A,c,S,e,hS,o.ex k⟩
theorem rV.more{a' b':Nat}(h:rV w a b v x)(h1:a'<=a)(h2:b<=b'):rV w a' b' v x:=by obtain⟨A,c,S,e,hS,o⟩:=h;exact⟨A,c,S,e,λk hk=>by have:=hS k hk;omega,o⟩
theorem rV.rd(h:rV w a b v x):∃A c,v=.slice A x.length c/\gm iE w A x:=by obtain⟨A,c,S,e,hS,o⟩:=h;exact⟨A,c,e,o.II rfl JB⟩
theorem rV.P7(h:rV w a b (.slice A n c) x):wo w A x:=by obtain⟨A',c',S,e,hS,o⟩:=h;injection e with e1 _ _;subst e1;exact o.P7
theorem rV.nil(w:World)(a b:Nat)(A:Option Addr)(c:Nat):rV w a b (.slice A 0 c) []:=⟨A,c,λ_=>False,rfl,λ_ hk=>hk.elim,OX.nil _ _ _ _ _⟩
theorem GE.ofx(h:GE AY 48 w B H v xs)(hl:xs.length<=1099511627776):rV w B H v xs:=by obtain⟨A,c,e,o,_⟩:=h.rows hl;exact⟨A,c,_,e,λk hk=>hk,o⟩
def wD(l i:Nat):List aF:=(List.replicate l zF).set i oF
theorem wV{α:Type}{Q:Nat->α->Prop}:∀(n:Nat),(∀j,j<n->∃a,Q j a)->∃l:List α,l.length=n/\∀(j:Nat) (a:α),l[j]?=some a->Q j a
 |0,_=>⟨[],rfl,λj a h=>by simp at h⟩
 |n+1,h=>by
  obtain⟨l,h1,h2⟩:=wV n (λj hj=>h j (by omega));obtain⟨a,ha⟩:=h n (by omega);refine⟨l++[a],by simp[h1],λj b hb=>?_⟩;by_cases e:j<l.length
  .rw[anN e]at hb;exact h2 j b hb
  .rw[anw (by omega)]at hb;have:j-l.length=0:=by
    rcases Nat.eq_zero_or_pos (j-l.length)with h0|h0
    .exact h0
    .rw[anz (by simp;omega)]at hb;cases hb
   rw[this]at hb;injection hb with hb;subst hb;rw[show j=n by omega];exact ha
theorem YW{O:Ops K}{Z:List (List K)}{r t:Nat}(hr:r<=t)(h:∀(i:Nat) (v:List K),r<=i->i<t->Z[i]?=some v->O.jq (O.el v c)=true){v:List K}(hv:Z[t]?=some v)(hz:O.jq (O.el v c)=false):O.qg Z r c=t:=by
 have htl:=(am2.1 hv).1;have:(Z.drop r).findIdx (λrow=> !O.jq (O.el row c))=t-r:=by
  rw[List.findIdx_eq (by rw[anp];omega)]
  refine⟨by rw[aoS];have e:Z[r+(t-r)]'(by omega)=v:=by have:=(am2.1 hv).2;rw[<-this];congr 1;omega
            rw[e,hz];rfl,λj hj=>by
   rw[aoS,h (r+j) _ (by omega) (by omega) (am0 _)];rfl⟩
 unfold Ops.qg;rw[this];omega
theorem YV{O:Ops K}{Z:List (List K)}{r:Nat}(hr:r<=Z.length)(h:∀(i:Nat) (v:List K),r<=i->i<Z.length->Z[i]?=some v->O.jq (O.el v c)=true):¬O.qg Z r c<Z.length:=by
 have:(Z.drop r).findIdx (λrow=> !O.jq (O.el row c))=Z.length-r:=by rw[<-anp,List.findIdx_eq_length];intro v hv;obtain⟨j,hj⟩:=anc hv;rw[anB]at hj;rw[h (r+j) v (by omega) (am2.1 hj).1 hj];rfl
 unfold Ops.qg;rw[this];omega
theorem jH.app{L:Nat}{u v:List aF}(h:jH p L u)(k:jH p L v):jH p L (u++v):=λx hx=>by
 rcases anu.1 hx with e|e
 .exact h x e
 .exact k x e
theorem Uu{x:iJ}(h:PO p x=true):∃l r:Nat,x.l=(l:Int)/\x.r=(r:Int)/\l+r<=12/\iK p 21 x.b/\aZ (l+r) x.b/\(∀v∈x.b,dY v<l+r)/\x.b.length<=12/\aj p=true:=by
 obtain⟨h1,h2,h3,h4⟩:=xU.1 h;have h5:=DZ h2;have h6:=J4 h1 (CY (vJ h3)) h4;obtain⟨l,hl⟩:∃l:Nat,x.l=(l:Int):=⟨x.l.toNat,by omega⟩;obtain⟨r,hr⟩:∃r:Nat,x.r=(r:Int):=⟨x.r.toNat,by omega⟩;have e:(x.l+x.r).toNat=l+r:=by omega
 rw[e]at h3 h4 h6;exact⟨l,r,hl,hr,by omega,vJ h3,nS h3,λv hv=>(h4.one v hv).1,by omega,h1⟩
def AP(S:Nat->Prop)(G:Nat)(w:World)(P:Option Addr)(r:List aF):Prop:=∀w',bn (λk=>k=G∨S k) w w'->gm EF w' P r
theorem AP.rd(h:AP S G w P r):gm EF w P r:=h w (bn.refl _ _)
theorem AP.k1(h:AP S G w P r)(k:aJ G w w'):AP S G w' P r:=λw2 h2=>h w2 ((bn.a_ (S:=λk=>k=G∨S k) k (.inl rfl)).trans h2 (λ_ _ h=>h))
theorem AP.ex(h:AP S G w P r)(k:Ex w w'):AP S G w' P r:=h.k1 (aJ.aN k)
theorem AP.iv(h:AP S G w P r)(k:bn S w w'):gm EF w' P r:=h w' (k.widen λ_ _ h=> .inr h)
theorem aJ.cell(k:aJ G w w'){g o:Nat}(hg:g≠G)(h:w.cell? ⟨g,o,none⟩=some v):w'.cell? ⟨g,o,none⟩=some v:=
 (anm (w:=w) (a:=⟨g,o,none⟩) (k.block g (iM (p:=⟨g,o,none⟩) h) (λe=>by injection e with e;exact hg e))).trans h
theorem AP.ku(h:AP S G w P r)(hj:j<r.length):
 ∃g off x X xc Y yc,P=some ⟨g,off,none⟩/\r[j]?=some x/\¬(g=G)/\w.cell? ⟨g,off+j*2,none⟩=some (.slice X x.n.length xc)/\w.cell? ⟨g,off+j*2+1,none⟩=some (.slice Y x.d.length yc)/\∀w',aJ G w w'->Rd w' X x.n/\Rd w' Y x.d:=by
 obtain⟨g,off,x,X,xc,Y,yc,rfl,hx,c0,c1,hX,hY⟩:=h.rd.ku hj;have hne:¬(g=G):=λe=>by
  subst e;obtain⟨w2,hw2⟩:∃w2:World,w2={w with heap:=w.heap.modify g λ_=> .cells #[] 0 (0,0)}:=⟨_,rfl⟩;have k:aJ g w w2:=by subst hw2;refine⟨rfl,rfl,rfl,by simp,λi hi hn=>?_⟩;simp only[aoa];rw[amZ (λe=>hn (by rw[e]))]
  obtain⟨g',off',x',X',xc',Y',yc',e,_,c0',_⟩:=(h w2 (bn.a_ k (.inl rfl))).ku hj;injection e with e;injection e with e1 e2;subst e1;have hlt:=iM (p:=⟨g,off+j*2,none⟩) c0;rw[hw2]at c0';simp[World.cell?,aoa,Array.getElem?_eq_getElem hlt]at c0'
 refine⟨g,off,x,X,xc,Y,yc,rfl,hx,hne,c0,c1,λw' k=>?_⟩;obtain⟨g',off',x',X',xc',Y',yc',e,hx',c0',c1',hX',hY'⟩:=(h w' (bn.a_ k (.inl rfl))).ku hj;injection e with e;injection e with e1 e2;subst e1 e2;rw[hx]at hx';injection hx' with hx';subst hx';have d0:=aJ.cell k hne c0;have d1:=aJ.cell k hne c1;rw[c0']at d0;rw[c1']at d1;injection d0 with d0;injection d0 with d0;injection d1 with d1;injection d1 with d1;subst d0 d1;exact⟨hX',hY'⟩
theorem UE{O:Ops K}{Z:List (List K)}{r t:Nat}{zt zr:List K}(Jj:Z[t]?=some zt)(BF:Z[r]?=some zr){k:Nat}{u:List K}(hu:((Z.set t zr).set r (O.oJ zt c))[k]?=some u):
 (O.piv Z r c t)[k]?=some (if k=r then O.oJ zt c else if O.jq (O.el u c)then u else O.less u (O.el u c) (O.oJ zt c)):=by
 have htl:=(am2.1 Jj).1;have hrl:=(am2.1 BF).1;have hkl:k<Z.length:=by have:=(am2.1 hu).1;simpa using this
 have e1:Z.getD t []=zt:=by rw[am6,Jj];rfl
 rw[lT O hrl htl c k hkl,e1];unfold Ops.Bd;by_cases e:k=r
 .rw[amY e,amY e]
 .have:Z.getD (if k=t then r else if k=r then t else k) []=u:=by
   rw[ang,amZ (λh=>e h.symm),ang]at hu;by_cases e2:k=t
   .rw[amY e2.symm,amY htl]at hu;injection hu with hu;rw[amY e2,am6,BF,<-hu];rfl
   .rw[amZ (λh=>e2 h.symm)]at hu;rw[amZ e2,amZ e,am6,hu];rfl
  rw[this]
theorem GE.rdn{m:Nat}{xs:List aF}(h:GE pq 51 w B H (.slice P m c) xs)(hG:G<B)(hb:∀k,S k->k<B)(hl:xs.length<=1099511627776):AP S G w P xs:=λw' k=>by obtain⟨A,c',e,_,o⟩:=(h.keep (w':=w') λi h1 _ hi=>k.block i hi (λe=>e.elim (λe=>by omega) (λe=>by have:=hb i e;omega))).ox (E':=Lp) hl rfl uG;injection e with e1 _ _;subst e1;exact o.II rfl D6
theorem AP.weak(h:AP T G w P r)(hT:∀k,S k->T k):AP S G w P r:=λw2 h2=>h w2 (h2.widen λk _ e=>e.elim .inl λe=> .inr (hT k e))
def sq(S T:Nat->Prop)(q j:Nat):Nat->Prop:=λk=>S k∨(j<q/\T k)
structure MR (w:World) (S T:Nat->Prop) (G n q:Nat) (rows:List (List aF)):Prop where
 out:∃cur:Array Value,w.heap[G]?=some (.cells cur 48 (0,0))/\∀(j:Nat) (r:List aF),rows[j]?=some r->r.length=n/\∃P c,cur[j]?=some (.slice P n c)/\(j<q->n<=c)/\AP (sq S T q j) G w P r
theorem MR.lt{rows:List (List aF)}(h:MR w S T G n q rows):G<w.heap.size:=by obtain⟨_,h,_⟩:=h.out;exact aC h
theorem MR.frozen{rows:List (List aF)}(h:MR w S T G n q rows)(i:Nat):w.frozen? ⟨G,i,none⟩=false:=by obtain⟨cur,hc,_⟩:=h.out;simp[World.frozen?,hc]
theorem MR.at_{rows:List (List aF)}(h:MR w S T G n q rows)(hj:rows[j]?=some r):∃P c,w.cell? ⟨G,j,none⟩=some (.slice P n c)/\AP S G w P r:=by obtain⟨cur,hc,hx⟩:=h.out;obtain⟨_,P,c,h1,_,h2⟩:=hx j r hj;exact⟨P,c,by simp[World.cell?,hc,h1],h2.weak λk e=> .inl e⟩
theorem MR.len{rows:List (List aF)}(h:MR w S T G n q rows)(hj:rows[j]?=some r):r.length=n:=by obtain⟨cur,hc,hx⟩:=h.out;exact(hx j r hj).1
theorem MR.ex{rows:List (List aF)}(h:MR w S T G n q rows)(k:Ex w w'):MR w' S T G n q rows:=by have hl:=h.lt;obtain⟨cur,hc,hx⟩:=h.out;refine⟨cur,(k.block hl).trans hc,λj r hj=>?_⟩;obtain⟨h0,P,c,h1,hr,h2⟩:=hx j r hj;exact⟨h0,P,c,h1,hr,h2.ex k⟩
theorem MR.put{rows:List (List aF)}(h:MR w S T G n q rows)(i:Nat){q':Nat}(hr:AP (sq S T q' i) G w P r)(hn:r.length=n)(hroom:i<q'->n<=c)(hq:∀j,j<q'->j≠i->j<q):MR (w.setCell ⟨G,i,none⟩ (.slice P n c)) S T G n q' (rows.set i r):=by
 have k:aJ G w (w.setCell ⟨G,i,none⟩ (.slice P n c)):=(aJ.refl _ _).setCell (p:=⟨G,i,none⟩) rfl _;obtain⟨cur,hc,hx⟩:=h.out;refine⟨cur.setIfInBounds i (.slice P n c),by simp[World.setCell,aoa,hc],λj z hj=>?_⟩;rw[ang]at hj;split at hj
 .rename_i e;subst e;split at hj
  .rename_i hl;injection hj with hj;subst hj;obtain⟨_,_,_,h1,_⟩:=hx i _ (am0 hl);exact⟨hn,P,c,by rw[anI,amY rfl,amY (an9.1 h1).1],hroom,hr.k1 k⟩
  .cases hj
 .rename_i e;obtain⟨h0,P',c',h1,h3,h2⟩:=hx j z hj;exact⟨h0,P',c',by rw[anI,amZ e];exact h1,λhj=>h3 (hq j hj λe2=>e e2.symm),(h2.weak λk hk=>hk.imp id λhk=>⟨hq j hk.1 λe2=>e e2.symm,hk.2⟩).k1 k⟩
theorem MR.P7{rows:List (List aF)}(h:MR w S T G n q rows)(hl:rows.length<=1099511627776)(hb:¬T G)(k:bn T w w'):wo w' (some ⟨G,0,none⟩) (rows.take q):=by
 have hgl:=h.lt;obtain⟨cur,hc,hx⟩:=h.out;have hc2:=(k.block G hgl hb).trans hc;have key:∀(j:Nat) (r:List aF),(rows.take q)[j]?=some r->∃P c,w'.cell? ⟨G,0+j,none⟩=some (.slice P r.length c)/\r.length<=c/\gm EF w' P r:=λj r hj=>by
  have hjq:j<q:=by
   rw[anh]at hj;split at hj
   .assumption
   .cases hj
  rw[anh,amY hjq]at hj;obtain⟨h0,P,c,h1,h3,h2⟩:=hx j r hj;subst h0;exact⟨P,c,by simp[World.cell?,hc2,h1],h3 hjq,(h2.weak (S:=T) λk e=> .inr ⟨hjq,e⟩).iv k⟩
 refine⟨⟨anb (aoD _ _) hl,λj r hj=>?_⟩,λj r hj=>?_⟩
 .obtain⟨P,c,h1,h2,h3⟩:=key j r hj;refine⟨G,0,[.slice P r.length c],rfl,λi u hi=>?_,_,rfl,P,c,rfl,h3⟩;rcases i with _|i
  .injection hi with hi;subst hi;rw[show iE.k=1 from rfl,anY,anS];exact h1
  .simp at hi
 .obtain⟨P,c,h1,h2,h3⟩:=key j r hj;exact⟨G,0,P,c,rfl,h1,h2,h3⟩
def jo(S:Nat->Prop)(w:World)(A:Option Addr)(rows:List (List aF)):Prop:=
 rows.length<=1099511627776/\∀(j:Nat) (r:List aF),rows[j]?=some r->∃g off P pc,A=some ⟨g,off,none⟩/\w.cell? ⟨g,off+j,none⟩=some (.slice P r.length pc)/\∀w2,bn S w w2->gm EF w2 P r
theorem jo.vK{w0:World}{rows:List (List aF)}(h:gm iE w0 A rows)(he:Ex w0 w)(hS:∀k,S k->w0.heap.size<=k):jo S w A rows:=⟨h.1,λj r hj=>by
 obtain⟨g,off,r',u,hA,hr,b0,hu⟩:=h.j5 (am2.1 hj).1;rw[hj]at hr;injection hr with hr;subst hr;obtain⟨P,pc,rfl,hP⟩:=hu.form;exact⟨g,off,P,pc,hA,af he b0,λw2 h2=>hP.ex (he.sx h2 hS)⟩⟩
theorem jo.ex{rows:List (List aF)}(h:jo S w A rows)(he:Ex w w')(hS:∀k,T k->S k∨w.heap.size<=k):jo T w' A rows:=⟨h.1,λj r hj=>by
 obtain⟨g,off,P,pc,e,q,k⟩:=h.2 j r hj;exact⟨g,off,P,pc,e,af he q,λw2 h2=>k w2 ((bn.aN (S:=S) he).trans h2 (λi hi ht=>(hS i ht).elim id (λq=>by omega)))⟩⟩
theorem Br{rows:List (List aF)}(h:jo S w A rows)(_:∀k,S k->k<w.heap.size)(hw:aZ n rows)(hl:rows.length<=1000):
 ∃G C w',(Builtin.append_ #[27,27] 27 #[.slice (some ⟨w.heap.size,0,none⟩) 0 0,.slice A rows.length c]).run Tryz.prog (w.alloc (.cells #[] 48))=.ok (.slice (some ⟨G,0,none⟩) rows.length C) w'/\rows.length<=C/\w.heap.size<=G/\MR w' S T G n 0 rows/\Ex w w':=by
 obtain⟨i,hi,hz,hs,hby⟩:=anA fZ;have x1:=(asF w).alloc (.cells #[] 48);have hs1:(w.alloc (.cells #[] 48)).heap.size=w.heap.size+1:=by simp
 have h1:(w.alloc (.cells #[] 48)).ownsRow w.heap.size 48 1 (.slice (some ⟨w.heap.size,0,none⟩) 0 0) 0 []:=⟨by simp,.inr ⟨w.heap.size,0,#[],rfl,amX _,heap_alloc_new w _,amX _,am4 _,by simp,by simp⟩⟩;rcases A with _|ad
 .have hx:rows=[]:=by
   cases rows with
   |nil=>rfl
   |cons x xs=>obtain⟨g,off,P,pc,hA,_⟩:=h.2 0 x rfl;cases hA
  subst hx;refine⟨w.heap.size,0,_,?_,amX _,amX _,⟨#[],heap_alloc_new w _,λj r hj=>by simp at hj⟩,x1⟩;simp[Builtin.append_,aob Tryz.underlying27,sizeOf,typeInfo,hi,Builtin.lenOf,Builtin.firstCells,storeCells]
 .obtain⟨vals,k1,k2⟩:=wV (Q:=λj (v:Value)=>∃r g off P pc,ad=⟨g,off,none⟩/\rows[j]?=some r/\r.length=n/\v=.slice P n pc/\w.cell? ⟨g,off+j,none⟩=some v/\∀w2,bn S w w2->gm EF w2 P r) rows.length (λj hj=>by
   obtain⟨g,off,P,pc,hA,b0,hP⟩:=h.2 j _ (am0 hj);injection hA with hA;subst hA;have hrn:=hw rows[j] (anO hj);exact⟨.slice P n pc,rows[j],g,off,P,pc,rfl,am0 hj,hrn,rfl,by rw[<-hrn];exact b0,hP⟩)
  have hnews:∀(q:Nat) (u:Value),vals[q]?=some u->(w.alloc (.cells #[] 48)).cell? (ad.add q)=some u:=λq u hu=>by
   obtain⟨r,g,off,P,pc,rfl,_,_,_,q0,_⟩:=k2 q u hu;have e:(⟨g,off,none⟩:Addr).add q=⟨g,off+q,none⟩:=by unfold Addr.add;split<;>simp_all
   rw[e];exact af x1 q0
  obtain⟨v',w',hrun,h2,h3,h4,h5⟩:=run_append_own_at (P:=Tryz.prog) (w.alloc (.cells #[] 48)) w.heap.size 27 27 48 i (.slice none 0 0) 1 24 Tryz.underlying27 hi hz hs hby rfl (by omega) _ 0 [] h1 ad rows.length c vals (by rw[k1,anY]) hnews (by
   intro u hu;obtain⟨j,hj⟩:=anc hu;obtain⟨r,g,off,P,pc,_,_,_,rfl,_⟩:=k2 j u hj;rfl) (by unfold maxLen;omega) (by omega) (by omega)
  rw[anE,aon]at h2;have xw:Ex w w':=x1.Sj h3 (λg e=>by simp[Value.ownBlock]at e;omega);rcases h2.2 with⟨e,_⟩|⟨G,C,cur,e,hB,hh,hnc,_,_,ht⟩
  .exact absurd (h4.1 e).1 (by simp)
  .subst e;refine⟨G,C,w',hrun,hnc,hB,⟨cur,hh,λj r hj=>?_⟩,xw⟩;have hjl:=(am2.1 hj).1;obtain⟨v,hv⟩:∃v,vals[j]?=some v:=⟨_,am0 (by omega)⟩;obtain⟨r',g,off,P,pc,_,hr',hrn,rfl,_,hP⟩:=k2 j v hv;rw[hj]at hr';injection hr' with hr';subst hr';refine⟨hrn,P,pc,?_,λe=>by omega,λw2 hw2=>hP w2 ((bn.aN (S:=S) xw).trans hw2 (λi hi e=>e.elim (λe=>by omega) λe=>e.elim id λe=>absurd e.1 (aoT _)))⟩;have:(cur.toList.take (rows.length*1))[j]?=some (.slice P n pc):=by rw[ht];exact hv
   rw[anh]at this;split at this
   .simpa using this
   .cases this
end Go.Proofs.YtekcehkhdjoffaaGreatDoor
