/- Lemmas and walks on terms over rational functions: slices.Grow of an empty list of fractions .. -/
import Derived.Test.YthgiffhlfcmgaaaGreatDoorQ06
namespace Go.Proofs.YthgiffhlfcmgaaaGreatDoor
open List(range)
open List(replicate)
open Tryz(prog)
set_option maxRecDepth 100000
set_option maxHeartbeats 8000000
set_option linter.all false
open Go Go.RowKit
variable{x:aG}{p:Int}{R l:List (List aG)}{ig:List (Value×Value)}{f g:List Int}{P:List Nat}{B H L N al ar bl br d dA dB e i j la mid n r rb:Nat}{A K α:Type}{v:Value}{w:World}
def Dy:EL (Value×Value) where
 k:=2
 O:=λ_ _ _ vs x=>vs=[x.1,x.2]/\x.1.oneCell'=true/\x.2.oneCell'=true
 mM:=λh=>by rw[h.1];rfl
 keep:=λh _=>h
 one:=λh u hu=>by
  rw[h.1]at hu;simp at hu;rcases hu with rfl|rfl
  .exact h.2.1
  .exact h.2.2
theorem Vj{t:TypeId}{xs:List aG}(h:GE Dy t w B H v ig)(hn:ig.length=xs.length)(hl:xs.length<=1099511627776)(hr:∀(j:Nat) (x:aG),xs[j]?=some x->∃a b,ig[j]?=some (a,b)/\oD w a b x):∃A c,v=.slice A xs.length c/\bW EF w A xs:=by
 by_cases hv:v=.slice none 0 0
 .subst hv;have:=h.VH;subst this;have:xs=[]:=ayp hn.symm;subst this;exact⟨none,0,rfl,by simp,λj x hj=>by simp at hj⟩
 .obtain⟨g,c,rfl,hgc,_⟩:=h.form hv;obtain⟨cur,al,bl,_,hB,hH,hh,h1,h2⟩:=h.at_;refine⟨_,c,by rw[hn],hl,λj r hj=>?_⟩;obtain⟨a,b,q1,q2⟩:=hr j r hj;obtain⟨u,k1,⟨k2,_⟩,_⟩:=h1 j _ q1;refine⟨g,0,u,rfl,λi y hy=>?_,_,_,k2,q2⟩;rw[axT];exact dJ hh (k1 i y hy)
theorem pF{Q:Nat->α->Prop}:∀(n:Nat),(∀j,j<n->∃a,Q j a)->∃l:List α,l.length=n/\∀(j:Nat) (a:α),l[j]?=some a->Q j a
 |0,_=>⟨[],rfl,λj a h=>by simp at h⟩
 |n+1,h=>by
  obtain⟨l,h1,h2⟩:=pF n (λj hj=>h j (by omega));obtain⟨a,ha⟩:=h n (by omega);refine⟨l++[a],by simp[h1],λj b hb=>?_⟩;by_cases e:j<l.length
  .rw[axX e]at hb;exact h2 j b hb
  .rw[axN (by omega)]at hb;have:j-l.length=0:=by
    rcases Nat.eq_zero_or_pos (j-l.length)with h0|h0
    .exact h0
    .rw[ax2 (by simp;omega)]at hb;cases hb
   rw[this]at hb;injection hb with hb;subst hb;rw[show j=n by omega];exact ha
def Ce(p:Value×Value):List Value:=[p.1,p.2]
theorem yI(ig:List (Value×Value)):(ig.map Ce).flatten.length=ig.length*2:=by
 induction ig with
 |nil=>rfl
 |cons p ig ih=>rw[List.map_cons,ayN,axv,ih,axR];show 2+_=_;omega
theorem Qp{q:Nat}(h:(ig.map Ce).flatten[q]?=some v):∃(j i:Nat) (p:Value×Value),q=j*2+i/\ig[j]?=some p/\(Ce p)[i]?=some v:=by
 have hq:=(axp.1 h).1;rw[yI]at hq;have hj:q / 2<ig.length:=by omega
 have hus:(ig.map Ce)[q / 2]?=some (Ce ig[q / 2]):=by rw[axw,axn hj];rfl
 have hi:q%2<(Ce ig[q / 2]).length:=Nat.mod_lt _ (by omega);have:=lN (k:=2) (us:=ig.map Ce) (λu hu=>by obtain⟨p,_,rfl⟩:=axr.1 hu;rfl) hus (axn hi);rw[show q / 2*2+q%2=q by omega,h]at this;injection this with this;exact⟨q / 2,q%2,ig[q / 2],by omega,axn hj,by rw[axn hi,this]⟩
theorem Dy.row{t:TypeId}(h:GE Dy t w B H v ig):w.ownsRow B t 2 v ig.length (ig.map Ce).flatten/\∀p∈ig,p.1.oneCell'=true/\p.2.oneCell'=true:=by
 obtain⟨_,us,al,bl,hl,ho,h1,_⟩:=h;have hus:us=ig.map Ce:=by
  refine ax_ λj=>?_
  rw[axw];cases hj:ig[j]? with
  |none=>rw[ax2 (by have:=List.getElem?_eq_none_iff.1 hj;omega)];rfl
  |some p=>obtain⟨u,q1,⟨q2,_⟩,_⟩:=h1 j p hj;rw[q1,q2];rfl
 rw[<-hus];refine⟨ho,λp hp=>?_⟩;obtain⟨j,hj⟩:=axz hp;obtain⟨u,_,⟨_,q⟩,_⟩:=h1 j p hj;exact q
theorem Dy.mk{t:TypeId}(hB:B<=H)(ho:w.ownsRow B t 2 v ig.length (ig.map Ce).flatten)(hown:∀k,v.ownBlock=some k->B<=k/\k<H)(h1:∀p∈ig,p.1.oneCell'=true/\p.2.oneCell'=true):GE Dy t w B H v ig:=
 ⟨hown,ig.map Ce,λ_=>B,λ_=>B,by simp,ho,λj p hj=>⟨Ce p,by rw[axw,hj];rfl,⟨rfl,h1 p (axo hj)⟩,axk _,hB,λk e=> .inr (hown k e).1⟩,λi j hi hj hne=> .inl (axk _)⟩
theorem Wq(n:Nat)(hn:n<=1000000)(w:World):
 Calls prog 124 #[.slice none 0 0,.int .i64 n] w λe w'=>∃A c,e=.returned (.slice A 0 c)/\GE Dy 57 w' w.heap.size w'.heap.size (.slice A 0 c) []/\Ex w w':=by
 obtain⟨i,hi,hz,hs,hby⟩:=axW mH;have hw:IntKind.i64.wrap ((n:Int)-0)=(n:Int):=by rw[axC _ (by omega)];omega
 by_cases h0:n=0
 .subst h0;go_enter Tryz.func124,Tryz.ntmps124
  go_wp2_with fail
  go_ret;exact⟨none,0,rfl,GE.nil _ _ _ _ _,aCQ _⟩
 .have hnp:0<n:=by omega
  have hrun:=Lib.run_append_nil_zeros (P:=prog) w 54 3 54 57 i _ .i64 .i64 Tryz.underlying54 Tryz.underlying3 hi hz n hnp (by omega) (by omega) (by rw[hby];omega);have hge:=grownCap_ge w n 0 57;have hle:=grownCap_le_maxLen w n 0 57 (by unfold maxLen;omega);obtain⟨C,hC⟩:=xq (grownCap w n 0 57);rw[hC]at hrun hge hle;obtain⟨cur,hcur⟩:=xq (Builtin.zeroCells (Value.agg #[.slice none 0 0,.slice none 0 0]).cells n++Builtin.zeroCells (Value.agg #[.slice none 0 0,.slice none 0 0]).cells (C-n));have hsz:cur.size=C*2:=by rw[<-hcur,Array.size_append,size_zeroCells,size_zeroCells];have:(Value.agg #[.slice none 0 0,.slice none 0 0]).cells.size=2:=rfl;rw[this];omega
  rw[hcur]at hrun;have o:GE Dy 57 (w.drew.alloc (.cells cur 57)) w.heap.size (w.heap.size+1) (.slice (some ⟨w.heap.size,0,none⟩) 0 C) []:=by have ho:(w.drew.alloc (.cells cur 57)).ownsRow w.heap.size 57 Dy.k (.slice (some ⟨w.heap.size,0,none⟩) 0 C) 0 []:=⟨by simp,.inr ⟨w.heap.size,C,cur,rfl,axk _,heap_alloc_new w.drew _,axq _,hle,hsz,by simp⟩⟩;exact⟨λk e=>by injection e with e;subst e;exact⟨axk _,ayf _⟩,[],λ_=>0,λ_=>0,rfl,ho,(λj r hj=>by simp at hj),(λi j hi=>by simp at hi)⟩
  have x1:=(aCQ w).drew.alloc (.cells cur 57);have s1:(w.drew.alloc (.cells cur 57)).heap.size=w.heap.size+1:=by simp
  clear hcur hsz hle hC hi hz hs hby;go_enter Tryz.func124,Tryz.ntmps124
  go_wp2_with (at_builtin;refine Lib.wpList_append_run _ rfl _ _ _ _ rfl _ _ rfl rfl _ _ hrun ?_)
  go_ret;refine⟨_,_,rfl,?_,x1⟩;show GE Dy 57 (w.drew.alloc (.cells cur 57)) w.heap.size (w.drew.alloc (.cells cur 57)).heap.size _ _;rw[s1];exact o
theorem I6{rows:List (List α)}{k:Nat}{r:List α}(h:rows[k]?=some r):(rows.take (k+1)).flatten=(rows.take k).flatten++r:=by rw[axy,h,ay6];simp
theorem aan{rows:List (List α)}(h:∀r∈rows,r.length<=1000):∀k,((rows.take k).flatten).length<=1000*rows.length:=by
 intro k;have h2:∀r∈rows.take k,r.length<=1000:=λr hr=>h r (ayS hr)
 have h3:(rows.take k).length<=rows.length:=ayL _ _;have:∀(l:List (List α)),(∀r∈l,r.length<=1000)->l.flatten.length<=1000*l.length:=by
  intro l
  induction l with
  |nil=>intro _;simp
  |cons r l ih=>
   intro hl;have a:=ih λr hr=>hl r (azR _ hr)
   have b:=hl r azS;rw[ayN,axv,axR];omega
 have:=this _ h2;omega
open Classical in
noncomputable def pe {p : Int} (hF : av p = true) (f : List Int) : {x : aG // FV p x} := if h : PN p f then ⟨⟨f, [1]⟩, FV.one_den hF h⟩ else (aj p hF).z
theorem sj(hF:av p=true)(h:PN p f):(pe hF f).1=⟨f,[1]⟩:=by rw[pe,dif_pos h]
theorem xB(hF:av p=true)(h:PN p f):eY p (pe hF f).1 f [1]:=by rw[sj hF h];exact eY.self p _
theorem YI(hF:av p=true)(h:PN p f){x:{x:aG // FV p x}}(hx:eY p x.1 f [1]):x=pe hF f:=
 axS (eY.uniq x.2 (pe hF f).2 (PN.one (ax hF)) (by simp) hx (xB hF h))
theorem JG(hF:av p=true)(hf:PN p f)(hg:PN p g):(aj p hF).add (pe hF f) (pe hF g)=pe hF (bQ p f 1 g):=by
 have h2:=ax hF;have hp:0<p:=by omega
 have h1:=eY.add (pe hF f).2 (pe hF g).2 hf hg (xB hF hf) (xB hF hg);rw[gH h2 hf,gH h2 hg,gH h2 (PN.one h2)]at h1;exact YI hF (hf.add hp 1 g) h1
theorem pV(hF:av p=true)(hf:PN p f)(hg:PN p g):(aj p hF).mul (pe hF f) (pe hF g)=pe hF (aB p f g):=by
 have h2:=ax hF;have hp:0<p:=by omega
 have h1:=eY.mul (pe hF f).2 (pe hF g).2 (xB hF hf) (xB hF hg);rw[gH h2 (PN.one h2)]at h1;exact YI hF (PN.mul hp f g) h1
theorem iT(hF:av p=true):pe hF []=(aj p hF).z:=axS (sj hF (PN.nil p))
theorem Ep(hF:av p=true)(hf:PN p f)(h:f≠[]):pe hF f≠(aj p hF).z:=λe=>by
 have h1:(pe hF f).1.n=[]:=by rw[e];rfl
 rw[sj hF hf]at h1;exact h h1
theorem YJ(hF:av p=true)(h:pe hF f≠(aj p hF).z):f≠[]:=λe=>h (by rw[e];exact iT hF)
theorem afF(hF:av p=true)(x:{x:aG // FV p x}):(aj p hF).mul (pe hF x.1.d) x=pe hF x.1.n:=by
 have h2:=ax hF;have hp:0<p:=by omega
 have h1:=eY.mul (pe hF x.1.d).2 x.2 (xB hF x.2.d) (eY.self p x.1);refine YI hF x.2.n (eY.change ((pe hF x.1.d).2.mul x.2) (PN.mul hp _ _) (dX hF (PN.one h2) x.2.d (by simp) x.2.d0) h1 ?_);rw[gH h2 (PN.mul hp _ _),aL hp [1],gH h2 x.2.d,aL hp]
theorem aag(hF:av p=true){a b:{x:aG // FV p x}}(ha:a≠(aj p hF).z)(hb:b≠(aj p hF).z):(aj p hF).mul a b≠(aj p hF).z:=λe=>by have h1:=congrArg ((aj p hF).mul ((aj p hF).inv a)) e;rw[<-(aj p hF).mul_assoc,(aj p hF).inv_mul a ha,(aj p hF).bE,(aj p hF).aS]at h1;exact hb h1
theorem aao(hF:av p=true)(hf:PN p f)(hg:PN p g)(hg0:g≠[]){x:{x:aG // FV p x}}(h:(aj p hF).mul (pe hF g) x=pe hF f)(h1:f.length<=B)(h2:g.length<=B):FL B x.1:=by
 have hlo:=ax hF;have hp:0<p:=by omega
 have e:=eY.mul (pe hF g).2 x.2 (xB hF hg) (eY.self p x.1);have e2:((aj p hF).mul (pe hF g) x).1=fP p (pe hF g).1 x.1:=rfl;rw[<-e2,h,sj hF hf]at e;have e3:aB p f (aB p [1] x.1.d)=aB p (aB p g x.1.n) [1]:=e;rw[aL hp [1],gH hlo x.2.d,gH hlo (PN.mul hp _ _)]at e3;have e4:eY p x.1 f g:=by show aB p x.1.n g=aB p f x.1.d;rw[e3,aL hp]
 have e5:=eY.uniq x.2 (FV.low hF hf hg hg0) hg hg0 e4 (eY.low hF hf hg hg0);have:=yU hF hf hg hg0;rw[e5];exact⟨axA this.1 h1,axA this.2 h2⟩
theorem Ia(hF:av p=true):∀(l:List {x:aG // FV p x}),(∀x∈l,FL L x.1)->∃D,PN p D/\D≠[]/\D.length<=l.length*L+1/\∀x∈l,∃f,PN p f/\f.length<=l.length*L+1/\(aj p hF).mul (pe hF D) x=pe hF f
 |[],_=>⟨[1],PN.one (ax hF),by simp,by simp,λx hx=>by simp at hx⟩
 |x::l,h=>by
  have hp:0<p:=by have:=ax hF;omega
  obtain⟨D,h1,h2,h3,h4⟩:=Ia hF l λy hy=>h y (azR _ hy)
  obtain⟨q1,q2⟩:=h x azS;have hlen:(x::l).length*L+1=(l.length*L+1)+L:=by rw[axR,ayX];omega
  rw[hlen];refine⟨aB p x.1.d D,PN.mul hp _ _,dX hF x.2.d h1 x.2.d0 h2,?_,λy hy=>?_⟩
  .have:=kN hF x.2.d h1;omega
  .rcases axI.1 hy with rfl|hy
   .refine⟨aB p D y.1.n,PN.mul hp _ _,by have:=kN hF h1 y.2.n;omega,?_⟩;rw[aL hp,<-pV hF h1 y.2.d,(aj p hF).mul_assoc,afF,pV hF h1 y.2.n]
   .obtain⟨f,f1,f2,f3⟩:=h4 y hy;refine⟨aB p x.1.d f,PN.mul hp _ _,by have:=kN hF x.2.d f1;omega,?_⟩;rw[<-pV hF x.2.d h1,(aj p hF).mul_assoc,f3,pV hF x.2.d f1]
theorem Ti(hF:av p=true)(f:Nat->List Int):∀n,(∀k,k<n->PN p (f k))->(aj p hF).bD n (λk=>pe hF (f k))=pe hF (pQ p n f)
 |0,_=>(iT hF).symm
 |n+1,h=>by
  have hp:0<p:=by have:=ax hF;omega
  rw[aJ.bD,Ti hF f n λk hk=>h k (by omega),JG hF (PN.pQ hp f n) (h n (by omega))];rfl
theorem Ej(p:Int)(f:Nat->List Int):∀n,(∀k,k<n->(f k).length<=B)->(pQ p n f).length<=B
 |0,_=>axq _
 |n+1,h=>by
  have h1:=Ej p f n λk hk=>h k (by omega)
  have h2:=h n (by omega);have h3:=JH p (pQ p n f) 1 (f n);show(bQ p (pQ p n f) 1 (f n)).length<=B;omega
theorem XY{t:Nat}(hi:i<r)(ht:t<r)(h:t≠i):∃u,u<r-1/\xA i u=t:=by
 by_cases e:t<i
 .exact⟨t,by omega,by unfold xA;rw[axl e]⟩
 .exact⟨t-1,by omega,by unfold xA;rw[axm (by omega)];omega⟩
theorem Ib(hF:av p=true)(Ok:Nat->List {x:aG // FV p x})(cols:List Nat)(hel:∀k c,FL L ((aj p hF).el (Ok k) c).1):
 ∃(D:Nat->List Int) (f:Nat->Nat->List Int),∀k,(PN p (D k)/\D k≠[]/\(D k).length<=cols.length*L+1)/\∀c,c∈cols->PN p (f k c)/\(f k c).length<=cols.length*L+1/\(aj p hF).mul (pe hF (D k)) ((aj p hF).el (Ok k) c)=pe hF (f k c):=by
 have h1:∀k,∃Df:List Int×(Nat->List Int),(PN p Df.1/\Df.1≠[]/\Df.1.length<=cols.length*L+1)/\∀c,c∈cols->PN p (Df.2 c)/\(Df.2 c).length<=cols.length*L+1/\(aj p hF).mul (pe hF Df.1) ((aj p hF).el (Ok k) c)=pe hF (Df.2 c):=λk=>by
  obtain⟨D,d1,d2,d3,d4⟩:=Ia hF (L:=L) (cols.map λc=>(aj p hF).el (Ok k) c) (λx hx=>by
   obtain⟨c,_,rfl⟩:=axr.1 hx;exact hel k c)
  rw[axs]at d3 d4;have:∀c,∃f,c∈cols->PN p f/\f.length<=cols.length*L+1/\(aj p hF).mul (pe hF D) ((aj p hF).el (Ok k) c)=pe hF f:=λc=>by
   by_cases hc:c∈cols
   .obtain⟨f,hf⟩:=d4 _ (axr.2 ⟨c,hc,rfl⟩);exact⟨f,λ_=>hf⟩
   .exact⟨[],λh=>absurd h hc⟩
  obtain⟨f,hf⟩:=Classical.axiomOfChoice this;exact⟨(D,f),⟨d1,d2,d3⟩,hf⟩
 obtain⟨Df,CG⟩:=Classical.axiomOfChoice h1;exact⟨λk=>(Df k).1,λk=>(Df k).2,CG⟩
theorem aaX(hF:av p=true){Ok:Nat->List {x:aG // FV p x}}{D:Nat->List Int}{f:Nat->Nat->List Int}{q:Nat->List Int}{c:Nat}(hq:∀k,PN p (q k))(hf:∀k,k<n->PN p (D k)/\PN p (f k c)/\(aj p hF).mul (pe hF (D k)) ((aj p hF).el (Ok k) c)=pe hF (f k c)):
 (aj p hF).bD n (λk=>(aj p hF).mul ((aj p hF).mul (pe hF (q k)) (pe hF (D k))) ((aj p hF).el (Ok k) c))=pe hF (pQ p n λk=>aB p (q k) (f k c)):=by
 have hp:0<p:=by have:=ax hF;omega
 rw[<-Ti hF _ n λk _=>PN.mul hp _ _];exact(aj p hF).aO λk hk=>by obtain⟨h1,h2,h3⟩:=hf k hk;rw[(aj p hF).mul_assoc,h3,pV hF (hq k) h2]
def jg(r L:Nat):Nat:=(r*((r+1)*L+1)+1)+((r+1)*L+1)
theorem afz(hF:av p=true){Z0 rows:List (List {x:aG // FV p x})}{c:Nat}{O:List (List {x:aG // FV p x})}(h:zT (aj p hF) Z0 rows r O)(he:kJ (aj p hF) rows r c P)(hL1:1<=L)(hL:∀v∈Z0,∀x∈v,FL L x.1){v:List {x:aG // FV p x}}(hv:rows[i]?=some v)(j:Nat):FL (jg r L) ((aj p hF).el v j).1:=by
 have hp:0<p:=by have:=ax hF;omega
 have hol:=h.len;have hil:=(axp.1 hv).1;have hpl:=he.pl;have agy:∀(o:List {x:aG // FV p x}),(∀x∈o,FL L x.1)->∀c,FL L ((aj p hF).el o c).1:=λo ho c=>by
  by_cases hc:c<o.length
  .rw[Ops.dD _ (axn hc)];exact ho _ (ax6 hc)
  .rw[Ops.dS _ (by omega)];exact⟨axq _,hL1⟩
 have hmem:∀k,∀x∈O.getD k [],FL L x.1:=λk x hx=>by
  rw[axt]at hx;cases ho:O[k]? with
  |none=>rw[ho]at hx;simp at hx
  |some o=>rw[ho]at hx;exact hL o (h.mem o (axo ho)) x hx
 have hcl:(P++[j]).length=r+1:=by simp[hpl]
 rcases ax9 i r with hir|hir
 ·
  obtain⟨p0,hp0⟩:∃p0,P[i]?=some p0:=⟨_,axn (by omega)⟩;obtain⟨D,f,CG⟩:=Ib hF (λk=>O.getD k []) (P++[j]) (λk c=>agy _ (hmem k) c);rw[hcl]at CG;have hPm:∀t,t<r->P.getD t 0∈P++[j]:=λt ht=>by rw[axt,axn (by omega)];exact ayW _ (ax6 _)
  obtain⟨q,hq,⟨k0,hk0,hne⟩,hz⟩:=MX hF r (r-1) ((r+1)*L+1) (r*((r+1)*L+1)+1) (λk t=>f k (P.getD (xA i t) 0)) (λk t hk ht=>by
   have:=(CG k).2 _ (hPm (xA i t) (by have:=Qe (j0:=i) ht;omega));exact⟨this.1,this.2.1⟩) (by
   obtain⟨s,rfl⟩:∃s,r=s+1:=⟨r-1,by omega⟩;rw[ay7];generalize(s+1+1)*L+1=B;rw[Nat.mul_add,ayX s ((s+1)*B+1),ayX s B];omega)
  have hsum:∀c,c∈P++[j]->(aj p hF).nN O (λk=>(aj p hF).mul (pe hF (q k)) (pe hF (D k))) r c=pe hF (pQ p r λk=>aB p (q k) (f k c)):=λc hc=>
   aaX hF (Ok:=λk=>O.getD k []) (λk=>(hq k).1) λk _=>⟨(CG k).1.1,((CG k).2 c hc).1,((CG k).2 c hc).2.2⟩
  have hlen:∀c,c∈P++[j]->(pQ p r λk=>aB p (q k) (f k c)).length<=jg r L:=λc hc=>Ej p _ r λk _=>by have h1:=kN hF (hq k).1 ((CG k).2 c hc).1;have h2:=(hq k).2;have h3:=((CG k).2 c hc).2.1;unfold jg;omega
  have ajb:p0∈P++[j]:=ayW _ (axo hp0);have hjm:j∈P++[j]:=by simp
  obtain⟨m1,m2⟩:=h.acw he hir hv hp0 (λk=>(aj p hF).mul (pe hF (q k)) (pe hF (D k))) (λt pt ht hti=>by
   have htr:t<r:=by have:=(axp.1 ht).1;omega
   obtain⟨u,hu,hsk⟩:=XY hir htr hti;have e1:P.getD (xA i u) 0=pt:=by rw[hsk,axt,ht];rfl
   have:=hz u hu;rw[e1]at this;rw[hsum pt (ayW _ (axo ht)),this,iT]) ⟨k0,hk0,aag hF (Ep hF (hq k0).1 hne) (Ep hF (CG k0).1.1 (CG k0).1.2.1)⟩
  have m3:=m2 j;rw[hsum p0 ajb]at m1 m3;rw[hsum j hjm]at m3;exact aao hF (PN.pQ hp _ _) (PN.pQ hp _ _) (YJ hF m1) m3.symm (hlen j hjm) (hlen p0 ajb)
 ·
  obtain⟨o,ho⟩:∃o,O[i]?=some o:=⟨_,axn (by omega)⟩;obtain⟨D,f,CG⟩:=Ib hF (λk=>if k<r then O.getD k []else o) (P++[j]) (λk c=>by
   show FL L ((aj p hF).el (if k<r then O.getD k []else o) c).1;split
   .exact agy _ (hmem k) c
   .exact agy o (λx hx=>hL o (h.mem o (axo ho)) x hx) c)
  rw[hcl]at CG;have hPm:∀t,t<r->P.getD t 0∈P++[j]:=λt ht=>by rw[axt,axn (by omega)];exact ayW _ (ax6 _)
  obtain⟨q,hq,⟨k0,hk0,hne⟩,hz⟩:=MX hF (r+1) r ((r+1)*L+1) (r*((r+1)*L+1)+1) (λk t=>f k (P.getD t 0)) (λk t hk ht=>by
   have:=(CG k).2 _ (hPm t ht);exact⟨this.1,this.2.1⟩) (by
   generalize(r+1)*L+1=B;rw[Nat.mul_add,ayX r (r*B+1)];omega)
  have hsum:∀c,c∈P++[j]->(aj p hF).add ((aj p hF).nN O (λk=>(aj p hF).mul (pe hF (q k)) (pe hF (D k))) r c) ((aj p hF).mul ((aj p hF).mul (pe hF (q r)) (pe hF (D r))) ((aj p hF).el o c))=pe hF (pQ p (r+1) λk=>aB p (q k) (f k c)):=λc hc=>by
   have h1:=aaX hF (Ok:=λk=>if k<r then O.getD k []else o) (c:=c) (n:=r+1) (λk=>(hq k).1) λk _=>⟨(CG k).1.1,((CG k).2 c hc).1,((CG k).2 c hc).2.2⟩
   rw[<-h1,aJ.bD];congr 1
   .exact(aj p hF).aO λk hk=>by rw[axl hk]
   .rw[axm (Nat.lt_irrefl r)]
  have hlen:∀c,c∈P++[j]->(pQ p (r+1) λk=>aB p (q k) (f k c)).length<=jg r L:=λc hc=>Ej p _ (r+1) λk _=>by have h1:=kN hF (hq k).1 ((CG k).2 c hc).1;have h2:=(hq k).2;have h3:=((CG k).2 c hc).2.1;unfold jg;omega
  have hjm:j∈P++[j]:=by simp
  have nz:∀k,q k≠[]->(aj p hF).mul (pe hF (q k)) (pe hF (D k))≠(aj p hF).z:=λk hk=>aag hF (Ep hF (hq k).1 hk) (Ep hF (CG k).1.1 (CG k).1.2.1)
  obtain⟨m1,m2⟩:=h.Y4 he hir hv ho (λk=>(aj p hF).mul (pe hF (q k)) (pe hF (D k))) ((aj p hF).mul (pe hF (q r)) (pe hF (D r))) (λpt hpt=>by
   obtain⟨t,ht⟩:=axz hpt;have htr:t<r:=by have:=(axp.1 ht).1;omega
   have e1:P.getD t 0=pt:=by rw[axt,ht];rfl
   have:=hz t htr;rw[e1]at this;rw[hsum pt (ayW _ hpt),this,iT]) (by
   rcases ax9 k0 r with e|e
   .exact .inr ⟨k0,e,nz k0 hne⟩
   .obtain rfl:k0=r:=by omega
    exact .inl (nz k0 hne))
  have m3:=m2 j;rw[hsum j hjm,pV hF (hq r).1 (CG r).1.1]at m3;rw[pV hF (hq r).1 (CG r).1.1]at m1;refine aao hF (PN.pQ hp _ _) (PN.mul hp _ _) (YJ hF m1) m3.symm (hlen j hjm) ?_;have h1:=kN hF (hq r).1 (CG r).1.1;have h2:=(hq r).2;have h3:=(CG r).1.2.2;unfold jg;omega
theorem LU{F:aJ K}{Z0:List (List K)}(hW:aQ N Z0):∀c,c<=N->∃O P,zT F Z0 (jN F.toOps Z0 c).1 (jN F.toOps Z0 c).2 O/\kJ F (jN F.toOps Z0 c).1 (jN F.toOps Z0 c).2 c P/\aQ N (jN F.toOps Z0 c).1/\(jN F.toOps Z0 c).2<=c
 |0,_=>⟨Z0,[],zT.start F Z0,kJ.start F Z0,hW,axk _⟩
 |c+1,hc=>by
  obtain⟨O,P,h1,h2,h3,h4⟩:=LU (F:=F) hW c (by omega);rw[jN];split
  .rename_i hf;obtain⟨hrk,hx⟩:=kU F.toOps hf;have hx':F.el ((jN F.toOps Z0 c).1.getD (F.uP (jN F.toOps Z0 c).1 (jN F.toOps Z0 c).2 c) []) c≠F.z:=λe=>by rw[(F.iI _).2 e]at hx;cases hx
   exact⟨_,_,h1.piv h2 h3 hrk hf hx',h2.piv h3 hrk hf hx',h3.piv (by omega) hf,by show _+1<=c+1;omega⟩
  .rename_i hf;exact⟨O,P,h1,h2.skip λi v hi hv=>(F.iI _).1 (Oc F.toOps hf i v hi hv),h3,by omega⟩
theorem jM.jN{O:Ops K}{O':Ops A}{f:K->A}(h:jM O O' f)(Z:List (List K)):∀c,Go.Proofs.YthgiffhlfcmgaaaGreatDoor.jN O' (dO f Z) c=(dO f (Go.Proofs.YthgiffhlfcmgaaaGreatDoor.jN O Z c).1,(Go.Proofs.YthgiffhlfcmgaaaGreatDoor.jN O Z c).2)
 |0=>rfl
 |c+1=>by
  rw[Go.Proofs.YthgiffhlfcmgaaaGreatDoor.jN,Go.Proofs.YthgiffhlfcmgaaaGreatDoor.jN,h.jN Z c];dsimp only;rw[h.uP,axs];split
  .rename_i hf;rw[h.piv _ _ _ _ (kU O hf).2]
  .rfl
theorem Vy{k:aG}(hk:FV p k)(hz:jy k=true){vs ws:List aG}(hv:∀x∈vs,FV p x)(hw:∀x∈ws,FV p x)(hl:vs.length=ws.length):(au p).less vs k ws=vs:=by
 refine ax_ λj=>?_
 unfold Ops.less;rw[azl];cases hx:vs[j]? with
 |none=>rfl
 |some x=>
  have hj:=(axp.1 hx).1;rw[axn (show j<ws.length by omega)];have hxv:=hv x (axo hx);have hyv:=hw ws[j] (ax6 _);have hn:(bY p k).n=[]:=(Nc hk).2 (dR.1 hz);have hm:(fP p (bY p k) ws[j]).n=[]:=by rw[IA hk.pos];exact Iz hyv hk.neg hn
  show some (uV p x (fP p (bY p k) ws[j]))=some x;rw[wF hxv (hk.neg.mul hyv) hm]
theorem Jd{k:aG}(hk:FV p k){vs ws:List aG}(hv:∀x∈vs,FV p x)(hw:∀x∈ws,FV p x)(hl:vs.length=ws.length):jk p vs (bY p k) ws=(au p).less vs k ws:=by
 rw[xO hk hv hw];split
 .rename_i hz;rw[Vy hk hz hv hw hl]
 .rfl
theorem agQ(hF:av p=true){A B:List (List aG)}(hA:aQ (la+mid) A)(hB:aQ (mid+rb) B)(gA:∀v∈A,∀x∈v,FV p x)(gB:∀v∈B,∀x∈v,FV p x):(au p).FU la mid rb A B=(au p).oo la mid rb A B:=by obtain⟨a,rfl⟩:=BK (P:=FV p) A gA;obtain⟨b,rfl⟩:=BK (P:=FV p) B gB;rw[(mV p hF).FU,(mV p hF).oo,cmp_eq (aj p hF) (aQ.dO.1 hA) (aQ.dO.1 hB)]
theorem R5{s:Nat}(h:r<=s):jg r L<=jg s L:=by unfold jg;have h1:(r+1)*L<=(s+1)*L:=ayk L (by omega);have h2:r*((r+1)*L+1)<=s*((s+1)*L+1):=Nat.mul_le_mul h (by omega);omega
theorem Jt(O:Ops K)(Z:List (List K)):∀c,(jN O Z c).1.length=Z.length
 |0=>rfl
 |c+1=>by
  rw[jN];split
  .rw[eH];exact Jt O Z c
  .exact Jt O Z c
theorem jw{R:Nat}{Z0:List (List aG)}(hF:av p=true)(hL:1<=L)(hG:iB p L Z0)(hW:aQ N Z0)(hn:n<=R∨Z0.length<=R)(hnN:n<=N):∀c,c<=n->iB p (jg R L) (jN (au p) Z0 c).1:=λc hc=>by
 obtain⟨u,rfl⟩:=BK (P:=FV p) Z0 λv hv x hx=>(hG v hv x hx).1
 have hWu:aQ N u:=aQ.dO.1 hW;obtain⟨O,P,h1,h2,h3,h4⟩:=LU (F:=aj p hF) hWu c (by omega);rw[(mV p hF).jN u c];intro z hz x hx;obtain⟨v,hv,rfl⟩:=axr.1 hz;obtain⟨y,hy,rfl⟩:=axr.1 hx;obtain⟨i,hi⟩:=axz hv;obtain⟨j,hj⟩:=axz hy;have hb:=afz hF h1 h2 hL (λw hw x hx=>(hG (w.map Subtype.val) (axr.2 ⟨w,hw,rfl⟩) x.1 (axr.2 ⟨x,hx,rfl⟩)).2) hi j;rw[Ops.dD _ hj]at hb;refine⟨y.2,hb.mono (R5 ?_)⟩;rcases hn with hn|hn
 .omega
 .have:=h2.hr;have e:(jN (aj p hF).toOps u c).1.length=u.length:=Jt _ u c;rw[axs]at hn;omega
theorem Js(O:Ops K)(Z:List (List K)):∀(m c:Nat),O.red m c (jN O Z c).2 (jN O Z c).1=jN O Z (c+m)
 |0,c=>rfl
 |m+1,c=>by rw[Ops.red,show c+(m+1)=c+1+m by omega,<-Js O Z m (c+1),jN];split<;>rfl
theorem XQ(O:Ops K)(n:Nat)(Z:List (List K)):O.aC n Z=(jN O Z n).1.take (jN O Z n).2:=by unfold Ops.aC;have:=Js O Z n 0;rw[axT]at this;rw[<-this];rfl
theorem adZ(hF:av p=true)(hL:1<=L):FV p zF/\FL L zF:=⟨FV.zero hF,axq _,hL⟩
theorem YN(hF:av p=true)(hL:1<=L):FV p oF/\FL L oF:=⟨FV.one hF,hL,hL⟩
theorem jS.set{v:List aG}(h:jS p L v)(hx:FV p x/\FL L x)(i:Nat):jS p L (v.set i x):=λy hy=>by
 rcases ayZ hy with q|q
 .exact h y q
 .rw[q];exact hx
theorem jS.PK(hF:av p=true)(hL:1<=L)(n:Nat):jS p L (replicate n zF):=λy hy=>by rw[(List.mem_replicate.1 hy).2];exact adZ hF hL
theorem aay(hF:av p=true)(hL:1<=L){v:List aG}(h:jS p L v)(j:Nat):FV p ((au p).el v j)/\FL L ((au p).el v j):=by
 by_cases hj:j<v.length
 .exact Uj h hj
 .rw[Ops.dS _ (by omega)];exact adZ hF hL
theorem Qy(h:FV p x/\FL L x):FV p (bY p x)/\FL L (bY p x):=⟨h.1.neg,h.2.neg⟩
theorem TA(hF:av p=true)(hL:1<=L)(j:Nat):∀(R:List (List aG)) (v:List aG),iB p L R->jS p L v->jS p L ((au p).iD R j v)
 |[],_,_,h=>h
 |r::R,v,hR,h=>TA hF hL j R _ (λz hz=>hR z (by simp[hz])) (h.set (Qy (aay hF hL (hR r (by simp)) j)) _)
theorem Na(hF:av p=true)(hL:1<=L){s:Nat}(hR:iB p L R):iB p L ((au p).gJ s R):=by
 have:∀(m j t:Nat),iB p L ((au p).dK s R m j t):=by
  intro m
  induction m with
  |zero=>intro j t v hv;cases hv
  |succ m ih=>
   intro j t v hv;rw[Ops.dK]at hv;split at hv
   .exact ih _ _ v hv
   .rcases axI.1 hv with e|hv
    .rw[e];exact TA hF hL j R _ hR ((jS.PK hF hL s).set (YN hF hL) j)
    .exact ih _ _ v hv
 exact this s 0 0
theorem Vp(O:Ops K)(s:Nat)(R:List (List K)):(O.gJ s R).length<=s:=by
 have:∀(m j t:Nat),(O.dK s R m j t).length<=m:=by
  intro m
  induction m with
  |zero=>intro j t;exact axk _
  |succ m ih=>
   intro j t;rw[Ops.dK];split
   .have:=ih (j+1) (t+1);omega
   .have:=ih (j+1) t;rw[axR];omega
 exact this s 0 0
theorem acD(hF:av p=true)(hL:1<=L){A B:List (List aG)}(hA:iB p L A)(hB:iB p L B):iB p L ((au p).oK la mid A B):=λv hv=>by
 obtain⟨j,_,rfl⟩:=axr.1 hv;refine jS.app (λy hy=>?_) λy hy=>?_
 .obtain⟨r,hr,rfl⟩:=axr.1 hy;exact aay hF hL (hA r hr) _
 .obtain⟨r,hr,rfl⟩:=axr.1 hy;exact Qy (aay hF hL (hB r hr) _)
theorem acE{A B:List (List aG)}(hA:iB p L A)(hB:iB p L B):iB p L ((au p).kI la mid A B):=λv hv=>by
 rcases axZ.1 hv with hv|hv
 .obtain⟨r,hr,rfl⟩:=axr.1 hv;exact(hA r hr).drop _
 .obtain⟨r,hr,rfl⟩:=axr.1 hv;intro y hy;obtain⟨x,hx,rfl⟩:=axr.1 hy;exact Qy (((hB r hr).take _) x hx)
theorem Jb(hF:av p=true)(hL:1<=L)(hR:iB p L R):iB p L ((au p).beside R):=λv hv=>by
 obtain⟨i,hi⟩:=axz hv;rw[nO]at hi;cases hr:R[i]? with
 |none=>rw[hr]at hi;cases hi
 |some r=>rw[hr]at hi;injection hi with hi;rw[<-hi];exact(hR r (axo hr)).app ((jS.PK hF hL _).set (YN hF hL) i)
theorem acH{V X W:Nat}{v w:List aG}(h:jS p V v)(k:jS p W w)(hx:FV p x)(hl:FL X x):jS p (V+(X+W)) ((au p).less v x w):=λy hy=>by unfold Ops.less at hy;obtain⟨i,hi⟩:=axz hy;rw[List.getElem?_zipWith_eq_some]at hi;obtain⟨a,b,ha,hb,rfl⟩:=hi;obtain⟨h1,h2⟩:=h a (axo ha);obtain⟨h3,h4⟩:=k b (axo hb);exact⟨h1.add (hx.neg.mul h3),h2.add h1 (hx.neg.mul h3) (hl.neg.mul hx.neg h3 h4)⟩
theorem FX(hF:av p=true){X W w:Nat}{k:List aG}(hk:jS p X k)(hR:iB p W R):∀m,jS p (1+m*(X+W)) (((k.zip R).take m).foldl (λv q=>(au p).less v ((au p).neg q.1) q.2) (replicate w zF))
 |0=>by rw[ayF];exact(jS.PK hF (axk 1) w).mono (by omega)
 |m+1=>by
  have ih:=FX hF (w:=w) hk hR m;rw[axy];cases hz:(k.zip R)[m]? with
  |none=>rw[Option.toList_none,ax8];exact ih.mono (by have:=ayk (X+W) (show m<=m+1 by omega);omega)
  |some q=>rw[ayE,azg];obtain⟨h1,h2⟩:=ayD.1 hz;obtain⟨h3,h4⟩:=hk q.1 (axo h1);exact(acH ih (hR q.2 (axo h2)) h3.neg h4.neg).mono (by rw[ayu];omega)
noncomputable def ifU (p:Int) (x:iK):iK×Bool:=if U6 p x=true then(x,true)else(⟨0,0,[]⟩,false)
theorem Zz{x:iK}(h:U6 p x=false):ifU p x=(⟨0,0,[]⟩,false):=axm (by rw[h];simp)
theorem TM{x:iK}(h:U6 p x=true):ifU p x=(x,true):=axl h
theorem U5{x:iK}(h:U6 p x=true):x.b.length<=12/\∀r∈x.b,r.length<=12:=by obtain⟨h1,h2,h3,h4⟩:=rW.1 h;have h5:=Fz h2;have h6:=Jz h1 (IX (qH h3)) h4;exact⟨by omega,λr hr=>by have:=lD h3 r hr;omega⟩
def RdB(w:World)(r:iK×Bool)(e:Ending)(w':World):Prop:=∃A c,e=.returned (.tuple #[.agg #[.int .i64 r.1.l,.int .i64 r.1.r,.slice A r.1.b.length c],.bool r.2])/\(∀w2,jE 0 w.heap.size w' w2->j_ w2 A r.1.b/\rQ w2 w.heap.size w'.heap.size (.slice A r.1.b.length c) r.1.b)/\Ex w w'
theorem afu(p:Int)(x:iK)(A:Option Addr)(c:Nat)(w:World)(h:bW iX w A x.b):
 Calls prog 21 #[.int .i64 p,.agg #[.int .i64 x.l,.int .i64 x.r,.slice A x.b.length c]] w λe w'=>RdB w (ifU p x) e w':=by
 have hl:=h.1;obtain⟨y0,d0⟩:=VB.xn w 28 #[.int .i64 x.l,.int .i64 x.r,.slice A x.b.length c];have S0:=axj (show(w.alloc (.cells #[.int .i64 x.l,.int .i64 x.r,.slice A x.b.length c] 28)).heap.size=w.heap.size+1 by simp);go_enter Tryz.func21,Tryz.ntmps21
 go_wp2_with fail
 generalize w.alloc (.cells #[.int .i64 x.l,.int .i64 x.r,.slice A x.b.length c] 28)=W0 at*;obtain⟨y2,d2⟩:=VB.xn W0 28 #[.int .i64 0,.int .i64 0,.slice none 0 0];rw[S0.out]at d2;generalize W0.alloc (.cells #[.int .i64 0,.int .i64 0,.slice none 0 0] 28)=W2 at*;have xx:=y0.trans y2;have d0:=d0.ex y2;clear y0 y2 S0;refine(Yp p x A c W2 (h.ex xx)).mono ?_;rintro e w3 ⟨b0,rfl,hb0,x3⟩;obtain rfl:=afv hb0;clear hb0;have d0:=d0.ex x3;have d2:=d2.ex x3;have xx:=xx.trans x3;clear x3;obtain⟨p0,p1,p2⟩:=d0.d3;obtain⟨z0,z1,z2⟩:=d2.d3;have hlt2:=d2.lt;obtain⟨fz0,fz1,fz2⟩:=d2.z3;cases hb:U6 p x with
 |false=>
  have HN:=axj (Zz hb);clear hb;obtain⟨dd,zz⟩:=d2.l8 (.int .i64 0) (.int .i64 0) (.slice none 0 0);obtain⟨C0,C1,C2⟩:=dd.d3;have eF:=xx.aK zz (by omega);go_wp2_with fail
  refine axu (v:=.tuple #[.agg #[.int .i64 0,.int .i64 0,.slice none 0 0],.bool false]) (by simp[results,Tryz.results21,go_sem,C0,C1,C2]) rfl ?_;rw[RdB,HN.out];exact⟨none,0,rfl,λ_ _=>⟨⟨⟨by simp,λj x hj=>by simp at hj⟩,λj x hj=>by simp at hj⟩,rQ.nil _ _ _ _ _⟩,eF⟩
 |true=>
  have Hb:=axj hb;have HP:=axj (U5 hb);clear hb;have atu:=HP.out.1;obtain⟨y6,d6⟩:=VB.xn w3 28 #[.int .i64 x.l,.int .i64 x.r,.slice none 0 0];have s6:(w3.alloc (.cells #[.int .i64 x.l,.int .i64 x.r,.slice none 0 0] 28)).heap.size=w3.heap.size+1:=by simp
  have p2a:=(d0.ex y6).c2;go_wp2_with fail
  generalize w3.alloc (.cells #[.int .i64 x.l,.int .i64 x.r,.slice none 0 0] 28)=W6 at*;clear p0 p1 p2 p2a z0 z1 z2 fz0 fz1 fz2;go_loopw [25] (λi wr=>∃(k:Nat) (v:Value),k<=x.b.length/\i=.int .i64 k/\VB wr w3.heap.size 28 #[.int .i64 x.l,.int .i64 x.r,v]/\GE Xc 54 wr (w3.heap.size+1) wr.heap.size v (x.b.take k)/\Ex w3 wr) (λi _=>x.b.length-(intOf i).toNat)
  case atStart=>exact⟨0,_,axq _,rfl,d6,GE.nil _ _ _ _ _,y6⟩
  case round=>
   clear d6 s6 y6;rename World=>w7;obtain⟨k,v,hk,rfl,d6,hgm,he⟩:=hrel;by_cases hlt:k<x.b.length
   .obtain⟨g,off,r,u,eA,hr,b0,hu⟩:=(h.ex (xx.trans he)).jf hlt;obtain⟨P,pc,rfl,hP⟩:=hu.form;subst eA;have acT:=HP.out.2 r (axo hr);have Hr:=axj hr;clear hr hu;go_wp2_with fail
    go_loopw [9,31] (λo i wi=>∃j:Nat,j<=r.length/\i=.int .i64 j/\GE rR 57 wi w7.heap.size wi.heap.size o (r.take j)/\Ex w7 wi) (λ_ i _=>r.length-(intOf i).toNat)
    case atStart=>exact⟨0,axq _,rfl,GE.nil _ _ _ _ _,aCQ _⟩
    case round=>
     rename World=>wi;obtain⟨j,hj,rfl,hge,hi⟩:=hrel;by_cases hlt2:j<r.length
     .obtain⟨g2,off2,y,P2,pc2,Q2,qc2,eP,hy,c0,c1,hP2,hQ2⟩:=(hP.ex hi).iy hlt2;subst eP;have HT:=axj (show r.take (j+1)=r.take j++[y] by rw[axy,hy];rfl);clear hy;obtain⟨y1,dy⟩:=VB.xn wi 57 #[.slice P2 y.n.length pc2,.slice Q2 y.d.length qc2];have htl:(r.take j).length<=j:=ax7 _ _;go_wp2_with fail
      generalize wi.alloc (.cells #[.slice P2 y.n.length pc2,.slice Q2 y.d.length qc2] 57)=W1 at*;obtain⟨q0,q1⟩:=dy.d2;have hzi:=hi.size;have zy1:=y1.size;go_region_held3 (λW=>W.cell? ⟨wi.heap.size,0,none⟩=some (.slice P2 y.n.length pc2)/\W.cell? ⟨wi.heap.size,1,none⟩=some (.slice Q2 y.d.length qc2)) (first
       |(exact⟨q0,q1⟩)
       |(exact⟨af e2 q0,af e2 q1⟩)
       |(exact⟨af E3 q0,af E3 q1⟩)
       |(exact⟨af (E3.alloc _) q0,af (E3.alloc _) q1⟩)
       |(exact⟨dy5.c0,dy5.c1⟩)) (first
       |(go_at_call_of 45 (Value.slice P2 y.n.length pc2)
         refine(kR P2 pc2 y.n W1.drew (hP2.ex y1.drew)).mono ?_;rintro e w2 ⟨g3,c3,rfl,hc3,hg3,o3,x3⟩;have e2:Ex W1 w2:=(aCQ W1).drew.trans x3;have z2:=e2.size)
       |(go_at_call_of 45 (Value.slice Q2 y.d.length qc2)
         refine(kR Q2 qc2 y.d w2 (hQ2.ex (y1.trans e2))).mono ?_;rintro e w4 ⟨g4,c4,rfl,hc4,hg4,o4,x4⟩;have E3:Ex W1 w4:=e2.trans x4;have z4:=x4.size;have l3:=o3.lt;have hg3':W1.heap.size<=g3:=hg3;have F3:=(o3.ex x4).fr hP2.len (B:=W1.heap.size) hg3' hc3;have F4:=o4.fr hQ2.len (B:=W1.heap.size) (by omega) hc4;obtain⟨v5,w5,hrun,ajE,hO5,ajp,Be⟩:=jU (hge.ex (y1.trans E3)) (by omega) (dZ (x:=y) F3 F4 (iA (by omega)) E3.size) (by omega) E3.size (axk _) hzi (by omega);have dy4:=dy.ex E3;have dy5:VB w5 wi.heap.size 57 #[.slice P2 y.n.length pc2,.slice Q2 y.d.length qc2]:=(hO5.block wi.heap.size dy4.lt (λe=>by have:=hge.own _ e.symm;omega)).trans dy4)
       |(refine aH rfl _ _ _ rfl rfl rfl hrun ?_))
      all_goals
       have x5:=Be w7 (hi.trans (y1.trans E3)) (axk _);rw[<-HT.out]at ajE;clear q0 q1 Be hO5 hrun hge HT htl;go_wp2_with fail
       go_roundw;case rel=>exact⟨j+1,by omega,by go_num,ajE,x5⟩
       case measure=>simp[intOf];omega
     .obtain rfl:j=r.length:=by omega
      rw[axE]at hge;have HT:=axj (show x.b.take (k+1)=x.b.take k++[r] by rw[axy,Hr.out];rfl);have htl:(x.b.take k).length<=k:=ax7 _ _;have zi:=hi.size;obtain⟨oA,oc,eo⟩:=hge.kH;subst eo;obtain⟨v',w',hrun,Rn,ho',_,hE'⟩:=qz (hgm.ex hi) hi.size hge (by omega) (axk _) hi.size (axk _) (axD d6.lt (axk _)) (by omega);rw[<-HT.out]at Rn;have d6i:=d6.ex hi;have d6w:VB w' w3.heap.size 28 #[.int .i64 x.l,.int .i64 x.r,v]:=(ho'.block w3.heap.size d6i.lt (λe=>by have:=hgm.own _ e.symm;omega)).trans d6i;obtain⟨A7,c7,ev⟩:=Rn.kH;have hk1:(x.b.take (k+1)).length=k+1:=by rw[axx];omega
      rw[hk1]at ev;subst ev;clear hk1;have q2:=d6i.c2;have q3:=d6w.c2;have fz:=d6w.frozen 2;have xw:Ex w3 w':=hE' w3 (he.trans hi) (by omega);have yz:aM w3.heap.size w' (w'.setCell ⟨w3.heap.size,2,none⟩ (.slice A7 (k+1) c7)):=(aM.refl _ w').setCell (p:=⟨w3.heap.size,2,none⟩) rfl _;have agp:=Rn.k1 yz (by omega);have d62:VB (w'.setCell ⟨w3.heap.size,2,none⟩ (.slice A7 (k+1) c7)) w3.heap.size 28 #[.int .i64 x.l,.int .i64 x.r,.slice A7 (k+1) c7]:=d6w.bC 2 _;have xw2:=xw.aK yz (axk _);clear Rn hgm hE' ho' HT htl;go_wp2_with (at_builtin;refine wpList_append_run rfl _ _ _ rfl rfl rfl hrun ?_)
      go_roundw;case rel=>exact⟨k+1,_,by omega,by go_num,d62,agp.more (axk _) (ayH (by simp)),xw2⟩
      case measure=>simp[intOf];omega
   .obtain rfl:k=x.b.length:=by omega
    rw[axE]at hgm;have HY:=axj (TM Hb.out);obtain⟨A7,c7,rfl,_,hf⟩:=hgm.rows (by omega);have d2r:=d2.ex he;obtain⟨dd,zz⟩:=d2r.l8 (.int .i64 x.l) (.int .i64 x.r) (.slice A7 x.b.length c7);obtain⟨u0,u1,u2⟩:=d2r.d3;obtain⟨k0,k1,k2⟩:=d2r.z3;obtain⟨t0,t1,t2⟩:=d6.d3;obtain⟨C0,C1,C2⟩:=dd.d3;have eF:=(xx.trans he).aK zz (by omega);have hwz:=xx.size;have hwl:=d2.lt;have hf2:∀w2,jE 0 w.heap.size _ w2->j_ w2 A7 x.b/\rQ w2 w.heap.size w7.heap.size (.slice A7 x.b.length c7) x.b:=λw2 k=>by have ho:=((hgm.k1 zz (by omega)).iv k (by omega)).ofx (by omega);exact⟨ho.Da,ho.more (by omega) (axk _)⟩
    go_wp2_with fail
    refine axu (v:=.tuple #[.agg #[.int .i64 x.l,.int .i64 x.r,.slice A7 x.b.length c7],.bool true]) (by simp[results,Tryz.results21,go_sem,C0,C1,C2]) rfl ?_;rw[RdB,HY.out];exact⟨A7,c7,rfl,λw2 k=>⟨(hf2 w2 k).1,(hf2 w2 k).2.more (axk _) (ayH (by simp))⟩,eF⟩
theorem bW.aaz{E:EK α}{g off:Nat}{xs:List α}(h:bW E w (some ⟨g,off,none⟩) xs)(k:Nat):bW E w (some ⟨g,off+k*E.k,none⟩) (xs.drop k):=by obtain⟨hl,h⟩:=h;refine⟨by rw[axF];omega,λj x hj=>?_⟩;rw[axY]at hj;obtain⟨g',off',vs,e,hc,hR⟩:=h (k+j) x hj;injection e with e;injection e with e1 e2;subst e1 e2;refine⟨g,_,vs,rfl,λi u hu=>?_,hR⟩;have:=hc i u hu;rwa[ayu,<-ay8]at this
theorem OE(w:World):Calls prog 85 #[.int .i64 0] w λe w'=>G8 w zF e w':=by
 go_enter Tryz.func85,Tryz.ntmps85
 go_wp2_with fail
 obtain⟨x1,v1⟩:=VB.xn w 57 #[.slice (some ⟨w.heap.size+1,0,none⟩) 0 0,.slice (some ⟨w.heap.size+1+1,0,none⟩) 1 1];have s1:(w.alloc (.cells #[.slice (some ⟨w.heap.size+1,0,none⟩) 0 0,.slice (some ⟨w.heap.size+1+1,0,none⟩) 1 1] 57)).heap.size=w.heap.size+1:=by simp
 generalize w.alloc (.cells #[.slice (some ⟨w.heap.size+1,0,none⟩) 0 0,.slice (some ⟨w.heap.size+1+1,0,none⟩) 1 1] 57)=W1 at*;have x2:=((aCQ W1).alloc (aN [])).alloc (aN [1]);have o1:=(Own.new W1 []).ex ((aCQ (W1.alloc (aN []))).alloc (aN [1]));have o2:=Own.new (W1.alloc (aN [])) [1];have s2:(W1.alloc (aN [])).heap.size=w.heap.size+1+1:=by simp[s1]
 rw[s2]at o2;rw[s1]at o1;have v2:=v1.ex x2;obtain⟨d0,d1⟩:=v2.d2;change bodyPost _ _ _ _ _ ((W1.alloc (aN [])).alloc (aN [1]));generalize(W1.alloc (aN [])).alloc (aN [1])=W2 at*;refine axu (v:=.agg #[.slice (some ⟨w.heap.size+1,0,none⟩) 0 0,.slice (some ⟨w.heap.size+1+1,0,none⟩) 1 1]) (by simp[results,Tryz.results85,go_sem,d0,d1]) rfl ?_;exact⟨_,_,_,_,rfl,o1.fr (by simp) (by omega) (by simp),o2.fr (by simp) (by omega) (by simp),iA (by omega),x1.trans x2⟩
theorem aaU(w:World):Calls prog 85 #[.int .i64 1] w λe w'=>G8 w oF e w':=zJ 1 (by omega) w
theorem Y2(w:World):Calls prog 115 #[] w λe w'=>G8 w zF e w':=by
 obtain⟨x1,v1⟩:=VB.xn w 57 #[.slice none 0 0,.slice none 0 0];have s1:(w.alloc (.cells #[.slice none 0 0,.slice none 0 0] 57)).heap.size=w.heap.size+1:=by simp
 go_enter Tryz.func115,Tryz.ntmps115
 go_wp2_with fail
 generalize w.alloc (.cells #[.slice none 0 0,.slice none 0 0] 57)=W1 at*;refine(OE W1).mono ?_;rintro e w3 ⟨A3,c3,B3,d3,rfl,f3,g3,ap,x3⟩;have v3:=v1.ex x3;obtain⟨dd,zz⟩:=v3.st2 (.slice A3 zF.n.length c3) (.slice B3 zF.d.length d3);obtain⟨r0,r1⟩:=v3.d2;obtain⟨k0,k1⟩:=v3.z2;obtain⟨C0,C1⟩:=dd.d2;have f4:=(f3.aK zz (f3.hi.off (by omega))).more (B':=w.heap.size) (by omega);have g4:=(g3.aK zz (g3.hi.off (by omega))).more (B':=w.heap.size) (by omega);have eF:=(x1.trans x3).aK zz (axk _);go_wp2_with fail
 refine axu (v:=.agg #[.slice A3 zF.n.length c3,.slice B3 zF.d.length d3]) (by simp[results,Tryz.results115,go_sem,C0,C1]) rfl ?_;exact⟨A3,c3,B3,d3,rfl,f4,g4,ap,eF⟩
theorem yg(w:World):Calls prog 90 #[] w λe w'=>G8 w oF e w':=by
 obtain⟨x1,v1⟩:=VB.xn w 57 #[.slice none 0 0,.slice none 0 0];have s1:(w.alloc (.cells #[.slice none 0 0,.slice none 0 0] 57)).heap.size=w.heap.size+1:=by simp
 go_enter Tryz.func90,Tryz.ntmps90
 go_wp2_with fail
 generalize w.alloc (.cells #[.slice none 0 0,.slice none 0 0] 57)=W1 at*;refine(aaU W1).mono ?_;rintro e w3 ⟨A3,c3,B3,d3,rfl,f3,g3,ap,x3⟩;have v3:=v1.ex x3;obtain⟨dd,zz⟩:=v3.st2 (.slice A3 oF.n.length c3) (.slice B3 oF.d.length d3);obtain⟨r0,r1⟩:=v3.d2;obtain⟨k0,k1⟩:=v3.z2;obtain⟨C0,C1⟩:=dd.d2;have f4:=(f3.aK zz (f3.hi.off (by omega))).more (B':=w.heap.size) (by omega);have g4:=(g3.aK zz (g3.hi.off (by omega))).more (B':=w.heap.size) (by omega);have eF:=(x1.trans x3).aK zz (axk _);go_wp2_with fail
 refine axu (v:=.agg #[.slice A3 oF.n.length c3,.slice B3 oF.d.length d3]) (by simp[results,Tryz.results90,go_sem,C0,C1]) rfl ?_;exact⟨A3,c3,B3,d3,rfl,f4,g4,ap,eF⟩
theorem gm(n:Nat)(hn:n<=1000)(w:World):
 Calls prog 83 #[.int .i64 n] w λe w'=>∃v,e=.returned v/\O4 w' w.heap.size w'.heap.size v (replicate n zF)/\Ex w w':=by
 have tX:=GE.empty rR 57 w (axk w.heap.size);have he1:=(aCQ w).alloc (.cells #[] 57);have hs1:(w.alloc (.cells #[] 57)).heap.size=w.heap.size+1:=by simp
 go_enter Tryz.func83,Tryz.ntmps83
 go_wp2_with fail
 go_loopw [3,6] (λo i wr=>∃k:Nat,k<=n/\i=.int .i64 k/\GE rR 57 wr w.heap.size wr.heap.size o (replicate k zF)/\o≠.slice none 0 0/\Ex w wr) (λ_ i _=>n-(intOf i).toNat)
 case atStart=>exact⟨0,axq _,rfl,by rw[hs1];exact tX,by simp,he1⟩
 case round=>
  clear tX he1 hs1;obtain⟨k,hk,rfl,hge,hnn,he⟩:=hrel;by_cases hlt:k<n
  .have HT:=axj (show replicate (k+1) zF=replicate k zF++[zF] by rw[List.replicate_succ']);have hz:=he.size;go_wp2_with fail
   refine(Y2 _).mono ?_;rintro e w3 ⟨A3,c3,B3,d3,rfl,f3,p3,Uw,x3⟩;have hz3:=x3.size;obtain⟨v',w4,hrun,hge4,_,NQ,zf⟩:=jU (hge.ex x3) hz3 (dZ (x:=zF) f3 p3 Uw hz3) (axk _) hz3 (axk _) hz (by simp;omega);rw[<-HT.out]at hge4;have xL:=zf w (he.trans x3) (axk _);clear zf HT;go_wp2_with (at_builtin;refine wpList_append_run rfl _ _ _ rfl rfl rfl hrun ?_)
   go_roundw;case rel=>exact⟨k+1,by omega,by go_num,hge4,NQ,xL⟩
   case measure=>simp[intOf];omega
  .obtain rfl:k=n:=by omega
   go_wp2_with fail
   go_ret;exact⟨_,rfl,⟨hnn,hge⟩,he⟩
abbrev Zp(p:Int):={a:Int // iF p a=true}
abbrev xX(p:Int):={x:aG // FV p x}
theorem ag4(hp:0<p)(h:PN p f)(t:Nat):iF p (cf f t)=true:=by
 by_cases ht:t<f.length
 .have h1:cf f t∈f:=by
   rw[cf,axn ht,azd];exact ax6 ht
  exact axQ.1 h.e _ h1
 .rw[iN (by omega)];simp[iF,hp]
def dec(p:Int)(e:Nat)(c:Nat×Nat->Zp p)(j:Nat):List Int:=trim ((range e).map λt=>(c (j,t)).1)
theorem oh(e:Nat)(c:Nat×Nat->Zp p)(j t:Nat):cf (dec p e c j) t=if t<e then(c (j,t)).1 else 0:=by rw[dec,gX,yF]
theorem iV(e:Nat)(c:Nat×Nat->Zp p)(j:Nat):PN p (dec p e c j):=⟨mZ (ji λi y hi=>by
 obtain⟨h1,h2⟩:=axp.1 hi;rw[azf]at h2;rw[<-h2];exact Oo (c _).2),Tr.trim _⟩
theorem OB(e:Nat)(c:Nat×Nat->Zp p)(j:Nat):(dec p e c j).length<=e:=axA (iY _) (by simp)
def enc{p:Int}(hp:0<p)(v:Nat->List Int)(h:∀j,PN p (v j)):Nat×Nat->Zp p:=λq=>⟨cf (v q.1) q.2,ag4 hp (h q.1) q.2⟩
theorem adB(hp:0<p){v:Nat->List Int}(h:∀j,PN p (v j))(hl:(v j).length<=e):dec p e (enc hp v h) j=v j:=
 PN.eq hp (iV _ _ _) (h j) λu=>by
  rw[oh];by_cases hu:u<e
  .rw[axl hu];show p ∣ cf (v j) u-cf (v j) u;rw[Int.sub_self];exact Int.dvd_zero _
  .rw[axm hu,iN (by omega)];exact⟨0,by omega⟩
theorem aaL(hF:av p=true)(e:Nat)(c d:Nat×Nat->Zp p)(j:Nat):dec p e ((aD p hF).ad c d) j=bQ p (dec p e c j) 1 (dec p e d j):=by
 have hp:0<p:=by have:=ax hF;omega
 refine PN.eq hp (iV _ _ _) ((iV _ _ _).add hp 1 _) λu=>?_
 have h1:=(fE hp (iV e c j) (dec p e d j)).symm u;rw[oh,oh]at h1;rw[oh];by_cases hu:u<e
 .rw[axl hu,axl hu]at h1;rw[axl hu];have h2:p ∣ (((aD p hF).ad c d) (j,u)).1-((c (j,u)).1+(d (j,u)).1):=(aV.emod (p:=p) (λ_=>(c (j,u)).1+(d (j,u)).1)) 0;have:=ay5 h2 h1;rwa[show((((aD p hF).ad c d) (j,u)).1-((c (j,u)).1+(d (j,u)).1))+((c (j,u)).1+(d (j,u)).1-cf (bQ p (dec p e c j) 1 (dec p e d j)) u)=(((aD p hF).ad c d) (j,u)).1-cf (bQ p (dec p e c j) 1 (dec p e d j)) u by omega]at this
 .rw[axm hu,axm hu]at h1;rw[axm hu];exact h1
def cp(a:Int):List Int:=trim [a]
theorem FN{a:Int}(h:iF p a=true):PN p (cp a):=⟨mZ (by simp[aA,h]),Tr.trim _⟩
theorem aaK(hF:av p=true)(e:Nat)(a:Zp p)(c:Nat×Nat->Zp p)(j:Nat):dec p e ((aD p hF).sm a c) j=aB p (cp a.1) (dec p e c j):=by
 have hp:0<p:=by have:=ax hF;omega
 refine PN.eq hp (iV _ _ _) (PN.mul hp _ _) λu=>?_
 have h1:=((bf hp (cp a.1) (dec p e c j)).trans (aV.WV (aV.of_eq (funext λt=>gX [a.1] t)) (dec p e c j))).symm u;have h0:act [a.1] (cf (dec p e c j)) u=a.1*cf (dec p e c j) u:=by rw[show[a.1]=(range 1).map (λ_=>a.1)from rfl,Gg];show 0+a.1*(if 0<=u then cf (dec p e c j) (u-0)else 0)=_;rw[axl (axq u),Nat.sub_zero,azc]
 rw[h0,oh]at h1;rw[oh];by_cases hu:u<e
 .rw[axl hu]at h1;rw[axl hu];have h2:p ∣ (((aD p hF).sm a c) (j,u)).1-(a.1*(c (j,u)).1):=(aV.emod (p:=p) (λ_=>a.1*(c (j,u)).1)) 0;have:=ay5 h2 h1;rwa[show((((aD p hF).sm a c) (j,u)).1-(a.1*(c (j,u)).1))+(a.1*(c (j,u)).1-cf (aB p (cp a.1) (dec p e c j)) u)=(((aD p hF).sm a c) (j,u)).1-cf (aB p (cp a.1) (dec p e c j)) u by omega]at this
 .rw[axm hu,Int.mul_zero]at h1;rw[axm hu];exact h1
theorem agZ(hF:av p=true)(e:Nat)(j:Nat):dec p e (aD p hF).ze j=[]:=by
 have hp:0<p:=by have:=ax hF;omega
 refine PN.eq hp (iV _ _ _) (PN.nil p) λu=>?_
 rw[oh,jh];split<;>exact⟨0,by show(0:Int)-0=_;omega⟩
def PS{p:Int}(hF:av p=true)(V:(Nat->xX p)->Prop)(e:Nat)(c:Nat×Nat->Zp p):Prop:=(∀j t,e<=t->c (j,t)=(aD p hF).z)/\V (λj=>pe hF (dec p e c j))
theorem PS.sub{hF:av p=true}{V:(Nat->xX p)->Prop}(hV:Gh (aj p hF) V)(e:Nat):Gh (aD p hF) (PS hF V e):=by
 refine⟨⟨λ_ _ _=>rfl,?_⟩,λu v hu hv=>⟨λj t ht=>?_,?_⟩,λc u hu=>⟨λj t ht=>?_,?_⟩⟩
 .have:(λj=>pe hF (dec p e (aD p hF).ze j))=(aj p hF).ze:=funext λj=>by rw[agZ,iT];rfl
  rw[this];exact hV.zero
 .show(aD p hF).add (u (j,t)) (v (j,t))=_;rw[hu.1 j t ht,hv.1 j t ht,(aD p hF).bB]
 .have:(λj=>pe hF (dec p e ((aD p hF).ad u v) j))=(aj p hF).ad (λj=>pe hF (dec p e u j)) (λj=>pe hF (dec p e v j)):=funext λj=>by
   rw[aaL,<-JG hF (iV _ _ _) (iV _ _ _)];rfl
  rw[this];exact hV.add _ _ hu.2 hv.2
 .show(aD p hF).mul c (u (j,t))=_;rw[hu.1 j t ht,(aD p hF).aS]
 .have:(λj=>pe hF (dec p e ((aD p hF).sm c u) j))=(aj p hF).sm (pe hF (cp c.1)) (λj=>pe hF (dec p e u j)):=funext λj=>by
   rw[aaK,<-pV hF (FN c.2) (iV _ _ _)];rfl
  rw[this];exact hV.sm _ _ hu.2
theorem Sp.UU(F:aJ K)(R:List (Nat->K)):Gh F (Sp F R):=⟨Sp.zero F R,λ_ _ hu hv=>hu.add hv,λc _ hu=>hu.smul c⟩
def oM{p:Int}(hF:av p=true)(V:(Nat->xX p)->Prop)(r d:Nat):Prop:=∀e,jH (aD p hF) (PS hF V e) (r*e-d)
theorem jH.afH{ι:Type}{F:aJ K}{S:(ι->K)->Prop}(hS:Gh F S)(z:Nat->ι->K)(p:Nat->ι)(h:∀k,k<N->S (z k)/\z k (p k)≠F.z/\∀l,k<l->l<N->z l (p k)=F.z):jH F S N:=λM f hf hM=>by obtain⟨a,⟨j,hj,haj⟩,hs⟩:=zb F M N (λi k=>f i (z k)) hM;refine⟨F.cb a z N,hS.cb a z N λk hk=>(h k hk).1,XE (λk hk=>(h k hk).2) a ⟨j,hj,haj⟩,λi hi=>?_⟩;rw[(hf i hi).cb,<-hs i hi];exact F.aO λk _=>F.mul_comm _ _
def xp(t:Nat):List Int:=trim ((range (t+1)).map λs=>if s=t then 1 else 0)
theorem aic(t u:Nat):cf (xp t) u=if u=t then 1 else 0:=by
 rw[xp,gX,yF];by_cases h:u=t
 .rw[axl (by omega),axl h]
 .rw[axm h];split<;>rfl
theorem ad1(h2:2<=p)(t:Nat):PN p (xp t):=⟨mZ (ji λi y hi=>by
 obtain⟨_,h2⟩:=axp.1 hi;rw[azf]at h2;rw[<-h2];split<;>omega),Tr.trim _⟩
theorem ae7(t:Nat):(xp t).length<=t+1:=axA (iY _) (by simp)
theorem oM.leaf(hF:av p=true){V:(Nat->xX p)->Prop}(hV:Gh (aj p hF) V)(r δ:Nat)(R:Nat->Nat->List Int)(q:Nat->Nat)(h:∀i,i<r->(∀j,PN p (R i j)/\(R i j).length<=1+δ)/\V (λj=>pe hF (R i j))/\R i (q i)=[1]/\∀l,l<r->l≠i->R l (q i)=[]):
 oM hF V r (r*δ):=λe=>by
 have h2:=ax hF;have hp:0<p:=by omega
 rcases ax9 δ e with hd|hd;case inr=>
  have h0:r*e-r*δ=0:=by have:=Nat.mul_le_mul_left r hd;omega
  rw[h0];exact λM f hf hM=>absurd hM (ay4 _)
 obtain⟨e',he'⟩:=xq (e-δ);have hN:r*e-r*δ=r*e':=by rw[<-Nat.mul_sub,he']
 rw[hN];have hpn:∀k j,PN p (aB p (xp (k%e')) (R (k / e') j)):=λk j=>PN.mul hp _ _
 have he0:0<e':=by omega
 refine jH.afH (PS.sub hV e) (λk=>enc hp (λj=>aB p (xp (k%e')) (R (k / e') j)) (hpn k)) (λk=>(q (k / e'),k%e')) λk hk=>?_
 have hkr:k / e'<r:=azF (by rw[ayq];exact hk);have hkm:k%e'<e':=Nat.mod_lt _ he0;obtain⟨h3,h4,h5,h6⟩:=h (k / e') hkr;have hlen:∀j,(aB p (xp (k%e')) (R (k / e') j)).length<=e:=λj=>by have h7:=Tj p (xp (k%e')) (R (k / e') j);have h8:=ae7 (k%e');have h9:=(h3 j).2;omega
 have hat:∀l,l<r*e'->(enc hp (λj=>aB p (xp (l%e')) (R (l / e') j)) (hpn l)) (q (k / e'),k%e')=(if k=l then⟨1%p,jK hp 1⟩else(aD p hF).z):=λl hl=>by
  refine axS ?_;show cf (aB p (xp (l%e')) (R (l / e') (q (k / e')))) (k%e')=_;by_cases hd2:l / e'=k / e'
  .rw[hd2,h5,gH h2 (ad1 h2 _),aic];by_cases hm:k%e'=l%e'
   .rw[axl hm];have hkl:k=l:=by rw[<-Nat.div_add_mod k e',<-Nat.div_add_mod l e',hd2,hm]
    rw[axl hkl];show 1=1%p;rw[ayl (by omega) (by omega)]
   .rw[axm hm,axm (λe=>hm (by rw[e]))];rfl
  .rw[h6 (l / e') (azF (by rw[ayq];exact hl)) hd2,M0,axm (λe=>hd2 (by rw[e]))];rfl
 refine⟨⟨λj t ht=>axS ?_,?_⟩,?_,λl hl hl2=>?_⟩
 .show cf (aB p (xp (k%e')) (R (k / e') j)) t=0;exact iN (by have:=hlen j;omega)
 .have:(λj=>pe hF (dec p e (enc hp (λj=>aB p (xp (k%e')) (R (k / e') j)) (hpn k)) j))=(aj p hF).sm (pe hF (xp (k%e'))) (λj=>pe hF (R (k / e') j)):=funext λj=>by
   rw[adB hp (hpn k) (hlen j),<-pV hF (ad1 h2 _) (h3 j).1];rfl
  rw[this];exact hV.sm _ _ h4
 .rw[hat k hk,axl rfl];intro h0;have h1:(1:Int)%p=0:=congrArg Subtype.val h0;rw[ayl (by omega) (by omega)]at h1;omega
 .rw[hat l hl2,axm (by omega)]
theorem sQ(hp:0<p){c:Nat×Nat->Zp p}(h:∀t,t<e->(c (j,t)).1=0):dec p e c j=[]:=
 PN.eq hp (iV _ _ _) (PN.nil p) λu=>by
  rw[oh,jh];split
  .rename_i hu;rw[h u hu];exact⟨0,by omega⟩
  .exact⟨0,by omega⟩
theorem adC{hF:av p=true}{V:(Nat->xX p)->Prop}{c:Nat×Nat->Zp p}(h:PS hF V e c){q:Nat×Nat}(hq:c q≠(aD p hF).z):dec p e c q.1≠[]:=λh0=>by
 have h1:=oh e c q.1 q.2;rw[h0,jh]at h1;by_cases ht:q.2<e
 .rw[axl ht]at h1;exact hq (axS h1.symm)
 .exact hq (h.1 q.1 q.2 (by omega))
theorem oM.bd{hF:av p=true}{R:List (List (xX p))}(hR:eX (aj p hF) n R)(h:oM hF (Sp (aj p hF) ((aj p hF).fns R)) R.length d):∀v∈R,∀x∈v,FL (d+1) x.1:=by
 have hp:0<p:=by have:=ax hF;omega
 obtain⟨hW,P,he⟩:=hR;intro v hv x hx;obtain⟨i,hi⟩:=axz hv;obtain⟨j,hj⟩:=axz hx;have hir:=(axp.1 hi).1;have hpl:=he.pl;obtain⟨p0,hp0⟩:∃p0,P[i]?=some p0:=⟨_,axn (by omega)⟩;obtain⟨c,hc,⟨q,hq⟩,hz⟩:=h (d+1) ((R.length-1)*(d+1)) (λk c=>c (P.getD (xA i (k / (d+1))) 0,k%(d+1))) (λk _=>tV.at _ _) (by
  obtain⟨r,hr⟩:∃r,R.length=r+1:=⟨R.length-1,by omega⟩;rw[hr,ay7,ayX];omega)
 have hoth:∀(k pk:Nat),P[k]?=some pk->k≠i->dec p (d+1) c pk=[]:=λk pk hk hki=>sQ hp λt ht=>by
  have hkr:k<R.length:=by have:=(axp.1 hk).1;omega
  obtain⟨u,hu,hsk⟩:=XY hir hkr hki;have h1:=hz (u*(d+1)+t) (by
   have:(u+1)*(d+1)<=(R.length-1)*(d+1):=ayk _ hu;rw[ayX]at this;omega)
  rw[show(u*(d+1)+t) / (d+1)=u by rw[ayq,Nat.mul_add_div (by omega),Nat.div_eq_of_lt ht,ayb],show(u*(d+1)+t)%(d+1)=t by rw[ayq,Nat.mul_add_mod];exact Nat.mod_eq_of_lt ht,hsk,axt,hk]at h1;exact congrArg Subtype.val h1
 obtain⟨w,hw⟩:∃w:Nat->xX p,w=λj=>pe hF (dec p (d+1) c j):=⟨_,rfl⟩
 have hsp:Sp (aj p hF) ((aj p hF).fns R) w:=by rw[hw];exact hc.2
 have hwz:∀(k pk:Nat),P[k]?=some pk->k≠i->w pk=(aj p hF).z:=λk pk hk hki=>by rw[hw];show pe hF (dec p (d+1) c pk)=_;rw[hoth k pk hk hki,iT]
 have hall:∀j,w j=(aj p hF).mul (w p0) ((aj p hF).el v j):=λj=>by
  have h3:=he.oN (hsp.vd ((Sp.mem (F:=aj p hF) (axr.2 ⟨v,axo hi,rfl⟩)).smul (w p0))) λpp hpp=>by
   obtain⟨k,hk⟩:=axz hpp;show(aj p hF).add (w pp) ((aj p hF).mul ((aj p hF).neg (aj p hF).o) ((aj p hF).mul (w p0) ((aj p hF).el v pp)))=_;by_cases e:k=i
   .subst e;rw[hp0]at hk;injection hk with hk;subst hk;rw[he.one k p0 v hp0 hi,(aj p hF).gK,(aj p hF).neg_mul,(aj p hF).bE,(aj p hF).add_neg]
   .rw[hwz k pp hk e,he.BV k i pp v hk hi (λq=>e q.symm),(aj p hF).aS,(aj p hF).aS,(aj p hF).bB]
  have h4:(aj p hF).add (w j) ((aj p hF).mul ((aj p hF).neg (aj p hF).o) ((aj p hF).mul (w p0) ((aj p hF).el v j)))=(aj p hF).z:=congrFun h3 j;rw[(aj p hF).neg_mul,(aj p hF).bE]at h4;rw[(aj p hF).nY h4,(aj p hF).neg_neg]
 have hg0:dec p (d+1) c p0≠[]:=λh0=>by
  have h1:w p0=(aj p hF).z:=by rw[hw];show pe hF (dec p (d+1) c p0)=_;rw[h0,iT]
  have h2:=hall q.1;rw[h1,(aj p hF).gP,hw]at h2;exact Ep hF (iV _ _ _) (adC hc hq) h2
 have hxj:(aj p hF).el v j=x:=Ops.dD _ hj;have h5:=hall j;rw[hxj,hw]at h5;exact aao hF (iV _ _ _) (iV _ _ _) hg0 h5.symm (OB _ _ _) (OB _ _ _)
theorem oM.mono{hF:av p=true}{V:(Nat->xX p)->Prop}{r' d':Nat}(h:oM hF V r d)(hr:r'<=r)(hd:d<=d'):oM hF V r' d':=λe=>(h e).mono (by have:=ayk e hr;omega)
theorem oM.iff{hF:av p=true}{V V':(Nat->xX p)->Prop}(h:oM hF V r d)(hv:∀v,V v->V' v):oM hF V' r d:=λe M f hf hM=>by obtain⟨x,h1,h2⟩:=h e M f hf hM;exact⟨x,⟨h1.1,hv _ h1.2⟩,h2⟩
def b_{K:Type}(z:K)(v:Nat->K):Option Nat->K
 |some i=>v i
 |none=>z
def EH{K:Type}(F:aJ K)(f g:Nat->Option Nat)(s:Nat->K)(v w:Nat->K):Nat->K:=λj=>F.add (b_ F.z v (f j)) (F.mul (s j) (b_ F.z w (g j)))
theorem oM.two{hF:av p=true}{VA VB V:(Nat->xX p)->Prop}{rA rB:Nat}(hA:oM hF VA rA dA)(hB:oM hF VB rB dB)(sA:Gh (aj p hF) VA)(sB:Gh (aj p hF) VB)(f g:Nat->Option Nat)(s:Nat->Zp p)
 (hV:∀v w,VA v->VB w->V (EH (aj p hF) f g (λj=>pe hF (cp (s j).1)) v w))
 (hi:∀v w,VA v->VB w->(∀j,EH (aj p hF) f g (λj=>pe hF (cp (s j).1)) v w j=(aj p hF).z)->(∀j,v j=(aj p hF).z)/\∀j,w j=(aj p hF).z):oM hF V (rA+rB) (dA+dB):=λe=>by
 have hp:0<p:=by have:=ax hF;omega
 have hN:(rA+rB)*e-(dA+dB)<=(rA*e-dA)+(rB*e-dB)-0:=by rw[ayu];omega
 refine jH.mono (jH.push (Q:=0) (jH.prod (PS.sub sA e) (PS.sub sB e) (hA e) (hB e))
  (λx q=>(aD p hF).add (b_ (aD p hF).z (λi=>x (.inl (i,q.2))) (f q.1)) ((aD p hF).mul (s q.1) (b_ (aD p hF).z (λi=>x (.inr (i,q.2))) (g q.1)))) (λq=>?_) (λ_ _=>(aD p hF).z) (λi hi=>absurd hi (ay4 _)) (λx hx _=>?_)) hN
 .have la:tV (aD p hF) (λx:(Nat×Nat) ⊕ (Nat×Nat)->Zp p=>b_ (aD p hF).z (λi=>x (.inl (i,q.2))) (f q.1)):=by
   cases f q.1 with
   |none=>exact⟨λ_ _=>((aD p hF).bB _).symm,λc _=>((aD p hF).aS c).symm⟩
   |some i=>exact tV.at _ _
  have lb:tV (aD p hF) (λx:(Nat×Nat) ⊕ (Nat×Nat)->Zp p=>b_ (aD p hF).z (λi=>x (.inr (i,q.2))) (g q.1)):=by
   cases g q.1 with
   |none=>exact⟨λ_ _=>((aD p hF).bB _).symm,λc _=>((aD p hF).aS c).symm⟩
   |some i=>exact tV.at _ _
  refine⟨λu v=>?_,λc u=>?_⟩
  .rw[la.add,lb.add,(aD p hF).distrib,(aD p hF).XP]
  .rw[la.sm,lb.sm,(aD p hF).distrib,<-(aD p hF).mul_assoc,<-(aD p hF).mul_assoc,(aD p hF).mul_comm (s q.1) c]
 .obtain⟨⟨a1,a2⟩,⟨b1,b2⟩⟩:=hx;obtain⟨y,hy⟩:∃y:Nat×Nat->Zp p,y=λq=>(aD p hF).add (b_ (aD p hF).z (λi=>x (.inl (i,q.2))) (f q.1)) ((aD p hF).mul (s q.1) (b_ (aD p hF).z (λi=>x (.inr (i,q.2))) (g q.1))):=⟨_,rfl⟩
  have hda:∀j,pe hF (dec p e (λq=>b_ (aD p hF).z (λi=>x (.inl (i,q.2))) (f q.1)) j)=b_ (aj p hF).z (λj=>pe hF (dec p e (λi=>x (.inl i)) j)) (f j):=λj=>by
   have:dec p e (λq=>b_ (aD p hF).z (λi=>x (.inl (i,q.2))) (f q.1)) j=match f j with|some i=>dec p e (λi=>x (.inl i)) i|none=>[]:=by
    cases hfj:f j with
    |none=>exact sQ hp λt _=>by dsimp only;rw[hfj];rfl
    |some i=>unfold dec;dsimp only;rw[hfj];rfl
   rw[this];cases f j with
   |none=>exact iT hF
   |some i=>rfl
  have hdb:∀j,pe hF (dec p e (λq=>b_ (aD p hF).z (λi=>x (.inr (i,q.2))) (g q.1)) j)=b_ (aj p hF).z (λj=>pe hF (dec p e (λi=>x (.inr i)) j)) (g j):=λj=>by
   have:dec p e (λq=>b_ (aD p hF).z (λi=>x (.inr (i,q.2))) (g q.1)) j=match g j with|some i=>dec p e (λi=>x (.inr i)) i|none=>[]:=by
    cases hfj:g j with
    |none=>exact sQ hp λt _=>by dsimp only;rw[hfj];rfl
    |some i=>unfold dec;dsimp only;rw[hfj];rfl
   rw[this];cases g j with
   |none=>exact iT hF
   |some i=>rfl
  have hyj:(λj=>pe hF (dec p e y j))=EH (aj p hF) f g (λj=>pe hF (cp (s j).1)) (λj=>pe hF (dec p e (λi=>x (.inl i)) j)) (λj=>pe hF (dec p e (λi=>x (.inr i)) j)):=funext λj=>by
   unfold EH;rw[<-hda,<-hdb];have e1:dec p e y j=dec p e ((aD p hF).ad (λq=>b_ (aD p hF).z (λi=>x (.inl (i,q.2))) (f q.1)) ((aD p hF).sm (s j) (λq=>b_ (aD p hF).z (λi=>x (.inr (i,q.2))) (g q.1)))) j:=by rw[hy];rfl
   rw[e1,aaL,<-JG hF (iV _ _ _) (iV _ _ _),aaK,<-pV hF (FN (s j).2) (iV _ _ _)]
  rw[<-hy];refine⟨⟨λj t ht=>?_,?_⟩,λh0=>?_⟩
  .rw[hy];dsimp only;have z1:b_ (aD p hF).z (λi=>x (.inl (i,t))) (f j)=(aD p hF).z:=by
    cases f j with
    |none=>rfl
    |some i=>exact a1 i t ht
   have z2:b_ (aD p hF).z (λi=>x (.inr (i,t))) (g j)=(aD p hF).z:=by
    cases g j with
    |none=>rfl
    |some i=>exact b1 i t ht
   rw[z1,z2,(aD p hF).aS,(aD p hF).bB]
  .rw[hyj];exact hV _ _ a2 b2
  .obtain⟨c1,c2⟩:=hi _ _ a2 b2 λj=>by
    rw[<-congrFun hyj j];show pe hF (dec p e y j)=_;rw[sQ hp λt _=>by rw[hy];exact congrArg Subtype.val (h0 (j,t)),iT]
   intro q;have fin:∀(c:Nat×Nat->Zp p),(∀j t,e<=t->c (j,t)=(aD p hF).z)->(∀j,pe hF (dec p e c j)=(aj p hF).z)->∀q,c q=(aD p hF).z:=λc hc hd q=>by
    by_cases ht:q.2<e
    .have h1:=oh e c q.1 q.2;have h2:dec p e c q.1=[]:=ayv λhn=>Ep hF (iV _ _ _) hn (hd q.1)
     rw[h2,jh,axl ht]at h1;exact axS h1.symm
    .exact hc q.1 q.2 (by omega)
   cases q with
   |inl q=>exact fin (λi=>x (.inl i)) a1 c1 q
   |inr q=>exact fin (λi=>x (.inr i)) b1 c2 q
theorem OU:∀(Q P:List Nat),Q.Pairwise (·<·)->(∀q∈Q,q∈P)->Q.length<=P.length
 |[],_,_,_=>axq _
 |a::Q,P,hQ,h=>by
  have ha:a∈P:=h a (by simp);have h1:=OU Q (P.filter λx=>decide (x≠a)) (List.pairwise_cons.1 hQ).2 λq hq=>azL.2 ⟨h q (by simp[hq]),by have:=(List.pairwise_cons.1 hQ).1 q hq;simp;omega⟩
  have h2:(P.filter λx=>decide (x≠a)).length<P.length:=List.length_filter_lt_length_iff_exists.2 ⟨a,ha,by simp⟩;rw[axR];omega
theorem aap(P:List Nat)(b:Nat->Bool):(P.filter b).length+(P.filter λx=> !b x).length=P.length:=by
 induction P with
 |nil=>rfl
 |cons a P ih=>rw[List.filter_cons,List.filter_cons];cases b a<;>simp<;>omega
theorem kJ.begins{F:aJ K}{R:List (List K)}(h:kJ F R R.length n P){v:Nat->K}(hv:Sp F (F.fns R) v){a:Nat}(h0:∀j,j<a->v j=F.z)(ha:v a≠F.z):a∈P:=
 ayv λhn=>ha (by
  rw[h.YA hv a];refine jv F a v _ λq hq=>?_
  obtain⟨i,hi⟩:=axz hq;rw[ayD]at hi;obtain⟨h1,h2⟩:=hi;unfold Ops.fns at h1;rw[axw]at h1;cases hr:R[i]? with
  |none=>rw[hr]at h1;cases h1
  |some r=>
   rw[hr]at h1;simp only[ayP,Option.some.injEq]at h1;rcases azD q.2 a with e|e|e
   .exact .inl (h0 _ e)
   .exact absurd (e▸axo h2) hn
   .refine .inr ?_;rw[<-h1];exact h.led i q.2 r h2 hr a e)
theorem kJ.high{F:aJ K}{R:List (List K)}(h:kJ F R R.length n P){v:Nat->K}(hv:Sp F (F.fns R) v){a:Nat}(h0:∀p∈P,p<a->v p=F.z):∀j,j<a->v j=F.z:=λj hj=>by
 rw[h.YA hv j];refine jv F j v _ λq hq=>?_
 obtain⟨i,hi⟩:=axz hq;rw[ayD]at hi;obtain⟨h1,h2⟩:=hi;unfold Ops.fns at h1;rw[axw]at h1;cases hr:R[i]? with
 |none=>rw[hr]at h1;cases h1
 |some r=>
  rw[hr]at h1;simp only[ayP,Option.some.injEq]at h1;rcases ax9 q.2 a with e|e
  .exact .inl (h0 _ (axo h2) e)
  .refine .inr ?_;rw[<-h1];exact h.led i q.2 r h2 hr j (by omega)
def Y_{K:Type}(z:K)(m n:Nat)(v:Nat->K):Nat->K:=λj=>if j<n then v (m+j)else z
theorem oM.cut{hF:av p=true}{m:Nat}{Z C:List (List (xX p))}(hZ:aQ N Z)(h:oM hF (Sp (aj p hF) ((aj p hF).fns Z)) r d)(hr:Z.length<=r)(hC:eX (aj p hF) n C)
 (hi:∀v,Sp (aj p hF) ((aj p hF).fns Z) v->(∀j,j<m->v j=(aj p hF).z)->Sp (aj p hF) ((aj p hF).fns C) (Y_ (aj p hF).z m n v))
 (hj:∀c∈C,∃v,Sp (aj p hF) ((aj p hF).fns Z) v/\(∀j,j<m->v j=(aj p hF).z)/\∀j,j<n->v (m+j)=(aj p hF).el c j):oM hF (Sp (aj p hF) ((aj p hF).fns C)) C.length d:=λe=>by
 have hp:0<p:=by have:=ax hF;omega
 obtain⟨hw,P,he⟩:=dL (aj p hF) hZ;have hs:=λv=>dH (aj p hF) hZ v
 have hRl:((aj p hF).aC N Z).length<=Z.length:=by unfold Ops.aC;rw[axx,oV];omega
 generalize(aj p hF).aC N Z=R at hw he hs hRl;have hpl:=he.pl;obtain⟨Pm,hPm⟩:∃Pm,P.filter (λx=>decide (m<=x/\x<m+n))=Pm:=⟨_,rfl⟩;obtain⟨Po,hPo⟩:∃Po,P.filter (λx=> !decide (m<=x/\x<m+n))=Po:=⟨_,rfl⟩;have hlen:Pm.length+Po.length=P.length:=by rw[<-hPm,<-hPo];exact aap P _
 have hCl:C.length<=Pm.length:=by
  obtain⟨hCw,Q,hQ⟩:=hC;have h1:(Q.map (m+·)).length<=Pm.length:=by
   refine OU _ _ ?_ λa ha=>?_
   .rw[List.pairwise_map];exact hQ.KN.imp λh=>by omega
   .obtain⟨q,hq,rfl⟩:=axr.1 ha;have hqn:=hQ.lt q hq;obtain⟨i,hqi⟩:=axz hq;have hil:i<C.length:=by have:=(axp.1 hqi).1;have:=hQ.pl;omega
    obtain⟨c,hc⟩:∃c,C[i]?=some c:=⟨_,axn hil⟩;obtain⟨v,v1,v2,v3⟩:=hj c (axo hc);rw[<-hPm];refine azL.2 ⟨he.begins ((hs v).2 v1) (λj hjm=>?_) ?_,by simp;omega⟩
    .by_cases e:j<m
     .exact v2 j e
     .have h4:=v3 (j-m) (by omega);rw[show m+(j-m)=j by omega]at h4;rw[h4];exact hQ.led i q c hqi hc _ (by omega)
    .rw[v3 q hqn,hQ.one i q c hqi hc];exact(aj p hF).Qw
  rwa[axs,hQ.pl]at h1
 have hN:C.length*e-d<=(r*e-d)-Po.length*e:=by have h1:(C.length+Po.length)*e<=r*e:=ayk e (by omega);rw[ayu]at h1;omega
 refine jH.mono (jH.push (h e) (λx q=>if q.1<n then x (m+q.1,q.2)else(aD p hF).z) (λq=>?_) (λk x=>x (Po.getD (k / e) 0,k%e)) (λ_ _=>tV.at _ _) (λx hx hk=>?_)) hN
 .by_cases hq:q.1<n
  .simp only[hq,if_true];exact tV.at _ _
  .simp only[hq,if_false];exact⟨λ_ _=>((aD p hF).bB _).symm,λc _=>((aD p hF).aS c).symm⟩
 .obtain⟨x1,x2⟩:=hx;obtain⟨v,hv⟩:∃v:Nat->xX p,v=λj=>pe hF (dec p e x j):=⟨_,rfl⟩
  rw[<-hv]at x2;have hvo:∀q∈Po,v q=(aj p hF).z:=λq hq=>by
   obtain⟨i,hqi⟩:=axz hq;have hil:=(axp.1 hqi).1;have:dec p e x q=[]:=sQ hp λt ht=>by
    have h1:=hk (i*e+t) (by
     have:(i+1)*e<=Po.length*e:=ayk e hil;rw[ayX]at this;omega)
    rw[show(i*e+t) / e=i by rw[ayq,Nat.mul_add_div (by omega),Nat.div_eq_of_lt ht,ayb],show(i*e+t)%e=t by rw[ayq,Nat.mul_add_mod];exact Nat.mod_eq_of_lt ht,axt,hqi]at h1;exact congrArg Subtype.val h1
   rw[hv];show pe hF (dec p e x q)=_;rw[this,iT]
  have aj8:∀q∈P,¬(m<=q/\q<m+n)->v q=(aj p hF).z:=λq hq hn=>hvo q (by
   rw[<-hPo];exact azL.2 ⟨hq,by simp;omega⟩)
  have hlow:∀j,j<m->v j=(aj p hF).z:=he.high ((hs v).2 x2) λq hq hqm=>aj8 q hq (by omega)
  have hdj:∀j,dec p e (λq=>if q.1<n then x (m+q.1,q.2)else(aD p hF).z) j=if j<n then dec p e x (m+j)else[]:=λj=>by
   by_cases e1:j<n
   .rw[axl e1];unfold dec;simp only[e1,if_true]
   .rw[axm e1];exact sQ hp λt _=>by simp only[e1,if_false];rfl
  have hpe:(λj=>pe hF (dec p e (λq=>if q.1<n then x (m+q.1,q.2)else(aD p hF).z) j))=Y_ (aj p hF).z m n v:=funext λj=>by
   rw[hdj];unfold Y_;by_cases e1:j<n
   .rw[axl e1,axl e1,hv]
   .rw[axm e1,axm e1,iT]
  refine⟨⟨λj t ht=>?_,?_⟩,λh0 q=>?_⟩
  .dsimp only;split
   .exact x1 _ t ht
   .rfl
  .rw[hpe];exact hi v x2 hlow
  .have hmid:∀j,j<n->v (m+j)=(aj p hF).z:=λj hjn=>by
    have h1:dec p e (λq=>if q.1<n then x (m+q.1,q.2)else(aD p hF).z) j=[]:=sQ hp λt _=>by rw[h0 (j,t)];rfl
    rw[hdj,axl hjn]at h1;rw[hv];show pe hF (dec p e x (m+j))=_;rw[h1,iT]
   have hvz:=he.oN ((hs v).2 x2) λq hq=>by
    by_cases e1:m<=q/\q<m+n
    .have:=hmid (q-m) (by omega);rwa[show m+(q-m)=q by omega]at this
    .exact aj8 q hq e1
   by_cases ht:q.2<e
   .have h1:=oh e x q.1 q.2;have h2:dec p e x q.1=[]:=ayv λhn=>Ep hF (iV _ _ _) hn (by have:=congrFun hvz q.1;rw[hv]at this;exact this)
    rw[h2,jh,axl ht]at h1;exact axS h1.symm
   .exact x1 q.1 q.2 (by omega)
section
section
variable {K : Type}
theorem LK(F:aJ K)(v:Nat->K)(j:Nat):∀(l:List ((Nat->K)×Nat)) (R:Nat->K) (P:Nat->Nat),(∀(i:Nat) (q:(Nat->K)×Nat),l[i]?=some q->q.1 j=R i/\q.2=P i)->DU F l v j=F.bD l.length λi=>F.mul (R i) (v (P i))
 |[],_,_,_=>rfl
 |q::l,R,P,h=>by
  rw[lu,axR,F.uZ (j0:=0) (f:=λi=>F.mul (R i) (v (P i))) (by omega),LK F v j l (λi=>R (xA 0 i)) (λi=>P (xA 0 i)) λi q hq=>by
   have:=h (i+1) q (by simpa using hq);rw[show xA 0 i=i+1 by unfold xA;rw[axm (by omega)]];exact this]
  obtain⟨h1,h2⟩:=h 0 q rfl;rw[h1,h2,F.mul_comm]
theorem kJ.S_{F:aJ K}{R:List (List K)}(h:kJ F R R.length n P){v:Nat->K}(hv:Sp F (F.fns R) v)(j:Nat):v j=F.bD R.length λi=>F.mul (F.el (R.getD i []) j) (v (P.getD i 0)):=by
 have hl:((F.fns R).zip P).length=R.length:=by have:=h.pl;unfold Ops.fns;rw[azE,axs];omega
 rw[h.YA hv j,LK F v j _ (λi=>F.el (R.getD i []) j) (λi=>P.getD i 0) λi q hq=>?_,hl];rw[ayD]at hq;obtain⟨h1,h2⟩:=hq;unfold Ops.fns at h1;rw[axw]at h1;cases hr:R[i]? with
 |none=>rw[hr]at h1;cases h1
 |some r=>
  rw[hr]at h1;simp only[ayP,Option.some.injEq]at h1;refine⟨?_,?_⟩
  .rw[<-h1,axt,hr];rfl
  .rw[axt,h2];rfl
theorem aJ.w_(F:aJ K)(f:Nat->K)(a:Nat):∀b,F.bD (a+b) f=F.add (F.bD a f) (F.bD b λi=>f (a+i))
 |0=>by show _=F.add _ F.z;rw[F.dP];rfl
 |b+1=>by rw[<-ay8];show F.add (F.bD (a+b) f) (f (a+b))=F.add _ (F.add _ _);rw[F.w_ f a b,F.add_assoc]
end
theorem R6(h2:2<=p):cp (1%p)=[1]:=by rw[ayl (by omega) (by omega)];rfl
theorem su(hF:av p=true):pe hF [1]=(aj p hF).o:=axS (sj hF (PN.one (ax hF)))
theorem oM.bes{hF:av p=true}{wA wB:Nat}{A B Y:List (List (xX p))}(hA:eX (aj p hF) wA A)(hB:eX (aj p hF) wB B)(mA:oM hF (Sp (aj p hF) ((aj p hF).fns A)) A.length dA)(mB:oM hF (Sp (aj p hF) ((aj p hF).fns B)) B.length dB)
 (hY:aQ n Y) (hl:Y.length=A.length+B.length) (f g:Nat->Option Nat) (s:Nat->Zp p) (h1:∀i j,i<A.length->j<n->(aj p hF).el (Y.getD i []) j=b_ (aj p hF).z ((aj p hF).fn (A.getD i [])) (f j))
 (h2:∀i j,i<B.length->j<n->(aj p hF).el (Y.getD (A.length+i) []) j=(aj p hF).mul (pe hF (cp (s j).1)) (b_ (aj p hF).z ((aj p hF).fn (B.getD i [])) (g j))):
 oM hF (Sp (aj p hF) ((aj p hF).fns ((aj p hF).beside Y))) (A.length+B.length) (dA+dB):=by
 have hlo:=ax hF;have hp:0<p:=by omega
 obtain⟨Xk,PA,eA⟩:=hA;obtain⟨hBw,PB,eB⟩:=hB;have hpa:=eA.pl;have hpb:=eB.pl;obtain⟨f',hf'⟩:∃f':Nat->Option Nat,f'=λj=>if j<n then f j else if j-n<A.length then some (PA.getD (j-n) 0)else none:=⟨_,rfl⟩
 obtain⟨g',hg'⟩:∃g':Nat->Option Nat,g'=λj=>if j<n then g j else if A.length<=j-n/\j-n<A.length+B.length then some (PB.getD (j-n-A.length) 0)else none:=⟨_,rfl⟩
 obtain⟨s',hs'⟩:∃s':Nat->Zp p,s'=λj=>if j<n then s j else⟨1%p,jK hp 1⟩:=⟨_,rfl⟩
 have f1:∀j,j<n->f' j=f j:=λj hj=>by rw[hf'];exact axl hj
 have g1:∀j,j<n->g' j=g j:=λj hj=>by rw[hg'];exact axl hj
 have s1:∀j,j<n->s' j=s j:=λj hj=>by rw[hs'];exact axl hj
 have s2:∀j,¬j<n->pe hF (cp (s' j).1)=(aj p hF).o:=λj hj=>by
  have:s' j=⟨1%p,jK hp 1⟩:=by rw[hs'];exact axm hj
  rw[this,R6 hlo,su]
 have f2:∀i,i<A.length->f' (n+i)=some (PA.getD i 0):=λi hi=>by rw[hf'];dsimp only;rw[axm (show¬n+i<n by omega),aya,axl hi]
 have g2:∀i,i<A.length->g' (n+i)=none:=λi hi=>by rw[hg'];dsimp only;rw[axm (show¬n+i<n by omega),aya,axm (show¬(A.length<=i/\i<A.length+B.length) by omega)]
 have f3:∀i,f' (n+(A.length+i))=none:=λi=>by rw[hf'];dsimp only;rw[axm (show¬n+(A.length+i)<n by omega),aya,axm (show¬A.length+i<A.length by omega)]
 have g3:∀i,i<B.length->g' (n+(A.length+i))=some (PB.getD i 0):=λi hi=>by rw[hg'];dsimp only;rw[axm (show¬n+(A.length+i)<n by omega),aya,axl (show A.length<=A.length+i/\A.length+i<A.length+B.length by omega),aya]
 have g4:∀j,n+(A.length+B.length)<=j->g' j=none:=λj hj=>by rw[hg'];dsimp only;rw[axm (show¬j<n by omega),axm (show¬(A.length<=j-n/\j-n<A.length+B.length) by omega)]
 clear hf' hg' hs';have ea:∀(v w:Nat->xX p) i,i<A.length->EH (aj p hF) f' g' (λj=>pe hF (cp (s' j).1)) v w (n+i)=v (PA.getD i 0):=λv w i hi=>by show(aj p hF).add (b_ (aj p hF).z v (f' (n+i))) ((aj p hF).mul (pe hF (cp (s' (n+i)).1)) (b_ (aj p hF).z w (g' (n+i))))=_;rw[f2 i hi,g2 i hi];show(aj p hF).add (v _) ((aj p hF).mul _ (aj p hF).z)=_;rw[(aj p hF).aS,(aj p hF).dP]
 have eb:∀(v w:Nat->xX p) i,i<B.length->EH (aj p hF) f' g' (λj=>pe hF (cp (s' j).1)) v w (n+(A.length+i))=w (PB.getD i 0):=λv w i hi=>by show(aj p hF).add (b_ (aj p hF).z v (f' (n+(A.length+i)))) ((aj p hF).mul (pe hF (cp (s' (n+(A.length+i))).1)) (b_ (aj p hF).z w (g' (n+(A.length+i)))))=_;rw[f3 i,g3 i hi,s2 _ (by omega),(aj p hF).bE];exact(aj p hF).bB _
 refine mA.two mB (Sp.UU _ _) (Sp.UU _ _) f' g' s' (λv w hv hw=>?_) (λv w hv hw h0=>?_)
 .refine wD hY (λj hj=>?_) (λj hj=>?_)
  .show(aj p hF).add (b_ (aj p hF).z v (f' j)) ((aj p hF).mul (pe hF (cp (s' j).1)) (b_ (aj p hF).z w (g' j)))=_;obtain⟨i,rfl⟩:∃i,j=n+(A.length+i):=⟨j-n-A.length,by omega⟩;rw[f3,g4 _ (by omega)];show(aj p hF).add (aj p hF).z ((aj p hF).mul _ (aj p hF).z)=_;rw[(aj p hF).aS,(aj p hF).bB]
  .have e0:EH (aj p hF) f' g' (λj=>pe hF (cp (s' j).1)) v w j=(aj p hF).add (b_ (aj p hF).z v (f j)) ((aj p hF).mul (pe hF (cp (s j).1)) (b_ (aj p hF).z w (g j))):=by
    show(aj p hF).add (b_ (aj p hF).z v (f' j)) ((aj p hF).mul (pe hF (cp (s' j).1)) (b_ (aj p hF).z w (g' j)))=_;rw[f1 j hj,g1 j hj,s1 j hj]
   rw[e0,hl,(aj p hF).w_];have h3:(aj p hF).bD A.length (λi=>(aj p hF).mul (b_ (aj p hF).z ((aj p hF).fn (A.getD i [])) (f j)) (v (PA.getD i 0)))=b_ (aj p hF).z v (f j):=by
    cases f j with
    |none=>exact(aj p hF).bS λi _=>(aj p hF).gP _
    |some k=>exact(eA.S_ hv k).symm
   have h4:(aj p hF).bD B.length (λi=>(aj p hF).mul (b_ (aj p hF).z ((aj p hF).fn (B.getD i [])) (g j)) (w (PB.getD i 0)))=b_ (aj p hF).z w (g j):=by
    cases g j with
    |none=>exact(aj p hF).bS λi _=>(aj p hF).gP _
    |some k=>exact(eB.S_ hw k).symm
   have h5:(aj p hF).bD A.length (λi=>(aj p hF).mul ((aj p hF).el (Y.getD i []) j) (EH (aj p hF) f' g' (λj=>pe hF (cp (s' j).1)) v w (n+i)))=b_ (aj p hF).z v (f j):=by rw[<-h3];exact(aj p hF).aO λi hi=>by rw[h1 i j hi hj,ea v w i hi]
   have h6:(aj p hF).bD B.length (λi=>(aj p hF).mul ((aj p hF).el (Y.getD (A.length+i) []) j) (EH (aj p hF) f' g' (λj=>pe hF (cp (s' j).1)) v w (n+(A.length+i))))=(aj p hF).mul (pe hF (cp (s j).1)) (b_ (aj p hF).z w (g j)):=by rw[<-h4,<-(aj p hF).lZ];exact(aj p hF).aO λi hi=>by rw[h2 i j hi hj,eb v w i hi,(aj p hF).mul_assoc]
   rw[h5,h6]
 .have zA:∀q∈PA,v q=(aj p hF).z:=λq hq=>by
   obtain⟨i,hi⟩:=axz hq;have hil:=(axp.1 hi).1;have:=ea v w i (by omega);rw[h0,axt,hi]at this;exact this.symm
  have zB:∀q∈PB,w q=(aj p hF).z:=λq hq=>by obtain⟨i,hi⟩:=axz hq;have hil:=(axp.1 hi).1;have:=eb v w i (by omega);rw[h0,axt,hi]at this;exact this.symm
  exact⟨λj=>congrFun (eA.oN hv zA) j,λj=>congrFun (eB.oN hw zB) j⟩
end
section
section
variable {K : Type}
theorem getD_some{l:List α}{d x:α}(h:l[i]?=some x):l.getD i d=x:=by rw[axt,h];rfl
theorem QC(F:aJ K){A B:List (List K)}(hi:i<A.length)(j:Nat):F.el ((F.kI la mid A B).getD i []) j=F.el (A.getD i []) (la+j):=by
 have h:(F.kI la mid A B)[i]?=some ((A[i]'hi).drop la):=by unfold Ops.kI;rw[axX (by rw[axs];exact hi),axw,axn hi];rfl
 rw[getD_some h,getD_some (axn hi)];exact nG F _ la j
theorem QB(F:aJ K){A B:List (List K)}(hi:i<B.length)(hj:j<mid):F.el ((F.kI la mid A B).getD (A.length+i) []) j=F.neg (F.el (B.getD i []) j):=by
 have h:(F.kI la mid A B)[A.length+i]?=some (((B[i]'hi).take mid).map F.neg):=by unfold Ops.kI;rw[axN (by rw[axs];omega),axs,aya,axw,axn hi];rfl
 rw[getD_some h,getD_some (axn hi),I7,pz,axl hj]
theorem vW(O:Ops K)(la mid:Nat)(A B:List (List K)):(O.kI la mid A B).length=A.length+B.length:=by unfold Ops.kI;rw[axv,axs,axs]
theorem vV(O:Ops K){A B:List (List K)}(hA:aQ (la+mid) A)(hB:aQ (mid+rb) B):aQ mid (O.kI la mid A B):=λv hv=>by
 rcases axZ.1 hv with hv|hv
 .obtain⟨r,hr,rfl⟩:=axr.1 hv;rw[axF,hA r hr];omega
 .obtain⟨r,hr,rfl⟩:=axr.1 hv;rw[axs,axx,hB r hr];omega
def mkY(F:aJ K)(n:Nat)(f g:Nat->Option Nat)(s:Nat->K)(A B:List (List K)):List (List K):=
 A.map (λa=>(range n).map λj=>b_ F.z (F.fn a) (f j))++B.map (λb=>(range n).map λj=>F.mul (s j) (b_ F.z (F.fn b) (g j)))
theorem acC(F:aJ K)(n:Nat)(f g:Nat->Option Nat)(s:Nat->K)(A B:List (List K)):(mkY F n f g s A B).length=A.length+B.length:=by unfold mkY;rw[axv,axs,axs]
theorem acB(F:aJ K)(n:Nat)(f g:Nat->Option Nat)(s:Nat->K)(A B:List (List K)):aQ n (mkY F n f g s A B):=λv hv=>by
 rcases axZ.1 hv with hv|hv
 all_goals
  obtain⟨r,hr,rfl⟩:=axr.1 hv;simp
theorem Om(F:aJ K)(h:Nat->K)(hj:j<n):F.el ((range n).map h) j=h j:=Ops.dD F.toOps (by rw[axw,ayO hj];rfl)
theorem aiQ(F:aJ K){f g:Nat->Option Nat}{s:Nat->K}{A B:List (List K)}(hi:i<A.length)(hj:j<n):F.el ((mkY F n f g s A B).getD i []) j=b_ F.z (F.fn (A.getD i [])) (f j):=by
 have h:(mkY F n f g s A B)[i]?=some ((range n).map λj=>b_ F.z (F.fn (A[i]'hi)) (f j)):=by unfold mkY;rw[axX (by rw[axs];exact hi),axw,axn hi];rfl
 rw[getD_some h,getD_some (axn hi),Om F _ hj]
theorem aiP(F:aJ K){f g:Nat->Option Nat}{s:Nat->K}{A B:List (List K)}(hi:i<B.length)(hj:j<n):F.el ((mkY F n f g s A B).getD (A.length+i) []) j=F.mul (s j) (b_ F.z (F.fn (B.getD i [])) (g j)):=by
 have h:(mkY F n f g s A B)[A.length+i]?=some ((range n).map λj=>F.mul (s j) (b_ F.z (F.fn (B[i]'hi)) (g j))):=by unfold mkY;rw[axN (by rw[axs];omega),axs,aya,axw,axn hi];rfl
 rw[getD_some h,getD_some (axn hi),Om F _ hj]
def Eo(F:aJ K)(la mid:Nat)(A B:List (List K))(c:Nat->K):Nat->K:=λj=>if j<la then F.bD A.length (λi=>F.mul (c i) (F.el (A.getD i []) j))else F.bD B.length (λi=>F.mul (c (A.length+i)) (F.el (B.getD i []) (mid+(j-la))))
theorem acj(F:aJ K){A B:List (List K)}(hA:aQ (la+mid) A)(hB:aQ (mid+rb) B){N:List (List K)}(hN:aQ (A.length+B.length) N):F.fns (N.map (F.gW la mid rb A B))=(F.fns N).map (Eo F la mid A B):=by
 unfold Ops.fns;rw[axO,axO];refine ax0 λk hk=>funext λj=>?_
 have hkl:=hN k hk;show F.el (F.gW la mid rb A B k) j=if j<la then F.bD A.length (λi=>F.mul (F.el k i) (F.el (A.getD i []) j))else F.bD B.length (λi=>F.mul (F.el k (A.length+i)) (F.el (B.getD i []) (mid+(j-la))))
 unfold Ops.gW;have hta:(k.take A.length).length=A.length:=by rw[axx];omega
 have htb:(k.drop A.length).length=B.length:=by rw[axF];omega
 rw[kV,show((F.toOps.nN (la+mid) (k.take A.length) A).take la).length=la by rw[axx,Dq F hA hta];omega];split
 .rename_i hj;rw[pz,axl hj,KJ F hA hta];refine F.aO λi hi=>?_
  rw[pz,axl hi]
 .rw[nG,KJ F hB htb];refine F.aO λi hi=>?_
  rw[nG]
theorem aeb(F:aJ K)(la mid:Nat)(A B:List (List K)):Eo F la mid A B F.vz=F.vz:=funext λj=>by
 show(if j<la then _ else _)=F.z;split
 .exact F.bS λ_ _=>F.gP _
 .exact F.bS λ_ _=>F.gP _
theorem M4(F:aJ K)(la mid:Nat)(A B:List (List K))(u r:Nat->K)(c:K):Eo F la mid A B (F.va u (F.vs c r))=F.va (Eo F la mid A B u) (F.vs c (Eo F la mid A B r)):=funext λj=>by
 show(if j<la then _ else _)=F.add (if j<la then _ else _) (F.mul c (if j<la then _ else _));split
 .rw[<-F.lZ,<-F.nQ];refine F.aO λi _=>?_
  show F.mul (F.add (u i) (F.mul c (r i))) _=_;rw[F.lT,F.mul_assoc]
 .rw[<-F.lZ,<-F.nQ];refine F.aO λi _=>?_
  show F.mul (F.add (u _) (F.mul c (r _))) _=_;rw[F.lT,F.mul_assoc]
theorem Sp.acF{F:aJ K}{φ:(Nat->K)->(Nat->K)}(hz:φ F.vz=F.vz)(ha:∀u r c,φ (F.va u (F.vs c r))=F.va (φ u) (F.vs c (φ r))){R:List (Nat->K)}{v:Nat->K}(h:Sp F (R.map φ) v):∃k,Sp F R k/\φ k=v:=
 h (λx=>∃k,Sp F R k/\φ k=x) ⟨F.vz,Sp.zero F R,hz⟩ λu hu q hq c=>by obtain⟨k,h1,h2⟩:=hu;obtain⟨r,hr,rfl⟩:=axr.1 hq;exact⟨F.va k (F.vs c r),h1.step hr c,by rw[ha,h2]⟩
end
theorem ag3(hF:av p=true):pe hF (cp ((-1)%p))=(aj p hF).neg (aj p hF).o:=by
 have h2:=ax hF;have hp:0<p:=by omega
 have hm:=jK hp (-1);have h1:bQ p (cp ((-1)%p)) 1 [1]=[]:=PN.eq hp ((FN hm).add hp 1 _) (PN.nil p) λu=>by
  have h3:=(fE hp (FN hm) [1]) u;rw[jh,Int.sub_zero];have h4:p ∣ cf (cp ((-1)%p)) u+cf [1] u:=by
   unfold cp;rw[gX];cases u with
   |zero=>
    show p ∣ (-1)%p+1;have:=(aV.emod (p:=p) (λ_=>(-1:Int))) 0;have h5:(-1:Int)%p-(-1)=(-1)%p+1:=by omega
    rwa[h5]at this
   |succ u=>exact⟨0,by show cf [_] (u+1)+cf [1] (u+1)=_;rw[iN (by simp),iN (by simp)];omega⟩
  have:=ay5 h3 h4;rwa[Int.sub_add_cancel]at this
 have h6:=JG hF (FN hm) (PN.one h2);rw[h1,iT,su]at h6;exact(aj p hF).nY h6
theorem neg_one_mul(hF:av p=true)(x:xX p):(aj p hF).mul (pe hF (cp ((-1)%p))) x=(aj p hF).neg x:=by rw[ag3,(aj p hF).neg_mul,(aj p hF).bE]
section
variable {p : Int} {hF : av p = true} {la mid rb dA dB : Nat} {A B : List (List (xX p))}
theorem oM.ker(hA:eX (aj p hF) (la+mid) A)(hB:eX (aj p hF) (mid+rb) B)(mA:oM hF (Sp (aj p hF) ((aj p hF).fns A)) A.length dA)(mB:oM hF (Sp (aj p hF) ((aj p hF).fns B)) B.length dB){N:List (List (xX p))}(hN:eX (aj p hF) (A.length+B.length) N)
 (hs:∀v,Sp (aj p hF) ((aj p hF).fns N) v↔Sp (aj p hF) ((aj p hF).fns ((aj p hF).lJ mid ((aj p hF).kI la mid A B))) v):oM hF (Sp (aj p hF) ((aj p hF).fns N)) N.length (dA+dB):=by
 have hp:0<p:=by have:=ax hF;omega
 have TU:=vV (aj p hF).toOps hA.1 hB.1;have J3:=vW (aj p hF).toOps la mid A B;have hz:=oM.bes hA hB mA mB TU J3 (λj=>some (la+j)) (λj=>some j) (λ_=>⟨(-1)%p,jK hp _⟩) (λi j hi _=>QC (aj p hF) hi j) (λi j hi hj=>by rw[QB (aj p hF) hi hj,neg_one_mul];rfl);refine oM.cut (m:=mid) (iJ TU) hz (by rw[oq,J3];exact axk _) hN (λv hv h0=>?_) (λc hc=>?_)
 .obtain⟨h1,h2⟩:=uS TU hv;rw[hs,qN TU,J3];refine⟨λj hj=>axm (by omega),λa ha=>?_⟩;obtain⟨j,hj,rfl⟩:=axr.1 ha;rw[ax5]at hj;have:=h2 j hj;rw[h0 j hj,J3]at this;rw[this];exact(aj p hF).aO λi hi=>by unfold Y_;rw[axl hi]
 .have hk:=(hs _).1 (Sp.mem (axr.2 ⟨c,hc,rfl⟩));rw[qN TU,J3]at hk;refine⟨λj=>if j<mid then(aj p hF).z else(aj p hF).fn c (j-mid),wD TU (λj hj=>?_) (λj hj=>?_),λj hj=>axl hj,λj hj=>?_⟩
  .rw[axm (by omega)];exact hk.1 _ (by omega)
  .rw[axl hj,<-hk.2 _ (axr.2 ⟨j,ax5.2 hj,rfl⟩),J3];exact(aj p hF).aO λi _=>by rw[axm (by omega),aya]
  .dsimp only;rw[axm (by omega),aya];rfl
end
end
theorem OG(F:aJ K){A B N:List (List K)}(hA:aQ (la+mid) A)(hB:aQ (mid+rb) B)(hN:aQ (A.length+B.length) N):aQ (la+rb) (N.map (F.gW la mid rb A B)):=λv hv=>by obtain⟨k,hk,rfl⟩:=axr.1 hv;exact OH F hA hB (hN k hk)
theorem oM.cmp{hF:av p=true}{A B:List (List (xX p))}(hA:eX (aj p hF) (la+mid) A)(hB:eX (aj p hF) (mid+rb) B)(mA:oM hF (Sp (aj p hF) ((aj p hF).fns A)) A.length dA)(mB:oM hF (Sp (aj p hF) ((aj p hF).fns B)) B.length dB):
 oM hF (Sp (aj p hF) ((aj p hF).fns ((aj p hF).oo la mid rb A B))) ((aj p hF).oo la mid rb A B).length (dA+dB):=by
 have hlo:=ax hF;have hp:0<p:=by omega
 have TU:=vV (aj p hF).toOps hA.1 hB.1;have J3:=vW (aj p hF).toOps la mid A B;obtain⟨W,hW⟩:=xq (mid+(la+rb));obtain⟨f,hf⟩:∃f:Nat->Option Nat,f=λj=>if j<mid then some (la+j)else if j<mid+la then some (j-mid)else none:=⟨_,rfl⟩
 obtain⟨g,hg⟩:∃g:Nat->Option Nat,g=λj=>if j<mid then some j else if j<mid+la then none else some (mid+(j-mid-la)):=⟨_,rfl⟩
 obtain⟨s,hs⟩:∃s:Nat->Zp p,s=λj=>if j<mid then⟨(-1)%p,jK hp _⟩else⟨1%p,jK hp 1⟩:=⟨_,rfl⟩
 have f1:∀j,j<mid->f j=some (la+j):=λj hj=>by rw[hf];exact axl hj
 have g1:∀j,j<mid->g j=some j:=λj hj=>by rw[hg];exact axl hj
 have s1:∀j,j<mid->s j=⟨(-1)%p,jK hp _⟩:=λj hj=>by rw[hs];exact axl hj
 have f2:∀j,j<la->f (mid+j)=some j:=λj hj=>by rw[hf];dsimp only;rw[axm (show¬mid+j<mid by omega),axl (show mid+j<mid+la by omega),aya]
 have g2:∀j,j<la->g (mid+j)=none:=λj hj=>by rw[hg];dsimp only;rw[axm (show¬mid+j<mid by omega),axl (show mid+j<mid+la by omega)]
 have f3:∀j,¬j<la->f (mid+j)=none:=λj hj=>by rw[hf];dsimp only;rw[axm (show¬mid+j<mid by omega),axm (show¬mid+j<mid+la by omega)]
 have g3:∀j,¬j<la->g (mid+j)=some (mid+(j-la)):=λj hj=>by rw[hg];dsimp only;rw[axm (show¬mid+j<mid by omega),axm (show¬mid+j<mid+la by omega),aya]
 have s2:∀j,pe hF (cp (s (mid+j)).1)=(aj p hF).o:=λj=>by
  have:s (mid+j)=⟨1%p,jK hp 1⟩:=by rw[hs];exact axm (by omega)
  rw[this,R6 hlo,su]
 clear hf hg hs;obtain⟨Y,hY⟩:∃Y,mkY (aj p hF) W f g (λj=>pe hF (cp (s j).1)) A B=Y:=⟨_,rfl⟩;have yw:aQ W Y:=by rw[<-hY];exact acB _ _ _ _ _ _ _
 have yl:Y.length=A.length+B.length:=by rw[<-hY];exact acC _ _ _ _ _ _ _
 have ya:∀i j,i<A.length->j<W->(aj p hF).el (Y.getD i []) j=b_ (aj p hF).z ((aj p hF).fn (A.getD i [])) (f j):=λi j hi hj=>by rw[<-hY];exact aiQ _ hi hj
 have yb:∀i j,i<B.length->j<W->(aj p hF).el (Y.getD (A.length+i) []) j=(aj p hF).mul (pe hF (cp (s j).1)) (b_ (aj p hF).z ((aj p hF).fn (B.getD i [])) (g j)):=λi j hi hj=>by rw[<-hY];exact aiP _ hi hj
 clear hY;have hz:=oM.bes hA hB mA mB yw yl f g s ya yb;have e1:∀i j,i<A.length+B.length->j<mid->(aj p hF).el (Y.getD i []) j=(aj p hF).el (((aj p hF).kI la mid A B).getD i []) j:=λi j hi hj=>by
  by_cases h:i<A.length
  .rw[ya i j h (by omega),f1 j hj,QC _ h];rfl
  .obtain⟨q,rfl⟩:∃q,i=A.length+q:=⟨i-A.length,by omega⟩;rw[yb q j (by omega) (by omega),g1 j hj,s1 j hj,QB _ (by omega) hj,neg_one_mul];rfl
 have e2:∀(k:Nat->xX p) (j:Nat),j<la+rb->(aj p hF).bD (A.length+B.length) (λi=>(aj p hF).mul ((aj p hF).el (Y.getD i []) (mid+j)) (k i))=Eo (aj p hF) la mid A B k j:=λk j hj=>by
  rw[(aj p hF).w_];unfold Eo;by_cases h:j<la
  .rw[axl h,(aj p hF).bS (n:=B.length) (λi hi=>?_),(aj p hF).dP]
   .exact(aj p hF).aO λi hi=>by rw[ya i _ hi (by omega),f2 j h,(aj p hF).mul_comm];rfl
   .rw[yb i _ hi (by omega),g2 j h];show(aj p hF).mul ((aj p hF).mul _ (aj p hF).z) _=_;rw[(aj p hF).aS,(aj p hF).gP]
  .rw[axm h,(aj p hF).bS (n:=A.length) (λi hi=>?_),(aj p hF).bB]
   .exact(aj p hF).aO λi hi=>by rw[yb i _ hi (by omega),g3 j h,s2,(aj p hF).bE,(aj p hF).mul_comm];rfl
   .rw[ya i _ hi (by omega),f3 j h];exact(aj p hF).gP _
 have hkw:aQ (A.length+B.length) ((aj p hF).lJ mid ((aj p hF).kI la mid A B)):=J3▸EY TU;have hrw:=OG (aj p hF) hA.1 hB.1 hkw;have hCr:eX (aj p hF) (la+rb) ((aj p hF).oo la mid rb A B):=dL _ hrw;have hCs:∀v,Sp (aj p hF) ((aj p hF).fns ((aj p hF).oo la mid rb A B)) v↔Sp (aj p hF) (((aj p hF).fns ((aj p hF).lJ mid ((aj p hF).kI la mid A B))).map (Eo (aj p hF) la mid A B)) v:=λv=>by rw[<-acj (aj p hF) hA.1 hB.1 hkw];exact dH _ hrw v
 generalize(aj p hF).oo la mid rb A B=C at hCr hCs;refine oM.cut (m:=mid) (iJ yw) hz (by rw[oq,yl];exact axk _) hCr (λv hv h0=>?_) (λc hc=>?_)
 .obtain⟨h1,h2⟩:=uS yw hv;rw[yl]at h1 h2;have hk:Sp (aj p hF) ((aj p hF).fns ((aj p hF).lJ mid ((aj p hF).kI la mid A B))) (λi=>if i<A.length+B.length then v (W+i)else(aj p hF).z):=by
   rw[qN TU,J3];refine⟨λj hj=>axm (by omega),λa ha=>?_⟩;obtain⟨j,hj,rfl⟩:=axr.1 ha;rw[ax5]at hj;have:=h2 j (by omega);rw[h0 j hj]at this;refine Eq.trans ?_ this.symm;exact(aj p hF).aO λi hi=>by rw[e1 i j hi hj];show(aj p hF).mul _ (if i<A.length+B.length then v (W+i)else(aj p hF).z)=_;rw[axl hi]
  have h3:=(hCs _).2 (hk.map (aeb _ _ _ _ _) (M4 _ _ _ _ _));refine Eq.mp (congrArg _ (funext λj=>?_)) h3;unfold Y_;by_cases hj:j<la+rb
  .rw[axl hj,h2 _ (by omega),<-e2 _ j hj];exact(aj p hF).aO λi hi=>by rw[axl hi]
  .rw[axm hj];unfold Eo;rw[axm (by omega)];refine(aj p hF).bS λi hi=>?_
   rw[Ops.dS _ (by
    rw[getD_some (axn hi),hB.1 _ (ax6 hi)];omega)]
   exact(aj p hF).aS _
 .obtain⟨k,hk,hkc⟩:=Sp.acF (aeb _ _ _ _ _) (M4 _ _ _ _ _) ((hCs _).1 (Sp.mem (axr.2 ⟨c,hc,rfl⟩)));rw[qN TU,J3]at hk;have hin:∀i,(if W+i<mid then(aj p hF).z else if W+i<W then Eo (aj p hF) la mid A B k (W+i-mid)else k (W+i-W))=k i:=λi=>by
   rw[axm (by omega),axm (by omega),aya]
  refine⟨λj=>if j<mid then(aj p hF).z else if j<W then Eo (aj p hF) la mid A B k (j-mid)else k (j-W),wD yw (λj hj=>?_) (λj hj=>?_),λj hj=>axl hj,λj hj=>?_⟩
  .rw[axm (by omega),axm (by omega)];exact hk.1 _ (by omega)
  .rw[yl,(aj p hF).aO (g:=λi=>(aj p hF).mul ((aj p hF).el (Y.getD i []) j) (k i)) λi _=>by rw[hin i]];by_cases h:j<mid
   .rw[axl h,<-hk.2 _ (axr.2 ⟨j,ax5.2 h,rfl⟩)];exact(aj p hF).aO λi hi=>by rw[e1 i j hi h]
   .rw[axm h,axl hj,<-e2 k (j-mid) (by omega),show mid+(j-mid)=j by omega]
  .dsimp only;rw[axm (by omega),axl (by omega),aya];exact congrFun hkc j
section
section
variable {K : Type}
def LH(F:aJ K)(al ar bl br:Nat)(A B:List (List K)):List (List K):=
 A.map (λr=>r.take al++replicate bl F.z++r.drop al++replicate br F.z)++B.map (λr=>replicate al F.z++r.take bl++replicate ar F.z++r.drop bl)
theorem Sp.out{F:aJ K}{R:List (List K)}(hw:aQ n R){v:Nat->K}(h:Sp F (F.fns R) v)(hj:n<=j):v j=F.z:=h.ind j λr hr=>by obtain⟨u,hu,rfl⟩:=axr.1 hr;exact Ops.dS _ (by rw[hw u hu];exact hj)
def ug(al ar bl:Nat)(j:Nat):Option Nat:=if j<al then some j else if al+bl<=j/\j<al+bl+ar then some (j-bl)else none
def uf(al ar bl br:Nat)(j:Nat):Option Nat:=if al<=j/\j<al+bl then some (j-al)else if al+bl+ar<=j/\j<al+bl+ar+br then some (j-al-ar)else none
theorem el4(F:aJ K){a b c d:List K}{lb lc:Nat}(h1:a.length=la)(h2:b.length=lb)(h3:c.length=lc)(j:Nat):F.el (a++b++c++d) j=if j<la then F.el a j else if j<la+lb then F.el b (j-la)else if j<la+lb+lc then F.el c (j-(la+lb))else F.el d (j-(la+lb+lc)):=by
 have e1:(a++b++c).length=la+lb+lc:=by rw[axv,axv,h1,h2,h3]
 have e2:(a++b).length=la+lb:=by rw[axv,h1,h2]
 rw[kV,e1,kV,e2,kV,h1];by_cases q1:j<la
 .rw[axl q1,axl q1,axl (show j<la+lb by omega),axl (show j<la+lb+lc by omega)]
 .rw[axm q1,axm q1];by_cases q2:j<la+lb
  .rw[axl q2,axl q2,axl (show j<la+lb+lc by omega)]
  .rw[axm q2,axm q2]
theorem afl(F:aJ K){r:List K}(h:r.length=al+ar)(j:Nat):F.el (r.take al++replicate bl F.z++r.drop al++replicate br F.z) j=b_ F.z (F.fn r) (ug al ar bl j):=by
 have l1:(r.take al).length=al:=by rw[axx];omega
 have l2:(r.drop al).length=ar:=by rw[axF];omega
 rw[el4 F l1 axH l2];unfold ug;by_cases h1:j<al
 .rw[axl h1,axl h1,pz,axl h1];rfl
 .rw[axm h1,axm h1];by_cases h2:j<al+bl
  .rw[axl h2,axm (show¬(al+bl<=j/\j<al+bl+ar) by omega),Bj];rfl
  .rw[axm h2];by_cases h3:j<al+bl+ar
   .rw[axl h3,axl (show al+bl<=j/\j<al+bl+ar by omega),nG];show F.el r _=F.el r _;congr 1;omega
   .rw[axm h3,axm (show¬(al+bl<=j/\j<al+bl+ar) by omega),Bj];rfl
theorem afk(F:aJ K){r:List K}(h:r.length=bl+br)(j:Nat):F.el (replicate al F.z++r.take bl++replicate ar F.z++r.drop bl) j=b_ F.z (F.fn r) (uf al ar bl br j):=by
 have l1:(r.take bl).length=bl:=by rw[axx];omega
 rw[el4 F axH l1 axH];unfold uf;by_cases h1:j<al
 .rw[axl h1,axm (show¬(al<=j/\j<al+bl) by omega),axm (show¬(al+bl+ar<=j/\j<al+bl+ar+br) by omega),Bj];rfl
 .rw[axm h1];by_cases h2:j<al+bl
  .rw[axl h2,axl (show al<=j/\j<al+bl by omega),pz,axl (show j-al<bl by omega)];rfl
  .rw[axm h2,axm (show¬(al<=j/\j<al+bl) by omega)];by_cases h3:j<al+bl+ar
   .rw[axl h3,axm (show¬(al+bl+ar<=j/\j<al+bl+ar+br) by omega),Bj];rfl
   .rw[axm h3,nG];by_cases h4:j<al+bl+ar+br
    .rw[axl (show al+bl+ar<=j/\j<al+bl+ar+br by omega)];show F.el r _=F.el r _;congr 1;omega
    .rw[axm (show¬(al+bl+ar<=j/\j<al+bl+ar+br) by omega),Ops.dS _ (by omega)];rfl
end
section
variable {p : Int} {hF : av p = true}
theorem oM.ten{A B:List (List (xX p))}(hA:aQ (al+ar) A)(hB:aQ (bl+br) B)(mA:oM hF (Sp (aj p hF) ((aj p hF).fns A)) A.length dA)(mB:oM hF (Sp (aj p hF) ((aj p hF).fns B)) B.length dB):
 oM hF (Sp (aj p hF) ((aj p hF).fns (LH (aj p hF) al ar bl br A B))) (A.length+B.length) (dA+dB):=by
 have hlo:=ax hF;have hp:0<p:=by omega
 have hT:(aj p hF).fns (LH (aj p hF) al ar bl br A B)=((aj p hF).fns A).map (λv j=>b_ (aj p hF).z v (ug al ar bl j))++((aj p hF).fns B).map (λv j=>b_ (aj p hF).z v (uf al ar bl br j)):=by
  unfold LH;rw[zC];congr 1
  .unfold Ops.fns;rw[axO,axO];exact ax0 λr hr=>funext λj=>afl _ (hA r hr) j
  .unfold Ops.fns;rw[axO,axO];exact ax0 λr hr=>funext λj=>afk _ (hB r hr) j
 have one:pe hF (cp (1%p))=(aj p hF).o:=by rw[R6 hlo,su]
 have step:∀(o:Nat->Option Nat) (u r:Nat->xX p) (c:xX p),(λj=>b_ (aj p hF).z ((aj p hF).va u ((aj p hF).vs c r)) (o j))=(aj p hF).va (λj=>b_ (aj p hF).z u (o j)) ((aj p hF).vs c (λj=>b_ (aj p hF).z r (o j))):=λo u r c=>funext λj=>by
  show b_ _ _ (o j)=(aj p hF).add (b_ _ _ (o j)) ((aj p hF).mul c (b_ _ _ (o j)));cases o j with
  |none=>show(aj p hF).z=(aj p hF).add (aj p hF).z ((aj p hF).mul c (aj p hF).z);rw[(aj p hF).aS,(aj p hF).bB]
  |some i=>rfl
 have BV:∀(o:Nat->Option Nat),(λj=>b_ (aj p hF).z (aj p hF).vz (o j))=(aj p hF).vz:=λo=>funext λj=>by show b_ _ _ (o j)=(aj p hF).z;cases o j<;>rfl
 refine mA.two mB (Sp.UU _ _) (Sp.UU _ _) (ug al ar bl) (uf al ar bl br) (λ_=>⟨1%p,jK hp 1⟩) (λv w hv hw=>?_) (λv w hv hw h0=>?_)
 .have e:EH (aj p hF) (ug al ar bl) (uf al ar bl br) (λ_=>pe hF (cp (1%p))) v w=(aj p hF).va (λj=>b_ (aj p hF).z v (ug al ar bl j)) (λj=>b_ (aj p hF).z w (uf al ar bl br j)):=funext λj=>by
   show(aj p hF).add _ ((aj p hF).mul (pe hF (cp (1%p))) _)=_;rw[one,(aj p hF).bE];rfl
  show Sp _ _ (EH (aj p hF) (ug al ar bl) (uf al ar bl br) (λ_=>pe hF (cp (1%p))) v w);rw[e,hT];exact((hv.map (BV _) (step _)).sub λr hr=>ayW _ hr).add ((hw.map (BV _) (step _)).sub λr hr=>azM _ hr)
 .have at_:∀j,(aj p hF).add (b_ (aj p hF).z v (ug al ar bl j)) (b_ (aj p hF).z w (uf al ar bl br j))=(aj p hF).z:=λj=>by
   have:=h0 j;have e:(aj p hF).add (b_ (aj p hF).z v (ug al ar bl j)) ((aj p hF).mul (pe hF (cp (1%p))) (b_ (aj p hF).z w (uf al ar bl br j)))=(aj p hF).z:=this;rwa[one,(aj p hF).bE]at e
  refine⟨λj=>?_,λj=>?_⟩
  .by_cases h1:j<al
   .have:=at_ j;rw[show ug al ar bl j=some j by unfold ug;rw[axl h1],show uf al ar bl br j=none by unfold uf;rw[axm (by omega),axm (by omega)]]at this;exact((aj p hF).dP _).symm.trans this
   .by_cases h2:j<al+ar
    .have:=at_ (j+bl);rw[show ug al ar bl (j+bl)=some j by unfold ug;rw[axm (by omega),axl (by omega),ay7],show uf al ar bl br (j+bl)=none by unfold uf;rw[axm (by omega),axm (by omega)]]at this;exact((aj p hF).dP _).symm.trans this
    .exact hv.out hA (by omega)
  .by_cases h1:j<bl
   .have:=at_ (j+al);rw[show ug al ar bl (j+al)=none by unfold ug;rw[axm (by omega),axm (by omega)],show uf al ar bl br (j+al)=some j by unfold uf;rw[axl (by omega),ay7]]at this;exact((aj p hF).bB _).symm.trans this
   .by_cases h2:j<bl+br
    .have:=at_ (j+al+ar);rw[show ug al ar bl (j+al+ar)=none by unfold ug;rw[axm (by omega),axm (by omega)],show uf al ar bl br (j+al+ar)=some j by unfold uf;rw[axm (by omega),axl (by omega)];congr 1;omega]at this;exact((aj p hF).bB _).symm.trans this
    .exact hw.out hB (by omega)
theorem oM.const{Z:List (List (xX p))}(hZ:eX (aj p hF) n Z)(hc:∀v∈Z,∀x∈v,∃f,PN p f/\f.length<=1/\x=pe hF f):oM hF (Sp (aj p hF) ((aj p hF).fns Z)) Z.length 0:=by
 obtain⟨hw,P,he⟩:=hZ;have hlo:=ax hF;have h1:∀i j,∃f,PN p f/\f.length<=1/\(aj p hF).el (Z.getD i []) j=pe hF f:=λi j=>by
  by_cases hi:i<Z.length
  .rw[getD_some (axn hi)];by_cases hj:j<(Z[i]'hi).length
   .rw[Ops.dD _ (axn hj)];exact hc _ (ax6 hi) _ (ax6 hj)
   .rw[Ops.dS _ (by omega)];exact⟨[],PN.nil p,by simp,(iT hF).symm⟩
  .rw[axt,ax2 (by omega)];exact⟨[],PN.nil p,by simp,(iT hF).symm⟩
 obtain⟨R,hR⟩:=Classical.axiomOfChoice λq:Nat×Nat=>h1 q.1 q.2
 have inj:∀{f g:List Int},PN p f->PN p g->pe hF f=pe hF g->f=g:=λhf hg h=>by have:(pe hF _).1.n=(pe hF _).1.n:=congrArg (λx=>x.1.n) h;rwa[sj hF hf,sj hF hg]at this
 have:=oM.leaf hF (Sp.UU (aj p hF) ((aj p hF).fns Z)) Z.length 0 (λi j=>R (i,j)) (λi=>P.getD i 0) λi hi=>by
  have hgi:=getD_some (d:=[]) (axn hi);obtain⟨pi,hpi⟩:∃pi,P[i]?=some pi:=⟨_,axn (by rw[he.pl];exact hi)⟩;refine⟨λj=>⟨(hR (i,j)).1,(hR (i,j)).2.1⟩,?_,?_,λl hl hli=>?_⟩
  .have:(λj=>pe hF (R (i,j)))=(aj p hF).fn (Z[i]'hi):=funext λj=>by
    rw[<-(hR (i,j)).2.2];dsimp only;rw[hgi];rfl
   rw[this];exact Sp.mem (axr.2 ⟨_,ax6 hi,rfl⟩)
  .refine inj (hR (i,P.getD i 0)).1 (PN.one hlo) ?_;rw[<-(hR (i,P.getD i 0)).2.2,su];dsimp only;rw[hgi,getD_some hpi];exact he.one i pi _ hpi (axn hi)
  .refine inj (hR (l,P.getD i 0)).1 (PN.nil p) ?_;rw[<-(hR (l,P.getD i 0)).2.2,iT];dsimp only;rw[getD_some (d:=[]) (axn hl),getD_some hpi];exact he.BV i l pi _ hpi (axn hl) hli
 exact this.mono (axk _) (by rw[Nat.mul_zero];exact axk _)
end
end
section
def mX{p:Int}(hF:av p=true)(n d:Nat)(l:List (List aG)):Prop:=∃L:List (List (xX p)),l=dO Subtype.val L/\eX (aj p hF) n L/\oM hF (Sp (aj p hF) ((aj p hF).fns L)) L.length d
section
variable {p : Int} {hF : av p = true}
theorem mX.mono{d':Nat}(h:mX hF n d l)(hd:d<=d'):mX hF n d' l:=by obtain⟨L,h1,h2,h3⟩:=h;exact⟨L,h1,h2,h3.mono (axk _) hd⟩
theorem mX.gd(h:mX hF n d l):iB p (d+1) l:=by obtain⟨L,rfl,h2,h3⟩:=h;intro z hz x hx;obtain⟨w,hw,rfl⟩:=axr.1 hz;obtain⟨y,hy,rfl⟩:=axr.1 hx;exact⟨y.2,h3.bd h2 w hw y hy⟩
theorem mX.wid(h:mX hF n d l):aQ n l:=by obtain⟨L,rfl,h2,h3⟩:=h;exact aQ.dO.2 h2.1
theorem mX.len(h:mX hF n d l):l.length<=n:=by obtain⟨L,rfl,h2,h3⟩:=h;unfold dO;rw[axs];exact uq _ h2
theorem mX.pos(h:mX hF n d l):∀v∈l,0<v.length:=λv hv=>by have h1:=h.wid v hv;have h2:=h.len;have h3:0<l.length:=List.length_pos_of_mem hv;omega
theorem mX.cmp{a b:List (List aG)}(ha:mX hF (la+mid) dA a)(hb:mX hF (mid+rb) dB b):mX hF (la+rb) (dA+dB) ((au p).oo la mid rb a b):=by obtain⟨A,rfl,a2,a3⟩:=ha;obtain⟨B,rfl,b2,b3⟩:=hb;have TU:=vV (aj p hF).toOps a2.1 b2.1;have J3:=vW (aj p hF).toOps la mid A B;have hkw:aQ (A.length+B.length) ((aj p hF).lJ mid ((aj p hF).kI la mid A B)):=J3▸EY TU;exact⟨_,(mV p hF).oo la mid rb A B,dL _ (OG (aj p hF) a2.1 b2.1 hkw),a3.cmp a2 b2 b3⟩
theorem mX.ker{a b:List (List aG)}(ha:mX hF (la+mid) dA a)(hb:mX hF (mid+rb) dB b):
 iB p (dA+dB+1) ((au p).aC (a.length+b.length) ((au p).gJ (a.length+b.length) ((au p).aC (a.length+b.length) ((au p).oK la mid a b)))):=by
 obtain⟨A,rfl,a2,a3⟩:=ha;obtain⟨B,rfl,b2,b3⟩:=hb;have TU:=vV (aj p hF).toOps a2.1 b2.1;have J3:=vW (aj p hF).toOps la mid A B;have hla:(dO Subtype.val A:List (List aG)).length=A.length:=by unfold dO;rw[axs]
 have hlb:(dO Subtype.val B:List (List aG)).length=B.length:=by unfold dO;rw[axs]
 rw[hla,hlb,(mV p hF).oK,(mV p hF).aC,(mV p hF).gJ,(mV p hF).aC];have hS:aQ (A.length+B.length) ((aj p hF).oK la mid A B):=λv hv=>by obtain⟨j,_,rfl⟩:=axr.1 hv;rw[axv,axs,axs]
 have hk:=Nz (F:=aj p hF) hS TU J3 (by unfold Ops.oK;rw[axs,ayC]) λj i hj hi=>by
  have e1:((aj p hF).oK la mid A B).getD j []=A.map (λr=>(aj p hF).el r (la+j))++B.map (λr=>(aj p hF).neg ((aj p hF).el r j)):=by unfold Ops.oK;rw[axt,axw,ayO hj];rfl
  rw[e1,kV,axs];by_cases h:i<A.length
  .rw[axl h,QC (aj p hF) h,getD_some (axn h),Ops.dD (aj p hF).toOps (x:=(aj p hF).el (A[i]'h) (la+j)) (by rw[axw,axn h];rfl)]
  .obtain⟨q,rfl⟩:∃q,i=A.length+q:=⟨i-A.length,by omega⟩;have hq:q<B.length:=by omega
   rw[axm h,QB (aj p hF) hq hj,aya,getD_some (axn hq),Ops.dD (aj p hF).toOps (x:=(aj p hF).neg ((aj p hF).el (B[q]'hq) j)) (by rw[axw,axn hq];rfl)]
 have hNr:eX (aj p hF) (A.length+B.length) ((aj p hF).aC (A.length+B.length) ((aj p hF).gJ (A.length+B.length) ((aj p hF).aC (A.length+B.length) ((aj p hF).oK la mid A B)))):=dL _ (lF _ _);have hm:=oM.ker a2 b2 a3 b3 hNr hk;exact mX.gd ⟨_,rfl,hNr,hm⟩
end
end
def cF(a:Int):aG:=if a=0 then zF else⟨[a],[1]⟩
def rq(rows:List (List Int)):List (List aG):=rows.map (List.map cF)
theorem Ui{O:Ops K}{O':Ops A}{f:K->A}(hz:f O.z=O'.z)(v:List K)(j:Nat):O'.el (v.map f) j=f (O.el v j):=by
 simp only[Ops.el,axt,axw];cases v[j]? with
 |none=>exact hz.symm
 |some x=>rfl
theorem vX{O:Ops K}{O':Ops A}{f:K->A}(hi:∀a,O'.kZ (f a)=O.kZ a)(v:List K):O'.lead (v.map f)=O.lead v:=by unfold Ops.lead;rw[List.findIdx_map];congr 1;funext x;show(!O'.kZ (f x))=_;rw[hi]
theorem Yc{O:Ops K}{O':Ops A}{f:K->A}(hz:f O.z=O'.z)(ho:f O.o=O'.o)(hi:∀a,O'.kZ (f a)=O.kZ a){R:List (List K)}(k:Dx O n R):Dx O' n (dO f R):=by
 have hinv:∀(i:Nat) (u:List A),(dO f R)[i]?=some u->∃x,R[i]?=some x/\u=x.map f:=λi u hu=>by
  rw[axw]at hu;cases hx:R[i]? with
  |none=>rw[hx]at hu;cases hu
  |some x=>rw[hx]at hu;injection hu with hu;exact⟨x,rfl,hu.symm⟩
 refine⟨aQ.dO.2 k.len,λv hv=>?_,λi u v hu hv=>?_,λi j u v hu hv hne=>?_⟩
 .obtain⟨x,hx,rfl⟩:=axr.1 hv;have:=k.one x hx;rw[vX hi,Ui hz,this.2,ho];exact⟨this.1,rfl⟩
 .obtain⟨x,hx,rfl⟩:=hinv i u hu;obtain⟨y,hy,rfl⟩:=hinv _ v hv;rw[vX hi,vX hi];exact k.KN i x y hx hy
 .obtain⟨x,hx,rfl⟩:=hinv i u hu;obtain⟨y,hy,rfl⟩:=hinv _ v hv;rw[vX hi,Ui hz,hi];exact k.BV i j x y hx hy hne
theorem ag5(a:Int):jy (cF a)=decide (a=0):=by unfold cF;by_cases h:a=0<;>simp[h,jy,zF]
theorem adH{R:List (List Int)}(h:Dx (ay p) n R):Dx (au p) n (rq R):=Yc (O:=ay p) (O':=au p) (f:=cF) rfl rfl ag5 h
end Go.Proofs.YthgiffhlfcmgaaaGreatDoor
