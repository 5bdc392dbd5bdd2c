/- Lemmas and walks on terms over rational functions: Degrees in an elimination of fractions: every .. -/
import Derived.Test.YtekcehkhdjoffaaGreatDoorQ03
import Derived.Test.YtekcehkhdjoffaaGreatDoorQ06
import Derived.Lib.SlBytesRow
import Derived.Laws.Concat
import Derived.Lib.AppendZeros
import Derived.Test.YtekcehkhdjoffaaGreatDoorRows
import Derived.ProofKit
import Derived.OpenShut
import Derived.Deep.DeepHandedRow
import Derived.Lib.SmallJoins
import Derived.Test.YtekcehkhdjoffaaGreatDoorCards
import Derived.Test.YtekcehkhdjoffaaGreatDoorTie
import Derived.Lib.LaidTab
import Derived.Deep.Fields
namespace Go.Proofs.YtekcehkhdjoffaaGreatDoor
open _root_.Go.Proofs.Tryz(prog)
set_option maxRecDepth 100000
set_option maxHeartbeats 8000000
set_option linter.all false
variable{hd:Bool}{p:Int}{f g:List Int}{base d e fuel n r:Nat}{sp:Nat->Bool}{H K:Type}{v:Value}{W:World}
open Classical in
noncomputable def pe {p : Int} (hF : aj p = true) (f : List Int) : {x : aF // FV p x} := if h : PN p f then ⟨⟨f, [1]⟩, FV.one_den hF h⟩ else (ay p hF).z
theorem nR(hF:aj p=true)(h:PN p f):(pe hF f).1=⟨f,[1]⟩:=by rw[pe,dif_pos h]
theorem rZ(hF:aj p=true)(h:PN p f):dn p (pe hF f).1 f [1]:=by rw[nR hF h];exact dn.self p _
theorem Qh(hF:aj p=true)(h:PN p f){x:{x:aF // FV p x}}(hx:dn p x.1 f [1]):x=pe hF f:=
 ano (dn.uniq x.2 (pe hF f).2 (PN.one (au hF)) (by simp) hx (rZ hF h))
theorem IW(hF:aj p=true)(hf:PN p f)(hg:PN p g):(ay p hF).add (pe hF f) (pe hF g)=pe hF (bL p f 1 g):=by
 have h2:=au hF;have hp:0<p:=by omega
 have h1:=dn.add (pe hF f).2 (pe hF g).2 hf hg (rZ hF hf) (rZ hF hg);rw[dS h2 hf,dS h2 hg,dS h2 (PN.one h2)]at h1;exact Qh hF (hf.add hp 1 g) h1
theorem lU(hF:aj p=true)(hf:PN p f)(hg:PN p g):(ay p hF).mul (pe hF f) (pe hF g)=pe hF (ax p f g):=by
 have h2:=au hF;have hp:0<p:=by omega
 have h1:=dn.mul (pe hF f).2 (pe hF g).2 (rZ hF hf) (rZ hF hg);rw[dS h2 (PN.one h2)]at h1;exact Qh hF (PN.mul hp f g) h1
theorem jV(hF:aj p=true):pe hF []=(ay p hF).z:=ano (nR hF (PN.nil p))
theorem Fq(hF:aj p=true)(hf:PN p f)(h:f≠[]):pe hF f≠(ay p hF).z:=λe=>by
 have h1:(pe hF f).1.n=[]:=by rw[e];rfl
 rw[nR hF hf]at h1;exact h h1
theorem Qi(hF:aj p=true)(h:pe hF f≠(ay p hF).z):f≠[]:=λe=>h (by rw[e];exact jV hF)
theorem XQ(hF:aj p=true)(x:{x:aF // FV p x}):(ay p hF).mul (pe hF x.1.d) x=pe hF x.1.n:=by
 have h2:=au hF;have hp:0<p:=by omega
 have h1:=dn.mul (pe hF x.1.d).2 x.2 (rZ hF x.2.d) (dn.self p x.1);refine Qh hF x.2.n (dn.change ((pe hF x.1.d).2.mul x.2) (PN.mul hp _ _) (bX hF (PN.one h2) x.2.d (by simp) x.2.d0) h1 ?_);rw[dS h2 (PN.mul hp _ _),aH hp [1],dS h2 x.2.d,aH hp]
theorem R6(hF:aj p=true){a b:{x:aF // FV p x}}(ha:a≠(ay p hF).z)(hb:b≠(ay p hF).z):(ay p hF).mul a b≠(ay p hF).z:=λe=>by have h1:=congrArg ((ay p hF).mul ((ay p hF).inv a)) e;rw[<-(ay p hF).mul_assoc,(ay p hF).inv_mul a ha,(ay p hF).bB,(ay p hF).bf]at h1;exact hb h1
theorem Si(hF:aj p=true)(hf:PN p f)(hg:PN p g)(hg0:g≠[]){x:{x:aF // FV p x}}(h:(ay p hF).mul (pe hF g) x=pe hF f){B:Nat}(h1:f.length<=B)(h2:g.length<=B):FL B x.1:=by
 have hlo:=au hF;have hp:0<p:=by omega
 have e:=dn.mul (pe hF g).2 x.2 (rZ hF hg) (dn.self p x.1);have e2:((ay p hF).mul (pe hF g) x).1=eG p (pe hF g).1 x.1:=rfl;rw[<-e2,h,nR hF hf]at e;have e3:ax p f (ax p [1] x.1.d)=ax p (ax p g x.1.n) [1]:=e;rw[aH hp [1],dS hlo x.2.d,dS hlo (PN.mul hp _ _)]at e3;have e4:dn p x.1 f g:=by show ax p x.1.n g=ax p f x.1.d;rw[e3,aH hp]
 have e5:=dn.uniq x.2 (FV.low hF hf hg hg0) hg hg0 e4 (dn.low hF hf hg hg0);have:=t_ hF hf hg hg0;rw[e5];exact⟨anb this.1 h1,anb this.2 h2⟩
theorem BS{p:Int}(hF:aj p=true){L:Nat}:∀(l:List {x:aF // FV p x}),(∀x∈l,FL L x.1)->∃D,PN p D/\D≠[]/\D.length<=l.length*L+1/\∀x∈l,∃f,PN p f/\f.length<=l.length*L+1/\(ay p hF).mul (pe hF D) x=pe hF f
 |[],_=>⟨[1],PN.one (au hF),by simp,by simp,λx hx=>by simp at hx⟩
 |x::l,h=>by
  have hp:0<p:=by have:=au hF;omega
  obtain⟨D,h1,h2,h3,h4⟩:=BS hF l λy hy=>h y (apa _ hy)
  obtain⟨q1,q2⟩:=h x apb;have hlen:(x::l).length*L+1=(l.length*L+1)+L:=by rw[anJ,aos];omega
  rw[hlen];refine⟨ax p x.1.d D,PN.mul hp _ _,bX hF x.2.d h1 x.2.d0 h2,?_,λy hy=>?_⟩
  .have:=jg hF x.2.d h1;omega
  .rcases ani.1 hy with rfl|hy
   .refine⟨ax p D y.1.n,PN.mul hp _ _,by have:=jg hF h1 y.2.n;omega,?_⟩;rw[aH hp,<-lU hF h1 y.2.d,(ay p hF).mul_assoc,XQ,lU hF h1 y.2.n]
   .obtain⟨f,f1,f2,f3⟩:=h4 y hy;refine⟨ax p x.1.d f,PN.mul hp _ _,by have:=jg hF x.2.d f1;omega,?_⟩;rw[<-lU hF x.2.d h1,(ay p hF).mul_assoc,f3,lU hF x.2.d f1]
theorem Kr{p:Int}(hF:aj p=true)(f:Nat->List Int):∀n,(∀k,k<n->PN p (f k))->(ay p hF).bS n (λk=>pe hF (f k))=pe hF (lS p n f)
 |0,_=>(jV hF).symm
 |n+1,h=>by
  have hp:0<p:=by have:=au hF;omega
  rw[aL.bS,Kr hF f n λk hk=>h k (by omega),IW hF (PN.lS hp f n) (h n (by omega))];rfl
theorem zm(p:Int)(f:Nat->List Int){B:Nat}:∀n,(∀k,k<n->(f k).length<=B)->(lS p n f).length<=B
 |0,_=>am4 _
 |n+1,h=>by
  have h1:=zm p f n λk hk=>h k (by omega)
  have h2:=h n (by omega);have h3:=Dv p (lS p n f) 1 (f n);show(bL p (lS p n f) 1 (f n)).length<=B;omega
theorem Pg{i t:Nat}(hi:i<r)(ht:t<r)(h:t≠i):∃u,u<r-1/\uY i u=t:=by
 by_cases e:t<i
 .exact⟨t,by omega,by unfold uY;rw[amY e]⟩
 .exact⟨t-1,by omega,by unfold uY;rw[amZ (by omega)];omega⟩
theorem BU(hF:aj p=true){L:Nat}(Ok:Nat->List {x:aF // FV p x})(cols:List Nat)(hel:∀k c,FL L ((ay p hF).el (Ok k) c).1):
 ∃(D:Nat->List Int) (f:Nat->Nat->List Int),∀k,(PN p (D k)/\D k≠[]/\(D k).length<=cols.length*L+1)/\∀c,c∈cols->PN p (f k c)/\(f k c).length<=cols.length*L+1/\(ay p hF).mul (pe hF (D k)) ((ay p hF).el (Ok k) c)=pe hF (f k c):=by
 have h1:∀k,∃Df:List Int×(Nat->List Int),(PN p Df.1/\Df.1≠[]/\Df.1.length<=cols.length*L+1)/\∀c,c∈cols->PN p (Df.2 c)/\(Df.2 c).length<=cols.length*L+1/\(ay p hF).mul (pe hF Df.1) ((ay p hF).el (Ok k) c)=pe hF (Df.2 c):=λk=>by
  obtain⟨D,d1,d2,d3,d4⟩:=BS hF (L:=L) (cols.map λc=>(ay p hF).el (Ok k) c) (λx hx=>by
   obtain⟨c,_,rfl⟩:=am3.1 hx;exact hel k c)
  rw[am5]at d3 d4;have:∀c,∃f,c∈cols->PN p f/\f.length<=cols.length*L+1/\(ay p hF).mul (pe hF D) ((ay p hF).el (Ok k) c)=pe hF f:=λc=>by
   by_cases hc:c∈cols
   .obtain⟨f,hf⟩:=d4 _ (am3.2 ⟨c,hc,rfl⟩);exact⟨f,λ_=>hf⟩
   .exact⟨[],λh=>absurd h hc⟩
  obtain⟨f,hf⟩:=Classical.axiomOfChoice this;exact⟨(D,f),⟨d1,d2,d3⟩,hf⟩
 obtain⟨Df,xG⟩:=Classical.axiomOfChoice h1;exact⟨λk=>(Df k).1,λk=>(Df k).2,xG⟩
theorem Tf(hF:aj p=true){Ok:Nat->List {x:aF // FV p x}}{D:Nat->List Int}{f:Nat->Nat->List Int}{q:Nat->List Int}{c:Nat}(hq:∀k,PN p (q k))(hf:∀k,k<n->PN p (D k)/\PN p (f k c)/\(ay p hF).mul (pe hF (D k)) ((ay p hF).el (Ok k) c)=pe hF (f k c)):
 (ay p hF).bS n (λk=>(ay p hF).mul ((ay p hF).mul (pe hF (q k)) (pe hF (D k))) ((ay p hF).el (Ok k) c))=pe hF (lS p n λk=>ax p (q k) (f k c)):=by
 have hp:0<p:=by have:=au hF;omega
 rw[<-Kr hF _ n λk _=>PN.mul hp _ _];exact(ay p hF).bK λk hk=>by obtain⟨h1,h2,h3⟩:=hf k hk;rw[(ay p hF).mul_assoc,h3,lU hF (hq k) h2]
def bZ(r L:Nat):Nat:=(r*((r+1)*L+1)+1)+((r+1)*L+1)
theorem XK(hF:aj p=true){Z0 rows:List (List {x:aF // FV p x})}{c:Nat}{O:List (List {x:aF // FV p x})}{P:List Nat}(h:uP (ay p hF) Z0 rows r O)(he:jI (ay p hF) rows r c P){L:Nat}(hL1:1<=L)(hL:∀v∈Z0,∀x∈v,FL L x.1){i:Nat}{v:List {x:aF // FV p x}}(hv:rows[i]?=some v)(j:Nat):FL (bZ r L) ((ay p hF).el v j).1:=by
 have hp:0<p:=by have:=au hF;omega
 have hol:=h.len;have hil:=(am2.1 hv).1;have hpl:=he.pl;have YE:∀(o:List {x:aF // FV p x}),(∀x∈o,FL L x.1)->∀c,FL L ((ay p hF).el o c).1:=λo ho c=>by
  by_cases hc:c<o.length
  .rw[Ops.bT _ (am0 hc)];exact ho _ (anO hc)
  .rw[Ops.eH _ (by omega)];exact⟨am4 _,hL1⟩
 have hmem:∀k,∀x∈O.getD k [],FL L x.1:=λk x hx=>by
  rw[am6]at hx;cases ho:O[k]? with
  |none=>rw[ho]at hx;simp at hx
  |some o=>rw[ho]at hx;exact hL o (h.mem o (am1 ho)) x hx
 have hcl:(P++[j]).length=r+1:=by simp[hpl]
 rcases anM i r with hir|hir
 ·
  obtain⟨p0,hp0⟩:∃p0,P[i]?=some p0:=⟨_,am0 (by omega)⟩;obtain⟨D,f,xG⟩:=BU hF (λk=>O.getD k []) (P++[j]) (λk c=>YE _ (hmem k) c);rw[hcl]at xG;have hPm:∀t,t<r->P.getD t 0∈P++[j]:=λt ht=>by rw[am6,am0 (by omega)];exact an7 _ (anO _)
  obtain⟨q,hq,⟨k0,hk0,hne⟩,hz⟩:=Fg hF r (r-1) ((r+1)*L+1) (r*((r+1)*L+1)+1) (λk t=>f k (P.getD (uY i t) 0)) (λk t hk ht=>by
   have:=(xG k).2 _ (hPm (uY i t) (by have:=O_ (j0:=i) ht;omega));exact⟨this.1,this.2.1⟩) (by
   obtain⟨s,rfl⟩:∃s,r=s+1:=⟨r-1,by omega⟩;rw[ao4];generalize(s+1+1)*L+1=B;rw[Nat.mul_add,aos s ((s+1)*B+1),aos s B];omega)
  have hsum:∀c,c∈P++[j]->(ay p hF).wU O (λk=>(ay p hF).mul (pe hF (q k)) (pe hF (D k))) r c=pe hF (lS p r λk=>ax p (q k) (f k c)):=λc hc=>
   Tf hF (Ok:=λk=>O.getD k []) (λk=>(hq k).1) λk _=>⟨(xG k).1.1,((xG k).2 c hc).1,((xG k).2 c hc).2.2⟩
  have hlen:∀c,c∈P++[j]->(lS p r λk=>ax p (q k) (f k c)).length<=bZ r L:=λc hc=>zm p _ r λk _=>by have h1:=jg hF (hq k).1 ((xG k).2 c hc).1;have h2:=(hq k).2;have h3:=((xG k).2 c hc).2.1;unfold bZ;omega
  have aa4:p0∈P++[j]:=an7 _ (am1 hp0);have hjm:j∈P++[j]:=by simp
  obtain⟨m1,m2⟩:=h.UJ he hir hv hp0 (λk=>(ay p hF).mul (pe hF (q k)) (pe hF (D k))) (λt pt ht hti=>by
   have htr:t<r:=by have:=(am2.1 ht).1;omega
   obtain⟨u,hu,hsk⟩:=Pg hir htr hti;have e1:P.getD (uY i u) 0=pt:=by rw[hsk,am6,ht];rfl
   have:=hz u hu;rw[e1]at this;rw[hsum pt (an7 _ (am1 ht)),this,jV]) ⟨k0,hk0,R6 hF (Fq hF (hq k0).1 hne) (Fq hF (xG k0).1.1 (xG k0).1.2.1)⟩
  have m3:=m2 j;rw[hsum p0 aa4]at m1 m3;rw[hsum j hjm]at m3;exact Si hF (PN.lS hp _ _) (PN.lS hp _ _) (Qi hF m1) m3.symm (hlen j hjm) (hlen p0 aa4)
 ·
  obtain⟨o,ho⟩:∃o,O[i]?=some o:=⟨_,am0 (by omega)⟩;obtain⟨D,f,xG⟩:=BU hF (λk=>if k<r then O.getD k []else o) (P++[j]) (λk c=>by
   show FL L ((ay p hF).el (if k<r then O.getD k []else o) c).1;split
   .exact YE _ (hmem k) c
   .exact YE o (λx hx=>hL o (h.mem o (am1 ho)) x hx) c)
  rw[hcl]at xG;have hPm:∀t,t<r->P.getD t 0∈P++[j]:=λt ht=>by rw[am6,am0 (by omega)];exact an7 _ (anO _)
  obtain⟨q,hq,⟨k0,hk0,hne⟩,hz⟩:=Fg hF (r+1) r ((r+1)*L+1) (r*((r+1)*L+1)+1) (λk t=>f k (P.getD t 0)) (λk t hk ht=>by
   have:=(xG k).2 _ (hPm t ht);exact⟨this.1,this.2.1⟩) (by
   generalize(r+1)*L+1=B;rw[Nat.mul_add,aos r (r*B+1)];omega)
  have hsum:∀c,c∈P++[j]->(ay p hF).add ((ay p hF).wU O (λk=>(ay p hF).mul (pe hF (q k)) (pe hF (D k))) r c) ((ay p hF).mul ((ay p hF).mul (pe hF (q r)) (pe hF (D r))) ((ay p hF).el o c))=pe hF (lS p (r+1) λk=>ax p (q k) (f k c)):=λc hc=>by
   have h1:=Tf hF (Ok:=λk=>if k<r then O.getD k []else o) (c:=c) (n:=r+1) (λk=>(hq k).1) λk _=>⟨(xG k).1.1,((xG k).2 c hc).1,((xG k).2 c hc).2.2⟩
   rw[<-h1,aL.bS];congr 1
   .exact(ay p hF).bK λk hk=>by rw[amY hk]
   .rw[amZ (Nat.lt_irrefl r)]
  have hlen:∀c,c∈P++[j]->(lS p (r+1) λk=>ax p (q k) (f k c)).length<=bZ r L:=λc hc=>zm p _ (r+1) λk _=>by have h1:=jg hF (hq k).1 ((xG k).2 c hc).1;have h2:=(hq k).2;have h3:=((xG k).2 c hc).2.1;unfold bZ;omega
  have hjm:j∈P++[j]:=by simp
  have nz:∀k,q k≠[]->(ay p hF).mul (pe hF (q k)) (pe hF (D k))≠(ay p hF).z:=λk hk=>R6 hF (Fq hF (hq k).1 hk) (Fq hF (xG k).1.1 (xG k).1.2.1)
  obtain⟨m1,m2⟩:=h.QB he hir hv ho (λk=>(ay p hF).mul (pe hF (q k)) (pe hF (D k))) ((ay p hF).mul (pe hF (q r)) (pe hF (D r))) (λpt hpt=>by
   obtain⟨t,ht⟩:=anc hpt;have htr:t<r:=by have:=(am2.1 ht).1;omega
   have e1:P.getD t 0=pt:=by rw[am6,ht];rfl
   have:=hz t htr;rw[e1]at this;rw[hsum pt (an7 _ hpt),this,jV]) (by
   rcases anM k0 r with e|e
   .exact .inr ⟨k0,e,nz k0 hne⟩
   .obtain rfl:k0=r:=by omega
    exact .inl (nz k0 hne))
  have m3:=m2 j;rw[hsum j hjm,lU hF (hq r).1 (xG r).1.1]at m3;rw[lU hF (hq r).1 (xG r).1.1]at m1;refine Si hF (PN.lS hp _ _) (PN.mul hp _ _) (Qi hF m1) m3.symm (hlen j hjm) ?_;have h1:=jg hF (hq r).1 (xG r).1.1;have h2:=(hq r).2;have h3:=(xG r).1.2.2;unfold bZ;omega
theorem EJ{K:Type}{F:aL K}{N:Nat}{Z0:List (List K)}(hW:aZ N Z0):∀c,c<=N->∃O P,uP F Z0 (gJ F.toOps Z0 c).1 (gJ F.toOps Z0 c).2 O/\jI F (gJ F.toOps Z0 c).1 (gJ F.toOps Z0 c).2 c P/\aZ N (gJ F.toOps Z0 c).1/\(gJ F.toOps Z0 c).2<=c
 |0,_=>⟨Z0,[],uP.start F Z0,jI.start F Z0,hW,amX _⟩
 |c+1,hc=>by
  obtain⟨O,P,h1,h2,h3,h4⟩:=EJ (F:=F) hW c (by omega);rw[gJ];split
  .rename_i hf;obtain⟨hrk,hx⟩:=jm F.toOps hf;have hx':F.el ((gJ F.toOps Z0 c).1.getD (F.qg (gJ F.toOps Z0 c).1 (gJ F.toOps Z0 c).2 c) []) c≠F.z:=λe=>by rw[(F.dZ _).2 e]at hx;cases hx
   exact⟨_,_,h1.piv h2 h3 hrk hf hx',h2.piv h3 hrk hf hx',h3.piv (by omega) hf,by show _+1<=c+1;omega⟩
  .rename_i hf;exact⟨O,P,h1,h2.skip λi v hi hv=>(F.dZ _).1 (Gw F.toOps hf i v hi hv),h3,by omega⟩
theorem iN.gJ{A:Type}{O:Ops K}{O':Ops A}{f:K->A}(h:iN O O' f)(Z:List (List K)):∀c,Go.Proofs.YtekcehkhdjoffaaGreatDoor.gJ O' (dh f Z) c=(dh f (Go.Proofs.YtekcehkhdjoffaaGreatDoor.gJ O Z c).1,(Go.Proofs.YtekcehkhdjoffaaGreatDoor.gJ O Z c).2)
 |0=>rfl
 |c+1=>by
  rw[Go.Proofs.YtekcehkhdjoffaaGreatDoor.gJ,Go.Proofs.YtekcehkhdjoffaaGreatDoor.gJ,h.gJ Z c];dsimp only;rw[h.qg,am5];split
  .rename_i hf;rw[h.piv _ _ _ _ (jm O hf).2]
  .rfl
open Go Go.RowKit
theorem DV(p:Int)(x:aF)(A B:Option Addr)(c d:Nat)(w:World)(hx:FV p x)(hA:Rd w A x.n)(hB:Rd w B x.d):
 Calls prog 48 #[.int .i64 p,.agg #[.slice A x.n.length c,.slice B x.d.length d]] w λe w'=>wZ w (aV p x) e w':=by
 have h2:=au hx.f;have h97:=aQ hx.f;have hne:=hx.n.e;have hw:IntKind.i64.wrap (p-1)=p-1:=ant _ (by omega);obtain⟨n,m⟩:=x;dsimp only at hA hB hne⊢;clear hx;obtain⟨x0,v0⟩:=VB.xn w 51 #[.slice A n.length c,.slice B m.length d];have s0:(w.alloc (.cells #[.slice A n.length c,.slice B m.length d] 51)).heap.size=w.heap.size+1:=by simp
 go_enter Tryz.func48,Tryz.ntmps48
 go_wp2_with fail
 generalize w.alloc (.cells #[.slice A n.length c,.slice B m.length d] 51)=W0 at*;obtain⟨x1,v1⟩:=VB.xn W0 51 #[.slice none 0 0,.slice none 0 0];have s1:(W0.alloc (.cells #[.slice none 0 0,.slice none 0 0] 51)).heap.size=w.heap.size+1+1:=by simp;exact s0
 rw[s0]at v1;generalize W0.alloc (.cells #[.slice none 0 0,.slice none 0 0] 51)=W1 at*;have v0:=v0.ex x1;have xx:=x0.trans x1;clear x0 x1;obtain⟨q0,q1⟩:=v0.d2;have Oz:∀W,aJ (w.heap.size+1) W1 W->(aJ (w.heap.size+1) W1 W/\W.cell? ⟨w.heap.size,0,none⟩=some (.slice A n.length c)/\W.cell? ⟨w.heap.size,1,none⟩=some (.slice B m.length d)):=λW h=>⟨h,(v0.aM h (by omega)).c0,(v0.aM h (by omega)).c1⟩
 have eA:=(aJ.refl (w.heap.size+1) W1).drew;go_region_held3 (λW=>aJ (w.heap.size+1) W1 W/\W.cell? ⟨w.heap.size,0,none⟩=some (.slice A n.length c)/\W.cell? ⟨w.heap.size,1,none⟩=some (.slice B m.length d)) (first
  |(exact Oz _ ((e5.setCell rfl _).setCell rfl _))|(exact Oz _ e5)|(exact Oz _ e4)|(exact Oz _ e3)|(exact Oz _ eA)|(exact Oz _ (aJ.refl _ _))) (first
  |(go_at_call_of 81 (Value.slice A n.length c)
    have hb:=(‹aJ (w.heap.size+1) W1 _/\_›).1;refine(qB p A c (p-1) n _ (hA.ex (xx.aM hb (by omega))) h2 h97 hne ⟨by omega,by omega⟩).mono ?_;rintro e w3 ⟨A3,c3,rfl,f3,x3⟩;have e3:=hb.trans (aJ.aN x3);have z3:=hb.size';have y3:=x3.size;clear hb)
  |(go_at_call 18
    refine(jK A3 c3 (aR p (p-1) n) w3 f3.rd).mono ?_;rintro e w4 ⟨g4,c4,rfl,hc4,hg4,o4,x4⟩;have e4:=e3.trans (aJ.aN x4);have z4:=x4.size)
  |(go_at_call_of 18 (Value.slice B m.length d)
    refine(jK B d m w4 (hB.ex (xx.aM e4 (by omega)))).mono ?_;rintro e w5 ⟨g5,c5,rfl,NF,hg5,o5,x5⟩;have e5:=e4.trans (aJ.aN x5);have z5:=x5.size;have v5:VB w5 (w.heap.size+1) 51 #[.slice none 0 0,.slice none 0 0]:=by first|exact((v1.ex x3).ex x4).ex x5|exact((VB.ex (w:=W1.drew) v1 x3).ex x4).ex x5
    obtain⟨r0,r1⟩:=v5.d2;have k0:=v5.frozen 0;have k1:=v5.frozen 1))
 all_goals
  have hl4:=o4.lt;have E5:aJ (w.heap.size+1) w5 ((w5.setCell ⟨w.heap.size+1,0,none⟩ (.slice (some ⟨g4,0,none⟩) (aR p (p-1) n).length c4)).setCell ⟨w.heap.size+1,1,none⟩ (.slice (some ⟨g5,0,none⟩) m.length c5)):=((aJ.refl _ w5).setCell (p:=⟨w.heap.size+1,0,none⟩) rfl _).setCell (p:=⟨w.heap.size+1,1,none⟩) rfl _;have v6:VB ((w5.setCell ⟨w.heap.size+1,0,none⟩ (.slice (some ⟨g4,0,none⟩) (aR p (p-1) n).length c4)).setCell ⟨w.heap.size+1,1,none⟩ (.slice (some ⟨g5,0,none⟩) m.length c5)) (w.heap.size+1) 51 #[.slice (some ⟨g4,0,none⟩) (aR p (p-1) n).length c4,.slice (some ⟨g5,0,none⟩) m.length c5]:=(v5.aX 0 _).aX 1 _;obtain⟨D0,D1⟩:=v6.d2;have yy:Ex w _:=(xx.aM e5 (by omega)).aM E5 (by omega);have zx:=xx.size;have F4:=(((o4.ex x5).aM E5 (by omega)).fr f3.rd.len (B:=w.heap.size) (by omega) hc4);have F5:=((o5.aM E5 (by omega)).fr hB.len (B:=w.heap.size) (by omega) NF);clear hw;go_wp2_with fail
  refine ane (v:=.agg #[.slice (some ⟨g4,0,none⟩) (aR p (p-1) n).length c4,.slice (some ⟨g5,0,none⟩) m.length c5]) (by simp[results,Tryz.results48,go_sem,D0,D1]) rfl ?_;exact⟨_,c4,_,c5,rfl,F4,F5,fq (by omega),yy⟩
theorem PD(p:Int)(vs ws:List aF)(x:aF)(A B P Q:Option Addr)(c d pc qc:Nat)(w:World)(hv:gm EF w A vs)(hw:gm EF w B ws)(hl:vs.length=ws.length)(hP:Rd w P x.n)(hQ:Rd w Q x.d)
 (hvv:jH p 137438953472 vs) (Yi:jH p 68719476736 ws) (hx:FV p x) (hxl:FL 68719476736 x):
 Calls prog 80 #[.int .i64 p,.slice A vs.length c,.slice B ws.length d,.agg #[.slice P x.n.length pc,.slice Q x.d.length qc]] w λe w'=>∃v,e=.returned v/\GE pq 51 w' w.heap.size w'.heap.size v ((ah p).less vs x ws)/\Ex w w':=by
 have Hvv:=amW hvv;have Hww:=amW Yi;have HX:=amW hx;have HXL:=amW hxl;have Hl:=amW hl;have hvl:=hv.1;obtain⟨x0,v0⟩:=VB.xn w 51 #[.slice P x.n.length pc,.slice Q x.d.length qc];have s0:(w.alloc (.cells #[.slice P x.n.length pc,.slice Q x.d.length qc] 51)).heap.size=w.heap.size+1:=by simp
 clear hvv Yi hx hxl hl;go_enter Tryz.func80,Tryz.ntmps80
 go_wp2_with fail
 generalize w.alloc (.cells #[.slice P x.n.length pc,.slice Q x.d.length qc] 51)=W0 at*;refine(DV p x P Q pc qc W0 HX.out (hP.ex x0) (hQ.ex x0)).mono ?_;rintro e w1 ⟨M,mc,N,nc,rfl,fM,fN,apM,x1⟩;obtain⟨m,hm⟩:=xq (aV p x);have Hm:=amW hm;rw[hm]at fM fN⊢;clear hm;have HM:=amW (show FV p m by rw[<-Hm.out];exact HX.out.neg);have HML:=amW (show FL 68719476736 m by rw[<-Hm.out];exact HXL.out.neg);obtain⟨y1,d1⟩:=VB.xn w1 51 #[.slice M m.n.length mc,.slice N m.d.length nc];have s1:(w1.alloc (.cells #[.slice M m.n.length mc,.slice N m.d.length nc] 51)).heap.size=w1.heap.size+1:=by simp
 go_wp2_with fail
 generalize w1.alloc (.cells #[.slice M m.n.length mc,.slice N m.d.length nc] 51)=W1 at*;have xW:=(x0.trans x1).trans y1;have rM:=fM.rd.ex y1;have rN:=fN.rd.ex y1;have zW:=xW.size;clear x0 x1 y1 v0 s0 fM fN apM;go_loopw [10,18] (λo i wr=>∃k:Nat,k<=vs.length/\i=.int .i64 k/\GE pq 51 wr W1.heap.size wr.heap.size o (((ah p).less vs x ws).take k)/\Ex W1 wr) (λ_ i _=>vs.length-(intOf i).toNat)
 case atStart=>exact⟨0,am4 _,rfl,GE.nil _ _ _ _ _,asF _⟩
 case round=>
  rename World=>wi;obtain⟨k,hk,rfl,hge,he⟩:=hrel;by_cases hlt:k<vs.length
  .have hlt2:k<ws.length:=by have:=Hl.out;omega
   obtain⟨g,off,y,P2,pc2,Q2,qc2,rfl,hy,c0,c1,hP2,ZP⟩:=(hv.ex (xW.trans he)).ku hlt;obtain⟨g',off',u,P3,pc3,Q3,qc3,rfl,hu,bW0,bW1,abS,abQ⟩:=(hw.ex xW).ku hlt2;have b0:=af he bW0;have b1:=af he bW1;have hP3:=abS.ex he;have hQ3:=abQ.ex he;clear abS abQ;have HY:=amW (Hvv.out y (am1 hy));have HU:=amW (Hww.out u (am1 hu));have HT:=amW (show((ah p).less vs x ws).take (k+1)=((ah p).less vs x ws).take k++[eO p y (eG p m u)] by
    rw[am_];congr 1;unfold Ops.less;rw[apn,hy,hu,<-Hm.out];rfl)
   clear hy hu;have htl:(((ah p).less vs x ws).take k).length<=k:=aoc _ _;have cMul:∀W,Ex wi W->Calls prog 79 #[.int .i64 p,.agg #[.slice M m.n.length mc,.slice N m.d.length nc],.agg #[.slice P3 u.n.length pc3,.slice Q3 u.d.length qc3]] W λe w'=>wZ W (eG p m u) e w':=λW hW=>
    KR p M N mc nc m.n m.d P3 Q3 pc3 qc3 u.n u.d W (rM.ex (he.trans hW)) (rN.ex (he.trans hW)) (hP3.ex hW) (hQ3.ex hW) (HM.out.xZ (by have:=HML.out.1;omega) (by have:=HML.out.2;omega)) (HU.out.1.xZ (by have:=HU.out.2.1;omega) (by have:=HU.out.2.2;omega))
   have HZ:=amW (show FV p (eG p m u)/\FL 137438953472 (eG p m u)from⟨HM.out.mul HU.out.1,(FL.mul HM.out HU.out.1 HML.out HU.out.2).mono (by omega)⟩);obtain⟨z,hz⟩:=xq (eG p m u);rw[hz]at cMul HT HZ;clear hz;have cAdd:∀(A5 B5:Option Addr) (c5 d5:Nat) (W:World),Ex wi W->Rd W A5 z.n->Rd W B5 z.d->Calls prog 44 #[.int .i64 p,.agg #[.slice P2 y.n.length pc2,.slice Q2 y.d.length qc2],.agg #[.slice A5 z.n.length c5,.slice B5 z.d.length d5]] W λe w'=>wZ W (eO p y z) e w':=λA5 B5 c5 d5 W hW r1 r2=>
    uD p P2 Q2 pc2 qc2 y.n y.d A5 B5 c5 d5 z.n z.d W (hP2.ex hW) (ZP.ex hW) r1 r2 (HY.out.1.xZ (by have:=HY.out.2.1;omega) (by have:=HY.out.2.2;omega)) (HZ.out.1.xZ (by have:=HZ.out.2.1;omega) (by have:=HZ.out.2.2;omega))
   obtain⟨y1,dy⟩:=VB.xn wi 51 #[.slice P2 y.n.length pc2,.slice Q2 y.d.length qc2];have d1w:=d1.ex he;go_wp2_with fail
   generalize wi.alloc (.cells #[.slice P2 y.n.length pc2,.slice Q2 y.d.length qc2] 51)=W3 at*;have hzi:=he.size;have zy1:=y1.size;have hd1:=d1.lt;obtain⟨q0,q1⟩:=dy.d2;have q2:=(d1w.ex y1).c0;have q3:=(d1w.ex y1).c1;have q4:=af y1 b0;have q5:=af y1 b1;have hS:∀W,Ex W3 W->(W.cell? ⟨wi.heap.size,0,none⟩=some (.slice P2 y.n.length pc2)/\W.cell? ⟨wi.heap.size,1,none⟩=some (.slice Q2 y.d.length qc2)/\W.cell? ⟨w1.heap.size,0,none⟩=some (.slice M m.n.length mc)/\W.cell? ⟨w1.heap.size,1,none⟩=some (.slice N m.d.length nc)/\W.cell? ⟨g',off'+k*2,none⟩=some (.slice P3 u.n.length pc3)/\W.cell? ⟨g',off'+k*2+1,none⟩=some (.slice Q3 u.d.length qc3)):=λW h=>⟨af h q0,af h q1,af h q2,af h q3,af h q4,af h q5⟩
   go_region_held3 (λW=>W.cell? ⟨wi.heap.size,0,none⟩=some (.slice P2 y.n.length pc2)/\W.cell? ⟨wi.heap.size,1,none⟩=some (.slice Q2 y.d.length qc2)/\W.cell? ⟨w1.heap.size,0,none⟩=some (.slice M m.n.length mc)/\W.cell? ⟨w1.heap.size,1,none⟩=some (.slice N m.d.length nc)/\W.cell? ⟨g',off'+k*2,none⟩=some (.slice P3 u.n.length pc3)/\W.cell? ⟨g',off'+k*2+1,none⟩=some (.slice Q3 u.d.length qc3)) (first
    |(exact hS _ (asF _))|(exact hS _ (asF _).drew)|(exact hS _ e4)|(exact hS _ E5)|(exact hS _ (E5.alloc _))|(exact hK6)) (first
    |(go_at_call 79
      refine(cMul W3.drew y1.drew).mono ?_;rintro e w4 ⟨A4,c4,B4,d4,rfl,f4,g4,Zd,x4⟩;have e4:Ex W3 w4:=(asF W3).drew.trans x4)
    |(go_at_call 44
      refine(cAdd A4 B4 c4 d4 w4 (y1.trans e4) f4.rd g4.rd).mono ?_;rintro e w5 ⟨A5,c5,B5,d5,rfl,f5,g5,ap5,x5⟩;have E5:Ex W3 w5:=e4.trans x5;have z5:=x5.size;have z4:=e4.size;obtain⟨v6,w6,hrun,abr,hO6,aj1,hE6⟩:=iU (hge.ex (y1.trans E5)) (by omega) (cB (x:=eO p y z) f5 g5 ap5 z5) (by omega) z5 (amX _) hzi (by omega);have hK6:w6.cell? ⟨wi.heap.size,0,none⟩=some (.slice P2 y.n.length pc2)/\w6.cell? ⟨wi.heap.size,1,none⟩=some (.slice Q2 y.d.length qc2)/\w6.cell? ⟨w1.heap.size,0,none⟩=some (.slice M m.n.length mc)/\w6.cell? ⟨w1.heap.size,1,none⟩=some (.slice N m.d.length nc)/\w6.cell? ⟨g',off'+k*2,none⟩=some (.slice P3 u.n.length pc3)/\w6.cell? ⟨g',off'+k*2+1,none⟩=some (.slice Q3 u.d.length qc3):=by
       have dy6:VB w6 wi.heap.size 51 #[.slice P2 y.n.length pc2,.slice Q2 y.d.length qc2]:=(hO6.block wi.heap.size (dy.ex E5).lt (λe=>by have:=hge.own _ e.symm;omega)).trans (dy.ex E5);have x6:=hE6 W1 (he.trans (y1.trans E5)) (amX _);have d6:=d1.ex x6;have hw6:=(hw.ex xW);exact⟨dy6.c0,dy6.c1,d6.c0,d6.c1,af x6 bW0,af x6 bW1⟩)
    |(refine b_ rfl _ _ _ rfl rfl rfl hrun ?_))
   all_goals
    have x6:=hE6 W1 (he.trans (y1.trans E5)) (amX _);rw[<-HT.out]at abr;clear q0 q1 q2 q3 q4 q5 hS hK6 hE6 hO6 hrun hge HT htl cMul cAdd;go_wp2_with fail
    go_roundw;case rel=>exact⟨k+1,by omega,by go_num,abr,x6⟩
    case measure=>simp[intOf];omega
  .obtain rfl:k=vs.length:=by omega
   have hfull:((ah p).less vs x ws).length=vs.length:=uf (ah p) rfl Hl.out.symm x;rw[ann (by omega)]at hge;go_wp2_with fail
   go_ret;exact⟨_,rfl,hge.more zW (amX _),xW.trans he⟩
def Dy(w:World)(b o k:Nat):Prop:=∃(a:Addr) (m d:Nat),w.cell? ⟨b,o,none⟩=some (.slice (some a) m d)/\a.block=k
theorem VO.ofx{w:World}{B:Nat}{rows:List (List aF)}(h:VO w B v rows n)(hl:rows.length<=1099511627776)(hn:n<=1099511627776):∃(A:Option Addr) (c:Nat) (S:Nat->Prop),v=.slice A rows.length c/\(∀k,S k->B<=k/\k<w.heap.size)/\OX JV 48 w S A rows:=by
 obtain⟨S,S',R,G,bs,c,e,hc,hM,hO,h1,h2,h3,h4,h5⟩:=h;have hG:=h3 G hM.sg;have num:∀{b o k:Nat},R b o->Dy w b o k->B<=k/\k<w.heap.size/\¬S' k:=λ{b o k} hr hk=>by
  obtain⟨a,m,d,hcell,rfl⟩:=hk;obtain⟨⟨q1,_,cur,q2⟩,_⟩:=hO b o a m d hr hcell;refine⟨?_,aC q2,q1⟩;rcases anM a.block B with q|q
  .exact absurd (h2 _ q) q1
  .exact q
 have same:∀{b o b' o' k:Nat},R b o->R b' o'->Dy w b o k->Dy w b' o' k->b'=b/\o'=o:=λ{b o b' o' k} hr hr' hk hk'=>by obtain⟨a,m,d,hcell,e1⟩:=hk;obtain⟨a',m',d',hcell',e2⟩:=hk';exact(hO b o a m d hr hcell).2 b' o' a' m' d' hr' hcell' (e2.trans e1.symm)
 refine⟨some ⟨G,0,none⟩,c,λk=>B<=k/\k<w.heap.size,e,λk hk=>hk,hl,λj k=>∃b:Nat,bs[j]?=some (some b)/\(k=b∨∃o,o<2*n/\Dy w b o k),λj r hj=>?_,λi j k _ _ hne hi hj=>?_⟩
 .obtain⟨cur,hcur,hx⟩:=hM.out;have hjl:=(am2.1 hj).1;obtain⟨ob,lq⟩:∃ob,bs[j]?=some ob:=⟨_,am0 (by rw[hM.len];exact hjl)⟩;obtain⟨pc,hpc,hcc⟩:=hx j ob lq;obtain⟨hF,hrn⟩:=hM.row j ob r lq hj;refine⟨G,0,[.slice (pB ob) n pc],cur,rfl,hG,hcur,λi u hu=>?_,⟨pB ob,pc,by rw[hrn],by omega,?_⟩,λk hk=>?_,λhk=>?_⟩
  .rcases i with _|i
   .injection hu with hu;subst hu;rw[show JV.k=1 from rfl,anY,anE,anS];exact hcc
   .simp at hu
  .cases ob with
   |none=>have:r=[]:=hF;subst this;exact OX.nil _ _ _ _ _
   |some b=>
    obtain⟨hF,hSb⟩:=hF;have hRb:=(h5 j b lq).2;obtain⟨cu,Ia,hxs⟩:=hF;have WY:∀(o:Nat) (u:Value),cu[o]?=some u->w.cell? ⟨b,o,none⟩=some u:=λo u hu=>by simp[World.cell?,Ia,hu]
    refine⟨by omega,λi k=>Dy w b (i*2) k∨Dy w b (i*2+1) k,λi x hi=>?_,λi i' k hi hi' hne q1 q2=>?_⟩
    .have hil:=(am2.1 hi).1;obtain⟨A1,c1,A2,c2,e1,e2,r1,r2⟩:=hxs i x hi;have xi:∀(o:Nat) (A:Option Addr) (c:Nat) (l:List Int),o<2*n->cu[o]?=some (.slice A l.length c)->Rd w A l->XI w (λk=>Dy w b o k) (.slice A l.length c) l:=λo A c l ho abx hr=>by
      cases A with
      |none=>
       have:l=[]:=by
        cases l with
        |nil=>rfl
        |cons y l=>obtain⟨_,_,e,_⟩:=hr.2 0 (by simp);cases e
       subst this;exact⟨none,c,rfl,Fr.nil _ _ _,λa e=>by cases e⟩
      |some a=>obtain⟨⟨_,q2,VF,q3⟩,_⟩:=hO b o a l.length c (hRb o ho) (WY o _ abx);exact⟨some a,c,rfl,⟨hr,q2,λa' e=>by injection e with e;subst e;exact⟨am4 _,VF,q3⟩⟩,λa' e=>by injection e with e;subst e;exact⟨a,l.length,c,WY o _ abx,rfl⟩⟩
     refine⟨b,0,[.slice A1 x.n.length c1,.slice A2 x.d.length c2],cu,rfl,⟨b,lq,.inl rfl⟩,Ia,λq u hu=>?_,⟨_,_,rfl,λk=>Dy w b (i*2) k,λk=>Dy w b (i*2+1) k,xi _ _ _ _ (by omega) e1 r1.1,xi _ _ _ _ (by omega) e2 r2.1,λk hk=> .inl hk,λk hk=> .inr hk,λk q1 q2=>?_⟩,λk hk=>?_,λhk=>?_⟩
     .rw[show Lp.k=2 from rfl,anE]
      match q,hu with
      |0,hu=>simp at hu;rw[<-hu];exact e1
      |1,hu=>simp at hu;rw[<-hu];exact e2
     .have:=(same (hRb _ (by omega)) (hRb _ (by omega)) q1 q2).2;omega
     .rcases hk with hk|hk
      .exact⟨b,lq,.inr ⟨_,by omega,hk⟩⟩
      .exact⟨b,lq,.inr ⟨_,by omega,hk⟩⟩
     .rcases hk with hk|hk
      .exact(num (hRb _ (by omega)) hk).2.2 (h1 _ hSb)
      .exact(num (hRb _ (by omega)) hk).2.2 (h1 _ hSb)
    .rcases q1 with q1|q1<;>rcases q2 with q2|q2<;>
      (have:=(same (hRb _ (by omega)) (hRb _ (by omega)) q1 q2).2;omega)
  .obtain⟨b,hb,hk⟩:=hk;rcases hk with rfl|⟨o,ho,hk⟩
   .exact h3 _ (h5 j _ hb).1
   .have:=num ((h5 j b hb).2 o ho) hk;exact⟨this.1,this.2.1⟩
  .obtain⟨b,hb,hk⟩:=hk;rcases hk with rfl|⟨o,ho,hk⟩
   .exact hM.ng j _ hb rfl
   .exact(num ((h5 j b hb).2 o ho) hk).2.2 (h1 _ hM.sg)
 .obtain⟨b,hb,q1⟩:=hi;obtain⟨b',hb',q2⟩:=hj;have hbb:b≠b':=λe2=>hne (by subst e2;exact hM.nd i j b hb hb')
  rcases q1 with rfl|⟨o,ho,q1⟩
  .rcases q2 with rfl|⟨o',ho',q2⟩
   .exact hbb rfl
   .exact(num ((h5 j b' hb').2 o' ho') q2).2.2 (h1 _ (h5 i _ hb).1)
  .rcases q2 with rfl|⟨o',ho',q2⟩
   .exact(num ((h5 i b hb).2 o ho) q1).2.2 (h1 _ (h5 j _ hb').1)
   .exact hbb (same ((h5 i b hb).2 o ho) ((h5 j b' hb').2 o' ho') q1 q2).1.symm
abbrev Zp(p:Int):={a:Int // fe p a=true}
abbrev xM(p:Int):={x:aF // FV p x}
theorem Y_(hp:0<p)(h:PN p f)(t:Nat):fe p (cf f t)=true:=by
 by_cases ht:t<f.length
 .have h1:cf f t∈f:=by
   rw[cf,am0 ht,Option.getD_some];exact anO ht
  exact anl.1 h.e _ h1
 .rw[gU (by omega)];simp[fe,hp]
def dec(p:Int)(e:Nat)(c:Nat×Nat->Zp p)(j:Nat):List Int:=trim ((List.range e).map λt=>(c (j,t)).1)
theorem oo(e:Nat)(c:Nat×Nat->Zp p)(j t:Nat):cf (dec p e c j) t=if t<e then(c (j,t)).1 else 0:=by rw[dec,bU,tH]
theorem jG(e:Nat)(c:Nat×Nat->Zp p)(j:Nat):PN p (dec p e c j):=⟨j_ (iI λi y hi=>by
 obtain⟨h1,h2⟩:=am2.1 hi;rw[aor]at h2;rw[<-h2];exact Gz (c _).2),Tr.trim _⟩
theorem GH(e:Nat)(c:Nat×Nat->Zp p)(j:Nat):(dec p e c j).length<=e:=anb (gD _) (by simp)
def enc{p:Int}(hp:0<p)(v:Nat->List Int)(h:∀j,PN p (v j)):Nat×Nat->Zp p:=λq=>⟨cf (v q.1) q.2,Y_ hp (h q.1) q.2⟩
theorem VA(hp:0<p){v:Nat->List Int}(h:∀j,PN p (v j)){j:Nat}(hl:(v j).length<=e):dec p e (enc hp v h) j=v j:=
 PN.eq hp (jG _ _ _) (h j) λu=>by
  rw[oo];by_cases hu:u<e
  .rw[amY hu];show p ∣ cf (v j) u-cf (v j) u;rw[Int.sub_self];exact Int.dvd_zero _
  .rw[amZ hu,gU (by omega)];exact⟨0,by omega⟩
theorem Y9(hF:aj p=true)(e:Nat)(c d:Nat×Nat->Zp p)(j:Nat):dec p e ((aD p hF).ad c d) j=bL p (dec p e c j) 1 (dec p e d j):=by
 have hp:0<p:=by have:=au hF;omega
 refine PN.eq hp (jG _ _ _) ((jG _ _ _).add hp 1 _) λu=>?_
 have h1:=(dJ hp (jG e c j) (dec p e d j)).symm u;rw[oo,oo]at h1;rw[oo];by_cases hu:u<e
 .rw[amY hu,amY hu]at h1;rw[amY hu];have h2:p ∣ (((aD p hF).ad c d) (j,u)).1-((c (j,u)).1+(d (j,u)).1):=(aP.emod (p:=p) (λ_=>(c (j,u)).1+(d (j,u)).1)) 0;have:=aoq h2 h1;rwa[show((((aD p hF).ad c d) (j,u)).1-((c (j,u)).1+(d (j,u)).1))+((c (j,u)).1+(d (j,u)).1-cf (bL p (dec p e c j) 1 (dec p e d j)) u)=(((aD p hF).ad c d) (j,u)).1-cf (bL p (dec p e c j) 1 (dec p e d j)) u by omega]at this
 .rw[amZ hu,amZ hu]at h1;rw[amZ hu];exact h1
def cp(a:Int):List Int:=trim [a]
theorem qj{a:Int}(h:fe p a=true):PN p (cp a):=⟨j_ (by simp[av,h]),Tr.trim _⟩
theorem Y8(hF:aj p=true)(e:Nat)(a:Zp p)(c:Nat×Nat->Zp p)(j:Nat):dec p e ((aD p hF).sm a c) j=ax p (cp a.1) (dec p e c j):=by
 have hp:0<p:=by have:=au hF;omega
 refine PN.eq hp (jG _ _ _) (PN.mul hp _ _) λu=>?_
 have h1:=((aU hp (cp a.1) (dec p e c j)).trans (aP.JN (aP.of_eq (funext λt=>bU [a.1] t)) (dec p e c j))).symm u;have h0:act [a.1] (cf (dec p e c j)) u=a.1*cf (dec p e c j) u:=by rw[show[a.1]=(List.range 1).map (λ_=>a.1)from rfl,uN];show 0+a.1*(if 0<=u then cf (dec p e c j) (u-0)else 0)=_;rw[amY (am4 u),Nat.sub_zero,aoC]
 rw[h0,oo]at h1;rw[oo];by_cases hu:u<e
 .rw[amY hu]at h1;rw[amY hu];have h2:p ∣ (((aD p hF).sm a c) (j,u)).1-(a.1*(c (j,u)).1):=(aP.emod (p:=p) (λ_=>a.1*(c (j,u)).1)) 0;have:=aoq h2 h1;rwa[show((((aD p hF).sm a c) (j,u)).1-(a.1*(c (j,u)).1))+(a.1*(c (j,u)).1-cf (ax p (cp a.1) (dec p e c j)) u)=(((aD p hF).sm a c) (j,u)).1-cf (ax p (cp a.1) (dec p e c j)) u by omega]at this
 .rw[amZ hu,Int.mul_zero]at h1;rw[amZ hu];exact h1
theorem Y7(hF:aj p=true)(e:Nat)(j:Nat):dec p e (aD p hF).ze j=[]:=by
 have hp:0<p:=by have:=au hF;omega
 refine PN.eq hp (jG _ _ _) (PN.nil p) λu=>?_
 rw[oo,iD];split<;>exact⟨0,by show(0:Int)-0=_;omega⟩
def PS{p:Int}(hF:aj p=true)(V:(Nat->xM p)->Prop)(e:Nat)(c:Nat×Nat->Zp p):Prop:=(∀j t,e<=t->c (j,t)=(aD p hF).z)/\V (λj=>pe hF (dec p e c j))
theorem PS.sub{hF:aj p=true}{V:(Nat->xM p)->Prop}(hV:JO (ay p hF) V)(e:Nat):JO (aD p hF) (PS hF V e):=by
 refine⟨⟨λ_ _ _=>rfl,?_⟩,λu v hu hv=>⟨λj t ht=>?_,?_⟩,λc u hu=>⟨λj t ht=>?_,?_⟩⟩
 .have:(λj=>pe hF (dec p e (aD p hF).ze j))=(ay p hF).ze:=funext λj=>by rw[Y7,jV];rfl
  rw[this];exact hV.zero
 .show(aD p hF).add (u (j,t)) (v (j,t))=_;rw[hu.1 j t ht,hv.1 j t ht,(aD p hF).bG]
 .have:(λj=>pe hF (dec p e ((aD p hF).ad u v) j))=(ay p hF).ad (λj=>pe hF (dec p e u j)) (λj=>pe hF (dec p e v j)):=funext λj=>by
   rw[Y9,<-IW hF (jG _ _ _) (jG _ _ _)];rfl
  rw[this];exact hV.add _ _ hu.2 hv.2
 .show(aD p hF).mul c (u (j,t))=_;rw[hu.1 j t ht,(aD p hF).bf]
 .have:(λj=>pe hF (dec p e ((aD p hF).sm c u) j))=(ay p hF).sm (pe hF (cp c.1)) (λj=>pe hF (dec p e u j)):=funext λj=>by
   rw[Y8,<-lU hF (qj c.2) (jG _ _ _)];rfl
  rw[this];exact hV.sm _ _ hu.2
theorem Sp.aan(F:aL K)(R:List (Nat->K)):JO F (Sp F R):=⟨Sp.zero F R,λ_ _ hu hv=>hu.add hv,λc _ hu=>hu.smul c⟩
def Ih{p:Int}(hF:aj p=true)(V:(Nat->xM p)->Prop)(r d:Nat):Prop:=∀e,AZ (aD p hF) (PS hF V e) (r*e-d)
theorem AZ.XU{ι:Type}{F:aL K}{S:(ι->K)->Prop}(hS:JO F S){N:Nat}(z:Nat->ι->K)(p:Nat->ι)(h:∀k,k<N->S (z k)/\z k (p k)≠F.z/\∀l,k<l->l<N->z l (p k)=F.z):AZ F S N:=λM f hf hM=>by obtain⟨a,⟨j,hj,haj⟩,hs⟩:=yo F M N (λi k=>f i (z k)) hM;refine⟨F.cb a z N,hS.cb a z N λk hk=>(h k hk).1,Xz (λk hk=>(h k hk).2) a ⟨j,hj,haj⟩,λi hi=>?_⟩;rw[(hf i hi).cb,<-hs i hi];exact F.bK λk _=>F.mul_comm _ _
def xp(t:Nat):List Int:=trim ((List.range (t+1)).map λs=>if s=t then 1 else 0)
theorem aaf(t u:Nat):cf (xp t) u=if u=t then 1 else 0:=by
 rw[xp,bU,tH];by_cases h:u=t
 .rw[amY (by omega),amY h]
 .rw[amZ h];split<;>rfl
theorem V_(h2:2<=p)(t:Nat):PN p (xp t):=⟨j_ (iI λi y hi=>by
 obtain⟨_,h2⟩:=am2.1 hi;rw[aor]at h2;rw[<-h2];split<;>omega),Tr.trim _⟩
theorem Xo(t:Nat):(xp t).length<=t+1:=anb (gD _) (by simp)
theorem Ih.leaf(hF:aj p=true){V:(Nat->xM p)->Prop}(hV:JO (ay p hF) V)(r δ:Nat)(R:Nat->Nat->List Int)(q:Nat->Nat)(h:∀i,i<r->(∀j,PN p (R i j)/\(R i j).length<=1+δ)/\V (λj=>pe hF (R i j))/\R i (q i)=[1]/\∀l,l<r->l≠i->R l (q i)=[]):
 Ih hF V r (r*δ):=λe=>by
 have h2:=au hF;have hp:0<p:=by omega
 rcases anM δ e with hd|hd;case inr=>
  have h0:r*e-r*δ=0:=by have:=Nat.mul_le_mul_left r hd;omega
  rw[h0];exact λM f hf hM=>absurd hM (aoT _)
 obtain⟨e',he'⟩:=xq (e-δ);have hN:r*e-r*δ=r*e':=by rw[<-Nat.mul_sub,he']
 rw[hN];have hpn:∀k j,PN p (ax p (xp (k%e')) (R (k / e') j)):=λk j=>PN.mul hp _ _
 have he0:0<e':=by omega
 refine AZ.XU (PS.sub hV e) (λk=>enc hp (λj=>ax p (xp (k%e')) (R (k / e') j)) (hpn k)) (λk=>(q (k / e'),k%e')) λk hk=>?_
 have hkr:k / e'<r:=Nat.div_lt_of_lt_mul (by rw[aod];exact hk);have hkm:k%e'<e':=Nat.mod_lt _ he0;obtain⟨h3,h4,h5,h6⟩:=h (k / e') hkr;have hlen:∀j,(ax p (xp (k%e')) (R (k / e') j)).length<=e:=λj=>by have h7:=Kt p (xp (k%e')) (R (k / e') j);have h8:=Xo (k%e');have h9:=(h3 j).2;omega
 have hat:∀l,l<r*e'->(enc hp (λj=>ax p (xp (l%e')) (R (l / e') j)) (hpn l)) (q (k / e'),k%e')=(if k=l then⟨1%p,oh hp 1⟩else(aD p hF).z):=λl hl=>by
  refine ano ?_;show cf (ax p (xp (l%e')) (R (l / e') (q (k / e')))) (k%e')=_;by_cases hd2:l / e'=k / e'
  .rw[hd2,h5,dS h2 (V_ h2 _),aaf];by_cases hm:k%e'=l%e'
   .rw[amY hm];have hkl:k=l:=by rw[<-Nat.div_add_mod k e',<-Nat.div_add_mod l e',hd2,hm]
    rw[amY hkl];show 1=1%p;rw[anX (by omega) (by omega)]
   .rw[amZ hm,amZ (λe=>hm (by rw[e]))];rfl
  .rw[h6 (l / e') (Nat.div_lt_of_lt_mul (by rw[aod];exact hl)) hd2,Fp,amZ (λe=>hd2 (by rw[e]))];rfl
 refine⟨⟨λj t ht=>ano ?_,?_⟩,?_,λl hl hl2=>?_⟩
 .show cf (ax p (xp (k%e')) (R (k / e') j)) t=0;exact gU (by have:=hlen j;omega)
 .have:(λj=>pe hF (dec p e (enc hp (λj=>ax p (xp (k%e')) (R (k / e') j)) (hpn k)) j))=(ay p hF).sm (pe hF (xp (k%e'))) (λj=>pe hF (R (k / e') j)):=funext λj=>by
   rw[VA hp (hpn k) (hlen j),<-lU hF (V_ h2 _) (h3 j).1];rfl
  rw[this];exact hV.sm _ _ h4
 .rw[hat k hk,amY rfl];intro h0;have h1:(1:Int)%p=0:=congrArg Subtype.val h0;rw[anX (by omega) (by omega)]at h1;omega
 .rw[hat l hl2,amZ (by omega)]
theorem Vz(hp:0<p){c:Nat×Nat->Zp p}{j:Nat}(h:∀t,t<e->(c (j,t)).1=0):dec p e c j=[]:=
 PN.eq hp (jG _ _ _) (PN.nil p) λu=>by
  rw[oo,iD];split
  .rename_i hu;rw[h u hu];exact⟨0,by omega⟩
  .exact⟨0,by omega⟩
theorem VD{hF:aj p=true}{V:(Nat->xM p)->Prop}{c:Nat×Nat->Zp p}(h:PS hF V e c){q:Nat×Nat}(hq:c q≠(aD p hF).z):dec p e c q.1≠[]:=λh0=>by
 have h1:=oo e c q.1 q.2;rw[h0,iD]at h1;by_cases ht:q.2<e
 .rw[amY ht]at h1;exact hq (ano h1.symm)
 .exact hq (h.1 q.1 q.2 (by omega))
theorem Ih.bd{hF:aj p=true}{R:List (List (xM p))}(hR:jZ (ay p hF) n R)(h:Ih hF (Sp (ay p hF) ((ay p hF).fns R)) R.length d):∀v∈R,∀x∈v,FL (d+1) x.1:=by
 have hp:0<p:=by have:=au hF;omega
 obtain⟨hW,P,he⟩:=hR;intro v hv x hx;obtain⟨i,hi⟩:=anc hv;obtain⟨j,hj⟩:=anc hx;have hir:=(am2.1 hi).1;have hpl:=he.pl;obtain⟨p0,hp0⟩:∃p0,P[i]?=some p0:=⟨_,am0 (by omega)⟩;obtain⟨c,hc,⟨q,hq⟩,hz⟩:=h (d+1) ((R.length-1)*(d+1)) (λk c=>c (P.getD (uY i (k / (d+1))) 0,k%(d+1))) (λk _=>H6.at _ _) (by
  obtain⟨r,hr⟩:∃r,R.length=r+1:=⟨R.length-1,by omega⟩;rw[hr,ao4,aos];omega)
 have hoth:∀(k pk:Nat),P[k]?=some pk->k≠i->dec p (d+1) c pk=[]:=λk pk hk hki=>Vz hp λt ht=>by
  have hkr:k<R.length:=by have:=(am2.1 hk).1;omega
  obtain⟨u,hu,hsk⟩:=Pg hir hkr hki;have h1:=hz (u*(d+1)+t) (by
   have:(u+1)*(d+1)<=(R.length-1)*(d+1):=an6 _ hu;rw[aos]at this;omega)
  rw[show(u*(d+1)+t) / (d+1)=u by rw[aod,Nat.mul_add_div (by omega),Nat.div_eq_of_lt ht,anS],show(u*(d+1)+t)%(d+1)=t by rw[aod,Nat.mul_add_mod];exact Nat.mod_eq_of_lt ht,hsk,am6,hk]at h1;exact congrArg Subtype.val h1
 obtain⟨w,hw⟩:∃w:Nat->xM p,w=λj=>pe hF (dec p (d+1) c j):=⟨_,rfl⟩
 have hsp:Sp (ay p hF) ((ay p hF).fns R) w:=by rw[hw];exact hc.2
 have hwz:∀(k pk:Nat),P[k]?=some pk->k≠i->w pk=(ay p hF).z:=λk pk hk hki=>by rw[hw];show pe hF (dec p (d+1) c pk)=_;rw[hoth k pk hk hki,jV]
 have hall:∀j,w j=(ay p hF).mul (w p0) ((ay p hF).el v j):=λj=>by
  have h3:=he.sO (hsp.vd ((Sp.mem (F:=ay p hF) (am3.2 ⟨v,am1 hi,rfl⟩)).smul (w p0))) λpp hpp=>by
   obtain⟨k,hk⟩:=anc hpp;show(ay p hF).add (w pp) ((ay p hF).mul ((ay p hF).neg (ay p hF).o) ((ay p hF).mul (w p0) ((ay p hF).el v pp)))=_;by_cases e:k=i
   .subst e;rw[hp0]at hk;injection hk with hk;subst hk;rw[he.one k p0 v hp0 hi,(ay p hF).fO,(ay p hF).neg_mul,(ay p hF).bB,(ay p hF).add_neg]
   .rw[hwz k pp hk e,he.Bh k i pp v hk hi (λq=>e q.symm),(ay p hF).bf,(ay p hF).bf,(ay p hF).bG]
  have h4:(ay p hF).add (w j) ((ay p hF).mul ((ay p hF).neg (ay p hF).o) ((ay p hF).mul (w p0) ((ay p hF).el v j)))=(ay p hF).z:=congrFun h3 j;rw[(ay p hF).neg_mul,(ay p hF).bB]at h4;rw[(ay p hF).lY h4,(ay p hF).neg_neg]
 have hg0:dec p (d+1) c p0≠[]:=λh0=>by
  have h1:w p0=(ay p hF).z:=by rw[hw];show pe hF (dec p (d+1) c p0)=_;rw[h0,jV]
  have h2:=hall q.1;rw[h1,(ay p hF).iF,hw]at h2;exact Fq hF (jG _ _ _) (VD hc hq) h2
 have hxj:(ay p hF).el v j=x:=Ops.bT _ hj;have h5:=hall j;rw[hxj,hw]at h5;exact Si hF (jG _ _ _) (jG _ _ _) hg0 h5.symm (GH _ _ _) (GH _ _ _)
theorem Ih.mono{hF:aj p=true}{V:(Nat->xM p)->Prop}{r' d':Nat}(h:Ih hF V r d)(hr:r'<=r)(hd:d<=d'):Ih hF V r' d':=λe=>(h e).mono (by have:=an6 e hr;omega)
theorem Ih.iff{hF:aj p=true}{V V':(Nat->xM p)->Prop}(h:Ih hF V r d)(hv:∀v,V v->V' v):Ih hF V' r d:=λe M f hf hM=>by obtain⟨x,h1,h2⟩:=h e M f hf hM;exact⟨x,⟨h1.1,hv _ h1.2⟩,h2⟩
section
section
variable {K : Type}
end
theorem vG(hF:aj p=true):pe hF [1]=(ay p hF).o:=ano (nR hF (PN.one (au hF)))
end
open Go.Lib (Bytes run_convert_whole)
structure Nd where
 kd:Int
 vl:Int
 nm:ByteArray
def nmB(n:Nd):Bool:=decide (n.nm=⟨#[]⟩)
def ZG(n:Nd):Option (Int×Int):=
 if nmB n=true/\n.kd=1/\bN 0 12 n.vl=true then some (n.vl,n.vl)
 else if nmB n=true/\n.kd=2/\n.vl=0 then some (2,2)
 else if nmB n=true/\bN 3 14 n.kd=true/\Eo n.kd n.vl=true then some (gw n.kd)
 else none
structure Rln where
 l:Int
 r:Int
 b:List (List Int)
theorem xH(rows:List (List Int))(k:Nat):(rows.take k).flatten.length<=rows.flatten.length:=by have:=congrArg (λl=>l.flatten.length) (aog k rows);simp only[aoE,am9]at this;omega
theorem uh(L:Option Addr)(lc:Nat)(rows:List (List Int))(w:World)(h:pI w L rows)(ht:rows.flatten.length<=1099511627776):
 Calls prog 27 #[.slice L rows.length lc] w λe w'=>LIo w rows.flatten e w':=by
 have hl:=h.1;go_enter Tryz.func27,Tryz.ntmps27
 go_wp2_with fail
 go_loopw [3,9] (λo i wr=>∃k:Nat,k<=rows.length/\i=.int .i64 k/\AL wr w.heap.size o (rows.take k).flatten/\Ex w wr) (λ_ i _=>rows.length-(intOf i).toNat)
 case atStart=>exact⟨0,am4 _,rfl,AL.empty w (amX _),(asF w).alloc _⟩
 case round=>
  obtain⟨k,hk,rfl,hal,he⟩:=hrel;by_cases hlt:k<rows.length
  .obtain⟨g,off,P,pc,r,rfl,hr,c1,hP⟩:=(h.ex he).at_ hlt;have Hst:=amW (show(rows.take (k+1)).flatten=(rows.take k).flatten++r by
    rw[am_,hr,aoE];simp)
   have hle:=xH rows (k+1);rw[Hst.out,am9]at hle;have hz:=he.size;have WL:=hP.len;obtain⟨v',w4,aaX,abB,hE,_⟩:=fH 23 23 Tryz.underlying23 wr w.heap.size u3 _ hal hz P pc r hP (by omega);rw[<-Hst.out]at abB;have qO:=he.Sj hE (λg e=>(hal.lt g e).1);clear hr hle;go_wp2_with (at_builtin;refine wpList_append_run rfl _ _ _ rfl rfl rfl aaX ?_)
   go_roundw;case rel=>exact⟨k+1,by omega,by go_num,abB,qO⟩
   case measure=>simp[intOf];omega
  .obtain rfl:k=rows.length:=by omega
   rw[anf]at hal;obtain⟨O,oc,rfl,fo⟩:=hal.form ht;go_wp2_with fail
   go_ret;exact⟨_,rfl,⟨O,oc,rfl,fo.fi⟩,he⟩
theorem QR(k v:Int)(w:World):Calls prog 57 #[.int .i64 k,.int .i64 v] w λe w'=>e=.returned (.agg #[.int .i64 k,.int .i64 v,.string ⟨#[]⟩])/\Ex w w':=by
 obtain⟨x1,v1⟩:=VB.xn w 82 #[.int .i64 0,.int .i64 0,.string ⟨#[]⟩];go_enter Tryz.func57,Tryz.ntmps57
 go_wp2_with fail
 refine ane (v:=.agg #[.int .i64 k,.int .i64 v,.string ⟨#[]⟩]) (by simp[results,Tryz.results57,go_sem]) rfl ?_;exact⟨rfl,(asF w).alloc _⟩
open Go.ChangeShapes Go.WideShapes Go.ChangeAt Go.RowKit
section
section
variable {H : Type} {enc : TypeId × Value -> H} {P : Program}
theorem rq(hl:laidOutB P=true){W W':World}(hb:Below W.heap.size W W'){sp:Nat->Bool}:∀{ts:List TypeId} {vs:List Value} {ds:List (DataW H)} {ps:List MemPlace},
 (ts.all λt=>P.readableRec t&&decide (t<P.types.size))=true->DataW.TrodAll enc P W 0 (λ_=>true) true ts vs ds ps->(∀x∈ps,x.block<W.heap.size)->(∀x∈ps,sp x.block=true)->DataW.TrodAll enc P W' 0 sp true ts vs ds ps
 |[],[],[],_,_,h,_,_=>h
 |t::ts,v::vs,d::ds,_,hr,⟨p,q,h1,h2,e⟩,hlt,hsp=>by
  subst e;simp only[List.all_cons,anx,decide_eq_true_eq]at hr;exact⟨p,q,WideElems.Trod_stays hl hr.1.1 hr.1.2 h1 (λx hx=>hb.same (hlt x (by simp[hx]))) (λx hx=>hsp x (by simp[hx])),
   rq hl hb hr.2 h2 (λx hx=>hlt x (by simp[hx])) (λx hx=>hsp x (by simp[hx])),rfl⟩
 |[],_::_,_,_,_,h,_,_=>h.elim
 |[],[],_::_,_,_,h,_,_=>h.elim
 |_::_,[],_,_,_,h,_,_=>h.elim
 |_::_,_::_,[],_,_,h,_,_=>h.elim
theorem pK(hl:laidOutB P=true){W W':World}(hb:Below W.heap.size W W'){sp:Nat->Bool}:∀{ns:List String} {gs:List (DataW H)} {ps:List MemPlace},
 (∀n∈ns,∀g t,P.globalNamed n=some g->(P.globals[g]?).map (·.type)=some t->P.readableRec t=true/\t<P.types.size)->
 DataW.TrodVars enc P W (λ_=>true) ns gs ps->(∀x∈ps,x.block<W.heap.size)->(∀x∈ps,sp x.block=true)->DataW.TrodVars enc P W' sp ns gs ps
 |[],[],_,_,h,_,_=>h
 |n::ns,d::ds,_,hr,⟨g,t,cs,fuel,p,q,h1,h2,h3,h4,h5,e⟩,hlt,hsp=>by
  subst e;obtain⟨hr1,hr2⟩:=hr n (by simp) g t h1 h2;have hg:g<W.heap.size:=by
   simp only[World.var?,h1,Option.bind_some]at h3;split at h3
   .rename_i hh;exact aC hh
   .cases h3
  have h3':W'.var? P n=some cs:=by simp only[World.var?,h1,Option.bind_some]at h3⊢;rw[hb.block g hg];exact h3
  exact⟨g,t,cs,fuel,p,q,h1,h2,h3',DataW.trod_stays (kids_book hl hr1) (book_sized hr1) (λh=>by cases h) ⟨hr2,book_self t⟩ h4 (λx hx=>hb.same (hlt x (by simp[hx]))) (λx hx=>hsp x (by simp[hx])),
   pK hl hb (λn' hn'=>hr n' (by simp[hn'])) h5 (λx hx=>hlt x (by simp[hx])) (λx hx=>hsp x (by simp[hx])),rfl⟩
 |[],_::_,_,_,h,_,_=>h.elim
 |_::_,[],_,_,h,_,_=>h.elim
theorem QV(hl:laidOutB P=true){f:Func}{s:ChangeSpec}{bt:TypeId}{handsOn:Bool}{W':World}{args:Array Value}{ds gs:List (DataW H)}{before:List MemPlace}
 (hts:(f.params.toList.all λt=>P.readableRec t&&decide (t<P.types.size))=true)
 (hvs:∀n∈s.vars,∀g t,P.globalNamed n=some g->(P.globals[g]?).map (·.type)=some t->P.readableRec t=true/\t<P.types.size)
 (hft:f.resultTypes= #[bt]) (hbt:P.underlying bt=some .bool)
 (hs:s.fn H (ds++gs)={results:=[.lit (.bool true)],args:=ds,vars:=gs})
 (hW:DataW.Whole enc P f.params.toList s.vars false W args.toList ds gs before) (hb:Below W.heap.size W W'):
 s.post enc P f false true handsOn false W args (.bool true) W':=by
 have hlt:∀p∈before,p.block<W.heap.size:=λp hp=>hW.lt p hp
 have hold:∀p∈before,(λb=>decide (b<W.heap.size)) p.block=true:=λp hp=>by simpa using hlt p hp
 have hW':=hW;obtain⟨pa,pv,hA,hV,hps,hz,hn⟩:=hW;have ha:∀p∈pa,p∈before:=λp hp=>by rw[hps];simp[hp]
 have hv:∀p∈pv,p∈before:=λp hp=>by rw[hps];simp[hp]
 have hres:∀(W':World) (b:Nat) (sp:Nat->Bool) (hd:Bool),DataW.TrodAll enc P W' b sp hd f.resultTypes.toList ((Value.bool true).resultList f.resultTypes.size) (s.fn H (ds++gs)).results []:=λW' b sp hd=>by rw[hs,hft];exact trodAll_mk1 (shut_bool hbt true)
 have hargs:∀sp:Nat->Bool,(∀p∈before,sp p.block=true)->DataW.TrodAll enc P W' 0 sp true f.params.toList args.toList (s.fn H (ds++gs)).args pa:=λsp hsp=>by rw[hs];exact rq hl hb hts hA (λx hx=>hlt x (ha x hx)) (λx hx=>hsp x (ha x hx))
 have hvars:∀sp:Nat->Bool,(∀p∈before,sp p.block=true)->DataW.TrodVars enc P W' sp s.vars (s.fn H (ds++gs)).vars pv:=λsp hsp=>by rw[hs];exact pK hl hb hvs hV (λx hx=>hlt x (hv x hx)) (λx hx=>hsp x (hv x hx))
 refine⟨ds,gs,before,[],pa,pv,hW',hres _ _ _ _,hargs _ hold,hvars _ hold,World.keptBut_mono (λp hp=>⟨hp,?_⟩) (hb.frame (·∈before)),λh=>by cases h⟩;rw[hps,anu]at hp;exact Or.inr hp
end
theorem XR:ownKnob prog.godebug=none:=by kernel_rfl
theorem laidOut:laidOutB prog=true:=by kernel_rfl
theorem uK:prog.cellsOf 3=1:=by kernel_rfl
end
open Go.ChangeShapes Go.WideShapes Go.ChangeAt Go.RowKit Go.Joins
theorem IZ{enc:TypeId×Value->H}{x:DataW H×List MemPlace}
 (h:DataW.trod enc prog W base sp hd fuel 23 [v]=some x):∃A n c,v=.slice A n c/\n<=9223372036854775807/\(n<=1099511627776->∃xs,xs.length=n/\Rd W A xs):=by
 rcases open_ints Tryz.underlying23 Tryz.underlying3 uK h with⟨hcs,_⟩|⟨a,len,cap,zs,hcs,_,hl,hm,hz,_,hcell,_⟩
 .injection hcs with hcs;subst hcs;exact⟨none,0,0,rfl,by omega,λ_=>⟨[],rfl,Rd.nil _ _⟩⟩
 .injection hcs with hcs;subst hcs;refine⟨_,_,_,rfl,by unfold maxLen at hm;omega,λhlen=>?_⟩;have hlz:len<=zs.length:=by rw[hz];split<;>omega
  refine⟨zs.take len,by simp;omega,by simp;omega,λj hj=>?_⟩;have hj':j<len:=by simp at hj;omega
  have hc:=hcell j (by omega);obtain⟨g,off,spot⟩:=a;cases spot with
  |some s=>
   exfalso;have hc0:=hcell 0 (by omega);have e0:(⟨g,off,some s⟩:Addr).add 0=⟨g,off,some s⟩:=by simp[Addr.add]
   rw[e0]at hc0;unfold World.cell? at hc0;split at hc0<;>simp at hc0
  |none=>
   refine⟨g,off,rfl,?_⟩;have e:((⟨g,off,none⟩:Addr).add j)=⟨g,off+j,none⟩:=by unfold Addr.add;split<;>simp_all
   rw[e]at hc;rw[hc];simp[hj']
theorem qQ:prog.globalNamed "loop.example/g01073/impl.smallPrimes" =some 0:=by kernel_rfl
theorem wQ:(prog.globals[0]?).map (·.type)=some 101:=by kernel_rfl
theorem GR:prog.cellsOf 101=4:=by kernel_rfl
theorem Np:∀n∈["loop.example/g01073/impl.smallPrimes"],∀g t,prog.globalNamed n=some g->(prog.globals[g]?).map (·.type)=some t->prog.readableRec t=true/\t<prog.types.size:=by
 intro n hn g t h1 h2;obtain rfl:n= "loop.example/g01073/impl.smallPrimes" :=by simpa using hn
 obtain rfl:0=g:=Option.some.inj (qQ.symm.trans h1);obtain rfl:101=t:=Option.some.inj (wQ.symm.trans h2);exact⟨by kernel_rfl,of_decide_eq_true (by kernel_rfl)⟩
theorem table(h:laidMetH prog [("loop.example/g01073/impl.smallPrimes",Rows.laid_loop_example_g01073_impl_smallPrimes)] W):Tb W:=by have hT:Lib.TabIs prog W "loop.example/g01073/impl.smallPrimes" .i64 [2,3,5,7]:=Lib.tabIs_of_head (rest:=[]) qQ wQ Tryz.underlying101 Tryz.underlying3 uK GR h;exact⟨hT.cell qQ 0 (by decide),hT.cell qQ 1 (by decide),hT.cell qQ 2 (by decide),hT.cell qQ 3 (by decide)⟩
noncomputable def laidWorld (os:Os):World:=
 {World.holding prog os ⟨#[],#[],[]⟩with heap:=(World.holding prog os ⟨#[],#[],[]⟩).heap.modify 0 fun
  | .cells _ t frozen=> .cells #[.int .i64 2,.int .i64 3,.int .i64 5,.int .i64 7] t frozen
  |o=>o}
open Go.ChangeShapes Go.WideShapes Go.ChangeAt Go.RowKit Go.Joins Go.Deep
theorem I4{enc:TypeId×Value->H}{P:Program}{x:DataW H×List MemPlace}{t e:TypeId}(ht:P.underlying t=some (.slice e))(hk:0<P.cellsOf e)
 (h:DataW.trod enc P W base sp hd fuel t [v]=some x):
 ∃(A:Option Addr) (n c:Nat),v=.slice A n c/\n<=9223372036854775807/\∀i,i<n->∃g off cs y m,A=some ⟨g,off,none⟩/\cs.length=P.cellsOf e/\(∀(q:Nat) (u:Value),cs[q]?=some u->W.cell? ⟨g,off+i*P.cellsOf e+q,none⟩=some u)/\DataW.trod enc P W base sp hd m e cs=some y:=by
 rcases DataW.trod_slice ht h with⟨hcs,_⟩|⟨a,len,cap,elems,rest,n,_,hcs,_,_,hl,hm,hlen,hel,_,_⟩
 .injection hcs with hcs;subst hcs;exact⟨none,0,0,rfl,by simp,λi hi=>by omega⟩
 .injection hcs with hcs;subst hcs;refine⟨some a,len,cap,rfl,by unfold maxLen at hm;omega,λi hi=>?_⟩;have each:∀i,i<len->∃cs' y,cs'.length=P.cellsOf e/\(∀(q:Nat) (u:Value),cs'[q]?=some u->W.cell? (a.add (i*P.cellsOf e+q))=some u)/\DataW.trod enc P W base sp hd n e cs'=some y:=λi hi=>by
   have h1:=hel i hi;rw[am0 (by omega),Option.bind_eq_some_iff]at h1;obtain⟨cs',hc',hy⟩:=h1;obtain⟨_,hl1,hcell⟩:=World.cells?_some hc';refine⟨cs',_,hl1,λq u hq=>?_,hy⟩;have Rn:q<P.cellsOf e:=by rw[<-hl1];exact(am2.1 hq).1
   have:=hcell q Rn;rw[add_add]at this;rw[this];exact hq
  obtain⟨cs',y,hl1,hcell',hy⟩:=each i hi;obtain⟨g,off,spot⟩:=a;cases spot with
  |some s=>
   exfalso;obtain⟨c0,_,hl0,hcell0,_⟩:=each 0 (by omega);have hc0:=hcell0 0 _ (am0 (by omega:0<c0.length));have e0:(⟨g,off,some s⟩:Addr).add (0*P.cellsOf e+0)=⟨g,off,some s⟩:=by simp[Addr.add]
   rw[e0]at hc0;unfold World.cell? at hc0;split at hc0<;>simp at hc0
  |none=>
   refine⟨g,off,cs',y,n,rfl,hl1,λq u hq=>?_,hy⟩;have:=hcell' q u hq;have e1:((⟨g,off,none⟩:Addr).add (i*P.cellsOf e+q))=⟨g,off+i*P.cellsOf e+q,none⟩:=by unfold Addr.add;split<;>simp_all [Nat.add_assoc]
   rwa[e1]at this
theorem ql{α:Type}:∀(n:Nat) {Q:Nat->α->Prop},(∀i,i<n->∃x,Q i x)->∃xs:List α,xs.length=n/\∀i x,xs[i]?=some x->Q i x
 |0,_,_=>⟨[],rfl,λi n h=>by simp at h⟩
 |n+1,Q,h=>by
  obtain⟨m,hm⟩:=h 0 (by omega);obtain⟨ns,hl,q⟩:=ql n (Q:=λi=>Q (i+1)) (λi hi=>h (i+1) (by omega));refine⟨m::ns,by simp[hl],λi n hi=>?_⟩;cases i with
  |zero=>simp at hi;subst hi;exact hm
  |succ i=>exact q i n (by simpa using hi)
theorem Dx{enc:TypeId×Value->H}{P:Program}{b0:Nat}{r:Reach}{t:TypeId}{fs:Array Field}{d:DataW H}{p:List MemPlace}
 (hs:P.underlying t=some (.struct fs)) (hone:oneCellFields P fs=true) (hC:P.cellsOf t=fs.size) (hv:Value.okWide P W r b0 t v) (h:DataW.Trod enc P W base sp hd t v d p):
 ∃cs:Array Value,v=.agg cs/\cs.size=fs.size/\∀(i:Nat) (f:Field) (u:Value),fs[i]?=some f->cs[i]?=some u->∃y n,DataW.trod enc P W base sp hd n f.type [u]=some y:=by
 obtain⟨cs,rfl,hsz⟩:=okWide_struct hs hv;obtain⟨fuel,hf⟩:=h;obtain⟨xs,n,_,_,hl,hlen,Nz⟩:=DataW.trod_struct hs hf;refine⟨cs,rfl,hsz.trans hC,λi f u hi hu=>?_⟩;obtain⟨o,k⟩:=hone_of hone i f hi;have h1:=Nz i f hi;rw[o,k]at h1;have hlt:i<fs.size:=(an9.1 hi).1;rw[am0 (by omega)]at h1;have hc:(List.take 1 (List.drop i (Value.agg cs).cells.toList))=[u]:=by
  have hk:i<cs.toList.length:=by simpa using(an9.1 hu).1
  have hu':cs.toList[i]=u:=by simpa using(an9.1 hu).2
  show List.take 1 (List.drop i cs.toList)=[u];rw[aoL hk,hu'];rfl
 rw[hc]at h1;exact⟨_,_,h1⟩
theorem Ad{enc:TypeId×Value->H}{x:DataW H×List MemPlace}
 (h:DataW.trod enc prog W base sp hd fuel 23 [v]=some x):∃z:Int,0<=z/\QS 14 W v z/\(z<=1048576->∃x:List Int,RI W v x):=by
 obtain⟨A,n,c,rfl,hn,k⟩:=IZ h;refine⟨n,Int.natCast_nonneg _,yJ A n c W hn,λhz=>?_⟩;obtain⟨xs,hx,r⟩:=k (by omega);subst hx;exact⟨xs,A,c,rfl,r⟩
structure Zz where
 a:Int
 b:Int
 P:Option Addr
 m:Nat
 pc:Nat
 Q:Option Addr
 l:Nat
 qc:Nat
 z:Int
theorem Gv{enc:TypeId×Value->H}{x:DataW H×List MemPlace}
 (h:DataW.trod enc prog W base sp hd fuel 22 [v]=some x):∃z:Int,0<=z/\QS 13 W v z/\(z<=1048576->∃x:List Ed,RE W v x):=by
 have hc4:prog.cellsOf 65=4:=by kernel_rfl
 have hi1:prog.cellsOf 3=1:=by kernel_rfl
 have hi2:prog.cellsOf 23=1:=by kernel_rfl
 obtain⟨A,n,c,rfl,hn,k⟩:=I4 Tryz.underlying22 (by rw[hc4];decide) h;obtain⟨xs,hx,hq⟩:=ql (α:=Zz) n (Q:=λi x=>∃g off,A=some ⟨g,off,none⟩/\W.cell? ⟨g,off+i*4,none⟩=some (.int .i64 x.a)/\W.cell? ⟨g,off+i*4+1,none⟩=some (.int .i64 x.b)/\
  W.cell? ⟨g,off+i*4+2,none⟩=some (.slice x.P x.m x.pc)/\W.cell? ⟨g,off+i*4+3,none⟩=some (.slice x.Q x.l x.qc)/\0<=x.z/\(x.m:Int)+(x.l:Int)=x.z/\
  QS 37 W (.agg #[.int .i64 x.a,.int .i64 x.b,.slice x.P x.m x.pc,.slice x.Q x.l x.qc]) x.z/\
  (x.z<=1048576->(∃u:List Int,RI W (.slice x.P x.m x.pc) u)/\∃u:List Int,RI W (.slice x.Q x.l x.qc) u)) (λi hi=>by
  obtain⟨g,off,cs,y,m,hA,hl,hcell,hy⟩:=k i hi;rw[hc4]at hl hcell;obtain⟨xs,n',_,_,hl',hlen,Nz⟩:=DataW.trod_struct Tryz.underlying65 hy
  match cs,hl with
  |[u0,u1,u2,u3],_=>
   have f0:=Nz 0 _ rfl;have f1:=Nz 1 _ rfl;have f2:=Nz 2 _ rfl;have f3:=Nz 3 _ rfl;rw[am0 (by rw[hlen];decide)]at f0 f1 f2 f3;obtain⟨a0,e0,_,_⟩:=DataW.trod_int (k:=.i64) Tryz.underlying3 f0;obtain⟨a1,e1,_,_⟩:=DataW.trod_int (k:=.i64) Tryz.underlying3 f1;have h0:u0=.int .i64 a0:=by simpa[uK]using e0
   have h1:u1=.int .i64 a1:=by simpa[uK]using e1
   have g2:DataW.trod enc prog W base sp hd n' 23 [u2]=some _:=f2;have g3:DataW.trod enc prog W base sp hd n' 23 [u3]=some _:=f3;obtain⟨P,m2,pc,rfl,hm2,k2⟩:=IZ g2;obtain⟨Q,m3,qc,rfl,hm3,k3⟩:=IZ g3;subst h0 h1;refine⟨⟨a0,a1,P,m2,pc,Q,m3,qc,(m2:Int)+(m3:Int)⟩,g,off,hA,hcell 0 _ rfl,hcell 1 _ rfl,hcell 2 _ rfl,hcell 3 _ rfl,by dsimp only;omega,rfl,O4 _ _ _ _ _ _ W (yJ P m2 pc W hm2) (by omega) (yJ Q m3 qc W hm3) (by omega),λhz=>?_⟩;dsimp only at hz⊢;obtain⟨x2,hx2,r2⟩:=k2 (by omega);obtain⟨x3,hx3,r3⟩:=k3 (by omega);subst hx2 hx3;exact⟨⟨x2,P,pc,rfl,r2⟩,⟨x3,Q,qc,rfl,r3⟩⟩)
 have hz0:∀(i:Nat) (z:Int),(xs.map (λx:Zz=>x.z))[i]?=some z->0<=z:=λi z hz=>by rw[am7,Option.map_eq_some_iff]at hz;obtain⟨x,hxi,rfl⟩:=hz;obtain⟨_,_,_,_,_,_,_,h0,_⟩:=hq i x hxi;exact h0
 have hs:=sN hz0;refine⟨(n:Int)+(xs.map (λx:Zz=>x.z)).sum,by omega,LP A n c _ W hn (by rw[am5,hx]) hz0 (λi z hz=>?_),λhz=>?_⟩
 .rw[am7,Option.map_eq_some_iff]at hz;obtain⟨x,hxi,rfl⟩:=hz;obtain⟨g,off,hA,c0,c1,c2,c3,h0,_,hQ,_⟩:=hq i x hxi;exact⟨g,off,_,_,_,_,_,_,_,_,hA,c0,c1,c2,c3,hQ⟩
 .have hle:∀(i:Nat) (x:Zz),xs[i]?=some x->x.z<=1048576:=λi x hxi=>by
   have h1:=kK (zs:=xs.map (λx:Zz=>x.z)) (k:=i) (z:=x.z) (by rw[am7,hxi];rfl);have h2:=sM hz0 (i+1);have h3:=sN (zs:=(xs.map (λx:Zz=>x.z)).take i) (λj z hz=>hz0 j z (by rw[anh]at hz;split at hz<;>simp_all));omega
  obtain⟨es,hel,he⟩:=ql (α:=Ed) n (Q:=λi e=>∃x,xs[i]?=some x/\e.kd=x.a/\e.vl=x.b/\RI W (.slice x.P x.m x.pc) e.ins/\RI W (.slice x.Q x.l x.qc) e.outs) (λi hi=>by
   obtain⟨x,hxi⟩:∃x,xs[i]?=some x:=⟨_,am0 (by omega)⟩;obtain⟨g,off,hA,c0,c1,c2,c3,h0,_,hQ,hk⟩:=hq i x hxi;obtain⟨⟨u,hu⟩,⟨u',hu'⟩⟩:=hk (hle i x hxi);exact⟨⟨x.a,x.b,u,u'⟩,x,hxi,rfl,rfl,hu,hu'⟩)
  have htot:∀k,k<=n->bP EE (es.take k)=2*(k:Int)+((xs.map (λx:Zz=>x.z)).take k).sum:=λk=>by
   induction k with
   |zero=>intro _;simp[bP]
   |succ k ih=>
    intro hk;obtain⟨e,hei⟩:∃e,es[k]?=some e:=⟨_,am0 (by omega)⟩;obtain⟨x,hxi,_,_,⟨P,pc,e1,_⟩,⟨Q,qc,e2,_⟩⟩:=he k e hei;obtain⟨g,off,hA,c0,c1,c2,c3,h0,hsum,_⟩:=hq k x hxi;rw[dL EE hei,kK (z:=x.z) (by rw[am7,hxi];rfl),ih (by omega)];injection e1 with _ e1 _;injection e2 with _ e2 _;show _+(2+((e.ins.length:Int)+(e.outs.length:Int)))=_
    push_cast
    omega
  refine⟨es,⟨A,c,by rw[hel],by omega,λj e hj=>?_⟩,?_⟩
  .obtain⟨x,hxi,h1,h2,h3,h4⟩:=he j e hj;obtain⟨g,off,hA,c0,c1,c2,c3,_⟩:=hq j x hxi;refine⟨g,off,ZV e (.slice x.P x.m x.pc) (.slice x.Q x.l x.qc),hA,λi u hi=>?_,⟨_,_,rfl,h3,h4⟩⟩;rcases i with _|_|_|_|i
   .injection hi with hi;subst hi;rw[h1];exact c0
   .injection hi with hi;subst hi;rw[h2];exact c1
   .injection hi with hi;subst hi;exact c2
   .injection hi with hi;subst hi;exact c3
   .simp[ZV]at hi
  .have:=htot n (amX _);rw[ann (by omega),ann (by rw[am5];omega)]at this;omega
theorem G7{α:Type}{cs:Array α}(h:cs.size=4):∃c0 c1 c2 c3,cs= #[c0,c1,c2,c3]:=by
 obtain⟨l⟩:=cs
 match l,h with
 |[c0,c1,c2,c3],_=>exact⟨c0,c1,c2,c3,rfl⟩
theorem I5{enc:TypeId×Value->H}{b0:Nat}{r:Reach}{d:DataW H}{p:List MemPlace}(hv:Value.okWide prog W r b0 25 v)
 (h:DataW.Trod enc prog W base sp hd 25 v d p):∃(c0 c1 c2 c3:Value) (z:Int),v=.agg #[c0,c1,c2,c3]/\0<=z/\QS 4 W (.agg #[c0,c1,c2,c3]) z/\(z<=1048576->∃(x:Gr) (v0 v1 v2:Value),c0=.int .i64 x.aI/\c1=v0/\c2=v1/\c3=v2/\JP W v0 v1 v2 x):=by
 obtain⟨cs,rfl,hsz,hf⟩:=Dx Tryz.underlying25 (by kernel_rfl) (by kernel_rfl) hv h;obtain⟨c0,c1,c2,c3,rfl⟩:=G7 (hsz.trans (by rfl));obtain⟨_,_,h0⟩:=hf 0 _ _ rfl rfl;obtain⟨_,_,h1⟩:=hf 1 _ _ rfl rfl;obtain⟨_,_,h2⟩:=hf 2 _ _ rfl rfl;obtain⟨_,_,h3⟩:=hf 3 _ _ rfl rfl;obtain⟨e0,j0,_,_⟩:=DataW.trod_int Tryz.underlying3 h0;injection j0 with j0;subst j0;obtain⟨z0,n0,q0,k0⟩:=Gv h1;obtain⟨z1,n1,q1,k1⟩:=Ad h2;obtain⟨z2,n2,q2,k2⟩:=Ad h3;refine⟨_,_,_,_,z0+z1+z2,rfl,by omega,LM _ _ _ _ z0 z1 z2 W q0 n0 q1 n1 q2 n2,λhz=>?_⟩;obtain⟨x0,r0⟩:=k0 (by omega);obtain⟨x1,r1⟩:=k1 (by omega);obtain⟨x2,r2⟩:=k2 (by omega);exact⟨⟨e0,x0,x1,x2⟩,_,_,_,rfl,rfl,rfl,rfl,r0,r1,r2⟩
end Go.Proofs.YtekcehkhdjoffaaGreatDoor
