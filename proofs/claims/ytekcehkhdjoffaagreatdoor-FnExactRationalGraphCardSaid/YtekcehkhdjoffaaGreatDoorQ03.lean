/- Lemmas and walks on terms over rational functions: Linear algebra: unit rows beside an elimination .. -/
import Derived.Test.YtekcehkhdjoffaaGreatDoorQ02
import Derived.Laws.EntriesVeiled
import Derived.Deep.Cut
import Derived.Deep.RegionLaw
import Derived.Shelf.Abstract
import Derived.Deep.LoopGhost
import Derived.BigRegion
namespace Go.Proofs.YtekcehkhdjoffaaGreatDoor
open List(range)
open List(replicate)
open _root_.Go.Proofs.Tryz(prog)
set_option maxRecDepth 100000
set_option maxHeartbeats 8000000
set_option linter.all false
variable{e:Ed}{f p x:Int}{rows:List (List Int)}{es:List Ed}{l v:List Int}{bs:List Nat}{B G H R Z c ca g i j k n r t xa xp xr:Nat}{A:Option Addr}{K α:Type}{v0 v1 v2:Value}{w w':World}
section
variable {K : Type}
def Ops.unit(O:Ops K)(s i:Nat):List K:=(replicate s O.z).set i O.o
theorem pJ(O:Ops K)(s i:Nat):(O.unit s i).length=s:=by unfold Ops.unit;rw[anj,anD]
theorem Sv(F:aL K)(s i:Nat):F.el (replicate s F.z) i=F.z:=by unfold Ops.el;rw[am6,anH];split<;>rfl
theorem qR(F:aL K){s:Nat}(hi:i<s)(j:Nat):F.el (F.unit s i) j=if j=i then F.o else F.z:=by
 unfold Ops.unit;rw[kV];by_cases e:i=j
 .rw[amY ⟨e,by rw[anD];omega⟩,amY e.symm]
 .rw[amZ λq=>e q.1,amZ λq=>e q.symm,Sv]
theorem sK(F:aL K)(a b:List K)(j:Nat):F.el (a++b) j=if j<a.length then F.el a j else F.el b (j-a.length):=by unfold Ops.el;rw[am6,aoj];split<;>rw[am6]
theorem Vt(F:aL K)(a:List K)(n j:Nat):F.el (a.drop n) j=F.el a (n+j):=by unfold Ops.el;rw[am6,anB,am6]
def Ops.beside(O:Ops K)(rows:List (List K)):List (List K):=rows.mapIdx λi r=>r++O.unit rows.length i
theorem kX(O:Ops K)(rows:List (List K)):(O.beside rows).length=rows.length:=by simp[Ops.beside]
theorem kJ(O:Ops K)(rows:List (List K))(i:Nat):(O.beside rows)[i]?=(rows[i]?).map λr=>r++O.unit rows.length i:=by unfold Ops.beside;rw[aoK]
theorem gW{O:Ops K}{rows:List (List K)}(h:aZ n rows):aZ (n+rows.length) (O.beside rows):=λv hv=>by
 obtain⟨i,hi⟩:=anc hv;rw[kJ]at hi;cases hr:rows[i]? with
 |none=>rw[hr]at hi;cases hi
 |some r=>rw[hr]at hi;injection hi with hi;rw[<-hi,am9,pJ,h r (am1 hr)]
def Ops.l6(O:Ops K)(n:Nat)(rows:List (List K)):List (List K):=((O.red n 0 0 (O.beside rows)).1.drop (O.red n 0 0 (O.beside rows)).2).map (List.drop n)
def Ops.tr(O:Ops K)(n:Nat)(rows:List (List K)):List (Nat->K):=(range n).map λj i=>O.el (rows.getD i []) j
theorem GX{F:aL K}{rows:List (List K)}(hw:aZ n rows){v:Nat->K}(hv:Sp F (F.fns (F.beside rows)) v):(∀j,n+rows.length<=j->v j=F.z)/\∀j,j<n->v j=F.bS rows.length λi=>F.mul (F.el (rows.getD i []) j) (v (n+i)):=by
 refine hv (λv=>(∀j,n+rows.length<=j->v j=F.z)/\∀j,j<n->v j=F.bS rows.length λi=>F.mul (F.el (rows.getD i []) j) (v (n+i))) ⟨λ_ _=>rfl,λj _=>(F.iQ λi _=>F.bf _).symm⟩ ?_;rintro u ⟨h1,h2⟩ r hr c;obtain⟨z,hz,rfl⟩:=am3.1 hr;obtain⟨i,hi⟩:=anc hz;rw[kJ]at hi;cases nI:rows[i]? with
 |none=>rw[nI]at hi;cases hi
 |some r=>
  rw[nI]at hi;injection hi with hi;have hrl:=hw r (am1 nI);have hil:=(am2.1 nI).1;have hzl:z.length=n+rows.length:=by rw[<-hi,am9,pJ,hrl]
  refine⟨λj hj=>?_,λj hj=>?_⟩
  .show F.add (u j) (F.mul c (F.el z j))=F.z;rw[h1 j hj,Ops.eH _ (by omega),F.bf,F.bG]
  .have e0:F.el z j=F.el r j:=by rw[<-hi,sK,amY (by omega)]
   show F.add (u j) (F.mul c (F.el z j))=F.bS rows.length λi=>F.mul (F.el (rows.getD i []) j) (F.add (u (n+i)) (F.mul c (F.el z (n+i))))
   rw[h2 j hj,e0]
   symm
   refine F.pO (p:=i) ?_ hil λt ht hne=>?_
   .rw[show F.el z (n+i)=F.o by rw[<-hi,sK,amZ (by omega),hrl,apx,qR F hil,amY rfl],F.fO,F.distrib,F.mul_comm _ c,show rows.getD i []=r by rw[am6,nI];rfl]
   .rw[show F.el z (n+t)=F.z by rw[<-hi,sK,amZ (by omega),hrl,apx,qR F hil,amZ hne],F.bf,F.d_]
theorem N_{F:aL K}{rows:List (List K)}(hw:aZ n rows){v:Nat->K}(h1:∀j,n+rows.length<=j->v j=F.z)(h2:∀j,j<n->v j=F.bS rows.length λi=>F.mul (F.el (rows.getD i []) j) (v (n+i))):Sp F (F.fns (F.beside rows)) v:=by
 have hs:Sp F (F.fns (F.beside rows)) (λj=>F.bS rows.length λi=>F.vs (v (n+i)) (F.fn ((F.beside rows).getD i [])) j):=by
  refine Sp.bS (g:=λi=>F.vs (v (n+i)) (F.fn ((F.beside rows).getD i []))) λi hi=>Sp.smul (Sp.mem (am3.2 ⟨_,?_,rfl⟩)) _
  rw[am6,am0 (show i<(F.beside rows).length by rw[kX];exact hi)];exact anO _
 have hz:∀i,i<rows.length->(F.beside rows).getD i []=rows.getD i []++F.unit rows.length i/\(rows.getD i []).length=n:=λi hi=>by rw[am6,kJ,am0 hi,am6,am0 hi];exact⟨rfl,hw _ (anO _)⟩
 have e:v=λj=>F.bS rows.length λi=>F.vs (v (n+i)) (F.fn ((F.beside rows).getD i [])) j:=funext λj=>by
  by_cases hj:j<n
  .rw[h2 j hj];refine F.bK λi hi=>?_
   show _=F.mul (v (n+i)) (F.el ((F.beside rows).getD i []) j);rw[(hz i hi).1,sK,amY (by rw[(hz i hi).2];exact hj),F.mul_comm]
  .by_cases hj2:j<n+rows.length
   .rw[F.uX (p:=j-n) (by omega) λi hi hne=>by
     show F.mul (v (n+i)) (F.el ((F.beside rows).getD i []) j)=F.z;rw[(hz i hi).1,sK,amZ (by rw[(hz i hi).2];exact hj),(hz i hi).2,qR F hi,amZ (by omega),F.bf]]
    show _=F.mul (v (n+(j-n))) (F.el ((F.beside rows).getD (j-n) []) j);rw[(hz (j-n) (by omega)).1,sK,amZ (by rw[(hz (j-n) (by omega)).2];exact hj),(hz (j-n) (by omega)).2,qR F (by omega),amY rfl,F.fO,show n+(j-n)=j by omega]
   .rw[h1 j (by omega),F.iQ λi hi=>?_];show F.mul _ (F.el ((F.beside rows).getD i []) j)=F.z;rw[Ops.eH _ (by rw[(hz i hi).1,am9,pJ,(hz i hi).2];omega),F.bf]
 rw[e];exact hs
theorem Nc{F:aL K}{rows:List (List K)}(hw:aZ n rows)(k:Nat->K):Sp F (F.fns (F.l6 n rows)) k↔mE F rows.length (F.tr n rows) k:=by
 obtain⟨P,hE,hW⟩:=jI.red (F:=F) n 0 0 (F.beside rows) [] (gW hw) (jI.start F _);rw[anE]at hE;have hsp:=tF (F:=F) n 0 0 (F.beside rows) (gW hw);have hk:F.fns (F.l6 n rows)=(F.fns ((F.red n 0 0 (F.beside rows)).1.drop (F.red n 0 0 (F.beside rows)).2)).map λv j=>v (n+j):=by
  unfold Ops.l6 Ops.fns;rw[anr,anr];refine anF λv _=>funext λj=>?_
  exact Vt F v n j
 constructor
 .refine mE.sp λq hq=>?_
  rw[hk]at hq;obtain⟨u,hu,rfl⟩:=am3.1 hq;obtain⟨z,hz,rfl⟩:=am3.1 hu;have hz1:=aoi hz;obtain⟨h1,h2⟩:=GX hw ((hsp _).1 (Sp.mem (am3.2 ⟨z,hz1,rfl⟩)));refine⟨λj hj=>h1 _ (by omega),λa ha=>?_⟩;obtain⟨j,hj,rfl⟩:=am3.1 ha;rw[an8]at hj;have:=h2 j hj;unfold aL.dot;rw[<-this];obtain⟨i,hi⟩:=anc hz;rw[anB]at hi;exact hE.low _ z (by omega) hi j hj
 .intro abY;have hv:Sp F (F.fns (F.beside rows)) (λj=>if j<n then F.z else k (j-n)):=by
   refine N_ hw (λj hj=>?_) λj hj=>?_
   .rw[amZ (by omega)];exact abY.1 _ (by omega)
   .rw[amY hj];have:=abY.2 _ (am3.2 ⟨j,an8.2 hj,rfl⟩);rw[<-this];refine F.bK λi _=>?_
    rw[amZ (by omega),apx]
  have hl:=hE.QL ((hsp _).2 hv) λj hj=>by rw[amY hj]
  have:=hl.map (φ:=λv j=>v (n+j)) rfl λu r c=>rfl
  rw[hk];refine Eq.mp (congrArg _ (funext λj=>?_)) this;show(if n+j<n then F.z else k (n+j-n))=k j;rw[amZ (by omega),apx]
end
section
variable {K : Type}
theorem mU{O:Ops K}(n:Nat)(R:List (List K)):aZ n (O.j4 n R):=by
 have:∀(m j t:Nat),aZ n (O.bR n R m j t):=by
  intro m
  induction m with
  |zero=>intro j t v hv;cases hv
  |succ m ih=>
   intro j t v hv;rw[Ops.bR]at hv;split at hv
   .exact ih _ _ v hv
   .rcases ani.1 hv with e|hv
    .rw[e];exact mR O n R j
    .exact ih _ _ v hv
 exact this n 0 0
theorem Q9{F:aL K}{rows:List (List K)}(hw:aZ n rows):aZ rows.length (F.l6 n rows):=λv hv=>by obtain⟨P,_,hW⟩:=jI.red (F:=F) n 0 0 (F.beside rows) [] (gW hw) (jI.start F _);obtain⟨z,hz,rfl⟩:=am3.1 hv;rw[anp,hW z (aoi hz)];omega
variable {A : Type} {O : Ops K} {O' : Ops A} {f : K -> A}
theorem iN.aav(h:iN O O' f)(n:Nat):replicate n O'.z=(replicate n O.z).map f:=by rw[List.map_replicate,h.z]
theorem iN.unit(h:iN O O' f)(s i:Nat):O'.unit s i=(O.unit s i).map f:=by unfold Ops.unit;rw[h.aav,h.o,anZ]
theorem iN.beside(h:iN O O' f)(rows:List (List K)):O'.beside (dh f rows)=dh f (O.beside rows):=by
 unfold Ops.beside;refine anG λi=>?_
 rw[aoK,am7,am7,aoK,Option.map_map,Option.map_map,am5];congr 1;funext v;show v.map f++O'.unit _ _=(v++O.unit _ _).map f;rw[h.unit,anQ]
theorem iN.l6(h:iN O O' f)(n:Nat)(rows:List (List K)):O'.l6 n (dh f rows)=dh f (O.l6 n rows):=by unfold Ops.l6;rw[h.beside,h.red];show List.map _ (List.drop _ (List.map _ _))=List.map _ (List.map _ _);rw[<-List.map_drop,anr,anr];exact anF λv _=>List.map_drop.symm
theorem iN.h_(h:iN O O' f)(j:Nat):∀(R:List (List K)) (v:List K),O'.h_ (dh f R) j (v.map f)=(O.h_ R j v).map f
 |[],_=>rfl
 |r::R,v=>by show O'.h_ (dh f R) j ((v.map f).set (O'.lead (r.map f)) (O'.neg (O'.el (r.map f) j)))=(O.h_ R j (v.set (O.lead r) (O.neg (O.el r j)))).map f;rw[h.lead,h.el,h.neg,<-anZ,iN.h_ h j R]
theorem iN.fK(h:iN O O' f)(s:Nat)(R:List (List K))(j:Nat):O'.fK s (dh f R) j=(O.fK s R j).map f:=by unfold Ops.fK;rw[h.aav,h.o,<-anZ,h.h_]
theorem iN.bR(h:iN O O' f)(s:Nat)(R:List (List K)):∀(m j t:Nat),O'.bR s (dh f R) m j t=dh f (O.bR s R m j t)
 |0,_,_=>rfl
 |m+1,j,t=>by rw[Ops.bR,Ops.bR,uo,h.lead,am5,iN.bR h s R m,iN.bR h s R m,h.fK];split<;>rfl
theorem iN.j4(h:iN O O' f)(s:Nat)(R:List (List K)):O'.j4 s (dh f R)=dh f (O.j4 s R):=h.bR s R s 0 0
end
def aA(p:Int):Ops Int:=⟨λa b=>(a+b)%p,λa b=>a*b%p,λa=>(-a)%p,λa=>bO p a,0,1,λa=>decide (a=0)⟩
theorem oh(hp:0<p)(a:Int):fe p (a%p)=true:=by simp[fe];exact⟨anV _ (by omega),anW _ hp⟩
theorem Gz{a:Int}(h:fe p a=true):0<=a/\a<p:=by simpa[fe]using h
theorem QG{a:Int}(h:fe p a=true):a%p=a:=anX (Gz h).1 (Gz h).2
def aD(p:Int)(hF:aj p=true):aL {a:Int // fe p a=true} where
 add x y:=⟨(x.1+y.1)%p,oh (by have:=au hF;omega) _⟩
 mul x y:=⟨x.1*y.1%p,oh (by have:=au hF;omega) _⟩
 neg x:=⟨(-x.1)%p,oh (by have:=au hF;omega) _⟩
 inv x:=⟨bO p x.1,by have:=jL (p:=p) x.1 (au hF);simp[fe];exact this⟩
 z:=⟨0,by have:=au hF;simp[fe];omega⟩
 o:=⟨1,by have:=au hF;simp[fe];omega⟩
 jq x:=decide (x.1=0)
 add_comm x y:=ano (by show(x.1+y.1)%p=(y.1+x.1)%p;rw[Int.add_comm])
 add_assoc x y z:=ano (by
  show((x.1+y.1)%p+z.1)%p=(x.1+(y.1+z.1)%p)%p;rw[Int.emod_add_emod,Int.add_emod_emod,Int.add_assoc])
 bG x:=ano (by show(0+x.1)%p=x.1;rw[aoC];exact QG x.2)
 neg_add x:=ano (by
  show((-x.1)%p+x.1)%p=0;rw[Int.emod_add_emod,Int.add_left_neg];rfl)
 mul_comm x y:=ano (by show x.1*y.1%p=y.1*x.1%p;rw[aot])
 mul_assoc x y z:=ano (by
  show(x.1*y.1%p)*z.1%p=x.1*(y.1*z.1%p)%p;rw[anT,aok,<-anT,anT x.1 (y.1*z.1%p),aok,<-anT,aol])
 bB x:=ano (by show 1*x.1%p=x.1;rw[Int.one_mul];exact QG x.2)
 distrib x y z:=ano (by
  show x.1*((y.1+z.1)%p)%p=(x.1*y.1%p+x.1*z.1%p)%p;rw[anT,aok,<-anT,Int.emod_add_emod,Int.add_emod_emod,Int.mul_add])
 inv_mul x hx:=ano (by
  show bO p x.1*x.1%p=1;have h:=Gz x.2;have h0:x.1≠0:=λe=>hx (ano e)
  rw[aot];exact inv_mul hF (by omega) h.2)
 MV e:=by have:=congrArg Subtype.val e;exact absurd this (by show¬(1:Int)=0;omega)
 dZ x:=by rw[decide_eq_true_eq];exact⟨λe=>ano e,λe=>by rw[e]⟩
theorem mF(p:Int)(hF:aj p=true):iN (aD p hF).toOps (aA p) Subtype.val where
 add _ _:=rfl
 mul _ _:=rfl
 neg _:=rfl
 inv _ _:=rfl
 z:=rfl
 o:=rfl
 jq _:=rfl
section
variable {K : Type}
def Ops.wK(O:Ops K)(n:Nat)(R:List (List K)):List (List K):=((range n).filter λj=>R.all λr=>O.lead r !=j).map (O.fK n R)
def Ops.nL(O:Ops K)(n:Nat)(rows:List (List K)):List (List K):=O.aB n (O.wK n (O.aB n rows))
theorem Cj(O:Ops K)(n:Nat)(R:List (List K)):aZ n (O.wK n R):=λv hv=>by obtain⟨j,_,rfl⟩:=am3.1 hv;exact mR O n R j
theorem Cm{F:aL K}{R:List (List K)}{P:List Nat}(h:jI F R R.length n P)(hw:aZ n R)(v:List K):v∈F.wK n R↔v∈F.j4 n R:=by
 rw[qM h hw];have hP:∀i,(R.all λr=>F.lead r !=i)=true↔i∉P:=λi=>by
  rw[anl];constructor
  .intro ha hi;obtain⟨t,ht⟩:=anc hi;have hl:=(am2.1 ht).1;have hr:R[t]?=some (R[t]'(by rw[<-h.pl];exact hl)):=am0 _;obtain⟨q,hq,e,_⟩:=h.lead hw hr;rw[ht]at hq;injection hq with hq;have:=ha _ (am1 hr);rw[e,hq]at this;simp at this
  .intro hi r hr;obtain⟨t,ht⟩:=anc hr;obtain⟨q,hq,e,_⟩:=h.lead hw ht;rw[e,bne_iff_ne];exact λe2=>hi (e2▸am1 hq)
 constructor
 .intro hv;obtain⟨j,hj,rfl⟩:=am3.1 hv;obtain⟨h1,h2⟩:=List.mem_filter.1 hj;exact⟨j,an8.1 h1,(hP j).1 h2,rfl⟩
 .rintro⟨j,h1,h2,rfl⟩;exact am3.2 ⟨j,List.mem_filter.2 ⟨an8.2 h1,(hP j).2 h2⟩,rfl⟩
theorem KT{O:Ops K}{A B:List (List K)}(h:∀v,v∈A->v∈B):∀r∈O.fns A,r∈O.fns B:=λr hr=>by obtain⟨v,hv,rfl⟩:=am3.1 hr;exact am3.2 ⟨v,h v hv,rfl⟩
theorem EN(F:aL K){rows:List (List K)}(hw:aZ n rows)(k:Nat->K):Sp F (F.fns (F.nL n rows)) k↔mE F n (F.fns rows) k:=by obtain⟨h1,P,h2⟩:=iL F hw;unfold Ops.nL;rw[iT F (Cj F.toOps n _),<-mE.same (iT F hw) k,<-zC h2 h1 k];exact⟨λh=>h.sub (KT λv hv=>(Cm h2 h1 v).1 hv),λh=>h.sub (KT λv hv=>(Cm h2 h1 v).2 hv)⟩
theorem iN.wK{A:Type}{O:Ops K}{O':Ops A}{f:K->A}(h:iN O O' f)(n:Nat)(R:List (List K)):O'.wK n (dh f R)=dh f (O.wK n R):=by
 unfold Ops.wK;have e:((range n).filter λj=>(dh f R).all λr=>O'.lead r !=j)=(range n).filter λj=>R.all λr=>O.lead r !=j:=List.filter_congr λj _=>by unfold dh;rw[List.all_map];congr 1;funext r;show(O'.lead (r.map f) !=j)=_;rw[h.lead]
 rw[e];unfold dh;rw[anr];exact anF λj _=>h.fK n R j
theorem iN.nL{A:Type}{O:Ops K}{O':Ops A}{f:K->A}(h:iN O O' f)(n:Nat)(rows:List (List K)):O'.nL n (dh f rows)=dh f (O.nL n rows):=by unfold Ops.nL;rw[h.aB,h.wK,h.aB]
end
def kg:Nat->(Nat->Int)->Int
 |0,_=>0
 |n+1,f=>kg n f+f n
theorem Jg{f g:Nat->Int}:∀{n:Nat},(∀j,j<n->f j=g j)->kg n f=kg n g
 |0,_=>rfl
 |n+1,h=>by rw[kg,kg,Jg (n:=n) λj hj=>h j (by omega),h n (by omega)]
theorem FT(f:Nat->Int)(a:Nat):∀b,kg (a+b) f=kg a f+kg b λt=>f (a+t)
 |0=>by rw[anS];show _=_+0;omega
 |b+1=>by rw[<-Nat.add_assoc,kg,FT f a b,kg];omega
theorem CS(g:Nat->Int)(e:Nat):∀s,kg (s*e) g=kg s λk=>kg e λt=>g (k*e+t)
 |0=>by rw[Nat.zero_mul];rfl
 |s+1=>by rw[aos,FT,CS g e s];rfl
theorem uj(p:Int){f g:Nat->Int}:∀{n:Nat},(∀j,j<n->f j%p=g j%p)->kg n f%p=kg n g%p
 |0,_=>rfl
 |n+1,h=>by rw[kg,kg,aoV,uj p (n:=n) λj hj=>h j (by omega),h n (by omega),<-aoV]
theorem EI{p:Int}(hF:aj p=true)(f:Nat->{a:Int // fe p a=true}):∀n,((aD p hF).bS n f).1%p=kg n (λj=>(f j).1)%p
 |0=>rfl
 |n+1=>by show(((aD p hF).bS n f).1+(f n).1)%p%p=_;rw[aok,aoV,EI hF f n,<-aoV];rfl
theorem uN(f:Nat->Int)(u:Nat->Int)(n:Nat):∀e,act ((range e).map f) u n=kg e λt=>f t*(if t<=n then u (n-t)else 0)
 |0=>rfl
 |e+1=>by
  rw[List.range_succ,anQ];show act ((range e).map f++[f e]) u n=_;rw[G_,uN f u n e,kg,am5,anK];congr 1;split
  .rfl
  .rw[Int.mul_zero]
def lS(p:Int):Nat->(Nat->List Int)->List Int
 |0,_=>[]
 |n+1,f=>bL p (lS p n f) 1 (f n)
theorem PN.lS{p:Int}(hp:0<p)(f:Nat->List Int):∀n,PN p (lS p n f)
 |0=>PN.nil p
 |n+1=>(PN.lS hp f n).add hp 1 _
theorem B_{p:Int}(hp:0<p)(f:Nat->List Int)(u:Nat):∀n,cf (lS p n f) u%p=kg n (λk=>cf (f k) u)%p
 |0=>rfl
 |n+1=>by have:=(dJ hp (PN.lS hp f n) (f n)).yA u;rw[kg,aoV,<-B_ hp f u n,<-aoV];exact this
theorem Fg(hF:aj p=true)(s a L e:Nat)(R:Nat->Nat->List Int)(hR:∀k i,k<s->i<a->PN p (R k i)/\(R k i).length<=L)(hlt:a*(e+L)<s*e):
 ∃q:Nat->List Int,(∀k,PN p (q k)/\(q k).length<=e)/\(∃k,k<s/\q k≠[])/\∀i,i<a->lS p s (λk=>ax p (q k) (R k i))=[]:=by
 have hp:0<p:=by have:=au hF;omega
 have he:0<e:=by
  rcases Nat.eq_zero_or_pos e with h|h
  .rw[h,Nat.mul_zero]at hlt;omega
  .exact h
 obtain⟨x,⟨j,hj,hx⟩,hs⟩:=yo (aD p hF) (a*(e+L)) (s*e) (λidx un=>⟨(if un%e<=idx%(e+L)then cf (R (un / e) (idx / (e+L))) (idx%(e+L)-un%e)else 0)%p,oh hp _⟩) hlt;have hxe:∀j,0<=(x j).1/\(x j).1<p:=λj=>Gz (x j).2
 have hcf:∀k t,cf (trim ((range e).map λt=>(x (k*e+t)).1)) t=if t<e then(x (k*e+t)).1 else 0:=λk t=>by rw[bU,tH]
 refine⟨λk=>trim ((range e).map λt=>(x (k*e+t)).1),λk=>⟨⟨j_ (iI λi y hi=>?_),Tr.trim _⟩,anb (gD _) (by simp)⟩,⟨j / e,Nat.div_lt_of_lt_mul (by rw[aod];exact hj),λh0=>hx (ano ?_)⟩,λi hi=>?_⟩
 .obtain⟨h1,h2⟩:=am2.1 hi;rw[aor]at h2;rw[<-h2];exact hxe _
 .have h1:=hcf (j / e) (j%e);dsimp only at h0;rw[h0,amY (Nat.mod_lt _ he),aod,Nat.div_add_mod]at h1;exact h1.symm
 .refine PN.eq hp (PN.lS hp _ _) (PN.nil p) λu=>?_
  rw[iD,Int.sub_zero];refine Int.dvd_of_emod_eq_zero ?_;rw[B_ hp];by_cases hu:u<e+L
  .have heq:=hs (i*(e+L)+u) (by
    have:(i+1)*(e+L)<=a*(e+L):=an6 _ hi;rw[aos]at this;omega)
   have hv:=EI hF (λun=>(aD p hF).mul ⟨(if un%e<=(i*(e+L)+u)%(e+L)then cf (R (un / e) ((i*(e+L)+u) / (e+L))) ((i*(e+L)+u)%(e+L)-un%e)else 0)%p,oh hp _⟩ (x un)) (s*e);rw[heq]at hv;have e1:(i*(e+L)+u)%(e+L)=u:=by rw[aod,Nat.mul_add_mod];exact Nat.mod_eq_of_lt hu
   have e2:(i*(e+L)+u) / (e+L)=i:=by rw[aod,Nat.mul_add_div (by omega),Nat.div_eq_of_lt hu,anS]
   rw[e1,e2,CS]at hv;have h0:((aD p hF).z).1%p=0:=rfl;rw[h0]at hv;rw[hv];refine uj p λk hk=>?_
   rw[(aU hp _ (R k i)).yA u,(aP.JN (aP.of_eq (funext λt=>bU _ t)) (R k i)).yA u,uN];refine uj p λt ht=>?_
   have e3:(k*e+t)%e=t:=by rw[aod,Nat.mul_add_mod];exact Nat.mod_eq_of_lt ht
   have e4:(k*e+t) / e=k:=by rw[aod,Nat.mul_add_div he,Nat.div_eq_of_lt ht,anS]
   show _=((if(k*e+t)%e<=u then cf (R ((k*e+t) / e) i) (u-(k*e+t)%e)else 0)%p*(x (k*e+t)).1%p)%p;rw[e3,e4,aok,anT _ (x (k*e+t)).1,aok,<-anT,aot]
  .have:∀k,k<s->cf (ax p (trim ((range e).map λt=>(x (k*e+t)).1)) (R k i)) u%p=(0:Int)%p:=λk hk=>by
    rw[gU];have h1:=Kt p (trim ((range e).map λt=>(x (k*e+t)).1)) (R k i);have h2:(trim ((range e).map λt=>(x (k*e+t)).1)).length<=e:=anb (gD _) (by simp);have h3:=(hR k i hk hi).2;omega
   have h0:kg s (λ_=>(0:Int))=0:=by
    clear this hR hlt hs hx hj
    induction s with
    |zero=>rfl
    |succ s ih=>rw[kg,ih];rfl
   rw[uj p this,h0];rfl
open Go Go.RowKit
def pI(w:World)(A:Option Addr)(rows:List (List Int)):Prop:=
 rows.length<=1099511627776/\∀(j:Nat) (r:List Int),rows[j]?=some r->∃g off A' c,A=some ⟨g,off,none⟩/\w.cell? ⟨g,off+j,none⟩=some (.slice A' r.length c)/\Rd w A' r
theorem pI.ex(h:pI w A rows)(he:Ex w w'):pI w' A rows:=⟨h.1,λj r hj=>by
 obtain⟨g,off,A',c,hA,hc,hr⟩:=h.2 j r hj;exact⟨g,off,A',c,hA,af he hc,hr.ex he⟩⟩
theorem pI.at_(h:pI w A rows)(hk:k<rows.length):
 ∃g off A' c r,A=some ⟨g,off,none⟩/\rows[k]?=some r/\w.cell? ⟨g,off+k,none⟩=some (.slice A' r.length c)/\Rd w A' r:=by
 obtain⟨g,off,A',c,hA,hc,hr⟩:=h.2 k _ (am0 hk);exact⟨g,off,A',c,_,hA,am0 hk,hc,hr⟩
theorem zM(n:Nat):(madeCells (Value.slice none 0 0).cells (n*1))=(replicate n (Value.slice none 0 0)).toArray:=by apply Array.toList_inj.1;rw[anY];show(madeCells #[Value.slice none 0 0] n).toList=_;rw[toList_madeCells_one]
theorem mH:(prog.info? 23).map (λi=>(i.zero,i.size,i.bytes))=some (some (.slice none 0 0),1,24):=by kernel_rfl
theorem xg(n:Nat)(hn:n<=1099511627776)(w:World):
 (Instr.makeSlice 68 (.int .i64 (n:Int)) (.int .i64 (n:Int))).run prog w=.ok (.slice (some ⟨w.heap.size,0,none⟩) n n) (w.alloc (.cells (replicate n (Value.slice none 0 0)).toArray 23)):=by
 obtain⟨i,hi,hz,hs,hb⟩:=anA mH;have hr:=run_make (P:=prog) w 68 23 i (.slice none 0 0) Tryz.underlying68 hi hz .i64 .i64 n n (by omega) (by omega) (by rw[hb];omega) (by omega);simp only[aoJ,hs]at hr;rw[zM]at hr;exact hr
section
section
variable {K : Type}
def Ops.eU(O:Ops K)(n:Nat)(M:List (List K)):List (List K):=O.aB n (O.j4 n (O.aB n M))
theorem kI(F:aL K){M:List (List K)}(hw:aZ n M)(v:Nat->K):Sp F (F.fns (F.eU n M)) v↔mE F n (F.fns M) v:=by obtain⟨RJ,P,hE⟩:=iL F hw;unfold Ops.eU;rw[iT F (mU n _),zC hE RJ,mE.same (iT F hw)]
theorem yg(F:aL K){M:List (List K)}:jZ F n (F.eU n M):=iL F (mU n _)
theorem nY(F:aL K){G M:List (List K)}(wG:aZ n G)(wM:aZ n M)(h:∀v,Sp F (F.fns G) v↔mE F n (F.fns M) v):F.aB n G=F.eU n M:=
 lF (iL F wG) (yg F) λv=>by rw[iT F wG,kI F wM,h v]
theorem Dn(F:aL K){g:List K}{v:Nat->K}(c:K)(h:∀j,v j=F.mul c (F.el g j)):Sp F (F.fns [g]) v:=by have:v=F.vs c (F.fn g):=funext h;rw[this];exact Sp.smul (Sp.mem (am3.2 ⟨g,by simp,rfl⟩)) c
theorem O9(F:aL K){g k:List K}{v:Nat->K}(c d:K)(h:∀j,v j=F.add (F.mul c (F.el g j)) (F.mul d (F.el k j))):Sp F (F.fns [g,k]) v:=by have:v=F.va (F.vs c (F.fn g)) (F.vs d (F.fn k)):=funext h;rw[this];exact(Sp.smul (Sp.mem (am3.2 ⟨g,by simp,rfl⟩)) c).add (Sp.smul (Sp.mem (am3.2 ⟨k,by simp,rfl⟩)) d)
theorem aco(F:aL K)(a v:Nat->K):F.dot 1 a v=F.mul (a 0) (v 0):=F.bG _
theorem SH(F:aL K)(a v:Nat->K):F.dot 2 a v=F.add (F.mul (a 0) (v 0)) (F.mul (a 1) (v 1)):=by show F.add (F.dot 1 a v) _=_;rw[aco]
theorem NU(F:aL K)(a v:Nat->K):F.dot 3 a v=F.add (F.add (F.mul (a 0) (v 0)) (F.mul (a 1) (v 1))) (F.mul (a 2) (v 2)):=by show F.add (F.dot 2 a v) _=_;rw[SH]
theorem sub_eq(F:aL K){a b:K}:F.add a (F.neg b)=F.z↔a=b:=
 ⟨λh=>by rw[F.lY h,F.neg_neg],λh=>by rw[h,F.add_neg]⟩
theorem gG(F:aL K){M:List (List K)}{v:Nat->K}:mE F n (F.fns M) v↔(∀j,n<=j->v j=F.z)/\∀r∈M,F.dot n (F.fn r) v=F.z:=by refine⟨λh=>⟨h.1,λr hr=>h.2 _ (am3.2 ⟨r,hr,rfl⟩)⟩,λh=>⟨h.1,λa ha=>?_⟩⟩;obtain⟨r,hr,rfl⟩:=am3.1 ha;exact h.2 r hr
theorem rY(F:aL K){G M:List (List K)}(hg:∀g∈G,mE F n (F.fns M) (F.fn g)){v:Nat->K}(h:Sp F (F.fns G) v):mE F n (F.fns M) v:=mE.sp (λr hr=>by
 obtain⟨g,hg',rfl⟩:=am3.1 hr;exact hg g hg') h
theorem iC(F:aL K)(a:K)(l:List K)(j:Nat):F.el (a::l) (j+1)=F.el l j:=rfl
theorem qZ(F:aL K)(a:K)(l:List K):F.el (a::l) 0=a:=rfl
theorem NT(F:aL K)(j:Nat):F.el ([]:List K) j=F.z:=by unfold Ops.el;simp
theorem FP(F:aL K):F.aB 1 [[F.o]]=F.eU 1 []:=nY F (λv hv=>by simp at hv;rw[hv];rfl) (λv hv=>by simp at hv) λv=>by
 refine⟨rY F λg hg=>?_,λh=>?_⟩
 .rw[gG];refine⟨λj hj=>?_,λr hr=>by simp at hr⟩;rw[ank.1 hg];exact Ops.eH _ (by simpa using hj)
 .refine Dn F (v 0) λj=>?_
  rcases j with _|j
  .rw[qZ,F.fO]
  .rw[iC,NT,F.bf];exact h.1 _ (by omega)
theorem CO(F:aL K):F.aB 1 []=F.eU 1 [[F.o]]:=nY F (λv hv=>by simp at hv) (λv hv=>by simp at hv;rw[hv];rfl) λv=>by
 refine⟨rY F λg hg=>by simp at hg,λh=>?_⟩;have h2:=(gG F).1 h;have:v=F.vz:=funext λj=>by
  rcases j with _|j
  .have:=h2.2 [F.o] (by simp);rw[aco]at this;have e:F.mul F.o (v 0)=F.z:=this;rwa[F.bB]at e
  .exact h.1 _ (by omega)
 rw[this];exact Sp.zero F _
theorem FO(F:aL K)(a:K):F.aB 2 [[F.o,a]]=F.eU 2 [[F.neg a,F.o]]:=nY F (λv hv=>by simp at hv;rw[hv];rfl) (λv hv=>by simp at hv;rw[hv];rfl) λv=>by
 refine⟨rY F λg hg=>?_,λh=>?_⟩
 .rw[gG];rw[ank.1 hg];refine⟨λj hj=>Ops.eH _ (by simpa using hj),λr hr=>?_⟩;rw[ank.1 hr,SH];show F.add (F.mul (F.neg a) F.o) (F.mul F.o a)=F.z;rw[F.fO,F.bB,F.neg_add]
 .have h2:=((gG F).1 h).2 _ (ank.2 rfl);rw[SH]at h2;have e:F.add (F.mul (F.neg a) (v 0)) (F.mul F.o (v 1))=F.z:=h2;rw[F.bB,F.neg_mul,F.add_comm,sub_eq]at e;refine Dn F (v 0) λj=>?_
  rcases j with _|_|j
  .rw[qZ,F.fO]
  .rw[iC,qZ,e,F.mul_comm]
  .rw[iC,iC,NT,F.bf];exact h.1 _ (by omega)
theorem zO(F:aL K)(a:K):F.aB 2 [[a,F.o]]=F.eU 2 [[F.o,F.neg a]]:=nY F (λv hv=>by simp at hv;rw[hv];rfl) (λv hv=>by simp at hv;rw[hv];rfl) λv=>by
 refine⟨rY F λg hg=>?_,λh=>?_⟩
 .rw[gG];rw[ank.1 hg];refine⟨λj hj=>Ops.eH _ (by simpa using hj),λr hr=>?_⟩;rw[ank.1 hr,SH];show F.add (F.mul F.o a) (F.mul (F.neg a) F.o)=F.z;rw[F.fO,F.bB,F.add_neg]
 .have h2:=((gG F).1 h).2 _ (ank.2 rfl);rw[SH]at h2;have e:F.add (F.mul F.o (v 0)) (F.mul (F.neg a) (v 1))=F.z:=h2;rw[F.bB,F.neg_mul,sub_eq]at e;refine Dn F (v 1) λj=>?_
  rcases j with _|_|j
  .rw[qZ,e,F.mul_comm]
  .rw[iC,qZ,F.fO]
  .rw[iC,iC,NT,F.bf];exact h.1 _ (by omega)
theorem CP(F:aL K){M:List (List K)}(wM:aZ 3 M)(hM:∀v:Nat->K,(∀r∈M,F.dot 3 (F.fn r) v=F.z)↔v 0=v 1/\v 0=v 2):F.aB 3 [[F.o,F.o,F.o]]=F.eU 3 M:=nY F (λv hv=>by simp at hv;rw[hv];rfl) wM λv=>by
 refine⟨rY F λg hg=>?_,λh=>?_⟩
 .rw[gG];rw[ank.1 hg];exact⟨λj hj=>Ops.eH _ (by simpa using hj),(hM _).2 ⟨rfl,rfl⟩⟩
 .obtain⟨e1,e2⟩:=(hM v).1 ((gG F).1 h).2;refine Dn F (v 0) λj=>?_
  rcases j with _|_|_|j
  .rw[qZ,F.fO]
  .rw[iC,qZ,F.fO,e1]
  .rw[iC,iC,qZ,F.fO,e2]
  .rw[iC,iC,iC,NT,F.bf];exact h.1 _ (by omega)
theorem S9(F:aL K)(v:Nat->K):(∀r∈[[F.neg F.o,F.o,F.z],[F.neg F.o,F.z,F.o]],F.dot 3 (F.fn r) v=F.z)↔v 0=v 1/\v 0=v 2:=by
 have a1:F.dot 3 (F.fn [F.neg F.o,F.o,F.z]) v=F.add (F.neg (v 0)) (v 1):=by rw[NU];show F.add (F.add (F.mul (F.neg F.o) (v 0)) (F.mul F.o (v 1))) (F.mul F.z (v 2))=_;rw[F.iF,F.d_,F.neg_mul,F.bB,F.bB]
 have a2:F.dot 3 (F.fn [F.neg F.o,F.z,F.o]) v=F.add (F.neg (v 0)) (v 2):=by rw[NU];show F.add (F.add (F.mul (F.neg F.o) (v 0)) (F.mul F.z (v 1))) (F.mul F.o (v 2))=_;rw[F.iF,F.d_,F.neg_mul,F.bB,F.bB]
 simp only[ani,anC,or_false,forall_eq_or_imp,forall_eq,a1,a2];rw[F.add_comm,sub_eq,F.add_comm,sub_eq];exact⟨λh=>⟨h.1.symm,h.2.symm⟩,λh=>⟨h.1.symm,h.2.symm⟩⟩
theorem JJ(F:aL K)(v:Nat->K):(∀r∈[[F.o,F.z,F.neg F.o],[F.z,F.o,F.neg F.o]],F.dot 3 (F.fn r) v=F.z)↔v 0=v 1/\v 0=v 2:=by
 have a1:F.dot 3 (F.fn [F.o,F.z,F.neg F.o]) v=F.add (v 0) (F.neg (v 2)):=by rw[NU];show F.add (F.add (F.mul F.o (v 0)) (F.mul F.z (v 1))) (F.mul (F.neg F.o) (v 2))=_;rw[F.iF,F.d_,F.neg_mul,F.bB,F.bB]
 have a2:F.dot 3 (F.fn [F.z,F.o,F.neg F.o]) v=F.add (v 1) (F.neg (v 2)):=by rw[NU];show F.add (F.add (F.mul F.z (v 0)) (F.mul F.o (v 1))) (F.mul (F.neg F.o) (v 2))=_;rw[F.iF,F.bG,F.neg_mul,F.bB,F.bB]
 simp only[ani,anC,or_false,forall_eq_or_imp,forall_eq,a1,a2];rw[sub_eq,sub_eq];exact⟨λh=>⟨h.1.trans h.2.symm,h.1⟩,λh=>⟨h.2,h.1.symm.trans h.2⟩⟩
theorem QO(F:aL K):F.aB 3 [[F.o,F.z,F.o],[F.z,F.o,F.o]]=F.eU 3 [[F.neg F.o,F.neg F.o,F.o]]:=nY F (λv hv=>by simp at hv;rcases hv with rfl|rfl<;>rfl) (λv hv=>by simp at hv;rw[hv];rfl) λv=>by
 have a1:∀v:Nat->K,F.dot 3 (F.fn [F.neg F.o,F.neg F.o,F.o]) v=F.add (v 2) (F.neg (F.add (v 0) (v 1))):=λv=>by rw[NU];show F.add (F.add (F.mul (F.neg F.o) (v 0)) (F.mul (F.neg F.o) (v 1))) (F.mul F.o (v 2))=_;rw[F.bB,<-F.distrib,F.neg_mul,F.bB,F.add_comm]
 refine⟨rY F λg hg=>?_,λh=>?_⟩
 .rw[gG];refine⟨λj hj=>Ops.eH _ (by simp at hg;rcases hg with rfl|rfl<;>simpa using hj),λr hr=>?_⟩;rw[ank.1 hr,a1,sub_eq];simp at hg;rcases hg with rfl|rfl
  .exact(F.d_ _).symm
  .exact(F.bG _).symm
 .have e:=((gG F).1 h).2 _ (ank.2 rfl);rw[a1,sub_eq]at e;refine O9 F (v 0) (v 1) λj=>?_
  rcases j with _|_|_|j
  .rw[qZ,qZ,F.fO,F.bf,F.d_]
  .rw[iC,iC,qZ,qZ,F.fO,F.bf,F.bG]
  .show v 2=F.add (F.mul (v 0) F.o) (F.mul (v 1) F.o);rw[F.fO,F.fO,e]
  .rw[iC,iC,iC,iC,iC,iC,NT,F.bf,F.bf,F.d_];exact h.1 _ (by omega)
theorem Jb(F:aL K):F.aB 3 [[F.o,F.o,F.z],[F.o,F.z,F.o]]=F.eU 3 [[F.o,F.neg F.o,F.neg F.o]]:=nY F (λv hv=>by simp at hv;rcases hv with rfl|rfl<;>rfl) (λv hv=>by simp at hv;rw[hv];rfl) λv=>by
 have a1:∀v:Nat->K,F.dot 3 (F.fn [F.o,F.neg F.o,F.neg F.o]) v=F.add (v 0) (F.neg (F.add (v 1) (v 2))):=λv=>by rw[NU];show F.add (F.add (F.mul F.o (v 0)) (F.mul (F.neg F.o) (v 1))) (F.mul (F.neg F.o) (v 2))=_;rw[F.bB,F.add_assoc,<-F.distrib,F.neg_mul,F.bB]
 refine⟨rY F λg hg=>?_,λh=>?_⟩
 .rw[gG];refine⟨λj hj=>Ops.eH _ (by simp at hg;rcases hg with rfl|rfl<;>simpa using hj),λr hr=>?_⟩;rw[ank.1 hr,a1,sub_eq];simp at hg;rcases hg with rfl|rfl
  .exact(F.d_ _).symm
  .exact(F.bG _).symm
 .have e:=((gG F).1 h).2 _ (ank.2 rfl);rw[a1,sub_eq]at e;refine O9 F (v 1) (v 2) λj=>?_
  rcases j with _|_|_|j
  .show v 0=F.add (F.mul (v 1) F.o) (F.mul (v 2) F.o);rw[F.fO,F.fO,e]
  .rw[iC,iC,qZ,qZ,F.fO,F.bf,F.d_]
  .rw[iC,iC,iC,iC,qZ,qZ,F.fO,F.bf,F.bG]
  .rw[iC,iC,iC,iC,iC,iC,NT,F.bf,F.bf,F.d_];exact h.1 _ (by omega)
end
end
section
section
variable {K : Type}
def Ops.kY(O:Ops K)(E:List Nat)(v:List K):List K:=E.map (O.el v)
theorem yC(O:Ops K)(E:List Nat)(v:List K):(O.kY E v).length=E.length:=by unfold Ops.kY;rw[am5]
theorem Zb(F:aL K)(E:List Nat)(v:List K)(j:Nat):F.el (F.kY E v) j=if j<E.length then F.el v (E.getD j 0)else F.z:=by
 unfold Ops.kY;by_cases h:j<E.length
 .rw[amY h,Ops.bT F.toOps (by rw[am7,am0 h];rfl),am6,am0 h];rfl
 .rw[amZ h,Ops.eH _ (by rw[am5];omega)]
theorem Oa{O:Ops K}{v:List K}(h:v.length=n):O.kY (range n) v=v:=by
 subst h;unfold Ops.kY;refine aoB (by simp) λj h1 h2=>?_
 rw[aor,aoW];exact Ops.bT O (am0 h2)
def Ops.KA(O:Ops K)(W:Nat)(E:List Nat)(M:List (List K)):List (List K):=O.aB E.length ((O.eU W M).map (O.kY E))
theorem CQ(F:aL K){M:List (List K)}:F.KA n (range n) M=F.eU n M:=by
 have h1:(F.eU n M).map (F.kY (range n))=F.eU n M:=by refine(anF λv hv=>?_).trans (List.map_id _);exact Oa ((yg F).1 v hv)
 unfold Ops.KA;rw[h1,anK];exact u_ (yg F)
def nQ(F:aL K)(E:List Nat)(v:Nat->K):Nat->K:=λj=>if j<E.length then v (E.getD j 0)else F.z
def Ops.Nn(O:Ops K)(n:Nat):List (List K):=(range n).map λi=>O.unit n i++O.unit n i
theorem Jh(F:aL K)(hi:i<n)(j:Nat):F.el (F.unit n i++F.unit n i) j=if j=i∨j=n+i then F.o else F.z:=by
 rw[sK,pJ,qR F hi,qR F hi];by_cases h:j<n
 .rw[amY h];by_cases e:j=i
  .rw[amY e,amY (.inl e)]
  .rw[amZ e,amZ (by omega)]
 .rw[amZ h];by_cases e:j=n+i
  .rw[amY (by omega),amY (.inr e)]
  .rw[amZ (by omega),amZ (by omega)]
theorem Ji(O:Ops K){v:List K}(h:(O.Nn n)[i]?=some v):i<n/\v=O.unit n i++O.unit n i:=by
 unfold Ops.Nn at h;rw[am7]at h;by_cases hi:i<n
 .rw[List.getElem?_range hi]at h;injection h with h;exact⟨hi,h.symm⟩
 .rw[anz (by simp;omega)]at h;cases h
theorem Ye(F:aL K)(n:Nat):jZ F (n+n) (F.Nn n):=by
 have hl:(F.Nn n).length=n:=by simp[Ops.Nn]
 have hp:∀(i p:Nat),(range n)[i]?=some p->p=i:=λi p h=>by have:=(am2.1 h).2;rw[aoW]at this;exact this.symm
 refine⟨λv hv=>?_,range n,by rw[hl,anK],amX _,List.pairwise_lt_range,λp hp=>by have:=an8.1 hp;omega,λi p v h1 h2=>?_,λi i' p v h1 h2 hne=>?_,λi p v h1 h2 j hj=>?_,λi v h1 h2=>?_⟩
 .obtain⟨i,_,rfl⟩:=am3.1 hv;rw[am9,pJ]
 .obtain⟨hi,rfl⟩:=Ji _ h2;rw[hp i p h1,Jh F hi,amY (.inl rfl)]
 .obtain⟨hi,rfl⟩:=Ji _ h2;have hin:i<n:=by have:=(am2.1 h1).1;simpa using this
  rw[hp i p h1,Jh F hi,amZ (by omega)]
 .obtain⟨hi,rfl⟩:=Ji _ h2;rw[hp i p h1]at hj;rw[Jh F hi,amZ (by omega)]
 .have:=(am2.1 h2).1;omega
end
end
def LIo(w:World)(xs:List Int)(e:Ending)(w':World):Prop:=∃v,e=.returned v/\OI w' w.heap.size w'.heap.size v xs/\Ex w w'
def Uk(n:Nat):List Int:=(range n).map Int.ofNat
theorem OT(h:i<n):(Uk n)[i]?=some (i:Int):=by simp[Uk,h]
theorem OQ(k:Nat):Uk (k+1)=Uk k++[(k:Int)]:=by simp[Uk,List.range_succ]
theorem Tz:(prog.info? 4).map (λi=>(i.zero,i.size,i.bytes))=some (some (.bool false),1,1):=by kernel_rfl
def lC(bs:List Bool):Array Value:=(bs.map Value.bool).toArray
theorem yR(n:Nat)(hn:n<=1099511627776)(w:World):
 (Instr.makeSlice 102 (.int .i64 (n:Int)) (.int .i64 (n:Int))).run prog w=.ok (.slice (some ⟨w.heap.size,0,none⟩) n n) (w.alloc (.cells (lC (replicate n false)) 4)):=by
 obtain⟨i,hi,hz,hs,hb⟩:=anA Tz;have hr:=run_make (P:=prog) w 102 4 i _ Tryz.underlying102 hi hz .i64 .i64 n n (by omega) (by omega) (by rw[hb];omega) (by omega);simp only[aoJ,hs]at hr;rw[hr];have e:madeCells (Value.bool false).cells (n*1)=lC (replicate n false):=by apply Array.toList_inj.1;rw[anY];show(madeCells #[Value.bool false] n).toList=_;rw[toList_madeCells_one];simp[lC]
 rw[e]
theorem VB.acv{bs:List Bool}(h:VB w g 4 (lC bs)){b:Bool}(hi:bs[i]?=some b):w.cell? ⟨g,i,none⟩=some (.bool b):=h.cell i (by simp[lC,hi])
theorem VB.afL{bs:List Bool}(h:VB w g 4 (lC bs))(i:Nat)(b:Bool):VB (w.setCell ⟨g,i,none⟩ (.bool b)) g 4 (lC (bs.set i b)):=by
 have:=h.aX i (.bool b);have e:(lC bs).setIfInBounds i (.bool b)=lC (bs.set i b):=by unfold lC;rw[List.setIfInBounds_toArray,anZ]
 rwa[e]at this
structure Gr where
 aI:Int
 es:List Ed
 ins:List Int
 outs:List Int
def JP(w:World)(v0 v1 v2:Value)(x:Gr):Prop:=RE w v0 x.es/\RI w v1 x.ins/\RI w v2 x.outs
def wE(x:Gr):Int:=yI x.es+dQ x.ins+dQ x.outs
def aef(k:Int)(x:Gr):Gr:=⟨x.aI,A_ (k) x.es,I9 (k+yI x.es) x.ins,I9 (k+yI x.es+dQ x.ins) x.outs⟩
theorem OY(x:Gr):0<=wE x:=by unfold wE;have h0:=JY x.es;have h1:=eX x.ins;have h2:=eX x.outs;omega
theorem JP.ex{x:Gr}(h:JP w v0 v1 v2 x)(he:Ex w w'):JP w' v0 v1 v2 x:=by obtain⟨h0,h1,h2⟩:=h;exact⟨h0.ex he,h1.ex he,h2.ex he⟩
theorem JP.tot{x:Gr}(h:JP w v0 v1 v2 x):wE x<=3377699720527872:=by obtain⟨h0,h1,h2⟩:=h;have t0:=h0.tot;have t1:=h1.tot;have t2:=h2.tot;unfold wE;omega
theorem JP.form{x:Gr}(h:JP w v0 v1 v2 x):∃A0 n0 c0 A1 n1 c1 A2 n2 c2,v0=.slice A0 n0 c0/\v1=.slice A1 n1 c1/\v2=.slice A2 n2 c2:=by obtain⟨h0,h1,h2⟩:=h;obtain⟨A0,n0,c0,e0⟩:=h0.form;obtain⟨A1,n1,c1,e1⟩:=h1.form;obtain⟨A2,n2,c2,e2⟩:=h2.form;exact⟨A0,n0,c0,A1,n1,c1,A2,n2,c2,e0,e1,e2⟩
def Xe(w:World)(lo hi:Nat)(v0 v1 v2:Value)(x:Gr):Prop:=∃(a0 b0 a1 b1 a2 b2:Nat),OE w a0 b0 v0 x.es/\OI w a1 b1 v1 x.ins/\OI w a2 b2 v2 x.outs/\lo<=a0/\b0<=hi/\lo<=a1/\b1<=hi/\lo<=a2/\b2<=hi/\(b0<=a1∨b1<=a0)/\(b0<=a2∨b2<=a0)/\(b1<=a2∨b2<=a1)
theorem Xe.rd{lo hi:Nat}{x:Gr}(h:Xe w lo hi v0 v1 v2 x):JP w v0 v1 v2 x:=by obtain⟨a0,b0,a1,b1,a2,b2,m0,m1,m2,c0,c1,c2,c3,c4,c5,c6,c7,c8⟩:=h;exact⟨m0.rd,m1.rd,m2.rd⟩
theorem Xe.ex{lo hi:Nat}{x:Gr}(h:Xe w lo hi v0 v1 v2 x)(he:Ex w w'):Xe w' lo hi v0 v1 v2 x:=by obtain⟨a0,b0,a1,b1,a2,b2,m0,m1,m2,c0,c1,c2,c3,c4,c5,c6,c7,c8⟩:=h;exact⟨a0,b0,a1,b1,a2,b2,m0.ex he,m1.ex he,m2.ex he,c0,c1,c2,c3,c4,c5,c6,c7,c8⟩
theorem LM(c0 v0 v1 v2:Value)(z0 z1 z2:Int)(w:World)(q0:QS 13 w v0 z0)(n0:0<=z0)(q1:QS 14 w v1 z1)(n1:0<=z1)(q2:QS 14 w v2 z2)(n2:0<=z2):QS 4 w (.agg #[c0,v0,v1,v2]) (z0+z1+z2):=by
 intro u l hx h0 hl;obtain⟨x0,d0⟩:=VB.xn u 25 #[c0,v0,v1,v2];go_enter Tryz.func4,Tryz.ntmps4
 go_wp2_with fail
 generalize u.alloc (.cells #[c0,v0,v1,v2] 25)=W0 at*;have hs:=q0 W0 (l) (hx.trans x0) (by omega) (by omega);by_cases g0:l<z0
 .rw[amY g0]at hs;refine hs.mono ?_;clear hs;rintro e W1 ⟨rfl,x1⟩;go_wp2;go_ret;exact⟨by first|rfl|(rw[amY (by omega)];rfl),x0.trans x1⟩
 rw[amZ g0]at hs;refine hs.mono ?_;clear hs;rintro e W1 ⟨rfl,x1⟩;replace x0:=x0.trans x1;replace d0:=d0.ex x1;clear x1;have y:=d0.c2;go_wp2_with fail
 clear y;have hs:=q1 W1 (l-z0) (hx.trans x0) (by omega) (by omega);by_cases g1:l-z0<z1
 .rw[amY g1]at hs;refine hs.mono ?_;clear hs;rintro e W2 ⟨rfl,x1⟩;go_wp2;go_ret;exact⟨by first|rfl|(rw[amY (by omega)];rfl),x0.trans x1⟩
 rw[amZ g1]at hs;refine hs.mono ?_;clear hs;rintro e W2 ⟨rfl,x1⟩;replace x0:=x0.trans x1;replace d0:=d0.ex x1;clear x1;have y:=d0.c3;go_wp2_with fail
 clear y;have hs:=q2 W2 (l-z0-z1) (hx.trans x0) (by omega) (by omega);by_cases g2:l-z0-z1<z2
 .rw[amY g2]at hs;refine hs.mono ?_;clear hs;rintro e W3 ⟨rfl,x1⟩;go_wp2;go_ret;exact⟨by first|rfl|(rw[amY (by omega)];rfl),x0.trans x1⟩
 rw[amZ g2]at hs;refine hs.mono ?_;clear hs;rintro e W3 ⟨rfl,x1⟩;replace x0:=x0.trans x1;replace d0:=d0.ex x1;clear x1;have HE:=amW (show(if l<z0+z1+z2 then(-1:Int)else l-(z0+z1+z2))=l-z0-z1-z2 by rw[amZ (by omega)];omega);have HF:=amW (show l-(z0+z1+z2)=l-z0-z1-z2 by omega);go_wp2;go_ret;exact⟨by first|(rw[HE.out];rfl)|(rw[HF.out];rfl)|rfl,x0⟩
theorem toGraph_u(x:Gr)(v0 v1 v2:Value)(w:World)(h:JP w v0 v1 v2 x):
 Calls prog 6 #[.agg #[.int .i64 x.aI,v0,v1,v2]] w λe w'=>∃y0 y1 y2,e=.returned (.agg #[.int .i64 x.aI,y0,y1,y2])/\Xe w' w.heap.size w'.heap.size y0 y1 y2 x/\Ex w w':=by
 obtain⟨aI,x0,x1,x2⟩:=x;obtain⟨h0,h1,h2⟩:=h;dsimp only at h0 h1 h2⊢;obtain⟨y0,d0⟩:=VB.xn w 25 #[.int .i64 aI,v0,v1,v2];have S0:=amW (show(w.alloc (.cells #[.int .i64 aI,v0,v1,v2] 25)).heap.size=w.heap.size+1 by simp);go_enter Tryz.func6,Tryz.ntmps6
 go_wp2_with fail
 generalize w.alloc (.cells #[.int .i64 aI,v0,v1,v2] 25)=W0 at*;obtain⟨y1,d1⟩:=VB.xn W0 34 #[.int .i64 0,.slice none 0 0,.slice none 0 0,.slice none 0 0];rw[S0.out]at d1;have S1:=amW (show(W0.alloc (.cells #[.int .i64 0,.slice none 0 0,.slice none 0 0,.slice none 0 0] 34)).heap.size=w.heap.size+1+1 by simp;exact S0.out);generalize W0.alloc (.cells #[.int .i64 0,.slice none 0 0,.slice none 0 0,.slice none 0 0] 34)=W1 at*;obtain⟨y2,d2⟩:=VB.xn W1 34 #[.int .i64 aI,.slice none 0 0,.slice none 0 0,.slice none 0 0];rw[S1.out]at d2;have S2:=amW (show(W1.alloc (.cells #[.int .i64 aI,.slice none 0 0,.slice none 0 0,.slice none 0 0] 34)).heap.size=w.heap.size+1+1+1 by simp;exact S1.out);generalize W1.alloc (.cells #[.int .i64 aI,.slice none 0 0,.slice none 0 0,.slice none 0 0] 34)=W2 at*;have xx:=(y0.trans y1).trans y2;have dA:=(d0.ex y1).ex y2;have dB:=d1.ex y2;have dC:=d2;have sz:w.heap.size+1+1+1<=W2.heap.size:=aoh S2.out.symm;clear d0 d1 d2 y0 y1 y2 S0 S1 S2;refine(toEdgeS_u x0 v0 W2 (h0.ex xx)).mono ?_;rintro e u0 ⟨y0,rfl,m0,z0⟩;obtain⟨Y0,N0,C0,rfl⟩:=m0.rd.form;have tz0:=z0.size;replace dA:=dA.ex z0;replace dB:=dB.ex z0;replace dC:=dC.ex z0;replace xx:=xx.trans z0;have sz0:=sz;replace sz:=anb sz z0.size;have q0:=dA.c2;have q1:=dC.c1;have q2:=dC.frozen 1;go_wp2_with fail
 clear q0 q1 q2;have p1:aJ (w.heap.size+1+1) u0 (u0.setCell ⟨w.heap.size+1+1,1,none⟩ (.slice Y0 N0 C0)):=(aJ.refl _ _).setCell rfl _;replace dC:VB (u0.setCell ⟨w.heap.size+1+1,1,none⟩ (.slice Y0 N0 C0)) (w.heap.size+1+1) 34 #[.int .i64 aI,.slice Y0 N0 C0,.slice none 0 0,.slice none 0 0]:=dC.aX 1 _;replace dA:=dA.aM p1 (by omega);replace dB:=dB.aM p1 (by omega);replace m0:=m0.e1 p1 (by omega);replace sz:=anb sz p1.size;have tp0:=p1.size;replace xx:=xx.aM p1 (by omega);clear p1 z0;generalize(u0.setCell ⟨w.heap.size+1+1,1,none⟩ (.slice Y0 N0 C0))=V0 at*;refine(toIntS_u x1 v1 V0 (h1.ex xx)).mono ?_;rintro e u1 ⟨y1,rfl,m1,z1⟩;obtain⟨Y1,N1,C1,rfl⟩:=m1.rd.form;have tz1:=z1.size;replace m0:=m0.ex z1;replace dA:=dA.ex z1;replace dB:=dB.ex z1;replace dC:=dC.ex z1;replace xx:=xx.trans z1;have sz1:=sz;replace sz:=anb sz z1.size;have q0:=dA.c3;have q1:=dC.c2;have q2:=dC.frozen 2;go_wp2_with fail
 clear q0 q1 q2;have p1:aJ (w.heap.size+1+1) u1 (u1.setCell ⟨w.heap.size+1+1,2,none⟩ (.slice Y1 N1 C1)):=(aJ.refl _ _).setCell rfl _;replace dC:VB (u1.setCell ⟨w.heap.size+1+1,2,none⟩ (.slice Y1 N1 C1)) (w.heap.size+1+1) 34 #[.int .i64 aI,.slice Y0 N0 C0,.slice Y1 N1 C1,.slice none 0 0]:=dC.aX 2 _;replace dA:=dA.aM p1 (by omega);replace dB:=dB.aM p1 (by omega);replace m0:=m0.e1 p1 (by omega);replace m1:=m1.e1 p1 (by omega);replace sz:=anb sz p1.size;have tp1:=p1.size;replace xx:=xx.aM p1 (by omega);clear p1 z1;generalize(u1.setCell ⟨w.heap.size+1+1,2,none⟩ (.slice Y1 N1 C1))=V1 at*;refine(toIntS_u x2 v2 V1 (h2.ex xx)).mono ?_;rintro e u2 ⟨y2,rfl,m2,z2⟩;obtain⟨Y2,N2,C2,rfl⟩:=m2.rd.form;have tz2:=z2.size;replace m0:=m0.ex z2;replace m1:=m1.ex z2;replace dA:=dA.ex z2;replace dB:=dB.ex z2;replace dC:=dC.ex z2;replace xx:=xx.trans z2;have sz2:=sz;replace sz:=anb sz z2.size;have q1:=dC.c3;have q2:=dC.frozen 3;obtain⟨r0,r1,r2⟩:=dC.d3;have t0:=dB.c0;have s0:=dB.frozen 0;have t1:=dB.c1;have s1:=dB.frozen 1;have t2:=dB.c2;have s2:=dB.frozen 2;have t3:=dB.c3;have s3:=dB.frozen 3;go_wp2_with fail
 clear q1 q2 r0 r1 r2 t0 s0 t1 s1 t2 s2 t3 s3;have p1:aJ (w.heap.size+1+1) u2 (u2.setCell ⟨w.heap.size+1+1,3,none⟩ (.slice Y2 N2 C2)):=(aJ.refl _ _).setCell rfl _;replace dC:VB (u2.setCell ⟨w.heap.size+1+1,3,none⟩ (.slice Y2 N2 C2)) (w.heap.size+1+1) 34 #[.int .i64 aI,.slice Y0 N0 C0,.slice Y1 N1 C1,.slice Y2 N2 C2]:=dC.aX 3 _;replace dA:=dA.aM p1 (by omega);replace dB:=dB.aM p1 (by omega);replace m0:=m0.e1 p1 (by omega);replace m1:=m1.e1 p1 (by omega);replace m2:=m2.e1 p1 (by omega);replace sz:=anb sz p1.size;have tp2:=p1.size;replace xx:=xx.aM p1 (by omega);clear p1 z2;generalize(u2.setCell ⟨w.heap.size+1+1,3,none⟩ (.slice Y2 N2 C2))=V2 at*;have p1:aJ (w.heap.size+1) V2 ((((V2.setCell ⟨w.heap.size+1,0,none⟩ (.int .i64 aI)).setCell ⟨w.heap.size+1,1,none⟩ (.slice Y0 N0 C0)).setCell ⟨w.heap.size+1,2,none⟩ (.slice Y1 N1 C1)).setCell ⟨w.heap.size+1,3,none⟩ (.slice Y2 N2 C2)):=((((aJ.refl (w.heap.size+1) V2).setCell (p:=⟨w.heap.size+1,0,none⟩) rfl _).setCell (p:=⟨w.heap.size+1,1,none⟩) rfl _).setCell (p:=⟨w.heap.size+1,2,none⟩) rfl _).setCell (p:=⟨w.heap.size+1,3,none⟩) rfl _;replace dB:VB ((((V2.setCell ⟨w.heap.size+1,0,none⟩ (.int .i64 aI)).setCell ⟨w.heap.size+1,1,none⟩ (.slice Y0 N0 C0)).setCell ⟨w.heap.size+1,2,none⟩ (.slice Y1 N1 C1)).setCell ⟨w.heap.size+1,3,none⟩ (.slice Y2 N2 C2)) (w.heap.size+1) 34 #[.int .i64 aI,.slice Y0 N0 C0,.slice Y1 N1 C1,.slice Y2 N2 C2]:=((((dB.aX 0 _).aX 1 _).aX 2 _).aX 3 _);replace m0:=m0.e1 p1 (by omega);replace m1:=m1.e1 p1 (by omega);replace m2:=m2.e1 p1 (by omega);replace xx:=xx.aM p1 (by omega);have tq:=p1.size;clear p1;generalize((((V2.setCell ⟨w.heap.size+1,0,none⟩ (.int .i64 aI)).setCell ⟨w.heap.size+1,1,none⟩ (.slice Y0 N0 C0)).setCell ⟨w.heap.size+1,2,none⟩ (.slice Y1 N1 C1)).setCell ⟨w.heap.size+1,3,none⟩ (.slice Y2 N2 C2))=VE at*;obtain⟨c0,c1,c2,c3⟩:=dB.d4;refine ane (v:=.agg #[.int .i64 aI,.slice Y0 N0 C0,.slice Y1 N1 C1,.slice Y2 N2 C2]) (by simp[results,Tryz.results6,go_sem,c0,c1,c2,c3]) rfl ?_;exact⟨_,_,_,rfl,⟨W2.heap.size,u0.heap.size,V0.heap.size,u1.heap.size,V1.heap.size,u2.heap.size,m0,m1,m2,by omega,by omega,by omega,by omega,by omega,by omega,by omega,by omega,by omega⟩,xx⟩
theorem NR(x:Gr)(v0 v1 v2 u0 u1 u2:Value)(w:World)(h:JP w v0 v1 v2 x)(h':JP w u0 u1 u2 x):
 Calls prog 9 #[.agg #[.int .i64 x.aI,v0,v1,v2],.agg #[.int .i64 x.aI,u0,u1,u2]] w λe w'=>e=.returned (.bool true)/\Ex w w':=by
 obtain⟨aI,x0,x1,x2⟩:=x;obtain⟨h0,h1,h2⟩:=h;obtain⟨g0,g1,g2⟩:=h';dsimp only at h0 g0 h1 g1 h2 g2⊢;obtain⟨x1,d1⟩:=VB.xn w 34 #[.int .i64 aI,v0,v1,v2];have S1:=amW (show(w.alloc (.cells #[.int .i64 aI,v0,v1,v2] 34)).heap.size=w.heap.size+1 by simp);go_enter Tryz.func9,Tryz.ntmps9
 go_wp2_with fail
 generalize w.alloc (.cells #[.int .i64 aI,v0,v1,v2] 34)=W1 at*;obtain⟨y2,d2⟩:=VB.xn W1 34 #[.int .i64 aI,u0,u1,u2];rw[S1.out]at d2;generalize W1.alloc (.cells #[.int .i64 aI,u0,u1,u2] 34)=V0 at*;have xx:=x1.trans y2;have dA:=d1.ex y2;have dB:=d2;clear x1 d1 d2 y2 S1;refine(NS x0 v0 u0 V0 (h0.ex xx) (g0.ex xx)).mono ?_;rintro e V1 ⟨rfl,z0⟩;replace dA:=dA.ex z0;replace dB:=dB.ex z0;replace xx:=xx.trans z0;have q0:=dA.c2;have q1:=dB.c2;go_wp2_with fail
 clear q0 q1;refine(nu x1 v1 u1 V1 (h1.ex xx) (g1.ex xx)).mono ?_;rintro e V2 ⟨rfl,z1⟩;replace dA:=dA.ex z1;replace dB:=dB.ex z1;replace xx:=xx.trans z1;have q0:=dA.c3;have q1:=dB.c3;go_wp2_with fail
 clear q0 q1;refine(nu x2 v2 u2 V2 (h2.ex xx) (g2.ex xx)).mono ?_;rintro e V3 ⟨rfl,z2⟩;replace dA:=dA.ex z2;replace dB:=dB.ex z2;replace xx:=xx.trans z2;go_wp2;go_ret;exact⟨rfl,xx⟩
theorem FK(lo hi:Nat)(x:Gr)(v0 v1 v2:Value)(k:Int)(w:World)(h:Xe w lo hi v0 v1 v2 x)(hb:hi<=w.heap.size)(hk0:0<=k)(hk:k+wE x<=4611686018427387904):
 Calls prog 10 #[.agg #[.int .i64 x.aI,v0,v1,v2],.int .i64 k] w λe w'=>e=.returned (.int .i64 (k+wE x))/\Xe w' lo hi v0 v1 v2 (aef k x)/\fD lo hi w w':=by
 obtain⟨aI,x0,x1,x2⟩:=x;obtain⟨a0,b0,a1,b1,a2,b2,m0,m1,m2,c0,c1,c2,c3,c4,c5,c6,c7,c8⟩:=h;dsimp only at m0 m1 m2⊢;have t0:=JY x0;have t1:=eX x1;have t2:=eX x2;have ek:k+wE ⟨aI,x0,x1,x2⟩=k+yI x0+dQ x1+dQ x2:=by simp only[wE];omega
 rw[ek]at hk⊢;clear ek;obtain⟨xe,d0⟩:=VB.xn w 34 #[.int .i64 aI,v0,v1,v2];have dl:=d0.lt;go_enter Tryz.func10,Tryz.ntmps10
 go_wp2_with fail
 generalize w.alloc (.cells #[.int .i64 aI,v0,v1,v2] 34)=W0 at*;replace m0:=m0.ex xe;replace m1:=m1.ex xe;replace m2:=m2.ex xe;have zz:=xe.size;have ee:=fD.aN (a:=lo) (b:=hi) xe;clear xe;refine(FM a0 b0 x0 v0 (k) W0 m0 (by omega) (by omega) (by omega)).mono ?_;clear m0;rintro e u0 ⟨rfl,m0,z0⟩;replace m1:=m1.iv z0 (by omega);replace m2:=m2.iv z0 (by omega);replace d0:=d0.iv z0 (by omega);replace ee:=ee.trans (z0.widen (by omega) (by omega));replace zz:=anb zz z0.size;clear z0;have q:=d0.c2;go_wp2_with fail
 clear q;refine(kQ a1 b1 x1 v1 (k+yI x0) u0 m1 (by omega) (by omega) (by omega)).mono ?_;clear m1;rintro e u1 ⟨rfl,m1,z1⟩;replace m0:=m0.iv z1 (by omega);replace m2:=m2.iv z1 (by omega);replace d0:=d0.iv z1 (by omega);replace ee:=ee.trans (z1.widen (by omega) (by omega));replace zz:=anb zz z1.size;clear z1;have q:=d0.c3;go_wp2_with fail
 clear q;refine(kQ a2 b2 x2 v2 (k+yI x0+dQ x1) u1 m2 (by omega) (by omega) (by omega)).mono ?_;clear m2;rintro e u2 ⟨rfl,m2,z2⟩;replace m0:=m0.iv z2 (by omega);replace m1:=m1.iv z2 (by omega);replace d0:=d0.iv z2 (by omega);replace ee:=ee.trans (z2.widen (by omega) (by omega));replace zz:=anb zz z2.size;clear z2;go_wp2;go_ret;exact⟨rfl,⟨a0,b0,a1,b1,a2,b2,m0,m1,m2,c0,c1,c2,c3,c4,c5,c6,c7,c8⟩,ee⟩
def gw(k:Int):Int×Int:=if k=3∨k=11 then(1,2)else if k=4∨k=12 then(1,0)else if k=5∨k=9 then(2,1)else if k=6∨k=10 then(0,1)else(1,1)
def Eo(kd vl:Int):Bool:=if kd=7∨kd=13 then bN 0 96 vl else decide (vl=0)
def OC(kd vl:Int)(ni no:Nat):Bool:=bN 3 14 kd&&Eo kd vl&&decide ((gw kd).1=ni)&&decide ((gw kd).2=no)
theorem kinds{k:Int}(h:bN 3 14 k=true):k=3∨k=4∨k=5∨k=6∨k=7∨k=8∨k=9∨k=10∨k=11∨k=12∨k=13∨k=14:=by simp[bN]at h;omega
theorem jE(k:Int)(h:bN 3 14 k=true)(w:World):Calls prog 116 #[.int .i64 k] w λe w'=>e=.returned (.agg #[.int .i64 (gw k).1,.int .i64 (gw k).2])/\Ex w w':=by
 rcases kinds h with rfl|rfl|rfl|rfl|rfl|rfl|rfl|rfl|rfl|rfl|rfl|rfl
 all_goals
  clear h;go_enter Tryz.func116,Tryz.ntmps116
  go_wp2;refine ane (v:=.agg #[.int .i64 _,.int .i64 _]) (by simp[results,Tryz.results116,go_sem];exact⟨rfl,rfl⟩) rfl ?_;exact⟨rfl,by first|exact(((asF w).alloc _).alloc _).alloc _|exact((asF w).alloc _).alloc _⟩
theorem sI(k:Int)(w:World):Calls prog 53 #[.int .i64 k] w λe w'=>e=.returned (.bool (decide (k=7∨k=13)))/\w=w':=by
 go_enter Tryz.func53,Tryz.ntmps53
 go_wp2
 all_goals go_ret
 all_goals exact⟨aG (by simp_all<;>(by_cases h13:k=13<;>simp_all)),rfl⟩
theorem BD(k:Int)(w:World):Calls prog 114 #[.int .i64 k] w λe w'=>e=.returned (.bool (bN 3 14 k))/\w=w':=by
 go_enter Tryz.func114,Tryz.ntmps114
 go_wp2_with (go_at_call 54;refine(gK _ _ _ _).mono ?_;rintro e w' ⟨rfl,rfl⟩)
 go_ret;exact⟨rfl,rfl⟩
theorem sG(k v:Int)(w:World):Calls prog 115 #[.int .i64 k,.int .i64 v] w λe w'=>e=.returned (.bool (Eo k v))/\w=w':=by
 by_cases h:k=7∨k=13
 .have H:=amW (show Eo k v=bN 0 96 v from amY h);have hh:=sI k w;rw[decide_eq_true h]at hh;clear h;go_enter Tryz.func115,Tryz.ntmps115
  go_wp2_with (first|(go_at_call 53;refine hh.mono ?_;rintro e w' ⟨rfl,rfl⟩)|(go_at_call 54;refine(gK _ _ _ _).mono ?_;rintro e w' ⟨rfl,rfl⟩))
  all_goals go_ret
  all_goals exact⟨aG (by rw[H.out]),rfl⟩
 .have H:=amW (show Eo k v=decide (v=0)from amZ h);have hh:=sI k w;rw[decide_eq_false h]at hh;clear h;go_enter Tryz.func115,Tryz.ntmps115
  go_wp2_with (first|(go_at_call 53;refine hh.mono ?_;rintro e w' ⟨rfl,rfl⟩))
  all_goals go_ret
  all_goals exact⟨aG (by rw[H.out];first|rfl|simp_all),rfl⟩
theorem O3(k:Int)(h:bN 3 14 k=true)(w:World):Calls prog 104 #[.int .i64 k] w λe w'=>e=.returned (.tuple #[.int .i64 (gw k).1,.int .i64 (gw k).2])/\Ex w w':=by
 rcases kinds h with rfl|rfl|rfl|rfl|rfl|rfl|rfl|rfl|rfl|rfl|rfl|rfl
 all_goals
  clear h;go_enter Tryz.func104,Tryz.ntmps104
  go_wp2
  go_ret2
  exact⟨rfl,asF w⟩
structure IM (w:World) (G n:Nat) (bs:List Nat) (rows:List (List Int)):Prop where
 out:∃cur:Array Value,w.heap[G]?=some (.cells cur 23 (0,0))/\∀(j b:Nat),bs[j]?=some b->∃c,n<=c/\cur[j]?=some (.slice (some ⟨b,0,none⟩) n c)
 len:bs.length=rows.length
 row:∀(j b:Nat) (r:List Int),bs[j]?=some b->rows[j]?=some r->Own w b r/\r.length=n
 nd:∀(i j b:Nat),bs[i]?=some b->bs[j]?=some b->i=j
 ng:∀(j b:Nat),bs[j]?=some b->b≠G
theorem IM.lt(h:IM w G n bs rows):G<w.heap.size:=by obtain⟨_,h,_⟩:=h.out;exact aC h
theorem IM.frozen(h:IM w G n bs rows)(i:Nat):w.frozen? ⟨G,i,none⟩=false:=by obtain⟨cur,hc,_⟩:=h.out;simp[World.frozen?,hc]
theorem IM.at_(h:IM w G n bs rows)(hj:j<rows.length):∃b r c,n<=c/\bs[j]?=some b/\rows[j]?=some r/\r.length=n/\Own w b r/\b≠G/\w.cell? ⟨G,j,none⟩=some (.slice (some ⟨b,0,none⟩) n c):=by obtain⟨b,hb⟩:∃b,bs[j]?=some b:=⟨_,am0 (by rw[h.len];exact hj)⟩;obtain⟨r,hr⟩:∃r,rows[j]?=some r:=⟨_,am0 hj⟩;obtain⟨cur,hc,hx⟩:=h.out;obtain⟨c,hnc,hcc⟩:=hx j b hb;obtain⟨h1,h2⟩:=h.row j b r hb hr;exact⟨b,r,c,hnc,hb,hr,h2,h1,h.ng j b hb,by simp[World.cell?,hc,hcc]⟩
theorem IM.keep(h:IM w G n bs rows)(k:∀q,q<w.heap.size->(q=G∨∃j:Nat,bs[j]?=some q)->w'.heap[q]?=w.heap[q]?):IM w' G n bs rows:=by have hl:=h.lt;obtain⟨cur,hc,hx⟩:=h.out;refine⟨⟨cur,(k G hl (.inl rfl)).trans hc,hx⟩,h.len,λj b r h1 h2=>?_,h.nd,h.ng⟩;obtain⟨⟨cu,q1,q2⟩,q3⟩:=h.row j b r h1 h2;exact⟨⟨cu,(k b (aC q1) (.inr ⟨j,h1⟩)).trans q1,q2⟩,q3⟩
theorem IM.ex(h:IM w G n bs rows)(k:Ex w w'):IM w' G n bs rows:=h.keep λ_ hq _=>k.block hq
theorem IM.turn(h:IM w G n bs rows){b:Nat}(hi:bs[i]?=some b){r':List Int}(hr:Own w' b r')(hl:r'.length=n)(k:aJ b w w'):IM w' G n bs (rows.set i r'):=by
 have hgl:=h.lt;have hgb:=h.ng i b hi;have hil:=(am2.1 hi).1;obtain⟨cur,hc,hx⟩:=h.out;refine⟨⟨cur,(k.block G hgl (by intro e;injection e with e;exact hgb e.symm)).trans hc,hx⟩,by rw[anj];exact h.len,λj b' r h1 h2=>?_,h.nd,h.ng⟩;rw[ang]at h2;by_cases e:i=j
 .subst e;rw[amY rfl,amY (by rw[<-h.len];exact hil)]at h2;injection h2 with h2;subst h2;rw[hi]at h1;injection h1 with h1;subst h1;exact⟨hr,hl⟩
 .rw[amZ e]at h2;obtain⟨⟨cu,q1,q2⟩,q3⟩:=h.row j b' r h1 h2;exact⟨⟨cu,(k.block b' (aC q1) (by intro e2;injection e2 with e2;subst e2;exact e (h.nd i j b' hi h1))).trans q1,q2⟩,q3⟩
theorem IM.swap(h:IM w G n bs rows){bi bk ci ck:Nat}{ri rk:List Int}(hi:bs[i]?=some bi)(hk:bs[k]?=some bk)(nI:rows[i]?=some ri)(hrk:rows[k]?=some rk)(hci:n<=ci)(hck:n<=ck):
 IM ((w.setCell ⟨G,i,none⟩ (.slice (some ⟨bk,0,none⟩) n ck)).setCell ⟨G,k,none⟩ (.slice (some ⟨bi,0,none⟩) n ci)) G n ((bs.set i bk).set k bi) ((rows.set i rk).set k ri):=by
 have hil:=(am2.1 hi).1;have hkl:=(am2.1 hk).1;have kx:aJ G w ((w.setCell ⟨G,i,none⟩ (.slice (some ⟨bk,0,none⟩) n ck)).setCell ⟨G,k,none⟩ (.slice (some ⟨bi,0,none⟩) n ci)):=((aJ.refl G w).setCell (p:=⟨G,i,none⟩) rfl _).setCell (p:=⟨G,k,none⟩) rfl _;have at2:∀{α:Type} (l:List α) (a b:α) (j:Nat) (x:α),i<l.length->k<l.length->((l.set i a).set k b)[j]?=some x->(j=k/\x=b)∨(j≠k/\j=i/\x=a)∨(j≠k/\j≠i/\l[j]?=some x):=by
  intro α l a b j x h1 h2 h3;rw[ang]at h3;split at h3
  .rename_i e;rw[amY (by rw[anj];omega)]at h3;injection h3 with h3;exact .inl ⟨e.symm,h3.symm⟩
  .rename_i e;rw[ang]at h3;split at h3
   .rename_i e2
    try rw[amY (by omega)]at h3
    injection h3 with h3;exact .inr (.inl ⟨λe3=>e e3.symm,e2.symm,h3.symm⟩)
   .rename_i e2;exact .inr (.inr ⟨λe3=>e e3.symm,λe3=>e2 e3.symm,h3⟩)
 have pY:=h.row i bi ri hi nI;have xD:=h.row k bk rk hk hrk;have hgl:=h.lt;have hlen:=h.len;have keep:∀(b:Nat) (r:List Int) (j:Nat),bs[j]?=some b->Own w b r->Own ((w.setCell ⟨G,i,none⟩ (.slice (some ⟨bk,0,none⟩) n ck)).setCell ⟨G,k,none⟩ (.slice (some ⟨bi,0,none⟩) n ci)) b r:=λb r j h1 ⟨cu,q1,q2⟩=>⟨cu,(kx.block b (aC q1) (by intro e;injection e with e;exact h.ng j b h1 e)).trans q1,q2⟩
 obtain⟨cur,hc,hx⟩:=h.out;refine⟨⟨(cur.setIfInBounds i (.slice (some ⟨bk,0,none⟩) n ck)).setIfInBounds k (.slice (some ⟨bi,0,none⟩) n ci),by simp[World.setCell,aoa,hc],λj b hj=>?_⟩,by simp[hlen],λj b r h1 h2=>?_,λa b z h1 h2=>?_,λj b hj=>?_⟩
 .obtain⟨_,_,hi1⟩:=hx i bi hi;obtain⟨_,_,hk1⟩:=hx k bk hk;have l1:i<cur.size:=(an9.1 hi1).1;have l2:k<cur.size:=(an9.1 hk1).1;rcases at2 bs bk bi j b hil hkl hj with⟨e,e2⟩|⟨e,e2,e3⟩|⟨e,e2,e3⟩
  .subst e e2;exact⟨ci,hci,by rw[anI,amY rfl,amY (by simpa using l2)]⟩
  .subst e2 e3;exact⟨ck,hck,by rw[anI,amZ (λh=>e h.symm),anI,amY rfl,amY l1]⟩
  .obtain⟨c,hnc,hc'⟩:=hx j b e3;exact⟨c,hnc,by rw[anI,amZ (λh=>e h.symm),anI,amZ (λh=>e2 h.symm)];exact hc'⟩
 .rcases at2 bs bk bi j b hil hkl h1 with⟨e,e2⟩|⟨e,e2,e3⟩|⟨e,e2,e3⟩
  .subst e e2;rcases at2 rows rk ri j r (by omega) (by omega) h2 with⟨_,e4⟩|⟨e4,_⟩|⟨e4,_⟩
   .subst e4;exact⟨keep _ _ i hi pY.1,pY.2⟩
   .exact absurd rfl e4
   .exact absurd rfl e4
  .subst e2 e3;rcases at2 rows rk ri j r (by omega) (by omega) h2 with⟨e4,_⟩|⟨_,_,e4⟩|⟨_,e4,_⟩
   .exact absurd e4 e
   .subst e4;exact⟨keep _ _ k hk xD.1,xD.2⟩
   .exact absurd rfl e4
  .rcases at2 rows rk ri j r (by omega) (by omega) h2 with⟨e4,_⟩|⟨_,e4,_⟩|⟨_,_,e4⟩
   .exact absurd e4 e
   .exact absurd e4 e2
   .exact⟨keep _ _ j e3 (h.row j b r e3 e4).1,(h.row j b r e3 e4).2⟩
 .rcases at2 bs bk bi a _ hil hkl h1 with⟨e1,q1⟩|⟨e1,f1,q1⟩|⟨e1,f1,q1⟩<;>rcases at2 bs bk bi b _ hil hkl h2 with⟨e2,q2⟩|⟨e2,f2,q2⟩|⟨e2,f2,q2⟩
  .omega
  .rw[<-q1]at hi;rw[<-q2]at hk;have:=h.nd i k z hi hk;omega
  .rw[<-q1]at hi;have:=h.nd i b z hi q2;omega
  .rw[<-q1]at hk;rw[<-q2]at hi;have:=h.nd i k z hi hk;omega
  .omega
  .rw[<-q1]at hk;have:=h.nd k b z hk q2;omega
  .rw[<-q2]at hi;have:=h.nd a i z q1 hi;omega
  .rw[<-q2]at hk;have:=h.nd a k z q1 hk;omega
  .exact h.nd a b z q1 q2
 .rcases at2 bs bk bi j _ hil hkl hj with⟨e1,q1⟩|⟨e1,f1,q1⟩|⟨e1,f1,q1⟩
  .rw[<-q1]at hi;exact h.ng i b hi
  .rw[<-q1]at hk;exact h.ng k b hk
  .exact h.ng j b q1
def nG(w:World)(G R:Nat):Prop:=∃cur:Array Value,w.heap[G]?=some (.cells cur 23 (0,0))/\∀j,j<R->cur[j]?=some (.slice none 0 0)
theorem nG.cell(h:nG w G R)(hj:j<R):w.cell? ⟨G,j,none⟩=some (.slice none 0 0):=by obtain⟨cur,hc,hx⟩:=h;simp[World.cell?,hc,hx j hj]
theorem nG.frozen(h:nG w G R)(i:Nat):w.frozen? ⟨G,i,none⟩=false:=by obtain⟨cur,hc,_⟩:=h;simp[World.frozen?,hc]
theorem nG.lt(h:nG w G R):G<w.heap.size:=by obtain⟨_,h,_⟩:=h;exact aC h
theorem nG.keep(h:nG w G R)(k:w'.heap[G]?=w.heap[G]?):nG w' G R:=by obtain⟨cur,hc,hx⟩:=h;exact⟨cur,k.trans hc,hx⟩
theorem nG.set(h:nG w G R)(i:Nat):nG (w.setCell ⟨G,i,none⟩ (.slice none 0 0)) G R:=by
 obtain⟨cur,hc,hx⟩:=h;refine⟨cur.setIfInBounds i (.slice none 0 0),by simp[World.setCell,aoa,hc],λj hj=>?_⟩;rw[anI];split
 .split
  .rfl
  .rename_i e h2;subst e;have:=(an9.1 (hx _ hj)).1;omega
 .exact hx j hj
theorem aar{O:Ops K}{Z:List (List K)}(hr:r<=t)(h:∀(i:Nat) (v:List K),r<=i->i<t->Z[i]?=some v->O.jq (O.el v c)=true){v:List K}(hv:Z[t]?=some v)(hz:O.jq (O.el v c)=false):O.qg Z r c=t:=by
 have htl:=(am2.1 hv).1;have:(Z.drop r).findIdx (λrow=> !O.jq (O.el row c))=t-r:=by
  rw[List.findIdx_eq (by rw[anp];omega)]
  refine⟨by rw[aoS];have e:Z[r+(t-r)]'(by omega)=v:=by have:=(am2.1 hv).2;rw[<-this];congr 1;omega
            rw[e,hz];rfl,λj hj=>by
   rw[aoS,h (r+j) _ (by omega) (by omega) (am0 _)];rfl⟩
 unfold Ops.qg;rw[this];omega
theorem aaq{O:Ops K}{Z:List (List K)}(hr:r<=Z.length)(h:∀(i:Nat) (v:List K),r<=i->i<Z.length->Z[i]?=some v->O.jq (O.el v c)=true):¬O.qg Z r c<Z.length:=by
 have:(Z.drop r).findIdx (λrow=> !O.jq (O.el row c))=Z.length-r:=by rw[<-anp,List.findIdx_eq_length];intro v hv;obtain⟨j,hj⟩:=anc hv;rw[anB]at hj;rw[h (r+j) v (by omega) (am2.1 hj).1 hj];rfl
 unfold Ops.qg;rw[this];omega
theorem LQ{Z:List (List K)}{zt zr l:List K}(Jj:Z[t]?=some zt)(_:Z[r]?=some zr):((Z.set r zt).set t zr).set r l=(Z.set t zr).set r l:=by
 by_cases e:r=t
 .subst e;rw[aoH,aoH,aoH]
 .rw[List.set_comm zt zr e,aoH]
theorem XC{O:Ops K}{Z:List (List K)}{zt zr:List K}(Jj:Z[t]?=some zt)(BF:Z[r]?=some zr){u:List K}(hu:((Z.set t zr).set r (O.oJ zt c))[k]?=some u):
 (O.piv Z r c t)[k]?=some (if k=r then O.oJ zt c else if O.jq (O.el u c)then u else O.less u (O.el u c) (O.oJ zt c)):=by
 have htl:=(am2.1 Jj).1;have hrl:=(am2.1 BF).1;have hkl:k<Z.length:=by have:=(am2.1 hu).1;simpa using this
 have e1:Z.getD t []=zt:=by rw[am6,Jj];rfl
 rw[lT O hrl htl c k hkl,e1];unfold Ops.Bd;by_cases e:k=r
 .rw[amY e,amY e]
 .have:Z.getD (if k=t then r else if k=r then t else k) []=u:=by
   rw[ang,amZ (λh=>e h.symm),ang]at hu;by_cases e2:k=t
   .rw[amY e2.symm,amY htl]at hu;injection hu with hu;rw[amY e2,am6,BF,<-hu];rfl
   .rw[amZ (λh=>e2 h.symm)]at hu;rw[amZ e2,amZ e,am6,hu];rfl
  rw[this]
theorem Ak(p x:Int):p ∣ x%p-x:=by refine⟨-(x / p),?_⟩;have:=Int.emod_add_mul_ediv x p;rw[Int.mul_neg];omega
theorem Uf(p x f y:Int):(aA p).add x ((aA p).mul ((aA p).neg f) y)=(x-f*y%p)%p:=by
 show(x+(-f)%p*y%p)%p=(x-f*y%p)%p;refine Int.emod_eq_emod_iff_emod_sub_eq_zero.2 (apl ?_);have e:x+(-f)%p*y%p-(x-f*y%p)=((-f)%p*y%p-(-f)%p*y)+(f*y%p-f*y)+((-f)%p - -f)*y:=by rw[Int.sub_mul,Int.neg_mul];omega
 rw[e];exact aoq (aoq (Ak _ _) (Ak _ _)) (Int.dvd_mul_of_dvd_left (Ak _ _))
theorem vT(O:Ops K){v l:List K}(h:v.length=l.length)(f:K):(O.less v f l).length=v.length:=by simp[Ops.less,h]
theorem Bl{a v:List α}{x:α}(hl:a.length=v.length)(hx:a[j]?=some x):(a.take j++v.drop j).set j x=a.take (j+1)++v.drop (j+1):=by
 have hj:=(am2.1 hx).1;apply anG;intro i;simp only[ang,aoj,anh,anB,am8,am9,anp];by_cases e:j=i
 .subst e;rw[amY rfl,amY (by omega),amY (by omega),amY (by omega),hx]
 .rw[amZ e];by_cases h1:i<j
  .rw[amY (by omega),amY h1,amY (by omega),amY (by omega)]
  .rw[amZ (by omega),amZ (by omega)];congr 1;omega
theorem Kz{y:Int}(hx:v[j]?=some x)(hy:l[j]?=some y):((aA p).less v f l)[j]?=some ((x-f*y%p)%p):=by unfold Ops.less;rw[apn,hx,hy];exact congrArg some (Uf p x f y)
def pW(p k:Int)(v:List Int)(j:Nat):List Int:=(v.map λx=>x*k%p).take j++v.drop j
theorem FH{k:Int}(hj:j<=v.length):(pW p k v j).length=v.length:=by simp[pW];omega
theorem MX(p k:Int)(v:List Int):pW p k v 0=v:=by simp[pW]
theorem MZ{k:Int}(hx:v[j]?=some x):(pW p k v j).set j (x*k%p)=pW p k v (j+1):=
 Bl (by simp) (by rw[am7,hx];rfl)
theorem UL{k:Int}(hj:j<v.length):(pW p k v j)[j]?=v[j]?:=by unfold pW;rw[anw (by simp;omega),anB];congr 1;simp;omega
theorem QF(hx:v[c]?=some x):pW p (bO p x) v v.length=(aA p).oJ v c:=by
 unfold pW Ops.oJ;rw[ao6,anR,ann (by simp),(aA p).bT hx];refine anF λa _=>?_
 show a*bO p x%p=bO p x*a%p;rw[aot]
theorem Ii(p x:Int):(aA p).jq x=decide (x=0):=rfl
theorem UX(hp:0<p)(hl:v.length=l.length):av p ((aA p).less v f l)=true:=iI λi x hx=>by
 have hi:i<v.length:=by have:=(am2.1 hx).1;rwa[vT _ hl]at this
 have h1:=Kz (p:=p) (f:=f) (am0 hi) (am0 (by omega:i<l.length));rw[hx]at h1;injection h1 with h1;rw[h1];exact⟨anV _ (by omega),anW _ hp⟩
def kF(p:Int)(Z:List (List Int)):Prop:=∀r∈Z,av p r=true
def Ue:EL (List Int) where
 k:=1
 O:=λw a b vs x=>∃g c,vs=[.slice (some ⟨g,0,none⟩) x.length c]/\a<=g/\g<b/\x.length<=c/\Own w g x
 lN:=λ⟨_,_,h,_⟩=>by rw[h];rfl
 keep:=λ⟨g,c,h,h1,h2,h3,cur,h4,h5⟩ hk=>⟨g,c,h,h1,h2,h3,cur,(hk g h1 h2 (aC h4)).trans h4,h5⟩
 one:=λ⟨_,_,h,_⟩ u hu=>by rw[h]at hu;simp at hu;subst hu;rfl
theorem Qb{v:Value}{xs:List (List Int)}(h:GE Ue 23 w B H v xs)(hH:H<=w.heap.size){x:List Int}(hx:Own w g x)(hc:x.length<=c)(hg:H<=g)(hB:B<=H)(hl:xs.length+1<=1099511627776):
 ∃v' w',(Builtin.append_ #[68,68] 68 #[v,.slice (some ⟨w.heap.size,0,none⟩) 1 1]).run prog (w.alloc (.cells #[.slice (some ⟨g,0,none⟩) x.length c] 23))=.ok v' w'/\
  GE Ue 23 w' B w'.heap.size v' (xs++[x])/\∀b',Ex b' w->b'.heap.size<=B->Ex b' w':=by
 obtain⟨i,hi,hz,hs,hby⟩:=anA mH;obtain⟨v',w',h1,h2,_,_,_,h6⟩:=GE.push Ue Tryz.underlying68 hi hz hs hby rfl (by decide) (by omega) h hH (u:=[.slice (some ⟨g,0,none⟩) x.length c]) (x:=x) (a:=g) (b:=g+1) ⟨g,c,rfl,amX _,aoF _,hc,hx⟩ hg (Nat.le_succ _) hx.lt hB hl;exact⟨v',w',h1,h2,h6⟩
def Ei:Value->Nat
 | .slice (some a) _ _=>a.block
 |_=>0
theorem GE.im{m:Nat}{xs:List (List Int)}(h:GE Ue 23 w B H (.slice (some ⟨g,0,none⟩) m c) xs)(hw:aZ n xs):∃bs,IM w g n bs xs/\B<=g/\∀b∈bs,B<=b:=by
 obtain⟨cur,al,bl,e,hB,hH,hh,h1,h2⟩:=h.at_;have at_:∀(j b:Nat),((range xs.length).map λj=>Ei (cur[j]?.getD .nilFunc))[j]?=some b->∃x cc,xs[j]?=some x/\x.length=n/\n<=cc/\cur[j]?=some (.slice (some ⟨b,0,none⟩) n cc)/\Own w b x/\B<=b/\b≠g/\al j<=b/\b<bl j:=λj b hj=>by
  have hjl:j<xs.length:=by have:=(am2.1 hj).1;simpa using this
  have hx:xs[j]?=some (xs[j]'hjl):=am0 hjl;obtain⟨u,q1,⟨g2,c2,q2,q3,q4,q5,q6⟩,q7,q8,q9⟩:=h1 j _ hx;have hl:=hw _ (am1 hx);have hc:=q1 0 _ (by rw[q2];rfl);rw[show Ue.k=1 from rfl,anY,anS]at hc;rw[am7,List.getElem?_range hjl]at hj;have hj:Ei (cur[j]?.getD .nilFunc)=b:=Option.some.inj hj;rw[hc]at hj;have hj:g2=b:=hj;subst hj;rw[hl]at hc q5;exact⟨_,c2,hx,hl,q5,hc,q6,by omega,by omega,q3,q4⟩
 refine⟨(range xs.length).map λj=>Ei (cur[j]?.getD .nilFunc),⟨⟨cur,hh,λj b hj=>?_⟩,by simp,λj b r hj hr=>?_,λi j b hi hj=>?_,λj b hj=>?_⟩,hB,λb hb=>?_⟩
 .obtain⟨x,cc,_,_,q1,q2,_⟩:=at_ j b hj;exact⟨cc,q1,q2⟩
 .obtain⟨x,cc,q0,q1,_,_,q2,_⟩:=at_ j b hj;rw[hr]at q0;injection q0 with q0;subst q0;exact⟨q2,q1⟩
 .obtain⟨x,_,q0,_,_,_,_,_,_,q1,q2⟩:=at_ i b hi;obtain⟨y,_,r0,_,_,_,_,_,_,r1,r2⟩:=at_ j b hj;rcases Nat.lt_trichotomy i j with e|e|e
  .have:=h2 i j (am2.1 q0).1 (am2.1 r0).1 (by omega);omega
  .exact e
  .have:=h2 i j (am2.1 q0).1 (am2.1 r0).1 (by omega);omega
 .obtain⟨_,_,_,_,_,_,_,_,q,_⟩:=at_ j b hj;exact q
 .obtain⟨j,hj⟩:=anc hb;obtain⟨_,_,_,_,_,_,_,q,_⟩:=at_ j b hj;exact q
def kC(n:Nat)(l:List Int):List Int:=(range n).map λ(i:Nat)=>((l.count (i:Int):Nat):Int)
theorem Ar(n:Nat)(l:List Int):(kC n l).length=n:=by simp[kC]
theorem Td(n:Nat):kC n []=replicate n 0:=by apply aoB<;>simp[kC]
theorem lJ(h:i<n):(kC n l)[i]?=some ((l.count (i:Int):Nat):Int):=by simp[kC,h]
theorem qV(n:Nat)(l:List Int)(k:Nat):(kC n l).set k (((l.count (k:Int):Nat):Int)+1)=kC n (l++[(k:Int)]):=by
 apply anG;intro i;rw[ang,Ar];by_cases hi:i<n
 .rw[lJ hi,lJ hi];by_cases e:k=i
  .subst e;simp[hi,List.count_append]
  .have e':¬((k:Int)=(i:Int)):=by omega
   have e2:List.count (i:Int) [(k:Int)]=0:=by rw[List.count_singleton];simp[e']
   simp[e,List.count_append,e2]
 .rw[anz (by rw[Ar];omega),anz (by rw[Ar];omega)];split<;>simp_all
theorem vZ(l:List Int)(k:Int):l.count k<=l.length:=List.count_le_length
def dV(es:List Ed):List Int:=es.flatMap (·.outs)
def insL(es:List Ed):List Int:=es.flatMap (·.ins)
def gV(es:List Ed):List Int:=es.flatMap (λe=>e.ins++e.outs)
theorem zA(h:es[k]?=some e):dV (es.take (k+1))=dV (es.take k)++e.outs:=by rw[dV,am_,h];simp[dV]
theorem CU(h:es[k]?=some e):insL (es.take (k+1))=insL (es.take k)++e.ins:=by rw[insL,am_,h];simp[insL]
theorem JK(h:es[k]?=some e):gV (es.take (k+1))=gV (es.take k)++(e.ins++e.outs):=by rw[gV,am_,h];simp[gV]
theorem MQ(h:es[k]?=some e):(dV (es.take k)).length+e.outs.length<=(dV es).length:=by have:=congrArg (λl=>(dV l).length) (aog (k+1) es);have h2:=congrArg List.length (zA h);simp only[dV,List.flatMap_append,am9]at this h2⊢;omega
theorem Rf(h:es[k]?=some e):(insL (es.take k)).length+e.ins.length<=(insL es).length:=by have:=congrArg (λl=>(insL l).length) (aog (k+1) es);have h2:=congrArg List.length (CU h);simp only[insL,List.flatMap_append,am9]at this h2⊢;omega
theorem DI(h:e∈es){k:Int}(hk:k∈e.outs):k∈dV es:=aoX.2 ⟨e,h,hk⟩
theorem FJ(h:e∈es){k:Int}(hk:k∈e.ins):k∈insL es:=aoX.2 ⟨e,h,hk⟩
def ZT(x:Gr):List Int:=x.ins++dV x.es
def toWL(x:Gr):List Int:=x.outs++insL x.es
def BK(e:Ed):Bool:=OC e.kd e.vl e.ins.length e.outs.length
def JF(x:Gr):Bool:=bN 0 100 x.aI&&decide (x.es.length<=60)&&decide (x.ins.length<=12)&&decide (x.outs.length<=12)
def Qm(x:Gr):Bool:=(Uk x.aI.toNat).all λw=>decide (w∈ZT x)||decide (w∈toWL x)
def f_(x:Gr):Bool:=JF x&&x.ins.all (bN 0 (x.aI-1))&&x.outs.all (bN 0 (x.aI-1))&&x.es.all (λe=>BK e&&e.ins.all (bN 0 (x.aI-1))&&e.outs.all (bN 0 (x.aI-1)))&&Qm x
theorem ab7(k:Int):(gw k).1<=2/\(gw k).2<=2:=by
 unfold gw;split
 .exact⟨by decide,by decide⟩
 split
 .exact⟨by decide,by decide⟩
 split
 .exact⟨by decide,by decide⟩
 split
 .exact⟨by decide,by decide⟩
 .exact⟨by decide,by decide⟩
theorem Ee(h:BK e=true):e.ins.length<=2/\e.outs.length<=2:=by simp only[BK,OC,anx,decide_eq_true_eq]at h;have:=ab7 e.kd;omega
theorem Cf:∀{es:List Ed},(∀e∈es,BK e=true)->(dV es).length<=2*es.length
 |[],_=>by simp[dV]
 |e::es,h=>by have:=Cf (es:=es) (λe he=>h e (by simp[he]));have:=Ee (h e (by simp));simp only[dV,ao_,am9,anJ]at*;omega
theorem FZ:∀{es:List Ed},(∀e∈es,BK e=true)->(insL es).length<=2*es.length
 |[],_=>by simp[insL]
 |e::es,h=>by have:=FZ (es:=es) (λe he=>h e (by simp[he]));have:=Ee (h e (by simp));simp only[insL,ao_,am9,anJ]at*;omega
theorem M5{k:Int}(h:k∈dV es):∃e∈es,k∈e.outs:=aoX.1 h
theorem QJ{k:Int}(h:k∈insL es):∃e∈es,k∈e.ins:=aoX.1 h
theorem zS{lo hi k:Int}(h:bN lo hi k=true):lo<=k/\k<=hi:=by simpa[bN]using h
theorem wh{lo hi:Int}(h:l.all (bN lo hi)=true){k:Int}(hk:k∈l):lo<=k/\k<=hi:=zS (anl.1 h k hk)
theorem ack{n:Int}(h:es.all (λe=>BK e&&e.ins.all (bN 0 (n-1))&&e.outs.all (bN 0 (n-1)))=true)(he:e∈es):BK e=true/\(∀k∈e.ins,0<=k/\k<=n-1)/\∀k∈e.outs,0<=k/\k<=n-1:=by have:=anl.1 h e he;simp only[anx]at this;exact⟨this.1.1,λk hk=>wh this.1.2 hk,λk hk=>wh this.2 hk⟩
def fG(n:Nat)(l:List Int):List Bool:=(range n).map λ(i:Nat)=>decide ((i:Int)∈l)
theorem jA(n:Nat)(l:List Int):(fG n l).length=n:=by simp[fG]
theorem BQ(n:Nat):fG n []=replicate n false:=by apply aoB<;>simp[fG]
theorem kL(h:i<n):(fG n l)[i]?=some (decide ((i:Int)∈l)):=by simp[fG,h]
theorem Pm(n:Nat)(l:List Int)(k:Nat):fG n (l++[(k:Int)])=(fG n l).set k true:=by
 apply anG;intro i;rw[ang,jA];by_cases hi:i<n
 .rw[kL hi,kL hi];by_cases e:k=i
  .subst e;simp[hi]
  .have e':¬((i:Int)=(k:Int)):=by omega
   simp[e,e']
 .rw[anz (by rw[jA];omega),anz (by rw[jA];omega)];split<;>simp_all
theorem LU(n:Nat)(l:List Int){q:Int}(h:bN 0 ((n:Int)-1) q=false):fG n (l++[q])=fG n l:=by
 apply anG;intro i;by_cases hi:i<n
 .rw[kL hi,kL hi];have e':¬((i:Int)=q):=by
   intro e;subst e;simp[bN]at h;omega
  simp[e']
 .rw[anz (by rw[jA];omega),anz (by rw[jA];omega)]
theorem SY{op:List Bool}(h:op[i]?=some false):(op.set i true).count true=op.count true+1:=by have hl:=(am2.1 h).1;have e:=List.count_set (a:=true) (b:=true) (l:=op) (i:=i) hl;have e2:op[i]=false:=(am2.1 h).2;simp[e2]at e;omega
theorem set_self{op:List Bool}{b:Bool}(h:op[i]?=some b):op.set i b=op:=by obtain⟨hl,rfl⟩:=am2.1 h;exact List.set_getElem_self hl
theorem EB{ins outs:List Int}(hd:JF ⟨n,es,ins,outs⟩=true)(hk:es.all BK=true):
 f_ ⟨n,es,ins,outs⟩=((ins++outs++gV es).all (bN 0 ((n:Int)-1))&&decide (((fG n (ins++outs++gV es)).count true:Int)=n)):=by
 have hl:=jA n (ins++outs++gV es);have hke:=λe he=>anl.1 hk e he
 have hmem:∀k:Int,k∈ins++outs++gV es↔k∈ZT ⟨n,es,ins,outs⟩∨k∈toWL ⟨n,es,ins,outs⟩:=λk=>by
  simp only[anu,gV,aoX,ZT,toWL,dV,insL];constructor
  .rintro((h|h)|⟨e,he,h|h⟩)
   .exact .inl (.inl h)
   .exact .inr (.inl h)
   .exact .inr (.inr ⟨e,he,h⟩)
   .exact .inl (.inr ⟨e,he,h⟩)
  .rintro((h|⟨e,he,h⟩)|(h|⟨e,he,h⟩))
   .exact .inl (.inl h)
   .exact .inr ⟨e,he,.inr h⟩
   .exact .inl (.inr h)
   .exact .inr ⟨e,he,.inl h⟩
 have aeG:Qm ⟨n,es,ins,outs⟩=decide (((fG n (ins++outs++gV es)).count true:Int)=n):=by
  rw[an3,decide_eq_true_iff];unfold Qm;constructor
  .intro h;have hall:=anl.1 h;have:(fG n (ins++outs++gV es)).count true=(fG n (ins++outs++gV es)).length:=by
    rw[List.count_eq_length];intro b hb;obtain⟨i,hi,rfl⟩:=List.mem_iff_getElem.1 hb;have hin:i<n:=by omega
    have h2:=kL (l:=ins++outs++gV es) hin;rw[am0 hi]at h2;injection h2 with h2;rw[h2];have h3:=hall (i:Int) (am1 (OT (by simpa using hin)));simp only[aoI,decide_eq_true_eq]at h3;exact(decide_eq_true ((hmem _).2 h3)).symm
   omega
  .intro h;have hc:(fG n (ins++outs++gV es)).count true=(fG n (ins++outs++gV es)).length:=by omega
   rw[List.count_eq_length]at hc;rw[anl];intro w hw;obtain⟨i,hi,rfl⟩:=am3.1 hw;have hin:i<n:=by simpa using hi
   have h2:=kL (l:=ins++outs++gV es) hin;have h3:=hc _ (am1 h2);have h4:=(hmem _).1 (of_decide_eq_true h3.symm);simp only[aoI,decide_eq_true_eq];exact h4
 unfold f_;rw[hd,aeG,anL];congr 1;dsimp only;rw[an_,an_];congr 1;unfold gV;rw[an3];simp only[anl,anx,aoX,anu];constructor
 .rintro h k ⟨e,he,hk|hk⟩
  .exact(h e he).1.2 k hk
  .exact(h e he).2 k hk
 .intro h e he;exact⟨⟨hke e he,λk hk=>h k ⟨e,he,.inl hk⟩⟩,λk hk=>h k ⟨e,he,.inr hk⟩⟩
theorem Iq{x:Gr}(he:e∈x.es)(h:BK e=false):f_ x=false:=by have:(x.es.all λe=>BK e&&e.ins.all (bN 0 (x.aI-1))&&e.outs.all (bN 0 (x.aI-1)))=false:=aof.2 ⟨e,he,by simp[h]⟩;simp[f_,this]
theorem Jp(n:Nat)(E:Option Addr)(ec:Nat)(es:List Ed)(I:Option Addr)(ic:Nat)(ins:List Int)(O:Option Addr)(oc:Nat)(outs:List Int)(w:World)(hE:gm EE w E es)(hI:Rd w I ins)(hO:Rd w O outs)(hn:n<=100)
 (h1:∀k∈ins++dV es,0<=k/\k<n) (h2:∀k∈outs++insL es,0<=k/\k<n) (b1:(ins++dV es).length<=1000) (b2:(outs++insL es).length<=1000):
 Calls prog 69 #[.agg #[.int .i64 n,.slice E es.length ec,.slice I ins.length ic,.slice O outs.length oc]] w λe w'=>
  ∃f t,e=.returned (.tuple #[.slice (some ⟨f,0,none⟩) n n,.slice (some ⟨t,0,none⟩) n n])/\w.heap.size<=f/\f<t/\Own w' f (kC n (ins++dV es))/\Own w' t (kC n (outs++insL es))/\Ex w w':=by
 have hmk:=λW=>dD n (by omega) W
 have hEl:=hE.1;have WM:=hI.len;have YN:=hO.len;have H1:=amW h1;have H2:=amW h2;have B1:=amW b1;have B2:=amW b2;clear h1 h2 b1 b2;obtain⟨y0,d0⟩:=VB.xn w 34 #[.int .i64 n,.slice E es.length ec,.slice I ins.length ic,.slice O outs.length oc];have S0:=amW (show(w.alloc (.cells #[.int .i64 n,.slice E es.length ec,.slice I ins.length ic,.slice O outs.length oc] 34)).heap.size=w.heap.size+1 by simp);go_enter Tryz.func69,Tryz.ntmps69
 go_wp2_with fail
 generalize w.alloc (.cells #[.int .i64 n,.slice E es.length ec,.slice I ins.length ic,.slice O outs.length oc] 34)=W0 at*;have y1:=(asF W0).alloc (aO (replicate n 0));have o1:=Own.new W0 (replicate n 0);rw[S0.out]at o1;have S1:=amW (show(W0.alloc (aO (replicate n 0))).heap.size=w.heap.size+1+1 by simp;exact S0.out);generalize W0.alloc (aO (replicate n 0))=W1 at*;have y2:=(asF W1).alloc (aO (replicate n 0));have o2:=Own.new W1 (replicate n 0);rw[S1.out]at o2;generalize W1.alloc (aO (replicate n 0))=W2 at*;have o1:=o1.ex y2;have d0:=(d0.ex y1).ex y2;have xx:=(y0.trans y1).trans y2;clear y0 y1 y2 S0 S1;rw[<-Td n]at o1 o2;go_loopw [25] (λi wr=>∃k:Nat,k<=ins.length/\i=.int .i64 k/\Own wr (w.heap.size+1) (kC n (ins.take k))/\Own wr (w.heap.size+1+1) (kC n [])/\VB wr w.heap.size 34 #[.int .i64 n,.slice E es.length ec,.slice I ins.length ic,.slice O outs.length oc]/\Ex w wr) (λi _=>ins.length-(intOf i).toNat)
 case atStart=>exact⟨0,am4 _,rfl,o1,o2,d0,xx⟩
 case round=>
  obtain⟨k,hk,rfl,hf,ht,hd,he⟩:=hrel;by_cases hlt:k<ins.length
  .obtain⟨g,off,q,rfl,hq,hg,hc⟩:=(hI.ex he).at_ hlt;have Ro:=H1.out q (an7 _ (am1 hq));obtain⟨qn,rfl⟩:=an0 Ro.1;have Yk:qn<n:=by have:=Ro.2;omega
   have c1:=hf.cell (lJ (l:=ins.take k) Yk);have f1:=hf.frozen qn;have hlen:(ins.take k).count (qn:Int)<=1000:=anb (vZ _ _) (by rw[am8];have:=B1.out;rw[am9]at this;omega);have hf2:=hf.aX qn (((ins.take k).count (qn:Int):Nat)+1);rw[qV,show ins.take k++[(qn:Int)]=ins.take (k+1) by rw[am_,hq];rfl]at hf2;have E1:aJ (w.heap.size+1) wr (wr.setCell ⟨w.heap.size+1,qn,none⟩ (.int .i64 (((ins.take k).count (qn:Int):Nat)+1))):=(aJ.refl _ _).setCell rfl _;have ht2:=ht.aM E1 (by omega);have hd2:=hd.aM E1 (by omega);have he2:=he.aM E1 (by omega);clear hq ht hd he;generalize hcc:List.count (qn:Int) (ins.take k)=cc at*;clear hcc;go_wp2_with fail
   go_roundw;case rel=>exact⟨k+1,by omega,by go_num,hf2,ht2,hd2,he2⟩
   case measure=>simp[intOf];omega
  .obtain rfl:k=ins.length:=by omega
   rw[anf]at hf;have q0:=hd.c3;go_wp2_with fail
   clear q0;go_loopw [39] (λi wr=>∃k:Nat,k<=outs.length/\i=.int .i64 k/\Own wr (w.heap.size+1) (kC n ins)/\Own wr (w.heap.size+1+1) (kC n (outs.take k))/\VB wr w.heap.size 34 #[.int .i64 n,.slice E es.length ec,.slice I ins.length ic,.slice O outs.length oc]/\Ex w wr) (λi _=>outs.length-(intOf i).toNat)
   case atStart=>exact⟨0,am4 _,rfl,hf,ht,hd,he⟩
   case round=>
    clear hf ht hd he;obtain⟨k,hk,rfl,hf,ht,hd,he⟩:=hrel;by_cases hlt:k<outs.length
    .obtain⟨g,off,q,rfl,hq,hg,hc⟩:=(hO.ex he).at_ hlt;have Ro:=H2.out q (an7 _ (am1 hq));obtain⟨qn,rfl⟩:=an0 Ro.1;have Yk:qn<n:=by have:=Ro.2;omega
     have c1:=ht.cell (lJ (l:=outs.take k) Yk);have f1:=ht.frozen qn;have hlen:(outs.take k).count (qn:Int)<=1000:=anb (vZ _ _) (by rw[am8];have:=B2.out;rw[am9]at this;omega);have ht2:=ht.aX qn (((outs.take k).count (qn:Int):Nat)+1);rw[qV,show outs.take k++[(qn:Int)]=outs.take (k+1) by rw[am_,hq];rfl]at ht2;have E1:aJ (w.heap.size+1+1) wr (wr.setCell ⟨w.heap.size+1+1,qn,none⟩ (.int .i64 (((outs.take k).count (qn:Int):Nat)+1))):=(aJ.refl _ _).setCell rfl _;have hf2:=hf.aM E1 (by omega);have hd2:=hd.aM E1 (by omega);have he2:=he.aM E1 (by omega);clear hq hf hd he;generalize hcc:List.count (qn:Int) (outs.take k)=cc at*;clear hcc;go_wp2_with fail
     go_roundw;case rel=>exact⟨k+1,by omega,by go_num,hf2,ht2,hd2,he2⟩
     case measure=>simp[intOf];omega
    .obtain rfl:k=outs.length:=by omega
     rw[anf]at ht;have q0:=hd.c1;have e1:dV ([]:List Ed)=[]:=rfl;have e2:insL ([]:List Ed)=[]:=rfl;rw[<-anR ins,<-e1]at hf;rw[<-anR outs,<-e2]at ht;clear e1 e2;go_wp2_with fail
     clear q0;go_loopw [53] (λi wr=>∃k:Nat,k<=es.length/\i=.int .i64 k/\Own wr (w.heap.size+1) (kC n (ins++dV (es.take k)))/\Own wr (w.heap.size+1+1) (kC n (outs++insL (es.take k)))/\Ex w wr) (λi _=>es.length-(intOf i).toNat)
     case atStart=>exact⟨0,am4 _,rfl,hf,ht,he⟩
     case round=>
      clear hf ht hd he;obtain⟨k,hk,rfl,hf,ht,he⟩:=hrel;by_cases hlt:k<es.length
      .obtain⟨g,off,x,P,pc,Q,qc,rfl,hx,c0,c1,c2,c3,hP,hQ⟩:=hE.edge hlt;replace c0:=af he c0;replace c1:=af he c1;replace c2:=af he c2;replace c3:=af he c3;obtain⟨y3,v3⟩:=VB.xn wr 45 #[.int .i64 x.kd,.int .i64 x.vl,.slice P x.ins.length pc,.slice Q x.outs.length qc];have WL:=hP.len;have RN:=hQ.len;have hs1:=hf.lt;have hs2:=ht.lt;have Hx:=amW hx;go_wp2_with fail
       have hf:=hf.ex y3;have ht:=ht.ex y3;have he:=he.trans y3;have hz3:=y3.size;clear c0 c1 c2 c3 hx y3;generalize wr.alloc (.cells #[.int .i64 x.kd,.int .i64 x.vl,.slice P x.ins.length pc,.slice Q x.outs.length qc] 45)=W3 at*;obtain⟨b,hbe⟩:=xq wr.heap.size;rw[hbe]at v3 hz3 hs1 hs2⊢;clear hbe;rw[<-anR (ins++dV (es.take k))]at hf;go_loopw [60] (λi wi=>∃j:Nat,j<=x.outs.length/\i=.int .i64 j/\Own wi (w.heap.size+1) (kC n (ins++dV (es.take k)++x.outs.take j))/\Own wi (w.heap.size+1+1) (kC n (outs++insL (es.take k)))/\VB wi b 45 #[.int .i64 x.kd,.int .i64 x.vl,.slice P x.ins.length pc,.slice Q x.outs.length qc]/\Ex w wi) (λi _=>x.outs.length-(intOf i).toNat)
       case atStart=>exact⟨0,am4 _,rfl,hf,ht,v3,he⟩
       case round=>
        clear hf ht he v3;obtain⟨j,hj,rfl,hf,ht,v3,he⟩:=hrel;by_cases hjl:j<x.outs.length
        .obtain⟨g',off',q,rfl,hq,hg',hc'⟩:=(hQ.ex he).at_ hjl;have Ro:=H1.out q (aoG _ (DI (am1 Hx.out) (am1 hq)));obtain⟨qn,rfl⟩:=an0 Ro.1;have Yk:qn<n:=by have:=Ro.2;omega
         have c1:=hf.cell (lJ (l:=ins++dV (es.take k)++x.outs.take j) Yk);have f1:=hf.frozen qn;have hlen:(ins++dV (es.take k)++x.outs.take j).count (qn:Int)<=1000:=anb (vZ _ _) (by have:=MQ Hx.out;have:=B1.out;simp only[am9,am8]at*;omega);have hf2:=hf.aX qn (((ins++dV (es.take k)++x.outs.take j).count (qn:Int):Nat)+1);rw[qV,anP _ _ [(qn:Int)],show x.outs.take j++[(qn:Int)]=x.outs.take (j+1) by rw[am_,hq];rfl]at hf2;have E1:aJ (w.heap.size+1) wr (wr.setCell ⟨w.heap.size+1,qn,none⟩ (.int .i64 (((ins++dV (es.take k)++x.outs.take j).count (qn:Int):Nat)+1))):=(aJ.refl _ _).setCell rfl _;have ht2:=ht.aM E1 (by omega);have v4:=v3.aM E1 (by omega);have he2:=he.aM E1 (by omega);clear hq ht v3 he;generalize hcc:List.count (qn:Int) (ins++dV (es.take k)++x.outs.take j)=cc at*;clear hcc;go_wp2_with fail
         go_roundw;case rel=>exact⟨j+1,by omega,by go_num,hf2,ht2,v4,he2⟩
         case measure=>simp[intOf];omega
        .obtain rfl:j=x.outs.length:=by omega
         rw[anf]at hf;rw[<-anR (outs++insL (es.take k))]at ht;have q2:=v3.c2;go_wp2_with fail
         clear q2;go_loopw [74] (λi wi=>∃j:Nat,j<=x.ins.length/\i=.int .i64 j/\Own wi (w.heap.size+1) (kC n (ins++dV (es.take k)++x.outs))/\Own wi (w.heap.size+1+1) (kC n (outs++insL (es.take k)++x.ins.take j))/\VB wi b 45 #[.int .i64 x.kd,.int .i64 x.vl,.slice P x.ins.length pc,.slice Q x.outs.length qc]/\Ex w wi) (λi _=>x.ins.length-(intOf i).toNat)
         case atStart=>exact⟨0,am4 _,rfl,hf,ht,v3,he⟩
         case round=>
          clear hf ht he v3;obtain⟨j,hj,rfl,hf,ht,v3,he⟩:=hrel;by_cases hjl:j<x.ins.length
          .obtain⟨g',off',q,rfl,hq,hg',hc'⟩:=(hP.ex he).at_ hjl;have Ro:=H2.out q (aoG _ (FJ (am1 Hx.out) (am1 hq)));obtain⟨qn,rfl⟩:=an0 Ro.1;have Yk:qn<n:=by have:=Ro.2;omega
           have c1:=ht.cell (lJ (l:=outs++insL (es.take k)++x.ins.take j) Yk);have f1:=ht.frozen qn;have hlen:(outs++insL (es.take k)++x.ins.take j).count (qn:Int)<=1000:=anb (vZ _ _) (by have:=Rf Hx.out;have:=B2.out;simp only[am9,am8]at*;omega);have hf2:=ht.aX qn (((outs++insL (es.take k)++x.ins.take j).count (qn:Int):Nat)+1);rw[qV,anP _ _ [(qn:Int)],show x.ins.take j++[(qn:Int)]=x.ins.take (j+1) by rw[am_,hq];rfl]at hf2;have E1:aJ (w.heap.size+1+1) wr (wr.setCell ⟨w.heap.size+1+1,qn,none⟩ (.int .i64 (((outs++insL (es.take k)++x.ins.take j).count (qn:Int):Nat)+1))):=(aJ.refl _ _).setCell rfl _;have ht2:=hf.aM E1 (by omega);have v4:=v3.aM E1 (by omega);have he2:=he.aM E1 (by omega);clear hq hf v3 he;generalize hcc:List.count (qn:Int) (outs++insL (es.take k)++x.ins.take j)=cc at*;clear hcc;go_wp2_with fail
           go_roundw;case rel=>exact⟨j+1,by omega,by go_num,ht2,hf2,v4,he2⟩
           case measure=>simp[intOf];omega
          .obtain rfl:j=x.ins.length:=by omega
           rw[anf]at ht;rw[anP,<-zA Hx.out]at hf;rw[anP,<-CU Hx.out]at ht;go_wp2_with fail
           go_roundw;case rel=>exact⟨k+1,by omega,by go_num,hf,ht,he⟩
           case measure=>simp[intOf];omega
      .obtain rfl:k=es.length:=by omega
       rw[anf]at hf ht;go_wp2_with fail
       go_ret2
       exact⟨_,_,rfl,by omega,by omega,hf,ht,he⟩
theorem O1(k v:Int)(h:bN 3 14 k=true)(w:World):Calls prog 103 #[.agg #[.int .i64 k,.int .i64 v,.string {data:= #[]}]] w λe w'=>e=.returned (.bool (Eo k v))/\Ex w w':=by
 have x0:=(asF w).alloc (.cells #[.int .i64 k,.int .i64 v,.string {data:= #[]}] 82);have h1:bN 1 14 k=true:=by simp[bN]at h⊢;omega
 have hk:=λW=>lZ k 1 14 W
 rw[h1]at hk;have hv:=λW=>lZ v 0 96 W
 obtain⟨R,hR⟩:=xq (Eo k v);rw[hR];unfold Eo at hR;by_cases h7:k=7∨k=13
 .rw[amY h7]at hR;rw[hR]at hv;clear h h1 hR;rcases h7 with rfl|rfl
  all_goals
   go_enter Tryz.func103,Tryz.ntmps103
   go_wp2_with fail
   refine(hk _).mono ?_;rintro e _ ⟨rfl,rfl⟩;go_wp2_with fail
   refine(hv _).mono ?_;rintro e _ ⟨rfl,rfl⟩;go_wp2;go_ret;exact⟨rfl,x0⟩
 .rw[amZ h7]at hR;have n1:(k==1)=false:=by simp[bN]at h;simp;omega
  have n7:(k==7)=false:=by simp;omega
  have n13:(k==13)=false:=by simp;omega
  have HR:=amW hR;clear h h1 hR h7;go_enter Tryz.func103,Tryz.ntmps103
  go_wp2_with fail
  refine(hk _).mono ?_;rintro e _ ⟨rfl,rfl⟩;clear hk hv;go_wp2
  all_goals go_ret
  all_goals exact⟨aG (by rw[<-HR.out];first|rfl|simp),x0⟩
theorem Bq(a b c d:Int)(W:World):(binOp .eql 127 (.agg #[.int .i64 a,.int .i64 b]) (.agg #[.int .i64 c,.int .i64 d])).run prog W=.ok (.bool (decide (a=c)&&decide (b=d))) W:=by by_cases h1:a=c<;>by_cases h2:b=d<;>simp[go_sem,Tryz.underlying127,Tryz.underlying3,h1,h2]
theorem Rb(kd vl:Int)(P:Option Addr)(ni pc:Nat)(Q:Option Addr)(no qc:Nat)(w:World)(hi:ni<=1099511627776)(ho:no<=1099511627776):
 Calls prog 83 #[.agg #[.int .i64 kd,.int .i64 vl,.slice P ni pc,.slice Q no qc]] w λe w'=>e=.returned (.bool (OC kd vl ni no))/\Ex w w':=by
 obtain⟨x0,v0⟩:=VB.xn w 45 #[.int .i64 kd,.int .i64 vl,.slice P ni pc,.slice Q no qc];obtain⟨R,hR⟩:=xq (OC kd vl ni no);rw[hR];unfold OC at hR;have hg:=λW=>BD kd W
 cases h1:bN 3 14 kd with
 |false=>
  rw[h1]at hR hg;have HR:=amW hR;clear hR h1;go_enter Tryz.func83,Tryz.ntmps83
  go_wp2_with (go_at_call 114;refine(hg _).mono ?_;rintro e w' ⟨rfl,rfl⟩)
  all_goals go_ret
  all_goals exact⟨aG (by rw[<-HR.out];rfl),x0⟩
 |true=>
  rw[h1,anL]at hR;rw[h1]at hg;have hv:=λW=>sG kd vl W
  have hw:=λW=>jE kd h1 W
  clear h1;cases h2:Eo kd vl with
  |false=>
   rw[h2]at hR hv;have HR:=amW hR;clear hR h2 hw;go_enter Tryz.func83,Tryz.ntmps83
   go_wp2_with (first|(go_at_call 114;refine(hg _).mono ?_;rintro e w' ⟨rfl,rfl⟩)|(go_at_call 115;refine(hv _).mono ?_;rintro e w' ⟨rfl,rfl⟩))
   all_goals go_ret
   all_goals exact⟨aG (by rw[<-HR.out];rfl),x0⟩
  |true=>
   rw[h2,anL]at hR;rw[h2]at hv;have HR:=amW hR;clear hR h2;go_enter Tryz.func83,Tryz.ntmps83
   go_wp2_with (first|(go_at_call 114;refine(hg _).mono ?_;rintro e w' ⟨rfl,rfl⟩)|(go_at_call 115;refine(hv _).mono ?_;rintro e w' ⟨rfl,rfl⟩)|fail)
   have c0:=v0.c0;have c2:=v0.c2;have c3:=v0.c3;generalize(w.alloc (Obj.cells #[Value.int .i64 kd,Value.int .i64 vl,Value.slice P ni pc,Value.slice Q no qc] 45))=W0 at*;have HS:∀W,Ex W0 W->(Ex W0 W/\W.cell? ⟨w.heap.size,0,none⟩=some (.int .i64 kd)/\W.cell? ⟨w.heap.size,2,none⟩=some (.slice P ni pc)/\W.cell? ⟨w.heap.size,3,none⟩=some (.slice Q no qc)):=λW h=>⟨h,af h c0,af h c2,af h c3⟩
   have eA:=(asF W0).drew;have hq:=λW=>Bq (gw kd).1 (gw kd).2 ni no W
   rw[HR.out]at hq;go_region_held3 (λW=>Ex W0 W/\W.cell? ⟨w.heap.size,0,none⟩=some (.int .i64 kd)/\W.cell? ⟨w.heap.size,2,none⟩=some (.slice P ni pc)/\W.cell? ⟨w.heap.size,3,none⟩=some (.slice Q no qc)) (first
    |(exact HS _ x1)|(exact HS _ (x1.alloc _))|(exact HS _ eA)|(exact HS _ (asF W0))|(exact HS _ ((asF W0).alloc _))|(exact HS _ (eA.alloc _))) (first
    |(go_at_call 116
      have hb:=(‹Ex W0 _/\_›).1;refine(hw _).mono ?_;rintro e w1 ⟨rfl,Lu⟩;have x1:=hb.trans Lu;clear hb))
   all_goals
    go_wp2;go_ret;exact⟨rfl,x0.trans x1⟩
theorem RD(kd vl:Int)(P:Option Addr)(pc:Nat)(ins:List Int)(Q:Option Addr)(qc:Nat)(outs:List Int)(n:Int)(w:World)(hP:Rd w P ins)(hQ:Rd w Q outs)(h0:0<=n)(h1:n<=100):
 Calls prog 68 #[.agg #[.int .i64 kd,.int .i64 vl,.slice P ins.length pc,.slice Q outs.length qc],.int .i64 n] w λe w'=>e=.returned (.bool (OC kd vl ins.length outs.length&&ins.all (bN 0 (n-1))&&outs.all (bN 0 (n-1))))/\Ex w w':=by
 have x0:=(asF w).alloc (.cells #[.int .i64 kd,.int .i64 vl,.slice P ins.length pc,.slice Q outs.length qc] 45);obtain⟨R,hR⟩:=xq ((OC kd vl ins.length outs.length&&ins.all (bN 0 (n-1))&&outs.all (bN 0 (n-1))));rw[hR];unfold OC at hR;have hg:=λW=>lZ kd 3 14 W
 cases h1:bN 3 14 kd with
 |false=>
  rw[h1]at hR hg;have HR:=amW hR;clear hR h1;go_enter Tryz.func68,Tryz.ntmps68
  go_wp2_with (go_at_call 66;refine(hg _).mono ?_;rintro e w' ⟨rfl,rfl⟩)
  all_goals go_ret
  all_goals exact⟨aG (by rw[<-HR.out];rfl),x0⟩
 |true=>
  rw[h1,anL]at hR;rw[h1]at hg;have hk:=λW=>O3 kd h1 W
  have hl:=λW=>O1 kd vl h1 W
  have hi:=λW (x:Ex w W)=>ug P pc ins 0 (n-1) W (hP.ex x)
  have ho:=λW (x:Ex w W)=>ug Q qc outs 0 (n-1) W (hQ.ex x)
  have WL:=hP.len;have RN:=hQ.len;clear h1;cases h2:Eo kd vl with
  |false=>
   rw[h2]at hR hl;have HR:=amW hR;clear hR h2;go_enter Tryz.func68,Tryz.ntmps68
   go_wp2_with (first|(go_at_call 66;refine(hg _).mono ?_;rintro e w' ⟨rfl,rfl⟩)|fail)
   refine(hl _).mono ?_;rintro e w2 ⟨rfl,x2⟩;go_wp2;go_ret;exact⟨aG (by rw[<-HR.out];rfl),x0.trans x2⟩
  |true=>
   rw[h2,anL]at hR;rw[h2]at hl;clear h2;have y0:=VB.new w 45 #[.int .i64 kd,.int .i64 vl,.slice P ins.length pc,.slice Q outs.length qc];go_enter Tryz.func68,Tryz.ntmps68
   go_wp2_with (first|(go_at_call 66;refine(hg _).mono ?_;rintro e w' ⟨rfl,rfl⟩)|fail)
   refine(hl _).mono ?_;rintro e w2 ⟨rfl,x2⟩;replace x0:=x0.trans x2;replace y0:=y0.ex x2;have c0:=y0.c0;have c2:=y0.c2;have c3:=y0.c3;clear hl x2;go_wp2_with fail
   refine(hk _).mono ?_;rintro e w3 ⟨rfl,x3⟩;replace x0:=x0.trans x3;replace y0:=y0.ex x3;have c2:=y0.c2;have c3:=y0.c3;clear c0 hk x3;by_cases h3:(gw kd).1=ins.length
   .rw[decide_eq_true h3,anL]at hR;by_cases h4:(gw kd).2=outs.length
    .rw[decide_eq_true h4,anL]at hR;cases h5:ins.all (bN 0 (n-1))with
     |false=>
      rw[h5]at hR hi;have HR:=amW hR;rw[h3,h4];clear hR h3 h4 h5;go_wp2_with fail
      refine(hi _ x0).mono ?_;rintro e _ ⟨rfl,rfl⟩;go_wp2;go_ret;exact⟨aG (by rw[<-HR.out];rfl),x0⟩
     |true=>
      rw[h5,anL]at hR;rw[h5]at hi;have HR:=amW hR;rw[h3,h4];clear hR h3 h4 h5;go_wp2_with fail
      refine(hi _ x0).mono ?_;rintro e _ ⟨rfl,rfl⟩;go_wp2_with fail
      refine(ho _ x0).mono ?_;rintro e _ ⟨rfl,rfl⟩;go_wp2;go_ret;exact⟨aG (by rw[<-HR.out]),x0⟩
    .rw[decide_eq_false h4]at hR;have HR:=amW hR;rw[h3];clear hR h3;have h4':((outs.length:Int)==(gw kd).2)=false:=by simp;omega
     generalize(gw kd).2=q2 at*;go_wp2;go_ret;exact⟨aG (by rw[<-HR.out];rfl),x0⟩
   .rw[decide_eq_false h3]at hR;have HR:=amW hR;clear hR;have h3':((ins.length:Int)==(gw kd).1)=false:=by simp;omega
    generalize(gw kd).1=q1 at*;generalize(gw kd).2=q2 at*;go_wp2;go_ret;exact⟨aG (by rw[<-HR.out];rfl),x0⟩
theorem Nu(x:Gr)(E:Option Addr)(ec:Nat)(I:Option Addr)(ic:Nat)(O:Option Addr)(oc:Nat)(w:World)(hE:gm EE w E x.es)(hI:Rd w I x.ins)(hO:Rd w O x.outs):
 Calls prog 39 #[.agg #[.int .i64 x.aI,.slice E x.es.length ec,.slice I x.ins.length ic,.slice O x.outs.length oc]] w λe w'=>e=.returned (.bool (f_ x))/\Ex w w':=by
 obtain⟨N,es,ins,outs⟩:=x;dsimp only at hE hI hO⊢;have hEl:=hE.1;have WM:=hI.len;have YN:=hO.len;have hg:=λW=>lZ N 0 100 W
 obtain⟨y0,d0⟩:=VB.xn w 34 #[.int .i64 N,.slice E es.length ec,.slice I ins.length ic,.slice O outs.length oc];obtain⟨R,hR⟩:=xq (f_ ⟨N,es,ins,outs⟩);rw[hR];simp only[f_,JF]at hR;by_cases h1:bN 0 100 N=true
 .rw[h1]at hg hR;have hN:=zS h1;obtain⟨n,rfl⟩:=an0 hN.1;by_cases h2:es.length<=60
  .by_cases h3:ins.length<=12
   .by_cases h4:outs.length<=12
    .rw[decide_eq_true h2,decide_eq_true h3,decide_eq_true h4,anL,anL,anL,anL]at hR;have hi:=λW (x:Ex w W)=>ug I ic ins 0 (n-1) W (hI.ex x)
     have ho:=λW (x:Ex w W)=>ug O oc outs 0 (n-1) W (hO.ex x)
     cases h5:ins.all (bN 0 ((n:Int)-1))with
     |false=>
      rw[h5]at hR hi;have HR:=amW hR;clear hR h5 h1;go_enter Tryz.func39,Tryz.ntmps39
      go_wp2_with fail
      refine(hg _).mono ?_;rintro e _ ⟨rfl,rfl⟩;go_wp2_with fail
      refine(hi _ y0).mono ?_;rintro e _ ⟨rfl,rfl⟩;go_wp2;go_ret;exact⟨aG (by rw[<-HR.out];rfl),y0⟩
     |true=>
      rw[h5,anL]at hR;rw[h5]at hi;have hib:=λk hk=>wh h5 (k:=k) hk
      clear h5;cases h6:outs.all (bN 0 ((n:Int)-1))with
      |false=>
       rw[h6]at hR ho;have HR:=amW hR;clear hR h6 h1 hib;go_enter Tryz.func39,Tryz.ntmps39
       go_wp2_with fail
       refine(hg _).mono ?_;rintro e _ ⟨rfl,rfl⟩;go_wp2_with fail
       refine(hi _ y0).mono ?_;rintro e _ ⟨rfl,rfl⟩;go_wp2_with fail
       refine(ho _ y0).mono ?_;rintro e _ ⟨rfl,rfl⟩;go_wp2;go_ret;exact⟨aG (by rw[<-HR.out];rfl),y0⟩
      |true=>
       rw[h6,anL]at hR;rw[h6]at ho;have lq:=λk hk=>wh h6 (k:=k) hk
       have HR:=amW hR;have Hib:=amW hib;have Hob:=amW lq;clear h6 h1 hR hib lq;go_enter Tryz.func39,Tryz.ntmps39
       go_wp2_with fail
       refine(hg _).mono ?_;rintro e _ ⟨rfl,rfl⟩;go_wp2_with fail
       refine(hi _ y0).mono ?_;rintro e _ ⟨rfl,rfl⟩;go_wp2_with fail
       refine(ho _ y0).mono ?_;rintro e _ ⟨rfl,rfl⟩;clear hg hi ho;generalize w.alloc (.cells #[.int .i64 n,.slice E es.length ec,.slice I ins.length ic,.slice O outs.length oc] 34)=W0 at*;have q1:=d0.c1;go_wp2_with fail
       clear q1;go_loopw [51] (λi wr=>∃k:Nat,k<=es.length/\i=.int .i64 k/\Hid ((es.take k).all (λe=>BK e&&e.ins.all (bN 0 ((n:Int)-1))&&e.outs.all (bN 0 ((n:Int)-1)))=true)/\VB wr w.heap.size 34 #[.int .i64 n,.slice E es.length ec,.slice I ins.length ic,.slice O outs.length oc]/\Ex w wr) (λi _=>es.length-(intOf i).toNat)
       case atStart=>exact⟨0,am4 _,rfl,amW rfl,d0,y0⟩
       case round=>
        obtain⟨k,hk,rfl,gy,hd,he⟩:=hrel;by_cases hlt:k<es.length
        .obtain⟨g,off,x,P,pc,Q,qc,rfl,hx,c0,c1,c2,c3,hP,hQ⟩:=(hE.ex he).edge hlt;have Hx:=amW hx;obtain⟨y3,v3⟩:=VB.xn wr 45 #[.int .i64 x.kd,.int .i64 x.vl,.slice P x.ins.length pc,.slice Q x.outs.length qc];have q0:=(hd.ex y3).c0;clear hx;have hh:=λW (y:Ex wr W)=>RD x.kd x.vl P pc x.ins Q qc x.outs n W (hP.ex y) (hQ.ex y) (by omega) (by omega)
         have hd2:=hd.ex y3;have he2:=he.trans y3;go_wp2_with fail
         generalize wr.alloc (.cells #[.int .i64 x.kd,.int .i64 x.vl,.slice P x.ins.length pc,.slice Q x.outs.length qc] 45)=W3 at*;refine(hh W3 y3).mono ?_;rintro e w4 ⟨rfl,x4⟩;have hd3:=hd2.ex x4;have WJ:=he2.trans x4;clear hh hd he hd2 he2 c0 c1 c2 c3;have HEB:=amW (show(OC x.kd x.vl x.ins.length x.outs.length&&x.ins.all (bN 0 ((n:Int)-1))&&x.outs.all (bN 0 ((n:Int)-1)))=(BK x&&x.ins.all (bN 0 ((n:Int)-1))&&x.outs.all (bN 0 ((n:Int)-1)))from rfl);rw[HEB.out];cases hb:(BK x&&x.ins.all (bN 0 ((n:Int)-1))&&x.outs.all (bN 0 ((n:Int)-1)))with
         |true=>
          have AV:=amW (show(es.take (k+1)).all (λe=>BK e&&e.ins.all (bN 0 ((n:Int)-1))&&e.outs.all (bN 0 ((n:Int)-1)))=true by rw[am_,Hx.out,an_,gy.out];simp only[Option.toList_some,List.all_cons,List.all_nil,hb];rfl);clear hb;go_wp2_with fail
          go_roundw;case rel=>exact⟨k+1,by omega,by go_num,AV,hd3,WJ⟩
          case measure=>simp[intOf];omega
         |false=>
          have H:=amW (show R=false by
           rw[<-HR.out,aof.2 ⟨x,am1 Hx.out,by rw[hb];decide⟩];rfl)
          clear hb;go_wp2;go_ret;exact⟨aG H.out.symm,WJ⟩
        .obtain rfl:k=es.length:=by omega
         have hall:=gy.out;rw[anf]at hall;have HR2:=amW (show Qm ⟨n,es,ins,outs⟩=R by rw[<-HR.out,hall,anL]);have hek:=λe (he:e∈es)=>ack hall he
         have l1:=Cf (es:=es) (λe he=>(hek e he).1);have l2:=FZ (es:=es) (λe he=>(hek e he).1);have hcnt:=Jp n E ec es I ic ins O oc outs wr (hE.ex he) (hI.ex he) (hO.ex he) (by omega) (λk hk=>by
          rcases anu.1 hk with hk|hk
          .have:=Hib.out k hk;omega
          .obtain⟨e,hee,hke⟩:=M5 hk;have:=(hek e hee).2.2 k hke;omega) (λk hk=>by
          rcases anu.1 hk with hk|hk
          .have:=Hob.out k hk;omega
          .obtain⟨e,hee,hke⟩:=QJ hk;have:=(hek e hee).2.1 k hke;omega) (by rw[am9];omega) (by rw[am9];omega)
         clear hall hek;obtain⟨q0,q1,q2,q3⟩:=hd.d4;go_wp2_with fail
         refine hcnt.mono ?_;rintro e w4 ⟨f,t,rfl,hf,hft,ZE,ot,x4⟩;have qO:=he.trans x4;clear hcnt q0 q1 q2 q3 hd he;change Own w4 f (kC n (ZT ⟨n,es,ins,outs⟩))at ZE;change Own w4 t (kC n (toWL ⟨n,es,ins,outs⟩))at ot;have b1:(ZT ⟨n,es,ins,outs⟩).length<=1000:=by show(ins++dV es).length<=1000;rw[am9];omega
         have b2:(toWL ⟨n,es,ins,outs⟩).length<=1000:=by show(outs++insL es).length<=1000;rw[am9];omega
         unfold Qm at HR2;generalize ZT ⟨n,es,ins,outs⟩=F at*;generalize toWL ⟨n,es,ins,outs⟩=T at*;go_wp2_with fail
         go_loopw [68] (λi wi=>∃k:Nat,k<=n/\i=.int .i64 k/\Hid ((Uk k).all (λw=>decide (w∈F)||decide (w∈T))=true)/\Own wi f (kC n F)/\Own wi t (kC n T)/\Ex w wi) (λi _=>n-(intOf i).toNat)
         case atStart=>exact⟨0,am4 _,rfl,amW rfl,ZE,ot,qO⟩
         case round=>
          clear ZE ot qO x4;obtain⟨k,hk,rfl,Xh,ZE,ot,he⟩:=hrel;by_cases hlt:k<n
          .have c1:=ZE.cell (lJ (l:=F) hlt);have c2:=ot.cell (lJ (l:=T) hlt);have e1:=vZ F (k:Int);have e2:=vZ T (k:Int);obtain⟨a,ha⟩:=xq (List.count (k:Int) F);obtain⟨b,hb⟩:=xq (List.count (k:Int) T);rw[ha]at c1 e1;rw[hb]at c2 e2;by_cases hab:a+b=0
           .have H:=amW (show R=false by
             have ha0:(k:Int)∉F:=List.count_eq_zero.1 (by omega);have hb0:(k:Int)∉T:=List.count_eq_zero.1 (by omega);rw[<-HR2.out,aof.2 ⟨(k:Int),am1 (OT (by simpa using hlt)),by simp[ha0,hb0]⟩])
            have hz:((a:Int)+(b:Int)==0)=true:=by simp;omega
            clear ha hb;go_wp2_with fail
            go_quiet (fail)
            go_wp2_with fail
            go_ret;exact⟨aG H.out.symm,he.drewN _⟩
           .have AV:=amW (show(Uk (k+1)).all (λw=>decide (w∈F)||decide (w∈T))=true by
             rw[OQ,an_,Xh.out];have:(k:Int)∈F∨(k:Int)∈T:=by
              rcases Nat.eq_zero_or_pos a with h0|h0
              .right;exact List.count_pos_iff.1 (by omega)
              .left;exact List.count_pos_iff.1 (by omega)
             simpa using this)
            have hz:((a:Int)+(b:Int)==0)=false:=by simp;omega
            clear ha hb;go_wp2_with fail
            go_quiet (fail)
            go_wp2_with fail
            go_roundw;case rel=>exact⟨k+1,by omega,by go_num,AV,ZE.drewN _,ot.drewN _,he.drewN _⟩
            case measure=>simp[intOf];omega
          .obtain rfl:k=n:=by omega
           have H:=amW (show R=true by rw[<-HR2.out];show((Uk ((k:Int).toNat)).all _)=true;rw[aoJ];exact Xh.out);go_wp2;go_ret;exact⟨aG H.out.symm,he⟩
    .rw[decide_eq_false h4]at hR;have HR:=amW hR;clear hR h1;go_enter Tryz.func39,Tryz.ntmps39
     go_wp2_with fail
     refine(hg _).mono ?_;rintro e _ ⟨rfl,rfl⟩;go_wp2;go_ret;exact⟨aG (by rw[<-HR.out];simp),y0⟩
   .rw[decide_eq_false h3]at hR;have HR:=amW hR;clear hR h1;go_enter Tryz.func39,Tryz.ntmps39
    go_wp2_with fail
    refine(hg _).mono ?_;rintro e _ ⟨rfl,rfl⟩;go_wp2;go_ret;exact⟨aG (by rw[<-HR.out];simp),y0⟩
  .rw[decide_eq_false h2]at hR;have HR:=amW hR;clear hR h1;go_enter Tryz.func39,Tryz.ntmps39
   go_wp2_with fail
   refine(hg _).mono ?_;rintro e _ ⟨rfl,rfl⟩;go_wp2;go_ret;exact⟨aG (by rw[<-HR.out];simp),y0⟩
 .have h1:bN 0 100 N=false:=by simpa using h1
  rw[h1]at hg hR;have HR:=amW hR;clear hR h1;go_enter Tryz.func39,Tryz.ntmps39
  go_wp2_with fail
  refine(hg _).mono ?_;rintro e _ ⟨rfl,rfl⟩;go_wp2;go_ret;exact⟨aG (by rw[<-HR.out];simp),y0⟩
def hgB(p:Int)(x:Gr):Bool:=aj p&&(f_ x&&x.es.all λe=>decide (e.vl<p))
theorem mg{f:α->Bool}{l:List α}{x:α}(hx:l[k]?=some x)(h:(l.take k).all f=true)(hb:f x=true):(l.take (k+1)).all f=true:=by rw[am_,hx,an_,h];simp[hb]
theorem Oh{f:α->Bool}{l:List α}{x:α}(hx:l[k]?=some x)(hb:f x=false):l.all f=false:=
 aof.2 ⟨x,am1 hx,by rw[hb];decide⟩
theorem RB(p:Int)(x:Gr)(E:Option Addr)(ec:Nat)(I:Option Addr)(ic:Nat)(O:Option Addr)(oc:Nat)(w:World)(hE:gm EE w E x.es)(hI:Rd w I x.ins)(hO:Rd w O x.outs):
 Calls prog 15 #[.int .i64 p,.agg #[.int .i64 x.aI,.slice E x.es.length ec,.slice I x.ins.length ic,.slice O x.outs.length oc]] w λe w'=>e=.returned (.bool (hgB p x))/\Ex w w':=by
 obtain⟨y0,d0,W0,hW0⟩:=VB.al w 34 #[.int .i64 x.aI,.slice E x.es.length ec,.slice I x.ins.length ic,.slice O x.outs.length oc];rw[hW0]at y0 d0;have hEl:=hE.1;have cV:=Nu x E ec I ic O oc W0 (hE.ex y0) (hI.ex y0) (hO.ex y0);obtain⟨q0,q1,q2,q3⟩:=d0.d4;have cF:=kU p W0;cases hF:aj p with
 |false=>
  have HR:=amW (show hgB p x=false by unfold hgB;rw[hF];rfl);rw[hF]at cF;clear hF;go_enter Tryz.func15,Tryz.ntmps15
  go_wp2_with fail
  refine cF.mono ?_;rintro e _ ⟨rfl,rfl⟩;go_wp2_with fail
  go_ret;exact⟨aG HR.out.symm,y0⟩
 |true=>
  rw[hF]at cF;cases hV:f_ x with
  |false=>
   have HR:=amW (show hgB p x=false by unfold hgB;rw[hF,hV];rfl);rw[hV]at cV;clear hF hV;go_enter Tryz.func15,Tryz.ntmps15
   go_wp2_with fail
   refine cF.mono ?_;rintro e _ ⟨rfl,rfl⟩;go_wp2_with fail
   refine cV.mono ?_;rintro e w2 ⟨rfl,x2⟩;go_wp2_with fail
   go_ret;exact⟨aG HR.out.symm,y0.trans x2⟩
  |true=>
   have HR:=amW (show hgB p x=x.es.all λe=>decide (e.vl<p) by unfold hgB;rw[hF,hV];rfl);rw[hV]at cV;clear hF hV;go_enter Tryz.func15,Tryz.ntmps15
   go_wp2_with fail
   refine cF.mono ?_;rintro e _ ⟨rfl,rfl⟩;go_wp2_with fail
   refine cV.mono ?_;rintro e w2 ⟨rfl,x2⟩;have d2:=d0.ex x2;have y2:=y0.trans x2;have q1:=d2.c1;clear cF cV q0 q2 q3;go_wp2_with fail
   clear q1;go_loopw [18] (λi wr=>∃k:Nat,k<=x.es.length/\i=.int .i64 k/\Hid ((x.es.take k).all (λe=>decide (e.vl<p))=true)/\Ex w wr) (λi _=>x.es.length-(intOf i).toNat)
   case atStart=>exact⟨0,am4 _,rfl,amW rfl,y2⟩
   case round=>
    clear d2 y2 d0 y0;obtain⟨k,hk,rfl,gy,he⟩:=hrel;by_cases hlt:k<x.es.length
    .obtain⟨g,off,ed,P,pc,Q,qc,eE,hx,c0,c1,c2,c3,hP,hQ⟩:=(hE.ex he).edge hlt;subst eE;have Hx:=amW hx;have he2:=he.trans ((asF wr).alloc (.cells #[.int .i64 ed.kd,.int .i64 ed.vl,.slice P ed.ins.length pc,.slice Q ed.outs.length qc] 45));clear hx;by_cases hp:ed.vl<p
     .have hp2:¬(p<=ed.vl):=by omega
      have AV:=amW (mg Hx.out gy.out (by simpa using hp));clear he;go_wp2_with fail
      go_roundw;case rel=>exact⟨k+1,by omega,by go_num,AV,he2⟩
      case measure=>simp[intOf];omega
     .have hp2:p<=ed.vl:=by omega
      have HF:=amW (Oh (f:=λe:Ed=>decide (e.vl<p)) Hx.out (by simpa using hp));clear he;go_wp2_with fail
      go_ret;exact⟨aG (by rw[HR.out,HF.out]),he2⟩
    .obtain rfl:k=x.es.length:=by omega
     have HT:=amW (show x.es.all (λe=>decide (e.vl<p))=true by have:=gy.out;rwa[anf]at this);go_wp2_with fail
     go_ret;exact⟨aG (by rw[HR.out,HT.out]),he⟩
theorem om(k:Int)(w:World):Calls prog 40 #[.int .i64 k] w λe w'=>e=.returned (.bool (decide (k≠8)&&decide (k≠14)))/\w=w':=by
 by_cases h8:k=8
 .subst h8;go_enter Tryz.func40,Tryz.ntmps40
  go_wp2_with fail
  go_ret;exact⟨rfl,rfl⟩
 .have b8:(k !=8)=true:=by simpa using h8
  by_cases mD:k=14
  .subst mD;go_enter Tryz.func40,Tryz.ntmps40
   go_wp2_with fail
   go_ret;exact⟨rfl,rfl⟩
  .have b14:(k !=14)=true:=by simpa using mD
   have e:(decide (k≠8)&&decide (k≠14))=true:=by simp[h8,mD]
   rw[e];clear h8 mD e;go_enter Tryz.func40,Tryz.ntmps40
   go_wp2_with fail
   go_ret;exact⟨rfl,rfl⟩
theorem BX{K:Type}(O:Ops K):∀(m c r:Nat) (rows:List (List K)),rows.length<=r->O.red m c r rows=(rows,r)
 |0,_,_,_,_=>rfl
 |m+1,c,r,rows,h=>by rw[Ops.red,amZ (by unfold Ops.qg;omega),BX O m (c+1) r rows h]
theorem QH(R vs:List α)(hl:R.length=vs.length)(i:Nat)(x:α)(hx:R[i]?=some x):(R.take i++vs.drop i).set i x=R.take (i+1)++vs.drop (i+1):=by
 have hi:=(am2.1 hx).1;rw[List.set_append,amZ (by rw[am8];omega),am_,hx];have:i-(R.take i).length=0:=by rw[am8];omega
 rw[this,anP];congr 1;rw[aoL (by omega:i<vs.length)];rfl
theorem CF(R vs:List α)(hl:R.length=vs.length)(i:Nat)(x:α)(hx:R[i]?=some x)(hv:vs[i]?=some x):R.take i++vs.drop i=R.take (i+1)++vs.drop (i+1):=by
 have hi:=(am2.1 hx).1;rw[am_,hx,aoL (by omega:i<vs.length)];have:vs[i]'(by omega)=x:=by rw[am0 (by omega)]at hv;injection hv
 rw[this];simp
theorem UO(R vs:List α)(hl:R.length=vs.length)(i:Nat)(hi:i<vs.length):(R.take i++vs.drop i)[i]?=vs[i]?:=by rw[anw (by rw[am8];omega),am8,anB];congr 1;omega
theorem aJ.WX(k:aJ G w w'){o:Nat}(hg:g≠G){v:Value}(h:w.cell? ⟨g,o,none⟩=some v):w'.cell? ⟨g,o,none⟩=some v:=
 (anm (w:=w) (a:=⟨g,o,none⟩) (k.block g (iM (p:=⟨g,o,none⟩) h) (λe=>by injection e with e;exact hg e))).trans h
theorem QI{R vs:List α}(hl:R.length=vs.length){x:α}(h1:R[r]?=some x)(h2:vs[r]?=some x):(R.take i++vs.drop i)[r]?=some x:=by
 have hr:=(am2.1 h1).1;by_cases e:r<i
 .rw[anN (by rw[am8];omega),anh,amY e];exact h1
 .rw[anw (by rw[am8];omega),anB,am8,Nat.min_eq_left (by omega),show i+(r-i)=r by omega];exact h2
theorem Ur{Z:List (List Int)}{zr:List Int}(BF:Z[r]?=some zr){u:List Int}(hk:k≠r)(hu:((Z.set t zr).set r l)[k]?=some u):u∈Z:=by
 rw[ang,amZ (λh=>hk h.symm),ang]at hu;split at hu
 .split at hu
  .injection hu with hu;rw[<-hu];exact am1 BF
  .cases hu
 .exact am1 hu
def iw(w:World)(A:Option Addr)(rows:List (List Int)):Prop:=
 rows.length<=1099511627776/\∀(j:Nat) (r:List Int),rows[j]?=some r->∃g b c,A=some ⟨g,0,none⟩/\w.cell? ⟨g,j,none⟩=some (.slice (some ⟨b,0,none⟩) r.length c)/\r.length<=c/\Own w b r
theorem iw.ex(h:iw w A rows)(k:Ex w w'):iw w' A rows:=⟨h.1,λj r hj=>by
 obtain⟨g,b,c,q1,q2,q3,q4⟩:=h.2 j r hj;exact⟨g,b,c,q1,af k q2,q3,q4.ex k⟩⟩
theorem iw.rdm(h:iw w A rows)(hr:∀r∈rows,r.length<=1099511627776):pI w A rows:=⟨h.1,λj r hj=>by
 obtain⟨g,b,c,q1,q2,q3,q4⟩:=h.2 j r hj;exact⟨g,0,_,c,q1,by rw[anE];exact q2,q4.rd (hr r (am1 hj))⟩⟩
theorem iw.nil(w:World)(A:Option Addr):iw w A []:=⟨by simp,λj x hj=>by simp at hj⟩
theorem IM.ad1(h:IM w G n bs rows)(hl:rows.length<=1099511627776)(k:Nat):iw w (some ⟨G,0,none⟩) (rows.take k):=by
 refine⟨anb (aoD _ _) hl,λj r hj=>?_⟩;rw[anh]at hj;split at hj
 .obtain⟨b,r',c,hc,_,hr,hrl,ho,_,hcell⟩:=h.at_ (am2.1 hj).1;rw[hj]at hr;injection hr with hr;subst hr;exact⟨G,b,c,rfl,by rw[hrl];exact hcell,by rw[hrl];exact hc,ho⟩
 .cases hj
section
variable {K : Type}
theorem KW(p a:Int)(w:World)(h2:2<=p)(h97:p<=97)(ha:0<=a/\a<p):Calls prog 71 #[.int .i64 p,.int .i64 a] w λe w'=>e=.returned (.int .i64 ((aA p).neg a))/\w=w':=by
 have e:(aA p).neg a=(p-a)%p:=by show(-a)%p=_;rw[show p-a= -a+p by omega,Int.add_emod_right]
 rw[e];clear e;go_enter Tryz.func71,Tryz.ntmps71
 go_wp2;go_ret;exact⟨by simp,rfl⟩
end
theorem UW(a b:Nat)(w:World)(ha:w.heap.size<=a)(N:Int)(E:Option Addr)(ec:Nat)(es:List Ed)(I:Option Addr)(ic:Nat)(ins:List Int)(O:Option Addr)(oc:Nat)(outs:List Int)(hE:gm EE w E es)(hI:Rd w I ins)(hO:Rd w O outs)(h1:ins.length<=12)(h2:outs.length<=12)(h3:∀e∈es,e.ins.length<=12/\e.outs.length<=12)
 (g:FuncId) (eg:∀args w,(callFunc g args).run prog w=.ok (.enter g args) w) (lb:Array Value) (Inv:List Int->World->Prop) (hm:∀l W W',Inv l W->Ex W W'->Inv l W')
 (hf:∀(l:List Int) (W:World) (A:Option Addr) (c:Nat) (xs:List Int),Inv l W->Ex w W->Rd w A xs->xs.length<=12->Calls prog g (#[.slice A xs.length c]++lb) W λe W'=>e=.returned (.tuple #[])/\Inv (l++xs) W'/\fD a b W W') (l0:List Int) (w0:World) (hb:b<=w0.heap.size) (hw:Ex w w0) (h0:Inv l0 w0):
 Calls prog 84 #[.agg #[.int .i64 N,.slice E es.length ec,.slice I ins.length ic,.slice O outs.length oc],.func (.func g) #[] lb] w0 λe w'=>e=.returned (.tuple #[])/\Inv (l0++ins++outs++gV es) w'/\fD a b w0 w':=by
 have hEl:=hE.1;have WM:=hI.len;have YN:=hO.len;obtain⟨y0,d0⟩:=VB.xn w0 34 #[.int .i64 N,.slice E es.length ec,.slice I ins.length ic,.slice O outs.length oc];have H3:=amW h3;clear h3;go_enter Tryz.func84,Tryz.ntmps84
 go_wp2_with fail
 generalize w0.alloc (.cells #[.int .i64 N,.slice E es.length ec,.slice I ins.length ic,.slice O outs.length oc] 34)=W0 at*;have hw0:=hw.trans y0;have z0:=y0.size;refine(hf l0 W0 I ic ins (hm _ _ _ h0 y0) hw0 hI h1).mono ?_;rintro e w1 ⟨rfl,i1,k1⟩;have d1:=d0.iv k1 (.inr hb);have hw1:=hw0.iv k1 ha;have z1:=k1.size;have q:=d1.c3;go_wp2_with fail
 clear q;refine(hf _ w1 O oc outs i1 hw1 hO h2).mono ?_;rintro e w2 ⟨rfl,i2,k2⟩;have d2:=d1.iv k2 (.inr hb);have hw2:=hw1.iv k2 ha;have z2:=k2.size;have kk:fD a b w0 w2:=((fD.aN y0).trans k1).trans k2;have q:=d2.c1;have e0:gV ([]:List Ed)=[]:=rfl;rw[<-anR (l0++ins++outs),<-e0]at i2;go_wp2_with fail
 clear q e0 d0 d1 hw0 hw1 i1 k1 k2;go_loopw [17] (λi wr=>∃k:Nat,k<=es.length/\i=.int .i64 k/\Inv (l0++ins++outs++gV (es.take k)) wr/\fD a b w0 wr/\Ex w wr) (λi _=>es.length-(intOf i).toNat)
 case atStart=>exact⟨0,am4 _,rfl,i2,kk,hw2⟩
 case round=>
  obtain⟨k,hk,rfl,hi,hk0,he⟩:=hrel;by_cases hlt:k<es.length
  .obtain⟨g',off,x,P,pc,Q,qc,rfl,hx,c0,c1,c2,c3,hP,hQ⟩:=hE.edge hlt;replace c0:=af he c0;replace c1:=af he c1;replace c2:=af he c2;replace c3:=af he c3;have Hx:=amW hx;have hln:=H3.out x (am1 hx);clear hx;obtain⟨y3,v3⟩:=VB.xn wr 45 #[.int .i64 x.kd,.int .i64 x.vl,.slice P x.ins.length pc,.slice Q x.outs.length qc];have hz:=hk0.size;have WL:=hP.len;have RN:=hQ.len;go_wp2_with fail
   have hcall:=hf _ _ P pc x.ins (hm _ _ _ hi y3) (he.trans y3) hP hln.1;have WJ:=he.trans y3;have kk3:=hk0.trans (fD.aN y3);clear c0 c1 c2 c3 y3 hi hk0 he;generalize wr.alloc (.cells #[.int .i64 x.kd,.int .i64 x.vl,.slice P x.ins.length pc,.slice Q x.outs.length qc] 45)=W3 at*;refine hcall.mono ?_;rintro e w4 ⟨rfl,i4,k4⟩;have v4:=v3.iv k4 (.inr (by omega));have qO:=WJ.iv k4 ha;have kk4:=kk3.trans k4;clear hcall v3 WJ kk3 k4;have q3:=v4.c3;go_wp2_with fail
   refine(hf _ _ Q qc x.outs i4 qO hQ hln.2).mono ?_;rintro e w5 ⟨rfl,i5,k5⟩;rw[anP,anP,<-anP (gV _),anP (gV _),<-JK Hx.out]at i5;have WI:=qO.iv k5 ha;have kk5:=kk4.trans k5;clear q3 v4 qO kk4 i4;go_wp2_with fail
   go_roundw;case rel=>exact⟨k+1,by omega,by go_num,i5,kk5,WI⟩
   case measure=>simp[intOf];omega
  .obtain rfl:k=es.length:=by omega
   rw[anf]at hi;go_wp2
   go_end0
   exact⟨rfl,hi,hk0⟩
def Seen(bg q bs bc sb n:Nat)(gc:Array Value)(l:List Int)(W:World):Prop:=
 VB W bg 34 gc/\VB W q 4 #[.bool (l.all (bN 0 ((n:Int)-1)))]/\VB W bs 102 #[.slice (some ⟨sb,0,none⟩) n n]/\VB W bc 3 #[.int .i64 ((fG n l).count true:Nat)]/\VB W sb 4 (lC (fG n l))
theorem Seen.ex{bg q bs bc sb:Nat}{gc:Array Value}{W W':World}(h:Seen bg q bs bc sb n gc l W)(he:Ex W W'):Seen bg q bs bc sb n gc l W':=
 ⟨h.1.ex he,h.2.1.ex he,h.2.2.1.ex he,h.2.2.2.1.ex he,h.2.2.2.2.ex he⟩
theorem UQ(a b bg q bs bc sb n:Nat)(gc:Array Value)(hgc:gc[0]?=some (.int .i64 n))(hn:n<=100)(h1:bg≠q/\bg≠bc/\bg≠sb/\q≠bs/\q≠bc/\q≠sb/\bs≠bc/\bs≠sb/\bc≠sb)(h2:a<=q/\q<b/\a<=bc/\bc<b/\a<=sb/\sb<b)
 (w:World) (hwa:w.heap.size<=a) (l:List Int) (W:World) (A:Option Addr) (c:Nat) (xs:List Int) (hS:Seen bg q bs bc sb n gc l W) (hw:Ex w W) (hR:Rd w A xs):
 Calls prog 85 #[.slice A xs.length c,.pointer (some ⟨bg,0,none⟩),.pointer (some ⟨q,0,none⟩),.pointer (some ⟨bs,0,none⟩),.pointer (some ⟨bc,0,none⟩)] W λe W'=>e=.returned (.tuple #[])/\Seen bg q bs bc sb n gc (l++xs) W'/\fD a b W W':=by
 have hxl:=hR.len;rw[<-anR l]at hS;go_enter Tryz.func85,Tryz.ntmps85
 go_wp2_with fail
 go_loopw [10] (λi wr=>∃j:Nat,j<=xs.length/\i=.int .i64 j/\Seen bg q bs bc sb n gc (l++xs.take j) wr/\fD a b W wr) (λi _=>xs.length-(intOf i).toNat)
 case atStart=>exact⟨0,am4 _,rfl,hS,fD.refl _ _ _⟩
 case round=>
  clear hS;obtain⟨j,hj,rfl,⟨sg,sq,ss,sc,sv⟩,hI⟩:=hrel;by_cases hlt:j<xs.length
  .obtain⟨g',off,x,rfl,hx,hg',hc'⟩:=(hR.ex (hw.iv hI hwa)).at_ hlt;have c0:=sg.cell 0 (v:=.int .i64 n) hgc;have Htk:=amW (show l++xs.take (j+1)=(l++xs.take j)++[x] by rw[am_,hx,anP];rfl);clear hx;have hwi:=λW=>gK x 0 ((n:Int)-1) W
   generalize l++xs.take j=L at*;go_wp2_with fail
   refine(hwi _).mono ?_;rintro e _ ⟨rfl,rfl⟩;cases hr:bN 0 ((n:Int)-1) x with
   |false=>
    have q0:=sq.c0;have f0:=sq.frozen 0;have sq2:=sq.aX 0 (.bool false);have E1:aJ q wr (wr.setCell ⟨q,0,none⟩ (.bool false)):=(aJ.refl _ _).setCell rfl _;have sg2:=sg.aM E1 (by omega);have ss2:=ss.aM E1 (by omega);have sc2:=sc.aM E1 (by omega);have ZC:=sv.aM E1 (by omega);have e1:(L++[x]).all (bN 0 ((n:Int)-1))=false:=by simp[hr]
    have e2:=LU n L hr;have HS:Seen bg q bs bc sb n gc (l++xs.take (j+1)) (wr.setCell ⟨q,0,none⟩ (.bool false)):=by
     rw[Htk.out];refine⟨sg2,?_,ss2,?_,?_⟩
     .rw[e1];exact sq2
     .rw[e2];exact sc2
     .rw[e2];exact ZC
    have hI2:=hI.trans ((fD.a_ E1).widen (a':=a) (b':=b) (by omega) (by omega));clear hr e1 e2 sg2 sq2 ss2 sc2 ZC E1 sg ss sc sv hI;go_wp2_with fail
    go_roundw;case rel=>exact⟨j+1,by omega,by go_num,HS,hI2⟩
    case measure=>simp[intOf];omega
   |true=>
    have hb:=zS hr;obtain⟨k,rfl⟩:=an0 hb.1;have hkn:k<n:=by omega
    have e1:(L++[(k:Int)]).all (bN 0 ((n:Int)-1))=L.all (bN 0 ((n:Int)-1)):=by simp[hr]
    have e2:=Pm n L k;have hl:=jA n L;have hcl:(fG n L).count true<=n:=by have:=List.count_le_length (a:=true) (l:=fG n L);omega
    have hat:=kL (l:=L) hkn;have q1:=ss.c0;clear hr;obtain⟨bb,hbb⟩:=xq (decide ((k:Int)∈L));rw[hbb]at hat;clear hbb;have q2:=sv.acv hat;cases bb with
    |true=>
     rw[set_self hat]at e2;have HS:Seen bg q bs bc sb n gc (l++xs.take (j+1)) wr:=by
      rw[Htk.out];refine⟨sg,?_,ss,?_,?_⟩
      .rw[e1];exact sq
      .rw[e2];exact sc
      .rw[e2];exact sv
     clear e1 e2 hat sg ss sc sv;go_wp2_with fail
     go_roundw;case rel=>exact⟨j+1,by omega,by go_num,HS,hI⟩
     case measure=>simp[intOf];omega
    |false=>
     have e3:=SY hat;rw[<-e2]at e3;have q3:=sc.c0;have f1:=sv.frozen k;have ZC:=sv.afL k true;rw[<-e2]at ZC;have E1:aJ sb wr (wr.setCell ⟨sb,k,none⟩ (.bool true)):=(aJ.refl _ _).setCell rfl _;have sc1:=sc.aM E1 (by omega);have q4:=sc1.c0;have f2:=sc1.frozen 0;have sc2:=sc1.aX 0 (.int .i64 (((fG n L).count true:Nat)+1));have E2:aJ bc (wr.setCell ⟨sb,k,none⟩ (.bool true)) ((wr.setCell ⟨sb,k,none⟩ (.bool true)).setCell ⟨bc,0,none⟩ (.int .i64 (((fG n L).count true:Nat)+1))):=(aJ.refl _ _).setCell rfl _;have HS:Seen bg q bs bc sb n gc (l++xs.take (j+1)) ((wr.setCell ⟨sb,k,none⟩ (.bool true)).setCell ⟨bc,0,none⟩ (.int .i64 (((fG n L).count true:Nat)+1))):=by
      rw[Htk.out];refine⟨(sg.aM E1 (by omega)).aM E2 (by omega),?_,(ss.aM E1 (by omega)).aM E2 (by omega),?_,ZC.aM E2 (by omega)⟩
      .rw[e1];exact(sq.aM E1 (by omega)).aM E2 (by omega)
      .rw[e3];exact sc2
     have hI2:=(hI.trans ((fD.a_ E1).widen (a':=a) (b':=b) (by omega) (by omega))).trans ((fD.a_ E2).widen (a':=a) (b':=b) (by omega) (by omega));clear e1 e2 e3 hat sg ss sc sv sc1 sc2 ZC E1 E2 hl;generalize hcc:List.count true (fG n L)=cc at*;clear hcc;go_wp2_with fail
     go_roundw;case rel=>exact⟨j+1,by omega,by go_num,HS,hI2⟩
     case measure=>simp[intOf];omega
  .obtain rfl:j=xs.length:=by omega
   rw[anf]at sq sc sv;go_wp2
   go_end0
   exact⟨rfl,⟨sg,sq,ss,sc,sv⟩,hI⟩
theorem xI:∀args w,(callFunc 85 args).run prog w=.ok (.enter 85 args) w:=enters_of Tryz.func85 (by kernel_rfl) rfl
theorem Nh(x:Gr)(E:Option Addr)(ec:Nat)(I:Option Addr)(ic:Nat)(O:Option Addr)(oc:Nat)(w:World)(hE:gm EE w E x.es)(hI:Rd w I x.ins)(hO:Rd w O x.outs):
 Calls prog 52 #[.agg #[.int .i64 x.aI,.slice E x.es.length ec,.slice I x.ins.length ic,.slice O x.outs.length oc]] w λe w'=>e=.returned (.bool (f_ x))/\Ex w w':=by
 obtain⟨N,es,ins,outs⟩:=x;dsimp only at hE hI hO⊢;have hEl:=hE.1;have WM:=hI.len;have YN:=hO.len;have hg:=λW=>gK N 0 100 W
 obtain⟨y0,d0⟩:=VB.xn w 34 #[.int .i64 N,.slice E es.length ec,.slice I ins.length ic,.slice O outs.length oc];have S0:=amW (show(w.alloc (.cells #[.int .i64 N,.slice E es.length ec,.slice I ins.length ic,.slice O outs.length oc] 34)).heap.size=w.heap.size+1 by simp);cases hd:JF ⟨N,es,ins,outs⟩with
 |false=>
  have H:=amW (show f_ ⟨N,es,ins,outs⟩=false by simp[f_,hd]);simp only[JF]at hd;cases h1:bN 0 100 N with
  |false=>
   rw[h1]at hg;clear hd h1;go_enter Tryz.func52,Tryz.ntmps52
   go_wp2_with fail
   refine(hg _).mono ?_;rintro e _ ⟨rfl,rfl⟩;go_wp2;go_ret;exact⟨aG (by rw[H.out]),y0⟩
  |true=>
   rw[h1,anL]at hd;rw[h1]at hg;clear h1;have hd':60<es.length∨12<ins.length∨12<outs.length:=by simp only[Bool.and_eq_false_iff,decide_eq_false_iff_not]at hd;omega
   have hb:(decide (60<(es.length:Int))||decide (12<(ins.length:Int))||decide (12<(outs.length:Int)))=true:=by simp only[aoI,decide_eq_true_eq];omega
   clear hd;go_enter Tryz.func52,Tryz.ntmps52
   go_wp2_with fail
   refine(hg _).mono ?_;rintro e _ ⟨rfl,rfl⟩;go_wp2
   all_goals go_ret
   all_goals exact⟨aG (by rw[H.out]),y0⟩
 |true=>
  have hp:0<=N/\N<=100/\es.length<=60/\ins.length<=12/\outs.length<=12:=by have:=hd;simp only[JF,bN,anx,decide_eq_true_eq]at this;omega
  obtain⟨p0,p1,p2,p3,p4⟩:=hp;obtain⟨n,rfl⟩:=an0 p0;have Hd:=amW hd;rw[show bN 0 100 (n:Int)=true by simp[bN];omega]at hg;have hmk:=λW=>yR n (by omega) W
  clear hd;go_enter Tryz.func52,Tryz.ntmps52
  go_wp2_with fail
  refine(hg _).mono ?_;rintro e _ ⟨rfl,rfl⟩;clear hg;go_wp2_with fail
  generalize w.alloc (.cells #[.int .i64 n,.slice E es.length ec,.slice I ins.length ic,.slice O outs.length oc] 34)=W0 at*;go_loopw [33] (λi wr=>∃k:Nat,k<=es.length/\i=.int .i64 k/\Hid ((es.take k).all BK=true)/\VB wr w.heap.size 34 #[.int .i64 n,.slice E es.length ec,.slice I ins.length ic,.slice O outs.length oc]/\Ex w wr) (λi _=>es.length-(intOf i).toNat)
  case atStart=>exact⟨0,am4 _,rfl,amW rfl,d0,y0⟩
  case round=>
   obtain⟨k,hk,rfl,gy,hd,he⟩:=hrel;by_cases hlt:k<es.length
   .obtain⟨g,off,x,P,pc,Q,qc,rfl,hx,c0,c1,c2,c3,hP,hQ⟩:=(hE.ex he).edge hlt;have Hx:=amW hx;have y3:=(asF wr).alloc (.cells #[.int .i64 x.kd,.int .i64 x.vl,.slice P x.ins.length pc,.slice Q x.outs.length qc] 45);clear hx;have hh:=λW=>Rb x.kd x.vl P x.ins.length pc Q x.outs.length qc W hP.len hQ.len
    have hd2:=hd.ex y3;have he2:=he.trans y3;go_wp2_with fail
    generalize wr.alloc (.cells #[.int .i64 x.kd,.int .i64 x.vl,.slice P x.ins.length pc,.slice Q x.outs.length qc] 45)=W3 at*;refine(hh W3).mono ?_;rintro e w4 ⟨rfl,x4⟩;have hd3:=hd2.ex x4;have WJ:=he2.trans x4;clear hh hd he hd2 he2 c0 c1 c2 c3;rw[show OC x.kd x.vl x.ins.length x.outs.length=BK x from rfl];cases hb:BK x with
    |true=>
     have AV:=amW (show(es.take (k+1)).all BK=true by rw[am_,Hx.out,an_,gy.out];simp[hb]);clear hb;go_wp2_with fail
     go_roundw;case rel=>exact⟨k+1,by omega,by go_num,AV,hd3,WJ⟩
     case measure=>simp[intOf];omega
    |false=>have H:=amW (Iq (x:=⟨n,es,ins,outs⟩) (am1 Hx.out) hb);clear hb;go_wp2;go_ret;exact⟨aG H.out.symm,WJ⟩
   .obtain rfl:k=es.length:=by omega
    have hall:=gy.out;rw[anf]at hall;have HV:=amW (EB Hd.out hall);have hlen:=λe he=>Ee (anl.1 hall e he)
    have HL:=amW hlen;clear hall hlen;have q0:=hd.c0;have yy:=((((asF wr).alloc (.cells (lC (replicate n false)) 4)).alloc (.cells #[.slice (some ⟨wr.heap.size,0,none⟩) n n] 102)).alloc (.cells #[.bool true] 4)).alloc (.cells #[.int .i64 0] 3);have r0:=(hd.ex yy).c0;have r1:=(hd.ex yy).c1;have r2:=(hd.ex yy).c2;have r3:=(hd.ex yy).c3;have u1:=VB.new wr 4 (lC (replicate n false));have z1:=amW (show(wr.alloc (.cells (lC (replicate n false)) 4)).heap.size=wr.heap.size+1 by simp);have u2:=VB.new (wr.alloc (.cells (lC (replicate n false)) 4)) 102 #[.slice (some ⟨wr.heap.size,0,none⟩) n n];rw[z1.out]at u2;have z2:=amW (show((wr.alloc (.cells (lC (replicate n false)) 4)).alloc (.cells #[.slice (some ⟨wr.heap.size,0,none⟩) n n] 102)).heap.size=wr.heap.size+1+1 by simp);have u3:=VB.new ((wr.alloc (.cells (lC (replicate n false)) 4)).alloc (.cells #[.slice (some ⟨wr.heap.size,0,none⟩) n n] 102)) 4 #[.bool true];rw[z2.out]at u3;have z3:=amW (show(((wr.alloc (.cells (lC (replicate n false)) 4)).alloc (.cells #[.slice (some ⟨wr.heap.size,0,none⟩) n n] 102)).alloc (.cells #[.bool true] 4)).heap.size=wr.heap.size+1+1+1 by simp);have u4:=VB.new (((wr.alloc (.cells (lC (replicate n false)) 4)).alloc (.cells #[.slice (some ⟨wr.heap.size,0,none⟩) n n] 102)).alloc (.cells #[.bool true] 4)) 3 #[.int .i64 0];rw[z3.out]at u4;have z4:((((wr.alloc (.cells (lC (replicate n false)) 4)).alloc (.cells #[.slice (some ⟨wr.heap.size,0,none⟩) n n] 102)).alloc (.cells #[.bool true] 4)).alloc (.cells #[.int .i64 0] 3)).heap.size=wr.heap.size+1+1+1+1:=by simp
    have hS:Seen w.heap.size (wr.heap.size+1+1) (wr.heap.size+1) (wr.heap.size+1+1+1) wr.heap.size n #[.int .i64 n,.slice E es.length ec,.slice I ins.length ic,.slice O outs.length oc] [] ((((wr.alloc (.cells (lC (replicate n false)) 4)).alloc (.cells #[.slice (some ⟨wr.heap.size,0,none⟩) n n] 102)).alloc (.cells #[.bool true] 4)).alloc (.cells #[.int .i64 0] 3)):=by
     refine⟨hd.ex yy,u3.ex ((asF _).alloc _),u2.ex (((asF _).alloc _).alloc _),?_,?_⟩
     .rw[BQ,List.count_replicate];exact u4
     .rw[BQ];exact u1.ex ((((asF _).alloc _).alloc _).alloc _)
    have hsz:=he.size;have hdl:=hd.lt;go_wp2_with fail
    generalize((((wr.alloc (.cells (lC (replicate n false)) 4)).alloc (.cells #[.slice (some ⟨wr.heap.size,0,none⟩) n n] 102)).alloc (.cells #[.bool true] 4)).alloc (.cells #[.int .i64 0] 3))=W4 at*;clear u1 u2 u3 u4 z1 z2 z3 r0 r1 r2 r3 q0;have qO:=he.trans yy;refine(UW wr.heap.size (wr.heap.size+1+1+1+1) w hsz n E ec es I ic ins O oc outs hE hI hO p3 p4 (λe he=>by have:=HL.out e he;omega)
     85 xI #[.pointer (some ⟨w.heap.size,0,none⟩),.pointer (some ⟨wr.heap.size+1+1,0,none⟩),.pointer (some ⟨wr.heap.size+1,0,none⟩),.pointer (some ⟨wr.heap.size+1+1+1,0,none⟩)]
     (Seen w.heap.size (wr.heap.size+1+1) (wr.heap.size+1) (wr.heap.size+1+1+1) wr.heap.size n #[.int .i64 n,.slice E es.length ec,.slice I ins.length ic,.slice O outs.length oc])
     (λl W W' h x=>h.ex x)
     (λl W A c xs h x hR _=>UQ wr.heap.size (wr.heap.size+1+1+1+1) _ _ _ _ _ n _ rfl (by omega) (by omega) (by omega) w hsz l W A c xs h x hR) [] W4 (by omega) qO hS).mono ?_
    rintro e w5 ⟨rfl,⟨sg,sq,ss,sc,sv⟩,k5⟩;rw[aon]at sq sc;have WI:=qO.iv k5 hsz;have q1:=sq.c0;have q2:=sc.c0;have q3:=sg.c0;clear hS k5 qO yy sq sc sv ss sg;generalize ins++outs++gV es=L at*;obtain⟨ok,hok⟩:=xq (L.all (bN 0 ((n:Int)-1)));obtain⟨cc,hcc⟩:=xq (List.count true (fG n L));have HV:=HV.out;rw[hok]at q1 HV;rw[hcc]at q2 HV;have HV:=amW HV;clear hok hcc;cases ok with
    |true=>
     go_wp2
     all_goals go_ret
     all_goals exact⟨aG (by rw[HV.out];first|rfl|simp),WI⟩
    |false=>
     go_wp2
     all_goals go_ret
     all_goals exact⟨aG (by rw[HV.out];first|rfl|simp),WI⟩
theorem TF(p:Int)(G n:Nat)(bs:List Nat)(rows:List (List Int))(R c i k:Nat)(b:Int)(w:World)(h:IM w G n bs rows)(hR:rows.length=R)(hi:i<R)(hk:k<R)(hne:i≠k)(_:R<=1000):
 Calls prog 171 #[.agg #[.int .i64 0,.int .i64 i,.int .i64 k,.int .i64 b],.int .i64 p,.slice (some ⟨G,0,none⟩) R c] w λe w'=>∃bs' ri rk,e=.returned (.tuple #[])/\rows[i]?=some ri/\rows[k]?=some rk/\IM w' G n bs' ((rows.set i rk).set k ri)/\(∀z:Nat,z∈bs'->z∈bs)/\aJ G w w':=by
 obtain⟨bi,ri,ci,hci,hbi,nI,hrl,ho,hng,c0⟩:=h.at_ (j:=i) (by omega);obtain⟨bk,rk,ck,hck,hbk,hrk,hrl2,ho2,aj5,c1⟩:=h.at_ (j:=k) (by omega);obtain⟨y0,d0⟩:=VB.xn w 164 #[.int .i64 0,.int .i64 i,.int .i64 k,.int .i64 b];have h':=h.ex y0;go_enter Tryz.func171,Tryz.ntmps171
 go_wp2_with fail
 generalize w.alloc (.cells #[.int .i64 0,.int .i64 i,.int .i64 k,.int .i64 b] 164)=W0 at*;have q1:=d0.c1;have q2:=d0.c2;have q0:=d0.c0;have c0':=af y0 c0;have c1':=af y0 c1;have z0:=h'.frozen i;have z1:=h'.frozen k;have HS:=amW (h'.swap hbi hbk nI hrk hci hck);have Hri:=amW nI;have Hrk:=amW hrk;have hgl:=h.lt;have hg1:¬w.heap.size=G:=by omega
 have hg2:¬G=w.heap.size:=by omega
 have hne2:¬k=i:=λe=>hne e.symm
 have hne1:¬i=k:=hne;have HB:=amW (show∀z:Nat,z∈(bs.set i bk).set k bi->z∈bs from λz hz=>by
  rcases aoz hz with hz|rfl
  .rcases aoz hz with hz|rfl
   .exact hz
   .exact am1 hbk
  .exact am1 hbi)
 clear c0 c1 h h' nI hrk hbi hbk hrl hrl2 ho ho2 hR hci hck
 go_region
 all_goals
  go_wp2_with fail
  first|rw[anU]|skip
  refine bodyPost_end (results_none rfl _ _ _) rfl ?_;exact⟨_,ri,rk,rfl,Hri.out,Hrk.out,HS.out.ex (asF _).drew,HB.out,(aJ.aN y0).trans (((aJ.refl G _).setCell (p:=⟨G,i,none⟩) rfl _).setCell (p:=⟨G,k,none⟩) rfl _).drew⟩
theorem TH(p:Int)(G n:Nat)(bs:List Nat)(rows:List (List Int))(R c i bi:Nat)(b o:Int)(ri:List Int)(w:World)(h:IM w G n bs rows)(hR:rows.length=R)(nI:rows[i]?=some ri)(hbi:bs[i]?=some bi)(h2:2<=p)(h97:p<=97)(hb:0<=b/\b<p)(he:av p ri=true)(hn:n<=1000)(_:R<=1000):
 Calls prog 171 #[.agg #[.int .i64 1,.int .i64 i,.int .i64 o,.int .i64 b],.int .i64 p,.slice (some ⟨G,0,none⟩) R c] w λe w'=>e=.returned (.tuple #[])/\IM w' G n bs (rows.set i (pW p (bO p b) ri n))/\aJ bi w w':=by
 have hi:i<R:=by have:=(am2.1 nI).1;omega
 obtain⟨bi',ri',ci,hci,DN,pY,hrl,ho,hng,c0⟩:=h.at_ (j:=i) (by omega);rw[nI]at pY;injection pY with pY;subst pY;rw[hbi]at DN;injection DN with DN;subst DN;obtain⟨y0,d0⟩:=VB.xn w 164 #[.int .i64 1,.int .i64 i,.int .i64 o,.int .i64 b];have h':=h.ex y0;have hlt:=ho.lt;have o0:=ho.ex y0;have Hrl:=amW hrl;have Hbi:=amW hbi;have He:=amW he;have hib:=jL (p:=p) b h2;clear hrl hbi he ho h hR nI;go_enter Tryz.func171,Tryz.ntmps171
 go_wp2_with fail
 refine(mW p b _ h2 h97 hb).mono ?_;rintro e _ ⟨rfl,rfl⟩;generalize w.alloc (.cells #[.int .i64 1,.int .i64 i,.int .i64 o,.int .i64 b] 164)=W0 at*;obtain⟨k,hk⟩:=xq (bO p b);have Hk:=amW hk;rw[hk]at hib⊢;clear hk;have q1:=d0.c1;have c0':=af y0 c0;clear c0;go_wp2_with fail
 go_loopw [43] (λs43 wr=>∃j:Nat,j<=n/\s43=.int .i64 j/\Own wr bi (pW p k ri j)/\aJ bi W0 wr) (λs43 _=>n-(intOf s43).toNat)
 case atStart=>exact⟨0,am4 _,rfl,by rw[MX];exact o0,aJ.refl _ _⟩
 case round=>
  rename World=>wl;obtain⟨j,hj,rfl,hO,hk1⟩:=hrel;have g1:=aJ.WX hk1 (λe=>hng e.symm) c0';have g0:=aJ.WX hk1 (by omega) q1;by_cases hjn:j<n
  .obtain⟨y,hy⟩:∃y,ri[j]?=some y:=⟨_,am0 (by rw[Hrl.out];exact hjn)⟩;have hyb:=bI He.out hy;have g2:=hO.cell ((UL (p:=p) (k:=k) (by rw[Hrl.out];exact hjn)).trans hy);have g3:=hO.frozen j;have HS:=amW (MZ (p:=p) (k:=k) hy);have hm:=sj (x:=y) (y:=k) ⟨by omega,by omega⟩ ⟨by omega,by omega⟩;have u2:IntKind.i64.wrap (y*k)=y*k:=ant _ (by omega);have u4:(y*k).tmod p=y*k%p:=Int.tmod_eq_emod_of_nonneg (by omega);have hp0:¬p=0:=by omega
   clear hy;go_wp2_with fail
   go_still_tail 12,(by kernel_rfl)
   change wpList _ _ _ _ _ wl.drew;go_wp2_with fail
   go_roundw;case rel=>exact⟨j+1,by omega,by go_num,by rw[<-HS.out];exact hO.drew.aX _ _,hk1.drew.setCell rfl _⟩
   case measure=>simp[intOf];omega
  .have hjj:j=n:=by omega
   subst hjj;have KJ:=h'.turn Hbi.out hO (by rw[FH (by rw[Hrl.out];exact amX _),Hrl.out]) hk1;clear h' hO o0 g1 g0;go_wp2_with fail
   first|rw[anU]|skip
   refine bodyPost_end (results_none rfl _ _ _) rfl ?_;rw[Hk.out];exact⟨rfl,KJ,(aJ.aN y0).trans hk1⟩
theorem JM{u:List Int}(h:u.length=l.length):bA p u 0 (-f) l=(aA p).less u f l:=by
 apply anG;intro j;by_cases hj:j<u.length
 .have e1:=Kz (p:=p) (f:=f) (am0 hj) (am0 (by omega:j<l.length));rw[e1];unfold bA;rw[am7,List.getElem?_range hj];show some (if 0<=j/\j-0<l.length then(cf u j+ -f*cf l (j-0))%p else cf u j)=_;rw[amY ⟨am4 _,by omega⟩,Nat.sub_zero,iW (am0 hj),iW (am0 (by omega:j<l.length))];congr 1;rw[show u[j]+ -f*l[j]'(by omega)=u[j]-f*l[j]'(by omega) by rw[Int.neg_mul];omega];simp
 .rw[anz (by rw[aS];omega),anz (by rw[vT _ h];omega)]
theorem TG(p:Int)(G n:Nat)(bs:List Nat)(rows:List (List Int))(R c i k bi:Nat)(b:Int)(ri rk:List Int)(w:World)(h:IM w G n bs rows)(hR:rows.length=R)(nI:rows[i]?=some ri)(hrk:rows[k]?=some rk)(hbi:bs[i]?=some bi)(hne:i≠k)(h2:2<=p)(h97:p<=97)(hb:0<=b/\b<p)(he:av p ri=true)(he2:av p rk=true)(hn:n<=1000)(_:R<=1000):
 Calls prog 171 #[.agg #[.int .i64 2,.int .i64 i,.int .i64 k,.int .i64 b],.int .i64 p,.slice (some ⟨G,0,none⟩) R c] w λe w'=>e=.returned (.tuple #[])/\IM w' G n bs (rows.set i ((aA p).less ri b rk))/\aJ bi w w':=by
 have hi:i<R:=by have:=(am2.1 nI).1;omega
 have hk:k<R:=by have:=(am2.1 hrk).1;omega
 obtain⟨bi',ri',ci,hci,DN,pY,hrl,ho,hng,c0⟩:=h.at_ (j:=i) (by omega);rw[nI]at pY;injection pY with pY;subst pY;rw[hbi]at DN;injection DN with DN;subst DN;obtain⟨bk,rk',ck,hck,hbk,xD,U7,hok,aj4,c1⟩:=h.at_ (j:=k) (by omega);rw[hrk]at xD;injection xD with xD;subst xD;have hbb:bk≠bi:=λe=>hne (h.nd i k bi hbi (e▸hbk))
 obtain⟨y0,d0⟩:=VB.xn w 164 #[.int .i64 2,.int .i64 i,.int .i64 k,.int .i64 b];have h':=h.ex y0;have o0:=ho.ex y0;have r0:=(hok.ex y0).rd (by omega);have HA:=amW (JM (p:=p) (f:=b) (u:=ri) (l:=rk) (by omega));have cA:=qm p bi 0 n ci ri (-b) (some ⟨bk,0,none⟩) ck rk _ o0.drew (by omega) r0.drew (by omega) (λ_ a e=>by injection e with e;rw[<-e];exact hbb) h2 h97 he he2 ⟨by omega,by omega⟩;have Hl:=amW (show((aA p).less ri b rk).length=n by rw[vT _ (by omega),hrl]);have Hbi:=amW hbi;have c0':=af y0 c0;have c1':=af y0 c1;have q1:=d0.c1;have q2:=d0.c2;have q3:=d0.c3;rw[HA.out,U7]at cA;clear hrl hbi he he2 ho hok h hR nI hrk c0 c1 o0 r0 HA U7;go_enter Tryz.func171,Tryz.ntmps171
 go_wp2_with fail
 generalize w.alloc (.cells #[.int .i64 2,.int .i64 i,.int .i64 k,.int .i64 b] 164)=W0 at*
 go_still_tail 14,(by kernel_rfl)
 change wpList _ _ _ _ _ W0.drew;go_wp2_with fail
 refine cA.mono ?_;rintro e w1 ⟨rfl,o1,k1⟩;have KJ:=h'.turn Hbi.out o1 Hl.out (aJ.trans (aJ.refl _ W0).drew k1);have kk:=aJ.trans (aJ.aN y0.drew) k1;clear cA h' o1 k1;go_wp2_with fail
 first|rw[anU]|skip
 refine bodyPost_end (results_none rfl _ _ _) rfl ?_;exact⟨rfl,KJ,kk⟩
theorem Og(p:Int)(H R c i k:Nat)(b:Int)(w:World)(h:nG w H R)(hi:i<R)(hk:k<R)(hne:i≠k)(_:R<=1000):
 Calls prog 171 #[.agg #[.int .i64 0,.int .i64 i,.int .i64 k,.int .i64 b],.int .i64 p,.slice (some ⟨H,0,none⟩) R c] w λe w'=>e=.returned (.tuple #[])/\nG w' H R/\aJ H w w':=by
 obtain⟨y0,d0⟩:=VB.xn w 164 #[.int .i64 0,.int .i64 i,.int .i64 k,.int .i64 b];have q1:=d0.c1;have q2:=d0.c2;have hlt:=h.lt;have h':=h.keep (y0.block hlt);have c0:=h'.cell hi;have c1:=h'.cell hk;have z0:=h'.frozen i;have z1:=h'.frozen k;have hg1:¬w.heap.size=H:=by omega
 have hg2:¬H=w.heap.size:=by omega
 have hne2:¬k=i:=λe=>hne e.symm
 go_enter Tryz.func171,Tryz.ntmps171
 go_wp2_with fail
 generalize w.alloc (.cells #[.int .i64 0,.int .i64 i,.int .i64 k,.int .i64 b] 164)=W0 at*;have hN:=((h'.set i).set k).keep (w':=((W0.setCell ⟨H,i,none⟩ (.slice none 0 0)).setCell ⟨H,k,none⟩ (.slice none 0 0)).drew) rfl;clear h h'
 go_region
 all_goals
  go_wp2_with fail
  first|rw[anU]|skip
  refine bodyPost_end (results_none rfl _ _ _) rfl ?_;exact⟨rfl,hN,(aJ.aN y0).trans (((aJ.refl H _).setCell (p:=⟨H,i,none⟩) rfl _).setCell (p:=⟨H,k,none⟩) rfl _).drew⟩
theorem Oe(p:Int)(H R c i:Nat)(o b:Int)(w:World)(h:nG w H R)(hi:i<R)(h2:2<=p)(h97:p<=97)(hb:0<=b/\b<p)(_:R<=1000):
 Calls prog 171 #[.agg #[.int .i64 1,.int .i64 i,.int .i64 o,.int .i64 b],.int .i64 p,.slice (some ⟨H,0,none⟩) R c] w λe w'=>e=.returned (.tuple #[])/\Ex w w':=by
 obtain⟨y0,d0⟩:=VB.xn w 164 #[.int .i64 1,.int .i64 i,.int .i64 o,.int .i64 b];have q1:=d0.c1;have h':=h.keep (y0.block h.lt);have c0:=h'.cell hi;go_enter Tryz.func171,Tryz.ntmps171
 go_wp2_with fail
 refine(mW p b _ h2 h97 hb).mono ?_;rintro e _ ⟨rfl,rfl⟩;generalize w.alloc (.cells #[.int .i64 1,.int .i64 i,.int .i64 o,.int .i64 b] 164)=W0 at*;go_wp2_with fail
 go_loopw [43] (λs43 wr=>s43=.int .i64 0/\W0=wr) (λ_ _=>0)
 case atStart=>exact⟨rfl,rfl⟩
 case round=>
  obtain⟨rfl,rfl⟩:=hrel;go_wp2_with fail
  first|rw[anU]|skip
  refine bodyPost_end (results_none rfl _ _ _) rfl ?_;exact⟨rfl,y0⟩
theorem G9(p b:Int)(w:World):Calls prog 134 #[.int .i64 p,.slice none 0 0,.int .i64 b,.slice none 0 0] w λe w'=>e=.returned (.tuple #[])/\w=w':=by
 go_enter Tryz.func134,Tryz.ntmps134
 go_wp2;go_loopw [12] (λs12 wr=>s12=.int .i64 0/\w=wr) (λ_ _=>0)
 case atStart=>exact⟨rfl,rfl⟩
 case round=>
  obtain⟨rfl,rfl⟩:=hrel;go_wp2
  first|rw[anU]|skip
  refine bodyPost_end (results_none rfl _ _ _) rfl ?_;exact⟨rfl,rfl⟩
theorem Oc(p:Int)(H R c i k:Nat)(b:Int)(w:World)(h:nG w H R)(hi:i<R)(hk:k<R)(h2:2<=p)(h97:p<=97)(hb:0<=b/\b<p)(_:R<=1000):
 Calls prog 171 #[.agg #[.int .i64 2,.int .i64 i,.int .i64 k,.int .i64 b],.int .i64 p,.slice (some ⟨H,0,none⟩) R c] w λe w'=>e=.returned (.tuple #[])/\Ex w w':=by
 obtain⟨y0,d0⟩:=VB.xn w 164 #[.int .i64 2,.int .i64 i,.int .i64 k,.int .i64 b];have q1:=d0.c1;have q2:=d0.c2;have q3:=d0.c3;have h':=h.keep (y0.block h.lt);have c0:=h'.cell hi;have c1:=h'.cell hk;go_enter Tryz.func171,Tryz.ntmps171
 go_wp2_with fail
 generalize w.alloc (.cells #[.int .i64 2,.int .i64 i,.int .i64 k,.int .i64 b] 164)=W0 at*
 go_still_tail 14,(by kernel_rfl)
 change wpList _ _ _ _ _ W0.drew;go_wp2_with fail
 refine(G9 p (-b) _).mono ?_;rintro e _ ⟨rfl,rfl⟩;go_wp2_with fail
 first|rw[anU]|skip
 refine bodyPost_end (results_none rfl _ _ _) rfl ?_;exact⟨rfl,y0.drew⟩
structure RW (w:World) (Z:Nat) (p:Int) (G H n R c ca xp xr xa:Nat) (bs:List Nat) (rows:List (List Int)):Prop where
 im:IM w G n bs rows
 nl:nG w H R
 bp:VB w xp 3 #[.int .i64 p]
 br:VB w xr 68 #[.slice (some ⟨G,0,none⟩) R c]
 ba:VB w xa 68 #[.slice (some ⟨H,0,none⟩) R ca]
 len:rows.length=R
 gh:G≠H
 gz:G<Z
 hz:H<Z
 bz:∀b∈bs,b<Z
 bh:∀b∈bs,b≠H
 zp:Z<=xp
 zr:Z<=xr
 za:Z<=xa
 e:kF p rows
 h2:2<=p
 h97:p<=97
 n1:n<=1000
 r1:R<=1000
theorem RW.ex(h:RW w Z p G H n R c ca xp xr xa bs rows)(k:Ex w w'):RW w' Z p G H n R c ca xp xr xa bs rows:=
 {h with im:=h.im.ex k,nl:=h.nl.keep (k.block h.nl.lt),bp:=h.bp.ex k,br:=h.br.ex k,ba:=h.ba.ex k}
theorem RW.turn{rows':List (List Int)}(h:RW w Z p G H n R c ca xp xr xa bs rows){b:Nat}(hb:b<Z)(hbh:b≠H)(k:aJ b w w')(hI:IM w' G n bs rows')(hl:rows'.length=R)(he:kF p rows'):RW w' Z p G H n R c ca xp xr xa bs rows':=
 {h with im:=hI,nl:=h.nl.keep (k.block H h.nl.lt (λe=>by injection e with e;exact hbh e.symm)),bp:=h.bp.aM k (by have:=h.zp;omega),br:=h.br.aM k (by have:=h.zr;omega),ba:=h.ba.aM k (by have:=h.za;omega),len:=hl,e:=he}
theorem RW.along(h:RW w Z p G H n R c ca xp xr xa bs rows)(k:aJ H w w')(hN:nG w' H R):RW w' Z p G H n R c ca xp xr xa bs rows:=
 {h with im:=h.im.keep (λq hq hc=>k.block q hq (λe=>by
  injection e with e;rcases hc with hc|⟨j,hj⟩
  .exact h.gh (hc▸e)
  .exact h.bh q (am1 hj) e)),nl:=hN,bp:=h.bp.aM k (by have:=h.zp;have:=h.hz;omega),br:=h.br.aM k (by have:=h.zr;have:=h.hz;omega),ba:=h.ba.aM k (by have:=h.za;have:=h.hz;omega)}
theorem UK{k:Int}(hp:0<p)(h:av p v=true):av p (pW p k v n)=true:=iI λi x hx=>by
 unfold pW at hx;rw[aoj]at hx;split at hx
 .rw[anh]at hx;split at hx
  .rw[am7]at hx;cases hv:v[i]? with
   |none=>rw[hv]at hx;cases hx
   |some y=>rw[hv]at hx;injection hx with hx;rw[<-hx];exact⟨anV _ (by omega),anW _ hp⟩
  .cases hx
 .rw[anB]at hx;exact bI h hx
theorem Uo(h:RW w Z p G H n R c ca xp xr xa bs rows)(i bi:Nat)(b:Int)(ri:List Int)(nI:rows[i]?=some ri)(hbi:bs[i]?=some bi)(hb:0<=b/\b<p):
 Calls prog 170 #[.agg #[.int .i64 1,.int .i64 i,.int .i64 0,.int .i64 b],.pointer (some ⟨xp,0,none⟩),.pointer (some ⟨xr,0,none⟩),.pointer (some ⟨xa,0,none⟩)] w λe w'=>e=.returned (.tuple #[])/\RW w' Z p G H n R c ca xp xr xa bs (rows.set i (pW p (bO p b) ri n))/\aJ bi w w':=by
 have hi:i<R:=by have:=(am2.1 nI).1;have:=h.len;omega
 have hrl:=(h.im.row i bi ri hbi nI).2;have hre:=h.e ri (am1 nI);have hbz:=h.bz bi (am1 hbi);have hbh:=h.bh bi (am1 hbi);have hbw:=(h.im.row i bi ri hbi nI).1.lt;have HE:=amW (show kF p (rows.set i (pW p (bO p b) ri n))from λr hr=>by
  rcases aoz hr with hr|rfl
  .exact h.e r hr
  .exact UK (by have:=h.h2;omega) hre)
 obtain⟨y0,d0⟩:=VB.xn w 164 #[.int .i64 1,.int .i64 i,.int .i64 0,.int .i64 b];have h':=h.ex y0;have cA:=TH p G n bs rows R c i bi b 0 ri _ h'.im h.len nI hbi h.h2 h.h97 hb hre h.n1 h.r1;have hp:=h'.bp.c0;have hr:=h'.br.c0;have q1:=d0.c1;go_enter Tryz.func170,Tryz.ntmps170
 go_wp2_with fail
 generalize w.alloc (.cells #[.int .i64 1,.int .i64 i,.int .i64 0,.int .i64 b] 164)=W0 at*;refine cA.mono ?_;rintro e w1 ⟨rfl,hI,k1⟩;have hW1:=h'.turn hbz hbh k1 hI (by rw[anj];exact h.len) HE.out;have hp1:=hW1.bp.c0;have ha1:=hW1.ba.c0;have d1:=d0.aM k1 (by omega);obtain⟨u0,u1,u2,u3⟩:=d1.d4;clear cA h' hp hr q1;go_wp2_with fail
 refine(Oe p H R ca i 0 b w1 hW1.nl hi h.h2 h.h97 hb h.r1).mono ?_;rintro e w2 ⟨rfl,x2⟩;go_wp2_with fail
 first|rw[anU]|skip
 refine bodyPost_end (results_none rfl _ _ _) rfl ?_;exact⟨rfl,hW1.ex x2,((aJ.aN y0).trans k1).trans (aJ.aN x2)⟩
theorem Un(h:RW w Z p G H n R c ca xp xr xa bs rows)(i k bi:Nat)(b:Int)(ri rk:List Int)(nI:rows[i]?=some ri)(hrk:rows[k]?=some rk)(hbi:bs[i]?=some bi)(hne:i≠k)(hb:0<=b/\b<p):
 Calls prog 170 #[.agg #[.int .i64 2,.int .i64 i,.int .i64 k,.int .i64 b],.pointer (some ⟨xp,0,none⟩),.pointer (some ⟨xr,0,none⟩),.pointer (some ⟨xa,0,none⟩)] w λe w'=>e=.returned (.tuple #[])/\RW w' Z p G H n R c ca xp xr xa bs (rows.set i ((aA p).less ri b rk))/\aJ bi w w':=by
 have hi:i<R:=by have:=(am2.1 nI).1;have:=h.len;omega
 have hk:k<R:=by have:=(am2.1 hrk).1;have:=h.len;omega
 have hrl:=(h.im.row i bi ri hbi nI).2;have hre:=h.e ri (am1 nI);have hke:=h.e rk (am1 hrk);have hkl:rk.length=n:=by obtain⟨_,rk',_,_,_,q1,q2,_⟩:=h.im.at_ (am2.1 hrk).1;rw[hrk]at q1;injection q1 with q1;rw[q1];exact q2
 have hbz:=h.bz bi (am1 hbi);have hbh:=h.bh bi (am1 hbi);have hbw:=(h.im.row i bi ri hbi nI).1.lt;have HE:=amW (show kF p (rows.set i ((aA p).less ri b rk))from λr hr=>by
  rcases aoz hr with hr|rfl
  .exact h.e r hr
  .exact UX (by have:=h.h2;omega) (by rw[hrl,hkl]))
 obtain⟨y0,d0⟩:=VB.xn w 164 #[.int .i64 2,.int .i64 i,.int .i64 k,.int .i64 b];have h':=h.ex y0;have cA:=TG p G n bs rows R c i k bi b ri rk _ h'.im h.len nI hrk hbi hne h.h2 h.h97 hb hre hke h.n1 h.r1;have hp:=h'.bp.c0;have hr:=h'.br.c0;have q1:=d0.c1;go_enter Tryz.func170,Tryz.ntmps170
 go_wp2_with fail
 generalize w.alloc (.cells #[.int .i64 2,.int .i64 i,.int .i64 k,.int .i64 b] 164)=W0 at*;refine cA.mono ?_;rintro e w1 ⟨rfl,hI,k1⟩;have hW1:=h'.turn hbz hbh k1 hI (by rw[anj];exact h.len) HE.out;have hp1:=hW1.bp.c0;have ha1:=hW1.ba.c0;have d1:=d0.aM k1 (by omega);obtain⟨u0,u1,u2,u3⟩:=d1.d4;clear cA h' hp hr q1;go_wp2_with fail
 refine(Oc p H R ca i k b w1 hW1.nl hi hk h.h2 h.h97 hb h.r1).mono ?_;rintro e w2 ⟨rfl,x2⟩;go_wp2_with fail
 first|rw[anU]|skip
 refine bodyPost_end (results_none rfl _ _ _) rfl ?_;exact⟨rfl,hW1.ex x2,((aJ.aN y0).trans k1).trans (aJ.aN x2)⟩
theorem RW.swap{bs':List Nat}{rows':List (List Int)}(h:RW w Z p G H n R c ca xp xr xa bs rows)(k:aJ G w w')(hI:IM w' G n bs' rows')(hb:∀b∈bs',b∈bs)(hl:rows'.length=R)(he:kF p rows'):RW w' Z p G H n R c ca xp xr xa bs' rows':=
 {h with im:=hI,nl:=h.nl.keep (k.block H h.nl.lt (λe=>by injection e with e;exact h.gh e.symm)),bp:=h.bp.aM k (by have:=h.zp;have:=h.gz;omega),br:=h.br.aM k (by have:=h.zr;have:=h.gz;omega),ba:=h.ba.aM k (by have:=h.za;have:=h.gz;omega),bz:=λb hb'=>h.bz b (hb b hb'),bh:=λb hb'=>h.bh b (hb b hb'),len:=hl,e:=he}
theorem Um(h:RW w Z p G H n R c ca xp xr xa bs rows)(i k:Nat)(ri rk:List Int)(nI:rows[i]?=some ri)(hrk:rows[k]?=some rk)(hne:i≠k):
 Calls prog 170 #[.agg #[.int .i64 0,.int .i64 i,.int .i64 k,.int .i64 0],.pointer (some ⟨xp,0,none⟩),.pointer (some ⟨xr,0,none⟩),.pointer (some ⟨xa,0,none⟩)] w λe w'=>e=.returned (.tuple #[])/\∃bs',RW w' Z p G H n R c ca xp xr xa bs' ((rows.set i rk).set k ri)/\(∀b∈bs',b∈bs)/\bn (λz=>z=G∨z=H) w w':=by
 have hi:i<R:=by have:=(am2.1 nI).1;have:=h.len;omega
 have hk:k<R:=by have:=(am2.1 hrk).1;have:=h.len;omega
 have hgl:=h.im.lt;have hhl:=h.nl.lt;have HE:=amW (show kF p ((rows.set i rk).set k ri)from λr hr=>by
  rcases aoz hr with hr|rfl
  .rcases aoz hr with hr|rfl
   .exact h.e r hr
   .exact h.e _ (am1 hrk)
  .exact h.e _ (am1 nI))
 obtain⟨y0,d0⟩:=VB.xn w 164 #[.int .i64 0,.int .i64 i,.int .i64 k,.int .i64 0];have h':=h.ex y0;have cA:=TF p G n bs rows R c i k 0 _ h'.im h.len hi hk hne h.r1;have hp:=h'.bp.c0;have hr:=h'.br.c0;have q1:=d0.c1;have hik:¬(k=i):=λe=>hne e.symm
 go_enter Tryz.func170,Tryz.ntmps170
 go_wp2_with fail
 generalize w.alloc (.cells #[.int .i64 0,.int .i64 i,.int .i64 k,.int .i64 0] 164)=W0 at*;refine cA.mono ?_;rintro e w1 ⟨bs',ri',rk',rfl,hr1,hr2,hI,hbb,k1⟩;rw[nI]at hr1;injection hr1 with hr1;subst hr1;rw[hrk]at hr2;injection hr2 with hr2;subst hr2;have hW1:=h'.swap k1 hI hbb (by rw[anj,anj];exact h.len) HE.out;have hp1:=hW1.bp.c0;have ha1:=hW1.ba.c0;have d1:=d0.aM k1 (by omega);obtain⟨u0,u1,u2,u3⟩:=d1.d4;clear cA h' hp hr q1;go_wp2_with fail
 refine(Og p H R ca i k 0 w1 hW1.nl hi hk hne h.r1).mono ?_;rintro e w2 ⟨rfl,hN,k2⟩;have hW2:=hW1.along k2 hN;go_wp2_with fail
 first|rw[anU]|skip
 refine bodyPost_end (results_none rfl _ _ _) rfl ?_;refine⟨rfl,bs',hW2,hbb,?_⟩;exact((bn.a_ (S:=λz=>z=G∨z=H) (aJ.aN y0) (.inl rfl)).trans (bn.a_ (S:=λz=>z=G∨z=H) k1 (.inl rfl)) (λ_ _ h=>h)).trans (bn.a_ (S:=λz=>z=G∨z=H) k2 (.inr rfl)) (λ_ _ h=>h)
theorem O8(i:Nat)(P1 P2 P3:Value)(w:World):
 Calls prog 170 #[.agg #[.int .i64 0,.int .i64 i,.int .i64 i,.int .i64 0],P1,P2,P3] w λe w'=>e=.returned (.tuple #[])/\Ex w w':=by
 have y0:=(asF w).alloc (.cells #[.int .i64 0,.int .i64 i,.int .i64 i,.int .i64 0] 164);go_enter Tryz.func170,Tryz.ntmps170
 go_wp2_with fail
 first|rw[anU]|skip
 refine ane (results_none rfl _ _ _) rfl ?_;exact⟨rfl,y0⟩
theorem EY(w0 w:World)(p:Int)(G H n R cG cH:Nat)(bs:List Nat)(rows:List (List Int))(hF:aj p=true)(him:IM w G n bs rows)(hnl:nG w H R)(hlen:rows.length=R)(gh:G≠H)(bh:∀b∈bs,b≠H)(hw:aZ n rows)(he:kF p rows)(hn:n<=1000)(hR:R<=1000)(x0:Ex w0 w)(g0:w0.heap.size<=G)(h0:w0.heap.size<=H)(b0:∀b∈bs,w0.heap.size<=b):
 Calls prog 166 #[.int .i64 p,.slice (some ⟨G,0,none⟩) R cG,.int .i64 n,.slice (some ⟨H,0,none⟩) R cH] w λe w'=>∃bs',e=.returned (.int .i64 ((aA p).red n 0 0 rows).2)/\IM w' G n bs' ((aA p).red n 0 0 rows).1/\((aA p).red n 0 0 rows).1.length=R/\((aA p).red n 0 0 rows).2<=R/\Ex w0 w':=by
 have h2:=au hF;have h97:=aQ hF;obtain⟨FIN,qW⟩:=xq ((aA p).red n 0 0 rows);have HF:=amW hF;have HFI:=amW qW;have iP:=amW (show(aA p).red (n-0) 0 0 rows=FIN from qW);have HW0:=amW hw;have HB0:=amW b0;rw[qW];have hbl:∀b∈bs,b<w.heap.size:=λb hb=>by obtain⟨j,hj⟩:=anc hb;have hjl:=(am2.1 hj).1;exact(him.row j b _ hj (am0 (by rw[<-him.len];exact hjl))).1.lt
 obtain⟨W1,hW1,y1,v1,s1⟩:=VB.an w 3 #[.int .i64 p] rfl;obtain⟨y2,v2,W2,hW2⟩:=VB.al W1 68 #[.slice (some ⟨G,0,none⟩) R cG];have s2:(W1.alloc (.cells #[.slice (some ⟨G,0,none⟩) R cG] 68)).heap.size=w.heap.size+2:=by simp;omega
 rw[hW2]at y2 v2 s2;obtain⟨y3,v3,W3,hW3⟩:=VB.al W2 68 #[.slice (some ⟨H,0,none⟩) R cH];rw[hW3]at y3 v3;have yy:=(y1.trans y2).trans y3;have HRW:RW W3 w.heap.size p G H n R cG cH w.heap.size W1.heap.size W2.heap.size bs rows:=
  {im:=him.ex yy,nl:=hnl.keep (yy.block hnl.lt),bp:=(v1.ex y2).ex y3,br:=v2.ex y3,ba:=v3,len:=hlen,gh:=gh,gz:=him.lt,hz:=hnl.lt,bz:=hbl,bh:=bh,zp:=amX _,zr:=by omega,za:=by omega,e:=he,h2:=h2,h97:=h97,n1:=hn,r1:=hR}
 have xx:=x0.trans yy;clear y1 y2 y3 v1 v2 v3 s1 s2 him hnl hbl qW hF hw he b0 bh hlen;go_enter Tryz.func166,Tryz.ntmps166
 go_wp2_with fail
 clear hW1 hW2 hW3 yy;generalize W1.heap.size=xr at*;generalize W2.heap.size=xa at*;obtain⟨xp,hxp⟩:=xq w.heap.size;rw[hxp]at HRW⊢;clear hxp x0;obtain⟨ZZ,hZZ⟩:=xq xp;have acQ:RW W3 ZZ p G H n R cG cH xp xr xa bs rows:=by rw[<-hZZ];exact HRW
 clear HRW hZZ;go_loopw [9,11] (λs9 s11 wr=>∃(c r:Nat) (Z:List (List Int)) (bs:List Nat),c<=n/\s9=.int .i64 r/\s11=.int .i64 c/\RW wr ZZ p G H n R cG cH xp xr xa bs Z/\Hid (aZ n Z)/\r<=R/\Hid ((aA p).red (n-c) c r Z=FIN)/\Hid (∀b∈bs,w0.heap.size<=b)/\Ex w0 wr) (λ_ s11 _=>n-(intOf s11).toNat)
 case atStart=>exact⟨0,0,rows,bs,am4 _,rfl,rfl,acQ,HW0,am4 _,iP,HB0,xx⟩
 case round=>
  rename World=>wi;clear acQ HW0 iP HB0 xx;obtain⟨c,r,Z,bs,hcn,rfl,rfl,hM,HW,Jl,iP,HB,he⟩:=hrel;have hbr:=hM.br.c0;have HZ:=amW hM.len;have HE:=amW hM.e;by_cases hlt:c<n/\r<R;case neg=>
   have HEq:=amW (show FIN=(Z,r) by
    rw[<-iP.out];by_cases e:c<n
    .exact BX _ _ _ _ _ (by rw[HZ.out];omega)
    .rw[show n-c=0 by omega];rfl)
   by_cases e:c<n
   .have e2:¬r<R:=λe2=>hlt ⟨e,e2⟩
    clear hlt iP;go_wp2_with fail
    go_ret;rw[HEq.out];exact⟨bs,rfl,hM.im,HZ.out,Jl,he⟩
   .clear hlt iP;go_wp2_with fail
    go_ret;rw[HEq.out];exact⟨bs,rfl,hM.im,HZ.out,Jl,he⟩
  obtain⟨hc1,hr1⟩:=hlt;go_wp2_with fail
  go_loopw [12] (λs12 wr=>∃t:Nat,r<=t/\t<=R/\s12=.int .i64 t/\Hid (∀(i:Nat) (v:List Int),r<=i->i<t->Z[i]?=some v->(aA p).jq ((aA p).el v c)=true)/\wi=wr) (λs12 _=>R-(intOf s12).toNat)
  case atStart=>exact⟨r,amX _,Jl,rfl,amW (λi v h1 h2=>by omega),rfl⟩
  case round=>
   obtain⟨t,hrt,htR,rfl,Hz,rfl⟩:=hrel;by_cases htl:t<R
   .obtain⟨bt,zt,ct,hct,hbt,Jj,Gf,hot,aks,et⟩:=hM.im.at_ (by rw[HZ.out];exact htl);obtain⟨x,hx⟩:∃x,zt[c]?=some x:=⟨_,am0 (by rw[Gf];exact hc1)⟩;have ec:=hot.cell hx;have Bg:=amW (show(aA p).el zt c=x from(aA p).bT hx);have TL:=amW Jj;have Hx:=amW hx;have Zi:=amW Gf;have afZ:=amW (HE.out zt (am1 Jj));have hxb:=bI afZ.out hx;clear Jj hx Gf;by_cases hx0:x=0
    .have Hx0:=amW hx0;have hxe:(x==0)=true:=by rw[hx0];rfl
     clear hx0 hxb;go_wp2_with fail
     go_roundw;case rel=>exact⟨t+1,by omega,by omega,by go_num,amW (λi v h1 h2 h3=>by
      by_cases e:i=t
      .subst e;rw[TL.out]at h3;injection h3 with h3;rw[<-h3,Bg.out,Ii,Hx0.out];rfl
      .exact Hz.out i v h1 (by omega) h3),trivial⟩
     case measure=>simp[intOf];omega
    .have hxe:(x==0)=false:=by simp;exact hx0
     have NA:=aar (O:=aA p) hrt (λi v h1 h2 h3=>Hz.out i v h1 h2 h3) TL.out (by rw[Bg.out,Ii];simpa using hx0);have Zx:=amW (show(aA p).red (n-(c+1)) (c+1) (r+1) ((aA p).piv Z r c t)=FIN by rw[<-iP.out,show n-c=(n-(c+1))+1 by omega,Ops.red,NA,amY (by rw[HZ.out];exact htl)]);obtain⟨br,zr,cr,hcr,ae0,BF,ajG,hor,akt,er⟩:=hM.im.at_ (by rw[HZ.out];exact hr1);have hZ2:((Z.set r zt).set t zr)[r]?=some zt:=by
      rw[ang];by_cases e:t=r
      .rw[amY e,amY (by rw[anj,HZ.out];exact htl)];have:=TL.out;rw[e,BF]at this;exact this
      .rw[amZ e,ang,amY rfl,amY (by rw[HZ.out];exact hr1)]
     have cX:Calls prog 170 #[.agg #[.int .i64 0,.int .i64 r,.int .i64 t,.int .i64 0],.pointer (some ⟨xp,0,none⟩),.pointer (some ⟨xr,0,none⟩),.pointer (some ⟨xa,0,none⟩)] wi λe w'=>e=.returned (.tuple #[])/\∃bs',RW w' ZZ p G H n R cG cH xp xr xa bs' ((Z.set r zt).set t zr)/\(∀b∈bs',b∈bs)/\Ex w0 w':=by
      by_cases e:r=t
      .subst e;have hv:(Z.set r zt).set r zr=Z:=by
        rw[aoH];apply anG;intro q;rw[ang];split
        .rename_i e;subst e;rw[amY (by rw[HZ.out];exact hr1),BF]
        .rfl
       rw[hv];refine(O8 r _ _ _ wi).mono ?_;rintro _ w' ⟨rfl,x⟩;exact⟨rfl,bs,hM.ex x,λ_ h=>h,he.trans x⟩
      .refine(Um hM r t zr zt BF TL.out e).mono ?_;rintro _ w' ⟨rfl,bs',h1,h2,h3⟩;exact⟨rfl,bs',h1,h2,he.sx h3 (λz hz=>by rcases hz with rfl|rfl<;>omega)⟩
     have HSW:=amW (show∀l,((Z.set r zt).set t zr).set r l=(Z.set t zr).set r l from λl=>LQ TL.out BF);have Oq:=amW (λ(k:Nat) (u:List Int)=>XC (O:=aA p) (c:=c) TL.out BF (k:=k) (u:=u));have HTW:=amW (show aZ n ((aA p).piv Z r c t)from HW.out.piv (by rw[HZ.out];exact hr1) (by rw[HZ.out];exact htl));have AX:=amW (show((aA p).piv Z r c t).length=R by rw[dU,HZ.out]);have HZ2:=amW hZ2;have Hzr:=amW BF;have htb:((t:Int)==(R:Int))=false:=by simp;omega
     clear NA hZ2 hbt ae0 BF hx0 iP er hcr;go_wp2_with fail
     refine cX.mono ?_;rintro e w1 ⟨rfl,VL,hM2,hbb,he2⟩;have HB2:=amW (show∀b∈VL,w0.heap.size<=b from λb hb=>HB.out b (hbb b hb));clear cX hM hbr et ec hot HB hbb;have hb2:=hM2.br.c0;obtain⟨b1,z1,c1,_,hb1,hz1,_,hO1,akx,e1⟩:=hM2.im.at_ (j:=r) (by rw[hM2.len];exact hr1);rw[HZ2.out]at hz1;injection hz1 with hz1;subst hz1;have e2:=hO1.cell Hx.out;have cD:=Uo hM2 r b1 x zt HZ2.out hb1 hxb;have abA:w0.heap.size<=b1:=HB2.out _ (am1 hb1);obtain⟨L,hL⟩:=xq (pW p (bO p x) zt n);have HLL:=amW (show(aA p).oJ zt c=L by rw[<-hL,<-QF Hx.out,Zi.out]);rw[hL,HSW.out]at cD;rw[HLL.out]at Oq;have VX:=amW (show L.length=n by rw[<-hL,FH (by rw[Zi.out];exact amX _),Zi.out]);clear hL hM2 hO1;go_wp2_with fail
     refine cD.mono ?_;rintro e w3 ⟨rfl,KJ,k3⟩;have x3:=he2.aM k3 abA;clear cD hb2 e1 e2 k3 he2 abA;have rf:=amW (show((Z.set t zr).set r L).length=R by rw[anj,anj,HZ.out]);have TQ:=amW (show((Z.set t zr).set r L)[r]?=some L by rw[ang,amY rfl,amY (by rw[anj,HZ.out];exact hr1)]);have Zo:=amW (show∀(k:Nat) (u:List Int),k≠r->((Z.set t zr).set r L)[k]?=some u->u∈Z from λk u h1 h3=>Ur Hzr.out h1 h3);generalize(Z.set t zr).set r L=Z1 at*;generalize(aA p).piv Z r c t=T at*;have HTr:=amW (show T[r]?=some L by rw[Oq.out r L TQ.out,amY rfl]);have hb3:=KJ.br.c0;go_wp2_with fail
     go_loopw [65] (λs65 wr=>∃i:Nat,i<=R/\s65=.int .i64 i/\RW wr ZZ p G H n R cG cH xp xr xa VL (T.take i++Z1.drop i)/\Ex w0 wr) (λs65 _=>R-(intOf s65).toNat)
     case atStart=>exact⟨0,am4 _,rfl,by simpa using KJ,x3⟩
     case round=>
      rename World=>wm;clear KJ x3 hb3;obtain⟨i,hi,rfl,Ep,hem⟩:=hrel;by_cases hiR:i<R
      .obtain⟨u,hu⟩:∃u,Z1[i]?=some u:=⟨_,am0 (by rw[rf.out];exact hiR)⟩;have hmu:(T.take i++Z1.drop i)[i]?=some u:=by
        rw[UO T Z1 (by rw[AX.out,rf.out]) i (by rw[rf.out];exact hiR)];exact hu
       have HTk:=amW (Oq.out i u hu);have hbm:=Ep.br.c0;by_cases hir:i=r
       .have hnb:((i:Int) !=(r:Int))=false:=by simp;omega
        have TS:=amW (CF T Z1 (by rw[AX.out,rf.out]) i L (by rw[HTk.out,amY hir]) (by rw[hir];exact TQ.out));clear hir hu hmu;go_wp2_with fail
        go_roundw;case rel=>exact⟨i+1,by omega,by go_num,by rw[<-TS.out];exact Ep,hem⟩
        case measure=>simp[intOf];omega
       .have hnb:((i:Int) !=(r:Int))=true:=by simp;omega
        obtain⟨b5,u',c5,NF,hb5,hu',zT,hO5,akw,e5⟩:=Ep.im.at_ (j:=i) (by have:=(am2.1 hmu).1;exact this);rw[hmu]at hu';injection hu' with hu';subst hu';obtain⟨y,hy⟩:∃y,u[c]?=some y:=⟨_,am0 (by rw[zT];exact hc1)⟩;have ey:=hO5.cell hy;have Yh:=amW (show(aA p).el u c=y from(aA p).bT hy);have hyb:=bI (HE.out u (Zo.out i u hir hu)) hy;have TR:=amW (show T[i]?=some (if y=0 then u else(aA p).less u y L) by
         rw[HTk.out,amZ hir,Yh.out,Ii];simp)
        by_cases hy0:y=0
        .have hye:(y !=0)=false:=by rw[hy0];rfl
         have TS:=amW (CF T Z1 (by rw[AX.out,rf.out]) i u (by rw[TR.out,amY hy0]) hu);clear hir hu hmu hy hy0 zT;go_wp2_with fail
         go_roundw;case rel=>exact⟨i+1,by omega,by go_num,by rw[<-TS.out];exact Ep,hem⟩
         case measure=>simp[intOf];omega
        .have hye:(y !=0)=true:=by simp;exact hy0
         have TS:=amW (QH T Z1 (by rw[AX.out,rf.out]) i ((aA p).less u y L) (by rw[TR.out,amZ hy0]));have hmr:=QI (i:=i) (by rw[AX.out,rf.out]) HTr.out TQ.out;have cS:=Un Ep i r b5 y u L hmu hmr hb5 hir hyb;have ae2:w0.heap.size<=b5:=HB2.out _ (am1 hb5);rw[TS.out]at cS;clear hir hu hmu hy hy0 zT hmr;go_wp2_with fail
         refine cS.mono ?_;rintro e w7 ⟨rfl,hM7,k7⟩;have x7:=hem.aM k7 ae2;clear cS Ep e5 ey hbm;go_wp2_with fail
         go_roundw;case rel=>exact⟨i+1,by omega,by go_num,hM7,x7⟩
         case measure=>simp[intOf];omega
      .obtain rfl:i=R:=by omega
       rw[ann (by rw[AX.out];exact amX _),aoA (by rw[rf.out];exact amX _),anR]at Ep;go_wp2_with fail
       go_roundw;case rel=>exact⟨c+1,r+1,T,VL,by omega,by go_num,by go_num,Ep,HTW,by omega,Zx,HB2,hem⟩
       case measure=>simp[intOf];omega
   .have hRt:t=R:=by omega
    subst hRt;have HN:=amW (aaq (O:=aA p) (by rw[HZ.out];exact Jl) (λi v h1 h2 h3=>Hz.out i v h1 (by rw[<-HZ.out];exact h2) h3));have Zx:=amW (show(aA p).red (n-(c+1)) (c+1) r Z=FIN by rw[<-iP.out,show n-c=(n-(c+1))+1 by omega,Ops.red,amZ HN.out]);clear Hz HN;go_wp2_with fail
    go_roundw;case rel=>exact⟨c+1,r,Z,bs,by omega,rfl,by go_num,hM,HW,Jl,Zx,HB,he⟩
    case measure=>simp[intOf];omega
theorem yP(n:Nat)(hn:n<=1099511627776)(w:World):
 (Instr.makeSlice 68 (.int .i64 0) (.int .i64 (n:Int))).run prog w=.ok (.slice (some ⟨w.heap.size,0,none⟩) 0 n) (w.alloc (.cells (Array.replicate n (Value.slice none 0 0)) 23)):=by
 obtain⟨i,hi,hz,hs,hb⟩:=anA mH;have hr:=run_make (P:=prog) w 68 23 i (.slice none 0 0) Tryz.underlying68 hi hz .i64 .i64 (0:Nat) n (by omega) (by omega) (by rw[hb];omega) (by omega);simp only[aoJ,hs]at hr;rw[zM,show(replicate n (Value.slice none 0 0)).toArray=Array.replicate n (Value.slice none 0 0) by simp]at hr;exact hr
theorem GE.room(w:World)(hB:B<=w.heap.size)(hn:n<=1099511627776):GE Ue 23 (w.alloc (.cells (Array.replicate n (Value.slice none 0 0)) 23)) B (w.heap.size+1) (.slice (some ⟨w.heap.size,0,none⟩) 0 n) []:=by have ho:(w.alloc (.cells (Array.replicate n (Value.slice none 0 0)) 23)).ownsRow B 23 Ue.k (.slice (some ⟨w.heap.size,0,none⟩) 0 n) 0 []:=⟨by simp,.inr ⟨w.heap.size,n,_,rfl,hB,heap_alloc_new w _,am4 _,by unfold maxLen;omega,by simp[Ue],by simp⟩⟩;exact⟨λk e=>by injection e with e;subst e;exact⟨hB,aoF _⟩,[],λ_=>0,λ_=>0,rfl,ho,(λj r hj=>by simp at hj),(λi j hi=>by simp at hi)⟩
theorem Ti(rows:List (List Int))(A:Option Addr)(c:Nat)(w:World)(h:pI w A rows)(hR:rows.length<=1000):
 Calls prog 165 #[.slice A rows.length c] w λe w'=>∃g c',e=.returned (.slice (some ⟨g,0,none⟩) rows.length c')/\rows.length<=c'/\GE Ue 23 w' w.heap.size w'.heap.size (.slice (some ⟨g,0,none⟩) rows.length c') rows/\Ex w w':=by
 obtain⟨R,hRl⟩:=xq rows.length;have Ud:=amW hRl;rw[hRl]at hR⊢;clear hRl;have hmk:=λW=>yP R (by omega) W
 have y1:=(asF w).alloc (.cells (Array.replicate R (Value.slice none 0 0)) 23);have g1:=GE.room w (B:=w.heap.size) (n:=R) (amX _) (by omega);have s1:(w.alloc (.cells (Array.replicate R (Value.slice none 0 0)) 23)).heap.size=w.heap.size+1:=by simp
 rw[<-s1]at g1;go_enter Tryz.func165,Tryz.ntmps165
 go_wp2_with fail
 generalize w.alloc (.cells (Array.replicate R (Value.slice none 0 0)) 23)=W1 at*;go_loopw [3,11] (λs3 s11 wr=>∃k:Nat,k<=R/\s11=.int .i64 k/\GE Ue 23 wr w.heap.size wr.heap.size s3 (rows.take k)/\s3≠.slice none 0 0/\Ex w wr) (λ_ s11 _=>R-(intOf s11).toNat)
 case atStart=>exact⟨0,am4 _,rfl,g1,(λe=>by injection e with e;cases e),y1⟩
 case round=>
  rename World=>wb;clear g1 y1 s1;obtain⟨k,hk,rfl,hge,hnn,hex⟩:=hrel;by_cases KH:k<R
  .obtain⟨g0,ad_,A1,c1,r1,rfl,hr1,hc1,hrd⟩:=(h.ex hex).at_ (by rw[Ud.out];exact KH);have HT:=amW (show rows.take (k+1)=rows.take k++[r1] by rw[am_,hr1];rfl);have htl:=aoc k rows;have htk:(rows.take (k+1)).length=k+1:=by rw[am8,Ud.out];omega
   have hsz:=hex.size;have cO:=uJ A1 c1 r1 wb hrd;have HTK:=amW htk;clear hr1 htk;go_wp2_with fail
   refine cO.mono ?_;rintro e w1 ⟨g,c',rfl,hc',hg,hO,x1⟩;have z1:=x1.size;obtain⟨v',w2,hrun,Ns,hE2⟩:=Qb (hge.ex x1) z1 hO hc' hg hsz (by omega);rw[<-HT.out]at Ns;have x2:=hE2 w (hex.trans x1) (amX _);have hn2:v'≠.slice none 0 0:=λe=>by obtain⟨_,_,e2⟩:=Ns.lu;rw[e,HTK.out]at e2;injection e2 with _ e2 _;omega
   clear hE2 HT htl cO hge;go_wp2_with (at_builtin;refine wpList_append_run rfl _ _ _ rfl rfl rfl hrun ?_)
   go_roundw;case rel=>exact⟨k+1,by omega,by go_num,Ns,hn2,x2⟩
   case measure=>simp[intOf];omega
  .obtain rfl:R=k:=by omega
   rw[ann (by rw[Ud.out];exact amX _)]at hge;have hfm:=hge.form hnn;rw[Ud.out]at hfm;obtain⟨G,C,rfl,hRC,_⟩:=hfm;go_wp2_with fail
   go_ret;exact⟨G,C,rfl,hRC,hge,hex⟩
theorem Me(p:Int)(n:Nat)(rows:List (List Int))(A:Option Addr)(c:Nat)(w:World)(hF:aj p=true)(h:pI w A rows)(hw:aZ n rows)(he:kF p rows)(hn:n<=1000)(hR:rows.length<=1000):
 Calls prog 150 #[.int .i64 p,.slice A rows.length c,.int .i64 n] w λe w'=>∃A' c',e=.returned (.slice A' ((aA p).aB n rows).length c')/\iw w' A' ((aA p).aB n rows)/\Ex w w':=by
 have HF:=amW hF;have HW:=amW hw;have HE:=amW he;have cC:=Ti rows A c w h hR;obtain⟨R,hRl⟩:=xq rows.length;have Ud:=amW hRl;rw[hRl]at hR cC⊢;obtain⟨FIN,qW⟩:=xq ((aA p).red n 0 0 rows);have iP:=amW qW;have HRR:=amW (show(aA p).aB n rows=FIN.1.take FIN.2 by unfold Ops.aB;rw[qW]);clear hF hw he h hRl qW;have hmk:=λW=>xg R (by omega) W
 go_enter Tryz.func150,Tryz.ntmps150
 go_wp2_with fail
 refine cC.mono ?_;rintro e w1 ⟨G,C,rfl,hRC,hge,x1⟩;clear cC;obtain⟨bs,hM,hG,hbs⟩:=hge.im HW.out;have hbl:∀b∈bs,b<w1.heap.size:=λb hb=>by obtain⟨j,hj⟩:=anc hb;have hjl:=(am2.1 hj).1;exact(hM.row j b _ hj (am0 (by rw[<-hM.len];exact hjl))).1.lt
 have y1:=(asF w1).alloc (.cells (replicate R (Value.slice none 0 0)).toArray 23);have hN:nG (w1.alloc (.cells (replicate R (Value.slice none 0 0)).toArray 23)) w1.heap.size R:=⟨_,heap_alloc_new w1 _,λj hj=>by simp[hj]⟩;have hgl:=hM.lt;have hsz:=x1.size;have cR:=EY w _ p G w1.heap.size n R C R bs rows HF.out (hM.ex y1) hN Ud.out (by omega) (λb hb=>by have:=hbl b hb;omega) HW.out HE.out hn hR (x1.trans y1) hG hsz hbs;rw[iP.out]at cR;clear hge hM hbl hN hbs y1;go_wp2_with fail
 refine cR.mono ?_;rintro e w3 ⟨bs3,rfl,KJ,hl3,hr3,x3⟩;clear cR;have hrr:=KJ.ad1 (by rw[hl3];omega) FIN.2;have HT:=amW (show(FIN.1.take FIN.2).length=FIN.2 by rw[am8,hl3];omega);have HL3:=amW hl3;obtain⟨r,hr⟩:=xq FIN.2;rw[hr]at hr3 hrr HT HRR⊢;have hrC:r<=C:=by omega
 clear KJ hl3 hr;go_wp2_with fail
 go_ret;rw[HRR.out];exact⟨some ⟨G,0,none⟩,r,by rw[HT.out];rfl,hrr,x3⟩
def Y4(p:Int)(e:Ed):Bool:= !(decide (e.kd=7∨e.kd=13)&&decide (p<=e.vl))
theorem Ny{x:Gr}(h:aj p=false):hgB p x=false:=by unfold hgB;rw[h];rfl
theorem Nw{x:Gr}(h:f_ x=false):hgB p x=false:=by unfold hgB;rw[h,Bool.false_and,Bool.and_false]
theorem Nv{x:Gr}(he:x.es[k]?=some e)(h7:e.kd=7∨e.kd=13)(h:p<=e.vl):hgB p x=false:=by have:(x.es.all λe=>decide (e.vl<p))=false:=aof.2 ⟨e,am1 he,by simp;omega⟩;unfold hgB;rw[this,Bool.and_false,Bool.and_false]
theorem Ip{x:Gr}(h:f_ x=true):∀e∈x.es,BK e=true:=λe he=>by simp only[f_,anx]at h;have:=anl.1 h.1.2 e he;simp only[anx]at this;exact this.1.1
theorem U_{x:Gr}(hF:aj p=true)(hV:f_ x=true)(h:(x.es.take x.es.length).all (Y4 p)=true):hgB p x=true:=by
 rw[anf]at h;have h2:=au hF;unfold hgB;rw[hF,hV,anL,anL];refine anl.2 λe he=>?_
 have h1:=anl.1 h e he;have hk:=Ip hV e he;simp only[BK,OC,anx]at hk;have hv:=hk.1.1.2;rw[decide_eq_true_eq];by_cases h7:e.kd=7∨e.kd=13
 .simp[Y4,h7]at h1;exact h1
 .unfold Eo at hv;rw[amZ h7,decide_eq_true_eq]at hv;omega
theorem Y3(h:¬(e.kd=7∨e.kd=13)):Y4 p e=true:=by unfold Y4;rw[decide_eq_false h];rfl
theorem Vv(h:¬p<=e.vl):Y4 p e=true:=by unfold Y4;rw[decide_eq_false h,Bool.and_false];rfl
theorem BB(p:Int)(x:Gr)(E:Option Addr)(ec:Nat)(I:Option Addr)(ic:Nat)(O:Option Addr)(oc:Nat)(w:World)(hE:gm EE w E x.es)(hI:Rd w I x.ins)(hO:Rd w O x.outs)(ht:Tb w):
 Calls prog 23 #[.int .i64 p,.agg #[.int .i64 x.aI,.slice E x.es.length ec,.slice I x.ins.length ic,.slice O x.outs.length oc]] w λe w'=>e=.returned (.bool (hgB p x))/\Ex w w':=by
 obtain⟨y0,d0⟩:=VB.xn w 34 #[.int .i64 x.aI,.slice E x.es.length ec,.slice I x.ins.length ic,.slice O x.outs.length oc];have cF:=iq p (w.alloc (.cells #[.int .i64 x.aI,.slice E x.es.length ec,.slice I x.ins.length ic,.slice O x.outs.length oc] 34)) (ht.ex y0);have cV:=Nh x E ec I ic O oc (w.alloc (.cells #[.int .i64 x.aI,.slice E x.es.length ec,.slice I x.ins.length ic,.slice O x.outs.length oc] 34)) (hE.ex y0) (hI.ex y0) (hO.ex y0);have hEl:=hE.1;obtain⟨N,hN⟩:=xq x.es.length;have HN:=amW hN;have H:=amW hE;rw[hN]at y0 d0 cF cV hEl⊢;generalize hW0:w.alloc (.cells #[.int .i64 x.aI,.slice E N ec,.slice I x.ins.length ic,.slice O x.outs.length oc] 34)=W0 at*;obtain⟨q0,q1,q2,q3⟩:=d0.d4;clear hN hE;cases hF:aj p with
 |false=>
  rw[Ny hF];rw[hF]at cF;go_enter Tryz.func23,Tryz.ntmps23
  go_wp2_with fail
  refine cF.mono ?_;rintro e _ ⟨rfl,rfl⟩;go_wp2;go_ret;exact⟨rfl,y0⟩
 |true=>
  have HF:=amW hF;rw[hF]at cF;clear hF;cases hT:f_ x with
  |false=>
   rw[Nw hT];rw[hT]at cV;go_enter Tryz.func23,Tryz.ntmps23
   go_wp2_with fail
   refine cF.mono ?_;rintro e _ ⟨rfl,rfl⟩;go_wp2_with fail
   refine cV.mono ?_;rintro e w2 ⟨rfl,x2⟩;go_wp2;go_ret;exact⟨rfl,y0.trans x2⟩
  |true=>
   have HT:=amW hT;rw[hT]at cV;clear hT;go_enter Tryz.func23,Tryz.ntmps23
   go_wp2_with fail
   refine cF.mono ?_;rintro e _ ⟨rfl,rfl⟩;go_wp2_with fail
   refine cV.mono ?_;rintro e w2 ⟨rfl,x2⟩;have q1:=af x2 q1;clear cF cV;go_wp2_with fail
   go_loopw [18] (λi wr=>∃k:Nat,k<=N/\i=.int .i64 k/\Hid ((x.es.take k).all (Y4 p)=true)/\Ex w wr) (λi _=>N-(intOf i).toNat)
   case atStart=>exact⟨0,am4 _,rfl,amW rfl,y0.trans x2⟩
   case round=>
    rename World=>wi;obtain⟨k,hk,rfl,HA,he⟩:=hrel;by_cases hlt:k<N
    .obtain⟨g,off,e,P,pc,Q,qc,rfl,hx,c0,c1,c2,c3,_,_⟩:=H.out.edge (j:=k) (by rw[HN.out];exact hlt);have Hx:=amW hx;have c0:=af he c0;have c1:=af he c1;have c2:=af he c2;have c3:=af he c3;obtain⟨y4,n2,W4,Vd⟩:=VB.al wi 45 #[.int .i64 e.kd,.int .i64 e.vl,.slice P e.ins.length pc,.slice Q e.outs.length qc];rw[Vd]at y4 n2;obtain⟨d0,d1⟩:=n2.d2;have cH:=λW=>sI e.kd W
     have qO:=he.trans y4;clear hx;by_cases hb:e.kd=7∨e.kd=13
     .rw[decide_eq_true hb]at cH;by_cases hp:p<=e.vl
      .have hok:=amW (Nv Hx.out hb hp);clear hb;go_wp2_with fail
       refine(cH _).mono ?_;rintro e _ ⟨rfl,rfl⟩;go_wp2;go_ret;rw[hok.out];exact⟨rfl,qO⟩
      .have HS:=amW (mg Hx.out HA.out (Vv hp));clear hb;go_wp2_with fail
       refine(cH _).mono ?_;rintro e _ ⟨rfl,rfl⟩;go_wp2_with fail
       go_roundw;case rel=>exact⟨k+1,by omega,by go_num,HS,qO⟩
       case measure=>simp[intOf];omega
     .rw[decide_eq_false hb]at cH;have HS:=amW (mg Hx.out HA.out (Y3 hb));clear hb;go_wp2_with fail
      refine(cH _).mono ?_;rintro e _ ⟨rfl,rfl⟩;go_wp2_with fail
      go_roundw;case rel=>exact⟨k+1,by omega,by go_num,HS,qO⟩
      case measure=>simp[intOf];omega
    .obtain rfl:k=N:=by omega
     have hok:=amW (U_ HF.out HT.out (by rw[HN.out];exact HA.out));go_wp2_with fail
     go_ret;rw[hok.out];exact⟨rfl,he⟩
end Go.Proofs.YtekcehkhdjoffaaGreatDoor
