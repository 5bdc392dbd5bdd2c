/- Lemmas and walks on terms over rational functions: Linear algebra: the composition of relations .. -/
import Derived.Test.YthgiffhlfcmgaaaGreatDoorQ01
import Derived.Laws.EntriesVeiled
import Derived.Test.YthgiffhlfcmgaaaGreatDoorQ02
import Derived.BigRegion
import Derived.Deep.Cut
import Derived.Deep.RegionLaw
namespace Go.Proofs.YthgiffhlfcmgaaaGreatDoor
open List(range)
open List(replicate)
open Tryz(prog)
set_option maxRecDepth 100000
set_option maxHeartbeats 8000000
set_option linter.all false
variable{f p x:Int}{M rows xs:List (List Int)}{l v:List Int}{P bs:List Nat}{B G H N R Z c ca g i j k n r t xa xp xr:Nat}{A:Option Addr}{K α:Type}{w w':World}
section
variable {K : Type}
theorem lF{O:Ops K}(n:Nat)(R:List (List K)):aQ n (O.gJ n R):=by
 have:∀(m j t:Nat),aQ n (O.dK n R m j t):=by
  intro m
  induction m with
  |zero=>intro j t v hv;cases hv
  |succ m ih=>
   intro j t v hv;rw[Ops.dK]at hv;split at hv
   .exact ih _ _ v hv
   .rcases axI.1 hv with e|hv
    .rw[e];exact nK O n R j
    .exact ih _ _ v hv
 exact this n 0 0
theorem EY{F:aJ K}{rows:List (List K)}(hw:aQ n rows):aQ rows.length (F.lJ n rows):=λv hv=>by obtain⟨P,_,hW⟩:=kJ.red (F:=F) n 0 0 (F.beside rows) [] (iJ hw) (kJ.start F _);obtain⟨z,hz,rfl⟩:=axr.1 hv;rw[axF,hW z (ayM hz)];omega
theorem Yg{F:aJ K}{rows:List (List K)}(hw:aQ n rows):aQ n (F.aC n rows):=(dL F hw).1
theorem Nz{F:aJ K}{s:Nat}{M rows:List (List K)}(hM:aQ s M)(hw:aQ n rows)(hs:rows.length=s)(hl:M.length=n)(he:∀j i,j<n->i<s->F.el (M.getD j []) i=F.el (rows.getD i []) j)(v:Nat->K):Sp F (F.fns (F.aC s (F.gJ s (F.aC s M)))) v↔Sp F (F.fns (F.lJ n rows)) v:=by
 obtain⟨Wl,P,hE⟩:=dL F hM;rw[dH F (lF s _),xE hE Wl,qN hw,sV.same (dH F hM),hs];have hd:∀(j:Nat) (k:Nat->K),j<n->F.dot s (F.fn (M.getD j [])) k=F.dot s (λi=>F.el (rows.getD i []) j) k:=λj k hj=>F.aO λi hi=>by show F.mul (F.el _ i) _=_;rw[he j i hj hi]
 constructor
 .rintro⟨h1,h2⟩;refine⟨h1,λa ha=>?_⟩;obtain⟨j,hj,rfl⟩:=axr.1 ha;rw[ax5]at hj;rw[<-hd j v hj];refine h2 _ (axr.2 ⟨_,?_,rfl⟩);rw[axt,axn (show j<M.length by omega)];exact ax6 _
 .rintro⟨h1,h2⟩;refine⟨h1,λa ha=>?_⟩;obtain⟨u,hu,rfl⟩:=axr.1 ha;obtain⟨j,hj⟩:=axz hu;have hjl:=(axp.1 hj).1;have:=hd j v (by omega);rw[axt,hj,azd]at this;rw[this];exact h2 _ (axr.2 ⟨j,ax5.2 (by omega),rfl⟩)
def Ops.oK(O:Ops K)(la mid:Nat)(A B:List (List K)):List (List K):=(range mid).map λj=>A.map (λr=>O.el r (la+j))++B.map (λr=>O.neg (O.el r j))
def Ops.kI(O:Ops K)(la mid:Nat)(A B:List (List K)):List (List K):=A.map (List.drop la)++B.map (λr=>(r.take mid).map O.neg)
def Ops.FU(O:Ops K)(la mid rb:Nat)(A B:List (List K)):List (List K):=O.aC (la+rb) ((O.aC (A.length+B.length) (O.gJ (A.length+B.length) (O.aC (A.length+B.length) (O.oK la mid A B)))).map (O.gW la mid rb A B))
def Ops.oo(O:Ops K)(la mid rb:Nat)(A B:List (List K)):List (List K):=O.aC (la+rb) ((O.lJ mid (O.kI la mid A B)).map (O.gW la mid rb A B))
theorem I7(F:aJ K)(v:List K)(j:Nat):F.el (v.map F.neg) j=F.neg (F.el v j):=by
 unfold Ops.el;rw[axt,axt,axw];cases v[j]? with
 |none=>exact F.aiK.symm
 |some x=>rfl
theorem cmp_eq(F:aJ K){la mid rb:Nat}{A B:List (List K)}(hA:aQ (la+mid) A)(hB:aQ (mid+rb) B):F.FU la mid rb A B=F.oo la mid rb A B:=by
 have hI:aQ mid (F.kI la mid A B):=λv hv=>by
  rcases axZ.1 hv with hv|hv
  .obtain⟨r,hr,rfl⟩:=axr.1 hv;rw[axF,hA r hr];omega
  .obtain⟨r,hr,rfl⟩:=axr.1 hv;rw[axs,axx,hB r hr];omega
 have hS:aQ (A.length+B.length) (F.oK la mid A B):=λv hv=>by obtain⟨j,_,rfl⟩:=axr.1 hv;rw[axv,axs,axs]
 have J3:(F.kI la mid A B).length=A.length+B.length:=by unfold Ops.kI;rw[axv,axs,axs]
 refine aaW F hA hB (Yg (lF _ _)) (J3▸EY hI) (Nz hS hI J3 (by unfold Ops.oK;rw[axs,ayC]) λj i hj hi=>?_);have e1:(F.oK la mid A B).getD j []=A.map (λr=>F.el r (la+j))++B.map (λr=>F.neg (F.el r j)):=by unfold Ops.oK;rw[axt,axw,ayO hj];rfl
 rw[e1,kV,axs];unfold Ops.kI;split
 .rename_i hia;rw[Ops.dD F.toOps (x:=F.el (A[i]'hia) (la+j)) (by rw[axw,axn hia];rfl),axt,axX (by rw[axs];exact hia),axw,axn hia];exact(nG F _ la j).symm
 .rename_i hia;have hib:i-A.length<B.length:=by omega
  rw[Ops.dD F.toOps (x:=F.neg (F.el (B[i-A.length]'hib) j)) (by rw[axw,axn hib];rfl),axt,axN (by rw[axs];omega),axs,axw,axn hib];show _=F.el ((B[i-A.length].take mid).map F.neg) j;rw[I7,pz,axl hj]
variable {A : Type} {O : Ops K} {O' : Ops A} {f : K -> A}
theorem jM.afC(h:jM O O' f)(n:Nat):replicate n O'.z=(replicate n O.z).map f:=by rw[azK,h.z]
theorem jM.unit(h:jM O O' f)(s i:Nat):O'.unit s i=(O.unit s i).map f:=by unfold Ops.unit;rw[h.afC,h.o,ayy]
theorem jM.beside(h:jM O O' f)(rows:List (List K)):O'.beside (dO f rows)=dO f (O.beside rows):=by
 unfold Ops.beside;refine ax_ λi=>?_
 rw[ay3,axw,axw,ay3,Option.map_map,Option.map_map,axs];congr 1;funext v;show v.map f++O'.unit _ _=(v++O.unit _ _).map f;rw[h.unit,ax4]
theorem jM.lJ(h:jM O O' f)(n:Nat)(rows:List (List K)):O'.lJ n (dO f rows)=dO f (O.lJ n rows):=by unfold Ops.lJ;rw[h.beside,h.red];show List.map _ (List.drop _ (List.map _ _))=List.map _ (List.map _ _);rw[<-ayT,axO,axO];exact ax0 λv _=>ayT.symm
theorem jM.iD(h:jM O O' f)(j:Nat):∀(R:List (List K)) (v:List K),O'.iD (dO f R) j (v.map f)=(O.iD R j v).map f
 |[],_=>rfl
 |r::R,v=>by show O'.iD (dO f R) j ((v.map f).set (O'.lead (r.map f)) (O'.neg (O'.el (r.map f) j)))=(O.iD R j (v.set (O.lead r) (O.neg (O.el r j)))).map f;rw[h.lead,h.el,h.neg,<-ayy,jM.iD h j R]
theorem jM.fT(h:jM O O' f)(s:Nat)(R:List (List K))(j:Nat):O'.fT s (dO f R) j=(O.fT s R j).map f:=by unfold Ops.fT;rw[h.afC,h.o,<-ayy,h.iD]
theorem jM.dK(h:jM O O' f)(s:Nat)(R:List (List K)):∀(m j t:Nat),O'.dK s (dO f R) m j t=dO f (O.dK s R m j t)
 |0,_,_=>rfl
 |m+1,j,t=>by rw[Ops.dK,Ops.dK,zl,h.lead,axs,jM.dK h s R m,jM.dK h s R m,h.fT];split<;>rfl
theorem jM.gJ(h:jM O O' f)(s:Nat)(R:List (List K)):O'.gJ s (dO f R)=dO f (O.gJ s R):=h.dK s R s 0 0
theorem jM.nN(h:jM O O' f)(w:Nat)(k:List K)(R:List (List K)):O'.nN w (k.map f) (dO f R)=(O.nN w k R).map f:=by
 unfold Ops.nN;rw[h.afC,List.zip_map];have:∀(l:List (K×List K)) (v:List K),(l.map (Prod.map f (List.map f))).foldl (λv q=>O'.less v (O'.neg q.1) q.2) (v.map f)=(l.foldl (λv q=>O.less v (O.neg q.1) q.2) v).map f:=by
  intro l
  induction l with
  |nil=>intro v;rfl
  |cons q l ih=>intro v;show(l.map _).foldl _ (O'.less (v.map f) (O'.neg (f q.1)) (q.2.map f))=_;rw[h.neg,h.less,ih];rfl
 exact this _ _
theorem jM.gW(h:jM O O' f)(la mid rb:Nat)(a b:List (List K))(k:List K):O'.gW la mid rb (dO f a) (dO f b) (k.map f)=(O.gW la mid rb a b k).map f:=by unfold Ops.gW;rw[axs,<-aze,<-ayT,h.nN,h.nN,<-aze,<-ayT,ax4]
theorem jM.aeL(h:jM O O' f)(la mid rb:Nat)(a b N:List (List K)):(dO f N).map (O'.gW la mid rb (dO f a) (dO f b))=dO f (N.map (O.gW la mid rb a b)):=by show _=List.map _ (List.map _ _);rw[axO,axO];exact ax0 λk _=>h.gW la mid rb a b k
theorem jM.oK(h:jM O O' f)(la mid:Nat)(a b:List (List K)):O'.oK la mid (dO f a) (dO f b)=dO f (O.oK la mid a b):=by
 unfold Ops.oK;show _=List.map _ (List.map _ _);rw[axO];refine ax0 λj _=>?_
 show _=List.map f (_++_);rw[ax4,axO,axO,axO,axO];congr 1
 .exact ax0 λr _=>h.el r _
 .refine ax0 λr _=>?_
  show O'.neg (O'.el (r.map f) j)=f (O.neg (O.el r j));rw[h.el,h.neg]
theorem jM.kI(h:jM O O' f)(la mid:Nat)(a b:List (List K)):O'.kI la mid (dO f a) (dO f b)=dO f (O.kI la mid a b):=by
 unfold Ops.kI;show _=List.map _ (_++_);rw[ax4,axO,axO,axO,axO];congr 1
 .exact ax0 λr _=>ayT.symm
 .refine ax0 λr _=>?_
  show((r.map f).take mid).map O'.neg=((r.take mid).map O.neg).map f;rw[<-aze,axO,axO];exact ax0 λx _=>h.neg x
theorem jM.FU(h:jM O O' f)(la mid rb:Nat)(a b:List (List K)):O'.FU la mid rb (dO f a) (dO f b)=dO f (O.FU la mid rb a b):=by unfold Ops.FU;rw[axs,axs,h.oK,h.aC,h.gJ,h.aC (a.length+b.length),h.aeL,h.aC]
theorem jM.oo(h:jM O O' f)(la mid rb:Nat)(a b:List (List K)):O'.oo la mid rb (dO f a) (dO f b)=dO f (O.oo la mid rb a b):=by unfold Ops.oo;rw[h.kI,h.lJ,h.aeL,h.aC]
end
def ay(p:Int):Ops Int:=⟨λa b=>(a+b)%p,λa b=>a*b%p,λa=>(-a)%p,λa=>dh p a,0,1,λa=>decide (a=0)⟩
theorem jK(hp:0<p)(a:Int):iF p (a%p)=true:=by simp[iF];exact⟨ayh _ (by omega),ayi _ hp⟩
theorem Oo{a:Int}(h:iF p a=true):0<=a/\a<p:=by simpa[iF]using h
theorem Y9{a:Int}(h:iF p a=true):a%p=a:=ayl (Oo h).1 (Oo h).2
def aD(p:Int)(hF:av p=true):aJ {a:Int // iF p a=true} where
 add x y:=⟨(x.1+y.1)%p,jK (by have:=ax hF;omega) _⟩
 mul x y:=⟨x.1*y.1%p,jK (by have:=ax hF;omega) _⟩
 neg x:=⟨(-x.1)%p,jK (by have:=ax hF;omega) _⟩
 inv x:=⟨dh p x.1,by have:=kS (p:=p) x.1 (ax hF);simp[iF];exact this⟩
 z:=⟨0,by have:=ax hF;simp[iF];omega⟩
 o:=⟨1,by have:=ax hF;simp[iF];omega⟩
 kZ x:=decide (x.1=0)
 add_comm x y:=axS (by show(x.1+y.1)%p=(y.1+x.1)%p;rw[Int.add_comm])
 add_assoc x y z:=axS (by
  show((x.1+y.1)%p+z.1)%p=(x.1+(y.1+z.1)%p)%p;rw[Int.emod_add_emod,Int.add_emod_emod,Int.add_assoc])
 bB x:=axS (by show(0+x.1)%p=x.1;rw[azc];exact Y9 x.2)
 neg_add x:=axS (by
  show((-x.1)%p+x.1)%p=0;rw[Int.emod_add_emod,Int.add_left_neg];rfl)
 mul_comm x y:=axS (by show x.1*y.1%p=y.1*x.1%p;rw[ay2])
 mul_assoc x y z:=axS (by
  show(x.1*y.1%p)*z.1%p=x.1*(y.1*z.1%p)%p;rw[aym,ayQ,<-aym,aym x.1 (y.1*z.1%p),ayQ,<-aym,ayR])
 bE x:=axS (by show 1*x.1%p=x.1;rw[Int.one_mul];exact Y9 x.2)
 distrib x y z:=axS (by
  show x.1*((y.1+z.1)%p)%p=(x.1*y.1%p+x.1*z.1%p)%p;rw[aym,ayQ,<-aym,Int.emod_add_emod,Int.add_emod_emod,Int.mul_add])
 inv_mul x hx:=axS (by
  show dh p x.1*x.1%p=1;have h:=Oo x.2;have h0:x.1≠0:=λe=>hx (axS e)
  rw[ay2];exact inv_mul hF (by omega) h.2)
 Qw e:=by have:=congrArg Subtype.val e;exact absurd this (by show¬(1:Int)=0;omega)
 iI x:=by rw[decide_eq_true_eq];exact⟨λe=>axS e,λe=>by rw[e]⟩
theorem kX(p:Int)(hF:av p=true):jM (aD p hF).toOps (ay p) Subtype.val where
 add _ _:=rfl
 mul _ _:=rfl
 neg _:=rfl
 inv _ _:=rfl
 z:=rfl
 o:=rfl
 kZ _:=rfl
section
variable {K : Type}
def Ops.uz(O:Ops K)(n:Nat)(R:List (List K)):List (List K):=((range n).filter λj=>R.all λr=>O.lead r !=j).map (O.fT n R)
def Ops.g_(O:Ops K)(n:Nat)(rows:List (List K)):List (List K):=O.aC n (O.uz n (O.aC n rows))
theorem qI(O:Ops K)(n:Nat)(R:List (List K)):aQ n (O.uz n R):=λv hv=>by obtain⟨j,_,rfl⟩:=axr.1 hv;exact nK O n R j
theorem Iu{F:aJ K}{R:List (List K)}(h:kJ F R R.length n P)(hw:aQ n R)(v:List K):v∈F.uz n R↔v∈F.gJ n R:=by
 rw[vQ h hw];have hP:∀i,(R.all λr=>F.lead r !=i)=true↔i∉P:=λi=>by
  rw[axQ];constructor
  .intro ha hi;obtain⟨t,ht⟩:=axz hi;have hl:=(axp.1 ht).1;have hr:R[t]?=some (R[t]'(by rw[<-h.pl];exact hl)):=axn _;obtain⟨q,hq,e,_⟩:=h.lead hw hr;rw[ht]at hq;injection hq with hq;have:=ha _ (axo hr);rw[e,hq]at this;simp at this
  .intro hi r hr;obtain⟨t,ht⟩:=axz hr;obtain⟨q,hq,e,_⟩:=h.lead hw ht;rw[e,bne_iff_ne];exact λe2=>hi (e2▸axo hq)
 constructor
 .intro hv;obtain⟨j,hj,rfl⟩:=axr.1 hv;obtain⟨h1,h2⟩:=azL.1 hj;exact⟨j,ax5.1 h1,(hP j).1 h2,rfl⟩
 .rintro⟨j,h1,h2,rfl⟩;exact axr.2 ⟨j,azL.2 ⟨ax5.2 h1,(hP j).2 h2⟩,rfl⟩
theorem Ud{O:Ops K}{A B:List (List K)}(h:∀v,v∈A->v∈B):∀r∈O.fns A,r∈O.fns B:=λr hr=>by obtain⟨v,hv,rfl⟩:=axr.1 hr;exact axr.2 ⟨v,h v hv,rfl⟩
theorem LX(F:aJ K){rows:List (List K)}(hw:aQ n rows)(k:Nat->K):Sp F (F.fns (F.g_ n rows)) k↔sV F n (F.fns rows) k:=by obtain⟨h1,P,h2⟩:=dL F hw;unfold Ops.g_;rw[dH F (qI F.toOps n _),<-sV.same (dH F hw) k,<-xE h2 h1 k];exact⟨λh=>h.sub (Ud λv hv=>(Iu h2 h1 v).1 hv),λh=>h.sub (Ud λv hv=>(Iu h2 h1 v).2 hv)⟩
theorem jM.uz{A:Type}{O:Ops K}{O':Ops A}{f:K->A}(h:jM O O' f)(n:Nat)(R:List (List K)):O'.uz n (dO f R)=dO f (O.uz n R):=by
 unfold Ops.uz;have e:((range n).filter λj=>(dO f R).all λr=>O'.lead r !=j)=(range n).filter λj=>R.all λr=>O.lead r !=j:=List.filter_congr λj _=>by unfold dO;rw[List.all_map];congr 1;funext r;show(O'.lead (r.map f) !=j)=_;rw[h.lead]
 rw[e];unfold dO;rw[axO];exact ax0 λj _=>h.fT n R j
theorem jM.g_{A:Type}{O:Ops K}{O':Ops A}{f:K->A}(h:jM O O' f)(n:Nat)(rows:List (List K)):O'.g_ n (dO f rows)=dO f (O.g_ n rows):=by unfold Ops.g_;rw[h.aC,h.uz,h.aC]
end
section
variable {K : Type}
def aJ.vd(F:aJ K)(u v:Nat->K):Nat->K:=F.va u (F.vs (F.neg F.o) v)
theorem aJ.afd(F:aJ K)(u v:Nat->K):F.va (F.vd u v) v=u:=funext λj=>by show F.add (F.add (u j) (F.mul (F.neg F.o) (v j))) (v j)=u j;rw[F.add_assoc,F.neg_mul,F.bE,F.neg_add,F.dP]
theorem aJ.aim(F:aJ K)(u v:Nat->K):F.vd (F.va u v) v=u:=funext λj=>by show F.add (F.add (u j) (v j)) (F.mul (F.neg F.o) (v j))=u j;rw[F.add_assoc,F.neg_mul,F.bE,F.add_neg,F.dP]
theorem aJ.abU(F:aJ K)(u:Nat->K):F.vd u u=F.vz:=funext λj=>by show F.add (u j) (F.mul (F.neg F.o) (u j))=F.z;rw[F.neg_mul,F.bE,F.add_neg]
theorem Sp.aec{F:aJ K}{R:List (Nat->K)}{u v:Nat->K}(h:Sp F R (F.vd u v))(k:Sp F R v):Sp F R u:=by have:=h.add k;rwa[F.afd]at this
theorem Sp.vd{F:aJ K}{R:List (Nat->K)}{u v:Nat->K}(h:Sp F R u)(k:Sp F R v):Sp F R (F.vd u v):=h.add (k.smul _)
theorem aJ.aik(F:aJ K)(u v s:Nat->K):F.vd (F.va u s) v=F.va (F.vd u v) s:=by unfold aJ.vd;rw[F.xZ,F.abV s,<-F.xZ]
theorem zC(F:aJ K)(a b:List (List K)):F.fns (a++b)=F.fns a++F.fns b:=by unfold Ops.fns;rw[ax4]
structure zT (F:aJ K) (Z0 rows:List (List K)) (r:Nat) (O:List (List K)):Prop where
 len:O.length=rows.length
 mem:∀v∈O,v∈Z0
 fin:∀(i:Nat) (v:List K),i<r->rows[i]?=some v->Sp F (F.fns (O.take r)) (F.fn v)
 rest:∀(i:Nat) (v o:List K),r<=i->rows[i]?=some v->O[i]?=some o->Sp F (F.fns (O.take r)) (F.vd (F.fn v) (F.fn o))
 back:∀v,Sp F (F.fns (O.take r)) v->Sp F (F.fns (rows.take r)) v
 ind:∀(k:Nat) (o:List K),k<r->O[k]?=some o->¬Sp F (F.fns (O.take k)) (F.fn o)
theorem zT.start(F:aJ K)(Z0:List (List K)):zT F Z0 Z0 0 Z0:=
 ⟨rfl,λ_ h=>h,λ_ _ h=>absurd h (ay4 _),λi v o _ h1 h2=>by
  rw[h1]at h2;injection h2 with h2;subst h2;rw[F.abU];exact Sp.zero F _,λ_ h=>h,λ_ _ h=>absurd h (ay4 _)⟩
theorem zT.piv{F:aJ K}{Z0 rows:List (List K)}{O:List (List K)}(h:zT F Z0 rows r O)(he:kJ F rows r c P)(hw:aQ n rows)(hrk:r<=k)(hk:k<rows.length)(hx:F.el (rows.getD k []) c≠F.z):zT F Z0 (F.piv rows r c k) (r+1) (lq O r k):=by
 have hr:r<rows.length:=by omega
 have hol:=h.len;obtain⟨vk,hvk⟩:∃v,rows[k]?=some v:=⟨_,axn hk⟩;obtain⟨ok,hok⟩:∃v,O[k]?=some v:=⟨_,axn (by omega)⟩;have ekd:rows.getD k []=vk:=by rw[axt,hvk];rfl
 have eod:O.getD k []=ok:=by rw[axt,hok];rfl
 rw[ekd]at hx;obtain⟨L,hL⟩:=xq (F.oJ vk c);have hlenL:L.length=n:=by rw[<-hL,sw];exact hw vk (axo hvk)
 have o1:∀i,i<r->(lq O r k)[i]?=O[i]?:=λi hi=>by rw[oP (by omega) (by omega) i (by omega),axm (by omega),axm (by omega),axt,axn (by omega)];rfl
 have o2:(lq O r k)[r]?=some ok:=by
  rw[oP (by omega) (by omega) r (by omega)];by_cases e:r=k
  .rw[axl e,e,eod]
  .rw[axm e,axl rfl,eod]
 have ot:(lq O r k).take r=O.take r:=ax_ λi=>by
  rw[axL,axL];split
  .rename_i hi;exact o1 i hi
  .rfl
 have otk:∀j,j<=r->(lq O r k).take j=O.take j:=λj hj=>ax_ λi=>by
  rw[axL,axL];split
  .rename_i hi;exact o1 i (by omega)
  .rfl
 have ot1:(lq O r k).take (r+1)=O.take r++[ok]:=by rw[axy,ot,o2];rfl
 have inc:∀v,Sp F (F.fns (O.take r)) v->Sp F (F.fns ((lq O r k).take (r+1))) v:=λv hv=>by rw[ot1,zC];exact hv.sub λq hq=>ayW _ hq
 have hokS:Sp F (F.fns ((lq O r k).take (r+1))) (F.fn ok):=by rw[ot1,zC];exact Sp.mem (azM _ (axr.2 ⟨ok,by simp,rfl⟩))
 have ann:Sp F (F.fns ((lq O r k).take (r+1))) (F.fn vk):=(inc _ (h.rest k vk ok hrk hvk hok)).aec hokS;have hLS:Sp F (F.fns ((lq O r k).take (r+1))) (F.fn L):=by have:=ann.smul (F.inv (F.el vk c));rw[<-Ko,hL]at this;exact this
 have Yv:∀(i:Nat) (v:List K),(F.piv rows r c k)[i]?=some v->i<rows.length/\((i=r/\v=L)∨(i≠r/\∃u,rows[if i=k then r else i]?=some u/\∃y,F.fn v=F.va (F.fn u) (F.vs y (F.fn L)))):=λi v hv=>by
  have hil:i<rows.length:=by have:=(axp.1 hv).1;rwa[eH]at this
  rw[pU F.toOps hr hk c i hil,ekd,hL]at hv;injection hv with hv;refine⟨hil,?_⟩;unfold Ops.Gt at hv;by_cases e:i=r
  .rw[axl e]at hv;exact .inl ⟨e,hv.symm⟩
  .rw[axm e]at hv;have hsl:(if i=k then r else i)<rows.length:=by split<;>omega
   obtain⟨s,hs⟩:=xq ((if i=k then r else i));have e2:(if i=k then r else if i=r then k else i)=s:=by rw[<-hs,axm e]
   rw[e2]at hv;rw[hs]at hsl⊢;obtain⟨u,hu⟩:∃u,rows[s]?=some u:=⟨_,axn hsl⟩;have eu:rows.getD s []=u:=by rw[axt,hu];rfl
   rw[eu]at hv;have zY:u.length=L.length:=by rw[hlenL];exact hw _ (axo hu)
   refine .inr ⟨e,u,hu,?_⟩;by_cases hz:F.kZ (F.el u c)=true
   .rw[axl hz]at hv;exact⟨F.z,by rw[<-hv];exact funext λj=>by show _=F.add _ (F.mul F.z _);rw[F.gP,F.dP]⟩
   .rw[axm hz]at hv;exact⟨_,by rw[<-hv,Kq F zY]⟩
 have lead:(F.piv rows r c k)[r]?=some L:=by rw[pU F.toOps hr hk c r hr,ekd,hL];unfold Ops.Gt;rw[axl rfl]
 have pS:∀(i:Nat) (v:List K),i<r+1->(F.piv rows r c k)[i]?=some v->Sp F (F.fns ((F.piv rows r c k).take (r+1))) (F.fn v):=λi v hi hv=>
  Sp.mem (axr.2 ⟨v,azk.2 ⟨i,by rw[axL,axl hi];exact hv⟩,rfl⟩)
 have ad9:∀v,Sp F (F.fns (rows.take r)) v->Sp F (F.fns ((F.piv rows r c k).take (r+1))) v:=λv hv=>hv.mono λq hq=>by
  obtain⟨u,hu,rfl⟩:=axr.1 hq;obtain⟨i,hi⟩:=axz hu;rw[axL]at hi;split at hi
  .rename_i hir;obtain⟨v',hv'⟩:∃v',(F.piv rows r c k)[i]?=some v':=⟨_,axn (by rw[eH];omega)⟩;obtain⟨_,hh⟩:=Yv i v' hv';rcases hh with⟨e,_⟩|⟨_,u',hu',y,hy⟩
   .omega
   .rw[axm (by omega),hi]at hu';injection hu' with hu';subst hu';have h1:=(pS i v' (by omega) hv').vd ((pS r L (by omega) lead).smul y);rwa[hy,F.aim]at h1
  .cases hi
 have ano:Sp F (F.fns ((F.piv rows r c k).take (r+1))) (F.fn vk):=by have:=(pS r L (by omega) lead).smul (F.el vk c);rwa[<-hL,Ko,F.XA,F.TF hx,F.afc]at this
 have anI:Sp F (F.fns ((F.piv rows r c k).take (r+1))) (F.fn ok):=by
  have h1:=ad9 _ (h.back _ (h.rest k vk ok hrk hvk hok));have h2:=ano.vd h1;have:F.vd (F.fn vk) (F.vd (F.fn vk) (F.fn ok))=F.fn ok:=funext λj=>by show F.add (F.el vk j) (F.mul (F.neg F.o) (F.add (F.el vk j) (F.mul (F.neg F.o) (F.el ok j))))=F.el ok j;rw[F.distrib,F.neg_mul,F.bE,F.neg_mul,F.bE,F.neg_mul,F.bE,F.neg_neg,<-F.add_assoc,F.add_neg,F.bB]
  rwa[this]at h2
 refine⟨by rw[yo,eH];exact hol,λv hv=>?_,λi v hi hv=>?_,λi v o hi hv ho=>?_,λv hv=>?_,λj o hj ho hs=>?_⟩
 .obtain⟨i,hi⟩:=axz hv;have hil:i<O.length:=by have:=(axp.1 hi).1;rwa[yo]at this
  rw[oP (by omega) (by omega) i hil]at hi;injection hi with hi;have hsl:=Ao (n:=O.length) hil (show r<O.length by omega) (show k<O.length by omega);rw[axt,axn hsl]at hi;rw[<-hi];exact h.mem _ (ax6 hsl)
 .obtain⟨hil,hh⟩:=Yv i v hv;rcases hh with⟨e,e2⟩|⟨e,u,hu,y,hy⟩
  .rw[e2];exact hLS
  .rw[axm (by omega)]at hu;rw[hy];exact(inc _ (h.fin i u (by omega) hu)).add (hLS.smul y)
 .obtain⟨hil,hh⟩:=Yv i v hv;rcases hh with⟨e,_⟩|⟨e,u,hu,y,hy⟩
  .omega
  .rw[hy,F.aik];refine(inc _ ?_).add (hLS.smul y);rw[oP (by omega) (by omega) i (by omega)]at ho;injection ho with ho;by_cases e3:i=k
   .rw[axl e3]at hu ho;exact h.rest r u o (axk _) hu (by rw[<-ho,axt,axn (by omega)];rfl)
   .rw[axm e3]at hu;rw[axm e3,axm e]at ho;exact h.rest i u o (by omega) hu (by rw[<-ho,axt,axn (by omega)];rfl)
 .rw[ot1,zC]at hv;refine hv.mono λq hq=>?_
  rcases axZ.1 hq with hq|hq
  .exact ad9 _ (h.back _ (Sp.mem hq))
  .obtain⟨u,hu,rfl⟩:=axr.1 hq;rw[axJ.1 hu];exact anI
 .rw[otk j (by omega)]at hs;by_cases e:j=r
  .subst e;rw[o2]at ho;injection ho with ho;subst ho;have h1:=h.back _ ((h.rest k vk ok hrk hvk hok).aec hs);have h2:=he.take.oN h1 λp hp=>he.low k vk hrk hvk p (he.lt p hp)
   exact hx (congrFun h2 c)
  .rw[o1 j (by omega)]at ho;exact h.ind j o (by omega) ho hs
end
section
variable {K : Type}
def aJ.nN(F:aJ K)(O:List (List K))(y:Nat->K)(m:Nat):Nat->K:=λj=>F.bD m λk=>F.mul (y k) (F.el (O.getD k []) j)
theorem OJ(F:aJ K)(O:List (List K))(y:Nat->K)(m:Nat):F.nN O y (m+1)=F.va (F.nN O y m) (F.vs (y m) (F.fn (O.getD m []))):=rfl
theorem KI{F:aJ K}{O:List (List K)}(y:Nat->K):∀m,m<=O.length->Sp F (F.fns (O.take m)) (F.nN O y m)
 |0,_=>Sp.zero F _
 |m+1,h=>by
  obtain⟨o,ho⟩:∃o,O[m]?=some o:=⟨_,axn (by omega)⟩;have e:O.getD m []=o:=by rw[axt,ho];rfl
  rw[OJ,e,axy,ho,zC];exact((KI y m (by omega)).sub λq hq=>ayW _ hq).add ((Sp.mem (azM _ (axr.2 ⟨o,by simp,rfl⟩))).smul _)
theorem zT.indep{F:aJ K}{Z0 rows:List (List K)}{O:List (List K)}(h:zT F Z0 rows r O)(hr:r<=rows.length)(y:Nat->K):∀m,m<=r->F.nN O y m=F.vz->∀k,k<m->y k=F.z
 |0,_,_,k,hk=>absurd hk (ay4 _)
 |m+1,hm,h0,k,hk=>by
  have hol:=h.len;obtain⟨o,ho⟩:∃o,O[m]?=some o:=⟨_,axn (by omega)⟩;have e:O.getD m []=o:=by rw[axt,ho];rfl
  rw[OJ,e]at h0;have hym:y m=F.z:=by
   apply ayv;intro hne;refine h.ind m o (by omega) ho ?_;have h1:=(KI (F:=F) (O:=O) y m (by omega)).smul (F.neg (F.inv (y m)));have h2:F.vs (F.neg (F.inv (y m))) (F.nN O y m)=F.fn o:=funext λj=>by have h3:F.add (F.nN O y m j) (F.mul (y m) (F.el o j))=F.z:=congrFun h0 j;show F.mul (F.neg (F.inv (y m))) (F.nN O y m j)=F.el o j;rw[F.nY h3,F.neg_mul,F.mul_comm (F.inv (y m)),F.neg_mul,F.neg_neg,F.mul_comm (F.mul _ _),<-F.mul_assoc,F.inv_mul _ hne,F.bE]
   rwa[h2]at h1
  have h0':F.nN O y m=F.vz:=by rw[<-h0];exact funext λj=>by show _=F.add _ (F.mul (y m) _);rw[hym,F.gP,F.dP]
  rcases ax9 k m with q|q
  .exact h.indep hr y m (by omega) h0' k q
  .obtain rfl:k=m:=by omega
   exact hym
theorem zT.Y4{F:aJ K}{Z0 rows:List (List K)}{O:List (List K)}(h:zT F Z0 rows r O)(he:kJ F rows r c P)(hi:r<=i){v o:List K}(hv:rows[i]?=some v)(ho:O[i]?=some o)(y:Nat->K)(yr:K)
 (h0:∀p∈P,F.add (F.nN O y r p) (F.mul yr (F.el o p))=F.z) (hne:yr≠F.z∨∃k,k<r/\y k≠F.z):yr≠F.z/\∀j,F.add (F.nN O y r j) (F.mul yr (F.el o j))=F.mul yr (F.el v j):=by
 have hol:=h.len;have hr:=he.hr;have hd:=h.back _ ((KI (F:=F) (O:=O) y r (by omega)).vd ((h.rest i v o hi hv ho).smul yr));have hz:=he.take.oN hd λp hp=>by show F.add (F.nN O y r p) (F.mul (F.neg F.o) (F.mul yr (F.add (F.el v p) (F.mul (F.neg F.o) (F.el o p)))))=F.z;rw[he.low i v hi hv p (he.lt p hp),F.bB,F.neg_mul,F.bE,F.neg_mul,F.bE,F.mul_comm yr,F.neg_mul,F.neg_neg,F.mul_comm (F.el o p)];exact h0 p hp
 have hall:∀j,F.add (F.nN O y r j) (F.mul yr (F.el o j))=F.mul yr (F.el v j):=λj=>by have h3:F.add (F.nN O y r j) (F.mul (F.neg F.o) (F.mul yr (F.add (F.el v j) (F.mul (F.neg F.o) (F.el o j)))))=F.z:=congrFun hz j;rw[F.neg_mul,F.bE]at h3;have h4:=F.nY h3;rw[F.neg_neg]at h4;rw[h4,F.distrib,F.neg_mul,F.bE,F.mul_comm yr (F.neg _),F.neg_mul,F.mul_comm (F.el o j),F.add_assoc,F.neg_add,F.dP]
 refine⟨λe=>?_,hall⟩;rcases hne with q|⟨k,hk,q⟩
 .exact q e
 .refine q (h.indep he.hr y r (axk _) (funext λj=>?_) k hk);have:=hall j;rwa[e,F.gP,F.dP,F.gP]at this
theorem zT.acw{F:aJ K}{Z0 rows:List (List K)}{p0:Nat}{O:List (List K)}(h:zT F Z0 rows r O)(he:kJ F rows r c P)(hi:i<r){v:List K}(hv:rows[i]?=some v)(hp0:P[i]?=some p0)(y:Nat->K)
 (h0:∀(j p:Nat),P[j]?=some p->j≠i->F.nN O y r p=F.z) (hne:∃k,k<r/\y k≠F.z):F.nN O y r p0≠F.z/\∀j,F.nN O y r j=F.mul (F.nN O y r p0) (F.el v j):=by
 have hol:=h.len;have hr:=he.hr;have hd:=h.back _ (KI (F:=F) (O:=O) y r (by omega));have hvt:(rows.take r)[i]?=some v:=by rw[axL,axl hi];exact hv
 have hz:=he.take.oN (hd.vd ((Sp.mem (F:=F) (axr.2 ⟨v,axo hvt,rfl⟩)).smul (F.nN O y r p0))) λp hp=>by
  obtain⟨j,hj⟩:=axz hp;show F.add (F.nN O y r p) (F.mul (F.neg F.o) (F.mul (F.nN O y r p0) (F.el v p)))=F.z;by_cases e:j=i
  .subst e;rw[hp0]at hj;injection hj with hj;subst hj;rw[he.one j p0 v hp0 hv,F.gK,F.neg_mul,F.bE,F.add_neg]
  .rw[h0 j p hj e,he.BV j i p v hj hv (λq=>e q.symm),F.aS,F.aS,F.bB]
 have hall:∀j,F.nN O y r j=F.mul (F.nN O y r p0) (F.el v j):=λj=>by have h3:F.add (F.nN O y r j) (F.mul (F.neg F.o) (F.mul (F.nN O y r p0) (F.el v j)))=F.z:=congrFun hz j;rw[F.neg_mul,F.bE]at h3;rw[F.nY h3,F.neg_neg]
 refine⟨λe=>?_,hall⟩;obtain⟨k,hk,q⟩:=hne;refine q (h.indep he.hr y r (axk _) (funext λj=>?_) k hk);rw[hall j,e,F.gP];rfl
end
def nC:Nat->(Nat->Int)->Int
 |0,_=>0
 |n+1,f=>nC n f+f n
theorem Q7{f g:Nat->Int}:∀{n:Nat},(∀j,j<n->f j=g j)->nC n f=nC n g
 |0,_=>rfl
 |n+1,h=>by rw[nC,nC,Q7 (n:=n) λj hj=>h j (by omega),h n (by omega)]
theorem ND(f:Nat->Int)(a:Nat):∀b,nC (a+b) f=nC a f+nC b λt=>f (a+t)
 |0=>by rw[ayb];show _=_+0;omega
 |b+1=>by rw[<-ay8,nC,ND f a b,nC];omega
theorem IJ(g:Nat->Int)(e:Nat):∀s,nC (s*e) g=nC s λk=>nC e λt=>g (k*e+t)
 |0=>by rw[Nat.zero_mul];rfl
 |s+1=>by rw[ayX,ND,IJ g e s];rfl
theorem yZ(p:Int){f g:Nat->Int}:∀{n:Nat},(∀j,j<n->f j%p=g j%p)->nC n f%p=nC n g%p
 |0,_=>rfl
 |n+1,h=>by rw[nC,nC,azq,yZ p (n:=n) λj hj=>h j (by omega),h n (by omega),<-azq]
theorem LP(hF:av p=true)(f:Nat->{a:Int // iF p a=true}):∀n,((aD p hF).bD n f).1%p=nC n (λj=>(f j).1)%p
 |0=>rfl
 |n+1=>by show(((aD p hF).bD n f).1+(f n).1)%p%p=_;rw[ayQ,azq,LP hF f n,<-azq];rfl
theorem Gg(f:Nat->Int)(u:Nat->Int)(n:Nat):∀e,act ((range e).map f) u n=nC e λt=>f t*(if t<=n then u (n-t)else 0)
 |0=>rfl
 |e+1=>by
  rw[azN,ax4];show act ((range e).map f++[f e]) u n=_;rw[O1,Gg f u n e,nC,axs,ayC];congr 1;split
  .rfl
  .rw[Int.mul_zero]
def pQ(p:Int):Nat->(Nat->List Int)->List Int
 |0,_=>[]
 |n+1,f=>bQ p (pQ p n f) 1 (f n)
theorem PN.pQ(hp:0<p)(f:Nat->List Int):∀n,PN p (pQ p n f)
 |0=>PN.nil p
 |n+1=>(PN.pQ hp f n).add hp 1 _
theorem Ig(hp:0<p)(f:Nat->List Int)(u:Nat):∀n,cf (pQ p n f) u%p=nC n (λk=>cf (f k) u)%p
 |0=>rfl
 |n+1=>by have:=(fE hp (PN.pQ hp f n) (f n)).Dl u;rw[nC,azq,<-Ig hp f u n,<-azq];exact this
theorem MX(hF:av p=true)(s a L e:Nat)(R:Nat->Nat->List Int)(hR:∀k i,k<s->i<a->PN p (R k i)/\(R k i).length<=L)(hlt:a*(e+L)<s*e):
 ∃q:Nat->List Int,(∀k,PN p (q k)/\(q k).length<=e)/\(∃k,k<s/\q k≠[])/\∀i,i<a->pQ p s (λk=>aB p (q k) (R k i))=[]:=by
 have hp:0<p:=by have:=ax hF;omega
 have he:0<e:=by
  rcases Nat.eq_zero_or_pos e with h|h
  .rw[h,Nat.mul_zero]at hlt;omega
  .exact h
 obtain⟨x,⟨j,hj,hx⟩,hs⟩:=zb (aD p hF) (a*(e+L)) (s*e) (λidx un=>⟨(if un%e<=idx%(e+L)then cf (R (un / e) (idx / (e+L))) (idx%(e+L)-un%e)else 0)%p,jK hp _⟩) hlt;have hxe:∀j,0<=(x j).1/\(x j).1<p:=λj=>Oo (x j).2
 have hcf:∀k t,cf (trim ((range e).map λt=>(x (k*e+t)).1)) t=if t<e then(x (k*e+t)).1 else 0:=λk t=>by rw[gX,yF]
 refine⟨λk=>trim ((range e).map λt=>(x (k*e+t)).1),λk=>⟨⟨mZ (ji λi y hi=>?_),Tr.trim _⟩,axA (iY _) (by simp)⟩,⟨j / e,azF (by rw[ayq];exact hj),λh0=>hx (axS ?_)⟩,λi hi=>?_⟩
 .obtain⟨h1,h2⟩:=axp.1 hi;rw[azf]at h2;rw[<-h2];exact hxe _
 .have h1:=hcf (j / e) (j%e);dsimp only at h0;rw[h0,axl (Nat.mod_lt _ he),ayq,Nat.div_add_mod]at h1;exact h1.symm
 .refine PN.eq hp (PN.pQ hp _ _) (PN.nil p) λu=>?_
  rw[jh,Int.sub_zero];refine Int.dvd_of_emod_eq_zero ?_;rw[Ig hp];by_cases hu:u<e+L
  .have heq:=hs (i*(e+L)+u) (by
    have:(i+1)*(e+L)<=a*(e+L):=ayk _ hi;rw[ayX]at this;omega)
   have hv:=LP hF (λun=>(aD p hF).mul ⟨(if un%e<=(i*(e+L)+u)%(e+L)then cf (R (un / e) ((i*(e+L)+u) / (e+L))) ((i*(e+L)+u)%(e+L)-un%e)else 0)%p,jK hp _⟩ (x un)) (s*e);rw[heq]at hv;have e1:(i*(e+L)+u)%(e+L)=u:=by rw[ayq,Nat.mul_add_mod];exact Nat.mod_eq_of_lt hu
   have e2:(i*(e+L)+u) / (e+L)=i:=by rw[ayq,Nat.mul_add_div (by omega),Nat.div_eq_of_lt hu,ayb]
   rw[e1,e2,IJ]at hv;have h0:((aD p hF).z).1%p=0:=rfl;rw[h0]at hv;rw[hv];refine yZ p λk hk=>?_
   rw[(bf hp _ (R k i)).Dl u,(aV.WV (aV.of_eq (funext λt=>gX _ t)) (R k i)).Dl u,Gg];refine yZ p λt ht=>?_
   have e3:(k*e+t)%e=t:=by rw[ayq,Nat.mul_add_mod];exact Nat.mod_eq_of_lt ht
   have e4:(k*e+t) / e=k:=by rw[ayq,Nat.mul_add_div he,Nat.div_eq_of_lt ht,ayb]
   show _=((if(k*e+t)%e<=u then cf (R ((k*e+t) / e) i) (u-(k*e+t)%e)else 0)%p*(x (k*e+t)).1%p)%p;rw[e3,e4,ayQ,aym _ (x (k*e+t)).1,ayQ,<-aym,ay2]
  .have:∀k,k<s->cf (aB p (trim ((range e).map λt=>(x (k*e+t)).1)) (R k i)) u%p=(0:Int)%p:=λk hk=>by
    rw[iN];have h1:=Tj p (trim ((range e).map λt=>(x (k*e+t)).1)) (R k i);have h2:(trim ((range e).map λt=>(x (k*e+t)).1)).length<=e:=axA (iY _) (by simp);have h3:=(hR k i hk hi).2;omega
   have h0:nC s (λ_=>(0:Int))=0:=by
    clear this hR hlt hs hx hj
    induction s with
    |zero=>rfl
    |succ s ih=>rw[nC,ih];rfl
   rw[yZ p this,h0];rfl
open Go Go.RowKit
def oC(w:World)(A:Option Addr)(rows:List (List Int)):Prop:=
 rows.length<=1099511627776/\∀(j:Nat) (r:List Int),rows[j]?=some r->∃g off A' c,A=some ⟨g,off,none⟩/\w.cell? ⟨g,off+j,none⟩=some (.slice A' r.length c)/\Rd w A' r
theorem oC.ex(h:oC w A rows)(he:Ex w w'):oC w' A rows:=⟨h.1,λj r hj=>by
 obtain⟨g,off,A',c,hA,hc,hr⟩:=h.2 j r hj;exact⟨g,off,A',c,hA,af he hc,hr.ex he⟩⟩
theorem oC.at_(h:oC w A rows)(hk:k<rows.length):
 ∃g off A' c r,A=some ⟨g,off,none⟩/\rows[k]?=some r/\w.cell? ⟨g,off+k,none⟩=some (.slice A' r.length c)/\Rd w A' r:=by
 obtain⟨g,off,A',c,hA,hc,hr⟩:=h.2 k _ (axn hk);exact⟨g,off,A',c,_,hA,axn hk,hc,hr⟩
theorem EJ(n:Nat):(madeCells (Value.slice none 0 0).cells (n*1))=(replicate n (Value.slice none 0 0)).toArray:=by apply Array.toList_inj.1;rw[ays];show(madeCells #[Value.slice none 0 0] n).toList=_;rw[toList_madeCells_one]
theorem nI:(prog.info? 55).map (λi=>(i.zero,i.size,i.bytes))=some (some (.slice none 0 0),1,24):=by kernel_rfl
theorem B_(n:Nat)(hn:n<=1099511627776)(w:World):
 (Instr.makeSlice 92 (.int .i64 (n:Int)) (.int .i64 (n:Int))).run prog w=.ok (.slice (some ⟨w.heap.size,0,none⟩) n n) (w.alloc (.cells (replicate n (Value.slice none 0 0)).toArray 55)):=by
 obtain⟨i,hi,hz,hs,hb⟩:=axW nI;have hr:=run_make (P:=prog) w 92 55 i (.slice none 0 0) Tryz.underlying92 hi hz .i64 .i64 n n (by omega) (by omega) (by rw[hb];omega) (by omega);simp only[azi,hs]at hr;rw[EJ]at hr;exact hr
section
section
variable {K ι κ : Type}
def aJ.ad(F:aJ K)(u v:ι->K):ι->K:=λi=>F.add (u i) (v i)
def aJ.sm(F:aJ K)(c:K)(u:ι->K):ι->K:=λi=>F.mul c (u i)
def aJ.ze(F:aJ K):ι->K:=λ_=>F.z
structure Gh (F:aJ K) (S:(ι->K)->Prop):Prop where
 zero:S F.ze
 add:∀u v,S u->S v->S (F.ad u v)
 sm:∀c u,S u->S (F.sm c u)
structure tV (F:aJ K) (f:(ι->K)->K):Prop where
 add:∀u v,f (F.ad u v)=F.add (f u) (f v)
 sm:∀c u,f (F.sm c u)=F.mul c (f u)
def jH(F:aJ K)(S:(ι->K)->Prop)(N:Nat):Prop:=
 ∀(M:Nat) (f:Nat->(ι->K)->K),(∀i,i<M->tV F (f i))->M<N->∃x,S x/\(∃j,x j≠F.z)/\∀i,i<M->f i x=F.z
theorem jH.mono{F:aJ K}{S:(ι->K)->Prop}{N':Nat}(h:jH F S N)(hn:N'<=N):jH F S N':=λM f hf hM=>h M f hf (by omega)
theorem tV.at(F:aJ K)(j:ι):tV F (λx:ι->K=>x j):=⟨λ_ _=>rfl,λ_ _=>rfl⟩
theorem tV.zero{F:aJ K}{f:(ι->K)->K}(h:tV F f):f F.ze=F.z:=by
 have h1:=h.sm F.z F.ze;have h2:F.sm F.z (F.ze:ι->K)=F.ze:=funext λ_=>F.aS _
 rw[h2,F.gP]at h1;exact h1
theorem jH.tri[Inhabited ι]{F:aJ K}{S:(ι->K)->Prop}(h:jH F S N):∀m,m<=N->∃(x:Nat->ι->K) (p:Nat->ι),∀k,k<m->S (x k)/\x k (p k)≠F.z/\∀l,k<l->l<m->x l (p k)=F.z
 |0,_=>⟨λ_=>F.ze,λ_=>default,λ_ hk=>absurd hk (ay4 _)⟩
 |m+1,hm=>by
  obtain⟨x,p,hx⟩:=jH.tri h m (by omega);obtain⟨y,hS,⟨j,hj⟩,hy⟩:=h m (λi v=>v (p i)) (λi _=>tV.at F (p i)) (by omega);refine⟨λk=>if k=m then y else x k,λk=>if k=m then j else p k,λk hk=>?_⟩;dsimp only;by_cases e:k=m
  .subst e;rw[axl rfl,axl rfl];exact⟨hS,hj,λl h1 h2=>by omega⟩
  .rw[axm e,axm e];obtain⟨h1,h2,h3⟩:=hx k (by omega);refine⟨h1,h2,λl hl hlm=>?_⟩;by_cases e2:l=m
   .rw[axl e2];exact hy k (by omega)
   .rw[axm e2];exact h3 l hl (by omega)
def aJ.cb(F:aJ K)(a:Nat->K)(x:Nat->ι->K)(n:Nat):ι->K:=λi=>F.bD n λk=>F.mul (a k) (x k i)
theorem aJ.Us(F:aJ K)(a:Nat->K)(x:Nat->ι->K)(n:Nat):F.cb a x (n+1)=F.ad (F.cb a x n) (F.sm (a n) (x n)):=rfl
theorem Gh.cb{F:aJ K}{S:(ι->K)->Prop}(h:Gh F S)(a:Nat->K)(x:Nat->ι->K):∀n,(∀k,k<n->S (x k))->S (F.cb a x n)
 |0,_=>h.zero
 |n+1,hx=>by rw[F.Us];exact h.add _ _ (h.cb a x n λk hk=>hx k (by omega)) (h.sm _ _ (hx n (by omega)))
theorem tV.cb{F:aJ K}{f:(ι->K)->K}(h:tV F f)(a:Nat->K)(x:Nat->ι->K):∀n,f (F.cb a x n)=F.bD n λk=>F.mul (a k) (f (x k))
 |0=>h.zero
 |n+1=>by rw[F.Us,h.add,h.sm,h.cb a x n];rfl
theorem aJ.noz(F:aJ K){a b:K}(ha:a≠F.z)(hb:b≠F.z):F.mul a b≠F.z:=λe=>by have h1:=congrArg (F.mul (F.inv a)) e;rw[<-F.mul_assoc,F.inv_mul a ha,F.bE,F.aS]at h1;exact hb h1
theorem XE{F:aJ K}{x:Nat->ι->K}{p:Nat->ι}(h:∀k,k<n->x k (p k)≠F.z/\∀l,k<l->l<n->x l (p k)=F.z)(a:Nat->K):(∃k,k<n/\a k≠F.z)->∃i,F.cb a x n i≠F.z:=by
 intro ha;obtain⟨k,⟨hk,hak⟩,hmin⟩:∃k,(k<n/\a k≠F.z)/\∀l,l<k->¬(l<n/\a l≠F.z):=by
  obtain⟨k0,hk0⟩:=ha
  induction k0 using Nat.strongRecOn with
  |_ k0 ih=>
   by_cases hl:∃l,l<k0/\l<n/\a l≠F.z
   .obtain⟨l,h1,h2⟩:=hl;exact ih l h1 h2
   .exact⟨k0,hk0,λl hlt hla=>hl ⟨l,hlt,hla⟩⟩
 refine⟨p k,?_⟩;have key:∀m,m<=n->F.cb a x m (p k)=if k<m then F.mul (a k) (x k (p k))else F.z:=by
  intro m
  induction m with
  |zero=>intro _;rfl
  |succ m ih=>
   intro hm;show F.add (F.cb a x m (p k)) (F.mul (a m) (x m (p k)))=_;rw[ih (by omega)];rcases azD k m with e|e|e
   .rw[axl e,axl (by omega),(h k hk).2 m e (by omega),F.aS,F.dP]
   .subst e;rw[axm (Nat.lt_irrefl _),axl (by omega),F.bB]
   .have h0:a m=F.z:=ayv λh=>hmin m e ⟨by omega,h⟩
    rw[axm (by omega),axm (by omega),h0,F.gP,F.dP]
 rw[key n (axk _),axl hk];exact F.noz hak (h k hk).1
theorem jH.prod[Inhabited ι][Inhabited κ]{F:aJ K}{S:(ι->K)->Prop}{T:(κ->K)->Prop}{N':Nat}(hS:Gh F S)(hT:Gh F T)(h:jH F S N)(h':jH F T N'):
 jH F (λx:ι ⊕ κ->K=>S (λi=>x (.inl i))/\T (λi=>x (.inr i))) (N+N'):=λM f hf hM=>by
 obtain⟨x,p,hx⟩:=h.tri N (axk _);obtain⟨y,q,hy⟩:=h'.tri N' (axk _);obtain⟨z,hz⟩:∃z:Nat->ι ⊕ κ->K,z=λk=>if k<N then(λs=>match s with| .inl i=>x k i| .inr _=>F.z)else(λs=>match s with| .inl _=>F.z| .inr i=>y (k-N) i):=⟨_,rfl⟩
 have z1:∀k,k<N->z k=λs=>match s with| .inl i=>x k i| .inr _=>F.z:=λk hk=>by rw[hz];exact axl hk
 have z2:∀k,¬k<N->z k=λs=>match s with| .inl _=>F.z| .inr i=>y (k-N) i:=λk hk=>by rw[hz];exact axm hk
 obtain⟨a,⟨j,hj,haj⟩,hs⟩:=zb F M (N+N') (λi k=>f i (z k)) hM;have anq:∀k,k<N+N'->z k ((λk=>if k<N then Sum.inl (p k)else Sum.inr (q (k-N))) k)≠F.z/\∀l,k<l->l<N+N'->z l ((λk=>if k<N then Sum.inl (p k)else Sum.inr (q (k-N))) k)=F.z:=λk hk=>by
  dsimp only;by_cases e:k<N
  .rw[axl e,z1 k e];refine⟨(hx k e).2.1,λl hl hl2=>?_⟩;by_cases e2:l<N
   .rw[z1 l e2];exact(hx k e).2.2 l hl e2
   .rw[z2 l e2]
  .rw[axm e,z2 k e];refine⟨(hy (k-N) (by omega)).2.1,λl hl hl2=>?_⟩;rw[z2 l (by omega)];exact(hy (k-N) (by omega)).2.2 (l-N) (by omega) (by omega)
 refine⟨F.cb a z (N+N'),⟨?_,?_⟩,XE anq a ⟨j,hj,haj⟩,λi hi=>?_⟩
 .exact hS.cb a (λk i=>z k (.inl i)) (N+N') λk hk=>by
   by_cases e:k<N
   .rw[z1 k e];exact(hx k e).1
   .rw[z2 k e];exact hS.zero
 .exact hT.cb a (λk i=>z k (.inr i)) (N+N') λk hk=>by
   by_cases e:k<N
   .rw[z1 k e];exact hT.zero
   .rw[z2 k e];exact(hy (k-N) (by omega)).1
 .rw[(hf i hi).cb,<-hs i hi];exact F.aO λk _=>F.mul_comm _ _
theorem jH.push{F:aJ K}{S:(ι->K)->Prop}{T:(κ->K)->Prop}{Q:Nat}(h:jH F S N)(L:(ι->K)->κ->K)(hL:∀j,tV F (λx=>L x j))(g:Nat->(ι->K)->K)(hg:∀i,i<Q->tV F (g i))
 (hT:∀x,S x->(∀i,i<Q->g i x=F.z)->T (L x)/\((∀j,L x j=F.z)->∀i,x i=F.z)):jH F T (N-Q):=λM f hf hM=>by
 have hcomp:∀i,i<M->tV F (λx=>f i (L x)):=λi hi=>by
  refine⟨λu v=>?_,λc u=>?_⟩
  .have e:L (F.ad u v)=F.ad (L u) (L v):=funext λj=>(hL j).add u v
   show f i (L (F.ad u v))=_;rw[e];exact(hf i hi).add _ _
  .have e:L (F.sm c u)=F.sm c (L u):=funext λj=>(hL j).sm c u
   show f i (L (F.sm c u))=_;rw[e];exact(hf i hi).sm _ _
 obtain⟨x,hS,⟨j,hj⟩,hx⟩:=h (M+Q) (λi=>if i<M then λx=>f i (L x)else g (i-M)) (λi hi=>by
  by_cases e:i<M
  .rw[axl e];exact hcomp i e
  .rw[axm e];exact hg _ (by omega)) (by omega)
 have h1:∀i,i<M->f i (L x)=F.z:=λi hi=>by have:=hx i (by omega);rwa[axl hi]at this
 have h2:∀i,i<Q->g i x=F.z:=λi hi=>by have:=hx (M+i) (by omega);rwa[axm (by omega),show M+i-M=i by omega]at this
 obtain⟨t1,t2⟩:=hT x hS h2;refine⟨L x,t1,ayv λhc=>hj (t2 (λk=>ayv λhk=>hc ⟨k,hk⟩) j),h1⟩
end
end
section
section
variable {K : Type}
def Ops.oH(O:Ops K)(n:Nat)(M:List (List K)):List (List K):=O.aC n (O.gJ n (O.aC n M))
theorem vS(F:aJ K){M:List (List K)}(hw:aQ n M)(v:Nat->K):Sp F (F.fns (F.oH n M)) v↔sV F n (F.fns M) v:=by obtain⟨Wl,P,hE⟩:=dL F hw;unfold Ops.oH;rw[dH F (lF n _),xE hE Wl,sV.same (dH F hw)]
theorem Dc(F:aJ K){M:List (List K)}:eX F n (F.oH n M):=dL F (lF n _)
theorem sH(F:aJ K){G M:List (List K)}(wG:aQ n G)(wM:aQ n M)(h:∀v,Sp F (F.fns G) v↔sV F n (F.fns M) v):F.aC n G=F.oH n M:=
 jT (dL F wG) (Dc F) λv=>by rw[dH F wG,vS F wM,h v]
theorem Jv(F:aJ K){g:List K}{v:Nat->K}(c:K)(h:∀j,v j=F.mul c (F.el g j)):Sp F (F.fns [g]) v:=by have:v=F.vs c (F.fn g):=funext h;rw[this];exact Sp.smul (Sp.mem (axr.2 ⟨g,by simp,rfl⟩)) c
theorem Qb(F:aJ K){g k:List K}{v:Nat->K}(c d:K)(h:∀j,v j=F.add (F.mul c (F.el g j)) (F.mul d (F.el k j))):Sp F (F.fns [g,k]) v:=by have:v=F.va (F.vs c (F.fn g)) (F.vs d (F.fn k)):=funext h;rw[this];exact(Sp.smul (Sp.mem (axr.2 ⟨g,by simp,rfl⟩)) c).add (Sp.smul (Sp.mem (axr.2 ⟨k,by simp,rfl⟩)) d)
theorem akF(F:aJ K)(a v:Nat->K):F.dot 1 a v=F.mul (a 0) (v 0):=F.bB _
theorem aaB(F:aJ K)(a v:Nat->K):F.dot 2 a v=F.add (F.mul (a 0) (v 0)) (F.mul (a 1) (v 1)):=by show F.add (F.dot 1 a v) _=_;rw[akF]
theorem Wy(F:aJ K)(a v:Nat->K):F.dot 3 a v=F.add (F.add (F.mul (a 0) (v 0)) (F.mul (a 1) (v 1))) (F.mul (a 2) (v 2)):=by show F.add (F.dot 2 a v) _=_;rw[aaB]
theorem sub_eq(F:aJ K){a b:K}:F.add a (F.neg b)=F.z↔a=b:=
 ⟨λh=>by rw[F.nY h,F.neg_neg],λh=>by rw[h,F.add_neg]⟩
theorem jQ(F:aJ K){M:List (List K)}{v:Nat->K}:sV F n (F.fns M) v↔(∀j,n<=j->v j=F.z)/\∀r∈M,F.dot n (F.fn r) v=F.z:=by refine⟨λh=>⟨h.1,λr hr=>h.2 _ (axr.2 ⟨r,hr,rfl⟩)⟩,λh=>⟨h.1,λa ha=>?_⟩⟩;obtain⟨r,hr,rfl⟩:=axr.1 ha;exact h.2 r hr
theorem xg(F:aJ K){G M:List (List K)}(hg:∀g∈G,sV F n (F.fns M) (F.fn g)){v:Nat->K}(h:Sp F (F.fns G) v):sV F n (F.fns M) v:=sV.sp (λr hr=>by
 obtain⟨g,hg',rfl⟩:=axr.1 hr;exact hg g hg') h
theorem jL(F:aJ K)(a:K)(l:List K)(j:Nat):F.el (a::l) (j+1)=F.el l j:=rfl
theorem wJ(F:aJ K)(a:K)(l:List K):F.el (a::l) 0=a:=rfl
theorem Wx(F:aJ K)(j:Nat):F.el ([]:List K) j=F.z:=by unfold Ops.el;simp
theorem Nu(F:aJ K):F.aC 1 [[F.o]]=F.oH 1 []:=sH F (λv hv=>by simp at hv;rw[hv];rfl) (λv hv=>by simp at hv) λv=>by
 refine⟨xg F λg hg=>?_,λh=>?_⟩
 .rw[jQ];refine⟨λj hj=>?_,λr hr=>by simp at hr⟩;rw[axJ.1 hg];exact Ops.dS _ (by simpa using hj)
 .refine Jv F (v 0) λj=>?_
  rcases j with _|j
  .rw[wJ,F.gK]
  .rw[jL,Wx,F.aS];exact h.1 _ (by omega)
theorem IE(F:aJ K):F.aC 1 []=F.oH 1 [[F.o]]:=sH F (λv hv=>by simp at hv) (λv hv=>by simp at hv;rw[hv];rfl) λv=>by
 refine⟨xg F λg hg=>by simp at hg,λh=>?_⟩;have h2:=(jQ F).1 h;have:v=F.vz:=funext λj=>by
  rcases j with _|j
  .have:=h2.2 [F.o] (by simp);rw[akF]at this;have e:F.mul F.o (v 0)=F.z:=this;rwa[F.bE]at e
  .exact h.1 _ (by omega)
 rw[this];exact Sp.zero F _
theorem Zj(F:aJ K)(a:K):F.aC 2 [[F.o,a]]=F.oH 2 [[F.neg a,F.o]]:=sH F (λv hv=>by simp at hv;rw[hv];rfl) (λv hv=>by simp at hv;rw[hv];rfl) λv=>by
 refine⟨xg F λg hg=>?_,λh=>?_⟩
 .rw[jQ];rw[axJ.1 hg];refine⟨λj hj=>Ops.dS _ (by simpa using hj),λr hr=>?_⟩;rw[axJ.1 hr,aaB];show F.add (F.mul (F.neg a) F.o) (F.mul F.o a)=F.z;rw[F.gK,F.bE,F.neg_add]
 .have h2:=((jQ F).1 h).2 _ (axJ.2 rfl);rw[aaB]at h2;have e:F.add (F.mul (F.neg a) (v 0)) (F.mul F.o (v 1))=F.z:=h2;rw[F.bE,F.neg_mul,F.add_comm,sub_eq]at e;refine Jv F (v 0) λj=>?_
  rcases j with _|_|j
  .rw[wJ,F.gK]
  .rw[jL,wJ,e,F.mul_comm]
  .rw[jL,jL,Wx,F.aS];exact h.1 _ (by omega)
theorem QO(F:aJ K)(a:K):F.aC 2 [[a,F.o]]=F.oH 2 [[F.o,F.neg a]]:=sH F (λv hv=>by simp at hv;rw[hv];rfl) (λv hv=>by simp at hv;rw[hv];rfl) λv=>by
 refine⟨xg F λg hg=>?_,λh=>?_⟩
 .rw[jQ];rw[axJ.1 hg];refine⟨λj hj=>Ops.dS _ (by simpa using hj),λr hr=>?_⟩;rw[axJ.1 hr,aaB];show F.add (F.mul F.o a) (F.mul (F.neg a) F.o)=F.z;rw[F.gK,F.bE,F.add_neg]
 .have h2:=((jQ F).1 h).2 _ (axJ.2 rfl);rw[aaB]at h2;have e:F.add (F.mul F.o (v 0)) (F.mul (F.neg a) (v 1))=F.z:=h2;rw[F.bE,F.neg_mul,sub_eq]at e;refine Jv F (v 1) λj=>?_
  rcases j with _|_|j
  .rw[wJ,e,F.mul_comm]
  .rw[jL,wJ,F.gK]
  .rw[jL,jL,Wx,F.aS];exact h.1 _ (by omega)
theorem IG(F:aJ K){M:List (List K)}(wM:aQ 3 M)(hM:∀v:Nat->K,(∀r∈M,F.dot 3 (F.fn r) v=F.z)↔v 0=v 1/\v 0=v 2):F.aC 3 [[F.o,F.o,F.o]]=F.oH 3 M:=sH F (λv hv=>by simp at hv;rw[hv];rfl) wM λv=>by
 refine⟨xg F λg hg=>?_,λh=>?_⟩
 .rw[jQ];rw[axJ.1 hg];exact⟨λj hj=>Ops.dS _ (by simpa using hj),(hM _).2 ⟨rfl,rfl⟩⟩
 .obtain⟨e1,e2⟩:=(hM v).1 ((jQ F).1 h).2;refine Jv F (v 0) λj=>?_
  rcases j with _|_|_|j
  .rw[wJ,F.gK]
  .rw[jL,wJ,F.gK,e1]
  .rw[jL,jL,wJ,F.gK,e2]
  .rw[jL,jL,jL,Wx,F.aS];exact h.1 _ (by omega)
theorem aaR(F:aJ K)(v:Nat->K):(∀r∈[[F.neg F.o,F.o,F.z],[F.neg F.o,F.z,F.o]],F.dot 3 (F.fn r) v=F.z)↔v 0=v 1/\v 0=v 2:=by
 have a1:F.dot 3 (F.fn [F.neg F.o,F.o,F.z]) v=F.add (F.neg (v 0)) (v 1):=by rw[Wy];show F.add (F.add (F.mul (F.neg F.o) (v 0)) (F.mul F.o (v 1))) (F.mul F.z (v 2))=_;rw[F.gP,F.dP,F.neg_mul,F.bE,F.bE]
 have a2:F.dot 3 (F.fn [F.neg F.o,F.z,F.o]) v=F.add (F.neg (v 0)) (v 2):=by rw[Wy];show F.add (F.add (F.mul (F.neg F.o) (v 0)) (F.mul F.z (v 1))) (F.mul F.o (v 2))=_;rw[F.gP,F.dP,F.neg_mul,F.bE,F.bE]
 simp only[axI,axV,or_false,forall_eq_or_imp,forall_eq,a1,a2];rw[F.add_comm,sub_eq,F.add_comm,sub_eq];exact⟨λh=>⟨h.1.symm,h.2.symm⟩,λh=>⟨h.1.symm,h.2.symm⟩⟩
theorem R9(F:aJ K)(v:Nat->K):(∀r∈[[F.o,F.z,F.neg F.o],[F.z,F.o,F.neg F.o]],F.dot 3 (F.fn r) v=F.z)↔v 0=v 1/\v 0=v 2:=by
 have a1:F.dot 3 (F.fn [F.o,F.z,F.neg F.o]) v=F.add (v 0) (F.neg (v 2)):=by rw[Wy];show F.add (F.add (F.mul F.o (v 0)) (F.mul F.z (v 1))) (F.mul (F.neg F.o) (v 2))=_;rw[F.gP,F.dP,F.neg_mul,F.bE,F.bE]
 have a2:F.dot 3 (F.fn [F.z,F.o,F.neg F.o]) v=F.add (v 1) (F.neg (v 2)):=by rw[Wy];show F.add (F.add (F.mul F.z (v 0)) (F.mul F.o (v 1))) (F.mul (F.neg F.o) (v 2))=_;rw[F.gP,F.bB,F.neg_mul,F.bE,F.bE]
 simp only[axI,axV,or_false,forall_eq_or_imp,forall_eq,a1,a2];rw[sub_eq,sub_eq];exact⟨λh=>⟨h.1.trans h.2.symm,h.1⟩,λh=>⟨h.2,h.1.symm.trans h.2⟩⟩
theorem Zk(F:aJ K):F.aC 3 [[F.o,F.z,F.o],[F.z,F.o,F.o]]=F.oH 3 [[F.neg F.o,F.neg F.o,F.o]]:=sH F (λv hv=>by simp at hv;rcases hv with rfl|rfl<;>rfl) (λv hv=>by simp at hv;rw[hv];rfl) λv=>by
 have a1:∀v:Nat->K,F.dot 3 (F.fn [F.neg F.o,F.neg F.o,F.o]) v=F.add (v 2) (F.neg (F.add (v 0) (v 1))):=λv=>by rw[Wy];show F.add (F.add (F.mul (F.neg F.o) (v 0)) (F.mul (F.neg F.o) (v 1))) (F.mul F.o (v 2))=_;rw[F.bE,<-F.distrib,F.neg_mul,F.bE,F.add_comm]
 refine⟨xg F λg hg=>?_,λh=>?_⟩
 .rw[jQ];refine⟨λj hj=>Ops.dS _ (by simp at hg;rcases hg with rfl|rfl<;>simpa using hj),λr hr=>?_⟩;rw[axJ.1 hr,a1,sub_eq];simp at hg;rcases hg with rfl|rfl
  .exact(F.dP _).symm
  .exact(F.bB _).symm
 .have e:=((jQ F).1 h).2 _ (axJ.2 rfl);rw[a1,sub_eq]at e;refine Qb F (v 0) (v 1) λj=>?_
  rcases j with _|_|_|j
  .rw[wJ,wJ,F.gK,F.aS,F.dP]
  .rw[jL,jL,wJ,wJ,F.gK,F.aS,F.bB]
  .show v 2=F.add (F.mul (v 0) F.o) (F.mul (v 1) F.o);rw[F.gK,F.gK,e]
  .rw[jL,jL,jL,jL,jL,jL,Wx,F.aS,F.aS,F.dP];exact h.1 _ (by omega)
theorem QR(F:aJ K):F.aC 3 [[F.o,F.o,F.z],[F.o,F.z,F.o]]=F.oH 3 [[F.o,F.neg F.o,F.neg F.o]]:=sH F (λv hv=>by simp at hv;rcases hv with rfl|rfl<;>rfl) (λv hv=>by simp at hv;rw[hv];rfl) λv=>by
 have a1:∀v:Nat->K,F.dot 3 (F.fn [F.o,F.neg F.o,F.neg F.o]) v=F.add (v 0) (F.neg (F.add (v 1) (v 2))):=λv=>by rw[Wy];show F.add (F.add (F.mul F.o (v 0)) (F.mul (F.neg F.o) (v 1))) (F.mul (F.neg F.o) (v 2))=_;rw[F.bE,F.add_assoc,<-F.distrib,F.neg_mul,F.bE]
 refine⟨xg F λg hg=>?_,λh=>?_⟩
 .rw[jQ];refine⟨λj hj=>Ops.dS _ (by simp at hg;rcases hg with rfl|rfl<;>simpa using hj),λr hr=>?_⟩;rw[axJ.1 hr,a1,sub_eq];simp at hg;rcases hg with rfl|rfl
  .exact(F.dP _).symm
  .exact(F.bB _).symm
 .have e:=((jQ F).1 h).2 _ (axJ.2 rfl);rw[a1,sub_eq]at e;refine Qb F (v 1) (v 2) λj=>?_
  rcases j with _|_|_|j
  .show v 0=F.add (F.mul (v 1) F.o) (F.mul (v 2) F.o);rw[F.gK,F.gK,e]
  .rw[jL,jL,wJ,wJ,F.gK,F.aS,F.dP]
  .rw[jL,jL,jL,jL,wJ,wJ,F.gK,F.aS,F.bB]
  .rw[jL,jL,jL,jL,jL,jL,Wx,F.aS,F.aS,F.dP];exact h.1 _ (by omega)
end
end
section
section
variable {K : Type}
def Ops.xV(O:Ops K)(E:List Nat)(v:List K):List K:=E.map (O.el v)
theorem Dt(O:Ops K)(E:List Nat)(v:List K):(O.xV E v).length=E.length:=by unfold Ops.xV;rw[axs]
theorem ag7(F:aJ K)(E:List Nat)(v:List K)(j:Nat):F.el (F.xV E v) j=if j<E.length then F.el v (E.getD j 0)else F.z:=by
 unfold Ops.xV;by_cases h:j<E.length
 .rw[axl h,Ops.dD F.toOps (by rw[axw,axn h];rfl),axt,axn h];rfl
 .rw[axm h,Ops.dS _ (by rw[axs];omega)]
theorem WL{O:Ops K}{v:List K}(h:v.length=n):O.xV (range n) v=v:=by
 subst h;unfold Ops.xV;refine azy (by simp) λj h1 h2=>?_
 rw[azf,List.getElem_range];exact Ops.dD O (axn h2)
def Ops.yX(O:Ops K)(W:Nat)(E:List Nat)(M:List (List K)):List (List K):=O.aC E.length ((O.oH W M).map (O.xV E))
theorem VL(F:aJ K){M:List (List K)}:F.yX n (range n) M=F.oH n M:=by
 have h1:(F.oH n M).map (F.xV (range n))=F.oH n M:=by refine(ax0 λv hv=>?_).trans (List.map_id _);exact WL ((Dc F).1 v hv)
 unfold Ops.yX;rw[h1,ayC];exact Az (Dc F)
def Cf(F:aJ K)(E:List Nat)(v:Nat->K):Nat->K:=λj=>if j<E.length then v (E.getD j 0)else F.z
theorem ER(F:aJ K){W:Nat}{E:List Nat}{M:List (List K)}(hw:aQ W M)(v:Nat->K):Sp F (F.fns (F.yX W E M)) v↔∃k,sV F W (F.fns M) k/\Cf F E k=v:=by
 have hf:F.fns ((F.oH W M).map (F.xV E))=(F.fns (F.oH W M)).map (Cf F E):=by unfold Ops.fns;rw[axO,axO];exact ax0 λr _=>funext λj=>ag7 F E r j
 have hz:Cf F E F.vz=F.vz:=funext λj=>by show(if _ then F.z else F.z)=F.z;split<;>rfl
 have hs:∀u r c,Cf F E (F.va u (F.vs c r))=F.va (Cf F E u) (F.vs c (Cf F E r)):=λu r c=>funext λj=>by
  show(if _ then _ else _)=F.add (if _ then _ else _) (F.mul c (if _ then _ else _));split
  .rfl
  .rw[F.aS,F.bB]
 have hwd:aQ E.length ((F.oH W M).map (F.xV E)):=λr hr=>by obtain⟨u,_,rfl⟩:=axr.1 hr;exact Dt _ _ _
 unfold Ops.yX;rw[dH F hwd,hf];constructor
 .intro h;have h2:∃k,Sp F (F.fns (F.oH W M)) k/\Cf F E k=v:=
   h (λx=>∃k,Sp F (F.fns (F.oH W M)) k/\Cf F E k=x) ⟨F.vz,Sp.zero F _,hz⟩ λu hu q hq c=>by obtain⟨k,h1,h2⟩:=hu;obtain⟨r,hr,rfl⟩:=axr.1 hq;exact⟨F.va k (F.vs c r),h1.step hr c,by rw[hs,h2]⟩
  obtain⟨k,h3,h4⟩:=h2;exact⟨k,(vS F hw k).1 h3,h4⟩
 .rintro⟨k,h1,rfl⟩;exact((vS F hw k).2 h1).map hz hs
theorem Nw(F:aJ K){W:Nat}{E:List Nat}{M:List (List K)}:eX F E.length (F.yX W E M):=dL F λr hr=>by obtain⟨u,_,rfl⟩:=axr.1 hr;exact Dt _ _ _
theorem TL(F:aJ K){k:Nat->K}:sV F n (F.fns []) k↔∀j,n<=j->k j=F.z:=⟨λh=>h.1,λh=>⟨h,λa ha=>by simp[Ops.fns]at ha⟩⟩
def Ops.NM(O:Ops K)(n:Nat):List (List K):=(range n).map λi=>O.unit n i++O.unit n i
theorem sK(F:aJ K)(hi:i<n)(j:Nat):F.el (F.unit n i++F.unit n i) j=if j=i∨j=n+i then F.o else F.z:=by
 rw[kV,tY,wh F hi,wh F hi];by_cases h:j<n
 .rw[axl h];by_cases e:j=i
  .rw[axl e,axl (.inl e)]
  .rw[axm e,axm (by omega)]
 .rw[axm h];by_cases e:j=n+i
  .rw[axl (by omega),axl (.inr e)]
  .rw[axm (by omega),axm (by omega)]
theorem Q9(O:Ops K){v:List K}(h:(O.NM n)[i]?=some v):i<n/\v=O.unit n i++O.unit n i:=by
 unfold Ops.NM at h;rw[axw]at h;by_cases hi:i<n
 .rw[ayO hi]at h;injection h with h;exact⟨hi,h.symm⟩
 .rw[ax2 (by simp;omega)]at h;cases h
theorem ZB(F:aJ K)(n:Nat):eX F (n+n) (F.NM n):=by
 have hl:(F.NM n).length=n:=by simp[Ops.NM]
 have hp:∀(i p:Nat),(range n)[i]?=some p->p=i:=λi p h=>by have:=(axp.1 h).2;rw[List.getElem_range]at this;exact this.symm
 refine⟨λv hv=>?_,range n,by rw[hl,ayC],axk _,List.pairwise_lt_range,λp hp=>by have:=ax5.1 hp;omega,λi p v h1 h2=>?_,λi i' p v h1 h2 hne=>?_,λi p v h1 h2 j hj=>?_,λi v h1 h2=>?_⟩
 .obtain⟨i,_,rfl⟩:=axr.1 hv;rw[axv,tY]
 .obtain⟨hi,rfl⟩:=Q9 _ h2;rw[hp i p h1,sK F hi,axl (.inl rfl)]
 .obtain⟨hi,rfl⟩:=Q9 _ h2;have hin:i<n:=by have:=(axp.1 h1).1;simpa using this
  rw[hp i p h1,sK F hi,axm (by omega)]
 .obtain⟨hi,rfl⟩:=Q9 _ h2;rw[hp i p h1]at hj;rw[sK F hi,axm (by omega)]
 .have:=(axp.1 h2).1;omega
theorem acI(F:aJ K)(n:Nat):F.yX n (range n++range n) []=F.NM n:=by
 have hEl:(range n++range n).length=n+n:=by simp
 have he1:∀j,j<n->(range n++range n).getD j 0=j:=λj hj=>by rw[axt,axX (by simpa using hj),ayO hj];rfl
 have he2:∀j,j<n->(range n++range n).getD (n+j) 0=j:=λj hj=>by rw[axt,axN (by simp),ayC,aya,ayO hj];rfl
 have h1:=Nw F (W:=n) (E:=range n++range n) (M:=[]);rw[hEl]at h1;refine jT h1 (ZB F n) λv=>?_
 rw[ER F (λr hr=>by simp at hr)];constructor
 .rintro⟨k,hk,rfl⟩;have hs:Sp F (F.fns (F.NM n)) (λj=>F.bD n λi=>F.vs (k i) (F.fn (F.unit n i++F.unit n i)) j):=Sp.bD (g:=λi=>F.vs (k i) (F.fn (F.unit n i++F.unit n i))) λi hi=>Sp.smul (Sp.mem (axr.2 ⟨_,axr.2 ⟨i,ax5.2 hi,rfl⟩,rfl⟩)) _
  refine Eq.mp (congrArg _ (funext λj=>?_)) hs;have one:∀i0,i0<n->(∀i,i<n->(j=i∨j=n+i↔i=i0))->F.bD n (λi=>F.mul (k i) (F.el (F.unit n i++F.unit n i) j))=k i0:=λi0 h0 hiff=>by obtain⟨m,rfl⟩:∃m,n=m+1:=⟨n-1,by omega⟩;rw[F.uZ _ h0,F.bS (λi hi=>?_),F.dP,sK F h0,axl ((hiff i0 h0).2 rfl),F.gK];have hl:=Qe (j0:=i0) hi;rw[sK F hl,axm (λe=>XV i0 i ((hiff _ hl).1 e)),F.aS]
  show F.bD n (λi=>F.mul (k i) (F.el (F.unit n i++F.unit n i) j))=Cf F _ k j;unfold Cf;rw[hEl];by_cases h2:j<n
  .rw[axl (by omega),he1 j h2,one j h2 λi hi=>by omega]
  .by_cases h3:j<n+n
   .obtain⟨q,rfl⟩:∃q,j=n+q:=⟨j-n,by omega⟩;rw[axl h3,he2 q (by omega),one q (by omega) λi hi=>by omega]
   .rw[axm h3];exact F.bS λi hi=>by rw[sK F hi,axm (by omega),F.aS]
 .intro hv;have key:(∀j,n+n<=j->v j=F.z)/\∀j,j<n->v (n+j)=v j:=
   hv (λx=>(∀j,n+n<=j->x j=F.z)/\∀j,j<n->x (n+j)=x j) ⟨λ_ _=>rfl,λ_ _=>rfl⟩ λu hu r hr c=>by
    obtain⟨w,hw,rfl⟩:=axr.1 hr;obtain⟨i,hi,rfl⟩:=axr.1 hw;have hin:=ax5.1 hi;refine⟨λj hj=>?_,λj hj=>?_⟩
    .show F.add (u j) (F.mul c (F.el (F.unit n i++F.unit n i) j))=F.z;rw[hu.1 j hj,sK F hin,axm (by omega),F.aS,F.bB]
    .show F.add (u (n+j)) (F.mul c (F.el (F.unit n i++F.unit n i) (n+j)))=F.add (u j) (F.mul c (F.el (F.unit n i++F.unit n i) j));rw[hu.2 j hj,sK F hin,sK F hin];by_cases e:j=i
     .rw[axl (by omega),axl (.inl e)]
     .rw[axm (by omega),axm (by omega)]
  refine⟨λj=>if j<n then v j else F.z,(TL F).2 λj hj=>axm (by omega),funext λj=>?_⟩;unfold Cf;rw[hEl];by_cases h2:j<n
  .rw[axl (by omega),he1 j h2];exact axl h2
  .by_cases h3:j<n+n
   .obtain⟨q,rfl⟩:∃q,j=n+q:=⟨j-n,by omega⟩;rw[axl h3,he2 q (by omega),key.2 q (by omega)];exact axl (by omega)
   .rw[axm h3,key.1 j (by omega)]
theorem VJ(F:aJ K):F.yX 2 [0,1,1,0] []=F.aC 4 [[F.o,F.z,F.z,F.o],[F.z,F.o,F.o,F.z]]:=by
 have wG:aQ 4 [[F.o,F.z,F.z,F.o],[F.z,F.o,F.o,F.z]]:=λv hv=>by simp at hv;rcases hv with rfl|rfl<;>rfl
 refine jT (Nw F) (dL F wG) λv=>?_
 rw[ER F (λr hr=>by simp at hr),dH F wG];constructor
 .rintro⟨k,hk,rfl⟩;refine Qb F (k 0) (k 1) λj=>?_
  rcases j with _|_|_|_|j
  .show k 0=F.add (F.mul (k 0) F.o) (F.mul (k 1) F.z);rw[F.gK,F.aS,F.dP]
  .show k 1=F.add (F.mul (k 0) F.z) (F.mul (k 1) F.o);rw[F.gK,F.aS,F.bB]
  .show k 1=F.add (F.mul (k 0) F.z) (F.mul (k 1) F.o);rw[F.gK,F.aS,F.bB]
  .show k 0=F.add (F.mul (k 0) F.o) (F.mul (k 1) F.z);rw[F.gK,F.aS,F.dP]
  .have e1:Cf F [0,1,1,0] k (j+1+1+1+1)=F.z:=axm (by simp);rw[e1,Ops.dS _ (by simp),Ops.dS _ (by simp),F.aS,F.aS,F.dP]
 .intro hv;have key:(∀j,4<=j->v j=F.z)/\v 2=v 1/\v 3=v 0:=
   hv (λx=>(∀j,4<=j->x j=F.z)/\x 2=x 1/\x 3=x 0) ⟨λ_ _=>rfl,rfl,rfl⟩ λu hu r hr c=>by
    obtain⟨w,hw,rfl⟩:=axr.1 hr;have hwl:w.length=4:=wG w hw;refine⟨λj hj=>?_,?_,?_⟩
    .show F.add (u j) (F.mul c (F.el w j))=F.z;rw[hu.1 j hj,Ops.dS _ (by omega),F.aS,F.bB]
    .show F.add (u 2) (F.mul c (F.el w 2))=F.add (u 1) (F.mul c (F.el w 1));rw[hu.2.1];simp at hw;rcases hw with rfl|rfl<;>rfl
    .show F.add (u 3) (F.mul c (F.el w 3))=F.add (u 0) (F.mul c (F.el w 0));rw[hu.2.2];simp at hw;rcases hw with rfl|rfl<;>rfl
  refine⟨λj=>if j<2 then v j else F.z,(TL F).2 λj hj=>axm (by omega),funext λj=>?_⟩;rcases j with _|_|_|_|j
  .rfl
  .rfl
  .exact key.2.1.symm
  .exact key.2.2.symm
  .rw[key.1 _ (by omega)];exact axm (by simp)
end
end
structure IM (w:World) (G n:Nat) (bs:List Nat) (rows:List (List Int)):Prop where
 out:∃cur:Array Value,w.heap[G]?=some (.cells cur 55 (0,0))/\∀(j b:Nat),bs[j]?=some b->∃c,n<=c/\cur[j]?=some (.slice (some ⟨b,0,none⟩) n c)
 len:bs.length=rows.length
 row:∀(j b:Nat) (r:List Int),bs[j]?=some b->rows[j]?=some r->Own w b r/\r.length=n
 nd:∀(i j b:Nat),bs[i]?=some b->bs[j]?=some b->i=j
 ng:∀(j b:Nat),bs[j]?=some b->b≠G
theorem IM.lt(h:IM w G n bs rows):G<w.heap.size:=by obtain⟨_,h,_⟩:=h.out;exact aF h
theorem IM.frozen(h:IM w G n bs rows)(i:Nat):w.frozen? ⟨G,i,none⟩=false:=by obtain⟨cur,hc,_⟩:=h.out;simp[World.frozen?,hc]
theorem IM.at_(h:IM w G n bs rows)(hj:j<rows.length):∃b r c,n<=c/\bs[j]?=some b/\rows[j]?=some r/\r.length=n/\Own w b r/\b≠G/\w.cell? ⟨G,j,none⟩=some (.slice (some ⟨b,0,none⟩) n c):=by obtain⟨b,hb⟩:∃b,bs[j]?=some b:=⟨_,axn (by rw[h.len];exact hj)⟩;obtain⟨r,hr⟩:∃r,rows[j]?=some r:=⟨_,axn hj⟩;obtain⟨cur,hc,hx⟩:=h.out;obtain⟨c,hnc,hcc⟩:=hx j b hb;obtain⟨h1,h2⟩:=h.row j b r hb hr;exact⟨b,r,c,hnc,hb,hr,h2,h1,h.ng j b hb,by simp[World.cell?,hc,hcc]⟩
theorem IM.keep(h:IM w G n bs rows)(k:∀q,q<w.heap.size->(q=G∨∃j:Nat,bs[j]?=some q)->w'.heap[q]?=w.heap[q]?):IM w' G n bs rows:=by have hl:=h.lt;obtain⟨cur,hc,hx⟩:=h.out;refine⟨⟨cur,(k G hl (.inl rfl)).trans hc,hx⟩,h.len,λj b r h1 h2=>?_,h.nd,h.ng⟩;obtain⟨⟨cu,q1,q2⟩,q3⟩:=h.row j b r h1 h2;exact⟨⟨cu,(k b (aF q1) (.inr ⟨j,h1⟩)).trans q1,q2⟩,q3⟩
theorem IM.ex(h:IM w G n bs rows)(k:Ex w w'):IM w' G n bs rows:=h.keep λ_ hq _=>k.block hq
theorem IM.turn(h:IM w G n bs rows){b:Nat}(hi:bs[i]?=some b){r':List Int}(hr:Own w' b r')(hl:r'.length=n)(k:aM b w w'):IM w' G n bs (rows.set i r'):=by
 have hgl:=h.lt;have hgb:=h.ng i b hi;have hil:=(axp.1 hi).1;obtain⟨cur,hc,hx⟩:=h.out;refine⟨⟨cur,(k.block G hgl (by intro e;injection e with e;exact hgb e.symm)).trans hc,hx⟩,by rw[axM];exact h.len,λj b' r h1 h2=>?_,h.nd,h.ng⟩;rw[axK]at h2;by_cases e:i=j
 .subst e;rw[axl rfl,axl (by rw[<-h.len];exact hil)]at h2;injection h2 with h2;subst h2;rw[hi]at h1;injection h1 with h1;subst h1;exact⟨hr,hl⟩
 .rw[axm e]at h2;obtain⟨⟨cu,q1,q2⟩,q3⟩:=h.row j b' r h1 h2;exact⟨⟨cu,(k.block b' (aF q1) (by intro e2;injection e2 with e2;subst e2;exact e (h.nd i j b' hi h1))).trans q1,q2⟩,q3⟩
theorem IM.swap(h:IM w G n bs rows){bi bk ci ck:Nat}{ri rk:List Int}(hi:bs[i]?=some bi)(hk:bs[k]?=some bk)(oW:rows[i]?=some ri)(hrk:rows[k]?=some rk)(hci:n<=ci)(hck:n<=ck):
 IM ((w.setCell ⟨G,i,none⟩ (.slice (some ⟨bk,0,none⟩) n ck)).setCell ⟨G,k,none⟩ (.slice (some ⟨bi,0,none⟩) n ci)) G n ((bs.set i bk).set k bi) ((rows.set i rk).set k ri):=by
 have hil:=(axp.1 hi).1;have hkl:=(axp.1 hk).1;have kx:aM G w ((w.setCell ⟨G,i,none⟩ (.slice (some ⟨bk,0,none⟩) n ck)).setCell ⟨G,k,none⟩ (.slice (some ⟨bi,0,none⟩) n ci)):=((aM.refl G w).setCell (p:=⟨G,i,none⟩) rfl _).setCell (p:=⟨G,k,none⟩) rfl _;have at2:∀{α:Type} (l:List α) (a b:α) (j:Nat) (x:α),i<l.length->k<l.length->((l.set i a).set k b)[j]?=some x->(j=k/\x=b)∨(j≠k/\j=i/\x=a)∨(j≠k/\j≠i/\l[j]?=some x):=by
  intro α l a b j x h1 h2 h3;rw[axK]at h3;split at h3
  .rename_i e;rw[axl (by rw[axM];omega)]at h3;injection h3 with h3;exact .inl ⟨e.symm,h3.symm⟩
  .rename_i e;rw[axK]at h3;split at h3
   .rename_i e2
    try rw[axl (by omega)]at h3
    injection h3 with h3;exact .inr (.inl ⟨λe3=>e e3.symm,e2.symm,h3.symm⟩)
   .rename_i e2;exact .inr (.inr ⟨λe3=>e e3.symm,λe3=>e2 e3.symm,h3⟩)
 have uI:=h.row i bi ri hi oW;have CB:=h.row k bk rk hk hrk;have hgl:=h.lt;have hlen:=h.len;have keep:∀(b:Nat) (r:List Int) (j:Nat),bs[j]?=some b->Own w b r->Own ((w.setCell ⟨G,i,none⟩ (.slice (some ⟨bk,0,none⟩) n ck)).setCell ⟨G,k,none⟩ (.slice (some ⟨bi,0,none⟩) n ci)) b r:=λb r j h1 ⟨cu,q1,q2⟩=>⟨cu,(kx.block b (aF q1) (by intro e;injection e with e;exact h.ng j b h1 e)).trans q1,q2⟩
 obtain⟨cur,hc,hx⟩:=h.out;refine⟨⟨(cur.setIfInBounds i (.slice (some ⟨bk,0,none⟩) n ck)).setIfInBounds k (.slice (some ⟨bi,0,none⟩) n ci),by simp[World.setCell,ayn,hc],λj b hj=>?_⟩,by simp[hlen],λj b r h1 h2=>?_,λa b z h1 h2=>?_,λj b hj=>?_⟩
 .obtain⟨_,_,hi1⟩:=hx i bi hi;obtain⟨_,_,hk1⟩:=hx k bk hk;have l1:i<cur.size:=(aye.1 hi1).1;have l2:k<cur.size:=(aye.1 hk1).1;rcases at2 bs bk bi j b hil hkl hj with⟨e,e2⟩|⟨e,e2,e3⟩|⟨e,e2,e3⟩
  .subst e e2;exact⟨ci,hci,by rw[ax1,axl rfl,axl (by simpa using l2)]⟩
  .subst e2 e3;exact⟨ck,hck,by rw[ax1,axm (λh=>e h.symm),ax1,axl rfl,axl l1]⟩
  .obtain⟨c,hnc,hc'⟩:=hx j b e3;exact⟨c,hnc,by rw[ax1,axm (λh=>e h.symm),ax1,axm (λh=>e2 h.symm)];exact hc'⟩
 .rcases at2 bs bk bi j b hil hkl h1 with⟨e,e2⟩|⟨e,e2,e3⟩|⟨e,e2,e3⟩
  .subst e e2;rcases at2 rows rk ri j r (by omega) (by omega) h2 with⟨_,e4⟩|⟨e4,_⟩|⟨e4,_⟩
   .subst e4;exact⟨keep _ _ i hi uI.1,uI.2⟩
   .exact absurd rfl e4
   .exact absurd rfl e4
  .subst e2 e3;rcases at2 rows rk ri j r (by omega) (by omega) h2 with⟨e4,_⟩|⟨_,_,e4⟩|⟨_,e4,_⟩
   .exact absurd e4 e
   .subst e4;exact⟨keep _ _ k hk CB.1,CB.2⟩
   .exact absurd rfl e4
  .rcases at2 rows rk ri j r (by omega) (by omega) h2 with⟨e4,_⟩|⟨_,e4,_⟩|⟨_,_,e4⟩
   .exact absurd e4 e
   .exact absurd e4 e2
   .exact⟨keep _ _ j e3 (h.row j b r e3 e4).1,(h.row j b r e3 e4).2⟩
 .rcases at2 bs bk bi a _ hil hkl h1 with⟨e1,q1⟩|⟨e1,f1,q1⟩|⟨e1,f1,q1⟩<;>rcases at2 bs bk bi b _ hil hkl h2 with⟨e2,q2⟩|⟨e2,f2,q2⟩|⟨e2,f2,q2⟩
  .omega
  .rw[<-q1]at hi;rw[<-q2]at hk;have:=h.nd i k z hi hk;omega
  .rw[<-q1]at hi;have:=h.nd i b z hi q2;omega
  .rw[<-q1]at hk;rw[<-q2]at hi;have:=h.nd i k z hi hk;omega
  .omega
  .rw[<-q1]at hk;have:=h.nd k b z hk q2;omega
  .rw[<-q2]at hi;have:=h.nd a i z q1 hi;omega
  .rw[<-q2]at hk;have:=h.nd a k z q1 hk;omega
  .exact h.nd a b z q1 q2
 .rcases at2 bs bk bi j _ hil hkl hj with⟨e1,q1⟩|⟨e1,f1,q1⟩|⟨e1,f1,q1⟩
  .rw[<-q1]at hi;exact h.ng i b hi
  .rw[<-q1]at hk;exact h.ng k b hk
  .exact h.ng j b q1
def rG(w:World)(G R:Nat):Prop:=∃cur:Array Value,w.heap[G]?=some (.cells cur 55 (0,0))/\∀j,j<R->cur[j]?=some (.slice none 0 0)
theorem rG.cell(h:rG w G R)(hj:j<R):w.cell? ⟨G,j,none⟩=some (.slice none 0 0):=by obtain⟨cur,hc,hx⟩:=h;simp[World.cell?,hc,hx j hj]
theorem rG.frozen(h:rG w G R)(i:Nat):w.frozen? ⟨G,i,none⟩=false:=by obtain⟨cur,hc,_⟩:=h;simp[World.frozen?,hc]
theorem rG.lt(h:rG w G R):G<w.heap.size:=by obtain⟨_,h,_⟩:=h;exact aF h
theorem rG.keep(h:rG w G R)(k:w'.heap[G]?=w.heap[G]?):rG w' G R:=by obtain⟨cur,hc,hx⟩:=h;exact⟨cur,k.trans hc,hx⟩
theorem rG.set(h:rG w G R)(i:Nat):rG (w.setCell ⟨G,i,none⟩ (.slice none 0 0)) G R:=by
 obtain⟨cur,hc,hx⟩:=h;refine⟨cur.setIfInBounds i (.slice none 0 0),by simp[World.setCell,ayn,hc],λj hj=>?_⟩;rw[ax1];split
 .split
  .rfl
  .rename_i e h2;subst e;have:=(aye.1 (hx _ hj)).1;omega
 .exact hx j hj
theorem ad8{O:Ops K}{Z:List (List K)}(hr:r<=t)(h:∀(i:Nat) (v:List K),r<=i->i<t->Z[i]?=some v->O.kZ (O.el v c)=true){v:List K}(hv:Z[t]?=some v)(hz:O.kZ (O.el v c)=false):O.uP Z r c=t:=by
 have htl:=(axp.1 hv).1;have:(Z.drop r).findIdx (λrow=> !O.kZ (O.el row c))=t-r:=by
  rw[azO (by rw[axF];omega)]
  refine⟨by rw[azC];have e:Z[r+(t-r)]'(by omega)=v:=by have:=(axp.1 hv).2;rw[<-this];congr 1;omega
            rw[e,hz];rfl,λj hj=>by
   rw[azC,h (r+j) _ (by omega) (by omega) (axn _)];rfl⟩
 unfold Ops.uP;rw[this];omega
theorem ad7{O:Ops K}{Z:List (List K)}(hr:r<=Z.length)(h:∀(i:Nat) (v:List K),r<=i->i<Z.length->Z[i]?=some v->O.kZ (O.el v c)=true):¬O.uP Z r c<Z.length:=by
 have:(Z.drop r).findIdx (λrow=> !O.kZ (O.el row c))=Z.length-r:=by rw[<-axF,aAc];intro v hv;obtain⟨j,hj⟩:=axz hv;rw[axY]at hj;rw[h (r+j) v (by omega) (axp.1 hj).1 hj];rfl
 unfold Ops.uP;rw[this];omega
theorem H_{Z:List (List K)}{zt zr l:List K}(Gq:Z[t]?=some zt)(_:Z[r]?=some zr):((Z.set r zt).set t zr).set r l=(Z.set t zr).set r l:=by
 by_cases e:r=t
 .subst e;rw[ay9,ay9,ay9]
 .rw[List.set_comm zt zr e,ay9]
theorem Qc{O:Ops K}{Z:List (List K)}{zt zr:List K}(Gq:Z[t]?=some zt)(wR:Z[r]?=some zr){u:List K}(hu:((Z.set t zr).set r (O.oJ zt c))[k]?=some u):
 (O.piv Z r c t)[k]?=some (if k=r then O.oJ zt c else if O.kZ (O.el u c)then u else O.less u (O.el u c) (O.oJ zt c)):=by
 have htl:=(axp.1 Gq).1;have hrl:=(axp.1 wR).1;have hkl:k<Z.length:=by have:=(axp.1 hu).1;simpa using this
 have e1:Z.getD t []=zt:=by rw[axt,Gq];rfl
 rw[pU O hrl htl c k hkl,e1];unfold Ops.Gt;by_cases e:k=r
 .rw[axl e,axl e]
 .have:Z.getD (if k=t then r else if k=r then t else k) []=u:=by
   rw[axK,axm (λh=>e h.symm),axK]at hu;by_cases e2:k=t
   .rw[axl e2.symm,axl htl]at hu;injection hu with hu;rw[axl e2,axt,wR,<-hu];rfl
   .rw[axm (λh=>e2 h.symm)]at hu;rw[axm e2,axm e,axt,hu];rfl
  rw[this]
theorem FK(p x:Int):p ∣ x%p-x:=by refine⟨-(x / p),?_⟩;have:=Int.emod_add_mul_ediv x p;rw[Int.mul_neg];omega
theorem abN(p x f y:Int):(ay p).add x ((ay p).mul ((ay p).neg f) y)=(x-f*y%p)%p:=by
 show(x+(-f)%p*y%p)%p=(x-f*y%p)%p;refine Int.emod_eq_emod_iff_emod_sub_eq_zero.2 (az3 ?_);have e:x+(-f)%p*y%p-(x-f*y%p)=((-f)%p*y%p-(-f)%p*y)+(f*y%p-f*y)+((-f)%p - -f)*y:=by rw[Int.sub_mul,Int.neg_mul];omega
 rw[e];exact ay5 (ay5 (FK _ _) (FK _ _)) (Int.dvd_mul_of_dvd_left (FK _ _))
def nZ(p f:Int)(v l:List Int)(j:Nat):List Int:=((ay p).less v f l).take j++v.drop j
theorem jW(O:Ops K){v l:List K}(h:v.length=l.length)(f:K):(O.less v f l).length=v.length:=by simp[Ops.less,h]
theorem Nr(p f:Int)(v l:List Int):nZ p f v l 0=v:=by simp[nZ]
theorem QL(h:v.length=l.length):nZ p f v l v.length=(ay p).less v f l:=by unfold nZ;rw[azm,ax8,axG (by rw[jW _ h];exact axk _)]
theorem wN{a v:List α}{x:α}(hl:a.length=v.length)(hx:a[j]?=some x):(a.take j++v.drop j).set j x=a.take (j+1)++v.drop (j+1):=by
 have hj:=(axp.1 hx).1;apply ax_;intro i;simp only[axK,ay1,axL,axY,axx,axv,axF];by_cases e:j=i
 .subst e;rw[axl rfl,axl (by omega),axl (by omega),axl (by omega),hx]
 .rw[axm e];by_cases h1:i<j
  .rw[axl (by omega),axl h1,axl (by omega),axl (by omega)]
  .rw[axm (by omega),axm (by omega)];congr 1;omega
theorem JR{y:Int}(hx:v[j]?=some x)(hy:l[j]?=some y):((ay p).less v f l)[j]?=some ((x-f*y%p)%p):=by unfold Ops.less;rw[azl,hx,hy];exact congrArg some (abN p x f y)
theorem Ns{y:Int}(h:v.length=l.length)(hx:v[j]?=some x)(hy:l[j]?=some y):(nZ p f v l j).set j ((x-f*y%p)%p)=nZ p f v l (j+1):=
 wN (jW _ h f) (JR hx hy)
theorem VF(h:v.length=l.length)(hj:j<v.length):(nZ p f v l j)[j]?=v[j]?:=by unfold nZ;rw[axN (by rw[axx,jW _ h];omega),axx,jW _ h,axY];congr 1;omega
def sF(p k:Int)(v:List Int)(j:Nat):List Int:=(v.map λx=>x*k%p).take j++v.drop j
theorem Ni{k:Int}(hj:j<=v.length):(sF p k v j).length=v.length:=by simp[sF];omega
theorem Iw(p k:Int)(v:List Int):sF p k v 0=v:=by simp[sF]
theorem Iy{k:Int}(hx:v[j]?=some x):(sF p k v j).set j (x*k%p)=sF p k v (j+1):=
 wN (by simp) (by rw[axw,hx];rfl)
theorem TG{k:Int}(hj:j<v.length):(sF p k v j)[j]?=v[j]?:=by unfold sF;rw[axN (by simp;omega),axY];congr 1;simp;omega
theorem Nj(hx:v[c]?=some x):sF p (dh p x) v v.length=(ay p).oJ v c:=by
 unfold sF Ops.oJ;rw[azm,ax8,axG (by simp),(ay p).dD hx];refine ax0 λa _=>?_
 show a*dh p x%p=dh p x*a%p;rw[ay2]
theorem rU(p x:Int):(ay p).kZ x=decide (x=0):=rfl
theorem YZ(hp:0<p):aA p ((ay p).oJ v c)=true:=ji λi x hx=>by
 unfold Ops.oJ at hx;rw[axw]at hx;cases hv:v[i]? with
 |none=>rw[hv]at hx;cases hx
 |some y=>rw[hv]at hx;injection hx with hx;rw[<-hx];exact⟨ayh _ (by omega),ayi _ hp⟩
theorem TJ(hp:0<p)(hl:v.length=l.length):aA p ((ay p).less v f l)=true:=ji λi x hx=>by
 have hi:i<v.length:=by have:=(axp.1 hx).1;rwa[jW _ hl]at this
 have h1:=JR (p:=p) (f:=f) (axn hi) (axn (by omega:i<l.length));rw[hx]at h1;injection h1 with h1;rw[h1];exact⟨ayh _ (by omega),ayi _ hp⟩
def fQ(p:Int)(Z:List (List Int)):Prop:=∀r∈Z,aA p r=true
def UD:EL (List Int) where
 k:=1
 O:=λw a b vs x=>∃g c,vs=[.slice (some ⟨g,0,none⟩) x.length c]/\a<=g/\g<b/\x.length<=c/\Own w g x
 mM:=λ⟨_,_,h,_⟩=>by rw[h];rfl
 keep:=λ⟨g,c,h,h1,h2,h3,cur,h4,h5⟩ hk=>⟨g,c,h,h1,h2,h3,cur,(hk g h1 h2 (aF h4)).trans h4,h5⟩
 one:=λ⟨_,_,h,_⟩ u hu=>by rw[h]at hu;simp at hu;subst hu;rfl
theorem yH{v:Value}(h:GE UD 55 w B H v xs)(hH:H<=w.heap.size){x:List Int}(hx:Own w g x)(hc:x.length<=c)(hg:H<=g)(hB:B<=H)(hl:xs.length+1<=1099511627776):
 ∃v' w',(Builtin.append_ #[92,92] 92 #[v,.slice (some ⟨w.heap.size,0,none⟩) 1 1]).run prog (w.alloc (.cells #[.slice (some ⟨g,0,none⟩) x.length c] 55))=.ok v' w'/\
  GE UD 55 w' B w'.heap.size v' (xs++[x])/\∀b',Ex b' w->b'.heap.size<=B->Ex b' w':=by
 obtain⟨i,hi,hz,hs,hby⟩:=axW nI;obtain⟨v',w',h1,h2,_,_,_,h6⟩:=GE.push UD Tryz.underlying92 hi hz hs hby rfl (by decide) (by omega) h hH (u:=[.slice (some ⟨g,0,none⟩) x.length c]) (x:=x) (a:=g) (b:=g+1) ⟨g,c,rfl,axk _,ayf _,hc,hx⟩ hg (ayY _) hx.lt hB hl;exact⟨v',w',h1,h2,h6⟩
def KM:Value->Nat
 | .slice (some a) _ _=>a.block
 |_=>0
theorem GE.im{m:Nat}(h:GE UD 55 w B H (.slice (some ⟨g,0,none⟩) m c) xs)(hw:aQ n xs):∃bs,IM w g n bs xs/\B<=g/\∀b∈bs,B<=b:=by
 obtain⟨cur,al,bl,e,hB,hH,hh,h1,h2⟩:=h.at_;have at_:∀(j b:Nat),((range xs.length).map λj=>KM (cur[j]?.getD .nilFunc))[j]?=some b->∃x cc,xs[j]?=some x/\x.length=n/\n<=cc/\cur[j]?=some (.slice (some ⟨b,0,none⟩) n cc)/\Own w b x/\B<=b/\b≠g/\al j<=b/\b<bl j:=λj b hj=>by
  have hjl:j<xs.length:=by have:=(axp.1 hj).1;simpa using this
  have hx:xs[j]?=some (xs[j]'hjl):=axn hjl;obtain⟨u,q1,⟨g2,c2,q2,q3,q4,q5,q6⟩,q7,q8,q9⟩:=h1 j _ hx;have hl:=hw _ (axo hx);have hc:=q1 0 _ (by rw[q2];rfl);rw[show UD.k=1 from rfl,ays,ayb]at hc;rw[axw,ayO hjl]at hj;have hj:KM (cur[j]?.getD .nilFunc)=b:=Option.some.inj hj;rw[hc]at hj;have hj:g2=b:=hj;subst hj;rw[hl]at hc q5;exact⟨_,c2,hx,hl,q5,hc,q6,by omega,by omega,q3,q4⟩
 refine⟨(range xs.length).map λj=>KM (cur[j]?.getD .nilFunc),⟨⟨cur,hh,λj b hj=>?_⟩,by simp,λj b r hj hr=>?_,λi j b hi hj=>?_,λj b hj=>?_⟩,hB,λb hb=>?_⟩
 .obtain⟨x,cc,_,_,q1,q2,_⟩:=at_ j b hj;exact⟨cc,q1,q2⟩
 .obtain⟨x,cc,q0,q1,_,_,q2,_⟩:=at_ j b hj;rw[hr]at q0;injection q0 with q0;subst q0;exact⟨q2,q1⟩
 .obtain⟨x,_,q0,_,_,_,_,_,_,q1,q2⟩:=at_ i b hi;obtain⟨y,_,r0,_,_,_,_,_,_,r1,r2⟩:=at_ j b hj;rcases azD i j with e|e|e
  .have:=h2 i j (axp.1 q0).1 (axp.1 r0).1 (by omega);omega
  .exact e
  .have:=h2 i j (axp.1 q0).1 (axp.1 r0).1 (by omega);omega
 .obtain⟨_,_,_,_,_,_,_,_,q,_⟩:=at_ j b hj;exact q
 .obtain⟨j,hj⟩:=axz hb;obtain⟨_,_,_,_,_,_,_,q,_⟩:=at_ j b hj;exact q
theorem IM.rdm(h:IM w G n bs rows)(hl:rows.length<=1099511627776)(hn:n<=1099511627776)(k:Nat):oC w (some ⟨G,0,none⟩) (rows.take k):=by
 refine⟨axA (ayL _ _) hl,λj r hj=>?_⟩;rw[axL]at hj;split at hj
 .obtain⟨b,r',c,hc,_,hr,hrl,ho,_,hcell⟩:=h.at_ (axp.1 hj).1;rw[hj]at hr;injection hr with hr;subst hr;exact⟨G,0,_,c,rfl,by rw[axT,hrl];exact hcell,ho.rd (by omega)⟩
 .cases hj
structure Rln where
 l:Int
 r:Int
 b:List (List Int)
theorem vg(O:Ops K):∀(m c r:Nat) (rows:List (List K)),rows.length<=r->O.red m c r rows=(rows,r)
 |0,_,_,_,_=>rfl
 |m+1,c,r,rows,h=>by rw[Ops.red,axm (by unfold Ops.uP;omega),vg O m (c+1) r rows h]
theorem Nk(R vs:List α)(hl:R.length=vs.length)(i:Nat)(x:α)(hx:R[i]?=some x):(R.take i++vs.drop i).set i x=R.take (i+1)++vs.drop (i+1):=by
 have hi:=(axp.1 hx).1;rw[List.set_append,axm (by rw[axx];omega),axy,hx];have:i-(R.take i).length=0:=by rw[axx];omega
 rw[this,ayg];congr 1;rw[azh (by omega:i<vs.length)];rfl
theorem vU(R vs:List α)(hl:R.length=vs.length)(i:Nat)(x:α)(hx:R[i]?=some x)(hv:vs[i]?=some x):R.take i++vs.drop i=R.take (i+1)++vs.drop (i+1):=by
 have hi:=(axp.1 hx).1;rw[axy,hx,azh (by omega:i<vs.length)];have:vs[i]'(by omega)=x:=by rw[axn (by omega)]at hv;injection hv
 rw[this];simp
theorem TH(R vs:List α)(hl:R.length=vs.length)(i:Nat)(hi:i<vs.length):(R.take i++vs.drop i)[i]?=vs[i]?:=by rw[axN (by rw[axx];omega),axx,axY];congr 1;omega
theorem aM.OL(k:aM G w w'){o:Nat}(hg:g≠G){v:Value}(h:w.cell? ⟨g,o,none⟩=some v):w'.cell? ⟨g,o,none⟩=some v:=
 (axP (w:=w) (a:=⟨g,o,none⟩) (k.block g (jC (p:=⟨g,o,none⟩) h) (λe=>by injection e with e;exact hg e))).trans h
theorem Nl{R vs:List α}(hl:R.length=vs.length){x:α}(h1:R[r]?=some x)(h2:vs[r]?=some x):(R.take i++vs.drop i)[r]?=some x:=by
 have hr:=(axp.1 h1).1;by_cases e:r<i
 .rw[axX (by rw[axx];omega),axL,axl e];exact h1
 .rw[axN (by rw[axx];omega),axY,axx,Nat.min_eq_left (by omega),show i+(r-i)=r by omega];exact h2
theorem Ju{Z:List (List Int)}{zr:List Int}(wR:Z[r]?=some zr){u:List Int}(hk:k≠r)(hu:((Z.set t zr).set r l)[k]?=some u):u∈Z:=by
 rw[axK,axm (λh=>hk h.symm),axK]at hu;split at hu
 .split at hu
  .injection hu with hu;rw[<-hu];exact axo wR
  .cases hu
 .exact axo hu
theorem afq(hp:0<p){Z:List (List Int)}{zt zr:List Int}(Gq:Z[t]?=some zt)(wR:Z[r]?=some zr)(hw:aQ n Z)(hZ:fQ p Z):fQ p ((ay p).piv Z r c t):=λv hv=>by
 obtain⟨k,hk⟩:=axz hv;have hkl:=(axp.1 hk).1;rw[eH]at hkl;obtain⟨u,hu⟩:∃u,((Z.set t zr).set r ((ay p).oJ zt c))[k]?=some u:=⟨_,axn (by simpa using hkl)⟩;have:=Qc Gq wR hu;rw[hk]at this;injection this with this;rw[this];by_cases e:k=r
 .rw[axl e];exact YZ hp
 .have hm:=Ju wR e hu;rw[axm e];split
  .exact hZ u hm
  .refine TJ hp ?_;rw[hw u hm];unfold Ops.oJ;rw[axs];exact(hw zt (axo Gq)).symm
theorem DV{f:FuncId}{args:Array Value}{v:Value}(h:Calls prog f args w λe w'=>e=.returned v/\w=w'):Calls prog f args w λe w'=>e=.returned v/\w'=w:=h.mono (by rintro e w' ⟨rfl,rfl⟩;exact⟨rfl,rfl⟩)
def dU(w:World)(A:Option Addr)(rows:List (List Int)):Prop:=
 rows.length<=1099511627776/\∀(j:Nat) (r:List Int),rows[j]?=some r->∃g b c,A=some ⟨g,0,none⟩/\w.cell? ⟨g,j,none⟩=some (.slice (some ⟨b,0,none⟩) r.length c)/\r.length<=c/\Own w b r
theorem dU.ex(h:dU w A rows)(k:Ex w w'):dU w' A rows:=⟨h.1,λj r hj=>by
 obtain⟨g,b,c,q1,q2,q3,q4⟩:=h.2 j r hj;exact⟨g,b,c,q1,af k q2,q3,q4.ex k⟩⟩
theorem dU.rdm(h:dU w A rows)(hr:∀r∈rows,r.length<=1099511627776):oC w A rows:=⟨h.1,λj r hj=>by
 obtain⟨g,b,c,q1,q2,q3,q4⟩:=h.2 j r hj;exact⟨g,0,_,c,q1,by rw[axT];exact q2,q4.rd (hr r (axo hj))⟩⟩
theorem dU.nil(w:World)(A:Option Addr):dU w A []:=⟨by simp,λj x hj=>by simp at hj⟩
theorem IM.cellAt(h:IM w G n bs rows)(r t:Nat)(v:Value)(ht:t<rows.length):∃u,(w.setCell ⟨G,r,none⟩ v).cell? ⟨G,t,none⟩=some u:=by
 obtain⟨_,_,_,_,_,_,_,_,_,hc⟩:=h.at_ ht;obtain⟨cur,hb,_⟩:=h.out;have htl:t<cur.size:=by simp[World.cell?,hb]at hc;exact(aye.1 hc).1
 by_cases e:r=t
 .subst e;exact⟨v,by simp[World.cell?,World.setCell,ayn,hb,htl]⟩
 .exact⟨_,by simp[World.cell?,World.setCell,ayn,hb,e];simp[World.cell?,hb]at hc;exact hc⟩
theorem IM.aiv(h:IM w G n bs rows)(hl:rows.length<=1099511627776)(k:Nat):dU w (some ⟨G,0,none⟩) (rows.take k):=by
 refine⟨axA (ayL _ _) hl,λj r hj=>?_⟩;rw[axL]at hj;split at hj
 .obtain⟨b,r',c,hc,_,hr,hrl,ho,_,hcell⟩:=h.at_ (axp.1 hj).1;rw[hj]at hr;injection hr with hr;subst hr;exact⟨G,b,c,rfl,by rw[hrl];exact hcell,by rw[hrl];exact hc,ho⟩
 .cases hj
theorem LW(p:Int)(n:Nat)(A:Option Addr)(c:Nat)(w:World)(_:n<=1000):
 Calls prog 174 #[.int .i64 p,.int .i64 n,.slice A 0 c] w λe w'=>e=.returned (.slice none 0 0)/\w=w':=by
 go_enter Tryz.func174,Tryz.ntmps174
 go_wp2_with fail
 go_loopw [7,21] (λs7 s21 wr=>s7=.slice none 0 0/\s21=.int .i64 0/\w=wr) (λ_ _ _=>0)
 case atStart=>exact⟨rfl,rfl,rfl⟩
 case round=>
  obtain⟨rfl,rfl,rfl⟩:=hrel;go_wp2_with fail
  go_loopw [10,11] (λs10 s11 wr=>s10=.int .i64 0/\s11=.int .i64 0/\w=wr) (λ_ _ _=>0)
  case atStart=>exact⟨rfl,rfl,rfl⟩
  case round=>
   obtain⟨rfl,rfl,rfl⟩:=hrel;by_cases e:0<n
   .go_wp2_with fail
    go_ret;exact⟨rfl,rfl⟩
   .go_wp2_with fail
    go_ret;exact⟨rfl,rfl⟩
theorem LV(p:Int)(n:Nat)(rows:List (List Int))(A:Option Addr)(c:Nat)(w:World)(hF:av p=true)(h:oC w A rows)(hw:aQ n rows)(hel:fQ p rows)(hn:n<=1000)(hR:rows.length<=1000)(hR1:0<rows.length):
 Calls prog 174 #[.int .i64 p,.int .i64 n,.slice A rows.length c] w λe w'=>∃A' c',e=.returned (.slice A' ((ay p).aC n rows).length c')/\dU w' A' ((ay p).aC n rows)/\Ex w w':=by
 have h2:=ax hF;have h97:=aT hF;obtain⟨FIN,qR⟩:=xq ((ay p).red n 0 0 rows);have HRR:=axj (show(ay p).aC n rows=FIN.1.take FIN.2 by unfold Ops.aC;rw[qR]);have HF:=axj hF;have dN:=axj (show(ay p).red (n-0) 0 0 rows=FIN from qR);have HW0:=axj hw;have HE0:=axj hel;obtain⟨R,hRl⟩:=xq rows.length;have Pj:=axj hRl;rw[hRl]at hR hR1⊢;clear hF qR hw hRl hel;go_enter Tryz.func174,Tryz.ntmps174
 go_wp2_with fail
 go_loopw [7,21] (λs7 s21 wr=>∃k:Nat,k<=R/\s21=.int .i64 k/\GE UD 55 wr w.heap.size wr.heap.size s7 (rows.take k)/\Ex w wr) (λ_ s21 _=>R-(intOf s21).toNat)
 case atStart=>exact⟨0,axq _,rfl,GE.nil _ _ _ _ _,aCQ _⟩
 case round=>
  rename World=>wb;obtain⟨k,hk,rfl,hge,hex⟩:=hrel;by_cases NS:k<R
  .obtain⟨g0,aiC,A1,c1,r1,rfl,hr1,hc1,hrd⟩:=(h.ex hex).at_ (by rw[Pj.out];exact NS);have HT:=axj (show rows.take (k+1)=rows.take k++[r1] by rw[axy,hr1];rfl);have htl:=ax7 k rows;have hsz:=hex.size;have cO:=kR A1 c1 r1 wb hrd;clear hr1;go_wp2_with fail
   refine cO.mono ?_;rintro e w1 ⟨g,c',rfl,hc',hg,hO,x1⟩;have z1:=x1.size;obtain⟨v',w2,hrun,wH,hE2⟩:=yH (hge.ex x1) z1 hO hc' hg hsz (by omega);rw[<-HT.out]at wH;have x2:=hE2 w (hex.trans x1) (axk _);clear hE2 HT htl cO hge;go_wp2_with (at_builtin;refine wpList_append_run rfl _ _ _ rfl rfl rfl hrun ?_)
   go_roundw;case rel=>exact⟨k+1,by omega,by go_num,wH,x2⟩
   case measure=>simp[intOf];omega
  obtain rfl:R=k:=by omega
  rw[axG (by rw[Pj.out];exact axk _)]at hge;have hv:u7≠.slice none 0 0:=λe=>by obtain⟨_,_,e2⟩:=hge.kH;rw[e]at e2;injection e2 with _ e2 _;have:=Pj.out;omega
  have hfm:=hge.form hv;rw[Pj.out]at hfm;obtain⟨G,C,rfl,hRC,_⟩:=hfm;obtain⟨bs,hM,hG,hbs⟩:=hge.im HW0.out;have HB0:=axj hbs;clear hge h hbs NS hk hv;go_wp2_with fail
  go_loopw [10,11] (λs10 s11 wr=>∃(c r:Nat) (Z:List (List Int)) (bs:List Nat),c<=n/\s10=.int .i64 r/\s11=.int .i64 c/\IM wr G n bs Z/\Hid (aQ n Z)/\Hid (fQ p Z)/\Hid (Z.length=R)/\r<=R/\Hid ((ay p).red (n-c) c r Z=FIN)/\Hid (∀b∈bs,w.heap.size<=b)/\Ex w wr) (λ_ s11 _=>n-(intOf s11).toNat)
  case atStart=>exact⟨0,0,rows,bs,axq _,rfl,rfl,hM,HW0,HE0,Pj,axq _,dN,HB0,hex⟩
  case round=>
   rename World=>wi;clear hM HW0 HE0 Pj dN HB0 hex;obtain⟨c,r,Z,bs,hcn,rfl,rfl,hM,HW,HE,HZ,JW,dN,HB,he⟩:=hrel;by_cases hlt:c<n/\r<R;case neg=>
    have HEq:=axj (show FIN=(Z,r) by
     rw[<-dN.out];by_cases e:c<n
     .exact vg _ _ _ _ _ (by rw[HZ.out];omega)
     .rw[show n-c=0 by omega];rfl)
    have hrr:=hM.aiv (by rw[HZ.out];omega) r;have HT:=axj (show(Z.take r).length=r by rw[axx,HZ.out];omega);have hrC:r<=C:=by omega
    by_cases e:c<n
    .have e2:¬r<R:=λe2=>hlt ⟨e,e2⟩
     clear hlt dN;go_wp2_with fail
     go_ret;rw[HRR.out,HEq.out];exact⟨some ⟨G,0,none⟩,C,by rw[HT.out];rfl,hrr,he⟩
    .clear hlt dN;go_wp2_with fail
     go_ret;rw[HRR.out,HEq.out];exact⟨some ⟨G,0,none⟩,C,by rw[HT.out];rfl,hrr,he⟩
   obtain⟨hc1,hr1⟩:=hlt;go_wp2_with fail
   go_loopw [12] (λs12 wr=>∃t:Nat,r<=t/\t<=R/\s12=.int .i64 t/\Hid (∀(i:Nat) (v:List Int),r<=i->i<t->Z[i]?=some v->(ay p).kZ ((ay p).el v c)=true)/\wi=wr) (λs12 _=>R-(intOf s12).toNat)
   case atStart=>exact⟨r,axk _,JW,rfl,axj (λi v h1 h2=>by omega),rfl⟩
   case round=>
    obtain⟨t,hrt,htR,rfl,Hz,rfl⟩:=hrel;by_cases htl:t<R
    .obtain⟨bt,zt,ct,hct,hbt,Gq,Cm,hot,an8,et⟩:=hM.at_ (by rw[HZ.out];exact htl);obtain⟨x,hx⟩:∃x,zt[c]?=some x:=⟨_,axn (by rw[Cm];exact hc1)⟩;have ec:=hot.cell hx;have CR:=axj (show(ay p).el zt c=x from(ay p).dD hx);have KQ:=axj Gq;have Hx:=axj hx;have O6:=axj Cm;have adP:=axj (HE.out zt (axo Gq));have hxb:=bg adP.out hx;clear Gq hx Cm;by_cases hx0:x=0
     .have Hx0:=axj hx0;have hxe:(x==0)=true:=by rw[hx0];rfl
      clear hx0 hxb;go_wp2_with fail
      go_roundw;case rel=>exact⟨t+1,by omega,by omega,by go_num,axj (λi v h1 h2 h3=>by
       by_cases e:i=t
       .subst e;rw[KQ.out]at h3;injection h3 with h3;rw[<-h3,CR.out,rU,Hx0.out];rfl
       .exact Hz.out i v h1 (by omega) h3),trivial⟩
      case measure=>simp[intOf];omega
     .have hxe:(x==0)=false:=by simp;exact hx0
      have Px:=ad8 (O:=ay p) hrt (λi v h1 h2 h3=>Hz.out i v h1 h2 h3) KQ.out (by rw[CR.out,rU];simpa using hx0);have HFk:=axj (show(ay p).red (n-(c+1)) (c+1) (r+1) ((ay p).piv Z r c t)=FIN by rw[<-dN.out,show n-c=(n-(c+1))+1 by omega,Ops.red,Px,axl (by rw[HZ.out];exact htl)]);obtain⟨br,zr,cr,hcr,hbr,wR,am9,hor,an9,er⟩:=hM.at_ (by rw[HZ.out];exact hr1);have fr:=hM.frozen r;have ft:=hM.frozen t;have hM2:=hM.swap hbr hbt wR KQ.out hcr hct;have hZ2:((Z.set r zt).set t zr)[r]?=some zt:=by
       rw[axK];by_cases e:t=r
       .rw[axl e,axl (by rw[axM,HZ.out];exact htl)];have:=KQ.out;rw[e,wR]at this;exact this
       .rw[axm e,axK,axl rfl,axl (by rw[HZ.out];exact hr1)]
      obtain⟨b1,z1,c1,aul,hb1,hz1,_,hO1,ajP,e1⟩:=hM2.at_ (j:=r) (by rw[axM,axM,HZ.out];exact hr1);rw[hZ2]at hz1;injection hz1 with hz1;subst hz1;have e2:=hO1.cell Hx.out;have HB2:=axj (show∀b∈(bs.set r bt).set t br,w.heap.size<=b from λb hb=>by
       rcases ayZ hb with hb|rfl
       .rcases ayZ hb with hb|rfl
        .exact HB.out b hb
        .exact HB.out _ (axo hbt)
       .exact HB.out _ (axo hbr))
      have HSW:=axj (show∀l,((Z.set r zt).set t zr).set r l=(Z.set t zr).set r l from λl=>H_ KQ.out wR);have G7:=axj (λ(k:Nat) (u:List Int)=>Qc (O:=ay p) (c:=c) KQ.out wR (k:=k) (u:=u));have HTE:=axj (show fQ p ((ay p).piv Z r c t)from afq (by omega) KQ.out wR HW.out HE.out);have HTW:=axj (show aQ n ((ay p).piv Z r c t)from HW.out.piv (by rw[HZ.out];exact hr1) (by rw[HZ.out];exact htl));have xR:=axj (show((ay p).piv Z r c t).length=R by rw[eH,HZ.out]);have HRS:=axj (show∀(l:List Int) (k:Nat) (u:List Int),k≠r->((Z.set t zr).set r l)[k]?=some u->u∈Z from λl k u hk hu=>Ju wR hk hu);have htb:((t:Int)==(R:Int))=false:=by simp;omega
      have kx:aM G wi ((wi.setCell ⟨G,r,none⟩ (.slice (some ⟨bt,0,none⟩) n ct)).setCell ⟨G,t,none⟩ (.slice (some ⟨br,0,none⟩) n cr)):=((aM.refl G wi).setCell (p:=⟨G,r,none⟩) rfl _).setCell (p:=⟨G,t,none⟩) rfl _;have X2:Ex w ((wi.setCell ⟨G,r,none⟩ (.slice (some ⟨bt,0,none⟩) n ct)).setCell ⟨G,t,none⟩ (.slice (some ⟨br,0,none⟩) n cr)):=he.aK kx hG;obtain⟨uT,eT⟩:=hM.cellAt r t (.slice (some ⟨bt,0,none⟩) n ct) (by rw[HZ.out];exact htl);clear Px hZ2 hbt hbr wR hx0 dN HB kx;go_wp2_with fail
      refine(zG p x _ HF.out (by have:=hxe;simp at this;omega)).mono ?_;rintro e _ ⟨rfl,rfl⟩;generalize(wi.setCell ⟨G,r,none⟩ (.slice (some ⟨bt,0,none⟩) n ct)).setCell ⟨G,t,none⟩ (.slice (some ⟨br,0,none⟩) n cr)=W2 at*;clear eT ec et er fr ft hor hot hM;obtain⟨k,hk⟩:=xq (dh p x);have Hk:=axj hk;have hkb:=kS (p:=p) x h2;rw[hk]at hkb⊢;clear hk;generalize aoe:(Z.set r zt).set t zr=Z2 at*;generalize(bs.set r bt).set t br=Xn at*;clear aoe;go_wp2_with fail
      go_loopw [92] (λs92 wr=>∃j:Nat,j<=n/\s92=.int .i64 j/\Own wr b1 (sF p k zt j)/\aM b1 W2 wr) (λs92 _=>n-(intOf s92).toNat)
      case atStart=>exact⟨0,axq _,rfl,by rw[Iw];exact hO1,aM.refl _ _⟩
      case round=>
       rename World=>wl;obtain⟨j,hj,rfl,hO,hk1⟩:=hrel;have g1:=aM.OL hk1 (λe=>ajP e.symm) e1;by_cases hjn:j<n
       .obtain⟨y,hy⟩:∃y,zt[j]?=some y:=⟨_,axn (by rw[O6.out];exact hjn)⟩;have hyb:=bg adP.out hy;have g2:=hO.cell ((TG (p:=p) (k:=k) (by rw[O6.out];exact hjn)).trans hy);have g3:=hO.frozen j;have HS:=axj (Iy (p:=p) (k:=k) hy);have hm:=sD (x:=y) (y:=k) ⟨by omega,by omega⟩ ⟨by omega,by omega⟩;clear hy;go_wp2_with fail
        go_still_tail 15,(by kernel_rfl)
        still_call (DV (v_ p y k _ h2 (by omega) (by omega)))
        repeat still_step
        refine wpStill_nil ?_;change wpList _ _ _ _ _ wl.drew;go_wp2_with fail
        go_roundw;case rel=>exact⟨j+1,by omega,by go_num,by rw[<-HS.out];exact hO.drew.bC _ _,hk1.drew.setCell rfl _⟩
        case measure=>simp[intOf];omega
       .obtain rfl:n=j:=by omega
        have HLL:=axj (show sF p k zt zt.length=(ay p).oJ zt c by rw[<-Hk.out];exact Nj Hx.out);rw[O6.out]at HLL;rw[HLL.out]at hO;obtain⟨L,hL⟩:=xq ((ay p).oJ zt c);have HLe:=axj (show aA p L=true by rw[<-hL];exact YZ (by omega));have Lj:=axj (show L.length=n by rw[<-hL];unfold Ops.oJ;rw[axs,O6.out]);rw[hL]at hO G7;have NY:=hM2.turn hb1 hO Lj.out hk1;rw[HSW.out]at NY;have x3:=X2.aK hk1 (HB2.out _ (axo hb1));have mR:=axj (show((Z.set t zr).set r L).length=R by rw[axM,axM,HZ.out]);have KU:=axj (show((Z.set t zr).set r L)[r]?=some L by rw[axK,axl rfl,axl (by rw[axM,HZ.out];exact hr1)]);have abf:=axj (show∀(k:Nat) (u:List Int),k≠r->((Z.set t zr).set r L)[k]?=some u->aA p u=true from λk u h1 h3=>HE.out u (HRS.out L k u h1 h3));clear hM2 hO g1 e1 e2 hL HLL X2 hO1 hk1 HSW HRS;generalize(Z.set t zr).set r L=Z1 at*;generalize(ay p).piv Z r c t=T at*;have HTr:=axj (show T[r]?=some L by rw[G7.out r L KU.out,axl rfl]);go_wp2_with fail
        go_loopw [114] (λafs wr=>∃i:Nat,i<=R/\afs=.int .i64 i/\IM wr G n Xn (T.take i++Z1.drop i)/\Ex w wr) (λafs _=>R-(intOf afs).toNat)
        case atStart=>exact⟨0,axq _,rfl,by simpa using NY,x3⟩
        case round=>
         rename World=>wm;clear NY x3;obtain⟨i,hi,rfl,z_,hem⟩:=hrel;by_cases hiR:i<R
         .obtain⟨u,hu⟩:∃u,Z1[i]?=some u:=⟨_,axn (by rw[mR.out];exact hiR)⟩;have hmu:(T.take i++Z1.drop i)[i]?=some u:=by
           rw[TH T Z1 (by rw[xR.out,mR.out]) i (by rw[mR.out];exact hiR)];exact hu
          have HTk:=axj (G7.out i u hu);have Hu:=axj hu;by_cases hir:i=r
          .have hnb:((i:Int)==(r:Int))=true:=by simp;omega
           have Pg:=axj (vU T Z1 (by rw[xR.out,mR.out]) i L (by rw[HTk.out,axl hir]) (by rw[hir];exact KU.out));clear hir hu hmu;go_wp2_with fail
           go_roundw;case rel=>exact⟨i+1,by omega,by go_num,by rw[<-Pg.out];exact z_,hem⟩
           case measure=>simp[intOf];omega
          .have hnb:((i:Int)==(r:Int))=false:=by simp;omega
           obtain⟨b5,u',c5,Xh,hb5,hu',zY,hO5,agz,e5⟩:=z_.at_ (j:=i) (by have:=(axp.1 hmu).1;exact this);rw[hmu]at hu';injection hu' with hu';subst hu';obtain⟨y,hy⟩:∃y,u[c]?=some y:=⟨_,axn (by rw[zY];exact hc1)⟩;have ey:=hO5.cell hy;have ZE:=axj (show(ay p).el u c=y from(ay p).dD hy);have Hug:=axj (abf.out i u hir hu);have hyb:=bg Hug.out hy;have Xo:=axj zY;have O8:=axj (show T[i]?=some (if y=0 then u else(ay p).less u y L) by
            rw[HTk.out,axm hir,ZE.out,rU];simp)
           by_cases hy0:y=0
           .have hye:(y==0)=true:=by rw[hy0];rfl
            have Pg:=axj (vU T Z1 (by rw[xR.out,mR.out]) i u (by rw[O8.out,axl hy0]) hu);clear hir hu hmu hy hy0 zY;go_wp2_with fail
            go_roundw;case rel=>exact⟨i+1,by omega,by go_num,by rw[<-Pg.out];exact z_,hem⟩
            case measure=>simp[intOf];omega
           .have hye:(y==0)=false:=by simp;exact hy0
            have Pg:=axj (Nk T Z1 (by rw[xR.out,mR.out]) i ((ay p).less u y L) (by rw[O8.out,axm hy0]));have hmr:=Nl (i:=i) (by rw[xR.out,mR.out]) HTr.out KU.out;obtain⟨b6,l6,c6,hc6,hb6,hl6,anQ,hO6,auq,e6⟩:=z_.at_ (j:=r) (axp.1 hmr).1;rw[hmr]at hl6;injection hl6 with hl6;subst hl6;have hne:b6≠b5:=λe=>hir (z_.nd i r b5 hb5 (e▸hb6))
            have hlu:u.length=L.length:=by rw[Xo.out,Lj.out]
            have Hlu:=axj hlu;clear hir hu hmu hy hy0 zY hmr anQ hlu;go_wp2_with fail
            go_loopw [142] (λafr wr=>∃j:Nat,j<=n/\afr=.int .i64 j/\Own wr b5 (nZ p y u L j)/\aM b5 wm wr) (λafr _=>n-(intOf afr).toNat)
            case atStart=>exact⟨0,axq _,rfl,by rw[Nr];exact hO5,aM.refl _ _⟩
            case round=>
             rename World=>wn;obtain⟨j,hj,rfl,hO,hk5⟩:=hrel;have f5:=aM.OL hk5 (λe=>agz e.symm) e5;have f6:=aM.OL hk5 (λe=>agz e.symm) e6;by_cases hjn:j<n
             .obtain⟨x1,hx1⟩:∃x,u[j]?=some x:=⟨_,axn (by rw[Xo.out];exact hjn)⟩;obtain⟨z1,hz1⟩:∃x,L[j]?=some x:=⟨_,axn (by rw[Lj.out];exact hjn)⟩;have att:=bg Hug.out hx1;have hz1b:=bg HLe.out hz1;have f7:=hO.cell ((VF (p:=p) (f:=y) Hlu.out (by rw[Xo.out];exact hjn)).trans hx1);have f8:=(hO6.aK hk5 hne).cell hz1;have f9:=hO.frozen j;have HS:=axj (show(nZ p y u L j).set j ((x1-y*z1)%p)=nZ p y u L (j+1) by rw[<-Ns (p:=p) (f:=y) Hlu.out hx1 hz1,show(x1-y*z1%p)%p=(x1-y*z1)%p by simp]);have hm:=sD (x:=y) (y:=z1) ⟨by omega,by omega⟩ ⟨by omega,by omega⟩;have m0:=ayh (y*z1) (show p≠0 by omega);have m1:=ayi (y*z1) (show 0<p by omega);clear hx1 hz1 e5 e6 ey;go_wp2_with fail
              go_still_tail 24,(by kernel_rfl)
              still_call (DV (v_ p y z1 _ h2 (by omega) (by omega)))
              still_call (DV (Uf p x1 _ _ h2 h97 (by omega) (by omega)))
              repeat still_step
              refine wpStill_nil ?_;change wpList _ _ _ _ _ wn.drew;go_wp2_with fail
              go_roundw;case rel=>exact⟨j+1,by omega,by go_num,by rw[<-HS.out];exact hO.drew.bC _ _,hk5.drew.setCell rfl _⟩
              case measure=>simp[intOf];omega
             .obtain rfl:n=j:=by omega
              have HLL:=axj (QL (p:=p) (f:=y) Hlu.out);rw[Xo.out]at HLL;rw[HLL.out]at hO;have hM6:=z_.turn hb5 hO (by rw[jW _ Hlu.out,Xo.out]) hk5;rw[Pg.out]at hM6;have x6:=hem.aK hk5 (HB2.out _ (axo hb5));clear z_ hO HLL f5 f6 e5 e6 ey hk5;go_wp2_with fail
              go_roundw;case rel=>exact⟨i+1,by omega,by go_num,hM6,x6⟩
              case measure=>simp[intOf];omega
         .obtain rfl:i=R:=by omega
          rw[axG (by rw[xR.out];exact axk _),ay0 (by rw[mR.out];exact axk _),ax8]at z_;go_wp2_with fail
          go_roundw;case rel=>exact⟨c+1,r+1,T,Xn,by omega,by go_num,by go_num,z_,HTW,HTE,xR,by omega,HFk,HB2,hem⟩
          case measure=>simp[intOf];omega
    .have hRt:t=R:=by omega
     subst hRt;have HN:=axj (ad7 (O:=ay p) (by rw[HZ.out];exact JW) (λi v h1 h2 h3=>Hz.out i v h1 (by rw[<-HZ.out];exact h2) h3));have HFk:=axj (show(ay p).red (n-(c+1)) (c+1) r Z=FIN by rw[<-dN.out,show n-c=(n-(c+1))+1 by omega,Ops.red,axm HN.out]);clear Hz HN;go_wp2_with fail
     go_roundw;case rel=>exact⟨c+1,r,Z,bs,by omega,rfl,by go_num,hM,HW,HE,HZ,JW,HFk,HB,he⟩
     case measure=>simp[intOf];omega
theorem xh(p:Int)(n:Nat)(rows:List (List Int))(A:Option Addr)(c:Nat)(w:World)(hF:av p=true)(h:oC w A rows)(hw:aQ n rows)(hel:fQ p rows)(hn:n<=1000)(hR:rows.length<=1000):
 Calls prog 174 #[.int .i64 p,.int .i64 n,.slice A rows.length c] w λe w'=>∃A' c',e=.returned (.slice A' ((ay p).aC n rows).length c')/\dU w' A' ((ay p).aC n rows)/\Ex w w':=by
 cases rows with
 |nil=>
  refine(LW p n A c w hn).mono ?_;rintro e w' ⟨rfl,rfl⟩;have e0:(ay p).aC n []=[]:=by unfold Ops.aC;rw[vg _ _ _ _ _ (axq _)];rfl
  rw[e0];exact⟨none,0,rfl,dU.nil _ _,aCQ _⟩
 |cons r rows=>exact LV p n (r::rows) A c w hF h hw hel hn hR (by simp)
theorem aa5(p:Int)(G n:Nat)(bs:List Nat)(rows:List (List Int))(R c i k:Nat)(b:Int)(w:World)(h:IM w G n bs rows)(hR:rows.length=R)(hi:i<R)(hk:k<R)(hne:i≠k)(_:R<=1000):
 Calls prog 208 #[.agg #[.int .i64 0,.int .i64 i,.int .i64 k,.int .i64 b],.int .i64 p,.slice (some ⟨G,0,none⟩) R c] w λe w'=>∃bs' ri rk,e=.returned (.tuple #[])/\rows[i]?=some ri/\rows[k]?=some rk/\IM w' G n bs' ((rows.set i rk).set k ri)/\(∀z:Nat,z∈bs'->z∈bs)/\aM G w w':=by
 obtain⟨bi,ri,ci,hci,hbi,oW,hrl,ho,hng,c0⟩:=h.at_ (j:=i) (by omega);obtain⟨bk,rk,ck,hck,hbk,hrk,hrl2,ho2,atO,c1⟩:=h.at_ (j:=k) (by omega);obtain⟨y0,d0⟩:=VB.xn w 200 #[.int .i64 0,.int .i64 i,.int .i64 k,.int .i64 b];have h':=h.ex y0;go_enter Tryz.func208,Tryz.ntmps208
 go_wp2_with fail
 generalize w.alloc (.cells #[.int .i64 0,.int .i64 i,.int .i64 k,.int .i64 b] 200)=W0 at*;have q1:=d0.c1;have q2:=d0.c2;have q0:=d0.c0;have c0':=af y0 c0;have c1':=af y0 c1;have z0:=h'.frozen i;have z1:=h'.frozen k;have HS:=axj (h'.swap hbi hbk oW hrk hci hck);have Hri:=axj oW;have Hrk:=axj hrk;have hgl:=h.lt;have hg1:¬w.heap.size=G:=by omega
 have hg2:¬G=w.heap.size:=by omega
 have hne2:¬k=i:=λe=>hne e.symm
 have hne1:¬i=k:=hne;have HB:=axj (show∀z:Nat,z∈(bs.set i bk).set k bi->z∈bs from λz hz=>by
  rcases ayZ hz with hz|rfl
  .rcases ayZ hz with hz|rfl
   .exact hz
   .exact axo hbk
  .exact axo hbi)
 clear c0 c1 h h' oW hrk hbi hbk hrl hrl2 ho ho2 hR hci hck
 go_region
 all_goals
  go_wp2_with fail
  first|rw[ayo]|skip
  refine bodyPost_end (results_none rfl _ _ _) rfl ?_;exact⟨_,ri,rk,rfl,Hri.out,Hrk.out,HS.out.ex (aCQ _).drew,HB.out,(aM.aP y0).trans (((aM.refl G _).setCell (p:=⟨G,i,none⟩) rfl _).setCell (p:=⟨G,k,none⟩) rfl _).drew⟩
theorem aa7(p:Int)(G n:Nat)(bs:List Nat)(rows:List (List Int))(R c i bi:Nat)(b o:Int)(ri:List Int)(w:World)(h:IM w G n bs rows)(hR:rows.length=R)(oW:rows[i]?=some ri)(hbi:bs[i]?=some bi)(h2:2<=p)(h97:p<=97)(hb:0<=b/\b<p)(he:aA p ri=true)(hn:n<=1000)(_:R<=1000):
 Calls prog 208 #[.agg #[.int .i64 1,.int .i64 i,.int .i64 o,.int .i64 b],.int .i64 p,.slice (some ⟨G,0,none⟩) R c] w λe w'=>e=.returned (.tuple #[])/\IM w' G n bs (rows.set i (sF p (dh p b) ri n))/\aM bi w w':=by
 have hi:i<R:=by have:=(axp.1 oW).1;omega
 obtain⟨bi',ri',ci,hci,J2,uI,hrl,ho,hng,c0⟩:=h.at_ (j:=i) (by omega);rw[oW]at uI;injection uI with uI;subst uI;rw[hbi]at J2;injection J2 with J2;subst J2;obtain⟨y0,d0⟩:=VB.xn w 200 #[.int .i64 1,.int .i64 i,.int .i64 o,.int .i64 b];have h':=h.ex y0;have hlt:=ho.lt;have o0:=ho.ex y0;have Hrl:=axj hrl;have Hbi:=axj hbi;have He:=axj he;have hib:=kS (p:=p) b h2;clear hrl hbi he ho h hR oW;go_enter Tryz.func208,Tryz.ntmps208
 go_wp2_with fail
 refine(qO p b _ h2 h97 hb).mono ?_;rintro e _ ⟨rfl,rfl⟩;generalize w.alloc (.cells #[.int .i64 1,.int .i64 i,.int .i64 o,.int .i64 b] 200)=W0 at*;obtain⟨k,hk⟩:=xq (dh p b);have Hk:=axj hk;rw[hk]at hib⊢;clear hk;have q1:=d0.c1;have c0':=af y0 c0;clear c0;go_wp2_with fail
 go_loopw [43] (λs43 wr=>∃j:Nat,j<=n/\s43=.int .i64 j/\Own wr bi (sF p k ri j)/\aM bi W0 wr) (λs43 _=>n-(intOf s43).toNat)
 case atStart=>exact⟨0,axq _,rfl,by rw[Iw];exact o0,aM.refl _ _⟩
 case round=>
  rename World=>wl;obtain⟨j,hj,rfl,hO,hk1⟩:=hrel;have g1:=aM.OL hk1 (λe=>hng e.symm) c0';have g0:=aM.OL hk1 (by omega) q1;by_cases hjn:j<n
  .obtain⟨y,hy⟩:∃y,ri[j]?=some y:=⟨_,axn (by rw[Hrl.out];exact hjn)⟩;have hyb:=bg He.out hy;have g2:=hO.cell ((TG (p:=p) (k:=k) (by rw[Hrl.out];exact hjn)).trans hy);have g3:=hO.frozen j;have HS:=axj (Iy (p:=p) (k:=k) hy);have hm:=sD (x:=y) (y:=k) ⟨by omega,by omega⟩ ⟨by omega,by omega⟩;have u2:IntKind.i64.wrap (y*k)=y*k:=axC _ (by omega);have u4:(y*k).tmod p=y*k%p:=Int.tmod_eq_emod_of_nonneg (by omega);have hp0:¬p=0:=by omega
   clear hy;go_wp2_with fail
   go_still_tail 12,(by kernel_rfl)
   change wpList _ _ _ _ _ wl.drew;go_wp2_with fail
   go_roundw;case rel=>exact⟨j+1,by omega,by go_num,by rw[<-HS.out];exact hO.drew.bC _ _,hk1.drew.setCell rfl _⟩
   case measure=>simp[intOf];omega
  .have hjj:j=n:=by omega
   subst hjj;have NY:=h'.turn Hbi.out hO (by rw[Ni (by rw[Hrl.out];exact axk _),Hrl.out]) hk1;clear h' hO o0 g1 g0;go_wp2_with fail
   first|rw[ayo]|skip
   refine bodyPost_end (results_none rfl _ _ _) rfl ?_;rw[Hk.out];exact⟨rfl,NY,(aM.aP y0).trans hk1⟩
theorem Si{u:List Int}(h:u.length=l.length):bI p u 0 (-f) l=(ay p).less u f l:=by
 apply ax_;intro j;by_cases hj:j<u.length
 .have e1:=JR (p:=p) (f:=f) (axn hj) (axn (by omega:j<l.length));rw[e1];unfold bI;rw[axw,ayO hj];show some (if 0<=j/\j-0<l.length then(cf u j+ -f*cf l (j-0))%p else cf u j)=_;rw[axl ⟨axq _,by omega⟩,Nat.sub_zero,jY (axn hj),jY (axn (by omega:j<l.length))];congr 1;rw[show u[j]+ -f*l[j]'(by omega)=u[j]-f*l[j]'(by omega) by rw[Int.neg_mul];omega];simp
 .rw[ax2 (by rw[aX];omega),ax2 (by rw[jW _ h];omega)]
theorem aa6(p:Int)(G n:Nat)(bs:List Nat)(rows:List (List Int))(R c i k bi:Nat)(b:Int)(ri rk:List Int)(w:World)(h:IM w G n bs rows)(hR:rows.length=R)(oW:rows[i]?=some ri)(hrk:rows[k]?=some rk)(hbi:bs[i]?=some bi)(hne:i≠k)(h2:2<=p)(h97:p<=97)(hb:0<=b/\b<p)(he:aA p ri=true)(he2:aA p rk=true)(hn:n<=1000)(_:R<=1000):
 Calls prog 208 #[.agg #[.int .i64 2,.int .i64 i,.int .i64 k,.int .i64 b],.int .i64 p,.slice (some ⟨G,0,none⟩) R c] w λe w'=>e=.returned (.tuple #[])/\IM w' G n bs (rows.set i ((ay p).less ri b rk))/\aM bi w w':=by
 have hi:i<R:=by have:=(axp.1 oW).1;omega
 have hk:k<R:=by have:=(axp.1 hrk).1;omega
 obtain⟨bi',ri',ci,hci,J2,uI,hrl,ho,hng,c0⟩:=h.at_ (j:=i) (by omega);rw[oW]at uI;injection uI with uI;subst uI;rw[hbi]at J2;injection J2 with J2;subst J2;obtain⟨bk,rk',ck,hck,hbk,CB,acS,hok,atN,c1⟩:=h.at_ (j:=k) (by omega);rw[hrk]at CB;injection CB with CB;subst CB;have hbb:bk≠bi:=λe=>hne (h.nd i k bi hbi (e▸hbk))
 obtain⟨y0,d0⟩:=VB.xn w 200 #[.int .i64 2,.int .i64 i,.int .i64 k,.int .i64 b];have h':=h.ex y0;have o0:=ho.ex y0;have r0:=(hok.ex y0).rd (by omega);have HA:=axj (Si (p:=p) (f:=b) (u:=ri) (l:=rk) (by omega));have cA:=uU p bi 0 n ci ri (-b) (some ⟨bk,0,none⟩) ck rk _ o0.drew (by omega) r0.drew (by omega) (λ_ a e=>by injection e with e;rw[<-e];exact hbb) h2 h97 he he2 ⟨by omega,by omega⟩;have Hl:=axj (show((ay p).less ri b rk).length=n by rw[jW _ (by omega),hrl]);have Hbi:=axj hbi;have c0':=af y0 c0;have c1':=af y0 c1;have q1:=d0.c1;have q2:=d0.c2;have q3:=d0.c3;rw[HA.out,acS]at cA;clear hrl hbi he he2 ho hok h hR oW hrk c0 c1 o0 r0 HA acS;go_enter Tryz.func208,Tryz.ntmps208
 go_wp2_with fail
 generalize w.alloc (.cells #[.int .i64 2,.int .i64 i,.int .i64 k,.int .i64 b] 200)=W0 at*
 go_still_tail 14,(by kernel_rfl)
 change wpList _ _ _ _ _ W0.drew;go_wp2_with fail
 refine cA.mono ?_;rintro e w1 ⟨rfl,o1,k1⟩;have NY:=h'.turn Hbi.out o1 Hl.out (aM.trans (aM.refl _ W0).drew k1);have kk:=aM.trans (aM.aP y0.drew) k1;clear cA h' o1 k1;go_wp2_with fail
 first|rw[ayo]|skip
 refine bodyPost_end (results_none rfl _ _ _) rfl ?_;exact⟨rfl,NY,kk⟩
theorem WQ(p:Int)(H R c i k:Nat)(b:Int)(w:World)(h:rG w H R)(hi:i<R)(hk:k<R)(hne:i≠k)(_:R<=1000):
 Calls prog 208 #[.agg #[.int .i64 0,.int .i64 i,.int .i64 k,.int .i64 b],.int .i64 p,.slice (some ⟨H,0,none⟩) R c] w λe w'=>e=.returned (.tuple #[])/\rG w' H R/\aM H w w':=by
 obtain⟨y0,d0⟩:=VB.xn w 200 #[.int .i64 0,.int .i64 i,.int .i64 k,.int .i64 b];have q1:=d0.c1;have q2:=d0.c2;have hlt:=h.lt;have h':=h.keep (y0.block hlt);have c0:=h'.cell hi;have c1:=h'.cell hk;have z0:=h'.frozen i;have z1:=h'.frozen k;have hg1:¬w.heap.size=H:=by omega
 have hg2:¬H=w.heap.size:=by omega
 have hne2:¬k=i:=λe=>hne e.symm
 go_enter Tryz.func208,Tryz.ntmps208
 go_wp2_with fail
 generalize w.alloc (.cells #[.int .i64 0,.int .i64 i,.int .i64 k,.int .i64 b] 200)=W0 at*;have hN:=((h'.set i).set k).keep (w':=((W0.setCell ⟨H,i,none⟩ (.slice none 0 0)).setCell ⟨H,k,none⟩ (.slice none 0 0)).drew) rfl;clear h h'
 go_region
 all_goals
  go_wp2_with fail
  first|rw[ayo]|skip
  refine bodyPost_end (results_none rfl _ _ _) rfl ?_;exact⟨rfl,hN,(aM.aP y0).trans (((aM.refl H _).setCell (p:=⟨H,i,none⟩) rfl _).setCell (p:=⟨H,k,none⟩) rfl _).drew⟩
theorem WO(p:Int)(H R c i:Nat)(o b:Int)(w:World)(h:rG w H R)(hi:i<R)(h2:2<=p)(h97:p<=97)(hb:0<=b/\b<p)(_:R<=1000):
 Calls prog 208 #[.agg #[.int .i64 1,.int .i64 i,.int .i64 o,.int .i64 b],.int .i64 p,.slice (some ⟨H,0,none⟩) R c] w λe w'=>e=.returned (.tuple #[])/\Ex w w':=by
 obtain⟨y0,d0⟩:=VB.xn w 200 #[.int .i64 1,.int .i64 i,.int .i64 o,.int .i64 b];have q1:=d0.c1;have h':=h.keep (y0.block h.lt);have c0:=h'.cell hi;go_enter Tryz.func208,Tryz.ntmps208
 go_wp2_with fail
 refine(qO p b _ h2 h97 hb).mono ?_;rintro e _ ⟨rfl,rfl⟩;generalize w.alloc (.cells #[.int .i64 1,.int .i64 i,.int .i64 o,.int .i64 b] 200)=W0 at*;go_wp2_with fail
 go_loopw [43] (λs43 wr=>s43=.int .i64 0/\W0=wr) (λ_ _=>0)
 case atStart=>exact⟨rfl,rfl⟩
 case round=>
  obtain⟨rfl,rfl⟩:=hrel;go_wp2_with fail
  first|rw[ayo]|skip
  refine bodyPost_end (results_none rfl _ _ _) rfl ?_;exact⟨rfl,y0⟩
theorem O0(p b:Int)(w:World):Calls prog 181 #[.int .i64 p,.slice none 0 0,.int .i64 b,.slice none 0 0] w λe w'=>e=.returned (.tuple #[])/\w=w':=by
 go_enter Tryz.func181,Tryz.ntmps181
 go_wp2;go_loopw [12] (λs12 wr=>s12=.int .i64 0/\w=wr) (λ_ _=>0)
 case atStart=>exact⟨rfl,rfl⟩
 case round=>
  obtain⟨rfl,rfl⟩:=hrel;go_wp2
  first|rw[ayo]|skip
  refine bodyPost_end (results_none rfl _ _ _) rfl ?_;exact⟨rfl,rfl⟩
theorem WN(p:Int)(H R c i k:Nat)(b:Int)(w:World)(h:rG w H R)(hi:i<R)(hk:k<R)(h2:2<=p)(h97:p<=97)(hb:0<=b/\b<p)(_:R<=1000):
 Calls prog 208 #[.agg #[.int .i64 2,.int .i64 i,.int .i64 k,.int .i64 b],.int .i64 p,.slice (some ⟨H,0,none⟩) R c] w λe w'=>e=.returned (.tuple #[])/\Ex w w':=by
 obtain⟨y0,d0⟩:=VB.xn w 200 #[.int .i64 2,.int .i64 i,.int .i64 k,.int .i64 b];have q1:=d0.c1;have q2:=d0.c2;have q3:=d0.c3;have h':=h.keep (y0.block h.lt);have c0:=h'.cell hi;have c1:=h'.cell hk;go_enter Tryz.func208,Tryz.ntmps208
 go_wp2_with fail
 generalize w.alloc (.cells #[.int .i64 2,.int .i64 i,.int .i64 k,.int .i64 b] 200)=W0 at*
 go_still_tail 14,(by kernel_rfl)
 change wpList _ _ _ _ _ W0.drew;go_wp2_with fail
 refine(O0 p (-b) _).mono ?_;rintro e _ ⟨rfl,rfl⟩;go_wp2_with fail
 first|rw[ayo]|skip
 refine bodyPost_end (results_none rfl _ _ _) rfl ?_;exact⟨rfl,y0.drew⟩
structure RW (w:World) (Z:Nat) (p:Int) (G H n R c ca xp xr xa:Nat) (bs:List Nat) (rows:List (List Int)):Prop where
 im:IM w G n bs rows
 nl:rG w H R
 bp:VB w xp 3 #[.int .i64 p]
 br:VB w xr 92 #[.slice (some ⟨G,0,none⟩) R c]
 ba:VB w xa 92 #[.slice (some ⟨H,0,none⟩) R ca]
 len:rows.length=R
 gh:G≠H
 gz:G<Z
 hz:H<Z
 bz:∀b∈bs,b<Z
 bh:∀b∈bs,b≠H
 zp:Z<=xp
 zr:Z<=xr
 za:Z<=xa
 e:fQ p rows
 h2:2<=p
 h97:p<=97
 n1:n<=1000
 r1:R<=1000
theorem RW.ex(h:RW w Z p G H n R c ca xp xr xa bs rows)(k:Ex w w'):RW w' Z p G H n R c ca xp xr xa bs rows:=
 {h with im:=h.im.ex k,nl:=h.nl.keep (k.block h.nl.lt),bp:=h.bp.ex k,br:=h.br.ex k,ba:=h.ba.ex k}
theorem RW.turn{rows':List (List Int)}(h:RW w Z p G H n R c ca xp xr xa bs rows){b:Nat}(hb:b<Z)(hbh:b≠H)(k:aM b w w')(hI:IM w' G n bs rows')(hl:rows'.length=R)(he:fQ p rows'):RW w' Z p G H n R c ca xp xr xa bs rows':=
 {h with im:=hI,nl:=h.nl.keep (k.block H h.nl.lt (λe=>by injection e with e;exact hbh e.symm)),bp:=h.bp.aK k (by have:=h.zp;omega),br:=h.br.aK k (by have:=h.zr;omega),ba:=h.ba.aK k (by have:=h.za;omega),len:=hl,e:=he}
theorem RW.along(h:RW w Z p G H n R c ca xp xr xa bs rows)(k:aM H w w')(hN:rG w' H R):RW w' Z p G H n R c ca xp xr xa bs rows:=
 {h with im:=h.im.keep (λq hq hc=>k.block q hq (λe=>by
  injection e with e;rcases hc with hc|⟨j,hj⟩
  .exact h.gh (hc▸e)
  .exact h.bh q (axo hj) e)),nl:=hN,bp:=h.bp.aK k (by have:=h.zp;have:=h.hz;omega),br:=h.br.aK k (by have:=h.zr;have:=h.hz;omega),ba:=h.ba.aK k (by have:=h.za;have:=h.hz;omega)}
theorem acy{k:Int}(hp:0<p)(h:aA p v=true):aA p (sF p k v n)=true:=ji λi x hx=>by
 unfold sF at hx;rw[ay1]at hx;split at hx
 .rw[axL]at hx;split at hx
  .rw[axw]at hx;cases hv:v[i]? with
   |none=>rw[hv]at hx;cases hx
   |some y=>rw[hv]at hx;injection hx with hx;rw[<-hx];exact⟨ayh _ (by omega),ayi _ hp⟩
  .cases hx
 .rw[axY]at hx;exact bg h hx
theorem ab1(h:RW w Z p G H n R c ca xp xr xa bs rows)(i bi:Nat)(b:Int)(ri:List Int)(oW:rows[i]?=some ri)(hbi:bs[i]?=some bi)(hb:0<=b/\b<p):
 Calls prog 207 #[.agg #[.int .i64 1,.int .i64 i,.int .i64 0,.int .i64 b],.pointer (some ⟨xp,0,none⟩),.pointer (some ⟨xr,0,none⟩),.pointer (some ⟨xa,0,none⟩)] w λe w'=>e=.returned (.tuple #[])/\RW w' Z p G H n R c ca xp xr xa bs (rows.set i (sF p (dh p b) ri n))/\aM bi w w':=by
 have hi:i<R:=by have:=(axp.1 oW).1;have:=h.len;omega
 have hrl:=(h.im.row i bi ri hbi oW).2;have hre:=h.e ri (axo oW);have hbz:=h.bz bi (axo hbi);have hbh:=h.bh bi (axo hbi);have hbw:=(h.im.row i bi ri hbi oW).1.lt;have HE:=axj (show fQ p (rows.set i (sF p (dh p b) ri n))from λr hr=>by
  rcases ayZ hr with hr|rfl
  .exact h.e r hr
  .exact acy (by have:=h.h2;omega) hre)
 obtain⟨y0,d0⟩:=VB.xn w 200 #[.int .i64 1,.int .i64 i,.int .i64 0,.int .i64 b];have h':=h.ex y0;have cA:=aa7 p G n bs rows R c i bi b 0 ri _ h'.im h.len oW hbi h.h2 h.h97 hb hre h.n1 h.r1;have hp:=h'.bp.c0;have hr:=h'.br.c0;have q1:=d0.c1;go_enter Tryz.func207,Tryz.ntmps207
 go_wp2_with fail
 generalize w.alloc (.cells #[.int .i64 1,.int .i64 i,.int .i64 0,.int .i64 b] 200)=W0 at*;refine cA.mono ?_;rintro e w1 ⟨rfl,hI,k1⟩;have hW1:=h'.turn hbz hbh k1 hI (by rw[axM];exact h.len) HE.out;have hp1:=hW1.bp.c0;have ha1:=hW1.ba.c0;have d1:=d0.aK k1 (by omega);obtain⟨u0,u1,u2,u3⟩:=d1.d4;clear cA h' hp hr q1;go_wp2_with fail
 refine(WO p H R ca i 0 b w1 hW1.nl hi h.h2 h.h97 hb h.r1).mono ?_;rintro e w2 ⟨rfl,x2⟩;go_wp2_with fail
 first|rw[ayo]|skip
 refine bodyPost_end (results_none rfl _ _ _) rfl ?_;exact⟨rfl,hW1.ex x2,((aM.aP y0).trans k1).trans (aM.aP x2)⟩
theorem ab0(h:RW w Z p G H n R c ca xp xr xa bs rows)(i k bi:Nat)(b:Int)(ri rk:List Int)(oW:rows[i]?=some ri)(hrk:rows[k]?=some rk)(hbi:bs[i]?=some bi)(hne:i≠k)(hb:0<=b/\b<p):
 Calls prog 207 #[.agg #[.int .i64 2,.int .i64 i,.int .i64 k,.int .i64 b],.pointer (some ⟨xp,0,none⟩),.pointer (some ⟨xr,0,none⟩),.pointer (some ⟨xa,0,none⟩)] w λe w'=>e=.returned (.tuple #[])/\RW w' Z p G H n R c ca xp xr xa bs (rows.set i ((ay p).less ri b rk))/\aM bi w w':=by
 have hi:i<R:=by have:=(axp.1 oW).1;have:=h.len;omega
 have hk:k<R:=by have:=(axp.1 hrk).1;have:=h.len;omega
 have hrl:=(h.im.row i bi ri hbi oW).2;have hre:=h.e ri (axo oW);have hke:=h.e rk (axo hrk);have hkl:rk.length=n:=by obtain⟨_,rk',_,_,_,q1,q2,_⟩:=h.im.at_ (axp.1 hrk).1;rw[hrk]at q1;injection q1 with q1;rw[q1];exact q2
 have hbz:=h.bz bi (axo hbi);have hbh:=h.bh bi (axo hbi);have hbw:=(h.im.row i bi ri hbi oW).1.lt;have HE:=axj (show fQ p (rows.set i ((ay p).less ri b rk))from λr hr=>by
  rcases ayZ hr with hr|rfl
  .exact h.e r hr
  .exact TJ (by have:=h.h2;omega) (by rw[hrl,hkl]))
 obtain⟨y0,d0⟩:=VB.xn w 200 #[.int .i64 2,.int .i64 i,.int .i64 k,.int .i64 b];have h':=h.ex y0;have cA:=aa6 p G n bs rows R c i k bi b ri rk _ h'.im h.len oW hrk hbi hne h.h2 h.h97 hb hre hke h.n1 h.r1;have hp:=h'.bp.c0;have hr:=h'.br.c0;have q1:=d0.c1;go_enter Tryz.func207,Tryz.ntmps207
 go_wp2_with fail
 generalize w.alloc (.cells #[.int .i64 2,.int .i64 i,.int .i64 k,.int .i64 b] 200)=W0 at*;refine cA.mono ?_;rintro e w1 ⟨rfl,hI,k1⟩;have hW1:=h'.turn hbz hbh k1 hI (by rw[axM];exact h.len) HE.out;have hp1:=hW1.bp.c0;have ha1:=hW1.ba.c0;have d1:=d0.aK k1 (by omega);obtain⟨u0,u1,u2,u3⟩:=d1.d4;clear cA h' hp hr q1;go_wp2_with fail
 refine(WN p H R ca i k b w1 hW1.nl hi hk h.h2 h.h97 hb h.r1).mono ?_;rintro e w2 ⟨rfl,x2⟩;go_wp2_with fail
 first|rw[ayo]|skip
 refine bodyPost_end (results_none rfl _ _ _) rfl ?_;exact⟨rfl,hW1.ex x2,((aM.aP y0).trans k1).trans (aM.aP x2)⟩
theorem RW.swap{bs':List Nat}{rows':List (List Int)}(h:RW w Z p G H n R c ca xp xr xa bs rows)(k:aM G w w')(hI:IM w' G n bs' rows')(hb:∀b∈bs',b∈bs)(hl:rows'.length=R)(he:fQ p rows'):RW w' Z p G H n R c ca xp xr xa bs' rows':=
 {h with im:=hI,nl:=h.nl.keep (k.block H h.nl.lt (λe=>by injection e with e;exact h.gh e.symm)),bp:=h.bp.aK k (by have:=h.zp;have:=h.gz;omega),br:=h.br.aK k (by have:=h.zr;have:=h.gz;omega),ba:=h.ba.aK k (by have:=h.za;have:=h.gz;omega),bz:=λb hb'=>h.bz b (hb b hb'),bh:=λb hb'=>h.bh b (hb b hb'),len:=hl,e:=he}
theorem abZ(h:RW w Z p G H n R c ca xp xr xa bs rows)(i k:Nat)(ri rk:List Int)(oW:rows[i]?=some ri)(hrk:rows[k]?=some rk)(hne:i≠k):
 Calls prog 207 #[.agg #[.int .i64 0,.int .i64 i,.int .i64 k,.int .i64 0],.pointer (some ⟨xp,0,none⟩),.pointer (some ⟨xr,0,none⟩),.pointer (some ⟨xa,0,none⟩)] w λe w'=>e=.returned (.tuple #[])/\∃bs',RW w' Z p G H n R c ca xp xr xa bs' ((rows.set i rk).set k ri)/\(∀b∈bs',b∈bs)/\bG (λz=>z=G∨z=H) w w':=by
 have hi:i<R:=by have:=(axp.1 oW).1;have:=h.len;omega
 have hk:k<R:=by have:=(axp.1 hrk).1;have:=h.len;omega
 have hgl:=h.im.lt;have hhl:=h.nl.lt;have HE:=axj (show fQ p ((rows.set i rk).set k ri)from λr hr=>by
  rcases ayZ hr with hr|rfl
  .rcases ayZ hr with hr|rfl
   .exact h.e r hr
   .exact h.e _ (axo hrk)
  .exact h.e _ (axo oW))
 obtain⟨y0,d0⟩:=VB.xn w 200 #[.int .i64 0,.int .i64 i,.int .i64 k,.int .i64 0];have h':=h.ex y0;have cA:=aa5 p G n bs rows R c i k 0 _ h'.im h.len hi hk hne h.r1;have hp:=h'.bp.c0;have hr:=h'.br.c0;have q1:=d0.c1;have hik:¬(k=i):=λe=>hne e.symm
 go_enter Tryz.func207,Tryz.ntmps207
 go_wp2_with fail
 generalize w.alloc (.cells #[.int .i64 0,.int .i64 i,.int .i64 k,.int .i64 0] 200)=W0 at*;refine cA.mono ?_;rintro e w1 ⟨bs',ri',rk',rfl,hr1,hr2,hI,hbb,k1⟩;rw[oW]at hr1;injection hr1 with hr1;subst hr1;rw[hrk]at hr2;injection hr2 with hr2;subst hr2;have hW1:=h'.swap k1 hI hbb (by rw[axM,axM];exact h.len) HE.out;have hp1:=hW1.bp.c0;have ha1:=hW1.ba.c0;have d1:=d0.aK k1 (by omega);obtain⟨u0,u1,u2,u3⟩:=d1.d4;clear cA h' hp hr q1;go_wp2_with fail
 refine(WQ p H R ca i k 0 w1 hW1.nl hi hk hne h.r1).mono ?_;rintro e w2 ⟨rfl,hN,k2⟩;have hW2:=hW1.along k2 hN;go_wp2_with fail
 first|rw[ayo]|skip
 refine bodyPost_end (results_none rfl _ _ _) rfl ?_;refine⟨rfl,bs',hW2,hbb,?_⟩;exact((bG.aZ (S:=λz=>z=G∨z=H) (aM.aP y0) (.inl rfl)).trans (bG.aZ (S:=λz=>z=G∨z=H) k1 (.inl rfl)) (λ_ _ h=>h)).trans (bG.aZ (S:=λz=>z=G∨z=H) k2 (.inr rfl)) (λ_ _ h=>h)
theorem XT(i:Nat)(P1 P2 P3:Value)(w:World):
 Calls prog 207 #[.agg #[.int .i64 0,.int .i64 i,.int .i64 i,.int .i64 0],P1,P2,P3] w λe w'=>e=.returned (.tuple #[])/\Ex w w':=by
 have y0:=(aCQ w).alloc (.cells #[.int .i64 0,.int .i64 i,.int .i64 i,.int .i64 0] 200);go_enter Tryz.func207,Tryz.ntmps207
 go_wp2_with fail
 first|rw[ayo]|skip
 refine axu (results_none rfl _ _ _) rfl ?_;exact⟨rfl,y0⟩
theorem MG(w0 w:World)(p:Int)(G H n R cG cH:Nat)(bs:List Nat)(rows:List (List Int))(hF:av p=true)(him:IM w G n bs rows)(hnl:rG w H R)(hlen:rows.length=R)(gh:G≠H)(bh:∀b∈bs,b≠H)(hw:aQ n rows)(he:fQ p rows)(hn:n<=1000)(hR:R<=1000)(x0:Ex w0 w)(g0:w0.heap.size<=G)(h0:w0.heap.size<=H)(b0:∀b∈bs,w0.heap.size<=b):
 Calls prog 189 #[.int .i64 p,.slice (some ⟨G,0,none⟩) R cG,.int .i64 n,.slice (some ⟨H,0,none⟩) R cH] w λe w'=>∃bs',e=.returned (.int .i64 ((ay p).red n 0 0 rows).2)/\IM w' G n bs' ((ay p).red n 0 0 rows).1/\((ay p).red n 0 0 rows).1.length=R/\((ay p).red n 0 0 rows).2<=R/\Ex w0 w':=by
 have h2:=ax hF;have h97:=aT hF;obtain⟨FIN,qR⟩:=xq ((ay p).red n 0 0 rows);have HF:=axj hF;have HFI:=axj qR;have dN:=axj (show(ay p).red (n-0) 0 0 rows=FIN from qR);have HW0:=axj hw;have HB0:=axj b0;rw[qR];have hbl:∀b∈bs,b<w.heap.size:=λb hb=>by obtain⟨j,hj⟩:=axz hb;have hjl:=(axp.1 hj).1;exact(him.row j b _ hj (axn (by rw[<-him.len];exact hjl))).1.lt
 obtain⟨W1,hW1,y1,v1,s1⟩:=VB.an w 3 #[.int .i64 p] rfl;obtain⟨y2,v2,W2,hW2⟩:=VB.al W1 92 #[.slice (some ⟨G,0,none⟩) R cG];have s2:(W1.alloc (.cells #[.slice (some ⟨G,0,none⟩) R cG] 92)).heap.size=w.heap.size+2:=by simp;omega
 rw[hW2]at y2 v2 s2;obtain⟨y3,v3,W3,hW3⟩:=VB.al W2 92 #[.slice (some ⟨H,0,none⟩) R cH];rw[hW3]at y3 v3;have yy:=(y1.trans y2).trans y3;have HRW:RW W3 w.heap.size p G H n R cG cH w.heap.size W1.heap.size W2.heap.size bs rows:=
  {im:=him.ex yy,nl:=hnl.keep (yy.block hnl.lt),bp:=(v1.ex y2).ex y3,br:=v2.ex y3,ba:=v3,len:=hlen,gh:=gh,gz:=him.lt,hz:=hnl.lt,bz:=hbl,bh:=bh,zp:=axk _,zr:=by omega,za:=by omega,e:=he,h2:=h2,h97:=h97,n1:=hn,r1:=hR}
 have xx:=x0.trans yy;clear y1 y2 y3 v1 v2 v3 s1 s2 him hnl hbl qR hF hw he b0 bh hlen;go_enter Tryz.func189,Tryz.ntmps189
 go_wp2_with fail
 clear hW1 hW2 hW3 yy;generalize W1.heap.size=xr at*;generalize W2.heap.size=xa at*;obtain⟨xp,hxp⟩:=xq w.heap.size;rw[hxp]at HRW⊢;clear hxp x0;obtain⟨ZZ,hZZ⟩:=xq xp;have ak5:RW W3 ZZ p G H n R cG cH xp xr xa bs rows:=by rw[<-hZZ];exact HRW
 clear HRW hZZ;go_loopw [9,11] (λs9 s11 wr=>∃(c r:Nat) (Z:List (List Int)) (bs:List Nat),c<=n/\s9=.int .i64 r/\s11=.int .i64 c/\RW wr ZZ p G H n R cG cH xp xr xa bs Z/\Hid (aQ n Z)/\r<=R/\Hid ((ay p).red (n-c) c r Z=FIN)/\Hid (∀b∈bs,w0.heap.size<=b)/\Ex w0 wr) (λ_ s11 _=>n-(intOf s11).toNat)
 case atStart=>exact⟨0,0,rows,bs,axq _,rfl,rfl,ak5,HW0,axq _,dN,HB0,xx⟩
 case round=>
  rename World=>wi;clear ak5 HW0 dN HB0 xx;obtain⟨c,r,Z,bs,hcn,rfl,rfl,hM,HW,JW,dN,HB,he⟩:=hrel;have hbr:=hM.br.c0;have HZ:=axj hM.len;have HE:=axj hM.e;by_cases hlt:c<n/\r<R;case neg=>
   have HEq:=axj (show FIN=(Z,r) by
    rw[<-dN.out];by_cases e:c<n
    .exact vg _ _ _ _ _ (by rw[HZ.out];omega)
    .rw[show n-c=0 by omega];rfl)
   by_cases e:c<n
   .have e2:¬r<R:=λe2=>hlt ⟨e,e2⟩
    clear hlt dN;go_wp2_with fail
    go_ret;rw[HEq.out];exact⟨bs,rfl,hM.im,HZ.out,JW,he⟩
   .clear hlt dN;go_wp2_with fail
    go_ret;rw[HEq.out];exact⟨bs,rfl,hM.im,HZ.out,JW,he⟩
  obtain⟨hc1,hr1⟩:=hlt;go_wp2_with fail
  go_loopw [12] (λs12 wr=>∃t:Nat,r<=t/\t<=R/\s12=.int .i64 t/\Hid (∀(i:Nat) (v:List Int),r<=i->i<t->Z[i]?=some v->(ay p).kZ ((ay p).el v c)=true)/\wi=wr) (λs12 _=>R-(intOf s12).toNat)
  case atStart=>exact⟨r,axk _,JW,rfl,axj (λi v h1 h2=>by omega),rfl⟩
  case round=>
   obtain⟨t,hrt,htR,rfl,Hz,rfl⟩:=hrel;by_cases htl:t<R
   .obtain⟨bt,zt,ct,hct,hbt,Gq,Cm,hot,an8,et⟩:=hM.im.at_ (by rw[HZ.out];exact htl);obtain⟨x,hx⟩:∃x,zt[c]?=some x:=⟨_,axn (by rw[Cm];exact hc1)⟩;have ec:=hot.cell hx;have CR:=axj (show(ay p).el zt c=x from(ay p).dD hx);have KQ:=axj Gq;have Hx:=axj hx;have O6:=axj Cm;have adP:=axj (HE.out zt (axo Gq));have hxb:=bg adP.out hx;clear Gq hx Cm;by_cases hx0:x=0
    .have Hx0:=axj hx0;have hxe:(x==0)=true:=by rw[hx0];rfl
     clear hx0 hxb;go_wp2_with fail
     go_roundw;case rel=>exact⟨t+1,by omega,by omega,by go_num,axj (λi v h1 h2 h3=>by
      by_cases e:i=t
      .subst e;rw[KQ.out]at h3;injection h3 with h3;rw[<-h3,CR.out,rU,Hx0.out];rfl
      .exact Hz.out i v h1 (by omega) h3),trivial⟩
     case measure=>simp[intOf];omega
    .have hxe:(x==0)=false:=by simp;exact hx0
     have Px:=ad8 (O:=ay p) hrt (λi v h1 h2 h3=>Hz.out i v h1 h2 h3) KQ.out (by rw[CR.out,rU];simpa using hx0);have HFk:=axj (show(ay p).red (n-(c+1)) (c+1) (r+1) ((ay p).piv Z r c t)=FIN by rw[<-dN.out,show n-c=(n-(c+1))+1 by omega,Ops.red,Px,axl (by rw[HZ.out];exact htl)]);obtain⟨br,zr,cr,hcr,an_,wR,am9,hor,an9,er⟩:=hM.im.at_ (by rw[HZ.out];exact hr1);have hZ2:((Z.set r zt).set t zr)[r]?=some zt:=by
      rw[axK];by_cases e:t=r
      .rw[axl e,axl (by rw[axM,HZ.out];exact htl)];have:=KQ.out;rw[e,wR]at this;exact this
      .rw[axm e,axK,axl rfl,axl (by rw[HZ.out];exact hr1)]
     have cX:Calls prog 207 #[.agg #[.int .i64 0,.int .i64 r,.int .i64 t,.int .i64 0],.pointer (some ⟨xp,0,none⟩),.pointer (some ⟨xr,0,none⟩),.pointer (some ⟨xa,0,none⟩)] wi λe w'=>e=.returned (.tuple #[])/\∃bs',RW w' ZZ p G H n R cG cH xp xr xa bs' ((Z.set r zt).set t zr)/\(∀b∈bs',b∈bs)/\Ex w0 w':=by
      by_cases e:r=t
      .subst e;have hv:(Z.set r zt).set r zr=Z:=by
        rw[ay9];apply ax_;intro q;rw[axK];split
        .rename_i e;subst e;rw[axl (by rw[HZ.out];exact hr1),wR]
        .rfl
       rw[hv];refine(XT r _ _ _ wi).mono ?_;rintro _ w' ⟨rfl,x⟩;exact⟨rfl,bs,hM.ex x,λ_ h=>h,he.trans x⟩
      .refine(abZ hM r t zr zt wR KQ.out e).mono ?_;rintro _ w' ⟨rfl,bs',h1,h2,h3⟩;exact⟨rfl,bs',h1,h2,he.sx h3 (λz hz=>by rcases hz with rfl|rfl<;>omega)⟩
     have HSW:=axj (show∀l,((Z.set r zt).set t zr).set r l=(Z.set t zr).set r l from λl=>H_ KQ.out wR);have G7:=axj (λ(k:Nat) (u:List Int)=>Qc (O:=ay p) (c:=c) KQ.out wR (k:=k) (u:=u));have HTW:=axj (show aQ n ((ay p).piv Z r c t)from HW.out.piv (by rw[HZ.out];exact hr1) (by rw[HZ.out];exact htl));have xR:=axj (show((ay p).piv Z r c t).length=R by rw[eH,HZ.out]);have HZ2:=axj hZ2;have Hzr:=axj wR;have htb:((t:Int)==(R:Int))=false:=by simp;omega
     clear Px hZ2 hbt an_ wR hx0 dN er hcr;go_wp2_with fail
     refine cX.mono ?_;rintro e w1 ⟨rfl,Xn,hM2,hbb,he2⟩;have HB2:=axj (show∀b∈Xn,w0.heap.size<=b from λb hb=>HB.out b (hbb b hb));clear cX hM hbr et ec hot HB hbb;have hb2:=hM2.br.c0;obtain⟨b1,z1,c1,_,hb1,hz1,_,hO1,ajP,e1⟩:=hM2.im.at_ (j:=r) (by rw[hM2.len];exact hr1);rw[HZ2.out]at hz1;injection hz1 with hz1;subst hz1;have e2:=hO1.cell Hx.out;have cD:=ab1 hM2 r b1 x zt HZ2.out hb1 hxb;have ajN:w0.heap.size<=b1:=HB2.out _ (axo hb1);obtain⟨L,hL⟩:=xq (sF p (dh p x) zt n);have HLL:=axj (show(ay p).oJ zt c=L by rw[<-hL,<-Nj Hx.out,O6.out]);rw[hL,HSW.out]at cD;rw[HLL.out]at G7;have Lj:=axj (show L.length=n by rw[<-hL,Ni (by rw[O6.out];exact axk _),O6.out]);clear hL hM2 hO1;go_wp2_with fail
     refine cD.mono ?_;rintro e w3 ⟨rfl,NY,k3⟩;have x3:=he2.aK k3 ajN;clear cD hb2 e1 e2 k3 he2 ajN;have mR:=axj (show((Z.set t zr).set r L).length=R by rw[axM,axM,HZ.out]);have KU:=axj (show((Z.set t zr).set r L)[r]?=some L by rw[axK,axl rfl,axl (by rw[axM,HZ.out];exact hr1)]);have abf:=axj (show∀(k:Nat) (u:List Int),k≠r->((Z.set t zr).set r L)[k]?=some u->u∈Z from λk u h1 h3=>Ju Hzr.out h1 h3);generalize(Z.set t zr).set r L=Z1 at*;generalize(ay p).piv Z r c t=T at*;have HTr:=axj (show T[r]?=some L by rw[G7.out r L KU.out,axl rfl]);have hb3:=NY.br.c0;go_wp2_with fail
     go_loopw [65] (λs65 wr=>∃i:Nat,i<=R/\s65=.int .i64 i/\RW wr ZZ p G H n R cG cH xp xr xa Xn (T.take i++Z1.drop i)/\Ex w0 wr) (λs65 _=>R-(intOf s65).toNat)
     case atStart=>exact⟨0,axq _,rfl,by simpa using NY,x3⟩
     case round=>
      rename World=>wm;clear NY x3 hb3;obtain⟨i,hi,rfl,z_,hem⟩:=hrel;by_cases hiR:i<R
      .obtain⟨u,hu⟩:∃u,Z1[i]?=some u:=⟨_,axn (by rw[mR.out];exact hiR)⟩;have hmu:(T.take i++Z1.drop i)[i]?=some u:=by
        rw[TH T Z1 (by rw[xR.out,mR.out]) i (by rw[mR.out];exact hiR)];exact hu
       have HTk:=axj (G7.out i u hu);have hbm:=z_.br.c0;by_cases hir:i=r
       .have hnb:((i:Int) !=(r:Int))=false:=by simp;omega
        have Pg:=axj (vU T Z1 (by rw[xR.out,mR.out]) i L (by rw[HTk.out,axl hir]) (by rw[hir];exact KU.out));clear hir hu hmu;go_wp2_with fail
        go_roundw;case rel=>exact⟨i+1,by omega,by go_num,by rw[<-Pg.out];exact z_,hem⟩
        case measure=>simp[intOf];omega
       .have hnb:((i:Int) !=(r:Int))=true:=by simp;omega
        obtain⟨b5,u',c5,Xh,hb5,hu',zY,hO5,agz,e5⟩:=z_.im.at_ (j:=i) (by have:=(axp.1 hmu).1;exact this);rw[hmu]at hu';injection hu' with hu';subst hu';obtain⟨y,hy⟩:∃y,u[c]?=some y:=⟨_,axn (by rw[zY];exact hc1)⟩;have ey:=hO5.cell hy;have ZE:=axj (show(ay p).el u c=y from(ay p).dD hy);have hyb:=bg (HE.out u (abf.out i u hir hu)) hy;have O8:=axj (show T[i]?=some (if y=0 then u else(ay p).less u y L) by
         rw[HTk.out,axm hir,ZE.out,rU];simp)
        by_cases hy0:y=0
        .have hye:(y !=0)=false:=by rw[hy0];rfl
         have Pg:=axj (vU T Z1 (by rw[xR.out,mR.out]) i u (by rw[O8.out,axl hy0]) hu);clear hir hu hmu hy hy0 zY;go_wp2_with fail
         go_roundw;case rel=>exact⟨i+1,by omega,by go_num,by rw[<-Pg.out];exact z_,hem⟩
         case measure=>simp[intOf];omega
        .have hye:(y !=0)=true:=by simp;exact hy0
         have Pg:=axj (Nk T Z1 (by rw[xR.out,mR.out]) i ((ay p).less u y L) (by rw[O8.out,axm hy0]));have hmr:=Nl (i:=i) (by rw[xR.out,mR.out]) HTr.out KU.out;have cS:=ab0 z_ i r b5 y u L hmu hmr hb5 hir hyb;have aob:w0.heap.size<=b5:=HB2.out _ (axo hb5);rw[Pg.out]at cS;clear hir hu hmu hy hy0 zY hmr;go_wp2_with fail
         refine cS.mono ?_;rintro e w7 ⟨rfl,hM7,k7⟩;have x7:=hem.aK k7 aob;clear cS z_ e5 ey hbm;go_wp2_with fail
         go_roundw;case rel=>exact⟨i+1,by omega,by go_num,hM7,x7⟩
         case measure=>simp[intOf];omega
      .obtain rfl:i=R:=by omega
       rw[axG (by rw[xR.out];exact axk _),ay0 (by rw[mR.out];exact axk _),ax8]at z_;go_wp2_with fail
       go_roundw;case rel=>exact⟨c+1,r+1,T,Xn,by omega,by go_num,by go_num,z_,HTW,by omega,HFk,HB2,hem⟩
       case measure=>simp[intOf];omega
   .have hRt:t=R:=by omega
    subst hRt;have HN:=axj (ad7 (O:=ay p) (by rw[HZ.out];exact JW) (λi v h1 h2 h3=>Hz.out i v h1 (by rw[<-HZ.out];exact h2) h3));have HFk:=axj (show(ay p).red (n-(c+1)) (c+1) r Z=FIN by rw[<-dN.out,show n-c=(n-(c+1))+1 by omega,Ops.red,axm HN.out]);clear Hz HN;go_wp2_with fail
    go_roundw;case rel=>exact⟨c+1,r,Z,bs,by omega,rfl,by go_num,hM,HW,JW,HFk,HB,he⟩
    case measure=>simp[intOf];omega
section
theorem Ux(v:List {a:Int // iF p a=true}):aA p (v.map Subtype.val)=true:=by unfold aA;rw[axQ];intro x hx;obtain⟨y,_,rfl⟩:=axr.1 hx;exact y.2
theorem EO(h:fQ p rows):∃u:List (List {a:Int // iF p a=true}),rows=dO Subtype.val u:=BK (P:=λa=>iF p a=true) rows λv hv x hx=>by have:=h v hv;unfold aA at this;exact axQ.1 this x hx
theorem SA(hF:av p=true)(hel:fQ p rows)(hw:aQ n rows):aQ n ((ay p).aC n rows)/\(∀r∈(ay p).aC n rows,(ay p).lead r<n)/\fQ p ((ay p).aC n rows)/\((ay p).aC n rows).length<=n:=by
 obtain⟨u,rfl⟩:=EO hel;have hwu:=aQ.dO.1 hw;rw[(kX p hF).aC];have hI:=dL (aD p hF) hwu;refine⟨aQ.dO.2 hI.1,λr hr=>?_,λr hr=>?_,by rw[dO,axs];exact uq _ hI⟩
 .obtain⟨v,hv,rfl⟩:=axr.1 hr;obtain⟨t,ht⟩:=axz hv;obtain⟨hW,P,hE⟩:=hI;obtain⟨q,_,e,hq⟩:=hE.lead hW ht;rw[(kX p hF).lead,e];exact hq
 .obtain⟨v,hv,rfl⟩:=axr.1 hr;exact Ux v
theorem abM(hF:av p=true)(hel:fQ p M):fQ p ((ay p).uz n M):=by obtain⟨u,rfl⟩:=EO hel;rw[(kX p hF).uz];intro v hv;obtain⟨x,_,rfl⟩:=axr.1 hv;exact Ux x
variable {K : Type}
def Ops.kQ(O:Ops K)(n:Nat)(R:List (List K))(k:Nat):List (List K):=((range k).filter λj=>R.all λr=>O.lead r !=j).map (O.fT n R)
theorem Qx{O:Ops K}{R:List (List K)}(h:∀r∈R,O.lead r≠k):O.kQ n R (k+1)=O.kQ n R k++[O.fT n R k]:=by
 unfold Ops.kQ;rw[azN,List.filter_append,ax4];congr 1;have:(R.all λr=>O.lead r !=k)=true:=by rw[axQ];intro r hr;exact bne_iff_ne.2 (h r hr)
 rw[List.filter_cons,this];rfl
theorem Vo{O:Ops K}{R:List (List K)}{r:List K}(hr:r∈R)(h:O.lead r=k):O.kQ n R (k+1)=O.kQ n R k:=by
 unfold Ops.kQ;rw[azN,List.filter_append,ax4];have:(R.all λr=>O.lead r !=k)=false:=by rw[<-Bool.not_eq_true,axQ];intro h2;have:=h2 r hr;rw[h]at this;simp at this
 rw[List.filter_cons,this];simp
theorem xD{O:Ops K}{R:List (List K)}(k:Nat):(O.kQ n R k).length<=k:=by unfold Ops.kQ;rw[axs];exact axA (List.length_filter_le _ _) (by simp)
theorem Vr{O:Ops K}{R:List (List K)}{r:List K}{v:List K}(hr:R[i]?=some r):(O.iD (R.take i) j v).set (O.lead r) (O.neg (O.el r j))=O.iD (R.take (i+1)) j v:=by unfold Ops.iD;rw[axy,hr,Option.toList,azg];rfl
theorem Ll(hk:k<=v.length)(h0:∀i x,i<k->v[i]?=some x->x=0)(h1:∀x,v[k]?=some x->x≠0):(ay p).lead v=k:=by
 unfold Ops.lead;rcases ax9 k v.length with h|h
 .rw[azO h];refine⟨?_,λj hj=>?_⟩
  .have:=h1 _ (axn h);rw[rU];simpa using this
  .have:=h0 j _ hj (axn (by omega));rw[rU,this];rfl
 .obtain rfl:k=v.length:=by omega
  rw[aAc];intro x hx;obtain⟨i,hi⟩:=axz hx;rw[rU,h0 i x (axp.1 hi).1 hi];rfl
theorem Kr(p a:Int)(w:World)(h2:2<=p)(h97:p<=97)(ha:0<=a/\a<p):Calls prog 197 #[.int .i64 p,.int .i64 a] w λe w'=>e=.returned (.int .i64 ((ay p).neg a))/\w=w':=by
 have e:(ay p).neg a=(p-a)%p:=by show(-a)%p=_;rw[show p-a= -a+p by omega,Int.add_emod_right]
 rw[e];clear e;go_enter Tryz.func197,Tryz.ntmps197
 go_wp2;go_ret;exact⟨by simp,rfl⟩
theorem L6(p:Int)(v:List Int)(A:Option Addr)(c:Nat)(w:World)(h:Rd w A v):
 Calls prog 198 #[.slice A v.length c] w λe w'=>e=.returned (.int .i64 ((ay p).lead v))/\w=w':=by
 have hl:=h.len;go_enter Tryz.func198,Tryz.ntmps198
 go_wp2_with fail
 go_loopw [3] (λs3 wr=>∃k:Nat,k<=v.length/\s3=.int .i64 k/\Hid (∀i x,i<k->v[i]?=some x->x=0)/\w=wr) (λs3 _=>v.length-(intOf s3).toNat)
 case atStart=>exact⟨0,axq _,rfl,axj (λi x h=>by omega),rfl⟩
 case round=>
  obtain⟨k,hk,rfl,H0,rfl⟩:=hrel;by_cases hkl:k<v.length
  .obtain⟨g,off,x,rfl,hx,hg,hc⟩:=h.at_ hkl;have Hx:=axj hx;clear hx;by_cases hx0:x=0
   .have hxe:(x==0)=true:=by rw[hx0];rfl
    have Hx0:=axj hx0;clear hx0;go_wp2_with fail
    go_roundw;case rel=>exact⟨k+1,by omega,by go_num,axj (λi y h1 h2=>by
     by_cases e:i=k
     .subst e;rw[Hx.out]at h2;injection h2 with h2;rw[<-h2];exact Hx0.out
     .exact H0.out i y (by omega) h2),trivial⟩
    case measure=>simp[intOf];omega
   .have hxe:(x==0)=false:=by simp;exact hx0
    have HL:=axj (Ll (p:=p) hk H0.out (λy hy=>by rw[Hx.out]at hy;injection hy with hy;rw[<-hy];exact hx0));clear hx0;go_wp2_with fail
    go_ret;exact⟨by rw[HL.out];rfl,rfl⟩
  .have HL:=axj (Ll (p:=p) hk H0.out (λy hy=>by have:=(axp.1 hy).1;omega));have hkk:k=v.length:=by omega
   subst hkk;go_wp2_with fail
   go_ret;exact⟨by rw[HL.out];rfl,rfl⟩
end
def LA(p:Int)(n:Nat)(M:List (List Int))(i:Nat)(la:List Int):Prop:=
 la.length=n/\∀(j:Nat) (x:Int),la[j]?=some x->(-1<=x/\x<=1000)/\(0<=x↔∃(i':Nat) (r:List Int),i'<i/\M[i']?=some r/\(ay p).lead r=j)
theorem LA.zero{la:List Int}(hl:la.length=n)(h:∀(j:Nat) (x:Int),la[j]?=some x->x= -1):LA p n M 0 la:=
 ⟨hl,λj x hj=>by
  have:=h j x hj;subst this;exact⟨⟨by omega,by omega⟩,⟨λe=>by omega,λ⟨_,_,e,_⟩=>by omega⟩⟩⟩
theorem LA.succ{la:List Int}{r:List Int}(h:LA p n M i la)(hr:M[i]?=some r)(hi:i<=1000):LA p n M (i+1) (la.set ((ay p).lead r) i):=by
 refine⟨by rw[axM];exact h.1,λj x hj=>?_⟩;rw[axK]at hj;split at hj
 .rename_i e;split at hj
  .injection hj with hj;subst hj;exact⟨⟨by omega,by omega⟩,⟨λ_=>⟨i,r,by omega,hr,e⟩,λ_=>by omega⟩⟩
  .cases hj
 .rename_i e;obtain⟨h1,h2⟩:=h.2 j x hj;refine⟨h1,h2.trans ⟨λ⟨i',r',a,b,c⟩=>⟨i',r',by omega,b,c⟩,λ⟨i',r',a,b,c⟩=>?_⟩⟩;by_cases e2:i'=i
  .subst e2;rw[hr]at b;injection b with b;subst b;exact(e c).elim
  .exact⟨i',r',by omega,b,c⟩
theorem dU.at_(h:dU w A rows)(hk:k<rows.length):∃g b c r,A=some ⟨g,0,none⟩/\rows[k]?=some r/\w.cell? ⟨g,k,none⟩=some (.slice (some ⟨b,0,none⟩) r.length c)/\r.length<=c/\Own w b r:=by obtain⟨g,b,c,h1,h2,h3,h4⟩:=h.2 k _ (axn hk);exact⟨g,b,c,_,h1,axn hk,h2,h3,h4⟩
theorem GE.rdm{v:Value}(h:GE UD 55 w B H v xs)(hw:aQ n xs)(hl:xs.length<=1099511627776)(hn:n<=1099511627776):∃A c,v=.slice A xs.length c/\oC w A xs:=by
 by_cases hv:v=.slice none 0 0
 .obtain⟨_,_,e⟩:=h.kH;have e0:=e;rw[hv]at e0;injection e0 with _ e1 _;have e2:xs=[]:=List.length_eq_zero_iff.1 e1.symm;subst e2;exact⟨none,0,hv,by simp,λj r hj=>by simp at hj⟩
 .obtain⟨g,c,rfl,_⟩:=h.form hv;obtain⟨bs,hM,_⟩:=h.im hw;have:=hM.rdm hl hn xs.length;rw[axE]at this;exact⟨_,c,rfl,this⟩
theorem XU(p:Int)(n:Nat)(rows:List (List Int))(A:Option Addr)(c:Nat)(w:World)(hF:av p=true)(h:oC w A rows)(hw:aQ n rows)(hel:fQ p rows)(hn:n<=1000)(hR:rows.length<=1000):
 Calls prog 173 #[.int .i64 p,.int .i64 n,.slice A rows.length c] w λe w'=>∃A' c',e=.returned (.slice A' ((ay p).g_ n rows).length c')/\dU w' A' ((ay p).g_ n rows)/\Ex w w':=by
 have h2:=ax hF;have h97:=aT hF;have C1:=xh p n rows A c w hF h hw hel hn hR;have HM:=axj (SA hF hel hw);have HF:=axj hF;unfold Ops.g_;obtain⟨M,hMe⟩:=xq ((ay p).aC n rows);rw[hMe]at C1 HM⊢;obtain⟨R,hRe⟩:=xq rows.length;rw[hRe]at C1⊢;clear hF h hw hel hR hMe hRe;obtain⟨ml,hml⟩:=xq M.length;have BU:=axj hml;rw[hml]at C1;have hms:ml<=n:=by rw[<-hml];exact HM.out.2.2.2
 clear hml;obtain⟨NL,IU⟩:=xq ((ay p).uz n M);have Lh:=axj (show(ay p).kQ n M n=NL from IU);rw[IU];have C2:∀(A2:Option Addr) (c2:Nat) (W:World),oC W A2 NL->Calls prog 174 #[.int .i64 p,.int .i64 n,.slice A2 NL.length c2] W λe w'=>∃A' c',e=.returned (.slice A' ((ay p).aC n NL).length c')/\dU w' A' ((ay p).aC n NL)/\Ex W w':=λA2 c2 W hA=>by
  have hwn:aQ n NL:=by rw[<-IU];exact qI _ n M
  have hen:fQ p NL:=by rw[<-IU];exact abM HF.out HM.out.2.2.1
  have hln:NL.length<=n:=by rw[<-Lh.out];exact xD n
  exact xh p n NL A2 c2 W HF.out hA hwn hen hn (by omega)
 clear IU;have hmk:=λW=>fe n (by omega) W
 go_enter Tryz.func173,Tryz.ntmps173
 go_wp2_with fail
 refine C1.mono ?_;rintro e w1 ⟨A1,c1,rfl,hm,x1⟩;clear C1;go_wp2_with fail
 have y1:=(aCQ w1).alloc (aN (replicate n 0));have o1:=Own.new w1 (replicate n 0);obtain⟨g,hg⟩:=xq w1.heap.size;rw[hg]at o1⊢;generalize w1.alloc (aN (replicate n 0))=W1 at*;go_loopw [25] (λs25 wr=>∃(k:Nat) (la:List Int),k<=n/\s25=.int .i64 k/\Own wr g la/\la.length=n/\Hid (∀(j:Nat) (x:Int),la[j]?=some x->j<k->x= -1)/\Ex w1 wr) (λs25 _=>n-(intOf s25).toNat)
 case atStart=>exact⟨0,_,axq _,rfl,o1,by simp,axj (λj x _ h=>by omega),y1⟩
 case round=>
  rename World=>wr;obtain⟨k,la,hk,rfl,ho,V7,Hla,he⟩:=hrel;clear o1 y1;by_cases hkn:k<n
  .obtain⟨y,hy⟩:∃y,la[k]?=some y:=⟨_,axn (by rw[V7];exact hkn)⟩;have q1:=ho.cell hy;have q2:=ho.frozen k;clear hy;go_wp2_with fail
   go_roundw;case rel=>exact⟨k+1,_,by omega,by go_num,ho.bC k (-1),by rw[axM];exact V7,axj (λj x hj hjk=>by
    rw[axK]at hj;split at hj
    .split at hj
     .injection hj with hj;exact hj.symm
     .cases hj
    .exact Hla.out j x hj (by omega)),he.aK ((aM.refl g wr).setCell (p:=⟨g,k,none⟩) rfl _) (by omega)⟩
   case measure=>simp[intOf];omega
  have HLA:=axj (LA.zero (p:=p) (M:=M) V7 λj x hj=>Hla.out j x hj (by have:=(axp.1 hj).1;omega));have hkk:k=n:=by omega
  subst hkk;clear Hla hkn hk;go_wp2_with fail
  go_loopw [34] (λs34 wr=>∃(i:Nat) (la:List Int),i<=ml/\s34=.int .i64 i/\Own wr g la/\Hid (LA p k M i la)/\Ex w1 wr) (λs34 _=>ml-(intOf s34).toNat)
  case atStart=>exact⟨0,la,axq _,rfl,ho,HLA,he⟩
  case round=>
   rename World=>wr2;clear ho HLA he V7;obtain⟨i,la,hi,rfl,ho,HLA,he⟩:=hrel;by_cases him:i<ml
   .obtain⟨G,b,rc,r,rfl,hr,hc,hrc,hro⟩:=(hm.ex he).at_ (k:=i) (by rw[BU.out];exact him);have Hrl:=axj (HM.out.1 r (axo hr));have hld:=HM.out.2.1 r (axo hr);have HS:=axj (HLA.out.succ hr (by omega));have cL:=L6 p r (some ⟨b,0,none⟩) rc wr2 (hro.rd (by rw[Hrl.out];omega));obtain⟨l,hl⟩:=xq ((ay p).lead r);rw[hl]at hld HS cL;rw[Hrl.out]at cL hc;obtain⟨y,hy⟩:∃y,la[l]?=some y:=⟨_,axn (by rw[HLA.out.1];exact hld)⟩;have q1:=ho.cell hy;have q2:=ho.frozen l;clear hr hl hy;go_wp2_with fail
    refine cL.mono ?_;rintro e _ ⟨rfl,rfl⟩;go_wp2_with fail
    go_roundw;case rel=>exact⟨i+1,_,by omega,by go_num,ho.bC l i,HS,he.aK ((aM.refl g wr2).setCell (p:=⟨g,l,none⟩) rfl _) (by omega)⟩
    case measure=>simp[intOf];omega
   have hii:i=ml:=by omega
   subst hii;have HLO:=axj (show∀(j:Nat) (x:Int),la[j]?=some x->(0<=x↔∃r∈M,(ay p).lead r=j)from λj x hj=>(HLA.out.2 j x hj).2.trans ⟨λ⟨i',r,_,b,c⟩=>⟨r,axo b,c⟩,λ⟨r,a,b⟩=>by
    obtain⟨i',hi'⟩:=axz a;exact⟨i',r,by have:=(axp.1 hi').1;rw[BU.out]at this;exact this,hi',b⟩⟩)
   have V7:=HLA.out.1;have hlab:=axj (show∀(j:Nat) (x:Int),la[j]?=some x-> -1<=x/\x<=1000 from λj x hj=>(HLA.out.2 j x hj).1);clear HLA him hi;have x2:=x1.trans he;have hm2:=hm.ex he;have hgl:=ho.lt;go_wp2_with fail
   go_loopw [12,13] (λs12 s13 wr=>∃(j:Nat),j<=k/\s13=.int .i64 j/\GE UD 55 wr wr2.heap.size wr.heap.size s12 ((ay p).kQ k M j)/\Ex wr2 wr) (λ_ s13 _=>k-(intOf s13).toNat)
   case atStart=>exact⟨0,axq _,rfl,GE.nil _ _ _ _ _,aCQ _⟩
   case round=>
    rename World=>wj;obtain⟨j,hj,rfl,hge,xU⟩:=hrel;have hzj:=xU.size;by_cases hjk:j<k
    .obtain⟨y,hy⟩:∃y,la[j]?=some y:=⟨_,axn (by rw[V7];exact hjk)⟩;have q1:=(ho.ex xU).cell hy;have hyb:=hlab.out j y hy;have HY:=axj (HLO.out j y hy);clear hy;by_cases hy0:0<=y
     .have HN:=axj (show(ay p).kQ k M (j+1)=(ay p).kQ k M j by
       obtain⟨r,hr,hl⟩:=HY.out.1 hy0;exact Vo hr hl)
      go_wp2_with fail
      go_roundw;case rel=>exact⟨j+1,by omega,by go_num,by rw[HN.out];exact hge,xU⟩
      case measure=>simp[intOf];omega
     .have HN:=axj (show(ay p).kQ k M (j+1)=(ay p).kQ k M j++[(ay p).fT k M j]from Qx λr hr e=>hy0 (HY.out.2 ⟨r,hr,e⟩));have htl:=xD (O:=ay p) (n:=k) (R:=M) j;have o5:=Own.new wj (replicate k 0);have y5:=(aCQ wj).alloc (aN (replicate k 0));have q5:=o5.cell (i:=j) (x:=0) (by rw[ax3,axl hjk]);have q6:=o5.frozen j;go_wp2_with fail
      have o6:=o5.bC j 1;have y6:=y5.aK ((aM.refl wj.heap.size _).setCell (p:=⟨wj.heap.size,j,none⟩) rfl (.int .i64 1)) (axk _);clear o5 y5 q5 q6 q1;obtain⟨v0,hv0⟩:=xq ((replicate k (0:Int)).set j 1);have HV0:=axj hv0;have hvl:v0.length=k:=by rw[<-hv0];simp
      rw[hv0]at o6;clear hv0;generalize(wj.alloc (aN (replicate k 0))).setCell ⟨wj.heap.size,j,none⟩ (.int .i64 1)=W6 at*;go_loopw [62] (λs62 wr=>∃(t:Nat),t<=i/\s62=.int .i64 t/\Own wr wj.heap.size ((ay p).iD (M.take t) j v0)/\Ex wj wr) (λs62 _=>i-(intOf s62).toNat)
      case atStart=>exact⟨0,axq _,rfl,o6,y6⟩
      case round=>
       rename World=>wk;clear o6 y6;obtain⟨t,ht,rfl,ho6,hek⟩:=hrel;have VU:=hek.size;by_cases hti:t<i
       .obtain⟨G,b,rc,r,rfl,hr,hc,hrc,hro⟩:=(hm2.ex (xU.trans hek)).at_ (k:=t) (by rw[BU.out];exact hti);have Hrl:=axj (HM.out.1 r (axo hr));have hld:=HM.out.2.1 r (axo hr);obtain⟨x,hx⟩:∃x,r[j]?=some x:=⟨_,axn (by rw[Hrl.out];exact hjk)⟩;have hxb:=bg (HM.out.2.2.1 r (axo hr)) hx;have HS:=axj (Vr (O:=ay p) (j:=j) (v:=v0) hr);rw[(ay p).dD hx]at HS;have cL:=DV (L6 p r (some ⟨b,0,none⟩) rc wk.drew (hro.drew.rd (by rw[Hrl.out];omega)));have cN:=DV (Kr p x wk.drew h2 h97 hxb);obtain⟨l,hl⟩:=xq ((ay p).lead r);obtain⟨nx,hnx⟩:=xq ((ay p).neg x);rw[hl]at hld HS cL;rw[hnx]at HS cN;rw[Hrl.out]at cL hc;have e1:=hro.cell hx;obtain⟨y2,hy2⟩:∃y,((ay p).iD (M.take t) j v0)[l]?=some y:=⟨_,axn (by rw[qJ,hvl];exact hld)⟩;have e2:=ho6.cell hy2;have e3:=ho6.frozen l;clear hr hl hx hy2 hnx;go_wp2_with fail
        go_still_tail 12,(by kernel_rfl)
        still_call cL
        repeat still_step
        still_call cN
        repeat still_step
        refine wpStill_nil ?_;change wpList _ _ _ _ _ wk.drew;go_wp2_with fail
        go_roundw;case rel=>exact⟨t+1,by omega,by go_num,by rw[<-HS.out];exact ho6.drew.bC l nx,hek.aK (((aM.refl wj.heap.size wk).setCell (p:=⟨wj.heap.size,l,none⟩) rfl _).drew) (axk _)⟩
        case measure=>simp[intOf];omega
       .have hvn:(ay p).iD (M.take t) j v0=(ay p).fT k M j:=by
         rw[axG (by rw[BU.out];omega),<-HV0.out];rfl
        rw[hvn]at ho6;have hvk:((ay p).fT k M j).length=k:=nK _ k M j;obtain⟨v',w2,hrun,wH,hE2⟩:=yH (hge.ex hek) VU ho6 (c:=k) (by rw[hvk];exact axk _) (axk _) hzj (by omega);rw[hvk]at hrun;rw[<-HN.out]at wH;have x9:=hE2 wr2 (xU.trans hek) (axk _);clear hE2 HN hvn hge ho6 htl;go_wp2_with (at_builtin;refine wpList_append_run rfl _ _ _ rfl rfl rfl hrun ?_)
        go_roundw;case rel=>exact⟨j+1,by omega,by go_num,wH,x9⟩
        case measure=>simp[intOf];omega
    .have hjj:j=k:=by omega
     subst hjj;rw[Lh.out]at hge;have hwn:aQ j NL:=by rw[<-Lh.out];exact qI _ j M
     have hln:NL.length<=j:=by rw[<-Lh.out];exact xD j
     obtain⟨A2,c2,rfl,hA2⟩:=hge.rdm hwn (by omega) (by omega);have cE:=C2 A2 c2 wj hA2;clear C2 hwn Lh HLO hlab;go_wp2_with fail
     refine cE.mono ?_;rintro e w9 ⟨A9,c9,rfl,h9,x9⟩;go_wp2_with fail
     go_ret;exact⟨A9,c9,rfl,h9,(x2.trans xU).trans x9⟩
end Go.Proofs.YthgiffhlfcmgaaaGreatDoor
