/- Lemmas and walks on terms over rational functions: Plain arithmetic, no program in sight: the .. -/
import Derived.Test.YthgiffhlfcmgaaaGreatDoorQ99
import Derived.WalkKit
import Derived.Test.YthgiffhlfcmgaaaGreatDoorProg
import Derived.Deep.Draws
import Derived.Lib.Hide
import Derived.Maps.AppendAt
import Derived.Deep.QuietTactic
import Derived.BigQuiet
namespace Go.Proofs.YthgiffhlfcmgaaaGreatDoor
open List(range)
open List(replicate)
open Tryz(prog)
set_option maxRecDepth 100000
set_option maxHeartbeats 8000000
set_option linter.all false
variable{cs:Array Value}{p x:Int}{den f num xs:List Int}{l:List Value}{B c g i k n:Nat}{A:Option Addr}{o:Option Nat}{b d e v:Value}{a w w':World}
def av(p:Int):Bool:=decide (2<=p)&&decide (p<=97)&&(([2,3,5,7]:List Int).all λq=>decide (p%q≠0)||decide (p=q))
def iF(p a:Int):Bool:=decide (0<=a)&&decide (a<p)
def bL(lo hi n:Int):Bool:=decide (lo<=n)&&decide (n<=hi)
def aA(p:Int)(xs:List Int):Bool:=xs.all (iF p)
theorem ax(h:av p=true):2<=p:=by simp[av]at h;exact h.1.1
theorem aT(h:av p=true):p<=97:=by simp[av]at h;exact h.1.2
theorem afW(p:Int):bL 0 (p-1)=iF p:=by funext a;simp only[bL,iF];congr 1;exact decide_eq_decide.2 (by omega)
theorem FC:∀p:Nat,p<98->2<=p->(av (p:Int)=(range 10).all λk=>decide (k<2)||decide ((p:Int)<(k:Int)*(k:Int))||decide ((p:Int)%(k:Int)≠0)):=by decide+kernel
theorem Wu(h2:2<=p)(h97:p<=97)(k:Nat)(hk:2<=k)(hkk:(k:Int)*(k:Int)<=p)(hm:p%(k:Int)=0):av p=false:=by
 obtain⟨n,rfl⟩:=ayx (by omega:0<=p);have hk10:k<10:=by
  rcases ax9 k 10 with h|h
  .exact h
  .have:(10:Int)*10<=(k:Int)*(k:Int):=Int.mul_le_mul (by omega) (by omega) (by omega) (by omega);omega
 rw[show av (n:Int)=_ from FC n (by omega) (by omega)];rw[ayJ];exact⟨k,by simpa using hk10,by simp;omega⟩
theorem RO(h2:2<=p)(h97:p<=97)(k:Nat)(hkk:p<(k:Int)*(k:Int))(hall:∀j:Nat,2<=j->j<k->p%(j:Int)≠0):av p=true:=by
 obtain⟨n,rfl⟩:=ayx (by omega:0<=p);rw[show av (n:Int)=_ from FC n (by omega) (by omega)];rw[axQ];intro j hj;by_cases h1:j<2
 .simp[h1]
 by_cases hjk:j<k
 .simp[hall j (by omega) hjk]
 .have:(k:Int)*(k:Int)<=(j:Int)*(j:Int):=Int.mul_le_mul (by omega) (by omega) (by omega) (by omega);simp;omega
theorem bg(h:aA p xs=true)(hx:xs[i]?=some x):0<=x/\x<p:=by have:=axQ.1 h x (axo hx);simpa[iF]using this
theorem ji(h:∀(i:Nat) (x:Int),xs[i]?=some x->0<=x/\x<p):aA p xs=true:=by rw[aA,axQ];intro x hx;obtain⟨i,hi⟩:=axz hx;simpa[iF]using h i x hi
theorem sD{y:Int}(hx:0<=x/\x<=96)(hy:0<=y/\y<=96):0<=x*y/\x*y<=9216:=
 ⟨Int.mul_nonneg hx.1 hy.1,by have:=Int.mul_le_mul hx.2 hy.2 hy.1 (by omega);omega⟩
def dh(p a:Int):Int:=a^(p-2+if p=2 then 1 else 0).toNat%p
def invS(p a:Int):Nat->Int->Int
 |0,_=>0
 |n+1,k=>if a*k%p=1 then k else invS p a n (k+1)
theorem acO:((range 98).all λp=> !(av (p:Int))||(range p).all λa=>decide (a=0)||(decide ((a:Int)*dh (p:Int) (a:Int)%(p:Int)=1)&&decide (invS (p:Int) (a:Int) (p-1) 1=dh (p:Int) (a:Int))))=true:=by decide+kernel
theorem acr:((range 98).all λp=> !(av (p:Int))||(range p).all λa=>(range p).all λb=>decide (a=0)||decide (b=0)||decide (a*b%p≠0))=true:=by decide+kernel
theorem NH{a:Int}(hf:av p=true)(h0:0<a)(ha:a<p):a*dh p a%p=1/\invS p a (p-1).toNat 1=dh p a:=by
 have h2:=ax hf;have h97:=aT hf;obtain⟨n,rfl⟩:=ayx (by omega:0<=p);obtain⟨m,rfl⟩:=ayx (by omega:0<=a);have h:=axQ.1 acO n (by simp;omega);rw[hf]at h;simp only[Bool.not_true,Bool.false_or]at h;have h':=axQ.1 h m (by simp;omega);simp only[Bool.or_eq_true,axU,decide_eq_true_eq]at h';rcases h' with h'|h'
 .omega
 .refine⟨h'.1,?_⟩;have e:((n:Int)-1).toNat=n-1:=by omega
  rw[e];exact h'.2
theorem inv_mul{a:Int}(hf:av p=true)(h0:0<a)(ha:a<p):a*dh p a%p=1:=(NH hf h0 ha).1
theorem kS(a:Int)(h2:2<=p):0<=dh p a/\dh p a<p:=⟨ayh _ (by omega),ayi _ (by omega)⟩
theorem noz{a b:Int}(hf:av p=true)(ha:0<a/\a<p)(hb:0<b/\b<p):a*b%p≠0:=by
 have h2:=ax hf;have h97:=aT hf;obtain⟨n,rfl⟩:=ayx (by omega:0<=p);obtain⟨k,rfl⟩:=ayx (by omega:0<=a);obtain⟨l,rfl⟩:=ayx (by omega:0<=b);have h:=axQ.1 acr n (by simp;omega);rw[hf]at h;simp only[Bool.not_true,Bool.false_or]at h;have h':=axQ.1 (axQ.1 h k (by simp;omega)) l (by simp;omega);simp only[Bool.or_eq_true,decide_eq_true_eq]at h';rcases h' with(h'|h')|h'
 .omega
 .omega
 .intro e;apply h';have:((k*l%n:Nat):Int)=0:=by push_cast;exact e
  exact_mod_cast this
def cf(xs:List Int)(i:Nat):Int:=xs[i]?.getD 0
theorem jY(h:xs[i]?=some x):cf xs i=x:=by simp[cf,h]
theorem iN(h:xs.length<=i):cf xs i=0:=by simp[cf,ax2 h]
theorem iO(h:aA p xs=true)(hp:0<p)(i:Nat):0<=cf xs i/\cf xs i<p:=by
 rcases ax9 i xs.length with hi|hi
 .exact jY (axn hi)▸bg h (axn hi)
 .rw[iN hi];omega
theorem aaZ{ys:List Int}(hl:xs.length=ys.length)(h:∀i,cf xs i=cf ys i):xs=ys:=by apply azy hl;intro i h1 h2;have:=h i;rwa[cf,cf,axn h1,axn h2]at this
def trim:List Int->List Int
 |[]=>[]
 |x::xs=>match trim xs with
  |[]=>if x=0 then[]else[x]
  |ys=>x::ys
theorem lg(x:Int)(xs:List Int):trim (x::xs)=if trim xs=[]/\x=0 then[]else x::trim xs:=by
 rw[trim];split
 .rename_i h;rw[h];simp
 .rename_i h;rw[axm (by intro⟨h1,_⟩;exact h h1)]
theorem jh(i:Nat):cf [] i=0:=rfl
theorem Dr(x:Int)(xs:List Int):cf (x::xs) 0=x:=rfl
theorem zL(x:Int)(xs:List Int)(i:Nat):cf (x::xs) (i+1)=cf xs i:=rfl
theorem gX:∀(xs:List Int) (i:Nat),cf (trim xs) i=cf xs i
 |[],_=>rfl
 |x::xs,i=>by
  rw[lg];split
  .rename_i h;cases i with
   |zero=>rw[Dr,h.2];rfl
   |succ i=>rw[zL,<-gX xs i,h.1];rfl
  .cases i with
   |zero=>rfl
   |succ i=>rw[zL,zL,gX xs i]
theorem mY:∀(xs:List Int),trim xs=[]↔∀i,cf xs i=0
 |[]=>by simp[trim,jh]
 |x::xs=>by
  rw[lg];constructor
  .intro h;split at h
   .rename_i h';intro i;cases i with
    |zero=>exact h'.2
    |succ i=>exact(mY xs).1 h'.1 i
   .cases h
  .intro h;rw[axl ⟨(mY xs).2 λi=>h (i+1),h 0⟩]
theorem t_:∀{xs ys:List Int},(∀i,cf xs i=cf ys i)->trim xs=trim ys
 |[],ys,h=>by
  symm
  exact(mY ys).2 λi=>(h i).symm
 |x::xs,[],h=>(mY _).2 h
 |x::xs,y::ys,h=>by
  have e:trim xs=trim ys:=t_ λi=>h (i+1)
  have e0:x=y:=h 0;rw[lg,lg,e,e0]
theorem UL(xs:List Int):trim (trim xs)=trim xs:=t_ (gX xs)
theorem iY:∀(xs:List Int),(trim xs).length<=xs.length
 |[]=>axk _
 |x::xs=>by have:=iY xs;rw[lg];split<;>simp<;>omega
theorem qi:∀(xs:List Int),trim xs=xs.take (trim xs).length
 |[]=>rfl
 |x::xs=>by
  rw[lg];split
  .rfl
  .rw[axR,azb,<-qi xs]
theorem DJ(xs:List Int):trim (xs++[0])=trim xs:=t_ λi=>by
 simp only[cf,ay1];split
 .rfl
 .rename_i h;rw[ax2 (by omega:xs.length<=i)];cases hk:i-xs.length with
  |zero=>rfl
  |succ k=>rfl
theorem H6(xs:List Int){a:Int}(h:a≠0):trim (xs++[a])=xs++[a]:=by
 induction xs with
 |nil=>simp[trim,h]
 |cons x xs ih=>rw[List.cons_append,lg,ih,axm];intro⟨h1,_⟩;simp at h1
def Tr(xs:List Int):Prop:=trim xs=xs
theorem Tr.trim(xs:List Int):Tr (trim xs):=UL xs
theorem Tr.nil:Tr []:=rfl
theorem Tr.yO(h:xs≠[])(hl:cf xs (xs.length-1)≠0):Tr xs:=by obtain⟨ys,a,rfl⟩:∃ys a,xs=ys++[a]:=⟨xs.dropLast,xs.getLast h,(List.dropLast_concat_getLast h).symm⟩;exact H6 ys (by simpa[cf]using hl)
theorem Tr.last(h:Tr xs)(hn:xs≠[]):cf xs (xs.length-1)≠0:=by
 obtain⟨ys,a,rfl⟩:∃ys a,xs=ys++[a]:=⟨xs.dropLast,xs.getLast hn,(List.dropLast_concat_getLast hn).symm⟩;intro h0;have ha:a=0:=by simpa[cf]using h0
 subst ha;unfold Tr at h;rw[DJ]at h;have:=iY ys;rw[h]at this;simp at this;omega
theorem Lu(h:∀i,n<=i->cf xs i=0):(trim xs).length<=n:=by
 rcases ax9 n (trim xs).length with hl|hl
 .exfalso;have hne:trim xs≠[]:=by intro e;rw[e]at hl;simp at hl
  have:=(Tr.trim xs).last hne;rw[gX]at this;exact this (h _ (by omega))
 .exact hl
theorem mZ(h:aA p xs=true):aA p (trim xs)=true:=ji λi x hx=>by
 rw[qi,axL]at hx;split at hx
 .exact bg h hx
 .cases hx
def bI(p:Int)(v:List Int)(s:Nat)(by_:Int)(w:List Int):List Int:=
 (range v.length).map λi=>if s<=i/\i-s<w.length then(cf v i+by_*cf w (i-s))%p else cf v i
theorem aX(p:Int)(v:List Int)(s:Nat)(b:Int)(w:List Int):(bI p v s b w).length=v.length:=by simp[bI]
theorem yF{f:Nat->Int}(i:Nat):cf ((range n).map f) i=if i<n then f i else 0:=by
 simp only[cf,axw];split
 .rename_i h;simp[h]
 .rename_i h;rw[ax2 (by simpa using h)];rfl
theorem jl(p:Int)(v:List Int)(s:Nat)(b:Int)(w:List Int)(i:Nat):cf (bI p v s b w) i=if i<v.length then(if s<=i/\i-s<w.length then(cf v i+b*cf w (i-s))%p else cf v i)else 0:=by rw[bI,yF]
theorem oz{v:List Int}(h:aA p v=true)(hp:0<p)(s:Nat)(b:Int)(w:List Int):aA p (bI p v s b w)=true:=ji λi x hx=>by
 have hc:=jY hx;rw[jl]at hc;split at hc
 .split at hc
  .rw[<-hc];exact⟨ayh _ (by omega),ayi _ hp⟩
  .rw[<-hc];exact iO h hp i
 .rename_i hh;rw[ax2 (by rw[aX];omega)]at hx;cases hx
theorem tH(p:Int)(v:List Int)(s:Nat)(b:Int)(w:List Int)(k:Nat)(hk:k<w.length):
 (bI p v s b (w.take k)).set (s+k) ((cf v (s+k)+b*cf w k)%p)=bI p v s b (w.take (k+1)):=by
 apply ax_;intro i;by_cases hi:i<v.length
 .rw[axK];have e1:(bI p v s b (w.take (k+1)))[i]?=some (cf (bI p v s b (w.take (k+1))) i):=by rw[axn (by rw[aX];exact hi)];rw[cf,axn (by rw[aX];exact hi)];rfl
  have e2:(bI p v s b (w.take k))[i]?=some (cf (bI p v s b (w.take k)) i):=by rw[axn (by rw[aX];exact hi)];rw[cf,axn (by rw[aX];exact hi)];rfl
  rw[e1,e2,jl,jl,axl hi,axl hi,aX];have ct:∀m j,j<m->cf (w.take m) j=cf w j:=λm j hj=>by simp[cf,hj]
  simp only[axx];by_cases hs:s+k=i
  .rw[axl hs,axl (by omega),axl (by omega)];have:i-s=k:=by omega
   rw[this,ct _ _ (by omega),hs]
  .rw[axm hs];by_cases hc:s<=i/\i-s<k
   .rw[axl (by omega),axl (by omega),ct _ _ hc.2,ct _ _ (by omega)]
   .rw[axm (by omega),axm (by omega)]
 .rw[ax2 (by rw[axM,aX];omega),ax2 (by rw[aX];omega)]
theorem ru(p:Int)(v:List Int)(s:Nat)(b:Int):bI p v s b []=v:=aaZ (aX _ _ _ _ _) λi=>by
 rw[jl];split
 .rw[axm (by simp)]
 .rename_i h;rw[iN (by omega)]
theorem uW{v:List Int}{s:Nat}{b:Int}{w:List Int}(hi:i<v.length)(h:s+w.length<=i):(bI p v s b w)[i]?=some (cf v i):=by
 have e:(bI p v s b w)[i]?=some (cf (bI p v s b w) i):=by rw[axn (by rw[aX];exact hi)];rw[cf,axn (by rw[aX];exact hi)];rfl
 rw[e,jl,axl hi,axm (by omega)]
def je(f:List Int)(n:Nat):List Int:=f++replicate (n-f.length) 0
theorem qF(h:f.length<=n):(je f n).length=n:=by simp[je];omega
theorem M5(f:List Int)(n i:Nat):cf (je f n) i=cf f i:=by
 simp only[cf,je,ay1];split
 .rfl
 .rename_i h;rw[ax2 (by omega:f.length<=i),ax3];split<;>rfl
theorem Ew(h:aA p f=true)(hp:0<p)(n:Nat):aA p (je f n)=true:=ji λi x hx=>by have:=iO h hp i;rw[<-M5 f n i,jY hx]at this;exact this
def bQ(p:Int)(f:List Int)(b:Int)(g:List Int):List Int:=trim (bI p (je f (max f.length g.length)) 0 b g)
theorem Tn(p:Int)(b:Int)(g:List Int)(hf:aA p f=true)(hp:0<p)(i:Nat):cf (bQ p f b g) i=(cf f i+b*cf g i)%p:=by
 rw[bQ,gX,jl,qF (by omega),M5];have hb:=iO hf hp i;have hm:cf f i%p=cf f i:=ayl hb.1 hb.2;split
 .split
  .simp
  .rename_i h;rw[iN (by omega:g.length<=i)];simp[hm]
 .rw[iN (by omega:f.length<=i),iN (by omega:g.length<=i)];simp
theorem yL(hf:aA p f=true)(hp:0<p)(b:Int)(g:List Int):aA p (bQ p f b g)=true:=mZ (oz (Ew hf hp _) hp _ _ _)
theorem vH(p:Int)(f:List Int)(b:Int)(g:List Int):Tr (bQ p f b g):=Tr.trim _
theorem Db(p:Int)(f:List Int)(b:Int)(g:List Int):(bQ p f b g).length<=max f.length g.length:=by have:=iY (bI p (je f (max f.length g.length)) 0 b g);rw[aX,qF (by omega)]at this;exact this
def aW(p b:Int)(g:List Int):List Int:=bQ p [] b g
theorem jZ(p:Int):aA p []=true:=rfl
def iL(p:Int)(f g:List Int):Nat->List Int
 |0=>replicate (f.length+g.length-1) 0
 |k+1=>bI p (iL p f g k) k (cf f k) g
theorem lG(p:Int)(f g:List Int)(k:Nat):(iL p f g k).length=f.length+g.length-1:=by
 induction k with
 |zero=>simp[iL]
 |succ k ih=>rw[iL,aX,ih]
theorem afD(hp:0<p)(n:Nat):aA p (replicate n 0)=true:=ji λi x hx=>by
 rw[ax3]at hx;split at hx
 .injection hx with hx;subst hx;exact⟨by omega,hp⟩
 .cases hx
theorem Qk(n i:Nat):cf (replicate n 0) i=0:=by rw[cf,ax3];split<;>rfl
theorem EC(hp:0<p)(f g:List Int)(k:Nat):aA p (iL p f g k)=true:=by
 induction k with
 |zero=>exact afD hp _
 |succ k ih=>exact oz ih hp _ _ _
def Lc(f g:List Int)(n:Nat):Nat->Int
 |0=>0
 |k+1=>Lc f g n k+if k<=n then cf f k*cf g (n-k)else 0
theorem Y8(_hp:0<p)(f g:List Int)(k:Nat)(hk:k<=f.length)(i:Nat):cf (iL p f g k) i=Lc f g i k%p:=by
 induction k with
 |zero=>simp[iL,Qk,Lc]
 |succ k ih=>
  have ih:=ih (by omega);rw[iL,jl,lG,ih,Lc];split
  .split
   .rename_i h;rw[axl h.1];rw[Int.emod_add_emod]
   .rename_i h;split
    .rename_i h';rw[iN (by omega:g.length<=i-k)];simp
    .simp
  .rename_i h;have h0:cf (iL p f g k) i=0:=iN (by rw[lG];omega);rw[ih]at h0;split
   .rw[iN (by omega:g.length<=i-k)];simp[h0]
   .simp[h0]
def iw(p:Int)(f g:List Int):List Int:=if f=[]∨g=[]then[]else iL p f g f.length
def aB(p:Int)(f g:List Int):List Int:=trim (iw p f g)
theorem YL(hp:0<p)(f g:List Int):aA p (iw p f g)=true:=by
 rw[iw];split
 .rfl
 .exact EC hp _ _ _
theorem lV(hp:0<p)(f g:List Int):aA p (aB p f g)=true:=mZ (YL hp f g)
theorem M7(hp:0<p)(f g:List Int)(i:Nat):cf (iw p f g) i=Lc f g i f.length%p:=by
 rw[iw];split
 .rename_i h;rcases h with h|h
  .subst h;simp[Lc,jh]
  .subst h;have:∀k,Lc f [] i k=0:=λk=>by
    induction k with
    |zero=>rfl
    |succ k ih=>rw[Lc,ih];simp[jh]
   rw[this];simp[jh]
 .exact Y8 hp f g _ (axk _) i
theorem Uo(f g:List Int)(hf:f≠[]):Lc f g (f.length+g.length-2) f.length=cf f (f.length-1)*cf g (g.length-1)∨g=[]:=by
 by_cases hg:g=[]
 .exact .inr hg
 left;obtain⟨n,hn⟩:∃n,f.length=n+1:=⟨f.length-1,by have:=axB.2 hf;omega⟩;obtain⟨m,hm⟩:∃m,g.length=m+1:=⟨g.length-1,by have:=axB.2 hg;omega⟩;have hz:∀k,k<=n->Lc f g (n+1+g.length-2) k=0:=by
  intro k hk
  induction k with
  |zero=>rfl
  |succ k ih=>rw[Lc,ih (by omega),iN (by omega:g.length<=n+1+g.length-2-k)];simp
 rw[hn,Lc,hz n (axk _),axl (by omega)];have e:n+1+g.length-2-n=g.length-1:=by omega
 rw[e];simp
theorem YK(hF:av p=true){g:List Int}(hf:aA p f=true)(hg:aA p g=true)(tf:Tr f)(tg:Tr g):Tr (iw p f g):=by
 have h2:=ax hF;by_cases hn:f=[]∨g=[]
 .rw[iw,axl hn];exact Tr.nil
 .have hf0:f≠[]:=λe=>hn (.inl e)
  have hg0:g≠[]:=λe=>hn (.inr e)
  have hfl:=axB.2 hf0;have hgl:=axB.2 hg0;have hl:(iw p f g).length=f.length+g.length-1:=by rw[iw,axm hn,lG]
  refine Tr.yO (by intro e;rw[e]at hl;simp at hl;omega) ?_;rw[hl,M7 (by omega),show f.length+g.length-1-1=f.length+g.length-2 by omega];rcases Uo f g hf0 with h|h
  .rw[h];have b1:=iO hf (by omega) (f.length-1);have b2:=iO hg (by omega) (g.length-1);have n1:=tf.last hf0;have n2:=tg.last hg0;exact noz hF ⟨by omega,b1.2⟩ ⟨by omega,b2.2⟩
  .exact absurd h hg0
theorem vD(hF:av p=true){g:List Int}(hf:aA p f=true)(hg:aA p g=true)(tf:Tr f)(tg:Tr g):iw p f g=aB p f g:=(YK hF hf hg tf tg).symm
theorem yK(hF:av p=true){g:List Int}(hf:aA p f=true)(hg:aA p g=true)(tf:Tr f)(tg:Tr g)(h1:f≠[])(h2:g≠[]):(aB p f g).length=f.length+g.length-1:=by rw[<-vD hF hf hg tf tg,iw,axm (by simp[h1,h2]),lG]
theorem Tj(p:Int)(f g:List Int):(aB p f g).length<=f.length+g.length-1:=by
 have:=iY (iw p f g);rw[aB];refine axA this ?_;rw[iw];split
 .simp
 .rw[lG];exact axk _
def bU(p:Int)(g:List Int)(b:Int):Nat->List Int->List Int×List Int
 |0,r=>([],r)
 |k+1,r=>((bU p g b k (bI p r k (-(cf r (k+g.length-1)*b%p)) g)).1++[cf r (k+g.length-1)*b%p],
   (bU p g b k (bI p r k (-(cf r (k+g.length-1)*b%p)) g)).2)
theorem qX(p:Int)(g:List Int)(b:Int)(k:Nat):∀r,(bU p g b k r).1.length=k/\(bU p g b k r).2.length=r.length:=by
 induction k with
 |zero=>intro r;exact⟨rfl,rfl⟩
 |succ k ih=>intro r;simp[bU,ih,aX]
def bH(p:Int)(f g:List Int):List Int:=if f.length<g.length then[]else trim (bU p g (dh p (cf g (g.length-1))) (f.length-g.length+1) f).1
def dY(p:Int)(f g:List Int):List Int:=if f.length<g.length then f else trim (bU p g (dh p (cf g (g.length-1))) (f.length-g.length+1) f).2
theorem Ov(hp:0<p)(g:List Int)(b:Int)(k:Nat):∀r,aA p r=true->aA p (bU p g b k r).1=true/\aA p (bU p g b k r).2=true:=by
 induction k with
 |zero=>intro r hr;exact⟨rfl,hr⟩
 |succ k ih=>intro r hr;have:=ih _ (oz hr hp k (-(cf r (k+g.length-1)*b%p)) g);refine⟨?_,this.2⟩;rw[bU,aA,ayK,<-aA,this.1];simp[iF];exact⟨ayh _ (by omega),ayi _ hp⟩
theorem kP(hp:0<p)(hf:aA p f=true)(g:List Int):aA p (bH p f g)=true:=by
 rw[bH];split
 .rfl
 .exact mZ (Ov hp _ _ _ _ hf).1
theorem mF(hp:0<p)(hf:aA p f=true)(g:List Int):aA p (dY p f g)=true:=by
 rw[dY];split
 .exact hf
 .exact mZ (Ov hp _ _ _ _ hf).2
theorem qG(p:Int)(f g:List Int):Tr (bH p f g):=by
 rw[bH];split
 .exact Tr.nil
 .exact Tr.trim _
theorem mD(p:Int)(hf:Tr f)(g:List Int):Tr (dY p f g):=by
 rw[dY];split
 .exact hf
 .exact Tr.trim _
theorem M8(p:Int)(f g:List Int):(bH p f g).length<=f.length-g.length+1:=by
 rw[bH];split
 .simp
 .refine axA (iY _) ?_;rw[(qX _ _ _ _ _).1];exact axk _
theorem adx(hF:av p=true){g:List Int}(hg:aA p g=true)(tg:Tr g)(hn:g≠[]){r:List Int}(_hr:aA p r=true)(k:Nat)(hk:k+g.length<=r.length):
 cf (bI p r k (-(cf r (k+g.length-1)*dh p (cf g (g.length-1))%p)) g) (k+g.length-1)=0:=by
 have h2:=ax hF;have hgl:=axB.2 hn;rw[jl,axl (by omega),axl (by omega)];have b1:=iO hg (by omega) (g.length-1);have n1:=tg.last hn;have hi:=inv_mul hF (show 0<cf g (g.length-1) by omega) b1.2;have e:k+g.length-1-k=g.length-1:=by omega
 rw[e];generalize cf r (k+g.length-1)=x;generalize cf g (g.length-1)=y at*;generalize dh p y=z at*;have h1:(x*z%p)*y%p=x%p:=by rw[aym (x*z%p) y p,ayQ,<-aym,ayR,ay2 z y,aym x,hi];simp
 rw[Int.neg_mul,<-Int.sub_eq_add_neg,Int.sub_emod,h1,Int.sub_self,Int.zero_emod]
theorem Ou(hF:av p=true){g:List Int}(hg:aA p g=true)(tg:Tr g)(hn:g≠[])(k:Nat):
 ∀r,aA p r=true->r.length<=k+g.length-1+(r.length-(k+g.length-1))->k+g.length-1<=r.length->(∀i,k+g.length-1<=i->cf r i=0)->∀i,g.length-1<=i->cf (bU p g (dh p (cf g (g.length-1))) k r).2 i=0:=by
 have h2:=ax hF;have hgl:=axB.2 hn
 induction k with
 |zero=>intro r _ _ _ hz i hi;exact hz i (by omega)
 |succ k ih=>
  intro r hr _ hlen hz i hi;rw[bU];refine ih _ (oz hr (by omega) _ _ _) (by omega) (by rw[aX];omega) ?_ i hi;intro j hj;by_cases hjk:j=k+g.length-1
  .subst hjk;exact adx hF hg tg hn hr k (by omega)
  .rw[jl];split
   .rw[axm (by omega)];exact hz j (by omega)
   .rfl
theorem mE(hF:av p=true){g:List Int}(hf:aA p f=true)(hg:aA p g=true)(tg:Tr g)(hn:g≠[]):(dY p f g).length<g.length:=by
 have hgl:=axB.2 hn;rw[dY];split
 .assumption
 .have:=Lu (n:=g.length-1) (Ou hF hg tg hn (f.length-g.length+1) f hf (by omega) (by omega) (λi hi=>iN (by omega)));omega
def gcdL(p:Int):Nat->List Int->List Int->List Int
 |0,f,_=>f
 |n+1,f,g=>if g=[]then f else gcdL p n g (dY p f g)
theorem zn(p:Int)(n:Nat)(f:List Int):gcdL p n f []=f:=by cases n<;>simp[gcdL]
theorem qV(p:Int)(n:Nat)(f:List Int){g:List Int}(h:g≠[]):gcdL p (n+1) f g=gcdL p n g (dY p f g):=by rw[gcdL,axm h]
theorem IY(hF:av p=true):∀(n m:Nat) {f g:List Int},aA p f=true->aA p g=true->Tr f->Tr g->g.length<=n->g.length<=m->gcdL p n f g=gcdL p m f g
 |n,m,f,g,hf,hg,tf,tg,hn,hm=>by
  by_cases h0:g=[]
  .subst h0;rw[zn,zn]
  .have hgl:=axB.2 h0;obtain⟨n,rfl⟩:∃k,n=k+1:=⟨n-1,by omega⟩;obtain⟨m,rfl⟩:∃k,m=k+1:=⟨m-1,by omega⟩;rw[qV _ _ _ h0,qV _ _ _ h0];have hl:=mE hF hf hg tg h0;exact IY hF n m hg (mF (by have:=ax hF;omega) hf g) tg (mD p tf g) (by omega) (by omega)
def kT(p:Int)(f g:List Int):List Int:=gcdL p (g.length+1) f g
theorem adi(hp:0<p)(n:Nat):∀{f g:List Int},aA p f=true->aA p g=true->aA p (gcdL p n f g)=true:=by
 induction n with
 |zero=>intro f g hf _;exact hf
 |succ n ih=>
  intro f g hf hg;rw[gcdL];split
  .exact hf
  .exact ih hg (mF hp hf g)
theorem adh(p:Int)(n:Nat):∀{f g:List Int},Tr f->Tr g->Tr (gcdL p n f g):=by
 induction n with
 |zero=>intro f g hf _;exact hf
 |succ n ih=>
  intro f g hf hg;rw[gcdL];split
  .exact hf
  .exact ih hg (mD p hf g)
theorem N7(p:Int)(n:Nat):∀{f g:List Int},f≠[]->gcdL p n f g≠[]:=by
 induction n with
 |zero=>intro f g h;exact h
 |succ n ih=>
  intro f g h;rw[gcdL];split
  .exact h
  .rename_i hg;exact ih hg
theorem J6(p:Int){g:List Int}(h:f≠[]∨g≠[]):kT p f g≠[]:=by
 rw[kT];by_cases hg:g=[]
 .subst hg;rcases h with h|h
  .exact N7 p _ h
  .exact absurd rfl h
 .rw[qV _ _ _ hg];exact N7 p _ hg
theorem qW(hF:av p=true){g:List Int}(hf:aA p f=true)(hg:aA p g=true)(tf:Tr f)(tg:Tr g)(h0:g≠[]):kT p f g=kT p g (dY p f g):=by rw[kT,qV _ _ _ h0,kT];have hl:=mE hF hf hg tg h0;exact IY hF _ _ hg (mF (by have:=ax hF;omega) hf g) tg (mD p tf g) (by omega) (by omega)
theorem zo(p:Int)(f:List Int):kT p f []=f:=zn p _ f
theorem T_(hp:0<p){g:List Int}(hf:aA p f=true)(hg:aA p g=true):aA p (kT p f g)=true:=adi hp _ hf hg
theorem TY(p:Int){g:List Int}(hf:Tr f)(hg:Tr g):Tr (kT p f g):=adh p _ hf hg
def eU(p:Int)(f:List Int):List Int:=aW p (dh p (cf f (f.length-1))) f
def bZ(p:Int)(f g:List Int):List Int:=eU p (kT p f g)
theorem nD(hp:0<p)(f g:List Int):aA p (bZ p f g)=true:=yL (jZ p) hp _ _
theorem o_(p:Int)(f g:List Int):Tr (bZ p f g):=vH _ _ _ _
theorem AP(p:Int)(b:Int)(g:List Int)(hp:0<p)(i:Nat):cf (aW p b g) i=b*cf g i%p:=by rw[aW,Tn p b g (jZ p) hp,jh,azc]
theorem sG(hF:av p=true)(hf:aA p f=true)(tf:Tr f)(h0:f≠[]):(eU p f).length=f.length/\cf (eU p f) (f.length-1)=1:=by
 have h2:=ax hF;have hfl:=axB.2 h0;have hb:=iO hf (by omega) (f.length-1);have hn:=tf.last h0;have h1:cf (eU p f) (f.length-1)=1:=by rw[eU,AP p _ _ (by omega),ay2];exact inv_mul hF (by omega) hb.2
 have hle:(eU p f).length<=f.length:=by have:=Db p [] (dh p (cf f (f.length-1))) f;simpa[eU,aW]using this
 refine⟨?_,h1⟩;rcases ax9 (eU p f).length f.length with h|h
 .rw[iN (by omega)]at h1;cases h1
 .omega
def bT(p:Int)(f:List Int):Bool:=av p&&decide (f.length<=41)&&aA p f&&(decide (f.length=0)||decide (cf f (f.length-1)≠0))
theorem iE(h:bT p f=true):av p=true/\f.length<=41/\aA p f=true/\Tr f:=by
 simp only[bT,axU,Bool.or_eq_true,decide_eq_true_eq]at h;refine⟨h.1.1.1,h.1.1.2,h.1.2,?_⟩;by_cases h0:f=[]
 .subst h0;exact Tr.nil
 .have hfl:=axB.2 h0;exact Tr.yO h0 (h.2.resolve_left (by omega))
open Go Go.RowKit
def Ex(w w':World):Prop:=Below w.heap.size w w'
theorem aCQ(w:World):Ex w w:=Below.refl _ _
theorem Ex.trans{b c:World}(h:Ex a b)(k:Ex b c):Ex a c:=Below.trans h (Below.mono k h.size)
theorem Ex.drew(h:Ex a w):Ex a w.drew:=Below.drew h
theorem Ex.drewN(h:Ex a w)(n:Nat):Ex a (w.drewN n):=⟨h.os,h.tape,h.output,h.size,h.block⟩
theorem Ex.alloc(h:Ex a w)(o:Obj):Ex a (w.alloc o):=Below.alloc h h.size o
theorem Ex.setCell(h:Ex a w){p:Addr}(hp:a.heap.size<=p.block)(u:Value):Ex a (w.setCell p u):=Below.setCell h hp u
theorem Ex.size(h:Ex a w):a.heap.size<=w.heap.size:=Below.size h
theorem Ex.block(h:Ex a w)(hk:k<a.heap.size):w.heap[k]?=a.heap[k]?:=Below.block h k hk
theorem aF{o:Obj}(h:w.heap[g]?=some o):g<w.heap.size:=by
 rcases ax9 g w.heap.size with hl|hg
 .exact hl
 .rw[azA hg]at h;cases h
theorem jC{p:Addr}(h:w.cell? p=some v):p.block<w.heap.size:=by
 rcases ax9 p.block w.heap.size with hl|hg
 .exact hl
 .simp[World.cell?,azA hg]at h
theorem yA{P:Program}{f:FuncId}{args:Array Value}{r:Ending}(h:Calls P f args w λe w'=>e=r/\w=w'):Calls P f args w λe w'=>e=r/\w'=w:=
 h.mono λ_ _ ⟨h1,h2⟩=>⟨h1,h2.symm⟩
def aM(g:Nat)(w w':World):Prop:=w.grownBy w' (some g)
theorem aM.refl(g:Nat)(w:World):aM g w w:=World.grownBy.refl w _
theorem aM.aP(h:Ex a w):aM g a w:=⟨h.os,h.tape,h.output,h.size,λ_ hi _=>h.block hi⟩
theorem aM.trans{b c:World}(h:aM g a b)(k:aM g b c):aM g a c:=
 ⟨k.os.trans h.os,k.tape.trans h.tape,k.output.trans h.output,axA h.size k.size,λi hi hn=>(k.block i (axD hi h.size) hn).trans (h.block i hi hn)⟩
theorem aM.drew(h:aM g a w):aM g a w.drew:=⟨h.os,h.tape,h.output,h.size,h.block⟩
theorem aM.size'(h:aM g a w):a.heap.size<=w.heap.size:=h.size
theorem aM.setCell(h:aM g a w){p:Addr}(hp:p.block=g)(u:Value):aM g a (w.setCell p u):=
 ⟨h.os,h.tape,h.output,by simpa[World.setCell]using h.size,λi hi hne=>(Below.heap_setCell w p u i (by
  rintro rfl;exact hne (by rw[hp]))).trans (h.block i hi hne)⟩
theorem aM.ex(h:aM g a w)(hg:a.heap.size<=g):Ex a w:=
 ⟨h.os,h.tape,h.output,h.size,λi hi=>h.block i hi (by intro e;injection e;omega)⟩
theorem Ex.aK{b c:World}(h:Ex a b)(k:aM g b c)(hg:a.heap.size<=g):Ex a c:=
 ⟨k.os.trans h.os,k.tape.trans h.tape,k.output.trans h.output,axA h.size k.size,λi hi=>(k.block i (axD hi h.size) (by intro e;injection e;omega)).trans (h.block hi)⟩
def qh(o:Option Nat)(w w':World):Prop:=w.grownBy w' o
theorem qh.refl(o:Option Nat)(w:World):qh o w w:=World.grownBy.refl w _
theorem qh.aP(h:Ex a w):qh o a w:=⟨h.os,h.tape,h.output,h.size,λ_ hi _=>h.block hi⟩
theorem qh.trans{b c:World}(h:qh o a b)(k:qh o b c):qh o a c:=
 ⟨k.os.trans h.os,k.tape.trans h.tape,k.output.trans h.output,axA h.size k.size,λi hi hn=>(k.block i (axD hi h.size) hn).trans (h.block i hi hn)⟩
theorem Ex.Og{b c:World}(h:Ex a b)(k:qh o b c)(hg:∀g,o=some g->a.heap.size<=g):Ex a c:=
 ⟨k.os.trans h.os,k.tape.trans h.tape,k.output.trans h.output,axA h.size k.size,λi hi=>(k.block i (axD hi h.size) (by intro e;have:=hg i e.symm;omega)).trans (h.block hi)⟩
def Rd(w:World)(A:Option Addr)(xs:List Int):Prop:=
 xs.length<=1099511627776/\∀j,j<xs.length->∃g off,A=some ⟨g,off,none⟩/\w.cell? ⟨g,off+j,none⟩=some (.int .i64 (xs[j]?.getD 0))
theorem Rd.len(h:Rd w A xs):xs.length<=1099511627776:=h.1
theorem Rd.at_(h:Rd w A xs)(hk:k<xs.length):
 ∃g off x,A=some ⟨g,off,none⟩/\xs[k]?=some x/\g<w.heap.size/\w.cell? ⟨g,off+k,none⟩=some (.int .i64 x):=by
 obtain⟨g,off,hA,hc⟩:=h.2 k hk;refine⟨g,off,xs[k],hA,axn hk,jC hc,?_⟩;rw[hc,axn hk];rfl
theorem Rd.cell{off:Nat}(h:Rd w (some ⟨g,off,none⟩) xs)(hk:xs[k]?=some x):
 w.cell? ⟨g,off+k,none⟩=some (.int .i64 x):=by
 have hl:k<xs.length:=by
  rcases ax9 k xs.length with h1|h1
  .exact h1
  .rw[ax2 h1]at hk;cases hk
 obtain⟨g',off',hA,hc⟩:=h.2 k hl;injection hA with hA;injection hA with e1 e2 _;subst e1 e2;rw[hc,hk];rfl
theorem Rd.nil(w:World)(A:Option Addr):Rd w A []:=⟨by simp,λj hj=>by simp at hj⟩
theorem Rd.keep(h:Rd w A xs)(hk:∀a:Addr,A=some a->a.block<w.heap.size->w'.heap[a.block]?=w.heap[a.block]?):Rd w' A xs:=
 ⟨h.1,λj hj=>by
  obtain⟨g,off,hA,hc⟩:=h.2 j hj;refine⟨g,off,hA,?_⟩;have hb:=hk _ hA (jC (p:=⟨g,off+j,none⟩) hc);rw[axP (w:=w) (a:=⟨g,off+j,none⟩) hb,hc]⟩
theorem Rd.ex(h:Rd w A xs)(he:Ex w w'):Rd w' A xs:=h.keep λ_ _ hl=>he.block hl
theorem Rd.drew(h:Rd w A xs):Rd w.drew A xs:=h
theorem Rd.sS(h:Rd w A xs)(hn:xs≠[]):∀a,A=some a->a.block<w.heap.size:=λa e=>by obtain⟨g,off,x,hA,_,hg,_⟩:=h.at_ (axB.2 hn);rw[hA]at e;injection e with e;subst e;exact hg
def Off(A:Option Addr)(g:Nat):Prop:=∀a,A=some a->a.block≠g
def Hi(B:Nat)(A:Option Addr):Prop:=∀a,A=some a->B<=a.block
def Lo(A:Option Addr)(B:Nat):Prop:=∀a,A=some a->a.block<B
theorem Lo.mono{B':Nat}(h:Lo A B)(hg:B<=B'):Lo A B':=λa e=>by have:=h a e;omega
theorem Hi.off(h:Hi B A)(hg:g<B):Off A g:=λa e=>by have:=h a e;omega
theorem Rd.aK(h:Rd w A xs)(he:aM g w w')(ho:Off A g):Rd w' A xs:=
 h.keep λa e hl=>he.block _ hl (by intro e2;injection e2 with e2;exact ho a e e2)
def aN(xs:List Int):Obj:=.cells (xs.map (Value.int .i64)).toArray 3 (0,0)
def Apart(A A':Option Addr):Prop:=∀a a',A=some a->A'=some a'->a.block≠a'.block
theorem Apart.aiD{A':Option Addr}(h:Lo A B)(k:Hi B A'):Apart A A':=λa a' e e'=>by have:=h a e;have:=k a' e';omega
theorem Rd.off(h:Rd w A xs)(hg:w.heap.size<=g)(hn:xs≠[]):Off A g:=λa e=>by have:=h.sS hn a e;omega
def dW(w:World)(g:Nat)(xs:List Int):Prop:=w.heap[g]?=some (aN xs)
theorem dW.lt(h:dW w g xs):g<w.heap.size:=aF h
theorem dW.cell(h:dW w g xs)(hi:xs[i]?=some x):w.cell? ⟨g,i,none⟩=some (.int .i64 x):=by unfold dW aN at h;simp[World.cell?,h,hi]
theorem dW.frozen(h:dW w g xs)(i:Nat):w.frozen? ⟨g,i,none⟩=false:=by unfold dW aN at h;simp[World.frozen?,h]
theorem dW.drew(h:dW w g xs):dW w.drew g xs:=h
theorem dW.ex(h:dW w g xs)(he:Ex w w'):dW w' g xs:=(he.block h.lt).trans h
theorem dW.aK(h:dW w g xs)(he:aM k w w')(hne:g≠k):dW w' g xs:=(he.block g h.lt (by intro e;injection e;omega)).trans h
theorem dW.bC(h:dW w g xs)(i:Nat)(x:Int):dW (w.setCell ⟨g,i,none⟩ (.int .i64 x)) g (xs.set i x):=by unfold dW aN at h⊢;simp[World.setCell,ayn,h]
theorem dW.rd(h:dW w g xs)(hl:xs.length<=1099511627776):Rd w (some ⟨g,0,none⟩) xs:=
 ⟨hl,λj hj=>⟨g,0,rfl,by
  rw[axT];exact(h.cell (axn hj)).trans (by rw[axn hj];rfl)⟩⟩
theorem dW.new(w:World)(xs:List Int):dW (w.alloc (aN xs)) w.heap.size xs:=heap_alloc_new w _
def Fr(w:World)(B:Nat)(A:Option Addr)(c:Nat)(xs:List Int):Prop:=
 Rd w A xs/\xs.length<=c/\∀a,A=some a->B<=a.block/\∃cur,w.heap[a.block]?=some (.cells cur 3 (0,0))
theorem Fr.rd(h:Fr w B A c xs):Rd w A xs:=h.1
theorem Fr.cap(h:Fr w B A c xs):xs.length<=c:=h.2.1
theorem Fr.hi(h:Fr w B A c xs):Hi B A:=λa e=>(h.2.2 a e).1
theorem Fr.lo(h:Fr w B A c xs):Lo A w.heap.size:=λa e=>by obtain⟨_,cur,hc⟩:=h.2.2 a e;exact aF hc
theorem Fr.more{B':Nat}(h:Fr w B A c xs)(hb:B'<=B):Fr w B' A c xs:=
 ⟨h.1,h.2.1,λa e=>⟨axA hb (h.2.2 a e).1,(h.2.2 a e).2⟩⟩
theorem Fr.ex(h:Fr w B A c xs)(he:Ex w w'):Fr w' B A c xs:=
 ⟨h.1.ex he,h.2.1,λa e=>by
  obtain⟨h1,cur,h2⟩:=h.2.2 a e;exact⟨h1,cur,(he.block (aF h2)).trans h2⟩⟩
theorem Fr.aK(h:Fr w B A c xs)(he:aM g w w')(ho:Off A g):Fr w' B A c xs:=
 ⟨h.1.aK he ho,h.2.1,λa e=>by
  obtain⟨h1,cur,h2⟩:=h.2.2 a e;exact⟨h1,cur,(he.block _ (aF h2) (by intro e2;injection e2 with e2;exact ho a e e2)).trans h2⟩⟩
theorem Fr.nil(w:World)(B c:Nat):Fr w B none c []:=⟨Rd.nil w _,by simp,λa e=>by cases e⟩
theorem Ze(n:Nat):(madeCells (Value.int .i64 0).cells (n*1))=((replicate n (0:Int)).map (Value.int .i64)).toArray:=by apply Array.toList_inj.1;rw[ays];show(madeCells #[Value.int .i64 0] n).toList=_;rw[toList_madeCells_one];simp
theorem Di:(prog.info? 3).map (λi=>(i.zero,i.size,i.bytes))=some (some (.int .i64 0),1,8):=by kernel_rfl
theorem fe(n:Nat)(hn:n<=1099511627776)(w:World):
 (Instr.makeSlice 55 (.int .i64 (n:Int)) (.int .i64 (n:Int))).run prog w=.ok (.slice (some ⟨w.heap.size,0,none⟩) n n) (w.alloc (aN (replicate n 0))):=by
 obtain⟨i,hi,hz,hs,hb⟩:=axW Di;have hr:=run_make (P:=prog) w 55 3 i (.int .i64 0) Tryz.underlying55 hi hz .i64 .i64 n n (by omega) (by omega) (by rw[hb];omega) (by omega);simp only[azi,hs]at hr;rw[Ze]at hr;exact hr
def Own(w:World)(g:Nat)(xs:List Int):Prop:=
 ∃cur:Array Value,w.heap[g]?=some (.cells cur 3 (0,0))/\∀(j:Nat) (x:Int),xs[j]?=some x->cur[j]?=some (.int .i64 x)
theorem dW.own(h:dW w g xs):Own w g xs:=⟨_,h,λj x hj=>by simp[hj]⟩
theorem Own.lt(h:Own w g xs):g<w.heap.size:=by obtain⟨_,hc,_⟩:=h;exact aF hc
theorem Own.cell(h:Own w g xs)(hi:xs[i]?=some x):w.cell? ⟨g,i,none⟩=some (.int .i64 x):=by obtain⟨cur,hc,hx⟩:=h;simp[World.cell?,hc,hx i x hi]
theorem Own.frozen(h:Own w g xs)(i:Nat):w.frozen? ⟨g,i,none⟩=false:=by obtain⟨cur,hc,_⟩:=h;simp[World.frozen?,hc]
theorem Own.drew(h:Own w g xs):Own w.drew g xs:=h
theorem Own.drewN(h:Own w g xs)(n:Nat):Own (w.drewN n) g xs:=h
theorem Own.ex(h:Own w g xs)(he:Ex w w'):Own w' g xs:=by have hl:=h.lt;obtain⟨cur,hc,hx⟩:=h;exact⟨cur,(he.block hl).trans hc,hx⟩
theorem Own.aK(h:Own w g xs)(he:aM k w w')(hne:g≠k):Own w' g xs:=by have hl:=h.lt;obtain⟨cur,hc,hx⟩:=h;exact⟨cur,(he.block g hl (by intro e;injection e;omega)).trans hc,hx⟩
theorem Own.bC(h:Own w g xs)(i:Nat)(x:Int):Own (w.setCell ⟨g,i,none⟩ (.int .i64 x)) g (xs.set i x):=by
 obtain⟨cur,hc,hx⟩:=h;refine⟨cur.setIfInBounds i (.int .i64 x),by simp[World.setCell,ayn,hc],λj y hj=>?_⟩;rw[axK]at hj;rw[ax1];split at hj
 .rename_i e;subst e;split at hj
  .rename_i hl;injection hj with hj;subst hj;have hi:=hx i _ (axn hl);have hlt:i<cur.size:=by
    rcases ax9 i cur.size with h1|h1
    .exact h1
    .rw[azA h1]at hi;cases hi
   simp[hlt]
  .cases hj
 .rename_i e;rw[axm e];exact hx j y hj
theorem Own.rd(h:Own w g xs)(hl:xs.length<=1099511627776):Rd w (some ⟨g,0,none⟩) xs:=
 ⟨hl,λj hj=>⟨g,0,rfl,by
  rw[axT];exact(h.cell (axn hj)).trans (by rw[axn hj];rfl)⟩⟩
theorem Own.fr(h:Own w g xs)(hl:xs.length<=1099511627776)(hB:B<=g)(hc:xs.length<=c):Fr w B (some ⟨g,0,none⟩) c xs:=
 ⟨h.rd hl,hc,λa e=>by injection e with e;subst e;obtain⟨cur,hh,_⟩:=h;exact⟨hB,cur,hh⟩⟩
theorem Own.new(w:World)(xs:List Int):Own (w.alloc (aN xs)) w.heap.size xs:=(dW.new w xs).own
theorem Fr.take{c':Nat}(h:Fr w B A c xs)(k:Nat)(hc:(xs.take k).length<=c'):Fr w B A c' (xs.take k):=
 ⟨⟨axA (ayL _ _) h.1.1,λj hj=>by
  obtain⟨g,off,hA,hcell⟩:=h.1.2 j (axD hj (ayL _ _));refine⟨g,off,hA,?_⟩;have hjk:j<k:=by rw[axx]at hj;omega
  rw[hcell,axL,axl hjk]⟩,hc,h.2.2⟩
theorem Rd.take(h:Rd w A xs)(k:Nat):Rd w A (xs.take k):=
 ⟨axA (ayL _ _) h.1,λj hj=>by
  obtain⟨g,off,hA,hcell⟩:=h.2 j (axD hj (ayL _ _));refine⟨g,off,hA,?_⟩;have hjk:j<k:=by rw[axx]at hj;omega
  rw[hcell,axL,axl hjk]⟩
def AL(w:World)(B:Nat)(v:Value)(xs:List Int):Prop:=w.ownsRow B 3 1 v xs.length (xs.map (Value.int .i64))
theorem AL.nil(w:World)(B:Nat):AL w B (.slice none 0 0) []:=World.ownsRow_nil w B 3 1
theorem AL.lt(h:AL w B v xs):∀k,v.ownBlock=some k->B<=k/\k<w.heap.size:=World.ownsRow.lt h
theorem AL.ex(h:AL w B v xs)(he:Ex w w'):AL w' B v xs:=by
 obtain⟨h1,h2⟩:=h;refine⟨h1,?_⟩;rcases h2 with h2|⟨g,cap,cur,hv,hB,hh,r⟩
 .exact .inl h2
 .exact .inr ⟨g,cap,cur,hv,hB,(he.block (aF hh)).trans hh,r⟩
theorem AL.form(h:AL w B v xs)(hl:xs.length<=1099511627776):∃A c,v=.slice A xs.length c/\Fr w B A c xs:=by
 obtain⟨_,h2⟩:=h;rcases h2 with⟨hv,hn⟩|⟨g,cap,cur,hv,hB,hh,hnc,_,_,ht⟩
 .have:xs=[]:=ayp hn;subst this;exact⟨none,0,hv,Fr.nil _ _ _⟩
 .refine⟨_,cap,hv,Own.fr (g:=g) ⟨cur,hh,λj x hj=>?_⟩ hl hB hnc⟩;have:(cur.toList.take (xs.length*1))[j]?=some (.int .i64 x):=by rw[ht];simp[hj]
  rw[axL]at this;split at this
  .simpa using this
  .cases this
theorem AL.own{o:Nat}(h:AL w B (.slice (some ⟨g,o,none⟩) n c) xs):o=0/\n=xs.length/\n<=c/\B<=g/\Own w g xs:=by
 obtain⟨_,h2⟩:=h;rcases h2 with⟨hv,_⟩|⟨g',cap,cur,hv,hB,hh,hnc,_,_,ht⟩
 .cases hv
 .injection hv with e1 e2 e3;injection e1 with e1;injection e1 with e4 e5 _;subst e2 e3 e4 e5;refine⟨rfl,rfl,hnc,hB,cur,hh,λj x hj=>?_⟩;have:(cur.toList.take (xs.length*1))[j]?=some (.int .i64 x):=by rw[ht];simp[hj]
  rw[axL]at this;split at this
  .simpa using this
  .cases this
theorem AL.empty(w:World)(hB:B<=w.heap.size):AL (w.alloc (aN [])) B (.slice (some ⟨w.heap.size,0,none⟩) 0 0) []:=
 ⟨rfl,.inr ⟨w.heap.size,0,#[],rfl,hB,heap_alloc_new w _,axk _,axq _,rfl,rfl⟩⟩
theorem wpList_append_run{P:Program}{ops:Array Oper}{rest:List Oper}{o:Oper}{a:Act}{Q:Exit->Act->World->Prop}(hgd:o.guard=none)(s x:Operand)(t:TypeId)
 (ho:o.op=.call {callee:=.builtin .append,args:= #[s,x],argTypes:= #[t,t]}) {vs vx v':Value} {w':World} (hs:a.eval s=vs) (hx:a.eval x=vx)
 (hrun:(Builtin.append_ #[t,t] o.type #[vs,vx]).run P w=.ok v' w') (h:wpList P ops Q rest (a.put o.dst v') w'):wpList P ops Q (o::rest) a w:=
 wpList_plain hgd λK hK=>by unfold Oper.wp execOp;simp only[ho,resolve,invoke,builtin,Sem.run_bind,Sem.run_pure,Result.andThen_ok,List.map_toArray,List.map_cons,List.map_nil,hs,hx,hrun];exact hK _ _ h
theorem bK(t ty:TypeId)(ht:prog.underlying t=some (.slice 3))(w:World)(B:Nat)(v:Value)(ys:List Int)(hv:AL w B v ys)(hB:B<=w.heap.size)(A:Option Addr)(c:Nat)(xs:List Int)(h:Rd w A xs)
 (hl:ys.length+xs.length<=1099511627776):
 ∃v' w',(Builtin.append_ #[t,t] ty #[v,.slice A xs.length c]).run prog w=.ok v' w'/\AL w' B v' (ys++xs)/\qh v.ownBlock w w'/\(v'.ownBlock=v.ownBlock∨v'.ownBlock=some w.heap.size):=by
 obtain⟨i,hi,hz,hs,hb⟩:=axW Di;rcases A with _|ad
 .have hx:xs=[]:=by
   cases xs with
   |nil=>rfl
   |cons x xs=>obtain⟨g,off,hA,_⟩:=h.2 0 (by simp);cases hA
  subst hx;refine⟨v,w,?_,by simpa using hv,qh.refl _ _,.inl rfl⟩;rcases hv.2 with⟨rfl,_⟩|⟨g,cap,cur,rfl,_,_,hnc,_⟩
  .simp[Builtin.append_,ayj ht,sizeOf,typeInfo,hi,Builtin.lenOf,Builtin.firstCells]
  .simp[Builtin.append_,ayj ht,sizeOf,typeInfo,hi,Builtin.lenOf,Builtin.firstCells,hnc,storeCells]
 .have hc:∀(j:Nat) (u:Value),(xs.map (Value.int .i64))[j]?=some u->w.cell? (ad.add j)=some u:=by
   intro j u hu;rw[axw]at hu;cases hj:xs[j]? with
   |none=>rw[hj]at hu;cases hu
   |some x=>
    rw[hj]at hu;injection hu with hu;subst hu;have hlt:j<xs.length:=by
     rcases ax9 j xs.length with h1|h1
     .exact h1
     .rw[ax2 h1]at hj;cases hj
    obtain⟨g,off,hA,hcell⟩:=h.2 j hlt;injection hA with hA;subst hA;have e:(⟨g,off,none⟩:Addr).add j=⟨g,off+j,none⟩:=by unfold Addr.add;split<;>simp_all
    rw[e,hcell,hj];rfl
  obtain⟨v',w',hrun,h2,h3,_,h5⟩:=run_append_own_at (P:=prog) w B t ty 3 i (.int .i64 0) 1 8 ht hi hz hs hb rfl (by omega) v ys.length _ hv ad xs.length c (xs.map (Value.int .i64)) (by simp) hc (by
   intro u hu;obtain⟨x,_,rfl⟩:=axr.1 hu;rfl) (by unfold maxLen;omega) (by omega) hB
  refine⟨v',w',hrun,?_,h3,h5⟩;unfold AL;rw[axv,ax4];exact h2
def VB(w:World)(g:Nat)(t:TypeId)(cs:Array Value):Prop:=w.heap[g]?=some (.cells cs t (0,0))
theorem VB.cell{t:TypeId}(h:VB w g t cs)(i:Nat)(hv:cs[i]?=some v):w.cell? ⟨g,i,none⟩=some v:=by unfold VB at h;simp[World.cell?,h,hv]
theorem VB.c0{t:TypeId}{a:Value}(h:VB w g t (a::l).toArray):w.cell? ⟨g,0,none⟩=some a:=h.cell 0 rfl
theorem VB.c1{t:TypeId}{a:Value}(h:VB w g t (a::b::l).toArray):w.cell? ⟨g,1,none⟩=some b:=h.cell 1 rfl
theorem VB.c2{t:TypeId}{a c:Value}(h:VB w g t (a::b::c::l).toArray):w.cell? ⟨g,2,none⟩=some c:=h.cell 2 rfl
theorem VB.c3{t:TypeId}{a c:Value}(h:VB w g t (a::b::c::d::l).toArray):w.cell? ⟨g,3,none⟩=some d:=h.cell 3 rfl
theorem VB.c4{t:TypeId}{a c:Value}(h:VB w g t (a::b::c::d::e::l).toArray):w.cell? ⟨g,4,none⟩=some e:=h.cell 4 rfl
theorem VB.c5{t:TypeId}{a c f:Value}(h:VB w g t (a::b::c::d::e::f::l).toArray):w.cell? ⟨g,5,none⟩=some f:=h.cell 5 rfl
theorem VB.c6{t:TypeId}{a c f i:Value}(h:VB w g t (a::b::c::d::e::f::i::l).toArray):w.cell? ⟨g,6,none⟩=some i:=h.cell 6 rfl
theorem VB.d2{t:TypeId}{a:Value}(h:VB w g t (a::b::l).toArray):w.cell? ⟨g,0,none⟩=some a/\w.cell? ⟨g,1,none⟩=some b:=⟨h.c0,h.c1⟩
theorem VB.d3{t:TypeId}{a c:Value}(h:VB w g t (a::b::c::l).toArray):w.cell? ⟨g,0,none⟩=some a/\w.cell? ⟨g,1,none⟩=some b/\w.cell? ⟨g,2,none⟩=some c:=⟨h.c0,h.c1,h.c2⟩
theorem VB.d4{t:TypeId}{a c:Value}(h:VB w g t (a::b::c::d::l).toArray):w.cell? ⟨g,0,none⟩=some a/\w.cell? ⟨g,1,none⟩=some b/\w.cell? ⟨g,2,none⟩=some c/\w.cell? ⟨g,3,none⟩=some d:=⟨h.c0,h.c1,h.c2,h.c3⟩
theorem VB.frozen{t:TypeId}(h:VB w g t cs)(i:Nat):w.frozen? ⟨g,i,none⟩=false:=by unfold VB at h;simp[World.frozen?,h]
theorem VB.lt{t:TypeId}(h:VB w g t cs):g<w.heap.size:=aF h
theorem VB.ex{t:TypeId}(h:VB w g t cs)(he:Ex w w'):VB w' g t cs:=(he.block h.lt).trans h
theorem VB.aK{t:TypeId}(h:VB w g t cs)(he:aM k w w')(hne:g≠k):VB w' g t cs:=(he.block g h.lt (by intro e;injection e;omega)).trans h
theorem VB.bC{t:TypeId}(h:VB w g t cs)(i:Nat)(v:Value):VB (w.setCell ⟨g,i,none⟩ v) g t (cs.setIfInBounds i v):=by unfold VB at h⊢;simp[World.setCell,ayn,h]
theorem VB.new(w:World)(t:TypeId)(cs:Array Value):VB (w.alloc (.cells cs t)) w.heap.size t cs:=heap_alloc_new w _
theorem af(h:Ex w w'){o:Nat}(hc:w.cell? ⟨g,o,none⟩=some v):w'.cell? ⟨g,o,none⟩=some v:=
 (axP (w:=w) (a:=⟨g,o,none⟩) (h.block (jC (p:=⟨g,o,none⟩) hc))).trans hc
theorem VB.xn(w:World)(t:TypeId)(cs:Array Value):Ex w (w.alloc (.cells cs t))/\VB (w.alloc (.cells cs t)) w.heap.size t cs:=⟨(aCQ w).alloc _,VB.new w t cs⟩
theorem VB.al(w:World)(t:TypeId)(cs:Array Value):Ex w (w.alloc (.cells cs t))/\VB (w.alloc (.cells cs t)) w.heap.size t cs/\∃W,w.alloc (.cells cs t)=W:=⟨(aCQ w).alloc _,VB.new w t cs,_,rfl⟩
theorem VB.an(w:World)(t:TypeId)(cs:Array Value)(h:w.heap.size=n):∃W,w.alloc (.cells cs t)=W/\Ex w W/\VB W n t cs/\W.heap.size=n+1:=⟨_,rfl,(aCQ w).alloc _,h▸VB.new w t cs,by simp[h]⟩
theorem VB.three(w:World)(t:TypeId)(a b c:Array Value):∃u,((w.alloc (.cells a t)).alloc (.cells b t)).alloc (.cells c t)=u/\Ex w u/\VB u w.heap.size t a/\VB u (w.heap.size+1) t b/\VB u (w.heap.size+1+1) t c/\w.heap.size+3<=u.heap.size:=by obtain⟨u1,h1,x1,d1,s1⟩:=VB.an w t a rfl;obtain⟨u2,h2,x2,d2,s2⟩:=VB.an u1 t b s1;obtain⟨u3,h3,x3,d3,s3⟩:=VB.an u2 t c s2;exact⟨u3,by rw[h1,h2,h3],(x1.trans x2).trans x3,(d1.ex x2).ex x3,d2.ex x3,d3,by omega⟩
theorem VB.z2{t:TypeId}(h:VB w g t cs):w.frozen? ⟨g,0,none⟩=false/\w.frozen? ⟨g,1,none⟩=false:=⟨h.frozen 0,h.frozen 1⟩
theorem VB.z3{t:TypeId}(h:VB w g t cs):w.frozen? ⟨g,0,none⟩=false/\w.frozen? ⟨g,1,none⟩=false/\w.frozen? ⟨g,2,none⟩=false:=⟨h.frozen 0,h.frozen 1,h.frozen 2⟩
theorem VB.drew{t:TypeId}(h:VB w g t cs):VB w.drew g t cs:=h
theorem AL.e1(h:AL w B v xs)(he:aM g w w')(hg:g<B):AL w' B v xs:=by
 obtain⟨h1,h2⟩:=h;refine⟨h1,?_⟩;rcases h2 with h2|⟨b,cap,cur,hv,hB,hh,r⟩
 .exact .inl h2
 .exact .inr ⟨b,cap,cur,hv,hB,(he.block b (aF hh) (by intro e;injection e;omega)).trans hh,r⟩
theorem aH{P:Program}{ops:Array Oper}{o:Oper}{a:Act}{K:Act->World->Prop}{Q:Exit->Act->World->Prop}{E:Prop}
 (hg:o.guard=none) (s x:Operand) (t:TypeId) (ho:o.op=Op.call {callee:=Callee.builtin Builtin.append,args:= #[s,x],argTypes:= #[t,t]})
 {vs vx v':Value} {w':World} (hs:a.eval s=vs) (hx:a.eval x=vx) (hrun:(Builtin.append_ #[t,t] o.type #[vs,vx]).run P w=.ok v' w') (hK:K (a.put o.dst v') w'):
 if Region.wanted o (yielded ops a.tmps)=true then Oper.wp P o a w K Q else E:=by
 have hw:Region.wanted o (yielded ops a.tmps)=true:=by simp[Region.wanted,hg]
 rw[axl hw];unfold Oper.wp execOp;simp only[ho,resolve,invoke,builtin,Sem.run_bind,Sem.run_pure,Result.andThen_ok,List.map_toArray,List.map_cons,List.map_nil,hs,hx,hrun];exact hK
def mk(k:Int)(n:Nat):List Int:=(range n).map λj:Nat=>k+(j:Int)
theorem xH(k:Int)(n:Nat):(mk k n).length=n:=by simp[mk]
theorem N8(hF:av p=true):∀(n:Nat) {f g:List Int},aA p f=true->aA p g=true->Tr f->Tr g->(gcdL p n f g).length<=max f.length g.length
 |0,f,g,_,_,_,_=>by rw[gcdL];omega
 |n+1,f,g,hf,hg,tf,tg=>by
  rw[gcdL];split
  .omega
  .rename_i h0;have h2:=ax hF;have hl:=mE hF hf hg tg h0;have:=N8 hF n hg (mF (by omega) hf g) tg (mD p tf g);omega
theorem aae(hF:av p=true){g:List Int}(hf:aA p f=true)(hg:aA p g=true)(tf:Tr f)(tg:Tr g)(h0:g≠[]):(kT p f g).length<=g.length:=by have h2:=ax hF;have hl:=mE hF hf hg tg h0;rw[qW hF hf hg tf tg h0,kT];have:=N8 hF ((dY p f g).length+1) hg (mF (by omega) hf g) tg (mD p tf g);omega
theorem qU(hF:av p=true){g:List Int}(hf:aA p f=true)(hg:aA p g=true)(tf:Tr f)(tg:Tr g)(h0:f≠[]∨g≠[]):(bZ p f g).length=(kT p f g).length/\cf (bZ p f g) ((bZ p f g).length-1)=1:=by have h2:=ax hF;have:=sG hF (T_ (by omega) hf hg) (TY p tf tg) (J6 p h0);refine⟨this.1,?_⟩;rw[bZ,this.1];exact this.2
theorem lW(hF:av p=true){g:List Int}(hf:aA p f=true)(hg:aA p g=true)(tf:Tr f)(tg:Tr g)(h0:f≠[]∨g≠[]):bZ p f g≠[]:=by intro e;have:=(qU hF hf hg tf tg h0).1;rw[e]at this;exact J6 p h0 (ayp this.symm)
theorem R3(p:Int)(g:List Int)(b:Int)(k:Nat)(r:List Int):cf (bU p g b (k+1) r).1 k=cf r (k+g.length-1)*b%p:=by rw[bU];simp only[cf];rw[axN (by rw[(qX _ _ _ _ _).1];exact axk _),(qX _ _ _ _ _).1];simp
theorem Vk(hF:av p=true){g:List Int}(hf:aA p f=true)(hg:aA p g=true)(tf:Tr f)(tg:Tr g)(hg0:g≠[])(hle:g.length<=f.length):(bH p f g).length=f.length-g.length+1:=by
 have h2:=ax hF;have hgl:=axB.2 hg0;have hf0:f≠[]:=by intro e;rw[e]at hle;simp at hle;exact hg0 hle
 rw[bH,axm (by omega)];have hlen:=(qX p g (dh p (cf g (g.length-1))) (f.length-g.length+1) f).1;have ht:Tr (bU p g (dh p (cf g (g.length-1))) (f.length-g.length+1) f).1:=by
  refine Tr.yO (by intro e;rw[e]at hlen;simp at hlen) ?_;rw[hlen,ay7,R3];have b1:=iO hf (show 0<p by omega) (f.length-1);have b2:=iO hg (show 0<p by omega) (g.length-1);have n1:=tf.last hf0;have n2:=tg.last hg0;have e:f.length-g.length+g.length-1=f.length-1:=by omega
  rw[e];have hi:=kS (cf g (g.length-1)) h2;have hg1:0<cf g (g.length-1):=by omega
  have hm:=inv_mul hF hg1 b2.2;have hi0:dh p (cf g (g.length-1))≠0:=by intro e;rw[e]at hm;simp at hm
  exact noz hF ⟨by omega,b1.2⟩ ⟨by have:=hi.1;omega,hi.2⟩
 rw[ht,hlen]
theorem inv_one(h2:2<=p):dh p 1=1:=by rw[dh,Int.one_pow];exact ayl (by omega) (by omega)
theorem KC(h2:2<=p):aA p [1]=true:=by simp[aA,iF];omega
theorem XF:Tr [1]:=rfl
theorem WH(h2:2<=p)(k:Nat):∀{r:List Int},aA p r=true->k<=r.length->(bU p [1] 1 k r).1=r.take k:=by
 induction k with
 |zero=>intro r _ _;rfl
 |succ k ih=>
  intro r hr hk;rw[bU,ih (oz hr (by omega) _ _ _) (by rw[aX];omega)];simp only[ayt,ay7,Int.mul_one];have hb:=iO hr (show 0<p by omega) k;rw[ayl hb.1 hb.2,axy];have hk':r[k]?=some (cf r k):=by rw[cf,axn (by omega)];rfl
  rw[hk'];congr 1;apply aaZ (by rw[axx,axx,aX]);intro i;by_cases hi:i<k
  .simp only[cf,axL,axl hi];have:=jl p r k (-cf r k) [1] i;simp only[cf]at this;rw[this];rw[axl (by omega),axm (by omega)]
  .rw[iN (by rw[axx];omega),iN (by rw[axx];omega)]
theorem Ij(h2:2<=p)(hf:aA p f=true)(tf:Tr f):bH p f [1]=f:=by
 rw[bH];split
 .rename_i h;simp at h;exact h.symm
 .rename_i h;have e:dh p (cf [1] (([1]:List Int).length-1))=1:=inv_one h2;have hfl:1<=f.length:=by simp at h;exact axB.2 h
  rw[e,WH h2 _ hf (by simp;omega)];rw[axG (by simp;omega)];exact tf
theorem Ey(h2:2<=p)(hf:aA p f=true)(tf:Tr f):aW p 1 f=f:=by
 have t1:=vH p [] 1 f;unfold Tr at t1 tf;rw[<-tf,aW]
 conv=>lhs;rw[tf]
 rw[<-t1];refine t_ λi=>?_
 have:=AP p 1 f (by omega) i;rw[aW]at this;have hb:=iO hf (show 0<p by omega) i;rw[this,Int.one_mul,ayl hb.1 hb.2]
theorem Qs(hF:av p=true){b:Int}(hb:0<b/\b<p)(hf:aA p f=true)(tf:Tr f):(aW p b f).length=f.length:=by
 have h2:=ax hF;by_cases h0:f=[]
 .subst h0;rfl
 have hfl:=axB.2 h0;have hle:(aW p b f).length<=f.length:=by have:=Db p [] b f;simpa[aW]using this
 rcases ax9 (aW p b f).length f.length with h|h
 .have h1:=AP p b f (by omega) (f.length-1);rw[iN (by omega)]at h1;have b1:=iO hf (show 0<p by omega) (f.length-1);have n1:=tf.last h0;exact absurd h1.symm (noz hF hb ⟨by omega,b1.2⟩)
 .omega
def dQ(p:Int)(num den:List Int):List Int:=bH p den (bZ p num den)
def jG(p:Int)(num den:List Int):Int:=dh p (cf (dQ p num den) ((dQ p num den).length-1))
def a_(p:Int)(num den:List Int):List Int:=if num=[]then[]else aW p (jG p num den) (bH p num (bZ p num den))
def aY(p:Int)(num den:List Int):List Int:=if num=[]then[1]else aW p (jG p num den) (dQ p num den)
def dm(p:Int)(num den:List Int):Bool:=bT p num&&bT p den&&decide (num.length<=21)&&decide (den.length<=21)&&decide (den≠[])&&decide (cf den (den.length-1)=1)&&decide ((bZ p num den).length=1)
theorem qK(hF:av p=true)(hn:aA p num=true)(hd:aA p den=true)(tn:Tr num)(td:Tr den)(hd0:den≠[]):
 (dQ p num den).length=den.length-(bZ p num den).length+1/\1<=(bZ p num den).length/\(bZ p num den).length<=den.length:=by
 have h2:=ax hF;have hg:=qU hF hn hd tn td (.inr hd0);have hgl:=aae hF hn hd tn td hd0;have hgn:=axB.2 (lW hF hn hd tn td (.inr hd0));refine⟨Vk hF hd (nD (by omega) _ _) td (o_ _ _ _) (lW hF hn hd tn td (.inr hd0)) (by omega),hgn,by omega⟩
theorem Fp(hF:av p=true)(hn:aA p num=true)(hd:aA p den=true)(tn:Tr num)(td:Tr den)(hd0:den≠[])(h1:(bZ p num den).length=1):bZ p num den=[1]:=by
 have hg:=(qU hF hn hd tn td (.inr hd0)).2;rw[h1]at hg
 match hm:bZ p num den,h1 with
 |[x],_=>rw[hm]at hg;simp[cf]at hg;rw[hg]
theorem Nq(hF:av p=true)(hn:aA p num=true)(hd:aA p den=true)(tn:Tr num)(td:Tr den)(hd0:den≠[]):
 (a_ p num den=num/\aY p num den=den)↔(cf den (den.length-1)=1/\(bZ p num den).length=1):=by
 have h2:=ax hF;have hdl:=axB.2 hd0;by_cases hn0:num=[]
 .subst hn0;have hr:dY p [] den=[]:=by rw[dY,axl (by simpa using hdl)]
  have hE:kT p [] den=den:=by rw[qW hF hn hd tn td hd0,hr,zo]
  have hgl:=(qU hF hn hd tn td (.inr hd0)).1;rw[hE]at hgl;rw[a_,aY,axl rfl,axl rfl,hgl];constructor
  .rintro⟨_,h⟩;rw[<-h];exact⟨rfl,rfl⟩
  .rintro⟨h1,h2⟩;refine⟨rfl,?_⟩
   match den,h2 with
   |[x],_=>simp[cf]at h1;rw[h1]
 .obtain⟨hml,hg1,hgd⟩:=qK hF hn hd tn td hd0;have hme:aA p (dQ p num den)=true:=kP (by omega) hd _;have hmt:Tr (dQ p num den):=qG _ _ _;have hm0:dQ p num den≠[]:=by intro e;rw[e]at hml;simp at hml
  have hmon:=sG hF hme hmt hm0;have hLD:aY p num den=eU p (dQ p num den):=by rw[aY,axm hn0,jG,eU]
  constructor
  .rintro⟨_,h⟩;rw[hLD]at h;have hl:=hmon.1;rw[h]at hl;refine⟨?_,by omega⟩;have:=hmon.2;rw[h,<-hl]at this;exact this
  .rintro⟨hmo,h1⟩;have hg:=Fp hF hn hd tn td hd0 h1;have hM:dQ p num den=den:=by rw[dQ,hg,Ij h2 hd td]
   have hB:jG p num den=1:=by rw[jG,hM,hmo,inv_one h2]
   rw[a_,aY,axm hn0,axm hn0,hB,hM,hg,Ij h2 hn tn,Ey h2 hn tn,Ey h2 hd td];exact⟨rfl,rfl⟩
theorem uN(h:dm p num den=true):av p=true/\bT p num=true/\bT p den=true/\num.length<=21/\den.length<=21/\den≠[]/\cf den (den.length-1)=1/\(bZ p num den).length=1:=by simp only[dm,axU,decide_eq_true_eq]at h;exact⟨(iE h.1.1.1.1.1.1).1,h.1.1.1.1.1.1,h.1.1.1.1.1.2,h.1.1.1.1.2,h.1.1.1.2,h.1.1.2,h.1.2,h.2⟩
end Go.Proofs.YthgiffhlfcmgaaaGreatDoor
