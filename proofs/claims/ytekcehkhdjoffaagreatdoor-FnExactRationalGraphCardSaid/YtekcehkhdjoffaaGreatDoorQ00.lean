/- Lemmas and walks on terms over rational functions: Plain arithmetic, no program in sight: the .. -/
import Derived.Test.YtekcehkhdjoffaaGreatDoorQ99
import Derived.WalkKit
import Derived.Test.YtekcehkhdjoffaaGreatDoorProg
import Derived.Deep.Draws
import Derived.Lib.Hide
import Derived.Maps.AppendAt
import Derived.Deep.QuietTactic
import Derived.BigQuiet
import Derived.StillTailTactics
import Derived.Laws.CopyOwn
namespace Go.Proofs.YtekcehkhdjoffaaGreatDoor
open List(range)
open List(replicate)
open _root_.Go.Proofs.Tryz(prog)
set_option maxRecDepth 100000
set_option maxHeartbeats 8000000
set_option linter.all false
variable{cs:Array Value}{p x:Int}{f xs:List Int}{l:List Value}{B c g i k n:Nat}{A:Option Addr}{o:Option Nat}{b d e v:Value}{a w w':World}
def aj(p:Int):Bool:=decide (2<=p)&&decide (p<=97)&&(([2,3,5,7]:List Int).all λq=>decide (p%q≠0)||decide (p=q))
def fe(p a:Int):Bool:=decide (0<=a)&&decide (a<p)
def bN(lo hi n:Int):Bool:=decide (lo<=n)&&decide (n<=hi)
def av(p:Int)(xs:List Int):Bool:=xs.all (fe p)
theorem au(h:aj p=true):2<=p:=by simp[aj]at h;exact h.1.1
theorem aQ(h:aj p=true):p<=97:=by simp[aj]at h;exact h.1.2
theorem Yb(p:Int):bN 0 (p-1)=fe p:=by funext a;simp only[bN,fe];congr 1;exact decide_eq_decide.2 (by omega)
theorem Ae:∀p:Nat,p<98->2<=p->(aj (p:Int)=(range 10).all λk=>decide (k<2)||decide ((p:Int)<(k:Int)*(k:Int))||decide ((p:Int)%(k:Int)≠0)):=by decide+kernel
theorem NQ(h2:2<=p)(h97:p<=97)(k:Nat)(hk:2<=k)(hkk:(k:Int)*(k:Int)<=p)(hm:p%(k:Int)=0):aj p=false:=by
 obtain⟨n,rfl⟩:=an0 (by omega:0<=p);have hk10:k<10:=by
  rcases anM k 10 with h|h
  .exact h
  .have:(10:Int)*10<=(k:Int)*(k:Int):=Int.mul_le_mul (by omega) (by omega) (by omega) (by omega);omega
 rw[show aj (n:Int)=_ from Ae n (by omega) (by omega)];rw[aof];exact⟨k,by simpa using hk10,by simp;omega⟩
theorem JA(h2:2<=p)(h97:p<=97)(k:Nat)(hkk:p<(k:Int)*(k:Int))(hall:∀j:Nat,2<=j->j<k->p%(j:Int)≠0):aj p=true:=by
 obtain⟨n,rfl⟩:=an0 (by omega:0<=p);rw[show aj (n:Int)=_ from Ae n (by omega) (by omega)];rw[anl];intro j hj;by_cases h1:j<2
 .simp[h1]
 by_cases hjk:j<k
 .simp[hall j (by omega) hjk]
 .have:(k:Int)*(k:Int)<=(j:Int)*(j:Int):=Int.mul_le_mul (by omega) (by omega) (by omega) (by omega);simp;omega
theorem bI(h:av p xs=true)(hx:xs[i]?=some x):0<=x/\x<p:=by have:=anl.1 h x (am1 hx);simpa[fe]using this
theorem iI(h:∀(i:Nat) (x:Int),xs[i]?=some x->0<=x/\x<p):av p xs=true:=by rw[av,anl];intro x hx;obtain⟨i,hi⟩:=anc hx;simpa[fe]using h i x hi
theorem sj{y:Int}(hx:0<=x/\x<=96)(hy:0<=y/\y<=96):0<=x*y/\x*y<=9216:=
 ⟨Int.mul_nonneg hx.1 hy.1,by have:=Int.mul_le_mul hx.2 hy.2 hy.1 (by omega);omega⟩
def bO(p a:Int):Int:=a^(p-2+if p=2 then 1 else 0).toNat%p
def invS(p a:Int):Nat->Int->Int
 |0,_=>0
 |n+1,k=>if a*k%p=1 then k else invS p a n (k+1)
theorem U1:((range 98).all λp=> !(aj (p:Int))||(range p).all λa=>decide (a=0)||(decide ((a:Int)*bO (p:Int) (a:Int)%(p:Int)=1)&&decide (invS (p:Int) (a:Int) (p-1) 1=bO (p:Int) (a:Int))))=true:=by decide+kernel
theorem UH:((range 98).all λp=> !(aj (p:Int))||(range p).all λa=>(range p).all λb=>decide (a=0)||decide (b=0)||decide (a*b%p≠0))=true:=by decide+kernel
theorem FX{a:Int}(hf:aj p=true)(h0:0<a)(ha:a<p):a*bO p a%p=1/\invS p a (p-1).toNat 1=bO p a:=by
 have h2:=au hf;have h97:=aQ hf;obtain⟨n,rfl⟩:=an0 (by omega:0<=p);obtain⟨m,rfl⟩:=an0 (by omega:0<=a);have h:=anl.1 U1 n (by simp;omega);rw[hf]at h;simp only[Bool.not_true,Bool.false_or]at h;have h':=anl.1 h m (by simp;omega);simp only[aoI,anx,decide_eq_true_eq]at h';rcases h' with h'|h'
 .omega
 .refine⟨h'.1,?_⟩;have e:((n:Int)-1).toNat=n-1:=by omega
  rw[e];exact h'.2
theorem inv_mul{a:Int}(hf:aj p=true)(h0:0<a)(ha:a<p):a*bO p a%p=1:=(FX hf h0 ha).1
theorem jL(a:Int)(h2:2<=p):0<=bO p a/\bO p a<p:=⟨anV _ (by omega),anW _ (by omega)⟩
theorem X0{a b:Int}(hf:aj p=true)(ha:0<a/\a<p)(hb:0<b/\b<p):a*b%p≠0:=by
 have h2:=au hf;have h97:=aQ hf;obtain⟨n,rfl⟩:=an0 (by omega:0<=p);obtain⟨k,rfl⟩:=an0 (by omega:0<=a);obtain⟨l,rfl⟩:=an0 (by omega:0<=b);have h:=anl.1 UH n (by simp;omega);rw[hf]at h;simp only[Bool.not_true,Bool.false_or]at h;have h':=anl.1 (anl.1 h k (by simp;omega)) l (by simp;omega);simp only[aoI,decide_eq_true_eq]at h';rcases h' with(h'|h')|h'
 .omega
 .omega
 .intro e;apply h';have:((k*l%n:Nat):Int)=0:=by push_cast;exact e
  exact_mod_cast this
def cf(xs:List Int)(i:Nat):Int:=xs[i]?.getD 0
theorem iW(h:xs[i]?=some x):cf xs i=x:=by simp[cf,h]
theorem gU(h:xs.length<=i):cf xs i=0:=by simp[cf,anz h]
theorem fU(h:av p xs=true)(hp:0<p)(i:Nat):0<=cf xs i/\cf xs i<p:=by
 rcases anM i xs.length with hi|hi
 .exact iW (am0 hi)▸bI h (am0 hi)
 .rw[gU hi];omega
theorem Tj{ys:List Int}(hl:xs.length=ys.length)(h:∀i,cf xs i=cf ys i):xs=ys:=by apply aoB hl;intro i h1 h2;have:=h i;rwa[cf,cf,am0 h1,am0 h2]at this
def trim:List Int->List Int
 |[]=>[]
 |x::xs=>match trim xs with
  |[]=>if x=0 then[]else[x]
  |ys=>x::ys
theorem jv(x:Int)(xs:List Int):trim (x::xs)=if trim xs=[]/\x=0 then[]else x::trim xs:=by
 rw[trim];split
 .rename_i h;rw[h];simp
 .rename_i h;rw[amZ (by intro⟨h1,_⟩;exact h h1)]
theorem iD(i:Nat):cf [] i=0:=rfl
theorem yB(x:Int)(xs:List Int):cf (x::xs) 0=x:=rfl
theorem jO(x:Int)(xs:List Int)(i:Nat):cf (x::xs) (i+1)=cf xs i:=rfl
theorem bU:∀(xs:List Int) (i:Nat),cf (trim xs) i=cf xs i
 |[],_=>rfl
 |x::xs,i=>by
  rw[jv];split
  .rename_i h;cases i with
   |zero=>rw[yB,h.2];rfl
   |succ i=>rw[jO,<-bU xs i,h.1];rfl
  .cases i with
   |zero=>rfl
   |succ i=>rw[jO,jO,bU xs i]
theorem j6:∀(xs:List Int),trim xs=[]↔∀i,cf xs i=0
 |[]=>by simp[trim,iD]
 |x::xs=>by
  rw[jv];constructor
  .intro h;split at h
   .rename_i h';intro i;cases i with
    |zero=>exact h'.2
    |succ i=>exact(j6 xs).1 h'.1 i
   .cases h
  .intro h;rw[amY ⟨(j6 xs).2 λi=>h (i+1),h 0⟩]
theorem pM:∀{xs ys:List Int},(∀i,cf xs i=cf ys i)->trim xs=trim ys
 |[],ys,h=>by
  symm
  exact(j6 ys).2 λi=>(h i).symm
 |x::xs,[],h=>(j6 _).2 h
 |x::xs,y::ys,h=>by
  have e:trim xs=trim ys:=pM λi=>h (i+1)
  have e0:x=y:=h 0;rw[jv,jv,e,e0]
theorem LF(xs:List Int):trim (trim xs)=trim xs:=pM (bU xs)
theorem gD:∀(xs:List Int),(trim xs).length<=xs.length
 |[]=>amX _
 |x::xs=>by have:=gD xs;rw[jv];split<;>simp<;>omega
theorem mG:∀(xs:List Int),trim xs=xs.take (trim xs).length
 |[]=>rfl
 |x::xs=>by
  rw[jv];split
  .rfl
  .rw[anJ,aoO,<-mG xs]
theorem yG(xs:List Int):trim (xs++[0])=trim xs:=pM λi=>by
 simp only[cf,aoj];split
 .rfl
 .rename_i h;rw[anz (by omega:xs.length<=i)];cases hk:i-xs.length with
  |zero=>rfl
  |succ k=>rfl
theorem BN(xs:List Int){a:Int}(h:a≠0):trim (xs++[a])=xs++[a]:=by
 induction xs with
 |nil=>simp[trim,h]
 |cons x xs ih=>rw[List.cons_append,jv,ih,amZ];intro⟨h1,_⟩;simp at h1
def Tr(xs:List Int):Prop:=trim xs=xs
theorem Tr.trim(xs:List Int):Tr (trim xs):=LF xs
theorem Tr.nil:Tr []:=rfl
theorem Tr.qH(h:xs≠[])(hl:cf xs (xs.length-1)≠0):Tr xs:=by obtain⟨ys,a,rfl⟩:∃ys a,xs=ys++[a]:=⟨xs.dropLast,xs.getLast h,(List.dropLast_concat_getLast h).symm⟩;exact BN ys (by simpa[cf]using hl)
theorem Tr.last(h:Tr xs)(hn:xs≠[]):cf xs (xs.length-1)≠0:=by
 obtain⟨ys,a,rfl⟩:∃ys a,xs=ys++[a]:=⟨xs.dropLast,xs.getLast hn,(List.dropLast_concat_getLast hn).symm⟩;intro h0;have ha:a=0:=by simpa[cf]using h0
 subst ha;unfold Tr at h;rw[yG]at h;have:=gD ys;rw[h]at this;simp at this;omega
theorem ED(h:∀i,n<=i->cf xs i=0):(trim xs).length<=n:=by
 rcases anM n (trim xs).length with hl|hl
 .exfalso;have hne:trim xs≠[]:=by intro e;rw[e]at hl;simp at hl
  have:=(Tr.trim xs).last hne;rw[bU]at this;exact this (h _ (by omega))
 .exact hl
theorem j_(h:av p xs=true):av p (trim xs)=true:=iI λi x hx=>by
 rw[mG,anh]at hx;split at hx
 .exact bI h hx
 .cases hx
def bA(p:Int)(v:List Int)(s:Nat)(by_:Int)(w:List Int):List Int:=
 (range v.length).map λi=>if s<=i/\i-s<w.length then(cf v i+by_*cf w (i-s))%p else cf v i
theorem aS(p:Int)(v:List Int)(s:Nat)(b:Int)(w:List Int):(bA p v s b w).length=v.length:=by simp[bA]
theorem tH{f:Nat->Int}(i:Nat):cf ((range n).map f) i=if i<n then f i else 0:=by
 simp only[cf,am7];split
 .rename_i h;simp[h]
 .rename_i h;rw[anz (by simpa using h)];rfl
theorem gX(p:Int)(v:List Int)(s:Nat)(b:Int)(w:List Int)(i:Nat):cf (bA p v s b w) i=if i<v.length then(if s<=i/\i-s<w.length then(cf v i+b*cf w (i-s))%p else cf v i)else 0:=by rw[bA,tH]
theorem kZ{v:List Int}(h:av p v=true)(hp:0<p)(s:Nat)(b:Int)(w:List Int):av p (bA p v s b w)=true:=iI λi x hx=>by
 have hc:=iW hx;rw[gX]at hc;split at hc
 .split at hc
  .rw[<-hc];exact⟨anV _ (by omega),anW _ hp⟩
  .rw[<-hc];exact fU h hp i
 .rename_i hh;rw[anz (by rw[aS];omega)]at hx;cases hx
theorem oW(p:Int)(v:List Int)(s:Nat)(b:Int)(w:List Int)(k:Nat)(hk:k<w.length):
 (bA p v s b (w.take k)).set (s+k) ((cf v (s+k)+b*cf w k)%p)=bA p v s b (w.take (k+1)):=by
 apply anG;intro i;by_cases hi:i<v.length
 .rw[ang];have e1:(bA p v s b (w.take (k+1)))[i]?=some (cf (bA p v s b (w.take (k+1))) i):=by rw[am0 (by rw[aS];exact hi)];rw[cf,am0 (by rw[aS];exact hi)];rfl
  have e2:(bA p v s b (w.take k))[i]?=some (cf (bA p v s b (w.take k)) i):=by rw[am0 (by rw[aS];exact hi)];rw[cf,am0 (by rw[aS];exact hi)];rfl
  rw[e1,e2,gX,gX,amY hi,amY hi,aS];have ct:∀m j,j<m->cf (w.take m) j=cf w j:=λm j hj=>by simp[cf,hj]
  simp only[am8];by_cases hs:s+k=i
  .rw[amY hs,amY (by omega),amY (by omega)];have:i-s=k:=by omega
   rw[this,ct _ _ (by omega),hs]
  .rw[amZ hs];by_cases hc:s<=i/\i-s<k
   .rw[amY (by omega),amY (by omega),ct _ _ hc.2,ct _ _ (by omega)]
   .rw[amZ (by omega),amZ (by omega)]
 .rw[anz (by rw[anj,aS];omega),anz (by rw[aS];omega)]
theorem nD(p:Int)(v:List Int)(s:Nat)(b:Int):bA p v s b []=v:=Tj (aS _ _ _ _ _) λi=>by
 rw[gX];split
 .rw[amZ (by simp)]
 .rename_i h;rw[gU (by omega)]
theorem qp{v:List Int}{s:Nat}{b:Int}{w:List Int}(hi:i<v.length)(h:s+w.length<=i):(bA p v s b w)[i]?=some (cf v i):=by
 have e:(bA p v s b w)[i]?=some (cf (bA p v s b w) i):=by rw[am0 (by rw[aS];exact hi)];rw[cf,am0 (by rw[aS];exact hi)];rfl
 rw[e,gX,amY hi,amZ (by omega)]
def iA(f:List Int)(n:Nat):List Int:=f++replicate (n-f.length) 0
theorem mP(h:f.length<=n):(iA f n).length=n:=by simp[iA];omega
theorem Fv(f:List Int)(n i:Nat):cf (iA f n) i=cf f i:=by
 simp only[cf,iA,aoj];split
 .rfl
 .rename_i h;rw[anz (by omega:f.length<=i),anH];split<;>rfl
theorem zw(h:av p f=true)(hp:0<p)(n:Nat):av p (iA f n)=true:=iI λi x hx=>by have:=fU h hp i;rw[<-Fv f n i,iW hx]at this;exact this
def bL(p:Int)(f:List Int)(b:Int)(g:List Int):List Int:=trim (bA p (iA f (max f.length g.length)) 0 b g)
theorem Ku(p:Int)(b:Int)(g:List Int)(hf:av p f=true)(hp:0<p)(i:Nat):cf (bL p f b g) i=(cf f i+b*cf g i)%p:=by
 rw[bL,bU,gX,mP (by omega),Fv];have hb:=fU hf hp i;have hm:cf f i%p=cf f i:=anX hb.1 hb.2;split
 .split
  .simp
  .rename_i h;rw[gU (by omega:g.length<=i)];simp[hm]
 .rw[gU (by omega:f.length<=i),gU (by omega:g.length<=i)];simp
theorem tN(hf:av p f=true)(hp:0<p)(b:Int)(g:List Int):av p (bL p f b g)=true:=j_ (kZ (zw hf hp _) hp _ _ _)
theorem qF(p:Int)(f:List Int)(b:Int)(g:List Int):Tr (bL p f b g):=Tr.trim _
theorem xY(p:Int)(f:List Int)(b:Int)(g:List Int):(bL p f b g).length<=max f.length g.length:=by have:=gD (bA p (iA f (max f.length g.length)) 0 b g);rw[aS,mP (by omega)]at this;exact this
def aR(p b:Int)(g:List Int):List Int:=bL p [] b g
theorem iX(p:Int):av p []=true:=rfl
def fP(p:Int)(f g:List Int):Nat->List Int
 |0=>replicate (f.length+g.length-1) 0
 |k+1=>bA p (fP p f g k) k (cf f k) g
theorem jD(p:Int)(f g:List Int)(k:Nat):(fP p f g k).length=f.length+g.length-1:=by
 induction k with
 |zero=>simp[fP]
 |succ k ih=>rw[fP,aS,ih]
theorem XM(hp:0<p)(n:Nat):av p (replicate n 0)=true:=iI λi x hx=>by
 rw[anH]at hx;split at hx
 .injection hx with hx;subst hx;exact⟨by omega,hp⟩
 .cases hx
theorem IC(n i:Nat):cf (replicate n 0) i=0:=by rw[cf,anH];split<;>rfl
theorem zI(hp:0<p)(f g:List Int)(k:Nat):av p (fP p f g k)=true:=by
 induction k with
 |zero=>exact XM hp _
 |succ k ih=>exact kZ ih hp _ _ _
def Es(f g:List Int)(n:Nat):Nat->Int
 |0=>0
 |k+1=>Es f g n k+if k<=n then cf f k*cf g (n-k)else 0
theorem QE(_hp:0<p)(f g:List Int)(k:Nat)(hk:k<=f.length)(i:Nat):cf (fP p f g k) i=Es f g i k%p:=by
 induction k with
 |zero=>simp[fP,IC,Es]
 |succ k ih=>
  have ih:=ih (by omega);rw[fP,gX,jD,ih,Es];split
  .split
   .rename_i h;rw[amY h.1];rw[Int.emod_add_emod]
   .rename_i h;split
    .rename_i h';rw[gU (by omega:g.length<=i-k)];simp
    .simp
  .rename_i h;have h0:cf (fP p f g k) i=0:=gU (by rw[jD];omega);rw[ih]at h0;split
   .rw[gU (by omega:g.length<=i-k)];simp[h0]
   .simp[h0]
def eZ(p:Int)(f g:List Int):List Int:=if f=[]∨g=[]then[]else fP p f g f.length
def ax(p:Int)(f g:List Int):List Int:=trim (eZ p f g)
theorem Qk(hp:0<p)(f g:List Int):av p (eZ p f g)=true:=by
 rw[eZ];split
 .rfl
 .exact zI hp _ _ _
theorem jJ(hp:0<p)(f g:List Int):av p (ax p f g)=true:=j_ (Qk hp f g)
theorem Fz(hp:0<p)(f g:List Int)(i:Nat):cf (eZ p f g) i=Es f g i f.length%p:=by
 rw[eZ];split
 .rename_i h;rcases h with h|h
  .subst h;simp[Es,iD]
  .subst h;have:∀k,Es f [] i k=0:=λk=>by
    induction k with
    |zero=>rfl
    |succ k ih=>rw[Es,ih];simp[iD]
   rw[this];simp[iD]
 .exact QE hp f g _ (amX _) i
theorem Ld(f g:List Int)(hf:f≠[]):Es f g (f.length+g.length-2) f.length=cf f (f.length-1)*cf g (g.length-1)∨g=[]:=by
 by_cases hg:g=[]
 .exact .inr hg
 left;obtain⟨n,hn⟩:∃n,f.length=n+1:=⟨f.length-1,by have:=ana.2 hf;omega⟩;obtain⟨m,hm⟩:∃m,g.length=m+1:=⟨g.length-1,by have:=ana.2 hg;omega⟩;have hz:∀k,k<=n->Es f g (n+1+g.length-2) k=0:=by
  intro k hk
  induction k with
  |zero=>rfl
  |succ k ih=>rw[Es,ih (by omega),gU (by omega:g.length<=n+1+g.length-2-k)];simp
 rw[hn,Es,hz n (amX _),amY (by omega)];have e:n+1+g.length-2-n=g.length-1:=by omega
 rw[e];simp
theorem Qj(hF:aj p=true){g:List Int}(hf:av p f=true)(hg:av p g=true)(tf:Tr f)(tg:Tr g):Tr (eZ p f g):=by
 have h2:=au hF;by_cases hn:f=[]∨g=[]
 .rw[eZ,amY hn];exact Tr.nil
 .have hf0:f≠[]:=λe=>hn (.inl e)
  have hg0:g≠[]:=λe=>hn (.inr e)
  have hfl:=ana.2 hf0;have hgl:=ana.2 hg0;have hl:(eZ p f g).length=f.length+g.length-1:=by rw[eZ,amZ hn,jD]
  refine Tr.qH (by intro e;rw[e]at hl;simp at hl;omega) ?_;rw[hl,Fz (by omega),show f.length+g.length-1-1=f.length+g.length-2 by omega];rcases Ld f g hf0 with h|h
  .rw[h];have b1:=fU hf (by omega) (f.length-1);have b2:=fU hg (by omega) (g.length-1);have n1:=tf.last hf0;have n2:=tg.last hg0;exact X0 hF ⟨by omega,b1.2⟩ ⟨by omega,b2.2⟩
  .exact absurd h hg0
theorem qC(hF:aj p=true){g:List Int}(hf:av p f=true)(hg:av p g=true)(tf:Tr f)(tg:Tr g):eZ p f g=ax p f g:=(Qj hF hf hg tf tg).symm
theorem tL(hF:aj p=true){g:List Int}(hf:av p f=true)(hg:av p g=true)(tf:Tr f)(tg:Tr g)(h1:f≠[])(h2:g≠[]):(ax p f g).length=f.length+g.length-1:=by rw[<-qC hF hf hg tf tg,eZ,amZ (by simp[h1,h2]),jD]
theorem Kt(p:Int)(f g:List Int):(ax p f g).length<=f.length+g.length-1:=by
 have:=gD (eZ p f g);rw[ax];refine anb this ?_;rw[eZ];split
 .simp
 .rw[jD];exact amX _
def bH(p:Int)(g:List Int)(b:Int):Nat->List Int->List Int×List Int
 |0,r=>([],r)
 |k+1,r=>((bH p g b k (bA p r k (-(cf r (k+g.length-1)*b%p)) g)).1++[cf r (k+g.length-1)*b%p],
   (bH p g b k (bA p r k (-(cf r (k+g.length-1)*b%p)) g)).2)
theorem ny(p:Int)(g:List Int)(b:Int)(k:Nat):∀r,(bH p g b k r).1.length=k/\(bH p g b k r).2.length=r.length:=by
 induction k with
 |zero=>intro r;exact⟨rfl,rfl⟩
 |succ k ih=>intro r;simp[bH,ih,aS]
def bq(p:Int)(f g:List Int):List Int:=if f.length<g.length then[]else trim (bH p g (bO p (cf g (g.length-1))) (f.length-g.length+1) f).1
def bY(p:Int)(f g:List Int):List Int:=if f.length<g.length then f else trim (bH p g (bO p (cf g (g.length-1))) (f.length-g.length+1) f).2
theorem GD(hp:0<p)(g:List Int)(b:Int)(k:Nat):∀r,av p r=true->av p (bH p g b k r).1=true/\av p (bH p g b k r).2=true:=by
 induction k with
 |zero=>intro r hr;exact⟨rfl,hr⟩
 |succ k ih=>intro r hr;have:=ih _ (kZ hr hp k (-(cf r (k+g.length-1)*b%p)) g);refine⟨?_,this.2⟩;rw[bH,av,an_,<-av,this.1];simp[fe];exact⟨anV _ (by omega),anW _ hp⟩
theorem jh(hp:0<p)(hf:av p f=true)(g:List Int):av p (bq p f g)=true:=by
 rw[bq];split
 .rfl
 .exact j_ (GD hp _ _ _ _ hf).1
theorem jR(hp:0<p)(hf:av p f=true)(g:List Int):av p (bY p f g)=true:=by
 rw[bY];split
 .exact hf
 .exact j_ (GD hp _ _ _ _ hf).2
theorem mQ(p:Int)(f g:List Int):Tr (bq p f g):=by
 rw[bq];split
 .exact Tr.nil
 .exact Tr.trim _
theorem jP(p:Int)(hf:Tr f)(g:List Int):Tr (bY p f g):=by
 rw[bY];split
 .exact hf
 .exact Tr.trim _
theorem FB(p:Int)(f g:List Int):(bq p f g).length<=f.length-g.length+1:=by
 rw[bq];split
 .simp
 .refine anb (gD _) ?_;rw[(ny _ _ _ _ _).1];exact amX _
theorem Vy(hF:aj p=true){g:List Int}(hg:av p g=true)(tg:Tr g)(hn:g≠[]){r:List Int}(_hr:av p r=true)(k:Nat)(hk:k+g.length<=r.length):
 cf (bA p r k (-(cf r (k+g.length-1)*bO p (cf g (g.length-1))%p)) g) (k+g.length-1)=0:=by
 have h2:=au hF;have hgl:=ana.2 hn;rw[gX,amY (by omega),amY (by omega)];have b1:=fU hg (by omega) (g.length-1);have n1:=tg.last hn;have hi:=inv_mul hF (show 0<cf g (g.length-1) by omega) b1.2;have e:k+g.length-1-k=g.length-1:=by omega
 rw[e];generalize cf r (k+g.length-1)=x;generalize cf g (g.length-1)=y at*;generalize bO p y=z at*;have h1:(x*z%p)*y%p=x%p:=by rw[anT (x*z%p) y p,aok,<-anT,aol,aot z y,anT x,hi];simp
 rw[Int.neg_mul,<-Int.sub_eq_add_neg,Int.sub_emod,h1,Int.sub_self,Int.zero_emod]
theorem GA(hF:aj p=true){g:List Int}(hg:av p g=true)(tg:Tr g)(hn:g≠[])(k:Nat):
 ∀r,av p r=true->r.length<=k+g.length-1+(r.length-(k+g.length-1))->k+g.length-1<=r.length->(∀i,k+g.length-1<=i->cf r i=0)->∀i,g.length-1<=i->cf (bH p g (bO p (cf g (g.length-1))) k r).2 i=0:=by
 have h2:=au hF;have hgl:=ana.2 hn
 induction k with
 |zero=>intro r _ _ _ hz i hi;exact hz i (by omega)
 |succ k ih=>
  intro r hr _ hlen hz i hi;rw[bH];refine ih _ (kZ hr (by omega) _ _ _) (by omega) (by rw[aS];omega) ?_ i hi;intro j hj;by_cases hjk:j=k+g.length-1
  .subst hjk;exact Vy hF hg tg hn hr k (by omega)
  .rw[gX];split
   .rw[amZ (by omega)];exact hz j (by omega)
   .rfl
theorem jQ(hF:aj p=true){g:List Int}(hf:av p f=true)(hg:av p g=true)(tg:Tr g)(hn:g≠[]):(bY p f g).length<g.length:=by
 have hgl:=ana.2 hn;rw[bY];split
 .assumption
 .have:=ED (n:=g.length-1) (GA hF hg tg hn (f.length-g.length+1) f hf (by omega) (by omega) (λi hi=>gU (by omega)));omega
def gcdL(p:Int):Nat->List Int->List Int->List Int
 |0,f,_=>f
 |n+1,f,g=>if g=[]then f else gcdL p n g (bY p f g)
theorem uq(p:Int)(n:Nat)(f:List Int):gcdL p n f []=f:=by cases n<;>simp[gcdL]
theorem mZ(p:Int)(n:Nat)(f:List Int){g:List Int}(h:g≠[]):gcdL p (n+1) f g=gcdL p n g (bY p f g):=by rw[gcdL,amZ h]
theorem CZ{p:Int}(hF:aj p=true):∀(n m:Nat) {f g:List Int},av p f=true->av p g=true->Tr f->Tr g->g.length<=n->g.length<=m->gcdL p n f g=gcdL p m f g
 |n,m,f,g,hf,hg,tf,tg,hn,hm=>by
  by_cases h0:g=[]
  .subst h0;rw[uq,uq]
  .have hgl:=ana.2 h0;obtain⟨n,rfl⟩:∃k,n=k+1:=⟨n-1,by omega⟩;obtain⟨m,rfl⟩:∃k,m=k+1:=⟨m-1,by omega⟩;rw[mZ _ _ _ h0,mZ _ _ _ h0];have hl:=jQ hF hf hg tg h0;exact CZ hF n m hg (jR (by have:=au hF;omega) hf g) tg (jP p tf g) (by omega) (by omega)
def jk(p:Int)(f g:List Int):List Int:=gcdL p (g.length+1) f g
theorem Vk(hp:0<p)(n:Nat):∀{f g:List Int},av p f=true->av p g=true->av p (gcdL p n f g)=true:=by
 induction n with
 |zero=>intro f g hf _;exact hf
 |succ n ih=>
  intro f g hf hg;rw[gcdL];split
  .exact hf
  .exact ih hg (jR hp hf g)
theorem Vj(p:Int)(n:Nat):∀{f g:List Int},Tr f->Tr g->Tr (gcdL p n f g):=by
 induction n with
 |zero=>intro f g hf _;exact hf
 |succ n ih=>
  intro f g hf hg;rw[gcdL];split
  .exact hf
  .exact ih hg (jP p hf g)
theorem Gq(p:Int)(n:Nat):∀{f g:List Int},f≠[]->gcdL p n f g≠[]:=by
 induction n with
 |zero=>intro f g h;exact h
 |succ n ih=>
  intro f g h;rw[gcdL];split
  .exact h
  .rename_i hg;exact ih hg
theorem DU(p:Int){g:List Int}(h:f≠[]∨g≠[]):jk p f g≠[]:=by
 rw[jk];by_cases hg:g=[]
 .subst hg;rcases h with h|h
  .exact Gq p _ h
  .exact absurd rfl h
 .rw[mZ _ _ _ hg];exact Gq p _ hg
theorem m_(hF:aj p=true){g:List Int}(hf:av p f=true)(hg:av p g=true)(tf:Tr f)(tg:Tr g)(h0:g≠[]):jk p f g=jk p g (bY p f g):=by rw[jk,mZ _ _ _ h0,jk];have hl:=jQ hF hf hg tg h0;exact CZ hF _ _ hg (jR (by have:=au hF;omega) hf g) tg (jP p tf g) (by omega) (by omega)
theorem uw(p:Int)(f:List Int):jk p f []=f:=uq p _ f
theorem KO(hp:0<p){g:List Int}(hf:av p f=true)(hg:av p g=true):av p (jk p f g)=true:=Vk hp _ hf hg
theorem KN(p:Int){g:List Int}(hf:Tr f)(hg:Tr g):Tr (jk p f g):=Vj p _ hf hg
def dm(p:Int)(f:List Int):List Int:=aR p (bO p (cf f (f.length-1))) f
def bJ(p:Int)(f g:List Int):List Int:=dm p (jk p f g)
theorem kr(hp:0<p)(f g:List Int):av p (bJ p f g)=true:=tN (iX p) hp _ _
theorem lH(p:Int)(f g:List Int):Tr (bJ p f g):=qF _ _ _ _
theorem vH(p:Int)(b:Int)(g:List Int)(hp:0<p)(i:Nat):cf (aR p b g) i=b*cf g i%p:=by rw[aR,Ku p b g (iX p) hp,iD,aoC]
theorem nX(hF:aj p=true)(hf:av p f=true)(tf:Tr f)(h0:f≠[]):(dm p f).length=f.length/\cf (dm p f) (f.length-1)=1:=by
 have h2:=au hF;have hfl:=ana.2 h0;have hb:=fU hf (by omega) (f.length-1);have hn:=tf.last h0;have h1:cf (dm p f) (f.length-1)=1:=by rw[dm,vH p _ _ (by omega),aot];exact inv_mul hF (by omega) hb.2
 have hle:(dm p f).length<=f.length:=by have:=xY p [] (bO p (cf f (f.length-1))) f;simpa[dm,aR]using this
 refine⟨?_,h1⟩;rcases anM (dm p f).length f.length with h|h
 .rw[gU (by omega)]at h1;cases h1
 .omega
def bC(p:Int)(f:List Int):Bool:=aj p&&decide (f.length<=41)&&av p f&&(decide (f.length=0)||decide (cf f (f.length-1)≠0))
theorem fE(h:bC p f=true):aj p=true/\f.length<=41/\av p f=true/\Tr f:=by
 simp only[bC,anx,aoI,decide_eq_true_eq]at h;refine⟨h.1.1.1,h.1.1.2,h.1.2,?_⟩;by_cases h0:f=[]
 .subst h0;exact Tr.nil
 .have hfl:=ana.2 h0;exact Tr.qH h0 (h.2.resolve_left (by omega))
open Go Go.RowKit
def Ex(w w':World):Prop:=Below w.heap.size w w'
theorem asF(w:World):Ex w w:=Below.refl _ _
theorem Ex.trans{b c:World}(h:Ex a b)(k:Ex b c):Ex a c:=Below.trans h (Below.mono k h.size)
theorem Ex.drew(h:Ex a w):Ex a w.drew:=Below.drew h
theorem Ex.drewN(h:Ex a w)(n:Nat):Ex a (w.drewN n):=⟨h.os,h.tape,h.output,h.size,h.block⟩
theorem Ex.alloc(h:Ex a w)(o:Obj):Ex a (w.alloc o):=Below.alloc h h.size o
theorem Ex.setCell(h:Ex a w){p:Addr}(hp:a.heap.size<=p.block)(u:Value):Ex a (w.setCell p u):=Below.setCell h hp u
theorem Ex.size(h:Ex a w):a.heap.size<=w.heap.size:=Below.size h
theorem Ex.block(h:Ex a w)(hk:k<a.heap.size):w.heap[k]?=a.heap[k]?:=Below.block h k hk
theorem aC{o:Obj}(h:w.heap[g]?=some o):g<w.heap.size:=by
 rcases anM g w.heap.size with hl|hg
 .exact hl
 .rw[ao1 hg]at h;cases h
theorem iM{p:Addr}(h:w.cell? p=some v):p.block<w.heap.size:=by
 rcases anM p.block w.heap.size with hl|hg
 .exact hl
 .simp[World.cell?,ao1 hg]at h
theorem sW{P:Program}{f:FuncId}{args:Array Value}{r:Ending}(h:Calls P f args w λe w'=>e=r/\w=w'):Calls P f args w λe w'=>e=r/\w'=w:=
 h.mono λ_ _ ⟨h1,h2⟩=>⟨h1,h2.symm⟩
def aJ(g:Nat)(w w':World):Prop:=w.grownBy w' (some g)
theorem aJ.refl(g:Nat)(w:World):aJ g w w:=World.grownBy.refl w _
theorem aJ.aN(h:Ex a w):aJ g a w:=⟨h.os,h.tape,h.output,h.size,λ_ hi _=>h.block hi⟩
theorem aJ.trans{b c:World}(h:aJ g a b)(k:aJ g b c):aJ g a c:=
 ⟨k.os.trans h.os,k.tape.trans h.tape,k.output.trans h.output,anb h.size k.size,λi hi hn=>(k.block i (anq hi h.size) hn).trans (h.block i hi hn)⟩
theorem aJ.drew(h:aJ g a w):aJ g a w.drew:=⟨h.os,h.tape,h.output,h.size,h.block⟩
theorem aJ.size'(h:aJ g a w):a.heap.size<=w.heap.size:=h.size
theorem aJ.setCell(h:aJ g a w){p:Addr}(hp:p.block=g)(u:Value):aJ g a (w.setCell p u):=
 ⟨h.os,h.tape,h.output,by simpa[World.setCell]using h.size,λi hi hne=>(Below.heap_setCell w p u i (by
  rintro rfl;exact hne (by rw[hp]))).trans (h.block i hi hne)⟩
theorem aJ.ex(h:aJ g a w)(hg:a.heap.size<=g):Ex a w:=
 ⟨h.os,h.tape,h.output,h.size,λi hi=>h.block i hi (by intro e;injection e;omega)⟩
theorem Ex.aM{b c:World}(h:Ex a b)(k:aJ g b c)(hg:a.heap.size<=g):Ex a c:=
 ⟨k.os.trans h.os,k.tape.trans h.tape,k.output.trans h.output,anb h.size k.size,λi hi=>(k.block i (anq hi h.size) (by intro e;injection e;omega)).trans (h.block hi)⟩
def wB(o:Option Nat)(w w':World):Prop:=w.grownBy w' o
theorem wB.refl(o:Option Nat)(w:World):wB o w w:=World.grownBy.refl w _
theorem wB.aN(h:Ex a w):wB o a w:=⟨h.os,h.tape,h.output,h.size,λ_ hi _=>h.block hi⟩
theorem wB.trans{b c:World}(h:wB o a b)(k:wB o b c):wB o a c:=
 ⟨k.os.trans h.os,k.tape.trans h.tape,k.output.trans h.output,anb h.size k.size,λi hi hn=>(k.block i (anq hi h.size) hn).trans (h.block i hi hn)⟩
theorem wB.setCell(h:wB (some g) a w){p:Addr}(hp:p.block=g)(u:Value):wB (some g) a (w.setCell p u):=aJ.setCell h hp u
theorem Ex.Sj{b c:World}(h:Ex a b)(k:wB o b c)(hg:∀g,o=some g->a.heap.size<=g):Ex a c:=
 ⟨k.os.trans h.os,k.tape.trans h.tape,k.output.trans h.output,anb h.size k.size,λi hi=>(k.block i (anq hi h.size) (by intro e;have:=hg i e.symm;omega)).trans (h.block hi)⟩
def Rd(w:World)(A:Option Addr)(xs:List Int):Prop:=
 xs.length<=1099511627776/\∀j,j<xs.length->∃g off,A=some ⟨g,off,none⟩/\w.cell? ⟨g,off+j,none⟩=some (.int .i64 (xs[j]?.getD 0))
theorem Rd.len(h:Rd w A xs):xs.length<=1099511627776:=h.1
theorem Rd.at_(h:Rd w A xs)(hk:k<xs.length):
 ∃g off x,A=some ⟨g,off,none⟩/\xs[k]?=some x/\g<w.heap.size/\w.cell? ⟨g,off+k,none⟩=some (.int .i64 x):=by
 obtain⟨g,off,hA,hc⟩:=h.2 k hk;refine⟨g,off,xs[k],hA,am0 hk,iM hc,?_⟩;rw[hc,am0 hk];rfl
theorem Rd.cell{off:Nat}(h:Rd w (some ⟨g,off,none⟩) xs)(hk:xs[k]?=some x):
 w.cell? ⟨g,off+k,none⟩=some (.int .i64 x):=by
 have hl:k<xs.length:=by
  rcases anM k xs.length with h1|h1
  .exact h1
  .rw[anz h1]at hk;cases hk
 obtain⟨g',off',hA,hc⟩:=h.2 k hl;injection hA with hA;injection hA with e1 e2 _;subst e1 e2;rw[hc,hk];rfl
theorem Rd.nil(w:World)(A:Option Addr):Rd w A []:=⟨by simp,λj hj=>by simp at hj⟩
theorem Rd.keep(h:Rd w A xs)(hk:∀a:Addr,A=some a->a.block<w.heap.size->w'.heap[a.block]?=w.heap[a.block]?):Rd w' A xs:=
 ⟨h.1,λj hj=>by
  obtain⟨g,off,hA,hc⟩:=h.2 j hj;refine⟨g,off,hA,?_⟩;have hb:=hk _ hA (iM (p:=⟨g,off+j,none⟩) hc);rw[anm (w:=w) (a:=⟨g,off+j,none⟩) hb,hc]⟩
theorem Rd.ex(h:Rd w A xs)(he:Ex w w'):Rd w' A xs:=h.keep λ_ _ hl=>he.block hl
theorem Rd.drew(h:Rd w A xs):Rd w.drew A xs:=h
theorem Rd.oq(h:Rd w A xs)(hn:xs≠[]):∀a,A=some a->a.block<w.heap.size:=λa e=>by obtain⟨g,off,x,hA,_,hg,_⟩:=h.at_ (ana.2 hn);rw[hA]at e;injection e with e;subst e;exact hg
def Off(A:Option Addr)(g:Nat):Prop:=∀a,A=some a->a.block≠g
def Hi(B:Nat)(A:Option Addr):Prop:=∀a,A=some a->B<=a.block
def Lo(A:Option Addr)(B:Nat):Prop:=∀a,A=some a->a.block<B
theorem Lo.mono{B':Nat}(h:Lo A B)(hg:B<=B'):Lo A B':=λa e=>by have:=h a e;omega
theorem Hi.off(h:Hi B A)(hg:g<B):Off A g:=λa e=>by have:=h a e;omega
theorem Rd.aM(h:Rd w A xs)(he:aJ g w w')(ho:Off A g):Rd w' A xs:=
 h.keep λa e hl=>he.block _ hl (by intro e2;injection e2 with e2;exact ho a e e2)
def aO(xs:List Int):Obj:=.cells (xs.map (Value.int .i64)).toArray 3 (0,0)
def Apart(A A':Option Addr):Prop:=∀a a',A=some a->A'=some a'->a.block≠a'.block
theorem Apart.aaA{A':Option Addr}(h:Lo A B)(k:Hi B A'):Apart A A':=λa a' e e'=>by have:=h a e;have:=k a' e';omega
theorem Rd.off(h:Rd w A xs)(hg:w.heap.size<=g)(hn:xs≠[]):Off A g:=λa e=>by have:=h.oq hn a e;omega
def dH(w:World)(g:Nat)(xs:List Int):Prop:=w.heap[g]?=some (aO xs)
theorem dH.lt(h:dH w g xs):g<w.heap.size:=aC h
theorem dH.cell(h:dH w g xs)(hi:xs[i]?=some x):w.cell? ⟨g,i,none⟩=some (.int .i64 x):=by unfold dH aO at h;simp[World.cell?,h,hi]
theorem dH.frozen(h:dH w g xs)(i:Nat):w.frozen? ⟨g,i,none⟩=false:=by unfold dH aO at h;simp[World.frozen?,h]
theorem dH.drew(h:dH w g xs):dH w.drew g xs:=h
theorem dH.ex(h:dH w g xs)(he:Ex w w'):dH w' g xs:=(he.block h.lt).trans h
theorem dH.aM(h:dH w g xs)(he:aJ k w w')(hne:g≠k):dH w' g xs:=(he.block g h.lt (by intro e;injection e;omega)).trans h
theorem dH.aX(h:dH w g xs)(i:Nat)(x:Int):dH (w.setCell ⟨g,i,none⟩ (.int .i64 x)) g (xs.set i x):=by unfold dH aO at h⊢;simp[World.setCell,aoa,h]
theorem dH.rd(h:dH w g xs)(hl:xs.length<=1099511627776):Rd w (some ⟨g,0,none⟩) xs:=
 ⟨hl,λj hj=>⟨g,0,rfl,by
  rw[anE];exact(h.cell (am0 hj)).trans (by rw[am0 hj];rfl)⟩⟩
theorem dH.new(w:World)(xs:List Int):dH (w.alloc (aO xs)) w.heap.size xs:=heap_alloc_new w _
def Fr(w:World)(B:Nat)(A:Option Addr)(c:Nat)(xs:List Int):Prop:=
 Rd w A xs/\xs.length<=c/\∀a,A=some a->B<=a.block/\∃cur,w.heap[a.block]?=some (.cells cur 3 (0,0))
theorem Fr.rd(h:Fr w B A c xs):Rd w A xs:=h.1
theorem Fr.cap(h:Fr w B A c xs):xs.length<=c:=h.2.1
theorem Fr.hi(h:Fr w B A c xs):Hi B A:=λa e=>(h.2.2 a e).1
theorem Fr.lo(h:Fr w B A c xs):Lo A w.heap.size:=λa e=>by obtain⟨_,cur,hc⟩:=h.2.2 a e;exact aC hc
theorem Fr.more{B':Nat}(h:Fr w B A c xs)(hb:B'<=B):Fr w B' A c xs:=
 ⟨h.1,h.2.1,λa e=>⟨anb hb (h.2.2 a e).1,(h.2.2 a e).2⟩⟩
theorem Fr.ex(h:Fr w B A c xs)(he:Ex w w'):Fr w' B A c xs:=
 ⟨h.1.ex he,h.2.1,λa e=>by
  obtain⟨h1,cur,h2⟩:=h.2.2 a e;exact⟨h1,cur,(he.block (aC h2)).trans h2⟩⟩
theorem Fr.aM(h:Fr w B A c xs)(he:aJ g w w')(ho:Off A g):Fr w' B A c xs:=
 ⟨h.1.aM he ho,h.2.1,λa e=>by
  obtain⟨h1,cur,h2⟩:=h.2.2 a e;exact⟨h1,cur,(he.block _ (aC h2) (by intro e2;injection e2 with e2;exact ho a e e2)).trans h2⟩⟩
theorem Fr.frozen{off:Nat}(h:Fr w B (some ⟨g,off,none⟩) c xs)(i:Nat):w.frozen? ⟨g,i,none⟩=false:=by obtain⟨_,cur,hc⟩:=h.2.2 _ rfl;simp only at hc;simp[World.frozen?,hc]
theorem Fr.aX{off:Nat}(h:Fr w B (some ⟨g,off,none⟩) c xs)(j:Nat)(x:Int):
 Fr (w.setCell ⟨g,off+j,none⟩ (.int .i64 x)) B (some ⟨g,off,none⟩) c (xs.set j x):=by
 refine⟨⟨by rw[anj];exact h.1.1,λi hi=>⟨g,off,rfl,?_⟩⟩,by rw[anj];exact h.2.1,λa e=>?_⟩
 .rw[anj]at hi;have hc:=h.1.cell (am0 hi);by_cases e:j=i
  .subst e;have hc':w.cell? ⟨g,off+j,none⟩=some (.int .i64 xs[j]):=hc;rw[World.cell?_setCell_same _ _ _ hc',apf hi];rfl
  .rw[aom _ _ _ _ (by intro e2;injection e2;omega),hc,List.getElem?_set_ne e,am0 hi];rfl
 .injection e with e;subst e;obtain⟨h1,cur,h2⟩:=h.2.2 _ rfl;refine⟨h1,cur.setIfInBounds (off+j) (.int .i64 x),?_⟩;simp only at h2⊢;simp[World.setCell,aoa,h2]
theorem Fr.nil(w:World)(B c:Nat):Fr w B none c []:=⟨Rd.nil w _,by simp,λa e=>by cases e⟩
theorem dH.fr(h:dH w g xs)(hl:xs.length<=1099511627776)(hB:B<=g)(hc:xs.length<=c):Fr w B (some ⟨g,0,none⟩) c xs:=
 ⟨h.rd hl,hc,λa e=>by injection e with e;subst e;exact⟨hB,_,h⟩⟩
theorem QK(n:Nat):(madeCells (Value.int .i64 0).cells (n*1))=((replicate n (0:Int)).map (Value.int .i64)).toArray:=by apply Array.toList_inj.1;rw[anY];show(madeCells #[Value.int .i64 0] n).toList=_;rw[toList_madeCells_one];simp
theorem yj:(prog.info? 3).map (λi=>(i.zero,i.size,i.bytes))=some (some (.int .i64 0),1,8):=by kernel_rfl
theorem dD(n:Nat)(hn:n<=1099511627776)(w:World):
 (Instr.makeSlice 23 (.int .i64 (n:Int)) (.int .i64 (n:Int))).run prog w=.ok (.slice (some ⟨w.heap.size,0,none⟩) n n) (w.alloc (aO (replicate n 0))):=by
 obtain⟨i,hi,hz,hs,hb⟩:=anA yj;have hr:=run_make (P:=prog) w 23 3 i (.int .i64 0) Tryz.underlying23 hi hz .i64 .i64 n n (by omega) (by omega) (by rw[hb];omega) (by omega);simp only[aoJ,hs]at hr;rw[QK]at hr;exact hr
def Own(w:World)(g:Nat)(xs:List Int):Prop:=
 ∃cur:Array Value,w.heap[g]?=some (.cells cur 3 (0,0))/\∀(j:Nat) (x:Int),xs[j]?=some x->cur[j]?=some (.int .i64 x)
theorem dH.own(h:dH w g xs):Own w g xs:=⟨_,h,λj x hj=>by simp[hj]⟩
theorem Own.lt(h:Own w g xs):g<w.heap.size:=by obtain⟨_,hc,_⟩:=h;exact aC hc
theorem Own.cell(h:Own w g xs)(hi:xs[i]?=some x):w.cell? ⟨g,i,none⟩=some (.int .i64 x):=by obtain⟨cur,hc,hx⟩:=h;simp[World.cell?,hc,hx i x hi]
theorem Own.frozen(h:Own w g xs)(i:Nat):w.frozen? ⟨g,i,none⟩=false:=by obtain⟨cur,hc,_⟩:=h;simp[World.frozen?,hc]
theorem Own.drew(h:Own w g xs):Own w.drew g xs:=h
theorem Own.drewN(h:Own w g xs)(n:Nat):Own (w.drewN n) g xs:=h
theorem Own.ex(h:Own w g xs)(he:Ex w w'):Own w' g xs:=by have hl:=h.lt;obtain⟨cur,hc,hx⟩:=h;exact⟨cur,(he.block hl).trans hc,hx⟩
theorem Own.aM(h:Own w g xs)(he:aJ k w w')(hne:g≠k):Own w' g xs:=by have hl:=h.lt;obtain⟨cur,hc,hx⟩:=h;exact⟨cur,(he.block g hl (by intro e;injection e;omega)).trans hc,hx⟩
theorem Own.aX(h:Own w g xs)(i:Nat)(x:Int):Own (w.setCell ⟨g,i,none⟩ (.int .i64 x)) g (xs.set i x):=by
 obtain⟨cur,hc,hx⟩:=h;refine⟨cur.setIfInBounds i (.int .i64 x),by simp[World.setCell,aoa,hc],λj y hj=>?_⟩;rw[ang]at hj;rw[anI];split at hj
 .rename_i e;subst e;split at hj
  .rename_i hl;injection hj with hj;subst hj;have hi:=hx i _ (am0 hl);have hlt:i<cur.size:=by
    rcases anM i cur.size with h1|h1
    .exact h1
    .rw[ao1 h1]at hi;cases hi
   simp[hlt]
  .cases hj
 .rename_i e;rw[amZ e];exact hx j y hj
theorem Own.rd(h:Own w g xs)(hl:xs.length<=1099511627776):Rd w (some ⟨g,0,none⟩) xs:=
 ⟨hl,λj hj=>⟨g,0,rfl,by
  rw[anE];exact(h.cell (am0 hj)).trans (by rw[am0 hj];rfl)⟩⟩
theorem Own.fr(h:Own w g xs)(hl:xs.length<=1099511627776)(hB:B<=g)(hc:xs.length<=c):Fr w B (some ⟨g,0,none⟩) c xs:=
 ⟨h.rd hl,hc,λa e=>by injection e with e;subst e;obtain⟨cur,hh,_⟩:=h;exact⟨hB,cur,hh⟩⟩
theorem Own.new(w:World)(xs:List Int):Own (w.alloc (aO xs)) w.heap.size xs:=(dH.new w xs).own
theorem Fr.take{c':Nat}(h:Fr w B A c xs)(k:Nat)(hc:(xs.take k).length<=c'):Fr w B A c' (xs.take k):=
 ⟨⟨anb (aoD _ _) h.1.1,λj hj=>by
  obtain⟨g,off,hA,hcell⟩:=h.1.2 j (anq hj (aoD _ _));refine⟨g,off,hA,?_⟩;have hjk:j<k:=by rw[am8]at hj;omega
  rw[hcell,anh,amY hjk]⟩,hc,h.2.2⟩
theorem Rd.take(h:Rd w A xs)(k:Nat):Rd w A (xs.take k):=
 ⟨anb (aoD _ _) h.1,λj hj=>by
  obtain⟨g,off,hA,hcell⟩:=h.2 j (anq hj (aoD _ _));refine⟨g,off,hA,?_⟩;have hjk:j<k:=by rw[am8]at hj;omega
  rw[hcell,anh,amY hjk]⟩
def AL(w:World)(B:Nat)(v:Value)(xs:List Int):Prop:=w.ownsRow B 3 1 v xs.length (xs.map (Value.int .i64))
theorem AL.lt(h:AL w B v xs):∀k,v.ownBlock=some k->B<=k/\k<w.heap.size:=World.ownsRow.lt h
theorem AL.form(h:AL w B v xs)(hl:xs.length<=1099511627776):∃A c,v=.slice A xs.length c/\Fr w B A c xs:=by
 obtain⟨_,h2⟩:=h;rcases h2 with⟨hv,hn⟩|⟨g,cap,cur,hv,hB,hh,hnc,_,_,ht⟩
 .have:xs=[]:=aou hn;subst this;exact⟨none,0,hv,Fr.nil _ _ _⟩
 .refine⟨_,cap,hv,Own.fr (g:=g) ⟨cur,hh,λj x hj=>?_⟩ hl hB hnc⟩;have:(cur.toList.take (xs.length*1))[j]?=some (.int .i64 x):=by rw[ht];simp[hj]
  rw[anh]at this;split at this
  .simpa using this
  .cases this
theorem AL.own{o:Nat}(h:AL w B (.slice (some ⟨g,o,none⟩) n c) xs):o=0/\n=xs.length/\n<=c/\B<=g/\Own w g xs:=by
 obtain⟨_,h2⟩:=h;rcases h2 with⟨hv,_⟩|⟨g',cap,cur,hv,hB,hh,hnc,_,_,ht⟩
 .cases hv
 .injection hv with e1 e2 e3;injection e1 with e1;injection e1 with e4 e5 _;subst e2 e3 e4 e5;refine⟨rfl,rfl,hnc,hB,cur,hh,λj x hj=>?_⟩;have:(cur.toList.take (xs.length*1))[j]?=some (.int .i64 x):=by rw[ht];simp[hj]
  rw[anh]at this;split at this
  .simpa using this
  .cases this
theorem AL.empty(w:World)(hB:B<=w.heap.size):AL (w.alloc (aO [])) B (.slice (some ⟨w.heap.size,0,none⟩) 0 0) []:=
 ⟨rfl,.inr ⟨w.heap.size,0,#[],rfl,hB,heap_alloc_new w _,amX _,am4 _,rfl,rfl⟩⟩
theorem wpList_append_run{P:Program}{ops:Array Oper}{rest:List Oper}{o:Oper}{a:Act}{Q:Exit->Act->World->Prop}(hgd:o.guard=none)(s x:Operand)(t:TypeId)
 (ho:o.op=.call {callee:=.builtin .append,args:= #[s,x],argTypes:= #[t,t]}) {vs vx v':Value} {w':World} (hs:a.eval s=vs) (hx:a.eval x=vx)
 (hrun:(Builtin.append_ #[t,t] o.type #[vs,vx]).run P w=.ok v' w') (h:wpList P ops Q rest (a.put o.dst v') w'):wpList P ops Q (o::rest) a w:=
 wpList_plain hgd λK hK=>by unfold Oper.wp execOp;simp only[ho,resolve,invoke,builtin,Sem.run_bind,Sem.run_pure,Result.andThen_ok,List.map_toArray,List.map_cons,List.map_nil,hs,hx,hrun];exact hK _ _ h
theorem fH(t ty:TypeId)(ht:prog.underlying t=some (.slice 3))(w:World)(B:Nat)(v:Value)(ys:List Int)(hv:AL w B v ys)(hB:B<=w.heap.size)(A:Option Addr)(c:Nat)(xs:List Int)(h:Rd w A xs)
 (hl:ys.length+xs.length<=1099511627776):
 ∃v' w',(Builtin.append_ #[t,t] ty #[v,.slice A xs.length c]).run prog w=.ok v' w'/\AL w' B v' (ys++xs)/\wB v.ownBlock w w'/\(v'.ownBlock=v.ownBlock∨v'.ownBlock=some w.heap.size):=by
 obtain⟨i,hi,hz,hs,hb⟩:=anA yj;rcases A with _|ad
 .have hx:xs=[]:=by
   cases xs with
   |nil=>rfl
   |cons x xs=>obtain⟨g,off,hA,_⟩:=h.2 0 (by simp);cases hA
  subst hx;refine⟨v,w,?_,by simpa using hv,wB.refl _ _,.inl rfl⟩;rcases hv.2 with⟨rfl,_⟩|⟨g,cap,cur,rfl,_,_,hnc,_⟩
  .simp[Builtin.append_,aob ht,sizeOf,typeInfo,hi,Builtin.lenOf,Builtin.firstCells]
  .simp[Builtin.append_,aob ht,sizeOf,typeInfo,hi,Builtin.lenOf,Builtin.firstCells,hnc,storeCells]
 .have hc:∀(j:Nat) (u:Value),(xs.map (Value.int .i64))[j]?=some u->w.cell? (ad.add j)=some u:=by
   intro j u hu;rw[am7]at hu;cases hj:xs[j]? with
   |none=>rw[hj]at hu;cases hu
   |some x=>
    rw[hj]at hu;injection hu with hu;subst hu;have hlt:j<xs.length:=by
     rcases anM j xs.length with h1|h1
     .exact h1
     .rw[anz h1]at hj;cases hj
    obtain⟨g,off,hA,hcell⟩:=h.2 j hlt;injection hA with hA;subst hA;have e:(⟨g,off,none⟩:Addr).add j=⟨g,off+j,none⟩:=by unfold Addr.add;split<;>simp_all
    rw[e,hcell,hj];rfl
  obtain⟨v',w',hrun,h2,h3,_,h5⟩:=run_append_own_at (P:=prog) w B t ty 3 i (.int .i64 0) 1 8 ht hi hz hs hb rfl (by omega) v ys.length _ hv ad xs.length c (xs.map (Value.int .i64)) (by simp) hc (by
   intro u hu;obtain⟨x,_,rfl⟩:=am3.1 hu;rfl) (by unfold maxLen;omega) (by omega) hB
  refine⟨v',w',hrun,?_,h3,h5⟩;unfold AL;rw[am9,anQ];exact h2
def VB(w:World)(g:Nat)(t:TypeId)(cs:Array Value):Prop:=w.heap[g]?=some (.cells cs t (0,0))
theorem VB.cell{t:TypeId}(h:VB w g t cs)(i:Nat)(hv:cs[i]?=some v):w.cell? ⟨g,i,none⟩=some v:=by unfold VB at h;simp[World.cell?,h,hv]
theorem VB.c0{t:TypeId}{a:Value}(h:VB w g t (a::l).toArray):w.cell? ⟨g,0,none⟩=some a:=h.cell 0 rfl
theorem VB.c1{t:TypeId}{a:Value}(h:VB w g t (a::b::l).toArray):w.cell? ⟨g,1,none⟩=some b:=h.cell 1 rfl
theorem VB.c2{t:TypeId}{a c:Value}(h:VB w g t (a::b::c::l).toArray):w.cell? ⟨g,2,none⟩=some c:=h.cell 2 rfl
theorem VB.c3{t:TypeId}{a c:Value}(h:VB w g t (a::b::c::d::l).toArray):w.cell? ⟨g,3,none⟩=some d:=h.cell 3 rfl
theorem VB.c4{t:TypeId}{a c:Value}(h:VB w g t (a::b::c::d::e::l).toArray):w.cell? ⟨g,4,none⟩=some e:=h.cell 4 rfl
theorem VB.c5{t:TypeId}{a c f:Value}(h:VB w g t (a::b::c::d::e::f::l).toArray):w.cell? ⟨g,5,none⟩=some f:=h.cell 5 rfl
theorem VB.c6{t:TypeId}{a c f i:Value}(h:VB w g t (a::b::c::d::e::f::i::l).toArray):w.cell? ⟨g,6,none⟩=some i:=h.cell 6 rfl
theorem VB.d2{t:TypeId}{a:Value}(h:VB w g t (a::b::l).toArray):w.cell? ⟨g,0,none⟩=some a/\w.cell? ⟨g,1,none⟩=some b:=⟨h.c0,h.c1⟩
theorem VB.d3{t:TypeId}{a c:Value}(h:VB w g t (a::b::c::l).toArray):w.cell? ⟨g,0,none⟩=some a/\w.cell? ⟨g,1,none⟩=some b/\w.cell? ⟨g,2,none⟩=some c:=⟨h.c0,h.c1,h.c2⟩
theorem VB.d4{t:TypeId}{a c:Value}(h:VB w g t (a::b::c::d::l).toArray):w.cell? ⟨g,0,none⟩=some a/\w.cell? ⟨g,1,none⟩=some b/\w.cell? ⟨g,2,none⟩=some c/\w.cell? ⟨g,3,none⟩=some d:=⟨h.c0,h.c1,h.c2,h.c3⟩
theorem VB.frozen{t:TypeId}(h:VB w g t cs)(i:Nat):w.frozen? ⟨g,i,none⟩=false:=by unfold VB at h;simp[World.frozen?,h]
theorem VB.lt{t:TypeId}(h:VB w g t cs):g<w.heap.size:=aC h
theorem VB.ex{t:TypeId}(h:VB w g t cs)(he:Ex w w'):VB w' g t cs:=(he.block h.lt).trans h
theorem VB.aM{t:TypeId}(h:VB w g t cs)(he:aJ k w w')(hne:g≠k):VB w' g t cs:=(he.block g h.lt (by intro e;injection e;omega)).trans h
theorem VB.aX{t:TypeId}(h:VB w g t cs)(i:Nat)(v:Value):VB (w.setCell ⟨g,i,none⟩ v) g t (cs.setIfInBounds i v):=by unfold VB at h⊢;simp[World.setCell,aoa,h]
theorem VB.new(w:World)(t:TypeId)(cs:Array Value):VB (w.alloc (.cells cs t)) w.heap.size t cs:=heap_alloc_new w _
theorem af(h:Ex w w'){o:Nat}(hc:w.cell? ⟨g,o,none⟩=some v):w'.cell? ⟨g,o,none⟩=some v:=
 (anm (w:=w) (a:=⟨g,o,none⟩) (h.block (iM (p:=⟨g,o,none⟩) hc))).trans hc
theorem VB.xn(w:World)(t:TypeId)(cs:Array Value):Ex w (w.alloc (.cells cs t))/\VB (w.alloc (.cells cs t)) w.heap.size t cs:=⟨(asF w).alloc _,VB.new w t cs⟩
theorem VB.al(w:World)(t:TypeId)(cs:Array Value):Ex w (w.alloc (.cells cs t))/\VB (w.alloc (.cells cs t)) w.heap.size t cs/\∃W,w.alloc (.cells cs t)=W:=⟨(asF w).alloc _,VB.new w t cs,_,rfl⟩
theorem VB.an(w:World)(t:TypeId)(cs:Array Value)(h:w.heap.size=n):∃W,w.alloc (.cells cs t)=W/\Ex w W/\VB W n t cs/\W.heap.size=n+1:=⟨_,rfl,(asF w).alloc _,h▸VB.new w t cs,by simp[h]⟩
theorem VB.three(w:World)(t:TypeId)(a b c:Array Value):∃u,((w.alloc (.cells a t)).alloc (.cells b t)).alloc (.cells c t)=u/\Ex w u/\VB u w.heap.size t a/\VB u (w.heap.size+1) t b/\VB u (w.heap.size+1+1) t c/\w.heap.size+3<=u.heap.size:=by obtain⟨u1,h1,x1,d1,s1⟩:=VB.an w t a rfl;obtain⟨u2,h2,x2,d2,s2⟩:=VB.an u1 t b s1;obtain⟨u3,h3,x3,d3,s3⟩:=VB.an u2 t c s2;exact⟨u3,by rw[h1,h2,h3],(x1.trans x2).trans x3,(d1.ex x2).ex x3,d2.ex x3,d3,by omega⟩
theorem VB.z2{t:TypeId}(h:VB w g t cs):w.frozen? ⟨g,0,none⟩=false/\w.frozen? ⟨g,1,none⟩=false:=⟨h.frozen 0,h.frozen 1⟩
theorem VB.z3{t:TypeId}(h:VB w g t cs):w.frozen? ⟨g,0,none⟩=false/\w.frozen? ⟨g,1,none⟩=false/\w.frozen? ⟨g,2,none⟩=false:=⟨h.frozen 0,h.frozen 1,h.frozen 2⟩
theorem b_{P:Program}{ops:Array Oper}{o:Oper}{a:Act}{K:Act->World->Prop}{Q:Exit->Act->World->Prop}{E:Prop}
 (hg:o.guard=none) (s x:Operand) (t:TypeId) (ho:o.op=Op.call {callee:=Callee.builtin Builtin.append,args:= #[s,x],argTypes:= #[t,t]})
 {vs vx v':Value} {w':World} (hs:a.eval s=vs) (hx:a.eval x=vx) (hrun:(Builtin.append_ #[t,t] o.type #[vs,vx]).run P w=.ok v' w') (hK:K (a.put o.dst v') w'):
 if Region.wanted o (yielded ops a.tmps)=true then Oper.wp P o a w K Q else E:=by
 have hw:Region.wanted o (yielded ops a.tmps)=true:=by simp[Region.wanted,hg]
 rw[amY hw];unfold Oper.wp execOp;simp only[ho,resolve,invoke,builtin,Sem.run_bind,Sem.run_pure,Result.andThen_ok,List.map_toArray,List.map_cons,List.map_nil,hs,hx,hrun];exact hK
def Tb(w:World):Prop:=w.cell? ⟨0,0,none⟩=some (.int .i64 2)/\w.cell? ⟨0,1,none⟩=some (.int .i64 3)/\w.cell? ⟨0,2,none⟩=some (.int .i64 5)/\w.cell? ⟨0,3,none⟩=some (.int .i64 7)
theorem Tb.ex(h:Tb w)(he:Ex w w'):Tb w':=by obtain⟨h0,h1,h2,h3⟩:=h;have hb:=he.block (iM h0);exact⟨(anm (w:=w) (a:=⟨0,0,none⟩) hb).trans h0,(anm (w:=w) (a:=⟨0,1,none⟩) hb).trans h1,(anm (w:=w) (a:=⟨0,2,none⟩) hb).trans h2,(anm (w:=w) (a:=⟨0,3,none⟩) hb).trans h3⟩
theorem aG{a b:Bool}(h:a=b):Ending.returned (.bool a)=.returned (.bool b):=by rw[h]
theorem tC{k:IntKind}{a b:Int}(h:a=b):Ending.returned (.int k a)=.returned (.int k b):=by rw[h]
theorem wN(p a:Int)(w:World):Calls prog 173 #[.int .i64 p,.int .i64 a] w λe w'=>e=.returned (.bool (fe p a))/\w=w':=by
 go_enter Tryz.func173,Tryz.ntmps173
 go_wp2
 all_goals go_ret
 all_goals exact⟨aG (by simp[fe];try omega),rfl⟩
theorem lZ(n lo hi:Int)(w:World):Calls prog 66 #[.int .i64 n,.int .i64 lo,.int .i64 hi] w λe w'=>e=.returned (.bool (bN lo hi n))/\w=w':=by
 go_enter Tryz.func66,Tryz.ntmps66
 go_wp2
 all_goals go_ret
 all_goals exact⟨aG (by simp[bN];try omega),rfl⟩
theorem iq(p:Int)(w:World)(ht:Tb w):Calls prog 51 #[.int .i64 p] w λe w'=>e=.returned (.bool (aj p))/\w=w':=by
 obtain⟨h0,h1,h2,h3⟩:=ht;by_cases hlo:p<2
 .go_enter Tryz.func51,Tryz.ntmps51
  go_wp2
  all_goals go_ret
  all_goals exact⟨aG (by simp[aj];omega),rfl⟩
 by_cases hhi:97<p
 .go_enter Tryz.func51,Tryz.ntmps51
  go_wp2
  all_goals go_ret
  all_goals exact⟨aG (by simp[aj];omega),rfl⟩
 have i0:∀W:World,(Instr.index 101 (.agg #[.int .i64 2,.int .i64 3,.int .i64 5,.int .i64 7]) (.int .i64 0)).run prog W=.ok (.int .i64 2) W:=λ_=>by kernel_rfl
 have i1:∀W:World,(Instr.index 101 (.agg #[.int .i64 2,.int .i64 3,.int .i64 5,.int .i64 7]) (.int .i64 1)).run prog W=.ok (.int .i64 3) W:=λ_=>by kernel_rfl
 have i2:∀W:World,(Instr.index 101 (.agg #[.int .i64 2,.int .i64 3,.int .i64 5,.int .i64 7]) (.int .i64 2)).run prog W=.ok (.int .i64 5) W:=λ_=>by kernel_rfl
 have i3:∀W:World,(Instr.index 101 (.agg #[.int .i64 2,.int .i64 3,.int .i64 5,.int .i64 7]) (.int .i64 3)).run prog W=.ok (.int .i64 7) W:=λ_=>by kernel_rfl
 go_enter Tryz.func51,Tryz.ntmps51
 go_wp2;refine wp_loop_rounds 5 ?_
 iterate 5 (all_goals (try (rw[rounds_succ];go_wp2)))
 all_goals go_ret
 all_goals refine⟨aG ?_,rfl⟩
 all_goals simp_all [aj]
 all_goals omega
theorem kU(p:Int)(w:World):Calls prog 38 #[.int .i64 p] w λe w'=>e=.returned (.bool (aj p))/\w=w':=by
 cases hin:bN 2 97 p with
 |false=>
  have hf:aj p=false:=by simp[bN]at hin;simp[aj];omega
  go_enter Tryz.func38,Tryz.ntmps38
  go_wp2_with (go_at_call 66;refine(lZ _ _ _ _).mono ?_;rintro e w' ⟨rfl,rfl⟩)
  go_ret;exact⟨aG (by rw[hf]),rfl⟩
 |true=>
  have hr:2<=p/\p<=97:=by simpa[bN]using hin
  obtain⟨h2,h97⟩:=hr;go_enter Tryz.func38,Tryz.ntmps38
  go_wp2_with (go_at_call 66;refine(lZ _ _ _ _).mono ?_;rintro e w' ⟨rfl,rfl⟩)
  have H:=amW hin;clear hin
  go_loop [3] (λi=>∃k:Nat,2<=k/\k<=10/\(∀j:Nat,2<=j->j<k->p%(j:Int)≠0)/\i=.int .i64 k) (λi=>10-(intOf i).toNat)
  case atStart=>exact⟨2,by omega,by omega,λj _ _=>by omega,rfl⟩
  case round=>
   obtain⟨k,hk2,hk10,hall,rfl⟩:=hrel;have hkm:(k:Int)*(k:Int)<=10*10:=Int.mul_le_mul (by omega) (by omega) (by omega) (by omega);have hk0:0<=(k:Int)*(k:Int):=Int.mul_nonneg (by omega) (by omega);have gy:=amW hall;clear hall;by_cases hlt:(k:Int)*(k:Int)<=p
   .by_cases hm:p%(k:Int)=0
    .have hf:=amW (NQ h2 h97 k hk2 hlt hm);go_wp2;go_ret;exact⟨aG (by rw[hf.out]),rfl⟩
    .have hk9:k<10:=by
      rcases anM k 10 with h|h
      .exact h
      .have:(10:Int)*10<=(k:Int)*(k:Int):=Int.mul_le_mul (by omega) (by omega) (by omega) (by omega);omega
     have hne:(p%(k:Int)==0)=false:=by simpa using hm
     go_wp2
     go_round
     case rel=>exact⟨k+1,by omega,by omega,λj h1 h3=>by
      rcases anM j k with h|h
      .exact gy.out j h1 h
      .obtain rfl:j=k:=by omega
       exact hm,by go_num⟩
     case measure=>simp[intOf];omega
   .have hf:=amW (JA h2 h97 k (by omega) gy.out);go_wp2;go_ret;exact⟨aG (by rw[hf.out]),rfl⟩
theorem xO(n:Nat)(hn:n<=1099511627776)(w:World):Calls prog 133 #[.int .i64 n] w λe w'=>∃g,e=.returned (.slice (some ⟨g,0,none⟩) n n)/\w.heap.size<=g/\dH w' g (replicate n 0)/\Ex w w':=by
 have hmk:=λW=>dD n hn W
 go_enter Tryz.func133,Tryz.ntmps133
 go_wp2;go_ret;exact⟨_,rfl,amX _,dH.new w _,(asF w).alloc _⟩
theorem rU{p:Int->Bool}(hx:xs[k]?=some x)(ha:(xs.take k).all p=true)(hp:p x=true):(xs.take (k+1)).all p=true:=by rw[am_,hx];simp[ha,hp]
theorem uL{p:Int->Bool}(hx:xs[k]?=some x)(hp:p x=false):xs.all p=false:=
 aof.2 ⟨x,am1 hx,by simp[hp]⟩
theorem sF(p:Int)(A:Option Addr)(c:Nat)(xs:List Int)(n:Int)(w:World)(h:Rd w A xs):
 Calls prog 172 #[.int .i64 p,.slice A xs.length c,.int .i64 n] w λe w'=>e=.returned (.bool (decide ((xs.length:Int)=n)&&av p xs))/\w=w':=by
 have hl:=h.len;by_cases hn:(xs.length:Int)=n
 .subst hn;go_enter Tryz.func172,Tryz.ntmps172
  go_wp2
  go_loop [15] (λi=>∃k:Nat,k<=xs.length/\(xs.take k).all (fe p)=true/\i=.int .i64 k) (λi=>xs.length-(intOf i).toNat)
  case atStart=>exact⟨0,am4 _,rfl,rfl⟩
  case round=>
   obtain⟨k,hk,hall,rfl⟩:=hrel;have gy:=amW hall;clear hall;by_cases hlt:k<xs.length
   .obtain⟨g,off,x,rfl,hx,hg,hc⟩:=h.at_ hlt;have Hx:=amW hx;clear hx;cases hel:fe p x with
    |true=>
     have Bg:=amW hel;go_wp2_with (go_at_call 173;refine(wN _ _ _).mono ?_;rintro e w' ⟨rfl,rfl⟩)
     go_round
     case rel=>exact⟨k+1,by omega,rU Hx.out gy.out Bg.out,by go_num⟩
     case measure=>simp[intOf];omega
    |false=>
     have Bg:=amW hel;go_wp2_with (go_at_call 173;refine(wN _ _ _).mono ?_;rintro e w' ⟨rfl,rfl⟩)
     go_ret;exact⟨aG (by simp[av,uL Hx.out Bg.out]),rfl⟩
   .obtain rfl:k=xs.length:=by omega
    go_wp2;go_ret;exact⟨aG (by have:=gy.out;rw[anf]at this;simp[av,this]),rfl⟩
 .have hn':((xs.length:Int) !=n)=true:=by simpa using hn
  go_enter Tryz.func172,Tryz.ntmps172
  go_wp2;go_ret;exact⟨aG (by simp[hn]),rfl⟩
theorem ug(A:Option Addr)(c:Nat)(xs:List Int)(lo hi:Int)(w:World)(h:Rd w A xs):
 Calls prog 67 #[.slice A xs.length c,.int .i64 lo,.int .i64 hi] w λe w'=>e=.returned (.bool (xs.all (bN lo hi)))/\w=w':=by
 have hl:=h.len;go_enter Tryz.func67,Tryz.ntmps67
 go_wp2
 go_loop [11] (λi=>∃k:Nat,k<=xs.length/\(xs.take k).all (bN lo hi)=true/\i=.int .i64 k) (λi=>xs.length-(intOf i).toNat)
 case atStart=>exact⟨0,am4 _,rfl,rfl⟩
 case round=>
  obtain⟨k,hk,hall,rfl⟩:=hrel;have gy:=amW hall;clear hall;by_cases hlt:k<xs.length
  .obtain⟨g,off,x,rfl,hx,hg,hc⟩:=h.at_ hlt;have Hx:=amW hx;clear hx;cases hel:bN lo hi x with
   |true=>
    have Bg:=amW hel;go_wp2_with (go_at_call 66;refine(lZ _ _ _ _).mono ?_;rintro e w' ⟨rfl,rfl⟩)
    go_round
    case rel=>exact⟨k+1,by omega,rU Hx.out gy.out Bg.out,by go_num⟩
    case measure=>simp[intOf];omega
   |false=>
    have Bg:=amW hel;go_wp2_with (go_at_call 66;refine(lZ _ _ _ _).mono ?_;rintro e w' ⟨rfl,rfl⟩)
    go_ret;exact⟨aG (by rw[uL Hx.out Bg.out]),rfl⟩
  .obtain rfl:k=xs.length:=by omega
   go_wp2;go_ret;exact⟨aG (by have:=gy.out;rw[anf]at this;rw[this]),rfl⟩
theorem Jz(p:Int)(A:Option Addr)(c:Nat)(xs:List Int)(w:World)(h:Rd w A xs)(h2:2<=p)(h97:p<=97):
 Calls prog 169 #[.int .i64 p,.slice A xs.length c] w λe w'=>e=.returned (.bool (av p xs))/\w=w':=by
 go_enter Tryz.func169,Tryz.ntmps169
 go_wp2_with (go_at_call 67;refine(ug _ _ _ _ _ _ h).mono ?_;rintro e w' ⟨rfl,rfl⟩)
 go_ret;exact⟨aG (by rw[Yb];rfl),rfl⟩
theorem gK(n lo hi:Int)(w:World):Calls prog 54 #[.int .i64 n,.int .i64 lo,.int .i64 hi] w λe w'=>e=.returned (.bool (bN lo hi n))/\w=w':=by
 go_enter Tryz.func54,Tryz.ntmps54
 go_wp2
 all_goals go_ret
 all_goals exact⟨aG (by simp[bN];try omega),rfl⟩
theorem Bt(xs:List Int)(k:Nat)(hk:k<xs.length)(x:Int)(hx:xs[k]?=some x):
 (xs.take k++replicate (xs.length-k) 0).set k x=xs.take (k+1)++replicate (xs.length-(k+1)) 0:=by
 obtain⟨_,rfl⟩:=am2.1 hx;apply anG;intro j;simp only[ang,aoj,anh,am8,anH,am9,anD]
 grind
theorem toIntS_c(A:Option Addr)(c:Nat)(xs:List Int)(w:World)(h:Rd w A xs):
 Calls prog 22 #[.slice A xs.length c] w λe w'=>∃g,e=.returned (.slice (some ⟨g,0,none⟩) xs.length xs.length)/\w.heap.size<=g/\dH w' g xs/\Ex w w':=by
 have hl:=h.len;have hmk:=λW=>dD xs.length h.len W
 have hb0:=dH.new w (replicate xs.length 0);have he0:=(asF w).alloc (aO (replicate xs.length 0));go_enter Tryz.func22,Tryz.ntmps22
 go_wp2;go_loopw [4] (λi wr=>∃k:Nat,k<=xs.length/\i=.int .i64 k/\dH wr w.heap.size (xs.take k++replicate (xs.length-k) 0)/\Ex w wr) (λi _=>xs.length-(intOf i).toNat)
 case atStart=>exact⟨0,am4 _,rfl,by simpa using hb0,he0⟩
 case round=>
  obtain⟨k,hk,rfl,hb,he⟩:=hrel;by_cases hlt:k<xs.length
  .obtain⟨g,off,x,rfl,hx,hg,hc⟩:=(h.ex he).at_ hlt;have hc2:=hb.cell (i:=k) (x:=0) (by rw[anw (by simp;omega),anH,amY (by simp;omega)]);have hf2:=hb.frozen k;have hs:=Bt xs k hlt x hx;have hb':=hb.aX k x;rw[hs]at hb';have H:=amW hx;clear hx hs;go_wp2;go_roundw;case rel=>exact⟨k+1,by omega,by go_num,hb',he.setCell (amX _) _⟩
   case measure=>simp[intOf];omega
  .obtain rfl:k=xs.length:=by omega
   go_wp2;go_ret;exact⟨_,rfl,amX _,by simpa using hb,he⟩
theorem Sn(A A':Option Addr)(c c':Nat)(xs:List Int)(w:World)(h:Rd w A xs)(h':Rd w A' xs):
 Calls prog 32 #[.slice A xs.length c,.slice A' xs.length c'] w λe w'=>e=.returned (.bool true)/\Ex w w':=by
 have hl:=h.len;go_enter Tryz.func32,Tryz.ntmps32
 go_wp2;go_loopw [5] (λi wr=>∃k:Nat,k<=xs.length/\i=.int .i64 k/\∃n,wr=w.drewN n) (λi _=>xs.length-(intOf i).toNat)
 case atStart=>exact⟨0,am4 _,rfl,0,rfl⟩
 case round=>
  obtain⟨k,hk,rfl,n,rfl⟩:=hrel;by_cases hlt:k<xs.length
  .obtain⟨g,off,x,rfl,hx,hg,hc⟩:=h.at_ hlt;obtain⟨g',off',x',rfl,hx',hg',hc'⟩:=h'.at_ hlt;obtain rfl:x=x':=by rw[hx]at hx';injection hx'
   have H:=amW hx;clear hx hx';go_wp2;go_quiet (fail)
   go_wp2;go_roundw;case rel=>exact⟨k+1,by omega,by go_num,_,rfl⟩
   case measure=>simp[intOf];omega
  .obtain rfl:k=xs.length:=by omega
   go_wp2;go_ret;exact⟨rfl,(asF w).drewN _⟩
def mk(k:Int)(n:Nat):List Int:=(range n).map λj:Nat=>k+(j:Int)
theorem su(k:Int)(n:Nat):(mk k n).length=n:=by simp[mk]
theorem aaL(k:Int)(n j:Nat)(h:j<n):(mk k n)[j]?=some (k+(j:Int)):=by simp[mk,h]
theorem UN(k:Int)(xs:List Int)(j:Nat)(h:j<xs.length):(mk k j++xs.drop j).set j (k+(j:Int))=mk k (j+1)++xs.drop (j+1):=by
 apply anG;intro i;simp only[ang,aoj,mk,am5,anK,am7,anB,am9,anp]
 grind
theorem Ja(B:Nat)(A:Option Addr)(c:Nat)(xs:List Int)(k:Int)(w:World)(h:Fr w B A c xs)(hk0:0<=k)(hk:k<=4611686018427387904):
 Calls prog 34 #[.slice A xs.length c,.int .i64 k] w λe w'=>e=.returned (.int .i64 (k+(xs.length:Int)))/\Fr w' B A c (mk k xs.length)/\wB (A.map Addr.block) w w':=by
 have hl:=h.rd.len;go_enter Tryz.func34,Tryz.ntmps34
 go_wp2;go_loopw [1,5] (λq i wr=>∃j:Nat,j<=xs.length/\q=.int .i64 (k+(j:Int))/\i=.int .i64 j/\Fr wr B A c (mk k j++xs.drop j)/\wB (A.map Addr.block) w wr) (λ_ i _=>xs.length-(intOf i).toNat)
 case atStart=>exact⟨0,am4 _,by simp,rfl,by simpa[mk]using h,wB.refl _ _⟩
 case round=>
  obtain⟨j,hj,rfl,rfl,hf,he⟩:=hrel;by_cases hlt:j<xs.length
  .obtain⟨g,off,x,rfl,hx,hg,hc⟩:=hf.rd.at_ (by rw[am9,su,anp];omega:j<(mk k j++xs.drop j).length);have hz:=hf.frozen (off+j);have hf':=hf.aX j (k+(j:Int));rw[UN k xs j hlt]at hf';have he':=he.setCell (p:=⟨g,off+j,none⟩) rfl (.int .i64 (k+(j:Int)));have H:=amW hx;clear hx;go_wp2;go_roundw;case rel=>exact⟨j+1,by omega,by go_num,by go_num,hf',he'⟩
   case measure=>simp[intOf];omega
  .obtain rfl:j=xs.length:=by omega
   go_wp2;go_ret;exact⟨rfl,by simpa using hf,he⟩
theorem Jq(A:Option Addr)(c:Nat)(k:Int)(n:Nat)(w:World)(h:Rd w A (mk k n))(hk0:0<=k)(hk:k<=4611686018427387904):
 Calls prog 102 #[.slice A n c,.int .i64 k] w λe w'=>e=.returned (.int .i64 (k+(n:Int)))/\w=w':=by
 have hl:=h.len;rw[su]at hl;go_enter Tryz.func102,Tryz.ntmps102
 go_wp2
 go_loop [1,5] (λq i=>∃j:Nat,j<=n/\q=.int .i64 (k+(j:Int))/\i=.int .i64 j) (λ_ i=>n-(intOf i).toNat)
 case atStart=>exact⟨0,am4 _,by simp,rfl⟩
 case round=>
  obtain⟨j,hj,rfl,rfl⟩:=hrel;by_cases hlt:j<n
  .obtain⟨g,off,x,rfl,hx,hg,hc⟩:=h.at_ (by rw[su];exact hlt:j<(mk k n).length);rw[aaL k n j hlt]at hx;injection hx with hx;subst hx;go_wp2
   go_round
   case rel=>exact⟨j+1,by omega,by go_num,by go_num⟩
   case measure=>simp[intOf];omega
  .obtain rfl:j=n:=by omega
   go_wp2;go_ret;exact⟨rfl,rfl⟩
theorem LK(A:Option Addr)(c n:Nat)(l:Int)(w:World)(hn:(n:Int)<=l)(hl:l<=1048576):Calls prog 14 #[.slice A n c,.int .i64 l] w λe w'=>e=.returned (.int .i64 (l-(n:Int)))/\w=w':=by
 go_enter Tryz.func14,Tryz.ntmps14
 go_wp2;go_ret;exact⟨rfl,rfl⟩
theorem Iz(A:Option Addr)(c n:Nat)(l:Int)(w:World)(hn:l<(n:Int))(hm:n<=9223372036854775807)(h0:0<=l)(hl:l<=1048576):Calls prog 14 #[.slice A n c,.int .i64 l] w λe w'=>e=.returned (.int .i64 (-1))/\w=w':=by
 go_enter Tryz.func14,Tryz.ntmps14
 go_wp2;go_ret;exact⟨rfl,rfl⟩
theorem EG{a:Int}(hp:0<p):(if a.tmod p<0 then a.tmod p+p else a.tmod p)=a%p:=by rw[Int.tmod_eq_emod];have h1:=anV a (show p≠0 by omega);have h2:=anW a hp;split<;>split<;>omega
theorem Iy{a:Int}(hp:0<p): -p<=a.tmod p/\a.tmod p<p:=by have:=EG (a:=a) hp;have h1:=anV a (show p≠0 by omega);have h2:=anW a hp;split at this<;>omega
theorem aaH(p a:Int)(w:World)(h2:2<=p)(h97:p<=97):Calls prog 155 #[.int .i64 p,.int .i64 a] w λe w'=>e=.returned (.int .i64 (a%p))/\w=w':=by
 have hp0:¬p=0:=by omega
 have hm:=EG (a:=a) (p:=p) (by omega);have hr:=Iy (a:=a) (p:=p) (by omega);by_cases hneg:a.tmod p<0
 .rw[amY hneg]at hm;have Hm:=amW hm;clear hm;go_enter Tryz.func155,Tryz.ntmps155
  go_wp2;go_ret;exact⟨tC Hm.out,rfl⟩
 .rw[amZ hneg]at hm;have Hm:=amW hm;clear hm;go_enter Tryz.func155,Tryz.ntmps155
  go_wp2;go_ret;exact⟨tC Hm.out,rfl⟩
theorem yu(p a b:Int)(w:World)(h2:2<=p)(ha:0<=a/\a<=96)(hb:0<=b/\b<=96):Calls prog 111 #[.int .i64 p,.int .i64 a,.int .i64 b] w λe w'=>e=.returned (.int .i64 (a*b%p))/\w=w':=by
 have hm:=sj ha hb;go_enter Tryz.func111,Tryz.ntmps111
 go_wp2;go_ret;exact⟨rfl,rfl⟩
theorem D5(p a b:Int)(w:World)(h2:2<=p)(ha:0<=a/\a<=96)(hb:0<=b/\b<=96):Calls prog 105 #[.int .i64 p,.int .i64 a,.int .i64 b] w λe w'=>e=.returned (.int .i64 ((a+b)%p))/\w=w':=by
 go_enter Tryz.func105,Tryz.ntmps105
 go_wp2;go_ret;exact⟨rfl,rfl⟩
theorem Vp(p a b:Int)(w:World)(h2:2<=p)(h97:p<=97)(ha:0<=a/\a<=96)(hb:0<=b/\b<=p):Calls prog 142 #[.int .i64 p,.int .i64 a,.int .i64 b] w λe w'=>e=.returned (.int .i64 ((a-b)%p))/\w=w':=by
 have e:(a+p-b)%p=(a-b)%p:=by rw[show a+p-b=(a-b)+p by omega,Int.add_emod_right]
 have E:=amW e;clear e;go_enter Tryz.func142,Tryz.ntmps142
 go_wp2;go_ret;exact⟨tC E.out,rfl⟩
theorem Xc(b:Bool)(w:World):Calls prog 159 #[.bool b] w λe w'=>e=.returned (.int .i64 (if b then 1 else 0))/\w=w':=by
 cases b
 all_goals
  go_enter Tryz.func159,Tryz.ntmps159
  go_wp2;go_ret;exact⟨rfl,rfl⟩
theorem Qd(p a:Int)(n:Nat)(o:Int):(if n%2=1 then o*a%p else o)*(a*a%p)^(n / 2)%p=o*a^n%p:=by
 have e1:(a*a%p)^(n / 2)%p=(a*a)^(n / 2)%p:=by
  generalize n / 2=m
  induction m with
  |zero=>simp
  |succ m ih=>rw[Int.pow_succ,Int.pow_succ,anT,ih,aok,<-anT]
 have e2:(a*a)^(n / 2)=a^(2*(n / 2)):=by
  generalize n / 2=m
  induction m with
  |zero=>simp
  |succ m ih=>rw[Int.pow_succ,ih,show 2*(m+1)=2*m+1+1 by omega,Int.pow_succ,Int.pow_succ,aol]
 split
 .rename_i h;rw[anT,e1,aok,<-anT,e2,aol,<-Int.pow_succ',show 2*(n / 2)+1=n by omega]
 .rw[anT,e1,<-anT,e2,show 2*(n / 2)=n by omega]
theorem Ko(p a n:Int)(w:World)(h2:2<=p)(h97:p<=97)(ha:0<=a/\a<p)(hn:0<=n)(hn2:n<=1000000):Calls prog 158 #[.int .i64 p,.int .i64 a,.int .i64 n] w λe w'=>e=.returned (.int .i64 (a^n.toNat%p))/\w=w':=by
 have h1:(1:Int)%p=1:=anX (by omega) (by omega);go_enter Tryz.func158,Tryz.ntmps158
 go_wp2
 go_loop [1,2,7] (λx m o=>∃(x' o':Int) (m':Nat),x=.int .i64 x'/\m=.int .i64 m'/\o=.int .i64 o'/\0<=x'/\x'<p/\0<=o'/\o'<p/\m'<=1000000/\o'*x'^m'%p=a^n.toNat%p) (λ_ m _=>(intOf m).toNat)
 case atStart=>exact⟨a,1,n.toNat,rfl,by rw[Int.toNat_of_nonneg hn],by rw[h1],ha.1,ha.2,by omega,by omega,by omega,by rw[Int.one_mul]⟩
 case round=>
  obtain⟨x,o,m,rfl,rfl,rfl,hx0,hxp,ho0,hop,hm,he⟩:=hrel;have hox:=sj (x:=o) (y:=x) ⟨by omega,by omega⟩ ⟨by omega,by omega⟩;have hxx:=sj (x:=x) (y:=x) ⟨by omega,by omega⟩ ⟨by omega,by omega⟩;have hh:=Qd p x m o;have r1:=anV (x*x) (show p≠0 by omega);have r2:=anW (x*x) (show 0<p by omega);have r3:=anV (o*x) (show p≠0 by omega);have r4:=anW (o*x) (show 0<p by omega);have He:=amW he;have Hh:=amW hh;have H1:=amW h1;clear he hh h1;by_cases hm0:m=0
  .subst hm0;go_wp2;go_ret;have:=He.out;rw[Int.pow_zero,Int.mul_one,anX ho0 hop]at this;exact⟨tC this,rfl⟩
  .by_cases hodd:m%2=1
   .have hb:((m:Int)%2==1)=true:=by simp;omega
    go_wp2
    go_round
    case rel=>exact⟨x*x%p,o*x%p,m / 2,rfl,by go_num,rfl,r1,r2,r3,r4,by omega,by rw[<-He.out,<-Hh.out,amY hodd]⟩
    case measure=>simp[intOf];omega
   .have hb:((m:Int)%2==1)=false:=by simp;omega
    go_wp2
    go_round
    case rel=>exact⟨x*x%p,o,m / 2,rfl,by go_num,rfl,r1,r2,ho0,hop,by omega,by rw[<-He.out,<-Hh.out,amZ hodd]⟩
    case measure=>simp[intOf];omega
theorem mW(p a:Int)(w:World)(h2:2<=p)(h97:p<=97)(ha:0<=a/\a<p):Calls prog 138 #[.int .i64 p,.int .i64 a] w λe w'=>e=.returned (.int .i64 (bO p a))/\w=w':=by
 by_cases hp:p=2
 .subst hp;go_enter Tryz.func138,Tryz.ntmps138
  go_wp2_with (first|(go_at_call 159;refine(Xc _ _).mono ?_;rintro e w' ⟨rfl,rfl⟩)|(go_at_call 158;refine(Ko _ _ _ _ (by omega) (by omega) ha (by simp) (by simp)).mono ?_;rintro e w' ⟨rfl,rfl⟩))
  go_ret;exact⟨rfl,rfl⟩
 .have hb:(p==2)=false:=by simpa using hp
  have he:bO p a=a^(p-2+0).toNat%p:=by rw[bO,amZ hp]
  have He:=amW he;clear he;go_enter Tryz.func138,Tryz.ntmps138
  go_wp2_with (first|(go_at_call 159;refine(Xc _ _).mono ?_;rintro e w' ⟨rfl,rfl⟩)|(go_at_call 158;refine(Ko _ _ _ _ h2 h97 ha (by omega) (by omega)).mono ?_;rintro e w' ⟨rfl,rfl⟩))
  go_ret;exact⟨by rw[He.out];simp,rfl⟩
theorem yw(p a:Int)(w:World)(hf:aj p=true)(ha:0<a/\a<p):Calls prog 109 #[.int .i64 p,.int .i64 a] w λe w'=>e=.returned (.int .i64 (bO p a))/\w=w':=by
 have h2:=au hf;have h97:=aQ hf;have hb:=(FX hf ha.1 ha.2).2;have Hb:=amW hb;clear hb hf;go_enter Tryz.func109,Tryz.ntmps109
 go_wp2
 go_loop [5] (λx=>∃k:Nat,1<=k/\(k:Int)<=p/\x=.int .i64 k/\invS p a (p-k).toNat k=bO p a) (λx=>(p-intOf x).toNat)
 case atStart=>exact⟨1,by omega,by omega,rfl,Hb.out⟩
 case round=>
  obtain⟨k,hk1,hkp,rfl,he⟩:=hrel;have He:=amW he;clear he;by_cases hlt:(k:Int)<p
  .have hak:=sj (x:=a) (y:=(k:Int)) ⟨by omega,by omega⟩ ⟨by omega,by omega⟩;have e1:(p-(k:Int)).toNat=(p-((k+1:Nat):Int)).toNat+1:=by omega
   by_cases h1:a*(k:Int)%p=1
   .have hres:bO p a=(k:Int):=by rw[<-He.out,e1,invS,amY h1]
    have TN:=amW hres;have hb1:(a*(k:Int)%p==1)=true:=by simpa using h1
    clear hres h1 e1;go_wp2;go_ret;exact⟨by rw[TN.out];rfl,rfl⟩
   .have hres:invS p a (p-((k+1:Nat):Int)).toNat ((k+1:Nat):Int)=bO p a:=by
     have:=He.out;rw[e1,invS,amZ h1]at this;exact this
    have TN:=amW hres;have hb1:(a*(k:Int)%p==1)=false:=by simpa using h1
    clear hres h1 e1;go_wp2
    go_round
    case rel=>exact⟨k+1,by omega,by omega,by go_num,TN.out⟩
    case measure=>simp[intOf];omega
  .have hres:bO p a=0:=by rw[<-He.out,show(p-(k:Int)).toNat=0 by omega];rfl
   have TN:=amW hres;clear hres;go_wp2;go_ret;exact⟨by rw[TN.out];rfl,rfl⟩
theorem QY(a b:Int)(w:World):Calls prog 110 #[.int .i64 a,.int .i64 b] w λe w'=>e=.returned (.int .i64 (max a b))/\w=w':=by
 go_enter Tryz.func110,Tryz.ntmps110
 go_wp2
 all_goals go_ret
 all_goals exact⟨tC (by omega),rfl⟩
theorem uI(A:Option Addr)(c n:Nat)(w:World)(hn:n<=1099511627776):Calls prog 161 #[.slice A n c] w λe w'=>e=.returned (.int .i64 ((n:Int)-1))/\w=w':=by
 go_enter Tryz.func161,Tryz.ntmps161
 go_wp2;go_ret;exact⟨rfl,rfl⟩
theorem uJ(A:Option Addr)(c:Nat)(xs:List Int)(w:World)(h:Rd w A xs):
 Calls prog 157 #[.slice A xs.length c] w λe w'=>∃g c',e=.returned (.slice (some ⟨g,0,none⟩) xs.length c')/\xs.length<=c'/\w.heap.size<=g/\Own w' g xs/\Ex w w':=by
 have hl:=h.len;have hal:AL (w.alloc (.cells #[] 3)) w.heap.size (.slice (some ⟨w.heap.size,0,none⟩) 0 0) []:=AL.empty w (amX _);obtain⟨v',w1,hrun,hv,hx,hb⟩:=fH 23 23 Tryz.underlying23 _ _ _ _ hal (by simp) A c xs (h.ex ((asF w).alloc _)) (by simpa using hl);have hex:Ex w w1:=((asF w).alloc (.cells #[] 3)).Sj hx (λg e=>by simp[Value.ownBlock]at e;omega);obtain⟨A',c',rfl,hf⟩:=hv.form (by simpa using hl);rw[aon]at hf hv;have hA:∃g,A'=some ⟨g,0,none⟩:=by
  rcases hv.2 with⟨e,_⟩|⟨g,cap,cur,e,_⟩
  .injection e with e1 _ _;subst e1;rcases hb with hb|hb<;>simp[Value.ownBlock]at hb
  .injection e with e1 _ _;exact⟨g,e1⟩
 obtain⟨g,rfl⟩:=hA;obtain⟨_,_,hc,hg,ho⟩:=hv.own;go_enter Tryz.func157,Tryz.ntmps157
 go_wp2_with (at_builtin;refine wpList_append_run rfl _ _ _ rfl rfl rfl hrun ?_)
 go_ret;exact⟨g,c',rfl,hc,hg,ho,hex⟩
theorem jK(A:Option Addr)(c:Nat)(xs:List Int)(w:World)(h:Rd w A xs):
 Calls prog 18 #[.slice A xs.length c] w λe w'=>∃g c',e=.returned (.slice (some ⟨g,0,none⟩) xs.length c')/\xs.length<=c'/\w.heap.size<=g/\Own w' g xs/\Ex w w':=by
 have hl:=h.len;have hal:AL (w.alloc (.cells #[] 3)) w.heap.size (.slice (some ⟨w.heap.size,0,none⟩) 0 0) []:=AL.empty w (amX _);obtain⟨v',w1,hrun,hv,hx,hb⟩:=fH 23 23 Tryz.underlying23 _ _ _ _ hal (by simp) A c xs (h.ex ((asF w).alloc _)) (by simpa using hl);have hex:Ex w w1:=((asF w).alloc (.cells #[] 3)).Sj hx (λg e=>by simp[Value.ownBlock]at e;omega);obtain⟨A',c',rfl,hf⟩:=hv.form (by simpa using hl);rw[aon]at hf hv;have hA:∃g,A'=some ⟨g,0,none⟩:=by
  rcases hv.2 with⟨e,_⟩|⟨g,cap,cur,e,_⟩
  .injection e with e1 _ _;subst e1;rcases hb with hb|hb<;>simp[Value.ownBlock]at hb
  .injection e with e1 _ _;exact⟨g,e1⟩
 obtain⟨g,rfl⟩:=hA;obtain⟨_,_,hc,hg,ho⟩:=hv.own;go_enter Tryz.func18,Tryz.ntmps18
 go_wp2_with (at_builtin;refine wpList_append_run rfl _ _ _ rfl rfl rfl hrun ?_)
 go_ret;exact⟨g,c',rfl,hc,hg,ho,hex⟩
theorem BO(h:xs[k]?=some 0):trim (xs.take (k+1))=trim (xs.take k):=by rw[am_,h];exact yG _
theorem BM(h:xs[k]?=some x)(hx:x≠0):trim (xs.take (k+1))=xs.take (k+1):=by rw[am_,h];exact BN _ hx
theorem LD(A:Option Addr)(c:Nat)(xs:List Int)(w:World)(h:Rd w A xs)(hc:xs.length<=c):
 Calls prog 135 #[.slice A xs.length c,.int .i64 0] w λe w'=>e=.returned (.slice A (trim xs).length (trim xs).length)/\w=w':=by
 have hl:=h.len;go_enter Tryz.func135,Tryz.ntmps135
 go_wp2
 go_loop [5] (λn=>∃k:Nat,k<=xs.length/\n=.int .i64 k/\trim (xs.take k)=trim xs) (λn=>(intOf n).toNat)
 case atStart=>exact⟨_,amX _,rfl,by rw[anf]⟩
 case round=>
  obtain⟨k,hk,rfl,ht⟩:=hrel;have Ht:=amW ht;clear ht;cases k with
  |zero=>
   have hz:(trim xs).length=0:=by rw[<-Ht.out];rfl
   have Hz:=amW hz;clear hz;go_wp2;go_ret;exact⟨by rw[Hz.out];rfl,rfl⟩
  |succ k=>
   obtain⟨g,off,x,rfl,hx,hg,hcell⟩:=h.at_ (by omega:k<xs.length);by_cases h0:x=0
   .subst h0;have hn:=(BO hx).symm.trans Ht.out;have Hn:=amW hn;clear hn hx;go_wp2
    go_round
    case rel=>exact⟨k,by omega,rfl,Hn.out⟩
    case measure=>simp[intOf]
   .have hn:(trim xs).length=k+1:=by rw[<-Ht.out,BM hx h0,am8];omega
    have Hn:=amW hn;have hb:(x==0)=false:=by simpa using h0
    clear hn hx;go_wp2;go_ret;exact⟨by rw[Hn.out];simp,rfl⟩
theorem qx(A:Option Addr)(c n:Nat)(xs:List Int)(w:World)(h:Rd w A xs)(hn:xs.length=n)(hc:n<=c):
 Calls prog 135 #[.slice A n c,.int .i64 0] w λe w'=>e=.returned (.slice A (trim xs).length (trim xs).length)/\w=w':=by
 subst hn;exact LD A c xs w h hc
theorem kN(A:Option Addr)(c:Nat)(xs:List Int)(w:World)(h:Rd w A xs)(hc:xs.length<=c):
 Calls prog 106 #[.slice A xs.length c] w λe w'=>∃g c',e=.returned (.slice (some ⟨g,0,none⟩) (trim xs).length c')/\(trim xs).length<=c'/\w.heap.size<=g/\Own w' g (trim xs)/\Ex w w':=by
 have hl:=h.len;have htl:=gD xs;have hrd:Rd w A (trim xs):=by rw[mG];exact h.take _
 go_enter Tryz.func106,Tryz.ntmps106
 go_wp2
 go_loop [3] (λn=>∃k:Nat,k<=xs.length/\n=.int .i64 k/\trim (xs.take k)=trim xs) (λn=>(intOf n).toNat)
 case atStart=>exact⟨_,amX _,rfl,by rw[anf]⟩
 case round=>
  obtain⟨k,hk,rfl,ht⟩:=hrel;have Ht:=amW ht;clear ht;cases k with
  |zero=>
   have hz:trim xs=[]:=by rw[<-Ht.out];rfl
   rw[hz]at hrd;have Hz:=amW hz;clear hz htl;go_wp2_with fail
   refine(jK A c [] w hrd).mono ?_;rintro e w1 ⟨g,c',rfl,h1,h2,h3,h4⟩;go_wp2;go_ret;exact⟨g,c',by rw[Hz.out];rfl,by rw[Hz.out];exact h1,h2,by rw[Hz.out];exact h3,h4⟩
  |succ k=>
   obtain⟨g,off,x,rfl,hx,hg,hcell⟩:=h.at_ (by omega:k<xs.length);by_cases h0:x=0
   .subst h0;have hn:=(BO hx).symm.trans Ht.out;have Hn:=amW hn;clear hn hx;go_wp2_with fail
    go_round
    case rel=>exact⟨k,by omega,rfl,Hn.out⟩
    case measure=>simp[intOf]
   .have hn:(trim xs).length=k+1:=by rw[<-Ht.out,BM hx h0,am8];omega
    have Hn:=amW hn;have hb:(x==0)=false:=by simpa using h0
    clear hn hx;go_wp2_with fail
    rw[<-Hn.out];refine(jK _ c (trim xs) w hrd).mono ?_;rintro e w1 ⟨g',c',rfl,h1,h2,h3,h4⟩;go_wp2;go_ret;exact⟨g',c',rfl,h1,h2,h3,h4⟩
theorem qm(p:Int)(g s n c:Nat)(xs:List Int)(b:Int)(A:Option Addr)(d:Nat)(ys:List Int)(w:World)(ho:Own w g xs)(hn:s+n<=xs.length)(h:Rd w A ys)(hy:ys.length<=n)(hoff:ys≠[]->Off A g)
 (h2:2<=p) (h97:p<=97) (hxe:av p xs=true) (hye:av p ys=true) (hb: -10000<=b/\b<=10000):
 Calls prog 134 #[.int .i64 p,.slice (some ⟨g,s,none⟩) n c,.int .i64 b,.slice A ys.length d] w λe w'=>e=.returned (.tuple #[])/\Own w' g (bA p xs s b ys)/\aJ g w w':=by
 have hl:=h.len;have Hxe:=amW hxe;have Hye:=amW hye;clear hxe hye;go_enter Tryz.func134,Tryz.ntmps134
 go_wp2;go_loopw [12] (λi wr=>∃k:Nat,k<=ys.length/\i=.int .i64 k/\Own wr g (bA p xs s b (ys.take k))/\aJ g w wr) (λi _=>ys.length-(intOf i).toNat)
 case atStart=>exact⟨0,am4 _,rfl,by rw[aoo,nD];exact ho,aJ.refl _ _⟩
 case round=>
  obtain⟨k,hk,rfl,hok,hek⟩:=hrel;by_cases hlt:k<ys.length
  .obtain⟨g',off,y,rfl,hyk,hg',hcell⟩:=(h.aM hek (hoff (by intro e;subst e;simp at hlt))).at_ hlt;have hcf:(bA p xs s b (ys.take k))[s+k]?=some (cf xs (s+k)):=qp (by omega) (by simp;omega);have hcx:=hok.cell hcf;have hfz:=hok.frozen (s+k);have hbx:=fU Hxe.out (by omega) (s+k);have hby:=bI Hye.out hyk;have hso:=hok.aX (s+k) ((cf xs (s+k)+b*y)%p);have hcy:cf ys k=y:=iW hyk;rw[<-hcy,oW p xs s b ys k hlt,hcy]at hso;have hmb: -960000<=b*y/\b*y<=960000:=by
    have m1:=Int.mul_le_mul_of_nonneg_right hb.1 hby.1;have m2:=Int.mul_le_mul_of_nonneg_right hb.2 hby.1;omega
   generalize cf xs (s+k)=x at*;clear hcf hyk hcy;go_wp2_with (go_at_call 155;refine(aaH _ _ _ h2 h97).mono ?_;rintro e w' ⟨rfl,rfl⟩)
   go_roundw;case rel=>exact⟨k+1,by omega,by go_num,hso,hek.setCell rfl _⟩
   case measure=>simp[intOf];omega
  .obtain rfl:k=ys.length:=by omega
   rw[anf]at hok;go_wp2
   go_end0
   exact⟨rfl,hok,hek⟩
theorem AJ(p:Int)(g s n c:Nat)(xs:List Int)(b:Int)(A:Option Addr)(d:Nat)(ys:List Int)(w:World)(ho:Own w g xs)(hn:s+n<=xs.length)(h:Rd w A ys)(hy:ys.length<=n)(hoff:ys≠[]->Off A g)
 (h2:2<=p) (h97:p<=97) (hxe:av p xs=true) (hye:av p ys=true) (hb: -96<=b/\b<=96):
 Calls prog 134 #[.int .i64 p,.slice (some ⟨g,s,none⟩) n c,.int .i64 b,.slice A ys.length d] w λe w'=>e=.returned (.tuple #[])/\Own w' g (bA p xs s b ys)/\aJ g w w':=
 qm p g s n c xs b A d ys w ho hn h hy hoff h2 h97 hxe hye ⟨by omega,by omega⟩
theorem uT{ops:Array Oper}{rest:List Oper}{o:Oper}{a:Act}{w0:World}{Q:Exit->Act->World->Prop}(hgd:o.guard=none)(d s:Operand)(dT sT:TypeId)
 (ho:o.op=.call {callee:=.builtin .copy,args:= #[d,s],argTypes:= #[dT,sT]}) (hu:prog.underlying dT=some (.slice 3))
 {g n c sc:Nat} {A:Option Addr} {f xs:List Int} (hd:a.eval d=.slice (some ⟨g,0,none⟩) n c) (hs:a.eval s=.slice A f.length sc)
 (hf:Rd w A f) (hfn:f.length<=n) (hxn:xs.length=n) (hown:Own w g xs) (hex:Ex w0 w) (hB:w0.heap.size<=g)
 (h:∀w',Own w' g (f++xs.drop f.length)->Ex w0 w'->wpList prog ops Q rest (a.put o.dst (goInt f.length)) w'):wpList prog ops Q (o::rest) a w:=by
 obtain⟨cur,hc,hx⟩:=hown;have hcl:xs.length<=cur.size:=by
  rcases anM cur.size xs.length with h1|h1
  .have:=hx cur.size _ (am0 h1);rw[ao1 (amX _)]at this;cases this
  .exact h1
 have hi:(prog.info? 3).map (·.size)=some 1:=by kernel_rfl
 have hlen:(f.map (Value.int .i64)).length=f.length:=by simp
 refine wpList_copy_splice hgd d s dT sT ho 3 hu hi (some ⟨g,0,none⟩) A n c f.length sc hd hs g 0 cur.toList 3 (by simpa using hc) (f.map (Value.int .i64)) (by rw[hlen];exact(Nat.min_eq_left hfn).symm) ?_ (by rw[hlen];simp;omega) (by
  intro v hv;obtain⟨x,_,rfl⟩:=am3.1 hv;rfl) w0.heap.size w0 hex hB ?_
 .intro hpos;refine⟨rfl,?_⟩;have hf0:0<f.length:=by simpa using hpos
  obtain⟨g',off,hA,_⟩:=hf.2 0 hf0;refine⟨⟨g',off,none⟩,hA,λj v hj=>?_⟩;rw[am7]at hj;cases hfj:f[j]? with
  |none=>rw[hfj]at hj;cases hj
  |some y=>
   rw[hfj]at hj;injection hj with hj;subst hj;have e:(⟨g',off,none⟩:Addr).add j=⟨g',off+j,none⟩:=by unfold Addr.add;split<;>simp_all
   rw[e];rw[hA]at hf;exact hf.cell hfj
 .intro w' hw hb;rw[hlen];refine h w' ⟨_,hw.out,λj y hj=>?_⟩ hb;simp only[splice,aoo,aon,anE,hlen];rw[aoj]at hj;simp only[List.getElem?_toArray,aoj,hlen,am7,anB];split
  .rename_i hjl;rw[amY hjl]at hj;rw[hj];rfl
  .rename_i hjl;rw[amZ hjl,anB]at hj;have:=hx _ _ hj;simpa using this
theorem GI(f:List Int)(n:Nat):f++(replicate n (0:Int)).drop f.length=iA f n:=by rw[iA,List.drop_replicate]
theorem IU(p:Int)(A B:Option Addr)(c d:Nat)(f g:List Int)(b:Int)(w:World)(hf:Rd w A f)(hg:Rd w B g)(h2:2<=p)(h97:p<=97)(hfe:av p f=true)(hge:av p g=true)(hb: -10000<=b/\b<=10000):
 Calls prog 96 #[.int .i64 p,.slice A f.length c,.int .i64 b,.slice B g.length d] w λe w'=>∃A' c',e=.returned (.slice A' (bL p f b g).length c')/\Fr w' w.heap.size A' c' (bL p f b g)/\Ex w w':=by
 have hl:=hf.len;have hl':=hg.len;go_enter Tryz.func96,Tryz.ntmps96
 obtain⟨n,hn⟩:∃n:Nat,n=max f.length g.length:=⟨_,rfl⟩;have hfn:f.length<=n:=by omega
 have hgn:g.length<=n:=by omega
 have hn2:n<=1099511627776:=by omega
 have hnn:n=f.length∨n=g.length:=by omega
 have Hn:=amW hn;clear hn;go_wp2_with fail
 all_goals
  (first
    |rw[show(f.length:Int)=(n:Int) by omega]
    |rw[show(g.length:Int)=(n:Int) by omega])
  refine(xO n hn2 _).mono ?_;rintro e w1 ⟨gg,rfl,hgg,hbk,hx1⟩;have hown:=hbk.own;go_wp2_with (with_reducible refine uT (w0:=w) rfl (.tmp 16) (.tmp 17) _ _ rfl Tryz.underlying23 rfl rfl (hf.ex hx1) hfn (anD) hown hx1 hgg ?_;intro w2 ho2 hx2)
  rw[GI]at ho2;have hpl:(iA f n).length=n:=mP hfn;refine(qm p gg 0 n n (iA f n) b B d g w2 ho2 (by omega) (hg.ex hx2) hgn (λh0=>hg.off hgg h0) h2 h97 (zw hfe (by omega) n) hge hb).mono ?_;rintro e w3 ⟨rfl,ho3,hx3⟩;have YA:Ex w w3:=hx2.aM hx3 hgg;have hll:(bA p (iA f n) 0 b g).length=n:=by rw[aS,hpl]
  have hr3:=ho3.rd (by omega);go_wp2_with fail
  refine(qx _ n n _ w3 hr3 hll (amX _)).mono ?_;rintro e w4 ⟨rfl,rfl⟩;go_wp2;go_ret;have hP:trim (bA p (iA f n) 0 b g)=bL p f b g:=by rw[bL,<-Hn.out]
  rw[hP];refine⟨_,_,rfl,?_,YA⟩;have:=(ho3.fr (B:=w.heap.size) (c:=n) (by omega) hgg (by omega)).take (c':=(bL p f b g).length) (bL p f b g).length (aoc _ _);rw[<-hP,<-mG,hP]at this;exact this
theorem Cb(p:Int)(A B:Option Addr)(c d:Nat)(f g:List Int)(b:Int)(w:World)(hf:Rd w A f)(hg:Rd w B g)(h2:2<=p)(h97:p<=97)(hfe:av p f=true)(hge:av p g=true)(hb: -96<=b/\b<=96):
 Calls prog 96 #[.int .i64 p,.slice A f.length c,.int .i64 b,.slice B g.length d] w λe w'=>∃A' c',e=.returned (.slice A' (bL p f b g).length c')/\Fr w' w.heap.size A' c' (bL p f b g)/\Ex w w':=
 IU p A B c d f g b w hf hg h2 h97 hfe hge ⟨by omega,by omega⟩
theorem Own.Jw(h:Own w g xs)(hl:xs.length<=1099511627776)(hB:B<=g):Fr w B (some ⟨g,0,none⟩) (trim xs).length (trim xs):=by have:=(h.fr (c:=xs.length) hl hB (amX _)).take (c':=(trim xs).length) (trim xs).length (aoc _ _);rw[<-mG]at this;exact this
theorem mM(p:Int)(A B:Option Addr)(c d:Nat)(f g:List Int)(w:World)(hf:Rd w A f)(hg:Rd w B g)(h2:2<=p)(h97:p<=97)(hfe:av p f=true)(hge:av p g=true)(hs:f.length+g.length<=1099511627776):
 Calls prog 97 #[.int .i64 p,.slice A f.length c,.slice B g.length d] w λe w'=>∃A' c',e=.returned (.slice A' (ax p f g).length c')/\Fr w' w.heap.size A' c' (ax p f g)/\Ex w w':=by
 have hl:=hf.len;have hl':=hg.len;by_cases hf0:f=[]
 .subst hf0;go_enter Tryz.func97,Tryz.ntmps97
  go_wp2;go_ret;exact⟨some ⟨w.heap.size,0,none⟩,0,rfl,(Own.new w []).fr (by simp) (amX _) (amX _),(asF w).alloc _⟩
 have hfl:=ana.2 hf0;by_cases hg0:g=[]
 .subst hg0;have hp:ax p f []=[]:=by rw[ax,eZ,amY (.inr rfl)];rfl
  have Hp:=amW hp;have hb:((f.length:Int)==0)=false:=by simp;omega
  clear hp;go_enter Tryz.func97,Tryz.ntmps97
  go_wp2;go_ret;rw[Hp.out];exact⟨some ⟨w.heap.size,0,none⟩,0,rfl,(Own.new w []).fr (by simp) (amX _) (amX _),(asF w).alloc _⟩
 have hgl:=ana.2 hg0;have hb1:((f.length:Int)==0)=false:=by simp;omega
 have hb2:((g.length:Int)==0)=false:=by simp;omega
 obtain⟨n,hn⟩:∃n:Nat,n=f.length+g.length-1:=⟨_,rfl⟩;have hni:(n:Int)=(f.length:Int)+(g.length:Int)-1:=by omega
 have hn1:n=f.length-1+g.length:=by omega
 have JS:=amW hfe;have JR:=amW hge;have Hf0:=amW hf0;have Ll:=amW hg0;have Hn:=amW hn;have Hni:=amW hni;have Hn1:=amW hn1;clear hfe hge hf0 hg0 hn hni hn1;go_enter Tryz.func97,Tryz.ntmps97
 go_wp2_with fail
 rw[<-Hni.out];refine(xO n (by have:=Hn.out;omega) _).mono ?_;rintro e w1 ⟨gg,rfl,hgg,hbk,hx1⟩;have hown:=hbk.own;clear hbk;go_wp2_with fail
 go_loopw [28] (λi wr=>∃k:Nat,k<=f.length/\i=.int .i64 k/\Own wr gg (fP p f g k)/\Ex w wr) (λi _=>f.length-(intOf i).toNat)
 case atStart=>exact⟨0,am4 _,rfl,by rw[fP,<-Hn.out];exact hown,hx1⟩
 case round=>
  obtain⟨k,hk,rfl,hok,hek⟩:=hrel;have hml:=jD p f g k;have Zl:=amW hml;clear hml;by_cases hlt:k<f.length
  .obtain⟨g',off,x,rfl,hx,hg',hcell⟩:=(hf.ex hek).at_ hlt;have hxb:=bI JS.out hx;have hcx:cf f k=x:=iW hx;have Xg:=amW hcx;have hkn:k<n:=by have:=Hn1.out;omega
   clear hx hcx;go_wp2_with fail
   refine(AJ p gg k (n-k) (n-k) (fP p f g k) x B d g _ hok (by rw[Zl.out,<-Hn.out];omega) (hg.ex hek) (by have:=Hn1.out;omega) (λh0=>(hg.ex (asF w)).off hgg h0) h2 h97 (zI (by omega) _ _ _) JR.out (by omega)).mono ?_;rintro e w3 ⟨rfl,ho3,hx3⟩;have YA:Ex w w3:=hek.aM hx3 hgg;go_wp2_with fail
   go_roundw;case rel=>exact⟨k+1,by omega,by go_num,by rw[fP,Xg.out];exact ho3,YA⟩
   case measure=>simp[intOf];omega
  .obtain rfl:k=f.length:=by omega
   have hr:=hok.rd (by rw[Zl.out];omega);go_wp2_with fail
   refine(qx _ n n _ _ hr (by rw[Zl.out,<-Hn.out]) (amX _)).mono ?_;rintro e w4 ⟨rfl,rfl⟩;go_wp2;go_ret;have hP:trim (fP p f g f.length)=ax p f g:=by rw[ax,eZ,amZ (by simp[Hf0.out,Ll.out])]
   rw[hP];refine⟨_,_,rfl,?_,hek⟩;have:=hok.Jw (B:=w.heap.size) (by rw[Zl.out];omega) hgg;rw[hP]at this;exact this
theorem ou(p:Int)(v:List Int)(s:Nat)(b:Int)(w:List Int)(k:Nat)(hk:k<w.length){y:Int}(hy:w[k]?=some y)(hx:cf v (s+k)=x):
 (bA p v s b (w.take k)).set (s+k) ((x+b*y)%p)=bA p v s b (w.take (k+1)):=by
 rw[<-oW p v s b w k hk,hx,iW hy]
theorem LH(f:List Int)(n k:Nat)(hk:k<f.length)(hn:f.length<=n)(hx:f[k]?=some x):
 (f.take k++(replicate n (0:Int)).drop k).set k x=f.take (k+1)++(replicate n (0:Int)).drop (k+1):=by
 apply anG;intro j;obtain⟨_,rfl⟩:=am2.1 hx;simp only[ang,aoj,anh,am8,List.drop_replicate,anH,am9,anD]
 grind
theorem UC(p:Int)(A B:Option Addr)(c d:Nat)(f g:List Int)(w:World)(hf:Rd w A f)(hg:Rd w B g)(h2:2<=p)(h97:p<=97)(hfe:av p f=true)(hge:av p g=true):
 Calls prog 75 #[.int .i64 p,.slice A f.length c,.slice B g.length d] w λe w'=>∃A' c',e=.returned (.slice A' (bL p f 1 g).length c')/\Fr w' w.heap.size A' c' (bL p f 1 g)/\Ex w w':=by
 have hl:=hf.len;have hl':=hg.len;obtain⟨n,hn⟩:∃n:Nat,n=max f.length g.length:=⟨_,rfl⟩;have hfn:f.length<=n:=by omega
 have hgn:g.length<=n:=by omega
 have hn2:n<=1099511627776:=by omega
 have hni:max (f.length:Int) (g.length:Int)=(n:Int):=by omega
 have Hn:=amW hn;have JS:=amW hfe;have JR:=amW hge;clear hn hfe hge;have hmk:=λW=>dD n hn2 W
 have ho0:=Own.new w (replicate n 0);have he0:=(asF w).alloc (aO (replicate n 0));go_enter Tryz.func75,Tryz.ntmps75
 go_wp2_with (go_at_call 110;refine(QY _ _ _).mono ?_;rintro e w' ⟨rfl,rfl⟩)
 clear hmk;go_loopw [20] (λi wr=>∃k:Nat,k<=f.length/\i=.int .i64 k/\Own wr w.heap.size (f.take k++(replicate n 0).drop k)/\Ex w wr) (λi _=>f.length-(intOf i).toNat)
 case atStart=>exact⟨0,am4 _,rfl,by simpa using ho0,he0⟩
 case round=>
  obtain⟨k,hk,rfl,hok,hek⟩:=hrel;by_cases hlt:k<f.length
  .obtain⟨g',off,x,rfl,hx,hg',hcell⟩:=(hf.ex hek).at_ hlt;have hc2:=hok.cell (i:=k) (x:=0) (by rw[anw (by simp;omega),List.drop_replicate,anH,amY (by simp;omega)]);have hfz:=hok.frozen k;have hso:=hok.aX k x;rw[LH f n k hlt hfn hx]at hso;have hkn:k<n:=by omega
   clear hx;go_wp2_with fail
   go_roundw;case rel=>exact⟨k+1,by omega,by go_num,hso,hek.setCell (amX _) _⟩
   case measure=>simp[intOf];omega
  .obtain rfl:k=f.length:=by omega
   rw[anf,GI]at hok;have hpl:=amW (mP hfn);have hpe:=amW (zw JS.out (by omega) n);go_wp2_with fail
   go_loopw [32] (λi wr=>∃k:Nat,k<=g.length/\i=.int .i64 k/\Own wr w.heap.size (bA p (iA f n) 0 1 (g.take k))/\Ex w wr) (λi _=>g.length-(intOf i).toNat)
   case atStart=>exact⟨0,am4 _,rfl,by rw[aoo,nD];exact hok,hek⟩
   case round=>
    obtain⟨k,hk,rfl,hok,hek⟩:=hrel;by_cases hlt:k<g.length
    .obtain⟨g',off,y,rfl,hy,hg',hcell⟩:=(hg.ex hek).at_ hlt;have hcf:(bA p (iA f n) 0 1 (g.take k))[k]?=some (cf (iA f n) k):=qp (by rw[hpl.out];omega) (by simp;omega);have hcx:=hok.cell hcf;have hfz:=hok.frozen k;have hbx:=fU hpe.out (by omega) k;have hby:=bI JR.out hy;have hso:=hok.aX k ((cf (iA f n) k+y)%p);have hst:=ou p (iA f n) 0 1 g k hlt hy rfl;rw[anE,Int.one_mul]at hst;rw[hst]at hso;have hkn:k<n:=by omega
     generalize cf (iA f n) k=x at*;clear hcf hy hst;go_wp2_with (go_at_call 105;refine(D5 _ _ _ _ h2 (by omega) (by omega)).mono ?_;rintro e w' ⟨rfl,rfl⟩)
     go_roundw;case rel=>exact⟨k+1,by omega,by go_num,hso,hek.setCell (amX _) _⟩
     case measure=>simp[intOf];omega
    .obtain rfl:k=g.length:=by omega
     rw[anf]at hok;have hll:(bA p (iA f n) 0 1 g).length=n:=by rw[aS,hpl.out]
     have hP:trim (bA p (iA f n) 0 1 g)=bL p f 1 g:=by rw[bL,<-Hn.out]
     have HP:=amW hP;have Hll:=amW hll;have hr:=hok.rd (by omega);clear hP hll;go_wp2_with fail
     rw[<-Hll.out];refine(kN _ _ _ _ hr (amX _)).mono ?_;rintro e w4 ⟨g4,c4,rfl,hc4,hg4,KG,hx4⟩;rw[HP.out]at hc4 KG⊢;have aa3:=xY p f 1 g;go_wp2_with fail
     go_ret;exact⟨_,c4,rfl,KG.fr (by omega) (by have:=hek.size;omega) hc4,hek.trans hx4⟩
theorem qB(p:Int)(A:Option Addr)(c:Nat)(b:Int)(f:List Int)(w:World)(hf:Rd w A f)(h2:2<=p)(h97:p<=97)(hfe:av p f=true)(hb:0<=b/\b<=96):
 Calls prog 81 #[.int .i64 p,.int .i64 b,.slice A f.length c] w λe w'=>∃A' c',e=.returned (.slice A' (aR p b f).length c')/\Fr w' w.heap.size A' c' (aR p b f)/\Ex w w':=by
 have hl:=hf.len;have JS:=amW hfe;clear hfe;have hmk:=λW=>dD f.length hl W
 have ho0:=Own.new w (replicate f.length 0);have he0:=(asF w).alloc (aO (replicate f.length 0));go_enter Tryz.func81,Tryz.ntmps81
 go_wp2_with fail
 clear hmk;go_loopw [15] (λi wr=>∃k:Nat,k<=f.length/\i=.int .i64 k/\Own wr w.heap.size (bA p (replicate f.length 0) 0 b (f.take k))/\Ex w wr) (λi _=>f.length-(intOf i).toNat)
 case atStart=>exact⟨0,am4 _,rfl,by rw[aoo,nD];exact ho0,he0⟩
 case round=>
  obtain⟨k,hk,rfl,hok,hek⟩:=hrel;by_cases hlt:k<f.length
  .obtain⟨g',off,y,rfl,hy,hg',hcell⟩:=(hf.ex hek).at_ hlt;have hcf:(bA p (replicate f.length 0) 0 b (f.take k))[k]?=some (cf (replicate f.length 0) k):=qp (by simp;omega) (by simp;omega);rw[IC]at hcf;have hcx:=hok.cell hcf;have hfz:=hok.frozen k;have hby:=bI JS.out hy;have hso:=hok.aX k (b*y%p);have hst:=ou p (replicate f.length 0) 0 b f k hlt hy (IC _ _);rw[anE,aoC]at hst;rw[hst]at hso;clear hcf hy hst;go_wp2_with (go_at_call 111;refine(yu _ _ _ _ h2 hb (by omega)).mono ?_;rintro e w' ⟨rfl,rfl⟩)
   go_roundw;case rel=>exact⟨k+1,by omega,by go_num,hso,hek.setCell (amX _) _⟩
   case measure=>simp[intOf];omega
  .obtain rfl:k=f.length:=by omega
   rw[anf]at hok;have hP:trim (bA p (replicate f.length 0) 0 b f)=aR p b f:=by rw[aR,bL];simp[iA]
   have HP:=amW hP;have hr:=hok.rd (by rw[aS];simpa using hl);have Hll:=amW (show(bA p (replicate f.length 0) 0 b f).length=f.length by rw[aS];simp);clear hP;go_wp2_with fail
   rw[<-Hll.out];refine(kN _ _ _ _ hr (amX _)).mono ?_;rintro e w4 ⟨g4,c4,rfl,hc4,hg4,KG,hx4⟩;rw[HP.out]at hc4 KG⊢;have aa3:(aR p b f).length<=f.length:=by have:=xY p [] b f;simpa[aR]using this
   go_wp2_with fail
   go_ret;exact⟨_,c4,rfl,KG.fr (by omega) (by have:=hek.size;omega) hc4,hek.trans hx4⟩
theorem tK(p:Int)(A B:Option Addr)(c d:Nat)(f g:List Int)(w:World)(hf:Rd w A f)(hg:Rd w B g)(h2:2<=p)(h97:p<=97)(hfe:av p f=true)(hge:av p g=true)(hs:f.length+g.length<=1099511627776):
 Calls prog 76 #[.int .i64 p,.slice A f.length c,.slice B g.length d] w λe w'=>∃A' c',e=.returned (.slice A' (eZ p f g).length c')/\Fr w' w.heap.size A' c' (eZ p f g)/\Ex w w':=by
 have hl:=hf.len;have hl':=hg.len;by_cases hf0:f=[]
 .subst hf0;go_enter Tryz.func76,Tryz.ntmps76
  go_wp2;go_ret;exact⟨none,0,rfl,Fr.nil _ _ _,asF w⟩
 have hfl:=ana.2 hf0;by_cases hg0:g=[]
 .subst hg0;have hp:eZ p f []=[]:=by rw[eZ,amY (.inr rfl)]
  have Hp:=amW hp;have hb:((f.length:Int)==0)=false:=by simp;omega
  clear hp;go_enter Tryz.func76,Tryz.ntmps76
  go_wp2;go_ret;rw[Hp.out];exact⟨none,0,rfl,Fr.nil _ _ _,asF w⟩
 have hgl:=ana.2 hg0;have hb1:((f.length:Int)==0)=false:=by simp;omega
 have hb2:((g.length:Int)==0)=false:=by simp;omega
 obtain⟨n,hn⟩:∃n:Nat,n=f.length+g.length-1:=⟨_,rfl⟩;have hni:(f.length:Int)+(g.length:Int)-1=(n:Int):=by omega
 have hn1:n=f.length-1+g.length:=by omega
 have hn2:n<=1099511627776:=by omega
 have JS:=amW hfe;have JR:=amW hge;have Hf0:=amW hf0;have Ll:=amW hg0;have Hn:=amW hn;have Hn1:=amW hn1;have hmk:=λW=>dD n hn2 W
 have ho0:=Own.new w (replicate n 0);have he0:=(asF w).alloc (aO (replicate n 0));clear hfe hge hf0 hg0 hn hn1;go_enter Tryz.func76,Tryz.ntmps76
 go_wp2_with fail
 clear hmk hni;go_loopw [29] (λi wr=>∃k:Nat,k<=f.length/\i=.int .i64 k/\Own wr w.heap.size (fP p f g k)/\Ex w wr) (λi _=>f.length-(intOf i).toNat)
 case atStart=>exact⟨0,am4 _,rfl,by rw[fP,<-Hn.out];exact ho0,he0⟩
 case round=>
  obtain⟨k,hk,rfl,hok,hek⟩:=hrel;have Zl:=amW (jD p f g k);have Zm:=amW (zI (p:=p) (by omega) f g k);by_cases hlt:k<f.length
  .obtain⟨g',off,x,rfl,hx,hg',hcell⟩:=(hf.ex hek).at_ hlt;have hxb:=bI JS.out hx;have Xg:=amW (iW hx);clear hx;go_wp2_with fail
   go_loopw [36] (λi wi=>∃j:Nat,j<=g.length/\i=.int .i64 j/\Own wi w.heap.size (bA p (fP p f g k) k x (g.take j))/\Ex w wi) (λi _=>g.length-(intOf i).toNat)
   case atStart=>exact⟨0,am4 _,rfl,by rw[aoo,nD];exact hok,hek⟩
   case round=>
    obtain⟨j,hj,rfl,hoj,p_⟩:=hrel;by_cases hjl:j<g.length
    .obtain⟨g2,off2,y,rfl,hy,hg2,hcell2⟩:=(hg.ex p_).at_ hjl;have hyb:=bI JR.out hy;have Yw:k+j<n:=by have:=Hn1.out;omega
     have hcf:(bA p (fP p f g k) k x (g.take j))[k+j]?=some (cf (fP p f g k) (k+j)):=qp (by rw[Zl.out,<-Hn.out];exact Yw) (by simp;omega);have hcx:=hoj.cell hcf;have hfz:=hoj.frozen (k+j);have hzb:=fU Zm.out (by omega) (k+j);have hst:=ou p (fP p f g k) k x g j hjl hy rfl;have hso:=hoj.aX (k+j) ((cf (fP p f g k) (k+j)+x*y)%p);rw[hst]at hso;generalize cf (fP p f g k) (k+j)=z at*;have hxy:=anV (x*y) (show p≠0 by omega);have aej:=anW (x*y) (show 0<p by omega);clear hcf hy hst;have w1:IntKind.i64.wrap ((k:Int)+(j:Int))=(k:Int)+(j:Int):=ant _ (by omega);have w2:(0:Int)<=(k:Int)+(j:Int):=by omega
     have w3:(k:Int)+(j:Int)<(n:Int):=by omega
     have w4:((k:Int)+(j:Int)).toNat=k+j:=by omega
     go_wp2_with fail
     refine wp_region_still_tail 17 (by kernel_rfl) (by kernel_rfl) ?_;simp only[aoO,aoo,List.drop_succ_cons,List.drop_zero]
     repeat still_step
     refine wpStill_step (λK hK=>?_)
     go_simp
     refine⟨_,sW (yu p x y wr.drew h2 (by omega) (by omega)),hK _ ?_⟩;clear hK K
     repeat still_step
     refine wpStill_step (λK hK=>?_)
     go_simp
     refine⟨_,sW (D5 p z (x*y%p) wr.drew h2 (by omega) (by omega)),hK _ ?_⟩;clear hK K
     repeat still_step
     refine wpStill_nil ?_;clear w1 w2 w3 w4;change wpList _ _ _ _ _ wr.drew;go_wp2_with fail
     go_roundw;case rel=>exact⟨j+1,by omega,by go_num,hso,(p_.setCell (amX _) _).drew⟩
     case measure=>simp[intOf];omega
    .obtain rfl:j=g.length:=by omega
     rw[anf]at hoj;go_wp2_with fail
     go_roundw;case rel=>exact⟨k+1,by omega,by go_num,by rw[fP,Xg.out];exact hoj,p_⟩
     case measure=>simp[intOf];omega
  .obtain rfl:k=f.length:=by omega
   have hP:fP p f g f.length=eZ p f g:=by rw[eZ,amZ (by simp[Hf0.out,Ll.out])]
   have WL:(eZ p f g).length=n:=by rw[<-hP,Zl.out,<-Hn.out]
   rw[hP]at hok;go_wp2_with fail
   go_ret;exact⟨some ⟨w.heap.size,0,none⟩,n,by rw[WL];rfl,hok.fr (by omega) (amX _) (by omega),hek⟩
def LL(w:World)(q r:List Int)(e:Ending)(w':World):Prop:=
 ∃A c B d,e=.returned (.tuple #[.slice A q.length c,.slice B r.length d])/\Fr w' w.heap.size A c q/\Fr w' w.heap.size B d r/\Apart A B/\Ex w w'
theorem PZ(k:Nat)(Q:List Int):(replicate (k+1) (0:Int)++Q)[k]?=some 0:=by rw[anN (by simp)];simp
theorem J9(k:Nat)(x:Int)(Q:List Int):(replicate (k+1) (0:Int)++Q).set k x=replicate k 0++(x::Q):=by rw[List.replicate_succ',anP,List.set_append_right _ _ (by simp)];simp
theorem fq{g':Nat}{o o':Nat}(h:g≠g'):Apart (some ⟨g,o,none⟩) (some ⟨g',o',none⟩):=λa a' e e'=>by injection e with e;injection e' with e';subst e e';exact h
theorem Uz(k:Nat)(x:Int)(Q:List Int):(replicate k (0:Int)++(x::Q))[k]?=some x:=by rw[anw (by simp)];simp
theorem nP(p:Int)(A B:Option Addr)(c d:Nat)(f g:List Int)(w:World)(hf:Rd w A f)(hg:Rd w B g)(h2:2<=p)(h97:p<=97)(hfe:av p f=true)(hge:av p g=true)(hg0:g≠[]):
 Calls prog 137 #[.int .i64 p,.slice A f.length c,.slice B g.length d] w λe w'=>LL w (bq p f g) (bY p f g) e w':=by
 have hl:=hf.len;have hl':=hg.len;have hgl:=ana.2 hg0;by_cases hlt:f.length<g.length
 .have HQ:=amW (show bq p f g=[] by rw[bq,amY hlt]);have HR:=amW (show bY p f g=f by rw[bY,amY hlt]);go_enter Tryz.func137,Tryz.ntmps137
  go_wp2_with fail
  refine(uJ A c f w hf).mono ?_;rintro e w1 ⟨g1,c1,rfl,hc1,hg1,ho1,hx1⟩;go_wp2
  go_ret2
  rw[HQ.out,HR.out];have ha:=(asF w1).alloc (.cells #[] 3);refine⟨some ⟨w1.heap.size,0,none⟩,0,some ⟨g1,0,none⟩,c1,rfl,(Own.new w1 []).fr (by simp) hx1.size (amX _),(ho1.ex ha).fr hl hg1 hc1,fq (by have:=ho1.lt;omega),hx1.trans ha⟩
 .obtain⟨m,hm⟩:∃m:Nat,m=f.length-g.length+1:=⟨_,rfl⟩;have Yq:(f.length:Int)-(g.length:Int)+1=(m:Int):=by omega
  have Yr:m+g.length=f.length+1:=by omega
  obtain⟨gl,zU⟩:∃gl:Nat,g.length=gl+1:=⟨g.length-1,by omega⟩;obtain⟨gA,nZ,x,rfl,hx,hgA,hcell⟩:=hg.at_ (by omega:gl<g.length);have hxb:=bI hge hx;have hcx:cf g (g.length-1)=x:=by rw[zU];exact iW hx
  have HQ:=amW (show bq p f g=trim (bH p g (bO p x) m f).1 by rw[bq,amZ hlt,hcx,<-hm]);have HR:=amW (show bY p f g=trim (bH p g (bO p x) m f).2 by rw[bY,amZ hlt,hcx,<-hm]);have hinv:=jL x h2 (p:=p);obtain⟨b,hb⟩:∃b,b=bO p x:=⟨_,rfl⟩;rw[<-hb]at HQ HR hinv;have Hb:=amW hb;have JS:=amW hfe;have JR:=amW hge;have Ll:=amW hg0;have Hmf:=amW Yr;have JQ:=amW zU;have Yt:m<=1099511627776:=by omega
  have hgi:(g.length:Int)-1=(gl:Int):=by omega
  have Nq:gl<g.length:=by omega
  have aeR:g.length<=gl+1:=by omega
  clear hm hfe hge hg0 hx hcx hb Yr zU;go_enter Tryz.func137,Tryz.ntmps137
  go_wp2_with fail
  refine(uJ A c f w hf).mono ?_;rintro e w1 ⟨gr,cr,rfl,hcr,hgr,hor,hx1⟩;have hcell1:w1.cell? ⟨gA,nZ+gl,none⟩=some (.int .i64 x):=(anm (w:=w) (a:=⟨gA,nZ+gl,none⟩) (hx1.block hgA)).trans hcell;clear hcell;go_wp2_with fail
  refine(xO m Yt _).mono ?_;rintro e w2 ⟨gq,rfl,WC,hbq,hx2⟩;have hcell2:w2.cell? ⟨gA,nZ+gl,none⟩=some (.int .i64 x):=(anm (w:=w1) (a:=⟨gA,nZ+gl,none⟩) (hx2.block (show gA<w1.heap.size by have:=hx1.size;omega))).trans hcell1;have hor2:=hor.ex hx2;have hoq:=hbq.own;have YB:=hx1.trans hx2;have hne:gr≠gq:=by have:=hor.lt;omega
  have Ry:w.heap.size<=gq:=by have:=hx1.size;omega
  clear hcell1 hbq hor;go_wp2_with fail
  refine(mW p x _ h2 h97 hxb).mono ?_;rintro e w3 ⟨rfl,rfl⟩;rw[<-Hb.out];go_wp2_with fail
  clear hcell2 hgi Yq;go_loopw [11] (λi wr=>∃(k:Nat) (Q r:List Int),k<=m/\i=.int .i64 ((k:Int)-1)/\Own wr gq (replicate k 0++Q)/\Own wr gr r/\r.length=f.length/\av p r=true/\Q.length=m-k/\
   (bH p g b m f).1=(bH p g b k r).1++Q/\(bH p g b m f).2=(bH p g b k r).2/\Ex w wr) (λi _=>(intOf i+1).toNat)
  case atStart=>exact⟨m,[],f,amX _,rfl,by simpa using hoq,hor2,rfl,JS.out,by simp,by simp,rfl,YB⟩
  case round=>
   obtain⟨k,Q,r,hk,rfl,Ox,Wz,hrl,hre,RN,hd1,hd2,hek⟩:=hrel;have Zk:=amW hre;have Hd1:=amW hd1;have Hd2:=amW hd2;have HQl:=amW RN;have Hrl:=amW hrl;clear hre hd1 hd2 RN hrl;cases k with
   |zero=>
    have e1:(bH p g b m f).1=Q:=by rw[Hd1.out];rfl
    have e2:(bH p g b m f).2=r:=by rw[Hd2.out];rfl
    rw[e1]at HQ;rw[e2]at HR;rw[List.replicate_zero,aon]at Ox;have hQm:Q.length=m:=by rw[HQl.out];omega
    have hrQ:=Ox.rd (by omega);have Jl:=Wz.rd (by rw[Hrl.out];omega);have HQm:=amW hQm;clear e1 e2 hQm;go_wp2_with fail
    refine(qx _ m m Q _ hrQ HQm.out (amX _)).mono ?_;rintro e w4 ⟨rfl,rfl⟩;go_wp2_with fail
    refine(qx _ cr f.length r _ Jl Hrl.out hcr).mono ?_;rintro e w5 ⟨rfl,rfl⟩;go_wp2
    go_ret2
    rw[<-HQ.out,<-HR.out];have q1:=Ox.Jw (B:=w.heap.size) (by rw[HQm.out];omega) Ry;have q2:=Wz.Jw (B:=w.heap.size) (by rw[Hrl.out];omega) hgr;rw[<-HQ.out]at q1;rw[<-HR.out]at q2;exact⟨_,_,_,_,rfl,q1,q2,fq hne.symm,hek⟩
   |succ k=>
    have hkf:k+gl<f.length:=by have:=Hmf.out;have:=JQ.out;omega
    have hkm:k<m:=by omega
    obtain⟨z,hz⟩:∃z,r[k+gl]?=some z:=⟨_,am0 (by rw[Hrl.out];exact hkf)⟩;have hcz:=Wz.cell hz;have hzb:=bI Zk.out hz;have ND:cf r (k+g.length-1)=z:=by rw[JQ.out];exact iW hz
    have hzm:=sj (x:=z) (y:=b) ⟨by omega,by omega⟩ ⟨by omega,by omega⟩;have hq0:=anV (z*b) (show p≠0 by omega);have hq1:=anW (z*b) (show 0<p by omega);have hcq:=Ox.cell (PZ k Q);have hfq:=Ox.frozen k;have ZI:=Ox.aX k (z*b%p);rw[J9]at ZI;have akq:=ZI.cell (Uz k (z*b%p) Q);have hsr:Own (World.setCell wr ⟨gq,k,none⟩ (.int .i64 (z*b%p))) gr r:=Wz.aM ((aJ.refl gq wr).setCell rfl _) hne;have hes:Ex w (World.setCell wr ⟨gq,k,none⟩ (.int .i64 (z*b%p))):=hek.setCell Ry _;have alH:=amW ND;have e1:=Hd1.out;have e2:=Hd2.out;rw[bH,ND]at e1 e2;simp only[anP,List.singleton_append]at e1 e2;have E1:=amW e1;have E2:=amW e2;have hgi:(k:Int)+(g.length:Int)-1=((k+gl:Nat):Int):=by have:=JQ.out;omega
    clear hz ND e1 e2;rw[show(((k+1:Nat):Int)-1)=(k:Int) by omega];go_wp2_with fail
    generalize World.setCell wr ⟨gq,k,none⟩ (.int .i64 (z*b%p))=W at*;have w1:IntKind.i64.wrap (-(z*b%p))= -(z*b%p):=ant _ (by omega);have w2:¬cr=k:=by omega
    have w3:k<=f.length:=by omega
    refine wp_region_still_tail 10 (by kernel_rfl) (by kernel_rfl) ?_;simp only[aoO,aoo,List.drop_succ_cons,List.drop_zero]
    repeat still_step
    refine wpStill_nil ?_;clear w1 w2 w3;change wpList _ _ _ _ _ W.drew;go_wp2_with fail
    refine(AJ p gr k (f.length-k) (cr-k) r (-(z*b%p)) _ d g W.drew hsr (by rw[Hrl.out];omega) (hg.ex hes.drew) (by have:=Hmf.out;omega) (λh0=>hg.off hgr h0) h2 h97 Zk.out JR.out (by omega)).mono ?_;rintro e w4 ⟨rfl,KG,hx4⟩;have aeW:Ex w w4:=hes.drew.aM hx4 hgr;have aeE:Own w4 gq _:=ZI.drew.aM hx4 hne.symm;go_wp2_with fail
    go_roundw;case rel=>refine⟨k,z*b%p::Q,_,by omega,by go_num,aeE,KG,by rw[aS,Hrl.out],kZ Zk.out (by omega) _ _ _,?_,E1.out,E2.out,aeW⟩;rw[anJ,HQl.out];omega
    case measure=>simp[intOf]<;>omega
theorem JZ(p a b:Int):(a-b%p)%p=(a-b)%p:=by rw[Int.sub_emod,aok,<-Int.sub_emod]
theorem Du(p:Int)(A B:Option Addr)(c d:Nat)(f g:List Int)(w:World)(hf:Rd w A f)(hg:Rd w B g)(hF:aj p=true)(hfe:av p f=true)(hge:av p g=true)(hg0:g≠[])(tf:Tr f)(tg:Tr g):
 Calls prog 108 #[.int .i64 p,.slice A f.length c,.slice B g.length d] w λe w'=>LL w (bq p f g) (bY p f g) e w':=by
 have h2:=au hF;have h97:=aQ hF;have hl:=hf.len;have hl':=hg.len;have hgl:=ana.2 hg0;obtain⟨gl,zU⟩:∃gl:Nat,g.length=gl+1:=⟨g.length-1,by omega⟩;obtain⟨gA,nZ,x,rfl,hx,hgA,hcell⟩:=hg.at_ (by omega:gl<g.length);have hxb:=bI hge hx;have hcx:cf g (g.length-1)=x:=by rw[zU];exact iW hx
 have hxp:0<x:=by have:=tg.last hg0;rw[hcx]at this;omega
 have hinv:=jL x h2 (p:=p);have JQ:=amW zU;have Nq:gl<g.length:=by omega
 have aeR:g.length<=gl+1:=by omega
 have hgi:(g.length:Int)-1=(gl:Int):=by omega
 have HF:=amW hF;by_cases hlt:f.length<g.length
 .have HQ:=amW (show bq p f g=[] by rw[bq,amY hlt]);have HR:=amW (show bY p f g=f by rw[bY,amY hlt]);have htf:trim f=f:=tf;have Htf:=amW htf;clear zU hx hcx hF hfe hge hg0 htf;go_enter Tryz.func108,Tryz.ntmps108
  go_wp2_with fail
  refine(jK A c f w hf).mono ?_;rintro e w1 ⟨g1,c1,rfl,hc1,hg1,ho1,hx1⟩;have hcell1:w1.cell? ⟨gA,nZ+gl,none⟩=some (.int .i64 x):=(anm (w:=w) (a:=⟨gA,nZ+gl,none⟩) (hx1.block hgA)).trans hcell;clear hcell;go_wp2_with fail
  refine(yw p x _ HF.out ⟨hxp,hxb.2⟩).mono ?_;rintro e w2 ⟨rfl,rfl⟩;go_wp2_with fail
  refine wp_loop_rounds 1 ?_;rw[rounds_succ];go_wp2_with fail
  refine(kN none 0 [] _ (Rd.nil _ _) (amX _)).mono ?_;rintro e w3 ⟨g3,c3,rfl,hc3,hg3,ho3,hx3⟩;go_wp2_with fail
  refine(kN _ _ _ _ ((ho1.ex hx3).rd hl) hc1).mono ?_;rintro e w4 ⟨g4,c4,rfl,hc4,hg4,KG,hx4⟩;rw[Htf.out]at hc4 KG⊢;go_wp2
  go_ret2
  rw[HQ.out,HR.out];have s1:=hx1.size;have s3:=hx3.size;have l3:=ho3.lt;exact⟨_,_,_,_,rfl,((ho3.ex hx4).fr (am4 _) (by omega) hc3),KG.fr hl (by omega) hc4,fq (by omega),(hx1.trans hx3).trans hx4⟩
 .obtain⟨m,hm⟩:∃m:Nat,m=f.length-g.length+1:=⟨_,rfl⟩;have Yq:(f.length:Int)-(g.length:Int)+1=(m:Int):=by omega
  have Yr:m+g.length=f.length+1:=by omega
  have HQ:=amW (show bq p f g=trim (bH p g (bO p x) m f).1 by rw[bq,amZ hlt,hcx,<-hm]);have HR:=amW (show bY p f g=trim (bH p g (bO p x) m f).2 by rw[bY,amZ hlt,hcx,<-hm]);obtain⟨b,hb⟩:∃b,b=bO p x:=⟨_,rfl⟩;rw[<-hb]at HQ HR hinv;have Hb:=amW hb;have JS:=amW hfe;have JR:=amW hge;have Hmf:=amW Yr;have Yt:m<=1099511627776:=by omega
  have hmk:=λW=>dD m Yt W
  clear hm hfe hge hg0 hx hcx hb Yr hF zU;go_enter Tryz.func108,Tryz.ntmps108
  go_wp2_with fail
  refine(jK A c f w hf).mono ?_;rintro e w1 ⟨gr,cr,rfl,hcr,hgr,hor,hx1⟩;have hcell1:w1.cell? ⟨gA,nZ+gl,none⟩=some (.int .i64 x):=(anm (w:=w) (a:=⟨gA,nZ+gl,none⟩) (hx1.block hgA)).trans hcell;have hx2:=(asF w1).alloc (aO (replicate m 0));have hoq:=Own.new w1 (replicate m 0);have hor2:=hor.ex hx2;have YB:=hx1.trans hx2;have hne:gr≠w1.heap.size:=by have:=hor.lt;omega
  have Ry:w.heap.size<=w1.heap.size:=hx1.size;obtain⟨gq,WC⟩:∃gq,gq=w1.heap.size:=⟨_,rfl⟩;rw[<-WC]at hoq hne Ry;have Hgq:=amW WC;have hcell2:(w1.alloc (aO (replicate m 0))).cell? ⟨gA,nZ+gl,none⟩=some (.int .i64 x):=(anm (w:=w1) (a:=⟨gA,nZ+gl,none⟩) (hx2.block (show gA<w1.heap.size by have:=hx1.size;omega))).trans hcell1;clear hcell hor WC hcell1;go_wp2_with fail
  refine(yw p x _ HF.out ⟨hxp,hxb.2⟩).mono ?_;rintro e w3 ⟨rfl,rfl⟩;rw[<-Hb.out];clear hcell2 hgi Yq hmk;rw[<-Hgq.out];generalize w1.alloc (aO (replicate m 0))=w2 at*;go_wp2_with fail
  go_loopw [11] (λi wr=>∃(k:Nat) (Q r:List Int),k<=m/\i=.int .i64 ((k:Int)-1)/\Own wr gq (replicate k 0++Q)/\Own wr gr r/\r.length=f.length/\av p r=true/\Q.length=m-k/\
   (bH p g b m f).1=(bH p g b k r).1++Q/\(bH p g b m f).2=(bH p g b k r).2/\Ex w wr) (λi _=>(intOf i+1).toNat)
  case atStart=>exact⟨m,[],f,amX _,rfl,by simpa using hoq,hor2,rfl,JS.out,by simp,by simp,rfl,YB⟩
  case round=>
   obtain⟨k,Q,r,hk,rfl,Ox,Wz,hrl,hre,RN,hd1,hd2,hek⟩:=hrel;have Zk:=amW hre;have Hd1:=amW hd1;have Hd2:=amW hd2;have HQl:=amW RN;have Hrl:=amW hrl;clear hre hd1 hd2 RN hrl;cases k with
   |zero=>
    have e1:(bH p g b m f).1=Q:=by rw[Hd1.out];rfl
    have e2:(bH p g b m f).2=r:=by rw[Hd2.out];rfl
    rw[e1]at HQ;rw[e2]at HR;rw[List.replicate_zero,aon]at Ox;have hQm:Q.length=m:=by rw[HQl.out];omega
    have hrQ:=Ox.rd (by omega);have Jl:=Wz.rd (by rw[Hrl.out];omega);have HQm:=amW hQm;clear e1 e2 hQm;go_wp2_with fail
    rw[<-HQm.out];refine(kN _ _ Q _ hrQ (amX _)).mono ?_;rintro e w4 ⟨g4,c4,rfl,hc4,hg4,KG,hx4⟩;rw[<-HQ.out]at hc4 KG⊢;go_wp2_with fail
    rw[<-Hrl.out];refine(kN _ _ r _ (Jl.ex hx4) (by rw[Hrl.out];exact hcr)).mono ?_;rintro e w5 ⟨g5,c5,rfl,NF,hg5,ho5,hx5⟩;rw[<-HR.out]at NF ho5⊢;go_wp2
    go_ret2
    have s4:=hek.size;have s5:=hx4.size;have l4:=KG.lt;have lQ:=FB p f g;have lR:(bY p f g).length<=f.length:=by rw[HR.out];have:=gD r;rw[Hrl.out]at this;exact this
    exact⟨_,_,_,_,rfl,((KG.ex hx5).fr (by have:=Hmf.out;omega) (by omega) hc4),ho5.fr (by omega) (by omega) NF,fq (by omega),(hek.trans hx4).trans hx5⟩
   |succ k=>
    have hkf:k+gl<f.length:=by have:=Hmf.out;have:=JQ.out;omega
    have hkm:k<m:=by omega
    obtain⟨z,hz⟩:∃z,r[k+gl]?=some z:=⟨_,am0 (by rw[Hrl.out];exact hkf)⟩;have hcz:=Wz.cell hz;have hzb:=bI Zk.out hz;have ND:cf r (k+g.length-1)=z:=by rw[JQ.out];exact iW hz
    have hzm:=sj (x:=z) (y:=b) ⟨by omega,by omega⟩ ⟨by omega,by omega⟩;have hq0:=anV (z*b) (show p≠0 by omega);have hq1:=anW (z*b) (show 0<p by omega);have hcq:=Ox.cell (PZ k Q);have hfq:=Ox.frozen k;have e1:=Hd1.out;have e2:=Hd2.out;rw[bH,ND]at e1 e2;simp only[anP,List.singleton_append]at e1 e2;have ZI:=Ox.aX k (z*b%p);rw[J9]at ZI;have hsr:Own (World.setCell wr ⟨gq,k,none⟩ (.int .i64 (z*b%p))) gr r:=Wz.aM ((aJ.refl gq wr).setCell rfl _) hne;have hes:Ex w (World.setCell wr ⟨gq,k,none⟩ (.int .i64 (z*b%p))):=hek.setCell Ry _;have E1:=amW e1;have E2:=amW e2;have hgi:(k:Int)+(g.length:Int)-1=((k+gl:Nat):Int):=by have:=JQ.out;omega
    clear hz ND e1 e2;rw[show(((k+1:Nat):Int)-1)=(k:Int) by omega];go_wp2_with fail
    refine(yu p z b _ h2 (by omega) (by omega)).mono ?_;rintro e w5 ⟨rfl,rfl⟩;generalize hqd:z*b%p=q at*;have Hqd:=amW hqd;clear hqd;go_wp2_with fail
    generalize World.setCell wr ⟨gq,k,none⟩ (.int .i64 q)=W at*;clear hcq hfq hcz hgi;go_loopw [61] (λi wi=>∃j:Nat,j<=g.length/\i=.int .i64 j/\Own wi gr (bA p r k (-q) (g.take j))/\Own wi gq (replicate k 0++(q::Q))/\Ex w wi) (λi _=>g.length-(intOf i).toNat)
    case atStart=>exact⟨0,am4 _,rfl,by rw[aoo,nD];exact hsr,ZI,hes⟩
    case round=>
     obtain⟨j,hj,rfl,hoj,aa5,p_⟩:=hrel;by_cases hjl:j<g.length
     .obtain⟨g2,off2,y,hAe,hy,hg2,hcell2⟩:=(hg.ex p_).at_ hjl;injection hAe with hAe;injection hAe with ea eb _;subst ea eb;have hyb:=bI JR.out hy;have Yw:k+j<f.length:=by omega
      have hcf:(bA p r k (-q) (g.take j))[k+j]?=some (cf r (k+j)):=qp (by rw[Hrl.out];exact Yw) (by simp;omega);have hcx:=hoj.cell hcf;have hfz:=hoj.frozen (k+j);have hzb:=fU Zk.out (by omega) (k+j);have hst:=ou p r k (-q) g j hjl hy rfl;have hso:=hoj.aX (k+j) ((cf r (k+j)+ -q*y)%p);have hsQ:=aa5.aM ((aJ.refl gr wr).setCell (p:=⟨gr,k+j,none⟩) rfl (.int .i64 ((cf r (k+j)+ -q*y)%p))) hne.symm;rw[hst]at hso;have hse:=p_.setCell (p:=⟨gr,k+j,none⟩) hgr (.int .i64 ((cf r (k+j)+ -q*y)%p));generalize cf r (k+j)=z at*;have hzz:(z-q*y%p)%p=(z+ -q*y)%p:=by rw[JZ,Int.neg_mul,Int.sub_eq_add_neg]
      rw[<-hzz]at hso hsQ hse;have aaM:(z-q*y%p)%p=(z-q*y)%p:=JZ _ _ _;rw[aaM]at hso hsQ hse;have hxy:=anV (q*y) (show p≠0 by omega);have aej:=anW (q*y) (show 0<p by omega);clear hcf hy hst hzz aaM;have w1:IntKind.i64.wrap ((k:Int)+(j:Int))=(k:Int)+(j:Int):=ant _ (by omega);have w2:(0:Int)<=(k:Int)+(j:Int):=by omega
      have w3:(k:Int)+(j:Int)<(f.length:Int):=by omega
      have w4:((k:Int)+(j:Int)).toNat=k+j:=by omega
      go_wp2_with fail
      refine wp_region_still_tail 17 (by kernel_rfl) (by kernel_rfl) ?_;simp only[aoO,aoo,List.drop_succ_cons,List.drop_zero]
      repeat still_step
      refine wpStill_step (λK hK=>?_)
      go_simp
      refine⟨_,sW (yu p q y wr.drew h2 (by omega) (by omega)),hK _ ?_⟩;clear hK K
      repeat still_step
      refine wpStill_step (λK hK=>?_)
      go_simp
      refine⟨_,sW (Vp p z (q*y%p) wr.drew h2 h97 (by omega) (by omega)),hK _ ?_⟩;clear hK K
      repeat still_step
      refine wpStill_nil ?_;clear w1 w2 w3 w4;change wpList _ _ _ _ _ wr.drew;go_wp2_with fail
      go_roundw;case rel=>exact⟨j+1,by omega,by go_num,hso,hsQ,hse.drew⟩
      case measure=>simp[intOf]<;>omega
     .obtain rfl:j=g.length:=by omega
      rw[anf]at hoj;go_wp2_with fail
      go_roundw;case rel=>refine⟨k,q::Q,_,by omega,by go_num,aa5,hoj,by rw[aS,Hrl.out],kZ Zk.out (by omega) _ _ _,?_,E1.out,E2.out,p_⟩;rw[anJ,HQl.out];omega
      case measure=>simp[intOf]<;>omega
def LI(w:World)(r:List Int)(e:Ending)(w':World):Prop:=∃A c,e=.returned (.slice A r.length c)/\Fr w' w.heap.size A c r/\Ex w w'
theorem yO(p:Int)(A:Option Addr)(c:Nat)(b:Int)(f:List Int)(w:World)(hf:Rd w A f)(h2:2<=p)(h97:p<=97)(hfe:av p f=true)(hb: -96<=b/\b<=96):
 Calls prog 139 #[.int .i64 p,.slice A f.length c,.int .i64 b] w λe w'=>LI w (aR p b f) e w':=by
 go_enter Tryz.func139,Tryz.ntmps139
 go_wp2_with fail
 refine(Cb p none A 0 c [] f b w (Rd.nil _ _) hf h2 h97 (iX p) hfe hb).mono ?_;rintro e w1 ⟨A1,c1,rfl,f1,x1⟩;go_wp2;go_ret;exact⟨A1,c1,rfl,f1,x1⟩
theorem UM(p:Int)(A:Option Addr)(c:Nat)(f:List Int)(w:World)(hf:Rd w A f)(h2:2<=p)(h97:p<=97)(hfe:av p f=true)(h0:f≠[]):
 Calls prog 156 #[.int .i64 p,.slice A f.length c] w λe w'=>LI w (dm p f) e w':=by
 have hl:=hf.len;have hfl:=ana.2 h0;obtain⟨gl,hgl⟩:∃gl:Nat,f.length=gl+1:=⟨f.length-1,by omega⟩;obtain⟨gA,nZ,x,rfl,hx,hgA,hcell⟩:=hf.at_ (by omega:gl<f.length);have hxb:=bI hfe hx;have hcx:cf f (f.length-1)=x:=by rw[hgl];exact iW hx
 have Hm:=amW (show dm p f=aR p (bO p x) f by rw[dm,hcx]);have hinv:=jL x h2 (p:=p);have hgi:(f.length:Int)-1=(gl:Int):=by omega
 have Nq:gl<f.length:=by omega
 have JS:=amW hfe;clear hgl hx hcx hfe h0;go_enter Tryz.func156,Tryz.ntmps156
 go_wp2_with fail
 refine(mW p x _ h2 h97 hxb).mono ?_;rintro e w3 ⟨rfl,rfl⟩;go_wp2_with fail
 refine(yO p _ c (bO p x) f _ hf h2 h97 JS.out (by omega)).mono ?_;rintro e w1 ⟨A1,c1,rfl,f1,x1⟩;go_wp2;go_ret;rw[<-Hm.out]at f1⊢;exact⟨A1,c1,rfl,f1,x1⟩
theorem MN(p:Int)(A:Option Addr)(c:Nat)(f:List Int)(w:World)(hf:Rd w A f)(hF:aj p=true)(hfe:av p f=true)(h0:f≠[])(tf:Tr f):
 Calls prog 141 #[.int .i64 p,.slice A f.length c] w λe w'=>LI w (dm p f) e w':=by
 have h2:=au hF;have h97:=aQ hF;have hl:=hf.len;have hfl:=ana.2 h0;obtain⟨gl,hgl⟩:∃gl:Nat,f.length=gl+1:=⟨f.length-1,by omega⟩;obtain⟨gA,nZ,x,rfl,hx,hgA,hcell⟩:=hf.at_ (by omega:gl<f.length);have hxb:=bI hfe hx;have hcx:cf f (f.length-1)=x:=by rw[hgl];exact iW hx
 have hxp:0<x:=by have:=tf.last h0;rw[hcx]at this;omega
 have Hm:=amW (show dm p f=aR p (bO p x) f by rw[dm,hcx]);have hinv:=jL x h2 (p:=p);have hgi:(f.length:Int)-1=(gl:Int):=by omega
 have Nq:gl<f.length:=by omega
 have JS:=amW hfe;have HF:=amW hF;clear hgl hx hcx hfe h0 hF;go_enter Tryz.func141,Tryz.ntmps141
 go_wp2_with fail
 refine(yw p x _ HF.out ⟨hxp,hxb.2⟩).mono ?_;rintro e w3 ⟨rfl,rfl⟩;go_wp2_with fail
 refine(qB p _ c (bO p x) f _ hf h2 h97 JS.out (by omega)).mono ?_;rintro e w1 ⟨A1,c1,rfl,f1,x1⟩;go_wp2;go_ret;rw[<-Hm.out]at f1⊢;exact⟨A1,c1,rfl,f1,x1⟩
theorem ML(p:Int)(A B:Option Addr)(c d:Nat)(f g:List Int)(w:World)(hf:Rd w A f)(hg:Rd w B g)(hF:aj p=true)(hfe:av p f=true)(hge:av p g=true)(tf:Tr f)(tg:Tr g)(h0:f≠[]∨g≠[]):
 Calls prog 136 #[.int .i64 p,.slice A f.length c,.slice B g.length d] w λe w'=>LI w (bJ p f g) e w':=by
 have h2:=au hF;have h97:=aQ hF;have HF:=amW hF;have Hs:=amW (⟨hfe,hge,tf,tg,h0⟩:av p f=true/\av p g=true/\Tr f/\Tr g/\(f≠[]∨g≠[]));clear hF hfe hge tf tg h0;go_enter Tryz.func136,Tryz.ntmps136
 go_wp2_with fail
 go_loopw [1,2] (λa b wr=>∃(A' B':Option Addr) (c' d':Nat) (f' g':List Int),a=.slice A' f'.length c'/\b=.slice B' g'.length d'/\Rd wr A' f'/\Rd wr B' g'/\
  Hid (av p f'=true/\av p g'=true/\Tr f'/\Tr g'/\(f'≠[]∨g'≠[]))/\Hid (jk p f' g'=jk p f g)/\Ex w wr) (λ_ b _=>match b with| .slice _ n _=>n|_=>0)
 case atStart=>exact⟨A,B,c,d,f,g,rfl,rfl,hf,hg,Hs,amW rfl,asF w⟩
 case round=>
  obtain⟨A',B',c',d',f',g',rfl,rfl,hf',hg',Hs',He,hex⟩:=hrel;have hl1:=hf'.len;have hl2:=hg'.len;obtain⟨e1,e2,t1,t2,n0⟩:=Hs'.out;have TP:=amW e1;have H7:=amW e2;clear e1 e2;by_cases hg0:g'=[]
  .subst hg0;have hfn:f'≠[]:=n0.resolve_right (by simp);have hfl:=ana.2 hfn;have hbf:((f'.length:Int)==0)=false:=by simp;omega
   have hE:bJ p f g=dm p f':=by rw[bJ,<-He.out,uw]
   have HE:=amW hE;have Hfn:=amW hfn;clear hE hfn n0;go_wp2_with fail
   refine(UM p A' c' f' _ hf' h2 h97 TP.out Hfn.out).mono ?_;rintro e w1 ⟨A1,c1,rfl,f1,x1⟩;go_wp2;go_ret;rw[HE.out];exact⟨A1,c1,rfl,f1.more hex.size,hex.trans x1⟩
  .have hgl:=ana.2 hg0;have Ll:=amW hg0;clear hg0 n0;go_wp2_with fail
   refine(nP p A' B' c' d' f' g' _ hf' hg' h2 h97 TP.out H7.out Ll.out).mono ?_;rintro e w1 ⟨A1,c1,A2,c2,rfl,f1,f2,_,x1⟩;have hlt:=jQ HF.out TP.out H7.out t2 Ll.out;go_wp2_with fail
   go_roundw;case rel=>exact⟨B',A2,d',c2,g',bY p f' g',rfl,rfl,hg'.ex x1,f2.rd,amW ⟨H7.out,jR (by omega) TP.out _,t2,jP p t1 _,.inl Ll.out⟩,amW ((m_ HF.out TP.out H7.out t1 t2 Ll.out).symm.trans He.out),hex.trans x1⟩
   case measure=>simpa using hlt
theorem Kq(p:Int)(A B:Option Addr)(c d:Nat)(f g:List Int)(w:World)(hf:Rd w A f)(hg:Rd w B g)(hF:aj p=true)(hfe:av p f=true)(hge:av p g=true)(tf:Tr f)(tg:Tr g)(h0:f≠[]∨g≠[]):
 Calls prog 107 #[.int .i64 p,.slice A f.length c,.slice B g.length d] w λe w'=>LI w (bJ p f g) e w':=by
 have h2:=au hF;have HF:=amW hF;have Hs:=amW (⟨hfe,hge,tf,tg,h0⟩:av p f=true/\av p g=true/\Tr f/\Tr g/\(f≠[]∨g≠[]));clear hF hfe hge tf tg h0;go_enter Tryz.func107,Tryz.ntmps107
 go_wp2_with fail
 go_loopw [1,2] (λa b wr=>∃(A' B':Option Addr) (c' d':Nat) (f' g':List Int),a=.slice A' f'.length c'/\b=.slice B' g'.length d'/\Rd wr A' f'/\Rd wr B' g'/\
  Hid (av p f'=true/\av p g'=true/\Tr f'/\Tr g'/\(f'≠[]∨g'≠[]))/\Hid (jk p f' g'=jk p f g)/\Ex w wr) (λ_ b _=>match b with| .slice _ n _=>n|_=>0)
 case atStart=>exact⟨A,B,c,d,f,g,rfl,rfl,hf,hg,Hs,amW rfl,asF w⟩
 case round=>
  obtain⟨A',B',c',d',f',g',rfl,rfl,hf',hg',Hs',He,hex⟩:=hrel;have hl1:=hf'.len;have hl2:=hg'.len;obtain⟨e1,e2,t1,t2,n0⟩:=Hs'.out;have TP:=amW e1;have H7:=amW e2;clear e1 e2;by_cases hg0:g'=[]
  .subst hg0;have hfn:f'≠[]:=n0.resolve_right (by simp);have hE:bJ p f g=dm p f':=by rw[bJ,<-He.out,uw]
   have HE:=amW hE;have Hfn:=amW hfn;clear hE hfn n0;go_wp2_with fail
   refine(MN p A' c' f' _ hf' HF.out TP.out Hfn.out t1).mono ?_;rintro e w1 ⟨A1,c1,rfl,f1,x1⟩;go_wp2;go_ret;rw[HE.out];exact⟨A1,c1,rfl,f1.more hex.size,hex.trans x1⟩
  .have hgl:=ana.2 hg0;have Ll:=amW hg0;clear hg0 n0;go_wp2_with fail
   refine(Du p A' B' c' d' f' g' _ hf' hg' HF.out TP.out H7.out Ll.out t1 t2).mono ?_;rintro e w1 ⟨A1,c1,A2,c2,rfl,f1,f2,_,x1⟩;have hlt:=jQ HF.out TP.out H7.out t2 Ll.out;go_wp2_with fail
   go_roundw;case rel=>exact⟨B',A2,d',c2,g',bY p f' g',rfl,rfl,hg'.ex x1,f2.rd,amW ⟨H7.out,jR (by omega) TP.out _,t2,jP p t1 _,.inl Ll.out⟩,amW ((m_ HF.out TP.out H7.out t1 t2 Ll.out).symm.trans He.out),hex.trans x1⟩
   case measure=>simpa using hlt
theorem rQ:(x !=0)=decide (x≠0):=by by_cases h:x=0<;>simp[h]
theorem FU(p:Int)(A:Option Addr)(c:Nat)(f:List Int)(w:World)(hf:Rd w A f)(ht:Tb w):
 Calls prog 167 #[.int .i64 p,.slice A f.length c] w λe w'=>e=.returned (.bool (bC p f))/\w=w':=by
 have hl:=hf.len;cases hF:aj p with
 |false=>
  have H:=amW (show bC p f=false by simp[bC,hF]);go_enter Tryz.func167,Tryz.ntmps167
  go_wp2_with (go_at_call 51;refine(iq _ _ ht).mono ?_;rintro e w' ⟨rfl,rfl⟩)
  go_ret;exact⟨by rw[H.out];rfl,rfl⟩
 |true=>
 by_cases h41:f.length<=41;case neg=>
  have H:=amW (show bC p f=false by simp[bC,h41]);go_enter Tryz.func167,Tryz.ntmps167
  go_wp2_with (go_at_call 51;refine(iq _ _ ht).mono ?_;rintro e w' ⟨rfl,rfl⟩)
  go_ret;exact⟨by rw[H.out];rfl,rfl⟩
 cases hE:av p f with
 |false=>
  have H:=amW (show bC p f=false by simp[bC,hE]);go_enter Tryz.func167,Tryz.ntmps167
  go_wp2_with (first|(go_at_call 51;refine(iq _ _ ht).mono ?_;rintro e w' ⟨rfl,rfl⟩)|(go_at_call 172;refine(sF _ _ _ _ _ _ hf).mono ?_;rintro e w' ⟨rfl,rfl⟩))
  go_ret;exact⟨by rw[H.out];rfl,rfl⟩
 |true=>
 by_cases h0:f=[]
 .subst h0;have H:=amW (show bC p []=true by simp[bC,hF,hE]);go_enter Tryz.func167,Tryz.ntmps167
  go_wp2_with (first|(go_at_call 51;refine(iq _ _ ht).mono ?_;rintro e w' ⟨rfl,rfl⟩)|(go_at_call 172;refine(sF _ _ _ [] _ _ hf).mono ?_;rintro e w' ⟨rfl,rfl⟩))
  go_ret;exact⟨by rw[H.out];rfl,rfl⟩
 .have hfl:=ana.2 h0;have hb0:((f.length:Int)==0)=false:=by simp;omega
  obtain⟨gl,hgl⟩:∃gl:Nat,f.length=gl+1:=⟨f.length-1,by omega⟩;obtain⟨gA,nZ,x,rfl,hx,hgA,hcell⟩:=hf.at_ (by omega:gl<f.length);have hcx:cf f (f.length-1)=x:=by rw[hgl];exact iW hx
  have H:=amW (show bC p f=(x !=0) by simp only[bC,hF,hE,h41,hcx,rQ];simp;intro h;exact absurd h h0);have hgi:(f.length:Int)-1=(gl:Int):=by omega
  have Nq:gl<f.length:=by omega
  clear hgl hx hcx h0;go_enter Tryz.func167,Tryz.ntmps167
  go_wp2_with (first|(go_at_call 51;refine(iq _ _ ht).mono ?_;rintro e w' ⟨rfl,rfl⟩)|(go_at_call 172;refine(sF _ _ _ _ _ _ hf).mono ?_;rintro e w' ⟨rfl,rfl⟩))
  go_ret;exact⟨by rw[H.out];rfl,rfl⟩
theorem eY(p:Int)(A:Option Addr)(c:Nat)(f:List Int)(w:World)(hf:Rd w A f):
 Calls prog 163 #[.int .i64 p,.slice A f.length c] w λe w'=>e=.returned (.bool (bC p f))/\w=w':=by
 have hl:=hf.len;cases hF:aj p with
 |false=>
  have H:=amW (show bC p f=false by simp[bC,hF]);go_enter Tryz.func163,Tryz.ntmps163
  go_wp2_with (go_at_call 38;refine(kU _ _).mono ?_;rintro e w' ⟨rfl,rfl⟩)
  go_ret;exact⟨by rw[H.out];rfl,rfl⟩
 |true=>
 have h2:=au hF;have h97:=aQ hF;by_cases h41:f.length<=41;case neg=>
  have H:=amW (show bC p f=false by simp[bC,h41]);go_enter Tryz.func163,Tryz.ntmps163
  go_wp2_with (go_at_call 38;refine(kU _ _).mono ?_;rintro e w' ⟨rfl,rfl⟩)
  go_ret;exact⟨by rw[H.out];rfl,rfl⟩
 cases hE:av p f with
 |false=>
  have H:=amW (show bC p f=false by simp[bC,hE]);go_enter Tryz.func163,Tryz.ntmps163
  go_wp2_with (first|(go_at_call 38;refine(kU _ _).mono ?_;rintro e w' ⟨rfl,rfl⟩)|(go_at_call 169;refine(Jz _ _ _ _ _ hf h2 h97).mono ?_;rintro e w' ⟨rfl,rfl⟩))
  go_ret;exact⟨by rw[H.out];rfl,rfl⟩
 |true=>
 by_cases h0:f=[]
 .subst h0;have H:=amW (show bC p []=true by simp[bC,hF,hE]);go_enter Tryz.func163,Tryz.ntmps163
  go_wp2_with (first|(go_at_call 38;refine(kU _ _).mono ?_;rintro e w' ⟨rfl,rfl⟩)|(go_at_call 169;refine(Jz _ _ _ [] _ hf h2 h97).mono ?_;rintro e w' ⟨rfl,rfl⟩))
  go_ret;exact⟨by rw[H.out];rfl,rfl⟩
 .have hfl:=ana.2 h0;have hb0:((f.length:Int)==0)=false:=by simp;omega
  obtain⟨gl,hgl⟩:∃gl:Nat,f.length=gl+1:=⟨f.length-1,by omega⟩;obtain⟨gA,nZ,x,rfl,hx,hgA,hcell⟩:=hf.at_ (by omega:gl<f.length);have hcx:cf f (f.length-1)=x:=by rw[hgl];exact iW hx
  have H:=amW (show bC p f=(x !=0) by simp only[bC,hF,hE,h41,hcx,rQ];simp;intro h;exact absurd h h0);have hgi:(f.length:Int)-1=(gl:Int):=by omega
  have Nq:gl<f.length:=by omega
  clear hgl hx hcx h0;go_enter Tryz.func163,Tryz.ntmps163
  go_wp2_with (first|(go_at_call 38;refine(kU _ _).mono ?_;rintro e w' ⟨rfl,rfl⟩)|(go_at_call 169;refine(Jz _ _ _ _ _ hf h2 h97).mono ?_;rintro e w' ⟨rfl,rfl⟩))
  go_ret;exact⟨by rw[H.out];rfl,rfl⟩
end Go.Proofs.YtekcehkhdjoffaaGreatDoor
