/- Lemmas and walks on terms over rational functions: Words for memory: a slice of ints that reads as .. -/
import Derived.Test.YthgiffhlfcmgaaaGreatDoorQ15
namespace Go.Proofs.YthgiffhlfcmgaaaGreatDoor
open _root_.Go.Proofs.Tryz(prog)
set_option maxRecDepth 100000
set_option maxHeartbeats 8000000
set_option linter.all false
open Go Go.RowKit
variable{x:List (List aG)}{a b e g hi i j lo s:Nat}{S:Nat->Prop}{A:Option Addr}{v v0:Value}{w w':World}
theorem qh.setCell{a:World}(h:qh (some g) a w){p:Addr}(hp:p.block=g)(u:Value):qh (some g) a (w.setCell p u):=aM.setCell h hp u
theorem Fr.frozen{B off c:Nat}{xs:List Int}(h:Fr w B (some ⟨g,off,none⟩) c xs)(i:Nat):w.frozen? ⟨g,i,none⟩=false:=by obtain⟨_,cur,hc⟩:=h.2.2 _ rfl;simp only at hc;simp[World.frozen?,hc]
theorem Fr.bC{B off c:Nat}{xs:List Int}(h:Fr w B (some ⟨g,off,none⟩) c xs)(j:Nat)(x:Int):
 Fr (w.setCell ⟨g,off+j,none⟩ (.int .i64 x)) B (some ⟨g,off,none⟩) c (xs.set j x):=by
 refine⟨⟨by rw[axM];exact h.1.1,λi hi=>⟨g,off,rfl,?_⟩⟩,by rw[axM];exact h.2.1,λa e=>?_⟩
 .rw[axM]at hi;have hc:=h.1.cell (axn hi);by_cases e:j=i
  .subst e;have hc':w.cell? ⟨g,off+j,none⟩=some (.int .i64 xs[j]):=hc;rw[World.cell?_setCell_same _ _ _ hc',aAi hi];rfl
  .rw[ayV _ _ _ _ (by intro e2;injection e2;omega),hc,List.getElem?_set_ne e,axn hi];rfl
 .injection e with e;subst e;obtain⟨h1,cur,h2⟩:=h.2.2 _ rfl;refine⟨h1,cur.setIfInBounds (off+j) (.int .i64 x),?_⟩;simp only at h2⊢;simp[World.setCell,ayn,h2]
theorem aav(A A':Option Addr)(c c':Nat)(xs:List Int)(w:World)(h:Rd w A xs)(h':Rd w A' xs):
 Calls prog 133 #[.slice A xs.length c,.slice A' xs.length c'] w λe w'=>e=.returned (.bool true)/\Ex w w':=by
 have hl:=h.len;go_enter Tryz.func133,Tryz.ntmps133
 go_wp2;go_loopw [5] (λi wr=>∃k:Nat,k<=xs.length/\i=.int .i64 k/\∃n,wr=w.drewN n) (λi _=>xs.length-(intOf i).toNat)
 case atStart=>exact⟨0,axq _,rfl,0,rfl⟩
 case round=>
  obtain⟨k,hk,rfl,n,rfl⟩:=hrel;by_cases hlt:k<xs.length
  .obtain⟨g,off,x,rfl,hx,hg,hc⟩:=h.at_ hlt;obtain⟨g',off',x',rfl,hx',hg',hc'⟩:=h'.at_ hlt;obtain rfl:x=x':=by rw[hx]at hx';injection hx'
   have H:=axj hx;clear hx hx';go_wp2;go_quiet (fail)
   go_wp2;go_roundw;case rel=>exact⟨k+1,by omega,by go_num,_,rfl⟩
   case measure=>simp[intOf];omega
  .obtain rfl:k=xs.length:=by omega
   go_wp2;go_ret;exact⟨rfl,(aCQ w).drewN _⟩
theorem aiO(k:Int)(n j:Nat)(h:j<n):(mk k n)[j]?=some (k+(j:Int)):=by simp[mk,h]
theorem acA(k:Int)(xs:List Int)(j:Nat)(h:j<xs.length):(mk k j++xs.drop j).set j (k+(j:Int))=mk k (j+1)++xs.drop (j+1):=by
 apply ax_;intro i;simp only[axK,ay1,mk,axs,ayC,axw,axY,axv,axF]
 grind
theorem QI(B:Nat)(A:Option Addr)(c:Nat)(xs:List Int)(k:Int)(w:World)(h:Fr w B A c xs)(hk0:0<=k)(hk:k<=4611686018427387904):
 Calls prog 96 #[.slice A xs.length c,.int .i64 k] w λe w'=>e=.returned (.int .i64 (k+(xs.length:Int)))/\Fr w' B A c (mk k xs.length)/\qh (A.map Addr.block) w w':=by
 have hl:=h.rd.len;go_enter Tryz.func96,Tryz.ntmps96
 go_wp2;go_loopw [1,5] (λq i wr=>∃j:Nat,j<=xs.length/\q=.int .i64 (k+(j:Int))/\i=.int .i64 j/\Fr wr B A c (mk k j++xs.drop j)/\qh (A.map Addr.block) w wr) (λ_ i _=>xs.length-(intOf i).toNat)
 case atStart=>exact⟨0,axq _,by simp,rfl,by simpa[mk]using h,qh.refl _ _⟩
 case round=>
  obtain⟨j,hj,rfl,rfl,hf,he⟩:=hrel;by_cases hlt:j<xs.length
  .obtain⟨g,off,x,rfl,hx,hg,hc⟩:=hf.rd.at_ (by rw[axv,xH,axF];omega:j<(mk k j++xs.drop j).length);have hz:=hf.frozen (off+j);have hf':=hf.bC j (k+(j:Int));rw[acA k xs j hlt]at hf';have he':=he.setCell (p:=⟨g,off+j,none⟩) rfl (.int .i64 (k+(j:Int)));have H:=axj hx;clear hx;go_wp2;go_roundw;case rel=>exact⟨j+1,by omega,by go_num,by go_num,hf',he'⟩
   case measure=>simp[intOf];omega
  .obtain rfl:j=xs.length:=by omega
   go_wp2;go_ret;exact⟨rfl,by simpa using hf,he⟩
theorem Rq(A:Option Addr)(c:Nat)(k:Int)(n:Nat)(w:World)(h:Rd w A (mk k n))(hk0:0<=k)(hk:k<=4611686018427387904):
 Calls prog 97 #[.slice A n c,.int .i64 k] w λe w'=>e=.returned (.int .i64 (k+(n:Int)))/\w=w':=by
 have hl:=h.len;rw[xH]at hl;go_enter Tryz.func97,Tryz.ntmps97
 go_wp2
 go_loop [1,5] (λq i=>∃j:Nat,j<=n/\q=.int .i64 (k+(j:Int))/\i=.int .i64 j) (λ_ i=>n-(intOf i).toNat)
 case atStart=>exact⟨0,axq _,by simp,rfl⟩
 case round=>
  obtain⟨j,hj,rfl,rfl⟩:=hrel;by_cases hlt:j<n
  .obtain⟨g,off,x,rfl,hx,hg,hc⟩:=h.at_ (by rw[xH];exact hlt:j<(mk k n).length);rw[aiO k n j hlt]at hx;injection hx with hx;subst hx;go_wp2
   go_round
   case rel=>exact⟨j+1,by omega,by go_num,by go_num⟩
   case measure=>simp[intOf];omega
  .obtain rfl:j=n:=by omega
   go_wp2;go_ret;exact⟨rfl,rfl⟩
theorem jE.refl(a b:Nat)(w:World):jE a b w w:=⟨rfl,rfl,rfl,axk _,λ_ _ _=>rfl⟩
theorem jE.aP{v:World}(h:Ex v w):jE a b v w:=⟨h.os,h.tape,h.output,h.size,λ_ hi _=>h.block hi⟩
theorem jE.afI{v:World}(h:qh (A.map Addr.block) v w)(hi:Hi a A)(hl:Lo A b):jE a b v w:=
 ⟨h.os,h.tape,h.output,h.size,λk hk ho=>h.block k hk (by
  intro e;cases hA:A with
  |none=>rw[hA]at e;cases e
  |some ad=>
   rw[hA]at e;injection e with e;have:=hi ad hA;have:=hl ad hA;omega)⟩
theorem QH(a b:Nat)(A:Option Addr)(c:Nat)(xs:List Int)(k:Int)(w:World)(h:FI w a b A c xs)(hk0:0<=k)(hk:k<=4611686018427387904):
 Calls prog 96 #[.slice A xs.length c,.int .i64 k] w λe w'=>e=.returned (.int .i64 (k+(xs.length:Int)))/\FI w' a b A c (mk k xs.length)/\jE a b w w':=
 (QI a A c xs k w h.fr hk0 hk).mono λ_ _ ⟨h1,h2,h3⟩=>⟨h1,⟨h2,h.lo⟩,jE.afI h3 h.fr.hi h.lo⟩
theorem Oj(x:List Int)(v u:Value)(w:World)(h:RI w v x)(h':RI w u x):
 Calls prog 133 #[v,u] w λe w'=>e=.returned (.bool true)/\Ex w w':=by
 obtain⟨A,c,rfl,r⟩:=h;obtain⟨A',c',rfl,r'⟩:=h';exact(aav A A' c c' x w r r').mono λ_ _ h=>h
theorem QG(lo hi:Nat)(x:List Int)(v:Value)(k:Int)(w:World)(h:OI w lo hi v x)(_:hi<=w.heap.size)(hk0:0<=k)(hk:k+ku x<=4611686018427387904):
 Calls prog 96 #[v,.int .i64 k] w λe w'=>e=.returned (.int .i64 (k+ku x))/\OI w' lo hi v (Vs k x)/\jE lo hi w w':=by
 obtain⟨A,c,rfl,r⟩:=h;have hn:=lU x;refine(QH lo hi A c x k w r hk0 (by omega)).mono ?_;rintro e w' ⟨rfl,m,z⟩;exact⟨rfl,⟨A,c,by rw[Vs,xH],m⟩,z⟩
theorem Fb(x:List Int)(v:Value)(k:Int)(w:World)(h:RI w v (Vs k x))(hk0:0<=k)(hk:k+ku x<=4611686018427387904):
 Calls prog 97 #[v,.int .i64 k] w λe w'=>e=.returned (.int .i64 (k+ku x))/\Ex w w':=by
 obtain⟨A,c,e,r⟩:=h;rw[Vs,xH]at e;subst e;have hn:=lU x;refine(Rq A c k x.length w r hk0 (by omega)).mono ?_;rintro e w' ⟨rfl,rfl⟩;exact⟨rfl,aCQ _⟩
section
variable {α : Type}
structure rz (g s e a b:Nat) (t:TypeId) (w w':World):Prop where
 os:w'.os=w.os
 tape:w'.tape=w.tape
 output:w'.output=w.output
 size:w.heap.size<=w'.heap.size
 block:∀k,k<w.heap.size->k≠g->(k<a∨b<=k)->w'.heap[k]?=w.heap[k]?
 row:∀cur,w.heap[g]?=some (.cells cur t (0,0))->∃cur':Array Value,w'.heap[g]?=some (.cells cur' t (0,0))/\∀q,(q<s∨e<=q)->cur'[q]?=cur[q]?
theorem rz.refl(g s e a b:Nat)(t:TypeId)(w:World):rz g s e a b t w w:=⟨rfl,rfl,rfl,axk _,λ_ _ _ _=>rfl,λcur h=>⟨cur,h,λ_ _=>rfl⟩⟩
theorem rz.set{t:TypeId}{v:World}(h:rz g s e a b t v w){o:Nat}(hs:s<=o)(he:o<e)(u:Value):rz g s e a b t v (w.setCell ⟨g,o,none⟩ u):=by have hb:=Below.heap_setCell w ⟨g,o,none⟩ u;refine⟨h.os,h.tape,h.output,by simpa[World.setCell]using h.size,λk hk hn hd=>(hb k (λe=>hn (e▸rfl))).trans (h.block k hk hn hd),λcur hc=>?_⟩;obtain⟨cur',h1,h2⟩:=h.row cur hc;refine⟨cur'.setIfInBounds o u,by simp[World.setCell,ayn,h1],λq hq=>?_⟩;rw[ax1,axm (by omega)];exact h2 q hq
theorem rz.exi{t:TypeId}{v:World}(h:rz g s e a b t v w)(h1:lo<=g)(h2:g<hi)(h3:lo<=a)(h4:b<=hi):jE lo hi v w:=
 ⟨h.os,h.tape,h.output,h.size,λk hk hd=>h.block k hk (by omega) (by omega)⟩
theorem CQ.row{E:EK α}{t:TypeId}{xs:List α}(h:CQ E t w lo hi A xs){x:α}(hi':xs[i]?=some x):
 ∃g off vs a b cur,A=some ⟨g,off,none⟩/\w.heap[g]?=some (.cells cur t (0,0))/\(∀(q:Nat) (u:Value),vs[q]?=some u->w.cell? ⟨g,off+i*E.k+q,none⟩=some u)/\E.O w a b vs x/\lo<=g/\g<hi/\lo<=a/\b<=hi/\(g<a∨b<=g)/\
  ∀w' vs' x',rz g (off+i*E.k) (off+i*E.k+E.k) a b t w w'->(∀(q:Nat) (u:Value),vs'[q]?=some u->w'.cell? ⟨g,off+i*E.k+q,none⟩=some u)->E.O w' a b vs' x'->CQ E t w' lo hi A (xs.set i x'):=by
 obtain⟨hl,al,bl,k1,k2⟩:=h;have hlt:=(axp.1 hi').1;obtain⟨g,off,vs,cur,hA,hg1,hg2,hh,hc,ho,ha,hb,hd⟩:=k1 i x hi';refine⟨g,off,vs,al i,bl i,cur,hA,hh,λq u hq=>dJ hh (hc q u hq),ho,hg1,hg2,ha,hb,hd,λw' vs' x' T hc' ho'=>⟨by simpa using hl,al,bl,λj y hj=>?_,by simpa using k2⟩⟩;obtain⟨cur',hh',hsame⟩:=T.row cur hh;rw[axK]at hj;split at hj
 .rename_i e;subst e;injection hj with hj;subst hj;refine⟨g,off,vs',cur',hA,hg1,hg2,hh',λq u hq=>?_,ho',ha,hb,hd⟩;have:=hc' q u hq;simpa[World.cell?,hh']using this
 .rename_i e;have hjl:=(axp.1 hj).1;obtain⟨g2,off2,vs2,adE,hA2,_,_,Dj,hc2,ho2,ha2,hb2,hd2⟩:=k1 j y hj;rw[hA]at hA2;injection hA2 with hA2;injection hA2 with e1 e2 _;subst e1 e2;rw[hh]at Dj;injection Dj with Dj;injection Dj with Dj _ _;subst Dj;have hlen:=E.mM (E.rd ho2);refine⟨g,off,vs2,cur',hA,hg1,hg2,hh',λq u hq=>?_,?_,ha2,hb2,hd2⟩
  .have hql:q<E.k:=by rw[<-hlen];exact(axp.1 hq).1
   rw[hsame _ ?_]
   .exact hc2 q u hq
   .rcases Nat.lt_or_gt_of_ne e with h|h
    .right;have:=ayk E.k (show i+1<=j from h);rw[ayu,ayU]at this;omega
    .left;have:=ayk E.k (show j+1<=i from h);rw[ayu,ayU]at this;omega
  .have hdis:=k2 i j hlt hjl e;exact E.keep ho2 λk hk1 hk2 hk=>T.block k hk (by omega) (by omega)
theorem gZ(E:EK α){xs:List α}{x:α}(h:xs[j]?=some x):bN E (xs.take (j+1))=bN E (xs.take j)+E.tot x:=by rw[axy,h];simp[bN]
theorem jq(E:EK α)(xs:List α)(j:Nat):bN E (xs.take j)<=bN E xs:=by
 have h:=ayw j xs;have:bN E xs=bN E (xs.take j)+bN E (xs.drop j):=by
  conv=>lhs;rw[<-h]
  simp only[bN,ax4,List.sum_append]
 have:=jr E (xs.drop j);omega
theorem JN(E:EK α):∀(k:Int) (xs:List α) (j:Nat) (x:α),xs[j]?=some x->(mkS E k xs)[j]?=some (E.KZ (k+bN E (xs.take j)) x)
 |k,y::xs,0,x,h=>by simp at h;subst h;simp[mkS,bN]
 |k,y::xs,j+1,x,h=>by rw[mkS,aAk,JN E _ xs j x (by simpa using h),azb,iQ];congr 2;omega
theorem ED(E:EK α)(k:Int)(xs:List α)(j:Nat)(x:α)(h:xs[j]?=some x):
 ((mkS E k xs).take j++xs.drop j).set j (E.KZ (k+bN E (xs.take j)) x)=(mkS E k xs).take (j+1)++xs.drop (j+1):=by
 have hlt:=(axp.1 h).1;have hl:((mkS E k xs).take j).length=j:=by rw[axx,gL];omega
 rw[List.set_append_right _ _ (by omega),hl,ayd,azh hlt,azv,axy,JN E k xs j x h,ayg];rfl
theorem lX{cur:Array Value}{t:TypeId}(h:w.heap[g]?=some (.cells cur t (0,0)))(i:Nat):w.frozen? ⟨g,i,none⟩=false:=by simp[World.frozen?,h]
theorem l_{u:Value}(h:w.cell? ⟨g,j,none⟩=some v)(hn:i≠j):(w.setCell ⟨g,i,none⟩ u).cell? ⟨g,j,none⟩=some v:=by rw[ayV _ _ _ _ (λe=>hn (by injection e))];exact h
theorem Jw{u:Value}(h:w.cell? ⟨g,i,none⟩=some v):(w.setCell ⟨g,i,none⟩ u).cell? ⟨g,i,none⟩=some u:=World.cell?_setCell_same _ _ _ h
end
open Go.Lib (Bytes run_convert_whole)
def mkN(k:Int)(x:List Nd):List Nd:=mkS EN k x
theorem Qg(w:World)(b:Nat)(k:Nat)(hk:k<256)(hv:w.cell? ⟨b,0,none⟩=some (.int .u8 (k:Int))):(convert 114 9 (.slice (some ⟨b,0,none⟩) 1 1)).run prog w=.ok (.string ⟨#[UInt8.ofNat k]⟩) w:=by
 have hb:Bytes w b 0 (⟨#[UInt8.ofNat k]⟩:ByteArray):=by
  intro i hi;have h0:i=0:=by have:i<1:=hi;omega
  subst h0;have hn:((⟨#[UInt8.ofNat k]⟩:ByteArray)[0]'hi).toNat=k:=by show(UInt8.ofNat k).toNat=k;simp;omega
  rw[hn];exact hv
 exact run_convert_whole (P:=prog) _ 114 5 9 Tryz.underlying114 Tryz.underlying5 Tryz.underlying9 b 0 (⟨#[UInt8.ofNat k]⟩:ByteArray) hb 1
theorem U1(w:World)(k:Nat)(hk:k<256):(convert 114 9 (.slice (some ⟨w.heap.size,0,none⟩) 1 1)).run prog (w.alloc (.cells #[.int .u8 (k:Int)] 5))=.ok (.string ⟨#[UInt8.ofNat k]⟩) (w.alloc (.cells #[.int .u8 (k:Int)] 5)):=
 Qg _ _ k hk ((VB.new w 5 #[.int .u8 (k:Int)]).c0)
theorem aaJ(n:Nat){k:Int}(h:0<k)(out:ByteArray):Xl (n+1) k out=Xl n (k / 10) (⟨#[UInt8.ofNat (48+(k%10).toNat)]⟩++out):=by rw[Xl,axl h]
theorem adz(n:Nat){k:Int}(h:¬0<k)(out:ByteArray):Xl n k out=out:=by
 cases n with
 |zero=>rfl
 |succ n=>rw[Xl,axm h]
theorem QE(k:Int)(hk:k<=4611686018427387904)(w:World):Calls prog 57 #[.int .i64 k] w λe w'=>e=.returned (.string (mtx k))/\Ex w w':=by
 by_cases h0:k<=0
 .have Hm:=axj (show mtx k=⟨#[109,48]⟩from axl h0);go_enter Tryz.func57,Tryz.ntmps57
  go_wp2_with fail
  go_ret;rw[Hm.out];exact⟨rfl,aCQ _⟩
 .have Hm:=axj (show mtx k=⟨#[109]⟩++Xl 20 k ⟨#[]⟩from axm h0);go_enter Tryz.func57,Tryz.ntmps57
  go_wp2_with fail
  go_loopw [0,3] (λq o wr=>∃(n:Nat) (j:Int) (out:ByteArray),n<=20/\q=.int .i64 j/\o=.string out/\0<=j/\j<10^n/\j<=4611686018427387904/\Hid (Xl n j out=Xl 20 k ⟨#[]⟩)/\out.size+n<=20/\Ex w wr) (λq _ _=>(intOf q).toNat)
  case atStart=>exact⟨20,k,⟨#[]⟩,axk _,rfl,rfl,by omega,by omega,hk,axj rfl,by decide,aCQ _⟩
  case round=>
   rename World=>wi;obtain⟨n,j,out,hn,rfl,rfl,hj0,hj1,hj2,HD,hos,he⟩:=hrel;by_cases hlt:0<j
   .obtain⟨n,rfl⟩:∃m,n=m+1:=⟨n-1,by
     cases n with
     |zero=>simp at hj1;omega
     |succ n=>rfl⟩
    have HS:=axj (aaJ n hlt out);obtain⟨J,rfl⟩:∃J:Nat,j=(J:Int):=⟨j.toNat,by omega⟩;have hc:=U1 wi (48+J%10) (by omega);rw[show((48+J%10:Nat):Int)=48+(J:Int)%10 by omega]at hc;obtain⟨S,hS⟩:∃S:ByteArray,(⟨#[UInt8.ofNat (48+J%10)]⟩:ByteArray)=S:=⟨_,rfl⟩;have hSs:S.size=1:=by rw[<-hS];rfl
    rw[hS]at hc;have HS2:=axj (show Xl n ((J:Int) / 10) (S++out)=Xl 20 k ⟨#[]⟩ by
     rw[<-HD.out,HS.out,<-hS];congr 3)
    clear hS HS HD;have hl1:¬(9223372036854775807<S.size+out.size):=by omega
    go_wp2_with fail
    go_roundw;case rel=>
     refine⟨n,(J:Int) / 10,S++out,by omega,rfl,rfl,by omega,?_,by omega,HS2,?_,he.alloc _⟩
     .rw[azp]at hj1;omega
     .rw[ByteArray.size_append,hSs];omega
    case measure=>simp[intOf];omega
   .have HF:=axj (adz n hlt out);have atK:out.size<=20:=by omega
    go_wp2_with fail
    go_ret;rw[Hm.out,<-HD.out,HF.out];exact⟨rfl,he⟩
theorem rz.ex{t:TypeId}{v:World}(h:rz g s e a b t v w)(k:Ex w w')(_hg:g<v.heap.size):rz g s e a b t v w':=
 ⟨k.os.trans h.os,k.tape.trans h.tape,k.output.trans h.output,axA h.size k.size,λi hi hn hd=>(k.block (axD hi h.size)).trans (h.block i hi hn hd),λcur hc=>by
  obtain⟨cur',h1,h2⟩:=h.row cur hc;exact⟨cur',(k.block (aF h1)).trans h1,h2⟩⟩
theorem Qf{w2:World}{o:Nat}{a0 a1 a2:Value}(h0:w.cell? ⟨g,o,none⟩=some a0)(h1:w.cell? ⟨g,o+1,none⟩=some a1)(h2:w.cell? ⟨g,o+2,none⟩=some a2)(u0 u1 u2:Value)(hx:Ex ((w.setCell ⟨g,o,none⟩ u0).setCell ⟨g,o+1,none⟩ u1) w2):
 ∀(q:Nat) (u:Value),[u0,u1,u2][q]?=some u->(w2.setCell ⟨g,o+2,none⟩ u2).cell? ⟨g,o+q,none⟩=some u:=by
 have k0:=l_ (u:=u2) (i:=o+2) (af hx (l_ (u:=u1) (i:=o+1) (Jw (u:=u0) h0) (by omega))) (by omega);have k1:=l_ (u:=u2) (i:=o+2) (af hx (Jw (u:=u1) (l_ (u:=u0) (i:=o) h1 (by omega)))) (by omega);have k2:=Jw (u:=u2) (af hx (l_ (u:=u1) (i:=o+1) (l_ (u:=u0) (i:=o) h2 (by omega)) (by omega)));generalize w2.setCell ⟨g,o+2,none⟩ u2=W at*;intro q u hq;rcases q with _|_|_|q
 .simp at hq;subst hq;exact k0
 .simp at hq;subst hq;exact k1
 .simp at hq;subst hq;exact k2
 .simp at hq
theorem Np(lo hi:Nat)(x:List Nd)(v:Value)(k:Int)(w:World)(h:ON w lo hi v x)(_hb:hi<=w.heap.size)(hk0:0<=k)(hk:k+P7 x<=4611686018427387904):
 Calls prog 27 #[v,.int .i64 k] w λe w'=>e=.returned (.int .i64 (k+P7 x))/\ON w' lo hi v (mkN k x)/\jE lo hi w w':=by
 obtain⟨⟨A,c,rfl,h⟩,ht⟩:=h;have hl:=h.1;go_enter Tryz.func27,Tryz.ntmps27
 go_wp2;go_loopw [1,5] (λq i wr=>∃j:Nat,j<=x.length/\q=.int .i64 (k+bN EN (x.take j))/\i=.int .i64 j/\CQ EN 70 wr lo hi A ((mkS EN k x).take j++x.drop j)/\jE lo hi w wr) (λ_ i _=>x.length-(intOf i).toNat)
 case atStart=>exact⟨0,axq _,by simp[bN],rfl,by simpa using h,jE.refl _ _ _⟩
 case round=>
  rename World=>wj;obtain⟨j,hj,rfl,rfl,hf,he⟩:=hrel;by_cases hlt:j<x.length
  .obtain⟨r,hr⟩:∃r,x[j]?=some r:=⟨_,axn hlt⟩;have hml:((mkS EN k x).take j).length=j:=by rw[axx,gL];omega
   have hr2:((mkS EN k x).take j++x.drop j)[j]?=some r:=by rw[axN (by omega),hml,ayd,axY];simpa using hr
   obtain⟨g,off,vs,a,b,cur,rfl,hh,hc,rfl,hg1,hg2,ha,hb',hd,hset⟩:=hf.row hr2;have s1:=jr EN (x.take j);have s2:=gZ EN hr;have s3:=jq EN x (j+1);have e4:EN.tot r=3:=rfl;rw[e4]at s2;have HS:=axj (ED EN k x j r hr);have S2:=axj s2;have c0:=hc 0 _ rfl;have c1:=hc 1 _ rfl;have c2:=hc 2 _ rfl;simp only[show EN.k=3 from rfl,ayb]at c0 c1 c2 hset;have z0:=lX hh (off+j*3);have z1:=lX hh (off+j*3+1);have z2:=lX hh (off+j*3+2);have hk4:k+bN EN (x.take j)+3<=4611686018427387904:=by have:P7 x=bN EN x:=rfl;omega
   have hgl:=aF hh;have HH:=axj hh;clear hr hr2 s2 hml hc hh;go_wp2_with fail
   refine(QE _ (by omega) _).mono ?_;rintro e w2 ⟨rfl,x2⟩;have C:=Qf c0 c1 c2 (.int .i64 (k+bN EN (x.take j))) (.int .i64 (k+bN EN (x.take j)+1)) (.string (mtx (k+bN EN (x.take j)+1+1))) x2;have T:=((((rz.refl g (off+j*3) (off+j*3+3) a b 70 wj).set (o:=off+j*3) (by omega) (by omega) (.int .i64 (k+bN EN (x.take j)))).set (o:=off+j*3+1) (by omega) (by omega) (.int .i64 (k+bN EN (x.take j)+1))).ex x2 hgl).set (o:=off+j*3+2) (by omega) (by omega) (.string (mtx (k+bN EN (x.take j)+1+1)));have T2:=(((rz.refl g (off+j*3) (off+j*3+3) a b 70 wj).set (o:=off+j*3) (by omega) (by omega) (.int .i64 (k+bN EN (x.take j)))).set (o:=off+j*3+1) (by omega) (by omega) (.int .i64 (k+bN EN (x.take j)+1))).ex x2 hgl;obtain⟨cur',Dj,_⟩:=T2.row cur HH.out;have z2':=lX Dj (off+j*3+2);have c2':w2.cell? ⟨g,off+j*3+2,none⟩=some (.string r.nm):=af x2 (l_ (i:=off+j*3+1) (l_ (i:=off+j*3) c2 (by omega)) (by omega));go_wp2_with fail
   go_roundw;case rel=>
    have hf':=hset _ _ (EN.KZ (k+bN EN (x.take j)) r) T C (by
     generalize k+bN EN (x.take j)=K;show[Value.int .i64 K,.int .i64 (K+1),.string (mtx (K+1+1))]=[.int .i64 K,.int .i64 (K+1),.string (mtx (K+2))];rw[show K+1+1=K+2 by omega])
    rw[HS.out]at hf';exact⟨j+1,by omega,by rw[S2.out];congr 1;omega,by go_num,hf',he.trans (T.exi hg1 hg2 ha hb')⟩
   case measure=>simp[intOf]<;>omega
  .obtain rfl:j=x.length:=by omega
   go_wp2;go_ret;rw[azm,ax8,axG (by rw[gL];exact axk _)]at hf;rw[axE];exact⟨rfl,⟨⟨A,c,by rw[mkN,gL],hf⟩,by rw[mkN,CX];exact ht⟩,he⟩
theorem Ky(x:aG)(v0 v1 u0 u1:Value)(w:World)(h:oD w v0 v1 x)(h':oD w u0 u1 x):
 Calls prog 95 #[.agg #[v0,v1],.agg #[u0,u1]] w λe w'=>e=.returned (.bool true)/\Ex w w':=by
 obtain⟨x0,x1⟩:=x;obtain⟨h0,h1⟩:=h;obtain⟨g0,g1⟩:=h';dsimp only at h0 g0 h1 g1⊢;obtain⟨x1,d1⟩:=VB.xn w 57 #[v0,v1];have S1:=axj (show(w.alloc (.cells #[v0,v1] 57)).heap.size=w.heap.size+1 by simp);go_enter Tryz.func95,Tryz.ntmps95
 go_wp2_with fail
 generalize w.alloc (.cells #[v0,v1] 57)=W1 at*;obtain⟨y2,d2⟩:=VB.xn W1 57 #[u0,u1];rw[S1.out]at d2;generalize W1.alloc (.cells #[u0,u1] 57)=V0 at*;have xx:=x1.trans y2;have dA:=d1.ex y2;have dB:=d2;clear x1 d1 d2 y2 S1;refine(Oj x0 v0 u0 V0 (h0.ex xx) (g0.ex xx)).mono ?_;rintro e V1 ⟨rfl,z0⟩;replace dA:=dA.ex z0;replace dB:=dB.ex z0;replace xx:=xx.trans z0;have q0:=dA.c1;have q1:=dB.c1;go_wp2_with fail
 clear q0 q1;refine(Oj x1 v1 u1 V1 (h1.ex xx) (g1.ex xx)).mono ?_;rintro e V2 ⟨rfl,z1⟩;replace dA:=dA.ex z1;replace dB:=dB.ex z1;replace xx:=xx.trans z1;go_wp2;go_ret;exact⟨rfl,xx⟩
theorem bG.exi{v:World}(h:bG S v w)(hS:∀k,S k->a<=k/\k<b):jE a b v w:=⟨h.os,h.tape,h.output,h.size,λk hk hn=>h.block k hk λhs=>by have:=hS k hs;omega⟩
theorem bG.afJ{v:World}(h:jE a b v w):bG (λk=>a<=k/\k<b) v w:=⟨h.os,h.tape,h.output,h.size,λk hk hn=>h.block k hk (by omega)⟩
def RF(w:World)(v:Value)(x:List aG):Prop:=RS EF w v x
theorem RF.ex{x:List aG}(h:RF w v x)(he:Ex w w'):RF w' v x:=RS.ex h he
theorem RF.form{x:List aG}(h:RF w v x):∃A n c,v=.slice A n c:=RS.form h
theorem GV(x:List aG)(v u:Value)(w:World)(h:RF w v x)(h':RF w u x):
 Calls prog 55 #[v,u] w λe w'=>e=.returned (.bool true)/\Ex w w':=by
 obtain⟨⟨A,c,rfl,h⟩,_⟩:=h;obtain⟨⟨A',c',rfl,h'⟩,_⟩:=h';have hl:=h.1;go_enter Tryz.func55,Tryz.ntmps55
 go_wp2;go_loopw [5] (λi wr=>∃k:Nat,k<=x.length/\i=.int .i64 k/\Ex w wr) (λi _=>x.length-(intOf i).toNat)
 case atStart=>exact⟨0,axq _,rfl,aCQ w⟩
 case round=>
  obtain⟨k,hk,rfl,he⟩:=hrel;by_cases hlt:k<x.length
  .obtain⟨g,off,r,P,pc,Q,qc,rfl,hr,c0,c1,hP,hQ⟩:=(h.ex he).iy hlt;obtain⟨g',off',r',P',pc',Q',MO,rfl,hr',d0,d1,hP',hQ'⟩:=(h'.ex he).iy hlt;obtain rfl:r=r':=by rw[hr]at hr';injection hr'
   clear hr hr';have he1:=λW (y:Ex wr W)=>Ky r _ _ _ _ W ⟨⟨P,pc,rfl,hP.ex y⟩,⟨Q,qc,rfl,hQ.ex y⟩⟩ ⟨⟨P',pc',rfl,hP'.ex y⟩,⟨Q',MO,rfl,hQ'.ex y⟩⟩
   have HS:∀W,Ex wr W->(Ex wr W/\W.cell? ⟨g,off+k*2,none⟩=some (.slice P r.n.length pc)/\W.cell? ⟨g,off+k*2+1,none⟩=some (.slice Q r.d.length qc)/\W.cell? ⟨g',off'+k*2,none⟩=some (.slice P' r.n.length pc')/\W.cell? ⟨g',off'+k*2+1,none⟩=some (.slice Q' r.d.length MO)):=λW y=>⟨y,af y c0,af y c1,af y d0,af y d1⟩
   have eA:=(aCQ wr).drew;go_wp2_with fail
   go_region_held3 (λW=>Ex wr W/\W.cell? ⟨g,off+k*2,none⟩=some (.slice P r.n.length pc)/\W.cell? ⟨g,off+k*2+1,none⟩=some (.slice Q r.d.length qc)/\W.cell? ⟨g',off'+k*2,none⟩=some (.slice P' r.n.length pc')/\W.cell? ⟨g',off'+k*2+1,none⟩=some (.slice Q' r.d.length MO)) (first
    |(exact HS _ x1)|(exact HS _ eA)|(exact HS _ (aCQ wr))) (first
    |(go_at_call 95
      have hb:=(‹Ex wr _/\_›).1;refine(he1 _ hb).mono ?_;rintro e w1 ⟨rfl,Gv⟩;have x1:=hb.trans Gv;clear hb))
   all_goals go_wp2
   all_goals exact⟨⟨k+1,by omega,by go_num,he.trans x1⟩,by simp[intOf]<;>omega⟩
  .obtain rfl:k=x.length:=by omega
   go_wp2;go_ret;exact⟨rfl,he⟩
theorem CF(x:List aG)(v:Value)(k:Int)(w:World)(h:RF w v (mkF k x))(hk0:0<=k)(hk:k+m_ x<=4611686018427387904):
 Calls prog 59 #[v,.int .i64 k] w λe w'=>e=.returned (.int .i64 (k+m_ x))/\Ex w w':=by
 obtain⟨⟨A,c,e,h⟩,ht⟩:=h;rw[mkF,gL]at e;subst e;have hl:x.length<=1099511627776:=by have:=h.1;rwa[mkF,gL]at this
 go_enter Tryz.func59,Tryz.ntmps59
 go_wp2;go_loopw [1,5] (λq i wr=>∃j:Nat,j<=x.length/\q=.int .i64 (k+bN EF (x.take j))/\i=.int .i64 j/\Ex w wr) (λ_ i _=>x.length-(intOf i).toNat)
 case atStart=>exact⟨0,axq _,by simp[bN],rfl,aCQ _⟩
 case round=>
  obtain⟨j,hj,rfl,rfl,he⟩:=hrel;by_cases hlt:j<x.length
  .obtain⟨r,hr⟩:∃r,x[j]?=some r:=⟨_,axn hlt⟩;have hm:=JN EF k x j r hr;obtain⟨g,off,r',P,pc,Q,qc,rfl,hr',c2,c3,hP,hQ⟩:=(h.ex he).iy (j:=j) (by rw[mkF,gL];exact hlt);rw[mkF,hm]at hr';injection hr' with hr';subst hr';have s1:=jr EF (x.take j);have s2:=gZ EF hr;have s3:=jq EF x (j+1);have e4:EF.tot r=ku r.n+ku r.d:=rfl;have n0:=lU r.n;have n1:=lU r.d;rw[e4]at s2;have hk4:k+bN EF (x.take j)+(ku r.n+ku r.d)<=4611686018427387904:=by have:m_ x=bN EF x:=rfl;omega
   have S2:=axj s2;clear hr hm s2 e4;obtain⟨K,hK⟩:=xq (k+bN EF (x.take j));have HK:=axj hK;rw[hK]at hk4 c2 c3 hP hQ;have hK0:0<=K:=by omega
   rw[hK];clear hK;have q1:RI wr (.slice P (EF.KZ K r).n.length pc) (Vs K r.n):=⟨P,pc,rfl,hP⟩;have q2:RI wr (.slice Q (EF.KZ K r).d.length qc) (Vs (K+ku r.n) r.d):=⟨Q,qc,rfl,hQ⟩;have hPl:=hP.len;have hQl:=hQ.len;clear hP hQ;generalize(EF.KZ K r).n.length=m1 at*;generalize(EF.KZ K r).d.length=m2 at*;go_wp2_with fail
   refine(Fb r.n (.slice P m1 pc) K wr q1 (by omega) (by omega)).mono ?_;rintro e w1 ⟨rfl,x1⟩;replace c2:=af x1 c2;replace c3:=af x1 c3;go_wp2_with fail
   refine(Fb r.d (.slice Q m2 qc) (K+ku r.n) w1 (q2.ex x1) (by omega) (by omega)).mono ?_;rintro e w2 ⟨rfl,x2⟩;have hQ:K+ku r.n+ku r.d=k+bN EF (x.take (j+1)):=by have:=S2.out;have:=HK.out;omega
   have hX:=(he.trans x1).trans x2;clear c2 c3;rw[hQ];clear hQ;have hp:0<=k+bN EF (x.take (j+1)):=by have:=jr EF (x.take (j+1));omega
   go_wp2_with fail
   go_roundw;case rel=>exact⟨j+1,by omega,rfl,by go_num,hX⟩
   case measure=>simp[intOf]<;>omega
  .obtain rfl:j=x.length:=by omega
   go_wp2;go_ret;rw[axE];exact⟨rfl,he⟩
theorem wY{α:Type}(E:EK α){xs:List α}{x:α}(h:xs[j]?=some x):E.tot x<=bN E xs:=by have:=gZ E h;have:=jq E xs (j+1);have:=jr E (xs.take j);omega
def GI(k:Int)(x:List (List aG)):List (List aG):=mkS iX k x
theorem DN(x:List (List aG)):0<=eZ x:=jr iX x
theorem Le.ex(h:Le w v x)(he:Ex w w'):Le w' v x:=RS.ex h he
theorem Le.tot(h:Le w v x):eZ x<=1125899906842624:=RS.tot h
theorem Le.form(h:Le w v x):∃A n c,v=.slice A n c:=RS.form h
theorem FE(x:List (List aG))(v u:Value)(w:World)(h:Le w v x)(h':Le w u x):
 Calls prog 25 #[v,u] w λe w'=>e=.returned (.bool true)/\Ex w w':=by
 obtain⟨⟨A,c,rfl,h⟩,ht⟩:=h;obtain⟨⟨A',c',rfl,h'⟩,_⟩:=h';have hl:=h.1;go_enter Tryz.func25,Tryz.ntmps25
 go_wp2;go_loopw [5] (λi wr=>∃k:Nat,k<=x.length/\i=.int .i64 k/\Ex w wr) (λi _=>x.length-(intOf i).toNat)
 case atStart=>exact⟨0,axq _,rfl,aCQ w⟩
 case round=>
  obtain⟨k,hk,rfl,he⟩:=hrel;by_cases hlt:k<x.length
  .obtain⟨g,off,r,v,rfl,hr,c0,hR0⟩:=(h.ex he).jf hlt;obtain⟨g',off',r',v',rfl,hr',d0,aj5⟩:=(h'.ex he).jf hlt;obtain rfl:r=r':=by rw[hr]at hr';injection hr'
   have hR:RF wr v r:=⟨hR0,Int.le_trans (wY iX hr) ht⟩;have hR':RF wr v' r:=⟨aj5,Int.le_trans (wY iX hr) ht⟩;clear hR0 aj5;obtain⟨P,m,pc,rfl⟩:=hR.form;obtain⟨P',m',pc',rfl⟩:=hR'.form;clear hr hr';have he1:=λW (y:Ex wr W)=>GV r _ _ W (hR.ex y) (hR'.ex y)
   have HS:∀W,Ex wr W->(Ex wr W/\W.cell? ⟨g,off+k,none⟩=some (.slice P m pc)/\W.cell? ⟨g',off'+k,none⟩=some (.slice P' m' pc')):=λW y=>⟨y,af y c0,af y d0⟩
   have eA:=(aCQ wr).drew;go_wp2_with fail
   go_region_held3 (λW=>Ex wr W/\W.cell? ⟨g,off+k,none⟩=some (.slice P m pc)/\W.cell? ⟨g',off'+k,none⟩=some (.slice P' m' pc')) (first
    |(exact HS _ x1)|(exact HS _ eA)|(exact HS _ (aCQ wr))) (first
    |(go_at_call 55
      have hb:=(‹Ex wr _/\_›).1;refine(he1 _ hb).mono ?_;rintro e w1 ⟨rfl,Gv⟩;have x1:=hb.trans Gv;clear hb))
   all_goals go_wp2
   all_goals exact⟨⟨k+1,by omega,by go_num,he.trans x1⟩,by simp[intOf]<;>omega⟩
  .obtain rfl:k=x.length:=by omega
   go_wp2;go_ret;exact⟨rfl,he⟩
theorem Bd(x:List (List aG))(v:Value)(k:Int)(w:World)(h:Le w v (GI k x))(hk0:0<=k)(hk:k+eZ x<=4611686018427387904):
 Calls prog 29 #[v,.int .i64 k] w λe w'=>e=.returned (.int .i64 (k+eZ x))/\Ex w w':=by
 obtain⟨⟨A,c,e,h⟩,ht⟩:=h;rw[GI,gL]at e;subst e;have hl:x.length<=1099511627776:=by have:=h.1;rwa[GI,gL]at this
 go_enter Tryz.func29,Tryz.ntmps29
 go_wp2;go_loopw [1,5] (λq i wr=>∃j:Nat,j<=x.length/\q=.int .i64 (k+bN iX (x.take j))/\i=.int .i64 j/\Ex w wr) (λ_ i _=>x.length-(intOf i).toNat)
 case atStart=>exact⟨0,axq _,by simp[bN],rfl,aCQ _⟩
 case round=>
  obtain⟨j,hj,rfl,rfl,he⟩:=hrel;by_cases hlt:j<x.length
  .obtain⟨r,hr⟩:∃r,x[j]?=some r:=⟨_,axn hlt⟩;have hm:=JN iX k x j r hr;obtain⟨g,off,r',v,rfl,hr',c2,hR0⟩:=(h.ex he).jf (j:=j) (by rw[GI,gL];exact hlt);have hR:RF wr v r':=⟨hR0,Int.le_trans (wY iX hr') ht⟩;clear hR0;rw[GI,hm]at hr';injection hr' with hr';subst hr';obtain⟨P,m,pc,rfl⟩:=hR.form;have s1:=jr iX (x.take j);have s2:=gZ iX hr;have s3:=jq iX x (j+1);have e4:iX.tot r=m_ r:=rfl;have n0:=Jo r;rw[e4]at s2;have hk4:k+bN iX (x.take j)+m_ r<=4611686018427387904:=by have:eZ x=bN iX x:=rfl;omega
   have S2:=axj s2;clear hr hm s2 e4;obtain⟨K,hK⟩:=xq (k+bN iX (x.take j));have HK:=axj hK;rw[hK]at hk4 hR;have hK0:0<=K:=by omega
   rw[hK];clear hK;go_wp2_with fail
   refine(CF r (.slice P m pc) K wr hR (by omega) (by omega)).mono ?_;rintro e w1 ⟨rfl,x1⟩;have hQ:K+m_ r=k+bN iX (x.take (j+1)):=by have:=S2.out;have:=HK.out;omega
   have hX:=he.trans x1;clear c2;rw[hQ];clear hQ;have hp:0<=k+bN iX (x.take (j+1)):=by have:=jr iX (x.take (j+1));omega
   go_wp2_with fail
   go_roundw;case rel=>exact⟨j+1,by omega,rfl,by go_num,hX⟩
   case measure=>simp[intOf]<;>omega
  .obtain rfl:j=x.length:=by omega
   go_wp2;go_ret;rw[axE];exact⟨rfl,he⟩
section
variable {α : Type}
theorem OX.ex{E:EX α}{t:TypeId}{xs:List α}(h:OX E t w S A xs)(he:Ex w w'):OX E t w' S A xs:=h.keep λ_ _ hk=>he.block hk
structure jm (g s e:Nat) (T:Nat->Prop) (t:TypeId) (w w':World):Prop where
 size:w.heap.size<=w'.heap.size
 block:∀k,k<w.heap.size->k≠g->¬T k->w'.heap[k]?=w.heap[k]?
 row:∀cur,w.heap[g]?=some (.cells cur t (0,0))->∃cur':Array Value,w'.heap[g]?=some (.cells cur' t (0,0))/\∀q,(q<s∨e<=q)->cur'[q]?=cur[q]?
theorem jm.refl(g s e:Nat)(T:Nat->Prop)(t:TypeId)(w:World):jm g s e T t w w:=⟨axk _,λ_ _ _ _=>rfl,λcur h=>⟨cur,h,λ_ _=>rfl⟩⟩
theorem jm.sx{T U:Nat->Prop}{t:TypeId}{v:World}(h:jm g s e T t v w)(k:bG U w w')(hU:∀i,i<v.heap.size->U i->T i)(hg:¬U g)(hgl:g<v.heap.size):jm g s e T t v w':=
 ⟨axA h.size k.size,λi hi hn hd=>(k.block i (axD hi h.size) (λhu=>hd (hU i hi hu))).trans (h.block i hi hn hd),λcur hc=>by
  obtain⟨cur',h1,h2⟩:=h.row cur hc;exact⟨cur',(k.block g (axD hgl h.size) hg).trans h1,h2⟩⟩
theorem OX.row{E:EX α}{t:TypeId}{xs:List α}(h:OX E t w S A xs){x:α}(hi':xs[i]?=some x):
 ∃g off vs s cur,A=some ⟨g,off,none⟩/\S g/\w.heap[g]?=some (.cells cur t (0,0))/\(∀(q:Nat) (u:Value),vs[q]?=some u->w.cell? ⟨g,off+i*E.k+q,none⟩=some u)/\E.O w s vs x/\(∀k,s k->S k)/\¬s g/\
  ∀w' S' s' vs' x',jm g (off+i*E.k) (off+i*E.k+E.k) s t w w'->(∀(q:Nat) (u:Value),vs'[q]?=some u->w'.cell? ⟨g,off+i*E.k+q,none⟩=some u)->E.O w' s' vs' x'->(∀k,s' k->s k∨w.heap.size<=k)->(∀k,k<w.heap.size->S k->S' k)->(∀k,s' k->S' k)->OX E t w' S' A (xs.set i x'):=by
 have hlt:=(axp.1 hi').1;obtain⟨hl,s,k1,k2⟩:=h;obtain⟨g,off,vs,cur,hA,hg,hh,hc,ho,hs,hn⟩:=k1 i x hi';have hgl:=aF hh;refine⟨g,off,vs,s i,cur,hA,hg,hh,λq u hq=>dJ hh (hc q u hq),ho,hs,hn,λw' S' s' vs' x' T hc' ho' hnew hSS hs'=>?_⟩;refine⟨by simpa using hl,λj k=>if j=i then s' k else s j k/\k<w.heap.size,λj y hj=>?_,λa b k ha hb hne h1 h2=>?_⟩
 .obtain⟨cur',hh',hsame⟩:=T.row cur hh;rw[axK]at hj;split at hj
  .rename_i e;subst e;injection hj with hj;subst hj;refine⟨g,off,vs',cur',hA,hSS g hgl hg,hh',λq u hq=>?_,?_,?_,?_⟩
   .have:=hc' q u hq;simpa[World.cell?,hh']using this
   .simp only[axl];exact ho'
   .intro k hk;simp only[axl]at hk;exact hs' k hk
   .simp only[axl];intro hk;rcases hnew g hk with h1|h1
    .exact hn h1
    .omega
  .rename_i e;have hjl:=(axp.1 hj).1;have e':¬j=i:=λh=>e h.symm
   obtain⟨g2,off2,vs2,adE,hA2,_,Dj,hc2,ho2,hs2,hn2⟩:=k1 j y hj;rw[hA]at hA2;injection hA2 with hA2;injection hA2 with e1 e2 _;subst e1 e2;rw[hh]at Dj;injection Dj with Dj;injection Dj with Dj _ _;subst Dj;have hlen:=E.mM ho2;refine⟨g,off,vs2,cur',hA,hSS g hgl hg,hh',λq u hq=>?_,?_,?_,?_⟩
   .have hql:q<E.k:=by rw[<-hlen];exact(axp.1 hq).1
    rw[hsame _ ?_]
    .exact hc2 q u hq
    .rcases Nat.lt_or_gt_of_ne e with h|h
     .right;have:=ayk E.k (show i+1<=j from h);rw[ayu,ayU]at this;omega
     .left;have:=ayk E.k (show j+1<=i from h);rw[ayu,ayU]at this;omega
   .simp only[axm e'];exact E.keep (E.mono ho2 (λk hk h=>⟨h,hk⟩)) λk hk hkl=>T.block k hkl (λe3=>hn2 (e3▸hk.1)) (λhsi=>k2 i j k hlt hjl e hsi hk.1)
   .intro k hk;simp only[axm e']at hk;exact hSS k hk.2 (hs2 k hk.1)
   .simp only[axm e'];exact λhk=>hn2 hk.1
 .simp only[axM]at ha hb;by_cases ea:a=i
  .have eb:¬b=i:=λe=>hne (ea.trans e.symm)
   simp only[axl ea]at h1;simp only[axm eb]at h2;rcases hnew k h1 with h3|h3
   .exact k2 i b k hlt hb (λe=>eb e.symm) h3 h2.1
   .omega
  .simp only[axm ea]at h1;by_cases eb:b=i
   .simp only[axl eb]at h2;rcases hnew k h2 with h3|h3
    .exact k2 i a k hlt ha (λe=>ea e.symm) h3 h1.1
    .omega
   .simp only[axm eb]at h2;exact k2 a b k ha hb hne h1.1 h2.1
end
section
variable {α : Type}
theorem OFF.ex(h:OFF w a b v x)(he:Ex w w'):OFF w' a b v x:=by obtain⟨⟨A,c,S,e,hS,h⟩,ht⟩:=h;exact⟨⟨A,c,S,e,hS,h.ex he⟩,ht⟩
theorem OFF.iv{a' b':Nat}(h:OFF w a b v x)(k:jE a' b' w w')(hd:b<=a'∨b'<=a):OFF w' a b v x:=by obtain⟨⟨A,c,S,e,hS,h⟩,ht⟩:=h;exact⟨⟨A,c,S,e,hS,h.keep λi hi hk=>k.block i hk (by have:=hS i hi;omega)⟩,ht⟩
theorem EI(S:Nat->Prop)(x:List Int)(v:Value)(k:Int)(w:World)(h:XI w S v x)(hk0:0<=k)(hk:k+ku x<=4611686018427387904):
 Calls prog 96 #[v,.int .i64 k] w λe w'=>e=.returned (.int .i64 (k+ku x))/\XI w' S v (Vs k x)/\bG S w w':=by
 obtain⟨A,c,rfl,hf,hS⟩:=h;obtain⟨a,b,ho,hb,hin⟩:∃a b,OI w a b (.slice A x.length c) x/\b<=w.heap.size/\∀k,a<=k->k<b->S k:=by
  cases A with
  |none=>exact⟨0,0,⟨none,c,rfl,⟨hf.1,hf.2.1,λa e=>by cases e⟩,λa e=>by cases e⟩,axq _,λk _ h=>by omega⟩
  |some p=>
   obtain⟨_,cur,h2⟩:=hf.2.2 p rfl;exact⟨p.block,p.block+1,⟨_,_,rfl,⟨hf.1,hf.2.1,λa e=>by injection e with e;subst e;exact⟨axk _,cur,h2⟩⟩,λa e=>by injection e with e;subst e;exact ayf _⟩,aF h2,λk h1 h2=>by
    obtain rfl:k=p.block:=by omega
    exact hS p rfl⟩
 refine(QG a b x _ k w ho hb hk0 hk).mono ?_;rintro e w' ⟨rfl,ho',hI⟩;refine⟨rfl,?_,(bG.afJ hI).widen λi _ h=>hin i h.1 h.2⟩;obtain⟨A',c',e,hf',hS'⟩:=ho'.xi;exact⟨A',c',e,hf',λad ea=>hin _ (hS' ad ea).1 (hS' ad ea).2⟩
theorem Cj(S:Nat->Prop)(x:List aG)(A:Option Addr)(c:Nat)(k:Int)(w:World)(h:OX Jf 57 w S A x)(hk0:0<=k)(hk:k+m_ x<=4611686018427387904):
 Calls prog 58 #[.slice A x.length c,.int .i64 k] w λe w'=>e=.returned (.int .i64 (k+m_ x))/\OX Jf 57 w' S A (mkF k x)/\bG S w w':=by
 have hl:=h.1;go_enter Tryz.func58,Tryz.ntmps58
 go_wp2;go_loopw [1,5] (λq i wr=>∃j:Nat,j<=x.length/\q=.int .i64 (k+bN EF (x.take j))/\i=.int .i64 j/\OX Jf 57 wr S A ((mkS EF k x).take j++x.drop j)/\bG S w wr) (λ_ i _=>x.length-(intOf i).toNat)
 case atStart=>exact⟨0,axq _,by simp[bN],rfl,by simpa using h,bG.refl _ _⟩
 case round=>
  obtain⟨j,hj,rfl,rfl,hf,he⟩:=hrel;by_cases hlt:j<x.length
  .obtain⟨r,hr⟩:∃r,x[j]?=some r:=⟨_,axn hlt⟩;have hml:((mkS EF k x).take j).length=j:=by rw[axx,gL];omega
   have hr2:((mkS EF k x).take j++x.drop j)[j]?=some r:=by rw[axN (by omega),hml,ayd,axY];simpa using hr
   obtain⟨g,off,vs,s,cur,rfl,hgS,hh,hc,⟨v0,v1,rfl,ho⟩,hsS,hsg,hset⟩:=hf.row hr2;obtain⟨t0,t1,m0,m1,i0,i1,i2⟩:=ho;obtain⟨P,pc,rfl,f0⟩:=m0;obtain⟨Q,qc,rfl,f1⟩:=m1;have m0:XI wr t0 (.slice P r.n.length pc) r.n:=⟨P,pc,rfl,f0⟩;have m1:XI wr t1 (.slice Q r.d.length qc) r.d:=⟨Q,qc,rfl,f1⟩;clear f0 f1;have s1:=jr EF (x.take j);have s2:=gZ EF hr;have s3:=jq EF x (j+1);have e4:EF.tot r=ku r.n+ku r.d:=rfl;have n0:=lU r.n;have n1:=lU r.d;rw[e4]at s2;have HS:=axj (ED EF k x j r hr);have S2:=axj s2;have c2:=hc 0 _ rfl;have c3:=hc 1 _ rfl;simp only[show Jf.k=2 from rfl,ayb]at c2 c3 hset;have hgl:=aF hh;have hsz:=he.size;have hk4:k+bN EF (x.take j)+(ku r.n+ku r.d)<=4611686018427387904:=by have:m_ x=bN EF x:=rfl;omega
   clear hr hr2 s2 hml hc hh e4;obtain⟨K,hK⟩:=xq (k+bN EF (x.take j));have HK:=axj hK;rw[hK]at hk4;have hK0:0<=K:=by omega
   rw[hK];clear hK;have T0:=jm.refl g (off+j*2) (off+j*2+2) s 57 wr;have hg0:¬t0 g:=λh=>hsg (i0 g h)
   have hg1:¬t1 g:=λh=>hsg (i1 g h)
   go_wp2_with fail
   refine(EI t0 r.n (.slice P r.n.length pc) K wr m0 (by omega) (by omega)).mono ?_;rintro e w1 ⟨rfl,mm0,I1⟩;have s1':=I1.size;have mm1:=m1.keep λi hi hk=>I1.block i hk (λh=>i2 i h hi)
   replace c2:=(axP (w:=wr) (a:=⟨g,off+j*2,none⟩) (I1.block g hgl hg0)).trans c2;replace c3:=(axP (w:=wr) (a:=⟨g,off+j*2+1,none⟩) (I1.block g hgl hg0)).trans c3;have T1:=T0.sx I1 (λi _ h=>i0 i h) hg0 hgl;clear m0 m1 T0;go_wp2_with fail
   refine(EI t1 r.d (.slice Q r.d.length qc) (K+ku r.n) w1 mm1 (by omega) (by omega)).mono ?_;rintro e w2 ⟨rfl,mm2,I2⟩;have Fa:=axD hgl s1';have mm3:=mm0.keep λi hi hk=>I2.block i hk (λh=>i2 i hi h)
   replace c2:=(axP (w:=w1) (a:=⟨g,off+j*2,none⟩) (I2.block g Fa hg1)).trans c2;replace c3:=(axP (w:=w1) (a:=⟨g,off+j*2+1,none⟩) (I2.block g Fa hg1)).trans c3;have T2:=T1.sx I2 (λi _ h=>i1 i h) hg1 hgl;have C:∀(q:Nat) (u:Value),[(.slice P r.n.length pc),(.slice Q r.d.length qc)][q]?=some u->w2.cell? ⟨g,off+j*2+q,none⟩=some u:=by
    intro q u hq;rcases q with _|_|q
    .injection hq with hq;subst hq;exact c2
    .injection hq with hq;subst hq;exact c3
    .simp at hq
   have hf':=hset w2 S s _ (EF.KZ K r) T2 C ⟨_,_,rfl,t0,t1,mm3,mm2,i0,i1,i2⟩ (λk h=> .inl h) (λk _ h=>h) hsS;have HS':=HS.out;rw[HK.out]at HS';rw[HS']at hf';have hX:=(he.trans (I1.widen (T:=S) λi _ h=>hsS i (i0 i h)) (λ_ _ h=>h)).trans (I2.widen (T:=S) λi _ h=>hsS i (i1 i h)) (λ_ _ h=>h);have hQ:K+ku r.n+ku r.d=k+bN EF (x.take (j+1)):=by have:=S2.out;have:=HK.out;omega
   clear C T1 T2 c2 c3 mm0 mm1 mm2 mm3 hset hf HS';rw[hQ];clear hQ;go_wp2_with fail
   go_roundw;case rel=>exact⟨j+1,by omega,rfl,by go_num,hf',hX⟩
   case measure=>simp[intOf]<;>omega
  .obtain rfl:j=x.length:=by omega
   go_wp2;go_ret;rw[azm,ax8,axG (by rw[gL];exact axk _)]at hf;rw[axE];exact⟨rfl,hf,he⟩
theorem AY(S:Nat->Prop)(x:List (List aG))(A:Option Addr)(c:Nat)(k:Int)(w:World)(h:OX Sv 54 w S A x)(hk0:0<=k)(hk:k+eZ x<=4611686018427387904):
 Calls prog 28 #[.slice A x.length c,.int .i64 k] w λe w'=>e=.returned (.int .i64 (k+eZ x))/\OX Sv 54 w' S A (GI k x)/\bG S w w':=by
 have hl:=h.1;go_enter Tryz.func28,Tryz.ntmps28
 go_wp2;go_loopw [1,5] (λq i wr=>∃j:Nat,j<=x.length/\q=.int .i64 (k+bN iX (x.take j))/\i=.int .i64 j/\OX Sv 54 wr S A ((mkS iX k x).take j++x.drop j)/\bG S w wr) (λ_ i _=>x.length-(intOf i).toNat)
 case atStart=>exact⟨0,axq _,by simp[bN],rfl,by simpa using h,bG.refl _ _⟩
 case round=>
  obtain⟨j,hj,rfl,rfl,hf,he⟩:=hrel;by_cases hlt:j<x.length
  .obtain⟨r,hr⟩:∃r,x[j]?=some r:=⟨_,axn hlt⟩;have hml:((mkS iX k x).take j).length=j:=by rw[axx,gL];omega
   have hr2:((mkS iX k x).take j++x.drop j)[j]?=some r:=by rw[axN (by omega),hml,ayd,axY];simpa using hr
   obtain⟨g,off,vs,s,cur,rfl,hgS,hh,hc,⟨P,pc,rfl,hpc,ho⟩,hsS,hsg,hset⟩:=hf.row hr2;have s1:=jr iX (x.take j);have s2:=gZ iX hr;have s3:=jq iX x (j+1);have e4:iX.tot r=m_ r:=rfl;have n0:=Jo r;rw[e4]at s2;have HS:=axj (ED iX k x j r hr);have S2:=axj s2;have c2:=hc 0 _ rfl;simp only[show Sv.k=1 from rfl,ayb,ays]at c2 hset;have hgl:=aF hh;have hsz:=he.size;have hk4:k+bN iX (x.take j)+m_ r<=4611686018427387904:=by have:eZ x=bN iX x:=rfl;omega
   clear hr hr2 s2 hml hc hh e4;obtain⟨K,hK⟩:=xq (k+bN iX (x.take j));have HK:=axj hK;rw[hK]at hk4;have hK0:0<=K:=by omega
   rw[hK];clear hK;have T0:=jm.refl g (off+j) (off+j+1) s 54 wr;go_wp2_with fail
   refine(Cj s r P pc K wr ho (by omega) (by omega)).mono ?_;rintro e w1 ⟨rfl,mm0,I1⟩;replace c2:=(axP (w:=wr) (a:=⟨g,off+j,none⟩) (I1.block g hgl hsg)).trans c2;have T1:=T0.sx I1 (λi _ h=>h) hsg hgl;have C:∀(q:Nat) (u:Value),[(Value.slice P r.length pc)][q]?=some u->w1.cell? ⟨g,off+j+q,none⟩=some u:=by
    intro q u hq;rcases q with _|q
    .injection hq with hq;subst hq;exact c2
    .simp at hq
   have hml:(mkF K r).length=r.length:=gL EF K r;have hf':=hset w1 S s _ (iX.KZ K r) T1 C ⟨P,pc,by rw[show iX.KZ K r=mkF K r from rfl,hml],by rw[show iX.KZ K r=mkF K r from rfl,hml];exact hpc,mm0⟩ (λk h=> .inl h) (λk _ h=>h) hsS;have HS':=HS.out;rw[HK.out]at HS';rw[HS']at hf';have hX:=he.trans (I1.widen (T:=S) λi _ h=>hsS i h) (λ_ _ h=>h);have hQ:K+m_ r=k+bN iX (x.take (j+1)):=by have:=S2.out;have:=HK.out;omega
   clear C T1 c2 mm0 hset hf HS' hml;rw[hQ];clear hQ;go_wp2_with fail
   go_roundw;case rel=>exact⟨j+1,by omega,rfl,by go_num,hf',hX⟩
   case measure=>simp[intOf]<;>omega
  .obtain rfl:j=x.length:=by omega
   go_wp2;go_ret;rw[azm,ax8,axG (by rw[gL];exact axk _)]at hf;rw[axE];exact⟨rfl,hf,he⟩
theorem AZ(lo hi:Nat)(x:List (List aG))(v:Value)(k:Int)(w:World)(h:OFF w lo hi v x)(_:hi<=w.heap.size)(hk0:0<=k)(hk:k+eZ x<=4611686018427387904):
 Calls prog 28 #[v,.int .i64 k] w λe w'=>e=.returned (.int .i64 (k+eZ x))/\OFF w' lo hi v (GI k x)/\jE lo hi w w':=by
 obtain⟨⟨A,c,S,rfl,hS,h⟩,ht⟩:=h;refine(AY S x A c k w h hk0 hk).mono ?_;rintro e w' ⟨rfl,m,z⟩;refine⟨rfl,⟨⟨A,c,S,by rw[GI,gL],hS,m⟩,?_⟩,z.exi hS⟩;have:eZ (GI k x)=eZ x:=CX iX k x;omega
end
def kL(x:iK):Int:=eZ x.b
def QA(k:Int)(x:iK):iK:=⟨x.l,x.r,GI (k) x.b⟩
theorem P6(x:iK):0<=kL x:=by unfold kL;have h0:=DN x.b;omega
theorem rE.ex{x:iK}(h:rE w v0 x)(he:Ex w w'):rE w' v0 x:=Le.ex h he
theorem rE.tot{x:iK}(h:rE w v0 x):kL x<=1125899906842624:=Le.tot h
theorem rE.form{x:iK}(h:rE w v0 x):∃A0 n0 c0,v0=.slice A0 n0 c0:=by have h0:Le w v0 _:=h;obtain⟨A0,n0,c0,e0⟩:=h0.form;exact⟨A0,n0,c0,e0⟩
theorem oG.ex{x:iK}(h:oG w lo hi v0 x)(he:Ex w w'):oG w' lo hi v0 x:=by obtain⟨a0,b0,m0,c0,c1⟩:=h;exact⟨a0,b0,m0.ex he,c0,c1⟩
theorem oG.iv{x:iK}(h:oG w lo hi v0 x)(q:jE a b w w')(hd:hi<=a∨b<=lo):oG w' lo hi v0 x:=by obtain⟨a0,b0,m0,c0,c1⟩:=h;exact⟨a0,b0,m0.iv q (by omega),c0,c1⟩
theorem mO(x:iK)(v0 u0:Value)(w:World)(h:rE w v0 x)(h':rE w u0 x):
 Calls prog 10 #[.agg #[.int .i64 x.l,.int .i64 x.r,v0],.agg #[.int .i64 x.l,.int .i64 x.r,u0]] w λe w'=>e=.returned (.bool true)/\Ex w w':=by
 obtain⟨l,r,x0⟩:=x;have h0:Le w v0 _:=h;have g0:Le w u0 _:=h';dsimp only at h0 g0⊢;obtain⟨x1,d1⟩:=VB.xn w 28 #[.int .i64 l,.int .i64 r,v0];have S1:=axj (show(w.alloc (.cells #[.int .i64 l,.int .i64 r,v0] 28)).heap.size=w.heap.size+1 by simp);go_enter Tryz.func10,Tryz.ntmps10
 go_wp2_with fail
 generalize w.alloc (.cells #[.int .i64 l,.int .i64 r,v0] 28)=W1 at*;obtain⟨y2,d2⟩:=VB.xn W1 28 #[.int .i64 l,.int .i64 r,u0];rw[S1.out]at d2;generalize W1.alloc (.cells #[.int .i64 l,.int .i64 r,u0] 28)=V0 at*;have xx:=x1.trans y2;have dA:=d1.ex y2;have dB:=d2;clear x1 d1 d2 y2 S1;refine(FE x0 v0 u0 V0 (h0.ex xx) (g0.ex xx)).mono ?_;rintro e V1 ⟨rfl,z0⟩;replace dA:=dA.ex z0;replace dB:=dB.ex z0;replace xx:=xx.trans z0;go_wp2;go_ret;exact⟨rfl,xx⟩
theorem yS(lo hi:Nat)(x:iK)(v0:Value)(k:Int)(w:World)(h:oG w lo hi v0 x)(hb:hi<=w.heap.size)(hk0:0<=k)(hk:k+kL x<=4611686018427387904):
 Calls prog 13 #[.agg #[.int .i64 x.l,.int .i64 x.r,v0],.int .i64 k] w λe w'=>e=.returned (.int .i64 (k+kL x))/\oG w' lo hi v0 (QA k x)/\jE lo hi w w':=by
 obtain⟨l,r,x0⟩:=x;obtain⟨a0,b0,m0,c0,c1⟩:=h;dsimp only at m0⊢;have t0:=DN x0;have ek:k+kL ⟨l,r,x0⟩=k+eZ x0:=by simp only[kL]
 rw[ek]at hk⊢;clear ek;obtain⟨xe,d0⟩:=VB.xn w 28 #[.int .i64 l,.int .i64 r,v0];have dl:=d0.lt;go_enter Tryz.func13,Tryz.ntmps13
 go_wp2_with fail
 generalize w.alloc (.cells #[.int .i64 l,.int .i64 r,v0] 28)=W0 at*;replace m0:=m0.ex xe;have zz:=xe.size;have ee:=jE.aP (a:=lo) (b:=hi) xe;clear xe;refine(AZ a0 b0 x0 v0 (k) W0 m0 (by omega) (by omega) (by omega)).mono ?_;clear m0;rintro e u0 ⟨rfl,m0,z0⟩;replace d0:=d0.iv z0 (by omega);replace ee:=ee.trans (z0.widen (by omega) (by omega));replace zz:=axA zz z0.size;clear z0;go_wp2;go_ret;exact⟨rfl,⟨a0,b0,m0,c0,c1⟩,ee⟩
theorem oZ(x:iK)(v0:Value)(k:Int)(w:World)(h:rE w v0 (QA k x))(hk0:0<=k)(hk:k+kL x<=4611686018427387904):
 Calls prog 14 #[.agg #[.int .i64 x.l,.int .i64 x.r,v0],.int .i64 k] w λe w'=>e=.returned (.int .i64 (k+kL x))/\Ex w w':=by
 obtain⟨l,r,x0⟩:=x;have h0:Le w v0 _:=h;dsimp only[QA]at h0⊢;have t0:=DN x0;have ek:k+kL ⟨l,r,x0⟩=k+eZ x0:=by simp only[kL]
 rw[ek]at hk⊢;clear ek;obtain⟨xe,d0⟩:=VB.xn w 28 #[.int .i64 l,.int .i64 r,v0];go_enter Tryz.func14,Tryz.ntmps14
 go_wp2_with fail
 generalize w.alloc (.cells #[.int .i64 l,.int .i64 r,v0] 28)=W0 at*;refine(Bd x0 v0 (k) W0 (h0.ex xe) (by omega) (by omega)).mono ?_;rintro e u0 ⟨rfl,z0⟩;replace d0:=d0.ex z0;replace xe:=xe.trans z0;go_wp2;go_ret;exact⟨rfl,xe⟩
def am6(k:Int)(x:Tm):Tm:=⟨mkN (k) x.ns⟩
theorem QF(lo hi:Nat)(x:Tm)(v0:Value)(k:Int)(w:World)(h:OTm w lo hi v0 x)(hb:hi<=w.heap.size)(hk0:0<=k)(hk:k+DK x<=4611686018427387904):
 Calls prog 12 #[.agg #[v0],.int .i64 k] w λe w'=>e=.returned (.int .i64 (k+DK x))/\OTm w' lo hi v0 (am6 k x)/\jE lo hi w w':=by
 obtain⟨x0⟩:=x;obtain⟨a0,b0,m0,c0,c1⟩:=h;dsimp only at m0⊢;have t0:=SI x0;have ek:k+DK ⟨x0⟩=k+P7 x0:=by simp only[DK]
 rw[ek]at hk⊢;clear ek;obtain⟨xe,d0⟩:=VB.xn w 33 #[v0];have dl:=d0.lt;go_enter Tryz.func12,Tryz.ntmps12
 go_wp2_with fail
 generalize w.alloc (.cells #[v0] 33)=W0 at*;replace m0:=m0.ex xe;have zz:=xe.size;have ee:=jE.aP (a:=lo) (b:=hi) xe;clear xe;refine(Np a0 b0 x0 v0 (k) W0 m0 (by omega) (by omega) (by omega)).mono ?_;clear m0;rintro e u0 ⟨rfl,m0,z0⟩;replace d0:=d0.iv z0 (by omega);replace ee:=ee.trans (z0.widen (by omega) (by omega));replace zz:=axA zz z0.size;clear z0;go_wp2;go_ret;exact⟨rfl,⟨a0,b0,m0,c0,c1⟩,ee⟩
section
section
variable {p : Int} {hF : av p = true} {l : List Nd}
end
theorem xk(p:Int)(x:Tm)(v0:Value)(w:World)(h:CP w v0 x):
 Calls prog 7 #[.int .i64 p,.agg #[v0]] w λe w'=>∃y0,e=.returned (.tuple #[.agg #[.int .i64 (bF p x).1.l,.int .i64 (bF p x).1.r,y0],.bool (bF p x).2])/\rE w' y0 (bF p x).1/\Ex w w':=by
 refine(iH p x v0 w h).mono ?_;rintro e w' ⟨y0,rfl,h,x⟩;exact⟨y0,rfl,h.1,x⟩
end
end Go.Proofs.YthgiffhlfcmgaaaGreatDoor
