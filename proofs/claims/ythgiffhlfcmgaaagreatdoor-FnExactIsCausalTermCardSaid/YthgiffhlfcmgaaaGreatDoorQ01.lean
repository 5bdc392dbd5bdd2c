/- Lemmas and walks on terms over rational functions: Linear algebra over a field, no program in .. -/
import Derived.Test.YthgiffhlfcmgaaaGreatDoorQ00
import Derived.RegionCalls
import Derived.Deep.RegionWith
import Derived.Deep.RegionHeld3
import Derived.Defers
import Derived.Recover
import Derived.Laws.Pointers
import Derived.Lib.SliceRun
import Derived.Deep.AppendLies
import Derived.Lib.SlBytesRow
import Derived.Laws.Concat
namespace Go.Proofs.YthgiffhlfcmgaaaGreatDoor
open List(replicate)
open Tryz(prog)
set_option maxRecDepth 100000
set_option maxHeartbeats 8000000
set_option linter.all false
variable{p:Int}{D N d den f g h m num xs:List Int}{P:List Nat}{B H a a' b b' bytes c hi i j k lo n r s:Nat}{u:Nat->Int}{S T:Nat->Prop}{A:Option Addr}{K:Type}{v v0 v1 z:Value}{w w':World}
structure Ops (K:Type) where
 add:K->K->K
 mul:K->K->K
 neg:K->K
 inv:K->K
 z:K
 o:K
 kZ:K->Bool
structure aJ (K:Type) extends Ops K where
 add_comm:∀a b,add a b=add b a
 add_assoc:∀a b c,add (add a b) c=add a (add b c)
 bB:∀a,add z a=a
 neg_add:∀a,add (neg a) a=z
 mul_comm:∀a b,mul a b=mul b a
 mul_assoc:∀a b c,mul (mul a b) c=mul a (mul b c)
 bE:∀a,mul o a=a
 distrib:∀a b c,mul a (add b c)=add (mul a b) (mul a c)
 inv_mul:∀a,a≠z->mul (inv a) a=o
 Qw:o≠z
 iI:∀a,kZ a=true↔a=z
theorem aJ.dP(F:aJ K)(a:K):F.add a F.z=a:=by rw[F.add_comm,F.bB]
theorem aJ.add_neg(F:aJ K)(a:K):F.add a (F.neg a)=F.z:=by rw[F.add_comm,F.neg_add]
theorem aJ.cancel(F:aJ K){a b c:K}(h:F.add a b=F.add a c):b=c:=by have:=congrArg (F.add (F.neg a)) h;rwa[<-F.add_assoc,<-F.add_assoc,F.neg_add,F.bB,F.bB]at this
theorem aJ.aS(F:aJ K)(a:K):F.mul a F.z=F.z:=by refine F.cancel (a:=F.mul a F.z) ?_;rw[<-F.distrib,F.bB,F.dP]
theorem aJ.gP(F:aJ K)(a:K):F.mul F.z a=F.z:=by rw[F.mul_comm,F.aS]
theorem aJ.gK(F:aJ K)(a:K):F.mul a F.o=a:=by rw[F.mul_comm,F.bE]
theorem aJ.lT(F:aJ K)(a b c:K):F.mul (F.add a b) c=F.add (F.mul a c) (F.mul b c):=by rw[F.mul_comm,F.distrib,F.mul_comm c,F.mul_comm c]
theorem aJ.nY(F:aJ K){a b:K}(h:F.add a b=F.z):a=F.neg b:=by refine F.cancel (a:=b) ?_;rw[F.add_comm b a,h,F.add_neg]
theorem aJ.neg_mul(F:aJ K)(a b:K):F.mul (F.neg a) b=F.neg (F.mul a b):=by refine F.nY ?_;rw[<-F.lT,F.neg_add,F.gP]
theorem aJ.aiK(F:aJ K):F.neg F.z=F.z:=(F.nY (F.bB F.z)).symm
theorem aJ.neg_neg(F:aJ K)(a:K):F.neg (F.neg a)=a:=(F.nY (F.add_neg a)).symm
theorem aJ.TF(F:aJ K){a:K}(h:a≠F.z):F.mul a (F.inv a)=F.o:=by rw[F.mul_comm,F.inv_mul a h]
theorem aJ.XP(F:aJ K)(a b c d:K):F.add (F.add a b) (F.add c d)=F.add (F.add a c) (F.add b d):=by rw[F.add_assoc,F.add_assoc,<-F.add_assoc b,F.add_comm b c,F.add_assoc c]
def aJ.va{K:Type}(F:aJ K)(u v:Nat->K):Nat->K:=λj=>F.add (u j) (v j)
def aJ.vs{K:Type}(F:aJ K)(c:K)(v:Nat->K):Nat->K:=λj=>F.mul c (v j)
def aJ.vz{K:Type}(F:aJ K):Nat->K:=λ_=>F.z
theorem aJ.xZ(F:aJ K)(u v w:Nat->K):F.va (F.va u v) w=F.va u (F.va v w):=funext λ_=>F.add_assoc _ _ _
theorem aJ.abV(F:aJ K)(u v:Nat->K):F.va u v=F.va v u:=funext λ_=>F.add_comm _ _
theorem aJ.ail(F:aJ K)(u:Nat->K):F.va u F.vz=u:=funext λ_=>F.dP _
theorem aJ.amn(F:aJ K)(u:Nat->K):F.va F.vz u=u:=funext λ_=>F.bB _
theorem aJ.afc(F:aJ K)(u:Nat->K):F.vs F.o u=u:=funext λ_=>F.bE _
theorem aJ.amo(F:aJ K)(c:K):F.vs c F.vz=F.vz:=funext λ_=>F.aS _
theorem aJ.amq(F:aJ K)(c:K)(u v:Nat->K):F.vs c (F.va u v)=F.va (F.vs c u) (F.vs c v):=funext λ_=>F.distrib _ _ _
theorem aJ.XA(F:aJ K)(c d:K)(u:Nat->K):F.vs c (F.vs d u)=F.vs (F.mul c d) u:=funext λ_=>(F.mul_assoc _ _ _).symm
def Sp{K:Type}(F:aJ K)(R:List (Nat->K))(v:Nat->K):Prop:=∀S:(Nat->K)->Prop,S F.vz->(∀u,S u->∀r∈R,∀c,S (F.va u (F.vs c r)))->S v
theorem Sp.zero(F:aJ K)(R:List (Nat->K)):Sp F R F.vz:=λ_ h _=>h
theorem Sp.step{F:aJ K}{R:List (Nat->K)}{u:Nat->K}(h:Sp F R u){r:Nat->K}(hr:r∈R)(c:K):Sp F R (F.va u (F.vs c r)):=λS h0 h1=>h1 u (h S h0 h1) r hr c
theorem Sp.add{F:aJ K}{R:List (Nat->K)}{u v:Nat->K}(h:Sp F R u)(k:Sp F R v):Sp F R (F.va u v):=
 k (λx=>Sp F R (F.va u x)) (by rw[F.ail];exact h) λx hx r hr c=>by rw[<-F.xZ];exact hx.step hr c
theorem Sp.smul{F:aJ K}{R:List (Nat->K)}{u:Nat->K}(h:Sp F R u)(c:K):Sp F R (F.vs c u):=
 h (λx=>Sp F R (F.vs c x)) (by rw[F.amo];exact Sp.zero F R) λx hx r hr d=>by rw[F.amq,F.XA];exact hx.step hr _
theorem Sp.mem{F:aJ K}{R:List (Nat->K)}{r:Nat->K}(h:r∈R):Sp F R r:=by have:=(Sp.zero F R).step h F.o;rwa[F.amn,F.afc]at this
theorem Sp.mono{F:aJ K}{R R':List (Nat->K)}(h:∀r∈R,Sp F R' r){v:Nat->K}(hv:Sp F R v):Sp F R' v:=
 hv (Sp F R') (Sp.zero F R') λ_ hu r hr c=>hu.add ((h r hr).smul c)
theorem Sp.sub{F:aJ K}{R R':List (Nat->K)}(h:∀r∈R,r∈R'){v:Nat->K}(hv:Sp F R v):Sp F R' v:=hv.mono λr hr=>Sp.mem (h r hr)
theorem Sp.nil{F:aJ K}{v:Nat->K}(h:Sp F [] v):v=F.vz:=h (λx=>x=F.vz) rfl λ_ _ r hr=>by simp at hr
theorem Sp.ind{F:aJ K}{R:List (Nat->K)}{v:Nat->K}(h:Sp F R v)(j:Nat)(hz:∀r∈R,r j=F.z):v j=F.z:=
 h (λx=>x j=F.z) rfl λu hu r hr c=>by show F.add (u j) (F.mul c (r j))=F.z;rw[hu,hz r hr,F.aS,F.bB]
def DU{K:Type}(F:aJ K)(l:List ((Nat->K)×Nat))(v:Nat->K):Nat->K:=λj=>l.foldr (λq s=>F.add (F.mul (v q.2) (q.1 j)) s) F.z
theorem lu(F:aJ K)(q:(Nat->K)×Nat)(l:List ((Nat->K)×Nat))(v:Nat->K)(j:Nat):DU F (q::l) v j=F.add (F.mul (v q.2) (q.1 j)) (DU F l v j):=rfl
theorem jv(F:aJ K)(j:Nat)(v:Nat->K):∀(l:List ((Nat->K)×Nat)),(∀q∈l,v q.2=F.z∨q.1 j=F.z)->DU F l v j=F.z
 |[],_=>rfl
 |q::l,h=>by
  rw[lu,jv F j v l (λx hx=>h x (by simp[hx])),F.dP];rcases h q (by simp)with e|e
  .rw[e,F.gP]
  .rw[e,F.aS]
theorem Ap(F:aJ K)(u r:Nat->K)(c:K)(j:Nat):∀(l:List ((Nat->K)×Nat)),DU F l (F.va u (F.vs c r)) j=F.add (DU F l u j) (F.mul c (DU F l r j))
 |[]=>by show F.z=F.add F.z (F.mul c F.z);rw[F.aS,F.bB]
 |q::l=>by rw[lu,lu,lu,Ap F u r c j l];show F.add (F.mul (F.add (u q.2) (F.mul c (r q.2))) (q.1 j)) _=_;rw[F.lT,F.distrib,F.mul_assoc,F.XP]
theorem LM(F:aJ K)(v:Nat->K):∀(l:List ((Nat->K)×Nat)) (i:Nat) (p:Nat),l[i]?=some (v,p)->v p=F.o->(∀(i':Nat) (q:(Nat->K)×Nat),l[i']?=some q->i'≠i->v q.2=F.z)->∀j,DU F l v j=v j
 |[],i,p,h,_,_,_=>by simp at h
 |q::l,0,p,h,h1,h0,j=>by
  obtain rfl:q=(v,p):=by simpa using h
  rw[lu,h1,F.bE,jv F j v l (λx hx=>?_),F.dP];obtain⟨i,hi⟩:=axz hx;exact .inl (h0 (i+1) x (by simpa using hi) (by omega))
 |q::l,i+1,p,h,h1,h0,j=>by rw[lu,h0 0 q rfl (by omega),F.gP,F.bB];exact LM F v l i p (by simpa using h) h1 (λi' x hx hne=>h0 (i'+1) x (by simpa using hx) (by omega)) j
def Ops.el{K:Type}(O:Ops K)(v:List K)(j:Nat):K:=v.getD j O.z
theorem Ops.agT(O:Ops K){u v:List K}(hl:u.length=v.length)(h:∀j,O.el u j=O.el v j):u=v:=by
 refine azy hl λj h1 h2=>?_
 have:=h j;rwa[Ops.el,Ops.el,axt,axt,axn h1,axn h2]at this
theorem Ops.dS(O:Ops K){v:List K}(h:v.length<=j):O.el v j=O.z:=by rw[Ops.el,axt,ax2 h];rfl
theorem Ops.dD(O:Ops K){v:List K}{x:K}(h:v[j]?=some x):O.el v j=x:=by rw[Ops.el,axt,h];rfl
def Ops.fn{K:Type}(O:Ops K)(v:List K):Nat->K:=λj=>O.el v j
def Ops.fns{K:Type}(O:Ops K)(rows:List (List K)):List (Nat->K):=rows.map O.fn
def Ops.less{K:Type}(O:Ops K)(v:List K)(k:K)(w:List K):List K:=List.zipWith (λx y=>O.add x (O.mul (O.neg k) y)) v w
def Ops.oJ{K:Type}(O:Ops K)(v:List K)(c:Nat):List K:=v.map λx=>O.mul (O.inv (O.el v c)) x
def lq{K:Type}(rows:List (List K))(i k:Nat):List (List K):=(rows.set i (rows.getD k [])).set k (rows.getD i [])
def Ops.uP{K:Type}(O:Ops K)(rows:List (List K))(r c:Nat):Nat:=r+(rows.drop r).findIdx λrow=> !O.kZ (O.el row c)
def Ops.Gt{K:Type}(O:Ops K)(r c:Nat)(lead:List K)(i:Nat)(v:List K):List K:=if i=r then lead else if O.kZ (O.el v c)then v else O.less v (O.el v c) lead
def Ops.piv{K:Type}(O:Ops K)(rows:List (List K))(r c k:Nat):List (List K):=(lq rows r k).mapIdx (O.Gt r c (O.oJ (rows.getD k []) c))
def Ops.red{K:Type}(O:Ops K):Nat->Nat->Nat->List (List K)->List (List K)×Nat
 |0,_,r,rows=>(rows,r)
 |m+1,c,r,rows=>if O.uP rows r c<rows.length then Ops.red O m (c+1) (r+1) (O.piv rows r c (O.uP rows r c))else Ops.red O m (c+1) r rows
def Ops.aC{K:Type}(O:Ops K)(n:Nat)(rows:List (List K)):List (List K):=(O.red n 0 0 rows).1.take (O.red n 0 0 rows).2
theorem yo(rows:List (List K))(i k:Nat):(lq rows i k).length=rows.length:=by simp[lq]
theorem eH(O:Ops K)(rows:List (List K))(r c k:Nat):(O.piv rows r c k).length=rows.length:=by simp[Ops.piv,yo]
theorem oV(O:Ops K):∀(m c r:Nat) (rows:List (List K)),(O.red m c r rows).1.length=rows.length
 |0,_,_,_=>rfl
 |m+1,c,r,rows=>by
  rw[Ops.red];split
  .rw[oV,eH]
  .rw[oV]
theorem Oc(O:Ops K){rows:List (List K)}(h:¬O.uP rows r c<rows.length):∀(i:Nat) (v:List K),r<=i->rows[i]?=some v->O.kZ (O.el v c)=true:=λi v hr hi=>by
 have hl:=(axp.1 hi).1;unfold Ops.uP at h;have h2:¬(rows.drop r).findIdx (λrow=> !O.kZ (O.el row c))<(rows.drop r).length:=by rw[axF];omega
 rw[List.findIdx_lt_length]at h2;have hv:v∈rows.drop r:=azk.2 ⟨i-r,by rw[axY];rw[show r+(i-r)=i by omega];exact hi⟩;cases hb:O.kZ (O.el v c)with
 |true=>rfl
 |false=>exact absurd ⟨v,hv,by rw[hb];rfl⟩ h2
theorem kU(O:Ops K){rows:List (List K)}(h:O.uP rows r c<rows.length):r<=O.uP rows r c/\O.kZ (O.el (rows.getD (O.uP rows r c) []) c)=false:=by
 refine⟨Nat.le_add_right _ _,?_⟩;have h2:(rows.drop r).findIdx (λrow=> !O.kZ (O.el row c))<(rows.drop r).length:=by rw[axF];unfold Ops.uP at h;omega
 have h3:=List.findIdx_getElem (w:=h2);rw[azC]at h3;rw[axt,axn h,azd];rw[Bool.not_eq_true']at h3;exact h3
theorem oP{rows:List (List K)}(hr:r<rows.length)(hk:k<rows.length)(i:Nat)(hi:i<rows.length):(lq rows r k)[i]?=some (rows.getD (if i=k then r else if i=r then k else i) []):=by
 unfold lq;rw[axK];by_cases e:k=i
 .subst e;rw[axl rfl,axl rfl,axl (by simpa using hk)]
 .rw[axm e,axm (λh=>e h.symm),axK];by_cases e2:r=i
  .subst e2;rw[axl rfl,axl rfl,axl hr]
  .rw[axm e2,axm (λh=>e2 h.symm),axn hi,axt,axn hi];rfl
theorem pU(O:Ops K){rows:List (List K)}(hr:r<rows.length)(hk:k<rows.length)(c i:Nat)(hi:i<rows.length):
 (O.piv rows r c k)[i]?=some (O.Gt r c (O.oJ (rows.getD k []) c) i (rows.getD (if i=k then r else if i=r then k else i) [])):=by
 unfold Ops.piv;rw[ay3,oP hr hk i hi];rfl
def aQ{K:Type}(n:Nat)(rows:List (List K)):Prop:=∀v∈rows,v.length=n
theorem aQ.at_{rows:List (List K)}(h:aQ n rows)(hi:i<rows.length):(rows.getD i []).length=n:=by rw[axt,axn hi,azd];exact h _ (ax6 _)
theorem sw(O:Ops K)(v:List K)(c:Nat):(O.oJ v c).length=v.length:=by simp[Ops.oJ]
theorem qM(O:Ops K){v w:List K}(hv:v.length=n)(hw:w.length=n)(k:K):(O.less v k w).length=n:=by simp[Ops.less,hv,hw]
theorem adG(O:Ops K){v w:List K}(hv:v.length=n)(hw:w.length=n):(O.Gt r c w i v).length=n:=by
 unfold Ops.Gt;split
 .exact hw
 .split
  .exact hv
  .exact qM O hv hw _
theorem Ao(hi:i<n)(hr:r<n)(hk:k<n):(if i=k then r else if i=r then k else i)<n:=by
 split
 .exact hr
 .split<;>assumption
theorem aQ.piv{O:Ops K}{rows:List (List K)}(h:aQ n rows)(hr:r<rows.length)(hk:k<rows.length):aQ n (O.piv rows r c k):=λv hv=>by
 obtain⟨i,hi⟩:=axz hv;have hil:i<rows.length:=by have:=(axp.1 hi).1;rwa[eH]at this
 rw[pU O hr hk c i hil]at hi;injection hi with hi;rw[<-hi];exact adG O (h.at_ (Ao hil hr hk)) (by rw[sw];exact h.at_ hk)
theorem Dm(F:aJ K){v w:List K}(hl:v.length=w.length)(k:K)(j:Nat):F.el (F.less v k w) j=F.add (F.el v j) (F.mul (F.neg k) (F.el w j)):=by
 by_cases h:j<v.length
 .rw[Ops.dD F.toOps (x:=F.add v[j] (F.mul (F.neg k) (w[j]'(by omega)))),Ops.dD F.toOps (axn h),Ops.dD F.toOps (axn (show j<w.length by omega))];unfold Ops.less;rw[azl,axn h,axn (show j<w.length by omega)]
 .rw[Ops.dS _ (by rw[qM F.toOps rfl hl.symm];omega),Ops.dS _ (by omega),Ops.dS _ (by omega),F.aS,F.bB]
theorem RY(F:aJ K)(v:List K)(c j:Nat):F.el (F.oJ v c) j=F.mul (F.inv (F.el v c)) (F.el v j):=by
 by_cases h:j<v.length
 .rw[Ops.dD F.toOps (x:=F.mul (F.inv (F.el v c)) v[j]),Ops.dD F.toOps (axn h)];unfold Ops.oJ;rw[axw,axn h];rfl
 .rw[Ops.dS _ (by rw[sw];omega),Ops.dS F.toOps (j:=j) (by omega),F.aS]
theorem Kq(F:aJ K){v w:List K}(hl:v.length=w.length)(k:K):F.fn (F.less v k w)=F.va (F.fn v) (F.vs (F.neg k) (F.fn w)):=funext λj=>Dm F hl k j
theorem Ko(F:aJ K)(v:List K)(c:Nat):F.fn (F.oJ v c)=F.vs (F.inv (F.el v c)) (F.fn v):=funext λj=>RY F v c j
structure kJ {K:Type} (F:aJ K) (rows:List (List K)) (r c:Nat) (P:List Nat):Prop where
 pl:P.length=r
 hr:r<=rows.length
 KN:P.Pairwise (·<·)
 lt:∀p∈P,p<c
 one:∀(i p:Nat) (v:List K),P[i]?=some p->rows[i]?=some v->F.el v p=F.o
 BV:∀(i i' p:Nat) (v:List K),P[i]?=some p->rows[i']?=some v->i'≠i->F.el v p=F.z
 led:∀(i p:Nat) (v:List K),P[i]?=some p->rows[i]?=some v->∀j,j<p->F.el v j=F.z
 low:∀(i:Nat) (v:List K),r<=i->rows[i]?=some v->∀j,j<c->F.el v j=F.z
theorem kJ.start(F:aJ K)(rows:List (List K)):kJ F rows 0 0 []:=
 ⟨rfl,axq _,List.Pairwise.nil,by simp,by simp,by simp,by simp,λ_ _ _ _ j hj=>absurd hj (ay4 j)⟩
theorem kJ.skip{F:aJ K}{rows:List (List K)}(h:kJ F rows r c P)(hn:∀(i:Nat) (v:List K),r<=i->rows[i]?=some v->F.el v c=F.z):kJ F rows r (c+1) P:=
 ⟨h.pl,h.hr,h.KN,λp hp=>Nat.lt_succ_of_lt (h.lt p hp),h.one,h.BV,h.led,λi v hi hv j hj=>by
  by_cases e:j=c
  .subst e;exact hn i v hi hv
  .exact h.low i v hi hv j (by omega)⟩
theorem kJ.piv{F:aJ K}{rows:List (List K)}(h:kJ F rows r c P)(hw:aQ n rows)(hrk:r<=k)(hk:k<rows.length)(hx:F.el (rows.getD k []) c≠F.z):kJ F (F.piv rows r c k) (r+1) (c+1) (P++[c]):=by
 have hr:r<rows.length:=by omega
 obtain⟨vk,hvk⟩:=xq (rows.getD k []);have hkv:rows[k]?=some vk:=by rw[<-hvk,axt,axn hk];rfl
 rw[hvk]at hx;obtain⟨L,hL⟩:=xq (F.oJ vk c);have hLc:F.el L c=F.o:=by rw[<-hL,RY,F.inv_mul _ hx]
 have Z4:∀j,j<c->F.el L j=F.z:=λj hj=>by rw[<-hL,RY,h.low k vk hrk hkv j hj,F.aS]
 have hLn:L.length=n:=by rw[<-hL,sw];exact hw vk (axo hkv)
 have key:∀(i:Nat) (v:List K),(F.piv rows r c k)[i]?=some v->i<rows.length/\(i=r->v=L)/\(i≠r->F.el v c=F.z/\∃u,rows[if i=k then r else i]?=some u/\∀j,j<c->F.el v j=F.el u j):=by
  intro i v hv;have hi:i<rows.length:=by have:=(axp.1 hv).1;rwa[eH]at this
  rw[pU F.toOps hr hk c i hi,hvk,hL]at hv;injection hv with hv;refine⟨hi,λe=>?_,λe=>?_⟩
  .rw[<-hv];unfold Ops.Gt;rw[axl e]
  .have hlt:(if i=k then r else i)<rows.length:=by split<;>assumption
   have hs:(if i=k then r else if i=r then k else i)=(if i=k then r else i):=by rw[axm e]
   rw[hs]at hv;obtain⟨u,hu⟩:∃u,rows[if i=k then r else i]?=some u:=⟨_,axn hlt⟩;have zY:u.length=n:=hw u (axo hu);rw[axt,hu,azd]at hv;unfold Ops.Gt at hv;rw[axm e]at hv;split at hv
   .rename_i hz;subst hv;exact⟨(F.iI _).1 hz,u,hu,λ_ _=>rfl⟩
   .subst hv;refine⟨?_,u,hu,λj hj=>?_⟩
    .rw[Dm F (by rw[zY,hLn]),hLc,F.gK,F.add_neg]
    .rw[Dm F (by rw[zY,hLn]),Z4 j hj,F.aS,F.dP]
 have hpl:=h.pl;have agD:∀(i p:Nat),(P++[c])[i]?=some p->(i<r/\P[i]?=some p)∨(i=r/\p=c):=λi p hp=>by
  by_cases e:i<r
  .rw[axX (by omega)]at hp;exact .inl ⟨e,hp⟩
  .have:=(axp.1 hp).1;rw[axv,ayt]at this;obtain rfl:i=r:=by omega
   rw[axN (by omega),hpl,ayd]at hp;exact .inr ⟨rfl,by simpa using hp.symm⟩
 refine⟨by rw[axv,ayt,hpl],by rw[eH];omega,?_,?_,?_,?_,?_,?_⟩
 .rw[List.pairwise_append];exact⟨h.KN,by simp,λa ha b hb=>by simp at hb;subst hb;exact h.lt a ha⟩
 .intro p hp;rcases axZ.1 hp with hp|hp
  .exact Nat.lt_succ_of_lt (h.lt p hp)
  .simp at hp;omega
 .intro i p v hp hv;obtain⟨hi,h1,h2⟩:=key i v hv;rcases agD i p hp with⟨hir,hp⟩|⟨e,e2⟩
  .obtain⟨_,u,hu,hj⟩:=h2 (by omega);rw[axm (by omega)]at hu;rw[hj p (h.lt p (axo hp))];exact h.one i p u hp hu
  .subst e2;rw[h1 e];exact hLc
 .intro i i' p v hp hv hne;obtain⟨hi,h1,h2⟩:=key i' v hv;rcases agD i p hp with⟨hir,hp⟩|⟨e,e2⟩
  .have hpc:=h.lt p (axo hp);by_cases e:i'=r
   .rw[h1 e];exact Z4 p hpc
   .obtain⟨_,u,hu,hj⟩:=h2 e;rw[hj p hpc];refine h.BV i _ p u hp hu ?_;split<;>omega
  .subst e2;exact(h2 (by omega)).1
 .intro i p v hp hv j hj;obtain⟨hi,h1,h2⟩:=key i v hv;rcases agD i p hp with⟨hir,hp⟩|⟨e,e2⟩
  .have hpc:=h.lt p (axo hp);obtain⟨_,u,hu,hj'⟩:=h2 (by omega);rw[axm (by omega)]at hu;rw[hj' j (by omega)];exact h.led i p u hp hu j hj
  .subst e2;rw[h1 e];exact Z4 j hj
 .intro i v hi hv j hj;obtain⟨_,_,h2⟩:=key i v hv;obtain⟨h0,u,hu,hj'⟩:=h2 (by omega);by_cases e:j=c
  .subst e;exact h0
  .rw[hj' j (by omega)];exact h.low _ u (by split<;>omega) hu j (by omega)
theorem kJ.red{F:aJ K}:∀(m c r:Nat) (rows:List (List K)) (P:List Nat),aQ n rows->kJ F rows r c P->∃P',kJ F (F.red m c r rows).1 (F.red m c r rows).2 (c+m) P'/\aQ n (F.red m c r rows).1
 |0,c,r,rows,P,hw,h=>⟨P,h,hw⟩
 |m+1,c,r,rows,P,hw,h=>by
  rw[Ops.red];split
  .rename_i hf;obtain⟨hrk,hx⟩:=kU F.toOps hf;have hx':F.el (rows.getD (F.uP rows r c) []) c≠F.z:=λe=>by rw[(F.iI _).2 e]at hx;cases hx
   have:=kJ.red m (c+1) (r+1) _ _ (hw.piv (O:=F.toOps) (c:=c) (Nat.lt_of_le_of_lt hrk hf) hf) (h.piv hw hrk hf hx');rw[show c+(m+1)=c+1+m by omega];exact this
  .rename_i hf;have:=kJ.red m (c+1) r rows P hw (h.skip λi v hi hv=>(F.iI _).1 (Oc F.toOps hf i v hi hv));rw[show c+(m+1)=c+1+m by omega];exact this
theorem YH{F:aJ K}{rows:List (List K)}(hw:aQ n rows)(hr:r<rows.length)(hk:k<rows.length)(hx:F.el (rows.getD k []) c≠F.z)(v:Nat->K):Sp F (F.fns (F.piv rows r c k)) v↔Sp F (F.fns rows) v:=by
 have hmem:∀{R:List (List K)} {i:Nat} {u:List K},R[i]?=some u->F.fn u∈F.fns R:=λh=>axr.2 ⟨_,axo h,rfl⟩
 have hrow:∀i,i<rows.length->rows[i]?=some (rows.getD i []):=λi hi=>by rw[axt,axn hi];rfl
 have hlen:∀i,i<rows.length->(rows.getD i []).length=(F.oJ (rows.getD k []) c).length:=λi hi=>by rw[hw.at_ hi,sw,hw.at_ hk]
 constructor
 .refine Sp.mono λq hq=>?_
  obtain⟨u,hu,rfl⟩:=axr.1 hq;obtain⟨i,hi⟩:=axz hu;have hil:i<rows.length:=by have:=(axp.1 hi).1;rwa[eH]at this
  rw[pU F.toOps hr hk c i hil]at hi;injection hi with hi;have hL:Sp F (F.fns rows) (F.fn (F.oJ (rows.getD k []) c)):=by rw[Ko];exact(Sp.mem (hmem (hrow k hk))).smul _
  have hsl:=Ao hil hr hk;rw[<-hi];generalize(if i=k then r else if i=r then k else i)=s at hsl;unfold Ops.Gt;split
  .exact hL
  .split
   .exact Sp.mem (hmem (hrow _ hsl))
   .rw[Kq F (hlen _ hsl)];exact(Sp.mem (hmem (hrow _ hsl))).add (hL.smul _)
 .refine Sp.mono λq hq=>?_
  obtain⟨u,hu,rfl⟩:=axr.1 hq;obtain⟨i,hi⟩:=axz hu;have hil:=(axp.1 hi).1;have hL:Sp F (F.fns (F.piv rows r c k)) (F.fn (F.oJ (rows.getD k []) c)):=by refine Sp.mem (hmem (i:=r) ?_);rw[pU F.toOps hr hk c r hr];unfold Ops.Gt;rw[axl rfl]
  have hkk:Sp F (F.fns (F.piv rows r c k)) (F.fn (rows.getD k [])):=by have:=hL.smul (F.el (rows.getD k []) c);rw[Ko,F.XA,F.TF hx,F.afc]at this;exact this
  have hui:u=rows.getD i []:=by rw[axt,hi];rfl
  by_cases e:i=k
  .rw[hui,e];exact hkk
  obtain⟨i',anT,anS,hs⟩:∃i',i'<rows.length/\i'≠r/\(if i'=k then r else if i'=r then k else i')=i:=by
   by_cases e2:i=r
   .exact⟨k,hk,λe3=>e (e2.trans e3.symm),by rw[axl rfl];exact e2.symm⟩
   .exact⟨i,hil,e2,by rw[axm e,axm e2]⟩
  have hp:=pU F.toOps hr hk c i' anT;rw[hs]at hp;unfold Ops.Gt at hp;rw[axm anS]at hp;rw[hui];split at hp
  .exact Sp.mem (hmem hp)
  .have h1:=Sp.mem (F:=F) (hmem hp);rw[Kq F (hlen i hil)]at h1;have h2:=h1.add (hL.smul (F.el (rows.getD i []) c));rw[F.xZ]at h2;have h3:F.va (F.vs (F.neg (F.el (rows.getD i []) c)) (F.fn (F.oJ (rows.getD k []) c))) (F.vs (F.el (rows.getD i []) c) (F.fn (F.oJ (rows.getD k []) c)))=F.vz:=funext λj=>by
    show F.add (F.mul (F.neg _) _) (F.mul _ _)=F.z;rw[F.neg_mul,F.neg_add]
   rw[h3,F.ail]at h2;exact h2
theorem yD{F:aJ K}:∀(m c r:Nat) (rows:List (List K)),aQ n rows->∀v,Sp F (F.fns (F.red m c r rows).1) v↔Sp F (F.fns rows) v
 |0,_,_,_,_,_=>Iff.rfl
 |m+1,c,r,rows,hw,v=>by
  rw[Ops.red];split
  .rename_i hf;obtain⟨hrk,hx⟩:=kU F.toOps hf;have hx':F.el (rows.getD (F.uP rows r c) []) c≠F.z:=λe=>by rw[(F.iI _).2 e]at hx;cases hx
   have hr:=Nat.lt_of_le_of_lt hrk hf;rw[yD m (c+1) (r+1) _ (hw.piv (O:=F.toOps) (c:=c) hr hf) v];exact YH hw hr hf hx' v
  .exact yD m (c+1) r rows hw v
theorem kJ.rep{F:aJ K}{rows:List (List K)}(h:kJ F rows r c P){v:Nat->K}(hv:Sp F (F.fns rows) v):∃u,Sp F (F.fns (rows.drop r)) u/\∀j,v j=F.add (DU F ((F.fns (rows.take r)).zip P) v j) (u j):=by
 have hpl:=h.pl;have hr:=h.hr;have aiY:∀(i:Nat) (q:(Nat->K)×Nat),((F.fns (rows.take r)).zip P)[i]?=some q->P[i]?=some q.2/\∃u,rows[i]?=some u/\i<r/\q.1=F.fn u:=λi q hq=>by
  rw[ayD]at hq;obtain⟨h1,h2⟩:=hq;unfold Ops.fns at h1;rw[axw,axL]at h1;split at h1
  .rename_i hi;cases hu:rows[i]? with
   |none=>rw[hu]at h1;cases h1
   |some u=>rw[hu]at h1;injection h1 with h1;exact⟨h2,u,rfl,hi,h1.symm⟩
  .cases h1
 refine hv (λv=>∃u,Sp F (F.fns (rows.drop r)) u/\∀j,v j=F.add (DU F ((F.fns (rows.take r)).zip P) v j) (u j)) ?_ ?_
 .exact⟨F.vz,Sp.zero F _,λj=>by rw[jv F j F.vz _ (λq _=> .inl rfl)];show F.z=F.add F.z F.z;rw[F.bB]⟩
 .rintro x ⟨u,hu,hx⟩ q hq d;obtain⟨y,hy,rfl⟩:=axr.1 hq;obtain⟨i,hi⟩:=axz hy;by_cases hir:i<r
  .refine⟨u,hu,λj=>?_⟩;rw[Ap];obtain⟨p,hp⟩:∃p,P[i]?=some p:=⟨_,axn (by omega)⟩;have hz:((F.fns (rows.take r)).zip P)[i]?=some (F.fn y,p):=by
    rw[ayD];refine⟨?_,hp⟩;unfold Ops.fns;rw[axw,axL,axl hir,hi];rfl
   rw[LM F (F.fn y) _ i p hz (h.one i p y hp hi) (λi' q' hq' hne=>(by
    obtain⟨h1,_⟩:=aiY i' q' hq';exact h.BV i' i q'.2 y h1 hi (λe=>hne e.symm))) j]
   show F.add (x j) (F.mul d (F.fn y j))=_;rw[F.add_assoc,F.add_comm (F.mul d _) (u j),<-F.add_assoc,<-hx j]
  .refine⟨F.va u (F.vs d (F.fn y)),hu.step (axr.2 ⟨y,azk.2 ⟨i-r,by rw[axY,show r+(i-r)=i by omega];exact hi⟩,rfl⟩) d,λj=>?_⟩;rw[Ap,jv F j (F.fn y) _ (λq' hq'=>?_),F.aS,F.dP]
   .show F.add (x j) (F.mul d (F.fn y j))=F.add _ (F.add (u j) (F.mul d (F.fn y j)));rw[<-F.add_assoc,<-hx j]
   .obtain⟨i',hi'⟩:=axz hq';obtain⟨h1,_,_,hlt,_⟩:=aiY i' q' hi';exact .inl (h.BV i' i q'.2 y h1 hi (by omega))
def eX{K:Type}(F:aJ K)(n:Nat)(R:List (List K)):Prop:=aQ n R/\∃P,kJ F R R.length n P
theorem kJ.take{F:aJ K}{rows:List (List K)}(h:kJ F rows r c P):kJ F (rows.take r) (rows.take r).length c P:=by
 have hr:=h.hr;have hl:(rows.take r).length=r:=by rw[axx];omega
 have at_:∀(i:Nat) (v:List K),(rows.take r)[i]?=some v->rows[i]?=some v:=λi v hv=>by
  rw[axL]at hv;split at hv
  .exact hv
  .cases hv
 exact⟨by rw[hl];exact h.pl,axk _,h.KN,h.lt,λi p v hp hv=>h.one i p v hp (at_ i v hv),λi i' p v hp hv hne=>h.BV i i' p v hp (at_ i' v hv) hne,λi p v hp hv=>h.led i p v hp (at_ i v hv),λi v hi hv=>by
  have:=(axp.1 hv).1;omega⟩
theorem aQ.take{rows:List (List K)}(h:aQ n rows)(r:Nat):aQ n (rows.take r):=λv hv=>h v (ayS hv)
theorem dL(F:aJ K){rows:List (List K)}(hw:aQ n rows):eX F n (F.aC n rows):=by obtain⟨P,h,hw'⟩:=kJ.red (F:=F) n 0 0 rows [] hw (kJ.start F rows);rw[axT]at h;exact⟨hw'.take _,P,h.take⟩
theorem UQ{F:aJ K}{rows:List (List K)}(h:kJ F rows r n P)(hw:aQ n rows)(v:Nat->K):Sp F (F.fns (rows.take r)) v↔Sp F (F.fns rows) v:=by
 constructor
 .refine Sp.sub λq hq=>?_
  obtain⟨u,hu,rfl⟩:=axr.1 hq;exact axr.2 ⟨u,ayS hu,rfl⟩
 .refine Sp.mono λq hq=>?_
  obtain⟨u,hu,rfl⟩:=axr.1 hq;obtain⟨i,hi⟩:=axz hu;by_cases hir:i<r
  .exact Sp.mem (axr.2 ⟨u,azk.2 ⟨i,by rw[axL,axl hir];exact hi⟩,rfl⟩)
  .have:F.fn u=F.vz:=funext λj=>by
    by_cases hj:j<n
    .exact h.low i u (by omega) hi j hj
    .exact Ops.dS _ (by rw[hw u hu];omega)
   rw[this];exact Sp.zero F _
theorem dH(F:aJ K){rows:List (List K)}(hw:aQ n rows)(v:Nat->K):Sp F (F.fns (F.aC n rows)) v↔Sp F (F.fns rows) v:=by obtain⟨P,h,hw'⟩:=kJ.red (F:=F) n 0 0 rows [] hw (kJ.start F rows);rw[axT]at h;exact(UQ h hw' v).trans (yD n 0 0 rows hw v)
theorem kJ.YA{F:aJ K}{R:List (List K)}(h:kJ F R R.length n P){v:Nat->K}(hv:Sp F (F.fns R) v)(j:Nat):v j=DU F ((F.fns R).zip P) v j:=by obtain⟨u,hu,hj⟩:=h.rep hv;rw[azm]at hu;have hu0:=Sp.nil hu;have:=hj j;rw[hu0,axE]at this;rw[this];exact F.dP _
theorem kJ.Xt{F:aJ K}{R:List (List K)}(_:kJ F R R.length n P){q:(Nat->K)×Nat}(hq:((F.fns R).zip P)[i]?=some q):P[i]?=some q.2/\∃u,R[i]?=some u/\q.1=F.fn u:=by
 rw[ayD]at hq;obtain⟨h1,h2⟩:=hq;unfold Ops.fns at h1;rw[axw]at h1;cases hu:R[i]? with
 |none=>rw[hu]at h1;cases h1
 |some u=>rw[hu]at h1;injection h1 with h1;exact⟨h2,u,rfl,h1.symm⟩
theorem kJ.oN{F:aJ K}{R:List (List K)}(h:kJ F R R.length n P){v:Nat->K}(hv:Sp F (F.fns R) v)(h0:∀p∈P,v p=F.z):v=F.vz:=funext λj=>by
 rw[h.YA hv j];refine jv F j v _ λq hq=>?_
 obtain⟨i,hi⟩:=axz hq;exact .inl (h0 _ (axo (h.Xt hi).1))
theorem Ii{F:aJ K}{R S:List (List K)}{m:Nat}{Q:List Nat}(h:kJ F R R.length n P)(k:kJ F S S.length m Q)(hs:∀v,Sp F (F.fns R) v->Sp F (F.fns S) v):∀p∈P,p∈Q:=λp hp=>by
 apply ayv;intro hn;obtain⟨i,hi⟩:=axz hp;have hil:i<R.length:=by have:=(axp.1 hi).1;have:=h.pl;omega
 obtain⟨u,hu⟩:∃u,R[i]?=some u:=⟨_,axn hil⟩;have hsp:=hs _ (Sp.mem (F:=F) (axr.2 ⟨u,axo hu,rfl⟩));have h1:F.fn u p=F.o:=h.one i p u hi hu;refine F.Qw ?_;rw[<-h1,k.YA hsp p];refine jv F p _ _ λq hq=>?_
 obtain⟨i',hi'⟩:=axz hq;obtain⟨hq2,w,hw,hq1⟩:=k.Xt hi';have hne:q.2≠p:=λe=>hn (by rw[<-e];exact axo hq2)
 by_cases hlt:q.2<p
 .exact .inl (h.led i p u hi hu _ hlt)
 .refine .inr ?_;rw[hq1];exact k.led i' q.2 w hq2 hw p (by omega)
theorem OV:∀{a b:List Nat},a.Pairwise (·<·)->b.Pairwise (·<·)->(∀k,k∈a->k∈b)->(∀k,k∈b->k∈a)->a=b
 |[],[],_,_,_,_=>rfl
 |[],y::b,_,_,_,h=>by have:=h y (by simp);simp at this
 |x::a,[],_,_,h,_=>by have:=h x (by simp);simp at this
 |x::a,y::b,ha,hb,h,h'=>by
  rw[List.pairwise_cons]at ha hb;have hxy:x=y:=by
   rcases axI.1 (h x (by simp))with e|hx
   .exact e
   .rcases axI.1 (h' y (by simp))with e|hy
    .exact e.symm
    .have h1:=ha.1 y hy;have h2:=hb.1 x hx;omega
  subst hxy;congr 1;refine OV ha.2 hb.2 (λk hk=>?_) (λk hk=>?_)
  .rcases axI.1 (h k (by simp[hk]))with e|hk'
   .have:=ha.1 k hk;omega
   .exact hk'
  .rcases axI.1 (h' k (by simp[hk]))with e|hk'
   .have:=hb.1 k hk;omega
   .exact hk'
theorem Sp.dif{F:aJ K}{R:List (Nat->K)}{u v:Nat->K}(hu:Sp F R u)(hv:Sp F R v):Sp F R (F.va u (F.vs (F.neg F.o) v)):=hu.add (hv.smul _)
theorem jT{F:aJ K}{R S:List (List K)}(h:eX F n R)(k:eX F n S)(hs:∀v,Sp F (F.fns R) v↔Sp F (F.fns S) v):R=S:=by
 obtain⟨hw,P,h⟩:=h;obtain⟨kw,Q,k⟩:=k;obtain rfl:P=Q:=OV h.KN k.KN (Ii h k λv=>(hs v).1) (Ii k h λv=>(hs v).2);have hl:R.length=S.length:=by rw[<-h.pl,<-k.pl]
 refine ax_ λi=>?_
 by_cases hi:i<R.length
 .have hi':i<S.length:=by omega
  obtain⟨u,hu⟩:∃u,R[i]?=some u:=⟨_,axn hi⟩;obtain⟨v,hv⟩:∃v,S[i]?=some v:=⟨_,axn hi'⟩;rw[hu,hv];congr 1;have hum:=axo hu;have hvm:=axo hv;have s1:Sp F (F.fns R) (F.fn u):=Sp.mem (axr.2 ⟨u,hum,rfl⟩);have s2:Sp F (F.fns R) (F.fn v):=(hs _).2 (Sp.mem (axr.2 ⟨v,hvm,rfl⟩));have h0:=h.oN (s1.dif s2) λp hp=>by
   obtain⟨i',hi2⟩:=axz hp;show F.add (F.el u p) (F.mul (F.neg F.o) (F.el v p))=F.z;by_cases e:i=i'
   .subst e;rw[h.one i p u hi2 hu,k.one i p v hi2 hv,F.gK,F.add_neg]
   .rw[h.BV i' i p u hi2 hu e,k.BV i' i p v hi2 hv e,F.aS,F.bB]
  refine Ops.agT F.toOps (by rw[hw u hum,kw v hvm]) λj=>?_
  have:=congrFun h0 j;have e:F.add (F.el u j) (F.mul (F.neg F.o) (F.el v j))=F.z:=this;rw[F.neg_mul,F.bE]at e;rw[F.nY e,F.neg_neg]
 .rw[ax2 (by omega),ax2 (by omega)]
theorem JA(F:aJ K){R S:List (List K)}(hw:aQ n R)(kw:aQ n S)(hs:∀v,Sp F (F.fns R) v↔Sp F (F.fns S) v):F.aC n R=F.aC n S:=
 jT (dL F hw) (dL F kw) λv=>by rw[dH F hw,dH F kw,hs v]
theorem Az{F:aJ K}{R:List (List K)}(h:eX F n R):F.aC n R=R:=jT (dL F h.1) h λv=>dH F h.1 v
theorem uq(F:aJ K){R:List (List K)}(h:eX F n R):R.length<=n:=by
 obtain⟨_,P,h⟩:=h;have h1:∀(k:Nat) (l:List Nat),l.Pairwise (·<·)->(∀p∈l,k<=p/\p<n)->l.length<=n-k:=by
  intro k l
  induction l generalizing k with
  |nil=>intro _ _;simp
  |cons x l ih=>
   intro ha hb;rw[List.pairwise_cons]at ha;have:=ih (x+1) ha.2 λp hp=>⟨ha.1 p hp,(hb p (by simp[hp])).2⟩
   have:=hb x (by simp);rw[axR];omega
 have:=h1 0 P h.KN λp hp=>⟨axq _,h.lt p hp⟩
 rw[h.pl]at this;omega
theorem kJ.Zf{F:aJ K}{rows:List (List K)}(h:kJ F rows r c P){v:Nat->K}(hv:Sp F (F.fns rows) v)(h0:∀j,j<c->v j=F.z):Sp F (F.fns (rows.drop r)) v:=by
 obtain⟨u,hu,hj⟩:=h.rep hv;have:v=u:=funext λj=>by rw[hj j,jv F j v _ λq hq=>?_,F.bB];obtain⟨i,hi⟩:=axz hq;rw[ayD]at hi;exact .inl (h0 _ (h.lt _ (axo hi.2)))
 rw[this];exact hu
structure jM {K A:Type} (O:Ops K) (O':Ops A) (f:K->A):Prop where
 add:∀a b,O'.add (f a) (f b)=f (O.add a b)
 mul:∀a b,O'.mul (f a) (f b)=f (O.mul a b)
 neg:∀a,O'.neg (f a)=f (O.neg a)
 inv:∀a,O.kZ a=false->O'.inv (f a)=f (O.inv a)
 z:O'.z=f O.z
 o:O'.o=f O.o
 kZ:∀a,O'.kZ (f a)=O.kZ a
abbrev dO{K A:Type}(f:K->A)(rows:List (List K)):List (List A):=rows.map (List.map f)
theorem jM.el{A:Type}{O:Ops K}{O':Ops A}{f:K->A}(h:jM O O' f)(v:List K)(j:Nat):O'.el (v.map f) j=f (O.el v j):=by
 unfold Ops.el;rw[axt,axt,axw];cases v[j]? with
 |none=>exact h.z
 |some x=>rfl
theorem jM.oJ{A:Type}{O:Ops K}{O':Ops A}{f:K->A}(h:jM O O' f)(v:List K)(c:Nat)(hx:O.kZ (O.el v c)=false):O'.oJ (v.map f) c=(O.oJ v c).map f:=by unfold Ops.oJ;rw[axO,axO,h.el,h.inv _ hx];exact ax0 λx _=>h.mul _ _
theorem jM.less{A:Type}{O:Ops K}{O':Ops A}{f:K->A}(h:jM O O' f)(v:List K)(k:K)(w:List K):O'.less (v.map f) (f k) (w.map f)=(O.less v k w).map f:=by unfold Ops.less;rw[List.zipWith_map,List.map_zipWith];congr 1;funext x y;rw[h.neg,h.mul,h.add]
theorem jM.Gt{A:Type}{O:Ops K}{O':Ops A}{f:K->A}(h:jM O O' f)(r c:Nat)(l:List K)(i:Nat)(v:List K):O'.Gt r c (l.map f) i (v.map f)=(O.Gt r c l i v).map f:=by
 unfold Ops.Gt;rw[h.el,h.kZ];split
 .rfl
 .split
  .rfl
  .exact h.less v _ l
theorem zl{A:Type}(f:K->A)(rows:List (List K))(i:Nat):(dO f rows).getD i []=(rows.getD i []).map f:=by rw[axt,axt,axw];cases rows[i]?<;>rfl
theorem XO{A:Type}(f:K->A)(rows:List (List K))(i k:Nat):lq (dO f rows) i k=dO f (lq rows i k):=by unfold lq;rw[zl,zl];show _=List.map _ _;rw[ayy,ayy]
theorem jM.uP{A:Type}{O:Ops K}{O':Ops A}{f:K->A}(h:jM O O' f)(rows:List (List K))(r c:Nat):O'.uP (dO f rows) r c=O.uP rows r c:=by unfold Ops.uP;rw[<-ayT,List.findIdx_map];congr 2;funext v;show(!O'.kZ (O'.el (v.map f) c))=_;rw[h.el,h.kZ]
theorem jM.piv{A:Type}{O:Ops K}{O':Ops A}{f:K->A}(h:jM O O' f)(rows:List (List K))(r c k:Nat)(hx:O.kZ (O.el (rows.getD k []) c)=false):O'.piv (dO f rows) r c k=dO f (O.piv rows r c k):=by
 unfold Ops.piv;rw[XO,zl,h.oJ _ _ hx];refine ax_ λi=>?_
 rw[ay3,axw,axw,ay3,Option.map_map,Option.map_map];congr 1;funext v;exact h.Gt r c _ i v
theorem jM.red{A:Type}{O:Ops K}{O':Ops A}{f:K->A}(h:jM O O' f):∀(m c r:Nat) (rows:List (List K)),O'.red m c r (dO f rows)=(dO f (O.red m c r rows).1,(O.red m c r rows).2)
 |0,_,_,_=>rfl
 |m+1,c,r,rows=>by
  rw[Ops.red,Ops.red,h.uP,axs];split
  .rename_i hf;rw[h.piv rows r c _ (kU O hf).2,h.red m]
  .rw[h.red m]
theorem jM.aC{A:Type}{O:Ops K}{O':Ops A}{f:K->A}(h:jM O O' f)(n:Nat)(rows:List (List K)):O'.aC n (dO f rows)=dO f (O.aC n rows):=by unfold Ops.aC;rw[h.red];exact aze.symm
theorem aeh{A:Type}{P:A->Prop}:∀(v:List A),(∀x∈v,P x)->∃u:List {x // P x},v=u.map Subtype.val
 |[],_=>⟨[],rfl⟩
 |x::v,h=>by
  obtain⟨u,hu⟩:=aeh v λy hy=>h y (by simp[hy])
  exact⟨⟨x,h x (by simp)⟩::u,by rw[List.map_cons,<-hu]⟩
theorem BK{A:Type}{P:A->Prop}:∀(rows:List (List A)),(∀v∈rows,∀x∈v,P x)->∃u:List (List {x // P x}),rows=dO Subtype.val u
 |[],_=>⟨[],rfl⟩
 |v::rows,h=>by
  obtain⟨u,hu⟩:=BK rows λy hy=>h y (by simp[hy])
  obtain⟨u1,hu1⟩:=aeh v (h v (by simp));exact⟨u1::u,by rw[dO,List.map_cons,<-hu1,hu]⟩
theorem aQ.dO{A:Type}{f:K->A}{rows:List (List K)}:aQ n (dO f rows)↔aQ n rows:=by
 constructor
 .intro h v hv;have:=h (v.map f) (axr.2 ⟨v,hv,rfl⟩);rwa[axs]at this
 .intro h v hv;obtain⟨u,hu,rfl⟩:=axr.1 hv;rw[axs];exact h u hu
def Ops.lead{K:Type}(O:Ops K)(v:List K):Nat:=v.findIdx λx=> !O.kZ x
theorem jM.lead{A:Type}{O:Ops K}{O':Ops A}{f:K->A}(h:jM O O' f)(v:List K):O'.lead (v.map f)=O.lead v:=by unfold Ops.lead;rw[List.findIdx_map];congr 1;funext x;show(!O'.kZ (f x))=_;rw[h.kZ]
structure Dx {A:Type} (O:Ops A) (n:Nat) (R:List (List A)):Prop where
 len:aQ n R
 one:∀v∈R,O.lead v<n/\O.el v (O.lead v)=O.o
 KN:∀(i:Nat) (u v:List A),R[i]?=some u->R[i+1]?=some v->O.lead u<O.lead v
 BV:∀(i k:Nat) (u v:List A),R[i]?=some u->R[k]?=some v->i≠k->O.kZ (O.el v (O.lead u))=true
theorem jM.rrp{A:Type}{O:Ops K}{O':Ops A}{f:K->A}(h:jM O O' f)(hf:∀a b,f a=f b->a=b){R:List (List K)}:Dx O' n (dO f R)↔Dx O n R:=by
 have hat:∀(i:Nat) (u:List K),R[i]?=some u->(dO f R)[i]?=some (u.map f):=λi u hu=>by rw[axw,hu];rfl
 constructor
 .intro k;refine⟨aQ.dO.1 k.len,λv hv=>?_,λi u v hu hv=>?_,λi j u v hu hv hne=>?_⟩
  .have:=k.one (v.map f) (axr.2 ⟨v,hv,rfl⟩);rw[h.lead,h.el,h.o]at this;exact⟨this.1,hf _ _ this.2⟩
  .have:=k.KN i _ _ (hat i u hu) (hat _ v hv);rwa[h.lead,h.lead]at this
  .have:=k.BV i j _ _ (hat i u hu) (hat _ v hv) hne;rwa[h.lead,h.el,h.kZ]at this
 .intro k;have hinv:∀(i:Nat) (u:List A),(dO f R)[i]?=some u->∃x,R[i]?=some x/\u=x.map f:=λi u hu=>by
   rw[axw]at hu;cases hx:R[i]? with
   |none=>rw[hx]at hu;cases hu
   |some x=>rw[hx]at hu;injection hu with hu;exact⟨x,rfl,hu.symm⟩
  refine⟨aQ.dO.2 k.len,λv hv=>?_,λi u v hu hv=>?_,λi j u v hu hv hne=>?_⟩
  .obtain⟨x,hx,rfl⟩:=axr.1 hv;have:=k.one x hx;rw[h.lead,h.el,h.o,this.2];exact⟨this.1,rfl⟩
  .obtain⟨x,hx,rfl⟩:=hinv i u hu;obtain⟨y,hy,rfl⟩:=hinv _ v hv;rw[h.lead,h.lead];exact k.KN i x y hx hy
  .obtain⟨x,hx,rfl⟩:=hinv i u hu;obtain⟨y,hy,rfl⟩:=hinv _ v hv;rw[h.lead,h.el,h.kZ];exact k.BV i j x y hx hy hne
theorem II(O:Ops K){v:List K}(h:j<O.lead v)(hl:j<v.length):O.kZ (O.el v j)=true:=by rw[O.dD (axn hl)];have:=List.not_of_lt_findIdx (p:=λx=> !O.kZ x) (xs:=v) h;simpa using this
theorem acL(O:Ops K){v:List K}(h:O.lead v<v.length):O.kZ (O.el v (O.lead v))=false:=by rw[O.dD (axn h)];have:=List.findIdx_getElem (p:=λx=> !O.kZ x) (xs:=v) (w:=h);rw[Bool.not_eq_true']at this;exact this
theorem acK(O:Ops K)(v:List K):O.lead v<=v.length:=List.findIdx_le_length
theorem TK(O:Ops K){v:List K}{p:Nat}(hp:O.kZ (O.el v p)=false)(hl:p<v.length)(h0:∀j,j<p->O.kZ (O.el v j)=true):O.lead v=p:=by
 rcases azD (O.lead v) p with h|h|h
 .have:=acL O (Nat.lt_trans h hl);rw[h0 _ h]at this;cases this
 .exact h
 .have:=II O h hl;rw[hp]at this;cases this
theorem yB(F:aJ K){R:List (List K)}:Dx F.toOps n R↔eX F n R:=by
 constructor
 .intro h;have hasc:∀(d i:Nat) (u v:List K),R[i]?=some u->R[i+(d+1)]?=some v->F.lead u<F.lead v:=by
   intro d
   induction d with
   |zero=>exact h.KN
   |succ d ih=>intro i u v hu hv;have hl:=(axp.1 hv).1;obtain⟨x,hx⟩:∃x,R[i+(d+1)]?=some x:=⟨_,axn (by omega)⟩;exact Nat.lt_trans (ih i u x hu hx) (h.KN _ x v hx hv)
  have hP:∀(i p:Nat),(R.map F.lead)[i]?=some p->∃u,R[i]?=some u/\p=F.lead u:=λi p hp=>by
   rw[axw]at hp;cases hx:R[i]? with
   |none=>rw[hx]at hp;cases hp
   |some x=>rw[hx]at hp;injection hp with hp;exact⟨x,rfl,hp.symm⟩
  refine⟨h.len,R.map F.lead,by simp,axk _,?_,?_,?_,?_,?_,?_⟩
  .rw[az1];intro i j hi hj hij;rw[axs]at hi hj;rw[azf,azf];refine hasc (j-i-1) i _ _ (axn hi) ?_;rw[show i+(j-i-1+1)=j by omega];exact axn hj
  .intro p hp;obtain⟨v,hv,rfl⟩:=axr.1 hp;exact(h.one v hv).1
  .intro i p v hp hv;obtain⟨u,hu,rfl⟩:=hP i p hp;rw[hu]at hv;injection hv with hv;subst hv;exact(h.one u (axo hu)).2
  .intro i i' p v hp hv hne;obtain⟨u,hu,rfl⟩:=hP i p hp;exact(F.iI _).1 (h.BV i i' u v hu hv (λe=>hne e.symm))
  .intro i p v hp hv j hj;obtain⟨u,hu,rfl⟩:=hP i p hp;rw[hu]at hv;injection hv with hv;subst hv;exact(F.iI _).1 (II F.toOps hj (by have:=acK F.toOps u;omega))
  .intro i v hi hv;have:=(axp.1 hv).1;omega
 .rintro⟨hw,P,h⟩;have hlead:∀(i:Nat) (v:List K),R[i]?=some v->∃p,P[i]?=some p/\F.lead v=p/\p<n:=λi v hv=>by
   have hl:=(axp.1 hv).1;obtain⟨p,hp⟩:∃p,P[i]?=some p:=⟨_,axn (by rw[h.pl];exact hl)⟩;have hpn:=h.lt p (axo hp);refine⟨p,hp,TK F.toOps ?_ (by rw[hw v (axo hv)];exact hpn) λj hj=>(F.iI _).2 (h.led i p v hp hv j hj),hpn⟩;cases hb:F.kZ (F.el v p)with
   |false=>rfl
   |true=>exact absurd (((F.iI _).1 hb).symm.trans (h.one i p v hp hv)) (λe=>F.Qw e.symm)
  refine⟨hw,λv hv=>?_,λi u v hu hv=>?_,λi k u v hu hv hne=>?_⟩
  .obtain⟨i,hi⟩:=axz hv;obtain⟨p,hp,e,hpn⟩:=hlead i v hi;rw[e];exact⟨hpn,h.one i p v hp hi⟩
  .obtain⟨p,hp,e,_⟩:=hlead i u hu;obtain⟨q,hq,e2,_⟩:=hlead _ v hv;rw[e,e2];have hpl:=(axp.1 hp);have hql:=(axp.1 hq);have:=az1.1 h.KN i (i+1) hpl.1 hql.1 (by omega);rwa[hpl.2,hql.2]at this
  .obtain⟨p,hp,e,_⟩:=hlead i u hu;rw[e];exact(F.iI _).2 (h.BV i k p v hp hv (λe=>hne e.symm))
section
variable {K : Type}
def aJ.bD(F:aJ K):Nat->(Nat->K)->K
 |0,_=>F.z
 |n+1,f=>F.add (aJ.bD F n f) (f n)
theorem aJ.aO(F:aJ K){f g:Nat->K}:∀{n:Nat},(∀j,j<n->f j=g j)->F.bD n f=F.bD n g
 |0,_=>rfl
 |n+1,h=>by rw[aJ.bD,aJ.bD,F.aO (n:=n) λj hj=>h j (by omega),h n (by omega)]
theorem aJ.bS(F:aJ K){f:Nat->K}:∀{n:Nat},(∀j,j<n->f j=F.z)->F.bD n f=F.z
 |0,_=>rfl
 |n+1,h=>by rw[aJ.bD,F.bS (n:=n) λj hj=>h j (by omega),h n (by omega),F.bB]
theorem aJ.nQ(F:aJ K)(f g:Nat->K):∀n:Nat,F.bD n (λj=>F.add (f j) (g j))=F.add (F.bD n f) (F.bD n g)
 |0=>(F.bB F.z).symm
 |n+1=>by rw[aJ.bD,F.nQ f g n,F.XP];rfl
theorem aJ.lZ(F:aJ K)(c:K)(f:Nat->K):∀n:Nat,F.bD n (λj=>F.mul c (f j))=F.mul c (F.bD n f)
 |0=>(F.aS c).symm
 |n+1=>by rw[aJ.bD,F.lZ c f n,<-F.distrib];rfl
def xA(j0 j:Nat):Nat:=if j<j0 then j else j+1
theorem aJ.uZ(F:aJ K)(f:Nat->K){j0:Nat}:∀{n:Nat},j0<n+1->F.bD (n+1) f=F.add (f j0) (F.bD n λj=>f (xA j0 j))
 |0,h=>by
  obtain rfl:j0=0:=by omega
  show F.add F.z (f 0)=F.add (f 0) F.z;rw[F.add_comm]
 |n+1,h=>by
  by_cases e:j0=n+1
  .subst e;rw[aJ.bD,F.add_comm];congr 1;refine F.aO λj hj=>?_
   rw[xA,axl hj]
  .rw[aJ.bD,F.uZ f (j0:=j0) (n:=n) (by omega),F.add_assoc];congr 1;show _=F.add (F.bD n λj=>f (xA j0 j)) (f (xA j0 n));rw[xA,axm (by omega)]
theorem XV(j0 j:Nat):xA j0 j≠j0:=by unfold xA;split<;>omega
theorem Qe{j0:Nat}(h:j<n):xA j0 j<n+1:=by unfold xA;split<;>omega
theorem zb(F:aJ K):∀(m n:Nat) (A:Nat->Nat->K),m<n->∃x:Nat->K,(∃j,j<n/\x j≠F.z)/\∀i,i<m->F.bD n (λj=>F.mul (A i j) (x j))=F.z
 |0,n,A,h=>⟨λ_=>F.o,⟨0,h,F.Qw⟩,λi hi=>by omega⟩
 |m+1,n,A,h=>by
  by_cases hz:∀j,j<n->A m j=F.z
  .obtain⟨x,hx,hs⟩:=zb F m n A (by omega);refine⟨x,hx,λi hi=>?_⟩;by_cases e:i=m
   .subst e;exact F.bS λj hj=>by rw[hz j hj,F.gP]
   .exact hs i (by omega)
  .obtain⟨j0,hj0⟩:=Classical.not_forall.1 hz;obtain⟨hjn,hne⟩:=Classical.not_imp.1 hj0;obtain⟨k,rfl⟩:∃k,n=k+1:=⟨n-1,by omega⟩;obtain⟨y,⟨j1,hj1,hy⟩,hs⟩:=zb F m k (λi j=>F.add (A i (xA j0 j)) (F.mul (F.neg (F.mul (A i j0) (F.inv (A m j0)))) (A m (xA j0 j)))) (by omega);obtain⟨S,hS⟩:∃S,F.bD k (λj=>F.mul (A m (xA j0 j)) (y j))=S:=⟨_,rfl⟩;obtain⟨x,hx0,hxs⟩:∃x:Nat->K,x j0=F.neg (F.mul (F.inv (A m j0)) S)/\∀j,x (xA j0 j)=y j:=by
    refine⟨λj=>if j=j0 then F.neg (F.mul (F.inv (A m j0)) S)else y (if j<j0 then j else j-1),axl rfl,λj=>?_⟩;show(if xA j0 j=j0 then _ else _)=_;rw[axm (XV j0 j)];congr 1;unfold xA;by_cases e:j<j0
    .rw[axl e,axl e]
    .rw[axm e,axm (by omega)];omega
   have hsum:∀i,F.bD (k+1) (λj=>F.mul (A i j) (x j))=F.add (F.mul (A i j0) (x j0)) (F.bD k λj=>F.mul (A i (xA j0 j)) (y j)):=λi=>by rw[F.uZ _ hjn];congr 1;exact F.aO λj _=>by rw[hxs]
   refine⟨x,⟨xA j0 j1,Qe hj1,by rw[hxs];exact hy⟩,λi hi=>?_⟩;rw[hsum,hx0];by_cases e:i=m
   .subst e;rw[hS,<-F.neg_mul,<-F.mul_assoc,F.mul_comm (A i j0),F.neg_mul,F.inv_mul _ hne,F.neg_mul,F.bE,F.neg_add]
   .have h2:=hs i (by omega);have h3:F.bD k (λj=>F.mul (F.add (A i (xA j0 j)) (F.mul (F.neg (F.mul (A i j0) (F.inv (A m j0)))) (A m (xA j0 j)))) (y j))=F.add (F.bD k λj=>F.mul (A i (xA j0 j)) (y j)) (F.mul (F.neg (F.mul (A i j0) (F.inv (A m j0)))) S):=by
     rw[<-hS,<-F.lZ,<-F.nQ];exact F.aO λj _=>by rw[F.lT,F.mul_assoc]
    rw[h3]at h2;rw[<-h2,F.add_comm];congr 1;rw[F.neg_mul,F.mul_comm (A i j0) (F.neg _),F.neg_mul];congr 1;rw[F.mul_comm,<-F.mul_assoc]
end
section
variable {K : Type}
theorem Sp.map{F:aJ K}{φ:(Nat->K)->(Nat->K)}(hz:φ F.vz=F.vz)(ha:∀u r c,φ (F.va u (F.vs c r))=F.va (φ u) (F.vs c (φ r))){R:List (Nat->K)}{v:Nat->K}(h:Sp F R v):Sp F (R.map φ) (φ v):=
 h (λx=>Sp F (R.map φ) (φ x)) (by rw[hz];exact Sp.zero F _) λu hu r hr c=>by rw[ha];exact hu.step (axr.2 ⟨r,hr,rfl⟩) c
theorem Sp.Zd{F:aJ K}{φ:(Nat->K)->(Nat->K)}(hz:φ F.vz=F.vz)(ha:∀u r c,φ (F.va u (F.vs c r))=F.va (φ u) (F.vs c (φ r))){R S:List (Nat->K)}(h:∀v,Sp F R v↔Sp F S v)(v:Nat->K):Sp F (R.map φ) v↔Sp F (S.map φ) v:=by
 constructor
 .refine Sp.mono λq hq=>?_
  obtain⟨r,hr,rfl⟩:=axr.1 hq;exact((h r).1 (Sp.mem hr)).map hz ha
 .refine Sp.mono λq hq=>?_
  obtain⟨r,hr,rfl⟩:=axr.1 hq;exact((h r).2 (Sp.mem hr)).map hz ha
theorem Sp.bD{F:aJ K}{R:List (Nat->K)}{g:Nat->Nat->K}:∀{m:Nat},(∀i,i<m->Sp F R (g i))->Sp F R (λj=>F.bD m λi=>g i j)
 |0,_=>Sp.zero F R
 |m+1,h=>(Sp.bD (m:=m) λi hi=>h i (by omega)).add (h m (by omega))
theorem aJ.yu(F:aJ K){f g:Nat->K}{p:Nat}{d:K}(hp:f p=F.add (g p) d):∀{s:Nat},p<s->(∀i,i<s->i≠p->f i=g i)->F.bD s f=F.add (F.bD s g) d
 |0,h,_=>by omega
 |s+1,h,he=>by
  by_cases e:p=s
  .subst e;rw[aJ.bD,aJ.bD,hp,<-F.add_assoc,F.aO (n:=p) (f:=f) (g:=g) λi hi=>he i (by omega) (by omega)]
  .rw[aJ.bD,aJ.bD,F.yu hp (s:=s) (by omega) λi hi=>he i (by omega),he s (by omega) (by omega),F.add_assoc,F.add_assoc,F.add_comm d]
theorem aJ.Aq(F:aJ K){f:Nat->K}{p:Nat}(hp:p<s)(h:∀i,i<s->i≠p->f i=F.z):F.bD s f=f p:=by rw[F.yu (f:=f) (g:=λ_=>F.z) (p:=p) (d:=f p) (F.bB _).symm hp h,F.bS λ_ _=>rfl,F.bB]
def aJ.dot(F:aJ K)(s:Nat)(a k:Nat->K):K:=F.bD s λi=>F.mul (a i) (k i)
theorem aJ.akE(F:aJ K)(s:Nat)(a:Nat->K):F.dot s a F.vz=F.z:=F.bS λ_ _=>F.aS _
theorem aJ.ah9(F:aJ K)(s:Nat)(a:Nat->K):F.dot s F.vz a=F.z:=F.bS λ_ _=>F.gP _
theorem aJ.dot_comm(F:aJ K)(s:Nat)(a k:Nat->K):F.dot s a k=F.dot s k a:=F.aO λ_ _=>F.mul_comm _ _
theorem aJ.Oq(F:aJ K)(s:Nat)(a u r:Nat->K)(c:K):F.dot s a (F.va u (F.vs c r))=F.add (F.dot s a u) (F.mul c (F.dot s a r)):=by
 unfold aJ.dot;rw[<-F.lZ,<-F.nQ];refine F.aO λi _=>?_
 show F.mul (a i) (F.add (u i) (F.mul c (r i)))=_;rw[F.distrib,<-F.mul_assoc,F.mul_comm (a i) c,F.mul_assoc]
def sV(F:aJ K)(s:Nat)(M:List (Nat->K))(k:Nat->K):Prop:=(∀j,s<=j->k j=F.z)/\∀a∈M,F.dot s a k=F.z
theorem sV.zero(F:aJ K)(s:Nat)(M:List (Nat->K)):sV F s M F.vz:=⟨λ_ _=>rfl,λa _=>F.akE s a⟩
theorem sV.step{F:aJ K}{M:List (Nat->K)}{u r:Nat->K}(h:sV F s M u)(k:sV F s M r)(c:K):sV F s M (F.va u (F.vs c r)):=
 ⟨λj hj=>by show F.add (u j) (F.mul c (r j))=F.z;rw[h.1 j hj,k.1 j hj,F.aS,F.bB],λa ha=>by rw[F.Oq,h.2 a ha,k.2 a ha,F.aS,F.bB]⟩
theorem sV.sp{F:aJ K}{M R:List (Nat->K)}(h:∀r∈R,sV F s M r){v:Nat->K}(hv:Sp F R v):sV F s M v:=
 hv (sV F s M) (sV.zero F s M) λ_ hu r hr c=>hu.step (h r hr) c
theorem sV.mono{F:aJ K}{M M':List (Nat->K)}(h:∀a∈M',Sp F M a){k:Nat->K}(hk:sV F s M k):sV F s M' k:=
 ⟨hk.1,λa ha=>h a ha (λx=>F.dot s x k=F.z) (F.ah9 s k) λu hu r hr c=>by
  rw[F.dot_comm,F.Oq,F.dot_comm s k u,F.dot_comm s k r,hu,hk.2 r hr,F.aS,F.bB]⟩
theorem sV.same{F:aJ K}{M M':List (Nat->K)}(h:∀v,Sp F M v↔Sp F M' v)(k:Nat->K):sV F s M k↔sV F s M' k:=
 ⟨sV.mono λa ha=>(h a).2 (Sp.mem ha),sV.mono λa ha=>(h a).1 (Sp.mem ha)⟩
theorem sP(F:aJ K)(v:List K)(p:Nat)(c:K)(i:Nat):F.el (v.set p c) i=if p=i/\i<v.length then c else F.el v i:=by
 unfold Ops.el;rw[axt,axt,axK];by_cases e:p=i
 .subst e;by_cases h:p<v.length
  .rw[axl rfl,axl h,axl ⟨rfl,h⟩];rfl
  .rw[axl rfl,axm h,axm (λq=>h q.2),ax2 (by omega)]
 .rw[axm e,axm (λq=>e q.1)]
theorem aaA(F:aJ K){a:Nat->K}{v:List K}{p:Nat}(c:K)(ha:a p=F.z):F.dot s a (F.fn (v.set p c))=F.dot s a (F.fn v):=
 F.aO λi _=>by
  show F.mul (a i) (F.el (v.set p c) i)=F.mul (a i) (F.el v i);rw[sP];split
  .rename_i h;rw[<-h.1,ha,F.gP,F.gP]
  .rfl
theorem adv(F:aJ K){a:Nat->K}{v:List K}{p:Nat}(c:K)(hv:F.el v p=F.z)(hp:p<v.length)(hs:p<s):F.dot s a (F.fn (v.set p c))=F.add (F.dot s a (F.fn v)) (F.mul (a p) c):=by
 refine F.yu (p:=p) ?_ hs λi _ hne=>?_
 .show F.mul (a p) (F.el (v.set p c) p)=F.add (F.mul (a p) (F.el v p)) _;rw[sP,axl ⟨rfl,hp⟩,hv,F.aS,F.bB]
 .show F.mul (a i) (F.el (v.set p c) i)=F.mul (a i) (F.el v i);rw[sP,axm λq=>hne q.1.symm]
def Ops.iD(O:Ops K)(R:List (List K))(j:Nat)(v:List K):List K:=R.foldl (λv r=>v.set (O.lead r) (O.neg (O.el r j))) v
def Ops.fT(O:Ops K)(s:Nat)(R:List (List K))(j:Nat):List K:=O.iD R j ((replicate s O.z).set j O.o)
def Ops.dK(O:Ops K)(s:Nat)(R:List (List K)):Nat->Nat->Nat->List (List K)
 |0,_,_=>[]
 |m+1,j,t=>if t<R.length/\O.lead (R.getD t [])=j then Ops.dK O s R m (j+1) (t+1)else O.fT s R j::Ops.dK O s R m (j+1) t
def Ops.gJ(O:Ops K)(s:Nat)(R:List (List K)):List (List K):=O.dK s R s 0 0
theorem qJ(O:Ops K)(j:Nat):∀(R:List (List K)) (v:List K),(O.iD R j v).length=v.length
 |[],_=>rfl
 |r::R,v=>by show(O.iD R j (v.set _ _)).length=_;rw[qJ O j R,axM]
theorem nK(O:Ops K)(s:Nat)(R:List (List K))(j:Nat):(O.fT s R j).length=s:=by unfold Ops.fT;rw[qJ,axM,axH]
theorem EA(F:aJ K)(j i:Nat):∀(R:List (List K)) (v:List K),(∀r∈R,F.lead r≠i)->F.el (F.iD R j v) i=F.el v i
 |[],_,_=>rfl
 |r::R,v,h=>by show F.el (F.iD R j (v.set _ _)) i=_;rw[EA F j i R _ (λx hx=>h x (by simp[hx])),sP,axm λq=>h r (by simp) q.1]
theorem AX(F:aJ K){a:Nat->K}:∀(R:List (List K)) (v:List K),(∀r∈R,a (F.lead r)=F.z)->F.dot s a (F.fn (F.iD R j v))=F.dot s a (F.fn v)
 |[],_,_=>rfl
 |r::R,v,h=>by show F.dot s a (F.fn (F.iD R j (v.set _ _)))=_;rw[AX F R _ (λx hx=>h x (by simp[hx])),aaA F _ (h r (by simp))]
theorem EB(O:Ops K)(R S:List (List K))(j:Nat)(v:List K):O.iD (R++S) j v=O.iD S j (O.iD R j v):=azg ..
end
section
variable {K : Type}
theorem kJ.lead{F:aJ K}{R:List (List K)}(h:kJ F R R.length n P)(hw:aQ n R){t:Nat}{r:List K}(hr:R[t]?=some r):∃p,P[t]?=some p/\F.lead r=p/\p<n:=by
 have ht:=(axp.1 hr).1;have hpl:=h.pl;have hp:P[t]?=some (P[t]'(by omega)):=axn _;have hl:=h.lt _ (axo hp);refine⟨_,hp,TK F.toOps ?_ (by rw[hw r (axo hr)];exact hl) λj hj=>(F.iI _).2 (h.led t _ r hp hr j hj),hl⟩;rw[h.one t _ r hp hr];cases hb:F.kZ F.o with
 |false=>rfl
 |true=>exact absurd ((F.iI _).1 hb) F.Qw
theorem kJ.inj{F:aJ K}{R:List (List K)}(h:kJ F R R.length n P){t t' p:Nat}(a:P[t]?=some p)(b:P[t']?=some p):t=t':=by
 have ha:=(axp.1 a).1;have hb:=(axp.1 b).1;have e1:=(axp.1 a).2;have e2:=(axp.1 b).2;have hasc:=az1.1 h.KN;rcases azD t t' with q|q|q
 .have:=hasc t t' ha hb q;omega
 .exact q
 .have:=hasc t' t hb ha q;omega
theorem YX{F:aJ K}{R:List (List K)}(h:kJ F R R.length n P)(hw:aQ n R)(hj:j<n)(hi:i∉P):F.el (F.fT n R j) i=if i=j then F.o else F.z:=by
 unfold Ops.fT;rw[EA F j i R _ λr hr=>by
  obtain⟨t,ht⟩:=axz hr;obtain⟨p,hp,e,_⟩:=h.lead hw ht;rw[e];exact λq=>hi (q▸axo hp),sP]
 by_cases e:i=j
 .rw[axl ⟨e.symm,by rw[axH];omega⟩,axl e]
 .rw[axm λq=>e q.1.symm,axm e];unfold Ops.el;rw[axt,ax3];split<;>rfl
theorem Ir{F:aJ K}{R:List (List K)}(h:kJ F R R.length n P)(hw:aQ n R)(hj:j<n)(hjP:j∉P):sV F n (F.fns R) (F.fn (F.fT n R j)):=by
 refine⟨λi hi=>Ops.dS _ (by rw[nK];exact hi),λa ha=>?_⟩;obtain⟨r,hr,rfl⟩:=axr.1 ha;obtain⟨t,ht⟩:=axz hr;obtain⟨p,hp,hlead,hpn⟩:=h.lead hw ht;have htl:=(axp.1 ht).1;have hsplit:R=R.take t++r::R.drop (t+1):=by
  conv=>lhs;rw[<-ayw t R]
  rw[azh htl,(axp.1 ht).2]
 have oth:∀(t':Nat) (r':List K),R[t']?=some r'->t'≠t->F.fn r (F.lead r')=F.z/\F.lead r'≠p:=λt' r' ht' hne=>by obtain⟨p',hp',e',_⟩:=h.lead hw ht';rw[e'];refine⟨h.BV t' t p' r hp' ht λq=>hne q.symm,λq=>hne ?_⟩;subst q;exact h.inj hp' hp
 have inT:∀r'∈R.take t,F.fn r (F.lead r')=F.z/\F.lead r'≠p:=λr' hr'=>by
  obtain⟨i,hi⟩:=axz hr';rw[axL]at hi;split at hi
  .exact oth i r' hi (by omega)
  .cases hi
 have inD:∀r'∈R.drop (t+1),F.fn r (F.lead r')=F.z/\F.lead r'≠p:=λr' hr'=>by obtain⟨i,hi⟩:=axz hr';rw[axY]at hi;exact oth _ r' hi (by omega)
 have hjp:j≠p:=λq=>hjP (q▸axo hp)
 have hrj:F.dot n (F.fn r) (F.fn ((replicate n F.z).set j F.o))=F.el r j:=by
  unfold aJ.dot;have hrep:∀i,F.el (replicate n F.z) i=F.z:=λi=>by unfold Ops.el;rw[axt,ax3];split<;>rfl
  rw[F.Aq (p:=j) hj λi _ hne=>by
   show F.mul _ (F.el _ i)=F.z;rw[sP,axm λq=>hne q.1.symm,hrep,F.aS]]
  show F.mul (F.el r j) (F.el _ j)=_;rw[sP,axl ⟨rfl,by rw[axH];exact hj⟩,F.gK]
 unfold Ops.fT;rw[hsplit,EB];show F.dot n (F.fn r) (F.fn (F.iD (R.drop (t+1)) j ((F.iD (R.take t) j ((replicate n F.z).set j F.o)).set (F.lead r) (F.neg (F.el r j)))))=F.z;rw[AX F _ _ λx hx=>(inD x hx).1,hlead,adv F _ (by
  rw[EA F j p _ _ λx hx=>(inT x hx).2,sP,axm λq=>hjp q.1];unfold Ops.el;rw[axt,ax3];split<;>rfl) (by rw[qJ,axM,axH];exact hpn) hpn,AX F _ _ λx hx=>(inT x hx).1,hrj]
 show F.add (F.el r j) (F.mul (F.el r p) _)=F.z;rw[h.one t p r hp ht,F.bE,F.add_neg]
theorem xG{F:aJ K}{R:List (List K)}(h:kJ F R R.length n P)(hw:aQ n R):∀(m j t:Nat),(∀(i p:Nat),P[i]?=some p->(i<t↔p<j))->∀v,v∈F.dK n R m j t↔∃i,j<=i/\i<j+m/\i∉P/\v=F.fT n R i
 |0,j,t,_,v=>by
  rw[Ops.dK];constructor
  .intro q;cases q
  .rintro⟨i,h1,h2,_⟩;omega
 |m+1,j,t,hP,v=>by
  rw[Ops.dK];have hpl:=h.pl;split
  .rename_i hc;have ht:R[t]?=some (R.getD t []):=by rw[axt,axn hc.1];rfl
   obtain⟨p,hp,e,_⟩:=h.lead hw ht;have hpj:p=j:=by rw[<-e];exact hc.2
   subst hpj;rw[xG h hw m (p+1) (t+1) (λi q hq=>by
    by_cases e1:i=t
    .subst e1;rw[hp]at hq;injection hq with hq;omega
    .have h1:=hP i q hq;have h2:q≠p:=λe2=>e1 (h.inj (e2▸hq) hp)
     omega)]
   constructor
   .rintro⟨i,h1,h2,h3,h4⟩;exact⟨i,by omega,by omega,h3,h4⟩
   .rintro⟨i,h1,h2,h3,h4⟩;have:i≠p:=λe1=>h3 (e1▸axo hp)
    exact⟨i,by omega,by omega,h3,h4⟩
  .rename_i hc;have hjP:j∉P:=λhj=>by
    obtain⟨i,hi⟩:=axz hj;have hil:=(axp.1 hi).1;have h1:=hP i j hi;have hit:i=t:=by
     apply ayv;intro hne;have htl:t<P.length:=by omega
     have h2:=hP t P[t] (axn htl);have h3:=az1.1 h.KN t i htl hil (by omega);have h4:=(axp.1 hi).2;omega
    subst hit;refine hc ⟨by omega,?_⟩;have ht:R[i]?=some (R.getD i []):=by rw[axt,axn (show i<R.length by omega)];rfl
    obtain⟨p,hp,e,_⟩:=h.lead hw ht;rw[hi]at hp;injection hp with hp;rw[e,hp]
   rw[axI,xG h hw m (j+1) t (λi q hq=>by
    have h1:=hP i q hq;have h2:q≠j:=λe2=>hjP (e2▸axo hq)
    omega)]
   constructor
   .rintro(q|⟨i,h1,h2,h3,h4⟩)
    .exact⟨j,by omega,by omega,hjP,q⟩
    .exact⟨i,by omega,by omega,h3,h4⟩
   .rintro⟨i,h1,h2,h3,h4⟩;by_cases e:i=j
    .subst e;exact .inl h4
    .exact .inr ⟨i,by omega,by omega,h3,h4⟩
theorem vQ{F:aJ K}{R:List (List K)}(h:kJ F R R.length n P)(hw:aQ n R)(v:List K):v∈F.gJ n R↔∃i,i<n/\i∉P/\v=F.fT n R i:=by
 unfold Ops.gJ;rw[xG h hw n 0 0 λi p _=>by omega];constructor
 .rintro⟨i,h1,h2,h3,h4⟩;exact⟨i,by omega,h3,h4⟩
 .rintro⟨i,h1,h3,h4⟩;exact⟨i,by omega,by omega,h3,h4⟩
theorem Zu{F:aJ K}{R:List (List K)}(h:kJ F R R.length n P){u:Nat->K}(hu:sV F n (F.fns R) u)(h0:∀j,j<n->j∉P->u j=F.z)(j:Nat):u j=F.z:=by
 by_cases hj:j<n
 .by_cases hP:j∈P
  .obtain⟨t,ht⟩:=axz hP;have htl:=(axp.1 ht).1;have hpl:=h.pl;have hr:R[t]?=some (R[t]'(by omega)):=axn _;have:=hu.2 _ (axr.2 ⟨_,axo hr,rfl⟩);unfold aJ.dot at this;rw[F.Aq (p:=j) hj λi hi hne=>by
    by_cases hiP:i∈P
    .obtain⟨t',ht'⟩:=axz hiP;show F.mul (F.el _ i) _=F.z;rw[h.BV t' t i _ ht' hr λe=>by subst e;rw[ht]at ht';injection ht' with q;exact hne q.symm,F.gP]
    .rw[h0 i hi hiP,F.aS]]at this
   rw[show F.fn R[t] j=F.o from h.one t j _ ht hr,F.bE]at this;exact this
  .exact h0 j hj hP
 .exact hu.1 j (by omega)
theorem xE{F:aJ K}{R:List (List K)}(h:kJ F R R.length n P)(hw:aQ n R)(k:Nat->K):Sp F (F.fns (F.gJ n R)) k↔sV F n (F.fns R) k:=by
 constructor
 .refine sV.sp λq hq=>?_
  obtain⟨v,hv,rfl⟩:=axr.1 hq;obtain⟨i,hi,hP,rfl⟩:=(vQ h hw v).1 hv;exact Ir h hw hi hP
 .intro hk;have:∀t,t<=n->∃x,Sp F (F.fns (F.gJ n R)) x/\∀j,j<t->j∉P->F.add (k j) (F.mul (F.neg F.o) (x j))=F.z:=by
   intro t
   induction t with
   |zero=>intro _;exact⟨F.vz,Sp.zero F _,λj hj=>by omega⟩
   |succ t ih=>
    intro ht;obtain⟨x,hx,hz⟩:=ih (by omega);by_cases hP:t∈P
    .exact⟨x,hx,λj hj hjP=>hz j (by have:j≠t:=λe=>hjP (e▸hP);omega) hjP⟩
    .refine⟨F.va x (F.vs (F.add (k t) (F.mul (F.neg F.o) (x t))) (F.fn (F.fT n R t))),hx.step (axr.2 ⟨_,(vQ h hw _).2 ⟨t,by omega,hP,rfl⟩,rfl⟩) _,λj hj hjP=>?_⟩;show F.add (k j) (F.mul (F.neg F.o) (F.add (x j) (F.mul _ (F.el (F.fT n R t) j))))=F.z;rw[YX h hw (by omega) hjP];by_cases e:j=t
     .subst e;rw[axl rfl,F.gK,F.distrib,<-F.add_assoc,F.neg_mul F.o (F.add _ _),F.bE,F.add_neg]
     .rw[axm e,F.aS,F.dP];exact hz j (by omega) hjP
  obtain⟨x,hx,hz⟩:=this n (axk n);have hxk:sV F n (F.fns R) x:=sV.sp (λq hq=>by
   obtain⟨v,hv,rfl⟩:=axr.1 hq;obtain⟨i,hi,hP,rfl⟩:=(vQ h hw v).1 hv;exact Ir h hw hi hP) hx
  have h0:=Zu h (hk.step hxk (F.neg F.o)) λj hj hP=>hz j hj hP
  have:k=x:=funext λj=>by have e:F.add (k j) (F.mul (F.neg F.o) (x j))=F.z:=h0 j;rw[F.neg_mul,F.bE]at e;rw[F.nY e,F.neg_neg]
  rw[this];exact hx
end
section
variable {K : Type}
def Ops.unit(O:Ops K)(s i:Nat):List K:=(replicate s O.z).set i O.o
theorem tY(O:Ops K)(s i:Nat):(O.unit s i).length=s:=by unfold Ops.unit;rw[axM,axH]
theorem Bj(F:aJ K)(s i:Nat):F.el (replicate s F.z) i=F.z:=by unfold Ops.el;rw[axt,ax3];split<;>rfl
theorem wh(F:aJ K)(hi:i<s)(j:Nat):F.el (F.unit s i) j=if j=i then F.o else F.z:=by
 unfold Ops.unit;rw[sP];by_cases e:i=j
 .rw[axl ⟨e,by rw[axH];omega⟩,axl e.symm]
 .rw[axm λq=>e q.1,axm λq=>e q.symm,Bj]
theorem kV(F:aJ K)(a b:List K)(j:Nat):F.el (a++b) j=if j<a.length then F.el a j else F.el b (j-a.length):=by unfold Ops.el;rw[axt,ay1];split<;>rw[axt]
theorem nG(F:aJ K)(a:List K)(n j:Nat):F.el (a.drop n) j=F.el a (n+j):=by unfold Ops.el;rw[axt,axY,axt]
theorem pz(F:aJ K)(a:List K)(n j:Nat):F.el (a.take n) j=if j<n then F.el a j else F.z:=by
 unfold Ops.el;rw[axt,axL];split
 .rw[axt]
 .rfl
def Ops.beside(O:Ops K)(rows:List (List K)):List (List K):=rows.mapIdx λi r=>r++O.unit rows.length i
theorem oq(O:Ops K)(rows:List (List K)):(O.beside rows).length=rows.length:=by simp[Ops.beside]
theorem nO(O:Ops K)(rows:List (List K))(i:Nat):(O.beside rows)[i]?=(rows[i]?).map λr=>r++O.unit rows.length i:=by unfold Ops.beside;rw[ay3]
theorem iJ{O:Ops K}{rows:List (List K)}(h:aQ n rows):aQ (n+rows.length) (O.beside rows):=λv hv=>by
 obtain⟨i,hi⟩:=axz hv;rw[nO]at hi;cases hr:rows[i]? with
 |none=>rw[hr]at hi;cases hi
 |some r=>rw[hr]at hi;injection hi with hi;rw[<-hi,axv,tY,h r (axo hr)]
def Ops.lJ(O:Ops K)(n:Nat)(rows:List (List K)):List (List K):=((O.red n 0 0 (O.beside rows)).1.drop (O.red n 0 0 (O.beside rows)).2).map (List.drop n)
def Ops.tr(O:Ops K)(n:Nat)(rows:List (List K)):List (Nat->K):=(List.range n).map λj i=>O.el (rows.getD i []) j
theorem uS{F:aJ K}{rows:List (List K)}(hw:aQ n rows){v:Nat->K}(hv:Sp F (F.fns (F.beside rows)) v):(∀j,n+rows.length<=j->v j=F.z)/\∀j,j<n->v j=F.bD rows.length λi=>F.mul (F.el (rows.getD i []) j) (v (n+i)):=by
 refine hv (λv=>(∀j,n+rows.length<=j->v j=F.z)/\∀j,j<n->v j=F.bD rows.length λi=>F.mul (F.el (rows.getD i []) j) (v (n+i))) ⟨λ_ _=>rfl,λj _=>(F.bS λi _=>F.aS _).symm⟩ ?_;rintro u ⟨h1,h2⟩ r hr c;obtain⟨z,hz,rfl⟩:=axr.1 hr;obtain⟨i,hi⟩:=axz hz;rw[nO]at hi;cases oW:rows[i]? with
 |none=>rw[oW]at hi;cases hi
 |some r=>
  rw[oW]at hi;injection hi with hi;have hrl:=hw r (axo oW);have hil:=(axp.1 oW).1;have hzl:z.length=n+rows.length:=by rw[<-hi,axv,tY,hrl]
  refine⟨λj hj=>?_,λj hj=>?_⟩
  .show F.add (u j) (F.mul c (F.el z j))=F.z;rw[h1 j hj,Ops.dS _ (by omega),F.aS,F.bB]
  .have e0:F.el z j=F.el r j:=by rw[<-hi,kV,axl (by omega)]
   show F.add (u j) (F.mul c (F.el z j))=F.bD rows.length λi=>F.mul (F.el (rows.getD i []) j) (F.add (u (n+i)) (F.mul c (F.el z (n+i))))
   rw[h2 j hj,e0]
   symm
   refine F.yu (p:=i) ?_ hil λt ht hne=>?_
   .rw[show F.el z (n+i)=F.o by rw[<-hi,kV,axm (by omega),hrl,aya,wh F hil,axl rfl],F.gK,F.distrib,F.mul_comm _ c,show rows.getD i []=r by rw[axt,oW];rfl]
   .rw[show F.el z (n+t)=F.z by rw[<-hi,kV,axm (by omega),hrl,aya,wh F hil,axm hne],F.aS,F.dP]
theorem wD{F:aJ K}{rows:List (List K)}(hw:aQ n rows){v:Nat->K}(h1:∀j,n+rows.length<=j->v j=F.z)(h2:∀j,j<n->v j=F.bD rows.length λi=>F.mul (F.el (rows.getD i []) j) (v (n+i))):Sp F (F.fns (F.beside rows)) v:=by
 have hs:Sp F (F.fns (F.beside rows)) (λj=>F.bD rows.length λi=>F.vs (v (n+i)) (F.fn ((F.beside rows).getD i [])) j):=by
  refine Sp.bD (g:=λi=>F.vs (v (n+i)) (F.fn ((F.beside rows).getD i []))) λi hi=>Sp.smul (Sp.mem (axr.2 ⟨_,?_,rfl⟩)) _
  rw[axt,axn (show i<(F.beside rows).length by rw[oq];exact hi)];exact ax6 _
 have hz:∀i,i<rows.length->(F.beside rows).getD i []=rows.getD i []++F.unit rows.length i/\(rows.getD i []).length=n:=λi hi=>by rw[axt,nO,axn hi,axt,axn hi];exact⟨rfl,hw _ (ax6 _)⟩
 have e:v=λj=>F.bD rows.length λi=>F.vs (v (n+i)) (F.fn ((F.beside rows).getD i [])) j:=funext λj=>by
  by_cases hj:j<n
  .rw[h2 j hj];refine F.aO λi hi=>?_
   show _=F.mul (v (n+i)) (F.el ((F.beside rows).getD i []) j);rw[(hz i hi).1,kV,axl (by rw[(hz i hi).2];exact hj),F.mul_comm]
  .by_cases hj2:j<n+rows.length
   .rw[F.Aq (p:=j-n) (by omega) λi hi hne=>by
     show F.mul (v (n+i)) (F.el ((F.beside rows).getD i []) j)=F.z;rw[(hz i hi).1,kV,axm (by rw[(hz i hi).2];exact hj),(hz i hi).2,wh F hi,axm (by omega),F.aS]]
    show _=F.mul (v (n+(j-n))) (F.el ((F.beside rows).getD (j-n) []) j);rw[(hz (j-n) (by omega)).1,kV,axm (by rw[(hz (j-n) (by omega)).2];exact hj),(hz (j-n) (by omega)).2,wh F (by omega),axl rfl,F.gK,show n+(j-n)=j by omega]
   .rw[h1 j (by omega),F.bS λi hi=>?_];show F.mul _ (F.el ((F.beside rows).getD i []) j)=F.z;rw[Ops.dS _ (by rw[(hz i hi).1,axv,tY,(hz i hi).2];omega),F.aS]
 rw[e];exact hs
theorem qN{F:aJ K}{rows:List (List K)}(hw:aQ n rows)(k:Nat->K):Sp F (F.fns (F.lJ n rows)) k↔sV F rows.length (F.tr n rows) k:=by
 obtain⟨P,hE,hW⟩:=kJ.red (F:=F) n 0 0 (F.beside rows) [] (iJ hw) (kJ.start F _);rw[axT]at hE;have hsp:=yD (F:=F) n 0 0 (F.beside rows) (iJ hw);have hk:F.fns (F.lJ n rows)=(F.fns ((F.red n 0 0 (F.beside rows)).1.drop (F.red n 0 0 (F.beside rows)).2)).map λv j=>v (n+j):=by
  unfold Ops.lJ Ops.fns;rw[axO,axO];refine ax0 λv _=>funext λj=>?_
  exact nG F v n j
 constructor
 .refine sV.sp λq hq=>?_
  rw[hk]at hq;obtain⟨u,hu,rfl⟩:=axr.1 hq;obtain⟨z,hz,rfl⟩:=axr.1 hu;have hz1:=ayM hz;obtain⟨h1,h2⟩:=uS hw ((hsp _).1 (Sp.mem (axr.2 ⟨z,hz1,rfl⟩)));refine⟨λj hj=>h1 _ (by omega),λa ha=>?_⟩;obtain⟨j,hj,rfl⟩:=axr.1 ha;rw[ax5]at hj;have:=h2 j hj;unfold aJ.dot;rw[<-this];obtain⟨i,hi⟩:=axz hz;rw[axY]at hi;exact hE.low _ z (by omega) hi j hj
 .intro akf;have hv:Sp F (F.fns (F.beside rows)) (λj=>if j<n then F.z else k (j-n)):=by
   refine wD hw (λj hj=>?_) λj hj=>?_
   .rw[axm (by omega)];exact akf.1 _ (by omega)
   .rw[axl hj];have:=akf.2 _ (axr.2 ⟨j,ax5.2 hj,rfl⟩);rw[<-this];refine F.aO λi _=>?_
    rw[axm (by omega),aya]
  have hl:=hE.Zf ((hsp _).2 hv) λj hj=>by rw[axl hj]
  have:=hl.map (φ:=λv j=>v (n+j)) rfl λu r c=>rfl
  rw[hk];refine Eq.mp (congrArg _ (funext λj=>?_)) this;show(if n+j<n then F.z else k (n+j-n))=k j;rw[axm (by omega),aya]
def Ops.nN(O:Ops K)(w:Nat)(k:List K)(R:List (List K)):List K:=(k.zip R).foldl (λv q=>O.less v (O.neg q.1) q.2) (replicate w O.z)
theorem FW(F:aJ K){w:Nat}{k:List K}{R:List (List K)}(hR:aQ w R)(hl:k.length=R.length):∀m,m<=R.length->(((k.zip R).take m).foldl (λv q=>F.less v (F.neg q.1) q.2) (replicate w F.z)).length=w/\∀j,F.el (((k.zip R).take m).foldl (λv q=>F.less v (F.neg q.1) q.2) (replicate w F.z)) j=F.bD m λi=>F.mul (F.el k i) (F.el (R.getD i []) j)
 |0,_=>⟨by simp,λj=>Bj F w j⟩
 |m+1,hm=>by
  obtain⟨h1,h2⟩:=FW F hR hl m (by omega);have hz:(k.zip R)[m]?=some (k[m]'(by omega),R[m]'(by omega)):=by rw[ayD];exact⟨axn _,axn _⟩
  rw[axy,hz,ayE,azg];have hRl:(R[m]'(by omega)).length=w:=hR _ (ax6 _);refine⟨qM F.toOps h1 hRl _,λj=>?_⟩;show F.el (F.less _ (F.neg k[m]) R[m]) j=_;rw[Dm F (by rw[h1,hRl]),h2,F.neg_neg,aJ.bD,Ops.dD F.toOps (v:=k) (axn (show m<k.length by omega)),axt,axn (show m<R.length by omega)];rfl
theorem Dq(F:aJ K){w:Nat}{k:List K}{R:List (List K)}(hR:aQ w R)(hl:k.length=R.length):(F.nN w k R).length=w:=by have:=(FW F hR hl R.length (axk _)).1;rwa[axG (by rw[azE];omega)]at this
theorem KJ(F:aJ K){w:Nat}{k:List K}{R:List (List K)}(hR:aQ w R)(hl:k.length=R.length)(j:Nat):F.el (F.nN w k R) j=F.bD R.length λi=>F.mul (F.el k i) (F.el (R.getD i []) j):=by have:=(FW F hR hl R.length (axk _)).2 j;rwa[axG (by rw[azE];omega)]at this
def Ops.gW(O:Ops K)(la mid rb:Nat)(A B:List (List K))(k:List K):List K:=(O.nN (la+mid) (k.take A.length) A).take la++(O.nN (mid+rb) (k.drop A.length) B).drop mid
theorem OH(F:aJ K){la mid rb:Nat}{A B:List (List K)}(hA:aQ (la+mid) A)(hB:aQ (mid+rb) B){k:List K}(hk:k.length=A.length+B.length):(F.gW la mid rb A B k).length=la+rb:=by unfold Ops.gW;rw[axv,axx,axF,Dq F hA (by rw[axx];omega),Dq F hB (by rw[axF];omega)];omega
theorem aaW(F:aJ K){la mid rb:Nat}{A B N N':List (List K)}(hA:aQ (la+mid) A)(hB:aQ (mid+rb) B)(hN:aQ (A.length+B.length) N)(hN':aQ (A.length+B.length) N')(hs:∀v,Sp F (F.fns N) v↔Sp F (F.fns N') v):
 F.aC (la+rb) (N.map (F.gW la mid rb A B))=F.aC (la+rb) (N'.map (F.gW la mid rb A B)):=by
 have hm:∀N:List (List K),aQ (A.length+B.length) N->F.fns (N.map (F.gW la mid rb A B))=(F.fns N).map λc j=>if j<la then F.bD A.length (λi=>F.mul (c i) (F.el (A.getD i []) j))else F.bD B.length (λi=>F.mul (c (A.length+i)) (F.el (B.getD i []) (mid+(j-la)))):=λN hN=>by
  unfold Ops.fns;rw[axO,axO];refine ax0 λk hk=>funext λj=>?_
  have hkl:=hN k hk;show F.el (F.gW la mid rb A B k) j=if j<la then F.bD A.length (λi=>F.mul (F.el k i) (F.el (A.getD i []) j))else F.bD B.length (λi=>F.mul (F.el k (A.length+i)) (F.el (B.getD i []) (mid+(j-la))))
  unfold Ops.gW;have hta:(k.take A.length).length=A.length:=by rw[axx];omega
  have htb:(k.drop A.length).length=B.length:=by rw[axF];omega
  rw[kV,show((F.nN (la+mid) (k.take A.length) A).take la).length=la by rw[axx,Dq F hA hta];omega];split
  .rename_i hj;rw[pz,axl hj,KJ F hA hta];refine F.aO λi hi=>?_
   rw[pz,axl hi]
  .rw[nG,KJ F hB htb];refine F.aO λi hi=>?_
   rw[nG]
 have hw:∀N:List (List K),aQ (A.length+B.length) N->aQ (la+rb) (N.map (F.gW la mid rb A B)):=λN hN v hv=>by obtain⟨k,hk,rfl⟩:=axr.1 hv;exact OH F hA hB (hN k hk)
 refine JA F (hw N hN) (hw N' hN') λv=>?_
 rw[hm N hN,hm N' hN'];refine Sp.Zd (funext λj=>?_) (λu r c=>funext λj=>?_) hs v
 .show(if j<la then _ else _)=F.z;split
  .exact F.bS λ_ _=>F.gP _
  .exact F.bS λ_ _=>F.gP _
 .show(if j<la then _ else _)=F.add (if j<la then _ else _) (F.mul c (if j<la then _ else _));split
  .rw[<-F.lZ,<-F.nQ];refine F.aO λi _=>?_
   show F.mul (F.add (u i) (F.mul c (r i))) _=_;rw[F.lT,F.mul_assoc]
  .rw[<-F.lZ,<-F.nQ];refine F.aO λi _=>?_
   show F.mul (F.add (u _) (F.mul c (r _))) _=_;rw[F.lT,F.mul_assoc]
end
def sh(u:Nat->Int):Nat->Int
 |0=>0
 |n+1=>u n
def act:List Int->(Nat->Int)->Nat->Int
 |[],_=>λ_=>0
 |a::az,u=>λn=>a*u n+sh (act az u) n
def one:Nat->Int
 |0=>1
 |_+1=>0
theorem dn(a:Int)(az:List Int)(u:Nat->Int)(n:Nat):act (a::az) u n=a*u n+sh (act az u) n:=rfl
theorem X0(u v:Nat->Int)(n:Nat):sh (λi=>u i+v i) n=sh u n+sh v n:=by cases n<;>rfl
theorem XZ(c:Int)(u:Nat->Int)(n:Nat):sh (λi=>c*u i) n=c*sh u n:=by
 cases n with
 |zero=>simp[sh]
 |succ n=>rfl
theorem Dw(f:List Int)(u v:Nat->Int):act f (λi=>u i+v i)=λn=>act f u n+act f v n:=by
 induction f with
 |nil=>funext n;simp[act]
 |cons a az ih=>funext n;simp only[dn,ih,X0,Int.mul_add];omega
theorem zR(f:List Int)(c:Int)(u:Nat->Int):act f (λi=>c*u i)=λn=>c*act f u n:=by
 induction f with
 |nil=>funext n;simp[act]
 |cons a az ih=>funext n;simp only[dn,ih,XZ,Int.mul_add,Int.mul_left_comm]
theorem ag9(f:List Int)(u:Nat->Int):act f (sh u)=sh (act f u):=by
 induction f with
 |nil=>funext n;cases n<;>rfl
 |cons a az ih=>
  funext n;rw[dn,ih];cases n with
  |zero=>simp[sh]
  |succ n=>rfl
theorem aa8(f:List Int):act f (λ_=>0)=λ_=>0:=by have:=zR f 0 (λ_=>0);simpa using this
theorem alP(f:List Int)(u v:Nat->Int):act f (λi=>u i-v i)=λn=>act f u n-act f v n:=by
 have h:=Dw f u (λi=> -1*v i);rw[zR]at h;have e:(λi=>u i-v i)=λi=>u i+ -1*v i:=by funext i;omega
 rw[e,h];funext n;show _+ -1*_=_;omega
theorem zS(f g:List Int)(u:Nat->Int):act f (act g u)=act g (act f u):=by
 induction f with
 |nil=>rw[show act [] u=λ_=>0 from rfl,aa8];rfl
 |cons a az ih=>
  have e:act (a::az) u=λn=>a*u n+sh (act az u) n:=rfl
  rw[e,Dw,zR,ag9,<-ih];rfl
theorem O3(f g:List Int):∃q,∀u,act q u=act f (act g u):=by
 induction f with
 |nil=>exact⟨[],λu=>rfl⟩
 |cons a az ih=>
  obtain⟨q,hq⟩:=ih;obtain⟨s,hs⟩:∃s,∀u,act s u=λn=>a*act g u n+act (0::q) u n:=by
   generalize 0::q=t;clear hq
   induction g generalizing t with
   |nil=>exact⟨t,λu=>by funext n;simp[act]⟩
   |cons b bs ihg=>
    cases t with
    |nil=>
     obtain⟨s,hs⟩:=ihg [];exact⟨a*b::s,λu=>by
      funext n;have h0:=congrFun (hs u);rw[dn,dn];cases n with
      |zero=>simp[sh,act,ayR]
      |succ n=>simp only[sh];rw[h0 n];simp[act,Int.mul_add,ayR]⟩
    |cons c cs=>
     obtain⟨s,hs⟩:=ihg cs;exact⟨(a*b+c)::s,λu=>by
      funext n;have h0:=congrFun (hs u);rw[dn,dn,dn];cases n with
      |zero=>simp[sh,ayR,Int.add_mul]
      |succ n=>
       simp only[sh];rw[h0 n];simp only[Int.mul_add,ayR,Int.add_mul];omega⟩
  refine⟨s,λu=>?_⟩;rw[hs];funext n;rw[dn,dn,hq];simp
theorem FY:∀(f:List Int),cf f=act f one
 |[]=>by funext n;rfl
 |a::az=>by
  funext n;rw[dn];cases n with
  |zero=>simp[Dr,one,sh]
  |succ n=>rw[zL,FY az];simp[one,sh]
theorem fq(f g:List Int):act f (cf g)=act g (cf f):=by rw[FY g,zS,<-FY]
theorem aaN(a:Int)(az g:List Int)(n k:Nat):Lc (a::az) g n (k+1)=a*cf g n+sh (λm=>Lc az g m k) n:=by
 induction k with
 |zero=>cases n<;>simp[Lc,sh,Dr]
 |succ k ih=>
  rw[Lc,ih];cases n with
  |zero=>simp[sh]
  |succ n=>
   simp only[sh,Lc,zL,Nat.add_le_add_iff_right];have:n+1-(k+1)=n-k:=by omega
   rw[this];omega
theorem KH:∀(f g:List Int) (n:Nat),Lc f g n f.length=act f (cf g) n
 |[],g,n=>rfl
 |a::az,g,n=>by rw[axR,aaN,dn];congr 2;funext m;exact KH az g m
def aV(p:Int)(u v:Nat->Int):Prop:=∀n,p ∣ u n-v n
theorem aV.refl(p:Int)(u:Nat->Int):aV p u u:=λn=>by rw[Int.sub_self];exact Int.dvd_zero _
theorem aV.of_eq{v:Nat->Int}(h:u=v):aV p u v:=h▸aV.refl p u
theorem aV.symm{v:Nat->Int}(h:aV p u v):aV p v u:=λn=>by have:=(Int.dvd_neg (a:=p)).2 (h n);rwa[Int.neg_sub]at this
theorem aV.trans{v w:Nat->Int}(h:aV p u v)(k:aV p v w):aV p u w:=λn=>by have:=ay5 (h n) (k n);rwa[show u n-v n+(v n-w n)=u n-w n by omega]at this
theorem aV.add{v u' v':Nat->Int}(h:aV p u v)(k:aV p u' v'):aV p (λn=>u n+u' n) (λn=>v n+v' n):=λn=>by have:=ay5 (h n) (k n);rwa[show u n-v n+(u' n-v' n)=u n+u' n-(v n+v' n) by omega]at this
theorem aV.mul{v:Nat->Int}(c:Int)(h:aV p u v):aV p (λn=>c*u n) (λn=>c*v n):=λn=>by have:=Int.dvd_trans (h n) (Int.dvd_mul_left c _);show p ∣ c*u n-c*v n;rwa[Int.mul_sub]at this
theorem aV.sh{v:Nat->Int}(h:aV p u v):aV p (sh u) (sh v):=λn=>by
 cases n with
 |zero=>exact Int.dvd_zero _
 |succ n=>exact h n
theorem aV.act{v:Nat->Int}(f:List Int)(h:aV p u v):aV p (act f u) (act f v):=by
 induction f with
 |nil=>exact aV.refl _ _
 |cons a az ih=>exact(h.mul a).add ih.sh
theorem aV.emod(u:Nat->Int):aV p (λn=>u n%p) u:=λn=>by exact Int.dvd_sub_self_of_emod_eq rfl
theorem aV.Dl{v:Nat->Int}(h:aV p u v)(n:Nat):u n%p=v n%p:=Int.emod_eq_emod_iff_emod_sub_eq_zero.2 (az3 (h n))
theorem aV.list(h:aV p (cf f) (cf g))(hp:0<p)(hf:aA p f=true)(hg:aA p g=true)(tf:Tr f)(tg:Tr g):f=g:=by
 unfold Tr at tf tg;rw[<-tf,<-tg];refine t_ λi=>?_
 have:=h.Dl i;have b1:=iO hf hp i;have b2:=iO hg hp i;rwa[ayl b1.1 b1.2,ayl b2.1 b2.2]at this
theorem aV.WV(h:aV p (cf f) (cf g))(u:List Int):aV p (Go.Proofs.YthgiffhlfcmgaaaGreatDoor.act f (cf u)) (Go.Proofs.YthgiffhlfcmgaaaGreatDoor.act g (cf u)):=by rw[fq f,fq g];exact h.act u
theorem Qt(hp:0<p)(f g:List Int):aV p (cf (iw p f g)) (act f (cf g)):=by
 have e:cf (iw p f g)=λn=>act f (cf g) n%p:=by funext n;rw[M7 hp,KH]
 rw[e];exact aV.emod _
theorem bf(hp:0<p)(f g:List Int):aV p (cf (aB p f g)) (act f (cf g)):=by
 have e:cf (aB p f g)=cf (iw p f g):=by funext n;exact gX _ n
 rw[e];exact Qt hp f g
theorem vI(hp:0<p)(hf:aA p f=true)(b:Int)(g:List Int):aV p (cf (bQ p f b g)) (λn=>cf f n+b*cf g n):=by
 have e:cf (bQ p f b g)=λn=>(cf f n+b*cf g n)%p:=by funext n;exact Tn p b g hf hp n
 rw[e];exact aV.emod _
theorem O1(q:List Int)(c:Int)(u:Nat->Int)(n:Nat):act (q++[c]) u n=act q u n+if q.length<=n then c*u (n-q.length)else 0:=by
 induction q generalizing n with
 |nil=>simp[act,dn];cases n<;>simp[sh]
 |cons a az ih=>
  rw[List.cons_append,dn,dn];cases n with
  |zero=>simp[sh]
  |succ n=>simp only[sh,ih,axR,Nat.add_le_add_iff_right,Nat.add_sub_add_right];omega
theorem R4(p:Int)(g:List Int)(b:Int)(k:Nat):∀r,k+g.length-1<=r.length->g≠[]->aV p (cf r) (λn=>act (bU p g b k r).1 (cf g) n+cf (bU p g b k r).2 n):=by
 induction k with
 |zero=>intro r _ _;exact aV.of_eq (by funext n;simp[bU,act])
 |succ k ih=>
  intro r hr hg;have hgl:=axB.2 hg;have h:=ih (bI p r k (-(cf r (k+g.length-1)*b%p)) g) (by rw[aX];omega) hg;rw[bU];have hl:=(qX p g b k (bI p r k (-(cf r (k+g.length-1)*b%p)) g)).1;intro n;have hn:=h n;simp only[O1,hl];have ha:=jl p r k (-(cf r (k+g.length-1)*b%p)) g n;generalize cf r (k+g.length-1)*b%p=c at*;by_cases hlt:n<r.length
  .rw[axl hlt]at ha;split at ha
   .rename_i hh;rw[axl hh.1];have hd:p ∣ cf r n+ -c*cf g (n-k)-cf (bI p r k (-c) g) n:=by rw[ha];exact Int.dvd_self_sub_of_emod_eq rfl
    have:=ay5 hd hn;rw[Int.neg_mul]at this;rwa[show∀x y z w v:Int,x+ -y-z+(z-(w+v))=x-(w+y+v) by intros;omega]at this
   .rename_i hh;rw[ha]at hn;have e:(if k<=n then c*cf g (n-k)else 0)=0:=by
     split
     .rw[iN (by omega:g.length<=n-k)];simp
     .rfl
    rw[e,Int.add_zero];exact hn
  .rw[axm hlt]at ha;rw[iN (by omega:r.length<=n)];rw[ha]at hn;have e:(if k<=n then c*cf g (n-k)else 0)=0:=by
    split
    .rw[iN (by omega:g.length<=n-k)];simp
    .rfl
   rw[e,Int.add_zero];exact hn
theorem vF(f:List Int)(hg:g≠[]):aV p (cf f) (λn=>act (bH p f g) (cf g) n+cf (dY p f g) n):=by
 have hgl:=axB.2 hg;rw[bH,dY];split
 .exact aV.of_eq (by funext n;simp[act])
 .have h:=R4 p g (dh p (cf g (g.length-1))) (f.length-g.length+1) f (by omega) hg;have e1:cf (trim (bU p g (dh p (cf g (g.length-1))) (f.length-g.length+1) f).2)=cf (bU p g (dh p (cf g (g.length-1))) (f.length-g.length+1) f).2:=by funext n;exact gX _ n
  have e2:cf (trim (bU p g (dh p (cf g (g.length-1))) (f.length-g.length+1) f).1)=cf (bU p g (dh p (cf g (g.length-1))) (f.length-g.length+1) f).1:=by funext n;exact gX _ n
  rw[fq,e2,<-fq,e1];exact h
def bn(p:Int)(m:List Int)(u:Nat->Int):Prop:=∃q,aV p u (act q (cf m))
theorem aa9(a b:List Int):∃s,∀u,act s u=λn=>act a u n+act b u n:=by
 induction a generalizing b with
 |nil=>exact⟨b,λu=>by funext n;simp[act]⟩
 |cons x xs ih=>
  cases b with
  |nil=>exact⟨x::xs,λu=>by funext n;simp[act]⟩
  |cons y ys=>
   obtain⟨s,hs⟩:=ih ys;exact⟨(x+y)::s,λu=>by
    funext n;rw[dn,dn,dn,hs,X0,Int.add_mul];omega⟩
theorem WW(c:Int)(a:List Int):∃s,∀u,act s u=λn=>c*act a u n:=by
 induction a with
 |nil=>exact⟨[],λu=>by funext n;simp[act]⟩
 |cons x xs ih=>
  obtain⟨s,hs⟩:=ih;exact⟨(c*x)::s,λu=>by
   funext n;rw[dn,dn,hs,XZ,Int.mul_add,ayR]⟩
theorem bn.FQ{v:Nat->Int}(h:bn p m u)(k:aV p v u):bn p m v:=by obtain⟨q,hq⟩:=h;exact⟨q,k.trans hq⟩
theorem bn.add{v:Nat->Int}(h:bn p m u)(k:bn p m v):bn p m (λn=>u n+v n):=by obtain⟨q,hq⟩:=h;obtain⟨r,hr⟩:=k;obtain⟨s,hs⟩:=aa9 q r;exact⟨s,by rw[hs];exact hq.add hr⟩
theorem bn.mul(h:bn p m u)(c:Int):bn p m (λn=>c*u n):=by obtain⟨q,hq⟩:=h;obtain⟨s,hs⟩:=WW c q;exact⟨s,by rw[hs];exact hq.mul c⟩
theorem bn.sub{v:Nat->Int}(h:bn p m u)(k:bn p m v):bn p m (λn=>u n-v n):=by have:=h.add (k.mul (-1));exact this.FQ (aV.of_eq (by funext n;omega))
theorem bn.act(h:bn p m u)(f:List Int):bn p m (act f u):=by obtain⟨q,hq⟩:=h;obtain⟨s,hs⟩:=O3 f q;exact⟨s,by rw[hs];exact hq.act f⟩
theorem bn.self(p:Int)(m q:List Int):bn p m (Go.Proofs.YthgiffhlfcmgaaaGreatDoor.act q (cf m)):=⟨q,aV.refl _ _⟩
theorem Dv(u:Nat->Int):act [1] u=u:=by funext n;cases n<;>simp[act,sh]
theorem bn.SV(p:Int)(m:List Int):bn p m (cf m):=⟨[1],aV.of_eq (Dv _).symm⟩
theorem bn.trans{k:List Int}(h:bn p m u)(hk:bn p k (cf m)):bn p k u:=by obtain⟨q,hq⟩:=h;exact(hk.act q).FQ hq
theorem bn.zero(p:Int)(m:List Int):bn p m (λ_=>0):=⟨[],aV.of_eq rfl⟩
theorem KP:∀(q g:List Int),q≠[]->g≠[]->act q (cf g) (q.length+g.length-2)=cf q (q.length-1)*cf g (g.length-1):=λq g hq hg=>by
 rw[<-KH];rcases Uo q g hq with h|h
 .exact h
 .exact absurd h hg
def red(p:Int)(q:List Int):List Int:=trim (q.map (·%p))
theorem afE(p:Int)(q:List Int)(n:Nat):cf (red p q) n=cf q n%p:=by rw[red,gX,cf,cf,axw];cases q[n]?<;>simp
theorem Qm(hp:0<p)(q:List Int):aA p (red p q)=true:=mZ (ji λi x hx=>by
 rw[axw]at hx;cases h:q[i]? with
 |none=>rw[h]at hx;cases hx
 |some y=>rw[h]at hx;injection hx with hx;subst hx;exact⟨ayh _ (by omega),ayi _ hp⟩)
theorem Ql(p:Int)(q:List Int):Tr (red p q):=Tr.trim _
theorem Ee(p:Int)(q:List Int):aV p (cf (red p q)) (cf q):=by
 have e:cf (red p q)=λn=>cf q n%p:=by funext n;exact afE p q n
 rw[e];exact aV.emod _
theorem Vd(hF:av p=true)(hm:aA p m=true)(tm:Tr m)(hm0:m≠[]){q:List Int}(h:aV p u (act q (cf m)))(hu:∀n,m.length-1<=n->p ∣ u n):red p q=[]:=by
 have h2:=ax hF;have hml:=axB.2 hm0;have h':aV p u (act (red p q) (cf m)):=h.trans ((Ee p q).symm.WV m);cases hq:red p q with
 |nil=>rfl
 |cons a az=>
  exfalso;have hr0:red p q≠[]:=by rw[hq];simp
  have hrl:=axB.2 hr0;have hk:=h' ((red p q).length+m.length-2);rw[KP _ _ hr0 hm0]at hk;have hd:=Int.dvd_sub (hu ((red p q).length+m.length-2) (by omega)) hk;rw[show∀x y:Int,x-(x-y)=y by intros;omega]at hd;have b1:=iO (Qm (show 0<p by omega) q) (show 0<p by omega) ((red p q).length-1);have b2:=iO hm (show 0<p by omega) (m.length-1);have n1:=(Ql p q).last hr0;have n2:=tm.last hm0;exact noz hF ⟨by omega,b1.2⟩ ⟨by omega,b2.2⟩ (az3 hd)
theorem bn.small(hF:av p=true)(hm:aA p m=true)(tm:Tr m)(hm0:m≠[])(h:bn p m u)(hu:∀n,m.length-1<=n->p ∣ u n):aV p u (λ_=>0):=by obtain⟨q,hq⟩:=h;have h0:=Vd hF hm tm hm0 hq hu;refine hq.trans ?_;have:=(Ee p q).symm.WV m;rw[h0]at this;exact this
theorem bn.le(hF:av p=true)(hm:aA p m=true)(tm:Tr m)(hm0:m≠[])(hf:aA p f=true)(tf:Tr f)(hf0:f≠[])(h:bn p m (cf f)):
 ∃q,aA p q=true/\Tr q/\q≠[]/\aV p (cf f) (Go.Proofs.YthgiffhlfcmgaaaGreatDoor.act q (cf m))/\q.length+m.length-1<=f.length:=by
 have h2:=ax hF;obtain⟨q,hq⟩:=h;have hq':aV p (cf f) (Go.Proofs.YthgiffhlfcmgaaaGreatDoor.act (red p q) (cf m)):=hq.trans ((Ee p q).symm.WV m);have hml:=axB.2 hm0;have hr0:red p q≠[]:=by intro e;rw[e]at hq';exact hf0 (aV.list (g:=[]) hq' (by omega) hf rfl tf Tr.nil)
 refine⟨red p q,Qm (by omega) q,Ql p q,hr0,hq',?_⟩;have hrl:=axB.2 hr0;rcases ax9 f.length ((red p q).length+m.length-1)with hl|hl
 .exfalso;have hk:=hq' ((red p q).length+m.length-2);rw[KP _ _ hr0 hm0,iN (by omega:f.length<=(red p q).length+m.length-2)]at hk;have hd:p ∣ cf (red p q) ((red p q).length-1)*cf m (m.length-1):=by
   have:=Int.dvd_neg.2 hk;simpa using this
  have b1:=iO (Qm (show 0<p by omega) q) (show 0<p by omega) ((red p q).length-1);have b2:=iO hm (show 0<p by omega) (m.length-1);have n1:=(Ql p q).last hr0;have n2:=tm.last hm0;exact noz hF ⟨by omega,b1.2⟩ ⟨by omega,b2.2⟩ (az3 hd)
 .exact hl
theorem bn.aiL(hF:av p=true)(hm:aA p m=true)(tm:Tr m)(hm0:m≠[])(hf:aA p f=true)(tf:Tr f)(hf0:f≠[])(h:bn p m (cf f))(k:bn p f (cf m))
 (hm1:cf m (m.length-1)=1) (hf1:cf f (f.length-1)=1):m=f:=by
 have h2:=ax hF;obtain⟨q,hq,tq,hq0,hc,hl⟩:=h.le hF hm tm hm0 hf tf hf0;obtain⟨r,hr,tr,hr0,hc',hl'⟩:=k.le hF hf tf hf0 hm tm hm0;have hql:=axB.2 hq0;have hrl:=axB.2 hr0;have hml:=axB.2 hm0;have hfl:=axB.2 hf0;have hq1:q.length=1:=by omega
 have htop:=hc (q.length+m.length-2);rw[KP _ _ hq0 hm0,hm1,show q.length+m.length-2=f.length-1 by omega,hf1]at htop
 match q,hq1 with
 |[c],_=>
  have bc:=iO hq (show 0<p by omega) 0;simp only[ayt,ayd,Dr,Int.mul_one]at htop bc;have hc1:c=1:=by
   obtain⟨z,hz⟩:=htop;rcases Int.lt_trichotomy z 0 with hzz|hzz|hzz
   .have:=Int.mul_le_mul_of_nonneg_left (show z<= -1 by omega) (show 0<=p by omega);omega
   .subst hzz;omega
   .have:=Int.mul_le_mul_of_nonneg_left (show 1<=z by omega) (show 0<=p by omega);omega
  subst hc1;rw[Dv]at hc;exact(aV.list hc (by omega) hf hm tf tm).symm
theorem N9(hF:av p=true):∀(n:Nat) {f g:List Int},aA p f=true->aA p g=true->Tr f->Tr g->g.length<=n->bn p (gcdL p n f g) (cf f)/\bn p (gcdL p n f g) (cf g)
 |n,f,g,hf,hg,tf,tg,hn=>by
  by_cases h0:g=[]
  .subst h0;rw[zn];exact⟨bn.SV _ _,bn.zero _ _⟩
  .have hgl:=axB.2 h0;obtain⟨n,rfl⟩:∃k,n=k+1:=⟨n-1,by omega⟩;have h2:=ax hF;have hl:=mE hF hf hg tg h0;rw[qV _ _ _ h0];obtain⟨i1,i2⟩:=N9 hF n hg (mF (by omega) hf g) tg (mD p tf g) (by omega);exact⟨((i1.act (bH p f g)).add i2).FQ (vF f h0),i1⟩
theorem TW{k:List Int}:∀(n:Nat) {f g:List Int},bn p k (cf f)->bn p k (cf g)->bn p k (cf (gcdL p n f g))
 |0,f,g,h,_=>h
 |n+1,f,g,h,h'=>by
  rw[gcdL];split
  .exact h
  .rename_i h0;refine TW n h' ?_;have:=h.sub (h'.act (bH p f g));refine this.FQ ?_;have hc:=vF (p:=p) f h0;intro i;have:=Int.dvd_neg.2 (hc i);rwa[show∀x y z:Int, -(x-(y+z))=z-(x-y) by intros;omega]at this
theorem aaf(hF:av p=true)(hf:aA p f=true)(hg:aA p g=true)(tf:Tr f)(tg:Tr g):bn p (kT p f g) (cf f)/\bn p (kT p f g) (cf g):=N9 hF _ hf hg tf tg (by omega)
theorem adk{k:List Int}(h:bn p k (cf f))(h':bn p k (cf g)):bn p k (cf (kT p f g)):=TW _ h h'
theorem Ic(hp:0<p)(b:Int)(g:List Int):bn p g (cf (aW p b g)):=by have h:=vI hp (f:=[]) rfl b g;refine((bn.SV p g).mul b).FQ ?_;refine h.trans (aV.of_eq ?_);funext n;simp[jh]
theorem Bl(hp:0<p){b c:Int}(hbc:b*c%p=1%p)(g:List Int):bn p (aW p b g) (cf g):=by have h:=vI hp (f:=[]) rfl b g;refine((bn.SV p (aW p b g)).mul c).FQ ?_;intro n;have h1:p ∣ b*c-1:=Int.dvd_of_emod_eq_zero (by rw[Int.sub_emod,hbc,Int.sub_self,Int.zero_emod]);have h2:=Int.dvd_trans (h n) (Int.dvd_mul_left c _);have h3:=Int.dvd_trans h1 (Int.dvd_mul_left (cf g n) _);show p ∣ cf g n-c*cf (aW p b g) n;have:=Int.dvd_neg.2 (ay5 h2 h3);simp only[jh,azc]at this;rw[Int.mul_sub,Int.mul_sub,Int.mul_one,<-ayR,ay2 c b,ay2 (cf g n) (b*c)]at this;rwa[aW,show∀x y z:Int,z-x= -(x-y+(y-z)) by intros;omega]
theorem J5(hF:av p=true)(hf:aA p f=true)(hg:aA p g=true)(tf:Tr f)(tg:Tr g)(h0:f≠[]∨g≠[]):bn p (bZ p f g) (cf (kT p f g))/\bn p (kT p f g) (cf (bZ p f g)):=by have h2:=ax hF;have hE:=T_ (show 0<p by omega) hf hg;have hT:=TY p tf tg;have hN:=J6 p h0;have b:=iO hE (show 0<p by omega) ((kT p f g).length-1);have n1:=hT.last hN;refine⟨?_,Ic (by omega) _ _⟩;rw[bZ,eU];exact Bl (by omega) (c:=cf (kT p f g) ((kT p f g).length-1)) (by rw[ay2,inv_mul hF (by omega) b.2,ayl (by omega) (by omega)]) _
theorem uK(hF:av p=true)(hf:aA p f=true)(hg:aA p g=true)(tf:Tr f)(tg:Tr g)(h0:f≠[]∨g≠[]):bn p (bZ p f g) (cf f)/\bn p (bZ p f g) (cf g):=by have h:=J5 hF hf hg tf tg h0;have k:=aaf hF hf hg tf tg;exact⟨k.1.trans h.1,k.2.trans h.1⟩
theorem TV(hF:av p=true){k:List Int}(hf:aA p f=true)(hg:aA p g=true)(tf:Tr f)(tg:Tr g)(h0:f≠[]∨g≠[])(h:bn p k (cf f))(h':bn p k (cf g)):bn p k (cf (bZ p f g)):=
 (J5 hF hf hg tf tg h0).2.trans (adk h h')
theorem vv(hF:av p=true)(hf:aA p f=true)(hd:aA p d=true)(td:Tr d)(hd0:d≠[])(h:bn p d (cf f)):aV p (cf f) (act (bH p f d) (cf d)):=by
 have h2:=ax hF;have hc:=vF (p:=p) f hd0;have hr:aV p (cf (dY p f d)) (λ_=>0):=by
  refine bn.small hF hd td hd0 ?_ ?_
  .refine(h.sub (bn.self p d (bH p f d))).FQ ?_;intro n;have:=hc n;have e:cf (dY p f d) n-(cf f n-act (bH p f d) (cf d) n)= -(cf f n-(act (bH p f d) (cf d) n+cf (dY p f d) n)):=by omega
   rw[e];exact Int.dvd_neg.2 this
  .intro n hn;have hl:=mE hF hf hd td hd0;rw[iN (by omega)];exact Int.dvd_zero _
 refine hc.trans ?_;intro n;have:=hr n;rw[Int.sub_zero]at this;have e:act (bH p f d) (cf d) n+cf (dY p f d) n-act (bH p f d) (cf d) n=cf (dY p f d) n:=by omega
 rw[e];exact this
theorem mul_div(hp:0<p){q e:List Int}(h:aV p (cf f) (act q (cf d)))(k:bn p e (cf q)):bn p (aB p d e) (cf f):=by obtain⟨s,hs⟩:=k;refine⟨s,h.trans ?_⟩;rw[fq];refine(hs.act d).trans ?_;rw[zS];exact((bf hp d e).symm).act s
theorem inv_pos{a:Int}(hF:av p=true)(h0:0<a)(ha:a<p):0<dh p a/\dh p a<p:=by
 have h2:=ax hF;have hi:=kS a h2;have hm:=inv_mul hF h0 ha;have:dh p a≠0:=by intro e;rw[e]at hm;simp at hm
 omega
theorem IC(hF:av p=true)(hn:aA p num=true)(hd:aA p den=true)(tn:Tr num)(td:Tr den)(hd0:den≠[]):0<jG p num den/\jG p num den<p:=by
 have h2:=ax hF;have hml:=qK hF hn hd tn td hd0;have hme:aA p (dQ p num den)=true:=kP (by omega) hd _;have hmt:Tr (dQ p num den):=qG _ _ _;have hm0:dQ p num den≠[]:=by intro e;rw[e]at hml;simp at hml
 have hb:=iO hme (show 0<p by omega) ((dQ p num den).length-1);have hl:=hmt.last hm0;exact inv_pos hF (by omega) hb.2
theorem A_(hF:av p=true)(hn:aA p num=true)(hd:aA p den=true)(tn:Tr num)(td:Tr den)(hd0:den≠[]):
 aA p (a_ p num den)=true/\aA p (aY p num den)=true/\Tr (a_ p num den)/\Tr (aY p num den)/\aY p num den≠[]/\(a_ p num den).length<=num.length/\(aY p num den).length<=den.length/\cf (aY p num den) ((aY p num den).length-1)=1:=by
 have h2:=ax hF;have hdl:=axB.2 hd0;by_cases hn0:num=[]
 .rw[a_,aY,axl hn0,axl hn0];exact⟨rfl,KC h2,rfl,rfl,by simp,by simp,by simp;omega,rfl⟩
 .obtain⟨hml,hg1,hgd⟩:=qK hF hn hd tn td hd0;have hme:aA p (dQ p num den)=true:=kP (by omega) hd _;have hmt:Tr (dQ p num den):=qG _ _ _;have hm0:dQ p num den≠[]:=by intro e;rw[e]at hml;simp at hml
  have hmon:=sG hF hme hmt hm0;have hLD:aY p num den=eU p (dQ p num den):=by rw[aY,axm hn0,jG,eU]
  have hby:=IC hF hn hd tn td hd0;have hg0:=lW hF hn hd tn td (.inr hd0);have hge:=nD (p:=p) (show 0<p by omega) num den;have hgt:=o_ p num den;have hnl:=axB.2 hn0;have hqe:aA p (bH p num (bZ p num den))=true:=kP (by omega) hn _;have hqt:Tr (bH p num (bZ p num den)):=qG _ _ _;refine⟨?_,?_,?_,?_,?_,?_,?_,?_⟩
  .rw[a_,axm hn0];exact yL (jZ p) (by omega) _ _
  .rw[aY,axm hn0];exact yL (jZ p) (by omega) _ _
  .rw[a_,axm hn0];exact vH _ _ _ _
  .rw[aY,axm hn0];exact vH _ _ _ _
  .intro e;rw[hLD]at e;have:=hmon.1;rw[e]at this;exact hm0 (ayp this.symm)
  .rw[a_,axm hn0,Qs hF hby hqe hqt];have:=M8 p num (bZ p num den);omega
  .rw[hLD,hmon.1,hml];omega
  .rw[hLD,hmon.1];exact hmon.2
theorem acG(hF:av p=true)(hn:aA p num=true)(hd:aA p den=true)(tn:Tr num)(td:Tr den)(hd0:den≠[]):
 (bZ p (a_ p num den) (aY p num den)).length=1:=by
 have h2:=ax hF;have hp:0<p:=by omega
 by_cases hn0:num=[]
 .rw[a_,aY,axl hn0,axl hn0];have:=(Nq hF (num:=[]) (den:=[1]) rfl (KC h2) rfl rfl (by simp)).1 ⟨by rw[a_,axl rfl],by rw[aY,axl rfl]⟩;exact this.2
 .obtain⟨hNe,hDe,hNt,hDt,hD0,_,_,_⟩:=A_ hF hn hd tn td hd0;have hby:=IC hF hn hd tn td hd0;have hg0:=lW hF hn hd tn td (.inr hd0);have hge:=nD (p:=p) hp num den;have hgt:=o_ p num den;have hdiv:=uK hF hn hd tn td (.inr hd0);have aeA:=uK hF hNe hDe hNt hDt (.inr hD0);have hne':=lW hF hNe hDe hNt hDt (.inr hD0);have hge':=nD (p:=p) hp (a_ p num den) (aY p num den);have anV:=o_ p (a_ p num den) (aY p num den);generalize hd':bZ p (a_ p num den) (aY p num den)=d' at*;have hb:jG p num den*dh p (jG p num den)%p=1%p:=by
   rw[inv_mul hF hby.1 hby.2,ayl (by omega) (by omega)]
  have eN:a_ p num den=aW p (jG p num den) (bH p num (bZ p num den)):=by rw[a_,axm hn0]
  have eD:aY p num den=aW p (jG p num den) (bH p den (bZ p num den)):=by rw[aY,axm hn0,dQ]
  have k1:bn p d' (cf (bH p num (bZ p num den))):=(Bl hp hb _).trans (by rw[<-eN];exact aeA.1);have k2:bn p d' (cf (bH p den (bZ p num den))):=(Bl hp hb _).trans (by rw[<-eD];exact aeA.2);have m1:=mul_div hp (vv hF hn hge hgt hg0 hdiv.1) k1;have m2:=mul_div hp (vv hF hd hge hgt hg0 hdiv.2) k2;have m3:=TV hF hn hd tn td (.inr hd0) m1 m2;have hlen:=yK hF hge hge' hgt anV hg0 hne';have hpe:=lV (p:=p) hp (bZ p num den) d';have hpt:Tr (aB p (bZ p num den) d'):=Tr.trim _;have l1:=axB.2 hg0;have l2:=axB.2 hne';have hp0:aB p (bZ p num den) d'≠[]:=by intro e;rw[e]at hlen;simp at hlen;omega
  obtain⟨q,_,_,hq0,_,hle⟩:=bn.le hF hpe hpt hp0 hge hgt hg0 m3;have l3:=axB.2 hq0;omega
theorem Vu(hF:av p=true)(hn:aA p num=true)(hd:aA p den=true)(tn:Tr num)(td:Tr den)(hd0:den≠[]):
 aW p (jG p num den) (bH p num (bZ p num den))=a_ p num den/\aW p (jG p num den) (dQ p num den)=aY p num den:=by
 have h2:=ax hF;have hdl:=axB.2 hd0;by_cases hn0:num=[]
 .obtain⟨hml,hg1,hgd⟩:=qK hF hn hd tn td hd0;have hme:aA p (dQ p num den)=true:=kP (by omega) hd _;have hmt:Tr (dQ p num den):=qG _ _ _;have hm0:dQ p num den≠[]:=by intro e;rw[e]at hml;simp at hml
  have hmon:=sG hF hme hmt hm0;have hr:dY p [] den=[]:=by rw[dY,axl (by simpa using hdl)]
  have hE:kT p [] den=den:=by rw[qW hF (jZ p) hd Tr.nil td hd0,hr,zo]
  have hgl:=(qU hF hn hd tn td (.inr hd0)).1;rw[hn0,hE]at hgl;rw[hn0]at hg1 hgd hml hm0 hmon⊢;rw[a_,aY,axl rfl,axl rfl];refine⟨?_,?_⟩
  .rw[bH,axl (by simp;omega)];rfl
  .have e:aW p (jG p [] den) (dQ p [] den)=eU p (dQ p [] den):=by rw[jG,eU]
   rw[e];have l1:(dQ p [] den).length=1:=by omega
   rw[l1]at hmon
   match hm:eU p (dQ p [] den),hmon.1 with
   |[x],_=>have:=hmon.2;rw[hm]at this;simp[cf]at this;rw[this]
 .rw[a_,aY,axm hn0,axm hn0];exact⟨rfl,rfl⟩
open Go Go.RowKit
structure jE (a b:Nat) (w w':World):Prop where
 os:w'.os=w.os
 tape:w'.tape=w.tape
 output:w'.output=w.output
 size:w.heap.size<=w'.heap.size
 block:∀k,k<w.heap.size->(k<a∨b<=k)->w'.heap[k]?=w.heap[k]?
theorem jE.trans{u v:World}(h:jE a b u v)(k:jE a b v w):jE a b u w:=
 ⟨k.os.trans h.os,k.tape.trans h.tape,k.output.trans h.output,axA h.size k.size,λi hi hn=>(k.block i (axD hi h.size) hn).trans (h.block i hi hn)⟩
theorem jE.widen{v:World}(h:jE a b v w)(ha:a'<=a)(hb:b<=b'):jE a' b' v w:=⟨h.os,h.tape,h.output,h.size,λk hk ho=>h.block k hk (by omega)⟩
theorem Ex.iv{b v:World}(h:Ex b v)(k:jE lo hi v w)(hb:b.heap.size<=lo):Ex b w:=
 ⟨k.os.trans h.os,k.tape.trans h.tape,k.output.trans h.output,axA h.size k.size,λi hi=>(k.block i (axD hi h.size) (by omega)).trans (h.block hi)⟩
structure FI (w:World) (a b:Nat) (A:Option Addr) (c:Nat) (xs:List Int):Prop where
 fr:Fr w a A c xs
 lo:Lo A b
theorem FI.rd(h:FI w a b A c xs):Rd w A xs:=h.fr.rd
theorem FI.ex(h:FI w a b A c xs)(he:Ex w w'):FI w' a b A c xs:=⟨h.fr.ex he,h.lo⟩
theorem FI.iv(h:FI w a b A c xs)(k:jE a' b' w w')(hd:b<=a'∨b'<=a):FI w' a b A c xs:=
 have hk:∀ad:Addr,A=some ad->ad.block<w.heap.size->w'.heap[ad.block]?=w.heap[ad.block]?:=λad e hl=>k.block _ hl (by
  have:=h.lo ad e;have:=h.fr.hi ad e;omega)
 ⟨⟨h.fr.rd.keep hk,h.fr.cap,λad e=>by
  obtain⟨h1,cur,h2⟩:=h.fr.2.2 ad e;exact⟨h1,cur,(hk ad e (aF h2)).trans h2⟩⟩,h.lo⟩
theorem FI.more(h:FI w a b A c xs)(ha:a'<=a)(hb:b<=b'):FI w a' b' A c xs:=⟨h.fr.more ha,h.lo.mono hb⟩
theorem Fr.fi(h:Fr w a A c xs):FI w a w.heap.size A c xs:=⟨h,h.lo⟩
theorem VB.iv{g:Nat}{t:TypeId}{cs:Array Value}(h:VB w g t cs)(k:jE a b w w')(hd:g<a∨b<=g):VB w' g t cs:=(k.block g h.lt hd).trans h
structure PN (p:Int) (f:List Int):Prop where
 e:aA p f=true
 t:Tr f
theorem PN.nil(p:Int):PN p []:=⟨jZ p,Tr.nil⟩
theorem PN.one(h2:2<=p):PN p [1]:=⟨KC h2,XF⟩
theorem PN.mul(hp:0<p)(f g:List Int):PN p (aB p f g):=⟨lV hp _ _,Tr.trim _⟩
theorem PN.add(hp:0<p)(hf:PN p f)(b:Int)(g:List Int):PN p (bQ p f b g):=⟨yL hf.e hp b g,vH _ _ _ _⟩
theorem PN.eq(hp:0<p)(hf:PN p f)(hg:PN p g)(h:aV p (cf f) (cf g)):f=g:=h.list hp hf.e hg.e hf.t hg.t
theorem aL(hp:0<p)(f g:List Int):aB p f g=aB p g f:=
 PN.eq hp (PN.mul hp f g) (PN.mul hp g f) ((bf hp f g).trans ((aV.of_eq (fq f g)).trans (bf hp g f).symm))
theorem YG(hp:0<p)(f g h:List Int):aV p (act (aB p f g) (cf h)) (act f (act g (cf h))):=by
 obtain⟨q,hq⟩:=O3 f g;have h1:aV p (cf (aB p f g)) (cf q):=by refine(bf hp f g).trans (aV.of_eq ?_);rw[FY q,hq,<-FY]
 exact(h1.WV h).trans (aV.of_eq (hq _))
theorem bP(hp:0<p)(f g h:List Int):aB p (aB p f g) h=aB p f (aB p g h):=
 PN.eq hp (PN.mul hp _ _) (PN.mul hp _ _) ((bf hp _ _).trans ((YG hp f g h).trans (((bf hp g h).symm.act f).trans (bf hp f _).symm)))
theorem fE(hp:0<p)(hf:PN p f)(g:List Int):aV p (cf (bQ p f 1 g)) (λn=>cf f n+cf g n):=
 (vI hp hf.e 1 g).trans (aV.of_eq (funext λn=>by rw[Int.one_mul]))
theorem lC(hp:0<p)(hf:PN p f)(hg:PN p g):bQ p f 1 g=bQ p g 1 f:=
 PN.eq hp (hf.add hp _ _) (hg.add hp _ _) ((fE hp hf g).trans ((aV.of_eq (funext λ_=>Int.add_comm _ _)).trans (fE hp hg f).symm))
theorem Eu(hp:0<p)(hf:PN p f)(hg:PN p g):bQ p (bQ p f 1 g) 1 h=bQ p f 1 (bQ p g 1 h):=by refine PN.eq hp ((hf.add hp _ _).add hp _ _) (hf.add hp _ _) ?_;refine(fE hp (hf.add hp 1 g) h).trans ?_;refine((fE hp hf g).add (aV.refl p (cf h))).trans ?_;refine aV.trans ?_ (fE hp hf (bQ p g 1 h)).symm;refine aV.trans (aV.of_eq (funext λn=>Int.add_assoc _ _ _)) ?_;exact(aV.refl p (cf f)).add (fE hp hg h).symm
theorem En(hp:0<p)(f:List Int)(hg:PN p g):aB p f (bQ p g 1 h)=bQ p (aB p f g) 1 (aB p f h):=by refine PN.eq hp (PN.mul hp _ _) ((PN.mul hp f g).add hp _ _) ?_;refine(bf hp f _).trans ?_;refine((fE hp hg h).act f).trans ?_;rw[Dw];exact((bf hp f g).symm.add (bf hp f h).symm).trans (fE hp (PN.mul hp f g) _).symm
theorem qD(hp:0<p)(f:List Int)(hg:PN p g):aB p (bQ p g 1 h) f=bQ p (aB p g f) 1 (aB p h f):=by rw[aL hp,En hp f hg,aL hp f g,aL hp f h]
theorem gH(h2:2<=p)(hf:PN p f):aB p f [1]=f:=by refine PN.eq (by omega) (PN.mul (by omega) _ _) hf ?_;rw[aL (by omega)];refine(bf (by omega) [1] f).trans (aV.of_eq ?_);rw[Dv]
theorem M0(p:Int)(f:List Int):aB p f []=[]:=by rw[aB,iw,axl (.inr rfl)];rfl
theorem gG(p:Int)(f:List Int):aB p [] f=[]:=by rw[aB,iw,axl (.inl rfl)];rfl
theorem Et(hp:0<p)(hf:PN p f):bQ p f 1 []=f:=by refine PN.eq hp (hf.add hp _ _) hf ((fE hp hf []).trans (aV.of_eq (funext λn=>by rw[jh,Int.add_zero])))
theorem dX(hF:av p=true)(hf:PN p f)(hg:PN p g)(h1:f≠[])(h2:g≠[]):aB p f g≠[]:=by intro e;have:=yK hF hf.e hg.e hf.t hg.t h1 h2;rw[e]at this;have l1:=axB.2 h1;have l2:=axB.2 h2;simp at this;omega
theorem jV(hp:0<p)(b:Int)(g:List Int):aV p (cf (aW p b g)) (λn=>b*cf g n):=
 (vI hp (f:=[]) (jZ p) b g).trans (aV.of_eq (funext λn=>by rw[jh,azc]))
theorem PN.scale(hp:0<p)(b:Int)(g:List Int):PN p (aW p b g):=(PN.nil p).add hp b g
def kG(p:Int)(f:List Int):List Int:=aW p (p-1) f
theorem PN.neg(hp:0<p)(f:List Int):PN p (kG p f):=PN.scale hp _ _
theorem nW(hp:0<p)(f:List Int):bQ p (kG p f) 1 f=[]:=by refine PN.eq hp ((PN.scale hp _ _).add hp _ _) (PN.nil p) ?_;refine(fE hp (PN.scale hp (p-1) f) f).trans ?_;refine((jV hp (p-1) f).add (aV.refl p (cf f))).trans ?_;intro n;rw[jh];exact⟨cf f n,by show(p-1)*cf f n+cf f n-0=_;rw[Int.sub_mul,Int.one_mul];omega⟩
theorem MZ(hp:0<p)(f g:List Int):aB p (kG p f) g=kG p (aB p f g):=by refine PN.eq hp (PN.mul hp _ _) (PN.scale hp _ _) ?_;rw[aL hp];refine(bf hp g _).trans (((jV hp (p-1) f).act g).trans ?_);rw[zR];refine aV.trans ?_ (jV hp (p-1) _).symm;refine aV.mul _ ?_;rw[<-fq];exact(bf hp f g).symm
theorem Qr(h2:2<=p)(f:List Int):aB p [p-1] f=kG p f:=by refine PN.eq (by omega) (PN.mul (by omega) _ _) (PN.scale (by omega) _ _) ?_;refine(bf (by omega) _ f).trans (aV.trans (aV.of_eq ?_) (jV (by omega) (p-1) f).symm);funext n;show(p-1)*cf f n+sh (act [] (cf f)) n=_;cases n<;>simp[sh,act]
theorem ach(hp:0<p)(hf:PN p f)(h:f≠[]):kG p f≠[]:=λe=>by have:=nW hp f;rw[e,lC hp (PN.nil p) hf,Et hp hf]at this;exact h this
theorem BI(hp:0<p)(hf:PN p f)(hg:PN p g)(hh:PN p h)(e:bQ p f 1 g=bQ p f 1 h):g=h:=by
 have h1:∀{x:List Int},PN p x->bQ p (kG p f) 1 (bQ p f 1 x)=x:=λ{x} hx=>by rw[<-Eu hp (PN.neg hp _) hf,nW hp,lC hp (PN.nil p) hx,Et hp hx]
 rw[<-h1 hg,e,h1 hh]
theorem uy(hF:av p=true)(hd:PN p d)(hf:PN p f)(hg:PN p g)(h0:d≠[])(e:aB p d f=aB p d g):f=g:=by
 have hp:0<p:=by have:=ax hF;omega
 have hn:PN p (kG p g):=PN.neg hp _;have h1:aB p d (bQ p f 1 (kG p g))=[]:=by rw[En hp d hf,e,aL hp d (kG p g),MZ hp,aL hp g d,lC hp (PN.mul hp _ _) (PN.neg hp _)];exact nW hp _
 by_cases h2:bQ p f 1 (kG p g)=[]
 .refine BI hp hn hf hg ?_;rw[lC hp hn hf,h2,nW hp]
 .exact absurd h1 (dX hF hd (hf.add hp _ _) h0 h2)
theorem BO(hF:av p=true){n:List Int}(hn:PN p n)(hd:PN p d)(hd0:d≠[])(hg:(bZ p n d).length=1){e:List Int}(h:bn p d (cf (aB p n e))):bn p d (cf e):=by
 have h2:=ax hF;have hp:0<p:=by omega
 have hg1:=Fp hF hn.e hd.e hn.t hd.t hd0 hg;have key:∀(k:Nat) {f g:List Int},bn p d (act e (cf f))->bn p d (act e (cf g))->bn p d (act e (cf (gcdL p k f g))):=by
  intro k
  induction k with
  |zero=>intro f g h _;exact h
  |succ k ih=>
   intro f g h h';rw[gcdL];split
   .exact h
   .rename_i h0;refine ih h' ?_;have:=h.sub (h'.act (bH p f g));refine this.FQ ?_;have hc:=(vF (p:=p) f h0).act e;rw[Dw,zS e (bH p f g)]at hc;intro i;have:=Int.dvd_neg.2 (hc i);rwa[show∀x y z:Int, -(x-(y+z))=z-(x-y) by intros;omega]at this
 have k1:bn p d (act e (cf n)):=by refine h.FQ ?_;rw[fq];exact(bf hp n e).symm
 have k2:bn p d (act e (cf d)):=(bn.SV p d).act e;have k3:bn p d (act e (cf (kT p n d))):=key _ k1 k2;have hs:=(J5 hF hn.e hd.e hn.t hd.t (.inr hd0));have k4:bn p d (act e (cf [1])):=by have hq:bn p (kT p n d) (cf (bZ p n d)):=hs.2;rw[hg1]at hq;obtain⟨q,hq⟩:=hq;refine(k3.act q).FQ ?_;refine(hq.act e).trans ?_;rw[zS];exact aV.refl _ _
 refine k4.FQ ?_;rw[fq,Dv];exact aV.refl _ _
def QS(f:FuncId)(w:World)(v:Value)(z:Int):Prop:=∀(u:World) (l:Int),Ex w u->0<=l->l<=1048576->
 Calls prog f #[v,.int .i64 l] u λe u'=>e=.returned (.int .i64 (if l<z then -1 else l-z))/\Ex u u'
theorem jE.aZ{g:Nat}(h:aM g w w'):jE g (g+1) w w':=⟨h.os,h.tape,h.output,h.size,λk hk ho=>h.block k hk (by intro e;injection e;omega)⟩
theorem VB.st2{g:Nat}{t:TypeId}{a b:Value}(h:VB w g t #[a,b])(u0 u1:Value):VB ((w.setCell ⟨g,0,none⟩ u0).setCell ⟨g,1,none⟩ u1) g t #[u0,u1]/\aM g w ((w.setCell ⟨g,0,none⟩ u0).setCell ⟨g,1,none⟩ u1):=
 ⟨(h.bC 0 u0).bC 1 u1,((aM.refl g w).setCell (p:=⟨g,0,none⟩) rfl u0).setCell (p:=⟨g,1,none⟩) rfl u1⟩
theorem VB.l8{g:Nat}{t:TypeId}{a b c:Value}(h:VB w g t #[a,b,c])(u0 u1 u2:Value):VB (((w.setCell ⟨g,0,none⟩ u0).setCell ⟨g,1,none⟩ u1).setCell ⟨g,2,none⟩ u2) g t #[u0,u1,u2]/\aM g w (((w.setCell ⟨g,0,none⟩ u0).setCell ⟨g,1,none⟩ u1).setCell ⟨g,2,none⟩ u2):=
 ⟨((h.bC 0 u0).bC 1 u1).bC 2 u2,(((aM.refl g w).setCell (p:=⟨g,0,none⟩) rfl u0).setCell (p:=⟨g,1,none⟩) rfl u1).setCell (p:=⟨g,2,none⟩) rfl u2⟩
theorem VB.st4{g:Nat}{t:TypeId}{a b c d:Value}(h:VB w g t #[a,b,c,d])(u0 u1 u2 u3:Value):VB ((((w.setCell ⟨g,0,none⟩ u0).setCell ⟨g,1,none⟩ u1).setCell ⟨g,2,none⟩ u2).setCell ⟨g,3,none⟩ u3) g t #[u0,u1,u2,u3]/\aM g w ((((w.setCell ⟨g,0,none⟩ u0).setCell ⟨g,1,none⟩ u1).setCell ⟨g,2,none⟩ u2).setCell ⟨g,3,none⟩ u3):=
 ⟨(((h.bC 0 u0).bC 1 u1).bC 2 u2).bC 3 u3,((((aM.refl g w).setCell (p:=⟨g,0,none⟩) rfl u0).setCell (p:=⟨g,1,none⟩) rfl u1).setCell (p:=⟨g,2,none⟩) rfl u2).setCell (p:=⟨g,3,none⟩) rfl u3⟩
def RI(w:World)(v:Value)(xs:List Int):Prop:=∃A c,v=.slice A xs.length c/\Rd w A xs
def ku(xs:List Int):Int:=xs.length
def Vs(k:Int)(xs:List Int):List Int:=mk k xs.length
theorem lU(xs:List Int):0<=ku xs:=Int.natCast_nonneg _
theorem RI.ex(h:RI w v xs)(he:Ex w w'):RI w' v xs:=by obtain⟨A,c,e,r⟩:=h;exact⟨A,c,e,r.ex he⟩
theorem RI.form(h:RI w v xs):∃A n c,v=.slice A n c:=by obtain⟨A,c,e,r⟩:=h;exact⟨A,_,c,e⟩
def OI(w:World)(a b:Nat)(v:Value)(xs:List Int):Prop:=∃A c,v=.slice A xs.length c/\FI w a b A c xs
theorem OI.rd(h:OI w a b v xs):RI w v xs:=by obtain⟨A,c,e,r⟩:=h;exact⟨A,c,e,r.rd⟩
theorem OI.ex(h:OI w a b v xs)(he:Ex w w'):OI w' a b v xs:=by obtain⟨A,c,e,r⟩:=h;exact⟨A,c,e,r.ex he⟩
theorem OI.iv(h:OI w a b v xs)(k:jE a' b' w w')(hd:b<=a'∨b'<=a):OI w' a b v xs:=by obtain⟨A,c,e,r⟩:=h;exact⟨A,c,e,r.iv k hd⟩
theorem OI.e1{g:Nat}(h:OI w a b v xs)(k:aM g w w')(hd:g<a∨b<=g):OI w' a b v xs:=h.iv (jE.aZ k) (by omega)
theorem OI.more(h:OI w a b v xs)(ha:a'<=a)(hb:b<=b'):OI w a' b' v xs:=by obtain⟨A,c,e,r⟩:=h;exact⟨A,c,e,r.more ha hb⟩
theorem WR(w:World)(B:Nat)(v:Value)(ys:List Int)(x:Int)(hv:AL w B v ys)(hB:B<=w.heap.size)(hl:ys.length+1<=1099511627776):
 ∃v' w',(Builtin.append_ #[55,55] 55 #[v,.slice (some ⟨w.heap.size,0,none⟩) 1 1]).run prog (w.alloc (aN [x]))=.ok v' w'/\AL w' B v' (ys++[x])/\jE B w.heap.size w w':=by
 have ha:=(aCQ w).alloc (aN [x]);obtain⟨v',w',h1,h2,h3,_⟩:=bK 55 55 Tryz.underlying55 (w.alloc (aN [x])) B v ys (hv.ex ha) (axA hB ha.size) (some ⟨w.heap.size,0,none⟩) 1 [x] ((dW.new w [x]).rd (by simp)) (by simpa using hl);refine⟨v',w',h1,h2,⟨h3.os.trans ha.os,h3.tape.trans ha.tape,h3.output.trans ha.output,axA ha.size h3.size,λk hk hd=>?_⟩⟩;rw[h3.block k (axD hk ha.size) (λe=>by have:=(hv.lt k e.symm).1;omega)];exact ha.block hk
structure aG where
 n:List Int
 d:List Int
def oD(w:World)(v0 v1:Value)(x:aG):Prop:=RI w v0 x.n/\RI w v1 x.d
def Jm(x:aG):Int:=ku x.n+ku x.d
def aeg(k:Int)(x:aG):aG:=⟨Vs (k) x.n,Vs (k+ku x.n) x.d⟩
theorem UM(x:aG):0<=Jm x:=by unfold Jm;have h0:=lU x.n;have h1:=lU x.d;omega
theorem oD.ex{x:aG}(h:oD w v0 v1 x)(he:Ex w w'):oD w' v0 v1 x:=by obtain⟨h0,h1⟩:=h;exact⟨h0.ex he,h1.ex he⟩
theorem oD.form{x:aG}(h:oD w v0 v1 x):∃A0 n0 c0 A1 n1 c1,v0=.slice A0 n0 c0/\v1=.slice A1 n1 c1:=by obtain⟨h0,h1⟩:=h;obtain⟨A0,n0,c0,e0⟩:=h0.form;obtain⟨A1,n1,c1,e1⟩:=h1.form;exact⟨A0,n0,c0,A1,n1,c1,e0,e1⟩
def tQ(w:World)(lo hi:Nat)(v0 v1:Value)(x:aG):Prop:=∃(a0 b0 a1 b1:Nat),OI w a0 b0 v0 x.n/\OI w a1 b1 v1 x.d/\lo<=a0/\b0<=hi/\lo<=a1/\b1<=hi/\(b0<=a1∨b1<=a0)
theorem tQ.rd{x:aG}(h:tQ w lo hi v0 v1 x):oD w v0 v1 x:=by obtain⟨a0,b0,a1,b1,m0,m1,c0,c1,c2,c3,c4⟩:=h;exact⟨m0.rd,m1.rd⟩
theorem tQ.ex{x:aG}(h:tQ w lo hi v0 v1 x)(he:Ex w w'):tQ w' lo hi v0 v1 x:=by obtain⟨a0,b0,a1,b1,m0,m1,c0,c1,c2,c3,c4⟩:=h;exact⟨a0,b0,a1,b1,m0.ex he,m1.ex he,c0,c1,c2,c3,c4⟩
theorem tQ.e1{x:aG}(h:tQ w lo hi v0 v1 x){g:Nat}(q:aM g w w')(hd:g<lo∨hi<=g):tQ w' lo hi v0 v1 x:=by obtain⟨a0,b0,a1,b1,m0,m1,c0,c1,c2,c3,c4⟩:=h;exact⟨a0,b0,a1,b1,m0.e1 q (by omega),m1.e1 q (by omega),c0,c1,c2,c3,c4⟩
structure FV (p:Int) (x:aG):Prop where
 f:av p=true
 n:PN p x.n
 d:PN p x.d
 d0:x.d≠[]
 mo:cf x.d (x.d.length-1)=1
 g:(bZ p x.n x.d).length=1
theorem FV.pos{x:aG}(h:FV p x):0<p:=by have:=ax h.f;omega
def uD(p:Int)(N D:List Int):aG:=⟨a_ p N D,aY p N D⟩
theorem FV.low(hF:av p=true)(hN:PN p N)(hD:PN p D)(h0:D≠[]):FV p (uD p N D):=by obtain⟨h1,h2,h3,h4,h5,_,_,h6⟩:=A_ hF hN.e hD.e hN.t hD.t h0;exact⟨hF,⟨h1,h3⟩,⟨h2,h4⟩,h5,h6,acG hF hN.e hD.e hN.t hD.t h0⟩
theorem Em(hp:0<p)(b:Int)(f g:List Int):aB p (aW p b f) g=aW p b (aB p f g):=by refine PN.eq hp (PN.mul hp _ _) (PN.scale hp _ _) ?_;rw[aL hp];refine(bf hp g _).trans (((jV hp b f).act g).trans ?_);rw[zR];refine aV.trans ?_ (jV hp b _).symm;refine aV.mul _ ?_;rw[<-fq];exact(bf hp f g).symm
theorem Vv(hF:av p=true)(hN:PN p N)(hD:PN p D)(h0:D≠[]):aB p (a_ p N D) D=aB p N (aY p N D):=by
 have hp:0<p:=by have:=ax hF;omega
 by_cases hn:N=[]
 .rw[a_,aY,axl hn,axl hn,hn,gG,gG]
 .have hg0:=lW hF hN.e hD.e hN.t hD.t (.inr h0);have hge:=nD (p:=p) hp N D;have hgt:=o_ p N D;have hdiv:=uK hF hN.e hD.e hN.t hD.t (.inr h0);have e1:N=aB p (bH p N (bZ p N D)) (bZ p N D):=PN.eq hp hN (PN.mul hp _ _) ((vv hF hN.e hge hgt hg0 hdiv.1).trans (bf hp _ _).symm);have e2:D=aB p (dQ p N D) (bZ p N D):=PN.eq hp hD (PN.mul hp _ _) ((vv hF hD.e hge hgt hg0 hdiv.2).trans (bf hp _ _).symm);have eN:a_ p N D=aW p (jG p N D) (bH p N (bZ p N D)):=by rw[a_,axm hn]
  have eD:aY p N D=aW p (jG p N D) (dQ p N D):=by rw[aY,axm hn]
  rw[eN,eD,Em hp,aL hp N,Em hp];congr 1;generalize dQ p N D=u at*;generalize bH p N (bZ p N D)=v at*;generalize bZ p N D=g at*;rw[e1,e2,aL hp v g,<-bP hp u g v,aL hp v]
def eY(p:Int)(x:aG)(N D:List Int):Prop:=aB p x.n D=aB p N x.d
theorem eY.self(p:Int)(x:aG):eY p x x.n x.d:=rfl
theorem eY.low(hF:av p=true)(hN:PN p N)(hD:PN p D)(h0:D≠[]):eY p (uD p N D) N D:=Vv hF hN hD h0
theorem uR{x y:aG}(hx:FV p x)(hy:FV p y)(h:aB p x.n y.d=aB p y.n x.d):x=y:=by
 have hp:=hx.pos;have h1:bn p x.d (cf y.d):=BO hx.f hx.n hx.d hx.d0 hx.g (by rw[h];exact⟨y.n,bf hp _ _⟩);have h2:bn p y.d (cf x.d):=BO hx.f hy.n hy.d hy.d0 hy.g (by rw[<-h];exact⟨x.n,bf hp _ _⟩);have hd:x.d=y.d:=bn.aiL hx.f hx.d.e hx.d.t hx.d0 hy.d.e hy.d.t hy.d0 h1 h2 hx.mo hy.mo;have hn:x.n=y.n:=by refine uy hx.f hx.d hx.n hy.n hx.d0 ?_;rw[aL hp x.d,aL hp x.d,<-h,hd]
 obtain⟨xn,xd⟩:=x;obtain⟨yn,yd⟩:=y;simp only at hn hd;rw[hn,hd]
theorem eY.uniq{x y:aG}(hx:FV p x)(hy:FV p y)(hD:PN p D)(h0:D≠[])(h:eY p x N D)(k:eY p y N D):x=y:=by
 have hp:=hx.pos;refine uR hx hy (uy hx.f hD (PN.mul hp _ _) (PN.mul hp _ _) h0 ?_);unfold eY at h k;have a1:aB p D (aB p x.n y.d)=aB p (aB p x.n D) y.d:=by rw[<-bP hp,aL hp D]
 have a2:aB p D (aB p y.n x.d)=aB p (aB p y.n D) x.d:=by rw[<-bP hp,aL hp D]
 rw[a1,a2,h,k,bP hp,bP hp,aL hp x.d]
theorem eY.change{x:aG}(hx:FV p x){N' D':List Int}(hD:PN p D)(h0:D≠[])(h:eY p x N D)(e:aB p N D'=aB p N' D):eY p x N' D':=by
 have hp:=hx.pos;refine uy hx.f hD (PN.mul hp _ _) (PN.mul hp _ _) h0 ?_;unfold eY at h;have a1:aB p D (aB p x.n D')=aB p (aB p x.n D) D':=by rw[<-bP hp,aL hp D]
 have a2:aB p D (aB p N' x.d)=aB p (aB p N' D) x.d:=by rw[<-bP hp,aL hp D]
 rw[a1,a2,h,<-e,bP hp,bP hp,aL hp x.d]
def uV(p:Int)(x y:aG):aG:=uD p (bQ p (aB p x.n y.d) 1 (aB p y.n x.d)) (aB p x.d y.d)
def fP(p:Int)(x y:aG):aG:=uD p (aB p x.n y.n) (aB p x.d y.d)
def bY(p:Int)(x:aG):aG:=⟨kG p x.n,x.d⟩
def qQ(p:Int)(x:aG):aG:=uD p x.d x.n
def zF:aG:=⟨[],[1]⟩
def oF:aG:=⟨[1],[1]⟩
def jy(x:aG):Bool:=x.n.isEmpty
theorem dR{x:aG}:jy x=true↔x.n=[]:=List.isEmpty_iff
theorem FV.add{x y:aG}(hx:FV p x)(hy:FV p y):FV p (uV p x y):=
 FV.low hx.f ((PN.mul hx.pos _ _).add hx.pos _ _) (PN.mul hx.pos _ _) (dX hx.f hx.d hy.d hx.d0 hy.d0)
theorem FV.mul{x y:aG}(hx:FV p x)(hy:FV p y):FV p (fP p x y):=
 FV.low hx.f (PN.mul hx.pos _ _) (PN.mul hx.pos _ _) (dX hx.f hx.d hy.d hx.d0 hy.d0)
theorem FV.inv{x:aG}(hx:FV p x)(h0:x.n≠[]):FV p (qQ p x):=FV.low hx.f hx.d hx.n h0
theorem FV.one_den(hF:av p=true){n:List Int}(hn:PN p n):FV p ⟨n,[1]⟩:=by have h2:=ax hF;have h1:=PN.one (p:=p) h2;have hl:=qU hF hn.e h1.e hn.t h1.t (.inr (by simp));have hd:=uK hF hn.e h1.e hn.t h1.t (.inr (by simp));have hg0:=lW hF hn.e h1.e hn.t h1.t (.inr (by simp));refine⟨hF,hn,h1,by simp,rfl,?_⟩;obtain⟨q,_,_,hq0,_,hle⟩:=bn.le hF (nD (p:=p) (by omega) n [1]) (o_ p n [1]) hg0 h1.e h1.t (by simp) hd.2;have l1:=axB.2 hq0;have l2:=axB.2 hg0;simp at hle;show(bZ p n [1]).length=1;omega
theorem FV.zero(hF:av p=true):FV p zF:=FV.one_den hF (PN.nil p)
theorem FV.one(hF:av p=true):FV p oF:=FV.one_den hF (PN.one (ax hF))
theorem eY.add{x y:aG}(hx:FV p x)(hy:FV p y){M E:List Int}(_:PN p N)(_:PN p M)(h:eY p x N D)(k:eY p y M E):eY p (uV p x y) (bQ p (aB p N E) 1 (aB p M D)) (aB p D E):=by
 have hp:=hx.pos;have hd:=dX hx.f hx.d hy.d hx.d0 hy.d0;have hl:=eY.low hx.f ((PN.mul hp x.n y.d).add hp 1 (aB p y.n x.d)) (PN.mul hp x.d y.d) hd;refine eY.change (hx.add hy) (PN.mul hp _ _) hd hl ?_;unfold eY at h k;rw[qD hp _ (PN.mul hp _ _),qD hp _ (PN.mul hp _ _)];have ha:Std.Associative (aB p):=⟨bP hp⟩;have hc:Std.Commutative (aB p):=⟨aL hp⟩;have e1:aB p (aB p x.n y.d) (aB p D E)=aB p (aB p N E) (aB p x.d y.d):=by
  have:aB p (aB p x.n y.d) (aB p D E)=aB p (aB p x.n D) (aB p y.d E):=by ac_rfl
  rw[this,h];ac_rfl
 have e2:aB p (aB p y.n x.d) (aB p D E)=aB p (aB p M D) (aB p x.d y.d):=by
  have:aB p (aB p y.n x.d) (aB p D E)=aB p (aB p y.n E) (aB p x.d D):=by ac_rfl
  rw[this,k];ac_rfl
 rw[e1,e2]
theorem eY.mul{x y:aG}(hx:FV p x)(hy:FV p y){M E:List Int}(h:eY p x N D)(k:eY p y M E):eY p (fP p x y) (aB p N M) (aB p D E):=by
 have hp:=hx.pos;have hd:=dX hx.f hx.d hy.d hx.d0 hy.d0;have hl:=eY.low hx.f (PN.mul hp x.n y.n) (PN.mul hp x.d y.d) hd;refine eY.change (hx.mul hy) (PN.mul hp _ _) hd hl ?_;unfold eY at h k;have ha:Std.Associative (aB p):=⟨bP hp⟩;have hc:Std.Commutative (aB p):=⟨aL hp⟩;have e1:aB p (aB p x.n y.n) (aB p D E)=aB p (aB p x.n D) (aB p y.n E):=by ac_rfl
 rw[e1,h,k];ac_rfl
theorem FV.neg{x:aG}(hx:FV p x):FV p (bY p x):=by
 have hp:=hx.pos;refine⟨hx.f,PN.neg hp _,hx.d,hx.d0,hx.mo,?_⟩;have hn:=PN.neg hp x.n;have hd:=uK hx.f hn.e hx.d.e hn.t hx.d.t (.inr hx.d0);have hg0:=lW hx.f hn.e hx.d.e hn.t hx.d.t (.inr hx.d0);have hxn:bn p (bZ p (kG p x.n) x.d) (cf x.n):=by
  have hnn:kG p (kG p x.n)=x.n:=by refine BI hp hn (PN.neg hp _) hx.n ?_;rw[nW hp,lC hp hn (PN.neg hp _),nW hp]
  have:=(Ic hp (p-1) (kG p x.n)).trans hd.1;have e:aW p (p-1) (kG p x.n)=x.n:=hnn;rwa[e]at this
 have h1:=TV hx.f hx.n.e hx.d.e hx.n.t hx.d.t (.inr hx.d0) hxn hd.2;have hg1:=Fp hx.f hx.n.e hx.d.e hx.n.t hx.d.t hx.d0 hx.g;rw[hg1]at h1;have h2:=ax hx.f;obtain⟨q,_,_,hq0,_,hle⟩:=bn.le hx.f (nD (p:=p) hp _ _) (o_ p _ _) hg0 (KC h2) XF (by simp) h1;have l1:=axB.2 hq0;have l2:=axB.2 hg0;simp at hle;show(bZ p (kG p x.n) x.d).length=1;omega
def NI(p:Int)(x:{x:aG // FV p x}):{x:aG // FV p x}:=if h:x.1.n=[]then x else⟨qQ p x.1,x.2.inv h⟩
def aj(p:Int)(hF:av p=true):aJ {x:aG // FV p x} where
 add x y:=⟨uV p x.1 y.1,x.2.add y.2⟩
 mul x y:=⟨fP p x.1 y.1,x.2.mul y.2⟩
 neg x:=⟨bY p x.1,x.2.neg⟩
 inv x:=NI p x
 z:=⟨zF,FV.zero hF⟩
 o:=⟨oF,FV.one hF⟩
 kZ x:=jy x.1
 add_comm x y:=axS (by
  have hp:=x.2.pos;show uD p _ _=uD p _ _;rw[lC hp (PN.mul hp _ _) (PN.mul hp _ _),aL hp x.1.d])
 add_assoc x y z:=axS (by
  have hp:=x.2.pos;have ha:Std.Associative (aB p):=⟨bP hp⟩;have hc:Std.Commutative (aB p):=⟨aL hp⟩;have hxy:=eY.add x.2 y.2 x.2.n y.2.n (eY.self p _) (eY.self p _);have hyz:=eY.add y.2 z.2 y.2.n z.2.n (eY.self p _) (eY.self p _);have h1:=eY.add (x.2.add y.2) z.2 ((PN.mul hp _ _).add hp 1 _) z.2.n hxy (eY.self p z.1);have h2:=eY.add x.2 (y.2.add z.2) x.2.n ((PN.mul hp _ _).add hp 1 _) (eY.self p x.1) hyz;refine eY.uniq ((x.2.add y.2).add z.2) (x.2.add (y.2.add z.2)) (PN.mul hp _ _) (dX x.2.f (PN.mul hp _ _) z.2.d (dX x.2.f x.2.d y.2.d x.2.d0 y.2.d0) z.2.d0) h1 ?_;have e1:aB p x.1.d (aB p y.1.d z.1.d)=aB p (aB p x.1.d y.1.d) z.1.d:=(bP hp _ _ _).symm;rw[e1]at h2;rw[qD hp _ (PN.mul hp _ _)];rw[qD hp _ (PN.mul hp _ _),<-Eu hp (PN.mul hp _ _) (PN.mul hp _ _)]at h2;have e2:aB p x.1.n (aB p y.1.d z.1.d)=aB p (aB p x.1.n y.1.d) z.1.d:=by ac_rfl
  have e3:aB p (aB p y.1.n z.1.d) x.1.d=aB p (aB p y.1.n x.1.d) z.1.d:=by ac_rfl
  have e4:aB p (aB p z.1.n y.1.d) x.1.d=aB p z.1.n (aB p x.1.d y.1.d):=by ac_rfl
  rw[e2,e3,e4]at h2;exact h2)
 bB x:=axS (by
  have hp:=x.2.pos;have h2:=ax hF;have h1:=eY.add (FV.zero hF) x.2 (PN.nil p) x.2.n (eY.self p zF) (eY.self p x.1);refine eY.uniq ((FV.zero hF).add x.2) x.2 x.2.d x.2.d0 ?_ (eY.self p x.1);rw[gG,lC hp (PN.nil p) (PN.mul hp _ _),Et hp (PN.mul hp _ _)]at h1;have e1:aB p x.1.n zF.d=x.1.n:=gH h2 x.2.n;have e2:aB p zF.d x.1.d=x.1.d:=by rw[aL hp];exact gH h2 x.2.d
  rw[e1,e2]at h1;exact h1)
 neg_add x:=axS (by
  have hp:=x.2.pos;have h1:=eY.add x.2.neg x.2 (PN.neg hp _) x.2.n (eY.self p _) (eY.self p x.1);have hd:=dX hF x.2.d x.2.d x.2.d0 x.2.d0;refine eY.uniq (x.2.neg.add x.2) (FV.zero hF) (PN.mul hp x.1.d x.1.d) hd h1 ?_;have e:bQ p (aB p (kG p x.1.n) x.1.d) 1 (aB p x.1.n (bY p x.1).d)=[]:=by show bQ p (aB p (kG p x.1.n) x.1.d) 1 (aB p x.1.n x.1.d)=[];rw[MZ hp,nW hp]
  show aB p [] _=aB p _ [1];rw[e,gG,gG])
 mul_comm x y:=axS (by
  have hp:=x.2.pos;show uD p _ _=uD p _ _;rw[aL hp x.1.n,aL hp x.1.d])
 mul_assoc x y z:=axS (by
  have hp:=x.2.pos;have h1:=eY.mul (x.2.mul y.2) z.2 (eY.mul x.2 y.2 (eY.self p _) (eY.self p _)) (eY.self p z.1);have h2:=eY.mul x.2 (y.2.mul z.2) (eY.self p x.1) (eY.mul y.2 z.2 (eY.self p _) (eY.self p _));rw[<-bP hp,<-bP hp]at h2;exact eY.uniq ((x.2.mul y.2).mul z.2) (x.2.mul (y.2.mul z.2)) (PN.mul hp _ _) (dX x.2.f (PN.mul hp _ _) z.2.d (dX x.2.f x.2.d y.2.d x.2.d0 y.2.d0) z.2.d0) h1 h2)
 bE x:=axS (by
  have hp:=x.2.pos;have h2:=ax hF;have h1:=eY.mul (FV.one hF) x.2 (eY.self p oF) (eY.self p x.1);have e1:aB p oF.n x.1.n=x.1.n:=by rw[aL hp];exact gH h2 x.2.n
  have e2:aB p oF.d x.1.d=x.1.d:=by rw[aL hp];exact gH h2 x.2.d
  rw[e1,e2]at h1;exact eY.uniq ((FV.one hF).mul x.2) x.2 x.2.d x.2.d0 h1 (eY.self p x.1))
 distrib x y z:=axS (by
  have hp:=x.2.pos;have ha:Std.Associative (aB p):=⟨bP hp⟩;have hc:Std.Commutative (aB p):=⟨aL hp⟩;have h1:=eY.mul x.2 (y.2.add z.2) (eY.self p x.1) (eY.add y.2 z.2 y.2.n z.2.n (eY.self p _) (eY.self p _));have h2:=eY.add (x.2.mul y.2) (x.2.mul z.2) (PN.mul hp _ _) (PN.mul hp _ _) (eY.mul x.2 y.2 (eY.self p _) (eY.self p _)) (eY.mul x.2 z.2 (eY.self p _) (eY.self p _));have d1:=dX x.2.f x.2.d (PN.mul hp y.1.d z.1.d) x.2.d0 (dX x.2.f y.2.d z.2.d y.2.d0 z.2.d0);have d2:=dX x.2.f (PN.mul hp x.1.d y.1.d) (PN.mul hp x.1.d z.1.d) (dX x.2.f x.2.d y.2.d x.2.d0 y.2.d0) (dX x.2.f x.2.d z.2.d x.2.d0 z.2.d0);refine eY.uniq (x.2.mul (y.2.add z.2)) ((x.2.mul y.2).add (x.2.mul z.2)) (PN.mul hp _ _) d2 (eY.change (x.2.mul (y.2.add z.2)) (PN.mul hp _ _) d1 h1 ?_) h2;rw[En hp _ (PN.mul hp _ _),qD hp _ (PN.mul hp _ _),qD hp _ (PN.mul hp _ _)];have e1:aB p (aB p x.1.n (aB p y.1.n z.1.d)) (aB p (aB p x.1.d y.1.d) (aB p x.1.d z.1.d))=aB p (aB p (aB p x.1.n y.1.n) (aB p x.1.d z.1.d)) (aB p x.1.d (aB p y.1.d z.1.d)):=by ac_rfl
  have e2:aB p (aB p x.1.n (aB p z.1.n y.1.d)) (aB p (aB p x.1.d y.1.d) (aB p x.1.d z.1.d))=aB p (aB p (aB p x.1.n z.1.n) (aB p x.1.d y.1.d)) (aB p x.1.d (aB p y.1.d z.1.d)):=by ac_rfl
  rw[e1,e2])
 inv_mul x hx:=axS (by
  have hp:=x.2.pos;have hn:x.1.n≠[]:=λe=>hx (axS (uR x.2 (FV.zero hF) (by rw[e,gG];exact(gG p _).symm)))
  have hi:NI p x=⟨qQ p x.1,x.2.inv hn⟩:=by rw[NI,dif_neg hn]
  rw[hi];have h1:=eY.mul (x.2.inv hn) x.2 (eY.low hF x.2.d x.2.n hn) (eY.self p x.1);have hd:=dX hF x.2.n x.2.d hn x.2.d0;refine eY.uniq ((x.2.inv hn).mul x.2) (FV.one hF) (PN.mul hp _ _) hd h1 ?_;show aB p [1] _=aB p _ [1];rw[aL hp [1],aL hp x.1.d])
 Qw e:=by have:=congrArg (λx=>x.1.n) e;simp[oF,zF]at this
 iI x:=by
  rw[dR];constructor
  .intro e;exact axS (uR x.2 (FV.zero hF) (by rw[e,gG];exact(gG p _).symm))
  .intro e;rw[e];rfl
def au(p:Int):Ops aG:=⟨uV p,fP p,bY p,qQ p,zF,oF,jy⟩
theorem mV(p:Int)(hF:av p=true):jM (aj p hF).toOps (au p) Subtype.val where
 add _ _:=rfl
 mul _ _:=rfl
 neg _:=rfl
 inv x hx:=by
  have hn:x.1.n≠[]:=λe=>by have:jy x.1=true:=dR.2 e;have h2:jy x.1=false:=hx;rw[this]at h2;cases h2
  show qQ p x.1=(NI p x).1;rw[NI,dif_neg hn]
 z:=rfl
 o:=rfl
 kZ _:=rfl
structure bG (S:Nat->Prop) (w w':World):Prop where
 os:w'.os=w.os
 tape:w'.tape=w.tape
 output:w'.output=w.output
 size:w.heap.size<=w'.heap.size
 block:∀k,k<w.heap.size->¬S k->w'.heap[k]?=w.heap[k]?
theorem bG.refl(S:Nat->Prop)(w:World):bG S w w:=⟨rfl,rfl,rfl,axk _,λ_ _ _=>rfl⟩
theorem bG.trans{u v:World}(h:bG S u v)(k:bG T v w)(hT:∀i,i<u.heap.size->T i->S i):bG S u w:=
 ⟨k.os.trans h.os,k.tape.trans h.tape,k.output.trans h.output,axA h.size k.size,λi hi hn=>(k.block i (axD hi h.size) (λht=>hn (hT i hi ht))).trans (h.block i hi hn)⟩
theorem bG.aP{v:World}(h:Ex v w):bG S v w:=⟨h.os,h.tape,h.output,h.size,λ_ hi _=>h.block hi⟩
theorem bG.widen{v:World}(h:bG S v w)(hT:∀i,i<v.heap.size->S i->T i):bG T v w:=⟨h.os,h.tape,h.output,h.size,λk hk ho=>h.block k hk λhs=>ho (hT k hk hs)⟩
theorem bG.aZ{g:Nat}{v:World}(h:aM g v w)(hg:S g):bG S v w:=⟨h.os,h.tape,h.output,h.size,λk hk hn=>h.block k hk (by intro e;injection e with e;subst e;exact hn hg)⟩
theorem Ex.sx{b v:World}(h:Ex b v)(k:bG S v w)(hS:∀i,S i->b.heap.size<=i):Ex b w:=
 ⟨k.os.trans h.os,k.tape.trans h.tape,k.output.trans h.output,axA h.size k.size,λi hi=>(k.block i (axD hi h.size) (λhs=>by have:=hS i hs;omega)).trans (h.block hi)⟩
def XI(w:World)(S:Nat->Prop)(v:Value)(xs:List Int):Prop:=∃A c,v=.slice A xs.length c/\Fr w 0 A c xs/\∀a,A=some a->S a.block
theorem XI.rd(h:XI w S v xs):RI w v xs:=by obtain⟨A,c,e,f,_⟩:=h;exact⟨A,c,e,f.rd⟩
theorem XI.keep(h:XI w S v xs)(hk:∀k,S k->k<w.heap.size->w'.heap[k]?=w.heap[k]?):XI w' S v xs:=by
 obtain⟨A,c,e,f,hs⟩:=h;have hk':∀ad:Addr,A=some ad->ad.block<w.heap.size->w'.heap[ad.block]?=w.heap[ad.block]?:=λad e hl=>hk _ (hs ad e) hl
 exact⟨A,c,e,⟨f.rd.keep hk',f.cap,λad e=>by
  obtain⟨h1,cur,h2⟩:=f.2.2 ad e;exact⟨h1,cur,(hk' ad e (aF h2)).trans h2⟩⟩,hs⟩
theorem XI.mono(h:XI w S v xs)(hT:∀k,k<w.heap.size->S k->T k):XI w T v xs:=by
 obtain⟨A,c,e,f,hs⟩:=h;exact⟨A,c,e,f,λa ha=>by
  obtain⟨_,cur,h2⟩:=f.2.2 a ha;exact hT _ (aF h2) (hs a ha)⟩
theorem OI.xi(h:OI w a b v xs):XI w (λk=>a<=k/\k<b) v xs:=by obtain⟨A,c,e,f⟩:=h;exact⟨A,c,e,f.fr.more (axq _),λad e=>⟨f.fr.hi ad e,f.lo ad e⟩⟩
section
structure EK (α:Type) where
 k:Nat
 R:World->List Value->α->Prop
 O:World->Nat->Nat->List Value->α->Prop
 tot:α->Int
 KZ:Int->α->α
 mM:∀{w vs x},R w vs x->vs.length=k
 ex:∀{w w' vs x},R w vs x->Ex w w'->R w' vs x
 rd:∀{w a b vs x},O w a b vs x->R w vs x
 keep:∀{w w':World} {a b vs x},O w a b vs x->(∀k,a<=k->k<b->k<w.heap.size->w'.heap[k]?=w.heap[k]?)->O w' a b vs x
 nn:∀x,0<=tot x
 tmk:∀k x,tot (KZ k x)=tot x
variable {α : Type}
theorem EK.oex(E:EK α){vs:List Value}{x:α}(h:E.O w a b vs x)(he:Ex w w'):E.O w' a b vs x:=E.keep h λ_ _ _ hk=>he.block hk
theorem EK.oiv(E:EK α){vs:List Value}{x:α}(h:E.O w a b vs x)(k:jE a' b' w w')(hd:b<=a'∨b'<=a):E.O w' a b vs x:=E.keep h λi h1 h2 hk=>k.block i hk (by omega)
def bW(E:EK α)(w:World)(A:Option Addr)(xs:List α):Prop:=
 xs.length<=1099511627776/\∀(j:Nat) (x:α),xs[j]?=some x->∃g off vs,A=some ⟨g,off,none⟩/\(∀(i:Nat) (u:Value),vs[i]?=some u->w.cell? ⟨g,off+j*E.k+i,none⟩=some u)/\E.R w vs x
theorem bW.ex{E:EK α}{xs:List α}(h:bW E w A xs)(he:Ex w w'):bW E w' A xs:=⟨h.1,λj x hj=>by
 obtain⟨g,off,vs,hA,hc,hr⟩:=h.2 j x hj;exact⟨g,off,vs,hA,λi u hi=>af he (hc i u hi),E.ex hr he⟩⟩
theorem bW.at_{E:EK α}{xs:List α}(h:bW E w A xs)(hj:j<xs.length):
 ∃g off vs x,A=some ⟨g,off,none⟩/\xs[j]?=some x/\(∀(i:Nat) (u:Value),vs[i]?=some u->w.cell? ⟨g,off+j*E.k+i,none⟩=some u)/\E.R w vs x:=by
 obtain⟨g,off,vs,hA,hc,hr⟩:=h.2 j _ (axn hj);exact⟨g,off,vs,_,hA,axn hj,hc,hr⟩
def CQ(E:EK α)(t:TypeId)(w:World)(lo hi:Nat)(A:Option Addr)(xs:List α):Prop:=
 xs.length<=1099511627776/\∃(al bl:Nat->Nat),(∀(j:Nat) (x:α),xs[j]?=some x->∃g off vs cur,A=some ⟨g,off,none⟩/\lo<=g/\g<hi/\w.heap[g]?=some (.cells cur t (0,0))/\
  (∀(i:Nat) (u:Value),vs[i]?=some u->cur[off+j*E.k+i]?=some u)/\E.O w (al j) (bl j) vs x/\lo<=al j/\bl j<=hi/\(g<al j∨bl j<=g))/\
  ∀i j,i<xs.length->j<xs.length->i≠j->(bl i<=al j∨bl j<=al i)
theorem dJ{g:Nat}{cur:Array Value}{t:TypeId}{u:Value}(h:w.heap[g]?=some (.cells cur t (0,0)))(hi:cur[i]?=some u):w.cell? ⟨g,i,none⟩=some u:=by simp[World.cell?,h,hi]
theorem CQ.rd{E:EK α}{t:TypeId}{xs:List α}(h:CQ E t w lo hi A xs):bW E w A xs:=by obtain⟨hl,al,bl,h1,_⟩:=h;refine⟨hl,λj x hj=>?_⟩;obtain⟨g,off,vs,cur,hA,_,_,hh,hc,ho,_⟩:=h1 j x hj;exact⟨g,off,vs,hA,λi u hi=>dJ hh (hc i u hi),E.rd ho⟩
theorem CQ.nil(E:EK α)(t:TypeId)(w:World)(lo hi:Nat)(A:Option Addr):CQ E t w lo hi A []:=⟨by simp,λ_=>0,λ_=>0,λj r hj=>by simp at hj,λi j hi=>by simp at hi⟩
theorem CQ.ex{E:EK α}{t:TypeId}{xs:List α}(h:CQ E t w lo hi A xs)(he:Ex w w'):CQ E t w' lo hi A xs:=by obtain⟨hl,al,bl,k1,k2⟩:=h;refine⟨hl,al,bl,λj r hj=>?_,k2⟩;obtain⟨g,off,vs,cur,hA,hg1,hg2,hh,hc,ho,hr⟩:=k1 j r hj;exact⟨g,off,vs,cur,hA,hg1,hg2,(he.block (aF hh)).trans hh,hc,E.oex ho he,hr⟩
theorem CQ.iv{E:EK α}{t:TypeId}{xs:List α}(h:CQ E t w lo hi A xs)(k:jE a b w w')(hd:hi<=a∨b<=lo):CQ E t w' lo hi A xs:=by obtain⟨hl,al,bl,k1,k2⟩:=h;refine⟨hl,al,bl,λj r hj=>?_,k2⟩;obtain⟨g,off,vs,cur,hA,hg1,hg2,hh,hc,ho,ha,hb,hd'⟩:=k1 j r hj;exact⟨g,off,vs,cur,hA,hg1,hg2,(k.block g (aF hh) (by omega)).trans hh,hc,E.oiv ho k (by omega),ha,hb,hd'⟩
def bN(E:EK α)(xs:List α):Int:=(xs.map E.tot).sum
def mkS(E:EK α):Int->List α->List α
 |_,[]=>[]
 |k,x::xs=>E.KZ k x::mkS E (k+E.tot x) xs
theorem iQ(E:EK α)(x:α)(xs:List α):bN E (x::xs)=E.tot x+bN E xs:=by simp[bN]
theorem jr(E:EK α):∀xs:List α,0<=bN E xs
 |[]=>by simp[bN]
 |x::xs=>by rw[iQ];have:=E.nn x;have:=jr E xs;omega
theorem gL(E:EK α):∀(k:Int) (xs:List α),(mkS E k xs).length=xs.length
 |_,[]=>rfl
 |k,x::xs=>by rw[mkS,axR,gL,axR]
theorem CX(E:EK α):∀(k:Int) (xs:List α),bN E (mkS E k xs)=bN E xs
 |_,[]=>rfl
 |k,x::xs=>by rw[mkS,iQ,iQ,CX,E.tmk]
def RS(E:EK α)(w:World)(v:Value)(xs:List α):Prop:=(∃A c,v=.slice A xs.length c/\bW E w A xs)/\bN E xs<=1125899906842624
theorem RS.ex{E:EK α}{xs:List α}(h:RS E w v xs)(he:Ex w w'):RS E w' v xs:=by obtain⟨⟨A,c,e,r⟩,t⟩:=h;exact⟨⟨A,c,e,r.ex he⟩,t⟩
theorem RS.form{E:EK α}{xs:List α}(h:RS E w v xs):∃A n c,v=.slice A n c:=by obtain⟨⟨A,c,e,r⟩,_⟩:=h;exact⟨A,_,c,e⟩
theorem RS.tot{E:EK α}{xs:List α}(h:RS E w v xs):bN E xs<=1125899906842624:=h.2
def OS(E:EK α)(t:TypeId)(w:World)(a b:Nat)(v:Value)(xs:List α):Prop:=(∃A c,v=.slice A xs.length c/\CQ E t w a b A xs)/\bN E xs<=1125899906842624
theorem OS.rd{E:EK α}{t:TypeId}{xs:List α}(h:OS E t w a b v xs):RS E w v xs:=by obtain⟨⟨A,c,e,r⟩,q⟩:=h;exact⟨⟨A,c,e,r.rd⟩,q⟩
theorem OS.ex{E:EK α}{t:TypeId}{xs:List α}(h:OS E t w a b v xs)(he:Ex w w'):OS E t w' a b v xs:=by obtain⟨⟨A,c,e,r⟩,q⟩:=h;exact⟨⟨A,c,e,r.ex he⟩,q⟩
theorem OS.iv{E:EK α}{t:TypeId}{xs:List α}(h:OS E t w a b v xs)(k:jE a' b' w w')(hd:b<=a'∨b'<=a):OS E t w' a b v xs:=by obtain⟨⟨A,c,e,r⟩,q⟩:=h;exact⟨⟨A,c,e,r.iv k hd⟩,q⟩
theorem OS.e1{E:EK α}{t:TypeId}{g:Nat}{xs:List α}(h:OS E t w a b v xs)(k:aM g w w')(hd:g<a∨b<=g):OS E t w' a b v xs:=h.iv (jE.aZ k) (by omega)
theorem OI.keep(h:OI w a b v xs)(hk:∀k,a<=k->k<b->k<w.heap.size->w'.heap[k]?=w.heap[k]?):OI w' a b v xs:=by
 obtain⟨A,c,e,f⟩:=h;have hk':∀ad:Addr,A=some ad->ad.block<w.heap.size->w'.heap[ad.block]?=w.heap[ad.block]?:=λad e hl=>hk _ (f.fr.hi ad e) (f.lo ad e) hl
 exact⟨A,c,e,⟨⟨f.fr.rd.keep hk',f.fr.cap,λad e=>by
  obtain⟨h1,cur,h2⟩:=f.fr.2.2 ad e;exact⟨h1,cur,(hk' ad e (aF h2)).trans h2⟩⟩,f.lo⟩⟩
theorem uQ:∀{us:List (List Value)},(∀u∈us,u.length=k)->us.flatten.length=us.length*k
 |[],_=>by simp
 |u::us,h=>by rw[ayN,axv,uQ (λv hv=>h v (by simp[hv])),h u (by simp),axR,ayu,ayU];omega
theorem lN:∀{us:List (List Value)},(∀u∈us,u.length=k)->∀{j:Nat} {vs:List Value},us[j]?=some vs->∀{i:Nat} {u:Value},vs[i]?=some u->us.flatten[j*k+i]?=some u
 |[],_,j,vs,hj,_,_,_=>by simp at hj
 |v::us,h,0,vs,hj,i,u,hu=>by simp at hj;subst hj;have hl:i<v.length:=(axp.1 hu).1;rw[ayN,Nat.zero_mul,axT,axX hl,hu]
 |v::us,h,j+1,vs,hj,i,u,hu=>by have hv:=h v (by simp);rw[ayN,axN (by rw[hv,ayu,ayU];omega),hv,show(j+1)*k+i-k=j*k+i by rw[ayu,ayU];omega];exact lN (λx hx=>h x (by simp[hx])) (by simpa using hj) hu
theorem IB(z:List Value)(hz:0<z.length)(n:Nat):madeCells z.toArray (n*z.length)=((replicate n z).flatten).toArray:=by
 have hl:∀u∈replicate n z,u.length=z.length:=λu hu=>by rw[(List.mem_replicate.1 hu).2]
 apply Array.ext
 .simp[madeCells]
 .intro i h1 h2;have hi:i<n*z.length:=by simpa[madeCells]using h1
  have hq:i / z.length<n:=azF (by rw[ayq];exact hi);have hr:i%z.length<z.length:=Nat.mod_lt _ hz;have h:=lN hl (j:=i / z.length) (vs:=z) (by rw[ax3,axl hq]) (axn hr);rw[Nat.div_add_mod']at h;have e1:(replicate n z).flatten.toArray[i]=z[i%z.length]:=by rw[List.getElem_toArray];exact(axp.1 h).2
  rw[e1];simp[madeCells,hr]
theorem CQ.of_flat{E:EK α}{t:TypeId}{g:Nat}{xs:List α}{us:List (List Value)}(hl:xs.length<=1099511627776)(hus:us.length=xs.length)(hk:∀u∈us,u.length=E.k)(hv:VB w g t us.flatten.toArray)(al bl:Nat->Nat)
 (hO:∀(j:Nat) (x:α) (vs:List Value),xs[j]?=some x->us[j]?=some vs->E.O w (al j) (bl j) vs x/\lo<=al j/\bl j<=hi/\(g<al j∨bl j<=g)) (hd:∀i j,i<xs.length->j<xs.length->i≠j->(bl i<=al j∨bl j<=al i)) (h1:lo<=g) (h2:g<hi):
 CQ E t w lo hi (some ⟨g,0,none⟩) xs:=by
 refine⟨hl,al,bl,λj x hj=>?_,hd⟩;have hjl:=(axp.1 hj).1;obtain⟨vs,hvs⟩:∃vs,us[j]?=some vs:=⟨_,axn (by omega)⟩;obtain⟨ho,ha,hb,hd'⟩:=hO j x vs hj hvs;refine⟨g,0,vs,us.flatten.toArray,rfl,h1,h2,hv,λi u hi=>?_,ho,ha,hb,hd'⟩;rw[axT,List.getElem?_toArray];exact lN hk hvs hi
end
section
variable {α : Type}
theorem CQ.keep{E:EK α}{t:TypeId}{xs:List α}(h:CQ E t w lo hi A xs)(hk:∀k,lo<=k->k<hi->k<w.heap.size->w'.heap[k]?=w.heap[k]?):CQ E t w' lo hi A xs:=by obtain⟨hl,al,bl,k1,k2⟩:=h;refine⟨hl,al,bl,λj r hj=>?_,k2⟩;obtain⟨g,off,vs,cur,hA,hg1,hg2,hh,hc,ho,ha,hb,hd'⟩:=k1 j r hj;exact⟨g,off,vs,cur,hA,hg1,hg2,(hk g hg1 hg2 (aF hh)).trans hh,hc,E.keep ho (λk h1 h2 h3=>hk k (by omega) (by omega) h3),ha,hb,hd'⟩
end
theorem tQ.keep{x:aG}(h:tQ w a b v0 v1 x)(hk:∀k,a<=k->k<b->k<w.heap.size->w'.heap[k]?=w.heap[k]?):tQ w' a b v0 v1 x:=by obtain⟨a0,b0,a1,b1,m0,m1,c0,c1,c2,c3,c4⟩:=h;exact⟨a0,b0,a1,b1,m0.keep (λk h1 h2=>hk k (by omega) (by omega)),m1.keep (λk h1 h2=>hk k (by omega) (by omega)),c0,c1,c2,c3,c4⟩
def EF:EK aG where
 k:=2
 R:=λw vs x=>∃v0 v1,vs=[v0,v1]/\oD w v0 v1 x
 O:=λw a b vs x=>∃v0 v1,vs=[v0,v1]/\tQ w a b v0 v1 x
 tot:=Jm
 KZ:=aeg
 mM:=λh=>by obtain⟨_,_,rfl,_⟩:=h;rfl
 ex:=λh he=>by obtain⟨v0,v1,e,h⟩:=h;exact⟨v0,v1,e,h.ex he⟩
 rd:=λh=>by obtain⟨v0,v1,e,h⟩:=h;exact⟨v0,v1,e,h.rd⟩
 keep:=λh hk=>by obtain⟨v0,v1,e,h⟩:=h;exact⟨v0,v1,e,h.keep hk⟩
 nn:=UM
 tmk:=λk x=>by simp[Jm,aeg,ku,Vs,xH]
def m_(x:List aG):Int:=bN EF x
def mkF(k:Int)(x:List aG):List aG:=mkS EF k x
theorem Jo(x:List aG):0<=m_ x:=jr EF x
theorem bW.iy{xs:List aG}(h:bW EF w A xs)(hj:j<xs.length):
 ∃g off x P pc Q qc,A=some ⟨g,off,none⟩/\xs[j]?=some x/\w.cell? ⟨g,off+j*2,none⟩=some (.slice P x.n.length pc)/\w.cell? ⟨g,off+j*2+1,none⟩=some (.slice Q x.d.length qc)/\Rd w P x.n/\Rd w Q x.d:=by
 obtain⟨g,off,vs,x,hA,hx,hc,v0,v1,rfl,⟨P,pc,rfl,hP⟩,⟨Q,qc,rfl,hQ⟩⟩:=h.at_ hj;exact⟨g,off,x,P,pc,Q,qc,hA,hx,hc 0 _ rfl,hc 1 _ rfl,hP,hQ⟩
theorem mH:(prog.info? 57).map (λi=>(i.zero,i.size,i.bytes))=some (some (.agg #[.slice none 0 0,.slice none 0 0]),2,48):=by kernel_rfl
theorem Xz(q:Addr)(b:Bool)(w:World)(hc:w.cell? q=some (.bool b))(hz:w.frozen? q=false):
 CallsD prog 154 #[.pointer (some q)] .returning w λe u' w'=>e=.returned (.tuple #[])/\u'=.returning/\w'=w.setCell q (.bool true):=by
 refine callsD_of_wpS Tryz.func154 rfl λc₀ cs hu=>?_
 apply wpS_region;simp[wpOpsS,go_sem,recoverD,hu,Tryz.ntmps154,hc,hz,bodyPostS,results,Tryz.results154];cases c₀
 simp_all
theorem SF(g:FuncId)(eg:∀args w,(callFunc g args).run prog w=.ok (.enter g args) w)(cap:Array Value)(w:World)(S:Nat->Prop)(Q:World->Prop)(hS:∀z,S z->z<w.heap.size)
 (hdo:∀W,Ex w W->w.heap.size<W.heap.size->Calls prog g cap W λe W'=>e=.returned (.tuple #[])/\bG S W W'/\Q W') (hQ:∀W W',Q W->aM w.heap.size W W'->Q W'):
 Calls prog 120 #[.func (.func g) #[] cap] w λe w'=>e=.returned (.bool true)/\bG S w w'/\Q w':=by
 have hmf:∀(fn:Fn) (first cap:Array Value) (w:World),(Instr.makeFunc fn first cap).run prog w=.ok (.func fn first cap) w:=λ_ _ _ _=>rfl
 obtain⟨x1,v1⟩:=VB.xn w 4 #[.bool false];have s1:(w.alloc (.cells #[.bool false] 4)).heap.size=w.heap.size+1:=by simp
 go_enter_defers Tryz.func120,Tryz.ntmps120
 go_wp2_with fail
 generalize w.alloc (.cells #[.bool false] 4)=W1 at*;refine(hdo W1 x1 (by omega)).mono ?_;rintro e w2 ⟨rfl,x2,q2⟩;have v2:VB w2 w.heap.size 4 #[.bool false]:=(x2.block _ v1.lt (λhs=>by have:=hS _ hs;omega)).trans v1;have c2:=v2.c0;have z2:=v2.frozen 0;go_wp2_with fail
 have E3:aM w.heap.size w2 (w2.setCell ⟨w.heap.size,0,none⟩ (.bool true)):=(aM.refl _ w2).setCell (p:=⟨w.heap.size,0,none⟩) rfl _;have v3:VB (w2.setCell ⟨w.heap.size,0,none⟩ (.bool true)) w.heap.size 4 #[.bool true]:=v2.bC 0 _;have c3:=v3.c0;have z3:=v3.frozen 0;generalize w2.setCell ⟨w.heap.size,0,none⟩ (.bool true)=W3 at*;refine leaves_cons (f:=154) (args:= #[.pointer (some ⟨w.heap.size,0,none⟩)]) (by simp) (by simp[go_sem]) ?_;refine(Xz ⟨w.heap.size,0,none⟩ true W3 c3 z3).mono ?_;rintro e u' w4 ⟨rfl,rfl,rfl⟩;have E4:aM w.heap.size W3 (W3.setCell ⟨w.heap.size,0,none⟩ (.bool true)):=(aM.refl _ W3).setCell (p:=⟨w.heap.size,0,none⟩) rfl _;have c4:=(v3.bC 0 (.bool true)).c0;have hx:bG S w (W3.setCell ⟨w.heap.size,0,none⟩ (.bool true)):=((bG.aP (S:=S) x1).trans x2 (λ_ _ h=>h)).trans (bG.aZ (S:=λz=>z=w.heap.size) (E3.trans E4) rfl) (λi hi e=>by omega);have hq:=hQ _ _ q2 (E3.trans E4);generalize W3.setCell ⟨w.heap.size,0,none⟩ (.bool true)=W4 at*;refine⟨.bool true,by simp[results,Tryz.results120,go_sem,c4],rfl,hx,hq⟩
section
structure EL (α:Type) where
 k:Nat
 O:World->Nat->Nat->List Value->α->Prop
 mM:∀{w a b vs x},O w a b vs x->vs.length=k
 keep:∀{w w':World} {a b vs x},O w a b vs x->(∀k,a<=k->k<b->k<w.heap.size->w'.heap[k]?=w.heap[k]?)->O w' a b vs x
 one:∀{w a b vs x},O w a b vs x->∀u∈vs,u.oneCell'=true
variable {α : Type}
theorem EL.oex(E:EL α){vs:List Value}{x:α}(h:E.O w a b vs x)(he:Ex w w'):E.O w' a b vs x:=E.keep h λ_ _ _ hk=>he.block hk
theorem EL.grown(E:EL α){vs:List Value}{x:α}{o:Option Nat}(h:E.O w a b vs x)(he:w.grownBy w' o)(hd:∀k,o=some k->k<a∨b<=k):E.O w' a b vs x:=
 E.keep h λk h1 h2 hk=>he.block k hk (λe=>by have:=hd k e.symm;omega)
theorem yM{t:TypeId}{xs:List Value}(h:w.ownsRow B t s v n xs)(he:∀k,v.ownBlock=some k->k<w.heap.size->w'.heap[k]?=w.heap[k]?):w'.ownsRow B t s v n xs:=by
 obtain⟨h1,h2⟩:=h;refine⟨h1,?_⟩;rcases h2 with h2|⟨g,cap,cur,hv,hB,hh,r⟩
 .exact .inl h2
 .exact .inr ⟨g,cap,cur,hv,hB,(he g (by rw[hv];rfl) (aF hh)).trans hh,r⟩
def GE(E:EL α)(t:TypeId)(w:World)(B H:Nat)(v:Value)(xs:List α):Prop:=
 (∀k,v.ownBlock=some k->B<=k/\k<H)/\∃(us:List (List Value)) (al bl:Nat->Nat),us.length=xs.length/\w.ownsRow B t E.k v xs.length us.flatten/\
  (∀(j:Nat) (x:α),xs[j]?=some x->∃u,us[j]?=some u/\E.O w (al j) (bl j) u x/\B<=al j/\bl j<=H/\∀k,v.ownBlock=some k->k<al j∨bl j<=k)/\
  ∀i j,i<xs.length->j<xs.length->i≠j->(bl i<=al j∨bl j<=al i)
theorem GE.nil(E:EL α)(t:TypeId)(w:World)(B H:Nat):GE E t w B H (.slice none 0 0) []:=
 ⟨(λk e=>by cases e),[],λ_=>0,λ_=>0,rfl,World.ownsRow_nil w B _ _,(λj r hj=>by simp at hj),(λi j hi=>by simp at hi)⟩
theorem GE.empty(E:EL α)(t:TypeId)(w:World)(hB:B<=w.heap.size):GE E t (w.alloc (.cells #[] t)) B (w.heap.size+1) (.slice (some ⟨w.heap.size,0,none⟩) 0 0) []:=by have ho:(w.alloc (.cells #[] t)).ownsRow B t E.k (.slice (some ⟨w.heap.size,0,none⟩) 0 0) 0 []:=⟨by simp,.inr ⟨w.heap.size,0,#[],rfl,hB,heap_alloc_new w _,axk _,axq _,by simp,by simp⟩⟩;exact⟨λk e=>by injection e with e;subst e;exact⟨hB,ayf _⟩,[],λ_=>0,λ_=>0,rfl,ho,(λj r hj=>by simp at hj),(λi j hi=>by simp at hi)⟩
theorem GE.keep{E:EL α}{t:TypeId}{xs:List α}(h:GE E t w B H v xs)(hk:∀k,B<=k->k<H->k<w.heap.size->w'.heap[k]?=w.heap[k]?):GE E t w' B H v xs:=by obtain⟨hown,us,al,bl,hl,ho,h1,h2⟩:=h;refine⟨hown,us,al,bl,hl,yM ho λk e hk'=>hk k (hown k e).1 (hown k e).2 hk',λj x hj=>?_,h2⟩;obtain⟨u,q1,q2,q3,q4,q5⟩:=h1 j x hj;exact⟨u,q1,E.keep q2 λk a1 a2 a3=>hk k (by omega) (by omega) a3,q3,q4,q5⟩
theorem GE.ex{E:EL α}{t:TypeId}{xs:List α}(h:GE E t w B H v xs)(he:Ex w w'):GE E t w' B H v xs:=h.keep λ_ _ _ hk=>he.block hk
theorem GE.iv{E:EL α}{t:TypeId}{xs:List α}(h:GE E t w B H v xs)(he:jE a b w w')(hd:H<=a∨b<=B):GE E t w' B H v xs:=h.keep λk h1 h2 hk=>he.block k hk (by omega)
theorem GE.more{E:EL α}{t:TypeId}{B' H':Nat}{xs:List α}(h:GE E t w B H v xs)(hB:B'<=B)(hH:H<=H'):GE E t w B' H' v xs:=by
 obtain⟨hown,us,al,bl,hl,ho,h1,h2⟩:=h;refine⟨λk e=>by have:=hown k e;omega,us,al,bl,hl,⟨ho.1,?_⟩,λj x hj=>?_,h2⟩
 .rcases ho.2 with h5|⟨g,cap,cur,hv,hg,r⟩
  .exact .inl h5
  .exact .inr ⟨g,cap,cur,hv,by omega,r⟩
 .obtain⟨u,q1,q2,q3,q4,q5⟩:=h1 j x hj;exact⟨u,q1,q2,by omega,by omega,q5⟩
theorem GE.own{E:EL α}{t:TypeId}{xs:List α}(h:GE E t w B H v xs):∀k,v.ownBlock=some k->B<=k/\k<H:=h.1
theorem GE.form{E:EL α}{t:TypeId}{xs:List α}(h:GE E t w B H v xs)(hv:v≠.slice none 0 0):∃g c,v=.slice (some ⟨g,0,none⟩) xs.length c/\xs.length<=c/\c<=9223372036854775807:=by
 obtain⟨_,us,al,bl,hl,ho,_⟩:=h;rcases ho.2 with⟨e,_⟩|⟨g,cap,cur,e,_,_,h1,h2,_⟩
 .exact absurd e hv
 .exact⟨g,cap,e,h1,h2⟩
theorem GE.kH{E:EL α}{t:TypeId}{xs:List α}(h:GE E t w B H v xs):∃A c,v=.slice A xs.length c:=by
 obtain⟨_,us,al,bl,hl,ho,_⟩:=h;rcases ho.2 with⟨e,hn⟩|⟨g,cap,cur,e,_,_,h1,h2,_⟩
 .exact⟨none,0,by rw[e,hn]⟩
 .exact⟨_,cap,e⟩
theorem GE.at_{E:EL α}{t:TypeId}{g:Nat}{xs:List α}(h:GE E t w B H (.slice (some ⟨g,0,none⟩) n c) xs):
 ∃(cur:Array Value) (al bl:Nat->Nat),n=xs.length/\B<=g/\g<H/\w.heap[g]?=some (.cells cur t (0,0))/\
  (∀(j:Nat) (x:α),xs[j]?=some x->∃u,(∀(i:Nat) (y:Value),u[i]?=some y->cur[j*E.k+i]?=some y)/\E.O w (al j) (bl j) u x/\B<=al j/\bl j<=H/\(g<al j∨bl j<=g))/\
  ∀i j,i<xs.length->j<xs.length->i≠j->(bl i<=al j∨bl j<=al i):=by
 obtain⟨hown,us,al,bl,hl,ho,h1,h2⟩:=h;rcases ho.2 with⟨e,_⟩|⟨g',cap,cur,e,hB,hh,hnc,hcm,hsz,ht⟩
 .cases e
 .injection e with e1 e2 e3;injection e1 with e1;injection e1 with e1 _ _;subst e1;refine⟨cur,al,bl,e2,(hown _ rfl).1,(hown _ rfl).2,hh,λj x hj=>?_,h2⟩;obtain⟨u,q1,q2,q3,q4,q5⟩:=h1 j x hj;refine⟨u,λi y hy=>?_,q2,q3,q4,q5 _ rfl⟩;have hlen:∀u∈us,u.length=E.k:=λu hu=>by
   obtain⟨j',hj'⟩:=axz hu;have hl':=(axp.1 hj').1;obtain⟨u2,r1,r2,_⟩:=h1 j' _ (axn (by omega));rw[hj']at r1;injection r1 with r1;subst r1;exact E.mM r2
  have hf:us.flatten[j*E.k+i]?=some y:=lN hlen q1 hy;rw[<-ht,axL]at hf;split at hf
  .simpa using hf
  .cases hf
theorem GE.push(E:EL α){t tS:TypeId}(ht:prog.underlying tS=some (.slice t)){i:TypeInfo}(hi:prog.info? t=some i)(hz:i.zero=some z)(hs:i.size=E.k)(hby:i.bytes=bytes)(hzs:z.cells.size=E.k)(hk:0<E.k)(aoa:bytes<=64)
 {w:World} {B H:Nat} {v:Value} {xs:List α} (h:GE E t w B H v xs) (hH:H<=w.heap.size) {u:List Value} {x:α} {a b:Nat} (hu:E.O w a b u x) (ha:H<=a) (_:a<=b) (hb:b<=w.heap.size) (hB:B<=H) (hl:xs.length+1<=1099511627776):
 ∃v' w',(Builtin.append_ #[tS,tS] tS #[v,.slice (some ⟨w.heap.size,0,none⟩) 1 1]).run prog (w.alloc (.cells u.toArray t))=.ok v' w'/\
  GE E t w' B w'.heap.size v' (xs++[x])/\qh v.ownBlock w w'/\(v'.ownBlock=v.ownBlock∨v'.ownBlock=some (w.heap.size+1))/\v'≠.slice none 0 0/\∀b',Ex b' w->b'.heap.size<=B->Ex b' w':=by
 obtain⟨hown,us,al,bl,zY,ho,h1,h2⟩:=h;have hx:=(aCQ w).alloc (.cells u.toArray t);have hsz:(w.alloc (.cells u.toArray t)).heap.size=w.heap.size+1:=by simp
 have hrl:=E.mM hu;obtain⟨v',w',hrun,hown',hg,hnn,nL⟩:=run_append_own_at (P:=prog) (w.alloc (.cells u.toArray t)) B tS tS t i z E.k bytes ht hi hz hs hby hzs hk v xs.length _ (yM ho λk e hk=>hx.block hk) ⟨w.heap.size,0,none⟩ 1 1 u (by rw[hrl,ayU])
  (λj y hj=>World.news_of_block (heap_alloc_new w _) j y (by simpa using hj)) (E.one hu) (by unfold maxLen;omega) (by
   have:=Nat.mul_le_mul (show xs.length+1<=1099511627776 from hl) aoa;omega) (by omega)
 have hsz2:=hg.size;rw[hsz]at nL;have hown2:∀k,v'.ownBlock=some k->B<=k/\k<w'.heap.size:=World.ownsRow.lt hown';refine⟨v',w',hrun,⟨hown2,us++[u],(λj=>if j=xs.length then a else al j),(λj=>if j=xs.length then b else bl j),by simp[zY],?_,?_,?_⟩,(qh.aP hx).trans hg,nL,λe=>by have:=(hnn.1 e).2;omega,?_⟩
 .rw[axv,ay6];simpa using hown'
 .intro j q hj;by_cases e:j=xs.length
  .subst e;rw[axN (axk _),ayd]at hj;injection hj with hj;subst hj;refine⟨u,by rw[axN (by omega),zY,ayd];rfl,?_,?_,?_,?_⟩
   .simp only[axl];exact E.grown (E.oex hu hx) hg λk e=> .inl (by have:=hown k e;omega)
   .simp only[axl];omega
   .simp only[axl];omega
   .intro k e;simp only[axl];rcases nL with e2|e2
    .exact .inl (by have:=hown k (e2▸e);omega)
    .rw[e2]at e;injection e with e;exact .inr (by omega)
  .have hjl:j<xs.length:=by have:=(axp.1 hj).1;rw[axv]at this;simp at this;omega
   rw[axX hjl]at hj;obtain⟨u2,q1,q2,q3,q4,q5⟩:=h1 j q hj;refine⟨u2,by rw[axX (by omega)];exact q1,?_,?_,?_,?_⟩
   .simp only[axm e];exact E.grown (E.oex q2 hx) hg q5
   .simp only[axm e];exact q3
   .simp only[axm e];omega
   .intro k e2;simp only[axm e];rcases nL with e3|e3
    .exact q5 k (e3▸e2)
    .rw[e3]at e2;injection e2 with e2;exact .inr (by omega)
 .intro i j hi' hj' hne;simp only[axv,axR,List.length_nil]at hi' hj';by_cases ei:i=xs.length
  .have ej:j≠xs.length:=by omega
   have hjl:j<xs.length:=by omega
   obtain⟨_,_,_,_,q4,_⟩:=h1 j _ (axn hjl);simp only[axl ei,axm ej];exact .inr (by omega)
  .have hil:i<xs.length:=by omega
   obtain⟨_,_,_,_,q4,_⟩:=h1 i _ (axn hil);by_cases ej:j=xs.length
   .simp only[axm ei,axl ej];exact .inl (by omega)
   .simp only[axm ei,axm ej];exact h2 i j hil (by omega) hne
 .intro b' hb' hbB;exact(hb'.trans hx).Og hg (λg e=>by have:=(hown g e).1;omega)
end
def RF0(w:World)(v:Value)(x:List aG):Prop:=∃A c,v=.slice A x.length c/\bW EF w A x
theorem RF0.ex{x:List aG}(h:RF0 w v x)(he:Ex w w'):RF0 w' v x:=by obtain⟨A,c,e,r⟩:=h;exact⟨A,c,e,r.ex he⟩
theorem RF0.form{x:List aG}(h:RF0 w v x):∃A c,v=.slice A x.length c/\bW EF w A x:=h
def OF0(w:World)(a b:Nat)(v:Value)(x:List aG):Prop:=∃A c,v=.slice A x.length c/\x.length<=c/\CQ EF 57 w a b A x
def iX:EK (List aG) where
 k:=1
 R:=λw vs x=>∃v,vs=[v]/\RF0 w v x
 O:=λw a b vs x=>∃v,vs=[v]/\OF0 w a b v x
 tot:=m_
 KZ:=mkF
 mM:=λh=>by obtain⟨_,rfl,_⟩:=h;rfl
 ex:=λh he=>by obtain⟨v,e,h⟩:=h;exact⟨v,e,h.ex he⟩
 rd:=λh=>by obtain⟨v,e,A,c,e2,_,h⟩:=h;exact⟨v,e,A,c,e2,h.rd⟩
 keep:=λh hk=>by obtain⟨v,e,A,c,e2,hc,h⟩:=h;exact⟨v,e,A,c,e2,hc,h.keep hk⟩
 nn:=Jo
 tmk:=λk x=>CX EF k x
def Le(w:World)(v:Value)(x:List (List aG)):Prop:=RS iX w v x
def eZ(x:List (List aG)):Int:=bN iX x
theorem bW.jf{xs:List (List aG)}(h:bW iX w A xs)(hj:j<xs.length):
 ∃g off x v,A=some ⟨g,off,none⟩/\xs[j]?=some x/\w.cell? ⟨g,off+j,none⟩=some v/\RF0 w v x:=by
 obtain⟨g,off,vs,x,hA,hx,hc,v,rfl,hR⟩:=h.at_ hj;have:=hc 0 _ rfl;rw[show iX.k=1 from rfl,ays,ayb]at this;exact⟨g,off,x,v,hA,hx,this,hR⟩
def slZ:List Value:=[.slice none 0 0]
theorem jB:(prog.info? 54).map (λi=>(i.zero,i.size,i.bytes))=some (some (.slice none 0 0),1,24):=by kernel_rfl
theorem sW(n:Nat)(hn:n<=1099511627776)(w:World):
 (Instr.makeSlice 26 (.int .i64 (n:Int)) (.int .i64 (n:Int))).run prog w=.ok (.slice (some ⟨w.heap.size,0,none⟩) n n) (w.alloc (.cells ((replicate n slZ).flatten).toArray 54)):=by
 obtain⟨i,hi,hz,hs,hb⟩:=axW jB;have hr:=run_make (P:=prog) w 26 54 i _ Tryz.underlying26 hi hz .i64 .i64 n n (by omega) (by omega) (by rw[hb];omega) (by omega);simp only[azi,hs]at hr;rw[hr];have:=IB slZ (by decide) n;rw[show slZ.length=1 from rfl]at this;rw[<-this];rfl
section
def CO(w:World)(S:Nat->Prop)(v0 v1:Value)(x:aG):Prop:=∃s0 s1:Nat->Prop,XI w s0 v0 x.n/\XI w s1 v1 x.d/\(∀k,s0 k->S k)/\(∀k,s1 k->S k)/\∀k,s0 k->¬s1 k
theorem CO.rd{x:aG}(h:CO w S v0 v1 x):oD w v0 v1 x:=by obtain⟨_,_,h0,h1,_⟩:=h;exact⟨h0.rd,h1.rd⟩
theorem CO.keep{x:aG}(h:CO w S v0 v1 x)(hk:∀k,S k->k<w.heap.size->w'.heap[k]?=w.heap[k]?):CO w' S v0 v1 x:=by obtain⟨s0,s1,h0,h1,k0,k1,d⟩:=h;exact⟨s0,s1,h0.keep (λk hs=>hk k (k0 k hs)),h1.keep (λk hs=>hk k (k1 k hs)),k0,k1,d⟩
theorem CO.mono{x:aG}(h:CO w S v0 v1 x)(hT:∀k,k<w.heap.size->S k->T k):CO w T v0 v1 x:=by obtain⟨s0,s1,h0,h1,k0,k1,d⟩:=h;exact⟨λk=>s0 k/\k<w.heap.size,λk=>s1 k/\k<w.heap.size,h0.mono (λk hk hs=>⟨hs,hk⟩),h1.mono (λk hk hs=>⟨hs,hk⟩),λk hs=>hT k hs.2 (k0 k hs.1),λk hs=>hT k hs.2 (k1 k hs.1),λk a b=>d k a.1 b.1⟩
theorem tQ.xf{x:aG}(h:tQ w a b v0 v1 x):CO w (λk=>a<=k/\k<b) v0 v1 x:=by obtain⟨a0,b0,a1,b1,m0,m1,c0,c1,c2,c3,c4⟩:=h;exact⟨_,_,m0.xi,m1.xi,λk hk=>by omega,λk hk=>by omega,λk h1 h2=>by omega⟩
structure EX (α:Type) where
 k:Nat
 O:World->(Nat->Prop)->List Value->α->Prop
 mM:∀{w S vs x},O w S vs x->vs.length=k
 keep:∀{w w':World} {S vs x},O w S vs x->(∀k,S k->k<w.heap.size->w'.heap[k]?=w.heap[k]?)->O w' S vs x
 mono:∀{w S T vs x},O w S vs x->(∀k,k<w.heap.size->S k->T k)->O w T vs x
variable {α : Type}
def OX(E:EX α)(t:TypeId)(w:World)(S:Nat->Prop)(A:Option Addr)(xs:List α):Prop:=
 xs.length<=1099511627776/\∃s:Nat->Nat->Prop,(∀(j:Nat) (x:α),xs[j]?=some x->∃g off vs cur,A=some ⟨g,off,none⟩/\S g/\w.heap[g]?=some (.cells cur t (0,0))/\
  (∀(i:Nat) (u:Value),vs[i]?=some u->cur[off+j*E.k+i]?=some u)/\E.O w (s j) vs x/\(∀k,s j k->S k)/\¬s j g)/\
  ∀i j k,i<xs.length->j<xs.length->i≠j->s i k->¬s j k
theorem OX.nil(E:EX α)(t:TypeId)(w:World)(S:Nat->Prop)(A:Option Addr):OX E t w S A []:=⟨by simp,λ_ _=>False,λj x hj=>by simp at hj,λi j k hi=>by simp at hi⟩
theorem OX.keep{E:EX α}{t:TypeId}{xs:List α}(h:OX E t w S A xs)(hk:∀k,S k->k<w.heap.size->w'.heap[k]?=w.heap[k]?):OX E t w' S A xs:=by obtain⟨hl,s,h1,h2⟩:=h;refine⟨hl,s,λj x hj=>?_,h2⟩;obtain⟨g,off,vs,cur,hA,hg,hh,hc,ho,hs,hn⟩:=h1 j x hj;exact⟨g,off,vs,cur,hA,hg,(hk g hg (aF hh)).trans hh,hc,E.keep ho (λk h=>hk k (hs k h)),hs,hn⟩
theorem OX.mono{E:EX α}{t:TypeId}{xs:List α}(h:OX E t w S A xs)(hT:∀k,k<w.heap.size->S k->T k):OX E t w T A xs:=by obtain⟨hl,s,h1,h2⟩:=h;refine⟨hl,λj k=>s j k/\k<w.heap.size,λj x hj=>?_,λi j k hi hj hne a b=>h2 i j k hi hj hne a.1 b.1⟩;obtain⟨g,off,vs,cur,hA,hg,hh,hc,ho,hs,hn⟩:=h1 j x hj;exact⟨g,off,vs,cur,hA,hT g (aF hh) hg,hh,hc,E.mono ho (λk hk h=>⟨h,hk⟩),λk h=>hT k h.2 (hs k h.1),λh=>hn h.1⟩
end
section
variable {α : Type}
theorem OX.JC{E:EX α}{E':EK α}{t:TypeId}{xs:List α}(h:OX E t w S A xs)(hk:E.k=E'.k)(hE:∀{S vs x},E.O w S vs x->E'.R w vs x):bW E' w A xs:=by obtain⟨hl,s,h1,h2⟩:=h;refine⟨hl,λj x hj=>?_⟩;obtain⟨g,off,vs,cur,hA,_,hh,hc,ho,_,_⟩:=h1 j x hj;exact⟨g,off,vs,hA,λi u hu=>by rw[<-hk];exact dJ hh (hc i u hu),hE ho⟩
def Jf:EX aG where
 k:=2
 O:=λw S vs x=>∃v0 v1,vs=[v0,v1]/\CO w S v0 v1 x
 mM:=λh=>by obtain⟨_,_,rfl,_⟩:=h;rfl
 keep:=λh hk=>by obtain⟨v0,v1,e,h⟩:=h;exact⟨v0,v1,e,h.keep hk⟩
 mono:=λh hk=>by obtain⟨v0,v1,e,h⟩:=h;exact⟨v0,v1,e,h.mono hk⟩
def Sv:EX (List aG) where
 k:=1
 O:=λw S vs x=>∃A c,vs=[.slice A x.length c]/\x.length<=c/\OX Jf 57 w S A x
 mM:=λh=>by obtain⟨_,_,rfl,_⟩:=h;rfl
 keep:=λh hk=>by obtain⟨A,c,e,hc,h⟩:=h;exact⟨A,c,e,hc,h.keep hk⟩
 mono:=λh hk=>by obtain⟨A,c,e,hc,h⟩:=h;exact⟨A,c,e,hc,h.mono hk⟩
theorem Bg{vs:List Value}{x:aG}(h:Jf.O w S vs x):EF.R w vs x:=by obtain⟨v0,v1,e,h⟩:=h;exact⟨v0,v1,e,h.rd⟩
theorem RU{vs:List Value}{x:List aG}(h:Sv.O w S vs x):iX.R w vs x:=by obtain⟨A,c,e,_,h⟩:=h;exact⟨_,e,A,c,rfl,h.JC rfl Bg⟩
def OFF(w:World)(a b:Nat)(v:Value)(x:List (List aG)):Prop:=(∃(A:Option Addr) (c:Nat) (S:Nat->Prop),v=.slice A x.length c/\(∀k,S k->a<=k/\k<b)/\OX Sv 54 w S A x)/\eZ x<=1125899906842624
theorem OFF.rd{x:List (List aG)}(h:OFF w a b v x):Le w v x:=by obtain⟨⟨A,c,S,e,_,h⟩,ht⟩:=h;exact⟨⟨A,c,e,h.JC rfl RU⟩,ht⟩
def j_(w:World)(A:Option Addr)(xs:List (List aG)):Prop:=bW iX w A xs/\∀(j:Nat) (r:List aG),xs[j]?=some r->∃g off P pc,A=some ⟨g,off,none⟩/\w.cell? ⟨g,off+j,none⟩=some (.slice P r.length pc)/\r.length<=pc/\bW EF w P r
theorem j_.ex{xs:List (List aG)}(h:j_ w A xs)(he:Ex w w'):j_ w' A xs:=by refine⟨h.1.ex he,λj r hr=>?_⟩;obtain⟨g,off,P,pc,e,q,l,k⟩:=h.2 j r hr;exact⟨g,off,P,pc,e,af he q,l,k.ex he⟩
theorem j_.at_{xs:List (List aG)}(h:j_ w A xs)(hj:j<xs.length):∃g off r P pc,A=some ⟨g,off,none⟩/\xs[j]?=some r/\w.cell? ⟨g,off+j,none⟩=some (.slice P r.length pc)/\r.length<=pc/\bW EF w P r:=by obtain⟨g,off,P,pc,e,q,l,k⟩:=h.2 j _ (axn hj);exact⟨g,off,_,P,pc,e,axn hj,q,l,k⟩
theorem OX.Da{xs:List (List aG)}(h:OX Sv 54 w S A xs):j_ w A xs:=by refine⟨h.JC rfl RU,λj r hr=>?_⟩;obtain⟨hl,s,h1,h2⟩:=h;obtain⟨g,off,vs,cur,hA,_,hh,hc,⟨P,pc,e,hpc,ho⟩,_,_⟩:=h1 j r hr;refine⟨g,off,P,pc,hA,?_,hpc,ho.JC rfl Bg⟩;have:=dJ hh (hc 0 (.slice P r.length pc) (by rw[e];rfl));rwa[show Sv.k=1 from rfl,ays,ayb]at this
end
structure iK where
 l:Int
 r:Int
 b:List (List aG)
def rE(w:World)(v0:Value)(x:iK):Prop:=Le w v0 x.b
def oG(w:World)(lo hi:Nat)(v0:Value)(x:iK):Prop:=∃(a0 b0:Nat),OFF w a0 b0 v0 x.b/\lo<=a0/\b0<=hi
theorem oG.rd{x:iK}(h:oG w lo hi v0 x):rE w v0 x:=by obtain⟨a0,b0,m0,c0,c1⟩:=h;exact m0.rd
def Sj(w:World)(v0:Value)(x:iK):Prop:=rE w v0 x/\∃A c,v0=.slice A x.b.length c/\j_ w A x.b
section
structure PE {α:Type} (E:EK α) (f:α->List Value):Prop where
 R:∀{w vs x},E.R w vs x↔vs=f x
 O:∀{w a b vs x},E.O w a b vs x↔vs=f x
 len:∀x,(f x).length=E.k
 one:∀x,∀u∈f x,u.oneCell'=true
 pos:0<E.k
variable {α : Type} {E : EK α} {f : α -> List Value} {t : TypeId}
def jX(f:α->List Value)(xs:List α):List Value:=(xs.map f).flatten
theorem PE.aam(P:PE E f)(xs:List α):(jX f xs).length=xs.length*E.k:=by unfold jX;rw[uQ (k:=E.k) (λu hu=>by obtain⟨y,_,rfl⟩:=axr.1 hu;exact P.len y),axs]
theorem PE.fat(P:PE E f){xs:List α}{x:α}(h:xs[j]?=some x){u:Value}(hu:(f x)[i]?=some u):(jX f xs)[j*E.k+i]?=some u:=
 lN (k:=E.k) (λu hu=>by obtain⟨y,_,rfl⟩:=axr.1 hu;exact P.len y) (by rw[axw,h];rfl) hu
theorem zD(xs ys:List α):jX f (xs++ys)=jX f xs++jX f ys:=by simp[jX]
theorem PE.aoF(P:PE E f){xs:List α}{u:Value}(h:u∈jX f xs):u.oneCell'=true:=by obtain⟨l,hl,hu⟩:=List.mem_flatten.1 h;obtain⟨x,_,rfl⟩:=axr.1 hl;exact P.one x u hu
def AF(E:EK α)(f:α->List Value)(t:TypeId)(w:World)(B:Nat)(v:Value)(xs:List α):Prop:=w.ownsRow B t E.k v xs.length (jX f xs)
theorem AF.empty(w:World)(hB:B<=w.heap.size):AF E f t (w.alloc (.cells #[] t)) B (.slice (some ⟨w.heap.size,0,none⟩) 0 0) []:=
 ⟨by simp[jX],.inr ⟨w.heap.size,0,#[],rfl,hB,heap_alloc_new w _,axk _,axq _,by simp,by simp[jX]⟩⟩
theorem AF.lt{xs:List α}(h:AF E f t w B v xs):∀k,v.ownBlock=some k->B<=k/\k<w.heap.size:=World.ownsRow.lt h
theorem AF.keep{xs:List α}(h:AF E f t w B v xs)(he:∀k,v.ownBlock=some k->k<w.heap.size->w'.heap[k]?=w.heap[k]?):AF E f t w' B v xs:=by
 obtain⟨h1,h2⟩:=h;refine⟨h1,?_⟩;rcases h2 with h2|⟨g,cap,cur,hv,hBg,hh,r⟩
 .exact .inl h2
 .exact .inr ⟨g,cap,cur,hv,hBg,(he g (by rw[hv];rfl) (aF hh)).trans hh,r⟩
theorem AF.ex{xs:List α}(h:AF E f t w B v xs)(he:Ex w w'):AF E f t w' B v xs:=h.keep λ_ _ hk=>he.block hk
theorem AF.form{xs:List α}(h:AF E f t w B v xs):∃A c,v=.slice A xs.length c/\(xs.length<=c):=by
 rcases h.2 with⟨e,hn⟩|⟨g,cap,cur,e,_,_,h1,_⟩
 .exact⟨none,0,by rw[e,hn],by omega⟩
 .exact⟨_,cap,e,h1⟩
theorem AF.own{g o:Nat}{xs:List α}(h:AF E f t w B (.slice (some ⟨g,o,none⟩) n c) xs):o=0/\n=xs.length/\n<=c/\B<=g/\∃cur:Array Value,w.heap[g]?=some (.cells cur t (0,0))/\cur.size=c*E.k/\cur.toList.take (xs.length*E.k)=jX f xs:=by
 rcases h.2 with⟨e,_⟩|⟨g',cap,cur,e,h1,h2,h3,_,h4,h5⟩
 .cases e
 .injection e with e1 e2 e3;injection e1 with e1;injection e1 with e1 e4;subst e1 e2 e3;exact⟨e4,rfl,h3,h1,cur,h2,h4,h5⟩
theorem PE.cur(P:PE E f){cur:Array Value}{xs:List α}(h:cur.toList.take (xs.length*E.k)=jX f xs){x:α}(hj:xs[j]?=some x){u:Value}(hu:(f x)[i]?=some u):cur[j*E.k+i]?=some u:=by
 have e:=P.fat hj hu;rw[<-h,axL]at e;split at e
 .simpa using e
 .cases e
theorem AF.ows{xs:List α}(h:AF E f t w B v xs)(P:PE E f)(hl:xs.length<=1099511627776):∃A c,v=.slice A xs.length c/\CQ E t w B w.heap.size A xs/\bW E w A xs/\xs.length<=c:=by
 have key:∃A c,v=.slice A xs.length c/\CQ E t w B w.heap.size A xs/\xs.length<=c:=by
  rcases h.2 with⟨hv,hn⟩|⟨g,cap,cur,hv,hB,hh,hnc,_,_,htk⟩
  .have:xs=[]:=ayp hn;subst this;exact⟨none,0,hv,CQ.nil _ _ _ _ _ _,axk _⟩
  .refine⟨_,cap,hv,⟨by omega,λ_=>w.heap.size,λ_=>B,λj x hj=>⟨g,0,f x,cur,rfl,hB,aF hh,hh,λi u hu=>?_,P.O.2 rfl,by have:=aF hh;show B<=w.heap.size;omega,by have:=aF hh;show B<=w.heap.size;omega,.inl (aF hh)⟩,λi j _ _ _=> .inl (by have:=aF hh;show B<=w.heap.size;omega)⟩,hnc⟩;rw[axT];exact P.cur htk hj hu
 obtain⟨A,c,h1,h2,h3⟩:=key;exact⟨A,c,h1,h2,h2.rd,h3⟩
theorem AF.take{g:Nat}{xs:List α}(h:AF E f t w B (.slice (some ⟨g,0,none⟩) n c) xs)(P:PE E f)(k:Nat)(hk:k<=xs.length):AF E f t w B (.slice (some ⟨g,0,none⟩) k c) (xs.take k):=by
 have hl:(xs.take k).length=k:=by rw[axx];omega
 rcases h.2 with⟨e,_⟩|⟨g',cap,cur,e,h1,h2,h3,h4,h5,h6⟩
 .cases e
 .injection e with e1 e2 e3;injection e1 with e1;injection e1 with e1 _;subst e1 e2 e3;unfold AF;rw[hl];have hfl:jX f (xs.take k)=(jX f xs).take (k*E.k):=by
   have e1:jX f xs=jX f (xs.take k)++jX f (xs.drop k):=by rw[<-zD,ayw]
   rw[e1,List.take_append_of_le_length (by rw[P.aam,hl];exact axk _)];exact(axG (by rw[P.aam,hl];exact axk _)).symm
  refine⟨by rw[P.aam,hl],.inr ⟨g,c,cur,rfl,h1,h2,by omega,h4,h5,?_⟩⟩;rw[hfl,<-h6,List.take_take];congr 1;have:k*E.k<=xs.length*E.k:=ayk _ hk;omega
theorem Gx{P:Program}(pe:PE E f){tS:TypeId}(ty:TypeId){i:TypeInfo}(ht:P.underlying tS=some (.slice t))(hi:P.info? t=some i)(hz:i.zero=some z)(hs:i.size=E.k)(hby:i.bytes=bytes)(hzs:z.cells.size=E.k)
 (w:World) (B:Nat) (v:Value) (ys:List α) (hv:AF E f t w B v ys) (hB:B<=w.heap.size) (A:Option Addr) (c:Nat) (xs:List α) (h:bW E w A xs) (hl:ys.length+xs.length<=1099511627776) (hbs:bytes<=100):
 ∃v' w',(Builtin.append_ #[tS,tS] ty #[v,.slice A xs.length c]).run P w=.ok v' w'/\AF E f t w' B v' (ys++xs)/\(v'.ownBlock=v.ownBlock∨v'.ownBlock=some w.heap.size)/\qh v.ownBlock w w'/\(v'=.slice none 0 0->v=.slice none 0 0/\xs=[]):=by
 have hk:=pe.pos;rcases A with _|ad
 .have hx:xs=[]:=by
   cases xs with
   |nil=>rfl
   |cons x xs=>obtain⟨g,off,vs,hA,_⟩:=h.2 0 x rfl;cases hA
  subst hx;refine⟨v,w,?_,by simpa using hv,.inl rfl,qh.refl _ _,λe=>⟨e,rfl⟩⟩;rcases hv.2 with⟨rfl,_⟩|⟨g,cap,cur,rfl,_,_,hnc,_⟩
  .simp[Builtin.append_,ayj ht,sizeOf,typeInfo,hi,Builtin.lenOf,Builtin.firstCells]
  .simp[Builtin.append_,ayj ht,sizeOf,typeInfo,hi,Builtin.lenOf,Builtin.firstCells,hnc,storeCells]
 .have hc:∀(j:Nat) (u:Value),(jX f xs)[j]?=some u->w.cell? (ad.add j)=some u:=by
   intro j u hu;have hjl:=(axp.1 hu).1;rw[pe.aam]at hjl;have hq:j / E.k<xs.length:=azF (by rw[ayq];exact hjl);obtain⟨g,off,vs,hA,hcell,hvs⟩:=h.2 (j / E.k) _ (axn hq);have hvs:=pe.R.1 hvs;subst hvs;injection hA with hA;subst hA;have hm:j / E.k*E.k+j%E.k=j:=by rw[ayq];exact Nat.div_add_mod j E.k
   have hlt:j%E.k<(f xs[j / E.k]).length:=by rw[pe.len];exact Nat.mod_lt _ hk
   have hr:(f xs[j / E.k])[j%E.k]?=some u:=by have e:=pe.fat (axn hq) (axn hlt);rw[hm,hu]at e;rw[axn hlt];exact e.symm
   have e:(⟨g,off,none⟩:Addr).add j=⟨g,off+j,none⟩:=by unfold Addr.add;split<;>simp_all
   rw[e];have:=hcell (j%E.k) u hr;rwa[ay8,hm]at this
  have hb1:(ys.length+xs.length)*bytes<=1099511627776*100:=Nat.mul_le_mul hl hbs;obtain⟨v',w',hrun,h2,h3,h4,h5⟩:=run_append_own_at (P:=P) w B tS ty t i z E.k bytes ht hi hz hs hby hzs hk v ys.length _ hv ad xs.length c (jX f xs) (pe.aam xs) hc (λu hu=>pe.aoF hu) (by unfold maxLen;omega) (by omega) hB;refine⟨v',w',hrun,?_,h5,h3,λe=>⟨(h4.1 e).1,ayp (h4.1 e).2⟩⟩;unfold AF;rw[axv,zD];exact h2
theorem PE.blk(pe:PE E f)(w:World)(x:α):bW E (w.alloc (.cells (f x).toArray t)) (some ⟨w.heap.size,0,none⟩) [x]:=by
 have v:=VB.new w t (f x).toArray;refine⟨by simp,λj y hj=>?_⟩;cases j with
 |zero=>simp at hj;subst hj;refine⟨_,0,f x,rfl,λi u hu=>?_,pe.R.2 rfl⟩;have:=v.cell i (v:=u) (by simpa using hu);simpa using this
 |succ j=>simp at hj
theorem adK{P:Program}(pe:PE E f){tS:TypeId}(ty:TypeId){i:TypeInfo}(ht:P.underlying tS=some (.slice t))(hi:P.info? t=some i)(hz:i.zero=some z)(hs:i.size=E.k)(hby:i.bytes=bytes)(hzs:z.cells.size=E.k)
 (w:World) (B:Nat) (v:Value) (ys:List α) (x:α) (hv:AF E f t w B v ys) (hB:B<=w.heap.size) (hl:ys.length+1<=1099511627776) (hbs:bytes<=100):
 ∃v' w',(Builtin.append_ #[tS,tS] ty #[v,.slice (some ⟨w.heap.size,0,none⟩) 1 1]).run P (w.alloc (.cells (f x).toArray t))=.ok v' w'/\AF E f t w' B v' (ys++[x])/\(v'.ownBlock=v.ownBlock∨∃k,v'.ownBlock=some k/\w.heap.size<=k)/\qh v.ownBlock w w'/\v'≠.slice none 0 0:=by
 have ha:=(aCQ w).alloc (.cells (f x).toArray t);obtain⟨v',w',h1,h2,h4,h5,h6⟩:=Gx pe ty ht hi hz hs hby hzs _ B v ys (hv.ex ha) (axA hB ha.size) (some ⟨w.heap.size,0,none⟩) 1 [x] (pe.blk (t:=t) w x) (by simpa using hl) hbs;exact⟨v',w',h1,h2,h4.imp id (λe=>⟨_,e,ha.size⟩),(qh.aP ha).trans h5,λe=>by have:=(h6 e).2;simp at this⟩
end
open Go.Lib (Bytes run_convert_whole)
structure Nd where
 kd:Int
 vl:Int
 nm:ByteArray
def ndC(x:Nd):List Value:=[.int .i64 x.kd,.int .i64 x.vl,.string x.nm]
def Xl:Nat->Int->ByteArray->ByteArray
 |0,_,out=>out
 |n+1,k,out=>if 0<k then Xl n (k / 10) (⟨#[UInt8.ofNat (48+(k%10).toNat)]⟩++out)else out
def mtx(k:Int):ByteArray:=if k<=0 then⟨#[109,48]⟩else⟨#[109]⟩++Xl 20 k ⟨#[]⟩
def EN:EK Nd where
 k:=3
 R:=λ_ vs x=>vs=ndC x
 O:=λ_ _ _ vs x=>vs=ndC x
 tot:=λ_=>3
 KZ:=λk _=>⟨k,k+1,mtx (k+2)⟩
 mM:=λh=>by subst h;rfl
 ex:=λh _=>h
 rd:=λh=>h
 keep:=λh _=>h
 nn:=λ_=>by omega
 tmk:=λ_ _=>rfl
def RN(w:World)(v:Value)(x:List Nd):Prop:=RS EN w v x
def ON(w:World)(a b:Nat)(v:Value)(x:List Nd):Prop:=OS EN 70 w a b v x
def P7(x:List Nd):Int:=bN EN x
theorem SI(x:List Nd):0<=P7 x:=jr EN x
theorem RN.ex{x:List Nd}(h:RN w v x)(he:Ex w w'):RN w' v x:=RS.ex h he
theorem RN.tot{x:List Nd}(h:RN w v x):P7 x<=1125899906842624:=RS.tot h
theorem RN.form{x:List Nd}(h:RN w v x):∃A n c,v=.slice A n c:=RS.form h
theorem ON.rd{x:List Nd}(h:ON w a b v x):RN w v x:=OS.rd h
theorem ON.ex{x:List Nd}(h:ON w a b v x)(he:Ex w w'):ON w' a b v x:=OS.ex h he
theorem ON.e1{g:Nat}{x:List Nd}(h:ON w a b v x)(k:aM g w w')(hd:g<a∨b<=g):ON w' a b v x:=OS.e1 h k hd
theorem bW.node{xs:List Nd}(h:bW EN w A xs)(hj:j<xs.length):
 ∃g off x,A=some ⟨g,off,none⟩/\xs[j]?=some x/\w.cell? ⟨g,off+j*3,none⟩=some (.int .i64 x.kd)/\w.cell? ⟨g,off+j*3+1,none⟩=some (.int .i64 x.vl)/\w.cell? ⟨g,off+j*3+2,none⟩=some (.string x.nm):=by
 obtain⟨g,off,vs,x,hA,hx,hc,rfl⟩:=h.at_ hj;exact⟨g,off,x,hA,hx,hc 0 _ rfl,hc 1 _ rfl,hc 2 _ rfl⟩
theorem nodeInfo:(prog.info? 70).map (λi=>(i.zero,i.size,i.bytes))=some (some (.agg #[.int .i64 0,.int .i64 0,.string ⟨#[]⟩]),3,32):=by kernel_rfl
theorem aau(x:Nd)(w:World):Calls prog 56 #[.agg #[.int .i64 x.kd,.int .i64 x.vl,.string x.nm],.agg #[.int .i64 x.kd,.int .i64 x.vl,.string x.nm]] w λe w'=>e=.returned (.bool true)/\Ex w w':=by
 obtain⟨x0,x1,x2⟩:=x;dsimp only;go_enter Tryz.func56,Tryz.ntmps56
 go_wp2_with fail
 go_ret;exact⟨rfl,((aCQ w).alloc _).alloc _⟩
theorem Wv(x:List Nd)(v u:Value)(w:World)(h:RN w v x)(h':RN w u x):
 Calls prog 26 #[v,u] w λe w'=>e=.returned (.bool true)/\Ex w w':=by
 obtain⟨⟨A,c,rfl,h⟩,_⟩:=h;obtain⟨⟨A',c',rfl,h'⟩,_⟩:=h';have hl:=h.1;go_enter Tryz.func26,Tryz.ntmps26
 go_wp2;go_loopw [5] (λi wr=>∃k:Nat,k<=x.length/\i=.int .i64 k/\Ex w wr) (λi _=>x.length-(intOf i).toNat)
 case atStart=>exact⟨0,axq _,rfl,aCQ w⟩
 case round=>
  obtain⟨k,hk,rfl,he⟩:=hrel;by_cases hlt:k<x.length
  .obtain⟨g,off,r,rfl,hr,c0,c1,c2⟩:=(h.ex he).node hlt;obtain⟨g',off',r',rfl,hr',d0,d1,d2⟩:=(h'.ex he).node hlt;obtain rfl:r=r':=by rw[hr]at hr';injection hr'
   clear hr hr';go_wp2_with fail
   go_region_held3 (λW=>W.cell? ⟨g,off+k*3,none⟩=some (.int .i64 r.kd)/\W.cell? ⟨g,off+k*3+1,none⟩=some (.int .i64 r.vl)/\W.cell? ⟨g,off+k*3+2,none⟩=some (.string r.nm)/\W.cell? ⟨g',off'+k*3,none⟩=some (.int .i64 r.kd)/\W.cell? ⟨g',off'+k*3+1,none⟩=some (.int .i64 r.vl)/\W.cell? ⟨g',off'+k*3+2,none⟩=some (.string r.nm)) (first|(exact⟨af x1 c0,af x1 c1,af x1 c2,af x1 d0,af x1 d1,af x1 d2⟩)|(exact⟨c0,c1,c2,d0,d1,d2⟩)) (first
    |(go_at_call 56
      refine(aau r _).mono ?_;rintro e w1 ⟨rfl,x1⟩))
   all_goals go_wp2
   all_goals exact⟨⟨k+1,by omega,by go_num,he.drew.trans x1⟩,by simp[intOf]<;>omega⟩
  .obtain rfl:k=x.length:=by omega
   go_wp2;go_ret;exact⟨rfl,he⟩
structure Ed where
 kd:Int
 vl:Int
 ins:List Int
 outs:List Int
def REd(w:World)(v0 v1:Value)(x:Ed):Prop:=RI w v0 x.ins/\RI w v1 x.outs
def SK(x:Ed):Int:=ku x.ins+ku x.outs
theorem XH(x:Ed):0<=SK x:=by unfold SK;have h0:=lU x.ins;have h1:=lU x.outs;omega
theorem REd.ex{x:Ed}(h:REd w v0 v1 x)(he:Ex w w'):REd w' v0 v1 x:=by obtain⟨h0,h1⟩:=h;exact⟨h0.ex he,h1.ex he⟩
def OEd(w:World)(lo hi:Nat)(v0 v1:Value)(x:Ed):Prop:=∃(a0 b0 a1 b1:Nat),OI w a0 b0 v0 x.ins/\OI w a1 b1 v1 x.outs/\lo<=a0/\b0<=hi/\lo<=a1/\b1<=hi/\(b0<=a1∨b1<=a0)
theorem OEd.rd{x:Ed}(h:OEd w lo hi v0 v1 x):REd w v0 v1 x:=by obtain⟨a0,b0,a1,b1,m0,m1,c0,c1,c2,c3,c4⟩:=h;exact⟨m0.rd,m1.rd⟩
theorem OEd.keep{x:Ed}(h:OEd w a b v0 v1 x)(hk:∀k,a<=k->k<b->k<w.heap.size->w'.heap[k]?=w.heap[k]?):OEd w' a b v0 v1 x:=by obtain⟨a0,b0,a1,b1,m0,m1,c0,c1,c2,c3,c4⟩:=h;exact⟨a0,b0,a1,b1,m0.keep (λk h1 h2=>hk k (by omega) (by omega)),m1.keep (λk h1 h2=>hk k (by omega) (by omega)),c0,c1,c2,c3,c4⟩
def edC(x:Ed)(v0 v1:Value):List Value:=[.int .i64 x.kd,.int .i64 x.vl,v0,v1]
def EE:EK Ed where
 k:=4
 R:=λw vs x=>∃v0 v1,vs=edC x v0 v1/\REd w v0 v1 x
 O:=λw a b vs x=>∃v0 v1,vs=edC x v0 v1/\OEd w a b v0 v1 x
 tot:=λx=>2+SK x
 KZ:=λk x=>⟨k,k+1,Vs (k+2) x.ins,Vs (k+2+ku x.ins) x.outs⟩
 mM:=λh=>by obtain⟨_,_,rfl,_⟩:=h;rfl
 ex:=λh he=>by obtain⟨v0,v1,e,h⟩:=h;exact⟨v0,v1,e,h.ex he⟩
 rd:=λh=>by obtain⟨v0,v1,e,h⟩:=h;exact⟨v0,v1,e,h.rd⟩
 keep:=λh hk=>by obtain⟨v0,v1,e,h⟩:=h;exact⟨v0,v1,e,h.keep hk⟩
 nn:=λx=>by have:=XH x;omega
 tmk:=λk x=>by simp[SK,ku,Vs,xH]
theorem bW.edge{xs:List Ed}(h:bW EE w A xs)(hj:j<xs.length):
 ∃g off x P pc Q qc,A=some ⟨g,off,none⟩/\xs[j]?=some x/\w.cell? ⟨g,off+j*4,none⟩=some (.int .i64 x.kd)/\w.cell? ⟨g,off+j*4+1,none⟩=some (.int .i64 x.vl)/\w.cell? ⟨g,off+j*4+2,none⟩=some (.slice P x.ins.length pc)/\w.cell? ⟨g,off+j*4+3,none⟩=some (.slice Q x.outs.length qc)/\Rd w P x.ins/\Rd w Q x.outs:=by
 obtain⟨g,off,vs,x,hA,hx,hc,v0,v1,rfl,⟨P,pc,rfl,hP⟩,⟨Q,qc,rfl,hQ⟩⟩:=h.at_ hj;exact⟨g,off,x,P,pc,Q,qc,hA,hx,hc 0 _ rfl,hc 1 _ rfl,hc 2 _ rfl,hc 3 _ rfl,hP,hQ⟩
structure Tm where
 ns:List Nd
def CP(w:World)(v0:Value)(x:Tm):Prop:=RN w v0 x.ns
def DK(x:Tm):Int:=P7 x.ns
theorem yj(x:Tm):0<=DK x:=by unfold DK;have h0:=SI x.ns;omega
theorem CP.ex{x:Tm}(h:CP w v0 x)(he:Ex w w'):CP w' v0 x:=RN.ex h he
theorem CP.tot{x:Tm}(h:CP w v0 x):DK x<=1125899906842624:=RN.tot h
theorem CP.form{x:Tm}(h:CP w v0 x):∃A0 n0 c0,v0=.slice A0 n0 c0:=by have h0:RN w v0 _:=h;obtain⟨A0,n0,c0,e0⟩:=h0.form;exact⟨A0,n0,c0,e0⟩
def OTm(w:World)(lo hi:Nat)(v0:Value)(x:Tm):Prop:=∃(a0 b0:Nat),ON w a0 b0 v0 x.ns/\lo<=a0/\b0<=hi
theorem OTm.rd{x:Tm}(h:OTm w lo hi v0 x):CP w v0 x:=by obtain⟨a0,b0,m0,c0,c1⟩:=h;exact m0.rd
theorem OTm.ex{x:Tm}(h:OTm w lo hi v0 x)(he:Ex w w'):OTm w' lo hi v0 x:=by obtain⟨a0,b0,m0,c0,c1⟩:=h;exact⟨a0,b0,m0.ex he,c0,c1⟩
theorem zH(x:Tm)(v0 u0:Value)(w:World)(h:CP w v0 x)(h':CP w u0 x):
 Calls prog 11 #[.agg #[v0],.agg #[u0]] w λe w'=>e=.returned (.bool true)/\Ex w w':=by
 obtain⟨x0⟩:=x;have h0:RN w v0 _:=h;have g0:RN w u0 _:=h';dsimp only at h0 g0⊢;obtain⟨x1,d1⟩:=VB.xn w 33 #[v0];have S1:=axj (show(w.alloc (.cells #[v0] 33)).heap.size=w.heap.size+1 by simp);go_enter Tryz.func11,Tryz.ntmps11
 go_wp2_with fail
 generalize w.alloc (.cells #[v0] 33)=W1 at*;obtain⟨y2,d2⟩:=VB.xn W1 33 #[u0];rw[S1.out]at d2;generalize W1.alloc (.cells #[u0] 33)=V0 at*;have xx:=x1.trans y2;have dA:=d1.ex y2;have dB:=d2;clear x1 d1 d2 y2 S1;refine(Wv x0 v0 u0 V0 (h0.ex xx) (g0.ex xx)).mono ?_;rintro e V1 ⟨rfl,z0⟩;replace dA:=dA.ex z0;replace dB:=dB.ex z0;replace xx:=xx.trans z0;go_wp2;go_ret;exact⟨rfl,xx⟩
end Go.Proofs.YthgiffhlfcmgaaaGreatDoor
