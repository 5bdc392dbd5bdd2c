/- Lemmas and walks on terms over rational functions: Linear algebra over a field, no program in .. -/
import Derived.Test.YtekcehkhdjoffaaGreatDoorQ01
import Derived.Deep.RegionHeld3
import Derived.Defers
import Derived.Recover
import Derived.Laws.Pointers
import Derived.Lib.SliceRun
import Derived.Deep.AppendLies
namespace Go.Proofs.YtekcehkhdjoffaaGreatDoor
open List(replicate)
open _root_.Go.Proofs.Tryz(prog)
set_option maxRecDepth 100000
set_option maxHeartbeats 8000000
set_option linter.all false
variable{p:Int}{D N f h xs zs:List Int}{P:List Nat}{z:List Value}{B H a a' b b' c e g hi i j k lo n r s:Nat}{S T:Nat->Prop}{A:Option Addr}{K:Type}{u v v0 v1:Value}{w w':World}
structure Ops (K:Type) where
 add:K->K->K
 mul:K->K->K
 neg:K->K
 inv:K->K
 z:K
 o:K
 jq:K->Bool
structure aL (K:Type) extends Ops K where
 add_comm:∀a b,add a b=add b a
 add_assoc:∀a b c,add (add a b) c=add a (add b c)
 bG:∀a,add z a=a
 neg_add:∀a,add (neg a) a=z
 mul_comm:∀a b,mul a b=mul b a
 mul_assoc:∀a b c,mul (mul a b) c=mul a (mul b c)
 bB:∀a,mul o a=a
 distrib:∀a b c,mul a (add b c)=add (mul a b) (mul a c)
 inv_mul:∀a,a≠z->mul (inv a) a=o
 MV:o≠z
 dZ:∀a,jq a=true↔a=z
theorem aL.d_(F:aL K)(a:K):F.add a F.z=a:=by rw[F.add_comm,F.bG]
theorem aL.add_neg(F:aL K)(a:K):F.add a (F.neg a)=F.z:=by rw[F.add_comm,F.neg_add]
theorem aL.cancel(F:aL K){a b c:K}(h:F.add a b=F.add a c):b=c:=by have:=congrArg (F.add (F.neg a)) h;rwa[<-F.add_assoc,<-F.add_assoc,F.neg_add,F.bG,F.bG]at this
theorem aL.bf(F:aL K)(a:K):F.mul a F.z=F.z:=by refine F.cancel (a:=F.mul a F.z) ?_;rw[<-F.distrib,F.bG,F.d_]
theorem aL.iF(F:aL K)(a:K):F.mul F.z a=F.z:=by rw[F.mul_comm,F.bf]
theorem aL.fO(F:aL K)(a:K):F.mul a F.o=a:=by rw[F.mul_comm,F.bB]
theorem aL.qU(F:aL K)(a b c:K):F.mul (F.add a b) c=F.add (F.mul a c) (F.mul b c):=by rw[F.mul_comm,F.distrib,F.mul_comm c,F.mul_comm c]
theorem aL.lY(F:aL K){a b:K}(h:F.add a b=F.z):a=F.neg b:=by refine F.cancel (a:=b) ?_;rw[F.add_comm b a,h,F.add_neg]
theorem aL.neg_mul(F:aL K)(a b:K):F.mul (F.neg a) b=F.neg (F.mul a b):=by refine F.lY ?_;rw[<-F.qU,F.neg_add,F.iF]
theorem aL.neg_neg(F:aL K)(a:K):F.neg (F.neg a)=a:=(F.lY (F.add_neg a)).symm
theorem aL.Dz(F:aL K){a:K}(h:a≠F.z):F.mul a (F.inv a)=F.o:=by rw[F.mul_comm,F.inv_mul a h]
theorem aL.Wj(F:aL K)(a b c d:K):F.add (F.add a b) (F.add c d)=F.add (F.add a c) (F.add b d):=by rw[F.add_assoc,F.add_assoc,<-F.add_assoc b,F.add_comm b c,F.add_assoc c]
def aL.va{K:Type}(F:aL K)(u v:Nat->K):Nat->K:=λj=>F.add (u j) (v j)
def aL.vs{K:Type}(F:aL K)(c:K)(v:Nat->K):Nat->K:=λj=>F.mul c (v j)
def aL.vz{K:Type}(F:aL K):Nat->K:=λ_=>F.z
theorem aL.sQ(F:aL K)(u v w:Nat->K):F.va (F.va u v) w=F.va u (F.va v w):=funext λ_=>F.add_assoc _ _ _
theorem aL.Uj(F:aL K)(u v:Nat->K):F.va u v=F.va v u:=funext λ_=>F.add_comm _ _
theorem aL.aal(F:aL K)(u:Nat->K):F.va u F.vz=u:=funext λ_=>F.d_ _
theorem aL.adR(F:aL K)(u:Nat->K):F.va F.vz u=u:=funext λ_=>F.bG _
theorem aL.Xv(F:aL K)(u:Nat->K):F.vs F.o u=u:=funext λ_=>F.bB _
theorem aL.adS(F:aL K)(c:K):F.vs c F.vz=F.vz:=funext λ_=>F.bf _
theorem aL.adT(F:aL K)(c:K)(u v:Nat->K):F.vs c (F.va u v)=F.va (F.vs c u) (F.vs c v):=funext λ_=>F.distrib _ _ _
theorem aL.OP(F:aL K)(c d:K)(u:Nat->K):F.vs c (F.vs d u)=F.vs (F.mul c d) u:=funext λ_=>(F.mul_assoc _ _ _).symm
def Sp{K:Type}(F:aL K)(R:List (Nat->K))(v:Nat->K):Prop:=∀S:(Nat->K)->Prop,S F.vz->(∀u,S u->∀r∈R,∀c,S (F.va u (F.vs c r)))->S v
theorem Sp.zero(F:aL K)(R:List (Nat->K)):Sp F R F.vz:=λ_ h _=>h
theorem Sp.step{F:aL K}{R:List (Nat->K)}{u:Nat->K}(h:Sp F R u){r:Nat->K}(hr:r∈R)(c:K):Sp F R (F.va u (F.vs c r)):=λS h0 h1=>h1 u (h S h0 h1) r hr c
theorem Sp.add{F:aL K}{R:List (Nat->K)}{u v:Nat->K}(h:Sp F R u)(k:Sp F R v):Sp F R (F.va u v):=
 k (λx=>Sp F R (F.va u x)) (by rw[F.aal];exact h) λx hx r hr c=>by rw[<-F.sQ];exact hx.step hr c
theorem Sp.smul{F:aL K}{R:List (Nat->K)}{u:Nat->K}(h:Sp F R u)(c:K):Sp F R (F.vs c u):=
 h (λx=>Sp F R (F.vs c x)) (by rw[F.adS];exact Sp.zero F R) λx hx r hr d=>by rw[F.adT,F.OP];exact hx.step hr _
theorem Sp.mem{F:aL K}{R:List (Nat->K)}{r:Nat->K}(h:r∈R):Sp F R r:=by have:=(Sp.zero F R).step h F.o;rwa[F.adR,F.Xv]at this
theorem Sp.mono{F:aL K}{R R':List (Nat->K)}(h:∀r∈R,Sp F R' r){v:Nat->K}(hv:Sp F R v):Sp F R' v:=
 hv (Sp F R') (Sp.zero F R') λ_ hu r hr c=>hu.add ((h r hr).smul c)
theorem Sp.sub{F:aL K}{R R':List (Nat->K)}(h:∀r∈R,r∈R'){v:Nat->K}(hv:Sp F R v):Sp F R' v:=hv.mono λr hr=>Sp.mem (h r hr)
theorem Sp.nil{F:aL K}{v:Nat->K}(h:Sp F [] v):v=F.vz:=h (λx=>x=F.vz) rfl λ_ _ r hr=>by simp at hr
def Bn{K:Type}(F:aL K)(l:List ((Nat->K)×Nat))(v:Nat->K):Nat->K:=λj=>l.foldr (λq s=>F.add (F.mul (v q.2) (q.1 j)) s) F.z
theorem kH(F:aL K)(q:(Nat->K)×Nat)(l:List ((Nat->K)×Nat))(v:Nat->K)(j:Nat):Bn F (q::l) v j=F.add (F.mul (v q.2) (q.1 j)) (Bn F l v j):=rfl
theorem jy{K:Type}(F:aL K)(j:Nat)(v:Nat->K):∀(l:List ((Nat->K)×Nat)),(∀q∈l,v q.2=F.z∨q.1 j=F.z)->Bn F l v j=F.z
 |[],_=>rfl
 |q::l,h=>by
  rw[kH,jy F j v l (λx hx=>h x (by simp[hx])),F.d_];rcases h q (by simp)with e|e
  .rw[e,F.iF]
  .rw[e,F.bf]
theorem uW{K:Type}(F:aL K)(u r:Nat->K)(c:K)(j:Nat):∀(l:List ((Nat->K)×Nat)),Bn F l (F.va u (F.vs c r)) j=F.add (Bn F l u j) (F.mul c (Bn F l r j))
 |[]=>by show F.z=F.add F.z (F.mul c F.z);rw[F.bf,F.bG]
 |q::l=>by rw[kH,kH,kH,uW F u r c j l];show F.add (F.mul (F.add (u q.2) (F.mul c (r q.2))) (q.1 j)) _=_;rw[F.qU,F.distrib,F.mul_assoc,F.Wj]
theorem EH{K:Type}(F:aL K)(v:Nat->K):∀(l:List ((Nat->K)×Nat)) (i:Nat) (p:Nat),l[i]?=some (v,p)->v p=F.o->(∀(i':Nat) (q:(Nat->K)×Nat),l[i']?=some q->i'≠i->v q.2=F.z)->∀j,Bn F l v j=v j
 |[],i,p,h,_,_,_=>by simp at h
 |q::l,0,p,h,h1,h0,j=>by
  obtain rfl:q=(v,p):=by simpa using h
  rw[kH,h1,F.bB,jy F j v l (λx hx=>?_),F.d_];obtain⟨i,hi⟩:=anc hx;exact .inl (h0 (i+1) x (by simpa using hi) (by omega))
 |q::l,i+1,p,h,h1,h0,j=>by rw[kH,h0 0 q rfl (by omega),F.iF,F.bG];exact EH F v l i p (by simpa using h) h1 (λi' x hx hne=>h0 (i'+1) x (by simpa using hx) (by omega)) j
def Ops.el{K:Type}(O:Ops K)(v:List K)(j:Nat):K:=v.getD j O.z
theorem Ops.YZ(O:Ops K){u v:List K}(hl:u.length=v.length)(h:∀j,O.el u j=O.el v j):u=v:=by
 refine aoB hl λj h1 h2=>?_
 have:=h j;rwa[Ops.el,Ops.el,am6,am6,am0 h1,am0 h2]at this
theorem Ops.eH(O:Ops K){v:List K}(h:v.length<=j):O.el v j=O.z:=by rw[Ops.el,am6,anz h];rfl
theorem Ops.bT(O:Ops K){v:List K}{x:K}(h:v[j]?=some x):O.el v j=x:=by rw[Ops.el,am6,h];rfl
def Ops.fn{K:Type}(O:Ops K)(v:List K):Nat->K:=λj=>O.el v j
def Ops.fns{K:Type}(O:Ops K)(rows:List (List K)):List (Nat->K):=rows.map O.fn
def Ops.less{K:Type}(O:Ops K)(v:List K)(k:K)(w:List K):List K:=List.zipWith (λx y=>O.add x (O.mul (O.neg k) y)) v w
def Ops.oJ{K:Type}(O:Ops K)(v:List K)(c:Nat):List K:=v.map λx=>O.mul (O.inv (O.el v c)) x
def jw{K:Type}(rows:List (List K))(i k:Nat):List (List K):=(rows.set i (rows.getD k [])).set k (rows.getD i [])
def Ops.qg{K:Type}(O:Ops K)(rows:List (List K))(r c:Nat):Nat:=r+(rows.drop r).findIdx λrow=> !O.jq (O.el row c)
def Ops.Bd{K:Type}(O:Ops K)(r c:Nat)(lead:List K)(i:Nat)(v:List K):List K:=if i=r then lead else if O.jq (O.el v c)then v else O.less v (O.el v c) lead
def Ops.piv{K:Type}(O:Ops K)(rows:List (List K))(r c k:Nat):List (List K):=(jw rows r k).mapIdx (O.Bd r c (O.oJ (rows.getD k []) c))
def Ops.red{K:Type}(O:Ops K):Nat->Nat->Nat->List (List K)->List (List K)×Nat
 |0,_,r,rows=>(rows,r)
 |m+1,c,r,rows=>if O.qg rows r c<rows.length then Ops.red O m (c+1) (r+1) (O.piv rows r c (O.qg rows r c))else Ops.red O m (c+1) r rows
def Ops.aB{K:Type}(O:Ops K)(n:Nat)(rows:List (List K)):List (List K):=(O.red n 0 0 rows).1.take (O.red n 0 0 rows).2
theorem sS(rows:List (List K))(i k:Nat):(jw rows i k).length=rows.length:=by simp[jw]
theorem dU(O:Ops K)(rows:List (List K))(r c k:Nat):(O.piv rows r c k).length=rows.length:=by simp[Ops.piv,sS]
theorem nO{K:Type}(O:Ops K):∀(m c r:Nat) (rows:List (List K)),(O.red m c r rows).1.length=rows.length
 |0,_,_,_=>rfl
 |m+1,c,r,rows=>by
  rw[Ops.red];split
  .rw[nO,dU]
  .rw[nO]
theorem Gw(O:Ops K){rows:List (List K)}(h:¬O.qg rows r c<rows.length):∀(i:Nat) (v:List K),r<=i->rows[i]?=some v->O.jq (O.el v c)=true:=λi v hr hi=>by
 have hl:=(am2.1 hi).1;unfold Ops.qg at h;have h2:¬(rows.drop r).findIdx (λrow=> !O.jq (O.el row c))<(rows.drop r).length:=by rw[anp];omega
 rw[List.findIdx_lt_length]at h2;have hv:v∈rows.drop r:=ao5.2 ⟨i-r,by rw[anB];rw[show r+(i-r)=i by omega];exact hi⟩;cases hb:O.jq (O.el v c)with
 |true=>rfl
 |false=>exact absurd ⟨v,hv,by rw[hb];rfl⟩ h2
theorem jm(O:Ops K){rows:List (List K)}(h:O.qg rows r c<rows.length):r<=O.qg rows r c/\O.jq (O.el (rows.getD (O.qg rows r c) []) c)=false:=by
 refine⟨Nat.le_add_right _ _,?_⟩;have h2:(rows.drop r).findIdx (λrow=> !O.jq (O.el row c))<(rows.drop r).length:=by rw[anp];unfold Ops.qg at h;omega
 have h3:=List.findIdx_getElem (w:=h2);rw[aoS]at h3;rw[am6,am0 h,Option.getD_some];rw[Bool.not_eq_true']at h3;exact h3
theorem lD{rows:List (List K)}(hr:r<rows.length)(hk:k<rows.length)(i:Nat)(hi:i<rows.length):(jw rows r k)[i]?=some (rows.getD (if i=k then r else if i=r then k else i) []):=by
 unfold jw;rw[ang];by_cases e:k=i
 .subst e;rw[amY rfl,amY rfl,amY (by simpa using hk)]
 .rw[amZ e,amZ (λh=>e h.symm),ang];by_cases e2:r=i
  .subst e2;rw[amY rfl,amY rfl,amY hr]
  .rw[amZ e2,amZ (λh=>e2 h.symm),am0 hi,am6,am0 hi];rfl
theorem lT(O:Ops K){rows:List (List K)}(hr:r<rows.length)(hk:k<rows.length)(c i:Nat)(hi:i<rows.length):
 (O.piv rows r c k)[i]?=some (O.Bd r c (O.oJ (rows.getD k []) c) i (rows.getD (if i=k then r else if i=r then k else i) [])):=by
 unfold Ops.piv;rw[aoK,lD hr hk i hi];rfl
def aZ{K:Type}(n:Nat)(rows:List (List K)):Prop:=∀v∈rows,v.length=n
theorem aZ.at_{rows:List (List K)}(h:aZ n rows)(hi:i<rows.length):(rows.getD i []).length=n:=by rw[am6,am0 hi,Option.getD_some];exact h _ (anO _)
theorem nW(O:Ops K)(v:List K)(c:Nat):(O.oJ v c).length=v.length:=by simp[Ops.oJ]
theorem uf(O:Ops K){v w:List K}(hv:v.length=n)(hw:w.length=n)(k:K):(O.less v k w).length=n:=by simp[Ops.less,hv,hw]
theorem VJ(O:Ops K){v w:List K}(hv:v.length=n)(hw:w.length=n):(O.Bd r c w i v).length=n:=by
 unfold Ops.Bd;split
 .exact hw
 .split
  .exact hv
  .exact uf O hv hw _
theorem uV(hi:i<n)(hr:r<n)(hk:k<n):(if i=k then r else if i=r then k else i)<n:=by
 split
 .exact hr
 .split<;>assumption
theorem aZ.piv{O:Ops K}{rows:List (List K)}(h:aZ n rows)(hr:r<rows.length)(hk:k<rows.length):aZ n (O.piv rows r c k):=λv hv=>by
 obtain⟨i,hi⟩:=anc hv;have hil:i<rows.length:=by have:=(am2.1 hi).1;rwa[dU]at this
 rw[lT O hr hk c i hil]at hi;injection hi with hi;rw[<-hi];exact VJ O (h.at_ (uV hil hr hk)) (by rw[nW];exact h.at_ hk)
theorem Ec(F:aL K){v w:List K}(hl:v.length=w.length)(k:K)(j:Nat):F.el (F.less v k w) j=F.add (F.el v j) (F.mul (F.neg k) (F.el w j)):=by
 by_cases h:j<v.length
 .rw[Ops.bT F.toOps (x:=F.add v[j] (F.mul (F.neg k) (w[j]'(by omega)))),Ops.bT F.toOps (am0 h),Ops.bT F.toOps (am0 (show j<w.length by omega))];unfold Ops.less;rw[apn,am0 h,am0 (show j<w.length by omega)]
 .rw[Ops.eH _ (by rw[uf F.toOps rfl hl.symm];omega),Ops.eH _ (by omega),Ops.eH _ (by omega),F.bf,F.bG]
theorem JC(F:aL K)(v:List K)(c j:Nat):F.el (F.oJ v c) j=F.mul (F.inv (F.el v c)) (F.el v j):=by
 by_cases h:j<v.length
 .rw[Ops.bT F.toOps (x:=F.mul (F.inv (F.el v c)) v[j]),Ops.bT F.toOps (am0 h)];unfold Ops.oJ;rw[am7,am0 h];rfl
 .rw[Ops.eH _ (by rw[nW];omega),Ops.eH F.toOps (j:=j) (by omega),F.bf]
theorem DY(F:aL K){v w:List K}(hl:v.length=w.length)(k:K):F.fn (F.less v k w)=F.va (F.fn v) (F.vs (F.neg k) (F.fn w)):=funext λj=>Ec F hl k j
theorem DW(F:aL K)(v:List K)(c:Nat):F.fn (F.oJ v c)=F.vs (F.inv (F.el v c)) (F.fn v):=funext λj=>JC F v c j
structure jI {K:Type} (F:aL K) (rows:List (List K)) (r c:Nat) (P:List Nat):Prop where
 pl:P.length=r
 hr:r<=rows.length
 Et:P.Pairwise (·<·)
 lt:∀p∈P,p<c
 one:∀(i p:Nat) (v:List K),P[i]?=some p->rows[i]?=some v->F.el v p=F.o
 Bh:∀(i i' p:Nat) (v:List K),P[i]?=some p->rows[i']?=some v->i'≠i->F.el v p=F.z
 led:∀(i p:Nat) (v:List K),P[i]?=some p->rows[i]?=some v->∀j,j<p->F.el v j=F.z
 low:∀(i:Nat) (v:List K),r<=i->rows[i]?=some v->∀j,j<c->F.el v j=F.z
theorem jI.start(F:aL K)(rows:List (List K)):jI F rows 0 0 []:=
 ⟨rfl,am4 _,List.Pairwise.nil,by simp,by simp,by simp,by simp,λ_ _ _ _ j hj=>absurd hj (aoT j)⟩
theorem jI.skip{F:aL K}{rows:List (List K)}(h:jI F rows r c P)(hn:∀(i:Nat) (v:List K),r<=i->rows[i]?=some v->F.el v c=F.z):jI F rows r (c+1) P:=
 ⟨h.pl,h.hr,h.Et,λp hp=>Nat.lt_succ_of_lt (h.lt p hp),h.one,h.Bh,h.led,λi v hi hv j hj=>by
  by_cases e:j=c
  .subst e;exact hn i v hi hv
  .exact h.low i v hi hv j (by omega)⟩
theorem jI.piv{F:aL K}{rows:List (List K)}(h:jI F rows r c P)(hw:aZ n rows)(hrk:r<=k)(hk:k<rows.length)(hx:F.el (rows.getD k []) c≠F.z):jI F (F.piv rows r c k) (r+1) (c+1) (P++[c]):=by
 have hr:r<rows.length:=by omega
 obtain⟨vk,hvk⟩:=xq (rows.getD k []);have hkv:rows[k]?=some vk:=by rw[<-hvk,am6,am0 hk];rfl
 rw[hvk]at hx;obtain⟨L,hL⟩:=xq (F.oJ vk c);have hLc:F.el L c=F.o:=by rw[<-hL,JC,F.inv_mul _ hx]
 have RP:∀j,j<c->F.el L j=F.z:=λj hj=>by rw[<-hL,JC,h.low k vk hrk hkv j hj,F.bf]
 have hLn:L.length=n:=by rw[<-hL,nW];exact hw vk (am1 hkv)
 have key:∀(i:Nat) (v:List K),(F.piv rows r c k)[i]?=some v->i<rows.length/\(i=r->v=L)/\(i≠r->F.el v c=F.z/\∃u,rows[if i=k then r else i]?=some u/\∀j,j<c->F.el v j=F.el u j):=by
  intro i v hv;have hi:i<rows.length:=by have:=(am2.1 hv).1;rwa[dU]at this
  rw[lT F.toOps hr hk c i hi,hvk,hL]at hv;injection hv with hv;refine⟨hi,λe=>?_,λe=>?_⟩
  .rw[<-hv];unfold Ops.Bd;rw[amY e]
  .have hlt:(if i=k then r else i)<rows.length:=by split<;>assumption
   have hs:(if i=k then r else if i=r then k else i)=(if i=k then r else i):=by rw[amZ e]
   rw[hs]at hv;obtain⟨u,hu⟩:∃u,rows[if i=k then r else i]?=some u:=⟨_,am0 hlt⟩;have zT:u.length=n:=hw u (am1 hu);rw[am6,hu,Option.getD_some]at hv;unfold Ops.Bd at hv;rw[amZ e]at hv;split at hv
   .rename_i hz;subst hv;exact⟨(F.dZ _).1 hz,u,hu,λ_ _=>rfl⟩
   .subst hv;refine⟨?_,u,hu,λj hj=>?_⟩
    .rw[Ec F (by rw[zT,hLn]),hLc,F.fO,F.add_neg]
    .rw[Ec F (by rw[zT,hLn]),RP j hj,F.bf,F.d_]
 have hpl:=h.pl;have YM:∀(i p:Nat),(P++[c])[i]?=some p->(i<r/\P[i]?=some p)∨(i=r/\p=c):=λi p hp=>by
  by_cases e:i<r
  .rw[anN (by omega)]at hp;exact .inl ⟨e,hp⟩
  .have:=(am2.1 hp).1;rw[am9,aop]at this;obtain rfl:i=r:=by omega
   rw[anw (by omega),hpl,an4]at hp;exact .inr ⟨rfl,by simpa using hp.symm⟩
 refine⟨by rw[am9,aop,hpl],by rw[dU];omega,?_,?_,?_,?_,?_,?_⟩
 .rw[List.pairwise_append];exact⟨h.Et,by simp,λa ha b hb=>by simp at hb;subst hb;exact h.lt a ha⟩
 .intro p hp;rcases anu.1 hp with hp|hp
  .exact Nat.lt_succ_of_lt (h.lt p hp)
  .simp at hp;omega
 .intro i p v hp hv;obtain⟨hi,h1,h2⟩:=key i v hv;rcases YM i p hp with⟨hir,hp⟩|⟨e,e2⟩
  .obtain⟨_,u,hu,hj⟩:=h2 (by omega);rw[amZ (by omega)]at hu;rw[hj p (h.lt p (am1 hp))];exact h.one i p u hp hu
  .subst e2;rw[h1 e];exact hLc
 .intro i i' p v hp hv hne;obtain⟨hi,h1,h2⟩:=key i' v hv;rcases YM i p hp with⟨hir,hp⟩|⟨e,e2⟩
  .have hpc:=h.lt p (am1 hp);by_cases e:i'=r
   .rw[h1 e];exact RP p hpc
   .obtain⟨_,u,hu,hj⟩:=h2 e;rw[hj p hpc];refine h.Bh i _ p u hp hu ?_;split<;>omega
  .subst e2;exact(h2 (by omega)).1
 .intro i p v hp hv j hj;obtain⟨hi,h1,h2⟩:=key i v hv;rcases YM i p hp with⟨hir,hp⟩|⟨e,e2⟩
  .have hpc:=h.lt p (am1 hp);obtain⟨_,u,hu,hj'⟩:=h2 (by omega);rw[amZ (by omega)]at hu;rw[hj' j (by omega)];exact h.led i p u hp hu j hj
  .subst e2;rw[h1 e];exact RP j hj
 .intro i v hi hv j hj;obtain⟨_,_,h2⟩:=key i v hv;obtain⟨h0,u,hu,hj'⟩:=h2 (by omega);by_cases e:j=c
  .subst e;exact h0
  .rw[hj' j (by omega)];exact h.low _ u (by split<;>omega) hu j (by omega)
theorem jI.red{K:Type}{F:aL K}{n:Nat}:∀(m c r:Nat) (rows:List (List K)) (P:List Nat),aZ n rows->jI F rows r c P->∃P',jI F (F.red m c r rows).1 (F.red m c r rows).2 (c+m) P'/\aZ n (F.red m c r rows).1
 |0,c,r,rows,P,hw,h=>⟨P,h,hw⟩
 |m+1,c,r,rows,P,hw,h=>by
  rw[Ops.red];split
  .rename_i hf;obtain⟨hrk,hx⟩:=jm F.toOps hf;have hx':F.el (rows.getD (F.qg rows r c) []) c≠F.z:=λe=>by rw[(F.dZ _).2 e]at hx;cases hx
   have:=jI.red m (c+1) (r+1) _ _ (hw.piv (O:=F.toOps) (c:=c) (Nat.lt_of_le_of_lt hrk hf) hf) (h.piv hw hrk hf hx');rw[show c+(m+1)=c+1+m by omega];exact this
  .rename_i hf;have:=jI.red m (c+1) r rows P hw (h.skip λi v hi hv=>(F.dZ _).1 (Gw F.toOps hf i v hi hv));rw[show c+(m+1)=c+1+m by omega];exact this
theorem Qf{F:aL K}{rows:List (List K)}(hw:aZ n rows)(hr:r<rows.length)(hk:k<rows.length)(hx:F.el (rows.getD k []) c≠F.z)(v:Nat->K):Sp F (F.fns (F.piv rows r c k)) v↔Sp F (F.fns rows) v:=by
 have hmem:∀{R:List (List K)} {i:Nat} {u:List K},R[i]?=some u->F.fn u∈F.fns R:=λh=>am3.2 ⟨_,am1 h,rfl⟩
 have hrow:∀i,i<rows.length->rows[i]?=some (rows.getD i []):=λi hi=>by rw[am6,am0 hi];rfl
 have hlen:∀i,i<rows.length->(rows.getD i []).length=(F.oJ (rows.getD k []) c).length:=λi hi=>by rw[hw.at_ hi,nW,hw.at_ hk]
 constructor
 .refine Sp.mono λq hq=>?_
  obtain⟨u,hu,rfl⟩:=am3.1 hq;obtain⟨i,hi⟩:=anc hu;have hil:i<rows.length:=by have:=(am2.1 hi).1;rwa[dU]at this
  rw[lT F.toOps hr hk c i hil]at hi;injection hi with hi;have hL:Sp F (F.fns rows) (F.fn (F.oJ (rows.getD k []) c)):=by rw[DW];exact(Sp.mem (hmem (hrow k hk))).smul _
  have hsl:=uV hil hr hk;rw[<-hi];generalize(if i=k then r else if i=r then k else i)=s at hsl;unfold Ops.Bd;split
  .exact hL
  .split
   .exact Sp.mem (hmem (hrow _ hsl))
   .rw[DY F (hlen _ hsl)];exact(Sp.mem (hmem (hrow _ hsl))).add (hL.smul _)
 .refine Sp.mono λq hq=>?_
  obtain⟨u,hu,rfl⟩:=am3.1 hq;obtain⟨i,hi⟩:=anc hu;have hil:=(am2.1 hi).1;have hL:Sp F (F.fns (F.piv rows r c k)) (F.fn (F.oJ (rows.getD k []) c)):=by refine Sp.mem (hmem (i:=r) ?_);rw[lT F.toOps hr hk c r hr];unfold Ops.Bd;rw[amY rfl]
  have hkk:Sp F (F.fns (F.piv rows r c k)) (F.fn (rows.getD k [])):=by have:=hL.smul (F.el (rows.getD k []) c);rw[DW,F.OP,F.Dz hx,F.Xv]at this;exact this
  have hui:u=rows.getD i []:=by rw[am6,hi];rfl
  by_cases e:i=k
  .rw[hui,e];exact hkk
  obtain⟨i',aeN,aeM,hs⟩:∃i',i'<rows.length/\i'≠r/\(if i'=k then r else if i'=r then k else i')=i:=by
   by_cases e2:i=r
   .exact⟨k,hk,λe3=>e (e2.trans e3.symm),by rw[amY rfl];exact e2.symm⟩
   .exact⟨i,hil,e2,by rw[amZ e,amZ e2]⟩
  have hp:=lT F.toOps hr hk c i' aeN;rw[hs]at hp;unfold Ops.Bd at hp;rw[amZ aeM]at hp;rw[hui];split at hp
  .exact Sp.mem (hmem hp)
  .have h1:=Sp.mem (F:=F) (hmem hp);rw[DY F (hlen i hil)]at h1;have h2:=h1.add (hL.smul (F.el (rows.getD i []) c));rw[F.sQ]at h2;have h3:F.va (F.vs (F.neg (F.el (rows.getD i []) c)) (F.fn (F.oJ (rows.getD k []) c))) (F.vs (F.el (rows.getD i []) c) (F.fn (F.oJ (rows.getD k []) c)))=F.vz:=funext λj=>by
    show F.add (F.mul (F.neg _) _) (F.mul _ _)=F.z;rw[F.neg_mul,F.neg_add]
   rw[h3,F.aal]at h2;exact h2
theorem tF{K:Type}{F:aL K}{n:Nat}:∀(m c r:Nat) (rows:List (List K)),aZ n rows->∀v,Sp F (F.fns (F.red m c r rows).1) v↔Sp F (F.fns rows) v
 |0,_,_,_,_,_=>Iff.rfl
 |m+1,c,r,rows,hw,v=>by
  rw[Ops.red];split
  .rename_i hf;obtain⟨hrk,hx⟩:=jm F.toOps hf;have hx':F.el (rows.getD (F.qg rows r c) []) c≠F.z:=λe=>by rw[(F.dZ _).2 e]at hx;cases hx
   have hr:=Nat.lt_of_le_of_lt hrk hf;rw[tF m (c+1) (r+1) _ (hw.piv (O:=F.toOps) (c:=c) hr hf) v];exact Qf hw hr hf hx' v
  .exact tF m (c+1) r rows hw v
theorem jI.rep{F:aL K}{rows:List (List K)}(h:jI F rows r c P){v:Nat->K}(hv:Sp F (F.fns rows) v):∃u,Sp F (F.fns (rows.drop r)) u/\∀j,v j=F.add (Bn F ((F.fns (rows.take r)).zip P) v j) (u j):=by
 have hpl:=h.pl;have hr:=h.hr;have aaP:∀(i:Nat) (q:(Nat->K)×Nat),((F.fns (rows.take r)).zip P)[i]?=some q->P[i]?=some q.2/\∃u,rows[i]?=some u/\i<r/\q.1=F.fn u:=λi q hq=>by
  rw[aoU]at hq;obtain⟨h1,h2⟩:=hq;unfold Ops.fns at h1;rw[am7,anh]at h1;split at h1
  .rename_i hi;cases hu:rows[i]? with
   |none=>rw[hu]at h1;cases h1
   |some u=>rw[hu]at h1;injection h1 with h1;exact⟨h2,u,rfl,hi,h1.symm⟩
  .cases h1
 refine hv (λv=>∃u,Sp F (F.fns (rows.drop r)) u/\∀j,v j=F.add (Bn F ((F.fns (rows.take r)).zip P) v j) (u j)) ?_ ?_
 .exact⟨F.vz,Sp.zero F _,λj=>by rw[jy F j F.vz _ (λq _=> .inl rfl)];show F.z=F.add F.z F.z;rw[F.bG]⟩
 .rintro x ⟨u,hu,hx⟩ q hq d;obtain⟨y,hy,rfl⟩:=am3.1 hq;obtain⟨i,hi⟩:=anc hy;by_cases hir:i<r
  .refine⟨u,hu,λj=>?_⟩;rw[uW];obtain⟨p,hp⟩:∃p,P[i]?=some p:=⟨_,am0 (by omega)⟩;have hz:((F.fns (rows.take r)).zip P)[i]?=some (F.fn y,p):=by
    rw[aoU];refine⟨?_,hp⟩;unfold Ops.fns;rw[am7,anh,amY hir,hi];rfl
   rw[EH F (F.fn y) _ i p hz (h.one i p y hp hi) (λi' q' hq' hne=>(by
    obtain⟨h1,_⟩:=aaP i' q' hq';exact h.Bh i' i q'.2 y h1 hi (λe=>hne e.symm))) j]
   show F.add (x j) (F.mul d (F.fn y j))=_;rw[F.add_assoc,F.add_comm (F.mul d _) (u j),<-F.add_assoc,<-hx j]
  .refine⟨F.va u (F.vs d (F.fn y)),hu.step (am3.2 ⟨y,ao5.2 ⟨i-r,by rw[anB,show r+(i-r)=i by omega];exact hi⟩,rfl⟩) d,λj=>?_⟩;rw[uW,jy F j (F.fn y) _ (λq' hq'=>?_),F.bf,F.d_]
   .show F.add (x j) (F.mul d (F.fn y j))=F.add _ (F.add (u j) (F.mul d (F.fn y j)));rw[<-F.add_assoc,<-hx j]
   .obtain⟨i',hi'⟩:=anc hq';obtain⟨h1,_,_,hlt,_⟩:=aaP i' q' hi';exact .inl (h.Bh i' i q'.2 y h1 hi (by omega))
def jZ{K:Type}(F:aL K)(n:Nat)(R:List (List K)):Prop:=aZ n R/\∃P,jI F R R.length n P
theorem jI.take{F:aL K}{rows:List (List K)}(h:jI F rows r c P):jI F (rows.take r) (rows.take r).length c P:=by
 have hr:=h.hr;have hl:(rows.take r).length=r:=by rw[am8];omega
 have at_:∀(i:Nat) (v:List K),(rows.take r)[i]?=some v->rows[i]?=some v:=λi v hv=>by
  rw[anh]at hv;split at hv
  .exact hv
  .cases hv
 exact⟨by rw[hl];exact h.pl,amX _,h.Et,h.lt,λi p v hp hv=>h.one i p v hp (at_ i v hv),λi i' p v hp hv hne=>h.Bh i i' p v hp (at_ i' v hv) hne,λi p v hp hv=>h.led i p v hp (at_ i v hv),λi v hi hv=>by
  have:=(am2.1 hv).1;omega⟩
theorem aZ.take{rows:List (List K)}(h:aZ n rows)(r:Nat):aZ n (rows.take r):=λv hv=>h v (an5 hv)
theorem iL(F:aL K){rows:List (List K)}(hw:aZ n rows):jZ F n (F.aB n rows):=by obtain⟨P,h,hw'⟩:=jI.red (F:=F) n 0 0 rows [] hw (jI.start F rows);rw[anE]at h;exact⟨hw'.take _,P,h.take⟩
theorem LJ{F:aL K}{rows:List (List K)}(h:jI F rows r n P)(hw:aZ n rows)(v:Nat->K):Sp F (F.fns (rows.take r)) v↔Sp F (F.fns rows) v:=by
 constructor
 .refine Sp.sub λq hq=>?_
  obtain⟨u,hu,rfl⟩:=am3.1 hq;exact am3.2 ⟨u,an5 hu,rfl⟩
 .refine Sp.mono λq hq=>?_
  obtain⟨u,hu,rfl⟩:=am3.1 hq;obtain⟨i,hi⟩:=anc hu;by_cases hir:i<r
  .exact Sp.mem (am3.2 ⟨u,ao5.2 ⟨i,by rw[anh,amY hir];exact hi⟩,rfl⟩)
  .have:F.fn u=F.vz:=funext λj=>by
    by_cases hj:j<n
    .exact h.low i u (by omega) hi j hj
    .exact Ops.eH _ (by rw[hw u hu];omega)
   rw[this];exact Sp.zero F _
theorem iT(F:aL K){rows:List (List K)}(hw:aZ n rows)(v:Nat->K):Sp F (F.fns (F.aB n rows)) v↔Sp F (F.fns rows) v:=by obtain⟨P,h,hw'⟩:=jI.red (F:=F) n 0 0 rows [] hw (jI.start F rows);rw[anE]at h;exact(LJ h hw' v).trans (tF n 0 0 rows hw v)
theorem jI.aaw{F:aL K}{R:List (List K)}(h:jI F R R.length n P){v:Nat->K}(hv:Sp F (F.fns R) v)(j:Nat):v j=Bn F ((F.fns R).zip P) v j:=by obtain⟨u,hu,hj⟩:=h.rep hv;rw[ao6]at hu;have hu0:=Sp.nil hu;have:=hj j;rw[hu0,anf]at this;rw[this];exact F.d_ _
theorem jI.OJ{F:aL K}{R:List (List K)}(_:jI F R R.length n P){q:(Nat->K)×Nat}(hq:((F.fns R).zip P)[i]?=some q):P[i]?=some q.2/\∃u,R[i]?=some u/\q.1=F.fn u:=by
 rw[aoU]at hq;obtain⟨h1,h2⟩:=hq;unfold Ops.fns at h1;rw[am7]at h1;cases hu:R[i]? with
 |none=>rw[hu]at h1;cases h1
 |some u=>rw[hu]at h1;injection h1 with h1;exact⟨h2,u,rfl,h1.symm⟩
theorem jI.sO{F:aL K}{R:List (List K)}(h:jI F R R.length n P){v:Nat->K}(hv:Sp F (F.fns R) v)(h0:∀p∈P,v p=F.z):v=F.vz:=funext λj=>by
 rw[h.aaw hv j];refine jy F j v _ λq hq=>?_
 obtain⟨i,hi⟩:=anc hq;exact .inl (h0 _ (am1 (h.OJ hi).1))
theorem Cc{F:aL K}{R S:List (List K)}{m:Nat}{Q:List Nat}(h:jI F R R.length n P)(k:jI F S S.length m Q)(hs:∀v,Sp F (F.fns R) v->Sp F (F.fns S) v):∀p∈P,p∈Q:=λp hp=>by
 apply aov;intro hn;obtain⟨i,hi⟩:=anc hp;have hil:i<R.length:=by have:=(am2.1 hi).1;have:=h.pl;omega
 obtain⟨u,hu⟩:∃u,R[i]?=some u:=⟨_,am0 hil⟩;have hsp:=hs _ (Sp.mem (F:=F) (am3.2 ⟨u,am1 hu,rfl⟩));have h1:F.fn u p=F.o:=h.one i p u hi hu;refine F.MV ?_;rw[<-h1,k.aaw hsp p];refine jy F p _ _ λq hq=>?_
 obtain⟨i',hi'⟩:=anc hq;obtain⟨hq2,w,hw,hq1⟩:=k.OJ hi';have hne:q.2≠p:=λe=>hn (by rw[<-e];exact am1 hq2)
 by_cases hlt:q.2<p
 .exact .inl (h.led i p u hi hu _ hlt)
 .refine .inr ?_;rw[hq1];exact k.led i' q.2 w hq2 hw p (by omega)
theorem G6:∀{a b:List Nat},a.Pairwise (·<·)->b.Pairwise (·<·)->(∀k,k∈a->k∈b)->(∀k,k∈b->k∈a)->a=b
 |[],[],_,_,_,_=>rfl
 |[],y::b,_,_,_,h=>by have:=h y (by simp);simp at this
 |x::a,[],_,_,h,_=>by have:=h x (by simp);simp at this
 |x::a,y::b,ha,hb,h,h'=>by
  rw[List.pairwise_cons]at ha hb;have hxy:x=y:=by
   rcases ani.1 (h x (by simp))with e|hx
   .exact e
   .rcases ani.1 (h' y (by simp))with e|hy
    .exact e.symm
    .have h1:=ha.1 y hy;have h2:=hb.1 x hx;omega
  subst hxy;congr 1;refine G6 ha.2 hb.2 (λk hk=>?_) (λk hk=>?_)
  .rcases ani.1 (h k (by simp[hk]))with e|hk'
   .have:=ha.1 k hk;omega
   .exact hk'
  .rcases ani.1 (h' k (by simp[hk]))with e|hk'
   .have:=hb.1 k hk;omega
   .exact hk'
theorem Sp.dif{F:aL K}{R:List (Nat->K)}{u v:Nat->K}(hu:Sp F R u)(hv:Sp F R v):Sp F R (F.va u (F.vs (F.neg F.o) v)):=hu.add (hv.smul _)
theorem lF{F:aL K}{R S:List (List K)}(h:jZ F n R)(k:jZ F n S)(hs:∀v,Sp F (F.fns R) v↔Sp F (F.fns S) v):R=S:=by
 obtain⟨hw,P,h⟩:=h;obtain⟨kw,Q,k⟩:=k;obtain rfl:P=Q:=G6 h.Et k.Et (Cc h k λv=>(hs v).1) (Cc k h λv=>(hs v).2);have hl:R.length=S.length:=by rw[<-h.pl,<-k.pl]
 refine anG λi=>?_
 by_cases hi:i<R.length
 .have hi':i<S.length:=by omega
  obtain⟨u,hu⟩:∃u,R[i]?=some u:=⟨_,am0 hi⟩;obtain⟨v,hv⟩:∃v,S[i]?=some v:=⟨_,am0 hi'⟩;rw[hu,hv];congr 1;have hum:=am1 hu;have hvm:=am1 hv;have s1:Sp F (F.fns R) (F.fn u):=Sp.mem (am3.2 ⟨u,hum,rfl⟩);have s2:Sp F (F.fns R) (F.fn v):=(hs _).2 (Sp.mem (am3.2 ⟨v,hvm,rfl⟩));have h0:=h.sO (s1.dif s2) λp hp=>by
   obtain⟨i',hi2⟩:=anc hp;show F.add (F.el u p) (F.mul (F.neg F.o) (F.el v p))=F.z;by_cases e:i=i'
   .subst e;rw[h.one i p u hi2 hu,k.one i p v hi2 hv,F.fO,F.add_neg]
   .rw[h.Bh i' i p u hi2 hu e,k.Bh i' i p v hi2 hv e,F.bf,F.bG]
  refine Ops.YZ F.toOps (by rw[hw u hum,kw v hvm]) λj=>?_
  have:=congrFun h0 j;have e:F.add (F.el u j) (F.mul (F.neg F.o) (F.el v j))=F.z:=this;rw[F.neg_mul,F.bB]at e;rw[F.lY e,F.neg_neg]
 .rw[anz (by omega),anz (by omega)]
theorem u_{F:aL K}{R:List (List K)}(h:jZ F n R):F.aB n R=R:=lF (iL F h.1) h λv=>iT F h.1 v
theorem yT(F:aL K){R:List (List K)}(h:jZ F n R):R.length<=n:=by
 obtain⟨_,P,h⟩:=h;have h1:∀(k:Nat) (l:List Nat),l.Pairwise (·<·)->(∀p∈l,k<=p/\p<n)->l.length<=n-k:=by
  intro k l
  induction l generalizing k with
  |nil=>intro _ _;simp
  |cons x l ih=>
   intro ha hb;rw[List.pairwise_cons]at ha;have:=ih (x+1) ha.2 λp hp=>⟨ha.1 p hp,(hb p (by simp[hp])).2⟩
   have:=hb x (by simp);rw[anJ];omega
 have:=h1 0 P h.Et λp hp=>⟨am4 _,h.lt p hp⟩
 rw[h.pl]at this;omega
theorem jI.QL{F:aL K}{rows:List (List K)}(h:jI F rows r c P){v:Nat->K}(hv:Sp F (F.fns rows) v)(h0:∀j,j<c->v j=F.z):Sp F (F.fns (rows.drop r)) v:=by
 obtain⟨u,hu,hj⟩:=h.rep hv;have:v=u:=funext λj=>by rw[hj j,jy F j v _ λq hq=>?_,F.bG];obtain⟨i,hi⟩:=anc hq;rw[aoU]at hi;exact .inl (h0 _ (h.lt _ (am1 hi.2)))
 rw[this];exact hu
structure iN {K A:Type} (O:Ops K) (O':Ops A) (f:K->A):Prop where
 add:∀a b,O'.add (f a) (f b)=f (O.add a b)
 mul:∀a b,O'.mul (f a) (f b)=f (O.mul a b)
 neg:∀a,O'.neg (f a)=f (O.neg a)
 inv:∀a,O.jq a=false->O'.inv (f a)=f (O.inv a)
 z:O'.z=f O.z
 o:O'.o=f O.o
 jq:∀a,O'.jq (f a)=O.jq a
abbrev dh{K A:Type}(f:K->A)(rows:List (List K)):List (List A):=rows.map (List.map f)
theorem iN.el{A:Type}{O:Ops K}{O':Ops A}{f:K->A}(h:iN O O' f)(v:List K)(j:Nat):O'.el (v.map f) j=f (O.el v j):=by
 unfold Ops.el;rw[am6,am6,am7];cases v[j]? with
 |none=>exact h.z
 |some x=>rfl
theorem iN.oJ{A:Type}{O:Ops K}{O':Ops A}{f:K->A}(h:iN O O' f)(v:List K)(c:Nat)(hx:O.jq (O.el v c)=false):O'.oJ (v.map f) c=(O.oJ v c).map f:=by unfold Ops.oJ;rw[anr,anr,h.el,h.inv _ hx];exact anF λx _=>h.mul _ _
theorem iN.less{A:Type}{O:Ops K}{O':Ops A}{f:K->A}(h:iN O O' f)(v:List K)(k:K)(w:List K):O'.less (v.map f) (f k) (w.map f)=(O.less v k w).map f:=by unfold Ops.less;rw[List.zipWith_map,List.map_zipWith];congr 1;funext x y;rw[h.neg,h.mul,h.add]
theorem iN.Bd{A:Type}{O:Ops K}{O':Ops A}{f:K->A}(h:iN O O' f)(r c:Nat)(l:List K)(i:Nat)(v:List K):O'.Bd r c (l.map f) i (v.map f)=(O.Bd r c l i v).map f:=by
 unfold Ops.Bd;rw[h.el,h.jq];split
 .rfl
 .split
  .rfl
  .exact h.less v _ l
theorem uo{A:Type}(f:K->A)(rows:List (List K))(i:Nat):(dh f rows).getD i []=(rows.getD i []).map f:=by rw[am6,am6,am7];cases rows[i]?<;>rfl
theorem O5{A:Type}(f:K->A)(rows:List (List K))(i k:Nat):jw (dh f rows) i k=dh f (jw rows i k):=by unfold jw;rw[uo,uo];show _=List.map _ _;rw[anZ,anZ]
theorem iN.qg{A:Type}{O:Ops K}{O':Ops A}{f:K->A}(h:iN O O' f)(rows:List (List K))(r c:Nat):O'.qg (dh f rows) r c=O.qg rows r c:=by unfold Ops.qg;rw[<-List.map_drop,List.findIdx_map];congr 2;funext v;show(!O'.jq (O'.el (v.map f) c))=_;rw[h.el,h.jq]
theorem iN.piv{A:Type}{O:Ops K}{O':Ops A}{f:K->A}(h:iN O O' f)(rows:List (List K))(r c k:Nat)(hx:O.jq (O.el (rows.getD k []) c)=false):O'.piv (dh f rows) r c k=dh f (O.piv rows r c k):=by
 unfold Ops.piv;rw[O5,uo,h.oJ _ _ hx];refine anG λi=>?_
 rw[aoK,am7,am7,aoK,Option.map_map,Option.map_map];congr 1;funext v;exact h.Bd r c _ i v
theorem iN.red{A:Type}{O:Ops K}{O':Ops A}{f:K->A}(h:iN O O' f):∀(m c r:Nat) (rows:List (List K)),O'.red m c r (dh f rows)=(dh f (O.red m c r rows).1,(O.red m c r rows).2)
 |0,_,_,_=>rfl
 |m+1,c,r,rows=>by
  rw[Ops.red,Ops.red,h.qg,am5];split
  .rename_i hf;rw[h.piv rows r c _ (jm O hf).2,h.red m]
  .rw[h.red m]
theorem iN.aB{A:Type}{O:Ops K}{O':Ops A}{f:K->A}(h:iN O O' f)(n:Nat)(rows:List (List K)):O'.aB n (dh f rows)=dh f (O.aB n rows):=by unfold Ops.aB;rw[h.red];exact List.map_take.symm
theorem Wu{A:Type}{P:A->Prop}:∀(v:List A),(∀x∈v,P x)->∃u:List {x // P x},v=u.map Subtype.val
 |[],_=>⟨[],rfl⟩
 |x::v,h=>by
  obtain⟨u,hu⟩:=Wu v λy hy=>h y (by simp[hy])
  exact⟨⟨x,h x (by simp)⟩::u,by rw[List.map_cons,<-hu]⟩
theorem CK{A:Type}{P:A->Prop}:∀(rows:List (List A)),(∀v∈rows,∀x∈v,P x)->∃u:List (List {x // P x}),rows=dh Subtype.val u
 |[],_=>⟨[],rfl⟩
 |v::rows,h=>by
  obtain⟨u,hu⟩:=CK rows λy hy=>h y (by simp[hy])
  obtain⟨u1,hu1⟩:=Wu v (h v (by simp));exact⟨u1::u,by rw[dh,List.map_cons,<-hu1,hu]⟩
theorem aZ.dh{A:Type}{f:K->A}{rows:List (List K)}:aZ n (dh f rows)↔aZ n rows:=by
 constructor
 .intro h v hv;have:=h (v.map f) (am3.2 ⟨v,hv,rfl⟩);rwa[am5]at this
 .intro h v hv;obtain⟨u,hu,rfl⟩:=am3.1 hv;rw[am5];exact h u hu
def Ops.lead{K:Type}(O:Ops K)(v:List K):Nat:=v.findIdx λx=> !O.jq x
theorem iN.lead{A:Type}{O:Ops K}{O':Ops A}{f:K->A}(h:iN O O' f)(v:List K):O'.lead (v.map f)=O.lead v:=by unfold Ops.lead;rw[List.findIdx_map];congr 1;funext x;show(!O'.jq (f x))=_;rw[h.jq]
structure Bf {A:Type} (O:Ops A) (n:Nat) (R:List (List A)):Prop where
 len:aZ n R
 one:∀v∈R,O.lead v<n/\O.el v (O.lead v)=O.o
 Et:∀(i:Nat) (u v:List A),R[i]?=some u->R[i+1]?=some v->O.lead u<O.lead v
 Bh:∀(i k:Nat) (u v:List A),R[i]?=some u->R[k]?=some v->i≠k->O.jq (O.el v (O.lead u))=true
theorem iN.rrp{A:Type}{O:Ops K}{O':Ops A}{f:K->A}(h:iN O O' f)(hf:∀a b,f a=f b->a=b){R:List (List K)}:Bf O' n (dh f R)↔Bf O n R:=by
 have hat:∀(i:Nat) (u:List K),R[i]?=some u->(dh f R)[i]?=some (u.map f):=λi u hu=>by rw[am7,hu];rfl
 constructor
 .intro k;refine⟨aZ.dh.1 k.len,λv hv=>?_,λi u v hu hv=>?_,λi j u v hu hv hne=>?_⟩
  .have:=k.one (v.map f) (am3.2 ⟨v,hv,rfl⟩);rw[h.lead,h.el,h.o]at this;exact⟨this.1,hf _ _ this.2⟩
  .have:=k.Et i _ _ (hat i u hu) (hat _ v hv);rwa[h.lead,h.lead]at this
  .have:=k.Bh i j _ _ (hat i u hu) (hat _ v hv) hne;rwa[h.lead,h.el,h.jq]at this
 .intro k;have hinv:∀(i:Nat) (u:List A),(dh f R)[i]?=some u->∃x,R[i]?=some x/\u=x.map f:=λi u hu=>by
   rw[am7]at hu;cases hx:R[i]? with
   |none=>rw[hx]at hu;cases hu
   |some x=>rw[hx]at hu;injection hu with hu;exact⟨x,rfl,hu.symm⟩
  refine⟨aZ.dh.2 k.len,λv hv=>?_,λi u v hu hv=>?_,λi j u v hu hv hne=>?_⟩
  .obtain⟨x,hx,rfl⟩:=am3.1 hv;have:=k.one x hx;rw[h.lead,h.el,h.o,this.2];exact⟨this.1,rfl⟩
  .obtain⟨x,hx,rfl⟩:=hinv i u hu;obtain⟨y,hy,rfl⟩:=hinv _ v hv;rw[h.lead,h.lead];exact k.Et i x y hx hy
  .obtain⟨x,hx,rfl⟩:=hinv i u hu;obtain⟨y,hy,rfl⟩:=hinv _ v hv;rw[h.lead,h.el,h.jq];exact k.Bh i j x y hx hy hne
theorem CR(O:Ops K){v:List K}(h:j<O.lead v)(hl:j<v.length):O.jq (O.el v j)=true:=by rw[O.bT (am0 hl)];have:=List.not_of_lt_findIdx (p:=λx=> !O.jq x) (xs:=v) h;simpa using this
theorem UZ(O:Ops K){v:List K}(h:O.lead v<v.length):O.jq (O.el v (O.lead v))=false:=by rw[O.bT (am0 h)];have:=List.findIdx_getElem (p:=λx=> !O.jq x) (xs:=v) (w:=h);rw[Bool.not_eq_true']at this;exact this
theorem UY(O:Ops K)(v:List K):O.lead v<=v.length:=List.findIdx_le_length
theorem KD(O:Ops K){v:List K}{p:Nat}(hp:O.jq (O.el v p)=false)(hl:p<v.length)(h0:∀j,j<p->O.jq (O.el v j)=true):O.lead v=p:=by
 rcases Nat.lt_trichotomy (O.lead v) p with h|h|h
 .have:=UZ O (Nat.lt_trans h hl);rw[h0 _ h]at this;cases this
 .exact h
 .have:=CR O h hl;rw[hp]at this;cases this
theorem sZ(F:aL K){R:List (List K)}:Bf F.toOps n R↔jZ F n R:=by
 constructor
 .intro h;have hasc:∀(d i:Nat) (u v:List K),R[i]?=some u->R[i+(d+1)]?=some v->F.lead u<F.lead v:=by
   intro d
   induction d with
   |zero=>exact h.Et
   |succ d ih=>intro i u v hu hv;have hl:=(am2.1 hv).1;obtain⟨x,hx⟩:∃x,R[i+(d+1)]?=some x:=⟨_,am0 (by omega)⟩;exact Nat.lt_trans (ih i u x hu hx) (h.Et _ x v hx hv)
  have hP:∀(i p:Nat),(R.map F.lead)[i]?=some p->∃u,R[i]?=some u/\p=F.lead u:=λi p hp=>by
   rw[am7]at hp;cases hx:R[i]? with
   |none=>rw[hx]at hp;cases hp
   |some x=>rw[hx]at hp;injection hp with hp;exact⟨x,rfl,hp.symm⟩
  refine⟨h.len,R.map F.lead,by simp,amX _,?_,?_,?_,?_,?_,?_⟩
  .rw[aps];intro i j hi hj hij;rw[am5]at hi hj;rw[aor,aor];refine hasc (j-i-1) i _ _ (am0 hi) ?_;rw[show i+(j-i-1+1)=j by omega];exact am0 hj
  .intro p hp;obtain⟨v,hv,rfl⟩:=am3.1 hp;exact(h.one v hv).1
  .intro i p v hp hv;obtain⟨u,hu,rfl⟩:=hP i p hp;rw[hu]at hv;injection hv with hv;subst hv;exact(h.one u (am1 hu)).2
  .intro i i' p v hp hv hne;obtain⟨u,hu,rfl⟩:=hP i p hp;exact(F.dZ _).1 (h.Bh i i' u v hu hv (λe=>hne e.symm))
  .intro i p v hp hv j hj;obtain⟨u,hu,rfl⟩:=hP i p hp;rw[hu]at hv;injection hv with hv;subst hv;exact(F.dZ _).1 (CR F.toOps hj (by have:=UY F.toOps u;omega))
  .intro i v hi hv;have:=(am2.1 hv).1;omega
 .rintro⟨hw,P,h⟩;have hlead:∀(i:Nat) (v:List K),R[i]?=some v->∃p,P[i]?=some p/\F.lead v=p/\p<n:=λi v hv=>by
   have hl:=(am2.1 hv).1;obtain⟨p,hp⟩:∃p,P[i]?=some p:=⟨_,am0 (by rw[h.pl];exact hl)⟩;have hpn:=h.lt p (am1 hp);refine⟨p,hp,KD F.toOps ?_ (by rw[hw v (am1 hv)];exact hpn) λj hj=>(F.dZ _).2 (h.led i p v hp hv j hj),hpn⟩;cases hb:F.jq (F.el v p)with
   |false=>rfl
   |true=>exact absurd (((F.dZ _).1 hb).symm.trans (h.one i p v hp hv)) (λe=>F.MV e.symm)
  refine⟨hw,λv hv=>?_,λi u v hu hv=>?_,λi k u v hu hv hne=>?_⟩
  .obtain⟨i,hi⟩:=anc hv;obtain⟨p,hp,e,hpn⟩:=hlead i v hi;rw[e];exact⟨hpn,h.one i p v hp hi⟩
  .obtain⟨p,hp,e,_⟩:=hlead i u hu;obtain⟨q,hq,e2,_⟩:=hlead _ v hv;rw[e,e2];have hpl:=(am2.1 hp);have Rn:=(am2.1 hq);have:=aps.1 h.Et i (i+1) hpl.1 Rn.1 (by omega);rwa[hpl.2,Rn.2]at this
  .obtain⟨p,hp,e,_⟩:=hlead i u hu;rw[e];exact(F.dZ _).2 (h.Bh i k p v hp hv (λe=>hne e.symm))
section
variable {K : Type}
def aL.bS(F:aL K):Nat->(Nat->K)->K
 |0,_=>F.z
 |n+1,f=>F.add (aL.bS F n f) (f n)
theorem aL.bK(F:aL K){f g:Nat->K}:∀{n:Nat},(∀j,j<n->f j=g j)->F.bS n f=F.bS n g
 |0,_=>rfl
 |n+1,h=>by rw[aL.bS,aL.bS,F.bK (n:=n) λj hj=>h j (by omega),h n (by omega)]
theorem aL.iQ(F:aL K){f:Nat->K}:∀{n:Nat},(∀j,j<n->f j=F.z)->F.bS n f=F.z
 |0,_=>rfl
 |n+1,h=>by rw[aL.bS,F.iQ (n:=n) λj hj=>h j (by omega),h n (by omega),F.bG]
theorem aL.yM(F:aL K)(f g:Nat->K):∀n:Nat,F.bS n (λj=>F.add (f j) (g j))=F.add (F.bS n f) (F.bS n g)
 |0=>(F.bG F.z).symm
 |n+1=>by rw[aL.bS,F.yM f g n,F.Wj];rfl
theorem aL.yL(F:aL K)(c:K)(f:Nat->K):∀n:Nat,F.bS n (λj=>F.mul c (f j))=F.mul c (F.bS n f)
 |0=>(F.bf c).symm
 |n+1=>by rw[aL.bS,F.yL c f n,<-F.distrib];rfl
def uY(j0 j:Nat):Nat:=if j<j0 then j else j+1
theorem aL.BP(F:aL K)(f:Nat->K){j0:Nat}:∀{n:Nat},j0<n+1->F.bS (n+1) f=F.add (f j0) (F.bS n λj=>f (uY j0 j))
 |0,h=>by
  obtain rfl:j0=0:=by omega
  show F.add F.z (f 0)=F.add (f 0) F.z;rw[F.add_comm]
 |n+1,h=>by
  by_cases e:j0=n+1
  .subst e;rw[aL.bS,F.add_comm];congr 1;refine F.bK λj hj=>?_
   rw[uY,amY hj]
  .rw[aL.bS,F.BP f (j0:=j0) (n:=n) (by omega),F.add_assoc];congr 1;show _=F.add (F.bS n λj=>f (uY j0 j)) (f (uY j0 n));rw[uY,amZ (by omega)]
theorem XD(j0 j:Nat):uY j0 j≠j0:=by unfold uY;split<;>omega
theorem O_{j0:Nat}(h:j<n):uY j0 j<n+1:=by unfold uY;split<;>omega
theorem yo(F:aL K):∀(m n:Nat) (A:Nat->Nat->K),m<n->∃x:Nat->K,(∃j,j<n/\x j≠F.z)/\∀i,i<m->F.bS n (λj=>F.mul (A i j) (x j))=F.z
 |0,n,A,h=>⟨λ_=>F.o,⟨0,h,F.MV⟩,λi hi=>by omega⟩
 |m+1,n,A,h=>by
  by_cases hz:∀j,j<n->A m j=F.z
  .obtain⟨x,hx,hs⟩:=yo F m n A (by omega);refine⟨x,hx,λi hi=>?_⟩;by_cases e:i=m
   .subst e;exact F.iQ λj hj=>by rw[hz j hj,F.iF]
   .exact hs i (by omega)
  .obtain⟨j0,hj0⟩:=Classical.not_forall.1 hz;obtain⟨hjn,hne⟩:=Classical.not_imp.1 hj0;obtain⟨k,rfl⟩:∃k,n=k+1:=⟨n-1,by omega⟩;obtain⟨y,⟨j1,hj1,hy⟩,hs⟩:=yo F m k (λi j=>F.add (A i (uY j0 j)) (F.mul (F.neg (F.mul (A i j0) (F.inv (A m j0)))) (A m (uY j0 j)))) (by omega);obtain⟨S,hS⟩:∃S,F.bS k (λj=>F.mul (A m (uY j0 j)) (y j))=S:=⟨_,rfl⟩;obtain⟨x,hx0,hxs⟩:∃x:Nat->K,x j0=F.neg (F.mul (F.inv (A m j0)) S)/\∀j,x (uY j0 j)=y j:=by
    refine⟨λj=>if j=j0 then F.neg (F.mul (F.inv (A m j0)) S)else y (if j<j0 then j else j-1),amY rfl,λj=>?_⟩;show(if uY j0 j=j0 then _ else _)=_;rw[amZ (XD j0 j)];congr 1;unfold uY;by_cases e:j<j0
    .rw[amY e,amY e]
    .rw[amZ e,amZ (by omega)];omega
   have hsum:∀i,F.bS (k+1) (λj=>F.mul (A i j) (x j))=F.add (F.mul (A i j0) (x j0)) (F.bS k λj=>F.mul (A i (uY j0 j)) (y j)):=λi=>by rw[F.BP _ hjn];congr 1;exact F.bK λj _=>by rw[hxs]
   refine⟨x,⟨uY j0 j1,O_ hj1,by rw[hxs];exact hy⟩,λi hi=>?_⟩;rw[hsum,hx0];by_cases e:i=m
   .subst e;rw[hS,<-F.neg_mul,<-F.mul_assoc,F.mul_comm (A i j0),F.neg_mul,F.inv_mul _ hne,F.neg_mul,F.bB,F.neg_add]
   .have h2:=hs i (by omega);have h3:F.bS k (λj=>F.mul (F.add (A i (uY j0 j)) (F.mul (F.neg (F.mul (A i j0) (F.inv (A m j0)))) (A m (uY j0 j)))) (y j))=F.add (F.bS k λj=>F.mul (A i (uY j0 j)) (y j)) (F.mul (F.neg (F.mul (A i j0) (F.inv (A m j0)))) S):=by
     rw[<-hS,<-F.yL,<-F.yM];exact F.bK λj _=>by rw[F.qU,F.mul_assoc]
    rw[h3]at h2;rw[<-h2,F.add_comm];congr 1;rw[F.neg_mul,F.mul_comm (A i j0) (F.neg _),F.neg_mul];congr 1;rw[F.mul_comm,<-F.mul_assoc]
end
section
variable {K : Type}
theorem Sp.map{F:aL K}{φ:(Nat->K)->(Nat->K)}(hz:φ F.vz=F.vz)(ha:∀u r c,φ (F.va u (F.vs c r))=F.va (φ u) (F.vs c (φ r))){R:List (Nat->K)}{v:Nat->K}(h:Sp F R v):Sp F (R.map φ) (φ v):=
 h (λx=>Sp F (R.map φ) (φ x)) (by rw[hz];exact Sp.zero F _) λu hu r hr c=>by rw[ha];exact hu.step (am3.2 ⟨r,hr,rfl⟩) c
theorem Sp.bS{F:aL K}{R:List (Nat->K)}{g:Nat->Nat->K}:∀{m:Nat},(∀i,i<m->Sp F R (g i))->Sp F R (λj=>F.bS m λi=>g i j)
 |0,_=>Sp.zero F R
 |m+1,h=>(Sp.bS (m:=m) λi hi=>h i (by omega)).add (h m (by omega))
theorem aL.pO(F:aL K){f g:Nat->K}{p:Nat}{d:K}(hp:f p=F.add (g p) d):∀{s:Nat},p<s->(∀i,i<s->i≠p->f i=g i)->F.bS s f=F.add (F.bS s g) d
 |0,h,_=>by omega
 |s+1,h,he=>by
  by_cases e:p=s
  .subst e;rw[aL.bS,aL.bS,hp,<-F.add_assoc,F.bK (n:=p) (f:=f) (g:=g) λi hi=>he i (by omega) (by omega)]
  .rw[aL.bS,aL.bS,F.pO hp (s:=s) (by omega) λi hi=>he i (by omega),he s (by omega) (by omega),F.add_assoc,F.add_assoc,F.add_comm d]
theorem aL.uX(F:aL K){f:Nat->K}{p:Nat}(hp:p<s)(h:∀i,i<s->i≠p->f i=F.z):F.bS s f=f p:=by rw[F.pO (f:=f) (g:=λ_=>F.z) (p:=p) (d:=f p) (F.bG _).symm hp h,F.iQ λ_ _=>rfl,F.bG]
def aL.dot(F:aL K)(s:Nat)(a k:Nat->K):K:=F.bS s λi=>F.mul (a i) (k i)
theorem aL.WW(F:aL K)(s:Nat)(a:Nat->K):F.dot s a F.vz=F.z:=F.iQ λ_ _=>F.bf _
theorem aL.V7(F:aL K)(s:Nat)(a:Nat->K):F.dot s F.vz a=F.z:=F.iQ λ_ _=>F.iF _
theorem aL.dot_comm(F:aL K)(s:Nat)(a k:Nat->K):F.dot s a k=F.dot s k a:=F.bK λ_ _=>F.mul_comm _ _
theorem aL.uH(F:aL K)(s:Nat)(a u r:Nat->K)(c:K):F.dot s a (F.va u (F.vs c r))=F.add (F.dot s a u) (F.mul c (F.dot s a r)):=by
 unfold aL.dot;rw[<-F.yL,<-F.yM];refine F.bK λi _=>?_
 show F.mul (a i) (F.add (u i) (F.mul c (r i)))=_;rw[F.distrib,<-F.mul_assoc,F.mul_comm (a i) c,F.mul_assoc]
def mE(F:aL K)(s:Nat)(M:List (Nat->K))(k:Nat->K):Prop:=(∀j,s<=j->k j=F.z)/\∀a∈M,F.dot s a k=F.z
theorem mE.zero(F:aL K)(s:Nat)(M:List (Nat->K)):mE F s M F.vz:=⟨λ_ _=>rfl,λa _=>F.WW s a⟩
theorem mE.step{F:aL K}{M:List (Nat->K)}{u r:Nat->K}(h:mE F s M u)(k:mE F s M r)(c:K):mE F s M (F.va u (F.vs c r)):=
 ⟨λj hj=>by show F.add (u j) (F.mul c (r j))=F.z;rw[h.1 j hj,k.1 j hj,F.bf,F.bG],λa ha=>by rw[F.uH,h.2 a ha,k.2 a ha,F.bf,F.bG]⟩
theorem mE.sp{F:aL K}{M R:List (Nat->K)}(h:∀r∈R,mE F s M r){v:Nat->K}(hv:Sp F R v):mE F s M v:=
 hv (mE F s M) (mE.zero F s M) λ_ hu r hr c=>hu.step (h r hr) c
theorem mE.mono{F:aL K}{M M':List (Nat->K)}(h:∀a∈M',Sp F M a){k:Nat->K}(hk:mE F s M k):mE F s M' k:=
 ⟨hk.1,λa ha=>h a ha (λx=>F.dot s x k=F.z) (F.V7 s k) λu hu r hr c=>by
  rw[F.dot_comm,F.uH,F.dot_comm s k u,F.dot_comm s k r,hu,hk.2 r hr,F.bf,F.bG]⟩
theorem mE.same{F:aL K}{M M':List (Nat->K)}(h:∀v,Sp F M v↔Sp F M' v)(k:Nat->K):mE F s M k↔mE F s M' k:=
 ⟨mE.mono λa ha=>(h a).2 (Sp.mem ha),mE.mono λa ha=>(h a).1 (Sp.mem ha)⟩
theorem kV(F:aL K)(v:List K)(p:Nat)(c:K)(i:Nat):F.el (v.set p c) i=if p=i/\i<v.length then c else F.el v i:=by
 unfold Ops.el;rw[am6,am6,ang];by_cases e:p=i
 .subst e;by_cases h:p<v.length
  .rw[amY rfl,amY h,amY ⟨rfl,h⟩];rfl
  .rw[amY rfl,amZ h,amZ (λq=>h q.2),anz (by omega)]
 .rw[amZ e,amZ (λq=>e q.1)]
theorem SF(F:aL K){a:Nat->K}{v:List K}{p:Nat}(c:K)(ha:a p=F.z):F.dot s a (F.fn (v.set p c))=F.dot s a (F.fn v):=
 F.bK λi _=>by
  show F.mul (a i) (F.el (v.set p c) i)=F.mul (a i) (F.el v i);rw[kV];split
  .rename_i h;rw[<-h.1,ha,F.iF,F.iF]
  .rfl
theorem Vw(F:aL K){a:Nat->K}{v:List K}{p:Nat}(c:K)(hv:F.el v p=F.z)(hp:p<v.length)(hs:p<s):F.dot s a (F.fn (v.set p c))=F.add (F.dot s a (F.fn v)) (F.mul (a p) c):=by
 refine F.pO (p:=p) ?_ hs λi _ hne=>?_
 .show F.mul (a p) (F.el (v.set p c) p)=F.add (F.mul (a p) (F.el v p)) _;rw[kV,amY ⟨rfl,hp⟩,hv,F.bf,F.bG]
 .show F.mul (a i) (F.el (v.set p c) i)=F.mul (a i) (F.el v i);rw[kV,amZ λq=>hne q.1.symm]
def Ops.h_(O:Ops K)(R:List (List K))(j:Nat)(v:List K):List K:=R.foldl (λv r=>v.set (O.lead r) (O.neg (O.el r j))) v
def Ops.fK(O:Ops K)(s:Nat)(R:List (List K))(j:Nat):List K:=O.h_ R j ((replicate s O.z).set j O.o)
def Ops.bR(O:Ops K)(s:Nat)(R:List (List K)):Nat->Nat->Nat->List (List K)
 |0,_,_=>[]
 |m+1,j,t=>if t<R.length/\O.lead (R.getD t [])=j then Ops.bR O s R m (j+1) (t+1)else O.fK s R j::Ops.bR O s R m (j+1) t
def Ops.j4(O:Ops K)(s:Nat)(R:List (List K)):List (List K):=O.bR s R s 0 0
theorem pV(O:Ops K)(j:Nat):∀(R:List (List K)) (v:List K),(O.h_ R j v).length=v.length
 |[],_=>rfl
 |r::R,v=>by show(O.h_ R j (v.set _ _)).length=_;rw[pV O j R,anj]
theorem mR(O:Ops K)(s:Nat)(R:List (List K))(j:Nat):(O.fK s R j).length=s:=by unfold Ops.fK;rw[pV,anj,anD]
theorem zG(F:aL K)(j i:Nat):∀(R:List (List K)) (v:List K),(∀r∈R,F.lead r≠i)->F.el (F.h_ R j v) i=F.el v i
 |[],_,_=>rfl
 |r::R,v,h=>by show F.el (F.h_ R j (v.set _ _)) i=_;rw[zG F j i R _ (λx hx=>h x (by simp[hx])),kV,amZ λq=>h r (by simp) q.1]
theorem vL(F:aL K){s j:Nat}{a:Nat->K}:∀(R:List (List K)) (v:List K),(∀r∈R,a (F.lead r)=F.z)->F.dot s a (F.fn (F.h_ R j v))=F.dot s a (F.fn v)
 |[],_,_=>rfl
 |r::R,v,h=>by show F.dot s a (F.fn (F.h_ R j (v.set _ _)))=_;rw[vL F R _ (λx hx=>h x (by simp[hx])),SF F _ (h r (by simp))]
theorem zH(O:Ops K)(R S:List (List K))(j:Nat)(v:List K):O.h_ (R++S) j v=O.h_ S j (O.h_ R j v):=List.foldl_append ..
end
section
variable {K : Type}
theorem jI.lead{F:aL K}{R:List (List K)}(h:jI F R R.length n P)(hw:aZ n R){t:Nat}{r:List K}(hr:R[t]?=some r):∃p,P[t]?=some p/\F.lead r=p/\p<n:=by
 have ht:=(am2.1 hr).1;have hpl:=h.pl;have hp:P[t]?=some (P[t]'(by omega)):=am0 _;have hl:=h.lt _ (am1 hp);refine⟨_,hp,KD F.toOps ?_ (by rw[hw r (am1 hr)];exact hl) λj hj=>(F.dZ _).2 (h.led t _ r hp hr j hj),hl⟩;rw[h.one t _ r hp hr];cases hb:F.jq F.o with
 |false=>rfl
 |true=>exact absurd ((F.dZ _).1 hb) F.MV
theorem jI.inj{F:aL K}{R:List (List K)}(h:jI F R R.length n P){t t' p:Nat}(a:P[t]?=some p)(b:P[t']?=some p):t=t':=by
 have ha:=(am2.1 a).1;have hb:=(am2.1 b).1;have e1:=(am2.1 a).2;have e2:=(am2.1 b).2;have hasc:=aps.1 h.Et;rcases Nat.lt_trichotomy t t' with q|q|q
 .have:=hasc t t' ha hb q;omega
 .exact q
 .have:=hasc t' t hb ha q;omega
theorem Qw{F:aL K}{R:List (List K)}(h:jI F R R.length n P)(hw:aZ n R)(hj:j<n)(hi:i∉P):F.el (F.fK n R j) i=if i=j then F.o else F.z:=by
 unfold Ops.fK;rw[zG F j i R _ λr hr=>by
  obtain⟨t,ht⟩:=anc hr;obtain⟨p,hp,e,_⟩:=h.lead hw ht;rw[e];exact λq=>hi (q▸am1 hp),kV]
 by_cases e:i=j
 .rw[amY ⟨e.symm,by rw[anD];omega⟩,amY e]
 .rw[amZ λq=>e q.1.symm,amZ e];unfold Ops.el;rw[am6,anH];split<;>rfl
theorem Ci{F:aL K}{R:List (List K)}(h:jI F R R.length n P)(hw:aZ n R)(hj:j<n)(T_:j∉P):mE F n (F.fns R) (F.fn (F.fK n R j)):=by
 refine⟨λi hi=>Ops.eH _ (by rw[mR];exact hi),λa ha=>?_⟩;obtain⟨r,hr,rfl⟩:=am3.1 ha;obtain⟨t,ht⟩:=anc hr;obtain⟨p,hp,hlead,hpn⟩:=h.lead hw ht;have htl:=(am2.1 ht).1;have hsplit:R=R.take t++r::R.drop (t+1):=by
  conv=>lhs;rw[<-aog t R]
  rw[aoL htl,(am2.1 ht).2]
 have oth:∀(t':Nat) (r':List K),R[t']?=some r'->t'≠t->F.fn r (F.lead r')=F.z/\F.lead r'≠p:=λt' r' ht' hne=>by obtain⟨p',hp',e',_⟩:=h.lead hw ht';rw[e'];refine⟨h.Bh t' t p' r hp' ht λq=>hne q.symm,λq=>hne ?_⟩;subst q;exact h.inj hp' hp
 have inT:∀r'∈R.take t,F.fn r (F.lead r')=F.z/\F.lead r'≠p:=λr' hr'=>by
  obtain⟨i,hi⟩:=anc hr';rw[anh]at hi;split at hi
  .exact oth i r' hi (by omega)
  .cases hi
 have inD:∀r'∈R.drop (t+1),F.fn r (F.lead r')=F.z/\F.lead r'≠p:=λr' hr'=>by obtain⟨i,hi⟩:=anc hr';rw[anB]at hi;exact oth _ r' hi (by omega)
 have hjp:j≠p:=λq=>T_ (q▸am1 hp)
 have hrj:F.dot n (F.fn r) (F.fn ((replicate n F.z).set j F.o))=F.el r j:=by
  unfold aL.dot;have hrep:∀i,F.el (replicate n F.z) i=F.z:=λi=>by unfold Ops.el;rw[am6,anH];split<;>rfl
  rw[F.uX (p:=j) hj λi _ hne=>by
   show F.mul _ (F.el _ i)=F.z;rw[kV,amZ λq=>hne q.1.symm,hrep,F.bf]]
  show F.mul (F.el r j) (F.el _ j)=_;rw[kV,amY ⟨rfl,by rw[anD];exact hj⟩,F.fO]
 unfold Ops.fK;rw[hsplit,zH];show F.dot n (F.fn r) (F.fn (F.h_ (R.drop (t+1)) j ((F.h_ (R.take t) j ((replicate n F.z).set j F.o)).set (F.lead r) (F.neg (F.el r j)))))=F.z;rw[vL F _ _ λx hx=>(inD x hx).1,hlead,Vw F _ (by
  rw[zG F j p _ _ λx hx=>(inT x hx).2,kV,amZ λq=>hjp q.1];unfold Ops.el;rw[am6,anH];split<;>rfl) (by rw[pV,anj,anD];exact hpn) hpn,vL F _ _ λx hx=>(inT x hx).1,hrj]
 show F.add (F.el r j) (F.mul (F.el r p) _)=F.z;rw[h.one t p r hp ht,F.bB,F.add_neg]
theorem r_{F:aL K}{R:List (List K)}{n:Nat}{P:List Nat}(h:jI F R R.length n P)(hw:aZ n R):∀(m j t:Nat),(∀(i p:Nat),P[i]?=some p->(i<t↔p<j))->∀v,v∈F.bR n R m j t↔∃i,j<=i/\i<j+m/\i∉P/\v=F.fK n R i
 |0,j,t,_,v=>by
  rw[Ops.bR];constructor
  .intro q;cases q
  .rintro⟨i,h1,h2,_⟩;omega
 |m+1,j,t,hP,v=>by
  rw[Ops.bR];have hpl:=h.pl;split
  .rename_i hc;have ht:R[t]?=some (R.getD t []):=by rw[am6,am0 hc.1];rfl
   obtain⟨p,hp,e,_⟩:=h.lead hw ht;have hpj:p=j:=by rw[<-e];exact hc.2
   subst hpj;rw[r_ h hw m (p+1) (t+1) (λi q hq=>by
    by_cases e1:i=t
    .subst e1;rw[hp]at hq;injection hq with hq;omega
    .have h1:=hP i q hq;have h2:q≠p:=λe2=>e1 (h.inj (e2▸hq) hp)
     omega)]
   constructor
   .rintro⟨i,h1,h2,h3,h4⟩;exact⟨i,by omega,by omega,h3,h4⟩
   .rintro⟨i,h1,h2,h3,h4⟩;have:i≠p:=λe1=>h3 (e1▸am1 hp)
    exact⟨i,by omega,by omega,h3,h4⟩
  .rename_i hc;have T_:j∉P:=λhj=>by
    obtain⟨i,hi⟩:=anc hj;have hil:=(am2.1 hi).1;have h1:=hP i j hi;have hit:i=t:=by
     apply aov;intro hne;have htl:t<P.length:=by omega
     have h2:=hP t P[t] (am0 htl);have h3:=aps.1 h.Et t i htl hil (by omega);have h4:=(am2.1 hi).2;omega
    subst hit;refine hc ⟨by omega,?_⟩;have ht:R[i]?=some (R.getD i []):=by rw[am6,am0 (show i<R.length by omega)];rfl
    obtain⟨p,hp,e,_⟩:=h.lead hw ht;rw[hi]at hp;injection hp with hp;rw[e,hp]
   rw[ani,r_ h hw m (j+1) t (λi q hq=>by
    have h1:=hP i q hq;have h2:q≠j:=λe2=>T_ (e2▸am1 hq)
    omega)]
   constructor
   .rintro(q|⟨i,h1,h2,h3,h4⟩)
    .exact⟨j,by omega,by omega,T_,q⟩
    .exact⟨i,by omega,by omega,h3,h4⟩
   .rintro⟨i,h1,h2,h3,h4⟩;by_cases e:i=j
    .subst e;exact .inl h4
    .exact .inr ⟨i,by omega,by omega,h3,h4⟩
theorem qM{F:aL K}{R:List (List K)}(h:jI F R R.length n P)(hw:aZ n R)(v:List K):v∈F.j4 n R↔∃i,i<n/\i∉P/\v=F.fK n R i:=by
 unfold Ops.j4;rw[r_ h hw n 0 0 λi p _=>by omega];constructor
 .rintro⟨i,h1,h2,h3,h4⟩;exact⟨i,by omega,h3,h4⟩
 .rintro⟨i,h1,h3,h4⟩;exact⟨i,by omega,by omega,h3,h4⟩
theorem Q8{F:aL K}{R:List (List K)}(h:jI F R R.length n P){u:Nat->K}(hu:mE F n (F.fns R) u)(h0:∀j,j<n->j∉P->u j=F.z)(j:Nat):u j=F.z:=by
 by_cases hj:j<n
 .by_cases hP:j∈P
  .obtain⟨t,ht⟩:=anc hP;have htl:=(am2.1 ht).1;have hpl:=h.pl;have hr:R[t]?=some (R[t]'(by omega)):=am0 _;have:=hu.2 _ (am3.2 ⟨_,am1 hr,rfl⟩);unfold aL.dot at this;rw[F.uX (p:=j) hj λi hi hne=>by
    by_cases hiP:i∈P
    .obtain⟨t',ht'⟩:=anc hiP;show F.mul (F.el _ i) _=F.z;rw[h.Bh t' t i _ ht' hr λe=>by subst e;rw[ht]at ht';injection ht' with q;exact hne q.symm,F.iF]
    .rw[h0 i hi hiP,F.bf]]at this
   rw[show F.fn R[t] j=F.o from h.one t j _ ht hr,F.bB]at this;exact this
  .exact h0 j hj hP
 .exact hu.1 j (by omega)
theorem zC{F:aL K}{R:List (List K)}(h:jI F R R.length n P)(hw:aZ n R)(k:Nat->K):Sp F (F.fns (F.j4 n R)) k↔mE F n (F.fns R) k:=by
 constructor
 .refine mE.sp λq hq=>?_
  obtain⟨v,hv,rfl⟩:=am3.1 hq;obtain⟨i,hi,hP,rfl⟩:=(qM h hw v).1 hv;exact Ci h hw hi hP
 .intro hk;have:∀t,t<=n->∃x,Sp F (F.fns (F.j4 n R)) x/\∀j,j<t->j∉P->F.add (k j) (F.mul (F.neg F.o) (x j))=F.z:=by
   intro t
   induction t with
   |zero=>intro _;exact⟨F.vz,Sp.zero F _,λj hj=>by omega⟩
   |succ t ih=>
    intro ht;obtain⟨x,hx,hz⟩:=ih (by omega);by_cases hP:t∈P
    .exact⟨x,hx,λj hj T_=>hz j (by have:j≠t:=λe=>T_ (e▸hP);omega) T_⟩
    .refine⟨F.va x (F.vs (F.add (k t) (F.mul (F.neg F.o) (x t))) (F.fn (F.fK n R t))),hx.step (am3.2 ⟨_,(qM h hw _).2 ⟨t,by omega,hP,rfl⟩,rfl⟩) _,λj hj T_=>?_⟩;show F.add (k j) (F.mul (F.neg F.o) (F.add (x j) (F.mul _ (F.el (F.fK n R t) j))))=F.z;rw[Qw h hw (by omega) T_];by_cases e:j=t
     .subst e;rw[amY rfl,F.fO,F.distrib,<-F.add_assoc,F.neg_mul F.o (F.add _ _),F.bB,F.add_neg]
     .rw[amZ e,F.bf,F.d_];exact hz j (by omega) T_
  obtain⟨x,hx,hz⟩:=this n (amX n);have hxk:mE F n (F.fns R) x:=mE.sp (λq hq=>by
   obtain⟨v,hv,rfl⟩:=am3.1 hq;obtain⟨i,hi,hP,rfl⟩:=(qM h hw v).1 hv;exact Ci h hw hi hP) hx
  have h0:=Q8 h (hk.step hxk (F.neg F.o)) λj hj hP=>hz j hj hP
  have:k=x:=funext λj=>by have e:F.add (k j) (F.mul (F.neg F.o) (x j))=F.z:=h0 j;rw[F.neg_mul,F.bB]at e;rw[F.lY e,F.neg_neg]
  rw[this];exact hx
end
structure PN (p:Int) (f:List Int):Prop where
 e:av p f=true
 t:Tr f
theorem PN.nil(p:Int):PN p []:=⟨iX p,Tr.nil⟩
theorem PN.one(h2:2<=p):PN p [1]:=⟨Ea h2,OW⟩
theorem PN.mul(hp:0<p)(f g:List Int):PN p (ax p f g):=⟨jJ hp _ _,Tr.trim _⟩
theorem PN.add(hp:0<p)(hf:PN p f)(b:Int)(g:List Int):PN p (bL p f b g):=⟨tN hf.e hp b g,qF _ _ _ _⟩
theorem PN.eq(hp:0<p){g:List Int}(hf:PN p f)(hg:PN p g)(h:aP p (cf f) (cf g)):f=g:=h.list hp hf.e hg.e hf.t hg.t
theorem aH(hp:0<p)(f g:List Int):ax p f g=ax p g f:=
 PN.eq hp (PN.mul hp f g) (PN.mul hp g f) ((aU hp f g).trans ((aP.of_eq (dG f g)).trans (aU hp g f).symm))
theorem Qe(hp:0<p)(f g h:List Int):aP p (act (ax p f g) (cf h)) (act f (act g (cf h))):=by
 obtain⟨q,hq⟩:=Hf f g;have h1:aP p (cf (ax p f g)) (cf q):=by refine(aU hp f g).trans (aP.of_eq ?_);rw[Au q,hq,<-Au]
 exact(h1.JN h).trans (aP.of_eq (hq _))
theorem bE(hp:0<p)(f g h:List Int):ax p (ax p f g) h=ax p f (ax p g h):=
 PN.eq hp (PN.mul hp _ _) (PN.mul hp _ _) ((aU hp _ _).trans ((Qe hp f g h).trans (((aU hp g h).symm.act f).trans (aU hp f _).symm)))
theorem dJ(hp:0<p)(hf:PN p f)(g:List Int):aP p (cf (bL p f 1 g)) (λn=>cf f n+cf g n):=
 (qG hp hf.e 1 g).trans (aP.of_eq (funext λn=>by rw[Int.one_mul]))
theorem jC(hp:0<p){g:List Int}(hf:PN p f)(hg:PN p g):bL p f 1 g=bL p g 1 f:=
 PN.eq hp (hf.add hp _ _) (hg.add hp _ _) ((dJ hp hf g).trans ((aP.of_eq (funext λ_=>Int.add_comm _ _)).trans (dJ hp hg f).symm))
theorem zu(hp:0<p){g:List Int}(hf:PN p f)(hg:PN p g):bL p (bL p f 1 g) 1 h=bL p f 1 (bL p g 1 h):=by refine PN.eq hp ((hf.add hp _ _).add hp _ _) (hf.add hp _ _) ?_;refine(dJ hp (hf.add hp 1 g) h).trans ?_;refine((dJ hp hf g).add (aP.refl p (cf h))).trans ?_;refine aP.trans ?_ (dJ hp hf (bL p g 1 h)).symm;refine aP.trans (aP.of_eq (funext λn=>Int.add_assoc _ _ _)) ?_;exact(aP.refl p (cf f)).add (dJ hp hg h).symm
theorem zo(hp:0<p)(f:List Int){g:List Int}(hg:PN p g):ax p f (bL p g 1 h)=bL p (ax p f g) 1 (ax p f h):=by refine PN.eq hp (PN.mul hp _ _) ((PN.mul hp f g).add hp _ _) ?_;refine(aU hp f _).trans ?_;refine((dJ hp hg h).act f).trans ?_;rw[yE];exact((aU hp f g).symm.add (aU hp f h).symm).trans (dJ hp (PN.mul hp f g) _).symm
theorem mO(hp:0<p)(f:List Int){g:List Int}(hg:PN p g):ax p (bL p g 1 h) f=bL p (ax p g f) 1 (ax p h f):=by rw[aH hp,zo hp f hg,aH hp f g,aH hp f h]
theorem dS(h2:2<=p)(hf:PN p f):ax p f [1]=f:=by refine PN.eq (by omega) (PN.mul (by omega) _ _) hf ?_;rw[aH (by omega)];refine(aU (by omega) [1] f).trans (aP.of_eq ?_);rw[yD]
theorem Fp(p:Int)(f:List Int):ax p f []=[]:=by rw[ax,eZ,amY (.inr rfl)];rfl
theorem dR(p:Int)(f:List Int):ax p [] f=[]:=by rw[ax,eZ,amY (.inl rfl)];rfl
theorem zq(hp:0<p)(hf:PN p f):bL p f 1 []=f:=by refine PN.eq hp (hf.add hp _ _) hf ((dJ hp hf []).trans (aP.of_eq (funext λn=>by rw[iD,Int.add_zero])))
theorem bX(hF:aj p=true){g:List Int}(hf:PN p f)(hg:PN p g)(h1:f≠[])(h2:g≠[]):ax p f g≠[]:=by intro e;have:=tL hF hf.e hg.e hf.t hg.t h1 h2;rw[e]at this;have l1:=ana.2 h1;have l2:=ana.2 h2;simp at this;omega
theorem iV(hp:0<p)(b:Int)(g:List Int):aP p (cf (aR p b g)) (λn=>b*cf g n):=
 (qG hp (f:=[]) (iX p) b g).trans (aP.of_eq (funext λn=>by rw[iD,aoC]))
theorem PN.scale(hp:0<p)(b:Int)(g:List Int):PN p (aR p b g):=(PN.nil p).add hp b g
def je(p:Int)(f:List Int):List Int:=aR p (p-1) f
theorem PN.neg(hp:0<p)(f:List Int):PN p (je p f):=PN.scale hp _ _
theorem kP(hp:0<p)(f:List Int):bL p (je p f) 1 f=[]:=by refine PN.eq hp ((PN.scale hp _ _).add hp _ _) (PN.nil p) ?_;refine(dJ hp (PN.scale hp (p-1) f) f).trans ?_;refine((iV hp (p-1) f).add (aP.refl p (cf f))).trans ?_;intro n;rw[iD];exact⟨cf f n,by show(p-1)*cf f n+cf f n-0=_;rw[Int.sub_mul,Int.one_mul];omega⟩
theorem Fj(hp:0<p)(f g:List Int):ax p (je p f) g=je p (ax p f g):=by refine PN.eq hp (PN.mul hp _ _) (PN.scale hp _ _) ?_;rw[aH hp];refine(aU hp g _).trans (((iV hp (p-1) f).act g).trans ?_);rw[uM];refine aP.trans ?_ (iV hp (p-1) _).symm;refine aP.mul _ ?_;rw[<-dG];exact(aU hp f g).symm
theorem IV(h2:2<=p)(f:List Int):ax p [p-1] f=je p f:=by refine PN.eq (by omega) (PN.mul (by omega) _ _) (PN.scale (by omega) _ _) ?_;refine(aU (by omega) _ f).trans (aP.trans (aP.of_eq ?_) (iV (by omega) (p-1) f).symm);funext n;show(p-1)*cf f n+sh (act [] (cf f)) n=_;cases n<;>simp[sh,act]
theorem UD(hp:0<p)(hf:PN p f)(h:f≠[]):je p f≠[]:=λe=>by have:=kP hp f;rw[e,jC hp (PN.nil p) hf,zq hp hf]at this;exact h this
theorem wJ(hp:0<p){g:List Int}(hf:PN p f)(hg:PN p g)(hh:PN p h)(e:bL p f 1 g=bL p f 1 h):g=h:=by
 have h1:∀{x:List Int},PN p x->bL p (je p f) 1 (bL p f 1 x)=x:=λ{x} hx=>by rw[<-zu hp (PN.neg hp _) hf,kP hp,jC hp (PN.nil p) hx,zq hp hx]
 rw[<-h1 hg,e,h1 hh]
theorem pU(hF:aj p=true){d g:List Int}(hd:PN p d)(hf:PN p f)(hg:PN p g)(h0:d≠[])(e:ax p d f=ax p d g):f=g:=by
 have hp:0<p:=by have:=au hF;omega
 have hn:PN p (je p g):=PN.neg hp _;have h1:ax p d (bL p f 1 (je p g))=[]:=by rw[zo hp d hf,e,aH hp d (je p g),Fj hp,aH hp g d,jC hp (PN.mul hp _ _) (PN.neg hp _)];exact kP hp _
 by_cases h2:bL p f 1 (je p g)=[]
 .refine wJ hp hn hf hg ?_;rw[jC hp hn hf,h2,kP hp]
 .exact absurd h1 (bX hF hd (hf.add hp _ _) h0 h2)
theorem wT(hF:aj p=true){n d:List Int}(hn:PN p n)(hd:PN p d)(hd0:d≠[])(hg:(bJ p n d).length=1){e:List Int}(h:aY p d (cf (ax p n e))):aY p d (cf e):=by
 have h2:=au hF;have hp:0<p:=by omega
 have hg1:=Aa hF hn.e hd.e hn.t hd.t hd0 hg;have key:∀(k:Nat) {f g:List Int},aY p d (act e (cf f))->aY p d (act e (cf g))->aY p d (act e (cf (gcdL p k f g))):=by
  intro k
  induction k with
  |zero=>intro f g h _;exact h
  |succ k ih=>
   intro f g h h';rw[gcdL];split
   .exact h
   .rename_i h0;refine ih h' ?_;have:=h.sub (h'.act (bq p f g));refine this.Aq ?_;have hc:=(qD (p:=p) f h0).act e;rw[yE,uO e (bq p f g)]at hc;intro i;have:=Int.dvd_neg.2 (hc i);rwa[show∀x y z:Int, -(x-(y+z))=z-(x-y) by intros;omega]at this
 have k1:aY p d (act e (cf n)):=by refine h.Aq ?_;rw[dG];exact(aU hp n e).symm
 have k2:aY p d (act e (cf d)):=(aY.J3 p d).act e;have k3:aY p d (act e (cf (jk p n d))):=key _ k1 k2;have hs:=(DT hF hn.e hd.e hn.t hd.t (.inr hd0));have k4:aY p d (act e (cf [1])):=by have hq:aY p (jk p n d) (cf (bJ p n d)):=hs.2;rw[hg1]at hq;obtain⟨q,hq⟩:=hq;refine(k3.act q).Aq ?_;refine(hq.act e).trans ?_;rw[uO];exact aP.refl _ _
 refine k4.Aq ?_;rw[dG,yD];exact aP.refl _ _
open Go Go.RowKit
def QS(f:FuncId)(w:World)(v:Value)(z:Int):Prop:=∀(u:World) (l:Int),Ex w u->0<=l->l<=1048576->
 Calls prog f #[v,.int .i64 l] u λe u'=>e=.returned (.int .i64 (if l<z then -1 else l-z))/\Ex u u'
theorem fD.a_(h:aJ g w w'):fD g (g+1) w w':=⟨h.os,h.tape,h.output,h.size,λk hk ho=>h.block k hk (by intro e;injection e;omega)⟩
theorem VB.st2{t:TypeId}{a b:Value}(h:VB w g t #[a,b])(u0 u1:Value):VB ((w.setCell ⟨g,0,none⟩ u0).setCell ⟨g,1,none⟩ u1) g t #[u0,u1]/\aJ g w ((w.setCell ⟨g,0,none⟩ u0).setCell ⟨g,1,none⟩ u1):=
 ⟨(h.aX 0 u0).aX 1 u1,((aJ.refl g w).setCell (p:=⟨g,0,none⟩) rfl u0).setCell (p:=⟨g,1,none⟩) rfl u1⟩
theorem VB.ru{t:TypeId}{a b c:Value}(h:VB w g t #[a,b,c])(u0 u1 u2:Value):VB (((w.setCell ⟨g,0,none⟩ u0).setCell ⟨g,1,none⟩ u1).setCell ⟨g,2,none⟩ u2) g t #[u0,u1,u2]/\aJ g w (((w.setCell ⟨g,0,none⟩ u0).setCell ⟨g,1,none⟩ u1).setCell ⟨g,2,none⟩ u2):=
 ⟨((h.aX 0 u0).aX 1 u1).aX 2 u2,(((aJ.refl g w).setCell (p:=⟨g,0,none⟩) rfl u0).setCell (p:=⟨g,1,none⟩) rfl u1).setCell (p:=⟨g,2,none⟩) rfl u2⟩
def RI(w:World)(v:Value)(xs:List Int):Prop:=∃A c,v=.slice A xs.length c/\Rd w A xs
def dQ(xs:List Int):Int:=xs.length
def I9(k:Int)(xs:List Int):List Int:=mk k xs.length
theorem eX(xs:List Int):0<=dQ xs:=Int.natCast_nonneg _
theorem RI.ex(h:RI w v xs)(he:Ex w w'):RI w' v xs:=by obtain⟨A,c,e,r⟩:=h;exact⟨A,c,e,r.ex he⟩
theorem RI.form(h:RI w v xs):∃A n c,v=.slice A n c:=by obtain⟨A,c,e,r⟩:=h;exact⟨A,_,c,e⟩
theorem RI.tot(h:RI w v xs):dQ xs<=1125899906842624:=by obtain⟨A,c,e,r⟩:=h;have:=r.len;show((xs.length:Nat):Int)<=_;omega
def OI(w:World)(a b:Nat)(v:Value)(xs:List Int):Prop:=∃A c,v=.slice A xs.length c/\FI w a b A c xs
theorem OI.rd(h:OI w a b v xs):RI w v xs:=by obtain⟨A,c,e,r⟩:=h;exact⟨A,c,e,r.rd⟩
theorem OI.ex(h:OI w a b v xs)(he:Ex w w'):OI w' a b v xs:=by obtain⟨A,c,e,r⟩:=h;exact⟨A,c,e,r.ex he⟩
theorem OI.iv(h:OI w a b v xs)(k:fD a' b' w w')(hd:b<=a'∨b'<=a):OI w' a b v xs:=by obtain⟨A,c,e,r⟩:=h;exact⟨A,c,e,r.iv k hd⟩
theorem OI.e1(h:OI w a b v xs)(k:aJ g w w')(hd:g<a∨b<=g):OI w' a b v xs:=h.iv (fD.a_ k) (by omega)
theorem OI.more(h:OI w a b v xs)(ha:a'<=a)(hb:b<=b'):OI w a' b' v xs:=by obtain⟨A,c,e,r⟩:=h;exact⟨A,c,e,r.more ha hb⟩
theorem yJ(A:Option Addr)(n c:Nat)(w:World)(hm:n<=9223372036854775807):QS 14 w (.slice A n c) (n:Int):=λu l _ h0 hl=>by
 by_cases hb:l<(n:Int)
 .rw[amY hb];exact(Iz A c n l u hb hm h0 hl).mono λ_ _ ⟨h1,h2⟩=>⟨h1,by subst h2;exact asF _⟩
 .rw[amZ hb];exact(LK A c n l u (by omega) hl).mono λ_ _ ⟨h1,h2⟩=>⟨h1,by subst h2;exact asF _⟩
theorem toIntS_u(x:List Int)(v:Value)(w:World)(h:RI w v x):
 Calls prog 22 #[v] w λe w'=>∃y,e=.returned y/\OI w' w.heap.size w'.heap.size y x/\Ex w w':=by
 obtain⟨A,c,rfl,r⟩:=h;refine(toIntS_c A c x w r).mono ?_;rintro e w' ⟨g,rfl,hg,b,z⟩;exact⟨_,rfl,⟨_,_,rfl,(b.fr (B:=w.heap.size) r.len hg (amX _)).fi⟩,z⟩
theorem nu(x:List Int)(v u:Value)(w:World)(h:RI w v x)(h':RI w u x):
 Calls prog 32 #[v,u] w λe w'=>e=.returned (.bool true)/\Ex w w':=by
 obtain⟨A,c,rfl,r⟩:=h;obtain⟨A',c',rfl,r'⟩:=h';exact(Sn A A' c c' x w r r').mono λ_ _ h=>h
theorem kQ(lo hi:Nat)(x:List Int)(v:Value)(k:Int)(w:World)(h:OI w lo hi v x)(_:hi<=w.heap.size)(hk0:0<=k)(hk:k+dQ x<=4611686018427387904):
 Calls prog 34 #[v,.int .i64 k] w λe w'=>e=.returned (.int .i64 (k+dQ x))/\OI w' lo hi v (I9 k x)/\fD lo hi w w':=by
 obtain⟨A,c,rfl,r⟩:=h;have hn:=eX x;refine(I_ lo hi A c x k w r hk0 (by omega)).mono ?_;rintro e w' ⟨rfl,m,z⟩;exact⟨rfl,⟨A,c,by rw[I9,su],m⟩,z⟩
theorem zY(x:List Int)(v:Value)(k:Int)(w:World)(h:RI w v (I9 k x))(hk0:0<=k)(hk:k+dQ x<=4611686018427387904):
 Calls prog 102 #[v,.int .i64 k] w λe w'=>e=.returned (.int .i64 (k+dQ x))/\Ex w w':=by
 obtain⟨A,c,e,r⟩:=h;rw[I9,su]at e;subst e;have hn:=eX x;refine(Jq A c k x.length w r hk0 (by omega)).mono ?_;rintro e w' ⟨rfl,rfl⟩;exact⟨rfl,asF _⟩
structure aF where
 n:List Int
 d:List Int
def oz(w:World)(v0 v1:Value)(x:aF):Prop:=RI w v0 x.n/\RI w v1 x.d
def Dj(x:aF):Int:=dQ x.n+dQ x.d
def Wt(k:Int)(x:aF):aF:=⟨I9 (k) x.n,I9 (k+dQ x.n) x.d⟩
theorem LG(x:aF):0<=Dj x:=by unfold Dj;have h0:=eX x.n;have h1:=eX x.d;omega
theorem oz.ex{x:aF}(h:oz w v0 v1 x)(he:Ex w w'):oz w' v0 v1 x:=by obtain⟨h0,h1⟩:=h;exact⟨h0.ex he,h1.ex he⟩
theorem oz.form{x:aF}(h:oz w v0 v1 x):∃A0 n0 c0 A1 n1 c1,v0=.slice A0 n0 c0/\v1=.slice A1 n1 c1:=by obtain⟨h0,h1⟩:=h;obtain⟨A0,n0,c0,e0⟩:=h0.form;obtain⟨A1,n1,c1,e1⟩:=h1.form;exact⟨A0,n0,c0,A1,n1,c1,e0,e1⟩
def mr(w:World)(lo hi:Nat)(v0 v1:Value)(x:aF):Prop:=∃(a0 b0 a1 b1:Nat),OI w a0 b0 v0 x.n/\OI w a1 b1 v1 x.d/\lo<=a0/\b0<=hi/\lo<=a1/\b1<=hi/\(b0<=a1∨b1<=a0)
theorem mr.rd{x:aF}(h:mr w lo hi v0 v1 x):oz w v0 v1 x:=by obtain⟨a0,b0,a1,b1,m0,m1,c0,c1,c2,c3,c4⟩:=h;exact⟨m0.rd,m1.rd⟩
theorem mr.ex{x:aF}(h:mr w lo hi v0 v1 x)(he:Ex w w'):mr w' lo hi v0 v1 x:=by obtain⟨a0,b0,a1,b1,m0,m1,c0,c1,c2,c3,c4⟩:=h;exact⟨a0,b0,a1,b1,m0.ex he,m1.ex he,c0,c1,c2,c3,c4⟩
theorem mr.e1{x:aF}(h:mr w lo hi v0 v1 x)(q:aJ g w w')(hd:g<lo∨hi<=g):mr w' lo hi v0 v1 x:=by obtain⟨a0,b0,a1,b1,m0,m1,c0,c1,c2,c3,c4⟩:=h;exact⟨a0,b0,a1,b1,m0.e1 q (by omega),m1.e1 q (by omega),c0,c1,c2,c3,c4⟩
theorem mr.more{lo' hi':Nat}{x:aF}(h:mr w lo hi v0 v1 x)(h1:lo'<=lo)(h2:hi<=hi'):mr w lo' hi' v0 v1 x:=by obtain⟨a0,b0,a1,b1,m0,m1,c0,c1,c2,c3,c4⟩:=h;exact⟨a0,b0,a1,b1,m0,m1,by omega,by omega,by omega,by omega,by omega⟩
theorem D9(x:aF)(v0 v1 u0 u1:Value)(w:World)(h:oz w v0 v1 x)(h':oz w u0 u1 x):
 Calls prog 101 #[.agg #[v0,v1],.agg #[u0,u1]] w λe w'=>e=.returned (.bool true)/\Ex w w':=by
 obtain⟨x0,x1⟩:=x;obtain⟨h0,h1⟩:=h;obtain⟨g0,g1⟩:=h';dsimp only at h0 g0 h1 g1⊢;obtain⟨x1,d1⟩:=VB.xn w 51 #[v0,v1];have S1:=amW (show(w.alloc (.cells #[v0,v1] 51)).heap.size=w.heap.size+1 by simp);go_enter Tryz.func101,Tryz.ntmps101
 go_wp2_with fail
 generalize w.alloc (.cells #[v0,v1] 51)=W1 at*;obtain⟨y2,d2⟩:=VB.xn W1 51 #[u0,u1];rw[S1.out]at d2;generalize W1.alloc (.cells #[u0,u1] 51)=V0 at*;have xx:=x1.trans y2;have dA:=d1.ex y2;have dB:=d2;clear x1 d1 d2 y2 S1;refine(nu x0 v0 u0 V0 (h0.ex xx) (g0.ex xx)).mono ?_;rintro e V1 ⟨rfl,z0⟩;replace dA:=dA.ex z0;replace dB:=dB.ex z0;replace xx:=xx.trans z0;have q0:=dA.c1;have q1:=dB.c1;go_wp2_with fail
 clear q0 q1;refine(nu x1 v1 u1 V1 (h1.ex xx) (g1.ex xx)).mono ?_;rintro e V2 ⟨rfl,z1⟩;replace dA:=dA.ex z1;replace dB:=dB.ex z1;replace xx:=xx.trans z1;go_wp2;go_ret;exact⟨rfl,xx⟩
structure FV (p:Int) (x:aF):Prop where
 f:aj p=true
 n:PN p x.n
 d:PN p x.d
 d0:x.d≠[]
 mo:cf x.d (x.d.length-1)=1
 g:(bJ p x.n x.d).length=1
theorem FV.pos{x:aF}(h:FV p x):0<p:=by have:=au h.f;omega
def pX(p:Int)(N D:List Int):aF:=⟨aW p N D,aT p N D⟩
theorem FV.low(hF:aj p=true)(hN:PN p N)(hD:PN p D)(h0:D≠[]):FV p (pX p N D):=by obtain⟨h1,h2,h3,h4,h5,_,_,h6⟩:=vS hF hN.e hD.e hN.t hD.t h0;exact⟨hF,⟨h1,h3⟩,⟨h2,h4⟩,h5,h6,UU hF hN.e hD.e hN.t hD.t h0⟩
theorem zn(hp:0<p)(b:Int)(f g:List Int):ax p (aR p b f) g=aR p b (ax p f g):=by refine PN.eq hp (PN.mul hp _ _) (PN.scale hp _ _) ?_;rw[aH hp];refine(aU hp g _).trans (((iV hp b f).act g).trans ?_);rw[uM];refine aP.trans ?_ (iV hp b _).symm;refine aP.mul _ ?_;rw[<-dG];exact(aU hp f g).symm
theorem M8(hF:aj p=true)(hN:PN p N)(hD:PN p D)(h0:D≠[]):ax p (aW p N D) D=ax p N (aT p N D):=by
 have hp:0<p:=by have:=au hF;omega
 by_cases hn:N=[]
 .rw[aW,aT,amY hn,amY hn,hn,dR,dR]
 .have hg0:=jM hF hN.e hD.e hN.t hD.t (.inr h0);have hge:=kr (p:=p) hp N D;have hgt:=lH p N D;have hdiv:=qa hF hN.e hD.e hN.t hD.t (.inr h0);have e1:N=ax p (bq p N (bJ p N D)) (bJ p N D):=PN.eq hp hN (PN.mul hp _ _) ((qA hF hN.e hge hgt hg0 hdiv.1).trans (aU hp _ _).symm);have e2:D=ax p (bW p N D) (bJ p N D):=PN.eq hp hD (PN.mul hp _ _) ((qA hF hD.e hge hgt hg0 hdiv.2).trans (aU hp _ _).symm);have eN:aW p N D=aR p (iB p N D) (bq p N (bJ p N D)):=by rw[aW,amZ hn]
  have eD:aT p N D=aR p (iB p N D) (bW p N D):=by rw[aT,amZ hn]
  rw[eN,eD,zn hp,aH hp N,zn hp];congr 1;generalize bW p N D=u at*;generalize bq p N (bJ p N D)=v at*;generalize bJ p N D=g at*;rw[e1,e2,aH hp v g,<-bE hp u g v,aH hp v]
def dn(p:Int)(x:aF)(N D:List Int):Prop:=ax p x.n D=ax p N x.d
theorem dn.self(p:Int)(x:aF):dn p x x.n x.d:=rfl
theorem dn.low(hF:aj p=true)(hN:PN p N)(hD:PN p D)(h0:D≠[]):dn p (pX p N D) N D:=M8 hF hN hD h0
theorem qi{x y:aF}(hx:FV p x)(hy:FV p y)(h:ax p x.n y.d=ax p y.n x.d):x=y:=by
 have hp:=hx.pos;have h1:aY p x.d (cf y.d):=wT hx.f hx.n hx.d hx.d0 hx.g (by rw[h];exact⟨y.n,aU hp _ _⟩);have h2:aY p y.d (cf x.d):=wT hx.f hy.n hy.d hy.d0 hy.g (by rw[<-h];exact⟨x.n,aU hp _ _⟩);have hd:x.d=y.d:=aY.aaG hx.f hx.d.e hx.d.t hx.d0 hy.d.e hy.d.t hy.d0 h1 h2 hx.mo hy.mo;have hn:x.n=y.n:=by refine pU hx.f hx.d hx.n hy.n hx.d0 ?_;rw[aH hp x.d,aH hp x.d,<-h,hd]
 obtain⟨xn,xd⟩:=x;obtain⟨yn,yd⟩:=y;simp only at hn hd;rw[hn,hd]
theorem dn.uniq{x y:aF}(hx:FV p x)(hy:FV p y)(hD:PN p D)(h0:D≠[])(h:dn p x N D)(k:dn p y N D):x=y:=by
 have hp:=hx.pos;refine qi hx hy (pU hx.f hD (PN.mul hp _ _) (PN.mul hp _ _) h0 ?_);unfold dn at h k;have a1:ax p D (ax p x.n y.d)=ax p (ax p x.n D) y.d:=by rw[<-bE hp,aH hp D]
 have a2:ax p D (ax p y.n x.d)=ax p (ax p y.n D) x.d:=by rw[<-bE hp,aH hp D]
 rw[a1,a2,h,k,bE hp,bE hp,aH hp x.d]
theorem dn.change{x:aF}(hx:FV p x){N' D':List Int}(hD:PN p D)(h0:D≠[])(h:dn p x N D)(e:ax p N D'=ax p N' D):dn p x N' D':=by
 have hp:=hx.pos;refine pU hx.f hD (PN.mul hp _ _) (PN.mul hp _ _) h0 ?_;unfold dn at h;have a1:ax p D (ax p x.n D')=ax p (ax p x.n D) D':=by rw[<-bE hp,aH hp D]
 have a2:ax p D (ax p N' x.d)=ax p (ax p N' D) x.d:=by rw[<-bE hp,aH hp D]
 rw[a1,a2,h,<-e,bE hp,bE hp,aH hp x.d]
def eO(p:Int)(x y:aF):aF:=pX p (bL p (ax p x.n y.d) 1 (ax p y.n x.d)) (ax p x.d y.d)
def eG(p:Int)(x y:aF):aF:=pX p (ax p x.n y.n) (ax p x.d y.d)
def aV(p:Int)(x:aF):aF:=⟨je p x.n,x.d⟩
def mX(p:Int)(x:aF):aF:=pX p x.d x.n
def zF:aF:=⟨[],[1]⟩
def oF:aF:=⟨[1],[1]⟩
def ig(x:aF):Bool:=x.n.isEmpty
theorem dM{x:aF}:ig x=true↔x.n=[]:=List.isEmpty_iff
theorem FV.add{x y:aF}(hx:FV p x)(hy:FV p y):FV p (eO p x y):=
 FV.low hx.f ((PN.mul hx.pos _ _).add hx.pos _ _) (PN.mul hx.pos _ _) (bX hx.f hx.d hy.d hx.d0 hy.d0)
theorem FV.mul{x y:aF}(hx:FV p x)(hy:FV p y):FV p (eG p x y):=
 FV.low hx.f (PN.mul hx.pos _ _) (PN.mul hx.pos _ _) (bX hx.f hx.d hy.d hx.d0 hy.d0)
theorem FV.inv{x:aF}(hx:FV p x)(h0:x.n≠[]):FV p (mX p x):=FV.low hx.f hx.d hx.n h0
theorem FV.one_den(hF:aj p=true){n:List Int}(hn:PN p n):FV p ⟨n,[1]⟩:=by have h2:=au hF;have h1:=PN.one (p:=p) h2;have hl:=mY hF hn.e h1.e hn.t h1.t (.inr (by simp));have hd:=qa hF hn.e h1.e hn.t h1.t (.inr (by simp));have hg0:=jM hF hn.e h1.e hn.t h1.t (.inr (by simp));refine⟨hF,hn,h1,by simp,rfl,?_⟩;obtain⟨q,_,_,hq0,_,hle⟩:=aY.le hF (kr (p:=p) (by omega) n [1]) (lH p n [1]) hg0 h1.e h1.t (by simp) hd.2;have l1:=ana.2 hq0;have l2:=ana.2 hg0;simp at hle;show(bJ p n [1]).length=1;omega
theorem FV.zero(hF:aj p=true):FV p zF:=FV.one_den hF (PN.nil p)
theorem FV.one(hF:aj p=true):FV p oF:=FV.one_den hF (PN.one (au hF))
theorem dn.add{x y:aF}(hx:FV p x)(hy:FV p y){M E:List Int}(_:PN p N)(_:PN p M)(h:dn p x N D)(k:dn p y M E):dn p (eO p x y) (bL p (ax p N E) 1 (ax p M D)) (ax p D E):=by
 have hp:=hx.pos;have hd:=bX hx.f hx.d hy.d hx.d0 hy.d0;have hl:=dn.low hx.f ((PN.mul hp x.n y.d).add hp 1 (ax p y.n x.d)) (PN.mul hp x.d y.d) hd;refine dn.change (hx.add hy) (PN.mul hp _ _) hd hl ?_;unfold dn at h k;rw[mO hp _ (PN.mul hp _ _),mO hp _ (PN.mul hp _ _)];have ha:Std.Associative (ax p):=⟨bE hp⟩;have hc:Std.Commutative (ax p):=⟨aH hp⟩;have e1:ax p (ax p x.n y.d) (ax p D E)=ax p (ax p N E) (ax p x.d y.d):=by
  have:ax p (ax p x.n y.d) (ax p D E)=ax p (ax p x.n D) (ax p y.d E):=by ac_rfl
  rw[this,h];ac_rfl
 have e2:ax p (ax p y.n x.d) (ax p D E)=ax p (ax p M D) (ax p x.d y.d):=by
  have:ax p (ax p y.n x.d) (ax p D E)=ax p (ax p y.n E) (ax p x.d D):=by ac_rfl
  rw[this,k];ac_rfl
 rw[e1,e2]
theorem dn.mul{x y:aF}(hx:FV p x)(hy:FV p y){M E:List Int}(h:dn p x N D)(k:dn p y M E):dn p (eG p x y) (ax p N M) (ax p D E):=by
 have hp:=hx.pos;have hd:=bX hx.f hx.d hy.d hx.d0 hy.d0;have hl:=dn.low hx.f (PN.mul hp x.n y.n) (PN.mul hp x.d y.d) hd;refine dn.change (hx.mul hy) (PN.mul hp _ _) hd hl ?_;unfold dn at h k;have ha:Std.Associative (ax p):=⟨bE hp⟩;have hc:Std.Commutative (ax p):=⟨aH hp⟩;have e1:ax p (ax p x.n y.n) (ax p D E)=ax p (ax p x.n D) (ax p y.n E):=by ac_rfl
 rw[e1,h,k];ac_rfl
theorem FV.neg{x:aF}(hx:FV p x):FV p (aV p x):=by
 have hp:=hx.pos;refine⟨hx.f,PN.neg hp _,hx.d,hx.d0,hx.mo,?_⟩;have hn:=PN.neg hp x.n;have hd:=qa hx.f hn.e hx.d.e hn.t hx.d.t (.inr hx.d0);have hg0:=jM hx.f hn.e hx.d.e hn.t hx.d.t (.inr hx.d0);have hxn:aY p (bJ p (je p x.n) x.d) (cf x.n):=by
  have hnn:je p (je p x.n)=x.n:=by refine wJ hp hn (PN.neg hp _) hx.n ?_;rw[kP hp,jC hp hn (PN.neg hp _),kP hp]
  have:=(BV hp (p-1) (je p x.n)).trans hd.1;have e:aR p (p-1) (je p x.n)=x.n:=hnn;rwa[e]at this
 have h1:=KL hx.f hx.n.e hx.d.e hx.n.t hx.d.t (.inr hx.d0) hxn hd.2;have hg1:=Aa hx.f hx.n.e hx.d.e hx.n.t hx.d.t hx.d0 hx.g;rw[hg1]at h1;have h2:=au hx.f;obtain⟨q,_,_,hq0,_,hle⟩:=aY.le hx.f (kr (p:=p) hp _ _) (lH p _ _) hg0 (Ea h2) OW (by simp) h1;have l1:=ana.2 hq0;have l2:=ana.2 hg0;simp at hle;show(bJ p (je p x.n) x.d).length=1;omega
def FY(p:Int)(x:{x:aF // FV p x}):{x:aF // FV p x}:=if h:x.1.n=[]then x else⟨mX p x.1,x.2.inv h⟩
def ay(p:Int)(hF:aj p=true):aL {x:aF // FV p x} where
 add x y:=⟨eO p x.1 y.1,x.2.add y.2⟩
 mul x y:=⟨eG p x.1 y.1,x.2.mul y.2⟩
 neg x:=⟨aV p x.1,x.2.neg⟩
 inv x:=FY p x
 z:=⟨zF,FV.zero hF⟩
 o:=⟨oF,FV.one hF⟩
 jq x:=ig x.1
 add_comm x y:=ano (by
  have hp:=x.2.pos;show pX p _ _=pX p _ _;rw[jC hp (PN.mul hp _ _) (PN.mul hp _ _),aH hp x.1.d])
 add_assoc x y z:=ano (by
  have hp:=x.2.pos;have ha:Std.Associative (ax p):=⟨bE hp⟩;have hc:Std.Commutative (ax p):=⟨aH hp⟩;have hxy:=dn.add x.2 y.2 x.2.n y.2.n (dn.self p _) (dn.self p _);have hyz:=dn.add y.2 z.2 y.2.n z.2.n (dn.self p _) (dn.self p _);have h1:=dn.add (x.2.add y.2) z.2 ((PN.mul hp _ _).add hp 1 _) z.2.n hxy (dn.self p z.1);have h2:=dn.add x.2 (y.2.add z.2) x.2.n ((PN.mul hp _ _).add hp 1 _) (dn.self p x.1) hyz;refine dn.uniq ((x.2.add y.2).add z.2) (x.2.add (y.2.add z.2)) (PN.mul hp _ _) (bX x.2.f (PN.mul hp _ _) z.2.d (bX x.2.f x.2.d y.2.d x.2.d0 y.2.d0) z.2.d0) h1 ?_;have e1:ax p x.1.d (ax p y.1.d z.1.d)=ax p (ax p x.1.d y.1.d) z.1.d:=(bE hp _ _ _).symm;rw[e1]at h2;rw[mO hp _ (PN.mul hp _ _)];rw[mO hp _ (PN.mul hp _ _),<-zu hp (PN.mul hp _ _) (PN.mul hp _ _)]at h2;have e2:ax p x.1.n (ax p y.1.d z.1.d)=ax p (ax p x.1.n y.1.d) z.1.d:=by ac_rfl
  have e3:ax p (ax p y.1.n z.1.d) x.1.d=ax p (ax p y.1.n x.1.d) z.1.d:=by ac_rfl
  have e4:ax p (ax p z.1.n y.1.d) x.1.d=ax p z.1.n (ax p x.1.d y.1.d):=by ac_rfl
  rw[e2,e3,e4]at h2;exact h2)
 bG x:=ano (by
  have hp:=x.2.pos;have h2:=au hF;have h1:=dn.add (FV.zero hF) x.2 (PN.nil p) x.2.n (dn.self p zF) (dn.self p x.1);refine dn.uniq ((FV.zero hF).add x.2) x.2 x.2.d x.2.d0 ?_ (dn.self p x.1);rw[dR,jC hp (PN.nil p) (PN.mul hp _ _),zq hp (PN.mul hp _ _)]at h1;have e1:ax p x.1.n zF.d=x.1.n:=dS h2 x.2.n;have e2:ax p zF.d x.1.d=x.1.d:=by rw[aH hp];exact dS h2 x.2.d
  rw[e1,e2]at h1;exact h1)
 neg_add x:=ano (by
  have hp:=x.2.pos;have h1:=dn.add x.2.neg x.2 (PN.neg hp _) x.2.n (dn.self p _) (dn.self p x.1);have hd:=bX hF x.2.d x.2.d x.2.d0 x.2.d0;refine dn.uniq (x.2.neg.add x.2) (FV.zero hF) (PN.mul hp x.1.d x.1.d) hd h1 ?_;have e:bL p (ax p (je p x.1.n) x.1.d) 1 (ax p x.1.n (aV p x.1).d)=[]:=by show bL p (ax p (je p x.1.n) x.1.d) 1 (ax p x.1.n x.1.d)=[];rw[Fj hp,kP hp]
  show ax p [] _=ax p _ [1];rw[e,dR,dR])
 mul_comm x y:=ano (by
  have hp:=x.2.pos;show pX p _ _=pX p _ _;rw[aH hp x.1.n,aH hp x.1.d])
 mul_assoc x y z:=ano (by
  have hp:=x.2.pos;have h1:=dn.mul (x.2.mul y.2) z.2 (dn.mul x.2 y.2 (dn.self p _) (dn.self p _)) (dn.self p z.1);have h2:=dn.mul x.2 (y.2.mul z.2) (dn.self p x.1) (dn.mul y.2 z.2 (dn.self p _) (dn.self p _));rw[<-bE hp,<-bE hp]at h2;exact dn.uniq ((x.2.mul y.2).mul z.2) (x.2.mul (y.2.mul z.2)) (PN.mul hp _ _) (bX x.2.f (PN.mul hp _ _) z.2.d (bX x.2.f x.2.d y.2.d x.2.d0 y.2.d0) z.2.d0) h1 h2)
 bB x:=ano (by
  have hp:=x.2.pos;have h2:=au hF;have h1:=dn.mul (FV.one hF) x.2 (dn.self p oF) (dn.self p x.1);have e1:ax p oF.n x.1.n=x.1.n:=by rw[aH hp];exact dS h2 x.2.n
  have e2:ax p oF.d x.1.d=x.1.d:=by rw[aH hp];exact dS h2 x.2.d
  rw[e1,e2]at h1;exact dn.uniq ((FV.one hF).mul x.2) x.2 x.2.d x.2.d0 h1 (dn.self p x.1))
 distrib x y z:=ano (by
  have hp:=x.2.pos;have ha:Std.Associative (ax p):=⟨bE hp⟩;have hc:Std.Commutative (ax p):=⟨aH hp⟩;have h1:=dn.mul x.2 (y.2.add z.2) (dn.self p x.1) (dn.add y.2 z.2 y.2.n z.2.n (dn.self p _) (dn.self p _));have h2:=dn.add (x.2.mul y.2) (x.2.mul z.2) (PN.mul hp _ _) (PN.mul hp _ _) (dn.mul x.2 y.2 (dn.self p _) (dn.self p _)) (dn.mul x.2 z.2 (dn.self p _) (dn.self p _));have d1:=bX x.2.f x.2.d (PN.mul hp y.1.d z.1.d) x.2.d0 (bX x.2.f y.2.d z.2.d y.2.d0 z.2.d0);have d2:=bX x.2.f (PN.mul hp x.1.d y.1.d) (PN.mul hp x.1.d z.1.d) (bX x.2.f x.2.d y.2.d x.2.d0 y.2.d0) (bX x.2.f x.2.d z.2.d x.2.d0 z.2.d0);refine dn.uniq (x.2.mul (y.2.add z.2)) ((x.2.mul y.2).add (x.2.mul z.2)) (PN.mul hp _ _) d2 (dn.change (x.2.mul (y.2.add z.2)) (PN.mul hp _ _) d1 h1 ?_) h2;rw[zo hp _ (PN.mul hp _ _),mO hp _ (PN.mul hp _ _),mO hp _ (PN.mul hp _ _)];have e1:ax p (ax p x.1.n (ax p y.1.n z.1.d)) (ax p (ax p x.1.d y.1.d) (ax p x.1.d z.1.d))=ax p (ax p (ax p x.1.n y.1.n) (ax p x.1.d z.1.d)) (ax p x.1.d (ax p y.1.d z.1.d)):=by ac_rfl
  have e2:ax p (ax p x.1.n (ax p z.1.n y.1.d)) (ax p (ax p x.1.d y.1.d) (ax p x.1.d z.1.d))=ax p (ax p (ax p x.1.n z.1.n) (ax p x.1.d y.1.d)) (ax p x.1.d (ax p y.1.d z.1.d)):=by ac_rfl
  rw[e1,e2])
 inv_mul x hx:=ano (by
  have hp:=x.2.pos;have hn:x.1.n≠[]:=λe=>hx (ano (qi x.2 (FV.zero hF) (by rw[e,dR];exact(dR p _).symm)))
  have hi:FY p x=⟨mX p x.1,x.2.inv hn⟩:=by rw[FY,dif_neg hn]
  rw[hi];have h1:=dn.mul (x.2.inv hn) x.2 (dn.low hF x.2.d x.2.n hn) (dn.self p x.1);have hd:=bX hF x.2.n x.2.d hn x.2.d0;refine dn.uniq ((x.2.inv hn).mul x.2) (FV.one hF) (PN.mul hp _ _) hd h1 ?_;show ax p [1] _=ax p _ [1];rw[aH hp [1],aH hp x.1.d])
 MV e:=by have:=congrArg (λx=>x.1.n) e;simp[oF,zF]at this
 dZ x:=by
  rw[dM];constructor
  .intro e;exact ano (qi x.2 (FV.zero hF) (by rw[e,dR];exact(dR p _).symm))
  .intro e;rw[e];rfl
def ah(p:Int):Ops aF:=⟨eO p,eG p,aV p,mX p,zF,oF,ig⟩
theorem jl(p:Int)(hF:aj p=true):iN (ay p hF).toOps (ah p) Subtype.val where
 add _ _:=rfl
 mul _ _:=rfl
 neg _:=rfl
 inv x hx:=by
  have hn:x.1.n≠[]:=λe=>by have:ig x.1=true:=dM.2 e;have h2:ig x.1=false:=hx;rw[this]at h2;cases h2
  show mX p x.1=(FY p x).1;rw[FY,dif_neg hn]
 z:=rfl
 o:=rfl
 jq _:=rfl
structure bn (S:Nat->Prop) (w w':World):Prop where
 os:w'.os=w.os
 tape:w'.tape=w.tape
 output:w'.output=w.output
 size:w.heap.size<=w'.heap.size
 block:∀k,k<w.heap.size->¬S k->w'.heap[k]?=w.heap[k]?
theorem bn.refl(S:Nat->Prop)(w:World):bn S w w:=⟨rfl,rfl,rfl,amX _,λ_ _ _=>rfl⟩
theorem bn.trans{u v:World}(h:bn S u v)(k:bn T v w)(hT:∀i,i<u.heap.size->T i->S i):bn S u w:=
 ⟨k.os.trans h.os,k.tape.trans h.tape,k.output.trans h.output,anb h.size k.size,λi hi hn=>(k.block i (anq hi h.size) (λht=>hn (hT i hi ht))).trans (h.block i hi hn)⟩
theorem bn.aN{v:World}(h:Ex v w):bn S v w:=⟨h.os,h.tape,h.output,h.size,λ_ hi _=>h.block hi⟩
theorem bn.widen{v:World}(h:bn S v w)(hT:∀i,i<v.heap.size->S i->T i):bn T v w:=⟨h.os,h.tape,h.output,h.size,λk hk ho=>h.block k hk λhs=>ho (hT k hk hs)⟩
theorem bn.a_{v:World}(h:aJ g v w)(hg:S g):bn S v w:=⟨h.os,h.tape,h.output,h.size,λk hk hn=>h.block k hk (by intro e;injection e with e;subst e;exact hn hg)⟩
theorem bn.exi{v:World}(h:bn S v w)(hS:∀k,S k->a<=k/\k<b):fD a b v w:=⟨h.os,h.tape,h.output,h.size,λk hk hn=>h.block k hk λhs=>by have:=hS k hs;omega⟩
theorem bn.XY{v:World}(h:fD a b v w):bn (λk=>a<=k/\k<b) v w:=⟨h.os,h.tape,h.output,h.size,λk hk hn=>h.block k hk (by omega)⟩
theorem Ex.sx{b v:World}(h:Ex b v)(k:bn S v w)(hS:∀i,S i->b.heap.size<=i):Ex b w:=
 ⟨k.os.trans h.os,k.tape.trans h.tape,k.output.trans h.output,anb h.size k.size,λi hi=>(k.block i (anq hi h.size) (λhs=>by have:=hS i hs;omega)).trans (h.block hi)⟩
def XI(w:World)(S:Nat->Prop)(v:Value)(xs:List Int):Prop:=∃A c,v=.slice A xs.length c/\Fr w 0 A c xs/\∀a,A=some a->S a.block
theorem XI.rd(h:XI w S v xs):RI w v xs:=by obtain⟨A,c,e,f,_⟩:=h;exact⟨A,c,e,f.rd⟩
theorem XI.keep(h:XI w S v xs)(hk:∀k,S k->k<w.heap.size->w'.heap[k]?=w.heap[k]?):XI w' S v xs:=by
 obtain⟨A,c,e,f,hs⟩:=h;have hk':∀ad:Addr,A=some ad->ad.block<w.heap.size->w'.heap[ad.block]?=w.heap[ad.block]?:=λad e hl=>hk _ (hs ad e) hl
 exact⟨A,c,e,⟨f.rd.keep hk',f.cap,λad e=>by
  obtain⟨h1,cur,h2⟩:=f.2.2 ad e;exact⟨h1,cur,(hk' ad e (aC h2)).trans h2⟩⟩,hs⟩
theorem XI.mono(h:XI w S v xs)(hT:∀k,k<w.heap.size->S k->T k):XI w T v xs:=by
 obtain⟨A,c,e,f,hs⟩:=h;exact⟨A,c,e,f,λa ha=>by
  obtain⟨_,cur,h2⟩:=f.2.2 a ha;exact hT _ (aC h2) (hs a ha)⟩
theorem OI.xi(h:OI w a b v xs):XI w (λk=>a<=k/\k<b) v xs:=by obtain⟨A,c,e,f⟩:=h;exact⟨A,c,e,f.fr.more (am4 _),λad e=>⟨f.fr.hi ad e,f.lo ad e⟩⟩
section
theorem jS{o:Nat}(k:fD a b w w')(hc:w.cell? ⟨g,o,none⟩=some v)(hd:g<a∨b<=g):w'.cell? ⟨g,o,none⟩=some v:=
 (anm (w:=w) (a:=⟨g,o,none⟩) (k.block g (iM (p:=⟨g,o,none⟩) hc) hd)).trans hc
structure EK (α:Type) where
 k:Nat
 R:World->List Value->α->Prop
 O:World->Nat->Nat->List Value->α->Prop
 tot:α->Int
 A_:Int->α->α
 lN:∀{w vs x},R w vs x->vs.length=k
 ex:∀{w w' vs x},R w vs x->Ex w w'->R w' vs x
 rd:∀{w a b vs x},O w a b vs x->R w vs x
 keep:∀{w w':World} {a b vs x},O w a b vs x->(∀k,a<=k->k<b->k<w.heap.size->w'.heap[k]?=w.heap[k]?)->O w' a b vs x
 nn:∀x,0<=tot x
 tmk:∀k x,tot (A_ k x)=tot x
variable {α : Type}
theorem EK.UG(E:EK α){vs:List Value}{x:α}(h:E.O w a b vs x)(he:Ex w w'):E.O w' a b vs x:=E.keep h λ_ _ _ hk=>he.block hk
theorem EK.oiv(E:EK α){vs:List Value}{x:α}(h:E.O w a b vs x)(k:fD a' b' w w')(hd:b<=a'∨b'<=a):E.O w' a b vs x:=E.keep h λi h1 h2 hk=>k.block i hk (by omega)
def gm(E:EK α)(w:World)(A:Option Addr)(xs:List α):Prop:=
 xs.length<=1099511627776/\∀(j:Nat) (x:α),xs[j]?=some x->∃g off vs,A=some ⟨g,off,none⟩/\(∀(i:Nat) (u:Value),vs[i]?=some u->w.cell? ⟨g,off+j*E.k+i,none⟩=some u)/\E.R w vs x
theorem gm.ex{E:EK α}{xs:List α}(h:gm E w A xs)(he:Ex w w'):gm E w' A xs:=⟨h.1,λj x hj=>by
 obtain⟨g,off,vs,hA,hc,hr⟩:=h.2 j x hj;exact⟨g,off,vs,hA,λi u hi=>af he (hc i u hi),E.ex hr he⟩⟩
theorem gm.at_{E:EK α}{xs:List α}(h:gm E w A xs)(hj:j<xs.length):
 ∃g off vs x,A=some ⟨g,off,none⟩/\xs[j]?=some x/\(∀(i:Nat) (u:Value),vs[i]?=some u->w.cell? ⟨g,off+j*E.k+i,none⟩=some u)/\E.R w vs x:=by
 obtain⟨g,off,vs,hA,hc,hr⟩:=h.2 j _ (am0 hj);exact⟨g,off,vs,_,hA,am0 hj,hc,hr⟩
def BL(E:EK α)(t:TypeId)(w:World)(lo hi:Nat)(A:Option Addr)(xs:List α):Prop:=
 xs.length<=1099511627776/\∃(al bl:Nat->Nat),(∀(j:Nat) (x:α),xs[j]?=some x->∃g off vs cur,A=some ⟨g,off,none⟩/\lo<=g/\g<hi/\w.heap[g]?=some (.cells cur t (0,0))/\
  (∀(i:Nat) (u:Value),vs[i]?=some u->cur[off+j*E.k+i]?=some u)/\E.O w (al j) (bl j) vs x/\lo<=al j/\bl j<=hi/\(g<al j∨bl j<=g))/\
  ∀i j,i<xs.length->j<xs.length->i≠j->(bl i<=al j∨bl j<=al i)
theorem dF{cur:Array Value}{t:TypeId}(h:w.heap[g]?=some (.cells cur t (0,0)))(hi:cur[i]?=some u):w.cell? ⟨g,i,none⟩=some u:=by simp[World.cell?,h,hi]
theorem BL.rd{E:EK α}{t:TypeId}{xs:List α}(h:BL E t w lo hi A xs):gm E w A xs:=by obtain⟨hl,al,bl,h1,_⟩:=h;refine⟨hl,λj x hj=>?_⟩;obtain⟨g,off,vs,cur,hA,_,_,hh,hc,ho,_⟩:=h1 j x hj;exact⟨g,off,vs,hA,λi u hi=>dF hh (hc i u hi),E.rd ho⟩
theorem BL.ex{E:EK α}{t:TypeId}{xs:List α}(h:BL E t w lo hi A xs)(he:Ex w w'):BL E t w' lo hi A xs:=by obtain⟨hl,al,bl,k1,k2⟩:=h;refine⟨hl,al,bl,λj r hj=>?_,k2⟩;obtain⟨g,off,vs,cur,hA,hg1,hg2,hh,hc,ho,hr⟩:=k1 j r hj;exact⟨g,off,vs,cur,hA,hg1,hg2,(he.block (aC hh)).trans hh,hc,E.UG ho he,hr⟩
theorem BL.iv{E:EK α}{t:TypeId}{xs:List α}(h:BL E t w lo hi A xs)(k:fD a b w w')(hd:hi<=a∨b<=lo):BL E t w' lo hi A xs:=by obtain⟨hl,al,bl,k1,k2⟩:=h;refine⟨hl,al,bl,λj r hj=>?_,k2⟩;obtain⟨g,off,vs,cur,hA,hg1,hg2,hh,hc,ho,ha,hb,hd'⟩:=k1 j r hj;exact⟨g,off,vs,cur,hA,hg1,hg2,(k.block g (aC hh) (by omega)).trans hh,hc,E.oiv ho k (by omega),ha,hb,hd'⟩
structure oZ (g s e a b:Nat) (t:TypeId) (w w':World):Prop where
 os:w'.os=w.os
 tape:w'.tape=w.tape
 output:w'.output=w.output
 size:w.heap.size<=w'.heap.size
 block:∀k,k<w.heap.size->k≠g->(k<a∨b<=k)->w'.heap[k]?=w.heap[k]?
 row:∀cur,w.heap[g]?=some (.cells cur t (0,0))->∃cur':Array Value,w'.heap[g]?=some (.cells cur' t (0,0))/\∀q,(q<s∨e<=q)->cur'[q]?=cur[q]?
theorem oZ.refl(g s e a b:Nat)(t:TypeId)(w:World):oZ g s e a b t w w:=⟨rfl,rfl,rfl,amX _,λ_ _ _ _=>rfl,λcur h=>⟨cur,h,λ_ _=>rfl⟩⟩
theorem oZ.set{t:TypeId}{v:World}(h:oZ g s e a b t v w){o:Nat}(hs:s<=o)(he:o<e)(u:Value):oZ g s e a b t v (w.setCell ⟨g,o,none⟩ u):=by have hb:=Below.heap_setCell w ⟨g,o,none⟩ u;refine⟨h.os,h.tape,h.output,by simpa[World.setCell]using h.size,λk hk hn hd=>(hb k (λe=>hn (e▸rfl))).trans (h.block k hk hn hd),λcur hc=>?_⟩;obtain⟨cur',h1,h2⟩:=h.row cur hc;refine⟨cur'.setIfInBounds o u,by simp[World.setCell,aoa,h1],λq hq=>?_⟩;rw[anI,amZ (by omega)];exact h2 q hq
theorem oZ.iv{t:TypeId}{v:World}(h:oZ g s e a b t v w)(k:fD a' b' w w')(ha:a<=a')(hb:b'<=b)(hg:g<a∨b<=g)(_:g<v.heap.size):oZ g s e a b t v w':=
 ⟨k.os.trans h.os,k.tape.trans h.tape,k.output.trans h.output,anb h.size k.size,λi hi hn hd=>(k.block i (anq hi h.size) (by omega)).trans (h.block i hi hn hd),λcur hc=>by
  obtain⟨cur',h1,h2⟩:=h.row cur hc;exact⟨cur',(k.block g (aC h1) (by omega)).trans h1,h2⟩⟩
theorem oZ.exi{t:TypeId}{v:World}(h:oZ g s e a b t v w)(h1:lo<=g)(h2:g<hi)(h3:lo<=a)(h4:b<=hi):fD lo hi v w:=
 ⟨h.os,h.tape,h.output,h.size,λk hk hd=>h.block k hk (by omega) (by omega)⟩
theorem BL.row{E:EK α}{t:TypeId}{xs:List α}(h:BL E t w lo hi A xs){x:α}(hi':xs[i]?=some x):
 ∃g off vs a b cur,A=some ⟨g,off,none⟩/\w.heap[g]?=some (.cells cur t (0,0))/\(∀(q:Nat) (u:Value),vs[q]?=some u->w.cell? ⟨g,off+i*E.k+q,none⟩=some u)/\E.O w a b vs x/\lo<=g/\g<hi/\lo<=a/\b<=hi/\(g<a∨b<=g)/\
  ∀w' vs' x',oZ g (off+i*E.k) (off+i*E.k+E.k) a b t w w'->(∀(q:Nat) (u:Value),vs'[q]?=some u->w'.cell? ⟨g,off+i*E.k+q,none⟩=some u)->E.O w' a b vs' x'->BL E t w' lo hi A (xs.set i x'):=by
 obtain⟨hl,al,bl,k1,k2⟩:=h;have hlt:=(am2.1 hi').1;obtain⟨g,off,vs,cur,hA,hg1,hg2,hh,hc,ho,ha,hb,hd⟩:=k1 i x hi';refine⟨g,off,vs,al i,bl i,cur,hA,hh,λq u hq=>dF hh (hc q u hq),ho,hg1,hg2,ha,hb,hd,λw' vs' x' T hc' ho'=>⟨by simpa using hl,al,bl,λj y hj=>?_,by simpa using k2⟩⟩;obtain⟨cur',hh',hsame⟩:=T.row cur hh;rw[ang]at hj;split at hj
 .rename_i e;subst e;injection hj with hj;subst hj;refine⟨g,off,vs',cur',hA,hg1,hg2,hh',λq u hq=>?_,ho',ha,hb,hd⟩;have:=hc' q u hq;simpa[World.cell?,hh']using this
 .rename_i e;have hjl:=(am2.1 hj).1;obtain⟨g2,off2,vs2,VF,hA2,_,_,Gi,hc2,ho2,ha2,hb2,hd2⟩:=k1 j y hj;rw[hA]at hA2;injection hA2 with hA2;injection hA2 with e1 e2 _;subst e1 e2;rw[hh]at Gi;injection Gi with Gi;injection Gi with Gi _ _;subst Gi;have hlen:=E.lN (E.rd ho2);refine⟨g,off,vs2,cur',hA,hg1,hg2,hh',λq u hq=>?_,?_,ha2,hb2,hd2⟩
  .have Rn:q<E.k:=by rw[<-hlen];exact(am2.1 hq).1
   rw[hsame _ ?_]
   .exact hc2 q u hq
   .rcases Nat.lt_or_gt_of_ne e with h|h
    .right;have:=an6 E.k (show i+1<=j from h);rw[aow,aox]at this;omega
    .left;have:=an6 E.k (show j+1<=i from h);rw[aow,aox]at this;omega
  .have hdis:=k2 i j hlt hjl e;exact E.keep ho2 λk hk1 hk2 hk=>T.block k hk (by omega) (by omega)
def bP(E:EK α)(xs:List α):Int:=(xs.map E.tot).sum
def mkS(E:EK α):Int->List α->List α
 |_,[]=>[]
 |k,x::xs=>E.A_ k x::mkS E (k+E.tot x) xs
theorem kG(E:EK α)(x:α)(xs:List α):bP E (x::xs)=E.tot x+bP E xs:=by simp[bP]
theorem g_(E:EK α):∀xs:List α,0<=bP E xs
 |[]=>by simp[bP]
 |x::xs=>by rw[kG];have:=E.nn x;have:=g_ E xs;omega
theorem dW(E:EK α):∀(k:Int) (xs:List α),(mkS E k xs).length=xs.length
 |_,[]=>rfl
 |k,x::xs=>by rw[mkS,anJ,dW,anJ]
theorem xS(E:EK α):∀(k:Int) (xs:List α),bP E (mkS E k xs)=bP E xs
 |_,[]=>rfl
 |k,x::xs=>by rw[mkS,kG,kG,xS,E.tmk]
theorem dL(E:EK α){xs:List α}{x:α}(h:xs[j]?=some x):bP E (xs.take (j+1))=bP E (xs.take j)+E.tot x:=by rw[am_,h];simp[bP]
theorem gZ(E:EK α)(xs:List α)(j:Nat):bP E (xs.take j)<=bP E xs:=by
 have h:=aog j xs;have:bP E xs=bP E (xs.take j)+bP E (xs.drop j):=by
  conv=>lhs;rw[<-h]
  simp only[bP,anQ,List.sum_append]
 have:=g_ E (xs.drop j);omega
theorem DC(E:EK α):∀(k:Int) (xs:List α) (j:Nat) (x:α),xs[j]?=some x->(mkS E k xs)[j]?=some (E.A_ (k+bP E (xs.take j)) x)
 |k,y::xs,0,x,h=>by simp at h;subst h;simp[mkS,bP]
 |k,y::xs,j+1,x,h=>by rw[mkS,List.getElem?_cons_succ,DC E _ xs j x (by simpa using h),aoO,kG];congr 2;omega
theorem zJ(E:EK α)(k:Int)(xs:List α)(j:Nat)(x:α)(h:xs[j]?=some x):
 ((mkS E k xs).take j++xs.drop j).set j (E.A_ (k+bP E (xs.take j)) x)=(mkS E k xs).take (j+1)++xs.drop (j+1):=by
 have hlt:=(am2.1 h).1;have hl:((mkS E k xs).take j).length=j:=by rw[am8,dW];omega
 rw[List.set_append_right _ _ (by omega),hl,an4,aoL hlt,List.set_cons_zero,am_,DC E k xs j x h,anP];rfl
def RS(E:EK α)(w:World)(v:Value)(xs:List α):Prop:=(∃A c,v=.slice A xs.length c/\gm E w A xs)/\bP E xs<=1125899906842624
theorem RS.ex{E:EK α}{xs:List α}(h:RS E w v xs)(he:Ex w w'):RS E w' v xs:=by obtain⟨⟨A,c,e,r⟩,t⟩:=h;exact⟨⟨A,c,e,r.ex he⟩,t⟩
theorem RS.form{E:EK α}{xs:List α}(h:RS E w v xs):∃A n c,v=.slice A n c:=by obtain⟨⟨A,c,e,r⟩,_⟩:=h;exact⟨A,_,c,e⟩
theorem RS.tot{E:EK α}{xs:List α}(h:RS E w v xs):bP E xs<=1125899906842624:=h.2
def OS(E:EK α)(t:TypeId)(w:World)(a b:Nat)(v:Value)(xs:List α):Prop:=(∃A c,v=.slice A xs.length c/\BL E t w a b A xs)/\bP E xs<=1125899906842624
theorem OS.rd{E:EK α}{t:TypeId}{xs:List α}(h:OS E t w a b v xs):RS E w v xs:=by obtain⟨⟨A,c,e,r⟩,q⟩:=h;exact⟨⟨A,c,e,r.rd⟩,q⟩
theorem OS.ex{E:EK α}{t:TypeId}{xs:List α}(h:OS E t w a b v xs)(he:Ex w w'):OS E t w' a b v xs:=by obtain⟨⟨A,c,e,r⟩,q⟩:=h;exact⟨⟨A,c,e,r.ex he⟩,q⟩
theorem OS.iv{E:EK α}{t:TypeId}{xs:List α}(h:OS E t w a b v xs)(k:fD a' b' w w')(hd:b<=a'∨b'<=a):OS E t w' a b v xs:=by obtain⟨⟨A,c,e,r⟩,q⟩:=h;exact⟨⟨A,c,e,r.iv k hd⟩,q⟩
theorem OS.e1{E:EK α}{t:TypeId}{xs:List α}(h:OS E t w a b v xs)(k:aJ g w w')(hd:g<a∨b<=g):OS E t w' a b v xs:=h.iv (fD.a_ k) (by omega)
theorem OI.keep(h:OI w a b v xs)(hk:∀k,a<=k->k<b->k<w.heap.size->w'.heap[k]?=w.heap[k]?):OI w' a b v xs:=by
 obtain⟨A,c,e,f⟩:=h;have hk':∀ad:Addr,A=some ad->ad.block<w.heap.size->w'.heap[ad.block]?=w.heap[ad.block]?:=λad e hl=>hk _ (f.fr.hi ad e) (f.lo ad e) hl
 exact⟨A,c,e,⟨⟨f.fr.rd.keep hk',f.fr.cap,λad e=>by
  obtain⟨h1,cur,h2⟩:=f.fr.2.2 ad e;exact⟨h1,cur,(hk' ad e (aC h2)).trans h2⟩⟩,f.lo⟩⟩
theorem qh{k:Nat}:∀{us:List (List Value)},(∀u∈us,u.length=k)->us.flatten.length=us.length*k
 |[],_=>by simp
 |u::us,h=>by rw[aoy,am9,qh (λv hv=>h v (by simp[hv])),h u (by simp),anJ,aow,aox];omega
theorem kS{k:Nat}:∀{us:List (List Value)},(∀u∈us,u.length=k)->∀{j:Nat} {vs:List Value},us[j]?=some vs->∀{i:Nat} {u:Value},vs[i]?=some u->us.flatten[j*k+i]?=some u
 |[],_,j,vs,hj,_,_,_=>by simp at hj
 |v::us,h,0,vs,hj,i,u,hu=>by simp at hj;subst hj;have hl:i<v.length:=(am2.1 hu).1;rw[aoy,Nat.zero_mul,anE,anN hl,hu]
 |v::us,h,j+1,vs,hj,i,u,hu=>by have hv:=h v (by simp);rw[aoy,anw (by rw[hv,aow,aox];omega),hv,show(j+1)*k+i-k=j*k+i by rw[aow,aox];omega];exact kS (λx hx=>h x (by simp[hx])) (by simpa using hj) hu
theorem CG(z:List Value)(hz:0<z.length)(n:Nat):madeCells z.toArray (n*z.length)=((replicate n z).flatten).toArray:=by
 have hl:∀u∈replicate n z,u.length=z.length:=λu hu=>by rw[(List.mem_replicate.1 hu).2]
 apply Array.ext
 .simp[madeCells]
 .intro i h1 h2;have hi:i<n*z.length:=by simpa[madeCells]using h1
  have hq:i / z.length<n:=Nat.div_lt_of_lt_mul (by rw[aod];exact hi);have hr:i%z.length<z.length:=Nat.mod_lt _ hz;have h:=kS hl (j:=i / z.length) (vs:=z) (by rw[anH,amY hq]) (am0 hr);rw[Nat.div_add_mod']at h;have e1:(replicate n z).flatten.toArray[i]=z[i%z.length]:=by rw[List.getElem_toArray];exact(am2.1 h).2
  rw[e1];simp[madeCells,hr]
theorem NP{us rest:List (List Value)}(hs:us.flatten.length=s)(z0 z1 z2 z3 a b c d:Value):
 (((((us++[z0,z1,z2,z3]::rest).flatten).set s a).set (s+1) b).set (s+2) c).set (s+3) d=(us++[a,b,c,d]::rest).flatten:=by
 subst hs;simp[aoE]
theorem BL.of_flat{E:EK α}{t:TypeId}{xs:List α}{us:List (List Value)}(hl:xs.length<=1099511627776)(hus:us.length=xs.length)(hk:∀u∈us,u.length=E.k)(hv:VB w g t us.flatten.toArray)(al bl:Nat->Nat)
 (hO:∀(j:Nat) (x:α) (vs:List Value),xs[j]?=some x->us[j]?=some vs->E.O w (al j) (bl j) vs x/\lo<=al j/\bl j<=hi/\(g<al j∨bl j<=g)) (hd:∀i j,i<xs.length->j<xs.length->i≠j->(bl i<=al j∨bl j<=al i)) (h1:lo<=g) (h2:g<hi):
 BL E t w lo hi (some ⟨g,0,none⟩) xs:=by
 refine⟨hl,al,bl,λj x hj=>?_,hd⟩;have hjl:=(am2.1 hj).1;obtain⟨vs,hvs⟩:∃vs,us[j]?=some vs:=⟨_,am0 (by omega)⟩;obtain⟨ho,ha,hb,hd'⟩:=hO j x vs hj hvs;refine⟨g,0,vs,us.flatten.toArray,rfl,h1,h2,hv,λi u hi=>?_,ho,ha,hb,hd'⟩;rw[anE,List.getElem?_toArray];exact kS hk hvs hi
theorem rR{cur:Array Value}{t:TypeId}(h:w.heap[g]?=some (.cells cur t (0,0)))(i:Nat):w.frozen? ⟨g,i,none⟩=false:=by simp[World.frozen?,h]
theorem mI(h:w.cell? ⟨g,j,none⟩=some v)(hn:i≠j):(w.setCell ⟨g,i,none⟩ u).cell? ⟨g,j,none⟩=some v:=by rw[aom _ _ _ _ (λe=>hn (by injection e))];exact h
theorem J2(h:w.cell? ⟨g,i,none⟩=some v):(w.setCell ⟨g,i,none⟩ u).cell? ⟨g,i,none⟩=some u:=World.cell?_setCell_same _ _ _ h
end
section
variable {α : Type}
def Mk(E:EK α)(t:TypeId)(z:List Value)(w:World)(g:Nat)(xs:List α)(k:Nat):Prop:=
 ∃(us:List (List Value)) (al bl:Nat->Nat),us.length=k/\(∀u∈us,u.length=E.k)/\VB w g t ((us++replicate (xs.length-k) z).flatten).toArray/\(∀j,j<k->g<al j/\bl j<=w.heap.size)/\(∀i j,i<j->j<k->bl i<=al j)/\
  ∀j x vs,xs[j]?=some x->us[j]?=some vs->E.O w (al j) (bl j) vs x
theorem Mk.start{E:EK α}{t:TypeId}{xs:List α}(h:VB w g t ((replicate xs.length z).flatten).toArray):Mk E t z w g xs 0:=
 ⟨[],λ_=>0,λ_=>0,rfl,by simp,by simpa using h,λj hj=>by omega,λi j _ hj=>by omega,λj x vs _ h=>by simp at h⟩
theorem Mk.ex{E:EK α}{t:TypeId}{xs:List α}(h:Mk E t z w g xs k)(he:Ex w w'):Mk E t z w' g xs k:=by obtain⟨us,al,bl,h1,h2,h3,h4,h5,h6⟩:=h;exact⟨us,al,bl,h1,h2,h3.ex he,λj hj=>⟨(h4 j hj).1,anb (h4 j hj).2 he.size⟩,h5,λj x vs hj hu=>E.UG (h6 j x vs hj hu) he⟩
theorem Mk.frozen{E:EK α}{t:TypeId}{xs:List α}(h:Mk E t z w g xs k)(i:Nat):w.frozen? ⟨g,i,none⟩=false:=by obtain⟨us,al,bl,h1,h2,h3,_⟩:=h;exact h3.frozen i
theorem Mk.zero{E:EK α}{t:TypeId}{xs:List α}(h:Mk E t z w g xs k)(hk:k<xs.length){q:Nat}(hq:z[q]?=some u):w.cell? ⟨g,k*E.k+q,none⟩=some u:=by
 obtain⟨us,al,bl,h1,h2,h3,_⟩:=h;have hf:us.flatten.length=k*E.k:=by rw[qh h2,h1]
 rw[show xs.length-k=(xs.length-(k+1))+1 by omega,List.replicate_succ]at h3;refine h3.cell (k*E.k+q) ?_;have Rn:=(am2.1 hq).1;rw[List.getElem?_toArray,aoE,anw (by rw[hf];omega),hf,show k*E.k+q-k*E.k=q by omega,aoy,anN Rn,hq]
theorem Mk.ad3{E:EK α}{t:TypeId}{w1:World}{xs:List α}(h:Mk E t z w g xs k)(hE:E.k=4)(hz:z.length=4){x:α}(hx:xs[k]?=some x)(he:Ex w w1){a b c d:Value}(ho:E.O w1 w.heap.size w1.heap.size [a,b,c,d] x):
 Mk E t z ((((w1.setCell ⟨g,k*4,none⟩ a).setCell ⟨g,k*4+1,none⟩ b).setCell ⟨g,k*4+2,none⟩ c).setCell ⟨g,k*4+3,none⟩ d) g xs (k+1):=by
 obtain⟨us,al,bl,h1,h2,h3,h4,h5,h6⟩:=h;have hlt:=(am2.1 hx).1;have hgl:=h3.lt;have hf:us.flatten.length=k*4:=by rw[qh h2,h1,hE]
 have v1:=h3.ex he;rw[show xs.length-k=(xs.length-(k+1))+1 by omega,List.replicate_succ]at v1;have E1:aJ g w1 ((((w1.setCell ⟨g,k*4,none⟩ a).setCell ⟨g,k*4+1,none⟩ b).setCell ⟨g,k*4+2,none⟩ c).setCell ⟨g,k*4+3,none⟩ d):=((((aJ.refl g w1).setCell (p:=⟨g,k*4,none⟩) rfl a).setCell (p:=⟨g,k*4+1,none⟩) rfl b).setCell (p:=⟨g,k*4+2,none⟩) rfl c).setCell (p:=⟨g,k*4+3,none⟩) rfl d;have hv:=(((v1.aX (k*4) a).aX (k*4+1) b).aX (k*4+2) c).aX (k*4+3) d;simp only[List.setIfInBounds_toArray]at hv
 match z,hz with
 |[z0,z1,z2,z3],_=>
  rw[NP (rest:=replicate (xs.length-(k+1)) [z0,z1,z2,z3]) hf z0 z1 z2 z3 a b c d]at hv;generalize((((w1.setCell ⟨g,k*4,none⟩ a).setCell ⟨g,k*4+1,none⟩ b).setCell ⟨g,k*4+2,none⟩ c).setCell ⟨g,k*4+3,none⟩ d)=w2 at*;have s1:=he.size;have s2:=E1.size;refine⟨us++[[a,b,c,d]],λj=>if j<k then al j else w.heap.size,λj=>if j<k then bl j else w1.heap.size,by simp[h1],λu hu=>?_,by rw[anP];exact hv,λj hj=>?_,λi j hij hj=>?_,λj y vs hj hu=>?_⟩
  .rcases anu.1 hu with hu|hu
   .exact h2 u hu
   .simp at hu;subst hu;exact hE.symm
  .dsimp only;by_cases hjk:j<k
   .rw[amY hjk,amY hjk];have:=h4 j hjk;omega
   .rw[amZ hjk,amZ hjk];omega
  .dsimp only;have hik:i<k:=by omega
   rw[amY hik];by_cases hjk:j<k
   .rw[amY hjk];exact h5 i j hij hjk
   .rw[amZ hjk];exact(h4 i hik).2
  .dsimp only;by_cases hjk:j<k
   .rw[amY hjk,amY hjk];rw[anN (by omega)]at hu;have:=h4 j hjk;exact E.oiv (E.UG (h6 j y vs hj hu) he) (fD.a_ E1) (by omega)
   .rw[amZ hjk,amZ hjk];have aeL:j=k:=by
     have:=(am2.1 hu).1;rw[am9,h1,aop]at this;omega
    subst aeL;rw[anw (by omega),h1,an4]at hu;simp at hu;subst hu;rw[hx]at hj;injection hj with hj;subst hj;exact E.oiv ho (fD.a_ E1) (by omega)
theorem Mk.done{E:EK α}{t:TypeId}{xs:List α}(h:Mk E t z w g xs xs.length)(hl:xs.length<=1099511627776)(hlo:lo<=g):BL E t w lo w.heap.size (some ⟨g,0,none⟩) xs:=by
 obtain⟨us,al,bl,h1,h2,h3,h4,h5,h6⟩:=h;rw[an4,List.replicate_zero,anR]at h3;refine BL.of_flat hl h1 h2 h3 al bl (λj x vs hj hu=>?_) (λi j hi hj hne=>?_) hlo h3.lt
 .have hjl:=(am2.1 hj).1;have:=h4 j hjl;exact⟨h6 j x vs hj hu,by omega,by omega,.inl (by omega)⟩
 .rcases Nat.lt_or_gt_of_ne hne with hh|hh
  .exact .inl (h5 i j hh hj)
  .exact .inr (h5 j i hh hi)
theorem kK{z:Int}(h:zs[k]?=some z):(zs.take (k+1)).sum=(zs.take k).sum+z:=by rw[am_,h];simp
theorem sN(h:∀(i:Nat) (z:Int),zs[i]?=some z->0<=z):0<=zs.sum:=by
 induction zs with
 |nil=>simp
 |cons z zs ih=>rw[List.sum_cons];have h0:=h 0 z rfl;have:=ih (λi y hy=>h (i+1) y (by simpa using hy));omega
theorem sM(h:∀(i:Nat) (z:Int),zs[i]?=some z->0<=z)(k:Nat):(zs.take k).sum<=zs.sum:=by
 have e:=aog k zs;have:zs.sum=(zs.take k).sum+(zs.drop k).sum:=by
  conv=>lhs;rw[<-e]
  simp only[List.sum_append]
 have:=sN (zs:=zs.drop k) (λi z hz=>h (k+i) z (by rw[anB]at hz;exact hz));omega
end
section
variable {α : Type}
theorem BL.keep{E:EK α}{t:TypeId}{xs:List α}(h:BL E t w lo hi A xs)(hk:∀k,lo<=k->k<hi->k<w.heap.size->w'.heap[k]?=w.heap[k]?):BL E t w' lo hi A xs:=by obtain⟨hl,al,bl,k1,k2⟩:=h;refine⟨hl,al,bl,λj r hj=>?_,k2⟩;obtain⟨g,off,vs,cur,hA,hg1,hg2,hh,hc,ho,ha,hb,hd'⟩:=k1 j r hj;exact⟨g,off,vs,cur,hA,hg1,hg2,(hk g hg1 hg2 (aC hh)).trans hh,hc,E.keep ho (λk h1 h2 h3=>hk k (by omega) (by omega) h3),ha,hb,hd'⟩
end
theorem mr.keep{x:aF}(h:mr w a b v0 v1 x)(hk:∀k,a<=k->k<b->k<w.heap.size->w'.heap[k]?=w.heap[k]?):mr w' a b v0 v1 x:=by obtain⟨a0,b0,a1,b1,m0,m1,c0,c1,c2,c3,c4⟩:=h;exact⟨a0,b0,a1,b1,m0.keep (λk h1 h2=>hk k (by omega) (by omega)),m1.keep (λk h1 h2=>hk k (by omega) (by omega)),c0,c1,c2,c3,c4⟩
def EF:EK aF where
 k:=2
 R:=λw vs x=>∃v0 v1,vs=[v0,v1]/\oz w v0 v1 x
 O:=λw a b vs x=>∃v0 v1,vs=[v0,v1]/\mr w a b v0 v1 x
 tot:=Dj
 A_:=Wt
 lN:=λh=>by obtain⟨_,_,rfl,_⟩:=h;rfl
 ex:=λh he=>by obtain⟨v0,v1,e,h⟩:=h;exact⟨v0,v1,e,h.ex he⟩
 rd:=λh=>by obtain⟨v0,v1,e,h⟩:=h;exact⟨v0,v1,e,h.rd⟩
 keep:=λh hk=>by obtain⟨v0,v1,e,h⟩:=h;exact⟨v0,v1,e,h.keep hk⟩
 nn:=LG
 tmk:=λk x=>by simp[Dj,Wt,dQ,I9,su]
def RF(w:World)(v:Value)(x:List aF):Prop:=RS EF w v x
def pz(x:List aF):Int:=bP EF x
def TY(k:Int)(x:List aF):List aF:=mkS EF k x
theorem Dk(x:List aF):0<=pz x:=g_ EF x
theorem RF.ex{x:List aF}(h:RF w v x)(he:Ex w w'):RF w' v x:=RS.ex h he
theorem RF.form{x:List aF}(h:RF w v x):∃A n c,v=.slice A n c:=RS.form h
theorem gm.ku{xs:List aF}(h:gm EF w A xs)(hj:j<xs.length):
 ∃g off x P pc Q qc,A=some ⟨g,off,none⟩/\xs[j]?=some x/\w.cell? ⟨g,off+j*2,none⟩=some (.slice P x.n.length pc)/\w.cell? ⟨g,off+j*2+1,none⟩=some (.slice Q x.d.length qc)/\Rd w P x.n/\Rd w Q x.d:=by
 obtain⟨g,off,vs,x,hA,hx,hc,v0,v1,rfl,⟨P,pc,rfl,hP⟩,⟨Q,qc,rfl,hQ⟩⟩:=h.at_ hj;exact⟨g,off,x,P,pc,Q,qc,hA,hx,hc 0 _ rfl,hc 1 _ rfl,hP,hQ⟩
theorem uz:(prog.info? 51).map (λi=>(i.zero,i.size,i.bytes))=some (some (.agg #[.slice none 0 0,.slice none 0 0]),2,48):=by kernel_rfl
theorem BJ(x:List aF)(v u:Value)(w:World)(h:RF w v x)(h':RF w u x):
 Calls prog 62 #[v,u] w λe w'=>e=.returned (.bool true)/\Ex w w':=by
 obtain⟨⟨A,c,rfl,h⟩,_⟩:=h;obtain⟨⟨A',c',rfl,h'⟩,_⟩:=h';have hl:=h.1;go_enter Tryz.func62,Tryz.ntmps62
 go_wp2;go_loopw [5] (λi wr=>∃k:Nat,k<=x.length/\i=.int .i64 k/\Ex w wr) (λi _=>x.length-(intOf i).toNat)
 case atStart=>exact⟨0,am4 _,rfl,asF w⟩
 case round=>
  obtain⟨k,hk,rfl,he⟩:=hrel;by_cases hlt:k<x.length
  .obtain⟨g,off,r,P,pc,Q,qc,rfl,hr,c0,c1,hP,hQ⟩:=(h.ex he).ku hlt;obtain⟨g',off',r',P',pc',Q',MI,rfl,hr',d0,d1,hP',hQ'⟩:=(h'.ex he).ku hlt;obtain rfl:r=r':=by rw[hr]at hr';injection hr'
   clear hr hr';have he1:=λW (y:Ex wr W)=>D9 r _ _ _ _ W ⟨⟨P,pc,rfl,hP.ex y⟩,⟨Q,qc,rfl,hQ.ex y⟩⟩ ⟨⟨P',pc',rfl,hP'.ex y⟩,⟨Q',MI,rfl,hQ'.ex y⟩⟩
   have HS:∀W,Ex wr W->(Ex wr W/\W.cell? ⟨g,off+k*2,none⟩=some (.slice P r.n.length pc)/\W.cell? ⟨g,off+k*2+1,none⟩=some (.slice Q r.d.length qc)/\W.cell? ⟨g',off'+k*2,none⟩=some (.slice P' r.n.length pc')/\W.cell? ⟨g',off'+k*2+1,none⟩=some (.slice Q' r.d.length MI)):=λW y=>⟨y,af y c0,af y c1,af y d0,af y d1⟩
   have eA:=(asF wr).drew;go_wp2_with fail
   go_region_held3 (λW=>Ex wr W/\W.cell? ⟨g,off+k*2,none⟩=some (.slice P r.n.length pc)/\W.cell? ⟨g,off+k*2+1,none⟩=some (.slice Q r.d.length qc)/\W.cell? ⟨g',off'+k*2,none⟩=some (.slice P' r.n.length pc')/\W.cell? ⟨g',off'+k*2+1,none⟩=some (.slice Q' r.d.length MI)) (first
    |(exact HS _ x1)|(exact HS _ eA)|(exact HS _ (asF wr))) (first
    |(go_at_call 101
      have hb:=(‹Ex wr _/\_›).1;refine(he1 _ hb).mono ?_;rintro e w1 ⟨rfl,Lu⟩;have x1:=hb.trans Lu;clear hb))
   all_goals go_wp2
   all_goals exact⟨⟨k+1,by omega,by go_num,he.trans x1⟩,by simp[intOf]<;>omega⟩
  .obtain rfl:k=x.length:=by omega
   go_wp2;go_ret;exact⟨rfl,he⟩
theorem xE(x:List aF)(v:Value)(k:Int)(w:World)(h:RF w v (TY k x))(hk0:0<=k)(hk:k+pz x<=4611686018427387904):
 Calls prog 65 #[v,.int .i64 k] w λe w'=>e=.returned (.int .i64 (k+pz x))/\Ex w w':=by
 obtain⟨⟨A,c,e,h⟩,ht⟩:=h;rw[TY,dW]at e;subst e;have hl:x.length<=1099511627776:=by have:=h.1;rwa[TY,dW]at this
 go_enter Tryz.func65,Tryz.ntmps65
 go_wp2;go_loopw [1,5] (λq i wr=>∃j:Nat,j<=x.length/\q=.int .i64 (k+bP EF (x.take j))/\i=.int .i64 j/\Ex w wr) (λ_ i _=>x.length-(intOf i).toNat)
 case atStart=>exact⟨0,am4 _,by simp[bP],rfl,asF _⟩
 case round=>
  obtain⟨j,hj,rfl,rfl,he⟩:=hrel;by_cases hlt:j<x.length
  .obtain⟨r,hr⟩:∃r,x[j]?=some r:=⟨_,am0 hlt⟩;have hm:=DC EF k x j r hr;obtain⟨g,off,r',P,pc,Q,qc,rfl,hr',c2,c3,hP,hQ⟩:=(h.ex he).ku (j:=j) (by rw[TY,dW];exact hlt);rw[TY,hm]at hr';injection hr' with hr';subst hr';have s1:=g_ EF (x.take j);have s2:=dL EF hr;have s3:=gZ EF x (j+1);have e4:EF.tot r=dQ r.n+dQ r.d:=rfl;have n0:=eX r.n;have n1:=eX r.d;rw[e4]at s2;have hk4:k+bP EF (x.take j)+(dQ r.n+dQ r.d)<=4611686018427387904:=by have:pz x=bP EF x:=rfl;omega
   have S2:=amW s2;clear hr hm s2 e4;obtain⟨K,hK⟩:=xq (k+bP EF (x.take j));have HK:=amW hK;rw[hK]at hk4 c2 c3 hP hQ;have hK0:0<=K:=by omega
   rw[hK];clear hK;have q1:RI wr (.slice P (EF.A_ K r).n.length pc) (I9 K r.n):=⟨P,pc,rfl,hP⟩;have q2:RI wr (.slice Q (EF.A_ K r).d.length qc) (I9 (K+dQ r.n) r.d):=⟨Q,qc,rfl,hQ⟩;have WL:=hP.len;have RN:=hQ.len;clear hP hQ;generalize(EF.A_ K r).n.length=m1 at*;generalize(EF.A_ K r).d.length=m2 at*;go_wp2_with fail
   refine(zY r.n (.slice P m1 pc) K wr q1 (by omega) (by omega)).mono ?_;rintro e w1 ⟨rfl,x1⟩;replace c2:=af x1 c2;replace c3:=af x1 c3;go_wp2_with fail
   refine(zY r.d (.slice Q m2 qc) (K+dQ r.n) w1 (q2.ex x1) (by omega) (by omega)).mono ?_;rintro e w2 ⟨rfl,x2⟩;have hQ:K+dQ r.n+dQ r.d=k+bP EF (x.take (j+1)):=by have:=S2.out;have:=HK.out;omega
   have hX:=(he.trans x1).trans x2;clear c2 c3;rw[hQ];clear hQ;have hp:0<=k+bP EF (x.take (j+1)):=by have:=g_ EF (x.take (j+1));omega
   go_wp2_with fail
   go_roundw;case rel=>exact⟨j+1,by omega,rfl,by go_num,hX⟩
   case measure=>simp[intOf]<;>omega
  .obtain rfl:j=x.length:=by omega
   go_wp2;go_ret;rw[anf];exact⟨rfl,he⟩
theorem OO(q:Addr)(b:Bool)(w:World)(hc:w.cell? q=some (.bool b))(hz:w.frozen? q=false):
 CallsD prog 118 #[.pointer (some q)] .returning w λe u' w'=>e=.returned (.tuple #[])/\u'=.returning/\w'=w.setCell q (.bool true):=by
 refine callsD_of_wpS Tryz.func118 rfl λc₀ cs hu=>?_
 apply wpS_region;simp[wpOpsS,go_sem,recoverD,hu,Tryz.ntmps118,hc,hz,bodyPostS,results,Tryz.results118];cases c₀
 simp_all
theorem JW(g:FuncId)(eg:∀args w,(callFunc g args).run prog w=.ok (.enter g args) w)(cap:Array Value)(w:World)(S:Nat->Prop)(Q:World->Prop)(hS:∀z,S z->z<w.heap.size)
 (hdo:∀W,Ex w W->w.heap.size<W.heap.size->Calls prog g cap W λe W'=>e=.returned (.tuple #[])/\bn S W W'/\Q W') (hQ:∀W W',Q W->aJ w.heap.size W W'->Q W'):
 Calls prog 88 #[.func (.func g) #[] cap] w λe w'=>e=.returned (.bool true)/\bn S w w'/\Q w':=by
 have Yr:∀(fn:Fn) (first cap:Array Value) (w:World),(Instr.makeFunc fn first cap).run prog w=.ok (.func fn first cap) w:=λ_ _ _ _=>rfl
 obtain⟨x1,v1⟩:=VB.xn w 4 #[.bool false];have s1:(w.alloc (.cells #[.bool false] 4)).heap.size=w.heap.size+1:=by simp
 go_enter_defers Tryz.func88,Tryz.ntmps88
 go_wp2_with fail
 generalize w.alloc (.cells #[.bool false] 4)=W1 at*;refine(hdo W1 x1 (by omega)).mono ?_;rintro e w2 ⟨rfl,x2,q2⟩;have v2:VB w2 w.heap.size 4 #[.bool false]:=(x2.block _ v1.lt (λhs=>by have:=hS _ hs;omega)).trans v1;have c2:=v2.c0;have z2:=v2.frozen 0;go_wp2_with fail
 have E3:aJ w.heap.size w2 (w2.setCell ⟨w.heap.size,0,none⟩ (.bool true)):=(aJ.refl _ w2).setCell (p:=⟨w.heap.size,0,none⟩) rfl _;have v3:VB (w2.setCell ⟨w.heap.size,0,none⟩ (.bool true)) w.heap.size 4 #[.bool true]:=v2.aX 0 _;have c3:=v3.c0;have z3:=v3.frozen 0;generalize w2.setCell ⟨w.heap.size,0,none⟩ (.bool true)=W3 at*;refine leaves_cons (f:=118) (args:= #[.pointer (some ⟨w.heap.size,0,none⟩)]) (by simp) (by simp[go_sem]) ?_;refine(OO ⟨w.heap.size,0,none⟩ true W3 c3 z3).mono ?_;rintro e u' w4 ⟨rfl,rfl,rfl⟩;have E4:aJ w.heap.size W3 (W3.setCell ⟨w.heap.size,0,none⟩ (.bool true)):=(aJ.refl _ W3).setCell (p:=⟨w.heap.size,0,none⟩) rfl _;have c4:=(v3.aX 0 (.bool true)).c0;have hx:bn S w (W3.setCell ⟨w.heap.size,0,none⟩ (.bool true)):=((bn.aN (S:=S) x1).trans x2 (λ_ _ h=>h)).trans (bn.a_ (S:=λz=>z=w.heap.size) (E3.trans E4) rfl) (λi hi e=>by omega);have hq:=hQ _ _ q2 (E3.trans E4);generalize W3.setCell ⟨w.heap.size,0,none⟩ (.bool true)=W4 at*;refine⟨.bool true,by simp[results,Tryz.results88,go_sem,c4],rfl,hx,hq⟩
section
structure EL (α:Type) where
 k:Nat
 O:World->Nat->Nat->List Value->α->Prop
 lN:∀{w a b vs x},O w a b vs x->vs.length=k
 keep:∀{w w':World} {a b vs x},O w a b vs x->(∀k,a<=k->k<b->k<w.heap.size->w'.heap[k]?=w.heap[k]?)->O w' a b vs x
 one:∀{w a b vs x},O w a b vs x->∀u∈vs,u.oneCell'=true
variable {α : Type}
theorem EL.UG(E:EL α){vs:List Value}{x:α}(h:E.O w a b vs x)(he:Ex w w'):E.O w' a b vs x:=E.keep h λ_ _ _ hk=>he.block hk
theorem EL.grown(E:EL α){vs:List Value}{x:α}{o:Option Nat}(h:E.O w a b vs x)(he:w.grownBy w' o)(hd:∀k,o=some k->k<a∨b<=k):E.O w' a b vs x:=
 E.keep h λk h1 h2 hk=>he.block k hk (λe=>by have:=hd k e.symm;omega)
theorem tO{t:TypeId}{xs:List Value}(h:w.ownsRow B t s v n xs)(he:∀k,v.ownBlock=some k->k<w.heap.size->w'.heap[k]?=w.heap[k]?):w'.ownsRow B t s v n xs:=by
 obtain⟨h1,h2⟩:=h;refine⟨h1,?_⟩;rcases h2 with h2|⟨g,cap,cur,hv,hB,hh,r⟩
 .exact .inl h2
 .exact .inr ⟨g,cap,cur,hv,hB,(he g (by rw[hv];rfl) (aC hh)).trans hh,r⟩
def GE(E:EL α)(t:TypeId)(w:World)(B H:Nat)(v:Value)(xs:List α):Prop:=
 (∀k,v.ownBlock=some k->B<=k/\k<H)/\∃(us:List (List Value)) (al bl:Nat->Nat),us.length=xs.length/\w.ownsRow B t E.k v xs.length us.flatten/\
  (∀(j:Nat) (x:α),xs[j]?=some x->∃u,us[j]?=some u/\E.O w (al j) (bl j) u x/\B<=al j/\bl j<=H/\∀k,v.ownBlock=some k->k<al j∨bl j<=k)/\
  ∀i j,i<xs.length->j<xs.length->i≠j->(bl i<=al j∨bl j<=al i)
theorem GE.nil(E:EL α)(t:TypeId)(w:World)(B H:Nat):GE E t w B H (.slice none 0 0) []:=
 ⟨(λk e=>by cases e),[],λ_=>0,λ_=>0,rfl,World.ownsRow_nil w B _ _,(λj r hj=>by simp at hj),(λi j hi=>by simp at hi)⟩
theorem GE.empty(E:EL α)(t:TypeId)(w:World)(hB:B<=w.heap.size):GE E t (w.alloc (.cells #[] t)) B (w.heap.size+1) (.slice (some ⟨w.heap.size,0,none⟩) 0 0) []:=by have ho:(w.alloc (.cells #[] t)).ownsRow B t E.k (.slice (some ⟨w.heap.size,0,none⟩) 0 0) 0 []:=⟨by simp,.inr ⟨w.heap.size,0,#[],rfl,hB,heap_alloc_new w _,amX _,am4 _,by simp,by simp⟩⟩;exact⟨λk e=>by injection e with e;subst e;exact⟨hB,aoF _⟩,[],λ_=>0,λ_=>0,rfl,ho,(λj r hj=>by simp at hj),(λi j hi=>by simp at hi)⟩
theorem GE.keep{E:EL α}{t:TypeId}{xs:List α}(h:GE E t w B H v xs)(hk:∀k,B<=k->k<H->k<w.heap.size->w'.heap[k]?=w.heap[k]?):GE E t w' B H v xs:=by obtain⟨hown,us,al,bl,hl,ho,h1,h2⟩:=h;refine⟨hown,us,al,bl,hl,tO ho λk e hk'=>hk k (hown k e).1 (hown k e).2 hk',λj x hj=>?_,h2⟩;obtain⟨u,q1,q2,q3,q4,q5⟩:=h1 j x hj;exact⟨u,q1,E.keep q2 λk a1 a2 a3=>hk k (by omega) (by omega) a3,q3,q4,q5⟩
theorem GE.ex{E:EL α}{t:TypeId}{xs:List α}(h:GE E t w B H v xs)(he:Ex w w'):GE E t w' B H v xs:=h.keep λ_ _ _ hk=>he.block hk
theorem GE.iv{E:EL α}{t:TypeId}{xs:List α}(h:GE E t w B H v xs)(he:fD a b w w')(hd:H<=a∨b<=B):GE E t w' B H v xs:=h.keep λk h1 h2 hk=>he.block k hk (by omega)
theorem GE.more{E:EL α}{t:TypeId}{B' H':Nat}{xs:List α}(h:GE E t w B H v xs)(hB:B'<=B)(hH:H<=H'):GE E t w B' H' v xs:=by
 obtain⟨hown,us,al,bl,hl,ho,h1,h2⟩:=h;refine⟨λk e=>by have:=hown k e;omega,us,al,bl,hl,⟨ho.1,?_⟩,λj x hj=>?_,h2⟩
 .rcases ho.2 with h5|⟨g,cap,cur,hv,hg,r⟩
  .exact .inl h5
  .exact .inr ⟨g,cap,cur,hv,by omega,r⟩
 .obtain⟨u,q1,q2,q3,q4,q5⟩:=h1 j x hj;exact⟨u,q1,q2,by omega,by omega,q5⟩
theorem GE.own{E:EL α}{t:TypeId}{xs:List α}(h:GE E t w B H v xs):∀k,v.ownBlock=some k->B<=k/\k<H:=h.1
theorem GE.form{E:EL α}{t:TypeId}{xs:List α}(h:GE E t w B H v xs)(hv:v≠.slice none 0 0):∃g c,v=.slice (some ⟨g,0,none⟩) xs.length c/\xs.length<=c/\c<=9223372036854775807:=by
 obtain⟨_,us,al,bl,hl,ho,_⟩:=h;rcases ho.2 with⟨e,_⟩|⟨g,cap,cur,e,_,_,h1,h2,_⟩
 .exact absurd e hv
 .exact⟨g,cap,e,h1,h2⟩
theorem GE.lu{E:EL α}{t:TypeId}{xs:List α}(h:GE E t w B H v xs):∃A c,v=.slice A xs.length c:=by
 obtain⟨_,us,al,bl,hl,ho,_⟩:=h;rcases ho.2 with⟨e,hn⟩|⟨g,cap,cur,e,_,_,h1,h2,_⟩
 .exact⟨none,0,by rw[e,hn]⟩
 .exact⟨_,cap,e⟩
theorem GE.at_{E:EL α}{t:TypeId}{xs:List α}(h:GE E t w B H (.slice (some ⟨g,0,none⟩) n c) xs):
 ∃(cur:Array Value) (al bl:Nat->Nat),n=xs.length/\B<=g/\g<H/\w.heap[g]?=some (.cells cur t (0,0))/\
  (∀(j:Nat) (x:α),xs[j]?=some x->∃u,(∀(i:Nat) (y:Value),u[i]?=some y->cur[j*E.k+i]?=some y)/\E.O w (al j) (bl j) u x/\B<=al j/\bl j<=H/\(g<al j∨bl j<=g))/\
  ∀i j,i<xs.length->j<xs.length->i≠j->(bl i<=al j∨bl j<=al i):=by
 obtain⟨hown,us,al,bl,hl,ho,h1,h2⟩:=h;rcases ho.2 with⟨e,_⟩|⟨g',cap,cur,e,hB,hh,hnc,hcm,hsz,ht⟩
 .cases e
 .injection e with e1 e2 e3;injection e1 with e1;injection e1 with e1 _ _;subst e1;refine⟨cur,al,bl,e2,(hown _ rfl).1,(hown _ rfl).2,hh,λj x hj=>?_,h2⟩;obtain⟨u,q1,q2,q3,q4,q5⟩:=h1 j x hj;refine⟨u,λi y hy=>?_,q2,q3,q4,q5 _ rfl⟩;have hlen:∀u∈us,u.length=E.k:=λu hu=>by
   obtain⟨j',hj'⟩:=anc hu;have hl':=(am2.1 hj').1;obtain⟨u2,r1,r2,_⟩:=h1 j' _ (am0 (by omega));rw[hj']at r1;injection r1 with r1;subst r1;exact E.lN r2
  have hf:us.flatten[j*E.k+i]?=some y:=kS hlen q1 hy;rw[<-ht,anh]at hf;split at hf
  .simpa using hf
  .cases hf
theorem GE.push(E:EL α){t tS:TypeId}(ht:prog.underlying tS=some (.slice t)){i:TypeInfo}{z:Value}{bytes:Nat}(hi:prog.info? t=some i)(hz:i.zero=some z)(hs:i.size=E.k)(hby:i.bytes=bytes)(hzs:z.cells.size=E.k)(hk:0<E.k)(ae1:bytes<=64)
 {w:World} {B H:Nat} {v:Value} {xs:List α} (h:GE E t w B H v xs) (hH:H<=w.heap.size) {u:List Value} {x:α} {a b:Nat} (hu:E.O w a b u x) (ha:H<=a) (_:a<=b) (hb:b<=w.heap.size) (hB:B<=H) (hl:xs.length+1<=1099511627776):
 ∃v' w',(Builtin.append_ #[tS,tS] tS #[v,.slice (some ⟨w.heap.size,0,none⟩) 1 1]).run prog (w.alloc (.cells u.toArray t))=.ok v' w'/\
  GE E t w' B w'.heap.size v' (xs++[x])/\wB v.ownBlock w w'/\(v'.ownBlock=v.ownBlock∨v'.ownBlock=some (w.heap.size+1))/\v'≠.slice none 0 0/\∀b',Ex b' w->b'.heap.size<=B->Ex b' w':=by
 obtain⟨hown,us,al,bl,zT,ho,h1,h2⟩:=h;have hx:=(asF w).alloc (.cells u.toArray t);have hsz:(w.alloc (.cells u.toArray t)).heap.size=w.heap.size+1:=by simp
 have hrl:=E.lN hu;obtain⟨v',w',hrun,hown',hg,hnn,lq⟩:=run_append_own_at (P:=prog) (w.alloc (.cells u.toArray t)) B tS tS t i z E.k bytes ht hi hz hs hby hzs hk v xs.length _ (tO ho λk e hk=>hx.block hk) ⟨w.heap.size,0,none⟩ 1 1 u (by rw[hrl,aox])
  (λj y hj=>World.news_of_block (heap_alloc_new w _) j y (by simpa using hj)) (E.one hu) (by unfold maxLen;omega) (by
   have:=Nat.mul_le_mul (show xs.length+1<=1099511627776 from hl) ae1;omega) (by omega)
 have hsz2:=hg.size;rw[hsz]at lq;have hown2:∀k,v'.ownBlock=some k->B<=k/\k<w'.heap.size:=World.ownsRow.lt hown';refine⟨v',w',hrun,⟨hown2,us++[u],(λj=>if j=xs.length then a else al j),(λj=>if j=xs.length then b else bl j),by simp[zT],?_,?_,?_⟩,(wB.aN hx).trans hg,lq,λe=>by have:=(hnn.1 e).2;omega,?_⟩
 .rw[am9,aoE];simpa using hown'
 .intro j q hj;by_cases e:j=xs.length
  .subst e;rw[anw (amX _),an4]at hj;injection hj with hj;subst hj;refine⟨u,by rw[anw (by omega),zT,an4];rfl,?_,?_,?_,?_⟩
   .simp only[amY];exact E.grown (E.UG hu hx) hg λk e=> .inl (by have:=hown k e;omega)
   .simp only[amY];omega
   .simp only[amY];omega
   .intro k e;simp only[amY];rcases lq with e2|e2
    .exact .inl (by have:=hown k (e2▸e);omega)
    .rw[e2]at e;injection e with e;exact .inr (by omega)
  .have hjl:j<xs.length:=by have:=(am2.1 hj).1;rw[am9]at this;simp at this;omega
   rw[anN hjl]at hj;obtain⟨u2,q1,q2,q3,q4,q5⟩:=h1 j q hj;refine⟨u2,by rw[anN (by omega)];exact q1,?_,?_,?_,?_⟩
   .simp only[amZ e];exact E.grown (E.UG q2 hx) hg q5
   .simp only[amZ e];exact q3
   .simp only[amZ e];omega
   .intro k e2;simp only[amZ e];rcases lq with e3|e3
    .exact q5 k (e3▸e2)
    .rw[e3]at e2;injection e2 with e2;exact .inr (by omega)
 .intro i j hi' hj' hne;simp only[am9,anJ,List.length_nil]at hi' hj';by_cases ei:i=xs.length
  .have ej:j≠xs.length:=by omega
   have hjl:j<xs.length:=by omega
   obtain⟨_,_,_,_,q4,_⟩:=h1 j _ (am0 hjl);simp only[amY ei,amZ ej];exact .inr (by omega)
  .have hil:i<xs.length:=by omega
   obtain⟨_,_,_,_,q4,_⟩:=h1 i _ (am0 hil);by_cases ej:j=xs.length
   .simp only[amZ ei,amY ej];exact .inl (by omega)
   .simp only[amZ ei,amZ ej];exact h2 i j hil (by omega) hne
 .intro b' hb' hbB;exact(hb'.trans hx).Sj hg (λg e=>by have:=(hown g e).1;omega)
end
def Zg(w:World)(v:Value)(x:List aF):Prop:=∃A c,v=.slice A x.length c/\gm EF w A x
theorem Zg.ex{x:List aF}(h:Zg w v x)(he:Ex w w'):Zg w' v x:=by obtain⟨A,c,e,r⟩:=h;exact⟨A,c,e,r.ex he⟩
theorem Zg.form{x:List aF}(h:Zg w v x):∃A c,v=.slice A x.length c/\gm EF w A x:=h
def OF0(w:World)(a b:Nat)(v:Value)(x:List aF):Prop:=∃A c,v=.slice A x.length c/\x.length<=c/\BL EF 51 w a b A x
theorem rX{α:Type}(E:EK α){xs:List α}{x:α}(h:xs[j]?=some x):E.tot x<=bP E xs:=by have:=dL E h;have:=gZ E xs (j+1);have:=g_ E (xs.take j);omega
def iE:EK (List aF) where
 k:=1
 R:=λw vs x=>∃v,vs=[v]/\Zg w v x
 O:=λw a b vs x=>∃v,vs=[v]/\OF0 w a b v x
 tot:=pz
 A_:=TY
 lN:=λh=>by obtain⟨_,rfl,_⟩:=h;rfl
 ex:=λh he=>by obtain⟨v,e,h⟩:=h;exact⟨v,e,h.ex he⟩
 rd:=λh=>by obtain⟨v,e,A,c,e2,_,h⟩:=h;exact⟨v,e,A,c,e2,h.rd⟩
 keep:=λh hk=>by obtain⟨v,e,A,c,e2,hc,h⟩:=h;exact⟨v,e,A,c,e2,hc,h.keep hk⟩
 nn:=Dk
 tmk:=λk x=>xS EF k x
def Eu(w:World)(v:Value)(x:List (List aF)):Prop:=RS iE w v x
def fF(x:List (List aF)):Int:=bP iE x
def BA(k:Int)(x:List (List aF)):List (List aF):=mkS iE k x
theorem yH(x:List (List aF)):0<=fF x:=g_ iE x
theorem Eu.ex{x:List (List aF)}(h:Eu w v x)(he:Ex w w'):Eu w' v x:=RS.ex h he
theorem Eu.tot{x:List (List aF)}(h:Eu w v x):fF x<=1125899906842624:=RS.tot h
theorem Eu.form{x:List (List aF)}(h:Eu w v x):∃A n c,v=.slice A n c:=RS.form h
theorem gm.j5{xs:List (List aF)}(h:gm iE w A xs)(hj:j<xs.length):
 ∃g off x v,A=some ⟨g,off,none⟩/\xs[j]?=some x/\w.cell? ⟨g,off+j,none⟩=some v/\Zg w v x:=by
 obtain⟨g,off,vs,x,hA,hx,hc,v,rfl,hR⟩:=h.at_ hj;have:=hc 0 _ rfl;rw[show iE.k=1 from rfl,anY,anS]at this;exact⟨g,off,x,v,hA,hx,this,hR⟩
def slZ:List Value:=[.slice none 0 0]
theorem fZ:(prog.info? 48).map (λi=>(i.zero,i.size,i.bytes))=some (some (.slice none 0 0),1,24):=by kernel_rfl
theorem oG(n:Nat)(hn:n<=1099511627776)(w:World):
 (Instr.makeSlice 27 (.int .i64 (n:Int)) (.int .i64 (n:Int))).run prog w=.ok (.slice (some ⟨w.heap.size,0,none⟩) n n) (w.alloc (.cells ((replicate n slZ).flatten).toArray 48)):=by
 obtain⟨i,hi,hz,hs,hb⟩:=anA fZ;have hr:=run_make (P:=prog) w 27 48 i _ Tryz.underlying27 hi hz .i64 .i64 n n (by omega) (by omega) (by rw[hb];omega) (by omega);simp only[aoJ,hs]at hr;rw[hr];have:=CG slZ (by decide) n;rw[show slZ.length=1 from rfl]at this;rw[<-this];rfl
theorem Af(x:List (List aF))(v u:Value)(w:World)(h:Eu w v x)(h':Eu w u x):
 Calls prog 30 #[v,u] w λe w'=>e=.returned (.bool true)/\Ex w w':=by
 obtain⟨⟨A,c,rfl,h⟩,ht⟩:=h;obtain⟨⟨A',c',rfl,h'⟩,_⟩:=h';have hl:=h.1;go_enter Tryz.func30,Tryz.ntmps30
 go_wp2;go_loopw [5] (λi wr=>∃k:Nat,k<=x.length/\i=.int .i64 k/\Ex w wr) (λi _=>x.length-(intOf i).toNat)
 case atStart=>exact⟨0,am4 _,rfl,asF w⟩
 case round=>
  obtain⟨k,hk,rfl,he⟩:=hrel;by_cases hlt:k<x.length
  .obtain⟨g,off,r,v,rfl,hr,c0,hR0⟩:=(h.ex he).j5 hlt;obtain⟨g',off',r',v',rfl,hr',d0,abO⟩:=(h'.ex he).j5 hlt;obtain rfl:r=r':=by rw[hr]at hr';injection hr'
   have hR:RF wr v r:=⟨hR0,Int.le_trans (rX iE hr) ht⟩;have hR':RF wr v' r:=⟨abO,Int.le_trans (rX iE hr) ht⟩;clear hR0 abO;obtain⟨P,m,pc,rfl⟩:=hR.form;obtain⟨P',m',pc',rfl⟩:=hR'.form;clear hr hr';have he1:=λW (y:Ex wr W)=>BJ r _ _ W (hR.ex y) (hR'.ex y)
   have HS:∀W,Ex wr W->(Ex wr W/\W.cell? ⟨g,off+k,none⟩=some (.slice P m pc)/\W.cell? ⟨g',off'+k,none⟩=some (.slice P' m' pc')):=λW y=>⟨y,af y c0,af y d0⟩
   have eA:=(asF wr).drew;go_wp2_with fail
   go_region_held3 (λW=>Ex wr W/\W.cell? ⟨g,off+k,none⟩=some (.slice P m pc)/\W.cell? ⟨g',off'+k,none⟩=some (.slice P' m' pc')) (first
    |(exact HS _ x1)|(exact HS _ eA)|(exact HS _ (asF wr))) (first
    |(go_at_call 62
      have hb:=(‹Ex wr _/\_›).1;refine(he1 _ hb).mono ?_;rintro e w1 ⟨rfl,Lu⟩;have x1:=hb.trans Lu;clear hb))
   all_goals go_wp2
   all_goals exact⟨⟨k+1,by omega,by go_num,he.trans x1⟩,by simp[intOf]<;>omega⟩
  .obtain rfl:k=x.length:=by omega
   go_wp2;go_ret;exact⟨rfl,he⟩
theorem vU(x:List (List aF))(v:Value)(k:Int)(w:World)(h:Eu w v (BA k x))(hk0:0<=k)(hk:k+fF x<=4611686018427387904):
 Calls prog 36 #[v,.int .i64 k] w λe w'=>e=.returned (.int .i64 (k+fF x))/\Ex w w':=by
 obtain⟨⟨A,c,e,h⟩,ht⟩:=h;rw[BA,dW]at e;subst e;have hl:x.length<=1099511627776:=by have:=h.1;rwa[BA,dW]at this
 go_enter Tryz.func36,Tryz.ntmps36
 go_wp2;go_loopw [1,5] (λq i wr=>∃j:Nat,j<=x.length/\q=.int .i64 (k+bP iE (x.take j))/\i=.int .i64 j/\Ex w wr) (λ_ i _=>x.length-(intOf i).toNat)
 case atStart=>exact⟨0,am4 _,by simp[bP],rfl,asF _⟩
 case round=>
  obtain⟨j,hj,rfl,rfl,he⟩:=hrel;by_cases hlt:j<x.length
  .obtain⟨r,hr⟩:∃r,x[j]?=some r:=⟨_,am0 hlt⟩;have hm:=DC iE k x j r hr;obtain⟨g,off,r',v,rfl,hr',c2,hR0⟩:=(h.ex he).j5 (j:=j) (by rw[BA,dW];exact hlt);have hR:RF wr v r':=⟨hR0,Int.le_trans (rX iE hr') ht⟩;clear hR0;rw[BA,hm]at hr';injection hr' with hr';subst hr';obtain⟨P,m,pc,rfl⟩:=hR.form;have s1:=g_ iE (x.take j);have s2:=dL iE hr;have s3:=gZ iE x (j+1);have e4:iE.tot r=pz r:=rfl;have n0:=Dk r;rw[e4]at s2;have hk4:k+bP iE (x.take j)+pz r<=4611686018427387904:=by have:fF x=bP iE x:=rfl;omega
   have S2:=amW s2;clear hr hm s2 e4;obtain⟨K,hK⟩:=xq (k+bP iE (x.take j));have HK:=amW hK;rw[hK]at hk4 hR;have hK0:0<=K:=by omega
   rw[hK];clear hK;go_wp2_with fail
   refine(xE r (.slice P m pc) K wr hR (by omega) (by omega)).mono ?_;rintro e w1 ⟨rfl,x1⟩;have hQ:K+pz r=k+bP iE (x.take (j+1)):=by have:=S2.out;have:=HK.out;omega
   have hX:=he.trans x1;clear c2;rw[hQ];clear hQ;have hp:0<=k+bP iE (x.take (j+1)):=by have:=g_ iE (x.take (j+1));omega
   go_wp2_with fail
   go_roundw;case rel=>exact⟨j+1,by omega,rfl,by go_num,hX⟩
   case measure=>simp[intOf]<;>omega
  .obtain rfl:j=x.length:=by omega
   go_wp2;go_ret;rw[anf];exact⟨rfl,he⟩
section
def xK(w:World)(S:Nat->Prop)(v0 v1:Value)(x:aF):Prop:=∃s0 s1:Nat->Prop,XI w s0 v0 x.n/\XI w s1 v1 x.d/\(∀k,s0 k->S k)/\(∀k,s1 k->S k)/\∀k,s0 k->¬s1 k
theorem xK.rd{x:aF}(h:xK w S v0 v1 x):oz w v0 v1 x:=by obtain⟨_,_,h0,h1,_⟩:=h;exact⟨h0.rd,h1.rd⟩
theorem xK.keep{x:aF}(h:xK w S v0 v1 x)(hk:∀k,S k->k<w.heap.size->w'.heap[k]?=w.heap[k]?):xK w' S v0 v1 x:=by obtain⟨s0,s1,h0,h1,k0,k1,d⟩:=h;exact⟨s0,s1,h0.keep (λk hs=>hk k (k0 k hs)),h1.keep (λk hs=>hk k (k1 k hs)),k0,k1,d⟩
theorem xK.mono{x:aF}(h:xK w S v0 v1 x)(hT:∀k,k<w.heap.size->S k->T k):xK w T v0 v1 x:=by obtain⟨s0,s1,h0,h1,k0,k1,d⟩:=h;exact⟨λk=>s0 k/\k<w.heap.size,λk=>s1 k/\k<w.heap.size,h0.mono (λk hk hs=>⟨hs,hk⟩),h1.mono (λk hk hs=>⟨hs,hk⟩),λk hs=>hT k hs.2 (k0 k hs.1),λk hs=>hT k hs.2 (k1 k hs.1),λk a b=>d k a.1 b.1⟩
theorem mr.xf{x:aF}(h:mr w a b v0 v1 x):xK w (λk=>a<=k/\k<b) v0 v1 x:=by obtain⟨a0,b0,a1,b1,m0,m1,c0,c1,c2,c3,c4⟩:=h;exact⟨_,_,m0.xi,m1.xi,λk hk=>by omega,λk hk=>by omega,λk h1 h2=>by omega⟩
structure EX (α:Type) where
 k:Nat
 O:World->(Nat->Prop)->List Value->α->Prop
 lN:∀{w S vs x},O w S vs x->vs.length=k
 keep:∀{w w':World} {S vs x},O w S vs x->(∀k,S k->k<w.heap.size->w'.heap[k]?=w.heap[k]?)->O w' S vs x
 mono:∀{w S T vs x},O w S vs x->(∀k,k<w.heap.size->S k->T k)->O w T vs x
variable {α : Type}
def OX(E:EX α)(t:TypeId)(w:World)(S:Nat->Prop)(A:Option Addr)(xs:List α):Prop:=
 xs.length<=1099511627776/\∃s:Nat->Nat->Prop,(∀(j:Nat) (x:α),xs[j]?=some x->∃g off vs cur,A=some ⟨g,off,none⟩/\S g/\w.heap[g]?=some (.cells cur t (0,0))/\
  (∀(i:Nat) (u:Value),vs[i]?=some u->cur[off+j*E.k+i]?=some u)/\E.O w (s j) vs x/\(∀k,s j k->S k)/\¬s j g)/\
  ∀i j k,i<xs.length->j<xs.length->i≠j->s i k->¬s j k
theorem OX.nil(E:EX α)(t:TypeId)(w:World)(S:Nat->Prop)(A:Option Addr):OX E t w S A []:=⟨by simp,λ_ _=>False,λj x hj=>by simp at hj,λi j k hi=>by simp at hi⟩
theorem OX.keep{E:EX α}{t:TypeId}{xs:List α}(h:OX E t w S A xs)(hk:∀k,S k->k<w.heap.size->w'.heap[k]?=w.heap[k]?):OX E t w' S A xs:=by obtain⟨hl,s,h1,h2⟩:=h;refine⟨hl,s,λj x hj=>?_,h2⟩;obtain⟨g,off,vs,cur,hA,hg,hh,hc,ho,hs,hn⟩:=h1 j x hj;exact⟨g,off,vs,cur,hA,hg,(hk g hg (aC hh)).trans hh,hc,E.keep ho (λk h=>hk k (hs k h)),hs,hn⟩
theorem OX.ex{E:EX α}{t:TypeId}{xs:List α}(h:OX E t w S A xs)(he:Ex w w'):OX E t w' S A xs:=h.keep λ_ _ hk=>he.block hk
theorem OX.mono{E:EX α}{t:TypeId}{xs:List α}(h:OX E t w S A xs)(hT:∀k,k<w.heap.size->S k->T k):OX E t w T A xs:=by obtain⟨hl,s,h1,h2⟩:=h;refine⟨hl,λj k=>s j k/\k<w.heap.size,λj x hj=>?_,λi j k hi hj hne a b=>h2 i j k hi hj hne a.1 b.1⟩;obtain⟨g,off,vs,cur,hA,hg,hh,hc,ho,hs,hn⟩:=h1 j x hj;exact⟨g,off,vs,cur,hA,hT g (aC hh) hg,hh,hc,E.mono ho (λk hk h=>⟨h,hk⟩),λk h=>hT k h.2 (hs k h.1),λh=>hn h.1⟩
structure wY (g s e:Nat) (T:Nat->Prop) (t:TypeId) (w w':World):Prop where
 size:w.heap.size<=w'.heap.size
 block:∀k,k<w.heap.size->k≠g->¬T k->w'.heap[k]?=w.heap[k]?
 row:∀cur,w.heap[g]?=some (.cells cur t (0,0))->∃cur':Array Value,w'.heap[g]?=some (.cells cur' t (0,0))/\∀q,(q<s∨e<=q)->cur'[q]?=cur[q]?
theorem wY.refl(g s e:Nat)(T:Nat->Prop)(t:TypeId)(w:World):wY g s e T t w w:=⟨amX _,λ_ _ _ _=>rfl,λcur h=>⟨cur,h,λ_ _=>rfl⟩⟩
theorem wY.sx{U:Nat->Prop}{t:TypeId}{v:World}(h:wY g s e T t v w)(k:bn U w w')(hU:∀i,i<v.heap.size->U i->T i)(hg:¬U g)(hgl:g<v.heap.size):wY g s e T t v w':=
 ⟨anb h.size k.size,λi hi hn hd=>(k.block i (anq hi h.size) (λhu=>hd (hU i hi hu))).trans (h.block i hi hn hd),λcur hc=>by
  obtain⟨cur',h1,h2⟩:=h.row cur hc;exact⟨cur',(k.block g (anq hgl h.size) hg).trans h1,h2⟩⟩
theorem OX.row{E:EX α}{t:TypeId}{xs:List α}(h:OX E t w S A xs){x:α}(hi':xs[i]?=some x):
 ∃g off vs s cur,A=some ⟨g,off,none⟩/\S g/\w.heap[g]?=some (.cells cur t (0,0))/\(∀(q:Nat) (u:Value),vs[q]?=some u->w.cell? ⟨g,off+i*E.k+q,none⟩=some u)/\E.O w s vs x/\(∀k,s k->S k)/\¬s g/\
  ∀w' S' s' vs' x',wY g (off+i*E.k) (off+i*E.k+E.k) s t w w'->(∀(q:Nat) (u:Value),vs'[q]?=some u->w'.cell? ⟨g,off+i*E.k+q,none⟩=some u)->E.O w' s' vs' x'->(∀k,s' k->s k∨w.heap.size<=k)->(∀k,k<w.heap.size->S k->S' k)->(∀k,s' k->S' k)->OX E t w' S' A (xs.set i x'):=by
 have hlt:=(am2.1 hi').1;obtain⟨hl,s,k1,k2⟩:=h;obtain⟨g,off,vs,cur,hA,hg,hh,hc,ho,hs,hn⟩:=k1 i x hi';have hgl:=aC hh;refine⟨g,off,vs,s i,cur,hA,hg,hh,λq u hq=>dF hh (hc q u hq),ho,hs,hn,λw' S' s' vs' x' T hc' ho' hnew hSS hs'=>?_⟩;refine⟨by simpa using hl,λj k=>if j=i then s' k else s j k/\k<w.heap.size,λj y hj=>?_,λa b k ha hb hne h1 h2=>?_⟩
 .obtain⟨cur',hh',hsame⟩:=T.row cur hh;rw[ang]at hj;split at hj
  .rename_i e;subst e;injection hj with hj;subst hj;refine⟨g,off,vs',cur',hA,hSS g hgl hg,hh',λq u hq=>?_,?_,?_,?_⟩
   .have:=hc' q u hq;simpa[World.cell?,hh']using this
   .simp only[amY];exact ho'
   .intro k hk;simp only[amY]at hk;exact hs' k hk
   .simp only[amY];intro hk;rcases hnew g hk with h1|h1
    .exact hn h1
    .omega
  .rename_i e;have hjl:=(am2.1 hj).1;have e':¬j=i:=λh=>e h.symm
   obtain⟨g2,off2,vs2,VF,hA2,_,Gi,hc2,ho2,hs2,hn2⟩:=k1 j y hj;rw[hA]at hA2;injection hA2 with hA2;injection hA2 with e1 e2 _;subst e1 e2;rw[hh]at Gi;injection Gi with Gi;injection Gi with Gi _ _;subst Gi;have hlen:=E.lN ho2;refine⟨g,off,vs2,cur',hA,hSS g hgl hg,hh',λq u hq=>?_,?_,?_,?_⟩
   .have Rn:q<E.k:=by rw[<-hlen];exact(am2.1 hq).1
    rw[hsame _ ?_]
    .exact hc2 q u hq
    .rcases Nat.lt_or_gt_of_ne e with h|h
     .right;have:=an6 E.k (show i+1<=j from h);rw[aow,aox]at this;omega
     .left;have:=an6 E.k (show j+1<=i from h);rw[aow,aox]at this;omega
   .simp only[amZ e'];exact E.keep (E.mono ho2 (λk hk h=>⟨h,hk⟩)) λk hk hkl=>T.block k hkl (λe3=>hn2 (e3▸hk.1)) (λhsi=>k2 i j k hlt hjl e hsi hk.1)
   .intro k hk;simp only[amZ e']at hk;exact hSS k hk.2 (hs2 k hk.1)
   .simp only[amZ e'];exact λhk=>hn2 hk.1
 .simp only[anj]at ha hb;by_cases ea:a=i
  .have eb:¬b=i:=λe=>hne (ea.trans e.symm)
   simp only[amY ea]at h1;simp only[amZ eb]at h2;rcases hnew k h1 with h3|h3
   .exact k2 i b k hlt hb (λe=>eb e.symm) h3 h2.1
   .omega
  .simp only[amZ ea]at h1;by_cases eb:b=i
   .simp only[amY eb]at h2;rcases hnew k h2 with h3|h3
    .exact k2 i a k hlt ha (λe=>ea e.symm) h3 h1.1
    .omega
   .simp only[amZ eb]at h2;exact k2 a b k ha hb hne h1.1 h2.1
end
section
variable {α : Type}
theorem OX.II{E:EX α}{E':EK α}{t:TypeId}{xs:List α}(h:OX E t w S A xs)(hk:E.k=E'.k)(hE:∀{S vs x},E.O w S vs x->E'.R w vs x):gm E' w A xs:=by obtain⟨hl,s,h1,h2⟩:=h;refine⟨hl,λj x hj=>?_⟩;obtain⟨g,off,vs,cur,hA,_,hh,hc,ho,_,_⟩:=h1 j x hj;exact⟨g,off,vs,hA,λi u hu=>by rw[<-hk];exact dF hh (hc i u hu),hE ho⟩
def Lp:EX aF where
 k:=2
 O:=λw S vs x=>∃v0 v1,vs=[v0,v1]/\xK w S v0 v1 x
 lN:=λh=>by obtain⟨_,_,rfl,_⟩:=h;rfl
 keep:=λh hk=>by obtain⟨v0,v1,e,h⟩:=h;exact⟨v0,v1,e,h.keep hk⟩
 mono:=λh hk=>by obtain⟨v0,v1,e,h⟩:=h;exact⟨v0,v1,e,h.mono hk⟩
def JV:EX (List aF) where
 k:=1
 O:=λw S vs x=>∃A c,vs=[.slice A x.length c]/\x.length<=c/\OX Lp 51 w S A x
 lN:=λh=>by obtain⟨_,_,rfl,_⟩:=h;rfl
 keep:=λh hk=>by obtain⟨A,c,e,hc,h⟩:=h;exact⟨A,c,e,hc,h.keep hk⟩
 mono:=λh hk=>by obtain⟨A,c,e,hc,h⟩:=h;exact⟨A,c,e,hc,h.mono hk⟩
theorem D6{vs:List Value}{x:aF}(h:Lp.O w S vs x):EF.R w vs x:=by obtain⟨v0,v1,e,h⟩:=h;exact⟨v0,v1,e,h.rd⟩
theorem JB{vs:List Value}{x:List aF}(h:JV.O w S vs x):iE.R w vs x:=by obtain⟨A,c,e,_,h⟩:=h;exact⟨_,e,A,c,rfl,h.II rfl D6⟩
def OFF(w:World)(a b:Nat)(v:Value)(x:List (List aF)):Prop:=(∃(A:Option Addr) (c:Nat) (S:Nat->Prop),v=.slice A x.length c/\(∀k,S k->a<=k/\k<b)/\OX JV 48 w S A x)/\fF x<=1125899906842624
theorem OFF.rd{x:List (List aF)}(h:OFF w a b v x):Eu w v x:=by obtain⟨⟨A,c,S,e,_,h⟩,ht⟩:=h;exact⟨⟨A,c,e,h.II rfl JB⟩,ht⟩
def wo(w:World)(A:Option Addr)(xs:List (List aF)):Prop:=gm iE w A xs/\∀(j:Nat) (r:List aF),xs[j]?=some r->∃g off P pc,A=some ⟨g,off,none⟩/\w.cell? ⟨g,off+j,none⟩=some (.slice P r.length pc)/\r.length<=pc/\gm EF w P r
theorem wo.at_{xs:List (List aF)}(h:wo w A xs)(hj:j<xs.length):∃g off r P pc,A=some ⟨g,off,none⟩/\xs[j]?=some r/\w.cell? ⟨g,off+j,none⟩=some (.slice P r.length pc)/\r.length<=pc/\gm EF w P r:=by obtain⟨g,off,P,pc,e,q,l,k⟩:=h.2 j _ (am0 hj);exact⟨g,off,_,P,pc,e,am0 hj,q,l,k⟩
theorem OX.P7{xs:List (List aF)}(h:OX JV 48 w S A xs):wo w A xs:=by refine⟨h.II rfl JB,λj r hr=>?_⟩;obtain⟨hl,s,h1,h2⟩:=h;obtain⟨g,off,vs,cur,hA,_,hh,hc,⟨P,pc,e,hpc,ho⟩,_,_⟩:=h1 j r hr;refine⟨g,off,P,pc,hA,?_,hpc,ho.II rfl D6⟩;have:=dF hh (hc 0 (.slice P r.length pc) (by rw[e];rfl));rwa[show JV.k=1 from rfl,anY,anS]at this
theorem OFF.ex{x:List (List aF)}(h:OFF w a b v x)(he:Ex w w'):OFF w' a b v x:=by obtain⟨⟨A,c,S,e,hS,h⟩,ht⟩:=h;exact⟨⟨A,c,S,e,hS,h.ex he⟩,ht⟩
theorem OFF.iv{x:List (List aF)}(h:OFF w a b v x)(k:fD a' b' w w')(hd:b<=a'∨b'<=a):OFF w' a b v x:=by obtain⟨⟨A,c,S,e,hS,h⟩,ht⟩:=h;exact⟨⟨A,c,S,e,hS,h.keep λi hi hk=>k.block i hk (by have:=hS i hi;omega)⟩,ht⟩
theorem zL(S:Nat->Prop)(x:List Int)(v:Value)(k:Int)(w:World)(h:XI w S v x)(hk0:0<=k)(hk:k+dQ x<=4611686018427387904):
 Calls prog 34 #[v,.int .i64 k] w λe w'=>e=.returned (.int .i64 (k+dQ x))/\XI w' S v (I9 k x)/\bn S w w':=by
 obtain⟨A,c,rfl,hf,hS⟩:=h;obtain⟨a,b,ho,hb,hin⟩:∃a b,OI w a b (.slice A x.length c) x/\b<=w.heap.size/\∀k,a<=k->k<b->S k:=by
  cases A with
  |none=>exact⟨0,0,⟨none,c,rfl,⟨hf.1,hf.2.1,λa e=>by cases e⟩,λa e=>by cases e⟩,am4 _,λk _ h=>by omega⟩
  |some p=>
   obtain⟨_,cur,h2⟩:=hf.2.2 p rfl;exact⟨p.block,p.block+1,⟨_,_,rfl,⟨hf.1,hf.2.1,λa e=>by injection e with e;subst e;exact⟨amX _,cur,h2⟩⟩,λa e=>by injection e with e;subst e;exact aoF _⟩,aC h2,λk h1 h2=>by
    obtain rfl:k=p.block:=by omega
    exact hS p rfl⟩
 refine(kQ a b x _ k w ho hb hk0 hk).mono ?_;rintro e w' ⟨rfl,ho',hI⟩;refine⟨rfl,?_,(bn.XY hI).widen λi _ h=>hin i h.1 h.2⟩;obtain⟨A',c',e,hf',hS'⟩:=ho'.xi;exact⟨A',c',e,hf',λad ea=>hin _ (hS' ad ea).1 (hS' ad ea).2⟩
theorem xC(S:Nat->Prop)(x:List aF)(A:Option Addr)(c:Nat)(k:Int)(w:World)(h:OX Lp 51 w S A x)(hk0:0<=k)(hk:k+pz x<=4611686018427387904):
 Calls prog 64 #[.slice A x.length c,.int .i64 k] w λe w'=>e=.returned (.int .i64 (k+pz x))/\OX Lp 51 w' S A (TY k x)/\bn S w w':=by
 have hl:=h.1;go_enter Tryz.func64,Tryz.ntmps64
 go_wp2;go_loopw [1,5] (λq i wr=>∃j:Nat,j<=x.length/\q=.int .i64 (k+bP EF (x.take j))/\i=.int .i64 j/\OX Lp 51 wr S A ((mkS EF k x).take j++x.drop j)/\bn S w wr) (λ_ i _=>x.length-(intOf i).toNat)
 case atStart=>exact⟨0,am4 _,by simp[bP],rfl,by simpa using h,bn.refl _ _⟩
 case round=>
  obtain⟨j,hj,rfl,rfl,hf,he⟩:=hrel;by_cases hlt:j<x.length
  .obtain⟨r,hr⟩:∃r,x[j]?=some r:=⟨_,am0 hlt⟩;have hml:((mkS EF k x).take j).length=j:=by rw[am8,dW];omega
   have hr2:((mkS EF k x).take j++x.drop j)[j]?=some r:=by rw[anw (by omega),hml,an4,anB];simpa using hr
   obtain⟨g,off,vs,s,cur,rfl,hgS,hh,hc,⟨v0,v1,rfl,ho⟩,ZJ,hsg,hset⟩:=hf.row hr2;obtain⟨t0,t1,m0,m1,i0,i1,i2⟩:=ho;obtain⟨P,pc,rfl,f0⟩:=m0;obtain⟨Q,qc,rfl,f1⟩:=m1;have m0:XI wr t0 (.slice P r.n.length pc) r.n:=⟨P,pc,rfl,f0⟩;have m1:XI wr t1 (.slice Q r.d.length qc) r.d:=⟨Q,qc,rfl,f1⟩;clear f0 f1;have s1:=g_ EF (x.take j);have s2:=dL EF hr;have s3:=gZ EF x (j+1);have e4:EF.tot r=dQ r.n+dQ r.d:=rfl;have n0:=eX r.n;have n1:=eX r.d;rw[e4]at s2;have HS:=amW (zJ EF k x j r hr);have S2:=amW s2;have c2:=hc 0 _ rfl;have c3:=hc 1 _ rfl;simp only[show Lp.k=2 from rfl,anS]at c2 c3 hset;have hgl:=aC hh;have hsz:=he.size;have hk4:k+bP EF (x.take j)+(dQ r.n+dQ r.d)<=4611686018427387904:=by have:pz x=bP EF x:=rfl;omega
   clear hr hr2 s2 hml hc hh e4;obtain⟨K,hK⟩:=xq (k+bP EF (x.take j));have HK:=amW hK;rw[hK]at hk4;have hK0:0<=K:=by omega
   rw[hK];clear hK;have T0:=wY.refl g (off+j*2) (off+j*2+2) s 51 wr;have hg0:¬t0 g:=λh=>hsg (i0 g h)
   have hg1:¬t1 g:=λh=>hsg (i1 g h)
   go_wp2_with fail
   refine(zL t0 r.n (.slice P r.n.length pc) K wr m0 (by omega) (by omega)).mono ?_;rintro e w1 ⟨rfl,Ws,I1⟩;have s1':=I1.size;have mm1:=m1.keep λi hi hk=>I1.block i hk (λh=>i2 i h hi)
   replace c2:=(anm (w:=wr) (a:=⟨g,off+j*2,none⟩) (I1.block g hgl hg0)).trans c2;replace c3:=(anm (w:=wr) (a:=⟨g,off+j*2+1,none⟩) (I1.block g hgl hg0)).trans c3;have T1:=T0.sx I1 (λi _ h=>i0 i h) hg0 hgl;clear m0 m1 T0;go_wp2_with fail
   refine(zL t1 r.d (.slice Q r.d.length qc) (K+dQ r.n) w1 mm1 (by omega) (by omega)).mono ?_;rintro e w2 ⟨rfl,mm2,I2⟩;have zU:=anq hgl s1';have mm3:=Ws.keep λi hi hk=>I2.block i hk (λh=>i2 i hi h)
   replace c2:=(anm (w:=w1) (a:=⟨g,off+j*2,none⟩) (I2.block g zU hg1)).trans c2;replace c3:=(anm (w:=w1) (a:=⟨g,off+j*2+1,none⟩) (I2.block g zU hg1)).trans c3;have T2:=T1.sx I2 (λi _ h=>i1 i h) hg1 hgl;have C:∀(q:Nat) (u:Value),[(.slice P r.n.length pc),(.slice Q r.d.length qc)][q]?=some u->w2.cell? ⟨g,off+j*2+q,none⟩=some u:=by
    intro q u hq;rcases q with _|_|q
    .injection hq with hq;subst hq;exact c2
    .injection hq with hq;subst hq;exact c3
    .simp at hq
   have hf':=hset w2 S s _ (EF.A_ K r) T2 C ⟨_,_,rfl,t0,t1,mm3,mm2,i0,i1,i2⟩ (λk h=> .inl h) (λk _ h=>h) ZJ;have TT:=HS.out;rw[HK.out]at TT;rw[TT]at hf';have hX:=(he.trans (I1.widen (T:=S) λi _ h=>ZJ i (i0 i h)) (λ_ _ h=>h)).trans (I2.widen (T:=S) λi _ h=>ZJ i (i1 i h)) (λ_ _ h=>h);have hQ:K+dQ r.n+dQ r.d=k+bP EF (x.take (j+1)):=by have:=S2.out;have:=HK.out;omega
   clear C T1 T2 c2 c3 Ws mm1 mm2 mm3 hset hf TT;rw[hQ];clear hQ;go_wp2_with fail
   go_roundw;case rel=>exact⟨j+1,by omega,rfl,by go_num,hf',hX⟩
   case measure=>simp[intOf]<;>omega
  .obtain rfl:j=x.length:=by omega
   go_wp2;go_ret;rw[ao6,anR,ann (by rw[dW];exact amX _)]at hf;rw[anf];exact⟨rfl,hf,he⟩
theorem vP(S:Nat->Prop)(x:List (List aF))(A:Option Addr)(c:Nat)(k:Int)(w:World)(h:OX JV 48 w S A x)(hk0:0<=k)(hk:k+fF x<=4611686018427387904):
 Calls prog 35 #[.slice A x.length c,.int .i64 k] w λe w'=>e=.returned (.int .i64 (k+fF x))/\OX JV 48 w' S A (BA k x)/\bn S w w':=by
 have hl:=h.1;go_enter Tryz.func35,Tryz.ntmps35
 go_wp2;go_loopw [1,5] (λq i wr=>∃j:Nat,j<=x.length/\q=.int .i64 (k+bP iE (x.take j))/\i=.int .i64 j/\OX JV 48 wr S A ((mkS iE k x).take j++x.drop j)/\bn S w wr) (λ_ i _=>x.length-(intOf i).toNat)
 case atStart=>exact⟨0,am4 _,by simp[bP],rfl,by simpa using h,bn.refl _ _⟩
 case round=>
  obtain⟨j,hj,rfl,rfl,hf,he⟩:=hrel;by_cases hlt:j<x.length
  .obtain⟨r,hr⟩:∃r,x[j]?=some r:=⟨_,am0 hlt⟩;have hml:((mkS iE k x).take j).length=j:=by rw[am8,dW];omega
   have hr2:((mkS iE k x).take j++x.drop j)[j]?=some r:=by rw[anw (by omega),hml,an4,anB];simpa using hr
   obtain⟨g,off,vs,s,cur,rfl,hgS,hh,hc,⟨P,pc,rfl,hpc,ho⟩,ZJ,hsg,hset⟩:=hf.row hr2;have s1:=g_ iE (x.take j);have s2:=dL iE hr;have s3:=gZ iE x (j+1);have e4:iE.tot r=pz r:=rfl;have n0:=Dk r;rw[e4]at s2;have HS:=amW (zJ iE k x j r hr);have S2:=amW s2;have c2:=hc 0 _ rfl;simp only[show JV.k=1 from rfl,anS,anY]at c2 hset;have hgl:=aC hh;have hsz:=he.size;have hk4:k+bP iE (x.take j)+pz r<=4611686018427387904:=by have:fF x=bP iE x:=rfl;omega
   clear hr hr2 s2 hml hc hh e4;obtain⟨K,hK⟩:=xq (k+bP iE (x.take j));have HK:=amW hK;rw[hK]at hk4;have hK0:0<=K:=by omega
   rw[hK];clear hK;have T0:=wY.refl g (off+j) (off+j+1) s 48 wr;go_wp2_with fail
   refine(xC s r P pc K wr ho (by omega) (by omega)).mono ?_;rintro e w1 ⟨rfl,Ws,I1⟩;replace c2:=(anm (w:=wr) (a:=⟨g,off+j,none⟩) (I1.block g hgl hsg)).trans c2;have T1:=T0.sx I1 (λi _ h=>h) hsg hgl;have C:∀(q:Nat) (u:Value),[(Value.slice P r.length pc)][q]?=some u->w1.cell? ⟨g,off+j+q,none⟩=some u:=by
    intro q u hq;rcases q with _|q
    .injection hq with hq;subst hq;exact c2
    .simp at hq
   have hml:(TY K r).length=r.length:=dW EF K r;have hf':=hset w1 S s _ (iE.A_ K r) T1 C ⟨P,pc,by rw[show iE.A_ K r=TY K r from rfl,hml],by rw[show iE.A_ K r=TY K r from rfl,hml];exact hpc,Ws⟩ (λk h=> .inl h) (λk _ h=>h) ZJ;have TT:=HS.out;rw[HK.out]at TT;rw[TT]at hf';have hX:=he.trans (I1.widen (T:=S) λi _ h=>ZJ i h) (λ_ _ h=>h);have hQ:K+pz r=k+bP iE (x.take (j+1)):=by have:=S2.out;have:=HK.out;omega
   clear C T1 c2 Ws hset hf TT hml;rw[hQ];clear hQ;go_wp2_with fail
   go_roundw;case rel=>exact⟨j+1,by omega,rfl,by go_num,hf',hX⟩
   case measure=>simp[intOf]<;>omega
  .obtain rfl:j=x.length:=by omega
   go_wp2;go_ret;rw[ao6,anR,ann (by rw[dW];exact amX _)]at hf;rw[anf];exact⟨rfl,hf,he⟩
theorem vQ(lo hi:Nat)(x:List (List aF))(v:Value)(k:Int)(w:World)(h:OFF w lo hi v x)(_:hi<=w.heap.size)(hk0:0<=k)(hk:k+fF x<=4611686018427387904):
 Calls prog 35 #[v,.int .i64 k] w λe w'=>e=.returned (.int .i64 (k+fF x))/\OFF w' lo hi v (BA k x)/\fD lo hi w w':=by
 obtain⟨⟨A,c,S,rfl,hS,h⟩,ht⟩:=h;refine(vP S x A c k w h hk0 hk).mono ?_;rintro e w' ⟨rfl,m,z⟩;refine⟨rfl,⟨⟨A,c,S,by rw[BA,dW],hS,m⟩,?_⟩,z.exi hS⟩;have:fF (BA k x)=fF x:=xS iE k x;omega
end
structure iJ where
 l:Int
 r:Int
 b:List (List aF)
def nE(w:World)(v0:Value)(x:iJ):Prop:=Eu w v0 x.b
def jf(x:iJ):Int:=fF x.b
def I8(k:Int)(x:iJ):iJ:=⟨x.l,x.r,BA (k) x.b⟩
theorem Iw(x:iJ):0<=jf x:=by unfold jf;have h0:=yH x.b;omega
theorem nE.ex{x:iJ}(h:nE w v0 x)(he:Ex w w'):nE w' v0 x:=Eu.ex h he
theorem nE.tot{x:iJ}(h:nE w v0 x):jf x<=1125899906842624:=Eu.tot h
theorem nE.form{x:iJ}(h:nE w v0 x):∃A0 n0 c0,v0=.slice A0 n0 c0:=by have h0:Eu w v0 _:=h;obtain⟨A0,n0,c0,e0⟩:=h0.form;exact⟨A0,n0,c0,e0⟩
def qw(w:World)(lo hi:Nat)(v0:Value)(x:iJ):Prop:=∃(a0 b0:Nat),OFF w a0 b0 v0 x.b/\lo<=a0/\b0<=hi
theorem qw.rd{x:iJ}(h:qw w lo hi v0 x):nE w v0 x:=by obtain⟨a0,b0,m0,c0,c1⟩:=h;exact m0.rd
theorem qw.ex{x:iJ}(h:qw w lo hi v0 x)(he:Ex w w'):qw w' lo hi v0 x:=by obtain⟨a0,b0,m0,c0,c1⟩:=h;exact⟨a0,b0,m0.ex he,c0,c1⟩
theorem qw.iv{x:iJ}(h:qw w lo hi v0 x)(q:fD a b w w')(hd:hi<=a∨b<=lo):qw w' lo hi v0 x:=by obtain⟨a0,b0,m0,c0,c1⟩:=h;exact⟨a0,b0,m0.iv q (by omega),c0,c1⟩
theorem jX(x:iJ)(v0 u0:Value)(w:World)(h:nE w v0 x)(h':nE w u0 x):
 Calls prog 8 #[.agg #[.int .i64 x.l,.int .i64 x.r,v0],.agg #[.int .i64 x.l,.int .i64 x.r,u0]] w λe w'=>e=.returned (.bool true)/\Ex w w':=by
 obtain⟨l,r,x0⟩:=x;have h0:Eu w v0 _:=h;have g0:Eu w u0 _:=h';dsimp only at h0 g0⊢;obtain⟨x1,d1⟩:=VB.xn w 29 #[.int .i64 l,.int .i64 r,v0];have S1:=amW (show(w.alloc (.cells #[.int .i64 l,.int .i64 r,v0] 29)).heap.size=w.heap.size+1 by simp);go_enter Tryz.func8,Tryz.ntmps8
 go_wp2_with fail
 generalize w.alloc (.cells #[.int .i64 l,.int .i64 r,v0] 29)=W1 at*;obtain⟨y2,d2⟩:=VB.xn W1 29 #[.int .i64 l,.int .i64 r,u0];rw[S1.out]at d2;generalize W1.alloc (.cells #[.int .i64 l,.int .i64 r,u0] 29)=V0 at*;have xx:=x1.trans y2;have dA:=d1.ex y2;have dB:=d2;clear x1 d1 d2 y2 S1;refine(Af x0 v0 u0 V0 (h0.ex xx) (g0.ex xx)).mono ?_;rintro e V1 ⟨rfl,z0⟩;replace dA:=dA.ex z0;replace dB:=dB.ex z0;replace xx:=xx.trans z0;go_wp2;go_ret;exact⟨rfl,xx⟩
theorem tY(lo hi:Nat)(x:iJ)(v0:Value)(k:Int)(w:World)(h:qw w lo hi v0 x)(hb:hi<=w.heap.size)(hk0:0<=k)(hk:k+jf x<=4611686018427387904):
 Calls prog 11 #[.agg #[.int .i64 x.l,.int .i64 x.r,v0],.int .i64 k] w λe w'=>e=.returned (.int .i64 (k+jf x))/\qw w' lo hi v0 (I8 k x)/\fD lo hi w w':=by
 obtain⟨l,r,x0⟩:=x;obtain⟨a0,b0,m0,c0,c1⟩:=h;dsimp only at m0⊢;have t0:=yH x0;have ek:k+jf ⟨l,r,x0⟩=k+fF x0:=by simp only[jf]
 rw[ek]at hk⊢;clear ek;obtain⟨xe,d0⟩:=VB.xn w 29 #[.int .i64 l,.int .i64 r,v0];have dl:=d0.lt;go_enter Tryz.func11,Tryz.ntmps11
 go_wp2_with fail
 generalize w.alloc (.cells #[.int .i64 l,.int .i64 r,v0] 29)=W0 at*;replace m0:=m0.ex xe;have zz:=xe.size;have ee:=fD.aN (a:=lo) (b:=hi) xe;clear xe;refine(vQ a0 b0 x0 v0 (k) W0 m0 (by omega) (by omega) (by omega)).mono ?_;clear m0;rintro e u0 ⟨rfl,m0,z0⟩;replace d0:=d0.iv z0 (by omega);replace ee:=ee.trans (z0.widen (by omega) (by omega));replace zz:=anb zz z0.size;clear z0;go_wp2;go_ret;exact⟨rfl,⟨a0,b0,m0,c0,c1⟩,ee⟩
theorem lG(x:iJ)(v0:Value)(k:Int)(w:World)(h:nE w v0 (I8 k x))(hk0:0<=k)(hk:k+jf x<=4611686018427387904):
 Calls prog 12 #[.agg #[.int .i64 x.l,.int .i64 x.r,v0],.int .i64 k] w λe w'=>e=.returned (.int .i64 (k+jf x))/\Ex w w':=by
 obtain⟨l,r,x0⟩:=x;have h0:Eu w v0 _:=h;dsimp only[I8]at h0⊢;have t0:=yH x0;have ek:k+jf ⟨l,r,x0⟩=k+fF x0:=by simp only[jf]
 rw[ek]at hk⊢;clear ek;obtain⟨xe,d0⟩:=VB.xn w 29 #[.int .i64 l,.int .i64 r,v0];go_enter Tryz.func12,Tryz.ntmps12
 go_wp2_with fail
 generalize w.alloc (.cells #[.int .i64 l,.int .i64 r,v0] 29)=W0 at*;refine(vU x0 v0 (k) W0 (h0.ex xe) (by omega) (by omega)).mono ?_;rintro e u0 ⟨rfl,z0⟩;replace d0:=d0.ex z0;replace xe:=xe.trans z0;go_wp2;go_ret;exact⟨rfl,xe⟩
section
variable {K : Type}
def aL.vd(F:aL K)(u v:Nat->K):Nat->K:=F.va u (F.vs (F.neg F.o) v)
theorem aL.Xw(F:aL K)(u v:Nat->K):F.va (F.vd u v) v=u:=funext λj=>by show F.add (F.add (u j) (F.mul (F.neg F.o) (v j))) (v j)=u j;rw[F.add_assoc,F.neg_mul,F.bB,F.neg_add,F.d_]
theorem aL.aam(F:aL K)(u v:Nat->K):F.vd (F.va u v) v=u:=funext λj=>by show F.add (F.add (u j) (v j)) (F.mul (F.neg F.o) (v j))=u j;rw[F.add_assoc,F.neg_mul,F.bB,F.add_neg,F.d_]
theorem aL.Ui(F:aL K)(u:Nat->K):F.vd u u=F.vz:=funext λj=>by show F.add (u j) (F.mul (F.neg F.o) (u j))=F.z;rw[F.neg_mul,F.bB,F.add_neg]
theorem Sp.Wn{F:aL K}{R:List (Nat->K)}{u v:Nat->K}(h:Sp F R (F.vd u v))(k:Sp F R v):Sp F R u:=by have:=h.add k;rwa[F.Xw]at this
theorem Sp.vd{F:aL K}{R:List (Nat->K)}{u v:Nat->K}(h:Sp F R u)(k:Sp F R v):Sp F R (F.vd u v):=h.add (k.smul _)
theorem aL.aak(F:aL K)(u v s:Nat->K):F.vd (F.va u s) v=F.va (F.vd u v) s:=by unfold aL.vd;rw[F.sQ,F.Uj s,<-F.sQ]
theorem yt(F:aL K)(a b:List (List K)):F.fns (a++b)=F.fns a++F.fns b:=by unfold Ops.fns;rw[anQ]
structure uP (F:aL K) (Z0 rows:List (List K)) (r:Nat) (O:List (List K)):Prop where
 len:O.length=rows.length
 mem:∀v∈O,v∈Z0
 fin:∀(i:Nat) (v:List K),i<r->rows[i]?=some v->Sp F (F.fns (O.take r)) (F.fn v)
 rest:∀(i:Nat) (v o:List K),r<=i->rows[i]?=some v->O[i]?=some o->Sp F (F.fns (O.take r)) (F.vd (F.fn v) (F.fn o))
 back:∀v,Sp F (F.fns (O.take r)) v->Sp F (F.fns (rows.take r)) v
 ind:∀(k:Nat) (o:List K),k<r->O[k]?=some o->¬Sp F (F.fns (O.take k)) (F.fn o)
theorem uP.start(F:aL K)(Z0:List (List K)):uP F Z0 Z0 0 Z0:=
 ⟨rfl,λ_ h=>h,λ_ _ h=>absurd h (aoT _),λi v o _ h1 h2=>by
  rw[h1]at h2;injection h2 with h2;subst h2;rw[F.Ui];exact Sp.zero F _,λ_ h=>h,λ_ _ h=>absurd h (aoT _)⟩
theorem uP.piv{F:aL K}{Z0 rows:List (List K)}{O:List (List K)}(h:uP F Z0 rows r O)(he:jI F rows r c P)(hw:aZ n rows)(hrk:r<=k)(hk:k<rows.length)(hx:F.el (rows.getD k []) c≠F.z):uP F Z0 (F.piv rows r c k) (r+1) (jw O r k):=by
 have hr:r<rows.length:=by omega
 have hol:=h.len;obtain⟨vk,hvk⟩:∃v,rows[k]?=some v:=⟨_,am0 hk⟩;obtain⟨ok,hok⟩:∃v,O[k]?=some v:=⟨_,am0 (by omega)⟩;have ekd:rows.getD k []=vk:=by rw[am6,hvk];rfl
 have eod:O.getD k []=ok:=by rw[am6,hok];rfl
 rw[ekd]at hx;obtain⟨L,hL⟩:=xq (F.oJ vk c);have hlenL:L.length=n:=by rw[<-hL,nW];exact hw vk (am1 hvk)
 have o1:∀i,i<r->(jw O r k)[i]?=O[i]?:=λi hi=>by rw[lD (by omega) (by omega) i (by omega),amZ (by omega),amZ (by omega),am6,am0 (by omega)];rfl
 have o2:(jw O r k)[r]?=some ok:=by
  rw[lD (by omega) (by omega) r (by omega)];by_cases e:r=k
  .rw[amY e,e,eod]
  .rw[amZ e,amY rfl,eod]
 have ot:(jw O r k).take r=O.take r:=anG λi=>by
  rw[anh,anh];split
  .rename_i hi;exact o1 i hi
  .rfl
 have otk:∀j,j<=r->(jw O r k).take j=O.take j:=λj hj=>anG λi=>by
  rw[anh,anh];split
  .rename_i hi;exact o1 i (by omega)
  .rfl
 have ot1:(jw O r k).take (r+1)=O.take r++[ok]:=by rw[am_,ot,o2];rfl
 have inc:∀v,Sp F (F.fns (O.take r)) v->Sp F (F.fns ((jw O r k).take (r+1))) v:=λv hv=>by rw[ot1,yt];exact hv.sub λq hq=>an7 _ hq
 have hokS:Sp F (F.fns ((jw O r k).take (r+1))) (F.fn ok):=by rw[ot1,yt];exact Sp.mem (aoG _ (am3.2 ⟨ok,by simp,rfl⟩))
 have aen:Sp F (F.fns ((jw O r k).take (r+1))) (F.fn vk):=(inc _ (h.rest k vk ok hrk hvk hok)).Wn hokS;have hLS:Sp F (F.fns ((jw O r k).take (r+1))) (F.fn L):=by have:=aen.smul (F.inv (F.el vk c));rw[<-DW,hL]at this;exact this
 have PW:∀(i:Nat) (v:List K),(F.piv rows r c k)[i]?=some v->i<rows.length/\((i=r/\v=L)∨(i≠r/\∃u,rows[if i=k then r else i]?=some u/\∃y,F.fn v=F.va (F.fn u) (F.vs y (F.fn L)))):=λi v hv=>by
  have hil:i<rows.length:=by have:=(am2.1 hv).1;rwa[dU]at this
  rw[lT F.toOps hr hk c i hil,ekd,hL]at hv;injection hv with hv;refine⟨hil,?_⟩;unfold Ops.Bd at hv;by_cases e:i=r
  .rw[amY e]at hv;exact .inl ⟨e,hv.symm⟩
  .rw[amZ e]at hv;have hsl:(if i=k then r else i)<rows.length:=by split<;>omega
   obtain⟨s,hs⟩:=xq ((if i=k then r else i));have e2:(if i=k then r else if i=r then k else i)=s:=by rw[<-hs,amZ e]
   rw[e2]at hv;rw[hs]at hsl⊢;obtain⟨u,hu⟩:∃u,rows[s]?=some u:=⟨_,am0 hsl⟩;have eu:rows.getD s []=u:=by rw[am6,hu];rfl
   rw[eu]at hv;have zT:u.length=L.length:=by rw[hlenL];exact hw _ (am1 hu)
   refine .inr ⟨e,u,hu,?_⟩;by_cases hz:F.jq (F.el u c)=true
   .rw[amY hz]at hv;exact⟨F.z,by rw[<-hv];exact funext λj=>by show _=F.add _ (F.mul F.z _);rw[F.iF,F.d_]⟩
   .rw[amZ hz]at hv;exact⟨_,by rw[<-hv,DY F zT]⟩
 have lead:(F.piv rows r c k)[r]?=some L:=by rw[lT F.toOps hr hk c r hr,ekd,hL];unfold Ops.Bd;rw[amY rfl]
 have pS:∀(i:Nat) (v:List K),i<r+1->(F.piv rows r c k)[i]?=some v->Sp F (F.fns ((F.piv rows r c k).take (r+1))) (F.fn v):=λi v hi hv=>
  Sp.mem (am3.2 ⟨v,ao5.2 ⟨i,by rw[anh,amY hi];exact hv⟩,rfl⟩)
 have Wl:∀v,Sp F (F.fns (rows.take r)) v->Sp F (F.fns ((F.piv rows r c k).take (r+1))) v:=λv hv=>hv.mono λq hq=>by
  obtain⟨u,hu,rfl⟩:=am3.1 hq;obtain⟨i,hi⟩:=anc hu;rw[anh]at hi;split at hi
  .rename_i hir;obtain⟨v',hv'⟩:∃v',(F.piv rows r c k)[i]?=some v':=⟨_,am0 (by rw[dU];omega)⟩;obtain⟨_,hh⟩:=PW i v' hv';rcases hh with⟨e,_⟩|⟨_,u',hu',y,hy⟩
   .omega
   .rw[amZ (by omega),hi]at hu';injection hu' with hu';subst hu';have h1:=(pS i v' (by omega) hv').vd ((pS r L (by omega) lead).smul y);rwa[hy,F.aam]at h1
  .cases hi
 have aeo:Sp F (F.fns ((F.piv rows r c k).take (r+1))) (F.fn vk):=by have:=(pS r L (by omega) lead).smul (F.el vk c);rwa[<-hL,DW,F.OP,F.Dz hx,F.Xv]at this
 have aeF:Sp F (F.fns ((F.piv rows r c k).take (r+1))) (F.fn ok):=by
  have h1:=Wl _ (h.back _ (h.rest k vk ok hrk hvk hok));have h2:=aeo.vd h1;have:F.vd (F.fn vk) (F.vd (F.fn vk) (F.fn ok))=F.fn ok:=funext λj=>by show F.add (F.el vk j) (F.mul (F.neg F.o) (F.add (F.el vk j) (F.mul (F.neg F.o) (F.el ok j))))=F.el ok j;rw[F.distrib,F.neg_mul,F.bB,F.neg_mul,F.bB,F.neg_mul,F.bB,F.neg_neg,<-F.add_assoc,F.add_neg,F.bG]
  rwa[this]at h2
 refine⟨by rw[sS,dU];exact hol,λv hv=>?_,λi v hi hv=>?_,λi v o hi hv ho=>?_,λv hv=>?_,λj o hj ho hs=>?_⟩
 .obtain⟨i,hi⟩:=anc hv;have hil:i<O.length:=by have:=(am2.1 hi).1;rwa[sS]at this
  rw[lD (by omega) (by omega) i hil]at hi;injection hi with hi;have hsl:=uV (n:=O.length) hil (show r<O.length by omega) (show k<O.length by omega);rw[am6,am0 hsl]at hi;rw[<-hi];exact h.mem _ (anO hsl)
 .obtain⟨hil,hh⟩:=PW i v hv;rcases hh with⟨e,e2⟩|⟨e,u,hu,y,hy⟩
  .rw[e2];exact hLS
  .rw[amZ (by omega)]at hu;rw[hy];exact(inc _ (h.fin i u (by omega) hu)).add (hLS.smul y)
 .obtain⟨hil,hh⟩:=PW i v hv;rcases hh with⟨e,_⟩|⟨e,u,hu,y,hy⟩
  .omega
  .rw[hy,F.aak];refine(inc _ ?_).add (hLS.smul y);rw[lD (by omega) (by omega) i (by omega)]at ho;injection ho with ho;by_cases e3:i=k
   .rw[amY e3]at hu ho;exact h.rest r u o (amX _) hu (by rw[<-ho,am6,am0 (by omega)];rfl)
   .rw[amZ e3]at hu;rw[amZ e3,amZ e]at ho;exact h.rest i u o (by omega) hu (by rw[<-ho,am6,am0 (by omega)];rfl)
 .rw[ot1,yt]at hv;refine hv.mono λq hq=>?_
  rcases anu.1 hq with hq|hq
  .exact Wl _ (h.back _ (Sp.mem hq))
  .obtain⟨u,hu,rfl⟩:=am3.1 hq;rw[ank.1 hu];exact aeF
 .rw[otk j (by omega)]at hs;by_cases e:j=r
  .subst e;rw[o2]at ho;injection ho with ho;subst ho;have h1:=h.back _ ((h.rest k vk ok hrk hvk hok).Wn hs);have h2:=he.take.sO h1 λp hp=>he.low k vk hrk hvk p (he.lt p hp)
   exact hx (congrFun h2 c)
  .rw[o1 j (by omega)]at ho;exact h.ind j o (by omega) ho hs
end
section
variable {K : Type}
def aL.wU(F:aL K)(O:List (List K))(y:Nat->K)(m:Nat):Nat->K:=λj=>F.bS m λk=>F.mul (y k) (F.el (O.getD k []) j)
theorem GN(F:aL K)(O:List (List K))(y:Nat->K)(m:Nat):F.wU O y (m+1)=F.va (F.wU O y m) (F.vs (y m) (F.fn (O.getD m []))):=rfl
theorem Eh{F:aL K}{O:List (List K)}(y:Nat->K):∀m,m<=O.length->Sp F (F.fns (O.take m)) (F.wU O y m)
 |0,_=>Sp.zero F _
 |m+1,h=>by
  obtain⟨o,ho⟩:∃o,O[m]?=some o:=⟨_,am0 (by omega)⟩;have e:O.getD m []=o:=by rw[am6,ho];rfl
  rw[GN,e,am_,ho,yt];exact((Eh y m (by omega)).sub λq hq=>an7 _ hq).add ((Sp.mem (aoG _ (am3.2 ⟨o,by simp,rfl⟩))).smul _)
theorem uP.indep{F:aL K}{Z0 rows:List (List K)}{O:List (List K)}(h:uP F Z0 rows r O)(hr:r<=rows.length)(y:Nat->K):∀m,m<=r->F.wU O y m=F.vz->∀k,k<m->y k=F.z
 |0,_,_,k,hk=>absurd hk (aoT _)
 |m+1,hm,h0,k,hk=>by
  have hol:=h.len;obtain⟨o,ho⟩:∃o,O[m]?=some o:=⟨_,am0 (by omega)⟩;have e:O.getD m []=o:=by rw[am6,ho];rfl
  rw[GN,e]at h0;have hym:y m=F.z:=by
   apply aov;intro hne;refine h.ind m o (by omega) ho ?_;have h1:=(Eh (F:=F) (O:=O) y m (by omega)).smul (F.neg (F.inv (y m)));have h2:F.vs (F.neg (F.inv (y m))) (F.wU O y m)=F.fn o:=funext λj=>by have h3:F.add (F.wU O y m j) (F.mul (y m) (F.el o j))=F.z:=congrFun h0 j;show F.mul (F.neg (F.inv (y m))) (F.wU O y m j)=F.el o j;rw[F.lY h3,F.neg_mul,F.mul_comm (F.inv (y m)),F.neg_mul,F.neg_neg,F.mul_comm (F.mul _ _),<-F.mul_assoc,F.inv_mul _ hne,F.bB]
   rwa[h2]at h1
  have h0':F.wU O y m=F.vz:=by rw[<-h0];exact funext λj=>by show _=F.add _ (F.mul (y m) _);rw[hym,F.iF,F.d_]
  rcases anM k m with q|q
  .exact h.indep hr y m (by omega) h0' k q
  .obtain rfl:k=m:=by omega
   exact hym
theorem uP.QB{F:aL K}{Z0 rows:List (List K)}{O:List (List K)}(h:uP F Z0 rows r O)(he:jI F rows r c P)(hi:r<=i){v o:List K}(hv:rows[i]?=some v)(ho:O[i]?=some o)(y:Nat->K)(yr:K)
 (h0:∀p∈P,F.add (F.wU O y r p) (F.mul yr (F.el o p))=F.z) (hne:yr≠F.z∨∃k,k<r/\y k≠F.z):yr≠F.z/\∀j,F.add (F.wU O y r j) (F.mul yr (F.el o j))=F.mul yr (F.el v j):=by
 have hol:=h.len;have hr:=he.hr;have hd:=h.back _ ((Eh (F:=F) (O:=O) y r (by omega)).vd ((h.rest i v o hi hv ho).smul yr));have hz:=he.take.sO hd λp hp=>by show F.add (F.wU O y r p) (F.mul (F.neg F.o) (F.mul yr (F.add (F.el v p) (F.mul (F.neg F.o) (F.el o p)))))=F.z;rw[he.low i v hi hv p (he.lt p hp),F.bG,F.neg_mul,F.bB,F.neg_mul,F.bB,F.mul_comm yr,F.neg_mul,F.neg_neg,F.mul_comm (F.el o p)];exact h0 p hp
 have hall:∀j,F.add (F.wU O y r j) (F.mul yr (F.el o j))=F.mul yr (F.el v j):=λj=>by have h3:F.add (F.wU O y r j) (F.mul (F.neg F.o) (F.mul yr (F.add (F.el v j) (F.mul (F.neg F.o) (F.el o j)))))=F.z:=congrFun hz j;rw[F.neg_mul,F.bB]at h3;have h4:=F.lY h3;rw[F.neg_neg]at h4;rw[h4,F.distrib,F.neg_mul,F.bB,F.mul_comm yr (F.neg _),F.neg_mul,F.mul_comm (F.el o j),F.add_assoc,F.neg_add,F.d_]
 refine⟨λe=>?_,hall⟩;rcases hne with q|⟨k,hk,q⟩
 .exact q e
 .refine q (h.indep he.hr y r (amX _) (funext λj=>?_) k hk);have:=hall j;rwa[e,F.iF,F.d_,F.iF]at this
theorem uP.UJ{F:aL K}{Z0 rows:List (List K)}{p0:Nat}{O:List (List K)}(h:uP F Z0 rows r O)(he:jI F rows r c P)(hi:i<r){v:List K}(hv:rows[i]?=some v)(hp0:P[i]?=some p0)(y:Nat->K)
 (h0:∀(j p:Nat),P[j]?=some p->j≠i->F.wU O y r p=F.z) (hne:∃k,k<r/\y k≠F.z):F.wU O y r p0≠F.z/\∀j,F.wU O y r j=F.mul (F.wU O y r p0) (F.el v j):=by
 have hol:=h.len;have hr:=he.hr;have hd:=h.back _ (Eh (F:=F) (O:=O) y r (by omega));have hvt:(rows.take r)[i]?=some v:=by rw[anh,amY hi];exact hv
 have hz:=he.take.sO (hd.vd ((Sp.mem (F:=F) (am3.2 ⟨v,am1 hvt,rfl⟩)).smul (F.wU O y r p0))) λp hp=>by
  obtain⟨j,hj⟩:=anc hp;show F.add (F.wU O y r p) (F.mul (F.neg F.o) (F.mul (F.wU O y r p0) (F.el v p)))=F.z;by_cases e:j=i
  .subst e;rw[hp0]at hj;injection hj with hj;subst hj;rw[he.one j p0 v hp0 hv,F.fO,F.neg_mul,F.bB,F.add_neg]
  .rw[h0 j p hj e,he.Bh j i p v hj hv (λq=>e q.symm),F.bf,F.bf,F.bG]
 have hall:∀j,F.wU O y r j=F.mul (F.wU O y r p0) (F.el v j):=λj=>by have h3:F.add (F.wU O y r j) (F.mul (F.neg F.o) (F.mul (F.wU O y r p0) (F.el v j)))=F.z:=congrFun hz j;rw[F.neg_mul,F.bB]at h3;rw[F.lY h3,F.neg_neg]
 refine⟨λe=>?_,hall⟩;obtain⟨k,hk,q⟩:=hne;refine q (h.indep he.hr y r (amX _) (funext λj=>?_) k hk);rw[hall j,e,F.iF];rfl
end
section
section
variable {K ι κ : Type}
def aL.ad(F:aL K)(u v:ι->K):ι->K:=λi=>F.add (u i) (v i)
def aL.sm(F:aL K)(c:K)(u:ι->K):ι->K:=λi=>F.mul c (u i)
def aL.ze(F:aL K):ι->K:=λ_=>F.z
structure JO (F:aL K) (S:(ι->K)->Prop):Prop where
 zero:S F.ze
 add:∀u v,S u->S v->S (F.ad u v)
 sm:∀c u,S u->S (F.sm c u)
structure H6 (F:aL K) (f:(ι->K)->K):Prop where
 add:∀u v,f (F.ad u v)=F.add (f u) (f v)
 sm:∀c u,f (F.sm c u)=F.mul c (f u)
def AZ(F:aL K)(S:(ι->K)->Prop)(N:Nat):Prop:=
 ∀(M:Nat) (f:Nat->(ι->K)->K),(∀i,i<M->H6 F (f i))->M<N->∃x,S x/\(∃j,x j≠F.z)/\∀i,i<M->f i x=F.z
theorem AZ.mono{F:aL K}{S:(ι->K)->Prop}{N N':Nat}(h:AZ F S N)(hn:N'<=N):AZ F S N':=λM f hf hM=>h M f hf (by omega)
theorem H6.at(F:aL K)(j:ι):H6 F (λx:ι->K=>x j):=⟨λ_ _=>rfl,λ_ _=>rfl⟩
theorem H6.zero{F:aL K}{f:(ι->K)->K}(h:H6 F f):f F.ze=F.z:=by
 have h1:=h.sm F.z F.ze;have h2:F.sm F.z (F.ze:ι->K)=F.ze:=funext λ_=>F.bf _
 rw[h2,F.iF]at h1;exact h1
def aL.cb(F:aL K)(a:Nat->K)(x:Nat->ι->K)(n:Nat):ι->K:=λi=>F.bS n λk=>F.mul (a k) (x k i)
theorem aL.Le(F:aL K)(a:Nat->K)(x:Nat->ι->K)(n:Nat):F.cb a x (n+1)=F.ad (F.cb a x n) (F.sm (a n) (x n)):=rfl
theorem JO.cb{F:aL K}{S:(ι->K)->Prop}(h:JO F S)(a:Nat->K)(x:Nat->ι->K):∀n,(∀k,k<n->S (x k))->S (F.cb a x n)
 |0,_=>h.zero
 |n+1,hx=>by rw[F.Le];exact h.add _ _ (h.cb a x n λk hk=>hx k (by omega)) (h.sm _ _ (hx n (by omega)))
theorem H6.cb{F:aL K}{f:(ι->K)->K}(h:H6 F f)(a:Nat->K)(x:Nat->ι->K):∀n,f (F.cb a x n)=F.bS n λk=>F.mul (a k) (f (x k))
 |0=>h.zero
 |n+1=>by rw[F.Le,h.add,h.sm,h.cb a x n];rfl
theorem aL.X0(F:aL K){a b:K}(ha:a≠F.z)(hb:b≠F.z):F.mul a b≠F.z:=λe=>by have h1:=congrArg (F.mul (F.inv a)) e;rw[<-F.mul_assoc,F.inv_mul a ha,F.bB,F.bf]at h1;exact hb h1
theorem Xz{F:aL K}{x:Nat->ι->K}{p:Nat->ι}(h:∀k,k<n->x k (p k)≠F.z/\∀l,k<l->l<n->x l (p k)=F.z)(a:Nat->K):(∃k,k<n/\a k≠F.z)->∃i,F.cb a x n i≠F.z:=by
 intro ha;obtain⟨k,⟨hk,hak⟩,hmin⟩:∃k,(k<n/\a k≠F.z)/\∀l,l<k->¬(l<n/\a l≠F.z):=by
  obtain⟨k0,hk0⟩:=ha
  induction k0 using Nat.strongRecOn with
  |_ k0 ih=>
   by_cases hl:∃l,l<k0/\l<n/\a l≠F.z
   .obtain⟨l,h1,h2⟩:=hl;exact ih l h1 h2
   .exact⟨k0,hk0,λl hlt hla=>hl ⟨l,hlt,hla⟩⟩
 refine⟨p k,?_⟩;have key:∀m,m<=n->F.cb a x m (p k)=if k<m then F.mul (a k) (x k (p k))else F.z:=by
  intro m
  induction m with
  |zero=>intro _;rfl
  |succ m ih=>
   intro hm;show F.add (F.cb a x m (p k)) (F.mul (a m) (x m (p k)))=_;rw[ih (by omega)];rcases Nat.lt_trichotomy k m with e|e|e
   .rw[amY e,amY (by omega),(h k hk).2 m e (by omega),F.bf,F.d_]
   .subst e;rw[amZ (Nat.lt_irrefl _),amY (by omega),F.bG]
   .have h0:a m=F.z:=aov λh=>hmin m e ⟨by omega,h⟩
    rw[amZ (by omega),amZ (by omega),h0,F.iF,F.d_]
 rw[key n (amX _),amY hk];exact F.X0 hak (h k hk).1
end
end
structure Ed where
 kd:Int
 vl:Int
 ins:List Int
 outs:List Int
def Ub(w:World)(v0 v1:Value)(x:Ed):Prop:=RI w v0 x.ins/\RI w v1 x.outs
def JX(x:Ed):Int:=dQ x.ins+dQ x.outs
theorem O0(x:Ed):0<=JX x:=by unfold JX;have h0:=eX x.ins;have h1:=eX x.outs;omega
theorem Ub.ex{x:Ed}(h:Ub w v0 v1 x)(he:Ex w w'):Ub w' v0 v1 x:=by obtain⟨h0,h1⟩:=h;exact⟨h0.ex he,h1.ex he⟩
theorem Ub.form{x:Ed}(h:Ub w v0 v1 x):∃A0 n0 c0 A1 n1 c1,v0=.slice A0 n0 c0/\v1=.slice A1 n1 c1:=by obtain⟨h0,h1⟩:=h;obtain⟨A0,n0,c0,e0⟩:=h0.form;obtain⟨A1,n1,c1,e1⟩:=h1.form;exact⟨A0,n0,c0,A1,n1,c1,e0,e1⟩
def Zh(w:World)(lo hi:Nat)(v0 v1:Value)(x:Ed):Prop:=∃(a0 b0 a1 b1:Nat),OI w a0 b0 v0 x.ins/\OI w a1 b1 v1 x.outs/\lo<=a0/\b0<=hi/\lo<=a1/\b1<=hi/\(b0<=a1∨b1<=a0)
theorem Zh.rd{x:Ed}(h:Zh w lo hi v0 v1 x):Ub w v0 v1 x:=by obtain⟨a0,b0,a1,b1,m0,m1,c0,c1,c2,c3,c4⟩:=h;exact⟨m0.rd,m1.rd⟩
theorem O4(c0 c1 v0 v1:Value)(z0 z1:Int)(w:World)(q0:QS 14 w v0 z0)(n0:0<=z0)(q1:QS 14 w v1 z1)(n1:0<=z1):QS 37 w (.agg #[c0,c1,v0,v1]) (z0+z1):=by
 intro u l hx h0 hl;obtain⟨x0,d0⟩:=VB.xn u 65 #[c0,c1,v0,v1];go_enter Tryz.func37,Tryz.ntmps37
 go_wp2_with fail
 generalize u.alloc (.cells #[c0,c1,v0,v1] 65)=W0 at*;have hs:=q0 W0 (l) (hx.trans x0) (by omega) (by omega);by_cases g0:l<z0
 .rw[amY g0]at hs;refine hs.mono ?_;clear hs;rintro e W1 ⟨rfl,x1⟩;go_wp2;go_ret;exact⟨by first|rfl|(rw[amY (by omega)];rfl),x0.trans x1⟩
 rw[amZ g0]at hs;refine hs.mono ?_;clear hs;rintro e W1 ⟨rfl,x1⟩;replace x0:=x0.trans x1;replace d0:=d0.ex x1;clear x1;have y:=d0.c3;go_wp2_with fail
 clear y;have hs:=q1 W1 (l-z0) (hx.trans x0) (by omega) (by omega);by_cases g1:l-z0<z1
 .rw[amY g1]at hs;refine hs.mono ?_;clear hs;rintro e W2 ⟨rfl,x1⟩;go_wp2;go_ret;exact⟨by first|rfl|(rw[amY (by omega)];rfl),x0.trans x1⟩
 rw[amZ g1]at hs;refine hs.mono ?_;clear hs;rintro e W2 ⟨rfl,x1⟩;replace x0:=x0.trans x1;replace d0:=d0.ex x1;clear x1;have HE:=amW (show(if l<z0+z1 then(-1:Int)else l-(z0+z1))=l-z0-z1 by rw[amZ (by omega)];omega);have HF:=amW (show l-(z0+z1)=l-z0-z1 by omega);go_wp2;go_ret;exact⟨by first|(rw[HE.out];rfl)|(rw[HF.out];rfl)|rfl,x0⟩
theorem toEdge_u(x:Ed)(v0 v1:Value)(w:World)(h:Ub w v0 v1 x):
 Calls prog 50 #[.agg #[.int .i64 x.kd,.int .i64 x.vl,v0,v1]] w λe w'=>∃y0 y1,e=.returned (.agg #[.int .i64 x.kd,.int .i64 x.vl,y0,y1])/\Zh w' w.heap.size w'.heap.size y0 y1 x/\Ex w w':=by
 obtain⟨kd,vl,x0,x1⟩:=x;obtain⟨h0,h1⟩:=h;dsimp only at h0 h1⊢;obtain⟨y0,d0⟩:=VB.xn w 65 #[.int .i64 kd,.int .i64 vl,v0,v1];have S0:=amW (show(w.alloc (.cells #[.int .i64 kd,.int .i64 vl,v0,v1] 65)).heap.size=w.heap.size+1 by simp);go_enter Tryz.func50,Tryz.ntmps50
 go_wp2_with fail
 generalize w.alloc (.cells #[.int .i64 kd,.int .i64 vl,v0,v1] 65)=W0 at*;obtain⟨y1,d1⟩:=VB.xn W0 45 #[.int .i64 0,.int .i64 0,.slice none 0 0,.slice none 0 0];rw[S0.out]at d1;have S1:=amW (show(W0.alloc (.cells #[.int .i64 0,.int .i64 0,.slice none 0 0,.slice none 0 0] 45)).heap.size=w.heap.size+1+1 by simp;exact S0.out);generalize W0.alloc (.cells #[.int .i64 0,.int .i64 0,.slice none 0 0,.slice none 0 0] 45)=W1 at*;obtain⟨y2,d2⟩:=VB.xn W1 45 #[.int .i64 kd,.int .i64 vl,.slice none 0 0,.slice none 0 0];rw[S1.out]at d2;have S2:=amW (show(W1.alloc (.cells #[.int .i64 kd,.int .i64 vl,.slice none 0 0,.slice none 0 0] 45)).heap.size=w.heap.size+1+1+1 by simp;exact S1.out);generalize W1.alloc (.cells #[.int .i64 kd,.int .i64 vl,.slice none 0 0,.slice none 0 0] 45)=W2 at*;have xx:=(y0.trans y1).trans y2;have dA:=(d0.ex y1).ex y2;have dB:=d1.ex y2;have dC:=d2;have sz:w.heap.size+1+1+1<=W2.heap.size:=aoh S2.out.symm;clear d0 d1 d2 y0 y1 y2 S0 S1 S2;refine(toIntS_u x0 v0 W2 (h0.ex xx)).mono ?_;rintro e u0 ⟨y0,rfl,m0,z0⟩;obtain⟨Y0,N0,C0,rfl⟩:=m0.rd.form;have tz0:=z0.size;replace dA:=dA.ex z0;replace dB:=dB.ex z0;replace dC:=dC.ex z0;replace xx:=xx.trans z0;have sz0:=sz;replace sz:=anb sz z0.size;have q0:=dA.c3;have q1:=dC.c2;have q2:=dC.frozen 2;go_wp2_with fail
 clear q0 q1 q2;have p1:aJ (w.heap.size+1+1) u0 (u0.setCell ⟨w.heap.size+1+1,2,none⟩ (.slice Y0 N0 C0)):=(aJ.refl _ _).setCell rfl _;replace dC:VB (u0.setCell ⟨w.heap.size+1+1,2,none⟩ (.slice Y0 N0 C0)) (w.heap.size+1+1) 45 #[.int .i64 kd,.int .i64 vl,.slice Y0 N0 C0,.slice none 0 0]:=dC.aX 2 _;replace dA:=dA.aM p1 (by omega);replace dB:=dB.aM p1 (by omega);replace m0:=m0.e1 p1 (by omega);replace sz:=anb sz p1.size;have tp0:=p1.size;replace xx:=xx.aM p1 (by omega);clear p1 z0;generalize(u0.setCell ⟨w.heap.size+1+1,2,none⟩ (.slice Y0 N0 C0))=V0 at*;refine(toIntS_u x1 v1 V0 (h1.ex xx)).mono ?_;rintro e u1 ⟨y1,rfl,m1,z1⟩;obtain⟨Y1,N1,C1,rfl⟩:=m1.rd.form;have tz1:=z1.size;replace m0:=m0.ex z1;replace dA:=dA.ex z1;replace dB:=dB.ex z1;replace dC:=dC.ex z1;replace xx:=xx.trans z1;have sz1:=sz;replace sz:=anb sz z1.size;have q1:=dC.c3;have q2:=dC.frozen 3;obtain⟨r0,r1,r2⟩:=dC.d3;have t0:=dB.c0;have s0:=dB.frozen 0;have t1:=dB.c1;have s1:=dB.frozen 1;have t2:=dB.c2;have s2:=dB.frozen 2;have t3:=dB.c3;have s3:=dB.frozen 3;go_wp2_with fail
 clear q1 q2 r0 r1 r2 t0 s0 t1 s1 t2 s2 t3 s3;have p1:aJ (w.heap.size+1+1) u1 (u1.setCell ⟨w.heap.size+1+1,3,none⟩ (.slice Y1 N1 C1)):=(aJ.refl _ _).setCell rfl _;replace dC:VB (u1.setCell ⟨w.heap.size+1+1,3,none⟩ (.slice Y1 N1 C1)) (w.heap.size+1+1) 45 #[.int .i64 kd,.int .i64 vl,.slice Y0 N0 C0,.slice Y1 N1 C1]:=dC.aX 3 _;replace dA:=dA.aM p1 (by omega);replace dB:=dB.aM p1 (by omega);replace m0:=m0.e1 p1 (by omega);replace m1:=m1.e1 p1 (by omega);replace sz:=anb sz p1.size;have tp1:=p1.size;replace xx:=xx.aM p1 (by omega);clear p1 z1;generalize(u1.setCell ⟨w.heap.size+1+1,3,none⟩ (.slice Y1 N1 C1))=V1 at*;have p1:aJ (w.heap.size+1) V1 ((((V1.setCell ⟨w.heap.size+1,0,none⟩ (.int .i64 kd)).setCell ⟨w.heap.size+1,1,none⟩ (.int .i64 vl)).setCell ⟨w.heap.size+1,2,none⟩ (.slice Y0 N0 C0)).setCell ⟨w.heap.size+1,3,none⟩ (.slice Y1 N1 C1)):=((((aJ.refl (w.heap.size+1) V1).setCell (p:=⟨w.heap.size+1,0,none⟩) rfl _).setCell (p:=⟨w.heap.size+1,1,none⟩) rfl _).setCell (p:=⟨w.heap.size+1,2,none⟩) rfl _).setCell (p:=⟨w.heap.size+1,3,none⟩) rfl _;replace dB:VB ((((V1.setCell ⟨w.heap.size+1,0,none⟩ (.int .i64 kd)).setCell ⟨w.heap.size+1,1,none⟩ (.int .i64 vl)).setCell ⟨w.heap.size+1,2,none⟩ (.slice Y0 N0 C0)).setCell ⟨w.heap.size+1,3,none⟩ (.slice Y1 N1 C1)) (w.heap.size+1) 45 #[.int .i64 kd,.int .i64 vl,.slice Y0 N0 C0,.slice Y1 N1 C1]:=((((dB.aX 0 _).aX 1 _).aX 2 _).aX 3 _);replace m0:=m0.e1 p1 (by omega);replace m1:=m1.e1 p1 (by omega);replace xx:=xx.aM p1 (by omega);have tq:=p1.size;clear p1;generalize((((V1.setCell ⟨w.heap.size+1,0,none⟩ (.int .i64 kd)).setCell ⟨w.heap.size+1,1,none⟩ (.int .i64 vl)).setCell ⟨w.heap.size+1,2,none⟩ (.slice Y0 N0 C0)).setCell ⟨w.heap.size+1,3,none⟩ (.slice Y1 N1 C1))=VE at*;obtain⟨c0,c1,c2,c3⟩:=dB.d4;refine ane (v:=.agg #[.int .i64 kd,.int .i64 vl,.slice Y0 N0 C0,.slice Y1 N1 C1]) (by simp[results,Tryz.results50,go_sem,c0,c1,c2,c3]) rfl ?_;exact⟨_,_,rfl,⟨W2.heap.size,u0.heap.size,V0.heap.size,u1.heap.size,m0,m1,by omega,by omega,by omega,by omega,by omega⟩,xx⟩
theorem Sr(x:Ed)(v0 v1 u0 u1:Value)(w:World)(h:Ub w v0 v1 x)(h':Ub w u0 u1 x):
 Calls prog 63 #[.agg #[.int .i64 x.kd,.int .i64 x.vl,v0,v1],.agg #[.int .i64 x.kd,.int .i64 x.vl,u0,u1]] w λe w'=>e=.returned (.bool true)/\Ex w w':=by
 obtain⟨kd,vl,x0,x1⟩:=x;obtain⟨h0,h1⟩:=h;obtain⟨g0,g1⟩:=h';dsimp only at h0 g0 h1 g1⊢;obtain⟨x1,d1⟩:=VB.xn w 45 #[.int .i64 kd,.int .i64 vl,v0,v1];have S1:=amW (show(w.alloc (.cells #[.int .i64 kd,.int .i64 vl,v0,v1] 45)).heap.size=w.heap.size+1 by simp);go_enter Tryz.func63,Tryz.ntmps63
 go_wp2_with fail
 generalize w.alloc (.cells #[.int .i64 kd,.int .i64 vl,v0,v1] 45)=W1 at*;obtain⟨y2,d2⟩:=VB.xn W1 45 #[.int .i64 kd,.int .i64 vl,u0,u1];rw[S1.out]at d2;generalize W1.alloc (.cells #[.int .i64 kd,.int .i64 vl,u0,u1] 45)=V0 at*;have xx:=x1.trans y2;have dA:=d1.ex y2;have dB:=d2;clear x1 d1 d2 y2 S1;refine(nu x0 v0 u0 V0 (h0.ex xx) (g0.ex xx)).mono ?_;rintro e V1 ⟨rfl,z0⟩;replace dA:=dA.ex z0;replace dB:=dB.ex z0;replace xx:=xx.trans z0;have q0:=dA.c3;have q1:=dB.c3;go_wp2_with fail
 clear q0 q1;refine(nu x1 v1 u1 V1 (h1.ex xx) (g1.ex xx)).mono ?_;rintro e V2 ⟨rfl,z1⟩;replace dA:=dA.ex z1;replace dB:=dB.ex z1;replace xx:=xx.trans z1;go_wp2;go_ret;exact⟨rfl,xx⟩
theorem Zh.keep{x:Ed}(h:Zh w a b v0 v1 x)(hk:∀k,a<=k->k<b->k<w.heap.size->w'.heap[k]?=w.heap[k]?):Zh w' a b v0 v1 x:=by obtain⟨a0,b0,a1,b1,m0,m1,c0,c1,c2,c3,c4⟩:=h;exact⟨a0,b0,a1,b1,m0.keep (λk h1 h2=>hk k (by omega) (by omega)),m1.keep (λk h1 h2=>hk k (by omega) (by omega)),c0,c1,c2,c3,c4⟩
def ZV(x:Ed)(v0 v1:Value):List Value:=[.int .i64 x.kd,.int .i64 x.vl,v0,v1]
def ZU:List Value:=[.int .i64 0,.int .i64 0,.slice none 0 0,.slice none 0 0]
def EE:EK Ed where
 k:=4
 R:=λw vs x=>∃v0 v1,vs=ZV x v0 v1/\Ub w v0 v1 x
 O:=λw a b vs x=>∃v0 v1,vs=ZV x v0 v1/\Zh w a b v0 v1 x
 tot:=λx=>2+JX x
 A_:=λk x=>⟨k,k+1,I9 (k+2) x.ins,I9 (k+2+dQ x.ins) x.outs⟩
 lN:=λh=>by obtain⟨_,_,rfl,_⟩:=h;rfl
 ex:=λh he=>by obtain⟨v0,v1,e,h⟩:=h;exact⟨v0,v1,e,h.ex he⟩
 rd:=λh=>by obtain⟨v0,v1,e,h⟩:=h;exact⟨v0,v1,e,h.rd⟩
 keep:=λh hk=>by obtain⟨v0,v1,e,h⟩:=h;exact⟨v0,v1,e,h.keep hk⟩
 nn:=λx=>by have:=O0 x;omega
 tmk:=λk x=>by simp[JX,dQ,I9,su]
def RE(w:World)(v:Value)(x:List Ed):Prop:=RS EE w v x
def yI(x:List Ed):Int:=bP EE x
def A_(k:Int)(x:List Ed):List Ed:=mkS EE k x
theorem JY(x:List Ed):0<=yI x:=g_ EE x
theorem RE.ex{x:List Ed}(h:RE w v x)(he:Ex w w'):RE w' v x:=RS.ex h he
theorem RE.tot{x:List Ed}(h:RE w v x):yI x<=1125899906842624:=RS.tot h
theorem RE.form{x:List Ed}(h:RE w v x):∃A n c,v=.slice A n c:=RS.form h
theorem gm.edge{xs:List Ed}(h:gm EE w A xs)(hj:j<xs.length):
 ∃g off x P pc Q qc,A=some ⟨g,off,none⟩/\xs[j]?=some x/\w.cell? ⟨g,off+j*4,none⟩=some (.int .i64 x.kd)/\w.cell? ⟨g,off+j*4+1,none⟩=some (.int .i64 x.vl)/\w.cell? ⟨g,off+j*4+2,none⟩=some (.slice P x.ins.length pc)/\w.cell? ⟨g,off+j*4+3,none⟩=some (.slice Q x.outs.length qc)/\Rd w P x.ins/\Rd w Q x.outs:=by
 obtain⟨g,off,vs,x,hA,hx,hc,v0,v1,rfl,⟨P,pc,rfl,hP⟩,⟨Q,qc,rfl,hQ⟩⟩:=h.at_ hj;exact⟨g,off,x,P,pc,Q,qc,hA,hx,hc 0 _ rfl,hc 1 _ rfl,hc 2 _ rfl,hc 3 _ rfl,hP,hQ⟩
def OE(w:World)(a b:Nat)(v:Value)(x:List Ed):Prop:=OS EE 45 w a b v x
theorem OE.rd{x:List Ed}(h:OE w a b v x):RE w v x:=OS.rd h
theorem OE.ex{x:List Ed}(h:OE w a b v x)(he:Ex w w'):OE w' a b v x:=OS.ex h he
theorem OE.iv{x:List Ed}(h:OE w a b v x)(k:fD a' b' w w')(hd:b<=a'∨b'<=a):OE w' a b v x:=OS.iv h k hd
theorem OE.e1{x:List Ed}(h:OE w a b v x)(k:aJ g w w')(hd:g<a∨b<=g):OE w' a b v x:=OS.e1 h k hd
theorem SB:(prog.info? 45).map (λi=>(i.zero,i.size,i.bytes))=some (some (.agg #[.int .i64 0,.int .i64 0,.slice none 0 0,.slice none 0 0]),4,64):=by kernel_rfl
theorem yQ(n:Nat)(hn:n<=1099511627776)(w:World):
 (Instr.makeSlice 32 (.int .i64 (n:Int)) (.int .i64 (n:Int))).run prog w=.ok (.slice (some ⟨w.heap.size,0,none⟩) n n) (w.alloc (.cells ((replicate n ZU).flatten).toArray 45)):=by
 obtain⟨i,hi,hz,hs,hb⟩:=anA SB;have hr:=run_make (P:=prog) w 32 45 i _ Tryz.underlying32 hi hz .i64 .i64 n n (by omega) (by omega) (by rw[hb];omega) (by omega);simp only[aoJ,hs]at hr;rw[hr];have:=CG ZU (by decide) n;rw[show ZU.length=4 from rfl]at this;rw[<-this];rfl
theorem LP(A:Option Addr)(n c:Nat)(zs:List Int)(w:World)(hm:n<=9223372036854775807)(hl:zs.length=n)(h0:∀(i:Nat) (z:Int),zs[i]?=some z->0<=z)
 (h:∀(i:Nat) (z:Int),zs[i]?=some z->∃g off,∃(a b:Int),∃P m pc Q l qc,A=some ⟨g,off,none⟩/\w.cell? ⟨g,off+i*4,none⟩=some (.int .i64 a)/\w.cell? ⟨g,off+i*4+1,none⟩=some (.int .i64 b)/\w.cell? ⟨g,off+i*4+2,none⟩=some (.slice P m pc)/\w.cell? ⟨g,off+i*4+3,none⟩=some (.slice Q l qc)/\QS 37 w (.agg #[.int .i64 a,.int .i64 b,.slice P m pc,.slice Q l qc]) z):
 QS 13 w (.slice A n c) (n+zs.sum):=λu l hx hl0 hl1=>by
 have hs:=sN h0;by_cases hb:l<(n:Int)
 .rw[amY (by omega)];clear h h0;go_enter Tryz.func13,Tryz.ntmps13
  go_wp2;go_ret;exact⟨rfl,asF _⟩
 .have hn:n<=1048576:=by omega
  obtain⟨R,hR⟩:∃R:Int,(if l<(n:Int)+zs.sum then(-1:Int)else l-((n:Int)+zs.sum))=R:=⟨_,rfl⟩;rw[hR];have HR:=amW hR;clear hR;go_enter Tryz.func13,Tryz.ntmps13
  go_wp2;go_loopw [1,5] (λq i wr=>∃k:Nat,k<=n/\q=.int .i64 (l-n-(zs.take k).sum)/\0<=l-n-(zs.take k).sum/\i=.int .i64 k/\Ex u wr) (λ_ i _=>n-(intOf i).toNat)
  case atStart=>exact⟨0,am4 _,by simp,by simp;omega,rfl,asF _⟩
  case round=>
   obtain⟨k,hk,rfl,hq,rfl,he⟩:=hrel;by_cases hlt:k<n
   .obtain⟨z,hz⟩:∃z,zs[k]?=some z:=⟨_,am0 (by omega)⟩;obtain⟨g,off,a,b,P,m,pc,Q,l',qc,rfl,c0,c1,c2,c3,hq4⟩:=h k z hz;have hxe:=hx.trans he;have hh:=hq4 wr (l-n-(zs.take k).sum) hxe hq (by have:=sN (zs:=zs.take k) (λi z hz=>h0 i z (by rw[anh]at hz;split at hz<;>simp_all));omega);have hts:=kK hz;have htl:=sM h0 (k+1);have hz0:=h0 k z hz;replace c0:=af hxe c0;replace c1:=af hxe c1;replace c2:=af hxe c2;replace c3:=af hxe c3;have HT:=amW hts;clear h h0 hz hts hq4;go_wp2_with fail
    by_cases hzl:l-n-(zs.take k).sum<z
    .rw[amY hzl]at hh;refine hh.mono ?_;rintro e w1 ⟨rfl,x1⟩;go_wp2;go_ret;exact⟨by rw[<-HR.out,amY (by have:=HT.out;omega)];rfl,he.trans x1⟩
    .rw[amZ hzl]at hh;refine hh.mono ?_;rintro e w1 ⟨rfl,x1⟩;have hE:l-n-(zs.take k).sum-z=l-n-(zs.take (k+1)).sum:=by have:=HT.out;omega
     rw[hE];have hq':0<=l-n-(zs.take (k+1)).sum:=by omega
     go_wp2;go_roundw;case rel=>exact⟨k+1,by omega,rfl,hq',by go_num,he.trans x1⟩
     case measure=>simp[intOf]<;>omega
   .obtain rfl:k=n:=by omega
    rw[<-hl,anf]at hq;clear h h0;go_wp2;go_ret;refine⟨?_,he⟩;rw[<-HR.out,amZ (by omega)];show Ending.returned (.int .i64 (l-k-(zs.take k).sum))=_;rw[<-hl,anf];congr 2;omega
theorem toEdgeS_u(x:List Ed)(v:Value)(w:World)(h:RE w v x):
 Calls prog 21 #[v] w λe w'=>∃y,e=.returned y/\OE w' w.heap.size w'.heap.size y x/\Ex w w':=by
 obtain⟨⟨A,c,rfl,h⟩,ht⟩:=h;have hl:=h.1;have hmk:=λW=>yQ x.length hl W
 have v0:=VB.new w 45 ((replicate x.length ZU).flatten).toArray;have he0:=(asF w).alloc (.cells ((replicate x.length ZU).flatten).toArray 45);go_enter Tryz.func21,Tryz.ntmps21
 go_wp2;go_loopw [4] (λi wr=>∃k:Nat,k<=x.length/\i=.int .i64 k/\Mk EE 45 ZU wr w.heap.size x k/\Ex w wr) (λi _=>x.length-(intOf i).toNat)
 case atStart=>exact⟨0,am4 _,rfl,Mk.start v0,he0⟩
 case round=>
  obtain⟨k,hk,rfl,hv,he⟩:=hrel;by_cases hlt:k<x.length
  .obtain⟨g,off,r,P,pc,Q,qc,rfl,hr,c0,c1,c2,c3,hP,hQ⟩:=(h.ex he).edge hlt;have Hr:=amW hr;clear hr;go_wp2_with fail
   refine(toEdge_u r _ _ wr ⟨⟨P,pc,rfl,hP⟩,⟨Q,qc,rfl,hQ⟩⟩).mono ?_;rintro e w1 ⟨y0,y1,rfl,o,x1⟩;obtain⟨Y0,N0,C0,Y1,N1,C1,rfl,rfl⟩:=o.rd.form;have v1:=hv.ex x1;have q0:w1.cell? ⟨w.heap.size,k*4,none⟩=some (.int .i64 0):=v1.zero hlt (q:=0) rfl;have q1:w1.cell? ⟨w.heap.size,k*4+1,none⟩=some (.int .i64 0):=v1.zero hlt (q:=1) rfl;have q2:w1.cell? ⟨w.heap.size,k*4+2,none⟩=some (.slice none 0 0):=v1.zero hlt (q:=2) rfl;have q3:w1.cell? ⟨w.heap.size,k*4+3,none⟩=some (.slice none 0 0):=v1.zero hlt (q:=3) rfl;have z0:=v1.frozen (k*4);have z1:=v1.frozen (k*4+1);have z2:=v1.frozen (k*4+2);have z3:=v1.frozen (k*4+3);go_wp2_with fail
   go_roundw;case rel=>exact⟨k+1,by omega,by go_num,hv.ad3 rfl rfl Hr.out x1 ⟨_,_,rfl,o⟩,((((he.trans x1).setCell (amX _) _).setCell (amX _) _).setCell (amX _) _).setCell (amX _) _⟩
   case measure=>simp[intOf]<;>omega
  .obtain rfl:k=x.length:=by omega
   go_wp2;go_ret;exact⟨_,rfl,⟨⟨_,_,rfl,hv.done hl (amX _)⟩,ht⟩,he⟩
theorem NS(x:List Ed)(v u:Value)(w:World)(h:RE w v x)(h':RE w u x):
 Calls prog 31 #[v,u] w λe w'=>e=.returned (.bool true)/\Ex w w':=by
 obtain⟨⟨A,c,rfl,h⟩,_⟩:=h;obtain⟨⟨A',c',rfl,h'⟩,_⟩:=h';have hl:=h.1;go_enter Tryz.func31,Tryz.ntmps31
 go_wp2;go_loopw [5] (λi wr=>∃k:Nat,k<=x.length/\i=.int .i64 k/\Ex w wr) (λi _=>x.length-(intOf i).toNat)
 case atStart=>exact⟨0,am4 _,rfl,asF w⟩
 case round=>
  obtain⟨k,hk,rfl,he⟩:=hrel;by_cases hlt:k<x.length
  .obtain⟨g,off,r,P,pc,Q,qc,rfl,hr,c0,c1,c2,c3,hP,hQ⟩:=(h.ex he).edge hlt;obtain⟨g',off',r',P',pc',Q',MI,rfl,hr',d0,d1,d2,d3,hP',hQ'⟩:=(h'.ex he).edge hlt;obtain rfl:r=r':=by rw[hr]at hr';injection hr'
   clear hr hr';have he1:=λW (y:Ex wr W)=>Sr r _ _ _ _ W ⟨⟨P,pc,rfl,hP.ex y⟩,⟨Q,qc,rfl,hQ.ex y⟩⟩ ⟨⟨P',pc',rfl,hP'.ex y⟩,⟨Q',MI,rfl,hQ'.ex y⟩⟩
   have HS:∀W,Ex wr W->(Ex wr W/\W.cell? ⟨g,off+k*4,none⟩=some (.int .i64 r.kd)/\W.cell? ⟨g,off+k*4+1,none⟩=some (.int .i64 r.vl)/\W.cell? ⟨g,off+k*4+2,none⟩=some (.slice P r.ins.length pc)/\W.cell? ⟨g,off+k*4+3,none⟩=some (.slice Q r.outs.length qc)/\W.cell? ⟨g',off'+k*4,none⟩=some (.int .i64 r.kd)/\W.cell? ⟨g',off'+k*4+1,none⟩=some (.int .i64 r.vl)/\W.cell? ⟨g',off'+k*4+2,none⟩=some (.slice P' r.ins.length pc')/\W.cell? ⟨g',off'+k*4+3,none⟩=some (.slice Q' r.outs.length MI)):=λW y=>⟨y,af y c0,af y c1,af y c2,af y c3,af y d0,af y d1,af y d2,af y d3⟩
   have eA:=(asF wr).drew;go_wp2_with fail
   go_region_held3 (λW=>Ex wr W/\W.cell? ⟨g,off+k*4,none⟩=some (.int .i64 r.kd)/\W.cell? ⟨g,off+k*4+1,none⟩=some (.int .i64 r.vl)/\W.cell? ⟨g,off+k*4+2,none⟩=some (.slice P r.ins.length pc)/\W.cell? ⟨g,off+k*4+3,none⟩=some (.slice Q r.outs.length qc)/\W.cell? ⟨g',off'+k*4,none⟩=some (.int .i64 r.kd)/\W.cell? ⟨g',off'+k*4+1,none⟩=some (.int .i64 r.vl)/\W.cell? ⟨g',off'+k*4+2,none⟩=some (.slice P' r.ins.length pc')/\W.cell? ⟨g',off'+k*4+3,none⟩=some (.slice Q' r.outs.length MI)) (first
    |(exact HS _ x1)|(exact HS _ eA)|(exact HS _ (asF wr))) (first
    |(go_at_call 63
      have hb:=(‹Ex wr _/\_›).1;refine(he1 _ hb).mono ?_;rintro e w1 ⟨rfl,Lu⟩;have x1:=hb.trans Lu;clear hb))
   all_goals go_wp2
   all_goals exact⟨⟨k+1,by omega,by go_num,he.trans x1⟩,by simp[intOf]<;>omega⟩
  .obtain rfl:k=x.length:=by omega
   go_wp2;go_ret;exact⟨rfl,he⟩
theorem FM(lo hi:Nat)(x:List Ed)(v:Value)(k:Int)(w:World)(h:OE w lo hi v x)(hb:hi<=w.heap.size)(hk0:0<=k)(hk:k+yI x<=4611686018427387904):
 Calls prog 33 #[v,.int .i64 k] w λe w'=>e=.returned (.int .i64 (k+yI x))/\OE w' lo hi v (A_ k x)/\fD lo hi w w':=by
 obtain⟨⟨A,c,rfl,h⟩,ht⟩:=h;have hl:=h.1;go_enter Tryz.func33,Tryz.ntmps33
 go_wp2;go_loopw [1,5] (λq i wr=>∃j:Nat,j<=x.length/\q=.int .i64 (k+bP EE (x.take j))/\i=.int .i64 j/\BL EE 45 wr lo hi A ((mkS EE k x).take j++x.drop j)/\fD lo hi w wr) (λ_ i _=>x.length-(intOf i).toNat)
 case atStart=>exact⟨0,am4 _,by simp[bP],rfl,by simpa using h,fD.refl _ _ _⟩
 case round=>
  obtain⟨j,hj,rfl,rfl,hf,he⟩:=hrel;by_cases hlt:j<x.length
  .obtain⟨r,hr⟩:∃r,x[j]?=some r:=⟨_,am0 hlt⟩;have hml:((mkS EE k x).take j).length=j:=by rw[am8,dW];omega
   have hr2:((mkS EE k x).take j++x.drop j)[j]?=some r:=by rw[anw (by omega),hml,an4,anB];simpa using hr
   obtain⟨g,off,vs,a,b,cur,rfl,hh,hc,⟨v0,v1,rfl,ho⟩,hg1,hg2,ha,hb',hd,hset⟩:=hf.row hr2;obtain⟨a0,b0,a1,b1,m0,m1,i0,i1,i2,i3,i4⟩:=ho;obtain⟨P,pc,rfl,f0⟩:=m0;obtain⟨Q,qc,rfl,f1⟩:=m1;have m0:OI wr a0 b0 (.slice P r.ins.length pc) r.ins:=⟨P,pc,rfl,f0⟩;have m1:OI wr a1 b1 (.slice Q r.outs.length qc) r.outs:=⟨Q,qc,rfl,f1⟩;clear f0 f1;have s1:=g_ EE (x.take j);have s2:=dL EE hr;have s3:=gZ EE x (j+1);have e4:EE.tot r=2+(dQ r.ins+dQ r.outs):=rfl;have n0:=eX r.ins;have n1:=eX r.outs;rw[e4]at s2;have HS:=amW (zJ EE k x j r hr);have S2:=amW s2;have c0:=hc 0 _ rfl;have c1:=hc 1 _ rfl;have c2:=hc 2 _ rfl;have c3:=hc 3 _ rfl;simp only[show EE.k=4 from rfl,anS]at c0 c1 c2 c3 hset;have z0:=rR hh (off+j*4);have z1:=rR hh (off+j*4+1);have hgl:=aC hh;have hsz:=he.size;have hk4:k+bP EE (x.take j)+(2+(dQ r.ins+dQ r.outs))<=4611686018427387904:=by have:yI x=bP EE x:=rfl;omega
   clear hr hr2 s2 hml hc hh e4;obtain⟨K,hK⟩:=xq (k+bP EE (x.take j));have HK:=amW hK;rw[hK]at hk4;have hK0:0<=K:=by omega
   rw[hK];clear hK;go_wp2_with fail
   rw[show K+1+1=K+2 by omega];have E0:aJ g wr ((wr.setCell ⟨g,off+j*4,none⟩ (.int .i64 K)).setCell ⟨g,off+j*4+1,none⟩ (.int .i64 (K+1))):=((aJ.refl g wr).setCell (p:=⟨g,off+j*4,none⟩) rfl _).setCell (p:=⟨g,off+j*4+1,none⟩) rfl _;have T0:=(((oZ.refl g (off+j*4) (off+j*4+4) a b 45 wr).set (o:=off+j*4) (by omega) (by omega) (.int .i64 K)).set (o:=off+j*4+1) (by omega) (by omega) (.int .i64 (K+1)));have k0:=mI (u:=.int .i64 (K+1)) (i:=off+j*4+1) (J2 (u:=.int .i64 K) c0) (by omega);have k1:=J2 (u:=.int .i64 (K+1)) (mI (u:=.int .i64 K) (i:=off+j*4) c1 (by omega));have k2:=mI (u:=.int .i64 (K+1)) (i:=off+j*4+1) (mI (u:=.int .i64 K) (i:=off+j*4) c2 (by omega)) (by omega);have k3:=mI (u:=.int .i64 (K+1)) (i:=off+j*4+1) (mI (u:=.int .i64 K) (i:=off+j*4) c3 (by omega)) (by omega);have s0:=E0.size;clear c0 c1 c2 c3 z0 z1;generalize(wr.setCell ⟨g,off+j*4,none⟩ (.int .i64 K)).setCell ⟨g,off+j*4+1,none⟩ (.int .i64 (K+1))=W at*;refine(kQ a0 b0 r.ins (.slice P r.ins.length pc) (K+2) W (m0.e1 E0 (by omega)) (by omega) (by omega) (by omega)).mono ?_;rintro e w1 ⟨rfl,Ws,I1⟩;have s1':=I1.size;have mm1:=(m1.e1 E0 (by omega)).iv I1 (by omega);replace k0:=jS I1 k0 (by omega);replace k1:=jS I1 k1 (by omega);replace k2:=jS I1 k2 (by omega);replace k3:=jS I1 k3 (by omega);have T1:=T0.iv I1 i0 i1 hd hgl;clear m0 m1 T0 E0;go_wp2_with fail
   refine(kQ a1 b1 r.outs (.slice Q r.outs.length qc) (K+2+dQ r.ins) w1 mm1 (by omega) (by omega) (by omega)).mono ?_;rintro e w2 ⟨rfl,mm2,I2⟩;have mm3:=Ws.iv I2 (by omega);replace k0:=jS I2 k0 (by omega);replace k1:=jS I2 k1 (by omega);replace k2:=jS I2 k2 (by omega);replace k3:=jS I2 k3 (by omega);have T2:=T1.iv I2 i2 i3 hd hgl;have C:∀(q:Nat) (u:Value),(ZV (EE.A_ K r) (.slice P r.ins.length pc) (.slice Q r.outs.length qc))[q]?=some u->w2.cell? ⟨g,off+j*4+q,none⟩=some u:=by
    intro q u hq;rcases q with _|_|_|_|q
    .injection hq with hq;subst hq;exact k0
    .injection hq with hq;subst hq;exact k1
    .injection hq with hq;subst hq;exact k2
    .injection hq with hq;subst hq;exact k3
    .simp[ZV]at hq
   have hf':=hset w2 _ (EE.A_ K r) T2 C ⟨_,_,rfl,⟨a0,b0,a1,b1,mm3,mm2,i0,i1,i2,i3,i4⟩⟩;have TT:=HS.out;rw[HK.out]at TT;rw[TT]at hf';have hX:=he.trans (T2.exi hg1 hg2 ha hb');have hQ:K+2+dQ r.ins+dQ r.outs=k+bP EE (x.take (j+1)):=by have:=S2.out;have:=HK.out;omega
   clear C T1 T2 k0 k1 k2 k3 Ws mm1 mm2 mm3 hset hf TT;rw[hQ];clear hQ;go_wp2_with fail
   go_roundw;case rel=>exact⟨j+1,by omega,rfl,by go_num,hf',hX⟩
   case measure=>simp[intOf]<;>omega
  .obtain rfl:j=x.length:=by omega
   go_wp2;go_ret;rw[ao6,anR,ann (by rw[dW];exact amX _)]at hf;rw[anf];exact⟨rfl,⟨⟨A,c,by rw[A_,dW],hf⟩,by rw[A_,xS];exact ht⟩,he⟩
end Go.Proofs.YtekcehkhdjoffaaGreatDoor
