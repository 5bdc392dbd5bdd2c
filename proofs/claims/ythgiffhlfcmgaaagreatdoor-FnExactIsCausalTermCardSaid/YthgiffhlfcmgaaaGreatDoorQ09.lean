/- Lemmas and walks on terms over rational functions: Rows put together by append and by .. -/
import Derived.Test.YthgiffhlfcmgaaaGreatDoorQ07
import Derived.Test.YthgiffhlfcmgaaaGreatDoorQ08
namespace Go.Proofs.YthgiffhlfcmgaaaGreatDoor
open List(range)
open List(replicate)
open Tryz(prog)
set_option maxRecDepth 100000
set_option maxHeartbeats 8000000
set_option linter.all false
open Go Go.RowKit
variable{p x:Int}{b rows xs:List (List aG)}{r:List aG}{B H L a al ar bl br c g k l m n s:Nat}{A P:Option Addr}{K:Type}{v:Value}{W0 w w':World}{Good:World->Prop}
def aU(Good:World->Prop)(w:World)(P:Option Addr)(r:List aG):Prop:=
 r.length<=1099511627776/\∀(j:Nat) (x:aG),r[j]?=some x->∃g off u v,P=some ⟨g,off,none⟩/\w.cell? ⟨g,off+j*2,none⟩=some u/\w.cell? ⟨g,off+j*2+1,none⟩=some v/\u.oneCell'=true/\v.oneCell'=true/\∀w2,Good w2->oD w2 u v x
theorem aU.ex(h:aU Good w P r)(he:Ex w w'):aU Good w' P r:=⟨h.1,λj x hj=>by
 obtain⟨g,off,u,v,e,q0,q1,o⟩:=h.2 j x hj;exact⟨g,off,u,v,e,af he q0,af he q1,o⟩⟩
theorem aU.mono{Good':World->Prop}(h:aU Good w P r)(hg:∀w2,Good' w2->Good w2):aU Good' w P r:=⟨h.1,λj x hj=>by
 obtain⟨g,off,u,v,e,q0,q1,o0,o1,hR⟩:=h.2 j x hj;exact⟨g,off,u,v,e,q0,q1,o0,o1,λw2 hw=>hR w2 (hg w2 hw)⟩⟩
theorem aU.iU{w0:World}(h:bW EF w0 P r)(he:Ex w0 w)(hg:∀w2,Good w2->Ex w0 w2):aU Good w P r:=⟨h.1,λj x hj=>by
 obtain⟨g,off,vs,hA,hc,v0,v1,e,hR⟩:=h.2 j x hj;subst e;obtain⟨A0,n0,c0,A1,n1,c1,e0,e1⟩:=hR.form;exact⟨g,off,v0,v1,hA,af he (hc 0 v0 rfl),af he (hc 1 v1 rfl),by rw[e0];rfl,by rw[e1];rfl,λw2 hw=>hR.ex (hg w2 hw)⟩⟩
theorem aU.tk(h:aU Good w P r)(k:Nat):aU Good w P (r.take k):=⟨axA (ayL _ _) h.1,λj x hj=>h.2 j x (by rw[axL]at hj;split at hj;exact hj;cases hj)⟩
theorem aU.dp{off:Nat}(h:aU Good w (some ⟨g,off,none⟩) r)(k:Nat):aU Good w (some ⟨g,off+k*2,none⟩) (r.drop k):=⟨by rw[axF];have:=h.1;omega,λj x hj=>by
 rw[axY]at hj;obtain⟨g',off',u,v,e,q0,q1,o⟩:=h.2 (k+j) x hj;injection e with e;injection e with e1 e2;subst e1 e2;refine⟨g,_,u,v,rfl,?_,?_,o⟩
 .rwa[ayu,<-ay8]at q0
 .rwa[ayu,<-ay8]at q1⟩
theorem aU.nil(Good:World->Prop)(w:World)(P:Option Addr):aU Good w P []:=⟨by simp,λj x hj=>by simp at hj⟩
def BS(Good:World->Prop)(w:World)(A:Option Addr)(rows:List (List aG)):Prop:=
 ∀(j:Nat) (r:List aG),rows[j]?=some r->∃g off P pc,A=some ⟨g,off,none⟩/\w.cell? ⟨g,off+j,none⟩=some (.slice P r.length pc)/\aU Good w P r
theorem BS.ex(h:BS Good w A rows)(he:Ex w w'):BS Good w' A rows:=λj r hj=>by obtain⟨g,off,P,pc,e,q,k⟩:=h j r hj;exact⟨g,off,P,pc,e,af he q,k.ex he⟩
theorem BS.at_(h:BS Good w A rows){j:Nat}(hj:j<rows.length):∃g off r P pc,A=some ⟨g,off,none⟩/\rows[j]?=some r/\w.cell? ⟨g,off+j,none⟩=some (.slice P r.length pc)/\aU Good w P r:=by obtain⟨g,off,P,pc,e,q,k⟩:=h j _ (axn hj);exact⟨g,off,_,P,pc,e,axn hj,q,k⟩
def uX(Good:World->Prop)(w:World)(a b:Nat)(v:Value)(r:List aG):Prop:=
 ∃ig:List (Value×Value),GE Dy 57 w a b v ig/\ig.length=r.length/\∀(j:Nat) (x:aG),r[j]?=some x->∃u z,ig[j]?=some (u,z)/\∀w2,Good w2->oD w2 u z x
theorem uX.keep{b:Nat}(h:uX Good w a b v r)(hk:∀k,a<=k->k<b->k<w.heap.size->w'.heap[k]?=w.heap[k]?):uX Good w' a b v r:=by obtain⟨ig,h1,h2⟩:=h;exact⟨ig,h1.keep hk,h2⟩
theorem uX.JC{b:Nat}(h:uX Good w a b v r)(hl:r.length<=1099511627776)(hg:Good w):∃A c,v=.slice A r.length c/\bW EF w A r:=by obtain⟨ig,h1,h2,h3⟩:=h;exact Vj h1 h2 hl λj x hj=>by obtain⟨u,z,q1,q2⟩:=h3 j x hj;exact⟨u,z,q1,q2 w hg⟩
theorem uX.form{b:Nat}(h:uX Good w a b v r):∃A c,v=.slice A r.length c:=by obtain⟨ig,h1,h2,_⟩:=h;obtain⟨A,c,e⟩:=h1.kH;exact⟨A,c,by rw[e,h2]⟩
def wK(W0:World):EL (List aG) where
 k:=1
 O:=λw a b vs x=>∃A c,vs=[.slice A x.length c]/\∀w2,Ex W0 w2->(∀k,a<=k->k<b->k<w.heap.size->w2.heap[k]?=w.heap[k]?)->bW EF w2 A x
 mM:=λh=>by obtain⟨_,_,rfl,_⟩:=h;rfl
 keep:=λ{w w' a b vs x} h hk=>by
  obtain⟨A,c,e,h⟩:=h;refine⟨A,c,e,λw2 h0 h2=>h w2 h0 λk h3 h4 h5=>?_⟩;have h6:=hk k h3 h4 h5;refine(h2 k h3 h4 ?_).trans h6;rcases ax9 k w'.heap.size with q|q
  .exact q
  .rw[azA q,azQ h5]at h6;cases h6
 one:=λh u hu=>by obtain⟨A,c,e,_⟩:=h;subst e;simp at hu;subst hu;rfl
theorem uX.KA{b:Nat}(h:uX Good w a b v r)(hl:r.length<=1099511627776)(hg:∀w2,Ex W0 w2->(∀k,a<=k->k<b->k<w.heap.size->w2.heap[k]?=w.heap[k]?)->Good w2):(wK W0).O w a b [v] r:=by obtain⟨A,c,e⟩:=h.form;refine⟨A,c,by rw[e],λw2 h0 hk=>?_⟩;obtain⟨A',c',e',hr⟩:=(h.keep hk).JC hl (hg w2 h0 hk);rw[e]at e';injection e' with e1;rw[e1];exact hr
theorem bO(h:GE (wK W0) 54 w B H v xs)(hH:H<=w.heap.size){v0:Value}{x:List aG}{b:Nat}(hu:(wK W0).O w a b [v0] x)(ha:H<=a)(hab:a<=b)(hb:b<=w.heap.size)(hB:B<=H)(hl:xs.length+1<=1099511627776):
 ∃v' w',(Builtin.append_ #[26,26] 26 #[v,.slice (some ⟨w.heap.size,0,none⟩) 1 1]).run prog (w.alloc (.cells #[v0] 54))=.ok v' w'/\
  GE (wK W0) 54 w' B w'.heap.size v' (xs++[x])/\qh v.ownBlock w w'/\v'≠.slice none 0 0/\∀b',Ex b' w->b'.heap.size<=B->Ex b' w':=by
 obtain⟨i,hi,hz,hs,hby⟩:=axW jB;obtain⟨v',w',h1,h2,h3,_,h5,h6⟩:=GE.push (wK W0) Tryz.underlying26 hi hz hs hby rfl (by show 0<1;omega) (by omega) h hH hu ha hab hb hB hl;exact⟨v',w',h1,h2,h3,h5,h6⟩
theorem GE.SY(h:GE (wK W0) 54 w B H v xs)(hl:xs.length<=1099511627776)(he:Ex W0 w):∃A c,v=.slice A xs.length c/\bW iX w A xs:=by
 by_cases hv:v=.slice none 0 0
 .subst hv;have:=h.VH;subst this;exact⟨none,0,rfl,by simp,λj x hj=>by simp at hj⟩
 .obtain⟨g,c,rfl,hgc,_⟩:=h.form hv;obtain⟨cur,al,bl,_,hB,hH,hh,h1,h2⟩:=h.at_;refine⟨_,c,rfl,hl,λj r hj=>?_⟩;obtain⟨u,k1,⟨A,c2,k2,k3⟩,_⟩:=h1 j r hj;subst k2;refine⟨g,0,[.slice A r.length c2],rfl,λi y hy=>?_,_,rfl,A,c2,rfl,k3 w he λ_ _ _ _=>rfl⟩;rw[axT];exact dJ hh (k1 i y hy)
theorem MV{ig:List (Value×Value)}(h:GE Dy 57 w B H v ig)(hH:H<=w.heap.size)(hB:B<=H)(P:Option Addr)(c:Nat)(r:List aG)(hr:aU Good w P r)(hl:ig.length+r.length<=1099511627776):
 ∃v' w' mg,(Builtin.append_ #[54,54] 54 #[v,.slice P r.length c]).run prog w=.ok v' w'/\GE Dy 57 w' B w'.heap.size v' (ig++mg)/\mg.length=r.length/\
  (∀(j:Nat) (x:aG),r[j]?=some x->∃a b,mg[j]?=some (a,b)/\∀w2,Good w2->oD w2 a b x)/\∀b',Ex b' w->b'.heap.size<=B->Ex b' w':=by
 obtain⟨i,hi,hz,hs,hby⟩:=axW mH;obtain⟨ho,h1⟩:=Dy.row h;have hown:=h.own;rcases P with _|ad
 .have hx:r=[]:=by
   cases r with
   |nil=>rfl
   |cons x xs=>obtain⟨g,off,_,_,hA,_⟩:=hr.2 0 x rfl;cases hA
  subst hx;refine⟨v,w,[],?_,by simpa using h.more (axk _) hH,rfl,λj x hj=>by simp at hj,λb' hb _=>hb⟩;rcases ho.2 with⟨rfl,_⟩|⟨g,cap,cur,rfl,_,_,hnc,_⟩
  .simp[Builtin.append_,ayj Tryz.underlying54,sizeOf,typeInfo,hi,Builtin.lenOf,Builtin.firstCells]
  .simp[Builtin.append_,ayj Tryz.underlying54,sizeOf,typeInfo,hi,Builtin.lenOf,Builtin.firstCells,hnc,storeCells]
 .obtain⟨mg,k1,k2⟩:=pF (Q:=λj (p:Value×Value)=>∃x g off,ad=⟨g,off,none⟩/\r[j]?=some x/\w.cell? ⟨g,off+j*2,none⟩=some p.1/\w.cell? ⟨g,off+j*2+1,none⟩=some p.2/\(∀w2,Good w2->oD w2 p.1 p.2 x)/\p.1.oneCell'=true/\p.2.oneCell'=true) r.length (λj hj=>by
   obtain⟨g,off,u,v,hA,q0,q1,o0,o1,hR⟩:=hr.2 j _ (axn hj);injection hA with hA;subst hA;exact⟨(u,v),r[j],g,off,rfl,axn hj,q0,q1,hR,o0,o1⟩)
  have hnews:∀(q:Nat) (u:Value),(mg.map Ce).flatten[q]?=some u->w.cell? (ad.add q)=some u:=λq u hu=>by
   obtain⟨j,i,p,rfl,hp,hi2⟩:=Qp hu;obtain⟨x,g,off,rfl,_,q0,q1,_⟩:=k2 j p hp;have e:(⟨g,off,none⟩:Addr).add (j*2+i)=⟨g,off+(j*2+i),none⟩:=by unfold Addr.add;split<;>simp_all
   rw[e];rcases i with _|_|i
   .injection hi2 with hi2;subst hi2;exact q0
   .injection hi2 with hi2;subst hi2;exact q1
   .simp[Ce]at hi2
  have hone:∀p∈mg,p.1.oneCell'=true/\p.2.oneCell'=true:=λp hp=>by obtain⟨j,hj⟩:=axz hp;obtain⟨_,_,_,_,_,_,_,_,q⟩:=k2 j p hj;exact q
  obtain⟨v',w',hrun,h2,h3,_,h5⟩:=run_append_own_at (P:=prog) w B 54 54 57 i (.agg #[.slice none 0 0,.slice none 0 0]) 2 48 Tryz.underlying54 hi hz hs hby rfl (by omega) v ig.length _ ho ad r.length c (mg.map Ce).flatten (by rw[yI,k1]) hnews (by
   intro u hu;obtain⟨l,hl2,hu2⟩:=List.mem_flatten.1 hu;obtain⟨p,hp,rfl⟩:=axr.1 hl2;simp[Ce]at hu2;rcases hu2 with rfl|rfl
   .exact(hone p hp).1
   .exact(hone p hp).2) (by unfold maxLen;omega) (by omega) (by omega)
  have hsz:=h3.size;refine⟨v',w',mg,hrun,Dy.mk (by omega) (by rw[axv,ax4,ay6,k1];exact h2) (λk e=>World.ownsRow.lt h2 k e) (λp hp=>by
   rcases axZ.1 hp with h4|h4
   .exact h1 p h4
   .exact hone p h4),k1,λj x hj=>?_,λb' hb hbB=>hb.Og h3 (λg e=>by have:=(hown g e).1;omega)⟩
  have hjl:=(axp.1 hj).1;have hp:=axn (show j<mg.length by omega);obtain⟨x',g,off,_,hx',_,_,hR,_⟩:=k2 j _ hp;rw[hj]at hx';injection hx' with hx';subst hx';exact⟨_,_,hp,hR⟩
theorem qZ(A:Option Addr)(c:Nat)(rows:List (List aG))(w:World)(h:BS Good w A rows)(hr8:rows.length<=8)(acT:∀r∈rows,r.length<=1000):
 Calls prog 89 #[.slice A rows.length c] w λe w'=>∃v,e=.returned v/\uX Good w' w.heap.size w'.heap.size v rows.flatten/\Ex w w':=by
 have hl:rows.length<=1099511627776:=by omega
 have HF:=axj (aan acT);have H12:=axj acT;clear acT;go_enter Tryz.func89,Tryz.ntmps89
 go_wp2_with fail
 go_loopw [3,11] (λs i wr=>∃k n:Nat,k<=rows.length/\i=.int .i64 k/\s=.int .i64 n/\Hid (n=((rows.take k).flatten).length)/\Ex w wr) (λ_ i _=>rows.length-(intOf i).toNat)
 case atStart=>exact⟨0,0,axq _,rfl,rfl,axj (by simp),aCQ _⟩
 case round=>
  rename World=>wi;obtain⟨k,n,hk,rfl,rfl,Hn,he⟩:=hrel;have hn8:n<=8000:=by have:=HF.out k;have:=Hn.out;omega
  by_cases hlt:k<rows.length
  .obtain⟨g,off,r,P,pc,rfl,hr,b0,hP⟩:=(h.ex he).at_ hlt;have hrl:=H12.out r (axo hr);have hw:IntKind.i64.wrap ((n:Int)+(r.length:Int))=((n+r.length:Nat):Int):=by rw[axC _ (by omega)];omega
   have HN:=axj (show n+r.length=((rows.take (k+1)).flatten).length by rw[I6 hr,axv,Hn.out]);have hneg:¬((n+r.length:Nat):Int)<0:=by omega
   clear hr;obtain⟨m,hm⟩:=xq (n+r.length);rw[hm]at hw HN hneg;clear hm;go_wp2_with fail
   clear hw;go_roundw;case rel=>exact⟨k+1,m,by omega,by go_num,rfl,HN,he⟩
   case measure=>simp[intOf];omega
  .obtain rfl:k=rows.length:=by omega
   have HT:=axj (show n=rows.flatten.length by have:=Hn.out;rwa[axE]at this);go_wp2_with fail
   refine(Wq n (by omega) wi).mono ?_;rintro e w1 ⟨A1,c1,rfl,oL,x1⟩;go_wp2_with fail
   go_loopw [6,27] (λo i wr=>∃(k:Nat) (ig:List (Value×Value)),k<=rows.length/\i=.int .i64 k/\GE Dy 57 wr wi.heap.size wr.heap.size o ig/\Hid (ig.length=((rows.take k).flatten).length/\∀(j:Nat) (x:aG),((rows.take k).flatten)[j]?=some x->∃a b,ig[j]?=some (a,b)/\∀w2,Good w2->oD w2 a b x)/\Ex wi wr) (λ_ i _=>rows.length-(intOf i).toNat)
   case atStart=>exact⟨0,[],axq _,rfl,oL,axj ⟨by simp,λj x hj=>by simp at hj⟩,x1⟩
   case round=>
    rename World=>wj;obtain⟨k,ig,hk2,rfl,hge,HP,xU⟩:=hrel;by_cases hlt2:k<rows.length
    .obtain⟨g,off,r,P,pc,rfl,hr,b0W,hP⟩:=(h.ex he).at_ hlt2;have b0:=af xU b0W;have hrl:=H12.out r (axo hr);have hpl:ig.length<=8000:=by have:=HF.out k;have:=HP.out.1;omega
     have HS:=axj (I6 hr);clear hr b0W;obtain⟨v',w',mg,hrun,hge',hl2,hrd,hE⟩:=MV hge (axk _) xU.size P pc r (hP.ex xU) (by omega);have xw:=hE wi xU (axk _);have HQ:=axj (show(ig++mg).length=((rows.take (k+1)).flatten).length/\∀(j:Nat) (x:aG),((rows.take (k+1)).flatten)[j]?=some x->∃a b,(ig++mg)[j]?=some (a,b)/\∀w2,Good w2->oD w2 a b x by
      rw[HS.out];refine⟨by rw[axv,axv,HP.out.1,hl2],λj x hj=>?_⟩;by_cases e:j<ig.length
      .rw[axX (by rw[<-HP.out.1];exact e)]at hj;rw[axX e];exact HP.out.2 j x hj
      .rw[axN (by rw[<-HP.out.1];omega),<-HP.out.1]at hj;rw[axN (by omega)];exact hrd _ x hj)
     clear hge hE hrd HP;go_wp2_with (at_builtin;refine wpList_append_run rfl _ _ _ rfl rfl rfl hrun ?_)
     go_roundw;case rel=>exact⟨k+1,_,by omega,by go_num,hge',HQ,xw⟩
     case measure=>simp[intOf];omega
    .obtain rfl:k=rows.length:=by omega
     obtain⟨q1,q2⟩:=HP.out;rw[axE]at q1 q2;obtain⟨A5,c5,ev⟩:=hge.kH;subst ev;have hwz:=he.size;go_wp2_with fail
     go_ret;exact⟨_,rfl,⟨ig,hge.more hwz (axk _),q1,q2⟩,he.trans xU⟩
theorem j_.nil(w:World)(A:Option Addr):j_ w A []:=⟨⟨by simp,λj x hj=>by simp at hj⟩,λj r hj=>by simp at hj⟩
theorem CZ(S:Nat->Prop)(p:Int)(l r:Nat)(rows:List (List aG))(A:Option Addr)(c:Nat)(w:World)(hF:av p=true)(h:mW S w A rows)(hS:∀k,S k->k<w.heap.size)(hw:aQ (l+r) rows)(Dk:∀c,c<=l+r->iB p 17179869184 (jN (au p) rows c).1)(hn:l+r<=1000)(hR:rows.length<=1000):
 Calls prog 71 #[.int .i64 p,.int .i64 l,.int .i64 r,.slice A rows.length c] w λe w'=>∃A' c',e=.returned (.agg #[.int .i64 l,.int .i64 r,.slice A' ((au p).aC (l+r) rows).length c'])/\(∀w2,bG (λk=>k<w.heap.size) w' w2->j_ w2 A' ((au p).aC (l+r) rows))/\Ex w w':=by
 have hwr:IntKind.i64.wrap ((l:Int)+(r:Int))=((l+r:Nat):Int):=by rw[axC _ (by omega)];omega
 obtain⟨x0,d0⟩:=VB.xn w 28 #[.int .i64 0,.int .i64 0,.slice none 0 0];have cR:=BF (λk=>S k∨k=w.heap.size) p (l+r) rows A c (w.alloc (.cells #[.int .i64 0,.int .i64 0,.slice none 0 0] 28)) hF (h.ex x0 (λk e=>e.elim .inl (λe=> .inr (ayH e.symm)))) (λk e=>by
  have:=d0.lt;exact e.elim (λe=>by have:=hS k e;omega) (λe=>by omega)) hw Dk hn hR
 clear hF h hw Dk hR hS;generalize(au p).aC (l+r) rows=RR at*;obtain⟨N,hN⟩:=xq (l+r);rw[hN]at hwr cR;clear hN hn;go_enter Tryz.func71,Tryz.ntmps71
 go_wp2_with fail
 have hs0:(w.alloc (.cells #[.int .i64 0,.int .i64 0,.slice none 0 0] 28)).heap.size=w.heap.size+1:=by simp
 generalize w.alloc (.cells #[.int .i64 0,.int .i64 0,.slice none 0 0] 28)=W0 at*;refine cR.mono ?_;rintro e w1 ⟨A1,c1,rfl,r1,x1⟩;have dz:=d0.ex x1;have xz:=x0.trans x1;obtain⟨dd,zz⟩:=dz.l8 (.int .i64 l) (.int .i64 r) (.slice A1 RR.length c1);obtain⟨u0,u1,u2⟩:=dz.d3;obtain⟨k0,k1,k2⟩:=dz.z3;obtain⟨C0,C1,C2⟩:=dd.d3;have eF:=xz.aK zz (axk _);have hlt:=d0.lt;have rr:∀w2,bG (λk=>k<w.heap.size) _ w2->j_ w2 A1 RR:=λw2 k=>r1 w2 ((bG.aZ (S:=λk=>k<W0.heap.size) zz (by rw[hs0];omega)).trans k (λi _ e=>by show i<W0.heap.size;rw[hs0];have e:i<w.heap.size:=e;omega))
 clear cR;go_wp2_with fail
 refine axu (v:=.agg #[.int .i64 l,.int .i64 r,.slice A1 RR.length c1]) (by simp[results,Tryz.results71,go_sem,C0,C1,C2]) rfl ?_;exact⟨A1,c1,rfl,rr,eF⟩
def JK(w:World)(b o k:Nat):Prop:=∃(a:Addr) (m d:Nat),w.cell? ⟨b,o,none⟩=some (.slice (some a) m d)/\a.block=k
theorem adO.ofx(h:adO w B v rows n)(hl:rows.length<=1099511627776)(hn:n<=1099511627776):∃(A:Option Addr) (c:Nat) (S:Nat->Prop),v=.slice A rows.length c/\(∀k,S k->B<=k/\k<w.heap.size)/\OX Sv 54 w S A rows:=by
 obtain⟨S,S',R,G,bs,c,e,hc,hM,hO,h1,h2,h3,h4,h5⟩:=h;have hG:=h3 G hM.sg;have num:∀{b o k:Nat},R b o->JK w b o k->B<=k/\k<w.heap.size/\¬S' k:=λ{b o k} hr hk=>by
  obtain⟨a,m,d,hcell,rfl⟩:=hk;obtain⟨⟨q1,_,cur,q2⟩,_⟩:=hO b o a m d hr hcell;refine⟨?_,aF q2,q1⟩;rcases ax9 a.block B with q|q
  .exact absurd (h2 _ q) q1
  .exact q
 have same:∀{b o b' o' k:Nat},R b o->R b' o'->JK w b o k->JK w b' o' k->b'=b/\o'=o:=λ{b o b' o' k} hr hr' hk hk'=>by obtain⟨a,m,d,hcell,e1⟩:=hk;obtain⟨a',m',d',hcell',e2⟩:=hk';exact(hO b o a m d hr hcell).2 b' o' a' m' d' hr' hcell' (e2.trans e1.symm)
 refine⟨some ⟨G,0,none⟩,c,λk=>B<=k/\k<w.heap.size,e,λk hk=>hk,hl,λj k=>∃b:Nat,bs[j]?=some (some b)/\(k=b∨∃o,o<2*n/\JK w b o k),λj r hj=>?_,λi j k _ _ hne hi hj=>?_⟩
 .obtain⟨cur,hcur,hx⟩:=hM.out;have hjl:=(axp.1 hj).1;obtain⟨ob,nL⟩:∃ob,bs[j]?=some ob:=⟨_,axn (by rw[hM.len];exact hjl)⟩;obtain⟨pc,hpc,hcc⟩:=hx j ob nL;obtain⟨hF,hrn⟩:=hM.row j ob r nL hj;refine⟨G,0,[.slice (pB ob) n pc],cur,rfl,hG,hcur,λi u hu=>?_,⟨pB ob,pc,by rw[hrn],by omega,?_⟩,λk hk=>?_,λhk=>?_⟩
  .rcases i with _|i
   .injection hu with hu;subst hu;rw[show Sv.k=1 from rfl,ays,axT,ayb];exact hcc
   .simp at hu
  .cases ob with
   |none=>have:r=[]:=hF;subst this;exact OX.nil _ _ _ _ _
   |some b=>
    obtain⟨hF,hSb⟩:=hF;have hRb:=(h5 j b nL).2;obtain⟨cu,TQ,hxs⟩:=hF;have aeM:∀(o:Nat) (u:Value),cu[o]?=some u->w.cell? ⟨b,o,none⟩=some u:=λo u hu=>by simp[World.cell?,TQ,hu]
    refine⟨by omega,λi k=>JK w b (i*2) k∨JK w b (i*2+1) k,λi x hi=>?_,λi i' k hi hi' hne q1 q2=>?_⟩
    .have hil:=(axp.1 hi).1;obtain⟨A1,c1,A2,c2,e1,e2,r1,r2⟩:=hxs i x hi;have xi:∀(o:Nat) (A:Option Addr) (c:Nat) (l:List Int),o<2*n->cu[o]?=some (.slice A l.length c)->Rd w A l->XI w (λk=>JK w b o k) (.slice A l.length c) l:=λo A c l ho ajK hr=>by
      cases A with
      |none=>
       have:l=[]:=by
        cases l with
        |nil=>rfl
        |cons y l=>obtain⟨_,_,e,_⟩:=hr.2 0 (by simp);cases e
       subst this;exact⟨none,c,rfl,Fr.nil _ _ _,λa e=>by cases e⟩
      |some a=>obtain⟨⟨_,q2,adE,q3⟩,_⟩:=hO b o a l.length c (hRb o ho) (aeM o _ ajK);exact⟨some a,c,rfl,⟨hr,q2,λa' e=>by injection e with e;subst e;exact⟨axq _,adE,q3⟩⟩,λa' e=>by injection e with e;subst e;exact⟨a,l.length,c,aeM o _ ajK,rfl⟩⟩
     refine⟨b,0,[.slice A1 x.n.length c1,.slice A2 x.d.length c2],cu,rfl,⟨b,nL,.inl rfl⟩,TQ,λq u hu=>?_,⟨_,_,rfl,λk=>JK w b (i*2) k,λk=>JK w b (i*2+1) k,xi _ _ _ _ (by omega) e1 r1.1,xi _ _ _ _ (by omega) e2 r2.1,λk hk=> .inl hk,λk hk=> .inr hk,λk q1 q2=>?_⟩,λk hk=>?_,λhk=>?_⟩
     .rw[show Jf.k=2 from rfl,axT]
      match q,hu with
      |0,hu=>simp at hu;rw[<-hu];exact e1
      |1,hu=>simp at hu;rw[<-hu];exact e2
     .have:=(same (hRb _ (by omega)) (hRb _ (by omega)) q1 q2).2;omega
     .rcases hk with hk|hk
      .exact⟨b,nL,.inr ⟨_,by omega,hk⟩⟩
      .exact⟨b,nL,.inr ⟨_,by omega,hk⟩⟩
     .rcases hk with hk|hk
      .exact(num (hRb _ (by omega)) hk).2.2 (h1 _ hSb)
      .exact(num (hRb _ (by omega)) hk).2.2 (h1 _ hSb)
    .rcases q1 with q1|q1<;>rcases q2 with q2|q2<;>
      (have:=(same (hRb _ (by omega)) (hRb _ (by omega)) q1 q2).2;omega)
  .obtain⟨b,hb,hk⟩:=hk;rcases hk with rfl|⟨o,ho,hk⟩
   .exact h3 _ (h5 j _ hb).1
   .have:=num ((h5 j b hb).2 o ho) hk;exact⟨this.1,this.2.1⟩
  .obtain⟨b,hb,hk⟩:=hk;rcases hk with rfl|⟨o,ho,hk⟩
   .exact hM.ng j _ hb rfl
   .exact(num ((h5 j b hb).2 o ho) hk).2.2 (h1 _ hM.sg)
 .obtain⟨b,hb,q1⟩:=hi;obtain⟨b',hb',q2⟩:=hj;have hbb:b≠b':=λe2=>hne (by subst e2;exact hM.nd i j b hb hb')
  rcases q1 with rfl|⟨o,ho,q1⟩
  .rcases q2 with rfl|⟨o',ho',q2⟩
   .exact hbb rfl
   .exact(num ((h5 j b' hb').2 o' ho') q2).2.2 (h1 _ (h5 i _ hb).1)
  .rcases q2 with rfl|⟨o',ho',q2⟩
   .exact(num ((h5 i b hb).2 o ho) q1).2.2 (h1 _ (h5 j _ hb').1)
   .exact hbb (same ((h5 i b hb).2 o ho) ((h5 j b' hb').2 o' ho') q1 q2).1.symm
theorem abY(h:jS p L r):m_ r<=2*L*r.length:=by
 induction r with
 |nil=>exact aza _
 |cons x r ih=>
  have h1:=ih λy hy=>h y (azR _ hy)
  have h2:m_ (x::r)=EF.tot x+m_ r:=iQ EF x r;have h3:=(h x azS).2;have h4:EF.tot x=(x.n.length:Int)+(x.d.length:Int):=rfl;have h5:=h3.1;have h6:=h3.2;rw[h2,h4,axR];have:((2*L*(r.length+1):Nat):Int)=2*L*r.length+2*L:=by rw[Nat.mul_add];push_cast;omega
  push_cast at this⊢
  omega
theorem XG(h:iB p L b)(hw:aQ n b):eZ b<=2*L*n*b.length:=by
 induction b with
 |nil=>exact aza _
 |cons r b ih=>
  have h1:=ih (λy hy=>h y (azR _ hy)) (λy hy=>hw y (azR _ hy));have h2:eZ (r::b)=m_ r+eZ b:=iQ iX _ _;have h3:=abY (h r azS);rw[hw r azS]at h3;rw[h2,axR];have:((2*L*n*(b.length+1):Nat):Int)=2*L*n*b.length+2*L*n:=by rw[Nat.mul_add];push_cast;omega
  push_cast at this⊢
  omega
theorem ab4{x:iK}(h:U6 p x=true):eZ x.b<=1000000:=by
 obtain⟨l,r,_,_,hlr,hg,hw,_,hb,_⟩:=ab5 h;have h1:=XG hg hw;have h2:((2*21*(l+r)*x.b.length:Nat):Int)<=((2*21*12*12:Nat):Int):=by
  have:=Nat.mul_le_mul (Nat.mul_le_mul (axk (2*21)) hlr) hb
  exact_mod_cast this
 push_cast at h1 h2
 omega
theorem acP(p:Int)(x:iK):eZ (ifU p x).1.b<=1125899906842624:=by
 cases h:U6 p x with
 |true=>rw[TM h];have:=ab4 h;show eZ x.b<=_;omega
 |false=>rw[Zz h];show(0:Int)<=_;omega
def aix(b:Bool)(u v:Value):Value:=if b=true then u else v
def SG(p l r:Int)(b:List (List aG)):Bool:=qf l r&&(fV p (l+r).toNat b&&av p)
theorem pO(p:Int)(l r:Nat)(rows:List (List aG))(A:Option Addr)(c:Nat)(w:World)(hF:av p=true)(h:bW iX w A rows)(hw:aQ (l+r) rows)(Dk:∀c,c<=l+r->iB p 17179869184 (jN (au p) rows c).1)(hn:l+r<=1000)(hR:rows.length<=1000):
 Calls prog 88 #[.int .i64 p,.int .i64 l,.int .i64 r,.slice A rows.length c] w λe w'=>∃y,e=.returned (.agg #[.int .i64 l,.int .i64 r,y])/\rQ w' w.heap.size w'.heap.size y ((au p).aC (l+r) rows)/\Ex w w':=by
 have hwr:IntKind.i64.wrap ((l:Int)+(r:Int))=((l+r:Nat):Int):=by rw[axC _ (by omega)];omega
 obtain⟨x0,d0⟩:=VB.xn w 28 #[.int .i64 0,.int .i64 0,.slice none 0 0];have cR:=JD p (l+r) rows A c (w.alloc (.cells #[.int .i64 0,.int .i64 0,.slice none 0 0] 28)) hF (h.ex x0) hw Dk hn hR;have hrl:((au p).aC (l+r) rows).length<=1000:=by unfold Ops.aC;rw[axx,oV];omega
 clear hF h hw Dk hR;generalize(au p).aC (l+r) rows=RR at*;obtain⟨N,hN⟩:=xq (l+r);rw[hN]at hwr cR hn;clear hN;go_enter Tryz.func88,Tryz.ntmps88
 go_wp2_with fail
 generalize w.alloc (.cells #[.int .i64 0,.int .i64 0,.slice none 0 0] 28)=W0 at*;refine cR.mono ?_;rintro e w1 ⟨v,rfl,o,x1⟩;have fx:rQ w1 W0.heap.size w1.heap.size v RR:=o.ofx (by omega) (by omega);obtain⟨A1,c1,rfl,_⟩:=fx.rd;have hlt:=d0.lt;clear cR o;have dz:=d0.ex x1;have xz:=x0.trans x1;obtain⟨dd,zz⟩:=dz.l8 (.int .i64 l) (.int .i64 r) (.slice A1 RR.length c1);obtain⟨u0,u1,u2⟩:=dz.d3;obtain⟨k0,k1,k2⟩:=dz.z3;obtain⟨C0,C1,C2⟩:=dd.d3;have eF:=xz.aK zz (axk _);have fx2:=fx.iv (jE.aZ zz) (by omega);have fx3:=fx2.more (a':=w.heap.size) (b':=w1.heap.size) (by omega) (axk _);go_wp2_with fail
 refine axu (v:=.agg #[.int .i64 l,.int .i64 r,.slice A1 RR.length c1]) (by simp[results,Tryz.results88,go_sem,C0,C1,C2]) rfl ?_;exact⟨_,rfl,fx3.more (axk _) (ayH (by simp)),eF⟩
theorem PX(p:Int)(x:iK)(A:Option Addr)(c:Nat)(w:World)(h:bW iX w A x.b)(ht:Tb w):
 Calls prog 54 #[.int .i64 p,.agg #[.int .i64 x.l,.int .i64 x.r,.slice A x.b.length c]] w λe w'=>e=.returned (.tuple #[aix (SG p x.l x.r x.b) (.agg #[.int .i64 x.l,.int .i64 x.r,.slice A x.b.length c]) (.agg #[.int .i64 0,.int .i64 0,.slice none 0 0]),.bool (SG p x.l x.r x.b)])/\Ex w w':=by
 obtain⟨l,r,rows⟩:=x;dsimp only at h⊢;have hl:=h.1;obtain⟨y0,d0⟩:=VB.xn w 28 #[.int .i64 l,.int .i64 r,.slice A rows.length c];have S0:=axj (show(w.alloc (.cells #[.int .i64 l,.int .i64 r,.slice A rows.length c] 28)).heap.size=w.heap.size+1 by simp);cases hfit:qf l r with
 |false=>
  have HV:=axj (show SG p l r rows=false by unfold SG;rw[hfit];rfl);have c1:∀W,Calls prog 50 #[.int .i64 l,.int .i64 r] W λe w'=>e=.returned (.bool false)/\W=w':=λW=>by have:=qx l r W;rw[hfit]at this;exact this
  clear hfit;go_enter Tryz.func54,Tryz.ntmps54
  go_wp2_with fail
  generalize w.alloc (.cells #[.int .i64 l,.int .i64 r,.slice A rows.length c] 28)=W0 at*;obtain⟨y2,d2⟩:=VB.xn W0 28 #[.int .i64 0,.int .i64 0,.slice none 0 0];rw[S0.out]at d2;generalize W0.alloc (.cells #[.int .i64 0,.int .i64 0,.slice none 0 0] 28)=W2 at*;have xx:=y0.trans y2;have q:=d0.ex y2;clear y0 y2;obtain⟨q0,q1⟩:=q.d2;refine(c1 _).mono ?_;rintro e w3 ⟨rfl,rfl⟩;have dz:=d2;have xz:=xx;obtain⟨dd,zz⟩:=dz.l8 (.int .i64 0) (.int .i64 0) (.slice none 0 0);obtain⟨u0,u1,u2⟩:=dz.d3;obtain⟨k0,k1,k2⟩:=dz.z3;obtain⟨C0,C1,C2⟩:=dd.d3;have eF:=xz.aK zz (by omega);go_wp2_with fail
  refine axu (v:=.tuple #[.agg #[.int .i64 0,.int .i64 0,.slice none 0 0],.bool false]) (by simp[results,Tryz.results54,go_sem,C0,C1,C2]) rfl ?_;rw[HV.out];exact⟨rfl,eF⟩
 |true=>
  have hlr:=Fz hfit;obtain⟨N,hN⟩:∃N:Nat,(l+r).toNat=N:=⟨_,rfl⟩;have hwr:IntKind.i64.wrap (l+r)=(N:Int):=by rw[axC _ (by omega)];omega
  have auJ:N<=12:=by omega
  have HVB:=axj (show SG p l r rows=(fV p N rows&&av p) by unfold SG;rw[hfit,hN];rfl);have c1:∀W,Calls prog 50 #[.int .i64 l,.int .i64 r] W λe w'=>e=.returned (.bool true)/\W=w':=λW=>by have:=qx l r W;rw[hfit]at this;exact this
  have c2:=λW (hW:Ex w W)=>WM p N A c rows W (h.ex hW) (by omega) (ht.ex hW)
  clear hfit hlr hN;cases hok:(fV p N rows&&av p)with
  |false=>
   have HV:=axj (HVB.out.trans hok);rw[hok]at c2;clear hok;go_enter Tryz.func54,Tryz.ntmps54
   go_wp2_with fail
   generalize w.alloc (.cells #[.int .i64 l,.int .i64 r,.slice A rows.length c] 28)=W0 at*;obtain⟨y2,d2⟩:=VB.xn W0 28 #[.int .i64 0,.int .i64 0,.slice none 0 0];rw[S0.out]at d2;generalize W0.alloc (.cells #[.int .i64 0,.int .i64 0,.slice none 0 0] 28)=W2 at*;have xx:=y0.trans y2;have q:=d0.ex y2;clear y0 y2;obtain⟨q0,q1,q2⟩:=q.d3;refine(c1 _).mono ?_;rintro e w3 ⟨rfl,rfl⟩;go_wp2_with fail
   refine(c2 W2 xx).mono ?_;rintro e w4 ⟨rfl,x4⟩;clear hwr;have dz:=d2.ex x4;have xz:=xx.trans x4;obtain⟨dd,zz⟩:=dz.l8 (.int .i64 0) (.int .i64 0) (.slice none 0 0);obtain⟨u0,u1,u2⟩:=dz.d3;obtain⟨k0,k1,k2⟩:=dz.z3;obtain⟨C0,C1,C2⟩:=dd.d3;have eF:=xz.aK zz (by omega);go_wp2_with fail
   refine axu (v:=.tuple #[.agg #[.int .i64 0,.int .i64 0,.slice none 0 0],.bool false]) (by simp[results,Tryz.results54,go_sem,C0,C1,C2]) rfl ?_;rw[HV.out];exact⟨rfl,eF⟩
  |true=>
   have HV:=axj (HVB.out.trans hok);rw[hok]at c2;clear hok;go_enter Tryz.func54,Tryz.ntmps54
   go_wp2_with fail
   generalize w.alloc (.cells #[.int .i64 l,.int .i64 r,.slice A rows.length c] 28)=W0 at*;obtain⟨y2,d2⟩:=VB.xn W0 28 #[.int .i64 0,.int .i64 0,.slice none 0 0];rw[S0.out]at d2;generalize W0.alloc (.cells #[.int .i64 0,.int .i64 0,.slice none 0 0] 28)=W2 at*;have xx:=y0.trans y2;have q:=d0.ex y2;clear y0 y2;obtain⟨q0,q1,q2⟩:=q.d3;refine(c1 _).mono ?_;rintro e w3 ⟨rfl,rfl⟩;go_wp2_with fail
   refine(c2 W2 xx).mono ?_;rintro e w4 ⟨rfl,x4⟩;clear hwr;replace q0:=af x4 q0;replace q1:=af x4 q1;replace q2:=af x4 q2;have dz:=d2.ex x4;have xz:=xx.trans x4;obtain⟨dd,zz⟩:=dz.l8 (.int .i64 l) (.int .i64 r) (.slice A rows.length c);obtain⟨u0,u1,u2⟩:=dz.d3;obtain⟨k0,k1,k2⟩:=dz.z3;obtain⟨C0,C1,C2⟩:=dd.d3;have eF:=xz.aK zz (by omega);go_wp2_with fail
   refine axu (v:=.tuple #[.agg #[.int .i64 l,.int .i64 r,.slice A rows.length c],.bool true]) (by simp[results,Tryz.results54,go_sem,C0,C1,C2]) rfl ?_;rw[HV.out];exact⟨rfl,eF⟩
def qY(l:Nat)(b:List (List aG)):List (List aG):=b.map λr=>r.drop l++r.take l
theorem R8(h:b[k]?=some r):(qY l b).take (k+1)=(qY l b).take k++[r.drop l++r.take l]:=by rw[axy,qY,axw,h];rfl
theorem I_{r:Nat}(h:aQ (l+r) b):aQ (r+l) (qY l b):=λv hv=>by obtain⟨u,hu,rfl⟩:=axr.1 hv;have:=h u hu;rw[axv,axF,axx];omega
theorem aaS(h:iB p L b):iB p L (qY l b):=λv hv=>by obtain⟨u,hu,rfl⟩:=axr.1 hv;exact((h u hu).drop l).app ((h u hu).take l)
theorem acf(h:n<=12):21*4^n<=17179869184:=by have:4^n<=4^12:=Nat.pow_le_pow_right (by omega) h;omega
theorem GE.MC{S:Nat->Prop}(h:GE (wK W0) 54 w B H v xs)(hl:xs.length<=1099511627776)(he:Ex W0 w)(hS:∀k,S k->W0.heap.size<=k/\k<B):∃A c,v=.slice A xs.length c/\mW S w A xs:=by
 by_cases hv:v=.slice none 0 0
 .subst hv;have:=h.VH;subst this;exact⟨none,0,rfl,by simp,λj x hj=>by simp at hj⟩
 .obtain⟨g,c,rfl,hgc,_⟩:=h.form hv;obtain⟨cur,al,bl,_,hB,hH,hh,h1,h2⟩:=h.at_;refine⟨_,c,rfl,hl,λj r hj=>?_⟩;obtain⟨u,k1,⟨A,c2,k2,k3⟩,k4,_⟩:=h1 j r hj;subst k2;refine⟨g,0,A,c2,rfl,?_,λw2 hw2=>k3 w2 (he.sx hw2 λi hi=>(hS i hi).1) λk q1 _ q3=>hw2.block k q3 λe=>by have:=hS k e;omega⟩;have:=k1 0 _ rfl;rw[show(wK W0).k=1 from rfl,ays,ayb]at this;rw[axT];exact dJ hh this
theorem Yr{B:Option Addr}{d:Nat}{xs ys:List aG}(hv:VB w g 54 #[.slice A n c,.slice B m d])(hx:aU Good w A xs)(hy:aU Good w B ys)(hn:xs.length=n)(hm:ys.length=m):BS Good w (some ⟨g,0,none⟩) [xs,ys]:=by
 subst hn hm;intro j r hj;rcases j with _|_|j
 .injection hj with hj;subst hj;exact⟨g,0,A,c,rfl,hv.c0,hx⟩
 .injection hj with hj;subst hj;exact⟨g,0,B,d,rfl,hv.c1,hy⟩
 .simp at hj
theorem GA(p:Int)(l r:Nat)(b:List (List aG))(A:Option Addr)(c:Nat)(w:World)(h:j_ w A b)(hb:b.length<=12)(hlr:l+r<=12)(hw:aQ (l+r) b)(h0:∀v∈b,0<v.length)(hF:av p=true)(hg:iB p 21 b):
 Calls prog 91 #[.int .i64 p,.agg #[.int .i64 l,.int .i64 r,.slice A b.length c]] w λe w'=>∃y,e=.returned (.agg #[.int .i64 r,.int .i64 l,y])/\rQ w' w.heap.size w'.heap.size y ((au p).aC (r+l) (qY l b))/\Ex w w':=by
 have HW:=axj hw;have HF:=axj hF;have HG:=axj hg;have H0:=axj h0;have H:=axj h;have hl:=h.1.1;obtain⟨y0,d0⟩:=VB.xn w 28 #[.int .i64 l,.int .i64 r,.slice A b.length c];have S0:=axj (show(w.alloc (.cells #[.int .i64 l,.int .i64 r,.slice A b.length c] 28)).heap.size=w.heap.size+1 by simp);clear hw hF hg h0 h;go_enter Tryz.func91,Tryz.ntmps91
 go_wp2_with fail
 generalize w.alloc (.cells #[.int .i64 l,.int .i64 r,.slice A b.length c] 28)=W0 at*;obtain⟨y2,d2⟩:=VB.xn W0 28 #[.int .i64 0,.int .i64 0,.slice none 0 0];have S2:=axj (show(W0.alloc (.cells #[.int .i64 0,.int .i64 0,.slice none 0 0] 28)).heap.size=w.heap.size+1+1 by simp;exact S0.out);rw[S0.out]at d2;have q:=d0.ex y2;generalize W0.alloc (.cells #[.int .i64 0,.int .i64 0,.slice none 0 0] 28)=W2 at*;have xx:=y0.trans y2;clear y0 y2 d0;have tX:=GE.empty (wK w) 54 W2 (axk W2.heap.size);have he1:=(aCQ W2).alloc (.cells #[] 54);have hs1:(W2.alloc (.cells #[] 54)).heap.size=W2.heap.size+1:=by simp
 have q2:=(q.ex he1).c2;go_wp2_with fail
 go_loopw [5,12] (λo i wr=>∃k:Nat,k<=b.length/\i=.int .i64 k/\GE (wK w) 54 wr W2.heap.size wr.heap.size o ((qY l b).take k)/\Ex W2 wr) (λ_ i _=>b.length-(intOf i).toNat)
 case atStart=>exact⟨0,axq _,rfl,by rw[hs1,<-S2.out];first|exact tX|simpa[S2.out]using tX,he1⟩
 case round=>
  rename World=>wi;clear tX he1 hs1 q2;obtain⟨k,hk,rfl,hge,he⟩:=hrel;have xw:=xx.trans he;have hzi:=he.size;by_cases hlt:k<b.length
  .obtain⟨g,off,row,P,pc,eA,hr,wE,hpc,hP⟩:=H.out.at_ hlt;subst eA;have hm:=axo hr;have hr0:=H0.out row hm;have hrl:=HW.out row hm;have HT:=axj (R8 (l:=l) hr);obtain⟨g2,off2,y,_,_,_,_,eP,_⟩:=hP.iy hr0;subst eP;have b0:=af xw wE;have q0:=(q.ex he).c0;have hdl:(row.drop l).length=row.length-l:=axF;have htl:(row.take l).length=l:=by rw[axx];omega
   have tN:((qY l b).take k).length<=k:=ax7 _ _;have acX:l<=pc:=by omega
   obtain⟨RL,Fh⟩:=xq row.length;rw[Fh]at b0 hpc hr0 hrl hdl;have acY:l<=RL:=by omega
   have TR:RL<=12:=by omega
   clear hr hm wE hrl;by_cases hpl:pc-l=0
   .obtain rfl:l=pc:=by omega
    obtain rfl:l=RL:=by omega
    rw[ayd]at hdl;clear hpl;have Wm:row.drop l=[]:=ayp hdl;have QD:∀W,Ex w W->aU (λw2=>Ex w w2) W (some ⟨g2,off2,none⟩) (row.drop l):=λW _=>by rw[Wm];exact aU.nil _ _ _
    have QT:∀W,Ex w W->aU (λw2=>Ex w w2) W (some ⟨g2,off2,none⟩) (row.take l):=λW hW=>(aU.iU hP hW (λ_ h=>h)).tk l
    have x4:=((aCQ wi).alloc (.cells #[.slice (some ⟨g2,off2,none⟩) 0 0,.slice (some ⟨g2,off2,none⟩) l l] 54)).drew;have v4:VB (wi.alloc (.cells #[.slice (some ⟨g2,off2,none⟩) 0 0,.slice (some ⟨g2,off2,none⟩) l l] 54)).drew wi.heap.size 54 #[.slice (some ⟨g2,off2,none⟩) 0 0,.slice (some ⟨g2,off2,none⟩) l l]:=VB.new wi _ _;have cC:∀W,Ex wi W->VB W wi.heap.size 54 #[.slice (some ⟨g2,off2,none⟩) 0 0,.slice (some ⟨g2,off2,none⟩) l l]->Calls prog 89 #[.slice (some ⟨wi.heap.size,0,none⟩) 2 2] W λe w'=>∃A6 c6,e=.returned (.slice A6 l c6)/\uX (λw2=>Ex w w2) w' W.heap.size w'.heap.size (.slice A6 l c6) (row.drop l++row.take l)/\Ex W w':=λW hW hv=>by
     have hq:=qZ (Good:=λw2=>Ex w w2) (some ⟨wi.heap.size,0,none⟩) 2 [row.drop l,row.take l] W (Yr hv (QD _ (xw.trans hW)) (QT _ (xw.trans hW)) hdl htl) (by simp) (λr hr=>by
      rcases axI.1 hr with rfl|hr
      .rw[hdl];omega
      .rw[axJ.1 hr,htl];omega)
     refine hq.mono ?_;rintro e w' ⟨v,rfl,rp,xx2⟩;have e2:([row.drop l,row.take l]:List (List aG)).flatten=row.drop l++row.take l:=by simp
     rw[e2]at rp;obtain⟨A6,c6,ev⟩:=rp.form;rw[show(row.drop l++row.take l).length=l by rw[axv,hdl,htl];omega]at ev;subst ev;exact⟨A6,c6,rfl,rp,xx2⟩
    have ahp:=axj (show(row.drop l++row.take l).length<=1099511627776 by rw[axv,hdl,htl];omega);have HS:∀W,Ex wi W->(W.cell? ⟨w.heap.size,0,none⟩=some (.int .i64 l)):=λW h=>af h q0
    clear QD QT hdl htl Fh;go_wp2_with fail
    go_region_held3 (λW=>W.cell? ⟨w.heap.size,0,none⟩=some (.int .i64 l)) (first
     |(exact Ph)|(exact HS _ (x6.alloc _))|(exact HS _ x6)|(exact HS _ x4)|(exact HS _ (aCQ _).drew)|(exact HS _ (aCQ _))|(exact HS _ ((aCQ _).alloc _))) (first
     |(go_at_call 89
       refine(cC _ x4 v4).mono ?_;rintro e w6 ⟨A6,c6,rfl,rp,SB⟩;have x6:Ex wi w6:=x4.trans SB;have VW:=x6.size;have Xf:=x4.size;have afZ:=SB.size;have hq:=rp.KA (W0:=w) ahp.out (λw2 h0 _=>h0);obtain⟨v7,w7,eG,zm,_,anJ,wS⟩:=bO (hge.ex x6) VW hq Xf afZ (axk _) hzi (by simp;omega);rw[<-HT.out]at zm;have x7:=wS W2 (he.trans x6) (axk _);have Ph:=(q.ex x7).c0)
     |(refine aH rfl _ _ _ rfl rfl rfl eG ?_))
    all_goals
     clear HS Ph eG q0 wS rp hq cC v4 hge HT;go_wp2_with fail
     go_roundw;case rel=>exact⟨k+1,by omega,by go_num,zm,x7⟩
     case measure=>simp[intOf];omega
   .have VY:¬(pc=l):=by omega
    have QD:∀W,Ex w W->aU (λw2=>Ex w w2) W (some ⟨g2,off2+l*2,none⟩) (row.drop l):=λW hW=>(aU.iU hP hW (λ_ h=>h)).dp l
    have QT:∀W,Ex w W->aU (λw2=>Ex w w2) W (some ⟨g2,off2,none⟩) (row.take l):=λW hW=>(aU.iU hP hW (λ_ h=>h)).tk l
    have x4:=((aCQ wi).alloc (.cells #[.slice (some ⟨g2,off2+l*2,none⟩) (RL-l) (pc-l),.slice (some ⟨g2,off2,none⟩) l pc] 54)).drew;have v4:VB (wi.alloc (.cells #[.slice (some ⟨g2,off2+l*2,none⟩) (RL-l) (pc-l),.slice (some ⟨g2,off2,none⟩) l pc] 54)).drew wi.heap.size 54 #[.slice (some ⟨g2,off2+l*2,none⟩) (RL-l) (pc-l),.slice (some ⟨g2,off2,none⟩) l pc]:=VB.new wi _ _;have cC:∀W,Ex wi W->VB W wi.heap.size 54 #[.slice (some ⟨g2,off2+l*2,none⟩) (RL-l) (pc-l),.slice (some ⟨g2,off2,none⟩) l pc]->Calls prog 89 #[.slice (some ⟨wi.heap.size,0,none⟩) 2 2] W λe w'=>∃A6 c6,e=.returned (.slice A6 RL c6)/\uX (λw2=>Ex w w2) w' W.heap.size w'.heap.size (.slice A6 RL c6) (row.drop l++row.take l)/\Ex W w':=λW hW hv=>by
     have hq:=qZ (Good:=λw2=>Ex w w2) (some ⟨wi.heap.size,0,none⟩) 2 [row.drop l,row.take l] W (Yr hv (QD _ (xw.trans hW)) (QT _ (xw.trans hW)) hdl htl) (by simp) (λr hr=>by
      rcases axI.1 hr with rfl|hr
      .rw[hdl];omega
      .rw[axJ.1 hr,htl];omega)
     refine hq.mono ?_;rintro e w' ⟨v,rfl,rp,xx2⟩;have e2:([row.drop l,row.take l]:List (List aG)).flatten=row.drop l++row.take l:=by simp
     rw[e2]at rp;obtain⟨A6,c6,ev⟩:=rp.form;rw[show(row.drop l++row.take l).length=RL by rw[axv,hdl,htl];omega]at ev;subst ev;exact⟨A6,c6,rfl,rp,xx2⟩
    have ahp:=axj (show(row.drop l++row.take l).length<=1099511627776 by rw[axv,hdl,htl];omega);have HS:∀W,Ex wi W->(W.cell? ⟨w.heap.size,0,none⟩=some (.int .i64 l)):=λW h=>af h q0
    clear QD QT hdl htl Fh;go_wp2_with fail
    go_region_held3 (λW=>W.cell? ⟨w.heap.size,0,none⟩=some (.int .i64 l)) (first
     |(exact Ph)|(exact HS _ (x6.alloc _))|(exact HS _ x6)|(exact HS _ x4)|(exact HS _ (aCQ _).drew)|(exact HS _ (aCQ _))|(exact HS _ ((aCQ _).alloc _))) (first
     |(go_at_call 89
       refine(cC _ x4 v4).mono ?_;rintro e w6 ⟨A6,c6,rfl,rp,SB⟩;have x6:Ex wi w6:=x4.trans SB;have VW:=x6.size;have Xf:=x4.size;have afZ:=SB.size;have hq:=rp.KA (W0:=w) ahp.out (λw2 h0 _=>h0);obtain⟨v7,w7,eG,zm,_,anJ,wS⟩:=bO (hge.ex x6) VW hq Xf afZ (axk _) hzi (by simp;omega);rw[<-HT.out]at zm;have x7:=wS W2 (he.trans x6) (axk _);have Ph:=(q.ex x7).c0)
     |(refine aH rfl _ _ _ rfl rfl rfl eG ?_))
    all_goals
     clear HS Ph eG q0 wS rp hq cC v4 hge HT;go_wp2_with fail
     go_roundw;case rel=>exact⟨k+1,by omega,by go_num,zm,x7⟩
     case measure=>simp[intOf];omega
  .obtain rfl:k=b.length:=by omega
   rw[axG (by rw[qY,axs];exact axk _)]at hge;obtain⟨A3,c3,ev,hN⟩:=hge.SY (by rw[qY,axs];omega) xw;subst ev;have qr:=q.ex he;obtain⟨q0,q1⟩:=qr.d2;have cO:=pO p r l (qY l b) A3 c3 wi HF.out hN (I_ HW.out) (Qa (aaS HG.out) (I_ HW.out) (axk _) (acf (by omega))) (by omega) (by rw[qY,axs];omega);clear hge hN;obtain⟨RR,hRR⟩:=xq ((au p).aC (r+l) (qY l b));have HRR:=axj hRR;rw[hRR]at cO;clear hRR;go_wp2_with fail
   refine cO.mono ?_;rintro e w4 ⟨y4,rfl,fx,x4⟩;obtain⟨A4,c4,rfl,_⟩:=fx.rd;clear cO q0 q1;have hl2:=d2.lt;have hzx:=xx.size;have dz:=(d2.ex he).ex x4;have xz:=xw.trans x4;obtain⟨dd,zz⟩:=dz.l8 (.int .i64 r) (.int .i64 l) (.slice A4 RR.length c4);obtain⟨u0,u1,u2⟩:=dz.d3;obtain⟨k0,k1,k2⟩:=dz.z3;obtain⟨C0,C1,C2⟩:=dd.d3;have eF:=xz.aK zz (by omega);have fx2:=fx.iv (jE.aZ zz) (by omega);have fx3:=fx2.more (a':=w.heap.size) (b':=w4.heap.size) (by omega) (axk _);go_wp2_with fail
   refine axu (v:=.agg #[.int .i64 r,.int .i64 l,.slice A4 RR.length c4]) (by simp[results,Tryz.results91,go_sem,C0,C1,C2]) rfl ?_;rw[HRR.out];exact⟨_,rfl,fx3.more (axk _) (ayH (by simp)),eF⟩
theorem BH{ig:List (Value×Value)}(h:GE Dy 57 w B H v ig)(hH:H<=w.heap.size)(hB:B<=H)(P:Option Addr)(c:Nat)(r:List aG)(hr:aU Good w P r)(hl:ig.length+r.length<=1099511627776):
 ∃v' w' mg,(Builtin.append_ #[54,54] 54 #[v,.slice P r.length c]).run prog w=.ok v' w'/\GE Dy 57 w' B w'.heap.size v' (ig++mg)/\mg.length=r.length/\
  (∀(j:Nat) (x:aG),r[j]?=some x->∃a b,mg[j]?=some (a,b)/\∀w2,Good w2->oD w2 a b x)/\(qh v.ownBlock w w'/\(v'.ownBlock=v.ownBlock∨v'.ownBlock=some w.heap.size))/\∀b',Ex b' w->b'.heap.size<=B->Ex b' w':=by
 obtain⟨i,hi,hz,hs,hby⟩:=axW mH;obtain⟨ho,h1⟩:=Dy.row h;have hown:=h.own;rcases P with _|ad
 .have hx:r=[]:=by
   cases r with
   |nil=>rfl
   |cons x xs=>obtain⟨g,off,_,_,hA,_⟩:=hr.2 0 x rfl;cases hA
  subst hx;refine⟨v,w,[],?_,by simpa using h.more (axk _) hH,rfl,λj x hj=>by simp at hj,⟨qh.refl _ _,.inl rfl⟩,λb' hb _=>hb⟩;rcases ho.2 with⟨rfl,_⟩|⟨g,cap,cur,rfl,_,_,hnc,_⟩
  .simp[Builtin.append_,ayj Tryz.underlying54,sizeOf,typeInfo,hi,Builtin.lenOf,Builtin.firstCells]
  .simp[Builtin.append_,ayj Tryz.underlying54,sizeOf,typeInfo,hi,Builtin.lenOf,Builtin.firstCells,hnc,storeCells]
 .obtain⟨mg,k1,k2⟩:=pF (Q:=λj (p:Value×Value)=>∃x g off,ad=⟨g,off,none⟩/\r[j]?=some x/\w.cell? ⟨g,off+j*2,none⟩=some p.1/\w.cell? ⟨g,off+j*2+1,none⟩=some p.2/\(∀w2,Good w2->oD w2 p.1 p.2 x)/\p.1.oneCell'=true/\p.2.oneCell'=true) r.length (λj hj=>by
   obtain⟨g,off,u,v,hA,q0,q1,o0,o1,hR⟩:=hr.2 j _ (axn hj);injection hA with hA;subst hA;exact⟨(u,v),r[j],g,off,rfl,axn hj,q0,q1,hR,o0,o1⟩)
  have hnews:∀(q:Nat) (u:Value),(mg.map Ce).flatten[q]?=some u->w.cell? (ad.add q)=some u:=λq u hu=>by
   obtain⟨j,i,p,rfl,hp,hi2⟩:=Qp hu;obtain⟨x,g,off,rfl,_,q0,q1,_⟩:=k2 j p hp;have e:(⟨g,off,none⟩:Addr).add (j*2+i)=⟨g,off+(j*2+i),none⟩:=by unfold Addr.add;split<;>simp_all
   rw[e];rcases i with _|_|i
   .injection hi2 with hi2;subst hi2;exact q0
   .injection hi2 with hi2;subst hi2;exact q1
   .simp[Ce]at hi2
  have hone:∀p∈mg,p.1.oneCell'=true/\p.2.oneCell'=true:=λp hp=>by obtain⟨j,hj⟩:=axz hp;obtain⟨_,_,_,_,_,_,_,_,q⟩:=k2 j p hj;exact q
  obtain⟨v',w',hrun,h2,h3,_,h5⟩:=run_append_own_at (P:=prog) w B 54 54 57 i (.agg #[.slice none 0 0,.slice none 0 0]) 2 48 Tryz.underlying54 hi hz hs hby rfl (by omega) v ig.length _ ho ad r.length c (mg.map Ce).flatten (by rw[yI,k1]) hnews (by
   intro u hu;obtain⟨l,hl2,hu2⟩:=List.mem_flatten.1 hu;obtain⟨p,hp,rfl⟩:=axr.1 hl2;simp[Ce]at hu2;rcases hu2 with rfl|rfl
   .exact(hone p hp).1
   .exact(hone p hp).2) (by unfold maxLen;omega) (by omega) (by omega)
  have hsz:=h3.size;refine⟨v',w',mg,hrun,Dy.mk (by omega) (by rw[axv,ax4,ay6,k1];exact h2) (λk e=>World.ownsRow.lt h2 k e) (λp hp=>by
   rcases axZ.1 hp with h4|h4
   .exact h1 p h4
   .exact hone p h4),k1,λj x hj=>?_,⟨h3,h5⟩,λb' hb hbB=>hb.Og h3 (λg e=>by have:=(hown g e).1;omega)⟩
  have hjl:=(axp.1 hj).1;have hp:=axn (show j<mg.length by omega);obtain⟨x',g,off,_,hx',_,_,hR,_⟩:=k2 j _ hp;rw[hj]at hx';injection hx' with hx';subst hx';exact⟨_,_,hp,hR⟩
theorem GE.rX{xs:List aG}(h:GE rR 57 w B H (.slice P n c) xs)(hl:xs.length<=1099511627776):aU (λw2=>∀k,B<=k->k<H->k<w.heap.size->w2.heap[k]?=w.heap[k]?) w P xs:=by
 refine⟨hl,λj x hj=>?_⟩;by_cases hv:Value.slice P n c=.slice none 0 0
 .rw[hv]at h;have:=h.VH;subst this;simp at hj
 .obtain⟨g,c',e,hgc,_⟩:=h.form hv;rw[e]at h;injection e with e1 e2 e3;subst e1;obtain⟨cur,al,bl,_,hB,hH,hh,h1,h2⟩:=h.at_;obtain⟨u,k1,⟨v0,v1,rfl,o⟩,k3,k4,_⟩:=h1 j x hj;obtain⟨A0,n0,c0,A1,n1,c1,e0,e1'⟩:=o.rd.form;refine⟨g,0,v0,v1,rfl,?_,?_,by rw[e0];rfl,by rw[e1'];rfl,λw2 hw=>(o.keep λk q1 q2 q3=>hw k (by omega) (by omega) q3).rd⟩
  .have:=k1 0 _ rfl;rw[axT];exact dJ hh this
  .have:=k1 1 _ rfl;rw[axT];exact dJ hh this
def RP(W0:World)(s:Nat)(w:World)(v:Value)(r:List aG):Prop:=
 ∃ig:List (Value×Value),GE Dy 57 w s w.heap.size v ig/\ig.length=r.length/\∀(j:Nat) (x:aG),r[j]?=some x->∃u z,ig[j]?=some (u,z)/\∀w2,Ex W0 w2->(∀k,s<=k->k<w.heap.size->v.ownBlock≠some k->w2.heap[k]?=w.heap[k]?)->oD w2 u z x
theorem RP.ex(h:RP W0 s w v r)(he:Ex w w'):RP W0 s w' v r:=by obtain⟨ig,h1,h2,h3⟩:=h;refine⟨ig,(h1.ex he).more (axk _) he.size,h2,λj x hj=>?_⟩;obtain⟨u,z,q1,q2⟩:=h3 j x hj;exact⟨u,z,q1,λw2 h0 hk=>q2 w2 h0 λk a1 a2 a3=>(hk k a1 (axD a2 he.size) a3).trans (he.block a2)⟩
theorem RP.start(W0 w:World):RP W0 w.heap.size (w.alloc (.cells #[] 57)) (.slice (some ⟨w.heap.size,0,none⟩) 0 0) []:=
 ⟨[],(GE.empty Dy 57 w (axk _)).more (axk _) (by simp),rfl,λj x hj=>by simp at hj⟩
theorem RP.form(h:RP W0 s w v r):∃A c,v=.slice A r.length c:=by obtain⟨ig,h1,h2,_⟩:=h;obtain⟨A,c,e⟩:=h1.kH;exact⟨A,c,by rw[e,h2]⟩
theorem RP.push(h:RP W0 s w v r)(hs:s<=w.heap.size){r2:List aG}(hr:aU Good w P r2)(hG:∀w2,Ex W0 w2->(∀k,s<=k->k<w.heap.size->v.ownBlock≠some k->w2.heap[k]?=w.heap[k]?)->Good w2)(c:Nat)(hl:r.length+r2.length<=1099511627776):
 ∃v' w',(Builtin.append_ #[54,54] 54 #[v,.slice P r2.length c]).run prog w=.ok v' w'/\RP W0 s w' v' (r++r2)/\∀b',Ex b' w->b'.heap.size<=s->Ex b' w':=by
 obtain⟨ig,h1,h2,h3⟩:=h;obtain⟨v',w',mg,hrun,ge,hl2,hp2,⟨hO,hown⟩,hE⟩:=BH h1 (axk _) hs P c r2 hr (by rw[h2];exact hl);have hsz:=hO.size;have keep:∀w2:World,(∀k,s<=k->k<w'.heap.size->v'.ownBlock≠some k->w2.heap[k]?=w'.heap[k]?)->∀k,s<=k->k<w.heap.size->v.ownBlock≠some k->w2.heap[k]?=w.heap[k]?:=λw2 hk k a1 a2 a3=>by
  refine(hk k a1 (axD a2 hsz) (λe=>?_)).trans (hO.block k a2 (λe=>a3 e.symm));rcases hown with q|q
  .exact a3 (q▸e)
  .rw[q]at e;injection e with e;omega
 refine⟨v',w',hrun,⟨ig++mg,ge,by rw[axv,axv,h2,hl2],λj x hj=>?_⟩,hE⟩;by_cases e:j<r.length
 .rw[axX e]at hj;rw[axX (by omega)];obtain⟨u,z,q1,q2⟩:=h3 j x hj;exact⟨u,z,q1,λw2 h0 hk=>q2 w2 h0 (keep w2 hk)⟩
 .rw[axN (by omega)]at hj;rw[axN (by omega),h2];obtain⟨u,z,q1,q2⟩:=hp2 _ x hj;exact⟨u,z,q1,λw2 h0 hk=>q2 w2 (hG w2 h0 (keep w2 hk))⟩
theorem RP.KA(h:RP W0 s w v r)(hl:r.length<=1099511627776):(wK W0).O w s w.heap.size [v] r:=by
 obtain⟨ig,h1,h2,h3⟩:=h;have rp:uX (λw2=>Ex W0 w2/\∀k,s<=k->k<w.heap.size->w2.heap[k]?=w.heap[k]?) w s w.heap.size v r:=⟨ig,h1,h2,λj x hj=>by
  obtain⟨u,z,q1,q2⟩:=h3 j x hj;exact⟨u,z,q1,λw2 hw=>q2 w2 hw.1 λk a1 a2 _=>hw.2 k a1 a2⟩⟩
 exact rp.KA hl λw2 h0 hk=>⟨h0,λk a1 a2=>hk k a1 a2 a2⟩
theorem RP.YM{xs:List aG}(h:GE rR 57 w s w.heap.size v xs)(hs:s<=w.heap.size):RP W0 s w v xs:=by
 obtain⟨hown,us,al,bl,hl,ho,h1,h2⟩:=h;have hus:∀u∈us,∃v0 v1,u=[v0,v1]/\v0.oneCell'=true/\v1.oneCell'=true:=λu hu=>by obtain⟨j,hj⟩:=axz hu;have hjl:=(axp.1 hj).1;obtain⟨u2,q1,q2,_⟩:=h1 j _ (axn (by omega));rw[hj]at q1;injection q1 with q1;subst q1;obtain⟨v0,v1,e,_⟩:=id q2;subst e;exact⟨v0,v1,rfl,rR.one q2 _ (by simp),rR.one q2 _ (by simp)⟩
 have hmap:(us.map λu=>(u.getD 0 undef,u.getD 1 undef)).map Ce=us:=by rw[axO];refine(ax0 λu hu=>?_).trans (List.map_id us);obtain⟨v0,v1,rfl,_⟩:=hus u hu;rfl
 refine⟨us.map λu=>(u.getD 0 undef,u.getD 1 undef),Dy.mk hs (by rw[hmap,axs,hl];exact ho) hown (λp hp=>?_),by rw[axs,hl],λj x hj=>?_⟩
 .obtain⟨u,hu,rfl⟩:=axr.1 hp;obtain⟨v0,v1,rfl,q0,q1⟩:=hus u hu;exact⟨q0,q1⟩
 .obtain⟨u,q1,⟨v0,v1,rfl,o⟩,q3,q4,q5⟩:=h1 j x hj;refine⟨v0,v1,by rw[axw,q1];rfl,λw2 _ hk=>(o.keep λk a1 a2 a3=>hk k (by omega) (by omega) (λe=>by have:=q5 k e;omega)).rd⟩
theorem RP.good{w0:World}(he:Ex w0 w)(hB:s<=B)(hv:∀k,v.ownBlock=some k->k<B):∀w2,Ex W0 w2->(∀k,s<=k->k<w.heap.size->v.ownBlock≠some k->w2.heap[k]?=w.heap[k]?)->∀k,B<=k->k<w0.heap.size->k<w0.heap.size->w2.heap[k]?=w0.heap[k]?:=λw2 _ hk k a1 a2 _=>
 (hk k (by omega) (axD a2 he.size) (λe=>by have:=hv k e;omega)).trans (he.block a2)
theorem RP.own(h:RP W0 s w v r):∀k,v.ownBlock=some k->k<w.heap.size:=λk e=>by obtain⟨ig,h1,_⟩:=h;exact(h1.own k e).2
theorem aah(w:World):Calls prog 111 #[] w λe w'=>G8 w zF e w':=by
 go_enter Tryz.func111,Tryz.ntmps111
 go_wp2_with fail
 obtain⟨x1,v1⟩:=VB.xn w 57 #[.slice none 0 0,.slice (some ⟨w.heap.size+1,0,none⟩) 1 1];have s1:(w.alloc (.cells #[.slice none 0 0,.slice (some ⟨w.heap.size+1,0,none⟩) 1 1] 57)).heap.size=w.heap.size+1:=by simp
 generalize w.alloc (.cells #[.slice none 0 0,.slice (some ⟨w.heap.size+1,0,none⟩) 1 1] 57)=W1 at*;have x2:=(aCQ W1).alloc (aN [1]);have o1:=Own.new W1 [1];rw[s1]at o1;have v2:=v1.ex x2;obtain⟨d0,d1⟩:=v2.d2;change bodyPost _ _ _ _ _ (W1.alloc (aN [1]));generalize W1.alloc (aN [1])=W2 at*;refine axu (v:=.agg #[.slice none 0 0,.slice (some ⟨w.heap.size+1,0,none⟩) 1 1]) (by simp[results,Tryz.results111,go_sem,d0,d1]) rfl ?_;exact⟨none,0,_,_,rfl,Fr.nil _ _ _,o1.fr (by simp) (by omega) (by simp),(λa a' e=>by cases e),x1.trans x2⟩
theorem h_(n:Nat)(hn:n<=1000)(w:World):
 Calls prog 78 #[.int .i64 n] w λe w'=>∃A c,e=.returned (.slice A n c)/\GE rR 57 w' w.heap.size w'.heap.size (.slice A n c) (replicate n zF)/\Ex w w':=by
 go_enter Tryz.func78,Tryz.ntmps78
 go_wp2_with fail
 go_loopg [3] n (λf o wr=>∃(k:Nat) (A:Option Addr) (c:Nat),k+f=n/\o=.slice A k c/\GE rR 57 wr w.heap.size wr.heap.size (.slice A k c) (replicate k zF)/\Ex w wr)
 case atStart=>exact⟨0,none,0,by omega,rfl,GE.nil _ _ _ _ _,aCQ _⟩
 case round=>
  obtain⟨k,A,c,hkf,rfl,hge,he⟩:=hrel;have hz:=he.size;cases gk with
  |zero=>
   obtain rfl:k=n:=by omega
   go_wp2_with fail
   go_ret;exact⟨A,c,rfl,hge,he⟩
  |succ f=>
   have hlt:k<n:=by omega
   have HT:=axj (show replicate (k+1) zF=replicate k zF++[zF] by rw[List.replicate_succ']);go_wp2_with fail
   refine(aah _).mono ?_;rintro e w3 ⟨A3,c3,B3,d3,rfl,f3,p3,Uw,x3⟩;have hz3:=x3.size;obtain⟨v',w4,hrun,hge4,_,NQ,zf⟩:=jU (hge.ex x3) hz3 (dZ (x:=zF) f3 p3 Uw hz3) (axk _) hz3 (axk _) hz (by simp;omega);rw[<-HT.out]at hge4;have xL:=zf w (he.trans x3) (axk _);obtain⟨A5,c5,ev⟩:=hge4.kH;rw[axH]at ev;subst ev;clear zf HT;go_wp2_with (at_builtin;refine wpList_append_run rfl _ _ _ rfl rfl rfl hrun ?_)
   go_roundg f
   case measure=>omega
   case rel=>exact⟨k+1,A5,c5,by omega,rfl,hge4,xL⟩
theorem MW(h:n<=12):512*4^n<=17179869184:=by have:4^n<=4^12:=Nat.pow_le_pow_right (by omega) h;omega
def Jr(al bl br:Nat)(r:List aG):List aG:=((r.take al++replicate bl zF)++r.drop al)++replicate br zF
def Lx(al ar bl:Nat)(r:List aG):List aG:=((replicate al zF++r.take bl)++replicate ar zF)++r.drop bl
def nu(al ar bl br:Nat)(a b:List (List aG)):List (List aG):=a.map (Jr al bl br)++b.map (Lx al ar bl)
theorem jO{α β:Type}{f:α->β}{b:List α}{r:α}(h:b[k]?=some r):(b.map f).take (k+1)=(b.map f).take k++[f r]:=by rw[axy,axw,h];rfl
theorem Jq(h:r.length=al+ar):(Jr al bl br r).length=(al+bl)+(ar+br):=by simp[Jr,h];omega
theorem Jp(h:r.length=bl+br):(Lx al ar bl r).length=(al+bl)+(ar+br):=by simp[Lx,h];omega
theorem DT{a:List (List aG)}(ha:aQ (al+ar) a)(hb:aQ (bl+br) b):aQ ((al+bl)+(ar+br)) (nu al ar bl br a b):=λv hv=>by
 rcases axZ.1 hv with h|h
 .obtain⟨u,hu,rfl⟩:=axr.1 h;exact Jq (ha u hu)
 .obtain⟨u,hu,rfl⟩:=axr.1 h;exact Jp (hb u hu)
theorem jS.zeros(hF:av p=true)(hL:1<=L)(n:Nat):jS p L (replicate n zF):=λx hx=>by obtain⟨_,rfl⟩:=List.mem_replicate.1 hx;exact⟨FV.zero hF,by simp[zF],by simp[zF];exact hL⟩
theorem SQ{a:List (List aG)}(hF:av p=true)(hL:1<=L)(ha:iB p L a)(hb:iB p L b):iB p L (nu al ar bl br a b):=λv hv=>by
 rcases axZ.1 hv with h|h
 .obtain⟨u,hu,rfl⟩:=axr.1 h;exact((((ha u hu).take al).app (jS.zeros hF hL bl)).app ((ha u hu).drop al)).app (jS.zeros hF hL br)
 .obtain⟨u,hu,rfl⟩:=axr.1 h;exact(((jS.zeros hF hL al).app ((hb u hu).take bl)).app (jS.zeros hF hL ar)).app ((hb u hu).drop bl)
theorem LG(a b:List (List aG)):(nu al ar bl br a b).length=a.length+b.length:=by simp[nu]
theorem Qh(p:Int)(al ar bl br:Nat)(a b:List (List aG))(A B:Option Addr)(ca cb:Nat)(w:World)(hA:j_ w A a)(hB:j_ w B b)(hna:a.length<=12)(hnb:b.length<=12)(hlr:(al+bl)+(ar+br)<=12)(Q_:aQ (al+ar) a)(hwb:aQ (bl+br) b)(ha0:∀v∈a,0<v.length)(hb0:∀v∈b,0<v.length)(hF:av p=true)(hga:iB p 512 a)(hgb:iB p 512 b):
 Calls prog 43 #[.int .i64 p,.agg #[.int .i64 al,.int .i64 ar,.slice A a.length ca],.agg #[.int .i64 bl,.int .i64 br,.slice B b.length cb]] w λe w'=>∃A' c',e=.returned (.agg #[.int .i64 ((al+bl:Nat):Int),.int .i64 ((ar+br:Nat):Int),.slice A' ((au p).aC ((al+bl)+(ar+br)) (nu al ar bl br a b)).length c'])/\(∀w2,bG (λk=>k<w.heap.size) w' w2->j_ w2 A' ((au p).aC ((al+bl)+(ar+br)) (nu al ar bl br a b)))/\Ex w w':=by
 have Ac:=axj Q_;have Ab:=axj hwb;have HF:=axj hF;have HGa:=axj hga;have Xb:=axj hgb;have Ha0:=axj ha0;have Hb0:=axj hb0;have HA:=axj hA;have HB:=axj hB;have hla:=hA.1.1;have hlb:=hB.1.1;have hwl:IntKind.i64.wrap ((al:Int)+(bl:Int))=((al+bl:Nat):Int):=by rw[axC _ (by omega)];omega
 have hwr:IntKind.i64.wrap ((ar:Int)+(br:Int))=((ar+br:Nat):Int):=by rw[axC _ (by omega)];omega
 obtain⟨NL,IU⟩:=xq (al+bl);obtain⟨NR,hNR⟩:=xq (ar+br);rw[IU]at hwl;rw[hNR]at hwr;have Lh:=axj IU;have HNR:=axj hNR;rw[IU,hNR];have h1:al<=12/\ar<=12/\bl<=12/\br<=12:=by omega
 obtain⟨y0,d0⟩:=VB.xn w 28 #[.int .i64 al,.int .i64 ar,.slice A a.length ca];have S0:=axj (show(w.alloc (.cells #[.int .i64 al,.int .i64 ar,.slice A a.length ca] 28)).heap.size=w.heap.size+1 by simp);clear hA hB Q_ hwb hF hga hgb ha0 hb0 IU hNR;go_enter Tryz.func43,Tryz.ntmps43
 go_wp2_with fail
 generalize w.alloc (.cells #[.int .i64 al,.int .i64 ar,.slice A a.length ca] 28)=W0 at*;obtain⟨y1,d1⟩:=VB.xn W0 28 #[.int .i64 bl,.int .i64 br,.slice B b.length cb];have S1:=axj (show(W0.alloc (.cells #[.int .i64 bl,.int .i64 br,.slice B b.length cb] 28)).heap.size=w.heap.size+1+1 by simp;exact S0.out);rw[S0.out]at d1;generalize W0.alloc (.cells #[.int .i64 bl,.int .i64 br,.slice B b.length cb] 28)=W1 at*;obtain⟨y2,d2⟩:=VB.xn W1 28 #[.int .i64 0,.int .i64 0,.slice none 0 0];have S2:=axj (show(W1.alloc (.cells #[.int .i64 0,.int .i64 0,.slice none 0 0] 28)).heap.size=w.heap.size+1+1+1 by simp;exact S1.out);rw[S1.out]at d2;have qa:=(d0.ex y1).ex y2;have qb:=d1.ex y2;generalize W1.alloc (.cells #[.int .i64 0,.int .i64 0,.slice none 0 0] 28)=W2' at*;have xx:=(y0.trans y1).trans y2;clear y0 y1 y2 d0 d1;have HQ:∀W,Ex W2' W->(W.cell? ⟨w.heap.size,0,none⟩=some (.int .i64 al)/\W.cell? ⟨w.heap.size,1,none⟩=some (.int .i64 ar)/\W.cell? ⟨w.heap.size+1,0,none⟩=some (.int .i64 bl)/\W.cell? ⟨w.heap.size+1,1,none⟩=some (.int .i64 br)):=λW h=>⟨(qa.ex h).c0,(qa.ex h).c1,(qb.ex h).c0,(qb.ex h).c1⟩
 obtain⟨k0,k1,k2,k3⟩:=HQ _ (aCQ _);go_quiet (fail)
 clear hwl hwr k0 k1 k2 k3 HQ;replace qa:VB (W2'.drewN nq) w.heap.size 28 #[.int .i64 al,.int .i64 ar,.slice A a.length ca]:=qa;replace qb:VB (W2'.drewN nq) (w.heap.size+1) 28 #[.int .i64 bl,.int .i64 br,.slice B b.length cb]:=qb;replace d2:VB (W2'.drewN nq) (w.heap.size+1+1) 28 #[.int .i64 0,.int .i64 0,.slice none 0 0]:=d2;replace xx:Ex w (W2'.drewN nq):=xx.drewN nq;replace S2:Hid ((W2'.drewN nq).heap.size=w.heap.size+1+1+1):=S2;generalize W2'.drewN nq=W2 at*;have qa2:=qa.c2;go_wp2_with fail
 clear qa2;go_loopw [9,29] (λo i wr=>∃k:Nat,k<=a.length/\i=.int .i64 k/\GE (wK w) 54 wr W2.heap.size wr.heap.size o ((a.map (Jr al bl br)).take k)/\Ex W2 wr) (λ_ i _=>a.length-(intOf i).toNat)
 case atStart=>exact⟨0,axq _,rfl,GE.nil _ _ _ _ _,aCQ _⟩
 case round=>
  rename World=>wi;obtain⟨k,hk,rfl,hge,he⟩:=hrel;have xw:=xx.trans he;have hzi:=he.size;by_cases hlt:k<a.length
  .obtain⟨g,off,row,P,pc,eA,hr,wE,hpc,hP⟩:=HA.out.at_ hlt;subst eA;have hm:=axo hr;have hr0:=Ha0.out row hm;have hrl:=Ac.out row hm;have HT:=axj (jO (f:=Jr al bl br) hr);obtain⟨g2,off2,y,_,_,_,_,eP,_⟩:=hP.iy hr0;subst eP;have b0:=af xw wE;have hdl:(row.drop al).length=row.length-al:=axF;have htl:(row.take al).length=al:=by rw[axx];omega
   have tN:((a.map (Jr al bl br)).take k).length<=k:=ax7 _ _;have Bq:=axj (Jq (bl:=bl) (br:=br) hrl);have acX:al<=pc:=by omega
   obtain⟨RL,Fh⟩:=xq row.length;rw[Fh]at b0 hpc hr0 hrl hdl;have acY:al<=RL:=by omega
   have TR:RL<=12:=by omega
   clear hr hm wE hrl Fh;by_cases hpl:pc-al=0
   .obtain rfl:al=pc:=by omega
    obtain rfl:al=RL:=by omega
    rw[ayd]at hdl;clear hpl;have Wm:row.drop al=[]:=ayp hdl;have QD:∀W,Ex w W->aU (λw2=>Ex w w2) W (some ⟨g2,off2,none⟩) (row.drop al):=λW _=>by rw[Wm];exact aU.nil _ _ _
    have QT:∀W,Ex w W->aU (λw2=>Ex w w2) W (some ⟨g2,off2,none⟩) (row.take al):=λW hW=>(aU.iU hP hW (λ_ h=>h)).tk al
    have y1:=(aCQ wi).alloc (.cells #[] 57);obtain⟨v1,w1,iZ,MB,hE1⟩:=(RP.start w wi).push y1.size (QT _ (xw.trans y1)) (λ_ h _=>h) al (by rw[htl];simp;omega);have x1:=hE1 wi y1 (axk _);obtain⟨A1,c1,Ku⟩:=MB.form;rw[ayz]at MB Ku;rw[htl]at iZ Ku;subst Ku;have hz1:=x1.size;have hv1:=MB.own;have qa0:=(qa.ex (he.trans y1)).c0;clear hE1;go_wp2_with (at_builtin;refine wpList_append_run rfl _ _ _ rfl rfl rfl iZ ?_)
    clear qa0 iZ;have HS:∀W,Ex wi W->(W.cell? ⟨w.heap.size,0,none⟩=some (.int .i64 al)/\W.cell? ⟨w.heap.size,1,none⟩=some (.int .i64 ar)/\W.cell? ⟨w.heap.size+1,0,none⟩=some (.int .i64 bl)/\W.cell? ⟨w.heap.size+1,1,none⟩=some (.int .i64 br)):=λW h=>⟨(qa.ex (he.trans h)).c0,(qa.ex (he.trans h)).c1,(qb.ex (he.trans h)).c0,(qb.ex (he.trans h)).c1⟩
    go_region_held3 (λW=>W.cell? ⟨w.heap.size,0,none⟩=some (.int .i64 al)/\W.cell? ⟨w.heap.size,1,none⟩=some (.int .i64 ar)/\W.cell? ⟨w.heap.size+1,0,none⟩=some (.int .i64 bl)/\W.cell? ⟨w.heap.size+1,1,none⟩=some (.int .i64 br)) (first
     |(exact HS _ x5)|(exact HS _ x4)|(exact HS _ x3)|(exact HS _ x1.drew)|(exact HS _ x1)) (first
     |(go_at_call 78
       refine(h_ bl (by omega) w1.drew).mono ?_;rintro e w3 ⟨Z3,c3,rfl,Rz,Xy⟩;have x13:Ex w1 w3:=(aCQ w1).drew.trans Xy;have x3:Ex wi w3:=x1.trans x13;obtain⟨v4,w4,fG,Yt,zf⟩:=(MB.ex x13).push x3.size (Rz.rX (by simp;omega)) (RP.good (aCQ w3) hz1 hv1) c3 (by rw[htl];simp;omega);have x4:=zf wi x3 (axk _);rw[axH]at fG;obtain⟨v5,w5,eG,C9,Be⟩:=Yt.push x4.size (QD _ (xw.trans x4)) (λ_ h _=>h) 0 (by rw[hdl];simp[htl];omega);have x5:=Be wi x4 (axk _);rw[hdl]at eG)
     |(refine aH (vx:=.slice Z3 bl c3) rfl _ _ _ rfl rfl rfl fG ?_)
     |(refine aH (vs:=v4) rfl _ _ _ rfl rfl rfl eG ?_))
    all_goals
     clear fG eG zf Be Yt MB Rz HS QD QT;have hv5:=C9.own;have ql:=(qb.ex (he.trans x5)).c1;go_wp2_with fail
     refine(h_ br (by omega) w5).mono ?_;rintro e w6 ⟨Z6,c6,rfl,PD,x56⟩;have x6:=x5.trans x56;obtain⟨v7,w7,NN,rp7,wS⟩:=(C9.ex x56).push x6.size (PD.rX (by simp;omega)) (RP.good (aCQ w6) x5.size hv5) c6 (by simp[htl,hdl];omega);have x7:=wS wi x6 (axk _);rw[axH]at NN;obtain⟨A7,c7,ev7⟩:=rp7.form;have hfl:(row.take al++replicate bl zF++row.drop al++replicate br zF)=Jr al bl br row:=rfl;rw[hfl,Bq.out]at ev7;have hq:=rp7.KA (by rw[hfl,Bq.out];omega);rw[hfl]at hq;subst ev7;obtain⟨v8,w8,EZ,Z_,_,_,Z5⟩:=bO (hge.ex x7) x7.size hq (axk _) x7.size (axk _) hzi (by omega);rw[<-HT.out]at Z_;have x8:=Z5 W2 (he.trans x7) (axk _);clear rp7 hq wS Z5 hge HT Bq hfl C9 hdl htl ql PD tN;go_wp2_with (at_builtin;first|refine wpList_append_run rfl _ _ _ rfl rfl rfl NN ?_|refine wpList_append_run rfl _ _ _ rfl rfl rfl EZ ?_)
     go_roundw;case rel=>exact⟨k+1,by omega,by go_num,Z_,x8⟩
     case measure=>simp[intOf];omega
   .have VY:¬(pc=al):=by omega
    have QD:∀W,Ex w W->aU (λw2=>Ex w w2) W (some ⟨g2,off2+al*2,none⟩) (row.drop al):=λW hW=>(aU.iU hP hW (λ_ h=>h)).dp al
    have QT:∀W,Ex w W->aU (λw2=>Ex w w2) W (some ⟨g2,off2,none⟩) (row.take al):=λW hW=>(aU.iU hP hW (λ_ h=>h)).tk al
    have y1:=(aCQ wi).alloc (.cells #[] 57);obtain⟨v1,w1,iZ,MB,hE1⟩:=(RP.start w wi).push y1.size (QT _ (xw.trans y1)) (λ_ h _=>h) pc (by rw[htl];simp;omega);have x1:=hE1 wi y1 (axk _);obtain⟨A1,c1,Ku⟩:=MB.form;rw[ayz]at MB Ku;rw[htl]at iZ Ku;subst Ku;have hz1:=x1.size;have hv1:=MB.own;have qa0:=(qa.ex (he.trans y1)).c0;clear hE1;go_wp2_with (at_builtin;refine wpList_append_run rfl _ _ _ rfl rfl rfl iZ ?_)
    clear qa0 iZ;have HS:∀W,Ex wi W->(W.cell? ⟨w.heap.size,0,none⟩=some (.int .i64 al)/\W.cell? ⟨w.heap.size,1,none⟩=some (.int .i64 ar)/\W.cell? ⟨w.heap.size+1,0,none⟩=some (.int .i64 bl)/\W.cell? ⟨w.heap.size+1,1,none⟩=some (.int .i64 br)):=λW h=>⟨(qa.ex (he.trans h)).c0,(qa.ex (he.trans h)).c1,(qb.ex (he.trans h)).c0,(qb.ex (he.trans h)).c1⟩
    go_region_held3 (λW=>W.cell? ⟨w.heap.size,0,none⟩=some (.int .i64 al)/\W.cell? ⟨w.heap.size,1,none⟩=some (.int .i64 ar)/\W.cell? ⟨w.heap.size+1,0,none⟩=some (.int .i64 bl)/\W.cell? ⟨w.heap.size+1,1,none⟩=some (.int .i64 br)) (first
     |(exact HS _ x5)|(exact HS _ x4)|(exact HS _ x3)|(exact HS _ x1.drew)|(exact HS _ x1)) (first
     |(go_at_call 78
       refine(h_ bl (by omega) w1.drew).mono ?_;rintro e w3 ⟨Z3,c3,rfl,Rz,Xy⟩;have x13:Ex w1 w3:=(aCQ w1).drew.trans Xy;have x3:Ex wi w3:=x1.trans x13;obtain⟨v4,w4,fG,Yt,zf⟩:=(MB.ex x13).push x3.size (Rz.rX (by simp;omega)) (RP.good (aCQ w3) hz1 hv1) c3 (by rw[htl];simp;omega);have x4:=zf wi x3 (axk _);rw[axH]at fG;obtain⟨v5,w5,eG,C9,Be⟩:=Yt.push x4.size (QD _ (xw.trans x4)) (λ_ h _=>h) (pc-al) (by rw[hdl];simp[htl];omega);have x5:=Be wi x4 (axk _);rw[hdl]at eG)
     |(refine aH (vx:=.slice Z3 bl c3) rfl _ _ _ rfl rfl rfl fG ?_)
     |(refine aH (vs:=v4) rfl _ _ _ rfl rfl rfl eG ?_))
    all_goals
     clear fG eG zf Be Yt MB Rz HS QD QT;have hv5:=C9.own;have ql:=(qb.ex (he.trans x5)).c1;go_wp2_with fail
     refine(h_ br (by omega) w5).mono ?_;rintro e w6 ⟨Z6,c6,rfl,PD,x56⟩;have x6:=x5.trans x56;obtain⟨v7,w7,NN,rp7,wS⟩:=(C9.ex x56).push x6.size (PD.rX (by simp;omega)) (RP.good (aCQ w6) x5.size hv5) c6 (by simp[htl,hdl];omega);have x7:=wS wi x6 (axk _);rw[axH]at NN;obtain⟨A7,c7,ev7⟩:=rp7.form;have hfl:(row.take al++replicate bl zF++row.drop al++replicate br zF)=Jr al bl br row:=rfl;rw[hfl,Bq.out]at ev7;have hq:=rp7.KA (by rw[hfl,Bq.out];omega);rw[hfl]at hq;subst ev7;obtain⟨v8,w8,EZ,Z_,_,_,Z5⟩:=bO (hge.ex x7) x7.size hq (axk _) x7.size (axk _) hzi (by omega);rw[<-HT.out]at Z_;have x8:=Z5 W2 (he.trans x7) (axk _);clear rp7 hq wS Z5 hge HT Bq hfl C9 hdl htl ql PD tN;go_wp2_with (at_builtin;first|refine wpList_append_run rfl _ _ _ rfl rfl rfl NN ?_|refine wpList_append_run rfl _ _ _ rfl rfl rfl EZ ?_)
     go_roundw;case rel=>exact⟨k+1,by omega,by go_num,Z_,x8⟩
     case measure=>simp[intOf];omega
  .obtain rfl:k=a.length:=by omega
   rw[axG (by rw[axs];exact axk _)]at hge;have qb2:=(qb.ex he).c2;go_wp2_with fail
   clear qb2;go_loopw [9,61] (λo i wr=>∃k:Nat,k<=b.length/\i=.int .i64 k/\GE (wK w) 54 wr W2.heap.size wr.heap.size o (a.map (Jr al bl br)++(b.map (Lx al ar bl)).take k)/\Ex W2 wr) (λ_ i _=>b.length-(intOf i).toNat)
   case atStart=>exact⟨0,axq _,rfl,by simpa using hge,he⟩
   case round=>
    clear hge he xw hzi hlt;rename World=>wi;obtain⟨k,hk,rfl,hge,he⟩:=hrel;have xw:=xx.trans he;have hzi:=he.size;by_cases hlt:k<b.length
    .obtain⟨g,off,row,P,pc,eA,hr,wE,hpc,hP⟩:=HB.out.at_ hlt;subst eA;have hm:=axo hr;have hr0:=Hb0.out row hm;have hrl:=Ab.out row hm;have HT:=axj (jO (f:=Lx al ar bl) hr);obtain⟨g2,off2,y,_,_,_,_,eP,_⟩:=hP.iy hr0;subst eP;have b0:=af xw wE;have hdl:(row.drop bl).length=row.length-bl:=axF;have htl:(row.take bl).length=bl:=by rw[axx];omega
     have tN:((b.map (Lx al ar bl)).take k).length<=k:=ax7 _ _;have Bq:=axj (Jp (al:=al) (ar:=ar) hrl);have acX:bl<=pc:=by omega
     obtain⟨RL,Fh⟩:=xq row.length;rw[Fh]at b0 hpc hr0 hrl hdl;have acY:bl<=RL:=by omega
     have TR:RL<=12:=by omega
     clear hr hm wE hrl Fh;by_cases hpl:pc-bl=0
     .obtain rfl:bl=pc:=by omega
      obtain rfl:bl=RL:=by omega
      rw[ayd]at hdl;clear hpl;have Wm:row.drop bl=[]:=ayp hdl;have QD:∀W,Ex w W->aU (λw2=>Ex w w2) W (some ⟨g2,off2,none⟩) (row.drop bl):=λW _=>by rw[Wm];exact aU.nil _ _ _
      have QT:∀W,Ex w W->aU (λw2=>Ex w w2) W (some ⟨g2,off2,none⟩) (row.take bl):=λW hW=>(aU.iU hP hW (λ_ h=>h)).tk bl
      have HS:∀W,Ex wi W->(W.cell? ⟨w.heap.size,0,none⟩=some (.int .i64 al)/\W.cell? ⟨w.heap.size,1,none⟩=some (.int .i64 ar)/\W.cell? ⟨w.heap.size+1,0,none⟩=some (.int .i64 bl)/\W.cell? ⟨w.heap.size+1,1,none⟩=some (.int .i64 br)):=λW h=>⟨(qa.ex (he.trans h)).c0,(qa.ex (he.trans h)).c1,(qb.ex (he.trans h)).c0,(qb.ex (he.trans h)).c1⟩
      go_wp2_with fail
      go_region_held3 (λW=>W.cell? ⟨w.heap.size,0,none⟩=some (.int .i64 al)/\W.cell? ⟨w.heap.size,1,none⟩=some (.int .i64 ar)/\W.cell? ⟨w.heap.size+1,0,none⟩=some (.int .i64 bl)/\W.cell? ⟨w.heap.size+1,1,none⟩=some (.int .i64 br)) (first
       |(exact HS _ x2)|(exact HS _ x1)|(exact HS _ (aCQ _).drew)|(exact HS _ (aCQ _))) (first
       |(go_at_call 78
         refine(h_ al (by omega) wi.drew).mono ?_;rintro e w1 ⟨Z1,c1,rfl,oL,Gv⟩;have x1:Ex wi w1:=(aCQ wi).drew.trans Gv;have MB:RP w wi.heap.size w1 (.slice Z1 al c1) (replicate al zF):=RP.YM oL x1.size;obtain⟨v2,w2,iZ,rp2,hE2⟩:=MB.push x1.size (QT _ (xw.trans x1)) (λ_ h _=>h) bl (by simp[htl];omega);have x2:=hE2 wi x1 (axk _);rw[htl]at iZ)
       |(refine aH rfl _ _ _ rfl rfl rfl iZ ?_))
      all_goals
       clear iZ hE2 MB oL;have hv2:=rp2.own;go_wp2_with fail
       go_region_held3 (λW=>W.cell? ⟨w.heap.size,0,none⟩=some (.int .i64 al)/\W.cell? ⟨w.heap.size,1,none⟩=some (.int .i64 ar)/\W.cell? ⟨w.heap.size+1,0,none⟩=some (.int .i64 bl)/\W.cell? ⟨w.heap.size+1,1,none⟩=some (.int .i64 br)) (first
        |(exact HS _ x5)|(exact HS _ x4)|(exact HS _ x3)|(exact HS _ x2.drew)|(exact HS _ x2)) (first
        |(go_at_call 78
          refine(h_ ar (by omega) w2.drew).mono ?_;rintro e w3 ⟨Z3,c3,rfl,Rz,Xy⟩;have x23:Ex w2 w3:=(aCQ w2).drew.trans Xy;have x3:Ex wi w3:=x2.trans x23;obtain⟨v4,w4,fG,Yt,zf⟩:=(rp2.ex x23).push x3.size (Rz.rX (by simp;omega)) (RP.good (aCQ w3) x2.size hv2) c3 (by simp[htl];omega);have x4:=zf wi x3 (axk _);rw[axH]at fG;obtain⟨v5,w5,eG,C9,Be⟩:=Yt.push x4.size (QD _ (xw.trans x4)) (λ_ h _=>h) 0 (by rw[hdl];simp[htl];omega);have x5:=Be wi x4 (axk _);rw[hdl]at eG)
        |(refine aH (vx:=.slice Z3 ar c3) rfl _ _ _ rfl rfl rfl fG ?_)
        |(refine aH (vs:=v4) rfl _ _ _ rfl rfl rfl eG ?_))
       all_goals
        clear fG eG zf Be Yt rp2 Rz HS QD QT;obtain⟨A5,c5,Ug⟩:=C9.form;have hfl:(replicate al zF++row.take bl++replicate ar zF++row.drop bl)=Lx al ar bl row:=rfl;rw[hfl,Bq.out]at Ug;have hq:=C9.KA (by rw[hfl,Bq.out];omega);rw[hfl]at hq;subst Ug;obtain⟨v8,w8,EZ,Z_,_,_,Z5⟩:=bO (hge.ex x5) x5.size hq (axk _) x5.size (axk _) hzi (by rw[axv,axs];omega);rw[ayg,<-HT.out]at Z_;have x8:=Z5 W2 (he.trans x5) (axk _);clear C9 hq Z5 hge HT Bq hfl hdl htl tN;go_wp2_with (at_builtin;refine wpList_append_run rfl _ _ _ rfl rfl rfl EZ ?_)
        go_roundw;case rel=>exact⟨k+1,by omega,by go_num,Z_,x8⟩
        case measure=>simp[intOf];omega
     .have VY:¬(pc=bl):=by omega
      have QD:∀W,Ex w W->aU (λw2=>Ex w w2) W (some ⟨g2,off2+bl*2,none⟩) (row.drop bl):=λW hW=>(aU.iU hP hW (λ_ h=>h)).dp bl
      have QT:∀W,Ex w W->aU (λw2=>Ex w w2) W (some ⟨g2,off2,none⟩) (row.take bl):=λW hW=>(aU.iU hP hW (λ_ h=>h)).tk bl
      have HS:∀W,Ex wi W->(W.cell? ⟨w.heap.size,0,none⟩=some (.int .i64 al)/\W.cell? ⟨w.heap.size,1,none⟩=some (.int .i64 ar)/\W.cell? ⟨w.heap.size+1,0,none⟩=some (.int .i64 bl)/\W.cell? ⟨w.heap.size+1,1,none⟩=some (.int .i64 br)):=λW h=>⟨(qa.ex (he.trans h)).c0,(qa.ex (he.trans h)).c1,(qb.ex (he.trans h)).c0,(qb.ex (he.trans h)).c1⟩
      go_wp2_with fail
      go_region_held3 (λW=>W.cell? ⟨w.heap.size,0,none⟩=some (.int .i64 al)/\W.cell? ⟨w.heap.size,1,none⟩=some (.int .i64 ar)/\W.cell? ⟨w.heap.size+1,0,none⟩=some (.int .i64 bl)/\W.cell? ⟨w.heap.size+1,1,none⟩=some (.int .i64 br)) (first
       |(exact HS _ x2)|(exact HS _ x1)|(exact HS _ (aCQ _).drew)|(exact HS _ (aCQ _))) (first
       |(go_at_call 78
         refine(h_ al (by omega) wi.drew).mono ?_;rintro e w1 ⟨Z1,c1,rfl,oL,Gv⟩;have x1:Ex wi w1:=(aCQ wi).drew.trans Gv;have MB:RP w wi.heap.size w1 (.slice Z1 al c1) (replicate al zF):=RP.YM oL x1.size;obtain⟨v2,w2,iZ,rp2,hE2⟩:=MB.push x1.size (QT _ (xw.trans x1)) (λ_ h _=>h) pc (by simp[htl];omega);have x2:=hE2 wi x1 (axk _);rw[htl]at iZ)
       |(refine aH rfl _ _ _ rfl rfl rfl iZ ?_))
      all_goals
       clear iZ hE2 MB oL;have hv2:=rp2.own;go_wp2_with fail
       go_region_held3 (λW=>W.cell? ⟨w.heap.size,0,none⟩=some (.int .i64 al)/\W.cell? ⟨w.heap.size,1,none⟩=some (.int .i64 ar)/\W.cell? ⟨w.heap.size+1,0,none⟩=some (.int .i64 bl)/\W.cell? ⟨w.heap.size+1,1,none⟩=some (.int .i64 br)) (first
        |(exact HS _ x5)|(exact HS _ x4)|(exact HS _ x3)|(exact HS _ x2.drew)|(exact HS _ x2)) (first
        |(go_at_call 78
          refine(h_ ar (by omega) w2.drew).mono ?_;rintro e w3 ⟨Z3,c3,rfl,Rz,Xy⟩;have x23:Ex w2 w3:=(aCQ w2).drew.trans Xy;have x3:Ex wi w3:=x2.trans x23;obtain⟨v4,w4,fG,Yt,zf⟩:=(rp2.ex x23).push x3.size (Rz.rX (by simp;omega)) (RP.good (aCQ w3) x2.size hv2) c3 (by simp[htl];omega);have x4:=zf wi x3 (axk _);rw[axH]at fG;obtain⟨v5,w5,eG,C9,Be⟩:=Yt.push x4.size (QD _ (xw.trans x4)) (λ_ h _=>h) (pc-bl) (by rw[hdl];simp[htl];omega);have x5:=Be wi x4 (axk _);rw[hdl]at eG)
        |(refine aH (vx:=.slice Z3 ar c3) rfl _ _ _ rfl rfl rfl fG ?_)
        |(refine aH (vs:=v4) rfl _ _ _ rfl rfl rfl eG ?_))
       all_goals
        clear fG eG zf Be Yt rp2 Rz HS QD QT;obtain⟨A5,c5,Ug⟩:=C9.form;have hfl:(replicate al zF++row.take bl++replicate ar zF++row.drop bl)=Lx al ar bl row:=rfl;rw[hfl,Bq.out]at Ug;have hq:=C9.KA (by rw[hfl,Bq.out];omega);rw[hfl]at hq;subst Ug;obtain⟨v8,w8,EZ,Z_,_,_,Z5⟩:=bO (hge.ex x5) x5.size hq (axk _) x5.size (axk _) hzi (by rw[axv,axs];omega);rw[ayg,<-HT.out]at Z_;have x8:=Z5 W2 (he.trans x5) (axk _);clear C9 hq Z5 hge HT Bq hfl hdl htl tN;go_wp2_with (at_builtin;refine wpList_append_run rfl _ _ _ rfl rfl rfl EZ ?_)
        go_roundw;case rel=>exact⟨k+1,by omega,by go_num,Z_,x8⟩
        case measure=>simp[intOf];omega
    .obtain rfl:k=b.length:=by omega
     rw[axG (by rw[axs];exact axk _)]at hge;have hzw:=xx.size;have JY:(nu al ar bl br a b).length=a.length+b.length:=LG a b;obtain⟨A3,c3,ev,hN⟩:=GE.MC (xs:=nu al ar bl br a b) hge (S:=λz=>w.heap.size<=z/\z<W2.heap.size) (by rw[JY];omega) xw (λz hz=>hz);have hgd:=SQ (al:=al) (ar:=ar) (bl:=bl) (br:=br) HF.out (by omega) HGa.out Xb.out;have hwd:=DT Ac.out Ab.out;rw[Lh.out,HNR.out]at hwd;have agj:NL+NR<=12:=by have:=Lh.out;have:=HNR.out;omega
     have cO:=CZ (λz=>w.heap.size<=z/\z<W2.heap.size) p NL NR (nu al ar bl br a b) A3 c3 wi HF.out hN (λz hz=>by omega) hwd (Qa hgd hwd (axk _) (MW agj)) (by omega) (by rw[JY];omega);subst ev;clear hge hN hgd hwd;obtain⟨RR,hRR⟩:=xq ((au p).aC (NL+NR) (nu al ar bl br a b));have HRR:=axj hRR;rw[hRR]at cO;clear hRR;rw[JY]at cO⊢;clear JY;go_wp2_with fail
     refine cO.mono ?_;rintro e w4 ⟨A4,c4,rfl,r4,x4⟩;clear cO;have dz:=(d2.ex he).ex x4;have xz:=xw.trans x4;obtain⟨dd,zz⟩:=dz.l8 (.int .i64 NL) (.int .i64 NR) (.slice A4 RR.length c4);obtain⟨u0,u1,u2⟩:=dz.d3;obtain⟨k0,k1,k2⟩:=dz.z3;obtain⟨C0,C1,C2⟩:=dd.d3;have eF:=xz.aK zz (by omega);have hl2:=d2.lt;have hzi:=he.size;have rF:∀w2,bG (λk=>k<w.heap.size) _ w2->j_ w2 A4 RR:=λw2 hk=>r4 _ ((bG.aZ (S:=λk=>k<wi.heap.size) zz (by show _<wi.heap.size;omega)).trans hk (λi _ e=>by show i<wi.heap.size;have e:i<w.heap.size:=e;omega))
     go_wp2_with fail
     refine axu (v:=.agg #[.int .i64 NL,.int .i64 NR,.slice A4 RR.length c4]) (by simp[results,Tryz.results43,go_sem,C0,C1,C2]) rfl ?_;rw[HRR.out];exact⟨A4,c4,rfl,rF,eF⟩
section
structure RQ where
 l:Nat
 r:Nat
 b:List (List aG)
def xF:aG:=⟨[0,1],[1]⟩
def fU(p k v:Int):List (List Int):=
 if k=1 then(ay p).NM v.toNat
 else if k=2 then(ay p).aC 4 [[1,0,0,1],[0,1,1,0]]
 else if k=3 then(ay p).aC 3 [[1,1,1]]
 else if k=4 then(ay p).aC 1 [[1]]
 else if k=5 then(ay p).aC 3 [[1,0,1],[0,1,1]]
 else if k=6 then(ay p).aC 1 []
 else if k=7 then(ay p).aC 2 [[1,v]]
 else if k=9 then(ay p).aC 3 [[1,1,1]]
 else if k=10 then(ay p).aC 1 [[1]]
 else if k=11 then(ay p).aC 3 [[1,1,0],[1,0,1]]
 else if k=12 then(ay p).aC 1 []
 else(ay p).aC 2 [[v,1]]
def gU(p:Int)(n:Nd):List (List aG):=
 if n.kd=8 then(au p).aC 2 [[oF,xF]]
 else if n.kd=14 then(au p).aC 2 [[xF,oF]]
 else rq (fU p n.kd n.vl)
section
variable {p : Int} {hF : av p = true}
theorem amu:Tr [0,1]:=Tr.yO (by decide) (by decide)
theorem ae8(hF:av p=true):PN p [0,1]:=⟨by
 have:=ax hF;simp[aA,iF];omega,amu⟩
theorem Xx:(pe hF [0,1]).1=xF:=sj hF (ae8 hF)
theorem akJ{a:Int}(h:iF p a=true):(pe hF (cp a)).1=cF a:=by
 rw[sj hF (FN h)];unfold cF cp;by_cases e:a=0
 .subst e;rfl
 .rw[axm e];have:trim [a]=[a]:=by
   have h1:=Tr.trim [a];have h2:=gX [a] 0;cases ht:trim [a]with
   |nil=>rw[ht]at h2;exact absurd h2.symm e
   |cons b t=>
    have h3:=iY [a];rw[ht]at h3 h2;have h4:t=[]:=by
     cases t with
     |nil=>rfl
     |cons _ _=>simp at h3
    subst h4;have h5:b=a:=h2;rw[h5]
  rw[this]
theorem mX.const{R:List (List Int)}(hR:Dx (ay p) n R)(hel:fQ p R):mX hF n 0 (rq R):=by
 obtain⟨L,hL⟩:∃L:List (List (xX p)),L=R.map λv=>v.map λa=>pe hF (cp a):=⟨_,rfl⟩
 have e1:rq R=dO Subtype.val L:=by
  rw[hL];unfold rq dO;rw[axO];refine ax0 λv hv=>?_
  show v.map cF=(v.map λa=>pe hF (cp a)).map Subtype.val;rw[axO];exact ax0 λa ha=>(akJ (axQ.1 (hel v hv) a ha)).symm
 have hinj:∀a b:xX p,a.val=b.val->a=b:=λa b=>axS
 have h2:=adH hR;rw[e1]at h2;have h3:eX (aj p hF) n L:=(yB _).1 (((mV p hF).rrp hinj).1 h2);refine⟨L,e1,h3,oM.const h3 λv hv x hx=>?_⟩;rw[hL]at hv;obtain⟨u,hu,rfl⟩:=axr.1 hv;obtain⟨a,ha,rfl⟩:=axr.1 hx;exact⟨cp a,FN (axQ.1 (hel u hu) a ha),iY _,rfl⟩
theorem oU(O:Ops K)(n:Nat)(rows:List (List K)):(O.aC n rows).length<=rows.length:=by unfold Ops.aC;rw[axx,oV];omega
theorem mX.pair{a b:List Int}(ha:PN p a)(hb:PN p b)(la:a.length<=2)(lb:b.length<=2)(h1:a=[1]∨b=[1]):mX hF 2 1 ((au p).aC 2 [[(pe hF a).1,(pe hF b).1]]):=by
 obtain⟨L0,hL0⟩:∃L0:List (List (xX p)),L0=[[pe hF a,pe hF b]]:=⟨_,rfl⟩;have hw:aQ 2 L0:=λv hv=>by rw[hL0]at hv;rw[axJ.1 hv];rfl
 have e:[[(pe hF a).1,(pe hF b).1]]=dO Subtype.val L0:=by rw[hL0];rfl
 rw[e,(mV p hF).aC];refine⟨_,rfl,dL _ hw,?_⟩;have hm:=oM.leaf hF (Sp.UU (aj p hF) ((aj p hF).fns L0)) 1 1 (λ_ j=>if j=0 then a else if j=1 then b else[]) (λ_=>if a=[1]then 0 else 1) λi hi=>by
  refine⟨λj=>?_,?_,?_,λl hl hli=>by omega⟩
  .by_cases j0:j=0
   .rw[axl j0];exact⟨ha,la⟩
   .rw[axm j0];by_cases j1:j=1
    .rw[axl j1];exact⟨hb,lb⟩
    .rw[axm j1];exact⟨PN.nil p,by simp⟩
  .refine Sp.mem ?_;rw[hL0];refine axr.2 ⟨[pe hF a,pe hF b],by simp,funext λj=>?_⟩;rcases j with _|_|j
   .rfl
   .rfl
   .show(aj p hF).el _ _=pe hF (if j+2=0 then a else if j+2=1 then b else[]);rw[axm (by omega),axm (by omega),iT,Ops.dS _ (by simp)]
  .by_cases e:a=[1]
   .rw[axl e,axl rfl,e]
   .rw[axm e,axm (by omega),axl rfl];exact h1.resolve_left e
 refine(hm.iff λv hv=>(dH (aj p hF) hw v).2 hv).mono ?_ (axk _);have:=oU (aj p hF).toOps 2 L0;rw[hL0]at this⊢;exact this
theorem mX.delay:mX hF 2 1 ((au p).aC 2 [[oF,xF]]):=by have h:=mX.pair (hF:=hF) (PN.one (ax hF)) (ae8 hF) (by simp) (by simp) (.inl rfl);rw[Xx,su]at h;exact h
theorem mX.adF:mX hF 2 1 ((au p).aC 2 [[xF,oF]]):=by have h:=mX.pair (hF:=hF) (ae8 hF) (PN.one (ax hF)) (by simp) (by simp) (.inr rfl);rw[Xx,su]at h;exact h
theorem rT{rows:List (List Int)}(hF:av p=true)(hw:aQ n rows)(hel:fQ p rows):Dx (ay p) n ((ay p).aC n rows)/\fQ p ((ay p).aC n rows):=by
 obtain⟨u,hu⟩:=BK (P:=λa=>iF p a=true) rows (λv hv x hx=>axQ.1 (hel v hv) x hx);subst hu;have hinj:∀a b:Zp p,a.val=b.val->a=b:=λa b=>axS
 rw[(kX p hF).aC];refine⟨((kX p hF).rrp hinj).2 ((yB _).2 (dL _ (aQ.dO.1 hw))),λv hv=>?_⟩;obtain⟨w,_,rfl⟩:=axr.1 hv;exact axQ.2 λx hx=>by obtain⟨y,_,rfl⟩:=axr.1 hx;exact y.2
theorem jM.NM{A:Type}{O:Ops K}{O':Ops A}{f:K->A}(h:jM O O' f)(n:Nat):O'.NM n=dO f (O.NM n):=by
 unfold Ops.NM dO;rw[axO];refine ax0 λi _=>?_
 show O'.unit n i++O'.unit n i=(O.unit n i++O.unit n i).map f;rw[ax4,h.unit]
theorem UF(hF:av p=true)(n:Nat):Dx (ay p) (n+n) ((ay p).NM n)/\fQ p ((ay p).NM n):=by
 have hinj:∀a b:Zp p,a.val=b.val->a=b:=λa b=>axS
 rw[(kX p hF).NM];refine⟨((kX p hF).rrp hinj).2 ((yB _).2 (ZB _ n)),λv hv=>?_⟩;obtain⟨w,_,rfl⟩:=axr.1 hv;exact axQ.2 λx hx=>by obtain⟨y,_,rfl⟩:=axr.1 hx;exact y.2
theorem QU(hF:av p=true){k v:Int}(hk:bL 3 14 k=true)(h8:k≠8)(uJ:k≠14)(hv:k=7∨k=13->0<=v/\v<p):Dx (ay p) ((gw k).1.toNat+(gw k).2.toNat) (fU p k v)/\fQ p (fU p k v):=by
 have h2:=ax hF;have e1:iF p 1=true:=by simp[iF];omega
 have e0:iF p 0=true:=by simp[iF];omega
 have key:∀(n:Nat) (rows:List (List Int)),aQ n rows->fQ p rows->Dx (ay p) n ((ay p).aC n rows)/\fQ p ((ay p).aC n rows):=λn rows hw he=>rT hF hw he
 rcases kinds hk with rfl|rfl|rfl|rfl|rfl|rfl|rfl|rfl|rfl|rfl|rfl|rfl
 .exact key 3 [[1,1,1]] (λv hv=>by simp at hv;rw[hv];rfl) (λv hv=>by simp at hv;rw[hv];simp[aA,e1])
 .exact key 1 [[1]] (λv hv=>by simp at hv;rw[hv];rfl) (λv hv=>by simp at hv;rw[hv];simp[aA,e1])
 .exact key 3 [[1,0,1],[0,1,1]] (λv hv=>by simp at hv;rcases hv with rfl|rfl<;>rfl) (λv hv=>by simp at hv;rcases hv with rfl|rfl<;>simp[aA,e1,e0])
 .exact key 1 [] (λv hv=>by simp at hv) (λv hv=>by simp at hv)
 .have ev:iF p v=true:=by have:=hv (.inl rfl);simp[iF];omega
  exact key 2 [[1,v]] (λv hv=>by simp at hv;rw[hv];rfl) (λv hv=>by simp at hv;rw[hv];simp[aA,e1,ev])
 .exact absurd rfl h8
 .exact key 3 [[1,1,1]] (λv hv=>by simp at hv;rw[hv];rfl) (λv hv=>by simp at hv;rw[hv];simp[aA,e1])
 .exact key 1 [[1]] (λv hv=>by simp at hv;rw[hv];rfl) (λv hv=>by simp at hv;rw[hv];simp[aA,e1])
 .exact key 3 [[1,1,0],[1,0,1]] (λv hv=>by simp at hv;rcases hv with rfl|rfl<;>rfl) (λv hv=>by simp at hv;rcases hv with rfl|rfl<;>simp[aA,e1,e0])
 .exact key 1 [] (λv hv=>by simp at hv) (λv hv=>by simp at hv)
 .have ev:iF p v=true:=by have:=hv (.inr rfl);simp[iF];omega
  exact key 2 [[v,1]] (λv hv=>by simp at hv;rw[hv];rfl) (λv hv=>by simp at hv;rw[hv];simp[aA,e1,ev])
 .exact absurd rfl uJ
def Ci(p:Int)(n:Nd):Bool:= !(decide (n.kd=7∨n.kd=13)&&decide (p<=n.vl))
theorem Zm(hF:av p=true){n:Nd}{w:Int×Int}(h:jP n=some w)(hv:Ci p n=true):mX hF (w.1.toNat+w.2.toNat) 1 (gU p n):=by
 have h2:=ax hF;unfold jP at h;split at h
 .rename_i h1;injection h with h;subst h;obtain⟨_,hk,hi⟩:=h1;unfold gU;rw[axm (by omega),axm (by omega)];unfold fU;rw[axl hk];obtain⟨a,b⟩:=UF hF n.vl.toNat;exact(mX.const a b).mono (by omega)
 .split at h
  .rename_i h1;injection h with h;subst h;obtain⟨_,hk,hi⟩:=h1;unfold gU;rw[axm (by omega),axm (by omega)];unfold fU;rw[axm (by omega),axl hk];obtain⟨a,b⟩:=rT (p:=p) (n:=4) (rows:=[[1,0,0,1],[0,1,1,0]]) hF (λv hv=>by simp at hv;rcases hv with rfl|rfl<;>rfl) (λv hv=>by
    have e1:iF p 1=true:=by simp[iF];omega
    have e0:iF p 0=true:=by simp[iF];omega
    simp at hv;rcases hv with rfl|rfl<;>simp[aA,e1,e0])
   exact(mX.const a b).mono (by omega)
  .split at h
   .rename_i h1;injection h with h;subst h;obtain⟨_,hk,hvl⟩:=h1;unfold gU;by_cases h8:n.kd=8
    .rw[axl h8,h8];exact mX.delay
    .by_cases uJ:n.kd=14
     .rw[axm h8,axl uJ,uJ];exact mX.adF
     .rw[axm h8,axm uJ];obtain⟨a,b⟩:=QU (p:=p) (v:=n.vl) hF hk h8 uJ λe=>by
       unfold KY at hvl;rw[axl e]at hvl;unfold Ci at hv;simp[e,bL]at hv hvl;omega
      exact(mX.const a b).mono (by omega)
   .cases h
def jJ(p:Int)(st:List RQ)(n:Nd):Option (List RQ):=
 if n.kd=15 then
  match st with
  |b::a::s=>if a.l+b.r<=12 then some (⟨a.l,b.r,(au p).oo a.l a.r b.r a.b b.b⟩::s)else none
  |_=>none
 else if n.kd=16 then
  match st with
  |b::a::s=>if(a.l+b.l)+(a.r+b.r)<=12 then some (⟨a.l+b.l,a.r+b.r,(au p).aC ((a.l+b.l)+(a.r+b.r)) (nu a.l a.r b.l b.r a.b b.b)⟩::s)else none
  |_=>none
 else match jP n with
  |some w=>if w.1.toNat+w.2.toNat<=12 then some (⟨w.1.toNat,w.2.toNat,gU p n⟩::st)else none
  |none=>none
def xS(st:List RQ):List (Int×Int):=st.map λq=>((q.l:Int),(q.r:Int))
def kg(hF:av p=true):Nat->List RQ->Prop
 |_,[]=>True
 |k,q::st=>∃d,d<=k/\mX hF (q.l+q.r) d q.b/\q.l+q.r<=12/\kg hF (k-d) st
theorem kg.mono:∀{st:List RQ} {k k':Nat},kg hF k st->k<=k'->kg hF k' st
 |[],_,_,_,_=>trivial
 |_::st,_,_,⟨d,h1,h2,h3,h4⟩,hk=>⟨d,by omega,h2,h3,kg.mono (st:=st) h4 (by omega)⟩
theorem SL(al ar bl br:Nat)(A B:List (List (xX p))):nu al ar bl br (dO Subtype.val A) (dO Subtype.val B)=dO Subtype.val (LH (aj p hF) al ar bl br A B):=by
 unfold nu LH dO;rw[ax4,axO,axO,axO,axO];congr 1
 .refine ax0 λr _=>?_
  show Jr al bl br (r.map Subtype.val)=_;unfold Jr;show _=(r.take al++replicate bl (aj p hF).z++r.drop al++replicate br (aj p hF).z).map Subtype.val;rw[ax4,ax4,ax4,aze,ayT,azK,azK];rfl
 .refine ax0 λr _=>?_
  show Lx al ar bl (r.map Subtype.val)=_;unfold Lx;show _=(replicate al (aj p hF).z++r.take bl++replicate ar (aj p hF).z++r.drop bl).map Subtype.val;rw[ax4,ax4,ax4,aze,ayT,azK,azK];rfl
theorem mX.ten{dA dB:Nat}{a:List (List aG)}(ha:mX hF (al+ar) dA a)(hb:mX hF (bl+br) dB b):mX hF ((al+bl)+(ar+br)) (dA+dB) ((au p).aC ((al+bl)+(ar+br)) (nu al ar bl br a b)):=by
 obtain⟨A,rfl,a2,a3⟩:=ha;obtain⟨B,rfl,b2,b3⟩:=hb;have hw:aQ ((al+bl)+(ar+br)) (LH (aj p hF) al ar bl br A B):=by have h:=DT (a:=dO Subtype.val A) (b:=dO Subtype.val B) (aQ.dO.2 a2.1) (aQ.dO.2 b2.1);rw[SL (hF:=hF)]at h;exact aQ.dO.1 h
 rw[SL (hF:=hF),(mV p hF).aC];refine⟨_,rfl,dL _ hw,((oM.ten a2.1 b2.1 a3 b3).iff λv hv=>(dH (aj p hF) hw v).2 hv).mono ?_ (axk _)⟩;have:=oU (aj p hF).toOps ((al+bl)+(ar+br)) (LH (aj p hF) al ar bl br A B);unfold LH at this⊢;rw[axv,axs,axs]at this;exact this
theorem Ie{st:List RQ}{n:Nd}{ts:List (Int×Int)}(hg:kg hF k st)(hn:Ci p n=true)(hs:oQ (xS st) n=some ts):
 (jJ p st n=none/\∃w r,ts=w::r/\12<w.1+w.2)∨∃q s,jJ p st n=some (q::s)/\xS (q::s)=ts/\kg hF (k+1) (q::s)/\(q.l:Int)+q.r<=12:=by
 unfold oQ at hs;split at hs
 .rename_i hk;split at hs
  .match st,hg,hs with
   |[],_,hs=>cases hs
   |[_],_,hs=>cases hs
   |b::a::s,hg,hs=>
    obtain⟨db,b1,b2,b3,a0,a1,a2,a3,hg⟩:=hg;have hs:(Dh n.kd ((a.l:Int),(a.r:Int)) ((b.l:Int),(b.r:Int))).map (·::xS s)=some ts:=hs;unfold Dh at hs;rcases hk with zh|h16
    .rw[axl zh]at hs;dsimp only at hs;by_cases hab:(a.r:Int)=b.l
     .rw[axl hab]at hs;injection hs with hs;subst hs;have hab':a.r=b.l:=by omega
      by_cases hw:a.l+b.r<=12
      .refine .inr ⟨⟨a.l,b.r,(au p).oo a.l a.r b.r a.b b.b⟩,s,by unfold jJ;rw[axl zh];exact axl hw,rfl,⟨a0+db,by omega,mX.cmp a2 (hab'▸b2),hw,hg.mono (by omega)⟩,by show(a.l:Int)+b.r<=12;omega⟩
      .exact .inl ⟨by unfold jJ;rw[axl zh];exact axm hw,_,_,rfl,by show(12:Int)<a.l+b.r;omega⟩
     .rw[axm hab]at hs;cases hs
    .have zh:¬n.kd=15:=by omega
     rw[axm zh]at hs;dsimp only at hs;by_cases hab:(a.l:Int)+b.l<=12/\(a.r:Int)+b.r<=12
     .rw[axl hab]at hs;injection hs with hs;subst hs;by_cases hw:(a.l+b.l)+(a.r+b.r)<=12
      .refine .inr ⟨⟨a.l+b.l,a.r+b.r,(au p).aC ((a.l+b.l)+(a.r+b.r)) (nu a.l a.r b.l b.r a.b b.b)⟩,s,by unfold jJ;rw[axm zh,axl h16];exact axl hw,by simp[xS],⟨a0+db,by omega,mX.ten a2 b2,hw,hg.mono (by omega)⟩,by show((a.l+b.l:Nat):Int)+((a.r+b.r:Nat):Int)<=12;omega⟩
      .exact .inl ⟨by unfold jJ;rw[axm zh,axl h16];exact axm hw,_,_,rfl,by show(12:Int)<(a.l+b.l)+(a.r+b.r);omega⟩
     .rw[axm hab]at hs;cases hs
  .cases hs
 .rename_i hk;cases hl:jP n with
  |none=>rw[hl]at hs;cases hs
  |some w=>
   rw[hl]at hs;injection hs with hs;subst hs;have hb:=JQ hl;have e:jJ p st n=if w.1.toNat+w.2.toNat<=12 then some (⟨w.1.toNat,w.2.toNat,gU p n⟩::st)else none:=by unfold jJ;rw[axm (by omega),axm (by omega),hl]
   by_cases hw:w.1.toNat+w.2.toNat<=12
   .refine .inr ⟨⟨w.1.toNat,w.2.toNat,gU p n⟩,st,by rw[e];exact axl hw,?_,⟨1,by omega,Zm hF hl hn,hw,hg.mono (by omega)⟩,by show((w.1.toNat:Nat):Int)+((w.2.toNat:Nat):Int)<=12;omega⟩;show(((w.1.toNat:Nat):Int),((w.2.toNat:Nat):Int))::xS st=w::xS st;rw[show(((w.1.toNat:Nat):Int),((w.2.toNat:Nat):Int))=w from Prod.ext (by show((w.1.toNat:Nat):Int)=w.1;omega) (by show((w.2.toNat:Nat):Int)=w.2;omega)]
   .exact .inl ⟨by rw[e];exact axm hw,_,_,rfl,by omega⟩
def jR(p:Int):List Nd->List RQ->Option (List RQ)
 |[],st=>some st
 |n::l,st=>(jJ p st n).bind (jR p l)
theorem BD(p:Int)(a b:List Nd)(st:List RQ):jR p (a++b) st=(jR p a st).bind (jR p b):=by
 induction a generalizing st with
 |nil=>rfl
 |cons n a ih=>
  show(jJ p st n).bind (jR p (a++b))=((jJ p st n).bind (jR p a)).bind (jR p b);cases jJ p st n with
  |none=>rfl
  |some s=>exact ih s
theorem nJ{l:List Nd}{n:Nd}(h:l[k]?=some n)(st:List RQ):jR p (l.take (k+1)) st=(jR p (l.take k) st).bind λs=>jJ p s n:=by rw[axy,h,ayE,BD];congr 1;funext s;show(jJ p s n).bind (λs=>some s)=jJ p s n;cases jJ p s n<;>rfl
theorem Au{l:List Nd}{st:List RQ}(h:jR p (l.take k) st=none):jR p l st=none:=by rw[<-ayw k l,BD,h];rfl
def qg(p:Int)(l:List Nd):Option RQ:=
 match jR p l []with
 |some [q]=>some q
 |_=>none
def sZ(p:Int)(l:List Nd):Bool:=av p&&(iR l&&l.all (Ci p))
def bF(p:Int)(t:Tm):iK×Bool:=
 if sZ p t.ns=true then
  match qg p t.ns with
  |some q=>if SG p q.l q.r q.b=true then(⟨q.l,q.r,q.b⟩,true)else(⟨0,0,[]⟩,false)
  |none=>(⟨0,0,[]⟩,false)
 else(⟨0,0,[]⟩,false)
theorem Dp{t:Tm}(h:sZ p t.ns=false):bF p t=(⟨0,0,[]⟩,false):=axm (by rw[h];decide)
theorem nM{t:Tm}(h:qg p t.ns=none):bF p t=(⟨0,0,[]⟩,false):=by
 unfold bF;split
 .rw[h]
 .rfl
theorem wo{t:Tm}(h:sZ p t.ns=true){q:RQ}(hq:qg p t.ns=some q):bF p t=if SG p q.l q.r q.b=true then(⟨q.l,q.r,q.b⟩,true)else(⟨0,0,[]⟩,false):=by unfold bF;rw[axl h,hq]
end
end
section
def iM(l:Nat)(rows:List (List Int)):List (List Int):=rows.map λx=>x.drop l++x.take l
def lM(k v:Int):List (List Int):=if k=3 then[[1,1,1]]else if k=4 then[[1]]else if k=5 then[[1,0,1],[0,1,1]]else if k=7 then[[1,v]]else[]
theorem yN(F:aJ K){v:List K}(hv:v.length=n){q:Nat}(hq:q<n)(h1:F.el v q=F.o)(h0:∀j,j<q->F.el v j=F.z):F.aC n [v]=[v]:=
 Az ⟨λu hu=>by rw[axJ.1 hu];exact hv,[q],
  {pl:=rfl
   hr:=axk _
   KN:=by simp
   lt:=λx hx=>by rw[axJ.1 hx];exact hq
   one:=λi x u hi hu=>by
    rcases i with _|i
    .injection hi with hi;injection hu with hu;subst hi hu;exact h1
    .simp at hi
   BV:=λi i' x u hi hu hne=>by
    rcases i with _|i
    .rcases i' with _|i'
     .exact absurd rfl hne
     .simp at hu
    .simp at hi
   led:=λi x u hi hu j hj=>by
    rcases i with _|i
    .injection hi with hi;injection hu with hu;subst hi hu;exact h0 j hj
    .simp at hi
   low:=λi u hi hu=>by
    have:=(axp.1 hu).1;omega}⟩
theorem XD(F:aJ K):F.aC 3 [[F.o,F.z,F.o],[F.z,F.o,F.o]]=[[F.o,F.z,F.o],[F.z,F.o,F.o]]:=
 Az ⟨λu hu=>by
  simp only[axI,axV,or_false]at hu;rcases hu with rfl|rfl<;>rfl,[0,1],
  {pl:=rfl
   hr:=axk _
   KN:=by simp
   lt:=λx hx=>by simp only[axI,axV,or_false]at hx;omega
   one:=λi x u hi hu=>by
    rcases i with _|_|i
    .injection hi with hi;injection hu with hu;subst hi hu;rfl
    .injection hi with hi;injection hu with hu;subst hi hu;rfl
    .simp at hi
   BV:=λi i' x u hi hu hne=>by
    rcases i with _|_|i
    .rcases i' with _|_|i'
     .exact absurd rfl hne
     .injection hi with hi;injection hu with hu;subst hi hu;rfl
     .simp at hu
    .rcases i' with _|_|i'
     .injection hi with hi;injection hu with hu;subst hi hu;rfl
     .exact absurd rfl hne
     .simp at hu
    .simp at hi
   led:=λi x u hi hu j hj=>by
    rcases i with _|_|i
    .injection hi with hi;subst hi;omega
    .injection hi with hi;injection hu with hu;subst hi hu;obtain rfl:j=0:=by omega
     rfl
    .simp at hi
   low:=λi u hi hu=>by
    have:=(axp.1 hu).1;omega}⟩
section
variable {p : Int}
theorem Yh(O:Ops K)(n:Nat):O.aC n []=[]:=List.length_eq_zero_iff.1 (Nat.le_zero.1 (oU O n []))
theorem adY(hF:av p=true):(ay p).aC 3 [[1,1,1]]=[[1,1,1]]:=by
 have h:=yN (aD p hF) (v:=[(aD p hF).o,(aD p hF).o,(aD p hF).o]) (n:=3) rfl (q:=0) (by omega) rfl λj hj=>by omega
 have e:=(kX p hF).aC 3 [[(aD p hF).o,(aD p hF).o,(aD p hF).o]];rw[h]at e;exact e
theorem z_1(hF:av p=true):(ay p).aC 1 [[1]]=[[1]]:=by
 have h:=yN (aD p hF) (v:=[(aD p hF).o]) (n:=1) rfl (q:=0) (by omega) rfl λj hj=>by omega
 have e:=(kX p hF).aC 1 [[(aD p hF).o]];rw[h]at e;exact e
theorem ah8(hF:av p=true):(ay p).aC 3 [[1,0,1],[0,1,1]]=[[1,0,1],[0,1,1]]:=by have h:=XD (aD p hF);have e:=(kX p hF).aC 3 [[(aD p hF).o,(aD p hF).z,(aD p hF).o],[(aD p hF).z,(aD p hF).o,(aD p hF).o]];rw[h]at e;exact e
theorem amf(hF:av p=true){v:Int}(hv:iF p v=true):(ay p).aC 2 [[1,v]]=[[1,v]]:=by
 have h:=yN (aD p hF) (v:=[(aD p hF).o,⟨v,hv⟩]) (n:=2) rfl (q:=0) (by omega) rfl λj hj=>by omega
 have e:=(kX p hF).aC 2 [[(aD p hF).o,⟨v,hv⟩]];rw[h]at e;exact e
theorem QV(hF:av p=true){k v:Int}(hk:bL 9 13 k=true)(hv:k=13->iF p v=true):
 (ay p).aC ((gw (k-6)).2.toNat+(gw (k-6)).1.toNat) (iM (gw (k-6)).1.toNat ((ay p).aC ((gw (k-6)).1.toNat+(gw (k-6)).2.toNat) (lM (k-6) v)))=fU p k v:=by
 have h:k=9∨k=10∨k=11∨k=12∨k=13:=by simp[bL]at hk;omega
 rcases h with rfl|rfl|rfl|rfl|rfl
 .show(ay p).aC 3 (iM 1 ((ay p).aC 3 [[1,1,1]]))=(ay p).aC 3 [[1,1,1]];rw[adY hF];exact adY hF
 .show(ay p).aC 1 (iM 1 ((ay p).aC 1 [[1]]))=(ay p).aC 1 [[1]];rw[z_1 hF];exact z_1 hF
 .show(ay p).aC 3 (iM 2 ((ay p).aC 3 [[1,0,1],[0,1,1]]))=(ay p).aC 3 [[1,1,0],[1,0,1]];rw[ah8 hF];rfl
 .show(ay p).aC 1 (iM 0 ((ay p).aC 1 []))=(ay p).aC 1 [];rw[Yh];rfl
 .show(ay p).aC 2 (iM 1 ((ay p).aC 2 [[1,v]]))=(ay p).aC 2 [[v,1]];rw[amf hF (hv rfl)];rfl
theorem VK{k v:Int}(hk:bL 3 7 k=true):(ay p).aC ((gw k).1.toNat+(gw k).2.toNat) (lM k v)=fU p k v:=by
 have h:k=3∨k=4∨k=5∨k=6∨k=7:=by simp[bL]at hk;omega
 rcases h with rfl|rfl|rfl|rfl|rfl<;>rfl
theorem IW(hF:av p=true){k v:Int}(hk:bL 3 7 k=true)(hv:k=7->iF p v=true):aQ ((gw k).1.toNat+(gw k).2.toNat) (lM k v)/\fQ p (lM k v)/\(lM k v).length<=2:=by
 have h2:=ax hF;have e1:iF p 1=true:=by simp[iF];omega
 have e0:iF p 0=true:=by simp[iF];omega
 have h:k=3∨k=4∨k=5∨k=6∨k=7:=by simp[bL]at hk;omega
 rcases h with rfl|rfl|rfl|rfl|rfl
 .exact⟨λu hu=>by rw[axJ.1 hu];rfl,λu hu=>by rw[axJ.1 hu];simp[aA,e1],by show 1<=2;omega⟩
 .exact⟨λu hu=>by rw[axJ.1 hu];rfl,λu hu=>by rw[axJ.1 hu];simp[aA,e1],by show 1<=2;omega⟩
 .refine⟨λu hu=>?_,λu hu=>?_,by show 2<=2;omega⟩
  .rcases axI.1 hu with rfl|hu
   .rfl
   .rw[axJ.1 hu];rfl
  .rcases axI.1 hu with rfl|hu
   .simp[aA,e1,e0]
   .rw[axJ.1 hu];simp[aA,e1,e0]
 .exact⟨λu hu=>absurd (show u∈([]:List (List Int))from hu) axV,λu hu=>absurd (show u∈([]:List (List Int))from hu) axV,by show 0<=2;omega⟩
 .exact⟨λu hu=>by rw[axJ.1 hu];rfl,λu hu=>by rw[axJ.1 hu];simp[aA,e1,hv rfl],by show 1<=2;omega⟩
end
end
section
section
variable {K : Type}
theorem LY(F:aJ K){M:List (List K)}(hw:aQ n M):F.g_ n M=F.oH n M:=
 jT (dL F (qI F.toOps n _)) (Dc F) λv=>(LX F hw v).trans (vS F hw v).symm
def Ops.kY(O:Ops K)(W:Nat)(E:List Nat)(M:List (List K)):List (List K):=O.aC E.length ((O.g_ W M).map (O.xV E))
theorem JU(F:aJ K){W:Nat}{E:List Nat}{M:List (List K)}(hw:aQ W M):F.kY W E M=F.yX W E M:=by unfold Ops.kY Ops.yX;rw[LY F hw]
theorem jM.xV{A:Type}{O:Ops K}{O':Ops A}{f:K->A}(h:jM O O' f)(E:List Nat)(v:List K):O'.xV E (v.map f)=(O.xV E v).map f:=by unfold Ops.xV;rw[axO];exact ax0 λj _=>h.el v j
theorem jM.kY{A:Type}{O:Ops K}{O':Ops A}{f:K->A}(h:jM O O' f)(W:Nat)(E:List Nat)(M:List (List K)):O'.kY W E (dO f M)=dO f (O.kY W E M):=by unfold Ops.kY;rw[h.g_,<-h.aC];congr 1;unfold dO;rw[axO,axO];exact ax0 λv _=>h.xV E v
end
section
variable {p : Int}
def mK(p:Int)(n:Nat)(at_:List Nat)(vs:List Int):List Int:=(at_.zip vs).foldl (λo x=>o.set x.1 ((o.getD x.1 0+x.2)%p)) (replicate n 0)
def eqR(p:Int)(n:Nat)(k v:Int)(i o:List Nat):List (List Int):=
 if k=3 then[mK p n [o.getD 0 0,i.getD 0 0] [1,p-1],mK p n [o.getD 1 0,i.getD 0 0] [1,p-1]]
 else if k=5 then[mK p n [o.getD 0 0,i.getD 0 0,i.getD 1 0] [1,p-1,p-1]]
 else if k=6 then[mK p n [o.getD 0 0] [1]]
 else if k=7 then[mK p n [o.getD 0 0,i.getD 0 0] [1,(ay p).neg v]]
 else[]
def RV(p:Int)(n:Nat)(k v:Int)(i o:List Nat):List (List Int):=if 9<=k then eqR p n (k-6) v o i else eqR p n k v i o
theorem acu(hF:av p=true):p-1=(ay p).neg 1:=by have:=ax hF;show p-1=(-1)%p;rw[show(-1:Int)=(p-1)+p*(-1) by omega,Int.add_mul_emod_self_left,ayl (by omega) (by omega)]
theorem add0(hF:av p=true){a:Int}(h:iF p a=true):(0+a)%p=a:=by
 have:0<=a/\a<p:=by simpa[iF]using h
 rw[azc,ayl this.1 this.2]
theorem KD(hF:av p=true)(a:Int):iF p ((ay p).neg a)=true:=jK (by have:=ax hF;omega) _
theorem Q0(hF:av p=true){k v:Int}(hk:bL 3 14 k=true)(h8:k≠8)(uJ:k≠14)(hv:k=7∨k=13->iF p v=true)(hg:gw k=((n:Int),(m:Int))):
 (ay p).kY (n+m) (range (n+m)) (RV p (n+m) k v (range n) ((range m).map (n+·)))=fU p k v:=by
 have h2:=ax hF;have e1:iF p 1=true:=by simp[iF];omega
 have en1:=KD hF 1;have a1:=add0 hF e1;have an1:=add0 hF en1;have anv:=add0 hF (KD hF v);have key:∀(W:Nat) (M G:List (List (Zp p))),aQ W M->(aD p hF).aC W G=(aD p hF).oH W M->(ay p).kY W (range W) (dO Subtype.val M)=(ay p).aC W (dO Subtype.val G):=λW M G hw e=>by rw[(kX p hF).kY,JU _ hw,VL,<-e,(kX p hF).aC]
 have F:=aD p hF;rcases kinds hk with rfl|rfl|rfl|rfl|rfl|rfl|rfl|rfl|rfl|rfl|rfl|rfl
 .obtain⟨rfl,rfl⟩:n=1/\m=2:=by injection hg with h1 h2;exact⟨(Int.ofNat.inj h1).symm,(Int.ofNat.inj h2).symm⟩
  have e:RV p 3 3 v (range 1) ((range 2).map (1+·))=dO Subtype.val [[(aD p hF).neg (aD p hF).o,(aD p hF).o,(aD p hF).z],[(aD p hF).neg (aD p hF).o,(aD p hF).z,(aD p hF).o]]:=by show[[(0+(p-1))%p,(0+1)%p,0],[(0+(p-1))%p,0,(0+1)%p]]=[[(ay p).neg 1,1,0],[(ay p).neg 1,0,1]];rw[acu hF,an1,a1]
  exact(congrArg _ e).trans (key 3 _ [[(aD p hF).o,(aD p hF).o,(aD p hF).o]] (λv hv=>by simp at hv;rcases hv with rfl|rfl<;>rfl) (IG _ (λv hv=>by simp at hv;rcases hv with rfl|rfl<;>rfl) (aaR _)))
 .obtain⟨rfl,rfl⟩:n=1/\m=0:=by injection hg with h1 h2;exact⟨(Int.ofNat.inj h1).symm,(Int.ofNat.inj h2).symm⟩
  exact key 1 [] [[(aD p hF).o]] (λv hv=>by simp at hv) (Nu _)
 .obtain⟨rfl,rfl⟩:n=2/\m=1:=by injection hg with h1 h2;exact⟨(Int.ofNat.inj h1).symm,(Int.ofNat.inj h2).symm⟩
  have e:RV p 3 5 v (range 2) ((range 1).map (2+·))=dO Subtype.val [[(aD p hF).neg (aD p hF).o,(aD p hF).neg (aD p hF).o,(aD p hF).o]]:=by show[[(0+(p-1))%p,(0+(p-1))%p,(0+1)%p]]=[[(ay p).neg 1,(ay p).neg 1,1]];rw[acu hF,an1,a1]
  exact(congrArg _ e).trans (key 3 _ [[(aD p hF).o,(aD p hF).z,(aD p hF).o],[(aD p hF).z,(aD p hF).o,(aD p hF).o]] (λv hv=>by simp at hv;rw[hv];rfl) (Zk _))
 .obtain⟨rfl,rfl⟩:n=0/\m=1:=by injection hg with h1 h2;exact⟨(Int.ofNat.inj h1).symm,(Int.ofNat.inj h2).symm⟩
  have e:RV p 1 6 v (range 0) ((range 1).map (0+·))=dO Subtype.val [[(aD p hF).o]]:=by show[[(0+1)%p]]=[[1]];rw[a1]
  exact(congrArg _ e).trans (key 1 _ [] (λv hv=>by simp at hv;rw[hv];rfl) (IE _))
 .obtain⟨rfl,rfl⟩:n=1/\m=1:=by injection hg with h1 h2;exact⟨(Int.ofNat.inj h1).symm,(Int.ofNat.inj h2).symm⟩
  have ev:=hv (.inl rfl);have e:RV p 2 7 v (range 1) ((range 1).map (1+·))=dO Subtype.val [[(aD p hF).neg ⟨v,ev⟩,(aD p hF).o]]:=by show[[(0+(ay p).neg v)%p,(0+1)%p]]=[[(ay p).neg v,1]];rw[anv,a1]
  exact(congrArg _ e).trans (key 2 _ [[(aD p hF).o,⟨v,ev⟩]] (λv hv=>by simp at hv;rw[hv];rfl) (Zj _ _))
 .exact absurd rfl h8
 .obtain⟨rfl,rfl⟩:n=2/\m=1:=by injection hg with h1 h2;exact⟨(Int.ofNat.inj h1).symm,(Int.ofNat.inj h2).symm⟩
  have e:RV p 3 9 v (range 2) ((range 1).map (2+·))=dO Subtype.val [[(aD p hF).o,(aD p hF).z,(aD p hF).neg (aD p hF).o],[(aD p hF).z,(aD p hF).o,(aD p hF).neg (aD p hF).o]]:=by show[[(0+1)%p,0,(0+(p-1))%p],[0,(0+1)%p,(0+(p-1))%p]]=[[1,0,(ay p).neg 1],[0,1,(ay p).neg 1]];rw[acu hF,an1,a1]
  exact(congrArg _ e).trans (key 3 _ [[(aD p hF).o,(aD p hF).o,(aD p hF).o]] (λv hv=>by simp at hv;rcases hv with rfl|rfl<;>rfl) (IG _ (λv hv=>by simp at hv;rcases hv with rfl|rfl<;>rfl) (R9 _)))
 .obtain⟨rfl,rfl⟩:n=0/\m=1:=by injection hg with h1 h2;exact⟨(Int.ofNat.inj h1).symm,(Int.ofNat.inj h2).symm⟩
  exact key 1 [] [[(aD p hF).o]] (λv hv=>by simp at hv) (Nu _)
 .obtain⟨rfl,rfl⟩:n=1/\m=2:=by injection hg with h1 h2;exact⟨(Int.ofNat.inj h1).symm,(Int.ofNat.inj h2).symm⟩
  have e:RV p 3 11 v (range 1) ((range 2).map (1+·))=dO Subtype.val [[(aD p hF).o,(aD p hF).neg (aD p hF).o,(aD p hF).neg (aD p hF).o]]:=by show[[(0+1)%p,(0+(p-1))%p,(0+(p-1))%p]]=[[1,(ay p).neg 1,(ay p).neg 1]];rw[acu hF,an1,a1]
  exact(congrArg _ e).trans (key 3 _ [[(aD p hF).o,(aD p hF).o,(aD p hF).z],[(aD p hF).o,(aD p hF).z,(aD p hF).o]] (λv hv=>by simp at hv;rw[hv];rfl) (QR _))
 .obtain⟨rfl,rfl⟩:n=1/\m=0:=by injection hg with h1 h2;exact⟨(Int.ofNat.inj h1).symm,(Int.ofNat.inj h2).symm⟩
  have e:RV p 1 12 v (range 1) ((range 0).map (1+·))=dO Subtype.val [[(aD p hF).o]]:=by show[[(0+1)%p]]=[[1]];rw[a1]
  exact(congrArg _ e).trans (key 1 _ [] (λv hv=>by simp at hv;rw[hv];rfl) (IE _))
 .obtain⟨rfl,rfl⟩:n=1/\m=1:=by injection hg with h1 h2;exact⟨(Int.ofNat.inj h1).symm,(Int.ofNat.inj h2).symm⟩
  have ev:=hv (.inr rfl);have e:RV p 2 13 v (range 1) ((range 1).map (1+·))=dO Subtype.val [[(aD p hF).o,(aD p hF).neg ⟨v,ev⟩]]:=by show[[(0+1)%p,(0+(ay p).neg v)%p]]=[[1,(ay p).neg v]];rw[anv,a1]
  exact(congrArg _ e).trans (key 2 _ [[⟨v,ev⟩,(aD p hF).o]] (λv hv=>by simp at hv;rw[hv];rfl) (QO _ _))
 .exact absurd rfl uJ
theorem Zl(hF:av p=true)(n:Nat):(ay p).kY n (range n++range n) []=(ay p).NM n:=by have h:(ay p).kY n (range n++range n) (dO Subtype.val [])=_:=(kX p hF).kY n (range n++range n) [];rw[JU _ (λv hv=>by simp at hv),acI,<-(kX p hF).NM]at h;exact h
theorem QY(hF:av p=true):(ay p).kY 2 [0,1,1,0] []=(ay p).aC 4 [[1,0,0,1],[0,1,1,0]]:=by have h:(ay p).kY 2 [0,1,1,0] (dO Subtype.val [])=_:=(kX p hF).kY 2 [0,1,1,0] [];rw[JU _ (λv hv=>by simp at hv),VJ,<-(kX p hF).aC]at h;exact h
end
end
def AA(p:Int)(n:Nat)(at_:List Nat)(vs:List Int)(k:Nat):List Int:=((at_.zip vs).take k).foldl (λo x=>o.set x.1 ((o.getD x.1 0+x.2)%p)) (replicate n 0)
theorem Yx{at_:List Nat}{vs:List Int}(h:at_.length=vs.length):AA p n at_ vs at_.length=mK p n at_ vs:=by unfold AA mK;rw[axG (by rw[azE];omega)]
theorem U7{at_:List Nat}{vs:List Int}{i:Nat}(hi:at_[k]?=some i)(hx:vs[k]?=some x):AA p n at_ vs (k+1)=(AA p n at_ vs k).set i (((AA p n at_ vs k).getD i 0+x)%p):=by
 have:(at_.zip vs)[k]?=some (i,x):=by rw[ayD];exact⟨hi,hx⟩
 unfold AA;rw[axy,this,ayE,azg];rfl
theorem qd(p:Int):∀(l:List (Nat×Int)) (o:List Int),(l.foldl (λo x=>o.set x.1 ((o.getD x.1 0+x.2)%p)) o).length=o.length
 |[],o=>rfl
 |x::l,o=>by rw[List.foldl_cons,qd p l,axM]
theorem Yw(p:Int)(n:Nat)(at_:List Nat)(vs:List Int)(k:Nat):(AA p n at_ vs k).length=n:=by unfold AA;rw[qd,axH]
theorem jd(p:Int)(n:Nat)(at_:List Nat)(vs:List Int):(mK p n at_ vs).length=n:=by unfold mK;rw[qd,axH]
theorem sN(hp:0<p):∀(l:List (Nat×Int)) (o:List Int),(∀x∈o,0<=x/\x<p)->∀x∈l.foldl (λo x=>o.set x.1 ((o.getD x.1 0+x.2)%p)) o,0<=x/\x<p
 |[],o,h=>h
 |y::l,o,h=>by
  rw[List.foldl_cons];refine sN hp l _ λx hx=>?_
  rcases ayZ hx with hx|hx
  .exact h x hx
  .rw[hx];exact⟨ayh _ (by omega),ayi _ hp⟩
theorem ab7(hp:0<p)(n:Nat)(at_:List Nat)(vs:List Int)(k:Nat):∀x∈AA p n at_ vs k,0<=x/\x<p:=
 sN hp _ _ λx hx=>by rw[List.eq_of_mem_replicate hx];exact⟨aza _,hp⟩
theorem ab8(hp:0<p)(n:Nat)(at_:List Nat)(vs:List Int):∀x∈mK p n at_ vs,0<=x/\x<p:=
 sN hp _ _ λx hx=>by rw[List.eq_of_mem_replicate hx];exact⟨aza _,hp⟩
theorem lY(p:Int)(n:Nat)(at_:List Nat)(vs:List Int)(A:Option Addr)(c:Nat)(B:Option Addr)(d:Nat)(w:World)(hF:av p=true)(hA:Rd w A (at_.map Int.ofNat))(hB:Rd w B vs)(hl:at_.length=vs.length)(hb:∀i∈at_,i<n)(hv:∀x∈vs,0<=x/\x<=96)(hn:n<=1000):
 Calls prog 196 #[.int .i64 p,.int .i64 n,.slice A at_.length c,.slice B vs.length d] w λe w'=>∃g,e=.returned (.slice (some ⟨g,0,none⟩) n n)/\w.heap.size<=g/\Own w' g (mK p n at_ vs)/\Ex w w':=by
 have h2:=ax hF;have h97:=aT hF;have hAl:=hA.len;rw[axs]at hAl;have HB:=axj hb;have HV:=axj hv;obtain⟨L,hL⟩:=xq at_.length;have HRF:=axj (show AA p n at_ vs L=mK p n at_ vs by rw[<-hL];exact Yx hl);have HL:=axj hL;have HL2:=axj (hl.symm.trans hL);have hmk:=λW=>fe n (by omega) W
 have H:=axj hA;have HH:=axj hB;rw[hl.symm.trans hL,hL];rw[hL]at hAl;clear hb hv hl hL hF hA hB;go_enter Tryz.func196,Tryz.ntmps196
 go_wp2_with fail
 have o1:=Own.new w (replicate n 0);have x1:=(aCQ w).alloc (aN (replicate n 0));generalize w.alloc (aN (replicate n 0))=W at*;clear hmk;go_loopw [16] (λi wr=>∃k:Nat,k<=L/\i=.int .i64 k/\Own wr w.heap.size (AA p n at_ vs k)/\Ex w wr) (λi _=>L-(intOf i).toNat)
 case atStart=>exact⟨0,axq _,rfl,o1,x1⟩
 case round=>
  clear o1 x1;obtain⟨k,hk,rfl,ho,he⟩:=hrel;by_cases hlt:k<L
  .obtain⟨gA,oA,y,eA,hy,hgA,hcA⟩:=(H.out.ex he).at_ (show k<(at_.map Int.ofNat).length by rw[axs,HL.out];exact hlt);subst eA;obtain⟨gB,oB,z,eB,hz,hgB,hcB⟩:=(HH.out.ex he).at_ (show k<vs.length by rw[HL2.out];exact hlt);subst eB;obtain⟨i,hi,rfl⟩:∃i,at_[k]?=some i/\y=Int.ofNat i:=by
    rw[axw]at hy;cases hi:at_[k]? with
    |none=>rw[hi]at hy;cases hy
    |some i=>rw[hi]at hy;injection hy with hy;exact⟨i,rfl,hy.symm⟩
   have hin:=HB.out i (axo hi);have hzb:=HV.out z (axo hz);have HS:=axj (U7 (p:=p) (n:=n) hi hz);have hrl:=Yw p n at_ vs k;obtain⟨V,hV⟩:=xq (AA p n at_ vs k);have hVe:=ab7 (show 0<p by omega) n at_ vs k;rw[hV]at ho HS hrl hVe;have hvi:V[i]?=some (V.getD i 0):=by rw[axt,axn (by omega)];rfl
   obtain⟨x,hx⟩:=xq (V.getD i 0);rw[hx]at hvi HS;have hxb:=hVe x (axo hvi);have qo:=ho.cell hvi;have fz:=ho.frozen i;have hset:=ho.bC i ((x+z)%p);rw[<-HS.out]at hset;have cA:=λW=>Kt p x z W h2 (by omega) hzb
   have he2:=he.setCell (p:=⟨w.heap.size,i,none⟩) (axk _) (.int .i64 ((x+z)%p));have hcA:wr.cell? ⟨gA,oA+k,none⟩=some (.int .i64 (i:Int)):=hcA;clear hy hz hV hrl hVe hvi hi hx HS ho;go_wp2_with fail
   refine wp_region_still_tail 13 (by kernel_rfl) (by kernel_rfl) ?_;simp only[azb,ayF,azI,List.drop_zero]
   repeat still_step
   still_call ((cA wr.drew).mono λe w' h=>(⟨h.1,h.2.symm⟩:e=.returned (.int .i64 ((x+z)%p))/\w'=wr.drew))
   repeat still_step
   refine wpStill_nil ?_;change wpList _ _ _ _ _ wr.drew;go_wp2_with fail
   go_roundw;case rel=>exact⟨k+1,by omega,by go_num,hset,he2.drew⟩
   case measure=>simp[intOf];omega
  .obtain rfl:k=L:=by omega
   have hr:AA p n at_ vs k=mK p n at_ vs:=HRF.out;rw[hr]at ho;clear hr;go_wp2_with fail
   go_ret;exact⟨_,rfl,axk _,ho,he⟩
theorem mQ(xs:List Int)(h:w.heap.size=m):dW (w.alloc (aN xs)) m xs:=by subst h;exact dW.new w xs
theorem Rd.c1(h:Rd w A [x]):∃g o,A=some ⟨g,o,none⟩/\w.cell? ⟨g,o,none⟩=some (.int .i64 x):=by obtain⟨g,o,y,e,hy,_,hc⟩:=h.at_ (show 0<[x].length by simp);injection hy with hy;subst hy;exact⟨g,o,e,hc⟩
theorem Rd.c2{y:Int}(h:Rd w A [x,y]):∃g o,A=some ⟨g,o,none⟩/\w.cell? ⟨g,o,none⟩=some (.int .i64 x)/\w.cell? ⟨g,o+1,none⟩=some (.int .i64 y):=by obtain⟨g,o,z,e,hz,_,hc⟩:=h.at_ (show 0<[x,y].length by simp);obtain⟨g',o',z',e',hz',_,hc'⟩:=h.at_ (show 1<[x,y].length by simp);injection hz with hz;injection hz' with hz';subst hz hz' e;injection e' with e';injection e' with e1 e2;subst e1 e2;exact⟨g,o,rfl,hc,hc'⟩
theorem Ef(w:World)(A:Option Addr):dU w A []:=⟨axq _,λj r hj=>by simp at hj⟩
theorem qp{r:List Int}(ho:Own w g r)(hr:r.length=n)(hc:n<=c)(hm:w.heap.size=m):dU (w.alloc (.cells #[.slice (some ⟨g,0,none⟩) n c] 55)) (some ⟨m,0,none⟩) [r]:=by
 subst hm hr;have hv:=VB.new w 55 #[.slice (some ⟨g,0,none⟩) r.length c];refine⟨by simp,λj s hj=>?_⟩;rcases j with _|j
 .injection hj with hj;subst hj;exact⟨_,g,c,rfl,hv.c0,hc,ho.ex ((aCQ w).alloc _)⟩
 .simp at hj
theorem MH{h d:Nat}{r s:List Int}(ho:Own w g r)(ho':Own w h s)(hr:r.length=n)(hs:s.length=n)(hc:n<=c)(hd:n<=d)(hm:w.heap.size=m):dU (w.alloc (.cells #[.slice (some ⟨g,0,none⟩) n c,.slice (some ⟨h,0,none⟩) n d] 55)) (some ⟨m,0,none⟩) [r,s]:=by
 subst hm hr;have hv:=VB.new w 55 #[.slice (some ⟨g,0,none⟩) r.length c,.slice (some ⟨h,0,none⟩) r.length d];refine⟨by simp,λj q hj=>?_⟩;rcases j with _|_|j
 .injection hj with hj;subst hj;exact⟨_,g,c,rfl,hv.c0,hc,ho.ex ((aCQ w).alloc _)⟩
 .injection hj with hj;subst hj;exact⟨_,h,d,rfl,by rw[hs];exact hv.c1,by rw[hs];exact hd,ho'.ex ((aCQ w).alloc _)⟩
 .simp at hj
theorem aaF(p vl:Int)(n a b c:Nat)(P:Option Addr)(pc:Nat)(Q:Option Addr)(qc:Nat)(w:World)(hF:av p=true)(hP:Rd w P ([a,b].map Int.ofNat))(hQ:Rd w Q ([c].map Int.ofNat))(hb:∀x∈[a,b]++[c],x<n)(hn:n<=1000):
 Calls prog 172 #[.int .i64 p,.int .i64 n,.agg #[.int .i64 5,.int .i64 vl,.slice P 2 pc,.slice Q 1 qc]] w λe' w'=>∃X cx,e'=.returned (.slice X 1 cx)/\dU w' X [mK p n [c,a,b] [1,p-1,p-1]]/\Ex w w':=by
 have h2:=ax hF;have h97:=aT hF;have hwp:IntKind.i64.wrap (p-1)=p-1:=axC _ (by omega);obtain⟨y0,d0,W0,hW0⟩:=VB.al w 156 #[.int .i64 5,.int .i64 vl,.slice P 2 pc,.slice Q 1 qc];rw[hW0]at y0 d0;have q0:=d0.c0;have q2:=d0.c2;have q3:=d0.c3;have TT:=hP.ex y0;have TS:=hQ.ex y0;clear hP hQ;obtain⟨gI,oI,rfl,i0,i1⟩:=TT.c2;obtain⟨gO,oO,rfl,c0⟩:=TS.c1;have Sr:=axj (show∀x∈[c,a,b],x<n from λx hx=>by
  have hm:=hb x;simp only[axZ,axI,axV,or_false]at hx hm;refine hm ?_;omega)
 have HV5:=axj (show∀x∈[1,p-1,p-1],0<=x/\x<=96 from λx hx=>by
  simp only[axI,axV,or_false]at hx;omega)
 have l5:=axj (jd p n [c,a,b] [1,p-1,p-1]);clear hb;go_enter Tryz.func172,Tryz.ntmps172
 go_wp2_with fail
 go_quiet (fail)
 generalize hW1:World.drewN W0 _=W1;have e1:Ex W0 W1:=by rw[<-hW1];exact(aCQ W0).drewN _
 have x1:=y0.trans e1;have i0:=af e1 i0;have i1:=af e1 i1;have c0:=af e1 c0;have q0:=af e1 q0;have q2:=af e1 q2;have q3:=af e1 q3;clear hW1 hW0 d0 y0;go_wp2_with fail
 have HS2:∀W,Ex W1 W->(Ex W1 W/\W.cell? ⟨gI,oI,none⟩=some (.int .i64 (Int.ofNat a))/\W.cell? ⟨gI,oI+1,none⟩=some (.int .i64 (Int.ofNat b))/\W.cell? ⟨gO,oO,none⟩=some (.int .i64 (Int.ofNat c))):=λW h=>⟨h,af h i0,af h i1,af h c0⟩
 go_region_held3 (λW=>Ex W1 W/\W.cell? ⟨gI,oI,none⟩=some (.int .i64 (Int.ofNat a))/\W.cell? ⟨gI,oI+1,none⟩=some (.int .i64 (Int.ofNat b))/\W.cell? ⟨gO,oO,none⟩=some (.int .i64 (Int.ofNat c))) (first
  |(exact HS2 _ (by repeat (first|exact aCQ _|exact x5|exact x4|refine Ex.drew ?_|refine Ex.alloc ?_ _|refine Ex.setCell ?_ (by simp) _)))) (first
  |(go_at_call 196
    have hb:=(‹Ex W1 _/\_›).1;refine(lY p n [c,a,b] [1,p-1,p-1] _ 3 _ 3 _ hF ?_ ?_ rfl ?_ ?_ hn).mono ?_
    .refine dW.rd ?_ (by simp)
     repeat (first|exact mQ [Int.ofNat c,Int.ofNat a,Int.ofNat b] (by simp)|refine dW.drew ?_|refine dW.ex ?_ ((aCQ _).alloc _))
    .refine dW.rd ?_ (by simp)
     repeat (first|exact mQ [1,p-1,p-1] (by simp)|refine dW.drew ?_|refine dW.ex ?_ ((aCQ _).alloc _))
    .exact Sr.out
    .exact HV5.out
    rintro e w5 ⟨g5,rfl,hg5,o5,KW⟩;have x5:=hb.trans KW;clear hb))
 all_goals
  go_wp2_with fail
  go_ret;exact⟨_,_,rfl,qp o5 l5.out (axk _) rfl,(x1.trans x5).alloc _⟩
theorem aaE(p vl:Int)(n a:Nat)(P:Option Addr)(pc:Nat)(Q:Option Addr)(qc:Nat)(w:World)(hF:av p=true)(hP:Rd w P ([].map Int.ofNat))(hQ:Rd w Q ([a].map Int.ofNat))(hb:∀x∈[]++[a],x<n)(hn:n<=1000):
 Calls prog 172 #[.int .i64 p,.int .i64 n,.agg #[.int .i64 6,.int .i64 vl,.slice P 0 pc,.slice Q 1 qc]] w λe' w'=>∃X cx,e'=.returned (.slice X 1 cx)/\dU w' X [mK p n [a] [(1:Int)]]/\Ex w w':=by
 have h2:=ax hF;have h97:=aT hF;have hwp:IntKind.i64.wrap (p-1)=p-1:=axC _ (by omega);obtain⟨y0,d0,W0,hW0⟩:=VB.al w 156 #[.int .i64 6,.int .i64 vl,.slice P 0 pc,.slice Q 1 qc];rw[hW0]at y0 d0;have q0:=d0.c0;have q2:=d0.c2;have q3:=d0.c3;have TT:=hP.ex y0;have TS:=hQ.ex y0;clear hP hQ;obtain⟨gO,oO,rfl,c0⟩:=TS.c1;have Sr:=axj (show∀x∈[a],x<n from λx hx=>by
  have hm:=hb x;simp only[axZ,axI,axV,or_false]at hx hm;refine hm ?_;omega)
 have HV5:=axj (show∀x∈[(1:Int)],0<=x/\x<=96 from λx hx=>by
  simp only[axI,axV,or_false]at hx;omega)
 have l5:=axj (jd p n [a] [(1:Int)]);clear hb;go_enter Tryz.func172,Tryz.ntmps172
 go_wp2_with fail
 go_quiet (fail)
 generalize hW1:World.drewN W0 _=W1;have e1:Ex W0 W1:=by rw[<-hW1];exact(aCQ W0).drewN _
 have x1:=y0.trans e1;have c0:=af e1 c0;have q0:=af e1 q0;have q2:=af e1 q2;have q3:=af e1 q3;clear hW1 hW0 d0 y0;go_wp2_with fail
 refine(lY p n [a] [1] _ 1 _ 1 _ hF ?_ ?_ rfl Sr.out HV5.out hn).mono ?_
 .refine dW.rd ?_ (by simp)
  repeat (first|exact mQ [Int.ofNat a] (by simp)|refine dW.drew ?_|refine dW.ex ?_ ((aCQ _).alloc _))
 .refine dW.rd ?_ (by simp)
  repeat (first|exact mQ [1] (by simp)|refine dW.drew ?_|refine dW.ex ?_ ((aCQ _).alloc _))
 rintro e w5 ⟨g5,rfl,hg5,o5,x5⟩;go_wp2_with fail
 go_ret;exact⟨_,_,rfl,qp o5 l5.out (axk _) rfl,(x1.trans ((((aCQ W1).alloc _).alloc _).trans x5)).alloc _⟩
theorem aaD(p vl:Int)(n a b:Nat)(P:Option Addr)(pc:Nat)(Q:Option Addr)(qc:Nat)(w:World)(hF:av p=true)(hP:Rd w P ([a].map Int.ofNat))(hQ:Rd w Q ([b].map Int.ofNat))(hb:∀x∈[a]++[b],x<n)(hel:iF p vl=true)(hn:n<=1000):
 Calls prog 172 #[.int .i64 p,.int .i64 n,.agg #[.int .i64 7,.int .i64 vl,.slice P 1 pc,.slice Q 1 qc]] w λe' w'=>∃X cx,e'=.returned (.slice X 1 cx)/\dU w' X [mK p n [b,a] [1,(ay p).neg vl]]/\Ex w w':=by
 have h2:=ax hF;have h97:=aT hF;have hwp:IntKind.i64.wrap (p-1)=p-1:=axC _ (by omega);obtain⟨y0,d0,W0,hW0⟩:=VB.al w 156 #[.int .i64 7,.int .i64 vl,.slice P 1 pc,.slice Q 1 qc];rw[hW0]at y0 d0;have q0:=d0.c0;have q2:=d0.c2;have q3:=d0.c3;have TT:=hP.ex y0;have TS:=hQ.ex y0;clear hP hQ;obtain⟨gI,oI,rfl,i0⟩:=TT.c1;obtain⟨gO,oO,rfl,c0⟩:=TS.c1;have agw:0<=vl/\vl<p:=by simpa[iF]using hel
 obtain⟨nv,JX⟩:=xq ((ay p).neg vl);have hne:=KD hF vl;rw[JX]at hne⊢;have hneb:0<=nv/\nv<p:=by simpa[iF]using hne
 have cN:=λW=>Kr p vl W h2 h97 agw
 rw[JX]at cN;have q1:=d0.c1;clear JX hel hne;have Sr:=axj (show∀x∈[b,a],x<n from λx hx=>by
  have hm:=hb x;simp only[axZ,axI,axV,or_false]at hx hm;refine hm ?_;omega)
 have HV5:=axj (show∀x∈[1,nv],0<=x/\x<=96 from λx hx=>by
  simp only[axI,axV,or_false]at hx;omega)
 have l5:=axj (jd p n [b,a] [1,nv]);clear hb;go_enter Tryz.func172,Tryz.ntmps172
 go_wp2_with fail
 go_quiet (fail)
 generalize hW1:World.drewN W0 _=W1;have e1:Ex W0 W1:=by rw[<-hW1];exact(aCQ W0).drewN _
 have x1:=y0.trans e1;have q1:=af e1 q1;have i0:=af e1 i0;have c0:=af e1 c0;have q0:=af e1 q0;have q2:=af e1 q2;have q3:=af e1 q3;clear hW1 hW0 d0 y0;go_wp2_with fail
 have HS2:∀W,Ex W1 W->(Ex W1 W/\W.cell? ⟨gI,oI,none⟩=some (.int .i64 (Int.ofNat a))/\W.cell? ⟨gO,oO,none⟩=some (.int .i64 (Int.ofNat b))/\W.cell? ⟨w.heap.size,1,none⟩=some (.int .i64 vl)):=λW h=>⟨h,af h i0,af h c0,af h q1⟩
 go_region_held3 (λW=>Ex W1 W/\W.cell? ⟨gI,oI,none⟩=some (.int .i64 (Int.ofNat a))/\W.cell? ⟨gO,oO,none⟩=some (.int .i64 (Int.ofNat b))/\W.cell? ⟨w.heap.size,1,none⟩=some (.int .i64 vl)) (first
  |(exact HS2 _ (by repeat (first|exact aCQ _|exact x5|exact x4|refine Ex.drew ?_|refine Ex.alloc ?_ _|refine Ex.setCell ?_ (by simp) _)))) (first
  |(go_at_call 197
    refine(cN _).mono ?_;rintro e _ ⟨rfl,rfl⟩)
  |(go_at_call 196
    have hb:=(‹Ex W1 _/\_›).1;refine(lY p n [b,a] [1,nv] _ 2 _ 2 _ hF ?_ ?_ rfl ?_ ?_ hn).mono ?_
    .refine dW.rd ?_ (by simp)
     repeat (first|exact mQ [Int.ofNat b,Int.ofNat a] (by simp)|refine dW.drew ?_|refine dW.ex ?_ ((aCQ _).alloc _))
    .refine dW.rd ?_ (by simp)
     repeat (first|exact mQ [1,nv] (by simp)|refine dW.drew ?_|refine dW.ex ?_ ((aCQ _).alloc _))
    .exact Sr.out
    .exact HV5.out
    rintro e w5 ⟨g5,rfl,hg5,o5,KW⟩;have x5:=hb.trans KW;clear hb))
 all_goals
  go_wp2_with fail
  go_ret;exact⟨_,_,rfl,qp o5 l5.out (axk _) rfl,(x1.trans x5).alloc _⟩
theorem WB(p vl:Int)(n a b c:Nat)(P:Option Addr)(pc:Nat)(Q:Option Addr)(qc:Nat)(w:World)(hF:av p=true)(hP:Rd w P ([c].map Int.ofNat))(hQ:Rd w Q ([a,b].map Int.ofNat))(hb:∀x∈[c]++[a,b],x<n)(hn:n<=1000):
 Calls prog 172 #[.int .i64 p,.int .i64 n,.agg #[.int .i64 11,.int .i64 vl,.slice P 1 pc,.slice Q 2 qc]] w λe' w'=>∃X cx,e'=.returned (.slice X 1 cx)/\dU w' X [mK p n [c,a,b] [1,p-1,p-1]]/\Ex w w':=by
 have h2:=ax hF;have h97:=aT hF;have hwp:IntKind.i64.wrap (p-1)=p-1:=axC _ (by omega);obtain⟨y0,d0,W0,hW0⟩:=VB.al w 156 #[.int .i64 11,.int .i64 vl,.slice P 1 pc,.slice Q 2 qc];rw[hW0]at y0 d0;have q0:=d0.c0;have q2:=d0.c2;have q3:=d0.c3;have TT:=hP.ex y0;have TS:=hQ.ex y0;clear hP hQ;obtain⟨gI,oI,rfl,i0,i1⟩:=TS.c2;obtain⟨gO,oO,rfl,c0⟩:=TT.c1;have Sr:=axj (show∀x∈[c,a,b],x<n from λx hx=>by
  have hm:=hb x;simp only[axZ,axI,axV,or_false]at hx hm;refine hm ?_;omega)
 have HV5:=axj (show∀x∈[1,p-1,p-1],0<=x/\x<=96 from λx hx=>by
  simp only[axI,axV,or_false]at hx;omega)
 have l5:=axj (jd p n [c,a,b] [1,p-1,p-1]);clear hb;go_enter Tryz.func172,Tryz.ntmps172
 go_wp2_with fail
 go_quiet (fail)
 go_wp2_with fail
 go_quiet (fail)
 generalize hW1:World.drewN (World.drewN W0 _) _=W1;have e1:Ex W0 W1:=by rw[<-hW1];exact((aCQ W0).drewN _).drewN _
 have x1:=y0.trans e1;have i0:=af e1 i0;have i1:=af e1 i1;have c0:=af e1 c0;have q0:=af e1 q0;clear hW1 hW0 d0 y0;go_wp2_with fail
 have HS2:∀W,Ex W1 W->(Ex W1 W/\W.cell? ⟨gI,oI,none⟩=some (.int .i64 (Int.ofNat a))/\W.cell? ⟨gI,oI+1,none⟩=some (.int .i64 (Int.ofNat b))/\W.cell? ⟨gO,oO,none⟩=some (.int .i64 (Int.ofNat c))):=λW h=>⟨h,af h i0,af h i1,af h c0⟩
 go_region_held3 (λW=>Ex W1 W/\W.cell? ⟨gI,oI,none⟩=some (.int .i64 (Int.ofNat a))/\W.cell? ⟨gI,oI+1,none⟩=some (.int .i64 (Int.ofNat b))/\W.cell? ⟨gO,oO,none⟩=some (.int .i64 (Int.ofNat c))) (first
  |(exact HS2 _ (by repeat (first|exact aCQ _|exact x5|exact x4|refine Ex.drew ?_|refine Ex.alloc ?_ _|refine Ex.setCell ?_ (by simp) _)))) (first
  |(go_at_call 196
    have hb:=(‹Ex W1 _/\_›).1;refine(lY p n [c,a,b] [1,p-1,p-1] _ 3 _ 3 _ hF ?_ ?_ rfl ?_ ?_ hn).mono ?_
    .refine dW.rd ?_ (by simp)
     repeat (first|exact mQ [Int.ofNat c,Int.ofNat a,Int.ofNat b] (by simp)|refine dW.drew ?_|refine dW.ex ?_ ((aCQ _).alloc _))
    .refine dW.rd ?_ (by simp)
     repeat (first|exact mQ [1,p-1,p-1] (by simp)|refine dW.drew ?_|refine dW.ex ?_ ((aCQ _).alloc _))
    .exact Sr.out
    .exact HV5.out
    rintro e w5 ⟨g5,rfl,hg5,o5,KW⟩;have x5:=hb.trans KW;clear hb))
 all_goals
  go_wp2_with fail
  go_ret;exact⟨_,_,rfl,qp o5 l5.out (axk _) rfl,(x1.trans x5).alloc _⟩
theorem WA(p vl:Int)(n a:Nat)(P:Option Addr)(pc:Nat)(Q:Option Addr)(qc:Nat)(w:World)(hF:av p=true)(hP:Rd w P ([a].map Int.ofNat))(hQ:Rd w Q ([].map Int.ofNat))(hb:∀x∈[a]++[],x<n)(hn:n<=1000):
 Calls prog 172 #[.int .i64 p,.int .i64 n,.agg #[.int .i64 12,.int .i64 vl,.slice P 1 pc,.slice Q 0 qc]] w λe' w'=>∃X cx,e'=.returned (.slice X 1 cx)/\dU w' X [mK p n [a] [(1:Int)]]/\Ex w w':=by
 have h2:=ax hF;have h97:=aT hF;have hwp:IntKind.i64.wrap (p-1)=p-1:=axC _ (by omega);obtain⟨y0,d0,W0,hW0⟩:=VB.al w 156 #[.int .i64 12,.int .i64 vl,.slice P 1 pc,.slice Q 0 qc];rw[hW0]at y0 d0;have q0:=d0.c0;have q2:=d0.c2;have q3:=d0.c3;have TT:=hP.ex y0;have TS:=hQ.ex y0;clear hP hQ;obtain⟨gO,oO,rfl,c0⟩:=TT.c1;have Sr:=axj (show∀x∈[a],x<n from λx hx=>by
  have hm:=hb x;simp only[axZ,axI,axV,or_false]at hx hm;refine hm ?_;omega)
 have HV5:=axj (show∀x∈[(1:Int)],0<=x/\x<=96 from λx hx=>by
  simp only[axI,axV,or_false]at hx;omega)
 have l5:=axj (jd p n [a] [(1:Int)]);clear hb;go_enter Tryz.func172,Tryz.ntmps172
 go_wp2_with fail
 go_quiet (fail)
 go_wp2_with fail
 go_quiet (fail)
 generalize hW1:World.drewN (World.drewN W0 _) _=W1;have e1:Ex W0 W1:=by rw[<-hW1];exact((aCQ W0).drewN _).drewN _
 have x1:=y0.trans e1;have c0:=af e1 c0;have q0:=af e1 q0;clear hW1 hW0 d0 y0;go_wp2_with fail
 refine(lY p n [a] [1] _ 1 _ 1 _ hF ?_ ?_ rfl Sr.out HV5.out hn).mono ?_
 .refine dW.rd ?_ (by simp)
  repeat (first|exact mQ [Int.ofNat a] (by simp)|refine dW.drew ?_|refine dW.ex ?_ ((aCQ _).alloc _))
 .refine dW.rd ?_ (by simp)
  repeat (first|exact mQ [1] (by simp)|refine dW.drew ?_|refine dW.ex ?_ ((aCQ _).alloc _))
 rintro e w5 ⟨g5,rfl,hg5,o5,x5⟩;go_wp2_with fail
 go_ret;exact⟨_,_,rfl,qp o5 l5.out (axk _) rfl,(x1.trans ((((aCQ W1).alloc _).alloc _).trans x5)).alloc _⟩
theorem Wz(p vl:Int)(n a b:Nat)(P:Option Addr)(pc:Nat)(Q:Option Addr)(qc:Nat)(w:World)(hF:av p=true)(hP:Rd w P ([b].map Int.ofNat))(hQ:Rd w Q ([a].map Int.ofNat))(hb:∀x∈[b]++[a],x<n)(hel:iF p vl=true)(hn:n<=1000):
 Calls prog 172 #[.int .i64 p,.int .i64 n,.agg #[.int .i64 13,.int .i64 vl,.slice P 1 pc,.slice Q 1 qc]] w λe' w'=>∃X cx,e'=.returned (.slice X 1 cx)/\dU w' X [mK p n [b,a] [1,(ay p).neg vl]]/\Ex w w':=by
 have h2:=ax hF;have h97:=aT hF;have hwp:IntKind.i64.wrap (p-1)=p-1:=axC _ (by omega);obtain⟨y0,d0,W0,hW0⟩:=VB.al w 156 #[.int .i64 13,.int .i64 vl,.slice P 1 pc,.slice Q 1 qc];rw[hW0]at y0 d0;have q0:=d0.c0;have q2:=d0.c2;have q3:=d0.c3;have TT:=hP.ex y0;have TS:=hQ.ex y0;clear hP hQ;obtain⟨gI,oI,rfl,i0⟩:=TS.c1;obtain⟨gO,oO,rfl,c0⟩:=TT.c1;have agw:0<=vl/\vl<p:=by simpa[iF]using hel
 obtain⟨nv,JX⟩:=xq ((ay p).neg vl);have hne:=KD hF vl;rw[JX]at hne⊢;have hneb:0<=nv/\nv<p:=by simpa[iF]using hne
 have cN:=λW=>Kr p vl W h2 h97 agw
 rw[JX]at cN;have q1:=d0.c1;clear JX hel hne;have Sr:=axj (show∀x∈[b,a],x<n from λx hx=>by
  have hm:=hb x;simp only[axZ,axI,axV,or_false]at hx hm;refine hm ?_;omega)
 have HV5:=axj (show∀x∈[1,nv],0<=x/\x<=96 from λx hx=>by
  simp only[axI,axV,or_false]at hx;omega)
 have l5:=axj (jd p n [b,a] [1,nv]);clear hb;go_enter Tryz.func172,Tryz.ntmps172
 go_wp2_with fail
 go_quiet (fail)
 go_wp2_with fail
 go_quiet (fail)
 generalize hW1:World.drewN (World.drewN W0 _) _=W1;have e1:Ex W0 W1:=by rw[<-hW1];exact((aCQ W0).drewN _).drewN _
 have x1:=y0.trans e1;have q1:=af e1 q1;have i0:=af e1 i0;have c0:=af e1 c0;have q0:=af e1 q0;clear hW1 hW0 d0 y0;go_wp2_with fail
 have HS2:∀W,Ex W1 W->(Ex W1 W/\W.cell? ⟨gI,oI,none⟩=some (.int .i64 (Int.ofNat a))/\W.cell? ⟨gO,oO,none⟩=some (.int .i64 (Int.ofNat b))/\W.cell? ⟨w.heap.size,1,none⟩=some (.int .i64 vl)):=λW h=>⟨h,af h i0,af h c0,af h q1⟩
 go_region_held3 (λW=>Ex W1 W/\W.cell? ⟨gI,oI,none⟩=some (.int .i64 (Int.ofNat a))/\W.cell? ⟨gO,oO,none⟩=some (.int .i64 (Int.ofNat b))/\W.cell? ⟨w.heap.size,1,none⟩=some (.int .i64 vl)) (first
  |(exact HS2 _ (by repeat (first|exact aCQ _|exact x5|exact x4|refine Ex.drew ?_|refine Ex.alloc ?_ _|refine Ex.setCell ?_ (by simp) _)))) (first
  |(go_at_call 197
    refine(cN _).mono ?_;rintro e _ ⟨rfl,rfl⟩)
  |(go_at_call 196
    have hb:=(‹Ex W1 _/\_›).1;refine(lY p n [b,a] [1,nv] _ 2 _ 2 _ hF ?_ ?_ rfl ?_ ?_ hn).mono ?_
    .refine dW.rd ?_ (by simp)
     repeat (first|exact mQ [Int.ofNat b,Int.ofNat a] (by simp)|refine dW.drew ?_|refine dW.ex ?_ ((aCQ _).alloc _))
    .refine dW.rd ?_ (by simp)
     repeat (first|exact mQ [1,nv] (by simp)|refine dW.drew ?_|refine dW.ex ?_ ((aCQ _).alloc _))
    .exact Sr.out
    .exact HV5.out
    rintro e w5 ⟨g5,rfl,hg5,o5,KW⟩;have x5:=hb.trans KW;clear hb))
 all_goals
  go_wp2_with fail
  go_ret;exact⟨_,_,rfl,qp o5 l5.out (axk _) rfl,(x1.trans x5).alloc _⟩
end Go.Proofs.YthgiffhlfcmgaaaGreatDoor
