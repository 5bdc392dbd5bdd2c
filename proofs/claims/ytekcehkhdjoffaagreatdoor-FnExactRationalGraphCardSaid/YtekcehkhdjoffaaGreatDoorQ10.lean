/- Lemmas and walks on terms over rational functions: slices.Grow of an empty list of fractions .. -/
import Derived.Test.YtekcehkhdjoffaaGreatDoorQ09
import Derived.Laws.Rows
import Derived.Laws.Tables
namespace Go.Proofs.YtekcehkhdjoffaaGreatDoor
open _root_.Go.Proofs.Tryz(prog)
set_option maxRecDepth 100000
set_option maxHeartbeats 8000000
set_option linter.all false
open Go Go.RowKit
variable{p:Int}{l:List (List aF)}{jB:List (Value×Value)}{r:List aF}{B H L a b d n:Nat}{P:Option Addr}{A K α:Type}{v:Value}{W0 w w':World}{Good:World->Prop}
def Ew:EL (Value×Value) where
 k:=2
 O:=λ_ _ _ vs x=>vs=[x.1,x.2]/\x.1.oneCell'=true/\x.2.oneCell'=true
 lN:=λh=>by rw[h.1];rfl
 keep:=λh _=>h
 one:=λh u hu=>by
  rw[h.1]at hu;simp at hu;rcases hu with rfl|rfl
  .exact h.2.1
  .exact h.2.2
theorem MO{t:TypeId}{xs:List aF}(h:GE Ew t w B H v jB)(hn:jB.length=xs.length)(hl:xs.length<=1099511627776)(hr:∀(j:Nat) (x:aF),xs[j]?=some x->∃a b,jB[j]?=some (a,b)/\oz w a b x):∃A c,v=.slice A xs.length c/\gm EF w A xs:=by
 by_cases hv:v=.slice none 0 0
 .subst hv;have:=h.Na;subst this;have:xs=[]:=aou hn.symm;subst this;exact⟨none,0,rfl,by simp,λj x hj=>by simp at hj⟩
 .obtain⟨g,c,rfl,hgc,_⟩:=h.form hv;obtain⟨cur,al,bl,_,hB,hH,hh,h1,h2⟩:=h.at_;refine⟨_,c,by rw[hn],hl,λj r hj=>?_⟩;obtain⟨a,b,q1,q2⟩:=hr j r hj;obtain⟨u,k1,⟨k2,_⟩,_⟩:=h1 j _ q1;refine⟨g,0,u,rfl,λi y hy=>?_,_,_,k2,q2⟩;rw[anE];exact dF hh (k1 i y hy)
theorem wW{α:Type}{Q:Nat->α->Prop}:∀(n:Nat),(∀j,j<n->∃a,Q j a)->∃l:List α,l.length=n/\∀(j:Nat) (a:α),l[j]?=some a->Q j a
 |0,_=>⟨[],rfl,λj a h=>by simp at h⟩
 |n+1,h=>by
  obtain⟨l,h1,h2⟩:=wW n (λj hj=>h j (by omega));obtain⟨a,ha⟩:=h n (by omega);refine⟨l++[a],by simp[h1],λj b hb=>?_⟩;by_cases e:j<l.length
  .rw[anN e]at hb;exact h2 j b hb
  .rw[anw (by omega)]at hb;have:j-l.length=0:=by
    rcases Nat.eq_zero_or_pos (j-l.length)with h0|h0
    .exact h0
    .rw[anz (by simp;omega)]at hb;cases hb
   rw[this]at hb;injection hb with hb;subst hb;rw[show j=n by omega];exact ha
def H9(p:Value×Value):List Value:=[p.1,p.2]
theorem J_(jB:List (Value×Value)):(jB.map H9).flatten.length=jB.length*2:=by
 induction jB with
 |nil=>rfl
 |cons p jB ih=>rw[List.map_cons,aoy,am9,ih,anJ];show 2+_=_;omega
theorem XP{q:Nat}(h:(jB.map H9).flatten[q]?=some v):∃(j i:Nat) (p:Value×Value),q=j*2+i/\jB[j]?=some p/\(H9 p)[i]?=some v:=by
 have hq:=(am2.1 h).1;rw[J_]at hq;have hj:q / 2<jB.length:=by omega
 have hus:(jB.map H9)[q / 2]?=some (H9 jB[q / 2]):=by rw[am7,am0 hj];rfl
 have hi:q%2<(H9 jB[q / 2]).length:=Nat.mod_lt _ (by omega);have:=kS (k:=2) (us:=jB.map H9) (λu hu=>by obtain⟨p,_,rfl⟩:=am3.1 hu;rfl) hus (am0 hi);rw[show q / 2*2+q%2=q by omega,h]at this;injection this with this;exact⟨q / 2,q%2,jB[q / 2],by omega,am0 hj,by rw[am0 hi,this]⟩
theorem Ew.row{t:TypeId}(h:GE Ew t w B H v jB):w.ownsRow B t 2 v jB.length (jB.map H9).flatten/\∀p∈jB,p.1.oneCell'=true/\p.2.oneCell'=true:=by
 obtain⟨_,us,al,bl,hl,ho,h1,_⟩:=h;have hus:us=jB.map H9:=by
  refine anG λj=>?_
  rw[am7];cases hj:jB[j]? with
  |none=>rw[anz (by have:=List.getElem?_eq_none_iff.1 hj;omega)];rfl
  |some p=>obtain⟨u,q1,⟨q2,_⟩,_⟩:=h1 j p hj;rw[q1,q2];rfl
 rw[<-hus];refine⟨ho,λp hp=>?_⟩;obtain⟨j,hj⟩:=anc hp;obtain⟨u,_,⟨_,q⟩,_⟩:=h1 j p hj;exact q
theorem Ew.mk{t:TypeId}(hB:B<=H)(ho:w.ownsRow B t 2 v jB.length (jB.map H9).flatten)(hown:∀k,v.ownBlock=some k->B<=k/\k<H)(h1:∀p∈jB,p.1.oneCell'=true/\p.2.oneCell'=true):GE Ew t w B H v jB:=
 ⟨hown,jB.map H9,λ_=>B,λ_=>B,by simp,ho,λj p hj=>⟨H9 p,by rw[am7,hj];rfl,⟨rfl,h1 p (am1 hj)⟩,amX _,hB,λk e=> .inr (hown k e).1⟩,λi j hi hj hne=> .inl (amX _)⟩
theorem NK(n:Nat)(hn:n<=1000000)(w:World):
 Calls prog 148 #[.slice none 0 0,.int .i64 n] w λe w'=>∃A c,e=.returned (.slice A 0 c)/\GE Ew 51 w' w.heap.size w'.heap.size (.slice A 0 c) []/\Ex w w':=by
 obtain⟨i,hi,hz,hs,hby⟩:=anA uz;have hw:IntKind.i64.wrap ((n:Int)-0)=(n:Int):=by rw[ant _ (by omega)];omega
 by_cases h0:n=0
 .subst h0;go_enter Tryz.func148,Tryz.ntmps148
  go_wp2_with fail
  go_ret;exact⟨none,0,rfl,GE.nil _ _ _ _ _,asF _⟩
 .have hnp:0<n:=by omega
  have hrun:=Lib.run_append_nil_zeros (P:=prog) w 48 3 48 51 i _ .i64 .i64 Tryz.underlying48 Tryz.underlying3 hi hz n hnp (by omega) (by omega) (by rw[hby];omega);have hge:=grownCap_ge w n 0 51;have hle:=grownCap_le_maxLen w n 0 51 (by unfold maxLen;omega);obtain⟨C,hC⟩:=xq (grownCap w n 0 51);rw[hC]at hrun hge hle;obtain⟨cur,hcur⟩:=xq (Builtin.zeroCells (Value.agg #[.slice none 0 0,.slice none 0 0]).cells n++Builtin.zeroCells (Value.agg #[.slice none 0 0,.slice none 0 0]).cells (C-n));have hsz:cur.size=C*2:=by rw[<-hcur,Array.size_append,size_zeroCells,size_zeroCells];have:(Value.agg #[.slice none 0 0,.slice none 0 0]).cells.size=2:=rfl;rw[this];omega
  rw[hcur]at hrun;have o:GE Ew 51 (w.drew.alloc (.cells cur 51)) w.heap.size (w.heap.size+1) (.slice (some ⟨w.heap.size,0,none⟩) 0 C) []:=by have ho:(w.drew.alloc (.cells cur 51)).ownsRow w.heap.size 51 Ew.k (.slice (some ⟨w.heap.size,0,none⟩) 0 C) 0 []:=⟨by simp,.inr ⟨w.heap.size,C,cur,rfl,amX _,heap_alloc_new w.drew _,am4 _,hle,hsz,by simp⟩⟩;exact⟨λk e=>by injection e with e;subst e;exact⟨amX _,aoF _⟩,[],λ_=>0,λ_=>0,rfl,ho,(λj r hj=>by simp at hj),(λi j hi=>by simp at hi)⟩
  have x1:=(asF w).drew.alloc (.cells cur 51);have s1:(w.drew.alloc (.cells cur 51)).heap.size=w.heap.size+1:=by simp
  clear hcur hsz hle hC hi hz hs hby;go_enter Tryz.func148,Tryz.ntmps148
  go_wp2_with (at_builtin;refine Lib.wpList_append_run _ rfl _ _ _ _ rfl _ _ rfl rfl _ _ hrun ?_)
  go_ret;refine⟨_,_,rfl,?_,x1⟩;show GE Ew 51 (w.drew.alloc (.cells cur 51)) w.heap.size (w.drew.alloc (.cells cur 51)).heap.size _ _;rw[s1];exact o
theorem C9{rows:List (List α)}{k:Nat}{r:List α}(h:rows[k]?=some r):(rows.take (k+1)).flatten=(rows.take k).flatten++r:=by rw[am_,h,aoE];simp
theorem Sd{rows:List (List α)}(h:∀r∈rows,r.length<=1000):∀k,((rows.take k).flatten).length<=1000*rows.length:=by
 intro k;have h2:∀r∈rows.take k,r.length<=1000:=λr hr=>h r (an5 hr)
 have h3:(rows.take k).length<=rows.length:=aoD _ _;have:∀(l:List (List α)),(∀r∈l,r.length<=1000)->l.flatten.length<=1000*l.length:=by
  intro l
  induction l with
  |nil=>intro _;simp
  |cons r l ih=>
   intro hl;have a:=ih λr hr=>hl r (apa _ hr)
   have b:=hl r apb;rw[aoy,am9,anJ];omega
 have:=this _ h2;omega
theorem JG{r s:Nat}(h:r<=s):bZ r L<=bZ s L:=by unfold bZ;have h1:(r+1)*L<=(s+1)*L:=an6 L (by omega);have h2:r*((r+1)*L+1)<=s*((s+1)*L+1):=Nat.mul_le_mul h (by omega);omega
theorem Dm{K:Type}(O:Ops K)(Z:List (List K)):∀c,(gJ O Z c).1.length=Z.length
 |0=>rfl
 |c+1=>by
  rw[gJ];split
  .rw[dU];exact Dm O Z c
  .exact Dm O Z c
theorem iR{N R:Nat}{Z0:List (List aF)}(hF:aj p=true)(hL:1<=L)(hG:iK p L Z0)(hW:aZ N Z0)(hn:n<=R∨Z0.length<=R)(hnN:n<=N):∀c,c<=n->iK p (bZ R L) (gJ (ah p) Z0 c).1:=λc hc=>by
 obtain⟨u,rfl⟩:=CK (P:=FV p) Z0 λv hv x hx=>(hG v hv x hx).1
 have hWu:aZ N u:=aZ.dh.1 hW;obtain⟨O,P,h1,h2,h3,h4⟩:=EJ (F:=ay p hF) hWu c (by omega);rw[(jl p hF).gJ u c];intro z hz x hx;obtain⟨v,hv,rfl⟩:=am3.1 hz;obtain⟨y,hy,rfl⟩:=am3.1 hx;obtain⟨i,hi⟩:=anc hv;obtain⟨j,hj⟩:=anc hy;have hb:=XK hF h1 h2 hL (λw hw x hx=>(hG (w.map Subtype.val) (am3.2 ⟨w,hw,rfl⟩) x.1 (am3.2 ⟨x,hx,rfl⟩)).2) hi j;rw[Ops.bT _ hj]at hb;refine⟨y.2,hb.mono (JG ?_)⟩;rcases hn with hn|hn
 .omega
 .have:=h2.hr;have e:(gJ (ay p hF).toOps u c).1.length=u.length:=Dm _ u c;rw[am5]at hn;omega
theorem Dl{K:Type}(O:Ops K)(Z:List (List K)):∀(m c:Nat),O.red m c (gJ O Z c).2 (gJ O Z c).1=gJ O Z (c+m)
 |0,c=>rfl
 |m+1,c=>by rw[Ops.red,show c+(m+1)=c+1+m by omega,<-Dl O Z m (c+1),gJ];split<;>rfl
theorem O6(O:Ops K)(n:Nat)(Z:List (List K)):O.aB n Z=(gJ O Z n).1.take (gJ O Z n).2:=by unfold Ops.aB;have:=Dl O Z n 0;rw[anE]at this;rw[<-this];rfl
theorem V9(hF:aj p=true)(hL:1<=L):FV p zF/\FL L zF:=⟨FV.zero hF,am4 _,hL⟩
theorem Wp(hF:aj p=true)(hL:1<=L):FV p oF/\FL L oF:=⟨FV.one hF,hL,hL⟩
theorem jH.set{v:List aF}(h:jH p L v){x:aF}(hx:FV p x/\FL L x)(i:Nat):jH p L (v.set i x):=λy hy=>by
 rcases aoz hy with q|q
 .exact h y q
 .rw[q];exact hx
theorem jH.OL(hF:aj p=true)(hL:1<=L)(n:Nat):jH p L (List.replicate n zF):=λy hy=>by rw[(List.mem_replicate.1 hy).2];exact V9 hF hL
theorem acj(hF:aj p=true)(hL:1<=L){v:List aF}(h:jH p L v)(j:Nat):FV p ((ah p).el v j)/\FL L ((ah p).el v j):=by
 by_cases hj:j<v.length
 .exact La h hj
 .rw[Ops.eH _ (by omega)];exact V9 hF hL
theorem X7{x:aF}(h:FV p x/\FL L x):FV p (aV p x)/\FL L (aV p x):=⟨h.1.neg,h.2.neg⟩
theorem Kw{p:Int}(hF:aj p=true){L:Nat}(hL:1<=L)(j:Nat):∀(R:List (List aF)) (v:List aF),iK p L R->jH p L v->jH p L ((ah p).h_ R j v)
 |[],_,_,h=>h
 |r::R,v,hR,h=>Kw hF hL j R _ (λz hz=>hR z (by simp[hz])) (h.set (X7 (acj hF hL (hR r (by simp)) j)) _)
theorem zD(hF:aj p=true)(hL:1<=L){s:Nat}{R:List (List aF)}(hR:iK p L R):iK p L ((ah p).j4 s R):=by
 have:∀(m j t:Nat),iK p L ((ah p).bR s R m j t):=by
  intro m
  induction m with
  |zero=>intro j t v hv;cases hv
  |succ m ih=>
   intro j t v hv;rw[Ops.bR]at hv;split at hv
   .exact ih _ _ v hv
   .rcases ani.1 hv with e|hv
    .rw[e];exact Kw hF hL j R _ hR ((jH.OL hF hL s).set (Wp hF hL) j)
    .exact ih _ _ v hv
 exact this s 0 0
theorem MW(O:Ops K)(s:Nat)(R:List (List K)):(O.j4 s R).length<=s:=by
 have:∀(m j t:Nat),(O.bR s R m j t).length<=m:=by
  intro m
  induction m with
  |zero=>intro j t;exact amX _
  |succ m ih=>
   intro j t;rw[Ops.bR];split
   .have:=ih (j+1) (t+1);omega
   .have:=ih (j+1) t;rw[anJ];omega
 exact this s 0 0
theorem v_(hF:aj p=true)(hL:1<=L){R:List (List aF)}(hR:iK p L R):iK p L ((ah p).beside R):=λv hv=>by
 obtain⟨i,hi⟩:=anc hv;rw[kJ]at hi;cases hr:R[i]? with
 |none=>rw[hr]at hi;cases hi
 |some r=>rw[hr]at hi;injection hi with hi;rw[<-hi];exact(hR r (am1 hr)).app ((jH.OL hF hL _).set (Wp hF hL) i)
def jr(Good:World->Prop)(w:World)(P:Option Addr)(r:List aF):Prop:=
 r.length<=1099511627776/\∀(j:Nat) (x:aF),r[j]?=some x->∃g off u v,P=some ⟨g,off,none⟩/\w.cell? ⟨g,off+j*2,none⟩=some u/\w.cell? ⟨g,off+j*2+1,none⟩=some v/\u.oneCell'=true/\v.oneCell'=true/\∀w2,Good w2->oz w2 u v x
theorem jr.ex(h:jr Good w P r)(he:Ex w w'):jr Good w' P r:=⟨h.1,λj x hj=>by
 obtain⟨g,off,u,v,e,q0,q1,o⟩:=h.2 j x hj;exact⟨g,off,u,v,e,af he q0,af he q1,o⟩⟩
theorem jr.vK{w0:World}(h:gm EF w0 P r)(he:Ex w0 w)(hg:∀w2,Good w2->Ex w0 w2):jr Good w P r:=⟨h.1,λj x hj=>by
 obtain⟨g,off,vs,hA,hc,v0,v1,e,hR⟩:=h.2 j x hj;subst e;obtain⟨A0,n0,c0,A1,n1,c1,e0,e1⟩:=hR.form;exact⟨g,off,v0,v1,hA,af he (hc 0 v0 rfl),af he (hc 1 v1 rfl),by rw[e0];rfl,by rw[e1];rfl,λw2 hw=>hR.ex (hg w2 hw)⟩⟩
theorem jr.tk(h:jr Good w P r)(k:Nat):jr Good w P (r.take k):=⟨anb (aoD _ _) h.1,λj x hj=>h.2 j x (by rw[anh]at hj;split at hj;exact hj;cases hj)⟩
theorem jr.dp{g off:Nat}(h:jr Good w (some ⟨g,off,none⟩) r)(k:Nat):jr Good w (some ⟨g,off+k*2,none⟩) (r.drop k):=⟨by rw[anp];have:=h.1;omega,λj x hj=>by
 rw[anB]at hj;obtain⟨g',off',u,v,e,q0,q1,o⟩:=h.2 (k+j) x hj;injection e with e;injection e with e1 e2;subst e1 e2;refine⟨g,_,u,v,rfl,?_,?_,o⟩
 .rwa[aow,<-Nat.add_assoc]at q0
 .rwa[aow,<-Nat.add_assoc]at q1⟩
theorem jr.nil(Good:World->Prop)(w:World)(P:Option Addr):jr Good w P []:=⟨by simp,λj x hj=>by simp at hj⟩
def AO(Good:World->Prop)(w:World)(A:Option Addr)(rows:List (List aF)):Prop:=
 ∀(j:Nat) (r:List aF),rows[j]?=some r->∃g off P pc,A=some ⟨g,off,none⟩/\w.cell? ⟨g,off+j,none⟩=some (.slice P r.length pc)/\jr Good w P r
theorem AO.ex{A:Option Addr}{rows:List (List aF)}(h:AO Good w A rows)(he:Ex w w'):AO Good w' A rows:=λj r hj=>by obtain⟨g,off,P,pc,e,q,k⟩:=h j r hj;exact⟨g,off,P,pc,e,af he q,k.ex he⟩
theorem AO.at_{A:Option Addr}{rows:List (List aF)}(h:AO Good w A rows){j:Nat}(hj:j<rows.length):∃g off r P pc,A=some ⟨g,off,none⟩/\rows[j]?=some r/\w.cell? ⟨g,off+j,none⟩=some (.slice P r.length pc)/\jr Good w P r:=by obtain⟨g,off,P,pc,e,q,k⟩:=h j _ (am0 hj);exact⟨g,off,_,P,pc,e,am0 hj,q,k⟩
def kD(Good:World->Prop)(w:World)(a b:Nat)(v:Value)(r:List aF):Prop:=
 ∃jB:List (Value×Value),GE Ew 51 w a b v jB/\jB.length=r.length/\∀(j:Nat) (x:aF),r[j]?=some x->∃u z,jB[j]?=some (u,z)/\∀w2,Good w2->oz w2 u z x
theorem kD.keep(h:kD Good w a b v r)(hk:∀k,a<=k->k<b->k<w.heap.size->w'.heap[k]?=w.heap[k]?):kD Good w' a b v r:=by obtain⟨jB,h1,h2⟩:=h;exact⟨jB,h1.keep hk,h2⟩
theorem kD.II(h:kD Good w a b v r)(hl:r.length<=1099511627776)(hg:Good w):∃A c,v=.slice A r.length c/\gm EF w A r:=by obtain⟨jB,h1,h2,h3⟩:=h;exact MO h1 h2 hl λj x hj=>by obtain⟨u,z,q1,q2⟩:=h3 j x hj;exact⟨u,z,q1,q2 w hg⟩
theorem kD.form(h:kD Good w a b v r):∃A c,v=.slice A r.length c:=by obtain⟨jB,h1,h2,_⟩:=h;obtain⟨A,c,e⟩:=h1.lu;exact⟨A,c,by rw[e,h2]⟩
def wC(W0:World):EL (List aF) where
 k:=1
 O:=λw a b vs x=>∃A c,vs=[.slice A x.length c]/\∀w2,Ex W0 w2->(∀k,a<=k->k<b->k<w.heap.size->w2.heap[k]?=w.heap[k]?)->gm EF w2 A x
 lN:=λh=>by obtain⟨_,_,rfl,_⟩:=h;rfl
 keep:=λ{w w' a b vs x} h hk=>by
  obtain⟨A,c,e,h⟩:=h;refine⟨A,c,e,λw2 h0 h2=>h w2 h0 λk h3 h4 h5=>?_⟩;have h6:=hk k h3 h4 h5;refine(h2 k h3 h4 ?_).trans h6;rcases anM k w'.heap.size with q|q
  .exact q
  .rw[ao1 q,Array.getElem?_eq_getElem h5]at h6;cases h6
 one:=λh u hu=>by obtain⟨A,c,e,_⟩:=h;subst e;simp at hu;subst hu;rfl
theorem kD.WV(h:kD Good w a b v r)(hl:r.length<=1099511627776)(hg:∀w2,Ex W0 w2->(∀k,a<=k->k<b->k<w.heap.size->w2.heap[k]?=w.heap[k]?)->Good w2):(wC W0).O w a b [v] r:=by obtain⟨A,c,e⟩:=h.form;refine⟨A,c,by rw[e],λw2 h0 hk=>?_⟩;obtain⟨A',c',e',hr⟩:=(h.keep hk).II hl (hg w2 h0 hk);rw[e]at e';injection e' with e1;rw[e1];exact hr
theorem iO{xs:List (List aF)}(h:GE (wC W0) 48 w B H v xs)(hH:H<=w.heap.size){v0:Value}{x:List aF}(hu:(wC W0).O w a b [v0] x)(ha:H<=a)(hab:a<=b)(hb:b<=w.heap.size)(hB:B<=H)(hl:xs.length+1<=1099511627776):
 ∃v' w',(Builtin.append_ #[27,27] 27 #[v,.slice (some ⟨w.heap.size,0,none⟩) 1 1]).run prog (w.alloc (.cells #[v0] 48))=.ok v' w'/\
  GE (wC W0) 48 w' B w'.heap.size v' (xs++[x])/\wB v.ownBlock w w'/\v'≠.slice none 0 0/\∀b',Ex b' w->b'.heap.size<=B->Ex b' w':=by
 obtain⟨i,hi,hz,hs,hby⟩:=anA fZ;obtain⟨v',w',h1,h2,h3,_,h5,h6⟩:=GE.push (wC W0) Tryz.underlying27 hi hz hs hby rfl (by show 0<1;omega) (by omega) h hH hu ha hab hb hB hl;exact⟨v',w',h1,h2,h3,h5,h6⟩
theorem GE.J7{xs:List (List aF)}(h:GE (wC W0) 48 w B H v xs)(hl:xs.length<=1099511627776)(he:Ex W0 w):∃A c,v=.slice A xs.length c/\gm iE w A xs:=by
 by_cases hv:v=.slice none 0 0
 .subst hv;have:=h.Na;subst this;exact⟨none,0,rfl,by simp,λj x hj=>by simp at hj⟩
 .obtain⟨g,c,rfl,hgc,_⟩:=h.form hv;obtain⟨cur,al,bl,_,hB,hH,hh,h1,h2⟩:=h.at_;refine⟨_,c,rfl,hl,λj r hj=>?_⟩;obtain⟨u,k1,⟨A,c2,k2,k3⟩,_⟩:=h1 j r hj;subst k2;refine⟨g,0,[.slice A r.length c2],rfl,λi y hy=>?_,_,rfl,A,c2,rfl,k3 w he λ_ _ _ _=>rfl⟩;rw[anE];exact dF hh (k1 i y hy)
theorem wI(h:GE Ew 51 w B H v jB)(hH:H<=w.heap.size)(hB:B<=H)(P:Option Addr)(c:Nat)(r:List aF)(hr:jr Good w P r)(hl:jB.length+r.length<=1099511627776):
 ∃v' w' tJ,(Builtin.append_ #[48,48] 48 #[v,.slice P r.length c]).run prog w=.ok v' w'/\GE Ew 51 w' B w'.heap.size v' (jB++tJ)/\tJ.length=r.length/\
  (∀(j:Nat) (x:aF),r[j]?=some x->∃a b,tJ[j]?=some (a,b)/\∀w2,Good w2->oz w2 a b x)/\∀b',Ex b' w->b'.heap.size<=B->Ex b' w':=by
 obtain⟨i,hi,hz,hs,hby⟩:=anA uz;obtain⟨ho,h1⟩:=Ew.row h;have hown:=h.own;rcases P with _|ad
 .have hx:r=[]:=by
   cases r with
   |nil=>rfl
   |cons x xs=>obtain⟨g,off,_,_,hA,_⟩:=hr.2 0 x rfl;cases hA
  subst hx;refine⟨v,w,[],?_,by simpa using h.more (amX _) hH,rfl,λj x hj=>by simp at hj,λb' hb _=>hb⟩;rcases ho.2 with⟨rfl,_⟩|⟨g,cap,cur,rfl,_,_,hnc,_⟩
  .simp[Builtin.append_,aob Tryz.underlying48,sizeOf,typeInfo,hi,Builtin.lenOf,Builtin.firstCells]
  .simp[Builtin.append_,aob Tryz.underlying48,sizeOf,typeInfo,hi,Builtin.lenOf,Builtin.firstCells,hnc,storeCells]
 .obtain⟨tJ,k1,k2⟩:=wW (Q:=λj (p:Value×Value)=>∃x g off,ad=⟨g,off,none⟩/\r[j]?=some x/\w.cell? ⟨g,off+j*2,none⟩=some p.1/\w.cell? ⟨g,off+j*2+1,none⟩=some p.2/\(∀w2,Good w2->oz w2 p.1 p.2 x)/\p.1.oneCell'=true/\p.2.oneCell'=true) r.length (λj hj=>by
   obtain⟨g,off,u,v,hA,q0,q1,o0,o1,hR⟩:=hr.2 j _ (am0 hj);injection hA with hA;subst hA;exact⟨(u,v),r[j],g,off,rfl,am0 hj,q0,q1,hR,o0,o1⟩)
  have hnews:∀(q:Nat) (u:Value),(tJ.map H9).flatten[q]?=some u->w.cell? (ad.add q)=some u:=λq u hu=>by
   obtain⟨j,i,p,rfl,hp,hi2⟩:=XP hu;obtain⟨x,g,off,rfl,_,q0,q1,_⟩:=k2 j p hp;have e:(⟨g,off,none⟩:Addr).add (j*2+i)=⟨g,off+(j*2+i),none⟩:=by unfold Addr.add;split<;>simp_all
   rw[e];rcases i with _|_|i
   .injection hi2 with hi2;subst hi2;exact q0
   .injection hi2 with hi2;subst hi2;exact q1
   .simp[H9]at hi2
  have hone:∀p∈tJ,p.1.oneCell'=true/\p.2.oneCell'=true:=λp hp=>by obtain⟨j,hj⟩:=anc hp;obtain⟨_,_,_,_,_,_,_,_,q⟩:=k2 j p hj;exact q
  obtain⟨v',w',hrun,h2,h3,_,h5⟩:=run_append_own_at (P:=prog) w B 48 48 51 i (.agg #[.slice none 0 0,.slice none 0 0]) 2 48 Tryz.underlying48 hi hz hs hby rfl (by omega) v jB.length _ ho ad r.length c (tJ.map H9).flatten (by rw[J_,k1]) hnews (by
   intro u hu;obtain⟨l,hl2,hu2⟩:=List.mem_flatten.1 hu;obtain⟨p,hp,rfl⟩:=am3.1 hl2;simp[H9]at hu2;rcases hu2 with rfl|rfl
   .exact(hone p hp).1
   .exact(hone p hp).2) (by unfold maxLen;omega) (by omega) (by omega)
  have hsz:=h3.size;refine⟨v',w',tJ,hrun,Ew.mk (by omega) (by rw[am9,anQ,aoE,k1];exact h2) (λk e=>World.ownsRow.lt h2 k e) (λp hp=>by
   rcases anu.1 hp with h4|h4
   .exact h1 p h4
   .exact hone p h4),k1,λj x hj=>?_,λb' hb hbB=>hb.Sj h3 (λg e=>by have:=(hown g e).1;omega)⟩
  have hjl:=(am2.1 hj).1;have hp:=am0 (show j<tJ.length by omega);obtain⟨x',g,off,_,hx',_,_,hR,_⟩:=k2 j _ hp;rw[hj]at hx';injection hx' with hx';subst hx';exact⟨_,_,hp,hR⟩
theorem GL(A:Option Addr)(c:Nat)(rows:List (List aF))(w:World)(h:AO Good w A rows)(hr8:rows.length<=8)(U8:∀r∈rows,r.length<=1000):
 Calls prog 126 #[.slice A rows.length c] w λe w'=>∃v,e=.returned v/\kD Good w' w.heap.size w'.heap.size v rows.flatten/\Ex w w':=by
 have hl:rows.length<=1099511627776:=by omega
 have HF:=amW (Sd U8);have H12:=amW U8;clear U8;go_enter Tryz.func126,Tryz.ntmps126
 go_wp2_with fail
 go_loopw [3,11] (λs i wr=>∃k n:Nat,k<=rows.length/\i=.int .i64 k/\s=.int .i64 n/\Hid (n=((rows.take k).flatten).length)/\Ex w wr) (λ_ i _=>rows.length-(intOf i).toNat)
 case atStart=>exact⟨0,0,am4 _,rfl,rfl,amW (by simp),asF _⟩
 case round=>
  rename World=>wi;obtain⟨k,n,hk,rfl,rfl,Hn,he⟩:=hrel;have hn8:n<=8000:=by have:=HF.out k;have:=Hn.out;omega
  by_cases hlt:k<rows.length
  .obtain⟨g,off,r,P,pc,rfl,hr,b0,hP⟩:=(h.ex he).at_ hlt;have hrl:=H12.out r (am1 hr);have hw:IntKind.i64.wrap ((n:Int)+(r.length:Int))=((n+r.length:Nat):Int):=by rw[ant _ (by omega)];omega
   have HN:=amW (show n+r.length=((rows.take (k+1)).flatten).length by rw[C9 hr,am9,Hn.out]);have hneg:¬((n+r.length:Nat):Int)<0:=by omega
   clear hr;obtain⟨m,hm⟩:=xq (n+r.length);rw[hm]at hw HN hneg;clear hm;go_wp2_with fail
   clear hw;go_roundw;case rel=>exact⟨k+1,m,by omega,by go_num,rfl,HN,he⟩
   case measure=>simp[intOf];omega
  .obtain rfl:k=rows.length:=by omega
   have HT:=amW (show n=rows.flatten.length by have:=Hn.out;rwa[anf]at this);go_wp2_with fail
   refine(NK n (by omega) wi).mono ?_;rintro e w1 ⟨A1,c1,rfl,Bc,x1⟩;go_wp2_with fail
   go_loopw [6,27] (λo i wr=>∃(k:Nat) (jB:List (Value×Value)),k<=rows.length/\i=.int .i64 k/\GE Ew 51 wr wi.heap.size wr.heap.size o jB/\Hid (jB.length=((rows.take k).flatten).length/\∀(j:Nat) (x:aF),((rows.take k).flatten)[j]?=some x->∃a b,jB[j]?=some (a,b)/\∀w2,Good w2->oz w2 a b x)/\Ex wi wr) (λ_ i _=>rows.length-(intOf i).toNat)
   case atStart=>exact⟨0,[],am4 _,rfl,Bc,amW ⟨by simp,λj x hj=>by simp at hj⟩,x1⟩
   case round=>
    rename World=>wj;obtain⟨k,jB,hk2,rfl,hge,HP,p_⟩:=hrel;by_cases hlt2:k<rows.length
    .obtain⟨g,off,r,P,pc,rfl,hr,b0W,hP⟩:=(h.ex he).at_ hlt2;have b0:=af p_ b0W;have hrl:=H12.out r (am1 hr);have hpl:jB.length<=8000:=by have:=HF.out k;have:=HP.out.1;omega
     have HS:=amW (C9 hr);clear hr b0W;obtain⟨v',w',tJ,hrun,hge',hl2,hrd,hE⟩:=wI hge (amX _) p_.size P pc r (hP.ex p_) (by omega);have xw:=hE wi p_ (amX _);have HQ:=amW (show(jB++tJ).length=((rows.take (k+1)).flatten).length/\∀(j:Nat) (x:aF),((rows.take (k+1)).flatten)[j]?=some x->∃a b,(jB++tJ)[j]?=some (a,b)/\∀w2,Good w2->oz w2 a b x by
      rw[HS.out];refine⟨by rw[am9,am9,HP.out.1,hl2],λj x hj=>?_⟩;by_cases e:j<jB.length
      .rw[anN (by rw[<-HP.out.1];exact e)]at hj;rw[anN e];exact HP.out.2 j x hj
      .rw[anw (by rw[<-HP.out.1];omega),<-HP.out.1]at hj;rw[anw (by omega)];exact hrd _ x hj)
     clear hge hE hrd HP;go_wp2_with (at_builtin;refine wpList_append_run rfl _ _ _ rfl rfl rfl hrun ?_)
     go_roundw;case rel=>exact⟨k+1,_,by omega,by go_num,hge',HQ,xw⟩
     case measure=>simp[intOf];omega
    .obtain rfl:k=rows.length:=by omega
     obtain⟨q1,q2⟩:=HP.out;rw[anf]at q1 q2;obtain⟨A5,c5,ev⟩:=hge.lu;subst ev;have hwz:=he.size;go_wp2_with fail
     go_ret;exact⟨_,rfl,⟨jB,hge.more hwz (amX _),q1,q2⟩,he.trans p_⟩
noncomputable def Yc (p:Int) (x:iJ):iJ×Bool:=if PO p x=true then(x,true)else(⟨0,0,[]⟩,false)
theorem Rh{x:iJ}(h:PO p x=false):Yc p x=(⟨0,0,[]⟩,false):=amZ (by rw[h];simp)
theorem KF{x:iJ}(h:PO p x=true):Yc p x=(x,true):=amY h
theorem L_{x:iJ}(h:PO p x=true):x.b.length<=12/\∀r∈x.b,r.length<=12:=by obtain⟨h1,h2,h3,h4⟩:=xU.1 h;have h5:=DZ h2;have h6:=J4 h1 (CY (vJ h3)) h4;exact⟨by omega,λr hr=>by have:=nS h3 r hr;omega⟩
def RdB(w:World)(r:iJ×Bool)(e:Ending)(w':World):Prop:=∃A c,e=.returned (.tuple #[.agg #[.int .i64 r.1.l,.int .i64 r.1.r,.slice A r.1.b.length c],.bool r.2])/\(∀w2,fD 0 w.heap.size w' w2->wo w2 A r.1.b/\rV w2 w.heap.size w'.heap.size (.slice A r.1.b.length c) r.1.b)/\Ex w w'
theorem XG(p:Int)(x:iJ)(A:Option Addr)(c:Nat)(w:World)(h:gm iE w A x.b):
 Calls prog 19 #[.int .i64 p,.agg #[.int .i64 x.l,.int .i64 x.r,.slice A x.b.length c]] w λe w'=>RdB w (Yc p x) e w':=by
 have hl:=h.1;obtain⟨y0,d0⟩:=VB.xn w 29 #[.int .i64 x.l,.int .i64 x.r,.slice A x.b.length c];have S0:=amW (show(w.alloc (.cells #[.int .i64 x.l,.int .i64 x.r,.slice A x.b.length c] 29)).heap.size=w.heap.size+1 by simp);go_enter Tryz.func19,Tryz.ntmps19
 go_wp2_with fail
 generalize w.alloc (.cells #[.int .i64 x.l,.int .i64 x.r,.slice A x.b.length c] 29)=W0 at*;obtain⟨y2,d2⟩:=VB.xn W0 29 #[.int .i64 0,.int .i64 0,.slice none 0 0];rw[S0.out]at d2;generalize W0.alloc (.cells #[.int .i64 0,.int .i64 0,.slice none 0 0] 29)=W2 at*;have xx:=y0.trans y2;have d0:=d0.ex y2;clear y0 y2 S0;refine(PE p x A c W2 (h.ex xx)).mono ?_;rintro e w3 ⟨b0,rfl,hb0,x3⟩;obtain rfl:=XH hb0;clear hb0;have d0:=d0.ex x3;have d2:=d2.ex x3;have xx:=xx.trans x3;clear x3;obtain⟨p0,p1,p2⟩:=d0.d3;obtain⟨z0,z1,z2⟩:=d2.d3;have hlt2:=d2.lt;obtain⟨fz0,fz1,fz2⟩:=d2.z3;cases hb:PO p x with
 |false=>
  have HN:=amW (Rh hb);clear hb;obtain⟨dd,zz⟩:=d2.ru (.int .i64 0) (.int .i64 0) (.slice none 0 0);obtain⟨C0,C1,C2⟩:=dd.d3;have eF:=xx.aM zz (by omega);go_wp2_with fail
  refine ane (v:=.tuple #[.agg #[.int .i64 0,.int .i64 0,.slice none 0 0],.bool false]) (by simp[results,Tryz.results19,go_sem,C0,C1,C2]) rfl ?_;rw[RdB,HN.out];exact⟨none,0,rfl,λ_ _=>⟨⟨⟨by simp,λj x hj=>by simp at hj⟩,λj x hj=>by simp at hj⟩,rV.nil _ _ _ _ _⟩,eF⟩
 |true=>
  have Hb:=amW hb;have HP:=amW (L_ hb);clear hb;have ajO:=HP.out.1;obtain⟨y6,d6⟩:=VB.xn w3 29 #[.int .i64 x.l,.int .i64 x.r,.slice none 0 0];have s6:(w3.alloc (.cells #[.int .i64 x.l,.int .i64 x.r,.slice none 0 0] 29)).heap.size=w3.heap.size+1:=by simp
  have p2a:=(d0.ex y6).c2;go_wp2_with fail
  generalize w3.alloc (.cells #[.int .i64 x.l,.int .i64 x.r,.slice none 0 0] 29)=W6 at*;clear p0 p1 p2 p2a z0 z1 z2 fz0 fz1 fz2;go_loopw [25] (λi wr=>∃(k:Nat) (v:Value),k<=x.b.length/\i=.int .i64 k/\VB wr w3.heap.size 29 #[.int .i64 x.l,.int .i64 x.r,v]/\GE AY 48 wr (w3.heap.size+1) wr.heap.size v (x.b.take k)/\Ex w3 wr) (λi _=>x.b.length-(intOf i).toNat)
  case atStart=>exact⟨0,_,am4 _,rfl,d6,GE.nil _ _ _ _ _,y6⟩
  case round=>
   clear d6 s6 y6;rename World=>w7;obtain⟨k,v,hk,rfl,d6,hgm,he⟩:=hrel;by_cases hlt:k<x.b.length
   .obtain⟨g,off,r,u,eA,hr,b0,hu⟩:=(h.ex (xx.trans he)).j5 hlt;obtain⟨P,pc,rfl,hP⟩:=hu.form;subst eA;have U8:=HP.out.2 r (am1 hr);have Hr:=amW hr;clear hr hu;go_wp2_with fail
    go_loopw [9,31] (λo i wi=>∃j:Nat,j<=r.length/\i=.int .i64 j/\GE pq 51 wi w7.heap.size wi.heap.size o (r.take j)/\Ex w7 wi) (λ_ i _=>r.length-(intOf i).toNat)
    case atStart=>exact⟨0,am4 _,rfl,GE.nil _ _ _ _ _,asF _⟩
    case round=>
     rename World=>wi;obtain⟨j,hj,rfl,hge,hi⟩:=hrel;by_cases hlt2:j<r.length
     .obtain⟨g2,off2,y,P2,pc2,Q2,qc2,eP,hy,c0,c1,hP2,ZP⟩:=(hP.ex hi).ku hlt2;subst eP;have HT:=amW (show r.take (j+1)=r.take j++[y] by rw[am_,hy];rfl);clear hy;obtain⟨y1,dy⟩:=VB.xn wi 51 #[.slice P2 y.n.length pc2,.slice Q2 y.d.length qc2];have htl:(r.take j).length<=j:=aoc _ _;go_wp2_with fail
      generalize wi.alloc (.cells #[.slice P2 y.n.length pc2,.slice Q2 y.d.length qc2] 51)=W1 at*;obtain⟨q0,q1⟩:=dy.d2;have hzi:=hi.size;have zy1:=y1.size;go_region_held3 (λW=>W.cell? ⟨wi.heap.size,0,none⟩=some (.slice P2 y.n.length pc2)/\W.cell? ⟨wi.heap.size,1,none⟩=some (.slice Q2 y.d.length qc2)) (first
       |(exact⟨q0,q1⟩)
       |(exact⟨af e2 q0,af e2 q1⟩)
       |(exact⟨af E3 q0,af E3 q1⟩)
       |(exact⟨af (E3.alloc _) q0,af (E3.alloc _) q1⟩)
       |(exact⟨dy5.c0,dy5.c1⟩)) (first
       |(go_at_call_of 18 (Value.slice P2 y.n.length pc2)
         refine(jK P2 pc2 y.n W1.drew (hP2.ex y1.drew)).mono ?_;rintro e w2 ⟨g3,c3,rfl,hc3,hg3,o3,x3⟩;have e2:Ex W1 w2:=(asF W1).drew.trans x3;have z2:=e2.size)
       |(go_at_call_of 18 (Value.slice Q2 y.d.length qc2)
         refine(jK Q2 qc2 y.d w2 (ZP.ex (y1.trans e2))).mono ?_;rintro e w4 ⟨g4,c4,rfl,hc4,hg4,o4,x4⟩;have E3:Ex W1 w4:=e2.trans x4;have z4:=x4.size;have l3:=o3.lt;have hg3':W1.heap.size<=g3:=hg3;have F3:=(o3.ex x4).fr hP2.len (B:=W1.heap.size) hg3' hc3;have F4:=o4.fr ZP.len (B:=W1.heap.size) (by omega) hc4;obtain⟨v5,w5,hrun,abt,hO5,aj2,hE5⟩:=iU (hge.ex (y1.trans E3)) (by omega) (cB (x:=y) F3 F4 (fq (by omega)) E3.size) (by omega) E3.size (amX _) hzi (by omega);have dy4:=dy.ex E3;have dy5:VB w5 wi.heap.size 51 #[.slice P2 y.n.length pc2,.slice Q2 y.d.length qc2]:=(hO5.block wi.heap.size dy4.lt (λe=>by have:=hge.own _ e.symm;omega)).trans dy4)
       |(refine b_ rfl _ _ _ rfl rfl rfl hrun ?_))
      all_goals
       have x5:=hE5 w7 (hi.trans (y1.trans E3)) (amX _);rw[<-HT.out]at abt;clear q0 q1 hE5 hO5 hrun hge HT htl;go_wp2_with fail
       go_roundw;case rel=>exact⟨j+1,by omega,by go_num,abt,x5⟩
       case measure=>simp[intOf];omega
     .obtain rfl:j=r.length:=by omega
      rw[anf]at hge;have HT:=amW (show x.b.take (k+1)=x.b.take k++[r] by rw[am_,Hr.out];rfl);have htl:(x.b.take k).length<=k:=aoc _ _;have zi:=hi.size;obtain⟨oA,oc,eo⟩:=hge.lu;subst eo;obtain⟨v',w',hrun,Jo,ho',_,hE'⟩:=vF (hgm.ex hi) hi.size hge (by omega) (amX _) hi.size (amX _) (anq d6.lt (amX _)) (by omega);rw[<-HT.out]at Jo;have d6i:=d6.ex hi;have d6w:VB w' w3.heap.size 29 #[.int .i64 x.l,.int .i64 x.r,v]:=(ho'.block w3.heap.size d6i.lt (λe=>by have:=hgm.own _ e.symm;omega)).trans d6i;obtain⟨A7,c7,ev⟩:=Jo.lu;have hk1:(x.b.take (k+1)).length=k+1:=by rw[am8];omega
      rw[hk1]at ev;subst ev;clear hk1;have q2:=d6i.c2;have q3:=d6w.c2;have fz:=d6w.frozen 2;have xw:Ex w3 w':=hE' w3 (he.trans hi) (by omega);have yz:aJ w3.heap.size w' (w'.setCell ⟨w3.heap.size,2,none⟩ (.slice A7 (k+1) c7)):=(aJ.refl _ w').setCell (p:=⟨w3.heap.size,2,none⟩) rfl _;have aeQ:=Jo.k1 yz (by omega);have d62:VB (w'.setCell ⟨w3.heap.size,2,none⟩ (.slice A7 (k+1) c7)) w3.heap.size 29 #[.int .i64 x.l,.int .i64 x.r,.slice A7 (k+1) c7]:=d6w.aX 2 _;have Xn:=xw.aM yz (amX _);clear Jo hgm hE' ho' HT htl;go_wp2_with (at_builtin;refine wpList_append_run rfl _ _ _ rfl rfl rfl hrun ?_)
      go_roundw;case rel=>exact⟨k+1,_,by omega,by go_num,d62,aeQ.more (amX _) (aoh (by simp)),Xn⟩
      case measure=>simp[intOf];omega
   .obtain rfl:k=x.b.length:=by omega
    rw[anf]at hgm;have HY:=amW (KF Hb.out);obtain⟨A7,c7,rfl,_,hf⟩:=hgm.rows (by omega);have d2r:=d2.ex he;obtain⟨dd,zz⟩:=d2r.ru (.int .i64 x.l) (.int .i64 x.r) (.slice A7 x.b.length c7);obtain⟨u0,u1,u2⟩:=d2r.d3;obtain⟨k0,k1,k2⟩:=d2r.z3;obtain⟨t0,t1,t2⟩:=d6.d3;obtain⟨C0,C1,C2⟩:=dd.d3;have eF:=(xx.trans he).aM zz (by omega);have hwz:=xx.size;have hwl:=d2.lt;have hf2:∀w2,fD 0 w.heap.size _ w2->wo w2 A7 x.b/\rV w2 w.heap.size w7.heap.size (.slice A7 x.b.length c7) x.b:=λw2 k=>by have ho:=((hgm.k1 zz (by omega)).iv k (by omega)).ofx (by omega);exact⟨ho.P7,ho.more (by omega) (amX _)⟩
    go_wp2_with fail
    refine ane (v:=.tuple #[.agg #[.int .i64 x.l,.int .i64 x.r,.slice A7 x.b.length c7],.bool true]) (by simp[results,Tryz.results19,go_sem,C0,C1,C2]) rfl ?_;rw[RdB,HY.out];exact⟨A7,c7,rfl,λw2 k=>⟨(hf2 w2 k).1,(hf2 w2 k).2.more (amX _) (aoh (by simp))⟩,eF⟩
theorem GK(w:World):Calls prog 125 #[.int .i64 0] w λe w'=>wZ w zF e w':=by
 go_enter Tryz.func125,Tryz.ntmps125
 go_wp2_with fail
 obtain⟨x1,v1⟩:=VB.xn w 51 #[.slice (some ⟨w.heap.size+1,0,none⟩) 0 0,.slice (some ⟨w.heap.size+1+1,0,none⟩) 1 1];have s1:(w.alloc (.cells #[.slice (some ⟨w.heap.size+1,0,none⟩) 0 0,.slice (some ⟨w.heap.size+1+1,0,none⟩) 1 1] 51)).heap.size=w.heap.size+1:=by simp
 generalize w.alloc (.cells #[.slice (some ⟨w.heap.size+1,0,none⟩) 0 0,.slice (some ⟨w.heap.size+1+1,0,none⟩) 1 1] 51)=W1 at*;have x2:=((asF W1).alloc (aO [])).alloc (aO [1]);have o1:=(Own.new W1 []).ex ((asF (W1.alloc (aO []))).alloc (aO [1]));have o2:=Own.new (W1.alloc (aO [])) [1];have s2:(W1.alloc (aO [])).heap.size=w.heap.size+1+1:=by simp[s1]
 rw[s2]at o2;rw[s1]at o1;have v2:=v1.ex x2;obtain⟨d0,d1⟩:=v2.d2;change bodyPost _ _ _ _ _ ((W1.alloc (aO [])).alloc (aO [1]));generalize(W1.alloc (aO [])).alloc (aO [1])=W2 at*;refine ane (v:=.agg #[.slice (some ⟨w.heap.size+1,0,none⟩) 0 0,.slice (some ⟨w.heap.size+1+1,0,none⟩) 1 1]) (by simp[results,Tryz.results125,go_sem,d0,d1]) rfl ?_;exact⟨_,_,_,_,rfl,o1.fr (by simp) (by omega) (by simp),o2.fr (by simp) (by omega) (by simp),fq (by omega),x1.trans x2⟩
theorem Tc(w:World):Calls prog 125 #[.int .i64 1] w λe w'=>wZ w oF e w':=Ap 1 (by omega) w
theorem Qx(w:World):Calls prog 95 #[] w λe w'=>wZ w zF e w':=by
 obtain⟨x1,v1⟩:=VB.xn w 51 #[.slice none 0 0,.slice none 0 0];have s1:(w.alloc (.cells #[.slice none 0 0,.slice none 0 0] 51)).heap.size=w.heap.size+1:=by simp
 go_enter Tryz.func95,Tryz.ntmps95
 go_wp2_with fail
 generalize w.alloc (.cells #[.slice none 0 0,.slice none 0 0] 51)=W1 at*;refine(GK W1).mono ?_;rintro e w3 ⟨A3,c3,B3,d3,rfl,f3,g3,ap,x3⟩;have v3:=v1.ex x3;obtain⟨dd,zz⟩:=v3.st2 (.slice A3 zF.n.length c3) (.slice B3 zF.d.length d3);obtain⟨r0,r1⟩:=v3.d2;obtain⟨k0,k1⟩:=v3.z2;obtain⟨C0,C1⟩:=dd.d2;have f4:=(f3.aM zz (f3.hi.off (by omega))).more (B':=w.heap.size) (by omega);have g4:=(g3.aM zz (g3.hi.off (by omega))).more (B':=w.heap.size) (by omega);have eF:=(x1.trans x3).aM zz (amX _);go_wp2_with fail
 refine ane (v:=.agg #[.slice A3 zF.n.length c3,.slice B3 zF.d.length d3]) (by simp[results,Tryz.results95,go_sem,C0,C1]) rfl ?_;exact⟨A3,c3,B3,d3,rfl,f4,g4,ap,eF⟩
theorem xR(w:World):Calls prog 91 #[] w λe w'=>wZ w oF e w':=by
 obtain⟨x1,v1⟩:=VB.xn w 51 #[.slice none 0 0,.slice none 0 0];have s1:(w.alloc (.cells #[.slice none 0 0,.slice none 0 0] 51)).heap.size=w.heap.size+1:=by simp
 go_enter Tryz.func91,Tryz.ntmps91
 go_wp2_with fail
 generalize w.alloc (.cells #[.slice none 0 0,.slice none 0 0] 51)=W1 at*;refine(Tc W1).mono ?_;rintro e w3 ⟨A3,c3,B3,d3,rfl,f3,g3,ap,x3⟩;have v3:=v1.ex x3;obtain⟨dd,zz⟩:=v3.st2 (.slice A3 oF.n.length c3) (.slice B3 oF.d.length d3);obtain⟨r0,r1⟩:=v3.d2;obtain⟨k0,k1⟩:=v3.z2;obtain⟨C0,C1⟩:=dd.d2;have f4:=(f3.aM zz (f3.hi.off (by omega))).more (B':=w.heap.size) (by omega);have g4:=(g3.aM zz (g3.hi.off (by omega))).more (B':=w.heap.size) (by omega);have eF:=(x1.trans x3).aM zz (amX _);go_wp2_with fail
 refine ane (v:=.agg #[.slice A3 oF.n.length c3,.slice B3 oF.d.length d3]) (by simp[results,Tryz.results91,go_sem,C0,C1]) rfl ?_;exact⟨A3,c3,B3,d3,rfl,f4,g4,ap,eF⟩
theorem CB(n:Nat)(hn:n<=1000)(w:World):
 Calls prog 58 #[.int .i64 n] w λe w'=>∃v,e=.returned v/\Ho w' w.heap.size w'.heap.size v (List.replicate n zF)/\Ex w w':=by
 have wO:=GE.empty pq 51 w (amX w.heap.size);have he1:=(asF w).alloc (.cells #[] 51);have hs1:(w.alloc (.cells #[] 51)).heap.size=w.heap.size+1:=by simp
 go_enter Tryz.func58,Tryz.ntmps58
 go_wp2_with fail
 go_loopw [3,6] (λo i wr=>∃k:Nat,k<=n/\i=.int .i64 k/\GE pq 51 wr w.heap.size wr.heap.size o (List.replicate k zF)/\o≠.slice none 0 0/\Ex w wr) (λ_ i _=>n-(intOf i).toNat)
 case atStart=>exact⟨0,am4 _,rfl,by rw[hs1];exact wO,by simp,he1⟩
 case round=>
  clear wO he1 hs1;obtain⟨k,hk,rfl,hge,hnn,he⟩:=hrel;by_cases hlt:k<n
  .have HT:=amW (show List.replicate (k+1) zF=List.replicate k zF++[zF] by rw[List.replicate_succ']);have hz:=he.size;go_wp2_with fail
   refine(Qx _).mono ?_;rintro e w3 ⟨A3,c3,B3,d3,rfl,f3,p3,Ig,x3⟩;have hz3:=x3.size;obtain⟨v',w4,hrun,hge4,_,BG,CW⟩:=iU (hge.ex x3) hz3 (cB (x:=zF) f3 p3 Ig hz3) (amX _) hz3 (amX _) hz (by simp;omega);rw[<-HT.out]at hge4;have qO:=CW w (he.trans x3) (amX _);clear CW HT;go_wp2_with (at_builtin;refine wpList_append_run rfl _ _ _ rfl rfl rfl hrun ?_)
   go_roundw;case rel=>exact⟨k+1,by omega,by go_num,hge4,BG,qO⟩
   case measure=>simp[intOf];omega
  .obtain rfl:k=n:=by omega
   go_wp2_with fail
   go_ret;exact⟨_,rfl,⟨hnn,hge⟩,he⟩
section
section
variable {K : Type}
theorem getD_some{l:List α}{i:Nat}{d x:α}(h:l[i]?=some x):l.getD i d=x:=by rw[am6,h];rfl
theorem Sp.UR{F:aL K}{φ:(Nat->K)->(Nat->K)}(hz:φ F.vz=F.vz)(ha:∀u r c,φ (F.va u (F.vs c r))=F.va (φ u) (F.vs c (φ r))){R:List (Nat->K)}{v:Nat->K}(h:Sp F (R.map φ) v):∃k,Sp F R k/\φ k=v:=
 h (λx=>∃k,Sp F R k/\φ k=x) ⟨F.vz,Sp.zero F R,hz⟩ λu hu q hq c=>by obtain⟨k,h1,h2⟩:=hu;obtain⟨r,hr,rfl⟩:=am3.1 hq;exact⟨F.va k (F.vs c r),h1.step hr c,by rw[ha,h2]⟩
end
section
variable {p : Int} {hF : aj p = true} {la mid rb dA dB : Nat} {A B : List (List (xM p))}
end
end
section
section
variable {K : Type}
end
section
variable {p : Int} {hF : aj p = true}
theorem Ih.const{Z:List (List (xM p))}(hZ:jZ (ay p hF) n Z)(hc:∀v∈Z,∀x∈v,∃f,PN p f/\f.length<=1/\x=pe hF f):Ih hF (Sp (ay p hF) ((ay p hF).fns Z)) Z.length 0:=by
 obtain⟨hw,P,he⟩:=hZ;have hlo:=au hF;have h1:∀i j,∃f,PN p f/\f.length<=1/\(ay p hF).el (Z.getD i []) j=pe hF f:=λi j=>by
  by_cases hi:i<Z.length
  .rw[getD_some (am0 hi)];by_cases hj:j<(Z[i]'hi).length
   .rw[Ops.bT _ (am0 hj)];exact hc _ (anO hi) _ (anO hj)
   .rw[Ops.eH _ (by omega)];exact⟨[],PN.nil p,by simp,(jV hF).symm⟩
  .rw[am6,anz (by omega)];exact⟨[],PN.nil p,by simp,(jV hF).symm⟩
 obtain⟨R,hR⟩:=Classical.axiomOfChoice λq:Nat×Nat=>h1 q.1 q.2
 have inj:∀{f g:List Int},PN p f->PN p g->pe hF f=pe hF g->f=g:=λhf hg h=>by have:(pe hF _).1.n=(pe hF _).1.n:=congrArg (λx=>x.1.n) h;rwa[nR hF hf,nR hF hg]at this
 have:=Ih.leaf hF (Sp.aan (ay p hF) ((ay p hF).fns Z)) Z.length 0 (λi j=>R (i,j)) (λi=>P.getD i 0) λi hi=>by
  have hgi:=getD_some (d:=[]) (am0 hi);obtain⟨pi,hpi⟩:∃pi,P[i]?=some pi:=⟨_,am0 (by rw[he.pl];exact hi)⟩;refine⟨λj=>⟨(hR (i,j)).1,(hR (i,j)).2.1⟩,?_,?_,λl hl hli=>?_⟩
  .have:(λj=>pe hF (R (i,j)))=(ay p hF).fn (Z[i]'hi):=funext λj=>by
    rw[<-(hR (i,j)).2.2];dsimp only;rw[hgi];rfl
   rw[this];exact Sp.mem (am3.2 ⟨_,anO hi,rfl⟩)
  .refine inj (hR (i,P.getD i 0)).1 (PN.one hlo) ?_;rw[<-(hR (i,P.getD i 0)).2.2,vG];dsimp only;rw[hgi,getD_some hpi];exact he.one i pi _ hpi (am0 hi)
  .refine inj (hR (l,P.getD i 0)).1 (PN.nil p) ?_;rw[<-(hR (l,P.getD i 0)).2.2,jV];dsimp only;rw[getD_some (d:=[]) (am0 hl),getD_some hpi];exact he.Bh i l pi _ hpi (am0 hl) hli
 exact this.mono (amX _) (by rw[Nat.mul_zero];exact amX _)
end
end
section
def w_{p:Int}(hF:aj p=true)(n d:Nat)(l:List (List aF)):Prop:=∃L:List (List (xM p)),l=dh Subtype.val L/\jZ (ay p hF) n L/\Ih hF (Sp (ay p hF) ((ay p hF).fns L)) L.length d
section
variable {p : Int} {hF : aj p = true}
theorem w_.mono{d':Nat}(h:w_ hF n d l)(hd:d<=d'):w_ hF n d' l:=by obtain⟨L,h1,h2,h3⟩:=h;exact⟨L,h1,h2,h3.mono (amX _) hd⟩
theorem w_.gd(h:w_ hF n d l):iK p (d+1) l:=by obtain⟨L,rfl,h2,h3⟩:=h;intro z hz x hx;obtain⟨w,hw,rfl⟩:=am3.1 hz;obtain⟨y,hy,rfl⟩:=am3.1 hx;exact⟨y.2,h3.bd h2 w hw y hy⟩
theorem w_.wid(h:w_ hF n d l):aZ n l:=by obtain⟨L,rfl,h2,h3⟩:=h;exact aZ.dh.2 h2.1
theorem w_.len(h:w_ hF n d l):l.length<=n:=by obtain⟨L,rfl,h2,h3⟩:=h;unfold dh;rw[am5];exact yT _ h2
end
end
def cF(a:Int):aF:=if a=0 then zF else⟨[a],[1]⟩
def oN(rows:List (List Int)):List (List aF):=rows.map (List.map cF)
theorem K_{O:Ops K}{O':Ops A}{f:K->A}(hz:f O.z=O'.z)(v:List K)(j:Nat):O'.el (v.map f) j=f (O.el v j):=by
 simp only[Ops.el,am6,am7];cases v[j]? with
 |none=>exact hz.symm
 |some x=>rfl
theorem qN{O:Ops K}{O':Ops A}{f:K->A}(hi:∀a,O'.jq (f a)=O.jq a)(v:List K):O'.lead (v.map f)=O.lead v:=by unfold Ops.lead;rw[List.findIdx_map];congr 1;funext x;show(!O'.jq (f x))=_;rw[hi]
theorem Pq{O:Ops K}{O':Ops A}{f:K->A}(hz:f O.z=O'.z)(ho:f O.o=O'.o)(hi:∀a,O'.jq (f a)=O.jq a){R:List (List K)}(k:Bf O n R):Bf O' n (dh f R):=by
 have hinv:∀(i:Nat) (u:List A),(dh f R)[i]?=some u->∃x,R[i]?=some x/\u=x.map f:=λi u hu=>by
  rw[am7]at hu;cases hx:R[i]? with
  |none=>rw[hx]at hu;cases hu
  |some x=>rw[hx]at hu;injection hu with hu;exact⟨x,rfl,hu.symm⟩
 refine⟨aZ.dh.2 k.len,λv hv=>?_,λi u v hu hv=>?_,λi j u v hu hv hne=>?_⟩
 .obtain⟨x,hx,rfl⟩:=am3.1 hv;have:=k.one x hx;rw[qN hi,K_ hz,this.2,ho];exact⟨this.1,rfl⟩
 .obtain⟨x,hx,rfl⟩:=hinv i u hu;obtain⟨y,hy,rfl⟩:=hinv _ v hv;rw[qN hi,qN hi];exact k.Et i x y hx hy
 .obtain⟨x,hx,rfl⟩:=hinv i u hu;obtain⟨y,hy,rfl⟩:=hinv _ v hv;rw[qN hi,K_ hz,hi];exact k.Bh i j x y hx hy hne
theorem Tt(a:Int):ig (cF a)=decide (a=0):=by unfold cF;by_cases h:a=0<;>simp[h,ig,zF]
theorem VK{R:List (List Int)}(h:Bf (aA p) n R):Bf (ah p) n (oN R):=Pq (O:=aA p) (O':=ah p) (f:=cF) rfl rfl Tt h
theorem R3{a:Int}(hF:aj p=true)(h:fe p a=true):bF p (cF a).n (cF a).d=true:=by
 have h2:=au hF;have key:∀n:List Int,PN p n->n.length<=1->bF p n [1]=true:=λn hn hl=>by have hv:=FV.one_den hF hn;have h1:=PN.one (p:=p) h2;have e1:=Fh hF (by omega) hn.e hn.t;have e2:=Fh hF (by simp) h1.e h1.t;have hg:(bJ p n [1]).length=1:=hv.g;unfold bF;rw[e1,e2,hg];simp[cf];omega
 unfold cF;split
 .exact key [] (PN.nil p) (by simp)
 .rename_i h0;refine key [a] ⟨?_,?_⟩ (by simp)
  .simp[av,h]
  .exact Tr.qH (by simp) (by simpa[cf]using h0)
theorem Ta(a:Int)(w:World):Calls prog 125 #[.int .i64 a] w λe w'=>wZ w (cF a) e w':=by
 by_cases h:a=0
 .subst h;exact GK w
 .have e:cF a=⟨[a],[1]⟩:=amZ h;rw[e];exact Ap a h w
theorem QM(rows:List (List Int))(A:Option Addr)(c:Nat)(w:World)(h:pI w A rows):
 Calls prog 127 #[.slice A rows.length c] w λe w'=>∃v,e=.returned v/\rV w' w.heap.size w'.heap.size v (oN rows)/\Ex w w':=by
 have ae9:=h.1;obtain⟨R,hR⟩:=xq rows.length;have HR:=amW hR;rw[hR]at ae9⊢;clear hR;have H:=amW h;have wO:=GE.empty AY 48 w (amX w.heap.size);have he1:=(asF w).alloc (.cells #[] 48);have hs1:(w.alloc (.cells #[] 48)).heap.size=w.heap.size+1:=by simp
 rw[<-hs1]at wO;go_enter Tryz.func127,Tryz.ntmps127
 go_wp2_with fail
 generalize w.alloc (.cells #[] 48)=W1 at*;go_loopw [3,12] (λo i wr=>∃k:Nat,k<=R/\i=.int .i64 k/\GE AY 48 wr w.heap.size wr.heap.size o (oN (rows.take k))/\Ex w wr) (λ_ i _=>R-(intOf i).toNat)
 case atStart=>exact⟨0,am4 _,rfl,wO,he1⟩
 case round=>
  rename World=>wi;clear wO he1 hs1;obtain⟨k,hk,rfl,hge,hi⟩:=hrel;by_cases hlt:k<R
  .obtain⟨g,off,B,d,r,e1,hr,hc,hrd⟩:=H.out.at_ (k:=k) (by rw[HR.out];exact hlt);subst e1;have Hr:=amW hr;have hc:=af hi hc;have hrd:=amW (hrd.ex hi);have hrl:=hrd.out.len;obtain⟨L,hL⟩:=xq r.length;have HL:=amW hL;rw[hL]at hc hrl;have HT:=amW (show oN (rows.take (k+1))=oN (rows.take k)++[r.map cF] by rw[am_,hr];simp[oN]);have htl:(oN (rows.take k)).length<=k:=by simp[oN];omega
   clear hr hL;have hz:=hi.size;have gf0:=GE.empty pq 51 wi (amX wi.heap.size);have y1:=(asF wi).alloc (.cells #[] 51);have s1:(wi.alloc (.cells #[] 51)).heap.size=wi.heap.size+1:=by simp
   rw[<-s1]at gf0;go_wp2_with fail
   generalize wi.alloc (.cells #[] 51)=W2 at*;go_loopw [6,19] (λo i wr=>∃j:Nat,j<=L/\i=.int .i64 j/\GE pq 51 wr wi.heap.size wr.heap.size o ((r.take j).map cF)/\Ex wi wr) (λ_ i _=>L-(intOf i).toNat)
   case atStart=>exact⟨0,am4 _,rfl,gf0,y1⟩
   case round=>
    rename World=>wj;clear gf0 y1 s1;obtain⟨j,hj,rfl,hgf,hij⟩:=hrel;by_cases hlt2:j<L
    .obtain⟨g',off',y,eB,hy,hgl,hcell⟩:=(hrd.out.ex hij).at_ (by rw[HL.out];exact hlt2);subst eB;have HT2:=amW (show(r.take (j+1)).map cF=(r.take j).map cF++[cF y] by rw[am_,hy];simp);have Yj:((r.take j).map cF).length<=j:=by simp;omega
     have hzj:=hij.size;clear hy;go_wp2_with fail
     refine(Ta y wj).mono ?_;rintro e w3 ⟨A3,c3,B3,d3,rfl,f3,p3,Ig,x3⟩;have hz3:=x3.size;obtain⟨v',w4,hrun,hge4,_,BG,CW⟩:=iU (hgf.ex x3) hz3 (cB (x:=cF y) f3 p3 Ig hz3) (amX _) hz3 (amX _) hzj (by omega);rw[<-HT2.out]at hge4;have qO:=CW wi (hij.trans x3) (amX _);clear CW HT2 hgf;go_wp2_with (at_builtin;refine wpList_append_run rfl _ _ _ rfl rfl rfl hrun ?_)
     go_roundw;case rel=>exact⟨j+1,by omega,by go_num,hge4,qO⟩
     case measure=>simp[intOf];omega
    .obtain rfl:j=L:=by omega
     rw[ann (by rw[HL.out];exact amX _)]at hgf;have hzj:=hij.size;obtain⟨oA,oc,eo⟩:=hgf.lu;rw[am5,HL.out]at eo;subst eo;obtain⟨v',w',hrun,Jo,ho',_,hE'⟩:=vF (hge.ex hij) hzj hgf (by rw[am5,HL.out];omega) (amX _) hzj (amX _) hz (by omega);rw[<-HT.out]at Jo;have xw:=hE' w (hi.trans hij) (amX _);clear hE' HT hge ho';go_wp2_with (at_builtin;refine wpList_append_run rfl _ _ _ rfl rfl rfl hrun ?_)
     go_roundw;case rel=>exact⟨k+1,by omega,by go_num,Jo,xw⟩
     case measure=>simp[intOf];omega
  .obtain rfl:k=R:=by omega
   rw[ann (by rw[HR.out];exact amX _)]at hge;go_wp2_with fail
   go_ret;exact⟨_,rfl,hge.ofx (by simp[oN];have:=HR.out;omega),hi⟩
end Go.Proofs.YtekcehkhdjoffaaGreatDoor
