/- Lemmas and walks on terms over rational functions: Contracts: lists of fractions; causal .. -/
import Derived.Test.YthgiffhlfcmgaaaGreatDoorQ15
namespace Go.Proofs.YthgiffhlfcmgaaaGreatDoor
open _root_.Go.Proofs.Tryz(prog)
set_option maxRecDepth 100000
set_option maxHeartbeats 8000000
set_option linter.all false
open Go Go.RowKit
variable{l p:Int}{rows:List (List aG)}{B H e g i s:Nat}{T:Nat->Prop}{v:Value}{w:World}
def wT(den:List Int):Bool:=decide (den.getD 0 0≠0)
theorem Qd(A B:Option Addr)(c d:Nat)(num den:List Int)(w:World)(hn:Rd w A num)(hd:Rd w B den)(hp:0<den.length):
 Calls prog 33 #[.agg #[.slice A num.length c,.slice B den.length d]] w λe w'=>e=.returned (.bool (wT den))/\Ex w w':=by
 have x0:=(aCQ w).alloc (.cells #[.slice A num.length c,.slice B den.length d] 57);have hl:=hd.len;obtain⟨g,off,x,rfl,hx,hg,hc⟩:=(hd.ex x0).at_ hp;have Hx:=axj hx;clear hx;rw[ayb]at hc;go_enter Tryz.func33,Tryz.ntmps33
 go_wp2;go_ret;exact⟨aI (by simp only[wT,axt,Hx.out,azd,bne,BEq.beq];by_cases h:x=0<;>simp[h]),x0⟩
theorem Q8(A B:Option Addr)(c d:Nat)(num den:List Int)(w:World)(hn:Rd w A num)(hd:Rd w B den)(hp:0<den.length):
 Calls prog 37 #[.agg #[.slice A num.length c,.slice B den.length d]] w λe w'=>e=.returned (.bool (wT den))/\Ex w w':=by
 have x0:=(aCQ w).alloc (.cells #[.slice A num.length c,.slice B den.length d] 57);have hl:=hd.len;obtain⟨g,off,x,rfl,hx,hg,hc⟩:=(hd.ex x0).at_ hp;have Hx:=axj hx;clear hx;rw[ayb]at hc;go_enter Tryz.func37,Tryz.ntmps37
 go_wp2;go_ret;exact⟨aI (by simp only[wT,axt,Hx.out,azd,bne,BEq.beq];by_cases h:x=0<;>simp[h]),x0⟩
theorem Kw(A B:Option Addr)(c d:Nat)(xs ys:List aG)(w:World)(h:bW EF w A xs)(h':bW EF w B ys):
 Calls prog 63 #[.slice A xs.length c,.slice B ys.length d,.func (.func 64) #[] #[]] w λe w'=>∃b,e=.returned (.bool b)/\(b=true↔xs=ys)/\Ex w w':=by
 have hl:=h.1;have hl':=h'.1;have eg:∀args w,(callFunc 64 args).run prog w=.ok (.enter 64 args) w:=enters_of Tryz.func64 (by kernel_rfl) rfl;by_cases hn:xs.length=ys.length;case neg=>
  have hb:((xs.length:Int) !=(ys.length:Int))=true:=by simp;omega
  have HN:=axj (show¬xs=ys from λe=>hn (by rw[e]));clear hn;go_enter Tryz.func63,Tryz.ntmps63
  go_wp2_with fail
  go_ret;exact⟨false,rfl,⟨λe=>(Bool.noConfusion e),λe=>absurd e HN.out⟩,aCQ w⟩
 have hb:((xs.length:Int) !=(ys.length:Int))=false:=by simp;omega
 have hn2:ys.length<=xs.length:=by omega
 have VZ:xs.length<=ys.length:=by omega
 have Hn:=axj hn;clear hn;go_enter Tryz.func63,Tryz.ntmps63
 go_wp2_with fail
 go_loopw [17] (λi wr=>∃k:Nat,k<=xs.length/\i=.int .i64 k/\Hid (xs.take k=ys.take k)/\Ex w wr) (λi _=>xs.length-(intOf i).toNat)
 case atStart=>exact⟨0,axq _,rfl,axj rfl,aCQ _⟩
 case round=>
  obtain⟨k,hk,rfl,He,he⟩:=hrel;by_cases hlt:k<xs.length
  .have hlt2:k<ys.length:=by omega
   obtain⟨g,off,x,P,pc,Q,qc,rfl,hx,c0,c1,hP,hQ⟩:=(h.ex he).iy hlt;obtain⟨g',off',y,P',pc',Q',MO,rfl,hy,c0',c1',hP',hQ'⟩:=(h'.ex he).iy hlt2;have Hx:=axj hx;have Hy:=axj hy;clear hx hy;have y1:=(aCQ wr).alloc (.cells #[.slice P x.n.length pc,.slice Q x.d.length qc] 57);have e0:=af y1 c0';have e1:=af y1 c1';have y2:=y1.alloc (.cells #[.slice P' y.n.length pc',.slice Q' y.d.length MO] 57);clear c0' c1';have hcall:=lS P Q P' Q' pc qc pc' MO x.n x.d y.n y.d ((wr.alloc (.cells #[.slice P x.n.length pc,.slice Q x.d.length qc] 57)).alloc (.cells #[.slice P' y.n.length pc',.slice Q' y.d.length MO] 57)) (hP.ex y2) (hQ.ex y2) (hP'.ex y2) (hQ'.ex y2);cases hxy:(decide (x.n=y.n)&&decide (x.d=y.d))with
   |true=>
    rw[hxy]at hcall;have HE:=axj (show x=y by
     simp only[axU,decide_eq_true_eq]at hxy;obtain⟨n,m⟩:=x;obtain⟨n',m'⟩:=y;obtain⟨e1,e2⟩:=hxy;simp only at e1 e2;rw[e1,e2])
    clear hxy;go_wp2_with fail
    refine hcall.mono ?_;rintro e w1 ⟨rfl,x1⟩;go_wp2_with fail
    go_roundw;case rel=>exact⟨k+1,by omega,by go_num,axj (by rw[axy,axy,Hx.out,Hy.out,He.out,HE.out]),(he.trans y2).trans x1⟩
    case measure=>simp[intOf];omega
   |false=>
    rw[hxy]at hcall;have HE:=axj (show¬xs=ys by
     rintro rfl;have:=Hx.out;rw[Hy.out]at this;injection this with this;subst this;simp at hxy)
    clear hxy;go_wp2_with fail
    refine hcall.mono ?_;rintro e w1 ⟨rfl,x1⟩;go_wp2_with fail
    go_ret;exact⟨false,rfl,⟨λe=>(Bool.noConfusion e),λe=>absurd e HE.out⟩,(he.trans y2).trans x1⟩
  .obtain rfl:k=xs.length:=by omega
   have HE:=axj (show xs=ys by
    have:=He.out;rwa[axE,axG (by omega)]at this)
   go_wp2_with fail
   go_ret;exact⟨true,rfl,⟨λ_=>HE.out,λ_=>rfl⟩,he⟩
section
variable {α : Type}
structure jm (g s e:Nat) (T:Nat->Prop) (t:TypeId) (w w':World):Prop where
 size:w.heap.size<=w'.heap.size
 block:∀k,k<w.heap.size->k≠g->¬T k->w'.heap[k]?=w.heap[k]?
 row:∀cur,w.heap[g]?=some (.cells cur t (0,0))->∃cur':Array Value,w'.heap[g]?=some (.cells cur' t (0,0))/\∀q,(q<s∨e<=q)->cur'[q]?=cur[q]?
theorem jm.refl(g s e:Nat)(T:Nat->Prop)(t:TypeId)(w:World):jm g s e T t w w:=⟨axk _,λ_ _ _ _=>rfl,λcur h=>⟨cur,h,λ_ _=>rfl⟩⟩
theorem jm.set{t:TypeId}{v:World}(h:jm g s e T t v w){o:Nat}(hs:s<=o)(he:o<e)(u:Value):jm g s e T t v (w.setCell ⟨g,o,none⟩ u):=by have hb:=Below.heap_setCell w ⟨g,o,none⟩ u;refine⟨by simpa[World.setCell]using h.size,λk hk hn hd=>(hb k (λe=>hn (e▸rfl))).trans (h.block k hk hn hd),λcur hc=>?_⟩;obtain⟨cur',h1,h2⟩:=h.row cur hc;refine⟨cur'.setIfInBounds o u,by simp[World.setCell,ayn,h1],λq hq=>?_⟩;rw[ax1,axm (by omega)];exact h2 q hq
theorem jm.sx{U:Nat->Prop}{t:TypeId}{v w':World}(h:jm g s e T t v w)(k:bG U w w')(hU:∀i,i<v.heap.size->U i->T i)(hg:¬U g)(hgl:g<v.heap.size):jm g s e T t v w':=
 ⟨axA h.size k.size,λi hi hn hd=>(k.block i (axD hi h.size) (λhu=>hd (hU i hi hu))).trans (h.block i hi hn hd),λcur hc=>by
  obtain⟨cur',h1,h2⟩:=h.row cur hc;exact⟨cur',(k.block g (axD hgl h.size) hg).trans h1,h2⟩⟩
theorem jm.ex{t:TypeId}{v w':World}(h:jm g s e T t v w)(k:Ex w w')(hgl:g<v.heap.size):jm g s e T t v w':=h.sx (bG.aP (S:=λ_=>False) k) (λ_ _ h=>h.elim) id hgl
theorem OX.row{E:EX α}{t:TypeId}{S:Nat->Prop}{A:Option Addr}{xs:List α}(h:OX E t w S A xs){x:α}(hi':xs[i]?=some x):
 ∃g off vs s cur,A=some ⟨g,off,none⟩/\S g/\w.heap[g]?=some (.cells cur t (0,0))/\(∀(q:Nat) (u:Value),vs[q]?=some u->w.cell? ⟨g,off+i*E.k+q,none⟩=some u)/\E.O w s vs x/\(∀k,s k->S k)/\¬s g/\
  ∀w' S' s' vs' x',jm g (off+i*E.k) (off+i*E.k+E.k) s t w w'->(∀(q:Nat) (u:Value),vs'[q]?=some u->w'.cell? ⟨g,off+i*E.k+q,none⟩=some u)->E.O w' s' vs' x'->(∀k,s' k->s k∨w.heap.size<=k)->(∀k,k<w.heap.size->S k->S' k)->(∀k,s' k->S' k)->OX E t w' S' A (xs.set i x'):=by
 have hlt:=(axp.1 hi').1;obtain⟨hl,s,k1,k2⟩:=h;obtain⟨g,off,vs,cur,hA,hg,hh,hc,ho,hs,hn⟩:=k1 i x hi';have hgl:=aF hh;refine⟨g,off,vs,s i,cur,hA,hg,hh,λq u hq=>dJ hh (hc q u hq),ho,hs,hn,λw' S' s' vs' x' T hc' ho' hnew hSS hs'=>?_⟩;refine⟨by simpa using hl,λj k=>if j=i then s' k else s j k/\k<w.heap.size,λj y hj=>?_,λa b k ha hb hne h1 h2=>?_⟩
 .obtain⟨cur',hh',hsame⟩:=T.row cur hh;rw[axK]at hj;split at hj
  .rename_i e;subst e;injection hj with hj;subst hj;refine⟨g,off,vs',cur',hA,hSS g hgl hg,hh',λq u hq=>?_,?_,?_,?_⟩
   .have:=hc' q u hq;simpa[World.cell?,hh']using this
   .simp only[axl];exact ho'
   .intro k hk;simp only[axl]at hk;exact hs' k hk
   .simp only[axl];intro hk;rcases hnew g hk with h1|h1
    .exact hn h1
    .omega
  .rename_i e;have hjl:=(axp.1 hj).1;have e':¬j=i:=λh=>e h.symm
   obtain⟨g2,off2,vs2,adE,hA2,_,Dj,hc2,ho2,hs2,hn2⟩:=k1 j y hj;rw[hA]at hA2;injection hA2 with hA2;injection hA2 with e1 e2 _;subst e1 e2;rw[hh]at Dj;injection Dj with Dj;injection Dj with Dj _ _;subst Dj;have hlen:=E.mM ho2;refine⟨g,off,vs2,cur',hA,hSS g hgl hg,hh',λq u hq=>?_,?_,?_,?_⟩
   .have hql:q<E.k:=by rw[<-hlen];exact(axp.1 hq).1
    rw[hsame _ ?_]
    .exact hc2 q u hq
    .rcases Nat.lt_or_gt_of_ne e with h|h
     .right;have:=ayk E.k (show i+1<=j from h);rw[ayu,ayU]at this;omega
     .left;have:=ayk E.k (show j+1<=i from h);rw[ayu,ayU]at this;omega
   .simp only[axm e'];exact E.keep (E.mono ho2 (λk hk h=>⟨h,hk⟩)) λk hk hkl=>T.block k hkl (λe3=>hn2 (e3▸hk.1)) (λhsi=>k2 i j k hlt hjl e hsi hk.1)
   .intro k hk;simp only[axm e']at hk;exact hSS k hk.2 (hs2 k hk.1)
   .simp only[axm e'];exact λhk=>hn2 hk.1
 .simp only[axM]at ha hb;by_cases ea:a=i
  .have eb:¬b=i:=λe=>hne (ea.trans e.symm)
   simp only[axl ea]at h1;simp only[axm eb]at h2;rcases hnew k h1 with h3|h3
   .exact k2 i b k hlt hb (λe=>eb e.symm) h3 h2.1
   .omega
  .simp only[axm ea]at h1;by_cases eb:b=i
   .simp only[axl eb]at h2;rcases hnew k h2 with h3|h3
    .exact k2 i a k hlt ha (λe=>ea e.symm) h3 h1.1
    .omega
   .simp only[axm eb]at h2;exact k2 a b k ha hb hne h1.1 h2.1
end
section
variable {α : Type}
theorem OFF.more{a b a' b':Nat}{x:List (List aG)}(h:OFF w a b v x)(ha:a'<=a)(hb:b<=b'):OFF w a' b' v x:=by obtain⟨⟨A,c,S,e,hS,h⟩,ht⟩:=h;exact⟨⟨A,c,S,e,λk hk=>by have:=hS k hk;omega,h⟩,ht⟩
end
theorem oG.Da{lo hi:Nat}{v0:Value}{x:iK}(h:oG w lo hi v0 x):Sj w v0 x:=by refine⟨h.rd,?_⟩;obtain⟨a0,b0,⟨⟨A,c,S,e,_,o⟩,_⟩,_⟩:=h;exact⟨A,c,e,o.Da⟩
theorem GE.off{xs:List (List aG)}(h:GE Xc 54 w B H v xs)(hl:xs.length<=1099511627776)(ht:eZ xs<=1125899906842624):OFF w B H v xs:=by obtain⟨A,c,e,o,_⟩:=h.rows hl;exact⟨⟨A,c,_,e,λk hk=>hk,o⟩,ht⟩
def rfB(l:Int)(rows:List (List aG)):Bool:=decide ((rows.length:Int)=l)&&(rows.mapIdx λi r=>decide (bX r=i)).all id
theorem ve:rfB l rows=true↔(rows.length:Int)=l/\∀(i:Nat) (r:List aG),rows[i]?=some r->bX r=i:=by
 unfold rfB;rw[axU,decide_eq_true_eq,axQ];constructor
 .rintro⟨h1,h2⟩;refine⟨h1,λi r hr=>?_⟩;have:=h2 (decide (bX r=i)) (azk.2 ⟨i,by rw[ay3,hr];rfl⟩);simpa using this
 .rintro⟨h1,h2⟩;refine⟨h1,λb hb=>?_⟩;obtain⟨i,hi⟩:=axz hb;rw[ay3]at hi;cases hr:rows[i]? with
  |none=>rw[hr]at hi;cases hi
  |some r=>rw[hr]at hi;injection hi with hi;rw[<-hi];simpa using h2 i r hr
theorem ah_{x:aG}(h:FV p x)(h0:x.n=[]):x=zF:=by have:=wF (FV.zero h.f) h h0;have h2:=wF h (FV.zero h.f) rfl;have h3:=(aj p h.f).bB ⟨x,h⟩;have h4:uV p zF x=x:=congrArg Subtype.val h3;rw[<-h4];exact this
theorem Jk{n l:Nat}(hg:∀v∈rows,∀x∈v,FV p x)(h:Dx (au p) n rows)(hl:rows.length=l)(hln:l<=n)(hall:∀(i:Nat) (r:List aG),rows[i]?=some r->bX r=i){r:List aG}(hr:rows[i]?=some r):r.take l=gY l i:=by
 have hm:=axo hr;have hrl:=h.len r hm;refine ax_ λj=>?_
 by_cases hj:j<l
 .have hjr:j<r.length:=by omega
  rw[axL,axl hj,axn hjr,gY,axK];have hel:(au p).el r j=r[j]:=(au p).dD (axn hjr);by_cases e:i=j
  .subst e;rw[axl rfl,axl (by simpa using hj),<-hel];have:=(h.one r hm).2;rw[n_,hall i r hr]at this;rw[this];rfl
  .rw[axm e,ax3,axl hj];have hjs:j<rows.length:=by omega
   have:=h.BV j i _ r (axn hjs) hr (λe2=>e e2.symm);rw[n_,hall j _ (axn hjs),hel]at this;rw[ah_ (hg r hm _ (ax6 hjr)) (dR.1 this)]
 .rw[ax2 (by rw[axx];omega),ax2 (by simp[gY];omega)]
theorem JV{l:Nat}(hi:i<l){r:List aG}(h:r.take l=gY l i):bX r=i:=by
 have hat:∀j,j<l->r[j]?=(gY l i)[j]?:=λj hj=>by rw[<-h,axL,axl hj]
 have oW:=hat i hi;rw[gY,axK,axl rfl,axl (by simpa using hi)]at oW;have hlt:=(axp.1 oW).1;rw[bX,azO hlt];refine⟨by rw[(axp.1 oW).2];rfl,λj hj=>?_⟩;have:=hat j (by omega);rw[gY,axK,axm (by omega),ax3,axl (by omega)]at this;rw[(axp.1 this).2];rfl
theorem bW.aio{α:Type}{E:EK α}{A:Option Addr}{xs:List α}(h:bW E w A xs)(k:Nat):bW E w A (xs.take k):=by obtain⟨hl,h⟩:=h;exact⟨axA (ayL _ _) hl,λj x hj=>h j x (by rw[axL]at hj;split at hj;exact hj;cases hj)⟩
def ELV:EL Value where
 k:=1
 O:=λ_ _ _ vs x=>vs=[x]/\x.oneCell'=true
 mM:=λh=>by rw[h.1];rfl
 keep:=λh _=>h
 one:=λh u hu=>by rw[h.1]at hu;simp at hu;subst hu;exact h.2
def adN(w:World)(r:List (List aG)×Bool)(e:Ending)(w':World):Prop:=∃A c,e=.returned (.tuple #[.slice A r.1.length c,.bool r.2])/\bW iX w' A r.1/\Ex w w'
def Yy(l:Int)(b:List (List aG)):List (List aG)×Bool:=if rfB l b=true then(b.map (List.drop l.toNat),true)else([],false)
theorem JB{b:List (List aG)}(h:¬rfB l b=true):Yy l b=([],false):=axm h
theorem S9{b:List (List aG)}(h:rfB l b=true):Yy l b=(b.map (List.drop l.toNat),true):=axl h
theorem MP{xs:List Value}(h:GE ELV 54 w B H v xs)(hH:H<=w.heap.size)(A:Option Addr)(n c:Nat)(hB:B<=H)(hl:xs.length+1<=1099511627776):
 ∃v' w',(Builtin.append_ #[26,26] 26 #[v,.slice (some ⟨w.heap.size,0,none⟩) 1 1]).run prog (w.alloc (.cells #[.slice A n c] 54))=.ok v' w'/\
  GE ELV 54 w' B w'.heap.size v' (xs++[.slice A n c])/\∀b',Ex b' w->b'.heap.size<=B->Ex b' w':=by
 obtain⟨i,hi,hz,hs,hby⟩:=axW jB;obtain⟨v',w',h1,h2,_,_,_,h6⟩:=GE.push ELV Tryz.underlying26 hi hz hs hby rfl (by decide) (by omega) h hH (u:=[.slice A n c]) (x:=.slice A n c) (a:=H) (b:=H) ⟨rfl,rfl⟩ (axk _) (axk _) hH hB hl;exact⟨v',w',h1,h2,h6⟩
theorem XB{vals:List Value}(h:GE ELV 54 w B H v vals)(hn:vals.length=rows.length)(hl:rows.length<=1099511627776)(hr:∀(j:Nat) (r:List aG),rows[j]?=some r->∃P pc,vals[j]?=some (.slice P r.length pc)/\bW EF w P r):∃A c,v=.slice A rows.length c/\bW iX w A rows:=by
 by_cases hv:v=.slice none 0 0
 .subst hv;have:=h.VH;subst this;have:rows=[]:=ayp hn.symm;subst this;exact⟨none,0,rfl,by simp,λj x hj=>by simp at hj⟩
 .obtain⟨g,c,rfl,hgc,_⟩:=h.form hv;obtain⟨cur,al,bl,_,hB,hH,hh,h1,h2⟩:=h.at_;refine⟨_,c,by rw[hn],hl,λj r hj=>?_⟩;obtain⟨P,pc,q1,q2⟩:=hr j r hj;obtain⟨u,k1,⟨k2,_⟩,_⟩:=h1 j _ q1;refine⟨g,0,u,rfl,λi y hy=>?_,_,k2,P,pc,rfl,q2⟩;rw[axT];exact dJ hh (k1 i y hy)
theorem Yk(l rr:Int)(b:List (List aG))(A:Option Addr)(c:Nat)(w:World)(h:j_ w A b)(hlr:∀r∈b,l<=r.length/\0<r.length/\r.length<=12)(h12:b.length<=12):
 Calls prog 32 #[.agg #[.int .i64 l,.int .i64 rr,.slice A b.length c]] w λe w'=>adN w (Yy l b) e w':=by
 obtain⟨x0,v0⟩:=VB.xn w 28 #[.int .i64 l,.int .i64 rr,.slice A b.length c];by_cases hn:(b.length:Int)=l;case neg=>
  have HN:=axj (JB (l:=l) (b:=b) (λe=>hn (ve.1 e).1));have hnb:((b.length:Int) !=l)=true:=by simpa using hn
  clear hn;go_enter Tryz.func32,Tryz.ntmps32
  go_wp2_with fail
  go_ret2
  rw[adN,HN.out];exact⟨none,0,rfl,⟨by simp,λj x hj=>by simp at hj⟩,x0⟩
 subst hn;obtain⟨L,hL⟩:=xq b.length;have HL:=axj hL;have Hlr:=axj hlr;have H:=axj h;rw[hL]at v0 x0⊢;clear hlr hL h;have aoB:L<=12:=by have:=HL.out;omega
 have hnb:((L:Int) !=(L:Int))=false:=by simp
 have p0:=v0.c0;have p2:=v0.c2;go_enter Tryz.func32,Tryz.ntmps32
 go_wp2_with fail
 generalize w.alloc (.cells #[.int .i64 L,.int .i64 rr,.slice A L c] 28)=W0 at*;have zx:=x0.size;go_loopw [4,16] (λo i wr=>∃(k:Nat) (vals:List Value),k<=L/\i=.int .i64 k/\vals.length=k/\GE ELV 54 wr W0.heap.size wr.heap.size o vals/\Hid (∀(j:Nat) (r:List aG),j<k->b[j]?=some r->bX r=j/\∃P pc,vals[j]?=some (.slice P (r.drop L).length pc)/\bW EF w P (r.drop L))/\Ex W0 wr) (λ_ i _=>L-(intOf i).toNat)
 case atStart=>exact⟨0,[],axq _,rfl,rfl,GE.nil _ _ _ _ _,axj (λj r hj=>by omega),aCQ _⟩
 case round=>
  rename World=>wi;obtain⟨k,vals,hk,rfl,hvl,hge,fH,he⟩:=hrel;by_cases hlt:k<L
  .obtain⟨g,off,r,P,pc,eA,hr,b0,hpc,hP⟩:=H.out.at_ (j:=k) (by have:=HL.out;omega);subst eA;obtain⟨hr1,hr2,hr3⟩:=Hlr.out r (axo hr);have hrL:L<=r.length:=by have:=HL.out;omega
   obtain⟨g2,off2,y,_,_,_,_,eP,_⟩:=hP.iy hr2;subst eP;have b1:=af (x0.trans he) b0;have Hr:=axj hr;have p0w:=af he p0;have hlead:=nR (some ⟨g2,off2,none⟩) pc r wi (hP.ex (x0.trans he));have hPd:=axj (hP.aaz L);clear hr hr1 b0;by_cases hld:bX r=k
   .rw[hld]at hlead;have Hld:=axj hld;have hnk:((k:Int) !=(k:Int))=false:=by simp
    have hdl:(r.drop L).length=r.length-L:=axF;obtain⟨RL,Fh⟩:=xq r.length;rw[Fh]at hlead b1 hpc hr2 hr3 hrL hdl;clear hld;by_cases hpl:pc-L=0
    .have Wm:=axj (show bW EF w (some ⟨g2,off2,none⟩) (r.drop L) by
      have:r.drop L=[]:=ayp (by rw[hdl];omega);rw[this];exact⟨by simp,λj x hj=>by simp at hj⟩)
     have HX:∀(w4:World),Ex wi w4->∃v' w',(Builtin.append_ #[26,26] 26 #[_,.slice (some ⟨w4.heap.size,0,none⟩) 1 1]).run prog (w4.alloc (.cells #[.slice (some ⟨g2,off2,none⟩) (RL-L) 0] 54))=.ok v' w'/\GE ELV 54 w' W0.heap.size w'.heap.size v' (vals++[.slice (some ⟨g2,off2,none⟩) (RL-L) 0])/\∀b',Ex b' w4->b'.heap.size<=W0.heap.size->Ex b' w':=λw4 h4=>
      MP (hge.ex h4) h4.size _ _ _ he.size (by omega)
     go_wp2_with fail
     refine hlead.mono ?_;rintro e w4 ⟨rfl,x4⟩;obtain⟨v',w',hrun,hge',hE⟩:=HX w4 x4;have xw:=hE W0 (he.trans x4) (axk _);have p0x:=af x4 p0w;have HK:=axj (show∀(j:Nat) (r':List aG),j<k+1->b[j]?=some r'->bX r'=j/\∃P pc',(vals++[.slice (some ⟨g2,off2,none⟩) (RL-L) 0])[j]?=some (.slice P (r'.drop L).length pc')/\bW EF w P (r'.drop L)from λj r' hj hr'=>by
      by_cases e:j<k
      .obtain⟨q1,P',pc',q2,q3⟩:=fH.out j r' e hr';exact⟨q1,P',pc',by rw[axX (by omega)];exact q2,q3⟩
      .obtain rfl:j=k:=by omega
       rw[Hr.out]at hr';injection hr' with hr';subst hr';exact⟨Hld.out,_,_,by rw[axN (by omega),hvl,ayd,hdl];rfl,Wm.out⟩)
     clear HX hE hge fH hlead Fh hdl;go_wp2_with (at_builtin;refine wpList_append_run rfl _ _ _ rfl rfl rfl hrun ?_)
     go_roundw;case rel=>exact⟨k+1,_,by omega,by go_num,by rw[axv,hvl];rfl,hge',HK,xw⟩
     case measure=>simp[intOf];omega
    .have HX:∀(w4:World),Ex wi w4->∃v' w',(Builtin.append_ #[26,26] 26 #[_,.slice (some ⟨w4.heap.size,0,none⟩) 1 1]).run prog (w4.alloc (.cells #[.slice (some ⟨g2,off2+L*2,none⟩) (RL-L) (pc-L)] 54))=.ok v' w'/\GE ELV 54 w' W0.heap.size w'.heap.size v' (vals++[.slice (some ⟨g2,off2+L*2,none⟩) (RL-L) (pc-L)])/\∀b',Ex b' w4->b'.heap.size<=W0.heap.size->Ex b' w':=λw4 h4=>
      MP (hge.ex h4) h4.size _ _ _ he.size (by omega)
     go_wp2_with fail
     refine hlead.mono ?_;rintro e w4 ⟨rfl,x4⟩;obtain⟨v',w',hrun,hge',hE⟩:=HX w4 x4;have xw:=hE W0 (he.trans x4) (axk _);have p0x:=af x4 p0w;have HK:=axj (show∀(j:Nat) (r':List aG),j<k+1->b[j]?=some r'->bX r'=j/\∃P pc',(vals++[.slice (some ⟨g2,off2+L*2,none⟩) (RL-L) (pc-L)])[j]?=some (.slice P (r'.drop L).length pc')/\bW EF w P (r'.drop L)from λj r' hj hr'=>by
      by_cases e:j<k
      .obtain⟨q1,P',pc',q2,q3⟩:=fH.out j r' e hr';exact⟨q1,P',pc',by rw[axX (by omega)];exact q2,q3⟩
      .obtain rfl:j=k:=by omega
       rw[Hr.out]at hr';injection hr' with hr';subst hr';exact⟨Hld.out,_,_,by rw[axN (by omega),hvl,ayd,hdl];rfl,hPd.out⟩)
     clear HX hE hge fH hlead Fh hdl;go_wp2_with (at_builtin;refine wpList_append_run rfl _ _ _ rfl rfl rfl hrun ?_)
     go_roundw;case rel=>exact⟨k+1,_,by omega,by go_num,by rw[axv,hvl];rfl,hge',HK,xw⟩
     case measure=>simp[intOf];omega
   .have HN:=axj (JB (l:=(L:Int)) (b:=b) (λe=>hld ((ve.1 e).2 k r Hr.out)));obtain⟨LD,hLD⟩:=xq (bX r);rw[hLD]at hlead hld;have hnk:((LD:Int) !=(k:Int))=true:=by simp;omega
    clear hLD hld;go_wp2_with fail
    refine hlead.mono ?_;rintro e w4 ⟨rfl,x4⟩;go_wp2_with fail
    go_ret2
    rw[adN,HN.out];exact⟨none,0,rfl,⟨by simp,λj x hj=>by simp at hj⟩,(x0.trans he).trans x4⟩
  .obtain rfl:k=L:=by omega
   have HY:=axj (S9 (l:=(vals.length:Int)) (b:=b) (ve.2 ⟨by rw[HL.out,hvl],λi r hr=>(fH.out i r (by have:=(axp.1 hr).1;have:=HL.out;omega) hr).1⟩));obtain⟨A7,c7,rfl,hf⟩:=XB (rows:=b.map (List.drop k)) hge (by rw[axs,HL.out,hvl]) (by rw[axs,HL.out];omega) (λj r hj=>by
    rw[axw]at hj;cases hb:b[j]? with
    |none=>rw[hb]at hj;cases hj
    |some r'=>
     rw[hb]at hj;injection hj with hj;subst hj;obtain⟨_,P,pc,q2,q3⟩:=fH.out j r' (by have:=(axp.1 hb).1;have:=HL.out;omega) hb;exact⟨P,pc,q2,q3.ex (x0.trans he)⟩)
   go_wp2_with fail
   go_ret2
   rw[hvl]at HY;rw[adN,HY.out];exact⟨A7,c7,rfl,hf,x0.trans he⟩
theorem Yq{x:iK}(h:U6 p x=true):0<=x.l/\x.l<=12/\x.b.length<=12/\∀r∈x.b,x.l<=r.length/\0<r.length/\r.length<=12:=by obtain⟨h1,h2,h3,h4⟩:=rW.1 h;have h5:=Fz h2;have h6:=Jz h1 (IX (qH h3)) h4;exact⟨by omega,by omega,by omega,λr hr=>by have:=lD h3 r hr;have:=(h4.one r hr).1;omega⟩
theorem UN(n:Nat):∀(r:List aG),m_ (r.drop n)<=m_ r:=by
 induction n with
 |zero=>intro r;rw[List.drop_zero];exact aza _
 |succ n ih=>
  intro r;cases r with
  |nil=>exact aza _
  |cons x r=>rw[azI];have h1:=ih r;have h2:m_ (x::r)=EF.tot x+m_ r:=iQ EF x r;have h3:=EF.nn x;omega
theorem P8(n:Nat):∀(b:List (List aG)),eZ (b.map (List.drop n))<=eZ b:=by
 intro b
 induction b with
 |nil=>exact aza _
 |cons r b ih=>have h1:eZ ((r::b).map (List.drop n))=m_ (r.drop n)+eZ (b.map (List.drop n)):=iQ iX _ _;have h2:eZ (r::b)=m_ r+eZ b:=iQ iX _ _;have:=UN n r;omega
theorem UJ(n i:Nat)(hi:i<n)(hn:n<=1000)(w:World):
 Calls prog 66 #[.int .i64 n,.int .i64 i] w λe w'=>∃A c,e=.returned (.slice A n c)/\n<=c/\OX Jf 57 w' (λk=>w.heap.size<=k/\k<w'.heap.size) A (gY n i)/\Ex w w':=by
 go_enter Tryz.func66,Tryz.ntmps66
 go_wp2_with fail
 refine(gm n hn w).mono ?_;rintro e w2 ⟨v,rfl,⟨hnn,hge⟩,x2⟩;obtain⟨g0,c0,e0,hc0,_⟩:=hge.form hnn;rw[axH]at e0 hc0;subst e0;obtain⟨A2,c2,e2,_,o2⟩:=hge.ox (E':=Jf) (by simp;omega) rfl sO;rw[axH]at e2;injection e2 with e2 _ e3;subst e2 e3;obtain⟨g,off,vs,s,cur,eA,hS,hh,hc,ho,hs,hsg,K⟩:=o2.row (i:=i) (x:=zF) (by rw[ax3,axl hi]);injection eA with eA;injection eA with e4 e5;subst e4 e5;have hgl:=aF hh;have hS':w.heap.size<=g0/\g0<w2.heap.size:=hS;obtain⟨u0,u1,rfl,_⟩:=ho;have q0:=hc 0 u0 rfl;have q1:=hc 1 u1 rfl;simp only[show Jf.k=2 from rfl,axT,ayb]at q0 q1 K;have hz2:=x2.size;go_wp2_with fail
 refine(yg w2).mono ?_;rintro e w3 ⟨A3,c3,B3,d3,rfl,f3,p3,Uw,x3⟩;have hz3:=x3.size;have xf:=(dZ (x:=oF) f3 p3 Uw hz3).xf;have d3v:VB w3 g0 57 cur:=(x3.block hgl).trans hh;have r0:=af x3 q0;have r1:=af x3 q1;have k0:=d3v.frozen (i*2);have k1:=d3v.frozen (i*2+1);have T:jm g0 (i*2) (i*2+2) s 57 w2 ((w3.setCell ⟨g0,i*2,none⟩ (.slice A3 oF.n.length c3)).setCell ⟨g0,i*2+1,none⟩ (.slice B3 oF.d.length d3)):=(((jm.refl g0 (i*2) (i*2+2) s _ w2).ex x3 hgl).set (o:=i*2) (by omega) (by omega) _).set (o:=i*2+1) (by omega) (by omega) _;have dv:VB ((w3.setCell ⟨g0,i*2,none⟩ (.slice A3 oF.n.length c3)).setCell ⟨g0,i*2+1,none⟩ (.slice B3 oF.d.length d3)) g0 57 ((cur.setIfInBounds (i*2) (.slice A3 oF.n.length c3)).setIfInBounds (i*2+1) (.slice B3 oF.d.length d3)):=(d3v.bC _ _).bC _ _;have ajJ:i*2<cur.size:=by
  have:cur[i*2]?=some u0:=by simpa[World.cell?,hh]using q0
  exact(aye.1 this).1
 have ajI:i*2+1<cur.size:=by
  have:cur[i*2+1]?=some u1:=by simpa[World.cell?,hh]using q1
  exact(aye.1 this).1
 have C0:=dv.cell (i*2) (v:=.slice A3 oF.n.length c3) (by rw[Array.getElem?_setIfInBounds_ne (by omega),Array.getElem?_setIfInBounds_self_of_lt ajJ]);have C1:=dv.cell (i*2+1) (v:=.slice B3 oF.d.length d3) (by rw[Array.getElem?_setIfInBounds_self_of_lt (by simpa using ajI)]);have e1:aM g0 w3 ((w3.setCell ⟨g0,i*2,none⟩ (.slice A3 oF.n.length c3)).setCell ⟨g0,i*2+1,none⟩ (.slice B3 oF.d.length d3)):=((aM.refl g0 w3).setCell (p:=⟨g0,i*2,none⟩) rfl _).setCell (p:=⟨g0,i*2+1,none⟩) rfl _;have sz:((w3.setCell ⟨g0,i*2,none⟩ (.slice A3 oF.n.length c3)).setCell ⟨g0,i*2+1,none⟩ (.slice B3 oF.d.length d3)).heap.size=w3.heap.size:=by simp
 have E:Jf.O ((w3.setCell ⟨g0,i*2,none⟩ (.slice A3 oF.n.length c3)).setCell ⟨g0,i*2+1,none⟩ (.slice B3 oF.d.length d3)) (λk=>w2.heap.size<=k/\k<w3.heap.size) [.slice A3 oF.n.length c3,.slice B3 oF.d.length d3] oF:=⟨_,_,rfl,xf.keep λk hk hkl=>e1.block k hkl (λe=>by injection e with e;have:=hS'.2;have:=hk.1;omega)⟩;have R:=K _ (λk=>w.heap.size<=k/\k<w3.heap.size) (λk=>w2.heap.size<=k/\k<w3.heap.size) [.slice A3 oF.n.length c3,.slice B3 oF.d.length d3] oF T (λq u hq=>by
  rcases q with _|_|q
  .injection hq with hq;subst hq;exact C0
  .injection hq with hq;subst hq;exact C1
  .simp at hq) E (λk hk=> .inr hk.1) (λk _ hk=>⟨hk.1,by have:=hk.2;omega⟩) (λk hk=>⟨by have:=hk.1;omega,hk.2⟩)
 have eF:=(x2.trans x3).aK e1 hS'.1;clear K T dv C0 C1 E xf;go_wp2_with fail
 go_ret;exact⟨_,_,rfl,hc0,by rw[sz];exact R,eF⟩
theorem Gz(l rr:Int)(b:List (List aG))(A:Option Addr)(c:Nat)(w:World)(h:j_ w A b)(hlr:∀r∈b,l<=r.length/\0<r.length/\r.length<=12)(h12:b.length<=12)(hu:rfB l b=true->∀(k:Nat) (r:List aG),b[k]?=some r->r.take l.toNat=gY l.toNat k)(ht:eZ b<=1125899906842624):
 Calls prog 34 #[.agg #[.int .i64 l,.int .i64 rr,.slice A b.length c]] w λe w'=>∃y,e=.returned (.tuple #[y,.bool (Yy l b).2])/\OFF w' w.heap.size w'.heap.size y (Yy l b).1/\Ex w w':=by
 obtain⟨x0,v0⟩:=VB.xn w 28 #[.int .i64 l,.int .i64 rr,.slice A b.length c];by_cases hn:(b.length:Int)=l;case neg=>
  have HN:=axj (JB (l:=l) (b:=b) (λe=>hn (ve.1 e).1));have hnb:((b.length:Int) !=l)=true:=by simpa using hn
  clear hn;go_enter Tryz.func34,Tryz.ntmps34
  go_wp2_with fail
  go_ret2
  rw[HN.out];exact⟨_,rfl,⟨⟨none,0,λ_=>False,rfl,λk hk=>hk.elim,OX.nil _ _ _ _ _⟩,by show(0:Int)<=_;omega⟩,x0⟩
 subst hn;obtain⟨L,hL⟩:=xq b.length;have HL:=axj hL;have Hlr:=axj hlr;have H:=axj h;rw[hL]at v0 x0 hu⊢;rw[show((L:Int)).toNat=L from rfl]at hu;have Hu:=axj hu;have HT:=axj ht;clear hlr hL h hu ht;have aoB:L<=12:=by have:=HL.out;omega
 have hnb:((L:Int) !=(L:Int))=false:=by simp
 have S0:(w.alloc (.cells #[.int .i64 L,.int .i64 rr,.slice A L c] 28)).heap.size=w.heap.size+1:=by simp
 have y0:=((aCQ w).alloc (.cells #[.int .i64 L,.int .i64 rr,.slice A L c] 28)).alloc (.cells #[] 54);have p2a:=(v0.ex ((aCQ (w.alloc (.cells #[.int .i64 L,.int .i64 rr,.slice A L c] 28))).alloc (.cells #[] 54))).c2;go_enter Tryz.func34,Tryz.ntmps34
 go_wp2_with fail
 generalize w.alloc (.cells #[.int .i64 L,.int .i64 rr,.slice A L c] 28)=W0 at*;clear p2a y0;have zx:=x0.size;have p0:=v0.c0;have tX:=GE.empty Xc 54 W0 (axk W0.heap.size);have he1:=(aCQ W0).alloc (.cells #[] 54);have hs1:(W0.alloc (.cells #[] 54)).heap.size=W0.heap.size+1:=by simp
 go_loopw [4,17] (λo i wr=>∃k:Nat,k<=L/\i=.int .i64 k/\GE Xc 54 wr W0.heap.size wr.heap.size o ((b.take k).map (List.drop L))/\Hid (∀(j:Nat) (r:List aG),j<k->b[j]?=some r->bX r=j)/\Ex W0 wr) (λ_ i _=>L-(intOf i).toNat)
 case atStart=>exact⟨0,axq _,rfl,by rw[hs1,<-S0];exact tX,axj (λj r hj=>by omega),he1⟩
 case round=>
  rename World=>wi;clear tX he1 hs1 S0;obtain⟨k,hk,rfl,hge,fH,he⟩:=hrel;by_cases hlt:k<L
  .obtain⟨g,off,r,P,pc,eA,hr,b0,hpc,hP⟩:=H.out.at_ (j:=k) (by have:=HL.out;omega);subst eA;obtain⟨hr1,hr2,hr3⟩:=Hlr.out r (axo hr);have hrL:L<=r.length:=by have:=HL.out;omega
   obtain⟨g2,off2,y,_,_,_,_,eP,_⟩:=hP.iy hr2;subst eP;have b1:=af (x0.trans he) b0;have Hr:=axj hr;have hPd:=axj (hP.aaz L);have hPt:=hP.aio L;have htl:(r.take L).length=L:=by rw[axx];omega
   have hdl:(r.drop L).length=r.length-L:=axF;have HM:=axj (show(b.take (k+1)).map (List.drop L)=(b.take k).map (List.drop L)++[r.drop L] by rw[axy,hr,ax4];rfl);clear hr hr1 b0;have auL:L<=pc:=by omega
   have hS:∀W,Ex wi W->W.cell? ⟨w.heap.size,0,none⟩=some (.int .i64 L):=λW h=>af h (af he p0)
   have qA:=hS wi (aCQ _);have cEq:∀(A3:Option Addr) (c3:Nat) (W:World),Ex wi W->bW EF W A3 (gY L k)->Calls prog 63 #[.slice (some ⟨g2,off2,none⟩) L pc,.slice A3 L c3,.func (.func 64) #[] #[]] W λe w'=>∃b,e=.returned (.bool b)/\(b=true↔r.take L=gY L k)/\Ex W w':=λA3 c3 W hW hR=>by have:=Kw (some ⟨g2,off2,none⟩) A3 pc c3 (r.take L) (gY L k) W (hPt.ex ((x0.trans he).trans hW)) hR;rwa[htl,Ak]at this
   have cU:∀W,Calls prog 66 #[.int .i64 L,.int .i64 k] W λe w'=>∃A c,e=.returned (.slice A L c)/\L<=c/\OX Jf 57 w' (λk=>W.heap.size<=k/\k<w'.heap.size) A (gY L k)/\Ex W w':=λW=>UJ L k hlt (by omega) W
   obtain⟨RL,Fh⟩:=xq r.length;rw[Fh]at b1 hpc hr2 hr3 hrL hdl;by_cases huk:r.take L=gY L k
   .have Hld:=axj (JV hlt huk);have adI:∀(A3:Option Addr) (c3:Nat) (W:World),Ex wi W->bW EF W A3 (gY L k)->Calls prog 63 #[.slice (some ⟨g2,off2,none⟩) L pc,.slice A3 L c3,.func (.func 64) #[] #[]] W λe w'=>e=.returned (.bool true)/\Ex W w':=λA3 c3 W hW hR=>(cEq A3 c3 W hW hR).mono λe w' ⟨q,e1,e2,e3⟩=>by rw[e2.2 huk]at e1;exact⟨e1,e3⟩
    clear cEq huk Fh htl;have HK:=axj (show∀(j:Nat) (r':List aG),j<k+1->b[j]?=some r'->bX r'=j from λj r' hj hr'=>by
     by_cases e:j<k
     .exact fH.out j r' e hr'
     .obtain rfl:j=k:=by omega
      rw[Hr.out]at hr';injection hr' with hr';subst hr';exact Hld.out)
    have eA:=(aCQ wi).drew;go_wp2_with fail
    go_region_held3 (λW=>W.cell? ⟨w.heap.size,0,none⟩=some (.int .i64 L)) (first
     |(exact hS _ e5)|(exact hS _ e4)|(exact hS _ eA)|(exact hS _ (aCQ _))) (first
     |(go_at_call 66
       refine(cU wi.drew).mono ?_;rintro e w4 ⟨A4,c4,rfl,hc4,o4,x4⟩;have e4:Ex wi w4:=(aCQ wi).drew.trans x4)
     |(go_at_call 63
       refine(adI A4 c4 w4 e4 (o4.JC rfl Bg)).mono ?_;rintro e w5 ⟨rfl,x5⟩;have e5:=e4.trans x5))
    all_goals
     have qB:=hS _ e5;clear adI cU hS qA;by_cases hpl:pc-L=0
     .have Wm:=axj (show bW EF w (some ⟨g2,off2,none⟩) (r.drop L) by
       have:r.drop L=[]:=ayp (by rw[hdl];omega);rw[this];exact⟨by simp,λj x hj=>by simp at hj⟩)
      have cC:Calls prog 67 #[.slice (some ⟨g2,off2,none⟩) (RL-L) (0)] w5 λe w'=>∃v,e=.returned v/\O4 w' w5.heap.size w'.heap.size v (r.drop L)/\Ex w5 w':=by have:=mP (some ⟨g2,off2,none⟩) (0) (r.drop L) w5 (Wm.out.ex ((x0.trans he).trans e5));rwa[hdl]at this
      go_wp2_with fail
      refine cC.mono ?_;rintro e w6 ⟨v6,rfl,r6,x6⟩;obtain⟨A6,c6,ev⟩:=r6.2.kH;rw[hdl]at ev;subst ev;obtain⟨v',w',hrun,hge',_,_,hE⟩:=qz (hge.ex (e5.trans x6)) (e5.trans x6).size r6.2 (by rw[hdl];omega) e5.size x6.size (axk _) he.size (by simp;omega);rw[<-HM.out]at hge';have xw:=hE W0 (he.trans (e5.trans x6)) (axk _);clear hE hge cC r6 hdl;go_wp2_with (at_builtin;refine wpList_append_run rfl _ _ _ rfl rfl rfl hrun ?_)
      go_roundw;case rel=>exact⟨k+1,by omega,by go_num,hge',HK,xw⟩
      case measure=>simp[intOf];omega
     .have cC:Calls prog 67 #[.slice (some ⟨g2,off2+L*2,none⟩) (RL-L) (pc-L)] w5 λe w'=>∃v,e=.returned v/\O4 w' w5.heap.size w'.heap.size v (r.drop L)/\Ex w5 w':=by
       have:=mP (some ⟨g2,off2+L*2,none⟩) (pc-L) (r.drop L) w5 (hPd.out.ex ((x0.trans he).trans e5));rwa[hdl]at this
      go_wp2_with fail
      refine cC.mono ?_;rintro e w6 ⟨v6,rfl,r6,x6⟩;obtain⟨A6,c6,ev⟩:=r6.2.kH;rw[hdl]at ev;subst ev;obtain⟨v',w',hrun,hge',_,_,hE⟩:=qz (hge.ex (e5.trans x6)) (e5.trans x6).size r6.2 (by rw[hdl];omega) e5.size x6.size (axk _) he.size (by simp;omega);rw[<-HM.out]at hge';have xw:=hE W0 (he.trans (e5.trans x6)) (axk _);clear hE hge cC r6 hdl;go_wp2_with (at_builtin;refine wpList_append_run rfl _ _ _ rfl rfl rfl hrun ?_)
      go_roundw;case rel=>exact⟨k+1,by omega,by go_num,hge',HK,xw⟩
      case measure=>simp[intOf];omega
   .have HN:=axj (JB (l:=(L:Int)) (b:=b) (λe=>huk (Hu.out e k r Hr.out)));have adI:∀(A3:Option Addr) (c3:Nat) (W:World),Ex wi W->bW EF W A3 (gY L k)->Calls prog 63 #[.slice (some ⟨g2,off2,none⟩) L pc,.slice A3 L c3,.func (.func 64) #[] #[]] W λe w'=>e=.returned (.bool false)/\Ex W w':=λA3 c3 W hW hR=>(cEq A3 c3 W hW hR).mono λe w' ⟨q,e1,e2,e3⟩=>by
     cases q with
     |true=>exact absurd (e2.1 rfl) huk
     |false=>exact⟨e1,e3⟩
    clear cEq huk Fh htl;have eA:=(aCQ wi).drew;go_wp2_with fail
    go_region_held3 (λW=>W.cell? ⟨w.heap.size,0,none⟩=some (.int .i64 L)) (first
     |(exact hS _ e5)|(exact hS _ e4)|(exact hS _ eA)|(exact hS _ (aCQ _))) (first
     |(go_at_call 66
       refine(cU wi.drew).mono ?_;rintro e w4 ⟨A4,c4,rfl,hc4,o4,x4⟩;have e4:Ex wi w4:=(aCQ wi).drew.trans x4)
     |(go_at_call 63
       refine(adI A4 c4 w4 e4 (o4.JC rfl Bg)).mono ?_;rintro e w5 ⟨rfl,x5⟩;have e5:=e4.trans x5))
    all_goals
     go_wp2_with fail
     go_ret2
     rw[HN.out];exact⟨_,rfl,⟨⟨none,0,λ_=>False,rfl,λk hk=>hk.elim,OX.nil _ _ _ _ _⟩,by show(0:Int)<=_;omega⟩,(x0.trans he).trans e5⟩
  .obtain rfl:k=L:=by omega
   have HY:=axj (S9 (l:=(k:Int)) (b:=b) (ve.2 ⟨by rw[HL.out],λi r hr=>fH.out i r (by have:=(axp.1 hr).1;have:=HL.out;omega) hr⟩));have hbk:b.take k=b:=axG (by rw[HL.out];exact axk _);rw[hbk]at hge;have hO:=hge.off (by rw[axs,HL.out];omega) (Int.le_trans (P8 k b) HT.out);clear hbk;go_wp2_with fail
   go_ret2
   rw[HY.out];exact⟨_,rfl,hO.more zx (axk _),x0.trans he⟩
def GY(r:List aG):Bool:=r.all λx=>wT x.d
def icB(q:List (List aG)×Bool):Bool:=q.2&&q.1.all GY
def icU(p:Int)(t:Tm):Bool×Bool:=if(bF p t).2=true then(icB (Yy (bF p t).1.l (bF p t).1.b),true)else(false,false)
theorem ZC{t:Tm}(h:(bF p t).2=false):icU p t=(false,false):=axm (by rw[h];decide)
theorem TN{t:Tm}(h:(bF p t).2=true):icU p t=(icB (Yy (bF p t).1.l (bF p t).1.b),true):=axl h
theorem Du{α:Type}{f:α->Bool}{l:List α}{k:Nat}{x:α}(h:l[k]?=some x):(l.take (k+1)).all f=((l.take k).all f&&f x):=by rw[axy,h,ayK];simp
theorem agX{t:Tm}(h:(bF p t).2=true):U6 p (bF p t).1=true:=by
 cases hok:sZ p t.ns with
 |false=>rw[Dp hok]at h;cases h
 |true=>
  have hF:av p=true:=by have:=hok;unfold sZ at this;rw[axU]at this;exact this.1
  cases hq:qg p t.ns with
  |none=>rw[nM hq]at h;cases h
  |some q=>
   rw[wo hok hq]at h⊢;by_cases hv:SG p q.l q.r q.b=true
   .rw[axl hv];exact(Um hF hok hq).trans hv
   .rw[axm hv]at h;cases h
theorem Ox{t:Tm}(h:(bF p t).2=true):(bF p t).1.b.length<=12/\(∀r∈(bF p t).1.b,(bF p t).1.l<=r.length/\0<r.length/\r.length<=12)/\(∀r∈(Yy (bF p t).1.l (bF p t).1.b).1,∀x∈r,0<x.d.length)/\
 (rfB (bF p t).1.l (bF p t).1.b=true->∀(k:Nat) (r:List aG),(bF p t).1.b[k]?=some r->r.take (bF p t).1.l.toNat=gY (bF p t).1.l.toNat k):=by
 have h0:=agX h;have h1:=Yq h0;refine⟨h1.2.2.1,h1.2.2.2,λr hr x hx=>?_,λhb k r hr=>?_⟩
 .obtain⟨_,_,h3,_⟩:=rW.1 h0;unfold Yy at hr;split at hr
  .obtain⟨r0,hr0,rfl⟩:=axr.1 hr;have:=(uN ((xC h3 r0 hr0).2 x (ayM hx))).2.2.2.2.2.1;exact axB.2 this
  .cases hr
 .obtain⟨h4,h2,h3,h5⟩:=rW.1 h0;obtain⟨q1,q2⟩:=ve.1 hb;have h6:=Fz h2;exact Jk (IX (qH h3)) h5 (by omega) (by omega) q2 hr
theorem Ar(p:Int)(a:Tm)(v0:Value)(w:World)(ha:CP w v0 a):
 Calls prog 17 #[.int .i64 p,.agg #[v0]] w λe w'=>e=.returned (.tuple #[.bool (icU p a).1,.bool (icU p a).2])/\Ex w w':=by
 obtain⟨A,n,c,rfl⟩:=ha.form;have cA:=λ(W:World) (y:Ex w W)=>iH p a _ W (ha.ex y)
 have HW:=λq=>Ox (p:=p) (t:=a) q
 have HY:=λq=>TN (p:=p) (t:=a) q
 have HN:=λq=>ZC (p:=p) (t:=a) q
 clear ha;generalize bF p a=RA at*;generalize icU p a=E at*;obtain⟨⟨al,ar,ab⟩,ao⟩:=RA;dsimp only at HW HY HN cA;replace HW:=axj HW;replace HY:=axj HY;replace HN:=axj HN;obtain⟨x0,d0,W0,hW0⟩:=VB.al w 33 #[.slice A n c];rw[hW0]at x0 d0;have q0:=d0.c0;go_enter Tryz.func17,Tryz.ntmps17
 go_wp2_with fail
 refine(cA W0 x0).mono ?_;clear cA q0;rintro e w1 ⟨y0,rfl,⟨_,A1,c1,rfl,r1⟩,y1⟩;dsimp only at r1⊢;obtain⟨x2,d2,W2,hW2⟩:=VB.al w1 28 #[.int .i64 al,.int .i64 ar,.slice A1 ab.length c1];rw[hW2]at x2 d2;have X2:=(x0.trans y1).trans x2;obtain⟨p0,p1,p2⟩:=d2.d3;cases ao with
 |false=>
  replace HN:=axj (HN.out rfl);go_wp2_with fail
  go_ret2
  rw[HN.out];exact⟨rfl,X2⟩
 |true=>
  replace HY:=axj (HY.out rfl);obtain⟨h12,hlr,hpos,_⟩:=HW.out rfl;have hcall:=Yk al ar ab A1 c1 W2 (r1.ex x2) hlr h12;have Hpos:=axj hpos;clear hpos hlr HW HN;generalize Yy al ab=Q at*;obtain⟨rows,ok⟩:=Q;go_wp2_with fail
  refine hcall.mono ?_;clear hcall;rintro e w3 ⟨A3,c3,rfl,h3,x3⟩;dsimp only at h3 Hpos⊢;have X3:=X2.trans x3;have hl3:=h3.1;go_wp2_with fail
  go_loopw [9,29] (λo i wr=>∃(k:Nat) (b:Bool),k<=rows.length/\i=.int .i64 k/\o=.bool b/\Hid (b=(ok&&(rows.take k).all GY))/\Ex w3 wr) (λ_ i _=>rows.length-(intOf i).toNat)
  case atStart=>exact⟨0,ok,axq _,rfl,rfl,axj (by simp),aCQ _⟩
  case round=>
   rename World=>wi;obtain⟨k,b,hk,rfl,rfl,Hb,he⟩:=hrel;by_cases hlt:k<rows.length
   .obtain⟨g,off,x,v,rfl,hx,c0,hv⟩:=(h3.ex he).jf hlt;obtain⟨P,pc,rfl,hP⟩:=hv.form;have HX:=axj hx;have Hd:=axj (Hpos.out x (axo hx));have hPl:=hP.1;clear hx hv;go_wp2_with fail
    go_loopw [9,35] (λo i wr=>∃(m:Nat) (b:Bool),m<=x.length/\i=.int .i64 m/\o=.bool b/\Hid (b=((ok&&(rows.take k).all GY)&&(x.take m).all λx=>wT x.d))/\Ex wi wr) (λ_ i _=>x.length-(intOf i).toNat)
    case atStart=>exact⟨0,b,axq _,rfl,rfl,axj (by rw[Hb.out];simp),aCQ _⟩
    case round=>
     rename World=>wj;obtain⟨m,b,hm,rfl,rfl,Hm,hj⟩:=hrel;by_cases hmt:m<x.length
     .obtain⟨g1,o1,u,U,uc,Z,zc,rfl,hu,a0,a1,hU,hZ⟩:=(hP.ex hj).iy hmt;have Hu:=axj hu;have hd:=Hd.out u (axo hu);clear hu;obtain⟨yV,dV,V,hV⟩:=VB.al wj 57 #[.slice U u.n.length uc,.slice Z u.d.length zc];rw[hV]at yV dV;obtain⟨b0,b1⟩:=dV.d2;have hcall:=Qd U Z uc zc u.n u.d V (hU.ex yV) (hZ.ex yV) hd;have hs:=axj (Du (f:=λx:aG=>wT x.d) Hu.out);cases b with
      |false=>
       go_wp2_with fail
       go_roundw;case rel=>exact⟨m+1,_,by omega,by go_num,rfl,axj (by rw[hs.out,<-Bool.and_assoc,<-Hm.out];rfl),hj.trans yV⟩
       case measure=>simp[intOf];omega
      |true=>
       go_wp2_with fail
       refine hcall.mono ?_;rintro e w4 ⟨rfl,x4⟩;go_wp2_with fail
       go_roundw;case rel=>exact⟨m+1,_,by omega,by go_num,rfl,axj (by rw[hs.out,<-Bool.and_assoc,<-Hm.out];rfl),(hj.trans yV).trans x4⟩
       case measure=>simp[intOf];omega
     .obtain rfl:m=x.length:=by omega
      go_wp2_with fail
      go_roundw;case rel=>exact⟨k+1,b,by omega,by go_num,rfl,axj (by rw[Du HX.out,<-Bool.and_assoc,Hm.out,axE];rfl),he.trans hj⟩
      case measure=>simp[intOf];omega
   .obtain rfl:k=rows.length:=by omega
    have HE:=axj (show icB (rows,ok)=b by rw[Hb.out,axE];rfl);go_wp2_with fail
    go_ret2
    rw[HY.out,HE.out];exact⟨rfl,X3.trans he⟩
theorem Nb(A B:Option Addr)(c d:Nat)(x:aG)(w:World)(hn:Rd w A x.n)(hd:Rd w B x.d)(hp:0<x.d.length):
 Calls prog 36 #[.agg #[.slice A x.n.length c,.slice B x.d.length d]] w λe w'=>e=.returned (.bool (!wT x.d))/\Ex w w':=by
 have x0:=(aCQ w).alloc (.cells #[.slice A x.n.length c,.slice B x.d.length d] 57);have hz:=Q8 A B c d x.n x.d (w.alloc (.cells #[.slice A x.n.length c,.slice B x.d.length d] 57)) (hn.ex x0) (hd.ex x0) hp;go_enter Tryz.func36,Tryz.ntmps36
 go_wp2_with fail
 refine hz.mono ?_;rintro e w1 ⟨rfl,x1⟩;go_wp2_with fail
 go_ret;exact⟨rfl,x0.trans x1⟩
theorem VR(A:Option Addr)(c:Nat)(xs:List aG)(w:World)(h:bW EF w A xs)(hp:∀x∈xs,0<x.d.length):
 Calls prog 68 #[.slice A xs.length c,.func (.func 36) #[] #[]] w λe w'=>∃i,e=.returned (.int .i64 i)/\decide (0<=i)=(!GY xs)/\Ex w w':=by
 have hl:=h.1;have eg:∀args w,(callFunc 36 args).run prog w=.ok (.enter 36 args) w:=enters_of Tryz.func36 (by kernel_rfl) rfl;have Hp:=axj hp;clear hp;go_enter Tryz.func68,Tryz.ntmps68
 go_wp2_with fail
 go_loopw [8] (λi wr=>∃k:Nat,k<=xs.length/\i=.int .i64 k/\Hid (GY (xs.take k)=true)/\Ex w wr) (λi _=>xs.length-(intOf i).toNat)
 case atStart=>exact⟨0,axq _,rfl,axj rfl,aCQ _⟩
 case round=>
  obtain⟨k,hk,rfl,Hz,he⟩:=hrel;by_cases hlt:k<xs.length
  .obtain⟨g,off,x,P,pc,Q,qc,rfl,hx,c0,c1,hP,hQ⟩:=(h.ex he).iy hlt;have Hx:=axj hx;have hz:=Nb P Q pc qc x wr hP hQ (Hp.out x (axo hx));clear hx;cases hb:wT x.d with
   |true=>
    have Hb:=axj hb;rw[hb]at hz;clear hb;go_wp2_with fail
    refine hz.mono ?_;rintro e w1 ⟨rfl,x1⟩;go_wp2_with fail
    go_roundw;case rel=>exact⟨k+1,by omega,by go_num,axj (by
     have:=Du (f:=λx:aG=>wT x.d) Hx.out;rw[Hb.out,Bool.and_true]at this;exact this.trans Hz.out),he.trans x1⟩
    case measure=>simp[intOf];omega
   |false=>
    have HL:=axj (show GY xs=false from ayJ.2 ⟨x,axo Hx.out,by rw[hb];decide⟩);rw[hb]at hz;clear hb;go_wp2_with fail
    refine hz.mono ?_;rintro e w1 ⟨rfl,x1⟩;go_wp2_with fail
    go_ret;exact⟨k,rfl,by rw[HL.out];exact decide_eq_true (by omega),he.trans x1⟩
  .obtain rfl:k=xs.length:=by omega
   have HL:=axj (show GY xs=true by have:=Hz.out;rwa[axE]at this);go_wp2_with fail
   go_ret;exact⟨-1,rfl,by rw[HL.out];rfl,he⟩
theorem WI(A:Option Addr)(c:Nat)(xs:List aG)(w:World)(h:bW EF w A xs)(hp:∀x∈xs,0<x.d.length):
 Calls prog 35 #[.slice A xs.length c,.func (.func 36) #[] #[]] w λe w'=>e=.returned (.bool (!GY xs))/\Ex w w':=by
 have hl:=h.1;have hi:=VR A c xs w h hp;go_enter Tryz.func35,Tryz.ntmps35
 go_wp2_with fail
 refine hi.mono ?_;rintro e w1 ⟨i,rfl,h1,x1⟩;clear hi;go_wp2_with fail
 go_ret;exact⟨aI (by rw[<-h1]),x1⟩
theorem Gl(p:Int)(a:Tm)(v0:Value)(w:World)(ha:CP w v0 a)(ht:Tb w):
 Calls prog 18 #[.int .i64 p,.agg #[v0]] w λe w'=>e=.returned (.tuple #[.bool (icU p a).1,.bool (icU p a).2])/\Ex w w':=by
 obtain⟨A,n,c,rfl⟩:=ha.form;have cA:=λ(W:World) (y:Ex w W)=>iC p a _ W (ha.ex y) (ht.ex y)
 have HT:=axj (FM p a);have HW:=λq=>Ox (p:=p) (t:=a) q
 have HY:=λq=>TN (p:=p) (t:=a) q
 have HN:=λq=>ZC (p:=p) (t:=a) q
 clear ha ht;generalize bF p a=RA at*;generalize icU p a=E at*;obtain⟨⟨al,ar,ab⟩,ao⟩:=RA;dsimp only at HW HY HN HT cA;replace HW:=axj HW;replace HY:=axj HY;replace HN:=axj HN;obtain⟨x0,d0,W0,hW0⟩:=VB.al w 33 #[.slice A n c];rw[hW0]at x0 d0;have q0:=d0.c0;go_enter Tryz.func18,Tryz.ntmps18
 go_wp2_with fail
 refine(cA W0 x0).mono ?_;clear cA q0;rintro e w1 ⟨y0,rfl,o1,y1⟩;obtain⟨_,A1,c1,rfl,r1⟩:=o1.Da;dsimp only at r1⊢;obtain⟨x2,d2,W2,hW2⟩:=VB.al w1 28 #[.int .i64 al,.int .i64 ar,.slice A1 ab.length c1];rw[hW2]at x2 d2;have X2:=(x0.trans y1).trans x2;obtain⟨p0,p1,p2⟩:=d2.d3;cases ao with
 |false=>
  replace HN:=axj (HN.out rfl);go_wp2_with fail
  go_ret2
  rw[HN.out];exact⟨rfl,X2⟩
 |true=>
  replace HY:=axj (HY.out rfl);obtain⟨h12,hlr,hpos,hu⟩:=HW.out rfl;have hcall:=Gz al ar ab A1 c1 W2 (r1.ex x2) hlr h12 hu HT.out;have Hpos:=axj hpos;clear hpos hlr HW HN hu;generalize Yy al ab=Q at*;obtain⟨rows,ok⟩:=Q;go_wp2_with fail
  refine hcall.mono ?_;clear hcall;rintro e w3 ⟨y,rfl,o3,x3⟩;obtain⟨⟨A3,c3,rfl,h3⟩,_⟩:=o3.rd;dsimp only at h3 Hpos⊢;have X3:=X2.trans x3;have hl3:=h3.1;cases ok with
  |false=>
   have HE:=axj (show icB (rows,false)=false from rfl);go_wp2_with fail
   go_ret2
   rw[HY.out,HE.out];exact⟨rfl,X3⟩
  |true=>
   go_wp2_with fail
   go_loopw [28] (λi wr=>∃k:Nat,k<=rows.length/\i=.int .i64 k/\Hid ((rows.take k).all GY=true)/\Ex w3 wr) (λi _=>rows.length-(intOf i).toNat)
   case atStart=>exact⟨0,axq _,rfl,axj rfl,aCQ _⟩
   case round=>
    rename World=>wi;obtain⟨k,hk,rfl,Hb,he⟩:=hrel;by_cases hlt:k<rows.length
    .obtain⟨g,off,x,v,rfl,hx,c0,hv⟩:=(h3.ex he).jf hlt;obtain⟨P,pc,rfl,hP⟩:=hv.form;have HX:=axj hx;have hcall:=WI P pc x wi hP (Hpos.out x (axo hx));clear hx hv;cases hb:GY x with
     |true=>
      have HB:=axj hb;rw[hb]at hcall;clear hb;go_wp2_with fail
      refine hcall.mono ?_;rintro e w4 ⟨rfl,x4⟩;go_wp2_with fail
      go_roundw;case rel=>exact⟨k+1,by omega,by go_num,axj (by rw[Du HX.out,Hb.out,HB.out];rfl),he.trans x4⟩
      case measure=>simp[intOf];omega
     |false=>
      have HE:=axj (show icB (rows,true)=false from(ayr _).trans (ayJ.2 ⟨x,axo HX.out,by rw[hb];decide⟩));rw[hb]at hcall;clear hb;go_wp2_with fail
      refine hcall.mono ?_;rintro e w4 ⟨rfl,x4⟩;go_wp2_with fail
      go_ret2
      rw[HY.out,HE.out];exact⟨rfl,(X3.trans he).trans x4⟩
    .obtain rfl:k=rows.length:=by omega
     have HE:=axj (show icB (rows,true)=true by have:=Hb.out;rw[axE]at this;exact(ayr _).trans this);go_wp2_with fail
     go_ret2
     rw[HY.out,HE.out];exact⟨rfl,X3.trans he⟩
end Go.Proofs.YthgiffhlfcmgaaaGreatDoor
