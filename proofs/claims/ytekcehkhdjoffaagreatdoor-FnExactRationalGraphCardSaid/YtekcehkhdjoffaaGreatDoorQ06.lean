/- Lemmas and walks on terms over rational functions: Rational rows that are turned in place: memory .. -/
import Derived.Test.YtekcehkhdjoffaaGreatDoorQ05
import Derived.Deep.RegionLaw
import Derived.Deep.LoopGhost
import Derived.Deep.Cut
import Derived.Deep.CutRange
import Derived.Shelf.Abstract
namespace Go.Proofs.YtekcehkhdjoffaaGreatDoor
open List(replicate)
open _root_.Go.Proofs.Tryz(prog)
set_option maxRecDepth 100000
set_option maxHeartbeats 8000000
set_option linter.all false
open Go Go.RowKit
variable{x:aF}{p:Int}{Z rows:List (List aF)}{bs bs':List (Option Nat)}{v xs z:List aF}{l:List Int}{B G G' H L M b c d i k m n q r:Nat}{R:Nat->Nat->Prop}{K S T:Nat->Prop}{A:Option Addr}{ob:Option Nat}{α:Type}{v0:Value}{w w' w1:World}
theorem Rd.XA{xs:List Int}(h:Rd w A xs)(k:bn S w w')(hd:xs≠[]->∀a,A=some a->¬S a.block):Rd w' A xs:=by
 by_cases hx:xs=[]
 .subst hx;exact Rd.nil _ _
 .exact h.keep λa e hl=>k.block _ hl (hd hx a e)
def RX(w:World)(S:Nat->Prop)(A:Option Addr)(l:List Int):Prop:=Rd w A l/\(l≠[]->∀a,A=some a->¬S a.block)
theorem RX.sx(h:RX w S A l)(k:bn T w w')(hT:∀i,T i->S i):RX w' S A l:=⟨h.1.XA k λhn a e ht=>h.2 hn a e (hT _ ht),h.2⟩
theorem RX.ex(h:RX w S A l)(k:Ex w w'):RX w' S A l:=⟨h.1.ex k,h.2⟩
theorem Fr.rx(h:Fr w B A c l)(hS:∀k,S k->k<B):RX w S A l:=⟨h.rd,λ_ a e hs=>by have:=h.hi a e;have:=hS _ hs;omega⟩
def oC(w:World)(S:Nat->Prop)(b:Nat)(xs:List aF):Prop:=
 ∃cur:Array Value,w.heap[b]?=some (.cells cur 51 (0,0))/\∀(i:Nat) (x:aF),xs[i]?=some x->∃A c B d,cur[i*2]?=some (.slice A x.n.length c)/\cur[i*2+1]?=some (.slice B x.d.length d)/\RX w S A x.n/\RX w S B x.d
theorem oC.lt(h:oC w S b xs):b<w.heap.size:=by obtain⟨_,h,_⟩:=h;exact aC h
theorem oC.at_(h:oC w S b xs)(hi:xs[i]?=some x):
 ∃A c B d,w.cell? ⟨b,i*2,none⟩=some (.slice A x.n.length c)/\w.cell? ⟨b,i*2+1,none⟩=some (.slice B x.d.length d)/\RX w S A x.n/\RX w S B x.d:=by
 obtain⟨cur,hc,hx⟩:=h;obtain⟨A,c,B,d,h1,h2,h3,h4⟩:=hx i x hi;exact⟨A,c,B,d,by simp[World.cell?,hc,h1],by simp[World.cell?,hc,h2],h3,h4⟩
theorem oC.frozen(h:oC w S b xs)(i:Nat):w.frozen? ⟨b,i,none⟩=false:=by obtain⟨cur,hc,_⟩:=h;simp[World.frozen?,hc]
theorem oC.sx(h:oC w S b xs)(k:bn T w w')(hT:∀i,T i->S i)(hb:¬T b):oC w' S b xs:=by have hl:=h.lt;obtain⟨cur,hc,hx⟩:=h;refine⟨cur,(k.block b hl hb).trans hc,λi x hi=>?_⟩;obtain⟨A,c,B,d,h1,h2,h3,h4⟩:=hx i x hi;exact⟨A,c,B,d,h1,h2,h3.sx k hT,h4.sx k hT⟩
theorem oC.ex(h:oC w S b xs)(k:Ex w w'):oC w' S b xs:=h.sx (bn.aN (S:=λ_=>False) k) (λ_ h=>h.elim) id
theorem oC.put(h:oC w S b xs)(hb:S b)(i:Nat)(x:aF){B:Option Addr}(hA:RX w S A x.n)(hB:RX w S B x.d):
 oC ((w.setCell ⟨b,i*2,none⟩ (.slice A x.n.length c)).setCell ⟨b,i*2+1,none⟩ (.slice B x.d.length d)) S b (xs.set i x):=by
 have k:bn (λz=>z=b) w ((w.setCell ⟨b,i*2,none⟩ (.slice A x.n.length c)).setCell ⟨b,i*2+1,none⟩ (.slice B x.d.length d)):=
  bn.a_ (((aJ.refl b w).setCell (p:=⟨b,i*2,none⟩) rfl _).setCell (p:=⟨b,i*2+1,none⟩) rfl _) rfl
 have hT:∀z,z=b->S z:=λz e=>e▸hb
 obtain⟨cur,hc,hx⟩:=h;refine⟨(cur.setIfInBounds (i*2) (.slice A x.n.length c)).setIfInBounds (i*2+1) (.slice B x.d.length d),by simp[World.setCell,aoa,hc],λj y hj=>?_⟩;rw[ang]at hj;split at hj
 .rename_i e;subst e;split at hj
  .rename_i hl;injection hj with hj;subst hj;obtain⟨A',c',B',d',h1,h2,_⟩:=hx i _ (am0 hl);have l1:i*2<cur.size:=(an9.1 h1).1;have l2:i*2+1<cur.size:=(an9.1 h2).1;refine⟨A,c,B,d,?_,?_,hA.sx k hT,hB.sx k hT⟩
   .rw[anI,amZ (by omega),anI,amY rfl,amY l1]
   .rw[anI,amY rfl,amY (by simpa using l2)]
  .cases hj
 .rename_i e;obtain⟨A',c',B',d',h1,h2,h3,h4⟩:=hx j y hj;refine⟨A',c',B',d',?_,?_,h3.sx k hT,h4.sx k hT⟩
  .rw[anI,amZ (by omega),anI,amZ (by omega)];exact h1
  .rw[anI,amZ (by omega),anI,amZ (by omega)];exact h2
def Ow(w:World)(S:Nat->Prop)(R:Nat->Nat->Prop):Prop:=
 ∀(b o:Nat) (a:Addr) (n c:Nat),R b o->w.cell? ⟨b,o,none⟩=some (.slice (some a) n c)->
  (¬S a.block/\n<=c/\∃cur,w.heap[a.block]?=some (.cells cur 3 (0,0)))/\
   ∀(b' o':Nat) (a':Addr) (n' c':Nat),R b' o'->w.cell? ⟨b',o',none⟩=some (.slice (some a') n' c')->a'.block=a.block->b'=b/\o'=o
theorem Ow.sx(h:Ow w S R)(hR:∀b o,R b o->b<w.heap.size)(k:bn T w w')(hTS:∀i,T i->S i)(hTR:∀i o,T i->¬R i o):Ow w' S R:=by
 have hc:∀(b o:Nat),R b o->w'.cell? ⟨b,o,none⟩=w.cell? ⟨b,o,none⟩:=λb o hb=>
  anm (w:=w) (a:=⟨b,o,none⟩) (k.block b (hR b o hb) (λht=>hTR b o ht hb))
 intro b o a n c hb he;rw[hc b o hb]at he;obtain⟨⟨h1,h2,cur,h3⟩,h4⟩:=h b o a n c hb he;refine⟨⟨h1,h2,cur,(k.block _ (aC h3) (λht=>h1 (hTS _ ht))).trans h3⟩,λb' o' a' n' c' hb' he' e=>?_⟩;rw[hc b' o' hb']at he';exact h4 b' o' a' n' c' hb' he' e
theorem Ow.Qa{m:List Int}{B:Option Addr}(h:Ow w S R)(hR:∀z o,R z o->z<w.heap.size)(hS:∀z,S z->z<w.heap.size)(he:Ex w w1)
 (hA:Fr w1 w.heap.size A c l) (hB:Fr w1 w.heap.size B d m) (hAB:Apart A B) (hbS:S b) {u v:Value} (c0:w1.cell? ⟨b,i*2,none⟩=some u) (c1:w1.cell? ⟨b,i*2+1,none⟩=some v):
 Ow ((w1.setCell ⟨b,i*2,none⟩ (.slice A l.length c)).setCell ⟨b,i*2+1,none⟩ (.slice B m.length d)) S R:=by
 have h1:Ow w1 S R:=h.sx hR (bn.aN (S:=λ_=>False) he) (λ_ h=>h.elim) (λ_ _ h=>h.elim);have k:bn (λz=>z=b) w1 ((w1.setCell ⟨b,i*2,none⟩ (.slice A l.length c)).setCell ⟨b,i*2+1,none⟩ (.slice B m.length d)):=
  bn.a_ (((aJ.refl b w1).setCell (p:=⟨b,i*2,none⟩) rfl _).setCell (p:=⟨b,i*2+1,none⟩) rfl _) rfl
 have old:∀(b' o':Nat) (a:Addr) (n cc:Nat),R b' o'->w1.cell? ⟨b',o',none⟩=some (.slice (some a) n cc)->a.block<w.heap.size:=λb' o' a n cc hb' e=>by rw[anm (w:=w) (a:=⟨b',o',none⟩) (he.block (hR b' o' hb'))]at e;obtain⟨⟨_,_,cur,h3⟩,_⟩:=h b' o' a n cc hb' e;exact aC h3
 obtain⟨w2,hw2⟩:=xq ((w1.setCell ⟨b,i*2,none⟩ (.slice A l.length c)).setCell ⟨b,i*2+1,none⟩ (.slice B m.length d));have at0:w2.cell? ⟨b,i*2,none⟩=some (.slice A l.length c):=by rw[<-hw2,aom _ _ _ _ (by intro e;injection e;omega),World.cell?_setCell_same _ _ _ c0]
 have at1:w2.cell? ⟨b,i*2+1,none⟩=some (.slice B m.length d):=by
  have c2:(w1.setCell ⟨b,i*2,none⟩ (.slice A l.length c)).cell? ⟨b,i*2+1,none⟩=some v:=by rw[aom _ _ _ _ (by intro e;injection e;omega)];exact c1
  rw[<-hw2];exact World.cell?_setCell_same _ _ _ c2
 have atn:∀(b' o':Nat),¬(b'=b/\o'=i*2)->¬(b'=b/\o'=i*2+1)->w2.cell? ⟨b',o',none⟩=w1.cell? ⟨b',o',none⟩:=λb' o' n0 n1=>by rw[<-hw2,aom _ _ _ _ (by intro e;injection e with e1 e2;exact n1 ⟨e1.symm,e2.symm⟩),aom _ _ _ _ (by intro e;injection e with e1 e2;exact n0 ⟨e1.symm,e2.symm⟩)]
 rw[hw2]at k⊢;have kind:∀(b' o':Nat) (a:Addr) (n cc:Nat),R b' o'->w2.cell? ⟨b',o',none⟩=some (.slice (some a) n cc)->
  ((b'=b/\o'=i*2/\A=some a/\n=l.length/\cc=c)∨(b'=b/\o'=i*2+1/\B=some a/\n=m.length/\cc=d))∨(w1.cell? ⟨b',o',none⟩=some (.slice (some a) n cc)/\a.block<w.heap.size):=λb' o' a n cc hb' e=>by
  by_cases n0:b'=b/\o'=i*2
  .obtain⟨rfl,rfl⟩:=n0;rw[at0]at e;injection e with e;injection e with e1 e2 e3;exact .inl (.inl ⟨rfl,rfl,e1,e2.symm,e3.symm⟩)
  by_cases n1:b'=b/\o'=i*2+1
  .obtain⟨rfl,rfl⟩:=n1;rw[at1]at e;injection e with e;injection e with e1 e2 e3;exact .inl (.inr ⟨rfl,rfl,e1,e2.symm,e3.symm⟩)
  rw[atn b' o' n0 n1]at e;exact .inr ⟨e,old b' o' a n cc hb' e⟩
 have fresh:∀{C:Option Addr} {cc:Nat} {q:List Int} {a:Addr},Fr w1 w.heap.size C cc q->C=some a->¬S a.block/\w.heap.size<=a.block/\q.length<=cc/\∃cur,w2.heap[a.block]?=some (.cells cur 3 (0,0)):=λ{C cc q a} hC e=>by obtain⟨g1,cur,g2⟩:=hC.2.2 a e;refine⟨λhs=>by have:=hS _ hs;omega,g1,hC.cap,cur,(k.block _ (aC g2) (λe2=>?_)).trans g2⟩;have:=hS b hbS;omega
 intro b' o' a n cc hb' e;rcases kind b' o' a n cc hb' e with(⟨rfl,rfl,e1,rfl,rfl⟩|⟨rfl,rfl,e1,rfl,rfl⟩)|⟨e1,hl⟩
 .obtain⟨f1,f2,f3,f4⟩:=fresh hA e1;refine⟨⟨f1,f3,f4⟩,λb2 o2 a2 n2 c2 hb2 e2 ea=>?_⟩;rcases kind b2 o2 a2 n2 c2 hb2 e2 with(⟨rfl,rfl,_⟩|⟨rfl,rfl,q1,_⟩)|⟨_,hl2⟩
  .exact⟨rfl,rfl⟩
  .exact absurd ea.symm (hAB a a2 e1 q1)
  .omega
 .obtain⟨f1,f2,f3,f4⟩:=fresh hB e1;refine⟨⟨f1,f3,f4⟩,λb2 o2 a2 n2 c2 hb2 e2 ea=>?_⟩;rcases kind b2 o2 a2 n2 c2 hb2 e2 with(⟨rfl,rfl,q1,_⟩|⟨rfl,rfl,_⟩)|⟨_,hl2⟩
  .exact absurd ea (hAB a2 a q1 e1)
  .exact⟨rfl,rfl⟩
  .omega
 .obtain⟨⟨f1,f2,cur,f3⟩,f4⟩:=h1 b' o' a n cc hb' e1;refine⟨⟨f1,f2,cur,(k.block _ (aC f3) (λe2=>f1 (e2▸hbS))).trans f3⟩,λb2 o2 a2 n2 c2 hb2 e2 ea=>?_⟩;rcases kind b2 o2 a2 n2 c2 hb2 e2 with(⟨rfl,rfl,q1,_⟩|⟨rfl,rfl,q1,_⟩)|⟨e3,hl2⟩
  .have:=(fresh hA q1).2.1;omega
  .have:=(fresh hB q1).2.1;omega
  .exact f4 b2 o2 a2 n2 c2 hb2 e3 ea
def uR(S:Nat->Prop)(b:Nat)(w w':World):Prop:=w.heap.size<=w'.heap.size/\(S b->∀(S':Nat->Prop) (R:Nat->Nat->Prop),(∀z,S z->S' z)->(∀z o,R z o->S' z)->(∀z,S' z->z<w.heap.size)->Ow w S' R->Ow w' S' R)
theorem uR.refl(S:Nat->Prop)(b:Nat)(w:World):uR S b w w:=⟨amX _,λ_ _ _ _ _ _ h=>h⟩
theorem uR.trans{u v:World}(h:uR S b u v)(k:uR S b v w):uR S b u w:=
 ⟨anb h.1 k.1,λhb S' R h1 h2 h3 h4=>k.2 hb S' R h1 h2 (λz hz=>anq (h3 z hz) h.1) (h.2 hb S' R h1 h2 h3 h4)⟩
theorem uR.aN{v:World}(h:Ex v w):uR S b v w:=
 ⟨h.size,λ_ _ _ _ h2 h3 h4=>h4.sx (λz o hz=>h3 z (h2 z o hz)) (bn.aN (S:=λ_=>False) h) (λ_ h=>h.elim) (λ_ _ h=>h.elim)⟩
theorem uR.Qa{m:List Int}{B:Option Addr}(he:Ex w w1)
 (hA:Fr w1 w.heap.size A c l) (hB:Fr w1 w.heap.size B d m) (hAB:Apart A B) (hbS:S b) {u v:Value} (c0:w1.cell? ⟨b,i*2,none⟩=some u) (c1:w1.cell? ⟨b,i*2+1,none⟩=some v):
 uR S b w ((w1.setCell ⟨b,i*2,none⟩ (.slice A l.length c)).setCell ⟨b,i*2+1,none⟩ (.slice B m.length d)):=
 ⟨by simpa[World.setCell]using he.size,λ_ S' R h1 h2 h3 h4=>h4.Qa (λz o hz=>h3 z (h2 z o hz)) h3 he hA hB hAB (h1 b hbS) c0 c1⟩
def Db(p:Int)(k v x:aF):aF:=if ig x=true then v else eO p v (eG p k x)
def oV(p:Int)(vs:List aF)(k:aF)(ws:List aF):List aF:=List.zipWith (Db p k) vs ws
def iY(p:Int)(vs:List aF)(k:aF)(ws:List aF):List aF:=if ig k=true then vs else oV p vs k ws
theorem tV(R vs:List α)(hl:R.length=vs.length)(i:Nat)(x:α)(hx:R[i]?=some x):(R.take i++vs.drop i).set i x=R.take (i+1)++vs.drop (i+1):=by
 have hi:=(am2.1 hx).1;rw[List.set_append,amZ (by rw[am8];omega),am_,hx];have:i-(R.take i).length=0:=by rw[am8];omega
 rw[this,anP];congr 1;rw[aoL (by omega:i<vs.length)];rfl
theorem tX(R vs:List α)(hl:R.length=vs.length)(i:Nat)(x:α)(hx:R[i]?=some x)(hv:vs[i]?=some x):R.take i++vs.drop i=R.take (i+1)++vs.drop (i+1):=by
 have hi:=(am2.1 hx).1;rw[am_,hx,aoL (by omega:i<vs.length)];have:vs[i]'(by omega)=x:=by rw[am0 (by omega)]at hv;injection hv
 rw[this];simp
theorem zK(R vs:List α)(hl:R.length=vs.length)(i:Nat)(hi:i<vs.length):(R.take i++vs.drop i)[i]?=vs[i]?:=by rw[anw (by rw[am8];omega),am8,anB];congr 1;omega
def F_(q:List Bool):Int:=match q.findIdx? id with|some i=>(i:Int)|none=> -1
theorem Nl{q:List Bool}(h:q.all (λx=> !x)=true):F_ q= -1:=by
 have:q.findIdx? id=none:=by rw[List.findIdx?_eq_none_iff];intro x hx;simpa using anl.1 h x hx
 rw[F_,this]
theorem Nk{q:List Bool}(hx:q[k]?=some true)(h:(q.take k).all (λx=> !x)=true):F_ q=k:=by
 have hk:=(am2.1 hx).1;have:q.findIdx? id=some k:=by rw[List.findIdx?_eq_some_iff_getElem];refine⟨hk,by have:=(am2.1 hx).2;simpa using this,λj hj=>?_⟩;have:=anl.1 h (q[j]'(by omega)) (ao5.2 ⟨j,by rw[anh,amY hj];exact am0 _⟩);simpa using this
 rw[F_,this]
theorem Nj(g:FuncId)(eg:∀args w,(callFunc g args).run prog w=.ok (.enter g args) w)(lb:Array Value)(q:List Bool)(A:Option Addr)(c:Nat)(vs:List Value)(w:World)(h:Xd w A vs)(hq:q.length=vs.length)
 (hf:∀(W:World) (i:Nat) (v:Value) (b:Bool),Ex w W->vs[i]?=some v->q[i]?=some b->Calls prog g (#[v]++lb) W λe W'=>e=.returned (.bool b)/\Ex W W'):
 Calls prog 119 #[.slice A vs.length c,.func (.func g) #[] lb] w λe w'=>e=.returned (.int .i64 (F_ q))/\Ex w w':=by
 have hl:=h.1;have Hq:=amW hq;clear hq;go_enter Tryz.func119,Tryz.ntmps119
 go_wp2;go_loopw [8] (λi wr=>∃k:Nat,k<=vs.length/\Hid ((q.take k).all (λx=> !x)=true)/\i=.int .i64 k/\Ex w wr) (λi _=>vs.length-(intOf i).toNat)
 case atStart=>exact⟨0,am4 _,amW rfl,rfl,asF w⟩
 case round=>
  obtain⟨k,hk,gy,rfl,he⟩:=hrel;by_cases hlt:k<vs.length
  .obtain⟨g',off,v,rfl,hx,hg,hc⟩:=(h.ex he).at_ hlt;obtain⟨b,hb⟩:∃b,q[k]?=some b:=⟨_,am0 (by rw[Hq.out];exact hlt)⟩;have hcall:=hf wr k v b he hx hb;have Hb:=amW hb;clear hx hf hb;cases b with
   |true=>
    have H:=amW (Nk Hb.out gy.out);go_wp2_with fail
    refine hcall.mono ?_;rintro e w' ⟨rfl,hb'⟩;go_wp2;go_ret;exact⟨by rw[H.out];rfl,he.trans hb'⟩
   |false=>
    have H:=amW (show(q.take (k+1)).all (λx=> !x)=true by rw[am_,Hb.out,an_,gy.out];rfl);go_wp2_with fail
    refine hcall.mono ?_;rintro e w' ⟨rfl,hb'⟩;go_wp2_with fail
    go_roundw;case rel=>exact⟨k+1,by omega,H,by go_num,he.trans hb'⟩
    case measure=>simp[intOf];omega
  .obtain rfl:k=vs.length:=by omega
   have H:=amW (Nl (q:=q) (by have:=gy.out;rwa[<-Hq.out,anf]at this));clear hf;go_wp2;go_ret;exact⟨by rw[H.out];rfl,he⟩
def pB(ob:Option Nat):Option Addr:=ob.map λb=>⟨b,0,none⟩
def OG(w:World)(S:Nat->Prop)(ob:Option Nat)(xs:List aF):Prop:=match ob with
 |none=>xs=[]
 |some b=>oC w S b xs/\S b
theorem OG.sx(h:OG w S ob xs)(k:bn T w w')(hT:∀i,T i->S i)(hb:∀b,ob=some b->¬T b):OG w' S ob xs:=by
 cases ob with
 |none=>exact h
 |some b=>exact⟨h.1.sx k hT (hb b rfl),h.2⟩
structure fC (w:World) (S:Nat->Prop) (G:Nat) (bs:List (Option Nat)) (rows:List (List aF)) (n:Nat):Prop where
 out:∃cur:Array Value,w.heap[G]?=some (.cells cur 48 (0,0))/\∀(j:Nat) (ob:Option Nat),bs[j]?=some ob->∃c,n<=c/\cur[j]?=some (.slice (pB ob) n c)
 len:bs.length=rows.length
 row:∀(j:Nat) (ob:Option Nat) (r:List aF),bs[j]?=some ob->rows[j]?=some r->OG w S ob r/\r.length=n
 nd:∀(i j:Nat) (b:Nat),bs[i]?=some (some b)->bs[j]?=some (some b)->i=j
 sg:S G
 ng:∀(j:Nat) (b:Nat),bs[j]?=some (some b)->b≠G
theorem fC.lt(h:fC w S G bs rows n):G<w.heap.size:=by obtain⟨_,h,_⟩:=h.out;exact aC h
theorem fC.at_(h:fC w S G bs rows n){j:Nat}(hj:j<rows.length):
 ∃ob r c,bs[j]?=some ob/\rows[j]?=some r/\r.length=n/\OG w S ob r/\w.cell? ⟨G,j,none⟩=some (.slice (pB ob) n c):=by
 obtain⟨ob,lq⟩:∃ob,bs[j]?=some ob:=⟨_,am0 (by rw[h.len];exact hj)⟩;obtain⟨r,hr⟩:∃r,rows[j]?=some r:=⟨_,am0 hj⟩;obtain⟨cur,hc,hx⟩:=h.out;obtain⟨c,_,hcc⟩:=hx j ob lq;obtain⟨h1,h2⟩:=h.row j ob r lq hr;exact⟨ob,r,c,lq,hr,h2,h1,by simp[World.cell?,hc,hcc]⟩
theorem fC.TA(h:fC w S G bs rows n){j:Nat}(hj:j<rows.length):
 ∃ob r c,n<=c/\bs[j]?=some ob/\rows[j]?=some r/\r.length=n/\OG w S ob r/\w.cell? ⟨G,j,none⟩=some (.slice (pB ob) n c):=by
 obtain⟨ob,lq⟩:∃ob,bs[j]?=some ob:=⟨_,am0 (by rw[h.len];exact hj)⟩;obtain⟨r,hr⟩:∃r,rows[j]?=some r:=⟨_,am0 hj⟩;obtain⟨cur,hc,hx⟩:=h.out;obtain⟨c,hnc,hcc⟩:=hx j ob lq;obtain⟨h1,h2⟩:=h.row j ob r lq hr;exact⟨ob,r,c,hnc,lq,hr,h2,h1,by simp[World.cell?,hc,hcc]⟩
theorem fC.frozen(h:fC w S G bs rows n)(i:Nat):w.frozen? ⟨G,i,none⟩=false:=by obtain⟨cur,hc,_⟩:=h.out;simp[World.frozen?,hc]
theorem fC.sx(h:fC w S G bs rows n)(k:bn T w w')(hT:∀i,T i->S i)(hG:¬T G)(hb:∀(j:Nat) (b:Nat),bs[j]?=some (some b)->¬T b):fC w' S G bs rows n:=by have hl:=h.lt;obtain⟨cur,hc,hx⟩:=h.out;exact⟨⟨cur,(k.block G hl hG).trans hc,hx⟩,h.len,λj ob r h1 h2=>⟨(h.row j ob r h1 h2).1.sx k hT λb e=>hb j b (by rw[<-e];exact h1),(h.row j ob r h1 h2).2⟩,h.nd,h.sg,h.ng⟩
theorem fC.ex(h:fC w S G bs rows n)(k:Ex w w'):fC w' S G bs rows n:=h.sx (bn.aN (S:=λ_=>False) k) (λ_ h=>h.elim) id (λ_ _ _=>id)
theorem fC.turn(h:fC w S G bs rows n)(hi:bs[i]?=some ob){r':List aF}(hr:OG w' S ob r')(hl:r'.length=n)(k:bn (λz=>ob=some z) w w'):fC w' S G bs (rows.set i r') n:=by
 have hS:∀z,ob=some z->S z:=λz e=>by subst e;exact hr.2
 have hil:=(am2.1 hi).1;have hg:¬(ob=some G):=λe=>h.ng i G (by rw[hi,e]) rfl
 have hgl:=h.lt;obtain⟨cur,hc,hx⟩:=h.out;refine⟨⟨cur,(k.block G hgl hg).trans hc,hx⟩,by rw[anj];exact h.len,λj MS r h1 h2=>?_,h.nd,h.sg,h.ng⟩;rw[ang]at h2;by_cases e:i=j
 .subst e;rw[amY rfl,amY (by rw[<-h.len];exact hil)]at h2;injection h2 with h2;subst h2;rw[hi]at h1;injection h1 with h1;subst h1;exact⟨hr,hl⟩
 .rw[amZ e]at h2;refine⟨(h.row j MS r h1 h2).1.sx k hS λb e2 e3=>e ?_,(h.row j MS r h1 h2).2⟩;subst e2 e3;exact h.nd i j b hi h1
theorem fC.swap(h:fC w S G bs rows n){oi ok:Option Nat}{ri rk:List aF}{ci ck:Nat}(hi:bs[i]?=some oi)(hk:bs[k]?=some ok)(nI:rows[i]?=some ri)(hrk:rows[k]?=some rk)(hci:n<=ci)(hck:n<=ck):
 fC ((w.setCell ⟨G,i,none⟩ (.slice (pB ok) n ck)).setCell ⟨G,k,none⟩ (.slice (pB oi) n ci)) S G ((bs.set i ok).set k oi) ((rows.set i rk).set k ri) n:=by
 have hil:=(am2.1 hi).1;have hkl:=(am2.1 hk).1;have kx:bn (λz=>z=G) w ((w.setCell ⟨G,i,none⟩ (.slice (pB ok) n ck)).setCell ⟨G,k,none⟩ (.slice (pB oi) n ci)):=
  bn.a_ (((aJ.refl G w).setCell (p:=⟨G,i,none⟩) rfl _).setCell (p:=⟨G,k,none⟩) rfl _) rfl
 have hT:∀z,z=G->S z:=λz e=>e▸h.sg
 have at2:∀{α:Type} (l:List α) (a b:α) (j:Nat) (x:α),i<l.length->k<l.length->((l.set i a).set k b)[j]?=some x->(j=k/\x=b)∨(j≠k/\j=i/\x=a)∨(j≠k/\j≠i/\l[j]?=some x):=by
  intro α l a b j x h1 h2 h3;rw[ang]at h3;split at h3
  .rename_i e;rw[amY (by rw[anj];omega)]at h3;injection h3 with h3;exact .inl ⟨e.symm,h3.symm⟩
  .rename_i e;rw[ang]at h3;split at h3
   .rename_i e2
    try rw[amY (by omega)]at h3
    injection h3 with h3;exact .inr (.inl ⟨λe3=>e e3.symm,e2.symm,h3.symm⟩)
   .rename_i e2;exact .inr (.inr ⟨λe3=>e e3.symm,λe3=>e2 e3.symm,h3⟩)
 have pY:=(h.row i oi ri hi nI);have xD:=(h.row k ok rk hk hrk);have hgl:=h.lt;have hlen:=h.len;have keep:∀(ob:Option Nat) (r:List aF) (j:Nat),bs[j]?=some ob->OG w S ob r->OG ((w.setCell ⟨G,i,none⟩ (.slice (pB ok) n ck)).setCell ⟨G,k,none⟩ (.slice (pB oi) n ci)) S ob r:=λob r j h1 h2=>h2.sx kx hT λb e e2=>h.ng j b (by rw[h1,e]) e2
 obtain⟨cur,hc,hx⟩:=h.out;refine⟨⟨(cur.setIfInBounds i (.slice (pB ok) n ck)).setIfInBounds k (.slice (pB oi) n ci),by simp[World.setCell,aoa,hc],λj ob hj=>?_⟩,by simp[hlen],λj ob r h1 h2=>?_,λa b z h1 h2=>?_,h.sg,λj b hj=>?_⟩
 .obtain⟨_,_,hi1⟩:=hx i oi hi;obtain⟨_,_,hk1⟩:=hx k ok hk;have l1:i<cur.size:=(an9.1 hi1).1;have l2:k<cur.size:=(an9.1 hk1).1;rcases at2 bs ok oi j ob hil hkl hj with⟨e,e2⟩|⟨e,e2,e3⟩|⟨e,e2,e3⟩
  .subst e e2;exact⟨ci,hci,by rw[anI,amY rfl,amY (by simpa using l2)]⟩
  .subst e2 e3;exact⟨ck,hck,by rw[anI,amZ (λh=>e h.symm),anI,amY rfl,amY l1]⟩
  .obtain⟨c,hnc,hc'⟩:=hx j ob e3;exact⟨c,hnc,by rw[anI,amZ (λh=>e h.symm),anI,amZ (λh=>e2 h.symm)];exact hc'⟩
 .rcases at2 bs ok oi j ob hil hkl h1 with⟨e,e2⟩|⟨e,e2,e3⟩|⟨e,e2,e3⟩
  .subst e e2;rcases at2 rows rk ri j r (by omega) (by omega) h2 with⟨_,e4⟩|⟨e4,_⟩|⟨e4,_⟩
   .subst e4;exact⟨keep _ _ i hi pY.1,pY.2⟩
   .exact absurd rfl e4
   .exact absurd rfl e4
  .subst e2 e3;rcases at2 rows rk ri j r (by omega) (by omega) h2 with⟨e4,_⟩|⟨_,_,e4⟩|⟨_,e4,_⟩
   .exact absurd e4 e
   .subst e4;exact⟨keep _ _ k hk xD.1,xD.2⟩
   .exact absurd rfl e4
  .rcases at2 rows rk ri j r (by omega) (by omega) h2 with⟨e4,_⟩|⟨_,e4,_⟩|⟨_,_,e4⟩
   .exact absurd e4 e
   .exact absurd e4 e2
   .exact⟨keep _ _ j e3 (h.row j ob r e3 e4).1,(h.row j ob r e3 e4).2⟩
 .rcases at2 bs ok oi a _ hil hkl h1 with⟨e1,q1⟩|⟨e1,f1,q1⟩|⟨e1,f1,q1⟩<;>rcases at2 bs ok oi b _ hil hkl h2 with⟨e2,q2⟩|⟨e2,f2,q2⟩|⟨e2,f2,q2⟩
  .omega
  .rw[<-q1]at hi;rw[<-q2]at hk;have:=h.nd i k z hi hk;omega
  .rw[<-q1]at hi;have:=h.nd i b z hi q2;omega
  .rw[<-q1]at hk;rw[<-q2]at hi;have:=h.nd i k z hi hk;omega
  .omega
  .rw[<-q1]at hk;have:=h.nd k b z hk q2;omega
  .rw[<-q2]at hi;have:=h.nd a i z q1 hi;omega
  .rw[<-q2]at hk;have:=h.nd a k z q1 hk;omega
  .exact h.nd a b z q1 q2
 .rcases at2 bs ok oi j _ hil hkl hj with⟨e1,q1⟩|⟨e1,f1,q1⟩|⟨e1,f1,q1⟩
  .rw[<-q1]at hi;exact h.ng i b hi
  .rw[<-q1]at hk;exact h.ng k b hk
  .exact h.ng j b q1
def jH(p:Int)(L:Nat)(v:List aF):Prop:=∀x∈v,FV p x/\FL L x
def iK(p:Int)(L:Nat)(Z:List (List aF)):Prop:=∀z∈Z,jH p L z
theorem jH.mono(h:jH p L v)(hm:L<=M):jH p M v:=λx hx=>⟨(h x hx).1,(h x hx).2.mono hm⟩
theorem iK.mono(h:iK p L Z)(hm:L<=M):iK p M Z:=λz hz=>(h z hz).mono hm
theorem jH.take(h:jH p L v)(n:Nat):jH p L (v.take n):=λx hx=>h x (an5 hx)
theorem jH.drop(h:jH p L v)(n:Nat):jH p L (v.drop n):=λx hx=>h x (aoi hx)
theorem Oj{y:aF}(hx:FV p x)(hy:FV p y)(hz:y.n=[]):eO p x y=x:=by have:=(ay p hx.f).d_ ⟨x,hx⟩;have hy0:y=zF:=qi hy (FV.zero hx.f) (by rw[hz,dR];exact(dR p _).symm);rw[hy0];exact congrArg Subtype.val this
theorem M0{y:aF}(hx:FV p x)(hy:FV p y)(hz:y.n=[]):(eG p x y).n=[]:=by have:=(ay p hx.f).bf ⟨x,hx⟩;have hy0:y=zF:=qi hy (FV.zero hx.f) (by rw[hz,dR];exact(dR p _).symm);rw[hy0];exact congrArg (λq=>q.1.n) this
theorem Qz(hx:FV p x):(aV p x).n=[]↔x.n=[]:=by
 constructor
 .intro h;apply aov;intro h2;exact UD hx.pos hx.n h2 h
 .intro h;show je p x.n=[];rw[h];rfl
theorem Oi{k v:aF}(hk:FV p k)(hv:FV p v)(hx:FV p x):Db p k v x=eO p v (eG p k x):=by
 unfold Db;split
 .rename_i h;exact(Oj hv (hk.mul hx) (M0 hk hx (dM.1 h))).symm
 .rfl
theorem AB{k:aF}(hk:FV p k):∀{vs ws:List aF},(∀x∈vs,FV p x)->(∀x∈ws,FV p x)->iY p vs (aV p k) ws=if ig k=true then vs else(ah p).less vs k ws:=by
 intro vs ws hv hw;unfold iY;have hi:ig (aV p k)=ig k:=by rw[an3,dM,dM,Qz hk]
 rw[hi];split
 .rfl
 .unfold oV Ops.less;clear hi
  induction vs generalizing ws with
  |nil=>rfl
  |cons v vs ih=>
   cases ws with
   |nil=>rfl
   |cons x ws=>rw[List.zipWith_cons_cons,List.zipWith_cons_cons,Oi hk.neg (hv v (by simp)) (hw x (by simp)),ih (λy hy=>hv y (by simp[hy])) (λy hy=>hw y (by simp[hy]))];rfl
theorem M9{K:Type}(O:Ops K)(v:List K)(k:K)(w:List K)(n:Nat):(O.less v k w).take n=O.less (v.take n) k (w.take n):=by unfold Ops.less;rw[List.take_zipWith]
theorem M_{K:Type}(O:Ops K)(v:List K)(k:K)(w:List K)(n:Nat):(O.less v k w).drop n=O.less (v.drop n) k (w.drop n):=by unfold Ops.less;rw[List.drop_zipWith]
theorem yY{K:Type}(O:Ops K):∀(m c r:Nat) (rows:List (List K)),rows.length<=r->O.red m c r rows=(rows,r)
 |0,_,_,_,_=>rfl
 |m+1,c,r,rows,h=>by rw[Ops.red,amZ (by unfold Ops.qg;omega),yY O m (c+1) r rows h]
theorem Vn(rows:List (List aF))(r c:Nat)(q:List Bool)(hq:q=(rows.drop r).map λrow=> !ig ((ah p).el row c))(hr:r<=rows.length):
 (F_ q= -1/\¬(ah p).qg rows r c<rows.length)∨∃k:Nat,F_ q=k/\(ah p).qg rows r c=r+k/\r+k<rows.length:=by
 have hf:(ah p).qg rows r c=r+q.findIdx id:=by unfold Ops.qg;rw[hq,List.findIdx_map];rfl
 have Rn:q.length=rows.length-r:=by rw[hq,am5,anp]
 rw[hf];unfold F_;cases h:q.findIdx? id with
 |none=>refine .inl ⟨rfl,?_⟩;have:=List.findIdx?_eq_none_iff_findIdx_eq.1 h;omega
 |some k=>refine .inr ⟨k,rfl,?_⟩;obtain⟨h1,h2⟩:=List.findIdx?_eq_some_iff_findIdx_eq.1 h;omega
theorem jH.oJ(h:jH p L v)(hc:c<v.length)(hz:ig ((ah p).el v c)=false):jH p (L+L) ((ah p).oJ v c):=λx hx=>by
 obtain⟨y,hy,rfl⟩:=am3.1 hx;have he:(ah p).el v c=v[c]:=(ah p).bT (am0 hc);rw[he]at hz⊢;obtain⟨h1,h2⟩:=h v[c] (anO hc);have h0:v[c].n≠[]:=λe=>by rw[dM.2 e]at hz;cases hz
 obtain⟨h3,h4⟩:=h y hy;exact⟨(h1.inv h0).mul h3,(h2.inv h1 h0).mul (h1.inv h0) h3 h4⟩
theorem jH.less{w:List aF}(h:jH p L v)(k:jH p M w)(hx:FV p x)(hl:FL L x):jH p (L+(L+M)) ((ah p).less v x w):=λy hy=>by unfold Ops.less at hy;obtain⟨i,hi⟩:=anc hy;rw[List.getElem?_zipWith_eq_some]at hi;obtain⟨a,b,ha,hb,rfl⟩:=hi;obtain⟨h1,h2⟩:=h a (am1 ha);obtain⟨h3,h4⟩:=k b (am1 hb);exact⟨h1.add (hx.neg.mul h3),h2.add h1 (hx.neg.mul h3) (hl.neg.mul hx.neg h3 h4)⟩
theorem La(h:jH p L v)(hc:c<v.length):FV p ((ah p).el v c)/\FL L ((ah p).el v c):=by rw[(ah p).bT (am0 hc)];exact h _ (anO hc)
theorem iK.piv{N:Nat}(h:iK p L Z)(hw:aZ N Z)(hr:r<Z.length)(hk:k<Z.length)(hc:c<N)(hz:ig ((ah p).el (Z.getD k []) c)=false):iK p (4*L) ((ah p).piv Z r c k):=λz hz'=>by
 obtain⟨i,hi⟩:=anc hz';have hil:i<Z.length:=by have:=(am2.1 hi).1;rwa[dU]at this
 rw[lT (ah p) hr hk c i hil]at hi;injection hi with hi;have hat:∀j,j<Z.length->jH p L (Z.getD j []):=λj hj=>by rw[am6,am0 hj];exact h _ (anO hj)
 have hsl:=uV hil hr hk;have hlead:=(hat k hk).oJ (p:=p) (c:=c) (by rw[hw.at_ hk];exact hc) hz;rw[<-hi];generalize(if i=k then r else if i=r then k else i)=s at hsl;unfold Ops.Bd;split
 .have h4:L+L<=4*L:=by omega
  exact hlead.mono h4
 .split
  .have h4:L<=4*L:=by omega
   exact(hat _ hsl).mono h4
  .obtain⟨e1,e2⟩:=La (hat _ hsl) (c:=c) (by rw[hw.at_ hsl];exact hc);have h4:L+(L+(L+L))<=4*L:=by omega
   exact((hat _ hsl).less hlead e1 e2).mono h4
theorem fC.vals(h:fC w S G bs rows n)(hl:rows.length<=1099511627776):
 ∃vs:List Value,vs.length=rows.length/\(∀(j:Nat) (ob:Option Nat),bs[j]?=some ob->∃c,vs[j]?=some (.slice (pB ob) n c))/\∀r,Xd w (some ⟨G,r,none⟩) (vs.drop r):=by
 obtain⟨cur,hc,hx⟩:=h.out;have hsz:rows.length<=cur.size:=by apply aov;intro hn;obtain⟨ob,lq⟩:∃ob,bs[cur.size]?=some ob:=⟨_,am0 (by rw[h.len];omega)⟩;obtain⟨c,_,hcc⟩:=hx _ ob lq;have:=(an9.1 hcc).1;omega
 refine⟨cur.toList.take rows.length,by simp;omega,λj ob hj=>?_,λr=>⟨by simp;omega,λj v hj=>⟨G,r,rfl,?_⟩⟩⟩
 .obtain⟨c,_,hcc⟩:=hx j ob hj;have hjl:=(am2.1 hj).1;rw[h.len]at hjl;exact⟨c,by rw[anh,amY hjl];simpa using hcc⟩
 .rw[anB,anh]at hj;split at hj
  .simp[World.cell?,hc];simpa using hj
  .cases hj
structure bD (w:World) (S K:Nat->Prop) (G G':Nat) (bs bs':List (Option Nat)) (Z:List (List aF)) (n m:Nat):Prop where
 r:fC w S G bs (Z.map (List.take n)) n
 a:fC w S G' bs' (Z.map (List.drop n)) m
 ne:G≠G'
 d:∀(i j b:Nat),bs[i]?=some (some b)->bs'[j]?=some (some b)->False
 d1:∀(j b:Nat),bs[j]?=some (some b)->b≠G'
 d2:∀(j b:Nat),bs'[j]?=some (some b)->b≠G
 sl:∀z,S z->z<w.heap.size
 kl:∀z,K z->z<w.heap.size
 own:∃R:Nat->Nat->Prop,Ow w (λz=>S z∨K z) R/\(∀z o,R z o->S z)/\(∀o,¬R G o)/\(∀o,¬R G' o)/\(∀(j b:Nat),bs[j]?=some (some b)->S b/\∀o,o<2*n->R b o)/\(∀(j b:Nat),bs'[j]?=some (some b)->S b/\∀o,o<2*m->R b o)
theorem bD.ex(h:bD w S K G G' bs bs' Z n m)(k:Ex w w'):bD w' S K G G' bs bs' Z n m:=⟨h.r.ex k,h.a.ex k,h.ne,h.d,h.d1,h.d2,λz hz=>anq (h.sl z hz) k.size,λz hz=>anq (h.kl z hz) k.size,by
 obtain⟨R,hO,h1,h2⟩:=h.own;exact⟨R,hO.sx (λz o hz=>h.sl z (h1 z o hz)) (bn.aN (S:=λ_=>False) k) (λ_ h=>h.elim) (λ_ _ h=>h.elim),h1,h2⟩⟩
theorem bD.Wh(h:bD w S K G G' bs bs' Z n m)(hz:Z[i]?=some z)(hi:bs[i]?=some ob){r':List aF}(hr:OG w' S ob r')(hl:r'.length=n)(k:bn (λq=>ob=some q) w w')(ko:∀q,ob=some q->uR S q w w'):
 bD w' S K G G' bs bs' (Z.set i (r'++z.drop n)) n m:=by
 have hS:∀q,ob=some q->S q:=λq e=>by subst e;exact hr.2
 have e1:(Z.set i (r'++z.drop n)).map (List.take n)=(Z.map (List.take n)).set i r':=by rw[anZ,aoY hl]
 have e2:(Z.set i (r'++z.drop n)).map (List.drop n)=Z.map (List.drop n):=by
  rw[anZ,aoM hl];refine anG λj=>?_
  rw[ang];split
  .rename_i e;subst e;rw[am7,hz,amY (by rw[am5];exact(am2.1 hz).1)];rfl
  .rfl
 have q1:fC w' S G' bs' (Z.map (List.drop n)) m:=h.a.sx k hS (λe=>h.d1 i G' (by rw[hi,e]) rfl) (λj b hb e=>h.d i j b (by rw[hi,e]) hb);exact⟨by rw[e1];exact h.r.turn hi hr hl k,by rw[e2];exact q1,h.ne,h.d,h.d1,h.d2,λz hz=>anq (h.sl z hz) k.size,λz hz=>anq (h.kl z hz) k.size,by
  obtain⟨R,hO,h1,h2,h3,h4,h5⟩:=h.own;refine⟨R,?_,h1,h2,h3,h4,h5⟩;cases ob with
  |none=>exact hO.sx (λz o hz=>h.sl z (h1 z o hz)) k (λi e=>by cases e) (λi o e=>by cases e)
  |some q=>exact(ko q rfl).2 (hS q rfl) _ R (λz hz=> .inl hz) (λz o hz=> .inl (h1 z o hz)) (λz hz=>hz.elim (h.sl z) (h.kl z)) hO⟩
theorem bD.Wi(h:bD w S K G G' bs bs' Z n m)(hz:Z[i]?=some z)(hzl:n<=z.length)(hi:bs'[i]?=some ob){a':List aF}(hr:OG w' S ob a')(hl:a'.length=m)(k:bn (λq=>ob=some q) w w')(ko:∀q,ob=some q->uR S q w w'):
 bD w' S K G G' bs bs' (Z.set i (z.take n++a')) n m:=by
 have hS:∀q,ob=some q->S q:=λq e=>by subst e;exact hr.2
 have htl:(z.take n).length=n:=by rw[am8];omega
 have e1:(Z.set i (z.take n++a')).map (List.drop n)=(Z.map (List.drop n)).set i a':=by rw[anZ,aoM htl]
 have e2:(Z.set i (z.take n++a')).map (List.take n)=Z.map (List.take n):=by
  rw[anZ,aoY htl];refine anG λj=>?_
  rw[ang];split
  .rename_i e;subst e;rw[am7,hz,amY (by rw[am5];exact(am2.1 hz).1)];rfl
  .rfl
 have q1:fC w' S G bs (Z.map (List.take n)) n:=h.r.sx k hS (λe=>h.d2 i G (by rw[hi,e]) rfl) (λj b hb e=>h.d j i b hb (by rw[hi,e]));exact⟨by rw[e2];exact q1,by rw[e1];exact h.a.turn hi hr hl k,h.ne,h.d,h.d1,h.d2,λz hz=>anq (h.sl z hz) k.size,λz hz=>anq (h.kl z hz) k.size,by
  obtain⟨R,hO,h1,h2,h3,h4,h5⟩:=h.own;refine⟨R,?_,h1,h2,h3,h4,h5⟩;cases ob with
  |none=>exact hO.sx (λz o hz=>h.sl z (h1 z o hz)) k (λi e=>by cases e) (λi o e=>by cases e)
  |some q=>exact(ko q rfl).2 (hS q rfl) _ R (λz hz=> .inl hz) (λz o hz=> .inl (h1 z o hz)) (λz hz=>hz.elim (h.sl z) (h.kl z)) hO⟩
theorem bD.swap{w2:World}(h:bD w S K G G' bs bs' Z n m){oi ok ai ak:Option Nat}{zi zk:List aF}(hi:bs[i]?=some oi)(hk:bs[k]?=some ok)(hai:bs'[i]?=some ai)(hak:bs'[k]?=some ak)(hzi:Z[i]?=some zi)(Gg:Z[k]?=some zk){ci ck di dk:Nat}(hcap:(n<=ci/\n<=ck)/\m<=di/\m<=dk)
 (e1:w1=((w.setCell ⟨G,i,none⟩ (.slice (pB ok) n ck)).setCell ⟨G,k,none⟩ (.slice (pB oi) n ci)).drew) (e2:w2=((w1.setCell ⟨G',i,none⟩ (.slice (pB ak) m dk)).setCell ⟨G',k,none⟩ (.slice (pB ai) m di)).drew):
 bD w2 S K G G' ((bs.set i ok).set k oi) ((bs'.set i ak).set k ai) (jw Z i k) n m/\bn S w w2:=by
 have hil:=(am2.1 hi).1;have hkl:=(am2.1 hk).1;have hs:jw Z i k=(Z.set i zk).set k zi:=by unfold jw;rw[am6,am6,hzi,Gg];rfl
 have k1:bn (λz=>z=G) w w1:=by rw[e1];exact bn.a_ ((((aJ.refl G w).setCell (p:=⟨G,i,none⟩) rfl _).setCell (p:=⟨G,k,none⟩) rfl _).drew) rfl
 have k2:bn (λz=>z=G') w1 w2:=by rw[e2];exact bn.a_ ((((aJ.refl G' w1).setCell (p:=⟨G',i,none⟩) rfl _).setCell (p:=⟨G',k,none⟩) rfl _).drew) rfl
 have t1:∀z,z=G->S z:=λz e=>e▸h.r.sg
 have t2:∀z,z=G'->S z:=λz e=>e▸h.a.sg
 have hr1:fC w1 S G ((bs.set i ok).set k oi) ((Z.set i zk).set k zi |>.map (List.take n)) n:=by rw[anZ,anZ,e1];exact(h.r.swap hi hk (by rw[am7,hzi];rfl) (by rw[am7,Gg];rfl) hcap.1.1 hcap.1.2).ex (asF _).drew
 have ha1:fC w1 S G' bs' (Z.map (List.drop n)) m:=h.a.sx k1 t1 (λe=>h.ne e.symm) (λj b hb e=>h.d2 j b hb e);have sub:∀(l:List (Option Nat)) (a b:Option Nat) (j:Nat) (x:Option Nat),l[i]?=some b->l[k]?=some a->((l.set i a).set k b)[j]?=some x->∃j':Nat,l[j']?=some x:=by
  intro l a b j x h1 h2 h3;rw[ang]at h3;split at h3
  .split at h3
   .injection h3 with h3;exact⟨i,by rw[<-h3];exact h1⟩
   .cases h3
  .rw[ang]at h3;split at h3
   .split at h3
    .injection h3 with h3;exact⟨k,by rw[<-h3];exact h2⟩
    .cases h3
   .exact⟨j,h3⟩
 have dd1:∀(j b:Nat),((bs.set i ok).set k oi)[j]?=some (some b)->b≠G':=λj b hb=>by obtain⟨j',hj'⟩:=sub bs ok oi j _ hi hk hb;exact h.d1 j' b hj'
 rw[hs];refine⟨⟨hr1.sx k2 t2 h.ne (λj b hb e=>dd1 j b hb e),?_,h.ne,λa b z h1 h2=>?_,dd1,λj b hb=>?_,λz hz=>anq (h.sl z hz) (anb k1.size k2.size),λz hz=>anq (h.kl z hz) (anb k1.size k2.size),?_⟩,(k1.widen (λz _ e=>t1 z e)).trans (k2.widen (λz _ e=>t2 z e)) (λ_ _ h=>h)⟩
 .rw[anZ,anZ,e2];exact(ha1.swap hai hak (by rw[am7,hzi];rfl) (by rw[am7,Gg];rfl) hcap.2.1 hcap.2.2).ex (asF _).drew
 .obtain⟨j1,q1⟩:=sub bs ok oi a _ hi hk h1;obtain⟨j2,q2⟩:=sub bs' ak ai b _ hai hak h2;exact h.d j1 j2 z q1 q2
 .obtain⟨j',hj'⟩:=sub bs' ak ai j _ hai hak hb;exact h.d2 j' b hj'
 .obtain⟨R,hO,r1,r2,r3,r4,r5⟩:=h.own;have hs:=λz o hz=>h.sl z (r1 z o hz)
  have hO1:=hO.sx hs k1 (λz e=> .inl (t1 z e)) (λi o e hr=>r2 o (e▸hr));exact⟨R,hO1.sx (λz o hz=>anq (hs z o hz) k1.size) k2 (λz e=> .inl (t2 z e)) (λi o e hr=>r3 o (e▸hr)),r1,r2,r3,λj b hb=>by
   obtain⟨j',hj'⟩:=sub bs ok oi j _ hi hk hb;exact r4 j' b hj',λj b hb=>by
   obtain⟨j',hj'⟩:=sub bs' ak ai j _ hai hak hb;exact r5 j' b hj'⟩
theorem MB(p:Int)(S:Nat->Prop)(ob:Option Nat)(v:List aF)(c cap q:Nat)(w:World)(h:OG w S ob v)(hc:c<v.length)(hq:w.cell? ⟨q,0,none⟩=some (.int .i64 c))(_:v.length<=1000)(b:Bool)(hb:b= !ig ((ah p).el v c)):
 Calls prog 120 #[.slice (pB ob) v.length cap,.pointer (some ⟨q,0,none⟩)] w λe w'=>e=.returned (.bool b)/\Ex w w':=by
 cases ob with
 |none=>have:v=[]:=h;rw[this]at hc;simp at hc
 |some g=>
  obtain⟨hF,_⟩:=h;obtain⟨x,hx⟩:∃x,v[c]?=some x:=⟨_,am0 hc⟩;obtain⟨A,ca,B,cb,e0,e1,hA,_⟩:=hF.at_ hx;have hel:(ah p).el v c=x:=(ah p).bT hx;have hno:=λW=>kR A B ca cb x.n x.d W hA.1.len
  have HB:=amW (show b= !decide (x.n=[]) by
   rw[hb,hel];congr 1;rw[an3,dM];simp)
  have hpb:pB (some g)=some ⟨g,0,none⟩:=rfl;rw[hpb];clear hx hel hb hpb;go_enter Tryz.func120,Tryz.ntmps120
  go_wp2_with fail
  refine(hno w).mono ?_;rintro e w1 ⟨rfl,x1⟩;go_wp2;go_ret;exact⟨aG (by rw[HB.out]),x1⟩
theorem KP:(prog.info? 48).map (λi=>(i.zero,i.size,i.bytes))=some (some (.slice none 0 0),1,24):=by kernel_rfl
theorem Yd(A B:Option Addr)(n c m d:Nat)(w:World):(Instr.index 132 (.agg #[.slice A n c,.slice B m d]) (.int .i64 0)).run prog w=.ok (.slice A n c) w:=by
 have hu:prog.underlying 132=some (.array 2 48):=by kernel_rfl
 obtain⟨i,hi,hz,hs,hb⟩:=anA KP;simp[Instr.index,aob hu,asIntOf,sizeOf,typeInfo,hi,hs,part]
theorem Ri(A B:Option Addr)(n c m d:Nat)(w:World):(Instr.index 132 (.agg #[.slice A n c,.slice B m d]) (.int .i64 1)).run prog w=.ok (.slice B m d) w:=by
 have hu:prog.underlying 132=some (.array 2 48):=by kernel_rfl
 obtain⟨i,hi,hz,hs,hb⟩:=anA KP;simp[Instr.index,aob hu,asIntOf,sizeOf,typeInfo,hi,hs,part]
theorem oC.II(h:oC w S b xs)(hl:xs.length<=1099511627776):gm EF w (some ⟨b,0,none⟩) xs:=by
 refine⟨hl,λj x hj=>?_⟩;obtain⟨A,c,B,d,h0,h1,h2,h3⟩:=h.at_ hj;refine⟨b,0,[.slice A x.n.length c,.slice B x.d.length d],rfl,λi u hi=>?_,_,_,rfl,⟨A,c,rfl,h2.1⟩,⟨B,d,rfl,h3.1⟩⟩;rw[show EF.k=2 from rfl,anE]
 match i,hi with
 |0,hi=>simp at hi;rw[<-hi];exact h0
 |1,hi=>simp at hi;rw[<-hi];exact h1
theorem zb(p:Int)(S:Nat->Prop)(b:Nat)(Aw:Option Addr)(vs ws:List aF)(k:aF)(A B:Option Addr)(c d c1 c2:Nat)(w:World)(hS:∀z,S z->z<w.heap.size)(hb:S b)(hv:oC w S b vs)(hw:∀W,bn (λz=>z=b) w W->gm EF W Aw ws)(hl:vs.length=ws.length)(hA:RX w (λz=>z=b) A k.n)(hB:RX w (λz=>z=b) B k.d)
 (hvv:∀x∈vs,FV p x/\FL 137438953472 x) (Yi:∀x∈ws,FV p x/\FL 68719476736 x) (hk:FV p k) (hkl:FL 68719476736 k) (hn:ws.length<=1000):
 Calls prog 124 #[.int .i64 p,.slice (some ⟨b,0,none⟩) vs.length c1,.agg #[.slice A k.n.length c,.slice B k.d.length d],.slice Aw ws.length c2] w λe w'=>e=.returned (.tuple #[])/\oC w' S b (iY p vs k ws)/\bn (λz=>z=b) w w'/\uR S b w w':=by
 have Hvv:=amW hvv;have Hww:=amW Yi;have HK:=amW hk;have HKL:=amW hkl;have Hl:=amW hl;have Yv:=hA.1.len;obtain⟨x0,v0⟩:=VB.xn w 51 #[.slice A k.n.length c,.slice B k.d.length d];have s0:(w.alloc (.cells #[.slice A k.n.length c,.slice B k.d.length d] 51)).heap.size=w.heap.size+1:=by simp
 have HB:∀z,S z->z<w.heap.size:=hS;have hbl:=hS b hb;clear hvv Yi hk hkl hl;go_enter Tryz.func124,Tryz.ntmps124
 go_wp2_with fail
 generalize w.alloc (.cells #[.slice A k.n.length c,.slice B k.d.length d] 51)=W0 at*;refine(kR A B c d k.n k.d W0 Yv).mono ?_;rintro e w1 ⟨rfl,x1⟩;have v0:=v0.ex x1;have xx:=x0.trans x1;have z1:=x1.size;by_cases hz:k.n=[]
 .rw[decide_eq_true hz];have HT:=amW (show iY p vs k ws=vs from amY (dM.2 hz));clear hz;go_wp2_with fail
  first|rw[anU]|skip
  refine ane (results_none rfl _ _ _) rfl ?_;rw[HT.out];exact⟨rfl,hv.ex xx,bn.aN xx,uR.aN xx⟩
 .rw[decide_eq_false hz];have HT:=amW (show iY p vs k ws=oV p vs k ws from amZ (λh=>hz (dM.1 h)));have hRl:(oV p vs k ws).length=vs.length:=by rw[oV,List.length_zipWith,<-Hl.out];omega
  have abN:∀(i:Nat) (v x:aF),vs[i]?=some v->ws[i]?=some x->(oV p vs k ws)[i]?=some (Db p k v x):=λi v x h1 h2=>by rw[oV,apn,h1,h2]
  have Zt:=amW hRl;have agq:=amW abN;clear hz hRl abN;generalize oV p vs k ws=R at*;go_wp2_with fail
  go_loopw [14] (λi wi=>∃j:Nat,j<=ws.length/\i=.int .i64 j/\oC wi S b (R.take j++vs.drop j)/\VB wi w.heap.size 51 #[.slice A k.n.length c,.slice B k.d.length d]/\bn (λz=>z=b) w wi/\uR S b w wi) (λi _=>ws.length-(intOf i).toNat)
  case atStart=>exact⟨0,am4 _,rfl,by simpa using hv.ex xx,v0,bn.aN xx,uR.aN xx⟩
  case round=>
   clear v0 x1 x0 xx z1;obtain⟨j,hj,rfl,hF,hD,he,hok⟩:=hrel;have hez:=he.size;have hbx:¬(w.heap.size=b):=by omega
   by_cases hlt:j<ws.length
   .obtain⟨gx,ox,x,Ax,cx,Bx,dx,rfl,hx,e0,e1,hAx,hBx⟩:=(hw wr he).ku hlt;obtain⟨v,hv'⟩:∃v,vs[j]?=some v:=⟨_,am0 (by rw[Hl.out];exact hlt)⟩;have hat:=zK R vs Zt.out j (by rw[Hl.out];exact hlt);rw[hv']at hat;obtain⟨Av,cv,Bv,dv,g0,g1,hAv,hBv⟩:=hF.at_ hat;have hxm:=Hww.out x (am1 hx);have hvm:=Hvv.out v (am1 hv');have hR:=agq.out j v x hv' hx;have HX:=amW hxm;have HV:=amW hvm;have HR:=amW hR;have HV':=amW hv';have aek:=hAx.len;obtain⟨y7,v7⟩:=VB.xn wr 51 #[.slice Ax x.n.length cx,.slice Bx x.d.length dx];have s7:(wr.alloc (.cells #[.slice Ax x.n.length cx,.slice Bx x.d.length dx] 51)).heap.size=wr.heap.size+1:=by simp
    clear hx hv' hat hxm hvm hR;go_wp2_with fail
    generalize wr.alloc (.cells #[.slice Ax x.n.length cx,.slice Bx x.d.length dx] 51)=W7 at*;refine(kR Ax Bx cx dx x.n x.d W7 aek).mono ?_;rintro e w8 ⟨rfl,x8⟩;have v8:=v7.ex x8;have y8:=y7.trans x8;have z8:=x8.size;have OA:=hF.ex y8;have hD8:=hD.ex y8;have he8:=he.trans (bn.aN (S:=λz=>z=b) y8) (λ_ _ h=>h);have aa7:=hok.trans (uR.aN y8);clear v7 hF hD he;by_cases hxz:x.n=[]
    .rw[decide_eq_true hxz];have HR1:=amW (show R.take j++vs.drop j=R.take (j+1)++vs.drop (j+1)from tX R vs Zt.out j v (by rw[HR.out,Db,amY (dM.2 hxz)]) HV'.out);clear hxz;go_wp2_with fail
     go_roundw;case rel=>exact⟨j+1,by omega,by go_num,by rw[<-HR1.out];exact OA,hD8,he8,aa7⟩
     case measure=>simp[intOf];omega
    .rw[decide_eq_false hxz];have HR1:=amW (show(R.take j++vs.drop j).set j (eO p v (eG p k x))=R.take (j+1)++vs.drop (j+1)from tV R vs Zt.out j _ (by rw[HR.out,Db,amZ (λh=>hxz (dM.1 h))]));clear hxz;have hM:=HK.out.mul HX.out.1;have Js:=HKL.out.mul HK.out HX.out.1 HX.out.2;have HMul:∀W,Ex w8 W->Calls prog 146 #[.int .i64 p,.agg #[.slice A k.n.length c,.slice B k.d.length d],.agg #[.slice Ax x.n.length cx,.slice Bx x.d.length dx]] W λe w'=>wZ W (eG p k x) e w':=λW h=>
      l8 p A B c d k.n k.d Ax Bx cx dx x.n x.d W ((hA.sx he8 (λz e=>e)).1.ex h) ((hB.sx he8 (λz e=>e)).1.ex h) ((hAx.ex y8).ex h) ((hBx.ex y8).ex h) (HK.out.xZ (by have:=HKL.out.1;omega) (by have:=HKL.out.2;omega)) (HX.out.1.xZ (by have:=HX.out.2.1;omega) (by have:=HX.out.2.2;omega))
     have HAdd:∀(A3 B3:Option Addr) (c3 d3:Nat) (W:World),Ex w8 W->Rd W A3 (eG p k x).n->Rd W B3 (eG p k x).d->Calls prog 59 #[.int .i64 p,.agg #[.slice Av v.n.length cv,.slice Bv v.d.length dv],.agg #[.slice A3 (eG p k x).n.length c3,.slice B3 (eG p k x).d.length d3]] W λe w'=>wZ W (eO p v (eG p k x)) e w':=λA3 B3 c3 d3 W h r1 r2=>
      rT p Av Bv cv dv v.n v.d A3 B3 c3 d3 (eG p k x).n (eG p k x).d W ((hAv.ex y8).1.ex h) ((hBv.ex y8).1.ex h) r1 r2 (HV.out.1.xZ (by have:=HV.out.2.1;omega) (by have:=HV.out.2.2;omega)) (hM.xZ (by have:=Js.1;omega) (by have:=Js.2;omega))
     have HM:=amW hM;clear hM Js;generalize eG p k x=M at*;obtain⟨N,hN⟩:=xq (eO p v M);rw[hN]at HAdd HR1;clear hN;obtain⟨k0,k1⟩:=hD8.d2;obtain⟨k2,k3⟩:=v8.d2;have g0:=af y8 g0;have g1:=af y8 g1;have hjv:j<vs.length:=by have:=Hl.out;omega
     go_wp2_with fail
     go_region_law (first
      |(go_simp
        go_at_call 146
        refine(HMul _ (asF w8).drew).mono ?_;rintro e w9 ⟨A9,c9,B9,d9,rfl,f9,p9,Ua,x9⟩;replace x9:=((asF w8).drew).trans x9;have l0:=af x9 g0;have l1:=af x9 g1)
      |(go_simp
        go_at_call 59
        refine(HAdd A9 B9 c9 d9 w9 x9 f9.rd p9.rd).mono ?_;rintro e Di ⟨ZA,c10,B10,d10,rfl,f10,p10,afR,x10⟩;have YP:=(OA.ex x9).ex x10;have m0:=af x10 l0;have m1:=af x10 l1;have n0:=YP.frozen (j*2);have n1:=YP.frozen (j*2+1)))
     all_goals
      have z9:=x9.size;have z10:=x10.size;have abL:∀z,S z->z<w9.heap.size:=λz hz=>by have:=HB z hz;omega
      have hP:=YP.put hb j N (c:=c10) (d:=d10) (f10.rx abL) (p10.rx abL);have E11:bn (λz=>z=b) Di ((Di.setCell ⟨b,j*2,none⟩ (.slice ZA N.n.length c10)).setCell ⟨b,j*2+1,none⟩ (.slice B10 N.d.length d10)):=bn.a_ (((aJ.refl b Di).setCell (p:=⟨b,j*2,none⟩) rfl _).setCell (p:=⟨b,j*2+1,none⟩) rfl _) rfl;have D11:=((hD8.ex x9).ex x10).aM (((aJ.refl b Di).setCell (p:=⟨b,j*2,none⟩) rfl (.slice ZA N.n.length c10)).setCell (p:=⟨b,j*2+1,none⟩) rfl (.slice B10 N.d.length d10)) hbx;have Va:=(he8.trans (bn.aN (S:=λz=>z=b) (x9.trans x10)) (λ_ _ h=>h)).trans E11 (λ_ _ h=>h);have aa8:=(aa7.trans (uR.aN x9)).trans (uR.Qa (S:=S) (b:=b) (i:=j) x10 f10 p10 afR hb m0 m1);rw[HR1.out]at hP;clear HMul HAdd k0 k1 k2 k3 g0 g1 l0 l1 m0 m1 n0 n1;go_wp2_with fail
      go_roundw;case rel=>exact⟨j+1,by omega,by go_num,hP,D11,Va,aa8⟩
      case measure=>simp[intOf];omega
   .obtain rfl:j=ws.length:=by omega
    rw[ann (by rw[Zt.out,Hl.out];exact amX _),aoA (by rw[Hl.out];exact amX _),anR]at hF;go_wp2_with fail
    first|rw[anU]|skip
    refine bodyPost_end (results_none rfl _ _ _) rfl ?_;rw[HT.out];exact⟨rfl,hF,he,hok⟩
theorem rE(p:Int)(S:Nat->Prop)(b b':Nat)(vs ws:List aF)(k:aF)(A B:Option Addr)(c d c1 c2:Nat)(w:World)(hS:∀z,S z->z<w.heap.size)(hb:S b)(_:S b')(hne:b≠b')(hv:oC w S b vs)(hw:oC w S b' ws)(hl:vs.length=ws.length)(hA:RX w S A k.n)(hB:RX w S B k.d)
 (hvv:∀x∈vs,FV p x/\FL 137438953472 x) (Yi:∀x∈ws,FV p x/\FL 68719476736 x) (hk:FV p k) (hkl:FL 68719476736 k) (hn:ws.length<=1000):
 Calls prog 124 #[.int .i64 p,.slice (some ⟨b,0,none⟩) vs.length c1,.agg #[.slice A k.n.length c,.slice B k.d.length d],.slice (some ⟨b',0,none⟩) ws.length c2] w λe w'=>e=.returned (.tuple #[])/\oC w' S b (iY p vs k ws)/\bn (λz=>z=b) w w'/\uR S b w w':=
 have hm:∀{E:Option Addr} {l:List Int},RX w S E l->RX w (λz=>z=b) E l:=λh=>⟨h.1,λn a e hz=>h.2 n a e (by rw[show a.block=b from hz];exact hb)⟩
 zb p S b (some ⟨b',0,none⟩) vs ws k A B c d c1 c2 w hS hb hv (λW h=>(hw.sx h (λz e=>by rw[show z=b from e];exact hb) (λe=>hne e.symm)).II (by omega)) hl (hm hA) (hm hB) hvv Yi hk hkl hn
theorem xh(p:Int)(k:aF)(A B D E:Option Addr)(c d c1 c2:Nat)(w:World)(hA:Rd w A k.n):
 Calls prog 124 #[.int .i64 p,.slice D 0 c1,.agg #[.slice A k.n.length c,.slice B k.d.length d],.slice E 0 c2] w λe w'=>e=.returned (.tuple #[])/\Ex w w':=by
 have Yv:=hA.len;obtain⟨x0,v0⟩:=VB.xn w 51 #[.slice A k.n.length c,.slice B k.d.length d];go_enter Tryz.func124,Tryz.ntmps124
 go_wp2_with fail
 generalize w.alloc (.cells #[.slice A k.n.length c,.slice B k.d.length d] 51)=W0 at*;refine(kR A B c d k.n k.d W0 Yv).mono ?_;rintro e w1 ⟨rfl,x1⟩;have v0:=v0.ex x1;have xx:=x0.trans x1;by_cases hz:k.n=[]
 .rw[decide_eq_true hz];clear hz;go_wp2_with fail
  first|rw[anU]|skip
  refine ane (results_none rfl _ _ _) rfl ?_;exact⟨rfl,xx⟩
 .rw[decide_eq_false hz];clear hz;obtain⟨wl,hwl⟩:∃W,W=w1:=⟨_,rfl⟩;subst hwl;go_wp2_with fail
  go_loopw [14] (λi wi=>i=.int .i64 0/\wi=wl) (λ_ _=>0)
  case atStart=>exact⟨rfl,rfl⟩
  case round=>
   obtain⟨rfl,ew⟩:=hrel;subst ew;go_wp2_with fail
   first|rw[anU]|skip
   refine bodyPost_end (results_none rfl _ _ _) rfl ?_;exact⟨rfl,xx⟩
theorem Sl{b u:World}{g:Nat}{v1:Value}(h:Ex b u)(hg:b.heap.size<=g):Ex b ((u.setCell ⟨g,0,none⟩ v0).setCell ⟨g,1,none⟩ v1):=(h.setCell (p:=⟨g,0,none⟩) hg v0).setCell (p:=⟨g,1,none⟩) hg v1
theorem bD.afT(h:bD w S K G G' bs bs' Z n m)(hS:∀z,S z->z<w.heap.size)(hir:i≠r){l:List aF}(hz:Z[i]?=some z)(hl:Z[r]?=some l){MS:Option Nat}(hi:bs[i]?=some ob)(hr:bs[r]?=some MS)(hn0:0<n)(hn:n<=1000)
 {k:aF} {A B:Option Addr} {c d c1 c2:Nat} (hA:RX w S A k.n) (hB:RX w S B k.d) (hzg:jH p 137438953472 (z.take n)) (ZK:jH p 68719476736 (l.take n)) (hk:FV p k) (hkl:FL 68719476736 k):
 Calls prog 124 #[.int .i64 p,.slice (pB ob) n c1,.agg #[.slice A k.n.length c,.slice B k.d.length d],.slice (pB MS) n c2] w λe w'=>e=.returned (.tuple #[])/\bD w' S K G G' bs bs' (Z.set i (iY p (z.take n) k (l.take n)++z.drop n)) n m/\bn (λq=>ob=some q) w w'/\(∀q,ob=some q->S q):=by
 obtain⟨f1,e1⟩:=h.r.row i ob (z.take n) hi (by rw[am7,hz];rfl);obtain⟨f2,e2⟩:=h.r.row r MS (l.take n) hr (by rw[am7,hl];rfl);cases ob with
 |none=>have:z.take n=[]:=f1;rw[this]at e1;simp at e1;omega
 |some g=>
  cases MS with
  |none=>have:l.take n=[]:=f2;rw[this]at e2;simp at e2;omega
  |some g'=>
   have hne:g≠g':=λe=>hir (h.r.nd i r g hi (by rw[hr,e]))
   have hc:=rE p S g g' (z.take n) (l.take n) k A B c d c1 c2 w hS f1.2 f2.2 hne f1.1 f2.1 (by rw[e1,e2]) hA hB hzg ZK hk hkl (by rw[e2];exact hn);rw[e1,e2]at hc;refine hc.mono ?_;rintro e w' ⟨rfl,hF,x,ok⟩;have hx:bn (λq=>some g=some q) w w':=x.widen (λz _ e=>by rw[e]);refine⟨rfl,h.Wh hz hi ⟨hF,f1.2⟩ ?_ hx (λq e=>by cases e;exact ok),hx,λq e=>by injection e with e;exact e▸f1.2⟩;unfold iY oV;split
   .exact e1
   .rw[List.length_zipWith,e1,e2,Nat.min_self]
theorem bD.afU(h:bD w S K G G' bs bs' Z n m)(hS:∀z,S z->z<w.heap.size)(hir:i≠r){l:List aF}(hz:Z[i]?=some z)(hl:Z[r]?=some l)(hzn:n<=z.length){MS:Option Nat}(hi:bs'[i]?=some ob)(hr:bs'[r]?=some MS)(hm:m<=1000)
 {k:aF} {A B:Option Addr} {c d c1 c2:Nat} (hA:RX w S A k.n) (hB:RX w S B k.d) (hzg:jH p 137438953472 (z.drop n)) (ZK:jH p 68719476736 (l.drop n)) (hk:FV p k) (hkl:FL 68719476736 k):
 Calls prog 124 #[.int .i64 p,.slice (pB ob) m c1,.agg #[.slice A k.n.length c,.slice B k.d.length d],.slice (pB MS) m c2] w λe w'=>e=.returned (.tuple #[])/\bD w' S K G G' bs bs' (Z.set i (z.take n++iY p (z.drop n) k (l.drop n))) n m/\bn (λq=>ob=some q) w w':=by
 obtain⟨f1,e1⟩:=h.a.row i ob (z.drop n) hi (by rw[am7,hz];rfl);obtain⟨f2,e2⟩:=h.a.row r MS (l.drop n) hr (by rw[am7,hl];rfl);by_cases hm0:m=0
 .subst hm0;have q1:z.drop n=[]:=aou e1;refine(xh p k A B (pB ob) (pB MS) c d c1 c2 w hA.1).mono ?_;rintro e w' ⟨rfl,x⟩;have ha:iY p (z.drop n) k (l.drop n)=z.drop n:=by
   rw[q1];unfold iY oV;split<;>rfl
  rw[ha,aog];have hs:Z.set i z=Z:=by
   refine anG λj=>?_
   rw[ang];split
   .rename_i e;subst e;rw[hz,amY (am2.1 hz).1]
   .rfl
  rw[hs];exact⟨rfl,h.ex x,bn.aN x⟩
 .cases ob with
  |none=>have:z.drop n=[]:=f1;rw[this]at e1;simp at e1;omega
  |some g=>
   cases MS with
   |none=>have:l.drop n=[]:=f2;rw[this]at e2;simp at e2;omega
   |some g'=>
    have hne:g≠g':=λe=>hir (h.a.nd i r g hi (by rw[hr,e]))
    have hc:=rE p S g g' (z.drop n) (l.drop n) k A B c d c1 c2 w hS f1.2 f2.2 hne f1.1 f2.1 (by rw[e1,e2]) hA hB hzg ZK hk hkl (by rw[e2];exact hm);rw[e1,e2]at hc;refine hc.mono ?_;rintro e w' ⟨rfl,hF,x,ok⟩;have hx:bn (λq=>some g=some q) w w':=x.widen (λz _ e=>by rw[e]);refine⟨rfl,h.Wi hz hzn hi ⟨hF,f1.2⟩ ?_ hx (λq e=>by cases e;exact ok),hx⟩;unfold iY oV;split
    .exact e1
    .rw[List.length_zipWith,e1,e2,Nat.min_self]
def gJ{K:Type}(O:Ops K)(Z0:List (List K)):Nat->List (List K)×Nat
 |0=>(Z0,0)
 |c+1=>if O.qg (gJ O Z0 c).1 (gJ O Z0 c).2 c<(gJ O Z0 c).1.length then(O.piv (gJ O Z0 c).1 (gJ O Z0 c).2 c (O.qg (gJ O Z0 c).1 (gJ O Z0 c).2 c),(gJ O Z0 c).2+1)else gJ O Z0 c
theorem pR(p:Int)(S KS:Nat->Prop)(G G':Nat)(Xb GU:List (Option Nat))(Z0:List (List aF))(n m R cG OD:Nat)(w:World)(hF:aj p=true)(hS:∀z,S z->z<w.heap.size)(h:bD w S KS G G' Xb GU Z0 n m)(hW:aZ (n+m) Z0)(sJ:∀c,c<=n->iK p 17179869184 (gJ (ah p) Z0 c).1)(hR:Z0.length=R)
 (hn:n<=1000) (hm:m<=1000) (hR1:R<=1000) (hc1:R<=cG) (hc2:cG<=9223372036854775807):
 Calls prog 90 #[.int .i64 p,.slice (some ⟨G,0,none⟩) R cG,.int .i64 n,.slice (some ⟨G',0,none⟩) R OD] w λe w'=>∃bs bs',e=.returned (.int .i64 ((ah p).red n 0 0 Z0).2)/\bD w' S KS G G' bs bs' ((ah p).red n 0 0 Z0).1 n m/\bn S w w':=by
 obtain⟨FIN,qW⟩:=xq ((ah p).red n 0 0 Z0);rw[qW];have HF:=amW hF;have HW:=amW hW;have HG:=amW (show gJ (ah p) Z0 0=(Z0,0)from rfl);have Zw:=amW sJ;have HRR:=amW hR;have iP:=amW qW;have HS:=amW hS;clear hF hW sJ hR qW hS;go_enter Tryz.func90,Tryz.ntmps90
 go_wp2_with fail
 obtain⟨x0,v0⟩:=VB.xn w 3 #[.int .i64 0];generalize w.alloc (.cells #[.int .i64 0] 3)=W0 at*;have h0:=h.ex x0;go_loopg [9,10] n (λf s9 s10 wi=>∃(c r q:Nat) (bs bs':List (Option Nat)) (Z:List (List aF)),c+f=n/\s9=.int .i64 r/\s10=.pointer (some ⟨q,0,none⟩)/\VB wi q 3 #[.int .i64 c]/\w.heap.size<=q/\bD wi S KS G G' bs bs' Z n m/\Hid (aZ (n+m) Z)/\Hid (gJ (ah p) Z0 c=(Z,r))/\Hid (Z.length=R)/\r<=R/\Hid ((ah p).red f c r Z=FIN)/\bn S w wi)
 case atStart=>exact⟨0,0,w.heap.size,Xb,GU,Z0,by omega,rfl,rfl,v0,amX _,h0,HW,HG,HRR,am4 _,iP,bn.aN x0⟩
 case round=>
  clear h0 v0 HW HG HRR iP h;obtain⟨c,r,q,bs,bs',Z,hcf,rfl,rfl,hq,Rn,hT,HW,HG,HZ,Jl,iP,he⟩:=hrel;have Z8:=amW (show iK p 17179869184 Z by have:=Zw.out c (by omega);rw[HG.out]at this;exact this);have q0:=hq.c0;have q1:=hq.frozen 0;have fin:∀f,gk=f->(f=0∨R<=r)->FIN=(Z,r):=λf e e2=>by
   rw[<-iP.out];subst e;rcases e2 with e2|e2
   .rw[e2];rfl
   .exact yY _ _ _ _ _ (by rw[HZ.out];exact e2)
  cases gk with
  |zero=>
   obtain rfl:c=n:=by omega
   have H:=amW (fin 0 rfl (.inl rfl));clear fin;go_wp2_with fail
   go_ret;rw[H.out];exact⟨bs,bs',rfl,hT,he⟩
  |succ f=>
   by_cases hlt:r<R
   .clear fin;obtain⟨vs,hvl,hvs,hrd⟩:=hT.r.vals (by rw[am5,HZ.out];omega);rw[am5,HZ.out]at hvl;have aaY:=hrd r;obtain⟨qs,hqs⟩:∃qs,(Z.drop r).map (λrow=> !ig ((ah p).el row c))=qs:=⟨_,rfl⟩;have aa0:qs.length=(vs.drop r).length:=by rw[<-hqs,am5,anp,anp,HZ.out,hvl]
    have hcall:=Nj 120 (enters_of Tryz.func120 (by kernel_rfl) rfl) #[.pointer (some ⟨q,0,none⟩)] qs (some ⟨G,r,none⟩) (cG-r) (vs.drop r) wr aaY aa0 (λW i v b hx hv hb=>by
     have hil:=(am2.1 hv).1;rw[anp,hvl]at hil;obtain⟨ob,row,c9,lq,hrow,hrl,Vh,_⟩:=(hT.ex hx).r.at_ (j:=r+i) (by rw[am5,HZ.out];omega);obtain⟨c8,U5⟩:=hvs _ ob lq;rw[anB,U5]at hv;injection hv with hv;subst hv;rw[<-hrl];refine MB p S ob row c c8 q W Vh (by omega) (af hx q0) (by omega) b ?_;rw[<-hqs,am7,anB]at hb;rw[am7]at hrow;cases hz:Z[r+i]? with
     |none=>rw[hz]at hrow;cases hrow
     |some z=>
      rw[hz]at hrow hb;injection hrow with hrow;injection hb with hb;rw[<-hb,<-hrow];have:(ah p).el (z.take n) c=(ah p).el z c:=by unfold Ops.el;rw[am6,am6,anh,amY (by omega)]
      rw[this])
    rw[show(vs.drop r).length=R-r by rw[anp,hvl]]at hcall;have hdec:=Vn (p:=p) Z r c qs hqs.symm (by rw[HZ.out];omega);have hcr:¬(cG=r):=by omega
    clear hrd aaY aa0 hvs hvl hqs;have HD:=amW hdec;clear hdec;go_wp2_with fail
    refine hcall.mono ?_;rintro e w5 ⟨rfl,x5⟩;have BH:=hT.ex x5;have hq5:=hq.ex x5;have WI:=he.trans (bn.aN (S:=S) x5) (λ_ _ h=>h);have hqq:=hq5.lt;clear hcall hT hq he q0 q1 vs;have q0:=hq5.c0;have q1:=hq5.frozen 0;rcases HD.out with⟨hi,hnf⟩|⟨k,hi,NA,hkl⟩
    .rw[hi];have HN:=amW (show(ah p).red f (c+1) r Z=FIN by rw[<-iP.out,Ops.red,amZ hnf]);have Xi:=amW (show gJ (ah p) Z0 (c+1)=(Z,r) by rw[gJ,HG.out];exact amZ hnf);clear hi hnf HD;go_wp2_with fail
     obtain⟨y6,v6⟩:=VB.xn w5 3 #[.int .i64 ((c:Int)+1)]
     go_roundg f
     case measure=>omega
     case rel=>exact⟨c+1,r,w5.heap.size,bs,bs',Z,by omega,rfl,rfl,by simpa using v6,Nat.le_of_lt (by omega),BH.ex y6,HW,Xi,HZ,Jl,HN,WI.trans (bn.aN (S:=S) y6) (λ_ _ h=>h)⟩
    .rw[hi];have HN:=amW (show(ah p).red f (c+1) (r+1) ((ah p).piv Z r c (r+k))=FIN by rw[<-iP.out,Ops.red,amY (by rw[NA];exact hkl),NA]);have HX:=amW (show ig ((ah p).el (Z.getD (r+k) []) c)=false by
      have:=(jm (ah p) (show(ah p).qg Z r c<Z.length by rw[NA];exact hkl)).2;rw[NA]at this;exact this)
     have KH:r+k<R:=by rw[<-HZ.out];exact hkl
     have Xi:=amW (show gJ (ah p) Z0 (c+1)=((ah p).piv Z r c (r+k),r+1) by rw[gJ,HG.out];dsimp only;rw[NA,amY hkl]);clear hi NA HD hkl;obtain⟨K,hK⟩:=xq (r+k);have hwr:IntKind.i64.wrap ((r:Int)+(k:Int))=(K:Int):=by rw[ant _ (by omega)];omega
     rw[hK]at HN HX KH Xi;have hrK:r<=K:=by omega
     have HK:=amW hK;clear hK;obtain⟨oi,ri,ci,hci,hoi,nI,aey,hFi,ei⟩:=BH.r.TA (j:=r) (by rw[am5,HZ.out];exact hlt);obtain⟨ok,rk,ck,hck,hok,hrk,U7,hFk,ek⟩:=BH.r.TA (j:=K) (by rw[am5,HZ.out];exact KH);obtain⟨ai,si,di,hdi,hai,hsi,aew,hAi,fi⟩:=BH.a.TA (j:=r) (by rw[am5,HZ.out];exact hlt);obtain⟨ak,sk,dk,hdk,hak,hsk,aev,hAk,fk⟩:=BH.a.TA (j:=K) (by rw[am5,HZ.out];exact KH);have z0:=BH.r.frozen r;have z1:=BH.r.frozen K;have z2:=BH.a.frozen r;have z3:=BH.a.frozen K;have ab3:=BH.ne;have ab0:=amW hoi;have abZ:=amW hok;have ab2:=amW hai;have ab1:=amW hak;have pY:=amW nI;have xD:=amW hrk;have agj:=amW (show(n<=ci/\n<=ck)/\m<=di/\m<=dk from⟨⟨hci,hck⟩,hdi,hdk⟩);clear hci hck hdi hdk hoi hok hai hak nI hrk hsi hsk hFi hFk hAi hAk aey U7 aew aev;go_wp2_with fail
     go_cut [11]from 37 to 150 (λs11 wx=>s11=.int .i64 k/\wx=((w5.setCell ⟨G,r,none⟩ (.slice (pB ok) n ck)).setCell ⟨G,K,none⟩ (.slice (pB oi) n ci)).drew)
     case first=>
      by_cases hk0:K=r
      .subst hk0;have hii:=ei.symm.trans ek;injection hii with hii;have Hii:=amW hii;clear hii;go_region_with (fail)
       all_goals
        go_wp2_with fail
        go_meet
        exact⟨rfl,by rw[Hii.out]⟩
      .go_region_with (fail)
       all_goals
        go_wp2_with fail
        go_meet
        exact⟨rfl,rfl⟩
     case rest=>
      obtain⟨rfl,rfl⟩:=hcut;have E7:aJ G w5 ((w5.setCell ⟨G,r,none⟩ (.slice (pB ok) n ck)).setCell ⟨G,K,none⟩ (.slice (pB oi) n ci)).drew:=(((aJ.refl G w5).setCell (p:=⟨G,r,none⟩) rfl _).setCell (p:=⟨G,K,none⟩) rfl _).drew;have kx:∀(o:Nat) (v:Value),w5.cell? ⟨G',o,none⟩=some v->(((w5.setCell ⟨G,r,none⟩ (.slice (pB ok) n ck)).setCell ⟨G,K,none⟩ (.slice (pB oi) n ci)).drew).cell? ⟨G',o,none⟩=some v:=λo v hv=>
       (anm (w:=w5) (a:=⟨G',o,none⟩) (E7.block G' (iM (p:=⟨G',o,none⟩) hv) (λe=>by injection e with e;exact ab3 e.symm))).trans hv
      have kz:∀(o:Nat),w5.frozen? ⟨G',o,none⟩=false->(((w5.setCell ⟨G,r,none⟩ (.slice (pB ok) n ck)).setCell ⟨G,K,none⟩ (.slice (pB oi) n ci)).drew).frozen? ⟨G',o,none⟩=false:=λo hv=>by have hb:=E7.block G' BH.a.lt (λe=>by injection e with e;exact ab3 e.symm);unfold World.frozen? at hv⊢;rw[hb];exact hv
      obtain⟨W7,ZM⟩:=xq (((w5.setCell ⟨G,r,none⟩ (.slice (pB ok) n ck)).setCell ⟨G,K,none⟩ (.slice (pB oi) n ci)).drew);rw[ZM]at E7 kx kz⊢;have HW7:=amW ZM;clear ZM;replace fi:=kx _ _ fi;replace fk:=kx _ _ fk;replace z2:=kz _ z2;replace z3:=kz _ z3;clear kx kz ei ek z0 z1;go_wp2_with fail
      go_cut [11]from 37 to 150 (λs11 wx=>s11=.int .i64 k/\wx=((W7.setCell ⟨G',r,none⟩ (.slice (pB ak) m dk)).setCell ⟨G',K,none⟩ (.slice (pB ai) m di)).drew)
      case first=>
       by_cases hk0:K=r
       .subst hk0;have hii:=fi.symm.trans fk;injection hii with hii;have Hii:=amW hii;clear hii;go_region_with (fail)
        all_goals
         go_wp2_with fail
         go_meet
         exact⟨rfl,by rw[Hii.out]⟩
       .go_region_with (fail)
        all_goals
         go_wp2_with fail
         go_meet
         exact⟨rfl,rfl⟩
      case rest=>
       obtain⟨rfl,rfl⟩:=hcut;obtain⟨zi,hzi⟩:∃z,Z[r]?=some z:=⟨_,am0 (by rw[HZ.out];exact hlt)⟩;obtain⟨zk,Gg⟩:∃z,Z[K]?=some z:=⟨_,am0 (by rw[HZ.out];exact KH)⟩;obtain⟨ZO,E9⟩:=BH.swap ab0.out abZ.out ab2.out ab1.out hzi Gg (ci:=ci) (ck:=ck) (di:=di) (dk:=dk) agj.out HW7.out.symm rfl;generalize((W7.setCell ⟨G',r,none⟩ (.slice (pB ak) m dk)).setCell ⟨G',K,none⟩ (.slice (pB ai) m di)).drew=W9 at*;generalize(bs.set r ok).set K oi=VL at*;generalize(bs'.set r ak).set K ai=N9 at*;have Yl:¬S q:=λhs=>by have:=HS.out _ hs;omega
       have Ym:VB W9 q 3 #[.int .i64 c]:=(E9.block q hqq Yl).trans hq5;have YF:=WI.trans E9 (λ_ _ h=>h);clear fi fk z2 z3 ab0 abZ ab2 ab1 pY xD BH hq5 WI E7 HW7 q0 q1 E9 hqq x5;have hUr:(jw Z r K)[r]?=some zk:=by
        rw[lD (by rw[HZ.out];exact hlt) (by rw[HZ.out];exact KH) r (by rw[HZ.out];exact hlt)];by_cases e:r=K
        .rw[amY e,am6,e,Gg];rfl
        .rw[amZ e,amY rfl,am6,Gg];rfl
       have hUl:(jw Z r K).length=R:=by rw[sS,HZ.out]
       have hUW:aZ (n+m) (jw Z r K):=λv hv=>by obtain⟨i,hi⟩:=anc hv;have hil:=(am2.1 hi).1;rw[hUl]at hil;rw[lD (by rw[HZ.out];exact hlt) (by rw[HZ.out];exact KH) i (by rw[HZ.out];exact hil)]at hi;injection hi with hi;rw[<-hi];exact HW.out.at_ (uV (by rw[HZ.out];exact hil) (by rw[HZ.out];exact hlt) (by rw[HZ.out];exact KH))
       have hUG:iK p 17179869184 (jw Z r K):=λv hv=>by obtain⟨i,hi⟩:=anc hv;have hil:=(am2.1 hi).1;rw[hUl]at hil;rw[lD (by rw[HZ.out];exact hlt) (by rw[HZ.out];exact KH) i (by rw[HZ.out];exact hil)]at hi;injection hi with hi;have hsl:=uV (n:=Z.length) (by rw[HZ.out];exact hil) (by rw[HZ.out];exact hlt) (by rw[HZ.out];exact KH) (i:=i) (r:=r) (k:=K);rw[<-hi,am6,am0 hsl];exact Z8.out _ (anO hsl)
       have aaN:zk.length=n+m:=hUW _ (am1 hUr);have aaO:=hUG _ (am1 hUr);have RA:Z.getD K []=zk:=by rw[am6,Gg];rfl
       rw[RA]at HX;have abF:∀(i:Nat) (u:List aF),(jw Z r K)[i]?=some u->((ah p).piv Z r c K)[i]?=some ((ah p).Bd r c ((ah p).oJ zk c) i u):=λi u hu=>by unfold Ops.piv;rw[aoK,hu,RA];rfl
       have hTl:((ah p).piv Z r c K).length=R:=by rw[dU,HZ.out]
       have ZN:aZ (n+m) ((ah p).piv Z r c K):=HW.out.piv (by rw[HZ.out];exact hlt) (by rw[HZ.out];exact KH);have Zr:=amW abF;have HTW:=amW ZN;have AX:=amW hTl;have HUW:=amW hUW;have HUG:=amW hUG;have HUr:=amW hUr;have Zq:=amW hUl;have Em:=amW aaN;have TM:=amW aaO;obtain⟨B,hbd,hB⟩:∃B:Nat,B<=17179869184/\17179869184=B:=⟨_,amX _,rfl⟩;clear abF ZN hTl hUW hUG hUr hUl aaN aaO RA hzi Gg HW HG Z8 iP;generalize(ah p).piv Z r c K=T at*;generalize jw Z r K=U at*;rw[hB]at TM HUG;have HB:=amW hB;clear hB;have hcn:c<n:=by omega
       obtain⟨ob,row,cr,lq,hrow,hrl,Vh,er⟩:=ZO.r.at_ (j:=r) (by rw[am5,Zq.out];exact hlt);obtain⟨oa,sow,ca,hoa,Jk,hsl,hFA,ea⟩:=ZO.a.at_ (j:=r) (by rw[am5,Zq.out];exact hlt);obtain rfl:row=zk.take n:=by rw[am7,HUr.out]at hrow;injection hrow with hrow;exact hrow.symm
       obtain rfl:sow=zk.drop n:=by rw[am7,HUr.out]at Jk;injection Jk with Jk;exact Jk.symm
       obtain⟨x0,hx0⟩:∃x,zk[c]?=some x:=⟨_,am0 (by rw[Em.out];omega)⟩;have U4:(zk.take n)[c]?=some x0:=by rw[anh,amY hcn];exact hx0
       have hel:(ah p).el zk c=x0:=(ah p).bT hx0;rw[hel]at HX;obtain⟨g0,rfl⟩:∃g,ob=some g:=by
        cases ob with
        |none=>have:zk.take n=[]:=Vh;rw[this]at U4;simp at U4
        |some g=>exact⟨g,rfl⟩
       obtain⟨Ax,cx,Bx,dx,b0,b1,hAx,hBx⟩:=Vh.1.at_ U4;have hpb:pB (some g0)=some ⟨g0,0,none⟩:=rfl;rw[hpb]at er;have q0:=Ym.c0;have Hx0:=amW hx0;have Bg:=amW hel;have Hob:=amW lq;have Hoa:=amW hoa;have x0g:=TM.out x0 (am1 hx0);have VP:=amW x0g;clear hx0 U4 hel lq hoa hrow Jk hrl hsl x0g hpb;have hgG:¬(g0=G):=ZO.r.ng r g0 Hob.out;have hqG:¬(q=G):=λe=>Yl (e▸ZO.r.sg)
       go_wp2_with fail
       go_cut [12]from 37 to 150 (λs12 wx=>∃gp,s12=.pointer (some ⟨gp,0,none⟩)/\VB wx gp 51 #[.slice Ax x0.n.length cx,.slice Bx x0.d.length dx]/\W9.heap.size<=gp/\Ex W9 wx)
       case first=>
        have HS9:∀W,Ex W9 W->(W.cell? ⟨G,r,none⟩=some (.slice (some ⟨g0,0,none⟩) n cr)/\W.cell? ⟨q,0,none⟩=some (.int .i64 c)/\W.cell? ⟨g0,c*2,none⟩=some (.slice Ax x0.n.length cx)/\W.cell? ⟨g0,c*2+1,none⟩=some (.slice Bx x0.d.length dx)):=λW h=>⟨af h er,af h q0,af h b0,af h b1⟩
        go_region_held3 (λW=>W.cell? ⟨G,r,none⟩=some (.slice (some ⟨g0,0,none⟩) n cr)/\W.cell? ⟨q,0,none⟩=some (.int .i64 c)/\W.cell? ⟨g0,c*2,none⟩=some (.slice Ax x0.n.length cx)/\W.cell? ⟨g0,c*2+1,none⟩=some (.slice Bx x0.d.length dx)) (first
         |(exact HS9 _ (asF W9))|(exact HS9 _ (asF W9).drew)|(exact HS9 _ ((asF W9).alloc _))|(exact HS9 _ ((asF W9).drew.alloc _))|(exact HS9 _ ((asF W9).alloc _).drew)) (fail)
        all_goals
         go_wp2_with fail
         go_meet
         first
         |exact⟨_,rfl,VB.new _ _ _,amX _,((asF W9).alloc _).drew⟩
         |exact⟨_,rfl,VB.new _ _ _,amX _,((asF W9).drew.alloc _)⟩
       case rest=>
        obtain⟨Be,rfl⟩:∃q,q=wc:=⟨_,rfl⟩;obtain⟨gp,rfl,Ba,akf,x10⟩:=hcut;have abI:=ZO.ex x10;have aa2:=Ym.ex x10;have Jr:=YF.trans (bn.aN (S:=S) x10) (λ_ _ h=>h);have er:=af x10 er;have ea:=af x10 ea;have hAx:=hAx.ex x10;have hBx:=hBx.ex x10;have hwz:=Jr.size;have hw9:=YF.size;have abn:¬S gp:=λhs=>by have:=HS.out _ hs;omega
        clear ZO Ym YF x10 b0 b1 q0 Vh hFA;go_wp2_with fail
        go_quiet (fail)
        go_wp2_with fail
        have abH:=abI.ex ((asF Be).drewN nq);have hq11:VB (Be.drewN nq) q 3 #[.int .i64 c]:=aa2;have WE:VB (Be.drewN nq) gp 51 #[.slice Ax x0.n.length cx,.slice Bx x0.d.length dx]:=Ba;have Va:=Jr.trans (bn.aN (S:=S) ((asF Be).drewN nq)) (λ_ _ h=>h);have WR:=hAx.ex ((asF Be).drewN nq);have WQ:=hBx.ex ((asF Be).drewN nq);have aem:w.heap.size<=(Be.drewN nq).heap.size:=hwz;generalize Be.drewN nq=W11 at*;clear abI aa2 Ba Jr hAx hBx er ea hwz hw9;obtain⟨lead,hlead⟩:=xq ((ah p).oJ zk c);have Rx:lead.length=n+m:=by rw[<-hlead,nW];exact Em.out
        have hlm:lead=zk.map (λx=>eG p (mX p x0) x):=by rw[<-hlead];unfold Ops.oJ;rw[Bg.out];rfl
        have ZK:jH p (B+B) lead:=by rw[<-hlead];exact TM.out.oJ (by rw[Em.out];omega) (by rw[Bg.out];exact HX.out)
        have aii:=amW hlead;have AU:=amW Rx;have Hlm:=amW hlm;have Hlg:=amW ZK;rw[hlead]at Zr;clear hlead Rx hlm ZK;have hs0:U=U.set r zk:=by
         refine anG λj=>?_
         rw[ang];split
         .rename_i e;subst e;rw[HUr.out,amY (by rw[Zq.out];exact hlt)]
         .rfl
        have Hs0:=amW hs0;clear hs0;go_loopw [89] (λi wi=>∃(t:Nat) (y:List aF),t<=2/\i=.int .i64 t/\bD wi S KS G G' VL N9 (U.set r y) n m/\Hid (y=(if 1<=t then lead.take n else zk.take n)++(if 2<=t then lead.drop n else zk.drop n))/\VB wi q 3 #[.int .i64 c]/\VB wi gp 51 #[.slice Ax x0.n.length cx,.slice Bx x0.d.length dx]/\RX wi S Ax x0.n/\RX wi S Bx x0.d/\bn S w wi) (λi _=>2-(intOf i).toNat)
        case atStart=>exact⟨0,zk,by omega,rfl,by rw[<-Hs0.out];exact abH,amW (by simp),hq11,WE,WR,WQ,Va⟩
        case round=>
         clear abH hq11 WE WR WQ Va aem;obtain⟨t,y,ht,rfl,hT,Hy,hq,Ba,hAx,hBx,he⟩:=hrel;have hyl:y.length=n+m:=by rw[Hy.out];have h1:=AU.out;have h2:=Em.out;split<;>split<;>simp[am8,anp,h1,h2]
         have hyr:(U.set r y)[r]?=some y:=by rw[apf (by rw[Zq.out];exact hlt)]
         have Hyl:=amW hyl;have hyt:y.take n=if 1<=t then lead.take n else zk.take n:=by have h1:=AU.out;have h2:=Em.out;rw[Hy.out,aoY (by split<;>simp[am8,h1,h2])]
         have hyd:y.drop n=if 2<=t then lead.drop n else zk.drop n:=by have h1:=AU.out;have h2:=Em.out;rw[Hy.out,aoM (by split<;>simp[am8,h1,h2])]
         have RJ:=(hT.r.row r (some g0) (y.take n) Hob.out (by rw[am7,hyr];rfl)).1;have RU:=(hT.a.row r oa (y.drop n) Hoa.out (by rw[am7,hyr];rfl)).1;rw[hyt]at RJ;rw[hyd]at RU;have Hyt:=amW hyt;have Hyd:=amW hyd;clear hyl hyt hyd;rcases(show t=0∨t=1∨t=2 by omega)with rfl|rfl|rfl
         .rw[show((0:Nat):Int)=(0:Int)from rfl];rw[amZ (by omega)]at RJ;obtain⟨RJ,Gl⟩:=RJ;have Hy2:=amW (show y.drop n=zk.drop n by rw[Hyd.out,amZ (by omega)]);clear RU;have WC:¬(q=g0):=λe=>Yl (e▸Gl)
          have hgg:¬(gp=g0):=λe=>abn (e▸Gl)
          have hpb:pB (some g0)=some ⟨g0,0,none⟩:=rfl;have hxl:(zk.take n).length=n:=by rw[am8,Em.out];omega
          have Om:=amW hxl;have hxg:∀x∈(zk.take n),FV p x/\FL B x:=λx hx=>TM.out x (by first|exact an5 hx|exact aoi hx)
          have AR:=amW hxg;clear hxl hxg;obtain⟨xs,hxs⟩:=xq ((zk.take n));rw[hxs]at RJ Om AR;have Hxs:=amW hxs;clear hxs;obtain⟨N,hN⟩:∃N,xs.map (λx=>eG p (mX p x0) x)=N:=⟨_,rfl⟩;have xL:=amW (show N.length=xs.length by rw[<-hN,am5]);have Zv:=amW (show∀(j:Nat) (x:aF),xs[j]?=some x->N[j]?=some (eG p (mX p x0) x)from λj x h=>by rw[<-hN,am7,h];rfl);have HNe:=amW hN;clear hN;have hF0:=RJ;obtain⟨wl,hwl⟩:∃W,W=wr:=⟨_,rfl⟩;subst hwl;have hws:=he.size;have hix:=Yd (some ⟨g0,0,none⟩) (pB oa) n cr m ca wl;go_wp2_with fail
          clear hix;go_loopw [94] (λi wi=>∃j:Nat,j<=n/\i=.int .i64 j/\oC wi S g0 (N.take j++xs.drop j)/\VB wi q 3 #[.int .i64 c]/\VB wi gp 51 #[.slice Ax x0.n.length cx,.slice Bx x0.d.length dx]/\RX wi S Ax x0.n/\RX wi S Bx x0.d/\bn (λz=>z=g0) wl wi/\uR S g0 wl wi) (λi _=>n-(intOf i).toNat)
          case atStart=>exact⟨0,am4 _,rfl,by simpa using hF0,hq,Ba,hAx,hBx,bn.refl _ _,uR.refl _ _ _⟩
          case round=>
           clear hF0 RJ hq Ba hAx hBx;obtain⟨j,hj,rfl,hF,hq,Ba,hAx,hBx,hel,hok⟩:=hrel;have hsz:=hel.size;by_cases hjl:j<n
           .obtain⟨x,hx⟩:∃x,xs[j]?=some x:=⟨_,am0 (by rw[Om.out];exact hjl)⟩;have hat:=zK N xs xL.out j (by rw[Om.out];exact hjl);rw[hx]at hat;obtain⟨Ay,cy,By,dy,e0,e1,ZR,ZQ⟩:=hF.at_ hat;have hxm:=AR.out x (am1 hx);have VW:=amW (tV N xs xL.out j (eG p (mX p x0) x) (Zv.out j x hx));have Hxm:=amW hxm;have z0:=hF.frozen (j*2);have z1:=hF.frozen (j*2+1);obtain⟨y7,v7⟩:=VB.xn wr 51 #[.slice Ay x.n.length cy,.slice By x.d.length dy];have s7:(wr.alloc (.cells #[.slice Ay x.n.length cy,.slice By x.d.length dy] 51)).heap.size=wr.heap.size+1:=by simp
            have gl0:=(Ba.ex y7).c0;have gl1:=(Ba.ex y7).c1;clear hx hat hxm;go_wp2_with fail
            generalize wr.alloc (.cells #[.slice Ay x.n.length cy,.slice By x.d.length dy] 51)=W7 at*;have Rj:x0.n≠[]:=λe=>by have:=HX.out;rw[dM.2 e]at this;cases this
            have hdv:=C_ p x x0 Ay By cy dy Ax Bx cx dx W7 Hxm.out.1 VP.out.1 (ZR.ex y7).1 (ZQ.ex y7).1 (hAx.ex y7).1 (hBx.ex y7).1 Rj (Hxm.out.2.mono (by omega)) (VP.out.2.mono (by omega));obtain⟨res,hres⟩:=xq (eG p (mX p x0) x);rw[hres]at hdv VW;clear hres;refine hdv.mono ?_;rintro e w8 ⟨A8,c8,B8,d8,rfl,f8,p8,Zc,x8⟩;have y8:=y7.trans x8;have OA:=hF.ex y8;have e0:=af y8 e0;have e1:=af y8 e1;have z0:=OA.frozen (j*2);have z1:=OA.frozen (j*2+1);have hz7:=y7.size;have hS7:∀z,S z->z<W7.heap.size:=λz hz=>by have:=HS.out z hz;omega
            have hP:=OA.put Gl j res (c:=c8) (d:=d8) (f8.rx hS7) (p8.rx hS7);rw[VW.out]at hP;have E9:aJ g0 w8 ((w8.setCell ⟨g0,j*2,none⟩ (.slice A8 res.n.length c8)).setCell ⟨g0,j*2+1,none⟩ (.slice B8 res.d.length d8)):=((aJ.refl g0 w8).setCell (p:=⟨g0,j*2,none⟩) rfl _).setCell (p:=⟨g0,j*2+1,none⟩) rfl _;have Ym:=(hq.ex y8).aM E9 WC;have Yx:=(Ba.ex y8).aM E9 hgg;have X9:=bn.a_ (S:=λz=>z=g0) E9 rfl;have YS:=(hAx.ex y8).sx X9 (λz e=>e▸Gl);have YR:=(hBx.ex y8).sx X9 (λz e=>e▸Gl);have YD:=(hel.trans (bn.aN (S:=λz=>z=g0) y8) (λ_ _ h=>h)).trans X9 (λ_ _ h=>h);have Yp:=(hok.trans (uR.aN y7)).trans (uR.Qa (S:=S) (b:=g0) (i:=j) x8 f8 p8 Zc Gl e0 e1);have hjx:j<n:=hjl;clear E9 X9 VW gl0 gl1 f8 p8 Rj OA hdv;go_wp2_with fail
            go_roundw;case rel=>exact⟨j+1,by omega,by go_num,hP,Ym,Yx,YS,YR,YD,Yp⟩
            case measure=>simp[intOf];omega
           .obtain rfl:j=n:=by omega
            rw[ann (by rw[xL.out,Om.out];exact amX _),aoA (by rw[Om.out];exact amX _),anR]at hF;have hgr:bn (λz=>some g0=some z) wl wr:=hel.widen (λz _ e=>by rw[e]);have Oy:=hT.Wh (i:=r) (z:=y) hyr Hob.out (r':=N) ⟨hF,Gl⟩ (by rw[xL.out,Om.out]) hgr (λq e=>by cases e;exact hok);rw[aoH]at Oy;have he2:=he.trans (hel.widen (T:=S) (λz _ e=>e▸Gl)) (λ_ _ h=>h);go_wp2_with fail
            go_roundw;case rel=>exact⟨0+1,_,by omega,by go_num,Oy,amW (by rw[Hy2.out,<-HNe.out,<-Hxs.out,Hlm.out];simp[List.map_take]),hq,Ba,hAx,hBx,he2⟩
            case measure=>simp[intOf]
         .rw[show((1:Nat):Int)=(1:Int)from rfl];rw[amZ (by omega)]at RU;clear RJ;have Hy2:=amW (show y.take n=lead.take n by rw[Hyt.out,amY (by omega)]);cases oa with
          |none=>
           have hm0:zk.drop n=[]:=RU;have hm1:m<=0:=by have:=congrArg List.length hm0;rw[anp,Em.out]at this;simp at this;omega
           have Hy3:=amW (show y=(if 1<=1+1 then lead.take n else zk.take n)++(if 2<=1+1 then lead.drop n else zk.drop n) by
            rw[<-aog n y,Hy2.out,Hyd.out,amZ (by omega),hm0,amY (by omega),amY (by omega),aoA (by rw[AU.out];omega)])
           obtain⟨wl,hwl⟩:∃W,W=wr:=⟨_,rfl⟩;subst hwl;have hix:=Ri (some ⟨g0,0,none⟩) (pB none) n cr m ca wl;clear hm0 RU;go_wp2_with fail
           clear hix;go_loopw [94] (λi wi=>i=.int .i64 0/\wi=wl) (λ_ _=>0)
           case atStart=>exact⟨rfl,rfl⟩
           case round=>
            obtain⟨rfl,ew⟩:=hrel;subst ew;go_wp2_with fail
            go_roundw;case rel=>exact⟨1+1,y,by omega,by go_num,hT,Hy3,hq,Ba,hAx,hBx,he⟩
            case measure=>simp[intOf]
          |some ga=>
           obtain⟨RU,Gj⟩:=RU;have WC:¬(q=ga):=λe=>Yl (e▸Gj)
           have hgg:¬(gp=ga):=λe=>abn (e▸Gj)
           have hpb:pB (some ga)=some ⟨ga,0,none⟩:=rfl;rw[hpb];have hxl:(zk.drop n).length=m:=by rw[anp,Em.out];omega
           have Om:=amW hxl;have hxg:∀x∈(zk.drop n),FV p x/\FL B x:=λx hx=>TM.out x (by first|exact an5 hx|exact aoi hx)
           have AR:=amW hxg;clear hxl hxg;obtain⟨xs,hxs⟩:=xq ((zk.drop n));rw[hxs]at RU Om AR;have Hxs:=amW hxs;clear hxs;obtain⟨N,hN⟩:∃N,xs.map (λx=>eG p (mX p x0) x)=N:=⟨_,rfl⟩;have xL:=amW (show N.length=xs.length by rw[<-hN,am5]);have Zv:=amW (show∀(j:Nat) (x:aF),xs[j]?=some x->N[j]?=some (eG p (mX p x0) x)from λj x h=>by rw[<-hN,am7,h];rfl);have HNe:=amW hN;clear hN;have hF0:=RU;obtain⟨wl,hwl⟩:∃W,W=wr:=⟨_,rfl⟩;subst hwl;have hws:=he.size;have hix:=Ri (some ⟨g0,0,none⟩) (some ⟨ga,0,none⟩) n cr m ca wl;go_wp2_with fail
           clear hix;go_loopw [94] (λi wi=>∃j:Nat,j<=m/\i=.int .i64 j/\oC wi S ga (N.take j++xs.drop j)/\VB wi q 3 #[.int .i64 c]/\VB wi gp 51 #[.slice Ax x0.n.length cx,.slice Bx x0.d.length dx]/\RX wi S Ax x0.n/\RX wi S Bx x0.d/\bn (λz=>z=ga) wl wi/\uR S ga wl wi) (λi _=>m-(intOf i).toNat)
           case atStart=>exact⟨0,am4 _,rfl,by simpa using hF0,hq,Ba,hAx,hBx,bn.refl _ _,uR.refl _ _ _⟩
           case round=>
            clear hF0 RU hq Ba hAx hBx;obtain⟨j,hj,rfl,hF,hq,Ba,hAx,hBx,hel,hok⟩:=hrel;have hsz:=hel.size;by_cases hjl:j<m
            .obtain⟨x,hx⟩:∃x,xs[j]?=some x:=⟨_,am0 (by rw[Om.out];exact hjl)⟩;have hat:=zK N xs xL.out j (by rw[Om.out];exact hjl);rw[hx]at hat;obtain⟨Ay,cy,By,dy,e0,e1,ZR,ZQ⟩:=hF.at_ hat;have hxm:=AR.out x (am1 hx);have VW:=amW (tV N xs xL.out j (eG p (mX p x0) x) (Zv.out j x hx));have Hxm:=amW hxm;have z0:=hF.frozen (j*2);have z1:=hF.frozen (j*2+1);obtain⟨y7,v7⟩:=VB.xn wr 51 #[.slice Ay x.n.length cy,.slice By x.d.length dy];have s7:(wr.alloc (.cells #[.slice Ay x.n.length cy,.slice By x.d.length dy] 51)).heap.size=wr.heap.size+1:=by simp
             have gl0:=(Ba.ex y7).c0;have gl1:=(Ba.ex y7).c1;clear hx hat hxm;go_wp2_with fail
             generalize wr.alloc (.cells #[.slice Ay x.n.length cy,.slice By x.d.length dy] 51)=W7 at*;have Rj:x0.n≠[]:=λe=>by have:=HX.out;rw[dM.2 e]at this;cases this
             have hdv:=C_ p x x0 Ay By cy dy Ax Bx cx dx W7 Hxm.out.1 VP.out.1 (ZR.ex y7).1 (ZQ.ex y7).1 (hAx.ex y7).1 (hBx.ex y7).1 Rj (Hxm.out.2.mono (by omega)) (VP.out.2.mono (by omega));obtain⟨res,hres⟩:=xq (eG p (mX p x0) x);rw[hres]at hdv VW;clear hres;refine hdv.mono ?_;rintro e w8 ⟨A8,c8,B8,d8,rfl,f8,p8,Zc,x8⟩;have y8:=y7.trans x8;have OA:=hF.ex y8;have e0:=af y8 e0;have e1:=af y8 e1;have z0:=OA.frozen (j*2);have z1:=OA.frozen (j*2+1);have hz7:=y7.size;have hS7:∀z,S z->z<W7.heap.size:=λz hz=>by have:=HS.out z hz;omega
             have hP:=OA.put Gj j res (c:=c8) (d:=d8) (f8.rx hS7) (p8.rx hS7);rw[VW.out]at hP;have E9:aJ ga w8 ((w8.setCell ⟨ga,j*2,none⟩ (.slice A8 res.n.length c8)).setCell ⟨ga,j*2+1,none⟩ (.slice B8 res.d.length d8)):=((aJ.refl ga w8).setCell (p:=⟨ga,j*2,none⟩) rfl _).setCell (p:=⟨ga,j*2+1,none⟩) rfl _;have Ym:=(hq.ex y8).aM E9 WC;have Yx:=(Ba.ex y8).aM E9 hgg;have X9:=bn.a_ (S:=λz=>z=ga) E9 rfl;have YS:=(hAx.ex y8).sx X9 (λz e=>e▸Gj);have YR:=(hBx.ex y8).sx X9 (λz e=>e▸Gj);have YD:=(hel.trans (bn.aN (S:=λz=>z=ga) y8) (λ_ _ h=>h)).trans X9 (λ_ _ h=>h);have Yp:=(hok.trans (uR.aN y7)).trans (uR.Qa (S:=S) (b:=ga) (i:=j) x8 f8 p8 Zc Gj e0 e1);have hjx:j<m:=hjl;clear E9 X9 VW gl0 gl1 f8 p8 Rj OA hdv;go_wp2_with fail
             go_roundw;case rel=>exact⟨j+1,by omega,by go_num,hP,Ym,Yx,YS,YR,YD,Yp⟩
             case measure=>simp[intOf];omega
            .obtain rfl:j=m:=by omega
             rw[ann (by rw[xL.out,Om.out];exact amX _),aoA (by rw[Om.out];exact amX _),anR]at hF;have hgr:bn (λz=>some ga=some z) wl wr:=hel.widen (λz _ e=>by rw[e]);have Oy:=hT.Wi (i:=r) (z:=y) hyr (by rw[Hyl.out];omega) Hoa.out (a':=N) ⟨hF,Gj⟩ (by rw[xL.out,Om.out]) hgr (λq e=>by cases e;exact hok);rw[aoH]at Oy;have he2:=he.trans (hel.widen (T:=S) (λz _ e=>e▸Gj)) (λ_ _ h=>h);go_wp2_with fail
             first|rw[<-hpb]|skip
             go_roundw;case rel=>exact⟨1+1,_,by omega,by go_num,Oy,amW (by rw[Hy2.out,<-HNe.out,<-Hxs.out,Hlm.out];simp[List.map_drop]),hq,Ba,hAx,hBx,he2⟩
             case measure=>simp[intOf]
         .rw[show((2:Nat):Int)=(2:Int)from rfl];have hyL:y=lead:=by rw[Hy.out,amY (by omega),amY (by omega),aog]
          rw[hyL]at hT;clear Hy Hyl Hyt Hyd hyr hyL RJ RU Ba hAx hBx;have Z5:=amW (show(U.set r lead).length=R by rw[anj,Zq.out]);have HVr:=amW (show(U.set r lead)[r]?=some lead by rw[apf (by rw[Zq.out];exact hlt)]);have HVi:=amW (show∀i:Nat,i≠r->(U.set r lead)[i]?=U[i]? from λi h=>by rw[List.getElem?_set_ne (Ne.symm h)]);have HTr:=amW (show T[r]?=some lead by rw[Zr.out r zk HUr.out];unfold Ops.Bd;rw[amY rfl]);generalize U.set r lead=V at*;go_wp2_with fail
          go_loopw [110] (λi wi=>∃j:Nat,j<=R/\i=.int .i64 j/\bD wi S KS G G' VL N9 (T.take j++V.drop j) n m/\VB wi q 3 #[.int .i64 c]/\bn S w wi) (λi _=>R-(intOf i).toNat)
          case atStart=>exact⟨0,am4 _,rfl,by simpa using hT,hq,he⟩
          case round=>
           clear hT hq he;obtain⟨j,hj,rfl,hT,hq,he⟩:=hrel;have hez:=he.size;by_cases hjl:j<R
           .by_cases hjr:j=r
            .have HM:=amW (tX T V (AX.out.trans Z5.out.symm) j lead (by rw[hjr];exact HTr.out) (by rw[hjr];exact HVr.out));have hjq:decide ((j:Int)=(r:Int))=true:=by simp[hjr]
             have akc:(j:Int)=(r:Int):=by rw[hjr]
             clear hjr;go_wp2_with fail
             go_roundw;case rel=>exact⟨j+1,by omega,by go_num,by rw[<-HM.out];exact hT,hq,he⟩
             case measure=>simp[intOf];omega
            .have hjq:¬((j:Int)=(r:Int)):=by omega
             have Js:(T.take j++V.drop j).length=R:=by rw[am9,am8,anp,AX.out,Z5.out];omega
             obtain⟨u,hu⟩:∃u,U[j]?=some u:=⟨_,am0 (by rw[Zq.out];exact hjl)⟩;have hVj:V[j]?=some u:=by rw[HVi.out j hjr];exact hu
             have hMj:(T.take j++V.drop j)[j]?=some u:=by rw[zK T V (AX.out.trans Z5.out.symm) j (by rw[Z5.out];exact hjl)];exact hVj
             have hMr:(T.take j++V.drop j)[r]?=some lead:=by
              by_cases h:r<j
              .rw[anN (by rw[am8,AX.out];omega),anh,amY h];exact HTr.out
              .rw[anw (by rw[am8,AX.out];omega),am8,AX.out,anB,show j+(r-min j R)=r by omega];exact HVr.out
             have zT:u.length=n+m:=HUW.out _ (am1 hu);have hug:jH p B u:=HUG.out _ (am1 hu);obtain⟨x,hx⟩:∃x,u[c]?=some x:=⟨_,am0 (by rw[zT];omega)⟩;have hxt:(u.take n)[c]?=some x:=by rw[anh,amY hcn];exact hx
             have hxg:=hug x (am1 hx);have hTj:T[j]?=some (if ig x=true then u else(ah p).less u x lead):=by rw[Zr.out j u hu];unfold Ops.Bd;rw[amZ hjr,(ah p).bT hx];rfl
             obtain⟨ob,row,cj,lq,hrow,hrl,Vh,er⟩:=hT.r.at_ (j:=j) (by rw[am5,Js];exact hjl);obtain⟨XZ,sow,dj,abd,Jk,hsl,hFA,ea⟩:=hT.a.at_ (j:=j) (by rw[am5,Js];exact hjl);obtain⟨ob3,ajc,cr3,aa9,hrow3,_,afl,er3⟩:=hT.r.at_ (j:=r) (by rw[am5,Js];exact hlt);obtain⟨oa3,ai_,dr3,abb,aaW,_,afm,ZW⟩:=hT.a.at_ (j:=r) (by rw[am5,Js];exact hlt);obtain rfl:row=u.take n:=by rw[am7,hMj]at hrow;injection hrow with hrow;exact hrow.symm
             obtain⟨gj,rfl⟩:∃g,ob=some g:=by
              cases ob with
              |none=>have:u.take n=[]:=Vh;rw[this]at hxt;simp at hxt
              |some g=>exact⟨g,rfl⟩
             obtain⟨Ay,cy,By,dy,e0,e1,ZR,ZQ⟩:=Vh.1.at_ hxt;have iP:=amW (show iY p (u.take n) (aV p x) (lead.take n)++iY p (u.drop n) (aV p x) (lead.drop n)=if ig x=true then u else(ah p).less u x lead by
              rw[AB hxg.1 (λy hy=>(hug y (an5 hy)).1) (λy hy=>(Hlg.out y (an5 hy)).1),AB hxg.1 (λy hy=>(hug y (aoi hy)).1) (λy hy=>(Hlg.out y (aoi hy)).1)];split
              .exact aog _ _
              .rw[<-M9,<-M_,aog])
             have VW:=amW (tV T V (AX.out.trans Z5.out.symm) j _ hTj);have Hug:=amW hug;have Z4:=amW zT;have AR:=amW hxg;have HMj:=amW hMj;have HMr:=amW hMr;have VU:=amW Js;have VQ:=amW lq;have Oo:=amW abd;have aga:=amW aa9;have agb:=amW abb;have hq0:=hq.c0;have hpj:pB (some gj)=some ⟨gj,0,none⟩:=rfl;clear Js hu hVj hMj hMr zT hug hx hxt hxg hTj lq abd aa9 abb hrow Jk hrow3 aaW hrl hsl Vh hFA afl afm;rw[hpj]at er;obtain⟨nk,hnk⟩:=xq (aV p x);have HNg:∀W,Ex wr W->Calls prog 123 #[.int .i64 p,.agg #[.slice Ay x.n.length cy,.slice By x.d.length dy]] W λe w'=>wZ W nk e w':=λW h=>by rw[<-hnk];exact Bw p x Ay By cy dy W AR.out.1 (ZR.ex h).1 (ZQ.ex h).1 (by have:=AR.out.2.1;omega) (by have:=AR.out.2.2;omega)
             have HNf:=amW (show FV p nk/\FL B nk from hnk▸⟨AR.out.1.neg,AR.out.2.neg⟩);rw[hnk]at iP;clear hnk;go_wp2_with fail
             go_cut [18]from 111 to 147 (λs18 wx=>∃gk A1 c1 B1 d1,s18=.pointer (some ⟨gk,0,none⟩)/\VB wx gk 51 #[.slice A1 nk.n.length c1,.slice B1 nk.d.length d1]/\RX wx S A1 nk.n/\RX wx S B1 nk.d/\wr.heap.size<=gk/\Ex wr wx)
             case first=>
              have Uc:∀W,Ex wr W->(Ex wr W/\W.cell? ⟨G,j,none⟩=some (.slice (some ⟨gj,0,none⟩) n cj)/\W.cell? ⟨q,0,none⟩=some (.int .i64 c)/\W.cell? ⟨gj,c*2,none⟩=some (.slice Ay x.n.length cy)/\W.cell? ⟨gj,c*2+1,none⟩=some (.slice By x.d.length dy)):=λW h=>⟨h,af h er,af h hq0,af h e0,af h e1⟩
              have hSr:∀z,S z->z<wr.heap.size:=λz hz=>by have:=HS.out z hz;omega
              go_region_held3 (λW=>Ex wr W/\W.cell? ⟨G,j,none⟩=some (.slice (some ⟨gj,0,none⟩) n cj)/\W.cell? ⟨q,0,none⟩=some (.int .i64 c)/\W.cell? ⟨gj,c*2,none⟩=some (.slice Ay x.n.length cy)/\W.cell? ⟨gj,c*2+1,none⟩=some (.slice By x.d.length dy)) (first
               |(exact Uc _ (Sl x6 (amX _)))|(exact Uc _ (x6.alloc _).drew)|(exact Uc _ (x6.alloc _))|(exact Uc _ x6.drew)|(exact Uc _ x6)|(exact Uc _ ((asF wr).drew.alloc _))|(exact Uc _ ((asF wr).alloc _).drew)|(exact Uc _ ((asF wr).alloc _))|(exact Uc _ (asF wr).drew)|(exact Uc _ (asF wr))) (first
                |(go_at_call 123
                  have hb:=(‹Ex wr _/\_›).1;refine(HNg _ hb).mono ?_;rintro e w6 ⟨A6,c6,B6,d6,rfl,f6,p6,ZX,Ot⟩;have x6:=hb.trans Ot;have Yg:=Ot.size;have hzb:=hb.size;have fA:=f6.rx (S:=S) (λz hz=>anq (hSr z hz) hzb);have fB:=p6.rx (S:=S) (λz hz=>anq (hSr z hz) hzb)
                  try have vC:VB w6 wr.heap.size 51 #[.slice none 0 0,.slice none 0 0]:=VB.ex (w:=(wr.alloc (.cells #[.slice none 0 0,.slice none 0 0] 51)).drew) (VB.new wr 51 #[.slice none 0 0,.slice none 0 0]) Ot
                  try have vC:VB w6 wr.heap.size 51 #[.slice none 0 0,.slice none 0 0]:=VB.ex (w:=wr.drew.alloc (.cells #[.slice none 0 0,.slice none 0 0] 51)) (VB.new wr.drew 51 #[.slice none 0 0,.slice none 0 0]) Ot
                  try have vC:VB w6 wr.heap.size 51 #[.slice none 0 0,.slice none 0 0]:=VB.ex (w:=(wr.drew.alloc (.cells #[.slice none 0 0,.slice none 0 0] 51)).drew) (VB.new wr.drew 51 #[.slice none 0 0,.slice none 0 0]) Ot
                  try have vC:VB w6 wr.heap.size 51 #[.slice none 0 0,.slice none 0 0]:=VB.ex (w:=wr.alloc (.cells #[.slice none 0 0,.slice none 0 0] 51)) (VB.new wr 51 #[.slice none 0 0,.slice none 0 0]) Ot
                  try have c0:=vC.c0
                  try have c1:=vC.c1
                  try have f0:=vC.frozen 0
                  try have f1:=vC.frozen 1
                  clear hb))
              all_goals
               go_wp2_with fail
               go_meet
               first
               |exact⟨_,A6,c6,B6,d6,rfl,VB.new _ _ _,fA.ex ((asF w6).alloc _),fB.ex ((asF w6).alloc _),x6.size,x6.alloc _⟩
               |exact⟨_,A6,c6,B6,d6,rfl,VB.new _ _ _,fA.ex ((asF w6).drew.alloc _),fB.ex ((asF w6).drew.alloc _),x6.size,x6.drew.alloc _⟩
               |exact⟨_,A6,c6,B6,d6,rfl,(vC.aX 0 (.slice A6 nk.n.length c6)).aX 1 (.slice B6 nk.d.length d6),⟨f6.rd.XA (S:=λz=>z=wr.heap.size) (bn.a_ (((aJ.refl wr.heap.size w6).setCell (p:=⟨wr.heap.size,0,none⟩) rfl (.slice A6 nk.n.length c6)).setCell (p:=⟨wr.heap.size,1,none⟩) rfl (.slice B6 nk.d.length d6)) rfl) (f6.rx (S:=λz=>z=wr.heap.size) (λz e=>by subst e;simp)).2,fA.2⟩,⟨p6.rd.XA (S:=λz=>z=wr.heap.size) (bn.a_ (((aJ.refl wr.heap.size w6).setCell (p:=⟨wr.heap.size,0,none⟩) rfl (.slice A6 nk.n.length c6)).setCell (p:=⟨wr.heap.size,1,none⟩) rfl (.slice B6 nk.d.length d6)) rfl) (p6.rx (S:=λz=>z=wr.heap.size) (λz e=>by subst e;simp)).2,fB.2⟩,amX _,Sl x6 (amX _)⟩
             case rest=>
              obtain⟨TK,rfl⟩:∃q,q=wc:=⟨_,rfl⟩;obtain⟨gk,A1,c1,B1,d1,rfl,Nr,hA1,hB1,akh,x18⟩:=hcut;have zZ:=hT.ex x18;have Yn:=hq.ex x18;have abv:=he.trans (bn.aN (S:=S) x18) (λ_ _ h=>h);have er:=af x18 er;have er3:=af x18 er3;have ea:=af x18 ea;have ZW:=af x18 ZW;obtain⟨k0,k1⟩:=Nr.d2;have Rz:¬S gk:=λhs=>by have:=HS.out _ hs;omega
              clear hT hq he e0 e1 ZR ZQ HNg hq0;have abp:¬(gj=G):=zZ.r.ng j gj VQ.out;have abo:S gj:=by obtain⟨R',_,h1,_,_,h4,_⟩:=zZ.own;exact(h4 j gj VQ.out).1
              have Yy:=Nr.lt;have WH:¬(gj=G'):=zZ.d1 j gj VQ.out;have ajZ:¬(q=G'):=λe=>Yl (e▸zZ.a.sg)
              have acV:∀W,Ex TK W->Calls prog 124 #[.int .i64 p,.slice (some ⟨gj,0,none⟩) n cj,.agg #[.slice A1 nk.n.length c1,.slice B1 nk.d.length d1],.slice (pB ob3) n cr3] W λe w'=>e=.returned (.tuple #[])/\bD w' S KS G G' VL N9 ((T.take j++V.drop j).set j (iY p (u.take n) nk (lead.take n)++u.drop n)) n m/\bn (λz=>some gj=some z) TK w'/\(∀z,some gj=some z->S z):=λW h=>
               ((zZ.ex h).afT (p:=p) (c1:=cj) (c2:=cr3) (λz hz=>(zZ.ex h).sl z hz) (λe=>hjq (by rw[e])) HMj.out HMr.out VQ.out aga.out (by omega) hn (hA1.ex h) (hB1.ex h) ((Hug.out.mono (by omega)).take n) ((Hlg.out.mono (by omega)).take n) HNf.out.1 (HNf.out.2.mono (by omega))).mono λe w' ⟨h1,h2,h3,h4⟩=>⟨h1,h2,(bn.aN h).trans h3 (λ_ _ h=>h),h4⟩
              have K24:∀W',bn (λz=>some gj=some z) TK W'->(W'.cell? ⟨G,j,none⟩=some (.slice (some ⟨gj,0,none⟩) n cj)/\W'.cell? ⟨gk,0,none⟩=some (.slice A1 nk.n.length c1)/\W'.cell? ⟨gk,1,none⟩=some (.slice B1 nk.d.length d1)/\W'.cell? ⟨G,r,none⟩=some (.slice (pB ob3) n cr3)):=λW' x=>
               ⟨(anm (w:=TK) (a:=⟨G,j,none⟩) (x.block G zZ.r.lt (λe=>by injection e with e;exact abp e))).trans er,
                (anm (w:=TK) (a:=⟨gk,0,none⟩) (x.block gk Nr.lt (λe=>by injection e with e;exact Rz (e▸abo)))).trans k0,
                (anm (w:=TK) (a:=⟨gk,1,none⟩) (x.block gk Nr.lt (λe=>by injection e with e;exact Rz (e▸abo)))).trans k1,
                (anm (w:=TK) (a:=⟨G,r,none⟩) (x.block G zZ.r.lt (λe=>by injection e with e;exact abp e))).trans er3⟩
              go_wp2_with fail
              go_region_held3 (λW'=>W'.cell? ⟨G,j,none⟩=some (.slice (some ⟨gj,0,none⟩) n cj)/\W'.cell? ⟨gk,0,none⟩=some (.slice A1 nk.n.length c1)/\W'.cell? ⟨gk,1,none⟩=some (.slice B1 nk.d.length d1)/\W'.cell? ⟨G,r,none⟩=some (.slice (pB ob3) n cr3)) (first|(exact K24 _ x6)|(exact K24 _ (bn.refl _ _))|(exact K24 _ (bn.aN (asF _).drew))) (first
               |(go_at_call 124
                 refine(acV _ (by first|exact asF _|exact(asF _).drew|exact(asF _).drewN _)).mono ?_;rintro e w6 ⟨rfl,YH,x6,hs6⟩))
              have hal:(iY p (u.take n) nk (lead.take n)).length=n:=by have h1:=Z4.out;have h2:=AU.out;unfold iY oV;split<;>simp[am8,List.length_zipWith,h1,h2]<;>omega
              have hjM:j<(T.take j++V.drop j).length:=by rw[VU.out];exact hjl
              have HZ1:=amW (show((T.take j++V.drop j).set j (iY p (u.take n) nk (lead.take n)++u.drop n))[j]?=some (iY p (u.take n) nk (lead.take n)++u.drop n) by rw[apf hjM]);have HZ2:=amW (show((T.take j++V.drop j).set j (iY p (u.take n) nk (lead.take n)++u.drop n))[r]?=some lead by rw[List.getElem?_set_ne (λe=>hjq (by rw[e]))];exact HMr.out);have acW:∀W,Ex w6 W->Calls prog 124 #[.int .i64 p,.slice (pB XZ) m dj,.agg #[.slice A1 nk.n.length c1,.slice B1 nk.d.length d1],.slice (pB oa3) m dr3] W λe w'=>e=.returned (.tuple #[])/\bD w' S KS G G' VL N9 (T.take (j+1)++V.drop (j+1)) n m/\bn (λz=>XZ=some z) w6 w':=λW h=>
               ((YH.ex h).afU (p:=p) (c1:=dj) (c2:=dr3) (λz hz=>(YH.ex h).sl z hz) (λe=>hjq (by rw[e])) HZ1.out HZ2.out (by rw[am9,hal];omega) Oo.out agb.out hm ((hA1.sx x6 hs6).ex h) ((hB1.sx x6 hs6).ex h) (by rw[aoM hal];exact(Hug.out.mono (by omega)).drop n) ((Hlg.out.mono (by omega)).drop n) HNf.out.1 (HNf.out.2.mono (by omega))).mono λe w' ⟨h1,h2,h3⟩=>⟨h1,by
                rw[aoH,aoY hal,aoM hal,iP.out,VW.out]at h2;exact h2,(bn.aN h).trans h3 (λ_ _ h=>h)⟩
              have he6:=abv.trans x6 (λz _ e=>hs6 z e);have aeu:=x6.size;have hq6:VB w6 q 3 #[.int .i64 c]:=(x6.block q Yn.lt (λe=>Yl (hs6 q e))).trans Yn;have k0:w6.cell? ⟨gk,0,none⟩=some (.slice A1 nk.n.length c1):=(anm (w:=TK) (a:=⟨gk,0,none⟩) (x6.block gk Nr.lt (λe=>Rz (hs6 gk e)))).trans k0;have k1:w6.cell? ⟨gk,1,none⟩=some (.slice B1 nk.d.length d1):=(anm (w:=TK) (a:=⟨gk,1,none⟩) (x6.block gk Nr.lt (λe=>Rz (hs6 gk e)))).trans k1;have ea:w6.cell? ⟨G',j,none⟩=some (.slice (pB XZ) m dj):=(anm (w:=TK) (a:=⟨G',j,none⟩) (x6.block G' zZ.a.lt (λe=>by injection e with e;exact WH e))).trans ea;have ZW:w6.cell? ⟨G',r,none⟩=some (.slice (pB oa3) m dr3):=(anm (w:=TK) (a:=⟨G',r,none⟩) (x6.block G' zZ.a.lt (λe=>by injection e with e;exact WH e))).trans ZW;clear zZ Yn abv acV HZ1 HZ2 hal hjM x6 er er3 Nr;have hGa:=YH.a.lt;have WG:=anq Yy aeu;have hkb:∀j',N9[j']?=some (some gk)->False:=λj' hb=>by obtain⟨R',_,h1,_,_,_,h5⟩:=YH.own;exact Rz (h5 j' gk hb).1
              have K25:∀W',bn (λz=>XZ=some z) w6 W'->(W'.cell? ⟨G',j,none⟩=some (.slice (pB XZ) m dj)/\W'.cell? ⟨gk,0,none⟩=some (.slice A1 nk.n.length c1)/\W'.cell? ⟨gk,1,none⟩=some (.slice B1 nk.d.length d1)/\W'.cell? ⟨G',r,none⟩=some (.slice (pB oa3) m dr3)):=λW' x=>
               ⟨(anm (w:=w6) (a:=⟨G',j,none⟩) (x.block G' hGa (λe=>YH.a.ng j G' (by rw[Oo.out,e]) rfl))).trans ea,
                (anm (w:=w6) (a:=⟨gk,0,none⟩) (x.block gk WG (λe=>hkb j (by rw[Oo.out,e])))).trans k0,
                (anm (w:=w6) (a:=⟨gk,1,none⟩) (x.block gk WG (λe=>hkb j (by rw[Oo.out,e])))).trans k1,
                (anm (w:=w6) (a:=⟨G',r,none⟩) (x.block G' hGa (λe=>YH.a.ng j G' (by rw[Oo.out,e]) rfl))).trans ZW⟩
              go_wp2_with fail
              go_region_held3 (λW'=>W'.cell? ⟨G',j,none⟩=some (.slice (pB XZ) m dj)/\W'.cell? ⟨gk,0,none⟩=some (.slice A1 nk.n.length c1)/\W'.cell? ⟨gk,1,none⟩=some (.slice B1 nk.d.length d1)/\W'.cell? ⟨G',r,none⟩=some (.slice (pB oa3) m dr3)) (first|(exact K25 _ x7)|(exact K25 _ (bn.refl _ _))|(exact K25 _ (bn.aN (asF _).drew))) (first
               |(go_at_call 124
                 refine(acW _ (by first|exact asF _|exact(asF _).drew|exact(asF _).drewN _)).mono ?_;rintro e w7 ⟨rfl,hT7,x7⟩))
              have aa_:∀z,XZ=some z->S z:=λz e=>by obtain⟨R',_,h1,_,_,_,h5⟩:=hT7.own;exact(h5 j z (by rw[Oo.out,e])).1
              have he7:=he6.trans x7 (λz _ e=>aa_ z e);have hq7:VB w7 q 3 #[.int .i64 c]:=(x7.block q hq6.lt (λe=>Yl (aa_ q e))).trans hq6;clear acW k0 k1 ea ZW YH hq6 he6 x7;go_wp2_with fail
              go_roundw;case rel=>exact⟨j+1,by omega,by go_num,hT7,hq7,he7⟩
              case measure=>simp[intOf];omega
           .obtain rfl:j=R:=by omega
            rw[ann (by rw[AX.out];exact amX _),aoA (by rw[Z5.out];exact amX _),anR]at hT;have q0:=hq.c0;obtain⟨y6,v6⟩:=VB.xn wr 3 #[.int .i64 ((c:Int)+1)];go_wp2_with fail
            go_roundg f
            case measure=>omega
            case rel=>exact⟨c+1,r+1,wr.heap.size,VL,N9,T,by omega,by go_num,rfl,by simpa using v6,by omega,hT.ex y6,HTW,Xi,AX,by omega,HN,he.trans (bn.aN (S:=S) y6) (λ_ _ h=>h)⟩
   .have H:=amW (fin (f+1) rfl (.inr (by omega)));clear fin;go_wp2_with fail
    go_ret;rw[H.out];exact⟨bs,bs',rfl,hT,he⟩
theorem O7{p:Int}{L N:Nat}{Z0:List (List aF)}(hG:iK p L Z0)(hW:aZ N Z0):∀c,c<=N->iK p (L*4^c) (gJ (ah p) Z0 c).1/\aZ N (gJ (ah p) Z0 c).1/\(gJ (ah p) Z0 c).1.length=Z0.length
 |0,_=>⟨by simpa[gJ]using hG,hW,rfl⟩
 |c+1,hc=>by
  obtain⟨h1,h2,h3⟩:=O7 hG hW c (by omega);rw[gJ];split
  .rename_i hf;have hr:=jm (ah p) hf;dsimp only;refine⟨?_,h2.piv (by omega) hf,by rw[dU];exact h3⟩;rw[show L*4^(c+1)=4*(L*4^c) by rw[Nat.pow_succ,aod (4^c) 4,Nat.mul_left_comm]];exact h1.piv h2 (by omega) hf (by omega) hr.2
  .exact⟨h1.mono (by rw[Nat.pow_succ];exact Nat.mul_le_mul_left _ (by omega)),h2,h3⟩
theorem XB{N:Nat}{Z0:List (List aF)}(hG:iK p L Z0)(hW:aZ N Z0)(hn:n<=N)(hL:L*4^n<=17179869184):∀c,c<=n->iK p 17179869184 (gJ (ah p) Z0 c).1:=λc hc=>
 (O7 hG hW c (by omega)).1.mono (anb (Nat.mul_le_mul_left _ (Nat.pow_le_pow_right (by omega) hc)) hL)
theorem cB{A':Option Addr}{c':Nat}(hA:Fr w B A c x.n)(hA':Fr w B A' c' x.d)(h:Apart A A')(hB:B<=w.heap.size):mr w B w.heap.size (.slice A x.n.length c) (.slice A' x.d.length c') x:=by
 have one:∀{A:Option Addr} {c:Nat} {l:List Int},Fr w B A c l->∃a b,OI w a b (.slice A l.length c) l/\B<=a/\b<=w.heap.size/\((A=none/\a=B/\b=B)∨∃p,A=some p/\a=p.block/\b=p.block+1):=λ{A c l} hf=>by
  cases A with
  |none=>exact⟨B,B,⟨_,_,rfl,⟨hf.1,hf.2.1,λa e=>by cases e⟩,λa e=>by cases e⟩,amX _,hB,.inl ⟨rfl,rfl,rfl⟩⟩
  |some p=>obtain⟨h1,cur,h2⟩:=hf.2.2 p rfl;exact⟨p.block,p.block+1,⟨_,_,rfl,⟨hf.1,hf.2.1,λa e=>by injection e with e;subst e;exact⟨amX _,cur,h2⟩⟩,λa e=>by injection e with e;subst e;exact aoF _⟩,h1,aC h2,.inr ⟨p,rfl,rfl,rfl⟩⟩
 obtain⟨a0,b0,o0,l0,u0,k0⟩:=one hA;obtain⟨a1,b1,o1,l1,u1,k1⟩:=one hA';refine⟨a0,b0,a1,b1,o0,o1,l0,u0,l1,u1,?_⟩;rcases k0 with⟨_,e1,e2⟩|⟨p,e0,e1,e2⟩<;>rcases k1 with⟨_,e3,e4⟩|⟨q,e5,e3,e4⟩
 .omega
 .omega
 .omega
 .have:=h p q e0 e5;omega
def pq:EL aF where
 k:=2
 O:=λw a b vs x=>∃v0 v1,vs=[v0,v1]/\mr w a b v0 v1 x
 lN:=λh=>by obtain⟨_,_,rfl,_⟩:=h;rfl
 keep:=λh hk=>by obtain⟨v0,v1,e,h⟩:=h;exact⟨v0,v1,e,h.keep hk⟩
 one:=λh u hu=>by obtain⟨v0,v1,e,h⟩:=h;obtain⟨_,_,_,_,⟨A,c,e0,_⟩,⟨B,d,e1,_⟩,_⟩:=h;subst e e0 e1;simp at hu;rcases hu with rfl|rfl<;>rfl
def Ho(w:World)(a b:Nat)(v:Value)(x:List aF):Prop:=v≠.slice none 0 0/\GE pq 51 w a b v x
def xN:EL (List aF) where
 k:=1
 O:=λw a b vs x=>∃v,vs=[v]/\Ho w a b v x
 lN:=λh=>by obtain⟨_,rfl,_⟩:=h;rfl
 keep:=λh hk=>by obtain⟨v,e,h1,h2⟩:=h;exact⟨v,e,h1,h2.keep hk⟩
 one:=λh u hu=>by obtain⟨v,e,h1,h2⟩:=h;obtain⟨A,c,e2⟩:=h2.lu;subst e e2;simp at hu;subst hu;rfl
def acz(w:World)(a b:Nat)(v:Value)(x:List (List aF)):Prop:=v≠.slice none 0 0/\GE xN 48 w a b v x
theorem iU{v:Value}(h:GE pq 51 w B H v xs)(hH:H<=w.heap.size){v1:Value}{a:Nat}(hu:mr w a b v0 v1 x)(ha:H<=a)(hab:a<=b)(hb:b<=w.heap.size)(hB:B<=H)(hl:xs.length+1<=1099511627776):
 ∃v' w',(Builtin.append_ #[48,48] 48 #[v,.slice (some ⟨w.heap.size,0,none⟩) 1 1]).run prog (w.alloc (.cells #[v0,v1] 51))=.ok v' w'/\
  GE pq 51 w' B w'.heap.size v' (xs++[x])/\wB v.ownBlock w w'/\v'≠.slice none 0 0/\∀b',Ex b' w->b'.heap.size<=B->Ex b' w':=by
 obtain⟨i,hi,hz,hs,hby⟩:=anA uz;obtain⟨v',w',h1,h2,h3,_,h5,h6⟩:=GE.push pq Tryz.underlying48 hi hz hs hby rfl (by decide) (by omega) h hH ⟨v0,v1,rfl,hu⟩ ha hab hb hB hl;exact⟨v',w',h1,h2,h3,h5,h6⟩
theorem Ff{v:Value}{xs:List (List aF)}(h:GE xN 48 w B H v xs)(hH:H<=w.heap.size){x:List aF}{a:Nat}(hu:Ho w a b v0 x)(ha:H<=a)(hab:a<=b)(hb:b<=w.heap.size)(hB:B<=H)(hl:xs.length+1<=1099511627776):
 ∃v' w',(Builtin.append_ #[27,27] 27 #[v,.slice (some ⟨w.heap.size,0,none⟩) 1 1]).run prog (w.alloc (.cells #[v0] 48))=.ok v' w'/\
  GE xN 48 w' B w'.heap.size v' (xs++[x])/\wB v.ownBlock w w'/\v'≠.slice none 0 0/\∀b',Ex b' w->b'.heap.size<=B->Ex b' w':=by
 obtain⟨i,hi,hz,hs,hby⟩:=anA fZ;obtain⟨v',w',h1,h2,h3,_,h5,h6⟩:=GE.push xN Tryz.underlying27 hi hz hs hby rfl (by decide) (by omega) h hH ⟨v0,rfl,hu⟩ ha hab hb hB hl;exact⟨v',w',h1,h2,h3,h5,h6⟩
theorem Ao(x:aF)(A B:Option Addr)(c d:Nat)(w:World)(hA:Rd w A x.n)(hB:Rd w B x.d):
 Calls prog 145 #[.agg #[.slice A x.n.length c,.slice B x.d.length d]] w λe w'=>wZ w x e w':=by
 obtain⟨n,m⟩:=x;dsimp only at hA hB⊢;obtain⟨x0,v0⟩:=VB.xn w 51 #[.slice A n.length c,.slice B m.length d];have s0:(w.alloc (.cells #[.slice A n.length c,.slice B m.length d] 51)).heap.size=w.heap.size+1:=by simp
 go_enter Tryz.func145,Tryz.ntmps145
 go_wp2_with fail
 generalize w.alloc (.cells #[.slice A n.length c,.slice B m.length d] 51)=W0 at*;obtain⟨x1,v1⟩:=VB.xn W0 51 #[.slice none 0 0,.slice none 0 0];have s1:(W0.alloc (.cells #[.slice none 0 0,.slice none 0 0] 51)).heap.size=w.heap.size+1+1:=by simp;exact s0
 rw[s0]at v1;generalize W0.alloc (.cells #[.slice none 0 0,.slice none 0 0] 51)=W1 at*;have v0:=v0.ex x1;have xx:=x0.trans x1;clear x0 x1;obtain⟨q0,q1⟩:=v0.d2;have Oz:∀W,aJ (w.heap.size+1) W1 W->(aJ (w.heap.size+1) W1 W/\W.cell? ⟨w.heap.size,0,none⟩=some (.slice A n.length c)/\W.cell? ⟨w.heap.size,1,none⟩=some (.slice B m.length d)):=λW h=>⟨h,(v0.aM h (by omega)).c0,(v0.aM h (by omega)).c1⟩
 have eA:=(aJ.refl (w.heap.size+1) W1).drew;go_region_held3 (λW=>aJ (w.heap.size+1) W1 W/\W.cell? ⟨w.heap.size,0,none⟩=some (.slice A n.length c)/\W.cell? ⟨w.heap.size,1,none⟩=some (.slice B m.length d)) (first
  |(exact Oz _ ((e4.setCell rfl _).setCell rfl _))|(exact Oz _ e4)|(exact Oz _ e3)|(exact Oz _ eA)|(exact Oz _ (aJ.refl _ _))) (first
  |(go_at_call_of 157 (Value.slice A n.length c)
    have hb:=(‹aJ (w.heap.size+1) W1 _/\_›).1;refine(uJ A c n _ (hA.ex (xx.aM hb (by omega)))).mono ?_;rintro e w3 ⟨g3,c3,rfl,hc3,hg3,o3,x3⟩;have e3:=hb.trans (aJ.aN x3);have z3:=hb.size';clear hb)
  |(go_at_call_of 157 (Value.slice B m.length d)
    refine(uJ B d m w3 (hB.ex (xx.aM e3 (by omega)))).mono ?_;rintro e w4 ⟨g4,c4,rfl,hc4,hg4,o4,x4⟩;have e4:=e3.trans (aJ.aN x4);have z4:=x3.size;have v4:VB w4 (w.heap.size+1) 51 #[.slice none 0 0,.slice none 0 0]:=by first|exact(v1.ex x3).ex x4|exact(VB.ex (w:=W1.drew) v1 x3).ex x4
    obtain⟨r0,r1⟩:=v4.d2;have k0:=v4.frozen 0;have k1:=v4.frozen 1))
 all_goals
  have hl3:=o3.lt;have E5:aJ (w.heap.size+1) w4 ((w4.setCell ⟨w.heap.size+1,0,none⟩ (.slice (some ⟨g3,0,none⟩) n.length c3)).setCell ⟨w.heap.size+1,1,none⟩ (.slice (some ⟨g4,0,none⟩) m.length c4)):=((aJ.refl _ w4).setCell (p:=⟨w.heap.size+1,0,none⟩) rfl _).setCell (p:=⟨w.heap.size+1,1,none⟩) rfl _;have v5:VB ((w4.setCell ⟨w.heap.size+1,0,none⟩ (.slice (some ⟨g3,0,none⟩) n.length c3)).setCell ⟨w.heap.size+1,1,none⟩ (.slice (some ⟨g4,0,none⟩) m.length c4)) (w.heap.size+1) 51 #[.slice (some ⟨g3,0,none⟩) n.length c3,.slice (some ⟨g4,0,none⟩) m.length c4]:=(v4.aX 0 _).aX 1 _;obtain⟨D0,D1⟩:=v5.d2;have yy:Ex w _:=(xx.aM e4 (by omega)).aM E5 (by omega);have zx:=xx.size;have f3:=(((o3.ex x4).aM E5 (by omega)).fr hA.len (B:=w.heap.size) (by omega) hc3);have f4:=((o4.aM E5 (by omega)).fr hB.len (B:=w.heap.size) (by omega) hc4);go_wp2_with fail
  refine ane (v:=.agg #[.slice (some ⟨g3,0,none⟩) n.length c3,.slice (some ⟨g4,0,none⟩) m.length c4]) (by simp[results,Tryz.results145,go_sem,D0,D1]) rfl ?_;exact⟨_,c3,_,c4,rfl,f3,f4,fq (by omega),yy⟩
theorem xJ(A:Option Addr)(c:Nat)(xs:List aF)(w:World)(h:gm EF w A xs):
 Calls prog 117 #[.slice A xs.length c] w λe w'=>∃v,e=.returned v/\Ho w' w.heap.size w'.heap.size v xs/\Ex w w':=by
 have hl:=h.1;have wO:=GE.empty pq 51 w (amX w.heap.size);have he1:=(asF w).alloc (.cells #[] 51);have hs1:(w.alloc (.cells #[] 51)).heap.size=w.heap.size+1:=by simp
 go_enter Tryz.func117,Tryz.ntmps117
 go_wp2_with fail
 go_loopw [3,9] (λo i wr=>∃k:Nat,k<=xs.length/\i=.int .i64 k/\GE pq 51 wr w.heap.size wr.heap.size o (xs.take k)/\o≠.slice none 0 0/\Ex w wr) (λ_ i _=>xs.length-(intOf i).toNat)
 case atStart=>exact⟨0,am4 _,rfl,by rw[hs1];exact wO,by simp,he1⟩
 case round=>
  clear wO he1 hs1;obtain⟨k,hk,rfl,hge,hnn,he⟩:=hrel;by_cases hlt:k<xs.length
  .obtain⟨g,off,x,P,pc,Q,qc,rfl,hx,c0,c1,hP,hQ⟩:=(h.ex he).ku hlt;have HT:=amW (show xs.take (k+1)=xs.take k++[x] by rw[am_,hx];rfl);have y1:=(asF wr).alloc (.cells #[.slice P x.n.length pc,.slice Q x.d.length qc] 51);have hz:=he.size;have htl:(xs.take k).length<=k:=aoc _ _;clear hx;go_wp2_with fail
   generalize wr.alloc (.cells #[.slice P x.n.length pc,.slice Q x.d.length qc] 51)=W1 at*;refine(Ao x P Q pc qc W1 (hP.ex y1) (hQ.ex y1)).mono ?_;rintro e w3 ⟨A3,c3,B3,d3,rfl,f3,p3,Ig,x3⟩;have y3:=y1.trans x3;have hz1:=y1.size;have hz3:=x3.size;obtain⟨v',w4,hrun,hge4,_,BG,CW⟩:=iU (hge.ex y3) (by omega) (cB (x:=x) f3 p3 Ig hz3) (by omega) hz3 (amX _) hz (by omega);rw[<-HT.out]at hge4;have qO:=CW w (he.trans y3) (amX _);clear CW HT htl;go_wp2_with (at_builtin;refine wpList_append_run rfl _ _ _ rfl rfl rfl hrun ?_)
   go_roundw;case rel=>exact⟨k+1,by omega,by go_num,hge4,BG,qO⟩
   case measure=>simp[intOf];omega
  .obtain rfl:k=xs.length:=by omega
   rw[anf]at hge;go_wp2_with fail
   go_ret;exact⟨_,rfl,⟨hnn,hge⟩,he⟩
theorem Am(A:Option Addr)(c:Nat)(xs:List (List aF))(w:World)(h:gm iE w A xs):
 Calls prog 86 #[.slice A xs.length c] w λe w'=>∃v,e=.returned v/\acz w' w.heap.size w'.heap.size v xs/\Ex w w':=by
 have hl:=h.1;have wO:=GE.empty xN 48 w (amX w.heap.size);have he1:=(asF w).alloc (.cells #[] 48);have hs1:(w.alloc (.cells #[] 48)).heap.size=w.heap.size+1:=by simp
 go_enter Tryz.func86,Tryz.ntmps86
 go_wp2_with fail
 go_loopw [3,9] (λo i wr=>∃k:Nat,k<=xs.length/\i=.int .i64 k/\GE xN 48 wr w.heap.size wr.heap.size o (xs.take k)/\o≠.slice none 0 0/\Ex w wr) (λ_ i _=>xs.length-(intOf i).toNat)
 case atStart=>exact⟨0,am4 _,rfl,by rw[hs1];exact wO,by simp,he1⟩
 case round=>
  clear wO he1 hs1;obtain⟨k,hk,rfl,hge,hnn,he⟩:=hrel;by_cases hlt:k<xs.length
  .obtain⟨g,off,x,v,rfl,hx,c0,hv⟩:=(h.ex he).j5 hlt;obtain⟨P,pc,rfl,hP⟩:=hv.form;have HT:=amW (show xs.take (k+1)=xs.take k++[x] by rw[am_,hx];rfl);have hz:=he.size;have htl:(xs.take k).length<=k:=aoc _ _;clear hx hv;go_wp2_with fail
   refine(xJ P pc x wr hP).mono ?_;rintro e w3 ⟨v3,rfl,r3,x3⟩;obtain⟨A3,c3,ev⟩:=r3.2.lu;subst ev;have hz3:=x3.size;obtain⟨v',w4,hrun,hge4,_,BG,CW⟩:=Ff (hge.ex x3) hz3 r3 (amX _) hz3 (amX _) hz (by omega);rw[<-HT.out]at hge4;have qO:=CW w (he.trans x3) (amX _);clear CW HT htl;go_wp2_with (at_builtin;refine wpList_append_run rfl _ _ _ rfl rfl rfl hrun ?_)
   go_roundw;case rel=>exact⟨k+1,by omega,by go_num,hge4,BG,qO⟩
   case measure=>simp[intOf];omega
  .obtain rfl:k=xs.length:=by omega
   rw[anf]at hge;go_wp2_with fail
   go_ret;exact⟨_,rfl,⟨hnn,hge⟩,he⟩
theorem wL{P:Nat->Nat->Prop}:∀(n:Nat),(∀j,j<n->∃g,P j g)->∃gs:List Nat,gs.length=n/\∀(j g:Nat),gs[j]?=some g->P j g
 |0,_=>⟨[],rfl,λj g h=>by simp at h⟩
 |n+1,h=>by
  obtain⟨gs,h1,h2⟩:=wL n λj hj=>h j (by omega)
  obtain⟨g,hg⟩:=h n (by omega);refine⟨gs++[g],by simp[h1],λj g' hj=>?_⟩;by_cases e:j<n
  .rw[anN (by omega)]at hj;exact h2 j g' hj
  .have hl:=(am2.1 hj).1;rw[am9,aop]at hl;obtain rfl:j=n:=by omega
   rw[anw (by omega),h1,an4]at hj;injection hj with hj;subst hj;exact hg
theorem yV{g:Nat}(h:GE pq 51 w B H (.slice (some ⟨g,0,none⟩) n c) xs):
 ∃(cur:Array Value) (lo hi:Nat->Nat),w.heap[g]?=some (.cells cur 51 (0,0))/\B<=g/\g<H/\n=xs.length/\
  (∀(i:Nat) (x:aF),xs[i]?=some x->∃A c A' d,cur[i*2]?=some (.slice A x.n.length c)/\cur[i*2+1]?=some (.slice A' x.d.length d)/\FI w (lo (i*2)) (hi (i*2)) A c x.n/\FI w (lo (i*2+1)) (hi (i*2+1)) A' d x.d)/\
  (∀o,o<2*xs.length->B<=lo o/\hi o<=H/\(g<lo o∨hi o<=g))/\
  ∀o o',o<2*xs.length->o'<2*xs.length->o≠o'->hi o<=lo o'∨hi o'<=lo o:=by
 obtain⟨cur,al,bl,hn,hB,hH,hc,h1,h2⟩:=h.at_;have hsk:∀i,∃p:(Nat×Nat)×(Nat×Nat),∀(x:aF),xs[i]?=some x->∃A c A' d,cur[i*2]?=some (.slice A x.n.length c)/\cur[i*2+1]?=some (.slice A' x.d.length d)/\FI w p.1.1 p.1.2 A c x.n/\FI w p.2.1 p.2.2 A' d x.d/\
  al i<=p.1.1/\p.1.2<=bl i/\al i<=p.2.1/\p.2.2<=bl i/\(p.1.2<=p.2.1∨p.2.2<=p.1.1):=λi=>by
  cases hx:xs[i]? with
  |none=>exact⟨((0,0),(0,0)),λx h=>by cases h⟩
  |some x=>obtain⟨u,q1,⟨v0,v1,rfl,a0,b0,a1,b1,⟨A,c,rfl,f0⟩,⟨A',d,rfl,f1⟩,r1,r2,r3,r4,r5⟩,_⟩:=h1 i x hx;refine⟨((a0,b0),(a1,b1)),λy hy=>?_⟩;injection hy with hy;subst hy;exact⟨A,c,A',d,q1 0 _ rfl,q1 1 _ rfl,f0,f1,r1,r2,r3,r4,r5⟩
 obtain⟨f,hf⟩:=Classical.skolem.1 hsk;have he:∀i,(i*2)%2=0/\i*2 / 2=i/\(i*2+1)%2≠0/\(i*2+1) / 2=i:=λi=>by omega
 have hat:∀o,o<2*xs.length->∃x,xs[o / 2]?=some x:=λo ho=>⟨_,am0 (by omega)⟩
 have bd:∀o,o<2*xs.length->al (o / 2)<=(if o%2=0 then(f (o / 2)).1.1 else(f (o / 2)).2.1)/\(if o%2=0 then(f (o / 2)).1.2 else(f (o / 2)).2.2)<=bl (o / 2):=λo ho=>by
  obtain⟨x,hx⟩:=hat o ho;obtain⟨_,_,_,_,_,_,_,_,r1,r2,r3,r4,_⟩:=hf (o / 2) x hx;split
  .exact⟨r1,r2⟩
  .exact⟨r3,r4⟩
 refine⟨cur,λo=>if o%2=0 then(f (o / 2)).1.1 else(f (o / 2)).2.1,λo=>if o%2=0 then(f (o / 2)).1.2 else(f (o / 2)).2.2,hc,hB,hH,hn,λi x hx=>?_,λo ho=>?_,λo o' ho ho' hne=>?_⟩
 .obtain⟨A,c,A',d,q1,q2,q3,q4,_⟩:=hf i x hx;obtain⟨e1,e2,e3,e4⟩:=he i;refine⟨A,c,A',d,q1,q2,?_,?_⟩
  .dsimp only;rw[amY e1,amY e1,e2];exact q3
  .dsimp only;rw[amZ e3,amZ e3,e4];exact q4
 .obtain⟨x,hx⟩:=hat o ho;obtain⟨_,_,_,hb1,hb2,hb3⟩:=h1 (o / 2) x hx;have:=bd o ho;dsimp only;omega
 .dsimp only;have b1:=bd o ho;have b2:=bd o' ho';by_cases e:o / 2=o' / 2
  .obtain⟨x,hx⟩:=hat o ho;obtain⟨_,_,_,_,_,_,_,_,_,_,_,_,r5⟩:=hf (o / 2) x hx;rw[<-e];by_cases p0:o%2=0
   .rw[amY p0,amY p0,amZ (by omega),amZ (by omega)];omega
   .rw[amZ p0,amZ p0,amY (by omega),amY (by omega)];omega
  .have:=h2 (o / 2) (o' / 2) (by omega) (by omega) e;omega
theorem yU{R:Nat}(h:GE xN 48 w B H (.slice (some ⟨G,0,none⟩) R c) rows)(hw:aZ n rows):
 R=rows.length/\B<=G/\G<H/\∃gs:List Nat,gs.length=rows.length/\(∀(j g:Nat),gs[j]?=some g->B<=g/\g<H/\g≠G)/\(∀(i j g:Nat),gs[i]?=some g->gs[j]?=some g->i=j)/\
  (∃cur:Array Value,w.heap[G]?=some (.cells cur 48 (0,0))/\∀(j g:Nat),gs[j]?=some g->∃c,n<=c/\cur[j]?=some (.slice (some ⟨g,0,none⟩) n c))/\
  ∀S:Nat->Prop,(∀z,S z->B<=z->z<H->z=G∨∃j:Nat,gs[j]?=some z)->
   (∀(j g:Nat) (r:List aF),gs[j]?=some g->rows[j]?=some r->oC w S g r)/\Ow w S (λb o=>∃j:Nat,gs[j]?=some b/\o<2*n)/\
   ∀(b o:Nat) (a:Addr) (m d:Nat),(∃j:Nat,gs[j]?=some b/\o<2*n)->w.cell? ⟨b,o,none⟩=some (.slice (some a) m d)->B<=a.block/\a.block<H:=by
 obtain⟨cur,al,bl,hR,hB,hH,hc,h1,h2⟩:=h.at_;refine⟨hR,hB,hH,?_⟩;obtain⟨gs,hgl,hgs⟩:=wL (P:=λj g=>∃x c,rows[j]?=some x/\n<=c/\cur[j]?=some (.slice (some ⟨g,0,none⟩) n c)/\GE pq 51 w (al j) (bl j) (.slice (some ⟨g,0,none⟩) n c) x/\B<=al j/\bl j<=H/\(G<al j∨bl j<=G)) rows.length λj hj=>by obtain⟨u,q1,⟨v,rfl,hv,hge⟩,r1,r2,r3⟩:=h1 j _ (am0 hj);obtain⟨g,d,e,hd,_⟩:=hge.form hv;subst e;have hwj:=hw rows[j] (anO hj);rw[hwj]at q1 hge hd;refine⟨g,rows[j],d,am0 hj,hd,?_,hge,r1,r2,r3⟩;have:=q1 0 _ rfl;rwa[show xN.k=1 from rfl,anY,anS]at this
 have hlt:∀(j g:Nat),gs[j]?=some g->j<rows.length:=λj g hj=>by have:=(am2.1 hj).1;omega
 have hin:∀(j g:Nat),gs[j]?=some g->al j<=g/\g<bl j:=λj g hj=>by obtain⟨x,d,_,_,_,hge,_⟩:=hgs j g hj;exact hge.own g rfl
 have hnd:∀(i j g:Nat),gs[i]?=some g->gs[j]?=some g->i=j:=λi j g hi hj=>by apply aov;intro hne;have:=h2 i j (hlt i g hi) (hlt j g hj) hne;have:=hin i g hi;have:=hin j g hj;omega
 refine⟨gs,hgl,λj g hj=>?_,hnd,⟨cur,hc,λj g hj=>?_⟩,λS hS=>?_⟩
 .obtain⟨x,d,_,_,_,_,r1,r2,r3⟩:=hgs j g hj;have:=hin j g hj;omega
 .obtain⟨x,d,_,q0,q,_⟩:=hgs j g hj;exact⟨d,q0,q⟩
 ·
  have away:∀(j g p lo hi:Nat),gs[j]?=some g->al j<=lo->hi<=bl j->(g<lo∨hi<=g)->lo<=p->p<hi->¬S p/\B<=p/\p<H:=λj g p lo hi hj k1 k2 k3 k4 k5=>by
   obtain⟨x,d,_,_,_,_,r1,r2,r3⟩:=hgs j g hj;refine⟨λhs=>?_,by omega,by omega⟩;rcases hS p hs (by omega) (by omega)with e|⟨i,hi'⟩
   .omega
   .by_cases e:i=j
    .subst e;rw[hj]at hi';injection hi' with hi';omega
    .have:=h2 i j (hlt i p hi') (hlt j g hj) e;have:=hin i p hi';omega
  refine⟨λj g r hj hr=>?_,?_,?_⟩
  .obtain⟨x,d,hx,_,_,hge,_⟩:=hgs j g hj;rw[hr]at hx;injection hx with hx;subst hx;obtain⟨cu,lo,hi,k1,k2,k3,k4,k5,k6,k7⟩:=yV hge;refine⟨cu,k1,λi x hi'=>?_⟩;obtain⟨A,ca,A',d',q1,q2,q3,q4⟩:=k5 i x hi';have hil:=(am2.1 hi').1;have b0:=k6 (i*2) (by omega);have b1:=k6 (i*2+1) (by omega);exact⟨A,ca,A',d',q1,q2,⟨q3.rd,λ_ a e=>(away j g a.block _ _ hj b0.1 b0.2.1 b0.2.2 (q3.fr.hi a e) (q3.lo a e)).1⟩,⟨q4.rd,λ_ a e=>(away j g a.block _ _ hj b1.1 b1.2.1 b1.2.2 (q4.fr.hi a e) (q4.lo a e)).1⟩⟩
  all_goals
   have key:∀(b o:Nat) (a:Addr) (m d:Nat),(∃j:Nat,gs[j]?=some b/\o<2*n)->w.cell? ⟨b,o,none⟩=some (.slice (some a) m d)->(¬S a.block/\m<=d/\∃cu,w.heap[a.block]?=some (.cells cu 3 (0,0)))/\B<=a.block/\a.block<H/\
    ∃(j:Nat) (x:List aF) (lo hi:Nat->Nat),gs[j]?=some b/\o<2*n/\lo o<=a.block/\a.block<hi o/\al j<=lo o/\hi o<=bl j/\∀o' a',o'<2*n->o'≠o->w.cell? ⟨b,o',none⟩=some (.slice (some a') m d)->True:=by
    intro b o a m d hb hcell;obtain⟨j,hj,ho⟩:=hb;obtain⟨x,d2,hx,_,_,hge,_⟩:=hgs j b hj;obtain⟨cu,lo,hi,k1,k2,k3,k4,k5,k6,k7⟩:=yV hge;obtain⟨y,hy⟩:∃y,x[o / 2]?=some y:=⟨_,am0 (by omega)⟩;obtain⟨A,ca,A',d',q1,q2,q3,q4⟩:=k5 _ y hy;have b0:=k6 o (by omega);have Ia:cu[o]?=some (.slice (some a) m d):=by simpa[World.cell?,k1]using hcell
    have hfin:∃(A:Option Addr) (ca:Nat) (l:List Int),FI w (lo o) (hi o) A ca l/\A=some a/\m=l.length/\d=ca:=by
     rcases(show o=o / 2*2∨o=o / 2*2+1 by omega)with e|e
     .rw[<-e]at q1 q3;rw[Ia]at q1;injection q1 with q1;injection q1 with e1 e2 e3;exact⟨A,ca,_,q3,e1.symm,e2,e3⟩
     .rw[<-e]at q2 q4;rw[Ia]at q2;injection q2 with q2;injection q2 with e1 e2 e3;exact⟨A',d',_,q4,e1.symm,e2,e3⟩
    obtain⟨A2,c2,l,hf,rfl,rfl,rfl⟩:=hfin;have h3:=hf.fr.hi a rfl;have h4:=hf.lo a rfl;obtain⟨s1,s2,s3⟩:=away j b a.block _ _ hj b0.1 b0.2.1 b0.2.2 h3 h4;obtain⟨_,cu2,h5⟩:=hf.fr.2.2 a rfl;exact⟨⟨s1,hf.fr.cap,cu2,h5⟩,s2,s3,j,x,lo,hi,hj,ho,h3,h4,b0.1,b0.2.1,λ_ _ _ _ _=>trivial⟩
  .intro b o a m d hb hcell;refine⟨(key b o a m d hb hcell).1,λb' o' a' m' d' hb' hcell' ea=>?_⟩;obtain⟨_,_,_,j,_,_,_,hj,_,l1,l2,l3,l4,_⟩:=key b o a m d hb hcell;obtain⟨_,_,_,j',_,_,_,hj',_,m1,m2,m3,m4,_⟩:=key b' o' a' m' d' hb' hcell';obtain rfl:j=j':=by
    apply aov;intro hne;have:=h2 j j' (hlt j b hj) (hlt j' b' hj') hne;omega
   rw[hj]at hj';injection hj' with hj';subst hj';refine⟨rfl,?_⟩;obtain⟨_,_,ho⟩:=hb;obtain⟨_,_,ho'⟩:=hb';obtain⟨x,d2,hx,_,_,hge,_⟩:=hgs j b hj;obtain⟨cu,lo,hi,k1,k2,k3,k4,k5,k6,k7⟩:=yV hge;have inn:∀(o:Nat) (a:Addr) (m d:Nat),o<2*n->w.cell? ⟨b,o,none⟩=some (.slice (some a) m d)->lo o<=a.block/\a.block<hi o:=λo a m d ho hcell=>by
    obtain⟨y,hy⟩:∃y,x[o / 2]?=some y:=⟨_,am0 (by omega)⟩;obtain⟨A,ca,A',d',q1,q2,q3,q4⟩:=k5 _ y hy;have Ia:cu[o]?=some (.slice (some a) m d):=by simpa[World.cell?,k1]using hcell
    rcases(show o=o / 2*2∨o=o / 2*2+1 by omega)with e|e
    .rw[<-e]at q1 q3;rw[Ia]at q1;injection q1 with q1;injection q1 with e1 e2 e3;exact⟨q3.fr.hi a e1.symm,q3.lo a e1.symm⟩
    .rw[<-e]at q2 q4;rw[Ia]at q2;injection q2 with q2;injection q2 with e1 e2 e3;exact⟨q4.fr.hi a e1.symm,q4.lo a e1.symm⟩
   apply aov;intro hne;have i1:=inn o a m d ho hcell;have i2:=inn o' a' m' d' ho' hcell';have:=k7 o o' (by omega) (by omega) (λe=>hne e.symm);omega
  .intro b o a m d hb hcell;obtain⟨_,r1,r2,_⟩:=key b o a m d hb hcell;exact⟨r1,r2⟩
theorem oC.k1{S':Nat->Prop}(h:oC w S b xs)(hO:Ow w S' R)(hR:∀o,o<2*xs.length->R b o)(hq:S' q)(hb:b≠q)(k:aJ q w w'):oC w' S b xs:=by
 have hl:=h.lt;obtain⟨cur,hc,hx⟩:=h;refine⟨cur,(k.block b hl (by intro e;injection e with e;exact hb e)).trans hc,λi x hi=>?_⟩;obtain⟨A,c,B,d,h1,h2,h3,h4⟩:=hx i x hi;have hil:=(am2.1 hi).1;have kp:∀(o:Nat) (A:Option Addr) (n c:Nat) (l:List Int),o<2*xs.length->cur[o]?=some (.slice A n c)->RX w S A l->RX w' S A l:=λo A n c l ho Ia hr=>
  ⟨hr.1.keep λa e hl=>k.block _ hl (by
   subst e;intro e2;injection e2 with e2;have:=(hO b o a n c (hR o ho) (by simp[World.cell?,hc,Ia])).1.1;exact this (e2▸hq)),hr.2⟩
 exact⟨A,c,B,d,h1,h2,kp _ A _ _ _ (by omega) h1 h3,kp _ B _ _ _ (by omega) h2 h4⟩
theorem fC.k1{S':Nat->Prop}(h:fC w S G bs rows n)(hO:Ow w S' R)(hR:∀(j b:Nat),bs[j]?=some (some b)->∀o,o<2*n->R b o)(hq:S' q)(hS:¬S q)(k:aJ q w w'):fC w' S G bs rows n:=by
 have hl:=h.lt;obtain⟨cur,hc,hx⟩:=h.out;refine⟨⟨cur,(k.block G hl (by intro e;injection e with e;exact hS (e▸h.sg))).trans hc,hx⟩,h.len,λj ob r h1 h2=>?_,h.nd,h.sg,h.ng⟩;obtain⟨q1,q2⟩:=h.row j ob r h1 h2;refine⟨?_,q2⟩;cases ob with
 |none=>exact q1
 |some b=>exact⟨q1.1.k1 hO (λo ho=>hR j b h1 o (by omega)) hq (λe=>hS (e▸q1.2)) k,q1.2⟩
theorem bD.k1(h:bD w S K G G' bs bs' Z n m)(hq:K q)(hS:¬S q)(k:aJ q w w'):bD w' S K G G' bs bs' Z n m:=by obtain⟨R,hO,h1,h2,h3,h4,h5⟩:=h.own;refine⟨h.r.k1 hO (λj b hb=>(h4 j b hb).2) (.inr hq) hS k,h.a.k1 hO (λj b hb=>(h5 j b hb).2) (.inr hq) hS k,h.ne,h.d,h.d1,h.d2,λz hz=>anq (h.sl z hz) k.size,λz hz=>anq (h.kl z hz) k.size,R,?_,h1,h2,h3,h4,h5⟩;exact hO.sx (λz o hz=>h.sl z (h1 z o hz)) (bn.a_ (S:=λz=>z=q) k rfl) (λi e=> .inr (e▸hq)) (λi o e hr=>hS (h1 q o (e▸hr)))
theorem bD.Wq{K':Nat->Prop}(h:bD w S K G G' bs bs' Z n m)(he:Ex w w')(hK:∀z,K' z->K z∨(w.heap.size<=z/\z<w'.heap.size)):bD w' S K' G G' bs bs' Z n m:=by
 obtain⟨R,hO,h1,h2,h3,h4,h5⟩:=h.own;have hw:=h.ex he;refine⟨hw.r,hw.a,h.ne,h.d,h.d1,h.d2,hw.sl,λz hz=>?_,R,?_,h1,h2,h3,h4,h5⟩
 .rcases hK z hz with hz|hz
  .exact hw.kl z hz
  .exact hz.2
 .have YO:Ow w (λz=>S z∨K' z) R:=λb o a nn c hb hc=>by
   obtain⟨⟨q1,q2,cur,q3⟩,q4⟩:=hO b o a nn c hb hc;refine⟨⟨λe=>?_,q2,cur,q3⟩,q4⟩;rcases e with e|e
   .exact q1 (.inl e)
   .rcases hK _ e with e|e
    .exact q1 (.inr e)
    .have:=aC q3;omega
  exact YO.sx (λz o hz=>h.sl z (h1 z o hz)) (bn.aN (S:=λ_=>False) he) (λ_ h=>h.elim) (λ_ _ h=>h.elim)
theorem bD.UF{R:Nat}(h:GE xN 48 w B H (.slice (some ⟨G,0,none⟩) R c) rows)(hw:aZ n rows)(hG':VB w G' 48 (replicate R (Value.slice none 0 0)).toArray)(hH:H<=G')
 (hK:∀z,K z->z<w.heap.size/\(z<B∨H<=z)) (hHs:H<=w.heap.size):R=rows.length/\B<=G/\G<H/\∃(S:Nat->Prop) (bs:List (Option Nat)),bD w S K G G' bs (replicate R none) rows n 0/\∀z,S z->(B<=z/\z<H)∨z=G':=by
 obtain⟨hR,hB,hGH,gs,g1,g2,g3,g4,g5⟩:=yU h hw;refine⟨hR,hB,hGH,λz=>z=G∨z=G'∨∃j:Nat,gs[j]?=some z,gs.map some,?_,λz hz=>?_⟩
 .have hat:∀(j b:Nat),(gs.map some)[j]?=some (some b)->gs[j]?=some b:=λj b hb=>by
   rw[am7]at hb;cases hx:gs[j]? with
   |none=>rw[hx]at hb;cases hb
   |some x=>rw[hx]at hb;cases hb;rfl
  have e1:rows.map (List.take n)=rows:=by
   conv=>rhs;rw[<-List.map_id rows]
   exact anF λv hv=>by rw[<-hw v hv,anf];rfl
  have e2:rows.map (List.drop n)=replicate R []:=by
   rw[hR];refine aoB (by simp) λj h1 h2=>?_
   rw[aor,List.getElem_replicate];refine aoA ?_;rw[am5]at h1;rw[hw _ (anO h1)];exact amX _
  have s1:=g5 (λz=>z=G∨z=G'∨∃j:Nat,gs[j]?=some z) (λz hz l u=>by
   rcases hz with e|e|e
   .exact .inl e
   .omega
   .exact .inr e)
  have s2:=g5 (λz=>(z=G∨z=G'∨∃j:Nat,gs[j]?=some z)∨K z) (λz hz l u=>by
   rcases hz with(e|e|e)|e
   .exact .inl e
   .omega
   .exact .inr e
   .have:=hK z e;omega)
  obtain⟨cur,hc,Ia⟩:=g4;refine⟨⟨⟨cur,hc,λj ob hj=>?_⟩,by rw[am5,am5];exact g1,λj ob r h1 h2=>?_,λi j b h1 h2=>g3 i j b (hat i b h1) (hat j b h2),.inl rfl,λj b hb=>(g2 j b (hat j b hb)).2.2⟩,?_,by omega,λi j b h1 h2=>?_,λj b hb=>by have:=(g2 j b (hat j b hb)).2.1;omega,λj b hb=>?_,λz hz=>?_,λz hz=>(hK z hz).1,λb o=>∃j:Nat,gs[j]?=some b/\o<2*n,s2.2.1,λz o hz=>?_,λo hz=>?_,λo hz=>?_,λj b hb=>⟨.inr (.inr ⟨j,hat j b hb⟩),λo ho=>⟨j,hat j b hb,ho⟩⟩,λj b hb=>?_⟩
  .rw[am7]at hj;cases hx:gs[j]? with
   |none=>rw[hx]at hj;cases hj
   |some x=>rw[hx]at hj;injection hj with hj;subst hj;exact Ia j x hx
  .rw[e1]at h2;rw[am7]at h1;cases hx:gs[j]? with
   |none=>rw[hx]at h1;cases h1
   |some x=>rw[hx]at h1;injection h1 with h1;subst h1;exact⟨⟨s1.1 j x r hx h2,.inr (.inr ⟨j,hx⟩)⟩,hw r (am1 h2)⟩
  .rw[e2];refine⟨⟨_,hG',λj ob hj=>?_⟩,by simp,λj ob r h1 h2=>?_,λi j b h1 h2=>?_,.inr (.inl rfl),λj b hb=>?_⟩
   .rw[anH]at hj;split at hj
    .rename_i hlt;injection hj with hj;subst hj;exact⟨0,amX 0,by simp[hlt,pB]⟩
    .cases hj
   .rw[anH]at h1 h2;split at h1
    .rename_i hlt;rw[amY hlt]at h2;injection h1 with h1;injection h2 with h2;subst h1 h2;exact⟨rfl,rfl⟩
    .cases h1
   .rw[anH]at h1;split at h1<;>cases h1
   .rw[anH]at hb;split at hb<;>cases hb
  .rw[anH]at h2;split at h2<;>cases h2
  .rw[anH]at hb;split at hb<;>cases hb
  .rcases hz with e|e|⟨j,hj⟩
   .have:=aC hc;omega
   .have:=hG'.lt;omega
   .have:=(g2 j z hj).2.1;omega
  .obtain⟨j,hj,_⟩:=hz;exact .inr (.inr ⟨j,hj⟩)
  .obtain⟨j,hj,_⟩:=hz;exact(g2 j G hj).2.2 rfl
  .obtain⟨j,hj,_⟩:=hz;have:=(g2 j G' hj).2.1;omega
  .rw[anH]at hb;split at hb<;>cases hb
 .rcases hz with e|e|⟨j,hj⟩
  .exact .inl (by omega)
  .exact .inr e
  .exact .inl ⟨(g2 j z hj).1,(g2 j z hj).2.1⟩
def VO(w:World)(B:Nat)(v:Value)(rows:List (List aF))(n:Nat):Prop:=
 ∃(S S':Nat->Prop) (R:Nat->Nat->Prop) (G:Nat) (bs:List (Option Nat)) (c:Nat),v=.slice (some ⟨G,0,none⟩) rows.length c/\rows.length<=c/\fC w S G bs rows n/\Ow w S' R/\(∀z,S z->S' z)/\(∀z,z<B->S' z)/\(∀z,S z->B<=z/\z<w.heap.size)/\
  (∀z o,R z o->S z)/\(∀(j b:Nat),bs[j]?=some (some b)->S b/\∀o,o<2*n->R b o)
theorem fC.take(h:fC w S G bs rows n)(r:Nat):fC w S G (bs.take r) (rows.take r) n:=by
 have at_:∀{α:Type} (l:List α) (j:Nat) (x:α),(l.take r)[j]?=some x->l[j]?=some x:=λl j x hj=>by
  rw[anh]at hj;split at hj
  .exact hj
  .cases hj
 obtain⟨cur,hc,hx⟩:=h.out;exact⟨⟨cur,hc,λj ob hj=>hx j ob (at_ _ _ _ hj)⟩,by rw[am8,am8,h.len],λj ob q h1 h2=>h.row j ob q (at_ _ _ _ h1) (at_ _ _ _ h2),λi j b h1 h2=>h.nd i j b (at_ _ _ _ h1) (at_ _ _ _ h2),h.sg,λj b hb=>h.ng j b (at_ _ _ _ hb)⟩
theorem IJ(p:Int)(S KS:Nat->Prop)(G G':Nat)(Xb GU:List (Option Nat))(Z0:List (List aF))(n m R cG OD b0 b1 b2 b3 b4:Nat)(w:World)(hF:aj p=true)(h:bD w S KS G G' Xb GU Z0 n m)(hW:aZ (n+m) Z0)(sJ:∀c,c<=n->iK p 17179869184 (gJ (ah p) Z0 c).1)(hR:Z0.length=R)
 (hn:n<=1000) (hm:m<=1000) (hR1:R<=1000) (hc1:R<=cG) (hc2:cG<=9223372036854775807)
 (c0:w.cell? ⟨b0,0,none⟩=some (.int .i64 p)) (c1:w.cell? ⟨b1,0,none⟩=some (.slice (some ⟨G,0,none⟩) R cG)) (c2:w.cell? ⟨b2,0,none⟩=some (.int .i64 n)) (c3:w.cell? ⟨b3,0,none⟩=some (.slice (some ⟨G',0,none⟩) R OD)) (v4:VB w b4 3 #[.int .i64 0]) (hS4:¬S b4) (hK4:KS b4):
 Calls prog 100 #[.pointer (some ⟨b0,0,none⟩),.pointer (some ⟨b1,0,none⟩),.pointer (some ⟨b2,0,none⟩),.pointer (some ⟨b3,0,none⟩),.pointer (some ⟨b4,0,none⟩)] w λe w'=>e=.returned (.tuple #[])/\bn (λz=>S z∨z=b4) w w'/\
  VB w' b4 3 #[.int .i64 ((ah p).red n 0 0 Z0).2]/\∃bs bs',bD w' S KS G G' bs bs' ((ah p).red n 0 0 Z0).1 n m:=by
 have hcall:=pR p S KS G G' Xb GU Z0 n m R cG OD w hF h.sl h hW sJ hR hn hm hR1 hc1 hc2;clear h hW sJ hR;generalize(ah p).red n 0 0 Z0=FIN at*;go_enter Tryz.func100,Tryz.ntmps100
 go_wp2_with fail
 refine hcall.mono ?_;rintro e w1 ⟨bs,bs',rfl,hT,x1⟩;have v1:VB w1 b4 3 #[.int .i64 0]:=(x1.block _ v4.lt hS4).trans v4;have d0:=v1.c0;have d1:=v1.frozen 0;have E2:aJ b4 w1 (w1.setCell ⟨b4,0,none⟩ (.int .i64 FIN.2)):=(aJ.refl _ w1).setCell (p:=⟨b4,0,none⟩) rfl _;have v2:VB (w1.setCell ⟨b4,0,none⟩ (.int .i64 FIN.2)) b4 3 #[.int .i64 FIN.2]:=v1.aX 0 _;have Oy:=hT.k1 hK4 hS4 E2;have x2:=(x1.widen (T:=λz=>S z∨z=b4) (λz _ h=> .inl h)).trans (bn.a_ (S:=λz=>z=b4) E2 rfl) (λz _ e=> .inr e);clear hcall;go_wp2_with fail
 first|rw[anU]|skip
 refine bodyPost_end (results_none rfl _ _ _) rfl ?_;exact⟨rfl,x2,v2,bs,bs',Oy⟩
theorem Bo(n:Nat)(hn:n<=1099511627776)(w:World):
 (Instr.makeSlice 27 (.int .i64 (n:Int)) (.int .i64 (n:Int))).run prog w=.ok (.slice (some ⟨w.heap.size,0,none⟩) n n) (w.alloc (.cells (replicate n (Value.slice none 0 0)).toArray 48)):=by
 have h:=oG n hn w;have e:(replicate n slZ).flatten=replicate n (Value.slice none 0 0):=by
  induction n with
  |zero=>rfl
  |succ n ih=>rw[List.replicate_succ,aoy,ih (by omega) (oG n (by omega) w)];rfl
 rw[e]at h;exact h
theorem xX{K:Type}(O:Ops K):∀(m c r:Nat) (rows:List (List K)),r<=rows.length->(O.red m c r rows).2<=rows.length
 |0,_,_,_,h=>h
 |m+1,c,r,rows,h=>by
  rw[Ops.red];split
  .rename_i hf;have hk:=jm O hf;have:=xX O m (c+1) (r+1) (O.piv rows r c (O.qg rows r c)) (by rw[dU];omega);rwa[dU]at this
  .exact xX O m (c+1) r rows h
theorem aZ.red{K:Type}{O:Ops K}{N:Nat}:∀(m c r:Nat) (rows:List (List K)),r<=rows.length->aZ N rows->aZ N (O.red m c r rows).1
 |0,_,_,_,_,h=>h
 |m+1,c,r,rows,hr,h=>by
  rw[Ops.red];split
  .rename_i hf;have hk:=jm O hf;exact aZ.red m (c+1) (r+1) _ (by rw[dU];omega) (h.piv (by omega) hf)
  .exact aZ.red m (c+1) r rows hr h
theorem UI(n:Nat):(replicate n (Value.slice none 0 0)).toArray=Array.replicate n (Value.slice none 0 0):=by simp
theorem Dr(p:Int)(n:Nat)(rows:List (List aF))(A:Option Addr)(c:Nat)(w:World)(hF:aj p=true)(h:gm iE w A rows)(hw:aZ n rows)(sJ:∀c,c<=n->iK p 17179869184 (gJ (ah p) rows c).1)(hn:n<=1000)(hR:rows.length<=1000):
 Calls prog 61 #[.int .i64 p,.slice A rows.length c,.int .i64 n] w λe w'=>∃v,e=.returned v/\VO w' w.heap.size v ((ah p).aB n rows) n/\Ex w w':=by
 have HF:=amW hF;have HW:=amW hw;have Zw:=amW sJ;have x0:=((asF w).alloc (.cells #[.int .i64 p] 3)).alloc (.cells #[.int .i64 n] 3);have v0:=(VB.new w 3 #[.int .i64 p]).ex ((asF _).alloc (.cells #[.int .i64 n] 3));have v1:=VB.new (w.alloc (.cells #[.int .i64 p] 3)) 3 #[.int .i64 n];have s0:((w.alloc (.cells #[.int .i64 p] 3)).alloc (.cells #[.int .i64 n] 3)).heap.size=w.heap.size+2:=by simp
 rw[show(w.alloc (.cells #[.int .i64 p] 3)).heap.size=w.heap.size+1 by simp]at v1;clear hF hw sJ;go_enter Tryz.func61,Tryz.ntmps61
 go_wp2_with fail
 generalize(w.alloc (.cells #[.int .i64 p] 3)).alloc (.cells #[.int .i64 n] 3)=W0 at*;refine(Am A c rows W0 (h.ex x0)).mono ?_;rintro e w1 ⟨v,rfl,⟨hnn,hge⟩,x1⟩;obtain⟨G,cG,ev,hcG,hcm⟩:=hge.form hnn;subst ev;clear hnn;have hz1:=x1.size;have hmk:=λW=>Bo rows.length (by omega) W
 go_wp2_with fail
 obtain⟨y1,vN⟩:=VB.xn w1 27 #[.slice (some ⟨G,0,none⟩) rows.length cG];have t1:(w1.alloc (.cells #[.slice (some ⟨G,0,none⟩) rows.length cG] 27)).heap.size=w1.heap.size+1:=by simp
 generalize w1.alloc (.cells #[.slice (some ⟨G,0,none⟩) rows.length cG] 27)=V1 at*;have vM:=VB.new V1 48 (Array.replicate rows.length (Value.slice none 0 0));have y2:=(asF V1).alloc (.cells (Array.replicate rows.length (Value.slice none 0 0)) 48);have t2:(V1.alloc (.cells (Array.replicate rows.length (Value.slice none 0 0)) 48)).heap.size=w1.heap.size+1+1:=by simp;exact t1
 rw[t1]at vM;generalize V1.alloc (.cells (Array.replicate rows.length (Value.slice none 0 0)) 48)=V2 at*;obtain⟨y3,vO⟩:=VB.xn V2 27 #[.slice (some ⟨w1.heap.size+1,0,none⟩) rows.length rows.length];have t3:(V2.alloc (.cells #[.slice (some ⟨w1.heap.size+1,0,none⟩) rows.length rows.length] 27)).heap.size=w1.heap.size+1+1+1:=by simp;exact t2
 rw[t2]at vO;generalize V2.alloc (.cells #[.slice (some ⟨w1.heap.size+1,0,none⟩) rows.length rows.length] 27)=V3 at*;obtain⟨y4,vR⟩:=VB.xn V3 3 #[.int .i64 0];have t4:(V3.alloc (.cells #[.int .i64 0] 3)).heap.size=w1.heap.size+1+1+1+1:=by simp;exact t3
 rw[t3]at vR;generalize V3.alloc (.cells #[.int .i64 0] 3)=V4 at*;have y14:=((y1.trans y2).trans y3).trans y4;have v0:=(v0.ex x1).ex y14;have v1:=(v1.ex x1).ex y14;have vN:=vN.ex ((y2.trans y3).trans y4);have vM:=vM.ex (y3.trans y4);have vO:=vO.ex y4;have hge4:=hge.ex y14;obtain⟨_,hBG,hGH,S,bs,hT,hSb⟩:=bD.UF (K:=λz=>z<W0.heap.size∨(w1.heap.size<=z/\z<V4.heap.size)) hge4 HW.out (G':=w1.heap.size+1) (by rw[UI];exact vM) (by omega) (λz hz=>by omega) (by omega);clear y1 y2 y3 y4 hge hge4 hmk vM;have hS5:∀z,S z∨z=w1.heap.size+1+1+1->w.heap.size<=z/\z<V4.heap.size:=λz hz=>by
  rcases hz with hz|hz
  .rcases hSb z hz with h|h<;>omega
  .omega
 have hSn:¬S (w1.heap.size+1+1+1):=λh=>by rcases hSb _ h with h|h<;>omega
 have hSN:¬S V4.heap.size:=λh=>by have:=hS5 _ (.inl h);omega
 have hSo:¬S w1.heap.size:=λh=>by rcases hSb _ h with h|h<;>omega
 have hfl:=nO (ah p) n 0 0 rows;have hfs:=xX (ah p) n 0 0 rows (am4 _);have hfw:aZ n ((ah p).red n 0 0 rows).1:=aZ.red n 0 0 rows (am4 _) HW.out;have hrr:(ah p).aB n rows=((ah p).red n 0 0 rows).1.take ((ah p).red n 0 0 rows).2:=rfl;have hcall:=JW 100 (enters_of Tryz.func100 (by kernel_rfl) rfl) #[.pointer (some ⟨w.heap.size,0,none⟩),.pointer (some ⟨w1.heap.size,0,none⟩),.pointer (some ⟨w.heap.size+1,0,none⟩),.pointer (some ⟨w1.heap.size+1+1,0,none⟩),.pointer (some ⟨w1.heap.size+1+1+1,0,none⟩)] V4 (λz=>S z∨z=w1.heap.size+1+1+1)
  (λW=>VB W (w1.heap.size+1+1+1) 3 #[.int .i64 ((ah p).red n 0 0 rows).2]/\∃bs bs',bD W S (λz=>(z<W0.heap.size∨(w1.heap.size<=z/\z<V4.heap.size))∨z=V4.heap.size) G (w1.heap.size+1) bs bs' ((ah p).red n 0 0 rows).1 n 0) (λz hz=>(hS5 z hz).2) (λW hW hsz=>by
   have ZN:=hT.Wq (K':=λz=>(z<W0.heap.size∨(w1.heap.size<=z/\z<V4.heap.size))∨z=V4.heap.size) hW (λz hz=>by
    rcases hz with hz|hz
    .exact .inl hz
    .exact .inr (by omega))
   refine(IJ p S _ G (w1.heap.size+1) bs _ rows n 0 rows.length cG rows.length w.heap.size w1.heap.size (w.heap.size+1) (w1.heap.size+1+1) (w1.heap.size+1+1+1) W HF.out ZN (by simpa using HW.out) Zw.out rfl hn (by omega) hR hcG hcm ((v0.ex hW).c0) ((vN.ex hW).c0) ((v1.ex hW).c0) ((vO.ex hW).c0) (vR.ex hW) hSn (.inl (.inr (by omega)))).mono ?_;rintro e W' ⟨rfl,a1,a2,a3⟩;exact⟨rfl,a1,a2,a3⟩) (λW W' hq he=>by
   obtain⟨q1,bs1,Za,q2⟩:=hq;exact⟨q1.aM he (by omega),bs1,Za,q2.k1 (.inr rfl) hSN he⟩)
 have x4:=(x0.trans x1).trans y14;clear hT v0 v1 vO vR;generalize(ah p).red n 0 0 rows=FIN at*;refine hcall.mono ?_;rintro e w5 ⟨rfl,x5,v5,bs5,afM,BH⟩;have vN5:VB w5 w1.heap.size 27 #[.slice (some ⟨G,0,none⟩) rows.length cG]:=(x5.block _ vN.lt (λh=>by
  rcases h with h|h
  .exact hSo h
  .omega)).trans vN
 have d0:=vN5.c0;have d1:=v5.c0;have x5w:Ex w w5:=x4.sx x5 (λz hz=>(hS5 z hz).1);have ZH:=x5.size;have hlr:((ah p).aB n rows).length=FIN.2:=by rw[hrr,am8];omega
 have hfin:VO w5 w.heap.size (.slice (some ⟨G,0,none⟩) FIN.2 FIN.2) ((ah p).aB n rows) n:=by
  obtain⟨R,hO,h1,h2,h3,h4,h5⟩:=BH.own;refine⟨S,_,R,G,bs5.take FIN.2,FIN.2,by rw[hlr],by omega,?_,hO,λz hz=> .inl hz,λz hz=> .inr (.inl (.inl (by have:=x0.size;omega))),λz hz=>⟨(hS5 z (.inl hz)).1,BH.sl z hz⟩,h1,λj b hb=>h4 j b ?_⟩
  .have hM:=BH.r.take FIN.2;have:FIN.1.map (List.take n)=FIN.1:=by
    conv=>rhs;rw[<-List.map_id FIN.1]
    exact anF λv hv=>by rw[<-hfw v hv,anf];rfl
   rw[this,<-hrr]at hM;exact hM
  .rw[anh]at hb;split at hb
   .exact hb
   .cases hb
 have Zn:=amW hfin;clear hcall hfin BH hlr hfw hrr hfl;go_wp2_with fail
 go_ret;exact⟨_,rfl,Zn.out,x5w⟩
theorem gm.rdf(h:gm EF w A xs)(hl:xs.length<=549755813888):RdF w A (xs.map λx=>(x.n,x.d)):=by
 refine⟨by rw[am5];exact hl,λj q hj=>?_⟩;rw[am7]at hj;cases hx:xs[j]? with
 |none=>rw[hx]at hj;cases hj
 |some x=>rw[hx]at hj;injection hj with hj;subst hj;obtain⟨g,off,y,P,pc,Q,qc,hA,hy,c0,c1,hP,hQ⟩:=h.ku (am2.1 hx).1;rw[hx]at hy;injection hy with hy;subst hy;exact⟨g,off,P,pc,Q,qc,hA,c0,c1,hP,hQ⟩
def j3(p:Int)(n:Nat)(r:List aF):Bool:=decide (r.length=n)&&r.all λx=>bF p x.n x.d
def dO(p:Int)(n:Nat)(rows:List (List aF)):Bool:=rows.all (j3 p n)
theorem Ob(p:Int)(n:Nat)(A:Option Addr)(c:Nat)(rows:List (List aF))(w:World)(h:gm iE w A rows)(hn:n<=1000)(ht:Tb w):
 Calls prog 60 #[.int .i64 p,.slice A rows.length c,.int .i64 n] w λe w'=>e=.returned (.bool (dO p n rows&&aj p))/\Ex w w':=by
 have hl:=h.1;go_enter Tryz.func60,Tryz.ntmps60
 go_wp2_with fail
 go_loopw [11] (λi wr=>∃k:Nat,k<=rows.length/\i=.int .i64 k/\Hid (dO p n (rows.take k)=true)/\Ex w wr) (λi _=>rows.length-(intOf i).toNat)
 case atStart=>exact⟨0,am4 _,rfl,amW rfl,asF _⟩
 case round=>
  obtain⟨k,hk,rfl,gy,he⟩:=hrel;by_cases hlt:k<rows.length
  .obtain⟨g,off,r,v,rfl,hr,c0,hv⟩:=(h.ex he).j5 hlt;obtain⟨P,pc,rfl,hP⟩:=hv.form;have Hr:=amW hr;have WL:=hP.1;clear hr hv;have hno:j3 p n r=false->(dO p n rows&&aj p)=false:=λe=>by
    have:dO p n rows=false:=aof.2 ⟨r,am1 Hr.out,by rw[e];simp⟩;rw[this];rfl
   by_cases hrn:r.length=n
   .have hb:((r.length:Int) !=(n:Int))=false:=by simp;omega
    have hcall:=AA p P pc (r.map λx=>(x.n,x.d)) wr (hP.rdf (by omega)) (ht.ex he);rw[am5]at hcall;have hcb:((r.map λx=>(x.n,x.d)).all (λq=>bF p q.1 q.2)&&aj p)=(j3 p n r&&aj p):=by rw[List.all_map,j3,hrn];simp;rfl
    rw[hcb]at hcall;clear hcb;cases hok:(j3 p n r&&aj p)with
    |true=>
     rw[hok]at hcall;rw[anx]at hok;have Hok:=amW hok.1;have HrN:=amW hrn;clear hok hno hrn;go_wp2_with fail
     refine hcall.mono ?_;rintro e w1 ⟨rfl,x1⟩;go_wp2_with fail
     go_roundw;case rel=>exact⟨k+1,by omega,by go_num,amW (by rw[dO,am_,Hr.out,an_];rw[show((rows.take k).all (j3 p n))=true from gy.out];simp[Hok.out]),he.trans x1⟩
     case measure=>simp[intOf];omega
    |false=>
     rw[hok]at hcall;have HF:=amW (show(dO p n rows&&aj p)=false by
      rw[Bool.and_eq_false_iff]at hok;rcases hok with e|e
      .exact hno e
      .rw[e];simp)
     have HrN:=amW hrn;clear hok hno hrn;go_wp2_with fail
     refine hcall.mono ?_;rintro e w1 ⟨rfl,x1⟩;go_wp2_with fail
     go_ret;exact⟨by rw[HF.out];rfl,he.trans x1⟩
   .have hb:((r.length:Int) !=(n:Int))=true:=by simp;omega
    have HF:=amW (hno (by rw[j3,decide_eq_false hrn];rfl));clear hno hrn;go_wp2_with fail
    go_ret;exact⟨by rw[HF.out];rfl,he⟩
  .obtain rfl:k=rows.length:=by omega
   have HA:=amW (show dO p n rows=true by have:=gy.out;rwa[anf]at this);have htw:=ht.ex he;go_wp2_with (go_at_call 51;refine(iq _ _ htw).mono ?_;rintro e w' ⟨rfl,rfl⟩)
   go_ret;exact⟨by rw[HA.out,anL];rfl,he⟩
def jW(l r:Int):Bool:=bN 0 12 l&&bN 0 12 r&&decide (l+r<=12)
theorem vo(l r:Int)(w:World):Calls prog 24 #[.int .i64 l,.int .i64 r] w λe w'=>e=.returned (.bool (jW l r))/\w=w':=by
 cases h1:bN 0 12 l with
 |false=>
  have H:=amW (show jW l r=false by rw[jW,h1];rfl);go_enter Tryz.func24,Tryz.ntmps24
  go_wp2_with fail
  refine(gK l 0 12 w).mono ?_;rintro e w1 ⟨rfl,rfl⟩;rw[h1];go_wp2_with fail
  go_ret;exact⟨by rw[H.out];rfl,rfl⟩
 |true=>
  cases h2:bN 0 12 r with
  |false=>
   have H:=amW (show jW l r=false by rw[jW,h1,h2];rfl);go_enter Tryz.func24,Tryz.ntmps24
   go_wp2_with fail
   refine(gK l 0 12 w).mono ?_;rintro e w1 ⟨rfl,rfl⟩;rw[h1];go_wp2_with fail
   refine(gK r 0 12 w).mono ?_;rintro e w1 ⟨rfl,rfl⟩;rw[h2];go_wp2_with fail
   go_ret;exact⟨by rw[H.out];rfl,rfl⟩
  |true=>
   have H:=amW (show jW l r=decide (l+r<=12) by rw[jW,h1,h2];rfl);have hb1:0<=l/\l<=12:=by simpa[bN]using h1
   have hb2:0<=r/\r<=12:=by simpa[bN]using h2
   have hwr:IntKind.i64.wrap (l+r)=l+r:=ant _ (by omega);go_enter Tryz.func24,Tryz.ntmps24
   go_wp2_with fail
   refine(gK l 0 12 w).mono ?_;rintro e w1 ⟨rfl,rfl⟩;rw[h1];go_wp2_with fail
   refine(gK r 0 12 w).mono ?_;rintro e w1 ⟨rfl,rfl⟩;rw[h2];go_wp2_with fail
   go_ret;exact⟨aG (by rw[H.out]),rfl⟩
theorem WT(h:bF p x.n x.d=true):FV p x/\FL 21 x:=by obtain⟨h1,h2,h3,h4,h5,h6,h7,h8⟩:=wS h;have k:=Zy.of h;exact⟨⟨h1,⟨k.ne,k.nt⟩,⟨k.me,k.mt⟩,h6,h7,h8⟩,h4,h5⟩
theorem zB(h:dO p n rows=true):∀r∈rows,r.length=n/\∀x∈r,bF p x.n x.d=true:=λr hr=>by have:=anl.1 h r hr;rw[j3,anx,decide_eq_true_eq]at this;exact⟨this.1,λx hx=>anl.1 this.2 x hx⟩
theorem nS(h:dO p n rows=true):aZ n rows:=λr hr=>(zB h r hr).1
theorem vJ(h:dO p n rows=true):iK p 21 rows:=λr hr x hx=>WT ((zB h r hr).2 x hx)
theorem CY(h:iK p L rows):∀v∈rows,∀x∈v,FV p x:=λv hv x hx=>(h v hv x hx).1
theorem LY(hF:aj p=true)(hg:∀v∈rows,∀x∈v,FV p x)(hw:aZ n rows):Bf (ah p) n ((ah p).aB n rows)/\∀v∈(ah p).aB n rows,∀x∈v,FV p x:=by
 obtain⟨U,hU⟩:=CK (P:=FV p) rows hg;have hH:=jl p hF;have hi:∀a b:{x:aF // FV p x},a.1=b.1->a=b:=λa b h=>ano h
 rw[hU]at hw⊢;rw[hH.aB,hH.rrp hi,sZ];refine⟨iL _ (aZ.dh.1 hw),λv hv x hx=>?_⟩;obtain⟨u,_,rfl⟩:=am3.1 hv;obtain⟨y,_,rfl⟩:=am3.1 hx;exact y.2
theorem J4(hF:aj p=true)(hg:∀v∈rows,∀x∈v,FV p x)(h:Bf (ah p) n rows):rows.length<=n:=by
 obtain⟨U,hU⟩:=CK (P:=FV p) rows hg;have hH:=jl p hF;have hi:∀a b:{x:aF // FV p x},a.1=b.1->a=b:=λa b h=>ano h
 rw[hU]at h⊢;rw[hH.rrp hi,sZ]at h;have:=yT _ h;rwa[am5]
def AQ(p:Int)(x:iJ):Prop:=aj p=true/\jW x.l x.r=true/\dO p (x.l+x.r).toNat x.b=true/\Bf (ah p) (x.l+x.r).toNat x.b
theorem DZ{l r:Int}(h:jW l r=true):0<=l/\0<=r/\l+r<=12:=by simp only[jW,bN,anx,decide_eq_true_eq]at h;omega
theorem zR(A B:Option Addr)(c d:Nat)(xs ys:List Int)(w:World)(h:Rd w A xs)(h':Rd w B ys):
 Calls prog 144 #[.slice A xs.length c,.slice B ys.length d] w λe w'=>e=.returned (.bool (decide (xs=ys)))/\Ex w w':=by
 have hl:=h.len;have hl':=h'.len;by_cases hn:xs.length=ys.length;case neg=>
  have hb:((xs.length:Int) !=(ys.length:Int))=true:=by simp;omega
  have he:decide (xs=ys)=false:=by simp;intro e;exact hn (by rw[e])
  have He:=amW he;clear he;go_enter Tryz.func144,Tryz.ntmps144
  go_wp2;go_ret;exact⟨by rw[He.out];rfl,asF w⟩
 have hb:((xs.length:Int) !=(ys.length:Int))=false:=by simp;omega
 have hn2:ys.length<=xs.length:=by omega
 have hn3:xs.length<=ys.length:=by omega
 have Hn:=amW hn;clear hn;go_enter Tryz.func144,Tryz.ntmps144
 go_wp2;go_loopw [13] (λi wr=>∃k:Nat,k<=xs.length/\i=.int .i64 k/\Hid (xs.take k=ys.take k)/\∃n,wr=w.drewN n) (λi _=>xs.length-(intOf i).toNat)
 case atStart=>exact⟨0,am4 _,rfl,rfl,0,rfl⟩
 case round=>
  obtain⟨k,hk,rfl,He,n,rfl⟩:=hrel;by_cases hlt:k<xs.length
  .have hlt2:k<ys.length:=by omega
   obtain⟨g,off,x,rfl,hx,hg,hc⟩:=h.at_ hlt;obtain⟨g',off',y,rfl,hy,hg',hc'⟩:=h'.at_ hlt2;have Hx:=amW hx;have Hy:=amW hy;clear hx hy;by_cases hxy:x=y
   .subst hxy;go_wp2;go_quiet (fail)
    go_wp2;go_roundw;case rel=>exact⟨k+1,by omega,by go_num,by
     show _=_;rw[am_,am_,Hx.out,Hy.out,He.out],_,rfl⟩
    case measure=>simp[intOf]<;>omega
   .have hbx:(x !=y)=true:=by simpa using hxy
    have he:decide (xs=ys)=false:=by simp;rintro rfl;have:=Hx.out;rw[Hy.out]at this;injection this with this;exact hxy this.symm
    have H7:=amW he;clear he hxy;go_wp2;go_quiet (fail)
    go_wp2;go_ret;exact⟨by rw[H7.out];rfl,((asF w).drewN _).drewN _⟩
  .obtain rfl:k=xs.length:=by omega
   have he:decide (xs=ys)=true:=by have:=He.out;rw[anf,ann (by omega)]at this;simpa using this
   have H7:=amW he;clear he;go_wp2;go_ret;exact⟨by rw[H7.out];rfl,(asF w).drewN _⟩
theorem R8(A B A' B':Option Addr)(c d c' d':Nat)(x y:aF)(w:World)(h1:Rd w A x.n)(h2:Rd w B x.d)(h3:Rd w A' y.n)(h4:Rd w B' y.d):
 Calls prog 113 #[.agg #[.slice A x.n.length c,.slice B x.d.length d],.agg #[.slice A' y.n.length c',.slice B' y.d.length d']] w λe w'=>e=.returned (.bool (decide (x.n=y.n)&&decide (x.d=y.d)))/\Ex w w':=by
 obtain⟨n,m⟩:=x;obtain⟨n',m'⟩:=y;dsimp only at h1 h2 h3 h4⊢;have x0:∀(a b:Obj),Ex w ((w.alloc a).alloc b):=λa b=>((asF w).alloc a).alloc b
 by_cases hn:n=n'
 .have hd:decide (n=n')=true:=by simpa using hn
  have Hd:=amW hd;clear hn;go_enter Tryz.func113,Tryz.ntmps113
  go_wp2_with fail
  refine(zR A A' c c' n n' _ (h1.ex (x0 _ _)) (h3.ex (x0 _ _))).mono ?_;rintro e w1 ⟨rfl,x1⟩;have c0:=af x1 (g:=w.heap.size) (o:=1) (v:=.slice B m.length d) (Tv _ _ _ _ _).2;have c1:=af x1 (g:=w.heap.size+1) (o:=1) (v:=.slice B' m'.length d') (oU _ _ _ _ _).2;have xx:=(x0 _ _).trans x1;clear x0 x1;rw[hd];clear hd;go_wp2_with fail
  refine(zR B B' d d' m m' _ (h2.ex xx) (h4.ex xx)).mono ?_;rintro e w2 ⟨rfl,x2⟩;go_wp2;go_ret;exact⟨by rw[Hd.out];rfl,xx.trans x2⟩
 .have hd:decide (n=n')=false:=by simpa using hn
  have Hd:=amW hd;clear hn;go_enter Tryz.func113,Tryz.ntmps113
  go_wp2_with fail
  refine(zR A A' c c' n n' _ (h1.ex (x0 _ _)) (h3.ex (x0 _ _))).mono ?_;rintro e w1 ⟨rfl,x1⟩;have xx:=(x0 _ _).trans x1;clear x0 x1;rw[hd];clear hd;go_wp2;go_ret;exact⟨by rw[Hd.out];rfl,xx⟩
theorem lI(w:World):Calls prog 45 #[] w λe w'=>wZ w oF e w':=by
 go_enter Tryz.func45,Tryz.ntmps45
 go_wp2_with fail
 obtain⟨x1,v1⟩:=VB.xn w 51 #[.slice (some ⟨w.heap.size+1,0,none⟩) 1 1,.slice (some ⟨w.heap.size+1+1,0,none⟩) 1 1];have s1:(w.alloc (.cells #[.slice (some ⟨w.heap.size+1,0,none⟩) 1 1,.slice (some ⟨w.heap.size+1+1,0,none⟩) 1 1] 51)).heap.size=w.heap.size+1:=by simp
 generalize w.alloc (.cells #[.slice (some ⟨w.heap.size+1,0,none⟩) 1 1,.slice (some ⟨w.heap.size+1+1,0,none⟩) 1 1] 51)=W1 at*;have x2:=((asF W1).alloc (aO [1])).alloc (aO [1]);have o1:=(Own.new W1 [1]).ex ((asF (W1.alloc (aO [1]))).alloc (aO [1]));have o2:=Own.new (W1.alloc (aO [1])) [1];have s2:(W1.alloc (aO [1])).heap.size=w.heap.size+1+1:=by simp[s1]
 rw[s2]at o2;rw[s1]at o1;have v2:=v1.ex x2;obtain⟨d0,d1⟩:=v2.d2;change bodyPost _ _ _ _ _ ((W1.alloc (aO [1])).alloc (aO [1]));generalize(W1.alloc (aO [1])).alloc (aO [1])=W2 at*;refine ane (v:=.agg #[.slice (some ⟨w.heap.size+1,0,none⟩) 1 1,.slice (some ⟨w.heap.size+1+1,0,none⟩) 1 1]) (by simp[results,Tryz.results45,go_sem,d0,d1]) rfl ?_;exact⟨_,_,_,_,rfl,o1.fr (by simp) (by omega) (by simp),o2.fr (by simp) (by omega) (by simp),fq (by omega),x1.trans x2⟩
theorem nM(A B:Option Addr)(c d:Nat)(x:aF)(w:World)(_:x.n.length<=1099511627776):
 Calls prog 77 #[.agg #[.slice A x.n.length c,.slice B x.d.length d]] w λe w'=>e=.returned (.bool (ig x))/\Ex w w':=by
 have hb:ig x=decide ((x.n.length:Int)=0):=by
  rw[an3,dM];cases x.n<;>simp
  omega
 rw[hb];have x0:=(asF w).alloc (.cells #[.slice A x.n.length c,.slice B x.d.length d] 51);clear hb;generalize x.n.length=n at*;go_enter Tryz.func77,Tryz.ntmps77
 go_wp2;go_ret;exact⟨aG (by simp[BEq.beq]),x0⟩
def dY(xs:List aF):Nat:=xs.findIdx λx=> !ig x
theorem sw(p:Int)(xs:List aF):(ah p).lead xs=dY xs:=rfl
theorem mJ(A:Option Addr)(c:Nat)(xs:List aF)(w:World)(h:gm EF w A xs):
 Calls prog 47 #[.slice A xs.length c] w λe w'=>e=.returned (.int .i64 (dY xs))/\Ex w w':=by
 have hl:=h.1;go_enter Tryz.func47,Tryz.ntmps47
 go_wp2_with fail
 go_loopw [3] (λi wr=>∃k:Nat,k<=xs.length/\i=.int .i64 k/\Hid (∀(j:Nat) (x:aF),j<k->xs[j]?=some x->ig x=true)/\Ex w wr) (λi _=>xs.length-(intOf i).toNat)
 case atStart=>exact⟨0,am4 _,rfl,amW (λj x h=>by omega),asF _⟩
 case round=>
  obtain⟨k,hk,rfl,Hz,he⟩:=hrel;by_cases hlt:k<xs.length
  .obtain⟨g,off,x,P,pc,Q,qc,rfl,hx,c0,c1,hP,hQ⟩:=(h.ex he).ku hlt;have Hx:=amW hx;clear hx;have hz:=nM P Q pc qc x wr hP.len;cases hb:ig x with
   |true=>
    have Hb:=amW hb;rw[hb]at hz;clear hb;go_wp2_with fail
    refine hz.mono ?_;rintro e w1 ⟨rfl,x1⟩;go_wp2_with fail
    go_roundw;case rel=>exact⟨k+1,by omega,by go_num,amW (λj y hj hy=>by
     by_cases e:j=k
     .subst e;rw[Hx.out]at hy;injection hy with hy;rw[<-hy];exact Hb.out
     .exact Hz.out j y (by omega) hy),he.trans x1⟩
    case measure=>simp[intOf];omega
   |false=>
    have HL:=amW (show dY xs=k by
     rw[dY,List.findIdx_eq (by omega)];have hxe:xs[k]=x:=by have:=Hx.out;rw[am0 hlt]at this;injection this
     refine⟨by rw[hxe,hb];rfl,λj hj=>by
      have:=Hz.out j _ hj (am0 (by omega));rw[this];rfl⟩)
    rw[hb]at hz;clear hb;go_wp2_with fail
    refine hz.mono ?_;rintro e w1 ⟨rfl,x1⟩;go_wp2_with fail
    go_ret;exact⟨by rw[HL.out];rfl,he.trans x1⟩
  .obtain rfl:k=xs.length:=by omega
   have HL:=amW (show dY xs=xs.length by
    rw[dY,List.findIdx_eq_length];intro x hx;obtain⟨j,hj⟩:=anc hx;rw[Hz.out j x (am2.1 hj).1 hj];rfl)
   go_wp2_with fail
   go_ret;exact⟨by rw[HL.out];rfl,he⟩
theorem EU(p n:Int)(A:Option Addr)(c:Nat)(xs:List aF)(w:World)(h:gm EF w A xs):
 Calls prog 112 #[.int .i64 p,.int .i64 n,.slice A xs.length c] w λe w'=>e=.returned (.bool (xs.all (λx=>bF p x.n x.d)&&decide ((xs.length:Int)=n)))/\Ex w w':=by
 have hl:=h.1;go_enter Tryz.func112,Tryz.ntmps112
 go_wp2_with fail
 go_loopw [11] (λi wr=>∃k:Nat,k<=xs.length/\i=.int .i64 k/\Hid ((xs.take k).all (λx=>bF p x.n x.d)=true)/\Ex w wr) (λi _=>xs.length-(intOf i).toNat)
 case atStart=>exact⟨0,am4 _,rfl,amW rfl,asF _⟩
 case round=>
  obtain⟨k,hk,rfl,gy,he⟩:=hrel;by_cases hlt:k<xs.length
  .obtain⟨g,off,x,P,pc,Q,qc,rfl,hx,c0,c1,hP,hQ⟩:=(h.ex he).ku hlt;have Hx:=amW hx;clear hx;have y1:=(asF wr).alloc (.cells #[.slice P x.n.length pc,.slice Q x.d.length qc] 51);cases hb:bF p x.n x.d with
   |true=>
    have Hb:=amW hb;clear hb;go_wp2_with fail
    generalize wr.alloc (.cells #[.slice P x.n.length pc,.slice Q x.d.length qc] 51)=W1 at*;refine(Gu p P Q pc qc x.n x.d W1 (hP.ex y1) (hQ.ex y1)).mono ?_;rintro e w1 ⟨rfl,x1⟩;rw[Hb.out];go_wp2_with fail
    go_roundw;case rel=>exact⟨k+1,by omega,by go_num,amW (by rw[am_,Hx.out,an_,gy.out];simp[Hb.out]),(he.trans y1).trans x1⟩
    case measure=>simp[intOf];omega
   |false=>
    have Hb:=amW hb;clear hb;go_wp2_with fail
    generalize wr.alloc (.cells #[.slice P x.n.length pc,.slice Q x.d.length qc] 51)=W1 at*;refine(Gu p P Q pc qc x.n x.d W1 (hP.ex y1) (hQ.ex y1)).mono ?_;rintro e w1 ⟨rfl,x1⟩;rw[Hb.out];go_wp2_with fail
    go_ret;exact⟨aG (by rw[aof.2 ⟨x,am1 Hx.out,by simp[Hb.out]⟩];rfl),(he.trans y1).trans x1⟩
  .obtain rfl:k=xs.length:=by omega
   have HA:=amW (show xs.all (λx=>bF p x.n x.d)=true by have:=gy.out;rwa[anf]at this);go_wp2_with fail
   go_ret;exact⟨aG (by rw[HA.out,anL];simp[BEq.beq]),he⟩
end Go.Proofs.YtekcehkhdjoffaaGreatDoor
