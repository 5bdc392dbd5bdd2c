/- Lemmas and walks on terms over rational functions: A region that draws its order: operations that .. -/
import Derived.OrdersHeld
import Derived.Test.YthgiffhlfcmgaaaGreatDoorQ16
import Derived.Test.YthgiffhlfcmgaaaGreatDoorRows
import Derived.ProofKit
import Derived.OpenShut
import Derived.Deep.DeepHandedRow
import Derived.Test.YthgiffhlfcmgaaaGreatDoorCards
import Derived.Test.YthgiffhlfcmgaaaGreatDoorTie
import Derived.Lib.LaidTab
import Derived.Lib.SmallJoins
import Derived.Deep.Fields
namespace Go.Proofs.YthgiffhlfcmgaaaGreatDoor
open _root_.Go.Proofs.Tryz(prog)
set_option maxRecDepth 100000
set_option maxHeartbeats 8000000
set_option linter.all false
open Go
variable{hd:Bool}{base i:Nat}{sp:Nat->Bool}{H:Type}{v:Value}{W w':World}{S:World->Prop}
section
section
variable {P : Program} {ops : Array Oper} {md : Region.Mode} {w : World}
def AB(md:Region.Mode)(ops:Array Oper):Nat->Nat->Nat->Bool
 |0,_,_=>false
 |f+1,t,i=>match ops[t]? with
  |some o=>o.after.any λe=>Region.binds md e&&(e.on==i||AB md ops f e.on i)
  |none=>false
structure jD (md:Region.Mode) (ops:Array Oper) (listed:Array Bool):Prop where
 size:listed.size=ops.size
 closed:∀j oj,ops[j]?=some oj->listed.getD j false=true->∀e∈oj.after,Region.binds md e=true->listed.getD e.on false=true
theorem jD.zero:jD md ops (Array.replicate ops.size false):=
 ⟨by simp,λj oj _ hl=>by rw[getD_replicate_false]at hl;cases hl⟩
theorem jD.set{listed:Array Bool}(inv:jD md ops listed)(hi:i∈Region.ready md ops listed):jD md ops (listed.setIfInBounds i true):=by
 obtain⟨_,oi,hoi,hall⟩:=mem_ready.1 hi;refine⟨by simp[inv.size],λj oj hj hl e he hb=>?_⟩;by_cases hij:i=j
 .subst hij;have:oj=oi:=Option.some.inj (hj.symm.trans hoi);subst this;exact getD_set_true (hall e he hb)
 .rw[getD_set_ne false hij]at hl;exact getD_set_true (inv.closed j oj hj hl e he hb)
theorem jD.reach{listed:Array Bool}(inv:jD md ops listed){i:Nat}:∀(f t:Nat),(∀ot,ops[t]?=some ot->∀e∈ot.after,Region.binds md e=true->listed.getD e.on false=true)->AB md ops f t i=true->listed.getD i false=true
 |0,_,_,h=>by cases h
 |f+1,t,ht,h=>by
  unfold AB at h;split at h
  .rename_i o ho;obtain⟨e,he,hb⟩:=Array.any_eq_true'.1 h;simp only[axU,Bool.or_eq_true,beq_iff_eq]at hb;have h1:=ht o ho e he hb.1;rcases hb.2 with h2|h2
   .rw[<-h2];exact h1
   .exact jD.reach inv f e.on (λot hot=>inv.closed e.on ot hot h1) h2
  .cases h
def UW(md:Region.Mode)(ops:Array Oper):List Nat->Array Bool->Bool
 |[],listed=>(Region.ready md ops listed).isEmpty
 |k::r,listed=>decide (Region.ready md ops listed=[k])&&UW md ops r (listed.setIfInBounds k true)
def fK(l:List Oper):List Nat->List Oper
 |[]=>[]
 |i::r=>match l[i]? with
  |some o=>o::fK l r
  |none=>fK l r
theorem r_{l:List Oper}{o:Oper}(r:List Nat)(h:l[i]?=some o):fK l (i::r)=o::fK l r:=by rw[fK,h]
def Zh(md:Region.Mode)(ops:Array Oper)(tl:List Nat)(m:Nat):List Nat->Array Bool->Bool
 |[],listed=>UW md ops (m::tl) listed
 |k::r,listed=>(Region.ready md ops listed).contains k&&Region.free md ops listed k&&Zh md ops tl m r (listed.setIfInBounds k true)
def Zi(md:Region.Mode)(ops:Array Oper)(hd2 tl:List Nat)(m:Nat):List Nat->Array Bool->Bool
 |[],listed=>Zh md ops tl m hd2 listed
 |k::r,listed=>(Region.ready md ops listed).contains k&&Region.free md ops listed k&&tl.all (λt=>AB md ops ops.size t k)&&Zi md ops hd2 tl m r (listed.setIfInBounds k true)
def wX(P:Program)(md:Region.Mode)(ops:Array Oper)(Q:Exit->Act->World->Prop)(S:World->Prop)(T:List Nat):Nat->Array Bool->Act->World->Prop
 |0,listed,a,w=>Region.ready md ops listed=[]/\Q .normal a w
 |f+1,listed,a,w=>(Region.ready md ops listed=[]->Q .normal a w)/\∀i∈Region.ready md ops listed,wpOp P ops Q i (λa' w'=>(i∉T->S w->S w')/\wX P md ops Q S T f (listed.setIfInBounds i true) a' w') a w
theorem Dz{Q:Exit->Act->World->Prop}{S:World->Prop}{T:List Nat}:∀(f:Nat) (listed:Array Bool) (a:Act) (w:World),wX P md ops Q S T f listed a w->wpAny P md ops Q f listed a w
 |0,_,_,_,h=>h
 |f+1,_,_,_,h=>⟨h.1,λi hi=>wpOp_mono (λa' w' h'=>Dz f _ a' w' h'.2) (h.2 i hi)⟩
theorem xY{Q:Exit->Act->World->Prop}{S0:World->Prop}{T:List Nat}{oi:Oper}(hi:ops[i]?=some oi)(hsel:∀(j:Nat) (o:Oper) cs b,ops[j]?=some o->o.op≠.select cs b)
 (hQ:∀c a w,Q (.panic c) (a.put oi.dst v) w->Q (.panic c) a w) (hT:(∀w,S0 w)∨((∀w,S w->S0 w)/\∀t∈T,AB md ops ops.size t i=true)):
 ∀(f:Nat) (listed:Array Bool) (a:Act) (w:World),jD md ops listed->
  (∀j oj,ops[j]?=some oj->j≠i->listed.getD j true=false->(∀e∈oj.after,Region.binds md e=true->e.on≠i)->oi.apart ops oj=true)->
  i∈Region.ready md ops listed->YieldsIf P ops S0 oi v a->S0 w->((∀w,S0 w)∨S w)->
  wX P md ops Q S T f (listed.setIfInBounds i true) (a.put oi.dst v) w->wX P md ops Q S T (f+1) listed a w:=by
 have key:∀listed,(∀t∈T,AB md ops ops.size t i=true)->jD md ops listed->i∈Region.ready md ops listed->∀j∈Region.ready md ops listed,j∉T:=λlisted hT inv hr j hj hjT=>by
  obtain⟨_,oj,hoj,hall⟩:=mem_ready.1 hj;have h1:=inv.reach ops.size j (λot hot e he hb=>by
   have:ot=oj:=Option.some.inj (hot.symm.trans hoj);subst this;exact hall e he hb) (hT j hjT)
  rw[getD_both (mem_ready.1 hr).1]at h1;cases h1
 intro f
 induction f with
 |zero=>
  intro listed a w inv _ hr hy hS0 hS H;refine⟨λh=>(by rw[h]at hr;cases hr),λj hj=>?_⟩;by_cases hji:j=i
  .subst hji;exact hy.wpOp hi hS0 ⟨λ_ h=>h,H⟩
  .have:=ready_mono hj hji;rw[H.1]at this;cases this
 |succ f ih=>
  intro listed a w inv hfree hr hy hS0 hS H;have hun:=(mem_ready.1 hr).1;refine⟨λh=>(by rw[h]at hr;cases hr),λj hj=>?_⟩;by_cases hji:j=i
  .subst hji;exact hy.wpOp hi hS0 ⟨λ_ h=>h,H⟩
  .have h1:=H.2 j (ready_mono hj hji);obtain⟨hjun,oj,hoj,hall⟩:=mem_ready.1 hj;have hnot:∀e∈oj.after,Region.binds md e=true->e.on≠i:=λe he hb heq=>by
    have h1:=hall e he hb;rw[heq,getD_both hun]at h1;cases h1
   have h2:=wpOp_putIf hoj (hfree j oj hoj hji hjun hnot) (λcs b=>hsel i oi cs b hi) (λcs b=>hsel j oj cs b hoj) hQ hy h1;have hfree':∀k ok,ops[k]?=some ok->k≠i->(listed.setIfInBounds j true).getD k true=false->
    (∀e∈ok.after,Region.binds md e=true->e.on≠i)->oi.apart ops ok=true:=λk ok hk hki hun hno=>by
    refine hfree k ok hk hki ?_ hno;by_cases hjk:j=k
    .subst hjk;exact hjun
    .rw[getD_set_ne true hjk]at hun;exact hun
   have hkp:∀w',(j∉T->S w->S w')->S0 w'/\((∀w,S0 w)∨S w'):=λw' hk=>by
    rcases hT with h0|⟨hSS,hT⟩
    .exact⟨h0 w',.inl h0⟩
    .rcases hS with h0|hS
     .exact⟨h0 w',.inl h0⟩
     .have h1:=hk (key listed hT inv hr j hj) hS;exact⟨hSS w' h1,.inr h1⟩
   refine wpOp_mono (λa' w' h3=>⟨h3.2.1,ih (listed.setIfInBounds j true) a' w' (inv.set hj) hfree' (ready_mono hr (Ne.symm hji)) h3.1 (hkp w' h3.2.1).1 (hkp w' h3.2.1).2 ?_⟩) h2;rw[Array.setIfInBounds_comm _ _ hji];exact h3.2.2
theorem DC{l:List Oper}{S:World->Prop}{T:List Nat}{Q:Exit->Act->World->Prop}:∀(tl:List Nat) (listed:Array Bool) (a:Act) (w:World),(∀t∈tl,t∈T)->UW md l.toArray tl listed=true->
 wpList P l.toArray Q (fK l tl) a w->wX P md l.toArray Q S T tl.length listed a w
 |[],listed,a,w,_,hB,h=>⟨by simpa[UW]using hB,h⟩
 |k::r,listed,a,w,ht,hB,h=>by
  simp only[UW,axU,decide_eq_true_eq]at hB;have hk:k∈Region.ready md l.toArray listed:=by rw[hB.1];simp
  obtain⟨_,o,ho,_⟩:=mem_ready.1 hk;rw[r_ r (by simpa using ho)]at h;refine⟨λh1=>(by rw[hB.1]at h1;cases h1),λi hi=>?_⟩;rw[hB.1]at hi;have hik:i=k:=by simpa using hi
  subst hik;have hw:wpOp P l.toArray Q i (wpList P l.toArray Q (fK l r)) a w:=by unfold wpOp;simp only[ho];exact h
  exact wpOp_mono (λa' w' h'=>⟨λhn _=>absurd (ht i (by simp)) hn,DC r _ a' w' (λt h=>ht t (by simp[h])) hB.2 h'⟩) hw
def Lr(P:Program)(ops:Array Oper)(S:World->Prop)(Q:Act->Prop):List Oper->Act->Prop
 |[],a=>Q a
 |o::rest,a=>∃v,YieldsIf P ops S o v a/\Lr P ops S Q rest (a.put o.dst v)
theorem Ah{Q:Act->Prop}{o:Oper}{rest:List Oper}{a:Act}(hw:Region.wanted o (yielded ops a.tmps)=true)(hy:∀w,S w->(execOp a.eval o).run P w=.ok (.value v) w)
 (h:Lr P ops S Q rest (a.put o.dst v)):Lr P ops S Q (o::rest) a:=⟨v,.inl ⟨hw,hy⟩,h⟩
def Lp(P:Program)(ops:Array Oper)(S:World->Prop)(K:Act->World->Prop)(o:Oper)(a:Act)(w:World):Prop:=
 Region.wanted o (yielded ops a.tmps)=true/\∃v w',((execOp a.eval o).run P w=.ok (.value v) w'∨((execOp a.eval o).run P w=.ok .skip w'/\v=undef))/\S w'/\K (a.put o.dst v) w'
theorem BA{K:Act->World->Prop}{o:Oper}{a:Act}(hw:Region.wanted o (yielded ops a.tmps)=true)(hr:(execOp a.eval o).run P w=.ok (.value v) w')(hS:S w')(h:K (a.put o.dst v) w'):
 Lp P ops S K o a w:=⟨hw,v,w',.inl hr,hS,h⟩
theorem PW{K:Act->World->Prop}{o:Oper}{a:Act}(hw:Region.wanted o (yielded ops a.tmps)=true)(hr:(execOp a.eval o).run P w=.ok .skip w')(hS:S w')(h:K (a.put o.dst undef) w'):
 Lp P ops S K o a w:=⟨hw,undef,w',.inr ⟨hr,rfl⟩,hS,h⟩
theorem BB{l:List Oper}{S:World->Prop}{tl:List Nat}{m:Nat}{om:Oper}{Q:Exit->Act->World->Prop}(hom:l[m]?=some om)(hsel:Region.noSelect l.toArray=true)(hQ:∀c a d v w,Q (.panic c) (a.put d v) w->Q (.panic c) a w):
 ∀(hd:List Nat) (listed:Array Bool) (a:Act),jD md l.toArray listed->Zh md l.toArray tl m hd listed=true->Lr P l.toArray (λ_=>True) (λa'=>Lp P l.toArray S (wpList P l.toArray Q (fK l tl)) om a' w) (fK l hd) a->
 wX P md l.toArray Q S tl (hd.length+(tl.length+1)) listed a w
 |[],listed,a,_,hB,h=>by
  simp only[Zh,UW,axU,decide_eq_true_eq]at hB;obtain⟨hw,v,w',hr,hS',h⟩:=h;rw[List.length_nil,axT];refine⟨λh1=>(by rw[hB.1]at h1;cases h1),λi hi=>?_⟩;rw[hB.1]at hi;have hik:i=m:=by simpa using hi
  subst hik;unfold wpOp;have anH:l.toArray[i]?=some om:=by simpa using hom
  simp only[anH,hw,if_true];refine .inl ?_;unfold Oper.wp;rcases hr with hr|⟨hr,rfl⟩
  all_goals
   rw[hr];exact⟨λ_ _=>hS',DC tl _ _ _ (λt h=>h) hB.2 h⟩
 |k::r,listed,a,inv,hB,h=>by
  simp only[Zh,axU]at hB;obtain⟨⟨hr,hf⟩,hB'⟩:=hB;have hr':k∈Region.ready md l.toArray listed:=by simpa using hr
  obtain⟨_,o,ho,_⟩:=mem_ready.1 hr';rw[r_ r (by simpa using ho)]at h;obtain⟨v,hy,hK⟩:=h;have:=xY ho (Region.noSelect_spec hsel) (λc a w=>hQ c a o.dst v w) (.inl λ_=>trivial) (r.length+(tl.length+1)) listed a w inv (Region.free_spec ho hf) hr' hy trivial (.inl λ_=>trivial)
   (BB hom hsel hQ r _ _ (inv.set hr') hB' hK)
  rw[show(k::r).length+(tl.length+1)=r.length+(tl.length+1)+1 by simp;omega];exact this
theorem DF{l:List Oper}{S:World->Prop}{hd2 tl:List Nat}{m:Nat}{om:Oper}{Q:Exit->Act->World->Prop}(hom:l[m]?=some om)(hsel:Region.noSelect l.toArray=true)(hQ:∀c a d v w,Q (.panic c) (a.put d v) w->Q (.panic c) a w)(hS:S w):
 ∀(hd:List Nat) (listed:Array Bool) (a:Act),jD md l.toArray listed->Zi md l.toArray hd2 tl m hd listed=true->
  Lr P l.toArray S (Lr P l.toArray (λ_=>True) (λa'=>Lp P l.toArray S (wpList P l.toArray Q (fK l tl)) om a' w) (fK l hd2)) (fK l hd) a->
 wX P md l.toArray Q S tl (hd.length+(hd2.length+(tl.length+1))) listed a w
 |[],listed,a,inv,hB,h=>by rw[List.length_nil,axT];exact BB hom hsel hQ hd2 listed a inv (by simpa[Zi]using hB) h
 |k::r,listed,a,inv,hB,h=>by
  simp only[Zi,axU]at hB;obtain⟨⟨⟨hr,hf⟩,hT⟩,hB'⟩:=hB;have hr':k∈Region.ready md l.toArray listed:=by simpa using hr
  obtain⟨_,o,ho,_⟩:=mem_ready.1 hr';rw[r_ r (by simpa using ho)]at h;obtain⟨v,hy,hK⟩:=h;have:=xY ho (Region.noSelect_spec hsel) (λc a w=>hQ c a o.dst v w) (.inr ⟨λ_ h=>h,λt ht=>axQ.1 hT t ht⟩) (r.length+(hd2.length+(tl.length+1))) listed a w inv (Region.free_spec ho hf) hr' hy hS (.inr hS)
   (DF hom hsel hQ hS r _ _ (inv.set hr') hB' hK)
  rw[show(k::r).length+(hd2.length+(tl.length+1))=r.length+(hd2.length+(tl.length+1))+1 by simp;omega];exact this
theorem pI{id:Nat}{Q:Exit->Act->World->Prop}{a:Act}{w:World}{l:List Oper}(S:World->Prop)(hd hd2:List Nat)(m:Nat)(tl:List Nat){om:Oper}(hom:l[m]?=some om)(hm:P.follows .mixedOrders=true)
 (hB:(Region.noSelect l.toArray&&decide (hd.length+(hd2.length+(tl.length+1))=l.length)&&Zi .any l.toArray hd2 tl m hd (Array.replicate l.length false))=true) (hS:S {w with drawn:=w.drawn+1})
 (hQ:∀c a d v w,Q (.panic c) (a.put d v) w->Q (.panic c) a w)
 (h:Lr P l.toArray S (Lr P l.toArray (λ_=>True) (λa'=>Lp P l.toArray S (wpList P l.toArray Q (fK l tl)) om a' {w with drawn:=w.drawn+1}) (fK l hd2)) (fK l hd) a):(Code.region id l.toArray true).wp P Q a w:=by
 simp only[axU,decide_eq_true_eq]at hB;obtain⟨⟨hsel,hn⟩,hlex⟩:=hB;have h0:Array.replicate l.length false=Array.replicate l.toArray.size false:=by simp
 have H:=DF (md:=.any) (hd2:=hd2) (tl:=tl) hom hsel hQ hS hd _ a (h0▸jD.zero) hlex h;refine wp_region_any hm ?_;have:=Dz _ _ _ _ H;rw[hn]at this;simpa using this
end
end
open Go Go.RowKit
section
attribute [-go_sem] Builtin.append_
def WY(l:List Nd)(k:Nat)(I O:List Int):Prop:=∀i,i<k->∃st,ny (l.take (i+1)) []=some ((I.getD i 0,O.getD i 0)::st)
theorem WY.push{l:List Nd}{k:Nat}{I O:List Int}{a b:Int}{st:List (Int×Int)}(h:WY l k I O)(hI:I.length=k)(hO:O.length=k)(hs:ny (l.take (k+1)) []=some ((a,b)::st)):WY l (k+1) (I++[a]) (O++[b]):=λi hi=>by
 by_cases e:i<k
 .obtain⟨s,h1⟩:=h i e;refine⟨s,?_⟩;rw[h1,axt,axt,axt,axt,axX (by omega),axX (by omega)]
 .obtain rfl:i=k:=by omega
  refine⟨st,?_⟩;rw[hs,axt,axt,axN (by omega),axN (by omega),hI,hO,ayd];rfl
theorem aM.OO{G:Nat}{w:World}(k:aM G w w'){g o:Nat}(hg:g≠G)(h:w.cell? ⟨g,o,none⟩=some v):w'.cell? ⟨g,o,none⟩=some v:=
 (axP (w:=w) (a:=⟨g,o,none⟩) (k.block g (jC (p:=⟨g,o,none⟩) h) (λe=>by injection e with e;exact hg e))).trans h
theorem Zn(l:List Nd)(A:Option Addr)(c:Nat)(w:World)(h:bW EN w A l):
 Calls prog 70 #[.slice none 0 0,.agg #[.slice A l.length c]] w λe w'=>∃F fn fc I GK ic O on oc,e=.returned (.tuple #[.agg #[.slice F fn fc,.slice I GK ic,.slice O on oc],.bool (iR l)])/\Ex w w'/\(iR l=true->∃Il Ol ci co,GK=l.length/\on=l.length/\Fr w' w.heap.size I ci Il/\Fr w' w.heap.size O co Ol/\Il.length=l.length/\Ol.length=l.length/\WY l l.length Il Ol):=by
 have hl:=h.1;have H:=axj h;obtain⟨N,hN⟩:=xq l.length;have HN:=axj hN;rw[hN]at hl⊢;clear hN h;obtain⟨W0,hW0,x0,v0,s0⟩:=VB.an w 33 #[.slice A N c] rfl;obtain⟨W1,hW1,x1,v1,s1⟩:=VB.an W0 66 #[.slice none 0 0,.slice none 0 0,.slice none 0 0] s0;obtain⟨W2,hW2,x2,v2,s2⟩:=VB.an W1 66 #[.slice none 0 0,.slice none 0 0,.slice none 0 0] s1;have X2:=(x0.trans x1).trans x2;have V0:=(v0.ex x1).ex x2;have V1:=v1.ex x2;have hwt:=λW=>lH (N:Int) 1 400 W
 have fin:∀(W:World) (a b d:Value),VB W (w.heap.size+1) 66 #[.slice none 0 0,.slice none 0 0,.slice none 0 0]->Ex w W->
  ∃W',W'=((W.setCell ⟨w.heap.size+1,0,none⟩ a).setCell ⟨w.heap.size+1,1,none⟩ b).setCell ⟨w.heap.size+1,2,none⟩ d/\W'.cell? ⟨w.heap.size+1,0,none⟩=some a/\W'.cell? ⟨w.heap.size+1,1,none⟩=some b/\W'.cell? ⟨w.heap.size+1,2,none⟩=some d/\Ex w W':=λW a b d hv hx=>by
  obtain⟨dd,zz⟩:=hv.l8 a b d;exact⟨_,rfl,dd.c0,dd.c1,dd.c2,hx.aK zz (ayY _)⟩
 have p0:=V0.c0;cases hin:bL 1 400 (N:Int)with
 |false=>
  have HF:=axj (show iR l=false from G_ (by
   rw[HN.out];simp[bL]at hin;omega))
  simp only[hin]at hwt;obtain⟨p3,p4,p5⟩:=v2.d3;obtain⟨r0,r1,r2⟩:=V1.d3;obtain⟨z0,z1,z2⟩:=V1.z3;obtain⟨W',hW',C0,C1,C2,eF⟩:=fin W2 (.slice none 0 0) (.slice none 0 0) (.slice none 0 0) V1 X2;subst hW';clear hin fin;go_enter Tryz.func70,Tryz.ntmps70
  go_wp2_with fail
  refine(hwt _).mono ?_;rintro e w3 ⟨rfl,rfl⟩;go_wp2_with fail
  refine axu (v:=.tuple #[.agg #[.slice none 0 0,.slice none 0 0,.slice none 0 0],.bool false]) (by simp[results,Tryz.results70,go_sem,C0,C1,C2]) rfl ?_;rw[HF.out];exact⟨_,_,_,_,_,_,_,_,_,rfl,eF,λh=>by cases h⟩
 |true=>
  have hNb:1<=N/\N<=400:=by simp[bL]at hin;omega
  have Bt:=axj hNb;have hN4:N<=400:=hNb.2;simp only[hin]at hwt;have T2:TI W2 (w.heap.size+1+1) (.slice none 0 0) (.slice none 0 0) (.slice none 0 0) [] [] []:=⟨v2,AL.nil _ _,AL.nil _ _,AL.nil _ _,(λg e=>by simp[Value.ownBlock]at e),(λg e=>by simp[Value.ownBlock]at e),(λg e=>by simp[Value.ownBlock]at e)⟩;clear hin hNb v0 v1 v2 x0 x1 x2;go_enter Tryz.func70,Tryz.ntmps70
  go_wp2_with fail
  refine(hwt _).mono ?_;rintro e w3 ⟨rfl,rfl⟩;go_wp2_with fail
  clear p0 hwt hW0 hW1 hW2 s0 s1;go_loopw [25] (λs25 wr=>∃(k:Nat) (st:List (Int×Int)) (u v x:Option Addr) (cu cv cx:Nat) (F I O:List Int),k<=N/\s25=.int .i64 k/\Hid (ny (l.take k) []=some st)/\Hid (SC F I O k st)/\Hid (st.length<=k)/\Hid (WY l k I O)/\TI wr (w.heap.size+1+1) (.slice u k cu) (.slice v k cv) (.slice x k cx) F I O/\VB wr w.heap.size 33 #[.slice A N c]/\VB wr (w.heap.size+1) 66 #[.slice none 0 0,.slice none 0 0,.slice none 0 0]/\Ex w wr/\w.heap.size+1+1+1<=wr.heap.size) (λi _=>N-(intOf i).toNat)
  case atStart=>exact⟨0,[],none,none,none,0,0,0,[],[],[],axq _,rfl,axj rfl,axj SC.nil,axj (axk _),axj (λi hi=>absurd hi (ay4 _)),T2,V0,V1,X2,by omega⟩
  case round=>
   rename World=>wi;clear T2 V0 V1 X2;obtain⟨k,st,u,v,x,cu,cv,cx,F,I,O,hk,rfl,HS,HC,HK,HTL,hT,hV0,hV1,he,hsz⟩:=hrel;obtain⟨c0,c1,c2⟩:=hT.cell.d3;by_cases hlt:k<N
   .obtain⟨g,off,n,eA,hn,q0,q1,q2⟩:=(H.out.ex he).node (by rw[HN.out];exact hlt);subst eA;have HSC:=axj (qj hn []);obtain⟨y2,n2,W4,zZ⟩:=VB.al wi 70 #[.int .i64 n.kd,.int .i64 n.vl,.string n.nm];rw[zZ]at y2 n2;obtain⟨d0,d1,d2⟩:=n2.d3;have hstop:oQ st n=none->iR l=false:=λh=>Am (um (k:=k+1) (by rw[HSC.out,HS.out];exact h))
    have Br:=axj hstop;clear hstop hn;have hlf:=XJ n W4;cases hb:(jP n).isSome with
    |true=>
     rw[hb]at hlf;go_wp2_with fail
     refine hlf.mono ?_;rintro e w5 ⟨rfl,y5⟩;obtain⟨⟨a,b⟩,hab⟩:∃ab,jP n=some ab:=by cases h:jP n with
      |none=>rw[h]at hb;cases hb
      |some a=>exact⟨a,rfl⟩
     have HAB:=axj hab;have hnk:n.kd≠15/\n.kd≠16/\n.kd≠17:=by
      unfold jP at hab;split at hab
      .rename_i h1;have:=h1.2.1;omega
      .split at hab
       .rename_i h1;have:=h1.2.1;omega
       .split at hab
        .rename_i h1;have:=h1.2.1;simp[bL]at this;omega
        .cases hab
     have NZ:(n.kd==17)=false:=by simp;omega
     have HST:=axj (show oQ st n=some ((a,b)::st) by
      unfold oQ;rw[axm (by omega),hab];rfl)
     have HS2:=axj (show ny (l.take (k+1)) []=some ((a,b)::st) by rw[HSC.out,HS.out];exact HST.out);have HC2:=axj (HC.out.leaf (w:=(a,b)) (JQ hab));have hK2:=HK.out;have har:=λW=>H8 n W (.inl hb)
     have y5':=y5;have e5:∀i v,W4.cell? ⟨wi.heap.size,i,none⟩=some v->w5.cell? ⟨wi.heap.size,i,none⟩=some v:=λi v h=>af y5 h
     have d0:=e5 _ _ d0;have d1:=e5 _ _ d1;have d2:=e5 _ _ d2;have Y5:=y2.trans y5;have T5:=hT.ex Y5;have V05:=hV0.ex Y5;have Gu:=hV1.ex Y5;have Fe:=he.trans Y5;have z5:=Y5.size;clear hnk hab e5 y5' c0 c1 c2 q0 q1 q2;go_wp2_with fail
     refine(har _).mono ?_;clear har;rintro e w6 ⟨a',b',rfl,hab',y6⟩;have ac5:=hab' (by intro e;rw[e]at NZ;simp at NZ);rw[HAB.out]at ac5;injection ac5 with ac5;injection ac5 with ha2 hb2;subst ha2 hb2;have d0:=af y6 d0;have T6:=T5.ex y6;have V06:=V05.ex y6;have WX:=Gu.ex y6;have he6:=Fe.trans y6;have z6:=y6.size;have hF:=HC.out.lf;have hI:=HC.out.li;have hO:=HC.out.lo;obtain⟨u7,cu7,w7,Jy,c7,f7,T7,J7⟩:=T6.pf (k:Int) (by omega);rw[hF]at Jy T7 J7;obtain⟨X7,hX7⟩:=xq (w7.setCell ⟨w.heap.size+1+1,0,none⟩ (.slice u7 (k+1) cu7));rw[hX7]at T7 J7;obtain⟨v8,cv8,w8,D7,c8,f8,T8,J8⟩:=T7.pi a (by omega);rw[hI]at D7 T8 J8;obtain⟨X8,hX8⟩:=xq (w8.setCell ⟨w.heap.size+1+1,1,none⟩ (.slice v8 (k+1) cv8));rw[hX8]at T8 J8;obtain⟨x9,cx9,w9,D6,c9,f9,T9,J9⟩:=T8.po b (by omega);rw[hO]at D6 T9 J9;obtain⟨X9,hX9⟩:=xq (w9.setCell ⟨w.heap.size+1+1,2,none⟩ (.slice x9 (k+1) cx9));rw[hX9]at T9 J9;have q0:=T6.cell.c0;have q1:=T7.cell.c1;have q2:=T8.cell.c2;have z7:=J7.size;have z8:=J8.size;have z9:=J9.size;have Jy:(Builtin.append_ #[55,55] 55 #[.slice u k cu,.slice (some ⟨w6.heap.size,0,none⟩) 1 1]).run prog (w6.alloc (.cells #[.int .i64 (k:Int)] 3))=.ok (.slice u7 (k+1) cu7) w7:=Jy;have D7:(Builtin.append_ #[55,55] 55 #[.slice v k cv,.slice (some ⟨X7.heap.size,0,none⟩) 1 1]).run prog (X7.alloc (.cells #[.int .i64 a] 3))=.ok (.slice v8 (k+1) cv8) w8:=D7;have D6:(Builtin.append_ #[55,55] 55 #[.slice x k cx,.slice (some ⟨X8.heap.size,0,none⟩) 1 1]).run prog (X8.alloc (.cells #[.int .i64 b] 3))=.ok (.slice x9 (k+1) cx9) w9:=D6;have JJ:jE (w.heap.size+1+1) X9.heap.size w6 X9:=((J7.widen (axk _) (by omega)).trans (J8.widen (axk _) (by omega))).trans (J9.widen (axk _) (by omega));have V09:=V06.iv JJ (.inl (by omega));have V19:=WX.iv JJ (.inl (by omega));have he9:=he6.iv JJ (by omega);clear hab' T5 V05 Gu hT hV0 hV1 J7 J8 J9 JJ hK2 T6 T7 T8;go_wp2_with fail
     have hK2:=HK.out;go_roundw;case rel=>exact⟨k+1,(a,b)::st,u7,v8,x9,cu7,cv8,cx9,F++[(k:Int)],I++[a],O++[b],by omega,by go_num,HS2,HC2,axj (by rw[axR];omega),axj (HTL.out.push HC.out.li HC.out.lo HS2.out),T9,V09,V19,he9,by omega⟩
     case measure=>simp[intOf];omega
    |false=>
     rw[hb]at hlf;have hnl:jP n=none:=by cases h:jP n with
      |none=>rfl
      |some a=>rw[h]at hb;cases hb
     have Lh:=axj hnl;clear hnl;have T4:=hT.ex y2;have V04:=hV0.ex y2;have V14:=hV1.ex y2;have xL:=he.trans y2;clear c0 c1 c2 hT hV0 hV1;by_cases NZ:n.kd=17
     .have aoA:(n.kd==17)=true:=by simp[NZ]
      have HF:=axj (Br.out (by unfold oQ;rw[axm (by omega),Lh.out];rfl));have har:=λW=>H8 n W (.inr NZ)
      clear NZ;go_wp2_with fail
      refine hlf.mono ?_;clear hlf;rintro e w5 ⟨rfl,y5⟩;have d0:=af y5 d0;have d1:=af y5 d1;have d2:=af y5 d2;go_wp2_with fail
      refine(har _).mono ?_;clear har;rintro e w6 ⟨a',b',rfl,_,y6⟩;have d0:=af y6 d0;have d1:=af y6 d1;have d2:=af y6 d2;go_wp2_with fail
      refine(Zo n.nm w6).mono ?_;rintro e w7 ⟨rfl,y7⟩;have Y7:=(y5.trans y6).trans y7;have T7:=T4.ex Y7;have V17:=V14.ex Y7;have TP:=xL.trans Y7;obtain⟨r0,r1,r2⟩:=V17.d3;obtain⟨z0,z1,z2⟩:=V17.z3;obtain⟨c0,c1,c2⟩:=T7.cell.d3;obtain⟨W',hW',C0,C1,C2,eF⟩:=fin w7 (.slice u k cu) (.slice v k cv) (.slice x k cx) V17 TP;subst hW';go_wp2_with fail
      refine axu (v:=.tuple #[.agg #[.slice u k cu,.slice v k cv,.slice x k cx],.bool false]) (by simp[results,Tryz.results70,go_sem,C0,C1,C2]) rfl ?_;rw[HF.out];exact⟨_,_,_,_,_,_,_,_,_,rfl,eF,λh=>by cases h⟩
     have aoA:(n.kd==17)=false:=by simpa using NZ
     go_wp2_with fail
     refine hlf.mono ?_;clear hlf;rintro e w5 ⟨rfl,y5⟩;have d0:=af y5 d0;have d1:=af y5 d1;have d2:=af y5 d2;have T5:=T4.ex y5;have V05:=V04.ex y5;have Gu:=V14.ex y5;have Fe:=xL.trans y5;have z5:=Fe.size;have z5b:=y5.size;have z4b:=y2.size;clear T4 V04 V14;by_cases Rl:n.kd=15∨n.kd=16;case neg=>
      have zh:(n.kd !=15)=true:=by simp;omega
      have h16:(n.kd !=16)=true:=by simp;omega
      have HF:=axj (Br.out (by unfold oQ;rw[axm Rl,Lh.out];rfl));clear Rl NZ;obtain⟨r0,r1,r2⟩:=Gu.d3;obtain⟨z0,z1,z2⟩:=Gu.z3;obtain⟨c0,c1,c2⟩:=T5.cell.d3;obtain⟨W',hW',C0,C1,C2,eF⟩:=fin w5 (.slice u k cu) (.slice v k cv) (.slice x k cx) Gu Fe;subst hW';go_wp2_with fail
      refine axu (v:=.tuple #[.agg #[.slice u k cu,.slice v k cv,.slice x k cx],.bool false]) (by simp[results,Tryz.results70,go_sem,C0,C1,C2]) rfl ?_;rw[HF.out];exact⟨_,_,_,_,_,_,_,_,_,rfl,eF,λh=>by cases h⟩
     have HST:=axj (LQ (st:=st) Rl);have hK:(n.kd !=15)=false∨((n.kd !=15)=true/\(n.kd !=16)=false):=by
      by_cases h:n.kd=15
      .exact .inl (by simp[h])
      .exact .inr ⟨by simpa using h,by simp;omega⟩
     by_cases hnm:n.nm=⟨#[]⟩;case neg=>
      have hnb:(!n.nm.toList.isEmpty)=true:=by
       cases h:n.nm.toList with
       |nil=>exact absurd (zO h) hnm
       |cons a l=>rfl
      have HF:=axj (Br.out (by rw[HST.out,axm (λh=>hnm (by simpa[JM]using h.2))]));clear Rl NZ hnm;obtain⟨r0,r1,r2⟩:=Gu.d3;obtain⟨z0,z1,z2⟩:=Gu.z3;obtain⟨c0,c1,c2⟩:=T5.cell.d3;obtain⟨W',hW',C0,C1,C2,eF⟩:=fin w5 (.slice u k cu) (.slice v k cv) (.slice x k cx) Gu Fe;subst hW';rcases hK with hK1|⟨hK1,hK2⟩
      all_goals
       go_wp2_with fail
       refine axu (v:=.tuple #[.agg #[.slice u k cu,.slice v k cv,.slice x k cx],.bool false]) (by simp[results,Tryz.results70,go_sem,C0,C1,C2]) rfl ?_;rw[HF.out];exact⟨_,_,_,_,_,_,_,_,_,rfl,eF,λh=>by cases h⟩
     have hnb:(!n.nm.toList.isEmpty)=false:=by rw[hnm,ByteArray.toList_eq];rfl
     by_cases hvl:n.vl=0;case neg=>
      have hvb:(n.vl !=0)=true:=by simpa using hvl
      have HF:=axj (Br.out (by rw[HST.out,axm (λh=>hvl h.1)]));clear Rl NZ hnm hvl;obtain⟨r0,r1,r2⟩:=Gu.d3;obtain⟨z0,z1,z2⟩:=Gu.z3;obtain⟨c0,c1,c2⟩:=T5.cell.d3;obtain⟨W',hW',C0,C1,C2,eF⟩:=fin w5 (.slice u k cu) (.slice v k cv) (.slice x k cx) Gu Fe;subst hW';rcases hK with hK1|⟨hK1,hK2⟩
      all_goals
       go_wp2_with fail
       refine axu (v:=.tuple #[.agg #[.slice u k cu,.slice v k cv,.slice x k cx],.bool false]) (by simp[results,Tryz.results70,go_sem,C0,C1,C2]) rfl ?_;rw[HF.out];exact⟨_,_,_,_,_,_,_,_,_,rfl,eF,λh=>by cases h⟩
     have hvb:(n.vl !=0)=false:=by simpa using hvl
     have G6:=axj (show oQ st n=jnS n.kd st from HST.out.trans (axl (And.intro hvl (by simp[JM,hnm]))));have apK:=axj Rl;clear hvl hnm HST Rl NZ;by_cases hk2:k<2
     .have anR:((k:Int)<2):=by omega
      have HF:=axj (Br.out (by
       rw[G6.out];have:=HK.out
       match st,this with
       |[],_=>rfl
       |[_],_=>rfl
       |_::_::r,h=>simp at h;omega))
      obtain⟨r0,r1,r2⟩:=Gu.d3;obtain⟨z0,z1,z2⟩:=Gu.z3;obtain⟨c0,c1,c2⟩:=T5.cell.d3;obtain⟨W',hW',C0,C1,C2,eF⟩:=fin w5 (.slice u k cu) (.slice v k cv) (.slice x k cx) Gu Fe;subst hW';rcases hK with hK1|⟨hK1,hK2⟩
      all_goals
       go_wp2_with fail
       refine axu (v:=.tuple #[.agg #[.slice u k cu,.slice v k cv,.slice x k cx],.bool false]) (by simp[results,Tryz.results70,go_sem,C0,C1,C2]) rfl ?_;rw[HF.out];exact⟨_,_,_,_,_,_,_,_,_,rfl,eF,λh=>by cases h⟩
     have anR:¬((k:Int)<2):=by omega
     obtain⟨k1,hk1⟩:=xq (k-1);have HK1:=axj (show k=k1+1 by omega);have hw1:IntKind.i64.wrap ((k:Int)-1)=(k1:Int):=by rw[axC _ (by omega)];omega
     have ZL:k1<k:=by omega
     obtain⟨F5,cF5,eF5,fF⟩:=T5.f.form (by rw[HC.out.lf];omega);obtain⟨I5,cI5,eI5,fI⟩:=T5.i.form (by rw[HC.out.li];omega);obtain⟨O5,cO5,eO5,fO⟩:=T5.o.form (by rw[HC.out.lo];omega);injection eF5 with eF5 eF6 eF7;injection eI5 with eI5 eI6 eI7;injection eO5 with eO5 eO6 eO7;subst eF5 eI5 eO5;clear eF6 eF7 eI6 eI7 eO6 eO7;obtain⟨f,hf1,hf2⟩:=HC.out.last (by omega);rw[hk1]at hf1;obtain⟨gu,ou,f',eu,hf',_,pf1⟩:=fF.rd.at_ (show k1<F.length by rw[HC.out.lf];exact ZL);rw[hf1]at hf';injection hf' with hf';subst hf' eu;have HF1:=axj hf1;obtain⟨c0,c1,c2⟩:=T5.cell.d3;have hS0:st≠[]:=λe=>by have:=HC.out;rw[e]at this;have:=this.zero;omega
     clear hf1 hk1;by_cases hf0:f=0
     .have an3:((f:Int)<1):=by omega
      have h1:=hf2.1 hf0;have HF:=axj (Br.out (by
       rw[G6.out]
       match st,h1 with
       |[_],_=>rfl))
      clear hf2 hS0 h1;obtain⟨r0,r1,r2⟩:=Gu.d3;obtain⟨z0,z1,z2⟩:=Gu.z3;obtain⟨W',hW',C0,C1,C2,eF⟩:=fin w5 (.slice (some ⟨gu,ou,none⟩) k cu) (.slice v k cv) (.slice x k cx) Gu Fe;subst hW';rcases hK with hK1|⟨hK1,hK2⟩
      all_goals
       go_wp2_with fail
       refine axu (v:=.tuple #[.agg #[.slice (some ⟨gu,ou,none⟩) k cu,.slice v k cv,.slice x k cx],.bool false]) (by simp[results,Tryz.results70,go_sem,C0,C1,C2]) rfl ?_;rw[HF.out];exact⟨_,_,_,_,_,_,_,_,_,rfl,eF,λh=>by cases h⟩
     have an3:¬((f:Int)<1):=by omega
     obtain⟨b,a,r,hst⟩:∃b a r,st=b::a::r:=by
      match st,hS0,hf2 with
      |[],h,_=>exact absurd rfl h
      |[_],_,h=>exact absurd (h.2 rfl) hf0
      |b::a::r,_,_=>exact⟨b,a,r,rfl⟩
     subst hst;obtain⟨f2,g2,e1,e2,e3,e4,e5,e6,e7,e8,e9,hch⟩:=HC.out.two;rw[show k-1=k1 by have:=HK1.out;omega]at e1 e4 e5;rw[HF1.out]at e1;injection e1 with e1;obtain rfl:f=f2:=by omega
     obtain⟨f1,hff⟩:=xq (f-1);have hw2:IntKind.i64.wrap ((f:Int)-1)=(f1:Int):=by rw[axC _ (by omega)];omega
     rw[hff]at e6 e8 e9;have agt:f1<k:=by omega
     obtain⟨gv,ov,b1',ev,hb1,_,pb1⟩:=fI.rd.at_ (show k1<I.length by rw[HC.out.li];exact ZL);rw[e4]at hb1;injection hb1 with hb1;subst hb1 ev;obtain⟨gx,ox,b2',ex,hb2,_,pb2⟩:=fO.rd.at_ (show k1<O.length by rw[HC.out.lo];exact ZL);rw[e5]at hb2;injection hb2 with hb2;subst hb2 ex;obtain⟨ga,oa,a1',ea,ha1,_,pa1⟩:=fI.rd.at_ (show f1<I.length by rw[HC.out.li];exact agt);rw[e8]at ha1;injection ha1 with ha1;injection ea with ea;injection ea with ea1 ea2;subst ha1 ea1 ea2;obtain⟨gb,ob,a2',eb,ha2,_,pa2⟩:=fO.rd.at_ (show f1<O.length by rw[HC.out.lo];exact agt);rw[e9]at ha2;injection ha2 with ha2;injection eb with eb;injection eb with eb1 eb2;subst ha2 eb1 eb2;obtain⟨gc,oc',g2',ec,hg2,_,Vi⟩:=fF.rd.at_ (show f1<F.length by rw[HC.out.lf];exact agt);rw[e6]at hg2;injection hg2 with hg2;injection ec with ec;injection ec with ec1 ec2;subst hg2 ec1 ec2;have hba:=HC.out.bd a (by simp);have hbb:=HC.out.bd b (by simp);have HCH:=axj hch;have HG2:=axj e7;have HE3:=axj e3;have HFF:=axj hff;clear hch e1 e2 e3 e4 e5 e6 e7 e8 e9 hf2 hS0 hf0 hff;obtain⟨a1,a2⟩:=a;obtain⟨b1,b2⟩:=b;dsimp only at pb1 pb2 pa1 pa2 hba hbb;have anj:IntKind.i64.wrap (a1+b1)=a1+b1:=axC _ (by omega);have ani:IntKind.i64.wrap (a2+b2)=a2+b2:=axC _ (by omega);rcases apK.out with zh|h16
     .have hK1:(n.kd !=15)=false:=by simp[zh]
      have hK3:(n.kd==15)=true:=by simp[zh]
      have HJ:=axj (show jnS n.kd ((b1,b2)::(a1,a2)::r)=if a2=b1 then some ((a1,b2)::r)else none by
       show(Dh n.kd (a1,a2) (b1,b2)).map (·::r)=_;unfold Dh;rw[axl zh];dsimp only;split<;>rfl)
      clear zh hK;go_wp2_with fail
      go_quiet (fail)
      clear pf1 fI fO fF;have e6:=(aCQ w5).drewN nq;have T6:=T5.ex e6;have V06:=V05.ex e6;have WX:=Gu.ex e6;have he6:=Fe.trans e6;have d0:=af e6 d0;have Vi:=af e6 Vi;have pa1:=af e6 pa1;have pa2:=af e6 pa2;have pb1:=af e6 pb1;have pb2:=af e6 pb2;have z6:=e6.size;clear c0 c1 c2 V05 Gu T5;generalize w5.drewN nq=W6 at*;obtain⟨c0,c1,c2⟩:=T6.cell.d3;by_cases hab:a2=b1;case neg=>
       have hne:(a2 !=b1)=true:=by simpa using hab
       have HF:=axj (Br.out (by rw[G6.out,HJ.out,axm hab]));clear hab;go_wp2_with fail
       go_quiet (fail)
       clear pb1 pa2 pb2 pa1 Vi;have e7:=(aCQ W6).drewN nq;have T7:=T6.ex e7;have V07:=V06.ex e7;have V17:=WX.ex e7;have TP:=he6.trans e7;have d0:=af e7 d0;have z7:=e7.size;clear c0 c1 c2 V06 WX T6;generalize W6.drewN nq=W7 at*;obtain⟨c0,c1,c2⟩:=T7.cell.d3;obtain⟨r0,r1,r2⟩:=V17.d3;obtain⟨z0,z1,z2⟩:=V17.z3;obtain⟨W',hW',C0,C1,C2,eF⟩:=fin W7 (.slice (some ⟨gu,ou,none⟩) k cu) (.slice (some ⟨gv,ov,none⟩) k cv) (.slice (some ⟨gx,ox,none⟩) k cx) V17 TP;subst hW';go_wp2_with fail
       refine axu (v:=.tuple #[.agg #[.slice (some ⟨gu,ou,none⟩) k cu,.slice (some ⟨gv,ov,none⟩) k cv,.slice (some ⟨gx,ox,none⟩) k cx],.bool false]) (by simp[results,Tryz.results70,go_sem,C0,C1,C2]) rfl ?_;rw[HF.out]
       first
       |exact⟨_,_,_,_,_,_,_,_,_,rfl,eF,λh=>by cases h⟩
       |simpa using eF
      have hne:(a2 !=b1)=false:=by simpa using hab
      have HS2:=axj (show ny (l.take (k+1)) []=some ((a1,b2)::r) by rw[HSC.out,HS.out];show oQ _ n=_;rw[G6.out,HJ.out,axl hab]);clear hab;go_wp2_with fail
      go_quiet (fail)
      have e7:=(aCQ W6).drewN nq;have T7:=T6.ex e7;have V07:=V06.ex e7;have V17:=WX.ex e7;have TP:=he6.trans e7;have d0:=af e7 d0;have Vi:=af e7 Vi;have pa1:=af e7 pa1;have pa2:=af e7 pa2;have pb1:=af e7 pb1;have pb2:=af e7 pb2;have z7:=e7.size;clear c0 c1 c2 V06 WX T6;generalize W6.drewN nq=W7 at*;obtain⟨c0,c1,c2⟩:=T7.cell.d3;go_wp2_with fail
      go_quiet (fail)
      have e8:=(aCQ W7).drewN nq;have T8:=T7.ex e8;have V08:=V07.ex e8;have V18:=V17.ex e8;have he8:=TP.trans e8;have d0:=af e8 d0;have Vi:=af e8 Vi;have pa1:=af e8 pa1;have pa2:=af e8 pa2;have pb1:=af e8 pb1;have pb2:=af e8 pb2;have z8:=e8.size;clear c0 c1 c2 V07 V17 T7;generalize W7.drewN nq=W8 at*;obtain⟨c0,c1,c2⟩:=T8.cell.d3;clear pa1 pa2 pb1 pb2 anj ani;have hl1:¬((12:Int)<a1):=by omega
      have hl2:¬((12:Int)<b2):=by omega
      obtain⟨u7,cu7,w7,D9,c7,f7,T7,J7⟩:=(T8.ex (aCQ W8).drew).pf (g2:Int) (by rw[HC.out.lf];omega);rw[HC.out.lf]at D9 T7 J7;have Jy:(Builtin.append_ #[55,55] 55 #[.slice (some ⟨gu,ou,none⟩) k cu,.slice (some ⟨W8.heap.size,0,none⟩) 1 1]).run prog ((W8.alloc (.cells #[.int .i64 (g2:Int)] 3)).drew)=.ok (.slice u7 (k+1) cu7) w7:=D9;clear D9;go_wp2_with fail
      refine wp_region_noPanic ?_;refine pI (λV=>V.cell? ⟨w.heap.size+1+1,0,none⟩=some (.slice (some ⟨gu,ou,none⟩) k cu)/\V.cell? ⟨gu,ou+f1,none⟩=some (.int .i64 (g2:Int))) [0,1,2,3,4,5,6] [] 7 [8,9,10] rfl (by kernel_rfl) (by kernel_rfl) ⟨c0,Vi⟩ (λ_ _ _ _ _ h=>h) ?_;simp only[fK,List.getElem?_cons_zero,aAk]
      iterate 7
       apply Ah (by rfl)
       .intro V hV
        go_simp
        with_reducible rfl
       simp only[Act.put,azu,azv,azt]
      apply BA (by rfl)
      .go_simp
       exact⟨rfl,rfl⟩
      .exact⟨af ((aCQ W8).alloc _) c0,af ((aCQ W8).alloc _) Vi⟩
      simp only[Act.put,azu,azv,azt];obtain⟨X7,hX7⟩:=xq (w7.setCell ⟨w.heap.size+1+1,0,none⟩ (.slice u7 (k+1) cu7));rw[hX7]at T7 J7;obtain⟨v8,cv8,w8,D7,c8,f8,T8b,J8⟩:=T7.pi a1 (by rw[HC.out.li];omega);rw[HC.out.li]at D7 T8b J8;obtain⟨X8,hX8⟩:=xq (w8.setCell ⟨w.heap.size+1+1,1,none⟩ (.slice v8 (k+1) cv8));rw[hX8]at T8b J8;obtain⟨x9,cx9,w9,D6,c9,f9,T9,J9⟩:=T8b.po b2 (by rw[HC.out.lo];omega);rw[HC.out.lo]at D6 T9 J9;obtain⟨X9,hX9⟩:=xq (w9.setCell ⟨w.heap.size+1+1,2,none⟩ (.slice x9 (k+1) cx9));rw[hX9]at T9 J9;have p1:=T7.cell.c1;have p2:=T8b.cell.c2;have z7b:W8.heap.size<=X7.heap.size:=J7.size;have z8b:=J8.size;have z9:=J9.size;have JJ:jE (w.heap.size+1+1) X9.heap.size W8.drew X9:=((J7.widen (axk _) (show W8.heap.size<=_ by omega)).trans (J8.widen (axk _) (by omega))).trans (J9.widen (axk _) (by omega));have V09:=V08.drew.iv JJ (.inl (by omega));have V19:=V18.drew.iv JJ (.inl (by omega));have he9:=he8.drew.iv JJ (by omega);have HC2:=axj (HC.out.add (f:=g2) (w:=(a1,b2)) HCH.out (by have:=HG2.out;have:=HE3.out;omega) (λu hu=>by simp[hu]) (by dsimp only;omega));refine wpList_append_run rfl _ _ _ rfl rfl rfl Jy ?_;clear Jy;have D7:(Builtin.append_ #[55,55] 55 #[.slice (some ⟨gv,ov,none⟩) k cv,.slice (some ⟨X7.heap.size,0,none⟩) 1 1]).run prog (X7.alloc (.cells #[.int .i64 (a1)] 3))=.ok (.slice v8 (k+1) cv8) w8:=D7;have D6:(Builtin.append_ #[55,55] 55 #[.slice (some ⟨gx,ox,none⟩) k cx,.slice (some ⟨X8.heap.size,0,none⟩) 1 1]).run prog (X8.alloc (.cells #[.int .i64 (b2)] 3))=.ok (.slice x9 (k+1) cx9) w9:=D6;go_wp2_with fail
      refine NoPanic.normal ?_;go_wp2_with fail
      have hK2:=HK.out;rw[axR,axR]at hK2;go_roundw;case rel=>exact⟨k+1,(a1,b2)::r,u7,v8,x9,cu7,cv8,cx9,F++[(g2:Int)],I++[a1],O++[b2],by omega,by go_num,HS2,HC2,axj (by rw[axR];omega),axj (HTL.out.push HC.out.li HC.out.lo HS2.out),T9,V09,V19,he9,by omega⟩
      case measure=>simp[intOf];omega
     .have hK1:(n.kd !=15)=true:=by simp;omega
      have hK2:(n.kd !=16)=false:=by simp[h16]
      have hK3:(n.kd==15)=false:=by simp;omega
      have HJ:=axj (show jnS n.kd ((b1,b2)::(a1,a2)::r)=if a1+b1<=12/\a2+b2<=12 then some ((a1+b1,a2+b2)::r)else none by
       show(Dh n.kd (a1,a2) (b1,b2)).map (·::r)=_;unfold Dh;rw[axm (show¬n.kd=15 by omega)];dsimp only;split<;>rfl)
      clear h16 hK;go_wp2_with fail
      go_quiet (fail)
      clear pf1 fI fO fF pa1 pa2 pb1 pb2;have e6:=(aCQ w5).drewN nq;have T6:=T5.ex e6;have V06:=V05.ex e6;have WX:=Gu.ex e6;have he6:=Fe.trans e6;have d0:=af e6 d0;have Vi:=af e6 Vi;have z6:=e6.size;clear c0 c1 c2 V05 Gu T5;generalize w5.drewN nq=W6 at*;obtain⟨c0,c1,c2⟩:=T6.cell.d3;by_cases hlim:a1+b1<=12/\a2+b2<=12;case neg=>
       have HF:=axj (Br.out (by rw[G6.out,HJ.out,axm hlim]));have hlc:((12:Int)<a1+b1)∨(¬((12:Int)<a1+b1)/\((12:Int)<a2+b2)):=by omega
       clear hlim;obtain⟨r0,r1,r2⟩:=WX.d3;obtain⟨z0,z1,z2⟩:=WX.z3;obtain⟨W',hW',C0,C1,C2,eF⟩:=fin W6 (.slice (some ⟨gu,ou,none⟩) k cu) (.slice (some ⟨gv,ov,none⟩) k cv) (.slice (some ⟨gx,ox,none⟩) k cx) WX he6;subst hW';rcases hlc with hl1|⟨hl1,hl2⟩
       all_goals
        go_wp2_with fail
        refine axu (v:=.tuple #[.agg #[.slice (some ⟨gu,ou,none⟩) k cu,.slice (some ⟨gv,ov,none⟩) k cv,.slice (some ⟨gx,ox,none⟩) k cx],.bool false]) (by simp[results,Tryz.results70,go_sem,C0,C1,C2]) rfl ?_;rw[HF.out]
        first
        |exact⟨_,_,_,_,_,_,_,_,_,rfl,eF,λh=>by cases h⟩
        |simpa using eF
      have HS2:=axj (show ny (l.take (k+1)) []=some ((a1+b1,a2+b2)::r) by rw[HSC.out,HS.out];show oQ _ n=_;rw[G6.out,HJ.out,axl hlim]);have hl1:¬((12:Int)<a1+b1):=by omega
      have hl2:¬((12:Int)<a2+b2):=by omega
      clear hlim;obtain⟨u7,cu7,w7,D9,c7,f7,T7,J7⟩:=(T6.ex (aCQ W6).drew).pf (g2:Int) (by rw[HC.out.lf];omega);rw[HC.out.lf]at D9 T7 J7;have Jy:(Builtin.append_ #[55,55] 55 #[.slice (some ⟨gu,ou,none⟩) k cu,.slice (some ⟨W6.heap.size,0,none⟩) 1 1]).run prog ((W6.alloc (.cells #[.int .i64 (g2:Int)] 3)).drew)=.ok (.slice u7 (k+1) cu7) w7:=D9;clear D9;go_wp2_with fail
      refine wp_region_noPanic ?_;refine pI (λV=>V.cell? ⟨w.heap.size+1+1,0,none⟩=some (.slice (some ⟨gu,ou,none⟩) k cu)/\V.cell? ⟨gu,ou+f1,none⟩=some (.int .i64 (g2:Int))) [0,1,2,3,4,5,6] [] 7 [8,9,10] rfl (by kernel_rfl) (by kernel_rfl) ⟨c0,Vi⟩ (λ_ _ _ _ _ h=>h) ?_;simp only[fK,List.getElem?_cons_zero,aAk]
      iterate 7
       apply Ah (by rfl)
       .intro V hV
        go_simp
        with_reducible rfl
       simp only[Act.put,azu,azv,azt]
      apply BA (by rfl)
      .go_simp
       exact⟨rfl,rfl⟩
      .exact⟨af ((aCQ W6).alloc _) c0,af ((aCQ W6).alloc _) Vi⟩
      simp only[Act.put,azu,azv,azt];obtain⟨X7,hX7⟩:=xq (w7.setCell ⟨w.heap.size+1+1,0,none⟩ (.slice u7 (k+1) cu7));rw[hX7]at T7 J7;obtain⟨v8,cv8,w8,D7,c8,f8,T8,J8⟩:=T7.pi (a1+b1) (by rw[HC.out.li];omega);rw[HC.out.li]at D7 T8 J8;obtain⟨X8,hX8⟩:=xq (w8.setCell ⟨w.heap.size+1+1,1,none⟩ (.slice v8 (k+1) cv8));rw[hX8]at T8 J8;obtain⟨x9,cx9,w9,D6,c9,f9,T9,J9⟩:=T8.po (a2+b2) (by rw[HC.out.lo];omega);rw[HC.out.lo]at D6 T9 J9;obtain⟨X9,hX9⟩:=xq (w9.setCell ⟨w.heap.size+1+1,2,none⟩ (.slice x9 (k+1) cx9));rw[hX9]at T9 J9;have p1:=T7.cell.c1;have p2:=T8.cell.c2;have z7:W6.heap.size<=X7.heap.size:=J7.size;have z8:=J8.size;have z9:=J9.size;have JJ:jE (w.heap.size+1+1) X9.heap.size W6.drew X9:=((J7.widen (axk _) (show W6.heap.size<=_ by omega)).trans (J8.widen (axk _) (by omega))).trans (J9.widen (axk _) (by omega));have V09:=V06.drew.iv JJ (.inl (by omega));have V19:=WX.drew.iv JJ (.inl (by omega));have he9:=he6.drew.iv JJ (by omega);have HC2:=axj (HC.out.add (f:=g2) (w:=(a1+b1,a2+b2)) HCH.out (by have:=HG2.out;have:=HE3.out;omega) (λu hu=>by simp[hu]) (by dsimp only;omega));refine wpList_append_run rfl _ _ _ rfl rfl rfl Jy ?_;clear Jy;have D7:(Builtin.append_ #[55,55] 55 #[.slice (some ⟨gv,ov,none⟩) k cv,.slice (some ⟨X7.heap.size,0,none⟩) 1 1]).run prog (X7.alloc (.cells #[.int .i64 (a1+b1)] 3))=.ok (.slice v8 (k+1) cv8) w8:=D7;have D6:(Builtin.append_ #[55,55] 55 #[.slice (some ⟨gx,ox,none⟩) k cx,.slice (some ⟨X8.heap.size,0,none⟩) 1 1]).run prog (X8.alloc (.cells #[.int .i64 (a2+b2)] 3))=.ok (.slice x9 (k+1) cx9) w9:=D6;go_wp2_with fail
      refine NoPanic.normal ?_;go_wp2_with fail
      have hK2:=HK.out;rw[axR,axR]at hK2;go_roundw;case rel=>exact⟨k+1,(a1+b1,a2+b2)::r,u7,v8,x9,cu7,cv8,cx9,F++[(g2:Int)],I++[a1+b1],O++[a2+b2],by omega,by go_num,HS2,HC2,axj (by rw[axR];omega),axj (HTL.out.push HC.out.li HC.out.lo HS2.out),T9,V09,V19,he9,by omega⟩
      case measure=>simp[intOf];omega
   ·
    obtain rfl:k=N:=by omega
    have hk0:0<k:=Bt.out.1;have HT:=axj (show iR l=decide (st.length=1)from Ho (by rw[<-HS.out,axG (by rw[HN.out];omega)]) (by rw[HN.out];exact Bt.out));obtain⟨f,hf1,hf2⟩:=HC.out.last hk0;obtain⟨k1,hk1⟩:=xq (k-1);have hw1:IntKind.i64.wrap ((k:Int)-1)=(k1:Int):=by rw[axC _ (by omega)];omega
    have ZL:k1<k:=by omega
    rw[hk1]at hf1;obtain⟨F5,cF5,eF5,fF⟩:=hT.f.form (by rw[HC.out.lf];omega);injection eF5 with eF5 eF6 eF7;subst eF5;clear eF6 eF7;obtain⟨gu,ou,f',eu,hf',_,pf1⟩:=fF.rd.at_ (show k1<F.length by rw[HC.out.lf];exact ZL);rw[hf1]at hf';injection hf' with hf';subst hf' eu;have p0:=hV0.c0;obtain⟨r0,r1,r2⟩:=hV1.d3;obtain⟨z0,z1,z2⟩:=hV1.z3;have hlt':¬((k:Int)<(k:Int)):=by omega
    obtain⟨W',hW',C0,C1,C2,eF⟩:=fin wi (.slice (some ⟨gu,ou,none⟩) k cu) (.slice v k cv) (.slice x k cx) hV1 he;have E1:=(hV1.l8 (.slice (some ⟨gu,ou,none⟩) k cu) (.slice v k cv) (.slice x k cx)).2.drew;rw[<-hW']at E1;obtain⟨Wd,hWd⟩:=xq W'.drew;have eF:=eF.drew;have C0:W'.drew.cell? ⟨w.heap.size+1,0,none⟩=some (.slice (some ⟨gu,ou,none⟩) k cu):=C0;have C1:W'.drew.cell? ⟨w.heap.size+1,1,none⟩=some (.slice v k cv):=C1;have C2:W'.drew.cell? ⟨w.heap.size+1,2,none⟩=some (.slice x k cx):=C2;rw[hWd]at E1 eF C0 C1 C2;rw[hW']at hWd;clear hW';have hfb:(((f:Int)==0))=iR l:=by
     rw[HT.out];by_cases h:f=0
     .rw[h,decide_eq_true (hf2.1 h)];rfl
     .rw[decide_eq_false (λe=>h (hf2.2 e))];simpa using h
    have Hfb:=axj hfb;clear hf1 hf2 hk1 hfb hlt;have anU:gu≠w.heap.size+1:=by have:=fF.hi ⟨gu,ou,none⟩ rfl;dsimp only at this;omega
    go_wp2_with fail
    refine wp_region_noPanic ?_;refine pI (λV=>V.cell? ⟨w.heap.size+1+1,0,none⟩=some (.slice (some ⟨gu,ou,none⟩) k cu)/\V.cell? ⟨w.heap.size+1+1,1,none⟩=some (.slice v k cv)/\V.cell? ⟨w.heap.size+1+1,2,none⟩=some (.slice x k cx)/\V.cell? ⟨w.heap.size,0,none⟩=some (.slice A k c)/\V.cell? ⟨gu,ou+k1,none⟩=some (.int .i64 (f:Int))) [0,1,2,3,4,5,6,7,8,9] [] 10 [11] rfl (by kernel_rfl) (by kernel_rfl) ⟨c0,c1,c2,p0,pf1⟩ (λ_ _ _ _ _ h=>h) ?_;simp only[fK,List.getElem?_cons_zero,aAk]
    iterate 10
     apply Ah (by rfl)
     .intro V hV
      go_simp
      with_reducible rfl
     simp only[Act.put,azu,azv,azt]
    apply PW (by rfl)
    .go_simp
     first|exact hWd|exact rfl
    .exact⟨E1.OO (by omega) c0,E1.OO (by omega) c1,E1.OO (by omega) c2,E1.OO (by omega) p0,E1.OO anU pf1⟩
    simp only[Act.put];go_wp2_with fail
    refine NoPanic.normal ?_;go_wp2_with fail
    refine axu (v:=.tuple #[.agg #[.slice (some ⟨gu,ou,none⟩) k cu,.slice v k cv,.slice x k cx],.bool ((f:Int)==0)]) (by simp[results,Tryz.results70,go_sem,C0,C1,C2]) rfl ?_;rw[Hfb.out];obtain⟨I9,c9,e9,f9⟩:=(hT.i.e1 E1 (by omega)).form (by rw[HC.out.li];omega);obtain⟨O9,d9,e10,f10⟩:=(hT.o.e1 E1 (by omega)).form (by rw[HC.out.lo];omega);injection e9 with e9 _ _;injection e10 with e10 _ _;subst e9 e10;exact⟨_,_,_,_,_,_,_,_,_,rfl,eF,λ_=>⟨I,O,_,_,rfl,rfl,f9.more (by omega),f10.more (by omega),HC.out.li,HC.out.lo,HTL.out⟩⟩
end
open Go.ChangeShapes Go.WideShapes Go.ChangeAt Go.RowKit
section
section
variable {H : Type} {enc : TypeId × Value -> H} {P : Program}
theorem wL(hl:laidOutB P=true){W W':World}(hb:Below W.heap.size W W'){sp:Nat->Bool}:∀{ts:List TypeId} {vs:List Value} {ds:List (DataW H)} {ps:List MemPlace},
 (ts.all λt=>P.readableRec t&&decide (t<P.types.size))=true->DataW.TrodAll enc P W 0 (λ_=>true) true ts vs ds ps->(∀x∈ps,x.block<W.heap.size)->(∀x∈ps,sp x.block=true)->DataW.TrodAll enc P W' 0 sp true ts vs ds ps
 |[],[],[],_,_,h,_,_=>h
 |t::ts,v::vs,d::ds,_,hr,⟨p,q,h1,h2,e⟩,hlt,hsp=>by
  subst e;simp only[ayA,axU,decide_eq_true_eq]at hr;exact⟨p,q,WideElems.Trod_stays hl hr.1.1 hr.1.2 h1 (λx hx=>hb.same (hlt x (by simp[hx]))) (λx hx=>hsp x (by simp[hx])),
   wL hl hb hr.2 h2 (λx hx=>hlt x (by simp[hx])) (λx hx=>hsp x (by simp[hx])),rfl⟩
 |[],_::_,_,_,_,h,_,_=>h.elim
 |[],[],_::_,_,_,h,_,_=>h.elim
 |_::_,[],_,_,_,h,_,_=>h.elim
 |_::_,_::_,[],_,_,h,_,_=>h.elim
theorem tZ(hl:laidOutB P=true){W W':World}(hb:Below W.heap.size W W'){sp:Nat->Bool}:∀{ns:List String} {gs:List (DataW H)} {ps:List MemPlace},
 (∀n∈ns,∀g t,P.globalNamed n=some g->(P.globals[g]?).map (·.type)=some t->P.readableRec t=true/\t<P.types.size)->
 DataW.TrodVars enc P W (λ_=>true) ns gs ps->(∀x∈ps,x.block<W.heap.size)->(∀x∈ps,sp x.block=true)->DataW.TrodVars enc P W' sp ns gs ps
 |[],[],_,_,h,_,_=>h
 |n::ns,d::ds,_,hr,⟨g,t,cs,fuel,p,q,h1,h2,h3,h4,h5,e⟩,hlt,hsp=>by
  subst e;obtain⟨hr1,hr2⟩:=hr n (by simp) g t h1 h2;have hg:g<W.heap.size:=by
   simp only[World.var?,h1,Option.bind_some]at h3;split at h3
   .rename_i hh;exact aF hh
   .cases h3
  have h3':W'.var? P n=some cs:=by simp only[World.var?,h1,Option.bind_some]at h3⊢;rw[hb.block g hg];exact h3
  exact⟨g,t,cs,fuel,p,q,h1,h2,h3',DataW.trod_stays (kids_book hl hr1) (book_sized hr1) (λh=>by cases h) ⟨hr2,book_self t⟩ h4 (λx hx=>hb.same (hlt x (by simp[hx]))) (λx hx=>hsp x (by simp[hx])),
   tZ hl hb (λn' hn'=>hr n' (by simp[hn'])) h5 (λx hx=>hlt x (by simp[hx])) (λx hx=>hsp x (by simp[hx])),rfl⟩
 |[],_::_,_,_,h,_,_=>h.elim
 |_::_,[],_,_,h,_,_=>h.elim
theorem ET(hl:laidOutB P=true){f:Func}{s:ChangeSpec}{bt:TypeId}{handsOn:Bool}{W':World}{args:Array Value}{ds gs:List (DataW H)}{before:List MemPlace}
 (hts:(f.params.toList.all λt=>P.readableRec t&&decide (t<P.types.size))=true)
 (hvs:∀n∈s.vars,∀g t,P.globalNamed n=some g->(P.globals[g]?).map (·.type)=some t->P.readableRec t=true/\t<P.types.size)
 (hft:f.resultTypes= #[bt]) (hbt:P.underlying bt=some .bool)
 (hs:s.fn H (ds++gs)={results:=[.lit (.bool true)],args:=ds,vars:=gs})
 (hW:DataW.Whole enc P f.params.toList s.vars false W args.toList ds gs before) (hb:Below W.heap.size W W'):
 s.post enc P f false true handsOn false W args (.bool true) W':=by
 have hlt:∀p∈before,p.block<W.heap.size:=λp hp=>hW.lt p hp
 have hold:∀p∈before,(λb=>decide (b<W.heap.size)) p.block=true:=λp hp=>by simpa using hlt p hp
 have hW':=hW;obtain⟨pa,pv,hA,hV,hps,hz,hn⟩:=hW;have ha:∀p∈pa,p∈before:=λp hp=>by rw[hps];simp[hp]
 have hv:∀p∈pv,p∈before:=λp hp=>by rw[hps];simp[hp]
 have hres:∀(W':World) (b:Nat) (sp:Nat->Bool) (hd:Bool),DataW.TrodAll enc P W' b sp hd f.resultTypes.toList ((Value.bool true).resultList f.resultTypes.size) (s.fn H (ds++gs)).results []:=λW' b sp hd=>by rw[hs,hft];exact trodAll_mk1 (shut_bool hbt true)
 have hargs:∀sp:Nat->Bool,(∀p∈before,sp p.block=true)->DataW.TrodAll enc P W' 0 sp true f.params.toList args.toList (s.fn H (ds++gs)).args pa:=λsp hsp=>by rw[hs];exact wL hl hb hts hA (λx hx=>hlt x (ha x hx)) (λx hx=>hsp x (ha x hx))
 have hvars:∀sp:Nat->Bool,(∀p∈before,sp p.block=true)->DataW.TrodVars enc P W' sp s.vars (s.fn H (ds++gs)).vars pv:=λsp hsp=>by rw[hs];exact tZ hl hb hvs hV (λx hx=>hlt x (hv x hx)) (λx hx=>hsp x (hv x hx))
 refine⟨ds,gs,before,[],pa,pv,hW',hres _ _ _ _,hargs _ hold,hvars _ hold,World.keptBut_mono (λp hp=>⟨hp,?_⟩) (hb.frame (·∈before)),λh=>by cases h⟩;rw[hps,axZ]at hp;exact Or.inr hp
end
theorem Qu:ownKnob prog.godebug=none:=by kernel_rfl
theorem laidOut:laidOutB prog=true:=by kernel_rfl
theorem zM:prog.cellsOf 3=1:=by kernel_rfl
end
theorem vY:prog.globalNamed "loop.example/g01073/impl.smallPrimes" =some 0:=by kernel_rfl
theorem BM:(prog.globals[0]?).map (·.type)=some 102:=by kernel_rfl
theorem OM:prog.cellsOf 102=4:=by kernel_rfl
theorem Ba:∀n∈["loop.example/g01073/impl.smallPrimes"],∀g t,prog.globalNamed n=some g->(prog.globals[g]?).map (·.type)=some t->prog.readableRec t=true/\t<prog.types.size:=by
 intro n hn g t h1 h2;obtain rfl:n= "loop.example/g01073/impl.smallPrimes" :=by simpa using hn
 obtain rfl:0=g:=Option.some.inj (vY.symm.trans h1);obtain rfl:102=t:=Option.some.inj (BM.symm.trans h2);exact⟨by kernel_rfl,of_decide_eq_true (by kernel_rfl)⟩
theorem table(h:laidMetH prog [("loop.example/g01073/impl.smallPrimes",Rows.laid_loop_example_g01073_impl_smallPrimes)] W):Tb W:=by have hT:Lib.TabIs prog W "loop.example/g01073/impl.smallPrimes" .i64 [2,3,5,7]:=Lib.tabIs_of_head (rest:=[]) vY BM Tryz.underlying102 Tryz.underlying3 zM OM h;exact⟨hT.cell vY 0 (by decide),hT.cell vY 1 (by decide),hT.cell vY 2 (by decide),hT.cell vY 3 (by decide)⟩
noncomputable def laidWorld (os:Os):World:=
 {World.holding prog os ⟨#[],#[],[]⟩with heap:=(World.holding prog os ⟨#[],#[],[]⟩).heap.modify 0 fun
  | .cells _ t frozen=> .cells #[.int .i64 2,.int .i64 3,.int .i64 5,.int .i64 7] t frozen
  |o=>o}
open Go.ChangeShapes Go.WideShapes Go.ChangeAt Go.RowKit Go.Joins Go.Deep
theorem Qv{enc:TypeId×Value->H}{P:Program}{fuel:Nat}{x:DataW H×List MemPlace}{t e:TypeId}(ht:P.underlying t=some (.slice e))(hk:0<P.cellsOf e)
 (h:DataW.trod enc P W base sp hd fuel t [v]=some x):
 ∃(A:Option Addr) (n c:Nat),v=.slice A n c/\n<=9223372036854775807/\∀i,i<n->∃g off cs y m,A=some ⟨g,off,none⟩/\cs.length=P.cellsOf e/\(∀(q:Nat) (u:Value),cs[q]?=some u->W.cell? ⟨g,off+i*P.cellsOf e+q,none⟩=some u)/\DataW.trod enc P W base sp hd m e cs=some y:=by
 rcases DataW.trod_slice ht h with⟨hcs,_⟩|⟨a,len,cap,elems,rest,n,_,hcs,_,_,hl,hm,hlen,hel,_,_⟩
 .injection hcs with hcs;subst hcs;exact⟨none,0,0,rfl,by simp,λi hi=>by omega⟩
 .injection hcs with hcs;subst hcs;refine⟨some a,len,cap,rfl,by unfold maxLen at hm;omega,λi hi=>?_⟩;have each:∀i,i<len->∃cs' y,cs'.length=P.cellsOf e/\(∀(q:Nat) (u:Value),cs'[q]?=some u->W.cell? (a.add (i*P.cellsOf e+q))=some u)/\DataW.trod enc P W base sp hd n e cs'=some y:=λi hi=>by
   have h1:=hel i hi;rw[axn (by omega),Option.bind_eq_some_iff]at h1;obtain⟨cs',hc',hy⟩:=h1;obtain⟨_,hl1,hcell⟩:=World.cells?_some hc';refine⟨cs',_,hl1,λq u hq=>?_,hy⟩;have hql:q<P.cellsOf e:=by rw[<-hl1];exact(axp.1 hq).1
   have:=hcell q hql;rw[add_add]at this;rw[this];exact hq
  obtain⟨cs',y,hl1,hcell',hy⟩:=each i hi;obtain⟨g,off,spot⟩:=a;cases spot with
  |some s=>
   exfalso;obtain⟨c0,_,hl0,hcell0,_⟩:=each 0 (by omega);have hc0:=hcell0 0 _ (axn (by omega:0<c0.length));have e0:(⟨g,off,some s⟩:Addr).add (0*P.cellsOf e+0)=⟨g,off,some s⟩:=by simp[Addr.add]
   rw[e0]at hc0;unfold World.cell? at hc0;split at hc0<;>simp at hc0
  |none=>
   refine⟨g,off,cs',y,n,rfl,hl1,λq u hq=>?_,hy⟩;have:=hcell' q u hq;have e1:((⟨g,off,none⟩:Addr).add (i*P.cellsOf e+q))=⟨g,off+i*P.cellsOf e+q,none⟩:=by unfold Addr.add;split<;>simp_all [ay8]
   rwa[e1]at this
theorem BQ{α:Type}:∀(n:Nat) {Q:Nat->α->Prop},(∀i,i<n->∃x,Q i x)->∃xs:List α,xs.length=n/\∀i x,xs[i]?=some x->Q i x
 |0,_,_=>⟨[],rfl,λi n h=>by simp at h⟩
 |n+1,Q,h=>by
  obtain⟨m,hm⟩:=h 0 (by omega);obtain⟨ns,hl,q⟩:=BQ n (Q:=λi=>Q (i+1)) (λi hi=>h (i+1) (by omega));refine⟨m::ns,by simp[hl],λi n hi=>?_⟩;cases i with
  |zero=>simp at hi;subst hi;exact hm
  |succ i=>exact q i n (by simpa using hi)
theorem JI{enc:TypeId×Value->H}{P:Program}{b0:Nat}{r:Reach}{t:TypeId}{fs:Array Field}{d:DataW H}{p:List MemPlace}
 (hs:P.underlying t=some (.struct fs)) (hone:oneCellFields P fs=true) (hC:P.cellsOf t=fs.size) (hv:Value.okWide P W r b0 t v) (h:DataW.Trod enc P W base sp hd t v d p):
 ∃cs:Array Value,v=.agg cs/\cs.size=fs.size/\∀(i:Nat) (f:Field) (u:Value),fs[i]?=some f->cs[i]?=some u->∃y n,DataW.trod enc P W base sp hd n f.type [u]=some y:=by
 obtain⟨cs,rfl,hsz⟩:=okWide_struct hs hv;obtain⟨fuel,hf⟩:=h;obtain⟨xs,n,_,_,hl,hlen,ZU⟩:=DataW.trod_struct hs hf;refine⟨cs,rfl,hsz.trans hC,λi f u hi hu=>?_⟩;obtain⟨o,k⟩:=hone_of hone i f hi;have h1:=ZU i f hi;rw[o,k]at h1;have hlt:i<fs.size:=(aye.1 hi).1;rw[axn (by omega)]at h1;have hc:(List.take 1 (List.drop i (Value.agg cs).cells.toList))=[u]:=by
  have hk:i<cs.toList.length:=by simpa using(aye.1 hu).1
  have hu':cs.toList[i]=u:=by simpa using(aye.1 hu).2
  show List.take 1 (List.drop i cs.toList)=[u];rw[azh hk,hu'];rfl
 rw[hc]at h1;exact⟨_,_,h1⟩
def GH:List Nd->Int
 |[]=>0
 |x::l=>(x.nm.size:Int)+GH l
theorem JL:∀l,0<=GH l
 |[]=>aza _
 |x::l=>by have:=JL l;show 0<=(x.nm.size:Int)+GH l;omega
theorem TB(a b:List Nd):GH (a++b)=GH a+GH b:=by
 induction a with
 |nil=>show GH b=0+GH b;omega
 |cons x a ih=>show(x.nm.size:Int)+GH (a++b)=(x.nm.size:Int)+GH a+GH b;omega
theorem Y3{l:List Nd}{k:Nat}{x:Nd}(h:l[k]?=some x):GH (l.take (k+1))=GH (l.take k)+x.nm.size:=by rw[axy,h,ayE,TB];show GH (l.take k)+((x.nm.size:Int)+0)=_;omega
theorem afQ(l:List Nd)(k:Nat):GH (l.take k)<=GH l:=by have h:=congrArg GH (ayw k l);rw[TB]at h;have:=JL (l.drop k);omega
def ndZ:List Value:=[.int .i64 0,.int .i64 0,.string ⟨#[]⟩]
theorem Wt{us rest:List (List Value)}{s:Nat}(hs:us.flatten.length=s)(z0 z1 z2 a b c:Value):
 ((((us++[z0,z1,z2]::rest).flatten).set s a).set (s+1) b).set (s+2) c=(us++[a,b,c]::rest).flatten:=by
 subst hs;simp[ay6]
theorem XM(x:Nd)(l:Int)(w:World)(hs:x.nm.size<=9223372036854775807)(h0:0<=l)(hl:l<=1048576):
 Calls prog 38 #[.agg #[.int .i64 x.kd,.int .i64 x.vl,.string x.nm],.int .i64 l] w λe w'=>e=.returned (.int .i64 (if l<x.nm.size then -1 else l-x.nm.size))/\Ex w w':=by
 obtain⟨k,v,nm⟩:=x;dsimp only at hs⊢;have x0:=(aCQ w).alloc (.cells #[.int .i64 k,.int .i64 v,.string nm] 63);have hw:IntKind.i64.wrap (l-(nm.size:Int))=l-nm.size:=axC _ (by omega);by_cases hb:l<(nm.size:Int)
 .rw[axl hb];have hb2:l-(nm.size:Int)<0:=by omega
  go_enter Tryz.func38,Tryz.ntmps38
  go_wp2_with fail
  go_ret;exact⟨rfl,x0⟩
 .rw[axm hb];have hb2:¬(l-(nm.size:Int)<0):=by omega
  go_enter Tryz.func38,Tryz.ntmps38
  go_wp2_with fail
  go_ret;exact⟨rfl,x0⟩
theorem LJ(A:Option Addr)(n c:Nat)(w:World)(hm:n<=9223372036854775807)(hn:1048576<n):QS 19 w (.slice A n c) (n:Int):=λu l _ h0 hl=>by
 have hb:l<(n:Int):=by omega
 rw[axl hb];go_enter Tryz.func19,Tryz.ntmps19
 go_wp2;go_ret;exact⟨rfl,aCQ _⟩
theorem UR(A:Option Addr)(c:Nat)(xs:List Nd)(w:World)(h:bW EN w A xs)(hn:xs.length<=1048576)(hs:∀x∈xs,x.nm.size<=9223372036854775807):QS 19 w (.slice A xs.length c) ((xs.length:Int)+GH xs):=λu l hu h0 hl=>by
 have hnn:=JL xs;obtain⟨N,hN⟩:=xq xs.length;have HN:=axj hN;rw[hN]at hn⊢;have H:=axj (h.ex hu);have HS:=axj hs;clear h hs hN;have hw:IntKind.i64.wrap (l-(N:Int))=l-N:=axC _ (by omega);obtain⟨z,hz⟩:=xq (GH xs);have HZ:=axj hz;rw[hz]at hnn⊢;clear hz;by_cases hb:l<(N:Int)
 .rw[axl (by omega)];have hb2:l-(N:Int)<0:=by omega
  go_enter Tryz.func19,Tryz.ntmps19
  go_wp2_with fail
  go_ret;exact⟨rfl,aCQ _⟩
 .have hb2:¬(l-(N:Int)<0):=by omega
  have HR:=axj (λ(h:l<(N:Int)+z)=>show(if l<(N:Int)+z then(-1:Int)else l-((N:Int)+z))= -1 from axl h);have HR2:=axj (λ(h:¬l<(N:Int)+z)=>show(if l<(N:Int)+z then(-1:Int)else l-((N:Int)+z))=l-((N:Int)+z)from axm h);obtain⟨R,hR⟩:∃R,(if l<(N:Int)+z then(-1:Int)else l-((N:Int)+z))=R:=⟨_,rfl⟩;rw[hR]at HR HR2⊢;clear hR;go_enter Tryz.func19,Tryz.ntmps19
  go_wp2_with fail
  go_loopw [1,5] (λs1 s5 wr=>∃(k:Nat) (m:Int),k<=N/\s5=.int .i64 k/\s1=.int .i64 m/\0<=m/\m<=1048576/\Hid (m=l-N-GH (xs.take k))/\Ex u wr) (λ_ s5 _=>N-(intOf s5).toNat)
  case atStart=>exact⟨0,_,axq _,rfl,rfl,by omega,by omega,axj (by show l-(N:Int)=l-N-0;omega),aCQ _⟩
  case round=>
   rename World=>wi;obtain⟨k,m,hk,rfl,rfl,hm0,hm1,HM,he⟩:=hrel;by_cases hlt:k<N
   .obtain⟨g,off,x,eA,hx,c0,c1,c2⟩:=(H.out.ex he).node (by rw[HN.out];exact hlt);subst eA;have hsx:=HS.out x (axo hx);have HX:=axj (Y3 hx);have hle:=afQ xs (k+1);rw[HZ.out]at hle;have HLE:=axj hle;have cZ:=λ(W:World)=>XM x m W hsx hm0 hm1
    clear hx hle;go_wp2_with fail
    refine(cZ _).mono ?_;rintro e w2 ⟨rfl,x2⟩;by_cases hc:m<(x.nm.size:Int)
    .rw[axl hc];have HF:=axj (HR.out (by have:=HM.out;have:=HX.out;have:=HLE.out;omega));clear hc;go_wp2_with fail
     go_ret;exact⟨by rw[HF.out];rfl,he.trans x2⟩
    .rw[axm hc];obtain⟨m',hm'⟩:=xq (m-(x.nm.size:Int));have HM':=axj hm';have hm2:0<=m':=by omega
     have hm3:m'<=1048576:=by omega
     rw[hm'];clear hc hm' hsx;have hm4:¬(m'<0):=by omega
     go_wp2_with fail
     go_roundw;case rel=>exact⟨k+1,m',by omega,by go_num,rfl,hm2,hm3,axj (by have:=HM.out;have:=HX.out;have:=HM'.out;omega),he.trans x2⟩
     case measure=>simp[intOf];omega
   .obtain rfl:k=N:=by omega
    have hM:m=l-(k:Int)-z:=by have h:=HM.out;rw[axG (by rw[HN.out];exact axk _),HZ.out]at h;exact h
    have HF:=axj (HR2.out (by omega));have HM2:=axj hM;clear hM;go_wp2_with fail
    go_ret;exact⟨by rw[HF.out];show Ending.returned (.int .i64 m)=_;rw[HM2.out,show l-((k:Int)+z)=l-k-z by omega],he⟩
theorem toNode_c(x:Nd)(w:World):Calls prog 46 #[.agg #[.int .i64 x.kd,.int .i64 x.vl,.string x.nm]] w λe w'=>e=.returned (.agg #[.int .i64 x.kd,.int .i64 x.vl,.string x.nm])/\Ex w w':=by
 obtain⟨x0,x1,x2⟩:=x;dsimp only;go_enter Tryz.func46,Tryz.ntmps46
 go_wp2_with fail
 refine axu (v:=.agg #[.int .i64 x0,.int .i64 x1,.string x2]) (by simp[results,Tryz.results46,go_sem]) rfl ?_;exact⟨rfl,(((aCQ w).alloc _).alloc _).alloc _⟩
theorem D5(n:Nat)(hn:n<=1099511627776)(w:World):
 (Instr.makeSlice 31 (.int .i64 (n:Int)) (.int .i64 (n:Int))).run prog w=.ok (.slice (some ⟨w.heap.size,0,none⟩) n n) (w.alloc (.cells ((List.replicate n ndZ).flatten).toArray 70)):=by
 obtain⟨i,hi,hz,hs,hb⟩:=axW nodeInfo;have hr:=run_make (P:=prog) w 31 70 i _ Tryz.underlying31 hi hz .i64 .i64 n n (by omega) (by omega) (by rw[hb];omega) (by omega);simp only[azi,hs]at hr;rw[hr];have:=IB ndZ (by decide) n;rw[show ndZ.length=3 from rfl]at this;rw[<-this];rfl
theorem toNodeS_u(x:List Nd)(v:Value)(w:World)(h:RN w v x):
 Calls prog 22 #[v] w λe w'=>∃y,e=.returned y/\ON w' w.heap.size w'.heap.size y x/\Ex w w':=by
 obtain⟨⟨A,c,rfl,h⟩,ht⟩:=h;have hl:=h.1;have hmk:=λW=>D5 x.length hl W
 have v0:=VB.new w 70 ((List.replicate x.length ndZ).flatten).toArray;have he0:=(aCQ w).alloc (.cells ((List.replicate x.length ndZ).flatten).toArray 70);go_enter Tryz.func22,Tryz.ntmps22
 go_wp2;go_loopw [4] (λi wr=>∃k:Nat,k<=x.length/\i=.int .i64 k/\VB wr w.heap.size 70 (((x.take k).map ndC++List.replicate (x.length-k) ndZ).flatten).toArray/\Ex w wr) (λi _=>x.length-(intOf i).toNat)
 case atStart=>exact⟨0,axq _,rfl,by simpa using v0,he0⟩
 case round=>
  obtain⟨k,hk,rfl,hv,he⟩:=hrel;by_cases hlt:k<x.length
  .obtain⟨g,off,r,rfl,hr,c0,c1,c2⟩:=(h.ex he).node hlt;have Hr:=axj hr;clear hr;go_wp2_with fail
   refine(toNode_c r wr).mono ?_;rintro e w1 ⟨rfl,x1⟩;have v1:=hv.ex x1;have Hf:((x.take k).map ndC).flatten.length=k*3:=by rw[uQ (k:=3) (λu hu=>by obtain⟨y,_,rfl⟩:=axr.1 hu;rfl),axs,axx];congr 1;omega
   rw[show x.length-k=(x.length-(k+1))+1 by omega,List.replicate_succ]at v1;have HH:=axj Hf;clear Hf hv;have q:∀i u,ndZ[i]?=some u->w1.cell? ⟨w.heap.size,k*3+i,none⟩=some u:=λi u hi=>v1.cell (k*3+i) (by
    rw[List.getElem?_toArray,ay6,axN (by rw[HH.out];omega),HH.out,show k*3+i-k*3=i by omega,ayN,axX (axp.1 hi).1];exact hi)
   have q0:w1.cell? ⟨w.heap.size,k*3,none⟩=some (.int .i64 0):=q 0 _ rfl;have q1:=q 1 (.int .i64 0) rfl;have q2:=q 2 (.string ⟨#[]⟩) rfl;have z0:=v1.frozen (k*3);have z1:=v1.frozen (k*3+1);have z2:=v1.frozen (k*3+2);clear q;go_wp2_with fail
   go_roundw;case rel=>refine⟨k+1,by omega,by go_num,?_,(((he.trans x1).setCell (axk _) _).setCell (axk _) _).setCell (axk _) _⟩;have hp:=Wt (rest:=List.replicate (x.length-(k+1)) ndZ) HH.out (.int .i64 0) (.int .i64 0) (.string ⟨#[]⟩) (.int .i64 r.kd) (.int .i64 r.vl) (.string r.nm);rw[axy,Hr.out,ax4,ayg];have h4:=((v1.bC (k*3) (.int .i64 r.kd)).bC (k*3+1) (.int .i64 r.vl)).bC (k*3+2) (.string r.nm);simp only[azu]at h4;rw[show ndZ=[.int .i64 0,.int .i64 0,.string ⟨#[]⟩]from rfl]at h4 hp;rw[hp]at h4;exact h4
   case measure=>simp[intOf]<;>omega
  .obtain rfl:k=x.length:=by omega
   go_wp2;go_ret;refine⟨_,rfl,⟨⟨_,_,rfl,?_⟩,ht⟩,he⟩;rw[axE,ayd,List.replicate_zero,ax8]at hv;refine CQ.of_flat hl (us:=x.map ndC) (by simp) (λu hu=>by obtain⟨y,_,rfl⟩:=axr.1 hu;rfl) hv (λ_=>wr.heap.size) (λ_=>w.heap.size) (λj y vs hj hvs=>⟨?_,he.size,he.size,.inl hv.lt⟩) (λ_ _ _ _ _=> .inl he.size) (axk _) hv.lt;rw[axw,hj]at hvs;injection hvs with hvs;exact hvs.symm
theorem Ob{enc:TypeId×Value->H}{fuel:Nat}{x:DataW H×List MemPlace}
 (h:DataW.trod enc prog W base sp hd fuel 22 [v]=some x):∃z:Int,0<=z/\QS 19 W v z/\(z<=1048576->∃x:List Nd,RN W v x):=by
 have hc3:prog.cellsOf 63=3:=by kernel_rfl
 have hc1:prog.cellsOf 9=1:=by kernel_rfl
 obtain⟨A,n,c,rfl,hn,k⟩:=Qv Tryz.underlying22 (by rw[hc3];decide) h;by_cases hbig:1048576<n
 .exact⟨n,Int.natCast_nonneg _,LJ A n c W hn hbig,λhz=>by omega⟩
 obtain⟨xs,hx,hq⟩:=BQ (α:=Nd) n (Q:=λi x=>x.nm.size<=9223372036854775807/\∃g off,A=some ⟨g,off,none⟩/\∀(q:Nat) (u:Value),(ndC x)[q]?=some u->W.cell? ⟨g,off+i*3+q,none⟩=some u) (λi hi=>by
  obtain⟨g,off,cs,y,m,hA,hl,hcell,hy⟩:=k i hi;rw[hc3]at hl hcell;obtain⟨xs,n',_,_,hl',hlen,ZU⟩:=DataW.trod_struct Tryz.underlying63 hy
  match cs,hl with
  |[u0,u1,u2],_=>
   have f0:=ZU 0 _ rfl;have f1:=ZU 1 _ rfl;have f2:=ZU 2 _ rfl;rw[axn (by rw[hlen];decide)]at f0 f1 f2;obtain⟨a0,e0,_,_⟩:=DataW.trod_int (k:=.i64) Tryz.underlying3 f0;obtain⟨a1,e1,_,_⟩:=DataW.trod_int (k:=.i64) Tryz.underlying3 f1;obtain⟨a2,e2,_,hs2⟩:=DataW.trod_string Tryz.underlying9 f2;have h0:u0=.int .i64 a0:=by simpa[zM]using e0
   have h1:u1=.int .i64 a1:=by simpa[zM]using e1
   have h2:u2=.string a2:=by simpa[zM,hc1]using e2
   subst h0 h1 h2;exact⟨⟨a0,a1,a2⟩,hs2,g,off,hA,hcell⟩)
 subst hx;have hrd:bW EN W A xs:=⟨by omega,λj x hj=>by
  obtain⟨_,g,off,hA,hcell⟩:=hq j x hj;exact⟨g,off,ndC x,hA,hcell,rfl⟩⟩
 have hsz:∀x∈xs,x.nm.size<=9223372036854775807:=λx hx=>by obtain⟨j,hj⟩:=axz hx;exact(hq j x hj).1
 refine⟨(xs.length:Int)+GH xs,by have:=JL xs;omega,UR A c xs W hrd (by omega) hsz,λhz=>⟨xs,⟨A,c,rfl,hrd⟩,?_⟩⟩;have:∀xs:List Nd,bN EN xs=3*(xs.length:Int):=λxs=>by
  induction xs with
  |nil=>rfl
  |cons y ys ih=>rw[iQ,ih,axR];show 3+_=_;push_cast;omega
 rw[this];omega
theorem XL(v0:Value)(z0:Int)(w:World)(q0:QS 19 w v0 z0)(n0:0<=z0):QS 6 w (.agg #[v0]) (z0):=by
 intro u l hx h0 hl;obtain⟨x0,d0⟩:=VB.xn u 24 #[v0];go_enter Tryz.func6,Tryz.ntmps6
 go_wp2_with fail
 generalize u.alloc (.cells #[v0] 24)=W0 at*;have hs:=q0 W0 (l) (hx.trans x0) (by omega) (by omega);by_cases g0:l<z0
 .rw[axl g0]at hs;refine hs.mono ?_;clear hs;rintro e W1 ⟨rfl,x1⟩;go_wp2;go_ret;exact⟨by first|rfl|(rw[axl (by omega)];rfl),x0.trans x1⟩
 rw[axm g0]at hs;refine hs.mono ?_;clear hs;rintro e W1 ⟨rfl,x1⟩;replace x0:=x0.trans x1;replace d0:=d0.ex x1;clear x1;have HE:=axj (show(if l<z0 then(-1:Int)else l-(z0))=l-z0 by rw[axm (by omega)]<;>omega);have HF:=axj (show l-(z0)=l-z0 by omega);go_wp2;go_ret;exact⟨by first|(rw[HE.out];rfl)|(rw[HF.out];rfl)|rfl,x0⟩
theorem toTerm_u(x:Tm)(v0:Value)(w:World)(h:CP w v0 x):
 Calls prog 8 #[.agg #[v0]] w λe w'=>∃y0,e=.returned (.agg #[y0])/\OTm w' w.heap.size w'.heap.size y0 x/\Ex w w':=by
 obtain⟨x0⟩:=x;have h0:RN w v0 _:=h;dsimp only at h0⊢;obtain⟨y0,d0⟩:=VB.xn w 24 #[v0];have S0:=axj (show(w.alloc (.cells #[v0] 24)).heap.size=w.heap.size+1 by simp);go_enter Tryz.func8,Tryz.ntmps8
 go_wp2_with fail
 generalize w.alloc (.cells #[v0] 24)=W0 at*;obtain⟨y1,d1⟩:=VB.xn W0 33 #[.slice none 0 0];rw[S0.out]at d1;have S1:=axj (show(W0.alloc (.cells #[.slice none 0 0] 33)).heap.size=w.heap.size+1+1 by simp;exact S0.out);generalize W0.alloc (.cells #[.slice none 0 0] 33)=W1 at*;obtain⟨y2,d2⟩:=VB.xn W1 33 #[.slice none 0 0];rw[S1.out]at d2;have S2:=axj (show(W1.alloc (.cells #[.slice none 0 0] 33)).heap.size=w.heap.size+1+1+1 by simp;exact S1.out);generalize W1.alloc (.cells #[.slice none 0 0] 33)=W2 at*;have xx:=(y0.trans y1).trans y2;have dA:=(d0.ex y1).ex y2;have dB:=d1.ex y2;have dC:=d2;have sz:w.heap.size+1+1+1<=W2.heap.size:=ayH S2.out.symm;clear d0 d1 d2 y0 y1 y2 S0 S1 S2;refine(toNodeS_u x0 v0 W2 (h0.ex xx)).mono ?_;rintro e u0 ⟨y0,rfl,m0,z0⟩;obtain⟨Y0,N0,C0,rfl⟩:=m0.rd.form;have tz0:=z0.size;replace dA:=dA.ex z0;replace dB:=dB.ex z0;replace dC:=dC.ex z0;replace xx:=xx.trans z0;have sz0:=sz;replace sz:=axA sz z0.size;have q1:=dC.c0;have q2:=dC.frozen 0;have t0:=dB.c0;have s0:=dB.frozen 0;go_wp2_with fail
 clear q1 q2 t0 s0;have p1:aM (w.heap.size+1+1) u0 (u0.setCell ⟨w.heap.size+1+1,0,none⟩ (.slice Y0 N0 C0)):=(aM.refl _ _).setCell rfl _;replace dC:VB (u0.setCell ⟨w.heap.size+1+1,0,none⟩ (.slice Y0 N0 C0)) (w.heap.size+1+1) 33 #[.slice Y0 N0 C0]:=dC.bC 0 _;replace dA:=dA.aK p1 (by omega);replace dB:=dB.aK p1 (by omega);replace m0:=m0.e1 p1 (by omega);replace sz:=axA sz p1.size;have tp0:=p1.size;replace xx:=xx.aK p1 (by omega);clear p1 z0;generalize(u0.setCell ⟨w.heap.size+1+1,0,none⟩ (.slice Y0 N0 C0))=V0 at*;have p1:aM (w.heap.size+1) V0 (V0.setCell ⟨w.heap.size+1,0,none⟩ (.slice Y0 N0 C0)):=(aM.refl (w.heap.size+1) V0).setCell (p:=⟨w.heap.size+1,0,none⟩) rfl _;replace dB:VB (V0.setCell ⟨w.heap.size+1,0,none⟩ (.slice Y0 N0 C0)) (w.heap.size+1) 33 #[.slice Y0 N0 C0]:=(dB.bC 0 _);replace m0:=m0.e1 p1 (by omega);replace xx:=xx.aK p1 (by omega);have tq:=p1.size;clear p1;generalize(V0.setCell ⟨w.heap.size+1,0,none⟩ (.slice Y0 N0 C0))=VE at*;have c0:=dB.c0;refine axu (v:=.agg #[.slice Y0 N0 C0]) (by simp[results,Tryz.results8,go_sem,c0]) rfl ?_;exact⟨_,rfl,⟨W2.heap.size,u0.heap.size,m0,by omega,by omega⟩,xx⟩
theorem R_{α:Type}{cs:Array α}(h:cs.size=1):∃c0,cs= #[c0]:=by
 obtain⟨l⟩:=cs
 match l,h with
 |[c0],_=>exact⟨c0,rfl⟩
theorem vJ{enc:TypeId×Value->H}{b0:Nat}{r:Reach}{d:DataW H}{p:List MemPlace}(hv:Value.okWide prog W r b0 24 v)
 (h:DataW.Trod enc prog W base sp hd 24 v d p):∃(c0:Value) (z:Int),v=.agg #[c0]/\0<=z/\QS 6 W (.agg #[c0]) z/\(z<=1048576->∃(x:Tm) (v0:Value),c0=v0/\CP W v0 x):=by
 obtain⟨cs,rfl,hsz,hf⟩:=JI Tryz.underlying24 (by kernel_rfl) (by kernel_rfl) hv h;obtain⟨c0,rfl⟩:=R_ (hsz.trans (by rfl));obtain⟨_,_,h0⟩:=hf 0 _ _ rfl rfl;obtain⟨z0,n0,q0,k0⟩:=Ob h0;refine⟨_,z0,rfl,by omega,XL _ z0 W q0 n0,λhz=>?_⟩;obtain⟨x0,r0⟩:=k0 (by omega);exact⟨⟨x0⟩,_,rfl,r0⟩
end Go.Proofs.YthgiffhlfcmgaaaGreatDoor
