/- Lemmas and walks on terms over rational functions: The first index of which a predicate holds .. -/
import Derived.Test.YthgiffhlfcmgaaaGreatDoorQ02
import Derived.Test.YthgiffhlfcmgaaaGreatDoorQ01
import Derived.Lib.AppendZeros
import Derived.Deep.RegionLaw
import Derived.Deep.CutRange
import Derived.Shelf.Abstract
import Derived.Deep.LoopGhost
import Derived.Deep.Cut
namespace Go.Proofs.YthgiffhlfcmgaaaGreatDoor
open List(replicate)
open Tryz(prog)
set_option maxRecDepth 100000
set_option maxHeartbeats 8000000
set_option linter.all false
open Go Go.RowKit
variable{e:Ed}{k:Int}{b:Int×Int}{st:List (Int×Int)}{es:List Ed}{F I O:List Int}{i t:Nat}{u v x:Value}{w:World}
def LIo(w:World)(xs:List Int)(e:Ending)(w':World):Prop:=∃v,e=.returned v/\OI w' w.heap.size w'.heap.size v xs/\Ex w w'
def nP(n:Nat):List Int:=(List.range n).map Int.ofNat
theorem iG(n:Nat):(nP n).length=n:=by simp[nP]
theorem afh{n:Nat}(h:i<n):(nP n)[i]?=some (i:Int):=by simp[nP,h]
theorem x_(k:Nat):nP (k+1)=nP k++[(k:Int)]:=by simp[nP,azN]
structure Gr where
 kK:Int
 es:List Ed
 ins:List Int
 outs:List Int
def gw(k:Int):Int×Int:=if k=3∨k=11 then(1,2)else if k=4∨k=12 then(1,0)else if k=5∨k=9 then(2,1)else if k=6∨k=10 then(0,1)else(1,1)
def KY(kd vl:Int):Bool:=if kd=7∨kd=13 then bL 0 96 vl else decide (vl=0)
def PI(kd vl:Int)(ni no:Nat):Bool:=bL 3 14 kd&&KY kd vl&&decide ((gw kd).1=ni)&&decide ((gw kd).2=no)
theorem kinds(h:bL 3 14 k=true):k=3∨k=4∨k=5∨k=6∨k=7∨k=8∨k=9∨k=10∨k=11∨k=12∨k=13∨k=14:=by simp[bL]at h;omega
theorem lK(k:Int)(h:bL 3 14 k=true)(w:World):Calls prog 128 #[.int .i64 k] w λe w'=>e=.returned (.agg #[.int .i64 (gw k).1,.int .i64 (gw k).2])/\Ex w w':=by
 rcases kinds h with rfl|rfl|rfl|rfl|rfl|rfl|rfl|rfl|rfl|rfl|rfl|rfl
 all_goals
  clear h;go_enter Tryz.func128,Tryz.ntmps128
  go_wp2;refine axu (v:=.agg #[.int .i64 _,.int .i64 _]) (by simp[results,Tryz.results128,go_sem];exact⟨rfl,rfl⟩) rfl ?_;exact⟨rfl,by first|exact(((aCQ w).alloc _).alloc _).alloc _|exact((aCQ w).alloc _).alloc _⟩
theorem xM(k:Int)(w:World):Calls prog 49 #[.int .i64 k] w λe w'=>e=.returned (.bool (decide (k=7∨k=13)))/\w=w':=by
 go_enter Tryz.func49,Tryz.ntmps49
 go_wp2
 all_goals go_ret
 all_goals exact⟨aI (by simp_all<;>(by_cases h13:k=13<;>simp_all)),rfl⟩
theorem GJ(k:Int)(w:World):Calls prog 149 #[.int .i64 k] w λe w'=>e=.returned (.bool (bL 3 14 k))/\w=w':=by
 go_enter Tryz.func149,Tryz.ntmps149
 go_wp2_with (go_at_call 82;refine(jb _ _ _ _).mono ?_;rintro e w' ⟨rfl,rfl⟩)
 go_ret;exact⟨rfl,rfl⟩
theorem xJ(k v:Int)(w:World):Calls prog 150 #[.int .i64 k,.int .i64 v] w λe w'=>e=.returned (.bool (KY k v))/\w=w':=by
 by_cases h:k=7∨k=13
 .have H:=axj (show KY k v=bL 0 96 v from axl h);have hh:=xM k w;rw[decide_eq_true h]at hh;clear h;go_enter Tryz.func150,Tryz.ntmps150
  go_wp2_with (first|(go_at_call 49;refine hh.mono ?_;rintro e w' ⟨rfl,rfl⟩)|(go_at_call 82;refine(jb _ _ _ _).mono ?_;rintro e w' ⟨rfl,rfl⟩))
  all_goals go_ret
  all_goals exact⟨aI (by rw[H.out]),rfl⟩
 .have H:=axj (show KY k v=decide (v=0)from axm h);have hh:=xM k w;rw[decide_eq_false h]at hh;clear h;go_enter Tryz.func150,Tryz.ntmps150
  go_wp2_with (first|(go_at_call 49;refine hh.mono ?_;rintro e w' ⟨rfl,rfl⟩))
  all_goals go_ret
  all_goals exact⟨aI (by rw[H.out];first|rfl|simp_all),rfl⟩
theorem DR(k:Int)(h:bL 3 14 k=true)(w:World):Calls prog 135 #[.int .i64 k] w λe w'=>e=.returned (.tuple #[.int .i64 (gw k).1,.int .i64 (gw k).2])/\Ex w w':=by
 rcases kinds h with rfl|rfl|rfl|rfl|rfl|rfl|rfl|rfl|rfl|rfl|rfl|rfl
 all_goals
  clear h;go_enter Tryz.func135,Tryz.ntmps135
  go_wp2
  go_ret2
  exact⟨rfl,aCQ w⟩
def JM(n:Nd):Bool:=decide (n.nm=⟨#[]⟩)
def jP(n:Nd):Option (Int×Int):=
 if JM n=true/\n.kd=1/\bL 0 12 n.vl=true then some (n.vl,n.vl)
 else if JM n=true/\n.kd=2/\n.vl=0 then some (2,2)
 else if JM n=true/\bL 3 14 n.kd=true/\KY n.kd n.vl=true then some (gw n.kd)
 else none
def Dh(k:Int)(a b:Int×Int):Option (Int×Int):=
 if k=15 then(if a.2=b.1 then some (a.1,b.2)else none)
 else(if a.1+b.1<=12/\a.2+b.2<=12 then some (a.1+b.1,a.2+b.2)else none)
def oQ(st:List (Int×Int))(n:Nd):Option (List (Int×Int)):=
 if n.kd=15∨n.kd=16 then
  (if n.vl=0/\JM n=true then
    match st with
    |b::a::r=>(Dh n.kd a b).map (·::r)
    |_=>none
  else none)
 else(jP n).map (·::st)
def ny:List Nd->List (Int×Int)->Option (List (Int×Int))
 |[],st=>some st
 |n::l,st=>(oQ st n).bind (ny l)
def Jl(l:List Nd):Option (Int×Int):=
 if 1<=l.length/\l.length<=400 then
  match ny l []with
  |some [w]=>some w
  |_=>none
 else none
def iR(l:List Nd):Bool:=(Jl l).isSome
theorem DW(a b:List Nd)(st:List (Int×Int)):ny (a++b) st=(ny a st).bind (ny b):=by
 induction a generalizing st with
 |nil=>rfl
 |cons n a ih=>
  show(oQ st n).bind (ny (a++b))=((oQ st n).bind (ny a)).bind (ny b);cases oQ st n with
  |none=>rfl
  |some s=>exact ih s
theorem aiU{v:Int}(h:bL 0 12 v=true):0<=v/\v<=12:=by simpa[bL]using h
theorem JQ{n:Nd}{w:Int×Int}(h:jP n=some w):(0<=w.1/\w.1<=12)/\(0<=w.2/\w.2<=12):=by
 unfold jP at h;split at h
 .rename_i h1;have:=aiU h1.2.2;injection h with h;subst h;exact⟨this,this⟩
 .split at h
  .injection h with h;subst h;decide
  .split at h
   .injection h with h;subst h;unfold gw;split
    .decide
    .split
     .decide
     .split
      .decide
      .split<;>decide
   .cases h
theorem Zv{a c:Int×Int}(ha:(0<=a.1/\a.1<=12)/\(0<=a.2/\a.2<=12))(hb:(0<=b.1/\b.1<=12)/\(0<=b.2/\b.2<=12))(h:Dh k a b=some c):(0<=c.1/\c.1<=12)/\(0<=c.2/\c.2<=12):=by
 unfold Dh at h;split at h
 .split at h
  .injection h with h;subst h;exact⟨ha.1,hb.2⟩
  .cases h
 .split at h
  .injection h with h;subst h;dsimp only;omega
  .cases h
def Ch(F I O:List Int):Nat->List (Int×Int)->Prop
 |i,[]=>i=0
 |i,w::st=>0<i/\∃f:Nat,F[i-1]?=some (f:Int)/\f<i/\I[i-1]?=some w.1/\O[i-1]?=some w.2/\Ch F I O f st
theorem Ch.push(a b c:Int):∀{i:Nat} {st:List (Int×Int)},Ch F I O i st->i<=F.length->i<=I.length->i<=O.length->Ch (F++[a]) (I++[b]) (O++[c]) i st
 |i,[],h,_,_,_=>h
 |i,w::st,h,hF,hI,hO=>by
  obtain⟨h0,f,h1,h2,h3,h4,h5⟩:=h;refine⟨h0,f,?_,h2,?_,?_,h5.push a b c (by omega) (by omega) (by omega)⟩
  .rw[axX (by omega)];exact h1
  .rw[axX (by omega)];exact h3
  .rw[axX (by omega)];exact h4
structure SC (F I O:List Int) (i:Nat) (st:List (Int×Int)):Prop where
 lf:F.length=i
 li:I.length=i
 lo:O.length=i
 ch:Ch F I O i st
 bd:∀w∈st,(0<=w.1/\w.1<=12)/\(0<=w.2/\w.2<=12)
theorem SC.nil:SC [] [] [] 0 []:=⟨rfl,rfl,rfl,rfl,λw h=>by simp at h⟩
theorem SC.add{f:Nat}{r:List (Int×Int)}{w:Int×Int}(h:SC F I O i st)(hr:Ch F I O f r)(hf:f<i+1)(hrb:∀u∈r,u∈st)(hw:(0<=w.1/\w.1<=12)/\(0<=w.2/\w.2<=12)):
 SC (F++[(f:Int)]) (I++[w.1]) (O++[w.2]) (i+1) (w::r):=by
 have h1:=h.lf;have h2:=h.li;have h3:=h.lo;refine⟨by simp[h1],by simp[h2],by simp[h3],⟨by omega,f,?_,hf,?_,?_,hr.push _ _ _ (by omega) (by omega) (by omega)⟩,λu hu=>?_⟩
 .rw[axN (by omega)];simp[h1]
 .rw[axN (by omega)];simp[h2]
 .rw[axN (by omega)];simp[h3]
 .rcases axI.1 hu with e|hu
  .rw[e];exact hw
  .exact h.bd u (hrb u hu)
theorem SC.leaf{w:Int×Int}(h:SC F I O i st)(hw:(0<=w.1/\w.1<=12)/\(0<=w.2/\w.2<=12)):SC (F++[(i:Int)]) (I++[w.1]) (O++[w.2]) (i+1) (w::st):=
 h.add h.ch (by omega) (λ_ hu=>hu) hw
theorem SC.two{a:Int×Int}{r:List (Int×Int)}(h:SC F I O i (b::a::r)):
 ∃f g:Nat,F[i-1]?=some (f:Int)/\1<=f/\f<i/\I[i-1]?=some b.1/\O[i-1]?=some b.2/\F[f-1]?=some (g:Int)/\g<f/\I[f-1]?=some a.1/\O[f-1]?=some a.2/\Ch F I O g r:=by
 obtain⟨h0,f,h1,h2,h3,h4,h5⟩:=h.ch;obtain⟨k0,g,k1,k2,k3,k4,k5⟩:=h5;exact⟨f,g,h1,k0,h2,h3,h4,k1,k2,k3,k4,k5⟩
theorem SC.one(h:SC F I O i [b]):0<i/\F[i-1]?=some 0:=by obtain⟨h0,f,h1,h2,h3,h4,h5⟩:=h.ch;have h5:f=0:=h5;subst h5;exact⟨h0,h1⟩
theorem SC.zero(h:SC F I O i []):i=0:=h.ch
theorem SC.last(h:SC F I O i st)(hi:0<i):∃f:Nat,F[i-1]?=some (f:Int)/\(f=0↔st.length=1):=by
 cases st with
 |nil=>have:=h.zero;omega
 |cons b st=>
  cases st with
  |nil=>exact⟨0,by have:=h.one.2;simpa using this,by simp⟩
  |cons a r=>obtain⟨f,g,h1,h2,_⟩:=h.two;exact⟨f,h1,by simp;omega⟩
theorem qj{l:List Nd}{k:Nat}{n:Nd}(h:l[k]?=some n)(st:List (Int×Int)):ny (l.take (k+1)) st=(ny (l.take k) st).bind λs=>oQ s n:=by rw[axy,h,ayE,DW];congr 1;funext s;show(oQ s n).bind (λs=>some s)=oQ s n;cases oQ s n<;>rfl
theorem um{l:List Nd}{k:Nat}(h:ny (l.take k) st=none):ny l st=none:=by rw[<-ayw k l,DW,h];rfl
theorem Ho{l:List Nd}(h:ny l []=some st)(hl:1<=l.length/\l.length<=400):iR l=decide (st.length=1):=by
 unfold iR Jl;rw[axl hl,h]
 match st with
 |[]=>rfl
 |[w]=>rfl
 |_::_::r=>simp
theorem Am{l:List Nd}(h:ny l []=none):iR l=false:=by unfold iR Jl;rw[h];split<;>rfl
theorem G_{l:List Nd}(h:¬(1<=l.length/\l.length<=400)):iR l=false:=by unfold iR Jl;rw[axm h];rfl
theorem zO{b:ByteArray}(h:b.toList=[]):b=⟨#[]⟩:=by rw[ByteArray.toList_eq]at h;obtain⟨⟨l⟩⟩:=b;have h:l=[]:=h;subst h;rfl
theorem Nv(n:Nd)(w:World):Calls prog 114 #[.agg #[.int .i64 n.kd,.int .i64 n.vl,.string n.nm]] w λe w'=>∃a b ok,e=.returned (.tuple #[.agg #[.int .i64 a,.int .i64 b],.bool ok])/\(ok=true->jP n=some (a,b))/\(ok=false->jP n=none)/\Ex w w':=by
 obtain⟨k,v,nm⟩:=n;dsimp only;obtain⟨W0,hW0,x0,v0,s0⟩:=VB.an w 70 #[.int .i64 k,.int .i64 v,.string nm] rfl;obtain⟨x1,v1,W1,hW1⟩:=VB.al W0 104 #[.int .i64 0,.int .i64 0];rw[hW1]at x1 v1;rw[s0]at v1;have q0:=(v0.ex x1).c0;have q1:=(v0.ex x1).c1;have q2:=(v0.ex x1).c2;obtain⟨r0,r1⟩:=v1.d2;obtain⟨z0,z1⟩:=v1.z2;by_cases hnm:nm=⟨#[]⟩;case neg=>
  have HN:=axj (show jP ⟨k,v,nm⟩=none by
   unfold jP JM;simp[hnm])
  have hb:(!nm.toList.isEmpty)=true:=by
   cases h:nm.toList with
   |nil=>exact absurd (zO h) hnm
   |cons a l=>rfl
  obtain⟨dd,zz⟩:=v1.st2 (.int .i64 0) (.int .i64 0);obtain⟨C0,C1⟩:=dd.d2;have eF:=(x0.trans x1).aK zz (by omega);clear hnm;go_enter Tryz.func114,Tryz.ntmps114
  go_wp2_with fail
  refine axu (v:=.tuple #[.agg #[.int .i64 0,.int .i64 0],.bool false]) (by simp[results,Tryz.results114,go_sem,C0,C1]) rfl ?_;exact⟨0,0,false,rfl,λe=>Bool.noConfusion e,λ_=>HN.out,eF⟩
 subst hnm;have hwt:=λW=>jb v 0 12 W
 by_cases h1:k=1
 .subst h1;have HV:=axj (show jP ⟨1,v,⟨#[]⟩⟩=if bL 0 12 v=true then some (v,v)else none by
   unfold jP JM;cases bL 0 12 v<;>simp[bL])
  obtain⟨ok,hok⟩:=xq (bL 0 12 v);rw[hok]at HV;simp only[hok]at hwt;clear hok;obtain⟨dd,zz⟩:=v1.st2 (.int .i64 v) (.int .i64 v);replace dd:=dd.drew;have vA:=((v0.ex x1).aK zz (by omega)).drew;obtain⟨C0,C1⟩:=dd.d2;have eF:=((x0.trans x1).aK zz (by omega)).drew;go_enter Tryz.func114,Tryz.ntmps114
  go_wp2_with fail
  go_region_held3 (λW=>W.cell? ⟨w.heap.size,1,none⟩=some (.int .i64 v)) (first
   |(exact q1)
   |(exact vA.c1)) (first
   |(go_at_call 82
     refine(hwt _).mono ?_;rintro e w2 ⟨rfl,rfl⟩))
  go_wp2_with fail
  refine axu (v:=.tuple #[.agg #[.int .i64 v,.int .i64 v],.bool ok]) (by simp[results,Tryz.results114,go_sem,C0,C1]) rfl ?_;exact⟨v,v,ok,rfl,λe=>by rw[HV.out,e];rfl,λe=>by rw[HV.out,e];rfl,eF⟩
 by_cases h2:k=2
 .subst h2;have HV:=axj (show jP ⟨2,v,⟨#[]⟩⟩=if(v==0)=true then some (2,2)else none by
   unfold jP JM;by_cases h:v=0<;>simp[bL,h])
  obtain⟨dd,zz⟩:=v1.st2 (.int .i64 2) (.int .i64 2);replace dd:=dd.drew;have vA:=((v0.ex x1).aK zz (by omega)).drew;obtain⟨C0,C1⟩:=dd.d2;have eF:=((x0.trans x1).aK zz (by omega)).drew;clear h1;go_enter Tryz.func114,Tryz.ntmps114
  go_wp2_with fail
  go_region_held3 (λW=>W.cell? ⟨w.heap.size,1,none⟩=some (.int .i64 v)) (first
   |(exact q1)
   |(exact vA.c1)) (fail)
  go_wp2_with fail
  refine axu (v:=.tuple #[.agg #[.int .i64 2,.int .i64 2],.bool (v==0)]) (by simp[results,Tryz.results114,go_sem,C0,C1]) rfl ?_;exact⟨2,2,v==0,rfl,λe=>by rw[HV.out,e];rfl,λe=>by rw[HV.out,e];rfl,eF⟩
 have n1:(k==1)=false:=by simpa using h1
 have n2:(k==2)=false:=by simpa using h2
 have hg:=λW=>GJ k W
 cases h3:bL 3 14 k with
 |false=>
  have HN:=axj (show jP ⟨k,v,⟨#[]⟩⟩=none by
   unfold jP JM;simp[h1,h2,h3])
  simp only[h3]at hg;obtain⟨dd,zz⟩:=v1.st2 (.int .i64 0) (.int .i64 0);obtain⟨C0,C1⟩:=dd.d2;have eF:=(x0.trans x1).aK zz (by omega);clear h1 h2 h3;go_enter Tryz.func114,Tryz.ntmps114
  go_wp2_with fail
  refine(hg _).mono ?_;rintro e w2 ⟨rfl,rfl⟩;go_wp2_with fail
  refine axu (v:=.tuple #[.agg #[.int .i64 0,.int .i64 0],.bool false]) (by simp[results,Tryz.results114,go_sem,C0,C1]) rfl ?_;exact⟨0,0,false,rfl,λe=>Bool.noConfusion e,λ_=>HN.out,eF⟩
 |true=>
  have hgw:=λW=>lK k h3 W
  have hgv:=λW=>xJ k v W
  have HV:=axj (show jP ⟨k,v,⟨#[]⟩⟩=if KY k v=true then some (gw k)else none by
   unfold jP JM;simp[h1,h2,h3])
  simp only[h3]at hg;obtain⟨ok,hok⟩:=xq (KY k v);rw[hok]at HV;simp only[hok]at hgv;obtain⟨⟨a,b⟩,hab⟩:∃ab,gw k=ab:=⟨_,rfl⟩;rw[hab]at HV;simp only[hab]at hgw;clear h1 h2 h3 hok hab;have vN:=v0.ex x1;go_enter Tryz.func114,Tryz.ntmps114
  go_wp2_with fail
  refine(hg _).mono ?_;rintro e w2 ⟨rfl,rfl⟩;go_wp2_with fail
  go_region_held3 (λW=>W.cell? ⟨w.heap.size,0,none⟩=some (.int .i64 k)/\W.cell? ⟨w.heap.size,1,none⟩=some (.int .i64 v)) (first
   |(exact⟨q0,q1⟩)
   |(exact⟨af e3 q0,af e3 q1⟩)
   |(exact⟨vA.c0,vA.c1⟩)) (first
   |(go_at_call 128
     refine(hgw _).mono ?_;rintro e w3 ⟨rfl,x3⟩;have e3:Ex W1 w3:=(aCQ W1).drew.trans x3;have y1:=v1.ex e3;obtain⟨r0,r1⟩:=y1.d2;obtain⟨z0,z1⟩:=y1.z2;obtain⟨dd,zz⟩:=y1.st2 (.int .i64 a) (.int .i64 b);have vA:=(vN.ex e3).aK zz (by omega))
   |(go_at_call 150
     refine(hgv _).mono ?_;rintro e w4 ⟨rfl,rfl⟩))
  obtain⟨C0,C1⟩:=dd.d2;have eF:=((x0.trans x1).trans e3).aK zz (by omega);go_wp2_with fail
  refine axu (v:=.tuple #[.agg #[.int .i64 a,.int .i64 b],.bool ok]) (by simp[results,Tryz.results114,go_sem,C0,C1]) rfl ?_;exact⟨a,b,ok,rfl,λe=>by rw[HV.out,e];rfl,λe=>by rw[HV.out,e];rfl,eF⟩
theorem aky(a b:Int)(w:World):Calls prog 179 #[.agg #[.int .i64 a,.int .i64 b]] w λe w'=>e=.returned (.bool (decide (a<=12)&&decide (b<=12)))/\Ex w w':=by
 have x0:=(aCQ w).alloc (.cells #[.int .i64 a,.int .i64 b] 104);by_cases h:a<=12
 .have h1:=decide_eq_true h;rw[h1];go_enter Tryz.func179,Tryz.ntmps179
  go_wp2_with fail
  go_ret;exact⟨rfl,x0⟩
 .have h1:=decide_eq_false h;rw[h1];go_enter Tryz.func179,Tryz.ntmps179
  go_wp2_with fail
  go_ret;exact⟨rfl,x0⟩
theorem NC(k:Int)(a b:Int×Int)(ha:(0<=a.1/\a.1<=12)/\(0<=a.2/\a.2<=12))(hb:(0<=b.1/\b.1<=12)/\(0<=b.2/\b.2<=12))(w:World):
 Calls prog 148 #[.int .i64 k,.agg #[.int .i64 a.1,.int .i64 a.2],.agg #[.int .i64 b.1,.int .i64 b.2]] w λe w'=>∃c d ok,e=.returned (.tuple #[.agg #[.int .i64 c,.int .i64 d],.bool ok])/\(ok=true->Dh k a b=some (c,d))/\(ok=false->Dh k a b=none)/\Ex w w':=by
 obtain⟨a1,a2⟩:=a;obtain⟨b1,b2⟩:=b;dsimp only at ha hb⊢;obtain⟨W1,hW1,x1,v1,s1⟩:=VB.an w 104 #[.int .i64 a1,.int .i64 a2] rfl;obtain⟨W2,hW2,x2,v2,s2⟩:=VB.an W1 104 #[.int .i64 b1,.int .i64 b2] s1;obtain⟨W3,hW3,x3,v3,s3⟩:=VB.an W2 104 #[.int .i64 0,.int .i64 0] s2;have y3:=(x1.trans x2).trans x3;have u1:=(v1.ex x2).ex x3;have u2:=v2.ex x3;obtain⟨q0,q1⟩:=u1.d2;obtain⟨p0,p1⟩:=u2.d2;obtain⟨r0,r1⟩:=v3.d2;obtain⟨z0,z1⟩:=v3.z2;clear x1 v1 x2 v2 x3;by_cases hk:k=15
 .subst hk;have HV:=axj (show Dh 15 (a1,a2) (b1,b2)=if(a2==b1)=true then some (a1,b2)else none by
   unfold Dh;simp)
  obtain⟨dd,zz⟩:=v3.st2 (.int .i64 a1) (.int .i64 b2);replace dd:=dd.drew;have vA:=(u1.aK zz (by omega)).drew;have vB:=(u2.aK zz (by omega)).drew;obtain⟨C0,C1⟩:=dd.d2;have eF:=(y3.aK zz (by omega)).drew;go_enter Tryz.func148,Tryz.ntmps148
  go_wp2_with fail
  go_region_held3 (λW=>W.cell? ⟨w.heap.size,0,none⟩=some (.int .i64 a1)/\W.cell? ⟨w.heap.size,1,none⟩=some (.int .i64 a2)/\W.cell? ⟨w.heap.size+1,0,none⟩=some (.int .i64 b1)/\W.cell? ⟨w.heap.size+1,1,none⟩=some (.int .i64 b2)) (first
   |(exact⟨q0,q1,p0,p1⟩)
   |(exact⟨vA.c0,vA.c1,vB.c0,vB.c1⟩)) (fail)
  go_wp2_with fail
  refine axu (v:=.tuple #[.agg #[.int .i64 a1,.int .i64 b2],.bool (a2==b1)]) (by simp[results,Tryz.results148,go_sem,C0,C1]) rfl ?_;exact⟨a1,b2,a2==b1,rfl,λe=>by rw[HV.out,e];rfl,λe=>by rw[HV.out,e];rfl,eF⟩
 .have hkb:(k==15)=false:=by simpa using hk
  obtain⟨c,hc⟩:=xq (a1+b1);obtain⟨d,hd⟩:=xq (a2+b2);have HV:=axj (show Dh k (a1,a2) (b1,b2)=if(decide (c<=12)&&decide (d<=12))=true then some (c,d)else none by
   unfold Dh;rw[axm hk];simp[hc,hd])
  have hw1:IntKind.i64.wrap (a1+b1)=c:=by rw[axC _ (by omega)];exact hc
  have hw2:IntKind.i64.wrap (a2+b2)=d:=by rw[axC _ (by omega)];exact hd
  have cF:=λW=>aky c d W
  obtain⟨ok,hok⟩:∃ok,(decide (c<=12)&&decide (d<=12))=ok:=⟨_,rfl⟩;rw[hok]at HV;simp only[hok]at cF;obtain⟨x4,v4⟩:=VB.xn W3 104 #[.int .i64 c,.int .i64 d];rw[s3]at v4;clear hk hc hd hok ha hb;go_enter Tryz.func148,Tryz.ntmps148
  go_wp2_with fail
  generalize W3.alloc (.cells #[.int .i64 c,.int .i64 d] 104)=W4 at*;obtain⟨g0,g1⟩:=v4.d2;go_region_held3 (λW=>W.cell? ⟨w.heap.size+1+1+1,0,none⟩=some (.int .i64 c)/\W.cell? ⟨w.heap.size+1+1+1,1,none⟩=some (.int .i64 d)) (first
   |(exact⟨g0,g1⟩)
   |(exact⟨af e5 g0,af e5 g1⟩)
   |(exact⟨vA.c0,vA.c1⟩)) (first
   |(go_at_call 179
     refine(cF _).mono ?_;rintro e w5 ⟨rfl,x5⟩;have e5:Ex W4 w5:=(aCQ W4).drew.trans x5;have t3:=(v3.ex x4).ex e5;obtain⟨r0,r1⟩:=t3.d2;obtain⟨z0,z1⟩:=t3.z2;obtain⟨dd,zz⟩:=t3.st2 (.int .i64 c) (.int .i64 d);have vA:=(v4.ex e5).aK zz (by omega)))
  obtain⟨C0,C1⟩:=dd.d2;have eF:=((y3.trans x4).trans e5).aK zz (by omega);go_wp2_with fail
  refine axu (v:=.tuple #[.agg #[.int .i64 c,.int .i64 d],.bool ok]) (by simp[results,Tryz.results148,go_sem,C0,C1]) rfl ?_;exact⟨c,d,ok,rfl,λe=>by rw[HV.out,e];rfl,λe=>by rw[HV.out,e];rfl,eF⟩
def wrC(x:Int×Int):List Value:=[.int .i64 x.1,.int .i64 x.2]
def EW:EK (Int×Int) where
 k:=2
 R:=λ_ vs x=>vs=wrC x
 O:=λ_ _ _ vs x=>vs=wrC x
 tot:=λ_=>2
 KZ:=λk _=>(k,k+1)
 mM:=λh=>by subst h;rfl
 ex:=λh _=>h
 rd:=λh=>h
 keep:=λh _=>h
 nn:=λ_=>by omega
 tmk:=λ_ _=>rfl
theorem peW:PE EW wrC where
 R:=Iff.rfl
 O:=Iff.rfl
 len:=λ_=>rfl
 one:=λx u hu=>by simp only[wrC,axI,axV,or_false]at hu;rcases hu with rfl|rfl<;>rfl
 pos:=by decide
def jnS(k:Int):List (Int×Int)->Option (List (Int×Int))
 |b::a::r=>(Dh k a b).map (·::r)
 |_=>none
theorem LQ{n:Nd}(h:n.kd=15∨n.kd=16):oQ st n=if n.vl=0/\JM n=true then jnS n.kd st else none:=by
 unfold oQ jnS;refine(axl h).trans ?_;split
 .rcases st with _|⟨b,_|⟨a,r⟩⟩<;>rfl
 .rfl
theorem afo{s:List (Int×Int)}{n:Nd}(h:oQ st n=some s):s≠[]:=by
 unfold oQ at h;split at h
 .split at h
  .split at h
   .rename_i r;cases hj:Dh n.kd _ _ with
    |none=>rw[hj]at h;cases h
    |some c=>rw[hj]at h;injection h with h;rw[<-h];exact List.cons_ne_nil _ _
   .cases h
  .cases h
 .cases hl:jP n with
  |none=>rw[hl]at h;cases h
  |some c=>rw[hl]at h;injection h with h;rw[<-h];exact List.cons_ne_nil _ _
theorem Ya:∀{l:List Nd} {st s:List (Int×Int)},ny l st=some s->l≠[]->s≠[]
 |[],_,_,_,h=>absurd rfl h
 |[n],st,s,h,_=>by
  change((oQ st n).bind λs=>some s)=some s at h;cases hs:oQ st n with
  |none=>rw[hs]at h;cases h
  |some c=>rw[hs]at h;injection h with h;rw[<-h];exact afo hs
 |n::m::l,st,s,h,_=>by
  change((oQ st n).bind (ny (m::l)))=some s at h;cases hs:oQ st n with
  |none=>rw[hs]at h;cases h
  |some c=>rw[hs]at h;exact Ya (l:=m::l) h (List.cons_ne_nil _ _)
theorem UG:(prog.info? 104).map (λi=>(i.zero,i.size,i.bytes))=some (some (.agg #[.int .i64 0,.int .i64 0]),2,16):=by kernel_rfl
def AW(w:World)(B:Nat)(v:Value)(xs:List (Int×Int)):Prop:=AF EW wrC 104 w B v xs
theorem Uu(w:World)(B:Nat)(v:Value)(ys:List (Int×Int))(x:Int×Int)(hv:AW w B v ys)(hB:B<=w.heap.size)(hl:ys.length+1<=1099511627776):
 ∃v' w',(Builtin.append_ #[160,160] 160 #[v,.slice (some ⟨w.heap.size,0,none⟩) 1 1]).run prog (w.alloc (.cells #[.int .i64 x.1,.int .i64 x.2] 104))=.ok v' w'/\AW w' B v' (ys++[x])/\(v'.ownBlock=v.ownBlock∨∃k,v'.ownBlock=some k/\w.heap.size<=k)/\qh v.ownBlock w w'/\v'≠.slice none 0 0:=by
 obtain⟨i,hi,hz,hs,hb⟩:=axW UG;exact adK peW 160 Tryz.underlying160 hi hz hs hb rfl w B v ys x hv hB hl (by omega)
theorem Bh:∀args w,(callFunc 114 args).run prog w=.ok (.enter 114 args) w:=enters_of Tryz.func114 (by kernel_rfl) rfl
theorem abX(l:List Nd)(A:Option Addr)(c:Nat)(w:World)(h:bW EN w A l):
 Calls prog 113 #[.slice A l.length c,.func (.func 114) #[] #[]] w λe w'=>∃a b,e=.returned (.tuple #[.agg #[.int .i64 a,.int .i64 b],.bool (iR l)])/\(iR l=true->Jl l=some (a,b))/\Ex w w':=by
 have eg:=Bh;have hl:=h.1;have H:=axj h;obtain⟨N,hN⟩:=xq l.length;have HN:=axj hN;rw[hN]at hl⊢;clear hN h;obtain⟨W0,hW0,x0,v0,s0⟩:=VB.an w 104 #[.int .i64 0,.int .i64 0] rfl;have hwt:=λW=>jb (N:Int) 1 400 W
 have fin:∀(W:World),VB W w.heap.size 104 #[.int .i64 0,.int .i64 0]->Ex w W->iR l=false->
  ∃W',W'=(W.setCell ⟨w.heap.size,0,none⟩ (.int .i64 0)).setCell ⟨w.heap.size,1,none⟩ (.int .i64 0)/\W'.cell? ⟨w.heap.size,0,none⟩=some (.int .i64 0)/\W'.cell? ⟨w.heap.size,1,none⟩=some (.int .i64 0)/\Ex w W':=λW hv hx _=>by
  obtain⟨dd,zz⟩:=hv.st2 (.int .i64 0) (.int .i64 0);exact⟨_,rfl,dd.c0,dd.c1,hx.aK zz (axk _)⟩
 cases hin:bL 1 400 (N:Int)with
 |false=>
  have HF:=axj (show iR l=false from G_ (by
   rw[HN.out];simp[bL]at hin;omega))
  simp only[hin]at hwt;obtain⟨W',hW',C0,C1,eF⟩:=fin W0 v0 x0 HF.out;obtain⟨r0,r1⟩:=v0.d2;obtain⟨z0,z1⟩:=v0.z2;subst hW';clear hin fin;go_enter Tryz.func113,Tryz.ntmps113
  go_wp2_with fail
  refine(hwt _).mono ?_;rintro e w2 ⟨rfl,rfl⟩;go_wp2_with fail
  refine axu (v:=.tuple #[.agg #[.int .i64 0,.int .i64 0],.bool false]) (by simp[results,Tryz.results113,go_sem,C0,C1]) rfl ?_;rw[HF.out];exact⟨0,0,rfl,λe=>Bool.noConfusion e,eF⟩
 |true=>
  have hNb:1<=N/\N<=400:=by simp[bL]at hin;omega
  simp only[hin]at hwt;clear hin;have y1:=(aCQ W0).alloc (.cells #[] 104);have a1:AW (W0.alloc (.cells #[] 104)) W0.heap.size (.slice (some ⟨W0.heap.size,0,none⟩) 0 0) []:=AF.empty W0 (axk _);have v1:=v0.ex y1;rw[s0]at a1;go_enter Tryz.func113,Tryz.ntmps113
  go_wp2_with fail
  refine(hwt _).mono ?_;rintro e w2 ⟨rfl,rfl⟩;go_wp2_with fail
  obtain⟨W1,hW1⟩:=xq (W0.alloc (.cells #[] 104));rw[hW1]at y1 a1 v1⊢;clear hW1;go_loopw [6,22] (λs i wr=>∃(k:Nat) (st:List (Int×Int)),k<=N/\i=.int .i64 k/\Hid (ny (l.take k) []=some st)/\AW wr (w.heap.size+1) s st.reverse/\Hid (∀u∈st,(0<=u.1/\u.1<=12)/\(0<=u.2/\u.2<=12))/\st.length<=k/\s≠.slice none 0 0/\VB wr w.heap.size 104 #[.int .i64 0,.int .i64 0]/\Ex w wr/\w.heap.size+1<=wr.heap.size) (λ_ i _=>N-(intOf i).toNat)
  case atStart=>exact⟨0,[],axq _,rfl,axj rfl,a1,axj (λu hu=>by simp at hu),axk _,(λe=>by injection e with e;cases e),v1,x0.trans y1,by rw[<-s0];exact y1.size⟩
  case round=>
   rename World=>wi;clear a1 y1 v1;obtain⟨k,st,hk,rfl,HS,hst,HB,hsk,hsn,hv,he,hsz⟩:=hrel;obtain⟨A6,c6,e6,_⟩:=AF.form hst;obtain⟨m,hm⟩:=xq st.length;have HM:=axj hm;rw[ayc,hm]at e6;rw[hm]at hsk;subst e6;clear hm;by_cases hlt:k<N
   .obtain⟨g,off,n,eA,hn,q0,q1,q2⟩:=(H.out.ex he).node (by rw[HN.out];exact hlt);subst eA;have HNd:=axj hn;have HSC:=axj (qj hn []);obtain⟨W2,hW2,x2,n2,s2⟩:=VB.an wi 70 #[.int .i64 n.kd,.int .i64 n.vl,.string n.nm] rfl;obtain⟨d0,d1,d2⟩:=n2.d3;clear hn;by_cases hb:n.kd=15∨n.kd=16
    .have hkk:((n.kd !=15)&&(n.kd !=16))=false:=by rcases hb with h|h<;>simp[h]
     have HST:=axj (LQ (st:=st) hb);have hstop:oQ st n=none->iR l=false:=λh=>Am (um (k:=k+1) (by rw[HSC.out,HS.out];exact h))
     have Br:=axj hstop;clear hstop;have hK:(n.kd !=15)=false∨((n.kd !=15)=true/\(n.kd !=16)=false):=by
      by_cases h:n.kd=15
      .exact .inl (by simp[h])
      .exact .inr ⟨by simpa using h,by simp;omega⟩
     clear hkk hb;by_cases hvl:n.vl=0;case neg=>
      have hvb:(n.vl !=0)=true:=by simpa using hvl
      have HF:=axj (Br.out (by rw[HST.out,axm (λh=>hvl h.1)]));clear hvl;rcases hK with hK1|⟨hK1,hK2⟩
      all_goals
       have hv4:=hv.ex x2;obtain⟨r0,r1⟩:=hv4.d2;obtain⟨z0,z1⟩:=hv4.z2;obtain⟨W',hW',C0,C1,eF⟩:=fin _ hv4 (he.trans x2) HF.out;subst hW';go_wp2_with fail
       refine axu (v:=.tuple #[.agg #[.int .i64 0,.int .i64 0],.bool false]) (by simp[results,Tryz.results113,go_sem,C0,C1]) rfl ?_;rw[HF.out];exact⟨0,0,rfl,λe=>Bool.noConfusion e,eF⟩
     have hvb:(n.vl !=0)=false:=by simpa using hvl
     by_cases hnm:n.nm=⟨#[]⟩;case neg=>
      have hnb:(!n.nm.toList.isEmpty)=true:=by
       cases h:n.nm.toList with
       |nil=>exact absurd (zO h) hnm
       |cons a l=>rfl
      have HF:=axj (Br.out (by rw[HST.out,axm (λh=>hnm (by simpa[JM]using h.2))]));clear hvl hnm;rcases hK with hK1|⟨hK1,hK2⟩
      all_goals
       have hv4:=hv.ex x2;obtain⟨r0,r1⟩:=hv4.d2;obtain⟨z0,z1⟩:=hv4.z2;obtain⟨W',hW',C0,C1,eF⟩:=fin _ hv4 (he.trans x2) HF.out;subst hW';go_wp2_with fail
       refine axu (v:=.tuple #[.agg #[.int .i64 0,.int .i64 0],.bool false]) (by simp[results,Tryz.results113,go_sem,C0,C1]) rfl ?_;rw[HF.out];exact⟨0,0,rfl,λe=>Bool.noConfusion e,eF⟩
     have hnb:(!n.nm.toList.isEmpty)=false:=by rw[hnm,ByteArray.toList_eq];rfl
     have G6:=axj (show oQ st n=jnS n.kd st from HST.out.trans (axl (And.intro hvl (by simp[JM,hnm]))));clear hvl hnm HST;by_cases hm2:m<2
     .have HF:=axj (Br.out (by
       rw[G6.out];have:=HM.out
       match st,this with
       |[],_=>rfl
       |[_],_=>rfl
       |_::_::r,h=>simp at h;omega))
      have atT:((m:Int)<2):=by omega
      rcases hK with hK1|⟨hK1,hK2⟩
      all_goals
       have hv4:=hv.ex x2;obtain⟨r0,r1⟩:=hv4.d2;obtain⟨z0,z1⟩:=hv4.z2;obtain⟨W',hW',C0,C1,eF⟩:=fin _ hv4 (he.trans x2) HF.out;subst hW';go_wp2_with fail
       refine axu (v:=.tuple #[.agg #[.int .i64 0,.int .i64 0],.bool false]) (by simp[results,Tryz.results113,go_sem,C0,C1]) rfl ?_;rw[HF.out];exact⟨0,0,rfl,λe=>Bool.noConfusion e,eF⟩
     .obtain⟨b,a,r,rfl⟩:∃b a r,st=b::a::r:=by
       have:=HM.out
       match st,this with
       |[],h=>simp at h;omega
       |[_],h=>simp at h;omega
       |b::a::r,_=>exact⟨b,a,r,rfl⟩
      obtain⟨m0,hm0⟩:=xq r.length;have hmm:m=m0+2:=by have:=HM.out;simp at this;omega
      have HR:=axj hm0;have HRV:=axj (show(b::a::r).reverse=r.reverse++[a,b] by simp);have hlm:(b::a::r).reverse.length=m:=by rw[ayc];exact HM.out
      obtain⟨m1,hm1⟩:=xq (m0+1);have Q_:IntKind.i64.wrap ((m:Int)-1)=(m1:Int):=by rw[axC _ (by omega)];omega
      have hwb:IntKind.i64.wrap ((m1:Int)-1)=(m0:Int):=by rw[axC _ (by omega)];omega
      have hb2:¬((m:Int)<2):=by omega
      have hb0:m0<m:=by omega
      have hb1:m1<m:=by omega
      obtain⟨A7,c7,e7,_,hrd,_⟩:=AF.ows hst peW (by rw[hlm];omega);injection e7 with e7 e8 e9;subst e7;clear e8 e9;obtain⟨gS,oS,vs,x,rfl,hx,hc,rfl⟩:=hrd.at_ (j:=m0) (by rw[hlm];omega);rw[HRV.out,axN (by rw[ayc];omega),ayc,hm0,ayd]at hx;injection hx with hx;subst hx;obtain⟨g',o',vs,x,eA,hx,hc',rfl⟩:=hrd.at_ (j:=m1) (by rw[hlm];omega);rw[HRV.out,axN (by rw[ayc];omega),ayc,hm0,<-hm1,aya]at hx;injection hx with hx;subst hx;injection eA with eA;injection eA with eA1 eA2;subst eA1 eA2;have hcc:=λi u h=>af x2 (hc i u h)
      have hcd:=λi u h=>af x2 (hc' i u h)
      have a0:W2.cell? ⟨gS,oS+m0*2,none⟩=some (.int .i64 a.1):=hcc 0 _ rfl;have a1:W2.cell? ⟨gS,oS+m0*2+1,none⟩=some (.int .i64 a.2):=hcc 1 _ rfl;have b0:W2.cell? ⟨gS,oS+m1*2,none⟩=some (.int .i64 b.1):=hcd 0 _ rfl;have b1:W2.cell? ⟨gS,oS+m1*2+1,none⟩=some (.int .i64 b.2):=hcd 1 _ rfl;have HO:=axj (AF.own hst).1;have HMM:=axj hmm;have HM1:=axj hm1;have HSN:=axj hsn;have hba:=HB.out a (by simp);have hbb:=HB.out b (by simp);have HBR:=axj (show∀u∈r,(0<=u.1/\u.1<=12)/\(0<=u.2/\u.2<=12)from λu hu=>HB.out u (by simp[hu]));have cJ:=λW=>NC n.kd a b hba hbb W
      have bJ:=λc d=>Zv (k:=n.kd) (c:=(c,d)) hba hbb
      have HJN:=axj (show jnS n.kd (b::a::r)=(Dh n.kd a b).map (·::r)from rfl);clear hba hbb HB;have SZ2:=axj s2;clear hm2 hc hc' hcc hcd hrd hlm hmm hm1 hm0 hsn s2;obtain⟨a1',a2'⟩:=a;obtain⟨b1',b2'⟩:=b;dsimp only at a0 a1 b0 b1 cJ;have hvK:=hv.ex x2;have af6:=AF.ex hst x2;have HS2:∀W,Ex W2 W->(Ex W2 W/\W.cell? ⟨wi.heap.size,0,none⟩=some (.int .i64 n.kd)/\W.cell? ⟨gS,oS+m0*2,none⟩=some (.int .i64 a1')/\W.cell? ⟨gS,oS+m0*2+1,none⟩=some (.int .i64 a2')/\W.cell? ⟨gS,oS+m1*2,none⟩=some (.int .i64 b1')/\W.cell? ⟨gS,oS+m1*2+1,none⟩=some (.int .i64 b2')):=λW h=>⟨h,af h d0,af h a0,af h a1,af h b0,af h b1⟩
      have eA:=(aCQ W2).drew;have eB:=((aCQ W2).alloc (.cells #[.int .i64 0,.int .i64 0] 104)).drew;have vT:=VB.new W2 104 #[.int .i64 0,.int .i64 0];have hz2:(W2.alloc (.cells #[.int .i64 0,.int .i64 0] 104)).heap.size=W2.heap.size+1:=by simp
      rcases hK with hK1|⟨hK1,hK2⟩
      all_goals
       go_wp2_with fail
       go_cut [12,13]from 64 to 78 (λs12 s13 W=>∃(T:Nat) (c d:Int) (ok:Bool),s12=.pointer (some ⟨T,0,none⟩)/\s13=.bool ok/\Hid (ok=true->Dh n.kd (a1',a2') (b1',b2')=some (c,d))/\Hid (ok=false->Dh n.kd (a1',a2') (b1',b2')=none)/\VB W T 104 #[.int .i64 c,.int .i64 d]/\W2.heap.size<=T/\Ex W2 W)
       case first=>
        go_region_held3 (λW=>Ex W2 W/\W.cell? ⟨wi.heap.size,0,none⟩=some (.int .i64 n.kd)/\W.cell? ⟨gS,oS+m0*2,none⟩=some (.int .i64 a1')/\W.cell? ⟨gS,oS+m0*2+1,none⟩=some (.int .i64 a2')/\W.cell? ⟨gS,oS+m1*2,none⟩=some (.int .i64 b1')/\W.cell? ⟨gS,oS+m1*2+1,none⟩=some (.int .i64 b2')) (first
         |(exact HS2 _ ((x5.setCell (p:=⟨W2.heap.size,0,none⟩) (axk _) _).setCell (p:=⟨W2.heap.size,1,none⟩) (axk _) _))|(exact HS2 _ (x5.alloc _))|(exact HS2 _ x5)|(exact HS2 _ eB)|(exact HS2 _ ((aCQ W2).alloc _))|(exact HS2 _ eA)|(exact HS2 _ (aCQ W2))) (first
         |(go_at_call 148
           have hb:=(‹Ex W2 _/\_›).1;refine(cJ _).mono ?_;rintro e w5 ⟨c5,d5,ok5,rfl,aje,ajn,KW⟩;have x5:=hb.trans KW;have abh:=axj aje;have adT:=axj ajn
           try have vZ:=VB.ex (w:=(W2.alloc (.cells #[.int .i64 0,.int .i64 0] 104)).drew) vT KW
           try have cZ:=vZ.c0
           try have cY:=vZ.c1
           try have fZ:=vZ.frozen 0
           try have fY:=vZ.frozen 1
           clear hb aje ajn))
        all_goals
         go_wp2_with fail
         go_meet
         first
         |exact⟨_,_,_,_,rfl,rfl,abh,adT,VB.new _ _ _,x5.size,x5.alloc _⟩
         |(obtain⟨dd,zz⟩:=vZ.st2 (.int .i64 c5) (.int .i64 d5)
           exact⟨_,_,_,_,rfl,rfl,abh,adT,dd,axk _,x5.aK zz (axk _)⟩)
       case rest=>
        obtain⟨W5,rfl⟩:∃q,q=wc:=⟨_,rfl⟩;obtain⟨T,c5,d5,ok5,rfl,rfl,abh,adT,vT5,Gs,x5⟩:=hcut;have hv5:=hvK.ex x5;have Rf:=AF.ex af6 x5;have X5:=(he.trans x2).trans x5;have hz5:=x5.size;have hwz:=(he.trans x2).size;have LT5:=vT5.lt;have hgl:=(AF.lt af6 gS rfl);clear HS2 a0 a1 b0 b1 d0 d1 d2 q0 q1 q2 eA eB vT hz2 af6 hvK;cases ok5 with
        |false=>
         have HF:=axj (Br.out (by rw[G6.out,HJN.out,adT.out rfl];rfl));obtain⟨r0,r1⟩:=hv5.d2;obtain⟨z0,z1⟩:=hv5.z2;obtain⟨W',hW',C0,C1,eF⟩:=fin _ hv5 X5 HF.out;subst hW';go_wp2_with fail
         refine axu (v:=.tuple #[.agg #[.int .i64 0,.int .i64 0],.bool false]) (by simp[results,Tryz.results113,go_sem,C0,C1]) rfl ?_;rw[HF.out];exact⟨0,0,rfl,λe=>Bool.noConfusion e,eF⟩
        |true=>
         have hoS:=HO.out;subst hoS;have HS3:=axj (show ny (l.take (k+1)) []=some ((c5,d5)::r) by rw[HSC.out,HS.out];show oQ _ n=_;rw[G6.out,HJN.out,abh.out rfl];rfl);have hbd:=bJ c5 d5 (abh.out rfl);have HB3:=axj (show∀u∈(c5,d5)::r,(0<=u.1/\u.1<=12)/\(0<=u.2/\u.2<=12)from λu hu=>by
          rcases axI.1 hu with rfl|hu
          .exact hbd
          .exact HBR.out u hu)
         have hmc:=(AF.own Rf).2.2.1;have atQ:m0<=c6:=by omega
         have af5:=AF.take Rf peW m0 (by rw[HRV.out,axv,ayc,HR.out];omega);rw[show(((b1',b2')::(a1',a2')::r).reverse).take m0=r.reverse by rw[HRV.out];exact azr (by rw[ayc];exact HR.out)]at af5;obtain⟨v6,w6,hrun',ai6,_,hE6,ajo⟩:=Uu W5.drew (w.heap.size+1) _ _ (c5,d5) af5 (by show _<=W5.heap.size;omega) (by rw[ayc,HR.out];omega);rw[<-ay_]at ai6;have hrun:(Builtin.append_ #[160,160] 160 #[.slice (some ⟨gS,0,none⟩) m0 c6,.slice (some ⟨W5.heap.size,0,none⟩) 1 1]).run prog ((W5.alloc (.cells #[.int .i64 c5,.int .i64 d5] 104)).drew)=.ok v6 w6:=hrun';have Z7:qh (some gS) W5 w6:=(qh.aP ((aCQ W5).drew)).trans hE6;have hB6:=(AF.own Rf).2.2.2.1;have atA:=hv.lt;have ai3:VB w6 T 104 #[.int .i64 c5,.int .i64 d5]:=(Z7.block T LT5 (λe=>by injection e with e;omega)).trans vT5;have hv6:VB w6 w.heap.size 104 #[.int .i64 0,.int .i64 0]:=(Z7.block w.heap.size (by omega) (λe=>by injection e with e;omega)).trans hv5;have x6:=X5.Og Z7 (λq e=>by injection e with e;omega);have VW:=Z7.size;obtain⟨t0,t1⟩:=vT5.d2;have eN:=(aCQ W5).alloc (.cells #[.int .i64 c5,.int .i64 d5] 104);have atP:(m0:Int)<=(c6:Int):=by omega
         have atU:(0:Int)<=(m0:Int):=by omega
         clear hE6 Z7 af5 Rf hst HSC hv hrun' hbd;go_wp2_with fail
         go_region_held3 (λW=>W.cell? ⟨T,0,none⟩=some (.int .i64 c5)/\W.cell? ⟨T,1,none⟩=some (.int .i64 d5)) (first
          |(exact⟨t0,t1⟩)
          |(exact⟨af eN t0,af eN t1⟩)
          |(exact⟨ai3.c0,ai3.c1⟩)) (first
          |(refine aH (vs:=.slice (some ⟨gS,0,none⟩) m0 c6) (vx:=.slice (some ⟨W5.heap.size,0,none⟩) 1 1) rfl _ _ _ rfl rfl rfl (by with_reducible exact hrun) ?_))
         go_wp2_with fail
         go_roundw;case rel=>exact⟨k+1,(c5,d5)::r,by omega,by go_num,HS3,ai6,HB3,by have:=HMM.out;rw[axR,HR.out];omega,ajo,hv6,x6,by omega⟩
         case measure=>simp[intOf];omega
    .have zh:(n.kd !=15)=true:=by simp;omega
     have h16:(n.kd !=16)=true:=by simp;omega
     have HST:=axj (show oQ st n=(jP n).map (·::st)from axm hb);have cL:=λW=>Nv n W
     clear hb;go_wp2_with fail
     refine(cL _).mono ?_;rintro e w3 ⟨a,b,ok,rfl,hok,hno,x3⟩;have x23:=x2.trans x3;have zU:=axj hok;have Xa:=axj hno;obtain⟨y4,v4⟩:=VB.xn w3 104 #[.int .i64 a,.int .i64 b];have x4:=x23.trans y4;clear hok hno;cases ok with
     |false=>
      have HF:=axj (show iR l=false from Am (um (k:=k+1) (by rw[HSC.out,HS.out];show oQ st n=none;rw[HST.out,Xa.out rfl];rfl)));have hv4:=hv.ex x4;obtain⟨r0,r1⟩:=hv4.d2;obtain⟨z0,z1⟩:=hv4.z2;obtain⟨W',hW',C0,C1,eF⟩:=fin _ hv4 (he.trans x4) HF.out;subst hW';go_wp2_with fail
      refine axu (v:=.tuple #[.agg #[.int .i64 0,.int .i64 0],.bool false]) (by simp[results,Tryz.results113,go_sem,C0,C1]) rfl ?_;rw[HF.out];exact⟨0,0,rfl,λe=>Bool.noConfusion e,eF⟩
     |true=>
      have HS2:=axj (show ny (l.take (k+1)) []=some ((a,b)::st) by rw[HSC.out,HS.out];show oQ st n=_;rw[HST.out,zU.out rfl];rfl);have hbd:=JQ (zU.out rfl);have HB2:=axj (show∀u∈(a,b)::st,(0<=u.1/\u.1<=12)/\(0<=u.2/\u.2<=12)from λu hu=>by
       rcases axI.1 hu with rfl|hu
       .exact hbd
       .exact HB.out u hu)
      have HRV:=axj (show((a,b)::st).reverse=st.reverse++[(a,b)] by simp);obtain⟨W4,zZ⟩:=xq (w3.alloc (.cells #[.int .i64 a,.int .i64 b] 104));rw[zZ]at y4 v4 x4;obtain⟨g0,g1⟩:=v4.d2;have z4:=x4.size;obtain⟨v5,w5,hrun,Rf,_,Be,ajp⟩:=Uu W4 (w.heap.size+1) _ _ (a,b) (AF.ex hst x4) (by omega) (by rw[ayc,HM.out];omega);rw[<-HRV.out]at Rf;have agi:=λq e=>(AF.lt hst q e).1
      have x5:=(he.trans x4).Og Be (λq e=>by have:=agi q e;omega);have hvl:=hv.lt;have hv5:VB w5 w.heap.size 104 #[.int .i64 0,.int .i64 0]:=(Be.block w.heap.size (by omega) (λe=>by have:=agi _ e.symm;omega)).trans (hv.ex x4);have z5:=Be.size;clear Be hbd hst HST HSC hv;go_wp2_with (at_builtin;refine wpList_append_run rfl _ _ _ rfl rfl rfl hrun ?_)
      go_roundw;case rel=>exact⟨k+1,(a,b)::st,by omega,by go_num,HS2,Rf,HB2,by rw[axR,HM.out];omega,ajp,hv5,x5,by omega⟩
      case measure=>simp[intOf];omega
   .obtain rfl:k=N:=by omega
    have HS0:=axj (show ny l []=some st by have h:=HS.out;rw[<-HN.out,axE]at h;exact h);have hne:st≠[]:=Ya (HS0.out) (λe=>by have:=HN.out;rw[e]at this;simp at this;omega);have hm1:1<=m:=by
     have:=HM.out;rcases st with _|⟨x,r⟩
     .exact absurd rfl hne
     .simp at this;omega
    obtain⟨A7,c7,e7,_,hrd,_⟩:=AF.ows hst peW (by rw[ayc,HM.out];omega);injection e7 with e7 e8 e9;subst e7;clear e8 e9;obtain⟨gS,oS,vs,x,rfl,hx,hc,rfl⟩:=hrd.at_ (j:=0) (by rw[ayc,HM.out];omega);have HX:=axj hx;have b0:wi.cell? ⟨gS,oS,none⟩=some (.int .i64 x.1):=by simpa using hc 0 _ rfl
    have b1:wi.cell? ⟨gS,oS+1,none⟩=some (.int .i64 x.2):=by simpa using hc 1 _ rfl
    obtain⟨dd,zz⟩:=hv.st2 (.int .i64 x.1) (.int .i64 x.2);obtain⟨r0,r1⟩:=hv.d2;obtain⟨z0,z1⟩:=hv.z2;obtain⟨C0,C1⟩:=dd.d2;have eF:=he.aK zz (axk _);have h0m:0<m:=hm1;have auY:(0:Int)<(m:Int):=by omega
    clear hc hx hrd hne hsn;go_wp2_with fail
    refine axu (v:=.tuple #[.agg #[.int .i64 x.1,.int .i64 x.2],.bool ((m:Int)==1)]) (by simp[results,Tryz.results113,go_sem,C0,C1]) rfl ?_;have hT:iR l=((m:Int)==1):=by rw[Ho HS0.out (by rw[HN.out];exact hNb),HM.out,ayB];simp;omega
    rw[hT];refine⟨x.1,x.2,rfl,λe=>?_,eF⟩;have e1:m=1:=by simp at e;omega
    obtain⟨y,hy⟩:∃y,st=[y]:=by
     have:=HM.out;rcases st with _|⟨y,_|⟨z,r⟩⟩
     .simp at this;omega
     .exact⟨y,rfl⟩
     .simp at this;omega
    have hxy:=HX.out;rw[hy]at hxy;have hxy:x=y:=by simpa using hxy.symm
    unfold Jl;rw[axl (by rw[HN.out];exact hNb),HS0.out,hy,hxy]
def nH(n:Nat)(l:List Int):List Int:=(List.range n).map λ(i:Nat)=>((l.count (i:Int):Nat):Int)
theorem FT(n:Nat)(l:List Int):(nH n l).length=n:=by simp[nH]
theorem aaV(n:Nat):nH n []=replicate n 0:=by apply azy<;>simp[nH]
theorem pE{n:Nat}{l:List Int}(h:i<n):(nH n l)[i]?=some ((l.count (i:Int):Nat):Int):=by simp[nH,h]
theorem wC(n:Nat)(l:List Int)(k:Nat):(nH n l).set k (((l.count (k:Int):Nat):Int)+1)=nH n (l++[(k:Int)]):=by
 apply ax_;intro i;rw[axK,FT];by_cases hi:i<n
 .rw[pE hi,pE hi];by_cases e:k=i
  .subst e;simp[hi,List.count_append]
  .have e':¬((k:Int)=(i:Int)):=by omega
   have e2:List.count (i:Int) [(k:Int)]=0:=by rw[List.count_singleton];simp[e']
   simp[e,List.count_append,e2]
 .rw[ax2 (by rw[FT];omega),ax2 (by rw[FT];omega)];split<;>simp_all
theorem Bo(l:List Int)(k:Int):l.count k<=l.length:=List.count_le_length
def gQ(es:List Ed):List Int:=es.flatMap (·.outs)
def insL(es:List Ed):List Int:=es.flatMap (·.ins)
theorem Ez{k:Nat}(h:es[k]?=some e):gQ (es.take (k+1))=gQ (es.take k)++e.outs:=by rw[gQ,axy,h];simp[gQ]
theorem IK{k:Nat}(h:es[k]?=some e):insL (es.take (k+1))=insL (es.take k)++e.ins:=by rw[insL,axy,h];simp[insL]
theorem Vl{k:Nat}(h:es[k]?=some e):(gQ (es.take k)).length+e.outs.length<=(gQ es).length:=by have:=congrArg (λl=>(gQ l).length) (ayw (k+1) es);have h2:=congrArg List.length (Ez h);simp only[gQ,List.flatMap_append,axv]at this h2⊢;omega
theorem Zx{k:Nat}(h:es[k]?=some e):(insL (es.take k)).length+e.ins.length<=(insL es).length:=by have:=congrArg (λl=>(insL l).length) (ayw (k+1) es);have h2:=congrArg List.length (IK h);simp only[insL,List.flatMap_append,axv]at this h2⊢;omega
theorem JP(h:e∈es)(hk:k∈e.outs):k∈gQ es:=List.mem_flatMap.2 ⟨e,h,hk⟩
theorem Nn(h:e∈es)(hk:k∈e.ins):k∈insL es:=List.mem_flatMap.2 ⟨e,h,hk⟩
def frL(x:Gr):List Int:=x.ins++gQ x.es
def toWL(x:Gr):List Int:=x.outs++insL x.es
def GX(e:Ed):Bool:=PI e.kd e.vl e.ins.length e.outs.length
def akG(x:Gr):Bool:=bL 0 100 x.kK&&decide (x.es.length<=60)&&decide (x.ins.length<=12)&&decide (x.outs.length<=12)
def afL(x:Gr):Bool:=(nP x.kK.toNat).all λw=>decide (w∈frL x)||decide (w∈toWL x)
def jI(x:Gr):Bool:=akG x&&x.ins.all (bL 0 (x.kK-1))&&x.outs.all (bL 0 (x.kK-1))&&x.es.all (λe=>GX e&&e.ins.all (bL 0 (x.kK-1))&&e.outs.all (bL 0 (x.kK-1)))&&afL x
theorem Z9(k:Int):(gw k).1<=2/\(gw k).2<=2:=by
 unfold gw;split
 .exact⟨by decide,by decide⟩
 split
 .exact⟨by decide,by decide⟩
 split
 .exact⟨by decide,by decide⟩
 split
 .exact⟨by decide,by decide⟩
 .exact⟨by decide,by decide⟩
theorem Uk(h:GX e=true):e.ins.length<=2/\e.outs.length<=2:=by simp only[GX,PI,axU,decide_eq_true_eq]at h;have:=Z9 e.kd;omega
theorem Ik:∀{es:List Ed},(∀e∈es,GX e=true)->(gQ es).length<=2*es.length
 |[],_=>by simp[gQ]
 |e::es,h=>by have:=Ik (es:=es) (λe he=>h e (by simp[he]));have:=Uk (h e (by simp));simp only[gQ,List.flatMap_cons,axv,axR]at*;omega
theorem NJ:∀{es:List Ed},(∀e∈es,GX e=true)->(insL es).length<=2*es.length
 |[],_=>by simp[insL]
 |e::es,h=>by have:=NJ (es:=es) (λe he=>h e (by simp[he]));have:=Uk (h e (by simp));simp only[insL,List.flatMap_cons,axv,axR]at*;omega
theorem Vt(h:k∈gQ es):∃e∈es,k∈e.outs:=List.mem_flatMap.1 h
theorem Zc(h:k∈insL es):∃e∈es,k∈e.ins:=List.mem_flatMap.1 h
theorem Zy{lo hi:Int}(h:bL lo hi k=true):lo<=k/\k<=hi:=by simpa[bL]using h
theorem KO{lo hi:Int}{l:List Int}(h:l.all (bL lo hi)=true)(hk:k∈l):lo<=k/\k<=hi:=Zy (axQ.1 h k hk)
theorem aoI{n:Int}(h:es.all (λe=>GX e&&e.ins.all (bL 0 (n-1))&&e.outs.all (bL 0 (n-1)))=true)(he:e∈es):GX e=true/\(∀k∈e.ins,0<=k/\k<=n-1)/\∀k∈e.outs,0<=k/\k<=n-1:=by have:=axQ.1 h e he;simp only[axU]at this;exact⟨this.1.1,λk hk=>KO this.1.2 hk,λk hk=>KO this.2 hk⟩
theorem abT(l:List Nd)(A:Option Addr)(c:Nat)(w:World)(h:bW EN w A l):
 Calls prog 81 #[.agg #[.slice A l.length c]] w λe w'=>∃a b,e=.returned (.tuple #[.agg #[.int .i64 a,.int .i64 b],.bool (iR l)])/\(iR l=true->Jl l=some (a,b))/\Ex w w':=by
 obtain⟨W0,hW0,x0,v0,s0⟩:=VB.an w 33 #[.slice A l.length c] rfl;obtain⟨x1,v1,W1,hW1⟩:=VB.al W0 104 #[.int .i64 0,.int .i64 0];rw[hW1]at x1 v1;rw[s0]at v1;have q0:=(v0.ex x1).c0;go_enter Tryz.func81,Tryz.ntmps81
 go_wp2_with fail
 refine(abX l A c _ (h.ex (x0.trans x1))).mono ?_;rintro e w2 ⟨a,b,rfl,hab,x2⟩;have HAB:=axj hab;have hv:=v1.ex x2;obtain⟨dd,zz⟩:=hv.st2 (.int .i64 a) (.int .i64 b);obtain⟨r0,r1⟩:=hv.d2;obtain⟨z0,z1⟩:=hv.z2;obtain⟨C0,C1⟩:=dd.d2;have eF:=((x0.trans x1).trans x2).aK zz (by omega);clear hab;go_wp2_with fail
 refine axu (v:=.tuple #[.agg #[.int .i64 a,.int .i64 b],.bool (iR l)]) (by simp[results,Tryz.results81,go_sem,C0,C1]) rfl ?_;exact⟨a,b,rfl,HAB.out,eF⟩
theorem VO(l:List Nd)(A:Option Addr)(c:Nat)(w:World)(h:bW EN w A l):
 Calls prog 48 #[.agg #[.slice A l.length c]] w λe w'=>e=.returned (.bool (iR l))/\Ex w w':=by
 obtain⟨x0,v0⟩:=VB.xn w 33 #[.slice A l.length c];have q0:=v0.c0;go_enter Tryz.func48,Tryz.ntmps48
 go_wp2_with fail
 refine(abT l A c _ (h.ex x0)).mono ?_;rintro e w2 ⟨a,b,rfl,_,x2⟩;go_wp2_with fail
 go_ret;exact⟨rfl,(x0.trans x2).alloc _⟩
theorem LF(k v:Int)(h:bL 3 14 k=true)(w:World):Calls prog 102 #[.agg #[.int .i64 k,.int .i64 v,.string {data:= #[]}]] w λe w'=>e=.returned (.bool (KY k v))/\Ex w w':=by
 have x0:=(aCQ w).alloc (.cells #[.int .i64 k,.int .i64 v,.string {data:= #[]}] 70);have h1:bL 1 14 k=true:=by simp[bL]at h⊢;omega
 have hk:=λW=>lH k 1 14 W
 rw[h1]at hk;have hv:=λW=>lH v 0 96 W
 obtain⟨R,hR⟩:=xq (KY k v);rw[hR];unfold KY at hR;by_cases h7:k=7∨k=13
 .rw[axl h7]at hR;rw[hR]at hv;clear h h1 hR;rcases h7 with rfl|rfl
  all_goals
   go_enter Tryz.func102,Tryz.ntmps102
   go_wp2_with fail
   refine(hk _).mono ?_;rintro e _ ⟨rfl,rfl⟩;go_wp2_with fail
   refine(hv _).mono ?_;rintro e _ ⟨rfl,rfl⟩;go_wp2;go_ret;exact⟨rfl,x0⟩
 .rw[axm h7]at hR;have n1:(k==1)=false:=by simp[bL]at h;simp;omega
  have n7:(k==7)=false:=by simp;omega
  have n13:(k==13)=false:=by simp;omega
  have HR:=axj hR;clear h h1 hR h7;go_enter Tryz.func102,Tryz.ntmps102
  go_wp2_with fail
  refine(hk _).mono ?_;rintro e _ ⟨rfl,rfl⟩;clear hk hv;go_wp2
  all_goals go_ret
  all_goals exact⟨aI (by rw[<-HR.out];first|rfl|simp),x0⟩
theorem XJ(n:Nd)(w:World):Calls prog 102 #[.agg #[.int .i64 n.kd,.int .i64 n.vl,.string n.nm]] w λe w'=>e=.returned (.bool (jP n).isSome)/\Ex w w':=by
 obtain⟨k,v,nm⟩:=n;dsimp only;have x0:=(aCQ w).alloc (.cells #[.int .i64 k,.int .i64 v,.string nm] 70);by_cases hnm:nm=⟨#[]⟩;case neg=>
  have HN:=axj (show(jP ⟨k,v,nm⟩).isSome=false by
   unfold jP JM;simp[hnm])
  have hb:(!nm.toList.isEmpty)=true:=by
   cases h:nm.toList with
   |nil=>exact absurd (zO h) hnm
   |cons a l=>rfl
  clear hnm;go_enter Tryz.func102,Tryz.ntmps102
  go_wp2_with fail
  go_ret;exact⟨aI HN.out.symm,x0⟩
 subst hnm;have hk:=λW=>lH k 1 14 W
 have hv:=λW=>lH v 0 12 W
 by_cases h1:k=1
 .subst h1;have HV:=axj (show(jP ⟨1,v,⟨#[]⟩⟩).isSome=bL 0 12 v by
   unfold jP JM;cases bL 0 12 v<;>simp[bL])
  rw[show bL 1 14 1=true from rfl]at hk;rw[HV.out];generalize bL 0 12 v=ok at*;go_enter Tryz.func102,Tryz.ntmps102
  go_wp2_with fail
  refine(hk _).mono ?_;rintro e _ ⟨rfl,rfl⟩;go_wp2_with fail
  refine(hv _).mono ?_;rintro e _ ⟨rfl,rfl⟩;go_wp2;go_ret;exact⟨rfl,x0⟩
 by_cases h2:k=2
 .subst h2;have HV:=axj (show(jP ⟨2,v,⟨#[]⟩⟩).isSome=(v==0) by
   unfold jP JM;by_cases h:v=0<;>simp[bL,h])
  rw[show bL 1 14 2=true from rfl]at hk;clear h1 hv;rw[HV.out];go_enter Tryz.func102,Tryz.ntmps102
  go_wp2_with fail
  refine(hk _).mono ?_;rintro e _ ⟨rfl,rfl⟩;clear hk;go_wp2
  all_goals go_ret
  all_goals exact⟨aI (by first|rfl|simp),x0⟩
 cases h3:bL 3 14 k with
 |true=>
  have HV:=axj (show(jP ⟨k,v,⟨#[]⟩⟩).isSome=KY k v by
   unfold jP JM;cases KY k v<;>simp[h1,h2,h3])
  rw[HV.out];exact LF k v h3 w
 |false=>
  have HN:=axj (show(jP ⟨k,v,⟨#[]⟩⟩).isSome=false by
   unfold jP JM;simp[h1,h2,h3])
  have hin:bL 1 14 k=false:=by simp[bL]at h3⊢;omega
  rw[hin]at hk;clear h1 h2 h3 hin;go_enter Tryz.func102,Tryz.ntmps102
  go_wp2_with fail
  refine(hk _).mono ?_;rintro e _ ⟨rfl,rfl⟩;go_wp2;go_ret;exact⟨aI HN.out.symm,x0⟩
theorem H8(n:Nd)(w:World)(h:(jP n).isSome=true∨n.kd=17):Calls prog 103 #[.agg #[.int .i64 n.kd,.int .i64 n.vl,.string n.nm]] w λe w'=>∃a b,e=.returned (.tuple #[.int .i64 a,.int .i64 b])/\(n.kd≠17->jP n=some (a,b))/\Ex w w':=by
 obtain⟨k,v,nm⟩:=n;dsimp only at h⊢;have x0:=(aCQ w).alloc (.cells #[.int .i64 k,.int .i64 v,.string nm] 70);by_cases NZ:k=17
 .subst NZ;have hk:∀W,Calls prog 135 #[.int .i64 17] W λe w'=>e=.returned (.tuple #[.int .i64 1,.int .i64 1])/\Ex W w':=λW=>by
   go_enter Tryz.func135,Tryz.ntmps135
   go_wp2
   go_ret2
   exact⟨rfl,aCQ W⟩
  clear h;go_enter Tryz.func103,Tryz.ntmps103
  go_wp2_with fail
  refine(hk _).mono ?_;rintro e w2 ⟨rfl,x2⟩;go_wp2
  go_ret2
  exact⟨1,1,rfl,λe=>absurd rfl e,x0.trans x2⟩
 have hs:(jP ⟨k,v,nm⟩).isSome=true:=h.resolve_right NZ;by_cases h1:k=1
 .subst h1;have HV:=axj (show jP ⟨1,v,nm⟩=some (v,v) by
   unfold jP at hs⊢;split at hs
   .rename_i hc;rw[axl hc]
   .simp[bL]at hs)
  clear h hs NZ;go_enter Tryz.func103,Tryz.ntmps103
  go_wp2_with fail
  go_quiet (fail)
  go_wp2_with fail
  go_ret2
  exact⟨v,v,rfl,λ_=>HV.out,x0.trans ((aCQ _).drewN _)⟩
 by_cases h2:k=2
 .subst h2;have HV:=axj (show jP ⟨2,v,nm⟩=some (2,2) by
   unfold jP at hs⊢;split at hs
   .rename_i hc;simp at hc
   .rename_i hc;rw[axm hc];split at hs
    .rename_i hc2;rw[axl hc2]
    .simp[bL]at hs)
  have hk:∀W,Calls prog 135 #[.int .i64 2] W λe w'=>e=.returned (.tuple #[.int .i64 2,.int .i64 2])/\Ex W w':=λW=>by
   go_enter Tryz.func135,Tryz.ntmps135
   go_wp2
   go_ret2
   exact⟨rfl,aCQ W⟩
  clear h hs NZ h1;go_enter Tryz.func103,Tryz.ntmps103
  go_wp2_with fail
  refine(hk _).mono ?_;rintro e w2 ⟨rfl,x2⟩;go_wp2
  go_ret2
  exact⟨2,2,rfl,λ_=>HV.out,x0.trans x2⟩
 have h3:bL 3 14 k=true:=by
  unfold jP at hs;split at hs
  .rename_i hc;exact absurd hc.2.1 h1
  .split at hs
   .rename_i hc;exact absurd hc.2.1 h2
   .split at hs
    .rename_i hc;exact hc.2.1
    .cases hs
 have HV:=axj (show jP ⟨k,v,nm⟩=some (gw k) by
  unfold jP at hs⊢;split at hs
  .rename_i hc;exact absurd hc.2.1 h1
  .rename_i c1;rw[axm c1];split at hs
   .rename_i hc;exact absurd hc.2.1 h2
   .rename_i c2;rw[axm c2];split at hs
    .rename_i hc;rw[axl hc]
    .cases hs)
 have hk:=λW=>DR k h3 W
 have n1:(k==1)=false:=by simpa using h1
 obtain⟨⟨a,b⟩,hab⟩:∃ab,gw k=ab:=⟨_,rfl⟩;rw[hab]at HV;simp only[hab]at hk;clear h hs NZ h1 h2 h3 hab;go_enter Tryz.func103,Tryz.ntmps103
 go_wp2_with fail
 refine(hk _).mono ?_;rintro e w2 ⟨rfl,x2⟩;go_wp2
 go_ret2
 exact⟨a,b,rfl,λ_=>HV.out,x0.trans x2⟩
theorem Zo(nm:ByteArray)(w:World):Calls prog 104 #[.slice none 0 0,.string nm] w λe w'=>e=.returned (.int .i64 (-1))/\Ex w w':=by
 go_enter Tryz.func104,Tryz.ntmps104
 go_wp2
 go_loop [9] (λi=>i=.int .i64 0) (λ_=>0)
 case atStart=>rfl
 case round=>subst hrel;go_wp2;go_ret;exact⟨rfl,aCQ w⟩
theorem AL.FD{w':World}{B:Nat}{xs:List Int}{o:Option Nat}(h:AL w B v xs)(he:qh o w w')(hne:∀g,o=some g->v.ownBlock≠some g):AL w' B v xs:=by
 obtain⟨h1,h2⟩:=h;refine⟨h1,?_⟩;rcases h2 with h2|⟨g,cap,cur,hv,hB,hh,r⟩
 .exact .inl h2
 .exact .inr ⟨g,cap,cur,hv,hB,(he.block g (aF hh) (λe=>hne g e.symm (by rw[hv];rfl))).trans hh,r⟩
structure TI (w:World) (t:Nat) (u v x:Value) (F I O:List Int):Prop where
 cell:VB w t 66 #[u,v,x]
 f:AL w (t+1) u F
 i:AL w (t+1) v I
 o:AL w (t+1) x O
 fi:∀g,u.ownBlock=some g->v.ownBlock≠some g
 fo:∀g,u.ownBlock=some g->x.ownBlock≠some g
 io:∀g,v.ownBlock=some g->x.ownBlock≠some g
theorem TI.ex{w':World}(h:TI w t u v x F I O)(he:Ex w w'):TI w' t u v x F I O:=
 ⟨h.cell.ex he,h.f.ex he,h.i.ex he,h.o.ex he,h.fi,h.fo,h.io⟩
theorem TI.pf(h:TI w t u v x F I O)(n:Int)(hl:F.length<=1000):
 ∃A c w1,(Builtin.append_ #[55,55] 55 #[u,.slice (some ⟨w.heap.size,0,none⟩) 1 1]).run prog (w.alloc (aN [n]))=.ok (.slice A (F.length+1) c) w1/\w1.cell? ⟨t,0,none⟩=some u/\w1.frozen? ⟨t,0,none⟩=false/\
  TI (w1.setCell ⟨t,0,none⟩ (.slice A (F.length+1) c)) t (.slice A (F.length+1) c) v x (F++[n]) I O/\jE t w.heap.size w (w1.setCell ⟨t,0,none⟩ (.slice A (F.length+1) c)):=by
 have ht:=h.cell.lt;have ha:=(aCQ w).alloc (aN [n]);have hs:(w.alloc (aN [n])).heap.size=w.heap.size+1:=by simp
 obtain⟨u1,w1,hrun,xN,hE,nL⟩:=bK 55 55 Tryz.underlying55 (w.alloc (aN [n])) (t+1) u F (h.f.ex ha) (by omega) (some ⟨w.heap.size,0,none⟩) 1 [n] ((dW.new w [n]).rd (by simp)) (by simp;omega);have E0:qh u.ownBlock w w1:=(qh.aP ha).trans hE;have hml:=h.f.lt;have v1:VB w1 t 66 #[u,v,x]:=(E0.block t ht (λe=>by have:=(hml t e.symm).1;omega)).trans h.cell;obtain⟨A,c,e1,_⟩:=xN.form (by simp;omega);rw[axv,ayt]at e1;subst e1;obtain⟨u1,hu1⟩:∃q:Value,.slice A (F.length+1) c=q:=⟨_,rfl⟩;refine⟨A,c,w1,hrun,v1.c0,v1.frozen 0,?_,?_⟩
 all_goals
  rw[hu1]at xN nL⊢;have E1:aM t w1 (w1.setCell ⟨t,0,none⟩ u1):=(aM.refl _ _).setCell (p:=⟨t,0,none⟩) rfl _
 .exact⟨v1.bC 0 u1,xN.e1 E1 (ayf t),(h.i.FD E0 h.fi).e1 E1 (ayf t),(h.o.FD E0 h.fo).e1 E1 (ayf t),λg e e2=>by rcases nL with h1|h1;exact h.fi g (h1▸e) e2;rw[h1]at e;injection e with e;have:=(h.i.lt g e2).2;omega,λg e e2=>by rcases nL with h1|h1;exact h.fo g (h1▸e) e2;rw[h1]at e;injection e with e;have:=(h.o.lt g e2).2;omega,h.io⟩
 .refine⟨E1.os.trans E0.os,E1.tape.trans E0.tape,E1.output.trans E0.output,axA E0.size E1.size,λk hk hd=>?_⟩;rw[E1.block k (axD hk E0.size) (λe=>by injection e with e;omega)];exact E0.block k hk (λe=>by have:=hml k e.symm;omega)
theorem TI.pi(h:TI w t u v x F I O)(n:Int)(hl:I.length<=1000):
 ∃A c w1,(Builtin.append_ #[55,55] 55 #[v,.slice (some ⟨w.heap.size,0,none⟩) 1 1]).run prog (w.alloc (aN [n]))=.ok (.slice A (I.length+1) c) w1/\w1.cell? ⟨t,1,none⟩=some v/\w1.frozen? ⟨t,1,none⟩=false/\
  TI (w1.setCell ⟨t,1,none⟩ (.slice A (I.length+1) c)) t u (.slice A (I.length+1) c) x F (I++[n]) O/\jE t w.heap.size w (w1.setCell ⟨t,1,none⟩ (.slice A (I.length+1) c)):=by
 have ht:=h.cell.lt;have ha:=(aCQ w).alloc (aN [n]);have hs:(w.alloc (aN [n])).heap.size=w.heap.size+1:=by simp
 obtain⟨u1,w1,hrun,xN,hE,nL⟩:=bK 55 55 Tryz.underlying55 (w.alloc (aN [n])) (t+1) v I (h.i.ex ha) (by omega) (some ⟨w.heap.size,0,none⟩) 1 [n] ((dW.new w [n]).rd (by simp)) (by simp;omega);have E0:qh v.ownBlock w w1:=(qh.aP ha).trans hE;have hml:=h.i.lt;have v1:VB w1 t 66 #[u,v,x]:=(E0.block t ht (λe=>by have:=(hml t e.symm).1;omega)).trans h.cell;obtain⟨A,c,e1,_⟩:=xN.form (by simp;omega);rw[axv,ayt]at e1;subst e1;obtain⟨u1,hu1⟩:∃q:Value,.slice A (I.length+1) c=q:=⟨_,rfl⟩;refine⟨A,c,w1,hrun,v1.c1,v1.frozen 1,?_,?_⟩
 all_goals
  rw[hu1]at xN nL⊢;have E1:aM t w1 (w1.setCell ⟨t,1,none⟩ u1):=(aM.refl _ _).setCell (p:=⟨t,1,none⟩) rfl _
 .exact⟨v1.bC 1 u1,(h.f.FD E0 (λg e e2=>h.fi g e2 e)).e1 E1 (ayf t),xN.e1 E1 (ayf t),(h.o.FD E0 h.io).e1 E1 (ayf t),λg e e2=>by rcases nL with h1|h1;exact h.fi g e (h1▸e2);rw[h1]at e2;injection e2 with e2;have:=(h.f.lt g e).2;omega,h.fo,λg e e2=>by rcases nL with h1|h1;exact h.io g (h1▸e) e2;rw[h1]at e;injection e with e;have:=(h.o.lt g e2).2;omega⟩
 .refine⟨E1.os.trans E0.os,E1.tape.trans E0.tape,E1.output.trans E0.output,axA E0.size E1.size,λk hk hd=>?_⟩;rw[E1.block k (axD hk E0.size) (λe=>by injection e with e;omega)];exact E0.block k hk (λe=>by have:=hml k e.symm;omega)
theorem TI.po(h:TI w t u v x F I O)(n:Int)(hl:O.length<=1000):
 ∃A c w1,(Builtin.append_ #[55,55] 55 #[x,.slice (some ⟨w.heap.size,0,none⟩) 1 1]).run prog (w.alloc (aN [n]))=.ok (.slice A (O.length+1) c) w1/\w1.cell? ⟨t,2,none⟩=some x/\w1.frozen? ⟨t,2,none⟩=false/\
  TI (w1.setCell ⟨t,2,none⟩ (.slice A (O.length+1) c)) t u v (.slice A (O.length+1) c) F I (O++[n])/\jE t w.heap.size w (w1.setCell ⟨t,2,none⟩ (.slice A (O.length+1) c)):=by
 have ht:=h.cell.lt;have ha:=(aCQ w).alloc (aN [n]);have hs:(w.alloc (aN [n])).heap.size=w.heap.size+1:=by simp
 obtain⟨u1,w1,hrun,xN,hE,nL⟩:=bK 55 55 Tryz.underlying55 (w.alloc (aN [n])) (t+1) x O (h.o.ex ha) (by omega) (some ⟨w.heap.size,0,none⟩) 1 [n] ((dW.new w [n]).rd (by simp)) (by simp;omega);have E0:qh x.ownBlock w w1:=(qh.aP ha).trans hE;have hml:=h.o.lt;have v1:VB w1 t 66 #[u,v,x]:=(E0.block t ht (λe=>by have:=(hml t e.symm).1;omega)).trans h.cell;obtain⟨A,c,e1,_⟩:=xN.form (by simp;omega);rw[axv,ayt]at e1;subst e1;obtain⟨u1,hu1⟩:∃q:Value,.slice A (O.length+1) c=q:=⟨_,rfl⟩;refine⟨A,c,w1,hrun,v1.c2,v1.frozen 2,?_,?_⟩
 all_goals
  rw[hu1]at xN nL⊢;have E1:aM t w1 (w1.setCell ⟨t,2,none⟩ u1):=(aM.refl _ _).setCell (p:=⟨t,2,none⟩) rfl _
 .exact⟨v1.bC 2 u1,(h.f.FD E0 (λg e e2=>h.fo g e2 e)).e1 E1 (ayf t),(h.i.FD E0 (λg e e2=>h.io g e2 e)).e1 E1 (ayf t),xN.e1 E1 (ayf t),h.fi,λg e e2=>by rcases nL with h1|h1;exact h.fo g e (h1▸e2);rw[h1]at e2;injection e2 with e2;have:=(h.f.lt g e).2;omega,λg e e2=>by rcases nL with h1|h1;exact h.io g e (h1▸e2);rw[h1]at e2;injection e2 with e2;have:=(h.i.lt g e).2;omega⟩
 .refine⟨E1.os.trans E0.os,E1.tape.trans E0.tape,E1.output.trans E0.output,axA E0.size E1.size,λk hk hd=>?_⟩;rw[E1.block k (axD hk E0.size) (λe=>by injection e with e;omega)];exact E0.block k hk (λe=>by have:=hml k e.symm;omega)
theorem Ro(n:Nat)(E:Option Addr)(ec:Nat)(es:List Ed)(I:Option Addr)(ic:Nat)(ins:List Int)(O:Option Addr)(oc:Nat)(outs:List Int)(w:World)(hE:bW EE w E es)(hI:Rd w I ins)(hO:Rd w O outs)(hn:n<=100)
 (h1:∀k∈ins++gQ es,0<=k/\k<n) (h2:∀k∈outs++insL es,0<=k/\k<n) (b1:(ins++gQ es).length<=1000) (b2:(outs++insL es).length<=1000):
 Calls prog 212 #[.agg #[.int .i64 n,.slice E es.length ec,.slice I ins.length ic,.slice O outs.length oc]] w λe w'=>
  ∃f t,e=.returned (.tuple #[.slice (some ⟨f,0,none⟩) n n,.slice (some ⟨t,0,none⟩) n n])/\w.heap.size<=f/\f<t/\Own w' f (nH n (ins++gQ es))/\Own w' t (nH n (outs++insL es))/\Ex w w':=by
 have hmk:=λW=>fe n (by omega) W
 have hEl:=hE.1;have J3:=hI.len;have hOl:=hO.len;have H1:=axj h1;have H2:=axj h2;have B1:=axj b1;have B2:=axj b2;clear h1 h2 b1 b2;obtain⟨y0,d0⟩:=VB.xn w 130 #[.int .i64 n,.slice E es.length ec,.slice I ins.length ic,.slice O outs.length oc];have S0:=axj (show(w.alloc (.cells #[.int .i64 n,.slice E es.length ec,.slice I ins.length ic,.slice O outs.length oc] 130)).heap.size=w.heap.size+1 by simp);go_enter Tryz.func212,Tryz.ntmps212
 go_wp2_with fail
 generalize w.alloc (.cells #[.int .i64 n,.slice E es.length ec,.slice I ins.length ic,.slice O outs.length oc] 130)=W0 at*;have y1:=(aCQ W0).alloc (aN (replicate n 0));have o1:=Own.new W0 (replicate n 0);rw[S0.out]at o1;have S1:=axj (show(W0.alloc (aN (replicate n 0))).heap.size=w.heap.size+1+1 by simp;exact S0.out);generalize W0.alloc (aN (replicate n 0))=W1 at*;have y2:=(aCQ W1).alloc (aN (replicate n 0));have o2:=Own.new W1 (replicate n 0);rw[S1.out]at o2;generalize W1.alloc (aN (replicate n 0))=W2 at*;have o1:=o1.ex y2;have d0:=(d0.ex y1).ex y2;have xx:=(y0.trans y1).trans y2;clear y0 y1 y2 S0 S1;rw[<-aaV n]at o1 o2;go_loopw [25] (λi wr=>∃k:Nat,k<=ins.length/\i=.int .i64 k/\Own wr (w.heap.size+1) (nH n (ins.take k))/\Own wr (w.heap.size+1+1) (nH n [])/\VB wr w.heap.size 130 #[.int .i64 n,.slice E es.length ec,.slice I ins.length ic,.slice O outs.length oc]/\Ex w wr) (λi _=>ins.length-(intOf i).toNat)
 case atStart=>exact⟨0,axq _,rfl,o1,o2,d0,xx⟩
 case round=>
  obtain⟨k,hk,rfl,hf,ht,hd,he⟩:=hrel;by_cases hlt:k<ins.length
  .obtain⟨g,off,q,rfl,hq,hg,hc⟩:=(hI.ex he).at_ hlt;have ZG:=H1.out q (ayW _ (axo hq));obtain⟨qn,rfl⟩:=ayx ZG.1;have hqn:qn<n:=by have:=ZG.2;omega
   have c1:=hf.cell (pE (l:=ins.take k) hqn);have f1:=hf.frozen qn;have hlen:(ins.take k).count (qn:Int)<=1000:=axA (Bo _ _) (by rw[axx];have:=B1.out;rw[axv]at this;omega);have hf2:=hf.bC qn (((ins.take k).count (qn:Int):Nat)+1);rw[wC,show ins.take k++[(qn:Int)]=ins.take (k+1) by rw[axy,hq];rfl]at hf2;have E1:aM (w.heap.size+1) wr (wr.setCell ⟨w.heap.size+1,qn,none⟩ (.int .i64 (((ins.take k).count (qn:Int):Nat)+1))):=(aM.refl _ _).setCell rfl _;have ht2:=ht.aK E1 (by omega);have hd2:=hd.aK E1 (by omega);have he2:=he.aK E1 (by omega);clear hq ht hd he;generalize hcc:List.count (qn:Int) (ins.take k)=cc at*;clear hcc;go_wp2_with fail
   go_roundw;case rel=>exact⟨k+1,by omega,by go_num,hf2,ht2,hd2,he2⟩
   case measure=>simp[intOf];omega
  .obtain rfl:k=ins.length:=by omega
   rw[axE]at hf;have q0:=hd.c3;go_wp2_with fail
   clear q0;go_loopw [39] (λi wr=>∃k:Nat,k<=outs.length/\i=.int .i64 k/\Own wr (w.heap.size+1) (nH n ins)/\Own wr (w.heap.size+1+1) (nH n (outs.take k))/\VB wr w.heap.size 130 #[.int .i64 n,.slice E es.length ec,.slice I ins.length ic,.slice O outs.length oc]/\Ex w wr) (λi _=>outs.length-(intOf i).toNat)
   case atStart=>exact⟨0,axq _,rfl,hf,ht,hd,he⟩
   case round=>
    clear hf ht hd he;obtain⟨k,hk,rfl,hf,ht,hd,he⟩:=hrel;by_cases hlt:k<outs.length
    .obtain⟨g,off,q,rfl,hq,hg,hc⟩:=(hO.ex he).at_ hlt;have ZG:=H2.out q (ayW _ (axo hq));obtain⟨qn,rfl⟩:=ayx ZG.1;have hqn:qn<n:=by have:=ZG.2;omega
     have c1:=ht.cell (pE (l:=outs.take k) hqn);have f1:=ht.frozen qn;have hlen:(outs.take k).count (qn:Int)<=1000:=axA (Bo _ _) (by rw[axx];have:=B2.out;rw[axv]at this;omega);have ht2:=ht.bC qn (((outs.take k).count (qn:Int):Nat)+1);rw[wC,show outs.take k++[(qn:Int)]=outs.take (k+1) by rw[axy,hq];rfl]at ht2;have E1:aM (w.heap.size+1+1) wr (wr.setCell ⟨w.heap.size+1+1,qn,none⟩ (.int .i64 (((outs.take k).count (qn:Int):Nat)+1))):=(aM.refl _ _).setCell rfl _;have hf2:=hf.aK E1 (by omega);have hd2:=hd.aK E1 (by omega);have he2:=he.aK E1 (by omega);clear hq hf hd he;generalize hcc:List.count (qn:Int) (outs.take k)=cc at*;clear hcc;go_wp2_with fail
     go_roundw;case rel=>exact⟨k+1,by omega,by go_num,hf2,ht2,hd2,he2⟩
     case measure=>simp[intOf];omega
    .obtain rfl:k=outs.length:=by omega
     rw[axE]at ht;have q0:=hd.c1;have e1:gQ ([]:List Ed)=[]:=rfl;have e2:insL ([]:List Ed)=[]:=rfl;rw[<-ax8 ins,<-e1]at hf;rw[<-ax8 outs,<-e2]at ht;clear e1 e2;go_wp2_with fail
     clear q0;go_loopw [53] (λi wr=>∃k:Nat,k<=es.length/\i=.int .i64 k/\Own wr (w.heap.size+1) (nH n (ins++gQ (es.take k)))/\Own wr (w.heap.size+1+1) (nH n (outs++insL (es.take k)))/\Ex w wr) (λi _=>es.length-(intOf i).toNat)
     case atStart=>exact⟨0,axq _,rfl,hf,ht,he⟩
     case round=>
      clear hf ht hd he;obtain⟨k,hk,rfl,hf,ht,he⟩:=hrel;by_cases hlt:k<es.length
      .obtain⟨g,off,x,P,pc,Q,qc,rfl,hx,c0,c1,c2,c3,hP,hQ⟩:=hE.edge hlt;replace c0:=af he c0;replace c1:=af he c1;replace c2:=af he c2;replace c3:=af he c3;obtain⟨y3,v3⟩:=VB.xn wr 156 #[.int .i64 x.kd,.int .i64 x.vl,.slice P x.ins.length pc,.slice Q x.outs.length qc];have hPl:=hP.len;have hQl:=hQ.len;have hs1:=hf.lt;have hs2:=ht.lt;have Hx:=axj hx;go_wp2_with fail
       have hf:=hf.ex y3;have ht:=ht.ex y3;have he:=he.trans y3;have hz3:=y3.size;clear c0 c1 c2 c3 hx y3;generalize wr.alloc (.cells #[.int .i64 x.kd,.int .i64 x.vl,.slice P x.ins.length pc,.slice Q x.outs.length qc] 156)=W3 at*;obtain⟨b,hbe⟩:=xq wr.heap.size;rw[hbe]at v3 hz3 hs1 hs2⊢;clear hbe;rw[<-ax8 (ins++gQ (es.take k))]at hf;go_loopw [60] (λi wi=>∃j:Nat,j<=x.outs.length/\i=.int .i64 j/\Own wi (w.heap.size+1) (nH n (ins++gQ (es.take k)++x.outs.take j))/\Own wi (w.heap.size+1+1) (nH n (outs++insL (es.take k)))/\VB wi b 156 #[.int .i64 x.kd,.int .i64 x.vl,.slice P x.ins.length pc,.slice Q x.outs.length qc]/\Ex w wi) (λi _=>x.outs.length-(intOf i).toNat)
       case atStart=>exact⟨0,axq _,rfl,hf,ht,v3,he⟩
       case round=>
        clear hf ht he v3;obtain⟨j,hj,rfl,hf,ht,v3,he⟩:=hrel;by_cases hjl:j<x.outs.length
        .obtain⟨g',off',q,rfl,hq,hg',hc'⟩:=(hQ.ex he).at_ hjl;have ZG:=H1.out q (azM _ (JP (axo Hx.out) (axo hq)));obtain⟨qn,rfl⟩:=ayx ZG.1;have hqn:qn<n:=by have:=ZG.2;omega
         have c1:=hf.cell (pE (l:=ins++gQ (es.take k)++x.outs.take j) hqn);have f1:=hf.frozen qn;have hlen:(ins++gQ (es.take k)++x.outs.take j).count (qn:Int)<=1000:=axA (Bo _ _) (by have:=Vl Hx.out;have:=B1.out;simp only[axv,axx]at*;omega);have hf2:=hf.bC qn (((ins++gQ (es.take k)++x.outs.take j).count (qn:Int):Nat)+1);rw[wC,ayg _ _ [(qn:Int)],show x.outs.take j++[(qn:Int)]=x.outs.take (j+1) by rw[axy,hq];rfl]at hf2;have E1:aM (w.heap.size+1) wr (wr.setCell ⟨w.heap.size+1,qn,none⟩ (.int .i64 (((ins++gQ (es.take k)++x.outs.take j).count (qn:Int):Nat)+1))):=(aM.refl _ _).setCell rfl _;have ht2:=ht.aK E1 (by omega);have v4:=v3.aK E1 (by omega);have he2:=he.aK E1 (by omega);clear hq ht v3 he;generalize hcc:List.count (qn:Int) (ins++gQ (es.take k)++x.outs.take j)=cc at*;clear hcc;go_wp2_with fail
         go_roundw;case rel=>exact⟨j+1,by omega,by go_num,hf2,ht2,v4,he2⟩
         case measure=>simp[intOf];omega
        .obtain rfl:j=x.outs.length:=by omega
         rw[axE]at hf;rw[<-ax8 (outs++insL (es.take k))]at ht;have q2:=v3.c2;go_wp2_with fail
         clear q2;go_loopw [74] (λi wi=>∃j:Nat,j<=x.ins.length/\i=.int .i64 j/\Own wi (w.heap.size+1) (nH n (ins++gQ (es.take k)++x.outs))/\Own wi (w.heap.size+1+1) (nH n (outs++insL (es.take k)++x.ins.take j))/\VB wi b 156 #[.int .i64 x.kd,.int .i64 x.vl,.slice P x.ins.length pc,.slice Q x.outs.length qc]/\Ex w wi) (λi _=>x.ins.length-(intOf i).toNat)
         case atStart=>exact⟨0,axq _,rfl,hf,ht,v3,he⟩
         case round=>
          clear hf ht he v3;obtain⟨j,hj,rfl,hf,ht,v3,he⟩:=hrel;by_cases hjl:j<x.ins.length
          .obtain⟨g',off',q,rfl,hq,hg',hc'⟩:=(hP.ex he).at_ hjl;have ZG:=H2.out q (azM _ (Nn (axo Hx.out) (axo hq)));obtain⟨qn,rfl⟩:=ayx ZG.1;have hqn:qn<n:=by have:=ZG.2;omega
           have c1:=ht.cell (pE (l:=outs++insL (es.take k)++x.ins.take j) hqn);have f1:=ht.frozen qn;have hlen:(outs++insL (es.take k)++x.ins.take j).count (qn:Int)<=1000:=axA (Bo _ _) (by have:=Zx Hx.out;have:=B2.out;simp only[axv,axx]at*;omega);have hf2:=ht.bC qn (((outs++insL (es.take k)++x.ins.take j).count (qn:Int):Nat)+1);rw[wC,ayg _ _ [(qn:Int)],show x.ins.take j++[(qn:Int)]=x.ins.take (j+1) by rw[axy,hq];rfl]at hf2;have E1:aM (w.heap.size+1+1) wr (wr.setCell ⟨w.heap.size+1+1,qn,none⟩ (.int .i64 (((outs++insL (es.take k)++x.ins.take j).count (qn:Int):Nat)+1))):=(aM.refl _ _).setCell rfl _;have ht2:=hf.aK E1 (by omega);have v4:=v3.aK E1 (by omega);have he2:=he.aK E1 (by omega);clear hq hf v3 he;generalize hcc:List.count (qn:Int) (outs++insL (es.take k)++x.ins.take j)=cc at*;clear hcc;go_wp2_with fail
           go_roundw;case rel=>exact⟨j+1,by omega,by go_num,ht2,hf2,v4,he2⟩
           case measure=>simp[intOf];omega
          .obtain rfl:j=x.ins.length:=by omega
           rw[axE]at ht;rw[ayg,<-Ez Hx.out]at hf;rw[ayg,<-IK Hx.out]at ht;go_wp2_with fail
           go_roundw;case rel=>exact⟨k+1,by omega,by go_num,hf,ht,he⟩
           case measure=>simp[intOf];omega
      .obtain rfl:k=es.length:=by omega
       rw[axE]at hf ht;go_wp2_with fail
       go_ret2
       exact⟨_,_,rfl,by omega,by omega,hf,ht,he⟩
theorem ZT(kd vl:Int)(P:Option Addr)(pc:Nat)(ins:List Int)(Q:Option Addr)(qc:Nat)(outs:List Int)(n:Int)(w:World)(hP:Rd w P ins)(hQ:Rd w Q outs)(h0:0<=n)(h1:n<=100):
 Calls prog 211 #[.agg #[.int .i64 kd,.int .i64 vl,.slice P ins.length pc,.slice Q outs.length qc],.int .i64 n] w λe w'=>e=.returned (.bool (PI kd vl ins.length outs.length&&ins.all (bL 0 (n-1))&&outs.all (bL 0 (n-1))))/\Ex w w':=by
 have x0:=(aCQ w).alloc (.cells #[.int .i64 kd,.int .i64 vl,.slice P ins.length pc,.slice Q outs.length qc] 156);obtain⟨R,hR⟩:=xq ((PI kd vl ins.length outs.length&&ins.all (bL 0 (n-1))&&outs.all (bL 0 (n-1))));rw[hR];unfold PI at hR;have hg:=λW=>lH kd 3 14 W
 cases h1:bL 3 14 kd with
 |false=>
  rw[h1]at hR hg;have HR:=axj hR;clear hR h1;go_enter Tryz.func211,Tryz.ntmps211
  go_wp2_with (go_at_call 79;refine(hg _).mono ?_;rintro e w' ⟨rfl,rfl⟩)
  all_goals go_ret
  all_goals exact⟨aI (by rw[<-HR.out];rfl),x0⟩
 |true=>
  rw[h1,ayr]at hR;rw[h1]at hg;have hk:=λW=>DR kd h1 W
  have hl:=λW=>LF kd vl h1 W
  have hi:=λW (x:Ex w W)=>yY P pc ins 0 (n-1) W (hP.ex x)
  have ho:=λW (x:Ex w W)=>yY Q qc outs 0 (n-1) W (hQ.ex x)
  have hPl:=hP.len;have hQl:=hQ.len;clear h1;cases h2:KY kd vl with
  |false=>
   rw[h2]at hR hl;have HR:=axj hR;clear hR h2;go_enter Tryz.func211,Tryz.ntmps211
   go_wp2_with (first|(go_at_call 79;refine(hg _).mono ?_;rintro e w' ⟨rfl,rfl⟩)|fail)
   refine(hl _).mono ?_;rintro e w2 ⟨rfl,x2⟩;go_wp2;go_ret;exact⟨aI (by rw[<-HR.out];rfl),x0.trans x2⟩
  |true=>
   rw[h2,ayr]at hR;rw[h2]at hl;clear h2;have y0:=VB.new w 156 #[.int .i64 kd,.int .i64 vl,.slice P ins.length pc,.slice Q outs.length qc];go_enter Tryz.func211,Tryz.ntmps211
   go_wp2_with (first|(go_at_call 79;refine(hg _).mono ?_;rintro e w' ⟨rfl,rfl⟩)|fail)
   refine(hl _).mono ?_;rintro e w2 ⟨rfl,x2⟩;replace x0:=x0.trans x2;replace y0:=y0.ex x2;have c0:=y0.c0;have c2:=y0.c2;have c3:=y0.c3;clear hl x2;go_wp2_with fail
   refine(hk _).mono ?_;rintro e w3 ⟨rfl,x3⟩;replace x0:=x0.trans x3;replace y0:=y0.ex x3;have c2:=y0.c2;have c3:=y0.c3;clear c0 hk x3;by_cases h3:(gw kd).1=ins.length
   .rw[decide_eq_true h3,ayr]at hR;by_cases h4:(gw kd).2=outs.length
    .rw[decide_eq_true h4,ayr]at hR;cases h5:ins.all (bL 0 (n-1))with
     |false=>
      rw[h5]at hR hi;have HR:=axj hR;rw[h3,h4];clear hR h3 h4 h5;go_wp2_with fail
      refine(hi _ x0).mono ?_;rintro e _ ⟨rfl,rfl⟩;go_wp2;go_ret;exact⟨aI (by rw[<-HR.out];rfl),x0⟩
     |true=>
      rw[h5,ayr]at hR;rw[h5]at hi;have HR:=axj hR;rw[h3,h4];clear hR h3 h4 h5;go_wp2_with fail
      refine(hi _ x0).mono ?_;rintro e _ ⟨rfl,rfl⟩;go_wp2_with fail
      refine(ho _ x0).mono ?_;rintro e _ ⟨rfl,rfl⟩;go_wp2;go_ret;exact⟨aI (by rw[<-HR.out]),x0⟩
    .rw[decide_eq_false h4]at hR;have HR:=axj hR;rw[h3];clear hR h3;have h4':((outs.length:Int)==(gw kd).2)=false:=by simp;omega
     generalize(gw kd).2=q2 at*;go_wp2;go_ret;exact⟨aI (by rw[<-HR.out];rfl),x0⟩
   .rw[decide_eq_false h3]at hR;have HR:=axj hR;clear hR;have h3':((ins.length:Int)==(gw kd).1)=false:=by simp;omega
    generalize(gw kd).1=q1 at*;generalize(gw kd).2=q2 at*;go_wp2;go_ret;exact⟨aI (by rw[<-HR.out];rfl),x0⟩
theorem V_(x:Gr)(E:Option Addr)(ec:Nat)(I:Option Addr)(ic:Nat)(O:Option Addr)(oc:Nat)(w:World)(hE:bW EE w E x.es)(hI:Rd w I x.ins)(hO:Rd w O x.outs):
 Calls prog 195 #[.agg #[.int .i64 x.kK,.slice E x.es.length ec,.slice I x.ins.length ic,.slice O x.outs.length oc]] w λe w'=>e=.returned (.bool (jI x))/\Ex w w':=by
 obtain⟨N,es,ins,outs⟩:=x;dsimp only at hE hI hO⊢;have hEl:=hE.1;have J3:=hI.len;have hOl:=hO.len;have hg:=λW=>lH N 0 100 W
 obtain⟨y0,d0⟩:=VB.xn w 130 #[.int .i64 N,.slice E es.length ec,.slice I ins.length ic,.slice O outs.length oc];obtain⟨R,hR⟩:=xq (jI ⟨N,es,ins,outs⟩);rw[hR];simp only[jI,akG]at hR;by_cases h1:bL 0 100 N=true
 .rw[h1]at hg hR;have hN:=Zy h1;obtain⟨n,rfl⟩:=ayx hN.1;by_cases h2:es.length<=60
  .by_cases h3:ins.length<=12
   .by_cases h4:outs.length<=12
    .rw[decide_eq_true h2,decide_eq_true h3,decide_eq_true h4,ayr,ayr,ayr,ayr]at hR;have hi:=λW (x:Ex w W)=>yY I ic ins 0 (n-1) W (hI.ex x)
     have ho:=λW (x:Ex w W)=>yY O oc outs 0 (n-1) W (hO.ex x)
     cases h5:ins.all (bL 0 ((n:Int)-1))with
     |false=>
      rw[h5]at hR hi;have HR:=axj hR;clear hR h5 h1;go_enter Tryz.func195,Tryz.ntmps195
      go_wp2_with fail
      refine(hg _).mono ?_;rintro e _ ⟨rfl,rfl⟩;go_wp2_with fail
      refine(hi _ y0).mono ?_;rintro e _ ⟨rfl,rfl⟩;go_wp2;go_ret;exact⟨aI (by rw[<-HR.out];rfl),y0⟩
     |true=>
      rw[h5,ayr]at hR;rw[h5]at hi;have hib:=λk hk=>KO h5 (k:=k) hk
      clear h5;cases h6:outs.all (bL 0 ((n:Int)-1))with
      |false=>
       rw[h6]at hR ho;have HR:=axj hR;clear hR h6 h1 hib;go_enter Tryz.func195,Tryz.ntmps195
       go_wp2_with fail
       refine(hg _).mono ?_;rintro e _ ⟨rfl,rfl⟩;go_wp2_with fail
       refine(hi _ y0).mono ?_;rintro e _ ⟨rfl,rfl⟩;go_wp2_with fail
       refine(ho _ y0).mono ?_;rintro e _ ⟨rfl,rfl⟩;go_wp2;go_ret;exact⟨aI (by rw[<-HR.out];rfl),y0⟩
      |true=>
       rw[h6,ayr]at hR;rw[h6]at ho;have nL:=λk hk=>KO h6 (k:=k) hk
       have HR:=axj hR;have Hib:=axj hib;have Hob:=axj nL;clear h6 h1 hR hib nL;go_enter Tryz.func195,Tryz.ntmps195
       go_wp2_with fail
       refine(hg _).mono ?_;rintro e _ ⟨rfl,rfl⟩;go_wp2_with fail
       refine(hi _ y0).mono ?_;rintro e _ ⟨rfl,rfl⟩;go_wp2_with fail
       refine(ho _ y0).mono ?_;rintro e _ ⟨rfl,rfl⟩;clear hg hi ho;generalize w.alloc (.cells #[.int .i64 n,.slice E es.length ec,.slice I ins.length ic,.slice O outs.length oc] 130)=W0 at*;have q1:=d0.c1;go_wp2_with fail
       clear q1;go_loopw [51] (λi wr=>∃k:Nat,k<=es.length/\i=.int .i64 k/\Hid ((es.take k).all (λe=>GX e&&e.ins.all (bL 0 ((n:Int)-1))&&e.outs.all (bL 0 ((n:Int)-1)))=true)/\VB wr w.heap.size 130 #[.int .i64 n,.slice E es.length ec,.slice I ins.length ic,.slice O outs.length oc]/\Ex w wr) (λi _=>es.length-(intOf i).toNat)
       case atStart=>exact⟨0,axq _,rfl,axj rfl,d0,y0⟩
       case round=>
        obtain⟨k,hk,rfl,fH,hd,he⟩:=hrel;by_cases hlt:k<es.length
        .obtain⟨g,off,x,P,pc,Q,qc,rfl,hx,c0,c1,c2,c3,hP,hQ⟩:=(hE.ex he).edge hlt;have Hx:=axj hx;obtain⟨y3,v3⟩:=VB.xn wr 156 #[.int .i64 x.kd,.int .i64 x.vl,.slice P x.ins.length pc,.slice Q x.outs.length qc];have q0:=(hd.ex y3).c0;clear hx;have hh:=λW (y:Ex wr W)=>ZT x.kd x.vl P pc x.ins Q qc x.outs n W (hP.ex y) (hQ.ex y) (by omega) (by omega)
         have hd2:=hd.ex y3;have he2:=he.trans y3;go_wp2_with fail
         generalize wr.alloc (.cells #[.int .i64 x.kd,.int .i64 x.vl,.slice P x.ins.length pc,.slice Q x.outs.length qc] 156)=W3 at*;refine(hh W3 y3).mono ?_;rintro e w4 ⟨rfl,x4⟩;have hd3:=hd2.ex x4;have he3:=he2.trans x4;clear hh hd he hd2 he2 c0 c1 c2 c3;have HEB:=axj (show(PI x.kd x.vl x.ins.length x.outs.length&&x.ins.all (bL 0 ((n:Int)-1))&&x.outs.all (bL 0 ((n:Int)-1)))=(GX x&&x.ins.all (bL 0 ((n:Int)-1))&&x.outs.all (bL 0 ((n:Int)-1)))from rfl);rw[HEB.out];cases hb:(GX x&&x.ins.all (bL 0 ((n:Int)-1))&&x.outs.all (bL 0 ((n:Int)-1)))with
         |true=>
          have Gn:=axj (show(es.take (k+1)).all (λe=>GX e&&e.ins.all (bL 0 ((n:Int)-1))&&e.outs.all (bL 0 ((n:Int)-1)))=true by rw[axy,Hx.out,ayK,fH.out];simp only[ayE,ayA,ayG,hb];rfl);clear hb;go_wp2_with fail
          go_roundw;case rel=>exact⟨k+1,by omega,by go_num,Gn,hd3,he3⟩
          case measure=>simp[intOf];omega
         |false=>
          have H:=axj (show R=false by
           rw[<-HR.out,ayJ.2 ⟨x,axo Hx.out,by rw[hb];decide⟩];rfl)
          clear hb;go_wp2;go_ret;exact⟨aI H.out.symm,he3⟩
        .obtain rfl:k=es.length:=by omega
         have hall:=fH.out;rw[axE]at hall;have HR2:=axj (show afL ⟨n,es,ins,outs⟩=R by rw[<-HR.out,hall,ayr]);have hek:=λe (he:e∈es)=>aoI hall he
         have l1:=Ik (es:=es) (λe he=>(hek e he).1);have l2:=NJ (es:=es) (λe he=>(hek e he).1);have hcnt:=Ro n E ec es I ic ins O oc outs wr (hE.ex he) (hI.ex he) (hO.ex he) (by omega) (λk hk=>by
          rcases axZ.1 hk with hk|hk
          .have:=Hib.out k hk;omega
          .obtain⟨e,hee,hke⟩:=Vt hk;have:=(hek e hee).2.2 k hke;omega) (λk hk=>by
          rcases axZ.1 hk with hk|hk
          .have:=Hob.out k hk;omega
          .obtain⟨e,hee,hke⟩:=Zc hk;have:=(hek e hee).2.1 k hke;omega) (by rw[axv];omega) (by rw[axv];omega)
         clear hall hek;obtain⟨q0,q1,q2,q3⟩:=hd.d4;go_wp2_with fail
         refine hcnt.mono ?_;rintro e w4 ⟨f,t,rfl,hf,hft,of_,ot,x4⟩;have xL:=he.trans x4;clear hcnt q0 q1 q2 q3 hd he;change Own w4 f (nH n (frL ⟨n,es,ins,outs⟩))at of_;change Own w4 t (nH n (toWL ⟨n,es,ins,outs⟩))at ot;have b1:(frL ⟨n,es,ins,outs⟩).length<=1000:=by show(ins++gQ es).length<=1000;rw[axv];omega
         have b2:(toWL ⟨n,es,ins,outs⟩).length<=1000:=by show(outs++insL es).length<=1000;rw[axv];omega
         unfold afL at HR2;generalize frL ⟨n,es,ins,outs⟩=F at*;generalize toWL ⟨n,es,ins,outs⟩=T at*;go_wp2_with fail
         go_loopw [68] (λi wi=>∃k:Nat,k<=n/\i=.int .i64 k/\Hid ((nP k).all (λw=>decide (w∈F)||decide (w∈T))=true)/\Own wi f (nH n F)/\Own wi t (nH n T)/\Ex w wi) (λi _=>n-(intOf i).toNat)
         case atStart=>exact⟨0,axq _,rfl,axj rfl,of_,ot,xL⟩
         case round=>
          clear of_ ot xL x4;obtain⟨k,hk,rfl,aeX,of_,ot,he⟩:=hrel;by_cases hlt:k<n
          .have c1:=of_.cell (pE (l:=F) hlt);have c2:=ot.cell (pE (l:=T) hlt);have e1:=Bo F (k:Int);have e2:=Bo T (k:Int);obtain⟨a,ha⟩:=xq (List.count (k:Int) F);obtain⟨b,hb⟩:=xq (List.count (k:Int) T);rw[ha]at c1 e1;rw[hb]at c2 e2;by_cases hab:a+b=0
           .have H:=axj (show R=false by
             have ha0:(k:Int)∉F:=List.count_eq_zero.1 (by omega);have hb0:(k:Int)∉T:=List.count_eq_zero.1 (by omega);rw[<-HR2.out,ayJ.2 ⟨(k:Int),axo (afh (by simpa using hlt)),by simp[ha0,hb0]⟩])
            have hz:((a:Int)+(b:Int)==0)=true:=by simp;omega
            clear ha hb;go_wp2_with fail
            go_quiet (fail)
            go_wp2_with fail
            go_ret;exact⟨aI H.out.symm,he.drewN _⟩
           .have Gn:=axj (show(nP (k+1)).all (λw=>decide (w∈F)||decide (w∈T))=true by
             rw[x_,ayK,aeX.out];have:(k:Int)∈F∨(k:Int)∈T:=by
              rcases Nat.eq_zero_or_pos a with h0|h0
              .right;exact List.count_pos_iff.1 (by omega)
              .left;exact List.count_pos_iff.1 (by omega)
             simpa using this)
            have hz:((a:Int)+(b:Int)==0)=false:=by simp;omega
            clear ha hb;go_wp2_with fail
            go_quiet (fail)
            go_wp2_with fail
            go_roundw;case rel=>exact⟨k+1,by omega,by go_num,Gn,of_.drewN _,ot.drewN _,he.drewN _⟩
            case measure=>simp[intOf];omega
          .obtain rfl:k=n:=by omega
           have H:=axj (show R=true by rw[<-HR2.out];show((nP ((k:Int).toNat)).all _)=true;rw[azi];exact aeX.out);go_wp2;go_ret;exact⟨aI H.out.symm,he⟩
    .rw[decide_eq_false h4]at hR;have HR:=axj hR;clear hR h1;go_enter Tryz.func195,Tryz.ntmps195
     go_wp2_with fail
     refine(hg _).mono ?_;rintro e _ ⟨rfl,rfl⟩;go_wp2;go_ret;exact⟨aI (by rw[<-HR.out];simp),y0⟩
   .rw[decide_eq_false h3]at hR;have HR:=axj hR;clear hR h1;go_enter Tryz.func195,Tryz.ntmps195
    go_wp2_with fail
    refine(hg _).mono ?_;rintro e _ ⟨rfl,rfl⟩;go_wp2;go_ret;exact⟨aI (by rw[<-HR.out];simp),y0⟩
  .rw[decide_eq_false h2]at hR;have HR:=axj hR;clear hR h1;go_enter Tryz.func195,Tryz.ntmps195
   go_wp2_with fail
   refine(hg _).mono ?_;rintro e _ ⟨rfl,rfl⟩;go_wp2;go_ret;exact⟨aI (by rw[<-HR.out];simp),y0⟩
 .have h1:bL 0 100 N=false:=by simpa using h1
  rw[h1]at hg hR;have HR:=axj hR;clear hR h1;go_enter Tryz.func195,Tryz.ntmps195
  go_wp2_with fail
  refine(hg _).mono ?_;rintro e _ ⟨rfl,rfl⟩;go_wp2;go_ret;exact⟨aI (by rw[<-HR.out];simp),y0⟩
theorem AL.AO{g B:Nat}{t:TypeId}{cs:Array Value}{xs:List Int}(hV:VB w g t cs)(hu:AL w B u xs)(hg:g<B)(hB:B<=w.heap.size)(n:Int)(hl:xs.length<=1000)(hi:cs[i]?=some u):
 ∃A c w1,(Builtin.append_ #[55,55] 55 #[u,.slice (some ⟨w.heap.size,0,none⟩) 1 1]).run prog (w.alloc (.cells #[.int .i64 n] 3))=.ok (.slice A (xs.length+1) c) w1/\w1.cell? ⟨g,i,none⟩=some u/\w1.frozen? ⟨g,i,none⟩=false/\
  VB (w1.setCell ⟨g,i,none⟩ (.slice A (xs.length+1) c)) g t (cs.setIfInBounds i (.slice A (xs.length+1) c))/\AL (w1.setCell ⟨g,i,none⟩ (.slice A (xs.length+1) c)) B (.slice A (xs.length+1) c) (xs++[n])/\
  (∀y ys,AL w B y ys->(∀b,u.ownBlock=some b->y.ownBlock≠some b)->AL (w1.setCell ⟨g,i,none⟩ (.slice A (xs.length+1) c)) B y ys/\∀b,(Value.slice A (xs.length+1) c).ownBlock=some b->y.ownBlock≠some b)/\
  (∀g' t' cs',g'≠g->g'<B->VB w g' t' cs'->VB (w1.setCell ⟨g,i,none⟩ (.slice A (xs.length+1) c)) g' t' cs')/\
  (∀b,Ex b w->b.heap.size<=g->Ex b (w1.setCell ⟨g,i,none⟩ (.slice A (xs.length+1) c)))/\w.heap.size<=w1.heap.size:=by
 have ht:=hV.lt;have ha:=(aCQ w).alloc (aN [n]);have hs:(w.alloc (aN [n])).heap.size=w.heap.size+1:=by simp
 have hml:=hu.lt;obtain⟨u1,w1,hrun,xN,hE,nL⟩:=bK 55 55 Tryz.underlying55 (w.alloc (aN [n])) B u xs (hu.ex ha) (by omega) (some ⟨w.heap.size,0,none⟩) 1 [n] ((dW.new w [n]).rd (by simp)) (by simp;omega);have E0:qh u.ownBlock w w1:=(qh.aP ha).trans hE;have v1:VB w1 g t cs:=(E0.block g ht (λe=>by have:=(hml g e.symm).1;omega)).trans hV;obtain⟨A,c,e1,_⟩:=xN.form (by simp;omega);rw[axv,ayt]at e1;subst e1;refine⟨A,c,w1,hrun,v1.cell i hi,v1.frozen i,?_⟩;obtain⟨u1,hu1⟩:∃q:Value,.slice A (xs.length+1) c=q:=⟨_,rfl⟩;rw[hu1]at xN nL⊢;have E1:aM g w1 (w1.setCell ⟨g,i,none⟩ u1):=(aM.refl _ _).setCell (p:=⟨g,i,none⟩) rfl _;refine⟨v1.bC i u1,xN.e1 E1 hg,λy ys hy hd=>⟨(hy.FD E0 hd).e1 E1 hg,λb e e2=>?_⟩,λg' t' cs' hne hlt hv=>?_,λb hb hbg=>?_,E0.size⟩
 .rcases nL with h1|h1
  .exact hd b (h1▸e) e2
  .rw[h1,hs]at e;injection e with e;have:=(hy.lt b e2).2;omega
 .exact VB.aK ((E0.block g' hv.lt (λe=>by have:=(hml g' e.symm).1;omega)).trans hv) E1 hne
 .exact(hb.Og E0 (λk e=>by have:=(hml k e).1;omega)).aK E1 hbg
theorem ja{a b:Value}(h:∀g,a.ownBlock=some g->b.ownBlock≠some g):∀g,b.ownBlock=some g->a.ownBlock≠some g:=λg hb ha=>h g ha hb
def mG(n j:Nat):List Int:=(nP j).map λx=>(n:Int)+x
theorem Vm(n j:Nat):mG n (j+1)=mG n j++[((n+j:Nat):Int)]:=by simp[mG,x_]
theorem nX(n j:Nat):(mG n j).length=j:=by simp[mG,iG]
def dM(k v:Int):Gr:=
 if k=1 then⟨v,[],nP v.toNat,nP v.toNat⟩
 else if k=2 then⟨2,[],[0,1],[1,0]⟩
 else⟨(gw k).1+(gw k).2,[⟨k,v,nP (gw k).1.toNat,mG (gw k).1.toNat (gw k).2.toNat⟩],nP (gw k).1.toNat,mG (gw k).1.toNat (gw k).2.toNat⟩
theorem ags(n:Nat)(w:World)(hn:n<=100):
 Calls prog 143 #[.int .i64 n] w λe w'=>∃A c B d,e=.returned (.agg #[.int .i64 n,.slice none 0 0,.slice A n c,.slice B n d])/\Fr w' w.heap.size A c (nP n)/\Fr w' w.heap.size B d (nP n)/\Ex w w':=by
 obtain⟨x1,d1⟩:=VB.xn w 130 #[.int .i64 0,.slice none 0 0,.slice none 0 0,.slice none 0 0];have s1:(w.alloc (.cells #[.int .i64 0,.slice none 0 0,.slice none 0 0,.slice none 0 0] 130)).heap.size=w.heap.size+1:=by simp
 go_enter Tryz.func143,Tryz.ntmps143
 go_wp2_with fail
 generalize w.alloc (.cells #[.int .i64 0,.slice none 0 0,.slice none 0 0,.slice none 0 0] 130)=W1 at*;obtain⟨x2,d2⟩:=VB.xn W1 130 #[.int .i64 n,.slice none 0 0,.slice none 0 0,.slice none 0 0];have s2:(W1.alloc (.cells #[.int .i64 n,.slice none 0 0,.slice none 0 0,.slice none 0 0] 130)).heap.size=w.heap.size+1+1:=by simp[s1]
 generalize W1.alloc (.cells #[.int .i64 n,.slice none 0 0,.slice none 0 0,.slice none 0 0] 130)=W2 at*;rw[s1]at d2;have d1:=d1.ex x2;have xx:=x1.trans x2;clear x1 x2;go_loopw [4] (λs4 wr=>∃(k:Nat) (u v:Value),k<=n/\s4=.int .i64 k/\VB wr (w.heap.size+1) 130 #[.int .i64 n,.slice none 0 0,u,v]/\AL wr (w.heap.size+1+1) u (nP k)/\AL wr (w.heap.size+1+1) v (nP k)/\(∀g,u.ownBlock=some g->v.ownBlock≠some g)/\VB wr w.heap.size 130 #[.int .i64 0,.slice none 0 0,.slice none 0 0,.slice none 0 0]/\w.heap.size+1+1<=wr.heap.size/\Ex w wr) (λs4 _=>n-(intOf s4).toNat)
 case atStart=>exact⟨0,_,_,axq _,rfl,d2,AL.nil _ _,AL.nil _ _,λg e=>by simp[Value.ownBlock]at e,d1,by omega,xx⟩
 case round=>
  rename World=>wi;clear d1;obtain⟨k,u,v,hk,rfl,hg,hu,hv,hd,hz,hsz,he⟩:=hrel;by_cases hlt:k<n
  .have hkl:(nP k).length=k:=iG k;obtain⟨A1,c1,w1,iZ,q1,f1,hg1,hu1,ho1,hb1,he1,hs1⟩:=AL.AO (i:=2) hg hu (ayf _) hsz (k:Int) (by omega) rfl;obtain⟨hv1,hd1⟩:=ho1 v _ hv hd;have hz1:=hb1 _ _ _ (by omega) (by omega) hz;have he1:=he1 w he (by omega);rw[hkl]at iZ hg1 hu1 hv1 hz1 he1 hd1;have sz1:(w1.setCell ⟨w.heap.size+1,2,none⟩ (.slice A1 (k+1) c1)).heap.size=w1.heap.size:=by simp
   obtain⟨A2,c2,w2,fG,q2,f2,hg2,hv2,ho2,hb2,he2,hs2⟩:=AL.AO (i:=3) hg1 hv1 (ayf _) (by omega) (k:Int) (by omega) rfl;obtain⟨hu2,hd2⟩:=ho2 _ _ hu1 (ja hd1);have hz2:=hb2 _ _ _ (by omega) (by omega) hz1;have he2:=he2 w he1 (by omega);rw[hkl]at fG hg2 hu2 hv2 hz2 he2 hd2;rw[sz1]at fG hs2;rw[<-x_]at hu2 hv2;have qa:=hg.c2;have qb:=hg1.c3;have zN:=he2.size;clear ho1 hb1 ho2 hb2 hg hu hv hu1 hv1 hz hz1 he1 hkl;go_wp2_with (at_builtin;first|refine wpList_append_run rfl _ _ _ rfl rfl rfl iZ ?_|refine wpList_append_run rfl _ _ _ rfl rfl rfl fG ?_)
   go_roundw;case rel=>exact⟨k+1,_,_,by omega,by go_num,hg2,hu2,hv2,ja hd2,hz2,by have:=hg2.lt;simp at this⊢;omega,he2⟩
   case measure=>simp[intOf];omega
  .obtain rfl:k=n:=by omega
   obtain⟨A,c,eu,fu⟩:=hu.form (by rw[iG];omega);obtain⟨B,d,ev,fv⟩:=hv.form (by rw[iG];omega);rw[iG]at eu ev;subst eu ev;obtain⟨t0,t1,t2,t3⟩:=hg.d4;obtain⟨u0,u1,u2,u3⟩:=hz.d4;obtain⟨k0,k1,k2⟩:=hz.z3;have k3:=hz.frozen 3;obtain⟨dd,zz⟩:=hz.st4 (.int .i64 k) (.slice none 0 0) (.slice A k c) (.slice B k d);obtain⟨C0,C1,C2,C3⟩:=dd.d4;have eF:=he.aK zz (axk _);have fu2:=(fu.aK zz (fu.hi.off (by omega))).more (B':=w.heap.size) (by omega);have fv2:=(fv.aK zz (fv.hi.off (by omega))).more (B':=w.heap.size) (by omega);go_wp2_with fail
   refine axu (v:=.agg #[.int .i64 k,.slice none 0 0,.slice A k c,.slice B k d]) (by simp[results,Tryz.results143,go_sem,C0,C1,C2,C3]) rfl ?_;exact⟨A,c,B,d,rfl,fu2,fv2,eF⟩
theorem akt(k:Int):0<=(gw k).1/\0<=(gw k).2:=by
 unfold gw;split
 .exact⟨by decide,by decide⟩
 split
 .exact⟨by decide,by decide⟩
 split
 .exact⟨by decide,by decide⟩
 split
 .exact⟨by decide,by decide⟩
 .exact⟨by decide,by decide⟩
def RdG(x:Gr)(e:Ending)(w':World):Prop:=∃E ec I ic O oc,e=.returned (.agg #[.int .i64 x.kK,.slice E x.es.length ec,.slice I x.ins.length ic,.slice O x.outs.length oc])/\bW EE w' E x.es/\Rd w' I x.ins/\Rd w' O x.outs
theorem ZP(k v:Int)(nm:ByteArray)(n m:Nat)(w:World)(h:bL 3 14 k=true)(hg:gw k=((n:Int),(m:Int))):
 Calls prog 108 #[.agg #[.int .i64 k,.int .i64 v,.string nm]] w λe w'=>RdG ⟨((n+m:Nat):Int),[⟨k,v,nP n,mG n m⟩],nP n,mG n m⟩ e w'/\Ex w w':=by
 have hk:3<=k/\k<=14:=by simpa[bL]using h
 have b1:(k==1)=false:=by simp;omega
 have b2:(k==2)=false:=by simp;omega
 have hgl:=Z9 k;rw[hg]at hgl;have hnm:n<=2/\m<=2:=⟨by have:=hgl.1;dsimp only at this;omega,by have:=hgl.2;dsimp only at this;omega⟩;have cK:=λW=>DR k h W
 rw[hg]at cK;dsimp only at cK;clear hg hgl h hk;obtain⟨W0,hW0,x0,d0,s0⟩:=VB.an w 70 #[.int .i64 k,.int .i64 v,.string nm] rfl;obtain⟨W1,hW1,x1,d1,s1⟩:=VB.an W0 130 #[.int .i64 0,.slice none 0 0,.slice none 0 0,.slice none 0 0] s0;have D0:=d0.ex x1;have X1:=x0.trans x1;obtain⟨q0,q1⟩:=D0.d2;go_enter Tryz.func108,Tryz.ntmps108
 go_wp2_with fail
 refine(cK _).mono ?_;rintro e w2 ⟨rfl,x2⟩;have z2:=x2.size;have hw1:IntKind.i64.wrap ((n:Int)+(m:Int))=((n+m:Nat):Int):=by rw[axC _ (by omega)];omega
 obtain⟨N,hN⟩:=xq (n+m);rw[hN]at hw1;obtain⟨W3,hW3,y3,d3,s3⟩:=VB.an w2 130 #[.int .i64 N,.slice none 0 0,.slice none 0 0,.slice none 0 0] rfl;obtain⟨W4,zZ,y4,d4,s4⟩:=VB.an W3 156 #[.int .i64 k,.int .i64 v,.slice none 0 0,.slice none 0 0] s3;have D2:=D0.ex x2;have E2:=D2.ex y3;obtain⟨q0,q1⟩:=D2.d2;obtain⟨r0,r1⟩:=E2.d2;have dG:=d3.ex y4;have dz:=((d1.ex x2).ex y3).ex y4;have X4:=((X1.trans x2).trans y3).trans y4;rw[<-hW3]at r0 r1;have HW3:=axj hW3;have HW4:=axj zZ;clear d0 d1 d3 y3 y4 cK hW3 zZ;go_wp2_with fail
 rw[HW3.out,HW4.out];obtain⟨G,hG⟩:=xq w2.heap.size;rw[hG]at dG d4 s4 s3⊢;have hzG:w.heap.size+1<G:=by omega
 go_loopw [7] (λs7 wr=>∃(j:Nat) (gi go ei eo:Value),j<=N/\s7=.int .i64 j/\VB wr G 130 #[.int .i64 N,.slice none 0 0,gi,go]/\VB wr (G+1) 156 #[.int .i64 k,.int .i64 v,ei,eo]/\
  AL wr (G+1+1) gi (nP (min j n))/\AL wr (G+1+1) go (mG n (j-n))/\AL wr (G+1+1) ei (nP (min j n))/\AL wr (G+1+1) eo (mG n (j-n))/\
  (∀g,gi.ownBlock=some g->go.ownBlock≠some g)/\(∀g,gi.ownBlock=some g->ei.ownBlock≠some g)/\(∀g,gi.ownBlock=some g->eo.ownBlock≠some g)/\(∀g,go.ownBlock=some g->ei.ownBlock≠some g)/\(∀g,go.ownBlock=some g->eo.ownBlock≠some g)/\(∀g,ei.ownBlock=some g->eo.ownBlock≠some g)/\
  VB wr (w.heap.size+1) 130 #[.int .i64 0,.slice none 0 0,.slice none 0 0,.slice none 0 0]/\G+1+1<=wr.heap.size/\Ex w wr) (λs7 _=>N-(intOf s7).toNat)
 case atStart=>
  have e0:∀(a:Value) g,(Value.slice none 0 0).ownBlock=some g->a.ownBlock≠some g:=λa g e=>by simp[Value.ownBlock]at e
  exact⟨0,_,_,_,_,axq _,rfl,dG,d4,by rw[Nat.zero_min];exact AL.nil _ _,by rw[Nat.zero_sub];exact AL.nil _ _,by rw[Nat.zero_min];exact AL.nil _ _,by rw[Nat.zero_sub];exact AL.nil _ _,e0 _,e0 _,e0 _,e0 _,e0 _,e0 _,dz,by omega,X4⟩
 case round=>
  rename World=>wi;clear hW0 hW1 HW3 HW4 dG d4 dz X4 x0 x1 X1 D0 D2 E2 q0 q1 r0 r1 s0 s1 s3 s4 hG z2 x2;obtain⟨j,gi,go,ei,eo,hj,rfl,vG,vE,lgi,lgo,lei,leo,j1,j2,j3,j4,j5,j6,hz,hsz,he⟩:=hrel;by_cases hlt:j<N
  .by_cases hjn:j<n
   .have e1:min j n=j:=by omega
    have e2:min (j+1) n=j+1:=by omega
    have e3:j+1-n=j-n:=by omega
    rw[e1]at lgi lei;have hkl:(nP j).length=j:=iG j;obtain⟨A1,c1,w1,iZ,p1,f1,vG1,QK,ho1,hb1,he1,hs1⟩:=AL.AO (i:=2) vG lgi (by omega) hsz (j:Int) (by omega) rfl;obtain⟨QJ,j1'⟩:=ho1 _ _ lgo j1;obtain⟨QN,j2'⟩:=ho1 _ _ lei j2;obtain⟨QM,j3'⟩:=ho1 _ _ leo j3;have hz1:=hb1 _ _ _ (by omega) (by omega) hz;have vE1:=hb1 _ _ _ (by omega) (by omega) vE;have he1:=he1 w he (by omega);rw[hkl]at iZ vG1 QK QJ QN QM hz1 vE1 he1 j1' j2' j3';have sz1:(w1.setCell ⟨G,2,none⟩ (.slice A1 (j+1) c1)).heap.size=w1.heap.size:=by simp
    obtain⟨A2,c2,w2,fG,p2,f2,vE2,VI,ho2,hb2,he2,hs2⟩:=AL.AO (i:=2) vE1 QN (by omega) (by omega) (j:Int) (by omega) rfl;obtain⟨Vx,i1⟩:=ho2 _ _ QK (ja j2');obtain⟨Vw,i2⟩:=ho2 _ _ QJ (ja j4);obtain⟨VG,i3⟩:=ho2 _ _ QM j6;have hz2:=hb2 _ _ _ (by omega) (by omega) hz1;have vG2:=hb2 _ _ _ (by omega) (by omega) vG1;have he2:=he2 w he1 (by omega);rw[hkl]at fG vE2 VI hz2 vG2 he2 Vx Vw VG i1 i2 i3;rw[sz1]at fG hs2;rw[<-x_]at Vx VI;have qa:=vG.c2;have qb:=vE1.c2;have zN:=vE2.lt;clear ho1 hb1 ho2 hb2 vG vE lgi lgo lei leo QK QJ QN QM hz hz1 he1 hkl j1 j2 j3 j4 j6;go_wp2_with (at_builtin;first|refine wpList_append_run rfl _ _ _ rfl rfl rfl iZ ?_|refine wpList_append_run rfl _ _ _ rfl rfl rfl fG ?_)
    go_roundw;case rel=>exact⟨j+1,_,_,_,_,by omega,by go_num,vG2,vE2,by rw[e2];exact Vx,by rw[e3];exact Vw,by rw[e2];exact VI,by rw[e3];exact VG,j1',ja i1,j3',ja i2,j5,i3,hz2,by omega,he2⟩
    case measure=>simp[intOf];omega
   .have e1:min j n=n:=by omega
    have e2:min (j+1) n=n:=by omega
    obtain⟨q,hq⟩:=xq (j-n);have e3:j+1-n=q+1:=by omega
    have hjq:n+q=j:=by omega
    rw[hq]at lgo leo;have hkl:(mG n q).length=q:=nX n q;obtain⟨A1,c1,w1,iZ,p1,f1,vG1,QJ,ho1,hb1,he1,hs1⟩:=AL.AO (i:=3) vG lgo (by omega) hsz (j:Int) (by omega) rfl;obtain⟨QK,j1'⟩:=ho1 _ _ lgi (ja j1);obtain⟨QN,j2'⟩:=ho1 _ _ lei j4;obtain⟨QM,j3'⟩:=ho1 _ _ leo j5;have hz1:=hb1 _ _ _ (by omega) (by omega) hz;have vE1:=hb1 _ _ _ (by omega) (by omega) vE;have he1:=he1 w he (by omega);rw[hkl]at iZ vG1 QK QJ QN QM hz1 vE1 he1 j1' j2' j3';have sz1:(w1.setCell ⟨G,3,none⟩ (.slice A1 (q+1) c1)).heap.size=w1.heap.size:=by simp
    obtain⟨A2,c2,w2,fG,p2,f2,vE2,VG,ho2,hb2,he2,hs2⟩:=AL.AO (i:=3) vE1 QM (by omega) (by omega) (j:Int) (by omega) rfl;obtain⟨Vx,i1⟩:=ho2 _ _ QK (ja j3);obtain⟨Vw,i2⟩:=ho2 _ _ QJ (ja j3');obtain⟨VI,i3⟩:=ho2 _ _ QN (ja j6);have hz2:=hb2 _ _ _ (by omega) (by omega) hz1;have vG2:=hb2 _ _ _ (by omega) (by omega) vG1;have he2:=he2 w he1 (by omega);rw[hkl]at fG vE2 VG hz2 vG2 he2 Vx Vw VI i1 i2 i3;rw[sz1]at fG hs2;have hos:=Vm n q;rw[hjq]at hos;rw[<-hos]at Vw VG;have qa:=vG.c3;have qb:=vE1.c3;have zN:=vE2.lt;clear ho1 hb1 ho2 hb2 vG vE lgi lgo lei leo QK QJ QN QM hz hz1 he1 hkl j1 j3 j4 j5 j6 hos;go_wp2_with (at_builtin;first|refine wpList_append_run rfl _ _ _ rfl rfl rfl iZ ?_|refine wpList_append_run rfl _ _ _ rfl rfl rfl fG ?_)
    go_roundw;case rel=>exact⟨j+1,_,_,_,_,by omega,by go_num,vG2,vE2,by rw[e2,<-e1];exact Vx,by rw[e3];exact Vw,by rw[e2,<-e1];exact VI,by rw[e3];exact VG,ja j1',j2,ja i1,j2',ja i2,ja i3,hz2,by omega,he2⟩
    case measure=>simp[intOf];omega
  .obtain rfl:j=N:=by omega
   have e1:min j n=n:=by omega
   have e2:j-n=m:=by omega
   rw[e1]at lgi lei;rw[e2]at lgo leo;obtain⟨A1,c1,ev,fgi⟩:=lgi.form (by rw[iG];omega);rw[iG]at ev;subst ev;obtain⟨A2,c2,ev,fgo⟩:=lgo.form (by rw[nX];omega);rw[nX]at ev;subst ev;obtain⟨A3,c3,ev,fei⟩:=lei.form (by rw[iG];omega);rw[iG]at ev;subst ev;obtain⟨A4,c4,ev,feo⟩:=leo.form (by rw[nX];omega);rw[nX]at ev;subst ev;obtain⟨e0,e1,e2,e3⟩:=vE.d4;obtain⟨W1,hW1,y1,n1,s1⟩:=VB.an wi 156 #[.int .i64 k,.int .i64 v,.slice A3 n c3,.slice A4 m c4] rfl;have vG1:=vG.ex y1;have g1:=vG1.c1;have gf:=vG1.frozen 1;have vG2:=vG1.bC 1 (.slice (some ⟨wi.heap.size,0,none⟩) 1 1);have E1:aM G W1 (W1.setCell ⟨G,1,none⟩ (.slice (some ⟨wi.heap.size,0,none⟩) 1 1)):=(aM.refl _ _).setCell (p:=⟨G,1,none⟩) rfl _;have hz2:=VB.aK (hz.ex y1) E1 (by omega);have atC:=vG.lt;have n2:=VB.aK n1 E1 (by omega);have sE:=E1.size;obtain⟨W2,hW2⟩:=xq (W1.setCell ⟨G,1,none⟩ (.slice (some ⟨wi.heap.size,0,none⟩) 1 1));rw[hW2]at vG2 hz2 n2 E1 sE;obtain⟨t0,t1,t2,t3⟩:=vG2.d4;obtain⟨u0,u1,u2,u3⟩:=hz2.d4;obtain⟨k0,k1,k2⟩:=hz2.z3;have k3:=hz2.frozen 3;obtain⟨dd,zz⟩:=hz2.st4 (.int .i64 j) (.slice (some ⟨wi.heap.size,0,none⟩) 1 1) (.slice A1 n c1) (.slice A2 m c2);obtain⟨C0,C1,C2,C3⟩:=dd.d4;have eF:=((he.trans y1).aK E1 (by omega)).aK zz (by omega);have keep:∀{B c l},Fr wi (G+1+1) B c l->Rd ((((W2.setCell ⟨w.heap.size+1,0,none⟩ (.int .i64 j)).setCell ⟨w.heap.size+1,1,none⟩ (.slice (some ⟨wi.heap.size,0,none⟩) 1 1)).setCell ⟨w.heap.size+1,2,none⟩ (.slice A1 n c1)).setCell ⟨w.heap.size+1,3,none⟩ (.slice A2 m c2)) B l:=λ{B c l} f=>
    ((((f.ex y1).aK E1 (f.hi.off (by omega))).aK zz (f.hi.off (by omega)))).rd
   have kgi:=keep fgi;have kgo:=keep fgo;have kei:=keep fei;have keo:=keep feo;have nE:=VB.aK n2 zz (by omega);clear keep fgi fgo fei feo lgi lgo lei leo;go_wp2_with fail
   refine axu (v:=.agg #[.int .i64 j,.slice (some ⟨wi.heap.size,0,none⟩) 1 1,.slice A1 n c1,.slice A2 m c2]) (by simp[results,Tryz.results108,go_sem,C0,C1,C2,C3]) rfl ?_;rw[hN];refine⟨⟨some ⟨wi.heap.size,0,none⟩,1,A1,c1,A2,c2,by rw[iG,nX];rfl,⟨by simp,λi x hx=>?_⟩,kgi,kgo⟩,eF⟩;rcases i with _|i
   .injection hx with hx;subst hx;refine⟨wi.heap.size,0,[.int .i64 k,.int .i64 v,.slice A3 n c3,.slice A4 m c4],rfl,λi u hi=>?_,_,_,rfl,⟨A3,c3,by rw[iG],kei⟩,⟨A4,c4,by rw[nX],keo⟩⟩;have:nE.cell i (v:=u) (by simpa using hi)=nE.cell i (v:=u) (by simpa using hi):=rfl;have:=nE.cell i (v:=u) (by simpa using hi);simpa using this
   .simp at hx
theorem ZQ(k v:Int)(nm:ByteArray)(T:Int×Int)(w:World)(h:jP ⟨k,v,nm⟩=some T):
 Calls prog 108 #[.agg #[.int .i64 k,.int .i64 v,.string nm]] w λe w'=>RdG (dM k v) e w'/\Ex w w':=by
 unfold jP at h;dsimp only at h;split at h
 .rename_i h1;obtain⟨_,hk,hi⟩:=h1;subst hk;have hi:0<=v/\v<=12:=by simpa[bL]using hi
  obtain⟨n,rfl⟩:∃n:Nat,v=(n:Int):=⟨v.toNat,by omega⟩;have hn:n<=100:=by omega
  clear h hi;have cI:=λW=>ags n W hn
  have HL:=axj (show dM 1 (n:Int)=⟨n,[],nP n,nP n⟩from rfl);obtain⟨W0,hW0,x0,d0,s0⟩:=VB.an w 70 #[.int .i64 1,.int .i64 n,.string nm] rfl;obtain⟨W1,hW1,x1,d1,s1⟩:=VB.an W0 130 #[.int .i64 0,.slice none 0 0,.slice none 0 0,.slice none 0 0] s0;have D0:=d0.ex x1;have X1:=x0.trans x1;obtain⟨q0,q1⟩:=D0.d2;go_enter Tryz.func108,Tryz.ntmps108
  go_wp2_with fail
  refine(cI _).mono ?_;rintro e w2 ⟨A,c,B,d,rfl,rA,rB,x2⟩;have hz:=d1.ex x2;obtain⟨u0,u1,u2,u3⟩:=hz.d4;obtain⟨k0,k1,k2⟩:=hz.z3;have k3:=hz.frozen 3;obtain⟨dd,zz⟩:=hz.st4 (.int .i64 n) (.slice none 0 0) (.slice A n c) (.slice B n d);obtain⟨C0,C1,C2,C3⟩:=dd.d4;have eF:=(X1.trans x2).aK zz (by omega);have rA2:=(rA.aK zz (rA.hi.off (by omega))).rd;have rB2:=(rB.aK zz (rB.hi.off (by omega))).rd;go_wp2_with fail
  refine axu (v:=.agg #[.int .i64 n,.slice none 0 0,.slice A n c,.slice B n d]) (by simp[results,Tryz.results108,go_sem,C0,C1,C2,C3]) rfl ?_;rw[HL.out];exact⟨⟨none,0,A,c,B,d,by rw[iG];rfl,⟨by simp,λi x hx=>by simp at hx⟩,rA2,rB2⟩,eF⟩
 .split at h
  .rename_i h1;obtain⟨_,hk,hi⟩:=h1;subst hk hi;clear h;obtain⟨W0,hW0,x0,d0,s0⟩:=VB.an w 70 #[.int .i64 2,.int .i64 0,.string nm] rfl;obtain⟨W1,hW1,x1,d1,s1⟩:=VB.an W0 130 #[.int .i64 0,.slice none 0 0,.slice none 0 0,.slice none 0 0] s0;have D0:=d0.ex x1;have X1:=x0.trans x1;have q0:=D0.c0;have y2:=(aCQ W1).alloc (aN [0,1]);have b2:=dW.new W1 [0,1];obtain⟨W2,hW2⟩:=xq (W1.alloc (.cells #[.int .i64 0,.int .i64 1] 3));have GN:W1.alloc (aN [0,1])=W2:=hW2;have s2:W2.heap.size=w.heap.size+1+1+1:=by rw[<-hW2];simp[s1]
   rw[GN]at y2 b2;rw[s1]at b2;have y3:=(aCQ W2).alloc (aN [1,0]);have b3:=dW.new W2 [1,0];obtain⟨W3,hW3⟩:=xq (W2.alloc (.cells #[.int .i64 1,.int .i64 0] 3));have GL:W2.alloc (aN [1,0])=W3:=hW3;rw[GL]at y3 b3;rw[s2]at b3;have y23:=y2.trans y3;have hz:=d1.ex y23;obtain⟨u0,u1,u2,u3⟩:=hz.d4;obtain⟨k0,k1,k2⟩:=hz.z3;have k3:=hz.frozen 3;obtain⟨dd,zz⟩:=hz.st4 (.int .i64 2) (.slice none 0 0) (.slice (some ⟨w.heap.size+1+1,0,none⟩) 2 2) (.slice (some ⟨w.heap.size+1+1+1,0,none⟩) 2 2);obtain⟨C0,C1,C2,C3⟩:=dd.d4;have eF:=(X1.trans y23).aK zz (by omega);have rA2:=(dW.aK (b2.ex y3) zz (by omega)).rd (by decide);have rB2:=(dW.aK b3 zz (by omega)).rd (by decide);go_enter Tryz.func108,Tryz.ntmps108
   go_wp2_with fail
   refine axu (v:=.agg #[.int .i64 2,.slice none 0 0,.slice (some ⟨w.heap.size+1+1,0,none⟩) 2 2,.slice (some ⟨w.heap.size+1+1+1,0,none⟩) 2 2]) (by simp[results,Tryz.results108,go_sem,C0,C1,C2,C3]) rfl ?_;exact⟨⟨none,0,_,2,_,2,rfl,⟨axq _,λi x hx=>by cases hx⟩,rA2,rB2⟩,eF⟩
  .split at h
   .rename_i h1;obtain⟨_,hk,_⟩:=h1;have hk':3<=k/\k<=14:=by simpa[bL]using hk
    obtain⟨n,m,hg⟩:∃n m:Nat,gw k=((n:Int),(m:Int)):=⟨(gw k).1.toNat,(gw k).2.toNat,by have:=akt k;exact Prod.ext (by show(gw k).1=_;omega) (by show(gw k).2=_;omega)⟩;have e:dM k v=⟨((n+m:Nat):Int),[⟨k,v,nP n,mG n m⟩],nP n,mG n m⟩:=by unfold dM;rw[axm (by omega),axm (by omega),hg];simp
    rw[e];exact ZP k v nm n m w hk hg
   .cases h
def hgB(p:Int)(x:Gr):Bool:=av p&&(jI x&&x.es.all λe=>decide (e.vl<p))
def P_(e:Ed):Bool:=decide (e.kd≠8)&&decide (e.kd≠14)
def KF(p:Int)(x:Gr):Bool:=hgB p x&&x.es.all P_
theorem wV{α:Type}{f:α->Bool}{l:List α}{k:Nat}{x:α}(hx:l[k]?=some x)(h:(l.take k).all f=true)(hb:f x=true):(l.take (k+1)).all f=true:=by rw[axy,hx,ayK,h];simp[hb]
theorem Jc{α:Type}{f:α->Bool}{l:List α}{k:Nat}{x:α}(hx:l[k]?=some x)(hb:f x=false):l.all f=false:=
 ayJ.2 ⟨x,axo hx,by rw[hb];decide⟩
theorem ZR(p:Int)(x:Gr)(E:Option Addr)(ec:Nat)(I:Option Addr)(ic:Nat)(O:Option Addr)(oc:Nat)(w:World)(hE:bW EE w E x.es)(hI:Rd w I x.ins)(hO:Rd w O x.outs):
 Calls prog 170 #[.int .i64 p,.agg #[.int .i64 x.kK,.slice E x.es.length ec,.slice I x.ins.length ic,.slice O x.outs.length oc]] w λe w'=>e=.returned (.bool (hgB p x))/\Ex w w':=by
 obtain⟨y0,d0,W0,hW0⟩:=VB.al w 130 #[.int .i64 x.kK,.slice E x.es.length ec,.slice I x.ins.length ic,.slice O x.outs.length oc];rw[hW0]at y0 d0;have hEl:=hE.1;have cV:=V_ x E ec I ic O oc W0 (hE.ex y0) (hI.ex y0) (hO.ex y0);obtain⟨q0,q1,q2,q3⟩:=d0.d4;have cF:=mI p W0;cases hF:av p with
 |false=>
  have HR:=axj (show hgB p x=false by unfold hgB;rw[hF];rfl);rw[hF]at cF;clear hF;go_enter Tryz.func170,Tryz.ntmps170
  go_wp2_with fail
  refine cF.mono ?_;rintro e _ ⟨rfl,rfl⟩;go_wp2_with fail
  go_ret;exact⟨aI HR.out.symm,y0⟩
 |true=>
  rw[hF]at cF;cases hV:jI x with
  |false=>
   have HR:=axj (show hgB p x=false by unfold hgB;rw[hF,hV];rfl);rw[hV]at cV;clear hF hV;go_enter Tryz.func170,Tryz.ntmps170
   go_wp2_with fail
   refine cF.mono ?_;rintro e _ ⟨rfl,rfl⟩;go_wp2_with fail
   refine cV.mono ?_;rintro e w2 ⟨rfl,x2⟩;go_wp2_with fail
   go_ret;exact⟨aI HR.out.symm,y0.trans x2⟩
  |true=>
   have HR:=axj (show hgB p x=x.es.all λe=>decide (e.vl<p) by unfold hgB;rw[hF,hV];rfl);rw[hV]at cV;clear hF hV;go_enter Tryz.func170,Tryz.ntmps170
   go_wp2_with fail
   refine cF.mono ?_;rintro e _ ⟨rfl,rfl⟩;go_wp2_with fail
   refine cV.mono ?_;rintro e w2 ⟨rfl,x2⟩;have d2:=d0.ex x2;have y2:=y0.trans x2;have q1:=d2.c1;clear cF cV q0 q2 q3;go_wp2_with fail
   clear q1;go_loopw [18] (λi wr=>∃k:Nat,k<=x.es.length/\i=.int .i64 k/\Hid ((x.es.take k).all (λe=>decide (e.vl<p))=true)/\Ex w wr) (λi _=>x.es.length-(intOf i).toNat)
   case atStart=>exact⟨0,axq _,rfl,axj rfl,y2⟩
   case round=>
    clear d2 y2 d0 y0;obtain⟨k,hk,rfl,fH,he⟩:=hrel;by_cases hlt:k<x.es.length
    .obtain⟨g,off,ed,P,pc,Q,qc,eE,hx,c0,c1,c2,c3,hP,hQ⟩:=(hE.ex he).edge hlt;subst eE;have Hx:=axj hx;have he2:=he.trans ((aCQ wr).alloc (.cells #[.int .i64 ed.kd,.int .i64 ed.vl,.slice P ed.ins.length pc,.slice Q ed.outs.length qc] 156));clear hx;by_cases hp:ed.vl<p
     .have hp2:¬(p<=ed.vl):=by omega
      have Gn:=axj (wV Hx.out fH.out (by simpa using hp));clear he;go_wp2_with fail
      go_roundw;case rel=>exact⟨k+1,by omega,by go_num,Gn,he2⟩
      case measure=>simp[intOf];omega
     .have hp2:p<=ed.vl:=by omega
      have HF:=axj (Jc (f:=λe:Ed=>decide (e.vl<p)) Hx.out (by simpa using hp));clear he;go_wp2_with fail
      go_ret;exact⟨aI (by rw[HR.out,HF.out]),he2⟩
    .obtain rfl:k=x.es.length:=by omega
     have HT:=axj (show x.es.all (λe=>decide (e.vl<p))=true by have:=fH.out;rwa[axE]at this);go_wp2_with fail
     go_ret;exact⟨aI (by rw[HR.out,HT.out]),he⟩
theorem KE(k:Int)(w:World):Calls prog 171 #[.int .i64 k] w λe w'=>e=.returned (.bool (decide (k≠8)&&decide (k≠14)))/\w=w':=by
 by_cases h8:k=8
 .subst h8;go_enter Tryz.func171,Tryz.ntmps171
  go_wp2_with fail
  go_ret;exact⟨rfl,rfl⟩
 .have b8:(k !=8)=true:=by simpa using h8
  by_cases uJ:k=14
  .subst uJ;go_enter Tryz.func171,Tryz.ntmps171
   go_wp2_with fail
   go_ret;exact⟨rfl,rfl⟩
  .have b14:(k !=14)=true:=by simpa using uJ
   have e:(decide (k≠8)&&decide (k≠14))=true:=by simp[h8,uJ]
   rw[e];clear h8 uJ e;go_enter Tryz.func171,Tryz.ntmps171
   go_wp2_with fail
   go_ret;exact⟨rfl,rfl⟩
theorem WG(p:Int)(x:Gr)(E:Option Addr)(ec:Nat)(I:Option Addr)(ic:Nat)(O:Option Addr)(oc:Nat)(w:World)(hE:bW EE w E x.es)(hI:Rd w I x.ins)(hO:Rd w O x.outs):
 Calls prog 139 #[.int .i64 p,.agg #[.int .i64 x.kK,.slice E x.es.length ec,.slice I x.ins.length ic,.slice O x.outs.length oc]] w λe w'=>e=.returned (.bool (KF p x))/\Ex w w':=by
 obtain⟨y0,d0,W0,hW0⟩:=VB.al w 130 #[.int .i64 x.kK,.slice E x.es.length ec,.slice I x.ins.length ic,.slice O x.outs.length oc];rw[hW0]at y0 d0;have hEl:=hE.1;have cV:=ZR p x E ec I ic O oc W0 (hE.ex y0) (hI.ex y0) (hO.ex y0);obtain⟨q0,q1,q2,q3⟩:=d0.d4;have cT:=λ(e:Ed) (W:World)=>KE e.kd W
 cases hV:hgB p x with
 |false=>
  have HR:=axj (show KF p x=false by unfold KF;rw[hV];rfl);rw[hV]at cV;clear hV;go_enter Tryz.func139,Tryz.ntmps139
  go_wp2_with fail
  refine cV.mono ?_;rintro e w2 ⟨rfl,x2⟩;go_wp2_with fail
  go_ret;exact⟨aI HR.out.symm,y0.trans x2⟩
 |true=>
  have HR:=axj (show KF p x=x.es.all P_ by unfold KF;rw[hV];rfl);rw[hV]at cV;clear hV;go_enter Tryz.func139,Tryz.ntmps139
  go_wp2_with fail
  refine cV.mono ?_;rintro e w2 ⟨rfl,x2⟩;have d2:=d0.ex x2;have y2:=y0.trans x2;have q1:=d2.c1;clear cV q0 q2 q3;go_wp2_with fail
  clear q1;go_loopw [14] (λi wr=>∃k:Nat,k<=x.es.length/\i=.int .i64 k/\Hid ((x.es.take k).all P_=true)/\Ex w wr) (λi _=>x.es.length-(intOf i).toNat)
  case atStart=>exact⟨0,axq _,rfl,axj rfl,y2⟩
  case round=>
   clear d2 y2 d0 y0;obtain⟨k,hk,rfl,fH,he⟩:=hrel;by_cases hlt:k<x.es.length
   .obtain⟨g,off,ed,P,pc,Q,qc,eE,hx,c0,c1,c2,c3,hP,hQ⟩:=(hE.ex he).edge hlt;subst eE;have Hx:=axj hx;have he2:=he.trans ((aCQ wr).alloc (.cells #[.int .i64 ed.kd,.int .i64 ed.vl,.slice P ed.ins.length pc,.slice Q ed.outs.length qc] 156));have cT:=λ(W:World)=>cT ed W
    have eT:(decide (ed.kd≠8)&&decide (ed.kd≠14))=P_ ed:=rfl;clear hx he;go_wp2_with fail
    refine(cT _).mono ?_;rintro e w3 ⟨rfl,rfl⟩;rw[eT];clear cT eT;cases hp:P_ ed with
    |true=>
     have Gn:=axj (wV Hx.out fH.out hp);clear hp;go_wp2_with fail
     go_roundw;case rel=>exact⟨k+1,by omega,by go_num,Gn,he2⟩
     case measure=>simp[intOf];omega
    |false=>
     have HF:=axj (Jc (f:=P_) Hx.out hp);clear hp;go_wp2_with fail
     go_ret;exact⟨aI (by rw[HR.out,HF.out]),he2⟩
   .obtain rfl:k=x.es.length:=by omega
    have HT:=axj (show x.es.all P_=true by have:=fH.out;rwa[axE]at this);go_wp2_with fail
    go_ret;exact⟨aI (by rw[HR.out,HT.out]),he⟩
end Go.Proofs.YthgiffhlfcmgaaaGreatDoor
