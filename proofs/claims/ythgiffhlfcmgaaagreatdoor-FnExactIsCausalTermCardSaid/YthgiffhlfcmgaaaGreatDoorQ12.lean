/- Lemmas and walks on terms over rational functions: The program's reduced list over Z/p: clones .. -/
import Derived.Test.YthgiffhlfcmgaaaGreatDoorQ09
namespace Go.Proofs.YthgiffhlfcmgaaaGreatDoor
open Tryz(prog)
set_option maxRecDepth 100000
set_option maxHeartbeats 8000000
set_option linter.all false
open Go Go.RowKit
variable{rows:List (List Int)}{B a b c n:Nat}{A:Option Addr}{v:Value}{w:World}
theorem DZ(n:Nat)(hn:n<=1099511627776)(w:World):
 (Instr.makeSlice 92 (.int .i64 0) (.int .i64 (n:Int))).run prog w=.ok (.slice (some ⟨w.heap.size,0,none⟩) 0 n) (w.alloc (.cells (Array.replicate n (Value.slice none 0 0)) 55)):=by
 obtain⟨i,hi,hz,hs,hb⟩:=axW nI;have hr:=run_make (P:=prog) w 92 55 i (.slice none 0 0) Tryz.underlying92 hi hz .i64 .i64 (0:Nat) n (by omega) (by omega) (by rw[hb];omega) (by omega);simp only[azi,hs]at hr;rw[EJ,show(List.replicate n (Value.slice none 0 0)).toArray=Array.replicate n (Value.slice none 0 0) by simp]at hr;exact hr
theorem GE.room(w:World)(hB:B<=w.heap.size)(hn:n<=1099511627776):GE UD 55 (w.alloc (.cells (Array.replicate n (Value.slice none 0 0)) 55)) B (w.heap.size+1) (.slice (some ⟨w.heap.size,0,none⟩) 0 n) []:=by have ho:(w.alloc (.cells (Array.replicate n (Value.slice none 0 0)) 55)).ownsRow B 55 UD.k (.slice (some ⟨w.heap.size,0,none⟩) 0 n) 0 []:=⟨by simp,.inr ⟨w.heap.size,n,_,rfl,hB,heap_alloc_new w _,axq _,by unfold maxLen;omega,by simp[UD],by simp⟩⟩;exact⟨λk e=>by injection e with e;subst e;exact⟨hB,ayf _⟩,[],λ_=>0,λ_=>0,rfl,ho,(λj r hj=>by simp at hj),(λi j hi=>by simp at hi)⟩
theorem aaY(rows:List (List Int))(A:Option Addr)(c:Nat)(w:World)(h:oC w A rows)(hR:rows.length<=1000):
 Calls prog 188 #[.slice A rows.length c] w λe w'=>∃g c',e=.returned (.slice (some ⟨g,0,none⟩) rows.length c')/\rows.length<=c'/\GE UD 55 w' w.heap.size w'.heap.size (.slice (some ⟨g,0,none⟩) rows.length c') rows/\Ex w w':=by
 obtain⟨R,hRl⟩:=xq rows.length;have Pj:=axj hRl;rw[hRl]at hR⊢;clear hRl;have hmk:=λW=>DZ R (by omega) W
 have y1:=(aCQ w).alloc (.cells (Array.replicate R (Value.slice none 0 0)) 55);have g1:=GE.room w (B:=w.heap.size) (n:=R) (axk _) (by omega);have s1:(w.alloc (.cells (Array.replicate R (Value.slice none 0 0)) 55)).heap.size=w.heap.size+1:=by simp
 rw[<-s1]at g1;go_enter Tryz.func188,Tryz.ntmps188
 go_wp2_with fail
 generalize w.alloc (.cells (Array.replicate R (Value.slice none 0 0)) 55)=W1 at*;go_loopw [3,11] (λs3 s11 wr=>∃k:Nat,k<=R/\s11=.int .i64 k/\GE UD 55 wr w.heap.size wr.heap.size s3 (rows.take k)/\s3≠.slice none 0 0/\Ex w wr) (λ_ s11 _=>R-(intOf s11).toNat)
 case atStart=>exact⟨0,axq _,rfl,g1,(λe=>by injection e with e;cases e),y1⟩
 case round=>
  rename World=>wb;clear g1 y1 s1;obtain⟨k,hk,rfl,hge,hnn,hex⟩:=hrel;by_cases NS:k<R
  .obtain⟨g0,aiC,A1,c1,r1,rfl,hr1,hc1,hrd⟩:=(h.ex hex).at_ (by rw[Pj.out];exact NS);have HT:=axj (show rows.take (k+1)=rows.take k++[r1] by rw[axy,hr1];rfl);have htl:=ax7 k rows;have htk:(rows.take (k+1)).length=k+1:=by rw[axx,Pj.out];omega
   have hsz:=hex.size;have cO:=zK A1 c1 r1 wb hrd;have HTK:=axj htk;clear hr1 htk;go_wp2_with fail
   refine cO.mono ?_;rintro e w1 ⟨g,c',rfl,hc',hg,hO,x1⟩;have z1:=x1.size;obtain⟨v',w2,hrun,wH,hE2⟩:=yH (hge.ex x1) z1 hO hc' hg hsz (by omega);rw[<-HT.out]at wH;have x2:=hE2 w (hex.trans x1) (axk _);have hn2:v'≠.slice none 0 0:=λe=>by obtain⟨_,_,e2⟩:=wH.kH;rw[e,HTK.out]at e2;injection e2 with _ e2 _;omega
   clear hE2 HT htl cO hge;go_wp2_with (at_builtin;refine wpList_append_run rfl _ _ _ rfl rfl rfl hrun ?_)
   go_roundw;case rel=>exact⟨k+1,by omega,by go_num,wH,hn2,x2⟩
   case measure=>simp[intOf];omega
  .obtain rfl:R=k:=by omega
   rw[axG (by rw[Pj.out];exact axk _)]at hge;have hfm:=hge.form hnn;rw[Pj.out]at hfm;obtain⟨G,C,rfl,hRC,_⟩:=hfm;go_wp2_with fail
   go_ret;exact⟨G,C,rfl,hRC,hge,hex⟩
theorem U8(p:Int)(n:Nat)(rows:List (List Int))(A:Option Addr)(c:Nat)(w:World)(hF:av p=true)(h:oC w A rows)(hw:aQ n rows)(he:fQ p rows)(hn:n<=1000)(hR:rows.length<=1000):
 Calls prog 162 #[.int .i64 p,.slice A rows.length c,.int .i64 n] w λe w'=>∃A' c',e=.returned (.slice A' ((ay p).aC n rows).length c')/\dU w' A' ((ay p).aC n rows)/\Ex w w':=by
 have HF:=axj hF;have HW:=axj hw;have HE:=axj he;have cC:=aaY rows A c w h hR;obtain⟨R,hRl⟩:=xq rows.length;have Pj:=axj hRl;rw[hRl]at hR cC⊢;obtain⟨FIN,qR⟩:=xq ((ay p).red n 0 0 rows);have dN:=axj qR;have HRR:=axj (show(ay p).aC n rows=FIN.1.take FIN.2 by unfold Ops.aC;rw[qR]);clear hF hw he h hRl qR;have hmk:=λW=>B_ R (by omega) W
 go_enter Tryz.func162,Tryz.ntmps162
 go_wp2_with fail
 refine cC.mono ?_;rintro e w1 ⟨G,C,rfl,hRC,hge,x1⟩;clear cC;obtain⟨bs,hM,hG,hbs⟩:=hge.im HW.out;have hbl:∀b∈bs,b<w1.heap.size:=λb hb=>by obtain⟨j,hj⟩:=axz hb;have hjl:=(axp.1 hj).1;exact(hM.row j b _ hj (axn (by rw[<-hM.len];exact hjl))).1.lt
 have y1:=(aCQ w1).alloc (.cells (List.replicate R (Value.slice none 0 0)).toArray 55);have hN:rG (w1.alloc (.cells (List.replicate R (Value.slice none 0 0)).toArray 55)) w1.heap.size R:=⟨_,heap_alloc_new w1 _,λj hj=>by simp[hj]⟩;have hgl:=hM.lt;have hsz:=x1.size;have cR:=MG w _ p G w1.heap.size n R C R bs rows HF.out (hM.ex y1) hN Pj.out (by omega) (λb hb=>by have:=hbl b hb;omega) HW.out HE.out hn hR (x1.trans y1) hG hsz hbs;rw[dN.out]at cR;clear hge hM hbl hN hbs y1;go_wp2_with fail
 refine cR.mono ?_;rintro e w3 ⟨bs3,rfl,NY,hl3,hr3,x3⟩;clear cR;have hrr:=NY.aiv (by rw[hl3];omega) FIN.2;have HT:=axj (show(FIN.1.take FIN.2).length=FIN.2 by rw[axx,hl3];omega);have HL3:=axj hl3;obtain⟨r,hr⟩:=xq FIN.2;rw[hr]at hr3 hrr HT HRR⊢;have hrC:r<=C:=by omega
 clear NY hl3 hr;go_wp2_with fail
 go_ret;rw[HRR.out];exact⟨some ⟨G,0,none⟩,r,by rw[HT.out];rfl,hrr,x3⟩
theorem oC.two{g ca cb:Nat}{r s:List Int}(h0:w.cell? ⟨g,0,none⟩=some (.slice (some ⟨a,0,none⟩) r.length ca))(h1:w.cell? ⟨g,1,none⟩=some (.slice (some ⟨b,0,none⟩) s.length cb))(hr:Rd w (some ⟨a,0,none⟩) r)(hs:Rd w (some ⟨b,0,none⟩) s):oC w (some ⟨g,0,none⟩) [r,s]:=
 ⟨by simp,λj x hj=>by
  rcases j with _|_|j
  .injection hj with hj;subst hj;exact⟨g,0,_,ca,rfl,h0,hr⟩
  .injection hj with hj;subst hj;exact⟨g,0,_,cb,rfl,h1,hs⟩
  .simp at hj⟩
theorem oC.one{g ca:Nat}{r:List Int}(h0:w.cell? ⟨g,0,none⟩=some (.slice (some ⟨a,0,none⟩) r.length ca))(hr:Rd w (some ⟨a,0,none⟩) r):oC w (some ⟨g,0,none⟩) [r]:=
 ⟨by simp,λj x hj=>by
  rcases j with _|j
  .injection hj with hj;subst hj;exact⟨g,0,_,ca,rfl,h0,hr⟩
  .simp at hj⟩
theorem dU.st{w':World}{t:Nat}{ty:TypeId}{a b:Int}{S:Option Addr}(h:dU w A rows)(hv:VB w t ty #[.int .i64 a,.int .i64 b,.slice S n c])(hty:ty≠3)(k:aM t w w'):dU w' A rows:=
 ⟨h.1,λj r hj=>by
  obtain⟨g0,_,_,e0,_⟩:=h.2 j r hj;have hg:g0≠t:=λe=>by
   have hl:0<rows.length:=by have:=(axp.1 hj).1;omega
   obtain⟨g1,_,_,e1,q,_⟩:=h.2 0 _ (axn hl);rw[e0]at e1;injection e1 with e1;injection e1 with e1 _ _;subst e1 e;rw[hv.c0]at q;cases q
  obtain⟨g,B,C,e1,q,l,o⟩:=h.2 j r hj;rw[e0]at e1;injection e1 with e1;injection e1 with e1 _ _;subst e1;have hB:B≠t:=λe=>by obtain⟨cur,hb,_⟩:=o;subst e;have h2:w.heap[B]?=some (.cells #[.int .i64 a,.int .i64 b,.slice S n c] ty (0,0)):=hv;rw[hb]at h2;injection h2 with h2;injection h2 with _ h3 _;exact hty h3.symm
  exact⟨g0,B,C,e0,(axP (w:=w) (a:=⟨g0,j,none⟩) (k.block g0 (jC (p:=⟨g0,j,none⟩) q) (λe=>by injection e with e;exact hg e))).trans q,l,o.aK k hB⟩⟩
theorem tu(k v:Int)(w:World):Calls prog 131 #[.int .i64 k,.int .i64 v] w λe w'=>∃A c,e=.returned (.slice A (lM k v).length c)/\oC w' A (lM k v)/\Ex w w':=by
 have M9:∀r:List Int,r.length<=10->∃W,W=(w.alloc (aN r)).alloc (.cells #[.slice (some ⟨w.heap.size,0,none⟩) r.length r.length] 55)/\oC W (some ⟨w.heap.size+1,0,none⟩) [r]/\Ex w W:=λr hr=>by
  have x1:=(aCQ w).alloc (aN r);have s1:(w.alloc (aN r)).heap.size=w.heap.size+1:=by simp
  have x2:=(aCQ (w.alloc (aN r))).alloc (.cells #[.slice (some ⟨w.heap.size,0,none⟩) r.length r.length] 55);have v2:=VB.new (w.alloc (aN r)) 55 #[.slice (some ⟨w.heap.size,0,none⟩) r.length r.length];rw[s1]at v2;exact⟨_,rfl,oC.one (v2.c0) (((dW.new w r).rd (by omega)).ex x2),x1.trans x2⟩
 by_cases h3:k=3
 .subst h3;obtain⟨W,hW,hR,hE⟩:=M9 [1,1,1] (by simp);subst hW;clear M9;go_enter Tryz.func131,Tryz.ntmps131
  go_wp2;go_ret;exact⟨some ⟨w.heap.size+1,0,none⟩,1,rfl,hR,hE⟩
 by_cases h4:k=4
 .subst h4;obtain⟨W,hW,hR,hE⟩:=M9 [1] (by simp);subst hW;clear M9;go_enter Tryz.func131,Tryz.ntmps131
  go_wp2;go_ret;exact⟨some ⟨w.heap.size+1,0,none⟩,1,rfl,hR,hE⟩
 by_cases h5:k=5
 .subst h5;have x1:=(aCQ w).alloc (aN [1,0,1]);have s1:(w.alloc (aN [1,0,1])).heap.size=w.heap.size+1:=by simp
  have x2:=(aCQ (w.alloc (aN [1,0,1]))).alloc (aN [0,1,1]);have b2:=dW.new (w.alloc (aN [1,0,1])) [0,1,1];have s2:((w.alloc (aN [1,0,1])).alloc (aN [0,1,1])).heap.size=w.heap.size+1+1:=by simp
  rw[s1]at b2;have x3:=(aCQ ((w.alloc (aN [1,0,1])).alloc (aN [0,1,1]))).alloc (.cells #[.slice (some ⟨w.heap.size,0,none⟩) 3 3,.slice (some ⟨w.heap.size+1,0,none⟩) 3 3] 55);have v3:=VB.new ((w.alloc (aN [1,0,1])).alloc (aN [0,1,1])) 55 #[.slice (some ⟨w.heap.size,0,none⟩) 3 3,.slice (some ⟨w.heap.size+1,0,none⟩) 3 3];rw[s2]at v3;have hR:=oC.two (r:=[1,0,1]) (s:=[0,1,1]) (v3.c0) (v3.c1) (((dW.new w [1,0,1]).rd (by simp)).ex (x2.trans x3)) ((b2.rd (by simp)).ex x3);have hE:=(x1.trans x2).trans x3;clear M9;go_enter Tryz.func131,Tryz.ntmps131
  go_wp2;go_ret;exact⟨some ⟨w.heap.size+1+1,0,none⟩,2,rfl,hR,hE⟩
 by_cases h7:k=7
 .subst h7;obtain⟨W,hW,hR,hE⟩:=M9 [1,v] (by simp);subst hW;clear M9;go_enter Tryz.func131,Tryz.ntmps131
  go_wp2;go_ret;exact⟨some ⟨w.heap.size+1,0,none⟩,1,rfl,hR,hE⟩
 have hg:lM k v=[]:=by unfold lM;rw[axm h3,axm h4,axm h5,axm h7]
 have HG:=axj hg;clear hg M9;go_enter Tryz.func131,Tryz.ntmps131
 go_wp2;go_ret;rw[HG.out];exact⟨none,0,rfl,⟨by simp,λj r hj=>by simp at hj⟩,aCQ w⟩
theorem JO(k:Int)(h:bL 9 14 k=true)(w:World):Calls prog 129 #[.int .i64 k] w λe w'=>e=.returned (.int .i64 (k-6))/\w=w':=by
 have c1:=λW=>jb k 3 8 W
 have c2:=λW=>jb k 9 14 W
 have hk:9<=k/\k<=14:=by simpa[bL]using h
 have h1:bL 3 8 k=false:=by simp[bL];omega
 rw[h1]at c1;rw[h]at c2;have w1:IntKind.i64.wrap (k-9)=k-9:=axC _ (by omega);have w2:IntKind.i64.wrap (k-9+3)=k-6:=by rw[axC _ (by omega)];omega
 clear h h1 hk;go_enter Tryz.func129,Tryz.ntmps129
 go_wp2_with fail
 refine(c1 _).mono ?_;rintro e _ ⟨rfl,rfl⟩;go_wp2_with fail
 refine(c2 _).mono ?_;rintro e _ ⟨rfl,rfl⟩;go_wp2;go_ret;exact⟨rfl,rfl⟩
theorem afi(n i:Nat)(hn:n<=1099511627776)(hi:i<n)(w:World):Calls prog 161 #[.int .i64 n,.int .i64 i] w λe w'=>∃g,e=.returned (.slice (some ⟨g,0,none⟩) n n)/\w.heap.size<=g/\dW w' g ((List.replicate n 0).set i 1)/\Ex w w':=by
 go_enter Tryz.func161,Tryz.ntmps161
 go_wp2_with fail
 refine(CV n hn _).mono ?_;rintro e w2 ⟨g,rfl,hg,hb,x2⟩;have hc:=hb.cell (i:=i) (x:=0) (by simp[hi]);have hf:=hb.frozen i;have hB:=hb.bC i 1;have hE:Ex w (w2.setCell ⟨g,i,none⟩ (.int .i64 1)):=x2.setCell (p:=⟨g,i,none⟩) hg _;go_wp2_with fail
 go_ret;exact⟨g,rfl,hg,hB,hE⟩
theorem rY(p:Int)(l r:Nat)(rows:List (List Int))(A:Option Addr)(c:Nat)(w:World)(hF:av p=true)(h:oC w A rows)(hw:aQ (l+r) rows)(he:fQ p rows)(hn:l+r<=1000)(hR:rows.length<=1000):
 Calls prog 127 #[.int .i64 p,.int .i64 l,.int .i64 r,.slice A rows.length c] w λe w'=>∃A' c',e=.returned (.agg #[.int .i64 l,.int .i64 r,.slice A' ((ay p).aC (l+r) rows).length c'])/\dU w' A' ((ay p).aC (l+r) rows)/\Ex w w':=by
 have hwr:IntKind.i64.wrap ((l:Int)+(r:Int))=((l+r:Nat):Int):=by rw[axC _ (by omega)];omega
 obtain⟨x0,d0⟩:=VB.xn w 94 #[.int .i64 0,.int .i64 0,.slice none 0 0];have cR:=U8 p (l+r) rows A c (w.alloc (.cells #[.int .i64 0,.int .i64 0,.slice none 0 0] 94)) hF (h.ex x0) hw he hn hR;have hs0:(w.alloc (.cells #[.int .i64 0,.int .i64 0,.slice none 0 0] 94)).heap.size=w.heap.size+1:=by simp
 generalize(ay p).aC (l+r) rows=RR at*;obtain⟨N,hN⟩:=xq (l+r);rw[hN]at hwr cR;clear hN hn hF h hw he hR;go_enter Tryz.func127,Tryz.ntmps127
 go_wp2_with fail
 generalize w.alloc (.cells #[.int .i64 0,.int .i64 0,.slice none 0 0] 94)=W0 at*;refine cR.mono ?_;rintro e w1 ⟨A1,c1,rfl,r1,x1⟩;have dz:=d0.ex x1;have xz:=x0.trans x1;obtain⟨dd,zz⟩:=dz.l8 (.int .i64 l) (.int .i64 r) (.slice A1 RR.length c1);obtain⟨u0,u1,u2⟩:=dz.d3;obtain⟨k0,k1,k2⟩:=dz.z3;obtain⟨C0,C1,C2⟩:=dd.d3;have eF:=xz.aK zz (axk _);clear cR;go_wp2_with fail
 refine axu (v:=.agg #[.int .i64 l,.int .i64 r,.slice A1 RR.length c1]) (by simp[results,Tryz.results127,go_sem,C0,C1,C2]) rfl ?_;exact⟨A1,c1,rfl,r1.st dz (by decide) zz,eF⟩
theorem U0{lo:Nat}(h1:lo<=n)(h2:n<=c):∃P,(∀W,(Instr.sliceAt 55 (.slice A n c) (some (.int .i64 (lo:Int))) none none).run prog W=.ok (.slice P (n-lo) (c-lo)) W)/\
 ∀(W:World) (r:List Int),r.length=n->Rd W A r->Rd W P (r.drop lo):=by
 obtain⟨i,hi,hz,hs,hby⟩:=axW Di;have e1:(0:Int)<=(lo:Int):=by omega
 have e2:(lo:Int)<=(n:Int):=by omega
 refine⟨if c=lo then A else A.map (λa=>a.add (lo*1)),λW=>?_,λW r hr hq=>?_⟩
 .simp[Instr.sliceAt,Instr.slice,ayj Tryz.underlying55,Instr.sliceBounds,run_sliceBound,sizeOf,typeInfo,hi,hs,e1,e2]
 .by_cases e:r.drop lo=[]
  .rw[e];exact Rd.nil _ _
  .have hl:lo<n:=by
    have:=axB.2 e;rw[axF]at this;omega
   rw[axm (by omega)];obtain⟨g,off,x,rfl,_⟩:=hq.at_ (k:=lo) (by omega);rw[show(some (⟨g,off,none⟩:Addr)).map (λa=>a.add (lo*1))=some ⟨g,off+lo*1,none⟩ by
    rw[ayP];unfold Addr.add;split<;>simp_all,ays]
   refine⟨by rw[axF];have:=hq.len;omega,λj hj=>⟨g,off+lo,rfl,?_⟩⟩;have hj':lo+j<r.length:=by rw[axF]at hj;omega
   have:=hq.cell (axn hj');rw[axY,axn hj',ay8];exact this
theorem UY{hi:Nat}(h:hi<=c)(W:World):(Instr.sliceAt 55 (.slice A n c) none (some (.int .i64 (hi:Int))) none).run prog W=.ok (.slice A hi c) W:=by
 obtain⟨i,hi',hz,hs,hby⟩:=axW Di;have e1:(0:Int)<=(hi:Int):=by omega
 have e2:(hi:Int)<=(c:Int):=by omega
 have e3:A.map (λa=>a.add 0)=A:=by
  cases A with
  |none=>rfl
  |some a=>obtain⟨g,off,x⟩:=a;cases x<;>simp[Addr.add]
 simp[Instr.sliceAt,Instr.slice,ayj Tryz.underlying55,Instr.sliceBounds,run_sliceBound,sizeOf,typeInfo,hi',e1,e2,e3]
theorem OI.form'{xs:List Int}(h:OI w a b v xs):∃A c,v=.slice A xs.length c/\Rd w A xs:=by obtain⟨A,c,e,r⟩:=h.rd;exact⟨A,c,e,r⟩
def Xr:EL (List Int) where
 k:=1
 O:=λw a b vs x=>∃v,vs=[v]/\OI w a b v x
 mM:=λ⟨_,h,_⟩=>by rw[h];rfl
 keep:=λ⟨v,h,o⟩ hk=>⟨v,h,o.keep hk⟩
 one:=λ⟨v,h,o⟩ u hu=>by obtain⟨_,_,e,_⟩:=o.form';rw[h]at hu;simp at hu;subst hu;rw[e];rfl
theorem ace{H:Nat}{xs:List (List Int)}(h:GE Xr 55 w B H v xs)(hH:H<=w.heap.size){u:Value}{x:List Int}(hx:OI w a b u x)(ha:H<=a)(hab:a<=b)(hb:b<=w.heap.size)(hB:B<=H)(hl:xs.length+1<=1099511627776):
 ∃v' w',(Builtin.append_ #[92,92] 92 #[v,.slice (some ⟨w.heap.size,0,none⟩) 1 1]).run prog (w.alloc (.cells #[u] 55))=.ok v' w'/\
  GE Xr 55 w' B w'.heap.size v' (xs++[x])/\∀b',Ex b' w->b'.heap.size<=B->Ex b' w':=by
 obtain⟨i,hi,hz,hs,hby⟩:=axW nI;obtain⟨v',w',h1,h2,_,_,_,h6⟩:=GE.push Xr Tryz.underlying92 hi hz hs hby rfl (by decide) (by omega) h hH (u:=[u]) (x:=x) (a:=a) (b:=b) ⟨u,rfl,hx⟩ ha hab hb hB hl;exact⟨v',w',h1,h2,h6⟩
theorem GE.aiw{H:Nat}{xs:List (List Int)}(h:GE Xr 55 w B H v xs)(hl:xs.length<=1099511627776):∃A c,v=.slice A xs.length c/\oC w A xs:=by
 by_cases hv:v=.slice none 0 0
 .obtain⟨_,_,e⟩:=h.kH;rw[hv]at e;injection e with _ e1 _;have e2:xs=[]:=List.length_eq_zero_iff.1 e1.symm;subst e2;exact⟨none,0,hv,by simp,λj r hj=>by simp at hj⟩
 .obtain⟨g,c,rfl,_⟩:=h.form hv;obtain⟨cur,al,bl,e,_,_,hh,h1,_⟩:=h.at_;refine⟨_,c,rfl,hl,λj r hj=>?_⟩;obtain⟨u,q1,⟨v2,q2,q3⟩,_⟩:=h1 j r hj;obtain⟨A2,c2,e2,r2⟩:=q3.form';have hc:=q1 0 _ (by rw[q2];rfl);rw[show Xr.k=1 from rfl,ays,ayb]at hc;refine⟨g,0,A2,c2,rfl,?_,r2⟩;rw[<-e2];simp[World.cell?,hh,hc]
theorem adq(l r:Nat)(V:Value)(n:Nat)(P:Option Addr)(pc:Nat)(w:World)(h:l<=pc)(hV:∃A n c,V=.slice A n c):
 Calls prog 166 #[.agg #[.int .i64 l,.int .i64 r,V],.slice P n pc] w λe w'=>e=.returned (.slice P l pc)/\Ex w w':=by
 obtain⟨A,m,c,rfl⟩:=hV;have hs:=λW=>UY (A:=P) (n:=n) h W
 have x0:=(aCQ w).alloc (.cells #[.int .i64 l,.int .i64 r,.slice A m c] 94);go_enter Tryz.func166,Tryz.ntmps166
 go_wp2;go_ret;exact⟨rfl,x0⟩
theorem X_(l r:Nat)(V:Value)(n:Nat)(P:Option Addr)(pc:Nat)(h:l<=n)(hc:n<=pc)(hV:∃A n c,V=.slice A n c):
 ∃P',(∀(W:World) (row:List Int),row.length=n->Rd W P row->Rd W P' (row.drop l))/\∀w,Calls prog 165 #[.agg #[.int .i64 l,.int .i64 r,V],.slice P n pc] w λe w'=>e=.returned (.slice P' (n-l) (pc-l))/\Ex w w':=by
 obtain⟨A,m,c,rfl⟩:=hV;obtain⟨P',hs,hr⟩:=U0 (A:=P) h hc;refine⟨P',hr,λw=>?_⟩;have x0:=(aCQ w).alloc (.cells #[.int .i64 l,.int .i64 r,.slice A m c] 94);clear hr;go_enter Tryz.func165,Tryz.ntmps165
 go_wp2;go_ret;exact⟨rfl,x0⟩
theorem OD(l r t:Nat)(V:Value)(row:List Int)(P:Option Addr)(pc:Nat)(w:World)(h:l<=row.length)(hc:row.length<=pc)(hV:∃A n c,V=.slice A n c)(hR:Rd w P row)(hv:VB w t 94 #[.int .i64 l,.int .i64 r,V])(hrl:row.length<=1000):
 Calls prog 164 #[.slice P row.length pc,.pointer (some ⟨t,0,none⟩)] w λe w'=>LIo w (row.drop l++row.take l) e w':=by
 obtain⟨P',hd,c2⟩:=X_ l r V row.length P pc h hc hV;have c1:=λW=>adq l r V row.length P pc W (axA h hc) hV
 obtain⟨A,n,c,rfl⟩:=hV;have HS:∀W,Ex w W->(Ex w W/\W.cell? ⟨t,0,none⟩=some (.int .i64 l)/\W.cell? ⟨t,1,none⟩=some (.int .i64 r)/\W.cell? ⟨t,2,none⟩=some (.slice A n c)):=λW hW=>
  have hv':=hv.ex hW
  ⟨hW,hv'.c0,hv'.c1,hv'.c2⟩
 have cJ:∀(W:World) (g:Nat),Ex w W->VB W g 55 #[.slice P' (row.length-l) (pc-l),.slice P l pc]->Calls prog 160 #[.slice (some ⟨g,0,none⟩) 2 2] W λe w'=>LIo W (row.drop l++row.take l) e w':=λW g hW hb=>by
  have hR':=hR.ex hW;have hdl:(row.drop l).length=row.length-l:=axF;have htl:(row.take l).length=l:=by rw[axx];omega
  have:=NA (some ⟨g,0,none⟩) 2 [row.drop l,row.take l] W ⟨by simp,λj x hj=>by
   rcases j with _|_|j
   .injection hj with hj;subst hj;exact⟨g,0,P',pc-l,rfl,by rw[hdl];exact hb.c0,hd W row rfl hR'⟩
   .injection hj with hj;subst hj;exact⟨g,0,P,pc,rfl,by rw[htl];exact hb.c1,hR'.take l⟩
   .simp at hj⟩ (by simp;omega)
  simpa using this
 obtain⟨m,hm⟩:=xq row.length;obtain⟨out,hout⟩:=xq (row.drop l++row.take l);rw[hm]at c1 c2 cJ⊢;rw[hout]at cJ⊢;clear hm hout hd hR hrl h hc hv;go_enter Tryz.func164,Tryz.ntmps164
 go_wp2_with fail
 go_region_held3 (λW=>Ex w W/\W.cell? ⟨t,0,none⟩=some (.int .i64 l)/\W.cell? ⟨t,1,none⟩=some (.int .i64 r)/\W.cell? ⟨t,2,none⟩=some (.slice A n c)) (first
  |(exact HS _ x9)|(exact HS _ (x1.alloc _))|(exact HS _ x1)|(exact HS _ (aCQ w).drew)|(exact HS _ (aCQ w))) (first
  |(go_at_call 165
    have hb:=(‹Ex w _/\_›).1;refine(c2 _).mono ?_;rintro e _ ⟨rfl,Gv⟩;have x1:=hb.trans Gv;clear hb Gv)
  |(go_at_call 166
    have hb:=(‹Ex w _/\_›).1;refine(c1 _).mono ?_;rintro e _ ⟨rfl,Gv⟩;have x1:=hb.trans Gv;clear hb Gv)
  |(go_at_call 160
    refine(cJ _ _ (x1.alloc _) (VB.new _ _ _)).mono ?_;rintro e w9 ⟨v,rfl,o9,x9'⟩;have x0:=x1.alloc (.cells #[.slice P' (m-l) (pc-l),.slice P l pc] 55);have x9:=x0.trans x9';have o10:=o9.more x0.size (axk _)))
 all_goals
  go_wp2;go_ret;exact⟨_,rfl,o10,x9⟩
theorem Kz:∀args w,(callFunc 164 args).run prog w=.ok (.enter 164 args) w:=enters_of Tryz.func164 (by kernel_rfl) rfl
theorem agU(l r t:Nat)(rows:List (List Int))(A:Option Addr)(c:Nat)(w:World)(h:dU w A rows)(hw:aQ (l+r) rows)(hn:l+r<=1000)(hR:rows.length<=1000)(hv:VB w t 94 #[.int .i64 l,.int .i64 r,.slice A rows.length c]):
 Calls prog 163 #[.agg #[.int .i64 l,.int .i64 r,.slice A rows.length c],.func (.func 164) #[] #[.pointer (some ⟨t,0,none⟩)]] w λe w'=>∃A' c',e=.returned (.slice A' rows.length c')/\oC w' A' (iM l rows)/\Ex w w':=by
 have eg:=Kz;obtain⟨out,ho⟩:=xq (iM l rows);have HO:=axj ho;have hol:out.length=rows.length:=by rw[<-ho];unfold iM;rw[axs]
 rw[ho];clear ho;obtain⟨R,hRl⟩:=xq rows.length;have Pj:=axj hRl;rw[hRl]at hol;have cF:∀(W:World) (k:Nat),k<R->Ex w W->∃g off P pc row,A=some ⟨g,off,none⟩/\W.cell? ⟨g,off+k,none⟩=some (.slice P row pc)/\∀W',Ex W W'->Calls prog 164 #[.slice P row pc,.pointer (some ⟨t,0,none⟩)] W' λe w'=>∃x,out[k]?=some x/\LIo W' x e w':=λW k hk hW=>by
  have hkl:k<rows.length:=by omega
  obtain⟨row,hr⟩:∃row,rows[k]?=some row:=⟨_,axn hkl⟩;obtain⟨g,b,pc,eA,hc,hcp,hO⟩:=(h.ex hW).2 k row hr;have hl:=hw row (axo hr);refine⟨g,0,some ⟨b,0,none⟩,pc,row.length,eA,by rw[axT];exact hc,λW' hW'=>?_⟩;refine(OD l r t (.slice A rows.length c) row (some ⟨b,0,none⟩) pc W' (by omega) hcp ⟨_,_,_,rfl⟩ ((hO.ex hW').rd (by omega)) ((hv.ex hW).ex hW') (by omega)).mono λe w' q=>⟨_,?_,q⟩
  rw[<-HO.out];unfold iM;rw[axw,hr];rfl
 rw[hRl]at hR⊢;clear hRl;obtain⟨y0,d0⟩:=VB.xn w 94 #[.int .i64 l,.int .i64 r,.slice A R c];have s0:(w.alloc (.cells #[.int .i64 l,.int .i64 r,.slice A R c] 94)).heap.size=w.heap.size+1:=by simp
 have C2:=d0.c2;clear h hw hn hv;go_enter Tryz.func163,Tryz.ntmps163
 go_wp2_with fail
 generalize w.alloc (.cells #[.int .i64 l,.int .i64 r,.slice A R c] 94)=W0 at*;have tX:=GE.empty Xr 55 W0 (B:=W0.heap.size) (axk _);have y1:=y0.alloc (.cells #[] 55);have s1:(W0.alloc (.cells #[] 55)).heap.size=W0.heap.size+1:=by simp
 have C2:=(d0.ex ((aCQ W0).alloc (.cells #[] 55))).c2;rw[<-s1]at tX;go_wp2_with fail
 generalize W0.alloc (.cells #[] 55)=W1 at*;have oL:=GE.more (B':=w.heap.size) tX (by omega) (axk _);go_loopw [5,12] (λs5 s12 wr=>∃k:Nat,k<=R/\s12=.int .i64 k/\GE Xr 55 wr w.heap.size wr.heap.size s5 (out.take k)/\Ex w wr) (λ_ s12 _=>R-(intOf s12).toNat)
 case atStart=>exact⟨0,axq _,rfl,by first|exact oL|(rw[<-s0];exact oL)|simpa[s0]using oL,y1⟩
 case round=>
  rename World=>wb;clear oL tX y0 y1 s1 s0 d0 C2;obtain⟨k,hk,rfl,hge,hex⟩:=hrel;by_cases NS:k<R
  .obtain⟨g0,aiC,P,pc,m,rfl,hc1,cO⟩:=cF wb k NS hex;have hsz:=hex.size;have HOL:=axj hol;clear cF hol;go_wp2_with fail
   refine(cO _ (aCQ _)).mono ?_;rintro e w1 ⟨x,hx,v,rfl,ho,x1⟩;have z1:=x1.size;have HT:=axj (show out.take (k+1)=out.take k++[x] by rw[axy,hx];rfl);have htl:=ax7 k out;obtain⟨v',w2,hrun,wH,hE2⟩:=ace (hge.ex x1) z1 ho (axk _) z1 (axk _) hsz (by omega);rw[<-HT.out]at wH;have x2:=hE2 w (hex.trans x1) (axk _);clear hE2 HT htl cO hge hx;obtain⟨_,_,rfl,_⟩:=ho.form';go_wp2_with (at_builtin;refine wpList_append_run rfl _ _ _ rfl rfl rfl hrun ?_)
   go_roundw;case rel=>exact⟨k+1,by omega,by go_num,wH,x2⟩
   case measure=>simp[intOf];omega
  .obtain rfl:R=k:=by omega
   rw[axG (by omega)]at hge;obtain⟨G,C,rfl,hM⟩:=hge.aiw (by omega);rw[hol];clear cF hol;go_wp2_with fail
   go_ret;exact⟨G,C,rfl,hM,hex⟩
theorem IZ{l r:Nat}(hw:aQ (l+r) rows):aQ (r+l) (iM l rows):=λv hv=>by obtain⟨u,hu,rfl⟩:=axr.1 hv;have:=hw u hu;rw[axv,axF,axx];omega
theorem Oe{p:Int}{l:Nat}(he:fQ p rows):fQ p (iM l rows):=λv hv=>by obtain⟨u,hu,rfl⟩:=axr.1 hv;have h:=axQ.1 (he u hu);exact axQ.2 λx hx=>(axZ.1 hx).elim (λq=>h x (ayM q)) λq=>h x (ayS q)
theorem R7(p:Int)(l r:Nat)(rows:List (List Int))(A:Option Addr)(c:Nat)(w:World)(hF:av p=true)(h:dU w A rows)(hw:aQ (l+r) rows)(he:fQ p rows)(hn:l+r<=1000)(hR:rows.length<=1000):
 Calls prog 130 #[.int .i64 p,.agg #[.int .i64 l,.int .i64 r,.slice A rows.length c]] w λe w'=>∃A' c',e=.returned (.agg #[.int .i64 r,.int .i64 l,.slice A' ((ay p).aC (r+l) (iM l rows)).length c'])/\dU w' A' ((ay p).aC (r+l) (iM l rows))/\Ex w w':=by
 have hmf:∀(fn:Fn) (first cap:Array Value) (w:World),(Instr.makeFunc fn first cap).run prog w=.ok (.func fn first cap) w:=λ_ _ _ _=>rfl
 obtain⟨x0,d0,W0,hW0⟩:=VB.al w 94 #[.int .i64 l,.int .i64 r,.slice A rows.length c];have s0:(w.alloc (.cells #[.int .i64 l,.int .i64 r,.slice A rows.length c] 94)).heap.size=w.heap.size+1:=by simp
 have cE:∀W,Ex (w.alloc (.cells #[.int .i64 l,.int .i64 r,.slice A rows.length c] 94)) W->Calls prog 163 #[.agg #[.int .i64 l,.int .i64 r,.slice A rows.length c],.func (.func 164) #[] #[.pointer (some ⟨w.heap.size,0,none⟩)]] W λe w'=>∃A' c',e=.returned (.slice A' rows.length c')/\oC w' A' (iM l rows)/\Ex W w':=
  λW hW=>agU l r w.heap.size rows A c W ((h.ex x0).ex hW) hw hn hR (d0.ex hW)
 have cR:∀(W:World) (A':Option Addr) (c':Nat),oC W A' (iM l rows)->Calls prog 127 #[.int .i64 p,.int .i64 r,.int .i64 l,.slice A' rows.length c'] W λe w'=>∃A2 c2,e=.returned (.agg #[.int .i64 r,.int .i64 l,.slice A2 ((ay p).aC (r+l) (iM l rows)).length c2])/\dU w' A2 ((ay p).aC (r+l) (iM l rows))/\Ex W w':=λW A' c' hM=>by have:=rY p r l (iM l rows) A' c' W hF hM (IZ hw) (Oe he) (by omega) (by unfold iM;rw[axs];exact hR);rwa[show(iM l rows).length=rows.length by unfold iM;rw[axs]]at this
 rw[hW0]at x0 d0 s0 cE;generalize(ay p).aC (r+l) (iM l rows)=RR at*;generalize iM l rows=FR at*;obtain⟨m,hm⟩:=xq rows.length;rw[hm]at cE cR d0 hW0⊢;obtain⟨x1,d1,W1,hW1⟩:=VB.al W0 94 #[.int .i64 0,.int .i64 0,.slice none 0 0];have s1:(W0.alloc (.cells #[.int .i64 0,.int .i64 0,.slice none 0 0] 94)).heap.size=W0.heap.size+1:=by simp
 have D0:=d0.ex x1;rw[hW1]at x1 d1 s1 D0;rw[s0]at d1 s1;have X1:=x0.trans x1;have HS:∀W,aM (w.heap.size+1) W1 W->(W.cell? ⟨w.heap.size,0,none⟩=some (.int .i64 l)/\W.cell? ⟨w.heap.size,1,none⟩=some (.int .i64 r)/\W.cell? ⟨w.heap.size,2,none⟩=some (.slice A m c)):=λW hW=>
  have hv':=VB.aK D0 hW (by omega)
  ⟨hv'.c0,hv'.c1,hv'.c2⟩
 have cE:=cE W1.drew x1.drew;clear hm hF h hw he hn hR D0;go_enter Tryz.func130,Tryz.ntmps130
 go_wp2_with fail
 clear hW0 hW1;go_region_held3 (λW=>W.cell? ⟨w.heap.size,0,none⟩=some (.int .i64 l)/\W.cell? ⟨w.heap.size,1,none⟩=some (.int .i64 r)/\W.cell? ⟨w.heap.size,2,none⟩=some (.slice A m c)) (first
  |(exact HS _ z4)|(exact HS _ (aM.aP y3))|(exact HS _ (aM.aP y2))|(exact HS _ (aM.aP (aCQ W1).drew))|(exact HS _ (aM.refl _ W1))) (first
  |(go_at_call 163
    refine cE.mono ?_;rintro e w2 ⟨A2,c2,rfl,r2,x2'⟩;have y2:=(aCQ W1).drew.trans x2')
  |(go_at_call 127
    refine(cR _ _ _ r2).mono ?_;rintro e w3 ⟨A3,c3,rfl,r3,Xy⟩;have y3:=y2.trans Xy;have dz:=d1.ex y3;obtain⟨dd,zz⟩:=dz.l8 (.int .i64 r) (.int .i64 l) (.slice A3 RR.length c3);have z4:=(aM.aP y3).trans zz;obtain⟨u0,u1,u2⟩:=dz.d3;obtain⟨k0,k1,k2⟩:=dz.z3;obtain⟨C0,C1,C2⟩:=dd.d3;have eF:=(X1.trans y3).aK zz (by omega);have rF:=r3.st dz (by decide) zz))
 all_goals
  go_wp2_with fail
  refine axu (v:=.agg #[.int .i64 r,.int .i64 l,.slice A3 RR.length c3]) (by simp[results,Tryz.results130,go_sem,C0,C1,C2]) rfl ?_;exact⟨A3,c3,rfl,rF,eF⟩
end Go.Proofs.YthgiffhlfcmgaaaGreatDoor
