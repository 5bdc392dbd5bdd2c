/- Lemmas and walks on terms over rational functions: Reduced lists: the reference's .. -/
import Derived.Test.YthgiffhlfcmgaaaGreatDoorQ04
namespace Go.Proofs.YthgiffhlfcmgaaaGreatDoor
open Tryz(prog)
set_option maxRecDepth 100000
set_option maxHeartbeats 8000000
set_option linter.all false
open Go Go.RowKit
variable{p:Int}{x xs:List (List aG)}{B H a b n:Nat}{α:Type}{v:Value}{w:World}
def OK1(p:Int)(n:Nat)(rows:List (List aG))(j:Nat)(r:List aG):Prop:=
 mU p n r=true/\bX r≠n/\(au p).el r (bX r)=oF/\∀u,0<j->rows[j-1]?=some u->bX u<bX r
def OK2(p:Int)(rows:List (List aG))(i j:Nat):Prop:=∀(u v:List aG),rows[i]?=some u->rows[j]?=some v->i≠j->jy ((au p).el v (bX u))=true
theorem ES(xs:List aG):bX xs<=xs.length:=List.findIdx_le_length
theorem Ye{rows:List (List aG)}(h:fV p n rows=true/\Dx (au p) n rows){j:Nat}{r:List aG}(hr:rows[j]?=some r):OK1 p n rows j r:=by obtain⟨h1,h2⟩:=h;have hm:=axo hr;obtain⟨k1,k2⟩:=h2.one r hm;refine⟨axQ.1 h1 r hm,λe=>by rw[n_,e]at k1;omega,k2,λu hj hu=>?_⟩;exact h2.KN (j-1) u r hu (by rw[show j-1+1=j by omega];exact hr)
theorem Yd{rows:List (List aG)}(h:fV p n rows=true/\Dx (au p) n rows)(i j:Nat):OK2 p rows i j:=λu v hu hv hne=>h.2.BV i j u v hu hv hne
theorem Yf{rows:List (List aG)}(h1:∀(j:Nat) (r:List aG),rows[j]?=some r->OK1 p n rows j r)(h2:∀i j,i<rows.length->j<rows.length->OK2 p rows i j):fV p n rows=true/\Dx (au p) n rows:=by
 have hok:fV p n rows=true:=axQ.2 λr hr=>by obtain⟨j,hj⟩:=axz hr;exact(h1 j r hj).1
 refine⟨hok,lD hok,λr hr=>?_,λi u v hu hv=>?_,λi k u v hu hv hne=>h2 i k (axp.1 hu).1 (axp.1 hv).1 u v hu hv hne⟩
 .obtain⟨j,hj⟩:=axz hr;obtain⟨_,k2,k3,_⟩:=h1 j r hj;have:=ES r;rw[lD hok r hr]at this;exact⟨by rw[n_];omega,k3⟩
 .exact(h1 (i+1) v hv).2.2.2 u (by omega) (by rw[ay7];exact hu)
theorem Ws(p:Int)(n:Nat)(r:List aG):(r.all (λx=>dm p x.n x.d)&&decide ((r.length:Int)=(n:Int)))=mU p n r:=by rw[mU,Bool.and_comm];congr 1;rw[ayB];simp only[decide_eq_true_eq];omega
theorem RD{x y:aG}:(decide (x.n=y.n)&&decide (x.d=y.d))=true↔x=y:=by obtain⟨a,b⟩:=x;obtain⟨a',b'⟩:=y;simp
theorem pK{P:Program}{ops:Array Oper}{Q:Exit->Act->World->Prop}{md:Region.Mode}{oi:Oper}{fuel:Nat}{listed:Array Bool}{a:Act}(i:Nat)(v:Value)(h:wpAny P md ops Q fuel (listed.setIfInBounds i true) (a.put oi.dst v) w)(hi:ops[i]?=some oi:=by exact rfl)(hs:Region.noSelect ops=true:=by kernel_rfl)(hf:Region.free md ops listed i=true:=by kernel_rfl)(hr:(Region.ready md ops listed).contains i=true:=by kernel_rfl)(hQ:∀c a w,Q (.panic c) (a.put oi.dst v) w->Q (.panic c) a w:=by exact λ_ _ _ h=>h)(hy:Yields P ops oi v a:=by exact Or.inl ⟨by kernel_rfl,λw=>by kernel_rfl⟩):wpAny P md ops Q (fuel+1) listed a w:=
 wpAny_take hi hs hf hr hQ hy h
theorem jF{P:Program}{ops:Array Oper}{Q:Exit->Act->World->Prop}{md:Region.Mode}{oi:Oper}{fuel:Nat}{listed:Array Bool}{a:Act}(i:Nat)(h:wpAny P md ops Q fuel (listed.setIfInBounds i true) (a.put oi.dst undef) w)(hi:ops[i]?=some oi:=by exact rfl)(hs:Region.noSelect ops=true:=by kernel_rfl)(hf:Region.free md ops listed i=true:=by kernel_rfl)(hr:(Region.ready md ops listed).contains i=true:=by kernel_rfl)(hQ:∀c a w,Q (.panic c) (a.put oi.dst undef) w->Q (.panic c) a w:=by exact λ_ _ _ h=>h)(hy:Yields P ops oi undef a:=by exact Or.inr ⟨by kernel_rfl,rfl⟩):wpAny P md ops Q (fuel+1) listed a w:=
 wpAny_take hi hs hf hr hQ hy h
theorem aft(p:Int)(n:Nat)(A:Option Addr)(c:Nat)(rows:List (List aG))(w:World)(h:bW iX w A rows)(_:n<=1000):
 Calls prog 80 #[.int .i64 p,.int .i64 n,.slice A rows.length c] w λe w'=>∃b,e=.returned (.bool b)/\(b=true↔fV p n rows=true/\Dx (au p) n rows)/\Ex w w':=by
 have hl:=h.1;go_enter Tryz.func80,Tryz.ntmps80
 go_wp2_with fail
 go_loopw [15] (λi wr=>∃k:Nat,k<=rows.length/\i=.int .i64 k/\Hid (∀(j:Nat) (r:List aG),j<k->rows[j]?=some r->OK1 p n rows j r)/\Ex w wr) (λi _=>rows.length-(intOf i).toNat)
 case atStart=>exact⟨0,axq _,rfl,axj (λj r h=>by omega),aCQ _⟩
 case round=>
  obtain⟨k,hk,rfl,fH,he⟩:=hrel;by_cases hlt:k<rows.length
  .obtain⟨g,off,r,v,rfl,hr,b0,hv⟩:=(h.ex he).jf hlt;obtain⟨P,pc,rfl,hP⟩:=hv.form;have Hr:=axj hr;clear hr hv;have eA:=(aCQ wr).drew;have HN:=axj (show¬OK1 p n rows k r->¬(fV p n rows=true/\Dx (au p) n rows)from λh1 h2=>h1 (Ye h2 Hr.out));have BR:∀W,Ex wr W->Calls prog 112 #[.int .i64 p,.int .i64 n,.slice P r.length pc] W λe w'=>e=.returned (.bool (mU p n r))/\Ex W w':=λW hW=>by
    have:=Md p n P pc r W (hP.ex hW);rw[Ws]at this;exact this
   have iP:∀W,Ex wr W->Calls prog 65 #[.slice P r.length pc] W λe w'=>e=.returned (.int .i64 (bX r))/\Ex W w':=λW hW=>nR P pc r W (hP.ex hW)
   cases hgood:mU p n r with
   |false=>
    rw[hgood]at BR;have HNo:=axj (HN.out λh1=>by have:=h1.1;rw[hgood]at this;cases this);clear hgood HN iP;go_wp2_with fail
    first
    |go_region_with (first
      |(go_at_call 112
        refine(BR _ eA).mono ?_;rintro e w1 ⟨rfl,x1⟩;have e1:=eA.trans x1;dsimp only;refine(‹∀(a:Act) (w:World),wpAny _ _ _ _ _ _ a w->_›:_) _ _ ?_;refine pK 4 (.bool true) ?_;refine pK 5 (.bool true) ?_;refine jF 6 ?_;refine jF 7 ?_;refine jF 8 ?_;refine jF 9 ?_;refine pK 10 (.bool true) ?_;refine pK 11 (.bool true) ?_;refine jF 12 ?_;refine jF 13 ?_;refine jF 14 ?_;refine jF 15 ?_;refine jF 16 ?_;refine jF 17 ?_;refine jF 18 ?_;refine jF 19 ?_;refine pK 20 (.bool true) ?_;refine pK 21 (.bool true) ?_;refine jF 22 ?_;refine jF 23 ?_;refine jF 24 ?_;refine jF 25 ?_;refine jF 26 ?_;refine jF 27 ?_;refine jF 28 ?_;refine jF 29 ?_;refine jF 30 ?_;refine jF 31 ?_;refine jF 32 ?_;refine jF 33 ?_;refine jF 34 ?_))
    |fail "region"
    all_goals
     go_simp
     go_wp2_with fail
     go_ret;exact⟨false,rfl,⟨λe=>Bool.noConfusion e,λe=>absurd e HNo.out⟩,he.trans e1⟩
   |true=>
    rw[hgood]at BR;have hrn:r.length=n:=by rw[mU,axU,decide_eq_true_eq]at hgood;exact hgood.1
    have aeV:=axj hgood;clear hgood;by_cases hld:bX r=n
    .rw[hld]at iP;have HNo:=axj (HN.out λh1=>h1.2.1 hld);clear hld HN hrn;go_wp2_with fail
     first
     |go_region_with (first
       |(go_at_call 112
         refine(BR _ eA).mono ?_;rintro e w1 ⟨rfl,x1⟩;have e1:=eA.trans x1)
       |(go_at_call_of 65 (Value.slice P r.length pc)
         refine(iP w1 e1).mono ?_;rintro e w2 ⟨rfl,x2⟩;have e2:=e1.trans x2;dsimp only;refine(‹∀(a:Act) (w:World),wpAny _ _ _ _ _ _ a w->_›:_) _ _ ?_;refine pK 9 (.bool true) ?_ (hy:=(Or.inl ⟨by kernel_rfl,λw=>by first|exact(show _=Result.ok (Next.value (Value.bool (decide ((n:Int)=(n:Int))))) w by kernel_rfl).trans (by rw[decide_eq_true rfl])|exact(show _=Result.ok (Next.value (Value.bool ((n:Int)==(n:Int)))) w by kernel_rfl).trans (by rw[beq_self_eq_true])⟩));refine pK 10 (.bool true) ?_;refine pK 11 (.bool true) ?_;refine jF 12 ?_;refine jF 13 ?_;refine jF 14 ?_;refine jF 15 ?_;refine jF 16 ?_;refine jF 17 ?_;refine jF 18 ?_;refine jF 19 ?_;refine pK 20 (.bool true) ?_;refine pK 21 (.bool true) ?_;refine jF 22 ?_;refine jF 23 ?_;refine jF 24 ?_;refine jF 25 ?_;refine jF 26 ?_;refine jF 27 ?_;refine jF 28 ?_;refine jF 29 ?_;refine jF 30 ?_;refine jF 31 ?_;refine jF 32 ?_;refine jF 33 ?_;refine jF 34 ?_))
     |fail "region"
     all_goals
      go_simp
      go_wp2_with fail
      go_ret;exact⟨false,rfl,⟨λe=>Bool.noConfusion e,λe=>absurd e HNo.out⟩,he.trans e2⟩
    .have hll:bX r<r.length:=by have:=ES r;omega
     obtain⟨g2,off2,x,Q,qc,Q',MO,rfl,hx,c0,c1,hQ,hQ'⟩:=hP.iy hll;have hel:(au p).el r (bX r)=x:=(au p).dD hx;obtain⟨L,hL⟩:=xq (bX r);have HLn:=axj hld;rw[hL]at c0 c1 hll iP;have HL:=axj hL;have CR:=axj hel;have Hrn:=axj hrn;have ajv:decide ((L:Int)=(n:Int))=false:=by simp;omega
     have aer:((L:Int)==(n:Int))=false:=by simp;omega
     have cSame:∀(A4 B4:Option Addr) (c4 k4:Nat) (W:World),Ex wr W->Rd W A4 oF.n->Rd W B4 oF.d->Calls prog 60 #[.agg #[.slice Q x.n.length qc,.slice Q' x.d.length MO],.agg #[.slice A4 oF.n.length c4,.slice B4 oF.d.length k4]] W λe w'=>e=.returned (.bool (decide (x.n=oF.n)&&decide (x.d=oF.d)))/\Ex W w':=λA4 B4 c4 k4 W hW r1 r2=>
      N_ Q Q' A4 B4 qc MO c4 k4 x oF W (hQ.ex hW) (hQ'.ex hW) r1 r2
     clear hx hel hld hL hrn;cases hone:(decide (x.n=oF.n)&&decide (x.d=oF.d))with
     |false=>
      rw[hone]at cSame;have HNo:=axj (HN.out λh1=>by
       have:=h1.2.2.1;rw[CR.out]at this;rw[RD.2 this]at hone;cases hone)
      clear hone HN;go_wp2_with fail
      first
      |go_region_with (first
        |(go_at_call 112
          refine(BR _ eA).mono ?_;rintro e w1 ⟨rfl,x1⟩;have e1:=eA.trans x1)
        |(go_at_call_of 65 (Value.slice (some ⟨g2,off2,none⟩) r.length pc)
          refine(iP w1 e1).mono ?_;rintro e w2 ⟨rfl,x2⟩;have e2:=e1.trans x2)
        |(go_at_call_of 65 (Value.slice (some ⟨g2,off2,none⟩) r.length pc)
          refine(iP w2 e2).mono ?_;rintro e w3 ⟨rfl,x3⟩;have e3:=e2.trans x3;have d0:=af e3 c0;have d1:=af e3 c1)
        |(go_at_call 72
          refine(pq w3).mono ?_;rintro e w4 ⟨A4,c4,B4,k4,rfl,f4,g4,ap4,x4⟩;have e4:=e3.trans x4;have d2:=af e4 c0;have d3:=af e4 c1)
        |(go_at_call 60
          refine(cSame A4 B4 c4 k4 w4 e4 f4.rd g4.rd).mono ?_;rintro e w5 ⟨rfl,x5⟩;have e5:=e4.trans x5;dsimp only;refine(‹∀(a:Act) (w:World),wpAny _ _ _ _ _ _ a w->_›:_) _ _ ?_;refine pK 19 (.bool true) ?_;refine pK 20 (.bool true) ?_;refine pK 21 (.bool true) ?_;refine jF 22 ?_;refine jF 23 ?_;refine jF 24 ?_;refine jF 25 ?_;refine jF 26 ?_;refine jF 27 ?_;refine jF 28 ?_;refine jF 29 ?_;refine jF 30 ?_;refine jF 31 ?_;refine jF 32 ?_;refine jF 33 ?_;refine jF 34 ?_))
      |fail "region"
      all_goals
       go_simp
       go_wp2_with fail
       go_ret;exact⟨false,rfl,⟨λe=>Bool.noConfusion e,λe=>absurd e HNo.out⟩,he.trans e5⟩
     |true=>
      rw[hone]at cSame;have akX:=axj (RD.1 hone);clear hone;by_cases hk0:k=0
      .subst hk0;rw[ayb]at b0;clear HN;go_wp2_with fail
       first
       |go_region_with (first
         |(go_at_call 112
           refine(BR _ eA).mono ?_;rintro e w1 ⟨rfl,x1⟩;have e1:=eA.trans x1)
         |(go_at_call_of 65 (Value.slice (some ⟨g2,off2,none⟩) r.length pc)
           refine(iP w1 e1).mono ?_;rintro e w2 ⟨rfl,x2⟩;have e2:=e1.trans x2)
         |(go_at_call_of 65 (Value.slice (some ⟨g2,off2,none⟩) r.length pc)
           refine(iP w2 e2).mono ?_;rintro e w3 ⟨rfl,x3⟩;have e3:=e2.trans x3;have d0:=af e3 c0;have d1:=af e3 c1)
         |(go_at_call 72
           refine(pq w3).mono ?_;rintro e w4 ⟨A4,c4,B4,k4,rfl,f4,g4,ap4,x4⟩;have e4:=e3.trans x4;have d2:=af e4 c0;have d3:=af e4 c1)
         |(go_at_call 60
           refine(cSame A4 B4 c4 k4 w4 e4 f4.rd g4.rd).mono ?_;rintro e w5 ⟨rfl,x5⟩;have e5:=e4.trans x5;dsimp only;refine(‹∀(a:Act) (w:World),wpAny _ _ _ _ _ _ a w->_›:_) _ _ ?_;refine pK 19 (.bool false) ?_;refine pK 20 (.bool false) ?_;refine pK 21 (.bool false) ?_;refine pK 22 (.int .i64 0) ?_;refine pK 23 (.bool false) ?_;refine pK 24 (.bool false) ?_;refine jF 25 ?_;refine jF 26 ?_;refine jF 27 ?_;refine jF 28 ?_;refine jF 29 ?_;refine jF 30 ?_;refine jF 31 ?_;refine jF 32 ?_;refine jF 33 ?_;refine pK 34 (.bool false) ?_))
       |fail "region"
       all_goals
        go_simp
        go_wp2_with fail
        go_roundw;case rel=>exact⟨1,by omega,by go_num,axj (λj r' hj hr'=>by
         obtain rfl:j=0:=by omega
         rw[Hr.out]at hr';injection hr' with hr';subst hr';exact⟨aeV.out,HLn.out,by rw[CR.out];exact akX.out,λu h0=>by omega⟩),he.trans e5⟩
        case measure=>simp[intOf]<;>omega
      .obtain⟨j,Hj⟩:∃j,Hid (j+1=k):=⟨k-1,axj (by omega)⟩;have hjl:j<rows.length:=by have:=Hj.out;omega
       have hw:IntKind.i64.wrap ((k:Int)-1)=(j:Int):=by have:=Hj.out;rw[axC _ (by omega)];omega
       have hkp:(0:Int)<(k:Int):=by omega
       have hkb:decide ((0:Int)<(k:Int))=true:=decide_eq_true hkp;obtain⟨g',off',u,v',eg,hu,b1,hv'⟩:=(h.ex he).jf hjl;injection eg with eg;injection eg with eg1 eg2;subst eg1 eg2;obtain⟨P1,pc1,rfl,hP1⟩:=hv'.form;have Hu:=axj hu;clear hu hv';obtain⟨L1,hL1⟩:=xq (bX u);have HL1:=axj hL1;have aa1:∀W,Ex wr W->Calls prog 65 #[.slice P1 u.length pc1] W λe w'=>e=.returned (.int .i64 L1)/\Ex W w':=λW hW=>by have:=nR P1 pc1 u W (hP1.ex hW);rw[hL1]at this;exact this
       clear hL1;by_cases hlt1:L1<L
       .have hgb:decide (L<=L1)=false:=decide_eq_false (by omega);have hgn:¬L<=L1:=by omega
        have apl:=axj hlt1;clear HN hlt1;go_wp2_with fail
        first
        |go_region_with (first
          |(go_at_call 112
            refine(BR _ eA).mono ?_;rintro e w1 ⟨rfl,x1⟩;have e1:=eA.trans x1)
          |(go_at_call_of 65 (Value.slice (some ⟨g2,off2,none⟩) r.length pc)
            refine(iP w1 e1).mono ?_;rintro e w2 ⟨rfl,x2⟩;have e2:=e1.trans x2)
          |(go_at_call_of 65 (Value.slice (some ⟨g2,off2,none⟩) r.length pc)
            refine(iP w2 e2).mono ?_;rintro e w3 ⟨rfl,x3⟩;have e3:=e2.trans x3;have d0:=af e3 c0;have d1:=af e3 c1)
          |(go_at_call 72
            refine(pq w3).mono ?_;rintro e w4 ⟨A4,c4,B4,k4,rfl,f4,g4,ap4,x4⟩;have e4:=e3.trans x4;have d2:=af e4 c0;have d3:=af e4 c1)
          |(go_at_call 60
            refine(cSame A4 B4 c4 k4 w4 e4 f4.rd g4.rd).mono ?_;rintro e w5 ⟨rfl,x5⟩;have e5:=e4.trans x5;have b5:=af e5 b1;dsimp only;refine(‹∀(a:Act) (w:World),wpAny _ _ _ _ _ _ a w->_›:_) _ _ ?_;refine pK 19 (.bool false) ?_;refine pK 20 (.bool false) ?_;refine pK 21 (.bool false) ?_;refine pK 22 (.int .i64 k) ?_;refine pK 23 (.bool true) ?_ (hy:=(Or.inl ⟨by kernel_rfl,λw=>by first|exact(show _=Result.ok (Next.value (Value.bool (decide ((0:Int)<(k:Int))))) w by kernel_rfl).trans (by rw[hkb])|exact(show _=Result.ok (Next.value (Value.bool (decide ((k:Int)>0)))) w by kernel_rfl).trans (by rw[show decide ((k:Int)>0)=true from hkb])⟩));refine pK 24 (.bool true) ?_;refine pK 31 (.slice (some ⟨g2,off2,none⟩) r.length pc) ?_ (hy:=(Or.inl ⟨by kernel_rfl,λw=>by kernel_rfl⟩));refine pK 25 (.slice (some ⟨g,off,none⟩) rows.length c) ?_ (hy:=(Or.inl ⟨by kernel_rfl,λw=>by kernel_rfl⟩));refine pK 26 (.int .i64 k) ?_;refine pK 27 (.int .i64 j) ?_ (hy:=(Or.inl ⟨by kernel_rfl,λw=>(show _=Result.ok (Next.value (Value.int .i64 (IntKind.i64.wrap ((k:Int)-1)))) w by kernel_rfl).trans (by rw[hw])⟩));refine pK 28 (.pointer (some ⟨g,off+j,none⟩)) ?_ (hy:=(Or.inl ⟨by kernel_rfl,λw=>by go_simp⟩)))
          |(go_at_call_of 65 (Value.slice P1 u.length pc1)
            refine(aa1 w5 e5).mono ?_;rintro e w6 ⟨rfl,x6⟩;have e6:=e5.trans x6)
          |(go_at_call_of 65 (Value.slice (some ⟨g2,off2,none⟩) r.length pc)
            refine(iP w6 e6).mono ?_;rintro e w7 ⟨rfl,x7⟩;have e7:=e6.trans x7))
        |fail "region"
        all_goals
         clear hw hkb hkp hgb hgn ajv aer hk0
         go_simp
         go_wp2_with fail
         go_roundw;case rel=>exact⟨k+1,by omega,by go_num,axj (λj' r' hj hr'=>by
          by_cases e:j'<k
          .exact fH.out j' r' e hr'
          .obtain rfl:j'=k:=by omega
           rw[Hr.out]at hr';injection hr' with hr';subst hr';exact⟨aeV.out,HLn.out,by rw[CR.out];exact akX.out,λu' h0 hu'=>by
            rw[show j'-1=j by have:=Hj.out;omega,Hu.out]at hu';injection hu' with hu';subst hu';rw[HL1.out,HL.out];exact apl.out⟩),he.trans e7⟩
         case measure=>simp[intOf]<;>omega
       .have hgb:decide (L<=L1)=true:=decide_eq_true (by omega);have hgn:L<=L1:=by omega
        have HNo:=axj (HN.out λh1=>hlt1 (by
         have:=h1.2.2.2 u (by omega) (by rw[show k-1=j by have:=Hj.out;omega];exact Hu.out);rw[HL1.out,HL.out]at this;exact this))
        clear HN hlt1;go_wp2_with fail
        first
        |go_region_with (first
          |(go_at_call 112
            refine(BR _ eA).mono ?_;rintro e w1 ⟨rfl,x1⟩;have e1:=eA.trans x1)
          |(go_at_call_of 65 (Value.slice (some ⟨g2,off2,none⟩) r.length pc)
            refine(iP w1 e1).mono ?_;rintro e w2 ⟨rfl,x2⟩;have e2:=e1.trans x2)
          |(go_at_call_of 65 (Value.slice (some ⟨g2,off2,none⟩) r.length pc)
            refine(iP w2 e2).mono ?_;rintro e w3 ⟨rfl,x3⟩;have e3:=e2.trans x3;have d0:=af e3 c0;have d1:=af e3 c1)
          |(go_at_call 72
            refine(pq w3).mono ?_;rintro e w4 ⟨A4,c4,B4,k4,rfl,f4,g4,ap4,x4⟩;have e4:=e3.trans x4;have d2:=af e4 c0;have d3:=af e4 c1)
          |(go_at_call 60
            refine(cSame A4 B4 c4 k4 w4 e4 f4.rd g4.rd).mono ?_;rintro e w5 ⟨rfl,x5⟩;have e5:=e4.trans x5;have b5:=af e5 b1;dsimp only;refine(‹∀(a:Act) (w:World),wpAny _ _ _ _ _ _ a w->_›:_) _ _ ?_;refine pK 19 (.bool false) ?_;refine pK 20 (.bool false) ?_;refine pK 21 (.bool false) ?_;refine pK 22 (.int .i64 k) ?_;refine pK 23 (.bool true) ?_ (hy:=(Or.inl ⟨by kernel_rfl,λw=>by first|exact(show _=Result.ok (Next.value (Value.bool (decide ((0:Int)<(k:Int))))) w by kernel_rfl).trans (by rw[hkb])|exact(show _=Result.ok (Next.value (Value.bool (decide ((k:Int)>0)))) w by kernel_rfl).trans (by rw[show decide ((k:Int)>0)=true from hkb])⟩));refine pK 24 (.bool true) ?_;refine pK 31 (.slice (some ⟨g2,off2,none⟩) r.length pc) ?_ (hy:=(Or.inl ⟨by kernel_rfl,λw=>by kernel_rfl⟩));refine pK 25 (.slice (some ⟨g,off,none⟩) rows.length c) ?_ (hy:=(Or.inl ⟨by kernel_rfl,λw=>by kernel_rfl⟩));refine pK 26 (.int .i64 k) ?_;refine pK 27 (.int .i64 j) ?_ (hy:=(Or.inl ⟨by kernel_rfl,λw=>(show _=Result.ok (Next.value (Value.int .i64 (IntKind.i64.wrap ((k:Int)-1)))) w by kernel_rfl).trans (by rw[hw])⟩));refine pK 28 (.pointer (some ⟨g,off+j,none⟩)) ?_ (hy:=(Or.inl ⟨by kernel_rfl,λw=>by go_simp⟩)))
          |(go_at_call_of 65 (Value.slice P1 u.length pc1)
            refine(aa1 w5 e5).mono ?_;rintro e w6 ⟨rfl,x6⟩;have e6:=e5.trans x6)
          |(go_at_call_of 65 (Value.slice (some ⟨g2,off2,none⟩) r.length pc)
            refine(iP w6 e6).mono ?_;rintro e w7 ⟨rfl,x7⟩;have e7:=e6.trans x7))
        |fail "region"
        all_goals
         clear hw hkb hkp hgb hgn ajv aer hk0
         go_simp
         go_wp2_with fail
         go_ret;exact⟨false,rfl,⟨λe=>Bool.noConfusion e,λe=>absurd e HNo.out⟩,he.trans e7⟩
  .obtain rfl:k=rows.length:=by omega
   have H1:=axj (show∀(j:Nat) (r:List aG),rows[j]?=some r->OK1 p n rows j r from λj r hr=>fH.out j r (axp.1 hr).1 hr);clear fH;go_wp2_with fail
   go_loopw [59] (λi wr=>∃k:Nat,k<=rows.length/\i=.int .i64 k/\Hid (∀(i j:Nat),i<k->j<rows.length->OK2 p rows i j)/\Ex w wr) (λi _=>rows.length-(intOf i).toNat)
   case atStart=>exact⟨0,axq _,rfl,axj (λi j h=>by omega),he⟩
   case round=>
    clear he;obtain⟨k,hk,rfl,H2,he⟩:=hrel;by_cases hlt:k<rows.length
    .obtain⟨g,off,r,v,rfl,hr,b0,hv⟩:=(h.ex he).jf hlt;obtain⟨P,pc,rfl,hP⟩:=hv.form;have Hr:=axj hr;clear hr hv;obtain⟨L,hL⟩:=xq (bX r);have HL:=axj hL;have hLn:L<n:=by
      have q:=H1.out k r Hr.out;have:=ES r;have q1:=q.1;rw[mU,axU,decide_eq_true_eq]at q1;have:=q.2.1;omega
     clear hL;go_wp2_with fail
     go_loopw [66] (λi wr=>∃j:Nat,j<=rows.length/\i=.int .i64 j/\Hid (∀(j':Nat),j'<j->OK2 p rows k j')/\bW EF wr P r/\Ex w wr) (λi _=>rows.length-(intOf i).toNat)
     case atStart=>exact⟨0,axq _,rfl,axj (λj h=>by omega),hP,he⟩
     case round=>
      clear hP;obtain⟨j,hj,rfl,H3,hP,he2⟩:=hrel;by_cases hlt2:j<rows.length
      .by_cases hij:k=j
       .subst hij;have hb1:((k:Int) !=(k:Int))=false:=by simp
        obtain⟨g2,off2,s,v2,eg2,hs,b2,hv2⟩:=(h.ex he2).jf hlt2;injection eg2 with eg2;injection eg2 with e1 e2;subst e1 e2;obtain⟨P2,pc2,rfl,hP2⟩:=hv2.form;clear hs hv2;go_wp2_with fail
        refine⟨⟨k+1,by omega,by go_num,axj (λj' hj'=>by
         by_cases e:j'<k
         .exact H3.out j' e
         .obtain rfl:j'=k:=by omega
          exact λu v _ _ hne=>absurd rfl hne),hP,he2⟩,?_⟩
        simp[intOf]<;>omega
       .have at7:((k:Int) !=(j:Int))=true:=by simp;omega
        have Hij:=axj hij;clear hij;obtain⟨g2,off2,s,v2,eg2,hs,b2,hv2⟩:=(h.ex he2).jf hlt2;injection eg2 with eg2;injection eg2 with e1 e2;subst e1 e2;obtain⟨P2,pc2,rfl,hP2⟩:=hv2.form;have hsl:L<s.length:=by have q1:=(H1.out j s hs).1;rw[mU,axU,decide_eq_true_eq]at q1;omega
        obtain⟨g3,amT,x,Q,qc,Q',MO,rfl,hx,c0,c1,hQ,hQ'⟩:=hP2.iy hsl;have Hs:=axj hs;have Hx:=axj hx;clear hs hv2 hx;have eA:=(aCQ wr).drew;have iP:∀W,Ex wr W->Calls prog 65 #[.slice P r.length pc] W λe w'=>e=.returned (.int .i64 L)/\Ex W w':=λW hW=>by have:=nR P pc r W (hP.ex hW);rw[HL.out]at this;exact this
        have Ut:∀W,Ex wr W->Calls prog 100 #[.agg #[.slice Q x.n.length qc,.slice Q' x.d.length MO]] W λe w'=>e=.returned (.bool (jy x))/\Ex W w':=λW hW=>rV Q Q' qc MO x W hQ.len
        cases hz:jy x with
        |true=>
         rw[hz]at Ut;have Hz:=axj hz;clear hz;go_wp2_with fail
         refine(iP _ (aCQ _)).mono ?_;rintro e w1 ⟨rfl,x1⟩;have d0:=af x1 c0;have d1:=af x1 c1;go_wp2_with fail
         refine(Ut w1 x1).mono ?_;rintro e w2 ⟨rfl,x2⟩;have e2:=x1.trans x2;go_wp2_with fail
         go_roundw;case rel=>exact⟨j+1,by omega,by go_num,axj (λj' hj'=>by
          by_cases e:j'<j
          .exact H3.out j' e
          .obtain rfl:j'=j:=by omega
           intro u v hu hv _;rw[Hr.out]at hu;rw[Hs.out]at hv;injection hu with hu;injection hv with hv;subst hu hv;rw[HL.out,(au p).dD Hx.out];exact Hz.out),hP.ex e2,he2.trans e2⟩
         case measure=>simp[intOf]<;>omega
        |false=>
         rw[hz]at Ut;have HNo:=axj (show¬(fV p n rows=true/\Dx (au p) n rows)from λh1=>by
          have:=Yd h1 k j r s Hr.out Hs.out Hij.out;rw[HL.out,(au p).dD Hx.out]at this;have hz':jy x=true:=this;rw[hz]at hz';cases hz')
         clear hz;go_wp2_with fail
         refine(iP _ (aCQ _)).mono ?_;rintro e w1 ⟨rfl,x1⟩;have d0:=af x1 c0;have d1:=af x1 c1;go_wp2_with fail
         refine(Ut w1 x1).mono ?_;rintro e w2 ⟨rfl,x2⟩;have e2:=x1.trans x2;go_wp2_with fail
         go_ret;exact⟨false,rfl,⟨λe=>Bool.noConfusion e,λe=>absurd e HNo.out⟩,he2.trans e2⟩
      .obtain rfl:j=rows.length:=by omega
       go_wp2_with fail
       go_roundw;case rel=>exact⟨k+1,by omega,by go_num,axj (λi' j' hi' hj'=>by
        by_cases e:i'<k
        .exact H2.out i' j' e hj'
        .obtain rfl:i'=k:=by omega
         exact H3.out j' hj'),he2⟩
       case measure=>simp[intOf]<;>omega
    .obtain rfl:k=rows.length:=by omega
     have HY:=axj (Yf (p:=p) (n:=n) H1.out λi j hi hj=>H2.out i j hi hj);go_wp2_with fail
     go_ret;exact⟨true,rfl,⟨λ_=>HY.out,λ_=>rfl⟩,he⟩
theorem Ue(l r:Int):qf l r=(bL 0 12 l&&bL 0 (12-l) r):=by rw[ayB];simp[qf,bL];omega
theorem Yp(p:Int)(x:iK)(A:Option Addr)(c:Nat)(w:World)(h:bW iX w A x.b):
 Calls prog 44 #[.int .i64 p,.agg #[.int .i64 x.l,.int .i64 x.r,.slice A x.b.length c]] w λe w'=>∃b,e=.returned (.bool b)/\(b=true↔Gj p x)/\Ex w w':=by
 obtain⟨l,r,rows⟩:=x;dsimp only at h⊢;obtain⟨x0,v0⟩:=VB.xn w 28 #[.int .i64 l,.int .i64 r,.slice A rows.length c];have hN:Gj p ⟨l,r,rows⟩->av p=true/\bL 0 12 l=true/\bL 0 (12-l) r=true:=λh=>by have h2:qf l r=true:=h.2.1;rw[Ue,axU]at h2;exact⟨h.1,h2.1,h2.2⟩
 have c1:∀W,Calls prog 69 #[.int .i64 p] W λe w'=>e=.returned (.bool (av p))/\W=w':=λW=>mI p W
 have c2:∀W,Calls prog 79 #[.int .i64 l,.int .i64 0,.int .i64 12] W λe w'=>e=.returned (.bool (bL 0 12 l))/\W=w':=λW=>lH l 0 12 W
 have c3:∀W,Calls prog 79 #[.int .i64 r,.int .i64 0,.int .i64 (12-l)] W λe w'=>e=.returned (.bool (bL 0 (12-l) r))/\W=w':=λW=>lH r 0 (12-l) W
 cases hF:av p with
 |false=>
  have HN:=axj (show¬Gj p ⟨l,r,rows⟩from λh=>by have:=(hN h).1;rw[hF]at this;cases this);rw[hF]at c1;clear hF hN c2 c3;go_enter Tryz.func44,Tryz.ntmps44
  go_wp2_with fail
  generalize w.alloc (.cells #[.int .i64 l,.int .i64 r,.slice A rows.length c] 28)=W0 at*;refine(c1 _).mono ?_;rintro e w1 ⟨rfl,rfl⟩;go_wp2_with fail
  go_ret;exact⟨false,rfl,⟨λe=>Bool.noConfusion e,λe=>absurd e HN.out⟩,x0⟩
 |true=>
  rw[hF]at c1;cases h1:bL 0 12 l with
  |false=>
   have HN:=axj (show¬Gj p ⟨l,r,rows⟩from λh=>by have:=(hN h).2.1;rw[h1]at this;cases this);rw[h1]at c2;clear hF hN c3 h1;go_enter Tryz.func44,Tryz.ntmps44
   go_wp2_with fail
   have q0:=v0.c0;generalize w.alloc (.cells #[.int .i64 l,.int .i64 r,.slice A rows.length c] 28)=W0 at*;refine(c1 _).mono ?_;rintro e w1 ⟨rfl,rfl⟩;go_wp2_with fail
   refine(c2 _).mono ?_;rintro e w2 ⟨rfl,rfl⟩;go_wp2_with fail
   go_ret;exact⟨false,rfl,⟨λe=>Bool.noConfusion e,λe=>absurd e HN.out⟩,x0⟩
  |true=>
   rw[h1]at c2;have hl1:0<=l/\l<=12:=by simpa[bL]using h1
   have hw1:IntKind.i64.wrap (12-l)=12-l:=axC _ (by omega);cases h2:bL 0 (12-l) r with
   |false=>
    have HN:=axj (show¬Gj p ⟨l,r,rows⟩from λh=>by have:=(hN h).2.2;rw[h2]at this;cases this);rw[h2]at c3;clear hF hN h1 h2 hl1;go_enter Tryz.func44,Tryz.ntmps44
    go_wp2_with fail
    obtain⟨q0,q1⟩:=v0.d2;generalize w.alloc (.cells #[.int .i64 l,.int .i64 r,.slice A rows.length c] 28)=W0 at*;refine(c1 _).mono ?_;rintro e w1 ⟨rfl,rfl⟩;go_wp2_with fail
    refine(c2 _).mono ?_;rintro e w2 ⟨rfl,rfl⟩;go_wp2_with fail
    refine(c3 _).mono ?_;rintro e w3 ⟨rfl,rfl⟩;go_wp2_with fail
    go_ret;exact⟨false,rfl,⟨λe=>Bool.noConfusion e,λe=>absurd e HN.out⟩,x0⟩
   |true=>
    rw[h2]at c3;have hl2:0<=r/\r<=12-l:=by simpa[bL]using h2
    obtain⟨N,hNN⟩:∃N:Nat,(l+r).toNat=N:=⟨_,rfl⟩;have hwr:IntKind.i64.wrap (l+r)=(N:Int):=by rw[axC _ (by omega)];omega
    have hN1:N<=1000:=by omega
    have HR:=axj (show Gj p ⟨l,r,rows⟩↔(fV p N rows=true/\Dx (au p) N rows) by
     have hfit:qf l r=true:=by rw[Ue,h1,h2];rfl
     unfold Gj;dsimp only;rw[hNN];exact⟨λh=>⟨h.2.2.1,h.2.2.2⟩,λh=>⟨hF,hfit,h.1,h.2⟩⟩)
    clear hF hN h1 h2 hl1 hl2 hNN;go_enter Tryz.func44,Tryz.ntmps44
    go_wp2_with fail
    obtain⟨q0,q1,q2⟩:=v0.d3;generalize w.alloc (.cells #[.int .i64 l,.int .i64 r,.slice A rows.length c] 28)=W0 at*;refine(c1 _).mono ?_;rintro e w1 ⟨rfl,rfl⟩;go_wp2_with fail
    refine(c2 _).mono ?_;rintro e w2 ⟨rfl,rfl⟩;go_wp2_with fail
    refine(c3 _).mono ?_;rintro e w3 ⟨rfl,rfl⟩;go_wp2_with fail
    refine(aft p N A c rows _ (h.ex x0) hN1).mono ?_;rintro e w4 ⟨b,rfl,hb,x4⟩;clear hwr hw1;go_wp2_with fail
    go_ret;exact⟨b,rfl,by rw[HR.out];exact hb,x0.trans x4⟩
noncomputable def U6 (p:Int) (x:iK):Bool:=@decide (Gj p x) (Classical.propDecidable _)
theorem rW{x:iK}:U6 p x=true↔Gj p x:=@decide_eq_true_iff (Gj p x) (Classical.propDecidable _)
theorem afv{x:iK}{b:Bool}(h:b=true↔Gj p x):b=U6 p x:=by rw[ayB,h,rW]
theorem GE.VH{E:EL α}{t:TypeId}{xs:List α}(h:GE E t w B H (.slice none 0 0) xs):xs=[]:=by
 obtain⟨_,us,al,bl,hl,ho,_⟩:=h;rcases ho.2 with⟨e,hn⟩|⟨g,cap,cur,e,_⟩
 .exact ayp hn
 .cases e
theorem GE.ox{E:EL α}{E':EX α}{t:TypeId}{xs:List α}(h:GE E t w B H v xs)(hl:xs.length<=1099511627776)(hk:E'.k=E.k)(hE:∀{a b vs x},E.O w a b vs x->E'.O w (λk=>a<=k/\k<b) vs x):
 ∃A c,v=.slice A xs.length c/\xs.length<=c/\OX E' t w (λk=>B<=k/\k<H) A xs:=by
 by_cases hv:v=.slice none 0 0
 .subst hv;obtain rfl:=h.VH;exact⟨none,0,rfl,axk _,OX.nil _ _ _ _ _⟩
 .obtain⟨g,c,rfl,hgc,_⟩:=h.form hv;obtain⟨cur,al,bl,_,hB,hH,hh,h1,h2⟩:=h.at_;refine⟨_,c,rfl,hgc,hl,λj k=>al j<=k/\k<bl j,λj x hj=>?_,λi j k hi hj hne a b=>by have:=h2 i j hi hj hne;omega⟩;obtain⟨u,q1,q2,q3,q4,q5⟩:=h1 j x hj;exact⟨g,0,u,cur,rfl,⟨hB,hH⟩,hh,λi y hy=>by rw[hk,axT];exact q1 i y hy,hE q2,λk hk=>by omega,by omega⟩
theorem GE.k1{E:EL α}{t:TypeId}{w':World}{k:Nat}{xs:List α}(h:GE E t w B H v xs)(he:aM k w w')(hk:k<B):GE E t w' B H v xs:=h.iv (jE.aZ he) (by omega)
theorem sO{vs:List Value}{x:aG}(h:rR.O w a b vs x):Jf.O w (λk=>a<=k/\k<b) vs x:=by obtain⟨v0,v1,e,h⟩:=h;exact⟨v0,v1,e,h.xf⟩
theorem Yu{x:List aG}(h:GE rR 57 w a b v x)(hl:x.length<=1099511627776):Sv.O w (λk=>a<=k/\k<b) [v] x:=by obtain⟨A,c,e,hc,o⟩:=h.ox (E':=Jf) hl rfl sO;exact⟨A,c,by rw[e],hc,o⟩
def Xc:EL (List aG) where
 k:=1
 O:=λw a b vs x=>∃v,vs=[v]/\x.length<=1099511627776/\GE rR 57 w a b v x
 mM:=λh=>by obtain⟨_,rfl,_⟩:=h;rfl
 keep:=λh hk=>by obtain⟨v,e,h1,h2⟩:=h;exact⟨v,e,h1,h2.keep hk⟩
 one:=λh u hu=>by obtain⟨v,e,h1,h2⟩:=h;obtain⟨A,c,e2⟩:=h2.kH;subst e e2;simp at hu;subst hu;rfl
theorem adt{vs:List Value}{x:List aG}(h:Xc.O w a b vs x):Sv.O w (λk=>a<=k/\k<b) vs x:=by obtain⟨v,rfl,hl,h⟩:=h;exact Yu h hl
theorem qz(h:GE Xc 54 w B H v xs)(hH:H<=w.heap.size){v0:Value}{x:List aG}(hu:GE rR 57 w a b v0 x)(hx:x.length<=1099511627776)(ha:H<=a)(hab:a<=b)(hb:b<=w.heap.size)(hB:B<=H)(hl:xs.length+1<=1099511627776):
 ∃v' w',(Builtin.append_ #[26,26] 26 #[v,.slice (some ⟨w.heap.size,0,none⟩) 1 1]).run prog (w.alloc (.cells #[v0] 54))=.ok v' w'/\
  GE Xc 54 w' B w'.heap.size v' (xs++[x])/\qh v.ownBlock w w'/\v'≠.slice none 0 0/\∀b',Ex b' w->b'.heap.size<=B->Ex b' w':=by
 obtain⟨i,hi,hz,hs,hby⟩:=axW jB;obtain⟨v',w',h1,h2,h3,_,h5,h6⟩:=GE.push Xc Tryz.underlying26 hi hz hs hby rfl (by decide) (by omega) h hH ⟨v0,rfl,hx,hu⟩ ha hab hb hB hl;exact⟨v',w',h1,h2,h3,h5,h6⟩
theorem GE.rows(h:GE Xc 54 w B H v xs)(hl:xs.length<=1099511627776):∃A c,v=.slice A xs.length c/\OX Sv 54 w (λk=>B<=k/\k<H) A xs/\j_ w A xs:=by obtain⟨A,c,e,_,o⟩:=h.ox (E':=Sv) hl rfl adt;exact⟨A,c,e,o,o.Da⟩
def rQ(w:World)(a b:Nat)(v:Value)(x:List (List aG)):Prop:=∃(A:Option Addr) (c:Nat) (S:Nat->Prop),v=.slice A x.length c/\(∀k,S k->a<=k/\k<b)/\OX Sv 54 w S A x
theorem rQ.off(h:rQ w a b v x)(ht:eZ x<=1125899906842624):OFF w a b v x:=⟨h,ht⟩
theorem rQ.iv{w':World}{a' b':Nat}(h:rQ w a b v x)(k:jE a' b' w w')(hd:b<=a'∨b'<=a):rQ w' a b v x:=by obtain⟨A,c,S,e,hS,o⟩:=h;exact⟨A,c,S,e,hS,o.keep λi hi hl=>k.block i hl (by have:=hS i hi;omega)⟩
theorem rQ.more{a' b':Nat}(h:rQ w a b v x)(h1:a'<=a)(h2:b<=b'):rQ w a' b' v x:=by obtain⟨A,c,S,e,hS,o⟩:=h;exact⟨A,c,S,e,λk hk=>by have:=hS k hk;omega,o⟩
theorem rQ.rd(h:rQ w a b v x):∃A c,v=.slice A x.length c/\bW iX w A x:=by obtain⟨A,c,S,e,hS,o⟩:=h;exact⟨A,c,e,o.JC rfl RU⟩
theorem rQ.Da{A:Option Addr}{c:Nat}(h:rQ w a b (.slice A n c) x):j_ w A x:=by obtain⟨A',c',S,e,hS,o⟩:=h;injection e with e1 _ _;subst e1;exact o.Da
theorem rQ.nil(w:World)(a b:Nat)(A:Option Addr)(c:Nat):rQ w a b (.slice A 0 c) []:=⟨A,c,λ_=>False,rfl,λ_ hk=>hk.elim,OX.nil _ _ _ _ _⟩
theorem GE.ofx(h:GE Xc 54 w B H v xs)(hl:xs.length<=1099511627776):rQ w B H v xs:=by obtain⟨A,c,e,o,_⟩:=h.rows hl;exact⟨A,c,_,e,λk hk=>hk,o⟩
def gY(l i:Nat):List aG:=(List.replicate l zF).set i oF
end Go.Proofs.YthgiffhlfcmgaaaGreatDoor
