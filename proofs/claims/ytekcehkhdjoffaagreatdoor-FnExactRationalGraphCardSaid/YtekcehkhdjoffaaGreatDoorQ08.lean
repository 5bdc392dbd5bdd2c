/- Lemmas and walks on terms over rational functions: Reduced lists: the reference's .. -/
import Derived.Test.YtekcehkhdjoffaaGreatDoorQ06
namespace Go.Proofs.YtekcehkhdjoffaaGreatDoor
open _root_.Go.Proofs.Tryz(prog)
set_option maxRecDepth 100000
set_option maxHeartbeats 8000000
set_option linter.all false
open Go Go.RowKit
variable{p:Int}{rows:List (List aF)}{n:Nat}
def OK1(p:Int)(n:Nat)(rows:List (List aF))(j:Nat)(r:List aF):Prop:=
 j3 p n r=true/\dY r≠n/\(ah p).el r (dY r)=oF/\∀u,0<j->rows[j-1]?=some u->dY u<dY r
def OK2(p:Int)(rows:List (List aF))(i j:Nat):Prop:=∀(u v:List aF),rows[i]?=some u->rows[j]?=some v->i≠j->ig ((ah p).el v (dY u))=true
theorem zQ(xs:List aF):dY xs<=xs.length:=List.findIdx_le_length
theorem Px(h:dO p n rows=true/\Bf (ah p) n rows){j:Nat}{r:List aF}(hr:rows[j]?=some r):OK1 p n rows j r:=by obtain⟨h1,h2⟩:=h;have hm:=am1 hr;obtain⟨k1,k2⟩:=h2.one r hm;refine⟨anl.1 h1 r hm,λe=>by rw[sw,e]at k1;omega,k2,λu hj hu=>?_⟩;exact h2.Et (j-1) u r hu (by rw[show j-1+1=j by omega];exact hr)
theorem Pv(h:dO p n rows=true/\Bf (ah p) n rows)(i j:Nat):OK2 p rows i j:=λu v hu hv hne=>h.2.Bh i j u v hu hv hne
theorem Py(h1:∀(j:Nat) (r:List aF),rows[j]?=some r->OK1 p n rows j r)(h2:∀i j,i<rows.length->j<rows.length->OK2 p rows i j):dO p n rows=true/\Bf (ah p) n rows:=by
 have hok:dO p n rows=true:=anl.2 λr hr=>by obtain⟨j,hj⟩:=anc hr;exact(h1 j r hj).1
 refine⟨hok,nS hok,λr hr=>?_,λi u v hu hv=>?_,λi k u v hu hv hne=>h2 i k (am2.1 hu).1 (am2.1 hv).1 u v hu hv hne⟩
 .obtain⟨j,hj⟩:=anc hr;obtain⟨_,k2,k3,_⟩:=h1 j r hj;have:=zQ r;rw[nS hok r hr]at this;exact⟨by rw[sw];omega,k3⟩
 .exact(h1 (i+1) v hv).2.2.2 u (by omega) (by rw[ao4];exact hu)
theorem NM(p:Int)(n:Nat)(r:List aF):(r.all (λx=>bF p x.n x.d)&&decide ((r.length:Int)=(n:Int)))=j3 p n r:=by rw[j3,Bool.and_comm];congr 1;rw[an3];simp only[decide_eq_true_eq];omega
theorem R4{x y:aF}:(decide (x.n=y.n)&&decide (x.d=y.d))=true↔x=y:=by obtain⟨a,b⟩:=x;obtain⟨a',b'⟩:=y;simp
theorem lK{P:Program}{ops:Array Oper}{Q:Exit->Act->World->Prop}{md:Region.Mode}{oi:Oper}{fuel:Nat}{listed:Array Bool}{a:Act}{w:World}(i:Nat)(v:Value)(h:wpAny P md ops Q fuel (listed.setIfInBounds i true) (a.put oi.dst v) w)(hi:ops[i]?=some oi:=by exact rfl)(hs:Region.noSelect ops=true:=by kernel_rfl)(hf:Region.free md ops listed i=true:=by kernel_rfl)(hr:(Region.ready md ops listed).contains i=true:=by kernel_rfl)(hQ:∀c a w,Q (.panic c) (a.put oi.dst v) w->Q (.panic c) a w:=by exact λ_ _ _ h=>h)(hy:Yields P ops oi v a:=by exact Or.inl ⟨by kernel_rfl,λw=>by kernel_rfl⟩):wpAny P md ops Q (fuel+1) listed a w:=
 wpAny_take hi hs hf hr hQ hy h
theorem iy{P:Program}{ops:Array Oper}{Q:Exit->Act->World->Prop}{md:Region.Mode}{oi:Oper}{fuel:Nat}{listed:Array Bool}{a:Act}{w:World}(i:Nat)(h:wpAny P md ops Q fuel (listed.setIfInBounds i true) (a.put oi.dst undef) w)(hi:ops[i]?=some oi:=by exact rfl)(hs:Region.noSelect ops=true:=by kernel_rfl)(hf:Region.free md ops listed i=true:=by kernel_rfl)(hr:(Region.ready md ops listed).contains i=true:=by kernel_rfl)(hQ:∀c a w,Q (.panic c) (a.put oi.dst undef) w->Q (.panic c) a w:=by exact λ_ _ _ h=>h)(hy:Yields P ops oi undef a:=by exact Or.inr ⟨by kernel_rfl,rfl⟩):wpAny P md ops Q (fuel+1) listed a w:=
 wpAny_take hi hs hf hr hQ hy h
theorem XF(p:Int)(n:Nat)(A:Option Addr)(c:Nat)(rows:List (List aF))(w:World)(h:gm iE w A rows)(_:n<=1000):
 Calls prog 82 #[.int .i64 p,.int .i64 n,.slice A rows.length c] w λe w'=>∃b,e=.returned (.bool b)/\(b=true↔dO p n rows=true/\Bf (ah p) n rows)/\Ex w w':=by
 have hl:=h.1;go_enter Tryz.func82,Tryz.ntmps82
 go_wp2_with fail
 go_loopw [15] (λi wr=>∃k:Nat,k<=rows.length/\i=.int .i64 k/\Hid (∀(j:Nat) (r:List aF),j<k->rows[j]?=some r->OK1 p n rows j r)/\Ex w wr) (λi _=>rows.length-(intOf i).toNat)
 case atStart=>exact⟨0,am4 _,rfl,amW (λj r h=>by omega),asF _⟩
 case round=>
  obtain⟨k,hk,rfl,gy,he⟩:=hrel;by_cases hlt:k<rows.length
  .obtain⟨g,off,r,v,rfl,hr,b0,hv⟩:=(h.ex he).j5 hlt;obtain⟨P,pc,rfl,hP⟩:=hv.form;have Hr:=amW hr;clear hr hv;have eA:=(asF wr).drew;have HN:=amW (show¬OK1 p n rows k r->¬(dO p n rows=true/\Bf (ah p) n rows)from λh1 h2=>h1 (Px h2 Hr.out));have wX:∀W,Ex wr W->Calls prog 112 #[.int .i64 p,.int .i64 n,.slice P r.length pc] W λe w'=>e=.returned (.bool (j3 p n r))/\Ex W w':=λW hW=>by
    have:=EU p n P pc r W (hP.ex hW);rw[NM]at this;exact this
   have fV:∀W,Ex wr W->Calls prog 47 #[.slice P r.length pc] W λe w'=>e=.returned (.int .i64 (dY r))/\Ex W w':=λW hW=>mJ P pc r W (hP.ex hW)
   cases hgood:j3 p n r with
   |false=>
    rw[hgood]at wX;have VR:=amW (HN.out λh1=>by have:=h1.1;rw[hgood]at this;cases this);clear hgood HN fV;go_wp2_with fail
    first
    |go_region_with (first
      |(go_at_call 112
        refine(wX _ eA).mono ?_;rintro e w1 ⟨rfl,x1⟩;have e1:=eA.trans x1;dsimp only;refine(‹∀(a:Act) (w:World),wpAny _ _ _ _ _ _ a w->_›:_) _ _ ?_;refine lK 4 (.bool true) ?_;refine lK 5 (.bool true) ?_;refine iy 6 ?_;refine iy 7 ?_;refine iy 8 ?_;refine iy 9 ?_;refine lK 10 (.bool true) ?_;refine lK 11 (.bool true) ?_;refine iy 12 ?_;refine iy 13 ?_;refine iy 14 ?_;refine iy 15 ?_;refine iy 16 ?_;refine iy 17 ?_;refine iy 18 ?_;refine iy 19 ?_;refine lK 20 (.bool true) ?_;refine lK 21 (.bool true) ?_;refine iy 22 ?_;refine iy 23 ?_;refine iy 24 ?_;refine iy 25 ?_;refine iy 26 ?_;refine iy 27 ?_;refine iy 28 ?_;refine iy 29 ?_;refine iy 30 ?_;refine iy 31 ?_;refine iy 32 ?_;refine iy 33 ?_;refine iy 34 ?_))
    |fail "region"
    all_goals
     go_simp
     go_wp2_with fail
     go_ret;exact⟨false,rfl,⟨λe=>Bool.noConfusion e,λe=>absurd e VR.out⟩,he.trans e1⟩
   |true=>
    rw[hgood]at wX;have hrn:r.length=n:=by rw[j3,anx,decide_eq_true_eq]at hgood;exact hgood.1
    have Xf:=amW hgood;clear hgood;by_cases hld:dY r=n
    .rw[hld]at fV;have VR:=amW (HN.out λh1=>h1.2.1 hld);clear hld HN hrn;go_wp2_with fail
     first
     |go_region_with (first
       |(go_at_call 112
         refine(wX _ eA).mono ?_;rintro e w1 ⟨rfl,x1⟩;have e1:=eA.trans x1)
       |(go_at_call_of 47 (Value.slice P r.length pc)
         refine(fV w1 e1).mono ?_;rintro e w2 ⟨rfl,x2⟩;have e2:=e1.trans x2;dsimp only;refine(‹∀(a:Act) (w:World),wpAny _ _ _ _ _ _ a w->_›:_) _ _ ?_;refine lK 9 (.bool true) ?_ (hy:=(Or.inl ⟨by kernel_rfl,λw=>by first|exact(show _=Result.ok (Next.value (Value.bool (decide ((n:Int)=(n:Int))))) w by kernel_rfl).trans (by rw[decide_eq_true rfl])|exact(show _=Result.ok (Next.value (Value.bool ((n:Int)==(n:Int)))) w by kernel_rfl).trans (by rw[beq_self_eq_true])⟩));refine lK 10 (.bool true) ?_;refine lK 11 (.bool true) ?_;refine iy 12 ?_;refine iy 13 ?_;refine iy 14 ?_;refine iy 15 ?_;refine iy 16 ?_;refine iy 17 ?_;refine iy 18 ?_;refine iy 19 ?_;refine lK 20 (.bool true) ?_;refine lK 21 (.bool true) ?_;refine iy 22 ?_;refine iy 23 ?_;refine iy 24 ?_;refine iy 25 ?_;refine iy 26 ?_;refine iy 27 ?_;refine iy 28 ?_;refine iy 29 ?_;refine iy 30 ?_;refine iy 31 ?_;refine iy 32 ?_;refine iy 33 ?_;refine iy 34 ?_))
     |fail "region"
     all_goals
      go_simp
      go_wp2_with fail
      go_ret;exact⟨false,rfl,⟨λe=>Bool.noConfusion e,λe=>absurd e VR.out⟩,he.trans e2⟩
    .have hll:dY r<r.length:=by have:=zQ r;omega
     obtain⟨g2,off2,x,Q,qc,Q',MI,rfl,hx,c0,c1,hQ,hQ'⟩:=hP.ku hll;have hel:(ah p).el r (dY r)=x:=(ah p).bT hx;obtain⟨L,hL⟩:=xq (dY r);have HLn:=amW hld;rw[hL]at c0 c1 hll fV;have HL:=amW hL;have Bg:=amW hel;have Hrn:=amW hrn;have abj:decide ((L:Int)=(n:Int))=false:=by simp;omega
     have WB:((L:Int)==(n:Int))=false:=by simp;omega
     have cSame:∀(A4 B4:Option Addr) (c4 k4:Nat) (W:World),Ex wr W->Rd W A4 oF.n->Rd W B4 oF.d->Calls prog 113 #[.agg #[.slice Q x.n.length qc,.slice Q' x.d.length MI],.agg #[.slice A4 oF.n.length c4,.slice B4 oF.d.length k4]] W λe w'=>e=.returned (.bool (decide (x.n=oF.n)&&decide (x.d=oF.d)))/\Ex W w':=λA4 B4 c4 k4 W hW r1 r2=>
      R8 Q Q' A4 B4 qc MI c4 k4 x oF W (hQ.ex hW) (hQ'.ex hW) r1 r2
     clear hx hel hld hL hrn;cases hone:(decide (x.n=oF.n)&&decide (x.d=oF.d))with
     |false=>
      rw[hone]at cSame;have VR:=amW (HN.out λh1=>by
       have:=h1.2.2.1;rw[Bg.out]at this;rw[R4.2 this]at hone;cases hone)
      clear hone HN;go_wp2_with fail
      first
      |go_region_with (first
        |(go_at_call 112
          refine(wX _ eA).mono ?_;rintro e w1 ⟨rfl,x1⟩;have e1:=eA.trans x1)
        |(go_at_call_of 47 (Value.slice (some ⟨g2,off2,none⟩) r.length pc)
          refine(fV w1 e1).mono ?_;rintro e w2 ⟨rfl,x2⟩;have e2:=e1.trans x2)
        |(go_at_call_of 47 (Value.slice (some ⟨g2,off2,none⟩) r.length pc)
          refine(fV w2 e2).mono ?_;rintro e w3 ⟨rfl,x3⟩;have e3:=e2.trans x3;have d0:=af e3 c0;have d1:=af e3 c1)
        |(go_at_call 45
          refine(lI w3).mono ?_;rintro e w4 ⟨A4,c4,B4,k4,rfl,f4,g4,Zd,x4⟩;have e4:=e3.trans x4;have d2:=af e4 c0;have d3:=af e4 c1)
        |(go_at_call 113
          refine(cSame A4 B4 c4 k4 w4 e4 f4.rd g4.rd).mono ?_;rintro e w5 ⟨rfl,x5⟩;have e5:=e4.trans x5;dsimp only;refine(‹∀(a:Act) (w:World),wpAny _ _ _ _ _ _ a w->_›:_) _ _ ?_;refine lK 19 (.bool true) ?_;refine lK 20 (.bool true) ?_;refine lK 21 (.bool true) ?_;refine iy 22 ?_;refine iy 23 ?_;refine iy 24 ?_;refine iy 25 ?_;refine iy 26 ?_;refine iy 27 ?_;refine iy 28 ?_;refine iy 29 ?_;refine iy 30 ?_;refine iy 31 ?_;refine iy 32 ?_;refine iy 33 ?_;refine iy 34 ?_))
      |fail "region"
      all_goals
       go_simp
       go_wp2_with fail
       go_ret;exact⟨false,rfl,⟨λe=>Bool.noConfusion e,λe=>absurd e VR.out⟩,he.trans e5⟩
     |true=>
      rw[hone]at cSame;have acF:=amW (R4.1 hone);clear hone;by_cases hk0:k=0
      .subst hk0;rw[anS]at b0;clear HN;go_wp2_with fail
       first
       |go_region_with (first
         |(go_at_call 112
           refine(wX _ eA).mono ?_;rintro e w1 ⟨rfl,x1⟩;have e1:=eA.trans x1)
         |(go_at_call_of 47 (Value.slice (some ⟨g2,off2,none⟩) r.length pc)
           refine(fV w1 e1).mono ?_;rintro e w2 ⟨rfl,x2⟩;have e2:=e1.trans x2)
         |(go_at_call_of 47 (Value.slice (some ⟨g2,off2,none⟩) r.length pc)
           refine(fV w2 e2).mono ?_;rintro e w3 ⟨rfl,x3⟩;have e3:=e2.trans x3;have d0:=af e3 c0;have d1:=af e3 c1)
         |(go_at_call 45
           refine(lI w3).mono ?_;rintro e w4 ⟨A4,c4,B4,k4,rfl,f4,g4,Zd,x4⟩;have e4:=e3.trans x4;have d2:=af e4 c0;have d3:=af e4 c1)
         |(go_at_call 113
           refine(cSame A4 B4 c4 k4 w4 e4 f4.rd g4.rd).mono ?_;rintro e w5 ⟨rfl,x5⟩;have e5:=e4.trans x5;dsimp only;refine(‹∀(a:Act) (w:World),wpAny _ _ _ _ _ _ a w->_›:_) _ _ ?_;refine lK 19 (.bool false) ?_;refine lK 20 (.bool false) ?_;refine lK 21 (.bool false) ?_;refine lK 22 (.int .i64 0) ?_;refine lK 23 (.bool false) ?_;refine lK 24 (.bool false) ?_;refine iy 25 ?_;refine iy 26 ?_;refine iy 27 ?_;refine iy 28 ?_;refine iy 29 ?_;refine iy 30 ?_;refine iy 31 ?_;refine iy 32 ?_;refine iy 33 ?_;refine lK 34 (.bool false) ?_))
       |fail "region"
       all_goals
        go_simp
        go_wp2_with fail
        go_roundw;case rel=>exact⟨1,by omega,by go_num,amW (λj r' hj hr'=>by
         obtain rfl:j=0:=by omega
         rw[Hr.out]at hr';injection hr' with hr';subst hr';exact⟨Xf.out,HLn.out,by rw[Bg.out];exact acF.out,λu h0=>by omega⟩),he.trans e5⟩
        case measure=>simp[intOf]<;>omega
      .obtain⟨j,Hj⟩:∃j,Hid (j+1=k):=⟨k-1,amW (by omega)⟩;have hjl:j<rows.length:=by have:=Hj.out;omega
       have hw:IntKind.i64.wrap ((k:Int)-1)=(j:Int):=by have:=Hj.out;rw[ant _ (by omega)];omega
       have hkp:(0:Int)<(k:Int):=by omega
       have hkb:decide ((0:Int)<(k:Int))=true:=decide_eq_true hkp;obtain⟨g',off',u,v',eg,hu,b1,hv'⟩:=(h.ex he).j5 hjl;injection eg with eg;injection eg with eg1 Vu;subst eg1 Vu;obtain⟨P1,pc1,rfl,hP1⟩:=hv'.form;have Hu:=amW hu;clear hu hv';obtain⟨L1,hL1⟩:=xq (dY u);have HL1:=amW hL1;have Tn:∀W,Ex wr W->Calls prog 47 #[.slice P1 u.length pc1] W λe w'=>e=.returned (.int .i64 L1)/\Ex W w':=λW hW=>by have:=mJ P1 pc1 u W (hP1.ex hW);rw[hL1]at this;exact this
       clear hL1;by_cases hlt1:L1<L
       .have hgb:decide (L<=L1)=false:=decide_eq_false (by omega);have hgn:¬L<=L1:=by omega
        have agd:=amW hlt1;clear HN hlt1;go_wp2_with fail
        first
        |go_region_with (first
          |(go_at_call 112
            refine(wX _ eA).mono ?_;rintro e w1 ⟨rfl,x1⟩;have e1:=eA.trans x1)
          |(go_at_call_of 47 (Value.slice (some ⟨g2,off2,none⟩) r.length pc)
            refine(fV w1 e1).mono ?_;rintro e w2 ⟨rfl,x2⟩;have e2:=e1.trans x2)
          |(go_at_call_of 47 (Value.slice (some ⟨g2,off2,none⟩) r.length pc)
            refine(fV w2 e2).mono ?_;rintro e w3 ⟨rfl,x3⟩;have e3:=e2.trans x3;have d0:=af e3 c0;have d1:=af e3 c1)
          |(go_at_call 45
            refine(lI w3).mono ?_;rintro e w4 ⟨A4,c4,B4,k4,rfl,f4,g4,Zd,x4⟩;have e4:=e3.trans x4;have d2:=af e4 c0;have d3:=af e4 c1)
          |(go_at_call 113
            refine(cSame A4 B4 c4 k4 w4 e4 f4.rd g4.rd).mono ?_;rintro e w5 ⟨rfl,x5⟩;have e5:=e4.trans x5;have b5:=af e5 b1;dsimp only;refine(‹∀(a:Act) (w:World),wpAny _ _ _ _ _ _ a w->_›:_) _ _ ?_;refine lK 19 (.bool false) ?_;refine lK 20 (.bool false) ?_;refine lK 21 (.bool false) ?_;refine lK 22 (.int .i64 k) ?_;refine lK 23 (.bool true) ?_ (hy:=(Or.inl ⟨by kernel_rfl,λw=>by first|exact(show _=Result.ok (Next.value (Value.bool (decide ((0:Int)<(k:Int))))) w by kernel_rfl).trans (by rw[hkb])|exact(show _=Result.ok (Next.value (Value.bool (decide ((k:Int)>0)))) w by kernel_rfl).trans (by rw[show decide ((k:Int)>0)=true from hkb])⟩));refine lK 24 (.bool true) ?_;refine lK 31 (.slice (some ⟨g2,off2,none⟩) r.length pc) ?_ (hy:=(Or.inl ⟨by kernel_rfl,λw=>by kernel_rfl⟩));refine lK 25 (.slice (some ⟨g,off,none⟩) rows.length c) ?_ (hy:=(Or.inl ⟨by kernel_rfl,λw=>by kernel_rfl⟩));refine lK 26 (.int .i64 k) ?_;refine lK 27 (.int .i64 j) ?_ (hy:=(Or.inl ⟨by kernel_rfl,λw=>(show _=Result.ok (Next.value (Value.int .i64 (IntKind.i64.wrap ((k:Int)-1)))) w by kernel_rfl).trans (by rw[hw])⟩));refine lK 28 (.pointer (some ⟨g,off+j,none⟩)) ?_ (hy:=(Or.inl ⟨by kernel_rfl,λw=>by go_simp⟩)))
          |(go_at_call_of 47 (Value.slice P1 u.length pc1)
            refine(Tn w5 e5).mono ?_;rintro e w6 ⟨rfl,x6⟩;have e6:=e5.trans x6)
          |(go_at_call_of 47 (Value.slice (some ⟨g2,off2,none⟩) r.length pc)
            refine(fV w6 e6).mono ?_;rintro e w7 ⟨rfl,x7⟩;have e7:=e6.trans x7))
        |fail "region"
        all_goals
         clear hw hkb hkp hgb hgn abj WB hk0
         go_simp
         go_wp2_with fail
         go_roundw;case rel=>exact⟨k+1,by omega,by go_num,amW (λj' r' hj hr'=>by
          by_cases e:j'<k
          .exact gy.out j' r' e hr'
          .obtain rfl:j'=k:=by omega
           rw[Hr.out]at hr';injection hr' with hr';subst hr';exact⟨Xf.out,HLn.out,by rw[Bg.out];exact acF.out,λu' h0 hu'=>by
            rw[show j'-1=j by have:=Hj.out;omega,Hu.out]at hu';injection hu' with hu';subst hu';rw[HL1.out,HL.out];exact agd.out⟩),he.trans e7⟩
         case measure=>simp[intOf]<;>omega
       .have hgb:decide (L<=L1)=true:=decide_eq_true (by omega);have hgn:L<=L1:=by omega
        have VR:=amW (HN.out λh1=>hlt1 (by
         have:=h1.2.2.2 u (by omega) (by rw[show k-1=j by have:=Hj.out;omega];exact Hu.out);rw[HL1.out,HL.out]at this;exact this))
        clear HN hlt1;go_wp2_with fail
        first
        |go_region_with (first
          |(go_at_call 112
            refine(wX _ eA).mono ?_;rintro e w1 ⟨rfl,x1⟩;have e1:=eA.trans x1)
          |(go_at_call_of 47 (Value.slice (some ⟨g2,off2,none⟩) r.length pc)
            refine(fV w1 e1).mono ?_;rintro e w2 ⟨rfl,x2⟩;have e2:=e1.trans x2)
          |(go_at_call_of 47 (Value.slice (some ⟨g2,off2,none⟩) r.length pc)
            refine(fV w2 e2).mono ?_;rintro e w3 ⟨rfl,x3⟩;have e3:=e2.trans x3;have d0:=af e3 c0;have d1:=af e3 c1)
          |(go_at_call 45
            refine(lI w3).mono ?_;rintro e w4 ⟨A4,c4,B4,k4,rfl,f4,g4,Zd,x4⟩;have e4:=e3.trans x4;have d2:=af e4 c0;have d3:=af e4 c1)
          |(go_at_call 113
            refine(cSame A4 B4 c4 k4 w4 e4 f4.rd g4.rd).mono ?_;rintro e w5 ⟨rfl,x5⟩;have e5:=e4.trans x5;have b5:=af e5 b1;dsimp only;refine(‹∀(a:Act) (w:World),wpAny _ _ _ _ _ _ a w->_›:_) _ _ ?_;refine lK 19 (.bool false) ?_;refine lK 20 (.bool false) ?_;refine lK 21 (.bool false) ?_;refine lK 22 (.int .i64 k) ?_;refine lK 23 (.bool true) ?_ (hy:=(Or.inl ⟨by kernel_rfl,λw=>by first|exact(show _=Result.ok (Next.value (Value.bool (decide ((0:Int)<(k:Int))))) w by kernel_rfl).trans (by rw[hkb])|exact(show _=Result.ok (Next.value (Value.bool (decide ((k:Int)>0)))) w by kernel_rfl).trans (by rw[show decide ((k:Int)>0)=true from hkb])⟩));refine lK 24 (.bool true) ?_;refine lK 31 (.slice (some ⟨g2,off2,none⟩) r.length pc) ?_ (hy:=(Or.inl ⟨by kernel_rfl,λw=>by kernel_rfl⟩));refine lK 25 (.slice (some ⟨g,off,none⟩) rows.length c) ?_ (hy:=(Or.inl ⟨by kernel_rfl,λw=>by kernel_rfl⟩));refine lK 26 (.int .i64 k) ?_;refine lK 27 (.int .i64 j) ?_ (hy:=(Or.inl ⟨by kernel_rfl,λw=>(show _=Result.ok (Next.value (Value.int .i64 (IntKind.i64.wrap ((k:Int)-1)))) w by kernel_rfl).trans (by rw[hw])⟩));refine lK 28 (.pointer (some ⟨g,off+j,none⟩)) ?_ (hy:=(Or.inl ⟨by kernel_rfl,λw=>by go_simp⟩)))
          |(go_at_call_of 47 (Value.slice P1 u.length pc1)
            refine(Tn w5 e5).mono ?_;rintro e w6 ⟨rfl,x6⟩;have e6:=e5.trans x6)
          |(go_at_call_of 47 (Value.slice (some ⟨g2,off2,none⟩) r.length pc)
            refine(fV w6 e6).mono ?_;rintro e w7 ⟨rfl,x7⟩;have e7:=e6.trans x7))
        |fail "region"
        all_goals
         clear hw hkb hkp hgb hgn abj WB hk0
         go_simp
         go_wp2_with fail
         go_ret;exact⟨false,rfl,⟨λe=>Bool.noConfusion e,λe=>absurd e VR.out⟩,he.trans e7⟩
  .obtain rfl:k=rows.length:=by omega
   have H1:=amW (show∀(j:Nat) (r:List aF),rows[j]?=some r->OK1 p n rows j r from λj r hr=>gy.out j r (am2.1 hr).1 hr);clear gy;go_wp2_with fail
   go_loopw [59] (λi wr=>∃k:Nat,k<=rows.length/\i=.int .i64 k/\Hid (∀(i j:Nat),i<k->j<rows.length->OK2 p rows i j)/\Ex w wr) (λi _=>rows.length-(intOf i).toNat)
   case atStart=>exact⟨0,am4 _,rfl,amW (λi j h=>by omega),he⟩
   case round=>
    clear he;obtain⟨k,hk,rfl,H2,he⟩:=hrel;by_cases hlt:k<rows.length
    .obtain⟨g,off,r,v,rfl,hr,b0,hv⟩:=(h.ex he).j5 hlt;obtain⟨P,pc,rfl,hP⟩:=hv.form;have Hr:=amW hr;clear hr hv;obtain⟨L,hL⟩:=xq (dY r);have HL:=amW hL;have hLn:L<n:=by
      have q:=H1.out k r Hr.out;have:=zQ r;have q1:=q.1;rw[j3,anx,decide_eq_true_eq]at q1;have:=q.2.1;omega
     clear hL;go_wp2_with fail
     go_loopw [66] (λi wr=>∃j:Nat,j<=rows.length/\i=.int .i64 j/\Hid (∀(j':Nat),j'<j->OK2 p rows k j')/\gm EF wr P r/\Ex w wr) (λi _=>rows.length-(intOf i).toNat)
     case atStart=>exact⟨0,am4 _,rfl,amW (λj h=>by omega),hP,he⟩
     case round=>
      clear hP;obtain⟨j,hj,rfl,H3,hP,he2⟩:=hrel;by_cases hlt2:j<rows.length
      .by_cases hij:k=j
       .subst hij;have hb1:((k:Int) !=(k:Int))=false:=by simp
        obtain⟨g2,off2,s,v2,Vu,hs,b2,hv2⟩:=(h.ex he2).j5 hlt2;injection Vu with Vu;injection Vu with e1 e2;subst e1 e2;obtain⟨P2,pc2,rfl,hP2⟩:=hv2.form;clear hs hv2;go_wp2_with fail
        refine⟨⟨k+1,by omega,by go_num,amW (λj' hj'=>by
         by_cases e:j'<k
         .exact H3.out j' e
         .obtain rfl:j'=k:=by omega
          exact λu v _ _ hne=>absurd rfl hne),hP,he2⟩,?_⟩
        simp[intOf]<;>omega
       .have ake:((k:Int) !=(j:Int))=true:=by simp;omega
        have Hij:=amW hij;clear hij;obtain⟨g2,off2,s,v2,Vu,hs,b2,hv2⟩:=(h.ex he2).j5 hlt2;injection Vu with Vu;injection Vu with e1 e2;subst e1 e2;obtain⟨P2,pc2,rfl,hP2⟩:=hv2.form;have hsl:L<s.length:=by have q1:=(H1.out j s hs).1;rw[j3,anx,decide_eq_true_eq]at q1;omega
        obtain⟨g3,ad9,x,Q,qc,Q',MI,rfl,hx,c0,c1,hQ,hQ'⟩:=hP2.ku hsl;have Hs:=amW hs;have Hx:=amW hx;clear hs hv2 hx;have eA:=(asF wr).drew;have fV:∀W,Ex wr W->Calls prog 47 #[.slice P r.length pc] W λe w'=>e=.returned (.int .i64 L)/\Ex W w':=λW hW=>by have:=mJ P pc r W (hP.ex hW);rw[HL.out]at this;exact this
        have Lh:∀W,Ex wr W->Calls prog 77 #[.agg #[.slice Q x.n.length qc,.slice Q' x.d.length MI]] W λe w'=>e=.returned (.bool (ig x))/\Ex W w':=λW hW=>nM Q Q' qc MI x W hQ.len
        cases hz:ig x with
        |true=>
         rw[hz]at Lh;have Hz:=amW hz;clear hz;go_wp2_with fail
         refine(fV _ (asF _)).mono ?_;rintro e w1 ⟨rfl,x1⟩;have d0:=af x1 c0;have d1:=af x1 c1;go_wp2_with fail
         refine(Lh w1 x1).mono ?_;rintro e w2 ⟨rfl,x2⟩;have e2:=x1.trans x2;go_wp2_with fail
         go_roundw;case rel=>exact⟨j+1,by omega,by go_num,amW (λj' hj'=>by
          by_cases e:j'<j
          .exact H3.out j' e
          .obtain rfl:j'=j:=by omega
           intro u v hu hv _;rw[Hr.out]at hu;rw[Hs.out]at hv;injection hu with hu;injection hv with hv;subst hu hv;rw[HL.out,(ah p).bT Hx.out];exact Hz.out),hP.ex e2,he2.trans e2⟩
         case measure=>simp[intOf]<;>omega
        |false=>
         rw[hz]at Lh;have VR:=amW (show¬(dO p n rows=true/\Bf (ah p) n rows)from λh1=>by
          have:=Pv h1 k j r s Hr.out Hs.out Hij.out;rw[HL.out,(ah p).bT Hx.out]at this;have hz':ig x=true:=this;rw[hz]at hz';cases hz')
         clear hz;go_wp2_with fail
         refine(fV _ (asF _)).mono ?_;rintro e w1 ⟨rfl,x1⟩;have d0:=af x1 c0;have d1:=af x1 c1;go_wp2_with fail
         refine(Lh w1 x1).mono ?_;rintro e w2 ⟨rfl,x2⟩;have e2:=x1.trans x2;go_wp2_with fail
         go_ret;exact⟨false,rfl,⟨λe=>Bool.noConfusion e,λe=>absurd e VR.out⟩,he2.trans e2⟩
      .obtain rfl:j=rows.length:=by omega
       go_wp2_with fail
       go_roundw;case rel=>exact⟨k+1,by omega,by go_num,amW (λi' j' hi' hj'=>by
        by_cases e:i'<k
        .exact H2.out i' j' e hj'
        .obtain rfl:i'=k:=by omega
         exact H3.out j' hj'),he2⟩
       case measure=>simp[intOf]<;>omega
    .obtain rfl:k=rows.length:=by omega
     have HY:=amW (Py (p:=p) (n:=n) H1.out λi j hi hj=>H2.out i j hi hj);go_wp2_with fail
     go_ret;exact⟨true,rfl,⟨λ_=>HY.out,λ_=>rfl⟩,he⟩
theorem KU(l r:Int):jW l r=(bN 0 12 l&&bN 0 (12-l) r):=by rw[an3];simp[jW,bN];omega
theorem PE(p:Int)(x:iJ)(A:Option Addr)(c:Nat)(w:World)(h:gm iE w A x.b):
 Calls prog 49 #[.int .i64 p,.agg #[.int .i64 x.l,.int .i64 x.r,.slice A x.b.length c]] w λe w'=>∃b,e=.returned (.bool b)/\(b=true↔AQ p x)/\Ex w w':=by
 obtain⟨l,r,rows⟩:=x;dsimp only at h⊢;obtain⟨x0,v0⟩:=VB.xn w 29 #[.int .i64 l,.int .i64 r,.slice A rows.length c];have hN:AQ p ⟨l,r,rows⟩->aj p=true/\bN 0 12 l=true/\bN 0 (12-l) r=true:=λh=>by have h2:jW l r=true:=h.2.1;rw[KU,anx]at h2;exact⟨h.1,h2.1,h2.2⟩
 have c1:∀W,Calls prog 38 #[.int .i64 p] W λe w'=>e=.returned (.bool (aj p))/\W=w':=λW=>kU p W
 have c2:∀W,Calls prog 66 #[.int .i64 l,.int .i64 0,.int .i64 12] W λe w'=>e=.returned (.bool (bN 0 12 l))/\W=w':=λW=>lZ l 0 12 W
 have c3:∀W,Calls prog 66 #[.int .i64 r,.int .i64 0,.int .i64 (12-l)] W λe w'=>e=.returned (.bool (bN 0 (12-l) r))/\W=w':=λW=>lZ r 0 (12-l) W
 cases hF:aj p with
 |false=>
  have HN:=amW (show¬AQ p ⟨l,r,rows⟩from λh=>by have:=(hN h).1;rw[hF]at this;cases this);rw[hF]at c1;clear hF hN c2 c3;go_enter Tryz.func49,Tryz.ntmps49
  go_wp2_with fail
  generalize w.alloc (.cells #[.int .i64 l,.int .i64 r,.slice A rows.length c] 29)=W0 at*;refine(c1 _).mono ?_;rintro e w1 ⟨rfl,rfl⟩;go_wp2_with fail
  go_ret;exact⟨false,rfl,⟨λe=>Bool.noConfusion e,λe=>absurd e HN.out⟩,x0⟩
 |true=>
  rw[hF]at c1;cases h1:bN 0 12 l with
  |false=>
   have HN:=amW (show¬AQ p ⟨l,r,rows⟩from λh=>by have:=(hN h).2.1;rw[h1]at this;cases this);rw[h1]at c2;clear hF hN c3 h1;go_enter Tryz.func49,Tryz.ntmps49
   go_wp2_with fail
   have q0:=v0.c0;generalize w.alloc (.cells #[.int .i64 l,.int .i64 r,.slice A rows.length c] 29)=W0 at*;refine(c1 _).mono ?_;rintro e w1 ⟨rfl,rfl⟩;go_wp2_with fail
   refine(c2 _).mono ?_;rintro e w2 ⟨rfl,rfl⟩;go_wp2_with fail
   go_ret;exact⟨false,rfl,⟨λe=>Bool.noConfusion e,λe=>absurd e HN.out⟩,x0⟩
  |true=>
   rw[h1]at c2;have hl1:0<=l/\l<=12:=by simpa[bN]using h1
   have hw1:IntKind.i64.wrap (12-l)=12-l:=ant _ (by omega);cases h2:bN 0 (12-l) r with
   |false=>
    have HN:=amW (show¬AQ p ⟨l,r,rows⟩from λh=>by have:=(hN h).2.2;rw[h2]at this;cases this);rw[h2]at c3;clear hF hN h1 h2 hl1;go_enter Tryz.func49,Tryz.ntmps49
    go_wp2_with fail
    obtain⟨q0,q1⟩:=v0.d2;generalize w.alloc (.cells #[.int .i64 l,.int .i64 r,.slice A rows.length c] 29)=W0 at*;refine(c1 _).mono ?_;rintro e w1 ⟨rfl,rfl⟩;go_wp2_with fail
    refine(c2 _).mono ?_;rintro e w2 ⟨rfl,rfl⟩;go_wp2_with fail
    refine(c3 _).mono ?_;rintro e w3 ⟨rfl,rfl⟩;go_wp2_with fail
    go_ret;exact⟨false,rfl,⟨λe=>Bool.noConfusion e,λe=>absurd e HN.out⟩,x0⟩
   |true=>
    rw[h2]at c3;have hl2:0<=r/\r<=12-l:=by simpa[bN]using h2
    obtain⟨N,hNN⟩:∃N:Nat,(l+r).toNat=N:=⟨_,rfl⟩;have hwr:IntKind.i64.wrap (l+r)=(N:Int):=by rw[ant _ (by omega)];omega
    have hN1:N<=1000:=by omega
    have HR:=amW (show AQ p ⟨l,r,rows⟩↔(dO p N rows=true/\Bf (ah p) N rows) by
     have hfit:jW l r=true:=by rw[KU,h1,h2];rfl
     unfold AQ;dsimp only;rw[hNN];exact⟨λh=>⟨h.2.2.1,h.2.2.2⟩,λh=>⟨hF,hfit,h.1,h.2⟩⟩)
    clear hF hN h1 h2 hl1 hl2 hNN;go_enter Tryz.func49,Tryz.ntmps49
    go_wp2_with fail
    obtain⟨q0,q1,q2⟩:=v0.d3;generalize w.alloc (.cells #[.int .i64 l,.int .i64 r,.slice A rows.length c] 29)=W0 at*;refine(c1 _).mono ?_;rintro e w1 ⟨rfl,rfl⟩;go_wp2_with fail
    refine(c2 _).mono ?_;rintro e w2 ⟨rfl,rfl⟩;go_wp2_with fail
    refine(c3 _).mono ?_;rintro e w3 ⟨rfl,rfl⟩;go_wp2_with fail
    refine(XF p N A c rows _ (h.ex x0) hN1).mono ?_;rintro e w4 ⟨b,rfl,hb,x4⟩;clear hwr hw1;go_wp2_with fail
    go_ret;exact⟨b,rfl,by rw[HR.out];exact hb,x0.trans x4⟩
end Go.Proofs.YtekcehkhdjoffaaGreatDoor
