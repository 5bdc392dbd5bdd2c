/- Lemmas and walks on terms over rational functions: Valid rows, equal rows, valid rational .. -/
import Derived.Test.YthgiffhlfcmgaaaGreatDoorQ15
namespace Go.Proofs.YthgiffhlfcmgaaaGreatDoor
open _root_.Go.Proofs.Tryz(prog)
set_option maxRecDepth 100000
set_option maxHeartbeats 8000000
set_option linter.all false
open Go Go.RowKit
variable{p:Int}
theorem Kw(A B:Option Addr)(c d:Nat)(xs ys:List aG)(w:World)(h:bW EF w A xs)(h':bW EF w B ys):
 Calls prog 63 #[.slice A xs.length c,.slice B ys.length d,.func (.func 64) #[] #[]] w λe w'=>∃b,e=.returned (.bool b)/\(b=true↔xs=ys)/\Ex w w':=by
 have hl:=h.1;have hl':=h'.1;have eg:∀args w,(callFunc 64 args).run prog w=.ok (.enter 64 args) w:=enters_of Tryz.func64 (by kernel_rfl) rfl;by_cases hn:xs.length=ys.length;case neg=>
  have hb:((xs.length:Int) !=(ys.length:Int))=true:=by simp;omega
  have HN:=axj (show¬xs=ys from λe=>hn (by rw[e]));clear hn;go_enter Tryz.func63,Tryz.ntmps63
  go_wp2_with fail
  go_ret;exact⟨false,rfl,⟨λe=>(Bool.noConfusion e),λe=>absurd e HN.out⟩,aCQ w⟩
 have hb:((xs.length:Int) !=(ys.length:Int))=false:=by simp;omega
 have hn2:ys.length<=xs.length:=by omega
 have VZ:xs.length<=ys.length:=by omega
 have Hn:=axj hn;clear hn;go_enter Tryz.func63,Tryz.ntmps63
 go_wp2_with fail
 go_loopw [17] (λi wr=>∃k:Nat,k<=xs.length/\i=.int .i64 k/\Hid (xs.take k=ys.take k)/\Ex w wr) (λi _=>xs.length-(intOf i).toNat)
 case atStart=>exact⟨0,axq _,rfl,axj rfl,aCQ _⟩
 case round=>
  obtain⟨k,hk,rfl,He,he⟩:=hrel;by_cases hlt:k<xs.length
  .have hlt2:k<ys.length:=by omega
   obtain⟨g,off,x,P,pc,Q,qc,rfl,hx,c0,c1,hP,hQ⟩:=(h.ex he).iy hlt;obtain⟨g',off',y,P',pc',Q',MO,rfl,hy,c0',c1',hP',hQ'⟩:=(h'.ex he).iy hlt2;have Hx:=axj hx;have Hy:=axj hy;clear hx hy;have y1:=(aCQ wr).alloc (.cells #[.slice P x.n.length pc,.slice Q x.d.length qc] 57);have e0:=af y1 c0';have e1:=af y1 c1';have y2:=y1.alloc (.cells #[.slice P' y.n.length pc',.slice Q' y.d.length MO] 57);clear c0' c1';have hcall:=lS P Q P' Q' pc qc pc' MO x.n x.d y.n y.d ((wr.alloc (.cells #[.slice P x.n.length pc,.slice Q x.d.length qc] 57)).alloc (.cells #[.slice P' y.n.length pc',.slice Q' y.d.length MO] 57)) (hP.ex y2) (hQ.ex y2) (hP'.ex y2) (hQ'.ex y2);cases hxy:(decide (x.n=y.n)&&decide (x.d=y.d))with
   |true=>
    rw[hxy]at hcall;have HE:=axj (show x=y by
     simp only[axU,decide_eq_true_eq]at hxy;obtain⟨n,m⟩:=x;obtain⟨n',m'⟩:=y;obtain⟨e1,e2⟩:=hxy;simp only at e1 e2;rw[e1,e2])
    clear hxy;go_wp2_with fail
    refine hcall.mono ?_;rintro e w1 ⟨rfl,x1⟩;go_wp2_with fail
    go_roundw;case rel=>exact⟨k+1,by omega,by go_num,axj (by rw[axy,axy,Hx.out,Hy.out,He.out,HE.out]),(he.trans y2).trans x1⟩
    case measure=>simp[intOf];omega
   |false=>
    rw[hxy]at hcall;have HE:=axj (show¬xs=ys by
     rintro rfl;have:=Hx.out;rw[Hy.out]at this;injection this with this;subst this;simp at hxy)
    clear hxy;go_wp2_with fail
    refine hcall.mono ?_;rintro e w1 ⟨rfl,x1⟩;go_wp2_with fail
    go_ret;exact⟨false,rfl,⟨λe=>(Bool.noConfusion e),λe=>absurd e HE.out⟩,(he.trans y2).trans x1⟩
  .obtain rfl:k=xs.length:=by omega
   have HE:=axj (show xs=ys by
    have:=He.out;rwa[axE,axG (by omega)]at this)
   go_wp2_with fail
   go_ret;exact⟨true,rfl,⟨λ_=>HE.out,λ_=>rfl⟩,he⟩
theorem Kv(A B:Option Addr)(c d:Nat)(xs ys:List aG)(w:World)(h:bW EF w A xs)(h':bW EF w B ys):
 Calls prog 62 #[.slice A xs.length c,.slice B ys.length d] w λe w'=>∃b,e=.returned (.bool b)/\(b=true↔xs=ys)/\Ex w w':=by
 go_enter Tryz.func62,Tryz.ntmps62
 go_wp2_with fail
 refine(Kw A B c d xs ys w h h').mono ?_;rintro e w1 ⟨b,rfl,hb,x1⟩;go_wp2_with fail
 go_ret;exact⟨b,rfl,hb,x1⟩
theorem ads(A B:Option Addr)(c d:Nat)(xs ys:List (List aG))(w:World)(h:bW iX w A xs)(h':bW iX w B ys):
 Calls prog 61 #[.slice A xs.length c,.slice B ys.length d,.func (.func 62) #[] #[]] w λe w'=>∃b,e=.returned (.bool b)/\(b=true↔xs=ys)/\Ex w w':=by
 have hl:=h.1;have hl':=h'.1;have eg:∀args w,(callFunc 62 args).run prog w=.ok (.enter 62 args) w:=enters_of Tryz.func62 (by kernel_rfl) rfl;by_cases hn:xs.length=ys.length;case neg=>
  have hb:((xs.length:Int) !=(ys.length:Int))=true:=by simp;omega
  have HN:=axj (show¬xs=ys from λe=>hn (by rw[e]));clear hn;go_enter Tryz.func61,Tryz.ntmps61
  go_wp2_with fail
  go_ret;exact⟨false,rfl,⟨λe=>(Bool.noConfusion e),λe=>absurd e HN.out⟩,aCQ w⟩
 have hb:((xs.length:Int) !=(ys.length:Int))=false:=by simp;omega
 have hn2:ys.length<=xs.length:=by omega
 have VZ:xs.length<=ys.length:=by omega
 have Hn:=axj hn;clear hn;go_enter Tryz.func61,Tryz.ntmps61
 go_wp2_with fail
 go_loopw [17] (λi wr=>∃k:Nat,k<=xs.length/\i=.int .i64 k/\Hid (xs.take k=ys.take k)/\Ex w wr) (λi _=>xs.length-(intOf i).toNat)
 case atStart=>exact⟨0,axq _,rfl,axj rfl,aCQ _⟩
 case round=>
  obtain⟨k,hk,rfl,He,he⟩:=hrel;by_cases hlt:k<xs.length
  .have hlt2:k<ys.length:=by omega
   obtain⟨g,off,x,v,rfl,hx,c0,hv⟩:=(h.ex he).jf hlt;obtain⟨g',off',y,v',rfl,hy,c0',hv'⟩:=(h'.ex he).jf hlt2;obtain⟨P,pc,rfl,hP⟩:=hv.form;obtain⟨P',pc',rfl,hP'⟩:=hv'.form;have Hx:=axj hx;have Hy:=axj hy;clear hx hy hv hv';have hcall:=Kv P P' pc pc' x y wr hP hP';go_wp2_with fail
   refine hcall.mono ?_;rintro e w1 ⟨b,rfl,hbb,x1⟩;clear hcall;cases b with
   |true=>
    have HE:=axj (hbb.1 rfl);clear hbb;go_wp2_with fail
    go_roundw;case rel=>exact⟨k+1,by omega,by go_num,axj (by rw[axy,axy,Hx.out,Hy.out,He.out,HE.out]),he.trans x1⟩
    case measure=>simp[intOf];omega
   |false=>
    have HE:=axj (show¬xs=ys by
     rintro rfl;have:=Hx.out;rw[Hy.out]at this;injection this with this;have:=hbb.2 this.symm;cases this)
    clear hbb;go_wp2_with fail
    go_ret;exact⟨false,rfl,⟨λe=>(Bool.noConfusion e),λe=>absurd e HE.out⟩,he.trans x1⟩
  .obtain rfl:k=xs.length:=by omega
   have HE:=axj (show xs=ys by
    have:=He.out;rwa[axE,axG (by omega)]at this)
   go_wp2_with fail
   go_ret;exact⟨true,rfl,⟨λ_=>HE.out,λ_=>rfl⟩,he⟩
theorem Oh(A B:Option Addr)(c d:Nat)(xs ys:List (List aG))(w:World)(h:bW iX w A xs)(h':bW iX w B ys):
 Calls prog 31 #[.slice A xs.length c,.slice B ys.length d] w λe w'=>∃b,e=.returned (.bool b)/\(b=true↔xs=ys)/\Ex w w':=by
 go_enter Tryz.func31,Tryz.ntmps31
 go_wp2_with fail
 refine(ads A B c d xs ys w h h').mono ?_;rintro e w1 ⟨b,rfl,hb,x1⟩;go_wp2_with fail
 go_ret;exact⟨b,rfl,hb,x1⟩
theorem oG.Da{w:World}{lo hi:Nat}{v0:Value}{x:iK}(h:oG w lo hi v0 x):Sj w v0 x:=by refine⟨h.rd,?_⟩;obtain⟨a0,b0,⟨⟨A,c,S,e,_,o⟩,_⟩,_⟩:=h;exact⟨A,c,e,o.Da⟩
noncomputable def eqU (p:Int) (a b:Tm):Bool×Bool:=
 if((bF p a).2=true/\(bF p b).2=true)/\(bF p a).1.l=(bF p b).1.l/\(bF p a).1.r=(bF p b).1.r then(@decide ((bF p a).1.b=(bF p b).1.b) (Classical.propDecidable _),true)else(false,false)
theorem Uh{a b:Tm}(h:((bF p a).2=true/\(bF p b).2=true)/\(bF p a).1.l=(bF p b).1.l/\(bF p a).1.r=(bF p b).1.r){q:Bool}(hq:q=true↔(bF p a).1.b=(bF p b).1.b):eqU p a b=(q,true):=by unfold eqU;rw[axl h];congr 1;rw[ayB,hq,@decide_eq_true_iff _ (Classical.propDecidable _)]
theorem aat{a b:Tm}(h:¬(((bF p a).2=true/\(bF p b).2=true)/\(bF p a).1.l=(bF p b).1.l/\(bF p a).1.r=(bF p b).1.r)):eqU p a b=(false,false):=axm h
theorem Dn{t:Tm}(h:(bF p t).2=true):aQ ((bF p t).1.l+(bF p t).1.r).toNat (bF p t).1.b:=by
 cases hok:sZ p t.ns with
 |false=>rw[Dp hok]at h;cases h
 |true=>
  cases hq:qg p t.ns with
  |none=>rw[nM hq]at h;cases h
  |some q=>
   rw[wo hok hq]at h⊢;by_cases hv:SG p q.l q.r q.b=true
   .rw[axl hv];unfold SG at hv;rw[axU,axU]at hv;exact lD hv.2.1
   .rw[axm hv]at h;cases h
theorem Yj(l r:Int)(n:Nat)(A B:Option Addr)(c d:Nat)(xs ys:List (List aG))(w:World)(h:bW iX w A xs)(h':bW iX w B ys)(hx:aQ n xs)(hy:aQ n ys):
 Calls prog 30 #[.agg #[.int .i64 l,.int .i64 r,.slice A xs.length c],.agg #[.int .i64 l,.int .i64 r,.slice B ys.length d]] w λe w'=>∃b,e=.returned (.bool b)/\(b=true↔xs=ys)/\Ex w w':=by
 have hl:=h.1;have hl':=h'.1;have hbl:(l !=l)=false:=by simp
 have hbr:(r !=r)=false:=by simp
 obtain⟨W0,hW0,x0,d0,s0⟩:=VB.an w 28 #[.int .i64 l,.int .i64 r,.slice A xs.length c] rfl;obtain⟨x1,d1,W1,hW1⟩:=VB.al W0 28 #[.int .i64 l,.int .i64 r,.slice B ys.length d];rw[hW1]at x1 d1;rw[s0]at d1;have D0:=d0.ex x1;have X1:=x0.trans x1;obtain⟨p0,p1,p2⟩:=D0.d3;obtain⟨q0,q1,q2⟩:=d1.d3;by_cases hn:xs.length=ys.length;case neg=>
  have hb:((xs.length:Int) !=(ys.length:Int))=true:=by simp;omega
  have HN:=axj (show¬xs=ys from λe=>hn (by rw[e]));clear hn;go_enter Tryz.func30,Tryz.ntmps30
  go_wp2_with fail
  go_ret;exact⟨false,rfl,⟨λe=>(Bool.noConfusion e),λe=>absurd e HN.out⟩,X1⟩
 have hb:((xs.length:Int) !=(ys.length:Int))=false:=by simp;omega
 have hn2:ys.length<=xs.length:=by omega
 have VZ:xs.length<=ys.length:=by omega
 have Hx:=axj hx;have Hy:=axj hy;clear hn hx hy;go_enter Tryz.func30,Tryz.ntmps30
 go_wp2_with fail
 go_loopw [33] (λi wr=>∃k:Nat,k<=xs.length/\i=.int .i64 k/\Hid (xs.take k=ys.take k)/\Ex W1 wr) (λi _=>xs.length-(intOf i).toNat)
 case atStart=>exact⟨0,axq _,rfl,axj rfl,aCQ _⟩
 case round=>
  rename World=>wi;obtain⟨k,hk,rfl,He,he⟩:=hrel;by_cases hlt:k<xs.length
  .have hlt2:k<ys.length:=by omega
   obtain⟨g,off,x,v,rfl,hx,c0,hv⟩:=(h.ex (X1.trans he)).jf hlt;obtain⟨g',off',y,v',rfl,hy,c0',hv'⟩:=(h'.ex (X1.trans he)).jf hlt2;obtain⟨P,pc,rfl,hP⟩:=hv.form;obtain⟨P',pc',rfl,hP'⟩:=hv'.form;have hxn:=Hx.out x (axo hx);have hyn:=Hy.out y (axo hy);have HX:=axj hx;have HY:=axj hy;have p2:=af he p2;have q2:=af he q2;rw[hxn]at c0;rw[hyn]at c0';have hPl:=hP.1;rw[hxn]at hPl;have Hxn:=axj hxn;have Hyn:=axj hyn;clear hx hy hv hv' hxn hyn;go_wp2_with fail
   go_loopw [40] (λi wr=>∃k:Nat,k<=n/\i=.int .i64 k/\Hid (x.take k=y.take k)/\Ex wi wr) (λi _=>n-(intOf i).toNat)
   case atStart=>exact⟨0,axq _,rfl,axj rfl,aCQ _⟩
   case round=>
    rename World=>wj;obtain⟨m,hm,rfl,Hm,hj⟩:=hrel;by_cases hmt:m<n
    .obtain⟨g1,o1,u,U,uc,Z,zc,rfl,hu,a0,a1,hU,hZ⟩:=(hP.ex hj).iy (j:=m) (by rw[Hxn.out];exact hmt);obtain⟨g2,o2,u',U',uc',Z',zc',rfl,hu',a0',a1',hU',hZ'⟩:=(hP'.ex hj).iy (j:=m) (by rw[Hyn.out];exact hmt);have Hu:=axj hu;have Hu':=axj hu';clear hu hu';obtain⟨yV,dV,V,hV⟩:=VB.al wj 57 #[.slice U u.n.length uc,.slice Z u.d.length zc];rw[hV]at yV dV;obtain⟨b0,b1⟩:=dV.d2;have hcall:=λW (q:Ex V W)=>N_ U Z U' Z' uc zc uc' zc' u u' W (hU.ex (yV.trans q)) (hZ.ex (yV.trans q)) (hU'.ex (yV.trans q)) (hZ'.ex (yV.trans q))
     have q2:=af (hj.trans yV) q2;have c0':=af (hj.trans yV) c0';have a0':=af yV a0';have a1':=af yV a1';obtain⟨b,hb⟩:=xq ((decide (u.n=u'.n)&&decide (u.d=u'.d)));rw[hb]at hcall;have HB:=axj hb;clear hb;have HS:∀W,Ex V W->(Ex V W/\W.cell? ⟨w.heap.size+1,2,none⟩=some (.slice (some ⟨g',off',none⟩) ys.length d)/\W.cell? ⟨g',off'+k,none⟩=some (.slice (some ⟨g2,o2,none⟩) n pc')/\W.cell? ⟨g2,o2+m*2,none⟩=some (.slice U' u'.n.length uc')/\W.cell? ⟨g2,o2+m*2+1,none⟩=some (.slice Z' u'.d.length zc')/\W.cell? ⟨wj.heap.size,0,none⟩=some (.slice U u.n.length uc)/\W.cell? ⟨wj.heap.size,1,none⟩=some (.slice Z u.d.length zc)):=λW q=>⟨q,af q q2,af q c0',af q a0',af q a1',af q b0,af q b1⟩
     go_wp2_with fail
     go_region_held3 (λW=>Ex V W/\W.cell? ⟨w.heap.size+1,2,none⟩=some (.slice (some ⟨g',off',none⟩) ys.length d)/\W.cell? ⟨g',off'+k,none⟩=some (.slice (some ⟨g2,o2,none⟩) n pc')/\W.cell? ⟨g2,o2+m*2,none⟩=some (.slice U' u'.n.length uc')/\W.cell? ⟨g2,o2+m*2+1,none⟩=some (.slice Z' u'.d.length zc')/\W.cell? ⟨wj.heap.size,0,none⟩=some (.slice U u.n.length uc)/\W.cell? ⟨wj.heap.size,1,none⟩=some (.slice Z u.d.length zc)) (first
      |(exact HS _ x3)
      |(exact HS _ (aCQ V).drew)
      |(exact HS _ (aCQ V))) (first
      |(go_at_call 60
        have hb:=(‹Ex V _/\_›).1;refine(hcall _ hb).mono ?_;rintro e w3 ⟨rfl,Xy⟩;have x3:=hb.trans Xy;clear hb))
     all_goals
      have x4:=(hj.trans yV).trans x3;cases b with
      |true=>
       have HE:=axj (show u=u' from RD.1 HB.out);go_wp2_with fail
       go_roundw;case rel=>exact⟨m+1,by omega,by go_num,axj (by rw[axy,axy,Hu.out,Hu'.out,Hm.out,HE.out]),x4⟩
       case measure=>simp[intOf];omega
      |false=>
       have HE:=axj (show¬xs=ys by
        rintro rfl;have e1:=HX.out;rw[HY.out]at e1;injection e1 with e1;subst e1;have e2:=Hu.out;rw[Hu'.out]at e2;injection e2 with e2;subst e2;have e3:=HB.out;simp at e3)
       go_wp2_with fail
       go_ret;exact⟨false,rfl,⟨λe=>(Bool.noConfusion e),λe=>absurd e HE.out⟩,(X1.trans he).trans x4⟩
    .obtain rfl:m=n:=by omega
     have HE:=axj (show x=y by
      have:=Hm.out;rwa[axG (by rw[Hxn.out];exact axk _),axG (by rw[Hyn.out];exact axk _)]at this)
     go_wp2_with fail
     go_roundw;case rel=>exact⟨k+1,by omega,by go_num,axj (by rw[axy,axy,HX.out,HY.out,He.out,HE.out]),he.trans hj⟩
     case measure=>simp[intOf];omega
  .obtain rfl:k=xs.length:=by omega
   have HE:=axj (show xs=ys by
    have:=He.out;rwa[axE,axG (by omega)]at this)
   go_wp2_with fail
   go_ret;exact⟨true,rfl,⟨λ_=>HE.out,λ_=>rfl⟩,X1.trans he⟩
theorem yx(p:Int)(a b:Tm)(v0 v1:Value)(w:World)(ha:CP w v0 a)(hb:CP w v1 b):
 Calls prog 15 #[.int .i64 p,.agg #[v0],.agg #[v1]] w λe w'=>e=.returned (.tuple #[.bool (eqU p a b).1,.bool (eqU p a b).2])/\Ex w w':=by
 obtain⟨A,n,c,rfl⟩:=ha.form;obtain⟨B,m,d,rfl⟩:=hb.form;have cA:=λ(W:World) (y:Ex w W)=>iH p a _ W (ha.ex y)
 have cB:=λ(W:World) (y:Ex w W)=>iH p b _ W (hb.ex y)
 have Ac:=λq=>Dn (p:=p) (t:=a) q
 have Ab:=λq=>Dn (p:=p) (t:=b) q
 have HY:=λ(q:Bool) (y:_) z=>Uh (p:=p) (a:=a) (b:=b) y (q:=q) z
 have HN:=λy=>aat (p:=p) (a:=a) (b:=b) y
 clear ha hb;generalize bF p a=RA at*;generalize bF p b=RB at*;generalize eqU p a b=E at*;obtain⟨⟨al,ar,ab⟩,ao⟩:=RA;obtain⟨⟨bl,br,bb⟩,bo⟩:=RB;dsimp only at Ac Ab HY HN cA cB;replace Ac:=axj Ac;replace Ab:=axj Ab;replace HY:=axj HY;replace HN:=axj HN;obtain⟨x0,d0⟩:=VB.xn w 33 #[.slice A n c];obtain⟨W0,hW0⟩:=xq (w.alloc (.cells #[.slice A n c] 33));have s0:W0.heap.size=w.heap.size+1:=by rw[<-hW0];simp
 rw[hW0]at x0 d0;obtain⟨x1,d1,W1,hW1⟩:=VB.al W0 33 #[.slice B m d];rw[hW1]at x1 d1;rw[s0]at d1;have X1:=x0.trans x1;have q0:=(d0.ex x1).c0;go_enter Tryz.func15,Tryz.ntmps15
 go_wp2_with fail
 refine(cA W1 X1).mono ?_;clear cA q0;rintro e w1 ⟨y0,rfl,o1,y1⟩;obtain⟨_,A1,c1,rfl,r1⟩:=o1;dsimp only at r1⊢;obtain⟨x2,d2,W2,hW2⟩:=VB.al w1 28 #[.int .i64 al,.int .i64 ar,.slice A1 ab.length c1];rw[hW2]at x2 d2;have q0:=(d1.ex (y1.trans x2)).c0;have X2:=(X1.trans y1).trans x2;go_wp2_with fail
 refine(cB W2 X2).mono ?_;clear cB q0;rintro e w3 ⟨y0,rfl,o3,y3⟩;obtain⟨_,A3,c3,rfl,r3⟩:=o3;dsimp only at r3⊢;obtain⟨x4,d4,W4,zZ⟩:=VB.al w3 28 #[.int .i64 bl,.int .i64 br,.slice A3 bb.length c3];rw[zZ]at x4 d4;have D2:=d2.ex (y3.trans x4);obtain⟨p0,p1,p2⟩:=D2.d3;obtain⟨q0,q1,q2⟩:=d4.d3;have X4:=(X2.trans y3).trans x4;have r1:=r1.1.ex (x2.trans (y3.trans x4));have r3:=r3.1.ex x4;by_cases hc:(ao=true/\bo=true)/\al=bl/\ar=br
 .obtain⟨⟨rfl,rfl⟩,rfl,rfl⟩:=hc;have hbl:(al !=al)=false:=by simp
  have hbr:(ar !=ar)=false:=by simp
  have wA:=Ac.out rfl;have wB:=Ab.out rfl;have HZ:=axj (λq z=>HY.out q ⟨⟨rfl,rfl⟩,rfl,rfl⟩ z);clear Ac Ab HY HN;go_wp2_with fail
  refine(Yj al ar _ A1 A3 c1 c3 ab bb W4 r1 r3 wA wB).mono ?_;rintro e w5 ⟨q,rfl,hq,x5⟩;have HQ:=axj hq;clear hq;go_wp2_with fail
  go_ret2
  rw[HZ.out q HQ.out];exact⟨rfl,X4.trans x5⟩
 .replace HN:=axj (HN.out hc);have hd:ao=false∨(ao=true/\bo=false)∨(ao=true/\bo=true/\(al !=bl)=true)∨(ao=true/\bo=true/\(al !=bl)=false/\(ar !=br)=true):=by
   by_cases h1:al=bl<;>by_cases h2:ar=br<;>cases ao<;>cases bo<;>simp_all
  clear hc;rcases hd with rfl|⟨rfl,rfl⟩|⟨rfl,rfl,h1⟩|⟨rfl,rfl,h1,h2⟩
  all_goals
   go_wp2_with fail
   go_ret2
   rw[HN.out];exact⟨rfl,X4⟩
theorem CS(p:Int)(a b:Tm)(v0 v1:Value)(w:World)(ha:CP w v0 a)(hb:CP w v1 b)(ht:Tb w):
 Calls prog 16 #[.int .i64 p,.agg #[v0],.agg #[v1]] w λe w'=>e=.returned (.tuple #[.bool (eqU p a b).1,.bool (eqU p a b).2])/\Ex w w':=by
 obtain⟨A,n,c,rfl⟩:=ha.form;obtain⟨B,m,d,rfl⟩:=hb.form;have cA:=λ(W:World) (y:Ex w W)=>iC p a _ W (ha.ex y) (ht.ex y)
 have cB:=λ(W:World) (y:Ex w W)=>iC p b _ W (hb.ex y) (ht.ex y)
 have Ac:=λq=>Dn (p:=p) (t:=a) q
 have Ab:=λq=>Dn (p:=p) (t:=b) q
 have HY:=λ(q:Bool) (y:_) z=>Uh (p:=p) (a:=a) (b:=b) y (q:=q) z
 have HN:=λy=>aat (p:=p) (a:=a) (b:=b) y
 clear ha hb;generalize bF p a=RA at*;generalize bF p b=RB at*;generalize eqU p a b=E at*;obtain⟨⟨al,ar,ab⟩,ao⟩:=RA;obtain⟨⟨bl,br,bb⟩,bo⟩:=RB;dsimp only at Ac Ab HY HN cA cB;replace Ac:=axj Ac;replace Ab:=axj Ab;replace HY:=axj HY;replace HN:=axj HN;obtain⟨x0,d0⟩:=VB.xn w 33 #[.slice A n c];obtain⟨W0,hW0⟩:=xq (w.alloc (.cells #[.slice A n c] 33));have s0:W0.heap.size=w.heap.size+1:=by rw[<-hW0];simp
 rw[hW0]at x0 d0;obtain⟨x1,d1,W1,hW1⟩:=VB.al W0 33 #[.slice B m d];rw[hW1]at x1 d1;rw[s0]at d1;have X1:=x0.trans x1;have q0:=(d0.ex x1).c0;go_enter Tryz.func16,Tryz.ntmps16
 go_wp2_with fail
 refine(cA W1 X1).mono ?_;clear cA q0;rintro e w1 ⟨y0,rfl,o1,y1⟩;obtain⟨_,A1,c1,rfl,r1⟩:=o1.Da;dsimp only at r1⊢;obtain⟨x2,d2,W2,hW2⟩:=VB.al w1 28 #[.int .i64 al,.int .i64 ar,.slice A1 ab.length c1];rw[hW2]at x2 d2;have q0:=(d1.ex (y1.trans x2)).c0;have X2:=(X1.trans y1).trans x2;go_wp2_with fail
 refine(cB W2 X2).mono ?_;clear cB q0;rintro e w3 ⟨y0,rfl,o3,y3⟩;obtain⟨_,A3,c3,rfl,r3⟩:=o3.Da;dsimp only at r3⊢;obtain⟨x4,d4,W4,zZ⟩:=VB.al w3 28 #[.int .i64 bl,.int .i64 br,.slice A3 bb.length c3];rw[zZ]at x4 d4;have D2:=d2.ex (y3.trans x4);obtain⟨p0,p1,p2⟩:=D2.d3;obtain⟨q0,q1,q2⟩:=d4.d3;have X4:=(X2.trans y3).trans x4;have r1:=r1.1.ex (x2.trans (y3.trans x4));have r3:=r3.1.ex x4;by_cases hc:(ao=true/\bo=true)/\al=bl/\ar=br
 .obtain⟨⟨rfl,rfl⟩,rfl,rfl⟩:=hc;have hbl:(al !=al)=false:=by simp
  have hbr:(ar !=ar)=false:=by simp
  have wA:=Ac.out rfl;have wB:=Ab.out rfl;have HZ:=axj (λq z=>HY.out q ⟨⟨rfl,rfl⟩,rfl,rfl⟩ z);clear Ac Ab HY HN;go_wp2_with fail
  refine(Oh A1 A3 c1 c3 ab bb W4 r1 r3).mono ?_;rintro e w5 ⟨q,rfl,hq,x5⟩;have HQ:=axj hq;clear hq;go_wp2_with fail
  go_ret2
  rw[HZ.out q HQ.out];exact⟨rfl,X4.trans x5⟩
 .replace HN:=axj (HN.out hc);have hd:ao=false∨(ao=true/\bo=false)∨(ao=true/\bo=true/\(al !=bl)=true)∨(ao=true/\bo=true/\(al !=bl)=false/\(ar !=br)=true):=by
   by_cases h1:al=bl<;>by_cases h2:ar=br<;>cases ao<;>cases bo<;>simp_all
  clear hc;rcases hd with rfl|⟨rfl,rfl⟩|⟨rfl,rfl,h1⟩|⟨rfl,rfl,h1,h2⟩
  all_goals
   go_wp2_with fail
   go_ret2
   rw[HN.out];exact⟨rfl,X4⟩
end Go.Proofs.YthgiffhlfcmgaaaGreatDoor
