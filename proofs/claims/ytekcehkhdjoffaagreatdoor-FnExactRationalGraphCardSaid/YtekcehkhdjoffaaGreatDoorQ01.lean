/- Lemmas and walks on terms over rational functions: Plain arithmetic on fractions: when a pair of .. -/
import Derived.Test.YtekcehkhdjoffaaGreatDoorQ00
import Derived.RegionCalls
import Derived.Deep.RegionWith
namespace Go.Proofs.YtekcehkhdjoffaaGreatDoor
open _root_.Go.Proofs.Tryz(prog)
set_option maxRecDepth 100000
set_option maxHeartbeats 8000000
set_option linter.all false
variable{p:Int}{den f g k m num xs:List Int}{a a' b b' c:Nat}{u v:Nat->Int}{A:Option Addr}{w w':World}
theorem Gs{p:Int}(hF:aj p=true):∀(n:Nat) {f g:List Int},av p f=true->av p g=true->Tr f->Tr g->(gcdL p n f g).length<=max f.length g.length
 |0,f,g,_,_,_,_=>by rw[gcdL];omega
 |n+1,f,g,hf,hg,tf,tg=>by
  rw[gcdL];split
  .omega
  .rename_i h0;have h2:=au hF;have hl:=jQ hF hf hg tg h0;have:=Gs hF n hg (jR (by omega) hf g) tg (jP p tf g);omega
theorem RV(hF:aj p=true)(hf:av p f=true)(hg:av p g=true)(tf:Tr f)(tg:Tr g)(h0:g≠[]):(jk p f g).length<=g.length:=by have h2:=au hF;have hl:=jQ hF hf hg tg h0;rw[m_ hF hf hg tf tg h0,jk];have:=Gs hF ((bY p f g).length+1) hg (jR (by omega) hf g) tg (jP p tf g);omega
theorem mY(hF:aj p=true)(hf:av p f=true)(hg:av p g=true)(tf:Tr f)(tg:Tr g)(h0:f≠[]∨g≠[]):(bJ p f g).length=(jk p f g).length/\cf (bJ p f g) ((bJ p f g).length-1)=1:=by have h2:=au hF;have:=nX hF (KO (by omega) hf hg) (KN p tf tg) (DU p h0);refine⟨this.1,?_⟩;rw[bJ,this.1];exact this.2
theorem jM(hF:aj p=true)(hf:av p f=true)(hg:av p g=true)(tf:Tr f)(tg:Tr g)(h0:f≠[]∨g≠[]):bJ p f g≠[]:=by intro e;have:=(mY hF hf hg tf tg h0).1;rw[e]at this;exact DU p h0 (aou this.symm)
theorem JD(p:Int)(g:List Int)(b:Int)(k:Nat)(r:List Int):cf (bH p g b (k+1) r).1 k=cf r (k+g.length-1)*b%p:=by rw[bH];simp only[cf];rw[anw (by rw[(ny _ _ _ _ _).1];exact amX _),(ny _ _ _ _ _).1];simp
theorem MP(hF:aj p=true)(hf:av p f=true)(hg:av p g=true)(tf:Tr f)(tg:Tr g)(hg0:g≠[])(hle:g.length<=f.length):(bq p f g).length=f.length-g.length+1:=by
 have h2:=au hF;have hgl:=ana.2 hg0;have hf0:f≠[]:=by intro e;rw[e]at hle;simp at hle;exact hg0 hle
 rw[bq,amZ (by omega)];have hlen:=(ny p g (bO p (cf g (g.length-1))) (f.length-g.length+1) f).1;have ht:Tr (bH p g (bO p (cf g (g.length-1))) (f.length-g.length+1) f).1:=by
  refine Tr.qH (by intro e;rw[e]at hlen;simp at hlen) ?_;rw[hlen,ao4,JD];have b1:=fU hf (show 0<p by omega) (f.length-1);have b2:=fU hg (show 0<p by omega) (g.length-1);have n1:=tf.last hf0;have n2:=tg.last hg0;have e:f.length-g.length+g.length-1=f.length-1:=by omega
  rw[e];have hi:=jL (cf g (g.length-1)) h2;have hg1:0<cf g (g.length-1):=by omega
  have hm:=inv_mul hF hg1 b2.2;have hi0:bO p (cf g (g.length-1))≠0:=by intro e;rw[e]at hm;simp at hm
  exact X0 hF ⟨by omega,b1.2⟩ ⟨by have:=hi.1;omega,hi.2⟩
 rw[ht,hlen]
theorem inv_one(h2:2<=p):bO p 1=1:=by rw[bO,Int.one_pow];exact anX (by omega) (by omega)
theorem Ea(h2:2<=p):av p [1]=true:=by simp[av,fe];omega
theorem OW:Tr [1]:=rfl
theorem N8(h2:2<=p)(k:Nat):∀{r:List Int},av p r=true->k<=r.length->(bH p [1] 1 k r).1=r.take k:=by
 induction k with
 |zero=>intro r _ _;rfl
 |succ k ih=>
  intro r hr hk;rw[bH,ih (kZ hr (by omega) _ _ _) (by rw[aS];omega)];simp only[aop,ao4,Int.mul_one];have hb:=fU hr (show 0<p by omega) k;rw[anX hb.1 hb.2,am_];have hk':r[k]?=some (cf r k):=by rw[cf,am0 (by omega)];rfl
  rw[hk'];congr 1;apply Tj (by rw[am8,am8,aS]);intro i;by_cases hi:i<k
  .simp only[cf,anh,amY hi];have:=gX p r k (-cf r k) [1] i;simp only[cf]at this;rw[this];rw[amY (by omega),amZ (by omega)]
  .rw[gU (by rw[am8];omega),gU (by rw[am8];omega)]
theorem Ce(h2:2<=p)(hf:av p f=true)(tf:Tr f):bq p f [1]=f:=by
 rw[bq];split
 .rename_i h;simp at h;exact h.symm
 .rename_i h;have e:bO p (cf [1] (([1]:List Int).length-1))=1:=inv_one h2;have hfl:1<=f.length:=by simp at h;exact ana.2 h
  rw[e,N8 h2 _ hf (by simp;omega)];rw[ann (by simp;omega)];exact tf
theorem zy(h2:2<=p)(hf:av p f=true)(tf:Tr f):aR p 1 f=f:=by
 have t1:=qF p [] 1 f;unfold Tr at t1 tf;rw[<-tf,aR]
 conv=>lhs;rw[tf]
 rw[<-t1];refine pM λi=>?_
 have:=vH p 1 f (by omega) i;rw[aR]at this;have hb:=fU hf (show 0<p by omega) i;rw[this,Int.one_mul,anX hb.1 hb.2]
theorem IX(hF:aj p=true){b:Int}(hb:0<b/\b<p)(hf:av p f=true)(tf:Tr f):(aR p b f).length=f.length:=by
 have h2:=au hF;by_cases h0:f=[]
 .subst h0;rfl
 have hfl:=ana.2 h0;have hle:(aR p b f).length<=f.length:=by have:=xY p [] b f;simpa[aR]using this
 rcases anM (aR p b f).length f.length with h|h
 .have h1:=vH p b f (by omega) (f.length-1);rw[gU (by omega)]at h1;have b1:=fU hf (show 0<p by omega) (f.length-1);have n1:=tf.last h0;exact absurd h1.symm (X0 hF hb ⟨by omega,b1.2⟩)
 .omega
def bW(p:Int)(num den:List Int):List Int:=bq p den (bJ p num den)
def iB(p:Int)(num den:List Int):Int:=bO p (cf (bW p num den) ((bW p num den).length-1))
def aW(p:Int)(num den:List Int):List Int:=if num=[]then[]else aR p (iB p num den) (bq p num (bJ p num den))
def aT(p:Int)(num den:List Int):List Int:=if num=[]then[1]else aR p (iB p num den) (bW p num den)
def bF(p:Int)(num den:List Int):Bool:=bC p num&&bC p den&&decide (num.length<=21)&&decide (den.length<=21)&&decide (den≠[])&&decide (cf den (den.length-1)=1)&&decide ((bJ p num den).length=1)
theorem mV(hF:aj p=true)(hn:av p num=true)(hd:av p den=true)(tn:Tr num)(td:Tr den)(hd0:den≠[]):
 (bW p num den).length=den.length-(bJ p num den).length+1/\1<=(bJ p num den).length/\(bJ p num den).length<=den.length:=by
 have h2:=au hF;have hg:=mY hF hn hd tn td (.inr hd0);have hgl:=RV hF hn hd tn td hd0;have hgn:=ana.2 (jM hF hn hd tn td (.inr hd0));refine⟨MP hF hd (kr (by omega) _ _) td (lH _ _ _) (jM hF hn hd tn td (.inr hd0)) (by omega),hgn,by omega⟩
theorem Aa(hF:aj p=true)(hn:av p num=true)(hd:av p den=true)(tn:Tr num)(td:Tr den)(hd0:den≠[])(h1:(bJ p num den).length=1):bJ p num den=[1]:=by
 have hg:=(mY hF hn hd tn td (.inr hd0)).2;rw[h1]at hg
 match hm:bJ p num den,h1 with
 |[x],_=>rw[hm]at hg;simp[cf]at hg;rw[hg]
theorem FN(hF:aj p=true)(hn:av p num=true)(hd:av p den=true)(tn:Tr num)(td:Tr den)(hd0:den≠[]):
 (aW p num den=num/\aT p num den=den)↔(cf den (den.length-1)=1/\(bJ p num den).length=1):=by
 have h2:=au hF;have hdl:=ana.2 hd0;by_cases hn0:num=[]
 .subst hn0;have hr:bY p [] den=[]:=by rw[bY,amY (by simpa using hdl)]
  have hE:jk p [] den=den:=by rw[m_ hF hn hd tn td hd0,hr,uw]
  have hgl:=(mY hF hn hd tn td (.inr hd0)).1;rw[hE]at hgl;rw[aW,aT,amY rfl,amY rfl,hgl];constructor
  .rintro⟨_,h⟩;rw[<-h];exact⟨rfl,rfl⟩
  .rintro⟨h1,h2⟩;refine⟨rfl,?_⟩
   match den,h2 with
   |[x],_=>simp[cf]at h1;rw[h1]
 .obtain⟨hml,hg1,hgd⟩:=mV hF hn hd tn td hd0;have hme:av p (bW p num den)=true:=jh (by omega) hd _;have hmt:Tr (bW p num den):=mQ _ _ _;have hm0:bW p num den≠[]:=by intro e;rw[e]at hml;simp at hml
  have hmon:=nX hF hme hmt hm0;have hLD:aT p num den=dm p (bW p num den):=by rw[aT,amZ hn0,iB,dm]
  constructor
  .rintro⟨_,h⟩;rw[hLD]at h;have hl:=hmon.1;rw[h]at hl;refine⟨?_,by omega⟩;have:=hmon.2;rw[h,<-hl]at this;exact this
  .rintro⟨hmo,h1⟩;have hg:=Aa hF hn hd tn td hd0 h1;have hM:bW p num den=den:=by rw[bW,hg,Ce h2 hd td]
   have hB:iB p num den=1:=by rw[iB,hM,hmo,inv_one h2]
   rw[aW,aT,amZ hn0,amZ hn0,hB,hM,hg,Ce h2 hn tn,zy h2 hn tn,zy h2 hd td];exact⟨rfl,rfl⟩
theorem wS(h:bF p num den=true):aj p=true/\bC p num=true/\bC p den=true/\num.length<=21/\den.length<=21/\den≠[]/\cf den (den.length-1)=1/\(bJ p num den).length=1:=by simp only[bF,anx,decide_eq_true_eq]at h;exact⟨(fE h.1.1.1.1.1.1).1,h.1.1.1.1.1.1,h.1.1.1.1.1.2,h.1.1.1.1.2,h.1.1.1.2,h.1.1.2,h.1.2,h.2⟩
open Go Go.RowKit
def Xd(w:World)(A:Option Addr)(vs:List Value):Prop:=
 vs.length<=1099511627776/\∀(j:Nat) (v:Value),vs[j]?=some v->∃g off,A=some ⟨g,off,none⟩/\w.cell? ⟨g,off+j,none⟩=some v
def IsS(w:World)(v:Value)(xs:List Int):Prop:=∃A c,v=.slice A xs.length c/\Rd w A xs
theorem Xd.at_{vs:List Value}(h:Xd w A vs){k:Nat}(hk:k<vs.length):
 ∃g off v,A=some ⟨g,off,none⟩/\vs[k]?=some v/\g<w.heap.size/\w.cell? ⟨g,off+k,none⟩=some v:=by
 obtain⟨g,off,hA,hc⟩:=h.2 k _ (am0 hk);exact⟨g,off,_,hA,am0 hk,iM hc,hc⟩
theorem Xd.ex{vs:List Value}(h:Xd w A vs)(he:Ex w w'):Xd w' A vs:=
 ⟨h.1,λj v hj=>by
  obtain⟨g,off,hA,hc⟩:=h.2 j v hj;exact⟨g,off,hA,(anm (w:=w) (a:=⟨g,off+j,none⟩) (he.block (iM (p:=⟨g,off+j,none⟩) hc))).trans hc⟩⟩
theorem JL(p:Int)(A:Option Addr)(c:Nat)(vs:List Value)(xss:List (List Int))(w:World)(h:Xd w A vs)(hx:∀(j:Nat) (v:Value),vs[j]?=some v->∃xs,xss[j]?=some xs/\IsS w v xs)(hl:xss.length=vs.length)(ht:Tb w):
 Calls prog 160 #[.int .i64 p,.slice A vs.length c] w λe w'=>e=.returned (.bool (xss.all (bC p)&&aj p))/\w=w':=by
 have hl1:=h.1;have Hl:=amW hl;have Hx:=amW hx;clear hl hx;go_enter Tryz.func160,Tryz.ntmps160
 go_wp2_with fail
 go_loop [9] (λi=>∃k:Nat,k<=vs.length/\Hid ((xss.take k).all (bC p)=true)/\i=.int .i64 k) (λi=>vs.length-(intOf i).toNat)
 case atStart=>exact⟨0,am4 _,rfl,rfl⟩
 case round=>
  obtain⟨k,hk,gy,rfl⟩:=hrel;by_cases hlt:k<vs.length
  .obtain⟨g,off,v,rfl,hv,hg,hc⟩:=h.at_ hlt;obtain⟨xs,hxs,A',c',rfl,hr⟩:=Hx.out k v hv;have Hxs:=amW hxs;clear hv hxs;cases hp:bC p xs with
   |true=>
    have Hp:=amW hp;go_wp2_with (go_at_call 167;refine(FU _ _ _ _ _ hr ht).mono ?_;rintro e w' ⟨rfl,rfl⟩)
    go_round
    case rel=>exact⟨k+1,by omega,by
     show _=true;rw[am_,Hxs.out,an_,gy.out];simp[Hp.out],by go_num⟩
    case measure=>simp[intOf]<;>omega
   |false=>
    have Hp:=amW hp;go_wp2_with (go_at_call 167;refine(FU _ _ _ _ _ hr ht).mono ?_;rintro e w' ⟨rfl,rfl⟩)
    go_ret;exact⟨aG (by rw[aof.2 ⟨xs,am1 Hxs.out,by simp[Hp.out]⟩];rfl),rfl⟩
  .obtain rfl:k=vs.length:=by omega
   go_wp2_with (go_at_call 51;refine(iq _ _ ht).mono ?_;rintro e w' ⟨rfl,rfl⟩)
   go_ret;exact⟨aG (by have:=gy.out;rw[<-Hl.out,anf]at this;rw[this];rfl),rfl⟩
theorem lM(A B:Option Addr)(c d:Nat)(xs ys:List Int)(w:World)(h:Rd w A xs)(h':Rd w B ys):
 Calls prog 168 #[.slice A xs.length c,.slice B ys.length d] w λe w'=>e=.returned (.bool (decide (xs=ys)))/\Ex w w':=by
 have hl:=h.len;have hl':=h'.len;by_cases hn:xs.length=ys.length;case neg=>
  have hb:((xs.length:Int) !=(ys.length:Int))=true:=by simp;omega
  have he:decide (xs=ys)=false:=by simp;intro e;exact hn (by rw[e])
  have He:=amW he;clear he;go_enter Tryz.func168,Tryz.ntmps168
  go_wp2;go_ret;exact⟨by rw[He.out];rfl,asF w⟩
 have hb:((xs.length:Int) !=(ys.length:Int))=false:=by simp;omega
 have hn2:ys.length<=xs.length:=by omega
 have hn3:xs.length<=ys.length:=by omega
 have Hn:=amW hn;clear hn;go_enter Tryz.func168,Tryz.ntmps168
 go_wp2;go_loopw [13] (λi wr=>∃k:Nat,k<=xs.length/\i=.int .i64 k/\Hid (xs.take k=ys.take k)/\∃n,wr=w.drewN n) (λi _=>xs.length-(intOf i).toNat)
 case atStart=>exact⟨0,am4 _,rfl,rfl,0,rfl⟩
 case round=>
  obtain⟨k,hk,rfl,He,n,rfl⟩:=hrel;by_cases hlt:k<xs.length
  .have hlt2:k<ys.length:=by omega
   obtain⟨g,off,x,rfl,hx,hg,hc⟩:=h.at_ hlt;obtain⟨g',off',y,rfl,hy,hg',hc'⟩:=h'.at_ hlt2;have Hx:=amW hx;have Hy:=amW hy;clear hx hy;by_cases hxy:x=y
   .subst hxy;go_wp2;go_quiet (fail)
    go_wp2;go_roundw;case rel=>exact⟨k+1,by omega,by go_num,by
     show _=_;rw[am_,am_,Hx.out,Hy.out,He.out],_,rfl⟩
    case measure=>simp[intOf]<;>omega
   .have hbx:(x !=y)=true:=by simpa using hxy
    have he:decide (xs=ys)=false:=by simp;rintro rfl;have:=Hx.out;rw[Hy.out]at this;injection this with this;exact hxy this.symm
    have H7:=amW he;clear he hxy;go_wp2;go_quiet (fail)
    go_wp2;go_ret;exact⟨by rw[H7.out];rfl,((asF w).drewN _).drewN _⟩
  .obtain rfl:k=xs.length:=by omega
   have he:decide (xs=ys)=true:=by have:=He.out;rw[anf,ann (by omega)]at this;simpa using this
   have H7:=amW he;clear he;go_wp2;go_ret;exact⟨by rw[H7.out];rfl,(asF w).drewN _⟩
def FF(w:World)(num den:List Int)(e:Ending)(w':World):Prop:=
 ∃A c B d,e=.returned (.agg #[.slice A num.length c,.slice B den.length d])/\Fr w' w.heap.size A c num/\Fr w' w.heap.size B d den/\Apart A B/\Ex w w'
theorem tZ(p:Int)(A B:Option Addr)(c d:Nat)(num den:List Int)(w:World)(hn:Rd w A num)(hd:Rd w B den)(hF:aj p=true)(hne:av p num=true)(hde:av p den=true)(tn:Tr num)(td:Tr den)(hd0:den≠[]):
 Calls prog 98 #[.int .i64 p,.slice A num.length c,.slice B den.length d] w λe w'=>FF w (aW p num den) (aT p num den) e w':=by
 have hl:=hn.len;have hl':=hd.len;by_cases hn0:num=[]
 .subst hn0;have H1:=amW (show aW p [] den=[] by rw[aW,amY rfl]);have H2:=amW (show aT p [] den=[1] by rw[aT,amY rfl]);clear hF hne hde hd0;go_enter Tryz.func98,Tryz.ntmps98
  go_wp2;refine ane (v:=.agg #[.slice (some ⟨w.heap.size+1,0,none⟩) 0 0,.slice (some ⟨w.heap.size+1+1,0,none⟩) 1 1]) (by simp[results,Tryz.results98,go_sem]) rfl ?_;rw[H1.out,H2.out];generalize hW:w.alloc (Obj.cells #[.slice (some ⟨w.heap.size+1,0,none⟩) 0 0,.slice (some ⟨w.heap.size+1+1,0,none⟩) 1 1] 51)=w1;have s1:w1.heap.size=w.heap.size+1:=by rw[<-hW];simp
  have x1:Ex w w1:=by rw[<-hW];exact(asF w).alloc _
  have o1:Own (w1.alloc (aO [])) w1.heap.size []:=Own.new w1 [];have x2:Ex w1 (w1.alloc (aO [])):=(asF w1).alloc _;have s2:(w1.alloc (aO [])).heap.size=w1.heap.size+1:=by simp
  have o2:Own ((w1.alloc (aO [])).alloc (aO [1])) (w1.alloc (aO [])).heap.size [1]:=Own.new _ [1];have x3:Ex (w1.alloc (aO [])) ((w1.alloc (aO [])).alloc (aO [1])):=(asF _).alloc _;rw[s2]at o2;have o1':=o1.ex x3;rw[s1]at o1' o2;exact⟨_,0,_,1,rfl,o1'.fr (by simp) (by omega) (amX _),o2.fr (by simp) (by omega) (amX _),fq (by omega),(x1.trans x2).trans x3⟩
 .have h2:=au hF;have h97:=aQ hF;have hnl:=ana.2 hn0;have hnb:((num.length:Int)==0)=false:=by simp;omega
  obtain⟨hml,hg1,hgd⟩:=mV hF hne hde tn td hd0;have Hg:=amW (jM hF hne hde tn td (.inr hd0));have JR:=amW (kr (p:=p) (by omega) num den);have HM:=amW (show bq p den (bJ p num den)=bW p num den from rfl);have hme:av p (bW p num den)=true:=jh (by omega) hde _;obtain⟨ml,Rw⟩:∃ml:Nat,(bW p num den).length=ml+1:=⟨den.length-(bJ p num den).length,hml⟩;have HB:=amW (show iB p num den=bO p (cf (bW p num den) ((bW p num den).length-1))from rfl);have HN:=amW (show aW p num den=aR p (iB p num den) (bq p num (bJ p num den)) by rw[aW,amZ hn0]);have HD:=amW (show aT p num den=aR p (iB p num den) (bW p num den) by rw[aT,amZ hn0]);have Hqe:=amW (jh (p:=p) (by omega) hne (bJ p num den));have Zm:=amW hme;have Lj:=amW hne;have Lm:=amW hde;have HF:=amW hF;have Hd0:=amW hd0;have En:=amW Rw;clear hne hde hF hd0 hn0 hml Rw hme;go_enter Tryz.func98,Tryz.ntmps98
  go_wp2_with fail
  generalize hW:w.alloc (Obj.cells _ 51)=w1;have hb1:w1.heap[w.heap.size]?=some (.cells #[.slice none 0 0,.slice none 0 0] 51 (0,0)):=by rw[<-hW];exact heap_alloc_new w _
  have s1:w1.heap.size=w.heap.size+1:=by rw[<-hW];simp
  have x1:Ex w w1:=by rw[<-hW];exact(asF w).alloc _
  clear hW;refine(ML p A B c d num den w1 (hn.ex x1) (hd.ex x1) HF.out Lj.out Lm.out tn td (.inr Hd0.out)).mono ?_;rintro e w2 ⟨A2,c2,rfl,f2,x2⟩;have Xn:=x1.trans x2;go_wp2_with fail
  refine(nP p A A2 c c2 num _ w2 (hn.ex Xn) f2.rd h2 h97 Lj.out JR.out Hg.out).mono ?_;rintro e w3 ⟨A3,c3,A3',c3',rfl,f3,_,_,x3⟩;have xw3:=Xn.trans x3;go_wp2_with fail
  refine(nP p B A2 d c2 den _ w3 (hd.ex xw3) (f2.rd.ex x3) h2 h97 Lm.out JR.out Hg.out).mono ?_;rintro e w4 ⟨A4,c4,A4',c4',rfl,f4,_,_,x4⟩;rw[HM.out]at f4⊢;have xw4:=xw3.trans x4;obtain⟨gA,nZ,x,rfl,hx,hgA,hcell⟩:=f4.rd.at_ (by rw[En.out];omega:ml<(bW p num den).length);have hxb:=bI Zm.out hx;have Xg:=amW (show cf (bW p num den) ((bW p num den).length-1)=x by rw[En.out];exact iW hx);have Yq:((bW p num den).length:Int)-1=(ml:Int):=by have:=En.out;omega
  have hm2:ml<(bW p num den).length:=by have:=En.out;omega
  have hm3:=f4.rd.len;clear hx;go_wp2_with fail
  refine(mW p x w4 h2 h97 hxb).mono ?_;rintro e w5 ⟨rfl,rfl⟩;have hib:=jL x h2 (p:=p);rw[<-Xg.out,<-HB.out]at hib⊢;clear hcell Yq;go_wp2_with fail
  refine(yO p A3 c3 _ _ w4 (f3.rd.ex x4) h2 h97 Hqe.out (by omega)).mono ?_;rintro e w6 ⟨A6,c6,rfl,f6,x6⟩;rw[<-HN.out]at f6⊢;go_wp2_with fail
  refine(yO p _ c4 _ _ w6 (f4.rd.ex x6) h2 h97 Zm.out (by omega)).mono ?_;rintro e w7 ⟨A7,c7,rfl,f7,x7⟩;rw[<-HD.out]at f7⊢;have x27:=((x2.trans x3).trans x4).trans (x6.trans x7);have hb7:w7.heap[w.heap.size]?=some (.cells #[.slice none 0 0,.slice none 0 0] 51 (0,0)):=(x27.block (by omega)).trans hb1;have aeZ:w7.cell? ⟨w.heap.size,0,none⟩=some (.slice none 0 0):=by simp[World.cell?,hb7]
  have aeY:w7.cell? ⟨w.heap.size,1,none⟩=some (.slice none 0 0):=by simp[World.cell?,hb7]
  have akm:w7.frozen? ⟨w.heap.size,0,none⟩=false:=by simp[World.frozen?,hb7]
  have akl:w7.frozen? ⟨w.heap.size,1,none⟩=false:=by simp[World.frozen?,hb7]
  have S1:=amW s1;clear hb7 hb1 s1;go_wp2_with fail
  have y1:aJ w.heap.size w7 (w7.setCell ⟨w.heap.size,0,none⟩ (.slice A6 (aW p num den).length c6)):=(aJ.refl _ _).setCell rfl _;have y2:=y1.setCell (p:=⟨w.heap.size,1,none⟩) rfl (.slice A7 (aT p num den).length c7);have d0:((w7.setCell ⟨w.heap.size,0,none⟩ (.slice A6 (aW p num den).length c6)).setCell ⟨w.heap.size,1,none⟩ (.slice A7 (aT p num den).length c7)).cell? ⟨w.heap.size,0,none⟩=some (.slice A6 (aW p num den).length c6):=by rw[aom _ _ _ _ (by intro e;injection e with _ e;cases e)];exact World.cell?_setCell_same _ _ _ aeZ
  have d1:((w7.setCell ⟨w.heap.size,0,none⟩ (.slice A6 (aW p num den).length c6)).setCell ⟨w.heap.size,1,none⟩ (.slice A7 (aT p num den).length c7)).cell? ⟨w.heap.size,1,none⟩=some (.slice A7 (aT p num den).length c7):=by refine World.cell?_setCell_same _ _ _ (u:=.slice none 0 0) ?_;rw[aom _ _ _ _ (by intro e;injection e with _ e;cases e)];exact aeY
  generalize(w7.setCell ⟨w.heap.size,0,none⟩ (.slice A6 (aW p num den).length c6)).setCell ⟨w.heap.size,1,none⟩ (.slice A7 (aT p num den).length c7)=w8 at*;refine ane (v:=.agg #[.slice A6 (aW p num den).length c6,.slice A7 (aT p num den).length c7]) (by simp[results,Tryz.results98,go_sem,d0,d1]) rfl ?_;have z1:=S1.out;have z2:=x2.size;have z3:=x3.size;have z4:=x4.size;have z6:=x6.size;have z7:=x7.size;have g6:=(f6.ex x7).aM y2 (f6.hi.off (by omega));have g7:=f7.aM y2 (f7.hi.off (by omega));exact⟨A6,c6,A7,c7,rfl,g6.more (by omega),g7.more (by omega),Apart.aaA f6.lo f7.hi,((xw4.trans x6).trans x7).aM y2 (amX _)⟩
theorem afO(w:World)(a b:Value)(t:TypeId):(w.alloc (.cells #[a,b] t)).cell? ⟨w.heap.size,0,none⟩=some a/\(w.alloc (.cells #[a,b] t)).cell? ⟨w.heap.size,1,none⟩=some b:=by constructor<;>(rw[World.cell?_alloc_at _ _ _ _ rfl];rfl)
theorem Tv(w:World)(a b:Value)(t:TypeId)(o:Obj):((w.alloc (.cells #[a,b] t)).alloc o).cell? ⟨w.heap.size,0,none⟩=some a/\((w.alloc (.cells #[a,b] t)).alloc o).cell? ⟨w.heap.size,1,none⟩=some b:=by
 have h:=afO w a b t;constructor
 .rw[World.cell?_alloc_past _ _ _ (by simp)];exact h.1
 .rw[World.cell?_alloc_past _ _ _ (by simp)];exact h.2
theorem oU(w:World)(a b:Value)(t:TypeId)(o:Obj):((w.alloc o).alloc (.cells #[a,b] t)).cell? ⟨w.heap.size+1,0,none⟩=some a/\((w.alloc o).alloc (.cells #[a,b] t)).cell? ⟨w.heap.size+1,1,none⟩=some b:=by constructor<;>(rw[World.cell?_alloc_at _ _ _ _ (by simp)];rfl)
theorem vW(A B A' B':Option Addr)(c d c' d':Nat)(n m n' m':List Int)(w:World)(h1:Rd w A n)(h2:Rd w B m)(h3:Rd w A' n')(h4:Rd w B' m'):
 Calls prog 162 #[.agg #[.slice A n.length c,.slice B m.length d],.agg #[.slice A' n'.length c',.slice B' m'.length d']] w λe w'=>e=.returned (.bool (decide (n=n')&&decide (m=m')))/\Ex w w':=by
 have x0:∀(a b:Obj),Ex w ((w.alloc a).alloc b):=λa b=>((asF w).alloc a).alloc b
 by_cases hn:n=n'
 .have hd:decide (n=n')=true:=by simpa using hn
  have Hd:=amW hd;clear hn;go_enter Tryz.func162,Tryz.ntmps162
  go_wp2_with fail
  refine(lM A A' c c' n n' _ (h1.ex (x0 _ _)) (h3.ex (x0 _ _))).mono ?_;rintro e w1 ⟨rfl,x1⟩;have c0:=af x1 (g:=w.heap.size) (o:=1) (v:=.slice B m.length d) (Tv _ _ _ _ _).2;have c1:=af x1 (g:=w.heap.size+1) (o:=1) (v:=.slice B' m'.length d') (oU _ _ _ _ _).2;have xx:=(x0 _ _).trans x1;clear x0 x1;rw[hd];clear hd;go_wp2_with fail
  refine(lM B B' d d' m m' _ (h2.ex xx) (h4.ex xx)).mono ?_;rintro e w2 ⟨rfl,x2⟩;go_wp2;go_ret;exact⟨by rw[Hd.out];rfl,xx.trans x2⟩
 .have hd:decide (n=n')=false:=by simpa using hn
  have Hd:=amW hd;clear hn;go_enter Tryz.func162,Tryz.ntmps162
  go_wp2_with fail
  refine(lM A A' c c' n n' _ (h1.ex (x0 _ _)) (h3.ex (x0 _ _))).mono ?_;rintro e w1 ⟨rfl,x1⟩;have xx:=(x0 _ _).trans x1;clear x0 x1;rw[hd];clear hd;go_wp2;go_ret;exact⟨by rw[Hd.out];rfl,xx⟩
theorem jT(p:Int)(g:Nat)(A B:Option Addr)(c d:Nat)(f h:List Int)(w:World)(h0:w.cell? ⟨g,0,none⟩=some (.slice A f.length c))(h1:w.cell? ⟨g,1,none⟩=some (.slice B h.length d))(r1:Rd w A f)(r2:Rd w B h)(ht:Tb w):
 Calls prog 160 #[.int .i64 p,.slice (some ⟨g,0,none⟩) 2 2] w λe w'=>e=.returned (.bool (bC p f&&bC p h))/\w=w':=by
 have hpa:([f,h].all (bC p)&&aj p)=(bC p f&&bC p h):=by
  simp only[List.all_cons,List.all_nil,Bool.and_true];cases h1:bC p f
  .rfl
  .rw[(fE h1).1,Bool.and_true]
 have:=JL p (some ⟨g,0,none⟩) 2 [.slice A f.length c,.slice B h.length d] [f,h] w ⟨by simp,λj v hj=>by
  match j with
  |0=>injection hj with hj;subst hj;exact⟨g,0,rfl,h0⟩
  |1=>injection hj with hj;subst hj;exact⟨g,0,rfl,h1⟩
  |j+2=>cases hj⟩ (λj v hj=>by
  match j with
  |0=>injection hj with hj;subst hj;exact⟨f,rfl,A,c,rfl,r1⟩
  |1=>injection hj with hj;subst hj;exact⟨h,rfl,B,d,rfl,r2⟩
  |j+2=>cases hj) rfl ht
 rw[hpa]at this;exact this
theorem um(p:Int)(A B:Option Addr)(c d:Nat)(num den:List Int)(w:World)(hn:Rd w A num)(hd:Rd w B den)(ht:Tb w):
 Calls prog 140 #[.int .i64 p,.agg #[.slice A num.length c,.slice B den.length d]] w λe w'=>e=.returned (.bool (bF p num den))/\Ex w w':=by
 have hl1:=hn.len;have hl2:=hd.len;have x0:∀(a b:Obj),Ex w ((w.alloc a).alloc b):=λa b=>((asF w).alloc a).alloc b
 cases hpp:(bC p num&&bC p den)with
 |false=>
  have H:=amW (show bF p num den=false by simp[bF,hpp]);have Hp:=amW hpp;clear hpp;go_enter Tryz.func140,Tryz.ntmps140
  go_wp2_with fail
  refine(jT p _ A B c d num den _ (oU _ _ _ _ _).1 (oU _ _ _ _ _).2 (hn.ex (x0 _ _)) (hd.ex (x0 _ _)) (ht.ex (x0 _ _))).mono ?_;rintro e w1 ⟨rfl,rfl⟩;rw[Hp.out];go_wp2;go_ret;exact⟨by rw[H.out];rfl,x0 _ _⟩
 |true=>
  have Hp:=amW hpp;have U9:bC p num=true/\bC p den=true:=by simpa using hpp
  obtain⟨hF,_,hne,tn⟩:=fE U9.1;obtain⟨_,_,hde,td⟩:=fE U9.2;have HF:=amW hF;have Lj:=amW hne;have Lm:=amW hde;have Hpp:=amW U9;clear hpp U9 hF hne hde;by_cases abg:num.length<=21;case neg=>
   have H:=amW (show bF p num den=false by simp[bF,abg]);go_enter Tryz.func140,Tryz.ntmps140
   go_wp2_with fail
   refine(jT p _ A B c d num den _ (oU _ _ _ _ _).1 (oU _ _ _ _ _).2 (hn.ex (x0 _ _)) (hd.ex (x0 _ _)) (ht.ex (x0 _ _))).mono ?_;rintro e w1 ⟨rfl,rfl⟩;rw[Hp.out];go_wp2_with (go_at_call 161;refine(uI _ _ _ _ (by omega)).mono ?_;rintro e w' ⟨rfl,rfl⟩)
   go_ret;exact⟨by rw[H.out];rfl,x0 _ _⟩
  by_cases abw:den.length<=21;case neg=>
   have H:=amW (show bF p num den=false by simp[bF,abw]);go_enter Tryz.func140,Tryz.ntmps140
   go_wp2_with fail
   refine(jT p _ A B c d num den _ (oU _ _ _ _ _).1 (oU _ _ _ _ _).2 (hn.ex (x0 _ _)) (hd.ex (x0 _ _)) (ht.ex (x0 _ _))).mono ?_;rintro e w1 ⟨rfl,rfl⟩;rw[Hp.out];go_wp2_with (go_at_call 161;refine(uI _ _ _ _ (by omega)).mono ?_;rintro e w' ⟨rfl,rfl⟩)
   go_ret;exact⟨by rw[H.out];rfl,x0 _ _⟩
  by_cases hd0:den=[]
  .have H:=amW (show bF p num den=false by simp[bF,hd0]);subst hd0;go_enter Tryz.func140,Tryz.ntmps140
   go_wp2_with fail
   refine(jT p _ A B c d num [] _ (oU _ _ _ _ _).1 (oU _ _ _ _ _).2 (hn.ex (x0 _ _)) (hd.ex (x0 _ _)) (ht.ex (x0 _ _))).mono ?_;rintro e w1 ⟨rfl,rfl⟩;rw[Hp.out];go_wp2_with (go_at_call 161;refine(uI _ _ _ _ (by omega)).mono ?_;rintro e w' ⟨rfl,rfl⟩)
   go_ret;exact⟨by rw[H.out];rfl,x0 _ _⟩
  .have hdl:=ana.2 hd0;have hdb:((den.length:Int)==0)=false:=by simp;omega
   have hs:=FN HF.out Lj.out Lm.out tn td hd0;have H:=amW (show bF p num den=(decide (aW p num den=num)&&decide (aT p num den=den)) by
    have:=Hpp.out;rw[an3];simp only[bF,this.1,this.2,abg,abw,anx,decide_eq_true_eq,hs];simp[hd0])
   have Hd0:=amW hd0;clear hs hd0;go_enter Tryz.func140,Tryz.ntmps140
   go_wp2_with fail
   refine(jT p _ A B c d num den _ (oU _ _ _ _ _).1 (oU _ _ _ _ _).2 (hn.ex (x0 _ _)) (hd.ex (x0 _ _)) (ht.ex (x0 _ _))).mono ?_;rintro e w1 ⟨rfl,rfl⟩;rw[Hp.out];go_wp2_with (go_at_call 161;refine(uI _ _ _ _ (by omega)).mono ?_;rintro e w' ⟨rfl,rfl⟩)
   have xx:=x0 (Obj.cells #[.slice A num.length c,.slice B den.length d] 51) (Obj.cells #[.slice A num.length c,.slice B den.length d] 23);have cc:=Tv w (.slice A num.length c) (.slice B den.length d) 51 (Obj.cells #[.slice A num.length c,.slice B den.length d] 23);obtain⟨cc0,cc1⟩:=cc;generalize(w.alloc (Obj.cells #[.slice A num.length c,.slice B den.length d] 51)).alloc (Obj.cells #[.slice A num.length c,.slice B den.length d] 23)=W at*;have hnW:=hn.ex xx;have hdW:=hd.ex xx;go_region_with (first
    |(go_at_call 98
      refine(tZ p A B c d num den W.drew hnW hdW HF.out Lj.out Lm.out tn td Hd0.out).mono ?_;rintro e w2 ⟨A2,c2,B2,d2,rfl,f2,g2,_,x2⟩;have e0:=af x2 (g:=w.heap.size) (o:=0) (v:=.slice A num.length c) cc0;have e1:=af x2 (g:=w.heap.size) (o:=1) (v:=.slice B den.length d) cc1)
    |(go_at_call 162
      refine(vW A2 B2 A B c2 d2 c d _ _ num den _ f2.rd g2.rd (hnW.drew.ex x2) (hdW.drew.ex x2)).mono ?_;rintro e w3 ⟨rfl,x3⟩))
   all_goals go_wp2
   all_goals go_ret
   all_goals exact⟨by rw[H.out];rfl,(xx.drew.trans x2).trans x3⟩
theorem qf(A:Option Addr)(c n:Nat)(w:World)(hn:n<=1099511627776):Calls prog 164 #[.slice A n c] w λe w'=>e=.returned (.bool (decide (n<=21)))/\w=w':=by
 go_enter Tryz.func164,Tryz.ntmps164
 go_wp2;go_ret;exact⟨aG (by simp;omega),rfl⟩
theorem Gu(p:Int)(A B:Option Addr)(c d:Nat)(num den:List Int)(w:World)(hn:Rd w A num)(hd:Rd w B den):
 Calls prog 143 #[.int .i64 p,.agg #[.slice A num.length c,.slice B den.length d]] w λe w'=>e=.returned (.bool (bF p num den))/\Ex w w':=by
 have hl1:=hn.len;have hl2:=hd.len;have x0:∀(a:Obj),Ex w (w.alloc a):=λa=>(asF w).alloc a
 cases h1:bC p num with
 |false=>
  have H:=amW (show bF p num den=false by simp[bF,h1]);go_enter Tryz.func143,Tryz.ntmps143
  go_wp2_with (go_at_call 163;refine(eY _ _ _ _ _ (hn.ex (x0 _))).mono ?_;rintro e w' ⟨rfl,rfl⟩)
  go_ret;exact⟨by rw[H.out];rfl,x0 _⟩
 |true=>
 cases h2:bC p den with
 |false=>
  have H:=amW (show bF p num den=false by simp[bF,h2]);go_enter Tryz.func143,Tryz.ntmps143
  go_wp2_with fail
  refine(eY _ _ _ _ _ (hn.ex (x0 _))).mono ?_;rintro e w' ⟨rfl,rfl⟩;go_wp2_with fail
  refine(eY _ _ _ _ _ (hd.ex (x0 _))).mono ?_;rintro e w' ⟨rfl,rfl⟩;go_wp2;go_ret;exact⟨by rw[H.out];rfl,x0 _⟩
 |true=>
 by_cases h3:num.length<=21;case neg=>
  have H:=amW (show bF p num den=false by simp[bF,h3]);have h3':decide (num.length<=21)=false:=by simpa using h3
  go_enter Tryz.func143,Tryz.ntmps143
  go_wp2_with fail
  refine(eY _ _ _ _ _ (hn.ex (x0 _))).mono ?_;rintro e w' ⟨rfl,rfl⟩;go_wp2_with fail
  refine(eY _ _ _ _ _ (hd.ex (x0 _))).mono ?_;rintro e w' ⟨rfl,rfl⟩;go_wp2_with (go_at_call 164;refine(qf _ _ _ _ (by omega)).mono ?_;rintro e w' ⟨rfl,rfl⟩)
  go_ret;exact⟨by rw[H.out];rfl,x0 _⟩
 by_cases h4:den.length<=21;case neg=>
  have H:=amW (show bF p num den=false by simp[bF,h4]);go_enter Tryz.func143,Tryz.ntmps143
  go_wp2_with fail
  refine(eY _ _ _ _ _ (hn.ex (x0 _))).mono ?_;rintro e w' ⟨rfl,rfl⟩;go_wp2_with fail
  refine(eY _ _ _ _ _ (hd.ex (x0 _))).mono ?_;rintro e w' ⟨rfl,rfl⟩;go_wp2_with (go_at_call 164;refine(qf _ _ _ _ (by omega)).mono ?_;rintro e w' ⟨rfl,rfl⟩)
  go_ret;exact⟨by rw[H.out];rfl,x0 _⟩
 by_cases h5:den=[]
 .have H:=amW (show bF p num den=false by simp[bF,h5]);subst h5;go_enter Tryz.func143,Tryz.ntmps143
  go_wp2_with fail
  refine(eY _ _ _ _ _ (hn.ex (x0 _))).mono ?_;rintro e w' ⟨rfl,rfl⟩;go_wp2_with fail
  refine(eY _ _ _ [] _ (hd.ex (x0 _))).mono ?_;rintro e w' ⟨rfl,rfl⟩;go_wp2_with (go_at_call 164;refine(qf _ _ _ _ (by omega)).mono ?_;rintro e w' ⟨rfl,rfl⟩)
  go_ret;exact⟨by rw[H.out];rfl,x0 _⟩
 have hdl:=ana.2 h5;have hdb:((den.length:Int)==0)=false:=by simp;omega
 obtain⟨gl,hgl⟩:∃gl:Nat,den.length=gl+1:=⟨den.length-1,by omega⟩;obtain⟨gA,nZ,x,rfl,hx,hgA,hcell⟩:=hd.at_ (by omega:gl<den.length);have hcx:cf den (den.length-1)=x:=by rw[hgl];exact iW hx
 have hgi:(den.length:Int)-1=(gl:Int):=by omega
 have Nq:gl<den.length:=by omega
 have hc1:∀o,(w.alloc o).cell? ⟨gA,nZ+gl,none⟩=some (.int .i64 x):=λo=>af (x0 o) hcell
 by_cases h6:x=1
 .subst h6;obtain⟨hF,_,hne,tn⟩:=fE h1;obtain⟨_,_,hde,td⟩:=fE h2;have H:=amW (show bF p num den=decide ((bJ p num den).length=1) by simp[bF,h1,h2,h3,h4,h5,hcx]);have HF:=amW hF;have Lj:=amW hne;have Lm:=amW hde;have H5:=amW h5;clear hgl hx hcx hcell hF hne hde h5;go_enter Tryz.func143,Tryz.ntmps143
  go_wp2_with fail
  refine(eY _ _ _ _ _ (hn.ex (x0 _))).mono ?_;rintro e w' ⟨rfl,rfl⟩;go_wp2_with fail
  refine(eY _ _ _ _ _ (hd.ex (x0 _))).mono ?_;rintro e w' ⟨rfl,rfl⟩;go_wp2_with (go_at_call 164;refine(qf _ _ _ _ (by omega)).mono ?_;rintro e w' ⟨rfl,rfl⟩)
  refine(Kq p A _ c d num den _ (hn.ex (x0 _)) (hd.ex (x0 _)) HF.out Lj.out Lm.out tn td (.inr H5.out)).mono ?_;rintro e w1 ⟨A1,c1,rfl,f1,x1⟩;have xx:=(x0 _).trans x1;clear hc1 x0 h1 h2;go_wp2_with fail
  go_ret;exact⟨by rw[H.out];exact aG (by rw[an3];simp;omega),xx⟩
 .have H:=amW (show bF p num den=false by simp[bF,hcx,h6]);have hxb:(x !=1)=true:=by simpa using h6
  clear hgl hx hcx hcell h5 h6;go_enter Tryz.func143,Tryz.ntmps143
  go_wp2_with fail
  refine(eY _ _ _ _ _ (hn.ex (x0 _))).mono ?_;rintro e w' ⟨rfl,rfl⟩;go_wp2_with fail
  refine(eY _ _ _ _ _ (hd.ex (x0 _))).mono ?_;rintro e w' ⟨rfl,rfl⟩;go_wp2_with (go_at_call 164;refine(qf _ _ _ _ (by omega)).mono ?_;rintro e w' ⟨rfl,rfl⟩)
  go_ret;exact⟨by rw[H.out];rfl,x0 _⟩
def RdF(w:World)(A:Option Addr)(fs:List (List Int×List Int)):Prop:=
 fs.length<=549755813888/\∀(j:Nat) (q:List Int×List Int),fs[j]?=some q->∃g off A' c B' d,A=some ⟨g,off,none⟩/\
  w.cell? ⟨g,off+j*2,none⟩=some (.slice A' q.1.length c)/\w.cell? ⟨g,off+j*2+1,none⟩=some (.slice B' q.2.length d)/\Rd w A' q.1/\Rd w B' q.2
theorem RdF.ex{fs:List (List Int×List Int)}(h:RdF w A fs)(he:Ex w w'):RdF w' A fs:=
 ⟨h.1,λj q hj=>by
  obtain⟨g,off,A',c,B',d,hA,h0,h1,r0,r1⟩:=h.2 j q hj;exact⟨g,off,A',c,B',d,hA,af he h0,af he h1,r0.ex he,r1.ex he⟩⟩
theorem AA(p:Int)(A:Option Addr)(c:Nat)(fs:List (List Int×List Int))(w:World)(h:RdF w A fs)(ht:Tb w):
 Calls prog 99 #[.int .i64 p,.slice A fs.length c] w λe w'=>e=.returned (.bool (fs.all (λq=>bF p q.1 q.2)&&aj p))/\Ex w w':=by
 have hl1:=h.1;go_enter Tryz.func99,Tryz.ntmps99
 go_wp2_with fail
 go_loopw [9] (λi w'=>∃k:Nat,k<=fs.length/\Hid ((fs.take k).all (λq=>bF p q.1 q.2)=true)/\Ex w w'/\i=.int .i64 k) (λi _=>fs.length-(intOf i).toNat)
 case atStart=>exact⟨0,am4 _,rfl,asF w,rfl⟩
 case round=>
  obtain⟨k,hk,gy,xw,rfl⟩:=hrel;by_cases hlt:k<fs.length
  .obtain⟨g,off,A',c',B',d',rfl,h0,h1,r0,r1⟩:=(h.ex xw).2 k _ (am0 hlt);have Hq:=amW (am0 hlt);generalize fs[k]=q at*;obtain⟨n,m⟩:=q;dsimp only at h0 h1 r0 r1;have x1:=(asF wr).alloc (.cells #[.slice A' n.length c',.slice B' m.length d'] 51);cases hp:bF p n m with
   |true=>
    have Hp:=amW hp;clear hp;go_wp2_with fail
    generalize wr.alloc (.cells #[.slice A' n.length c',.slice B' m.length d'] 51)=W1 at*;refine(um p A' B' c' d' n m W1 (r0.ex x1) (r1.ex x1) (ht.ex (xw.trans x1))).mono ?_;rintro e w2 ⟨rfl,x2⟩;rw[Hp.out];go_wp2
    go_round
    case rel=>exact⟨k+1,by omega,by
     show _=true;rw[am_,Hq.out,an_,gy.out];simp[Hp.out],(xw.trans x1).trans x2,by go_num⟩
    case measure=>simp[intOf]<;>omega
   |false=>
    have Hp:=amW hp;clear hp;go_wp2_with fail
    generalize wr.alloc (.cells #[.slice A' n.length c',.slice B' m.length d'] 51)=W1 at*;refine(um p A' B' c' d' n m W1 (r0.ex x1) (r1.ex x1) (ht.ex (xw.trans x1))).mono ?_;rintro e w2 ⟨rfl,x2⟩;rw[Hp.out];go_wp2;go_ret;exact⟨aG (by rw[aof.2 ⟨(n,m),am1 Hq.out,by simp[Hp.out]⟩];rfl),(xw.trans x1).trans x2⟩
  .obtain rfl:k=fs.length:=by omega
   have htw:=ht.ex xw;go_wp2_with (go_at_call 51;refine(iq _ _ htw).mono ?_;rintro e w' ⟨rfl,rfl⟩)
   go_ret;exact⟨aG (by have:=gy.out;rw[anf]at this;rw[this];rfl),xw⟩
def sh(u:Nat->Int):Nat->Int
 |0=>0
 |n+1=>u n
def act:List Int->(Nat->Int)->Nat->Int
 |[],_=>λ_=>0
 |a::az,u=>λn=>a*u n+sh (act az u) n
def one:Nat->Int
 |0=>1
 |_+1=>0
theorem bM(a:Int)(az:List Int)(u:Nat->Int)(n:Nat):act (a::az) u n=a*u n+sh (act az u) n:=rfl
theorem Pj(u v:Nat->Int)(n:Nat):sh (λi=>u i+v i) n=sh u n+sh v n:=by cases n<;>rfl
theorem Ph(c:Int)(u:Nat->Int)(n:Nat):sh (λi=>c*u i) n=c*sh u n:=by
 cases n with
 |zero=>simp[sh]
 |succ n=>rfl
theorem yE(f:List Int)(u v:Nat->Int):act f (λi=>u i+v i)=λn=>act f u n+act f v n:=by
 induction f with
 |nil=>funext n;simp[act]
 |cons a az ih=>funext n;simp only[bM,ih,Pj,Int.mul_add];omega
theorem uM(f:List Int)(c:Int)(u:Nat->Int):act f (λi=>c*u i)=λn=>c*act f u n:=by
 induction f with
 |nil=>funext n;simp[act]
 |cons a az ih=>funext n;simp only[bM,ih,Ph,Int.mul_add,Int.mul_left_comm]
theorem Zf(f:List Int)(u:Nat->Int):act f (sh u)=sh (act f u):=by
 induction f with
 |nil=>funext n;cases n<;>rfl
 |cons a az ih=>
  funext n;rw[bM,ih];cases n with
  |zero=>simp[sh]
  |succ n=>rfl
theorem TI(f:List Int):act f (λ_=>0)=λ_=>0:=by have:=uM f 0 (λ_=>0);simpa using this
theorem adx(f:List Int)(u v:Nat->Int):act f (λi=>u i-v i)=λn=>act f u n-act f v n:=by
 have h:=yE f u (λi=> -1*v i);rw[uM]at h;have e:(λi=>u i-v i)=λi=>u i+ -1*v i:=by funext i;omega
 rw[e,h];funext n;show _+ -1*_=_;omega
theorem uO(f g:List Int)(u:Nat->Int):act f (act g u)=act g (act f u):=by
 induction f with
 |nil=>rw[show act [] u=λ_=>0 from rfl,TI];rfl
 |cons a az ih=>
  have e:act (a::az) u=λn=>a*u n+sh (act az u) n:=rfl
  rw[e,yE,uM,Zf,<-ih];rfl
theorem Hf(f g:List Int):∃q,∀u,act q u=act f (act g u):=by
 induction f with
 |nil=>exact⟨[],λu=>rfl⟩
 |cons a az ih=>
  obtain⟨q,hq⟩:=ih;obtain⟨s,hs⟩:∃s,∀u,act s u=λn=>a*act g u n+act (0::q) u n:=by
   generalize 0::q=t;clear hq
   induction g generalizing t with
   |nil=>exact⟨t,λu=>by funext n;simp[act]⟩
   |cons b bs ihg=>
    cases t with
    |nil=>
     obtain⟨s,hs⟩:=ihg [];exact⟨a*b::s,λu=>by
      funext n;have h0:=congrFun (hs u);rw[bM,bM];cases n with
      |zero=>simp[sh,act,aol]
      |succ n=>simp only[sh];rw[h0 n];simp[act,Int.mul_add,aol]⟩
    |cons c cs=>
     obtain⟨s,hs⟩:=ihg cs;exact⟨(a*b+c)::s,λu=>by
      funext n;have h0:=congrFun (hs u);rw[bM,bM,bM];cases n with
      |zero=>simp[sh,aol,Int.add_mul]
      |succ n=>
       simp only[sh];rw[h0 n];simp only[Int.mul_add,aol,Int.add_mul];omega⟩
  refine⟨s,λu=>?_⟩;rw[hs];funext n;rw[bM,bM,hq];simp
theorem Au:∀(f:List Int),cf f=act f one
 |[]=>by funext n;rfl
 |a::az=>by
  funext n;rw[bM];cases n with
  |zero=>simp[yB,one,sh]
  |succ n=>rw[jO,Au az];simp[one,sh]
theorem dG(f g:List Int):act f (cf g)=act g (cf f):=by rw[Au g,uO,<-Au]
theorem SX(a:Int)(az g:List Int)(n k:Nat):Es (a::az) g n (k+1)=a*cf g n+sh (λm=>Es az g m k) n:=by
 induction k with
 |zero=>cases n<;>simp[Es,sh,yB]
 |succ k ih=>
  rw[Es,ih];cases n with
  |zero=>simp[sh]
  |succ n=>
   simp only[sh,Es,jO,Nat.add_le_add_iff_right];have:n+1-(k+1)=n-k:=by omega
   rw[this];omega
theorem Ef:∀(f g:List Int) (n:Nat),Es f g n f.length=act f (cf g) n
 |[],g,n=>rfl
 |a::az,g,n=>by rw[anJ,SX,bM];congr 2;funext m;exact Ef az g m
def aP(p:Int)(u v:Nat->Int):Prop:=∀n,p ∣ u n-v n
theorem aP.refl(p:Int)(u:Nat->Int):aP p u u:=λn=>by rw[Int.sub_self];exact Int.dvd_zero _
theorem aP.of_eq(h:u=v):aP p u v:=h▸aP.refl p u
theorem aP.symm(h:aP p u v):aP p v u:=λn=>by have:=(Int.dvd_neg (a:=p)).2 (h n);rwa[Int.neg_sub]at this
theorem aP.trans{w:Nat->Int}(h:aP p u v)(k:aP p v w):aP p u w:=λn=>by have:=aoq (h n) (k n);rwa[show u n-v n+(v n-w n)=u n-w n by omega]at this
theorem aP.add{u' v':Nat->Int}(h:aP p u v)(k:aP p u' v'):aP p (λn=>u n+u' n) (λn=>v n+v' n):=λn=>by have:=aoq (h n) (k n);rwa[show u n-v n+(u' n-v' n)=u n+u' n-(v n+v' n) by omega]at this
theorem aP.mul(c:Int)(h:aP p u v):aP p (λn=>c*u n) (λn=>c*v n):=λn=>by have:=Int.dvd_trans (h n) (Int.dvd_mul_left c _);show p ∣ c*u n-c*v n;rwa[Int.mul_sub]at this
theorem aP.sh(h:aP p u v):aP p (sh u) (sh v):=λn=>by
 cases n with
 |zero=>exact Int.dvd_zero _
 |succ n=>exact h n
theorem aP.act(f:List Int)(h:aP p u v):aP p (act f u) (act f v):=by
 induction f with
 |nil=>exact aP.refl _ _
 |cons a az ih=>exact(h.mul a).add ih.sh
theorem aP.emod(u:Nat->Int):aP p (λn=>u n%p) u:=λn=>by exact Int.dvd_sub_self_of_emod_eq rfl
theorem aP.yA(h:aP p u v)(n:Nat):u n%p=v n%p:=Int.emod_eq_emod_iff_emod_sub_eq_zero.2 (apl (h n))
theorem aP.list(h:aP p (cf f) (cf g))(hp:0<p)(hf:av p f=true)(hg:av p g=true)(tf:Tr f)(tg:Tr g):f=g:=by
 unfold Tr at tf tg;rw[<-tf,<-tg];refine pM λi=>?_
 have:=h.yA i;have b1:=fU hf hp i;have b2:=fU hg hp i;rwa[anX b1.1 b1.2,anX b2.1 b2.2]at this
theorem aP.JN(h:aP p (cf f) (cf g))(u:List Int):aP p (Go.Proofs.YtekcehkhdjoffaaGreatDoor.act f (cf u)) (Go.Proofs.YtekcehkhdjoffaaGreatDoor.act g (cf u)):=by rw[dG f,dG g];exact h.act u
theorem IY(hp:0<p)(f g:List Int):aP p (cf (eZ p f g)) (act f (cf g)):=by
 have e:cf (eZ p f g)=λn=>act f (cf g) n%p:=by funext n;rw[Fz hp,Ef]
 rw[e];exact aP.emod _
theorem aU(hp:0<p)(f g:List Int):aP p (cf (ax p f g)) (act f (cf g)):=by
 have e:cf (ax p f g)=cf (eZ p f g):=by funext n;exact bU _ n
 rw[e];exact IY hp f g
theorem qG(hp:0<p)(hf:av p f=true)(b:Int)(g:List Int):aP p (cf (bL p f b g)) (λn=>cf f n+b*cf g n):=by
 have e:cf (bL p f b g)=λn=>(cf f n+b*cf g n)%p:=by funext n;exact Ku p b g hf hp n
 rw[e];exact aP.emod _
theorem G_(q:List Int)(c:Int)(u:Nat->Int)(n:Nat):act (q++[c]) u n=act q u n+if q.length<=n then c*u (n-q.length)else 0:=by
 induction q generalizing n with
 |nil=>simp[act,bM];cases n<;>simp[sh]
 |cons a az ih=>
  rw[List.cons_append,bM,bM];cases n with
  |zero=>simp[sh]
  |succ n=>simp only[sh,ih,anJ,Nat.add_le_add_iff_right,Nat.add_sub_add_right];omega
theorem JE(p:Int)(g:List Int)(b:Int)(k:Nat):∀r,k+g.length-1<=r.length->g≠[]->aP p (cf r) (λn=>act (bH p g b k r).1 (cf g) n+cf (bH p g b k r).2 n):=by
 induction k with
 |zero=>intro r _ _;exact aP.of_eq (by funext n;simp[bH,act])
 |succ k ih=>
  intro r hr hg;have hgl:=ana.2 hg;have h:=ih (bA p r k (-(cf r (k+g.length-1)*b%p)) g) (by rw[aS];omega) hg;rw[bH];have hl:=(ny p g b k (bA p r k (-(cf r (k+g.length-1)*b%p)) g)).1;intro n;have hn:=h n;simp only[G_,hl];have ha:=gX p r k (-(cf r (k+g.length-1)*b%p)) g n;generalize cf r (k+g.length-1)*b%p=c at*;by_cases hlt:n<r.length
  .rw[amY hlt]at ha;split at ha
   .rename_i hh;rw[amY hh.1];have hd:p ∣ cf r n+ -c*cf g (n-k)-cf (bA p r k (-c) g) n:=by rw[ha];exact Int.dvd_self_sub_of_emod_eq rfl
    have:=aoq hd hn;rw[Int.neg_mul]at this;rwa[show∀x y z w v:Int,x+ -y-z+(z-(w+v))=x-(w+y+v) by intros;omega]at this
   .rename_i hh;rw[ha]at hn;have e:(if k<=n then c*cf g (n-k)else 0)=0:=by
     split
     .rw[gU (by omega:g.length<=n-k)];simp
     .rfl
    rw[e,Int.add_zero];exact hn
  .rw[amZ hlt]at ha;rw[gU (by omega:r.length<=n)];rw[ha]at hn;have e:(if k<=n then c*cf g (n-k)else 0)=0:=by
    split
    .rw[gU (by omega:g.length<=n-k)];simp
    .rfl
   rw[e,Int.add_zero];exact hn
theorem qD(f:List Int)(hg:g≠[]):aP p (cf f) (λn=>act (bq p f g) (cf g) n+cf (bY p f g) n):=by
 have hgl:=ana.2 hg;rw[bq,bY];split
 .exact aP.of_eq (by funext n;simp[act])
 .have h:=JE p g (bO p (cf g (g.length-1))) (f.length-g.length+1) f (by omega) hg;have e1:cf (trim (bH p g (bO p (cf g (g.length-1))) (f.length-g.length+1) f).2)=cf (bH p g (bO p (cf g (g.length-1))) (f.length-g.length+1) f).2:=by funext n;exact bU _ n
  have e2:cf (trim (bH p g (bO p (cf g (g.length-1))) (f.length-g.length+1) f).1)=cf (bH p g (bO p (cf g (g.length-1))) (f.length-g.length+1) f).1:=by funext n;exact bU _ n
  rw[dG,e2,<-dG,e1];exact h
def aY(p:Int)(m:List Int)(u:Nat->Int):Prop:=∃q,aP p u (act q (cf m))
theorem TJ(a b:List Int):∃s,∀u,act s u=λn=>act a u n+act b u n:=by
 induction a generalizing b with
 |nil=>exact⟨b,λu=>by funext n;simp[act]⟩
 |cons x xs ih=>
  cases b with
  |nil=>exact⟨x::xs,λu=>by funext n;simp[act]⟩
  |cons y ys=>
   obtain⟨s,hs⟩:=ih ys;exact⟨(x+y)::s,λu=>by
    funext n;rw[bM,bM,bM,hs,Pj,Int.add_mul];omega⟩
theorem Ol(c:Int)(a:List Int):∃s,∀u,act s u=λn=>c*act a u n:=by
 induction a with
 |nil=>exact⟨[],λu=>by funext n;simp[act]⟩
 |cons x xs ih=>
  obtain⟨s,hs⟩:=ih;exact⟨(c*x)::s,λu=>by
   funext n;rw[bM,bM,hs,Ph,Int.mul_add,aol]⟩
theorem aY.Aq(h:aY p m u)(k:aP p v u):aY p m v:=by obtain⟨q,hq⟩:=h;exact⟨q,k.trans hq⟩
theorem aY.add(h:aY p m u)(k:aY p m v):aY p m (λn=>u n+v n):=by obtain⟨q,hq⟩:=h;obtain⟨r,hr⟩:=k;obtain⟨s,hs⟩:=TJ q r;exact⟨s,by rw[hs];exact hq.add hr⟩
theorem aY.mul(h:aY p m u)(c:Int):aY p m (λn=>c*u n):=by obtain⟨q,hq⟩:=h;obtain⟨s,hs⟩:=Ol c q;exact⟨s,by rw[hs];exact hq.mul c⟩
theorem aY.sub(h:aY p m u)(k:aY p m v):aY p m (λn=>u n-v n):=by have:=h.add (k.mul (-1));exact this.Aq (aP.of_eq (by funext n;omega))
theorem aY.act(h:aY p m u)(f:List Int):aY p m (act f u):=by obtain⟨q,hq⟩:=h;obtain⟨s,hs⟩:=Hf f q;exact⟨s,by rw[hs];exact hq.act f⟩
theorem aY.self(p:Int)(m q:List Int):aY p m (Go.Proofs.YtekcehkhdjoffaaGreatDoor.act q (cf m)):=⟨q,aP.refl _ _⟩
theorem yD(u:Nat->Int):act [1] u=u:=by funext n;cases n<;>simp[act,sh]
theorem aY.J3(p:Int)(m:List Int):aY p m (cf m):=⟨[1],aP.of_eq (yD _).symm⟩
theorem aY.trans(h:aY p m u)(hk:aY p k (cf m)):aY p k u:=by obtain⟨q,hq⟩:=h;exact(hk.act q).Aq hq
theorem aY.zero(p:Int)(m:List Int):aY p m (λ_=>0):=⟨[],aP.of_eq rfl⟩
theorem Ej:∀(q g:List Int),q≠[]->g≠[]->act q (cf g) (q.length+g.length-2)=cf q (q.length-1)*cf g (g.length-1):=λq g hq hg=>by
 rw[<-Ef];rcases Ld q g hq with h|h
 .exact h
 .exact absurd h hg
def red(p:Int)(q:List Int):List Int:=trim (q.map (·%p))
theorem XO(p:Int)(q:List Int)(n:Nat):cf (red p q) n=cf q n%p:=by rw[red,bU,cf,cf,am7];cases q[n]?<;>simp
theorem IG(hp:0<p)(q:List Int):av p (red p q)=true:=j_ (iI λi x hx=>by
 rw[am7]at hx;cases h:q[i]? with
 |none=>rw[h]at hx;cases hx
 |some y=>rw[h]at hx;injection hx with hx;subst hx;exact⟨anV _ (by omega),anW _ hp⟩)
theorem IE(p:Int)(q:List Int):Tr (red p q):=Tr.trim _
theorem yZ(p:Int)(q:List Int):aP p (cf (red p q)) (cf q):=by
 have e:cf (red p q)=λn=>cf q n%p:=by funext n;exact XO p q n
 rw[e];exact aP.emod _
theorem MH(hF:aj p=true)(hm:av p m=true)(tm:Tr m)(hm0:m≠[]){q:List Int}(h:aP p u (act q (cf m)))(hu:∀n,m.length-1<=n->p ∣ u n):red p q=[]:=by
 have h2:=au hF;have hml:=ana.2 hm0;have h':aP p u (act (red p q) (cf m)):=h.trans ((yZ p q).symm.JN m);cases hq:red p q with
 |nil=>rfl
 |cons a az=>
  exfalso;have hr0:red p q≠[]:=by rw[hq];simp
  have hrl:=ana.2 hr0;have hk:=h' ((red p q).length+m.length-2);rw[Ej _ _ hr0 hm0]at hk;have hd:=Int.dvd_sub (hu ((red p q).length+m.length-2) (by omega)) hk;rw[show∀x y:Int,x-(x-y)=y by intros;omega]at hd;have b1:=fU (IG (show 0<p by omega) q) (show 0<p by omega) ((red p q).length-1);have b2:=fU hm (show 0<p by omega) (m.length-1);have n1:=(IE p q).last hr0;have n2:=tm.last hm0;exact X0 hF ⟨by omega,b1.2⟩ ⟨by omega,b2.2⟩ (apl hd)
theorem aY.small(hF:aj p=true)(hm:av p m=true)(tm:Tr m)(hm0:m≠[])(h:aY p m u)(hu:∀n,m.length-1<=n->p ∣ u n):aP p u (λ_=>0):=by obtain⟨q,hq⟩:=h;have h0:=MH hF hm tm hm0 hq hu;refine hq.trans ?_;have:=(yZ p q).symm.JN m;rw[h0]at this;exact this
theorem aY.le(hF:aj p=true)(hm:av p m=true)(tm:Tr m)(hm0:m≠[])(hf:av p f=true)(tf:Tr f)(hf0:f≠[])(h:aY p m (cf f)):
 ∃q,av p q=true/\Tr q/\q≠[]/\aP p (cf f) (Go.Proofs.YtekcehkhdjoffaaGreatDoor.act q (cf m))/\q.length+m.length-1<=f.length:=by
 have h2:=au hF;obtain⟨q,hq⟩:=h;have hq':aP p (cf f) (Go.Proofs.YtekcehkhdjoffaaGreatDoor.act (red p q) (cf m)):=hq.trans ((yZ p q).symm.JN m);have hml:=ana.2 hm0;have hr0:red p q≠[]:=by intro e;rw[e]at hq';exact hf0 (aP.list (g:=[]) hq' (by omega) hf rfl tf Tr.nil)
 refine⟨red p q,IG (by omega) q,IE p q,hr0,hq',?_⟩;have hrl:=ana.2 hr0;rcases anM f.length ((red p q).length+m.length-1)with hl|hl
 .exfalso;have hk:=hq' ((red p q).length+m.length-2);rw[Ej _ _ hr0 hm0,gU (by omega:f.length<=(red p q).length+m.length-2)]at hk;have hd:p ∣ cf (red p q) ((red p q).length-1)*cf m (m.length-1):=by
   have:=Int.dvd_neg.2 hk;simpa using this
  have b1:=fU (IG (show 0<p by omega) q) (show 0<p by omega) ((red p q).length-1);have b2:=fU hm (show 0<p by omega) (m.length-1);have n1:=(IE p q).last hr0;have n2:=tm.last hm0;exact X0 hF ⟨by omega,b1.2⟩ ⟨by omega,b2.2⟩ (apl hd)
 .exact hl
theorem aY.aaG(hF:aj p=true)(hm:av p m=true)(tm:Tr m)(hm0:m≠[])(hf:av p f=true)(tf:Tr f)(hf0:f≠[])(h:aY p m (cf f))(k:aY p f (cf m))
 (hm1:cf m (m.length-1)=1) (hf1:cf f (f.length-1)=1):m=f:=by
 have h2:=au hF;obtain⟨q,hq,tq,hq0,hc,hl⟩:=h.le hF hm tm hm0 hf tf hf0;obtain⟨r,hr,tr,hr0,hc',hl'⟩:=k.le hF hf tf hf0 hm tm hm0;have Rn:=ana.2 hq0;have hrl:=ana.2 hr0;have hml:=ana.2 hm0;have hfl:=ana.2 hf0;have hq1:q.length=1:=by omega
 have htop:=hc (q.length+m.length-2);rw[Ej _ _ hq0 hm0,hm1,show q.length+m.length-2=f.length-1 by omega,hf1]at htop
 match q,hq1 with
 |[c],_=>
  have bc:=fU hq (show 0<p by omega) 0;simp only[aop,an4,yB,Int.mul_one]at htop bc;have hc1:c=1:=by
   obtain⟨z,hz⟩:=htop;rcases Int.lt_trichotomy z 0 with hzz|hzz|hzz
   .have:=Int.mul_le_mul_of_nonneg_left (show z<= -1 by omega) (show 0<=p by omega);omega
   .subst hzz;omega
   .have:=Int.mul_le_mul_of_nonneg_left (show 1<=z by omega) (show 0<=p by omega);omega
  subst hc1;rw[yD]at hc;exact(aP.list hc (by omega) hf hm tf tm).symm
theorem Gt{p:Int}(hF:aj p=true):∀(n:Nat) {f g:List Int},av p f=true->av p g=true->Tr f->Tr g->g.length<=n->aY p (gcdL p n f g) (cf f)/\aY p (gcdL p n f g) (cf g)
 |n,f,g,hf,hg,tf,tg,hn=>by
  by_cases h0:g=[]
  .subst h0;rw[uq];exact⟨aY.J3 _ _,aY.zero _ _⟩
  .have hgl:=ana.2 h0;obtain⟨n,rfl⟩:∃k,n=k+1:=⟨n-1,by omega⟩;have h2:=au hF;have hl:=jQ hF hf hg tg h0;rw[mZ _ _ _ h0];obtain⟨i1,i2⟩:=Gt hF n hg (jR (by omega) hf g) tg (jP p tf g) (by omega);exact⟨((i1.act (bq p f g)).add i2).Aq (qD f h0),i1⟩
theorem KM{p:Int}{k:List Int}:∀(n:Nat) {f g:List Int},aY p k (cf f)->aY p k (cf g)->aY p k (cf (gcdL p n f g))
 |0,f,g,h,_=>h
 |n+1,f,g,h,h'=>by
  rw[gcdL];split
  .exact h
  .rename_i h0;refine KM n h' ?_;have:=h.sub (h'.act (bq p f g));refine this.Aq ?_;have hc:=qD (p:=p) f h0;intro i;have:=Int.dvd_neg.2 (hc i);rwa[show∀x y z:Int, -(x-(y+z))=z-(x-y) by intros;omega]at this
theorem RY(hF:aj p=true)(hf:av p f=true)(hg:av p g=true)(tf:Tr f)(tg:Tr g):aY p (jk p f g) (cf f)/\aY p (jk p f g) (cf g):=Gt hF _ hf hg tf tg (by omega)
theorem Vl(h:aY p k (cf f))(h':aY p k (cf g)):aY p k (cf (jk p f g)):=KM _ h h'
theorem BV(hp:0<p)(b:Int)(g:List Int):aY p g (cf (aR p b g)):=by have h:=qG hp (f:=[]) rfl b g;refine((aY.J3 p g).mul b).Aq ?_;refine h.trans (aP.of_eq ?_);funext n;simp[iD]
theorem vY(hp:0<p){b c:Int}(hbc:b*c%p=1%p)(g:List Int):aY p (aR p b g) (cf g):=by have h:=qG hp (f:=[]) rfl b g;refine((aY.J3 p (aR p b g)).mul c).Aq ?_;intro n;have h1:p ∣ b*c-1:=Int.dvd_of_emod_eq_zero (by rw[Int.sub_emod,hbc,Int.sub_self,Int.zero_emod]);have h2:=Int.dvd_trans (h n) (Int.dvd_mul_left c _);have h3:=Int.dvd_trans h1 (Int.dvd_mul_left (cf g n) _);show p ∣ cf g n-c*cf (aR p b g) n;have:=Int.dvd_neg.2 (aoq h2 h3);simp only[iD,aoC]at this;rw[Int.mul_sub,Int.mul_sub,Int.mul_one,<-aol,aot c b,aot (cf g n) (b*c)]at this;rwa[aR,show∀x y z:Int,z-x= -(x-y+(y-z)) by intros;omega]
theorem DT(hF:aj p=true)(hf:av p f=true)(hg:av p g=true)(tf:Tr f)(tg:Tr g)(h0:f≠[]∨g≠[]):aY p (bJ p f g) (cf (jk p f g))/\aY p (jk p f g) (cf (bJ p f g)):=by have h2:=au hF;have hE:=KO (show 0<p by omega) hf hg;have hT:=KN p tf tg;have hN:=DU p h0;have b:=fU hE (show 0<p by omega) ((jk p f g).length-1);have n1:=hT.last hN;refine⟨?_,BV (by omega) _ _⟩;rw[bJ,dm];exact vY (by omega) (c:=cf (jk p f g) ((jk p f g).length-1)) (by rw[aot,inv_mul hF (by omega) b.2,anX (by omega) (by omega)]) _
theorem qa(hF:aj p=true)(hf:av p f=true)(hg:av p g=true)(tf:Tr f)(tg:Tr g)(h0:f≠[]∨g≠[]):aY p (bJ p f g) (cf f)/\aY p (bJ p f g) (cf g):=by have h:=DT hF hf hg tf tg h0;have k:=RY hF hf hg tf tg;exact⟨k.1.trans h.1,k.2.trans h.1⟩
theorem KL(hF:aj p=true)(hf:av p f=true)(hg:av p g=true)(tf:Tr f)(tg:Tr g)(h0:f≠[]∨g≠[])(h:aY p k (cf f))(h':aY p k (cf g)):aY p k (cf (bJ p f g)):=
 (DT hF hf hg tf tg h0).2.trans (Vl h h')
theorem qA(hF:aj p=true){d:List Int}(hf:av p f=true)(hd:av p d=true)(td:Tr d)(hd0:d≠[])(h:aY p d (cf f)):aP p (cf f) (act (bq p f d) (cf d)):=by
 have h2:=au hF;have hc:=qD (p:=p) f hd0;have hr:aP p (cf (bY p f d)) (λ_=>0):=by
  refine aY.small hF hd td hd0 ?_ ?_
  .refine(h.sub (aY.self p d (bq p f d))).Aq ?_;intro n;have:=hc n;have e:cf (bY p f d) n-(cf f n-act (bq p f d) (cf d) n)= -(cf f n-(act (bq p f d) (cf d) n+cf (bY p f d) n)):=by omega
   rw[e];exact Int.dvd_neg.2 this
  .intro n hn;have hl:=jQ hF hf hd td hd0;rw[gU (by omega)];exact Int.dvd_zero _
 refine hc.trans ?_;intro n;have:=hr n;rw[Int.sub_zero]at this;have e:act (bq p f d) (cf d) n+cf (bY p f d) n-act (bq p f d) (cf d) n=cf (bY p f d) n:=by omega
 rw[e];exact this
theorem mul_div(hp:0<p){q d e:List Int}(h:aP p (cf f) (act q (cf d)))(k:aY p e (cf q)):aY p (ax p d e) (cf f):=by obtain⟨s,hs⟩:=k;refine⟨s,h.trans ?_⟩;rw[dG];refine(hs.act d).trans ?_;rw[uO];exact((aU hp d e).symm).act s
theorem inv_pos{a:Int}(hF:aj p=true)(h0:0<a)(ha:a<p):0<bO p a/\bO p a<p:=by
 have h2:=au hF;have hi:=jL a h2;have hm:=inv_mul hF h0 ha;have:bO p a≠0:=by intro e;rw[e]at hm;simp at hm
 omega
theorem CJ(hF:aj p=true)(hn:av p num=true)(hd:av p den=true)(tn:Tr num)(td:Tr den)(hd0:den≠[]):0<iB p num den/\iB p num den<p:=by
 have h2:=au hF;have hml:=mV hF hn hd tn td hd0;have hme:av p (bW p num den)=true:=jh (by omega) hd _;have hmt:Tr (bW p num den):=mQ _ _ _;have hm0:bW p num den≠[]:=by intro e;rw[e]at hml;simp at hml
 have hb:=fU hme (show 0<p by omega) ((bW p num den).length-1);have hl:=hmt.last hm0;exact inv_pos hF (by omega) hb.2
theorem vS(hF:aj p=true)(hn:av p num=true)(hd:av p den=true)(tn:Tr num)(td:Tr den)(hd0:den≠[]):
 av p (aW p num den)=true/\av p (aT p num den)=true/\Tr (aW p num den)/\Tr (aT p num den)/\aT p num den≠[]/\(aW p num den).length<=num.length/\(aT p num den).length<=den.length/\cf (aT p num den) ((aT p num den).length-1)=1:=by
 have h2:=au hF;have hdl:=ana.2 hd0;by_cases hn0:num=[]
 .rw[aW,aT,amY hn0,amY hn0];exact⟨rfl,Ea h2,rfl,rfl,by simp,by simp,by simp;omega,rfl⟩
 .obtain⟨hml,hg1,hgd⟩:=mV hF hn hd tn td hd0;have hme:av p (bW p num den)=true:=jh (by omega) hd _;have hmt:Tr (bW p num den):=mQ _ _ _;have hm0:bW p num den≠[]:=by intro e;rw[e]at hml;simp at hml
  have hmon:=nX hF hme hmt hm0;have hLD:aT p num den=dm p (bW p num den):=by rw[aT,amZ hn0,iB,dm]
  have hby:=CJ hF hn hd tn td hd0;have hg0:=jM hF hn hd tn td (.inr hd0);have hge:=kr (p:=p) (show 0<p by omega) num den;have hgt:=lH p num den;have hnl:=ana.2 hn0;have hqe:av p (bq p num (bJ p num den))=true:=jh (by omega) hn _;have hqt:Tr (bq p num (bJ p num den)):=mQ _ _ _;refine⟨?_,?_,?_,?_,?_,?_,?_,?_⟩
  .rw[aW,amZ hn0];exact tN (iX p) (by omega) _ _
  .rw[aT,amZ hn0];exact tN (iX p) (by omega) _ _
  .rw[aW,amZ hn0];exact qF _ _ _ _
  .rw[aT,amZ hn0];exact qF _ _ _ _
  .intro e;rw[hLD]at e;have:=hmon.1;rw[e]at this;exact hm0 (aou this.symm)
  .rw[aW,amZ hn0,IX hF hby hqe hqt];have:=FB p num (bJ p num den);omega
  .rw[hLD,hmon.1,hml];omega
  .rw[hLD,hmon.1];exact hmon.2
theorem UU(hF:aj p=true)(hn:av p num=true)(hd:av p den=true)(tn:Tr num)(td:Tr den)(hd0:den≠[]):
 (bJ p (aW p num den) (aT p num den)).length=1:=by
 have h2:=au hF;have hp:0<p:=by omega
 by_cases hn0:num=[]
 .rw[aW,aT,amY hn0,amY hn0];have:=(FN hF (num:=[]) (den:=[1]) rfl (Ea h2) rfl rfl (by simp)).1 ⟨by rw[aW,amY rfl],by rw[aT,amY rfl]⟩;exact this.2
 .obtain⟨hNe,hDe,RO,hDt,hD0,_,_,_⟩:=vS hF hn hd tn td hd0;have hby:=CJ hF hn hd tn td hd0;have hg0:=jM hF hn hd tn td (.inr hd0);have hge:=kr (p:=p) hp num den;have hgt:=lH p num den;have hdiv:=qa hF hn hd tn td (.inr hd0);have WK:=qa hF hNe hDe RO hDt (.inr hD0);have hne':=jM hF hNe hDe RO hDt (.inr hD0);have hge':=kr (p:=p) hp (aW p num den) (aT p num den);have aeP:=lH p (aW p num den) (aT p num den);generalize hd':bJ p (aW p num den) (aT p num den)=d' at*;have hb:iB p num den*bO p (iB p num den)%p=1%p:=by
   rw[inv_mul hF hby.1 hby.2,anX (by omega) (by omega)]
  have eN:aW p num den=aR p (iB p num den) (bq p num (bJ p num den)):=by rw[aW,amZ hn0]
  have eD:aT p num den=aR p (iB p num den) (bq p den (bJ p num den)):=by rw[aT,amZ hn0,bW]
  have k1:aY p d' (cf (bq p num (bJ p num den))):=(vY hp hb _).trans (by rw[<-eN];exact WK.1);have k2:aY p d' (cf (bq p den (bJ p num den))):=(vY hp hb _).trans (by rw[<-eD];exact WK.2);have m1:=mul_div hp (qA hF hn hge hgt hg0 hdiv.1) k1;have m2:=mul_div hp (qA hF hd hge hgt hg0 hdiv.2) k2;have m3:=KL hF hn hd tn td (.inr hd0) m1 m2;have hlen:=tL hF hge hge' hgt aeP hg0 hne';have hpe:=jJ (p:=p) hp (bJ p num den) d';have hpt:Tr (ax p (bJ p num den) d'):=Tr.trim _;have l1:=ana.2 hg0;have l2:=ana.2 hne';have hp0:ax p (bJ p num den) d'≠[]:=by intro e;rw[e]at hlen;simp at hlen;omega
  obtain⟨q,_,_,hq0,_,hle⟩:=aY.le hF hpe hpt hp0 hge hgt hg0 m3;have l3:=ana.2 hq0;omega
theorem Fh(hF:aj p=true)(hl:f.length<=41)(he:av p f=true)(ht:Tr f):bC p f=true:=by
 simp only[bC,hF,he,anL,Bool.and_true,anx,aoI,decide_eq_true_eq];refine⟨hl,?_⟩;by_cases h:f=[]
 .left;rw[h];rfl
 .right;exact ht.last h
theorem M7(hF:aj p=true)(hn:av p num=true)(hd:av p den=true)(tn:Tr num)(td:Tr den)(hd0:den≠[]):
 aR p (iB p num den) (bq p num (bJ p num den))=aW p num den/\aR p (iB p num den) (bW p num den)=aT p num den:=by
 have h2:=au hF;have hdl:=ana.2 hd0;by_cases hn0:num=[]
 .obtain⟨hml,hg1,hgd⟩:=mV hF hn hd tn td hd0;have hme:av p (bW p num den)=true:=jh (by omega) hd _;have hmt:Tr (bW p num den):=mQ _ _ _;have hm0:bW p num den≠[]:=by intro e;rw[e]at hml;simp at hml
  have hmon:=nX hF hme hmt hm0;have hr:bY p [] den=[]:=by rw[bY,amY (by simpa using hdl)]
  have hE:jk p [] den=den:=by rw[m_ hF (iX p) hd Tr.nil td hd0,hr,uw]
  have hgl:=(mY hF hn hd tn td (.inr hd0)).1;rw[hn0,hE]at hgl;rw[hn0]at hg1 hgd hml hm0 hmon⊢;rw[aW,aT,amY rfl,amY rfl];refine⟨?_,?_⟩
  .rw[bq,amY (by simp;omega)];rfl
  .have e:aR p (iB p [] den) (bW p [] den)=dm p (bW p [] den):=by rw[iB,dm]
   rw[e];have l1:(bW p [] den).length=1:=by omega
   rw[l1]at hmon
   match hm:dm p (bW p [] den),hmon.1 with
   |[x],_=>have:=hmon.2;rw[hm]at this;simp[cf]at this;rw[this]
 .rw[aW,aT,amZ hn0,amZ hn0];exact⟨rfl,rfl⟩
structure fD (a b:Nat) (w w':World):Prop where
 os:w'.os=w.os
 tape:w'.tape=w.tape
 output:w'.output=w.output
 size:w.heap.size<=w'.heap.size
 block:∀k,k<w.heap.size->(k<a∨b<=k)->w'.heap[k]?=w.heap[k]?
theorem fD.refl(a b:Nat)(w:World):fD a b w w:=⟨rfl,rfl,rfl,amX _,λ_ _ _=>rfl⟩
theorem fD.trans{u v:World}(h:fD a b u v)(k:fD a b v w):fD a b u w:=
 ⟨k.os.trans h.os,k.tape.trans h.tape,k.output.trans h.output,anb h.size k.size,λi hi hn=>(k.block i (anq hi h.size) hn).trans (h.block i hi hn)⟩
theorem fD.aN{v:World}(h:Ex v w):fD a b v w:=⟨h.os,h.tape,h.output,h.size,λ_ hi _=>h.block hi⟩
theorem fD.widen{v:World}(h:fD a b v w)(ha:a'<=a)(hb:b<=b'):fD a' b' v w:=⟨h.os,h.tape,h.output,h.size,λk hk ho=>h.block k hk (by omega)⟩
theorem fD.XV{v:World}(h:wB (A.map Addr.block) v w)(hi:Hi a A)(hl:Lo A b):fD a b v w:=
 ⟨h.os,h.tape,h.output,h.size,λk hk ho=>h.block k hk (by
  intro e;cases hA:A with
  |none=>rw[hA]at e;cases e
  |some ad=>
   rw[hA]at e;injection e with e;have:=hi ad hA;have:=hl ad hA;omega)⟩
theorem Ex.iv{b v:World}{lo hi:Nat}(h:Ex b v)(k:fD lo hi v w)(hb:b.heap.size<=lo):Ex b w:=
 ⟨k.os.trans h.os,k.tape.trans h.tape,k.output.trans h.output,anb h.size k.size,λi hi=>(k.block i (anq hi h.size) (by omega)).trans (h.block hi)⟩
structure FI (w:World) (a b:Nat) (A:Option Addr) (c:Nat) (xs:List Int):Prop where
 fr:Fr w a A c xs
 lo:Lo A b
theorem FI.rd(h:FI w a b A c xs):Rd w A xs:=h.fr.rd
theorem FI.ex(h:FI w a b A c xs)(he:Ex w w'):FI w' a b A c xs:=⟨h.fr.ex he,h.lo⟩
theorem FI.iv(h:FI w a b A c xs)(k:fD a' b' w w')(hd:b<=a'∨b'<=a):FI w' a b A c xs:=
 have hk:∀ad:Addr,A=some ad->ad.block<w.heap.size->w'.heap[ad.block]?=w.heap[ad.block]?:=λad e hl=>k.block _ hl (by
  have:=h.lo ad e;have:=h.fr.hi ad e;omega)
 ⟨⟨h.fr.rd.keep hk,h.fr.cap,λad e=>by
  obtain⟨h1,cur,h2⟩:=h.fr.2.2 ad e;exact⟨h1,cur,(hk ad e (aC h2)).trans h2⟩⟩,h.lo⟩
theorem FI.more(h:FI w a b A c xs)(ha:a'<=a)(hb:b<=b'):FI w a' b' A c xs:=⟨h.fr.more ha,h.lo.mono hb⟩
theorem Fr.fi(h:Fr w a A c xs):FI w a w.heap.size A c xs:=⟨h,h.lo⟩
theorem VB.iv{g:Nat}{t:TypeId}{cs:Array Value}(h:VB w g t cs)(k:fD a b w w')(hd:g<a∨b<=g):VB w' g t cs:=(k.block g h.lt hd).trans h
theorem I_(a b:Nat)(A:Option Addr)(c:Nat)(xs:List Int)(k:Int)(w:World)(h:FI w a b A c xs)(hk0:0<=k)(hk:k<=4611686018427387904):
 Calls prog 34 #[.slice A xs.length c,.int .i64 k] w λe w'=>e=.returned (.int .i64 (k+(xs.length:Int)))/\FI w' a b A c (mk k xs.length)/\fD a b w w':=
 (Ja a A c xs k w h.fr hk0 hk).mono λ_ _ ⟨h1,h2,h3⟩=>⟨h1,⟨h2,h.lo⟩,fD.XV h3 h.fr.hi h.lo⟩
end Go.Proofs.YtekcehkhdjoffaaGreatDoor
