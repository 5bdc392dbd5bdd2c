/- Lemmas and walks on terms over rational functions: Contracts of the functions on fields and lists .. -/
import Derived.Test.YthgiffhlfcmgaaaGreatDoorQ00
import Derived.StillTailTactics
import Derived.Laws.CopyOwn
import Derived.RegionCalls
import Derived.Deep.RegionWith
namespace Go.Proofs.YthgiffhlfcmgaaaGreatDoor
open List(replicate)
open Tryz(prog)
set_option maxRecDepth 100000
set_option maxHeartbeats 8000000
set_option linter.all false
open Go Go.RowKit
variable{a x:Int}{xs:List Int}{k:Nat}{w:World}
def Tb(w:World):Prop:=w.cell? ⟨0,0,none⟩=some (.int .i64 2)/\w.cell? ⟨0,1,none⟩=some (.int .i64 3)/\w.cell? ⟨0,2,none⟩=some (.int .i64 5)/\w.cell? ⟨0,3,none⟩=some (.int .i64 7)
theorem Tb.ex{w':World}(h:Tb w)(he:Ex w w'):Tb w':=by obtain⟨h0,h1,h2,h3⟩:=h;have hb:=he.block (jC h0);exact⟨(axP (w:=w) (a:=⟨0,0,none⟩) hb).trans h0,(axP (w:=w) (a:=⟨0,1,none⟩) hb).trans h1,(axP (w:=w) (a:=⟨0,2,none⟩) hb).trans h2,(axP (w:=w) (a:=⟨0,3,none⟩) hb).trans h3⟩
theorem aI{a b:Bool}(h:a=b):Ending.returned (.bool a)=.returned (.bool b):=by rw[h]
theorem yC{k:IntKind}{b:Int}(h:a=b):Ending.returned (.int k a)=.returned (.int k b):=by rw[h]
theorem BL(p a:Int)(w:World):Calls prog 214 #[.int .i64 p,.int .i64 a] w λe w'=>e=.returned (.bool (iF p a))/\w=w':=by
 go_enter Tryz.func214,Tryz.ntmps214
 go_wp2
 all_goals go_ret
 all_goals exact⟨aI (by simp[iF];try omega),rfl⟩
theorem lH(n lo hi:Int)(w:World):Calls prog 79 #[.int .i64 n,.int .i64 lo,.int .i64 hi] w λe w'=>e=.returned (.bool (bL lo hi n))/\w=w':=by
 go_enter Tryz.func79,Tryz.ntmps79
 go_wp2
 all_goals go_ret
 all_goals exact⟨aI (by simp[bL];try omega),rfl⟩
theorem jA(p:Int)(w:World)(ht:Tb w):Calls prog 47 #[.int .i64 p] w λe w'=>e=.returned (.bool (av p))/\w=w':=by
 obtain⟨h0,h1,h2,h3⟩:=ht;by_cases hlo:p<2
 .go_enter Tryz.func47,Tryz.ntmps47
  go_wp2
  all_goals go_ret
  all_goals exact⟨aI (by simp[av];omega),rfl⟩
 by_cases hhi:97<p
 .go_enter Tryz.func47,Tryz.ntmps47
  go_wp2
  all_goals go_ret
  all_goals exact⟨aI (by simp[av];omega),rfl⟩
 have i0:∀W:World,(Instr.index 102 (.agg #[.int .i64 2,.int .i64 3,.int .i64 5,.int .i64 7]) (.int .i64 0)).run prog W=.ok (.int .i64 2) W:=λ_=>by kernel_rfl
 have i1:∀W:World,(Instr.index 102 (.agg #[.int .i64 2,.int .i64 3,.int .i64 5,.int .i64 7]) (.int .i64 1)).run prog W=.ok (.int .i64 3) W:=λ_=>by kernel_rfl
 have i2:∀W:World,(Instr.index 102 (.agg #[.int .i64 2,.int .i64 3,.int .i64 5,.int .i64 7]) (.int .i64 2)).run prog W=.ok (.int .i64 5) W:=λ_=>by kernel_rfl
 have i3:∀W:World,(Instr.index 102 (.agg #[.int .i64 2,.int .i64 3,.int .i64 5,.int .i64 7]) (.int .i64 3)).run prog W=.ok (.int .i64 7) W:=λ_=>by kernel_rfl
 go_enter Tryz.func47,Tryz.ntmps47
 go_wp2;refine wp_loop_rounds 5 ?_
 iterate 5 (all_goals (try (rw[rounds_succ];go_wp2)))
 all_goals go_ret
 all_goals refine⟨aI ?_,rfl⟩
 all_goals simp_all [av]
 all_goals omega
theorem mI(p:Int)(w:World):Calls prog 69 #[.int .i64 p] w λe w'=>e=.returned (.bool (av p))/\w=w':=by
 cases hin:bL 2 97 p with
 |false=>
  have hf:av p=false:=by simp[bL]at hin;simp[av];omega
  go_enter Tryz.func69,Tryz.ntmps69
  go_wp2_with (go_at_call 79;refine(lH _ _ _ _).mono ?_;rintro e w' ⟨rfl,rfl⟩)
  go_ret;exact⟨aI (by rw[hf]),rfl⟩
 |true=>
  have hr:2<=p/\p<=97:=by simpa[bL]using hin
  obtain⟨h2,h97⟩:=hr;go_enter Tryz.func69,Tryz.ntmps69
  go_wp2_with (go_at_call 79;refine(lH _ _ _ _).mono ?_;rintro e w' ⟨rfl,rfl⟩)
  have H:=axj hin;clear hin
  go_loop [3] (λi=>∃k:Nat,2<=k/\k<=10/\(∀j:Nat,2<=j->j<k->p%(j:Int)≠0)/\i=.int .i64 k) (λi=>10-(intOf i).toNat)
  case atStart=>exact⟨2,by omega,by omega,λj _ _=>by omega,rfl⟩
  case round=>
   obtain⟨k,hk2,hk10,hall,rfl⟩:=hrel;have hkm:(k:Int)*(k:Int)<=10*10:=Int.mul_le_mul (by omega) (by omega) (by omega) (by omega);have hk0:0<=(k:Int)*(k:Int):=Int.mul_nonneg (by omega) (by omega);have fH:=axj hall;clear hall;by_cases hlt:(k:Int)*(k:Int)<=p
   .by_cases hm:p%(k:Int)=0
    .have hf:=axj (Wu h2 h97 k hk2 hlt hm);go_wp2;go_ret;exact⟨aI (by rw[hf.out]),rfl⟩
    .have hk9:k<10:=by
      rcases ax9 k 10 with h|h
      .exact h
      .have:(10:Int)*10<=(k:Int)*(k:Int):=Int.mul_le_mul (by omega) (by omega) (by omega) (by omega);omega
     have hne:(p%(k:Int)==0)=false:=by simpa using hm
     go_wp2
     go_round
     case rel=>exact⟨k+1,by omega,by omega,λj h1 h3=>by
      rcases ax9 j k with h|h
      .exact fH.out j h1 h
      .obtain rfl:j=k:=by omega
       exact hm,by go_num⟩
     case measure=>simp[intOf];omega
   .have hf:=axj (RO h2 h97 k (by omega) fH.out);go_wp2;go_ret;exact⟨aI (by rw[hf.out]),rfl⟩
theorem CV(n:Nat)(hn:n<=1099511627776)(w:World):Calls prog 180 #[.int .i64 n] w λe w'=>∃g,e=.returned (.slice (some ⟨g,0,none⟩) n n)/\w.heap.size<=g/\dW w' g (replicate n 0)/\Ex w w':=by
 have hmk:=λW=>fe n hn W
 go_enter Tryz.func180,Tryz.ntmps180
 go_wp2;go_ret;exact⟨_,rfl,axk _,dW.new w _,(aCQ w).alloc _⟩
theorem wU{p:Int->Bool}(hx:xs[k]?=some x)(ha:(xs.take k).all p=true)(hp:p x=true):(xs.take (k+1)).all p=true:=by rw[axy,hx];simp[ha,hp]
theorem zQ{p:Int->Bool}(hx:xs[k]?=some x)(hp:p x=false):xs.all p=false:=
 ayJ.2 ⟨x,axo hx,by simp[hp]⟩
theorem xI(p:Int)(A:Option Addr)(c:Nat)(xs:List Int)(n:Int)(w:World)(h:Rd w A xs):
 Calls prog 213 #[.int .i64 p,.slice A xs.length c,.int .i64 n] w λe w'=>e=.returned (.bool (decide ((xs.length:Int)=n)&&aA p xs))/\w=w':=by
 have hl:=h.len;by_cases hn:(xs.length:Int)=n
 .subst hn;go_enter Tryz.func213,Tryz.ntmps213
  go_wp2
  go_loop [15] (λi=>∃k:Nat,k<=xs.length/\(xs.take k).all (iF p)=true/\i=.int .i64 k) (λi=>xs.length-(intOf i).toNat)
  case atStart=>exact⟨0,axq _,rfl,rfl⟩
  case round=>
   obtain⟨k,hk,hall,rfl⟩:=hrel;have fH:=axj hall;clear hall;by_cases hlt:k<xs.length
   .obtain⟨g,off,x,rfl,hx,hg,hc⟩:=h.at_ hlt;have Hx:=axj hx;clear hx;cases hel:iF p x with
    |true=>
     have CR:=axj hel;go_wp2_with (go_at_call 214;refine(BL _ _ _).mono ?_;rintro e w' ⟨rfl,rfl⟩)
     go_round
     case rel=>exact⟨k+1,by omega,wU Hx.out fH.out CR.out,by go_num⟩
     case measure=>simp[intOf];omega
    |false=>
     have CR:=axj hel;go_wp2_with (go_at_call 214;refine(BL _ _ _).mono ?_;rintro e w' ⟨rfl,rfl⟩)
     go_ret;exact⟨aI (by simp[aA,zQ Hx.out CR.out]),rfl⟩
   .obtain rfl:k=xs.length:=by omega
    go_wp2;go_ret;exact⟨aI (by have:=fH.out;rw[axE]at this;simp[aA,this]),rfl⟩
 .have hn':((xs.length:Int) !=n)=true:=by simpa using hn
  go_enter Tryz.func213,Tryz.ntmps213
  go_wp2;go_ret;exact⟨aI (by simp[hn]),rfl⟩
theorem yY(A:Option Addr)(c:Nat)(xs:List Int)(lo hi:Int)(w:World)(h:Rd w A xs):
 Calls prog 210 #[.slice A xs.length c,.int .i64 lo,.int .i64 hi] w λe w'=>e=.returned (.bool (xs.all (bL lo hi)))/\w=w':=by
 have hl:=h.len;go_enter Tryz.func210,Tryz.ntmps210
 go_wp2
 go_loop [11] (λi=>∃k:Nat,k<=xs.length/\(xs.take k).all (bL lo hi)=true/\i=.int .i64 k) (λi=>xs.length-(intOf i).toNat)
 case atStart=>exact⟨0,axq _,rfl,rfl⟩
 case round=>
  obtain⟨k,hk,hall,rfl⟩:=hrel;have fH:=axj hall;clear hall;by_cases hlt:k<xs.length
  .obtain⟨g,off,x,rfl,hx,hg,hc⟩:=h.at_ hlt;have Hx:=axj hx;clear hx;cases hel:bL lo hi x with
   |true=>
    have CR:=axj hel;go_wp2_with (go_at_call 79;refine(lH _ _ _ _).mono ?_;rintro e w' ⟨rfl,rfl⟩)
    go_round
    case rel=>exact⟨k+1,by omega,wU Hx.out fH.out CR.out,by go_num⟩
    case measure=>simp[intOf];omega
   |false=>
    have CR:=axj hel;go_wp2_with (go_at_call 79;refine(lH _ _ _ _).mono ?_;rintro e w' ⟨rfl,rfl⟩)
    go_ret;exact⟨aI (by rw[zQ Hx.out CR.out]),rfl⟩
  .obtain rfl:k=xs.length:=by omega
   go_wp2;go_ret;exact⟨aI (by have:=fH.out;rw[axE]at this;rw[this]),rfl⟩
theorem RJ(p:Int)(A:Option Addr)(c:Nat)(xs:List Int)(w:World)(h:Rd w A xs)(h2:2<=p)(h97:p<=97):
 Calls prog 201 #[.int .i64 p,.slice A xs.length c] w λe w'=>e=.returned (.bool (aA p xs))/\w=w':=by
 go_enter Tryz.func201,Tryz.ntmps201
 go_wp2_with (go_at_call 210;refine(yY _ _ _ _ _ _ h).mono ?_;rintro e w' ⟨rfl,rfl⟩)
 go_ret;exact⟨aI (by rw[afW];rfl),rfl⟩
theorem jb(n lo hi:Int)(w:World):Calls prog 82 #[.int .i64 n,.int .i64 lo,.int .i64 hi] w λe w'=>e=.returned (.bool (bL lo hi n))/\w=w':=by
 go_enter Tryz.func82,Tryz.ntmps82
 go_wp2
 all_goals go_ret
 all_goals exact⟨aI (by simp[bL];try omega),rfl⟩
theorem LB{p:Int}(hp:0<p):(if a.tmod p<0 then a.tmod p+p else a.tmod p)=a%p:=by rw[Int.tmod_eq_emod];have h1:=ayh a (show p≠0 by omega);have h2:=ayi a hp;split<;>split<;>omega
theorem P9{p:Int}(hp:0<p): -p<=a.tmod p/\a.tmod p<p:=by have:=LB (a:=a) hp;have h1:=ayh a (show p≠0 by omega);have h2:=ayi a hp;split at this<;>omega
theorem aiM(p a:Int)(w:World)(h2:2<=p)(h97:p<=97):Calls prog 203 #[.int .i64 p,.int .i64 a] w λe w'=>e=.returned (.int .i64 (a%p))/\w=w':=by
 have hp0:¬p=0:=by omega
 have hm:=LB (a:=a) (p:=p) (by omega);have hr:=P9 (a:=a) (p:=p) (by omega);by_cases hneg:a.tmod p<0
 .rw[axl hneg]at hm;have Hm:=axj hm;clear hm;go_enter Tryz.func203,Tryz.ntmps203
  go_wp2;go_ret;exact⟨yC Hm.out,rfl⟩
 .rw[axm hneg]at hm;have Hm:=axj hm;clear hm;go_enter Tryz.func203,Tryz.ntmps203
  go_wp2;go_ret;exact⟨yC Hm.out,rfl⟩
theorem v_(p a b:Int)(w:World)(h2:2<=p)(ha:0<=a/\a<=96)(hb:0<=b/\b<=96):Calls prog 144 #[.int .i64 p,.int .i64 a,.int .i64 b] w λe w'=>e=.returned (.int .i64 (a*b%p))/\w=w':=by
 have hm:=sD ha hb;go_enter Tryz.func144,Tryz.ntmps144
 go_wp2;go_ret;exact⟨rfl,rfl⟩
theorem Kt(p a b:Int)(w:World)(h2:2<=p)(ha:0<=a/\a<=96)(hb:0<=b/\b<=96):Calls prog 194 #[.int .i64 p,.int .i64 a,.int .i64 b] w λe w'=>e=.returned (.int .i64 ((a+b)%p))/\w=w':=by
 go_enter Tryz.func194,Tryz.ntmps194
 go_wp2;go_ret;exact⟨rfl,rfl⟩
theorem Uf(p a b:Int)(w:World)(h2:2<=p)(h97:p<=97)(ha:0<=a/\a<=96)(hb:0<=b/\b<=p):Calls prog 199 #[.int .i64 p,.int .i64 a,.int .i64 b] w λe w'=>e=.returned (.int .i64 ((a-b)%p))/\w=w':=by
 have e:(a+p-b)%p=(a-b)%p:=by rw[show a+p-b=(a-b)+p by omega,Int.add_emod_right]
 have E:=axj e;clear e;go_enter Tryz.func199,Tryz.ntmps199
 go_wp2;go_ret;exact⟨yC E.out,rfl⟩
theorem aeP(b:Bool)(w:World):Calls prog 206 #[.bool b] w λe w'=>e=.returned (.int .i64 (if b then 1 else 0))/\w=w':=by
 cases b
 all_goals
  go_enter Tryz.func206,Tryz.ntmps206
  go_wp2;go_ret;exact⟨rfl,rfl⟩
theorem YF(p a:Int)(n:Nat)(o:Int):(if n%2=1 then o*a%p else o)*(a*a%p)^(n / 2)%p=o*a^n%p:=by
 have e1:(a*a%p)^(n / 2)%p=(a*a)^(n / 2)%p:=by
  generalize n / 2=m
  induction m with
  |zero=>simp
  |succ m ih=>rw[azp,azp,aym,ih,ayQ,<-aym]
 have e2:(a*a)^(n / 2)=a^(2*(n / 2)):=by
  generalize n / 2=m
  induction m with
  |zero=>simp
  |succ m ih=>rw[azp,ih,show 2*(m+1)=2*m+1+1 by omega,azp,azp,ayR]
 split
 .rename_i h;rw[aym,e1,ayQ,<-aym,e2,ayR,<-Int.pow_succ',show 2*(n / 2)+1=n by omega]
 .rw[aym,e1,<-aym,e2,show 2*(n / 2)=n by omega]
theorem Td(p a n:Int)(w:World)(h2:2<=p)(h97:p<=97)(ha:0<=a/\a<p)(hn:0<=n)(hn2:n<=1000000):Calls prog 205 #[.int .i64 p,.int .i64 a,.int .i64 n] w λe w'=>e=.returned (.int .i64 (a^n.toNat%p))/\w=w':=by
 have h1:(1:Int)%p=1:=ayl (by omega) (by omega);go_enter Tryz.func205,Tryz.ntmps205
 go_wp2
 go_loop [1,2,7] (λx m o=>∃(x' o':Int) (m':Nat),x=.int .i64 x'/\m=.int .i64 m'/\o=.int .i64 o'/\0<=x'/\x'<p/\0<=o'/\o'<p/\m'<=1000000/\o'*x'^m'%p=a^n.toNat%p) (λ_ m _=>(intOf m).toNat)
 case atStart=>exact⟨a,1,n.toNat,rfl,by rw[Int.toNat_of_nonneg hn],by rw[h1],ha.1,ha.2,by omega,by omega,by omega,by rw[Int.one_mul]⟩
 case round=>
  obtain⟨x,o,m,rfl,rfl,rfl,hx0,hxp,ho0,hop,hm,he⟩:=hrel;have hox:=sD (x:=o) (y:=x) ⟨by omega,by omega⟩ ⟨by omega,by omega⟩;have hxx:=sD (x:=x) (y:=x) ⟨by omega,by omega⟩ ⟨by omega,by omega⟩;have hh:=YF p x m o;have r1:=ayh (x*x) (show p≠0 by omega);have r2:=ayi (x*x) (show 0<p by omega);have r3:=ayh (o*x) (show p≠0 by omega);have r4:=ayi (o*x) (show 0<p by omega);have He:=axj he;have Hh:=axj hh;have H1:=axj h1;clear he hh h1;by_cases hm0:m=0
  .subst hm0;go_wp2;go_ret;have:=He.out;rw[Int.pow_zero,Int.mul_one,ayl ho0 hop]at this;exact⟨yC this,rfl⟩
  .by_cases hodd:m%2=1
   .have hb:((m:Int)%2==1)=true:=by simp;omega
    go_wp2
    go_round
    case rel=>exact⟨x*x%p,o*x%p,m / 2,rfl,by go_num,rfl,r1,r2,r3,r4,by omega,by rw[<-He.out,<-Hh.out,axl hodd]⟩
    case measure=>simp[intOf];omega
   .have hb:((m:Int)%2==1)=false:=by simp;omega
    go_wp2
    go_round
    case rel=>exact⟨x*x%p,o,m / 2,rfl,by go_num,rfl,r1,r2,ho0,hop,by omega,by rw[<-He.out,<-Hh.out,axm hodd]⟩
    case measure=>simp[intOf];omega
theorem qO(p a:Int)(w:World)(h2:2<=p)(h97:p<=97)(ha:0<=a/\a<p):Calls prog 185 #[.int .i64 p,.int .i64 a] w λe w'=>e=.returned (.int .i64 (dh p a))/\w=w':=by
 by_cases hp:p=2
 .subst hp;go_enter Tryz.func185,Tryz.ntmps185
  go_wp2_with (first|(go_at_call 206;refine(aeP _ _).mono ?_;rintro e w' ⟨rfl,rfl⟩)|(go_at_call 205;refine(Td _ _ _ _ (by omega) (by omega) ha (by simp) (by simp)).mono ?_;rintro e w' ⟨rfl,rfl⟩))
  go_ret;exact⟨rfl,rfl⟩
 .have hb:(p==2)=false:=by simpa using hp
  have he:dh p a=a^(p-2+0).toNat%p:=by rw[dh,axm hp]
  have He:=axj he;clear he;go_enter Tryz.func185,Tryz.ntmps185
  go_wp2_with (first|(go_at_call 206;refine(aeP _ _).mono ?_;rintro e w' ⟨rfl,rfl⟩)|(go_at_call 205;refine(Td _ _ _ _ h2 h97 ha (by omega) (by omega)).mono ?_;rintro e w' ⟨rfl,rfl⟩))
  go_ret;exact⟨by rw[He.out];simp,rfl⟩
theorem zG(p a:Int)(w:World)(hf:av p=true)(ha:0<a/\a<p):Calls prog 193 #[.int .i64 p,.int .i64 a] w λe w'=>e=.returned (.int .i64 (dh p a))/\w=w':=by
 have h2:=ax hf;have h97:=aT hf;have hb:=(NH hf ha.1 ha.2).2;have Hb:=axj hb;clear hb hf;go_enter Tryz.func193,Tryz.ntmps193
 go_wp2
 go_loop [5] (λx=>∃k:Nat,1<=k/\(k:Int)<=p/\x=.int .i64 k/\invS p a (p-k).toNat k=dh p a) (λx=>(p-intOf x).toNat)
 case atStart=>exact⟨1,by omega,by omega,rfl,Hb.out⟩
 case round=>
  obtain⟨k,hk1,hkp,rfl,he⟩:=hrel;have He:=axj he;clear he;by_cases hlt:(k:Int)<p
  .have hak:=sD (x:=a) (y:=(k:Int)) ⟨by omega,by omega⟩ ⟨by omega,by omega⟩;have e1:(p-(k:Int)).toNat=(p-((k+1:Nat):Int)).toNat+1:=by omega
   by_cases h1:a*(k:Int)%p=1
   .have hres:dh p a=(k:Int):=by rw[<-He.out,e1,invS,axl h1]
    have abd:=axj hres;have hb1:(a*(k:Int)%p==1)=true:=by simpa using h1
    clear hres h1 e1;go_wp2;go_ret;exact⟨by rw[abd.out];rfl,rfl⟩
   .have hres:invS p a (p-((k+1:Nat):Int)).toNat ((k+1:Nat):Int)=dh p a:=by
     have:=He.out;rw[e1,invS,axm h1]at this;exact this
    have abd:=axj hres;have hb1:(a*(k:Int)%p==1)=false:=by simpa using h1
    clear hres h1 e1;go_wp2
    go_round
    case rel=>exact⟨k+1,by omega,by omega,by go_num,abd.out⟩
    case measure=>simp[intOf];omega
  .have hres:dh p a=0:=by rw[<-He.out,show(p-(k:Int)).toNat=0 by omega];rfl
   have abd:=axj hres;clear hres;go_wp2;go_ret;exact⟨by rw[abd.out];rfl,rfl⟩
theorem Zq(a b:Int)(w:World):Calls prog 200 #[.int .i64 a,.int .i64 b] w λe w'=>e=.returned (.int .i64 (max a b))/\w=w':=by
 go_enter Tryz.func200,Tryz.ntmps200
 go_wp2
 all_goals go_ret
 all_goals exact⟨yC (by omega),rfl⟩
theorem zI(A:Option Addr)(c n:Nat)(w:World)(hn:n<=1099511627776):Calls prog 191 #[.slice A n c] w λe w'=>e=.returned (.int .i64 ((n:Int)-1))/\w=w':=by
 go_enter Tryz.func191,Tryz.ntmps191
 go_wp2;go_ret;exact⟨rfl,rfl⟩
theorem zK(A:Option Addr)(c:Nat)(xs:List Int)(w:World)(h:Rd w A xs):
 Calls prog 134 #[.slice A xs.length c] w λe w'=>∃g c',e=.returned (.slice (some ⟨g,0,none⟩) xs.length c')/\xs.length<=c'/\w.heap.size<=g/\Own w' g xs/\Ex w w':=by
 have hl:=h.len;have hal:AL (w.alloc (.cells #[] 3)) w.heap.size (.slice (some ⟨w.heap.size,0,none⟩) 0 0) []:=AL.empty w (axk _);obtain⟨v',w1,hrun,hv,hx,hb⟩:=bK 55 55 Tryz.underlying55 _ _ _ _ hal (by simp) A c xs (h.ex ((aCQ w).alloc _)) (by simpa using hl);have hex:Ex w w1:=((aCQ w).alloc (.cells #[] 3)).Og hx (λg e=>by simp[Value.ownBlock]at e;omega);obtain⟨A',c',rfl,hf⟩:=hv.form (by simpa using hl);rw[ayz]at hf hv;have hA:∃g,A'=some ⟨g,0,none⟩:=by
  rcases hv.2 with⟨e,_⟩|⟨g,cap,cur,e,_⟩
  .injection e with e1 _ _;subst e1;rcases hb with hb|hb<;>simp[Value.ownBlock]at hb
  .injection e with e1 _ _;exact⟨g,e1⟩
 obtain⟨g,rfl⟩:=hA;obtain⟨_,_,hc,hg,ho⟩:=hv.own;go_enter Tryz.func134,Tryz.ntmps134
 go_wp2_with (at_builtin;refine wpList_append_run rfl _ _ _ rfl rfl rfl hrun ?_)
 go_ret;exact⟨g,c',rfl,hc,hg,ho,hex⟩
theorem kR(A:Option Addr)(c:Nat)(xs:List Int)(w:World)(h:Rd w A xs):
 Calls prog 45 #[.slice A xs.length c] w λe w'=>∃g c',e=.returned (.slice (some ⟨g,0,none⟩) xs.length c')/\xs.length<=c'/\w.heap.size<=g/\Own w' g xs/\Ex w w':=by
 have hl:=h.len;have hal:AL (w.alloc (.cells #[] 3)) w.heap.size (.slice (some ⟨w.heap.size,0,none⟩) 0 0) []:=AL.empty w (axk _);obtain⟨v',w1,hrun,hv,hx,hb⟩:=bK 55 55 Tryz.underlying55 _ _ _ _ hal (by simp) A c xs (h.ex ((aCQ w).alloc _)) (by simpa using hl);have hex:Ex w w1:=((aCQ w).alloc (.cells #[] 3)).Og hx (λg e=>by simp[Value.ownBlock]at e;omega);obtain⟨A',c',rfl,hf⟩:=hv.form (by simpa using hl);rw[ayz]at hf hv;have hA:∃g,A'=some ⟨g,0,none⟩:=by
  rcases hv.2 with⟨e,_⟩|⟨g,cap,cur,e,_⟩
  .injection e with e1 _ _;subst e1;rcases hb with hb|hb<;>simp[Value.ownBlock]at hb
  .injection e with e1 _ _;exact⟨g,e1⟩
 obtain⟨g,rfl⟩:=hA;obtain⟨_,_,hc,hg,ho⟩:=hv.own;go_enter Tryz.func45,Tryz.ntmps45
 go_wp2_with (at_builtin;refine wpList_append_run rfl _ _ _ rfl rfl rfl hrun ?_)
 go_ret;exact⟨g,c',rfl,hc,hg,ho,hex⟩
theorem H7(h:xs[k]?=some 0):trim (xs.take (k+1))=trim (xs.take k):=by rw[axy,h];exact DJ _
theorem Hw(h:xs[k]?=some x)(hx:x≠0):trim (xs.take (k+1))=xs.take (k+1):=by rw[axy,h];exact H6 _ hx
theorem UK(A:Option Addr)(c:Nat)(xs:List Int)(w:World)(h:Rd w A xs)(hc:xs.length<=c):
 Calls prog 182 #[.slice A xs.length c,.int .i64 0] w λe w'=>e=.returned (.slice A (trim xs).length (trim xs).length)/\w=w':=by
 have hl:=h.len;go_enter Tryz.func182,Tryz.ntmps182
 go_wp2
 go_loop [5] (λn=>∃k:Nat,k<=xs.length/\n=.int .i64 k/\trim (xs.take k)=trim xs) (λn=>(intOf n).toNat)
 case atStart=>exact⟨_,axk _,rfl,by rw[axE]⟩
 case round=>
  obtain⟨k,hk,rfl,ht⟩:=hrel;have Ht:=axj ht;clear ht;cases k with
  |zero=>
   have hz:(trim xs).length=0:=by rw[<-Ht.out];rfl
   have Hz:=axj hz;clear hz;go_wp2;go_ret;exact⟨by rw[Hz.out];rfl,rfl⟩
  |succ k=>
   obtain⟨g,off,x,rfl,hx,hg,hcell⟩:=h.at_ (by omega:k<xs.length);by_cases h0:x=0
   .subst h0;have hn:=(H7 hx).symm.trans Ht.out;have Hn:=axj hn;clear hn hx;go_wp2
    go_round
    case rel=>exact⟨k,by omega,rfl,Hn.out⟩
    case measure=>simp[intOf]
   .have hn:(trim xs).length=k+1:=by rw[<-Ht.out,Hw hx h0,axx];omega
    have Hn:=axj hn;have hb:(x==0)=false:=by simpa using h0
    clear hn hx;go_wp2;go_ret;exact⟨by rw[Hn.out];simp,rfl⟩
theorem uY(A:Option Addr)(c n:Nat)(xs:List Int)(w:World)(h:Rd w A xs)(hn:xs.length=n)(hc:n<=c):
 Calls prog 182 #[.slice A n c,.int .i64 0] w λe w'=>e=.returned (.slice A (trim xs).length (trim xs).length)/\w=w':=by
 subst hn;exact UK A c xs w h hc
theorem nV(A:Option Addr)(c:Nat)(xs:List Int)(w:World)(h:Rd w A xs)(hc:xs.length<=c):
 Calls prog 145 #[.slice A xs.length c] w λe w'=>∃g c',e=.returned (.slice (some ⟨g,0,none⟩) (trim xs).length c')/\(trim xs).length<=c'/\w.heap.size<=g/\Own w' g (trim xs)/\Ex w w':=by
 have hl:=h.len;have htl:=iY xs;have hrd:Rd w A (trim xs):=by rw[qi];exact h.take _
 go_enter Tryz.func145,Tryz.ntmps145
 go_wp2
 go_loop [3] (λn=>∃k:Nat,k<=xs.length/\n=.int .i64 k/\trim (xs.take k)=trim xs) (λn=>(intOf n).toNat)
 case atStart=>exact⟨_,axk _,rfl,by rw[axE]⟩
 case round=>
  obtain⟨k,hk,rfl,ht⟩:=hrel;have Ht:=axj ht;clear ht;cases k with
  |zero=>
   have hz:trim xs=[]:=by rw[<-Ht.out];rfl
   rw[hz]at hrd;have Hz:=axj hz;clear hz htl;go_wp2_with fail
   refine(kR A c [] w hrd).mono ?_;rintro e w1 ⟨g,c',rfl,h1,h2,h3,h4⟩;go_wp2;go_ret;exact⟨g,c',by rw[Hz.out];rfl,by rw[Hz.out];exact h1,h2,by rw[Hz.out];exact h3,h4⟩
  |succ k=>
   obtain⟨g,off,x,rfl,hx,hg,hcell⟩:=h.at_ (by omega:k<xs.length);by_cases h0:x=0
   .subst h0;have hn:=(H7 hx).symm.trans Ht.out;have Hn:=axj hn;clear hn hx;go_wp2_with fail
    go_round
    case rel=>exact⟨k,by omega,rfl,Hn.out⟩
    case measure=>simp[intOf]
   .have hn:(trim xs).length=k+1:=by rw[<-Ht.out,Hw hx h0,axx];omega
    have Hn:=axj hn;have hb:(x==0)=false:=by simpa using h0
    clear hn hx;go_wp2_with fail
    rw[<-Hn.out];refine(kR _ c (trim xs) w hrd).mono ?_;rintro e w1 ⟨g',c',rfl,h1,h2,h3,h4⟩;go_wp2;go_ret;exact⟨g',c',rfl,h1,h2,h3,h4⟩
theorem uU(p:Int)(g s n c:Nat)(xs:List Int)(b:Int)(A:Option Addr)(d:Nat)(ys:List Int)(w:World)(ho:Own w g xs)(hn:s+n<=xs.length)(h:Rd w A ys)(hy:ys.length<=n)(hoff:ys≠[]->Off A g)
 (h2:2<=p) (h97:p<=97) (hxe:aA p xs=true) (hye:aA p ys=true) (hb: -10000<=b/\b<=10000):
 Calls prog 181 #[.int .i64 p,.slice (some ⟨g,s,none⟩) n c,.int .i64 b,.slice A ys.length d] w λe w'=>e=.returned (.tuple #[])/\Own w' g (bI p xs s b ys)/\aM g w w':=by
 have hl:=h.len;have Hxe:=axj hxe;have Hye:=axj hye;clear hxe hye;go_enter Tryz.func181,Tryz.ntmps181
 go_wp2;go_loopw [12] (λi wr=>∃k:Nat,k<=ys.length/\i=.int .i64 k/\Own wr g (bI p xs s b (ys.take k))/\aM g w wr) (λi _=>ys.length-(intOf i).toNat)
 case atStart=>exact⟨0,axq _,rfl,by rw[ayF,ru];exact ho,aM.refl _ _⟩
 case round=>
  obtain⟨k,hk,rfl,hok,hek⟩:=hrel;by_cases hlt:k<ys.length
  .obtain⟨g',off,y,rfl,hyk,hg',hcell⟩:=(h.aK hek (hoff (by intro e;subst e;simp at hlt))).at_ hlt;have hcf:(bI p xs s b (ys.take k))[s+k]?=some (cf xs (s+k)):=uW (by omega) (by simp;omega);have hcx:=hok.cell hcf;have hfz:=hok.frozen (s+k);have hbx:=iO Hxe.out (by omega) (s+k);have hby:=bg Hye.out hyk;have hso:=hok.bC (s+k) ((cf xs (s+k)+b*y)%p);have hcy:cf ys k=y:=jY hyk;rw[<-hcy,tH p xs s b ys k hlt,hcy]at hso;have hmb: -960000<=b*y/\b*y<=960000:=by
    have m1:=Int.mul_le_mul_of_nonneg_right hb.1 hby.1;have m2:=Int.mul_le_mul_of_nonneg_right hb.2 hby.1;omega
   generalize cf xs (s+k)=x at*;clear hcf hyk hcy;go_wp2_with (go_at_call 203;refine(aiM _ _ _ h2 h97).mono ?_;rintro e w' ⟨rfl,rfl⟩)
   go_roundw;case rel=>exact⟨k+1,by omega,by go_num,hso,hek.setCell rfl _⟩
   case measure=>simp[intOf];omega
  .obtain rfl:k=ys.length:=by omega
   rw[axE]at hok;go_wp2
   go_end0
   exact⟨rfl,hok,hek⟩
theorem Gf(p:Int)(g s n c:Nat)(xs:List Int)(b:Int)(A:Option Addr)(d:Nat)(ys:List Int)(w:World)(ho:Own w g xs)(hn:s+n<=xs.length)(h:Rd w A ys)(hy:ys.length<=n)(hoff:ys≠[]->Off A g)
 (h2:2<=p) (h97:p<=97) (hxe:aA p xs=true) (hye:aA p ys=true) (hb: -96<=b/\b<=96):
 Calls prog 181 #[.int .i64 p,.slice (some ⟨g,s,none⟩) n c,.int .i64 b,.slice A ys.length d] w λe w'=>e=.returned (.tuple #[])/\Own w' g (bI p xs s b ys)/\aM g w w':=
 uU p g s n c xs b A d ys w ho hn h hy hoff h2 h97 hxe hye ⟨by omega,by omega⟩
theorem Ag{ops:Array Oper}{rest:List Oper}{o:Oper}{a:Act}{w0:World}{Q:Exit->Act->World->Prop}(hgd:o.guard=none)(d s:Operand)(dT sT:TypeId)
 (ho:o.op=.call {callee:=.builtin .copy,args:= #[d,s],argTypes:= #[dT,sT]}) (hu:prog.underlying dT=some (.slice 3))
 {g n c sc:Nat} {A:Option Addr} {f xs:List Int} (hd:a.eval d=.slice (some ⟨g,0,none⟩) n c) (hs:a.eval s=.slice A f.length sc)
 (hf:Rd w A f) (hfn:f.length<=n) (hxn:xs.length=n) (hown:Own w g xs) (hex:Ex w0 w) (hB:w0.heap.size<=g)
 (h:∀w',Own w' g (f++xs.drop f.length)->Ex w0 w'->wpList prog ops Q rest (a.put o.dst (goInt f.length)) w'):wpList prog ops Q (o::rest) a w:=by
 obtain⟨cur,hc,hx⟩:=hown;have hcl:xs.length<=cur.size:=by
  rcases ax9 cur.size xs.length with h1|h1
  .have:=hx cur.size _ (axn h1);rw[azA (axk _)]at this;cases this
  .exact h1
 have hi:(prog.info? 3).map (·.size)=some 1:=by kernel_rfl
 have hlen:(f.map (Value.int .i64)).length=f.length:=by simp
 refine wpList_copy_splice hgd d s dT sT ho 3 hu hi (some ⟨g,0,none⟩) A n c f.length sc hd hs g 0 cur.toList 3 (by simpa using hc) (f.map (Value.int .i64)) (by rw[hlen];exact(Nat.min_eq_left hfn).symm) ?_ (by rw[hlen];simp;omega) (by
  intro v hv;obtain⟨x,_,rfl⟩:=axr.1 hv;rfl) w0.heap.size w0 hex hB ?_
 .intro hpos;refine⟨rfl,?_⟩;have hf0:0<f.length:=by simpa using hpos
  obtain⟨g',off,hA,_⟩:=hf.2 0 hf0;refine⟨⟨g',off,none⟩,hA,λj v hj=>?_⟩;rw[axw]at hj;cases hfj:f[j]? with
  |none=>rw[hfj]at hj;cases hj
  |some y=>
   rw[hfj]at hj;injection hj with hj;subst hj;have e:(⟨g',off,none⟩:Addr).add j=⟨g',off+j,none⟩:=by unfold Addr.add;split<;>simp_all
   rw[e];rw[hA]at hf;exact hf.cell hfj
 .intro w' hw hb;rw[hlen];refine h w' ⟨_,hw.out,λj y hj=>?_⟩ hb;simp only[splice,ayF,ayz,axT,hlen];rw[ay1]at hj;simp only[List.getElem?_toArray,ay1,hlen,axw,axY];split
  .rename_i hjl;rw[axl hjl]at hj;rw[hj];rfl
  .rename_i hjl;rw[axm hjl,axY]at hj;have:=hx _ _ hj;simpa using this
theorem OC(f:List Int)(n:Nat):f++(replicate n (0:Int)).drop f.length=je f n:=by rw[je,List.drop_replicate]
theorem Qq(p:Int)(A B:Option Addr)(c d:Nat)(f g:List Int)(b:Int)(w:World)(hf:Rd w A f)(hg:Rd w B g)(h2:2<=p)(h97:p<=97)(hfe:aA p f=true)(hge:aA p g=true)(hb: -10000<=b/\b<=10000):
 Calls prog 151 #[.int .i64 p,.slice A f.length c,.int .i64 b,.slice B g.length d] w λe w'=>∃A' c',e=.returned (.slice A' (bQ p f b g).length c')/\Fr w' w.heap.size A' c' (bQ p f b g)/\Ex w w':=by
 have hl:=hf.len;have hl':=hg.len;go_enter Tryz.func151,Tryz.ntmps151
 obtain⟨n,hn⟩:∃n:Nat,n=max f.length g.length:=⟨_,rfl⟩;have hfn:f.length<=n:=by omega
 have hgn:g.length<=n:=by omega
 have hn2:n<=1099511627776:=by omega
 have hnn:n=f.length∨n=g.length:=by omega
 have Hn:=axj hn;clear hn;go_wp2_with fail
 all_goals
  (first
    |rw[show(f.length:Int)=(n:Int) by omega]
    |rw[show(g.length:Int)=(n:Int) by omega])
  refine(CV n hn2 _).mono ?_;rintro e w1 ⟨gg,rfl,hgg,hbk,hx1⟩;have hown:=hbk.own;go_wp2_with (with_reducible refine Ag (w0:=w) rfl (.tmp 16) (.tmp 17) _ _ rfl Tryz.underlying55 rfl rfl (hf.ex hx1) hfn (axH) hown hx1 hgg ?_;intro w2 ho2 hx2)
  rw[OC]at ho2;have hpl:(je f n).length=n:=qF hfn;refine(uU p gg 0 n n (je f n) b B d g w2 ho2 (by omega) (hg.ex hx2) hgn (λh0=>hg.off hgg h0) h2 h97 (Ew hfe (by omega) n) hge hb).mono ?_;rintro e w3 ⟨rfl,ho3,hx3⟩;have agu:Ex w w3:=hx2.aK hx3 hgg;have hll:(bI p (je f n) 0 b g).length=n:=by rw[aX,hpl]
  have hr3:=ho3.rd (by omega);go_wp2_with fail
  refine(uY _ n n _ w3 hr3 hll (axk _)).mono ?_;rintro e w4 ⟨rfl,rfl⟩;go_wp2;go_ret;have hP:trim (bI p (je f n) 0 b g)=bQ p f b g:=by rw[bQ,<-Hn.out]
  rw[hP];refine⟨_,_,rfl,?_,agu⟩;have:=(ho3.fr (B:=w.heap.size) (c:=n) (by omega) hgg (by omega)).take (c':=(bQ p f b g).length) (bQ p f b g).length (ax7 _ _);rw[<-hP,<-qi,hP]at this;exact this
theorem Ih(p:Int)(A B:Option Addr)(c d:Nat)(f g:List Int)(b:Int)(w:World)(hf:Rd w A f)(hg:Rd w B g)(h2:2<=p)(h97:p<=97)(hfe:aA p f=true)(hge:aA p g=true)(hb: -96<=b/\b<=96):
 Calls prog 151 #[.int .i64 p,.slice A f.length c,.int .i64 b,.slice B g.length d] w λe w'=>∃A' c',e=.returned (.slice A' (bQ p f b g).length c')/\Fr w' w.heap.size A' c' (bQ p f b g)/\Ex w w':=
 Qq p A B c d f g b w hf hg h2 h97 hfe hge ⟨by omega,by omega⟩
theorem Own.RG{g B:Nat}(h:Own w g xs)(hl:xs.length<=1099511627776)(hB:B<=g):Fr w B (some ⟨g,0,none⟩) (trim xs).length (trim xs):=by have:=(h.fr (c:=xs.length) hl hB (axk _)).take (c':=(trim xs).length) (trim xs).length (ax7 _ _);rw[<-qi]at this;exact this
theorem qC(p:Int)(A B:Option Addr)(c d:Nat)(f g:List Int)(w:World)(hf:Rd w A f)(hg:Rd w B g)(h2:2<=p)(h97:p<=97)(hfe:aA p f=true)(hge:aA p g=true)(hs:f.length+g.length<=1099511627776):
 Calls prog 152 #[.int .i64 p,.slice A f.length c,.slice B g.length d] w λe w'=>∃A' c',e=.returned (.slice A' (aB p f g).length c')/\Fr w' w.heap.size A' c' (aB p f g)/\Ex w w':=by
 have hl:=hf.len;have hl':=hg.len;by_cases hf0:f=[]
 .subst hf0;go_enter Tryz.func152,Tryz.ntmps152
  go_wp2;go_ret;exact⟨some ⟨w.heap.size,0,none⟩,0,rfl,(Own.new w []).fr (by simp) (axk _) (axk _),(aCQ w).alloc _⟩
 have hfl:=axB.2 hf0;by_cases hg0:g=[]
 .subst hg0;have hp:aB p f []=[]:=by rw[aB,iw,axl (.inr rfl)];rfl
  have Hp:=axj hp;have hb:((f.length:Int)==0)=false:=by simp;omega
  clear hp;go_enter Tryz.func152,Tryz.ntmps152
  go_wp2;go_ret;rw[Hp.out];exact⟨some ⟨w.heap.size,0,none⟩,0,rfl,(Own.new w []).fr (by simp) (axk _) (axk _),(aCQ w).alloc _⟩
 have hgl:=axB.2 hg0;have hb1:((f.length:Int)==0)=false:=by simp;omega
 have hb2:((g.length:Int)==0)=false:=by simp;omega
 obtain⟨n,hn⟩:∃n:Nat,n=f.length+g.length-1:=⟨_,rfl⟩;have hni:(n:Int)=(f.length:Int)+(g.length:Int)-1:=by omega
 have hn1:n=f.length-1+g.length:=by omega
 have Sn:=axj hfe;have Sm:=axj hge;have Hf0:=axj hf0;have UA:=axj hg0;have Hn:=axj hn;have Hni:=axj hni;have Hn1:=axj hn1;clear hfe hge hf0 hg0 hn hni hn1;go_enter Tryz.func152,Tryz.ntmps152
 go_wp2_with fail
 rw[<-Hni.out];refine(CV n (by have:=Hn.out;omega) _).mono ?_;rintro e w1 ⟨gg,rfl,hgg,hbk,hx1⟩;have hown:=hbk.own;clear hbk;go_wp2_with fail
 go_loopw [28] (λi wr=>∃k:Nat,k<=f.length/\i=.int .i64 k/\Own wr gg (iL p f g k)/\Ex w wr) (λi _=>f.length-(intOf i).toNat)
 case atStart=>exact⟨0,axq _,rfl,by rw[iL,<-Hn.out];exact hown,hx1⟩
 case round=>
  obtain⟨k,hk,rfl,hok,hek⟩:=hrel;have hml:=lG p f g k;have Hml:=axj hml;clear hml;by_cases hlt:k<f.length
  .obtain⟨g',off,x,rfl,hx,hg',hcell⟩:=(hf.ex hek).at_ hlt;have hxb:=bg Sn.out hx;have hcx:cf f k=x:=jY hx;have Hcx:=axj hcx;have hkn:k<n:=by have:=Hn1.out;omega
   clear hx hcx;go_wp2_with fail
   refine(Gf p gg k (n-k) (n-k) (iL p f g k) x B d g _ hok (by rw[Hml.out,<-Hn.out];omega) (hg.ex hek) (by have:=Hn1.out;omega) (λh0=>(hg.ex (aCQ w)).off hgg h0) h2 h97 (EC (by omega) _ _ _) Sm.out (by omega)).mono ?_;rintro e w3 ⟨rfl,ho3,hx3⟩;have agu:Ex w w3:=hek.aK hx3 hgg;go_wp2_with fail
   go_roundw;case rel=>exact⟨k+1,by omega,by go_num,by rw[iL,Hcx.out];exact ho3,agu⟩
   case measure=>simp[intOf];omega
  .obtain rfl:k=f.length:=by omega
   have hr:=hok.rd (by rw[Hml.out];omega);go_wp2_with fail
   refine(uY _ n n _ _ hr (by rw[Hml.out,<-Hn.out]) (axk _)).mono ?_;rintro e w4 ⟨rfl,rfl⟩;go_wp2;go_ret;have hP:trim (iL p f g f.length)=aB p f g:=by rw[aB,iw,axm (by simp[Hf0.out,UA.out])]
   rw[hP];refine⟨_,_,rfl,?_,hek⟩;have:=hok.RG (B:=w.heap.size) (by rw[Hml.out];omega) hgg;rw[hP]at this;exact this
theorem sU(p:Int)(v:List Int)(s:Nat)(b:Int)(w:List Int)(k:Nat)(hk:k<w.length){y:Int}(hy:w[k]?=some y)(hx:cf v (s+k)=x):
 (bI p v s b (w.take k)).set (s+k) ((x+b*y)%p)=bI p v s b (w.take (k+1)):=by
 rw[<-tH p v s b w k hk,hx,jY hy]
theorem UO(f:List Int)(n k:Nat)(hk:k<f.length)(hn:f.length<=n)(hx:f[k]?=some x):
 (f.take k++(replicate n (0:Int)).drop k).set k x=f.take (k+1)++(replicate n (0:Int)).drop (k+1):=by
 apply ax_;intro j;obtain⟨_,rfl⟩:=axp.1 hx;simp only[axK,ay1,axL,axx,List.drop_replicate,ax3,axv,axH]
 grind
theorem acg(p:Int)(A B:Option Addr)(c d:Nat)(f g:List Int)(w:World)(hf:Rd w A f)(hg:Rd w B g)(h2:2<=p)(h97:p<=97)(hfe:aA p f=true)(hge:aA p g=true):
 Calls prog 175 #[.int .i64 p,.slice A f.length c,.slice B g.length d] w λe w'=>∃A' c',e=.returned (.slice A' (bQ p f 1 g).length c')/\Fr w' w.heap.size A' c' (bQ p f 1 g)/\Ex w w':=by
 have hl:=hf.len;have hl':=hg.len;obtain⟨n,hn⟩:∃n:Nat,n=max f.length g.length:=⟨_,rfl⟩;have hfn:f.length<=n:=by omega
 have hgn:g.length<=n:=by omega
 have hn2:n<=1099511627776:=by omega
 have hni:max (f.length:Int) (g.length:Int)=(n:Int):=by omega
 have Hn:=axj hn;have Sn:=axj hfe;have Sm:=axj hge;clear hn hfe hge;have hmk:=λW=>fe n hn2 W
 have ho0:=Own.new w (replicate n 0);have he0:=(aCQ w).alloc (aN (replicate n 0));go_enter Tryz.func175,Tryz.ntmps175
 go_wp2_with (go_at_call 200;refine(Zq _ _ _).mono ?_;rintro e w' ⟨rfl,rfl⟩)
 clear hmk;go_loopw [20] (λi wr=>∃k:Nat,k<=f.length/\i=.int .i64 k/\Own wr w.heap.size (f.take k++(replicate n 0).drop k)/\Ex w wr) (λi _=>f.length-(intOf i).toNat)
 case atStart=>exact⟨0,axq _,rfl,by simpa using ho0,he0⟩
 case round=>
  obtain⟨k,hk,rfl,hok,hek⟩:=hrel;by_cases hlt:k<f.length
  .obtain⟨g',off,x,rfl,hx,hg',hcell⟩:=(hf.ex hek).at_ hlt;have hc2:=hok.cell (i:=k) (x:=0) (by rw[axN (by simp;omega),List.drop_replicate,ax3,axl (by simp;omega)]);have hfz:=hok.frozen k;have hso:=hok.bC k x;rw[UO f n k hlt hfn hx]at hso;have hkn:k<n:=by omega
   clear hx;go_wp2_with fail
   go_roundw;case rel=>exact⟨k+1,by omega,by go_num,hso,hek.setCell (axk _) _⟩
   case measure=>simp[intOf];omega
  .obtain rfl:k=f.length:=by omega
   rw[axE,OC]at hok;have hpl:=axj (qF hfn);have hpe:=axj (Ew Sn.out (by omega) n);go_wp2_with fail
   go_loopw [32] (λi wr=>∃k:Nat,k<=g.length/\i=.int .i64 k/\Own wr w.heap.size (bI p (je f n) 0 1 (g.take k))/\Ex w wr) (λi _=>g.length-(intOf i).toNat)
   case atStart=>exact⟨0,axq _,rfl,by rw[ayF,ru];exact hok,hek⟩
   case round=>
    obtain⟨k,hk,rfl,hok,hek⟩:=hrel;by_cases hlt:k<g.length
    .obtain⟨g',off,y,rfl,hy,hg',hcell⟩:=(hg.ex hek).at_ hlt;have hcf:(bI p (je f n) 0 1 (g.take k))[k]?=some (cf (je f n) k):=uW (by rw[hpl.out];omega) (by simp;omega);have hcx:=hok.cell hcf;have hfz:=hok.frozen k;have hbx:=iO hpe.out (by omega) k;have hby:=bg Sm.out hy;have hso:=hok.bC k ((cf (je f n) k+y)%p);have hst:=sU p (je f n) 0 1 g k hlt hy rfl;rw[axT,Int.one_mul]at hst;rw[hst]at hso;have hkn:k<n:=by omega
     generalize cf (je f n) k=x at*;clear hcf hy hst;go_wp2_with (go_at_call 194;refine(Kt _ _ _ _ h2 (by omega) (by omega)).mono ?_;rintro e w' ⟨rfl,rfl⟩)
     go_roundw;case rel=>exact⟨k+1,by omega,by go_num,hso,hek.setCell (axk _) _⟩
     case measure=>simp[intOf];omega
    .obtain rfl:k=g.length:=by omega
     rw[axE]at hok;have hll:(bI p (je f n) 0 1 g).length=n:=by rw[aX,hpl.out]
     have hP:trim (bI p (je f n) 0 1 g)=bQ p f 1 g:=by rw[bQ,<-Hn.out]
     have HP:=axj hP;have Hll:=axj hll;have hr:=hok.rd (by omega);clear hP hll;go_wp2_with fail
     rw[<-Hll.out];refine(nV _ _ _ _ hr (axk _)).mono ?_;rintro e w4 ⟨g4,c4,rfl,hc4,hg4,NP,hx4⟩;rw[HP.out]at hc4 NP⊢;have VY:=Db p f 1 g;go_wp2_with fail
     go_ret;exact⟨_,c4,rfl,NP.fr (by omega) (by have:=hek.size;omega) hc4,hek.trans hx4⟩
theorem vw(p:Int)(A:Option Addr)(c:Nat)(b:Int)(f:List Int)(w:World)(hf:Rd w A f)(h2:2<=p)(h97:p<=97)(hfe:aA p f=true)(hb:0<=b/\b<=96):
 Calls prog 109 #[.int .i64 p,.int .i64 b,.slice A f.length c] w λe w'=>∃A' c',e=.returned (.slice A' (aW p b f).length c')/\Fr w' w.heap.size A' c' (aW p b f)/\Ex w w':=by
 have hl:=hf.len;have Sn:=axj hfe;clear hfe;have hmk:=λW=>fe f.length hl W
 have ho0:=Own.new w (replicate f.length 0);have he0:=(aCQ w).alloc (aN (replicate f.length 0));go_enter Tryz.func109,Tryz.ntmps109
 go_wp2_with fail
 clear hmk;go_loopw [15] (λi wr=>∃k:Nat,k<=f.length/\i=.int .i64 k/\Own wr w.heap.size (bI p (replicate f.length 0) 0 b (f.take k))/\Ex w wr) (λi _=>f.length-(intOf i).toNat)
 case atStart=>exact⟨0,axq _,rfl,by rw[ayF,ru];exact ho0,he0⟩
 case round=>
  obtain⟨k,hk,rfl,hok,hek⟩:=hrel;by_cases hlt:k<f.length
  .obtain⟨g',off,y,rfl,hy,hg',hcell⟩:=(hf.ex hek).at_ hlt;have hcf:(bI p (replicate f.length 0) 0 b (f.take k))[k]?=some (cf (replicate f.length 0) k):=uW (by simp;omega) (by simp;omega);rw[Qk]at hcf;have hcx:=hok.cell hcf;have hfz:=hok.frozen k;have hby:=bg Sn.out hy;have hso:=hok.bC k (b*y%p);have hst:=sU p (replicate f.length 0) 0 b f k hlt hy (Qk _ _);rw[axT,azc]at hst;rw[hst]at hso;clear hcf hy hst;go_wp2_with (go_at_call 144;refine(v_ _ _ _ _ h2 hb (by omega)).mono ?_;rintro e w' ⟨rfl,rfl⟩)
   go_roundw;case rel=>exact⟨k+1,by omega,by go_num,hso,hek.setCell (axk _) _⟩
   case measure=>simp[intOf];omega
  .obtain rfl:k=f.length:=by omega
   rw[axE]at hok;have hP:trim (bI p (replicate f.length 0) 0 b f)=aW p b f:=by rw[aW,bQ];simp[je]
   have HP:=axj hP;have hr:=hok.rd (by rw[aX];simpa using hl);have Hll:=axj (show(bI p (replicate f.length 0) 0 b f).length=f.length by rw[aX];simp);clear hP;go_wp2_with fail
   rw[<-Hll.out];refine(nV _ _ _ _ hr (axk _)).mono ?_;rintro e w4 ⟨g4,c4,rfl,hc4,hg4,NP,hx4⟩;rw[HP.out]at hc4 NP⊢;have VY:(aW p b f).length<=f.length:=by have:=Db p [] b f;simpa[aW]using this
   go_wp2_with fail
   go_ret;exact⟨_,c4,rfl,NP.fr (by omega) (by have:=hek.size;omega) hc4,hek.trans hx4⟩
theorem yJ(p:Int)(A B:Option Addr)(c d:Nat)(f g:List Int)(w:World)(hf:Rd w A f)(hg:Rd w B g)(h2:2<=p)(h97:p<=97)(hfe:aA p f=true)(hge:aA p g=true)(hs:f.length+g.length<=1099511627776):
 Calls prog 169 #[.int .i64 p,.slice A f.length c,.slice B g.length d] w λe w'=>∃A' c',e=.returned (.slice A' (iw p f g).length c')/\Fr w' w.heap.size A' c' (iw p f g)/\Ex w w':=by
 have hl:=hf.len;have hl':=hg.len;by_cases hf0:f=[]
 .subst hf0;go_enter Tryz.func169,Tryz.ntmps169
  go_wp2;go_ret;exact⟨none,0,rfl,Fr.nil _ _ _,aCQ w⟩
 have hfl:=axB.2 hf0;by_cases hg0:g=[]
 .subst hg0;have hp:iw p f []=[]:=by rw[iw,axl (.inr rfl)]
  have Hp:=axj hp;have hb:((f.length:Int)==0)=false:=by simp;omega
  clear hp;go_enter Tryz.func169,Tryz.ntmps169
  go_wp2;go_ret;rw[Hp.out];exact⟨none,0,rfl,Fr.nil _ _ _,aCQ w⟩
 have hgl:=axB.2 hg0;have hb1:((f.length:Int)==0)=false:=by simp;omega
 have hb2:((g.length:Int)==0)=false:=by simp;omega
 obtain⟨n,hn⟩:∃n:Nat,n=f.length+g.length-1:=⟨_,rfl⟩;have hni:(f.length:Int)+(g.length:Int)-1=(n:Int):=by omega
 have hn1:n=f.length-1+g.length:=by omega
 have hn2:n<=1099511627776:=by omega
 have Sn:=axj hfe;have Sm:=axj hge;have Hf0:=axj hf0;have UA:=axj hg0;have Hn:=axj hn;have Hn1:=axj hn1;have hmk:=λW=>fe n hn2 W
 have ho0:=Own.new w (replicate n 0);have he0:=(aCQ w).alloc (aN (replicate n 0));clear hfe hge hf0 hg0 hn hn1;go_enter Tryz.func169,Tryz.ntmps169
 go_wp2_with fail
 clear hmk hni;go_loopw [29] (λi wr=>∃k:Nat,k<=f.length/\i=.int .i64 k/\Own wr w.heap.size (iL p f g k)/\Ex w wr) (λi _=>f.length-(intOf i).toNat)
 case atStart=>exact⟨0,axq _,rfl,by rw[iL,<-Hn.out];exact ho0,he0⟩
 case round=>
  obtain⟨k,hk,rfl,hok,hek⟩:=hrel;have Hml:=axj (lG p f g k);have Hme:=axj (EC (p:=p) (by omega) f g k);by_cases hlt:k<f.length
  .obtain⟨g',off,x,rfl,hx,hg',hcell⟩:=(hf.ex hek).at_ hlt;have hxb:=bg Sn.out hx;have Hcx:=axj (jY hx);clear hx;go_wp2_with fail
   go_loopw [36] (λi wi=>∃j:Nat,j<=g.length/\i=.int .i64 j/\Own wi w.heap.size (bI p (iL p f g k) k x (g.take j))/\Ex w wi) (λi _=>g.length-(intOf i).toNat)
   case atStart=>exact⟨0,axq _,rfl,by rw[ayF,ru];exact hok,hek⟩
   case round=>
    obtain⟨j,hj,rfl,hoj,xU⟩:=hrel;by_cases hjl:j<g.length
    .obtain⟨g2,off2,y,rfl,hy,hg2,hcell2⟩:=(hg.ex xU).at_ hjl;have hyb:=bg Sm.out hy;have agl:k+j<n:=by have:=Hn1.out;omega
     have hcf:(bI p (iL p f g k) k x (g.take j))[k+j]?=some (cf (iL p f g k) (k+j)):=uW (by rw[Hml.out,<-Hn.out];exact agl) (by simp;omega);have hcx:=hoj.cell hcf;have hfz:=hoj.frozen (k+j);have hzb:=iO Hme.out (by omega) (k+j);have hst:=sU p (iL p f g k) k x g j hjl hy rfl;have hso:=hoj.bC (k+j) ((cf (iL p f g k) (k+j)+x*y)%p);rw[hst]at hso;generalize cf (iL p f g k) (k+j)=z at*;have hxy:=ayh (x*y) (show p≠0 by omega);have ane:=ayi (x*y) (show 0<p by omega);clear hcf hy hst;have w1:IntKind.i64.wrap ((k:Int)+(j:Int))=(k:Int)+(j:Int):=axC _ (by omega);have w2:(0:Int)<=(k:Int)+(j:Int):=by omega
     have w3:(k:Int)+(j:Int)<(n:Int):=by omega
     have w4:((k:Int)+(j:Int)).toNat=k+j:=by omega
     go_wp2_with fail
     refine wp_region_still_tail 17 (by kernel_rfl) (by kernel_rfl) ?_;simp only[azb,ayF,azI,List.drop_zero]
     repeat still_step
     refine wpStill_step (λK hK=>?_)
     go_simp
     refine⟨_,yA (v_ p x y wr.drew h2 (by omega) (by omega)),hK _ ?_⟩;clear hK K
     repeat still_step
     refine wpStill_step (λK hK=>?_)
     go_simp
     refine⟨_,yA (Kt p z (x*y%p) wr.drew h2 (by omega) (by omega)),hK _ ?_⟩;clear hK K
     repeat still_step
     refine wpStill_nil ?_;clear w1 w2 w3 w4;change wpList _ _ _ _ _ wr.drew;go_wp2_with fail
     go_roundw;case rel=>exact⟨j+1,by omega,by go_num,hso,(xU.setCell (axk _) _).drew⟩
     case measure=>simp[intOf];omega
    .obtain rfl:j=g.length:=by omega
     rw[axE]at hoj;go_wp2_with fail
     go_roundw;case rel=>exact⟨k+1,by omega,by go_num,by rw[iL,Hcx.out];exact hoj,xU⟩
     case measure=>simp[intOf];omega
  .obtain rfl:k=f.length:=by omega
   have hP:iL p f g f.length=iw p f g:=by rw[iw,axm (by simp[Hf0.out,UA.out])]
   have hPl:(iw p f g).length=n:=by rw[<-hP,Hml.out,<-Hn.out]
   rw[hP]at hok;go_wp2_with fail
   go_ret;exact⟨some ⟨w.heap.size,0,none⟩,n,by rw[hPl];rfl,hok.fr (by omega) (axk _) (by omega),hek⟩
def LL(w:World)(q r:List Int)(e:Ending)(w':World):Prop:=
 ∃A c B d,e=.returned (.tuple #[.slice A q.length c,.slice B r.length d])/\Fr w' w.heap.size A c q/\Fr w' w.heap.size B d r/\Apart A B/\Ex w w'
theorem Yz(k:Nat)(Q:List Int):(replicate (k+1) (0:Int)++Q)[k]?=some 0:=by rw[axX (by simp)];simp
theorem Ta(k:Nat)(x:Int)(Q:List Int):(replicate (k+1) (0:Int)++Q).set k x=replicate k 0++(x::Q):=by rw[List.replicate_succ',ayg,List.set_append_right _ _ (by simp)];simp
theorem iA{g g':Nat}{o o':Nat}(h:g≠g'):Apart (some ⟨g,o,none⟩) (some ⟨g',o',none⟩):=λa a' e e'=>by injection e with e;injection e' with e';subst e e';exact h
theorem ab_(k:Nat)(x:Int)(Q:List Int):(replicate k (0:Int)++(x::Q))[k]?=some x:=by rw[axN (by simp)];simp
theorem rZ(p:Int)(A B:Option Addr)(c d:Nat)(f g:List Int)(w:World)(hf:Rd w A f)(hg:Rd w B g)(h2:2<=p)(h97:p<=97)(hfe:aA p f=true)(hge:aA p g=true)(hg0:g≠[]):
 Calls prog 184 #[.int .i64 p,.slice A f.length c,.slice B g.length d] w λe w'=>LL w (bH p f g) (dY p f g) e w':=by
 have hl:=hf.len;have hl':=hg.len;have hgl:=axB.2 hg0;by_cases hlt:f.length<g.length
 .have HQ:=axj (show bH p f g=[] by rw[bH,axl hlt]);have HR:=axj (show dY p f g=f by rw[dY,axl hlt]);go_enter Tryz.func184,Tryz.ntmps184
  go_wp2_with fail
  refine(zK A c f w hf).mono ?_;rintro e w1 ⟨g1,c1,rfl,hc1,hg1,ho1,hx1⟩;go_wp2
  go_ret2
  rw[HQ.out,HR.out];have ha:=(aCQ w1).alloc (.cells #[] 3);refine⟨some ⟨w1.heap.size,0,none⟩,0,some ⟨g1,0,none⟩,c1,rfl,(Own.new w1 []).fr (by simp) hx1.size (axk _),(ho1.ex ha).fr hl hg1 hc1,iA (by have:=ho1.lt;omega),hx1.trans ha⟩
 .obtain⟨m,hm⟩:∃m:Nat,m=f.length-g.length+1:=⟨_,rfl⟩;have hmi:(f.length:Int)-(g.length:Int)+1=(m:Int):=by omega
  have hmf:m+g.length=f.length+1:=by omega
  obtain⟨gl,Fa⟩:∃gl:Nat,g.length=gl+1:=⟨g.length-1,by omega⟩;obtain⟨gA,sM,x,rfl,hx,hgA,hcell⟩:=hg.at_ (by omega:gl<g.length);have hxb:=bg hge hx;have hcx:cf g (g.length-1)=x:=by rw[Fa];exact jY hx
  have HQ:=axj (show bH p f g=trim (bU p g (dh p x) m f).1 by rw[bH,axm hlt,hcx,<-hm]);have HR:=axj (show dY p f g=trim (bU p g (dh p x) m f).2 by rw[dY,axm hlt,hcx,<-hm]);have hinv:=kS x h2 (p:=p);obtain⟨b,hb⟩:∃b,b=dh p x:=⟨_,rfl⟩;rw[<-hb]at HQ HR hinv;have Hb:=axj hb;have Sn:=axj hfe;have Sm:=axj hge;have UA:=axj hg0;have Hmf:=axj hmf;have Sl:=axj Fa;have agf:m<=1099511627776:=by omega
  have hgi:(g.length:Int)-1=(gl:Int):=by omega
  have V8:gl<g.length:=by omega
  have anW:g.length<=gl+1:=by omega
  clear hm hfe hge hg0 hx hcx hb hmf Fa;go_enter Tryz.func184,Tryz.ntmps184
  go_wp2_with fail
  refine(zK A c f w hf).mono ?_;rintro e w1 ⟨gr,cr,rfl,hcr,hgr,hor,hx1⟩;have hcell1:w1.cell? ⟨gA,sM+gl,none⟩=some (.int .i64 x):=(axP (w:=w) (a:=⟨gA,sM+gl,none⟩) (hx1.block hgA)).trans hcell;clear hcell;go_wp2_with fail
  refine(CV m agf _).mono ?_;rintro e w2 ⟨gq,rfl,hgq,hbq,hx2⟩;have hcell2:w2.cell? ⟨gA,sM+gl,none⟩=some (.int .i64 x):=(axP (w:=w1) (a:=⟨gA,sM+gl,none⟩) (hx2.block (show gA<w1.heap.size by have:=hx1.size;omega))).trans hcell1;have hor2:=hor.ex hx2;have hoq:=hbq.own;have agv:=hx1.trans hx2;have hne:gr≠gq:=by have:=hor.lt;omega
  have ZM:w.heap.size<=gq:=by have:=hx1.size;omega
  clear hcell1 hbq hor;go_wp2_with fail
  refine(qO p x _ h2 h97 hxb).mono ?_;rintro e w3 ⟨rfl,rfl⟩;rw[<-Hb.out];go_wp2_with fail
  clear hcell2 hgi hmi;go_loopw [11] (λi wr=>∃(k:Nat) (Q r:List Int),k<=m/\i=.int .i64 ((k:Int)-1)/\Own wr gq (replicate k 0++Q)/\Own wr gr r/\r.length=f.length/\aA p r=true/\Q.length=m-k/\
   (bU p g b m f).1=(bU p g b k r).1++Q/\(bU p g b m f).2=(bU p g b k r).2/\Ex w wr) (λi _=>(intOf i+1).toNat)
  case atStart=>exact⟨m,[],f,axk _,rfl,by simpa using hoq,hor2,rfl,Sn.out,by simp,by simp,rfl,agv⟩
  case round=>
   obtain⟨k,Q,r,hk,rfl,Xg,hoR,hrl,hre,hQl,hd1,hd2,hek⟩:=hrel;have Hre:=axj hre;have Hd1:=axj hd1;have Hd2:=axj hd2;have HQl:=axj hQl;have Hrl:=axj hrl;clear hre hd1 hd2 hQl hrl;cases k with
   |zero=>
    have e1:(bU p g b m f).1=Q:=by rw[Hd1.out];rfl
    have e2:(bU p g b m f).2=r:=by rw[Hd2.out];rfl
    rw[e1]at HQ;rw[e2]at HR;rw[List.replicate_zero,ayz]at Xg;have hQm:Q.length=m:=by rw[HQl.out];omega
    have hrQ:=Xg.rd (by omega);have JW:=hoR.rd (by rw[Hrl.out];omega);have HQm:=axj hQm;clear e1 e2 hQm;go_wp2_with fail
    refine(uY _ m m Q _ hrQ HQm.out (axk _)).mono ?_;rintro e w4 ⟨rfl,rfl⟩;go_wp2_with fail
    refine(uY _ cr f.length r _ JW Hrl.out hcr).mono ?_;rintro e w5 ⟨rfl,rfl⟩;go_wp2
    go_ret2
    rw[<-HQ.out,<-HR.out];have q1:=Xg.RG (B:=w.heap.size) (by rw[HQm.out];omega) ZM;have q2:=hoR.RG (B:=w.heap.size) (by rw[Hrl.out];omega) hgr;rw[<-HQ.out]at q1;rw[<-HR.out]at q2;exact⟨_,_,_,_,rfl,q1,q2,iA hne.symm,hek⟩
   |succ k=>
    have hkf:k+gl<f.length:=by have:=Hmf.out;have:=Sl.out;omega
    have hkm:k<m:=by omega
    obtain⟨z,hz⟩:∃z,r[k+gl]?=some z:=⟨_,axn (by rw[Hrl.out];exact hkf)⟩;have hcz:=hoR.cell hz;have hzb:=bg Hre.out hz;have Wj:cf r (k+g.length-1)=z:=by rw[Sl.out];exact jY hz
    have hzm:=sD (x:=z) (y:=b) ⟨by omega,by omega⟩ ⟨by omega,by omega⟩;have hq0:=ayh (z*b) (show p≠0 by omega);have hq1:=ayi (z*b) (show 0<p by omega);have hcq:=Xg.cell (Yz k Q);have hfq:=Xg.frozen k;have hsq:=Xg.bC k (z*b%p);rw[Ta]at hsq;have auk:=hsq.cell (ab_ k (z*b%p) Q);have hsr:Own (World.setCell wr ⟨gq,k,none⟩ (.int .i64 (z*b%p))) gr r:=hoR.aK ((aM.refl gq wr).setCell rfl _) hne;have hes:Ex w (World.setCell wr ⟨gq,k,none⟩ (.int .i64 (z*b%p))):=hek.setCell ZM _;have avS:=axj Wj;have e1:=Hd1.out;have e2:=Hd2.out;rw[bU,Wj]at e1 e2;simp only[ayg,List.singleton_append]at e1 e2;have E1:=axj e1;have E2:=axj e2;have hgi:(k:Int)+(g.length:Int)-1=((k+gl:Nat):Int):=by have:=Sl.out;omega
    clear hz Wj e1 e2;rw[show(((k+1:Nat):Int)-1)=(k:Int) by omega];go_wp2_with fail
    generalize World.setCell wr ⟨gq,k,none⟩ (.int .i64 (z*b%p))=W at*;have w1:IntKind.i64.wrap (-(z*b%p))= -(z*b%p):=axC _ (by omega);have w2:¬cr=k:=by omega
    have w3:k<=f.length:=by omega
    refine wp_region_still_tail 10 (by kernel_rfl) (by kernel_rfl) ?_;simp only[azb,ayF,azI,List.drop_zero]
    repeat still_step
    refine wpStill_nil ?_;clear w1 w2 w3;change wpList _ _ _ _ _ W.drew;go_wp2_with fail
    refine(Gf p gr k (f.length-k) (cr-k) r (-(z*b%p)) _ d g W.drew hsr (by rw[Hrl.out];omega) (hg.ex hes.drew) (by have:=Hmf.out;omega) (λh0=>hg.off hgr h0) h2 h97 Hre.out Sm.out (by omega)).mono ?_;rintro e w4 ⟨rfl,NP,hx4⟩;have an4:Ex w w4:=hes.drew.aK hx4 hgr;have anG:Own w4 gq _:=hsq.drew.aK hx4 hne.symm;go_wp2_with fail
    go_roundw;case rel=>refine⟨k,z*b%p::Q,_,by omega,by go_num,anG,NP,by rw[aX,Hrl.out],oz Hre.out (by omega) _ _ _,?_,E1.out,E2.out,an4⟩;rw[axR,HQl.out];omega
    case measure=>simp[intOf]<;>omega
theorem SS(p a b:Int):(a-b%p)%p=(a-b)%p:=by rw[Int.sub_emod,ayQ,<-Int.sub_emod]
theorem JF(p:Int)(A B:Option Addr)(c d:Nat)(f g:List Int)(w:World)(hf:Rd w A f)(hg:Rd w B g)(hF:av p=true)(hfe:aA p f=true)(hge:aA p g=true)(hg0:g≠[])(tf:Tr f)(tg:Tr g):
 Calls prog 192 #[.int .i64 p,.slice A f.length c,.slice B g.length d] w λe w'=>LL w (bH p f g) (dY p f g) e w':=by
 have h2:=ax hF;have h97:=aT hF;have hl:=hf.len;have hl':=hg.len;have hgl:=axB.2 hg0;obtain⟨gl,Fa⟩:∃gl:Nat,g.length=gl+1:=⟨g.length-1,by omega⟩;obtain⟨gA,sM,x,rfl,hx,hgA,hcell⟩:=hg.at_ (by omega:gl<g.length);have hxb:=bg hge hx;have hcx:cf g (g.length-1)=x:=by rw[Fa];exact jY hx
 have hxp:0<x:=by have:=tg.last hg0;rw[hcx]at this;omega
 have hinv:=kS x h2 (p:=p);have Sl:=axj Fa;have V8:gl<g.length:=by omega
 have anW:g.length<=gl+1:=by omega
 have hgi:(g.length:Int)-1=(gl:Int):=by omega
 have HF:=axj hF;by_cases hlt:f.length<g.length
 .have HQ:=axj (show bH p f g=[] by rw[bH,axl hlt]);have HR:=axj (show dY p f g=f by rw[dY,axl hlt]);have htf:trim f=f:=tf;have Htf:=axj htf;clear Fa hx hcx hF hfe hge hg0 htf;go_enter Tryz.func192,Tryz.ntmps192
  go_wp2_with fail
  refine(kR A c f w hf).mono ?_;rintro e w1 ⟨g1,c1,rfl,hc1,hg1,ho1,hx1⟩;have hcell1:w1.cell? ⟨gA,sM+gl,none⟩=some (.int .i64 x):=(axP (w:=w) (a:=⟨gA,sM+gl,none⟩) (hx1.block hgA)).trans hcell;clear hcell;go_wp2_with fail
  refine(zG p x _ HF.out ⟨hxp,hxb.2⟩).mono ?_;rintro e w2 ⟨rfl,rfl⟩;go_wp2_with fail
  refine wp_loop_rounds 1 ?_;rw[rounds_succ];go_wp2_with fail
  refine(nV none 0 [] _ (Rd.nil _ _) (axk _)).mono ?_;rintro e w3 ⟨g3,c3,rfl,hc3,hg3,ho3,hx3⟩;go_wp2_with fail
  refine(nV _ _ _ _ ((ho1.ex hx3).rd hl) hc1).mono ?_;rintro e w4 ⟨g4,c4,rfl,hc4,hg4,NP,hx4⟩;rw[Htf.out]at hc4 NP⊢;go_wp2
  go_ret2
  rw[HQ.out,HR.out];have s1:=hx1.size;have s3:=hx3.size;have l3:=ho3.lt;exact⟨_,_,_,_,rfl,((ho3.ex hx4).fr (axq _) (by omega) hc3),NP.fr hl (by omega) hc4,iA (by omega),(hx1.trans hx3).trans hx4⟩
 .obtain⟨m,hm⟩:∃m:Nat,m=f.length-g.length+1:=⟨_,rfl⟩;have hmi:(f.length:Int)-(g.length:Int)+1=(m:Int):=by omega
  have hmf:m+g.length=f.length+1:=by omega
  have HQ:=axj (show bH p f g=trim (bU p g (dh p x) m f).1 by rw[bH,axm hlt,hcx,<-hm]);have HR:=axj (show dY p f g=trim (bU p g (dh p x) m f).2 by rw[dY,axm hlt,hcx,<-hm]);obtain⟨b,hb⟩:∃b,b=dh p x:=⟨_,rfl⟩;rw[<-hb]at HQ HR hinv;have Hb:=axj hb;have Sn:=axj hfe;have Sm:=axj hge;have Hmf:=axj hmf;have agf:m<=1099511627776:=by omega
  have hmk:=λW=>fe m agf W
  clear hm hfe hge hg0 hx hcx hb hmf hF Fa;go_enter Tryz.func192,Tryz.ntmps192
  go_wp2_with fail
  refine(kR A c f w hf).mono ?_;rintro e w1 ⟨gr,cr,rfl,hcr,hgr,hor,hx1⟩;have hcell1:w1.cell? ⟨gA,sM+gl,none⟩=some (.int .i64 x):=(axP (w:=w) (a:=⟨gA,sM+gl,none⟩) (hx1.block hgA)).trans hcell;have hx2:=(aCQ w1).alloc (aN (replicate m 0));have hoq:=Own.new w1 (replicate m 0);have hor2:=hor.ex hx2;have agv:=hx1.trans hx2;have hne:gr≠w1.heap.size:=by have:=hor.lt;omega
  have ZM:w.heap.size<=w1.heap.size:=hx1.size;obtain⟨gq,hgq⟩:∃gq,gq=w1.heap.size:=⟨_,rfl⟩;rw[<-hgq]at hoq hne ZM;have Hgq:=axj hgq;have hcell2:(w1.alloc (aN (replicate m 0))).cell? ⟨gA,sM+gl,none⟩=some (.int .i64 x):=(axP (w:=w1) (a:=⟨gA,sM+gl,none⟩) (hx2.block (show gA<w1.heap.size by have:=hx1.size;omega))).trans hcell1;clear hcell hor hgq hcell1;go_wp2_with fail
  refine(zG p x _ HF.out ⟨hxp,hxb.2⟩).mono ?_;rintro e w3 ⟨rfl,rfl⟩;rw[<-Hb.out];clear hcell2 hgi hmi hmk;rw[<-Hgq.out];generalize w1.alloc (aN (replicate m 0))=w2 at*;go_wp2_with fail
  go_loopw [11] (λi wr=>∃(k:Nat) (Q r:List Int),k<=m/\i=.int .i64 ((k:Int)-1)/\Own wr gq (replicate k 0++Q)/\Own wr gr r/\r.length=f.length/\aA p r=true/\Q.length=m-k/\
   (bU p g b m f).1=(bU p g b k r).1++Q/\(bU p g b m f).2=(bU p g b k r).2/\Ex w wr) (λi _=>(intOf i+1).toNat)
  case atStart=>exact⟨m,[],f,axk _,rfl,by simpa using hoq,hor2,rfl,Sn.out,by simp,by simp,rfl,agv⟩
  case round=>
   obtain⟨k,Q,r,hk,rfl,Xg,hoR,hrl,hre,hQl,hd1,hd2,hek⟩:=hrel;have Hre:=axj hre;have Hd1:=axj hd1;have Hd2:=axj hd2;have HQl:=axj hQl;have Hrl:=axj hrl;clear hre hd1 hd2 hQl hrl;cases k with
   |zero=>
    have e1:(bU p g b m f).1=Q:=by rw[Hd1.out];rfl
    have e2:(bU p g b m f).2=r:=by rw[Hd2.out];rfl
    rw[e1]at HQ;rw[e2]at HR;rw[List.replicate_zero,ayz]at Xg;have hQm:Q.length=m:=by rw[HQl.out];omega
    have hrQ:=Xg.rd (by omega);have JW:=hoR.rd (by rw[Hrl.out];omega);have HQm:=axj hQm;clear e1 e2 hQm;go_wp2_with fail
    rw[<-HQm.out];refine(nV _ _ Q _ hrQ (axk _)).mono ?_;rintro e w4 ⟨g4,c4,rfl,hc4,hg4,NP,hx4⟩;rw[<-HQ.out]at hc4 NP⊢;go_wp2_with fail
    rw[<-Hrl.out];refine(nV _ _ r _ (JW.ex hx4) (by rw[Hrl.out];exact hcr)).mono ?_;rintro e w5 ⟨g5,c5,rfl,Xh,hg5,ho5,hx5⟩;rw[<-HR.out]at Xh ho5⊢;go_wp2
    go_ret2
    have s4:=hek.size;have s5:=hx4.size;have l4:=NP.lt;have lQ:=M8 p f g;have lR:(dY p f g).length<=f.length:=by rw[HR.out];have:=iY r;rw[Hrl.out]at this;exact this
    exact⟨_,_,_,_,rfl,((NP.ex hx5).fr (by have:=Hmf.out;omega) (by omega) hc4),ho5.fr (by omega) (by omega) Xh,iA (by omega),(hek.trans hx4).trans hx5⟩
   |succ k=>
    have hkf:k+gl<f.length:=by have:=Hmf.out;have:=Sl.out;omega
    have hkm:k<m:=by omega
    obtain⟨z,hz⟩:∃z,r[k+gl]?=some z:=⟨_,axn (by rw[Hrl.out];exact hkf)⟩;have hcz:=hoR.cell hz;have hzb:=bg Hre.out hz;have Wj:cf r (k+g.length-1)=z:=by rw[Sl.out];exact jY hz
    have hzm:=sD (x:=z) (y:=b) ⟨by omega,by omega⟩ ⟨by omega,by omega⟩;have hq0:=ayh (z*b) (show p≠0 by omega);have hq1:=ayi (z*b) (show 0<p by omega);have hcq:=Xg.cell (Yz k Q);have hfq:=Xg.frozen k;have e1:=Hd1.out;have e2:=Hd2.out;rw[bU,Wj]at e1 e2;simp only[ayg,List.singleton_append]at e1 e2;have hsq:=Xg.bC k (z*b%p);rw[Ta]at hsq;have hsr:Own (World.setCell wr ⟨gq,k,none⟩ (.int .i64 (z*b%p))) gr r:=hoR.aK ((aM.refl gq wr).setCell rfl _) hne;have hes:Ex w (World.setCell wr ⟨gq,k,none⟩ (.int .i64 (z*b%p))):=hek.setCell ZM _;have E1:=axj e1;have E2:=axj e2;have hgi:(k:Int)+(g.length:Int)-1=((k+gl:Nat):Int):=by have:=Sl.out;omega
    clear hz Wj e1 e2;rw[show(((k+1:Nat):Int)-1)=(k:Int) by omega];go_wp2_with fail
    refine(v_ p z b _ h2 (by omega) (by omega)).mono ?_;rintro e w5 ⟨rfl,rfl⟩;generalize hqd:z*b%p=q at*;have Hqd:=axj hqd;clear hqd;go_wp2_with fail
    generalize World.setCell wr ⟨gq,k,none⟩ (.int .i64 q)=W at*;clear hcq hfq hcz hgi;go_loopw [61] (λi wi=>∃j:Nat,j<=g.length/\i=.int .i64 j/\Own wi gr (bI p r k (-q) (g.take j))/\Own wi gq (replicate k 0++(q::Q))/\Ex w wi) (λi _=>g.length-(intOf i).toNat)
    case atStart=>exact⟨0,axq _,rfl,by rw[ayF,ru];exact hsr,hsq,hes⟩
    case round=>
     obtain⟨j,hj,rfl,hoj,ajc,xU⟩:=hrel;by_cases hjl:j<g.length
     .obtain⟨g2,off2,y,hAe,hy,hg2,hcell2⟩:=(hg.ex xU).at_ hjl;injection hAe with hAe;injection hAe with ea eb _;subst ea eb;have hyb:=bg Sm.out hy;have agl:k+j<f.length:=by omega
      have hcf:(bI p r k (-q) (g.take j))[k+j]?=some (cf r (k+j)):=uW (by rw[Hrl.out];exact agl) (by simp;omega);have hcx:=hoj.cell hcf;have hfz:=hoj.frozen (k+j);have hzb:=iO Hre.out (by omega) (k+j);have hst:=sU p r k (-q) g j hjl hy rfl;have hso:=hoj.bC (k+j) ((cf r (k+j)+ -q*y)%p);have hsQ:=ajc.aK ((aM.refl gr wr).setCell (p:=⟨gr,k+j,none⟩) rfl (.int .i64 ((cf r (k+j)+ -q*y)%p))) hne.symm;rw[hst]at hso;have hse:=xU.setCell (p:=⟨gr,k+j,none⟩) hgr (.int .i64 ((cf r (k+j)+ -q*y)%p));generalize cf r (k+j)=z at*;have hzz:(z-q*y%p)%p=(z+ -q*y)%p:=by rw[SS,Int.neg_mul,Int.sub_eq_add_neg]
      rw[<-hzz]at hso hsQ hse;have aiV:(z-q*y%p)%p=(z-q*y)%p:=SS _ _ _;rw[aiV]at hso hsQ hse;have hxy:=ayh (q*y) (show p≠0 by omega);have ane:=ayi (q*y) (show 0<p by omega);clear hcf hy hst hzz aiV;have w1:IntKind.i64.wrap ((k:Int)+(j:Int))=(k:Int)+(j:Int):=axC _ (by omega);have w2:(0:Int)<=(k:Int)+(j:Int):=by omega
      have w3:(k:Int)+(j:Int)<(f.length:Int):=by omega
      have w4:((k:Int)+(j:Int)).toNat=k+j:=by omega
      go_wp2_with fail
      refine wp_region_still_tail 17 (by kernel_rfl) (by kernel_rfl) ?_;simp only[azb,ayF,azI,List.drop_zero]
      repeat still_step
      refine wpStill_step (λK hK=>?_)
      go_simp
      refine⟨_,yA (v_ p q y wr.drew h2 (by omega) (by omega)),hK _ ?_⟩;clear hK K
      repeat still_step
      refine wpStill_step (λK hK=>?_)
      go_simp
      refine⟨_,yA (Uf p z (q*y%p) wr.drew h2 h97 (by omega) (by omega)),hK _ ?_⟩;clear hK K
      repeat still_step
      refine wpStill_nil ?_;clear w1 w2 w3 w4;change wpList _ _ _ _ _ wr.drew;go_wp2_with fail
      go_roundw;case rel=>exact⟨j+1,by omega,by go_num,hso,hsQ,hse.drew⟩
      case measure=>simp[intOf]<;>omega
     .obtain rfl:j=g.length:=by omega
      rw[axE]at hoj;go_wp2_with fail
      go_roundw;case rel=>refine⟨k,q::Q,_,by omega,by go_num,ajc,hoj,by rw[aX,Hrl.out],oz Hre.out (by omega) _ _ _,?_,E1.out,E2.out,xU⟩;rw[axR,HQl.out];omega
      case measure=>simp[intOf]<;>omega
def LI(w:World)(r:List Int)(e:Ending)(w':World):Prop:=∃A c,e=.returned (.slice A r.length c)/\Fr w' w.heap.size A c r/\Ex w w'
theorem DY(p:Int)(A:Option Addr)(c:Nat)(b:Int)(f:List Int)(w:World)(hf:Rd w A f)(h2:2<=p)(h97:p<=97)(hfe:aA p f=true)(hb: -96<=b/\b<=96):
 Calls prog 186 #[.int .i64 p,.slice A f.length c,.int .i64 b] w λe w'=>LI w (aW p b f) e w':=by
 go_enter Tryz.func186,Tryz.ntmps186
 go_wp2_with fail
 refine(Ih p none A 0 c [] f b w (Rd.nil _ _) hf h2 h97 (jZ p) hfe hb).mono ?_;rintro e w1 ⟨A1,c1,rfl,f1,x1⟩;go_wp2;go_ret;exact⟨A1,c1,rfl,f1,x1⟩
theorem acz(p:Int)(A:Option Addr)(c:Nat)(f:List Int)(w:World)(hf:Rd w A f)(h2:2<=p)(h97:p<=97)(hfe:aA p f=true)(h0:f≠[]):
 Calls prog 204 #[.int .i64 p,.slice A f.length c] w λe w'=>LI w (eU p f) e w':=by
 have hl:=hf.len;have hfl:=axB.2 h0;obtain⟨gl,hgl⟩:∃gl:Nat,f.length=gl+1:=⟨f.length-1,by omega⟩;obtain⟨gA,sM,x,rfl,hx,hgA,hcell⟩:=hf.at_ (by omega:gl<f.length);have hxb:=bg hfe hx;have hcx:cf f (f.length-1)=x:=by rw[hgl];exact jY hx
 have Hm:=axj (show eU p f=aW p (dh p x) f by rw[eU,hcx]);have hinv:=kS x h2 (p:=p);have hgi:(f.length:Int)-1=(gl:Int):=by omega
 have V8:gl<f.length:=by omega
 have Sn:=axj hfe;clear hgl hx hcx hfe h0;go_enter Tryz.func204,Tryz.ntmps204
 go_wp2_with fail
 refine(qO p x _ h2 h97 hxb).mono ?_;rintro e w3 ⟨rfl,rfl⟩;go_wp2_with fail
 refine(DY p _ c (dh p x) f _ hf h2 h97 Sn.out (by omega)).mono ?_;rintro e w1 ⟨A1,c1,rfl,f1,x1⟩;go_wp2;go_ret;rw[<-Hm.out]at f1⊢;exact⟨A1,c1,rfl,f1,x1⟩
theorem Vh(p:Int)(A:Option Addr)(c:Nat)(f:List Int)(w:World)(hf:Rd w A f)(hF:av p=true)(hfe:aA p f=true)(h0:f≠[])(tf:Tr f):
 Calls prog 202 #[.int .i64 p,.slice A f.length c] w λe w'=>LI w (eU p f) e w':=by
 have h2:=ax hF;have h97:=aT hF;have hl:=hf.len;have hfl:=axB.2 h0;obtain⟨gl,hgl⟩:∃gl:Nat,f.length=gl+1:=⟨f.length-1,by omega⟩;obtain⟨gA,sM,x,rfl,hx,hgA,hcell⟩:=hf.at_ (by omega:gl<f.length);have hxb:=bg hfe hx;have hcx:cf f (f.length-1)=x:=by rw[hgl];exact jY hx
 have hxp:0<x:=by have:=tf.last h0;rw[hcx]at this;omega
 have Hm:=axj (show eU p f=aW p (dh p x) f by rw[eU,hcx]);have hinv:=kS x h2 (p:=p);have hgi:(f.length:Int)-1=(gl:Int):=by omega
 have V8:gl<f.length:=by omega
 have Sn:=axj hfe;have HF:=axj hF;clear hgl hx hcx hfe h0 hF;go_enter Tryz.func202,Tryz.ntmps202
 go_wp2_with fail
 refine(zG p x _ HF.out ⟨hxp,hxb.2⟩).mono ?_;rintro e w3 ⟨rfl,rfl⟩;go_wp2_with fail
 refine(vw p _ c (dh p x) f _ hf h2 h97 Sn.out (by omega)).mono ?_;rintro e w1 ⟨A1,c1,rfl,f1,x1⟩;go_wp2;go_ret;rw[<-Hm.out]at f1⊢;exact⟨A1,c1,rfl,f1,x1⟩
theorem Vg(p:Int)(A B:Option Addr)(c d:Nat)(f g:List Int)(w:World)(hf:Rd w A f)(hg:Rd w B g)(hF:av p=true)(hfe:aA p f=true)(hge:aA p g=true)(tf:Tr f)(tg:Tr g)(h0:f≠[]∨g≠[]):
 Calls prog 183 #[.int .i64 p,.slice A f.length c,.slice B g.length d] w λe w'=>LI w (bZ p f g) e w':=by
 have h2:=ax hF;have h97:=aT hF;have HF:=axj hF;have Hs:=axj (⟨hfe,hge,tf,tg,h0⟩:aA p f=true/\aA p g=true/\Tr f/\Tr g/\(f≠[]∨g≠[]));clear hF hfe hge tf tg h0;go_enter Tryz.func183,Tryz.ntmps183
 go_wp2_with fail
 go_loopw [1,2] (λa b wr=>∃(A' B':Option Addr) (c' d':Nat) (f' g':List Int),a=.slice A' f'.length c'/\b=.slice B' g'.length d'/\Rd wr A' f'/\Rd wr B' g'/\
  Hid (aA p f'=true/\aA p g'=true/\Tr f'/\Tr g'/\(f'≠[]∨g'≠[]))/\Hid (kT p f' g'=kT p f g)/\Ex w wr) (λ_ b _=>match b with| .slice _ n _=>n|_=>0)
 case atStart=>exact⟨A,B,c,d,f,g,rfl,rfl,hf,hg,Hs,axj rfl,aCQ w⟩
 case round=>
  obtain⟨A',B',c',d',f',g',rfl,rfl,hf',hg',Hs',He,hex⟩:=hrel;have hl1:=hf'.len;have hl2:=hg'.len;obtain⟨e1,e2,t1,t2,n0⟩:=Hs'.out;have He1:=axj e1;have O7:=axj e2;clear e1 e2;by_cases hg0:g'=[]
  .subst hg0;have hfn:f'≠[]:=n0.resolve_right (by simp);have hfl:=axB.2 hfn;have hbf:((f'.length:Int)==0)=false:=by simp;omega
   have hE:bZ p f g=eU p f':=by rw[bZ,<-He.out,zo]
   have HE:=axj hE;have Hfn:=axj hfn;clear hE hfn n0;go_wp2_with fail
   refine(acz p A' c' f' _ hf' h2 h97 He1.out Hfn.out).mono ?_;rintro e w1 ⟨A1,c1,rfl,f1,x1⟩;go_wp2;go_ret;rw[HE.out];exact⟨A1,c1,rfl,f1.more hex.size,hex.trans x1⟩
  .have hgl:=axB.2 hg0;have UA:=axj hg0;clear hg0 n0;go_wp2_with fail
   refine(rZ p A' B' c' d' f' g' _ hf' hg' h2 h97 He1.out O7.out UA.out).mono ?_;rintro e w1 ⟨A1,c1,A2,c2,rfl,f1,f2,_,x1⟩;have hlt:=mE HF.out He1.out O7.out t2 UA.out;go_wp2_with fail
   go_roundw;case rel=>exact⟨B',A2,d',c2,g',dY p f' g',rfl,rfl,hg'.ex x1,f2.rd,axj ⟨O7.out,mF (by omega) He1.out _,t2,mD p t1 _,.inl UA.out⟩,axj ((qW HF.out He1.out O7.out t1 t2 UA.out).symm.trans He.out),hex.trans x1⟩
   case measure=>simpa using hlt
theorem Tf(p:Int)(A B:Option Addr)(c d:Nat)(f g:List Int)(w:World)(hf:Rd w A f)(hg:Rd w B g)(hF:av p=true)(hfe:aA p f=true)(hge:aA p g=true)(tf:Tr f)(tg:Tr g)(h0:f≠[]∨g≠[]):
 Calls prog 178 #[.int .i64 p,.slice A f.length c,.slice B g.length d] w λe w'=>LI w (bZ p f g) e w':=by
 have h2:=ax hF;have HF:=axj hF;have Hs:=axj (⟨hfe,hge,tf,tg,h0⟩:aA p f=true/\aA p g=true/\Tr f/\Tr g/\(f≠[]∨g≠[]));clear hF hfe hge tf tg h0;go_enter Tryz.func178,Tryz.ntmps178
 go_wp2_with fail
 go_loopw [1,2] (λa b wr=>∃(A' B':Option Addr) (c' d':Nat) (f' g':List Int),a=.slice A' f'.length c'/\b=.slice B' g'.length d'/\Rd wr A' f'/\Rd wr B' g'/\
  Hid (aA p f'=true/\aA p g'=true/\Tr f'/\Tr g'/\(f'≠[]∨g'≠[]))/\Hid (kT p f' g'=kT p f g)/\Ex w wr) (λ_ b _=>match b with| .slice _ n _=>n|_=>0)
 case atStart=>exact⟨A,B,c,d,f,g,rfl,rfl,hf,hg,Hs,axj rfl,aCQ w⟩
 case round=>
  obtain⟨A',B',c',d',f',g',rfl,rfl,hf',hg',Hs',He,hex⟩:=hrel;have hl1:=hf'.len;have hl2:=hg'.len;obtain⟨e1,e2,t1,t2,n0⟩:=Hs'.out;have He1:=axj e1;have O7:=axj e2;clear e1 e2;by_cases hg0:g'=[]
  .subst hg0;have hfn:f'≠[]:=n0.resolve_right (by simp);have hE:bZ p f g=eU p f':=by rw[bZ,<-He.out,zo]
   have HE:=axj hE;have Hfn:=axj hfn;clear hE hfn n0;go_wp2_with fail
   refine(Vh p A' c' f' _ hf' HF.out He1.out Hfn.out t1).mono ?_;rintro e w1 ⟨A1,c1,rfl,f1,x1⟩;go_wp2;go_ret;rw[HE.out];exact⟨A1,c1,rfl,f1.more hex.size,hex.trans x1⟩
  .have hgl:=axB.2 hg0;have UA:=axj hg0;clear hg0 n0;go_wp2_with fail
   refine(JF p A' B' c' d' f' g' _ hf' hg' HF.out He1.out O7.out UA.out t1 t2).mono ?_;rintro e w1 ⟨A1,c1,A2,c2,rfl,f1,f2,_,x1⟩;have hlt:=mE HF.out He1.out O7.out t2 UA.out;go_wp2_with fail
   go_roundw;case rel=>exact⟨B',A2,d',c2,g',dY p f' g',rfl,rfl,hg'.ex x1,f2.rd,axj ⟨O7.out,mF (by omega) He1.out _,t2,mD p t1 _,.inl UA.out⟩,axj ((qW HF.out He1.out O7.out t1 t2 UA.out).symm.trans He.out),hex.trans x1⟩
   case measure=>simpa using hlt
theorem wQ:(x !=0)=decide (x≠0):=by by_cases h:x=0<;>simp[h]
theorem NF(p:Int)(A:Option Addr)(c:Nat)(f:List Int)(w:World)(hf:Rd w A f)(ht:Tb w):
 Calls prog 209 #[.int .i64 p,.slice A f.length c] w λe w'=>e=.returned (.bool (bT p f))/\w=w':=by
 have hl:=hf.len;cases hF:av p with
 |false=>
  have H:=axj (show bT p f=false by simp[bT,hF]);go_enter Tryz.func209,Tryz.ntmps209
  go_wp2_with (go_at_call 47;refine(jA _ _ ht).mono ?_;rintro e w' ⟨rfl,rfl⟩)
  go_ret;exact⟨by rw[H.out];rfl,rfl⟩
 |true=>
 by_cases h41:f.length<=41;case neg=>
  have H:=axj (show bT p f=false by simp[bT,h41]);go_enter Tryz.func209,Tryz.ntmps209
  go_wp2_with (go_at_call 47;refine(jA _ _ ht).mono ?_;rintro e w' ⟨rfl,rfl⟩)
  go_ret;exact⟨by rw[H.out];rfl,rfl⟩
 cases hE:aA p f with
 |false=>
  have H:=axj (show bT p f=false by simp[bT,hE]);go_enter Tryz.func209,Tryz.ntmps209
  go_wp2_with (first|(go_at_call 47;refine(jA _ _ ht).mono ?_;rintro e w' ⟨rfl,rfl⟩)|(go_at_call 213;refine(xI _ _ _ _ _ _ hf).mono ?_;rintro e w' ⟨rfl,rfl⟩))
  go_ret;exact⟨by rw[H.out];rfl,rfl⟩
 |true=>
 by_cases h0:f=[]
 .subst h0;have H:=axj (show bT p []=true by simp[bT,hF,hE]);go_enter Tryz.func209,Tryz.ntmps209
  go_wp2_with (first|(go_at_call 47;refine(jA _ _ ht).mono ?_;rintro e w' ⟨rfl,rfl⟩)|(go_at_call 213;refine(xI _ _ _ [] _ _ hf).mono ?_;rintro e w' ⟨rfl,rfl⟩))
  go_ret;exact⟨by rw[H.out];rfl,rfl⟩
 .have hfl:=axB.2 h0;have hb0:((f.length:Int)==0)=false:=by simp;omega
  obtain⟨gl,hgl⟩:∃gl:Nat,f.length=gl+1:=⟨f.length-1,by omega⟩;obtain⟨gA,sM,x,rfl,hx,hgA,hcell⟩:=hf.at_ (by omega:gl<f.length);have hcx:cf f (f.length-1)=x:=by rw[hgl];exact jY hx
  have H:=axj (show bT p f=(x !=0) by simp only[bT,hF,hE,h41,hcx,wQ];simp;intro h;exact absurd h h0);have hgi:(f.length:Int)-1=(gl:Int):=by omega
  have V8:gl<f.length:=by omega
  clear hgl hx hcx h0;go_enter Tryz.func209,Tryz.ntmps209
  go_wp2_with (first|(go_at_call 47;refine(jA _ _ ht).mono ?_;rintro e w' ⟨rfl,rfl⟩)|(go_at_call 213;refine(xI _ _ _ _ _ _ hf).mono ?_;rintro e w' ⟨rfl,rfl⟩))
  go_ret;exact⟨by rw[H.out];rfl,rfl⟩
theorem iq(p:Int)(A:Option Addr)(c:Nat)(f:List Int)(w:World)(hf:Rd w A f):
 Calls prog 176 #[.int .i64 p,.slice A f.length c] w λe w'=>e=.returned (.bool (bT p f))/\w=w':=by
 have hl:=hf.len;cases hF:av p with
 |false=>
  have H:=axj (show bT p f=false by simp[bT,hF]);go_enter Tryz.func176,Tryz.ntmps176
  go_wp2_with (go_at_call 69;refine(mI _ _).mono ?_;rintro e w' ⟨rfl,rfl⟩)
  go_ret;exact⟨by rw[H.out];rfl,rfl⟩
 |true=>
 have h2:=ax hF;have h97:=aT hF;by_cases h41:f.length<=41;case neg=>
  have H:=axj (show bT p f=false by simp[bT,h41]);go_enter Tryz.func176,Tryz.ntmps176
  go_wp2_with (go_at_call 69;refine(mI _ _).mono ?_;rintro e w' ⟨rfl,rfl⟩)
  go_ret;exact⟨by rw[H.out];rfl,rfl⟩
 cases hE:aA p f with
 |false=>
  have H:=axj (show bT p f=false by simp[bT,hE]);go_enter Tryz.func176,Tryz.ntmps176
  go_wp2_with (first|(go_at_call 69;refine(mI _ _).mono ?_;rintro e w' ⟨rfl,rfl⟩)|(go_at_call 201;refine(RJ _ _ _ _ _ hf h2 h97).mono ?_;rintro e w' ⟨rfl,rfl⟩))
  go_ret;exact⟨by rw[H.out];rfl,rfl⟩
 |true=>
 by_cases h0:f=[]
 .subst h0;have H:=axj (show bT p []=true by simp[bT,hF,hE]);go_enter Tryz.func176,Tryz.ntmps176
  go_wp2_with (first|(go_at_call 69;refine(mI _ _).mono ?_;rintro e w' ⟨rfl,rfl⟩)|(go_at_call 201;refine(RJ _ _ _ [] _ hf h2 h97).mono ?_;rintro e w' ⟨rfl,rfl⟩))
  go_ret;exact⟨by rw[H.out];rfl,rfl⟩
 .have hfl:=axB.2 h0;have hb0:((f.length:Int)==0)=false:=by simp;omega
  obtain⟨gl,hgl⟩:∃gl:Nat,f.length=gl+1:=⟨f.length-1,by omega⟩;obtain⟨gA,sM,x,rfl,hx,hgA,hcell⟩:=hf.at_ (by omega:gl<f.length);have hcx:cf f (f.length-1)=x:=by rw[hgl];exact jY hx
  have H:=axj (show bT p f=(x !=0) by simp only[bT,hF,hE,h41,hcx,wQ];simp;intro h;exact absurd h h0);have hgi:(f.length:Int)-1=(gl:Int):=by omega
  have V8:gl<f.length:=by omega
  clear hgl hx hcx h0;go_enter Tryz.func176,Tryz.ntmps176
  go_wp2_with (first|(go_at_call 69;refine(mI _ _).mono ?_;rintro e w' ⟨rfl,rfl⟩)|(go_at_call 201;refine(RJ _ _ _ _ _ hf h2 h97).mono ?_;rintro e w' ⟨rfl,rfl⟩))
  go_ret;exact⟨by rw[H.out];rfl,rfl⟩
def RdV(w:World)(A:Option Addr)(vs:List Value):Prop:=
 vs.length<=1099511627776/\∀(j:Nat) (v:Value),vs[j]?=some v->∃g off,A=some ⟨g,off,none⟩/\w.cell? ⟨g,off+j,none⟩=some v
def IsS(w:World)(v:Value)(xs:List Int):Prop:=∃A c,v=.slice A xs.length c/\Rd w A xs
theorem RdV.at_{A:Option Addr}{vs:List Value}(h:RdV w A vs)(hk:k<vs.length):
 ∃g off v,A=some ⟨g,off,none⟩/\vs[k]?=some v/\g<w.heap.size/\w.cell? ⟨g,off+k,none⟩=some v:=by
 obtain⟨g,off,hA,hc⟩:=h.2 k _ (axn hk);exact⟨g,off,_,hA,axn hk,jC hc,hc⟩
theorem RdV.ex{w':World}{A:Option Addr}{vs:List Value}(h:RdV w A vs)(he:Ex w w'):RdV w' A vs:=
 ⟨h.1,λj v hj=>by
  obtain⟨g,off,hA,hc⟩:=h.2 j v hj;exact⟨g,off,hA,(axP (w:=w) (a:=⟨g,off+j,none⟩) (he.block (jC (p:=⟨g,off+j,none⟩) hc))).trans hc⟩⟩
theorem Sd(p:Int)(A:Option Addr)(c:Nat)(vs:List Value)(xss:List (List Int))(w:World)(h:RdV w A vs)(hx:∀(j:Nat) (v:Value),vs[j]?=some v->∃xs,xss[j]?=some xs/\IsS w v xs)(hl:xss.length=vs.length)(ht:Tb w):
 Calls prog 190 #[.int .i64 p,.slice A vs.length c] w λe w'=>e=.returned (.bool (xss.all (bT p)&&av p))/\w=w':=by
 have hl1:=h.1;have Hl:=axj hl;have Hx:=axj hx;clear hl hx;go_enter Tryz.func190,Tryz.ntmps190
 go_wp2_with fail
 go_loop [9] (λi=>∃k:Nat,k<=vs.length/\Hid ((xss.take k).all (bT p)=true)/\i=.int .i64 k) (λi=>vs.length-(intOf i).toNat)
 case atStart=>exact⟨0,axq _,rfl,rfl⟩
 case round=>
  obtain⟨k,hk,fH,rfl⟩:=hrel;by_cases hlt:k<vs.length
  .obtain⟨g,off,v,rfl,hv,hg,hc⟩:=h.at_ hlt;obtain⟨xs,hxs,A',c',rfl,hr⟩:=Hx.out k v hv;have Hxs:=axj hxs;clear hv hxs;cases hp:bT p xs with
   |true=>
    have Hp:=axj hp;go_wp2_with (go_at_call 209;refine(NF _ _ _ _ _ hr ht).mono ?_;rintro e w' ⟨rfl,rfl⟩)
    go_round
    case rel=>exact⟨k+1,by omega,by
     show _=true;rw[axy,Hxs.out,ayK,fH.out];simp[Hp.out],by go_num⟩
    case measure=>simp[intOf]<;>omega
   |false=>
    have Hp:=axj hp;go_wp2_with (go_at_call 209;refine(NF _ _ _ _ _ hr ht).mono ?_;rintro e w' ⟨rfl,rfl⟩)
    go_ret;exact⟨aI (by rw[ayJ.2 ⟨xs,axo Hxs.out,by simp[Hp.out]⟩];rfl),rfl⟩
  .obtain rfl:k=vs.length:=by omega
   go_wp2_with (go_at_call 47;refine(jA _ _ ht).mono ?_;rintro e w' ⟨rfl,rfl⟩)
   go_ret;exact⟨aI (by have:=fH.out;rw[<-Hl.out,axE]at this;rw[this];rfl),rfl⟩
theorem pM(A B:Option Addr)(c d:Nat)(xs ys:List Int)(w:World)(h:Rd w A xs)(h':Rd w B ys):
 Calls prog 99 #[.slice A xs.length c,.slice B ys.length d] w λe w'=>e=.returned (.bool (decide (xs=ys)))/\Ex w w':=by
 have hl:=h.len;have hl':=h'.len;by_cases hn:xs.length=ys.length;case neg=>
  have hb:((xs.length:Int) !=(ys.length:Int))=true:=by simp;omega
  have he:decide (xs=ys)=false:=by simp;intro e;exact hn (by rw[e])
  have He:=axj he;clear he;go_enter Tryz.func99,Tryz.ntmps99
  go_wp2;go_ret;exact⟨by rw[He.out];rfl,aCQ w⟩
 have hb:((xs.length:Int) !=(ys.length:Int))=false:=by simp;omega
 have hn2:ys.length<=xs.length:=by omega
 have VZ:xs.length<=ys.length:=by omega
 have Hn:=axj hn;clear hn;go_enter Tryz.func99,Tryz.ntmps99
 go_wp2;go_loopw [13] (λi wr=>∃k:Nat,k<=xs.length/\i=.int .i64 k/\Hid (xs.take k=ys.take k)/\∃n,wr=w.drewN n) (λi _=>xs.length-(intOf i).toNat)
 case atStart=>exact⟨0,axq _,rfl,rfl,0,rfl⟩
 case round=>
  obtain⟨k,hk,rfl,He,n,rfl⟩:=hrel;by_cases hlt:k<xs.length
  .have hlt2:k<ys.length:=by omega
   obtain⟨g,off,x,rfl,hx,hg,hc⟩:=h.at_ hlt;obtain⟨g',off',y,rfl,hy,hg',hc'⟩:=h'.at_ hlt2;have Hx:=axj hx;have Hy:=axj hy;clear hx hy;by_cases hxy:x=y
   .subst hxy;go_wp2;go_quiet (fail)
    go_wp2;go_roundw;case rel=>exact⟨k+1,by omega,by go_num,by
     show _=_;rw[axy,axy,Hx.out,Hy.out,He.out],_,rfl⟩
    case measure=>simp[intOf]<;>omega
   .have hbx:(x !=y)=true:=by simpa using hxy
    have he:decide (xs=ys)=false:=by simp;rintro rfl;have:=Hx.out;rw[Hy.out]at this;injection this with this;exact hxy this.symm
    have O7:=axj he;clear he hxy;go_wp2;go_quiet (fail)
    go_wp2;go_ret;exact⟨by rw[O7.out];rfl,((aCQ w).drewN _).drewN _⟩
  .obtain rfl:k=xs.length:=by omega
   have he:decide (xs=ys)=true:=by have:=He.out;rw[axE,axG (by omega)]at this;simpa using this
   have O7:=axj he;clear he;go_wp2;go_ret;exact⟨by rw[O7.out];rfl,(aCQ w).drewN _⟩
def FF(w:World)(num den:List Int)(e:Ending)(w':World):Prop:=
 ∃A c B d,e=.returned (.agg #[.slice A num.length c,.slice B den.length d])/\Fr w' w.heap.size A c num/\Fr w' w.heap.size B d den/\Apart A B/\Ex w w'
theorem yT(p:Int)(A B:Option Addr)(c d:Nat)(num den:List Int)(w:World)(hn:Rd w A num)(hd:Rd w B den)(hF:av p=true)(hne:aA p num=true)(hde:aA p den=true)(tn:Tr num)(td:Tr den)(hd0:den≠[]):
 Calls prog 153 #[.int .i64 p,.slice A num.length c,.slice B den.length d] w λe w'=>FF w (a_ p num den) (aY p num den) e w':=by
 have hl:=hn.len;have hl':=hd.len;by_cases hn0:num=[]
 .subst hn0;have H1:=axj (show a_ p [] den=[] by rw[a_,axl rfl]);have H2:=axj (show aY p [] den=[1] by rw[aY,axl rfl]);clear hF hne hde hd0;go_enter Tryz.func153,Tryz.ntmps153
  go_wp2;refine axu (v:=.agg #[.slice (some ⟨w.heap.size+1,0,none⟩) 0 0,.slice (some ⟨w.heap.size+1+1,0,none⟩) 1 1]) (by simp[results,Tryz.results153,go_sem]) rfl ?_;rw[H1.out,H2.out];generalize hW:w.alloc (Obj.cells #[.slice (some ⟨w.heap.size+1,0,none⟩) 0 0,.slice (some ⟨w.heap.size+1+1,0,none⟩) 1 1] 57)=w1;have s1:w1.heap.size=w.heap.size+1:=by rw[<-hW];simp
  have x1:Ex w w1:=by rw[<-hW];exact(aCQ w).alloc _
  have o1:Own (w1.alloc (aN [])) w1.heap.size []:=Own.new w1 [];have x2:Ex w1 (w1.alloc (aN [])):=(aCQ w1).alloc _;have s2:(w1.alloc (aN [])).heap.size=w1.heap.size+1:=by simp
  have o2:Own ((w1.alloc (aN [])).alloc (aN [1])) (w1.alloc (aN [])).heap.size [1]:=Own.new _ [1];have x3:Ex (w1.alloc (aN [])) ((w1.alloc (aN [])).alloc (aN [1])):=(aCQ _).alloc _;rw[s2]at o2;have o1':=o1.ex x3;rw[s1]at o1' o2;exact⟨_,0,_,1,rfl,o1'.fr (by simp) (by omega) (axk _),o2.fr (by simp) (by omega) (axk _),iA (by omega),(x1.trans x2).trans x3⟩
 .have h2:=ax hF;have h97:=aT hF;have hnl:=axB.2 hn0;have hnb:((num.length:Int)==0)=false:=by simp;omega
  obtain⟨hml,hg1,hgd⟩:=qK hF hne hde tn td hd0;have Hg:=axj (lW hF hne hde tn td (.inr hd0));have Sm:=axj (nD (p:=p) (by omega) num den);have HM:=axj (show bH p den (bZ p num den)=dQ p num den from rfl);have hme:aA p (dQ p num den)=true:=kP (by omega) hde _;obtain⟨ml,ZJ⟩:∃ml:Nat,(dQ p num den).length=ml+1:=⟨den.length-(bZ p num den).length,hml⟩;have HB:=axj (show jG p num den=dh p (cf (dQ p num den) ((dQ p num den).length-1))from rfl);have HN:=axj (show a_ p num den=aW p (jG p num den) (bH p num (bZ p num den)) by rw[a_,axm hn0]);have HD:=axj (show aY p num den=aW p (jG p num den) (dQ p num den) by rw[aY,axm hn0]);have Hqe:=axj (kP (p:=p) (by omega) hne (bZ p num den));have Hme:=axj hme;have Uz:=axj hne;have UB:=axj hde;have HF:=axj hF;have Hd0:=axj hd0;have KT:=axj ZJ;clear hne hde hF hd0 hn0 hml ZJ hme;go_enter Tryz.func153,Tryz.ntmps153
  go_wp2_with fail
  generalize hW:w.alloc (Obj.cells _ 57)=w1;have hb1:w1.heap[w.heap.size]?=some (.cells #[.slice none 0 0,.slice none 0 0] 57 (0,0)):=by rw[<-hW];exact heap_alloc_new w _
  have s1:w1.heap.size=w.heap.size+1:=by rw[<-hW];simp
  have x1:Ex w w1:=by rw[<-hW];exact(aCQ w).alloc _
  clear hW;refine(Vg p A B c d num den w1 (hn.ex x1) (hd.ex x1) HF.out Uz.out UB.out tn td (.inr Hd0.out)).mono ?_;rintro e w2 ⟨A2,c2,rfl,f2,x2⟩;have xw2:=x1.trans x2;go_wp2_with fail
  refine(rZ p A A2 c c2 num _ w2 (hn.ex xw2) f2.rd h2 h97 Uz.out Sm.out Hg.out).mono ?_;rintro e w3 ⟨A3,c3,A3',c3',rfl,f3,_,_,x3⟩;have xw3:=xw2.trans x3;go_wp2_with fail
  refine(rZ p B A2 d c2 den _ w3 (hd.ex xw3) (f2.rd.ex x3) h2 h97 UB.out Sm.out Hg.out).mono ?_;rintro e w4 ⟨A4,c4,A4',c4',rfl,f4,_,_,x4⟩;rw[HM.out]at f4⊢;have xw4:=xw3.trans x4;obtain⟨gA,sM,x,rfl,hx,hgA,hcell⟩:=f4.rd.at_ (by rw[KT.out];omega:ml<(dQ p num den).length);have hxb:=bg Hme.out hx;have Hcx:=axj (show cf (dQ p num den) ((dQ p num den).length-1)=x by rw[KT.out];exact jY hx);have hmi:((dQ p num den).length:Int)-1=(ml:Int):=by have:=KT.out;omega
  have hm2:ml<(dQ p num den).length:=by have:=KT.out;omega
  have hm3:=f4.rd.len;clear hx;go_wp2_with fail
  refine(qO p x w4 h2 h97 hxb).mono ?_;rintro e w5 ⟨rfl,rfl⟩;have hib:=kS x h2 (p:=p);rw[<-Hcx.out,<-HB.out]at hib⊢;clear hcell hmi;go_wp2_with fail
  refine(DY p A3 c3 _ _ w4 (f3.rd.ex x4) h2 h97 Hqe.out (by omega)).mono ?_;rintro e w6 ⟨A6,c6,rfl,f6,x6⟩;rw[<-HN.out]at f6⊢;go_wp2_with fail
  refine(DY p _ c4 _ _ w6 (f4.rd.ex x6) h2 h97 Hme.out (by omega)).mono ?_;rintro e w7 ⟨A7,c7,rfl,f7,x7⟩;rw[<-HD.out]at f7⊢;have x27:=((x2.trans x3).trans x4).trans (x6.trans x7);have hb7:w7.heap[w.heap.size]?=some (.cells #[.slice none 0 0,.slice none 0 0] 57 (0,0)):=(x27.block (by omega)).trans hb1;have an7:w7.cell? ⟨w.heap.size,0,none⟩=some (.slice none 0 0):=by simp[World.cell?,hb7]
  have an6:w7.cell? ⟨w.heap.size,1,none⟩=some (.slice none 0 0):=by simp[World.cell?,hb7]
  have aui:w7.frozen? ⟨w.heap.size,0,none⟩=false:=by simp[World.frozen?,hb7]
  have auh:w7.frozen? ⟨w.heap.size,1,none⟩=false:=by simp[World.frozen?,hb7]
  have S1:=axj s1;clear hb7 hb1 s1;go_wp2_with fail
  have y1:aM w.heap.size w7 (w7.setCell ⟨w.heap.size,0,none⟩ (.slice A6 (a_ p num den).length c6)):=(aM.refl _ _).setCell rfl _;have y2:=y1.setCell (p:=⟨w.heap.size,1,none⟩) rfl (.slice A7 (aY p num den).length c7);have d0:((w7.setCell ⟨w.heap.size,0,none⟩ (.slice A6 (a_ p num den).length c6)).setCell ⟨w.heap.size,1,none⟩ (.slice A7 (aY p num den).length c7)).cell? ⟨w.heap.size,0,none⟩=some (.slice A6 (a_ p num den).length c6):=by rw[ayV _ _ _ _ (by intro e;injection e with _ e;cases e)];exact World.cell?_setCell_same _ _ _ an7
  have d1:((w7.setCell ⟨w.heap.size,0,none⟩ (.slice A6 (a_ p num den).length c6)).setCell ⟨w.heap.size,1,none⟩ (.slice A7 (aY p num den).length c7)).cell? ⟨w.heap.size,1,none⟩=some (.slice A7 (aY p num den).length c7):=by refine World.cell?_setCell_same _ _ _ (u:=.slice none 0 0) ?_;rw[ayV _ _ _ _ (by intro e;injection e with _ e;cases e)];exact an6
  generalize(w7.setCell ⟨w.heap.size,0,none⟩ (.slice A6 (a_ p num den).length c6)).setCell ⟨w.heap.size,1,none⟩ (.slice A7 (aY p num den).length c7)=w8 at*;refine axu (v:=.agg #[.slice A6 (a_ p num den).length c6,.slice A7 (aY p num den).length c7]) (by simp[results,Tryz.results153,go_sem,d0,d1]) rfl ?_;have z1:=S1.out;have z2:=x2.size;have z3:=x3.size;have z4:=x4.size;have z6:=x6.size;have z7:=x7.size;have g6:=(f6.ex x7).aK y2 (f6.hi.off (by omega));have g7:=f7.aK y2 (f7.hi.off (by omega));exact⟨A6,c6,A7,c7,rfl,g6.more (by omega),g7.more (by omega),Apart.aiD f6.lo f7.hi,((xw4.trans x6).trans x7).aK y2 (axk _)⟩
theorem aoU(w:World)(a b:Value)(t:TypeId):(w.alloc (.cells #[a,b] t)).cell? ⟨w.heap.size,0,none⟩=some a/\(w.alloc (.cells #[a,b] t)).cell? ⟨w.heap.size,1,none⟩=some b:=by constructor<;>(rw[World.cell?_alloc_at _ _ _ _ rfl];rfl)
theorem aa3(w:World)(a b:Value)(t:TypeId)(o:Obj):((w.alloc (.cells #[a,b] t)).alloc o).cell? ⟨w.heap.size,0,none⟩=some a/\((w.alloc (.cells #[a,b] t)).alloc o).cell? ⟨w.heap.size,1,none⟩=some b:=by
 have h:=aoU w a b t;constructor
 .rw[World.cell?_alloc_past _ _ _ (by simp)];exact h.1
 .rw[World.cell?_alloc_past _ _ _ (by simp)];exact h.2
theorem tC(w:World)(a b:Value)(t:TypeId)(o:Obj):((w.alloc o).alloc (.cells #[a,b] t)).cell? ⟨w.heap.size+1,0,none⟩=some a/\((w.alloc o).alloc (.cells #[a,b] t)).cell? ⟨w.heap.size+1,1,none⟩=some b:=by constructor<;>(rw[World.cell?_alloc_at _ _ _ _ (by simp)];rfl)
theorem lS(A B A' B':Option Addr)(c d c' d':Nat)(n m n' m':List Int)(w:World)(h1:Rd w A n)(h2:Rd w B m)(h3:Rd w A' n')(h4:Rd w B' m'):
 Calls prog 64 #[.agg #[.slice A n.length c,.slice B m.length d],.agg #[.slice A' n'.length c',.slice B' m'.length d']] w λe w'=>e=.returned (.bool (decide (n=n')&&decide (m=m')))/\Ex w w':=by
 have x0:∀(a b:Obj),Ex w ((w.alloc a).alloc b):=λa b=>((aCQ w).alloc a).alloc b
 by_cases hn:n=n'
 .have hd:decide (n=n')=true:=by simpa using hn
  have Hd:=axj hd;clear hn;go_enter Tryz.func64,Tryz.ntmps64
  go_wp2_with fail
  refine(pM A A' c c' n n' _ (h1.ex (x0 _ _)) (h3.ex (x0 _ _))).mono ?_;rintro e w1 ⟨rfl,x1⟩;have c0:=af x1 (g:=w.heap.size) (o:=1) (v:=.slice B m.length d) (aa3 _ _ _ _ _).2;have c1:=af x1 (g:=w.heap.size+1) (o:=1) (v:=.slice B' m'.length d') (tC _ _ _ _ _).2;have xx:=(x0 _ _).trans x1;clear x0 x1;rw[hd];clear hd;go_wp2_with fail
  refine(pM B B' d d' m m' _ (h2.ex xx) (h4.ex xx)).mono ?_;rintro e w2 ⟨rfl,x2⟩;go_wp2;go_ret;exact⟨by rw[Hd.out];rfl,xx.trans x2⟩
 .have hd:decide (n=n')=false:=by simpa using hn
  have Hd:=axj hd;clear hn;go_enter Tryz.func64,Tryz.ntmps64
  go_wp2_with fail
  refine(pM A A' c c' n n' _ (h1.ex (x0 _ _)) (h3.ex (x0 _ _))).mono ?_;rintro e w1 ⟨rfl,x1⟩;have xx:=(x0 _ _).trans x1;clear x0 x1;rw[hd];clear hd;go_wp2;go_ret;exact⟨by rw[Hd.out];rfl,xx⟩
theorem mJ(p:Int)(g:Nat)(A B:Option Addr)(c d:Nat)(f h:List Int)(w:World)(h0:w.cell? ⟨g,0,none⟩=some (.slice A f.length c))(h1:w.cell? ⟨g,1,none⟩=some (.slice B h.length d))(r1:Rd w A f)(r2:Rd w B h)(ht:Tb w):
 Calls prog 190 #[.int .i64 p,.slice (some ⟨g,0,none⟩) 2 2] w λe w'=>e=.returned (.bool (bT p f&&bT p h))/\w=w':=by
 have hpa:([f,h].all (bT p)&&av p)=(bT p f&&bT p h):=by
  simp only[ayA,ayG,Bool.and_true];cases h1:bT p f
  .rfl
  .rw[(iE h1).1,Bool.and_true]
 have:=Sd p (some ⟨g,0,none⟩) 2 [.slice A f.length c,.slice B h.length d] [f,h] w ⟨by simp,λj v hj=>by
  match j with
  |0=>injection hj with hj;subst hj;exact⟨g,0,rfl,h0⟩
  |1=>injection hj with hj;subst hj;exact⟨g,0,rfl,h1⟩
  |j+2=>cases hj⟩ (λj v hj=>by
  match j with
  |0=>injection hj with hj;subst hj;exact⟨f,rfl,A,c,rfl,r1⟩
  |1=>injection hj with hj;subst hj;exact⟨h,rfl,B,d,rfl,r2⟩
  |j+2=>cases hj) rfl ht
 rw[hpa]at this;exact this
theorem y_(p:Int)(A B:Option Addr)(c d:Nat)(num den:List Int)(w:World)(hn:Rd w A num)(hd:Rd w B den)(ht:Tb w):
 Calls prog 167 #[.int .i64 p,.agg #[.slice A num.length c,.slice B den.length d]] w λe w'=>e=.returned (.bool (dm p num den))/\Ex w w':=by
 have hl1:=hn.len;have hl2:=hd.len;have x0:∀(a b:Obj),Ex w ((w.alloc a).alloc b):=λa b=>((aCQ w).alloc a).alloc b
 cases hpp:(bT p num&&bT p den)with
 |false=>
  have H:=axj (show dm p num den=false by simp[dm,hpp]);have Hp:=axj hpp;clear hpp;go_enter Tryz.func167,Tryz.ntmps167
  go_wp2_with fail
  refine(mJ p _ A B c d num den _ (tC _ _ _ _ _).1 (tC _ _ _ _ _).2 (hn.ex (x0 _ _)) (hd.ex (x0 _ _)) (ht.ex (x0 _ _))).mono ?_;rintro e w1 ⟨rfl,rfl⟩;rw[Hp.out];go_wp2;go_ret;exact⟨by rw[H.out];rfl,x0 _ _⟩
 |true=>
  have Hp:=axj hpp;have acV:bT p num=true/\bT p den=true:=by simpa using hpp
  obtain⟨hF,_,hne,tn⟩:=iE acV.1;obtain⟨_,_,hde,td⟩:=iE acV.2;have HF:=axj hF;have Uz:=axj hne;have UB:=axj hde;have Hpp:=axj acV;clear hpp acV hF hne hde;by_cases ajq:num.length<=21;case neg=>
   have H:=axj (show dm p num den=false by simp[dm,ajq]);go_enter Tryz.func167,Tryz.ntmps167
   go_wp2_with fail
   refine(mJ p _ A B c d num den _ (tC _ _ _ _ _).1 (tC _ _ _ _ _).2 (hn.ex (x0 _ _)) (hd.ex (x0 _ _)) (ht.ex (x0 _ _))).mono ?_;rintro e w1 ⟨rfl,rfl⟩;rw[Hp.out];go_wp2_with (go_at_call 191;refine(zI _ _ _ _ (by omega)).mono ?_;rintro e w' ⟨rfl,rfl⟩)
   go_ret;exact⟨by rw[H.out];rfl,x0 _ _⟩
  by_cases ajH:den.length<=21;case neg=>
   have H:=axj (show dm p num den=false by simp[dm,ajH]);go_enter Tryz.func167,Tryz.ntmps167
   go_wp2_with fail
   refine(mJ p _ A B c d num den _ (tC _ _ _ _ _).1 (tC _ _ _ _ _).2 (hn.ex (x0 _ _)) (hd.ex (x0 _ _)) (ht.ex (x0 _ _))).mono ?_;rintro e w1 ⟨rfl,rfl⟩;rw[Hp.out];go_wp2_with (go_at_call 191;refine(zI _ _ _ _ (by omega)).mono ?_;rintro e w' ⟨rfl,rfl⟩)
   go_ret;exact⟨by rw[H.out];rfl,x0 _ _⟩
  by_cases hd0:den=[]
  .have H:=axj (show dm p num den=false by simp[dm,hd0]);subst hd0;go_enter Tryz.func167,Tryz.ntmps167
   go_wp2_with fail
   refine(mJ p _ A B c d num [] _ (tC _ _ _ _ _).1 (tC _ _ _ _ _).2 (hn.ex (x0 _ _)) (hd.ex (x0 _ _)) (ht.ex (x0 _ _))).mono ?_;rintro e w1 ⟨rfl,rfl⟩;rw[Hp.out];go_wp2_with (go_at_call 191;refine(zI _ _ _ _ (by omega)).mono ?_;rintro e w' ⟨rfl,rfl⟩)
   go_ret;exact⟨by rw[H.out];rfl,x0 _ _⟩
  .have hdl:=axB.2 hd0;have hdb:((den.length:Int)==0)=false:=by simp;omega
   have hs:=Nq HF.out Uz.out UB.out tn td hd0;have H:=axj (show dm p num den=(decide (a_ p num den=num)&&decide (aY p num den=den)) by
    have:=Hpp.out;rw[ayB];simp only[dm,this.1,this.2,ajq,ajH,axU,decide_eq_true_eq,hs];simp[hd0])
   have Hd0:=axj hd0;clear hs hd0;go_enter Tryz.func167,Tryz.ntmps167
   go_wp2_with fail
   refine(mJ p _ A B c d num den _ (tC _ _ _ _ _).1 (tC _ _ _ _ _).2 (hn.ex (x0 _ _)) (hd.ex (x0 _ _)) (ht.ex (x0 _ _))).mono ?_;rintro e w1 ⟨rfl,rfl⟩;rw[Hp.out];go_wp2_with (go_at_call 191;refine(zI _ _ _ _ (by omega)).mono ?_;rintro e w' ⟨rfl,rfl⟩)
   have xx:=x0 (Obj.cells #[.slice A num.length c,.slice B den.length d] 57) (Obj.cells #[.slice A num.length c,.slice B den.length d] 55);have cc:=aa3 w (.slice A num.length c) (.slice B den.length d) 57 (Obj.cells #[.slice A num.length c,.slice B den.length d] 55);obtain⟨cc0,cc1⟩:=cc;generalize(w.alloc (Obj.cells #[.slice A num.length c,.slice B den.length d] 57)).alloc (Obj.cells #[.slice A num.length c,.slice B den.length d] 55)=W at*;have hnW:=hn.ex xx;have hdW:=hd.ex xx;go_region_with (first
    |(go_at_call 153
      refine(yT p A B c d num den W.drew hnW hdW HF.out Uz.out UB.out tn td Hd0.out).mono ?_;rintro e w2 ⟨A2,c2,B2,d2,rfl,f2,g2,_,x2⟩;have e0:=af x2 (g:=w.heap.size) (o:=0) (v:=.slice A num.length c) cc0;have e1:=af x2 (g:=w.heap.size) (o:=1) (v:=.slice B den.length d) cc1)
    |(go_at_call 64
      refine(lS A2 B2 A B c2 d2 c d _ _ num den _ f2.rd g2.rd (hnW.drew.ex x2) (hdW.drew.ex x2)).mono ?_;rintro e w3 ⟨rfl,x3⟩))
   all_goals go_wp2
   all_goals go_ret
   all_goals exact⟨by rw[H.out];rfl,(xx.drew.trans x2).trans x3⟩
theorem uO(A:Option Addr)(c n:Nat)(w:World)(hn:n<=1099511627776):Calls prog 177 #[.slice A n c] w λe w'=>e=.returned (.bool (decide (n<=21)))/\w=w':=by
 go_enter Tryz.func177,Tryz.ntmps177
 go_wp2;go_ret;exact⟨aI (by simp;omega),rfl⟩
theorem Oa(p:Int)(A B:Option Addr)(c d:Nat)(num den:List Int)(w:World)(hn:Rd w A num)(hd:Rd w B den):
 Calls prog 147 #[.int .i64 p,.agg #[.slice A num.length c,.slice B den.length d]] w λe w'=>e=.returned (.bool (dm p num den))/\Ex w w':=by
 have hl1:=hn.len;have hl2:=hd.len;have x0:∀(a:Obj),Ex w (w.alloc a):=λa=>(aCQ w).alloc a
 cases h1:bT p num with
 |false=>
  have H:=axj (show dm p num den=false by simp[dm,h1]);go_enter Tryz.func147,Tryz.ntmps147
  go_wp2_with (go_at_call 176;refine(iq _ _ _ _ _ (hn.ex (x0 _))).mono ?_;rintro e w' ⟨rfl,rfl⟩)
  go_ret;exact⟨by rw[H.out];rfl,x0 _⟩
 |true=>
 cases h2:bT p den with
 |false=>
  have H:=axj (show dm p num den=false by simp[dm,h2]);go_enter Tryz.func147,Tryz.ntmps147
  go_wp2_with fail
  refine(iq _ _ _ _ _ (hn.ex (x0 _))).mono ?_;rintro e w' ⟨rfl,rfl⟩;go_wp2_with fail
  refine(iq _ _ _ _ _ (hd.ex (x0 _))).mono ?_;rintro e w' ⟨rfl,rfl⟩;go_wp2;go_ret;exact⟨by rw[H.out];rfl,x0 _⟩
 |true=>
 by_cases h3:num.length<=21;case neg=>
  have H:=axj (show dm p num den=false by simp[dm,h3]);have h3':decide (num.length<=21)=false:=by simpa using h3
  go_enter Tryz.func147,Tryz.ntmps147
  go_wp2_with fail
  refine(iq _ _ _ _ _ (hn.ex (x0 _))).mono ?_;rintro e w' ⟨rfl,rfl⟩;go_wp2_with fail
  refine(iq _ _ _ _ _ (hd.ex (x0 _))).mono ?_;rintro e w' ⟨rfl,rfl⟩;go_wp2_with (go_at_call 177;refine(uO _ _ _ _ (by omega)).mono ?_;rintro e w' ⟨rfl,rfl⟩)
  go_ret;exact⟨by rw[H.out];rfl,x0 _⟩
 by_cases h4:den.length<=21;case neg=>
  have H:=axj (show dm p num den=false by simp[dm,h4]);go_enter Tryz.func147,Tryz.ntmps147
  go_wp2_with fail
  refine(iq _ _ _ _ _ (hn.ex (x0 _))).mono ?_;rintro e w' ⟨rfl,rfl⟩;go_wp2_with fail
  refine(iq _ _ _ _ _ (hd.ex (x0 _))).mono ?_;rintro e w' ⟨rfl,rfl⟩;go_wp2_with (go_at_call 177;refine(uO _ _ _ _ (by omega)).mono ?_;rintro e w' ⟨rfl,rfl⟩)
  go_ret;exact⟨by rw[H.out];rfl,x0 _⟩
 by_cases h5:den=[]
 .have H:=axj (show dm p num den=false by simp[dm,h5]);subst h5;go_enter Tryz.func147,Tryz.ntmps147
  go_wp2_with fail
  refine(iq _ _ _ _ _ (hn.ex (x0 _))).mono ?_;rintro e w' ⟨rfl,rfl⟩;go_wp2_with fail
  refine(iq _ _ _ [] _ (hd.ex (x0 _))).mono ?_;rintro e w' ⟨rfl,rfl⟩;go_wp2_with (go_at_call 177;refine(uO _ _ _ _ (by omega)).mono ?_;rintro e w' ⟨rfl,rfl⟩)
  go_ret;exact⟨by rw[H.out];rfl,x0 _⟩
 have hdl:=axB.2 h5;have hdb:((den.length:Int)==0)=false:=by simp;omega
 obtain⟨gl,hgl⟩:∃gl:Nat,den.length=gl+1:=⟨den.length-1,by omega⟩;obtain⟨gA,sM,x,rfl,hx,hgA,hcell⟩:=hd.at_ (by omega:gl<den.length);have hcx:cf den (den.length-1)=x:=by rw[hgl];exact jY hx
 have hgi:(den.length:Int)-1=(gl:Int):=by omega
 have V8:gl<den.length:=by omega
 have hc1:∀o,(w.alloc o).cell? ⟨gA,sM+gl,none⟩=some (.int .i64 x):=λo=>af (x0 o) hcell
 by_cases h6:x=1
 .subst h6;obtain⟨hF,_,hne,tn⟩:=iE h1;obtain⟨_,_,hde,td⟩:=iE h2;have H:=axj (show dm p num den=decide ((bZ p num den).length=1) by simp[dm,h1,h2,h3,h4,h5,hcx]);have HF:=axj hF;have Uz:=axj hne;have UB:=axj hde;have H5:=axj h5;clear hgl hx hcx hcell hF hne hde h5;go_enter Tryz.func147,Tryz.ntmps147
  go_wp2_with fail
  refine(iq _ _ _ _ _ (hn.ex (x0 _))).mono ?_;rintro e w' ⟨rfl,rfl⟩;go_wp2_with fail
  refine(iq _ _ _ _ _ (hd.ex (x0 _))).mono ?_;rintro e w' ⟨rfl,rfl⟩;go_wp2_with (go_at_call 177;refine(uO _ _ _ _ (by omega)).mono ?_;rintro e w' ⟨rfl,rfl⟩)
  refine(Tf p A _ c d num den _ (hn.ex (x0 _)) (hd.ex (x0 _)) HF.out Uz.out UB.out tn td (.inr H5.out)).mono ?_;rintro e w1 ⟨A1,c1,rfl,f1,x1⟩;have xx:=(x0 _).trans x1;clear hc1 x0 h1 h2;go_wp2_with fail
  go_ret;exact⟨by rw[H.out];exact aI (by rw[ayB];simp;omega),xx⟩
 .have H:=axj (show dm p num den=false by simp[dm,hcx,h6]);have hxb:(x !=1)=true:=by simpa using h6
  clear hgl hx hcx hcell h5 h6;go_enter Tryz.func147,Tryz.ntmps147
  go_wp2_with fail
  refine(iq _ _ _ _ _ (hn.ex (x0 _))).mono ?_;rintro e w' ⟨rfl,rfl⟩;go_wp2_with fail
  refine(iq _ _ _ _ _ (hd.ex (x0 _))).mono ?_;rintro e w' ⟨rfl,rfl⟩;go_wp2_with (go_at_call 177;refine(uO _ _ _ _ (by omega)).mono ?_;rintro e w' ⟨rfl,rfl⟩)
  go_ret;exact⟨by rw[H.out];rfl,x0 _⟩
end Go.Proofs.YthgiffhlfcmgaaaGreatDoor
