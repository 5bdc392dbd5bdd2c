/- The reference's equations of an edge: a copy mirrored. -/
import Derived.Test.YtekcehkhdjoffaaGreatDoorQ12
namespace Go.Proofs.YtekcehkhdjoffaaGreatDoor
set_option maxRecDepth 100000
set_option maxHeartbeats 8000000
set_option linter.all false
open Go Go.RowKit
theorem SI(p vl:Int)(n a b c:Nat)(P:Option Addr)(pc:Nat)(Q:Option Addr)(qc:Nat)(w:World)(hF:aj p=true)(hP:Rd w P ([b,c].map Int.ofNat))(hQ:Rd w Q ([a].map Int.ofNat))(hb:∀x∈[b,c]++[a],x<n)(hn:n<=1000):
 Calls Tryz.prog 41 #[.int .i64 p,.int .i64 n,.agg #[.int .i64 9,.int .i64 vl,.slice P 2 pc,.slice Q 1 qc]] w λe' w'=>∃X cx,e'=.returned (.slice X 2 cx)/\iw w' X [jU p n [b,a] [1,p-1],jU p n [c,a] [1,p-1]]/\Ex w w':=by
 have h2:=au hF;have h97:=aQ hF;have hwp:IntKind.i64.wrap (p-1)=p-1:=ant _ (by omega);obtain⟨y0,d0,W0,hW0⟩:=VB.al w 45 #[.int .i64 9,.int .i64 vl,.slice P 2 pc,.slice Q 1 qc];rw[hW0]at y0 d0;have q0:=d0.c0;have q2:=d0.c2;have q3:=d0.c3;have Gm:=hP.ex y0;have KI:=hQ.ex y0;clear hP hQ;obtain⟨gI,oI,rfl,i0⟩:=KI.c1;obtain⟨gO,oO,rfl,c0,c1⟩:=Gm.c2;have HB4:=amW (show∀x∈[b,a],x<n from λx hx=>by
  have hm:=hb x;simp only[anu,ani,anC,or_false]at hx hm;refine hm ?_;omega)
 have HV4:=amW (show∀x∈[1,p-1],0<=x/\x<=96 from λx hx=>by
  simp only[ani,anC,or_false]at hx;omega)
 have l4:=amW (gL p n [b,a] [1,p-1]);have JU:=amW (show∀x∈[c,a],x<n from λx hx=>by
  have hm:=hb x;simp only[anu,ani,anC,or_false]at hx hm;refine hm ?_;omega)
 have HV5:=amW (show∀x∈[1,p-1],0<=x/\x<=96 from λx hx=>by
  simp only[ani,anC,or_false]at hx;omega)
 have l5:=amW (gL p n [c,a] [1,p-1]);clear hb;go_enter Tryz.func41,Tryz.ntmps41
 go_wp2_with fail
 go_quiet (fail)
 go_wp2_with fail
 go_quiet (fail)
 generalize hW1:World.drewN (World.drewN W0 _) _=W1;have e1:Ex W0 W1:=by rw[<-hW1];exact((asF W0).drewN _).drewN _
 have x1:=y0.trans e1;have i0:=af e1 i0;have c0:=af e1 c0;have c1:=af e1 c1;have q0:=af e1 q0;clear hW1 hW0 d0 y0;go_wp2_with fail
 have HS2:∀W,Ex W1 W->(Ex W1 W/\W.cell? ⟨gI,oI,none⟩=some (.int .i64 (Int.ofNat a))/\W.cell? ⟨gO,oO,none⟩=some (.int .i64 (Int.ofNat b))/\W.cell? ⟨gO,oO+1,none⟩=some (.int .i64 (Int.ofNat c))):=λW h=>⟨h,af h i0,af h c0,af h c1⟩
 go_region_held3 (λW=>Ex W1 W/\W.cell? ⟨gI,oI,none⟩=some (.int .i64 (Int.ofNat a))/\W.cell? ⟨gO,oO,none⟩=some (.int .i64 (Int.ofNat b))/\W.cell? ⟨gO,oO+1,none⟩=some (.int .i64 (Int.ofNat c))) (first
  |(exact HS2 _ (by repeat (first|exact asF _|exact x5|exact x4|refine Ex.drew ?_|refine Ex.alloc ?_ _|refine Ex.setCell ?_ (by simp) _)))) (first
  |(go_at_call 70
    have hg:=OM.size;have hb:=(‹Ex W1 _/\_›).1;refine(jN p n [c,a] [1,p-1] _ 2 _ 2 _ hF ?_ ?_ rfl ?_ ?_ hn).mono ?_
    .show Rd _ _ [((c:Nat):Int),((a:Nat):Int)]
     repeat (first|(with_reducible refine TW ?_;(simp;done))|with_reducible refine Rd.drew ?_|with_reducible refine Rd.ex ?_ ((asF _).alloc _)|with_reducible refine Rd.ex ?_ OM)
    .repeat (first|(with_reducible refine TW ?_;(simp;done))|with_reducible refine Rd.drew ?_|with_reducible refine Rd.ex ?_ ((asF _).alloc _)|with_reducible refine Rd.ex ?_ OM)
    .exact JU.out
    .exact HV5.out
    rintro e w5 ⟨g5,rfl,hg5,o5,EA⟩;have x5:=hb.trans EA;clear hb)
  |(go_at_call 70
    skip
    have hb:=(‹Ex W1 _/\_›).1;refine(jN p n [b,a] [1,p-1] _ 2 _ 2 _ hF ?_ ?_ rfl ?_ ?_ hn).mono ?_
    .show Rd _ _ [((b:Nat):Int),((a:Nat):Int)]
     repeat (first|(with_reducible refine TW ?_;(simp;done))|with_reducible refine Rd.drew ?_|with_reducible refine Rd.ex ?_ ((asF _).alloc _))
    .repeat (first|(with_reducible refine TW ?_;(simp;done))|with_reducible refine Rd.drew ?_|with_reducible refine Rd.ex ?_ ((asF _).alloc _))
    .exact HB4.out
    .exact HV4.out
    rintro e w4 ⟨g4,rfl,hg4,o4,OM⟩;have x4:=hb.trans OM;clear hb))
 all_goals
  go_wp2_with fail
  go_ret;exact⟨_,_,rfl,EZ (o4.ex (by repeat (first|exact asF _|exact EA|refine Ex.trans ?_ EA|refine Ex.drew ?_|refine Ex.alloc ?_ _))) o5 l4.out l5.out (amX _) (amX _) rfl,(x1.trans x5).alloc _⟩
end Go.Proofs.YtekcehkhdjoffaaGreatDoor
