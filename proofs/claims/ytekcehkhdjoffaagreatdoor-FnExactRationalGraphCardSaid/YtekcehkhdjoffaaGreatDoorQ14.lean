/- The reference's equations of an edge: a discard, a codiscard: none. -/
import Derived.Test.YtekcehkhdjoffaaGreatDoorQ12
namespace Go.Proofs.YtekcehkhdjoffaaGreatDoor
set_option maxRecDepth 100000
set_option maxHeartbeats 8000000
set_option linter.all false
open Go Go.RowKit
theorem SS(p vl:Int)(n:Nat)(P:Option Addr)(pc:Nat)(Q:Option Addr)(qc:Nat)(w:World):
 Calls Tryz.prog 41 #[.int .i64 p,.int .i64 n,.agg #[.int .i64 4,.int .i64 vl,.slice P 1 pc,.slice Q 0 qc]] w λe' w'=>e'=.returned (.slice none 0 0)/\Ex w w':=by
 obtain⟨y0,d0,W0,hW0⟩:=VB.al w 45 #[.int .i64 4,.int .i64 vl,.slice P 1 pc,.slice Q 0 qc];rw[hW0]at y0 d0;have q0:=d0.c0;have q2:=d0.c2;have q3:=d0.c3;go_enter Tryz.func41,Tryz.ntmps41
 go_wp2_with fail
 go_quiet (fail)
 go_wp2_with fail
 go_ret;exact⟨rfl,y0.drewN _⟩
theorem N7(p vl:Int)(n:Nat)(P:Option Addr)(pc:Nat)(Q:Option Addr)(qc:Nat)(w:World):
 Calls Tryz.prog 41 #[.int .i64 p,.int .i64 n,.agg #[.int .i64 10,.int .i64 vl,.slice P 0 pc,.slice Q 1 qc]] w λe' w'=>e'=.returned (.slice none 0 0)/\Ex w w':=by
 obtain⟨y0,d0,W0,hW0⟩:=VB.al w 45 #[.int .i64 10,.int .i64 vl,.slice P 0 pc,.slice Q 1 qc];rw[hW0]at y0 d0;have q0:=d0.c0;have q2:=d0.c2;have q3:=d0.c3;go_enter Tryz.func41,Tryz.ntmps41
 go_wp2_with fail
 go_quiet (fail)
 go_wp2_with fail
 go_quiet (fail)
 go_wp2_with fail
 go_ret;exact⟨rfl,y0.drewN _⟩
end Go.Proofs.YtekcehkhdjoffaaGreatDoor
