/- Marks on state spaces, by intervals of blocks. -/
import Derived.Test.YtkpfmnconnopnaaDoorMarkM
import Derived.Test.YtkpfmnconnopnaaDoorLawSpace
namespace Go.Proofs.YtkpfmnconnopnaaDoor
set_option maxRecDepth 100000
open Go Go.RowKit
def tot (rows : List (List Int)) : Int := ((rows.map List.length).sum : Int)
theorem tot_nn (rows : List (List Int)) : 0 ≤ tot rows := Int.natCast_nonneg _
set_option maxHeartbeats 1000000 in
theorem markStateSpace_i (ia ja ib jb ic jc id_ jd : Nat) (x y z : Int) (A B C D : Option Addr) (a b c d : Nat) (ra rb rc rd : List (List Int)) (k : Int) (w : World) (ha : FMI w ia ja A ra) (hb : FMI w ib jb B rb) (hc : FMI w ic jc C rc) (hd : FMI w id_ jd D rd)
    (s0 : ia ≤ ja) (s1 : ja ≤ ib) (s2 : ib ≤ jb) (s3 : jb ≤ ic) (s4 : ic ≤ jc) (s5 : jc ≤ id_) (s6 : id_ ≤ jd) (s7 : jd ≤ w.heap.size) (hk0 : 0 ≤ k) (hk : k + tot ra + tot rb + tot rc + tot rd ≤ 4611686018427387904) :
    Calls Tryd.prog 18 #[.agg #[.int .i64 x, .int .i64 y, .int .i64 z, .slice A ra.length a, .slice B rb.length b, .slice C rc.length c, .slice D rd.length d], .int .i64 k] w fun e w' => e = .returned (.int .i64 (k + tot ra + tot rb + tot rc + tot rd)) ∧ ExI ia jd w w' := by
  have ta := tot_nn ra
  have tb := tot_nn rb
  have tc := tot_nn rc
  have td := tot_nn rd
  have x0 := (Ex.refl w).alloc (.cells #[.int .i64 x, .int .i64 y, .int .i64 z, .slice A ra.length a, .slice B rb.length b, .slice C rc.length c, .slice D rd.length d] 29)
  have v0 := VB.new w 29 #[.int .i64 x, .int .i64 y, .int .i64 z, .slice A ra.length a, .slice B rb.length b, .slice C rc.length c, .slice D rd.length d]
  go_enter Tryd.func18, Tryd.ntmps18
  go_wp2_with fail
  generalize w.alloc (.cells #[.int .i64 x, .int .i64 y, .int .i64 z, .slice A ra.length a, .slice B rb.length b, .slice C rc.length c, .slice D rd.length d] 29) = W at *
  refine (markIntSS_i ia ja A a ra k W (ha.ex x0) hk0 (by show k + tot ra ≤ _; omega)).mono ?_
  rintro e w1 ⟨rfl, _, z1⟩
  have e1 : ExI ia jd w w1 := (ExI.of_ex x0).trans (z1.widen (Nat.le_refl _) (by omega))
  have v1 := v0.iv z1 (by omega)
  have b1 := (hb.ex x0).iv z1 (by omega)
  have c1 := (hc.ex x0).iv z1 (by omega)
  have d1 := (hd.ex x0).iv z1 (by omega)
  have q := v1.cell 4 (v := .slice B rb.length b) rfl
  go_wp2_with fail
  refine (markIntSS_i ib jb B b rb (k + tot ra) w1 b1 (by omega) (by show k + tot ra + tot rb ≤ _; omega)).mono ?_
  rintro e w2 ⟨rfl, _, z2⟩
  have e2 := e1.trans (z2.widen (by omega) (by omega) : ExI ia jd w1 w2)
  have v2 := v1.iv z2 (by omega)
  have c2 := c1.iv z2 (by omega)
  have d2 := d1.iv z2 (by omega)
  have q := v2.cell 5 (v := .slice C rc.length c) rfl
  go_wp2_with fail
  refine (markIntSS_i ic jc C c rc (k + tot ra + tot rb) w2 c2 (by omega) (by show k + tot ra + tot rb + tot rc ≤ _; omega)).mono ?_
  rintro e w3 ⟨rfl, _, z3⟩
  have e3 := e2.trans (z3.widen (by omega) (by omega) : ExI ia jd w2 w3)
  have v3 := v2.iv z3 (by omega)
  have d3 := d2.iv z3 (by omega)
  have q := v3.cell 6 (v := .slice D rd.length d) rfl
  go_wp2_with fail
  refine (markIntSS_i id_ jd D d rd (k + tot ra + tot rb + tot rc) w3 d3 (by omega) (by show k + tot ra + tot rb + tot rc + tot rd ≤ _; omega)).mono ?_
  rintro e w4 ⟨rfl, _, z4⟩
  have e4 := e3.trans (z4.widen (by omega) (by omega) : ExI ia jd w3 w4)
  go_wp2
  go_ret
  exact ⟨rfl, e4⟩
end Go.Proofs.YtkpfmnconnopnaaDoor
