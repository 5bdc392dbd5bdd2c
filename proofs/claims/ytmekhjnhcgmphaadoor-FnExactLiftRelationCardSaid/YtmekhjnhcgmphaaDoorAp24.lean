/- Uniform words and the laws' helpers on lists of lists of ints. The words and the laws' helpers on Relation: it reads, it is owned in an interval of blocks; copied, compared, marked, held. Printed by a program of mine. A reduced list over Z/p, lifted to constants: it is reduced. The reference's elimination over Z/p: spReduce. -/
import Derived.Test.YtmekhjnhcgmphaaDoorAp10
import Derived.Test.YtmekhjnhcgmphaaDoorLawSS2
import Derived.Test.YtmekhjnhcgmphaaDoorAp17
import Derived.Test.YtmekhjnhcgmphaaDoorAp18
import Derived.Test.YtmekhjnhcgmphaaDoorAp20
import Derived.Test.YtmekhjnhcgmphaaDoorAp04
import Derived.RegionCalls
import Derived.Deep.RegionWith
import Derived.Deep.RegionHeld3
import Derived.Deep.Cut
import Derived.Deep.RegionLaw
namespace Go.Proofs.YtmekhjnhcgmphaaDoor
set_option maxRecDepth 100000
open Go Go.RowKit
def totM (x : List (List Int)) : Int := tot x
theorem totM_nn (x : List (List Int)) : 0 ≤ totM x := tot_nn x
def mkM' (k : Int) (x : List (List Int)) : List (List Int) := mkM k (x.map List.length)
theorem mkM_lens : ∀ (k : Int) (ns : List Nat), (mkM k ns).map List.length = ns
  | _, [] => rfl
  | k, n :: ns => by rw [mkM, List.map_cons, mk_len, mkM_lens]
theorem totM_mk (k : Int) (x : List (List Int)) : totM (mkM' k x) = totM x := by unfold totM tot mkM'; rw [mkM_lens]
def RM (w : World) (v : Value) (x : List (List Int)) : Prop := (∃ A c, v = .slice A x.length c ∧ RdM w A x) ∧ totM x ≤ 1125899906842624
theorem RM.ex {w w' : World} {v : Value} {x : List (List Int)} (h : RM w v x) (he : Ex w w') : RM w' v x := by
  obtain ⟨⟨A, c, e, r⟩, t⟩ := h
  exact ⟨⟨A, c, e, r.ex he⟩, t⟩
theorem RM.form {w : World} {v : Value} {x : List (List Int)} (h : RM w v x) : ∃ A n c, v = .slice A n c := by
  obtain ⟨⟨A, c, e, r⟩, _⟩ := h
  exact ⟨A, _, c, e⟩
theorem RM.tot {w : World} {v : Value} {x : List (List Int)} (h : RM w v x) : totM x ≤ 1125899906842624 := h.2
def OM2 (w : World) (a b : Nat) (v : Value) (x : List (List Int)) : Prop := (∃ A c, v = .slice A x.length c ∧ FMI w a b A x) ∧ totM x ≤ 1125899906842624
theorem OM2.rd {w : World} {a b : Nat} {v : Value} {x : List (List Int)} (h : OM2 w a b v x) : RM w v x := by
  obtain ⟨⟨A, c, e, r⟩, t⟩ := h
  exact ⟨⟨A, c, e, r.rd⟩, t⟩
theorem OM2.ex {w w' : World} {a b : Nat} {v : Value} {x : List (List Int)} (h : OM2 w a b v x) (he : Ex w w') : OM2 w' a b v x := by
  obtain ⟨⟨A, c, e, r⟩, t⟩ := h
  exact ⟨⟨A, c, e, r.ex he⟩, t⟩
theorem OM2.iv {w w' : World} {a b a' b' : Nat} {v : Value} {x : List (List Int)} (h : OM2 w a b v x) (k : ExI a' b' w w') (hd : b ≤ a' ∨ b' ≤ a) : OM2 w' a b v x := by
  obtain ⟨⟨A, c, e, r⟩, t⟩ := h
  exact ⟨⟨A, c, e, r.iv k hd⟩, t⟩
theorem OM2.e1 {w w' : World} {a b g : Nat} {v : Value} {x : List (List Int)} (h : OM2 w a b v x) (k : Ex1 g w w') (hd : g < a ∨ b ≤ g) : OM2 w' a b v x := h.iv (ExI.of_ex1 k) (by omega)
theorem OM2.more {w : World} {a b a' b' : Nat} {v : Value} {x : List (List Int)} (h : OM2 w a b v x) (ha : a' ≤ a) (hb : b ≤ b') : OM2 w a' b' v x := by
  obtain ⟨⟨A, c, e, r⟩, t⟩ := h
  exact ⟨⟨A, c, e, r.more ha hb⟩, t⟩
theorem szIntSS_q (A : Option Addr) (c : Nat) (ns : List Nat) (w : World) (hm : ns.length ≤ 9223372036854775807) (hA : RdH w A ns) : QS 22 w (.slice A ns.length c) ((ns.length + ns.sum : Nat) : Int) := fun u l hx h0 hl => by
  refine (szIntSS_c A c ns.length ns l u (hA.ex hx) rfl hm h0 hl).mono ?_
  rintro e w' ⟨rfl, rfl⟩
  have lo := szAll_lo ns l h0
  by_cases hb : l < ((ns.length + ns.sum : Nat) : Int)
  · rw [if_pos hb]
    have : ¬ 0 ≤ szAll l ns := fun h => by have := szAll_le h; omega
    exact ⟨by rw [show szAll l ns = -1 by omega], Ex.refl _⟩
  · rw [if_neg hb]
    by_cases h : 0 ≤ szAll l ns
    · have := szAll_le h
      exact ⟨by rw [show szAll l ns = l - ((ns.length + ns.sum : Nat) : Int) by omega], Ex.refl _⟩
    · exfalso
      refine h ?_
      rw [szAll, if_neg (by omega)]
      have : ∀ (ns : List Nat) (l : Int), ((ns.sum : Nat) : Int) ≤ l → 0 ≤ szGo l ns := fun ns => by
        induction ns with
        | nil => intro l hl; simpa [szGo] using hl
        | cons n ns ih => intro l hl; rw [List.sum_cons] at hl; rw [szGo, if_neg (by omega)]; exact ih _ (by omega)
      exact this ns _ (by omega)
theorem toIntSS_u (x : List (List Int)) (v : Value) (w : World) (h : RM w v x) :
    Calls Tryd.prog 26 #[v] w fun e w' => ∃ y, e = .returned y ∧ OM2 w' w.heap.size w'.heap.size y x ∧ Ex w w' := by
  obtain ⟨⟨A, c, rfl, r⟩, t⟩ := h
  refine (toIntSS_c A c x w r).mono ?_
  rintro e w' ⟨g, gs, rfl, f, z⟩
  exact ⟨_, rfl, ⟨⟨_, _, rfl, f.fmi r.1 r.rows⟩, t⟩, z⟩
theorem eqIntSS_u (x : List (List Int)) (v u : Value) (w : World) (h : RM w v x) (h' : RM w u x) :
    Calls Tryd.prog 31 #[v, u] w fun e w' => e = .returned (.bool true) ∧ Ex w w' := by
  obtain ⟨⟨A, c, rfl, r⟩, _⟩ := h
  obtain ⟨⟨A', c', rfl, r'⟩, _⟩ := h'
  exact (eqIntSS_c A A' c c' x w r r').mono fun _ _ h => h
theorem markIntSS_u (lo hi : Nat) (x : List (List Int)) (v : Value) (k : Int) (w : World) (h : OM2 w lo hi v x) (hb : hi ≤ w.heap.size) (hk0 : 0 ≤ k) (hk : k + totM x ≤ 4611686018427387904) :
    Calls Tryd.prog 32 #[v, .int .i64 k] w fun e w' => e = .returned (.int .i64 (k + totM x)) ∧ OM2 w' lo hi v (mkM' k x) ∧ ExI lo hi w w' := by
  obtain ⟨⟨A, c, rfl, r⟩, t⟩ := h
  refine (markIntSS_i lo hi A c x k w r hk0 hk).mono ?_
  rintro e w' ⟨rfl, m, z⟩
  exact ⟨rfl, ⟨⟨A, c, by rw [mkM', mkM_len, List.length_map], m⟩, by rw [totM_mk]; exact t⟩, z⟩
end Go.Proofs.YtmekhjnhcgmphaaDoor
namespace Go.Proofs.YtmekhjnhcgmphaaDoor
set_option maxRecDepth 100000
open Go Go.RowKit
structure Rln where
  l : Int
  r : Int
  b : List (List Int)
def RRln (w : World) (v0 : Value) (x : Rln) : Prop := RM w v0 x.b
def totRln (x : Rln) : Int := totM x.b
def mkRln (k : Int) (x : Rln) : Rln := ⟨x.l, x.r, mkM' (k) x.b⟩
theorem totRln_nn (x : Rln) : 0 ≤ totRln x := by
  unfold totRln
  have h0 := totM_nn x.b
  omega
theorem RRln.ex {w w' : World} {v0 : Value} {x : Rln} (h : RRln w v0 x) (he : Ex w w') : RRln w' v0 x := RM.ex h he
theorem RRln.tot {w : World} {v0 : Value} {x : Rln} (h : RRln w v0 x) : totRln x ≤ 1125899906842624 := RM.tot h
theorem RRln.form {w : World} {v0 : Value} {x : Rln} (h : RRln w v0 x) : ∃ A0 n0 c0, v0 = .slice A0 n0 c0 := by
  have h0 : RM w v0 _ := h
  obtain ⟨A0, n0, c0, e0⟩ := h0.form
  exact ⟨A0, n0, c0, e0⟩
def ORln (w : World) (lo hi : Nat) (v0 : Value) (x : Rln) : Prop := ∃ (a0 b0 : Nat), OM2 w a0 b0 v0 x.b ∧ lo ≤ a0 ∧ b0 ≤ hi
theorem ORln.rd {w : World} {lo hi : Nat} {v0 : Value} {x : Rln} (h : ORln w lo hi v0 x) : RRln w v0 x := by
  obtain ⟨a0, b0, m0, c0, c1⟩ := h
  exact m0.rd
theorem ORln.ex {w w' : World} {lo hi : Nat} {v0 : Value} {x : Rln} (h : ORln w lo hi v0 x) (he : Ex w w') : ORln w' lo hi v0 x := by
  obtain ⟨a0, b0, m0, c0, c1⟩ := h
  exact ⟨a0, b0, m0.ex he, c0, c1⟩
theorem ORln.iv {w w' : World} {lo hi : Nat} {v0 : Value} {x : Rln} (h : ORln w lo hi v0 x) {a b : Nat} (q : ExI a b w w') (hd : hi ≤ a ∨ b ≤ lo) : ORln w' lo hi v0 x := by
  obtain ⟨a0, b0, m0, c0, c1⟩ := h
  exact ⟨a0, b0, m0.iv q (by omega), c0, c1⟩
theorem ORln.e1 {w w' : World} {lo hi : Nat} {v0 : Value} {x : Rln} (h : ORln w lo hi v0 x) {g : Nat} (q : Ex1 g w w') (hd : g < lo ∨ hi ≤ g) : ORln w' lo hi v0 x := by
  obtain ⟨a0, b0, m0, c0, c1⟩ := h
  exact ⟨a0, b0, m0.e1 q (by omega), c0, c1⟩
theorem ORln.more {w : World} {lo hi lo' hi' : Nat} {v0 : Value} {x : Rln} (h : ORln w lo hi v0 x) (h1 : lo' ≤ lo) (h2 : hi ≤ hi') : ORln w lo' hi' v0 x := by
  obtain ⟨a0, b0, m0, c0, c1⟩ := h
  exact ⟨a0, b0, m0, by omega, by omega⟩
set_option maxHeartbeats 4000000 in
set_option maxRecDepth 100000 in
theorem szRelation_q (c0 c1 v0 : Value) (z0 : Int) (w : World) (q0 : QS 22 w v0 z0) (n0 : 0 ≤ z0) : QS 5 w (.agg #[c0, c1, v0]) (z0) := by
  intro u l hx h0 hl
  have x0 := (Ex.refl u).alloc (.cells #[c0, c1, v0] 24)
  have d0 := VB.new u 24 #[c0, c1, v0]
  go_enter Tryd.func5, Tryd.ntmps5
  go_wp2_with fail
  generalize u.alloc (.cells #[c0, c1, v0] 24) = W0 at *
  have hs := q0 W0 (l) (hx.trans x0) (by omega) (by omega)
  by_cases g0 : l < z0
  · rw [if_pos g0] at hs
    refine hs.mono ?_
    clear hs
    rintro e W1 ⟨rfl, x1⟩
    go_wp2
    go_ret
    exact ⟨by first | rfl | (rw [if_pos (by omega)]; rfl), x0.trans x1⟩
  rw [if_neg g0] at hs
  refine hs.mono ?_
  clear hs
  rintro e W1 ⟨rfl, x1⟩
  replace x0 := x0.trans x1
  replace d0 := d0.ex x1
  clear x1
  have HE := Lib.hid (show (if l < z0 then (-1 : Int) else l - (z0)) = l - z0 by rw [if_neg (by omega)] <;> omega)
  have HF := Lib.hid (show l - (z0) = l - z0 by omega)
  go_wp2
  go_ret
  exact ⟨by first | (rw [HE.out]; rfl) | (rw [HF.out]; rfl) | rfl, x0⟩
set_option maxHeartbeats 4000000 in
set_option maxRecDepth 100000 in
theorem toRelation_u (x : Rln) (v0 : Value) (w : World) (h : RRln w v0 x) :
    Calls Tryd.prog 7 #[.agg #[.int .i64 x.l, .int .i64 x.r, v0]] w fun e w' => ∃ y0, e = .returned (.agg #[.int .i64 x.l, .int .i64 x.r, y0]) ∧ ORln w' w.heap.size w'.heap.size y0 x ∧ Ex w w' := by
  obtain ⟨l, r, x0⟩ := x
  have h0 : RM w v0 _ := h
  dsimp only at h0 ⊢
  have y0 := (Ex.refl w).alloc (.cells #[.int .i64 l, .int .i64 r, v0] 24)
  have d0 := VB.new w 24 #[.int .i64 l, .int .i64 r, v0]
  have S0 := Lib.hid (show (w.alloc (.cells #[.int .i64 l, .int .i64 r, v0] 24)).heap.size = w.heap.size + 1 by simp)
  go_enter Tryd.func7, Tryd.ntmps7
  go_wp2_with fail
  generalize w.alloc (.cells #[.int .i64 l, .int .i64 r, v0] 24) = W0 at *
  have y1 := (Ex.refl W0).alloc (.cells #[.int .i64 0, .int .i64 0, .slice none 0 0] 31)
  have d1 := VB.new W0 31 #[.int .i64 0, .int .i64 0, .slice none 0 0]
  rw [S0.out] at d1
  have S1 := Lib.hid (show (W0.alloc (.cells #[.int .i64 0, .int .i64 0, .slice none 0 0] 31)).heap.size = w.heap.size + 1 + 1 by simp; exact S0.out)
  generalize W0.alloc (.cells #[.int .i64 0, .int .i64 0, .slice none 0 0] 31) = W1 at *
  have y2 := (Ex.refl W1).alloc (.cells #[.int .i64 l, .int .i64 r, .slice none 0 0] 31)
  have d2 := VB.new W1 31 #[.int .i64 l, .int .i64 r, .slice none 0 0]
  rw [S1.out] at d2
  have S2 := Lib.hid (show (W1.alloc (.cells #[.int .i64 l, .int .i64 r, .slice none 0 0] 31)).heap.size = w.heap.size + 1 + 1 + 1 by simp; exact S1.out)
  generalize W1.alloc (.cells #[.int .i64 l, .int .i64 r, .slice none 0 0] 31) = W2 at *
  have xx := (y0.trans y1).trans y2
  have dA := (d0.ex y1).ex y2
  have dB := d1.ex y2
  have dC := d2
  have sz : w.heap.size + 1 + 1 + 1 ≤ W2.heap.size := Nat.le_of_eq S2.out.symm
  clear d0 d1 d2 y0 y1 y2 S0 S1 S2
  refine (toIntSS_u x0 v0 W2 (h0.ex xx)).mono ?_
  rintro e u0 ⟨y0, rfl, m0, z0⟩
  obtain ⟨Y0, N0, C0, rfl⟩ := m0.rd.form
  have tz0 := z0.size
  replace dA := dA.ex z0
  replace dB := dB.ex z0
  replace dC := dC.ex z0
  replace xx := xx.trans z0
  have sz0 := sz
  replace sz := Nat.le_trans sz z0.size
  have q1 := dC.cell 2 (v := .slice none 0 0) rfl
  have q2 := dC.frozen 2
  have r0 := dC.cell 0 (v := .int .i64 l) rfl
  have r1 := dC.cell 1 (v := .int .i64 r) rfl
  have t0 := dB.cell 0 (v := .int .i64 0) rfl
  have s0 := dB.frozen 0
  have t1 := dB.cell 1 (v := .int .i64 0) rfl
  have s1 := dB.frozen 1
  have t2 := dB.cell 2 (v := .slice none 0 0) rfl
  have s2 := dB.frozen 2
  go_wp2_with fail
  clear q1 q2 r0 r1 t0 s0 t1 s1 t2 s2
  have p1 : Ex1 (w.heap.size + 1 + 1) u0 (u0.setCell ⟨w.heap.size + 1 + 1, 2, none⟩ (.slice Y0 N0 C0)) := (Ex1.refl _ _).setCell rfl _
  replace dC : VB (u0.setCell ⟨w.heap.size + 1 + 1, 2, none⟩ (.slice Y0 N0 C0)) (w.heap.size + 1 + 1) 31 #[.int .i64 l, .int .i64 r, .slice Y0 N0 C0] := dC.set_ 2 _
  replace dA := dA.ex1 p1 (by omega)
  replace dB := dB.ex1 p1 (by omega)
  replace m0 := m0.e1 p1 (by omega)
  replace sz := Nat.le_trans sz p1.size
  have tp0 := p1.size
  replace xx := xx.ex1 p1 (by omega)
  clear p1 z0
  generalize (u0.setCell ⟨w.heap.size + 1 + 1, 2, none⟩ (.slice Y0 N0 C0)) = V0 at *
  have p1 : Ex1 (w.heap.size + 1) V0 (((V0.setCell ⟨w.heap.size + 1, 0, none⟩ (.int .i64 l)).setCell ⟨w.heap.size + 1, 1, none⟩ (.int .i64 r)).setCell ⟨w.heap.size + 1, 2, none⟩ (.slice Y0 N0 C0)) := (((Ex1.refl (w.heap.size + 1) V0).setCell (p := ⟨w.heap.size + 1, 0, none⟩) rfl _).setCell (p := ⟨w.heap.size + 1, 1, none⟩) rfl _).setCell (p := ⟨w.heap.size + 1, 2, none⟩) rfl _
  replace dB : VB (((V0.setCell ⟨w.heap.size + 1, 0, none⟩ (.int .i64 l)).setCell ⟨w.heap.size + 1, 1, none⟩ (.int .i64 r)).setCell ⟨w.heap.size + 1, 2, none⟩ (.slice Y0 N0 C0)) (w.heap.size + 1) 31 #[.int .i64 l, .int .i64 r, .slice Y0 N0 C0] := (((dB.set_ 0 _).set_ 1 _).set_ 2 _)
  replace m0 := m0.e1 p1 (by omega)
  replace xx := xx.ex1 p1 (by omega)
  have tq := p1.size
  clear p1
  generalize (((V0.setCell ⟨w.heap.size + 1, 0, none⟩ (.int .i64 l)).setCell ⟨w.heap.size + 1, 1, none⟩ (.int .i64 r)).setCell ⟨w.heap.size + 1, 2, none⟩ (.slice Y0 N0 C0)) = VE at *
  have c0 := dB.cell 0 (v := .int .i64 l) rfl
  have c1 := dB.cell 1 (v := .int .i64 r) rfl
  have c2 := dB.cell 2 (v := .slice Y0 N0 C0) rfl
  refine bodyPost_ret (v := .agg #[.int .i64 l, .int .i64 r, .slice Y0 N0 C0]) (by simp [results, Tryd.results7, go_sem, c0, c1, c2]) rfl ?_
  exact ⟨_, rfl, ⟨W2.heap.size, u0.heap.size, m0, by omega, by omega⟩, xx⟩
set_option maxHeartbeats 4000000 in
set_option maxRecDepth 100000 in
theorem eqRelation_u (x : Rln) (v0 u0 : Value) (w : World) (h : RRln w v0 x) (h' : RRln w u0 x) :
    Calls Tryd.prog 10 #[.agg #[.int .i64 x.l, .int .i64 x.r, v0], .agg #[.int .i64 x.l, .int .i64 x.r, u0]] w fun e w' => e = .returned (.bool true) ∧ Ex w w' := by
  obtain ⟨l, r, x0⟩ := x
  have h0 : RM w v0 _ := h
  have g0 : RM w u0 _ := h'
  dsimp only at h0 g0 ⊢
  have x1 := (Ex.refl w).alloc (.cells #[.int .i64 l, .int .i64 r, v0] 31)
  have d1 := VB.new w 31 #[.int .i64 l, .int .i64 r, v0]
  have S1 := Lib.hid (show (w.alloc (.cells #[.int .i64 l, .int .i64 r, v0] 31)).heap.size = w.heap.size + 1 by simp)
  go_enter Tryd.func10, Tryd.ntmps10
  go_wp2_with fail
  generalize w.alloc (.cells #[.int .i64 l, .int .i64 r, v0] 31) = W1 at *
  have y2 := (Ex.refl W1).alloc (.cells #[.int .i64 l, .int .i64 r, u0] 31)
  have d2 := VB.new W1 31 #[.int .i64 l, .int .i64 r, u0]
  rw [S1.out] at d2
  generalize W1.alloc (.cells #[.int .i64 l, .int .i64 r, u0] 31) = V0 at *
  have xx := x1.trans y2
  have dA := d1.ex y2
  have dB := d2
  clear x1 d1 d2 y2 S1
  refine (eqIntSS_u x0 v0 u0 V0 (h0.ex xx) (g0.ex xx)).mono ?_
  rintro e V1 ⟨rfl, z0⟩
  replace dA := dA.ex z0
  replace dB := dB.ex z0
  replace xx := xx.trans z0
  go_wp2
  go_ret
  exact ⟨rfl, xx⟩
set_option maxHeartbeats 4000000 in
set_option maxRecDepth 100000 in
theorem markRelation_u (lo hi : Nat) (x : Rln) (v0 : Value) (k : Int) (w : World) (h : ORln w lo hi v0 x) (hb : hi ≤ w.heap.size) (hk0 : 0 ≤ k) (hk : k + totRln x ≤ 4611686018427387904) :
    Calls Tryd.prog 11 #[.agg #[.int .i64 x.l, .int .i64 x.r, v0], .int .i64 k] w fun e w' => e = .returned (.int .i64 (k + totRln x)) ∧ ORln w' lo hi v0 (mkRln k x) ∧ ExI lo hi w w' := by
  obtain ⟨l, r, x0⟩ := x
  obtain ⟨a0, b0, m0, c0, c1⟩ := h
  dsimp only at m0 ⊢
  have t0 := totM_nn x0
  have ek : k + totRln ⟨l, r, x0⟩ = k + totM x0 := by simp only [totRln]
  rw [ek] at hk ⊢
  clear ek
  have xe := (Ex.refl w).alloc (.cells #[.int .i64 l, .int .i64 r, v0] 31)
  have d0 := VB.new w 31 #[.int .i64 l, .int .i64 r, v0]
  have dl := d0.lt
  go_enter Tryd.func11, Tryd.ntmps11
  go_wp2_with fail
  generalize w.alloc (.cells #[.int .i64 l, .int .i64 r, v0] 31) = W0 at *
  replace m0 := m0.ex xe
  have zz := xe.size
  have ee := ExI.of_ex (a := lo) (b := hi) xe
  clear xe
  refine (markIntSS_u a0 b0 x0 v0 (k) W0 m0 (by omega) (by omega) (by omega)).mono ?_
  clear m0
  rintro e u0 ⟨rfl, m0, z0⟩
  replace d0 := d0.iv z0 (by omega)
  replace ee := ee.trans (z0.widen (by omega) (by omega))
  replace zz := Nat.le_trans zz z0.size
  clear z0
  go_wp2
  go_ret
  exact ⟨rfl, ⟨a0, b0, m0, c0, c1⟩, ee⟩
end Go.Proofs.YtmekhjnhcgmphaaDoor
namespace Go.Proofs.YtmekhjnhcgmphaaDoor
set_option maxRecDepth 100000
open Go Go.RowKit
/-- An element as a fraction. -/
def cF (a : Int) : Fra := if a = 0 then zF else ⟨[a], [1]⟩
def cFs (rows : List (List Int)) : List (List Fra) := rows.map (List.map cF)
theorem el_lift {K A : Type} {O : Ops K} {O' : Ops A} {f : K → A} (hz : f O.z = O'.z) (v : List K) (j : Nat) : O'.el (v.map f) j = f (O.el v j) := by
  simp only [Ops.el, List.getD_eq_getElem?_getD, List.getElem?_map]
  cases v[j]? with
  | none => exact hz.symm
  | some x => rfl
theorem lead_lift {K A : Type} {O : Ops K} {O' : Ops A} {f : K → A} (hi : ∀ a, O'.isz (f a) = O.isz a) (v : List K) : O'.lead (v.map f) = O.lead v := by
  unfold Ops.lead
  rw [List.findIdx_map]
  congr 1
  funext x
  show (!O'.isz (f x)) = _
  rw [hi]
theorem rrp_lift {K A : Type} {O : Ops K} {O' : Ops A} {f : K → A} (hz : f O.z = O'.z) (ho : f O.o = O'.o) (hi : ∀ a, O'.isz (f a) = O.isz a) {n : Nat} {R : List (List K)} (k : RrP O n R) : RrP O' n (mp2 f R) := by
  have hinv : ∀ (i : Nat) (u : List A), (mp2 f R)[i]? = some u → ∃ x, R[i]? = some x ∧ u = x.map f := fun i u hu => by
    rw [List.getElem?_map] at hu
    cases hx : R[i]? with
    | none => rw [hx] at hu; cases hu
    | some x => rw [hx] at hu; injection hu with hu; exact ⟨x, rfl, hu.symm⟩
  refine ⟨Wid.mp2.2 k.len, fun v hv => ?_, fun i u v hu hv => ?_, fun i j u v hu hv hne => ?_⟩
  · obtain ⟨x, hx, rfl⟩ := List.mem_map.1 hv
    have := k.one x hx
    rw [lead_lift hi, el_lift hz, this.2, ho]
    exact ⟨this.1, rfl⟩
  · obtain ⟨x, hx, rfl⟩ := hinv i u hu
    obtain ⟨y, hy, rfl⟩ := hinv _ v hv
    rw [lead_lift hi, lead_lift hi]
    exact k.asc i x y hx hy
  · obtain ⟨x, hx, rfl⟩ := hinv i u hu
    obtain ⟨y, hy, rfl⟩ := hinv _ v hv
    rw [lead_lift hi, el_lift hz, hi]
    exact k.zer i j x y hx hy hne
theorem cF_isz (a : Int) : iszF (cF a) = decide (a = 0) := by
  unfold cF
  by_cases h : a = 0 <;> simp [h, iszF, zF]
theorem cFs_rrp {p : Int} {n : Nat} {R : List (List Int)} (h : RrP (zpOps p) n R) : RrP (frOps p) n (cFs R) := rrp_lift (O := zpOps p) (O' := frOps p) (f := cF) rfl rfl cF_isz h
theorem zref_rrp {p : Int} (hF : fieldB p = true) {n : Nat} {R : List (List Int)} (hw : Wid n R) (he : AllM p R) (h : (zpOps p).rref n R = R) : RrP (zpOps p) n R := by
  obtain ⟨u, hu⟩ := lift2 (P := fun a => elB p a = true) R (fun v hv x hx => List.all_eq_true.1 (he v hv) x hx)
  subst hu
  have hh := zpHom p hF
  have hinj : ∀ a b : {a : Int // elB p a = true}, a.val = b.val → a = b := fun a b => Subtype.ext
  rw [hh.rref] at h
  have h' := mp2_inj hinj h
  have h3 := (rref_iff (zpFld p hF) (Wid.mp2.1 hw)).1 h'
  exact (hh.rrp hinj).2 ((rrp_iff _).2 h3)
theorem fracB_cF {p a : Int} (hF : fieldB p = true) (h : elB p a = true) : fracB p (cF a).n (cF a).d = true := by
  have h2 := fieldB_lo hF
  have key : ∀ n : List Int, PN p n → n.length ≤ 1 → fracB p n [1] = true := fun n hn hl => by
    have hv := FV.one_den hF hn
    have h1 := PN.one (p := p) h2
    have e1 := polyB_of hF (by omega) hn.e hn.t
    have e2 := polyB_of hF (by simp) h1.e h1.t
    have hg : (gcdM p n [1]).length = 1 := hv.g
    unfold fracB
    rw [e1, e2, hg]
    simp [cf]
    omega
  unfold cF
  split
  · exact key [] (PN.nil p) (by simp)
  · rename_i h0
    refine key [a] ⟨?_, ?_⟩ (by simp)
    · simp [allEl, h]
    · exact Tr.of_last (by simp) (by simpa [cf] using h0)
theorem okRows_cFs {p : Int} (hF : fieldB p = true) {n : Nat} {R : List (List Int)} (hw : Wid n R) (he : AllM p R) : okRows p n (cFs R) = true := by
  refine List.all_eq_true.2 fun r hr => ?_
  obtain ⟨x, hx, rfl⟩ := List.mem_map.1 hr
  rw [okRow, Bool.and_eq_true, decide_eq_true_eq, List.length_map]
  refine ⟨hw x hx, List.all_eq_true.2 fun y hy => ?_⟩
  obtain ⟨a, ha, rfl⟩ := List.mem_map.1 hy
  exact fracB_cF hF (List.all_eq_true.1 (he x hx) a ha)
theorem rowsB_parts {p : Int} {l : Int} {R : List (List Int)} (h0 : 0 ≤ l) (h : rowsB p l R = true) : Wid l.toNat R ∧ AllM p R := by
  have k := List.all_eq_true.1 h
  refine ⟨fun v hv => ?_, fun v hv => ?_⟩
  · have := k v hv
    rw [Bool.and_eq_true, decide_eq_true_eq] at this
    omega
  · have := k v hv
    rw [Bool.and_eq_true] at this
    exact this.2
/-- Whether a relation over Z/p is valid. -/
def relB (p : Int) (x : Rln) : Bool := fieldB p && (inB 0 24 x.l && inB 0 24 x.r && decide (x.l + x.r ≤ 24)) && decide ((x.b.length : Int) ≤ x.l + x.r) && rowsB p (x.l + x.r) x.b && decide ((zpOps p).rref (x.l + x.r).toNat x.b = x.b)
noncomputable def lfU (p : Int) (x : Rln) : RRel × Bool := if relB p x = true then ifU p ⟨x.l, x.r, cFs x.b⟩ else (⟨0, 0, []⟩, false)
theorem lfU_no {p : Int} {x : Rln} (h : relB p x = false) : lfU p x = (⟨0, 0, []⟩, false) := if_neg (by rw [h]; simp)
theorem lfU_ref {p : Int} {x : Rln} (h : relB p x = true) : lfU p x = ifU p ⟨x.l, x.r, cFs x.b⟩ := if_pos h
theorem lfU_fit {p : Int} {x : Rln} (h : fitB x.l x.r = false) : lfU p x = (⟨0, 0, []⟩, false) := by
  unfold lfU
  split
  · refine ifU_no ?_
    rw [Bool.eq_false_iff]
    intro k
    have := (rrB_iff.1 k).2.1
    simp only [] at this
    rw [h] at this
    cases this
  · rfl
theorem lfU_yes {p : Int} {x : Rln} (h : relB p x = true) (hf : fitB x.l x.r = true) : lfU p x = (⟨x.l, x.r, cFs x.b⟩, true) := by
  rw [lfU_ref h]
  refine ifU_yes (rrB_iff.2 ?_)
  simp only [relB, Bool.and_eq_true, decide_eq_true_eq] at h
  obtain ⟨⟨⟨⟨hF, ⟨hl, hr⟩, hlr⟩, hlen⟩, hrows⟩, href⟩ := h
  simp only [inB, Bool.and_eq_true, decide_eq_true_eq] at hl hr
  obtain ⟨hw, he⟩ := rowsB_parts (by omega) hrows
  exact ⟨hF, hf, okRows_cFs hF hw he, cFs_rrp (zref_rrp hF hw he href)⟩
end Go.Proofs.YtmekhjnhcgmphaaDoor
namespace Go.Proofs.YtmekhjnhcgmphaaDoor
set_option maxRecDepth 100000
open Go Go.RowKit
theorem redz_full {K : Type} (O : Ops K) : ∀ (m c r : Nat) (rows : List (List K)), rows.length ≤ r → O.red m c r rows = (rows, r)
  | 0, _, _, _, _ => rfl
  | m + 1, c, r, rows, h => by
    rw [Ops.red, if_neg (by unfold Ops.fnd; omega), redz_full O m (c + 1) r rows h]
theorem mixz_set {α : Type} (R vs : List α) (hl : R.length = vs.length) (i : Nat) (x : α) (hx : R[i]? = some x) : (R.take i ++ vs.drop i).set i x = R.take (i + 1) ++ vs.drop (i + 1) := by
  have hi := (List.getElem?_eq_some_iff.1 hx).1
  rw [List.set_append, if_neg (by rw [List.length_take]; omega), List.take_add_one, hx]
  have : i - (R.take i).length = 0 := by rw [List.length_take]; omega
  rw [this, List.append_assoc]
  congr 1
  rw [List.drop_eq_getElem_cons (by omega : i < vs.length)]
  rfl
theorem mixz_same {α : Type} (R vs : List α) (hl : R.length = vs.length) (i : Nat) (x : α) (hx : R[i]? = some x) (hv : vs[i]? = some x) : R.take i ++ vs.drop i = R.take (i + 1) ++ vs.drop (i + 1) := by
  have hi := (List.getElem?_eq_some_iff.1 hx).1
  rw [List.take_add_one, hx, List.drop_eq_getElem_cons (by omega : i < vs.length)]
  have : vs[i]'(by omega) = x := by rw [List.getElem?_eq_getElem (by omega)] at hv; injection hv
  rw [this]
  simp
theorem mixz_at {α : Type} (R vs : List α) (hl : R.length = vs.length) (i : Nat) (hi : i < vs.length) : (R.take i ++ vs.drop i)[i]? = vs[i]? := by
  rw [List.getElem?_append_right (by rw [List.length_take]; omega), List.length_take, List.getElem?_drop]
  congr 1; omega
theorem Ex1.cellz {G : Nat} {w w' : World} (k : Ex1 G w w') {g o : Nat} (hg : g ≠ G) {v : Value} (h : w.cell? ⟨g, o, none⟩ = some v) : w'.cell? ⟨g, o, none⟩ = some v :=
  (World.cell?_of_block (w := w) (a := ⟨g, o, none⟩) (k.block g (cell_lt (p := ⟨g, o, none⟩) h) (fun e => by injection e with e; exact hg e))).trans h
theorem mix_both {α : Type} {R vs : List α} (hl : R.length = vs.length) {i r : Nat} {x : α} (h1 : R[r]? = some x) (h2 : vs[r]? = some x) : (R.take i ++ vs.drop i)[r]? = some x := by
  have hr := (List.getElem?_eq_some_iff.1 h1).1
  by_cases e : r < i
  · rw [List.getElem?_append_left (by rw [List.length_take]; omega), List.getElem?_take, if_pos e]; exact h1
  · rw [List.getElem?_append_right (by rw [List.length_take]; omega), List.getElem?_drop, List.length_take, Nat.min_eq_left (by omega), show i + (r - i) = r by omega]; exact h2
theorem sp_rest {Z : List (List Int)} {r t : Nat} {zr l : List Int} (hzr : Z[r]? = some zr) {k : Nat} {u : List Int} (hk : k ≠ r) (hu : ((Z.set t zr).set r l)[k]? = some u) : u ∈ Z := by
  rw [List.getElem?_set, if_neg (fun h => hk h.symm), List.getElem?_set] at hu
  split at hu
  · split at hu
    · injection hu with hu; rw [← hu]; exact List.mem_of_getElem? hzr
    · cases hu
  · exact List.mem_of_getElem? hu
theorem sp_all {p : Int} (hp : 0 < p) {n : Nat} {Z : List (List Int)} {r c t : Nat} {zt zr : List Int} (hzt : Z[t]? = some zt) (hzr : Z[r]? = some zr) (hw : Wid n Z) (hZ : AllM p Z) : AllM p ((zpOps p).piv Z r c t) := fun v hv => by
  obtain ⟨k, hk⟩ := List.getElem?_of_mem hv
  have hkl := (List.getElem?_eq_some_iff.1 hk).1
  rw [piv_len] at hkl
  obtain ⟨u, hu⟩ : ∃ u, ((Z.set t zr).set r ((zpOps p).nrm zt c))[k]? = some u := ⟨_, List.getElem?_eq_getElem (by simpa using hkl)⟩
  have := sp_mix hzt hzr hu
  rw [hk] at this
  injection this with this
  rw [this]
  by_cases e : k = r
  · rw [if_pos e]; exact nrm_el hp
  · have hm := sp_rest hzr e hu
    rw [if_neg e]
    split
    · exact hZ u hm
    · refine less_el hp ?_
      rw [hw u hm]
      unfold Ops.nrm
      rw [List.length_map]
      exact (hw zt (List.mem_of_getElem? hzt)).symm
theorem stillC {f : FuncId} {args : Array Value} {w : World} {v : Value} (h : Calls Tryd.prog f args w fun e w' => e = .returned v ∧ w = w') : Calls Tryd.prog f args w fun e w' => e = .returned v ∧ w' = w := h.mono (by rintro e w' ⟨rfl, rfl⟩; exact ⟨rfl, rfl⟩)
/-- Rows in blocks of their own, as a slice lists them. -/
def RdMC (w : World) (A : Option Addr) (rows : List (List Int)) : Prop :=
  rows.length ≤ 1099511627776 ∧ ∀ (j : Nat) (r : List Int), rows[j]? = some r → ∃ g b c, A = some ⟨g, 0, none⟩ ∧ w.cell? ⟨g, j, none⟩ = some (.slice (some ⟨b, 0, none⟩) r.length c) ∧ r.length ≤ c ∧ Own w b r
theorem RdMC.ex {w w' : World} {A : Option Addr} {rows : List (List Int)} (h : RdMC w A rows) (k : Ex w w') : RdMC w' A rows := ⟨h.1, fun j r hj => by
  obtain ⟨g, b, c, q1, q2, q3, q4⟩ := h.2 j r hj
  exact ⟨g, b, c, q1, cell_ex k q2, q3, q4.ex k⟩⟩
theorem RdMC.rdm {w : World} {A : Option Addr} {rows : List (List Int)} (h : RdMC w A rows) (hr : ∀ r ∈ rows, r.length ≤ 1099511627776) : RdM w A rows := ⟨h.1, fun j r hj => by
  obtain ⟨g, b, c, q1, q2, q3, q4⟩ := h.2 j r hj
  exact ⟨g, 0, _, c, q1, by rw [Nat.zero_add]; exact q2, q4.rd (hr r (List.mem_of_getElem? hj))⟩⟩
theorem RdMC.nil (w : World) (A : Option Addr) : RdMC w A [] := ⟨by simp, fun j x hj => by simp at hj⟩
theorem IM.cellAt {w : World} {G n : Nat} {bs : List Nat} {rows : List (List Int)} (h : IM w G n bs rows) (r t : Nat) (v : Value) (ht : t < rows.length) : ∃ u, (w.setCell ⟨G, r, none⟩ v).cell? ⟨G, t, none⟩ = some u := by
  obtain ⟨_, _, _, _, _, _, _, _, _, hc⟩ := h.at_ ht
  obtain ⟨cur, hb, _⟩ := h.out
  have htl : t < cur.size := by
    simp [World.cell?, hb] at hc
    exact (Array.getElem?_eq_some_iff.1 hc).1
  by_cases e : r = t
  · subst e
    exact ⟨v, by simp [World.cell?, World.setCell, Array.getElem?_modify, hb, htl]⟩
  · exact ⟨_, by simp [World.cell?, World.setCell, Array.getElem?_modify, hb, e]; simp [World.cell?, hb] at hc; exact hc⟩
theorem IM.rdmc {w : World} {G n : Nat} {bs : List Nat} {rows : List (List Int)} (h : IM w G n bs rows) (hl : rows.length ≤ 1099511627776) (k : Nat) : RdMC w (some ⟨G, 0, none⟩) (rows.take k) := by
  refine ⟨Nat.le_trans (List.length_take_le' _ _) hl, fun j r hj => ?_⟩
  rw [List.getElem?_take] at hj
  split at hj
  · obtain ⟨b, r', c, hc, _, hr, hrl, ho, _, hcell⟩ := h.at_ (List.getElem?_eq_some_iff.1 hj).1
    rw [hj] at hr
    injection hr with hr
    subst hr
    exact ⟨G, b, c, rfl, by rw [hrl]; exact hcell, by rw [hrl]; exact hc, ho⟩
  · cases hj
set_option maxHeartbeats 16000000 in
theorem spReduce0_c (p : Int) (n : Nat) (A : Option Addr) (c : Nat) (w : World) (_ : n ≤ 1000) :
    Calls Tryd.prog 76 #[.int .i64 p, .int .i64 n, .slice A 0 c] w fun e w' => e = .returned (.slice none 0 0) ∧ w = w' := by
  go_enter Tryd.func76, Tryd.ntmps76
  go_wp2_with fail
  go_loopw [7, 21] (fun s7 s21 wr => s7 = .slice none 0 0 ∧ s21 = .int .i64 0 ∧ w = wr) (fun _ _ _ => 0)
  case atStart => exact ⟨rfl, rfl, rfl⟩
  case round =>
    obtain ⟨rfl, rfl, rfl⟩ := hrel
    go_wp2_with fail
    go_loopw [10, 11] (fun s10 s11 wr => s10 = .int .i64 0 ∧ s11 = .int .i64 0 ∧ w = wr) (fun _ _ _ => 0)
    case atStart => exact ⟨rfl, rfl, rfl⟩
    case round =>
      obtain ⟨rfl, rfl, rfl⟩ := hrel
      by_cases e : 0 < n
      · go_wp2_with fail
        go_ret
        exact ⟨rfl, rfl⟩
      · go_wp2_with fail
        go_ret
        exact ⟨rfl, rfl⟩
set_option maxHeartbeats 16000000 in
theorem spReduce1_c (p : Int) (n : Nat) (rows : List (List Int)) (A : Option Addr) (c : Nat) (w : World) (hF : fieldB p = true) (h : RdM w A rows) (hw : Wid n rows) (hel : AllM p rows) (hn : n ≤ 1000) (hR : rows.length ≤ 1000) (hR1 : 0 < rows.length) :
    Calls Tryd.prog 76 #[.int .i64 p, .int .i64 n, .slice A rows.length c] w fun e w' => ∃ A' c', e = .returned (.slice A' ((zpOps p).rref n rows).length c') ∧ RdMC w' A' ((zpOps p).rref n rows) ∧ Ex w w' := by
  have h2 := fieldB_lo hF
  have h97 := fieldB_hi hF
  obtain ⟨FIN, hFIN⟩ : ∃ FIN, (zpOps p).red n 0 0 rows = FIN := ⟨_, rfl⟩
  have HRR := Lib.hid (show (zpOps p).rref n rows = FIN.1.take FIN.2 by unfold Ops.rref; rw [hFIN])
  have HF := Lib.hid hF
  have HFIN := Lib.hid (show (zpOps p).red (n - 0) 0 0 rows = FIN from hFIN)
  have HW0 := Lib.hid hw
  have HE0 := Lib.hid hel
  obtain ⟨R, hRl⟩ : ∃ R, rows.length = R := ⟨_, rfl⟩
  have HR0 := Lib.hid hRl
  rw [hRl] at hR hR1 ⊢
  clear hF hFIN hw hRl hel
  go_enter Tryd.func76, Tryd.ntmps76
  go_wp2_with fail
  go_loopw [7, 21] (fun s7 s21 wr => ∃ k : Nat, k ≤ R ∧ s21 = .int .i64 k ∧ GE ELI 38 wr w.heap.size wr.heap.size s7 (rows.take k) ∧ Ex w wr) (fun _ s21 _ => R - (intOf s21).toNat)
  case atStart => exact ⟨0, Nat.zero_le _, rfl, GE.nil _ _ _ _ _, Ex.refl _⟩
  case round =>
    rename World => wb
    obtain ⟨k, hk, rfl, hge, hex⟩ := hrel
    by_cases hkR : k < R
    · obtain ⟨g0, off0, A1, c1, r1, rfl, hr1, hc1, hrd⟩ := (h.ex hex).at_ (by rw [HR0.out]; exact hkR)
      have HT := Lib.hid (show rows.take (k + 1) = rows.take k ++ [r1] by rw [List.take_add_one, hr1]; rfl)
      have htl := List.length_take_le k rows
      have hsz := hex.size
      have cO := l1Own_c A1 c1 r1 wb hrd
      clear hr1
      go_wp2_with fail
      refine cO.mono ?_
      rintro e w1 ⟨g, c', rfl, hc', hg, hO, x1⟩
      have z1 := x1.size
      obtain ⟨v', w2, hrun, hge2, hE2⟩ := push_own (hge.ex x1) z1 hO hc' hg hsz (by omega)
      rw [← HT.out] at hge2
      have x2 := hE2 w (hex.trans x1) (Nat.le_refl _)
      clear hE2 HT htl cO hge
      go_wp2_with (at_builtin; refine wpList_append_run rfl _ _ _ rfl rfl rfl hrun ?_)
      go_roundw
      case rel => exact ⟨k + 1, by omega, by go_num, hge2, x2⟩
      case measure => simp [intOf]; omega
    obtain rfl : R = k := by omega
    rw [List.take_of_length_le (by rw [HR0.out]; exact Nat.le_refl _)] at hge
    have hv : u7 ≠ .slice none 0 0 := fun e => by
      obtain ⟨_, _, e2⟩ := hge.nilv
      rw [e] at e2
      injection e2 with _ e2 _
      have := HR0.out
      omega
    have hfm := hge.form hv
    rw [HR0.out] at hfm
    obtain ⟨G, C, rfl, hRC, _⟩ := hfm
    obtain ⟨bs, hM, hG, hbs⟩ := hge.im HW0.out
    have HB0 := Lib.hid hbs
    clear hge h hbs hkR hk hv
    go_wp2_with fail
    go_loopw [10, 11] (fun s10 s11 wr => ∃ (c r : Nat) (Z : List (List Int)) (bs : List Nat), c ≤ n ∧ s10 = .int .i64 r ∧ s11 = .int .i64 c ∧ IM wr G n bs Z ∧ Hid (Wid n Z) ∧ Hid (AllM p Z) ∧ Hid (Z.length = R) ∧ r ≤ R ∧ Hid ((zpOps p).red (n - c) c r Z = FIN) ∧ Hid (∀ b ∈ bs, w.heap.size ≤ b) ∧ Ex w wr) (fun _ s11 _ => n - (intOf s11).toNat)
    case atStart => exact ⟨0, 0, rows, bs, Nat.zero_le _, rfl, rfl, hM, HW0, HE0, HR0, Nat.zero_le _, HFIN, HB0, hex⟩
    case round =>
      rename World => wi
      clear hM HW0 HE0 HR0 HFIN HB0 hex
      obtain ⟨c, r, Z, bs, hcn, rfl, rfl, hM, HW, HE, HZ, hrR, HFIN, HB, he⟩ := hrel
      by_cases hlt : c < n ∧ r < R
      case neg =>
        have HEq := Lib.hid (show FIN = (Z, r) by
          rw [← HFIN.out]
          by_cases e : c < n
          · exact redz_full _ _ _ _ _ (by rw [HZ.out]; omega)
          · rw [show n - c = 0 by omega]; rfl)
        have hrr := hM.rdmc (by rw [HZ.out]; omega) r
        have HT := Lib.hid (show (Z.take r).length = r by rw [List.length_take, HZ.out]; omega)
        have hrC : r ≤ C := by omega
        by_cases e : c < n
        · have e2 : ¬ r < R := fun e2 => hlt ⟨e, e2⟩
          clear hlt HFIN
          go_wp2_with fail
          go_ret
          rw [HRR.out, HEq.out]
          exact ⟨some ⟨G, 0, none⟩, C, by rw [HT.out]; rfl, hrr, he⟩
        · clear hlt HFIN
          go_wp2_with fail
          go_ret
          rw [HRR.out, HEq.out]
          exact ⟨some ⟨G, 0, none⟩, C, by rw [HT.out]; rfl, hrr, he⟩
      obtain ⟨hc1, hr1⟩ := hlt
      go_wp2_with fail
      go_loopw [12] (fun s12 wr => ∃ t : Nat, r ≤ t ∧ t ≤ R ∧ s12 = .int .i64 t ∧ Hid (∀ (i : Nat) (v : List Int), r ≤ i → i < t → Z[i]? = some v → (zpOps p).isz ((zpOps p).el v c) = true) ∧ wi = wr) (fun s12 _ => R - (intOf s12).toNat)
      case atStart => exact ⟨r, Nat.le_refl _, hrR, rfl, Lib.hid (fun i v h1 h2 => by omega), rfl⟩
      case round =>
        obtain ⟨t, hrt, htR, rfl, Hz, rfl⟩ := hrel
        by_cases htl : t < R
        · obtain ⟨bt, zt, ct, hct, hbt, hzt, hztl, hot, hbtG, et⟩ := hM.at_ (by rw [HZ.out]; exact htl)
          obtain ⟨x, hx⟩ : ∃ x, zt[c]? = some x := ⟨_, List.getElem?_eq_getElem (by rw [hztl]; exact hc1)⟩
          have ec := hot.cell hx
          have Hel := Lib.hid (show (zpOps p).el zt c = x from (zpOps p).el_in hx)
          have Hzt := Lib.hid hzt
          have Hx := Lib.hid hx
          have Hztl := Lib.hid hztl
          have Hzte := Lib.hid (HE.out zt (List.mem_of_getElem? hzt))
          have hxb := allEl_at Hzte.out hx
          clear hzt hx hztl
          by_cases hx0 : x = 0
          · have Hx0 := Lib.hid hx0
            have hxe : (x == 0) = true := by rw [hx0]; rfl
            clear hx0 hxb
            go_wp2_with fail
            go_roundw
            case rel => exact ⟨t + 1, by omega, by omega, by go_num, Lib.hid (fun i v h1 h2 h3 => by
              by_cases e : i = t
              · subst e; rw [Hzt.out] at h3; injection h3 with h3; rw [← h3, Hel.out, zp_isz, Hx0.out]; rfl
              · exact Hz.out i v h1 (by omega) h3), trivial⟩
            case measure => simp [intOf]; omega
          · have hxe : (x == 0) = false := by simp; exact hx0
            have hfd := sp_at (O := zpOps p) hrt (fun i v h1 h2 h3 => Hz.out i v h1 h2 h3) Hzt.out (by rw [Hel.out, zp_isz]; simpa using hx0)
            have HFk := Lib.hid (show (zpOps p).red (n - (c + 1)) (c + 1) (r + 1) ((zpOps p).piv Z r c t) = FIN by rw [← HFIN.out, show n - c = (n - (c + 1)) + 1 by omega, Ops.red, hfd, if_pos (by rw [HZ.out]; exact htl)])
            obtain ⟨br, zr, cr, hcr, hbr, hzr, hzrl, hor, hbrG, er⟩ := hM.at_ (by rw [HZ.out]; exact hr1)
            have fr := hM.frozen r
            have ft := hM.frozen t
            have hM2 := hM.swap hbr hbt hzr Hzt.out hcr hct
            have hZ2 : ((Z.set r zt).set t zr)[r]? = some zt := by
              rw [List.getElem?_set]
              by_cases e : t = r
              · rw [if_pos e, if_pos (by rw [List.length_set, HZ.out]; exact htl)]
                have := Hzt.out
                rw [e, hzr] at this
                exact this
              · rw [if_neg e, List.getElem?_set, if_pos rfl, if_pos (by rw [HZ.out]; exact hr1)]
            obtain ⟨b1, z1, c1, hc1c, hb1, hz1, _, hO1, hb1G, e1⟩ := hM2.at_ (j := r) (by rw [List.length_set, List.length_set, HZ.out]; exact hr1)
            rw [hZ2] at hz1
            injection hz1 with hz1
            subst hz1
            have e2 := hO1.cell Hx.out
            have HB2 := Lib.hid (show ∀ b ∈ (bs.set r bt).set t br, w.heap.size ≤ b from fun b hb => by
              rcases List.mem_or_eq_of_mem_set hb with hb | rfl
              · rcases List.mem_or_eq_of_mem_set hb with hb | rfl
                · exact HB.out b hb
                · exact HB.out _ (List.mem_of_getElem? hbt)
              · exact HB.out _ (List.mem_of_getElem? hbr))
            have HSW := Lib.hid (show ∀ l, ((Z.set r zt).set t zr).set r l = (Z.set t zr).set r l from fun l => set_swap3 Hzt.out hzr)
            have HMIX := Lib.hid (fun (k : Nat) (u : List Int) => sp_mix (O := zpOps p) (c := c) Hzt.out hzr (k := k) (u := u))
            have HTE := Lib.hid (show AllM p ((zpOps p).piv Z r c t) from sp_all (by omega) Hzt.out hzr HW.out HE.out)
            have HTW := Lib.hid (show Wid n ((zpOps p).piv Z r c t) from HW.out.piv (by rw [HZ.out]; exact hr1) (by rw [HZ.out]; exact htl))
            have HTl := Lib.hid (show ((zpOps p).piv Z r c t).length = R by rw [piv_len, HZ.out])
            have HRS := Lib.hid (show ∀ (l : List Int) (k : Nat) (u : List Int), k ≠ r → ((Z.set t zr).set r l)[k]? = some u → u ∈ Z from fun l k u hk hu => sp_rest hzr hk hu)
            have htb : ((t : Int) == (R : Int)) = false := by simp; omega
            have kx : Ex1 G wi ((wi.setCell ⟨G, r, none⟩ (.slice (some ⟨bt, 0, none⟩) n ct)).setCell ⟨G, t, none⟩ (.slice (some ⟨br, 0, none⟩) n cr)) := ((Ex1.refl G wi).setCell (p := ⟨G, r, none⟩) rfl _).setCell (p := ⟨G, t, none⟩) rfl _
            have X2 : Ex w ((wi.setCell ⟨G, r, none⟩ (.slice (some ⟨bt, 0, none⟩) n ct)).setCell ⟨G, t, none⟩ (.slice (some ⟨br, 0, none⟩) n cr)) := he.ex1 kx hG
            obtain ⟨uT, eT⟩ := hM.cellAt r t (.slice (some ⟨bt, 0, none⟩) n ct) (by rw [HZ.out]; exact htl)
            clear hfd hZ2 hbt hbr hzr hx0 HFIN HB kx
            go_wp2_with fail
            refine (fdInv_c p x _ HF.out (by have := hxe; simp at this; omega)).mono ?_
            rintro e _ ⟨rfl, rfl⟩
            generalize (wi.setCell ⟨G, r, none⟩ (.slice (some ⟨bt, 0, none⟩) n ct)).setCell ⟨G, t, none⟩ (.slice (some ⟨br, 0, none⟩) n cr) = W2 at *
            clear eT ec et er fr ft hor hot hM
            obtain ⟨k, hk⟩ : ∃ k, invM p x = k := ⟨_, rfl⟩
            have Hk := Lib.hid hk
            have hkb := invM_bd (p := p) x h2
            rw [hk] at hkb ⊢
            clear hk
            generalize hZ2e : (Z.set r zt).set t zr = Z2 at *
            generalize (bs.set r bt).set t br = bs2 at *
            clear hZ2e
            go_wp2_with fail
            go_loopw [92] (fun s92 wr => ∃ j : Nat, j ≤ n ∧ s92 = .int .i64 j ∧ Own wr b1 (mulI p k zt j) ∧ Ex1 b1 W2 wr) (fun s92 _ => n - (intOf s92).toNat)
            case atStart => exact ⟨0, Nat.zero_le _, rfl, by rw [mulI_zero]; exact hO1, Ex1.refl _ _⟩
            case round =>
              rename World => wl
              obtain ⟨j, hj, rfl, hO, hk1⟩ := hrel
              have g1 := Ex1.cellz hk1 (fun e => hb1G e.symm) e1
              by_cases hjn : j < n
              · obtain ⟨y, hy⟩ : ∃ y, zt[j]? = some y := ⟨_, List.getElem?_eq_getElem (by rw [Hztl.out]; exact hjn)⟩
                have hyb := allEl_at Hzte.out hy
                have g2 := hO.cell ((mulI_at (p := p) (k := k) (by rw [Hztl.out]; exact hjn)).trans hy)
                have g3 := hO.frozen j
                have HS := Lib.hid (mulI_succ (p := p) (k := k) hy)
                have hm := mul_bd (x := y) (y := k) ⟨by omega, by omega⟩ ⟨by omega, by omega⟩
                clear hy
                go_wp2_with fail
                go_still_tail 15, (by kernel_rfl)
                still_call (stillC (fdMul_c p y k _ h2 (by omega) (by omega)))
                repeat still_step
                refine wpStill_nil ?_
                change wpList _ _ _ _ _ wl.drew
                go_wp2_with fail
                go_roundw
                case rel => exact ⟨j + 1, by omega, by go_num, by rw [← HS.out]; exact hO.drew.set_ _ _, hk1.drew.setCell rfl _⟩
                case measure => simp [intOf]; omega
              · obtain rfl : n = j := by omega
                have HLL := Lib.hid (show mulI p k zt zt.length = (zpOps p).nrm zt c by rw [← Hk.out]; exact mulI_all Hx.out)
                rw [Hztl.out] at HLL
                rw [HLL.out] at hO
                obtain ⟨L, hL⟩ : ∃ L, (zpOps p).nrm zt c = L := ⟨_, rfl⟩
                have HLe := Lib.hid (show allEl p L = true by rw [← hL]; exact nrm_el (by omega))
                have HLl := Lib.hid (show L.length = n by rw [← hL]; unfold Ops.nrm; rw [List.length_map, Hztl.out])
                rw [hL] at hO HMIX
                have hM3 := hM2.turn hb1 hO HLl.out hk1
                rw [HSW.out] at hM3
                have x3 := X2.ex1 hk1 (HB2.out _ (List.mem_of_getElem? hb1))
                have HZ1l := Lib.hid (show ((Z.set t zr).set r L).length = R by rw [List.length_set, List.length_set, HZ.out])
                have HZ1r := Lib.hid (show ((Z.set t zr).set r L)[r]? = some L by rw [List.getElem?_set, if_pos rfl, if_pos (by rw [List.length_set, HZ.out]; exact hr1)])
                have HZ1g := Lib.hid (show ∀ (k : Nat) (u : List Int), k ≠ r → ((Z.set t zr).set r L)[k]? = some u → allEl p u = true from fun k u h1 h3 => HE.out u (HRS.out L k u h1 h3))
                clear hM2 hO g1 e1 e2 hL HLL X2 hO1 hk1 HSW HRS
                generalize (Z.set t zr).set r L = Z1 at *
                generalize (zpOps p).piv Z r c t = T at *
                have HTr := Lib.hid (show T[r]? = some L by rw [HMIX.out r L HZ1r.out, if_pos rfl])
                go_wp2_with fail
                go_loopw [114] (fun s114 wr => ∃ i : Nat, i ≤ R ∧ s114 = .int .i64 i ∧ IM wr G n bs2 (T.take i ++ Z1.drop i) ∧ Ex w wr) (fun s114 _ => R - (intOf s114).toNat)
                case atStart => exact ⟨0, Nat.zero_le _, rfl, by simpa using hM3, x3⟩
                case round =>
                  rename World => wm
                  clear hM3 x3
                  obtain ⟨i, hi, rfl, hMm, hem⟩ := hrel
                  by_cases hiR : i < R
                  · obtain ⟨u, hu⟩ : ∃ u, Z1[i]? = some u := ⟨_, List.getElem?_eq_getElem (by rw [HZ1l.out]; exact hiR)⟩
                    have hmu : (T.take i ++ Z1.drop i)[i]? = some u := by
                      rw [mixz_at T Z1 (by rw [HTl.out, HZ1l.out]) i (by rw [HZ1l.out]; exact hiR)]; exact hu
                    have HTk := Lib.hid (HMIX.out i u hu)
                    have Hu := Lib.hid hu
                    by_cases hir : i = r
                    · have hnb : ((i : Int) == (r : Int)) = true := by simp; omega
                      have HSm := Lib.hid (mixz_same T Z1 (by rw [HTl.out, HZ1l.out]) i L (by rw [HTk.out, if_pos hir]) (by rw [hir]; exact HZ1r.out))
                      clear hir hu hmu
                      go_wp2_with fail
                      go_roundw
                      case rel => exact ⟨i + 1, by omega, by go_num, by rw [← HSm.out]; exact hMm, hem⟩
                      case measure => simp [intOf]; omega
                    · have hnb : ((i : Int) == (r : Int)) = false := by simp; omega
                      obtain ⟨b5, u', c5, hc5, hb5, hu', hul, hO5, hb5G, e5⟩ := hMm.at_ (j := i) (by have := (List.getElem?_eq_some_iff.1 hmu).1; exact this)
                      rw [hmu] at hu'
                      injection hu' with hu'
                      subst hu'
                      obtain ⟨y, hy⟩ : ∃ y, u[c]? = some y := ⟨_, List.getElem?_eq_getElem (by rw [hul]; exact hc1)⟩
                      have ey := hO5.cell hy
                      have hyel := Lib.hid (show (zpOps p).el u c = y from (zpOps p).el_in hy)
                      have Hug := Lib.hid (HZ1g.out i u hir hu)
                      have hyb := allEl_at Hug.out hy
                      have Hul := Lib.hid hul
                      have HTk2 := Lib.hid (show T[i]? = some (if y = 0 then u else (zpOps p).less u y L) by
                        rw [HTk.out, if_neg hir, hyel.out, zp_isz]; simp)
                      by_cases hy0 : y = 0
                      · have hye : (y == 0) = true := by rw [hy0]; rfl
                        have HSm := Lib.hid (mixz_same T Z1 (by rw [HTl.out, HZ1l.out]) i u (by rw [HTk2.out, if_pos hy0]) hu)
                        clear hir hu hmu hy hy0 hul
                        go_wp2_with fail
                        go_roundw
                        case rel => exact ⟨i + 1, by omega, by go_num, by rw [← HSm.out]; exact hMm, hem⟩
                        case measure => simp [intOf]; omega
                      · have hye : (y == 0) = false := by simp; exact hy0
                        have HSm := Lib.hid (mixz_set T Z1 (by rw [HTl.out, HZ1l.out]) i ((zpOps p).less u y L) (by rw [HTk2.out, if_neg hy0]))
                        have hmr := mix_both (i := i) (by rw [HTl.out, HZ1l.out]) HTr.out HZ1r.out
                        obtain ⟨b6, l6, c6, hc6, hb6, hl6, hl6l, hO6, hb6G, e6⟩ := hMm.at_ (j := r) (List.getElem?_eq_some_iff.1 hmr).1
                        rw [hmr] at hl6
                        injection hl6 with hl6
                        subst hl6
                        have hne : b6 ≠ b5 := fun e => hir (hMm.nd i r b5 hb5 (e ▸ hb6))
                        have hlu : u.length = L.length := by rw [Hul.out, HLl.out]
                        have Hlu := Lib.hid hlu
                        clear hir hu hmu hy hy0 hul hmr hl6l hlu
                        go_wp2_with fail
                        go_loopw [142] (fun s142 wr => ∃ j : Nat, j ≤ n ∧ s142 = .int .i64 j ∧ Own wr b5 (lessTo p y u L j) ∧ Ex1 b5 wm wr) (fun s142 _ => n - (intOf s142).toNat)
                        case atStart => exact ⟨0, Nat.zero_le _, rfl, by rw [lessTo_zero]; exact hO5, Ex1.refl _ _⟩
                        case round =>
                          rename World => wn
                          obtain ⟨j, hj, rfl, hO, hk5⟩ := hrel
                          have f5 := Ex1.cellz hk5 (fun e => hb5G e.symm) e5
                          have f6 := Ex1.cellz hk5 (fun e => hb5G e.symm) e6
                          by_cases hjn : j < n
                          · obtain ⟨x1, hx1⟩ : ∃ x, u[j]? = some x := ⟨_, List.getElem?_eq_getElem (by rw [Hul.out]; exact hjn)⟩
                            obtain ⟨z1, hz1⟩ : ∃ x, L[j]? = some x := ⟨_, List.getElem?_eq_getElem (by rw [HLl.out]; exact hjn)⟩
                            have hx1b := allEl_at Hug.out hx1
                            have hz1b := allEl_at HLe.out hz1
                            have f7 := hO.cell ((lessTo_at (p := p) (f := y) Hlu.out (by rw [Hul.out]; exact hjn)).trans hx1)
                            have f8 := (hO6.ex1 hk5 hne).cell hz1
                            have f9 := hO.frozen j
                            have HS := Lib.hid (show (lessTo p y u L j).set j ((x1 - y * z1) % p) = lessTo p y u L (j + 1) by rw [← lessTo_succ (p := p) (f := y) Hlu.out hx1 hz1, show (x1 - y * z1 % p) % p = (x1 - y * z1) % p by simp])
                            have hm := mul_bd (x := y) (y := z1) ⟨by omega, by omega⟩ ⟨by omega, by omega⟩
                            have m0 := Int.emod_nonneg (y * z1) (show p ≠ 0 by omega)
                            have m1 := Int.emod_lt_of_pos (y * z1) (show 0 < p by omega)
                            clear hx1 hz1 e5 e6 ey
                            go_wp2_with fail
                            go_still_tail 24, (by kernel_rfl)
                            still_call (stillC (fdMul_c p y z1 _ h2 (by omega) (by omega)))
                            still_call (stillC (fdSub_c p x1 _ _ h2 h97 (by omega) (by omega)))
                            repeat still_step
                            refine wpStill_nil ?_
                            change wpList _ _ _ _ _ wn.drew
                            go_wp2_with fail
                            go_roundw
                            case rel => exact ⟨j + 1, by omega, by go_num, by rw [← HS.out]; exact hO.drew.set_ _ _, hk5.drew.setCell rfl _⟩
                            case measure => simp [intOf]; omega
                          · obtain rfl : n = j := by omega
                            have HLL := Lib.hid (lessTo_all (p := p) (f := y) Hlu.out)
                            rw [Hul.out] at HLL
                            rw [HLL.out] at hO
                            have hM6 := hMm.turn hb5 hO (by rw [lessI_len _ Hlu.out, Hul.out]) hk5
                            rw [HSm.out] at hM6
                            have x6 := hem.ex1 hk5 (HB2.out _ (List.mem_of_getElem? hb5))
                            clear hMm hO HLL f5 f6 e5 e6 ey hk5
                            go_wp2_with fail
                            go_roundw
                            case rel => exact ⟨i + 1, by omega, by go_num, hM6, x6⟩
                            case measure => simp [intOf]; omega
                  · obtain rfl : i = R := by omega
                    rw [List.take_of_length_le (by rw [HTl.out]; exact Nat.le_refl _), List.drop_of_length_le (by rw [HZ1l.out]; exact Nat.le_refl _), List.append_nil] at hMm
                    go_wp2_with fail
                    go_roundw
                    case rel => exact ⟨c + 1, r + 1, T, bs2, by omega, by go_num, by go_num, hMm, HTW, HTE, HTl, by omega, HFk, HB2, hem⟩
                    case measure => simp [intOf]; omega
        · have hRt : t = R := by omega
          subst hRt
          have HN := Lib.hid (sp_no (O := zpOps p) (by rw [HZ.out]; exact hrR) (fun i v h1 h2 h3 => Hz.out i v h1 (by rw [← HZ.out]; exact h2) h3))
          have HFk := Lib.hid (show (zpOps p).red (n - (c + 1)) (c + 1) r Z = FIN by rw [← HFIN.out, show n - c = (n - (c + 1)) + 1 by omega, Ops.red, if_neg HN.out])
          clear Hz HN
          go_wp2_with fail
          go_roundw
          case rel => exact ⟨c + 1, r, Z, bs, by omega, rfl, by go_num, hM, HW, HE, HZ, hrR, HFk, HB, he⟩
          case measure => simp [intOf]; omega
theorem spReduce_c (p : Int) (n : Nat) (rows : List (List Int)) (A : Option Addr) (c : Nat) (w : World) (hF : fieldB p = true) (h : RdM w A rows) (hw : Wid n rows) (hel : AllM p rows) (hn : n ≤ 1000) (hR : rows.length ≤ 1000) :
    Calls Tryd.prog 76 #[.int .i64 p, .int .i64 n, .slice A rows.length c] w fun e w' => ∃ A' c', e = .returned (.slice A' ((zpOps p).rref n rows).length c') ∧ RdMC w' A' ((zpOps p).rref n rows) ∧ Ex w w' := by
  cases rows with
  | nil =>
    refine (spReduce0_c p n A c w hn).mono ?_
    rintro e w' ⟨rfl, rfl⟩
    have e0 : (zpOps p).rref n [] = [] := by
      unfold Ops.rref
      rw [redz_full _ _ _ _ _ (Nat.zero_le _)]
      rfl
    rw [e0]
    exact ⟨none, 0, rfl, RdMC.nil _ _, Ex.refl _⟩
  | cons r rows => exact spReduce1_c p n (r :: rows) A c w hF h hw hel hn hR (by simp)
end Go.Proofs.YtmekhjnhcgmphaaDoor
