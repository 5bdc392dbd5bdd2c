/- RatRelationFrom: the plain answer; the reference. Printed by a program of mine. The reduced list as owned rows. RatRelationFrom: the program. Printed by a program of mine. -/
import Derived.Test.YtpeogfapnofeoaaGreatDoorPkQ
import Derived.Test.YtpeogfapnofeoaaGreatDoorRfB
import Derived.Test.YtpeogfapnofeoaaGreatDoorPkH
import Derived.Test.YtpeogfapnofeoaaGreatDoorPkI
namespace Go.Proofs.YtpeogfapnofeoaaGreatDoor
set_option maxRecDepth 100000
open Go Go.RowKit
theorem RdC.nil (w : World) (A : Option Addr) : RdC w A [] := ⟨⟨by simp, fun j x hj => by simp at hj⟩, fun j r hj => by simp at hj⟩
set_option maxHeartbeats 2000000 in
theorem rrOf_c (S : Nat → Prop) (p : Int) (l r : Nat) (rows : List (List Fra)) (A : Option Addr) (c : Nat) (w : World) (hF : fieldB p = true) (h : RowsN S w A rows) (hS : ∀ k, S k → k < w.heap.size) (hw : Wid (l + r) rows) (hGd : ∀ c, c ≤ l + r → GdM p 17179869184 (stg (frOps p) rows c).1) (hn : l + r ≤ 1000) (hR : rows.length ≤ 1000) :
    Calls Tryz.prog 50 #[.int .i64 p, .int .i64 l, .int .i64 r, .slice A rows.length c] w fun e w' => ∃ A' c', e = .returned (.agg #[.int .i64 l, .int .i64 r, .slice A' ((frOps p).rref (l + r) rows).length c']) ∧ (∀ w2, ExS S w' w2 → RdS EFF w2 A' ((frOps p).rref (l + r) rows)) ∧ Ex w w' := by
  have hwr : IntKind.i64.wrap ((l : Int) + (r : Int)) = ((l + r : Nat) : Int) := by rw [IntWalk.i64_in _ (by omega)]; omega
  have x0 := (Ex.refl w).alloc (.cells #[.int .i64 0, .int .i64 0, .slice none 0 0] 32)
  have d0 := VB.new w 32 #[.int .i64 0, .int .i64 0, .slice none 0 0]
  have cR := rrReduce_c (fun k => S k ∨ k = w.heap.size) p (l + r) rows A c (w.alloc (.cells #[.int .i64 0, .int .i64 0, .slice none 0 0] 32)) hF (h.ex x0 (fun k e => e.elim .inl (fun e => .inr (Nat.le_of_eq e.symm)))) (fun k e => by
    have := d0.lt
    exact e.elim (fun e => by have := hS k e; omega) (fun e => by omega)) hw hGd hn hR
  clear hF h hw hGd hR hS
  generalize (frOps p).rref (l + r) rows = RR at *
  obtain ⟨N, hN⟩ : ∃ N, l + r = N := ⟨_, rfl⟩
  rw [hN] at hwr cR
  clear hN hn
  go_enter Tryz.func50, Tryz.ntmps50
  go_wp2_with fail
  generalize w.alloc (.cells #[.int .i64 0, .int .i64 0, .slice none 0 0] 32) = W0 at *
  refine cR.mono ?_
  rintro e w1 ⟨A1, c1, rfl, r1, x1⟩
  have dz := d0.ex x1
  have xz := x0.trans x1
  obtain ⟨dd, zz⟩ := dz.st3 (.int .i64 l) (.int .i64 r) (.slice A1 RR.length c1)
  have u0 := dz.cell 0 (v := .int .i64 0) rfl
  have u1 := dz.cell 1 (v := .int .i64 0) rfl
  have u2 := dz.cell 2 (v := .slice none 0 0) rfl
  have k0 := dz.frozen 0
  have k1 := dz.frozen 1
  have k2 := dz.frozen 2
  have C0 := dd.cell 0 (v := .int .i64 l) rfl
  have C1 := dd.cell 1 (v := .int .i64 r) rfl
  have C2 := dd.cell 2 (v := .slice A1 RR.length c1) rfl
  have eF := xz.ex1 zz (Nat.le_refl _)
  have hlt := d0.lt
  have rr : ∀ w2, ExS S _ w2 → RdS EFF w2 A1 RR := fun w2 k => r1 w2 ((ExS.of_ex1 (S := fun k => S k ∨ k = w.heap.size) zz (.inr rfl)).trans k (fun i _ e => .inl e))
  clear cR
  go_wp2_with fail
  refine bodyPost_ret (v := .agg #[.int .i64 l, .int .i64 r, .slice A1 RR.length c1]) (by simp [results, Tryz.results50, go_sem, C0, C1, C2]) rfl ?_
  exact ⟨A1, c1, rfl, rr, eF⟩
end Go.Proofs.YtpeogfapnofeoaaGreatDoor
namespace Go.Proofs.YtpeogfapnofeoaaGreatDoor
set_option maxRecDepth 100000
open Go Go.RowKit
/-- Where the number in a cell lies. -/
def numS (w : World) (b o k : Nat) : Prop := ∃ (a : Addr) (m d : Nat), w.cell? ⟨b, o, none⟩ = some (.slice (some a) m d) ∧ a.block = k
theorem RatO.ofx {w : World} {B n : Nat} {v : Value} {rows : List (List Fra)} (h : RatO w B v rows n) (hl : rows.length ≤ 1099511627776) (hn : n ≤ 1099511627776) : ∃ (A : Option Addr) (c : Nat) (S : Nat → Prop), v = .slice A rows.length c ∧ (∀ k, S k → B ≤ k ∧ k < w.heap.size) ∧ OX EXR 34 w S A rows := by
  obtain ⟨S, S', R, G, bs, c, e, hc, hM, hO, h1, h2, h3, h4, h5⟩ := h
  have hG := h3 G hM.sg
  have num : ∀ {b o k : Nat}, R b o → numS w b o k → B ≤ k ∧ k < w.heap.size ∧ ¬ S' k := fun {b o k} hr hk => by
    obtain ⟨a, m, d, hcell, rfl⟩ := hk
    obtain ⟨⟨q1, _, cur, q2⟩, _⟩ := hO b o a m d hr hcell
    refine ⟨?_, heap_lt_of q2, q1⟩
    rcases Nat.lt_or_ge a.block B with q | q
    · exact absurd (h2 _ q) q1
    · exact q
  have same : ∀ {b o b' o' k : Nat}, R b o → R b' o' → numS w b o k → numS w b' o' k → b' = b ∧ o' = o := fun {b o b' o' k} hr hr' hk hk' => by
    obtain ⟨a, m, d, hcell, e1⟩ := hk
    obtain ⟨a', m', d', hcell', e2⟩ := hk'
    exact (hO b o a m d hr hcell).2 b' o' a' m' d' hr' hcell' (e2.trans e1.symm)
  refine ⟨some ⟨G, 0, none⟩, c, fun k => B ≤ k ∧ k < w.heap.size, e, fun k hk => hk, hl, fun j k => ∃ b : Nat, bs[j]? = some (some b) ∧ (k = b ∨ ∃ o, o < 2 * n ∧ numS w b o k), fun j r hj => ?_, fun i j k _ _ hne hi hj => ?_⟩
  · obtain ⟨cur, hcur, hx⟩ := hM.out
    have hjl := (List.getElem?_eq_some_iff.1 hj).1
    obtain ⟨ob, hob⟩ : ∃ ob, bs[j]? = some ob := ⟨_, List.getElem?_eq_getElem (by rw [hM.len]; exact hjl)⟩
    obtain ⟨pc, hpc, hcc⟩ := hx j ob hob
    obtain ⟨hF, hrn⟩ := hM.row j ob r hob hj
    refine ⟨G, 0, [.slice (pB ob) n pc], cur, rfl, hG, hcur, fun i u hu => ?_, ⟨pB ob, pc, by rw [hrn], by omega, ?_⟩, fun k hk => ?_, fun hk => ?_⟩
    · rcases i with _ | i
      · injection hu with hu
        subst hu
        rw [show EXR.k = 1 from rfl, Nat.mul_one, Nat.zero_add, Nat.add_zero]
        exact hcc
      · simp at hu
    · cases ob with
      | none =>
        have : r = [] := hF
        subst this
        exact OX.nil _ _ _ _ _
      | some b =>
        obtain ⟨hF, hSb⟩ := hF
        have hRb := (h5 j b hob).2
        obtain ⟨cu, hcu, hxs⟩ := hF
        have cellb : ∀ (o : Nat) (u : Value), cu[o]? = some u → w.cell? ⟨b, o, none⟩ = some u := fun o u hu => by simp [World.cell?, hcu, hu]
        refine ⟨by omega, fun i k => numS w b (i * 2) k ∨ numS w b (i * 2 + 1) k, fun i x hi => ?_, fun i i' k hi hi' hne q1 q2 => ?_⟩
        · have hil := (List.getElem?_eq_some_iff.1 hi).1
          obtain ⟨A1, c1, A2, c2, e1, e2, r1, r2⟩ := hxs i x hi
          have xi : ∀ (o : Nat) (A : Option Addr) (c : Nat) (l : List Int), o < 2 * n → cu[o]? = some (.slice A l.length c) → Rd w A l → XI w (fun k => numS w b o k) (.slice A l.length c) l := fun o A c l ho hcuo hr => by
            cases A with
            | none =>
              have : l = [] := by
                cases l with
                | nil => rfl
                | cons y l => obtain ⟨_, _, e, _⟩ := hr.2 0 (by simp); cases e
              subst this
              exact ⟨none, c, rfl, Fr.nil _ _ _, fun a e => by cases e⟩
            | some a =>
              obtain ⟨⟨_, q2, cur2, q3⟩, _⟩ := hO b o a l.length c (hRb o ho) (cellb o _ hcuo)
              exact ⟨some a, c, rfl, ⟨hr, q2, fun a' e => by injection e with e; subst e; exact ⟨Nat.zero_le _, cur2, q3⟩⟩, fun a' e => by injection e with e; subst e; exact ⟨a, l.length, c, cellb o _ hcuo, rfl⟩⟩
          refine ⟨b, 0, [.slice A1 x.n.length c1, .slice A2 x.d.length c2], cu, rfl, ⟨b, hob, .inl rfl⟩, hcu, fun q u hu => ?_, ⟨_, _, rfl, fun k => numS w b (i * 2) k, fun k => numS w b (i * 2 + 1) k, xi _ _ _ _ (by omega) e1 r1.1, xi _ _ _ _ (by omega) e2 r2.1, fun k hk => .inl hk, fun k hk => .inr hk, fun k q1 q2 => ?_⟩, fun k hk => ?_, fun hk => ?_⟩
          · rw [show EXF.k = 2 from rfl, Nat.zero_add]
            match q, hu with
            | 0, hu => simp at hu; rw [← hu]; exact e1
            | 1, hu => simp at hu; rw [← hu]; exact e2
          · have := (same (hRb _ (by omega)) (hRb _ (by omega)) q1 q2).2; omega
          · rcases hk with hk | hk
            · exact ⟨b, hob, .inr ⟨_, by omega, hk⟩⟩
            · exact ⟨b, hob, .inr ⟨_, by omega, hk⟩⟩
          · rcases hk with hk | hk
            · exact (num (hRb _ (by omega)) hk).2.2 (h1 _ hSb)
            · exact (num (hRb _ (by omega)) hk).2.2 (h1 _ hSb)
        · rcases q1 with q1 | q1 <;> rcases q2 with q2 | q2 <;>
            (have := (same (hRb _ (by omega)) (hRb _ (by omega)) q1 q2).2; omega)
    · obtain ⟨b, hb, hk⟩ := hk
      rcases hk with rfl | ⟨o, ho, hk⟩
      · exact h3 _ (h5 j _ hb).1
      · have := num ((h5 j b hb).2 o ho) hk
        exact ⟨this.1, this.2.1⟩
    · obtain ⟨b, hb, hk⟩ := hk
      rcases hk with rfl | ⟨o, ho, hk⟩
      · exact hM.ng j _ hb rfl
      · exact (num ((h5 j b hb).2 o ho) hk).2.2 (h1 _ hM.sg)
  · obtain ⟨b, hb, q1⟩ := hi
    obtain ⟨b', hb', q2⟩ := hj
    have hbb : b ≠ b' := fun e2 => hne (by subst e2; exact hM.nd i j b hb hb')
    rcases q1 with rfl | ⟨o, ho, q1⟩
    · rcases q2 with rfl | ⟨o', ho', q2⟩
      · exact hbb rfl
      · exact (num ((h5 j b' hb').2 o' ho') q2).2.2 (h1 _ (h5 i _ hb).1)
    · rcases q2 with rfl | ⟨o', ho', q2⟩
      · exact (num ((h5 i b hb).2 o ho) q1).2.2 (h1 _ (h5 j _ hb').1)
      · exact hbb (same ((h5 i b hb).2 o ho) ((h5 j b' hb').2 o' ho') q1 q2).1.symm
end Go.Proofs.YtpeogfapnofeoaaGreatDoor
namespace Go.Proofs.YtpeogfapnofeoaaGreatDoor
set_option maxRecDepth 100000
open Go Go.RowKit
theorem totF_le {p : Int} {L : Nat} {r : List Fra} (h : GdR p L r) : totF r ≤ 2 * L * r.length := by
  induction r with
  | nil => exact Int.le_refl _
  | cons x r ih =>
    have h1 := ih fun y hy => h y (List.mem_cons_of_mem _ hy)
    have h2 : totF (x :: r) = EF.tot x + totF r := totS_cons EF x r
    have h3 := (h x List.mem_cons_self).2
    have h4 : EF.tot x = (x.n.length : Int) + (x.d.length : Int) := rfl
    have h5 := h3.1
    have h6 := h3.2
    rw [h2, h4, List.length_cons]
    have : ((2 * L * (r.length + 1) : Nat) : Int) = 2 * L * r.length + 2 * L := by rw [Nat.mul_add]; push_cast; omega
    push_cast at this ⊢
    omega
theorem totFF_le {p : Int} {L n : Nat} {b : List (List Fra)} (h : GdM p L b) (hw : Wid n b) : totFF b ≤ 2 * L * n * b.length := by
  induction b with
  | nil => exact Int.le_refl _
  | cons r b ih =>
    have h1 := ih (fun y hy => h y (List.mem_cons_of_mem _ hy)) (fun y hy => hw y (List.mem_cons_of_mem _ hy))
    have h2 : totFF (r :: b) = totF r + totFF b := totS_cons EFF _ _
    have h3 := totF_le (h r List.mem_cons_self)
    rw [hw r List.mem_cons_self] at h3
    rw [h2, List.length_cons]
    have : ((2 * L * n * (b.length + 1) : Nat) : Int) = 2 * L * n * b.length + 2 * L * n := by rw [Nat.mul_add]; push_cast; omega
    push_cast at this ⊢
    omega
theorem rrB_tot {p : Int} {x : RRel} (h : rrB p x = true) : totFF x.b ≤ 1000000 := by
  obtain ⟨l, r, _, _, hlr, hg, hw, _, hb, _⟩ := rrB_has h
  have h1 := totFF_le hg hw
  have h2 : ((2 * 21 * (l + r) * x.b.length : Nat) : Int) ≤ ((2 * 21 * 12 * 12 : Nat) : Int) := by
    have := Nat.mul_le_mul (Nat.mul_le_mul (Nat.le_refl (2 * 21)) hlr) hb
    exact_mod_cast this
  push_cast at h1 h2
  omega
theorem ifU_tot (p : Int) (x : RRel) : totFF (ifU p x).1.b ≤ 1125899906842624 := by
  cases h : rrB p x with
  | true => rw [ifU_yes h]; have := rrB_tot h; show totFF x.b ≤ _; omega
  | false => rw [ifU_no h]; show (0 : Int) ≤ _; omega
/-- One of two values. -/
def pickV (b : Bool) (u v : Value) : Value := if b = true then u else v
/-- The program's test of a list that is reduced. -/
def vrB (p l r : Int) (b : List (List Fra)) : Bool := fitB l r && (okRows p (l + r).toNat b && fieldB p)
theorem rrB_rref {p l r : Int} {rows : List (List Fra)} (hF : fieldB p = true) (hg : ∀ v ∈ rows, ∀ x ∈ v, FV p x) (hw : Wid (l + r).toNat rows) : rrB p ⟨l, r, (frOps p).rref (l + r).toNat rows⟩ = vrB p l r ((frOps p).rref (l + r).toNat rows) := by
  have hR := (rref_good hF hg hw).1
  rw [Bool.eq_iff_iff, rrB_iff]
  unfold vrB
  rw [Bool.and_eq_true, Bool.and_eq_true]
  exact ⟨fun h => ⟨h.2.1, h.2.2.1, hF⟩, fun h => ⟨hF, h.1, h.2.1, hR⟩⟩
theorem off_nil (w : World) (a b : Nat) : OFF w a b (.slice none 0 0) [] := ⟨⟨none, 0, fun _ => False, rfl, fun k hk => hk.elim, OX.nil _ _ _ _ _⟩, by show (0 : Int) ≤ _; omega⟩
set_option maxHeartbeats 2000000 in
theorem ratRelation_c (p : Int) (l r : Nat) (rows : List (List Fra)) (A : Option Addr) (c : Nat) (w : World) (hF : fieldB p = true) (h : RdS EFF w A rows) (hw : Wid (l + r) rows) (hGd : ∀ c, c ≤ l + r → GdM p 17179869184 (stg (frOps p) rows c).1) (hn : l + r ≤ 1000) (hR : rows.length ≤ 1000) :
    Calls Tryz.prog 55 #[.int .i64 p, .int .i64 l, .int .i64 r, .slice A rows.length c] w fun e w' => ∃ y, e = .returned (.agg #[.int .i64 l, .int .i64 r, y]) ∧ OFX w' w.heap.size w'.heap.size y ((frOps p).rref (l + r) rows) ∧ Ex w w' := by
  have hwr : IntKind.i64.wrap ((l : Int) + (r : Int)) = ((l + r : Nat) : Int) := by rw [IntWalk.i64_in _ (by omega)]; omega
  have x0 := (Ex.refl w).alloc (.cells #[.int .i64 0, .int .i64 0, .slice none 0 0] 32)
  have d0 := VB.new w 32 #[.int .i64 0, .int .i64 0, .slice none 0 0]
  have cR := ratReduced_c p (l + r) rows A c (w.alloc (.cells #[.int .i64 0, .int .i64 0, .slice none 0 0] 32)) hF (h.ex x0) hw hGd hn hR
  have hrl : ((frOps p).rref (l + r) rows).length ≤ 1000 := by
    unfold Ops.rref
    rw [List.length_take, red_len]
    omega
  clear hF h hw hGd hR
  generalize (frOps p).rref (l + r) rows = RR at *
  obtain ⟨N, hN⟩ : ∃ N, l + r = N := ⟨_, rfl⟩
  rw [hN] at hwr cR hn
  clear hN
  go_enter Tryz.func55, Tryz.ntmps55
  go_wp2_with fail
  generalize w.alloc (.cells #[.int .i64 0, .int .i64 0, .slice none 0 0] 32) = W0 at *
  refine cR.mono ?_
  rintro e w1 ⟨v, rfl, o, x1⟩
  have fx : OFX w1 W0.heap.size w1.heap.size v RR := o.ofx (by omega) (by omega)
  obtain ⟨A1, c1, rfl, _⟩ := fx.rd
  have hlt := d0.lt
  clear cR o
  have dz := d0.ex x1
  have xz := x0.trans x1
  obtain ⟨dd, zz⟩ := dz.st3 (.int .i64 l) (.int .i64 r) (.slice A1 RR.length c1)
  have u0 := dz.cell 0 (v := .int .i64 0) rfl
  have u1 := dz.cell 1 (v := .int .i64 0) rfl
  have u2 := dz.cell 2 (v := .slice none 0 0) rfl
  have k0 := dz.frozen 0
  have k1 := dz.frozen 1
  have k2 := dz.frozen 2
  have C0 := dd.cell 0 (v := .int .i64 l) rfl
  have C1 := dd.cell 1 (v := .int .i64 r) rfl
  have C2 := dd.cell 2 (v := .slice A1 RR.length c1) rfl
  have eF := xz.ex1 zz (Nat.le_refl _)
  have fx2 := fx.iv (ExI.of_ex1 zz) (by omega)
  have fx3 := fx2.more (a' := w.heap.size) (b' := w1.heap.size) (by omega) (Nat.le_refl _)
  go_wp2_with fail
  refine bodyPost_ret (v := .agg #[.int .i64 l, .int .i64 r, .slice A1 RR.length c1]) (by simp [results, Tryz.results55, go_sem, C0, C1, C2]) rfl ?_
  exact ⟨_, rfl, fx3.more (Nat.le_refl _) (Nat.le_of_eq (by simp)), eF⟩
set_option maxHeartbeats 4000000 in
theorem validRat_c (p : Int) (x : RRel) (A : Option Addr) (c : Nat) (w : World) (h : RdS EFF w A x.b) (ht : Tb w) :
    Calls Tryz.prog 54 #[.int .i64 p, .agg #[.int .i64 x.l, .int .i64 x.r, .slice A x.b.length c]] w fun e w' => e = .returned (.tuple #[pickV (vrB p x.l x.r x.b) (.agg #[.int .i64 x.l, .int .i64 x.r, .slice A x.b.length c]) (.agg #[.int .i64 0, .int .i64 0, .slice none 0 0]), .bool (vrB p x.l x.r x.b)]) ∧ Ex w w' := by
  obtain ⟨l, r, rows⟩ := x
  dsimp only at h ⊢
  have hl := h.1
  have y0 := (Ex.refl w).alloc (.cells #[.int .i64 l, .int .i64 r, .slice A rows.length c] 32)
  have d0 := VB.new w 32 #[.int .i64 l, .int .i64 r, .slice A rows.length c]
  have S0 := Lib.hid (show (w.alloc (.cells #[.int .i64 l, .int .i64 r, .slice A rows.length c] 32)).heap.size = w.heap.size + 1 by simp)
  cases hfit : fitB l r with
  | false =>
    have HV := Lib.hid (show vrB p l r rows = false by unfold vrB; rw [hfit]; rfl)
    have c1 : ∀ W, Calls Tryz.prog 52 #[.int .i64 l, .int .i64 r] W fun e w' => e = .returned (.bool false) ∧ W = w' := fun W => by have := ratFits_c l r W; rw [hfit] at this; exact this
    clear hfit
    go_enter Tryz.func54, Tryz.ntmps54
    go_wp2_with fail
    generalize w.alloc (.cells #[.int .i64 l, .int .i64 r, .slice A rows.length c] 32) = W0 at *
    have y2 := (Ex.refl W0).alloc (.cells #[.int .i64 0, .int .i64 0, .slice none 0 0] 32)
    have d2 := VB.new W0 32 #[.int .i64 0, .int .i64 0, .slice none 0 0]
    rw [S0.out] at d2
    generalize W0.alloc (.cells #[.int .i64 0, .int .i64 0, .slice none 0 0] 32) = W2 at *
    have xx := y0.trans y2
    have q := d0.ex y2
    clear y0 y2
    have q0 := q.cell 0 (v := .int .i64 l) rfl
    have q1 := q.cell 1 (v := .int .i64 r) rfl
    refine (c1 _).mono ?_
    rintro e w3 ⟨rfl, rfl⟩
    have dz := d2
    have xz := xx
    obtain ⟨dd, zz⟩ := dz.st3 (.int .i64 0) (.int .i64 0) (.slice none 0 0)
    have u0 := dz.cell 0 (v := .int .i64 0) rfl
    have u1 := dz.cell 1 (v := .int .i64 0) rfl
    have u2 := dz.cell 2 (v := .slice none 0 0) rfl
    have k0 := dz.frozen 0
    have k1 := dz.frozen 1
    have k2 := dz.frozen 2
    have C0 := dd.cell 0 (v := .int .i64 0) rfl
    have C1 := dd.cell 1 (v := .int .i64 0) rfl
    have C2 := dd.cell 2 (v := .slice none 0 0) rfl
    have eF := xz.ex1 zz (by omega)
    go_wp2_with fail
    refine bodyPost_ret (v := .tuple #[.agg #[.int .i64 0, .int .i64 0, .slice none 0 0], .bool false]) (by simp [results, Tryz.results54, go_sem, C0, C1, C2]) rfl ?_
    rw [HV.out]
    exact ⟨rfl, eF⟩
  | true =>
    have hlr := fit_lt hfit
    obtain ⟨N, hN⟩ : ∃ N : Nat, (l + r).toNat = N := ⟨_, rfl⟩
    have hwr : IntKind.i64.wrap (l + r) = (N : Int) := by rw [IntWalk.i64_in _ (by omega)]; omega
    have hN12 : N ≤ 12 := by omega
    have HVB := Lib.hid (show vrB p l r rows = (okRows p N rows && fieldB p) by unfold vrB; rw [hfit, hN]; rfl)
    have c1 : ∀ W, Calls Tryz.prog 52 #[.int .i64 l, .int .i64 r] W fun e w' => e = .returned (.bool true) ∧ W = w' := fun W => by have := ratFits_c l r W; rw [hfit] at this; exact this
    have c2 := fun W (hW : Ex w W) => areRows_c p N A c rows W (h.ex hW) (by omega) (ht.ex hW)
    clear hfit hlr hN
    cases hok : (okRows p N rows && fieldB p) with
    | false =>
      have HV := Lib.hid (HVB.out.trans hok)
      rw [hok] at c2
      clear hok
      go_enter Tryz.func54, Tryz.ntmps54
      go_wp2_with fail
      generalize w.alloc (.cells #[.int .i64 l, .int .i64 r, .slice A rows.length c] 32) = W0 at *
      have y2 := (Ex.refl W0).alloc (.cells #[.int .i64 0, .int .i64 0, .slice none 0 0] 32)
      have d2 := VB.new W0 32 #[.int .i64 0, .int .i64 0, .slice none 0 0]
      rw [S0.out] at d2
      generalize W0.alloc (.cells #[.int .i64 0, .int .i64 0, .slice none 0 0] 32) = W2 at *
      have xx := y0.trans y2
      have q := d0.ex y2
      clear y0 y2
      have q0 := q.cell 0 (v := .int .i64 l) rfl
      have q1 := q.cell 1 (v := .int .i64 r) rfl
      have q2 := q.cell 2 (v := .slice A rows.length c) rfl
      refine (c1 _).mono ?_
      rintro e w3 ⟨rfl, rfl⟩
      go_wp2_with fail
      refine (c2 W2 xx).mono ?_
      rintro e w4 ⟨rfl, x4⟩
      clear hwr
      have dz := d2.ex x4
      have xz := xx.trans x4
      obtain ⟨dd, zz⟩ := dz.st3 (.int .i64 0) (.int .i64 0) (.slice none 0 0)
      have u0 := dz.cell 0 (v := .int .i64 0) rfl
      have u1 := dz.cell 1 (v := .int .i64 0) rfl
      have u2 := dz.cell 2 (v := .slice none 0 0) rfl
      have k0 := dz.frozen 0
      have k1 := dz.frozen 1
      have k2 := dz.frozen 2
      have C0 := dd.cell 0 (v := .int .i64 0) rfl
      have C1 := dd.cell 1 (v := .int .i64 0) rfl
      have C2 := dd.cell 2 (v := .slice none 0 0) rfl
      have eF := xz.ex1 zz (by omega)
      go_wp2_with fail
      refine bodyPost_ret (v := .tuple #[.agg #[.int .i64 0, .int .i64 0, .slice none 0 0], .bool false]) (by simp [results, Tryz.results54, go_sem, C0, C1, C2]) rfl ?_
      rw [HV.out]
      exact ⟨rfl, eF⟩
    | true =>
      have HV := Lib.hid (HVB.out.trans hok)
      rw [hok] at c2
      clear hok
      go_enter Tryz.func54, Tryz.ntmps54
      go_wp2_with fail
      generalize w.alloc (.cells #[.int .i64 l, .int .i64 r, .slice A rows.length c] 32) = W0 at *
      have y2 := (Ex.refl W0).alloc (.cells #[.int .i64 0, .int .i64 0, .slice none 0 0] 32)
      have d2 := VB.new W0 32 #[.int .i64 0, .int .i64 0, .slice none 0 0]
      rw [S0.out] at d2
      generalize W0.alloc (.cells #[.int .i64 0, .int .i64 0, .slice none 0 0] 32) = W2 at *
      have xx := y0.trans y2
      have q := d0.ex y2
      clear y0 y2
      have q0 := q.cell 0 (v := .int .i64 l) rfl
      have q1 := q.cell 1 (v := .int .i64 r) rfl
      have q2 := q.cell 2 (v := .slice A rows.length c) rfl
      refine (c1 _).mono ?_
      rintro e w3 ⟨rfl, rfl⟩
      go_wp2_with fail
      refine (c2 W2 xx).mono ?_
      rintro e w4 ⟨rfl, x4⟩
      clear hwr
      replace q0 := cell_ex x4 q0
      replace q1 := cell_ex x4 q1
      replace q2 := cell_ex x4 q2
      have dz := d2.ex x4
      have xz := xx.trans x4
      obtain ⟨dd, zz⟩ := dz.st3 (.int .i64 l) (.int .i64 r) (.slice A rows.length c)
      have u0 := dz.cell 0 (v := .int .i64 0) rfl
      have u1 := dz.cell 1 (v := .int .i64 0) rfl
      have u2 := dz.cell 2 (v := .slice none 0 0) rfl
      have k0 := dz.frozen 0
      have k1 := dz.frozen 1
      have k2 := dz.frozen 2
      have C0 := dd.cell 0 (v := .int .i64 l) rfl
      have C1 := dd.cell 1 (v := .int .i64 r) rfl
      have C2 := dd.cell 2 (v := .slice A rows.length c) rfl
      have eF := xz.ex1 zz (by omega)
      go_wp2_with fail
      refine bodyPost_ret (v := .tuple #[.agg #[.int .i64 l, .int .i64 r, .slice A rows.length c], .bool true]) (by simp [results, Tryz.results54, go_sem, C0, C1, C2]) rfl ?_
      rw [HV.out]
      exact ⟨rfl, eF⟩
end Go.Proofs.YtpeogfapnofeoaaGreatDoor
