/- Contracts of the laws' own helpers on fractions. Contracts: lists of fractions; causal fractions. -/
import Derived.Test.YtofppmieipiidaaDoorPkB
namespace Go.Proofs.YtofppmieipiidaaDoor
set_option maxRecDepth 100000
open Go Go.RowKit
set_option maxHeartbeats 400000 in
theorem szFraction_ok (A B : Option Addr) (c d n m : Nat) (l : Int) (w : World) (hn : (n : Int) + (m : Int) ≤ l) (hl : l ≤ 1048576) : Calls Tryd.prog 9 #[.agg #[.slice A n c, .slice B m d], .int .i64 l] w fun e w' => e = .returned (.int .i64 (l - (n : Int) - (m : Int))) ∧ Ex w w' := by
  go_enter Tryd.func9, Tryd.ntmps9
  go_wp2_with fail
  refine (szIntS_ok A c n l _ (by omega) hl).mono ?_
  rintro e w1 ⟨rfl, rfl⟩
  go_wp2_with fail
  refine (szIntS_ok B d m _ _ (by omega) (by omega)).mono ?_
  rintro e w1 ⟨rfl, rfl⟩
  go_wp2
  go_ret
  exact ⟨rfl, (Ex.refl w).alloc _⟩
set_option maxHeartbeats 400000 in
theorem szFraction_big (A B : Option Addr) (c d n m : Nat) (l : Int) (w : World) (hn : l < (n : Int) + (m : Int)) (h1 : n ≤ 9223372036854775807) (h2 : m ≤ 9223372036854775807) (h0 : 0 ≤ l) (hl : l ≤ 1048576) : Calls Tryd.prog 9 #[.agg #[.slice A n c, .slice B m d], .int .i64 l] w fun e w' => e = .returned (.int .i64 (-1)) ∧ Ex w w' := by
  by_cases hb : l < (n : Int)
  · go_enter Tryd.func9, Tryd.ntmps9
    go_wp2_with fail
    refine (szIntS_big A c n l _ hb h1 h0 hl).mono ?_
    rintro e w1 ⟨rfl, rfl⟩
    go_wp2
    go_ret
    exact ⟨rfl, (Ex.refl w).alloc _⟩
  · go_enter Tryd.func9, Tryd.ntmps9
    go_wp2_with fail
    refine (szIntS_ok A c n l _ (by omega) hl).mono ?_
    rintro e w1 ⟨rfl, rfl⟩
    go_wp2_with fail
    refine (szIntS_big B d m _ _ (by omega) h2 (by omega) (by omega)).mono ?_
    rintro e w1 ⟨rfl, rfl⟩
    go_wp2
    go_ret
    exact ⟨rfl, (Ex.refl w).alloc _⟩
set_option maxHeartbeats 400000 in
theorem eqFraction_c (A B A' B' : Option Addr) (c d c' d' : Nat) (n m : List Int) (w : World) (h1 : Rd w A n) (h2 : Rd w B m) (h3 : Rd w A' n) (h4 : Rd w B' m) :
    Calls Tryd.prog 13 #[.agg #[.slice A n.length c, .slice B m.length d], .agg #[.slice A' n.length c', .slice B' m.length d']] w fun e w' => e = .returned (.bool true) ∧ Ex w w' := by
  have x0 : ∀ (a b : Obj), Ex w ((w.alloc a).alloc b) := fun a b => ((Ex.refl w).alloc a).alloc b
  go_enter Tryd.func13, Tryd.ntmps13
  go_wp2_with fail
  refine (eqIntS_c A A' c c' n _ (h1.ex (x0 _ _)) (h3.ex (x0 _ _))).mono ?_
  rintro e w1 ⟨rfl, x1⟩
  have c0 := cell_ex x1 (g := w.heap.size) (o := 1) (v := .slice B m.length d) (box2a _ _ _ _ _).2
  have c1 := cell_ex x1 (g := w.heap.size + 1) (o := 1) (v := .slice B' m.length d') (box2b _ _ _ _ _).2
  have xx := (x0 _ _).trans x1
  clear x0 x1
  go_wp2_with fail
  refine (eqIntS_c B B' d d' m _ (h2.ex xx) (h4.ex xx)).mono ?_
  rintro e w2 ⟨rfl, x2⟩
  go_wp2
  go_ret
  exact ⟨rfl, xx.trans x2⟩
set_option maxHeartbeats 1000000 in
theorem toFraction_c (A B : Option Addr) (c d : Nat) (n m : List Int) (w : World) (h1 : Rd w A n) (h2 : Rd w B m) :
    Calls Tryd.prog 11 #[.agg #[.slice A n.length c, .slice B m.length d]] w fun e w' => FF w n m e w' := by
  have x1 := (Ex.refl w).alloc (.cells #[.slice A n.length c, .slice B m.length d] 29)
  have b1 := VB.new w 29 #[.slice A n.length c, .slice B m.length d]
  have s1 : (w.alloc (.cells #[.slice A n.length c, .slice B m.length d] 29)).heap.size = w.heap.size + 1 := by simp
  have S1 := Lib.hid s1
  clear s1
  go_enter Tryd.func11, Tryd.ntmps11
  go_wp2_with fail
  generalize w.alloc (.cells #[.slice A n.length c, .slice B m.length d] 29) = W1 at *
  have y2 := (Ex.refl W1).alloc (.cells #[.slice none 0 0, .slice none 0 0] 32)
  have b2 := VB.new W1 32 #[.slice none 0 0, .slice none 0 0]
  rw [S1.out] at b2
  have S2 := Lib.hid (show (W1.alloc (.cells #[.slice none 0 0, .slice none 0 0] 32)).heap.size = w.heap.size + 1 + 1 by simp; exact S1.out)
  generalize W1.alloc (.cells #[.slice none 0 0, .slice none 0 0] 32) = W2 at *
  have y3 := (Ex.refl W2).alloc (.cells #[.slice none 0 0, .slice none 0 0] 32)
  have b3 := VB.new W2 32 #[.slice none 0 0, .slice none 0 0]
  rw [S2.out] at b3
  have S3 := Lib.hid (show (W2.alloc (.cells #[.slice none 0 0, .slice none 0 0] 32)).heap.size = w.heap.size + 1 + 1 + 1 by simp; exact S2.out)
  generalize W2.alloc (.cells #[.slice none 0 0, .slice none 0 0] 32) = W3 at *
  have x3 := (x1.trans y2).trans y3
  have b1' := (b1.ex y2).ex y3
  have b2' := b2.ex y3
  clear b1 b2 y2 y3 x1
  refine (toIntS_c A c n W3 (h1.ex x3)).mono ?_
  rintro e w1 ⟨g1, rfl, hg1, k1, z1⟩
  have d1 := b1'.ex z1
  have d2 := b2'.ex z1
  have d3 := b3.ex z1
  have x4 := x3.trans z1
  have c11 := d1.cell 1 (v := .slice B m.length d) rfl
  have c30 := d3.cell 0 (v := .slice none 0 0) rfl
  have f30 := d3.frozen 0
  clear b1' b2' b3
  go_wp2_with fail
  have q1 : Ex1 (w.heap.size + 1 + 1) w1 (w1.setCell ⟨w.heap.size + 1 + 1, 0, none⟩ (.slice (some ⟨g1, 0, none⟩) n.length n.length)) := (Ex1.refl _ _).setCell rfl _
  have d1' := d1.ex1 q1 (by omega)
  have d2' := d2.ex1 q1 (by omega)
  have d3' : VB (w1.setCell ⟨w.heap.size + 1 + 1, 0, none⟩ (.slice (some ⟨g1, 0, none⟩) n.length n.length)) (w.heap.size + 1 + 1) 32 #[.slice (some ⟨g1, 0, none⟩) n.length n.length, .slice none 0 0] := d3.set_ 0 _
  have hg1' : w.heap.size + 1 + 1 + 1 ≤ g1 := by have := S3.out; omega
  have k1' := k1.ex1 q1 (by omega)
  have x5 := x4.ex1 q1 (by omega)
  clear c11 c30 f30 d1 d2 d3 k1 q1
  generalize w1.setCell ⟨w.heap.size + 1 + 1, 0, none⟩ (.slice (some ⟨g1, 0, none⟩) n.length n.length) = W4 at *
  refine (toIntS_c B d m W4 (h2.ex x5)).mono ?_
  rintro e w2 ⟨g2, rfl, hg2, k2, z2⟩
  have d1 := d1'.ex z2
  have d2 := d2'.ex z2
  have d3 := d3'.ex z2
  have k1 := k1'.ex z2
  have l1 := k1'.lt
  have x6 := x5.trans z2
  have c30 := d3.cell 0 (v := .slice (some ⟨g1, 0, none⟩) n.length n.length) rfl
  have c31 := d3.cell 1 (v := .slice none 0 0) rfl
  have f31 := d3.frozen 1
  have c20 := d2.cell 0 (v := .slice none 0 0) rfl
  have c21 := d2.cell 1 (v := .slice none 0 0) rfl
  have f20 := d2.frozen 0
  have f21 := d2.frozen 1
  clear d1' d2' d3' k1'
  go_wp2_with fail
  have q1 : Ex1 (w.heap.size + 1 + 1) w2 (w2.setCell ⟨w.heap.size + 1 + 1, 1, none⟩ (.slice (some ⟨g2, 0, none⟩) m.length m.length)) := (Ex1.refl _ _).setCell rfl _
  have e2 := d2.ex1 q1 (by omega)
  have j1 := k1.ex1 q1 (by omega)
  have j2 := k2.ex1 q1 (by omega)
  have x7 := x6.ex1 q1 (by omega)
  generalize w2.setCell ⟨w.heap.size + 1 + 1, 1, none⟩ (.slice (some ⟨g2, 0, none⟩) m.length m.length) = W5 at *
  have q2 : Ex1 (w.heap.size + 1) W5 ((W5.setCell ⟨w.heap.size + 1, 0, none⟩ (.slice (some ⟨g1, 0, none⟩) n.length n.length)).setCell ⟨w.heap.size + 1, 1, none⟩ (.slice (some ⟨g2, 0, none⟩) m.length m.length)) := ((Ex1.refl (w.heap.size + 1) W5).setCell (p := ⟨w.heap.size + 1, 0, none⟩) rfl _).setCell (p := ⟨w.heap.size + 1, 1, none⟩) rfl _
  have e3 : VB ((W5.setCell ⟨w.heap.size + 1, 0, none⟩ (.slice (some ⟨g1, 0, none⟩) n.length n.length)).setCell ⟨w.heap.size + 1, 1, none⟩ (.slice (some ⟨g2, 0, none⟩) m.length m.length)) (w.heap.size + 1) 32 #[.slice (some ⟨g1, 0, none⟩) n.length n.length, .slice (some ⟨g2, 0, none⟩) m.length m.length] := (e2.set_ 0 _).set_ 1 _
  have i1 := j1.ex1 q2 (by omega)
  have i2 := j2.ex1 q2 (by omega)
  have x8 := x7.ex1 q2 (by omega)
  generalize (W5.setCell ⟨w.heap.size + 1, 0, none⟩ (.slice (some ⟨g1, 0, none⟩) n.length n.length)).setCell ⟨w.heap.size + 1, 1, none⟩ (.slice (some ⟨g2, 0, none⟩) m.length m.length) = W6 at *
  have a0 := e3.cell 0 (v := .slice (some ⟨g1, 0, none⟩) n.length n.length) rfl
  have a1 := e3.cell 1 (v := .slice (some ⟨g2, 0, none⟩) m.length m.length) rfl
  refine bodyPost_ret (v := .agg #[.slice (some ⟨g1, 0, none⟩) n.length n.length, .slice (some ⟨g2, 0, none⟩) m.length m.length]) (by simp [results, Tryd.results11, go_sem, a0, a1]) rfl ?_
  exact ⟨_, _, _, _, rfl, i1.fr h1.len (by omega) (Nat.le_refl _), i2.fr h2.len (by omega) (Nat.le_refl _), apart_ne (by omega), x8⟩
end Go.Proofs.YtofppmieipiidaaDoor
namespace Go.Proofs.YtofppmieipiidaaDoor
set_option maxRecDepth 100000
open Go Go.RowKit
/-- The slice that begins at A holds the fractions fs, two cells each. -/
def RdF (w : World) (A : Option Addr) (fs : List (List Int × List Int)) : Prop :=
  fs.length ≤ 549755813888 ∧ ∀ (j : Nat) (q : List Int × List Int), fs[j]? = some q → ∃ g off A' c B' d, A = some ⟨g, off, none⟩ ∧
    w.cell? ⟨g, off + j * 2, none⟩ = some (.slice A' q.1.length c) ∧ w.cell? ⟨g, off + j * 2 + 1, none⟩ = some (.slice B' q.2.length d) ∧ Rd w A' q.1 ∧ Rd w B' q.2
theorem RdF.ex {w w' : World} {A : Option Addr} {fs : List (List Int × List Int)} (h : RdF w A fs) (he : Ex w w') : RdF w' A fs :=
  ⟨h.1, fun j q hj => by
    obtain ⟨g, off, A', c, B', d, hA, h0, h1, r0, r1⟩ := h.2 j q hj
    exact ⟨g, off, A', c, B', d, hA, cell_ex he h0, cell_ex he h1, r0.ex he, r1.ex he⟩⟩
set_option maxHeartbeats 1000000 in
theorem areFractions_c (p : Int) (A : Option Addr) (c : Nat) (fs : List (List Int × List Int)) (w : World) (h : RdF w A fs) (ht : Tb w) :
    Calls Tryd.prog 21 #[.int .i64 p, .slice A fs.length c] w fun e w' => e = .returned (.bool (fs.all (fun q => fracB p q.1 q.2) && fieldB p)) ∧ Ex w w' := by
  have hl1 := h.1
  go_enter Tryd.func21, Tryd.ntmps21
  go_wp2_with fail
  go_loopw [9] (fun i w' => ∃ k : Nat, k ≤ fs.length ∧ Hid ((fs.take k).all (fun q => fracB p q.1 q.2) = true) ∧ Ex w w' ∧ i = .int .i64 k) (fun i _ => fs.length - (intOf i).toNat)
  case atStart => exact ⟨0, Nat.zero_le _, rfl, Ex.refl w, rfl⟩
  case round =>
    obtain ⟨k, hk, Hall, xw, rfl⟩ := hrel
    by_cases hlt : k < fs.length
    · obtain ⟨g, off, A', c', B', d', rfl, h0, h1, r0, r1⟩ := (h.ex xw).2 k _ (List.getElem?_eq_getElem hlt)
      have Hq := Lib.hid (List.getElem?_eq_getElem hlt)
      generalize fs[k] = q at *
      obtain ⟨n, m⟩ := q
      dsimp only at h0 h1 r0 r1
      have x1 := (Ex.refl wr).alloc (.cells #[.slice A' n.length c', .slice B' m.length d'] 32)
      cases hp : fracB p n m with
      | true =>
        have Hp := Lib.hid hp
        clear hp
        go_wp2_with fail
        generalize wr.alloc (.cells #[.slice A' n.length c', .slice B' m.length d'] 32) = W1 at *
        refine (isFraction_c p A' B' c' d' n m W1 (r0.ex x1) (r1.ex x1) (ht.ex (xw.trans x1))).mono ?_
        rintro e w2 ⟨rfl, x2⟩
        rw [Hp.out]
        go_wp2
        go_round
        case rel => exact ⟨k + 1, by omega, by
          show _ = true
          rw [List.take_add_one, Hq.out, List.all_append, Hall.out]; simp [Hp.out], (xw.trans x1).trans x2, by go_num⟩
        case measure => simp [intOf] <;> omega
      | false =>
        have Hp := Lib.hid hp
        clear hp
        go_wp2_with fail
        generalize wr.alloc (.cells #[.slice A' n.length c', .slice B' m.length d'] 32) = W1 at *
        refine (isFraction_c p A' B' c' d' n m W1 (r0.ex x1) (r1.ex x1) (ht.ex (xw.trans x1))).mono ?_
        rintro e w2 ⟨rfl, x2⟩
        rw [Hp.out]
        go_wp2
        go_ret
        exact ⟨ret_bool (by rw [List.all_eq_false.2 ⟨(n, m), List.mem_of_getElem? Hq.out, by simp [Hp.out]⟩]; rfl), (xw.trans x1).trans x2⟩
    · obtain rfl : k = fs.length := by omega
      have htw := ht.ex xw
      go_wp2_with (go_at_call 26; refine (isField_c _ _ htw).mono ?_; rintro e w' ⟨rfl, rfl⟩)
      go_ret
      exact ⟨ret_bool (by have := Hall.out; rw [List.take_length] at this; rw [this]; rfl), xw⟩
theorem fracB_field (p : Int) (n m : List Int) : ([(n, m)].all (fun q => fracB p q.1 q.2) && fieldB p) = fracB p n m := by
  simp only [List.all_cons, List.all_nil, Bool.and_true]
  cases h : fracB p n m
  · rfl
  · rw [(fracB_parts h).1]; rfl
theorem RdF.one {w : World} {g : Nat} {A B : Option Addr} {c d : Nat} {n m : List Int} (h0 : w.cell? ⟨g, 0, none⟩ = some (.slice A n.length c)) (h1 : w.cell? ⟨g, 1, none⟩ = some (.slice B m.length d)) (r0 : Rd w A n) (r1 : Rd w B m) : RdF w (some ⟨g, 0, none⟩) [(n, m)] :=
  ⟨by simp, fun j q hj => by
    match j with
    | 0 => injection hj with hj; subst hj; exact ⟨g, 0, A, c, B, d, rfl, h0, h1, r0, r1⟩
    | j + 1 => simp at hj⟩
end Go.Proofs.YtofppmieipiidaaDoor
