/- Copies of fractions, of rows, of lists of rows. -/
import Derived.Test.YtpeogfapnofeoaaGreatDoorPkE
import Derived.Test.YtpeogfapnofeoaaGreatDoorPkF
import Derived.Test.YtpeogfapnofeoaaGreatDoorPkAA
import Derived.Test.YtpeogfapnofeoaaGreatDoorPkG
namespace Go.Proofs.YtpeogfapnofeoaaGreatDoor
set_option maxRecDepth 100000
open Go Go.RowKit
theorem ofra_of_fr {w : World} {B : Nat} {A A' : Option Addr} {c c' : Nat} {x : Fra} (hA : Fr w B A c x.n) (hA' : Fr w B A' c' x.d) (h : Apart A A') (hB : B ≤ w.heap.size) : OFra w B w.heap.size (.slice A x.n.length c) (.slice A' x.d.length c') x := by
  have one : ∀ {A : Option Addr} {c : Nat} {l : List Int}, Fr w B A c l → ∃ a b, OI w a b (.slice A l.length c) l ∧ B ≤ a ∧ b ≤ w.heap.size ∧ ((A = none ∧ a = B ∧ b = B) ∨ ∃ p, A = some p ∧ a = p.block ∧ b = p.block + 1) := fun {A c l} hf => by
    cases A with
    | none => exact ⟨B, B, ⟨_, _, rfl, ⟨hf.1, hf.2.1, fun a e => by cases e⟩, fun a e => by cases e⟩, Nat.le_refl _, hB, .inl ⟨rfl, rfl, rfl⟩⟩
    | some p =>
      obtain ⟨h1, cur, h2⟩ := hf.2.2 p rfl
      exact ⟨p.block, p.block + 1, ⟨_, _, rfl, ⟨hf.1, hf.2.1, fun a e => by injection e with e; subst e; exact ⟨Nat.le_refl _, cur, h2⟩⟩, fun a e => by injection e with e; subst e; exact Nat.lt_succ_self _⟩, h1, heap_lt_of h2, .inr ⟨p, rfl, rfl, rfl⟩⟩
  obtain ⟨a0, b0, o0, l0, u0, k0⟩ := one hA
  obtain ⟨a1, b1, o1, l1, u1, k1⟩ := one hA'
  refine ⟨a0, b0, a1, b1, o0, o1, l0, u0, l1, u1, ?_⟩
  rcases k0 with ⟨_, e1, e2⟩ | ⟨p, e0, e1, e2⟩ <;> rcases k1 with ⟨_, e3, e4⟩ | ⟨q, e5, e3, e4⟩
  · omega
  · omega
  · omega
  · have := h p q e0 e5; omega
/-- How a fraction is owned. -/
def ELF : EL Fra where
  k := 2
  O := fun w a b vs x => ∃ v0 v1, vs = [v0, v1] ∧ OFra w a b v0 v1 x
  rlen := fun h => by obtain ⟨_, _, rfl, _⟩ := h; rfl
  keep := fun h hk => by obtain ⟨v0, v1, e, h⟩ := h; exact ⟨v0, v1, e, h.keep hk⟩
  one := fun h u hu => by
    obtain ⟨v0, v1, e, h⟩ := h
    obtain ⟨_, _, _, _, ⟨A, c, e0, _⟩, ⟨B, d, e1, _⟩, _⟩ := h
    subst e e0 e1
    simp at hu
    rcases hu with rfl | rfl <;> rfl
/-- A row of fractions that a call has collected. -/
def RowF (w : World) (a b : Nat) (v : Value) (x : List Fra) : Prop := v ≠ .slice none 0 0 ∧ GE ELF 58 w a b v x
def ELR : EL (List Fra) where
  k := 1
  O := fun w a b vs x => ∃ v, vs = [v] ∧ RowF w a b v x
  rlen := fun h => by obtain ⟨_, rfl, _⟩ := h; rfl
  keep := fun h hk => by obtain ⟨v, e, h1, h2⟩ := h; exact ⟨v, e, h1, h2.keep hk⟩
  one := fun h u hu => by
    obtain ⟨v, e, h1, h2⟩ := h
    obtain ⟨A, c, e2⟩ := h2.nilv
    subst e e2
    simp at hu
    subst hu; rfl
/-- A list of rows that a call has collected. -/
def RowsF (w : World) (a b : Nat) (v : Value) (x : List (List Fra)) : Prop := v ≠ .slice none 0 0 ∧ GE ELR 34 w a b v x
theorem RowF.ex {w w' : World} {a b : Nat} {v : Value} {x : List Fra} (h : RowF w a b v x) (he : Ex w w') : RowF w' a b v x := ⟨h.1, h.2.ex he⟩
theorem RowsF.ex {w w' : World} {a b : Nat} {v : Value} {x : List (List Fra)} (h : RowsF w a b v x) (he : Ex w w') : RowsF w' a b v x := ⟨h.1, h.2.ex he⟩
theorem push_frac {w : World} {B H : Nat} {v : Value} {xs : List Fra} (h : GE ELF 58 w B H v xs) (hH : H ≤ w.heap.size) {v0 v1 : Value} {x : Fra} {a b : Nat} (hu : OFra w a b v0 v1 x) (ha : H ≤ a) (hab : a ≤ b) (hb : b ≤ w.heap.size) (hB : B ≤ H) (hl : xs.length + 1 ≤ 1099511627776) :
    ∃ v' w', (Builtin.append_ #[34, 34] 34 #[v, .slice (some ⟨w.heap.size, 0, none⟩) 1 1]).run Tryz.prog (w.alloc (.cells #[v0, v1] 58)) = .ok v' w' ∧
      GE ELF 58 w' B w'.heap.size v' (xs ++ [x]) ∧ ExO v.ownBlock w w' ∧ v' ≠ .slice none 0 0 ∧ ∀ b', Ex b' w → b'.heap.size ≤ B → Ex b' w' := by
  obtain ⟨i, hi, hz, hs, hby⟩ := info_parts fracInfo
  obtain ⟨v', w', h1, h2, h3, _, h5, h6⟩ := GE.push ELF Tryz.underlying34 hi hz hs hby rfl (by decide) (by omega) h hH ⟨v0, v1, rfl, hu⟩ ha hab hb hB hl
  exact ⟨v', w', h1, h2, h3, h5, h6⟩
theorem push_row {w : World} {B H : Nat} {v : Value} {xs : List (List Fra)} (h : GE ELR 34 w B H v xs) (hH : H ≤ w.heap.size) {v0 : Value} {x : List Fra} {a b : Nat} (hu : RowF w a b v0 x) (ha : H ≤ a) (hab : a ≤ b) (hb : b ≤ w.heap.size) (hB : B ≤ H) (hl : xs.length + 1 ≤ 1099511627776) :
    ∃ v' w', (Builtin.append_ #[30, 30] 30 #[v, .slice (some ⟨w.heap.size, 0, none⟩) 1 1]).run Tryz.prog (w.alloc (.cells #[v0] 34)) = .ok v' w' ∧
      GE ELR 34 w' B w'.heap.size v' (xs ++ [x]) ∧ ExO v.ownBlock w w' ∧ v' ≠ .slice none 0 0 ∧ ∀ b', Ex b' w → b'.heap.size ≤ B → Ex b' w' := by
  obtain ⟨i, hi, hz, hs, hby⟩ := info_parts fracsInfo
  obtain ⟨v', w', h1, h2, h3, _, h5, h6⟩ := GE.push ELR Tryz.underlying30 hi hz hs hby rfl (by decide) (by omega) h hH ⟨v0, rfl, hu⟩ ha hab hb hB hl
  exact ⟨v', w', h1, h2, h3, h5, h6⟩
set_option maxHeartbeats 2000000 in
theorem copyFraction_c (x : Fra) (A B : Option Addr) (c d : Nat) (w : World) (hA : Rd w A x.n) (hB : Rd w B x.d) :
    Calls Tryz.prog 72 #[.agg #[.slice A x.n.length c, .slice B x.d.length d]] w fun e w' => FFx w x e w' := by
  obtain ⟨n, m⟩ := x
  dsimp only at hA hB ⊢
  have x0 := (Ex.refl w).alloc (.cells #[.slice A n.length c, .slice B m.length d] 58)
  have v0 := VB.new w 58 #[.slice A n.length c, .slice B m.length d]
  have s0 : (w.alloc (.cells #[.slice A n.length c, .slice B m.length d] 58)).heap.size = w.heap.size + 1 := by simp
  go_enter Tryz.func72, Tryz.ntmps72
  go_wp2_with fail
  generalize w.alloc (.cells #[.slice A n.length c, .slice B m.length d] 58) = W0 at *
  have x1 := (Ex.refl W0).alloc (.cells #[.slice none 0 0, .slice none 0 0] 58)
  have v1 := VB.new W0 58 #[.slice none 0 0, .slice none 0 0]
  have s1 : (W0.alloc (.cells #[.slice none 0 0, .slice none 0 0] 58)).heap.size = w.heap.size + 1 + 1 := by simp; exact s0
  rw [s0] at v1
  generalize W0.alloc (.cells #[.slice none 0 0, .slice none 0 0] 58) = W1 at *
  have v0 := v0.ex x1
  have xx := x0.trans x1
  clear x0 x1
  have q0 := v0.cell 0 (v := .slice A n.length c) rfl
  have q1 := v0.cell 1 (v := .slice B m.length d) rfl
  have hSe : ∀ W, Ex1 (w.heap.size + 1) W1 W → (Ex1 (w.heap.size + 1) W1 W ∧ W.cell? ⟨w.heap.size, 0, none⟩ = some (.slice A n.length c) ∧ W.cell? ⟨w.heap.size, 1, none⟩ = some (.slice B m.length d)) := fun W h => ⟨h, (v0.ex1 h (by omega)).cell 0 rfl, (v0.ex1 h (by omega)).cell 1 rfl⟩
  have eA := (Ex1.refl (w.heap.size + 1) W1).drew
  go_region_held3 (fun W => Ex1 (w.heap.size + 1) W1 W ∧ W.cell? ⟨w.heap.size, 0, none⟩ = some (.slice A n.length c) ∧ W.cell? ⟨w.heap.size, 1, none⟩ = some (.slice B m.length d)) (first
    | (exact hSe _ ((e4.setCell rfl _).setCell rfl _)) | (exact hSe _ e4) | (exact hSe _ e3) | (exact hSe _ eA) | (exact hSe _ (Ex1.refl _ _))) (first
    | (go_at_call_of 104 (Value.slice A n.length c)
       have hb := (‹Ex1 (w.heap.size + 1) W1 _ ∧ _›).1
       refine (clone_c A c n _ (hA.ex (xx.ex1 hb (by omega)))).mono ?_
       rintro e w3 ⟨g3, c3, rfl, hc3, hg3, o3, x3⟩
       have e3 := hb.trans (Ex1.of_ex x3)
       have z3 := hb.size'
       clear hb)
    | (go_at_call_of 104 (Value.slice B m.length d)
       refine (clone_c B d m w3 (hB.ex (xx.ex1 e3 (by omega)))).mono ?_
       rintro e w4 ⟨g4, c4, rfl, hc4, hg4, o4, x4⟩
       have e4 := e3.trans (Ex1.of_ex x4)
       have z4 := x3.size
       have v4 : VB w4 (w.heap.size + 1) 58 #[.slice none 0 0, .slice none 0 0] := by first | exact (v1.ex x3).ex x4 | exact (VB.ex (w := W1.drew) v1 x3).ex x4
       have r0 := v4.cell 0 (v := .slice none 0 0) rfl
       have r1 := v4.cell 1 (v := .slice none 0 0) rfl
       have k0 := v4.frozen 0
       have k1 := v4.frozen 1))
  all_goals
    have hl3 := o3.lt
    have E5 : Ex1 (w.heap.size + 1) w4 ((w4.setCell ⟨w.heap.size + 1, 0, none⟩ (.slice (some ⟨g3, 0, none⟩) n.length c3)).setCell ⟨w.heap.size + 1, 1, none⟩ (.slice (some ⟨g4, 0, none⟩) m.length c4)) := ((Ex1.refl _ w4).setCell (p := ⟨w.heap.size + 1, 0, none⟩) rfl _).setCell (p := ⟨w.heap.size + 1, 1, none⟩) rfl _
    have v5 : VB ((w4.setCell ⟨w.heap.size + 1, 0, none⟩ (.slice (some ⟨g3, 0, none⟩) n.length c3)).setCell ⟨w.heap.size + 1, 1, none⟩ (.slice (some ⟨g4, 0, none⟩) m.length c4)) (w.heap.size + 1) 58 #[.slice (some ⟨g3, 0, none⟩) n.length c3, .slice (some ⟨g4, 0, none⟩) m.length c4] := (v4.set_ 0 _).set_ 1 _
    have D0 := v5.cell 0 (v := .slice (some ⟨g3, 0, none⟩) n.length c3) rfl
    have D1 := v5.cell 1 (v := .slice (some ⟨g4, 0, none⟩) m.length c4) rfl
    have yy : Ex w _ := (xx.ex1 e4 (by omega)).ex1 E5 (by omega)
    have zx := xx.size
    have f3 := (((o3.ex x4).ex1 E5 (by omega)).fr hA.len (B := w.heap.size) (by omega) hc3)
    have f4 := ((o4.ex1 E5 (by omega)).fr hB.len (B := w.heap.size) (by omega) hc4)
    go_wp2_with fail
    refine bodyPost_ret (v := .agg #[.slice (some ⟨g3, 0, none⟩) n.length c3, .slice (some ⟨g4, 0, none⟩) m.length c4]) (by simp [results, Tryz.results72, go_sem, D0, D1]) rfl ?_
    exact ⟨_, c3, _, c4, rfl, f3, f4, apart_ne (by omega), yy⟩
set_option maxHeartbeats 2000000 in
theorem copyFractions_c (A : Option Addr) (c : Nat) (xs : List Fra) (w : World) (h : RdS EF w A xs) :
    Calls Tryz.prog 37 #[.slice A xs.length c] w fun e w' => ∃ v, e = .returned v ∧ RowF w' w.heap.size w'.heap.size v xs ∧ Ex w w' := by
  have hl := h.1
  have ge0 := GE.empty ELF 58 w (Nat.le_refl w.heap.size)
  have he1 := (Ex.refl w).alloc (.cells #[] 58)
  have hs1 : (w.alloc (.cells #[] 58)).heap.size = w.heap.size + 1 := by simp
  go_enter Tryz.func37, Tryz.ntmps37
  go_wp2_with fail
  go_loopw [3, 9] (fun o i wr => ∃ k : Nat, k ≤ xs.length ∧ i = .int .i64 k ∧ GE ELF 58 wr w.heap.size wr.heap.size o (xs.take k) ∧ o ≠ .slice none 0 0 ∧ Ex w wr) (fun _ i _ => xs.length - (intOf i).toNat)
  case atStart => exact ⟨0, Nat.zero_le _, rfl, by rw [hs1]; exact ge0, by simp, he1⟩
  case round =>
    clear ge0 he1 hs1
    obtain ⟨k, hk, rfl, hge, hnn, he⟩ := hrel
    by_cases hlt : k < xs.length
    · obtain ⟨g, off, x, P, pc, Q, qc, rfl, hx, c0, c1, hP, hQ⟩ := (h.ex he).frac hlt
      have HT := Lib.hid (show xs.take (k + 1) = xs.take k ++ [x] by rw [List.take_add_one, hx]; rfl)
      have y1 := (Ex.refl wr).alloc (.cells #[.slice P x.n.length pc, .slice Q x.d.length qc] 58)
      have hz := he.size
      have htl : (xs.take k).length ≤ k := List.length_take_le _ _
      clear hx
      go_wp2_with fail
      generalize wr.alloc (.cells #[.slice P x.n.length pc, .slice Q x.d.length qc] 58) = W1 at *
      refine (copyFraction_c x P Q pc qc W1 (hP.ex y1) (hQ.ex y1)).mono ?_
      rintro e w3 ⟨A3, c3, B3, d3, rfl, f3, p3, ap3, x3⟩
      have y3 := y1.trans x3
      have hz1 := y1.size
      have hz3 := x3.size
      obtain ⟨v', w4, hrun, hge4, _, hnn4, hE4⟩ := push_frac (hge.ex y3) (by omega) (ofra_of_fr (x := x) f3 p3 ap3 hz3) (by omega) hz3 (Nat.le_refl _) hz (by omega)
      rw [← HT.out] at hge4
      have he4 := hE4 w (he.trans y3) (Nat.le_refl _)
      clear hE4 HT htl
      go_wp2_with (at_builtin; refine wpList_append_run rfl _ _ _ rfl rfl rfl hrun ?_)
      go_roundw
      case rel => exact ⟨k + 1, by omega, by go_num, hge4, hnn4, he4⟩
      case measure => simp [intOf]; omega
    · obtain rfl : k = xs.length := by omega
      rw [List.take_length] at hge
      go_wp2_with fail
      go_ret
      exact ⟨_, rfl, ⟨hnn, hge⟩, he⟩
set_option maxHeartbeats 2000000 in
theorem copyRows_c (A : Option Addr) (c : Nat) (xs : List (List Fra)) (w : World) (h : RdS EFF w A xs) :
    Calls Tryz.prog 108 #[.slice A xs.length c] w fun e w' => ∃ v, e = .returned v ∧ RowsF w' w.heap.size w'.heap.size v xs ∧ Ex w w' := by
  have hl := h.1
  have ge0 := GE.empty ELR 34 w (Nat.le_refl w.heap.size)
  have he1 := (Ex.refl w).alloc (.cells #[] 34)
  have hs1 : (w.alloc (.cells #[] 34)).heap.size = w.heap.size + 1 := by simp
  go_enter Tryz.func108, Tryz.ntmps108
  go_wp2_with fail
  go_loopw [3, 9] (fun o i wr => ∃ k : Nat, k ≤ xs.length ∧ i = .int .i64 k ∧ GE ELR 34 wr w.heap.size wr.heap.size o (xs.take k) ∧ o ≠ .slice none 0 0 ∧ Ex w wr) (fun _ i _ => xs.length - (intOf i).toNat)
  case atStart => exact ⟨0, Nat.zero_le _, rfl, by rw [hs1]; exact ge0, by simp, he1⟩
  case round =>
    clear ge0 he1 hs1
    obtain ⟨k, hk, rfl, hge, hnn, he⟩ := hrel
    by_cases hlt : k < xs.length
    · obtain ⟨g, off, x, v, rfl, hx, c0, hv⟩ := (h.ex he).fracs hlt
      obtain ⟨P, pc, rfl, hP⟩ := hv.form
      have HT := Lib.hid (show xs.take (k + 1) = xs.take k ++ [x] by rw [List.take_add_one, hx]; rfl)
      have hz := he.size
      have htl : (xs.take k).length ≤ k := List.length_take_le _ _
      clear hx hv
      go_wp2_with fail
      refine (copyFractions_c P pc x wr hP).mono ?_
      rintro e w3 ⟨v3, rfl, r3, x3⟩
      obtain ⟨A3, c3, ev⟩ := r3.2.nilv
      subst ev
      have hz3 := x3.size
      obtain ⟨v', w4, hrun, hge4, _, hnn4, hE4⟩ := push_row (hge.ex x3) hz3 r3 (Nat.le_refl _) hz3 (Nat.le_refl _) hz (by omega)
      rw [← HT.out] at hge4
      have he4 := hE4 w (he.trans x3) (Nat.le_refl _)
      clear hE4 HT htl
      go_wp2_with (at_builtin; refine wpList_append_run rfl _ _ _ rfl rfl rfl hrun ?_)
      go_roundw
      case rel => exact ⟨k + 1, by omega, by go_num, hge4, hnn4, he4⟩
      case measure => simp [intOf]; omega
    · obtain rfl : k = xs.length := by omega
      rw [List.take_length] at hge
      go_wp2_with fail
      go_ret
      exact ⟨_, rfl, ⟨hnn, hge⟩, he⟩
end Go.Proofs.YtpeogfapnofeoaaGreatDoor
