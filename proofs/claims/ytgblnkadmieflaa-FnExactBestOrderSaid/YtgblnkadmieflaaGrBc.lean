/- The best order of the edges: the program's search; BestOrder on both sides. The best order of the edges: the program's BestOrder. -/
import Derived.Test.YtgblnkadmieflaaGrBb
import Derived.Test.YtgblnkadmieflaaXS
import Derived.Test.YtgblnkadmieflaaGrH
import Derived.WalkMore
import Derived.Deep.LoopGhost
import Derived.Laws.EntriesVeiled
namespace Go.Proofs.Ytgblnkadmieflaa
set_option maxRecDepth 100000
open Go Go.RowKit
theorem AL.pop {w : World} {B : Nat} {A : Option Addr} {c : Nat} {xs : List Int} {x : Int} (h : AL w B (.slice A (xs ++ [x]).length c) (xs ++ [x])) : AL w B (.slice A xs.length c) xs := by
  obtain ⟨_, h2⟩ := h
  rcases h2 with ⟨hv, hn⟩ | ⟨g, cap, cur, hv, hB, hh, hnc, hcm, hsz, ht⟩
  · simp at hn
  · injection hv with e1 _ e3
    subst e1 e3
    refine ⟨by simp, .inr ⟨g, c, cur, rfl, hB, hh, ?_, hcm, hsz, ?_⟩⟩
    · rw [List.length_append] at hnc; omega
    · have := congrArg (fun l => l.take xs.length) ht
      simp only [List.take_take, List.map_append] at this
      rw [Nat.mul_one]
      rw [show min xs.length ((xs ++ [x]).length * 1) = xs.length by rw [List.length_append]; simp] at this
      rw [this, List.take_append_of_le_length (by simp), List.take_of_length_le (by simp)]
def stepI (es : List Ed) (r : Nat) (now cut : List Int) (wd : Int) (st : BS) (e : Int) : BS := if decide (e ∈ now) then st else if frE es now e then bsI es r (now ++ [e]) (cutB cut (edAt es e)) (max wd (cutB cut (edAt es e)).length) st else st
theorem bsI_succ (es : List Ed) (r : Nat) (now cut : List Int) (wd : Int) (st : BS) (h : ¬ (0 ≤ st.w ∧ st.w ≤ wd)) : bsI es (r + 1) now cut wd st = (upL es.length).foldl (stepI es r now cut wd) st := by rw [bsI, if_neg h]; rfl
theorem bsI_cut (es : List Ed) (r : Nat) (now cut : List Int) (wd : Int) (st : BS) (h : 0 ≤ st.w ∧ st.w ≤ wd) : bsI es r now cut wd st = st := by
  cases r with
  | zero => rw [bsI, if_pos h]
  | succ r => rw [bsI, if_pos h]
theorem Rd.sx_n {w w' : World} {S : Nat → Prop} {A : Option Addr} {xs : List Int} (h : Rd w A xs) (k : ExS S w w') (hd : xs ≠ [] → ∀ a, A = some a → ¬ S a.block) : Rd w' A xs := by
  by_cases hx : xs = []
  · subst hx; exact Rd.nil _ _
  · exact h.keep fun a e hl => k.block _ hl (hd hx a e)
theorem Fr.exo6 {w w' : World} {B : Nat} {A : Option Addr} {c : Nat} {xs : List Int} {o : Option Nat} (h : Fr w B A c xs) (he : ExO o w w') (ho : ∀ a, A = some a → o ≠ some a.block) : Fr w' B A c xs :=
  ⟨h.1.exo_g he ho, h.2.1, fun a e => by
    obtain ⟨h1, cur, h2⟩ := h.2.2 a e
    exact ⟨h1, cur, (he.block _ (heap_lt_of h2) (fun e2 => ho a e e2.symm)).trans h2⟩⟩
theorem Rows2.exo6 {w w' : World} {g hi : Nat} {vs : List Value} {rows : List (List Int)} {o : Option Nat} (h : Rows2 w g hi vs rows) (he : ExO o w w') (ho : ∀ z, o = some z → hi ≤ z) : Rows2 w' g hi vs rows :=
  ⟨(he.block g h.1.lt (fun e => by have := ho g e.symm; have := h.2.2.2; omega)).trans h.1, h.2.1, fun j v r hv hr => (h.2.2.1 j v r hv hr).keep fun k h1 h2 h3 => he.block k h3 (fun e => by have := ho k e.symm; omega), h.2.2.2⟩
/-- The boxes of the search. -/
structure Bx where
  P : Nat
  G : Nat
  gn : Nat
  H : Nat
  bd : Nat
  bb : Nat
  bw : Nat
  bn : Nat
  bs : Nat
  N : Int
  E : Option Addr
  ec : Nat
  I : Value
  O : Value
  vs : List Value
def Bx.args (b : Bx) : Array Value := #[.pointer (some ⟨b.bw, 0, none⟩), .pointer (some ⟨b.bn, 0, none⟩), .pointer (some ⟨b.G, 0, none⟩), .pointer (some ⟨b.bb, 0, none⟩), .pointer (some ⟨b.bd, 0, none⟩), .pointer (some ⟨b.bs, 0, none⟩)]
structure Bx.ok (b : Bx) : Prop where
  g : b.G < b.P
  h : b.H ≤ b.P
  d : b.P ≤ b.bd ∧ b.P ≤ b.bb ∧ b.P ≤ b.bw ∧ b.P ≤ b.bn ∧ b.P ≤ b.bs
  n1 : b.bd ≠ b.bb ∧ b.bd ≠ b.bw ∧ b.bd ≠ b.bn ∧ b.bd ≠ b.bs
  n2 : b.bb ≠ b.bw ∧ b.bb ≠ b.bn ∧ b.bb ≠ b.bs ∧ b.bw ≠ b.bn ∧ b.bw ≠ b.bs ∧ b.bn ≠ b.bs
def Bx.T (b : Bx) (v : Value) (k : Nat) : Prop := k = b.bw ∨ k = b.bn ∨ k = b.bb ∨ v.ownBlock = some k
structure SM (b : Bx) (es : List Ed) (w : World) (nv : Value) (now : List Int) (st : BS) : Prop where
  g : VB w b.G 31 #[.int .i64 b.N, .slice b.E es.length b.ec, b.I, b.O]
  d : VB w b.bd 58 #[.slice (some ⟨b.gn, 0, none⟩) es.length es.length]
  rows : Rows2 w b.gn b.H b.vs (ndR es)
  s : VB w b.bs 60 #[.func (.func 30) #[] b.args]
  wd : VB w b.bw 3 #[.int .i64 st.w]
  n : VB w b.bn 23 #[nv]
  al : AL w b.P nv now
  nn : ∀ q, nv.ownBlock = some q → q ≠ b.bd ∧ q ≠ b.bb ∧ q ≠ b.bw ∧ q ≠ b.bn ∧ q ≠ b.bs
  best : ∃ A c, VB w b.bb 23 #[.slice A st.o.length c] ∧ Fr w b.P A c st.o ∧ ∀ a, A = some a → a.block ≠ b.bw ∧ a.block ≠ b.bn ∧ a.block ≠ b.bb ∧ nv.ownBlock ≠ some a.block
theorem SM.ex {b : Bx} {es : List Ed} {w w' : World} {nv : Value} {now : List Int} {st : BS} (h : SM b es w nv now st) (he : Ex w w') : SM b es w' nv now st := by
  obtain ⟨g, d, rows, s, wd, n, al, nn, A, c, h1, h2, h3⟩ := h
  exact ⟨g.ex he, d.ex he, rows.ex he, s.ex he, wd.ex he, n.ex he, al.ex he, nn, A, c, h1.ex he, h2.ex he, h3⟩
def bxA (b : Bx) (C : Option Addr) (n cc : Nat) (wd : Int) : Array Value := #[.slice C n cc, .int .i64 wd, .pointer (some ⟨b.bw, 0, none⟩), .pointer (some ⟨b.bn, 0, none⟩), .pointer (some ⟨b.G, 0, none⟩), .pointer (some ⟨b.bb, 0, none⟩), .pointer (some ⟨b.bd, 0, none⟩), .pointer (some ⟨b.bs, 0, none⟩)]
/-- What one call of the search does. -/
def SrPost (b : Bx) (es : List Ed) (w : World) (nv : Value) (now : List Int) (R : BS) (e : Ending) (w' : World) : Prop :=
  e = .returned (.tuple #[]) ∧ (∃ nv', SM b es w' nv' now R ∧ (nv'.ownBlock = nv.ownBlock ∨ ∃ q, nv'.ownBlock = some q ∧ w.heap.size ≤ q)) ∧ ExS (b.T nv) w w' ∧ -1 ≤ R.w ∧ R.w ≤ 1000
set_option maxHeartbeats 2000000 in
theorem search_cut (b : Bx) (es : List Ed) (now : List Int) (C : Option Addr) (n cc : Nat) (wd : Int) (st : BS) (nv : Value) (w : World) (hS : SM b es w nv now st) (hn : n ≤ 1000) (h2 : -1 ≤ st.w) (h3 : st.w ≤ 1000) (hp : 0 ≤ st.w ∧ st.w ≤ wd) :
    Calls Try.prog 30 (bxA b C n cc wd) w fun e w' => SrPost b es w nv now st e w' := by
  have k1 := hS.wd.cell 0 (v := .int .i64 st.w) rfl
  obtain ⟨hp1, hp2⟩ := hp
  unfold bxA
  go_enter Try.func30, Try.ntmps30
  go_step3
  go_wp2
  rw [Exit.noGoto_ret]
  refine bodyPost_ret (results_none rfl _ _ _) rfl ?_
  exact ⟨rfl, ⟨nv, hS, .inl rfl⟩, ExS.refl _ _, h2, h3⟩
set_option maxHeartbeats 4000000 in
theorem search_leaf (b : Bx) (hb : b.ok) (es : List Ed) (now : List Int) (C : Option Addr) (n cc : Nat) (wd : Int) (st : BS) (nv : Value) (w : World) (hS : SM b es w nv now st) (hn : n ≤ 1000) (h0 : 0 ≤ wd) (h1 : wd ≤ 1000) (h2 : -1 ≤ st.w) (h3 : st.w ≤ 1000) (hp : ¬ (0 ≤ st.w ∧ st.w ≤ wd)) (hl : now.length = es.length) (hes : es.length ≤ 8) :
    Calls Try.prog 30 (bxA b C n cc wd) w fun e w' => SrPost b es w nv now ⟨now, wd⟩ e w' := by
  have k1 := hS.wd.cell 0 (v := .int .i64 st.w) rfl
  have k2 := hS.n.cell 0 (v := nv) rfl
  have k3 := hS.g.cell 1 (v := .slice b.E es.length b.ec) rfl
  obtain ⟨V, vc, rfl, hfr⟩ := hS.al.form (by omega)
  have hlb : ((now.length : Int) == (es.length : Int)) = true := by simp [hl]
  have hcl := fun W (y : Ex w W) => clone_c V vc now W (hfr.rd.ex y)
  have Hl := Lib.hid hl
  clear hl
  unfold bxA
  go_enter Try.func30, Try.ntmps30
  go_step3
  have fin : ∀ (w1 : World) (g c' : Nat), Ex w w1 → w.heap.size ≤ g → Own w1 g now → now.length ≤ c' →
      SrPost b es w (.slice V now.length vc) now ⟨now, wd⟩ (.returned (.tuple #[])) ((w1.setCell ⟨b.bb, 0, none⟩ (.slice (some ⟨g, 0, none⟩) now.length c')).setCell ⟨b.bw, 0, none⟩ (.int .i64 wd)) := by
    intro w1 g c' x1 hg ho hc'
    obtain ⟨g1, d1, rows1, s1, wd1, n1, al1, nn1, A, c, hbv, hbf, hbo⟩ := hS.ex x1
    obtain ⟨p1, p2, ⟨p3, p4, p5, p6, p7⟩, ⟨p8, p9, p10, p11⟩, ⟨p12, p13, p14, p15, p16, p17⟩⟩ := hb
    have wl1 := wd1.lt
    have hsz := x1.size
    have E1 : Ex1 b.bb w1 (w1.setCell ⟨b.bb, 0, none⟩ (.slice (some ⟨g, 0, none⟩) now.length c')) := (Ex1.refl _ _).setCell rfl _
    have E2 : Ex1 b.bw (w1.setCell ⟨b.bb, 0, none⟩ (.slice (some ⟨g, 0, none⟩) now.length c')) ((w1.setCell ⟨b.bb, 0, none⟩ (.slice (some ⟨g, 0, none⟩) now.length c')).setCell ⟨b.bw, 0, none⟩ (.int .i64 wd)) := (Ex1.refl _ _).setCell rfl _
    have hbv1 := hbv.set_ 0 (.slice (some ⟨g, 0, none⟩) now.length c')
    have hw1 := (wd1.ex1 E1 (by omega)).set_ 0 (.int .i64 wd)
    have hwl := hS.wd.lt
    have hbl := hS.n.lt
    have hbl2 : b.bb < w.heap.size := by obtain ⟨_, _, h, _⟩ := hS.best; exact h.lt
    have hPl : b.P ≤ w.heap.size := by omega
    have hal := hS.al.lt
    have hfr1 := (ho.fr (B := b.P) (c := c') (by have := Hl.out; omega) (by omega) hc')
    refine ⟨rfl, ⟨.slice V now.length vc, ⟨(g1.ex1 E1 (by omega)).ex1 E2 (by omega), (d1.ex1 E1 (by omega)).ex1 E2 (by omega), (rows1.e1 E1 (by omega)).e1 E2 (by omega), (s1.ex1 E1 (by omega)).ex1 E2 (by omega), hw1, (n1.ex1 E1 (by omega)).ex1 E2 (by omega),
      (al1.grown E1 (fun k e e2 => by injection e with e; have := nn1 k e2; omega)).grown E2 (fun k e e2 => by injection e with e; have := nn1 k e2; omega), nn1, some ⟨g, 0, none⟩, c', hbv1.ex1 E2 (by omega), ?_, ?_⟩, .inl rfl⟩, ?_, by show -1 ≤ wd; omega, h1⟩
    · exact (hfr1.ex1 E1 (fun a e e2 => by injection e with e; subst e; simp only at e2; omega)).ex1 E2 (fun a e e2 => by injection e with e; subst e; simp only at e2; omega)
    · intro a e
      injection e with e
      subst e
      dsimp only
      exact ⟨by omega, by omega, by omega, fun e => by have := (hal g e).2; omega⟩
    · refine ((ExS.of_ex x1).trans (ExS.of_ex1 (S := b.T (.slice V now.length vc)) E1 (.inr (.inr (.inl rfl)))) (fun i _ h => h)).trans (ExS.of_ex1 (S := b.T (.slice V now.length vc)) E2 (.inl rfl)) (fun i _ h => h)
  by_cases hw : 0 ≤ st.w
  · have hwd : ¬ (st.w ≤ wd) := fun h => hp ⟨hw, h⟩
    go_wp2_with fail
    refine (hcl _ (Ex.refl w)).mono ?_
    rintro e w1 ⟨g, c', rfl, hc', hg, ho, x1⟩
    have S1 := hS.ex x1
    have j1 := S1.wd.cell 0 (v := .int .i64 st.w) rfl
    have j2 := S1.wd.frozen 0
    obtain ⟨A, c, hbv, _⟩ := S1.best
    have j3 := hbv.cell 0 (v := .slice A st.o.length c) rfl
    have j4 := hbv.frozen 0
    have E1 : Ex1 b.bb w1 (w1.setCell ⟨b.bb, 0, none⟩ (.slice (some ⟨g, 0, none⟩) now.length c')) := (Ex1.refl _ _).setCell rfl _
    have j5 := (S1.wd.ex1 E1 (fun e => hb.n2.1 e.symm)).cell 0 (v := .int .i64 st.w) rfl
    have j6 := (S1.wd.ex1 E1 (fun e => hb.n2.1 e.symm)).frozen 0
    go_wp2
    rw [Exit.noGoto_ret]
    refine bodyPost_ret (results_none rfl _ _ _) rfl ?_
    exact fin w1 g c' x1 hg ho hc'
  · go_wp2_with fail
    refine (hcl _ (Ex.refl w)).mono ?_
    rintro e w1 ⟨g, c', rfl, hc', hg, ho, x1⟩
    have S1 := hS.ex x1
    have j1 := S1.wd.cell 0 (v := .int .i64 st.w) rfl
    have j2 := S1.wd.frozen 0
    obtain ⟨A, c, hbv, _⟩ := S1.best
    have j3 := hbv.cell 0 (v := .slice A st.o.length c) rfl
    have j4 := hbv.frozen 0
    have E1 : Ex1 b.bb w1 (w1.setCell ⟨b.bb, 0, none⟩ (.slice (some ⟨g, 0, none⟩) now.length c')) := (Ex1.refl _ _).setCell rfl _
    have j5 := (S1.wd.ex1 E1 (fun e => hb.n2.1 e.symm)).cell 0 (v := .int .i64 st.w) rfl
    have j6 := (S1.wd.ex1 E1 (fun e => hb.n2.1 e.symm)).frozen 0
    go_wp2
    rw [Exit.noGoto_ret]
    refine bodyPost_ret (results_none rfl _ _ _) rfl ?_
    exact fin w1 g c' x1 hg ho hc'
set_option maxHeartbeats 16000000 in
theorem search_c (b : Bx) (hb : b.ok) (es : List Ed) (w0 : World) (hw0 : w0.heap.size ≤ b.P) (hE : RdS EE w0 b.E es) (hn : es.length ≤ 8) (hed : ∀ e ∈ es, edK e = true) :
    ∀ (r : Nat) (now cut : List Int) (C : Option Addr) (cc : Nat) (wd : Int) (st : BS) (nv : Value) (w : World), Ex w0 w → SM b es w nv now st → now.length + r = es.length → Rd w C cut →
      (cut ≠ [] → ∀ a, C = some a → ¬ b.T nv a.block) → cut.length ≤ 12 + 2 * now.length → 0 ≤ wd → wd ≤ 1000 → -1 ≤ st.w → st.w ≤ 1000 →
    Calls Try.prog 30 (bxA b C cut.length cc wd) w fun e w' => SrPost b es w nv now (bsI es r now cut wd st) e w' := by
  intro r
  induction r with
  | zero =>
    intro now cut C cc wd st nv w hw hS hl hC hCs hcl h0 h1 h2 h3
    by_cases hp : 0 ≤ st.w ∧ st.w ≤ wd
    · rw [bsI_cut _ _ _ _ _ _ hp]
      exact search_cut b es now C cut.length cc wd st nv w hS (by omega) h2 h3 hp
    · rw [bsI, if_neg hp]
      exact search_leaf b hb es now C cut.length cc wd st nv w hS (by omega) h0 h1 h2 h3 hp (by omega) hn
  | succ r ih =>
    intro now cut C cc wd st nv w hw hS hl hC hCs hcl h0 h1 h2 h3
    by_cases hp : 0 ≤ st.w ∧ st.w ≤ wd
    · rw [bsI_cut _ _ _ _ _ _ hp]
      exact search_cut b es now C cut.length cc wd st nv w hS (by omega) h2 h3 hp
    rw [bsI_succ _ _ _ _ _ _ hp]
    have hlb : ((now.length : Int) == (es.length : Int)) = false := by simp; omega
    have hln : now.length ≤ 8 := by omega
    have hEl := hE.1
    have k1 := hS.wd.cell 0 (v := .int .i64 st.w) rfl
    have k2 := hS.n.cell 0 (v := nv) rfl
    have k3 := hS.g.cell 1 (v := .slice b.E es.length b.ec) rfl
    have Hl := Lib.hid hl
    have Hed := Lib.hid hed
    clear hl hed
    obtain ⟨V, vc, rfl, hfr⟩ := hS.al.form (by omega)
    unfold bxA
    go_enter Try.func30, Try.ntmps30
    go_step3
    by_cases hw' : 0 ≤ st.w
    all_goals
      first
      | (have hwd : ¬ (st.w ≤ wd) := fun h => hp ⟨hw', h⟩
         clear hp
         go_wp2_with fail
         clear hwd)
      | (clear hp
         go_wp2_with fail)
      go_step3
      go_wp2_with fail
      clear hw' hlb k1 k2 k3 hfr
      have hT0 : ∀ q, b.T (.slice V now.length vc) q → b.P ≤ q := fun q h => by
        rcases h with h | h | h | h
        · have := hb.d; omega
        · have := hb.d; omega
        · have := hb.d; omega
        · exact (hS.al.lt q h).1
      have hT1 : ∀ q, b.T (.slice V now.length vc) q → q < w.heap.size := fun q h => by
        rcases h with h | h | h | h
        · have := hS.wd.lt; omega
        · have := hS.n.lt; omega
        · obtain ⟨_, _, h2, _⟩ := hS.best; have := h2.lt; omega
        · exact (hS.al.lt q h).2
      have hSb : b.bw < w.heap.size ∧ b.bn < w.heap.size ∧ b.bb < w.heap.size := ⟨hT1 _ (.inl rfl), hT1 _ (.inr (.inl rfl)), hT1 _ (.inr (.inr (.inl rfl)))⟩
      obtain ⟨nv0, hnv0⟩ : ∃ v, (Value.slice V now.length vc) = v := ⟨_, rfl⟩
      rw [hnv0] at hS hCs hT0 hT1
      have HE := Lib.hid (show SrPost b es w (Value.slice V now.length vc) now ((upL es.length).foldl (stepI es r now cut wd) st) = SrPost b es w nv0 now ((upL es.length).foldl (stepI es r now cut wd) st) by rw [hnv0])
      clear hnv0
      go_loopg [33] es.length (fun f i wr => ∃ (k : Nat) (nv : Value), k + f = es.length ∧ i = .int .i64 k ∧ SM b es wr nv now (((upL es.length).take k).foldl (stepI es r now cut wd) st) ∧ (nv.ownBlock = nv0.ownBlock ∨ ∃ q, nv.ownBlock = some q ∧ w.heap.size ≤ q) ∧ ExS (b.T nv0) w wr ∧ -1 ≤ (((upL es.length).take k).foldl (stepI es r now cut wd) st).w ∧ (((upL es.length).take k).foldl (stepI es r now cut wd) st).w ≤ 1000)
      case atStart => exact ⟨0, nv0, by omega, rfl, hS, .inl rfl, ExS.refl _ _, h2, h3⟩
      case round =>
        clear hS h2 h3
        obtain ⟨k, nv, hkf, rfl, hS, hown, hX, hlo, hhi⟩ := hrel
        have hXz := hX.size
        have hCr := hC.sx_n hX hCs
        have hwr := hw.sx hX (fun i h => Nat.le_trans hw0 (hT0 i h))
        cases gk with
        | zero =>
          obtain rfl : k = es.length := by omega
          rw [List.take_of_length_le (by rw [upL_len]; exact Nat.le_refl _)] at hS hlo hhi
          go_wp2
          first | rw [Exit.noGoto_ret] | skip
          refine bodyPost_end (results_none rfl _ _ _) rfl ?_
          rw [HE.out]
          exact ⟨rfl, ⟨nv, hS, hown⟩, hX, hlo, hhi⟩
        | succ f =>
          have hlt : k < es.length := by omega
          have Hst := Lib.hid (foldl_take_succ (stepI es r now cut wd) st (upL_at hlt))
          obtain ⟨s1, hs1⟩ : ∃ s1, ((upL es.length).take k).foldl (stepI es r now cut wd) st = s1 := ⟨_, rfl⟩
          rw [hs1] at hS hlo hhi Hst
          clear hs1
          rw [show stepI es r now cut wd s1 (k : Int) = (if decide ((k : Int) ∈ now) then s1 else if frE es now k then bsI es r (now ++ [(k : Int)]) (cutB cut (edAt es k)) (max wd (cutB cut (edAt es k)).length) s1 else s1) from rfl] at Hst
          obtain ⟨V', vc', rfl, hfr'⟩ := hS.al.form (by omega)
          have k2 := hS.n.cell 0 (v := .slice V' now.length vc') rfl
          have hcon := fun u => contains_c V' vc' now u wr hfr'.rd
          go_wp2_with fail
          refine (hcon (k : Int)).mono ?_
          rintro e wr ⟨rfl, rfl⟩
          cases hh : decide ((k : Int) ∈ now) with
          | true =>
            rw [hh, if_pos rfl] at Hst
            rw [← Hst.out] at hS hlo hhi
            clear hh hcon
            go_wp2_with fail
            go_roundg f
            case measure => omega
            case rel => exact ⟨k + 1, _, by omega, by go_num, hS, hown, hX, hlo, hhi⟩
          | false =>
            rw [hh, if_neg (by decide)] at Hst
            have Hh := Lib.hid hh
            clear hh
            obtain ⟨P, pc, cP, hP⟩ := hS.rows.rowO (ndR_at hlt)
            have k6 := hS.d.cell 0 (v := .slice (some ⟨b.gn, 0, none⟩) es.length es.length) rfl
            have hPl := hP.at_.len
            have hnl := ndF_len es (k : Int)
            have hPr := hP.at_
            have Hfr0 := Lib.hid (show frE es now (k : Int) = (ndF es (k : Int)).all (fun f => decide (f ∈ now)) from rfl)
            generalize ndF es (k : Int) = nd at *
            go_wp2_with fail
            go_loopg [44] nd.length (fun f2 i wi => ∃ q : Nat, q + f2 = nd.length ∧ i = .int .i64 q ∧ Hid ((nd.take q).all (fun f => decide (f ∈ now)) = true) ∧ wr = wi)
            case atStart => exact ⟨0, by omega, rfl, Lib.hid rfl, rfl⟩
            case round =>
              obtain ⟨q, hq, rfl, Hall, rfl⟩ := hrel
              cases gk with
              | succ f2 =>
                obtain ⟨g2, off2, y, rfl, hy, _, cy⟩ := hPr.at_ (k := q) (by omega)
                have Hy := Lib.hid hy
                clear hy
                have hqn : q < nd.length := by omega
                go_wp2_with fail
                refine (hcon y).mono ?_
                rintro e wr ⟨rfl, rfl⟩
                cases hm : decide (y ∈ now) with
                | true =>
                  have Hall2 := Lib.hid (show (nd.take (q + 1)).all (fun f => decide (f ∈ now)) = true by rw [List.take_add_one, Hy.out, List.all_append, Hall.out]; simp [hm])
                  clear hm
                  go_wp2_with fail
                  go_roundg f2
                  case measure => omega
                  case rel => exact ⟨q + 1, by omega, by go_num, Hall2, rfl⟩
                | false =>
                  have Hfr := Lib.hid (Hfr0.out.trans (List.all_eq_false.2 ⟨y, List.mem_of_getElem? Hy.out, by simp [hm]⟩))
                  rw [Hfr.out, if_neg (by decide)] at Hst
                  rw [← Hst.out] at hS hlo hhi
                  clear hm hcon
                  go_wp2_with fail
                  go_roundg f
                  case measure => omega
                  case rel => exact ⟨k + 1, _, by omega, by go_num, hS, hown, hX, hlo, hhi⟩
              | zero =>
                obtain rfl : q = nd.length := by omega
                have Hfr := Lib.hid (show frE es now (k : Int) = true by have := Hall.out; rw [List.take_length] at this; rw [Hfr0.out]; exact this)
                rw [Hfr.out, if_pos rfl] at Hst
                clear hcon k6 cP hPr hP
                have hPl : b.P ≤ wr.heap.size := by have := hS.n.lt; have := hb.d; omega
                obtain ⟨v6, w6, hrun6, al6, E6, o6⟩ := al_push_o wr b.P _ now (k : Int) hS.al hPl (by omega)
                obtain ⟨V6, c6, rfl, _⟩ := al6.form (by rw [List.length_append, List.length_singleton]; omega)
                obtain ⟨p1, p2, ⟨p3, p4, p5, p6, p7⟩, ⟨p8, p9, p10, p11⟩, ⟨p12, p13, p14, p15, p16, p17⟩⟩ := id hb
                have hS' := hS
                obtain ⟨g1, d1, rows1, sv1, wd1, n1, al1, nn1, A, c, hbv, hbf, hbo⟩ := hS'
                have keep : ∀ (q : Nat) (t : TypeId) (cs : Array Value), VB wr q t cs → (∀ z, (Value.slice V' now.length vc').ownBlock = some z → z ≠ q) → VB w6 q t cs := fun q t cs h hz => (E6.block q h.lt (fun e => hz q e.symm rfl)).trans h
                have hz6 := E6.size
                have gG : ∀ z, (Value.slice V' now.length vc').ownBlock = some z → b.P ≤ z := fun z e => (al1.lt z e).1
                have n6 := keep _ _ _ n1 (fun z e => by have := nn1 z e; omega)
                have j1 := n6.cell 0 (v := .slice V' now.length vc') rfl
                have j2 := n6.frozen 0
                obtain ⟨nw, hnw⟩ : ∃ nw, now ++ [(k : Int)] = nw := ⟨_, rfl⟩
                have hnwl : nw.length = now.length + 1 := by rw [← hnw]; simp
                rw [hnw] at al6 hrun6 Hst o6
                have Hnw := Lib.hid hnw
                clear hnw
                have E7 : Ex1 b.bn w6 (w6.setCell ⟨b.bn, 0, none⟩ (.slice V6 nw.length c6)) := (Ex1.refl _ _).setCell rfl _
                have old : ∀ q, q < wr.heap.size → (Value.slice V6 nw.length c6).ownBlock = some q → (Value.slice V' now.length vc').ownBlock = some q := fun q hq e => by
                  rcases o6 with h | ⟨z, h, hz⟩
                  · rw [← h]; exact e
                  · rw [h] at e; injection e with e; omega
                have o6n : ∀ z, (Value.slice V6 nw.length c6).ownBlock = some z → z ≠ b.bd ∧ z ≠ b.bb ∧ z ≠ b.bw ∧ z ≠ b.bn ∧ z ≠ b.bs := fun z e => by
                  by_cases hz : z < wr.heap.size
                  · exact nn1 z (old z hz e)
                  · have l1 := d1.lt; have l2 := hbv.lt; have l3 := wd1.lt; have l4 := n1.lt; have l5 := sv1.lt
                    omega
                have hEV : ∀ z, (Value.slice V' now.length vc').ownBlock = some z → z ≠ b.bn := fun z e => (nn1 z e).2.2.2.1
                have S7 : SM b es (w6.setCell ⟨b.bn, 0, none⟩ (.slice V6 nw.length c6)) (.slice V6 nw.length c6) nw s1 := by
                  refine ⟨(keep _ _ _ g1 (fun z e => by have := gG z e; omega)).ex1 E7 (by omega), (keep _ _ _ d1 (fun z e => (nn1 z e).1)).ex1 E7 (by omega), ?_, (keep _ _ _ sv1 (fun z e => (nn1 z e).2.2.2.2)).ex1 E7 (by omega), (keep _ _ _ wd1 (fun z e => (nn1 z e).2.2.1)).ex1 E7 (by omega), n6.set_ 0 _, al6.grown E7 (fun z e e2 => by injection e with e; have := (o6n z e2).2.2.2.1; omega), o6n, A, c, (keep _ _ _ hbv (fun z e => (nn1 z e).2.1)).ex1 E7 (by omega), ?_, fun a e => ?_⟩
                  · exact (rows1.exo6 E6 (fun z e => by have := gG z e; omega)).e1 E7 (by omega)
                  · exact (hbf.exo6 E6 (fun a e e2 => (hbo a e).2.2.2 e2)).ex1 E7 (fun a e e2 => (hbo a e).2.1 e2)
                  · obtain ⟨t1, t2, t3, t4⟩ := hbo a e
                    exact ⟨t1, t2, t3, fun e2 => t4 (old _ (hbf.lo a e) e2)⟩
                have X7 : ExS (b.T nv0) w (w6.setCell ⟨b.bn, 0, none⟩ (.slice V6 nw.length c6)) := by
                  refine (hX.trans (ExS.of_exo (S := fun z => (Value.slice V' now.length vc').ownBlock = some z) E6 (fun z e => e)) (fun z hz e => ?_)).trans (ExS.of_ex1 (S := fun z => z = b.bn) E7 rfl) (fun z _ e => .inr (.inl e))
                  rcases hown with h | ⟨q, h, hq⟩
                  · exact .inr (.inr (.inr (by rw [← h]; exact e)))
                  · rw [h] at e; injection e with e; omega
                have z7 : (w6.setCell ⟨b.bn, 0, none⟩ (.slice V6 nw.length c6)).heap.size = w6.heap.size := by simp [World.setCell]
                clear keep
                have h07 := hw.sx X7 (fun i h => Nat.le_trans hw0 (hT0 i h))
                obtain ⟨g', off', e, Pe, pec, Qe, qec, hEe, hx, e0, e1, e2, e3, hPe, hQe⟩ := (hE.ex h07).edge hlt
                have hed1 := edAt_nat hx
                have hedk := edK_len (Hed.out e (List.mem_of_getElem? hx))
                have m1 := S7.g.cell 1 (v := .slice b.E es.length b.ec) rfl
                have hC7 := hC.sx_n X7 hCs
                have hcb := cutBehind_c C cc cut e Pe pec Qe qec _ hC7 hPe hQe (by omega)
                have hcbl := cutB_len Hed.out cut (k : Int)
                rw [hed1] at hcbl Hst
                rw [hEe] at m1
                have HNL := Lib.hid hnwl
                have hnw9 : nw.length ≤ 9 := by omega
                have hnlast : 1 ≤ nw.length := by omega
                have hPel := hPe.len
                have hQel := hQe.len
                clear hnwl hx hed1
                generalize hcut2 : cutB cut e = cut2 at *
                go_wp2_with (at_builtin; refine wpList_append_run rfl _ _ _ rfl rfl rfl hrun6 ?_)
                refine hcb.mono ?_
                rintro r8 w8 ⟨_, rfl, ⟨B8, bc8, rfl, f8⟩, x8⟩
                have S8 := S7.ex x8
                have X8 := X7.trans (ExS.of_ex (S := b.T nv0) x8) (fun _ _ h => h)
                have h08 := h07.trans x8
                have m2 := S8.s.cell 0 (v := .func (.func 30) #[] b.args) rfl
                have z8 := x8.size
                clear S7 X7 h07 hC7 hcb e0 e1 e2 e3 m1 hS
                unfold Bx.args at m2
                have hih : ∀ M : Int, M = max wd cut2.length → Calls Try.prog 30 #[.slice B8 cut2.length bc8, .int .i64 M, .pointer (some ⟨b.bw, 0, none⟩), .pointer (some ⟨b.bn, 0, none⟩), .pointer (some ⟨b.G, 0, none⟩), .pointer (some ⟨b.bb, 0, none⟩), .pointer (some ⟨b.bd, 0, none⟩), .pointer (some ⟨b.bs, 0, none⟩)] w8 fun e w' => SrPost b es w8 (.slice V6 nw.length c6) nw (bsI es r nw cut2 (max wd cut2.length) s1) e w' := by
                  rintro M rfl
                  refine ih nw cut2 B8 bc8 _ s1 _ w8 h08 S8 (by have := Hl.out; have := HNL.out; omega) f8.rd (fun _ a e e2 => ?_) (by have := HNL.out; omega) (by omega) (by omega) hlo hhi
                  have h1 := f8.fr.hi a e
                  rcases e2 with e2 | e2 | e2 | e2
                  · omega
                  · omega
                  · omega
                  · have := (al6.lt _ e2).2; omega
                have own6 : (Value.slice V6 nw.length c6).ownBlock = nv0.ownBlock ∨ ∃ q, (Value.slice V6 nw.length c6).ownBlock = some q ∧ w.heap.size ≤ q := by
                  rcases o6 with h | ⟨q, h, hq⟩
                  · rw [h]; exact hown
                  · exact .inr ⟨q, h, by omega⟩
                obtain ⟨R, hR⟩ : ∃ R, bsI es r nw cut2 (max wd cut2.length) s1 = R := ⟨_, rfl⟩
                rw [hR] at hih Hst
                clear hR ih
                go_wp2_with fail
                all_goals
                  refine (hih _ (by omega)).mono ?_
                  rintro r9 w9 ⟨rfl, ⟨nv9, S9, own9⟩, X9, lo9, hi9⟩
                  obtain ⟨V9, c9, rfl, fr9⟩ := S9.al.form (by omega)
                  have al9 := S9.al
                  rw [← Hnw.out] at al9
                  have cap9 := fr9.cap
                  have q1 := S9.n.cell 0 (v := .slice V9 nw.length c9) rfl
                  have q2 := S9.n.frozen 0
                  have E10 : Ex1 b.bn w9 (w9.setCell ⟨b.bn, 0, none⟩ (.slice V9 now.length c9)) := (Ex1.refl _ _).setCell rfl _
                  have hlen1 : (nw.length : Int) - 1 = (now.length : Int) := by have := HNL.out; omega
                  have e99 : (Value.slice V9 now.length c9).ownBlock = (Value.slice V9 nw.length c9).ownBlock := by cases V9 <;> rfl
                  have S10 : SM b es (w9.setCell ⟨b.bn, 0, none⟩ (.slice V9 now.length c9)) (.slice V9 now.length c9) now R := by
                    obtain ⟨g1, d1, rows1, sv1, wd1, n1, al1, nn1, A, c, hbv, hbf, hbo⟩ := S9
                    exact ⟨g1.ex1 E10 (by omega), d1.ex1 E10 (by omega), rows1.e1 E10 (by omega), sv1.ex1 E10 (by omega), wd1.ex1 E10 (by omega), n1.set_ 0 _, al9.pop.grown E10 (fun z e e2 => by injection e with e; rw [e99] at e2; have := (nn1 z e2).2.2.2.1; omega), (by rw [e99]; exact nn1), A, c, hbv.ex1 E10 (by omega), hbf.ex1 E10 (fun a e e2 => (hbo a e).2.1 e2), (by rw [e99]; exact hbo)⟩
                  have own10 : (Value.slice V9 now.length c9).ownBlock = nv0.ownBlock ∨ ∃ q, (Value.slice V9 now.length c9).ownBlock = some q ∧ w.heap.size ≤ q := by
                    rw [e99]
                    rcases own9 with h | ⟨q, h, hq⟩
                    · rw [h]; exact own6
                    · exact .inr ⟨q, h, by omega⟩
                  have X10 : ExS (b.T nv0) w (w9.setCell ⟨b.bn, 0, none⟩ (.slice V9 now.length c9)) := by
                    refine (X8.trans X9 (fun i hi h => ?_)).trans (ExS.of_ex1 (S := fun z => z = b.bn) E10 rfl) (fun z _ e => .inr (.inl e))
                    rcases h with h | h | h | h
                    · exact .inl h
                    · exact .inr (.inl h)
                    · exact .inr (.inr (.inl h))
                    · refine .inr (.inr (.inr ?_))
                      rcases own6 with h6 | ⟨q, h6, hq⟩
                      · rw [← h6]; exact h
                      · rw [h6] at h; injection h with h; omega
                  rw [← Hst.out] at S10 lo9 hi9
                  clear S9 al9 hih
                  go_wp2_with fail
                  rw [← hEe]
                  clear hEe
                  go_roundg f
                  case measure => omega
                  case rel => exact ⟨k + 1, _, by omega, by go_num, S10, own10, X10, lo9, hi9⟩
set_option maxHeartbeats 4000000 in
theorem BestOrder_u (x : Gr) (v0 v1 v2 : Value) (w : World) (h : RGr w v0 v1 v2 x) :
    Calls Try.prog 16 #[.agg #[.int .i64 x.wires, v0, v1, v2]] w fun e w' => ∃ y, e = .returned (.tuple #[y, .int .i64 (boU x).2.1, .bool (boU x).2.2]) ∧ OI w' w.heap.size w'.heap.size y (boU x).1 ∧ Ex w w' := by
  obtain ⟨⟨⟨E, ec, rfl, hE⟩, hEt⟩, ⟨I, ic, rfl, hI⟩, ⟨O, oc, rfl, hO⟩⟩ := h
  have hEl := hE.1
  have x0 := (Ex.refl w).alloc (.cells #[.int .i64 x.wires, .slice E x.es.length ec, .slice I x.ins.length ic, .slice O x.outs.length oc] 31)
  have d0 := VB.new w 31 #[.int .i64 x.wires, .slice E x.es.length ec, .slice I x.ins.length ic, .slice O x.outs.length oc]
  go_enter Try.func16, Try.ntmps16
  go_wp2_with fail
  generalize w.alloc (.cells #[.int .i64 x.wires, .slice E x.es.length ec, .slice I x.ins.length ic, .slice O x.outs.length oc] 31) = W0 at *
  refine (isDrawn_c x _ _ _ W0 ⟨⟨⟨E, ec, rfl, hE.ex x0⟩, hEt⟩, ⟨I, ic, rfl, hI.ex x0⟩, ⟨O, oc, rfl, hO.ex x0⟩⟩).mono ?_
  rintro e w1 ⟨rfl, x1⟩
  have d1 := d0.ex x1
  have q0 := d1.cell 0 (v := .int .i64 x.wires) rfl
  have q1 := d1.cell 1 (v := .slice E x.es.length ec) rfl
  have q2 := d1.cell 2 (v := .slice I x.ins.length ic) rfl
  have q3 := d1.cell 3 (v := .slice O x.outs.length oc) rfl
  have y1 := x0.trans x1
  cases hb : drwB x with
  | false =>
    have H := Lib.hid (boU_no (x := x) (by simp [hb]))
    clear hb
    go_wp2
    refine bodyPost_ret (results_tmp3 rfl _ _ _) rfl ?_
    rw [H.out]
    exact ⟨_, rfl, OI.nil _ _ _, y1⟩
  | true =>
    by_cases h8 : x.es.length ≤ 8
    · have hac := (drwB_parts hb).1
      have hm := (drwB_parts hb).2
      obtain ⟨_, _, _, hin, _, hk, _⟩ := validB_dims (acyB_valid hac)
      have heq := bs_eq (x := x) hm x.es.length [] ⟨[], -1⟩ (OkP.nil _) (by simp)
      have H := Lib.hid ((boU_yes hb h8).trans (by rw [← heq]))
      have hng : ¬ (8 < (x.es.length : Int)) := by omega
      have hgn := gneeds_c x.wires E ec x.es (.slice I x.ins.length ic) (.slice O x.outs.length oc) w1 (hE.ex y1) (by omega) ⟨_, _, _, rfl⟩ ⟨_, _, _, rfl⟩
      have Hk := Lib.hid hk
      clear hb hk hac hm heq
      go_wp2_with fail
      refine hgn.mono ?_
      rintro e w2 ⟨gn, vs, rfl, hrows, x2⟩
      have d2 := d1.ex x2
      have y2 := y1.trans x2
      clear q0 q1 q2 q3 hgn
      go_upto_region 8 with fail
      have v1 := VB.new w2 58 #[.slice (some ⟨gn, 0, none⟩) x.es.length x.es.length]
      have x3 := (Ex.refl w2).alloc (.cells #[.slice (some ⟨gn, 0, none⟩) x.es.length x.es.length] 58)
      have s1 : (w2.alloc (.cells #[.slice (some ⟨gn, 0, none⟩) x.es.length x.es.length] 58)).heap.size = w2.heap.size + 1 := by simp
      generalize w2.alloc (.cells #[.slice (some ⟨gn, 0, none⟩) x.es.length x.es.length] 58) = A1 at *
      have e2 : AL (A1.alloc (.cells #[] 3)) w2.heap.size (.slice (some ⟨A1.heap.size, 0, none⟩) 0 0) [] := AL.empty A1 (by omega)
      have z2 := (Ex.refl A1).alloc (.cells #[] 3)
      have s2 : (A1.alloc (.cells #[] 3)).heap.size = w2.heap.size + 1 + 1 := by simp; exact s1
      rw [s1] at e2
      generalize A1.alloc (.cells #[] 3) = A2 at *
      have v3 := VB.new A2 23 #[.slice (some ⟨w2.heap.size + 1, 0, none⟩) 0 0]
      have z3 := (Ex.refl A2).alloc (.cells #[.slice (some ⟨w2.heap.size + 1, 0, none⟩) 0 0] 23)
      have s3 : (A2.alloc (.cells #[.slice (some ⟨w2.heap.size + 1, 0, none⟩) 0 0] 23)).heap.size = w2.heap.size + 1 + 1 + 1 := by simp; exact s2
      rw [s2] at v3
      generalize A2.alloc (.cells #[.slice (some ⟨w2.heap.size + 1, 0, none⟩) 0 0] 23) = A3 at *
      have v4 := VB.new A3 3 #[.int .i64 (-1)]
      have z4 := (Ex.refl A3).alloc (.cells #[.int .i64 (-1)] 3)
      have s4 : (A3.alloc (.cells #[.int .i64 (-1)] 3)).heap.size = w2.heap.size + 1 + 1 + 1 + 1 := by simp; exact s3
      rw [s3] at v4
      generalize A3.alloc (.cells #[.int .i64 (-1)] 3) = A4 at *
      have e5 : AL (A4.alloc (.cells #[] 3)) w2.heap.size (.slice (some ⟨A4.heap.size, 0, none⟩) 0 0) [] := AL.empty A4 (by omega)
      have z5 := (Ex.refl A4).alloc (.cells #[] 3)
      have s5 : (A4.alloc (.cells #[] 3)).heap.size = w2.heap.size + 1 + 1 + 1 + 1 + 1 := by simp; exact s4
      rw [s4] at e5
      generalize A4.alloc (.cells #[] 3) = A5 at *
      have v6 := VB.new A5 23 #[.slice (some ⟨w2.heap.size + 1 + 1 + 1 + 1, 0, none⟩) 0 0]
      have z6 := (Ex.refl A5).alloc (.cells #[.slice (some ⟨w2.heap.size + 1 + 1 + 1 + 1, 0, none⟩) 0 0] 23)
      have s6 : (A5.alloc (.cells #[.slice (some ⟨w2.heap.size + 1 + 1 + 1 + 1, 0, none⟩) 0 0] 23)).heap.size = w2.heap.size + 1 + 1 + 1 + 1 + 1 + 1 := by simp; exact s5
      rw [s5] at v6
      generalize A5.alloc (.cells #[.slice (some ⟨w2.heap.size + 1 + 1 + 1 + 1, 0, none⟩) 0 0] 23) = A6 at *
      have v7 := VB.new A6 60 #[.func (.func 30) #[] #[.pointer (some ⟨w2.heap.size + 1 + 1 + 1, 0, none⟩), .pointer (some ⟨w2.heap.size + 1 + 1 + 1 + 1 + 1, 0, none⟩), .pointer (some ⟨w.heap.size, 0, none⟩), .pointer (some ⟨w2.heap.size + 1 + 1, 0, none⟩), .pointer (some ⟨w2.heap.size, 0, none⟩), .pointer (some ⟨w2.heap.size + 1 + 1 + 1 + 1 + 1 + 1, 0, none⟩)]]
      have z7 := (Ex.refl A6).alloc (.cells #[.func (.func 30) #[] #[.pointer (some ⟨w2.heap.size + 1 + 1 + 1, 0, none⟩), .pointer (some ⟨w2.heap.size + 1 + 1 + 1 + 1 + 1, 0, none⟩), .pointer (some ⟨w.heap.size, 0, none⟩), .pointer (some ⟨w2.heap.size + 1 + 1, 0, none⟩), .pointer (some ⟨w2.heap.size, 0, none⟩), .pointer (some ⟨w2.heap.size + 1 + 1 + 1 + 1 + 1 + 1, 0, none⟩)]] 60)
      rw [s6] at v7
      generalize A6.alloc (.cells #[.func (.func 30) #[] #[.pointer (some ⟨w2.heap.size + 1 + 1 + 1, 0, none⟩), .pointer (some ⟨w2.heap.size + 1 + 1 + 1 + 1 + 1, 0, none⟩), .pointer (some ⟨w.heap.size, 0, none⟩), .pointer (some ⟨w2.heap.size + 1 + 1, 0, none⟩), .pointer (some ⟨w2.heap.size, 0, none⟩), .pointer (some ⟨w2.heap.size + 1 + 1 + 1 + 1 + 1 + 1, 0, none⟩)]] 60) = A7 at *
      have yy := (((((x3.trans z2).trans z3).trans z4).trans z5).trans z6).trans z7
      have d7 := d2.ex yy
      have r7 := hrows.ex yy
      have v1 := v1.ex (((((z2.trans z3).trans z4).trans z5).trans z6).trans z7)
      have e2 := e2.ex ((((z3.trans z4).trans z5).trans z6).trans z7)
      have v3 := v3.ex (((z4.trans z5).trans z6).trans z7)
      have v4 := v4.ex ((z5.trans z6).trans z7)
      have e5 := e5.ex (z6.trans z7)
      have v6 := v6.ex z7
      have xw := y2.trans yy
      have zyy := yy.size
      have zw2 := y2.size
      have zd := d2.lt
      clear x3 z2 z3 z4 z5 z6 z7 s1 s2 s3 s4 s5 s6
      have hb : Bx.ok ⟨w2.heap.size, w.heap.size, gn, w2.heap.size, w2.heap.size, w2.heap.size + 1 + 1, w2.heap.size + 1 + 1 + 1, w2.heap.size + 1 + 1 + 1 + 1 + 1, w2.heap.size + 1 + 1 + 1 + 1 + 1 + 1, x.wires, E, ec, .slice I x.ins.length ic, .slice O x.outs.length oc, vs⟩ := by
        constructor <;> (try constructor) <;> dsimp only <;> omega
      have hS : SM ⟨w2.heap.size, w.heap.size, gn, w2.heap.size, w2.heap.size, w2.heap.size + 1 + 1, w2.heap.size + 1 + 1 + 1, w2.heap.size + 1 + 1 + 1 + 1 + 1, w2.heap.size + 1 + 1 + 1 + 1 + 1 + 1, x.wires, E, ec, .slice I x.ins.length ic, .slice O x.outs.length oc, vs⟩ x.es A7 (.slice (some ⟨w2.heap.size + 1 + 1 + 1 + 1, 0, none⟩) 0 0) [] ⟨[], -1⟩ := by
        refine ⟨d7, v1, r7, v7, v4, v6, e5, fun q e => ?_, some ⟨w2.heap.size + 1, 0, none⟩, 0, v3, ?_, fun a e => ?_⟩
        · injection e with e; dsimp only at e ⊢; omega
        · obtain ⟨A, c, e, hf⟩ := e2.form (by simp)
          injection e with e1 _ e3
          subst e1 e3
          exact hf
        · injection e with e; subst e; dsimp only
          refine ⟨by omega, by omega, by omega, fun e => ?_⟩
          injection e with e; dsimp only at e; omega
      have hc := search_c _ hb x.es w (by dsimp only; omega) hE h8 Hk.out x.es.length [] x.ins I ic x.ins.length ⟨[], -1⟩ _ A7 xw hS (by simp) (hI.ex xw) (fun hn a e e2 => by
        have hlt := hI.blk_lt hn a e
        rcases e2 with e2 | e2 | e2 | e2
        · dsimp only at e2; omega
        · dsimp only at e2; omega
        · dsimp only at e2; omega
        · injection e2 with e2; dsimp only at e2; omega) (by simp; omega) (by omega) (by omega) (by simp) (by simp)
      have H2 : (bsI x.es x.es.length [] x.ins (x.ins.length : Int) ⟨[], -1⟩) = bsI x.es x.es.length [] (cutF x.es x.ins []) (mxI x.es x.ins []) ⟨[], -1⟩ := rfl
      rw [H2] at hc
      generalize bsI x.es x.es.length [] (cutF x.es x.ins []) (mxI x.es x.ins []) ⟨[], -1⟩ = R at *
      unfold bxA at hc
      dsimp only at hc
      have q2 := d7.cell 2 (v := .slice I x.ins.length ic) rfl
      have q9 := v7.cell 0 (v := .func (.func 30) #[] #[.pointer (some ⟨w2.heap.size + 1 + 1 + 1, 0, none⟩), .pointer (some ⟨w2.heap.size + 1 + 1 + 1 + 1 + 1, 0, none⟩), .pointer (some ⟨w.heap.size, 0, none⟩), .pointer (some ⟨w2.heap.size + 1 + 1, 0, none⟩), .pointer (some ⟨w2.heap.size, 0, none⟩), .pointer (some ⟨w2.heap.size + 1 + 1 + 1 + 1 + 1 + 1, 0, none⟩)]) rfl
      clear hS d7 r7 v1 e2 v3 v4 e5 v6 v7 H2 hrows
      go_wp2_with fail
      refine hc.mono ?_
      rintro e w8 ⟨rfl, ⟨nv, S8, _⟩, X8, _, _⟩
      have X9 : Ex w w8 := xw.sx X8 (fun i h => by
        rcases h with h | h | h | h
        · dsimp only at h; omega
        · dsimp only at h; omega
        · dsimp only at h; omega
        · injection h with h; dsimp only at h; omega)
      obtain ⟨_, _, _, _, wd8, _, _, _, A, c, hbv, hbf, _⟩ := S8
      have k0 := hbv.cell 0 (v := .slice A R.o.length c) rfl
      have k1 := wd8.cell 0 (v := .int .i64 R.w) rfl
      clear hc q2 q9
      go_wp2_with fail
      go_quiet (fail)
      go_wp2_with fail
      refine bodyPost_ret (results_tmp3 rfl _ _ _) rfl ?_
      rw [H.out]
      exact ⟨_, rfl, ⟨A, c, rfl, ((hbf.more (B' := w.heap.size) (by omega)).fi).ex ((Ex.refl _).drewN _)⟩, X9.drewN _⟩
    · have H := Lib.hid (boU_no (x := x) (by omega))
      have hng : (8 < (x.es.length : Int)) := by omega
      go_wp2
      refine bodyPost_ret (results_tmp3 rfl _ _ _) rfl ?_
      rw [H.out]
      exact ⟨_, rfl, OI.nil _ _ _, y1⟩
end Go.Proofs.Ytgblnkadmieflaa
