/- Uniform words and the laws' helpers on lists of lists of ints. Contracts: lists joined, elements left out; lists of slices that the call collects; permutations by counting. Contracts: lists of polynomials, fractions in lowest terms, valid fractions, on both sides. Places of values; the two closures of termByOrder (the program). -/
import Derived.Test.YtphdcgimibnajaaGreatAp04
import Derived.Test.YtphdcgimibnajaaGreatLawSS2
import Derived.Test.YtphdcgimibnajaaGreatAp12
import Derived.Deep.AppendLies
import Derived.Test.YtphdcgimibnajaaGreatAp16
import Derived.Laws.CopyOwn
import Derived.Test.YtphdcgimibnajaaGreatAp05
import Derived.Test.YtphdcgimibnajaaGreatAp17
import Derived.Deep.RegionHeld3
namespace Go.Proofs.YtphdcgimibnajaaGreat
set_option maxRecDepth 100000
open Go Go.RowKit
def totM (x : List (List Int)) : Int := tot x
def RM (w : World) (v : Value) (x : List (List Int)) : Prop := (∃ A c, v = .slice A x.length c ∧ RdM w A x) ∧ totM x ≤ 1125899906842624
theorem RM.ex {w w' : World} {v : Value} {x : List (List Int)} (h : RM w v x) (he : Ex w w') : RM w' v x := by
  obtain ⟨⟨A, c, e, r⟩, t⟩ := h
  exact ⟨⟨A, c, e, r.ex he⟩, t⟩
theorem RM.form {w : World} {v : Value} {x : List (List Int)} (h : RM w v x) : ∃ A n c, v = .slice A n c := by
  obtain ⟨⟨A, c, e, r⟩, _⟩ := h
  exact ⟨A, _, c, e⟩
theorem RM.tot {w : World} {v : Value} {x : List (List Int)} (h : RM w v x) : totM x ≤ 1125899906842624 := h.2
def OM2 (w : World) (a b : Nat) (v : Value) (x : List (List Int)) : Prop := (∃ A c, v = .slice A x.length c ∧ FMI w a b A x) ∧ totM x ≤ 1125899906842624
theorem OM2.rd {w : World} {a b : Nat} {v : Value} {x : List (List Int)} (h : OM2 w a b v x) : RM w v x := by
  obtain ⟨⟨A, c, e, r⟩, t⟩ := h
  exact ⟨⟨A, c, e, r.rd⟩, t⟩
theorem OM2.ex {w w' : World} {a b : Nat} {v : Value} {x : List (List Int)} (h : OM2 w a b v x) (he : Ex w w') : OM2 w' a b v x := by
  obtain ⟨⟨A, c, e, r⟩, t⟩ := h
  exact ⟨⟨A, c, e, r.ex he⟩, t⟩
theorem OM2.iv {w w' : World} {a b a' b' : Nat} {v : Value} {x : List (List Int)} (h : OM2 w a b v x) (k : ExI a' b' w w') (hd : b ≤ a' ∨ b' ≤ a) : OM2 w' a b v x := by
  obtain ⟨⟨A, c, e, r⟩, t⟩ := h
  exact ⟨⟨A, c, e, r.iv k hd⟩, t⟩
theorem OM2.e1 {w w' : World} {a b g : Nat} {v : Value} {x : List (List Int)} (h : OM2 w a b v x) (k : Ex1 g w w') (hd : g < a ∨ b ≤ g) : OM2 w' a b v x := h.iv (ExI.of_ex1 k) (by omega)
theorem OM2.more {w : World} {a b a' b' : Nat} {v : Value} {x : List (List Int)} (h : OM2 w a b v x) (ha : a' ≤ a) (hb : b ≤ b') : OM2 w a' b' v x := by
  obtain ⟨⟨A, c, e, r⟩, t⟩ := h
  exact ⟨⟨A, c, e, r.more ha hb⟩, t⟩
end Go.Proofs.YtphdcgimibnajaaGreat
namespace Go.Proofs.YtphdcgimibnajaaGreat
set_option maxRecDepth 100000
open Go Go.RowKit
theorem upL_count (n : Nat) (a : Int) : (upL n).count a = if inB 0 ((n : Int) - 1) a then 1 else 0 := by
  induction n with
  | zero =>
    have : inB 0 (((0 : Nat) : Int) - 1) a = false := by simp [inB] <;> omega
    rw [this]; simp [upL]
  | succ n ih =>
    rw [upL_succ, List.count_append, ih, List.count_singleton]
    by_cases h1 : a = (n : Int)
    · subst h1
      have e1 : inB 0 ((n : Int) - 1) (n : Int) = false := by simp [inB] <;> omega
      have e2 : inB 0 (((n + 1 : Nat) : Int) - 1) (n : Int) = true := by simp [inB] <;> omega
      rw [e1, e2]; simp
    · have e1 : ((n : Int) == a) = false := by simp; exact fun e => h1 e.symm
      have e2 : inB 0 (((n + 1 : Nat) : Int) - 1) a = inB 0 ((n : Int) - 1) a := by
        rw [Bool.eq_iff_iff]; simp [inB] <;> omega
      rw [e2, e1]; simp
/-- Each number below n occurs once: a permutation. -/
theorem cnt_perm {n : Nat} {l : List Int} (h : ∀ k ∈ l, 0 ≤ k ∧ k < n) : (cntL n l).all (inB 1 1) = permB n l := by
  rw [Bool.eq_iff_iff]
  constructor
  · intro h1
    have hp : l.Perm (upL n) := by
      rw [List.perm_iff_count]
      intro a
      rw [upL_count]
      by_cases ha : inB 0 ((n : Int) - 1) a = true
      · rw [if_pos ha]
        have hb := inB_bd ha
        obtain ⟨m, rfl⟩ := Int.eq_ofNat_of_zero_le hb.1
        have := List.all_eq_true.1 h1 _ (List.mem_of_getElem? (cntL_at (n := n) (l := l) (i := m) (by omega)))
        have := inB_bd this
        omega
      · rw [if_neg ha]
        apply List.count_eq_zero_of_not_mem
        intro hm
        have := h a hm
        exact ha (by simp [inB] <;> omega)
    have hn : (upL n).Nodup := by
      rw [List.nodup_iff_count]
      intro a
      rw [upL_count]
      split <;> omega
    refine permB_yes (hp.length_eq.trans (upL_len n)) ?_ (hp.nodup_iff.2 hn)
    rw [List.all_eq_true]
    intro k hk
    have := h k hk
    simp [inB] <;> omega
  · intro h1
    obtain ⟨hl, hr, hn⟩ := permB_parts h1
    rw [List.all_eq_true]
    intro c hc
    obtain ⟨i, hi⟩ := List.getElem?_of_mem hc
    have hil : i < n := by have := (List.getElem?_eq_some_iff.1 hi).1; rw [cntL_len] at this; exact this
    rw [cntL_at hil] at hi
    injection hi with hi
    subst hi
    have h2 := List.nodup_iff_count.1 hn (i : Int)
    have h3 := List.count_pos_iff.2 (perm_all h1 hil)
    simp [inB] <;> omega
theorem others_c (A : Option Addr) (c : Nat) (xs : List Int) (B : Option Addr) (d : Nat) (ys : List Int) (w : World) (h : Rd w A xs) (h' : Rd w B ys) :
    Calls Tryz.prog 57 #[.slice A xs.length c, .slice B ys.length d] w fun e w' => LIo w (xs.filter fun x => !decide (x ∈ ys)) e w' := by
  have hl := h.len
  go_enter Tryz.func57, Tryz.ntmps57
  go_wp2_with fail
  go_loopw [5, 11] (fun o i wr => ∃ k : Nat, k ≤ xs.length ∧ i = .int .i64 k ∧ AL wr w.heap.size o ((xs.take k).filter fun x => !decide (x ∈ ys)) ∧ Ex w wr) (fun _ i _ => xs.length - (intOf i).toNat)
  case atStart => exact ⟨0, Nat.zero_le _, rfl, AL.empty w (Nat.le_refl _), (Ex.refl w).alloc _⟩
  case round =>
    obtain ⟨k, hk, rfl, hal, he⟩ := hrel
    by_cases hlt : k < xs.length
    · obtain ⟨g, off, x, rfl, hx, _, c1⟩ := (h.ex he).at_ hlt
      have hc := contains_c B d ys x wr (h'.ex he)
      have Hst := Lib.hid (show (xs.take (k + 1)).filter (fun x => !decide (x ∈ ys)) = (xs.take k).filter (fun x => !decide (x ∈ ys)) ++ (if decide (x ∈ ys) then [] else [x]) by
        rw [List.take_add_one, hx, List.filter_append]
        by_cases hm : x ∈ ys <;> simp [hm])
      have hlen : ((xs.take k).filter fun x => !decide (x ∈ ys)).length ≤ k := Nat.le_trans (List.length_filter_le _ _) (by rw [List.length_take]; omega)
      clear hx
      go_wp2_with fail
      refine hc.mono ?_
      rintro e _ ⟨rfl, rfl⟩
      clear hc
      cases hb : decide (x ∈ ys) with
      | true =>
        rw [hb, if_pos rfl, List.append_nil] at Hst
        rw [← Hst.out] at hal
        clear hb
        go_wp2_with fail
        go_roundw
        case rel => exact ⟨k + 1, by omega, by go_num, hal, he⟩
        case measure => simp [intOf]; omega
      | false =>
        rw [hb, if_neg (by decide)] at Hst
        have hz := he.size
        obtain ⟨v', w4, hrun2, hal4, hI⟩ := al_push_i _ w.heap.size u5 _ x hal hz (by omega)
        rw [← Hst.out] at hal4
        have he4 := he.iv hI (Nat.le_refl _)
        clear hb hlen
        go_wp2_with (at_builtin; refine wpList_append_run rfl _ _ _ rfl rfl rfl hrun2 ?_)
        go_roundw
        case rel => exact ⟨k + 1, by omega, by go_num, hal4, he4⟩
        case measure => simp [intOf]; omega
    · obtain rfl : k = xs.length := by omega
      rw [List.take_length] at hal
      have hlen : (xs.filter fun x => !decide (x ∈ ys)).length ≤ xs.length := List.length_filter_le _ _
      obtain ⟨O, oc, rfl, fo⟩ := hal.form (by omega)
      go_wp2_with fail
      go_ret
      exact ⟨_, rfl, ⟨O, oc, rfl, fo.fi⟩, he⟩
theorem flatten_take_le (rows : List (List Int)) (k : Nat) : (rows.take k).flatten.length ≤ rows.flatten.length := by
  have := congrArg (fun l => l.flatten.length) (List.take_append_drop k rows)
  simp only [List.flatten_append, List.length_append] at this
  omega
theorem joined_c (L : Option Addr) (lc : Nat) (rows : List (List Int)) (w : World) (h : RdM w L rows) (ht : rows.flatten.length ≤ 1099511627776) :
    Calls Tryz.prog 58 #[.slice L rows.length lc] w fun e w' => LIo w rows.flatten e w' := by
  have hl := h.1
  go_enter Tryz.func58, Tryz.ntmps58
  go_wp2_with fail
  go_loopw [3, 9] (fun o i wr => ∃ k : Nat, k ≤ rows.length ∧ i = .int .i64 k ∧ AL wr w.heap.size o (rows.take k).flatten ∧ Ex w wr) (fun _ i _ => rows.length - (intOf i).toNat)
  case atStart => exact ⟨0, Nat.zero_le _, rfl, AL.empty w (Nat.le_refl _), (Ex.refl w).alloc _⟩
  case round =>
    obtain ⟨k, hk, rfl, hal, he⟩ := hrel
    by_cases hlt : k < rows.length
    · obtain ⟨g, off, P, pc, r, rfl, hr, c1, hP⟩ := (h.ex he).at_ hlt
      have Hst := Lib.hid (show (rows.take (k + 1)).flatten = (rows.take k).flatten ++ r by
        rw [List.take_add_one, hr, List.flatten_append]; simp)
      have hle := flatten_take_le rows (k + 1)
      rw [Hst.out, List.length_append] at hle
      have hz := he.size
      have hPl := hP.len
      obtain ⟨v', w4, hrun2, hal4, hE, _⟩ := run_append_ints 23 23 Tryz.underlying23 wr w.heap.size u3 _ hal hz P pc r hP (by omega)
      rw [← Hst.out] at hal4
      have he4 := he.exo hE (fun g e => (hal.lt g e).1)
      clear hr hle
      go_wp2_with (at_builtin; refine wpList_append_run rfl _ _ _ rfl rfl rfl hrun2 ?_)
      go_roundw
      case rel => exact ⟨k + 1, by omega, by go_num, hal4, he4⟩
      case measure => simp [intOf]; omega
    · obtain rfl : k = rows.length := by omega
      rw [List.take_length] at hal
      obtain ⟨O, oc, rfl, fo⟩ := hal.form ht
      go_wp2_with fail
      go_ret
      exact ⟨_, rfl, ⟨O, oc, rfl, fo.fi⟩, he⟩
/-- A list of slices that the call collects by append; the slices themselves were there at w0. -/
def LR (w0 w : World) (B : Nat) (v : Value) (rows : List (List Int)) : Prop :=
  ∃ hs : List Value, w.ownsRow B 23 1 v rows.length hs ∧ ∀ (j : Nat) (r : List Int), rows[j]? = some r → ∃ A c, hs[j]? = some (.slice A r.length c) ∧ Rd w0 A r
theorem LR.nil (w0 w : World) (B : Nat) : LR w0 w B (.slice none 0 0) [] := ⟨[], World.ownsRow_nil w B _ 1, fun j r h => by simp at h⟩
theorem LR.one (w0 w : World) {B : Nat} {A : Option Addr} {c : Nat} {r : List Int} (hr : Rd w0 A r) (hB : B ≤ w.heap.size) : LR w0 (w.alloc (.cells #[.slice A r.length c] 23)) B (.slice (some ⟨w.heap.size, 0, none⟩) 1 1) [r] :=
  ⟨[.slice A r.length c], ⟨rfl, .inr ⟨w.heap.size, 1, #[.slice A r.length c], rfl, hB, heap_alloc_new w _, Nat.le_refl _, by decide, rfl, rfl⟩⟩, fun j q h => by
    cases j with
    | zero => simp at h; subst h; exact ⟨A, c, rfl, hr⟩
    | succ j => simp at h⟩
theorem LR.lt {w0 w : World} {B : Nat} {v : Value} {rows : List (List Int)} (h : LR w0 w B v rows) : ∀ k, v.ownBlock = some k → B ≤ k ∧ k < w.heap.size := by
  obtain ⟨hs, h1, _⟩ := h
  exact World.ownsRow.lt h1
theorem LR.ex {w0 w w' : World} {B : Nat} {v : Value} {rows : List (List Int)} (h : LR w0 w B v rows) (he : Ex w w') : LR w0 w' B v rows := by
  obtain ⟨hs, ⟨h1, h2⟩, h3⟩ := h
  refine ⟨hs, ⟨h1, ?_⟩, h3⟩
  rcases h2 with h2 | ⟨g, cap, cur, hv, hB, hh, r⟩
  · exact .inl h2
  · exact .inr ⟨g, cap, cur, hv, hB, (he.block (heap_lt_of hh)).trans hh, r⟩
theorem LR.exo {w0 w w' : World} {B : Nat} {v : Value} {rows : List (List Int)} {o : Option Nat} (h : LR w0 w B v rows) (he : ExO o w w') (ho : ∀ g, o = some g → v.ownBlock ≠ some g) : LR w0 w' B v rows := by
  obtain ⟨hs, ⟨h1, h2⟩, h3⟩ := h
  refine ⟨hs, ⟨h1, ?_⟩, h3⟩
  rcases h2 with h2 | ⟨g, cap, cur, hv, hB, hh, r⟩
  · exact .inl h2
  · exact .inr ⟨g, cap, cur, hv, hB, (he.block g (heap_lt_of hh) (fun e => ho g e.symm (by rw [hv]; rfl))).trans hh, r⟩
theorem LR.push {w0 w : World} {B : Nat} {v : Value} {rows : List (List Int)} (h : LR w0 w B v rows) {A : Option Addr} {c : Nat} {r : List Int} (hr : Rd w0 A r) (hB : B ≤ w.heap.size) (hl : rows.length + 1 ≤ 1099511627776) :
    ∃ v' w', (Builtin.append_ #[88, 88] 88 #[v, .slice (some ⟨w.heap.size, 0, none⟩) 1 1]).run Tryz.prog (w.alloc (.cells #[.slice A r.length c] 23)) = .ok v' w' ∧
      LR w0 w' B v' (rows ++ [r]) ∧ ExO v.ownBlock w w' ∧ (v'.ownBlock = v.ownBlock ∨ ∃ q, v'.ownBlock = some q ∧ w.heap.size ≤ q) := by
  have hx := (Ex.refl w).alloc (.cells #[.slice A r.length c] 23)
  have hsz := hx.size
  obtain ⟨hs, ho, h3⟩ := h.ex hx
  have hnl : hs.length = rows.length := by have := ho.1; omega
  obtain ⟨i, hi, hz, hs1, hb1⟩ := info_parts sliceInfo
  obtain ⟨v', w', hrun, hown', hg, _, hob⟩ := run_append_own_at (P := Tryz.prog) (w.alloc (.cells #[.slice A r.length c] 23)) B 88 88 23 i (.slice none 0 0) 1 24 Tryz.underlying88 hi hz hs1 hb1 rfl (by omega) v rows.length hs ho ⟨w.heap.size, 0, none⟩ 1 1 [.slice A r.length c] (by simp)
    (fun j u hj => World.news_of_block (heap_alloc_new w _) j u hj) (fun u hu => by simp at hu; subst hu; rfl) (by unfold maxLen; omega) (by omega) (by omega)
  refine ⟨v', w', hrun, ⟨hs ++ [.slice A r.length c], by rw [List.length_append]; exact hown', fun j q hq => ?_⟩, (ExO.of_ex hx).trans hg, hob.imp id (fun e => ⟨_, e, hsz⟩)⟩
  by_cases e : j < rows.length
  · rw [List.getElem?_append_left e] at hq
    obtain ⟨A2, c2, q1, q2⟩ := h3 j q hq
    exact ⟨A2, c2, by rw [List.getElem?_append_left (by omega)]; exact q1, q2⟩
  · have hjl := (List.getElem?_eq_some_iff.1 hq).1
    rw [List.length_append, List.length_singleton] at hjl
    have e2 : j = rows.length := by omega
    subst e2
    rw [List.getElem?_append_right (Nat.le_refl _), Nat.sub_self] at hq
    injection hq with hq
    subst hq
    exact ⟨A, c, by rw [List.getElem?_append_right (by omega), hnl, Nat.sub_self]; rfl, hr⟩
theorem LR.rdm {w0 w : World} {B : Nat} {v : Value} {rows : List (List Int)} (h : LR w0 w B v rows) (he : Ex w0 w) (hl : rows.length ≤ 1099511627776) : ∃ A c, v = .slice A rows.length c ∧ RdM w A rows := by
  obtain ⟨hs, ⟨h1, h2⟩, h3⟩ := h
  rcases h2 with ⟨hv, hn⟩ | ⟨g, cap, cur, hv, hB, hh, hnc, _, _, ht⟩
  · have : rows = [] := List.eq_nil_of_length_eq_zero hn
    subst this
    exact ⟨none, 0, hv, hl, fun j r hj => by simp at hj⟩
  · refine ⟨_, cap, hv, hl, fun j r hj => ?_⟩
    obtain ⟨A, c, q1, q2⟩ := h3 j r hj
    refine ⟨g, 0, A, c, rfl, ?_, q2.ex he⟩
    have : (cur.toList.take (rows.length * 1))[j]? = some (.slice A r.length c) := by rw [ht]; exact q1
    rw [List.getElem?_take] at this
    split at this
    · rw [Nat.zero_add]; exact cell_of_cur hh (by simpa using this)
    · cases this
end Go.Proofs.YtphdcgimibnajaaGreat
namespace Go.Proofs.YtphdcgimibnajaaGreat
set_option maxRecDepth 100000
open Go Go.RowKit
set_option maxHeartbeats 400000 in
theorem slicesEqual_c (A B : Option Addr) (c d : Nat) (xs ys : List Int) (w : World) (h : Rd w A xs) (h' : Rd w B ys) :
    Calls Tryz.prog 54 #[.slice A xs.length c, .slice B ys.length d] w fun e w' => e = .returned (.bool (decide (xs = ys))) ∧ Ex w w' := by
  have hl := h.len
  have hl' := h'.len
  by_cases hn : xs.length = ys.length
  case neg =>
    have hb : ((xs.length : Int) != (ys.length : Int)) = true := by simp; omega
    have he : decide (xs = ys) = false := by simp; intro e; exact hn (by rw [e])
    have He := Lib.hid he
    clear he
    go_enter Tryz.func54, Tryz.ntmps54
    go_wp2
    go_ret
    exact ⟨by rw [He.out]; rfl, Ex.refl w⟩
  have hb : ((xs.length : Int) != (ys.length : Int)) = false := by simp; omega
  have hn2 : ys.length ≤ xs.length := by omega
  have hn3 : xs.length ≤ ys.length := by omega
  have Hn := Lib.hid hn
  clear hn
  go_enter Tryz.func54, Tryz.ntmps54
  go_wp2
  go_loopw [13] (fun i wr => ∃ k : Nat, k ≤ xs.length ∧ i = .int .i64 k ∧ Hid (xs.take k = ys.take k) ∧ ∃ n, wr = w.drewN n) (fun i _ => xs.length - (intOf i).toNat)
  case atStart => exact ⟨0, Nat.zero_le _, rfl, rfl, 0, rfl⟩
  case round =>
    obtain ⟨k, hk, rfl, He, n, rfl⟩ := hrel
    by_cases hlt : k < xs.length
    · have hlt2 : k < ys.length := by omega
      obtain ⟨g, off, x, rfl, hx, hg, hc⟩ := h.at_ hlt
      obtain ⟨g', off', y, rfl, hy, hg', hc'⟩ := h'.at_ hlt2
      have Hx := Lib.hid hx
      have Hy := Lib.hid hy
      clear hx hy
      by_cases hxy : x = y
      · subst hxy
        go_wp2
        go_quiet (fail)
        go_wp2
        go_roundw
        case rel => exact ⟨k + 1, by omega, by go_num, by
          show _ = _
          rw [List.take_add_one, List.take_add_one, Hx.out, Hy.out, He.out], _, rfl⟩
        case measure => simp [intOf] <;> omega
      · have hbx : (x != y) = true := by simpa using hxy
        have he : decide (xs = ys) = false := by
          simp; rintro rfl
          have := Hx.out; rw [Hy.out] at this; injection this with this; exact hxy this.symm
        have He2 := Lib.hid he
        clear he hxy
        go_wp2
        go_quiet (fail)
        go_wp2
        go_ret
        exact ⟨by rw [He2.out]; rfl, ((Ex.refl w).drewN _).drewN _⟩
    · obtain rfl : k = xs.length := by omega
      have he : decide (xs = ys) = true := by
        have := He.out
        rw [List.take_length, List.take_of_length_le (by omega)] at this
        simpa using this
      have He2 := Lib.hid he
      clear he
      go_wp2
      go_ret
      exact ⟨by rw [He2.out]; rfl, (Ex.refl w).drewN _⟩
end Go.Proofs.YtphdcgimibnajaaGreat
namespace Go.Proofs.YtphdcgimibnajaaGreat
set_option maxRecDepth 100000
open Go Go.RowKit
theorem idxP_idxOf {xs : List Int} {v : Int} (h : v ∈ xs) : idxP (fun x => decide (x = v)) xs = (xs.idxOf v : Int) := by
  have hl := List.idxOf_lt_length_of_mem h
  refine idxP_some (x := v) (k := xs.idxOf v) ?_ ?_ (by simp)
  · rw [List.getElem?_eq_getElem hl, List.getElem_idxOf hl]
  · rw [List.all_eq_true]
    intro y hy
    obtain ⟨j, hj, e⟩ := List.mem_iff_getElem.1 hy
    rw [List.length_take] at hj
    rw [List.getElem_take] at e
    simp only [Bool.not_eq_true', decide_eq_false_iff_not]
    intro e2
    have h1 : j < xs.findIdx (· == v) := by rw [List.length_take] at *; exact Nat.lt_of_lt_of_le hj (Nat.min_le_left _ _)
    have h2 := List.not_of_lt_findIdx h1
    simp [e, e2] at h2
/-- A list of ints lies not in a cell that holds something else. -/
theorem Rd.ex1_vb {w w' : World} {A : Option Addr} {xs : List Int} {t : Nat} {ty : TypeId} {v : Value} (h : Rd w A xs) (hv : VB w t ty #[v]) (hn : ∀ i, v ≠ .int .i64 i) (he : Ex1 t w w') : Rd w' A xs := by
  by_cases hx : xs = []
  · rw [hx]; exact Rd.nil _ _
  refine h.keep fun a e hl => he.block _ hl (fun e2 => ?_)
  injection e2 with e2
  have h0 : 0 < xs.length := List.length_pos_iff.2 hx
  obtain ⟨g, off, hA, hc⟩ := h.2 0 h0
  rw [hA] at e
  injection e with e
  subst e
  dsimp only at e2
  subst e2
  unfold VB at hv
  simp only [World.cell?, hv] at hc
  cases off with
  | zero => simp at hc; exact hn _ hc
  | succ n => simp at hc
theorem placesIn_c (A : Option Addr) (c : Nat) (xs : List Int) (B : Option Addr) (d : Nat) (ys : List Int) (w : World) (h : Rd w A xs) (h' : Rd w B ys) (hs : ∀ v ∈ xs, v ∈ ys) :
    Calls Tryz.prog 56 #[.slice A xs.length c, .slice B ys.length d] w fun e w' => LIo w (posN xs ys) e w' := by
  have hl := h.len
  have HS := Lib.hid hs
  clear hs
  go_enter Tryz.func56, Tryz.ntmps56
  go_wp2_with fail
  go_loopw [5, 11] (fun o i wr => ∃ k : Nat, k ≤ xs.length ∧ i = .int .i64 k ∧ AL wr w.heap.size o (posN (xs.take k) ys) ∧ Ex w wr) (fun _ i _ => xs.length - (intOf i).toNat)
  case atStart => exact ⟨0, Nat.zero_le _, rfl, AL.empty w (Nat.le_refl _), (Ex.refl w).alloc _⟩
  case round =>
    obtain ⟨k, hk, rfl, hal, he⟩ := hrel
    by_cases hlt : k < xs.length
    · obtain ⟨g, off, x, rfl, hx, _, c1⟩ := (h.ex he).at_ hlt
      have hc := index_c B d ys x wr (h'.ex he)
      rw [idxP_idxOf (HS.out x (List.mem_of_getElem? hx))] at hc
      have Hst := Lib.hid (show posN (xs.take (k + 1)) ys = posN (xs.take k) ys ++ [(ys.idxOf x : Int)] by
        unfold posN
        rw [List.take_add_one, hx, List.map_append]; rfl)
      have hlen : (posN (xs.take k) ys).length ≤ k := by rw [posN_len, List.length_take]; omega
      generalize ys.idxOf x = q at *
      clear hx
      have hz := he.size
      obtain ⟨v', w4, hrun2, hal4, hI⟩ := al_push_i _ w.heap.size _ _ (q : Int) hal hz (by omega)
      rw [← Hst.out] at hal4
      have he4 := he.iv hI (Nat.le_refl _)
      clear hlen
      go_wp2_with fail
      refine hc.mono ?_
      rintro e _ ⟨rfl, rfl⟩
      clear hc
      go_wp2_with (at_builtin; refine wpList_append_run rfl _ _ _ rfl rfl rfl hrun2 ?_)
      go_roundw
      case rel => exact ⟨k + 1, by omega, by go_num, hal4, he4⟩
      case measure => simp [intOf]; omega
    · obtain rfl : k = xs.length := by omega
      rw [List.take_length] at hal
      obtain ⟨O, oc, rfl, fo⟩ := hal.form (by rw [posN_len]; omega)
      go_wp2_with fail
      go_ret
      exact ⟨_, rfl, ⟨O, oc, rfl, fo.fi⟩, he⟩
set_option maxHeartbeats 1000000 in
theorem add_c (t B : Nat) (ov fv : Value) (out f : List Nd) (w : World) (hv : VB w t 27 #[ov]) (ho : AN w B ov out) (hf : AN w B fv f) (hol : out.length ≤ 1000000) (hfl : f.length ≤ 1000000) (hB : B ≤ w.heap.size) (hfn : fv.ownBlock ≠ some t) :
    Calls Tryz.prog 51 #[fv, .pointer (some ⟨t, 0, none⟩)] w fun e w' => e = .returned (.tuple #[]) ∧ ∃ v', VB w' t 27 #[v'] ∧ AN w' B v' (addL out f) ∧ v'.ownBlock ≠ some t ∧ Ex1 t w w' := by
  obtain ⟨A, c, rfl, rA⟩ := ho.rd (by omega)
  obtain ⟨F, fc, rfl, rF⟩ := hf.rd (by omega)
  have q0 := hv.cell 0 (v := .slice A out.length c) rfl
  have z0 := hv.frozen 0
  have hlt := hv.lt
  by_cases h0 : out.length = 0
  · have hg : ¬ ((0 : Int) < (out.length : Int)) := by omega
    have HA := Lib.hid (show addL out f = f from if_pos h0)
    have E1 : Ex1 t w (w.setCell ⟨t, 0, none⟩ (.slice F f.length fc)) := (Ex1.refl _ _).setCell (p := ⟨t, 0, none⟩) rfl _
    have dd := hv.set_ 0 (.slice F f.length fc)
    have hf' := hf.k1 E1 hfn
    clear h0
    go_enter Tryz.func51, Tryz.ntmps51
    go_wp2_with fail
    go_end0
    rw [HA.out]
    exact ⟨rfl, _, dd, hf', hfn, E1⟩
  · have hg : (0 : Int) < (out.length : Int) := by omega
    have HA := Lib.hid (show addL out f = jn 15 out f from if_neg h0)
    clear h0
    go_enter Tryz.func51, Tryz.ntmps51
    go_wp2_with fail
    refine (joinNodes_c 15 out f A F c fc _ rA rF (by omega) (by omega)).mono ?_
    rintro e w2 ⟨v, rfl, hn, x2⟩
    obtain ⟨A2, c2, e2, _⟩ := hn.form
    obtain ⟨m, hm⟩ : ∃ m, (jn 15 out f).length = m := ⟨_, rfl⟩
    rw [hm] at e2
    subst e2
    clear hm
    have hv2 := hv.ex x2
    have z2 := hv2.frozen 0
    have q2 := hv2.cell 0 (v := .slice A out.length c) rfl
    have E1 : Ex1 t w2 (w2.setCell ⟨t, 0, none⟩ (.slice A2 m c2)) := (Ex1.refl _ _).setCell (p := ⟨t, 0, none⟩) rfl _
    have dd := hv2.set_ 0 (.slice A2 m c2)
    have hne : (Value.slice A2 m c2).ownBlock ≠ some t := fun e => by have := (hn.lt t e).1; omega
    have hf' := (hn.more hB).k1 E1 hne
    have E2 := (Ex1.of_ex x2).trans E1
    go_wp2_with fail
    go_end0
    rw [HA.out]
    exact ⟨rfl, _, dd, hf', hne, E2⟩
theorem enters_add : ∀ args w, (callFunc 51 args).run Tryz.prog w = .ok (.enter 51 args) w := enters_of Tryz.func51 (by kernel_rfl) rfl
set_option maxHeartbeats 2000000 in
theorem turn_c (t q B : Nat) (ty : TypeId) (ov : Value) (out : List Nd) (C D : Option Addr) (cc dc : Nat) (cut target : List Int) (w : World) (hv : VB w t 27 #[ov]) (hq : VB w q ty #[.func (.func 51) #[] #[.pointer (some ⟨t, 0, none⟩)]]) (htq : q ≠ t) (ho : AN w B ov out) (hol : out.length ≤ 1000000) (hB : B ≤ w.heap.size) (hot : ov.ownBlock ≠ some t)
    (hC : Rd w C cut) (hD : Rd w D target) (hn : cut.Nodup) (hs : ∀ v ∈ cut, v ∈ target) (hc : cut.length ≤ 200) :
    Calls Tryz.prog 53 #[.slice C cut.length cc, .slice D target.length dc, .pointer (some ⟨q, 0, none⟩)] w fun e w' => e = .returned (.tuple #[]) ∧ ∃ v', VB w' t 27 #[v'] ∧ AN w' B v' (mvA out cut target) ∧ v'.ownBlock ≠ some t ∧ Ex1 t w w' := by
  have eg := enters_add
  have HN := Lib.hid hn
  have HS := Lib.hid hs
  have hlt := hv.lt
  have hE := slicesEqual_c C D cc dc cut target w hC hD
  clear hn hs
  by_cases he : cut = target
  · have HM := Lib.hid (show mvA out cut target = out from if_pos he)
    rw [decide_eq_true he] at hE
    clear he
    go_enter Tryz.func53, Tryz.ntmps53
    go_wp2_with fail
    refine hE.mono ?_
    rintro e w2 ⟨rfl, x2⟩
    go_wp2_with fail
    go_end0
    rw [HM.out]
    exact ⟨rfl, _, hv.ex x2, ho.ex x2, hot, Ex1.of_ex x2⟩
  · have HM := Lib.hid (show mvA out cut target = addL out (permN (posN cut target)) from if_neg he)
    have HL := Lib.hid (show (permN (posN cut target)).length ≤ 240001 by
      have h1 := permN_len (posN cut target)
      rw [posN_len] at h1
      have h2 : cut.length * cut.length ≤ 200 * 200 := Nat.mul_le_mul hc hc
      omega)
    rw [decide_eq_false he] at hE
    clear he
    go_enter Tryz.func53, Tryz.ntmps53
    go_wp2_with fail
    refine hE.mono ?_
    rintro e w2 ⟨rfl, x2⟩
    have q2 := (hq.ex x2).cell 0 (v := .func (.func 51) #[] #[.pointer (some ⟨t, 0, none⟩)]) rfl
    have e2 : Ex w w2.drew := x2.drew
    have q1 : w2.drew.cell? ⟨q, 0, none⟩ = _ := q2
    go_wp2_with fail
    go_region_held3 (fun W => W.cell? ⟨q, 0, none⟩ = some (.func (.func 51) #[] #[.pointer (some ⟨t, 0, none⟩)])) (first
      | (exact q2)
      | (exact q3)
      | (exact q4)
      | (exact q5)) (first
      | (go_at_call 56
         refine (placesIn_c C cc cut D dc target _ (hC.ex e2) (hD.ex e2) HS.out).mono ?_
         rintro e w3 ⟨v3, rfl, ⟨P, pc, rfl, f3⟩, x3'⟩
         have x3 := e2.trans x3'
         have q3 := cell_ex x3' q1)
      | (go_at_call 55
         refine (permutationNodes_c P pc (posN cut target) _ f3.rd (posN_nodup HN.out HS.out) (by rw [posN_len]; omega)).mono ?_
         rintro e w4 ⟨v4, rfl, f4, x4'⟩
         have x4 := x3.trans x4'
         have z3 := x3.size
         have z4 := x4.size
         have q4 := cell_ex x4' q3)
      | (go_at_call 51
         refine (add_c t B ov v4 out (permN (posN cut target)) _ (hv.ex x4) (ho.ex x4) (f4.more (by omega)) hol (by have := HL.out; omega) (by omega) (fun e => by have := (f4.lt t e).1; omega)).mono ?_
         rintro e w5 ⟨rfl, v5, h5, f5, n5, x5'⟩
         have x5 := (Ex1.of_ex x4).trans x5'
         have q5 := ((hq.ex x4).ex1 x5' htq).cell 0 (v := .func (.func 51) #[] #[.pointer (some ⟨t, 0, none⟩)]) rfl))
    go_wp2_with fail
    go_end0
    rw [HM.out]
    exact ⟨rfl, v5, h5, f5, n5, x5⟩
end Go.Proofs.YtphdcgimibnajaaGreat
