/- The reference's small functions on wires: what is left, what brings wires into another order. Lists of terms that the reference collects; composed one behind the other. Contracts: monogamous graphs, cuts behind edges, widths of cuts; on both sides. Lists of lists of ints whose outer list and whose rows both grow by append. -/
import Derived.Test.YtphdcgimibnajaaGreatAp16
import Derived.Test.YtphdcgimibnajaaGreatAp21
import Derived.Test.YtphdcgimibnajaaGreatAp07
import Derived.Deep.RegionLaw
import Derived.BigQuiet
import Derived.Test.YtphdcgimibnajaaGreatAp11
import Derived.Deep.Cut
import Derived.Test.YtphdcgimibnajaaGreatAp04
import Derived.Deep.AppendLies
namespace Go.Proofs.YtphdcgimibnajaaGreat
set_option maxRecDepth 100000
open Go Go.RowKit
set_option maxHeartbeats 400000 in
theorem l1Same_n (A B : Option Addr) (c d : Nat) (xs ys : List Int) (w : World) (h : Rd w A xs) (h' : Rd w B ys) :
    Calls Tryz.prog 81 #[.slice A xs.length c, .slice B ys.length d] w fun e w' => e = .returned (.bool (decide (xs = ys))) ∧ Ex w w' := by
  have hl := h.len
  have hl' := h'.len
  by_cases hn : xs.length = ys.length
  case neg =>
    have hb : ((xs.length : Int) != (ys.length : Int)) = true := by simp; omega
    have he : decide (xs = ys) = false := by simp; intro e; exact hn (by rw [e])
    have He := Lib.hid he
    clear he
    go_enter Tryz.func81, Tryz.ntmps81
    go_wp2
    go_ret
    exact ⟨by rw [He.out]; rfl, Ex.refl w⟩
  have hb : ((xs.length : Int) != (ys.length : Int)) = false := by simp; omega
  have hn2 : ys.length ≤ xs.length := by omega
  have hn3 : xs.length ≤ ys.length := by omega
  have Hn := Lib.hid hn
  clear hn
  go_enter Tryz.func81, Tryz.ntmps81
  go_wp2
  go_loopw [13] (fun i wr => ∃ k : Nat, k ≤ xs.length ∧ i = .int .i64 k ∧ Hid (xs.take k = ys.take k) ∧ ∃ n, wr = w.drewN n) (fun i _ => xs.length - (intOf i).toNat)
  case atStart => exact ⟨0, Nat.zero_le _, rfl, rfl, 0, rfl⟩
  case round =>
    obtain ⟨k, hk, rfl, He, n, rfl⟩ := hrel
    by_cases hlt : k < xs.length
    · have hlt2 : k < ys.length := by omega
      obtain ⟨g, off, x, rfl, hx, hg, hc⟩ := h.at_ hlt
      obtain ⟨g', off', y, rfl, hy, hg', hc'⟩ := h'.at_ hlt2
      have Hx := Lib.hid hx
      have Hy := Lib.hid hy
      clear hx hy
      by_cases hxy : x = y
      · subst hxy
        go_wp2
        go_quiet (fail)
        go_wp2
        go_roundw
        case rel => exact ⟨k + 1, by omega, by go_num, by
          show _ = _
          rw [List.take_add_one, List.take_add_one, Hx.out, Hy.out, He.out], _, rfl⟩
        case measure => simp [intOf] <;> omega
      · have hbx : (x != y) = true := by simpa using hxy
        have he : decide (xs = ys) = false := by
          simp; rintro rfl
          have := Hx.out; rw [Hy.out] at this; injection this with this; exact hxy this.symm
        have He2 := Lib.hid he
        clear he hxy
        go_wp2
        go_quiet (fail)
        go_wp2
        go_ret
        exact ⟨by rw [He2.out]; rfl, ((Ex.refl w).drewN _).drewN _⟩
    · obtain rfl : k = xs.length := by omega
      have he : decide (xs = ys) = true := by
        have := He.out
        rw [List.take_length, List.take_of_length_le (by omega)] at this
        simpa using this
      have He2 := Lib.hid he
      clear he
      go_wp2
      go_ret
      exact ⟨by rw [He2.out]; rfl, (Ex.refl w).drewN _⟩
theorem rbRest_c (A : Option Addr) (c : Nat) (xs : List Int) (B : Option Addr) (d : Nat) (ys : List Int) (w : World) (h : Rd w A xs) (h' : Rd w B ys) :
    Calls Tryz.prog 41 #[.slice A xs.length c, .slice B ys.length d] w fun e w' => LIo w (xs.filter fun x => !decide (x ∈ ys)) e w' := by
  have hl := h.len
  go_enter Tryz.func41, Tryz.ntmps41
  go_wp2_with fail
  go_loopw [5, 10] (fun o i wr => ∃ k : Nat, k ≤ xs.length ∧ i = .int .i64 k ∧ AL wr w.heap.size o ((xs.take k).filter fun x => !decide (x ∈ ys)) ∧ Ex w wr) (fun _ i _ => xs.length - (intOf i).toNat)
  case atStart => exact ⟨0, Nat.zero_le _, rfl, AL.nil w _, Ex.refl w⟩
  case round =>
    obtain ⟨k, hk, rfl, hal, he⟩ := hrel
    by_cases hlt : k < xs.length
    · obtain ⟨g, off, x, rfl, hx, _, c1⟩ := (h.ex he).at_ hlt
      have hc := l1Has_c B d ys x wr (h'.ex he)
      have Hst := Lib.hid (show (xs.take (k + 1)).filter (fun x => !decide (x ∈ ys)) = (xs.take k).filter (fun x => !decide (x ∈ ys)) ++ (if decide (x ∈ ys) then [] else [x]) by
        rw [List.take_add_one, hx, List.filter_append]
        by_cases hm : x ∈ ys <;> simp [hm])
      have hlen : ((xs.take k).filter fun x => !decide (x ∈ ys)).length ≤ k := Nat.le_trans (List.length_filter_le _ _) (by rw [List.length_take]; omega)
      clear hx
      go_wp2_with fail
      refine hc.mono ?_
      rintro e _ ⟨rfl, rfl⟩
      clear hc
      cases hb : decide (x ∈ ys) with
      | true =>
        rw [hb, if_pos rfl, List.append_nil] at Hst
        rw [← Hst.out] at hal
        clear hb
        go_wp2_with fail
        go_roundw
        case rel => exact ⟨k + 1, by omega, by go_num, hal, he⟩
        case measure => simp [intOf]; omega
      | false =>
        rw [hb, if_neg (by decide)] at Hst
        have hz := he.size
        obtain ⟨v', w4, hrun2, hal4, hI⟩ := al_push_i _ w.heap.size u5 _ x hal hz (by omega)
        rw [← Hst.out] at hal4
        have he4 := he.iv hI (Nat.le_refl _)
        clear hb hlen
        go_wp2_with (at_builtin; refine wpList_append_run rfl _ _ _ rfl rfl rfl hrun2 ?_)
        go_roundw
        case rel => exact ⟨k + 1, by omega, by go_num, hal4, he4⟩
        case measure => simp [intOf]; omega
    · obtain rfl : k = xs.length := by omega
      rw [List.take_length] at hal
      have hlen : (xs.filter fun x => !decide (x ∈ ys)).length ≤ xs.length := List.length_filter_le _ _
      obtain ⟨O, oc, rfl, fo⟩ := hal.form (by omega)
      go_wp2_with fail
      go_ret
      exact ⟨_, rfl, ⟨O, oc, rfl, fo.fi⟩, he⟩
/-- What rbMove returns: nothing, or one term in a block that is the last of all. -/
def RbO (w : World) (cut target : List Int) (e : Ending) (w' : World) : Prop :=
  (cut = target ∧ e = .returned (.slice none 0 0) ∧ Ex w w') ∨
  (cut ≠ target ∧ ∃ w1 A c, e = .returned (.slice (some ⟨w1.heap.size, 0, none⟩) 1 1) ∧ w' = w1.alloc (.cells #[.slice A (permN (posN cut target)).length c] 29) ∧ AN w1 w.heap.size (.slice A (permN (posN cut target)).length c) (permN (posN cut target)) ∧ Ex w w1)
set_option maxHeartbeats 2000000 in
theorem rbMove_c (A : Option Addr) (c : Nat) (xs : List Int) (B : Option Addr) (d : Nat) (ys : List Int) (w : World) (h : Rd w A xs) (h' : Rd w B ys) (hs : ∀ v ∈ xs, v ∈ ys) (hn : xs.length ≤ 1000) :
    Calls Tryz.prog 42 #[.slice A xs.length c, .slice B ys.length d] w fun e w' => RbO w xs ys e w' := by
  have hl := h.len
  have hl' := h'.len
  have HS := Lib.hid hs
  have hE := l1Same_n A B c d xs ys w h h'
  clear hs
  by_cases he : xs = ys
  · have H := Lib.hid he
    rw [decide_eq_true he] at hE
    clear he
    go_enter Tryz.func42, Tryz.ntmps42
    go_wp2_with fail
    refine hE.mono ?_
    rintro e w2 ⟨rfl, x2⟩
    go_wp2_with fail
    go_ret
    exact .inl ⟨H.out, rfl, x2⟩
  have H := Lib.hid he
  rw [decide_eq_false he] at hE
  clear he
  go_enter Tryz.func42, Tryz.ntmps42
  go_wp2_with fail
  refine hE.mono ?_
  rintro e w2 ⟨rfl, x2⟩
  clear hE
  go_wp2_with fail
  go_loopw [5, 14] (fun o i wr => ∃ k : Nat, k ≤ xs.length ∧ i = .int .i64 k ∧ AL wr w.heap.size o (posN (xs.take k) ys) ∧ Ex w wr) (fun _ i _ => xs.length - (intOf i).toNat)
  case atStart => exact ⟨0, Nat.zero_le _, rfl, AL.nil w2 _, x2⟩
  case round =>
    obtain ⟨k, hk, rfl, hal, he⟩ := hrel
    by_cases hlt : k < xs.length
    · obtain ⟨g, off, x, rfl, hx, _, c1⟩ := (h.ex he).at_ hlt
      have hxm := HS.out x (List.mem_of_getElem? hx)
      have hix := List.idxOf_lt_length_of_mem hxm
      have HIX := Lib.hid (show ys[ys.idxOf x]? = some x by rw [List.getElem?_eq_getElem hix, List.getElem_idxOf hix])
      have HNX := Lib.hid (show ∀ j, j < ys.idxOf x → ∀ y, ys[j]? = some y → y ≠ x from fun j hj y hy e => by
        have h1 := List.not_of_lt_findIdx (show j < ys.findIdx (· == x) from hj)
        have h2 := List.getElem?_eq_some_iff.1 hy
        obtain ⟨h3, h4⟩ := h2
        rw [h4, e] at h1
        simp at h1)
      have Hst := Lib.hid (show posN (xs.take (k + 1)) ys = posN (xs.take k) ys ++ [(ys.idxOf x : Int)] by
        unfold posN
        rw [List.take_add_one, hx, List.map_append]; rfl)
      have hlen : (posN (xs.take k) ys).length ≤ k := by rw [posN_len, List.length_take]; omega
      generalize ys.idxOf x = q at *
      clear hx hxm
      go_wp2_with fail
      go_loop [8] (fun s8 => ∃ j : Nat, j ≤ q ∧ s8 = .int .i64 j) (fun s8 => q - (intOf s8).toNat)
      case atStart => exact ⟨0, Nat.zero_le _, rfl⟩
      case round =>
        obtain ⟨j, hj, rfl⟩ := hrel
        obtain ⟨g', off', y, rfl, hy, _, c2⟩ := (h'.ex he).at_ (show j < ys.length by omega)
        by_cases hjq : j < q
        · have hne := HNX.out j hjq y hy
          have hb : (y != x) = true := by simpa using hne
          clear hy hne
          go_wp2_with fail
          go_round
          case rel => exact ⟨j + 1, by omega, by go_num⟩
          case measure => simp [intOf]; omega
        · obtain rfl : j = q := by omega
          have hyx : y = x := by
            have := HIX.out
            rw [hy] at this
            injection this
          have hb : (y != x) = false := by simpa using hyx
          clear hy hyx
          have hz := he.size
          obtain ⟨v', w4, hrun2, hal4, hI⟩ := al_push_i _ w.heap.size _ _ (j : Int) hal hz (by omega)
          rw [← Hst.out] at hal4
          have he4 := he.iv hI (Nat.le_refl _)
          clear hlen
          go_wp2_with (at_builtin; refine wpList_append_run rfl _ _ _ rfl rfl rfl hrun2 ?_)
          go_roundw
          case rel => exact ⟨k + 1, by omega, by go_num, hal4, he4⟩
          case measure => simp [intOf]; omega
    · obtain rfl : k = xs.length := by omega
      rw [List.take_length] at hal
      obtain ⟨P, pc, rfl, fo⟩ := hal.form (by rw [posN_len]; omega)
      obtain ⟨pl, hpl⟩ : ∃ l, posN xs ys = l := ⟨_, rfl⟩
      have HPL := Lib.hid hpl
      have hpn : pl.length ≤ 1000 := by rw [← hpl, posN_len]; exact hn
      rw [hpl] at fo ⊢
      clear hpl
      have hz := he.size
      go_wp2_with fail
      refine (tmPerm_c P pc pl wr fo.rd hpn).mono ?_
      rintro e w5 ⟨A5, c5, rfl, n5, x5⟩
      obtain ⟨m5, hm5⟩ : ∃ m, (permN pl).length = m := ⟨_, rfl⟩
      have HM5 := Lib.hid hm5
      rw [hm5] at n5 ⊢
      clear hm5
      go_wp2_with fail
      go_ret
      refine .inr ⟨H.out, w5, A5, c5, rfl, ?_, ?_, he.trans x5⟩
      · rw [HPL.out, HM5.out]
      · rw [HPL.out, HM5.out]; exact n5.more hz
end Go.Proofs.YtphdcgimibnajaaGreat
namespace Go.Proofs.YtphdcgimibnajaaGreat
set_option maxRecDepth 100000
open Go Go.RowKit
theorem RdS.n_keep {w w' : World} {A : Option Addr} {xs : List Nd} (h : RdS EN w A xs) (hk : xs ≠ [] → ∀ a : Addr, A = some a → a.block < w.heap.size → w'.heap[a.block]? = w.heap[a.block]?) : RdS EN w' A xs := by
  refine ⟨h.1, fun j x hj => ?_⟩
  obtain ⟨g, off, vs, hA, hc, hR⟩ := h.2 j x hj
  refine ⟨g, off, vs, hA, fun i u hu => ?_, hR⟩
  have h1 := hc i u hu
  have hlt := cell_lt h1
  have h2 := hk (fun e => by rw [e] at hj; simp at hj) _ hA hlt
  simp only [World.cell?] at h1 ⊢
  rw [h2]
  exact h1
/-- Nodes lie not in a cell that holds something other than an int. -/
theorem RdS.n_vb {w w' : World} {A : Option Addr} {xs : List Nd} {t : Nat} {ty : TypeId} {v : Value} (h : RdS EN w A xs) (hv : VB w t ty #[v]) (hn : ∀ i, v ≠ .int .i64 i) (he : Ex1 t w w') : RdS EN w' A xs := by
  refine h.n_keep fun hx a e hl => he.block _ hl (fun e2 => ?_)
  injection e2 with e2
  have h0 : 0 < xs.length := List.length_pos_iff.2 hx
  obtain ⟨g, off, x, hA, _, hc, _, _⟩ := h.node h0
  rw [hA] at e
  injection e with e
  subst e
  dsimp only at e2
  subst e2
  unfold VB at hv
  simp only [World.cell?, hv] at hc
  cases off with
  | zero => simp at hc; exact hn _ hc
  | succ n => simp at hc
/-- Terms one behind the other. -/
def chF : List (List Nd) → List Nd
  | [] => []
  | r :: rs => rs.foldl (jn 15) r
theorem foldl_pos : ∀ (rs : List (List Nd)) (r : List Nd), 0 < r.length → 0 < (rs.foldl (jn 15) r).length
  | [], _, h => h
  | a :: rs, r, _ => foldl_pos rs (jn 15 r a) (by rw [jn_len]; omega)
theorem chF_pos {rows : List (List Nd)} (h : ∀ r ∈ rows, 0 < r.length) : (chF rows).length = 0 ↔ rows = [] := by
  cases rows with
  | nil => simp [chF]
  | cons r rs =>
    have := foldl_pos rs r (h r (by simp))
    simp only [chF]
    constructor
    · intro e; omega
    · intro e; cases e
theorem chF_snoc {rows : List (List Nd)} (h : ∀ r ∈ rows, 0 < r.length) (f : List Nd) : chF (rows ++ [f]) = addL (chF rows) f := by
  cases rows with
  | nil => rfl
  | cons r rs =>
    have h0 : (chF (r :: rs)).length ≠ 0 := fun e => List.cons_ne_nil r rs ((chF_pos h).1 e)
    unfold addL
    rw [if_neg h0]
    simp [chF, List.foldl_append]
theorem chF_len {m : Nat} : ∀ (rs : List (List Nd)) (r : List Nd), (∀ q ∈ rs, q.length ≤ m) → (rs.foldl (jn 15) r).length ≤ r.length + (m + 1) * rs.length
  | [], r, _ => by simp
  | a :: rs, r, h => by
    have h1 := chF_len rs (jn 15 r a) (fun q hq => h q (by simp [hq]))
    have h2 := h a (by simp)
    rw [jn_len] at h1
    rw [List.foldl_cons, List.length_cons, Nat.mul_add]
    omega
theorem termInfo : (Tryz.prog.info? 29).map (fun i => (i.zero, i.size, i.bytes)) = some (some (.agg #[.slice none 0 0]), 1, 24) := by kernel_rfl
/-- A list of terms that the call collects by append. -/
def LT (w : World) (B : Nat) (v : Value) (rows : List (List Nd)) : Prop :=
  ∃ hs : List Value, w.ownsRow B 29 1 v rows.length hs ∧ ∀ (j : Nat) (r : List Nd), rows[j]? = some r → ∃ A c, hs[j]? = some (.slice A r.length c) ∧ RdS EN w A r ∧ ∀ a : Addr, A = some a → v.ownBlock ≠ some a.block ∧ a.block < w.heap.size
theorem LT.nil (w : World) (B : Nat) : LT w B (.slice none 0 0) [] := ⟨[], World.ownsRow_nil w B _ 1, fun j r h => by simp at h⟩
theorem LT.lt {w : World} {B : Nat} {v : Value} {rows : List (List Nd)} (h : LT w B v rows) : ∀ k, v.ownBlock = some k → B ≤ k ∧ k < w.heap.size := by
  obtain ⟨hs, h1, _⟩ := h
  exact World.ownsRow.lt h1
theorem LT.ex {w w' : World} {B : Nat} {v : Value} {rows : List (List Nd)} (h : LT w B v rows) (he : Ex w w') : LT w' B v rows := by
  obtain ⟨hs, ⟨h1, h2⟩, h3⟩ := h
  refine ⟨hs, ⟨h1, ?_⟩, fun j r hj => ?_⟩
  · rcases h2 with h2 | ⟨g, cap, cur, hv, hB, hh, r⟩
    · exact .inl h2
    · exact .inr ⟨g, cap, cur, hv, hB, (he.block (heap_lt_of hh)).trans hh, r⟩
  · obtain ⟨A, c, q1, q2, q3⟩ := h3 j r hj
    have := he.size
    exact ⟨A, c, q1, q2.ex he, fun a e => ⟨(q3 a e).1, by have := (q3 a e).2; omega⟩⟩
theorem LT.form {w : World} {B : Nat} {v : Value} {rows : List (List Nd)} (h : LT w B v rows) : ∃ A c, v = .slice A rows.length c := by
  obtain ⟨hs, h1, _⟩ := h
  rcases h1.2 with ⟨e, hn⟩ | ⟨g, cap, cur, e, _⟩
  · exact ⟨none, 0, by rw [e, hn]⟩
  · exact ⟨_, cap, e⟩
theorem LT.push {w : World} {B : Nat} {v : Value} {rows : List (List Nd)} (h : LT w B v rows) {A : Option Addr} {c : Nat} {r : List Nd} (hr : RdS EN w A r) (ha : ∀ a : Addr, A = some a → v.ownBlock ≠ some a.block ∧ a.block < w.heap.size) (hB : B ≤ w.heap.size) (hl : rows.length + 1 ≤ 1000) :
    ∃ v' w', (Builtin.append_ #[68, 68] 68 #[v, .slice (some ⟨w.heap.size, 0, none⟩) 1 1]).run Tryz.prog (w.alloc (.cells #[.slice A r.length c] 29)) = .ok v' w' ∧
      LT w' B v' (rows ++ [r]) ∧ ExO v.ownBlock w w' ∧ (v'.ownBlock = v.ownBlock ∨ ∃ q, v'.ownBlock = some q ∧ w.heap.size ≤ q) := by
  have hx := (Ex.refl w).alloc (.cells #[.slice A r.length c] 29)
  have hsz := hx.size
  obtain ⟨hs, ho, h3⟩ := h.ex hx
  have hnl : hs.length = rows.length := by have := ho.1; omega
  obtain ⟨i, hi, hz, hs1, hb1⟩ := info_parts termInfo
  obtain ⟨v', w', hrun, hown', hg, _, hob⟩ := run_append_own_at (P := Tryz.prog) (w.alloc (.cells #[.slice A r.length c] 29)) B 68 68 29 i (.agg #[.slice none 0 0]) 1 24 Tryz.underlying68 hi hz hs1 hb1 rfl (by omega) v rows.length hs ho ⟨w.heap.size, 0, none⟩ 1 1 [.slice A r.length c] (by simp)
    (fun j u hj => World.news_of_block (heap_alloc_new w _) j u hj) (fun u hu => by simp at hu; subst hu; rfl) (by unfold maxLen; omega) (by omega) (by omega)
  have hgs := hg.size
  have key : ∀ (A2 : Option Addr) (q : List Nd), RdS EN (w.alloc (.cells #[.slice A r.length c] 29)) A2 q → (∀ a : Addr, A2 = some a → v.ownBlock ≠ some a.block ∧ a.block < (w.alloc (.cells #[.slice A r.length c] 29)).heap.size) → RdS EN w' A2 q ∧ ∀ a : Addr, A2 = some a → v'.ownBlock ≠ some a.block ∧ a.block < w'.heap.size := fun A2 q hq hqa => by
    refine ⟨hq.n_keep fun _ a e hl => hg.block _ hl (fun e2 => (hqa a e).1 e2.symm), fun a e => ⟨?_, by have := (hqa a e).2; omega⟩⟩
    rcases hob with e1 | e1
    · rw [e1]; exact (hqa a e).1
    · rw [e1]; intro e2; injection e2 with e2; have := (hqa a e).2; omega
  refine ⟨v', w', hrun, ⟨hs ++ [.slice A r.length c], by rw [List.length_append]; exact hown', fun j q hq => ?_⟩, (ExO.of_ex hx).trans hg, hob.imp id (fun e => ⟨_, e, hsz⟩)⟩
  by_cases e : j < rows.length
  · rw [List.getElem?_append_left e] at hq
    obtain ⟨A2, c2, q1, q2, q3⟩ := h3 j q hq
    exact ⟨A2, c2, by rw [List.getElem?_append_left (by omega)]; exact q1, key A2 q q2 q3⟩
  · have hjl := (List.getElem?_eq_some_iff.1 hq).1
    rw [List.length_append, List.length_singleton] at hjl
    have e2 : j = rows.length := by omega
    subst e2
    rw [List.getElem?_append_right (Nat.le_refl _), Nat.sub_self] at hq
    injection hq with hq
    subst hq
    exact ⟨A, c, by rw [List.getElem?_append_right (by omega), hnl, Nat.sub_self]; rfl, key A r (hr.ex hx) (fun a e => ⟨(ha a e).1, by have := (ha a e).2; omega⟩)⟩
/-- The list's block holds terms: it is none that holds something else. -/
theorem LT.ne_tag {w : World} {B : Nat} {v : Value} {rows : List (List Nd)} (h : LT w B v rows) {g : Nat} {ty : TypeId} {cs : Array Value} (hv : w.heap[g]? = some (.cells cs ty (0, 0))) (hn : ty ≠ 29) : v.ownBlock ≠ some g := by
  obtain ⟨hs, h1, _⟩ := h
  rcases h1.2 with ⟨rfl, _⟩ | ⟨g', cap, cur, rfl, _, hh, _⟩
  · intro e; cases e
  · intro e
    have e : g' = g := Option.some.inj e
    subst e
    rw [hh] at hv
    injection hv with hv
    injection hv with _ hv _
    exact hn hv.symm
theorem LT.app0 {w : World} {B : Nat} {v : Value} {rows : List (List Nd)} (h : LT w B v rows) : (Builtin.append_ #[68, 68] 68 #[v, .slice none 0 0]).run Tryz.prog w = .ok v w := by
  obtain ⟨hs, h1, _⟩ := h
  obtain ⟨i, hi, hz, hs1, hb1⟩ := info_parts termInfo
  rcases h1.2 with ⟨rfl, _⟩ | ⟨g, cap, cur, rfl, _, _, hnc, _⟩
  · simp [Builtin.append_, run_underlying Tryz.underlying68, sizeOf, typeInfo, hi, Builtin.lenOf, Builtin.firstCells]
  · simp [Builtin.append_, run_underlying Tryz.underlying68, sizeOf, typeInfo, hi, Builtin.lenOf, Builtin.firstCells, hnc, storeCells]
theorem LT.rd {w : World} {B : Nat} {v : Value} {rows : List (List Nd)} (h : LT w B v rows) (hl : rows.length ≤ 1000) : ∃ A c, v = .slice A rows.length c ∧ RdS ENN w A rows ∧ rows.length ≤ c := by
  obtain ⟨hs, ⟨h1, h2⟩, h3⟩ := h
  rcases h2 with ⟨hv, hn⟩ | ⟨g, cap, cur, hv, hB, hh, hnc, _, _, ht⟩
  · have : rows = [] := List.eq_nil_of_length_eq_zero hn
    subst this
    exact ⟨none, 0, hv, ⟨by simp, fun j r hj => by simp at hj⟩, Nat.le_refl _⟩
  · refine ⟨_, cap, hv, ⟨by omega, fun j r hj => ?_⟩, hnc⟩
    obtain ⟨A, c, q1, q2, _⟩ := h3 j r hj
    refine ⟨g, 0, [.slice A r.length c], rfl, fun i u hu => ?_, A, c, rfl, q2⟩
    have : (cur.toList.take (rows.length * 1))[j]? = some (.slice A r.length c) := by rw [ht]; exact q1
    rw [List.getElem?_take] at this
    cases i with
    | succ i => simp at hu
    | zero =>
      simp at hu
      subst hu
      split at this
      · show w.cell? ⟨g, 0 + j * 1 + 0, none⟩ = _
        rw [Nat.zero_add, Nat.mul_one, Nat.add_zero]
        exact cell_of_cur hh (by simpa using this)
      · cases this
set_option maxHeartbeats 2000000 in
theorem tmChain_c (A : Option Addr) (c : Nat) (rows : List (List Nd)) (w : World) (h : RdS ENN w A rows) (hr0 : rows ≠ []) (hrl : rows.length ≤ 1000) (hm : ∀ r ∈ rows, r.length ≤ 1000000) (hcl : rows.length ≤ c) :
    Calls Tryz.prog 46 #[.slice A rows.length c, .int .i64 15] w fun e w' => ∃ F fc, e = .returned (.agg #[.slice F (chF rows).length fc]) ∧ RdS EN w' F (chF rows) ∧ Ex w w' := by
  obtain ⟨r0, rs, rfl⟩ : ∃ r rs, rows = r :: rs := by
    cases rows with
    | nil => exact absurd rfl hr0
    | cons r rs => exact ⟨r, rs, rfl⟩
  have HM := Lib.hid hm
  obtain ⟨N, hN⟩ : ∃ N, rs.length = N := ⟨_, rfl⟩
  have HN := Lib.hid hN
  have HB := Lib.hid (show ∀ k, ((rs.take k).foldl (jn 15) r0).length ≤ 2000000000 from fun k => by
    have h1 := chF_len (m := 1000000) (rs.take k) r0 (fun q hq => hm q (by simp [List.mem_of_mem_take hq]))
    have h2 := hm r0 (by simp)
    have h3 : (rs.take k).length ≤ 1000 := by rw [List.length_take]; simp at hrl; omega
    have h4 : (1000000 + 1) * (rs.take k).length ≤ (1000000 + 1) * 1000 := Nat.mul_le_mul_left _ h3
    omega)
  obtain ⟨g, off, r, P, pc, rfl, hr, c0, hP⟩ := h.nodes (j := 0) (by simp)
  obtain rfl : r0 = r := by simpa using hr
  have x0 := (Ex.refl w).alloc (.cells #[.slice none 0 0] 29)
  have v0 := VB.new w 29 #[.slice none 0 0]
  obtain ⟨W0, hW0⟩ : ∃ W, w.alloc (.cells #[.slice none 0 0] 29) = W := ⟨_, rfl⟩
  have s0 : W0.heap.size = w.heap.size + 1 := by rw [← hW0]; simp
  rw [hW0] at x0 v0
  have c1 := cell_ex x0 c0
  rw [Nat.add_zero] at c1
  obtain ⟨m0, hm0⟩ : ∃ m, r0.length = m := ⟨_, rfl⟩
  have HM0 := Lib.hid hm0
  rw [hm0] at c1
  have x1 := (Ex.refl W0).alloc (.cells #[.slice P m0 pc] 29)
  have v1 := VB.new W0 29 #[.slice P m0 pc]
  obtain ⟨W1, hW1⟩ : ∃ W, W0.alloc (.cells #[.slice P m0 pc] 29) = W := ⟨_, rfl⟩
  have s1 : W1.heap.size = w.heap.size + 1 + 1 := by rw [← hW1]; simp [s0]
  rw [hW1] at x1 v1
  rw [s0] at v1
  have X1 := x0.trans x1
  have V0 := v0.ex x1
  have hP1 := hP.ex X1
  have H := Lib.hid h
  rw [List.length_cons, hN] at hcl ⊢
  have hc1 : 1 ≤ c := by omega
  have hwn : IntKind.i64.wrap (((N + 1 : Nat) : Int) - 1) = (N : Int) := by simp at hrl; rw [IntWalk.i64_in _ (by omega)]; omega
  have hN1 : 1 ≤ N + 1 := by omega
  have hNb : N ≤ 1000 := by have := HN.out; simp at hrl; omega
  clear hr hm0 hN h c0 hP x0 x1 v0 hm
  by_cases hc : c = 1
  · subst hc
    obtain rfl : N = 0 := by omega
    go_enter Tryz.func46, Tryz.ntmps46
    go_wp2_with fail
    go_loopw [14] (fun s14 wr => ∃ (k : Nat) (Y : Option Addr) (yc m : Nat), k ≤ 0 ∧ s14 = .int .i64 k ∧ Hid (((rs.take k).foldl (jn 15) r0).length = m) ∧ RdS EN wr Y ((rs.take k).foldl (jn 15) r0) ∧ VB wr (w.heap.size + 1) 29 #[.slice Y m yc] ∧ VB wr w.heap.size 29 #[.slice none 0 0] ∧ Ex w wr) (fun s14 _ => 0 - (intOf s14).toNat)
    case atStart => exact ⟨0, P, pc, m0, Nat.zero_le _, rfl, HM0, hP1, v1, V0, X1⟩
    case round =>
      clear v1 V0 X1 hP1 c1
      obtain ⟨k, Y, yc, m, hk, rfl, HMm, hY, hv1, hv0, he⟩ := hrel
      by_cases hlt : k < 0
      · omega
      · have hkN := Lib.hid (show k = 0 by omega)
        have HF := Lib.hid (show chF (r0 :: rs) = (rs.take k).foldl (jn 15) r0 by rw [show rs.take k = rs from List.take_of_length_le (by have := HN.out; have := hkN.out; omega)]; rfl)
        have p0 := hv1.cell 0 (v := .slice Y m yc) rfl
        have r0' := hv0.cell 0 (v := .slice none 0 0) rfl
        have f0 := hv0.frozen 0
        have C0 := (hv0.set_ 0 (.slice Y m yc)).cell 0 (v := .slice Y m yc) rfl
        have E4 : Ex1 w.heap.size wr (wr.setCell ⟨w.heap.size, 0, none⟩ (.slice Y m yc)) := (Ex1.refl _ _).setCell (p := ⟨w.heap.size, 0, none⟩) rfl _
        have R4 := hY.n_vb hv0 (fun i e => by cases e) E4
        have X4 := he.ex1 E4 (Nat.le_refl _)
        go_wp2_with fail
        refine bodyPost_ret (v := .agg #[.slice Y m yc]) (by simp [results, Tryz.results46, go_sem, C0]) rfl ?_
        rw [HF.out]
        exact ⟨Y, yc, by rw [HMm.out], R4, X4⟩

  · have hcc : ¬ (c = 1) := hc
    go_enter Tryz.func46, Tryz.ntmps46
    go_wp2_with fail
    go_loopw [14] (fun s14 wr => ∃ (k : Nat) (Y : Option Addr) (yc m : Nat), k ≤ N ∧ s14 = .int .i64 k ∧ Hid (((rs.take k).foldl (jn 15) r0).length = m) ∧ RdS EN wr Y ((rs.take k).foldl (jn 15) r0) ∧ VB wr (w.heap.size + 1) 29 #[.slice Y m yc] ∧ VB wr w.heap.size 29 #[.slice none 0 0] ∧ Ex w wr) (fun s14 _ => N - (intOf s14).toNat)
    case atStart => exact ⟨0, P, pc, m0, Nat.zero_le _, rfl, HM0, hP1, v1, V0, X1⟩
    case round =>
      clear v1 V0 X1 hP1 c1
      obtain ⟨k, Y, yc, m, hk, rfl, HMm, hY, hv1, hv0, he⟩ := hrel
      by_cases hlt : k < N
      · obtain ⟨g2, off2, r, R, rc, eA, hr, d0, hR⟩ := (H.out.ex he).nodes (j := k + 1) (by rw [List.length_cons, HN.out]; omega)
        injection eA with eA
        injection eA with eA1 eA2
        subst eA1 eA2
        have hrk : rs[k]? = some r := by simpa using hr
        have HST := Lib.hid (show (rs.take (k + 1)).foldl (jn 15) r0 = jn 15 ((rs.take k).foldl (jn 15) r0) r by rw [List.take_add_one, hrk, Option.toList_some, List.foldl_append]; rfl)
        have HB1 := HB.out k
        have hrm := HM.out r (by simp [List.mem_of_getElem? hrk])
        have d1 : wr.cell? ⟨g, off + 1 + k, none⟩ = some (.slice R r.length rc) := by rw [show off + 1 + k = off + (k + 1) by omega]; exact d0
        have y2 := (Ex.refl wr).alloc (.cells #[.slice R r.length rc] 29)
        have b2 := VB.new wr 29 #[.slice R r.length rc]
        obtain ⟨W2, hW2⟩ : ∃ W, wr.alloc (.cells #[.slice R r.length rc] 29) = W := ⟨_, rfl⟩
        rw [hW2] at y2 b2
        have p0 := (hv1.ex y2).cell 0 (v := .slice Y m yc) rfl
        have p1 := b2.cell 0 (v := .slice R r.length rc) rfl
        have hj := tmJoin_c ((rs.take k).foldl (jn 15) r0) r Y R yc rc 15 W2 (hY.ex y2) (hR.ex y2) (by omega) (by omega)
        rw [HMm.out] at hj
        clear hr d0 hrk
        go_wp2_with fail
        refine hj.mono ?_
        clear hj
        rintro e w3 ⟨A3, c3, rfl, n3, x3⟩
        rw [← HST.out] at n3 ⊢
        have hB3 := HB.out (k + 1)
        have R3 := n3.rdx (by omega)
        obtain ⟨m3, hm3⟩ : ∃ m, ((rs.take (k + 1)).foldl (jn 15) r0).length = m := ⟨_, rfl⟩
        have HM3 := Lib.hid hm3
        rw [hm3] at n3 ⊢
        clear hm3
        have V3 := (hv1.ex y2).ex x3
        have q0 := V3.cell 0 (v := .slice Y m yc) rfl
        have f0 := V3.frozen 0
        have E4 : Ex1 (w.heap.size + 1) w3 (w3.setCell ⟨w.heap.size + 1, 0, none⟩ (.slice A3 m3 c3)) := (Ex1.refl _ _).setCell (p := ⟨w.heap.size + 1, 0, none⟩) rfl _
        have V4 := V3.set_ 0 (.slice A3 m3 c3)
        have R4 := R3.n_vb V3 (fun i e => by cases e) E4
        have V04 := ((hv0.ex y2).ex x3).ex1 E4 (by omega)
        have X4 := ((he.trans y2).trans x3).ex1 E4 (by omega)
        go_wp2_with fail
        go_roundw
        case rel => exact ⟨k + 1, A3, c3, m3, by omega, by go_num, HM3, R4, V4, V04, X4⟩
        case measure => simp [intOf]; omega
      · have hkN := Lib.hid (show k = N by omega)
        have HF := Lib.hid (show chF (r0 :: rs) = (rs.take k).foldl (jn 15) r0 by rw [show rs.take k = rs from List.take_of_length_le (by have := HN.out; have := hkN.out; omega)]; rfl)
        have p0 := hv1.cell 0 (v := .slice Y m yc) rfl
        have r0' := hv0.cell 0 (v := .slice none 0 0) rfl
        have f0 := hv0.frozen 0
        have C0 := (hv0.set_ 0 (.slice Y m yc)).cell 0 (v := .slice Y m yc) rfl
        have E4 : Ex1 w.heap.size wr (wr.setCell ⟨w.heap.size, 0, none⟩ (.slice Y m yc)) := (Ex1.refl _ _).setCell (p := ⟨w.heap.size, 0, none⟩) rfl _
        have R4 := hY.n_vb hv0 (fun i e => by cases e) E4
        have X4 := he.ex1 E4 (Nat.le_refl _)
        go_wp2_with fail
        refine bodyPost_ret (v := .agg #[.slice Y m yc]) (by simp [results, Tryz.results46, go_sem, C0]) rfl ?_
        rw [HF.out]
        exact ⟨Y, yc, by rw [HMm.out], R4, X4⟩

end Go.Proofs.YtphdcgimibnajaaGreat
namespace Go.Proofs.YtphdcgimibnajaaGreat
set_option maxRecDepth 100000
open Go Go.RowKit
theorem occursOnce_c (n : Nat) (L : Option Addr) (lc : Nat) (rows : List (List Int)) (w : World) (h : RdM w L rows) (hn : n ≤ 1000) (ht : rows.flatten.length ≤ 1099511627776) :
    Calls Tryz.prog 86 #[.int .i64 n, .slice L rows.length lc] w fun e w' => e = .returned (.bool (permB n rows.flatten)) ∧ Ex w w' := by
  have hj := joined_c L lc rows w h ht
  go_enter Tryz.func86, Tryz.ntmps86
  go_wp2_with fail
  refine hj.mono ?_
  rintro e w1 ⟨v, rfl, ⟨O, oc, rfl, fo⟩, x1⟩
  clear hj ht
  obtain ⟨fl, hfl⟩ : ∃ fl, rows.flatten = fl := ⟨_, rfl⟩
  have HF := Lib.hid hfl
  rw [hfl] at fo ⊢
  clear hfl
  go_wp2_with fail
  refine (isPermutation_c O oc fl n w1 fo.rd hn).mono ?_
  rintro e w2 ⟨rfl, x2⟩
  go_wp2
  go_ret
  exact ⟨ret_bool (by rw [HF.out]), x1.trans x2⟩
theorem validB_no_mono {x : Gr} (h : validB x = false) : (validB x && monoB x) = false := by rw [h]; rfl
theorem validB_yes_mono {x : Gr} (h : validB x = true) : (validB x && monoB x) = monoB x := by rw [h]; rfl
theorem validB_dims {x : Gr} (h : validB x = true) : 0 ≤ x.wires ∧ x.wires ≤ 100 ∧ x.es.length ≤ 60 ∧ x.ins.length ≤ 12 ∧ x.outs.length ≤ 12 ∧ (∀ e ∈ x.es, edK e = true) ∧ (∀ k ∈ x.ins, 0 ≤ k ∧ k ≤ x.wires - 1) ∧ (∀ k ∈ x.outs, 0 ≤ k ∧ k ≤ x.wires - 1) ∧ ∀ e ∈ x.es, (∀ k ∈ e.ins, 0 ≤ k ∧ k ≤ x.wires - 1) ∧ ∀ k ∈ e.outs, 0 ≤ k ∧ k ≤ x.wires - 1 := by
  simp only [validB, Bool.and_eq_true] at h
  obtain ⟨⟨⟨⟨hd, hi⟩, ho⟩, he⟩, _⟩ := h
  simp only [dimB, Bool.and_eq_true, decide_eq_true_eq] at hd
  have hw := inB_bd hd.1.1.1
  exact ⟨hw.1, hw.2, hd.1.1.2, hd.1.2, hd.2, fun e h => (edRK he h).1, fun k hk => all_bd hi hk, fun k hk => all_bd ho hk, fun e h => (edRK he h).2⟩
theorem two_lr {w w1 : World} {B : Nat} (y : Ex w w1) (hB : B ≤ w1.heap.size) {A : Option Addr} {c : Nat} {r : List Int} (hr : Rd w A r) {A' : Option Addr} {c' : Nat} {r' : List Int} (hr' : Rd w A' r') :
    LR w (((w1.alloc (.cells #[.slice A r.length c] 23)).alloc (.cells #[.slice A' r'.length c'] 23)).drew) B (.slice (some ⟨w1.heap.size, 0, none⟩) 1 1) [r] ∧ LR w (((w1.alloc (.cells #[.slice A r.length c] 23)).alloc (.cells #[.slice A' r'.length c'] 23)).drew) B (.slice (some ⟨w1.heap.size + 1, 0, none⟩) 1 1) [r'] := by
  have hs : (w1.alloc (.cells #[.slice A r.length c] 23)).heap.size = w1.heap.size + 1 := by simp
  have h1 := LR.one w w1 (c := c) hr hB
  have h2 := LR.one w (w1.alloc (.cells #[.slice A r.length c] 23)) (B := B) (c := c') hr' (by omega)
  rw [hs] at h2
  exact ⟨h1.ex (((Ex.refl _).alloc _).drew), h2.ex ((Ex.refl _).drew)⟩
set_option maxHeartbeats 4000000 in
theorem isMonogamous_c (x : Gr) (E : Option Addr) (ec : Nat) (I : Option Addr) (ic : Nat) (O : Option Addr) (oc : Nat) (w : World) (hE : RdS EE w E x.es) (hI : Rd w I x.ins) (hO : Rd w O x.outs) :
    Calls Tryz.prog 49 #[.agg #[.int .i64 x.wires, .slice E x.es.length ec, .slice I x.ins.length ic, .slice O x.outs.length oc]] w fun e w' => e = .returned (.bool (validB x && monoB x)) ∧ Ex w w' := by
  have hEl := hE.1
  have hIl := hI.len
  have hOl := hO.len
  have x0 := (Ex.refl w).alloc (.cells #[.int .i64 x.wires, .slice E x.es.length ec, .slice I x.ins.length ic, .slice O x.outs.length oc] 34)
  have d0 := VB.new w 34 #[.int .i64 x.wires, .slice E x.es.length ec, .slice I x.ins.length ic, .slice O x.outs.length oc]
  go_enter Tryz.func49, Tryz.ntmps49
  go_wp2_with fail
  generalize w.alloc (.cells #[.int .i64 x.wires, .slice E x.es.length ec, .slice I x.ins.length ic, .slice O x.outs.length oc] 34) = W0 at *
  refine (isGraph_c x E ec I ic O oc W0 (hE.ex x0) (hI.ex x0) (hO.ex x0)).mono ?_
  rintro e w1 ⟨rfl, x1⟩
  have d1 := d0.ex x1
  have y1 := x0.trans x1
  clear d0 x0 x1
  cases hb : validB x with
  | false =>
    have H := Lib.hid (validB_no_mono hb)
    clear hb
    go_wp2
    go_ret
    exact ⟨ret_bool H.out.symm, y1⟩
  | true =>
    have H := Lib.hid (validB_yes_mono hb)
    obtain ⟨hw0, hw1, hes, hin, hout, hk, _⟩ := validB_dims hb
    have Hk := Lib.hid hk
    clear hb hk
    have q2 := d1.cell 2 (v := .slice I x.ins.length ic) rfl
    have q3 := d1.cell 3 (v := .slice O x.outs.length oc) rfl
    have hz : w.heap.size + 1 ≤ w1.heap.size := d1.lt
    go_wp2_with fail
    go_cut [3, 4] from 10 (fun s3 s4 W => LR w W (w.heap.size + 1) s3 [x.ins] ∧ LR w W (w.heap.size + 1) s4 [x.outs] ∧ (∀ b, s3.ownBlock = some b → s4.ownBlock ≠ some b) ∧ VB W w.heap.size 34 #[.int .i64 x.wires, .slice E x.es.length ec, .slice I x.ins.length ic, .slice O x.outs.length oc] ∧ Ex w W)
    case first =>
      have r2 := cell_ex ((Ex.refl w1).alloc (.cells #[.slice O x.outs.length oc] 23)) q2
      have r3 := cell_ex ((Ex.refl w1).alloc (.cells #[.slice I x.ins.length ic] 23)) q3
      go_region
      all_goals (go_wp2_with fail)
      all_goals go_meet
      · exact ⟨(two_lr y1 hz hI hO).1, (two_lr y1 hz hI hO).2, (fun b e e2 => by injection e with e; injection e2 with e2; simp only at e e2; omega), (((d1.ex ((Ex.refl w1).alloc _)).ex ((Ex.refl _).alloc _)).drew), ((y1.alloc _).alloc _).drew⟩
      · exact ⟨(two_lr y1 hz hO hI).2, (two_lr y1 hz hO hI).1, (fun b e e2 => by injection e with e; injection e2 with e2; simp only at e e2; omega), (((d1.ex ((Ex.refl w1).alloc _)).ex ((Ex.refl _).alloc _)).drew), ((y1.alloc _).alloc _).drew⟩
    case rest =>
      obtain ⟨hLo, hLd, hne, hd, he⟩ := hcut
      clear d1 y1 q2 q3
      have q1 := hd.cell 1 (v := .slice E x.es.length ec) rfl
      go_wp2_with fail
      clear q1
      go_loopw [3, 4, 19] (fun o d i wr => ∃ k : Nat, k ≤ x.es.length ∧ i = .int .i64 k ∧ LR w wr (w.heap.size + 1) o (x.ins :: (x.es.take k).map (fun e : Ed => e.outs)) ∧ LR w wr (w.heap.size + 1) d (x.outs :: (x.es.take k).map (fun e : Ed => e.ins)) ∧ (∀ b, o.ownBlock = some b → d.ownBlock ≠ some b) ∧ VB wr w.heap.size 34 #[.int .i64 x.wires, .slice E x.es.length ec, .slice I x.ins.length ic, .slice O x.outs.length oc] ∧ Ex w wr) (fun _ _ i _ => x.es.length - (intOf i).toNat)
      case atStart => exact ⟨0, Nat.zero_le _, rfl, hLo, hLd, hne, hd, he⟩
      case round =>
        clear hLo hLd hne hd he
        obtain ⟨k, hk, rfl, hLo, hLd, hne, hd, he⟩ := hrel
        by_cases hlt : k < x.es.length
        · obtain ⟨g, off, e, P, pc, Q, qc, rfl, hx, c0, c1, c2, c3, hP, hQ⟩ := hE.edge hlt
          replace c0 := cell_ex he c0
          replace c1 := cell_ex he c1
          replace c2 := cell_ex he c2
          replace c3 := cell_ex he c3
          have y3 := (Ex.refl wr).alloc (.cells #[.int .i64 e.kd, .int .i64 e.vl, .slice P e.ins.length pc, .slice Q e.outs.length qc] 69)
          have v3 := VB.new wr 69 #[.int .i64 e.kd, .int .i64 e.vl, .slice P e.ins.length pc, .slice Q e.outs.length qc]
          have HO := Lib.hid (show (x.ins :: (x.es.take k).map (fun e : Ed => e.outs)) ++ [e.outs] = x.ins :: (x.es.take (k + 1)).map (fun e : Ed => e.outs) by rw [List.take_add_one, hx]; simp)
          have HD := Lib.hid (show (x.outs :: (x.es.take k).map (fun e : Ed => e.ins)) ++ [e.ins] = x.outs :: (x.es.take (k + 1)).map (fun e : Ed => e.ins) by rw [List.take_add_one, hx]; simp)
          have hlo : (x.ins :: (x.es.take k).map (fun e : Ed => e.outs)).length ≤ 61 := by simp; omega
          have hld : (x.outs :: (x.es.take k).map (fun e : Ed => e.ins)).length ≤ 61 := by simp; omega
          have hsz := he.size
          have z3 := y3.size
          clear hx
          generalize (x.ins :: (x.es.take k).map (fun e : Ed => e.outs)) = ro at *
          generalize (x.outs :: (x.es.take k).map (fun e : Ed => e.ins)) = rd at *
          have S3 : (wr.alloc (.cells #[.int .i64 e.kd, .int .i64 e.vl, .slice P e.ins.length pc, .slice Q e.outs.length qc] 69)).heap.size = wr.heap.size + 1 := by simp
          have hLo3 := hLo.ex y3
          have hLd3 := hLd.ex y3
          have hlo3 := hLo.lt
          have hld3 := hLd.lt
          obtain ⟨o', w4, hrun4, hLo4, hE4, ho4⟩ := hLo3.push (c := qc) hQ (by omega) (by omega)
          rw [S3] at hrun4 ho4
          have hLd4 := hLd3.exo hE4 hne
          have hs4 := hE4.size
          have v4 : VB w4 wr.heap.size 69 #[.int .i64 e.kd, .int .i64 e.vl, .slice P e.ins.length pc, .slice Q e.outs.length qc] := (hE4.block _ v3.lt (fun e => by have := (hlo3 _ e.symm).2; omega)).trans v3
          have k2 := v4.cell 2 (v := .slice P e.ins.length pc) rfl
          obtain ⟨d', w5, hrun5, hLd5, hE5, hd5⟩ := hLd4.push (c := pc) hP (by omega) (by omega)
          have hLo5 := hLo4.exo hE5 (fun g e e2 => by
            rcases ho4 with h | ⟨q, h, hq⟩
            · rw [h] at e2; exact hne g e2 e
            · rw [h] at e2; injection e2 with e2; have := (hld3 g e).2; omega)
          have hne5 : ∀ b, o'.ownBlock = some b → d'.ownBlock ≠ some b := fun b e e2 => by
            have hb4 := (hLo4.lt b e).2
            rcases hd5 with h | ⟨q, h, hq⟩
            · rw [h] at e2
              rcases ho4 with h4 | ⟨q, h4, hq⟩
              · rw [h4] at e; exact hne b e e2
              · rw [h4] at e; injection e with e; have := (hld3 b e2).2; omega
            · rw [h] at e2; injection e2 with e2; omega
          have he5 := ((he.trans y3).exo hE4 (fun g e => Nat.le_of_succ_le (hlo3 g e).1)).exo hE5 (fun g e => Nat.le_of_succ_le (hld3 g e).1)
          have hd5' : VB w5 w.heap.size 34 #[.int .i64 x.wires, .slice (some ⟨g, off, none⟩) x.es.length ec, .slice I x.ins.length ic, .slice O x.outs.length oc] := by
            have h1 := hd.ex y3
            have hw := hd.lt
            have h2 := (hE4.block _ h1.lt (fun e => by have := (hlo3 _ e.symm).1; omega)).trans h1
            exact (hE5.block _ (by omega) (fun e => by have := (hld3 _ e.symm).1; omega)).trans h2
          rw [HO.out] at hLo5
          rw [HD.out] at hLd5
          clear hLo hLd hLo3 hLd3 hLo4 hLd4 hd he hE4 hE5 hlo3 hld3 ho4 hd5 y3 v3 v4
          go_wp2_with (first | (at_builtin; refine wpList_append_run rfl _ _ _ rfl rfl rfl hrun4 ?_) | (at_builtin; refine wpList_append_run rfl _ _ _ rfl rfl rfl hrun5 ?_))
          go_roundw
          case rel => exact ⟨k + 1, by omega, by go_num, hLo5, hLd5, hne5, hd5', he5⟩
          case measure => simp [intOf]; omega
        · obtain rfl : k = x.es.length := by omega
          rw [List.take_length] at hLo hLd
          have hlo : (x.ins :: x.es.map (fun e : Ed => e.outs)).length ≤ 61 := by simp; omega
          have hld : (x.outs :: x.es.map (fun e : Ed => e.ins)).length ≤ 61 := by simp; omega
          obtain ⟨LA, lac, rfl, rmO⟩ := hLo.rdm he (by omega)
          obtain ⟨LD, ldc, rfl, rmD⟩ := hLd.rdm he (by omega)
          have q0 := hd.cell 0 (v := .int .i64 x.wires) rfl
          have eO : (x.ins :: x.es.map (fun e : Ed => e.outs)).flatten = frL x := by simp [frL, outsL, List.flatMap]
          have eD : (x.outs :: x.es.map (fun e : Ed => e.ins)).flatten = toWL x := by simp [toWL, insL, List.flatMap]
          have bO : (x.ins :: x.es.map (fun e : Ed => e.outs)).flatten.length ≤ 1099511627776 := by
            rw [eO, frL, List.length_append]
            have := outsL_len (es := x.es) Hk.out
            omega
          have bD : (x.outs :: x.es.map (fun e : Ed => e.ins)).flatten.length ≤ 1099511627776 := by
            rw [eD, toWL, List.length_append]
            have := insL_len (es := x.es) Hk.out
            omega
          obtain ⟨n, hn⟩ := Int.eq_ofNat_of_zero_le hw0
          have HM := Lib.hid (show (validB x && monoB x) = (permB n (x.ins :: x.es.map (fun e : Ed => e.outs)).flatten && permB n (x.outs :: x.es.map (fun e : Ed => e.ins)).flatten) by rw [H.out, eO, eD, monoB, hn]; rfl)
          rw [hn] at q0 hw1
          have hcO := fun W (y : Ex wr W) => occursOnce_c n LA lac _ W (rmO.ex y) (by omega) bO
          have hcD := fun W (y : Ex wr W) => occursOnce_c n LD ldc _ W (rmD.ex y) (by omega) bD
          clear eO eD bO bD
          generalize (x.ins :: x.es.map (fun e : Ed => e.outs)) = ro at *
          generalize (x.outs :: x.es.map (fun e : Ed => e.ins)) = rd at *
          clear hLo hLd rmO rmD hn
          go_wp2_with fail
          refine (hcO _ (Ex.refl wr)).mono ?_
          rintro e w6 ⟨rfl, x6⟩
          have he6 := he.trans x6
          have q6 := cell_ex x6 q0
          obtain ⟨b1, hb1⟩ : ∃ b, permB n ro.flatten = b := ⟨_, rfl⟩
          have HM1 := HM.out
          rw [hb1] at HM1 ⊢
          have HM1 := Lib.hid HM1
          clear hb1
          cases b1 with
          | false =>
            go_wp2
            go_ret
            exact ⟨ret_bool HM1.out.symm, he6⟩
          | true =>
            go_wp2_with fail
            refine (hcD _ x6).mono ?_
            rintro e w7 ⟨rfl, x7⟩
            go_wp2
            go_ret
            exact ⟨ret_bool (by rw [HM1.out]; rfl), he6.trans x7⟩
end Go.Proofs.YtphdcgimibnajaaGreat
namespace Go.Proofs.YtphdcgimibnajaaGreat
set_option maxRecDepth 100000
open Go Go.RowKit
theorem AL.grown {w w' : World} {B : Nat} {u : Value} {r : List Int} {row : Option Nat} (h : AL w B u r) (hg : w.grownBy w' row) (hne : ∀ k, row = some k → u.ownBlock ≠ some k) : AL w' B u r := by
  obtain ⟨h1, h2⟩ := h
  refine ⟨h1, ?_⟩
  rcases h2 with h2 | ⟨g, cap, cur, hv, hB, hh, r⟩
  · exact .inl h2
  · exact .inr ⟨g, cap, cur, hv, hB, (hg.block g (heap_lt_of hh) (fun e => hne g e.symm (by rw [hv]; rfl))).trans hh, r⟩
/-- A list of lists of one's own, all from block B on; no two share a block. -/
def GR (w : World) (B : Nat) (v : Value) (vs : List Value) (rows : List (List Int)) : Prop :=
  w.ownsRow B 23 1 v rows.length vs ∧ (∀ (j : Nat) (u : Value) (r : List Int), vs[j]? = some u → rows[j]? = some r → AL w B u r) ∧ (∀ (j : Nat) (u : Value) (b : Nat), vs[j]? = some u → u.ownBlock = some b → v.ownBlock ≠ some b) ∧
    ∀ (i j : Nat) (u u' : Value) (b : Nat), i ≠ j → vs[i]? = some u → vs[j]? = some u' → u.ownBlock = some b → u'.ownBlock ≠ some b
theorem GR.len {w : World} {B : Nat} {v : Value} {vs : List Value} {rows : List (List Int)} (h : GR w B v vs rows) : vs.length = rows.length := by have := h.1.1; omega
theorem GR.nil (w : World) (B : Nat) : GR w B (.slice none 0 0) [] [] := ⟨World.ownsRow_nil w B _ 1, fun j u r h => by simp at h, fun j u b h => by simp at h, fun i j u u' b _ h => by simp at h⟩
theorem GR.empty (w : World) {B : Nat} (hB : B ≤ w.heap.size) : GR (w.alloc (.cells #[] 23)) B (.slice (some ⟨w.heap.size, 0, none⟩) 0 0) [] [] :=
  ⟨⟨rfl, .inr ⟨w.heap.size, 0, #[], rfl, hB, heap_alloc_new w _, Nat.le_refl _, Nat.zero_le _, rfl, rfl⟩⟩, fun j u r h => by simp at h, fun j u b h => by simp at h, fun i j u u' b _ h => by simp at h⟩
theorem ownsRow_exs {w w' : World} {B n s : Nat} {t : TypeId} {v : Value} {xs : List Value} (h : w.ownsRow B t s v n xs) (he : Ex w w') : w'.ownsRow B t s v n xs := by
  obtain ⟨h1, h2⟩ := h
  refine ⟨h1, ?_⟩
  rcases h2 with h2 | ⟨g, cap, cur, hv, hB, hh, r⟩
  · exact .inl h2
  · exact .inr ⟨g, cap, cur, hv, hB, (he.block (heap_lt_of hh)).trans hh, r⟩
theorem GR.ex {w w' : World} {B : Nat} {v : Value} {vs : List Value} {rows : List (List Int)} (h : GR w B v vs rows) (he : Ex w w') : GR w' B v vs rows := by
  obtain ⟨h1, h2, h3, h4⟩ := h
  exact ⟨ownsRow_exs h1 he, fun j u r a b => (h2 j u r a b).ex he, h3, h4⟩
theorem GR.form {w : World} {B : Nat} {v : Value} {vs : List Value} {rows : List (List Int)} (h : GR w B v vs rows) : ∃ A c, v = .slice A rows.length c := by
  rcases h.1.2 with ⟨hv, hn⟩ | ⟨g, cap, cur, hv, _⟩
  · exact ⟨none, 0, by rw [hv, hn]⟩
  · exact ⟨_, cap, hv⟩
/-- An empty row appended. -/
theorem GR.push {w : World} {B : Nat} {v : Value} {vs : List Value} {rows : List (List Int)} (h : GR w B v vs rows) (hB : B ≤ w.heap.size) (hl : rows.length + 1 ≤ 1099511627776) :
    ∃ v' w', (Builtin.append_ #[88, 88] 88 #[v, .slice (some ⟨w.heap.size, 0, none⟩) 1 1]).run Tryz.prog (w.alloc (.cells #[.slice none 0 0] 23)) = .ok v' w' ∧
      GR w' B v' (vs ++ [.slice none 0 0]) (rows ++ [[]]) ∧ ExI B w.heap.size w w' ∧ ExO v.ownBlock w w' ∧ (v'.ownBlock = v.ownBlock ∨ ∃ q, v'.ownBlock = some q ∧ w.heap.size ≤ q) := by
  have hln := h.len
  obtain ⟨h1, h2, h3, h4⟩ := h
  have hx := (Ex.refl w).alloc (.cells #[.slice none 0 0] 23)
  have hsz := hx.size
  obtain ⟨i, hi, hz, hs1, hb1⟩ := info_parts sliceInfo
  obtain ⟨v', w', hrun, hown', hg, _, hob⟩ := run_append_own_at (P := Tryz.prog) (w.alloc (.cells #[.slice none 0 0] 23)) B 88 88 23 i (.slice none 0 0) 1 24 Tryz.underlying88 hi hz hs1 hb1 rfl (by omega) v rows.length vs (ownsRow_exs h1 hx) ⟨w.heap.size, 0, none⟩ 1 1 [.slice none 0 0] (by simp)
    (fun j u hj => World.news_of_block (heap_alloc_new w _) j u hj) (fun u hu => by simp at hu; subst hu; rfl) (by unfold maxLen; omega) (by omega) (by omega)
  have split : ∀ (j : Nat) (u : Value), (vs ++ [Value.slice none 0 0])[j]? = some u → (vs[j]? = some u ∧ j < vs.length) ∨ (j = vs.length ∧ u = .slice none 0 0) := fun j u hj => by
    by_cases e : j < vs.length
    · rw [List.getElem?_append_left e] at hj; exact .inl ⟨hj, e⟩
    · rw [List.getElem?_append_right (by omega)] at hj
      have := (List.getElem?_eq_some_iff.1 hj).1
      simp at this
      have e2 : j = vs.length := by omega
      subst e2
      simp at hj
      exact .inr ⟨rfl, hj.symm⟩
  have lt : ∀ (j : Nat) (u : Value) (b : Nat), vs[j]? = some u → u.ownBlock = some b → b < w.heap.size := fun j u b hj hb => by
    have hjl := (List.getElem?_eq_some_iff.1 hj).1
    exact ((h2 j u _ hj (List.getElem?_eq_getElem (by omega))).lt b hb).2
  refine ⟨v', w', hrun, ⟨?_, fun j u r hj hr => ?_, fun j u b hj hb => ?_, fun a j u u' b hne ha hj hb => ?_⟩, ⟨hg.os.trans hx.os, hg.tape.trans hx.tape, hg.output.trans hx.output, Nat.le_trans hsz hg.size, fun k hk hd => ?_⟩, (ExO.of_ex hx).trans hg, hob.imp id (fun e => ⟨_, e, hsz⟩)⟩
  · rw [List.length_append]; exact hown'
  · rcases split j u hj with ⟨hj', hjl⟩ | ⟨e, rfl⟩
    · rw [List.getElem?_append_left (by omega)] at hr
      exact ((h2 j u r hj' hr).ex hx).grown hg fun k e e2 => h3 j u k hj' e2 e
    · rw [e, List.getElem?_append_right (by omega), hln, Nat.sub_self] at hr
      simp at hr
      subst hr
      exact AL.nil _ _
  · rcases split j u hj with ⟨hj', hjl⟩ | ⟨e, rfl⟩
    · have := lt j u b hj' hb
      rcases hob with e | e
      · rw [e]; exact h3 j u b hj' hb
      · rw [e]; intro e2; injection e2 with e2; omega
    · cases hb
  · rcases split a u ha with ⟨ha', _⟩ | ⟨e, rfl⟩
    · rcases split j u' hj with ⟨hj', _⟩ | ⟨e, rfl⟩
      · exact h4 a j u u' b hne ha' hj' hb
      · intro e2; cases e2
    · cases hb
  · rcases hd with hd | hd
    · rw [hg.block k (Nat.lt_of_lt_of_le hk hsz) (fun e => by have := (World.ownsRow.lt (ownsRow_exs h1 hx) k e.symm).1; omega)]
      exact hx.block hk
    · omega
/-- A row read, where it stands. -/
theorem GR.at_ {w : World} {B : Nat} {v : Value} {vs : List Value} {rows : List (List Int)} (h : GR w B v vs rows) {k : Nat} {r : List Int} (hr : rows[k]? = some r) :
    ∃ g cap u, v = .slice (some ⟨g, 0, none⟩) rows.length cap ∧ vs[k]? = some u ∧ w.cell? ⟨g, k, none⟩ = some u ∧ w.frozen? ⟨g, k, none⟩ = false ∧ AL w B u r ∧ u.ownBlock ≠ some g ∧ B ≤ g ∧ g < w.heap.size := by
  have hln := h.len
  have hkl := (List.getElem?_eq_some_iff.1 hr).1
  obtain ⟨u, hu⟩ : ∃ u, vs[k]? = some u := ⟨_, List.getElem?_eq_getElem (by omega)⟩
  obtain ⟨h1, h2, h3, h4⟩ := h
  rcases h1.2 with ⟨_, hn⟩ | ⟨g, cap, cur, hv, hB, hh, hnc, _, _, ht⟩
  · omega
  · have hc : cur[k]? = some u := by
      have : (cur.toList.take (rows.length * 1))[k]? = some u := by rw [ht]; exact hu
      rw [List.getElem?_take] at this
      split at this
      · simpa using this
      · cases this
    refine ⟨g, cap, u, hv, hu, cell_of_cur hh hc, frozen_of_cur hh k, h2 k u r hu hr, fun e => ?_, hB, heap_lt_of hh⟩
    exact h3 k u g hu e (by rw [hv]; rfl)
/-- A row that has grown, put back where it stood. -/
theorem GR.put {w w' : World} {B g cap k : Nat} {vs : List Value} {rows : List (List Int)} {u u' : Value} {r : List Int} {x : Int} (h : GR w B (.slice (some ⟨g, 0, none⟩) rows.length cap) vs rows) (hr : rows[k]? = some r) (hu : vs[k]? = some u)
    (hal : AL w' B u' (r ++ [x])) (hE : ExO u.ownBlock w w') (ho : u'.ownBlock = u.ownBlock ∨ ∃ q, u'.ownBlock = some q ∧ w.heap.size ≤ q) :
    GR (w'.setCell ⟨g, k, none⟩ u') B (.slice (some ⟨g, 0, none⟩) rows.length cap) (vs.set k u') (rows.set k (r ++ [x])) ∧ ExI B w.heap.size w (w'.setCell ⟨g, k, none⟩ u') ∧ (∀ q, q < w.heap.size → u.ownBlock ≠ some q → q ≠ g → (w'.setCell ⟨g, k, none⟩ u').heap[q]? = w.heap[q]?) := by
  have hln := h.len
  have hkl := (List.getElem?_eq_some_iff.1 hr).1
  obtain ⟨h1, h2, h3, h4⟩ := h
  rcases h1.2 with ⟨hv, _⟩ | ⟨g', cap', cur, hv, hB, hh, hnc, hcm, hsz, ht⟩
  · cases hv
  injection hv with e1 _ e3
  injection e1 with e1
  injection e1 with e1 _ _
  subst e1 e3
  have hgl := heap_lt_of hh
  have hug : u.ownBlock ≠ some g := fun e => h3 k u g hu e rfl
  have lt : ∀ (j : Nat) (u : Value) (b : Nat), vs[j]? = some u → u.ownBlock = some b → B ≤ b ∧ b < w.heap.size := fun j u b hj hb => by
    have hjl := (List.getElem?_eq_some_iff.1 hj).1
    exact (h2 j u _ hj (List.getElem?_eq_getElem (by omega))).lt b hb
  have hug' : u'.ownBlock ≠ some g := fun e => by
    rcases ho with h | ⟨q, h, hq⟩
    · rw [h] at e; exact hug e
    · rw [h] at e; injection e with e; omega
  have hh' : w'.heap[g]? = some (.cells cur 23 (0, 0)) := (hE.block g hgl (fun e => hug e.symm)).trans hh
  have hE1 : Ex1 g w' (w'.setCell ⟨g, k, none⟩ u') := (Ex1.refl _ _).setCell rfl _
  have hset : (w'.setCell ⟨g, k, none⟩ u').heap[g]? = some (.cells (cur.setIfInBounds k u') 23 (0, 0)) := by simp [World.setCell, Array.getElem?_modify, hh']
  have split : ∀ (j : Nat) (z : Value), (vs.set k u')[j]? = some z → (j ≠ k ∧ vs[j]? = some z) ∨ (j = k ∧ z = u') := fun j z hj => by
    rw [List.getElem?_set] at hj
    split at hj
    · rename_i e
      subst e
      rw [if_pos (by omega)] at hj
      injection hj with hj
      exact .inr ⟨rfl, hj.symm⟩
    · rename_i e
      exact .inl ⟨fun e2 => e e2.symm, hj⟩
  have e1g : ∀ {z : Value} {q : List Int}, AL w' B z q → z.ownBlock ≠ some g → AL (w'.setCell ⟨g, k, none⟩ u') B z q := fun ha hne => by
    obtain ⟨a1, a2⟩ := ha
    refine ⟨a1, ?_⟩
    rcases a2 with a2 | ⟨b, c2, cu, hv2, hB2, hh2, r2⟩
    · exact .inl a2
    · exact .inr ⟨b, c2, cu, hv2, hB2, (hE1.block b (heap_lt_of hh2) (by intro e; injection e with e; exact hne (by rw [hv2, ← e]; rfl))).trans hh2, r2⟩
  refine ⟨⟨⟨by rw [List.length_set, List.length_set]; omega, .inr ⟨g, cap, cur.setIfInBounds k u', by rw [List.length_set], hB, hset, by rw [List.length_set]; exact hnc, hcm, by simpa using hsz, ?_⟩⟩, fun j z q hj hq => ?_, fun j z b hj hb => ?_, fun i j z z' b hne hi hj hb => ?_⟩, ⟨hE1.os.trans hE.os, hE1.tape.trans hE.tape, hE1.output.trans hE.output, Nat.le_trans hE.size hE1.size, fun q hq hd => ?_⟩, fun q hq h1 h2 => (hE1.block q (Nat.lt_of_lt_of_le hq hE.size) (by intro e; injection e with e; exact h2 e)).trans (hE.block q hq (fun e => h1 e.symm))⟩
  · rw [List.length_set, Array.toList_setIfInBounds, List.take_set, ht]
  · rcases split j z hj with ⟨hne, hj'⟩ | ⟨rfl, rfl⟩
    · rw [List.getElem?_set, if_neg (fun e => hne e.symm)] at hq
      refine e1g ((h2 j z q hj' hq).grown hE fun b e e2 => ?_) (fun e => h3 j z g hj' e rfl)
      exact h4 k j u z b (fun e3 => hne e3.symm) hu hj' e e2
    · rw [List.getElem?_set, if_pos rfl, if_pos hkl] at hq
      injection hq with hq
      subst hq
      exact e1g hal hug'
  · rcases split j z hj with ⟨hne, hj'⟩ | ⟨rfl, rfl⟩
    · exact h3 j z b hj' hb
    · intro e
      exact hug' (hb.trans (by rw [← e]; rfl))
  · rcases split i z hi with ⟨hi1, hi2⟩ | ⟨rfl, rfl⟩
    · rcases split j z' hj with ⟨hj1, hj2⟩ | ⟨rfl, rfl⟩
      · exact h4 i j z z' b hne hi2 hj2 hb
      · intro e
        rcases ho with h | ⟨q, h, hq⟩
        · rw [h] at e; exact h4 i j z u b hne hi2 hu hb e
        · rw [h] at e; injection e with e; have := (lt i z b hi2 hb).2; omega
    · rcases split j z' hj with ⟨hj1, hj2⟩ | ⟨rfl, rfl⟩
      · intro e
        rcases ho with h | ⟨q, h, hq⟩
        · rw [h] at hb; exact h4 j i z' u b (fun e3 => hne e3.symm) hj2 hu e hb
        · rw [h] at hb; injection hb with hb; have := (lt j z' b hj2 e).2; omega
      · exact absurd rfl hne
  · rcases hd with hd | hd
    · rw [hE1.block q (Nat.lt_of_lt_of_le hq hE.size) (by intro e; injection e with e; omega), hE.block q hq (fun e => by have := (lt k u q hu e.symm).1; omega)]
    · omega
/-- None of the blocks of a list of lists lies from p on and below q. -/
def SepG (v : Value) (vs : List Value) (p q : Nat) : Prop := (∀ b, v.ownBlock = some b → b < p ∨ q ≤ b) ∧ ∀ (j : Nat) (u : Value) (b : Nat), vs[j]? = some u → u.ownBlock = some b → b < p ∨ q ≤ b
theorem SepG.push {v v' : Value} {vs : List Value} {p q m : Nat} (h : SepG v vs p q) (ho : v'.ownBlock = v.ownBlock ∨ ∃ q, v'.ownBlock = some q ∧ m ≤ q) (hq : q ≤ m) : SepG v' (vs ++ [.slice none 0 0]) p q := by
  refine ⟨fun b hb => ?_, fun j u b hj hb => ?_⟩
  · rcases ho with e | ⟨z, e, hz⟩
    · rw [e] at hb; exact h.1 b hb
    · rw [e] at hb; injection hb with hb; omega
  · by_cases e : j < vs.length
    · rw [List.getElem?_append_left e] at hj; exact h.2 j u b hj hb
    · rw [List.getElem?_append_right (by omega)] at hj
      have hm := List.mem_of_getElem? hj
      simp at hm
      subst hm
      cases hb
theorem SepG.put {v u u' : Value} {vs : List Value} {p q m k : Nat} (h : SepG v vs p q) (hu : vs[k]? = some u) (ho : u'.ownBlock = u.ownBlock ∨ ∃ q, u'.ownBlock = some q ∧ m ≤ q) (hq : q ≤ m) : SepG v (vs.set k u') p q := by
  refine ⟨h.1, fun j z b hj hb => ?_⟩
  rw [List.getElem?_set] at hj
  split at hj
  · split at hj
    · injection hj with hj
      subst hj
      rcases ho with e | ⟨z, e, hz⟩
      · rw [e] at hb; exact h.2 k u b hu hb
      · rw [e] at hb; injection hb with hb; omega
    · cases hj
  · exact h.2 j z b hj hb
end Go.Proofs.YtphdcgimibnajaaGreat
