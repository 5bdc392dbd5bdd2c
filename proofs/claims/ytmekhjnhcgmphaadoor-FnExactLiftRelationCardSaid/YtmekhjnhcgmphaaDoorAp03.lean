/- From a law's walk to its row: what holds for every law (it answers true, nothing that was in memory has turned); a slice of ints as an argument. Arguments opened: a slice of ints from its reading; a struct of two slices. Contracts of the functions on fields and lists of elements. The table of primes out of the row's list; a world for the witness. -/
import Derived.Test.YtmekhjnhcgmphaaDoorRows
import Derived.Test.YtmekhjnhcgmphaaDoorLaw
import Derived.ProofKit
import Derived.OpenShut
import Derived.Deep.DeepHandedRow
import Derived.Lib.SmallJoins
import Derived.Test.YtmekhjnhcgmphaaDoorLib
import Derived.Test.YtmekhjnhcgmphaaDoorAp00
import Derived.Deep.QuietTactic
import Derived.BigQuiet
import Derived.Test.YtmekhjnhcgmphaaDoorCards
import Derived.Test.YtmekhjnhcgmphaaDoorTie
import Derived.Lib.LaidTab
namespace Go.Proofs.YtmekhjnhcgmphaaDoor
set_option maxRecDepth 100000
open Go.ChangeShapes Go.WideShapes Go.ChangeAt Go.RowKit
section
variable {H : Type} {enc : TypeId × Value → H} {P : Program}
theorem trodAll_below (hl : laidOutB P = true) {W W' : World} (hb : Below W.heap.size W W') {sp : Nat → Bool} : ∀ {ts : List TypeId} {vs : List Value} {ds : List (DataW H)} {ps : List MemPlace},
    (ts.all fun t => P.readableRec t && decide (t < P.types.size)) = true → DataW.TrodAll enc P W 0 (fun _ => true) true ts vs ds ps → (∀ x ∈ ps, x.block < W.heap.size) → (∀ x ∈ ps, sp x.block = true) → DataW.TrodAll enc P W' 0 sp true ts vs ds ps
  | [], [], [], _, _, h, _, _ => h
  | t :: ts, v :: vs, d :: ds, _, hr, ⟨p, q, h1, h2, e⟩, hlt, hsp => by
    subst e
    simp only [List.all_cons, Bool.and_eq_true, decide_eq_true_eq] at hr
    exact ⟨p, q, WideElems.Trod_stays hl hr.1.1 hr.1.2 h1 (fun x hx => hb.same (hlt x (by simp [hx]))) (fun x hx => hsp x (by simp [hx])),
      trodAll_below hl hb hr.2 h2 (fun x hx => hlt x (by simp [hx])) (fun x hx => hsp x (by simp [hx])), rfl⟩
  | [], _ :: _, _, _, _, h, _, _ => h.elim
  | [], [], _ :: _, _, _, h, _, _ => h.elim
  | _ :: _, [], _, _, _, h, _, _ => h.elim
  | _ :: _, _ :: _, [], _, _, h, _, _ => h.elim
theorem trodVars_below (hl : laidOutB P = true) {W W' : World} (hb : Below W.heap.size W W') {sp : Nat → Bool} : ∀ {ns : List String} {gs : List (DataW H)} {ps : List MemPlace},
    (∀ n ∈ ns, ∀ g t, P.globalNamed n = some g → (P.globals[g]?).map (·.type) = some t → P.readableRec t = true ∧ t < P.types.size) →
    DataW.TrodVars enc P W (fun _ => true) ns gs ps → (∀ x ∈ ps, x.block < W.heap.size) → (∀ x ∈ ps, sp x.block = true) → DataW.TrodVars enc P W' sp ns gs ps
  | [], [], _, _, h, _, _ => h
  | n :: ns, d :: ds, _, hr, ⟨g, t, cs, fuel, p, q, h1, h2, h3, h4, h5, e⟩, hlt, hsp => by
    subst e
    obtain ⟨hr1, hr2⟩ := hr n (by simp) g t h1 h2
    have hg : g < W.heap.size := by
      simp only [World.var?, h1, Option.bind_some] at h3
      split at h3
      · rename_i hh; exact heap_lt_of hh
      · cases h3
    have h3' : W'.var? P n = some cs := by
      simp only [World.var?, h1, Option.bind_some] at h3 ⊢
      rw [hb.block g hg]; exact h3
    exact ⟨g, t, cs, fuel, p, q, h1, h2, h3', DataW.trod_stays (kids_book hl hr1) (book_sized hr1) (fun h => by cases h) ⟨hr2, book_self t⟩ h4 (fun x hx => hb.same (hlt x (by simp [hx]))) (fun x hx => hsp x (by simp [hx])),
      trodVars_below hl hb (fun n' hn' => hr n' (by simp [hn'])) h5 (fun x hx => hlt x (by simp [hx])) (fun x hx => hsp x (by simp [hx])), rfl⟩
  | [], _ :: _, _, _, h, _, _ => h.elim
  | _ :: _, [], _, _, h, _, _ => h.elim
/-- The row's last step for every law. -/
theorem law_post (hl : laidOutB P = true) {f : Func} {s : ChangeSpec} {bt : TypeId} {handsOn : Bool} {W W' : World} {args : Array Value} {ds gs : List (DataW H)} {before : List MemPlace}
    (hts : (f.params.toList.all fun t => P.readableRec t && decide (t < P.types.size)) = true)
    (hvs : ∀ n ∈ s.vars, ∀ g t, P.globalNamed n = some g → (P.globals[g]?).map (·.type) = some t → P.readableRec t = true ∧ t < P.types.size)
    (hft : f.resultTypes = #[bt]) (hbt : P.underlying bt = some .bool)
    (hs : s.fn H (ds ++ gs) = { results := [.lit (.bool true)], args := ds, vars := gs })
    (hW : DataW.Whole enc P f.params.toList s.vars false W args.toList ds gs before) (hb : Below W.heap.size W W') :
    s.post enc P f false true handsOn false W args (.bool true) W' := by
  have hlt : ∀ p ∈ before, p.block < W.heap.size := fun p hp => hW.lt p hp
  have hold : ∀ p ∈ before, (fun b => decide (b < W.heap.size)) p.block = true := fun p hp => by simpa using hlt p hp
  have hW' := hW
  obtain ⟨pa, pv, hA, hV, hps, hz, hn⟩ := hW
  have ha : ∀ p ∈ pa, p ∈ before := fun p hp => by rw [hps]; simp [hp]
  have hv : ∀ p ∈ pv, p ∈ before := fun p hp => by rw [hps]; simp [hp]
  have hres : ∀ (W' : World) (b : Nat) (sp : Nat → Bool) (hd : Bool), DataW.TrodAll enc P W' b sp hd f.resultTypes.toList ((Value.bool true).resultList f.resultTypes.size) (s.fn H (ds ++ gs)).results [] := fun W' b sp hd => by
    rw [hs, hft]
    exact trodAll_mk1 (shut_bool hbt true)
  have hargs : ∀ sp : Nat → Bool, (∀ p ∈ before, sp p.block = true) → DataW.TrodAll enc P W' 0 sp true f.params.toList args.toList (s.fn H (ds ++ gs)).args pa := fun sp hsp => by
    rw [hs]
    exact trodAll_below hl hb hts hA (fun x hx => hlt x (ha x hx)) (fun x hx => hsp x (ha x hx))
  have hvars : ∀ sp : Nat → Bool, (∀ p ∈ before, sp p.block = true) → DataW.TrodVars enc P W' sp s.vars (s.fn H (ds ++ gs)).vars pv := fun sp hsp => by
    rw [hs]
    exact trodVars_below hl hb hvs hV (fun x hx => hlt x (hv x hx)) (fun x hx => hsp x (hv x hx))
  refine ⟨ds, gs, before, [], pa, pv, hW', hres _ _ _ _, hargs _ hold, hvars _ hold, World.keptBut_mono (fun p hp => ⟨hp, ?_⟩) (hb.frame (· ∈ before)), fun h => by cases h⟩
  rw [hps, List.mem_append] at hp
  exact Or.inr hp
end
theorem ownGod : ownKnob Tryd.prog.godebug = none := by kernel_rfl
theorem laidOut : laidOutB Tryd.prog = true := by kernel_rfl
theorem cellsInt : Tryd.prog.cellsOf 3 = 1 := by kernel_rfl
end Go.Proofs.YtmekhjnhcgmphaaDoor
namespace Go.Proofs.YtmekhjnhcgmphaaDoor
set_option maxRecDepth 100000
open Go.ChangeShapes Go.WideShapes Go.ChangeAt Go.RowKit Go.Joins
/-- A slice of ints from its reading alone. -/
theorem open_t {H : Type} {enc : TypeId × Value → H} {W : World} {base fuel : Nat} {sp : Nat → Bool} {hd : Bool} {v : Value} {x : DataW H × List MemPlace}
    (h : DataW.trod enc Tryd.prog W base sp hd fuel 38 [v] = some x) : ∃ A n c, v = .slice A n c ∧ n ≤ 9223372036854775807 ∧ (n ≤ 1099511627776 → ∃ xs, xs.length = n ∧ Rd W A xs) := by
  rcases open_ints Tryd.underlying38 Tryd.underlying3 cellsInt h with ⟨hcs, _⟩ | ⟨a, len, cap, zs, hcs, _, hl, hm, hz, _, hcell, _⟩
  · injection hcs with hcs
    subst hcs
    exact ⟨none, 0, 0, rfl, by omega, fun _ => ⟨[], rfl, Rd.nil _ _⟩⟩
  · injection hcs with hcs
    subst hcs
    refine ⟨_, _, _, rfl, by unfold maxLen at hm; omega, fun hlen => ?_⟩
    have hlz : len ≤ zs.length := by rw [hz]; split <;> omega
    refine ⟨zs.take len, by simp; omega, by simp; omega, fun j hj => ?_⟩
    have hj' : j < len := by simp at hj; omega
    have hc := hcell j (by omega)
    obtain ⟨g, off, spot⟩ := a
    cases spot with
    | some s =>
      exfalso
      have hc0 := hcell 0 (by omega)
      have e0 : (⟨g, off, some s⟩ : Addr).add 0 = ⟨g, off, some s⟩ := by simp [Addr.add]
      rw [e0] at hc0
      unfold World.cell? at hc0
      split at hc0 <;> simp at hc0
    | none =>
      refine ⟨g, off, rfl, ?_⟩
      have e : ((⟨g, off, none⟩ : Addr).add j) = ⟨g, off + j, none⟩ := by unfold Addr.add; split <;> simp_all
      rw [e] at hc
      rw [hc]
      simp [hj']
end Go.Proofs.YtmekhjnhcgmphaaDoor
namespace Go.Proofs.YtmekhjnhcgmphaaDoor
set_option maxRecDepth 100000
open Go Go.RowKit
/-- The table of the four small primes. -/
def Tb (w : World) : Prop := w.cell? ⟨0, 0, none⟩ = some (.int .i64 2) ∧ w.cell? ⟨0, 1, none⟩ = some (.int .i64 3) ∧ w.cell? ⟨0, 2, none⟩ = some (.int .i64 5) ∧ w.cell? ⟨0, 3, none⟩ = some (.int .i64 7)
theorem Tb.ex {w w' : World} (h : Tb w) (he : Ex w w') : Tb w' := by
  obtain ⟨h0, h1, h2, h3⟩ := h
  have hb := he.block (cell_lt h0)
  exact ⟨(World.cell?_of_block (w := w) (a := ⟨0, 0, none⟩) hb).trans h0, (World.cell?_of_block (w := w) (a := ⟨0, 1, none⟩) hb).trans h1, (World.cell?_of_block (w := w) (a := ⟨0, 2, none⟩) hb).trans h2, (World.cell?_of_block (w := w) (a := ⟨0, 3, none⟩) hb).trans h3⟩
theorem Tb.drew {w : World} (h : Tb w) : Tb w.drew := h
theorem Tb.drewN {w : World} (h : Tb w) (n : Nat) : Tb (w.drewN n) := h
theorem Tb.lt {w : World} (h : Tb w) : 0 < w.heap.size := Nat.lt_of_le_of_lt (Nat.zero_le _) (cell_lt h.1)
theorem ret_bool {a b : Bool} (h : a = b) : Ending.returned (.bool a) = .returned (.bool b) := by rw [h]
theorem ret_int {k : IntKind} {a b : Int} (h : a = b) : Ending.returned (.int k a) = .returned (.int k b) := by rw [h]
set_option maxHeartbeats 400000 in
theorem isElement_c (p a : Int) (w : World) : Calls Tryd.prog 90 #[.int .i64 p, .int .i64 a] w fun e w' => e = .returned (.bool (elB p a)) ∧ w = w' := by
  go_enter Tryd.func90, Tryd.ntmps90
  go_wp2
  all_goals go_ret
  all_goals exact ⟨ret_bool (by simp [elB]; try omega), rfl⟩
set_option maxHeartbeats 400000 in
theorem l1In_c (n lo hi : Int) (w : World) : Calls Tryd.prog 45 #[.int .i64 n, .int .i64 lo, .int .i64 hi] w fun e w' => e = .returned (.bool (inB lo hi n)) ∧ w = w' := by
  go_enter Tryd.func45, Tryd.ntmps45
  go_wp2
  all_goals go_ret
  all_goals exact ⟨ret_bool (by simp [inB]; try omega), rfl⟩
set_option maxHeartbeats 400000 in
theorem isField_c (p : Int) (w : World) (ht : Tb w) : Calls Tryd.prog 50 #[.int .i64 p] w fun e w' => e = .returned (.bool (fieldB p)) ∧ w = w' := by
  obtain ⟨h0, h1, h2, h3⟩ := ht
  by_cases hlo : p < 2
  · go_enter Tryd.func50, Tryd.ntmps50
    go_wp2
    all_goals go_ret
    all_goals exact ⟨ret_bool (by simp [fieldB]; omega), rfl⟩
  by_cases hhi : 97 < p
  · go_enter Tryd.func50, Tryd.ntmps50
    go_wp2
    all_goals go_ret
    all_goals exact ⟨ret_bool (by simp [fieldB]; omega), rfl⟩
  have i0 : ∀ W : World, (Instr.index 94 (.agg #[.int .i64 2, .int .i64 3, .int .i64 5, .int .i64 7]) (.int .i64 0)).run Tryd.prog W = .ok (.int .i64 2) W := fun _ => by kernel_rfl
  have i1 : ∀ W : World, (Instr.index 94 (.agg #[.int .i64 2, .int .i64 3, .int .i64 5, .int .i64 7]) (.int .i64 1)).run Tryd.prog W = .ok (.int .i64 3) W := fun _ => by kernel_rfl
  have i2 : ∀ W : World, (Instr.index 94 (.agg #[.int .i64 2, .int .i64 3, .int .i64 5, .int .i64 7]) (.int .i64 2)).run Tryd.prog W = .ok (.int .i64 5) W := fun _ => by kernel_rfl
  have i3 : ∀ W : World, (Instr.index 94 (.agg #[.int .i64 2, .int .i64 3, .int .i64 5, .int .i64 7]) (.int .i64 3)).run Tryd.prog W = .ok (.int .i64 7) W := fun _ => by kernel_rfl
  go_enter Tryd.func50, Tryd.ntmps50
  go_wp2
  refine wp_loop_rounds 5 ?_
  iterate 5 (all_goals (try (rw [rounds_succ]; go_wp2)))
  all_goals go_ret
  all_goals refine ⟨ret_bool ?_, rfl⟩
  all_goals simp_all [fieldB]
  all_goals omega
set_option maxHeartbeats 400000 in
theorem fdGood_c (p : Int) (w : World) : Calls Tryd.prog 58 #[.int .i64 p] w fun e w' => e = .returned (.bool (fieldB p)) ∧ w = w' := by
  cases hin : inB 2 97 p with
  | false =>
    have hf : fieldB p = false := by
      simp [inB] at hin; simp [fieldB]; omega
    go_enter Tryd.func58, Tryd.ntmps58
    go_wp2_with (go_at_call 45; refine (l1In_c _ _ _ _).mono ?_; rintro e w' ⟨rfl, rfl⟩)
    go_ret
    exact ⟨ret_bool (by rw [hf]), rfl⟩
  | true =>
    have hr : 2 ≤ p ∧ p ≤ 97 := by simpa [inB] using hin
    obtain ⟨h2, h97⟩ := hr
    go_enter Tryd.func58, Tryd.ntmps58
    go_wp2_with (go_at_call 45; refine (l1In_c _ _ _ _).mono ?_; rintro e w' ⟨rfl, rfl⟩)
    have H := Lib.hid hin
    clear hin
    go_loop [3] (fun i => ∃ k : Nat, 2 ≤ k ∧ k ≤ 10 ∧ (∀ j : Nat, 2 ≤ j → j < k → p % (j : Int) ≠ 0) ∧ i = .int .i64 k) (fun i => 10 - (intOf i).toNat)
    case atStart => exact ⟨2, by omega, by omega, fun j _ _ => by omega, rfl⟩
    case round =>
      obtain ⟨k, hk2, hk10, hall, rfl⟩ := hrel
      have hkm : (k : Int) * (k : Int) ≤ 10 * 10 := Int.mul_le_mul (by omega) (by omega) (by omega) (by omega)
      have hk0 : 0 ≤ (k : Int) * (k : Int) := Int.mul_nonneg (by omega) (by omega)
      have Hall := Lib.hid hall
      clear hall
      by_cases hlt : (k : Int) * (k : Int) ≤ p
      · by_cases hm : p % (k : Int) = 0
        · have hf := Lib.hid (fdGood_no h2 h97 k hk2 hlt hm)
          go_wp2
          go_ret
          exact ⟨ret_bool (by rw [hf.out]), rfl⟩
        · have hk9 : k < 10 := by
            rcases Nat.lt_or_ge k 10 with h | h
            · exact h
            · have : (10 : Int) * 10 ≤ (k : Int) * (k : Int) := Int.mul_le_mul (by omega) (by omega) (by omega) (by omega)
              omega
          have hne : (p % (k : Int) == 0) = false := by simpa using hm
          go_wp2
          go_round
          case rel => exact ⟨k + 1, by omega, by omega, fun j h1 h3 => by
            rcases Nat.lt_or_ge j k with h | h
            · exact Hall.out j h1 h
            · obtain rfl : j = k := by omega
              exact hm, by go_num⟩
          case measure => simp [intOf]; omega
      · have hf := Lib.hid (fdGood_yes h2 h97 k (by omega) Hall.out)
        go_wp2
        go_ret
        exact ⟨ret_bool (by rw [hf.out]), rfl⟩
theorem all_take_succ {p : Int → Bool} {xs : List Int} {k : Nat} {x : Int} (hx : xs[k]? = some x) (ha : (xs.take k).all p = true) (hp : p x = true) : (xs.take (k + 1)).all p = true := by
  rw [List.take_add_one, hx]
  simp [ha, hp]
theorem all_false_of {p : Int → Bool} {xs : List Int} {k : Nat} {x : Int} (hx : xs[k]? = some x) (hp : p x = false) : xs.all p = false :=
  List.all_eq_false.2 ⟨x, List.mem_of_getElem? hx, by simp [hp]⟩
set_option maxHeartbeats 400000 in
theorem isVector_c (p : Int) (A : Option Addr) (c : Nat) (xs : List Int) (n : Int) (w : World) (h : Rd w A xs) :
    Calls Tryd.prog 64 #[.int .i64 p, .slice A xs.length c, .int .i64 n] w fun e w' => e = .returned (.bool (decide ((xs.length : Int) = n) && allEl p xs)) ∧ w = w' := by
  have hl := h.len
  by_cases hn : (xs.length : Int) = n
  · subst hn
    go_enter Tryd.func64, Tryd.ntmps64
    go_wp2
    go_loop [15] (fun i => ∃ k : Nat, k ≤ xs.length ∧ (xs.take k).all (elB p) = true ∧ i = .int .i64 k) (fun i => xs.length - (intOf i).toNat)
    case atStart => exact ⟨0, Nat.zero_le _, rfl, rfl⟩
    case round =>
      obtain ⟨k, hk, hall, rfl⟩ := hrel
      have Hall := Lib.hid hall
      clear hall
      by_cases hlt : k < xs.length
      · obtain ⟨g, off, x, rfl, hx, hg, hc⟩ := h.at_ hlt
        have Hx := Lib.hid hx
        clear hx
        cases hel : elB p x with
        | true =>
          have Hel := Lib.hid hel
          go_wp2_with (go_at_call 90; refine (isElement_c _ _ _).mono ?_; rintro e w' ⟨rfl, rfl⟩)
          go_round
          case rel => exact ⟨k + 1, by omega, all_take_succ Hx.out Hall.out Hel.out, by go_num⟩
          case measure => simp [intOf]; omega
        | false =>
          have Hel := Lib.hid hel
          go_wp2_with (go_at_call 90; refine (isElement_c _ _ _).mono ?_; rintro e w' ⟨rfl, rfl⟩)
          go_ret
          exact ⟨ret_bool (by simp [allEl, all_false_of Hx.out Hel.out]), rfl⟩
      · obtain rfl : k = xs.length := by omega
        go_wp2
        go_ret
        exact ⟨ret_bool (by have := Hall.out; rw [List.take_length] at this; simp [allEl, this]), rfl⟩
  · have hn' : ((xs.length : Int) != n) = true := by simpa using hn
    go_enter Tryd.func64, Tryd.ntmps64
    go_wp2
    go_ret
    exact ⟨ret_bool (by simp [hn]), rfl⟩
set_option maxHeartbeats 400000 in
theorem l1All_c (A : Option Addr) (c : Nat) (xs : List Int) (lo hi : Int) (w : World) (h : Rd w A xs) :
    Calls Tryd.prog 83 #[.slice A xs.length c, .int .i64 lo, .int .i64 hi] w fun e w' => e = .returned (.bool (xs.all (inB lo hi))) ∧ w = w' := by
  have hl := h.len
  go_enter Tryd.func83, Tryd.ntmps83
  go_wp2
  go_loop [11] (fun i => ∃ k : Nat, k ≤ xs.length ∧ (xs.take k).all (inB lo hi) = true ∧ i = .int .i64 k) (fun i => xs.length - (intOf i).toNat)
  case atStart => exact ⟨0, Nat.zero_le _, rfl, rfl⟩
  case round =>
    obtain ⟨k, hk, hall, rfl⟩ := hrel
    have Hall := Lib.hid hall
    clear hall
    by_cases hlt : k < xs.length
    · obtain ⟨g, off, x, rfl, hx, hg, hc⟩ := h.at_ hlt
      have Hx := Lib.hid hx
      clear hx
      cases hel : inB lo hi x with
      | true =>
        have Hel := Lib.hid hel
        go_wp2_with (go_at_call 45; refine (l1In_c _ _ _ _).mono ?_; rintro e w' ⟨rfl, rfl⟩)
        go_round
        case rel => exact ⟨k + 1, by omega, all_take_succ Hx.out Hall.out Hel.out, by go_num⟩
        case measure => simp [intOf]; omega
      | false =>
        have Hel := Lib.hid hel
        go_wp2_with (go_at_call 45; refine (l1In_c _ _ _ _).mono ?_; rintro e w' ⟨rfl, rfl⟩)
        go_ret
        exact ⟨ret_bool (by rw [all_false_of Hx.out Hel.out]), rfl⟩
    · obtain rfl : k = xs.length := by omega
      go_wp2
      go_ret
      exact ⟨ret_bool (by have := Hall.out; rw [List.take_length] at this; rw [this]), rfl⟩
set_option maxHeartbeats 400000 in
theorem fdIn_c (p : Int) (A : Option Addr) (c : Nat) (xs : List Int) (w : World) (h : Rd w A xs) (h2 : 2 ≤ p) (h97 : p ≤ 97) :
    Calls Tryd.prog 59 #[.int .i64 p, .slice A xs.length c] w fun e w' => e = .returned (.bool (allEl p xs)) ∧ w = w' := by
  go_enter Tryd.func59, Tryd.ntmps59
  go_wp2_with (go_at_call 83; refine (l1All_c _ _ _ _ _ _ h).mono ?_; rintro e w' ⟨rfl, rfl⟩)
  go_ret
  exact ⟨ret_bool (by rw [inB_el]; rfl), rfl⟩
theorem within_c (n lo hi : Int) (w : World) : Calls Tryd.prog 53 #[.int .i64 n, .int .i64 lo, .int .i64 hi] w fun e w' => e = .returned (.bool (inB lo hi n)) ∧ w = w' := by
  go_enter Tryd.func53, Tryd.ntmps53
  go_wp2
  all_goals go_ret
  all_goals exact ⟨ret_bool (by simp [inB]; try omega), rfl⟩
end Go.Proofs.YtmekhjnhcgmphaaDoor
namespace Go.Proofs.YtmekhjnhcgmphaaDoor
set_option maxRecDepth 100000
open Go.ChangeShapes Go.WideShapes Go.ChangeAt Go.RowKit
theorem gPrimes : Tryd.prog.globalNamed "loop.example/g01073/impl.smallPrimes" = some 0 := by kernel_rfl
theorem gPrimesType : (Tryd.prog.globals[0]?).map (·.type) = some 94 := by kernel_rfl
theorem cellsPrimes : Tryd.prog.cellsOf 94 = 4 := by kernel_rfl
theorem hvsPrimes : ∀ n ∈ ["loop.example/g01073/impl.smallPrimes"], ∀ g t, Tryd.prog.globalNamed n = some g → (Tryd.prog.globals[g]?).map (·.type) = some t → Tryd.prog.readableRec t = true ∧ t < Tryd.prog.types.size := by
  intro n hn g t h1 h2
  obtain rfl : n = "loop.example/g01073/impl.smallPrimes" := by simpa using hn
  obtain rfl : 0 = g := Option.some.inj (gPrimes.symm.trans h1)
  obtain rfl : 94 = t := Option.some.inj (gPrimesType.symm.trans h2)
  exact ⟨by kernel_rfl, of_decide_eq_true (by kernel_rfl)⟩
theorem table {W : World} (h : laidMetH Tryd.prog [("loop.example/g01073/impl.smallPrimes", Rows.laid_loop_example_g01073_impl_smallPrimes)] W) : Tb W := by
  have hT : Lib.TabIs Tryd.prog W "loop.example/g01073/impl.smallPrimes" .i64 [2, 3, 5, 7] := Lib.tabIs_of_head (rest := []) gPrimes gPrimesType Tryd.underlying94 Tryd.underlying3 cellsInt cellsPrimes h
  exact ⟨hT.cell gPrimes 0 (by decide), hT.cell gPrimes 1 (by decide), hT.cell gPrimes 2 (by decide), hT.cell gPrimes 3 (by decide)⟩
/-- A world for the witness: the settled one, the table holding what its initialiser lays. -/
noncomputable def laidWorld (os : Os) : World :=
  { World.holding Tryd.prog os ⟨#[], #[], []⟩ with heap := (World.holding Tryd.prog os ⟨#[], #[], []⟩).heap.modify 0 fun
      | .cells _ t frozen => .cells #[.int .i64 2, .int .i64 3, .int .i64 5, .int .i64 7] t frozen
      | o => o }
end Go.Proofs.YtmekhjnhcgmphaaDoor
