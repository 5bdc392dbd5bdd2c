/- Valid rows, equal rows, valid rational relations: the program. -/
import Derived.Test.YtpeogfapnofeoaaGreatDoorPkH
import Derived.Test.YtpeogfapnofeoaaGreatDoorPkL
namespace Go.Proofs.YtpeogfapnofeoaaGreatDoor
set_option maxRecDepth 100000
open Go Go.RowKit
theorem RdS.rdf {w : World} {A : Option Addr} {xs : List Fra} (h : RdS EF w A xs) (hl : xs.length ≤ 549755813888) : RdF w A (xs.map fun x => (x.n, x.d)) := by
  refine ⟨by rw [List.length_map]; exact hl, fun j q hj => ?_⟩
  rw [List.getElem?_map] at hj
  cases hx : xs[j]? with
  | none => rw [hx] at hj; cases hj
  | some x =>
    rw [hx] at hj
    injection hj with hj
    subst hj
    obtain ⟨g, off, y, P, pc, Q, qc, hA, hy, c0, c1, hP, hQ⟩ := h.frac (List.getElem?_eq_some_iff.1 hx).1
    rw [hx] at hy
    injection hy with hy
    subst hy
    exact ⟨g, off, P, pc, Q, qc, hA, c0, c1, hP, hQ⟩
/-- All rows have n valid fractions. -/
def okRow (p : Int) (n : Nat) (r : List Fra) : Bool := decide (r.length = n) && r.all fun x => fracB p x.n x.d
def okRows (p : Int) (n : Nat) (rows : List (List Fra)) : Bool := rows.all (okRow p n)
set_option maxHeartbeats 2000000 in
theorem areRows_c (p : Int) (n : Nat) (A : Option Addr) (c : Nat) (rows : List (List Fra)) (w : World) (h : RdS EFF w A rows) (hn : n ≤ 1000) (ht : Tb w) :
    Calls Tryz.prog 53 #[.int .i64 p, .slice A rows.length c, .int .i64 n] w fun e w' => e = .returned (.bool (okRows p n rows && fieldB p)) ∧ Ex w w' := by
  have hl := h.1
  go_enter Tryz.func53, Tryz.ntmps53
  go_wp2_with fail
  go_loopw [11] (fun i wr => ∃ k : Nat, k ≤ rows.length ∧ i = .int .i64 k ∧ Hid (okRows p n (rows.take k) = true) ∧ Ex w wr) (fun i _ => rows.length - (intOf i).toNat)
  case atStart => exact ⟨0, Nat.zero_le _, rfl, Lib.hid rfl, Ex.refl _⟩
  case round =>
    obtain ⟨k, hk, rfl, Hall, he⟩ := hrel
    by_cases hlt : k < rows.length
    · obtain ⟨g, off, r, v, rfl, hr, c0, hv⟩ := (h.ex he).fracs hlt
      obtain ⟨P, pc, rfl, hP⟩ := hv.form
      have Hr := Lib.hid hr
      have hPl := hP.1
      clear hr hv
      have hno : okRow p n r = false → (okRows p n rows && fieldB p) = false := fun e => by
        have : okRows p n rows = false := List.all_eq_false.2 ⟨r, List.mem_of_getElem? Hr.out, by rw [e]; simp⟩
        rw [this]; rfl
      by_cases hrn : r.length = n
      · have hb : ((r.length : Int) != (n : Int)) = false := by simp; omega
        have hcall := areFractions_c p P pc (r.map fun x => (x.n, x.d)) wr (hP.rdf (by omega)) (ht.ex he)
        rw [List.length_map] at hcall
        have hcb : ((r.map fun x => (x.n, x.d)).all (fun q => fracB p q.1 q.2) && fieldB p) = (okRow p n r && fieldB p) := by
          rw [List.all_map, okRow, hrn]; simp; rfl
        rw [hcb] at hcall
        clear hcb
        cases hok : (okRow p n r && fieldB p) with
        | true =>
          rw [hok] at hcall
          rw [Bool.and_eq_true] at hok
          have Hok := Lib.hid hok.1
          have HrN := Lib.hid hrn
          clear hok hno hrn
          go_wp2_with fail
          refine hcall.mono ?_
          rintro e w1 ⟨rfl, x1⟩
          go_wp2_with fail
          go_roundw
          case rel => exact ⟨k + 1, by omega, by go_num, Lib.hid (by rw [okRows, List.take_add_one, Hr.out, List.all_append]; rw [show ((rows.take k).all (okRow p n)) = true from Hall.out]; simp [Hok.out]), he.trans x1⟩
          case measure => simp [intOf]; omega
        | false =>
          rw [hok] at hcall
          have HF := Lib.hid (show (okRows p n rows && fieldB p) = false by
            rw [Bool.and_eq_false_iff] at hok
            rcases hok with e | e
            · exact hno e
            · rw [e]; simp)
          have HrN := Lib.hid hrn
          clear hok hno hrn
          go_wp2_with fail
          refine hcall.mono ?_
          rintro e w1 ⟨rfl, x1⟩
          go_wp2_with fail
          go_ret
          exact ⟨by rw [HF.out]; rfl, he.trans x1⟩
      · have hb : ((r.length : Int) != (n : Int)) = true := by simp; omega
        have HF := Lib.hid (hno (by rw [okRow, decide_eq_false hrn]; rfl))
        clear hno hrn
        go_wp2_with fail
        go_ret
        exact ⟨by rw [HF.out]; rfl, he⟩
    · obtain rfl : k = rows.length := by omega
      have HA := Lib.hid (show okRows p n rows = true by have := Hall.out; rwa [List.take_length] at this)
      have htw := ht.ex he
      go_wp2_with (go_at_call 51; refine (isField_c _ _ htw).mono ?_; rintro e w' ⟨rfl, rfl⟩)
      go_ret
      exact ⟨by rw [HA.out, Bool.true_and]; rfl, he⟩
set_option maxHeartbeats 2000000 in
theorem eqFrs_c (A B : Option Addr) (c d : Nat) (xs ys : List Fra) (w : World) (h : RdS EF w A xs) (h' : RdS EF w B ys) :
    Calls Tryz.prog 127 #[.slice A xs.length c, .slice B ys.length d, .func (.func 102) #[] #[]] w fun e w' => ∃ b, e = .returned (.bool b) ∧ (b = true ↔ xs = ys) ∧ Ex w w' := by
  have hl := h.1
  have hl' := h'.1
  have eg : ∀ args w, (callFunc 102 args).run Tryz.prog w = .ok (.enter 102 args) w := enters_of Tryz.func102 (by kernel_rfl) rfl
  by_cases hn : xs.length = ys.length
  case neg =>
    have hb : ((xs.length : Int) != (ys.length : Int)) = true := by simp; omega
    have HN := Lib.hid (show ¬ xs = ys from fun e => hn (by rw [e]))
    clear hn
    go_enter Tryz.func127, Tryz.ntmps127
    go_wp2_with fail
    go_ret
    exact ⟨false, rfl, ⟨fun e => (Bool.noConfusion e), fun e => absurd e HN.out⟩, Ex.refl w⟩
  have hb : ((xs.length : Int) != (ys.length : Int)) = false := by simp; omega
  have hn2 : ys.length ≤ xs.length := by omega
  have hn3 : xs.length ≤ ys.length := by omega
  have Hn := Lib.hid hn
  clear hn
  go_enter Tryz.func127, Tryz.ntmps127
  go_wp2_with fail
  go_loopw [17] (fun i wr => ∃ k : Nat, k ≤ xs.length ∧ i = .int .i64 k ∧ Hid (xs.take k = ys.take k) ∧ Ex w wr) (fun i _ => xs.length - (intOf i).toNat)
  case atStart => exact ⟨0, Nat.zero_le _, rfl, Lib.hid rfl, Ex.refl _⟩
  case round =>
    obtain ⟨k, hk, rfl, He, he⟩ := hrel
    by_cases hlt : k < xs.length
    · have hlt2 : k < ys.length := by omega
      obtain ⟨g, off, x, P, pc, Q, qc, rfl, hx, c0, c1, hP, hQ⟩ := (h.ex he).frac hlt
      obtain ⟨g', off', y, P', pc', Q', qc', rfl, hy, c0', c1', hP', hQ'⟩ := (h'.ex he).frac hlt2
      have Hx := Lib.hid hx
      have Hy := Lib.hid hy
      clear hx hy
      have y1 := (Ex.refl wr).alloc (.cells #[.slice P x.n.length pc, .slice Q x.d.length qc] 58)
      have e0 := cell_ex y1 c0'
      have e1 := cell_ex y1 c1'
      have y2 := y1.alloc (.cells #[.slice P' y.n.length pc', .slice Q' y.d.length qc'] 58)
      clear c0' c1'
      have hcall := equalFractions_c P Q P' Q' pc qc pc' qc' x.n x.d y.n y.d ((wr.alloc (.cells #[.slice P x.n.length pc, .slice Q x.d.length qc] 58)).alloc (.cells #[.slice P' y.n.length pc', .slice Q' y.d.length qc'] 58)) (hP.ex y2) (hQ.ex y2) (hP'.ex y2) (hQ'.ex y2)
      cases hxy : (decide (x.n = y.n) && decide (x.d = y.d)) with
      | true =>
        rw [hxy] at hcall
        have HE := Lib.hid (show x = y by
          simp only [Bool.and_eq_true, decide_eq_true_eq] at hxy
          obtain ⟨n, m⟩ := x; obtain ⟨n', m'⟩ := y
          obtain ⟨e1, e2⟩ := hxy
          simp only at e1 e2
          rw [e1, e2])
        clear hxy
        go_wp2_with fail
        refine hcall.mono ?_
        rintro e w1 ⟨rfl, x1⟩
        go_wp2_with fail
        go_roundw
        case rel => exact ⟨k + 1, by omega, by go_num, Lib.hid (by rw [List.take_add_one, List.take_add_one, Hx.out, Hy.out, He.out, HE.out]), (he.trans y2).trans x1⟩
        case measure => simp [intOf]; omega
      | false =>
        rw [hxy] at hcall
        have HE := Lib.hid (show ¬ xs = ys by
          rintro rfl
          have := Hx.out
          rw [Hy.out] at this
          injection this with this
          subst this
          simp at hxy)
        clear hxy
        go_wp2_with fail
        refine hcall.mono ?_
        rintro e w1 ⟨rfl, x1⟩
        go_wp2_with fail
        go_ret
        exact ⟨false, rfl, ⟨fun e => (Bool.noConfusion e), fun e => absurd e HE.out⟩, (he.trans y2).trans x1⟩
    · obtain rfl : k = xs.length := by omega
      have HE := Lib.hid (show xs = ys by
        have := He.out
        rwa [List.take_length, List.take_of_length_le (by omega)] at this)
      go_wp2_with fail
      go_ret
      exact ⟨true, rfl, ⟨fun _ => HE.out, fun _ => rfl⟩, he⟩
theorem equalRows1_c (A B : Option Addr) (c d : Nat) (xs ys : List Fra) (w : World) (h : RdS EF w A xs) (h' : RdS EF w B ys) :
    Calls Tryz.prog 126 #[.slice A xs.length c, .slice B ys.length d] w fun e w' => ∃ b, e = .returned (.bool b) ∧ (b = true ↔ xs = ys) ∧ Ex w w' := by
  go_enter Tryz.func126, Tryz.ntmps126
  go_wp2_with fail
  refine (eqFrs_c A B c d xs ys w h h').mono ?_
  rintro e w1 ⟨b, rfl, hb, x1⟩
  go_wp2_with fail
  go_ret
  exact ⟨b, rfl, hb, x1⟩
set_option maxHeartbeats 2000000 in
theorem eqRws_c (A B : Option Addr) (c d : Nat) (xs ys : List (List Fra)) (w : World) (h : RdS EFF w A xs) (h' : RdS EFF w B ys) :
    Calls Tryz.prog 125 #[.slice A xs.length c, .slice B ys.length d, .func (.func 126) #[] #[]] w fun e w' => ∃ b, e = .returned (.bool b) ∧ (b = true ↔ xs = ys) ∧ Ex w w' := by
  have hl := h.1
  have hl' := h'.1
  have eg : ∀ args w, (callFunc 126 args).run Tryz.prog w = .ok (.enter 126 args) w := enters_of Tryz.func126 (by kernel_rfl) rfl
  by_cases hn : xs.length = ys.length
  case neg =>
    have hb : ((xs.length : Int) != (ys.length : Int)) = true := by simp; omega
    have HN := Lib.hid (show ¬ xs = ys from fun e => hn (by rw [e]))
    clear hn
    go_enter Tryz.func125, Tryz.ntmps125
    go_wp2_with fail
    go_ret
    exact ⟨false, rfl, ⟨fun e => (Bool.noConfusion e), fun e => absurd e HN.out⟩, Ex.refl w⟩
  have hb : ((xs.length : Int) != (ys.length : Int)) = false := by simp; omega
  have hn2 : ys.length ≤ xs.length := by omega
  have hn3 : xs.length ≤ ys.length := by omega
  have Hn := Lib.hid hn
  clear hn
  go_enter Tryz.func125, Tryz.ntmps125
  go_wp2_with fail
  go_loopw [17] (fun i wr => ∃ k : Nat, k ≤ xs.length ∧ i = .int .i64 k ∧ Hid (xs.take k = ys.take k) ∧ Ex w wr) (fun i _ => xs.length - (intOf i).toNat)
  case atStart => exact ⟨0, Nat.zero_le _, rfl, Lib.hid rfl, Ex.refl _⟩
  case round =>
    obtain ⟨k, hk, rfl, He, he⟩ := hrel
    by_cases hlt : k < xs.length
    · have hlt2 : k < ys.length := by omega
      obtain ⟨g, off, x, v, rfl, hx, c0, hv⟩ := (h.ex he).fracs hlt
      obtain ⟨g', off', y, v', rfl, hy, c0', hv'⟩ := (h'.ex he).fracs hlt2
      obtain ⟨P, pc, rfl, hP⟩ := hv.form
      obtain ⟨P', pc', rfl, hP'⟩ := hv'.form
      have Hx := Lib.hid hx
      have Hy := Lib.hid hy
      clear hx hy hv hv'
      have hcall := equalRows1_c P P' pc pc' x y wr hP hP'
      go_wp2_with fail
      refine hcall.mono ?_
      rintro e w1 ⟨b, rfl, hbb, x1⟩
      clear hcall
      cases b with
      | true =>
        have HE := Lib.hid (hbb.1 rfl)
        clear hbb
        go_wp2_with fail
        go_roundw
        case rel => exact ⟨k + 1, by omega, by go_num, Lib.hid (by rw [List.take_add_one, List.take_add_one, Hx.out, Hy.out, He.out, HE.out]), he.trans x1⟩
        case measure => simp [intOf]; omega
      | false =>
        have HE := Lib.hid (show ¬ xs = ys by
          rintro rfl
          have := Hx.out
          rw [Hy.out] at this
          injection this with this
          have := hbb.2 this.symm
          cases this)
        clear hbb
        go_wp2_with fail
        go_ret
        exact ⟨false, rfl, ⟨fun e => (Bool.noConfusion e), fun e => absurd e HE.out⟩, he.trans x1⟩
    · obtain rfl : k = xs.length := by omega
      have HE := Lib.hid (show xs = ys by
        have := He.out
        rwa [List.take_length, List.take_of_length_le (by omega)] at this)
      go_wp2_with fail
      go_ret
      exact ⟨true, rfl, ⟨fun _ => HE.out, fun _ => rfl⟩, he⟩
theorem equalRows_c (A B : Option Addr) (c d : Nat) (xs ys : List (List Fra)) (w : World) (h : RdS EFF w A xs) (h' : RdS EFF w B ys) :
    Calls Tryz.prog 99 #[.slice A xs.length c, .slice B ys.length d] w fun e w' => ∃ b, e = .returned (.bool b) ∧ (b = true ↔ xs = ys) ∧ Ex w w' := by
  go_enter Tryz.func99, Tryz.ntmps99
  go_wp2_with fail
  refine (eqRws_c A B c d xs ys w h h').mono ?_
  rintro e w1 ⟨b, rfl, hb, x1⟩
  go_wp2_with fail
  go_ret
  exact ⟨b, rfl, hb, x1⟩
def fitB (l r : Int) : Bool := inB 0 12 l && inB 0 12 r && decide (l + r ≤ 12)
theorem ratFits_c (l r : Int) (w : World) : Calls Tryz.prog 52 #[.int .i64 l, .int .i64 r] w fun e w' => e = .returned (.bool (fitB l r)) ∧ w = w' := by
  cases h1 : inB 0 12 l with
  | false =>
    have H := Lib.hid (show fitB l r = false by rw [fitB, h1]; rfl)
    go_enter Tryz.func52, Tryz.ntmps52
    go_wp2_with fail
    refine (within_c l 0 12 w).mono ?_
    rintro e w1 ⟨rfl, rfl⟩
    rw [h1]
    go_wp2_with fail
    go_ret
    exact ⟨by rw [H.out]; rfl, rfl⟩
  | true =>
    cases h2 : inB 0 12 r with
    | false =>
      have H := Lib.hid (show fitB l r = false by rw [fitB, h1, h2]; rfl)
      go_enter Tryz.func52, Tryz.ntmps52
      go_wp2_with fail
      refine (within_c l 0 12 w).mono ?_
      rintro e w1 ⟨rfl, rfl⟩
      rw [h1]
      go_wp2_with fail
      refine (within_c r 0 12 w).mono ?_
      rintro e w1 ⟨rfl, rfl⟩
      rw [h2]
      go_wp2_with fail
      go_ret
      exact ⟨by rw [H.out]; rfl, rfl⟩
    | true =>
      have H := Lib.hid (show fitB l r = decide (l + r ≤ 12) by rw [fitB, h1, h2]; rfl)
      have hb1 : 0 ≤ l ∧ l ≤ 12 := by simpa [inB] using h1
      have hb2 : 0 ≤ r ∧ r ≤ 12 := by simpa [inB] using h2
      have hwr : IntKind.i64.wrap (l + r) = l + r := IntWalk.i64_in _ (by omega)
      go_enter Tryz.func52, Tryz.ntmps52
      go_wp2_with fail
      refine (within_c l 0 12 w).mono ?_
      rintro e w1 ⟨rfl, rfl⟩
      rw [h1]
      go_wp2_with fail
      refine (within_c r 0 12 w).mono ?_
      rintro e w1 ⟨rfl, rfl⟩
      rw [h2]
      go_wp2_with fail
      go_ret
      exact ⟨ret_bool (by rw [H.out]), rfl⟩
end Go.Proofs.YtpeogfapnofeoaaGreatDoor
