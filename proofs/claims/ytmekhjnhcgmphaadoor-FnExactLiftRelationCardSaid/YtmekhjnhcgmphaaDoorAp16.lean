/- Valid rational relations: what both sides test. The reference's small functions on rational rows. Reduced lists: the reference's rrIs. Printed by a program of mine. -/
import Derived.Test.YtmekhjnhcgmphaaDoorAp15
import Derived.BigQuiet
import Derived.Test.YtmekhjnhcgmphaaDoorAp11
import Derived.Test.YtmekhjnhcgmphaaDoorAp14
import Derived.Deep.RegionLaw
namespace Go.Proofs.YtmekhjnhcgmphaaDoor
set_option maxRecDepth 100000
open Go Go.RowKit
theorem fv_of {p : Int} {x : Fra} (h : fracB p x.n x.d = true) : FV p x ∧ FL 21 x := by
  obtain ⟨h1, h2, h3, h4, h5, h6, h7, h8⟩ := fracB_parts h
  have k := FrOK.of h
  exact ⟨⟨h1, ⟨k.ne, k.nt⟩, ⟨k.me, k.mt⟩, h6, h7, h8⟩, h4, h5⟩
theorem okRows_mem {p : Int} {n : Nat} {rows : List (List Fra)} (h : okRows p n rows = true) : ∀ r ∈ rows, r.length = n ∧ ∀ x ∈ r, fracB p x.n x.d = true := fun r hr => by
  have := List.all_eq_true.1 h r hr
  rw [okRow, Bool.and_eq_true, decide_eq_true_eq] at this
  exact ⟨this.1, fun x hx => List.all_eq_true.1 this.2 x hx⟩
theorem okRows_wid {p : Int} {n : Nat} {rows : List (List Fra)} (h : okRows p n rows = true) : Wid n rows := fun r hr => (okRows_mem h r hr).1
theorem okRows_gd {p : Int} {n : Nat} {rows : List (List Fra)} (h : okRows p n rows = true) : GdM p 21 rows := fun r hr x hx => fv_of ((okRows_mem h r hr).2 x hx)
theorem gd_fv {p : Int} {L : Nat} {rows : List (List Fra)} (h : GdM p L rows) : ∀ v ∈ rows, ∀ x ∈ v, FV p x := fun v hv x hx => (h v hv x hx).1
theorem rrp_len {p : Int} {n : Nat} {rows : List (List Fra)} (hF : fieldB p = true) (hg : ∀ v ∈ rows, ∀ x ∈ v, FV p x) (h : RrP (frOps p) n rows) : rows.length ≤ n := by
  obtain ⟨U, hU⟩ := lift2 (P := FV p) rows hg
  have hH := frHom p hF
  have hi : ∀ a b : {x : Fra // FV p x}, a.1 = b.1 → a = b := fun a b h => Subtype.ext h
  rw [hU] at h ⊢
  rw [hH.rrp hi, rrp_iff] at h
  have := rref_len _ h
  rwa [List.length_map]
/-- r is a valid rational relation over the field p. -/
def RRok (p : Int) (x : RRel) : Prop := fieldB p = true ∧ fitB x.l x.r = true ∧ okRows p (x.l + x.r).toNat x.b = true ∧ RrP (frOps p) (x.l + x.r).toNat x.b
theorem fit_lt {l r : Int} (h : fitB l r = true) : 0 ≤ l ∧ 0 ≤ r ∧ l + r ≤ 12 := by
  simp only [fitB, inB, Bool.and_eq_true, decide_eq_true_eq] at h
  omega
end Go.Proofs.YtmekhjnhcgmphaaDoor
namespace Go.Proofs.YtmekhjnhcgmphaaDoor
set_option maxRecDepth 100000
open Go Go.RowKit
set_option maxHeartbeats 400000 in
theorem l1Same_c (A B : Option Addr) (c d : Nat) (xs ys : List Int) (w : World) (h : Rd w A xs) (h' : Rd w B ys) :
    Calls Tryd.prog 99 #[.slice A xs.length c, .slice B ys.length d] w fun e w' => e = .returned (.bool (decide (xs = ys))) ∧ Ex w w' := by
  have hl := h.len
  have hl' := h'.len
  by_cases hn : xs.length = ys.length
  case neg =>
    have hb : ((xs.length : Int) != (ys.length : Int)) = true := by simp; omega
    have he : decide (xs = ys) = false := by simp; intro e; exact hn (by rw [e])
    have He := Lib.hid he
    clear he
    go_enter Tryd.func99, Tryd.ntmps99
    go_wp2
    go_ret
    exact ⟨by rw [He.out]; rfl, Ex.refl w⟩
  have hb : ((xs.length : Int) != (ys.length : Int)) = false := by simp; omega
  have hn2 : ys.length ≤ xs.length := by omega
  have hn3 : xs.length ≤ ys.length := by omega
  have Hn := Lib.hid hn
  clear hn
  go_enter Tryd.func99, Tryd.ntmps99
  go_wp2
  go_loopw [13] (fun i wr => ∃ k : Nat, k ≤ xs.length ∧ i = .int .i64 k ∧ Hid (xs.take k = ys.take k) ∧ ∃ n, wr = w.drewN n) (fun i _ => xs.length - (intOf i).toNat)
  case atStart => exact ⟨0, Nat.zero_le _, rfl, rfl, 0, rfl⟩
  case round =>
    obtain ⟨k, hk, rfl, He, n, rfl⟩ := hrel
    by_cases hlt : k < xs.length
    · have hlt2 : k < ys.length := by omega
      obtain ⟨g, off, x, rfl, hx, hg, hc⟩ := h.at_ hlt
      obtain ⟨g', off', y, rfl, hy, hg', hc'⟩ := h'.at_ hlt2
      have Hx := Lib.hid hx
      have Hy := Lib.hid hy
      clear hx hy
      by_cases hxy : x = y
      · subst hxy
        go_wp2
        go_quiet (fail)
        go_wp2
        go_roundw
        case rel => exact ⟨k + 1, by omega, by go_num, by
          show _ = _
          rw [List.take_add_one, List.take_add_one, Hx.out, Hy.out, He.out], _, rfl⟩
        case measure => simp [intOf] <;> omega
      · have hbx : (x != y) = true := by simpa using hxy
        have he : decide (xs = ys) = false := by
          simp; rintro rfl
          have := Hx.out; rw [Hy.out] at this; injection this with this; exact hxy this.symm
        have He2 := Lib.hid he
        clear he hxy
        go_wp2
        go_quiet (fail)
        go_wp2
        go_ret
        exact ⟨by rw [He2.out]; rfl, ((Ex.refl w).drewN _).drewN _⟩
    · obtain rfl : k = xs.length := by omega
      have he : decide (xs = ys) = true := by
        have := He.out
        rw [List.take_length, List.take_of_length_le (by omega)] at this
        simpa using this
      have He2 := Lib.hid he
      clear he
      go_wp2
      go_ret
      exact ⟨by rw [He2.out]; rfl, (Ex.refl w).drewN _⟩
set_option maxHeartbeats 1000000 in
theorem frSame_c (A B A' B' : Option Addr) (c d c' d' : Nat) (x y : Fra) (w : World) (h1 : Rd w A x.n) (h2 : Rd w B x.d) (h3 : Rd w A' y.n) (h4 : Rd w B' y.d) :
    Calls Tryd.prog 104 #[.agg #[.slice A x.n.length c, .slice B x.d.length d], .agg #[.slice A' y.n.length c', .slice B' y.d.length d']] w fun e w' => e = .returned (.bool (decide (x.n = y.n) && decide (x.d = y.d))) ∧ Ex w w' := by
  obtain ⟨n, m⟩ := x
  obtain ⟨n', m'⟩ := y
  dsimp only at h1 h2 h3 h4 ⊢
  have x0 : ∀ (a b : Obj), Ex w ((w.alloc a).alloc b) := fun a b => ((Ex.refl w).alloc a).alloc b
  by_cases hn : n = n'
  · have hd : decide (n = n') = true := by simpa using hn
    have Hd := Lib.hid hd
    clear hn
    go_enter Tryd.func104, Tryd.ntmps104
    go_wp2_with fail
    refine (l1Same_c A A' c c' n n' _ (h1.ex (x0 _ _)) (h3.ex (x0 _ _))).mono ?_
    rintro e w1 ⟨rfl, x1⟩
    have c0 := cell_ex x1 (g := w.heap.size) (o := 1) (v := .slice B m.length d) (box2a _ _ _ _ _).2
    have c1 := cell_ex x1 (g := w.heap.size + 1) (o := 1) (v := .slice B' m'.length d') (box2b _ _ _ _ _).2
    have xx := (x0 _ _).trans x1
    clear x0 x1
    rw [hd]
    clear hd
    go_wp2_with fail
    refine (l1Same_c B B' d d' m m' _ (h2.ex xx) (h4.ex xx)).mono ?_
    rintro e w2 ⟨rfl, x2⟩
    go_wp2
    go_ret
    exact ⟨by rw [Hd.out]; rfl, xx.trans x2⟩
  · have hd : decide (n = n') = false := by simpa using hn
    have Hd := Lib.hid hd
    clear hn
    go_enter Tryd.func104, Tryd.ntmps104
    go_wp2_with fail
    refine (l1Same_c A A' c c' n n' _ (h1.ex (x0 _ _)) (h3.ex (x0 _ _))).mono ?_
    rintro e w1 ⟨rfl, x1⟩
    have xx := (x0 _ _).trans x1
    clear x0 x1
    rw [hd]
    clear hd
    go_wp2
    go_ret
    exact ⟨by rw [Hd.out]; rfl, xx⟩
set_option maxHeartbeats 1000000 in
theorem frOne_c (w : World) : Calls Tryd.prog 105 #[] w fun e w' => FFx w oF e w' := by
  go_enter Tryd.func105, Tryd.ntmps105
  go_wp2_with fail
  have x1 := (Ex.refl w).alloc (.cells #[.slice (some ⟨w.heap.size + 1, 0, none⟩) 1 1, .slice (some ⟨w.heap.size + 1 + 1, 0, none⟩) 1 1] 40)
  have v1 := VB.new w 40 #[.slice (some ⟨w.heap.size + 1, 0, none⟩) 1 1, .slice (some ⟨w.heap.size + 1 + 1, 0, none⟩) 1 1]
  have s1 : (w.alloc (.cells #[.slice (some ⟨w.heap.size + 1, 0, none⟩) 1 1, .slice (some ⟨w.heap.size + 1 + 1, 0, none⟩) 1 1] 40)).heap.size = w.heap.size + 1 := by simp
  generalize w.alloc (.cells #[.slice (some ⟨w.heap.size + 1, 0, none⟩) 1 1, .slice (some ⟨w.heap.size + 1 + 1, 0, none⟩) 1 1] 40) = W1 at *
  have x2 := ((Ex.refl W1).alloc (iObj [1])).alloc (iObj [1])
  have o1 := (Own.new W1 [1]).ex ((Ex.refl (W1.alloc (iObj [1]))).alloc (iObj [1]))
  have o2 := Own.new (W1.alloc (iObj [1])) [1]
  have s2 : (W1.alloc (iObj [1])).heap.size = w.heap.size + 1 + 1 := by simp [s1]
  rw [s2] at o2
  rw [s1] at o1
  have v2 := v1.ex x2
  have d0 := v2.cell 0 (v := .slice (some ⟨w.heap.size + 1, 0, none⟩) 1 1) rfl
  have d1 := v2.cell 1 (v := .slice (some ⟨w.heap.size + 1 + 1, 0, none⟩) 1 1) rfl
  change bodyPost _ _ _ _ _ ((W1.alloc (iObj [1])).alloc (iObj [1]))
  generalize (W1.alloc (iObj [1])).alloc (iObj [1]) = W2 at *
  refine bodyPost_ret (v := .agg #[.slice (some ⟨w.heap.size + 1, 0, none⟩) 1 1, .slice (some ⟨w.heap.size + 1 + 1, 0, none⟩) 1 1]) (by simp [results, Tryd.results105, go_sem, d0, d1]) rfl ?_
  exact ⟨_, _, _, _, rfl, o1.fr (by simp) (by omega) (by simp), o2.fr (by simp) (by omega) (by simp), apart_ne (by omega), x1.trans x2⟩
theorem rrIsZero_c (A B : Option Addr) (c d : Nat) (x : Fra) (w : World) (_ : x.n.length ≤ 1099511627776) :
    Calls Tryd.prog 106 #[.agg #[.slice A x.n.length c, .slice B x.d.length d]] w fun e w' => e = .returned (.bool (iszF x)) ∧ Ex w w' := by
  have hb : iszF x = decide ((x.n.length : Int) = 0) := by
    rw [Bool.eq_iff_iff, iszF_iff]
    cases x.n <;> simp
    omega
  rw [hb]
  have x0 := (Ex.refl w).alloc (.cells #[.slice A x.n.length c, .slice B x.d.length d] 40)
  clear hb
  generalize x.n.length = n at *
  go_enter Tryd.func106, Tryd.ntmps106
  go_wp2
  go_ret
  exact ⟨ret_bool (by simp [BEq.beq]), x0⟩
def leadF (xs : List Fra) : Nat := xs.findIdx fun x => !iszF x
theorem leadF_lead (p : Int) (xs : List Fra) : (frOps p).lead xs = leadF xs := rfl
set_option maxHeartbeats 1000000 in
theorem rrLead_c (A : Option Addr) (c : Nat) (xs : List Fra) (w : World) (h : RdS EF w A xs) :
    Calls Tryd.prog 103 #[.slice A xs.length c] w fun e w' => e = .returned (.int .i64 (leadF xs)) ∧ Ex w w' := by
  have hl := h.1
  go_enter Tryd.func103, Tryd.ntmps103
  go_wp2_with fail
  go_loopw [3] (fun i wr => ∃ k : Nat, k ≤ xs.length ∧ i = .int .i64 k ∧ Hid (∀ (j : Nat) (x : Fra), j < k → xs[j]? = some x → iszF x = true) ∧ Ex w wr) (fun i _ => xs.length - (intOf i).toNat)
  case atStart => exact ⟨0, Nat.zero_le _, rfl, Lib.hid (fun j x h => by omega), Ex.refl _⟩
  case round =>
    obtain ⟨k, hk, rfl, Hz, he⟩ := hrel
    by_cases hlt : k < xs.length
    · obtain ⟨g, off, x, P, pc, Q, qc, rfl, hx, c0, c1, hP, hQ⟩ := (h.ex he).frac hlt
      have Hx := Lib.hid hx
      clear hx
      have hz := rrIsZero_c P Q pc qc x wr hP.len
      cases hb : iszF x with
      | true =>
        have Hb := Lib.hid hb
        rw [hb] at hz
        clear hb
        go_wp2_with fail
        refine hz.mono ?_
        rintro e w1 ⟨rfl, x1⟩
        go_wp2_with fail
        go_roundw
        case rel => exact ⟨k + 1, by omega, by go_num, Lib.hid (fun j y hj hy => by
          by_cases e : j = k
          · subst e; rw [Hx.out] at hy; injection hy with hy; rw [← hy]; exact Hb.out
          · exact Hz.out j y (by omega) hy), he.trans x1⟩
        case measure => simp [intOf]; omega
      | false =>
        have HL := Lib.hid (show leadF xs = k by
          rw [leadF, List.findIdx_eq (by omega)]
          have hxe : xs[k] = x := by have := Hx.out; rw [List.getElem?_eq_getElem hlt] at this; injection this
          refine ⟨by rw [hxe, hb]; rfl, fun j hj => by
            have := Hz.out j _ hj (List.getElem?_eq_getElem (by omega))
            rw [this]; rfl⟩)
        rw [hb] at hz
        clear hb
        go_wp2_with fail
        refine hz.mono ?_
        rintro e w1 ⟨rfl, x1⟩
        go_wp2_with fail
        go_ret
        exact ⟨by rw [HL.out]; rfl, he.trans x1⟩
    · obtain rfl : k = xs.length := by omega
      have HL := Lib.hid (show leadF xs = xs.length by
        rw [leadF, List.findIdx_eq_length]
        intro x hx
        obtain ⟨j, hj⟩ := List.getElem?_of_mem hx
        rw [Hz.out j x (List.getElem?_eq_some_iff.1 hj).1 hj]; rfl)
      go_wp2_with fail
      go_ret
      exact ⟨by rw [HL.out]; rfl, he⟩
set_option maxHeartbeats 1000000 in
theorem rrGoodRow_c (p n : Int) (A : Option Addr) (c : Nat) (xs : List Fra) (w : World) (h : RdS EF w A xs) :
    Calls Tryd.prog 102 #[.int .i64 p, .int .i64 n, .slice A xs.length c] w fun e w' => e = .returned (.bool (xs.all (fun x => fracB p x.n x.d) && decide ((xs.length : Int) = n))) ∧ Ex w w' := by
  have hl := h.1
  go_enter Tryd.func102, Tryd.ntmps102
  go_wp2_with fail
  go_loopw [11] (fun i wr => ∃ k : Nat, k ≤ xs.length ∧ i = .int .i64 k ∧ Hid ((xs.take k).all (fun x => fracB p x.n x.d) = true) ∧ Ex w wr) (fun i _ => xs.length - (intOf i).toNat)
  case atStart => exact ⟨0, Nat.zero_le _, rfl, Lib.hid rfl, Ex.refl _⟩
  case round =>
    obtain ⟨k, hk, rfl, Hall, he⟩ := hrel
    by_cases hlt : k < xs.length
    · obtain ⟨g, off, x, P, pc, Q, qc, rfl, hx, c0, c1, hP, hQ⟩ := (h.ex he).frac hlt
      have Hx := Lib.hid hx
      clear hx
      have y1 := (Ex.refl wr).alloc (.cells #[.slice P x.n.length pc, .slice Q x.d.length qc] 40)
      cases hb : fracB p x.n x.d with
      | true =>
        have Hb := Lib.hid hb
        clear hb
        go_wp2_with fail
        generalize wr.alloc (.cells #[.slice P x.n.length pc, .slice Q x.d.length qc] 40) = W1 at *
        refine (frGood_c p P Q pc qc x.n x.d W1 (hP.ex y1) (hQ.ex y1)).mono ?_
        rintro e w1 ⟨rfl, x1⟩
        rw [Hb.out]
        go_wp2_with fail
        go_roundw
        case rel => exact ⟨k + 1, by omega, by go_num, Lib.hid (by rw [List.take_add_one, Hx.out, List.all_append, Hall.out]; simp [Hb.out]), (he.trans y1).trans x1⟩
        case measure => simp [intOf]; omega
      | false =>
        have Hb := Lib.hid hb
        clear hb
        go_wp2_with fail
        generalize wr.alloc (.cells #[.slice P x.n.length pc, .slice Q x.d.length qc] 40) = W1 at *
        refine (frGood_c p P Q pc qc x.n x.d W1 (hP.ex y1) (hQ.ex y1)).mono ?_
        rintro e w1 ⟨rfl, x1⟩
        rw [Hb.out]
        go_wp2_with fail
        go_ret
        exact ⟨ret_bool (by rw [List.all_eq_false.2 ⟨x, List.mem_of_getElem? Hx.out, by simp [Hb.out]⟩]; rfl), (he.trans y1).trans x1⟩
    · obtain rfl : k = xs.length := by omega
      have HA := Lib.hid (show xs.all (fun x => fracB p x.n x.d) = true by have := Hall.out; rwa [List.take_length] at this)
      go_wp2_with fail
      go_ret
      exact ⟨ret_bool (by rw [HA.out, Bool.true_and]; simp [BEq.beq]), he⟩
end Go.Proofs.YtmekhjnhcgmphaaDoor
namespace Go.Proofs.YtmekhjnhcgmphaaDoor
set_option maxRecDepth 100000
open Go Go.RowKit
/-- What the first test asks of row j. -/
def OK1 (p : Int) (n : Nat) (rows : List (List Fra)) (j : Nat) (r : List Fra) : Prop :=
  okRow p n r = true ∧ leadF r ≠ n ∧ (frOps p).el r (leadF r) = oF ∧ ∀ u, 0 < j → rows[j - 1]? = some u → leadF u < leadF r
/-- What the second test asks of a pair of rows. -/
def OK2 (p : Int) (rows : List (List Fra)) (i j : Nat) : Prop := ∀ (u v : List Fra), rows[i]? = some u → rows[j]? = some v → i ≠ j → iszF ((frOps p).el v (leadF u)) = true
theorem leadF_le (xs : List Fra) : leadF xs ≤ xs.length := List.findIdx_le_length
theorem rris_ok1 {p : Int} {n : Nat} {rows : List (List Fra)} (h : okRows p n rows = true ∧ RrP (frOps p) n rows) {j : Nat} {r : List Fra} (hr : rows[j]? = some r) : OK1 p n rows j r := by
  obtain ⟨h1, h2⟩ := h
  have hm := List.mem_of_getElem? hr
  obtain ⟨k1, k2⟩ := h2.one r hm
  refine ⟨List.all_eq_true.1 h1 r hm, fun e => by rw [leadF_lead, e] at k1; omega, k2, fun u hj hu => ?_⟩
  exact h2.asc (j - 1) u r hu (by rw [show j - 1 + 1 = j by omega]; exact hr)
theorem rris_ok2 {p : Int} {n : Nat} {rows : List (List Fra)} (h : okRows p n rows = true ∧ RrP (frOps p) n rows) (i j : Nat) : OK2 p rows i j := fun u v hu hv hne => h.2.zer i j u v hu hv hne
theorem rris_all {p : Int} {n : Nat} {rows : List (List Fra)} (h1 : ∀ (j : Nat) (r : List Fra), rows[j]? = some r → OK1 p n rows j r) (h2 : ∀ i j, i < rows.length → j < rows.length → OK2 p rows i j) : okRows p n rows = true ∧ RrP (frOps p) n rows := by
  have hok : okRows p n rows = true := List.all_eq_true.2 fun r hr => by
    obtain ⟨j, hj⟩ := List.getElem?_of_mem hr
    exact (h1 j r hj).1
  refine ⟨hok, okRows_wid hok, fun r hr => ?_, fun i u v hu hv => ?_, fun i k u v hu hv hne => h2 i k (List.getElem?_eq_some_iff.1 hu).1 (List.getElem?_eq_some_iff.1 hv).1 u v hu hv hne⟩
  · obtain ⟨j, hj⟩ := List.getElem?_of_mem hr
    obtain ⟨_, k2, k3, _⟩ := h1 j r hj
    have := leadF_le r
    rw [okRows_wid hok r hr] at this
    exact ⟨by rw [leadF_lead]; omega, k3⟩
  · exact (h1 (i + 1) v hv).2.2.2 u (by omega) (by rw [Nat.add_sub_cancel]; exact hu)
theorem goodRow_b (p : Int) (n : Nat) (r : List Fra) : (r.all (fun x => fracB p x.n x.d) && decide ((r.length : Int) = (n : Int))) = okRow p n r := by
  rw [okRow, Bool.and_comm]
  congr 1
  rw [Bool.eq_iff_iff]
  simp only [decide_eq_true_eq]
  omega
theorem fra_eq {x y : Fra} : (decide (x.n = y.n) && decide (x.d = y.d)) = true ↔ x = y := by
  obtain ⟨a, b⟩ := x
  obtain ⟨a', b'⟩ := y
  simp
set_option maxHeartbeats 16000000 in
theorem rrIs_c (p : Int) (n : Nat) (A : Option Addr) (c : Nat) (rows : List (List Fra)) (w : World) (h : RdS EFF w A rows) (_ : n ≤ 1000) :
    Calls Tryd.prog 77 #[.int .i64 p, .int .i64 n, .slice A rows.length c] w fun e w' => ∃ b, e = .returned (.bool b) ∧ (b = true ↔ okRows p n rows = true ∧ RrP (frOps p) n rows) ∧ Ex w w' := by
  have hl := h.1
  go_enter Tryd.func77, Tryd.ntmps77
  go_wp2_with fail
  go_loopw [15] (fun i wr => ∃ k : Nat, k ≤ rows.length ∧ i = .int .i64 k ∧ Hid (∀ (j : Nat) (r : List Fra), j < k → rows[j]? = some r → OK1 p n rows j r) ∧ Ex w wr) (fun i _ => rows.length - (intOf i).toNat)
  case atStart => exact ⟨0, Nat.zero_le _, rfl, Lib.hid (fun j r h => by omega), Ex.refl _⟩
  case round =>
    obtain ⟨k, hk, rfl, Hall, he⟩ := hrel
    by_cases hlt : k < rows.length
    · obtain ⟨g, off, r, v, rfl, hr, b0, hv⟩ := (h.ex he).fracs hlt
      obtain ⟨P, pc, rfl, hP⟩ := hv.form
      have Hr := Lib.hid hr
      clear hr hv
      have eA := (Ex.refl wr).drew
      have HN := Lib.hid (show ¬ OK1 p n rows k r → ¬ (okRows p n rows = true ∧ RrP (frOps p) n rows) from fun h1 h2 => h1 (rris_ok1 h2 Hr.out))
      have cGood : ∀ W, Ex wr W → Calls Tryd.prog 102 #[.int .i64 p, .int .i64 n, .slice P r.length pc] W fun e w' => e = .returned (.bool (okRow p n r)) ∧ Ex W w' := fun W hW => by
        have := rrGoodRow_c p n P pc r W (hP.ex hW)
        rw [goodRow_b] at this
        exact this
      have cLead : ∀ W, Ex wr W → Calls Tryd.prog 103 #[.slice P r.length pc] W fun e w' => e = .returned (.int .i64 (leadF r)) ∧ Ex W w' := fun W hW => rrLead_c P pc r W (hP.ex hW)
      cases hgood : okRow p n r with
      | false =>
        rw [hgood] at cGood
        have HNo := Lib.hid (HN.out fun h1 => by have := h1.1; rw [hgood] at this; cases this)
        clear hgood HN cLead
        go_wp2_with fail
        first
        | go_region_with (first
            | (go_at_call 102
               refine (cGood _ eA).mono ?_
               rintro e w1 ⟨rfl, x1⟩
               have e1 := eA.trans x1
               dsimp only
               refine (‹∀ (a : Act) (w : World), wpAny _ _ _ _ _ _ a w → _› : _) _ _ ?_
               refine wpAny_take (i := 4) (v := .bool true) rfl (by kernel_rfl) (by kernel_rfl) (by kernel_rfl) (fun _ _ _ h => h) (Or.inl ⟨by kernel_rfl, fun w => by kernel_rfl⟩) ?_
               refine wpAny_take (i := 5) (v := .bool true) rfl (by kernel_rfl) (by kernel_rfl) (by kernel_rfl) (fun _ _ _ h => h) (Or.inl ⟨by kernel_rfl, fun w => by kernel_rfl⟩) ?_
               refine wpAny_take (i := 6) (v := undef) rfl (by kernel_rfl) (by kernel_rfl) (by kernel_rfl) (fun _ _ _ h => h) (Or.inr ⟨by kernel_rfl, rfl⟩) ?_
               refine wpAny_take (i := 7) (v := undef) rfl (by kernel_rfl) (by kernel_rfl) (by kernel_rfl) (fun _ _ _ h => h) (Or.inr ⟨by kernel_rfl, rfl⟩) ?_
               refine wpAny_take (i := 8) (v := undef) rfl (by kernel_rfl) (by kernel_rfl) (by kernel_rfl) (fun _ _ _ h => h) (Or.inr ⟨by kernel_rfl, rfl⟩) ?_
               refine wpAny_take (i := 9) (v := undef) rfl (by kernel_rfl) (by kernel_rfl) (by kernel_rfl) (fun _ _ _ h => h) (Or.inr ⟨by kernel_rfl, rfl⟩) ?_
               refine wpAny_take (i := 10) (v := .bool true) rfl (by kernel_rfl) (by kernel_rfl) (by kernel_rfl) (fun _ _ _ h => h) (Or.inl ⟨by kernel_rfl, fun w => by kernel_rfl⟩) ?_
               refine wpAny_take (i := 11) (v := .bool true) rfl (by kernel_rfl) (by kernel_rfl) (by kernel_rfl) (fun _ _ _ h => h) (Or.inl ⟨by kernel_rfl, fun w => by kernel_rfl⟩) ?_
               refine wpAny_take (i := 12) (v := undef) rfl (by kernel_rfl) (by kernel_rfl) (by kernel_rfl) (fun _ _ _ h => h) (Or.inr ⟨by kernel_rfl, rfl⟩) ?_
               refine wpAny_take (i := 13) (v := undef) rfl (by kernel_rfl) (by kernel_rfl) (by kernel_rfl) (fun _ _ _ h => h) (Or.inr ⟨by kernel_rfl, rfl⟩) ?_
               refine wpAny_take (i := 14) (v := undef) rfl (by kernel_rfl) (by kernel_rfl) (by kernel_rfl) (fun _ _ _ h => h) (Or.inr ⟨by kernel_rfl, rfl⟩) ?_
               refine wpAny_take (i := 15) (v := undef) rfl (by kernel_rfl) (by kernel_rfl) (by kernel_rfl) (fun _ _ _ h => h) (Or.inr ⟨by kernel_rfl, rfl⟩) ?_
               refine wpAny_take (i := 16) (v := undef) rfl (by kernel_rfl) (by kernel_rfl) (by kernel_rfl) (fun _ _ _ h => h) (Or.inr ⟨by kernel_rfl, rfl⟩) ?_
               refine wpAny_take (i := 17) (v := undef) rfl (by kernel_rfl) (by kernel_rfl) (by kernel_rfl) (fun _ _ _ h => h) (Or.inr ⟨by kernel_rfl, rfl⟩) ?_
               refine wpAny_take (i := 18) (v := undef) rfl (by kernel_rfl) (by kernel_rfl) (by kernel_rfl) (fun _ _ _ h => h) (Or.inr ⟨by kernel_rfl, rfl⟩) ?_
               refine wpAny_take (i := 19) (v := undef) rfl (by kernel_rfl) (by kernel_rfl) (by kernel_rfl) (fun _ _ _ h => h) (Or.inr ⟨by kernel_rfl, rfl⟩) ?_
               refine wpAny_take (i := 20) (v := .bool true) rfl (by kernel_rfl) (by kernel_rfl) (by kernel_rfl) (fun _ _ _ h => h) (Or.inl ⟨by kernel_rfl, fun w => by kernel_rfl⟩) ?_
               refine wpAny_take (i := 21) (v := .bool true) rfl (by kernel_rfl) (by kernel_rfl) (by kernel_rfl) (fun _ _ _ h => h) (Or.inl ⟨by kernel_rfl, fun w => by kernel_rfl⟩) ?_
               refine wpAny_take (i := 22) (v := undef) rfl (by kernel_rfl) (by kernel_rfl) (by kernel_rfl) (fun _ _ _ h => h) (Or.inr ⟨by kernel_rfl, rfl⟩) ?_
               refine wpAny_take (i := 23) (v := undef) rfl (by kernel_rfl) (by kernel_rfl) (by kernel_rfl) (fun _ _ _ h => h) (Or.inr ⟨by kernel_rfl, rfl⟩) ?_
               refine wpAny_take (i := 24) (v := undef) rfl (by kernel_rfl) (by kernel_rfl) (by kernel_rfl) (fun _ _ _ h => h) (Or.inr ⟨by kernel_rfl, rfl⟩) ?_
               refine wpAny_take (i := 25) (v := undef) rfl (by kernel_rfl) (by kernel_rfl) (by kernel_rfl) (fun _ _ _ h => h) (Or.inr ⟨by kernel_rfl, rfl⟩) ?_
               refine wpAny_take (i := 26) (v := undef) rfl (by kernel_rfl) (by kernel_rfl) (by kernel_rfl) (fun _ _ _ h => h) (Or.inr ⟨by kernel_rfl, rfl⟩) ?_
               refine wpAny_take (i := 27) (v := undef) rfl (by kernel_rfl) (by kernel_rfl) (by kernel_rfl) (fun _ _ _ h => h) (Or.inr ⟨by kernel_rfl, rfl⟩) ?_
               refine wpAny_take (i := 28) (v := undef) rfl (by kernel_rfl) (by kernel_rfl) (by kernel_rfl) (fun _ _ _ h => h) (Or.inr ⟨by kernel_rfl, rfl⟩) ?_
               refine wpAny_take (i := 29) (v := undef) rfl (by kernel_rfl) (by kernel_rfl) (by kernel_rfl) (fun _ _ _ h => h) (Or.inr ⟨by kernel_rfl, rfl⟩) ?_
               refine wpAny_take (i := 30) (v := undef) rfl (by kernel_rfl) (by kernel_rfl) (by kernel_rfl) (fun _ _ _ h => h) (Or.inr ⟨by kernel_rfl, rfl⟩) ?_
               refine wpAny_take (i := 31) (v := undef) rfl (by kernel_rfl) (by kernel_rfl) (by kernel_rfl) (fun _ _ _ h => h) (Or.inr ⟨by kernel_rfl, rfl⟩) ?_
               refine wpAny_take (i := 32) (v := undef) rfl (by kernel_rfl) (by kernel_rfl) (by kernel_rfl) (fun _ _ _ h => h) (Or.inr ⟨by kernel_rfl, rfl⟩) ?_
               refine wpAny_take (i := 33) (v := undef) rfl (by kernel_rfl) (by kernel_rfl) (by kernel_rfl) (fun _ _ _ h => h) (Or.inr ⟨by kernel_rfl, rfl⟩) ?_
               refine wpAny_take (i := 34) (v := undef) rfl (by kernel_rfl) (by kernel_rfl) (by kernel_rfl) (fun _ _ _ h => h) (Or.inr ⟨by kernel_rfl, rfl⟩) ?_))
        | fail "region"
        all_goals
          go_simp
          go_wp2_with fail
          go_ret
          exact ⟨false, rfl, ⟨fun e => Bool.noConfusion e, fun e => absurd e HNo.out⟩, he.trans e1⟩
      | true =>
        rw [hgood] at cGood
        have hrn : r.length = n := by
          rw [okRow, Bool.and_eq_true, decide_eq_true_eq] at hgood
          exact hgood.1
        have Hgood := Lib.hid hgood
        clear hgood
        by_cases hld : leadF r = n
        · rw [hld] at cLead
          have HNo := Lib.hid (HN.out fun h1 => h1.2.1 hld)
          clear hld HN hrn
          go_wp2_with fail
          first
          | go_region_with (first
              | (go_at_call 102
                 refine (cGood _ eA).mono ?_
                 rintro e w1 ⟨rfl, x1⟩
                 have e1 := eA.trans x1)
              | (go_at_call_of 103 (Value.slice P r.length pc)
                 refine (cLead w1 e1).mono ?_
                 rintro e w2 ⟨rfl, x2⟩
                 have e2 := e1.trans x2
                 dsimp only
                 refine (‹∀ (a : Act) (w : World), wpAny _ _ _ _ _ _ a w → _› : _) _ _ ?_
                 refine wpAny_take (i := 9) (v := .bool true) rfl (by kernel_rfl) (by kernel_rfl) (by kernel_rfl) (fun _ _ _ h => h) (Or.inl ⟨by kernel_rfl, fun w => by first | exact (show _ = Result.ok (Next.value (Value.bool (decide ((n : Int) = (n : Int))))) w by kernel_rfl).trans (by rw [decide_eq_true rfl]) | exact (show _ = Result.ok (Next.value (Value.bool ((n : Int) == (n : Int)))) w by kernel_rfl).trans (by rw [beq_self_eq_true])⟩) ?_
                 refine wpAny_take (i := 10) (v := .bool true) rfl (by kernel_rfl) (by kernel_rfl) (by kernel_rfl) (fun _ _ _ h => h) (Or.inl ⟨by kernel_rfl, fun w => by kernel_rfl⟩) ?_
                 refine wpAny_take (i := 11) (v := .bool true) rfl (by kernel_rfl) (by kernel_rfl) (by kernel_rfl) (fun _ _ _ h => h) (Or.inl ⟨by kernel_rfl, fun w => by kernel_rfl⟩) ?_
                 refine wpAny_take (i := 12) (v := undef) rfl (by kernel_rfl) (by kernel_rfl) (by kernel_rfl) (fun _ _ _ h => h) (Or.inr ⟨by kernel_rfl, rfl⟩) ?_
                 refine wpAny_take (i := 13) (v := undef) rfl (by kernel_rfl) (by kernel_rfl) (by kernel_rfl) (fun _ _ _ h => h) (Or.inr ⟨by kernel_rfl, rfl⟩) ?_
                 refine wpAny_take (i := 14) (v := undef) rfl (by kernel_rfl) (by kernel_rfl) (by kernel_rfl) (fun _ _ _ h => h) (Or.inr ⟨by kernel_rfl, rfl⟩) ?_
                 refine wpAny_take (i := 15) (v := undef) rfl (by kernel_rfl) (by kernel_rfl) (by kernel_rfl) (fun _ _ _ h => h) (Or.inr ⟨by kernel_rfl, rfl⟩) ?_
                 refine wpAny_take (i := 16) (v := undef) rfl (by kernel_rfl) (by kernel_rfl) (by kernel_rfl) (fun _ _ _ h => h) (Or.inr ⟨by kernel_rfl, rfl⟩) ?_
                 refine wpAny_take (i := 17) (v := undef) rfl (by kernel_rfl) (by kernel_rfl) (by kernel_rfl) (fun _ _ _ h => h) (Or.inr ⟨by kernel_rfl, rfl⟩) ?_
                 refine wpAny_take (i := 18) (v := undef) rfl (by kernel_rfl) (by kernel_rfl) (by kernel_rfl) (fun _ _ _ h => h) (Or.inr ⟨by kernel_rfl, rfl⟩) ?_
                 refine wpAny_take (i := 19) (v := undef) rfl (by kernel_rfl) (by kernel_rfl) (by kernel_rfl) (fun _ _ _ h => h) (Or.inr ⟨by kernel_rfl, rfl⟩) ?_
                 refine wpAny_take (i := 20) (v := .bool true) rfl (by kernel_rfl) (by kernel_rfl) (by kernel_rfl) (fun _ _ _ h => h) (Or.inl ⟨by kernel_rfl, fun w => by kernel_rfl⟩) ?_
                 refine wpAny_take (i := 21) (v := .bool true) rfl (by kernel_rfl) (by kernel_rfl) (by kernel_rfl) (fun _ _ _ h => h) (Or.inl ⟨by kernel_rfl, fun w => by kernel_rfl⟩) ?_
                 refine wpAny_take (i := 22) (v := undef) rfl (by kernel_rfl) (by kernel_rfl) (by kernel_rfl) (fun _ _ _ h => h) (Or.inr ⟨by kernel_rfl, rfl⟩) ?_
                 refine wpAny_take (i := 23) (v := undef) rfl (by kernel_rfl) (by kernel_rfl) (by kernel_rfl) (fun _ _ _ h => h) (Or.inr ⟨by kernel_rfl, rfl⟩) ?_
                 refine wpAny_take (i := 24) (v := undef) rfl (by kernel_rfl) (by kernel_rfl) (by kernel_rfl) (fun _ _ _ h => h) (Or.inr ⟨by kernel_rfl, rfl⟩) ?_
                 refine wpAny_take (i := 25) (v := undef) rfl (by kernel_rfl) (by kernel_rfl) (by kernel_rfl) (fun _ _ _ h => h) (Or.inr ⟨by kernel_rfl, rfl⟩) ?_
                 refine wpAny_take (i := 26) (v := undef) rfl (by kernel_rfl) (by kernel_rfl) (by kernel_rfl) (fun _ _ _ h => h) (Or.inr ⟨by kernel_rfl, rfl⟩) ?_
                 refine wpAny_take (i := 27) (v := undef) rfl (by kernel_rfl) (by kernel_rfl) (by kernel_rfl) (fun _ _ _ h => h) (Or.inr ⟨by kernel_rfl, rfl⟩) ?_
                 refine wpAny_take (i := 28) (v := undef) rfl (by kernel_rfl) (by kernel_rfl) (by kernel_rfl) (fun _ _ _ h => h) (Or.inr ⟨by kernel_rfl, rfl⟩) ?_
                 refine wpAny_take (i := 29) (v := undef) rfl (by kernel_rfl) (by kernel_rfl) (by kernel_rfl) (fun _ _ _ h => h) (Or.inr ⟨by kernel_rfl, rfl⟩) ?_
                 refine wpAny_take (i := 30) (v := undef) rfl (by kernel_rfl) (by kernel_rfl) (by kernel_rfl) (fun _ _ _ h => h) (Or.inr ⟨by kernel_rfl, rfl⟩) ?_
                 refine wpAny_take (i := 31) (v := undef) rfl (by kernel_rfl) (by kernel_rfl) (by kernel_rfl) (fun _ _ _ h => h) (Or.inr ⟨by kernel_rfl, rfl⟩) ?_
                 refine wpAny_take (i := 32) (v := undef) rfl (by kernel_rfl) (by kernel_rfl) (by kernel_rfl) (fun _ _ _ h => h) (Or.inr ⟨by kernel_rfl, rfl⟩) ?_
                 refine wpAny_take (i := 33) (v := undef) rfl (by kernel_rfl) (by kernel_rfl) (by kernel_rfl) (fun _ _ _ h => h) (Or.inr ⟨by kernel_rfl, rfl⟩) ?_
                 refine wpAny_take (i := 34) (v := undef) rfl (by kernel_rfl) (by kernel_rfl) (by kernel_rfl) (fun _ _ _ h => h) (Or.inr ⟨by kernel_rfl, rfl⟩) ?_))
          | fail "region"
          all_goals
            go_simp
            go_wp2_with fail
            go_ret
            exact ⟨false, rfl, ⟨fun e => Bool.noConfusion e, fun e => absurd e HNo.out⟩, he.trans e2⟩
        · have hll : leadF r < r.length := by have := leadF_le r; omega
          obtain ⟨g2, off2, x, Q, qc, Q', qc', rfl, hx, c0, c1, hQ, hQ'⟩ := hP.frac hll
          have hel : (frOps p).el r (leadF r) = x := (frOps p).el_in hx
          obtain ⟨L, hL⟩ : ∃ L, leadF r = L := ⟨_, rfl⟩
          have HLn := Lib.hid hld
          rw [hL] at c0 c1 hll cLead
          have HL := Lib.hid hL
          have Hel := Lib.hid hel
          have Hrn := Lib.hid hrn
          have hldb : decide ((L : Int) = (n : Int)) = false := by simp; omega
          have hldb2 : ((L : Int) == (n : Int)) = false := by simp; omega
          have cSame : ∀ (A4 B4 : Option Addr) (c4 k4 : Nat) (W : World), Ex wr W → Rd W A4 oF.n → Rd W B4 oF.d → Calls Tryd.prog 104 #[.agg #[.slice Q x.n.length qc, .slice Q' x.d.length qc'], .agg #[.slice A4 oF.n.length c4, .slice B4 oF.d.length k4]] W fun e w' => e = .returned (.bool (decide (x.n = oF.n) && decide (x.d = oF.d))) ∧ Ex W w' := fun A4 B4 c4 k4 W hW r1 r2 =>
            frSame_c Q Q' A4 B4 qc qc' c4 k4 x oF W (hQ.ex hW) (hQ'.ex hW) r1 r2
          clear hx hel hld hL hrn
          cases hone : (decide (x.n = oF.n) && decide (x.d = oF.d)) with
          | false =>
            rw [hone] at cSame
            have HNo := Lib.hid (HN.out fun h1 => by
              have := h1.2.2.1
              rw [Hel.out] at this
              rw [fra_eq.2 this] at hone
              cases hone)
            clear hone HN
            go_wp2_with fail
            first
            | go_region_with (first
                | (go_at_call 102
                   refine (cGood _ eA).mono ?_
                   rintro e w1 ⟨rfl, x1⟩
                   have e1 := eA.trans x1)
                | (go_at_call_of 103 (Value.slice (some ⟨g2, off2, none⟩) r.length pc)
                   refine (cLead w1 e1).mono ?_
                   rintro e w2 ⟨rfl, x2⟩
                   have e2 := e1.trans x2)
                | (go_at_call_of 103 (Value.slice (some ⟨g2, off2, none⟩) r.length pc)
                   refine (cLead w2 e2).mono ?_
                   rintro e w3 ⟨rfl, x3⟩
                   have e3 := e2.trans x3
                   have d0 := cell_ex e3 c0
                   have d1 := cell_ex e3 c1)
                | (go_at_call 105
                   refine (frOne_c w3).mono ?_
                   rintro e w4 ⟨A4, c4, B4, k4, rfl, f4, g4, ap4, x4⟩
                   have e4 := e3.trans x4
                   have d2 := cell_ex e4 c0
                   have d3 := cell_ex e4 c1)
                | (go_at_call 104
                   refine (cSame A4 B4 c4 k4 w4 e4 f4.rd g4.rd).mono ?_
                   rintro e w5 ⟨rfl, x5⟩
                   have e5 := e4.trans x5
                   dsimp only
                   refine (‹∀ (a : Act) (w : World), wpAny _ _ _ _ _ _ a w → _› : _) _ _ ?_
                   refine wpAny_take (i := 19) (v := .bool true) rfl (by kernel_rfl) (by kernel_rfl) (by kernel_rfl) (fun _ _ _ h => h) (Or.inl ⟨by kernel_rfl, fun w => by kernel_rfl⟩) ?_
                   refine wpAny_take (i := 20) (v := .bool true) rfl (by kernel_rfl) (by kernel_rfl) (by kernel_rfl) (fun _ _ _ h => h) (Or.inl ⟨by kernel_rfl, fun w => by kernel_rfl⟩) ?_
                   refine wpAny_take (i := 21) (v := .bool true) rfl (by kernel_rfl) (by kernel_rfl) (by kernel_rfl) (fun _ _ _ h => h) (Or.inl ⟨by kernel_rfl, fun w => by kernel_rfl⟩) ?_
                   refine wpAny_take (i := 22) (v := undef) rfl (by kernel_rfl) (by kernel_rfl) (by kernel_rfl) (fun _ _ _ h => h) (Or.inr ⟨by kernel_rfl, rfl⟩) ?_
                   refine wpAny_take (i := 23) (v := undef) rfl (by kernel_rfl) (by kernel_rfl) (by kernel_rfl) (fun _ _ _ h => h) (Or.inr ⟨by kernel_rfl, rfl⟩) ?_
                   refine wpAny_take (i := 24) (v := undef) rfl (by kernel_rfl) (by kernel_rfl) (by kernel_rfl) (fun _ _ _ h => h) (Or.inr ⟨by kernel_rfl, rfl⟩) ?_
                   refine wpAny_take (i := 25) (v := undef) rfl (by kernel_rfl) (by kernel_rfl) (by kernel_rfl) (fun _ _ _ h => h) (Or.inr ⟨by kernel_rfl, rfl⟩) ?_
                   refine wpAny_take (i := 26) (v := undef) rfl (by kernel_rfl) (by kernel_rfl) (by kernel_rfl) (fun _ _ _ h => h) (Or.inr ⟨by kernel_rfl, rfl⟩) ?_
                   refine wpAny_take (i := 27) (v := undef) rfl (by kernel_rfl) (by kernel_rfl) (by kernel_rfl) (fun _ _ _ h => h) (Or.inr ⟨by kernel_rfl, rfl⟩) ?_
                   refine wpAny_take (i := 28) (v := undef) rfl (by kernel_rfl) (by kernel_rfl) (by kernel_rfl) (fun _ _ _ h => h) (Or.inr ⟨by kernel_rfl, rfl⟩) ?_
                   refine wpAny_take (i := 29) (v := undef) rfl (by kernel_rfl) (by kernel_rfl) (by kernel_rfl) (fun _ _ _ h => h) (Or.inr ⟨by kernel_rfl, rfl⟩) ?_
                   refine wpAny_take (i := 30) (v := undef) rfl (by kernel_rfl) (by kernel_rfl) (by kernel_rfl) (fun _ _ _ h => h) (Or.inr ⟨by kernel_rfl, rfl⟩) ?_
                   refine wpAny_take (i := 31) (v := undef) rfl (by kernel_rfl) (by kernel_rfl) (by kernel_rfl) (fun _ _ _ h => h) (Or.inr ⟨by kernel_rfl, rfl⟩) ?_
                   refine wpAny_take (i := 32) (v := undef) rfl (by kernel_rfl) (by kernel_rfl) (by kernel_rfl) (fun _ _ _ h => h) (Or.inr ⟨by kernel_rfl, rfl⟩) ?_
                   refine wpAny_take (i := 33) (v := undef) rfl (by kernel_rfl) (by kernel_rfl) (by kernel_rfl) (fun _ _ _ h => h) (Or.inr ⟨by kernel_rfl, rfl⟩) ?_
                   refine wpAny_take (i := 34) (v := undef) rfl (by kernel_rfl) (by kernel_rfl) (by kernel_rfl) (fun _ _ _ h => h) (Or.inr ⟨by kernel_rfl, rfl⟩) ?_))
            | fail "region"
            all_goals
              go_simp
              go_wp2_with fail
              go_ret
              exact ⟨false, rfl, ⟨fun e => Bool.noConfusion e, fun e => absurd e HNo.out⟩, he.trans e5⟩
          | true =>
            rw [hone] at cSame
            have Hone := Lib.hid (fra_eq.1 hone)
            clear hone
            by_cases hk0 : k = 0
            · subst hk0
              rw [Nat.add_zero] at b0
              clear HN
              go_wp2_with fail
              first
              | go_region_with (first
                  | (go_at_call 102
                     refine (cGood _ eA).mono ?_
                     rintro e w1 ⟨rfl, x1⟩
                     have e1 := eA.trans x1)
                  | (go_at_call_of 103 (Value.slice (some ⟨g2, off2, none⟩) r.length pc)
                     refine (cLead w1 e1).mono ?_
                     rintro e w2 ⟨rfl, x2⟩
                     have e2 := e1.trans x2)
                  | (go_at_call_of 103 (Value.slice (some ⟨g2, off2, none⟩) r.length pc)
                     refine (cLead w2 e2).mono ?_
                     rintro e w3 ⟨rfl, x3⟩
                     have e3 := e2.trans x3
                     have d0 := cell_ex e3 c0
                     have d1 := cell_ex e3 c1)
                  | (go_at_call 105
                     refine (frOne_c w3).mono ?_
                     rintro e w4 ⟨A4, c4, B4, k4, rfl, f4, g4, ap4, x4⟩
                     have e4 := e3.trans x4
                     have d2 := cell_ex e4 c0
                     have d3 := cell_ex e4 c1)
                  | (go_at_call 104
                     refine (cSame A4 B4 c4 k4 w4 e4 f4.rd g4.rd).mono ?_
                     rintro e w5 ⟨rfl, x5⟩
                     have e5 := e4.trans x5
                     dsimp only
                     refine (‹∀ (a : Act) (w : World), wpAny _ _ _ _ _ _ a w → _› : _) _ _ ?_
                     refine wpAny_take (i := 19) (v := .bool false) rfl (by kernel_rfl) (by kernel_rfl) (by kernel_rfl) (fun _ _ _ h => h) (Or.inl ⟨by kernel_rfl, fun w => by kernel_rfl⟩) ?_
                     refine wpAny_take (i := 20) (v := .bool false) rfl (by kernel_rfl) (by kernel_rfl) (by kernel_rfl) (fun _ _ _ h => h) (Or.inl ⟨by kernel_rfl, fun w => by kernel_rfl⟩) ?_
                     refine wpAny_take (i := 21) (v := .bool false) rfl (by kernel_rfl) (by kernel_rfl) (by kernel_rfl) (fun _ _ _ h => h) (Or.inl ⟨by kernel_rfl, fun w => by kernel_rfl⟩) ?_
                     refine wpAny_take (i := 22) (v := .int .i64 0) rfl (by kernel_rfl) (by kernel_rfl) (by kernel_rfl) (fun _ _ _ h => h) (Or.inl ⟨by kernel_rfl, fun w => by kernel_rfl⟩) ?_
                     refine wpAny_take (i := 23) (v := .bool false) rfl (by kernel_rfl) (by kernel_rfl) (by kernel_rfl) (fun _ _ _ h => h) (Or.inl ⟨by kernel_rfl, fun w => by kernel_rfl⟩) ?_
                     refine wpAny_take (i := 24) (v := .bool false) rfl (by kernel_rfl) (by kernel_rfl) (by kernel_rfl) (fun _ _ _ h => h) (Or.inl ⟨by kernel_rfl, fun w => by kernel_rfl⟩) ?_
                     refine wpAny_take (i := 25) (v := undef) rfl (by kernel_rfl) (by kernel_rfl) (by kernel_rfl) (fun _ _ _ h => h) (Or.inr ⟨by kernel_rfl, rfl⟩) ?_
                     refine wpAny_take (i := 26) (v := undef) rfl (by kernel_rfl) (by kernel_rfl) (by kernel_rfl) (fun _ _ _ h => h) (Or.inr ⟨by kernel_rfl, rfl⟩) ?_
                     refine wpAny_take (i := 27) (v := undef) rfl (by kernel_rfl) (by kernel_rfl) (by kernel_rfl) (fun _ _ _ h => h) (Or.inr ⟨by kernel_rfl, rfl⟩) ?_
                     refine wpAny_take (i := 28) (v := undef) rfl (by kernel_rfl) (by kernel_rfl) (by kernel_rfl) (fun _ _ _ h => h) (Or.inr ⟨by kernel_rfl, rfl⟩) ?_
                     refine wpAny_take (i := 29) (v := undef) rfl (by kernel_rfl) (by kernel_rfl) (by kernel_rfl) (fun _ _ _ h => h) (Or.inr ⟨by kernel_rfl, rfl⟩) ?_
                     refine wpAny_take (i := 30) (v := undef) rfl (by kernel_rfl) (by kernel_rfl) (by kernel_rfl) (fun _ _ _ h => h) (Or.inr ⟨by kernel_rfl, rfl⟩) ?_
                     refine wpAny_take (i := 31) (v := undef) rfl (by kernel_rfl) (by kernel_rfl) (by kernel_rfl) (fun _ _ _ h => h) (Or.inr ⟨by kernel_rfl, rfl⟩) ?_
                     refine wpAny_take (i := 32) (v := undef) rfl (by kernel_rfl) (by kernel_rfl) (by kernel_rfl) (fun _ _ _ h => h) (Or.inr ⟨by kernel_rfl, rfl⟩) ?_
                     refine wpAny_take (i := 33) (v := undef) rfl (by kernel_rfl) (by kernel_rfl) (by kernel_rfl) (fun _ _ _ h => h) (Or.inr ⟨by kernel_rfl, rfl⟩) ?_
                     refine wpAny_take (i := 34) (v := .bool false) rfl (by kernel_rfl) (by kernel_rfl) (by kernel_rfl) (fun _ _ _ h => h) (Or.inl ⟨by kernel_rfl, fun w => by kernel_rfl⟩) ?_))
              | fail "region"
              all_goals
                go_simp
                go_wp2_with fail
                go_roundw
                case rel => exact ⟨1, by omega, by go_num, Lib.hid (fun j r' hj hr' => by
                  obtain rfl : j = 0 := by omega
                  rw [Hr.out] at hr'
                  injection hr' with hr'
                  subst hr'
                  exact ⟨Hgood.out, HLn.out, by rw [Hel.out]; exact Hone.out, fun u h0 => by omega⟩), he.trans e5⟩
                case measure => simp [intOf] <;> omega
            · obtain ⟨j, Hj⟩ : ∃ j, Hid (j + 1 = k) := ⟨k - 1, Lib.hid (by omega)⟩
              have hjl : j < rows.length := by have := Hj.out; omega
              have hw : IntKind.i64.wrap ((k : Int) - 1) = (j : Int) := by have := Hj.out; rw [IntWalk.i64_in _ (by omega)]; omega
              have hkp : (0 : Int) < (k : Int) := by omega
              have hkb : decide ((0 : Int) < (k : Int)) = true := decide_eq_true hkp
              obtain ⟨g', off', u, v', eg, hu, b1, hv'⟩ := (h.ex he).fracs hjl
              injection eg with eg
              injection eg with eg1 eg2
              subst eg1 eg2
              obtain ⟨P1, pc1, rfl, hP1⟩ := hv'.form
              have Hu := Lib.hid hu
              clear hu hv'
              obtain ⟨L1, hL1⟩ : ∃ L1, leadF u = L1 := ⟨_, rfl⟩
              have HL1 := Lib.hid hL1
              have cLead1 : ∀ W, Ex wr W → Calls Tryd.prog 103 #[.slice P1 u.length pc1] W fun e w' => e = .returned (.int .i64 L1) ∧ Ex W w' := fun W hW => by
                have := rrLead_c P1 pc1 u W (hP1.ex hW)
                rw [hL1] at this
                exact this
              clear hL1
              by_cases hlt1 : L1 < L
              · have hgb : decide (L ≤ L1) = false := decide_eq_false (by omega)
                have hgn : ¬ L ≤ L1 := by omega
                have Hlt1 := Lib.hid hlt1
                clear HN hlt1
                go_wp2_with fail
                first
                | go_region_with (first
                    | (go_at_call 102
                       refine (cGood _ eA).mono ?_
                       rintro e w1 ⟨rfl, x1⟩
                       have e1 := eA.trans x1)
                    | (go_at_call_of 103 (Value.slice (some ⟨g2, off2, none⟩) r.length pc)
                       refine (cLead w1 e1).mono ?_
                       rintro e w2 ⟨rfl, x2⟩
                       have e2 := e1.trans x2)
                    | (go_at_call_of 103 (Value.slice (some ⟨g2, off2, none⟩) r.length pc)
                       refine (cLead w2 e2).mono ?_
                       rintro e w3 ⟨rfl, x3⟩
                       have e3 := e2.trans x3
                       have d0 := cell_ex e3 c0
                       have d1 := cell_ex e3 c1)
                    | (go_at_call 105
                       refine (frOne_c w3).mono ?_
                       rintro e w4 ⟨A4, c4, B4, k4, rfl, f4, g4, ap4, x4⟩
                       have e4 := e3.trans x4
                       have d2 := cell_ex e4 c0
                       have d3 := cell_ex e4 c1)
                    | (go_at_call 104
                       refine (cSame A4 B4 c4 k4 w4 e4 f4.rd g4.rd).mono ?_
                       rintro e w5 ⟨rfl, x5⟩
                       have e5 := e4.trans x5
                       have b5 := cell_ex e5 b1
                       dsimp only
                       refine (‹∀ (a : Act) (w : World), wpAny _ _ _ _ _ _ a w → _› : _) _ _ ?_
                       refine wpAny_take (i := 19) (v := .bool false) rfl (by kernel_rfl) (by kernel_rfl) (by kernel_rfl) (fun _ _ _ h => h) (Or.inl ⟨by kernel_rfl, fun w => by kernel_rfl⟩) ?_
                       refine wpAny_take (i := 20) (v := .bool false) rfl (by kernel_rfl) (by kernel_rfl) (by kernel_rfl) (fun _ _ _ h => h) (Or.inl ⟨by kernel_rfl, fun w => by kernel_rfl⟩) ?_
                       refine wpAny_take (i := 21) (v := .bool false) rfl (by kernel_rfl) (by kernel_rfl) (by kernel_rfl) (fun _ _ _ h => h) (Or.inl ⟨by kernel_rfl, fun w => by kernel_rfl⟩) ?_
                       refine wpAny_take (i := 22) (v := .int .i64 k) rfl (by kernel_rfl) (by kernel_rfl) (by kernel_rfl) (fun _ _ _ h => h) (Or.inl ⟨by kernel_rfl, fun w => by kernel_rfl⟩) ?_
                       refine wpAny_take (i := 23) (v := .bool true) rfl (by kernel_rfl) (by kernel_rfl) (by kernel_rfl) (fun _ _ _ h => h) (Or.inl ⟨by kernel_rfl, fun w => by first | exact (show _ = Result.ok (Next.value (Value.bool (decide ((0 : Int) < (k : Int))))) w by kernel_rfl).trans (by rw [hkb]) | exact (show _ = Result.ok (Next.value (Value.bool (decide ((k : Int) > 0)))) w by kernel_rfl).trans (by rw [show decide ((k : Int) > 0) = true from hkb])⟩) ?_
                       refine wpAny_take (i := 24) (v := .bool true) rfl (by kernel_rfl) (by kernel_rfl) (by kernel_rfl) (fun _ _ _ h => h) (Or.inl ⟨by kernel_rfl, fun w => by kernel_rfl⟩) ?_
                       refine wpAny_take (i := 31) (v := .slice (some ⟨g2, off2, none⟩) r.length pc) rfl (by kernel_rfl) (by kernel_rfl) (by kernel_rfl) (fun _ _ _ h => h) (Or.inl ⟨by kernel_rfl, fun w => by kernel_rfl⟩) ?_
                       refine wpAny_take (i := 25) (v := .slice (some ⟨g, off, none⟩) rows.length c) rfl (by kernel_rfl) (by kernel_rfl) (by kernel_rfl) (fun _ _ _ h => h) (Or.inl ⟨by kernel_rfl, fun w => by kernel_rfl⟩) ?_
                       refine wpAny_take (i := 26) (v := .int .i64 k) rfl (by kernel_rfl) (by kernel_rfl) (by kernel_rfl) (fun _ _ _ h => h) (Or.inl ⟨by kernel_rfl, fun w => by kernel_rfl⟩) ?_
                       refine wpAny_take (i := 27) (v := .int .i64 j) rfl (by kernel_rfl) (by kernel_rfl) (by kernel_rfl) (fun _ _ _ h => h) (Or.inl ⟨by kernel_rfl, fun w => (show _ = Result.ok (Next.value (Value.int .i64 (IntKind.i64.wrap ((k : Int) - 1)))) w by kernel_rfl).trans (by rw [hw])⟩) ?_
                       refine wpAny_take (i := 28) (v := .pointer (some ⟨g, off + j, none⟩)) rfl (by kernel_rfl) (by kernel_rfl) (by kernel_rfl) (fun _ _ _ h => h) (Or.inl ⟨by kernel_rfl, fun w => by go_simp⟩) ?_)
                    | (go_at_call_of 103 (Value.slice P1 u.length pc1)
                       refine (cLead1 w5 e5).mono ?_
                       rintro e w6 ⟨rfl, x6⟩
                       have e6 := e5.trans x6)
                    | (go_at_call_of 103 (Value.slice (some ⟨g2, off2, none⟩) r.length pc)
                       refine (cLead w6 e6).mono ?_
                       rintro e w7 ⟨rfl, x7⟩
                       have e7 := e6.trans x7))
                | fail "region"
                all_goals
                  clear hw hkb hkp hgb hgn hldb hldb2 hk0
                  go_simp
                  go_wp2_with fail
                  go_roundw
                  case rel => exact ⟨k + 1, by omega, by go_num, Lib.hid (fun j' r' hj hr' => by
                    by_cases e : j' < k
                    · exact Hall.out j' r' e hr'
                    · obtain rfl : j' = k := by omega
                      rw [Hr.out] at hr'
                      injection hr' with hr'
                      subst hr'
                      exact ⟨Hgood.out, HLn.out, by rw [Hel.out]; exact Hone.out, fun u' h0 hu' => by
                        rw [show j' - 1 = j by have := Hj.out; omega, Hu.out] at hu'
                        injection hu' with hu'
                        subst hu'
                        rw [HL1.out, HL.out]; exact Hlt1.out⟩), he.trans e7⟩
                  case measure => simp [intOf] <;> omega
              · have hgb : decide (L ≤ L1) = true := decide_eq_true (by omega)
                have hgn : L ≤ L1 := by omega
                have HNo := Lib.hid (HN.out fun h1 => hlt1 (by
                  have := h1.2.2.2 u (by omega) (by rw [show k - 1 = j by have := Hj.out; omega]; exact Hu.out)
                  rw [HL1.out, HL.out] at this
                  exact this))
                clear HN hlt1
                go_wp2_with fail
                first
                | go_region_with (first
                    | (go_at_call 102
                       refine (cGood _ eA).mono ?_
                       rintro e w1 ⟨rfl, x1⟩
                       have e1 := eA.trans x1)
                    | (go_at_call_of 103 (Value.slice (some ⟨g2, off2, none⟩) r.length pc)
                       refine (cLead w1 e1).mono ?_
                       rintro e w2 ⟨rfl, x2⟩
                       have e2 := e1.trans x2)
                    | (go_at_call_of 103 (Value.slice (some ⟨g2, off2, none⟩) r.length pc)
                       refine (cLead w2 e2).mono ?_
                       rintro e w3 ⟨rfl, x3⟩
                       have e3 := e2.trans x3
                       have d0 := cell_ex e3 c0
                       have d1 := cell_ex e3 c1)
                    | (go_at_call 105
                       refine (frOne_c w3).mono ?_
                       rintro e w4 ⟨A4, c4, B4, k4, rfl, f4, g4, ap4, x4⟩
                       have e4 := e3.trans x4
                       have d2 := cell_ex e4 c0
                       have d3 := cell_ex e4 c1)
                    | (go_at_call 104
                       refine (cSame A4 B4 c4 k4 w4 e4 f4.rd g4.rd).mono ?_
                       rintro e w5 ⟨rfl, x5⟩
                       have e5 := e4.trans x5
                       have b5 := cell_ex e5 b1
                       dsimp only
                       refine (‹∀ (a : Act) (w : World), wpAny _ _ _ _ _ _ a w → _› : _) _ _ ?_
                       refine wpAny_take (i := 19) (v := .bool false) rfl (by kernel_rfl) (by kernel_rfl) (by kernel_rfl) (fun _ _ _ h => h) (Or.inl ⟨by kernel_rfl, fun w => by kernel_rfl⟩) ?_
                       refine wpAny_take (i := 20) (v := .bool false) rfl (by kernel_rfl) (by kernel_rfl) (by kernel_rfl) (fun _ _ _ h => h) (Or.inl ⟨by kernel_rfl, fun w => by kernel_rfl⟩) ?_
                       refine wpAny_take (i := 21) (v := .bool false) rfl (by kernel_rfl) (by kernel_rfl) (by kernel_rfl) (fun _ _ _ h => h) (Or.inl ⟨by kernel_rfl, fun w => by kernel_rfl⟩) ?_
                       refine wpAny_take (i := 22) (v := .int .i64 k) rfl (by kernel_rfl) (by kernel_rfl) (by kernel_rfl) (fun _ _ _ h => h) (Or.inl ⟨by kernel_rfl, fun w => by kernel_rfl⟩) ?_
                       refine wpAny_take (i := 23) (v := .bool true) rfl (by kernel_rfl) (by kernel_rfl) (by kernel_rfl) (fun _ _ _ h => h) (Or.inl ⟨by kernel_rfl, fun w => by first | exact (show _ = Result.ok (Next.value (Value.bool (decide ((0 : Int) < (k : Int))))) w by kernel_rfl).trans (by rw [hkb]) | exact (show _ = Result.ok (Next.value (Value.bool (decide ((k : Int) > 0)))) w by kernel_rfl).trans (by rw [show decide ((k : Int) > 0) = true from hkb])⟩) ?_
                       refine wpAny_take (i := 24) (v := .bool true) rfl (by kernel_rfl) (by kernel_rfl) (by kernel_rfl) (fun _ _ _ h => h) (Or.inl ⟨by kernel_rfl, fun w => by kernel_rfl⟩) ?_
                       refine wpAny_take (i := 31) (v := .slice (some ⟨g2, off2, none⟩) r.length pc) rfl (by kernel_rfl) (by kernel_rfl) (by kernel_rfl) (fun _ _ _ h => h) (Or.inl ⟨by kernel_rfl, fun w => by kernel_rfl⟩) ?_
                       refine wpAny_take (i := 25) (v := .slice (some ⟨g, off, none⟩) rows.length c) rfl (by kernel_rfl) (by kernel_rfl) (by kernel_rfl) (fun _ _ _ h => h) (Or.inl ⟨by kernel_rfl, fun w => by kernel_rfl⟩) ?_
                       refine wpAny_take (i := 26) (v := .int .i64 k) rfl (by kernel_rfl) (by kernel_rfl) (by kernel_rfl) (fun _ _ _ h => h) (Or.inl ⟨by kernel_rfl, fun w => by kernel_rfl⟩) ?_
                       refine wpAny_take (i := 27) (v := .int .i64 j) rfl (by kernel_rfl) (by kernel_rfl) (by kernel_rfl) (fun _ _ _ h => h) (Or.inl ⟨by kernel_rfl, fun w => (show _ = Result.ok (Next.value (Value.int .i64 (IntKind.i64.wrap ((k : Int) - 1)))) w by kernel_rfl).trans (by rw [hw])⟩) ?_
                       refine wpAny_take (i := 28) (v := .pointer (some ⟨g, off + j, none⟩)) rfl (by kernel_rfl) (by kernel_rfl) (by kernel_rfl) (fun _ _ _ h => h) (Or.inl ⟨by kernel_rfl, fun w => by go_simp⟩) ?_)
                    | (go_at_call_of 103 (Value.slice P1 u.length pc1)
                       refine (cLead1 w5 e5).mono ?_
                       rintro e w6 ⟨rfl, x6⟩
                       have e6 := e5.trans x6)
                    | (go_at_call_of 103 (Value.slice (some ⟨g2, off2, none⟩) r.length pc)
                       refine (cLead w6 e6).mono ?_
                       rintro e w7 ⟨rfl, x7⟩
                       have e7 := e6.trans x7))
                | fail "region"
                all_goals
                  clear hw hkb hkp hgb hgn hldb hldb2 hk0
                  go_simp
                  go_wp2_with fail
                  go_ret
                  exact ⟨false, rfl, ⟨fun e => Bool.noConfusion e, fun e => absurd e HNo.out⟩, he.trans e7⟩
    · obtain rfl : k = rows.length := by omega
      have H1 := Lib.hid (show ∀ (j : Nat) (r : List Fra), rows[j]? = some r → OK1 p n rows j r from fun j r hr => Hall.out j r (List.getElem?_eq_some_iff.1 hr).1 hr)
      clear Hall
      go_wp2_with fail
      go_loopw [59] (fun i wr => ∃ k : Nat, k ≤ rows.length ∧ i = .int .i64 k ∧ Hid (∀ (i j : Nat), i < k → j < rows.length → OK2 p rows i j) ∧ Ex w wr) (fun i _ => rows.length - (intOf i).toNat)
      case atStart => exact ⟨0, Nat.zero_le _, rfl, Lib.hid (fun i j h => by omega), he⟩
      case round =>
        clear he
        obtain ⟨k, hk, rfl, H2, he⟩ := hrel
        by_cases hlt : k < rows.length
        · obtain ⟨g, off, r, v, rfl, hr, b0, hv⟩ := (h.ex he).fracs hlt
          obtain ⟨P, pc, rfl, hP⟩ := hv.form
          have Hr := Lib.hid hr
          clear hr hv
          obtain ⟨L, hL⟩ : ∃ L, leadF r = L := ⟨_, rfl⟩
          have HL := Lib.hid hL
          have hLn : L < n := by
            have q := H1.out k r Hr.out
            have := leadF_le r
            have q1 := q.1
            rw [okRow, Bool.and_eq_true, decide_eq_true_eq] at q1
            have := q.2.1
            omega
          clear hL
          go_wp2_with fail
          go_loopw [66] (fun i wr => ∃ j : Nat, j ≤ rows.length ∧ i = .int .i64 j ∧ Hid (∀ (j' : Nat), j' < j → OK2 p rows k j') ∧ RdS EF wr P r ∧ Ex w wr) (fun i _ => rows.length - (intOf i).toNat)
          case atStart => exact ⟨0, Nat.zero_le _, rfl, Lib.hid (fun j h => by omega), hP, he⟩
          case round =>
            clear hP
            obtain ⟨j, hj, rfl, H3, hP, he2⟩ := hrel
            by_cases hlt2 : j < rows.length
            · by_cases hij : k = j
              · subst hij
                have hb1 : ((k : Int) != (k : Int)) = false := by simp
                obtain ⟨g2, off2, s, v2, eg2, hs, b2, hv2⟩ := (h.ex he2).fracs hlt2
                injection eg2 with eg2
                injection eg2 with e1 e2
                subst e1 e2
                obtain ⟨P2, pc2, rfl, hP2⟩ := hv2.form
                clear hs hv2
                go_wp2_with fail
                refine ⟨⟨k + 1, by omega, by go_num, Lib.hid (fun j' hj' => by
                  by_cases e : j' < k
                  · exact H3.out j' e
                  · obtain rfl : j' = k := by omega
                    exact fun u v _ _ hne => absurd rfl hne), hP, he2⟩, ?_⟩
                simp [intOf] <;> omega
              · have hijb : ((k : Int) != (j : Int)) = true := by simp; omega
                have Hij := Lib.hid hij
                clear hij
                obtain ⟨g2, off2, s, v2, eg2, hs, b2, hv2⟩ := (h.ex he2).fracs hlt2
                injection eg2 with eg2
                injection eg2 with e1 e2
                subst e1 e2
                obtain ⟨P2, pc2, rfl, hP2⟩ := hv2.form
                have hsl : L < s.length := by
                  have q1 := (H1.out j s hs).1
                  rw [okRow, Bool.and_eq_true, decide_eq_true_eq] at q1
                  omega
                obtain ⟨g3, off3, x, Q, qc, Q', qc', rfl, hx, c0, c1, hQ, hQ'⟩ := hP2.frac hsl
                have Hs := Lib.hid hs
                have Hx := Lib.hid hx
                clear hs hv2 hx
                have eA := (Ex.refl wr).drew
                have cLead : ∀ W, Ex wr W → Calls Tryd.prog 103 #[.slice P r.length pc] W fun e w' => e = .returned (.int .i64 L) ∧ Ex W w' := fun W hW => by
                  have := rrLead_c P pc r W (hP.ex hW)
                  rw [HL.out] at this
                  exact this
                have cZero : ∀ W, Ex wr W → Calls Tryd.prog 106 #[.agg #[.slice Q x.n.length qc, .slice Q' x.d.length qc']] W fun e w' => e = .returned (.bool (iszF x)) ∧ Ex W w' := fun W hW => rrIsZero_c Q Q' qc qc' x W hQ.len
                cases hz : iszF x with
                | true =>
                  rw [hz] at cZero
                  have Hz := Lib.hid hz
                  clear hz
                  go_wp2_with fail
                  refine (cLead _ (Ex.refl _)).mono ?_
                  rintro e w1 ⟨rfl, x1⟩
                  have d0 := cell_ex x1 c0
                  have d1 := cell_ex x1 c1
                  go_wp2_with fail
                  refine (cZero w1 x1).mono ?_
                  rintro e w2 ⟨rfl, x2⟩
                  have e2 := x1.trans x2
                  go_wp2_with fail
                  go_roundw
                  case rel => exact ⟨j + 1, by omega, by go_num, Lib.hid (fun j' hj' => by
                      by_cases e : j' < j
                      · exact H3.out j' e
                      · obtain rfl : j' = j := by omega
                        intro u v hu hv _
                        rw [Hr.out] at hu
                        rw [Hs.out] at hv
                        injection hu with hu
                        injection hv with hv
                        subst hu hv
                        rw [HL.out, (frOps p).el_in Hx.out]
                        exact Hz.out), hP.ex e2, he2.trans e2⟩
                  case measure => simp [intOf] <;> omega
                | false =>
                  rw [hz] at cZero
                  have HNo := Lib.hid (show ¬ (okRows p n rows = true ∧ RrP (frOps p) n rows) from fun h1 => by
                    have := rris_ok2 h1 k j r s Hr.out Hs.out Hij.out
                    rw [HL.out, (frOps p).el_in Hx.out] at this
                    have hz' : iszF x = true := this
                    rw [hz] at hz'
                    cases hz')
                  clear hz
                  go_wp2_with fail
                  refine (cLead _ (Ex.refl _)).mono ?_
                  rintro e w1 ⟨rfl, x1⟩
                  have d0 := cell_ex x1 c0
                  have d1 := cell_ex x1 c1
                  go_wp2_with fail
                  refine (cZero w1 x1).mono ?_
                  rintro e w2 ⟨rfl, x2⟩
                  have e2 := x1.trans x2
                  go_wp2_with fail
                  go_ret
                  exact ⟨false, rfl, ⟨fun e => Bool.noConfusion e, fun e => absurd e HNo.out⟩, he2.trans e2⟩
            · obtain rfl : j = rows.length := by omega
              go_wp2_with fail
              go_roundw
              case rel => exact ⟨k + 1, by omega, by go_num, Lib.hid (fun i' j' hi' hj' => by
                by_cases e : i' < k
                · exact H2.out i' j' e hj'
                · obtain rfl : i' = k := by omega
                  exact H3.out j' hj'), he2⟩
              case measure => simp [intOf] <;> omega
        · obtain rfl : k = rows.length := by omega
          have HY := Lib.hid (rris_all (p := p) (n := n) H1.out fun i j hi hj => H2.out i j hi hj)
          go_wp2_with fail
          go_ret
          exact ⟨true, rfl, ⟨fun _ => HY.out, fun _ => rfl⟩, he⟩
end Go.Proofs.YtmekhjnhcgmphaaDoor
