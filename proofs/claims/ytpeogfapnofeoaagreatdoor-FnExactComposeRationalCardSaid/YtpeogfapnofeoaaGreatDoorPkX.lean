/- Linear combinations of rows in the reference. A row that is turned in place while the call's older blocks stay; the reference's null lists. What the program's steps of a composition are in the reference's terms. Linear combinations of rows in the program. The unit rows that the program lays beside. Unit rows as rows of a call's own; two lists of rows as what an elimination turns. Lists whose product with rows is zero: the program's ratKernel. -/
import Derived.Test.YtpeogfapnofeoaaGreatDoorPkW
import Derived.Test.YtpeogfapnofeoaaGreatDoorPkU
import Derived.Test.YtpeogfapnofeoaaGreatDoorPkH
namespace Go.Proofs.YtpeogfapnofeoaaGreatDoor
set_option maxRecDepth 100000
open Go Go.RowKit
theorem GE.rds {w : World} {B H m c : Nat} {P : Option Addr} {xs : List Fra} (h : GE ELF 58 w B H (.slice P m c) xs) (hl : xs.length ≤ 1099511627776) : RdS EF w P xs := by
  obtain ⟨A, c', e, _, o⟩ := h.ox (E' := EXF) hl rfl elf_exf
  injection e with e1 _ _
  subst e1
  exact o.rds rfl exf_rd
/-- The sum of the first t. -/
def sumT (p : Int) (n : Nat) (k : List Fra) (R : List (List Fra)) (t : Nat) : List Fra := ((k.zip R).take t).foldl (fun v q => (frOps p).less v ((frOps p).neg q.1) q.2) (List.replicate n zF)
theorem sumT_len {p : Int} {n : Nat} {k : List Fra} {R : List (List Fra)} (hW : Wid n R) : ∀ t, (sumT p n k R t).length = n
  | 0 => by unfold sumT; rw [List.take_zero]; exact List.length_replicate ..
  | t + 1 => by
    have ih := sumT_len (p := p) (k := k) hW t
    unfold sumT at ih ⊢
    rw [List.take_add_one]
    cases hz : (k.zip R)[t]? with
    | none => rw [Option.toList_none, List.append_nil]; exact ih
    | some q =>
      rw [Option.toList_some, List.foldl_append]
      exact less_len _ ih (hW q.2 (List.mem_of_getElem? (List.getElem?_zip_eq_some.1 hz).2)) _
theorem sumT_succ {p : Int} {n : Nat} {k : List Fra} {R : List (List Fra)} {t : Nat} {x : Fra} {r : List Fra} (hx : k[t]? = some x) (hr : R[t]? = some r) : sumT p n k R (t + 1) = (frOps p).less (sumT p n k R t) (negF p x) r := by
  unfold sumT
  have hz : (k.zip R)[t]? = some (x, r) := List.getElem?_zip_eq_some.2 ⟨hx, hr⟩
  rw [List.take_add_one, hz, Option.toList_some, List.foldl_append]; rfl
theorem sumT_all {p : Int} {n : Nat} {k : List Fra} {R : List (List Fra)} (hl : k.length = R.length) : sumT p n k R R.length = (frOps p).cmb n k R := by
  unfold sumT Ops.cmb
  rw [List.take_of_length_le (by rw [List.length_zip]; omega)]; rfl
set_option maxHeartbeats 4000000 in
theorem rrSum_c (p : Int) (n : Nat) (R : List (List Fra)) (k : List Fra) (A K : Option Addr) (c d : Nat) (w : World) (hF : fieldB p = true) (hR : RdS EFF w A R) (hK : RdS EF w K k) (hW : Wid n R) (hl : k.length = R.length) (hn : n ≤ 1000) (hm : R.length ≤ 12) (hk : GdR p 3000000 k) (hg : GdM p 21 R) :
    Calls Tryz.prog 88 #[.int .i64 p, .int .i64 n, .slice A R.length c, .slice K k.length d] w fun e w' => ∃ A' c', e = .returned (.slice A' n c') ∧ GE ELF 58 w' w.heap.size w'.heap.size (.slice A' n c') ((frOps p).cmb n k R) ∧ Ex w w' := by
  have HW := Lib.hid hW
  have HK := Lib.hid hk
  have HG := Lib.hid hg
  have Hl := Lib.hid hl
  have HFIN := Lib.hid (sumT_all (p := p) (n := n) hl)
  obtain ⟨m, hRm⟩ : ∃ m, R.length = m := ⟨_, rfl⟩
  have HRm := Lib.hid hRm
  rw [hRm] at hm ⊢
  obtain ⟨kl, hkl⟩ : ∃ kl, k.length = kl := ⟨_, rfl⟩
  have HKl := Lib.hid hkl
  rw [hkl] at ⊢
  have Hmk := Lib.hid (show kl = m by rw [← hkl, ← hRm]; exact hl)
  clear hW hk hg hl hRm hkl
  go_enter Tryz.func88, Tryz.ntmps88
  go_wp2_with fail
  refine (rrZeros_c n hn _).mono ?_
  rintro e w1 ⟨A1, c1, rfl, ge1, x1⟩
  go_wp2_with fail
  go_loopw [9, 16] (fun o i wr => ∃ (t : Nat) (A2 : Option Addr) (c2 : Nat), t ≤ m ∧ i = .int .i64 t ∧ o = .slice A2 n c2 ∧ GE ELF 58 wr w.heap.size wr.heap.size (.slice A2 n c2) (sumT p n k R t) ∧ Ex w wr) (fun _ i _ => m - (intOf i).toNat)
  case atStart => exact ⟨0, A1, c1, Nat.zero_le _, rfl, rfl, ge1, x1⟩
  case round =>
    rename World => wi
    obtain ⟨t, A2, c2, ht, rfl, rfl, hge, he⟩ := hrel
    by_cases hlt : t < m
    · have hR1 := hR.ex he
      obtain ⟨g, off, r, v, rfl, hr, b0, ⟨P, pc, rfl, hrr⟩⟩ := hR1.fracs (j := t) (by rw [HRm.out]; exact hlt)
      obtain ⟨g', off', x, P1, pc1, Q1, qc1, rfl, hx, d0, d1, hP1, hQ1⟩ := (hK.ex he).frac (j := t) (by rw [HKl.out, Hmk.out]; exact hlt)
      have HS := Lib.hid (sumT_succ (p := p) (n := n) hx hr)
      have HSl := Lib.hid (sumT_len (p := p) (k := k) HW.out t)
      have HSl2 := Lib.hid (sumT_len (p := p) (k := k) HW.out (t + 1))
      have Hrl := Lib.hid (HW.out r (List.mem_of_getElem? hr))
      have Hxg := Lib.hid (HK.out x (List.mem_of_getElem? hx))
      have Hrg := Lib.hid (HG.out r (List.mem_of_getElem? hr))
      have HSg := Lib.hid (cmb_gd hF (w := n) HK.out HG.out t)
      have hz := he.size
      rw [Hrl.out] at b0
      have hcap : t ≤ 11 := by omega
      have hlk : t < kl := by rw [Hmk.out]; exact hlt
      go_wp2_with fail
      refine (frNeg_c p x P1 Q1 pc1 qc1 wi Hxg.out.1 hP1 hQ1).mono ?_
      rintro e w2 ⟨M, mc, N, nc, rfl, fM, fN, apM, x2⟩
      have cL := rrLess_c p (sumT p n k R t) r (negF p x) A2 P M N c2 pc mc nc w2 ((hge.rds (by rw [HSl.out]; omega)).ex x2) (hrr.ex x2) (by rw [HSl.out, Hrl.out]) fM.rd fN.rd (HSg.out.mono (by omega)) (Hrg.out.mono (by omega)) Hxg.out.1.neg (Hxg.out.2.neg.mono (by omega))
      rw [← HS.out, HSl.out, Hrl.out] at cL
      have hz2 := x2.size
      clear hR1 b0 d0 d1 hP1 hQ1 fM fN apM hrr
      go_wp2_with fail
      refine cL.mono ?_
      rintro e w3 ⟨v3, rfl, ge3, x3⟩
      have hz3 := x3.size
      obtain ⟨A3, c3, rfl⟩ := ge3.nilv
      rw [HSl2.out] at ge3 ⊢
      clear cL
      go_wp2_with fail
      go_roundw
      case rel =>
        exact ⟨t + 1, A3, c3, by omega, by go_num, rfl, ge3.more (by omega) (Nat.le_refl _), (he.trans x2).trans x3⟩
      case measure => simp [intOf]; omega
    · go_wp2_with fail
      go_ret
      obtain rfl : t = m := by omega
      rw [← HFIN.out, HRm.out]
      exact ⟨A2, c2, rfl, hge, he⟩
end Go.Proofs.YtpeogfapnofeoaaGreatDoor
namespace Go.Proofs.YtpeogfapnofeoaaGreatDoor
set_option maxRecDepth 100000
open Go Go.RowKit
/-- A collected row as one that may be turned: its numbers lie in no block below a. -/
theorem GE.fbkA {w : World} {B H g n c a : Nat} {xs : List Fra} (h : GE ELF 58 w B H (.slice (some ⟨g, 0, none⟩) n c) xs) (ha : a ≤ B) : FBk w (fun z => z < a ∨ z = g) g xs := by
  obtain ⟨cur, al, bl, _, hB, hH, hh, h1, h2⟩ := h.at_
  refine ⟨cur, hh, fun i x hx => ?_⟩
  obtain ⟨u, q1, ⟨v0, v1, rfl, a0, b0, a1, b1, ⟨A, c0, rfl, f0⟩, ⟨A', c1, rfl, f1⟩, l0, l1, l2, l3, _⟩, q3, q4, q5⟩ := h1 i x hx
  refine ⟨A, c0, A', c1, q1 0 _ rfl, q1 1 _ rfl, ⟨f0.rd, fun _ a e hs => ?_⟩, ⟨f1.rd, fun _ a e hs => ?_⟩⟩
  · have := f0.fr.hi a e; have := f0.lo a e; omega
  · have := f1.fr.hi a e; have := f1.lo a e; omega
theorem FBk.elq {W0 w : World} {a g c : Nat} {xs : List Fra} (h : FBk w (fun z => z < a ∨ z = g) g xs) (hg : a ≤ g) (hl : xs.length ≤ 1099511627776) : (ELQ W0).O w a w.heap.size [.slice (some ⟨g, 0, none⟩) xs.length c] xs := by
  refine ⟨_, c, rfl, fun w2 _ hk => ?_⟩
  have hgl := h.lt
  obtain ⟨cur, hh, hx⟩ := h
  have hh2 : w2.heap[g]? = some (.cells cur 58 (0, 0)) := (hk g hg hgl hgl).trans hh
  have hrd : ∀ {A : Option Addr} {l : List Int}, RX w (fun z => z < a ∨ z = g) A l → Rd w2 A l := fun {A l} hr => by
    by_cases hl0 : l = []
    · subst hl0; exact Rd.nil _ _
    · refine hr.1.keep fun p e hp => hk _ ?_ hp hp
      have := hr.2 hl0 p e
      omega
  refine FBk.rds (S := fun _ => False) ⟨cur, hh2, fun i x hi => ?_⟩ hl
  obtain ⟨A, c, B, d, h1, h2, h3, h4⟩ := hx i x hi
  exact ⟨A, c, B, d, h1, h2, ⟨hrd h3, fun _ _ _ h => h.elim⟩, ⟨hrd h4, fun _ _ _ h => h.elim⟩⟩
end Go.Proofs.YtpeogfapnofeoaaGreatDoor
namespace Go.Proofs.YtpeogfapnofeoaaGreatDoor
set_option maxRecDepth 100000
theorem negneg {p : Int} {x : Fra} (hx : FV p x) : negF p (negF p x) = x := congrArg Subtype.val ((frFld p hx.f).neg_neg ⟨x, hx⟩)
/-- The program's sum step is the reference's. -/
theorem addTm_sum {p : Int} {k : Fra} (hk : FV p k) {vs ws : List Fra} (hv : ∀ x ∈ vs, FV p x) (hw : ∀ x ∈ ws, FV p x) (hl : vs.length = ws.length) : addTm p vs k ws = (frOps p).less vs ((frOps p).neg k) ws := by
  have := addTm_red hk.neg hv hw hl
  rw [negneg hk] at this
  exact this
/-- Noughts and -1 times a row. -/
theorem addTm_neg {p : Int} (hF : fieldB p = true) {ws : List Fra} (hw : ∀ x ∈ ws, FV p x) : addTm p (List.replicate ws.length zF) (negF p oF) ws = ws.map (negF p) := by
  rw [addTm_red (FV.one hF) (fun x hx => by rw [(List.mem_replicate.1 hx).2]; exact FV.zero hF) hw (by simp)]
  unfold Ops.less
  refine List.ext_getElem? fun i => ?_
  rw [List.getElem?_zipWith, List.getElem?_map, List.getElem?_replicate]
  cases hi : ws[i]? with
  | none =>
    split
    · rename_i h; cases h
    · rfl
  | some x =>
    rw [if_pos (List.getElem?_eq_some_iff.1 hi).1]
    have hx := hw x (List.mem_of_getElem? hi)
    show some (addF p zF (mulF p (negF p oF) x)) = some (negF p x)
    have : (frFld p hF).add (frFld p hF).z ((frFld p hF).mul ((frFld p hF).neg (frFld p hF).o) ⟨x, hx⟩) = (frFld p hF).neg ⟨x, hx⟩ := by
      rw [(frFld p hF).z_add, (frFld p hF).neg_mul, (frFld p hF).o_mul]
    exact congrArg (fun y => some y.1) this
theorem neg_one {p : Int} (h : 2 ≤ p) : negF p oF = ⟨[p - 1], [1]⟩ := by
  have e : (p - 1) % p = p - 1 := Int.emod_eq_of_lt (by omega) (by omega)
  have h0 : p - 1 ≠ 0 := by omega
  have : pAdd p [] (p - 1) [1] = [p - 1] := by
    simp [pAdd, padTo, addAt, cf, trim, e, h0]
  show (⟨pNeg p [1], [1]⟩ : Fra) = _
  rw [show pNeg p [1] = pAdd p [] (p - 1) [1] from rfl, this]
end Go.Proofs.YtpeogfapnofeoaaGreatDoor
namespace Go.Proofs.YtpeogfapnofeoaaGreatDoor
set_option maxRecDepth 100000
open Go Go.RowKit
set_option maxHeartbeats 800000 in
theorem ratCombine_c (p : Int) (n : Nat) (R : List (List Fra)) (k : List Fra) (A K : Option Addr) (c d : Nat) (w : World) (hF : fieldB p = true) (hR : RdS EFF w A R) (hK : RdS EF w K k) (hW : Wid n R) (hl : k.length = R.length) (hn : n ≤ 1000) (hm : R.length ≤ 12) (hk : GdR p 3000000 k) (hg : GdM p 21 R) :
    Calls Tryz.prog 90 #[.int .i64 p, .slice K k.length d, .slice A R.length c, .int .i64 n] w fun e w' => ∃ b c', e = .returned (.slice (some ⟨b, 0, none⟩) n c') ∧ n ≤ c' ∧ w.heap.size ≤ b ∧ FBk w' (fun z => z < w.heap.size ∨ z = b) b ((frOps p).cmb n k R) ∧ Ex w w' := by
  have HW := Lib.hid hW
  have HK := Lib.hid hk
  have HG := Lib.hid hg
  have HFIN := Lib.hid (sumT_all (p := p) (n := n) hl)
  obtain ⟨m, hRm⟩ : ∃ m, R.length = m := ⟨_, rfl⟩
  have HRm := Lib.hid hRm
  rw [hRm] at hm hl ⊢
  obtain ⟨kl, hkl⟩ : ∃ kl, k.length = kl := ⟨_, rfl⟩
  have HKl := Lib.hid hkl
  rw [hkl] at hl ⊢
  have Hmk := Lib.hid hl
  clear hW hk hg hl hRm hkl
  go_enter Tryz.func90, Tryz.ntmps90
  go_wp2_with fail
  refine (noughts_c n hn _).mono ?_
  rintro e w1 ⟨v, rfl, ⟨hnn, hge⟩, x1⟩
  obtain ⟨b, c0, e0, hc0, _⟩ := hge.form hnn
  rw [List.length_replicate] at e0 hc0
  subst e0
  have F1 := hge.fbkA (a := w.heap.size) (Nat.le_refl _)
  have hb : w.heap.size ≤ b := by
    obtain ⟨_, _, _, _, hB, _⟩ := hge.at_
    exact hB
  clear hge hnn
  go_wp2_with fail
  go_loopw [16] (fun i wr => ∃ t : Nat, t ≤ m ∧ i = .int .i64 t ∧ FBk wr (fun z => z < w.heap.size ∨ z = b) b (sumT p n k R t) ∧ Ex w wr) (fun i _ => m - (intOf i).toNat)
  case atStart => exact ⟨0, Nat.zero_le _, rfl, F1, x1⟩
  case round =>
    rename World => wi
    obtain ⟨t, ht, rfl, F, he⟩ := hrel
    by_cases hlt : t < m
    · obtain ⟨g, off, r, v, rfl, hr, a0, ⟨P, pc, rfl, hrr⟩⟩ := hR.fracs (j := t) (by rw [HRm.out]; exact hlt)
      obtain ⟨g', off', x, P1, pc1, Q1, qc1, rfl, hx, c1, c2, hP1, hQ1⟩ := hK.frac (j := t) (by rw [HKl.out, Hmk.out]; exact hlt)
      have b0 := cell_ex he a0
      have d0 := cell_ex he c1
      have d1 := cell_ex he c2
      have rx : ∀ {A : Option Addr} {l : List Int}, Rd w A l → RX wi (fun z => z = b) A l := fun {A l} h => ⟨h.ex he, fun hn a e q => by
        obtain ⟨g, off, _, hA, _, hg, _⟩ := h.at_ (k := 0) (List.length_pos_iff.2 hn)
        rw [e] at hA
        injection hA with hA
        subst hA
        have q' : g = b := q
        omega⟩
      have HS := Lib.hid (sumT_succ (p := p) (n := n) hx hr)
      have HSl := Lib.hid (sumT_len (p := p) (k := k) HW.out t)
      have Hrl := Lib.hid (HW.out r (List.mem_of_getElem? hr))
      have Hxg := Lib.hid (HK.out x (List.mem_of_getElem? hx))
      have Hrg := Lib.hid (HG.out r (List.mem_of_getElem? hr))
      have HSg := Lib.hid (show GdR p (1 + t * (3000000 + 21)) (sumT p n k R t) from cmb_gd hF (w := n) HK.out HG.out t)
      have hcap : t ≤ 11 := by omega
      have hlk : t < kl := by rw [Hmk.out]; exact hlt
      have hbl := F.lt
      have hz := he.size
      have cA := ratAddTimesR_c p (fun z => z < w.heap.size ∨ z = b) b P (sumT p n k R t) r x P1 Q1 pc1 qc1 c0 pc wi (fun z hz => by omega) (.inr rfl) F (fun W h => hrr.ex (he.sx h (fun z e => e ▸ hb))) (by rw [HSl.out, Hrl.out]) (rx hP1) (rx hQ1) (HSg.out.mono (by omega)) (Hrg.out.mono (by omega)) Hxg.out.1 (Hxg.out.2.mono (by omega)) (by rw [Hrl.out]; exact hn)
      rw [addTm_sum Hxg.out.1 (fun y hy => (HSg.out y hy).1) (fun y hy => (Hrg.out y hy).1) (by rw [HSl.out, Hrl.out]), HSl.out, Hrl.out] at cA
      rw [Hrl.out] at b0
      clear hr hx a0 c1 c2 hP1 hQ1 hrr rx F
      go_wp2_with fail
      refine cA.mono ?_
      rintro e w3 ⟨rfl, F3, x3, _⟩
      have x4 := he.sx x3 (fun z e => e ▸ hb)
      have F4 : FBk w3 (fun z => z < w.heap.size ∨ z = b) b (sumT p n k R (t + 1)) := by rw [HS.out]; exact F3
      clear cA F3 x3 b0 d0 d1
      go_wp2_with fail
      go_roundw
      case rel => exact ⟨t + 1, by omega, by go_num, F4, x4⟩
      case measure => simp [intOf]; omega
    · go_wp2_with fail
      go_ret
      obtain rfl : t = m := by omega
      rw [HRm.out] at HFIN
      rw [HFIN.out] at F
      exact ⟨b, c0, rfl, hc0, hb, F, he⟩
end Go.Proofs.YtpeogfapnofeoaaGreatDoor
namespace Go.Proofs.YtpeogfapnofeoaaGreatDoor
set_option maxRecDepth 100000
end Go.Proofs.YtpeogfapnofeoaaGreatDoor
namespace Go.Proofs.YtpeogfapnofeoaaGreatDoor
set_option maxRecDepth 100000
open Go Go.RowKit
theorem flat_set2 {a b : Value} : ∀ {us : List (List Value)} {i : Nat}, (∀ u ∈ us, u.length = 2) → i < us.length → (us.flatten.set (i * 2) a).set (i * 2 + 1) b = (us.set i [a, b]).flatten
  | [], i, _, h => by simp at h
  | u :: us, i, hu, h => by
    have hl := hu u (by simp)
    match u, hl with
    | [p, q], _ =>
      cases i with
      | zero => simp
      | succ i =>
        have ih := flat_set2 (a := a) (b := b) (us := us) (i := i) (fun v hv => hu v (by simp [hv])) (by simpa using h)
        rw [List.set_cons_succ, List.flatten_cons, List.flatten_cons, ← ih, show (i + 1) * 2 = i * 2 + 1 + 1 by omega]
        rfl
/-- One element of a collected row has been replaced by one whose memory is newer. -/
theorem GE.turnF {w w' : World} {B H b g c i : Nat} {xs : List Fra} (h : GE ELF 58 w B H (.slice (some ⟨g, 0, none⟩) xs.length c) xs) {x : Fra} {v0 v1 : Value} (hi : i < xs.length) {cur : Array Value} (hc : w.heap[g]? = some (.cells cur 58 (0, 0)))
    (hc' : w'.heap[g]? = some (.cells ((cur.setIfInBounds (i * 2) v0).setIfInBounds (i * 2 + 1) v1) 58 (0, 0))) (hk : ∀ k, k < w.heap.size → k ≠ g → w'.heap[k]? = w.heap[k]?) (ho : OFra w' H b v0 v1 x) (hHb : H ≤ b) :
    GE ELF 58 w' B b (.slice (some ⟨g, 0, none⟩) xs.length c) (xs.set i x) := by
  obtain ⟨hown, us, al, bl, hl, ho1, h1, h2⟩ := h
  have hu2 : ∀ u ∈ us, u.length = 2 := fun u hu => by
    obtain ⟨j, hj⟩ := List.getElem?_of_mem hu
    have hjl := (List.getElem?_eq_some_iff.1 hj).1
    obtain ⟨u2, q1, q2, _⟩ := h1 j _ (List.getElem?_eq_getElem (by omega))
    rw [hj] at q1
    injection q1 with q1
    subst q1
    exact ELF.rlen q2
  have hg := hown g rfl
  have hiu : i < us.length := by omega
  refine ⟨fun k e => by have := hown k e; omega, us.set i [v0, v1], (fun j => if j = i then H else al j), (fun j => if j = i then b else bl j), by rw [List.length_set, List.length_set, hl], ?_, fun j y hj => ?_, fun j k hj hk' hne => ?_⟩
  · refine ⟨?_, ?_⟩
    · rw [← flat_set2 hu2 hiu, List.length_set, List.length_set, List.length_set]; exact ho1.1
    · rcases ho1.2 with ⟨e, _⟩ | ⟨g', cap, cu, e, hB, hh, q1, q2, q3, q4⟩
      · cases e
      · injection e with e1 e2 e3
        injection e1 with e1
        injection e1 with e1 _ _
        subst e1
        rw [hc] at hh
        injection hh with hh
        injection hh with hh _ _
        subst hh
        refine .inr ⟨g, cap, _, by rw [List.length_set, e3], hB, hc', by rw [List.length_set]; exact q1, q2, by simpa using q3, ?_⟩
        rw [← flat_set2 hu2 hiu, ← q4]
        simp [List.take_set]
  · rw [List.getElem?_set] at hj
    by_cases e : i = j
    · subst e
      rw [if_pos rfl, if_pos hi] at hj
      injection hj with hj
      subst hj
      refine ⟨[v0, v1], by rw [List.getElem?_set, if_pos rfl, if_pos hiu], ?_, ?_, ?_, ?_⟩
      · simp only [if_pos]; exact ⟨_, _, rfl, ho⟩
      · simp only [if_pos]; omega
      · simp only [if_pos]; omega
      · intro k e
        have := hown k e
        simp only [if_pos]; omega
    · rw [if_neg e] at hj
      obtain ⟨u, q1, q2, q3, q4, q5⟩ := h1 j y hj
      have e' : ¬ j = i := fun h => e h.symm
      refine ⟨u, by rw [List.getElem?_set, if_neg e]; exact q1, ?_, ?_, ?_, ?_⟩
      · simp only [if_neg e']
        exact ELF.keep q2 fun k a1 a2 a3 => hk k a3 (fun eg => by have := q5 g rfl; omega)
      · simp only [if_neg e']; exact q3
      · simp only [if_neg e']; omega
      · simp only [if_neg e']; exact q5
  · rw [List.length_set] at hj hk'
    have bd : ∀ j, j < xs.length → bl j ≤ H := fun j hj => by
      obtain ⟨_, _, _, _, q4, _⟩ := h1 j _ (List.getElem?_eq_getElem hj)
      exact q4
    by_cases ej : j = i
    · have ek : ¬ k = i := by omega
      simp only [if_pos ej, if_neg ek]
      have := bd k hk'
      omega
    · by_cases ek : k = i
      · simp only [if_neg ej, if_pos ek]
        have := bd j hj
        omega
      · simp only [if_neg ej, if_neg ek]
        exact h2 j k hj hk' hne
set_option maxHeartbeats 2000000 in
theorem unitRowF_c (n i : Nat) (hi : i < n) (hn : n ≤ 1000) (w : World) :
    Calls Tryz.prog 116 #[.int .i64 n, .int .i64 i] w fun e w' => ∃ v, e = .returned v ∧ RowF w' w.heap.size w'.heap.size v (unitF n i) ∧ Ex w w' := by
  go_enter Tryz.func116, Tryz.ntmps116
  go_wp2_with fail
  refine (noughts_c n hn w).mono ?_
  rintro e w2 ⟨v, rfl, ⟨hnn, hge⟩, x2⟩
  obtain ⟨g0, c0, e0, hc0, _⟩ := hge.form hnn
  subst e0
  obtain ⟨cur, _, _, _, hgB, hgH, hh, hcells, _⟩ := hge.at_
  obtain ⟨u, hu, ⟨u0, u1, rfl, _⟩, _⟩ := hcells i zF (by rw [List.getElem?_replicate, if_pos hi])
  have hz2 := x2.size
  have r0 : cur[i * 2]? = some u0 := hu 0 u0 rfl
  have r1 : cur[i * 2 + 1]? = some u1 := hu 1 u1 rfl
  clear hu hcells
  have hv : VB w2 g0 58 cur := hh
  rw [List.length_replicate]
  go_wp2_with fail
  refine (unity_c w2).mono ?_
  rintro e w3 ⟨A3, c3, B3, d3, rfl, f3, p3, ap3, x3⟩
  have hz3 := x3.size
  have xf := ofra_of_fr (x := oF) f3 p3 ap3 hz3
  have hgl := heap_lt_of hh
  have d3v : VB w3 g0 58 cur := (x3.block hgl).trans hh
  have q0 := d3v.cell (i * 2) r0
  have q1 := d3v.cell (i * 2 + 1) r1
  have k0 := d3v.frozen (i * 2)
  have k1 := d3v.frozen (i * 2 + 1)
  have dv : VB ((w3.setCell ⟨g0, i * 2, none⟩ (.slice A3 oF.n.length c3)).setCell ⟨g0, i * 2 + 1, none⟩ (.slice B3 oF.d.length d3)) g0 58 ((cur.setIfInBounds (i * 2) (.slice A3 oF.n.length c3)).setIfInBounds (i * 2 + 1) (.slice B3 oF.d.length d3)) := (d3v.set_ _ _).set_ _ _
  have e1 : Ex1 g0 w3 ((w3.setCell ⟨g0, i * 2, none⟩ (.slice A3 oF.n.length c3)).setCell ⟨g0, i * 2 + 1, none⟩ (.slice B3 oF.d.length d3)) := ((Ex1.refl g0 w3).setCell (p := ⟨g0, i * 2, none⟩) rfl _).setCell (p := ⟨g0, i * 2 + 1, none⟩) rfl _
  have sz : ((w3.setCell ⟨g0, i * 2, none⟩ (.slice A3 oF.n.length c3)).setCell ⟨g0, i * 2 + 1, none⟩ (.slice B3 oF.d.length d3)).heap.size = w3.heap.size := by simp
  have hT := hge.turnF (x := oF) (b := w3.heap.size) (v0 := .slice A3 oF.n.length c3) (v1 := .slice B3 oF.d.length d3) (i := i) (by rw [List.length_replicate]; exact hi) hh dv (fun k hk hkg => (e1.block k (Nat.lt_of_lt_of_le hk hz3) (fun e => hkg (by injection e))).trans (x3.block hk)) (xf.e1 e1 (.inl hgH)) hz3
  rw [List.length_replicate] at hT
  have eF := (x2.trans x3).ex1 e1 hgB
  clear hge xf dv
  go_wp2_with fail
  go_ret
  exact ⟨_, rfl, ⟨by simp, by rw [sz]; exact hT⟩, eF⟩
/-- Two lists of collected rows, the later one to be turned beside the first. -/
theorem RtTwo.of_two {w : World} {B H B' H' G G' R c R' c' n m : Nat} {rows rows' Z : List (List Fra)} {K : Nat → Prop} (h : GE ELR 34 w B H (.slice (some ⟨G, 0, none⟩) R c) rows) (hw : Wid n rows) (h' : GE ELR 34 w B' H' (.slice (some ⟨G', 0, none⟩) R' c') rows') (hw' : Wid m rows')
    (e1 : Z.map (List.take n) = rows) (e2 : Z.map (List.drop n) = rows') (hHB : H ≤ B') (hK : ∀ z, K z → z < w.heap.size ∧ (z < B ∨ H ≤ z) ∧ (z < B' ∨ H' ≤ z)) (hHs : H' ≤ w.heap.size) :
    ∃ (S : Nat → Prop) (bs bs' : List (Option Nat)), RtTwo w S K G G' bs bs' Z n m ∧ ∀ z, S z → (B ≤ z ∧ z < H) ∨ (B' ≤ z ∧ z < H') := by
  obtain ⟨hR, hB, hGH, gs, g1, g2, g3, g4, g5⟩ := rows_rat h hw
  obtain ⟨hR', hB', hGH', ts, t1, t2, t3, t4, t5⟩ := rows_rat h' hw'
  have hat : ∀ (gs : List Nat) (j b : Nat), (gs.map some)[j]? = some (some b) → gs[j]? = some b := fun gs j b hb => by
    rw [List.getElem?_map] at hb
    cases hx : gs[j]? with
    | none => rw [hx] at hb; cases hb
    | some x => rw [hx] at hb; cases hb; rfl
  have hS : ∀ z, (z = G ∨ (∃ j : Nat, gs[j]? = some z) ∨ z = G' ∨ ∃ j : Nat, ts[j]? = some z) → (B ≤ z ∧ z < H) ∨ (B' ≤ z ∧ z < H') := fun z hz => by
    rcases hz with e | ⟨j, hj⟩ | e | ⟨j, hj⟩
    · exact .inl (by omega)
    · exact .inl ⟨(g2 j z hj).1, (g2 j z hj).2.1⟩
    · exact .inr (by omega)
    · exact .inr ⟨(t2 j z hj).1, (t2 j z hj).2.1⟩
  refine ⟨fun z => z = G ∨ (∃ j : Nat, gs[j]? = some z) ∨ z = G' ∨ ∃ j : Nat, ts[j]? = some z, gs.map some, ts.map some, ?_, hS⟩
  have sub1 : ∀ (T : Nat → Prop), (∀ z, T z → z < B ∨ H ≤ z) → ∀ z, ((z = G ∨ (∃ j : Nat, gs[j]? = some z) ∨ z = G' ∨ ∃ j : Nat, ts[j]? = some z) ∨ T z) → B ≤ z → z < H → z = G ∨ ∃ j : Nat, gs[j]? = some z := fun T hT z hz l u => by
    rcases hz with (e | e | e | ⟨j, e⟩) | e
    · exact .inl e
    · exact .inr e
    · omega
    · have := (t2 j z e).1; omega
    · have := hT z e; omega
  have sub2 : ∀ (T : Nat → Prop), (∀ z, T z → z < B' ∨ H' ≤ z) → ∀ z, ((z = G ∨ (∃ j : Nat, gs[j]? = some z) ∨ z = G' ∨ ∃ j : Nat, ts[j]? = some z) ∨ T z) → B' ≤ z → z < H' → z = G' ∨ ∃ j : Nat, ts[j]? = some z := fun T hT z hz l u => by
    rcases hz with (e | ⟨j, e⟩ | e | e) | e
    · omega
    · have := (g2 j z e).2.1; omega
    · exact .inl e
    · exact .inr e
    · have := hT z e; omega
  have s1 := g5 (fun z => z = G ∨ (∃ j : Nat, gs[j]? = some z) ∨ z = G' ∨ ∃ j : Nat, ts[j]? = some z) (fun z hz => sub1 (fun _ => False) (fun _ h => h.elim) z (.inl hz))
  have s2 := g5 (fun z => (z = G ∨ (∃ j : Nat, gs[j]? = some z) ∨ z = G' ∨ ∃ j : Nat, ts[j]? = some z) ∨ K z) (sub1 K fun z hz => (hK z hz).2.1)
  have s3 := t5 (fun z => z = G ∨ (∃ j : Nat, gs[j]? = some z) ∨ z = G' ∨ ∃ j : Nat, ts[j]? = some z) (fun z hz => sub2 (fun _ => False) (fun _ h => h.elim) z (.inl hz))
  have s4 := t5 (fun z => (z = G ∨ (∃ j : Nat, gs[j]? = some z) ∨ z = G' ∨ ∃ j : Nat, ts[j]? = some z) ∨ K z) (sub2 K fun z hz => (hK z hz).2.2)
  obtain ⟨cur, hc, hcu⟩ := g4
  obtain ⟨cur', hc', hcu'⟩ := t4
  have row : ∀ (gs : List Nat) (n : Nat) (cur : Array Value), (∀ (j g : Nat), gs[j]? = some g → ∃ c, n ≤ c ∧ cur[j]? = some (.slice (some ⟨g, 0, none⟩) n c)) → ∀ (j : Nat) (ob : Option Nat), (gs.map some)[j]? = some ob → ∃ c, n ≤ c ∧ cur[j]? = some (.slice (pB ob) n c) := fun gs n cur hq j ob hj => by
    rw [List.getElem?_map] at hj
    cases hx : gs[j]? with
    | none => rw [hx] at hj; cases hj
    | some x => rw [hx] at hj; injection hj with hj; subst hj; exact hq j x hx
  refine ⟨⟨⟨cur, hc, row gs n cur hcu⟩, by rw [List.length_map, e1]; exact g1, fun j ob r h1 h2 => ?_, fun i j b h1 h2 => g3 i j b (hat gs i b h1) (hat gs j b h2), .inl rfl, fun j b hb => (g2 j b (hat gs j b hb)).2.2⟩, ⟨⟨cur', hc', row ts m cur' hcu'⟩, by rw [List.length_map, e2]; exact t1, fun j ob r h1 h2 => ?_, fun i j b h1 h2 => t3 i j b (hat ts i b h1) (hat ts j b h2), .inr (.inr (.inl rfl)), fun j b hb => (t2 j b (hat ts j b hb)).2.2⟩, by omega, fun i j b h1 h2 => ?_, fun j b hb => by have := (g2 j b (hat gs j b hb)).2.1; omega, fun j b hb => by have := (t2 j b (hat ts j b hb)).1; omega, fun z hz => by rcases hS z hz with h | h <;> omega, fun z hz => (hK z hz).1, fun b o => (∃ j : Nat, gs[j]? = some b ∧ o < 2 * n) ∨ (∃ j : Nat, ts[j]? = some b ∧ o < 2 * m), ?_, fun z o hz => ?_, fun o hz => ?_, fun o hz => ?_, fun j b hb => ⟨.inr (.inl ⟨j, hat gs j b hb⟩), fun o ho => .inl ⟨j, hat gs j b hb, ho⟩⟩, fun j b hb => ⟨.inr (.inr (.inr ⟨j, hat ts j b hb⟩)), fun o ho => .inr ⟨j, hat ts j b hb, ho⟩⟩⟩
  · rw [e1] at h2
    rw [List.getElem?_map] at h1
    cases hx : gs[j]? with
    | none => rw [hx] at h1; cases h1
    | some x =>
      rw [hx] at h1
      injection h1 with h1
      subst h1
      exact ⟨⟨s1.1 j x r hx h2, .inr (.inl ⟨j, hx⟩)⟩, hw r (List.mem_of_getElem? h2)⟩
  · rw [e2] at h2
    rw [List.getElem?_map] at h1
    cases hx : ts[j]? with
    | none => rw [hx] at h1; cases h1
    | some x =>
      rw [hx] at h1
      injection h1 with h1
      subst h1
      exact ⟨⟨s3.1 j x r hx h2, .inr (.inr (.inr ⟨j, hx⟩))⟩, hw' r (List.mem_of_getElem? h2)⟩
  · have := (g2 i b (hat gs i b h1)).2.1
    have := (t2 j b (hat ts j b h2)).1
    omega
  · intro b o a nn cc hb hcell
    rcases hb with hb | hb
    · refine ⟨(s2.2.1 b o a nn cc hb hcell).1, fun b' o' a' n' c' hb' hcell' ea => ?_⟩
      rcases hb' with hb' | hb'
      · exact (s2.2.1 b o a nn cc hb hcell).2 b' o' a' n' c' hb' hcell' ea
      · have := s2.2.2 b o a nn cc hb hcell
        have := s4.2.2 b' o' a' n' c' hb' hcell'
        omega
    · refine ⟨(s4.2.1 b o a nn cc hb hcell).1, fun b' o' a' n' c' hb' hcell' ea => ?_⟩
      rcases hb' with hb' | hb'
      · have := s4.2.2 b o a nn cc hb hcell
        have := s2.2.2 b' o' a' n' c' hb' hcell'
        omega
      · exact (s4.2.1 b o a nn cc hb hcell).2 b' o' a' n' c' hb' hcell' ea
  · rcases hz with ⟨j, hj, _⟩ | ⟨j, hj, _⟩
    · exact .inr (.inl ⟨j, hj⟩)
    · exact .inr (.inr (.inr ⟨j, hj⟩))
  · rcases hz with ⟨j, hj, _⟩ | ⟨j, hj, _⟩
    · exact (g2 j G hj).2.2 rfl
    · have := (t2 j G hj).1; omega
  · rcases hz with ⟨j, hj, _⟩ | ⟨j, hj, _⟩
    · have := (g2 j G' hj).2.1; omega
    · exact (t2 j G' hj).2.2 rfl
end Go.Proofs.YtpeogfapnofeoaaGreatDoor
namespace Go.Proofs.YtpeogfapnofeoaaGreatDoor
set_option maxRecDepth 100000
open Go Go.RowKit
theorem beside_take {K : Type} {O : Ops K} {n : Nat} {rows : List (List K)} (hw : Wid n rows) : (O.beside rows).map (List.take n) = rows := by
  refine List.ext_getElem? fun j => ?_
  rw [List.getElem?_map, beside_at]
  cases hj : rows[j]? with
  | none => rfl
  | some r =>
    rw [Option.map_some, Option.map_some, List.take_left' (hw r (List.mem_of_getElem? hj))]
theorem beside_drop {K : Type} {O : Ops K} {n : Nat} {rows : List (List K)} (hw : Wid n rows) : (O.beside rows).map (List.drop n) = (List.range rows.length).map (O.unit rows.length) := by
  refine List.ext_getElem? fun j => ?_
  rw [List.getElem?_map, beside_at, List.getElem?_map]
  cases hj : rows[j]? with
  | none =>
    rw [List.getElem?_eq_none (by rw [List.length_range]; exact List.getElem?_eq_none_iff.1 hj)]; rfl
  | some r =>
    rw [List.getElem?_range (List.getElem?_eq_some_iff.1 hj).1, Option.map_some, Option.map_some, Option.map_some, List.drop_left' (hw r (List.mem_of_getElem? hj))]
theorem rg_step {α : Type} (f : Nat → α) (k : Nat) : (List.range (k + 1)).map f = (List.range k).map f ++ [f k] := by
  rw [List.range_succ, List.map_append]; rfl
theorem RatM.rdc {w : World} {S : Nat → Prop} {G n : Nat} {bs : List (Option Nat)} {rows : List (List Fra)} (h : RatM w S G bs rows n) (hl : rows.length ≤ 1099511627776) (hn : n ≤ 1099511627776) (r : Nat) : RdC w (some ⟨G, r, none⟩) (rows.drop r) := by
  have key : ∀ (j : Nat) (z : List Fra), (rows.drop r)[j]? = some z → ∃ P pc, w.cell? ⟨G, r + j, none⟩ = some (.slice P z.length pc) ∧ z.length ≤ pc ∧ RdS EF w P z := fun j z hj => by
    rw [List.getElem?_drop] at hj
    obtain ⟨ob, z', c, hc, h1, h2, h3, h4, h5⟩ := h.at_c (List.getElem?_eq_some_iff.1 hj).1
    rw [hj] at h2
    injection h2 with h2
    subst h2
    rw [← h3] at h5 hc
    refine ⟨_, c, h5, hc, ?_⟩
    cases ob with
    | none => obtain rfl : z = [] := h4; exact ⟨by simp, fun j x hj => by simp at hj⟩
    | some b => exact h4.1.rds (by omega)
  refine ⟨⟨by rw [List.length_drop]; omega, fun j z hj => ?_⟩, fun j z hj => ?_⟩
  · obtain ⟨P, pc, h1, h2, h3⟩ := key j z hj
    refine ⟨G, r, [.slice P z.length pc], rfl, fun i u hi => ?_, _, rfl, P, pc, rfl, h3⟩
    rw [show EFF.k = 1 from rfl, Nat.mul_one]
    match i, hi with
    | 0, hi => simp at hi; rw [← hi]; exact h1
  · obtain ⟨P, pc, h1, h2, h3⟩ := key j z hj
    exact ⟨G, r, P, pc, rfl, h1, h2, h3⟩
/-- One row more, at an empty slice without room too. -/
theorem push_row2 {w : World} {B H : Nat} {v : Value} {xs : List (List Fra)} (h : (xs = [] ∧ ∃ ad, v = .slice (some ad) 0 0) ∨ GE ELR 34 w B H v xs) (hH : H ≤ w.heap.size) {v0 : Value} {x : List Fra} {a b : Nat} (hu : RowF w a b v0 x) (ha : H ≤ a) (hab : a ≤ b) (hb : b ≤ w.heap.size) (hB : B ≤ H) (hl : xs.length + 1 ≤ 1099511627776) :
    ∃ v' w', (Builtin.append_ #[30, 30] 30 #[v, .slice (some ⟨w.heap.size, 0, none⟩) 1 1]).run Tryz.prog (w.alloc (.cells #[v0] 34)) = .ok v' w' ∧
      GE ELR 34 w' B w'.heap.size v' (xs ++ [x]) ∧ v' ≠ .slice none 0 0 ∧ (∀ k, k < B → w'.heap[k]? = w.heap[k]?) ∧ ∀ b', Ex b' w → b'.heap.size ≤ B → Ex b' w' := by
  rcases h with ⟨rfl, ad, rfl⟩ | h
  · obtain ⟨i, hi, hz, hs, hby⟩ := info_parts fracsInfo
    have hx := (Ex.refl w).alloc (.cells #[v0] 34)
    have hsz : (w.alloc (.cells #[v0] 34)).heap.size = w.heap.size + 1 := by simp
    have hO : ELR.O w a b [v0] x := ⟨v0, rfl, hu⟩
    obtain ⟨v', w', hrun, hown, hgr⟩ := run_append_arg_grows (P := Tryz.prog) (w := w.alloc (.cells #[v0] 34)) 30 30 34 i (.slice none 0 0) 1 24 Tryz.underlying30 hi hz hs hby rfl (by omega) ad 0 0 [] (by simp) (fun j u h => by simp at h) ⟨w.heap.size, 0, none⟩ 1 1 [v0] rfl
      (fun j y hj => World.news_of_block (heap_alloc_new w _) j y (by simpa using hj)) (by omega) (by unfold maxLen; omega) (by omega)
    rw [List.nil_append, Nat.zero_add] at hown
    have hx' : Ex w w' := hx.exo hgr (fun g e => by cases e)
    have hlt := World.ownsRow.lt hown
    have hnn : v' ≠ .slice none 0 0 := fun e => by
      rcases hown.2 with ⟨_, e2⟩ | ⟨g, cap, cur, e2, _⟩
      · omega
      · rw [e] at e2; cases e2
    refine ⟨v', w', hrun, ⟨fun k e => by have := hlt k e; omega, [[v0]], fun _ => a, fun _ => b, rfl, ⟨hown.1, ?_⟩, fun j y hj => ?_, fun i j hi hj => by simp at hi hj; omega⟩, hnn, fun k hk => hx'.block (by omega), fun b' hb' _ => hb'.trans hx'⟩
    · rcases hown.2 with h5 | ⟨g, cap, cur, e2, hg, r⟩
      · exact .inl h5
      · exact .inr ⟨g, cap, cur, e2, by omega, r⟩
    · rcases j with _ | j
      · injection hj with hj
        subst hj
        have h1 := hx'.size
        refine ⟨[v0], rfl, ELR.oex hO hx', ?_, ?_, fun k e => ?_⟩
        · show B ≤ a; omega
        · show b ≤ w'.heap.size; omega
        · have := hlt k e
          show k < a ∨ b ≤ k; omega
      · simp at hj
  · obtain ⟨v', w', h1, h2, h3, h4, h5⟩ := push_row h hH hu ha hab hb hB hl
    exact ⟨v', w', h1, h2, h4, fun k hk => h3.block k (by omega) (fun e => by have := (h.own k e.symm).1; omega), h5⟩
theorem run_dropR {A : Option Addr} {n c lo : Nat} (h1 : lo ≤ n) (h2 : n ≤ c) (W : World) : (Instr.sliceAt 30 (.slice A n c) (some (.int .i64 (lo : Int))) none none).run Tryz.prog W = .ok (.slice (if c = lo then A else A.map (fun a => a.add (lo * 1))) (n - lo) (c - lo)) W := by
  obtain ⟨i, hi, hz, hs, hby⟩ := info_parts fracsInfo
  have e1 : (0 : Int) ≤ (lo : Int) := by omega
  have e2 : (lo : Int) ≤ (n : Int) := by omega
  simp [Instr.sliceAt, Instr.slice, run_underlying Tryz.underlying30, Instr.sliceBounds, run_sliceBound, sizeOf, typeInfo, hi, hs, e1, e2]
theorem unitF_len (m i : Nat) : (unitF m i).length = m := by simp [unitF]
set_option maxHeartbeats 2000000 in
theorem ratKer1_c (p : Int) (S KS : Nat → Prop) (G G' : Nat) (bs0 bs0' : List (Option Nat)) (Z0 : List (List Fra)) (n m R cG cG' b0 b1 b2 b3 b4 : Nat) (w : World) (hF : fieldB p = true) (h : RtTwo w S KS G G' bs0 bs0' Z0 n m) (hW : Wid (n + m) Z0) (hGd : ∀ c, c ≤ n → GdM p 17179869184 (stg (frOps p) Z0 c).1) (hR : Z0.length = R)
    (hn : n ≤ 1000) (hm : m ≤ 1000) (hR1 : R ≤ 1000) (hc1 : R ≤ cG) (hc2 : cG ≤ 9223372036854775807)
    (c0 : w.cell? ⟨b0, 0, none⟩ = some (.int .i64 p)) (c1 : w.cell? ⟨b1, 0, none⟩ = some (.slice (some ⟨G, 0, none⟩) R cG)) (c2 : w.cell? ⟨b2, 0, none⟩ = some (.int .i64 n)) (c3 : w.cell? ⟨b3, 0, none⟩ = some (.slice (some ⟨G', 0, none⟩) R cG')) (v4 : VB w b4 3 #[.int .i64 0]) (hS4 : ¬ S b4) (hK4 : KS b4) :
    Calls Tryz.prog 117 #[.pointer (some ⟨b0, 0, none⟩), .pointer (some ⟨b1, 0, none⟩), .pointer (some ⟨b2, 0, none⟩), .pointer (some ⟨b3, 0, none⟩), .pointer (some ⟨b4, 0, none⟩)] w fun e w' => e = .returned (.tuple #[]) ∧ ExS (fun z => S z ∨ z = b4) w w' ∧
      VB w' b4 3 #[.int .i64 ((frOps p).red n 0 0 Z0).2] ∧ ∃ bs bs', RtTwo w' S KS G G' bs bs' ((frOps p).red n 0 0 Z0).1 n m := by
  have hcall := ratReduction_c p S KS G G' bs0 bs0' Z0 n m R cG cG' w hF h.sl h hW hGd hR hn hm hR1 hc1 hc2
  clear h hW hGd hR
  generalize (frOps p).red n 0 0 Z0 = FIN at *
  go_enter Tryz.func117, Tryz.ntmps117
  go_wp2_with fail
  refine hcall.mono ?_
  rintro e w1 ⟨bs, bs', rfl, hT, x1⟩
  have v1 : VB w1 b4 3 #[.int .i64 0] := (x1.block _ v4.lt hS4).trans v4
  have d0 := v1.cell 0 (v := .int .i64 0) rfl
  have d1 := v1.frozen 0
  have E2 : Ex1 b4 w1 (w1.setCell ⟨b4, 0, none⟩ (.int .i64 FIN.2)) := (Ex1.refl _ w1).setCell (p := ⟨b4, 0, none⟩) rfl _
  have v2 : VB (w1.setCell ⟨b4, 0, none⟩ (.int .i64 FIN.2)) b4 3 #[.int .i64 FIN.2] := v1.set_ 0 _
  have hT2 := hT.k1 hK4 hS4 E2
  have x2 := (x1.widen (T := fun z => S z ∨ z = b4) (fun z _ h => .inl h)).trans (ExS.of_ex1 (S := fun z => z = b4) E2 rfl) (fun z _ e => .inr e)
  clear hcall
  go_wp2_with fail
  first | rw [Exit.noGoto_ret] | skip
  refine bodyPost_end (results_none rfl _ _ _) rfl ?_
  exact ⟨rfl, x2, v2, bs, bs', hT2⟩
set_option maxHeartbeats 4000000 in
theorem ratKernel_c (p : Int) (n : Nat) (rows : List (List Fra)) (A : Option Addr) (c : Nat) (w : World) (hF : fieldB p = true) (h : RdS EFF w A rows) (hw : Wid n rows) (hg : GdM p 21 rows) (hn : n ≤ 12) (hR : rows.length ≤ 24) :
    Calls Tryz.prog 89 #[.int .i64 p, .slice A rows.length c, .int .i64 n] w fun e w' => ∃ A' c', e = .returned (.slice A' ((frOps p).kerL n rows).length c') ∧ RdC w' A' ((frOps p).kerL n rows) ∧ Ex w w' := by
  have HF := Lib.hid hF
  have HW := Lib.hid hw
  have HGd := Lib.hid (show ∀ c, c ≤ n → GdM p 17179869184 (stg (frOps p) ((frOps p).beside rows) c).1 from fun c hc => (stg_cramR hF (by omega) (beside_gd hF (by omega) hg) (beside_wid hw) (R := 12) (.inl hn) (by omega) c hc).mono (by unfold cramB; omega))
  have x0 := ((Ex.refl w).alloc (.cells #[.int .i64 p] 3)).alloc (.cells #[.int .i64 n] 3)
  have v0 := (VB.new w 3 #[.int .i64 p]).ex ((Ex.refl _).alloc (.cells #[.int .i64 n] 3))
  have v1 := VB.new (w.alloc (.cells #[.int .i64 p] 3)) 3 #[.int .i64 n]
  have s0 : ((w.alloc (.cells #[.int .i64 p] 3)).alloc (.cells #[.int .i64 n] 3)).heap.size = w.heap.size + 2 := by simp
  rw [show (w.alloc (.cells #[.int .i64 p] 3)).heap.size = w.heap.size + 1 by simp] at v1
  clear hF hw hg
  go_enter Tryz.func89, Tryz.ntmps89
  go_wp2_with fail
  generalize (w.alloc (.cells #[.int .i64 p] 3)).alloc (.cells #[.int .i64 n] 3) = W0 at *
  refine (copyRows_c A c rows W0 (h.ex x0)).mono ?_
  rintro e w1 ⟨v, rfl, ⟨hnn, hge⟩, x1⟩
  obtain ⟨G, cG, ev, hcG, hcm⟩ := hge.form hnn
  subst ev
  clear hnn
  have hz1 := x1.size
  obtain ⟨m, hm⟩ : ∃ m, rows.length = m := ⟨_, rfl⟩
  have Hm := Lib.hid hm
  rw [hm] at hge hcG hR ⊢
  clear hm h
  go_wp2_with fail
  have vE := VB.new w1 34 #[]
  have y1 := (Ex.refl w1).alloc (.cells #[] 34)
  have t1 : (w1.alloc (.cells #[] 34)).heap.size = w1.heap.size + 1 := by simp
  generalize w1.alloc (.cells #[] 34) = V1 at *
  have vN := VB.new V1 30 #[.slice (some ⟨G, 0, none⟩) m cG]
  have y2 := (Ex.refl V1).alloc (.cells #[.slice (some ⟨G, 0, none⟩) m cG] 30)
  have t2 : (V1.alloc (.cells #[.slice (some ⟨G, 0, none⟩) m cG] 30)).heap.size = w1.heap.size + 1 + 1 := by simp; exact t1
  rw [t1] at vN
  generalize V1.alloc (.cells #[.slice (some ⟨G, 0, none⟩) m cG] 30) = V2 at *
  have vO := VB.new V2 30 #[.slice (some ⟨w1.heap.size, 0, none⟩) 0 0]
  have y3 := (Ex.refl V2).alloc (.cells #[.slice (some ⟨w1.heap.size, 0, none⟩) 0 0] 30)
  have t3 : (V2.alloc (.cells #[.slice (some ⟨w1.heap.size, 0, none⟩) 0 0] 30)).heap.size = w1.heap.size + 1 + 1 + 1 := by simp; exact t2
  rw [t2] at vO
  generalize V2.alloc (.cells #[.slice (some ⟨w1.heap.size, 0, none⟩) 0 0] 30) = V3 at *
  have vE := (vE.ex y2).ex y3
  have vN := vN.ex y3
  have y13 := (y1.trans y2).trans y3
  clear y1 y2 y3 t1 t2
  go_loopw [16] (fun i wr => ∃ (k : Nat) (v : Value), k ≤ m ∧ i = .int .i64 k ∧ VB wr (w1.heap.size + 1 + 1) 30 #[v] ∧ (((List.range k).map (unitF m) = [] ∧ ∃ ad, v = .slice (some ad) 0 0 ∧ ad = ⟨w1.heap.size, 0, none⟩) ∨ GE ELR 34 wr (w1.heap.size + 1 + 1 + 1) wr.heap.size v ((List.range k).map (unitF m))) ∧ v ≠ .slice none 0 0 ∧ VB wr w1.heap.size 34 #[] ∧ VB wr (w1.heap.size + 1) 30 #[.slice (some ⟨G, 0, none⟩) m cG] ∧ w1.heap.size + 1 + 1 + 1 ≤ wr.heap.size ∧ Ex w1 wr) (fun i _ => m - (intOf i).toNat)
  case atStart => exact ⟨0, _, Nat.zero_le _, rfl, vO, .inl ⟨rfl, _, rfl, rfl⟩, by simp, vE, vN, by omega, y13⟩
  case round =>
    rename World => wi
    clear vE vN vO y13 t3
    obtain ⟨k, v, hk, rfl, vO, hG, hnn, vE, vN, hsz, he⟩ := hrel
    by_cases hlt : k < m
    · have HT := Lib.hid (rg_step (unitF m) k)
      obtain ⟨v1', v2', v3', ev⟩ : ∃ A n c, v = .slice A n c := by
        rcases hG with ⟨_, ad, e, _⟩ | hG
        · exact ⟨_, _, _, e⟩
        · obtain ⟨A, c, e⟩ := hG.nilv; exact ⟨_, _, _, e⟩
      have k0 := vO.cell 0 (v := v) rfl
      subst ev
      have hm1000 : m ≤ 1000 := by omega
      go_wp2_with fail
      go_region_law (first
        | (go_simp
           go_at_call 116
           refine (unitRowF_c m k hlt hm1000 _).mono ?_
           rintro e w2 ⟨v0, rfl, hu, x2'⟩
           obtain ⟨gu, cu, eu, _, _⟩ := hu.2.form hu.1
           subst eu
           have x2 : Ex wi w2 := (Ex.refl wi).drew.trans x2'
           have hz2 := x2.size
           have vO2 := vO.ex x2
           have l0 := vO2.cell 0 (v := .slice v1' v2' v3') rfl
           obtain ⟨v5, w5, hrun, ge5, hn5, hk5, hE5⟩ := push_row2 (w := w2) (B := w1.heap.size + 1 + 1 + 1) (H := wi.heap.size) (hG.elim (fun h => .inl ⟨h.1, by obtain ⟨_, ad, e, _⟩ := h; exact ⟨ad, e⟩⟩) (fun h => .inr (h.ex x2))) hz2 hu (Nat.le_refl _) hz2 (Nat.le_refl _) hsz (by rw [List.length_map, List.length_range]; omega)
           rw [← HT.out] at ge5
           obtain ⟨A5, c5, e5⟩ := ge5.nilv
           subst e5
           rw [List.length_map, List.length_range] at ge5 hn5 hrun
           have x5 := hE5 w1 (he.trans x2) (by omega)
           have l1 := (vO2.ex ((Ex.refl w2).alloc (.cells #[.slice (some ⟨gu, 0, none⟩) (unitF m k).length cu] 34))).cell 0 (v := .slice v1' v2' v3') rfl
           have vO5 : VB w5 (w1.heap.size + 1 + 1) 30 #[.slice v1' v2' v3'] := (hk5 _ (by omega)).trans vO2
           have l5 := vO5.cell 0 (v := .slice v1' v2' v3') rfl
           have f5 := vO5.frozen 0)
        | (refine step_append_run rfl _ _ _ rfl rfl rfl hrun ?_))
      all_goals
        have e6 : Ex1 (w1.heap.size + 1 + 1) w5 (w5.setCell ⟨w1.heap.size + 1 + 1, 0, none⟩ (.slice A5 (k + 1) c5)) := (Ex1.refl _ w5).setCell (p := ⟨w1.heap.size + 1 + 1, 0, none⟩) rfl _
        have vO6 : VB (w5.setCell ⟨w1.heap.size + 1 + 1, 0, none⟩ (.slice A5 (k + 1) c5)) (w1.heap.size + 1 + 1) 30 #[.slice A5 (k + 1) c5] := vO5.set_ 0 _
        have vE6 := VB.ex1 (vE.ex x2 |> fun h => (show VB w5 w1.heap.size 34 #[] from (hk5 _ (by omega)).trans h)) e6 (by omega)
        have vN6 := VB.ex1 (vN.ex x2 |> fun h => (show VB w5 (w1.heap.size + 1) 30 #[.slice (some ⟨G, 0, none⟩) m cG] from (hk5 _ (by omega)).trans h)) e6 (by omega)
        have ge6 := (ge5.k1 e6 (by omega)).more (Nat.le_refl _) (H' := (w5.setCell ⟨w1.heap.size + 1 + 1, 0, none⟩ (.slice A5 (k + 1) c5)).heap.size) (by simp)
        have x6 := x5.ex1 e6 (by omega)
        have hz6 := e6.size
        have hz5 := x5.size
        have hz56 := x2.size
        have hlt5 := vO5.lt
        clear k0 hrun ge5 hE5 vO5 l0 l1 l5 f5 vO2 hu hG vE vN vO
        go_wp2_with fail
        go_roundw
        case rel => exact ⟨k + 1, _, by omega, by go_num, vO6, .inr ge6, hn5, vE6, vN6, by omega, x6⟩
        case measure => simp [intOf]; omega
    · obtain rfl : m = k := by omega
      obtain ⟨B', H', hge', hb1, hb2, hb3⟩ : ∃ B' H', GE ELR 34 wi B' H' v ((List.range m).map (unitF m)) ∧ w1.heap.size ≤ B' ∧ (H' ≤ w1.heap.size + 1 ∨ w1.heap.size + 1 + 1 + 1 ≤ B') ∧ H' ≤ wi.heap.size := by
        rcases hG with ⟨h0, ad, e, e2⟩ | hG
        · subst e2
          subst e
          refine ⟨w1.heap.size, w1.heap.size + 1, ?_, Nat.le_refl _, .inl (Nat.le_refl _), by omega⟩
          rw [h0]
          exact ⟨fun k e => by injection e with e; subst e; exact ⟨Nat.le_refl _, Nat.lt_succ_self _⟩, [], fun _ => 0, fun _ => 0, rfl, ⟨by simp, .inr ⟨w1.heap.size, 0, #[], rfl, Nat.le_refl _, vE, Nat.le_refl _, Nat.zero_le _, by simp, by simp⟩⟩, (fun j r hj => by simp at hj), (fun i j hi => by simp at hi)⟩
        · exact ⟨_, _, hG, by omega, .inr (Nat.le_refl _), Nat.le_refl _⟩
      obtain ⟨G', cG', ev, hc', hcm'⟩ := hge'.form hnn
      rw [List.length_map, List.length_range] at ev hc'
      subst ev
      have vR := VB.new wi 3 #[.int .i64 0]
      have y4 := (Ex.refl wi).alloc (.cells #[.int .i64 0] 3)
      have t4 : (wi.alloc (.cells #[.int .i64 0] 3)).heap.size = wi.heap.size + 1 := by simp
      clear hG hnn
      go_wp2_with fail
      generalize wi.alloc (.cells #[.int .i64 0] 3) = V4 at *
      have v0 := ((v0.ex x1).ex he).ex y4
      have v1 := ((v1.ex x1).ex he).ex y4
      have vN := vN.ex y4
      have vO := vO.ex y4
      have hz5 := he.size
      obtain ⟨S, bs, bs', hT, hSb⟩ := RtTwo.of_two (K := fun z => z = wi.heap.size) (Z := (frOps p).beside rows) (hge.ex (he.trans y4)) HW.out (hge'.ex y4) (fun v hv => by
        obtain ⟨i, _, rfl⟩ := List.mem_map.1 hv
        exact unitF_len m i) (beside_take HW.out) (by rw [beside_drop HW.out, Hm.out]; rfl) hb1 (fun z hz => by omega) (by omega)
      have hS5 : ∀ z, S z ∨ z = wi.heap.size → w.heap.size ≤ z ∧ z < V4.heap.size := fun z hz => by
        have := hge'.own
        rcases hz with hz | hz
        · rcases hSb z hz with h | h <;> omega
        · omega
      have hSn : ¬ S wi.heap.size := fun h => by rcases hSb _ h with h | h <;> omega
      have hSN : ¬ S V4.heap.size := fun h => by have := hS5 _ (.inl h); omega
      have hSo : ¬ S (w1.heap.size + 1 + 1) := fun h => by rcases hSb _ h with h | h <;> omega
      have hZl : ((frOps p).beside rows).length = m := by rw [beside_len, Hm.out]
      have hfl := red_len (frOps p) n 0 0 ((frOps p).beside rows)
      have hfs := red_snd (frOps p) n 0 0 ((frOps p).beside rows) (Nat.zero_le _)
      rw [hZl] at hfl hfs
      have hke : (frOps p).kerL n rows = (((frOps p).red n 0 0 ((frOps p).beside rows)).1.map (List.drop n)).drop ((frOps p).red n 0 0 ((frOps p).beside rows)).2 := by unfold Ops.kerL; rw [List.map_drop]
      have hcall := whole_c 117 (enters_of Tryz.func117 (by kernel_rfl) rfl) #[.pointer (some ⟨w.heap.size, 0, none⟩), .pointer (some ⟨w1.heap.size + 1, 0, none⟩), .pointer (some ⟨w.heap.size + 1, 0, none⟩), .pointer (some ⟨w1.heap.size + 1 + 1, 0, none⟩), .pointer (some ⟨wi.heap.size, 0, none⟩)] V4 (fun z => S z ∨ z = wi.heap.size)
        (fun W => VB W wi.heap.size 3 #[.int .i64 ((frOps p).red n 0 0 ((frOps p).beside rows)).2] ∧ ∃ bs bs', RtTwo W S (fun z => z = wi.heap.size ∨ z = V4.heap.size) G G' bs bs' ((frOps p).red n 0 0 ((frOps p).beside rows)).1 n m) (fun z hz => (hS5 z hz).2) (fun W hW hsz => by
          have hTW := hT.moreK (K' := fun z => z = wi.heap.size ∨ z = V4.heap.size) hW (fun z hz => by
            rcases hz with hz | hz
            · exact .inl hz
            · exact .inr (by omega))
          refine (ratKer1_c p S _ G G' bs bs' ((frOps p).beside rows) n m m cG cG' w.heap.size (w1.heap.size + 1) (w.heap.size + 1) (w1.heap.size + 1 + 1) wi.heap.size W HF.out hTW (by have := beside_wid (O := frOps p) HW.out; rwa [Hm.out] at this) HGd.out hZl (by omega) (by omega) (by omega) hcG hcm ((v0.ex hW).cell 0 rfl) ((vN.ex hW).cell 0 rfl) ((v1.ex hW).cell 0 rfl) ((vO.ex hW).cell 0 rfl) (vR.ex hW) hSn (.inl rfl)).mono ?_
          rintro e W' ⟨rfl, a1, a2, a3⟩
          exact ⟨rfl, a1, a2, a3⟩) (fun W W' hq he => by
          obtain ⟨q1, bs1, bs1', q2⟩ := hq
          exact ⟨q1.ex1 he (by omega), bs1, bs1', q2.k1 (.inr rfl) hSN he⟩)
      have x4 := ((x0.trans x1).trans he).trans y4
      clear hT v0 v1 vN vR hge hge' vE
      generalize (frOps p).red n 0 0 ((frOps p).beside rows) = FIN at *
      refine hcall.mono ?_
      rintro e w5 ⟨rfl, x5, v5, bs5, bs5', hT5⟩
      have vO5 : VB w5 (w1.heap.size + 1 + 1) 30 #[.slice (some ⟨G', 0, none⟩) m cG'] := (x5.block _ vO.lt (fun h => by
        rcases h with h | h
        · exact hSo h
        · omega)).trans vO
      have d0 := vO5.cell 0 (v := .slice (some ⟨G', 0, none⟩) m cG') rfl
      have d1 := v5.cell 0 (v := .int .i64 FIN.2) rfl
      have x5w : Ex w w5 := x4.sx x5 (fun z hz => (hS5 z hz).1)
      have hsl := fun W => run_dropR (A := some ⟨G', 0, none⟩) hfs hc' W
      have hkl : ((frOps p).kerL n rows).length = m - FIN.2 := by rw [hke, List.length_drop, List.length_map, hfl]
      have hfin : RdC w5 (if cG' = FIN.2 then some ⟨G', 0, none⟩ else (some (⟨G', 0, none⟩ : Addr)).map (fun a => a.add (FIN.2 * 1))) ((frOps p).kerL n rows) := by
        rw [hke]
        by_cases e : FIN.2 = m
        · rw [List.drop_of_length_le (by rw [List.length_map, hfl]; omega)]
          exact RdC.nil _ _
        · have := hT5.a.rdc (by rw [List.length_map, hfl]; omega) (by omega) FIN.2
          rw [if_neg (by omega)]
          have e2 : (some (⟨G', 0, none⟩ : Addr)).map (fun a => a.add (FIN.2 * 1)) = some ⟨G', FIN.2, none⟩ := by
            rw [Option.map_some, Nat.mul_one]
            unfold Addr.add
            split <;> simp_all
          rw [e2]
          exact this
      have Hfin := Lib.hid hfin
      have Hkl := Lib.hid hkl
      generalize (if cG' = FIN.2 then some ⟨G', 0, none⟩ else (some (⟨G', 0, none⟩ : Addr)).map (fun a => a.add (FIN.2 * 1))) = PP at *
      obtain ⟨f, hf⟩ : ∃ f, FIN.2 = f := ⟨_, rfl⟩
      rw [hf] at d1 hsl Hkl
      clear hcall hT5 hfin hkl hke hfl v5 hf
      go_wp2_with fail
      go_ret
      rw [Hkl.out]
      exact ⟨_, _, rfl, Hfin.out, x5w⟩
end Go.Proofs.YtpeogfapnofeoaaGreatDoor
