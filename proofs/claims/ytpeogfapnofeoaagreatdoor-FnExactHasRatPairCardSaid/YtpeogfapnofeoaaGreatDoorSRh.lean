/- The reference's rrHas: a list less multiples of a reduced basis. -/
import Derived.Test.YtpeogfapnofeoaaGreatDoorSRt
import Derived.Test.YtpeogfapnofeoaaGreatDoorPkK
import Derived.Test.YtpeogfapnofeoaaGreatDoorRfA
namespace Go.Proofs.YtpeogfapnofeoaaGreatDoor
set_option maxRecDepth 100000
open Go Go.RowKit
/-- A list less the multiples of the rows that clear the rows' leading places. -/
def redF (p : Int) (basis : List (List Fra)) (v : List Fra) : List Fra := basis.foldl (fun v r => (frOps p).less v ((frOps p).el v (leadF r)) r) v
def hasF (p : Int) (basis : List (List Fra)) (v : List Fra) : Bool := decide (leadF (redF p basis v) = v.length)
theorem redF_step {p : Int} {basis : List (List Fra)} {v : List Fra} {k : Nat} {r : List Fra} (h : basis[k]? = some r) : redF p (basis.take (k + 1)) v = (frOps p).less (redF p (basis.take k) v) ((frOps p).el (redF p (basis.take k) v) (leadF r)) r := by
  unfold redF
  rw [List.take_add_one, h, List.foldl_append]
  rfl
theorem redF_good {p : Int} {n : Nat} {basis : List (List Fra)} {v : List Fra} (hb : GdM p 21 basis) (hw : Wid n basis) (hld : ∀ r ∈ basis, leadF r < n) (hv : GdR p 21 v) (hl : v.length = n) : ∀ k, k ≤ basis.length → (redF p (basis.take k) v).length = n ∧ GdR p (21 * 3 ^ k) (redF p (basis.take k) v) := by
  intro k
  induction k with
  | zero => intro _; exact ⟨hl, by simpa [redF] using hv⟩
  | succ k ih =>
    intro hk
    obtain ⟨h1, h2⟩ := ih (by omega)
    have hr := List.getElem?_eq_getElem (show k < basis.length by omega)
    have hm := List.mem_of_getElem? hr
    rw [redF_step hr]
    have h3 := el_good h2 (c := leadF basis[k]) (by rw [h1]; exact hld _ hm)
    refine ⟨less_len _ h1 (hw _ hm) _, (h2.less (hb _ hm) h3.1 h3.2).mono ?_⟩
    have : 1 ≤ 3 ^ k := Nat.one_le_pow _ _ (by omega)
    rw [Nat.pow_succ]
    omega
theorem pow3_le {k : Nat} (h : k ≤ 12) : 21 * 3 ^ k ≤ 68719476736 := by
  have : 3 ^ k ≤ 3 ^ 12 := Nat.pow_le_pow_right (by omega) h
  omega
set_option maxHeartbeats 4000000 in
theorem rrHas_c (p : Int) (n : Nat) (basis : List (List Fra)) (v : List Fra) (A B : Option Addr) (c d : Nat) (w : World) (h : RdS EFF w A basis) (hv : RdS EF w B v) (hb : GdM p 21 basis) (hw : Wid n basis) (hld : ∀ r ∈ basis, leadF r < n) (hvg : GdR p 21 v) (hvl : v.length = n) (hn : n ≤ 12) (hbl : basis.length ≤ 12) :
    Calls Tryz.prog 33 #[.int .i64 p, .slice A basis.length c, .slice B n d] w fun e w' => e = .returned (.bool (hasF p basis v)) ∧ Ex w w' := by
  have HG := Lib.hid (redF_good hb hw hld hvg hvl)
  have Hb := Lib.hid hb
  have Hw := Lib.hid hw
  have Hld := Lib.hid hld
  have Hvl := Lib.hid hvl
  have hl := h.1
  clear hb hw hld hvg hvl
  go_enter Tryz.func33, Tryz.ntmps33
  go_wp2_with fail
  go_loopw [2, 11] (fun o i wr => ∃ (k : Nat) (P : Option Addr) (pc : Nat), k ≤ basis.length ∧ i = .int .i64 k ∧ o = .slice P n pc ∧ RdS EF wr P (redF p (basis.take k) v) ∧ Ex w wr) (fun _ i _ => basis.length - (intOf i).toNat)
  case atStart => exact ⟨0, B, d, Nat.zero_le _, rfl, rfl, by simpa [redF] using hv, Ex.refl _⟩
  case round =>
    rename World => wi
    obtain ⟨k, P, pc, hk, rfl, rfl, hP, he⟩ := hrel
    by_cases hlt : k < basis.length
    · obtain ⟨g, off, r, u, rfl, hr, b0, hu⟩ := (h.ex he).fracs hlt
      obtain ⟨R, rc, rfl, hR⟩ := hu.form
      have hm := List.mem_of_getElem? hr
      obtain ⟨h1, h2⟩ := HG.out k hk
      have HT := Lib.hid (redF_step (p := p) (v := v) hr)
      have hrl := Hw.out r hm
      have hll := Hld.out r hm
      have Hrb := Lib.hid (Hb.out r hm)
      obtain ⟨V, hV⟩ : ∃ V, redF p (basis.take k) v = V := ⟨_, rfl⟩
      rw [hV] at hP HT h1 h2
      have H2 := Lib.hid h2
      obtain ⟨L, hL⟩ : ∃ L, leadF r = L := ⟨_, rfl⟩
      rw [hL] at hll
      obtain ⟨g2, off2, x, X, xc, Y, yc, rfl, hx, c0, c1, hX, hY⟩ := hP.frac (j := L) (by omega)
      have hel : (frOps p).el V L = x := (frOps p).el_in hx
      rw [hL, hel] at HT
      have hxg := Lib.hid (H2.out x (List.mem_of_getElem? hx))
      have cLead := rrLead_c R rc r wi hR
      rw [hL] at cLead
      have cLess : ∀ W, Ex wi W → Calls Tryz.prog 67 #[.int .i64 p, .slice (some ⟨g2, off2, none⟩) n pc, .slice R r.length rc, .agg #[.slice X x.n.length xc, .slice Y x.d.length yc]] W fun e w' => ∃ v, e = .returned v ∧ GE ELF 58 w' W.heap.size w'.heap.size v ((frOps p).less V x r) ∧ Ex W w' := fun W hW => by
        have := rrLess_c p V r x (some ⟨g2, off2, none⟩) R X Y pc rc xc yc W (hP.ex hW) (hR.ex hW) (by omega) (hX.ex hW) (hY.ex hW) (H2.out.mono (Nat.le_trans (pow3_le (by omega)) (by omega))) (Hrb.out.mono (by omega)) hxg.out.1 (hxg.out.2.mono (pow3_le (by omega)))
        rwa [h1] at this
      have hnl : ((frOps p).less V x r).length = n := less_len _ h1 hrl _
      have HNL := Lib.hid hnl
      clear hr hx hV hL h2 hel h1 hrl hnl hm
      go_wp2_with fail
      refine cLead.mono ?_
      rintro e w4 ⟨rfl, x4⟩
      have d0 := cell_ex x4 c0
      have d1 := cell_ex x4 c1
      go_wp2_with fail
      refine (cLess w4 x4).mono ?_
      rintro e w5 ⟨v5, rfl, ge5, x5⟩
      obtain ⟨A5, c5, rfl, _, o5⟩ := ge5.ox (E' := EXF) (by have := HNL.out; omega) rfl elf_exf
      have r5 := o5.rds (E' := EF) rfl exf_rd
      rw [← HT.out] at r5
      rw [HNL.out]
      clear cLess cLead HT ge5 o5 HNL
      go_wp2_with fail
      go_roundw
      case rel => exact ⟨k + 1, A5, c5, by omega, by go_num, rfl, r5, (he.trans x4).trans x5⟩
      case measure => simp [intOf]; omega
    · obtain rfl : k = basis.length := by omega
      obtain ⟨h1, _⟩ := HG.out basis.length (Nat.le_refl _)
      rw [List.take_length] at hP h1
      have cLead := rrLead_c P pc (redF p basis v) wi hP
      rw [h1] at cLead
      have HY := Lib.hid (show hasF p basis v = decide (leadF (redF p basis v) = n) by unfold hasF; rw [Hvl.out])
      obtain ⟨L, hL⟩ : ∃ L, leadF (redF p basis v) = L := ⟨_, rfl⟩
      rw [hL] at cLead HY
      clear hL h1
      go_wp2_with fail
      refine cLead.mono ?_
      rintro e w4 ⟨rfl, x4⟩
      by_cases hLn : L = n
      · subst hLn
        rw [decide_eq_true rfl] at HY
        go_wp2_with fail
        go_ret
        exact ⟨ret_bool (by rw [HY.out]), he.trans x4⟩
      · rw [decide_eq_false hLn] at HY
        have hLi : ((L : Int) == (n : Int)) = false := by simp; omega
        clear hLn
        go_wp2_with fail
        go_ret
        exact ⟨ret_bool (by rw [HY.out]), he.trans x4⟩
end Go.Proofs.YtpeogfapnofeoaaGreatDoor
