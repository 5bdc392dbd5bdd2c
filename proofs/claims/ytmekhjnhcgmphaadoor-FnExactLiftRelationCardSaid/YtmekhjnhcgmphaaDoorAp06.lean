/- Contracts: the reference's valid fractions; the laws' helpers on fractions. Contracts: lists of fractions; causal fractions. The ring of polynomials modulo p, no program in sight: a list of coefficients acts on rows of integers; ideals, remainders, greatest common divisors. Greatest common divisors and powers modulo a polynomial, no program in sight. -/
import Derived.Test.YtmekhjnhcgmphaaDoorAp05
namespace Go.Proofs.YtmekhjnhcgmphaaDoor
set_option maxRecDepth 100000
open Go Go.RowKit
set_option maxHeartbeats 400000 in
theorem frSize_c (A : Option Addr) (c n : Nat) (w : World) (hn : n ≤ 1099511627776) : Calls Tryd.prog 85 #[.slice A n c] w fun e w' => e = .returned (.bool (decide (n ≤ 21))) ∧ w = w' := by
  go_enter Tryd.func85, Tryd.ntmps85
  go_wp2
  go_ret
  exact ⟨ret_bool (by simp; omega), rfl⟩
set_option maxHeartbeats 2000000 in
theorem frGood_c (p : Int) (A B : Option Addr) (c d : Nat) (num den : List Int) (w : World) (hn : Rd w A num) (hd : Rd w B den) :
    Calls Tryd.prog 114 #[.int .i64 p, .agg #[.slice A num.length c, .slice B den.length d]] w fun e w' => e = .returned (.bool (fracB p num den)) ∧ Ex w w' := by
  have hl1 := hn.len
  have hl2 := hd.len
  have x0 : ∀ (a : Obj), Ex w (w.alloc a) := fun a => (Ex.refl w).alloc a
  cases h1 : polyB p num with
  | false =>
    have H := Lib.hid (show fracB p num den = false by simp [fracB, h1])
    go_enter Tryd.func114, Tryd.ntmps114
    go_wp2_with (go_at_call 117; refine (poGood_c _ _ _ _ _ (hn.ex (x0 _))).mono ?_; rintro e w' ⟨rfl, rfl⟩)
    go_ret
    exact ⟨by rw [H.out]; rfl, x0 _⟩
  | true =>
  cases h2 : polyB p den with
  | false =>
    have H := Lib.hid (show fracB p num den = false by simp [fracB, h2])
    go_enter Tryd.func114, Tryd.ntmps114
    go_wp2_with fail
    refine (poGood_c _ _ _ _ _ (hn.ex (x0 _))).mono ?_
    rintro e w' ⟨rfl, rfl⟩
    go_wp2_with fail
    refine (poGood_c _ _ _ _ _ (hd.ex (x0 _))).mono ?_
    rintro e w' ⟨rfl, rfl⟩
    go_wp2
    go_ret
    exact ⟨by rw [H.out]; rfl, x0 _⟩
  | true =>
  by_cases h3 : num.length ≤ 21
  case neg =>
    have H := Lib.hid (show fracB p num den = false by simp [fracB, h3])
    have h3' : decide (num.length ≤ 21) = false := by simpa using h3
    go_enter Tryd.func114, Tryd.ntmps114
    go_wp2_with fail
    refine (poGood_c _ _ _ _ _ (hn.ex (x0 _))).mono ?_
    rintro e w' ⟨rfl, rfl⟩
    go_wp2_with fail
    refine (poGood_c _ _ _ _ _ (hd.ex (x0 _))).mono ?_
    rintro e w' ⟨rfl, rfl⟩
    go_wp2_with (go_at_call 85; refine (frSize_c _ _ _ _ (by omega)).mono ?_; rintro e w' ⟨rfl, rfl⟩)
    go_ret
    exact ⟨by rw [H.out]; rfl, x0 _⟩
  by_cases h4 : den.length ≤ 21
  case neg =>
    have H := Lib.hid (show fracB p num den = false by simp [fracB, h4])
    go_enter Tryd.func114, Tryd.ntmps114
    go_wp2_with fail
    refine (poGood_c _ _ _ _ _ (hn.ex (x0 _))).mono ?_
    rintro e w' ⟨rfl, rfl⟩
    go_wp2_with fail
    refine (poGood_c _ _ _ _ _ (hd.ex (x0 _))).mono ?_
    rintro e w' ⟨rfl, rfl⟩
    go_wp2_with (go_at_call 85; refine (frSize_c _ _ _ _ (by omega)).mono ?_; rintro e w' ⟨rfl, rfl⟩)
    go_ret
    exact ⟨by rw [H.out]; rfl, x0 _⟩
  by_cases h5 : den = []
  · have H := Lib.hid (show fracB p num den = false by simp [fracB, h5])
    subst h5
    go_enter Tryd.func114, Tryd.ntmps114
    go_wp2_with fail
    refine (poGood_c _ _ _ _ _ (hn.ex (x0 _))).mono ?_
    rintro e w' ⟨rfl, rfl⟩
    go_wp2_with fail
    refine (poGood_c _ _ _ [] _ (hd.ex (x0 _))).mono ?_
    rintro e w' ⟨rfl, rfl⟩
    go_wp2_with (go_at_call 85; refine (frSize_c _ _ _ _ (by omega)).mono ?_; rintro e w' ⟨rfl, rfl⟩)
    go_ret
    exact ⟨by rw [H.out]; rfl, x0 _⟩
  have hdl := List.length_pos_iff.2 h5
  have hdb : ((den.length : Int) == 0) = false := by simp; omega
  obtain ⟨gl, hgl⟩ : ∃ gl : Nat, den.length = gl + 1 := ⟨den.length - 1, by omega⟩
  obtain ⟨gA, goff, x, rfl, hx, hgA, hcell⟩ := hd.at_ (by omega : gl < den.length)
  have hcx : cf den (den.length - 1) = x := by rw [hgl]; exact cf_of hx
  have hgi : (den.length : Int) - 1 = (gl : Int) := by omega
  have hgl2 : gl < den.length := by omega
  have hc1 : ∀ o, (w.alloc o).cell? ⟨gA, goff + gl, none⟩ = some (.int .i64 x) := fun o => cell_ex (x0 o) hcell
  by_cases h6 : x = 1
  · subst h6
    obtain ⟨hF, _, hne, tn⟩ := polyB_parts h1
    obtain ⟨_, _, hde, td⟩ := polyB_parts h2
    have H := Lib.hid (show fracB p num den = decide ((gcdM p num den).length = 1) by simp [fracB, h1, h2, h3, h4, h5, hcx])
    have HF := Lib.hid hF
    have Hne := Lib.hid hne
    have Hde := Lib.hid hde
    have H5 := Lib.hid h5
    clear hgl hx hcx hcell hF hne hde h5
    go_enter Tryd.func114, Tryd.ntmps114
    go_wp2_with fail
    refine (poGood_c _ _ _ _ _ (hn.ex (x0 _))).mono ?_
    rintro e w' ⟨rfl, rfl⟩
    go_wp2_with fail
    refine (poGood_c _ _ _ _ _ (hd.ex (x0 _))).mono ?_
    rintro e w' ⟨rfl, rfl⟩
    go_wp2_with (go_at_call 85; refine (frSize_c _ _ _ _ (by omega)).mono ?_; rintro e w' ⟨rfl, rfl⟩)
    refine (poGcd_c p A _ c d num den _ (hn.ex (x0 _)) (hd.ex (x0 _)) HF.out Hne.out Hde.out tn td (.inr H5.out)).mono ?_
    rintro e w1 ⟨A1, c1, rfl, f1, x1⟩
    have xx := (x0 _).trans x1
    clear hc1 x0 h1 h2
    go_wp2_with fail
    go_ret
    exact ⟨by rw [H.out]; exact ret_bool (by rw [Bool.eq_iff_iff]; simp; omega), xx⟩
  · have H := Lib.hid (show fracB p num den = false by simp [fracB, hcx, h6])
    have hxb : (x != 1) = true := by simpa using h6
    clear hgl hx hcx hcell h5 h6
    go_enter Tryd.func114, Tryd.ntmps114
    go_wp2_with fail
    refine (poGood_c _ _ _ _ _ (hn.ex (x0 _))).mono ?_
    rintro e w' ⟨rfl, rfl⟩
    go_wp2_with fail
    refine (poGood_c _ _ _ _ _ (hd.ex (x0 _))).mono ?_
    rintro e w' ⟨rfl, rfl⟩
    go_wp2_with (go_at_call 85; refine (frSize_c _ _ _ _ (by omega)).mono ?_; rintro e w' ⟨rfl, rfl⟩)
    go_ret
    exact ⟨by rw [H.out]; rfl, x0 _⟩
end Go.Proofs.YtmekhjnhcgmphaaDoor
namespace Go.Proofs.YtmekhjnhcgmphaaDoor
set_option maxRecDepth 100000
open Go Go.RowKit
/-- The slice that begins at A holds the fractions fs, two cells each. -/
def RdF (w : World) (A : Option Addr) (fs : List (List Int × List Int)) : Prop :=
  fs.length ≤ 549755813888 ∧ ∀ (j : Nat) (q : List Int × List Int), fs[j]? = some q → ∃ g off A' c B' d, A = some ⟨g, off, none⟩ ∧
    w.cell? ⟨g, off + j * 2, none⟩ = some (.slice A' q.1.length c) ∧ w.cell? ⟨g, off + j * 2 + 1, none⟩ = some (.slice B' q.2.length d) ∧ Rd w A' q.1 ∧ Rd w B' q.2
theorem RdF.ex {w w' : World} {A : Option Addr} {fs : List (List Int × List Int)} (h : RdF w A fs) (he : Ex w w') : RdF w' A fs :=
  ⟨h.1, fun j q hj => by
    obtain ⟨g, off, A', c, B', d, hA, h0, h1, r0, r1⟩ := h.2 j q hj
    exact ⟨g, off, A', c, B', d, hA, cell_ex he h0, cell_ex he h1, r0.ex he, r1.ex he⟩⟩
theorem RdF.one {w : World} {g : Nat} {A B : Option Addr} {c d : Nat} {n m : List Int} (h0 : w.cell? ⟨g, 0, none⟩ = some (.slice A n.length c)) (h1 : w.cell? ⟨g, 1, none⟩ = some (.slice B m.length d)) (r0 : Rd w A n) (r1 : Rd w B m) : RdF w (some ⟨g, 0, none⟩) [(n, m)] :=
  ⟨by simp, fun j q hj => by
    match j with
    | 0 => injection hj with hj; subst hj; exact ⟨g, 0, A, c, B, d, rfl, h0, h1, r0, r1⟩
    | j + 1 => simp at hj⟩
end Go.Proofs.YtmekhjnhcgmphaaDoor
namespace Go.Proofs.YtmekhjnhcgmphaaDoor
set_option maxRecDepth 100000
/-- One place on. -/
def sh (u : Nat → Int) : Nat → Int
  | 0 => 0
  | n + 1 => u n
/-- The polynomial f times the row u. -/
def act : List Int → (Nat → Int) → Nat → Int
  | [], _ => fun _ => 0
  | a :: az, u => fun n => a * u n + sh (act az u) n
/-- The row 1, 0, 0, .. -/
def one : Nat → Int
  | 0 => 1
  | _ + 1 => 0
theorem act_cons (a : Int) (az : List Int) (u : Nat → Int) (n : Nat) : act (a :: az) u n = a * u n + sh (act az u) n := rfl
theorem sh_add (u v : Nat → Int) (n : Nat) : sh (fun i => u i + v i) n = sh u n + sh v n := by cases n <;> rfl
theorem sh_mul (c : Int) (u : Nat → Int) (n : Nat) : sh (fun i => c * u i) n = c * sh u n := by
  cases n with
  | zero => simp [sh]
  | succ n => rfl
theorem act_add (f : List Int) (u v : Nat → Int) : act f (fun i => u i + v i) = fun n => act f u n + act f v n := by
  induction f with
  | nil => funext n; simp [act]
  | cons a az ih =>
    funext n
    simp only [act_cons, ih, sh_add, Int.mul_add]
    omega
theorem act_mul (f : List Int) (c : Int) (u : Nat → Int) : act f (fun i => c * u i) = fun n => c * act f u n := by
  induction f with
  | nil => funext n; simp [act]
  | cons a az ih =>
    funext n
    simp only [act_cons, ih, sh_mul, Int.mul_add, Int.mul_left_comm]
theorem act_sh (f : List Int) (u : Nat → Int) : act f (sh u) = sh (act f u) := by
  induction f with
  | nil => funext n; cases n <;> rfl
  | cons a az ih =>
    funext n
    rw [act_cons, ih]
    cases n with
    | zero => simp [sh]
    | succ n => rfl
theorem act_zero (f : List Int) : act f (fun _ => 0) = fun _ => 0 := by
  have := act_mul f 0 (fun _ => 0)
  simpa using this
theorem act_comm (f g : List Int) (u : Nat → Int) : act f (act g u) = act g (act f u) := by
  induction f with
  | nil => rw [show act [] u = fun _ => 0 from rfl, act_zero]; rfl
  | cons a az ih =>
    have e : act (a :: az) u = fun n => a * u n + sh (act az u) n := rfl
    rw [e, act_add, act_mul, act_sh, ← ih]
    rfl
/-- The product of two lists. -/
theorem act_prod (f g : List Int) : ∃ q, ∀ u, act q u = act f (act g u) := by
  induction f with
  | nil => exact ⟨[], fun u => rfl⟩
  | cons a az ih =>
    obtain ⟨q, hq⟩ := ih
    obtain ⟨s, hs⟩ : ∃ s, ∀ u, act s u = fun n => a * act g u n + act (0 :: q) u n := by
      generalize 0 :: q = t
      clear hq
      induction g generalizing t with
      | nil => exact ⟨t, fun u => by funext n; simp [act]⟩
      | cons b bs ihg =>
        cases t with
        | nil =>
          obtain ⟨s, hs⟩ := ihg []
          exact ⟨a * b :: s, fun u => by
            funext n
            have h0 := congrFun (hs u)
            rw [act_cons, act_cons]
            cases n with
            | zero => simp [sh, act, Int.mul_assoc]
            | succ n => simp only [sh]; rw [h0 n]; simp [act, Int.mul_add, Int.mul_assoc]⟩
        | cons c cs =>
          obtain ⟨s, hs⟩ := ihg cs
          exact ⟨(a * b + c) :: s, fun u => by
            funext n
            have h0 := congrFun (hs u)
            rw [act_cons, act_cons, act_cons]
            cases n with
            | zero => simp [sh, Int.mul_assoc, Int.add_mul]
            | succ n =>
              simp only [sh]; rw [h0 n]; simp only [Int.mul_add, Int.mul_assoc, Int.add_mul]
              omega⟩
    refine ⟨s, fun u => ?_⟩
    rw [hs]
    funext n
    rw [act_cons, act_cons, hq]
    simp
theorem cf_act : ∀ (f : List Int), cf f = act f one
  | [] => by funext n; rfl
  | a :: az => by
    funext n
    rw [act_cons]
    cases n with
    | zero => simp [cf_zero, one, sh]
    | succ n => rw [cf_succ, cf_act az]; simp [one, sh]
theorem act_cf_comm (f g : List Int) : act f (cf g) = act g (cf f) := by rw [cf_act g, act_comm, ← cf_act]
theorem cvS_cons (a : Int) (az g : List Int) (n k : Nat) : cvS (a :: az) g n (k + 1) = a * cf g n + sh (fun m => cvS az g m k) n := by
  induction k with
  | zero => cases n <;> simp [cvS, sh, cf_zero]
  | succ k ih =>
    rw [cvS, ih]
    cases n with
    | zero => simp [sh]
    | succ n =>
      simp only [sh, cvS, cf_succ, Nat.add_le_add_iff_right]
      have : n + 1 - (k + 1) = n - k := by omega
      rw [this]; omega
theorem cvS_act : ∀ (f g : List Int) (n : Nat), cvS f g n f.length = act f (cf g) n
  | [], g, n => rfl
  | a :: az, g, n => by
    rw [List.length_cons, cvS_cons, act_cons]
    congr 2
    funext m
    exact cvS_act az g m

/-! ### Congruence -/
def Cong (p : Int) (u v : Nat → Int) : Prop := ∀ n, p ∣ u n - v n
theorem Cong.refl (p : Int) (u : Nat → Int) : Cong p u u := fun n => by rw [Int.sub_self]; exact Int.dvd_zero _
theorem Cong.of_eq {p : Int} {u v : Nat → Int} (h : u = v) : Cong p u v := h ▸ Cong.refl p u
theorem Cong.symm {p : Int} {u v : Nat → Int} (h : Cong p u v) : Cong p v u := fun n => by
  have := (Int.dvd_neg (a := p)).2 (h n)
  rwa [Int.neg_sub] at this
theorem Cong.trans {p : Int} {u v w : Nat → Int} (h : Cong p u v) (k : Cong p v w) : Cong p u w := fun n => by
  have := Int.dvd_add (h n) (k n)
  rwa [show u n - v n + (v n - w n) = u n - w n by omega] at this
theorem Cong.add {p : Int} {u v u' v' : Nat → Int} (h : Cong p u v) (k : Cong p u' v') : Cong p (fun n => u n + u' n) (fun n => v n + v' n) := fun n => by
  have := Int.dvd_add (h n) (k n)
  rwa [show u n - v n + (u' n - v' n) = u n + u' n - (v n + v' n) by omega] at this
theorem Cong.sub {p : Int} {u v u' v' : Nat → Int} (h : Cong p u v) (k : Cong p u' v') : Cong p (fun n => u n - u' n) (fun n => v n - v' n) := fun n => by
  have := Int.dvd_sub (h n) (k n)
  rwa [show u n - v n - (u' n - v' n) = u n - u' n - (v n - v' n) by omega] at this
theorem Cong.mul {p : Int} {u v : Nat → Int} (c : Int) (h : Cong p u v) : Cong p (fun n => c * u n) (fun n => c * v n) := fun n => by
  have := Int.dvd_trans (h n) (Int.dvd_mul_left c _)
  show p ∣ c * u n - c * v n
  rwa [Int.mul_sub] at this
theorem Cong.sh {p : Int} {u v : Nat → Int} (h : Cong p u v) : Cong p (sh u) (sh v) := fun n => by
  cases n with
  | zero => exact Int.dvd_zero _
  | succ n => exact h n
theorem Cong.act {p : Int} {u v : Nat → Int} (f : List Int) (h : Cong p u v) : Cong p (act f u) (act f v) := by
  induction f with
  | nil => exact Cong.refl _ _
  | cons a az ih => exact (h.mul a).add ih.sh
theorem Cong.emod {p : Int} (u : Nat → Int) : Cong p (fun n => u n % p) u := fun n => by
  exact Int.dvd_sub_self_of_emod_eq rfl
theorem Cong.emod_eq {p : Int} {u v : Nat → Int} (h : Cong p u v) (n : Nat) : u n % p = v n % p := Int.emod_eq_emod_iff_emod_sub_eq_zero.2 (Int.emod_eq_zero_of_dvd (h n))
/-- Congruent reduced lists without zeros at the end are equal. -/
theorem Cong.list {p : Int} {f g : List Int} (h : Cong p (cf f) (cf g)) (hp : 0 < p) (hf : allEl p f = true) (hg : allEl p g = true) (tf : Tr f) (tg : Tr g) : f = g := by
  unfold Tr at tf tg
  rw [← tf, ← tg]
  refine trim_ext fun i => ?_
  have := h.emod_eq i
  have b1 := cf_bd hf hp i
  have b2 := cf_bd hg hp i
  rwa [Int.emod_eq_of_lt b1.1 b1.2, Int.emod_eq_of_lt b2.1 b2.2] at this
theorem Cong.actl {p : Int} {f g : List Int} (h : Cong p (cf f) (cf g)) (u : List Int) : Cong p (Go.Proofs.YtmekhjnhcgmphaaDoor.act f (cf u)) (Go.Proofs.YtmekhjnhcgmphaaDoor.act g (cf u)) := by
  rw [act_cf_comm f, act_cf_comm g]
  exact h.act u

/-! ### What the program's sums, products and quotients are -/
theorem pMulR_cong {p : Int} (hp : 0 < p) (f g : List Int) : Cong p (cf (pMulR p f g)) (act f (cf g)) := by
  have e : cf (pMulR p f g) = fun n => act f (cf g) n % p := by
    funext n; rw [pMulR_cf hp, cvS_act]
  rw [e]; exact Cong.emod _
theorem pMul_cong {p : Int} (hp : 0 < p) (f g : List Int) : Cong p (cf (pMul p f g)) (act f (cf g)) := by
  have e : cf (pMul p f g) = cf (pMulR p f g) := by funext n; exact trim_cf _ n
  rw [e]; exact pMulR_cong hp f g
theorem pAdd_cong {p : Int} (hp : 0 < p) {f : List Int} (hf : allEl p f = true) (b : Int) (g : List Int) : Cong p (cf (pAdd p f b g)) (fun n => cf f n + b * cf g n) := by
  have e : cf (pAdd p f b g) = fun n => (cf f n + b * cf g n) % p := by funext n; exact pAdd_cf p b g hf hp n
  rw [e]; exact Cong.emod _
theorem act_snoc (q : List Int) (c : Int) (u : Nat → Int) (n : Nat) : act (q ++ [c]) u n = act q u n + if q.length ≤ n then c * u (n - q.length) else 0 := by
  induction q generalizing n with
  | nil => simp [act, act_cons]; cases n <;> simp [sh]
  | cons a az ih =>
    rw [List.cons_append, act_cons, act_cons]
    cases n with
    | zero => simp [sh]
    | succ n => simp only [sh, ih, List.length_cons, Nat.add_le_add_iff_right, Nat.add_sub_add_right]; omega
theorem divGo_cong (p : Int) (g : List Int) (b : Int) (k : Nat) : ∀ r, k + g.length - 1 ≤ r.length → g ≠ [] → Cong p (cf r) (fun n => act (divGo p g b k r).1 (cf g) n + cf (divGo p g b k r).2 n) := by
  induction k with
  | zero => intro r _ _; exact Cong.of_eq (by funext n; simp [divGo, act])
  | succ k ih =>
    intro r hr hg
    have hgl := List.length_pos_iff.2 hg
    have h := ih (addAt p r k (-(cf r (k + g.length - 1) * b % p)) g) (by rw [addAt_len]; omega) hg
    rw [divGo]
    have hl := (divGo_len p g b k (addAt p r k (-(cf r (k + g.length - 1) * b % p)) g)).1
    intro n
    have hn := h n
    simp only [act_snoc, hl]
    have ha := addAt_cf p r k (-(cf r (k + g.length - 1) * b % p)) g n
    generalize cf r (k + g.length - 1) * b % p = c at *
    by_cases hlt : n < r.length
    · rw [if_pos hlt] at ha
      split at ha
      · rename_i hh
        rw [if_pos hh.1]
        have hd : p ∣ cf r n + -c * cf g (n - k) - cf (addAt p r k (-c) g) n := by rw [ha]; exact Int.dvd_self_sub_of_emod_eq rfl
        have := Int.dvd_add hd hn
        rw [Int.neg_mul] at this
        rwa [show ∀ x y z w v : Int, x + -y - z + (z - (w + v)) = x - (w + y + v) by intros; omega] at this
      · rename_i hh
        rw [ha] at hn
        have e : (if k ≤ n then c * cf g (n - k) else 0) = 0 := by
          split
          · rw [cf_ge (by omega : g.length ≤ n - k)]; simp
          · rfl
        rw [e, Int.add_zero]; exact hn
    · rw [if_neg hlt] at ha
      rw [cf_ge (by omega : r.length ≤ n)]
      rw [ha] at hn
      have e : (if k ≤ n then c * cf g (n - k) else 0) = 0 := by
        split
        · rw [cf_ge (by omega : g.length ≤ n - k)]; simp
        · rfl
      rw [e, Int.add_zero]; exact hn
/-- f is quotient times g plus remainder. -/
theorem pDiv_cong {p : Int} (f : List Int) {g : List Int} (hg : g ≠ []) : Cong p (cf f) (fun n => act (pDivQ p f g) (cf g) n + cf (pDivR p f g) n) := by
  have hgl := List.length_pos_iff.2 hg
  rw [pDivQ, pDivR]
  split
  · exact Cong.of_eq (by funext n; simp [act])
  · have h := divGo_cong p g (invM p (cf g (g.length - 1))) (f.length - g.length + 1) f (by omega) hg
    have e1 : cf (trim (divGo p g (invM p (cf g (g.length - 1))) (f.length - g.length + 1) f).2) = cf (divGo p g (invM p (cf g (g.length - 1))) (f.length - g.length + 1) f).2 := by funext n; exact trim_cf _ n
    have e2 : cf (trim (divGo p g (invM p (cf g (g.length - 1))) (f.length - g.length + 1) f).1) = cf (divGo p g (invM p (cf g (g.length - 1))) (f.length - g.length + 1) f).1 := by funext n; exact trim_cf _ n
    rw [act_cf_comm, e2, ← act_cf_comm, e1]
    exact h

/-! ### Divisibility -/
/-- m divides the row u. -/
def InId (p : Int) (m : List Int) (u : Nat → Int) : Prop := ∃ q, Cong p u (act q (cf m))
theorem act_plus (a b : List Int) : ∃ s, ∀ u, act s u = fun n => act a u n + act b u n := by
  induction a generalizing b with
  | nil => exact ⟨b, fun u => by funext n; simp [act]⟩
  | cons x xs ih =>
    cases b with
    | nil => exact ⟨x :: xs, fun u => by funext n; simp [act]⟩
    | cons y ys =>
      obtain ⟨s, hs⟩ := ih ys
      exact ⟨(x + y) :: s, fun u => by
        funext n
        rw [act_cons, act_cons, act_cons, hs, sh_add, Int.add_mul]
        omega⟩
theorem act_times (c : Int) (a : List Int) : ∃ s, ∀ u, act s u = fun n => c * act a u n := by
  induction a with
  | nil => exact ⟨[], fun u => by funext n; simp [act]⟩
  | cons x xs ih =>
    obtain ⟨s, hs⟩ := ih
    exact ⟨(c * x) :: s, fun u => by
      funext n
      rw [act_cons, act_cons, hs, sh_mul, Int.mul_add, Int.mul_assoc]⟩
theorem InId.cong {p : Int} {m : List Int} {u v : Nat → Int} (h : InId p m u) (k : Cong p v u) : InId p m v := by
  obtain ⟨q, hq⟩ := h
  exact ⟨q, k.trans hq⟩
theorem InId.add {p : Int} {m : List Int} {u v : Nat → Int} (h : InId p m u) (k : InId p m v) : InId p m (fun n => u n + v n) := by
  obtain ⟨q, hq⟩ := h
  obtain ⟨r, hr⟩ := k
  obtain ⟨s, hs⟩ := act_plus q r
  exact ⟨s, by rw [hs]; exact hq.add hr⟩
theorem InId.mul {p : Int} {m : List Int} {u : Nat → Int} (h : InId p m u) (c : Int) : InId p m (fun n => c * u n) := by
  obtain ⟨q, hq⟩ := h
  obtain ⟨s, hs⟩ := act_times c q
  exact ⟨s, by rw [hs]; exact hq.mul c⟩
theorem InId.sub {p : Int} {m : List Int} {u v : Nat → Int} (h : InId p m u) (k : InId p m v) : InId p m (fun n => u n - v n) := by
  have := h.add (k.mul (-1))
  exact this.cong (Cong.of_eq (by funext n; omega))
theorem InId.act {p : Int} {m : List Int} {u : Nat → Int} (h : InId p m u) (f : List Int) : InId p m (act f u) := by
  obtain ⟨q, hq⟩ := h
  obtain ⟨s, hs⟩ := act_prod f q
  exact ⟨s, by rw [hs]; exact hq.act f⟩
theorem InId.self (p : Int) (m q : List Int) : InId p m (Go.Proofs.YtmekhjnhcgmphaaDoor.act q (cf m)) := ⟨q, Cong.refl _ _⟩
theorem act_one (u : Nat → Int) : act [1] u = u := by
  funext n
  cases n <;> simp [act, sh]
theorem InId.self' (p : Int) (m : List Int) : InId p m (cf m) := ⟨[1], Cong.of_eq (act_one _).symm⟩
theorem InId.trans {p : Int} {m k : List Int} {u : Nat → Int} (h : InId p m u) (hk : InId p k (cf m)) : InId p k u := by
  obtain ⟨q, hq⟩ := h
  exact (hk.act q).cong hq
theorem InId.zero (p : Int) (m : List Int) : InId p m (fun _ => 0) := ⟨[], Cong.of_eq rfl⟩
/-- The top coefficient of a product. -/
theorem act_top : ∀ (q g : List Int), q ≠ [] → g ≠ [] → act q (cf g) (q.length + g.length - 2) = cf q (q.length - 1) * cf g (g.length - 1) := fun q g hq hg => by
  rw [← cvS_act]
  rcases cvS_top q g hq with h | h
  · exact h
  · exact absurd h hg
/-- A list, reduced. -/
def red (p : Int) (q : List Int) : List Int := trim (q.map (· % p))
theorem red_cf (p : Int) (q : List Int) (n : Nat) : cf (red p q) n = cf q n % p := by
  rw [red, trim_cf, cf, cf, List.getElem?_map]
  cases q[n]? <;> simp
theorem red_el {p : Int} (hp : 0 < p) (q : List Int) : allEl p (red p q) = true := trim_el (allEl_of fun i x hx => by
  rw [List.getElem?_map] at hx
  cases h : q[i]? with
  | none => rw [h] at hx; cases hx
  | some y => rw [h] at hx; injection hx with hx; subst hx; exact ⟨Int.emod_nonneg _ (by omega), Int.emod_lt_of_pos _ hp⟩)
theorem red_tr (p : Int) (q : List Int) : Tr (red p q) := Tr.trim _
theorem red_cong (p : Int) (q : List Int) : Cong p (cf (red p q)) (cf q) := by
  have e : cf (red p q) = fun n => cf q n % p := by funext n; exact red_cf p q n
  rw [e]; exact Cong.emod _
/-- A row that m divides and that ends before m's degree is 0; so is the quotient. -/
theorem quot_zero {p : Int} (hF : fieldB p = true) {m : List Int} (hm : allEl p m = true) (tm : Tr m) (hm0 : m ≠ []) {q : List Int} {u : Nat → Int} (h : Cong p u (act q (cf m))) (hu : ∀ n, m.length - 1 ≤ n → p ∣ u n) : red p q = [] := by
  have h2 := fieldB_lo hF
  have hml := List.length_pos_iff.2 hm0
  have h' : Cong p u (act (red p q) (cf m)) := h.trans ((red_cong p q).symm.actl m)
  cases hq : red p q with
  | nil => rfl
  | cons a az =>
    exfalso
    have hr0 : red p q ≠ [] := by rw [hq]; simp
    have hrl := List.length_pos_iff.2 hr0
    have hk := h' ((red p q).length + m.length - 2)
    rw [act_top _ _ hr0 hm0] at hk
    have hd := Int.dvd_sub (hu ((red p q).length + m.length - 2) (by omega)) hk
    rw [show ∀ x y : Int, x - (x - y) = y by intros; omega] at hd
    have b1 := cf_bd (red_el (show 0 < p by omega) q) (show 0 < p by omega) ((red p q).length - 1)
    have b2 := cf_bd hm (show 0 < p by omega) (m.length - 1)
    have n1 := (red_tr p q).last hr0
    have n2 := tm.last hm0
    exact noz hF ⟨by omega, b1.2⟩ ⟨by omega, b2.2⟩ (Int.emod_eq_zero_of_dvd hd)
theorem InId.small {p : Int} (hF : fieldB p = true) {m : List Int} (hm : allEl p m = true) (tm : Tr m) (hm0 : m ≠ []) {u : Nat → Int} (h : InId p m u) (hu : ∀ n, m.length - 1 ≤ n → p ∣ u n) : Cong p u (fun _ => 0) := by
  obtain ⟨q, hq⟩ := h
  have h0 := quot_zero hF hm tm hm0 hq hu
  refine hq.trans ?_
  have := (red_cong p q).symm.actl m
  rw [h0] at this
  exact this
end Go.Proofs.YtmekhjnhcgmphaaDoor
namespace Go.Proofs.YtmekhjnhcgmphaaDoor
set_option maxRecDepth 100000
theorem Cong.len {p : Int} {f g : List Int} (h : Cong p (cf f) (cf g)) (hp : 0 < p) (hf : allEl p f = true) (hg : allEl p g = true) (tf : Tr f) (tg : Tr g) : f = g := h.list hp hf hg tf tg
/-- What divides a list that is not 0 is no longer than it. -/
theorem InId.le {p : Int} (hF : fieldB p = true) {m f : List Int} (hm : allEl p m = true) (tm : Tr m) (hm0 : m ≠ []) (hf : allEl p f = true) (tf : Tr f) (hf0 : f ≠ []) (h : InId p m (cf f)) :
    ∃ q, allEl p q = true ∧ Tr q ∧ q ≠ [] ∧ Cong p (cf f) (Go.Proofs.YtmekhjnhcgmphaaDoor.act q (cf m)) ∧ q.length + m.length - 1 ≤ f.length := by
  have h2 := fieldB_lo hF
  obtain ⟨q, hq⟩ := h
  have hq' : Cong p (cf f) (Go.Proofs.YtmekhjnhcgmphaaDoor.act (red p q) (cf m)) := hq.trans ((red_cong p q).symm.actl m)
  have hml := List.length_pos_iff.2 hm0
  have hr0 : red p q ≠ [] := by
    intro e
    rw [e] at hq'
    exact hf0 (Cong.list (g := []) hq' (by omega) hf rfl tf Tr.nil)
  refine ⟨red p q, red_el (by omega) q, red_tr p q, hr0, hq', ?_⟩
  have hrl := List.length_pos_iff.2 hr0
  rcases Nat.lt_or_ge f.length ((red p q).length + m.length - 1) with hl | hl
  · exfalso
    have hk := hq' ((red p q).length + m.length - 2)
    rw [act_top _ _ hr0 hm0, cf_ge (by omega : f.length ≤ (red p q).length + m.length - 2)] at hk
    have hd : p ∣ cf (red p q) ((red p q).length - 1) * cf m (m.length - 1) := by
      have := Int.dvd_neg.2 hk
      simpa using this
    have b1 := cf_bd (red_el (show 0 < p by omega) q) (show 0 < p by omega) ((red p q).length - 1)
    have b2 := cf_bd hm (show 0 < p by omega) (m.length - 1)
    have n1 := (red_tr p q).last hr0
    have n2 := tm.last hm0
    exact noz hF ⟨by omega, b1.2⟩ ⟨by omega, b2.2⟩ (Int.emod_eq_zero_of_dvd hd)
  · exact hl
/-- Monic lists that divide one another are equal. -/
theorem InId.monic {p : Int} (hF : fieldB p = true) {m f : List Int} (hm : allEl p m = true) (tm : Tr m) (hm0 : m ≠ []) (hf : allEl p f = true) (tf : Tr f) (hf0 : f ≠ []) (h : InId p m (cf f)) (k : InId p f (cf m))
    (hm1 : cf m (m.length - 1) = 1) (hf1 : cf f (f.length - 1) = 1) : m = f := by
  have h2 := fieldB_lo hF
  obtain ⟨q, hq, tq, hq0, hc, hl⟩ := h.le hF hm tm hm0 hf tf hf0
  obtain ⟨r, hr, tr, hr0, hc', hl'⟩ := k.le hF hf tf hf0 hm tm hm0
  have hql := List.length_pos_iff.2 hq0
  have hrl := List.length_pos_iff.2 hr0
  have hml := List.length_pos_iff.2 hm0
  have hfl := List.length_pos_iff.2 hf0
  have hq1 : q.length = 1 := by omega
  have htop := hc (q.length + m.length - 2)
  rw [act_top _ _ hq0 hm0, hm1, show q.length + m.length - 2 = f.length - 1 by omega, hf1] at htop
  match q, hq1 with
  | [c], _ =>
    have bc := cf_bd hq (show 0 < p by omega) 0
    simp only [List.length_singleton, Nat.sub_self, cf_zero, Int.mul_one] at htop bc
    have hc1 : c = 1 := by
      obtain ⟨z, hz⟩ := htop
      rcases Int.lt_trichotomy z 0 with hzz | hzz | hzz
      · have := Int.mul_le_mul_of_nonneg_left (show z ≤ -1 by omega) (show 0 ≤ p by omega); omega
      · subst hzz; omega
      · have := Int.mul_le_mul_of_nonneg_left (show 1 ≤ z by omega) (show 0 ≤ p by omega); omega
    subst hc1
    rw [act_one] at hc
    exact (Cong.list hc (by omega) hf hm tf tm).symm
/-- A scaled list divides the same. -/
theorem gcdL_div {p : Int} (hF : fieldB p = true) : ∀ (n : Nat) {f g : List Int}, allEl p f = true → allEl p g = true → Tr f → Tr g → g.length ≤ n → InId p (gcdL p n f g) (cf f) ∧ InId p (gcdL p n f g) (cf g)
  | n, f, g, hf, hg, tf, tg, hn => by
    by_cases h0 : g = []
    · subst h0; rw [gcdL_nil]; exact ⟨InId.self' _ _, InId.zero _ _⟩
    · have hgl := List.length_pos_iff.2 h0
      obtain ⟨n, rfl⟩ : ∃ k, n = k + 1 := ⟨n - 1, by omega⟩
      have h2 := fieldB_lo hF
      have hl := pDivR_lt hF hf hg tg h0
      rw [gcdL_step _ _ _ h0]
      obtain ⟨i1, i2⟩ := gcdL_div hF n hg (pDivR_el (by omega) hf g) tg (pDivR_tr p tf g) (by omega)
      exact ⟨((i1.act (pDivQ p f g)).add i2).cong (pDiv_cong f h0), i1⟩
theorem gcdL_of {p : Int} {k : List Int} : ∀ (n : Nat) {f g : List Int}, InId p k (cf f) → InId p k (cf g) → InId p k (cf (gcdL p n f g))
  | 0, f, g, h, _ => h
  | n + 1, f, g, h, h' => by
    rw [gcdL]
    split
    · exact h
    · rename_i h0
      refine gcdL_of n h' ?_
      have := h.sub (h'.act (pDivQ p f g))
      refine this.cong ?_
      have hc := pDiv_cong (p := p) f h0
      intro i
      have := Int.dvd_neg.2 (hc i)
      rwa [show ∀ x y z : Int, -(x - (y + z)) = z - (x - y) by intros; omega] at this
theorem gcdE_div {p : Int} (hF : fieldB p = true) {f g : List Int} (hf : allEl p f = true) (hg : allEl p g = true) (tf : Tr f) (tg : Tr g) : InId p (gcdE p f g) (cf f) ∧ InId p (gcdE p f g) (cf g) := gcdL_div hF _ hf hg tf tg (by omega)
theorem gcdE_of {p : Int} {k f g : List Int} (h : InId p k (cf f)) (h' : InId p k (cf g)) : InId p k (cf (gcdE p f g)) := gcdL_of _ h h'
theorem scale_div {p : Int} (hp : 0 < p) (b : Int) (g : List Int) : InId p g (cf (pScale p b g)) := by
  have h := pAdd_cong hp (f := []) rfl b g
  refine ((InId.self' p g).mul b).cong ?_
  refine h.trans (Cong.of_eq ?_)
  funext n; simp [cf_nil]
theorem div_scale {p : Int} (hp : 0 < p) {b c : Int} (hbc : b * c % p = 1 % p) (g : List Int) : InId p (pScale p b g) (cf g) := by
  have h := pAdd_cong hp (f := []) rfl b g
  refine ((InId.self' p (pScale p b g)).mul c).cong ?_
  intro n
  have h1 : p ∣ b * c - 1 := Int.dvd_of_emod_eq_zero (by rw [Int.sub_emod, hbc, Int.sub_self, Int.zero_emod])
  have h2 := Int.dvd_trans (h n) (Int.dvd_mul_left c _)
  have h3 := Int.dvd_trans h1 (Int.dvd_mul_left (cf g n) _)
  show p ∣ cf g n - c * cf (pScale p b g) n
  have := Int.dvd_neg.2 (Int.dvd_add h2 h3)
  simp only [cf_nil, Int.zero_add] at this
  rw [Int.mul_sub, Int.mul_sub, Int.mul_one, ← Int.mul_assoc, Int.mul_comm c b, Int.mul_comm (cf g n) (b * c)] at this
  rwa [pScale, show ∀ x y z : Int, z - x = -(x - y + (y - z)) by intros; omega]
theorem gcdM_sc {p : Int} (hF : fieldB p = true) {f g : List Int} (hf : allEl p f = true) (hg : allEl p g = true) (tf : Tr f) (tg : Tr g) (h0 : f ≠ [] ∨ g ≠ []) : InId p (gcdM p f g) (cf (gcdE p f g)) ∧ InId p (gcdE p f g) (cf (gcdM p f g)) := by
  have h2 := fieldB_lo hF
  have hE := gcdE_el (show 0 < p by omega) hf hg
  have hT := gcdE_tr p tf tg
  have hN := gcdE_ne p h0
  have b := cf_bd hE (show 0 < p by omega) ((gcdE p f g).length - 1)
  have n1 := hT.last hN
  refine ⟨?_, scale_div (by omega) _ _⟩
  rw [gcdM, monicM]
  exact div_scale (by omega) (c := cf (gcdE p f g) ((gcdE p f g).length - 1)) (by rw [Int.mul_comm, inv_mul hF (by omega) b.2, Int.emod_eq_of_lt (by omega) (by omega)]) _
theorem gcdM_div {p : Int} (hF : fieldB p = true) {f g : List Int} (hf : allEl p f = true) (hg : allEl p g = true) (tf : Tr f) (tg : Tr g) (h0 : f ≠ [] ∨ g ≠ []) : InId p (gcdM p f g) (cf f) ∧ InId p (gcdM p f g) (cf g) := by
  have h := gcdM_sc hF hf hg tf tg h0
  have k := gcdE_div hF hf hg tf tg
  exact ⟨k.1.trans h.1, k.2.trans h.1⟩
theorem gcdM_of {p : Int} (hF : fieldB p = true) {k f g : List Int} (hf : allEl p f = true) (hg : allEl p g = true) (tf : Tr f) (tg : Tr g) (h0 : f ≠ [] ∨ g ≠ []) (h : InId p k (cf f)) (h' : InId p k (cf g)) : InId p k (cf (gcdM p f g)) :=
  (gcdM_sc hF hf hg tf tg h0).2.trans (gcdE_of h h')
/-! ### Powers -/
end Go.Proofs.YtmekhjnhcgmphaaDoor
