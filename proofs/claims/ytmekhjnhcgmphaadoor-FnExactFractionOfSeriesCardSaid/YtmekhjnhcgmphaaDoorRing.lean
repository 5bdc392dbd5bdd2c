/- The ring of polynomials modulo p, no program in sight: a list of coefficients acts on rows of integers; ideals, remainders, greatest common divisors. -/
import Derived.Test.YtmekhjnhcgmphaaDoorNum2
namespace Go.Proofs.YtmekhjnhcgmphaaDoor
set_option maxRecDepth 100000
/-- One place on. -/
def sh (u : Nat → Int) : Nat → Int
  | 0 => 0
  | n + 1 => u n
/-- The polynomial f times the row u. -/
def act : List Int → (Nat → Int) → Nat → Int
  | [], _ => fun _ => 0
  | a :: as, u => fun n => a * u n + sh (act as u) n
/-- The row 1, 0, 0, .. -/
def one : Nat → Int
  | 0 => 1
  | _ + 1 => 0
theorem act_cons (a : Int) (as : List Int) (u : Nat → Int) (n : Nat) : act (a :: as) u n = a * u n + sh (act as u) n := rfl
theorem sh_add (u v : Nat → Int) (n : Nat) : sh (fun i => u i + v i) n = sh u n + sh v n := by cases n <;> rfl
theorem sh_mul (c : Int) (u : Nat → Int) (n : Nat) : sh (fun i => c * u i) n = c * sh u n := by
  cases n with
  | zero => simp [sh]
  | succ n => rfl
theorem act_add (f : List Int) (u v : Nat → Int) : act f (fun i => u i + v i) = fun n => act f u n + act f v n := by
  induction f with
  | nil => funext n; simp [act]
  | cons a as ih =>
    funext n
    simp only [act_cons, ih, sh_add, Int.mul_add]
    omega
theorem act_mul (f : List Int) (c : Int) (u : Nat → Int) : act f (fun i => c * u i) = fun n => c * act f u n := by
  induction f with
  | nil => funext n; simp [act]
  | cons a as ih =>
    funext n
    simp only [act_cons, ih, sh_mul, Int.mul_add, Int.mul_left_comm]
theorem act_sh (f : List Int) (u : Nat → Int) : act f (sh u) = sh (act f u) := by
  induction f with
  | nil => funext n; cases n <;> rfl
  | cons a as ih =>
    funext n
    rw [act_cons, ih]
    cases n with
    | zero => simp [sh]
    | succ n => rfl
theorem act_zero (f : List Int) : act f (fun _ => 0) = fun _ => 0 := by
  have := act_mul f 0 (fun _ => 0)
  simpa using this
theorem act_comm (f g : List Int) (u : Nat → Int) : act f (act g u) = act g (act f u) := by
  induction f with
  | nil => rw [show act [] u = fun _ => 0 from rfl, act_zero]; rfl
  | cons a as ih =>
    have e : act (a :: as) u = fun n => a * u n + sh (act as u) n := rfl
    rw [e, act_add, act_mul, act_sh, ← ih]
    rfl
/-- The product of two lists. -/
theorem act_prod (f g : List Int) : ∃ q, ∀ u, act q u = act f (act g u) := by
  induction f with
  | nil => exact ⟨[], fun u => rfl⟩
  | cons a as ih =>
    obtain ⟨q, hq⟩ := ih
    obtain ⟨s, hs⟩ : ∃ s, ∀ u, act s u = fun n => a * act g u n + act (0 :: q) u n := by
      generalize 0 :: q = t
      clear hq
      induction g generalizing t with
      | nil => exact ⟨t, fun u => by funext n; simp [act]⟩
      | cons b bs ihg =>
        cases t with
        | nil =>
          obtain ⟨s, hs⟩ := ihg []
          exact ⟨a * b :: s, fun u => by
            funext n
            have h0 := congrFun (hs u)
            rw [act_cons, act_cons]
            cases n with
            | zero => simp [sh, act, Int.mul_assoc]
            | succ n => simp only [sh]; rw [h0 n]; simp [act, Int.mul_add, Int.mul_assoc]⟩
        | cons c cs =>
          obtain ⟨s, hs⟩ := ihg cs
          exact ⟨(a * b + c) :: s, fun u => by
            funext n
            have h0 := congrFun (hs u)
            rw [act_cons, act_cons, act_cons]
            cases n with
            | zero => simp [sh, Int.mul_assoc, Int.add_mul]
            | succ n =>
              simp only [sh]; rw [h0 n]; simp only [Int.mul_add, Int.mul_assoc, Int.add_mul]
              omega⟩
    refine ⟨s, fun u => ?_⟩
    rw [hs]
    funext n
    rw [act_cons, act_cons, hq]
    simp
theorem cf_act : ∀ (f : List Int), cf f = act f one
  | [] => by funext n; rfl
  | a :: as => by
    funext n
    rw [act_cons]
    cases n with
    | zero => simp [cf_zero, one, sh]
    | succ n => rw [cf_succ, cf_act as]; simp [one, sh]
theorem act_cf_comm (f g : List Int) : act f (cf g) = act g (cf f) := by rw [cf_act g, act_comm, ← cf_act]
theorem cvS_cons (a : Int) (as g : List Int) (n k : Nat) : cvS (a :: as) g n (k + 1) = a * cf g n + sh (fun m => cvS as g m k) n := by
  induction k with
  | zero => cases n <;> simp [cvS, sh, cf_zero]
  | succ k ih =>
    rw [cvS, ih]
    cases n with
    | zero => simp [sh]
    | succ n =>
      simp only [sh, cvS, cf_succ, Nat.add_le_add_iff_right]
      have : n + 1 - (k + 1) = n - k := by omega
      rw [this]; omega
theorem cvS_act : ∀ (f g : List Int) (n : Nat), cvS f g n f.length = act f (cf g) n
  | [], g, n => rfl
  | a :: as, g, n => by
    rw [List.length_cons, cvS_cons, act_cons]
    congr 2
    funext m
    exact cvS_act as g m

/-! ### Congruence -/
def Cong (p : Int) (u v : Nat → Int) : Prop := ∀ n, p ∣ u n - v n
theorem Cong.refl (p : Int) (u : Nat → Int) : Cong p u u := fun n => by rw [Int.sub_self]; exact Int.dvd_zero _
theorem Cong.of_eq {p : Int} {u v : Nat → Int} (h : u = v) : Cong p u v := h ▸ Cong.refl p u
theorem Cong.symm {p : Int} {u v : Nat → Int} (h : Cong p u v) : Cong p v u := fun n => by
  have := (Int.dvd_neg (a := p)).2 (h n)
  rwa [Int.neg_sub] at this
theorem Cong.trans {p : Int} {u v w : Nat → Int} (h : Cong p u v) (k : Cong p v w) : Cong p u w := fun n => by
  have := Int.dvd_add (h n) (k n)
  rwa [show u n - v n + (v n - w n) = u n - w n by omega] at this
theorem Cong.add {p : Int} {u v u' v' : Nat → Int} (h : Cong p u v) (k : Cong p u' v') : Cong p (fun n => u n + u' n) (fun n => v n + v' n) := fun n => by
  have := Int.dvd_add (h n) (k n)
  rwa [show u n - v n + (u' n - v' n) = u n + u' n - (v n + v' n) by omega] at this
theorem Cong.sub {p : Int} {u v u' v' : Nat → Int} (h : Cong p u v) (k : Cong p u' v') : Cong p (fun n => u n - u' n) (fun n => v n - v' n) := fun n => by
  have := Int.dvd_sub (h n) (k n)
  rwa [show u n - v n - (u' n - v' n) = u n - u' n - (v n - v' n) by omega] at this
theorem Cong.mul {p : Int} {u v : Nat → Int} (c : Int) (h : Cong p u v) : Cong p (fun n => c * u n) (fun n => c * v n) := fun n => by
  have := Int.dvd_trans (h n) (Int.dvd_mul_left c _)
  show p ∣ c * u n - c * v n
  rwa [Int.mul_sub] at this
theorem Cong.sh {p : Int} {u v : Nat → Int} (h : Cong p u v) : Cong p (sh u) (sh v) := fun n => by
  cases n with
  | zero => exact Int.dvd_zero _
  | succ n => exact h n
theorem Cong.act {p : Int} {u v : Nat → Int} (f : List Int) (h : Cong p u v) : Cong p (act f u) (act f v) := by
  induction f with
  | nil => exact Cong.refl _ _
  | cons a as ih => exact (h.mul a).add ih.sh
theorem Cong.emod {p : Int} (u : Nat → Int) : Cong p (fun n => u n % p) u := fun n => by
  exact Int.dvd_sub_self_of_emod_eq rfl
theorem Cong.emod_eq {p : Int} {u v : Nat → Int} (h : Cong p u v) (n : Nat) : u n % p = v n % p := Int.emod_eq_emod_iff_emod_sub_eq_zero.2 (Int.emod_eq_zero_of_dvd (h n))
/-- Congruent reduced lists without zeros at the end are equal. -/
theorem Cong.list {p : Int} {f g : List Int} (h : Cong p (cf f) (cf g)) (hp : 0 < p) (hf : allEl p f = true) (hg : allEl p g = true) (tf : Tr f) (tg : Tr g) : f = g := by
  unfold Tr at tf tg
  rw [← tf, ← tg]
  refine trim_ext fun i => ?_
  have := h.emod_eq i
  have b1 := cf_bd hf hp i
  have b2 := cf_bd hg hp i
  rwa [Int.emod_eq_of_lt b1.1 b1.2, Int.emod_eq_of_lt b2.1 b2.2] at this
theorem Cong.actl {p : Int} {f g : List Int} (h : Cong p (cf f) (cf g)) (u : List Int) : Cong p (Go.Proofs.YtmekhjnhcgmphaaDoor.act f (cf u)) (Go.Proofs.YtmekhjnhcgmphaaDoor.act g (cf u)) := by
  rw [act_cf_comm f, act_cf_comm g]
  exact h.act u

/-! ### What the program's sums, products and quotients are -/
theorem pMulR_cong {p : Int} (hp : 0 < p) (f g : List Int) : Cong p (cf (pMulR p f g)) (act f (cf g)) := by
  have e : cf (pMulR p f g) = fun n => act f (cf g) n % p := by
    funext n; rw [pMulR_cf hp, cvS_act]
  rw [e]; exact Cong.emod _
theorem pMul_cong {p : Int} (hp : 0 < p) (f g : List Int) : Cong p (cf (pMul p f g)) (act f (cf g)) := by
  have e : cf (pMul p f g) = cf (pMulR p f g) := by funext n; exact trim_cf _ n
  rw [e]; exact pMulR_cong hp f g
theorem pAdd_cong {p : Int} (hp : 0 < p) {f : List Int} (hf : allEl p f = true) (b : Int) (g : List Int) : Cong p (cf (pAdd p f b g)) (fun n => cf f n + b * cf g n) := by
  have e : cf (pAdd p f b g) = fun n => (cf f n + b * cf g n) % p := by funext n; exact pAdd_cf p b g hf hp n
  rw [e]; exact Cong.emod _
theorem act_snoc (q : List Int) (c : Int) (u : Nat → Int) (n : Nat) : act (q ++ [c]) u n = act q u n + if q.length ≤ n then c * u (n - q.length) else 0 := by
  induction q generalizing n with
  | nil => simp [act, act_cons]; cases n <;> simp [sh]
  | cons a as ih =>
    rw [List.cons_append, act_cons, act_cons]
    cases n with
    | zero => simp [sh]
    | succ n => simp only [sh, ih, List.length_cons, Nat.add_le_add_iff_right, Nat.add_sub_add_right]; omega
theorem divGo_cong (p : Int) (g : List Int) (b : Int) (k : Nat) : ∀ r, k + g.length - 1 ≤ r.length → g ≠ [] → Cong p (cf r) (fun n => act (divGo p g b k r).1 (cf g) n + cf (divGo p g b k r).2 n) := by
  induction k with
  | zero => intro r _ _; exact Cong.of_eq (by funext n; simp [divGo, act])
  | succ k ih =>
    intro r hr hg
    have hgl := List.length_pos_iff.2 hg
    have h := ih (addAt p r k (-(cf r (k + g.length - 1) * b % p)) g) (by rw [addAt_len]; omega) hg
    rw [divGo]
    have hl := (divGo_len p g b k (addAt p r k (-(cf r (k + g.length - 1) * b % p)) g)).1
    intro n
    have hn := h n
    simp only [act_snoc, hl]
    have ha := addAt_cf p r k (-(cf r (k + g.length - 1) * b % p)) g n
    generalize cf r (k + g.length - 1) * b % p = c at *
    by_cases hlt : n < r.length
    · rw [if_pos hlt] at ha
      split at ha
      · rename_i hh
        rw [if_pos hh.1]
        have hd : p ∣ cf r n + -c * cf g (n - k) - cf (addAt p r k (-c) g) n := by rw [ha]; exact Int.dvd_self_sub_of_emod_eq rfl
        have := Int.dvd_add hd hn
        rw [Int.neg_mul] at this
        rwa [show ∀ x y z w v : Int, x + -y - z + (z - (w + v)) = x - (w + y + v) by intros; omega] at this
      · rename_i hh
        rw [ha] at hn
        have e : (if k ≤ n then c * cf g (n - k) else 0) = 0 := by
          split
          · rw [cf_ge (by omega : g.length ≤ n - k)]; simp
          · rfl
        rw [e, Int.add_zero]; exact hn
    · rw [if_neg hlt] at ha
      rw [cf_ge (by omega : r.length ≤ n)]
      rw [ha] at hn
      have e : (if k ≤ n then c * cf g (n - k) else 0) = 0 := by
        split
        · rw [cf_ge (by omega : g.length ≤ n - k)]; simp
        · rfl
      rw [e, Int.add_zero]; exact hn
/-- f is quotient times g plus remainder. -/
theorem pDiv_cong {p : Int} (f : List Int) {g : List Int} (hg : g ≠ []) : Cong p (cf f) (fun n => act (pDivQ p f g) (cf g) n + cf (pDivR p f g) n) := by
  have hgl := List.length_pos_iff.2 hg
  rw [pDivQ, pDivR]
  split
  · exact Cong.of_eq (by funext n; simp [act])
  · have h := divGo_cong p g (invM p (cf g (g.length - 1))) (f.length - g.length + 1) f (by omega) hg
    have e1 : cf (trim (divGo p g (invM p (cf g (g.length - 1))) (f.length - g.length + 1) f).2) = cf (divGo p g (invM p (cf g (g.length - 1))) (f.length - g.length + 1) f).2 := by funext n; exact trim_cf _ n
    have e2 : cf (trim (divGo p g (invM p (cf g (g.length - 1))) (f.length - g.length + 1) f).1) = cf (divGo p g (invM p (cf g (g.length - 1))) (f.length - g.length + 1) f).1 := by funext n; exact trim_cf _ n
    rw [act_cf_comm, e2, ← act_cf_comm, e1]
    exact h

/-! ### Divisibility -/
/-- m divides the row u. -/
def InId (p : Int) (m : List Int) (u : Nat → Int) : Prop := ∃ q, Cong p u (act q (cf m))
theorem act_plus (a b : List Int) : ∃ s, ∀ u, act s u = fun n => act a u n + act b u n := by
  induction a generalizing b with
  | nil => exact ⟨b, fun u => by funext n; simp [act]⟩
  | cons x xs ih =>
    cases b with
    | nil => exact ⟨x :: xs, fun u => by funext n; simp [act]⟩
    | cons y ys =>
      obtain ⟨s, hs⟩ := ih ys
      exact ⟨(x + y) :: s, fun u => by
        funext n
        rw [act_cons, act_cons, act_cons, hs, sh_add, Int.add_mul]
        omega⟩
theorem act_times (c : Int) (a : List Int) : ∃ s, ∀ u, act s u = fun n => c * act a u n := by
  induction a with
  | nil => exact ⟨[], fun u => by funext n; simp [act]⟩
  | cons x xs ih =>
    obtain ⟨s, hs⟩ := ih
    exact ⟨(c * x) :: s, fun u => by
      funext n
      rw [act_cons, act_cons, hs, sh_mul, Int.mul_add, Int.mul_assoc]⟩
theorem InId.cong {p : Int} {m : List Int} {u v : Nat → Int} (h : InId p m u) (k : Cong p v u) : InId p m v := by
  obtain ⟨q, hq⟩ := h
  exact ⟨q, k.trans hq⟩
theorem InId.add {p : Int} {m : List Int} {u v : Nat → Int} (h : InId p m u) (k : InId p m v) : InId p m (fun n => u n + v n) := by
  obtain ⟨q, hq⟩ := h
  obtain ⟨r, hr⟩ := k
  obtain ⟨s, hs⟩ := act_plus q r
  exact ⟨s, by rw [hs]; exact hq.add hr⟩
theorem InId.mul {p : Int} {m : List Int} {u : Nat → Int} (h : InId p m u) (c : Int) : InId p m (fun n => c * u n) := by
  obtain ⟨q, hq⟩ := h
  obtain ⟨s, hs⟩ := act_times c q
  exact ⟨s, by rw [hs]; exact hq.mul c⟩
theorem InId.sub {p : Int} {m : List Int} {u v : Nat → Int} (h : InId p m u) (k : InId p m v) : InId p m (fun n => u n - v n) := by
  have := h.add (k.mul (-1))
  exact this.cong (Cong.of_eq (by funext n; omega))
theorem InId.act {p : Int} {m : List Int} {u : Nat → Int} (h : InId p m u) (f : List Int) : InId p m (act f u) := by
  obtain ⟨q, hq⟩ := h
  obtain ⟨s, hs⟩ := act_prod f q
  exact ⟨s, by rw [hs]; exact hq.act f⟩
theorem InId.self (p : Int) (m q : List Int) : InId p m (Go.Proofs.YtmekhjnhcgmphaaDoor.act q (cf m)) := ⟨q, Cong.refl _ _⟩
theorem act_one (u : Nat → Int) : act [1] u = u := by
  funext n
  cases n <;> simp [act, sh]
theorem InId.self' (p : Int) (m : List Int) : InId p m (cf m) := ⟨[1], Cong.of_eq (act_one _).symm⟩
theorem InId.trans {p : Int} {m k : List Int} {u : Nat → Int} (h : InId p m u) (hk : InId p k (cf m)) : InId p k u := by
  obtain ⟨q, hq⟩ := h
  exact (hk.act q).cong hq
theorem InId.zero (p : Int) (m : List Int) : InId p m (fun _ => 0) := ⟨[], Cong.of_eq rfl⟩
/-- The top coefficient of a product. -/
theorem act_top : ∀ (q g : List Int), q ≠ [] → g ≠ [] → act q (cf g) (q.length + g.length - 2) = cf q (q.length - 1) * cf g (g.length - 1) := fun q g hq hg => by
  rw [← cvS_act]
  rcases cvS_top q g hq with h | h
  · exact h
  · exact absurd h hg
/-- A list, reduced. -/
def red (p : Int) (q : List Int) : List Int := trim (q.map (· % p))
theorem red_cf (p : Int) (q : List Int) (n : Nat) : cf (red p q) n = cf q n % p := by
  rw [red, trim_cf, cf, cf, List.getElem?_map]
  cases q[n]? <;> simp
theorem red_el {p : Int} (hp : 0 < p) (q : List Int) : allEl p (red p q) = true := trim_el (allEl_of fun i x hx => by
  rw [List.getElem?_map] at hx
  cases h : q[i]? with
  | none => rw [h] at hx; cases hx
  | some y => rw [h] at hx; injection hx with hx; subst hx; exact ⟨Int.emod_nonneg _ (by omega), Int.emod_lt_of_pos _ hp⟩)
theorem red_tr (p : Int) (q : List Int) : Tr (red p q) := Tr.trim _
theorem red_cong (p : Int) (q : List Int) : Cong p (cf (red p q)) (cf q) := by
  have e : cf (red p q) = fun n => cf q n % p := by funext n; exact red_cf p q n
  rw [e]; exact Cong.emod _
/-- A row that m divides and that ends before m's degree is 0; so is the quotient. -/
theorem quot_zero {p : Int} (hF : fieldB p = true) {m : List Int} (hm : allEl p m = true) (tm : Tr m) (hm0 : m ≠ []) {q : List Int} {u : Nat → Int} (h : Cong p u (act q (cf m))) (hu : ∀ n, m.length - 1 ≤ n → p ∣ u n) : red p q = [] := by
  have h2 := fieldB_lo hF
  have hml := List.length_pos_iff.2 hm0
  have h' : Cong p u (act (red p q) (cf m)) := h.trans ((red_cong p q).symm.actl m)
  cases hq : red p q with
  | nil => rfl
  | cons a as =>
    exfalso
    have hr0 : red p q ≠ [] := by rw [hq]; simp
    have hrl := List.length_pos_iff.2 hr0
    have hk := h' ((red p q).length + m.length - 2)
    rw [act_top _ _ hr0 hm0] at hk
    have hd := Int.dvd_sub (hu ((red p q).length + m.length - 2) (by omega)) hk
    rw [show ∀ x y : Int, x - (x - y) = y by intros; omega] at hd
    have b1 := cf_bd (red_el (show 0 < p by omega) q) (show 0 < p by omega) ((red p q).length - 1)
    have b2 := cf_bd hm (show 0 < p by omega) (m.length - 1)
    have n1 := (red_tr p q).last hr0
    have n2 := tm.last hm0
    exact noz hF ⟨by omega, b1.2⟩ ⟨by omega, b2.2⟩ (Int.emod_eq_zero_of_dvd hd)
theorem InId.small {p : Int} (hF : fieldB p = true) {m : List Int} (hm : allEl p m = true) (tm : Tr m) (hm0 : m ≠ []) {u : Nat → Int} (h : InId p m u) (hu : ∀ n, m.length - 1 ≤ n → p ∣ u n) : Cong p u (fun _ => 0) := by
  obtain ⟨q, hq⟩ := h
  have h0 := quot_zero hF hm tm hm0 hq hu
  refine hq.trans ?_
  have := (red_cong p q).symm.actl m
  rw [h0] at this
  exact this
end Go.Proofs.YtmekhjnhcgmphaaDoor
