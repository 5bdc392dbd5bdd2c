/- The ring of polynomials modulo p, no program in sight: a list of coefficients acts on rows of integers; ideals, remainders, greatest common divisors. -/
import Derived.Test.YtfggacnkediolaaGreatDoorNum2
namespace Go.Proofs.YtfggacnkediolaaGreatDoor
set_option maxRecDepth 100000
/-- One place on. -/
def sh (u : Nat → Int) : Nat → Int
  | 0 => 0
  | n + 1 => u n
/-- The polynomial f times the row u. -/
def act : List Int → (Nat → Int) → Nat → Int
  | [], _ => fun _ => 0
  | a :: as, u => fun n => a * u n + sh (act as u) n
/-- The row 1, 0, 0, .. -/
def one : Nat → Int
  | 0 => 1
  | _ + 1 => 0
theorem act_cons (a : Int) (as : List Int) (u : Nat → Int) (n : Nat) : act (a :: as) u n = a * u n + sh (act as u) n := rfl
theorem sh_add (u v : Nat → Int) (n : Nat) : sh (fun i => u i + v i) n = sh u n + sh v n := by cases n <;> rfl
theorem sh_mul (c : Int) (u : Nat → Int) (n : Nat) : sh (fun i => c * u i) n = c * sh u n := by
  cases n with
  | zero => simp [sh]
  | succ n => rfl
/-- The product of two lists. -/
theorem act_prod (f g : List Int) : ∃ q, ∀ u, act q u = act f (act g u) := by
  induction f with
  | nil => exact ⟨[], fun u => rfl⟩
  | cons a as ih =>
    obtain ⟨q, hq⟩ := ih
    obtain ⟨s, hs⟩ : ∃ s, ∀ u, act s u = fun n => a * act g u n + act (0 :: q) u n := by
      generalize 0 :: q = t
      clear hq
      induction g generalizing t with
      | nil => exact ⟨t, fun u => by funext n; simp [act]⟩
      | cons b bs ihg =>
        cases t with
        | nil =>
          obtain ⟨s, hs⟩ := ihg []
          exact ⟨a * b :: s, fun u => by
            funext n
            have h0 := congrFun (hs u)
            rw [act_cons, act_cons]
            cases n with
            | zero => simp [sh, act, Int.mul_assoc]
            | succ n => simp only [sh]; rw [h0 n]; simp [act, Int.mul_add, Int.mul_assoc]⟩
        | cons c cs =>
          obtain ⟨s, hs⟩ := ihg cs
          exact ⟨(a * b + c) :: s, fun u => by
            funext n
            have h0 := congrFun (hs u)
            rw [act_cons, act_cons, act_cons]
            cases n with
            | zero => simp [sh, Int.mul_assoc, Int.add_mul]
            | succ n =>
              simp only [sh]; rw [h0 n]; simp only [Int.mul_add, Int.mul_assoc, Int.add_mul]
              omega⟩
    refine ⟨s, fun u => ?_⟩
    rw [hs]
    funext n
    rw [act_cons, act_cons, hq]
    simp
/-! ### Congruence -/
def Cong (p : Int) (u v : Nat → Int) : Prop := ∀ n, p ∣ u n - v n
theorem Cong.refl (p : Int) (u : Nat → Int) : Cong p u u := fun n => by rw [Int.sub_self]; exact Int.dvd_zero _
theorem Cong.of_eq {p : Int} {u v : Nat → Int} (h : u = v) : Cong p u v := h ▸ Cong.refl p u
theorem Cong.symm {p : Int} {u v : Nat → Int} (h : Cong p u v) : Cong p v u := fun n => by
  have := (Int.dvd_neg (a := p)).2 (h n)
  rwa [Int.neg_sub] at this
theorem Cong.trans {p : Int} {u v w : Nat → Int} (h : Cong p u v) (k : Cong p v w) : Cong p u w := fun n => by
  have := Int.dvd_add (h n) (k n)
  rwa [show u n - v n + (v n - w n) = u n - w n by omega] at this
theorem Cong.add {p : Int} {u v u' v' : Nat → Int} (h : Cong p u v) (k : Cong p u' v') : Cong p (fun n => u n + u' n) (fun n => v n + v' n) := fun n => by
  have := Int.dvd_add (h n) (k n)
  rwa [show u n - v n + (u' n - v' n) = u n + u' n - (v n + v' n) by omega] at this
theorem Cong.sub {p : Int} {u v u' v' : Nat → Int} (h : Cong p u v) (k : Cong p u' v') : Cong p (fun n => u n - u' n) (fun n => v n - v' n) := fun n => by
  have := Int.dvd_sub (h n) (k n)
  rwa [show u n - v n - (u' n - v' n) = u n - u' n - (v n - v' n) by omega] at this
theorem Cong.mul {p : Int} {u v : Nat → Int} (c : Int) (h : Cong p u v) : Cong p (fun n => c * u n) (fun n => c * v n) := fun n => by
  have := Int.dvd_trans (h n) (Int.dvd_mul_left c _)
  show p ∣ c * u n - c * v n
  rwa [Int.mul_sub] at this
theorem Cong.sh {p : Int} {u v : Nat → Int} (h : Cong p u v) : Cong p (sh u) (sh v) := fun n => by
  cases n with
  | zero => exact Int.dvd_zero _
  | succ n => exact h n
theorem Cong.act {p : Int} {u v : Nat → Int} (f : List Int) (h : Cong p u v) : Cong p (act f u) (act f v) := by
  induction f with
  | nil => exact Cong.refl _ _
  | cons a as ih => exact (h.mul a).add ih.sh
theorem Cong.emod_eq {p : Int} {u v : Nat → Int} (h : Cong p u v) (n : Nat) : u n % p = v n % p := Int.emod_eq_emod_iff_emod_sub_eq_zero.2 (Int.emod_eq_zero_of_dvd (h n))
/-- Congruent reduced lists without zeros at the end are equal. -/
theorem Cong.list {p : Int} {f g : List Int} (h : Cong p (cf f) (cf g)) (hp : 0 < p) (hf : allEl p f = true) (hg : allEl p g = true) (tf : Tr f) (tg : Tr g) : f = g := by
  unfold Tr at tf tg
  rw [← tf, ← tg]
  refine trim_ext fun i => ?_
  have := h.emod_eq i
  have b1 := cf_bd hf hp i
  have b2 := cf_bd hg hp i
  rwa [Int.emod_eq_of_lt b1.1 b1.2, Int.emod_eq_of_lt b2.1 b2.2] at this
/-! ### What the program's sums, products and quotients are -/
/-! ### Divisibility -/
/-- m divides the row u. -/
def InId (p : Int) (m : List Int) (u : Nat → Int) : Prop := ∃ q, Cong p u (act q (cf m))
theorem act_plus (a b : List Int) : ∃ s, ∀ u, act s u = fun n => act a u n + act b u n := by
  induction a generalizing b with
  | nil => exact ⟨b, fun u => by funext n; simp [act]⟩
  | cons x xs ih =>
    cases b with
    | nil => exact ⟨x :: xs, fun u => by funext n; simp [act]⟩
    | cons y ys =>
      obtain ⟨s, hs⟩ := ih ys
      exact ⟨(x + y) :: s, fun u => by
        funext n
        rw [act_cons, act_cons, act_cons, hs, sh_add, Int.add_mul]
        omega⟩
theorem act_times (c : Int) (a : List Int) : ∃ s, ∀ u, act s u = fun n => c * act a u n := by
  induction a with
  | nil => exact ⟨[], fun u => by funext n; simp [act]⟩
  | cons x xs ih =>
    obtain ⟨s, hs⟩ := ih
    exact ⟨(c * x) :: s, fun u => by
      funext n
      rw [act_cons, act_cons, hs, sh_mul, Int.mul_add, Int.mul_assoc]⟩
theorem InId.cong {p : Int} {m : List Int} {u v : Nat → Int} (h : InId p m u) (k : Cong p v u) : InId p m v := by
  obtain ⟨q, hq⟩ := h
  exact ⟨q, k.trans hq⟩
theorem InId.add {p : Int} {m : List Int} {u v : Nat → Int} (h : InId p m u) (k : InId p m v) : InId p m (fun n => u n + v n) := by
  obtain ⟨q, hq⟩ := h
  obtain ⟨r, hr⟩ := k
  obtain ⟨s, hs⟩ := act_plus q r
  exact ⟨s, by rw [hs]; exact hq.add hr⟩
theorem InId.mul {p : Int} {m : List Int} {u : Nat → Int} (h : InId p m u) (c : Int) : InId p m (fun n => c * u n) := by
  obtain ⟨q, hq⟩ := h
  obtain ⟨s, hs⟩ := act_times c q
  exact ⟨s, by rw [hs]; exact hq.mul c⟩
theorem InId.sub {p : Int} {m : List Int} {u v : Nat → Int} (h : InId p m u) (k : InId p m v) : InId p m (fun n => u n - v n) := by
  have := h.add (k.mul (-1))
  exact this.cong (Cong.of_eq (by funext n; omega))
theorem InId.act {p : Int} {m : List Int} {u : Nat → Int} (h : InId p m u) (f : List Int) : InId p m (act f u) := by
  obtain ⟨q, hq⟩ := h
  obtain ⟨s, hs⟩ := act_prod f q
  exact ⟨s, by rw [hs]; exact hq.act f⟩
theorem InId.trans {p : Int} {m k : List Int} {u : Nat → Int} (h : InId p m u) (hk : InId p k (cf m)) : InId p k u := by
  obtain ⟨q, hq⟩ := h
  exact (hk.act q).cong hq
theorem InId.zero (p : Int) (m : List Int) : InId p m (fun _ => 0) := ⟨[], Cong.of_eq rfl⟩
end Go.Proofs.YtfggacnkediolaaGreatDoor
