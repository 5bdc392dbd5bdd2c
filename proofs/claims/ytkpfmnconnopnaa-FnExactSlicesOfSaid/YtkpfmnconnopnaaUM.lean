/- Uniform words and the laws' helpers on lists of lists of ints. -/
import Derived.Test.YtkpfmnconnopnaaU
import Derived.Test.YtkpfmnconnopnaaLawSS2
namespace Go.Proofs.Ytkpfmnconnopnaa
set_option maxRecDepth 100000
open Go Go.RowKit
def totM (x : List (List Int)) : Int := tot x
theorem totM_nn (x : List (List Int)) : 0 ≤ totM x := tot_nn x
def mkM' (k : Int) (x : List (List Int)) : List (List Int) := mkM k (x.map List.length)
theorem mkM_lens : ∀ (k : Int) (ns : List Nat), (mkM k ns).map List.length = ns
  | _, [] => rfl
  | k, n :: ns => by rw [mkM, List.map_cons, mk_len, mkM_lens]
theorem totM_mk (k : Int) (x : List (List Int)) : totM (mkM' k x) = totM x := by unfold totM tot mkM'; rw [mkM_lens]
def RM (w : World) (v : Value) (x : List (List Int)) : Prop := (∃ A c, v = .slice A x.length c ∧ RdM w A x) ∧ totM x ≤ 1125899906842624
theorem RM.ex {w w' : World} {v : Value} {x : List (List Int)} (h : RM w v x) (he : Ex w w') : RM w' v x := by
  obtain ⟨⟨A, c, e, r⟩, t⟩ := h
  exact ⟨⟨A, c, e, r.ex he⟩, t⟩
theorem RM.form {w : World} {v : Value} {x : List (List Int)} (h : RM w v x) : ∃ A n c, v = .slice A n c := by
  obtain ⟨⟨A, c, e, r⟩, _⟩ := h
  exact ⟨A, _, c, e⟩
theorem RM.tot {w : World} {v : Value} {x : List (List Int)} (h : RM w v x) : totM x ≤ 1125899906842624 := h.2
def OM2 (w : World) (a b : Nat) (v : Value) (x : List (List Int)) : Prop := (∃ A c, v = .slice A x.length c ∧ FMI w a b A x) ∧ totM x ≤ 1125899906842624
theorem OM2.rd {w : World} {a b : Nat} {v : Value} {x : List (List Int)} (h : OM2 w a b v x) : RM w v x := by
  obtain ⟨⟨A, c, e, r⟩, t⟩ := h
  exact ⟨⟨A, c, e, r.rd⟩, t⟩
theorem OM2.ex {w w' : World} {a b : Nat} {v : Value} {x : List (List Int)} (h : OM2 w a b v x) (he : Ex w w') : OM2 w' a b v x := by
  obtain ⟨⟨A, c, e, r⟩, t⟩ := h
  exact ⟨⟨A, c, e, r.ex he⟩, t⟩
theorem OM2.iv {w w' : World} {a b a' b' : Nat} {v : Value} {x : List (List Int)} (h : OM2 w a b v x) (k : ExI a' b' w w') (hd : b ≤ a' ∨ b' ≤ a) : OM2 w' a b v x := by
  obtain ⟨⟨A, c, e, r⟩, t⟩ := h
  exact ⟨⟨A, c, e, r.iv k hd⟩, t⟩
theorem OM2.e1 {w w' : World} {a b g : Nat} {v : Value} {x : List (List Int)} (h : OM2 w a b v x) (k : Ex1 g w w') (hd : g < a ∨ b ≤ g) : OM2 w' a b v x := h.iv (ExI.of_ex1 k) (by omega)
theorem OM2.more {w : World} {a b a' b' : Nat} {v : Value} {x : List (List Int)} (h : OM2 w a b v x) (ha : a' ≤ a) (hb : b ≤ b') : OM2 w a' b' v x := by
  obtain ⟨⟨A, c, e, r⟩, t⟩ := h
  exact ⟨⟨A, c, e, r.more ha hb⟩, t⟩
theorem eqIntSS_u (x : List (List Int)) (v u : Value) (w : World) (h : RM w v x) (h' : RM w u x) :
    Calls Try.prog 26 #[v, u] w fun e w' => e = .returned (.bool true) ∧ Ex w w' := by
  obtain ⟨⟨A, c, rfl, r⟩, _⟩ := h
  obtain ⟨⟨A', c', rfl, r'⟩, _⟩ := h'
  exact (eqIntSS_c A A' c c' x w r r').mono fun _ _ h => h
theorem markIntSS_u (lo hi : Nat) (x : List (List Int)) (v : Value) (k : Int) (w : World) (h : OM2 w lo hi v x) (hb : hi ≤ w.heap.size) (hk0 : 0 ≤ k) (hk : k + totM x ≤ 4611686018427387904) :
    Calls Try.prog 27 #[v, .int .i64 k] w fun e w' => e = .returned (.int .i64 (k + totM x)) ∧ OM2 w' lo hi v (mkM' k x) ∧ ExI lo hi w w' := by
  obtain ⟨⟨A, c, rfl, r⟩, t⟩ := h
  refine (markIntSS_i lo hi A c x k w r hk0 hk).mono ?_
  rintro e w' ⟨rfl, m, z⟩
  exact ⟨rfl, ⟨⟨A, c, by rw [mkM', mkM_len, List.length_map], m⟩, by rw [totM_mk]; exact t⟩, z⟩
theorem heldIntSS_u (x : List (List Int)) (v : Value) (k : Int) (w : World) (h : RM w v (mkM' k x)) (hk0 : 0 ≤ k) (hk : k + totM x ≤ 4611686018427387904) :
    Calls Try.prog 28 #[v, .int .i64 k] w fun e w' => e = .returned (.int .i64 (k + totM x)) ∧ Ex w w' := by
  obtain ⟨⟨A, c, e, r⟩, _⟩ := h
  rw [mkM', mkM_len, List.length_map] at e
  subst e
  refine (heldIntSS_c A c x.length (x.map List.length) (by simp) k w r hk0 hk).mono ?_
  rintro e w' ⟨rfl, rfl⟩
  exact ⟨rfl, Ex.refl _⟩
end Go.Proofs.Ytkpfmnconnopnaa
