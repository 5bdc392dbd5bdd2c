/- Contracts: the levels of the edges (the reference); EdgeLevels on both sides. -/
import Derived.Test.YtgblnkadmieflaaGrM
namespace Go.Proofs.Ytgblnkadmieflaa
set_option maxRecDepth 100000
open Go Go.RowKit
def lvT (es : List Ed) (e : Int) (out : List Int) (f : Int) : List Int := if meetB (edAt es f).outs (edAt es e).ins then lvS e out f else out
theorem lvT_all (es : List Ed) (e : Int) (out : List Int) : (upL es.length).foldl (lvT es e) out = lvR es out e := by
  unfold lvR ndF
  rw [List.foldl_filter]
  congr 1
  funext o f
  unfold lvT
  rw [meetB_comm]
theorem lvT_len (es : List Ed) (e : Int) (out : List Int) (f : Int) : (lvT es e out f).length = out.length := by
  unfold lvT
  split
  · exact lvS_len e out f
  · rfl
theorem lvTs_len (es : List Ed) (e : Int) : ∀ (l : List Int) (out : List Int), (l.foldl (lvT es e) out).length = out.length
  | [], out => rfl
  | f :: l, out => by rw [List.foldl_cons, lvTs_len es e l, lvT_len]
theorem Bd.foldT (es : List Ed) {e : Int} : ∀ (l : List Int) {out : List Int} {c : Int}, Bd out c → Bd (l.foldl (lvT es e) out) (c + l.length)
  | [], out, c, h => by simpa using h
  | f :: l, out, c, h => by
    rw [List.foldl_cons, List.length_cons]
    have h1 : Bd (lvT es e out f) (c + 1) := by
      unfold lvT
      split
      · exact h.step e f
      · exact h.mono (by omega)
    exact (Bd.foldT es l h1).mono (by push_cast; omega)
theorem upL_take {n k : Nat} (h : k ≤ n) : (upL n).take k = upL k := by
  unfold upL
  rw [← List.map_take, List.take_range, Nat.min_eq_left h]
theorem l1Most_g (a b : Int) (w : World) : Calls Try.prog 46 #[.int .i64 a, .int .i64 b] w fun e w' => e = .returned (.int .i64 (max a b)) ∧ w = w' := by
  by_cases h : b < a
  · go_enter Try.func46, Try.ntmps46
    go_wp2
    go_ret
    exact ⟨by rw [Int.max_eq_left (by omega)]; rfl, rfl⟩
  · go_enter Try.func46, Try.ntmps46
    go_wp2
    go_ret
    exact ⟨by rw [Int.max_eq_right (by omega)]; rfl, rfl⟩
set_option maxHeartbeats 2000000 in
theorem rbNeeds_c (N : Int) (E : Option Addr) (ec : Nat) (es : List Ed) (I O : Value) (e f : Nat) (w : World) (hE : RdS EE w E es) (he : e < es.length) (hf : f < es.length) (hn : es.length ≤ 60) (hI : ∃ A n c, I = .slice A n c) (hO : ∃ A n c, O = .slice A n c) :
    Calls Try.prog 37 #[.agg #[.int .i64 N, .slice E es.length ec, I, O], .int .i64 e, .int .i64 f] w fun e' w' => e' = .returned (.bool (meetB (edAt es f).outs (edAt es e).ins)) ∧ Ex w w' := by
  obtain ⟨I, il, ic, rfl⟩ := hI
  obtain ⟨O, ol, oc, rfl⟩ := hO
  obtain ⟨g, off, x, P, pc, Q, qc, rfl, hx, c0, c1, c2, c3, hP, hQ⟩ := hE.edge he
  obtain ⟨g', off', y, P', pc', Q', qc', hAe, hy, e0, e1, e2, e3, hP', hQ'⟩ := hE.edge hf
  injection hAe with hAe
  injection hAe with a1 a2 _
  subst a1 a2
  rw [edAt_nat hx, edAt_nat hy]
  have y0 := (Ex.refl w).alloc (.cells #[.int .i64 N, .slice (some ⟨g, off, none⟩) es.length ec, .slice I il ic, .slice O ol oc] 31)
  have d0 := VB.new w 31 #[.int .i64 N, .slice (some ⟨g, off, none⟩) es.length ec, .slice I il ic, .slice O ol oc]
  clear hx hy
  go_enter Try.func37, Try.ntmps37
  go_wp2_with fail
  generalize w.alloc (.cells #[.int .i64 N, .slice (some ⟨g, off, none⟩) es.length ec, .slice I il ic, .slice O ol oc] 31) = W0 at *
  have q1 := d0.cell 1 (v := .slice (some ⟨g, off, none⟩) es.length ec) rfl
  have k2 := cell_ex y0 c2
  have k3 := cell_ex y0 e3
  have HS : ∀ W, Ex W0 W → (Ex W0 W ∧ W.cell? ⟨w.heap.size, 1, none⟩ = some (.slice (some ⟨g, off, none⟩) es.length ec) ∧ W.cell? ⟨g, off + e * 4 + 2, none⟩ = some (.slice P x.ins.length pc) ∧ W.cell? ⟨g, off + f * 4 + 3, none⟩ = some (.slice Q' y.outs.length qc')) := fun W h => ⟨h, cell_ex h q1, cell_ex h k2, cell_ex h k3⟩
  have eA := (Ex.refl W0).drew
  have hm := fun W (hW : Ex W0 W) => hgMeets_c Q' qc' y.outs P pc x.ins W (hQ'.ex (y0.trans hW)) (hP.ex (y0.trans hW))
  go_region_held3 (fun W => Ex W0 W ∧ W.cell? ⟨w.heap.size, 1, none⟩ = some (.slice (some ⟨g, off, none⟩) es.length ec) ∧ W.cell? ⟨g, off + e * 4 + 2, none⟩ = some (.slice P x.ins.length pc) ∧ W.cell? ⟨g, off + f * 4 + 3, none⟩ = some (.slice Q' y.outs.length qc')) (first
    | (exact HS _ x1) | (exact HS _ eA) | (exact HS _ (Ex.refl W0))) (first
    | (go_at_call 57
       have hb := (‹Ex W0 _ ∧ _›).1
       refine (hm _ hb).mono ?_
       rintro e _ ⟨rfl, rfl⟩
       have x1 := hb
       clear hb))
  all_goals
    go_wp2
    go_ret
    exact ⟨rfl, y0.trans x1⟩
end Go.Proofs.Ytgblnkadmieflaa
