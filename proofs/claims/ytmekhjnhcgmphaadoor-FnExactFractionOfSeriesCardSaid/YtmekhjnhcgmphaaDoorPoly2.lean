/- Contracts of the functions on polynomials, the second part: in place sums, trimming, sums, products. -/
import Derived.Test.YtmekhjnhcgmphaaDoorPoly
import Derived.Laws.CopyOwn
namespace Go.Proofs.YtmekhjnhcgmphaaDoor
set_option maxRecDepth 100000
open Go Go.RowKit
theorem trim_drop {xs : List Int} {k : Nat} (h : xs[k]? = some 0) : trim (xs.take (k + 1)) = trim (xs.take k) := by
  rw [List.take_add_one, h]
  exact trim_snoc0 _
theorem trim_stop {xs : List Int} {k : Nat} {x : Int} (h : xs[k]? = some x) (hx : x ≠ 0) : trim (xs.take (k + 1)) = xs.take (k + 1) := by
  rw [List.take_add_one, h]
  exact trim_snoc _ hx
set_option maxHeartbeats 400000 in
theorem trimmed_c (A : Option Addr) (c : Nat) (xs : List Int) (w : World) (h : Rd w A xs) (hc : xs.length ≤ c) :
    Calls Tryd.prog 39 #[.slice A xs.length c, .int .i64 0] w fun e w' => e = .returned (.slice A (trim xs).length (trim xs).length) ∧ w = w' := by
  have hl := h.len
  go_enter Tryd.func39, Tryd.ntmps39
  go_wp2
  go_loop [5] (fun n => ∃ k : Nat, k ≤ xs.length ∧ n = .int .i64 k ∧ trim (xs.take k) = trim xs) (fun n => (intOf n).toNat)
  case atStart => exact ⟨_, Nat.le_refl _, rfl, by rw [List.take_length]⟩
  case round =>
    obtain ⟨k, hk, rfl, ht⟩ := hrel
    have Ht := Lib.hid ht
    clear ht
    cases k with
    | zero =>
      have hz : (trim xs).length = 0 := by rw [← Ht.out]; rfl
      have Hz := Lib.hid hz
      clear hz
      go_wp2
      go_ret
      exact ⟨by rw [Hz.out]; rfl, rfl⟩
    | succ k =>
      obtain ⟨g, off, x, rfl, hx, hg, hcell⟩ := h.at_ (by omega : k < xs.length)
      by_cases h0 : x = 0
      · subst h0
        have hn := (trim_drop hx).symm.trans Ht.out
        have Hn := Lib.hid hn
        clear hn hx
        go_wp2
        go_round
        case rel => exact ⟨k, by omega, rfl, Hn.out⟩
        case measure => simp [intOf]
      · have hn : (trim xs).length = k + 1 := by rw [← Ht.out, trim_stop hx h0, List.length_take]; omega
        have Hn := Lib.hid hn
        have hb : (x == 0) = false := by simpa using h0
        clear hn hx
        go_wp2
        go_ret
        exact ⟨by rw [Hn.out]; simp, rfl⟩
theorem trimmed_n (A : Option Addr) (c n : Nat) (xs : List Int) (w : World) (h : Rd w A xs) (hn : xs.length = n) (hc : n ≤ c) :
    Calls Tryd.prog 39 #[.slice A n c, .int .i64 0] w fun e w' => e = .returned (.slice A (trim xs).length (trim xs).length) ∧ w = w' := by
  subst hn
  exact trimmed_c A c xs w h hc
set_option maxHeartbeats 400000 in
theorem poTrim_c (A : Option Addr) (c : Nat) (xs : List Int) (w : World) (h : Rd w A xs) (hc : xs.length ≤ c) :
    Calls Tryd.prog 63 #[.slice A xs.length c] w fun e w' => ∃ g c', e = .returned (.slice (some ⟨g, 0, none⟩) (trim xs).length c') ∧ (trim xs).length ≤ c' ∧ w.heap.size ≤ g ∧ Own w' g (trim xs) ∧ Ex w w' := by
  have hl := h.len
  have htl := trim_le xs
  have hrd : Rd w A (trim xs) := by rw [trim_take]; exact h.take _
  go_enter Tryd.func63, Tryd.ntmps63
  go_wp2
  go_loop [3] (fun n => ∃ k : Nat, k ≤ xs.length ∧ n = .int .i64 k ∧ trim (xs.take k) = trim xs) (fun n => (intOf n).toNat)
  case atStart => exact ⟨_, Nat.le_refl _, rfl, by rw [List.take_length]⟩
  case round =>
    obtain ⟨k, hk, rfl, ht⟩ := hrel
    have Ht := Lib.hid ht
    clear ht
    cases k with
    | zero =>
      have hz : trim xs = [] := by rw [← Ht.out]; rfl
      rw [hz] at hrd
      have Hz := Lib.hid hz
      clear hz htl
      go_wp2_with fail
      refine (l1Own_c A c [] w hrd).mono ?_
      rintro e w1 ⟨g, c', rfl, h1, h2, h3, h4⟩
      go_wp2
      go_ret
      exact ⟨g, c', by rw [Hz.out]; rfl, by rw [Hz.out]; exact h1, h2, by rw [Hz.out]; exact h3, h4⟩
    | succ k =>
      obtain ⟨g, off, x, rfl, hx, hg, hcell⟩ := h.at_ (by omega : k < xs.length)
      by_cases h0 : x = 0
      · subst h0
        have hn := (trim_drop hx).symm.trans Ht.out
        have Hn := Lib.hid hn
        clear hn hx
        go_wp2_with fail
        go_round
        case rel => exact ⟨k, by omega, rfl, Hn.out⟩
        case measure => simp [intOf]
      · have hn : (trim xs).length = k + 1 := by rw [← Ht.out, trim_stop hx h0, List.length_take]; omega
        have Hn := Lib.hid hn
        have hb : (x == 0) = false := by simpa using h0
        clear hn hx
        go_wp2_with fail
        rw [← Hn.out]
        refine (l1Own_c _ c (trim xs) w hrd).mono ?_
        rintro e w1 ⟨g', c', rfl, h1, h2, h3, h4⟩
        go_wp2
        go_ret
        exact ⟨g', c', rfl, h1, h2, h3, h4⟩
/-- addTimes: by times ys is added to block g from place s on. -/
theorem addTimesW_c (p : Int) (g s n c : Nat) (xs : List Int) (b : Int) (A : Option Addr) (d : Nat) (ys : List Int) (w : World) (ho : Own w g xs) (hn : s + n ≤ xs.length) (h : Rd w A ys) (hy : ys.length ≤ n) (hoff : ys ≠ [] → Off A g)
    (h2 : 2 ≤ p) (h97 : p ≤ 97) (hxe : allEl p xs = true) (hye : allEl p ys = true) (hb : -10000 ≤ b ∧ b ≤ 10000) :
    Calls Tryd.prog 91 #[.int .i64 p, .slice (some ⟨g, s, none⟩) n c, .int .i64 b, .slice A ys.length d] w fun e w' => e = .returned (.tuple #[]) ∧ Own w' g (addAt p xs s b ys) ∧ Ex1 g w w' := by
  have hl := h.len
  have Hxe := Lib.hid hxe
  have Hye := Lib.hid hye
  clear hxe hye
  go_enter Tryd.func91, Tryd.ntmps91
  go_wp2
  go_loopw [12] (fun i wr => ∃ k : Nat, k ≤ ys.length ∧ i = .int .i64 k ∧ Own wr g (addAt p xs s b (ys.take k)) ∧ Ex1 g w wr) (fun i _ => ys.length - (intOf i).toNat)
  case atStart => exact ⟨0, Nat.zero_le _, rfl, by rw [List.take_zero, addAt_nil]; exact ho, Ex1.refl _ _⟩
  case round =>
    obtain ⟨k, hk, rfl, hok, hek⟩ := hrel
    by_cases hlt : k < ys.length
    · obtain ⟨g', off, y, rfl, hyk, hg', hcell⟩ := (h.ex1 hek (hoff (by intro e; subst e; simp at hlt))).at_ hlt
      have hcf : (addAt p xs s b (ys.take k))[s + k]? = some (cf xs (s + k)) := addAt_at (by omega) (by simp; omega)
      have hcx := hok.cell hcf
      have hfz := hok.frozen (s + k)
      have hbx := cf_bd Hxe.out (by omega) (s + k)
      have hby := allEl_at Hye.out hyk
      have hso := hok.set_ (s + k) ((cf xs (s + k) + b * y) % p)
      have hcy : cf ys k = y := cf_of hyk
      rw [← hcy, addAt_take_succ p xs s b ys k hlt, hcy] at hso
      have hmb : -960000 ≤ b * y ∧ b * y ≤ 960000 := by
        have m1 := Int.mul_le_mul_of_nonneg_right hb.1 hby.1
        have m2 := Int.mul_le_mul_of_nonneg_right hb.2 hby.1
        omega
      generalize cf xs (s + k) = x at *
      clear hcf hyk hcy
      go_wp2_with (go_at_call 66; refine (mod_c _ _ _ h2 h97).mono ?_; rintro e w' ⟨rfl, rfl⟩)
      go_roundw
      case rel => exact ⟨k + 1, by omega, by go_num, hso, hek.setCell rfl _⟩
      case measure => simp [intOf]; omega
    · obtain rfl : k = ys.length := by omega
      rw [List.take_length] at hok
      go_wp2
      go_end0
      exact ⟨rfl, hok, hek⟩
theorem addTimes_c (p : Int) (g s n c : Nat) (xs : List Int) (b : Int) (A : Option Addr) (d : Nat) (ys : List Int) (w : World) (ho : Own w g xs) (hn : s + n ≤ xs.length) (h : Rd w A ys) (hy : ys.length ≤ n) (hoff : ys ≠ [] → Off A g)
    (h2 : 2 ≤ p) (h97 : p ≤ 97) (hxe : allEl p xs = true) (hye : allEl p ys = true) (hb : -96 ≤ b ∧ b ≤ 96) :
    Calls Tryd.prog 91 #[.int .i64 p, .slice (some ⟨g, s, none⟩) n c, .int .i64 b, .slice A ys.length d] w fun e w' => e = .returned (.tuple #[]) ∧ Own w' g (addAt p xs s b ys) ∧ Ex1 g w w' :=
  addTimesW_c p g s n c xs b A d ys w ho hn h hy hoff h2 h97 hxe hye ⟨by omega, by omega⟩
/-- The built-in copy of ints to the head of a block of the call's own. -/
theorem wpList_copy_ints {ops : Array Oper} {rest : List Oper} {o : Oper} {a : Act} {w0 w : World} {Q : Exit → Act → World → Prop} (hgd : o.guard = none) (d s : Operand) (dT sT : TypeId)
    (ho : o.op = .call { callee := .builtin .copy, args := #[d, s], argTypes := #[dT, sT] }) (hu : Tryd.prog.underlying dT = some (.slice 3))
    {g n c sc : Nat} {A : Option Addr} {f xs : List Int} (hd : a.eval d = .slice (some ⟨g, 0, none⟩) n c) (hs : a.eval s = .slice A f.length sc)
    (hf : Rd w A f) (hfn : f.length ≤ n) (hxn : xs.length = n) (hown : Own w g xs) (hex : Ex w0 w) (hB : w0.heap.size ≤ g)
    (h : ∀ w', Own w' g (f ++ xs.drop f.length) → Ex w0 w' → wpList Tryd.prog ops Q rest (a.put o.dst (goInt f.length)) w') : wpList Tryd.prog ops Q (o :: rest) a w := by
  obtain ⟨cur, hc, hx⟩ := hown
  have hcl : xs.length ≤ cur.size := by
    rcases Nat.lt_or_ge cur.size xs.length with h1 | h1
    · have := hx cur.size _ (List.getElem?_eq_getElem h1)
      rw [Array.getElem?_eq_none (Nat.le_refl _)] at this; cases this
    · exact h1
  have hi : (Tryd.prog.info? 3).map (·.size) = some 1 := by kernel_rfl
  have hlen : (f.map (Value.int .i64)).length = f.length := by simp
  refine wpList_copy_splice hgd d s dT sT ho 3 hu hi (some ⟨g, 0, none⟩) A n c f.length sc hd hs g 0 cur.toList 3 (by simpa using hc) (f.map (Value.int .i64)) (by rw [hlen]; exact (Nat.min_eq_left hfn).symm) ?_ (by rw [hlen]; simp; omega) (by
      intro v hv
      obtain ⟨x, _, rfl⟩ := List.mem_map.1 hv
      rfl) w0.heap.size w0 hex hB ?_
  · intro hpos
    refine ⟨rfl, ?_⟩
    have hf0 : 0 < f.length := by simpa using hpos
    obtain ⟨g', off, hA, _⟩ := hf.2 0 hf0
    refine ⟨⟨g', off, none⟩, hA, fun j v hj => ?_⟩
    rw [List.getElem?_map] at hj
    cases hfj : f[j]? with
    | none => rw [hfj] at hj; cases hj
    | some y =>
      rw [hfj] at hj
      injection hj with hj
      subst hj
      have e : (⟨g', off, none⟩ : Addr).add j = ⟨g', off + j, none⟩ := by unfold Addr.add; split <;> simp_all
      rw [e]
      rw [hA] at hf
      exact hf.cell hfj
  · intro w' hw hb
    rw [hlen]
    refine h w' ⟨_, hw.out, fun j y hj => ?_⟩ hb
    simp only [splice, List.take_zero, List.nil_append, Nat.zero_add, hlen]
    rw [List.getElem?_append] at hj
    simp only [List.getElem?_toArray, List.getElem?_append, hlen, List.getElem?_map, List.getElem?_drop]
    split
    · rename_i hjl
      rw [if_pos hjl] at hj
      rw [hj]; rfl
    · rename_i hjl
      rw [if_neg hjl, List.getElem?_drop] at hj
      have := hx _ _ hj
      simpa using this
theorem copy_pad (f : List Int) (n : Nat) : f ++ (List.replicate n (0 : Int)).drop f.length = padTo f n := by
  rw [padTo, List.drop_replicate]
set_option maxHeartbeats 400000 in
theorem polyAddW_c (p : Int) (A B : Option Addr) (c d : Nat) (f g : List Int) (b : Int) (w : World) (hf : Rd w A f) (hg : Rd w B g) (h2 : 2 ≤ p) (h97 : p ≤ 97) (hfe : allEl p f = true) (hge : allEl p g = true) (hb : -10000 ≤ b ∧ b ≤ 10000) :
    Calls Tryd.prog 68 #[.int .i64 p, .slice A f.length c, .int .i64 b, .slice B g.length d] w fun e w' => ∃ A' c', e = .returned (.slice A' (pAdd p f b g).length c') ∧ Fr w' w.heap.size A' c' (pAdd p f b g) ∧ Ex w w' := by
  have hl := hf.len
  have hl' := hg.len
  go_enter Tryd.func68, Tryd.ntmps68
  obtain ⟨n, hn⟩ : ∃ n : Nat, n = max f.length g.length := ⟨_, rfl⟩
  have hfn : f.length ≤ n := by omega
  have hgn : g.length ≤ n := by omega
  have hn2 : n ≤ 1099511627776 := by omega
  have hnn : n = f.length ∨ n = g.length := by omega
  have Hn := Lib.hid hn
  clear hn
  go_wp2_with fail
  all_goals
    (first
      | rw [show (f.length : Int) = (n : Int) by omega]
      | rw [show (g.length : Int) = (n : Int) by omega])
    refine (zeros_c n hn2 _).mono ?_
    rintro e w1 ⟨gg, rfl, hgg, hbk, hx1⟩
    have hown := hbk.own
    go_wp2_with (with_reducible refine wpList_copy_ints (w0 := w) rfl (.tmp 16) (.tmp 17) _ _ rfl Tryd.underlying38 rfl rfl (hf.ex hx1) hfn (List.length_replicate) hown hx1 hgg ?_; intro w2 ho2 hx2)
    rw [copy_pad] at ho2
    have hpl : (padTo f n).length = n := padTo_len hfn
    refine (addTimesW_c p gg 0 n n (padTo f n) b B d g w2 ho2 (by omega) (hg.ex hx2) hgn (fun h0 => hg.off hgg h0) h2 h97 (padTo_el hfe (by omega) n) hge hb).mono ?_
    rintro e w3 ⟨rfl, ho3, hx3⟩
    have hex3 : Ex w w3 := hx2.ex1 hx3 hgg
    have hll : (addAt p (padTo f n) 0 b g).length = n := by rw [addAt_len, hpl]
    have hr3 := ho3.rd (by omega)
    go_wp2_with fail
    refine (trimmed_n _ n n _ w3 hr3 hll (Nat.le_refl _)).mono ?_
    rintro e w4 ⟨rfl, rfl⟩
    go_wp2
    go_ret
    have hP : trim (addAt p (padTo f n) 0 b g) = pAdd p f b g := by rw [pAdd, ← Hn.out]
    rw [hP]
    refine ⟨_, _, rfl, ?_, hex3⟩
    have := (ho3.fr (B := w.heap.size) (c := n) (by omega) hgg (by omega)).take (c' := (pAdd p f b g).length) (pAdd p f b g).length (List.length_take_le _ _)
    rw [← hP, ← trim_take, hP] at this
    exact this
theorem polyAdd_c (p : Int) (A B : Option Addr) (c d : Nat) (f g : List Int) (b : Int) (w : World) (hf : Rd w A f) (hg : Rd w B g) (h2 : 2 ≤ p) (h97 : p ≤ 97) (hfe : allEl p f = true) (hge : allEl p g = true) (hb : -96 ≤ b ∧ b ≤ 96) :
    Calls Tryd.prog 68 #[.int .i64 p, .slice A f.length c, .int .i64 b, .slice B g.length d] w fun e w' => ∃ A' c', e = .returned (.slice A' (pAdd p f b g).length c') ∧ Fr w' w.heap.size A' c' (pAdd p f b g) ∧ Ex w w' :=
  polyAddW_c p A B c d f g b w hf hg h2 h97 hfe hge ⟨by omega, by omega⟩
theorem Own.frTrim {w : World} {g B : Nat} {xs : List Int} (h : Own w g xs) (hl : xs.length ≤ 1099511627776) (hB : B ≤ g) : Fr w B (some ⟨g, 0, none⟩) (trim xs).length (trim xs) := by
  have := (h.fr (c := xs.length) hl hB (Nat.le_refl _)).take (c' := (trim xs).length) (trim xs).length (List.length_take_le _ _)
  rw [← trim_take] at this
  exact this
end Go.Proofs.YtmekhjnhcgmphaaDoor
