/- Contracts: FractionText, on both sides. -/
import Derived.Test.YtofppmieipiidaaDoorPtE
import Derived.Test.YtofppmieipiidaaDoorPkL
import Derived.Test.YtofppmieipiidaaDoorPkC
import Derived.Test.YtofppmieipiidaaDoorIv
import Derived.RegionCalls
import Derived.Deep.RegionWith
import Derived.Deep.RegionHeld3
namespace Go.Proofs.YtofppmieipiidaaDoor
set_option maxRecDepth 100000
open Go Go.RowKit
def ftX (num den : List Int) : List UInt8 := (ptX num ++ [32, 47, 32]) ++ ptX den
def ftR (p : Int) (num den : List Int) : List UInt8 × Bool := if fracB p num den = true then (ftX num den, true) else ([], false)
theorem ftR_no {p : Int} {num den : List Int} (h : fracB p num den = false) : ftR p num den = ([], false) := by simp [ftR, h]
theorem ftR_yes {p : Int} {num den : List Int} (h : fracB p num den = true) : ftR p num den = (ftX num den, true) := by simp [ftR, h]
theorem ptX_len {f : List Int} (hl : f.length ≤ 41) (hf : ∀ x ∈ f, 0 ≤ x ∧ x < 97) : (ptX f).length ≤ 287 := by
  unfold ptX
  split
  · simp
  · exact ptJ_len hl hf (Nat.le_refl _)
def SB (w : World) (r : List UInt8 × Bool) (e : Ending) (w' : World) : Prop := e = .returned (.tuple #[.string ⟨r.1.toArray⟩, .bool r.2]) ∧ Ex w w'
set_option maxHeartbeats 2000000 in
theorem frText_c (A B : Option Addr) (c d : Nat) (num den : List Int) (w : World) (hn : Rd w A num) (hd : Rd w B den) (hl1 : num.length ≤ 41) (hf1 : ∀ x ∈ num, 0 ≤ x ∧ x < 97) (hl2 : den.length ≤ 41) (hf2 : ∀ x ∈ den, 0 ≤ x ∧ x < 97) :
    Calls Tryd.prog 20 #[.agg #[.slice A num.length c, .slice B den.length d]] w fun e w' => e = .returned (.string ⟨(ftX num den).toArray⟩) ∧ Ex w w' := by
  have cX := fun W h => poText_c A c num W h hl1 hf1
  have cY := fun W h => poText_c B d den W h hl2 hf2
  have lX := ptX_len hl1 hf1
  have lY := ptX_len hl2 hf2
  have HT := Lib.hid (show ftX num den = (ptX num ++ [32, 47, 32]) ++ ptX den from rfl)
  generalize ftX num den = T at *
  generalize ptX num = X at *
  generalize ptX den = Y at *
  clear hf1 hf2
  have hs1 : ¬ (9223372036854775804 < X.length) := by omega
  have hs2 : ¬ (9223372036854775807 < X.length + 3) := by omega
  have hs3 : ¬ (9223372036854775807 < X.length + 3 + Y.length) := by omega
  have xw := Ex.refl w
  go_enter Tryd.func20, Tryd.ntmps20
  go_wp2_with fail
  have xa := (Ex.refl w).alloc (.cells #[.slice A num.length c, .slice B den.length d] 32)
  have vx := VB.new w 32 #[.slice A num.length c, .slice B den.length d]
  generalize w.alloc (.cells #[.slice A num.length c, .slice B den.length d] 32) = u1 at *
  replace xw := xw.trans xa
  have qvx0 := vx.cell 0 (v := .slice A num.length c) rfl
  have qvx1 := vx.cell 1 (v := .slice B den.length d) rfl
  go_wp2_with fail
  go_region_held3 (fun W => W.cell? ⟨w.heap.size, 0, none⟩ = some (.slice A num.length c) ∧ W.cell? ⟨w.heap.size, 1, none⟩ = some (.slice B den.length d)) (first | (exact ⟨(cell_ex xu5 (cell_ex xu4 qvx0)), (cell_ex xu5 (cell_ex xu4 qvx1))⟩) | (exact ⟨(cell_ex xu4 qvx0), (cell_ex xu4 qvx1)⟩) | (exact ⟨qvx0, qvx1⟩)) (first
    | (go_at_call_of 15 (Value.slice A num.length c)
       refine (cX u1.drew (hn.ex (xw.drew))).mono ?_
       rintro e u4 ⟨rfl, xu4⟩)
    | (go_at_call_of 15 (Value.slice B den.length d)
       refine (cY u4 (hd.ex ((xw.drew).trans xu4))).mono ?_
       rintro e u5 ⟨rfl, xu5⟩))
  all_goals
    have xd : Ex u1 u5 := (((Ex.refl u1).drew).trans xu4).trans xu5
    replace xw := xw.trans xd
    clear qvx0 qvx1 xd
    go_wp2
  all_goals
    go_ret
    refine ⟨?_, xw⟩
    rw [HT.out]
    show Ending.returned (Value.string _) = Ending.returned (Value.string _)
    first
      | rfl
      | (congr 2; apply ByteArray.ext; simp [ByteArray.data_append]; done)
set_option maxHeartbeats 2000000 in
theorem spFractionText_c (p : Int) (A B : Option Addr) (c d : Nat) (num den : List Int) (w : World) (hn : Rd w A num) (hd : Rd w B den) :
    Calls Tryd.prog 10 #[.int .i64 p, .agg #[.slice A num.length c, .slice B den.length d]] w fun e w' => SB w (ftR p num den) e w' := by
  cases hp : fracB p num den with
  | false =>
    have H := Lib.hid (ftR_no hp)
    have xw := Ex.refl w
    go_enter Tryd.func10, Tryd.ntmps10
    go_wp2_with fail
    have xa := (Ex.refl w).alloc (.cells #[.slice A num.length c, .slice B den.length d] 32)
    have vx := VB.new w 32 #[.slice A num.length c, .slice B den.length d]
    generalize w.alloc (.cells #[.slice A num.length c, .slice B den.length d] 32) = u1 at *
    replace xw := xw.trans xa
    refine (frGood_c p A B c d num den u1 (hn.ex xw) (hd.ex xw)).mono ?_
    rintro e u2 ⟨rfl, xu2⟩
    replace xw := xw.trans xu2
    rw [hp]
    go_wp2
    go_ret2
    exact ⟨by rw [H.out]; rfl, xw⟩
  | true =>
    have H := Lib.hid (ftR_yes hp)
    have E := fracB_parts hp
    have b1 := all_bd E.2.1
    have b2 := all_bd E.2.2.1
    have cT := fun W h k => frText_c A B c d num den W h k b1.1 b1.2 b2.1 b2.2
    clear E b1 b2
    have xw := Ex.refl w
    go_enter Tryd.func10, Tryd.ntmps10
    go_wp2_with fail
    have xa := (Ex.refl w).alloc (.cells #[.slice A num.length c, .slice B den.length d] 32)
    have vx := VB.new w 32 #[.slice A num.length c, .slice B den.length d]
    generalize w.alloc (.cells #[.slice A num.length c, .slice B den.length d] 32) = u1 at *
    replace xw := xw.trans xa
    refine (frGood_c p A B c d num den u1 (hn.ex xw) (hd.ex xw)).mono ?_
    rintro e u2 ⟨rfl, xu2⟩
    replace xw := xw.trans xu2
    replace vx := vx.ex xu2
    rw [hp]
    have qvx0 := vx.cell 0 (v := .slice A num.length c) rfl
    have qvx1 := vx.cell 1 (v := .slice B den.length d) rfl
    go_wp2_with fail
    refine (cT u2 (hn.ex xw) (hd.ex xw)).mono ?_
    rintro e u3 ⟨rfl, xu3⟩
    replace xw := xw.trans xu3
    go_wp2
    go_ret2
    exact ⟨by rw [H.out]; rfl, xw⟩
set_option maxHeartbeats 4000000 in
theorem FractionText_c (p : Int) (A B : Option Addr) (c d : Nat) (num den : List Int) (w : World) (hn : Rd w A num) (hd : Rd w B den) (ht : Tb w) :
    Calls Tryd.prog 12 #[.int .i64 p, .agg #[.slice A num.length c, .slice B den.length d]] w fun e w' => SB w (ftR p num den) e w' := by
  cases hp : fracB p num den with
  | false =>
    have H := Lib.hid (ftR_no hp)
    have xw := Ex.refl w
    go_enter Tryd.func12, Tryd.ntmps12
    go_wp2_with fail
    have xa := (Ex.refl w).alloc (.cells #[.slice A num.length c, .slice B den.length d] 32)
    have vx := VB.new w 32 #[.slice A num.length c, .slice B den.length d]
    have Su1 := Lib.hid (show (w.alloc (.cells #[.slice A num.length c, .slice B den.length d] 32)).heap.size = w.heap.size + 1 by simp)
    generalize w.alloc (.cells #[.slice A num.length c, .slice B den.length d] 32) = u1 at *
    replace xw := xw.trans xa; clear xa
    have xa := (Ex.refl u1).alloc (.cells #[.slice A num.length c, .slice B den.length d] 32)
    have va := VB.new u1 32 #[.slice A num.length c, .slice B den.length d]
    rw [Su1.out] at va
    generalize u1.alloc (.cells #[.slice A num.length c, .slice B den.length d] 32) = u2 at *
    replace xw := xw.trans xa; clear xa
    refine (areFractions_c p (some ⟨w.heap.size + 1, 0, none⟩) 1 [(num, den)] u2 (RdF.one (va.cell 0 rfl) (va.cell 1 rfl) (hn.ex xw) (hd.ex xw)) (ht.ex xw)).mono ?_
    rintro e u3 ⟨rfl, xu3⟩
    replace xw := xw.trans xu3
    rw [fracB_field, hp]
    go_wp2
    go_ret2
    exact ⟨by rw [H.out]; rfl, xw⟩
  | true =>
    have H := Lib.hid (ftR_yes hp)
    have E := fracB_parts hp
    have b1 := all_bd E.2.1
    have b2 := all_bd E.2.2.1
    have cX := fun W h => polyText_c A c num W h b1.1 b1.2
    have cY := fun W h => polyText_c B d den W h b2.1 b2.2
    have lX := ptX_len b1.1 b1.2
    have lY := ptX_len b2.1 b2.2
    have HT := Lib.hid (show ftX num den = (ptX num ++ [32, 47, 32]) ++ ptX den from rfl)
    generalize ftX num den = T at *
    generalize ptX num = X at *
    generalize ptX den = Y at *
    clear E b1 b2
    have hs1 : ¬ (9223372036854775804 < X.length) := by omega
    have hs2 : ¬ (9223372036854775807 < X.length + 3) := by omega
    have hs3 : ¬ (9223372036854775807 < X.length + 3 + Y.length) := by omega
    have xw := Ex.refl w
    go_enter Tryd.func12, Tryd.ntmps12
    go_wp2_with fail
    have xa := (Ex.refl w).alloc (.cells #[.slice A num.length c, .slice B den.length d] 32)
    have vx := VB.new w 32 #[.slice A num.length c, .slice B den.length d]
    have Su1 := Lib.hid (show (w.alloc (.cells #[.slice A num.length c, .slice B den.length d] 32)).heap.size = w.heap.size + 1 by simp)
    generalize w.alloc (.cells #[.slice A num.length c, .slice B den.length d] 32) = u1 at *
    replace xw := xw.trans xa; clear xa
    have xa := (Ex.refl u1).alloc (.cells #[.slice A num.length c, .slice B den.length d] 32)
    have va := VB.new u1 32 #[.slice A num.length c, .slice B den.length d]
    rw [Su1.out] at va
    generalize u1.alloc (.cells #[.slice A num.length c, .slice B den.length d] 32) = u2 at *
    replace vx := vx.ex xa
    replace xw := xw.trans xa; clear xa
    refine (areFractions_c p (some ⟨w.heap.size + 1, 0, none⟩) 1 [(num, den)] u2 (RdF.one (va.cell 0 rfl) (va.cell 1 rfl) (hn.ex xw) (hd.ex xw)) (ht.ex xw)).mono ?_
    rintro e u3 ⟨rfl, xu3⟩
    replace vx := vx.ex xu3
    replace xw := xw.trans xu3
    rw [fracB_field, hp]
    clear va
    have qvx0 := vx.cell 0 (v := .slice A num.length c) rfl
    have qvx1 := vx.cell 1 (v := .slice B den.length d) rfl
    go_wp2_with fail
    go_region_held3 (fun W => W.cell? ⟨w.heap.size, 0, none⟩ = some (.slice A num.length c) ∧ W.cell? ⟨w.heap.size, 1, none⟩ = some (.slice B den.length d)) (first | (exact ⟨(cell_ex xu5 (cell_ex xu4 qvx0)), (cell_ex xu5 (cell_ex xu4 qvx1))⟩) | (exact ⟨(cell_ex xu4 qvx0), (cell_ex xu4 qvx1)⟩) | (exact ⟨qvx0, qvx1⟩)) (first
      | (go_at_call_of 17 (Value.slice A num.length c)
         refine (cX u3.drew (hn.ex (xw.drew))).mono ?_
         rintro e u4 ⟨rfl, xu4⟩)
      | (go_at_call_of 17 (Value.slice B den.length d)
         refine (cY u4 (hd.ex ((xw.drew).trans xu4))).mono ?_
         rintro e u5 ⟨rfl, xu5⟩))
    all_goals
      have xd : Ex u3 u5 := (((Ex.refl u3).drew).trans xu4).trans xu5
      replace xw := xw.trans xd
      clear qvx0 qvx1 xd
      go_wp2
    all_goals
      go_ret2
      refine ⟨?_, xw⟩
      rw [H.out, HT.out]
      show Ending.returned (Value.tuple #[Value.string _, _]) = Ending.returned (Value.tuple #[Value.string _, _])
      first
        | rfl
        | (congr 4; apply ByteArray.ext; simp [ByteArray.data_append]; done)
end Go.Proofs.YtofppmieipiidaaDoor
