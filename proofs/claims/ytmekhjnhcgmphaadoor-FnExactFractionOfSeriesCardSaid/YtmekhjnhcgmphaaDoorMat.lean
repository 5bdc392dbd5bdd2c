/- Lists of lists of ints in memory; the laws' helpers on them. -/
import Derived.Test.YtmekhjnhcgmphaaDoorLaw
import Derived.RegionCalls
import Derived.Deep.RegionWith
namespace Go.Proofs.YtmekhjnhcgmphaaDoor
set_option maxRecDepth 100000
open Go Go.RowKit
/-- The slice that begins at A holds slices of the lengths ns. -/
def RdH (w : World) (A : Option Addr) (ns : List Nat) : Prop :=
  ∀ (j n : Nat), ns[j]? = some n → n ≤ 9223372036854775807 ∧ ∃ g off A' c, A = some ⟨g, off, none⟩ ∧ w.cell? ⟨g, off + j, none⟩ = some (.slice A' n c)
/-- The slice that begins at A reads as the list of lists rows. -/
def RdM (w : World) (A : Option Addr) (rows : List (List Int)) : Prop :=
  rows.length ≤ 1099511627776 ∧ ∀ (j : Nat) (r : List Int), rows[j]? = some r → ∃ g off A' c, A = some ⟨g, off, none⟩ ∧ w.cell? ⟨g, off + j, none⟩ = some (.slice A' r.length c) ∧ Rd w A' r
theorem RdH.ex {w w' : World} {A : Option Addr} {ns : List Nat} (h : RdH w A ns) (he : Ex w w') : RdH w' A ns := fun j n hj => by
  obtain ⟨hb, g, off, A', c, hA, hc⟩ := h j n hj
  exact ⟨hb, g, off, A', c, hA, cell_ex he hc⟩
theorem RdM.ex {w w' : World} {A : Option Addr} {rows : List (List Int)} (h : RdM w A rows) (he : Ex w w') : RdM w' A rows := ⟨h.1, fun j r hj => by
  obtain ⟨g, off, A', c, hA, hc, hr⟩ := h.2 j r hj
  exact ⟨g, off, A', c, hA, cell_ex he hc, hr.ex he⟩⟩
theorem RdM.at_ {w : World} {A : Option Addr} {rows : List (List Int)} (h : RdM w A rows) {k : Nat} (hk : k < rows.length) :
    ∃ g off A' c r, A = some ⟨g, off, none⟩ ∧ rows[k]? = some r ∧ w.cell? ⟨g, off + k, none⟩ = some (.slice A' r.length c) ∧ Rd w A' r := by
  obtain ⟨g, off, A', c, hA, hc, hr⟩ := h.2 k _ (List.getElem?_eq_getElem hk)
  exact ⟨g, off, A', c, _, hA, List.getElem?_eq_getElem hk, hc, hr⟩
theorem sliceInfo : (Tryd.prog.info? 38).map (fun i => (i.zero, i.size, i.bytes)) = some (some (.slice none 0 0), 1, 24) := by kernel_rfl
/-- The headers of fresh rows. -/
def hdr (gs : List Nat) (rows : List (List Int)) : List Value := List.zipWith (fun g (r : List Int) => Value.slice (some ⟨g, 0, none⟩) r.length r.length) gs rows
/-- A fresh copy of rows: its own row of headers, a block for each row. -/
structure FM (w : World) (B g : Nat) (gs : List Nat) (rows : List (List Int)) : Prop where
  low : B ≤ g
  len : gs.length = rows.length
  head : VB w g 38 (hdr gs rows).toArray
  row : ∀ (j h : Nat) (r : List Int), gs[j]? = some h → rows[j]? = some r → g < h ∧ Blk w h r
  up : gs.Pairwise (· < ·)
theorem hdr_at {gs : List Nat} {rows : List (List Int)} {j h : Nat} {r : List Int} (hg : gs[j]? = some h) (hr : rows[j]? = some r) : (hdr gs rows)[j]? = some (Value.slice (some ⟨h, 0, none⟩) r.length r.length) := by
  simp [hdr, List.getElem?_zipWith, hg, hr]
theorem FM.rd {w : World} {B g : Nat} {gs : List Nat} {rows : List (List Int)} (h : FM w B g gs rows) (hl : rows.length ≤ 1099511627776) (hr : ∀ r ∈ rows, r.length ≤ 1099511627776) : RdM w (some ⟨g, 0, none⟩) rows :=
  ⟨hl, fun j r hj => by
    have hlt := (List.getElem?_eq_some_iff.1 hj).1
    have hg : gs[j]? = some (gs[j]'(by rw [h.len]; exact hlt)) := List.getElem?_eq_getElem _
    obtain ⟨_, hb⟩ := h.row j _ r hg hj
    exact ⟨g, 0, _, _, rfl, by rw [Nat.zero_add]; exact h.head.cell j (by simpa using hdr_at hg hj), hb.rd (hr r (List.mem_of_getElem? hj))⟩⟩
theorem FM.ex {w w' : World} {B g : Nat} {gs : List Nat} {rows : List (List Int)} (h : FM w B g gs rows) (he : Ex w w') : FM w' B g gs rows :=
  ⟨h.low, h.len, h.head.ex he, fun j k r hg hr => ⟨(h.row j k r hg hr).1, (h.row j k r hg hr).2.ex he⟩, h.up⟩
end Go.Proofs.YtmekhjnhcgmphaaDoor
