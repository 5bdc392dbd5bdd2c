/- What the readers need of the world, out of the row's list and the world's shape. -/
import Derived.Test.YtfggacnkediolaaGreatDoorRow
import Derived.Test.YtfggacnkediolaaGreatDoorPpH
import Derived.Stop.LaidErr
import Derived.Shelf.Vars
import Derived.LaidSub
namespace Go.Proofs.YtfggacnkediolaaGreatDoor
set_option maxRecDepth 100000
open Go.ChangeShapes Go.WideShapes Go.ChangeAt Go.RowKit
theorem gSyn : Tryz.prog.globalNamed "strconv.ErrSyntax" = some 4 := by kernel_rfl
theorem gSynType : (Tryz.prog.globals[4]?).map (·.type) = some 95 := by kernel_rfl
theorem gRan : Tryz.prog.globalNamed "strconv.ErrRange" = some 5 := by kernel_rfl
theorem gRanType : (Tryz.prog.globals[5]?).map (·.type) = some 95 := by kernel_rfl
theorem gPow : Tryz.prog.globalNamed "internal/strconv.uint64pow10" = some 6 := by kernel_rfl
theorem gPowType : (Tryz.prog.globals[6]?).map (·.type) = some 143 := by kernel_rfl
theorem cellsPow : Tryz.prog.cellsOf 143 = 20 := by kernel_rfl
theorem cellsU64 : Tryz.prog.cellsOf 132 = 1 := by kernel_rfl
theorem cellsErr : Tryz.prog.cellsOf 149 = 1 := by kernel_rfl
theorem cellsStr : Tryz.prog.cellsOf 9 = 1 := by kernel_rfl
theorem starErr : "*" ++ "errors.errorString" = "*errors.errorString" := by decide
theorem rowErr (u : TypeId) (h : Tryz.prog.typeName? 3 u = some "*errors.errorString") : u = 147 :=
  typeName_ptr_named (nm := "errors.errorString") (by rw [starErr]; kernel_rfl) (by kernel_rfl) (by decide) u (by rw [starErr]; exact h)
theorem wlOf {L : List (String × DataW Unit)} {W : World} (hL : laidMetH Tryz.prog L W) (hsh : W.ShapedOpen Tryz.prog)
    (f1 : (L.filter fun x => x.1 == "loop.example/g01073/impl.smallPrimes") = [("loop.example/g01073/impl.smallPrimes", Rows.laid_loop_example_g01073_impl_smallPrimes)])
    (f2 : (L.filter fun x => x.1 == "internal/strconv.uint64pow10") = [("internal/strconv.uint64pow10", Rows.laid_internal_strconv_uint64pow10)])
    (f3 : (L.filter fun x => x.1 == "strconv.ErrSyntax") = [("strconv.ErrSyntax", Rows.laid_strconv_ErrSyntax)])
    (f4 : (L.filter fun x => x.1 == "strconv.ErrRange") = [("strconv.ErrRange", Rows.laid_strconv_ErrRange)]) : Wl W := by
  have h1 := hL.filter (fun x => x.1 == "loop.example/g01073/impl.smallPrimes")
  rw [f1] at h1
  have h2 := hL.filter (fun x => x.1 == "internal/strconv.uint64pow10")
  rw [f2] at h2
  have h3 := hL.filter (fun x => x.1 == "strconv.ErrSyntax")
  rw [f3] at h3
  have h4 := hL.filter (fun x => x.1 == "strconv.ErrRange")
  rw [f4] at h4
  obtain ⟨a3, s3, hv3, -, -, -⟩ := laid_sentinel (r := []) h3 gSyn gSynType Tryz.underlying95 rowErr Tryz.underlying147 Tryz.underlying149 rfl rfl Tryz.underlying9 cellsErr cellsStr
  obtain ⟨a4, s4, hv4, -, -, -⟩ := laid_sentinel (r := []) h4 gRan gRanType Tryz.underlying95 rowErr Tryz.underlying147 Tryz.underlying149 rfl rfl Tryz.underlying9 cellsErr cellsStr
  refine ⟨table h1, ?_, Lib.tabIs_of_head (rest := []) gPow gPowType Tryz.underlying143 Tryz.underlying132 cellsU64 cellsPow h2, ⟨_, _, by have h0 := World.var?_cell gSyn hv3 0; simpa using h0⟩, ⟨_, _, by have h0 := World.var?_cell gRan hv4 0; simpa using h0⟩⟩
  exact cell_of_shapedOpen_int (P := Tryz.prog) (g := 0) (t := 3) (zero := #[.int .i64 0]) hsh (of_decide_eq_true (by kernel_rfl)) (by kernel_rfl) rfl (by kernel_rfl) (by kernel_rfl) Tryz.underlying3
end Go.Proofs.YtfggacnkediolaaGreatDoor
