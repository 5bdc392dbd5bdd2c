/- What the readers need of the world, out of the row's list and the world's shape. -/
import Derived.Test.YtfggacnkediolaaDoorRow
import Derived.Test.YtfggacnkediolaaDoorPpH
import Derived.Stop.LaidErr
import Derived.Shelf.Vars
import Derived.LaidSub
namespace Go.Proofs.YtfggacnkediolaaDoor
set_option maxRecDepth 100000
open Go.ChangeShapes Go.WideShapes Go.ChangeAt Go.RowKit
theorem gSyn : Tryd.prog.globalNamed "strconv.ErrSyntax" = some 4 := by kernel_rfl
theorem gSynType : (Tryd.prog.globals[4]?).map (·.type) = some 70 := by kernel_rfl
theorem gRan : Tryd.prog.globalNamed "strconv.ErrRange" = some 5 := by kernel_rfl
theorem gRanType : (Tryd.prog.globals[5]?).map (·.type) = some 70 := by kernel_rfl
theorem gPow : Tryd.prog.globalNamed "internal/strconv.uint64pow10" = some 6 := by kernel_rfl
theorem gPowType : (Tryd.prog.globals[6]?).map (·.type) = some 114 := by kernel_rfl
theorem cellsPow : Tryd.prog.cellsOf 114 = 20 := by kernel_rfl
theorem cellsU64 : Tryd.prog.cellsOf 99 = 1 := by kernel_rfl
theorem cellsErr : Tryd.prog.cellsOf 120 = 1 := by kernel_rfl
theorem cellsStr : Tryd.prog.cellsOf 9 = 1 := by kernel_rfl
theorem starErr : "*" ++ "errors.errorString" = "*errors.errorString" := by decide
theorem rowErr (u : TypeId) (h : Tryd.prog.typeName? 3 u = some "*errors.errorString") : u = 118 :=
  typeName_ptr_named (nm := "errors.errorString") (by rw [starErr]; kernel_rfl) (by kernel_rfl) (by decide) u (by rw [starErr]; exact h)
theorem wlOf {W : World} (hL : laidMetH Tryd.prog Rows.fnExactParsePolyRow.laid W) (hsh : W.ShapedOpen Tryd.prog) : Wl W := by
  have h1 := hL.filter (fun x => x.1 == "loop.example/g01073/impl.smallPrimes")
  rw [show (Rows.fnExactParsePolyRow.laid.filter fun x => x.1 == "loop.example/g01073/impl.smallPrimes") = [("loop.example/g01073/impl.smallPrimes", Rows.laid_loop_example_g01073_impl_smallPrimes)] by kernel_rfl] at h1
  have h2 := hL.filter (fun x => x.1 == "internal/strconv.uint64pow10")
  rw [show (Rows.fnExactParsePolyRow.laid.filter fun x => x.1 == "internal/strconv.uint64pow10") = [("internal/strconv.uint64pow10", Rows.laid_internal_strconv_uint64pow10)] by kernel_rfl] at h2
  have h3 := hL.filter (fun x => x.1 == "strconv.ErrSyntax")
  rw [show (Rows.fnExactParsePolyRow.laid.filter fun x => x.1 == "strconv.ErrSyntax") = [("strconv.ErrSyntax", Rows.laid_strconv_ErrSyntax)] by kernel_rfl] at h3
  have h4 := hL.filter (fun x => x.1 == "strconv.ErrRange")
  rw [show (Rows.fnExactParsePolyRow.laid.filter fun x => x.1 == "strconv.ErrRange") = [("strconv.ErrRange", Rows.laid_strconv_ErrRange)] by kernel_rfl] at h4
  obtain ⟨a3, s3, hv3, -, -, -⟩ := laid_sentinel (r := []) h3 gSyn gSynType Tryd.underlying70 rowErr Tryd.underlying118 Tryd.underlying120 rfl rfl Tryd.underlying9 cellsErr cellsStr
  obtain ⟨a4, s4, hv4, -, -, -⟩ := laid_sentinel (r := []) h4 gRan gRanType Tryd.underlying70 rowErr Tryd.underlying118 Tryd.underlying120 rfl rfl Tryd.underlying9 cellsErr cellsStr
  refine ⟨table h1, ?_, Lib.tabIs_of_head (rest := []) gPow gPowType Tryd.underlying114 Tryd.underlying99 cellsU64 cellsPow h2, ⟨_, _, by have h0 := World.var?_cell gSyn hv3 0; simpa using h0⟩, ⟨_, _, by have h0 := World.var?_cell gRan hv4 0; simpa using h0⟩⟩
  exact cell_of_shapedOpen_int (P := Tryd.prog) (g := 3) (t := 3) (zero := #[.int .i64 0]) hsh (of_decide_eq_true (by kernel_rfl)) (by kernel_rfl) rfl (by kernel_rfl) (by kernel_rfl) Tryd.underlying3
end Go.Proofs.YtfggacnkediolaaDoor
