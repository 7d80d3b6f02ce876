/- The package variables that Decode reads, out of what is laid. -/
import Derived.Test.YtckcnenhnniogaaDoorTagAtoi
import Derived.Test.YtckcnenhnniogaaDoorTagArg
import Derived.Test.YtckcnenhnniogaaDoorBaseErr
import Derived.Shelf.Vars
set_option linter.unusedSimpArgs false
set_option linter.unusedVariables false
namespace Go.Proofs.YtckcnenhnniogaaDoor.TagW
open Go.ChangeShapes Go.WideShapes Go.ChangeAt Go.RowKit Go.Proofs.YtckcnenhnniogaaDoor.Bas Go.Proofs.YtckcnenhnniogaaDoor.FixpW Go.Proofs.YtckcnenhnniogaaDoor.DecW Go.Proofs.YtckcnenhnniogaaDoor.FldW Go.Proofs.YtckcnenhnniogaaDoor.TagM

theorem gRange : Tryd.prog.globalNamed "strconv.ErrRange" = some 6 := by kernel_rfl
theorem gRangeType : (Tryd.prog.globals[6]?).map (·.type) = some 53 := by kernel_rfl
theorem gSyntax : Tryd.prog.globalNamed "strconv.ErrSyntax" = some 5 := by kernel_rfl
theorem gSyntaxType : (Tryd.prog.globals[5]?).map (·.type) = some 53 := by kernel_rfl
/-- what the laws that read Decode lay -/
def laidD : List (String × DataW Unit) := [("math/bits.deBruijn32tab", Rows.laid_math_bits_deBruijn32tab), ("math/bits.deBruijn64tab", Rows.laid_math_bits_deBruijn64tab), ("internal/strconv.uint64pow10", Rows.laid_internal_strconv_uint64pow10), ("unicode/utf8.acceptRanges", Rows.laid_unicode_utf8_acceptRanges), ("strconv.ErrRange", Rows.laid_strconv_ErrRange), ("strconv.ErrSyntax", Rows.laid_strconv_ErrSyntax), ("bytes.ErrTooLarge", Rows.laid_bytes_ErrTooLarge), ("unicode/utf8.first", Rows.laid_unicode_utf8_first)]
theorem env_laid {W : World} (h : laidMetH Tryd.prog laidD W) (hS : W.ShapedOpen Tryd.prog) : Env W := by
  have h1 : ∃ ps, DataW.LaidVars Tryd.prog W laidD ps := laid_vars h
  have h5 := laid_tail (laid_tail (laid_tail (laid_tail h1)))
  obtain ⟨m, hm⟩ : ∃ m, W.cell? ⟨1, 0, none⟩ = some (.int .i64 m) := cell_of_shapedOpen_int (zero := #[.int .i64 0]) (t := 3) hS (of_decide_eq_true (by kernel_rfl)) (by kernel_rfl) rfl (by kernel_rfl) (by kernel_rfl) Tryd.underlying3
  exact ⟨⟨m, hm⟩, err_laid gSyntax gSyntaxType Tryd.underlying53 (laid_tail h5), err_laid gRange gRangeType Tryd.underlying53 h5, pow_of_laid (laid_tail (laid_tail h1))⟩
end Go.Proofs.YtckcnenhnniogaaDoor.TagW
