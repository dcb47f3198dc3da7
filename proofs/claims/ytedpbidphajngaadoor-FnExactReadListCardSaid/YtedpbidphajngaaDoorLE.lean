/- What the rows' lists of errors give. -/
import Derived.Test.YtedpbidphajngaaDoorLD
import Derived.Test.YtedpbidphajngaaDoorRD
namespace Go.Proofs.YtedpbidphajngaaDoor
open Go.RowKit
set_option linter.unusedVariables false

theorem gSyn : Tryd.prog.globalNamed "strconv.ErrSyntax" = some 1 := by kernel_rfl
theorem gSynT : (Tryd.prog.globals[1]?).map (·.type) = some 66 := by kernel_rfl
theorem gRan : Tryd.prog.globalNamed "strconv.ErrRange" = some 2 := by kernel_rfl
theorem gRanT : (Tryd.prog.globals[2]?).map (·.type) = some 66 := by kernel_rfl
theorem errRow (u : TypeId) (h : Tryd.prog.typeName? 3 u = some "*errors.errorString") : u = 141 :=
  typeName_ptr_named (nm := "errors.errorString") (by kernel_rfl) (by kernel_rfl) (by decide) u h
theorem errCells : Tryd.prog.cellsOf 143 = 1 := by kernel_rfl
theorem strCells : Tryd.prog.cellsOf 9 = 1 := by kernel_rfl
theorem laid_syntax {rest : List (String × DataW Unit)} {W : World} (h : laidMet Tryd.prog (("strconv.ErrSyntax", Rows.laid_strconv_ErrSyntax) :: rest) W) : ErrW "strconv.ErrSyntax" W := by
  obtain ⟨a, s, hv, _⟩ := laid_sentinel h gSyn gSynT Tryd.underlying66 errRow Tryd.underlying141 Tryd.underlying143 rfl rfl Tryd.underlying9 errCells strCells
  exact ⟨_, _, hv⟩
theorem laid_range {rest : List (String × DataW Unit)} {W : World} (h : laidMet Tryd.prog (("strconv.ErrRange", Rows.laid_strconv_ErrRange) :: rest) W) : ErrW "strconv.ErrRange" W := by
  obtain ⟨a, s, hv, _⟩ := laid_sentinel h gRan gRanT Tryd.underlying66 errRow Tryd.underlying141 Tryd.underlying143 rfl rfl Tryd.underlying9 errCells strCells
  exact ⟨_, _, hv⟩
end Go.Proofs.YtedpbidphajngaaDoor
