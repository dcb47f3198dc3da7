/- What the rows' lists of package-level variables give; a world in which they lie as their initialisers lay them. -/
import Derived.Test.YtedpbidphajngaaDoorRows
import Derived.Test.YtedpbidphajngaaDoorDD
import Derived.Lib.LaidTab
import Derived.Stop.LaidErr
import Derived.LaidMore
import Derived.LaidHandle
import Derived.MakeChecks
import Derived.Deep.DeepHandedRow
import Derived.Deep.DeepWitnessRowRef
namespace Go.Proofs.YtedpbidphajngaaDoor
open Go.RowKit
set_option linter.unusedVariables false

theorem pow_data : (Rows.laid_internal_strconv_uint64pow10 : DataW Unit) = Lib.tabData .u64 Lib.pow10Tab := by kernel_rfl
theorem gPow : Tryd.prog.globalNamed "internal/strconv.uint64pow10" = some 3 := by kernel_rfl
theorem gPowT : (Tryd.prog.globals[3]?).map (·.type) = some 137 := by kernel_rfl
theorem cellsPow : Tryd.prog.cellsOf 137 = 20 := by kernel_rfl
theorem cellsU64 : Tryd.prog.cellsOf 100 = 1 := by kernel_rfl
theorem laid_pow {rest : List (String × DataW Unit)} {W : World} (h : laidMet Tryd.prog (("internal/strconv.uint64pow10", Rows.laid_internal_strconv_uint64pow10) :: rest) W) : TabW W := by
  rw [pow_data] at h
  exact Lib.tabIs_of_head gPow gPowT Tryd.underlying137 Tryd.underlying100 cellsU64 cellsPow h
/-- the world that the variables' own initialisers leave -/
noncomputable def doorW (os : Os) : World := World.doorLaid Tryd.prog 72 os
end Go.Proofs.YtedpbidphajngaaDoor
