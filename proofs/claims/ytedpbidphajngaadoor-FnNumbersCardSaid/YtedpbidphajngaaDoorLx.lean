/- The natural logarithm: what the model computes. -/
import Derived.Test.YtedpbidphajngaaDoorLw
import Derived.Test.YtedpbidphajngaaDoorLv
namespace Go.Proofs.YtedpbidphajngaaDoor
open Go.RowKit
set_option linter.unusedVariables false
set_option linter.unusedSimpArgs false
attribute [local go_sem] run_neg64 run_f64bits' run_f64frombits'
theorem kf_of (n : Int) : floatOfInt .f64 n = kf n := rfl
theorem nan_any2 (w : World) : Calls Tryd.prog 77 #[] w fun e w' => e = .returned (.float .f64 9221120237041090561) ∧ w = w' := by
  go_enter Tryd.func77, Tryd.ntmps77
  go_wp2_with fail
  go_ret
  exact ⟨rfl, rfl⟩
end Go.Proofs.YtedpbidphajngaaDoor
