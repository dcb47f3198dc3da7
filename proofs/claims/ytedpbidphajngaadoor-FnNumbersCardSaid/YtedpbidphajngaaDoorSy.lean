/- The sine of a number of turns: the model's, and the law. -/
import Derived.Test.YtedpbidphajngaaDoorSx
namespace Go.Proofs.YtedpbidphajngaaDoor
open Go.RowKit
set_option linter.unusedVariables false
set_option linter.unusedSimpArgs false
attribute [local go_sem] run_neg64 run_f64bits' run_f64frombits'
theorem conv_int {x : Nat} {s : Bool} {m : Nat} {p : Int} (dx : FloatKind.f64.decode x = .number s m p) (hl : Low m p) (W : World) : Sem.run Tryd.prog (convert 64 2 (.float .f64 x)) W = .ok (.int .i64 (Ieee.signed s (wholeN m p) 0)) W :=
  run_convert_float_int W _ _ .f64 .i64 x _ (by rw [Tryd.underlying64]; rfl) Tryd.underlying2 (toInt_val dx hl)
theorem kf_av {n : Nat} (h0 : n ≠ 0) (h : n < 2 ^ 53) : av .f64 (kf (n : Int)) = some (kf (n : Int)) := by
  obtain ⟨m', p', d, _⟩ := exact64 false n h0 h
  exact av_of_not (by rw [kf_pos h0, d]; rfl)
end Go.Proofs.YtedpbidphajngaaDoor
