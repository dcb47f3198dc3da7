/- Square roots: the program's and the model's. -/
import Derived.Test.YtedpbidphajngaaDoorB
import Derived.Test.YtedpbidphajngaaDoorLg
namespace Go.Proofs.YtedpbidphajngaaDoor
open Go.RowKit
set_option linter.unusedVariables false
set_option linter.unusedSimpArgs false

theorem run_sqrt_raw (x : Nat) (w : World) : (callFunc 99 #[.float .f64 x]).run Tryd.prog w = ((match FloatKind.f64.format.sqrt x with | some r => pure (.float .f64 r) | none => do pure (.float .f64 (← choose (.nanBits .f64 x x))) : Sem Value) >>= fun v => pure (.value v)).run Tryd.prog w := by kernel_rfl
theorem fsqrt_av (x : Nat) : fsqrt (av .f64 x) = FloatKind.f64.format.sqrt x := by
  unfold av
  cases hn : (FloatKind.f64.decode x).isNaN
  · rfl
  · unfold FloatKind.decode at hn
    simp only [if_true, fsqrt, Option.bind_none]
    unfold Ieee.Format.sqrt
    cases hd : FloatKind.f64.format.read x with
    | nan s t => simp [Ieee.Datum.root]
    | number s m p => rw [hd] at hn; cases hn
    | infinity s => rw [hd] at hn; cases hn
theorem run_sqrt (x : Nat) (w : World) : ∃ r n, (callFunc 99 #[.float .f64 x]).run Tryd.prog w = .ok (.value (.float .f64 r)) (w.drewN n) ∧ av .f64 r = fsqrt (av .f64 x) := by
  rw [fsqrt_av]
  cases h : FloatKind.f64.format.sqrt x with
  | some r =>
    refine ⟨r, 0, ?_, av_of_not (sqrt_notNaN h)⟩
    rw [run_sqrt_raw]
    simp [h]
    rfl
  | none =>
    refine ⟨Question.cut (.nanBits .f64 x x) (w.tape w.drawn (.nanBits .f64 x x)), 1, ?_, av_cut .f64 x x _⟩
    rw [run_sqrt_raw]
    simp [h, choose, Sem.run, Question.forced]
    rfl
theorem sqrt_any (x : Nat) (w : World) : Calls Tryd.prog 79 #[.float .f64 x] w fun e w' => ∃ r n, e = .returned (.float .f64 r) ∧ Hid (av .f64 r = fsqrt (av .f64 x)) ∧ w' = w.drewN n := by
  obtain ⟨r, n, hr, he⟩ := run_sqrt x w
  have HE := Lib.hid he
  clear he
  go_enter Tryd.func79, Tryd.ntmps79
  go_wp2_with fail
  go_ret
  exact ⟨r, n, rfl, HE, rfl⟩
end Go.Proofs.YtedpbidphajngaaDoor
