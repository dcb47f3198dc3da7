/- The natural logarithm: what the program computes. -/
import Derived.Test.YtedpbidphajngaaDoorSy
namespace Go.Proofs.YtedpbidphajngaaDoor
open Go.RowKit
set_option linter.unusedVariables false
set_option linter.unusedSimpArgs false
attribute [local go_sem] run_neg64 run_f64bits' run_f64frombits'
theorem kf_succ_all : ∀ i : Fin 321, fop .add .f64 (av .f64 (kf ((i.val : Int) - 160))) (av .f64 4607182418800017408) = some (kf ((i.val : Int) - 160 + 1)) := by decide +kernel
theorem kf_pred_all : ∀ i : Fin 322, fop .sub .f64 (av .f64 (kf ((i.val : Int) - 160))) (av .f64 4607182418800017408) = some (kf ((i.val : Int) - 160 - 1)) := by decide +kernel
theorem kf_succ {j : Int} (h1 : -160 ≤ j) (h2 : j ≤ 160) : fop .add .f64 (av .f64 (kf j)) (av .f64 4607182418800017408) = some (kf (j + 1)) := by
  obtain ⟨i, rfl⟩ : ∃ i : Nat, j = (i : Int) - 160 := ⟨(j + 160).toNat, by omega⟩
  exact kf_succ_all ⟨i, by omega⟩
theorem kf_dec {j : Int} (h1 : -160 ≤ j) (h2 : j ≤ 160) : fop .sub .f64 (av .f64 (kf j)) (av .f64 4607182418800017408) = some (kf (j - 1)) := by
  obtain ⟨i, rfl⟩ : ∃ i : Nat, j = (i : Int) - 160 := ⟨(j + 160).toNat, by omega⟩
  exact kf_pred_all ⟨i, by omega⟩
theorem k25_all : ∀ n : Fin 13, (FloatKind.f64.format.order (kf (25 - 2 * (n.val : Int))) 4607182418800017408 == some .gt || FloatKind.f64.format.order (kf (25 - 2 * (n.val : Int))) 4607182418800017408 == some .eq) = true := by decide +kernel
theorem k25_step_all : ∀ n : Fin 13, fop .sub .f64 (av .f64 (kf (25 - 2 * (n.val : Int)))) (av .f64 4611686018427387904) = some (kf (25 - 2 * ((n.val + 1 : Nat) : Int))) := by decide +kernel
theorem k25_av_all : ∀ n : Fin 13, av .f64 (kf (25 - 2 * (n.val : Int))) = some (kf ((25 - 2 * n.val : Nat) : Int)) := by decide +kernel
theorem k25_end : (FloatKind.f64.format.order (kf (25 - 2 * ((13 : Nat) : Int))) 4607182418800017408 == some .gt || FloatKind.f64.format.order (kf (25 - 2 * ((13 : Nat) : Int))) 4607182418800017408 == some .eq) = false := by decide +kernel
theorem logQ_succ (u : Option Nat) (n : Nat) : logQ u (n + 1) = fop .add .f64 (fop .quo .f64 (some c1) (some (kf ((25 - 2 * n : Nat) : Int)))) (fop .mul .f64 u (logQ u n)) := rfl
theorem av_c2n : av .f64 4611686018427387904 = some c2 := by decide
theorem av_cln : av .f64 4604418534313441775 = some cl := by decide
theorem av_c15n : av .f64 4609434218613702656 = some c15 := by decide
theorem av_c75n : av .f64 4604930618986332160 = some c75 := by decide
theorem kf_avI {n : Int} (h : n.natAbs < 2 ^ 53) : av .f64 (kf n) = some (kf n) := by
  obtain ⟨b, s, m, p, h1, h2, _⟩ := kf_bd (n := n) (e := 53) h (by omega)
  injection h1 with h1
  subst h1
  exact av_num h2
end Go.Proofs.YtedpbidphajngaaDoor
