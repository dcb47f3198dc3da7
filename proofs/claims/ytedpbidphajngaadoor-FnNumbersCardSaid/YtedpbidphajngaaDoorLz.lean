/- The natural logarithm: the program's and the model's, and the law. -/
import Derived.Test.YtedpbidphajngaaDoorLx
namespace Go.Proofs.YtedpbidphajngaaDoor
open Go.RowKit
open FT (Le2 Has)
set_option linter.unusedVariables false
set_option linter.unusedSimpArgs false
attribute [local go_sem] run_neg64 run_f64bits' run_f64frombits'
theorem not_gt_max {y m : Nat} {s : Bool} {p : Int} (d : FloatKind.f64.decode y = .number s m p) (h : s = true ∨ Le2 m p 1 128) : (FloatKind.f64.format.order y 9218868437227405311 == some .gt) = false := by
  have dm : FloatKind.f64.decode 9218868437227405311 = .number false 9007199254740991 971 := by decide
  rw [ord_num d dm]
  simp only [Option.some_beq_some, cmp_gt, Ieee.signed, Nat.shiftLeft_eq, Bool.false_eq_true, if_false]
  apply decide_eq_false
  rcases h with rfl | h
  · simp only [if_true]
    omega
  · have h2 : Le2 1 128 9007199254740991 971 := (Le2.pow (show (128 : Int) ≤ 971 by omega)).trans (fun B _ _ => Nat.mul_le_mul_right _ (by omega))
    have h3 := (h.trans h2) (min p 971) (by omega) (by omega)
    cases s
    · simp only [Bool.false_eq_true, if_false]
      omega
    · simp only [if_true]
      omega
theorem fin32_yes {x : Nat} {s : Bool} {m : Nat} {p : Int} (h : FloatKind.f32.decode x = .number s m p) : finA .f32 (av .f32 x) = true := by
  have hr : FloatKind.f32.format.read x = .number s m p := h
  rw [av_of_not (by rw [h]; rfl)]
  unfold finA fop floatBits
  simp only [Ieee.Format.sub, hr, Ieee.Datum.opposite, Ieee.Datum.sum]
  have e : Ieee.signed s m (p - min p p).toNat + Ieee.signed (!s) m (p - min p p).toNat = 0 := by
    simp only [Ieee.signed]
    cases s <;> simp <;> omega
  rw [e]
  have hw : FloatKind.f32.format.write (.number false 0 (min p p)) = 0 := by
    unfold Ieee.Format.write Ieee.Format.nearest
    simp only [if_true]
    rfl
  cases s <;> (show feq .f32 (some (FloatKind.f32.format.write (.number false 0 (min p p)))) (some 0) = true; rw [hw]; decide)
end Go.Proofs.YtedpbidphajngaaDoor
