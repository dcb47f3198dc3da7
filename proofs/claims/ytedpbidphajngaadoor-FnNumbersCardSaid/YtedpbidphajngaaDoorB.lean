/- 'sameFloat' holds of two floats that are alike in what matters. -/
import Derived.Test.YtedpbidphajngaaDoorA
namespace Go.Proofs.YtedpbidphajngaaDoor
open Go.RowKit
set_option linter.unusedVariables false
set_option linter.unusedSimpArgs false

theorem eq_self (k : FloatKind) (x : Nat) : (k.format.order x x == some .eq) = (av k x).isSome := by
  have h := ne_self k x
  cases ha : av k x
  · rw [ha] at h; simpa using h
  · rw [ha] at h; simpa using h

theorem sameFloat_alike (x y : Nat) (h : av .f64 x = av .f64 y) (w : World) :
    Calls Tryd.prog 61 #[.float .f64 x, .float .f64 y] w fun e w' => ∃ n, e = .returned (.bool true) ∧ w' = w.drewN n := by
  have hx := ne_self .f64 x
  have hy := ne_self .f64 y
  cases ha : av .f64 x with
  | none =>
    rw [ha] at h hx
    rw [← h] at hy
    simp only [Option.isNone_none] at hx hy
    clear h ha
    go_enter Tryd.func61, Tryd.ntmps61
    go_wp2_with ((with_reducible apply wpList_farith); rfl; rfl; rfl; intro r n hr)
    go_ret
    exact ⟨0, rfl, rfl⟩
  | some c =>
    rw [ha] at h
    have e1 := (av_some ha).1
    have e2 := (av_some h.symm).1
    subst e1; subst e2
    rw [ha] at hx
    have hs := eq_self .f64 c
    rw [ha] at hs
    simp only [Option.isNone_some] at hx
    simp only [Option.isSome_some] at hs
    clear h ha hy
    cases h0 : (FloatKind.f64.format.order c 0 == some .eq)
    · go_enter Tryd.func61, Tryd.ntmps61
      go_wp2_with ((with_reducible apply wpList_farith); rfl; rfl; rfl; intro r n hr)
      go_ret
      exact ⟨0, rfl, rfl⟩
    · go_enter Tryd.func61, Tryd.ntmps61
      go_wp2_with ((with_reducible apply wpList_farith); rfl; rfl; rfl; intro r n hr)
      go_ret
      rename_i r2 n2 hr2
      refine ⟨_, ?_, rfl⟩
      show Ending.returned (.bool (_ == _)) = _
      rw [order_ford .f64 r2, order_ford .f64 r, hr2.out, hr.out]
      simp
end Go.Proofs.YtedpbidphajngaaDoor
