/- Laws of single floats: the same number, subnormal, constants. -/
import Derived.Test.YtedpbidphajngaaDoorA
namespace Go.Proofs.YtedpbidphajngaaDoor
open Go.RowKit
set_option linter.unusedVariables false
set_option linter.unusedSimpArgs false
attribute [local go_sem] run_f32bits

/-- the same number -/
def sameA (X Y : Option Nat) : Bool := X == Y
theorem bits_same {x y : Nat} (hx : x < 4294967296) (hy : y < 4294967296) : (bitsA (av .f32 x) == bitsA (av .f32 y)) = sameA (av .f32 x) (av .f32 y) := by
  have hn : ∀ z, av .f32 z = some 2143289344 → False := by
    intro z hz
    obtain ⟨e, h⟩ := av_some hz
    rw [← e] at h
    exact absurd h (by decide)
  unfold sameA
  cases ha : av .f32 x with
  | none =>
    cases hb : av .f32 y with
    | none => rfl
    | some c =>
      have : c ≠ 2143289344 := fun e => hn y (by rw [hb, e])
      simp [bitsA]; omega
  | some b =>
    cases hb : av .f32 y with
    | none =>
      have : b ≠ 2143289344 := fun e => hn x (by rw [ha, e])
      simp [bitsA]; omega
    | some c =>
      rw [Bool.eq_iff_iff]
      simp only [bitsA, beq_iff_eq, Option.some.injEq]
      omega

theorem specl01Same_any (x y : Nat) (hx : x < 4294967296) (hy : y < 4294967296) (w : World) :
    Calls Tryd.prog 75 #[.float .f32 x, .float .f32 y] w fun e w' => e = .returned (.bool (sameA (av .f32 x) (av .f32 y))) ∧ w = w' := by
  have H := Lib.hid (bits_same hx hy)
  go_enter Tryd.func75, Tryd.ntmps75
  go_wp2_with fail
  refine (specl01Bits_any x hx _).mono ?_
  rintro e w' ⟨rfl, rfl⟩
  go_wp2_with fail
  refine (specl01Bits_any y hy _).mono ?_
  rintro e w' ⟨rfl, rfl⟩
  go_wp2_with fail
  go_ret
  exact ⟨by rw [← H.out]; rfl, rfl⟩
theorem specSameNumber_any (x y : Nat) (hx : x < 4294967296) (hy : y < 4294967296) (w : World) :
    Calls Tryd.prog 41 #[.float .f32 x, .float .f32 y] w fun e w' => e = .returned (.bool (sameA (av .f32 x) (av .f32 y))) ∧ w = w' := by
  go_enter Tryd.func41, Tryd.ntmps41
  go_wp2_with (go_at_call 75; refine (specl01Same_any x y hx hy _).mono ?_; rintro e w' ⟨rfl, rfl⟩)
  go_ret
  exact ⟨rfl, rfl⟩
end Go.Proofs.YtedpbidphajngaaDoor
