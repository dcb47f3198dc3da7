/- Laws of single floats: the same number, subnormal, constants. -/
import Derived.Test.YteodplednmeaaaaA
namespace Go.Proofs.Yteodplednmeaaaa
open Go.RowKit
set_option linter.unusedVariables false
set_option linter.unusedSimpArgs false
attribute [local go_sem] run_f32bits

/-- the same number -/
def sameA (X Y : Option Nat) : Bool := X == Y
theorem bits_same {x y : Nat} (hx : x < 4294967296) (hy : y < 4294967296) : (bitsA (av .f32 x) == bitsA (av .f32 y)) = sameA (av .f32 x) (av .f32 y) := by
  have hn : ∀ z, av .f32 z = some 2143289344 → False := by
    intro z hz
    obtain ⟨e, h⟩ := av_some hz
    rw [← e] at h
    exact absurd h (by decide)
  unfold sameA
  cases ha : av .f32 x with
  | none =>
    cases hb : av .f32 y with
    | none => rfl
    | some c =>
      have : c ≠ 2143289344 := fun e => hn y (by rw [hb, e])
      simp [bitsA]; omega
  | some b =>
    cases hb : av .f32 y with
    | none =>
      have : b ≠ 2143289344 := fun e => hn x (by rw [ha, e])
      simp [bitsA]; omega
    | some c =>
      rw [Bool.eq_iff_iff]
      simp only [bitsA, beq_iff_eq, Option.some.injEq]
      omega

theorem specl01Same_any (x y : Nat) (hx : x < 4294967296) (hy : y < 4294967296) (w : World) :
    Calls Try.prog 112 #[.float .f32 x, .float .f32 y] w fun e w' => e = .returned (.bool (sameA (av .f32 x) (av .f32 y))) ∧ w = w' := by
  have H := Lib.hid (bits_same hx hy)
  go_enter Try.func112, Try.ntmps112
  go_wp2_with fail
  refine (specl01Bits_any x hx _).mono ?_
  rintro e w' ⟨rfl, rfl⟩
  go_wp2_with fail
  refine (specl01Bits_any y hy _).mono ?_
  rintro e w' ⟨rfl, rfl⟩
  go_wp2_with fail
  go_ret
  exact ⟨by rw [← H.out]; rfl, rfl⟩
theorem implSameNumber_any (x y : Nat) (hx : x < 4294967296) (hy : y < 4294967296) (w : World) :
    Calls Try.prog 109 #[.float .f32 x, .float .f32 y] w fun e w' => e = .returned (.bool (sameA (av .f32 x) (av .f32 y))) ∧ w = w' := by
  have hn := ne_self .f32 x
  have hm := ne_self .f32 y
  cases ha : av .f32 x with
  | none =>
    rw [ha] at hn
    cases hb : av .f32 y with
    | none =>
      rw [hb] at hm
      simp only [Option.isNone_none] at hn hm
      clear ha hb
      go_enter Try.func109, Try.ntmps109
      go_wp2
      go_ret
      exact ⟨rfl, rfl⟩
    | some c =>
      rw [hb] at hm
      simp only [Option.isNone_none, Option.isNone_some] at hn hm
      clear ha hb
      go_enter Try.func109, Try.ntmps109
      go_wp2
      go_ret
      exact ⟨rfl, rfl⟩
  | some b =>
    rw [ha] at hn
    cases hb : av .f32 y with
    | none =>
      rw [hb] at hm
      simp only [Option.isNone_none, Option.isNone_some] at hn hm
      clear ha hb
      go_enter Try.func109, Try.ntmps109
      go_wp2
      go_ret
      exact ⟨rfl, rfl⟩
    | some c =>
      rw [hb] at hm
      simp only [Option.isNone_some] at hn hm
      have e1 := (av_some ha).1
      have e2 := (av_some hb).1
      subst e1; subst e2
      have H : Hid ((((b : Nat) : Int) == ((c : Nat) : Int)) = sameA (some b) (some c)) := by
        show _ = _
        rw [Bool.eq_iff_iff]
        simp only [sameA, beq_iff_eq, Option.some.injEq]
        omega
      clear ha hb
      go_enter Try.func109, Try.ntmps109
      go_wp2
      go_ret
      exact ⟨by rw [← H.out]; rfl, rfl⟩
end Go.Proofs.Yteodplednmeaaaa
