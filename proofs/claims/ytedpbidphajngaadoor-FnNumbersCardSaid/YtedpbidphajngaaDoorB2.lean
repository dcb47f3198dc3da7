/- Laws of single floats: from bits, flushed. -/
import Derived.Test.YtedpbidphajngaaDoorA3
import Derived.Test.YtedpbidphajngaaDoorB
import Derived.Laws.BitsAllLaws
namespace Go.Proofs.YtedpbidphajngaaDoor
open Go.RowKit
set_option linter.unusedVariables false
set_option linter.unusedSimpArgs false
attribute [local go_sem] run_f32bits run_f32frombits run_f64bits run_f64frombits

theorem sign_bits (r : Nat) (hr : r < 18446744073709551616) :
    (bits .or .u64 (bits .andNot .u64 0 9223372036854775808) (bits .and .u64 (r : Int) 9223372036854775808)).toNat = r / 9223372036854775808 % 2 * 9223372036854775808 := by
  have e1 : bits .andNot .u64 0 9223372036854775808 = 0 := by decide
  have e2 := u64_and_nat r 9223372036854775808 hr (by omega)
  have e3 := nat_bit 63 r
  rw [show ((9223372036854775808 : Nat) : Int) = 9223372036854775808 from rfl] at e2
  rw [e1, e2, show (9223372036854775808 : Nat) = 2 ^ 63 from rfl, e3]
  have e4 := u64_or_nat 0 (r / 2 ^ 63 % 2 * 2 ^ 63) (by omega) (by omega)
  rw [show ((0 : Nat) : Int) = 0 from rfl] at e4
  rw [e4, Int.toNat_natCast, Nat.zero_or]

theorem copysign_any (r : Nat) (hr : r < 18446744073709551616) (w : World) :
    Calls Tryd.prog 71 #[.float .f64 0, .float .f64 r] w fun e w' => e = .returned (.float .f64 (r / 9223372036854775808 % 2 * 9223372036854775808)) ∧ w = w' := by
  have H := Lib.hid (sign_bits r hr)
  go_enter Tryd.func71, Tryd.ntmps71
  go_wp2
  go_ret
  refine ⟨?_, rfl⟩
  rw [← H.out]
  rfl

/-- a zero of its sign where it is subnormal -/
def flushB (x : Nat) : Nat := if subB x then x / 2147483648 % 2 * 2147483648 else x

theorem widen_sign (x : Nat) (hx : x < 4294967296) (hs : subB x = true) :
    ∃ R, fconv .f32 .f64 (av .f32 x) = some R ∧ R < 18446744073709551616 ∧ R / 9223372036854775808 % 2 = x / 2147483648 % 2 := by
  have e1 : Ieee.single.binade = 8388608 := by decide
  have hd := read32 x hx
  simp only [subB, decide_eq_true_eq] at hs
  unfold FT.D at hd
  rw [e1, if_pos hs.2] at hd
  have ha : av .f32 x = some x := av_of_not (by rw [hd]; rfl)
  have hf := fits_wide x
  rw [ha] at hf ⊢
  have hv := hf x rfl
  have hR : floatToFloatBits .f32 x .f64 = some (FloatKind.f64.encode (.number (decide (2147483648 ≤ x)) (x % 2147483648) Ieee.single.leastPlace)) := by
    unfold floatToFloatBits at hv ⊢
    rw [if_neg (by decide), hd] at hv ⊢
    simp only [] at hv ⊢
    split at hv
    · cases hv
    · rename_i h; rw [if_neg h]
  refine ⟨_, by simp [fconv, hR]; rfl, ?_, ?_⟩
  · have := Ieee.Format.write_lt FloatKind.f64.format (.number (decide (2147483648 ≤ x)) (x % 2147483648) Ieee.single.leastPlace)
    exact this
  · obtain ⟨r, e, hr⟩ := FT.nearest_form FloatKind.f64.format (decide (2147483648 ≤ x)) (x % 2147483648) Ieee.single.leastPlace
    have e2 : FloatKind.f64.encode (.number (decide (2147483648 ≤ x)) (x % 2147483648) Ieee.single.leastPlace) = FloatKind.f64.format.word (decide (2147483648 ≤ x)) r := e
    have e3 : FloatKind.f64.format.infRung = 9218868437227405312 := by decide
    have e4 : FloatKind.f64.format.signWeight = 9223372036854775808 := by decide
    rw [e2]
    unfold Ieee.Format.word
    rw [e4]
    rw [e3] at hr
    by_cases h : 2147483648 ≤ x
    · simp [h]; omega
    · simp [h]; omega

theorem zero_narrow (s : Nat) (hs : s < 2) : Fits .f64 .f32 (av .f64 (s * 9223372036854775808)) ∧ fconv .f64 .f32 (av .f64 (s * 9223372036854775808)) = av .f32 (s * 2147483648) := by
  have h : s = 0 ∨ s = 1 := by omega
  rcases h with rfl | rfl
  · refine ⟨fun b hb => ?_, by decide⟩
    have := (av_some hb).1
    subst this
    decide
  · refine ⟨fun b hb => ?_, by decide⟩
    have := (av_some hb).1
    subst this
    decide

theorem implFlush_any (x : Nat) (hx : x < 4294967296) (w : World) :
    Calls Tryd.prog 36 #[.float .f32 x] w fun e w' => ∃ r n, e = .returned (.float .f32 r) ∧ Hid (av .f32 r = av .f32 (flushB x)) ∧ w' = w.drewN n := by
  cases hs : subB x
  · go_enter Tryd.func36, Tryd.ntmps36
    go_wp2_with (go_at_call 42; refine (implIsSubnormal_any x hx _).mono ?_; rintro e w' ⟨rfl, rfl⟩)
    go_ret
    refine ⟨x, 0, rfl, ?_, rfl⟩
    show _ = _
    rw [flushB, hs]; rfl
  · obtain ⟨R, hR, hlt, hsg⟩ := widen_sign x hx hs
    have HR := Lib.hid hR
    have Hs := Lib.hid hsg
    clear hR hsg
    have hz := zero_narrow (x / 2147483648 % 2) (Nat.mod_lt _ (by decide))
    have hz1 := Lib.hid hz.1
    have hz2 := Lib.hid hz.2
    clear hz
    go_enter Tryd.func36, Tryd.ntmps36
    go_wp2_with fail
    refine (implIsSubnormal_any x hx _).mono ?_
    rintro e w' ⟨rfl, rfl⟩
    go_wp2_with (first | ((with_reducible apply wpList_fconv); (show FloatKind.f32 ≠ .f64; decide); exact Tryd.underlying48; exact Tryd.underlying64; rfl; exact fits_wide _; intro r n hr) | fail)
    have e1 : R = r := (av_some (hr.out.trans HR.out)).1
    subst e1
    refine (copysign_any R hlt _).mono ?_
    rintro e w' ⟨rfl, rfl⟩
    rw [Hs.out]
    go_wp2_with (first | ((with_reducible apply wpList_fconv); (show FloatKind.f64 ≠ .f32; decide); exact Tryd.underlying64; exact Tryd.underlying48; rfl; exact hz1.out; intro r n hr) | fail)
    go_ret
    refine ⟨_, _, rfl, ?_, rfl⟩
    show _ = _
    rw [hr.out, hz2.out, flushB, hs]
    rfl

theorem bits_sign (x : Nat) (hx : x < 4294967296) : bits .and .i64 ((x : Nat) : Int) 2147483648 = ((x / 2147483648 % 2 * 2147483648 : Nat) : Int) := by
  have e := i64_and_nat x 2147483648 (by omega) (by omega)
  rw [show ((2147483648 : Nat) : Int) = 2147483648 from rfl] at e
  rw [e, and_sign]

end Go.Proofs.YtedpbidphajngaaDoor
