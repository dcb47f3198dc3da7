/- Laws of single floats: subnormal, from bits, flushed. -/
import Derived.Test.YtedpbidphajngaaDoorA2
namespace Go.Proofs.YtedpbidphajngaaDoor
open Go.RowKit
set_option linter.unusedVariables false
set_option linter.unusedSimpArgs false

theorem run_f32frombits (n : Int) (w : World) : (callFunc 69 #[.int .u32 n]).run Tryd.prog w = .ok (.value (.float .f32 n.toNat)) w := by kernel_rfl
theorem run_f64bits (x : Nat) (w : World) : (callFunc 97 #[.float .f64 x]).run Tryd.prog w = .ok (.value (.int .u64 x)) w := by kernel_rfl
theorem run_f64frombits (n : Int) (w : World) : (callFunc 96 #[.int .u64 n]).run Tryd.prog w = .ok (.value (.float .f64 n.toNat)) w := by kernel_rfl
attribute [local go_sem] run_f32bits run_f32frombits run_f64bits run_f64frombits

theorem ofInt_i64 (a : Nat) (ha : a < 9223372036854775808) : (BitVec.ofInt 64 (a : Int)).toNat = a := by
  rw [BitVec.ofInt_natCast, BitVec.toNat_ofNat]; exact Nat.mod_eq_of_lt (by omega)
theorem i64_and_nat (a b : Nat) (ha : a < 9223372036854775808) (hb : b < 9223372036854775808) : bits .and .i64 (a : Int) (b : Int) = ((a &&& b : Nat) : Int) := by
  have hx : a &&& b < 2 ^ 63 := Nat.and_lt_two_pow _ (by omega)
  show IntKind.i64.wrap ((BitVec.ofInt 64 (a : Int) &&& BitVec.ofInt 64 (b : Int)).toNat : Int) = _
  rw [BitVec.toNat_and, ofInt_i64 a ha, ofInt_i64 b hb, IntKind.wrap_i64]
  omega

theorem implIsSubnormal_any (x : Nat) (hx : x < 4294967296) (w : World) :
    Calls Tryd.prog 42 #[.float .f32 x] w fun e w' => e = .returned (.bool (subB x)) ∧ w = w' := by
  have H := Lib.hid (order_three x hx).2
  go_enter Tryd.func42, Tryd.ntmps42
  go_wp2
  all_goals
    go_ret
    refine ⟨?_, rfl⟩
    rw [← H.out]
    simp [*]

theorem and_zero (x : Nat) (hx : x < 4294967296) : ((((x &&& 2139095040 : Nat) : Int)) == 0) = decide (x % 2147483648 < 8388608) := by
  rw [and_exp, Bool.eq_iff_iff]
  simp only [beq_iff_eq, decide_eq_true_eq]
  omega

theorem bits_mask (x : Nat) (hx : x < 4294967296) (h : (FloatKind.f32.format.order x 0 != some .eq) = true) :
    (bits .and .i64 (bitsA (av .f32 x)) 2139095040 == 0) = decide (x % 2147483648 < 8388608) := by
  cases ha : av .f32 x with
  | none =>
    have e : bits .and .i64 2143289344 2139095040 = 2139095040 := by decide
    have hn : (FloatKind.f32.decode x).isNaN = true := by
      unfold av at ha
      split at ha
      · assumption
      · cases ha
    rw [read32 x hx] at hn
    have hr : ¬ x % 2147483648 < 8388608 := by
      intro hl
      rw [FT.D_notNaN _ _ _ (by have e2 : Ieee.single.infRung = 2139095040 := by decide
                                rw [e2]; omega)] at hn
      cases hn
    simp only [bitsA, e, hr, decide_false]
    decide
  | some b =>
    have e1 := (av_some ha).1
    subst e1
    have e := i64_and_nat b 2139095040 (by omega) (by omega)
    simp only [bitsA]
    rw [show ((2139095040 : Nat) : Int) = 2139095040 from rfl] at e
    rw [e, and_zero b hx]

theorem implFromBits_in (n : Int) (h0 : 0 ≤ n) (h1 : n ≤ 4294967295) (w : World) :
    Calls Tryd.prog 34 #[.int .i64 n] w fun e w' => e = .returned (.tuple #[.float .f32 n.toNat, .bool true]) ∧ w = w' := by
  have hm := Lib.hid (show (n % 4294967296) = n by omega)
  go_enter Tryd.func34, Tryd.ntmps34
  go_wp2
  go_ret2
  exact ⟨by simp [hm.out], rfl⟩
theorem implFromBits_out (n : Int) (h : n < 0 ∨ 4294967295 < n) (w : World) :
    Calls Tryd.prog 34 #[.int .i64 n] w fun e w' => e = .returned (.tuple #[.float .f32 0, .bool false]) ∧ w = w' := by
  rcases h with h | h
  · go_enter Tryd.func34, Tryd.ntmps34
    go_wp2
    go_ret2
    exact ⟨rfl, rfl⟩
  · have h0 : 0 ≤ n := by omega
    have h1 : decide (n ≤ 4294967295) = false := decide_eq_false (by omega)
    go_enter Tryd.func34, Tryd.ntmps34
    go_wp2
    all_goals go_ret2
    all_goals exact ⟨rfl, rfl⟩
end Go.Proofs.YtedpbidphajngaaDoor
