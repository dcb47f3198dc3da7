/- Laws of single floats: subnormal, from bits, flushed. -/
import Derived.Test.YtdbpkkbijpppfaaA2
namespace Go.Proofs.Ytdbpkkbijpppfaa
open Go.RowKit
set_option linter.unusedVariables false
set_option linter.unusedSimpArgs false

theorem run_f32frombits (n : Int) (w : World) : (callFunc 62 #[.int .u32 n]).run Try.prog w = .ok (.value (.float .f32 n.toNat)) w := by kernel_rfl
theorem run_f64bits (x : Nat) (w : World) : (callFunc 83 #[.float .f64 x]).run Try.prog w = .ok (.value (.int .u64 x)) w := by kernel_rfl
theorem run_f64frombits (n : Int) (w : World) : (callFunc 82 #[.int .u64 n]).run Try.prog w = .ok (.value (.float .f64 n.toNat)) w := by kernel_rfl
attribute [local go_sem] run_f32bits run_f32frombits run_f64bits run_f64frombits

theorem ofInt_i64 (a : Nat) (ha : a < 9223372036854775808) : (BitVec.ofInt 64 (a : Int)).toNat = a := by
  rw [BitVec.ofInt_natCast, BitVec.toNat_ofNat]; exact Nat.mod_eq_of_lt (by omega)
theorem i64_and_nat (a b : Nat) (ha : a < 9223372036854775808) (hb : b < 9223372036854775808) : bits .and .i64 (a : Int) (b : Int) = ((a &&& b : Nat) : Int) := by
  have hx : a &&& b < 2 ^ 63 := Nat.and_lt_two_pow _ (by omega)
  show IntKind.i64.wrap ((BitVec.ofInt 64 (a : Int) &&& BitVec.ofInt 64 (b : Int)).toNat : Int) = _
  rw [BitVec.toNat_and, ofInt_i64 a ha, ofInt_i64 b hb, IntKind.wrap_i64]
  omega

theorem implIsSubnormal_any (x : Nat) (hx : x < 4294967296) (w : World) :
    Calls Try.prog 22 #[.float .f32 x] w fun e w' => e = .returned (.bool (subB x)) ∧ w = w' := by
  have H := Lib.hid (order_three x hx).2
  go_enter Try.func22, Try.ntmps22
  go_wp2
  all_goals
    go_ret
    refine ⟨?_, rfl⟩
    rw [← H.out]
    simp [*]

theorem and_zero (x : Nat) (hx : x < 4294967296) : ((((x &&& 2139095040 : Nat) : Int)) == 0) = decide (x % 2147483648 < 8388608) := by
  rw [and_exp, Bool.eq_iff_iff]
  simp only [beq_iff_eq, decide_eq_true_eq]
  omega

theorem bits_mask (x : Nat) (hx : x < 4294967296) (h : (FloatKind.f32.format.order x 0 != some .eq) = true) :
    (bits .and .i64 (bitsA (av .f32 x)) 2139095040 == 0) = decide (x % 2147483648 < 8388608) := by
  cases ha : av .f32 x with
  | none =>
    have e : bits .and .i64 2143289344 2139095040 = 2139095040 := by decide
    have hn : (FloatKind.f32.decode x).isNaN = true := by
      unfold av at ha
      split at ha
      · assumption
      · cases ha
    rw [read32 x hx] at hn
    have hr : ¬ x % 2147483648 < 8388608 := by
      intro hl
      rw [FT.D_notNaN _ _ _ (by have e2 : Ieee.single.infRung = 2139095040 := by decide
                                rw [e2]; omega)] at hn
      cases hn
    simp only [bitsA, e, hr, decide_false]
    decide
  | some b =>
    have e1 := (av_some ha).1
    subst e1
    have e := i64_and_nat b 2139095040 (by omega) (by omega)
    simp only [bitsA]
    rw [show ((2139095040 : Nat) : Int) = 2139095040 from rfl] at e
    rw [e, and_zero b hx]

theorem specIsSubnormal_any (x : Nat) (hx : x < 4294967296) (w : World) :
    Calls Try.prog 21 #[.float .f32 x] w fun e w' => e = .returned (.bool (subB x)) ∧ w = w' := by
  have H := Lib.hid (order_three x hx).1
  have H2 := Lib.hid (bits_mask x hx)
  go_enter Try.func21, Try.ntmps21
  go_wp2_with (go_at_call 54; refine (specl01Bits_any x hx _).mono ?_; rintro e w' ⟨rfl, rfl⟩)
  · go_ret
    refine ⟨?_, rfl⟩
    rename_i h
    have h1 := H.out
    rw [h] at h1
    have h2 : subB x = false := by
      unfold subB
      simp at h1 ⊢
      omega
    rw [h2]; rfl
  · go_ret
    refine ⟨?_, rfl⟩
    rename_i h
    have h1 := H.out
    have h0 : (FloatKind.f32.format.order x 0 != some .eq) = true := by simpa using h
    have h2 := H2.out h0
    rw [h0] at h1
    have h3 : subB x = decide (x % 2147483648 < 8388608) := by
      unfold subB
      simp at h1
      rw [Bool.eq_iff_iff]
      simp
      omega
    rw [h3, ← h2]
    simp [h0]
theorem lawIsSubnormal (x : Nat) (hx : (Lit.float .f32 x).wf = true) (w : World) :
    Calls Try.prog 5 #[.float .f32 x] w fun e w' => e = .returned (.bool true) ∧ Below w.heap.size w w' := by
  have hb := wf32 hx
  go_enter Try.func5, Try.ntmps5
  go_wp2_with (first | (go_at_call 21; refine (specIsSubnormal_any _ hb _).mono ?_; rintro e w' ⟨rfl, rfl⟩) | (go_at_call 22; refine (implIsSubnormal_any _ hb _).mono ?_; rintro e w' ⟨rfl, rfl⟩))
  go_ret
  exact ⟨rfl, Below.refl _ _⟩

theorem implFromBits_in (n : Int) (h0 : 0 ≤ n) (h1 : n ≤ 4294967295) (w : World) :
    Calls Try.prog 32 #[.int .i64 n] w fun e w' => e = .returned (.tuple #[.float .f32 n.toNat, .bool true]) ∧ w = w' := by
  have hm := Lib.hid (show (n % 4294967296) = n by omega)
  go_enter Try.func32, Try.ntmps32
  go_wp2
  go_ret2
  exact ⟨by simp [hm.out], rfl⟩
theorem implFromBits_out (n : Int) (h : n < 0 ∨ 4294967295 < n) (w : World) :
    Calls Try.prog 32 #[.int .i64 n] w fun e w' => e = .returned (.tuple #[.float .f32 0, .bool false]) ∧ w = w' := by
  rcases h with h | h
  · go_enter Try.func32, Try.ntmps32
    go_wp2
    go_ret2
    exact ⟨rfl, rfl⟩
  · have h0 : 0 ≤ n := by omega
    have h1 : decide (n ≤ 4294967295) = false := decide_eq_false (by omega)
    go_enter Try.func32, Try.ntmps32
    go_wp2
    all_goals go_ret2
    all_goals exact ⟨rfl, rfl⟩
theorem specFromBits_in (n : Int) (h0 : 0 ≤ n) (h1 : n ≤ 4294967295) (w : World) :
    Calls Try.prog 31 #[.int .i64 n] w fun e w' => e = .returned (.tuple #[.float .f32 n.toNat, .bool true]) ∧ w = w' := by
  have hm := Lib.hid (show (n % 4294967296) = n by omega)
  go_enter Try.func31, Try.ntmps31
  go_wp2
  go_ret2
  exact ⟨by simp [hm.out], rfl⟩
theorem specFromBits_out (n : Int) (h : n < 0 ∨ 4294967295 < n) (w : World) :
    Calls Try.prog 31 #[.int .i64 n] w fun e w' => e = .returned (.tuple #[.float .f32 0, .bool false]) ∧ w = w' := by
  rcases h with h | h
  · go_enter Try.func31, Try.ntmps31
    go_wp2
    go_ret2
    exact ⟨rfl, rfl⟩
  · have h0 : 0 ≤ n := by omega
    have h1 : decide (n ≤ 4294967295) = false := decide_eq_false (by omega)
    go_enter Try.func31, Try.ntmps31
    go_wp2
    all_goals go_ret2
    all_goals exact ⟨rfl, rfl⟩
end Go.Proofs.Ytdbpkkbijpppfaa
