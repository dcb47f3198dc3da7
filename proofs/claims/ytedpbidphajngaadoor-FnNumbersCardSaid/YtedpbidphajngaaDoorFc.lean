/- Conversions between the two kinds of floats, square roots, and bits of single floats. No program is in sight. -/
import Derived.Test.YtedpbidphajngaaDoorFb
namespace Go.Proofs.YtedpbidphajngaaDoor
open Ieee Go.RowKit
open FT (Le2 Has)
set_option linter.unusedVariables false
set_option linter.unusedSimpArgs false

theorem read32_le {b : Nat} {s : Bool} {m : Nat} {p : Int} (h : FloatKind.f32.decode b = .number s m p) : Le2 m p 1 128 := by
  have e1 : single.binade = 8388608 := by decide
  have e2 : single.infRung = 2139095040 := by decide
  have e3 : single.leastPlace = -149 := by decide
  unfold FloatKind.decode FloatKind.format Format.read at h
  simp only [] at h
  rw [e1, e2, e3] at h
  generalize b % single.signWeight = r at h
  split at h
  · injection h with _ h1 h2
    subst h1; subst h2
    refine Le2.of (B := -149) (by omega) (by omega) ?_
    have h3 : (2 : Nat) ^ 23 ≤ 2 ^ ((128 : Int) - -149).toNat := Nat.pow_le_pow_right (by omega) (by decide)
    rw [show ((-149 : Int) - -149).toNat = 0 by omega, Nat.pow_zero, Nat.mul_one, Nat.one_mul]
    omega
  · split at h
    · injection h with _ h1 h2
      subst h1; subst h2
      have hr : r / 8388608 - 1 ≤ 253 := by omega
      generalize r / 8388608 - 1 = q at *
      have hm : 8388608 + r % 8388608 ≤ 2 ^ 24 := by omega
      have h4 := FT.pow_eq 24 (-149 + (q : Int))
      refine Le2.trans (fun B _ _ => Nat.mul_le_mul_right _ hm) (h4.1.mono (by omega))
    · split at h <;> cases h

theorem decode_write_notInf {k : FloatKind} {s : Bool} {m : Nat} {p e : Int} (he : Has k.format e) (h : Le2 m p 1 e) : (k.decode (k.encode (.number s m p))).isInfinity = false := by
  obtain ⟨m', p', h1, _⟩ := FT.nearest_le (neg := s) he h
  have : k.decode (k.encode (.number s m p)) = .number s m' p' := h1
  rw [this]; rfl

theorem fits_bd {src dst : FloatKind} {e : Int} {X : Option Nat} (hne : src ≠ dst) (he : Has dst.format e) (h : Bd src e X) : Fits src dst X ∧ Bd dst e (fconv src dst X) := by
  obtain ⟨b, s, m, p, rfl, d, l⟩ := h
  have hn := decode_write_notInf (k := dst) (s := s) he l
  have hv : floatToFloatBits src b dst = some (dst.encode (.number s m p)) := by
    unfold floatToFloatBits
    rw [if_neg hne, d]
    simp only [hn]
    rfl
  obtain ⟨m', p', h1, h2⟩ := FT.nearest_le (neg := s) he l
  exact ⟨fun c hc => by injection hc with hc; subst hc; rw [hv]; rfl, ⟨_, s, m', p', by simp [fconv, hv]; rfl, h1, h2⟩⟩

/-- widening never leaves the value open -/
theorem fits_wide (b : Nat) : Fits .f32 .f64 (av .f32 b) := by
  intro c hc
  obtain ⟨rfl, hn⟩ := av_some hc
  unfold floatToFloatBits
  rw [if_neg (by decide)]
  cases hd : FloatKind.f32.decode c with
  | number s m p =>
    have := decode_write_notInf (k := .f64) (s := s) (has64 (by omega) (by omega) : Has FloatKind.f64.format 128) (read32_le hd)
    simp [this]
  | infinity s => rfl
  | nan s t => rw [hd] at hn; cases hn

/-- an argument's bits, taken apart: its sign and its rung -/
theorem read32 (b : Nat) (hb : b < 4294967296) : FloatKind.f32.decode b = FT.D single (decide (2147483648 ≤ b)) (b % 2147483648) := by
  have e : b = single.word (decide (2147483648 ≤ b)) (b % 2147483648) := by
    unfold Format.word
    have e1 : single.signWeight = 2147483648 := by decide
    rw [e1]
    by_cases h : 2147483648 ≤ b
    · simp [h]; omega
    · simp [h]; omega
  show single.read b = _
  conv => lhs; rw [e]
  exact FT.read_word _ _ _ (by have e1 : single.signWeight = 2147483648 := by decide
                               rw [e1]; omega)

theorem and_mask (b m k : Nat) : b &&& (m <<< k) = ((b >>> k) &&& m) <<< k := by
  apply Nat.eq_of_testBit_eq
  intro i
  simp only [Nat.testBit_and, Nat.testBit_shiftLeft, Nat.testBit_shiftRight]
  by_cases h : k ≤ i
  · simp [h, Nat.add_sub_cancel' h]
  · simp [h]

theorem and_exp (b : Nat) : b &&& 2139095040 = (b / 8388608 % 256) * 8388608 := by
  have : (2139095040 : Nat) = (2 ^ 8 - 1) <<< 23 := by decide
  rw [this, and_mask, Nat.and_two_pow_sub_one_eq_mod, Nat.shiftLeft_eq, Nat.shiftRight_eq_div_pow]
theorem and_sign (b : Nat) : b &&& 2147483648 = (b / 2147483648 % 2) * 2147483648 := by
  show b &&& ((2 ^ 1 - 1) <<< 31) = _
  rw [and_mask, Nat.and_two_pow_sub_one_eq_mod, Nat.shiftLeft_eq, Nat.shiftRight_eq_div_pow]

/-- subnormal: not a zero, and below 2^23 rungs -/
def subB (b : Nat) : Bool := decide (b % 2147483648 ≠ 0 ∧ b % 2147483648 < 8388608)

theorem rd_zero : single.read 0 = .number false 0 (-149) := by decide
theorem rd_pos : single.read 8388608 = .number false 8388608 (-149) := by decide
theorem rd_neg : single.read 2155872256 = .number true 8388608 (-149) := by decide

theorem cmp_eq (a b : Int) : (compare a b == Ordering.eq) = decide (a = b) := by
  rcases Int.lt_trichotomy a b with h | h | h
  · rw [Int.compare_eq_lt.2 h]; simp; omega
  · subst h; simp
  · rw [Int.compare_eq_gt.2 h]; simp; omega
theorem cmp_lt (a b : Int) : (compare a b == Ordering.lt) = decide (a < b) := by
  rcases Int.lt_trichotomy a b with h | h | h
  · rw [Int.compare_eq_lt.2 h]; simp; omega
  · subst h; simp
  · rw [Int.compare_eq_gt.2 h]; simp; omega
theorem cmp_gt (a b : Int) : (compare a b == Ordering.gt) = decide (b < a) := by
  rcases Int.lt_trichotomy a b with h | h | h
  · rw [Int.compare_eq_lt.2 h]; simp; omega
  · subst h; simp
  · rw [Int.compare_eq_gt.2 h]; simp; omega

/-- how a number of either sign stands to one whose place is the least -/
theorem order_num (s : Bool) (m : Nat) (q : Nat) (t : Bool) (n : Nat) :
    Datum.order (.number s m (-149 + (q : Int))) (.number t n (-149)) = some (compare (signed s m q) (signed t n 0)) := by
  unfold Datum.order
  simp only []
  rw [show min (-149 + (q : Int)) (-149) = -149 by omega, show (-149 + (q : Int) - -149).toNat = q by omega, show ((-149 : Int) - -149).toNat = 0 by omega]

theorem order_three (b : Nat) (hb : b < 4294967296) :
    (FloatKind.f32.format.order b 0 != some .eq) = decide (b % 2147483648 ≠ 0) ∧
    (FloatKind.f32.format.order b 0 != some .eq && FloatKind.f32.format.order b 8388608 == some .lt && FloatKind.f32.format.order b 2155872256 == some .gt) = subB b := by
  have e1 : single.binade = 8388608 := by decide
  have e2 : single.infRung = 2139095040 := by decide
  have e3 : single.leastPlace = -149 := by decide
  have hd := read32 b hb
  have hr : single.read b = FT.D single (decide (2147483648 ≤ b)) (b % 2147483648) := hd
  unfold FloatKind.format Format.order subB
  simp only [rd_zero, rd_pos, rd_neg, hr]
  have hlt : b % 2147483648 < 2147483648 := Nat.mod_lt _ (by decide)
  generalize b % 2147483648 = r at *
  generalize decide (2147483648 ≤ b) = s
  unfold FT.D
  rw [e1, e2, e3]
  by_cases h1 : r < 8388608
  · rw [if_pos h1]
    have h := order_num s r 0
    simp only [Int.natCast_zero, Int.add_zero, show ((0 : Nat) : Int) = 0 from rfl] at h
    rw [h, h, h]
    simp only [Option.some_beq_some, bne, cmp_eq, cmp_lt, cmp_gt, signed, Nat.shiftLeft_eq, Nat.pow_zero, Nat.mul_one]
    constructor
    · cases s <;> (rw [Bool.eq_iff_iff]; simp <;> omega)
    · cases s <;> (rw [Bool.eq_iff_iff]; simp <;> omega)
  · rw [if_neg h1]
    by_cases h2 : r < 2139095040
    · rw [if_pos h2, order_num, order_num, order_num]
      simp only [Option.some_beq_some, bne, cmp_eq, cmp_lt, cmp_gt, signed, Nat.shiftLeft_eq, Nat.pow_zero, Nat.mul_one]
      have hk : 1 ≤ 2 ^ (r / 8388608 - 1) := Nat.one_le_two_pow
      generalize 2 ^ (r / 8388608 - 1) = K at *
      have hm : 8388608 * 1 ≤ (8388608 + r % 8388608) * K := Nat.mul_le_mul (by omega) hk
      generalize (8388608 + r % 8388608) * K = M at *
      constructor
      · cases s <;> (rw [Bool.eq_iff_iff]; simp <;> omega)
      · cases s <;> (rw [Bool.eq_iff_iff]; simp <;> omega)
    · rw [if_neg h2]
      by_cases h3 : r = 2139095040
      · rw [if_pos h3]
        constructor
        · cases s <;> (rw [Bool.eq_iff_iff]; simp [Datum.order] <;> omega)
        · cases s <;> (rw [Bool.eq_iff_iff]; simp [Datum.order] <;> omega)
      · rw [if_neg h3]
        constructor
        · rw [Bool.eq_iff_iff]; simp [Datum.order] <;> omega
        · rw [Bool.eq_iff_iff]; simp [Datum.order] <;> omega
end Go.Proofs.YtedpbidphajngaaDoor
