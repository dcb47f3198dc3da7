/- Whole parts of floats: cutting towards zero, and to an integer and back, are one; what is left is at most 1. No program is in sight. -/
import Derived.Test.YtedpbidphajngaaDoorRt
namespace Go.Proofs.YtedpbidphajngaaDoor
open Ieee Go.RowKit
open FT (Le2 Has)
set_option linter.unusedVariables false
set_option linter.unusedSimpArgs false

theorem zero_cut (neg : Bool) (n drop : Nat) : Toward.zero.cut neg n drop = n / 2 ^ drop := by
  unfold Toward.cut
  dsimp only
  rw [Nat.shiftLeft_eq, Nat.one_mul]
  simp only [Bool.toNat_false, Nat.add_zero]
  rcases Nat.lt_or_ge (n.log2 + 2) drop with h | h
  · rw [Nat.min_eq_right (by omega)]
    have hlt : n < 2 ^ (n.log2 + 1) := Nat.lt_log2_self
    have h1 : 2 ^ (n.log2 + 1) ≤ 2 ^ (n.log2 + 2) := Nat.pow_le_pow_right (by omega) (by omega)
    have h2 : 2 ^ (n.log2 + 1) ≤ 2 ^ drop := Nat.pow_le_pow_right (by omega) (by omega)
    rw [Nat.div_eq_of_lt (by omega), Nat.div_eq_of_lt (by omega)]
  · rw [Nat.min_eq_left h]

/-- the whole part of a number, without its sign -/
def wholeN (m : Nat) (p : Int) : Nat := (m <<< p.toNat) / 2 ^ (-p).toNat
theorem integral_zero (s : Bool) (m : Nat) (p : Int) : (Datum.number s m p).integral .zero = .number s (wholeN m p) 0 := by
  show Datum.number s (Toward.zero.cut s (m <<< p.toNat) (-p).toNat) 0 = _
  rw [zero_cut]
  rfl
theorem toInt_zero (s : Bool) (m : Nat) (p : Int) : (Datum.number s m p).toInt .zero = some (signed s (wholeN m p) 0) := by
  unfold Datum.toInt
  rw [integral_zero]
theorem whole_low (m : Nat) (p : Int) : Le2 (wholeN m p) 0 m p := by
  unfold wholeN
  rw [Nat.shiftLeft_eq]
  rcases Int.le_total 0 p with h | h
  · refine Le2.of (B := 0) (Int.le_refl _) h ?_
    rw [show (-p).toNat = 0 by omega, show ((0 : Int) - 0).toNat = 0 by omega, show (p - 0).toNat = p.toNat by omega]
    simp
  · refine Le2.of (B := p) h (Int.le_refl _) ?_
    rw [show p.toNat = 0 by omega, show (p - p).toNat = 0 by omega, show ((0 : Int) - p).toNat = (-p).toNat by omega, Nat.pow_zero, Nat.mul_one]
    exact Nat.div_mul_le_self _ _
theorem whole_high (m : Nat) (p : Int) : ∀ B : Int, B ≤ p → B ≤ 0 → m * 2 ^ (p - B).toNat ≤ wholeN m p * 2 ^ (0 - B).toNat + 2 ^ (0 - B).toNat := by
  intro B hp h0
  unfold wholeN
  rw [Nat.shiftLeft_eq]
  rcases Int.le_total 0 p with h | h
  · rw [show (-p).toNat = 0 by omega, Nat.pow_zero, Nat.div_one, show (p - B).toNat = p.toNat + (0 - B).toNat by omega, Nat.pow_add, ← Nat.mul_assoc]
    exact Nat.le_add_right _ _
  · rw [show p.toNat = 0 by omega, Nat.pow_zero, Nat.mul_one, show (0 - B).toNat = (-p).toNat + (p - B).toNat by omega, Nat.pow_add]
    generalize (p - B).toNat = d
    have hk : 0 < 2 ^ (-p).toNat := Nat.two_pow_pos _
    have h1 : m < (m / 2 ^ (-p).toNat + 1) * 2 ^ (-p).toNat := by
      rw [Nat.mul_comm]
      exact Nat.lt_mul_div_succ m hk
    generalize 2 ^ (-p).toNat = K at *
    generalize m / K = q at *
    have h2 := Nat.mul_le_mul_right (2 ^ d) (Nat.le_of_lt h1)
    rw [Nat.add_mul, Nat.one_mul, Nat.add_mul, Nat.mul_assoc] at h2
    exact h2

/-- a small whole number is exact -/
theorem exact64 (s : Bool) (n : Nat) (h0 : n ≠ 0) (h : n < 2 ^ 53) : ∃ m' p', FloatKind.f64.decode (FloatKind.f64.encode (.number s n 0)) = .number s m' p' ∧ Le2 m' p' n 0 ∧ Le2 n 0 m' p' := by
  have e1 : FloatKind.f64.format.leastPlace = -1074 := by decide
  have e2 : FloatKind.f64.format.fractionBits = 52 := rfl
  have hlog : n.log2 < 53 := (Nat.log2_lt h0).2 h
  have hlast : FT.lastOf FloatKind.f64.format n 0 = (n.log2 : Int) - 52 := by unfold FT.lastOf; rw [e1, e2]; omega
  obtain ⟨j, hj⟩ : ∃ j : Nat, (n.log2 : Int) - 52 = -(j : Int) := ⟨52 - n.log2, by omega⟩
  have hk : FT.keptOf FloatKind.f64.format s n 0 = n * 2 ^ j := by
    have a : Le2 n 0 (n * 2 ^ j) (-(j : Int)) ∧ Le2 (n * 2 ^ j) (-(j : Int)) n 0 := by
      constructor
      · refine Le2.of (B := -(j : Int)) (by omega) (Int.le_refl _) ?_
        rw [show (0 - -(j : Int)).toNat = j by omega, show (-(j : Int) - -(j : Int)).toNat = 0 by omega]; simp
      · refine Le2.of (B := -(j : Int)) (Int.le_refl _) (by omega) ?_
        rw [show (0 - -(j : Int)).toNat = j by omega, show (-(j : Int) - -(j : Int)).toNat = 0 by omega]; simp
    have h1 : FT.keptOf FloatKind.f64.format s n 0 ≤ n * 2 ^ j := FT.kept_le (by rw [hlast, hj]; exact a.1)
    have h2 : n * 2 ^ j ≤ FT.keptOf FloatKind.f64.format s n 0 := FT.kept_ge (by rw [hlast, hj]; exact a.2)
    omega
  have hlt : (FT.lastOf FloatKind.f64.format n 0 - FloatKind.f64.format.leastPlace).toNat * FloatKind.f64.format.binade + FT.keptOf FloatKind.f64.format s n 0 < FloatKind.f64.format.infRung := by
    have ht := FT.kept_top FloatKind.f64.format s n 0
    have b1 : FloatKind.f64.format.binade = 4503599627370496 := by decide
    have b2 : FloatKind.f64.format.infRung = 9218868437227405312 := by decide
    rw [hlast, e1, b2]
    rw [b1] at ht ⊢
    omega
  obtain ⟨m', p', f1, f2, f3⟩ := FT.nearest_is FloatKind.f64.format s n h0 0 hlt
  rw [hk, hlast, hj] at f2 f3
  have a : Le2 n 0 (n * 2 ^ j) (-(j : Int)) ∧ Le2 (n * 2 ^ j) (-(j : Int)) n 0 := by
    constructor
    · refine Le2.of (B := -(j : Int)) (by omega) (Int.le_refl _) ?_
      rw [show (0 - -(j : Int)).toNat = j by omega, show (-(j : Int) - -(j : Int)).toNat = 0 by omega]; simp
    · refine Le2.of (B := -(j : Int)) (Int.le_refl _) (by omega) ?_
      rw [show (0 - -(j : Int)).toNat = j by omega, show (-(j : Int) - -(j : Int)).toNat = 0 by omega]; simp
  exact ⟨m', p', f1, f2.trans a.2, a.1.trans f3⟩
theorem exact64_zero (s : Bool) : FloatKind.f64.decode (FloatKind.f64.encode (.number s 0 0)) = .number s 0 (-1074) := by cases s <;> decide

/-- the whole part, as a float: a zero has no sign -/
def wholeF (s : Bool) (m : Nat) (p : Int) : Nat := FloatKind.f64.nearest (signed s (wholeN m p) 0)
theorem wholeF_zero {s : Bool} {m : Nat} {p : Int} (h : wholeN m p = 0) : wholeF s m p = 0 := by
  unfold wholeF; rw [h]; cases s <;> decide
theorem wholeF_of {s : Bool} {m : Nat} {p : Int} (h : wholeN m p ≠ 0) : wholeF s m p = FloatKind.f64.encode (.number s (wholeN m p) 0) := by
  unfold wholeF FloatKind.nearest signed
  generalize wholeN m p = t at *
  cases s
  · have e : decide (((t <<< 0 : Nat) : Int) < 0) = false := decide_eq_false (by omega)
    simp only [Bool.false_eq_true, if_false, e]
    rfl
  · have e : decide (-((t <<< 0 : Nat) : Int) < 0) = true := decide_eq_true (by simp only [Nat.shiftLeft_eq]; omega)
    simp only [if_true, e]
    rw [Int.natAbs_neg]
    rfl

/-- how small: below 2^52 -/
def Low (m : Nat) (p : Int) : Prop := Le2 m p 1 52
theorem whole_lt {m : Nat} {p : Int} (h : Low m p) : wholeN m p ≤ 2 ^ 52 := by
  have := ((whole_low m p).trans h) 0 (by omega) (by omega)
  simpa using this

theorem sub_decode {x y : Nat} {s t : Bool} {m n : Nat} {i j : Int} (dx : FloatKind.f64.decode x = .number s m i) (dy : FloatKind.f64.decode y = .number t n j) :
    fop .sub .f64 (some x) (some y) = some (FloatKind.f64.format.write (.number (if signed s m (i - min i j).toNat + signed (!t) n (j - min i j).toNat = 0 then s && (!t) else decide (signed s m (i - min i j).toNat + signed (!t) n (j - min i j).toNat < 0)) (signed s m (i - min i j).toNat + signed (!t) n (j - min i j).toNat).natAbs (min i j))) := by
  unfold FloatKind.decode at dx dy
  simp [fop, floatBits, Format.sub, dx, dy, Datum.sum, Datum.opposite]

/-- what is left of a number less its whole part is at most 1 -/
theorem rest_bd {x : Nat} {s : Bool} {m : Nat} {p : Int} (dx : FloatKind.f64.decode x = .number s m p) (h : Low m p) : Bd .f64 0 (fop .sub .f64 (some x) (some (wholeF s m p))) := by
  have hlt := whole_lt h
  have hd : ∃ m' p' t, FloatKind.f64.decode (wholeF s m p) = .number t m' p' ∧ (t = s ∨ m' = 0) ∧ Le2 m' p' (wholeN m p) 0 ∧ Le2 (wholeN m p) 0 m' p' := by
    by_cases h0 : wholeN m p = 0
    · refine ⟨0, -1074, false, ?_, .inr rfl, Le2.zero _ _ _, ?_⟩
      · rw [wholeF_zero h0]; decide
      · rw [h0]; exact Le2.zero _ _ _
    · rw [wholeF_of h0]
      obtain ⟨m', p', d1, d2, d3⟩ := exact64 s _ h0 (show wholeN m p < 2 ^ 53 by omega)
      exact ⟨m', p', s, d1, .inl rfl, d2, d3⟩
  obtain ⟨m', p', t, d1, hst, d2, d3⟩ := hd
  rw [sub_decode dx d1]
  have hle : Le2 (signed s m (p - min p p').toNat + signed (!t) m' (p' - min p p').toNat).natAbs (min p p') 1 0 := by
    obtain ⟨B, hB1, hB2, hB3⟩ : ∃ B : Int, B ≤ p ∧ B ≤ p' ∧ B ≤ 0 := ⟨min (min p p') 0, by omega, by omega, by omega⟩
    refine Le2.of (B := B) (by omega) hB3 ?_
    have w1 := (d2.trans (whole_low m p)) B hB2 hB1
    have w2 := whole_high m p B hB1 hB3
    have w3 := d3 B hB3 hB2
    have e1 : (p - B).toNat = (p - min p p').toNat + (min p p' - B).toNat := by omega
    have e2 : (p' - B).toNat = (p' - min p p').toNat + (min p p' - B).toNat := by omega
    rw [e1, Nat.pow_add, ← Nat.mul_assoc] at w1 w2
    rw [e2, Nat.pow_add, ← Nat.mul_assoc] at w1 w3
    have hn : (signed s m (p - min p p').toNat + signed (!t) m' (p' - min p p').toNat).natAbs = m * 2 ^ (p - min p p').toNat - m' * 2 ^ (p' - min p p').toNat := by
      have hpos : 0 < 2 ^ (min p p' - B).toNat := Nat.two_pow_pos _
      have w4 : m' * 2 ^ (p' - min p p').toNat ≤ m * 2 ^ (p - min p p').toNat := Nat.le_of_mul_le_mul_right w1 hpos
      simp only [signed, Nat.shiftLeft_eq]
      have hQ : t = s ∨ m' * 2 ^ (p' - min p p').toNat = 0 := hst.imp id fun h => by rw [h, Nat.zero_mul]
      clear hst w1 w2 w3 d1 d2 d3
      generalize m * 2 ^ (p - min p p').toNat = P at *
      generalize m' * 2 ^ (p' - min p p').toNat = Q at *
      rcases hQ with rfl | rfl
      · cases t <;> simp <;> omega
      · cases s <;> cases t <;> simp
    rw [hn, Nat.sub_mul, Nat.one_mul]
    omega
  obtain ⟨m1, p1, h1, h2⟩ := write_bd (k := .f64) (s := if signed s m (p - min p p').toNat + signed (!t) m' (p' - min p p').toNat = 0 then s && (!t) else decide (signed s m (p - min p p').toNat + signed (!t) m' (p' - min p p').toNat < 0)) (has64 (by omega) (by omega)) hle
  exact ⟨_, _, m1, p1, rfl, h1, h2⟩

/-- to an integer -/
theorem toInt_val {x : Nat} {s : Bool} {m : Nat} {p : Int} (dx : FloatKind.f64.decode x = .number s m p) (h : Low m p) : floatToIntVal .f64 x .i64 = some (signed s (wholeN m p) 0) := by
  have hlt := whole_lt h
  unfold floatToIntVal
  rw [dx, toInt_zero]
  simp only
  have e1 : IntKind.i64.min = -9223372036854775808 := by decide
  have e2 : IntKind.i64.max = 9223372036854775807 := by decide
  rw [if_pos]
  rw [e1, e2]
  simp only [signed, Nat.shiftLeft_eq, Nat.pow_zero, Nat.mul_one]
  split <;> omega
/-- the whole part, compared with zero -/
theorem trunc_zero {s : Bool} {m : Nat} {p : Int} (h : Low m p) : (FloatKind.f64.format.order (FloatKind.f64.encode (.number s (wholeN m p) 0)) 0 == some .eq) = decide (wholeN m p = 0) := by
  have hz : FloatKind.f64.format.read 0 = .number false 0 (-1074) := by decide
  have hlt := whole_lt h
  unfold Format.order
  rw [hz]
  by_cases h0 : wholeN m p = 0
  · rw [h0]
    have := exact64_zero s
    unfold FloatKind.decode at this
    rw [this]
    cases s <;> simp [Datum.order, signed]
  · obtain ⟨m', p', d1, d2, d3⟩ := exact64 s _ h0 (show wholeN m p < 2 ^ 53 by omega)
    unfold FloatKind.decode at d1
    rw [d1]
    have hm : m' ≠ 0 := by
      rintro rfl
      have := d3 (min 0 p') (by omega) (by omega)
      rw [Nat.zero_mul] at this
      have := Nat.two_pow_pos (0 - min 0 p').toNat
      have := Nat.mul_pos (Nat.pos_of_ne_zero h0) this
      omega
    unfold Datum.order
    simp only [Option.some_beq_some, cmp_eq, h0, signed, Nat.shiftLeft_eq, Nat.zero_mul]
    have := Nat.mul_pos (Nat.pos_of_ne_zero hm) (Nat.two_pow_pos (p' - min p' (-1074)).toNat)
    generalize m' * 2 ^ (p' - min p' (-1074)).toNat = P at *
    cases s <;> simp <;> omega
end Go.Proofs.YtedpbidphajngaaDoor
