/- A single float made wide and narrow again is what it was: plain, no program. -/
import Derived.Test.YtedpbidphajngaaDoorFc
namespace Go.Proofs.YtedpbidphajngaaDoor
open Ieee
open FT (Le2 D lastOf keptOf Is)
set_option linter.unusedVariables false
set_option linter.unusedSimpArgs false

theorem log2_shift (m j : Nat) (hm : m ≠ 0) : (m * 2 ^ j).log2 = m.log2 + j := by
  have hp : 0 < 2 ^ j := Nat.two_pow_pos _
  have h1 := Nat.log2_self_le hm
  have h2 : m < 2 ^ (m.log2 + 1) := Nat.lt_log2_self
  refine (Nat.log2_eq_iff (Nat.mul_ne_zero hm (by omega))).2 ⟨?_, ?_⟩
  · rw [Nat.pow_add]; exact Nat.mul_le_mul_right _ h1
  · rw [show m.log2 + j + 1 = (m.log2 + 1) + j by omega, Nat.pow_add]
    exact Nat.mul_lt_mul_of_pos_right h2 hp
theorem log_same {m m' : Nat} {p p' : Int} (hm : m ≠ 0) (hm' : m' ≠ 0) (h1 : Le2 m p m' p') (h2 : Le2 m' p' m p) : p + m.log2 = p' + m'.log2 := by
  have e := Nat.le_antisymm (h1 (min p p') (by omega) (by omega)) (h2 (min p p') (by omega) (by omega))
  have e2 := congrArg Nat.log2 e
  rw [log2_shift _ _ hm, log2_shift _ _ hm'] at e2
  omega
theorem zero_same2 {m m' : Nat} {p p' : Int} (hm : m ≠ 0) (h1 : Le2 m p m' p') : m' ≠ 0 := by
  rintro rfl
  have := h1 (min p p') (by omega) (by omega)
  rw [Nat.zero_mul] at this
  have h3 : 0 < 2 ^ (p - min p p').toNat := Nat.two_pow_pos _
  have h4 : 0 < m * 2 ^ (p - min p p').toNat := Nat.mul_pos (by omega) h3
  omega
theorem keep_same {f : Format} {neg : Bool} {m K : Nat} {p : Int} (h1 : Le2 m p K (lastOf f m p)) (h2 : Le2 K (lastOf f m p) m p) : keptOf f neg m p = K :=
  Nat.le_antisymm (FT.kept_le h1) (FT.kept_ge h2)
/-- a rung of single floats that is finite, and what it stands for -/
theorem rung_back (s : Bool) (r m : Nat) (p : Int) (hr : r < 2139095040) (hd : D single s r = .number s m p) (hm : m ≠ 0) :
    lastOf single m p = p ∧ ((p - single.leastPlace).toNat * single.binade + m) = r ∧ m.log2 ≤ 23 ∧ -149 ≤ p ∧ p ≤ 104 := by
  have e1 : single.binade = 8388608 := by decide
  have e2 : single.infRung = 2139095040 := by decide
  have e3 : single.leastPlace = -149 := by decide
  have e4 : single.fractionBits = 23 := rfl
  unfold D at hd
  rw [e1, e2, e3] at hd
  unfold lastOf
  rw [e1, e3, e4]
  by_cases h1 : r < 8388608
  · rw [if_pos h1] at hd
    injection hd with _ h2 h3
    subst h2; subst h3
    have hl : r.log2 < 23 := (Nat.log2_lt hm).2 (by omega)
    refine ⟨by omega, by simp, by omega, by omega, by omega⟩
  · rw [if_neg h1, if_pos hr] at hd
    injection hd with _ h2 h3
    subst h2; subst h3
    have hl : (8388608 + r % 8388608).log2 = 23 := (Nat.log2_eq_iff hm).2 ⟨by omega, by omega⟩
    rw [hl]
    have h5 : 1 ≤ r / 8388608 := by omega
    refine ⟨by omega, ?_, by omega, by omega, by omega⟩
    have h6 : (-149 + ((r / 8388608 - 1 : Nat) : Int) - -149).toNat = r / 8388608 - 1 := by omega
    rw [h6]
    omega
theorem narrow_wide (x : Nat) (hx : x < 4294967296) : fconv .f64 .f32 (fconv .f32 .f64 (av .f32 x)) = av .f32 x := by
  have hw : x = single.word (decide (2147483648 ≤ x)) (x % 2147483648) := by
    unfold Format.word
    have e1 : single.signWeight = 2147483648 := by decide
    rw [e1]
    by_cases h : 2147483648 ≤ x
    · simp [h]; omega
    · simp [h]; omega
  have hrd := read32 x hx
  cases hd : FloatKind.f32.decode x with
  | nan s t => rw [show av .f32 x = none by simp [av, hd, Datum.isNaN]]; rfl
  | infinity s =>
    rw [hd] at hrd
    have hr : x % 2147483648 = 2139095040 := by
      have e1 : single.binade = 8388608 := by decide
      have e2 : single.infRung = 2139095040 := by decide
      unfold D at hrd
      rw [e1, e2] at hrd
      split at hrd
      · cases hrd
      · split at hrd
        · cases hrd
        · split at hrd
          · assumption
          · cases hrd
    have hx2 : x = 2139095040 ∨ x = 4286578688 := by omega
    rcases hx2 with rfl | rfl <;> decide
  | number s m p =>
    have hav : av .f32 x = some x := av_of_not (by rw [hd]; rfl)
    rw [hd] at hrd
    have hr : x % 2147483648 < 2139095040 ∧ s = decide (2147483648 ≤ x) := by
      have e1 : single.binade = 8388608 := by decide
      have e2 : single.infRung = 2139095040 := by decide
      unfold D at hrd
      rw [e1, e2] at hrd
      split at hrd
      · rename_i h; injection hrd with h2; exact ⟨by omega, h2⟩
      · split at hrd
        · rename_i h; injection hrd with h2; exact ⟨h, h2⟩
        · split at hrd <;> cases hrd
    obtain ⟨hr, hs⟩ := hr
    rw [← hs] at hrd hw
    by_cases hm : m = 0
    · subst hm
      have h0 : x % 2147483648 = 0 := by
        have e1 : single.binade = 8388608 := by decide
        have e2 : single.infRung = 2139095040 := by decide
        unfold D at hrd
        rw [e1, e2] at hrd
        split at hrd
        · injection hrd with _ h2; exact h2.symm
        · injection hrd with _ h2
          omega
      have hx2 : x = 0 ∨ x = 2147483648 := by omega
      rcases hx2 with rfl | rfl <;> decide
    · obtain ⟨hl, hrung, hlog, hp1, hp2⟩ := rung_back s _ m p hr hrd.symm hm
      -- wide
      have hl64 : lastOf double m p ≤ p := by
        have e3 : double.leastPlace = -1074 := by decide
        have e4 : double.fractionBits = 52 := rfl
        unfold lastOf
        rw [e3, e4]; omega
      have hv1 : Le2 m p (m * 2 ^ (p - lastOf double m p).toNat) (lastOf double m p) := Le2.of (B := lastOf double m p) hl64 (Int.le_refl _) (by rw [Int.sub_self]; simp)
      have hv2 : Le2 (m * 2 ^ (p - lastOf double m p).toNat) (lastOf double m p) m p := Le2.of (B := lastOf double m p) (Int.le_refl _) hl64 (by rw [Int.sub_self]; simp)
      have hk := keep_same (f := double) (neg := s) hv1 hv2
      have hfin := decode_write_notInf (k := .f64) (s := s) (has64 (by omega) (by omega) : FT.Has FloatKind.f64.format 128) (read32_le hd)
      have hy1 : fconv .f32 .f64 (av .f32 x) = some (FloatKind.f64.encode (.number s m p)) := by
        rw [hav]
        show floatToFloatBits .f32 x .f64 = _
        unfold floatToFloatBits
        rw [if_neg (by decide), hd]
        simp only [hfin]
        rfl
      have hlt : (lastOf double m p - double.leastPlace).toNat * double.binade + keptOf double s m p < double.infRung := by
        have e1 : double.binade = 4503599627370496 := by decide
        have e2 : double.infRung = 9218868437227405312 := by decide
        have e3 : double.leastPlace = -1074 := by decide
        have ht := FT.kept_top double s m p
        rw [e1] at ht
        rw [e1, e2, e3]
        have h3 : (lastOf double m p - -1074).toNat ≤ 1200 := by omega
        have h4 : (lastOf double m p - -1074).toNat * 4503599627370496 ≤ 1200 * 4503599627370496 := Nat.mul_le_mul_right _ h3
        omega
      obtain ⟨m', p', hy2, hy3, hy4⟩ := FT.nearest_is double s m hm p hlt
      rw [hk] at hy3 hy4
      have i1 : Le2 m p m' p' := hv1.trans hy4
      have i2 : Le2 m' p' m p := hy3.trans hv2
      have hm' := zero_same2 hm i1
      -- narrow
      have hlog2 := log_same hm hm' i1 i2
      have hl32 : lastOf single m' p' = p := by
        unfold lastOf at hl ⊢
        rw [← hlog2]; exact hl
      have hk32 : keptOf single s m' p' = m := keep_same (by rw [hl32]; exact i2) (by rw [hl32]; exact i1)
      have hz : single.nearest s m' p' = x := by
        have e2 : single.infRung = 2139095040 := by decide
        rw [FT.nearest_eq single s m' hm' p', hl32, hk32, hrung, Nat.min_eq_left (by omega)]
        exact hw.symm
      rw [hy1, hav]
      show floatToFloatBits .f64 (FloatKind.f64.encode (.number s m p)) .f32 = some x
      have hdy : FloatKind.f64.decode (FloatKind.f64.encode (.number s m p)) = .number s m' p' := hy2
      have henc : FloatKind.f32.encode (.number s m' p') = x := hz
      unfold floatToFloatBits
      rw [if_neg (by decide), hdy]
      simp only [henc, hd]
      rfl
theorem fconv_bnd {X : Option Nat} {c : Nat} (h : fconv .f64 .f32 X = some c) : c < 4294967296 := by
  cases X with
  | none => cases h
  | some b =>
    have h : floatToFloatBits .f64 b .f32 = some c := h
    unfold floatToFloatBits at h
    rw [if_neg (by decide)] at h
    split at h
    · cases h
    · injection h with h
      subst h
      exact Format.write_lt single _
    · split at h
      · cases h
      · injection h with h
        subst h
        exact Format.write_lt single _
end Go.Proofs.YtedpbidphajngaaDoor
