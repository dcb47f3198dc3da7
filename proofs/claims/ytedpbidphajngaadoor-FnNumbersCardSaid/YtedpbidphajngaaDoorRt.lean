/- Square roots, whole parts, quotients: bounds that keep a conversion from being left open. No program is in sight. -/
import Derived.Test.YtedpbidphajngaaDoorFc
namespace Go.Proofs.YtedpbidphajngaaDoor
open Ieee Go.RowKit
open FT (Le2 Has)
set_option linter.unusedVariables false
set_option linter.unusedSimpArgs false

theorem rootFrom_sq (n : Nat) : ∀ (todo root : Nat), root * root ≤ n → Datum.rootFrom n todo root * Datum.rootFrom n todo root ≤ n
  | 0, root, h => h
  | todo + 1, root, h => by
    unfold Datum.rootFrom
    dsimp only
    split
    · rename_i hl
      exact rootFrom_sq n todo _ hl
    · exact rootFrom_sq n todo _ h

theorem root_le {m whole bit more : Nat} {i a : Int} (hm : m ≠ 0) (hev : (i - (more : Int)) % 2 = 0) (hw : whole * whole ≤ m * 2 ^ more) (hb : bit ≤ 1) (h : Le2 m i 1 (2 * a)) :
    Le2 (2 * whole + bit) ((i - (more : Int)) / 2 - 1) 1 (a + 1) := by
  obtain ⟨q, hq⟩ : ∃ q : Int, i - (more : Int) = 2 * q := ⟨(i - (more : Int)) / 2, by omega⟩
  have e : (i - (more : Int)) / 2 = q := by omega
  rw [e]
  have h1 : Le2 (whole * whole) (2 * q) 1 (2 * a) := by
    refine Le2.trans (n := m) (q := i) ?_ h
    refine Le2.of (B := 2 * q) (by omega) (by omega) ?_
    rw [show (2 * q - 2 * q).toNat = 0 by omega, Nat.pow_zero, Nat.mul_one, show (i - 2 * q).toNat = more by omega]
    exact hw
  have h2 : q ≤ a := by
    have h3 : Le2 1 i 1 (2 * a) := Le2.trans (fun B _ _ => Nat.mul_le_mul_right _ (by omega)) h
    have := FT.pow_le_of _ _ h3
    omega
  refine Le2.of (B := q - 1) (by omega) (by omega) ?_
  rw [show (q - 1 - (q - 1)).toNat = 0 by omega, Nat.pow_zero, Nat.mul_one, Nat.one_mul, show (a + 1 - (q - 1)).toNat = (a - q).toNat + 1 + 1 by omega, Nat.pow_succ, Nat.pow_succ]
  have h4 := h1 (2 * q) (by omega) (by omega)
  rw [show (2 * q - 2 * q).toNat = 0 by omega, Nat.pow_zero, Nat.mul_one, Nat.one_mul, show (2 * a - 2 * q).toNat = (a - q).toNat + (a - q).toNat by omega, Nat.pow_add] at h4
  have h5 : whole ≤ 2 ^ (a - q).toNat := Nat.mul_self_le_mul_self_iff.1 h4
  have := Nat.two_pow_pos (a - q).toNat
  omega

theorem root_bd {s : Bool} {m : Nat} {i a : Int} {g : Nat} {d : Datum} (h : Le2 m i 1 (2 * a)) (hd : (Datum.number s m i).root g = some d) : ∃ m' i', d = .number (s && decide (m = 0)) m' i' ∧ (m = 0 ∧ m' = 0 ∨ Le2 m' i' 1 (a + 1)) := by
  unfold Datum.root at hd
  dsimp only at hd
  by_cases h0 : m = 0
  · rw [if_pos h0] at hd
    injection hd with hd
    subst hd
    exact ⟨m, i, by simp [h0], .inl ⟨h0, h0⟩⟩
  · rw [if_neg h0] at hd
    cases s
    · simp only [Bool.false_eq_true, if_false] at hd
      injection hd with hd
      subst hd
      refine ⟨_, _, rfl, .inr ?_⟩
      refine root_le (m := m) h0 ?_ ?_ (Bool.toNat_le _) h
      · generalize hr : ((i - ((2 * g - m.log2 : Nat) : Int)) % 2) = r
        omega
      · have := rootFrom_sq (m <<< (2 * g - m.log2 + ((i - ((2 * g - m.log2 : Nat) : Int)) % 2).toNat)) ((m <<< (2 * g - m.log2 + ((i - ((2 * g - m.log2 : Nat) : Int)) % 2).toNat)).log2 / 2 + 1) 0 (Nat.zero_le _)
        rw [Nat.shiftLeft_eq] at this ⊢
        exact this
    · simp at hd

/-- a root is a not-a-number or half as long -/
theorem bd_sqrt {a : Int} {X : Option Nat} (h : Has FloatKind.f64.format (a + 1)) (hx : Bd .f64 (2 * a) X) : fsqrt X = none ∨ Bd .f64 (a + 1) (fsqrt X) := by
  obtain ⟨x, s, m, i, rfl, dx, lx⟩ := hx
  unfold FloatKind.decode at dx
  cases hr : (Datum.number s m i).root (FloatKind.f64.format.fractionBits + 2) with
  | none => left; simp [fsqrt, Format.sqrt, dx, hr]
  | some d =>
    right
    obtain ⟨m', i', rfl, hm⟩ := root_bd lx hr
    have hl : Le2 m' i' 1 (a + 1) := by
      rcases hm with ⟨_, h0⟩ | hm
      · rw [h0]; exact Le2.zero _ _ _
      · exact hm
    obtain ⟨m1, p1, h1, h2⟩ := write_bd (s := s && decide (m = 0)) h hl
    exact ⟨_, _, m1, p1, by simp [fsqrt, Format.sqrt, dx, hr], h1, h2⟩
theorem pb_sqrt {a : Int} {X : Option Nat} (h : Has FloatKind.f64.format (a + 1)) (hx : Pb .f64 (2 * a) X) : Pb .f64 (a + 1) (fsqrt X) := by
  obtain ⟨x, m, i, rfl, dx, lx⟩ := hx
  unfold FloatKind.decode at dx
  cases hr : (Datum.number false m i).root (FloatKind.f64.format.fractionBits + 2) with
  | none =>
    exfalso
    unfold Datum.root at hr
    dsimp only at hr
    split at hr
    · cases hr
    · simp at hr
  | some d =>
    obtain ⟨m', i', rfl, hm⟩ := root_bd lx hr
    have hl : Le2 m' i' 1 (a + 1) := by
      rcases hm with ⟨_, h0⟩ | hm
      · rw [h0]; exact Le2.zero _ _ _
      · exact hm
    obtain ⟨m1, p1, h1, h2⟩ := write_bd (s := false && decide (m = 0)) h hl
    exact ⟨_, m1, p1, by simp [fsqrt, Format.sqrt, dx, hr], h1, h2⟩

/-- what becomes of a single float that is widened -/
theorem wide_cases (b : Nat) : fconv .f32 .f64 (av .f32 b) = none ∨ (∃ s, fconv .f32 .f64 (av .f32 b) = some (FloatKind.f64.encode (.infinity s)) ∧ FloatKind.f32.decode b = .infinity s) ∨ (∃ s m p, FloatKind.f32.decode b = .number s m p) ∧ Bd .f64 128 (fconv .f32 .f64 (av .f32 b)) := by
  cases hd : FloatKind.f32.decode b with
  | nan s t => left; unfold av; rw [hd]; rfl
  | infinity s =>
    right; left
    refine ⟨s, ?_, rfl⟩
    rw [av_of_not (by rw [hd]; rfl)]
    unfold fconv floatToFloatBits
    simp [hd]
  | number s m p =>
    right; right
    refine ⟨⟨s, m, p, rfl⟩, ?_⟩
    rw [av_of_not (by rw [hd]; rfl)]
    exact (fits_bd (by decide) (has64 (by omega) (by omega)) ⟨b, s, m, p, rfl, hd, read32_le hd⟩).2
theorem fits_none (s d : FloatKind) : Fits s d none := fun b h => by cases h
theorem fits_inf (s : Bool) : Fits .f64 .f32 (some (FloatKind.f64.encode (.infinity s))) := by
  intro c hc
  injection hc with hc
  subst hc
  cases s <;> decide
theorem fits_root (b : Nat) : Fits .f64 .f32 (fsqrt (fconv .f32 .f64 (av .f32 b))) := by
  rcases wide_cases b with h | ⟨s, h, _⟩ | ⟨_, h⟩
  · rw [h]; exact fits_none _ _
  · rw [h]
    cases s
    · have : fsqrt (some (FloatKind.f64.encode (.infinity false))) = some (FloatKind.f64.encode (.infinity false)) := by decide
      rw [this]; exact fits_inf _
    · have : fsqrt (some (FloatKind.f64.encode (.infinity true))) = none := by decide
      rw [this]; exact fits_none _ _
  · rcases bd_sqrt (a := 64) (has64 (by omega) (by omega)) h with h | h
    · rw [h]; exact fits_none _ _
    · exact (fits_bd (by decide) (has32 (by omega) (by omega)) h).1
end Go.Proofs.YtedpbidphajngaaDoor
