/- Plain facts on the floating-point core: which words are not-a-numbers, and that rounding keeps what lies below (or above) a power of two on its side. No program is in sight. -/
import Derived.Laws.FloatArith
namespace Go.Proofs.YtedpbidphajngaaDoor.FT
open Ieee
set_option linter.unusedVariables false
set_option linter.unusedSimpArgs false

/-! ### m * 2^p ≤ n * 2^q -/
def Le2 (m : Nat) (p : Int) (n : Nat) (q : Int) : Prop := ∀ B : Int, B ≤ p → B ≤ q → m * 2 ^ (p - B).toNat ≤ n * 2 ^ (q - B).toNat

theorem Le2.of {m n : Nat} {p q B : Int} (hp : B ≤ p) (hq : B ≤ q) (h : m * 2 ^ (p - B).toNat ≤ n * 2 ^ (q - B).toNat) : Le2 m p n q := by
  intro B' hp' hq'
  rcases Int.le_total B' B with hb | hb
  · have e1 : (p - B').toNat = (p - B).toNat + (B - B').toNat := by omega
    have e2 : (q - B').toNat = (q - B).toNat + (B - B').toNat := by omega
    rw [e1, e2, Nat.pow_add, Nat.pow_add, ← Nat.mul_assoc, ← Nat.mul_assoc]
    exact Nat.mul_le_mul_right _ h
  · have e1 : (p - B).toNat = (p - B').toNat + (B' - B).toNat := by omega
    have e2 : (q - B).toNat = (q - B').toNat + (B' - B).toNat := by omega
    rw [e1, e2, Nat.pow_add, Nat.pow_add, ← Nat.mul_assoc, ← Nat.mul_assoc] at h
    exact Nat.le_of_mul_le_mul_right h (Nat.two_pow_pos _)

theorem Le2.refl (m : Nat) (p : Int) : Le2 m p m p := fun _ _ _ => Nat.le_refl _

theorem Le2.trans {m n k : Nat} {p q r : Int} (h : Le2 m p n q) (h' : Le2 n q k r) : Le2 m p k r := by
  have hB : ∃ B : Int, B ≤ p ∧ B ≤ q ∧ B ≤ r := ⟨min p (min q r), by omega, by omega, by omega⟩
  obtain ⟨B, h1, h2, h3⟩ := hB
  exact Le2.of h1 h3 (Nat.le_trans (h B h1 h2) (h' B h2 h3))

theorem Le2.mul {m n m' n' : Nat} {p q p' q' : Int} (h : Le2 m p n q) (h' : Le2 m' p' n' q') : Le2 (m * m') (p + p') (n * n') (q + q') := by
  have a := h (min p q) (by omega) (by omega)
  have b := h' (min p' q') (by omega) (by omega)
  refine Le2.of (B := min p q + min p' q') (by omega) (by omega) ?_
  have e1 : (p + p' - (min p q + min p' q')).toNat = (p - min p q).toNat + (p' - min p' q').toNat := by omega
  have e2 : (q + q' - (min p q + min p' q')).toNat = (q - min p q).toNat + (q' - min p' q').toNat := by omega
  rw [e1, e2, Nat.pow_add, Nat.pow_add]
  have := Nat.mul_le_mul a b
  rw [show m * m' * (2 ^ (p - min p q).toNat * 2 ^ (p' - min p' q').toNat) = m * 2 ^ (p - min p q).toNat * (m' * 2 ^ (p' - min p' q').toNat) by ac_rfl,
    show n * n' * (2 ^ (q - min p q).toNat * 2 ^ (q' - min p' q').toNat) = n * 2 ^ (q - min p q).toNat * (n' * 2 ^ (q' - min p' q').toNat) by ac_rfl]
  exact this

theorem Le2.pow {a b : Int} (h : a ≤ b) : Le2 1 a 1 b := by
  refine Le2.of (B := a) (Int.le_refl _) h ?_
  rw [Nat.one_mul, Nat.one_mul]
  exact Nat.pow_le_pow_right (by omega) (by omega)

theorem Le2.mono {m : Nat} {p a b : Int} (h : Le2 m p 1 a) (hab : a ≤ b) : Le2 m p 1 b := h.trans (Le2.pow hab)
theorem Le2.anti {m : Nat} {p a b : Int} (h : Le2 1 a m p) (hab : b ≤ a) : Le2 1 b m p := (Le2.pow hab).trans h
theorem Le2.zero (p : Int) (n : Nat) (q : Int) : Le2 0 p n q := fun _ _ _ => by simp

/-! ### the datum of a sign and a rung -/
def D (f : Format) (neg : Bool) (rung : Nat) : Datum :=
  if rung < f.binade then .number neg rung f.leastPlace
  else if rung < f.infRung then .number neg (f.binade + rung % f.binade) (f.leastPlace + (rung / f.binade - 1 : Nat))
  else if rung = f.infRung then .infinity neg
  else .nan neg (rung - f.infRung)

theorem sw_pos (f : Format) : 0 < f.signWeight := Nat.two_pow_pos _

theorem read_word (f : Format) (neg : Bool) (r : Nat) (h : r < f.signWeight) : f.read (f.word neg r) = D f neg r := by
  have hs := sw_pos f
  cases neg
  · simp [Format.read, Format.word, D, Nat.div_eq_of_lt h, Nat.mod_eq_of_lt h]
  · have e1 : (f.signWeight + r) / f.signWeight = 1 := by
      rw [Nat.add_div_left _ hs, Nat.div_eq_of_lt h]
    have e2 : (f.signWeight + r) % f.signWeight = r := by
      rw [Nat.add_mod_left, Nat.mod_eq_of_lt h]
    simp [Format.read, Format.word, D, e1, e2]

theorem D_notNaN (f : Format) (neg : Bool) (r : Nat) (h : r ≤ f.infRung) : (D f neg r).isNaN = false := by
  unfold D
  split
  · rfl
  · split
    · rfl
    · rw [if_pos (by omega)]; rfl

theorem D_isNaN (f : Format) (neg : Bool) (r : Nat) (h : f.infRung < r) (hb : f.binade ≤ f.infRung) : (D f neg r).isNaN = true := by
  unfold D
  rw [if_neg (by omega), if_neg (by omega), if_neg (by omega)]
  rfl

theorem nearest_form (f : Format) (neg : Bool) (m : Nat) (p : Int) : ∃ r, f.nearest neg m p = f.word neg r ∧ r ≤ f.infRung := by
  unfold Format.nearest
  dsimp only
  split
  · exact ⟨0, rfl, Nat.zero_le _⟩
  · exact ⟨_, rfl, Nat.min_le_right _ _⟩

theorem write_notNaN (f : Format) (d : Datum) (h : d.isNaN = false) : (f.read (f.write d)).isNaN = false := by
  have hi := f.infRung_lt
  cases d with
  | number s m p =>
    obtain ⟨r, e, hr⟩ := nearest_form f s m p
    simp only [Format.write, e]
    rw [read_word f s r (by omega)]
    exact D_notNaN f s r hr
  | infinity s =>
    simp only [Format.write]
    rw [read_word f s _ hi]
    exact D_notNaN f s _ (Nat.le_refl _)
  | nan s t => simp [Datum.isNaN] at h

/-! ### which results are not-a-numbers -/
theorem sum_notNaN {a b d : Datum} (h : a.sum b = some d) : d.isNaN = false := by
  cases a <;> cases b <;> simp [Datum.sum] at h
  all_goals first | (subst h; rfl) | (obtain ⟨_, rfl⟩ := h; rfl)
theorem product_notNaN {a b d : Datum} (h : a.product b = some d) : d.isNaN = false := by
  cases a <;> cases b <;> simp [Datum.product] at h
  all_goals first | (subst h; rfl) | (obtain ⟨_, rfl⟩ := h; rfl)
theorem quotient_notNaN {g : Nat} {a b d : Datum} (h : a.quotient g b = some d) : d.isNaN = false := by
  cases a <;> cases b <;> simp [Datum.quotient] at h
  · split at h
    · split at h
      · cases h
      · simp at h; subst h; rfl
    · simp at h; subst h; rfl
  all_goals first | (subst h; rfl) | (obtain ⟨_, rfl⟩ := h; rfl)
theorem root_notNaN {g : Nat} {a d : Datum} (h : a.root g = some d) : d.isNaN = false := by
  cases a <;> simp [Datum.root] at h
  · split at h
    · simp at h; subst h; rfl
    · split at h
      · cases h
      · simp at h; subst h; rfl
  · obtain ⟨_, rfl⟩ := h; rfl

theorem order_none {a b : Datum} : a.order b = none ↔ (a.isNaN = true ∨ b.isNaN = true) := by
  cases a <;> cases b <;> simp [Datum.order, Datum.isNaN]
theorem order_self {a : Datum} (h : a.isNaN = false) : a.order a = some .eq := by
  cases a with
  | number s m p => simp [Datum.order]
  | infinity s => simp [Datum.order]
  | nan s t => simp [Datum.isNaN] at h
end Go.Proofs.YtedpbidphajngaaDoor.FT
