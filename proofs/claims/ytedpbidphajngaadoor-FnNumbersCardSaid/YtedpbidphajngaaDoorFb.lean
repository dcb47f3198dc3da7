/- Bounds by powers of two on what matters of a float: sums, differences, products, quotients, square roots and conversions keep them. No program is in sight. -/
import Derived.Test.YtedpbidphajngaaDoorFr
import Derived.Test.YtedpbidphajngaaDoorFl
namespace Go.Proofs.YtedpbidphajngaaDoor
open Ieee Go.RowKit
open FT (Le2 Has)
set_option linter.unusedVariables false
set_option linter.unusedSimpArgs false

theorem has32 {e : Int} (h1 : -149 ≤ e) (h2 : e ≤ 126) : Has FloatKind.f32.format e := by
  have e1 : FloatKind.f32.format.leastPlace = -149 := by decide
  have e2 : FloatKind.f32.format.fractionBits = 23 := rfl
  have e3 : FloatKind.f32.format.exponentBits = 8 := rfl
  unfold Has
  rw [e1, e2, e3]
  refine ⟨h1, ?_, by decide⟩
  have : ((2 ^ 8 - 1 : Nat) : Int) = 255 := by decide
  rw [this]; omega
theorem has64 {e : Int} (h1 : -1074 ≤ e) (h2 : e ≤ 1022) : Has FloatKind.f64.format e := by
  have e1 : FloatKind.f64.format.leastPlace = -1074 := by decide
  have e2 : FloatKind.f64.format.fractionBits = 52 := rfl
  have e3 : FloatKind.f64.format.exponentBits = 11 := rfl
  unfold Has
  rw [e1, e2, e3]
  refine ⟨h1, ?_, by decide⟩
  have : ((2 ^ 11 - 1 : Nat) : Int) = 2047 := by decide
  rw [this]; omega

/-- at most 2^e, of either sign -/
def Bd (k : FloatKind) (e : Int) (X : Option Nat) : Prop := ∃ b s m p, X = some b ∧ k.decode b = .number s m p ∧ Le2 m p 1 e
/-- at most 2^e, not negative -/
def Pb (k : FloatKind) (e : Int) (X : Option Nat) : Prop := ∃ b m p, X = some b ∧ k.decode b = .number false m p ∧ Le2 m p 1 e
/-- at least 2^e, finite -/
def Ge (k : FloatKind) (e : Int) (X : Option Nat) : Prop := ∃ b m p, X = some b ∧ k.decode b = .number false m p ∧ Le2 1 e m p

theorem Pb.bd {k : FloatKind} {e : Int} {X : Option Nat} (h : Pb k e X) : Bd k e X := by
  obtain ⟨b, m, p, h1, h2, h3⟩ := h; exact ⟨b, _, m, p, h1, h2, h3⟩
theorem Bd.mono {k : FloatKind} {e e' : Int} {X : Option Nat} (h : Bd k e X) (he : e ≤ e') : Bd k e' X := by
  obtain ⟨b, s, m, p, h1, h2, h3⟩ := h; exact ⟨b, s, m, p, h1, h2, h3.mono he⟩
theorem Pb.mono {k : FloatKind} {e e' : Int} {X : Option Nat} (h : Pb k e X) (he : e ≤ e') : Pb k e' X := by
  obtain ⟨b, m, p, h1, h2, h3⟩ := h; exact ⟨b, m, p, h1, h2, h3.mono he⟩
theorem Ge.mono {k : FloatKind} {e e' : Int} {X : Option Nat} (h : Ge k e X) (he : e' ≤ e) : Ge k e' X := by
  obtain ⟨b, m, p, h1, h2, h3⟩ := h; exact ⟨b, m, p, h1, h2, h3.anti he⟩

theorem write_bd {k : FloatKind} {s : Bool} {m : Nat} {p e : Int} (he : Has k.format e) (h : Le2 m p 1 e) :
    ∃ m' p', k.decode (k.format.write (.number s m p)) = .number s m' p' ∧ Le2 m' p' 1 e := FT.nearest_le he h
theorem write_ge {k : FloatKind} {s : Bool} {m : Nat} {p e c : Int} (he : Has k.format e) (h : Le2 m p 1 e) (hc : k.format.leastPlace ≤ c) (hg : Le2 1 c m p) :
    ∃ m' p', k.decode (k.format.write (.number s m p)) = .number s m' p' ∧ Le2 m' p' 1 e ∧ Le2 1 c m' p' := by
  obtain ⟨m', p', h1, h2⟩ := FT.nearest_le (neg := s) he h
  exact ⟨m', p', h1, h2, FT.nearest_ge (by have := he.2.2; omega) hc hg h1⟩

/-! ### products -/
theorem bd_mul {k : FloatKind} {a b : Int} {X Y : Option Nat} (h : Has k.format (a + b)) (hx : Bd k a X) (hy : Bd k b Y) : Bd k (a + b) (fop .mul k X Y) := by
  obtain ⟨x, s, m, i, rfl, dx, lx⟩ := hx
  obtain ⟨y, t, n, j, rfl, dy, ly⟩ := hy
  have hl := lx.mul ly
  rw [Nat.mul_one] at hl
  obtain ⟨m', p', h1, h2⟩ := write_bd (s := s ^^ t) h hl
  refine ⟨_, _, m', p', ?_, h1, h2⟩
  unfold FloatKind.decode at dx dy
  simp [fop, floatBits, Format.mul, dx, dy, Datum.product]
theorem pb_mul {k : FloatKind} {a b : Int} {X Y : Option Nat} (h : Has k.format (a + b)) (hx : Pb k a X) (hy : Pb k b Y) : Pb k (a + b) (fop .mul k X Y) := by
  obtain ⟨x, m, i, rfl, dx, lx⟩ := hx
  obtain ⟨y, n, j, rfl, dy, ly⟩ := hy
  have hl := lx.mul ly
  rw [Nat.mul_one] at hl
  obtain ⟨m', p', h1, h2⟩ := write_bd (s := false) h hl
  refine ⟨_, m', p', ?_, h1, h2⟩
  unfold FloatKind.decode at dx dy
  simp [fop, floatBits, Format.mul, dx, dy, Datum.product]
theorem bd_sq {k : FloatKind} {a : Int} {X : Option Nat} (h : Has k.format (a + a)) (hx : Bd k a X) : Pb k (a + a) (fop .mul k X X) := by
  obtain ⟨x, s, m, i, rfl, dx, lx⟩ := hx
  have hl := lx.mul lx
  rw [Nat.mul_one] at hl
  obtain ⟨m', p', h1, h2⟩ := write_bd (s := false) h hl
  refine ⟨_, m', p', ?_, h1, h2⟩
  unfold FloatKind.decode at dx
  simp [fop, floatBits, Format.mul, dx, Datum.product]

/-! ### sums -/
theorem natAbs_signed (s : Bool) (m k : Nat) : (signed s m k).natAbs = m * 2 ^ k := by
  unfold signed
  rw [Nat.shiftLeft_eq]
  cases s
  · exact Int.natAbs_natCast _
  · exact (Int.natAbs_neg _).trans (Int.natAbs_natCast _)

theorem sum_le {s t : Bool} {m n : Nat} {i j a b : Int} (hx : Le2 m i 1 a) (hy : Le2 n j 1 b) :
    Le2 (signed s m (i - min i j).toNat + signed t n (j - min i j).toNat).natAbs (min i j) 1 (max a b + 1) := by
  have h0 : ∃ B : Int, B ≤ i ∧ B ≤ j ∧ B ≤ a ∧ B ≤ b := ⟨min (min i j) (min a b), by omega, by omega, by omega, by omega⟩
  obtain ⟨B, b1, b2, b3, b4⟩ := h0
  have h1 := hx B b1 b3
  have h2 := hy B b2 b4
  refine Le2.of (B := B) (by omega) (by omega) ?_
  rw [Nat.one_mul] at *
  have ha : (signed s m (i - min i j).toNat + signed t n (j - min i j).toNat).natAbs ≤ m * 2 ^ (i - min i j).toNat + n * 2 ^ (j - min i j).toNat := by
    have := Int.natAbs_add_le (signed s m (i - min i j).toNat) (signed t n (j - min i j).toNat)
    rwa [natAbs_signed, natAbs_signed] at this
  have e1 : (i - B).toNat = (i - min i j).toNat + (min i j - B).toNat := by omega
  have e2 : (j - B).toNat = (j - min i j).toNat + (min i j - B).toNat := by omega
  rw [e1, Nat.pow_add, ← Nat.mul_assoc] at h1
  rw [e2, Nat.pow_add, ← Nat.mul_assoc] at h2
  have h3 := Nat.mul_le_mul_right (2 ^ (min i j - B).toNat) ha
  rw [Nat.add_mul] at h3
  have h4 : 2 ^ (a - B).toNat ≤ 2 ^ (max a b - B).toNat := Nat.pow_le_pow_right (by omega) (by omega)
  have h5 : 2 ^ (b - B).toNat ≤ 2 ^ (max a b - B).toNat := Nat.pow_le_pow_right (by omega) (by omega)
  have e3 : (max a b + 1 - B).toNat = (max a b - B).toNat + 1 := by omega
  rw [e3, Nat.pow_succ]
  omega

/-- of two that are not negative, the difference is at most the greater -/
theorem diff_le {m n : Nat} {i j a : Int} (hx : Le2 m i 1 a) (hy : Le2 n j 1 a) :
    Le2 (signed false m (i - min i j).toNat + signed true n (j - min i j).toNat).natAbs (min i j) 1 a := by
  have h0 : ∃ B : Int, B ≤ i ∧ B ≤ j ∧ B ≤ a := ⟨min (min i j) a, by omega, by omega, by omega⟩
  obtain ⟨B, b1, b2, b3⟩ := h0
  have h1 := hx B b1 b3
  have h2 := hy B b2 b3
  refine Le2.of (B := B) (by omega) b3 ?_
  have ha : (signed false m (i - min i j).toNat + signed true n (j - min i j).toNat).natAbs ≤ max (m * 2 ^ (i - min i j).toNat) (n * 2 ^ (j - min i j).toNat) := by
    simp only [signed, Nat.shiftLeft_eq]
    simp only [Bool.false_eq_true, if_false, if_true]
    omega
  have e1 : (i - B).toNat = (i - min i j).toNat + (min i j - B).toNat := by omega
  have e2 : (j - B).toNat = (j - min i j).toNat + (min i j - B).toNat := by omega
  rw [e1, Nat.pow_add, ← Nat.mul_assoc] at h1
  rw [e2, Nat.pow_add, ← Nat.mul_assoc] at h2
  have h3 := Nat.mul_le_mul_right (2 ^ (min i j - B).toNat) ha
  rcases Nat.le_total (m * 2 ^ (i - min i j).toNat) (n * 2 ^ (j - min i j).toNat) with hle | hle
  · rw [Nat.max_eq_right hle] at h3; omega
  · rw [Nat.max_eq_left hle] at h3; omega

theorem bd_add {k : FloatKind} {a b : Int} {X Y : Option Nat} (h : Has k.format (max a b + 1)) (hx : Bd k a X) (hy : Bd k b Y) : Bd k (max a b + 1) (fop .add k X Y) := by
  obtain ⟨x, s, m, i, rfl, dx, lx⟩ := hx
  obtain ⟨y, t, n, j, rfl, dy, ly⟩ := hy
  unfold FloatKind.decode at dx dy
  obtain ⟨m', p', h1, h2⟩ := write_bd (s := if signed s m (i - min i j).toNat + signed t n (j - min i j).toNat = 0 then s && t else decide (signed s m (i - min i j).toNat + signed t n (j - min i j).toNat < 0)) h (sum_le (s := s) (t := t) lx ly)
  refine ⟨_, _, m', p', ?_, h1, h2⟩
  simp [fop, floatBits, Format.add, dx, dy, Datum.sum]
theorem bd_sub {k : FloatKind} {a b : Int} {X Y : Option Nat} (h : Has k.format (max a b + 1)) (hx : Bd k a X) (hy : Bd k b Y) : Bd k (max a b + 1) (fop .sub k X Y) := by
  obtain ⟨x, s, m, i, rfl, dx, lx⟩ := hx
  obtain ⟨y, t, n, j, rfl, dy, ly⟩ := hy
  unfold FloatKind.decode at dx dy
  obtain ⟨m', p', h1, h2⟩ := write_bd (s := if signed s m (i - min i j).toNat + signed (!t) n (j - min i j).toNat = 0 then s && (!t) else decide (signed s m (i - min i j).toNat + signed (!t) n (j - min i j).toNat < 0)) h (sum_le (s := s) (t := !t) lx ly)
  refine ⟨_, _, m', p', ?_, h1, h2⟩
  simp [fop, floatBits, Format.sub, dx, dy, Datum.sum, Datum.opposite]
theorem bd_diff {k : FloatKind} {a : Int} {X Y : Option Nat} (h : Has k.format a) (hx : Pb k a X) (hy : Pb k a Y) : Bd k a (fop .sub k X Y) := by
  obtain ⟨x, m, i, rfl, dx, lx⟩ := hx
  obtain ⟨y, n, j, rfl, dy, ly⟩ := hy
  unfold FloatKind.decode at dx dy
  obtain ⟨m', p', h1, h2⟩ := write_bd (s := if signed false m (i - min i j).toNat + signed true n (j - min i j).toNat = 0 then false else decide (signed false m (i - min i j).toNat + signed true n (j - min i j).toNat < 0)) h (diff_le lx ly)
  refine ⟨_, _, m', p', ?_, h1, h2⟩
  simp [fop, floatBits, Format.sub, dx, dy, Datum.sum, Datum.opposite]

/-- a sum of two that are not negative is not negative, and at least either -/
theorem ge_add {k : FloatKind} {a b c : Int} {X Y : Option Nat} (h : Has k.format (max a b + 1)) (hc : k.format.leastPlace ≤ c) (hx : Pb k a X) (hg : Ge k c X) (hy : Pb k b Y) :
    Pb k (max a b + 1) (fop .add k X Y) ∧ Ge k c (fop .add k X Y) := by
  obtain ⟨x, m, i, rfl, dx, lx⟩ := hx
  obtain ⟨y, n, j, rfl, dy, ly⟩ := hy
  obtain ⟨x', m', i', e, dx', gx⟩ := hg
  injection e with e
  subst e
  rw [dx] at dx'
  injection dx' with _ em ei
  subst em; subst ei
  unfold FloatKind.decode at dx dy
  have hs : ∀ q r : Nat, signed false q r = ((q * 2 ^ r : Nat) : Int) := by
    intro q r; simp [signed, Nat.shiftLeft_eq]
  have ht : signed false m (i - min i j).toNat + signed false n (j - min i j).toNat = ((m * 2 ^ (i - min i j).toNat + n * 2 ^ (j - min i j).toNat : Nat) : Int) := by
    rw [hs, hs]; omega
  have hle := sum_le (s := false) (t := false) lx ly
  have hge : Le2 1 c (signed false m (i - min i j).toNat + signed false n (j - min i j).toNat).natAbs (min i j) := by
    rw [ht, Int.natAbs_natCast]
    refine gx.trans (Le2.of (B := min i j) (by omega) (Int.le_refl _) ?_)
    rw [show (min i j - min i j).toNat = 0 by omega, Nat.pow_zero, Nat.mul_one]
    omega
  have hsg : (if signed false m (i - min i j).toNat + signed false n (j - min i j).toNat = 0 then false else decide (signed false m (i - min i j).toNat + signed false n (j - min i j).toNat < 0)) = false := by
    rw [ht]
    split
    · rfl
    · exact decide_eq_false (by omega)
  obtain ⟨m1, p1, h1, h2, h3⟩ := write_ge (s := false) h hle hc hge
  have hv : fop .add k (some x) (some y) = some (k.format.write (.number false (signed false m (i - min i j).toNat + signed false n (j - min i j).toNat).natAbs (min i j))) := by
    simp only [fop, floatBits, Format.add, dx, dy, Datum.sum, Bool.and_self, Option.map_some]
    rw [hsg]
  rw [hv]
  exact ⟨⟨_, m1, p1, rfl, h1, h2⟩, ⟨_, m1, p1, rfl, h1, h3⟩⟩

/-! ### quotients -/
theorem quo_le5 {m n : Nat} {i j a c : Int} {g : Nat} (hm : m ≠ 0) (hn : n ≠ 0) (hg : 1 ≤ g) (h5 : Le2 m (i + c) n (a + j)) :
    Le2 (2 * ((m <<< (g + n.log2 - m.log2)) / n) + ((m <<< (g + n.log2 - m.log2)) % n != 0).toNat) (i - j - ((g + n.log2 - m.log2 : Nat) : Int) - 1) 1 (a - c) := by
  generalize hmore : g + n.log2 - m.log2 = more
  rw [Nat.shiftLeft_eq]
  have hnp : 0 < n := by omega
  -- the quotient is at least 1
  have hq1 : n ≤ m * 2 ^ more := by
    have h1 : n < 2 ^ (n.log2 + 1) := Nat.lt_log2_self
    have h2 : 2 ^ m.log2 ≤ m := Nat.log2_self_le hm
    have h3 : 2 ^ (n.log2 + 1) ≤ 2 ^ m.log2 * 2 ^ more := by
      rw [← Nat.pow_add]
      exact Nat.pow_le_pow_right (by omega) (by omega)
    have h4 := Nat.mul_le_mul_right (2 ^ more) h2
    omega
  generalize hP : m * 2 ^ more = d at *
  -- 2 * d * 2^(i-j-more-1) ≤ 2^(a-c) * n
  have h6 : ∀ B : Int, B ≤ i - j - (more : Int) - 1 → B ≤ a - c → 2 * d * 2 ^ (i - j - (more : Int) - 1 - B).toNat ≤ n * 2 ^ (a - c - B).toNat := by
    intro B hB1 hB2
    have := h5 (B + j + c) (by omega) (by omega)
    rw [show (i + c - (B + j + c)).toNat = (i - j - (more : Int) - 1 - B).toNat + (more + 1) by omega, show (a + j - (B + j + c)).toNat = (a - c - B).toNat by omega, Nat.pow_add, Nat.pow_succ] at this
    have e : m * (2 ^ (i - j - (more : Int) - 1 - B).toNat * (2 ^ more * 2)) = 2 * (m * 2 ^ more) * 2 ^ (i - j - (more : Int) - 1 - B).toNat := by ac_rfl
    rw [e, hP] at this
    exact this
  -- the bound is a whole number of units
  have hexp : i - j - (more : Int) - 1 + 1 ≤ a - c := by
    rcases Int.le_total (i - j - (more : Int)) (a - c) with h | h
    · omega
    · have h7 := h6 (a - c - 1) (by omega) (by omega)
      rw [show (a - c - (a - c - 1)).toNat = 1 by omega, Nat.pow_one] at h7
      have h8 : 2 ^ (i - j - (more : Int) - 1 - (a - c - 1)).toNat ≤ 1 := by
        rcases Nat.eq_zero_or_pos ((i - j - (more : Int) - 1 - (a - c - 1)).toNat) with h0 | h0
        · rw [h0]; decide
        · exfalso
          have h9 : 2 ≤ 2 ^ (i - j - (more : Int) - 1 - (a - c - 1)).toNat := by
            have := Nat.pow_le_pow_right (n := 2) (by omega) h0
            simpa using this
          have h10 := Nat.mul_le_mul_left (2 * d) h9
          have : d * 4 ≤ n * 2 := by omega
          omega
      rcases Nat.eq_zero_or_pos ((i - j - (more : Int) - 1 - (a - c - 1)).toNat) with h0 | h0
      · omega
      · exfalso
        have h9 : 2 ≤ 2 ^ (i - j - (more : Int) - 1 - (a - c - 1)).toNat := by
          have := Nat.pow_le_pow_right (n := 2) (by omega) h0
          simpa using this
        omega
  have h11 := h6 (i - j - (more : Int) - 1) (Int.le_refl _) (by omega)
  rw [show (i - j - (more : Int) - 1 - (i - j - (more : Int) - 1)).toNat = 0 by omega, Nat.pow_zero, Nat.mul_one,
    show (a - c - (i - j - (more : Int) - 1)).toNat = (a - c - (i - j - (more : Int))).toNat + 1 by omega, Nat.pow_succ] at h11
  refine Le2.of (B := i - j - (more : Int) - 1) (Int.le_refl _) (by omega) ?_
  rw [show (i - j - (more : Int) - 1 - (i - j - (more : Int) - 1)).toNat = 0 by omega, Nat.pow_zero, Nat.mul_one, Nat.one_mul,
    show (a - c - (i - j - (more : Int) - 1)).toNat = (a - c - (i - j - (more : Int))).toNat + 1 by omega, Nat.pow_succ]
  generalize 2 ^ (a - c - (i - j - (more : Int))).toNat = K at *
  have hdK : d ≤ n * K := by
    have : n * (K * 2) = 2 * (n * K) := by ac_rfl
    omega
  have hdiv : d / n ≤ K := by
    rw [Nat.div_le_iff_le_mul hnp, Nat.mul_comm]; omega
  have hbt : (d % n != 0).toNat ≤ 1 := by cases (d % n != 0) <;> decide
  rcases Nat.lt_or_ge (d / n) K with hl | hl
  · omega
  · have hk : d / n = K := by omega
    have hmod : d % n = 0 := by
      have := Nat.div_add_mod d n
      rw [hk] at this
      omega
    rw [hmod, hk]
    simp; omega

theorem quo_le {m n : Nat} {i j a c : Int} {g : Nat} (hm : m ≠ 0) (hn : n ≠ 0) (hg : 1 ≤ g) (lx : Le2 m i 1 a) (ly : Le2 1 c n j) :
    Le2 (2 * ((m <<< (g + n.log2 - m.log2)) / n) + ((m <<< (g + n.log2 - m.log2)) % n != 0).toNat) (i - j - ((g + n.log2 - m.log2 : Nat) : Int) - 1) 1 (a - c) := by
  have h5 : Le2 (m * 1) (i + c) (1 * n) (a + j) := lx.mul ly
  rw [Nat.mul_one, Nat.one_mul] at h5
  exact quo_le5 hm hn hg h5

theorem bd_quo {k : FloatKind} {a c : Int} {X Y : Option Nat} (h : Has k.format (a - c)) (hx : Bd k a X) (hy : Ge k c Y) : Bd k (a - c) (fop .quo k X Y) := by
  obtain ⟨x, s, m, i, rfl, dx, lx⟩ := hx
  obtain ⟨y, n, j, rfl, dy, ly⟩ := hy
  unfold FloatKind.decode at dx dy
  have hn : n ≠ 0 := by
    rintro rfl
    have := ly (min c j) (by omega) (by omega)
    rw [Nat.zero_mul, Nat.one_mul] at this
    have := Nat.two_pow_pos (c - min c j).toNat
    omega
  rcases Nat.eq_zero_or_pos m with h0 | h0
  · subst h0
    obtain ⟨m', p', h1, h2⟩ := write_bd (s := s ^^ false) (m := 0) (p := i - j - ((k.format.fractionBits + 2 + n.log2 - (0 : Nat).log2 : Nat) : Int) - 1) h (Le2.zero _ _ _)
    refine ⟨_, _, m', p', ?_, h1, h2⟩
    simp [fop, floatBits, Format.div, dx, dy, Datum.quotient, hn]
  · obtain ⟨m', p', h1, h2⟩ := write_bd (s := s ^^ false) h (quo_le (g := k.format.fractionBits + 2) (by omega) hn (by omega) lx ly)
    refine ⟨_, _, m', p', ?_, h1, h2⟩
    simp [fop, floatBits, Format.div, dx, dy, Datum.quotient, hn]
theorem pb_quo {k : FloatKind} {a c : Int} {X Y : Option Nat} (h : Has k.format (a - c)) (hx : Pb k a X) (hy : Ge k c Y) : Pb k (a - c) (fop .quo k X Y) := by
  obtain ⟨x, m, i, rfl, dx, lx⟩ := hx
  obtain ⟨y, n, j, rfl, dy, ly⟩ := hy
  unfold FloatKind.decode at dx dy
  have hn : n ≠ 0 := by
    rintro rfl
    have := ly (min c j) (by omega) (by omega)
    rw [Nat.zero_mul, Nat.one_mul] at this
    have := Nat.two_pow_pos (c - min c j).toNat
    omega
  rcases Nat.eq_zero_or_pos m with h0 | h0
  · subst h0
    obtain ⟨m', p', h1, h2⟩ := write_bd (s := false) (m := 0) (p := i - j - ((k.format.fractionBits + 2 + n.log2 - (0 : Nat).log2 : Nat) : Int) - 1) h (Le2.zero _ _ _)
    refine ⟨_, m', p', ?_, h1, h2⟩
    simp [fop, floatBits, Format.div, dx, dy, Datum.quotient, hn]
  · obtain ⟨m', p', h1, h2⟩ := write_bd (s := false) h (quo_le (g := k.format.fractionBits + 2) (by omega) hn (by omega) lx ly)
    refine ⟨_, m', p', ?_, h1, h2⟩
    simp [fop, floatBits, Format.div, dx, dy, Datum.quotient, hn]
end Go.Proofs.YtedpbidphajngaaDoor
