/- The sine of a number of turns, as what matters of floats: what it comes to, and that it is small. No program is in sight. -/
import Derived.Test.YtedpbidphajngaaDoorTr
namespace Go.Proofs.YtedpbidphajngaaDoor
open Ieee Go.RowKit
open FT (Le2 Has)
set_option linter.unusedVariables false
set_option linter.unusedSimpArgs false

/-- a small whole number as a float -/
def kf (n : Int) : Nat := FloatKind.f64.nearest n
theorem kf_pos {n : Nat} (h0 : n ≠ 0) : kf n = FloatKind.f64.encode (.number false n 0) := by
  unfold kf FloatKind.nearest
  rw [decide_eq_false (by omega), Int.natAbs_natCast]
theorem kf_ge {n : Nat} (h0 : n ≠ 0) (h : n < 2 ^ 53) : Ge .f64 0 (some (kf n)) := by
  obtain ⟨m', p', h1, h2, h3⟩ := exact64 false n h0 h
  refine ⟨_, m', p', rfl, by rw [kf_pos h0]; exact h1, ?_⟩
  exact Le2.trans (fun B _ _ => Nat.mul_le_mul_right _ (by omega)) h3
theorem kf_pb {n e : Nat} (h0 : n ≠ 0) (h : n < 2 ^ 53) (he : n ≤ 2 ^ e) : Pb .f64 e (some (kf n)) := by
  obtain ⟨m', p', h1, h2, h3⟩ := exact64 false n h0 h
  refine ⟨_, m', p', rfl, by rw [kf_pos h0]; exact h1, ?_⟩
  have h4 := (FT.pow_eq e 0).1
  rw [Int.zero_add] at h4
  exact (h2.trans (fun B _ _ => Nat.mul_le_mul_right _ he)).trans h4
/-- constants: 1, 1/2, 1/4, a turn -/
def c1 : Nat := 4607182418800017408
def ch : Nat := 4602678819172646912
def cq : Nat := 4598175219545276416
def ct : Nat := 4618760256179416344
theorem c1_kf : kf 1 = c1 := by decide
theorem pb_num {b m : Nat} {p e : Int} (hd : FloatKind.f64.decode b = .number false m p) (hp : p ≤ e) (h : m ≤ 2 ^ (e - p).toNat) : Pb .f64 e (some b) := by
  refine ⟨b, m, p, rfl, hd, Le2.of (B := p) (Int.le_refl _) hp ?_⟩
  rw [show (p - p).toNat = 0 by omega, Nat.pow_zero, Nat.mul_one, Nat.one_mul]
  exact h
theorem ge_num {b m : Nat} {p e : Int} (hd : FloatKind.f64.decode b = .number false m p) (hp : p ≤ e) (h : 2 ^ (e - p).toNat ≤ m) : Ge .f64 e (some b) := by
  refine ⟨b, m, p, rfl, hd, Le2.of (B := p) hp (Int.le_refl _) ?_⟩
  rw [show (p - p).toNat = 0 by omega, Nat.pow_zero, Nat.mul_one, Nat.one_mul]
  exact h
theorem pb_c1 : Pb .f64 0 (some c1) := pb_num (m := 4503599627370496) (p := -52) (by decide) (by omega) (by decide)
theorem ge_c1 : Ge .f64 0 (some c1) := ge_num (m := 4503599627370496) (p := -52) (by decide) (by omega) (by decide)
theorem pb_ch : Pb .f64 (-1) (some ch) := pb_num (m := 4503599627370496) (p := -53) (by decide) (by omega) (by decide)
theorem pb_cq : Pb .f64 (-2) (some cq) := pb_num (m := 4503599627370496) (p := -54) (by decide) (by omega) (by decide)
theorem pb_ct : Pb .f64 3 (some ct) := pb_num (m := 7074237752028440) (p := -50) (by decide) (by omega) (by decide)

/-- one round -/
def polyStep (u p : Option Nat) (j : Nat) : Option Nat := fop .sub .f64 (some c1) (fop .quo .f64 (fop .mul .f64 u p) (some (kf ((2 * j * (2 * j + 1) : Nat) : Int))))
/-- n rounds, from 8 down -/
def polyS (u : Option Nat) : Nat → Option Nat
  | 0 => some c1
  | n + 1 => polyStep u (polyS u n) (8 - n)

/-- what is left of a number of turns -/
def restF (x : Nat) (s : Bool) (m : Nat) (p : Int) : Option Nat :=
  bif flt .f64 (fop .sub .f64 (some x) (some (wholeF s m p))) (some 0) then fop .add .f64 (fop .sub .f64 (some x) (some (wholeF s m p))) (some c1) else fop .sub .f64 (some x) (some (wholeF s m p))
def sineT (F : Option Nat) : Bool := fge .f64 F (some ch)
def sineG (F : Option Nat) : Option Nat := bif sineT F then fop .sub .f64 F (some ch) else F
def sineH (F : Option Nat) : Option Nat := bif fgt .f64 (sineG F) (some cq) then fop .sub .f64 (some ch) (sineG F) else sineG F
def sineZ (F : Option Nat) : Option Nat := fop .mul .f64 (sineH F) (some ct)
def sineU (F : Option Nat) : Option Nat := fop .mul .f64 (sineZ F) (sineZ F)
def sineR (F : Option Nat) : Option Nat := fop .mul .f64 (sineZ F) (polyS (sineU F) 8)
def sineV (F : Option Nat) : Option Nat := bif sineT F then fneg .f64 (sineR F) else sineR F

theorem restF_bd {x : Nat} {s : Bool} {m : Nat} {p : Int} (dx : FloatKind.f64.decode x = .number s m p) (h : Low m p) : Bd .f64 1 (restF x s m p) := by
  have h1 := rest_bd dx h
  unfold restF
  cases flt .f64 (fop .sub .f64 (some x) (some (wholeF s m p))) (some 0)
  · exact h1.mono (by omega)
  · exact bd_add (a := 0) (b := 0) (has64 (by omega) (by omega)) h1 pb_c1.bd
theorem sineG_bd {F : Option Nat} {a : Int} (h : Bd .f64 a F) (ha : -1 ≤ a) (hb : a ≤ 100) : Bd .f64 (a + 1) (sineG F) := by
  unfold sineG
  cases sineT F
  · exact h.mono (by omega)
  · exact (bd_sub (a := a) (b := -1) (has64 (by omega) (by omega)) h pb_ch.bd).mono (by omega)
theorem sineH_bd {F : Option Nat} {a : Int} (h : Bd .f64 a F) (ha : -1 ≤ a) (hb : a ≤ 100) : Bd .f64 (a + 2) (sineH F) := by
  have h1 := sineG_bd h ha hb
  unfold sineH
  cases fgt .f64 (sineG F) (some cq)
  · exact h1.mono (by omega)
  · exact (bd_sub (a := -1) (b := a + 1) (has64 (by omega) (by omega)) pb_ch.bd h1).mono (by omega)
theorem sineZ_bd {F : Option Nat} (h : Bd .f64 1 F) : Bd .f64 6 (sineZ F) := bd_mul (a := 3) (b := 3) (has64 (by omega) (by omega)) (sineH_bd h (by omega) (by omega)) pb_ct.bd
theorem sineU_bd {F : Option Nat} (h : Bd .f64 1 F) : Bd .f64 12 (sineU F) := bd_mul (a := 6) (b := 6) (has64 (by omega) (by omega)) (sineZ_bd h) (sineZ_bd h)
theorem polyS_bd {u : Option Nat} (h : Bd .f64 12 u) : ∀ n : Nat, n ≤ 8 → Bd .f64 (13 * n) (polyS u n)
  | 0, _ => pb_c1.bd
  | n + 1, hn => by
    have ih := polyS_bd h n (by omega)
    unfold polyS polyStep
    have h1 := bd_mul (a := 12) (b := 13 * n) (has64 (by omega) (by omega)) h ih
    have hk : (2 * (8 - n) * (2 * (8 - n) + 1)) ≠ 0 := Nat.mul_ne_zero (by omega) (by omega)
    have hk2 : (2 * (8 - n) * (2 * (8 - n) + 1)) ≤ 16 * 17 := Nat.mul_le_mul (by omega) (by omega)
    have h2 := bd_quo (a := 12 + 13 * n) (c := 0) (has64 (by omega) (by omega)) h1 (kf_ge hk (by omega))
    exact (bd_sub (a := 0) (b := 12 + 13 * n - 0) (has64 (by omega) (by omega)) pb_c1.bd h2).mono (by omega)
theorem sineR_bd {F : Option Nat} (h : Bd .f64 1 F) : Bd .f64 110 (sineR F) := by
  have := bd_mul (a := 6) (b := 13 * ((8 : Nat) : Int)) (has64 (by omega) (by omega)) (sineZ_bd h) (polyS_bd (sineU_bd h) 8 (by omega))
  exact this.mono (by omega)

/-- the sign turned -/
theorem decode_neg (b : Nat) : FloatKind.f64.decode (Op.negFloat .f64 b) = (FloatKind.f64.decode b).opposite := by
  have e : Op.negFloat .f64 b = b ^^^ 2 ^ 63 := rfl
  have h1 : (b ^^^ 2 ^ 63) % 2 ^ 63 = b % 2 ^ 63 := by rw [Nat.xor_mod_two_pow, Nat.mod_self, Nat.xor_zero]
  have h2 : ((b ^^^ 2 ^ 63) / 2 ^ 63 % 2 == 1) = !(b / 2 ^ 63 % 2 == 1) := by
    have ha : (b ^^^ 2 ^ 63).testBit 63 = !b.testBit 63 := by rw [Nat.testBit_xor, Nat.testBit_two_pow_self, Bool.xor_true]
    simp only [Nat.testBit_eq_decide_div_mod_eq] at ha
    have e1 : ∀ q : Nat, (q % 2 == 1) = decide (q % 2 = 1) := fun q => by rw [Bool.eq_iff_iff]; simp
    rw [e1, e1]
    exact ha
  have sw : FloatKind.f64.format.signWeight = 2 ^ 63 := by decide
  unfold FloatKind.decode Format.read
  rw [sw, e, h1, h2]
  dsimp only
  split
  · rfl
  · split
    · rfl
    · split <;> rfl
theorem av_neg (b : Nat) : av .f64 (Op.negFloat .f64 b) = fneg .f64 (av .f64 b) := by
  unfold av
  rw [decode_neg, opposite_nan]
  split <;> rfl
theorem bd_neg {a : Int} {X : Option Nat} (h : Bd .f64 a X) : Bd .f64 a (fneg .f64 X) := by
  obtain ⟨b, s, m, p, rfl, d, l⟩ := h
  exact ⟨_, !s, m, p, rfl, by rw [decode_neg, d]; rfl, l⟩
theorem sineV_bd {F : Option Nat} (h : Bd .f64 1 F) : Bd .f64 110 (sineV F) := by
  unfold sineV
  cases sineT F
  · exact sineR_bd h
  · exact bd_neg (sineR_bd h)
theorem sineV_fits {F : Option Nat} (h : Bd .f64 1 F) : Fits .f64 .f32 (sineV F) := (fits_bd (by decide) (has32 (by omega) (by omega)) (sineV_bd h)).1
end Go.Proofs.YtedpbidphajngaaDoor
