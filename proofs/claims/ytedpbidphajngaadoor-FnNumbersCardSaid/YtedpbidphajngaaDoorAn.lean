/- The angle of a point in turns, as what matters of floats: it is small. No program is in sight. -/
import Derived.Test.YtedpbidphajngaaDoorLv
namespace Go.Proofs.YtedpbidphajngaaDoor
open Ieee Go.RowKit
open FT (Le2 Has)
set_option linter.unusedVariables false
set_option linter.unusedSimpArgs false

/-- a quotient of two that are not negative, the first not the greater -/
theorem pb_quo1 {x y m n : Nat} {i j : Int} (dx : FloatKind.f64.decode x = .number false m i) (dy : FloatKind.f64.decode y = .number false n j) (hn : n ≠ 0) (h : Le2 m i n j) : Pb .f64 0 (fop .quo .f64 (some x) (some y)) := by
  unfold FloatKind.decode at dx dy
  rcases Nat.eq_zero_or_pos m with h0 | h0
  · subst h0
    obtain ⟨m', p', h1, h2⟩ := write_bd (k := .f64) (s := false) (m := 0) (e := 0) (p := i - j - ((FloatKind.f64.format.fractionBits + 2 + n.log2 - (0 : Nat).log2 : Nat) : Int) - 1) (has64 (by omega) (by omega)) (Le2.zero _ _ _)
    refine ⟨_, m', p', ?_, h1, h2⟩
    simp [fop, floatBits, Format.div, dx, dy, Datum.quotient, hn]
  · have hq := quo_le5 (a := 0) (c := 0) (g := FloatKind.f64.format.fractionBits + 2) (i := i) (j := j) (show m ≠ 0 by omega) hn (by omega) (by rw [Int.add_zero, Int.zero_add]; exact h)
    obtain ⟨m', p', h1, h2⟩ := write_bd (k := .f64) (s := false) (has64 (by omega) (by omega)) hq
    refine ⟨_, m', p', ?_, h1, h2⟩
    simp [fop, floatBits, Format.div, dx, dy, Datum.quotient, hn]

def c8 : Nat := 4620693217682128896
theorem pb_c8 : Pb .f64 3 (some c8) := pb_num (m := 4503599627370496) (p := -49) (by decide) (by omega) (by decide)
theorem ge_ct : Ge .f64 0 (some ct) := ge_num (m := 7074237752028440) (p := -50) (by decide) (by omega) (by decide)
def angStep (t : Option Nat) : Option Nat := fop .quo .f64 t (fop .add .f64 (some c1) (fsqrt (fop .add .f64 (some c1) (fop .mul .f64 t t))))
def angT (T : Option Nat) : Nat → Option Nat
  | 0 => T
  | n + 1 => angStep (angT T n)
def angP (u : Option Nat) : Nat → Option Nat
  | 0 => some 0
  | n + 1 => fop .sub .f64 (fop .quo .f64 (some c1) (some (kf ((15 - 2 * n : Nat) : Int)))) (fop .mul .f64 u (angP u n))
def angU (T : Option Nat) : Option Nat := fop .mul .f64 (angT T 3) (angT T 3)
def angA (T : Option Nat) : Option Nat := fop .quo .f64 (fop .mul .f64 (some c8) (fop .mul .f64 (angT T 3) (angP (angU T) 8))) (some ct)
def angB (over : Bool) (T : Option Nat) : Option Nat := bif over then fop .sub .f64 (some cq) (angA T) else angA T
def angC (over xneg : Bool) (T : Option Nat) : Option Nat := bif xneg then fop .sub .f64 (some ch) (angB over T) else angB over T
def angV (over xneg yneg : Bool) (T : Option Nat) : Option Nat := bif yneg then fneg .f64 (angC over xneg T) else angC over xneg T
/-- the lesser by the greater -/
def angQ (over : Bool) (a b : Nat) : Option Nat := bif over then fop .quo .f64 (some b) (some a) else fop .quo .f64 (some a) (some b)

theorem angStep_pb {t : Option Nat} (h : Pb .f64 0 t) : Pb .f64 0 (angStep t) := by
  have h1 := pb_mul (a := 0) (b := 0) (has64 (by omega) (by omega)) h h
  have h2 := (ge_add (a := 0) (b := 0 + 0) (c := 0) (has64 (by omega) (by omega)) (least64 (by omega)) pb_c1 ge_c1 h1).1
  have h3 := pb_sqrt (a := 1) (has64 (by omega) (by omega)) (h2.mono (show max (0 : Int) (0 + 0) + 1 ≤ 2 * 1 by omega))
  have h4 := (ge_add (a := 0) (b := 1 + 1) (c := 0) (has64 (by omega) (by omega)) (least64 (by omega)) pb_c1 ge_c1 h3).2
  exact pb_quo (a := 0) (c := 0) (has64 (by omega) (by omega)) h h4
theorem angT_pb {T : Option Nat} (h : Pb .f64 0 T) : ∀ n, Pb .f64 0 (angT T n)
  | 0 => h
  | n + 1 => angStep_pb (angT_pb h n)
theorem angP_bd {u : Option Nat} (h : Bd .f64 0 u) : ∀ n : Nat, n ≤ 8 → Bd .f64 n (angP u n)
  | 0, _ => bd_zero
  | n + 1, hn => by
    have ih := angP_bd h n (by omega)
    unfold angP
    have h1 : Bd .f64 0 (fop .quo .f64 (some c1) (some (kf ((15 - 2 * n : Nat) : Int)))) := bd_quo (a := 0) (c := 0) (has64 (by omega) (by omega)) pb_c1.bd (kf_ge (by omega) (by omega))
    have h2 := bd_mul (a := 0) (b := n) (has64 (by omega) (by omega)) h ih
    exact (bd_sub (a := 0) (b := 0 + n) (has64 (by omega) (by omega)) h1 h2).mono (by omega)
theorem angA_bd {T : Option Nat} (h : Pb .f64 0 T) : Bd .f64 11 (angA T) := by
  have ht := angT_pb h 3
  have hu := (pb_mul (a := 0) (b := 0) (has64 (by omega) (by omega)) ht ht).bd
  have hp := angP_bd (u := angU T) (hu.mono (by omega)) 8 (by omega)
  have h1 := bd_mul (a := 0) (b := ((8 : Nat) : Int)) (has64 (by omega) (by omega)) ht.bd hp
  have h2 := bd_mul (a := 3) (b := 0 + ((8 : Nat) : Int)) (has64 (by omega) (by omega)) pb_c8.bd h1
  exact (bd_quo (c := 0) (has64 (by omega) (by omega)) h2 ge_ct).mono (by omega)
theorem angB_bd {T : Option Nat} (over : Bool) (h : Pb .f64 0 T) : Bd .f64 12 (angB over T) := by
  have h1 := angA_bd h
  unfold angB
  cases over
  · exact h1.mono (by omega)
  · exact (bd_sub (a := -2) (b := 11) (has64 (by omega) (by omega)) pb_cq.bd h1).mono (by omega)
theorem angC_bd {T : Option Nat} (over xneg : Bool) (h : Pb .f64 0 T) : Bd .f64 13 (angC over xneg T) := by
  have h1 := angB_bd over h
  unfold angC
  cases xneg
  · exact h1.mono (by omega)
  · exact (bd_sub (a := -1) (b := 12) (has64 (by omega) (by omega)) pb_ch.bd h1).mono (by omega)
theorem angV_bd {T : Option Nat} (over xneg yneg : Bool) (h : Pb .f64 0 T) : Bd .f64 13 (angV over xneg yneg T) := by
  have h1 := angC_bd over xneg h
  unfold angV
  cases yneg
  · exact h1
  · exact bd_neg h1
theorem angV_fits {T : Option Nat} (over xneg yneg : Bool) (h : Pb .f64 0 T) : Fits .f64 .f32 (angV over xneg yneg T) := (fits_bd (by decide) (has32 (by omega) (by omega)) (angV_bd over xneg yneg h)).1
theorem angQ_pb {a b m n : Nat} {i j : Int} (da : FloatKind.f64.decode a = .number false m i) (db : FloatKind.f64.decode b = .number false n j) (h : m ≠ 0 ∨ n ≠ 0) : Pb .f64 0 (angQ (FloatKind.f64.format.order a b == some .gt) a b) := by
  have ho := ord_num da db
  unfold angQ
  rw [ho]
  simp only [Option.some_beq_some, cmp_gt, signed, Nat.shiftLeft_eq, Bool.false_eq_true, if_false]
  by_cases hc : (((n * 2 ^ (j - min i j).toNat : Nat) : Int)) < ((m * 2 ^ (i - min i j).toNat : Nat) : Int)
  · rw [decide_eq_true hc]
    have hm : m ≠ 0 := by
      rintro rfl
      rw [Nat.zero_mul] at hc
      omega
    exact pb_quo1 db da hm (Le2.of (B := min i j) (by omega) (by omega) (by omega))
  · rw [decide_eq_false hc]
    have hn : n ≠ 0 := by
      rintro rfl
      have hm := h.resolve_right (fun h => h rfl)
      have := Nat.mul_pos (Nat.pos_of_ne_zero hm) (Nat.two_pow_pos (i - min i j).toNat)
      rw [Nat.zero_mul] at hc
      omega
    exact pb_quo1 da db hn (Le2.of (B := min i j) (by omega) (by omega) (by omega))
end Go.Proofs.YtedpbidphajngaaDoor
