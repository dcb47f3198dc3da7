/- Which floats are finite, and which are so great that they have no places behind the point. No program is in sight. -/
import Derived.Test.YtedpbidphajngaaDoorLg
namespace Go.Proofs.YtedpbidphajngaaDoor
open Ieee Go.RowKit
open FT (Le2 Has)
set_option linter.unusedVariables false
set_option linter.unusedSimpArgs false

def c52 : Nat := 4841369599423283200
def n52 : Nat := 14064741636278059008
theorem dec_c52 : FloatKind.f64.decode c52 = .number false 4503599627370496 0 := by decide
theorem dec_n52 : FloatKind.f64.decode n52 = .number true 4503599627370496 0 := by decide
theorem fin64_not {x : Nat} (h : ∀ s m p, FloatKind.f64.decode x ≠ .number s m p) : feq .f64 (fop .sub .f64 (av .f64 x) (av .f64 x)) (some 0) = false := by
  cases hd : FloatKind.f64.decode x with
  | number s m p => exact absurd hd (h s m p)
  | nan s t =>
    have : av .f64 x = none := by unfold av; rw [hd]; rfl
    rw [this]; rfl
  | infinity s =>
    have ha : av .f64 x = some x := av_of_not (by rw [hd]; rfl)
    have hr : FloatKind.f64.format.read x = .infinity s := hd
    rw [ha]
    unfold fop floatBits
    simp only [Format.sub, hr]
    cases s <;> simp [Datum.sum, Datum.opposite, feq, ford]
theorem sub_self64 {x : Nat} {s : Bool} {m : Nat} {p : Int} (h : FloatKind.f64.decode x = .number s m p) : fop .sub .f64 (some x) (some x) = some 0 := by
  rw [sub_decode h h]
  have e : signed s m (p - min p p).toNat + signed (!s) m (p - min p p).toNat = 0 := by
    simp only [signed]
    cases s <;> simp <;> omega
  rw [e]
  cases s <;> rfl
theorem fin64_yes {x : Nat} {s : Bool} {m : Nat} {p : Int} (h : FloatKind.f64.decode x = .number s m p) : feq .f64 (fop .sub .f64 (av .f64 x) (av .f64 x)) (some 0) = true := by
  rw [av_of_not (by rw [h]; rfl), sub_self64 h]
  decide
/-- the bits without the sign -/
theorem dec_abs {x : Nat} {s : Bool} {m : Nat} {p : Int} (h : FloatKind.f64.decode x = .number s m p) : FloatKind.f64.decode (x % 9223372036854775808) = .number false m p := by
  have sw : FloatKind.f64.format.signWeight = 9223372036854775808 := by decide
  unfold FloatKind.decode Format.read at h ⊢
  rw [sw] at h ⊢
  dsimp only at h ⊢
  rw [Nat.mod_mod, Nat.div_eq_of_lt (Nat.mod_lt _ (by omega))]
  split at h
  · rename_i h1
    rw [if_pos h1]
    injection h with _ e1 e2
    rw [e1, e2]; rfl
  · rename_i h1
    rw [if_neg h1]
    split at h
    · rename_i h2
      rw [if_pos h2]
      injection h with _ e1 e2
      rw [e1, e2]; rfl
    · split at h <;> cases h
theorem ord_num {x y m n : Nat} {s t : Bool} {p q : Int} (dx : FloatKind.f64.decode x = .number s m p) (dy : FloatKind.f64.decode y = .number t n q) :
    FloatKind.f64.format.order x y = some (compare (signed s m (p - min p q).toNat) (signed t n (q - min p q).toNat)) := by
  unfold FloatKind.decode at dx dy
  unfold Format.order
  rw [dx, dy]
  rfl
/-- whether a number is so great -/
def farB (m : Nat) (p : Int) : Bool := decide (4503599627370496 * 2 ^ (0 - min p 0).toNat ≤ m * 2 ^ (p - min p 0).toNat)
theorem far_not {m : Nat} {p : Int} (h : farB m p = false) : Low m p := by
  unfold farB at h
  have h1 := of_decide_eq_false h
  have h2 : Le2 m p 4503599627370496 0 := Le2.of (B := min p 0) (by omega) (by omega) (by omega)
  exact h2.trans (Le2.of (B := 0) (by omega) (by omega) (by decide))
theorem far_abs {x m : Nat} {s : Bool} {p : Int} (dx : FloatKind.f64.decode x = .number s m p) :
    (FloatKind.f64.format.order (x % 9223372036854775808) 4841369599423283200 == some .gt || FloatKind.f64.format.order (x % 9223372036854775808) 4841369599423283200 == some .eq) = farB m p := by
  have := ord_num (dec_abs dx) dec_c52
  unfold c52 at this
  rw [this]
  simp only [Option.some_beq_some, cmp_gt, cmp_eq, signed, Nat.shiftLeft_eq, Bool.false_eq_true, if_false]
  unfold farB
  generalize m * 2 ^ (p - min p 0).toNat = M
  generalize 4503599627370496 * 2 ^ (0 - min p 0).toNat = C
  rw [Bool.eq_iff_iff]
  simp only [Bool.or_eq_true, decide_eq_true_eq]
  omega
theorem far_two {x m : Nat} {s : Bool} {p : Int} (dx : FloatKind.f64.decode x = .number s m p) :
    ((FloatKind.f64.format.order x 4841369599423283200 == some .gt || FloatKind.f64.format.order x 4841369599423283200 == some .eq) || (FloatKind.f64.format.order x 14064741636278059008 == some .lt || FloatKind.f64.format.order x 14064741636278059008 == some .eq)) = farB m p := by
  have h1 := ord_num dx dec_c52
  have h2 := ord_num dx dec_n52
  unfold c52 at h1
  unfold n52 at h2
  rw [h1, h2]
  simp only [Option.some_beq_some, cmp_gt, cmp_lt, cmp_eq, signed, Nat.shiftLeft_eq, Bool.false_eq_true, if_false, if_true]
  unfold farB
  have hC : 0 < 4503599627370496 * 2 ^ (0 - min p 0).toNat := Nat.mul_pos (by omega) (Nat.two_pow_pos _)
  generalize m * 2 ^ (p - min p 0).toNat = M
  generalize 4503599627370496 * 2 ^ (0 - min p 0).toNat = C at *
  rw [Bool.eq_iff_iff]
  cases s <;> simp only [Bool.or_eq_true, decide_eq_true_eq, Bool.false_eq_true, if_false, if_true] <;> omega
end Go.Proofs.YtedpbidphajngaaDoor
