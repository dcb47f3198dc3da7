/- The point of the unit circle at a number of turns, as what matters of floats. No program is in sight. -/
import Derived.Test.YtdbpkkbijpppfaaLv
namespace Go.Proofs.Ytdbpkkbijpppfaa
open Ieee Go.RowKit
open FT (Le2 Has lastOf keptOf)
set_option linter.unusedVariables false
set_option linter.unusedSimpArgs false

/-- rounding keeps what is at most K units there -/
theorem nearest_leK {f : Format} {neg : Bool} {m : Nat} {p l : Int} {K : Nat} {m' : Nat} {p' : Int} {s : Bool} (hm : m ≠ 0) (hl : lastOf f m p ≤ l) (h : Le2 m p K l) (hx : 1 ≤ 2 ^ f.exponentBits - 1)
    (hr : f.read (f.nearest neg m p) = .number s m' p') : Le2 m' p' K l := by
  have hi := f.infRung_lt
  rcases Nat.lt_or_ge ((lastOf f m p - f.leastPlace).toNat * f.binade + keptOf f neg m p) f.infRung with hlt | hge
  · obtain ⟨m1, p1, e1, e2, _⟩ := FT.nearest_is f neg m hm p hlt
    rw [e1] at hr
    injection hr with _ hm1 hp1
    subst hm1; subst hp1
    refine e2.trans ?_
    have hq : Le2 K l (K * 2 ^ (l - lastOf f m p).toNat) (lastOf f m p) ∧ Le2 (K * 2 ^ (l - lastOf f m p).toNat) (lastOf f m p) K l := by
      constructor
      · refine Le2.of (B := lastOf f m p) hl (Int.le_refl _) ?_
        rw [show (lastOf f m p - lastOf f m p).toNat = 0 by omega]; simp
      · refine Le2.of (B := lastOf f m p) (Int.le_refl _) hl ?_
        rw [show (lastOf f m p - lastOf f m p).toNat = 0 by omega]; simp
    have hk : keptOf f neg m p ≤ K * 2 ^ (l - lastOf f m p).toNat := FT.kept_le (h.trans hq.1)
    exact Le2.trans (fun B _ _ => Nat.mul_le_mul_right _ hk) hq.2
  · rw [FT.nearest_eq f neg m hm p, Nat.min_eq_right hge, FT.read_word f neg _ hi] at hr
    unfold FT.D at hr
    have hb : f.binade ≤ f.infRung := by
      unfold Format.infRung
      exact Nat.le_mul_of_pos_left _ (by omega)
    rw [if_neg (by omega), if_neg (by omega), if_pos rfl] at hr
    cases hr
/-- from 0 to K quarters -/
def Qb (K : Nat) (F : Option Nat) : Prop := ∃ x s m p, F = some x ∧ FloatKind.f64.decode x = .number s m p ∧ (s = false ∨ m = 0) ∧ Le2 m p K (-2)
theorem dec_cq : FloatKind.f64.decode cq = .number false 4503599627370496 (-54) := by decide
theorem dec_c1 : FloatKind.f64.decode c1 = .number false 4503599627370496 (-52) := by decide
theorem write_total {T : Nat} {b : Int} {K : Nat} (hK : K ≤ 4) (h : Le2 T b K (-2)) : ∃ m' p', FloatKind.f64.decode (FloatKind.f64.format.write (.number false T b)) = .number false m' p' ∧ Le2 m' p' K (-2) := by
  have h1 : Le2 T b 1 0 := by
    refine h.trans (Le2.of (B := -2) (Int.le_refl _) (by omega) ?_)
    rw [show ((-2 : Int) - -2).toNat = 0 by omega, show ((0 : Int) - -2).toNat = 2 by omega]
    omega
  obtain ⟨m', p', f1, f2⟩ := write_bd (k := .f64) (s := false) (has64 (by omega) (by omega)) h1
  refine ⟨m', p', f1, ?_⟩
  rcases Nat.eq_zero_or_pos T with h0 | h0
  · subst h0
    have e : FloatKind.f64.format.write (.number false 0 b) = 0 := by
      unfold Format.write Format.nearest
      simp only [if_true]
      rfl
    rw [e] at f1
    have d0 : FloatKind.f64.decode 0 = .number false 0 (-1074) := by decide
    rw [d0] at f1
    injection f1 with _ e1 e2
    subst e1
    exact Le2.zero _ _ _
  · have hm : T ≠ 0 := by omega
    have h2 := FT.pow_le_of _ _ ((FT.log_le hm b).trans h1)
    have e1 : FloatKind.f64.format.leastPlace = -1074 := by decide
    have e2 : FloatKind.f64.format.fractionBits = 52 := rfl
    have hl : lastOf FloatKind.f64.format T b ≤ -2 := by unfold lastOf; rw [e1, e2]; omega
    exact nearest_leK hm hl h (by decide) f1
theorem quart {F : Option Nat} {K : Nat} (hK : K ≤ 4) (h : Qb K F) (hq : fge .f64 F (some cq) = true) : 1 ≤ K ∧ Qb (K - 1) (fop .sub .f64 F (some cq)) := by
  obtain ⟨x, s, m, p, rfl, dx, hs, hl⟩ := h
  have hsf : s = false ∧ m ≠ 0 := by
    have ho := ord_num dx dec_cq
    replace hq : (FloatKind.f64.format.order x cq == some .gt || FloatKind.f64.format.order x cq == some .eq) = true := hq
    rw [ho] at hq
    simp only [Option.some_beq_some, cmp_gt, cmp_eq, signed, Nat.shiftLeft_eq, Bool.false_eq_true, if_false, Bool.or_eq_true, decide_eq_true_eq] at hq
    have hp : 0 < 4503599627370496 * 2 ^ (-54 - min p (-54)).toNat := Nat.mul_pos (by omega) (Nat.two_pow_pos _)
    generalize 4503599627370496 * 2 ^ (-54 - min p (-54)).toNat = C at hp hq
    have hm : m ≠ 0 := by
      rintro rfl
      rw [Nat.zero_mul] at hq
      cases s <;> simp at hq <;> omega
    exact ⟨hs.resolve_right hm, hm⟩
  obtain ⟨rfl, hm⟩ := hsf
  have hge := (ge_iff dx dec_cq).1 hq
  have hc : Le2 4503599627370496 (-54) 1 (-2) ∧ Le2 1 (-2) 4503599627370496 (-54) := FT.pow_eq 52 (-54)
  rw [sub_decode dx dec_cq]
  have a1 := hge (min p (-54)) (by omega) (by omega)
  have a2 := hl (min p (-54)) (by omega) (by omega)
  have a3 := hc.1 (min p (-54)) (by omega) (by omega)
  have a4 := hc.2 (min p (-54)) (by omega) (by omega)
  rw [Nat.one_mul] at a3 a4
  have hpw : 0 < 2 ^ (-2 - min p (-54)).toNat := Nat.two_pow_pos _
  have hKp : 1 ≤ K := by
    rcases Nat.eq_zero_or_pos K with h0 | h0
    · subst h0; rw [Nat.zero_mul] at a2; omega
    · exact h0
  refine ⟨hKp, ?_⟩
  have htot : signed false m (p - min p (-54)).toNat + signed (!false) 4503599627370496 (-54 - min p (-54)).toNat = ((m * 2 ^ (p - min p (-54)).toNat - 4503599627370496 * 2 ^ (-54 - min p (-54)).toNat : Nat) : Int) := by
    simp only [signed, Nat.shiftLeft_eq, Bool.not_false, Bool.false_eq_true, if_false, if_true]
    omega
  rw [htot, Int.natAbs_natCast]
  have hsg : (if ((m * 2 ^ (p - min p (-54)).toNat - 4503599627370496 * 2 ^ (-54 - min p (-54)).toNat : Nat) : Int) = 0 then false && !false else decide (((m * 2 ^ (p - min p (-54)).toNat - 4503599627370496 * 2 ^ (-54 - min p (-54)).toNat : Nat) : Int) < 0)) = false := by
    split
    · rfl
    · exact decide_eq_false (by omega)
  rw [hsg]
  obtain ⟨m', p', f1, f2⟩ := write_total (K := K - 1) (by omega) (T := m * 2 ^ (p - min p (-54)).toNat - 4503599627370496 * 2 ^ (-54 - min p (-54)).toNat) (b := min p (-54)) (by
    refine Le2.of (B := min p (-54)) (Int.le_refl _) (by omega) ?_
    rw [show (min p (-54) - min p (-54)).toNat = 0 by omega, Nat.pow_zero, Nat.mul_one, Nat.sub_mul, Nat.one_mul]
    omega)
  exact ⟨_, false, m', p', rfl, f1, .inl rfl, f2⟩
theorem restF_qb {x : Nat} {s : Bool} {m : Nat} {p : Int} (dx : FloatKind.f64.decode x = .number s m p) (h : Low m p) : Qb 4 (restF x s m p) := by
  have h4 : ∀ (n : Nat) (q : Int), Le2 n q 1 0 → Le2 n q 4 (-2) := fun n q h => h.trans (Le2.of (B := -2) (by omega) (Int.le_refl _) (by
    rw [show ((-2 : Int) - -2).toNat = 0 by omega, show ((0 : Int) - -2).toNat = 2 by omega]; omega))
  obtain ⟨y, t, n, q, e, dy, hl⟩ := rest_bd dx h
  unfold restF
  rw [e]
  cases hlt : flt .f64 (some y) (some 0)
  · refine ⟨y, t, n, q, rfl, dy, ?_, h4 _ _ hl⟩
    have ho := ord0_num dy
    replace hlt : (FloatKind.f64.format.order y 0 == some .lt) = false := hlt
    rw [ho] at hlt
    by_cases hn : n = 0
    · exact .inr hn
    · rw [if_neg hn] at hlt
      cases t
      · exact .inl rfl
      · simp at hlt
  · have ho := ord0_num dy
    replace hlt : (FloatKind.f64.format.order y 0 == some .lt) = true := hlt
    rw [ho] at hlt
    have hn : n ≠ 0 ∧ t = true := by
      by_cases hn : n = 0
      · rw [if_pos hn] at hlt; cases hlt
      · rw [if_neg hn] at hlt
        cases t
        · cases hlt
        · exact ⟨hn, rfl⟩
    obtain ⟨hn, rfl⟩ := hn
    show Qb 4 (fop .add .f64 (some y) (some c1))
    have hc : Le2 4503599627370496 (-52) 1 0 ∧ Le2 1 0 4503599627370496 (-52) := FT.pow_eq 52 (-52)
    have a1 := hl (min q (-52)) (by omega) (by omega)
    have a3 := hc.1 (min q (-52)) (by omega) (by omega)
    have a4 := hc.2 (min q (-52)) (by omega) (by omega)
    rw [Nat.one_mul] at a1 a3 a4
    have hv : fop .add .f64 (some y) (some c1) = some (FloatKind.f64.format.write (.number (if signed true n (q - min q (-52)).toNat + signed false 4503599627370496 (-52 - min q (-52)).toNat = 0 then true && false else decide (signed true n (q - min q (-52)).toNat + signed false 4503599627370496 (-52 - min q (-52)).toNat < 0)) (signed true n (q - min q (-52)).toNat + signed false 4503599627370496 (-52 - min q (-52)).toNat).natAbs (min q (-52)))) := by
      have d1 := dec_c1
      unfold FloatKind.decode at dy d1
      simp [fop, floatBits, Format.add, dy, d1, Datum.sum]
    rw [hv]
    have htot : signed true n (q - min q (-52)).toNat + signed false 4503599627370496 (-52 - min q (-52)).toNat = ((4503599627370496 * 2 ^ (-52 - min q (-52)).toNat - n * 2 ^ (q - min q (-52)).toNat : Nat) : Int) := by
      simp only [signed, Nat.shiftLeft_eq, Bool.false_eq_true, if_false, if_true]
      omega
    rw [htot, Int.natAbs_natCast]
    have hsg : (if ((4503599627370496 * 2 ^ (-52 - min q (-52)).toNat - n * 2 ^ (q - min q (-52)).toNat : Nat) : Int) = 0 then true && false else decide (((4503599627370496 * 2 ^ (-52 - min q (-52)).toNat - n * 2 ^ (q - min q (-52)).toNat : Nat) : Int) < 0)) = false := by
      split
      · rfl
      · exact decide_eq_false (by omega)
    rw [hsg]
    obtain ⟨m', p', f1, f2⟩ := write_total (K := 4) (by omega) (T := 4503599627370496 * 2 ^ (-52 - min q (-52)).toNat - n * 2 ^ (q - min q (-52)).toNat) (b := min q (-52)) (h4 _ _ (by
      refine Le2.of (B := min q (-52)) (Int.le_refl _) (by omega) ?_
      rw [show (min q (-52) - min q (-52)).toNat = 0 by omega, Nat.pow_zero, Nat.mul_one, Nat.one_mul]
      omega))
    exact ⟨_, false, m', p', rfl, f1, .inl rfl, f2⟩
/-- whole quarters are taken away -/
def quar : Nat → Option Nat → Int → Option Nat × Int
  | 0, F, q => (F, q)
  | f + 1, F, q => bif fge .f64 F (some cq) then quar f (fop .sub .f64 F (some cq)) (q + 1) else (F, q)
theorem quar_stop {f : Nat} {F : Option Nat} {q : Int} (h : fge .f64 F (some cq) = false) : quar f F q = (F, q) := by
  cases f
  · rfl
  · unfold quar; rw [h]; rfl
theorem quar_go {f : Nat} {F : Option Nat} {q : Int} (h : fge .f64 F (some cq) = true) : quar (f + 1) F q = quar f (fop .sub .f64 F (some cq)) (q + 1) := by
  conv => lhs; unfold quar
  rw [h]; rfl
theorem Qb.bd {K : Nat} {F : Option Nat} (h : Qb K F) (hK : K ≤ 4) : Bd .f64 0 F := by
  obtain ⟨x, s, m, p, rfl, d, _, l⟩ := h
  refine ⟨x, s, m, p, rfl, d, l.trans (Le2.of (B := -2) (Int.le_refl _) (by omega) ?_)⟩
  rw [show ((-2 : Int) - -2).toNat = 0 by omega, show ((0 : Int) - -2).toNat = 2 by omega]
  omega
end Go.Proofs.Ytdbpkkbijpppfaa
