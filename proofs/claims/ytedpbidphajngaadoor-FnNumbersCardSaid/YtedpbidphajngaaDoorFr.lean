/- Rounding keeps a number on its side of a power of two; the bounds that follow for sums, products, quotients, roots and conversions. No program is in sight. -/
import Derived.Test.YtedpbidphajngaaDoorFt
namespace Go.Proofs.YtedpbidphajngaaDoor.FT
open Ieee
set_option linter.unusedVariables false
set_option linter.unusedSimpArgs false

theorem cut_le (neg : Bool) (n drop K : Nat) (h : n ≤ K * 2 ^ drop) : Toward.even.cut neg n drop ≤ K := by
  unfold Toward.cut
  dsimp only
  rw [Nat.shiftLeft_eq, Nat.one_mul]
  rcases (Nat.lt_or_ge (n.log2 + 2) drop).symm with hd | hd
  · rw [Nat.min_eq_left hd]
    have hp : 0 < 2 ^ drop := Nat.two_pow_pos _
    have hq : n / 2 ^ drop ≤ K := by
      rw [Nat.div_le_iff_le_mul hp]; omega
    rcases Nat.lt_or_ge (n / 2 ^ drop) K with hl | hl
    · cases (decide (2 ^ drop < 2 * (n % 2 ^ drop)) || 2 ^ drop == 2 * (n % 2 ^ drop) && n / 2 ^ drop % 2 == 1) <;> simp <;> omega
    · have hk : n / 2 ^ drop = K := by omega
      have hm : n % 2 ^ drop = 0 := by
        have := Nat.div_add_mod n (2 ^ drop)
        rw [hk, Nat.mul_comm] at this
        omega
      rw [hm, hk]
      have h0 : (2 ^ drop == 0) = false := by rw [beq_eq_false_iff_ne]; omega
      simp [h0]
  · rw [Nat.min_eq_right (by omega)]
    have hlt : n < 2 ^ (n.log2 + 1) := Nat.lt_log2_self
    have e : 2 ^ (n.log2 + 2) = 2 * 2 ^ (n.log2 + 1) := by rw [Nat.pow_succ]; omega
    have hq : n / 2 ^ (n.log2 + 2) = 0 := Nat.div_eq_of_lt (by omega)
    have hm : n % 2 ^ (n.log2 + 2) = n := Nat.mod_eq_of_lt (by omega)
    rw [hq, hm]
    have h1 : ¬ 2 ^ (n.log2 + 2) < 2 * n := by omega
    simp [h1]

theorem cut_ge (neg : Bool) (n drop K : Nat) (h : K * 2 ^ drop ≤ n) : K ≤ Toward.even.cut neg n drop := by
  rcases Nat.eq_zero_or_pos K with h0 | h0
  · omega
  unfold Toward.cut
  dsimp only
  rw [Nat.shiftLeft_eq, Nat.one_mul]
  have hlt : n < 2 ^ (n.log2 + 1) := Nat.lt_log2_self
  have hd : drop ≤ n.log2 + 2 := by
    rcases (Nat.lt_or_ge (n.log2 + 2) drop).symm with hd | hd
    · exact hd
    · exfalso
      have h1 : 2 ^ (n.log2 + 1) ≤ 2 ^ drop := Nat.pow_le_pow_right (by omega) (by omega)
      have h2 : 1 * 2 ^ drop ≤ K * 2 ^ drop := Nat.mul_le_mul_right _ h0
      omega
  rw [Nat.min_eq_left hd]
  have hp : 0 < 2 ^ drop := Nat.two_pow_pos _
  have : K ≤ n / 2 ^ drop := (Nat.le_div_iff_mul_le hp).2 h
  omega

/-- 'number s m p' is 'k * 2^l', whatever way it is written -/
def Is (d : Datum) (s : Bool) (k : Nat) (l : Int) : Prop := ∃ m p, d = .number s m p ∧ Le2 m p k l ∧ Le2 k l m p

theorem D_small (f : Format) (s : Bool) (a kept : Nat) (h2 : kept ≤ 2 * f.binade) (ha : a = 0 ∨ f.binade ≤ kept) (hlt : a * f.binade + kept < f.infRung) :
    Is (D f s (a * f.binade + kept)) s kept (f.leastPlace + a) := by
  have hb : 0 < f.binade := Nat.two_pow_pos _
  unfold D
  by_cases h1 : a * f.binade + kept < f.binade
  · have h0 : a = 0 := by
      rcases ha with h | h
      · exact h
      · omega
    subst h0
    rw [if_pos h1]
    refine ⟨_, _, rfl, ?_, ?_⟩ <;> simp <;> exact Le2.refl _ _
  · rw [if_neg h1, if_pos hlt]
    rcases Nat.lt_or_ge kept (2 * f.binade) with hk | hk
    · have hkb : f.binade ≤ kept := by
        rcases ha with h | h
        · subst h; omega
        · exact h
      have e1 : (a * f.binade + kept) / f.binade = a + 1 := by
        rw [Nat.add_comm, Nat.add_mul_div_right _ _ hb]
        have : kept / f.binade = 1 := by
          rw [Nat.div_eq_of_lt_le]
          · omega
          · omega
        omega
      have e2 : (a * f.binade + kept) % f.binade = kept - f.binade := by
        rw [Nat.add_comm, Nat.add_mul_mod_self_right, Nat.mod_eq_sub_mod hkb, Nat.mod_eq_of_lt (by omega)]
      rw [e1, e2]
      refine ⟨_, _, rfl, ?_, ?_⟩
      all_goals
        rw [show f.binade + (kept - f.binade) = kept by omega, show ((a + 1 - 1 : Nat) : Int) = (a : Int) by omega]
        exact Le2.refl _ _
    · have hk2 : kept = 2 * f.binade := by omega
      subst hk2
      have e1 : (a * f.binade + 2 * f.binade) / f.binade = a + 2 := by
        rw [← Nat.add_mul, Nat.mul_div_cancel _ hb]
      have e2 : (a * f.binade + 2 * f.binade) % f.binade = 0 := by
        rw [← Nat.add_mul, Nat.mul_mod_left]
      rw [e1, e2]
      refine ⟨_, _, rfl, ?_, ?_⟩
      · refine Le2.of (B := f.leastPlace) (by omega) (by omega) ?_
        rw [show (f.leastPlace + ((a + 2 - 1 : Nat) : Int) - f.leastPlace).toNat = a + 1 by omega, show (f.leastPlace + (a : Int) - f.leastPlace).toNat = a by omega, Nat.pow_succ]
        have : (f.binade + 0) * (2 ^ a * 2) = 2 * f.binade * 2 ^ a := by rw [Nat.add_zero]; ac_rfl
        omega
      · refine Le2.of (B := f.leastPlace) (by omega) (by omega) ?_
        rw [show (f.leastPlace + ((a + 2 - 1 : Nat) : Int) - f.leastPlace).toNat = a + 1 by omega, show (f.leastPlace + (a : Int) - f.leastPlace).toNat = a by omega, Nat.pow_succ]
        have : (f.binade + 0) * (2 ^ a * 2) = 2 * f.binade * 2 ^ a := by rw [Nat.add_zero]; ac_rfl
        omega

/-- the place of the last digit that is kept, and what is kept -/
def lastOf (f : Format) (m : Nat) (p : Int) : Int := max (p + m.log2 - f.fractionBits) f.leastPlace
def keptOf (f : Format) (neg : Bool) (m : Nat) (p : Int) : Nat := Toward.even.cut neg (m <<< (p - lastOf f m p).toNat) (lastOf f m p - p).toNat

theorem shift_cmp_le {m : Nat} {p last : Int} {K : Nat} (h : Le2 m p K last) : m <<< (p - last).toNat ≤ K * 2 ^ (last - p).toNat := by
  rw [Nat.shiftLeft_eq]
  rcases Int.le_total p last with hl | hl
  · have := h p (Int.le_refl _) hl
    rw [show (p - p).toNat = 0 by omega] at this
    rw [show (p - last).toNat = 0 by omega]
    exact this
  · have := h last hl (Int.le_refl _)
    rw [show (last - last).toNat = 0 by omega] at this
    rw [show (last - p).toNat = 0 by omega]
    exact this
theorem shift_cmp_ge {m : Nat} {p last : Int} {K : Nat} (h : Le2 K last m p) : K * 2 ^ (last - p).toNat ≤ m <<< (p - last).toNat := by
  rw [Nat.shiftLeft_eq]
  rcases Int.le_total p last with hl | hl
  · have := h p hl (Int.le_refl _)
    rw [show (p - p).toNat = 0 by omega] at this
    rw [show (p - last).toNat = 0 by omega]
    exact this
  · have := h last (Int.le_refl _) hl
    rw [show (last - last).toNat = 0 by omega] at this
    rw [show (last - p).toNat = 0 by omega]
    exact this

theorem log_le {m : Nat} (hm : m ≠ 0) (p : Int) : Le2 1 (p + m.log2) m p := by
  refine Le2.of (B := p) (by omega) (Int.le_refl _) ?_
  rw [show (p + (m.log2 : Int) - p).toNat = m.log2 by omega, show (p - p).toNat = 0 by omega, Nat.one_mul, Nat.pow_zero, Nat.mul_one]
  exact Nat.log2_self_le hm
theorem le_log (m : Nat) (p : Int) : Le2 m p 1 (p + m.log2 + 1) := by
  refine Le2.of (B := p) (Int.le_refl _) (by omega) ?_
  rw [show (p + (m.log2 : Int) + 1 - p).toNat = m.log2 + 1 by omega, show (p - p).toNat = 0 by omega, Nat.one_mul, Nat.pow_zero, Nat.mul_one]
  exact Nat.le_of_lt Nat.lt_log2_self
theorem pow_eq (k : Nat) (l : Int) : Le2 (2 ^ k) l 1 (l + k) ∧ Le2 1 (l + k) (2 ^ k) l := by
  constructor
  · refine Le2.of (B := l) (Int.le_refl _) (by omega) ?_
    rw [show (l + (k : Int) - l).toNat = k by omega, show (l - l).toNat = 0 by omega]; simp
  · refine Le2.of (B := l) (by omega) (Int.le_refl _) ?_
    rw [show (l + (k : Int) - l).toNat = k by omega, show (l - l).toNat = 0 by omega]; simp

theorem kept_le {f : Format} {neg : Bool} {m : Nat} {p : Int} {K : Nat} (h : Le2 m p K (lastOf f m p)) : keptOf f neg m p ≤ K := cut_le _ _ _ _ (shift_cmp_le h)
theorem kept_ge {f : Format} {neg : Bool} {m : Nat} {p : Int} {K : Nat} (h : Le2 K (lastOf f m p) m p) : K ≤ keptOf f neg m p := cut_ge _ _ _ _ (shift_cmp_ge h)

theorem binade_pow (f : Format) : f.binade = 2 ^ f.fractionBits := rfl

theorem kept_top (f : Format) (neg : Bool) (m : Nat) (p : Int) : keptOf f neg m p ≤ 2 * f.binade := by
  refine kept_le ?_
  have h1 := le_log m p
  have h2 : Le2 1 (p + m.log2 + 1) (2 ^ (f.fractionBits + 1)) (lastOf f m p) := by
    have h3 := (pow_eq (f.fractionBits + 1) (lastOf f m p)).2
    exact h3.anti (by unfold lastOf; omega)
  rw [show 2 * f.binade = 2 ^ (f.fractionBits + 1) by rw [binade_pow, Nat.pow_succ]; omega]
  exact h1.trans h2
theorem kept_low (f : Format) (neg : Bool) (m : Nat) (hm : m ≠ 0) (p : Int) (hl : f.leastPlace < lastOf f m p) : f.binade ≤ keptOf f neg m p := by
  refine kept_ge ?_
  have h1 := log_le hm p
  have h3 := (pow_eq f.fractionBits (lastOf f m p)).1
  rw [binade_pow]
  exact (h3.mono (by unfold lastOf at *; omega)).trans h1

theorem nearest_eq (f : Format) (neg : Bool) (m : Nat) (hm : m ≠ 0) (p : Int) :
    f.nearest neg m p = f.word neg (min ((lastOf f m p - f.leastPlace).toNat * f.binade + keptOf f neg m p) f.infRung) := by
  unfold Format.nearest
  rw [if_neg hm]
  rfl

/-- what is read of a rounded number that is not too great -/
theorem nearest_is (f : Format) (neg : Bool) (m : Nat) (hm : m ≠ 0) (p : Int) (hlt : (lastOf f m p - f.leastPlace).toNat * f.binade + keptOf f neg m p < f.infRung) :
    Is (f.read (f.nearest neg m p)) neg (keptOf f neg m p) (lastOf f m p) := by
  have hi := f.infRung_lt
  rw [nearest_eq f neg m hm p, Nat.min_eq_left (Nat.le_of_lt hlt), read_word f neg _ (by omega)]
  have := D_small f neg (lastOf f m p - f.leastPlace).toNat (keptOf f neg m p) (kept_top f neg m p) ?_ hlt
  · rwa [show f.leastPlace + ((lastOf f m p - f.leastPlace).toNat : Int) = lastOf f m p by unfold lastOf; omega] at this
  · rcases Int.lt_or_le f.leastPlace (lastOf f m p) with h | h
    · exact .inr (kept_low f neg m hm p h)
    · exact .inl (by omega)

/-- the format has 2^e, and twice as much -/
def Has (f : Format) (e : Int) : Prop := f.leastPlace ≤ e ∧ (e - f.fractionBits - f.leastPlace + 3 : Int) ≤ ((2 ^ f.exponentBits - 1 : Nat) : Int) ∧ 3 ≤ 2 ^ f.exponentBits - 1

theorem pow_le_of (a b : Int) (h : Le2 1 a 1 b) : a ≤ b := by
  have := h (min a b) (by omega) (by omega)
  rw [Nat.one_mul, Nat.one_mul] at this
  have h2 := (Nat.pow_le_pow_iff_right (a := 2) (by omega)).1 this
  omega

theorem kept_bound {f : Format} {neg : Bool} {m : Nat} (hm : m ≠ 0) {p e : Int} (he : f.leastPlace ≤ e) (h : Le2 m p 1 e) : lastOf f m p ≤ e ∧ Le2 (keptOf f neg m p) (lastOf f m p) 1 e := by
  have hl : lastOf f m p ≤ e := by
    have := pow_le_of _ _ ((log_le hm p).trans h)
    unfold lastOf; omega
  refine ⟨hl, ?_⟩
  have h1 := pow_eq (e - lastOf f m p).toNat (lastOf f m p)
  rw [show lastOf f m p + ((e - lastOf f m p).toNat : Int) = e by omega] at h1
  have hk : keptOf f neg m p ≤ 2 ^ (e - lastOf f m p).toNat := kept_le (h.trans h1.2)
  refine Le2.trans ?_ h1.1
  exact fun B _ _ => Nat.mul_le_mul_right _ hk

/-- ROUNDING KEEPS WHAT IS AT MOST 2^e THERE (and finite). -/
theorem nearest_le {f : Format} {neg : Bool} {m : Nat} {p e : Int} (he : Has f e) (h : Le2 m p 1 e) : ∃ m' p', f.read (f.nearest neg m p) = .number neg m' p' ∧ Le2 m' p' 1 e := by
  rcases Nat.eq_zero_or_pos m with h0 | h0
  · subst h0
    have hi := f.infRung_lt
    have hb : 0 < f.binade := Nat.two_pow_pos _
    refine ⟨0, f.leastPlace, ?_, Le2.zero _ _ _⟩
    unfold Format.nearest
    rw [if_pos rfl, read_word f neg 0 (by omega)]
    unfold D
    rw [if_pos hb]
  · have hm : m ≠ 0 := by omega
    obtain ⟨hl, hk⟩ := kept_bound (f := f) (neg := neg) hm he.1 h
    have hb : 0 < f.binade := Nat.two_pow_pos _
    have hlt : (lastOf f m p - f.leastPlace).toNat * f.binade + keptOf f neg m p < f.infRung := by
      have ht := kept_top f neg m p
      unfold Format.infRung
      have hmul : ∀ X : Nat, X + 3 ≤ 2 ^ f.exponentBits - 1 → X * f.binade + keptOf f neg m p < (2 ^ f.exponentBits - 1) * f.binade := by
        intro X hX
        have h1 : (X + 3) * f.binade ≤ (2 ^ f.exponentBits - 1) * f.binade := Nat.mul_le_mul_right _ hX
        rw [Nat.add_mul] at h1
        omega
      refine hmul _ ?_
      have he2 := he.2.1
      rcases Int.lt_or_le f.leastPlace (lastOf f m p) with hlp | hlp
      · have hkl := kept_low f neg m hm p hlp
        have h1 : Le2 f.binade (lastOf f m p) 1 e := Le2.trans (fun B _ _ => Nat.mul_le_mul_right _ hkl) hk
        have h2 := pow_le_of _ _ (((pow_eq f.fractionBits (lastOf f m p)).2).trans h1)
        omega
      · have : (lastOf f m p - f.leastPlace).toNat = 0 := by omega
        rw [this]
        have := he.2.2
        omega
    obtain ⟨m', p', e1, e2, e3⟩ := nearest_is f neg m hm p hlt
    exact ⟨m', p', e1, e2.trans hk⟩

/-- ROUNDING KEEPS WHAT IS AT LEAST 2^e THERE. -/
theorem nearest_ge {f : Format} {neg : Bool} {m : Nat} {p e : Int} (hx : 1 ≤ 2 ^ f.exponentBits - 1) (he : f.leastPlace ≤ e) (h : Le2 1 e m p) {m' : Nat} {p' : Int} {s : Bool}
    (hr : f.read (f.nearest neg m p) = .number s m' p') : Le2 1 e m' p' := by
  have hi := f.infRung_lt
  have hm : m ≠ 0 := by
    rintro rfl
    have := h (min e p) (by omega) (by omega)
    rw [Nat.zero_mul, Nat.one_mul] at this
    have := Nat.two_pow_pos (e - min e p).toNat
    omega
  rcases Nat.lt_or_ge ((lastOf f m p - f.leastPlace).toNat * f.binade + keptOf f neg m p) f.infRung with hlt | hge
  · obtain ⟨m1, p1, e1, _, e3⟩ := nearest_is f neg m hm p hlt
    rw [e1] at hr
    injection hr with _ hm1 hp1
    subst hm1; subst hp1
    refine Le2.trans ?_ e3
    rcases Int.le_total (lastOf f m p) e with hl | hl
    · have h1 := pow_eq (e - lastOf f m p).toNat (lastOf f m p)
      rw [show lastOf f m p + ((e - lastOf f m p).toNat : Int) = e by omega] at h1
      have hk : 2 ^ (e - lastOf f m p).toNat ≤ keptOf f neg m p := kept_ge (h1.1.trans h)
      exact h1.2.trans (fun B _ _ => Nat.mul_le_mul_right _ hk)
    · rcases Int.lt_or_le f.leastPlace (lastOf f m p) with hlp | hlp
      · have hkl := kept_low f neg m hm p hlp
        have h1 := (pow_eq f.fractionBits (lastOf f m p)).2
        refine Le2.trans (Le2.pow (by omega)) (h1.trans (fun B _ _ => Nat.mul_le_mul_right _ hkl))
      · have hle : e = lastOf f m p := by omega
        have hk : 1 ≤ keptOf f neg m p := by
          refine kept_ge ?_
          rw [← hle]; exact h
        rw [hle]
        exact fun B _ _ => Nat.mul_le_mul_right _ hk
  · rw [nearest_eq f neg m hm p, Nat.min_eq_right hge, read_word f neg _ hi] at hr
    unfold D at hr
    have hb : f.binade ≤ f.infRung := by
      unfold Format.infRung
      exact Nat.le_mul_of_pos_left _ (by omega)
    rw [if_neg (by omega), if_neg (by omega), if_pos rfl] at hr
    cases hr
end Go.Proofs.YtedpbidphajngaaDoor.FT
