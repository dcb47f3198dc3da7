/- Decimal numerals read back: plain, no program. -/
import Derived.Lib.ItoaNum
import Derived.Lib.ParseIntB
import Derived.Lib.ParseIntBCases
namespace Go.Proofs.YtedpbidphajngaaDoor
open Go

/-- a digit -/
def isD (c : UInt8) : Bool := decide (48 ≤ c.toNat) && decide (c.toNat ≤ 57)
def numF (n : Nat) (l : List UInt8) : Nat := l.foldl (fun n c => bif isD c then 10 * n + (c.toNat - 48) else n) n
theorem numF_snoc (n : Nat) (l : List UInt8) (c : UInt8) : numF n (l ++ [c]) = bif isD c then 10 * numF n l + (c.toNat - 48) else numF n l := by unfold numF; rw [List.foldl_append]; rfl
theorem numF_cons (n : Nat) (l : List UInt8) (c : UInt8) : numF n (c :: l) = numF (bif isD c then 10 * n + (c.toNat - 48) else n) l := rfl
theorem dig_toNat {d : Nat} (h : d < 10) : (UInt8.ofNat (48 + d)).toNat = 48 + d := by rw [UInt8.toNat_ofNat']; omega
theorem dig_isD {d : Nat} (h : d < 10) : isD (UInt8.ofNat (48 + d)) = true := by
  unfold isD; rw [dig_toNat h, Bool.and_eq_true]; exact ⟨decide_eq_true (by omega), decide_eq_true (by omega)⟩
theorem numF_dec : ∀ u : Nat, numF 0 (Lib.decDigits u) = u := by
  intro u
  induction u using Nat.strongRecOn with
  | ind u ih =>
    rw [Lib.decDigits]
    by_cases hu : u < 10
    · rw [dif_pos hu, numF_cons, dig_isD hu, dig_toNat hu]
      show 10 * 0 + (48 + u - 48) = u
      omega
    · rw [dif_neg hu, numF_snoc, dig_isD (Nat.mod_lt _ (by omega)), dig_toNat (Nat.mod_lt _ (by omega)), ih (u / 10) (by omega)]
      show 10 * (u / 10) + (48 + u % 10 - 48) = u
      omega
theorem dec_isD : ∀ u : Nat, ∀ c ∈ Lib.decDigits u, isD c = true := by
  intro u
  induction u using Nat.strongRecOn with
  | ind u ih =>
    intro c hc
    rw [Lib.decDigits] at hc
    by_cases hu : u < 10
    · rw [dif_pos hu, List.mem_singleton] at hc
      subst hc; exact dig_isD hu
    · rw [dif_neg hu, List.mem_append, List.mem_singleton] at hc
      rcases hc with hc | rfl
      · exact ih (u / 10) (by omega) c hc
      · exact dig_isD (Nat.mod_lt _ (by omega))
theorem dec_ne (u : Nat) : Lib.decDigits u ≠ [] := by
  rw [Lib.decDigits]
  by_cases hu : u < 10
  · rw [dif_pos hu]; simp
  · rw [dif_neg hu]; simp
def minusD (l : List UInt8) : Bool := l.head? == some 45
/-- the number that the digits spell, its sign that of the first letter -/
def cand (l : List UInt8) : Int := bif minusD l then -((numF 0 l : Nat) : Int) else ((numF 0 l : Nat) : Int)
theorem itoaN {n : Int} (h : n < 0) : Lib.itoa n = 45 :: Lib.decDigits n.natAbs := by unfold Lib.itoa; rw [if_pos h]
theorem itoaP {n : Int} (h : ¬ n < 0) : Lib.itoa n = Lib.decDigits n.natAbs := by unfold Lib.itoa; rw [if_neg h]; congr 1; omega
theorem minus_dec (u : Nat) : minusD (Lib.decDigits u) = false := by
  unfold minusD
  cases h : Lib.decDigits u with
  | nil => rfl
  | cons c l =>
    have hc := dec_isD u c (by rw [h]; simp)
    cases hb : ((c :: l).head? == some 45)
    · rfl
    · have : c = 45 := by simpa using hb
      subst this
      exact absurd hc (by decide)
theorem cand_itoa (n : Int) : cand (Lib.itoa n) = n := by
  by_cases h : n < 0
  · rw [itoaN h]
    unfold cand
    rw [show minusD (45 :: Lib.decDigits n.natAbs) = true from rfl, numF_cons, show isD 45 = false by decide]
    show -((numF 0 (Lib.decDigits n.natAbs) : Nat) : Int) = n
    rw [numF_dec]; omega
  · rw [itoaP h]
    unfold cand
    rw [minus_dec, numF_dec]
    show ((n.natAbs : Nat) : Int) = n
    omega
theorem numF_ge : ∀ (l : List UInt8) (n : Nat), n ≤ numF n l
  | [], n => Nat.le_refl _
  | c :: l, n => by
    rw [numF_cons]
    refine Nat.le_trans ?_ (numF_ge l _)
    cases isD c
    · exact Nat.le_refl _
    · show n ≤ 10 * n + _
      omega
theorem parseM_dec : ∀ (l : List UInt8) (acc : Nat), (∀ c ∈ l, isD c = true) → numF acc l ≤ 1000000000000000 → Lib.parseUintM (2 ^ 64 - 1) acc l = .ok (numF acc l)
  | [], acc, _, _ => rfl
  | c :: l, acc, h, hm => by
    have hc := h c (by simp)
    have hcd := hc
    unfold isD at hcd
    rw [Bool.and_eq_true] at hcd
    have h1 := of_decide_eq_true hcd.1
    have h2 := of_decide_eq_true hcd.2
    have e : numF acc (c :: l) = numF (acc * 10 + (c.toNat - 48)) l := by rw [numF_cons, hc]; show numF (10 * acc + _) l = _; rw [Nat.mul_comm]
    have hge := numF_ge l (acc * 10 + (c.toNat - 48))
    rw [e] at hm ⊢
    rw [Lib.parseUintM, if_pos ⟨h1, h2⟩, if_neg (by omega), if_neg (by omega)]
    exact parseM_dec l _ (fun x hx => h x (List.mem_cons_of_mem _ hx)) hm
theorem parseU_dec (u : Nat) (h : u ≤ 1000000000000000) : Lib.parseUintB 64 (Lib.decDigits u) = .ok u := by
  unfold Lib.parseUintB
  rw [if_neg (dec_ne u), parseM_dec _ 0 (dec_isD u) (by rw [numF_dec]; exact h), numF_dec]
theorem parse_itoa {n : Int} (h0 : -1000000000000000 ≤ n) (h1 : n ≤ 1000000000000000) : Lib.parseIntB 64 (Lib.itoa n) = .ok n := by
  by_cases h : n < 0
  · rw [itoaN h, Lib.parseIntB_minus, parseU_dec _ (by omega)]
    have e : ¬ (2 ^ (64 - 1) < n.natAbs) := by omega
    simp only [Lib.signedC]
    rw [if_neg (by omega)]
    congr 1; omega
  · rw [itoaP h]
    have hu := parseU_dec n.natAbs (by omega)
    have hd := dec_isD n.natAbs
    cases hl : Lib.decDigits n.natAbs with
    | nil => exact absurd hl (dec_ne _)
    | cons c r =>
      rw [hl] at hu hd
      have hc := hd c (by simp)
      unfold isD at hc
      rw [Bool.and_eq_true] at hc
      have h2 := of_decide_eq_true hc.1
      have h3 := of_decide_eq_true hc.2
      unfold Lib.parseIntB
      have e : Lib.parseUintB 64 (if c.toNat = 43 ∨ c.toNat = 45 then r else c :: r) = .ok n.natAbs := by
        rw [if_neg (by omega)]; exact hu
      simp only [e]
      rw [if_neg (by intro h4; have := h4.2; omega), if_neg (by intro h4; have := h4.1; omega), if_neg (by omega)]
      congr 1; omega
/-- whether the text is a numeral of a number that is not too great -/
def okD (l : List UInt8) : Bool := decide (-1000000000000000 ≤ cand l) && (decide (cand l ≤ 1000000000000000) && decide (Lib.itoa (cand l) = l))
theorem okD_of {l : List UInt8} {n : Int} (h0 : -1000000000000000 ≤ n) (h1 : n ≤ 1000000000000000) (h : Lib.itoa n = l) : okD l = true ∧ cand l = n := by
  have hc : cand l = n := by rw [← h]; exact cand_itoa n
  refine ⟨?_, hc⟩
  unfold okD
  rw [hc, Bool.and_eq_true, Bool.and_eq_true]
  exact ⟨decide_eq_true h0, decide_eq_true h1, decide_eq_true h⟩
theorem okD_parts {l : List UInt8} (h : okD l = true) : -1000000000000000 ≤ cand l ∧ cand l ≤ 1000000000000000 ∧ Lib.itoa (cand l) = l := by
  unfold okD at h
  rw [Bool.and_eq_true, Bool.and_eq_true] at h
  exact ⟨of_decide_eq_true h.1, of_decide_eq_true h.2.1, of_decide_eq_true h.2.2⟩
theorem okD_parse {l : List UInt8} (h : okD l = true) : Lib.parseIntB 64 l = .ok (cand l) := by
  obtain ⟨h0, h1, h2⟩ := okD_parts h
  have := parse_itoa h0 h1
  rwa [h2] at this
/-- the number read -/
def valD (l : List UInt8) : Int := bif okD l then cand l else 0
theorem numF_lt : ∀ (l : List UInt8) (n k : Nat), n < 10 ^ k → numF n l < 10 ^ (k + l.length)
  | [], n, k, h => h
  | c :: l, n, k, h => by
    rw [numF_cons, List.length_cons, show k + (l.length + 1) = (k + 1) + l.length by omega]
    refine numF_lt l _ (k + 1) ?_
    rw [Nat.pow_succ]
    cases hc : isD c
    · show n < _
      have : 0 < 10 ^ k := Nat.pow_pos (by omega)
      omega
    · show 10 * n + (c.toNat - 48) < _
      unfold isD at hc
      rw [Bool.and_eq_true] at hc
      have := of_decide_eq_true hc.2
      omega
end Go.Proofs.YtedpbidphajngaaDoor
