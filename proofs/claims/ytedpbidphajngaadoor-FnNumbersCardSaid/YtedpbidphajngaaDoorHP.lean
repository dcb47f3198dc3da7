/- Hexadecimal numerals read back: plain. -/
import Derived.Test.YtedpbidphajngaaDoorHX
import Derived.Lib.IndexLaws
namespace Go.Proofs.YtedpbidphajngaaDoor
open Go
set_option linter.unusedVariables false
set_option linter.unusedSimpArgs false

/-- the digit that a letter stands for -/
def hexV (c : UInt8) : Option Nat := if 48 ≤ c.toNat ∧ c.toNat ≤ 57 then some (c.toNat - 48) else if 97 ≤ c.toNat ∧ c.toNat ≤ 102 then some (c.toNat - 87) else none
theorem hexV_dec {c : UInt8} (h0 : 48 ≤ c.toNat) (h1 : c.toNat ≤ 57) : hexV c = some (c.toNat - 48) := by unfold hexV; rw [if_pos ⟨h0, h1⟩]
theorem hexV_let {c : UInt8} (h0 : 97 ≤ c.toNat) (h1 : c.toNat ≤ 102) : hexV c = some (c.toNat - 87) := by unfold hexV; rw [if_neg (by omega), if_pos ⟨h0, h1⟩]
theorem hexV_no {c : UInt8} (h0 : ¬ (48 ≤ c.toNat ∧ c.toNat ≤ 57)) (h1 : ¬ (97 ≤ c.toNat ∧ c.toNat ≤ 102)) : hexV c = none := by unfold hexV; rw [if_neg h0, if_neg h1]
theorem hexV_lt {c : UInt8} {d : Nat} (h : hexV c = some d) : d < 16 := by
  unfold hexV at h
  split at h
  · cases h; omega
  · split at h
    · cases h; omega
    · cases h
theorem hexV_hexD {d : Nat} (h : d < 16) : hexV (hexD d) = some d := by
  rcases lt16 h with rfl | rfl | rfl | rfl | rfl | rfl | rfl | rfl | rfl | rfl | rfl | rfl | rfl | rfl | rfl | rfl <;> decide
theorem hexD_hexV {c : UInt8} {d : Nat} (h : hexV c = some d) : hexD d = c := by
  apply UInt8.toNat_inj.1
  unfold hexV at h
  split at h
  · rename_i h0
    cases h
    unfold hexD
    rw [if_pos (by omega)]
    show (UInt8.ofNat _).toNat = _
    rw [UInt8.toNat_ofNat']; omega
  · split at h
    · rename_i h0
      cases h
      unfold hexD
      rw [if_neg (by omega)]
      show (UInt8.ofNat _).toNat = _
      rw [UInt8.toNat_ofNat']; omega
    · cases h
/-- the number that letters spell, behind n -/
def hexN (n : Nat) : List UInt8 → Option Nat
  | [] => some n
  | c :: l => match hexV c with
    | some d => hexN (16 * n + d) l
    | none => none
theorem hexN_some {n d : Nat} {c : UInt8} {l : List UInt8} (h : hexV c = some d) : hexN n (c :: l) = hexN (16 * n + d) l := by rw [hexN, h]
theorem hexN_none {n : Nat} {c : UInt8} {l : List UInt8} (h : hexV c = none) : hexN n (c :: l) = none := by rw [hexN, h]
theorem hexN_cons {n m : Nat} {c : UInt8} {l : List UInt8} (h : hexN n (c :: l) = some m) : ∃ d, hexV c = some d ∧ hexN (16 * n + d) l = some m := by
  cases hv : hexV c with
  | none => rw [hexN_none hv] at h; cases h
  | some d => exact ⟨d, rfl, by rw [hexN_some hv] at h; exact h⟩
theorem len8 {l : List UInt8} (h : l.length = 8) : ∃ a b c d e f g k, l = [a, b, c, d, e, f, g, k] := by
  match l, h with
  | [a, b, c, d, e, f, g, k], _ => exact ⟨a, b, c, d, e, f, g, k, rfl⟩
theorem hexL_eq (n : Nat) : hexL n 8 = [hexD (n / 268435456 % 16), hexD (n / 16777216 % 16), hexD (n / 1048576 % 16), hexD (n / 65536 % 16), hexD (n / 4096 % 16), hexD (n / 256 % 16), hexD (n / 16 % 16), hexD (n / 1 % 16)] := rfl
/-- the numeral of eight letters that was read is that of the number -/
theorem hexL_of {l : List UInt8} {n : Nat} (hl : l.length = 8) (h : hexN 0 l = some n) : hexL n 8 = l ∧ n < 4294967296 := by
  obtain ⟨a, b, c, d, e, f, g, k, rfl⟩ := len8 hl
  obtain ⟨d0, v0, h⟩ := hexN_cons h
  obtain ⟨d1, v1, h⟩ := hexN_cons h
  obtain ⟨d2, v2, h⟩ := hexN_cons h
  obtain ⟨d3, v3, h⟩ := hexN_cons h
  obtain ⟨d4, v4, h⟩ := hexN_cons h
  obtain ⟨d5, v5, h⟩ := hexN_cons h
  obtain ⟨d6, v6, h⟩ := hexN_cons h
  obtain ⟨d7, v7, h⟩ := hexN_cons h
  have l0 := hexV_lt v0
  have l1 := hexV_lt v1
  have l2 := hexV_lt v2
  have l3 := hexV_lt v3
  have l4 := hexV_lt v4
  have l5 := hexV_lt v5
  have l6 := hexV_lt v6
  have l7 := hexV_lt v7
  have h : 16 * (16 * (16 * (16 * (16 * (16 * (16 * (16 * 0 + d0) + d1) + d2) + d3) + d4) + d5) + d6) + d7 = n := by simpa [hexN] using h
  refine ⟨?_, by omega⟩
  rw [hexL_eq]
  rw [show n / 268435456 % 16 = d0 by omega, show n / 16777216 % 16 = d1 by omega, show n / 1048576 % 16 = d2 by omega, show n / 65536 % 16 = d3 by omega, show n / 4096 % 16 = d4 by omega, show n / 256 % 16 = d5 by omega, show n / 16 % 16 = d6 by omega, show n / 1 % 16 = d7 by omega]
  rw [hexD_hexV v0, hexD_hexV v1, hexD_hexV v2, hexD_hexV v3, hexD_hexV v4, hexD_hexV v5, hexD_hexV v6, hexD_hexV v7]
theorem hexN_hexL {n : Nat} (h : n < 4294967296) : hexN 0 (hexL n 8) = some n := by
  rw [hexL_eq]
  rw [hexN_some (hexV_hexD (Nat.mod_lt _ (by omega))), hexN_some (hexV_hexD (Nat.mod_lt _ (by omega))), hexN_some (hexV_hexD (Nat.mod_lt _ (by omega))), hexN_some (hexV_hexD (Nat.mod_lt _ (by omega))),
    hexN_some (hexV_hexD (Nat.mod_lt _ (by omega))), hexN_some (hexV_hexD (Nat.mod_lt _ (by omega))), hexN_some (hexV_hexD (Nat.mod_lt _ (by omega))), hexN_some (hexV_hexD (Nat.mod_lt _ (by omega)))]
  show some _ = some n
  congr 1
  omega
/-- the number has its own bits again: it is no strange not-a-number -/
def canonB (n : Nat) : Bool := bitsN (av .f32 n) == n
/-- a numeral of eight letters of a number -/
def okH (l : List UInt8) : Bool := decide (l.length = 8) && (match hexN 0 l with | some n => canonB n | none => false)
def valH (l : List UInt8) : Nat := (hexN 0 l).getD 0
theorem okH_len {l : List UInt8} (h : l.length ≠ 8) : okH l = false := by unfold okH; rw [decide_eq_false h]; rfl
theorem okH_none {l : List UInt8} (h : hexN 0 l = none) : okH l = false := by unfold okH; rw [h]; simp
theorem okH_some {l : List UInt8} {n : Nat} (hl : l.length = 8) (h : hexN 0 l = some n) : okH l = canonB n ∧ valH l = n := by
  unfold okH valH; rw [h, decide_eq_true hl]; exact ⟨rfl, rfl⟩
theorem okH_parts {l : List UInt8} (h : okH l = true) : l.length = 8 ∧ ∃ n, hexN 0 l = some n ∧ valH l = n ∧ canonB n = true ∧ n < 4294967296 := by
  unfold okH at h
  rw [Bool.and_eq_true] at h
  have hl := of_decide_eq_true h.1
  refine ⟨hl, ?_⟩
  cases hn : hexN 0 l with
  | none => rw [hn] at h; simp at h
  | some n => rw [hn] at h; exact ⟨n, rfl, by unfold valH; rw [hn]; rfl, h.2, (hexL_of hl hn).2⟩
/-- whether the number's numeral is the one read -/
theorem canon_hex {l : List UInt8} {n : Nat} (hl : l.length = 8) (h : hexN 0 l = some n) : (hexL (bitsN (av .f32 n)) 8 == l) = canonB n := by
  obtain ⟨h1, h2⟩ := hexL_of hl h
  have h3 := bitsN_lt h2
  unfold canonB
  cases hc : (bitsN (av .f32 n) == n)
  · cases hb : (hexL (bitsN (av .f32 n)) 8 == l)
    · rfl
    · have e := eq_of_beq hb
      have h4 := hexN_hexL h3
      rw [e, h] at h4
      injection h4 with h4
      rw [← h4] at hc
      simp at hc
  · rw [eq_of_beq hc, h1]; simp
/-- where a letter stands among the digits -/
theorem index_hex (c : UInt8) : Lib.indexByte [48, 49, 50, 51, 52, 53, 54, 55, 56, 57, 97, 98, 99, 100, 101, 102] c = match hexV c with | some d => (d : Int) | none => -1 := by
  have h : ∀ k : Fin 256, Lib.indexByte [48, 49, 50, 51, 52, 53, 54, 55, 56, 57, 97, 98, 99, 100, 101, 102] (UInt8.ofNat k.val) = match hexV (UInt8.ofNat k.val) with | some d => (d : Int) | none => -1 := by decide +kernel
  have := h ⟨c.toNat, c.toNat_lt⟩
  simpa using this
end Go.Proofs.YtedpbidphajngaaDoor
