/- The natural logarithm, as what matters of floats: halving and doubling come to an end, and what it comes to is small. No program is in sight. -/
import Derived.Test.YtedpbidphajngaaDoorSi
namespace Go.Proofs.YtedpbidphajngaaDoor
open Ieee Go.RowKit
open FT (Le2 Has)
set_option linter.unusedVariables false
set_option linter.unusedSimpArgs false

def c2 : Nat := 4611686018427387904
def c15 : Nat := 4609434218613702656
def c75 : Nat := 4604930618986332160
def cl : Nat := 4604418534313441775
theorem pb_c2 : Pb .f64 1 (some c2) := pb_num (m := 4503599627370496) (p := -51) (by decide) (by omega) (by decide)
theorem ge_c2 : Ge .f64 1 (some c2) := ge_num (m := 4503599627370496) (p := -51) (by decide) (by omega) (by decide)
theorem dec_c15 : FloatKind.f64.decode c15 = .number false 6755399441055744 (-52) := by decide
theorem dec_c75 : FloatKind.f64.decode c75 = .number false 6755399441055744 (-53) := by decide
theorem pb_cl : Pb .f64 0 (some cl) := pb_num (m := 6243314768165359) (p := -53) (by decide) (by omega) (by decide)

theorem le2_at {m n : Nat} {p q : Int} : Le2 m p n q ↔ m * 2 ^ (p - min p q).toNat ≤ n * 2 ^ (q - min p q).toNat :=
  ⟨fun h => h _ (by omega) (by omega), fun h => Le2.of (by omega) (by omega) h⟩
/-- how two that are not negative stand -/
theorem ge_iff {x y m n : Nat} {p q : Int} (dx : FloatKind.f64.decode x = .number false m p) (dy : FloatKind.f64.decode y = .number false n q) : fge .f64 (some x) (some y) = true ↔ Le2 n q m p := by
  unfold FloatKind.decode at dx dy
  unfold fge ford Format.order
  simp only [dx, dy, Datum.order, Option.some_beq_some, cmp_gt, cmp_eq, signed, Nat.shiftLeft_eq, Bool.false_eq_true, if_false]
  rw [le2_at, show min q p = min p q by omega]
  simp only [Bool.or_eq_true, decide_eq_true_eq]
  omega
theorem lt_iff {x y m n : Nat} {p q : Int} (dx : FloatKind.f64.decode x = .number false m p) (dy : FloatKind.f64.decode y = .number false n q) : flt .f64 (some x) (some y) = true ↔ ¬ Le2 n q m p := by
  unfold FloatKind.decode at dx dy
  unfold flt ford Format.order
  simp only [dx, dy, Datum.order, Option.some_beq_some, cmp_lt, signed, Nat.shiftLeft_eq, Bool.false_eq_true, if_false]
  rw [le2_at, show min q p = min p q by omega]
  simp only [decide_eq_true_eq]
  omega
theorem le2_not {m n : Nat} {p q : Int} (h : ¬ Le2 n q m p) : Le2 m p n q := by
  rw [le2_at] at h ⊢
  rw [show min q p = min p q by omega] at h
  omega

theorem c15_hi : Le2 6755399441055744 (-52) 1 1 := Le2.of (B := -52) (by omega) (by omega) (by decide)
theorem c15_lo : Le2 1 0 6755399441055744 (-52) := Le2.of (B := -52) (by omega) (by omega) (by decide)
theorem c75_hi : Le2 6755399441055744 (-53) 1 0 := Le2.of (B := -53) (by omega) (by omega) (by decide)
theorem c75_lo : Le2 1 (-1) 6755399441055744 (-53) := Le2.of (B := -53) (by omega) (by omega) (by decide)
theorem not15 : ¬ Le2 6755399441055744 (-52) 1 0 := by rw [le2_at]; decide
theorem not75 : ¬ Le2 1 0 6755399441055744 (-53) := by rw [le2_at]; decide

theorem of_not15 {X : Option Nat} {a : Int} (h : Pb .f64 a X) (hf : fge .f64 X (some c15) = false) : Pb .f64 1 X := by
  obtain ⟨b, m, p, rfl, d, l⟩ := h
  refine ⟨b, m, p, rfl, d, (le2_not fun hl => ?_).trans c15_hi⟩
  rw [(ge_iff d dec_c15).2 hl] at hf; cases hf
theorem of_15 {X : Option Nat} {a : Int} (h : Pb .f64 a X) (hf : fge .f64 X (some c15) = true) : Ge .f64 0 X ∧ 1 ≤ a := by
  obtain ⟨b, m, p, rfl, d, l⟩ := h
  have h1 := (ge_iff d dec_c15).1 hf
  refine ⟨⟨b, m, p, rfl, d, c15_lo.trans h1⟩, ?_⟩
  rcases Int.lt_or_le 0 a with h0 | h0
  · omega
  · exact absurd (h1.trans (l.mono h0)) not15
theorem of_75 {X : Option Nat} {a : Int} (h : Ge .f64 a X) (hf : flt .f64 X (some c75) = true) : Pb .f64 0 X ∧ a ≤ -1 := by
  obtain ⟨b, m, p, rfl, d, l⟩ := h
  have h1 := (lt_iff d dec_c75).1 hf
  have h2 := le2_not h1
  refine ⟨⟨b, m, p, rfl, d, h2.trans c75_hi⟩, ?_⟩
  rcases Int.lt_or_le (-1) a with h0 | h0
  · exact absurd ((l.anti (show (0 : Int) ≤ a by omega)).trans h2) not75
  · exact h0
theorem of_not75 {X : Option Nat} {a : Int} (h : Ge .f64 a X) (hf : flt .f64 X (some c75) = false) : Ge .f64 (-1) X := by
  obtain ⟨b, m, p, rfl, d, l⟩ := h
  refine ⟨b, m, p, rfl, d, c75_lo.trans ?_⟩
  rcases Classical.em (Le2 6755399441055744 (-53) m p) with h0 | h0
  · exact h0
  · rw [(lt_iff d dec_c75).2 h0] at hf; cases hf

/-- a quotient is at least what its parts are -/
theorem quo_ge {m n : Nat} {i j a b : Int} {g : Nat} (hm : m ≠ 0) (hn : n ≠ 0) (hg : 1 ≤ g) (lx : Le2 1 a m i) (ly : Le2 n j 1 b) :
    Le2 1 (a - b) (2 * ((m <<< (g + n.log2 - m.log2)) / n) + ((m <<< (g + n.log2 - m.log2)) % n != 0).toNat) (i - j - ((g + n.log2 - m.log2 : Nat) : Int) - 1) := by
  generalize hmore : g + n.log2 - m.log2 = more
  rw [Nat.shiftLeft_eq]
  have hnp : 0 < n := by omega
  have hq1 : n ≤ m * 2 ^ more := by
    have h1 : n < 2 ^ (n.log2 + 1) := Nat.lt_log2_self
    have h2 : 2 ^ m.log2 ≤ m := Nat.log2_self_le hm
    have h3 : 2 ^ (n.log2 + 1) ≤ 2 ^ m.log2 * 2 ^ more := by
      rw [← Nat.pow_add]
      exact Nat.pow_le_pow_right (by omega) (by omega)
    have h4 := Nat.mul_le_mul_right (2 ^ more) h2
    omega
  have h5 : Le2 (n * 1) (j + a) (1 * m) (b + i) := by
    have := ly.mul lx
    rwa [Nat.mul_one, Nat.one_mul] at this ⊢
  rw [Nat.mul_one, Nat.one_mul] at h5
  generalize he : i - j - (more : Int) - 1 = e
  have hqn : 1 ≤ m * 2 ^ more / n := (Nat.one_le_div_iff hnp).2 hq1
  rcases Int.le_total (a - b) e with h | h
  · refine (Le2.pow h).trans (fun B _ _ => Nat.mul_le_mul_right _ ?_)
    omega
  · refine Le2.of (B := e) h (Int.le_refl _) ?_
    rw [show (e - e).toNat = 0 by omega, Nat.pow_zero, Nat.mul_one, Nat.one_mul]
    rcases Nat.eq_zero_or_pos (a - b - e).toNat with h0 | h0
    · rw [h0, Nat.pow_zero]; omega
    · obtain ⟨t, ht⟩ : ∃ t : Nat, (a - b - e).toNat = t + 1 := ⟨(a - b - e).toNat - 1, by omega⟩
      rw [ht, Nat.pow_succ]
      have h6 : n * 2 ^ t ≤ m * 2 ^ more := by
        have := h5 (b + i - more) (by omega) (by omega)
        rw [show (j + a - (b + i - (more : Int))).toNat = t by omega, show (b + i - (b + i - (more : Int))).toNat = more by omega] at this
        exact this
      have h7 : 2 ^ t ≤ m * 2 ^ more / n := (Nat.le_div_iff_mul_le hnp).2 (by rw [Nat.mul_comm]; exact h6)
      omega
theorem ge_ne {X : Option Nat} {a : Int} {b m : Nat} {p : Int} (l : Le2 1 a m p) : m ≠ 0 := by
  rintro rfl
  have := l (min a p) (by omega) (by omega)
  rw [Nat.zero_mul, Nat.one_mul] at this
  have := Nat.two_pow_pos (a - min a p).toNat
  omega
theorem least64 {c : Int} (h : -1074 ≤ c) : FloatKind.f64.format.leastPlace ≤ c := by
  have e1 : FloatKind.f64.format.leastPlace = -1074 := by decide
  rw [e1]; exact h
/-- halves and doubles -/
def halve (X : Option Nat) : Option Nat := fop .quo .f64 X (some c2)
def twice (X : Option Nat) : Option Nat := fop .mul .f64 X (some c2)
theorem halve_pb {a : Int} {X : Option Nat} (h : Pb .f64 a X) (h1 : -1000 ≤ a) (h2 : a ≤ 1000) : Pb .f64 (a - 1) (halve X) := pb_quo (has64 (by omega) (by omega)) h ge_c2
theorem halve_ge {a e : Int} {X : Option Nat} (h : Ge .f64 a X) (hp : Pb .f64 e X) (h1 : -1000 ≤ a) (h2 : e ≤ 1000) : Ge .f64 (a - 1) (halve X) := by
  obtain ⟨x, m, i, rfl, dx, lx⟩ := h
  obtain ⟨x', m', i', e1, dx', hx⟩ := hp
  injection e1 with e1
  subst e1
  rw [dx] at dx'
  injection dx' with _ e2 e3
  subst e2; subst e3
  have hae := FT.pow_le_of _ _ (lx.trans hx)
  obtain ⟨y, n, j, e4, dy, ly⟩ := pb_c2
  injection e4 with e4
  subst e4
  obtain ⟨y', n', j', e5, dy', gy⟩ := ge_c2
  injection e5 with e5
  subst e5
  rw [dy] at dy'
  injection dy' with _ e6 e7
  subst e6; subst e7
  have hm := ge_ne (X := none) (b := 0) lx
  have hn := ge_ne (X := none) (b := 0) gy
  obtain ⟨m1, p1, f1, f2, f3⟩ := write_ge (k := .f64) (s := false) (c := a - 1) (has64 (by omega) (by omega)) (quo_le (g := FloatKind.f64.format.fractionBits + 2) hm hn (by omega) hx gy) (least64 (by omega)) (quo_ge (g := FloatKind.f64.format.fractionBits + 2) hm hn (by omega) lx ly)
  unfold FloatKind.decode at dx dy
  refine ⟨_, m1, p1, ?_, f1, f3⟩
  simp [halve, fop, floatBits, Format.div, dx, dy, Datum.quotient, hn]
theorem twice_pb {a : Int} {X : Option Nat} (h : Pb .f64 a X) (h1 : -1000 ≤ a) (h2 : a ≤ 1000) : Pb .f64 (a + 1) (twice X) := pb_mul (has64 (by omega) (by omega)) h pb_c2
theorem twice_ge {a e : Int} {X : Option Nat} (h : Ge .f64 a X) (hp : Pb .f64 e X) (h1 : -1000 ≤ a) (h2 : e ≤ 1000) : Ge .f64 (a + 1) (twice X) := by
  obtain ⟨x, m, i, rfl, dx, lx⟩ := h
  obtain ⟨x', m', i', e1, dx', hx⟩ := hp
  injection e1 with e1
  subst e1
  rw [dx] at dx'
  injection dx' with _ e2 e3
  subst e2; subst e3
  have hae := FT.pow_le_of _ _ (lx.trans hx)
  obtain ⟨y, n, j, e4, dy, ly⟩ := pb_c2
  injection e4 with e4
  subst e4
  obtain ⟨y', n', j', e5, dy', gy⟩ := ge_c2
  injection e5 with e5
  subst e5
  rw [dy] at dy'
  injection dy' with _ e6 e7
  subst e6; subst e7
  have l1 := hx.mul ly
  have l2 := lx.mul gy
  rw [Nat.mul_one] at l1 l2
  obtain ⟨m1, p1, f1, f2, f3⟩ := write_ge (k := .f64) (s := false) (c := a + 1) (has64 (by omega) (by omega)) l1 (least64 (by omega)) l2
  unfold FloatKind.decode at dx dy
  refine ⟨_, m1, p1, ?_, f1, f3⟩
  simp [twice, fop, floatBits, Format.mul, dx, dy, Datum.product]

def down : Nat → Option Nat → Int → Option Nat × Int
  | 0, X, e => (X, e)
  | f + 1, X, e => bif fge .f64 X (some c15) then down f (halve X) (e + 1) else (X, e)
def up : Nat → Option Nat → Int → Option Nat × Int
  | 0, X, e => (X, e)
  | f + 1, X, e => bif flt .f64 X (some c75) then up f (twice X) (e - 1) else (X, e)
theorem down_stop {f : Nat} {X : Option Nat} {e : Int} (h : fge .f64 X (some c15) = false) : down f X e = (X, e) := by
  cases f
  · rfl
  · unfold down; rw [h]; rfl
theorem down_go {f : Nat} {X : Option Nat} {e : Int} (h : fge .f64 X (some c15) = true) : down (f + 1) X e = down f (halve X) (e + 1) := by
  conv => lhs; unfold down
  rw [h]; rfl
theorem up_stop {f : Nat} {X : Option Nat} {e : Int} (h : flt .f64 X (some c75) = false) : up f X e = (X, e) := by
  cases f
  · rfl
  · unfold up; rw [h]; rfl
theorem up_go {f : Nat} {X : Option Nat} {e : Int} (h : flt .f64 X (some c75) = true) : up (f + 1) X e = up f (twice X) (e - 1) := by
  conv => lhs; unfold up
  rw [h]; rfl

/-- the sum of a row -/
def logQ (u : Option Nat) : Nat → Option Nat
  | 0 => some 0
  | n + 1 => fop .add .f64 (fop .quo .f64 (some c1) (some (kf ((25 - 2 * n : Nat) : Int)))) (fop .mul .f64 u (logQ u n))
def logS (X : Option Nat) : Option Nat := fop .quo .f64 (fop .sub .f64 X (some c1)) (fop .add .f64 X (some c1))
def logU (X : Option Nat) : Option Nat := fop .mul .f64 (logS X) (logS X)
def logY (X : Option Nat) (e : Int) : Option Nat := fop .add .f64 (fop .mul .f64 (some c2) (fop .mul .f64 (logS X) (logQ (logU X) 13))) (fop .mul .f64 (some (kf e)) (some cl))
/-- the logarithm of a number that is greater than 0 -/
def logZ (X : Option Nat) : Option Nat := logY (up 160 (down 140 X 0).1 (down 140 X 0).2).1 (up 160 (down 140 X 0).1 (down 140 X 0).2).2

theorem add_comm64 (X Y : Option Nat) : fop .add .f64 X Y = fop .add .f64 Y X := by
  cases X <;> cases Y <;> try rfl
  rename_i x y
  show (Option.map _ _) = (Option.map _ _)
  congr 1
  generalize FloatKind.f64.format.read x = a
  generalize FloatKind.f64.format.read y = b
  cases a <;> cases b <;> try rfl
  · rename_i s m i t n j
    unfold Datum.sum
    dsimp only
    rw [show min j i = min i j by omega, Int.add_comm, Bool.and_comm]
  · rename_i s t
    unfold Datum.sum
    dsimp only
    by_cases h : s = t
    · rw [if_pos h, if_pos h.symm, h]
    · rw [if_neg h, if_neg (Ne.symm h)]
theorem bd_zero {e : Int} : Bd .f64 e (some 0) := ⟨0, false, 0, -1074, rfl, by decide, Le2.zero _ _ _⟩
theorem logS_bd {X : Option Nat} (hp : Pb .f64 1 X) : Bd .f64 1 (logS X) := by
  have h1 := bd_diff (a := 1) (has64 (by omega) (by omega)) hp (pb_c1.mono (by omega))
  have h2 := (ge_add (a := 0) (b := 1) (c := 0) (has64 (by omega) (by omega)) (by decide) pb_c1 ge_c1 hp).2
  rw [add_comm64] at h2
  exact bd_quo (a := 1) (c := 0) (has64 (by omega) (by omega)) h1 h2
theorem logQ_bd {u : Option Nat} (h : Bd .f64 2 u) : ∀ n : Nat, n ≤ 12 → Bd .f64 (3 * n + 1) (logQ u (n + 1))
  | 0, _ => by
    unfold logQ
    have h1 : Bd .f64 0 (fop .quo .f64 (some c1) (some (kf ((25 - 2 * 0 : Nat) : Int)))) := bd_quo (a := 0) (c := 0) (has64 (by omega) (by omega)) pb_c1.bd (kf_ge (by omega) (by omega))
    have h2 := bd_mul (a := 2) (b := -100) (has64 (by omega) (by omega)) h bd_zero
    exact (bd_add (a := 0) (b := 2 + -100) (has64 (by omega) (by omega)) h1 h2).mono (by omega)
  | n + 1, hn => by
    have ih := logQ_bd h n (by omega)
    unfold logQ
    have h1 : Bd .f64 0 (fop .quo .f64 (some c1) (some (kf ((25 - 2 * (n + 1) : Nat) : Int)))) := bd_quo (a := 0) (c := 0) (has64 (by omega) (by omega)) pb_c1.bd (kf_ge (by omega) (by omega))
    have h2 := bd_mul (a := 2) (b := 3 * n + 1) (has64 (by omega) (by omega)) h ih
    exact (bd_add (a := 0) (b := 2 + (3 * n + 1)) (has64 (by omega) (by omega)) h1 h2).mono (by omega)
theorem kf_bd {n : Int} {e : Nat} (h : n.natAbs < 2 ^ 53) (he : n.natAbs ≤ 2 ^ e) : Bd .f64 e (some (kf n)) := by
  by_cases h0 : n = 0
  · subst h0
    have : kf 0 = 0 := by decide
    rw [this]; exact bd_zero
  · obtain ⟨m', p', h1, h2, h3⟩ := exact64 (decide (n < 0)) n.natAbs (by omega) h
    have h4 := (FT.pow_eq e 0).1
    rw [Int.zero_add] at h4
    exact ⟨_, _, m', p', rfl, h1, (h2.trans (fun B _ _ => Nat.mul_le_mul_right _ he)).trans h4⟩
theorem logY_bd {X : Option Nat} {e : Int} (hp : Pb .f64 1 X) (he : e.natAbs ≤ 256) : Bd .f64 40 (logY X e) := by
  have h1 := logS_bd hp
  have h2 := bd_mul (a := 1) (b := 1) (has64 (by omega) (by omega)) h1 h1
  have h3 := logQ_bd h2 12 (by omega)
  have h4 := bd_mul (a := 1) (b := 3 * ((12 : Nat) : Int) + 1) (has64 (by omega) (by omega)) h1 h3
  have h5 := bd_mul (a := 1) (b := 1 + (3 * ((12 : Nat) : Int) + 1)) (has64 (by omega) (by omega)) pb_c2.bd h4
  have h6 := bd_mul (a := ((8 : Nat) : Int)) (b := 0) (has64 (by omega) (by omega)) (kf_bd (n := e) (e := 8) (by omega) (by omega)) pb_cl.bd
  exact (bd_add (a := 1 + (1 + (3 * ((12 : Nat) : Int) + 1))) (b := ((8 : Nat) : Int) + 0) (has64 (by omega) (by omega)) h5 h6).mono (by omega)
end Go.Proofs.YtedpbidphajngaaDoor
