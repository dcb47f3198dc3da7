/- Integers in decimal. -/
import Derived.Test.YtedpbidphajngaaDoorJN
import Derived.Lib.LaidTab
import Derived.Lib.ItoaNum
import Derived.Sort.Grow
namespace Go.Proofs.YtedpbidphajngaaDoor
open Go.RowKit
set_option linter.unusedVariables false
set_option linter.unusedSimpArgs false
attribute [local go_sem] lo_value lo_enter

def decAcc (m : Nat) (out : List UInt8) : List UInt8 := bif decide (m = 0) && !out.isEmpty then out else Lib.decDigits m ++ out
theorem decAcc_step {m : Nat} {out : List UInt8} (h : ¬ (m = 0 ∧ out ≠ [])) : decAcc m out = decAcc (m / 10) (UInt8.ofNat (48 + m % 10) :: out) := by
  have hb : (decide (m = 0) && !out.isEmpty) = false := by
    cases hm : decide (m = 0)
    · rfl
    · cases out with
      | nil => rfl
      | cons a l => exact absurd ⟨of_decide_eq_true hm, by simp⟩ h
  have e1 : decAcc m out = Lib.decDigits m ++ out := by unfold decAcc; rw [hb]; rfl
  rw [e1]
  unfold decAcc
  rw [Lib.decDigits]
  by_cases hm : m < 10
  · rw [dif_pos hm]
    have h0 : m / 10 = 0 := by omega
    have h1 : m % 10 = m := by omega
    rw [h0, h1]; rfl
  · rw [dif_neg hm]
    have h0 : decide (m / 10 = 0) = false := decide_eq_false (by omega)
    rw [h0]; simp
theorem decAcc_done {out : List UInt8} (h : out ≠ []) : decAcc 0 out = out := by
  unfold decAcc
  cases out with
  | nil => exact absurd rfl h
  | cons a l => rfl
theorem decAcc_start (m : Nat) : decAcc m [] = Lib.decDigits m := by unfold decAcc; simp
theorem dgV (d : Nat) (h : d < 10) : Value.int .u8 (48 + (d : Int)) = byteV (UInt8.ofNat (48 + d)) := by
  unfold byteV
  rw [UInt8.toNat_ofNat']
  congr 1
  omega
theorem itoa_neg {n : Int} (h : n < 0) : Lib.itoa n = 45 :: Lib.decDigits n.natAbs := by unfold Lib.itoa; rw [if_pos h]
theorem itoa_pos {n : Int} (h : ¬ n < 0) : Lib.itoa n = Lib.decDigits n.natAbs := by unfold Lib.itoa; rw [if_neg h]; congr 1; omega
theorem pow_len {r k : Nat} (h : r * 10 ^ k ≤ 9223372036854775808) (hr : 0 < r) : k ≤ 18 := by
  rcases Nat.lt_or_ge 18 k with h1 | h1
  · have h2 : 10 ^ 19 ≤ 10 ^ k := Nat.pow_le_pow_right (by omega) h1
    have h3 : 1 * 10 ^ k ≤ r * 10 ^ k := Nat.mul_le_mul_right _ hr
    have h4 : (10 : Nat) ^ 19 = 10000000000000000000 := by decide
    omega
  · exact h1
theorem pow_step {r k : Nat} (h : r * 10 ^ k ≤ 9223372036854775808) : (r / 10) * 10 ^ (k + 1) ≤ 9223372036854775808 := by
  have h1 : r / 10 * 10 ≤ r := Nat.div_mul_le_self r 10
  have h2 : r / 10 * 10 * 10 ^ k ≤ r * 10 ^ k := Nat.mul_le_mul_right _ h1
  rw [Nat.pow_succ, Nat.mul_comm (10 ^ k) 10, ← Nat.mul_assoc]
  omega
theorem bytes_one (l : List UInt8) : ∀ u ∈ l.map byteV, u.oneCell' = true := by
  intro u hu
  obtain ⟨b, _, rfl⟩ := List.mem_map.1 hu
  rfl
/-- what the loop holds -/
structure DecRel (n r : Int) (out : List UInt8) : Prop where
  eq : Lib.decDigits n.natAbs = decAcc r.natAbs out
  lo : -9223372036854775808 ≤ r
  hi : r ≤ 9223372036854775807
  pow : r.natAbs * 10 ^ out.length ≤ 9223372036854775808
  len : out.length ≤ 20
theorem DecRel.start {n : Int} (h0 : -9223372036854775808 ≤ n) (h1 : n ≤ 9223372036854775807) : DecRel n n [] :=
  ⟨(decAcc_start _).symm, h0, h1, by simp; omega, by simp⟩
theorem DecRel.step {n r q : Int} {out : List UInt8} (h : DecRel n r out) (hne : ¬ (r.natAbs = 0 ∧ out ≠ [])) (hq : q.natAbs = r.natAbs / 10) : DecRel n q (UInt8.ofNat (48 + r.natAbs % 10) :: out) := by
  have hl : out.length ≤ 18 ∨ out = [] := by
    by_cases h0 : r.natAbs = 0
    · exact .inr (Classical.byContradiction fun h1 => hne ⟨h0, h1⟩)
    · exact .inl (pow_len h.pow (by omega))
  refine ⟨by rw [h.eq, decAcc_step hne, hq], ?_, ?_, ?_, ?_⟩
  · have := h.lo; have := h.hi; omega
  · have := h.lo; have := h.hi; omega
  · rw [List.length_cons, hq]; exact pow_step h.pow
  · rcases hl with hl | rfl
    · simp; omega
    · simp
set_option maxHeartbeats 2000000 in
set_option maxRecDepth 100000 in
theorem l01Dec_any (n : Int) (h0 : -9223372036854775808 ≤ n) (h1 : n ≤ 9223372036854775807) (w : World) :
    Calls Tryd.prog 53 #[.int .i64 n] w fun e w' => e = .returned (.string ⟨(Lib.itoa n).toArray⟩) ∧ Below w.heap.size w w' := by
  obtain ⟨i0, hi0, hz0, hz1, hz2⟩ := info_parts info_u8
  have HOwn := World.ownsRow_lit (base := w.heap.size) (e := 5) (size := 1) w #[] 0 (Nat.le_refl _) (by unfold maxLen; omega) rfl
  have HB0 : Below w.heap.size w (w.alloc (.cells #[] 5)) := (Below.refl _ _).alloc (Nat.le_refl _) _
  have HS := Lib.hid (DecRel.start h0 h1)
  go_enter Tryd.func53, Tryd.ntmps53
  go_wp2_with fail
  go_loopw [3, 4] (fun o i wr => ∃ (r : Int) (out : List UInt8) (g c : Nat), i = .int .i64 r ∧ o = .slice (some ⟨g, 0, none⟩) out.length c ∧ DecRel n r out ∧ Below w.heap.size w wr ∧ wr.ownsRow w.heap.size 5 1 (.slice (some ⟨g, 0, none⟩) out.length c) out.length (out.map byteV)) (fun o i _ => (intOf i).natAbs + (match o with | .slice _ k _ => 1 - k | _ => 0))
  case atStart => exact ⟨n, [], w.heap.size, 0, rfl, rfl, HS.out, HB0, HOwn⟩
  case round =>
    clear HOwn HB0 HS
    obtain ⟨r, out, g, c, rfl, rfl, hR, hbel, hown⟩ := hrel
    have hlo := hR.lo
    have hhi := hR.hi
    have hlen := hR.len
    have HR := Lib.hid hR
    clear hR
    by_cases ho : out = []
    · subst ho
      by_cases hr : 0 ≤ r
      · obtain ⟨m, rfl⟩ : ∃ m : Nat, r = (m : Int) := ⟨r.toNat, by omega⟩
        have hd10 : m % 10 < 10 := Nat.mod_lt _ (by omega)
        have hq10 : m / 10 ≤ m := Nat.div_le_self _ _
        have HST := Lib.hid (fun (q : Int) (hq : q.natAbs = (m : Int).natAbs / 10) => HR.out.step (by simp) hq)
        have hab : (m : Int).natAbs = m := by omega
        rw [hab] at HST
        have HDC := Lib.hid (dgV (m % 10) hd10)
        have hd : (m : Int) % 10 = ((m % 10 : Nat) : Int) := by omega
        have hq : (m : Int) / 10 = ((m / 10 : Nat) : Int) := by omega
        have hd0 : ¬ ((m % 10 : Nat) : Int) < 0 := by omega
        clear hab HR
        generalize m % 10 = d at *
        generalize m / 10 = q at *
        go_wp2_with (first
          | (at_builtin; refine wpList_append_own _ rfl _ _ 46 rfl w.heap.size 5 i0 _ 1 1 Tryd.underlying46 hi0 hz0 hz1 hz2 rfl (by omega) (.slice (some ⟨wr.heap.size, 0, none⟩) 1 1) 1 [.int .u8 (48 + (d : Int))] rfl (by exact World.ownsRow_lit (base := w.heap.size) (e := 5) (size := 1) wr #[.int .u8 (48 + (d : Int))] 1 hbel.size (by unfold maxLen; omega) rfl) ⟨g, 0, none⟩ 0 c (([] : List UInt8).map byteV) rfl (by simp) (by exact (hown.alloc _).cells rfl) (bytes_one _) (by unfold maxLen; omega) (by omega) (by have := hbel.size; simp; omega) ?_; intro v' w1 hown1 hgrow _))
        obtain ⟨gg, cap2, rfl, _⟩ := hown1.form (by omega)
        go_roundw
        case rel => exact ⟨(q : Int), _, gg, cap2, by first | rfl | simp, by first | rfl | rw [List.length_cons, Nat.add_comm], HST.out (q : Int) (by omega), below_grown_h (Below.alloc hbel hbel.size _) hgrow (by have := hbel.size; simp; omega) (fun j e => by simp [Value.ownBlock] at e; have := hbel.size; omega), by rw [List.length_cons, Nat.add_comm, List.map_cons, ← HDC.out]; exact hown1⟩
        case measure => simp [intOf]; omega
      · obtain ⟨m, rfl⟩ : ∃ m : Nat, r = -(m : Int) := ⟨(-r).toNat, by omega⟩
        have hd10 : m % 10 < 10 := Nat.mod_lt _ (by omega)
        have hq10 : m / 10 ≤ m := Nat.div_le_self _ _
        have HST := Lib.hid (fun (q : Int) (hq : q.natAbs = (-(m : Int)).natAbs / 10) => HR.out.step (by simp) hq)
        have hab : (-(m : Int)).natAbs = m := by omega
        rw [hab] at HST
        have HDC := Lib.hid (dgV (m % 10) hd10)
        have hd : (-(m : Int)).tmod 10 = -((m % 10 : Nat) : Int) := by rw [Int.neg_tmod]; rfl
        have hq : (-(m : Int)).tdiv 10 = -((m / 10 : Nat) : Int) := by rw [Int.neg_tdiv]; rfl
        clear hab HR
        generalize m % 10 = d at *
        generalize m / 10 = q at *
        by_cases hd0 : d = 0
        · subst hd0
          go_wp2_with (first
          | (at_builtin; refine wpList_append_own _ rfl _ _ 46 rfl w.heap.size 5 i0 _ 1 1 Tryd.underlying46 hi0 hz0 hz1 hz2 rfl (by omega) (.slice (some ⟨wr.heap.size, 0, none⟩) 1 1) 1 [.int .u8 48] rfl (by exact World.ownsRow_lit (base := w.heap.size) (e := 5) (size := 1) wr #[.int .u8 48] 1 hbel.size (by unfold maxLen; omega) rfl) ⟨g, 0, none⟩ 0 c (([] : List UInt8).map byteV) rfl (by simp) (by exact (hown.alloc _).cells rfl) (bytes_one _) (by unfold maxLen; omega) (by omega) (by have := hbel.size; simp; omega) ?_; intro v' w1 hown1 hgrow _))
          obtain ⟨gg, cap2, rfl, _⟩ := hown1.form (by omega)
          go_roundw
          case rel => exact ⟨(-(q : Int)), _, gg, cap2, by first | rfl | simp, by first | rfl | rw [List.length_cons, Nat.add_comm], HST.out (-(q : Int)) (by omega), below_grown_h (Below.alloc hbel hbel.size _) hgrow (by have := hbel.size; simp; omega) (fun j e => by simp [Value.ownBlock] at e; have := hbel.size; omega), by rw [List.length_cons, Nat.add_comm, List.map_cons, ← HDC.out]; exact hown1⟩
          case measure => simp [intOf]; omega
        · have hd1 : 0 < d := by omega
          have hd2 : (0 : Int) < (d : Int) := by omega
          go_wp2_with (first
          | (at_builtin; refine wpList_append_own _ rfl _ _ 46 rfl w.heap.size 5 i0 _ 1 1 Tryd.underlying46 hi0 hz0 hz1 hz2 rfl (by omega) (.slice (some ⟨wr.heap.size, 0, none⟩) 1 1) 1 [.int .u8 (48 + (d : Int))] rfl (by exact World.ownsRow_lit (base := w.heap.size) (e := 5) (size := 1) wr #[.int .u8 (48 + (d : Int))] 1 hbel.size (by unfold maxLen; omega) rfl) ⟨g, 0, none⟩ 0 c (([] : List UInt8).map byteV) rfl (by simp) (by exact (hown.alloc _).cells rfl) (bytes_one _) (by unfold maxLen; omega) (by omega) (by have := hbel.size; simp; omega) ?_; intro v' w1 hown1 hgrow _))
          obtain ⟨gg, cap2, rfl, _⟩ := hown1.form (by omega)
          go_roundw
          case rel => exact ⟨(-(q : Int)), _, gg, cap2, by first | rfl | simp, by first | rfl | rw [List.length_cons, Nat.add_comm], HST.out (-(q : Int)) (by omega), below_grown_h (Below.alloc hbel hbel.size _) hgrow (by have := hbel.size; simp; omega) (fun j e => by simp [Value.ownBlock] at e; have := hbel.size; omega), by rw [List.length_cons, Nat.add_comm, List.map_cons, ← HDC.out]; exact hown1⟩
          case measure => simp [intOf]; omega
    · have he : ((out.length : Int) == 0) = false := by have : out.length ≠ 0 := fun h => ho (List.eq_nil_of_length_eq_zero h); simp; omega
      have hlp : 0 < out.length := List.length_pos_iff.2 ho
      by_cases h0 : r = 0
      · subst h0
        have HE := Lib.hid (HR.out.eq.trans (decAcc_done ho))
        clear HR
        by_cases hn : n < 0
        · have HI := Lib.hid (itoa_neg hn)
          go_wp2_with (first
          | (at_builtin; refine wpList_append_own _ rfl _ _ 46 rfl w.heap.size 5 i0 _ 1 1 Tryd.underlying46 hi0 hz0 hz1 hz2 rfl (by omega) (.slice (some ⟨wr.heap.size, 0, none⟩) 1 1) 1 [.int .u8 45] rfl (by exact World.ownsRow_lit (base := w.heap.size) (e := 5) (size := 1) wr #[.int .u8 45] 1 hbel.size (by unfold maxLen; omega) rfl) ⟨g, 0, none⟩ out.length c (out.map byteV) rfl (by simp) (by exact (hown.alloc _).cells rfl) (bytes_one _) (by unfold maxLen; omega) (by omega) (by have := hbel.size; simp; omega) ?_; intro v' w1 hown1 hgrow _; have hcv := own_text (l := 45 :: out) (by rw [List.map_cons]; exact hown1) (by simp) w1 rfl))
          go_ret
          exact ⟨by rw [HI.out, HE.out]; rfl, below_grown_h (Below.alloc hbel hbel.size _) hgrow (by have := hbel.size; simp; omega) (fun j e => by simp [Value.ownBlock] at e; have := hbel.size; omega)⟩
        · have HI := Lib.hid (itoa_pos hn)
          have hcv := own_text hown ho wr rfl
          go_wp2_with fail
          go_ret
          exact ⟨by rw [HI.out, HE.out]; rfl, hbel⟩
      have hr0 : (r != 0) = true := by simp; exact h0
      by_cases hr : 0 ≤ r
      · obtain ⟨m, rfl⟩ : ∃ m : Nat, r = (m : Int) := ⟨r.toNat, by omega⟩
        have hd10 : m % 10 < 10 := Nat.mod_lt _ (by omega)
        have hq10 : m / 10 ≤ m := Nat.div_le_self _ _
        have hdc : m / 10 < m := Nat.div_lt_self (by omega) (by omega)
        have HST := Lib.hid (fun (q : Int) (hq : q.natAbs = (m : Int).natAbs / 10) => HR.out.step (by rintro ⟨h1, -⟩; omega) hq)
        have hab : (m : Int).natAbs = m := by omega
        rw [hab] at HST
        have HDC := Lib.hid (dgV (m % 10) hd10)
        have hd : (m : Int) % 10 = ((m % 10 : Nat) : Int) := by omega
        have hq : (m : Int) / 10 = ((m / 10 : Nat) : Int) := by omega
        have hd0 : ¬ ((m % 10 : Nat) : Int) < 0 := by omega
        clear hab HR
        generalize m % 10 = d at *
        generalize m / 10 = q at *
        go_wp2_with (first
          | (at_builtin; refine wpList_append_own _ rfl _ _ 46 rfl w.heap.size 5 i0 _ 1 1 Tryd.underlying46 hi0 hz0 hz1 hz2 rfl (by omega) (.slice (some ⟨wr.heap.size, 0, none⟩) 1 1) 1 [.int .u8 (48 + (d : Int))] rfl (by exact World.ownsRow_lit (base := w.heap.size) (e := 5) (size := 1) wr #[.int .u8 (48 + (d : Int))] 1 hbel.size (by unfold maxLen; omega) rfl) ⟨g, 0, none⟩ out.length c (out.map byteV) rfl (by simp) (by exact (hown.alloc _).cells rfl) (bytes_one _) (by unfold maxLen; omega) (by omega) (by have := hbel.size; simp; omega) ?_; intro v' w1 hown1 hgrow _))
        obtain ⟨gg, cap2, rfl, _⟩ := hown1.form (by omega)
        go_roundw
        case rel => exact ⟨(q : Int), _, gg, cap2, by first | rfl | simp, by first | rfl | rw [List.length_cons, Nat.add_comm], HST.out (q : Int) (by omega), below_grown_h (Below.alloc hbel hbel.size _) hgrow (by have := hbel.size; simp; omega) (fun j e => by simp [Value.ownBlock] at e; have := hbel.size; omega), by rw [List.length_cons, Nat.add_comm, List.map_cons, ← HDC.out]; exact hown1⟩
        case measure => simp [intOf]; omega
      · obtain ⟨m, rfl⟩ : ∃ m : Nat, r = -(m : Int) := ⟨(-r).toNat, by omega⟩
        have hd10 : m % 10 < 10 := Nat.mod_lt _ (by omega)
        have hq10 : m / 10 ≤ m := Nat.div_le_self _ _
        have hdc : m / 10 < m := Nat.div_lt_self (by omega) (by omega)
        have HST := Lib.hid (fun (q : Int) (hq : q.natAbs = (-(m : Int)).natAbs / 10) => HR.out.step (by rintro ⟨h1, -⟩; omega) hq)
        have hab : (-(m : Int)).natAbs = m := by omega
        rw [hab] at HST
        have HDC := Lib.hid (dgV (m % 10) hd10)
        have hd : (-(m : Int)).tmod 10 = -((m % 10 : Nat) : Int) := by rw [Int.neg_tmod]; rfl
        have hq : (-(m : Int)).tdiv 10 = -((m / 10 : Nat) : Int) := by rw [Int.neg_tdiv]; rfl
        clear hab HR
        generalize m % 10 = d at *
        generalize m / 10 = q at *
        by_cases hd0 : d = 0
        · subst hd0
          go_wp2_with (first
          | (at_builtin; refine wpList_append_own _ rfl _ _ 46 rfl w.heap.size 5 i0 _ 1 1 Tryd.underlying46 hi0 hz0 hz1 hz2 rfl (by omega) (.slice (some ⟨wr.heap.size, 0, none⟩) 1 1) 1 [.int .u8 48] rfl (by exact World.ownsRow_lit (base := w.heap.size) (e := 5) (size := 1) wr #[.int .u8 48] 1 hbel.size (by unfold maxLen; omega) rfl) ⟨g, 0, none⟩ out.length c (out.map byteV) rfl (by simp) (by exact (hown.alloc _).cells rfl) (bytes_one _) (by unfold maxLen; omega) (by omega) (by have := hbel.size; simp; omega) ?_; intro v' w1 hown1 hgrow _))
          obtain ⟨gg, cap2, rfl, _⟩ := hown1.form (by omega)
          go_roundw
          case rel => exact ⟨(-(q : Int)), _, gg, cap2, by first | rfl | simp, by first | rfl | rw [List.length_cons, Nat.add_comm], HST.out (-(q : Int)) (by omega), below_grown_h (Below.alloc hbel hbel.size _) hgrow (by have := hbel.size; simp; omega) (fun j e => by simp [Value.ownBlock] at e; have := hbel.size; omega), by rw [List.length_cons, Nat.add_comm, List.map_cons, ← HDC.out]; exact hown1⟩
          case measure => simp [intOf]; omega
        · have hd1 : 0 < d := by omega
          have hd2 : (0 : Int) < (d : Int) := by omega
          go_wp2_with (first
          | (at_builtin; refine wpList_append_own _ rfl _ _ 46 rfl w.heap.size 5 i0 _ 1 1 Tryd.underlying46 hi0 hz0 hz1 hz2 rfl (by omega) (.slice (some ⟨wr.heap.size, 0, none⟩) 1 1) 1 [.int .u8 (48 + (d : Int))] rfl (by exact World.ownsRow_lit (base := w.heap.size) (e := 5) (size := 1) wr #[.int .u8 (48 + (d : Int))] 1 hbel.size (by unfold maxLen; omega) rfl) ⟨g, 0, none⟩ out.length c (out.map byteV) rfl (by simp) (by exact (hown.alloc _).cells rfl) (bytes_one _) (by unfold maxLen; omega) (by omega) (by have := hbel.size; simp; omega) ?_; intro v' w1 hown1 hgrow _))
          obtain ⟨gg, cap2, rfl, _⟩ := hown1.form (by omega)
          go_roundw
          case rel => exact ⟨(-(q : Int)), _, gg, cap2, by first | rfl | simp, by first | rfl | rw [List.length_cons, Nat.add_comm], HST.out (-(q : Int)) (by omega), below_grown_h (Below.alloc hbel hbel.size _) hgrow (by have := hbel.size; simp; omega) (fun j e => by simp [Value.ownBlock] at e; have := hbel.size; omega), by rw [List.length_cons, Nat.add_comm, List.map_cons, ← HDC.out]; exact hown1⟩
          case measure => simp [intOf]; omega
end Go.Proofs.YtedpbidphajngaaDoor
