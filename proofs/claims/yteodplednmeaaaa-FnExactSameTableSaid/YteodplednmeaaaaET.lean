/- Tables that are the same: what the program and the model compute. -/
import Derived.Test.YteodplednmeaaaaE
namespace Go.Proofs.Yteodplednmeaaaa
open Go.RowKit
set_option linter.unusedVariables false
set_option linter.unusedSimpArgs false
attribute [local go_sem] lo_value lo_enter run_store_float

def sameI (S S2 : List Int) : Bool := decide (S = S2)
def sameT (v u : Int) (N N2 : List Nat) (S S2 : List Int) : Bool := (v == u) && (sameI S S2 && sameL N N2)
theorem sameI_len {S S2 : List Int} (h : S.length ≠ S2.length) : sameI S S2 = false := decide_eq_false fun e => h (by rw [e])
theorem sameI_ne {S S2 : List Int} {k : Nat} {x y : Int} (hx : S[k]? = some x) (hy : S2[k]? = some y) (h : x ≠ y) : sameI S S2 = false := decide_eq_false fun e => by
  subst e; rw [hx] at hy; injection hy with hy; exact h hy
theorem sameI_all {S S2 : List Int} {n : Nat} (h : S.take n = S2.take n) (h1 : S.length = n) (h2 : S2.length = n) : sameI S S2 = true := decide_eq_true (by
  have e1 : S.take n = S := by rw [← h1, List.take_length]
  have e2 : S2.take n = S2 := by rw [← h2, List.take_length]
  rw [e1, e2] at h; exact h)
set_option maxRecDepth 100000 in
theorem sameBasis_any (A E : Option Addr) (n m c d : Nat) (S S2 : List Int) (w : World) (h : IS w A n S) (h' : IS w E m S2) (hn : n ≤ 1048576) (hm : m ≤ 1048576) :
    Calls Try.prog 77 #[.slice A n c, .slice E m d] w fun e w' => ∃ k, e = .returned (.bool (sameI S S2)) ∧ w' = w.drewN k := by
  have hL := h.1
  have hM := h'.1
  by_cases hnm : n = m
  · subst hnm
    go_enter Try.func77, Try.ntmps77
    go_wp2
    go_loopw [5] (fun i wr => ∃ k q : Nat, k ≤ n ∧ i = .int .i64 k ∧ wr = w.drewN q ∧ S.take k = S2.take k) (fun i _ => n - (intOf i).toNat)
    case atStart => exact ⟨0, 0, Nat.zero_le _, rfl, rfl, rfl⟩
    case round =>
      obtain ⟨k, q, hk, rfl, rfl, hrel⟩ := hrel
      have HR := Lib.hid hrel
      clear hrel
      by_cases hlt : k < n
      · obtain ⟨b, off, x, rfl, hb, hc, hx, hs⟩ := h.at_ hlt
        obtain ⟨b2, off2, y, rfl, hb2, hc2, hx2, hs2⟩ := h'.at_ hlt
        have HX := Lib.hid hx
        have HS := Lib.hid hs
        have HX2 := Lib.hid hx2
        have HS2 := Lib.hid hs2
        have hlt2 : (k : Int) < (n : Int) := by omega
        clear hx hs hx2 hs2 h h' hL hM
        cases he : (x != y)
        · go_wp2_with fail
          go_big_quiet (fail)
          go_wp2_with fail
          go_roundw
          case rel => exact ⟨k + 1, _, by omega, by go_num, (by first | rfl | exact World.drewN_drewN _ _ _), by rw [HS.out, HS2.out, HR.out, show x = y by simpa using he]⟩
          case measure => simp [intOf]; omega
        · go_wp2_with fail
          go_big_quiet (fail)
          go_wp2_with fail
          go_ret
          exact ⟨_, by rw [sameI_ne HX.out HX2.out (by simpa using he)]; rfl, (by first | rfl | exact World.drewN_drewN _ _ _)⟩
      · obtain rfl : k = n := by omega
        go_wp2
        go_ret
        exact ⟨_, by rw [sameI_all HR.out hL hM]; rfl, rfl⟩
  · have hi : ((n : Int) != (m : Int)) = true := by simp; omega
    have H : Hid (sameI S S2 = false) := by show _ = _; exact sameI_len (by omega)
    clear hnm hL hM
    go_enter Try.func77, Try.ntmps77
    go_wp2
    go_ret
    exact ⟨0, by rw [H.out]; rfl, rfl⟩
set_option maxHeartbeats 1000000 in
set_option maxRecDepth 100000 in
theorem specSameTable_any (v : Int) (A1 A2 : Option Addr) (n1 n2 c1 c2 : Nat) (N : List Nat) (S : List Int) (u : Int) (E1 E2 : Option Addr) (m1 m2 d1 d2 : Nat) (N2 : List Nat) (S2 : List Int) (w : World) (h1 : FS w A1 n1 N) (h2 : IS w A2 n2 S) (b1 : n1 ≤ 1048576) (b2 : n2 ≤ 1048576)
    (k1 : FS w E1 m1 N2) (k2 : IS w E2 m2 S2) (e1 : m1 ≤ 1048576) (e2 : m2 ≤ 1048576) (s1 : small N) (t1 : small N2) :
    Calls Try.prog 34 #[.agg #[.int .i64 v, .slice A1 n1 c1, .slice A2 n2 c2], .agg #[.int .i64 u, .slice E1 m1 d1, .slice E2 m2 d2]] w fun e w' => e = .returned (.bool (sameT v u N N2 S S2)) ∧ Below w.heap.size w w' := by
  have HB : Below w.heap.size w ((w.alloc (.cells #[.int .i64 v, .slice A1 n1 c1, .slice A2 n2 c2] 46)).alloc (.cells #[.int .i64 u, .slice E1 m1 d1, .slice E2 m2 d2] 46)) := ((Below.refl _ _).alloc (Nat.le_refl _) _).alloc (by simp) _
  have g1 := h1.below HB
  have g2 := h2.below HB
  have l1 := k1.below HB
  have l2 := k2.below HB
  clear h1 h2 k1 k2
  cases hv : (v == u)
  · have H : Hid (sameT v u N N2 S S2 = false) := by show _ = _; rw [sameT, hv]; rfl
    go_enter Try.func34, Try.ntmps34
    go_wp2_with fail
    go_ret
    exact ⟨by rw [H.out]; rfl, HB⟩
  cases hS : sameI S S2
  · have H : Hid (sameT v u N N2 S S2 = false) := by show _ = _; rw [sameT, hv, hS]; rfl
    go_enter Try.func34, Try.ntmps34
    go_wp2_with fail
    refine (sameBasis_any A2 E2 n2 m2 c2 d2 S S2 _ g2 l2 b2 e2).mono ?_
    rintro e wx ⟨q1, rfl, rfl⟩
    rw [hS]
    go_wp2_with fail
    go_ret
    exact ⟨by rw [H.out]; rfl, below_drewN HB _⟩
  · have H : Hid (sameT v u N N2 S S2 = sameL N N2) := by show _ = _; rw [sameT, hv, hS]; rfl
    go_enter Try.func34, Try.ntmps34
    go_wp2_with fail
    refine (sameBasis_any A2 E2 n2 m2 c2 d2 S S2 _ g2 l2 b2 e2).mono ?_
    rintro e wx ⟨q1, rfl, rfl⟩
    rw [hS]
    go_wp2_with fail
    refine (specl01SameAll_any A1 E1 n1 m1 c1 d1 N N2 _ (g1.drewN _) (l1.drewN _) b1 e1 s1 t1).mono ?_
    rintro e wx ⟨q2, rfl, rfl⟩
    go_wp2_with fail
    go_ret
    exact ⟨by rw [H.out]; rfl, below_drewN HB _⟩
set_option maxHeartbeats 1000000 in
set_option maxRecDepth 100000 in
theorem implSameTable_any (v : Int) (A1 A2 : Option Addr) (n1 n2 c1 c2 : Nat) (N : List Nat) (S : List Int) (u : Int) (E1 E2 : Option Addr) (m1 m2 d1 d2 : Nat) (N2 : List Nat) (S2 : List Int) (w : World) (h1 : FS w A1 n1 N) (h2 : IS w A2 n2 S) (b1 : n1 ≤ 1048576) (b2 : n2 ≤ 1048576)
    (k1 : FS w E1 m1 N2) (k2 : IS w E2 m2 S2) (e1 : m1 ≤ 1048576) (e2 : m2 ≤ 1048576) (s1 : small N) (t1 : small N2) :
    Calls Try.prog 36 #[.agg #[.int .i64 v, .slice A1 n1 c1, .slice A2 n2 c2], .agg #[.int .i64 u, .slice E1 m1 d1, .slice E2 m2 d2]] w fun e w' => e = .returned (.bool (sameT v u N N2 S S2)) ∧ Below w.heap.size w w' := by
  have HB : Below w.heap.size w ((w.alloc (.cells #[.int .i64 v, .slice A1 n1 c1, .slice A2 n2 c2] 46)).alloc (.cells #[.int .i64 u, .slice E1 m1 d1, .slice E2 m2 d2] 46)) := ((Below.refl _ _).alloc (Nat.le_refl _) _).alloc (by simp) _
  have g1 := h1.below HB
  have g2 := h2.below HB
  have l1 := k1.below HB
  have l2 := k2.below HB
  clear h1 h2 k1 k2
  have hL := g2.1
  have hM := l2.1
  cases hv : (v != u)
  rotate_left
  · have H : Hid (sameT v u N N2 S S2 = false) := by show _ = _; rw [sameT, show (v == u) = false by simpa using hv]; rfl
    go_enter Try.func36, Try.ntmps36
    go_wp2_with fail
    go_ret
    exact ⟨by rw [H.out]; rfl, HB⟩
  have H0 : Hid (sameT v u N N2 S S2 = (sameI S S2 && sameL N N2)) := by show _ = _; rw [sameT, show (v == u) = true by simpa using hv]; rfl
  by_cases hnm : n2 = m2
  rotate_left
  · have hi : ((n2 : Int) != (m2 : Int)) = true := by simp; omega
    have H : Hid (sameT v u N N2 S S2 = false) := by show _ = _; rw [H0.out, sameI_len (by omega)]; rfl
    clear hnm hL hM
    go_enter Try.func36, Try.ntmps36
    go_wp2_with fail
    go_ret
    exact ⟨by rw [H.out]; rfl, HB⟩
  subst hnm
  have hi : ((n2 : Int) != (n2 : Int)) = false := by simp
  go_enter Try.func36, Try.ntmps36
  go_wp2_with fail
  go_loopw [23] (fun i wr => ∃ k q : Nat, k ≤ n2 ∧ i = .int .i64 k ∧ wr = ((w.alloc (.cells #[.int .i64 v, .slice A1 n1 c1, .slice A2 n2 c2] 46)).alloc (.cells #[.int .i64 u, .slice E1 m1 d1, .slice E2 n2 d2] 46)).drewN q ∧ S.take k = S2.take k) (fun i _ => n2 - (intOf i).toNat)
  case atStart => exact ⟨0, 0, Nat.zero_le _, rfl, rfl, rfl⟩
  case round =>
    obtain ⟨k, q, hk, rfl, rfl, hrel⟩ := hrel
    have HR := Lib.hid hrel
    clear hrel
    by_cases hlt : k < n2
    · obtain ⟨b, off, x, rfl, hb, hc, hx, hs⟩ := g2.at_ hlt
      obtain ⟨b3, off3, y, rfl, hb3, hc3, hx3, hs3⟩ := l2.at_ hlt
      have HX := Lib.hid hx
      have HS := Lib.hid hs
      have HX2 := Lib.hid hx3
      have HS2 := Lib.hid hs3
      have hlt2 : (k : Int) < (n2 : Int) := by omega
      clear hx hs hx3 hs3 g1 g2 l1 l2 hL hM
      cases he : (x != y)
      · go_wp2_with fail
        go_big_quiet (fail)
        go_wp2_with fail
        go_roundw
        case rel => exact ⟨k + 1, _, by omega, by go_num, (by first | rfl | exact World.drewN_drewN _ _ _), by rw [HS.out, HS2.out, HR.out, show x = y by simpa using he]⟩
        case measure => simp [intOf]; omega
      · go_wp2_with fail
        go_big_quiet (fail)
        go_wp2_with fail
        go_ret
        exact ⟨by rw [H0.out, sameI_ne HX.out HX2.out (by simpa using he)]; rfl, below_drewN (below_drewN HB _) _⟩
    · obtain rfl : k = n2 := by omega
      have H : Hid (sameT v u N N2 S S2 = sameL N N2) := by show _ = _; rw [H0.out, sameI_all HR.out hL hM]; rfl
      go_wp2_with fail
      refine (implsameNumbers_any A1 E1 n1 m1 c1 d1 N N2 _ (g1.drewN _) (l1.drewN _) b1 e1 s1 t1).mono ?_
      rintro e wx ⟨q1, rfl, rfl⟩
      go_wp2_with fail
      go_ret
      exact ⟨by rw [H.out]; rfl, below_drewN HB _⟩
end Go.Proofs.Yteodplednmeaaaa
