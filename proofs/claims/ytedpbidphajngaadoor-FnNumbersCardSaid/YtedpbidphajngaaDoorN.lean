/- Sums of products of lists of single floats, and lists that have the same numbers. -/
import Derived.Test.YtedpbidphajngaaDoorM
import Derived.Test.YtedpbidphajngaaDoorLo
namespace Go.Proofs.YtedpbidphajngaaDoor
open Go.RowKit
set_option linter.unusedVariables false
set_option linter.unusedSimpArgs false
attribute [local go_sem] lo_value lo_enter

/-- the sum of products from left to right -/
def dotA : Option Nat → List Nat → List Nat → Option Nat
  | s, x :: l, y :: m => dotA (fop .add .f32 s (fop .mul .f32 (av .f32 x) (av .f32 y))) l m
  | s, _, _ => s
theorem dotA_snoc (s : Option Nat) (l m : List Nat) (x y : Nat) (h : l.length = m.length) :
    dotA s (l ++ [x]) (m ++ [y]) = fop .add .f32 (dotA s l m) (fop .mul .f32 (av .f32 x) (av .f32 y)) := by
  induction l generalizing s m with
  | nil => cases m <;> simp [dotA] at h ⊢
  | cons a l ih => cases m with
    | nil => simp at h
    | cons b m => simp [dotA]; exact ih _ _ (by simpa using h)
theorem dotA_take (s : Option Nat) (l m : List Nat) (h : l.length ≤ m.length) : dotA s l (m.take l.length) = dotA s l m := by
  induction l generalizing s m with
  | nil => cases m <;> simp [dotA]
  | cons a l ih => cases m with
    | nil => simp at h
    | cons b m => simp [dotA]; exact ih _ _ (by simpa using h)
/-- the sum from left to right -/
def sumA (s : Option Nat) (l : List Nat) : Option Nat := l.foldl (fun s x => fop .add .f32 s (av .f32 x)) s
theorem sumA_snoc (s : Option Nat) (l : List Nat) (x : Nat) : sumA s (l ++ [x]) = fop .add .f32 (sumA s l) (av .f32 x) := by simp [sumA]
/-- the same numbers -/
def sameL : List Nat → List Nat → Bool
  | [], [] => true
  | x :: l, y :: m => sameA (av .f32 x) (av .f32 y) && sameL l m
  | _, _ => false
theorem sameL_snoc (l m : List Nat) (x y : Nat) (h : l.length = m.length) : sameL (l ++ [x]) (m ++ [y]) = (sameL l m && sameA (av .f32 x) (av .f32 y)) := by
  induction l generalizing m with
  | nil => cases m <;> simp [sameL] at h ⊢
  | cons a l ih => cases m with
    | nil => simp at h
    | cons b m => simp only [List.cons_append, sameL]; rw [ih _ (by simpa using h), Bool.and_assoc]
theorem sameL_len {l m : List Nat} (h : l.length ≠ m.length) : sameL l m = false := by
  induction l generalizing m with
  | nil => cases m <;> simp [sameL] at h ⊢
  | cons a l ih => cases m with
    | nil => rfl
    | cons b m => simp only [sameL]; rw [ih (by simpa using h), Bool.and_false]
theorem sameL_false {l m : List Nat} {k x y : Nat} (hx : l[k]? = some x) (hy : m[k]? = some y) (h : sameA (av .f32 x) (av .f32 y) = false) : sameL l m = false := by
  induction k generalizing l m with
  | zero =>
    cases l <;> cases m <;> simp at hx hy
    subst hx; subst hy
    simp [sameL, h]
  | succ k ih =>
    cases l <;> cases m <;> simp at hx hy
    simp only [sameL]
    rw [ih hx hy, Bool.and_false]






theorem areNumbers_any (n : Int) (w : World) : Calls Tryd.prog 59 #[.int .i64 n] w fun e w' => e = .returned (.bool (decide (n ≤ 256))) ∧ w = w' := by
  go_enter Tryd.func59, Tryd.ntmps59
  go_wp2
  go_ret
  exact ⟨rfl, rfl⟩
theorem implSum_in (A : Option Addr) (n c : Nat) (L : List Nat) (w : World) (h : FS w A n L) (hn : n ≤ 256) :
    Calls Tryd.prog 39 #[.slice A n c] w fun e w' => ∃ r k, e = .returned (.tuple #[.float .f32 r, .bool true]) ∧ Hid (av .f32 r = sumA (some 0) L) ∧ w' = w.drewN k := by
  have hL := h.1
  have hd : decide ((n : Int) ≤ 256) = true := decide_eq_true (by omega)
  go_enter Tryd.func39, Tryd.ntmps39
  go_wp2_with (go_at_call 59; refine (areNumbers_any _ _).mono ?_; rintro e w' ⟨rfl, rfl⟩)
  go_loopw [4, 13] (fun s i wr => ∃ k q r : Nat, k ≤ n ∧ i = .int .i64 k ∧ s = .float .f32 r ∧ wr = w.drewN q ∧ Hid (av .f32 r = sumA (some 0) (L.take k))) (fun _ i _ => n - (intOf i).toNat)
  case atStart => exact ⟨0, 0, 0, Nat.zero_le _, rfl, rfl, rfl, by show _ = _; rfl⟩
  case round =>
    obtain ⟨k, q, r, hk, rfl, rfl, rfl, hrel⟩ := hrel
    by_cases hlt : k < n
    · obtain ⟨b, off, x, rfl, hb, hc, hx, hs⟩ := h.at_ hlt
      have HX := Lib.hid hx
      have HS := Lib.hid hs
      clear hx hs h hL
      go_wp2_with ((with_reducible apply wpList_farith); rfl; rfl; rfl; intro r n hr)
      go_roundw
      case rel => exact ⟨k + 1, _, _, by omega, by go_num, rfl, rfl, by show _ = _; rw [HS.out, sumA_snoc]; simp only [Hid] at *; simp [*]⟩
      case measure => simp [intOf]; omega
    · obtain rfl : k = n := by omega
      go_wp2
      go_ret2
      refine ⟨r, _, rfl, ?_, rfl⟩
      show _ = _
      rw [hrel.out, ← hL, List.take_length]
theorem implSum_out (A : Option Addr) (n c : Nat) (w : World) (hn : 256 < n) (hn2 : n ≤ 1048576) :
    Calls Tryd.prog 39 #[.slice A n c] w fun e w' => e = .returned (.tuple #[.float .f32 0, .bool false]) ∧ w = w' := by
  have hd : decide ((n : Int) ≤ 256) = false := decide_eq_false (by omega)
  go_enter Tryd.func39, Tryd.ntmps39
  go_wp2_with (go_at_call 59; refine (areNumbers_any _ _).mono ?_; rintro e w' ⟨rfl, rfl⟩)
  go_ret2
  exact ⟨rfl, rfl⟩
end Go.Proofs.YtedpbidphajngaaDoor
