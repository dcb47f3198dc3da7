/- Sums of products of lists of single floats, and lists that have the same numbers. -/
import Derived.Test.YtedpbidphajngaaM
import Derived.Test.YtedpbidphajngaaLo
namespace Go.Proofs.Ytedpbidphajngaa
open Go.RowKit
set_option linter.unusedVariables false
set_option linter.unusedSimpArgs false
attribute [local go_sem] lo_value lo_enter

/-- the sum of products from left to right -/
def dotA : Option Nat → List Nat → List Nat → Option Nat
  | s, x :: l, y :: m => dotA (fop .add .f32 s (fop .mul .f32 (av .f32 x) (av .f32 y))) l m
  | s, _, _ => s
theorem dotA_snoc (s : Option Nat) (l m : List Nat) (x y : Nat) (h : l.length = m.length) :
    dotA s (l ++ [x]) (m ++ [y]) = fop .add .f32 (dotA s l m) (fop .mul .f32 (av .f32 x) (av .f32 y)) := by
  induction l generalizing s m with
  | nil => cases m <;> simp [dotA] at h ⊢
  | cons a l ih => cases m with
    | nil => simp at h
    | cons b m => simp [dotA]; exact ih _ _ (by simpa using h)
theorem dotA_take (s : Option Nat) (l m : List Nat) (h : l.length ≤ m.length) : dotA s l (m.take l.length) = dotA s l m := by
  induction l generalizing s m with
  | nil => cases m <;> simp [dotA]
  | cons a l ih => cases m with
    | nil => simp at h
    | cons b m => simp [dotA]; exact ih _ _ (by simpa using h)
/-- the sum from left to right -/
def sumA (s : Option Nat) (l : List Nat) : Option Nat := l.foldl (fun s x => fop .add .f32 s (av .f32 x)) s
theorem sumA_snoc (s : Option Nat) (l : List Nat) (x : Nat) : sumA s (l ++ [x]) = fop .add .f32 (sumA s l) (av .f32 x) := by simp [sumA]
/-- the same numbers -/
def sameL : List Nat → List Nat → Bool
  | [], [] => true
  | x :: l, y :: m => sameA (av .f32 x) (av .f32 y) && sameL l m
  | _, _ => false
theorem sameL_snoc (l m : List Nat) (x y : Nat) (h : l.length = m.length) : sameL (l ++ [x]) (m ++ [y]) = (sameL l m && sameA (av .f32 x) (av .f32 y)) := by
  induction l generalizing m with
  | nil => cases m <;> simp [sameL] at h ⊢
  | cons a l ih => cases m with
    | nil => simp at h
    | cons b m => simp only [List.cons_append, sameL]; rw [ih _ (by simpa using h), Bool.and_assoc]
theorem sameL_len {l m : List Nat} (h : l.length ≠ m.length) : sameL l m = false := by
  induction l generalizing m with
  | nil => cases m <;> simp [sameL] at h ⊢
  | cons a l ih => cases m with
    | nil => rfl
    | cons b m => simp only [sameL]; rw [ih (by simpa using h), Bool.and_false]
theorem sameL_false {l m : List Nat} {k x y : Nat} (hx : l[k]? = some x) (hy : m[k]? = some y) (h : sameA (av .f32 x) (av .f32 y) = false) : sameL l m = false := by
  induction k generalizing l m with
  | zero =>
    cases l <;> cases m <;> simp at hx hy
    subst hx; subst hy
    simp [sameL, h]
  | succ k ih =>
    cases l <;> cases m <;> simp at hx hy
    simp only [sameL]
    rw [ih hx hy, Bool.and_false]






theorem areNumbers_any (n : Int) (w : World) : Calls Try.prog 10 #[.int .i64 n] w fun e w' => e = .returned (.bool (decide (n ≤ 256))) ∧ w = w' := by
  go_enter Try.func10, Try.ntmps10
  go_wp2
  go_ret
  exact ⟨rfl, rfl⟩
end Go.Proofs.Ytedpbidphajngaa
