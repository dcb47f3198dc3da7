/- What the small functions on single floats compute. -/
import Derived.Test.YtdbpkkbijpppfaaChecked
import Derived.Test.YtdbpkkbijpppfaaFc
import Derived.KernelRfl
namespace Go.Proofs.Ytdbpkkbijpppfaa
open Go.RowKit
set_option linter.unusedVariables false
set_option linter.unusedSimpArgs false

/-- 'x - x == 0' -/
def finA (k : FloatKind) (X : Option Nat) : Bool := feq k (fop .sub k X X) (some 0)
theorem av_zero (k : FloatKind) : av k 0 = some 0 := by cases k <;> decide

theorem implIsFinite_any (x : Nat) (w : World) :
    Calls Try.prog 20 #[.float .f32 x] w fun e w' => ∃ n, e = .returned (.bool (finA .f32 (av .f32 x))) ∧ w' = w.drewN n := by
  go_enter Try.func20, Try.ntmps20
  go_wp2_with ((with_reducible apply wpList_farith); rfl; rfl; rfl; intro r n hr)
  go_ret
  refine ⟨n, ?_, rfl⟩
  rw [order_ford, hr.out, av_zero]
  rfl
theorem specl01Finite_any (x : Nat) (w : World) :
    Calls Try.prog 53 #[.float .f32 x] w fun e w' => ∃ n, e = .returned (.bool (finA .f32 (av .f32 x))) ∧ w' = w.drewN n := by
  go_enter Try.func53, Try.ntmps53
  go_wp2_with ((with_reducible apply wpList_farith); rfl; rfl; rfl; intro r n hr)
  go_ret
  refine ⟨n, ?_, rfl⟩
  rw [order_ford, hr.out, av_zero]
  rfl
theorem specIsFinite_any (x : Nat) (w : World) :
    Calls Try.prog 19 #[.float .f32 x] w fun e w' => ∃ n, e = .returned (.bool (finA .f32 (av .f32 x))) ∧ w' = w.drewN n := by
  go_enter Try.func19, Try.ntmps19
  go_wp2_with (first | ((with_reducible apply wpList_farith); rfl; rfl; rfl; intro r n hr) | go_in)
  go_ret
  refine ⟨n, ?_, rfl⟩
  rw [order_ford, hr.out, av_zero]
  rfl
theorem below_drewN {B : Nat} {a w : World} (h : Below B a w) (n : Nat) : Below B a (w.drewN n) := ⟨h.os, h.tape, h.output, h.size, h.block⟩

theorem lawIsFinite (x : Nat) (hx : (Lit.float .f32 x).wf = true) (w : World) :
    Calls Try.prog 4 #[.float .f32 x] w fun e w' => e = .returned (.bool true) ∧ Below w.heap.size w w' := by
  go_enter Try.func4, Try.ntmps4
  go_wp2_with (first | (go_at_call 19; refine (specIsFinite_any _ _).mono ?_; rintro e w' ⟨n, rfl, rfl⟩) | (go_at_call 20; refine (implIsFinite_any _ _).mono ?_; rintro e w' ⟨n, rfl, rfl⟩))
  go_ret
  exact ⟨rfl, below_drewN (Below.refl _ _) _⟩
theorem run_f32bits (x : Nat) (w : World) : (callFunc 55 #[.float .f32 x]).run Try.prog w = .ok (.value (.int .u32 x)) w := by kernel_rfl
attribute [local go_sem] run_f32bits

/-- the bits, one for all that are not-a-numbers -/
def bitsA : Option Nat → Int
  | none => 2143289344
  | some b => b

theorem wf32 {x : Nat} (h : (Lit.float .f32 x).wf = true) : x < 4294967296 := by simpa [Lit.wf] using h

theorem ne_self (k : FloatKind) (x : Nat) : (k.format.order x x != some .eq) = (av k x).isNone := by
  unfold av
  cases hn : (k.decode x).isNaN
  · have : k.format.order x x = some .eq := FT.order_self hn
    simp [this]
  · have : k.format.order x x = none := FT.order_none.2 (.inl hn)
    simp [this]

theorem specl01Bits_any (x : Nat) (hx : x < 4294967296) (w : World) :
    Calls Try.prog 54 #[.float .f32 x] w fun e w' => e = .returned (.int .i64 (bitsA (av .f32 x))) ∧ w = w' := by
  have hb : (x : Int) ≤ 4294967295 := by omega
  have hn := ne_self .f32 x
  have H := Lib.hid hn
  clear hn
  go_enter Try.func54, Try.ntmps54
  go_wp2
  · go_ret
    rename_i h
    refine ⟨?_, rfl⟩
    rw [H.out] at h
    cases ha : av .f32 x
    · rfl
    · rw [ha] at h; cases h
  · go_ret
    rename_i h
    refine ⟨?_, rfl⟩
    rw [H.out] at h
    cases ha : av .f32 x
    · rw [ha] at h; cases h
    · rw [(av_some ha).1]; rfl
theorem implBitsOf_any (x : Nat) (hx : x < 4294967296) (w : World) :
    Calls Try.prog 24 #[.float .f32 x] w fun e w' => e = .returned (.int .i64 (bitsA (av .f32 x))) ∧ w = w' := by
  have hb : (x : Int) ≤ 4294967295 := by omega
  have hn := ne_self .f32 x
  have H := Lib.hid hn
  clear hn
  go_enter Try.func24, Try.ntmps24
  go_wp2
  · go_ret
    rename_i h
    refine ⟨?_, rfl⟩
    rw [H.out] at h
    cases ha : av .f32 x
    · rfl
    · rw [ha] at h; cases h
  · go_ret
    rename_i h
    refine ⟨?_, rfl⟩
    rw [H.out] at h
    cases ha : av .f32 x
    · rw [ha] at h; cases h
    · rw [(av_some ha).1]; rfl
theorem specBitsOf_any (x : Nat) (hx : x < 4294967296) (w : World) :
    Calls Try.prog 23 #[.float .f32 x] w fun e w' => e = .returned (.int .i64 (bitsA (av .f32 x))) ∧ w = w' := by
  go_enter Try.func23, Try.ntmps23
  go_wp2_with (go_at_call 54; refine (specl01Bits_any _ hx _).mono ?_; rintro e w' ⟨rfl, rfl⟩)
  go_ret
  exact ⟨rfl, rfl⟩
theorem lawBitsOf (x : Nat) (hx : (Lit.float .f32 x).wf = true) (w : World) :
    Calls Try.prog 6 #[.float .f32 x] w fun e w' => e = .returned (.bool true) ∧ Below w.heap.size w w' := by
  have hb := wf32 hx
  go_enter Try.func6, Try.ntmps6
  go_wp2_with (first | (go_at_call 23; refine (specBitsOf_any _ hb _).mono ?_; rintro e w' ⟨rfl, rfl⟩) | (go_at_call 24; refine (implBitsOf_any _ hb _).mono ?_; rintro e w' ⟨rfl, rfl⟩))
  go_ret
  exact ⟨rfl, Below.refl _ _⟩
end Go.Proofs.Ytdbpkkbijpppfaa
