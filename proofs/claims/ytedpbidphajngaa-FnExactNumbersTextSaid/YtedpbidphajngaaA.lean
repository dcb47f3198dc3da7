/- What the small functions on single floats compute. -/
import Derived.Test.YtedpbidphajngaaChecked
import Derived.Test.YtedpbidphajngaaFc
import Derived.KernelRfl
namespace Go.Proofs.Ytedpbidphajngaa
open Go.RowKit
set_option linter.unusedVariables false
set_option linter.unusedSimpArgs false

/-- 'x - x == 0' -/
def finA (k : FloatKind) (X : Option Nat) : Bool := feq k (fop .sub k X X) (some 0)
theorem av_zero (k : FloatKind) : av k 0 = some 0 := by cases k <;> decide

theorem below_drewN {B : Nat} {a w : World} (h : Below B a w) (n : Nat) : Below B a (w.drewN n) := ⟨h.os, h.tape, h.output, h.size, h.block⟩

theorem run_f32bits (x : Nat) (w : World) : (callFunc 18 #[.float .f32 x]).run Try.prog w = .ok (.value (.int .u32 x)) w := by kernel_rfl
attribute [local go_sem] run_f32bits

/-- the bits, one for all that are not-a-numbers -/
def bitsA : Option Nat → Int
  | none => 2143289344
  | some b => b

theorem wf32 {x : Nat} (h : (Lit.float .f32 x).wf = true) : x < 4294967296 := by simpa [Lit.wf] using h

theorem ne_self (k : FloatKind) (x : Nat) : (k.format.order x x != some .eq) = (av k x).isNone := by
  unfold av
  cases hn : (k.decode x).isNaN
  · have : k.format.order x x = some .eq := FT.order_self hn
    simp [this]
  · have : k.format.order x x = none := FT.order_none.2 (.inl hn)
    simp [this]

theorem specl01Bits_any (x : Nat) (hx : x < 4294967296) (w : World) :
    Calls Try.prog 17 #[.float .f32 x] w fun e w' => e = .returned (.int .i64 (bitsA (av .f32 x))) ∧ w = w' := by
  have hb : (x : Int) ≤ 4294967295 := by omega
  have hn := ne_self .f32 x
  have H := Lib.hid hn
  clear hn
  go_enter Try.func17, Try.ntmps17
  go_wp2
  · go_ret
    rename_i h
    refine ⟨?_, rfl⟩
    rw [H.out] at h
    cases ha : av .f32 x
    · rfl
    · rw [ha] at h; cases h
  · go_ret
    rename_i h
    refine ⟨?_, rfl⟩
    rw [H.out] at h
    cases ha : av .f32 x
    · rw [ha] at h; cases h
    · rw [(av_some ha).1]; rfl
theorem implBitsOf_any (x : Nat) (hx : x < 4294967296) (w : World) :
    Calls Try.prog 15 #[.float .f32 x] w fun e w' => e = .returned (.int .i64 (bitsA (av .f32 x))) ∧ w = w' := by
  have hb : (x : Int) ≤ 4294967295 := by omega
  have hn := ne_self .f32 x
  have H := Lib.hid hn
  clear hn
  go_enter Try.func15, Try.ntmps15
  go_wp2
  · go_ret
    rename_i h
    refine ⟨?_, rfl⟩
    rw [H.out] at h
    cases ha : av .f32 x
    · rfl
    · rw [ha] at h; cases h
  · go_ret
    rename_i h
    refine ⟨?_, rfl⟩
    rw [H.out] at h
    cases ha : av .f32 x
    · rw [ha] at h; cases h
    · rw [(av_some ha).1]; rfl
end Go.Proofs.Ytedpbidphajngaa
