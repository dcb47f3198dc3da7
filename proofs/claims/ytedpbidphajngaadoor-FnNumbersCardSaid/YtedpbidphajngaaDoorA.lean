/- What the small functions on single floats compute. -/
import Derived.Test.YtedpbidphajngaaDoorChecked
import Derived.Test.YtedpbidphajngaaDoorFc
import Derived.KernelRfl
namespace Go.Proofs.YtedpbidphajngaaDoor
open Go.RowKit
set_option linter.unusedVariables false
set_option linter.unusedSimpArgs false

/-- 'x - x == 0' -/
def finA (k : FloatKind) (X : Option Nat) : Bool := feq k (fop .sub k X X) (some 0)
theorem av_zero (k : FloatKind) : av k 0 = some 0 := by cases k <;> decide

theorem implIsFinite_any (x : Nat) (w : World) :
    Calls Tryd.prog 76 #[.float .f32 x] w fun e w' => ∃ n, e = .returned (.bool (finA .f32 (av .f32 x))) ∧ w' = w.drewN n := by
  go_enter Tryd.func76, Tryd.ntmps76
  go_wp2_with ((with_reducible apply wpList_farith); rfl; rfl; rfl; intro r n hr)
  go_ret
  refine ⟨n, ?_, rfl⟩
  rw [order_ford, hr.out, av_zero]
  rfl
theorem below_drewN {B : Nat} {a w : World} (h : Below B a w) (n : Nat) : Below B a (w.drewN n) := ⟨h.os, h.tape, h.output, h.size, h.block⟩

theorem run_f32bits (x : Nat) (w : World) : (callFunc 70 #[.float .f32 x]).run Tryd.prog w = .ok (.value (.int .u32 x)) w := by kernel_rfl
attribute [local go_sem] run_f32bits

/-- the bits, one for all that are not-a-numbers -/
def bitsA : Option Nat → Int
  | none => 2143289344
  | some b => b

theorem wf32 {x : Nat} (h : (Lit.float .f32 x).wf = true) : x < 4294967296 := by simpa [Lit.wf] using h

theorem ne_self (k : FloatKind) (x : Nat) : (k.format.order x x != some .eq) = (av k x).isNone := by
  unfold av
  cases hn : (k.decode x).isNaN
  · have : k.format.order x x = some .eq := FT.order_self hn
    simp [this]
  · have : k.format.order x x = none := FT.order_none.2 (.inl hn)
    simp [this]

theorem specl01Bits_any (x : Nat) (hx : x < 4294967296) (w : World) :
    Calls Tryd.prog 90 #[.float .f32 x] w fun e w' => e = .returned (.int .i64 (bitsA (av .f32 x))) ∧ w = w' := by
  have hb : (x : Int) ≤ 4294967295 := by omega
  have hn := ne_self .f32 x
  have H := Lib.hid hn
  clear hn
  go_enter Tryd.func90, Tryd.ntmps90
  go_wp2
  · go_ret
    rename_i h
    refine ⟨?_, rfl⟩
    rw [H.out] at h
    cases ha : av .f32 x
    · rfl
    · rw [ha] at h; cases h
  · go_ret
    rename_i h
    refine ⟨?_, rfl⟩
    rw [H.out] at h
    cases ha : av .f32 x
    · rw [ha] at h; cases h
    · rw [(av_some ha).1]; rfl
theorem implBitsOf_any (x : Nat) (hx : x < 4294967296) (w : World) :
    Calls Tryd.prog 35 #[.float .f32 x] w fun e w' => e = .returned (.int .i64 (bitsA (av .f32 x))) ∧ w = w' := by
  have hb : (x : Int) ≤ 4294967295 := by omega
  have hn := ne_self .f32 x
  have H := Lib.hid hn
  clear hn
  go_enter Tryd.func35, Tryd.ntmps35
  go_wp2
  · go_ret
    rename_i h
    refine ⟨?_, rfl⟩
    rw [H.out] at h
    cases ha : av .f32 x
    · rfl
    · rw [ha] at h; cases h
  · go_ret
    rename_i h
    refine ⟨?_, rfl⟩
    rw [H.out] at h
    cases ha : av .f32 x
    · rw [ha] at h; cases h
    · rw [(av_some ha).1]; rfl
end Go.Proofs.YtedpbidphajngaaDoor
