/- The law of NumbersText: the program and the model give the same text. -/
import Derived.Test.YtedpbidphajngaaJN
import Derived.Test.YtedpbidphajngaaT
import Derived.Test.YtedpbidphajngaaO
import Derived.Test.YtedpbidphajngaaR
namespace Go.Proofs.Ytedpbidphajngaa
open Go.RowKit
set_option linter.unusedVariables false
set_option linter.unusedSimpArgs false
attribute [local go_sem] lo_value lo_enter run_store_float

set_option maxHeartbeats 1000000 in
set_option maxRecDepth 100000 in
theorem lawNumbersText (A : Option Addr) (n c : Nat) (L : List Nat) (w : World) (h : FArg w A n L) :
    Calls Try.prog 3 #[.slice A n c] w fun e w' => e = .returned (.bool true) ∧ Below w.heap.size w w' := by
  obtain ⟨h0, hm, wf1⟩ := h
  have bL : ∀ x ∈ L, x < 4294967296 := fun x hx => wf32 (wf1 x hx)
  by_cases hlt : n ≤ 1048576
  rotate_left
  · have h1 : decide ((1048576 : Int) < (n : Int)) = true := decide_eq_true (by omega)
    go_enter Try.func3, Try.ntmps3
    go_wp2_with fail
    go_ret
    exact ⟨rfl, Below.refl _ _⟩
  have h1 : decide ((1048576 : Int) < (n : Int)) = false := decide_eq_false (by omega)
  go_enter Try.func3, Try.ntmps3
  go_wp2_with fail
  refine (toFloat32S_new A n c L _ h0 hlt).mono ?_
  rintro e w1 ⟨s1, rfl, ls, Fs, hb⟩
  have HB := hb
  clear hb ls
  go_wp2_with fail
  refine (specNumbersText_any _ n n L _ Fs.sl hlt bL).mono ?_
  rintro e w2 ⟨rfl, hb⟩
  replace HB := HB.trans (hb.mono HB.size)
  clear hb Fs
  go_wp2_with fail
  refine (toFloat32S_new A n c L _ (h0.below HB) hlt).mono ?_
  rintro e w3 ⟨g1, rfl, lg, Fg, hb⟩
  replace HB := HB.trans (hb.mono HB.size)
  clear hb lg
  replace Fg := Fg.sl
  go_wp2_with fail
  refine (implNumbersText_any _ n n L _ Fg hlt bL).mono ?_
  rintro e w4 ⟨rfl, hb⟩
  replace HB := HB.trans (hb.mono HB.size)
  replace Fg := Fg.below hb
  clear hb
  go_wp2_with fail
  refine (toFloat32S_new A n c L _ (h0.below HB) hlt).mono ?_
  rintro e w5 ⟨e1, rfl, le, Fe, hb⟩
  replace HB := HB.trans (hb.mono HB.size)
  replace Fg := Fg.below hb
  clear hb le
  go_wp2_with fail
  refine (eqFloat32S_alike _ _ n _ _ L L _ Fg Fe.sl hlt rfl).mono ?_
  rintro e wx ⟨k4, rfl, rfl⟩
  go_wp2_with fail
  go_ret
  exact ⟨rfl, below_drewN HB _⟩
end Go.Proofs.Ytedpbidphajngaa
