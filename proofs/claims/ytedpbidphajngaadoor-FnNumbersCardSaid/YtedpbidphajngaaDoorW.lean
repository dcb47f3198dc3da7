/- Small helpers that many functions call: a number within bounds, the length of something. -/
import Derived.Test.YtedpbidphajngaaDoorChecked
import Derived.Test.YtedpbidphajngaaDoorFl
import Derived.KernelRfl
import Derived.Handy
namespace Go.Proofs.YtedpbidphajngaaDoor
open Go.RowKit
set_option linter.unusedVariables false
set_option linter.unusedSimpArgs false

/-- within bounds -/
def inR (n lo hi : Int) : Bool := decide (lo ≤ n ∧ n ≤ hi)
theorem inR_true {n lo hi : Int} (h1 : lo ≤ n) (h2 : n ≤ hi) : inR n lo hi = true := by simp [inR, h1, h2]
theorem inR_low {n lo hi : Int} (h1 : n < lo) : inR n lo hi = false := by simp [inR]; omega
theorem inR_high {n lo hi : Int} (h1 : hi < n) : inR n lo hi = false := by simp [inR]; omega
theorem inR_of {n lo hi : Int} (h : inR n lo hi = true) : lo ≤ n ∧ n ≤ hi := by simpa [inR] using h
theorem inR_not {n lo hi : Int} (h : inR n lo hi = false) : n < lo ∨ hi < n := by simp [inR] at h; omega

theorem within_any (n lo hi : Int) (w : World) : Calls Tryd.prog 49 #[.int .i64 n, .int .i64 lo, .int .i64 hi] w fun e w' => e = .returned (.bool (inR n lo hi)) ∧ w = w' := by
  by_cases h1 : lo ≤ n
  · have H : Hid (inR n lo hi = decide (n ≤ hi)) := by show _ = _; simp [inR, h1]
    go_enter Tryd.func49, Tryd.ntmps49
    go_wp2
    go_ret
    exact ⟨by rw [H.out]; rfl, rfl⟩
  · have H : Hid (inR n lo hi = false) := by show _ = _; simp [inR, h1]
    go_enter Tryd.func49, Tryd.ntmps49
    go_wp2
    go_ret
    exact ⟨by rw [H.out]; rfl, rfl⟩
theorem l00In_any (n lo hi : Int) (w : World) : Calls Tryd.prog 83 #[.int .i64 n, .int .i64 lo, .int .i64 hi] w fun e w' => e = .returned (.bool (inR n lo hi)) ∧ w = w' := by
  by_cases h1 : lo ≤ n
  · have H : Hid (inR n lo hi = decide (n ≤ hi)) := by show _ = _; simp [inR, h1]
    go_enter Tryd.func83, Tryd.ntmps83
    go_wp2
    go_ret
    exact ⟨by rw [H.out]; rfl, rfl⟩
  · have H : Hid (inR n lo hi = false) := by show _ = _; simp [inR, h1]
    go_enter Tryd.func83, Tryd.ntmps83
    go_wp2
    go_ret
    exact ⟨by rw [H.out]; rfl, rfl⟩
end Go.Proofs.YtedpbidphajngaaDoor
