/- Small helpers that many functions call: a number within bounds, the length of something. -/
import Derived.Test.YtedpbidphajngaaChecked
import Derived.Test.YtedpbidphajngaaFl
import Derived.KernelRfl
import Derived.Handy
namespace Go.Proofs.Ytedpbidphajngaa
open Go.RowKit
set_option linter.unusedVariables false
set_option linter.unusedSimpArgs false

/-- within bounds -/
def inR (n lo hi : Int) : Bool := decide (lo ≤ n ∧ n ≤ hi)
theorem inR_true {n lo hi : Int} (h1 : lo ≤ n) (h2 : n ≤ hi) : inR n lo hi = true := by simp [inR, h1, h2]
theorem inR_low {n lo hi : Int} (h1 : n < lo) : inR n lo hi = false := by simp [inR]; omega
theorem inR_high {n lo hi : Int} (h1 : hi < n) : inR n lo hi = false := by simp [inR]; omega
theorem inR_of {n lo hi : Int} (h : inR n lo hi = true) : lo ≤ n ∧ n ≤ hi := by simpa [inR] using h
theorem inR_not {n lo hi : Int} (h : inR n lo hi = false) : n < lo ∨ hi < n := by simp [inR] at h; omega

end Go.Proofs.Ytedpbidphajngaa
