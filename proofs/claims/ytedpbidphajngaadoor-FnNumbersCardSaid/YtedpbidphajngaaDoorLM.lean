/- The variable that the search for a byte reads holds a number wherever a call begins. -/
import Derived.Test.YtedpbidphajngaaDoorCT
namespace Go.Proofs.YtedpbidphajngaaDoor
open Go.RowKit
theorem max_shaped {W : World} (h : W.ShapedOpen Tryd.prog) : MaxW W := Tryd.laysM146.s1_3 W h
end Go.Proofs.YtedpbidphajngaaDoor
