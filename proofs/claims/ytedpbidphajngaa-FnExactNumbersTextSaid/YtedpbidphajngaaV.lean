/- The laws on sums and sums of products of lists of single floats. -/
import Derived.Test.YtedpbidphajngaaN
import Derived.Test.YtedpbidphajngaaT
import Derived.Test.YtedpbidphajngaaO
namespace Go.Proofs.Ytedpbidphajngaa
open Go.RowKit
set_option linter.unusedVariables false
set_option linter.unusedSimpArgs false

theorem bt {w w1 w2 : World} (h : Below w.heap.size w w1) (k : Nat) (h2 : Below (w1.drewN k).heap.size (w1.drewN k) w2) : Below w.heap.size w w2 :=
  (below_drewN h k).trans (h2.mono h.size)
theorem bd {w w1 : World} (h : Below w.heap.size w w1) (k : Nat) : Below w.heap.size w (w1.drewN k) := below_drewN h k


end Go.Proofs.Ytedpbidphajngaa
