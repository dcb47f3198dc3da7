/- The walk of the law FnExactReadComplex. -/
import Derived.Test.YtedpbidphajngaaDoorRC
import Derived.Test.YtedpbidphajngaaDoorMC
import Derived.Deep.LoopGhost
namespace Go.Proofs.YtedpbidphajngaaDoor
open Go.RowKit
set_option linter.unusedVariables false
set_option linter.unusedSimpArgs false
attribute [local go_sem] lo_value lo_enter
set_option maxHeartbeats 2000000 in
set_option maxRecDepth 100000 in
theorem lawReadComplex (w : World) (s : ByteArray) (hw : s.size ≤ maxLen) (hm : MaxW w) :
    Calls Tryd.prog 8 #[.string s] w fun e w' => e = .returned (.bool true) ∧ Below w.heap.size w w' := by
  unfold maxLen at hw
  by_cases hlt : s.size ≤ 1048576
  rotate_left
  · have h3 : decide ((1048576 : Int) < (s.size : Int)) = true := decide_eq_true (by omega)
    go_enter Tryd.func8, Tryd.ntmps8
    go_wp2_with fail
    go_ret
    exact ⟨rfl, Below.refl _ _⟩
  have h3 : decide ((1048576 : Int) < (s.size : Int)) = false := decide_eq_false (by omega)
  have hsc := fun wq => specReadComplex_any s hlt wq
  have hic := fun wq x0 => implReadComplex_any s hlt wq x0
  have hnb := cpxL_len s.data.toList
  generalize cpxV s.data.toList = V at *
  generalize cpxL s.data.toList = L at *
  generalize hnn : L.length = n at *
  have hn0 : (0 : Int) ≤ (n : Int) := Int.natCast_nonneg _
  have hvv : (V != V) = false := by cases V <;> rfl
  clear hnn
  go_enter Tryd.func8, Tryd.ntmps8
  go_wp2_with fail
  refine (hsc _).mono ?_
  rintro e w1 ⟨u0, rfl, o0, hb⟩
  have HB := hb
  clear hb
  go_wp2_with fail
  refine (hic _ (hm.below HB)).mono ?_
  rintro e w2 ⟨u1, rfl, o1, hb⟩
  have hap := own_later o0 o1 (Nat.le_refl _)
  replace o0 := own_stay o0 hb
  replace o1 := o1.mono HB.size
  replace HB := HB.trans (hb.mono HB.size)
  clear hb
  obtain ⟨A0, c0, rfl, s0⟩ := own_sl (0, 0) o0
  obtain ⟨A1, c1, rfl, s1⟩ := own_sl (0, 0) o1
  go_wp2_with fail
  refine (eqComplex64S_same A1 A0 n c1 c0 L _ s1 s0 (by omega)).mono ?_
  rintro e wx ⟨q1, rfl, rfl⟩
  clear s0 s1
  go_wp2_with fail
  refine (markC_any w.heap.size n 1 _ _ _ (own_drew o1 q1) hnb (by omega)).mono ?_
  rintro e w3 ⟨rfl, m1, hg⟩
  replace o0 := World.ownsRow.kept (own_drew o0 q1) hg hap
  replace HB := below_grown_h (below_drewN HB q1) hg HB.size (fun j e => (o1.lt j e).1)
  clear o1 hg hap
  go_wp2_with fail
  refine (heldC_any w.heap.size n 1 _ _ m1 hnb (by omega)).mono ?_
  rintro e w4 ⟨rfl, rfl⟩
  go_wp2_with fail
  refine (hic _ (hm.below HB)).mono ?_
  rintro e w5 ⟨u2, rfl, o2, hb⟩
  replace o0 := own_stay o0 hb
  replace m1 := own_stay m1 hb
  replace HB := HB.trans (hb.mono HB.size)
  clear hb
  have s0 := own_sl' (0, 0) o0
  obtain ⟨A2, c2, rfl, s2⟩ := own_sl (0, 0) o2
  go_wp2_with fail
  refine (eqComplex64S_same A2 A0 n c2 c0 L _ s2 s0 (by omega)).mono ?_
  rintro e wx ⟨q2, rfl, rfl⟩
  clear s0 s2 o0 o2
  go_wp2_with fail
  refine (heldC_any w.heap.size n 1 _ _ (own_drew m1 q2) hnb (by omega)).mono ?_
  rintro e w6 ⟨rfl, rfl⟩
  go_wp2_with fail
  go_ret
  exact ⟨rfl, below_drewN HB q2⟩
end Go.Proofs.YtedpbidphajngaaDoor
