/- Laws of rows and tables. (written by gen/genL.py) -/
import Derived.Test.YteodplednmeaaaaTL
import Derived.Test.YteodplednmeaaaaK
import Derived.Deep.RegionHeld3
import Derived.Deep.RegionWith
import Derived.Deep.DeepCutAuto
import Derived.Deep.CutRange
namespace Go.Proofs.Yteodplednmeaaaa
open Go.RowKit
set_option linter.unusedVariables false
set_option linter.unusedSimpArgs false
attribute [local go_sem] lo_value lo_enter run_store_float

set_option maxHeartbeats 4000000 in
set_option maxRecDepth 100000 in
theorem lawLeaveOf (w : World) (v : Int) (A1 A2 : Option Addr) (n1 n2 c1 c2 : Nat) (L1 : List Nat) (L2 : List Int) (hv : (Lit.int .i64 v).wf = true) (f1 : FArg w A1 n1 L1) (f2 : IArg w A2 n2 L2) (y1 : Int) (hy1 : (Lit.int .i64 y1).wf = true) (x2 : Nat) (hx2 : (Lit.float .f32 x2).wf = true) :
    Calls Try.prog 16 #[.agg #[.int .i64 v, .slice A1 n1 c1, .slice A2 n2 c2], .int .i64 y1, .float .f32 x2] w fun e w' => e = .returned (.bool true) ∧ Below w.heap.size w w' := by
  have HB : Below w.heap.size w (w.alloc (.cells #[.int .i64 v, .slice A1 n1 c1, .slice A2 n2 c2] 43)) := (Below.refl _ _).alloc (Nat.le_refl _) _
  have R0 := Row.new w 43 #[.int .i64 v, .slice A1 n1 c1, .slice A2 n2 c2]
  obtain ⟨h1, ml1, wf1⟩ := f1
  obtain ⟨h2, ml2, wf2⟩ := f2
  by_cases ht : 0 ≤ (1048576 : Int) - n1 - n2
  rotate_left
  · have d0 : decide ((-1 : Int) < 0) = true := rfl
    go_enter Try.func16, Try.ntmps16
    go_wp2_with fail
    refine (szTable_out v A1 A2 n1 n2 c1 c2 _ _ (by omega) (by omega) ml1 ml2 (by omega)).mono ?_
    rintro e w1 ⟨rfl, hb⟩
    go_wp2_with fail
    go_ret
    exact ⟨rfl, HB.trans (hb.mono HB.size)⟩
  have d0 : decide ((1048576 : Int) - n1 - n2 < 0) = false := decide_eq_false (by omega)
  have b1 : n1 ≤ 1048576 := by omega
  have b2 : n2 ≤ 1048576 := by omega
  go_enter Try.func16, Try.ntmps16
  go_wp2_with fail
  refine (szTable_in v A1 A2 n1 n2 c1 c2 _ _ (by omega) ht).mono ?_
  rintro e w1 ⟨rfl, hb⟩
  replace R0 := R0.below hb R0.lt
  replace HB := HB.trans (hb.mono HB.size)
  clear hb
  have qR0_0 : w1.cell? ⟨w.heap.size, 0, none⟩ = some (.int .i64 v) := R0.cell 0
  have qR0_1 : w1.cell? ⟨w.heap.size, 1, none⟩ = some (.slice A1 n1 c1) := R0.cell 1
  have qR0_2 : w1.cell? ⟨w.heap.size, 2, none⟩ = some (.slice A2 n2 c2) := R0.cell 2
  go_wp2_with fail
  refine (toTable_any v A1 A2 n1 n2 c1 c2 L1 L2 _ (h1.below HB) (h2.below HB) b1 b2).mono ?_
  rintro e w2 ⟨s1, s2, rfl, ls1, ls2, Fs1, Fs2, hb⟩
  replace R0 := R0.below hb R0.lt
  replace HB := HB.trans (hb.mono HB.size)
  clear hb qR0_0 qR0_1 qR0_2
  have qR0_0 : w2.cell? ⟨w.heap.size, 0, none⟩ = some (.int .i64 v) := R0.cell 0
  have qR0_1 : w2.cell? ⟨w.heap.size, 1, none⟩ = some (.slice A1 n1 c1) := R0.cell 1
  have qR0_2 : w2.cell? ⟨w.heap.size, 2, none⟩ = some (.slice A2 n2 c2) := R0.cell 2
  clear ls1 ls2
  replace Fs1 := Fs1.sl
  replace Fs2 := Fs2.sl
  go_wp2_with fail
  refine (specLeaveOf_any v (some ⟨s1, 0, none⟩) (some ⟨s2, 0, none⟩) n1 n2 n1 n2 L1 L2 y1 x2 _ Fs1 Fs2 b1 b2 hy1 hx2).mono ?_
  rintro e w3 ⟨rfl, hb⟩
  replace R0 := R0.below hb R0.lt
  replace HB := HB.trans (hb.mono HB.size)
  replace Fs1 := Fs1.below hb
  replace Fs2 := Fs2.below hb
  clear hb qR0_0 qR0_1 qR0_2
  have qR0_0 : w3.cell? ⟨w.heap.size, 0, none⟩ = some (.int .i64 v) := R0.cell 0
  have qR0_1 : w3.cell? ⟨w.heap.size, 1, none⟩ = some (.slice A1 n1 c1) := R0.cell 1
  have qR0_2 : w3.cell? ⟨w.heap.size, 2, none⟩ = some (.slice A2 n2 c2) := R0.cell 2
  clear Fs1 Fs2
  go_wp2_with fail
  refine (toTable_any v A1 A2 n1 n2 c1 c2 L1 L2 _ (h1.below HB) (h2.below HB) b1 b2).mono ?_
  rintro e w4 ⟨g1, g2, rfl, lg1, lg2, Fg1, Fg2, hb⟩
  replace R0 := R0.below hb R0.lt
  replace HB := HB.trans (hb.mono HB.size)
  clear hb qR0_0 qR0_1 qR0_2
  have qR0_0 : w4.cell? ⟨w.heap.size, 0, none⟩ = some (.int .i64 v) := R0.cell 0
  have qR0_1 : w4.cell? ⟨w.heap.size, 1, none⟩ = some (.slice A1 n1 c1) := R0.cell 1
  have qR0_2 : w4.cell? ⟨w.heap.size, 2, none⟩ = some (.slice A2 n2 c2) := R0.cell 2
  clear lg1 lg2
  replace Fg1 := Fg1.sl
  replace Fg2 := Fg2.sl
  have RX := Row.new w4 46 #[.int .i64 v, .slice (some ⟨g1, 0, none⟩) n1 n1, .slice (some ⟨g2, 0, none⟩) n2 n2]
  have hz0 := R0.lt
  have hne : ¬ w.heap.size = w4.heap.size := by omega
  replace R0 := R0.alloc (.cells #[.int .i64 v, .slice (some ⟨g1, 0, none⟩) n1 n1, .slice (some ⟨g2, 0, none⟩) n2 n2] 46)
  replace HB := HB.alloc HB.size (.cells #[.int .i64 v, .slice (some ⟨g1, 0, none⟩) n1 n1, .slice (some ⟨g2, 0, none⟩) n2 n2] 46)
  replace Fg1 := Fg1.alloc (.cells #[.int .i64 v, .slice (some ⟨g1, 0, none⟩) n1 n1, .slice (some ⟨g2, 0, none⟩) n2 n2] 46)
  replace Fg2 := Fg2.alloc (.cells #[.int .i64 v, .slice (some ⟨g1, 0, none⟩) n1 n1, .slice (some ⟨g2, 0, none⟩) n2 n2] 46)
  go_wp2_with fail
  refine (implLeaveOf_any v (some ⟨g1, 0, none⟩) (some ⟨g2, 0, none⟩) n1 n2 n1 n2 L1 L2 y1 x2 _ Fg1 Fg2 b1 b2 hy1 hx2).mono ?_
  rintro e w5 ⟨rfl, hb⟩
  replace R0 := R0.below hb R0.lt
  replace RX := RX.below hb RX.lt
  replace HB := HB.trans (hb.mono HB.size)
  replace Fg1 := Fg1.below hb
  replace Fg2 := Fg2.below hb
  clear hb qR0_0 qR0_1 qR0_2
  have qR0_0 : w5.cell? ⟨w.heap.size, 0, none⟩ = some (.int .i64 v) := R0.cell 0
  have qR0_1 : w5.cell? ⟨w.heap.size, 1, none⟩ = some (.slice A1 n1 c1) := R0.cell 1
  have qR0_2 : w5.cell? ⟨w.heap.size, 2, none⟩ = some (.slice A2 n2 c2) := R0.cell 2
  have qRX_0 : w5.cell? ⟨w4.heap.size, 0, none⟩ = some (.int .i64 v) := RX.cell 0
  have qRX_1 : w5.cell? ⟨w4.heap.size, 1, none⟩ = some (.slice (some ⟨g1, 0, none⟩) n1 n1) := RX.cell 1
  have qRX_2 : w5.cell? ⟨w4.heap.size, 2, none⟩ = some (.slice (some ⟨g2, 0, none⟩) n2 n2) := RX.cell 2
  clear hz0 hne
  go_upto_region 10 with (fail)
  have RD : Row w5.drew _ _ _ := RX
  have HE : Below w.heap.size w w5.drew := below_drewN HB 1
  have U1 : SL _ _ w5.drew _ _ _ := Fg1
  have U2 : SL _ _ w5.drew _ _ _ := Fg2
  clear RX HB R0 Fg1 Fg2
  go_region_with ((first
    | (go_at_call 35
       refine (toTable_any v A1 A2 n1 n2 c1 c2 L1 L2 _ (h1.below HE) (h2.below HE) b1 b2).mono ?_
       rintro e wa ⟨e1g, e2g, rfl, le1, le2, E1, E2, hb⟩
       have RY := RD.below hb RD.lt
       have z0 : wa.cell? ⟨w4.heap.size, 0, none⟩ = some (.int .i64 v) := RY.cell 0
       have z1 : wa.cell? ⟨w4.heap.size, 1, none⟩ = some (.slice (some ⟨g1, 0, none⟩) n1 n1) := RY.cell 1
       have z2 : wa.cell? ⟨w4.heap.size, 2, none⟩ = some (.slice (some ⟨g2, 0, none⟩) n2 n2) := RY.cell 2
       have V1 := U1.below hb
       have V2 := U2.below hb
       have HC := HE.trans (hb.mono HE.size)
       clear RY hb le1 le2)
    | (go_at_call 37
       refine (eqTable_any v _ _ _ _ n1 n2 _ _ _ _ L1 L2 _ V1 V2 E1.sl E2.sl b1 b2).mono ?_
       rintro e wb ⟨rfl, hb⟩
       replace HC := HC.trans (hb.mono HC.size)
       clear hb)))
  all_goals (
    go_wp2_with fail
    go_ret
    exact ⟨rfl, HC⟩)
end Go.Proofs.Yteodplednmeaaaa
