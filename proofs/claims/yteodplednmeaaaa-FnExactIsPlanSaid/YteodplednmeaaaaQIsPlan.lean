/- Laws of rows and tables. (written by gen/genL.py) -/
import Derived.Test.YteodplednmeaaaaLP
import Derived.Test.YteodplednmeaaaaK
import Derived.Deep.RegionHeld3
import Derived.Deep.RegionWith
import Derived.Deep.DeepCutAuto
import Derived.Deep.CutRange
namespace Go.Proofs.Yteodplednmeaaaa
open Go.RowKit
set_option linter.unusedVariables false
set_option linter.unusedSimpArgs false
attribute [local go_sem] lo_value lo_enter run_store_float

set_option maxHeartbeats 4000000 in
set_option maxRecDepth 100000 in
theorem lawIsPlan (w : World) (v : Int) (A1 A2 A3 : Option Addr) (n1 n2 n3 c1 c2 c3 : Nat) (L1 : List Nat) (L2 : List Nat) (L3 : List Nat) (f1 : FArg w A1 n1 L1) (f2 : FArg w A2 n2 L2) (f3 : FArg w A3 n3 L3) (B1 : Option Addr) (m1 d1 : Nat) (M1 : List Nat) (fb1 : FArg w B1 m1 M1) (x2 : Nat) (hx2 : (Lit.float .f32 x2).wf = true) :
    Calls Try.prog 15 #[.agg #[.int .i64 v, .slice A1 n1 c1, .slice A2 n2 c2, .slice A3 n3 c3], .slice B1 m1 d1, .float .f32 x2] w fun e w' => e = .returned (.bool true) ∧ Below w.heap.size w w' := by
  have HB : Below w.heap.size w (w.alloc (.cells #[.int .i64 v, .slice A1 n1 c1, .slice A2 n2 c2, .slice A3 n3 c3] 33)) := (Below.refl _ _).alloc (Nat.le_refl _) _
  have R0 := Row.new w 33 #[.int .i64 v, .slice A1 n1 c1, .slice A2 n2 c2, .slice A3 n3 c3]
  obtain ⟨h1, ml1, wf1⟩ := f1
  obtain ⟨h2, ml2, wf2⟩ := f2
  obtain ⟨h3, ml3, wf3⟩ := f3
  obtain ⟨k1, mm1, wg1⟩ := fb1
  by_cases bm1 : m1 ≤ 1048576
  rotate_left
  · have e1 : decide ((1048576 : Int) < (m1 : Int)) = true := decide_eq_true (by omega)
    go_enter Try.func15, Try.ntmps15
    go_wp2_with fail
    go_ret
    exact ⟨rfl, HB⟩
  have e1 : decide ((1048576 : Int) < (m1 : Int)) = false := decide_eq_false (by omega)
  by_cases ht : 0 ≤ (1048576 : Int) - n1 - n2 - n3
  rotate_left
  · have d0 : decide ((-1 : Int) < 0) = true := rfl
    go_enter Try.func15, Try.ntmps15
    go_wp2_with fail
    refine (szRows_out v A1 A2 A3 n1 n2 n3 c1 c2 c3 _ _ (by omega) (by omega) ml1 ml2 ml3 (by omega)).mono ?_
    rintro e w1 ⟨rfl, hb⟩
    go_wp2_with fail
    go_ret
    exact ⟨rfl, HB.trans (hb.mono HB.size)⟩
  have d0 : decide ((1048576 : Int) - n1 - n2 - n3 < 0) = false := decide_eq_false (by omega)
  have b1 : n1 ≤ 1048576 := by omega
  have b2 : n2 ≤ 1048576 := by omega
  have b3 : n3 ≤ 1048576 := by omega
  go_enter Try.func15, Try.ntmps15
  go_wp2_with fail
  refine (szRows_in v A1 A2 A3 n1 n2 n3 c1 c2 c3 _ _ (by omega) ht).mono ?_
  rintro e w1 ⟨rfl, hb⟩
  replace R0 := R0.below hb R0.lt
  replace HB := HB.trans (hb.mono HB.size)
  clear hb
  have qR0_0 : w1.cell? ⟨w.heap.size, 0, none⟩ = some (.int .i64 v) := R0.cell 0
  have qR0_1 : w1.cell? ⟨w.heap.size, 1, none⟩ = some (.slice A1 n1 c1) := R0.cell 1
  have qR0_2 : w1.cell? ⟨w.heap.size, 2, none⟩ = some (.slice A2 n2 c2) := R0.cell 2
  have qR0_3 : w1.cell? ⟨w.heap.size, 3, none⟩ = some (.slice A3 n3 c3) := R0.cell 3
  go_wp2_with fail
  refine (toRows_any v A1 A2 A3 n1 n2 n3 c1 c2 c3 L1 L2 L3 _ (h1.below HB) (h2.below HB) (h3.below HB) b1 b2 b3).mono ?_
  rintro e w2 ⟨s1, s2, s3, rfl, ls1, ls2, ls3, Fs1, Fs2, Fs3, hb⟩
  replace R0 := R0.below hb R0.lt
  replace HB := HB.trans (hb.mono HB.size)
  clear hb qR0_0 qR0_1 qR0_2 qR0_3
  have qR0_0 : w2.cell? ⟨w.heap.size, 0, none⟩ = some (.int .i64 v) := R0.cell 0
  have qR0_1 : w2.cell? ⟨w.heap.size, 1, none⟩ = some (.slice A1 n1 c1) := R0.cell 1
  have qR0_2 : w2.cell? ⟨w.heap.size, 2, none⟩ = some (.slice A2 n2 c2) := R0.cell 2
  have qR0_3 : w2.cell? ⟨w.heap.size, 3, none⟩ = some (.slice A3 n3 c3) := R0.cell 3
  clear ls1 ls2 ls3
  replace Fs1 := Fs1.sl
  replace Fs2 := Fs2.sl
  replace Fs3 := Fs3.sl
  go_wp2_with fail
  refine (toFloat32S_new B1 m1 d1 M1 _ (k1.below HB) bm1).mono ?_
  rintro e w3 ⟨z1, rfl, l, Yz1, hb⟩
  replace R0 := R0.below hb R0.lt
  replace HB := HB.trans (hb.mono HB.size)
  replace Fs1 := Fs1.below hb
  replace Fs2 := Fs2.below hb
  replace Fs3 := Fs3.below hb
  clear hb qR0_0 qR0_1 qR0_2 qR0_3
  have qR0_0 : w3.cell? ⟨w.heap.size, 0, none⟩ = some (.int .i64 v) := R0.cell 0
  have qR0_1 : w3.cell? ⟨w.heap.size, 1, none⟩ = some (.slice A1 n1 c1) := R0.cell 1
  have qR0_2 : w3.cell? ⟨w.heap.size, 2, none⟩ = some (.slice A2 n2 c2) := R0.cell 2
  have qR0_3 : w3.cell? ⟨w.heap.size, 3, none⟩ = some (.slice A3 n3 c3) := R0.cell 3
  clear l
  replace Yz1 := Yz1.sl
  go_wp2_with fail
  refine (specIsPlan_any v (some ⟨s1, 0, none⟩) (some ⟨s2, 0, none⟩) (some ⟨s3, 0, none⟩) n1 n2 n3 n1 n2 n3 L1 L2 L3 (some ⟨z1, 0, none⟩) m1 m1 M1 x2 _ Fs1 Fs2 Fs3 b1 b2 b3 Yz1 bm1 hx2).mono ?_
  rintro e w4 ⟨rfl, hb⟩
  replace R0 := R0.below hb R0.lt
  replace HB := HB.trans (hb.mono HB.size)
  replace Fs1 := Fs1.below hb
  replace Fs2 := Fs2.below hb
  replace Fs3 := Fs3.below hb
  replace Yz1 := Yz1.below hb
  clear hb qR0_0 qR0_1 qR0_2 qR0_3
  have qR0_0 : w4.cell? ⟨w.heap.size, 0, none⟩ = some (.int .i64 v) := R0.cell 0
  have qR0_1 : w4.cell? ⟨w.heap.size, 1, none⟩ = some (.slice A1 n1 c1) := R0.cell 1
  have qR0_2 : w4.cell? ⟨w.heap.size, 2, none⟩ = some (.slice A2 n2 c2) := R0.cell 2
  have qR0_3 : w4.cell? ⟨w.heap.size, 3, none⟩ = some (.slice A3 n3 c3) := R0.cell 3
  clear Fs1 Fs2 Fs3 Yz1
  go_wp2_with fail
  refine (toRows_any v A1 A2 A3 n1 n2 n3 c1 c2 c3 L1 L2 L3 _ (h1.below HB) (h2.below HB) (h3.below HB) b1 b2 b3).mono ?_
  rintro e w5 ⟨g1, g2, g3, rfl, lg1, lg2, lg3, Fg1, Fg2, Fg3, hb⟩
  replace R0 := R0.below hb R0.lt
  replace HB := HB.trans (hb.mono HB.size)
  clear hb qR0_0 qR0_1 qR0_2 qR0_3
  have qR0_0 : w5.cell? ⟨w.heap.size, 0, none⟩ = some (.int .i64 v) := R0.cell 0
  have qR0_1 : w5.cell? ⟨w.heap.size, 1, none⟩ = some (.slice A1 n1 c1) := R0.cell 1
  have qR0_2 : w5.cell? ⟨w.heap.size, 2, none⟩ = some (.slice A2 n2 c2) := R0.cell 2
  have qR0_3 : w5.cell? ⟨w.heap.size, 3, none⟩ = some (.slice A3 n3 c3) := R0.cell 3
  clear lg1 lg2 lg3
  replace Fg1 := Fg1.sl
  replace Fg2 := Fg2.sl
  replace Fg3 := Fg3.sl
  have RX := Row.new w5 36 #[.int .i64 v, .slice (some ⟨g1, 0, none⟩) n1 n1, .slice (some ⟨g2, 0, none⟩) n2 n2, .slice (some ⟨g3, 0, none⟩) n3 n3]
  have hz0 := R0.lt
  have hne : ¬ w.heap.size = w5.heap.size := by omega
  replace R0 := R0.alloc (.cells #[.int .i64 v, .slice (some ⟨g1, 0, none⟩) n1 n1, .slice (some ⟨g2, 0, none⟩) n2 n2, .slice (some ⟨g3, 0, none⟩) n3 n3] 36)
  replace HB := HB.alloc HB.size (.cells #[.int .i64 v, .slice (some ⟨g1, 0, none⟩) n1 n1, .slice (some ⟨g2, 0, none⟩) n2 n2, .slice (some ⟨g3, 0, none⟩) n3 n3] 36)
  replace Fg1 := Fg1.alloc (.cells #[.int .i64 v, .slice (some ⟨g1, 0, none⟩) n1 n1, .slice (some ⟨g2, 0, none⟩) n2 n2, .slice (some ⟨g3, 0, none⟩) n3 n3] 36)
  replace Fg2 := Fg2.alloc (.cells #[.int .i64 v, .slice (some ⟨g1, 0, none⟩) n1 n1, .slice (some ⟨g2, 0, none⟩) n2 n2, .slice (some ⟨g3, 0, none⟩) n3 n3] 36)
  replace Fg3 := Fg3.alloc (.cells #[.int .i64 v, .slice (some ⟨g1, 0, none⟩) n1 n1, .slice (some ⟨g2, 0, none⟩) n2 n2, .slice (some ⟨g3, 0, none⟩) n3 n3] 36)
  go_wp2_with fail
  refine (toFloat32S_new B1 m1 d1 M1 _ (k1.below HB) bm1).mono ?_
  rintro e w6 ⟨u1, rfl, l, Yu1, hb⟩
  replace R0 := R0.below hb R0.lt
  replace RX := RX.below hb RX.lt
  replace HB := HB.trans (hb.mono HB.size)
  replace Fg1 := Fg1.below hb
  replace Fg2 := Fg2.below hb
  replace Fg3 := Fg3.below hb
  clear hb qR0_0 qR0_1 qR0_2 qR0_3
  have qR0_0 : w6.cell? ⟨w.heap.size, 0, none⟩ = some (.int .i64 v) := R0.cell 0
  have qR0_1 : w6.cell? ⟨w.heap.size, 1, none⟩ = some (.slice A1 n1 c1) := R0.cell 1
  have qR0_2 : w6.cell? ⟨w.heap.size, 2, none⟩ = some (.slice A2 n2 c2) := R0.cell 2
  have qR0_3 : w6.cell? ⟨w.heap.size, 3, none⟩ = some (.slice A3 n3 c3) := R0.cell 3
  have qRX_0 : w6.cell? ⟨w5.heap.size, 0, none⟩ = some (.int .i64 v) := RX.cell 0
  have qRX_1 : w6.cell? ⟨w5.heap.size, 1, none⟩ = some (.slice (some ⟨g1, 0, none⟩) n1 n1) := RX.cell 1
  have qRX_2 : w6.cell? ⟨w5.heap.size, 2, none⟩ = some (.slice (some ⟨g2, 0, none⟩) n2 n2) := RX.cell 2
  have qRX_3 : w6.cell? ⟨w5.heap.size, 3, none⟩ = some (.slice (some ⟨g3, 0, none⟩) n3 n3) := RX.cell 3
  clear l
  replace Yu1 := Yu1.sl
  go_wp2_with fail
  refine (implIsPlan_any v (some ⟨g1, 0, none⟩) (some ⟨g2, 0, none⟩) (some ⟨g3, 0, none⟩) n1 n2 n3 n1 n2 n3 L1 L2 L3 (some ⟨u1, 0, none⟩) m1 m1 M1 x2 _ Fg1 Fg2 Fg3 b1 b2 b3 Yu1 bm1 hx2).mono ?_
  rintro e w7 ⟨rfl, hb⟩
  replace R0 := R0.below hb R0.lt
  replace RX := RX.below hb RX.lt
  replace HB := HB.trans (hb.mono HB.size)
  replace Fg1 := Fg1.below hb
  replace Fg2 := Fg2.below hb
  replace Fg3 := Fg3.below hb
  replace Yu1 := Yu1.below hb
  clear hb qR0_0 qR0_1 qR0_2 qR0_3 qRX_0 qRX_1 qRX_2 qRX_3
  have qR0_0 : w7.cell? ⟨w.heap.size, 0, none⟩ = some (.int .i64 v) := R0.cell 0
  have qR0_1 : w7.cell? ⟨w.heap.size, 1, none⟩ = some (.slice A1 n1 c1) := R0.cell 1
  have qR0_2 : w7.cell? ⟨w.heap.size, 2, none⟩ = some (.slice A2 n2 c2) := R0.cell 2
  have qR0_3 : w7.cell? ⟨w.heap.size, 3, none⟩ = some (.slice A3 n3 c3) := R0.cell 3
  have qRX_0 : w7.cell? ⟨w5.heap.size, 0, none⟩ = some (.int .i64 v) := RX.cell 0
  have qRX_1 : w7.cell? ⟨w5.heap.size, 1, none⟩ = some (.slice (some ⟨g1, 0, none⟩) n1 n1) := RX.cell 1
  have qRX_2 : w7.cell? ⟨w5.heap.size, 2, none⟩ = some (.slice (some ⟨g2, 0, none⟩) n2 n2) := RX.cell 2
  have qRX_3 : w7.cell? ⟨w5.heap.size, 3, none⟩ = some (.slice (some ⟨g3, 0, none⟩) n3 n3) := RX.cell 3
  clear hz0 hne
  go_upto_region 13 with (fail)
  have RD : Row w7.drew _ _ _ := RX
  have HE : Below w.heap.size w w7.drew := below_drewN HB 1
  have U1 : SL _ _ w7.drew _ _ _ := Fg1
  have U2 : SL _ _ w7.drew _ _ _ := Fg2
  have U3 : SL _ _ w7.drew _ _ _ := Fg3
  have T1 : SL _ _ w7.drew _ _ _ := Yu1
  clear RX HB R0 Fg1 Fg2 Fg3 Yu1
  go_region_with ((first
    | (go_at_call 28
       refine (toRows_any v A1 A2 A3 n1 n2 n3 c1 c2 c3 L1 L2 L3 _ (h1.below HE) (h2.below HE) (h3.below HE) b1 b2 b3).mono ?_
       rintro e wa ⟨e1g, e2g, e3g, rfl, le1, le2, le3, E1, E2, E3, hb⟩
       have RY := RD.below hb RD.lt
       have z0 : wa.cell? ⟨w5.heap.size, 0, none⟩ = some (.int .i64 v) := RY.cell 0
       have z1 : wa.cell? ⟨w5.heap.size, 1, none⟩ = some (.slice (some ⟨g1, 0, none⟩) n1 n1) := RY.cell 1
       have z2 : wa.cell? ⟨w5.heap.size, 2, none⟩ = some (.slice (some ⟨g2, 0, none⟩) n2 n2) := RY.cell 2
       have z3 : wa.cell? ⟨w5.heap.size, 3, none⟩ = some (.slice (some ⟨g3, 0, none⟩) n3 n3) := RY.cell 3
       have V1 := U1.below hb
       have V2 := U2.below hb
       have V3 := U3.below hb
       have S1 := T1.below hb
       have HC := HE.trans (hb.mono HE.size)
       clear RY hb le1 le2 le3)
    | (go_at_call 30
       refine (eqRows_any v _ _ _ _ _ _ n1 n2 n3 _ _ _ _ _ _ L1 L2 L3 _ V1 V2 V3 E1.sl E2.sl E3.sl b1 b2 b3).mono ?_
       rintro e wb ⟨rfl, hb⟩
       replace S1 := S1.below hb
       replace HC := HC.trans (hb.mono HC.size)
       clear hb)))
  all_goals (
    go_wp2_with fail
    refine (toFloat32S_new B1 m1 d1 M1 _ (k1.below HC) bm1).mono ?_
    rintro e wc1 ⟨gz1, rfl, l, Z1, hb⟩
    replace HC := HC.trans (hb.mono HC.size)
    replace S1 := S1.below hb
    clear hb l
    go_wp2_with fail
    refine (eqFloat32S_alike _ _ m1 _ _ M1 M1 _ S1 Z1.sl bm1 rfl).mono ?_
    rintro e wd1 ⟨kq1, rfl, hw⟩
    have hb : Below wc1.heap.size wc1 wd1 := by rw [hw]; exact below_drewN (Below.refl _ _) _
    clear hw
    replace HC := HC.trans (hb.mono HC.size)
    clear hb S1 Z1
    go_wp2_with fail
    go_ret
    exact ⟨rfl, HC⟩)
end Go.Proofs.Yteodplednmeaaaa
