/- Laws of rows and tables whose result is a list. (written by gen/genW.py) -/
import Derived.Test.YteodplednmeaaaaLY
import Derived.Test.YteodplednmeaaaaK
import Derived.Deep.RegionHeld3
import Derived.Deep.RegionWith
import Derived.Deep.DeepCutAuto
import Derived.Deep.CutRange
namespace Go.Proofs.Yteodplednmeaaaa
open Go.RowKit
set_option linter.unusedVariables false
set_option linter.unusedSimpArgs false
attribute [local go_sem] lo_value lo_enter run_store_float

set_option maxHeartbeats 8000000 in
set_option maxRecDepth 100000 in
theorem lawLeftOf (w : World) (v : Int) (A1 A2 A3 : Option Addr) (n1 n2 n3 c1 c2 c3 : Nat) (L1 : List Nat) (L2 : List Nat) (L3 : List Nat) (f1 : FArg w A1 n1 L1) (f2 : FArg w A2 n2 L2) (f3 : FArg w A3 n3 L3) (B1 : Option Addr) (m1 d1 : Nat) (M1 : List Nat) (fb1 : FArg w B1 m1 M1) :
    Calls Try.prog 14 #[.agg #[.int .i64 v, .slice A1 n1 c1, .slice A2 n2 c2, .slice A3 n3 c3], .slice B1 m1 d1] w fun e w' => e = .returned (.bool true) ∧ Below w.heap.size w w' := by
  have HB : Below w.heap.size w (w.alloc (.cells #[.int .i64 v, .slice A1 n1 c1, .slice A2 n2 c2, .slice A3 n3 c3] 33)) := (Below.refl _ _).alloc (Nat.le_refl _) _
  have R0 := Row.new w 33 #[.int .i64 v, .slice A1 n1 c1, .slice A2 n2 c2, .slice A3 n3 c3]
  obtain ⟨h1, ml1, wf1⟩ := f1
  obtain ⟨h2, ml2, wf2⟩ := f2
  obtain ⟨h3, ml3, wf3⟩ := f3
  obtain ⟨k1, mm1, wg1⟩ := fb1
  by_cases bm1 : m1 ≤ 1048576
  rotate_left
  · have e1 : decide ((1048576 : Int) < (m1 : Int)) = true := decide_eq_true (by omega)
    go_enter Try.func14, Try.ntmps14
    go_wp2_with fail
    go_ret
    exact ⟨rfl, HB⟩
  have e1 : decide ((1048576 : Int) < (m1 : Int)) = false := decide_eq_false (by omega)
  by_cases ht : 0 ≤ (1048576 : Int) - n1 - n2 - n3
  rotate_left
  · have d0 : decide ((-1 : Int) < 0) = true := rfl
    go_enter Try.func14, Try.ntmps14
    go_wp2_with fail
    refine (szRows_out v A1 A2 A3 n1 n2 n3 c1 c2 c3 _ _ (by omega) (by omega) ml1 ml2 ml3 (by omega)).mono ?_
    rintro e w1 ⟨rfl, hb⟩
    go_wp2_with fail
    go_ret
    exact ⟨rfl, HB.trans (hb.mono HB.size)⟩
  have d0 : decide ((1048576 : Int) - n1 - n2 - n3 < 0) = false := decide_eq_false (by omega)
  have b1 : n1 ≤ 1048576 := by omega
  have b2 : n2 ≤ 1048576 := by omega
  have b3 : n3 ≤ 1048576 := by omega
  have HN : (leftOfN v n1 n2 n3 L1 L2 L3 m1 M1) ≤ 1048576 := leftOfN_le b2
  go_enter Try.func14, Try.ntmps14
  go_wp2_with fail
  refine (szRows_in v A1 A2 A3 n1 n2 n3 c1 c2 c3 _ _ (by omega) ht).mono ?_
  rintro e w1 ⟨rfl, hb⟩
  replace R0 := R0.below hb R0.lt
  replace HB := HB.trans (hb.mono HB.size)
  clear hb
  have qR0_0 : w1.cell? ⟨w.heap.size, 0, none⟩ = some (.int .i64 v) := R0.cell 0
  have qR0_1 : w1.cell? ⟨w.heap.size, 1, none⟩ = some (.slice A1 n1 c1) := R0.cell 1
  have qR0_2 : w1.cell? ⟨w.heap.size, 2, none⟩ = some (.slice A2 n2 c2) := R0.cell 2
  have qR0_3 : w1.cell? ⟨w.heap.size, 3, none⟩ = some (.slice A3 n3 c3) := R0.cell 3
  go_wp2_with fail
  refine (toRows_any v A1 A2 A3 n1 n2 n3 c1 c2 c3 L1 L2 L3 _ (h1.below HB) (h2.below HB) (h3.below HB) b1 b2 b3).mono ?_
  rintro e w2 ⟨s1, s2, s3, rfl, ls1, ls2, ls3, Fs1, Fs2, Fs3, hb⟩
  replace R0 := R0.below hb R0.lt
  replace HB := HB.trans (hb.mono HB.size)
  clear hb qR0_0 qR0_1 qR0_2 qR0_3
  have qR0_0 : w2.cell? ⟨w.heap.size, 0, none⟩ = some (.int .i64 v) := R0.cell 0
  have qR0_1 : w2.cell? ⟨w.heap.size, 1, none⟩ = some (.slice A1 n1 c1) := R0.cell 1
  have qR0_2 : w2.cell? ⟨w.heap.size, 2, none⟩ = some (.slice A2 n2 c2) := R0.cell 2
  have qR0_3 : w2.cell? ⟨w.heap.size, 3, none⟩ = some (.slice A3 n3 c3) := R0.cell 3
  clear ls1 ls2 ls3
  replace Fs1 := Fs1.sl
  replace Fs2 := Fs2.sl
  replace Fs3 := Fs3.sl
  go_wp2_with fail
  refine (toFloat32S_new B1 m1 d1 M1 _ (k1.below HB) bm1).mono ?_
  rintro e w3 ⟨z1, rfl, lz1, Yz1, hb⟩
  replace R0 := R0.below hb R0.lt
  replace HB := HB.trans (hb.mono HB.size)
  replace Fs1 := Fs1.below hb
  replace Fs2 := Fs2.below hb
  replace Fs3 := Fs3.below hb
  clear hb qR0_0 qR0_1 qR0_2 qR0_3
  have qR0_0 : w3.cell? ⟨w.heap.size, 0, none⟩ = some (.int .i64 v) := R0.cell 0
  have qR0_1 : w3.cell? ⟨w.heap.size, 1, none⟩ = some (.slice A1 n1 c1) := R0.cell 1
  have qR0_2 : w3.cell? ⟨w.heap.size, 2, none⟩ = some (.slice A2 n2 c2) := R0.cell 2
  have qR0_3 : w3.cell? ⟨w.heap.size, 3, none⟩ = some (.slice A3 n3 c3) := R0.cell 3
  clear lz1
  replace Yz1 := Yz1.sl
  go_wp2_with fail
  refine (specLeftOf_own v (some ⟨s1, 0, none⟩) (some ⟨s2, 0, none⟩) (some ⟨s3, 0, none⟩) n1 n2 n3 n1 n2 n3 L1 L2 L3 (some ⟨z1, 0, none⟩) m1 m1 M1 _ Fs1 Fs2 Fs3 b1 b2 b3 Yz1 bm1).mono ?_
  rintro e w4 ⟨su, rfl, ou, hb⟩
  replace R0 := R0.below hb R0.lt
  replace HB := HB.trans (hb.mono HB.size)
  replace Fs1 := Fs1.below hb
  replace Fs2 := Fs2.below hb
  replace Fs3 := Fs3.below hb
  replace Yz1 := Yz1.below hb
  clear hb qR0_0 qR0_1 qR0_2 qR0_3
  have qR0_0 : w4.cell? ⟨w.heap.size, 0, none⟩ = some (.int .i64 v) := R0.cell 0
  have qR0_1 : w4.cell? ⟨w.heap.size, 1, none⟩ = some (.slice A1 n1 c1) := R0.cell 1
  have qR0_2 : w4.cell? ⟨w.heap.size, 2, none⟩ = some (.slice A2 n2 c2) := R0.cell 2
  have qR0_3 : w4.cell? ⟨w.heap.size, 3, none⟩ = some (.slice A3 n3 c3) := R0.cell 3
  have hu0 : ∀ b, su.ownBlock = some b → b < w4.heap.size := fun b e => (ou.lt b e).2
  have hu := Lib.hid hu0
  clear hu0
  have e0 : w.heap.size < w4.heap.size := R0.lt
  clear Fs1 Fs2 Fs3 Yz1
  go_wp2_with fail
  refine (toRows_any v A1 A2 A3 n1 n2 n3 c1 c2 c3 L1 L2 L3 _ (h1.below HB) (h2.below HB) (h3.below HB) b1 b2 b3).mono ?_
  rintro e w5 ⟨g1, g2, g3, rfl, lg1, lg2, lg3, Fg1, Fg2, Fg3, hb⟩
  replace R0 := R0.below hb R0.lt
  replace HB := HB.trans (hb.mono HB.size)
  replace ou := kept_below ou hb
  clear hb qR0_0 qR0_1 qR0_2 qR0_3
  have qR0_0 : w5.cell? ⟨w.heap.size, 0, none⟩ = some (.int .i64 v) := R0.cell 0
  have qR0_1 : w5.cell? ⟨w.heap.size, 1, none⟩ = some (.slice A1 n1 c1) := R0.cell 1
  have qR0_2 : w5.cell? ⟨w.heap.size, 2, none⟩ = some (.slice A2 n2 c2) := R0.cell 2
  have qR0_3 : w5.cell? ⟨w.heap.size, 3, none⟩ = some (.slice A3 n3 c3) := R0.cell 3
  have e3 : g3 < w5.heap.size := Fg3.lt
  have RX := Row.new w5 36 #[.int .i64 v, .slice (some ⟨g1, 0, none⟩) n1 n1, .slice (some ⟨g2, 0, none⟩) n2 n2, .slice (some ⟨g3, 0, none⟩) n3 n3]
  have hz0 := R0.lt
  have hne : ¬ w.heap.size = w5.heap.size := by omega
  have hb : Below w5.heap.size w5 (w5.alloc (.cells #[.int .i64 v, .slice (some ⟨g1, 0, none⟩) n1 n1, .slice (some ⟨g2, 0, none⟩) n2 n2, .slice (some ⟨g3, 0, none⟩) n3 n3] 36)) := (Below.refl _ _).alloc (Nat.le_refl _) _
  replace R0 := R0.alloc (.cells #[.int .i64 v, .slice (some ⟨g1, 0, none⟩) n1 n1, .slice (some ⟨g2, 0, none⟩) n2 n2, .slice (some ⟨g3, 0, none⟩) n3 n3] 36)
  replace HB := HB.trans (hb.mono HB.size)
  replace Fg1 := Fg1.below hb Fg1.lt
  replace Fg2 := Fg2.below hb Fg2.lt
  replace Fg3 := Fg3.below hb Fg3.lt
  replace ou := kept_below ou hb
  clear hb
  go_wp2_with fail
  refine (toFloat32S_new B1 m1 d1 M1 _ (k1.below HB) bm1).mono ?_
  rintro e w6 ⟨u1, rfl, lu1, Yu1, hb⟩
  replace R0 := R0.below hb R0.lt
  replace RX := RX.below hb RX.lt
  replace HB := HB.trans (hb.mono HB.size)
  replace Fg1 := Fg1.below hb Fg1.lt
  replace Fg2 := Fg2.below hb Fg2.lt
  replace Fg3 := Fg3.below hb Fg3.lt
  replace ou := kept_below ou hb
  clear hb qR0_0 qR0_1 qR0_2 qR0_3
  have qR0_0 : w6.cell? ⟨w.heap.size, 0, none⟩ = some (.int .i64 v) := R0.cell 0
  have qR0_1 : w6.cell? ⟨w.heap.size, 1, none⟩ = some (.slice A1 n1 c1) := R0.cell 1
  have qR0_2 : w6.cell? ⟨w.heap.size, 2, none⟩ = some (.slice A2 n2 c2) := R0.cell 2
  have qR0_3 : w6.cell? ⟨w.heap.size, 3, none⟩ = some (.slice A3 n3 c3) := R0.cell 3
  have qRX_0 : w6.cell? ⟨w5.heap.size, 0, none⟩ = some (.int .i64 v) := RX.cell 0
  have qRX_1 : w6.cell? ⟨w5.heap.size, 1, none⟩ = some (.slice (some ⟨g1, 0, none⟩) n1 n1) := RX.cell 1
  have qRX_2 : w6.cell? ⟨w5.heap.size, 2, none⟩ = some (.slice (some ⟨g2, 0, none⟩) n2 n2) := RX.cell 2
  have qRX_3 : w6.cell? ⟨w5.heap.size, 3, none⟩ = some (.slice (some ⟨g3, 0, none⟩) n3 n3) := RX.cell 3
  have f1u : w5.heap.size < u1 := by simp at lu1; omega
  clear lu1
  have e4 : g3 < w6.heap.size := Fg3.lt
  have g1u : u1 < w6.heap.size := Yu1.lt
  have g3u : w5.heap.size < w6.heap.size := RX.lt
  go_wp2_with fail
  refine (implLeftOf_own v (some ⟨g1, 0, none⟩) (some ⟨g2, 0, none⟩) (some ⟨g3, 0, none⟩) n1 n2 n3 n1 n2 n3 L1 L2 L3 (some ⟨u1, 0, none⟩) m1 m1 M1 _ Fg1.sl Fg2.sl Fg3.sl b1 b2 b3 Yu1.sl bm1).mono ?_
  rintro e w7 ⟨gu, rfl, og, hb⟩
  replace R0 := R0.below hb R0.lt
  replace RX := RX.below hb RX.lt
  replace HB := HB.trans (hb.mono HB.size)
  replace Fg1 := Fg1.below hb Fg1.lt
  replace Fg2 := Fg2.below hb Fg2.lt
  replace Fg3 := Fg3.below hb Fg3.lt
  replace Yu1 := Yu1.below hb Yu1.lt
  replace ou := kept_below ou hb
  clear hb qR0_0 qR0_1 qR0_2 qR0_3 qRX_0 qRX_1 qRX_2 qRX_3
  have qR0_0 : w7.cell? ⟨w.heap.size, 0, none⟩ = some (.int .i64 v) := R0.cell 0
  have qR0_1 : w7.cell? ⟨w.heap.size, 1, none⟩ = some (.slice A1 n1 c1) := R0.cell 1
  have qR0_2 : w7.cell? ⟨w.heap.size, 2, none⟩ = some (.slice A2 n2 c2) := R0.cell 2
  have qR0_3 : w7.cell? ⟨w.heap.size, 3, none⟩ = some (.slice A3 n3 c3) := R0.cell 3
  have qRX_0 : w7.cell? ⟨w5.heap.size, 0, none⟩ = some (.int .i64 v) := RX.cell 0
  have qRX_1 : w7.cell? ⟨w5.heap.size, 1, none⟩ = some (.slice (some ⟨g1, 0, none⟩) n1 n1) := RX.cell 1
  have qRX_2 : w7.cell? ⟨w5.heap.size, 2, none⟩ = some (.slice (some ⟨g2, 0, none⟩) n2 n2) := RX.cell 2
  have qRX_3 : w7.cell? ⟨w5.heap.size, 3, none⟩ = some (.slice (some ⟨g3, 0, none⟩) n3 n3) := RX.cell 3
  clear hz0 hne
  go_wp2_with fail
  refine (eq_own _ _ (leftOfN v n1 n2 n3 L1 L2 L3 m1 M1) gu su (leftOfO v n1 n2 n3 L1 L2 L3 m1 M1) _ og ou HN).mono ?_
  rintro e w8 ⟨kq, rfl, hw⟩
  have hb : Below w7.heap.size w7 w8 := by rw [hw]; (repeat refine below_drewN ?_ _); exact Below.refl _ _
  clear hw
  replace R0 := R0.below hb R0.lt
  replace RX := RX.below hb RX.lt
  replace HB := HB.trans (hb.mono HB.size)
  replace Fg1 := Fg1.below hb Fg1.lt
  replace Fg2 := Fg2.below hb Fg2.lt
  replace Fg3 := Fg3.below hb Fg3.lt
  replace Yu1 := Yu1.below hb Yu1.lt
  replace ou := kept_below ou hb
  replace og := kept_below og hb
  clear hb qR0_0 qR0_1 qR0_2 qR0_3 qRX_0 qRX_1 qRX_2 qRX_3
  have qR0_0 : w8.cell? ⟨w.heap.size, 0, none⟩ = some (.int .i64 v) := R0.cell 0
  have qR0_1 : w8.cell? ⟨w.heap.size, 1, none⟩ = some (.slice A1 n1 c1) := R0.cell 1
  have qR0_2 : w8.cell? ⟨w.heap.size, 2, none⟩ = some (.slice A2 n2 c2) := R0.cell 2
  have qR0_3 : w8.cell? ⟨w.heap.size, 3, none⟩ = some (.slice A3 n3 c3) := R0.cell 3
  have qRX_0 : w8.cell? ⟨w5.heap.size, 0, none⟩ = some (.int .i64 v) := RX.cell 0
  have qRX_1 : w8.cell? ⟨w5.heap.size, 1, none⟩ = some (.slice (some ⟨g1, 0, none⟩) n1 n1) := RX.cell 1
  have qRX_2 : w8.cell? ⟨w5.heap.size, 2, none⟩ = some (.slice (some ⟨g2, 0, none⟩) n2 n2) := RX.cell 2
  have qRX_3 : w8.cell? ⟨w5.heap.size, 3, none⟩ = some (.slice (some ⟨g3, 0, none⟩) n3 n3) := RX.cell 3
  go_upto_region 13 with (fail)
  go_cut [56] (fun sb wx => sb = .bool false ∧ Below w8.heap.size w8 wx)
  case first =>
    have RD : Row w8.drew _ _ _ := RX
    have HE : Below w.heap.size w w8.drew := below_drewN HB 1
    have HF : Below w8.heap.size w8 w8.drew := below_drewN (Below.refl _ _) 1
    have U1 : SL _ _ w8.drew _ _ _ := Fg1.sl
    have U2 : SL _ _ w8.drew _ _ _ := Fg2.sl
    have U3 : SL _ _ w8.drew _ _ _ := Fg3.sl
    clear RX HB R0 Fg1 Fg2 Fg3 Yu1 ou og
    go_region_with ((first
      | (go_at_call 28
         refine (toRows_any v A1 A2 A3 n1 n2 n3 c1 c2 c3 L1 L2 L3 _ (h1.below HE) (h2.below HE) (h3.below HE) b1 b2 b3).mono ?_
         rintro e wa ⟨e1g, e2g, e3g, rfl, le1, le2, le3, E1, E2, E3, hb⟩
         have RY := RD.below hb RD.lt
         have z0 : wa.cell? ⟨w5.heap.size, 0, none⟩ = some (.int .i64 v) := RY.cell 0
         have z1 : wa.cell? ⟨w5.heap.size, 1, none⟩ = some (.slice (some ⟨g1, 0, none⟩) n1 n1) := RY.cell 1
         have z2 : wa.cell? ⟨w5.heap.size, 2, none⟩ = some (.slice (some ⟨g2, 0, none⟩) n2 n2) := RY.cell 2
         have z3 : wa.cell? ⟨w5.heap.size, 3, none⟩ = some (.slice (some ⟨g3, 0, none⟩) n3 n3) := RY.cell 3
         have V1 := U1.below hb
         have V2 := U2.below hb
         have V3 := U3.below hb
         have HG := HF.trans (hb.mono HF.size)
         clear RY hb le1 le2 le3)
      | (go_at_call 30
         refine (eqRows_any v _ _ _ _ _ _ n1 n2 n3 _ _ _ _ _ _ L1 L2 L3 _ V1 V2 V3 E1.sl E2.sl E3.sl b1 b2 b3).mono ?_
         rintro e wb ⟨rfl, hb⟩
         replace HG := HG.trans (hb.mono HG.size)
         clear hb)))
    all_goals (go_wp2_with fail; go_meet; exact ⟨rfl, HG⟩)
  case rest =>
  obtain ⟨rfl, hb⟩ := hcut
  skip
  replace R0 := R0.below hb R0.lt
  replace RX := RX.below hb RX.lt
  replace HB := HB.trans (hb.mono HB.size)
  replace Fg1 := Fg1.below hb Fg1.lt
  replace Fg2 := Fg2.below hb Fg2.lt
  replace Fg3 := Fg3.below hb Fg3.lt
  replace Yu1 := Yu1.below hb Yu1.lt
  replace ou := kept_below ou hb
  replace og := kept_below og hb
  clear hb qR0_0 qR0_1 qR0_2 qR0_3 qRX_0 qRX_1 qRX_2 qRX_3
  have qR0_0 : wc.cell? ⟨w.heap.size, 0, none⟩ = some (.int .i64 v) := R0.cell 0
  have qR0_1 : wc.cell? ⟨w.heap.size, 1, none⟩ = some (.slice A1 n1 c1) := R0.cell 1
  have qR0_2 : wc.cell? ⟨w.heap.size, 2, none⟩ = some (.slice A2 n2 c2) := R0.cell 2
  have qR0_3 : wc.cell? ⟨w.heap.size, 3, none⟩ = some (.slice A3 n3 c3) := R0.cell 3
  have qRX_0 : wc.cell? ⟨w5.heap.size, 0, none⟩ = some (.int .i64 v) := RX.cell 0
  have qRX_1 : wc.cell? ⟨w5.heap.size, 1, none⟩ = some (.slice (some ⟨g1, 0, none⟩) n1 n1) := RX.cell 1
  have qRX_2 : wc.cell? ⟨w5.heap.size, 2, none⟩ = some (.slice (some ⟨g2, 0, none⟩) n2 n2) := RX.cell 2
  have qRX_3 : wc.cell? ⟨w5.heap.size, 3, none⟩ = some (.slice (some ⟨g3, 0, none⟩) n3 n3) := RX.cell 3
  go_wp2_with fail
  refine (toFloat32S_new B1 m1 d1 M1 _ (k1.below HB) bm1).mono ?_
  rintro e w9 ⟨v1, rfl, lv1, Yv1, hb⟩
  replace R0 := R0.below hb R0.lt
  replace RX := RX.below hb RX.lt
  replace HB := HB.trans (hb.mono HB.size)
  replace Fg1 := Fg1.below hb Fg1.lt
  replace Fg2 := Fg2.below hb Fg2.lt
  replace Fg3 := Fg3.below hb Fg3.lt
  replace Yu1 := Yu1.below hb Yu1.lt
  replace ou := kept_below ou hb
  replace og := kept_below og hb
  clear hb qR0_0 qR0_1 qR0_2 qR0_3 qRX_0 qRX_1 qRX_2 qRX_3
  have qR0_0 : w9.cell? ⟨w.heap.size, 0, none⟩ = some (.int .i64 v) := R0.cell 0
  have qR0_1 : w9.cell? ⟨w.heap.size, 1, none⟩ = some (.slice A1 n1 c1) := R0.cell 1
  have qR0_2 : w9.cell? ⟨w.heap.size, 2, none⟩ = some (.slice A2 n2 c2) := R0.cell 2
  have qR0_3 : w9.cell? ⟨w.heap.size, 3, none⟩ = some (.slice A3 n3 c3) := R0.cell 3
  have qRX_0 : w9.cell? ⟨w5.heap.size, 0, none⟩ = some (.int .i64 v) := RX.cell 0
  have qRX_1 : w9.cell? ⟨w5.heap.size, 1, none⟩ = some (.slice (some ⟨g1, 0, none⟩) n1 n1) := RX.cell 1
  have qRX_2 : w9.cell? ⟨w5.heap.size, 2, none⟩ = some (.slice (some ⟨g2, 0, none⟩) n2 n2) := RX.cell 2
  have qRX_3 : w9.cell? ⟨w5.heap.size, 3, none⟩ = some (.slice (some ⟨g3, 0, none⟩) n3 n3) := RX.cell 3
  clear lv1
  replace Yv1 := Yv1.sl
  go_wp2_with fail
  refine (eqFloat32S_alike _ _ m1 _ _ M1 M1 _ Yu1.sl Yv1 bm1 rfl).mono ?_
  rintro e w10 ⟨kq, rfl, hw⟩
  have hb : Below w9.heap.size w9 w10 := by rw [hw]; (repeat refine below_drewN ?_ _); exact Below.refl _ _
  clear hw
  replace R0 := R0.below hb R0.lt
  replace RX := RX.below hb RX.lt
  replace HB := HB.trans (hb.mono HB.size)
  replace Yv1 := Yv1.below hb
  replace Fg1 := Fg1.below hb Fg1.lt
  replace Fg2 := Fg2.below hb Fg2.lt
  replace Fg3 := Fg3.below hb Fg3.lt
  replace Yu1 := Yu1.below hb Yu1.lt
  replace ou := kept_below ou hb
  replace og := kept_below og hb
  clear hb qR0_0 qR0_1 qR0_2 qR0_3 qRX_0 qRX_1 qRX_2 qRX_3
  have qR0_0 : w10.cell? ⟨w.heap.size, 0, none⟩ = some (.int .i64 v) := R0.cell 0
  have qR0_1 : w10.cell? ⟨w.heap.size, 1, none⟩ = some (.slice A1 n1 c1) := R0.cell 1
  have qR0_2 : w10.cell? ⟨w.heap.size, 2, none⟩ = some (.slice A2 n2 c2) := R0.cell 2
  have qR0_3 : w10.cell? ⟨w.heap.size, 3, none⟩ = some (.slice A3 n3 c3) := R0.cell 3
  have qRX_0 : w10.cell? ⟨w5.heap.size, 0, none⟩ = some (.int .i64 v) := RX.cell 0
  have qRX_1 : w10.cell? ⟨w5.heap.size, 1, none⟩ = some (.slice (some ⟨g1, 0, none⟩) n1 n1) := RX.cell 1
  have qRX_2 : w10.cell? ⟨w5.heap.size, 2, none⟩ = some (.slice (some ⟨g2, 0, none⟩) n2 n2) := RX.cell 2
  have qRX_3 : w10.cell? ⟨w5.heap.size, 3, none⟩ = some (.slice (some ⟨g3, 0, none⟩) n3 n3) := RX.cell 3
  clear Yv1
  obtain ⟨xs1, o1⟩ := FR.own (base := w.heap.size) Fg1 (by omega) b1
  obtain ⟨xs2, o2⟩ := FR.own (base := w.heap.size) Fg2 (by omega) b2
  obtain ⟨xs3, o3⟩ := FR.own (base := w.heap.size) Fg3 (by omega) b3
  obtain ⟨ys1, y1⟩ := FR.own (base := w.heap.size) Yu1 (by omega) bm1
  clear Fg1 Fg2 Fg3 Yu1
  go_wp2_with fail
  refine (markRows_any w.heap.size v g1 g2 g3 n1 n2 n3 n1 n2 n3 1 xs1 xs2 xs3 _ o1 o2 o3 (by omega) (by omega) (by omega) b1 b2 b3 (by omega)).mono ?_
  rintro e w11 ⟨rfl, hW⟩
  clear RX
  replace R0 := hW.row R0 (by simp; omega)
  replace HB := hW.below HB HB.size (by simp; omega)
  replace ou := hW.owned ou (by intro b e; have q1 := hu.out b e; simp; omega)
  replace og := hW.owned og (by intro b e; have q1 := (og.lt b e).1; simp; omega)
  replace y1 := hW.owned y1 (by intro b e; simp [Value.ownBlock] at e; subst e; simp; omega)
  clear qR0_0 qR0_1 qR0_2 qR0_3 qRX_0 qRX_1 qRX_2 qRX_3
  clear hW o1 o2 o3
  have hK0 : 1 + n1 + n2 + n3 ≤ 4194305 := by omega
  generalize 1 + n1 + n2 + n3 = K0 at hK0 ⊢
  have qR0_0 : w11.cell? ⟨w.heap.size, 0, none⟩ = some (.int .i64 v) := R0.cell 0
  have qR0_1 : w11.cell? ⟨w.heap.size, 1, none⟩ = some (.slice A1 n1 c1) := R0.cell 1
  have qR0_2 : w11.cell? ⟨w.heap.size, 2, none⟩ = some (.slice A2 n2 c2) := R0.cell 2
  have qR0_3 : w11.cell? ⟨w.heap.size, 3, none⟩ = some (.slice A3 n3 c3) := R0.cell 3
  go_wp2_with fail
  refine (mark_any w.heap.size u1 m1 m1 K0 ys1 _ y1 bm1 (by omega)).mono ?_
  rintro e w12 ⟨rfl, _, hgr⟩
  have hW := Wrote.of_grown hgr
  clear hgr
  replace R0 := hW.row R0 (by simp; omega)
  replace HB := hW.below HB HB.size (by simp; omega)
  replace ou := hW.owned ou (by intro b e; have q1 := hu.out b e; simp; omega)
  replace og := hW.owned og (by intro b e; have q1 := (og.lt b e).1; simp; omega)
  clear qR0_0 qR0_1 qR0_2 qR0_3
  clear hW y1
  have hK1 : K0 + m1 ≤ 8388610 := by omega
  generalize K0 + m1 = K1 at hK1 ⊢
  have qR0_0 : w12.cell? ⟨w.heap.size, 0, none⟩ = some (.int .i64 v) := R0.cell 0
  have qR0_1 : w12.cell? ⟨w.heap.size, 1, none⟩ = some (.slice A1 n1 c1) := R0.cell 1
  have qR0_2 : w12.cell? ⟨w.heap.size, 2, none⟩ = some (.slice A2 n2 c2) := R0.cell 2
  have qR0_3 : w12.cell? ⟨w.heap.size, 3, none⟩ = some (.slice A3 n3 c3) := R0.cell 3
  have hK : decide ((K1 : Int) < 0) = false := decide_eq_false (by omega)
  go_wp2_with fail
  refine (eq_own _ _ (leftOfN v n1 n2 n3 L1 L2 L3 m1 M1) gu su (leftOfO v n1 n2 n3 L1 L2 L3 m1 M1) _ og ou HN).mono ?_
  rintro e w13 ⟨kq, rfl, hw⟩
  have hb : Below w12.heap.size w12 w13 := by rw [hw]; (repeat refine below_drewN ?_ _); exact Below.refl _ _
  clear hw
  replace R0 := R0.below hb R0.lt
  replace HB := HB.trans (hb.mono HB.size)
  replace ou := kept_below ou hb
  replace og := kept_below og hb
  clear hb qR0_0 qR0_1 qR0_2 qR0_3
  have qR0_0 : w13.cell? ⟨w.heap.size, 0, none⟩ = some (.int .i64 v) := R0.cell 0
  have qR0_1 : w13.cell? ⟨w.heap.size, 1, none⟩ = some (.slice A1 n1 c1) := R0.cell 1
  have qR0_2 : w13.cell? ⟨w.heap.size, 2, none⟩ = some (.slice A2 n2 c2) := R0.cell 2
  have qR0_3 : w13.cell? ⟨w.heap.size, 3, none⟩ = some (.slice A3 n3 c3) := R0.cell 3
  clear hK
  obtain ⟨Q, hQ⟩ : ∃ Q, Q = 1 + (leftOfN v n1 n2 n3 L1 L2 L3 m1 M1) := ⟨_, rfl⟩
  have hQ0 : decide ((Q : Int) < 0) = false := decide_eq_false (by omega)
  have HQ := Lib.hid hQ
  clear hQ
  go_wp2_with fail
  refine (mark_own _ (leftOfN v n1 n2 n3 L1 L2 L3 m1 M1) 1 gu _ _ og HN (by omega)).mono ?_
  rintro e w14 ⟨he, og2, hW⟩
  rw [← HQ.out] at he; subst he
  have e9 : ∀ k ∈ ownL gu, w6.heap.size ≤ k := fun k hk => (ownL_mem og hk).1
  replace R0 := hW.row R0 (fun h => by have q1 := e9 _ h; omega)
  replace HB := hW.below HB HB.size (fun k hk => by have q1 := e9 k hk; omega)
  replace ou := hW.owned ou (fun b e h => by have q1 := hu.out b e; have q2 := e9 b h; omega)
  clear og hW e9 qR0_0 qR0_1 qR0_2 qR0_3
  have qR0_0 : w14.cell? ⟨w.heap.size, 0, none⟩ = some (.int .i64 v) := R0.cell 0
  have qR0_1 : w14.cell? ⟨w.heap.size, 1, none⟩ = some (.slice A1 n1 c1) := R0.cell 1
  have qR0_2 : w14.cell? ⟨w.heap.size, 2, none⟩ = some (.slice A2 n2 c2) := R0.cell 2
  have qR0_3 : w14.cell? ⟨w.heap.size, 3, none⟩ = some (.slice A3 n3 c3) := R0.cell 3
  go_wp2_with fail
  refine (held_own _ (leftOfN v n1 n2 n3 L1 L2 L3 m1 M1) 1 gu _ og2 HN (by omega)).mono ?_
  rintro e w15 ⟨he, hw⟩
  rw [← HQ.out] at he; subst he; subst hw
  go_wp2_with fail
  refine (toRows_any v A1 A2 A3 n1 n2 n3 c1 c2 c3 L1 L2 L3 _ (h1.below HB) (h2.below HB) (h3.below HB) b1 b2 b3).mono ?_
  rintro e w16 ⟨h1, h2, h3, rfl, lh1, lh2, lh3, Fh1, Fh2, Fh3, hb⟩
  replace R0 := R0.below hb R0.lt
  replace HB := HB.trans (hb.mono HB.size)
  replace ou := kept_below ou hb
  replace og2 := kept_below og2 hb
  clear hb qR0_0 qR0_1 qR0_2 qR0_3
  have qR0_0 : w16.cell? ⟨w.heap.size, 0, none⟩ = some (.int .i64 v) := R0.cell 0
  have qR0_1 : w16.cell? ⟨w.heap.size, 1, none⟩ = some (.slice A1 n1 c1) := R0.cell 1
  have qR0_2 : w16.cell? ⟨w.heap.size, 2, none⟩ = some (.slice A2 n2 c2) := R0.cell 2
  have qR0_3 : w16.cell? ⟨w.heap.size, 3, none⟩ = some (.slice A3 n3 c3) := R0.cell 3
  clear lh1 lh2 lh3
  replace Fh1 := Fh1.sl
  replace Fh2 := Fh2.sl
  replace Fh3 := Fh3.sl
  go_wp2_with fail
  refine (toFloat32S_new B1 m1 d1 M1 _ (k1.below HB) bm1).mono ?_
  rintro e w17 ⟨y1, rfl, ly1, Yy1, hb⟩
  replace R0 := R0.below hb R0.lt
  replace HB := HB.trans (hb.mono HB.size)
  replace Fh1 := Fh1.below hb
  replace Fh2 := Fh2.below hb
  replace Fh3 := Fh3.below hb
  replace ou := kept_below ou hb
  replace og2 := kept_below og2 hb
  clear hb qR0_0 qR0_1 qR0_2 qR0_3
  have qR0_0 : w17.cell? ⟨w.heap.size, 0, none⟩ = some (.int .i64 v) := R0.cell 0
  have qR0_1 : w17.cell? ⟨w.heap.size, 1, none⟩ = some (.slice A1 n1 c1) := R0.cell 1
  have qR0_2 : w17.cell? ⟨w.heap.size, 2, none⟩ = some (.slice A2 n2 c2) := R0.cell 2
  have qR0_3 : w17.cell? ⟨w.heap.size, 3, none⟩ = some (.slice A3 n3 c3) := R0.cell 3
  clear ly1
  replace Yy1 := Yy1.sl
  go_wp2_with fail
  refine (implLeftOf_own v (some ⟨h1, 0, none⟩) (some ⟨h2, 0, none⟩) (some ⟨h3, 0, none⟩) n1 n2 n3 n1 n2 n3 L1 L2 L3 (some ⟨y1, 0, none⟩) m1 m1 M1 _ Fh1 Fh2 Fh3 b1 b2 b3 Yy1 bm1).mono ?_
  rintro e w18 ⟨hu2, rfl, oh, hb⟩
  replace R0 := R0.below hb R0.lt
  replace HB := HB.trans (hb.mono HB.size)
  replace Fh1 := Fh1.below hb
  replace Fh2 := Fh2.below hb
  replace Fh3 := Fh3.below hb
  replace Yy1 := Yy1.below hb
  replace ou := kept_below ou hb
  replace og2 := kept_below og2 hb
  clear hb qR0_0 qR0_1 qR0_2 qR0_3
  have qR0_0 : w18.cell? ⟨w.heap.size, 0, none⟩ = some (.int .i64 v) := R0.cell 0
  have qR0_1 : w18.cell? ⟨w.heap.size, 1, none⟩ = some (.slice A1 n1 c1) := R0.cell 1
  have qR0_2 : w18.cell? ⟨w.heap.size, 2, none⟩ = some (.slice A2 n2 c2) := R0.cell 2
  have qR0_3 : w18.cell? ⟨w.heap.size, 3, none⟩ = some (.slice A3 n3 c3) := R0.cell 3
  clear Fh1 Fh2 Fh3 Yy1
  go_wp2_with fail
  refine (eq_own _ _ (leftOfN v n1 n2 n3 L1 L2 L3 m1 M1) hu2 su (leftOfO v n1 n2 n3 L1 L2 L3 m1 M1) _ oh ou HN).mono ?_
  rintro e w19 ⟨kq, rfl, hw⟩
  have hb : Below w18.heap.size w18 w19 := by rw [hw]; (repeat refine below_drewN ?_ _); exact Below.refl _ _
  clear hw
  replace R0 := R0.below hb R0.lt
  replace HB := HB.trans (hb.mono HB.size)
  replace ou := kept_below ou hb
  replace og2 := kept_below og2 hb
  replace oh := kept_below oh hb
  clear hb qR0_0 qR0_1 qR0_2 qR0_3
  have qR0_0 : w19.cell? ⟨w.heap.size, 0, none⟩ = some (.int .i64 v) := R0.cell 0
  have qR0_1 : w19.cell? ⟨w.heap.size, 1, none⟩ = some (.slice A1 n1 c1) := R0.cell 1
  have qR0_2 : w19.cell? ⟨w.heap.size, 2, none⟩ = some (.slice A2 n2 c2) := R0.cell 2
  have qR0_3 : w19.cell? ⟨w.heap.size, 3, none⟩ = some (.slice A3 n3 c3) := R0.cell 3
  go_wp2_with fail
  refine (held_own _ (leftOfN v n1 n2 n3 L1 L2 L3 m1 M1) 1 gu _ og2 HN (by omega)).mono ?_
  rintro e w20 ⟨he, hw⟩
  rw [← HQ.out] at he; subst he; subst hw
  go_wp2_with fail
  go_ret
  exact ⟨rfl, HB⟩
end Go.Proofs.Yteodplednmeaaaa
