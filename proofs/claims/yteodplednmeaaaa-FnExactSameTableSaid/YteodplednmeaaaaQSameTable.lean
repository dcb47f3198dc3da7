/- Laws of rows and tables. (written by gen/genL.py) -/
import Derived.Test.YteodplednmeaaaaET
import Derived.Test.YteodplednmeaaaaK
import Derived.Deep.RegionHeld3
import Derived.Deep.RegionWith
import Derived.Deep.DeepCutAuto
import Derived.Deep.CutRange
namespace Go.Proofs.Yteodplednmeaaaa
open Go.RowKit
set_option linter.unusedVariables false
set_option linter.unusedSimpArgs false
attribute [local go_sem] lo_value lo_enter run_store_float

theorem small_of {L : List Nat} (h : ∀ x ∈ L, (Lit.float .f32 x).wf = true) : small L := fun x hx => wf32 (h x hx)
set_option maxHeartbeats 4000000 in
set_option maxRecDepth 100000 in
theorem lawSameTable (w : World) (v : Int) (A1 A2 : Option Addr) (n1 n2 c1 c2 : Nat) (L1 : List Nat) (L2 : List Int) (hv0 : (Lit.int .i64 v).wf = true) (f01 : FArg w A1 n1 L1) (f02 : IArg w A2 n2 L2) (u : Int) (E1 E2 : Option Addr) (m1 m2 d1 d2 : Nat) (M1 : List Nat) (M2 : List Int) (hv1 : (Lit.int .i64 u).wf = true) (f11 : FArg w E1 m1 M1) (f12 : IArg w E2 m2 M2) :
    Calls Try.prog 7 #[.agg #[.int .i64 v, .slice A1 n1 c1, .slice A2 n2 c2], .agg #[.int .i64 u, .slice E1 m1 d1, .slice E2 m2 d2]] w fun e w' => e = .returned (.bool true) ∧ Below w.heap.size w w' := by
  have HB : Below w.heap.size w ((w.alloc (.cells #[.int .i64 v, .slice A1 n1 c1, .slice A2 n2 c2] 43)).alloc (.cells #[.int .i64 u, .slice E1 m1 d1, .slice E2 m2 d2] 43)) := ((Below.refl _ _).alloc (Nat.le_refl _) _).alloc (by simp) _
  have R0 := (Row.new w 43 #[.int .i64 v, .slice A1 n1 c1, .slice A2 n2 c2]).alloc (.cells #[.int .i64 u, .slice E1 m1 d1, .slice E2 m2 d2] 43)
  have hs : (w.alloc (.cells #[.int .i64 v, .slice A1 n1 c1, .slice A2 n2 c2] 43)).heap.size = w.heap.size + 1 := by simp
  have R1 := Row.new (w.alloc (.cells #[.int .i64 v, .slice A1 n1 c1, .slice A2 n2 c2] 43)) 43 #[.int .i64 u, .slice E1 m1 d1, .slice E2 m2 d2]
  rw [hs] at R1
  clear hs
  obtain ⟨h1, ml1, wf01⟩ := f01
  obtain ⟨h2, ml2, wf02⟩ := f02
  have s1 := small_of wf01
  obtain ⟨k1, mm1, wf11⟩ := f11
  obtain ⟨k2, mm2, wf12⟩ := f12
  have t1 := small_of wf11
  by_cases ht0 : 0 ≤ (1048576 : Int) - n1 - n2
  rotate_left
  · have dd : decide ((-1 : Int) < 0) = true := rfl
    go_enter Try.func7, Try.ntmps7
    go_wp2_with fail
    refine (szTable_out v A1 A2 n1 n2 c1 c2 _ _ (by omega) (by omega) ml1 ml2 (by omega)).mono ?_
    rintro e w1 ⟨rfl, hb⟩
    go_wp2_with fail
    go_ret
    exact ⟨rfl, HB.trans (hb.mono HB.size)⟩
  have dz0 : decide ((1048576 : Int) - n1 - n2 < 0) = false := decide_eq_false (by omega)
  by_cases ht1 : 0 ≤ (1048576 : Int) - n1 - n2 - m1 - m2
  rotate_left
  · have dd : decide ((-1 : Int) < 0) = true := rfl
    go_enter Try.func7, Try.ntmps7
    go_wp2_with fail
    refine (szTable_in v A1 A2 n1 n2 c1 c2 _ _ (by omega) ht0).mono ?_
    rintro e w1 ⟨rfl, hb⟩
    replace R1 := R1.below hb R1.lt
    replace HB := HB.trans (hb.mono HB.size)
    clear hb
    have q0 : w1.cell? ⟨w.heap.size + 1, 0, none⟩ = some (.int .i64 u) := R1.cell 0
    have q1 : w1.cell? ⟨w.heap.size + 1, 1, none⟩ = some (.slice E1 m1 d1) := R1.cell 1
    have q2 : w1.cell? ⟨w.heap.size + 1, 2, none⟩ = some (.slice E2 m2 d2) := R1.cell 2
    go_wp2_with fail
    refine (szTable_out u E1 E2 m1 m2 d1 d2 ((1048576 : Int) - n1 - n2) _ (by omega) (by omega) mm1 mm2 (by omega)).mono ?_
    rintro e w2 ⟨rfl, hb⟩
    go_wp2_with fail
    go_ret
    exact ⟨rfl, HB.trans (hb.mono HB.size)⟩
  have dz1 : decide ((1048576 : Int) - n1 - n2 - m1 - m2 < 0) = false := decide_eq_false (by omega)
  have b1 : n1 ≤ 1048576 := by omega
  have b2 : n2 ≤ 1048576 := by omega
  have e1 : m1 ≤ 1048576 := by omega
  have e2 : m2 ≤ 1048576 := by omega
  go_enter Try.func7, Try.ntmps7
  go_wp2_with fail
  refine (szTable_in v A1 A2 n1 n2 c1 c2 _ _ (by omega) ht0).mono ?_
  rintro e w1 ⟨rfl, hb⟩
  replace R0 := R0.below hb R0.lt
  replace R1 := R1.below hb R1.lt
  replace HB := HB.trans (hb.mono HB.size)
  clear hb
  have qR0_0 : w1.cell? ⟨w.heap.size, 0, none⟩ = some (.int .i64 v) := R0.cell 0
  have qR0_1 : w1.cell? ⟨w.heap.size, 1, none⟩ = some (.slice A1 n1 c1) := R0.cell 1
  have qR0_2 : w1.cell? ⟨w.heap.size, 2, none⟩ = some (.slice A2 n2 c2) := R0.cell 2
  have qR1_0 : w1.cell? ⟨(w.heap.size + 1), 0, none⟩ = some (.int .i64 u) := R1.cell 0
  have qR1_1 : w1.cell? ⟨(w.heap.size + 1), 1, none⟩ = some (.slice E1 m1 d1) := R1.cell 1
  have qR1_2 : w1.cell? ⟨(w.heap.size + 1), 2, none⟩ = some (.slice E2 m2 d2) := R1.cell 2
  go_wp2_with fail
  refine (szTable_in u E1 E2 m1 m2 d1 d2 ((1048576 : Int) - n1 - n2) _ (by omega) ht1).mono ?_
  rintro e w2 ⟨rfl, hb⟩
  replace R0 := R0.below hb R0.lt
  replace R1 := R1.below hb R1.lt
  replace HB := HB.trans (hb.mono HB.size)
  clear hb qR0_0 qR0_1 qR0_2 qR1_0 qR1_1 qR1_2
  have qR0_0 : w2.cell? ⟨w.heap.size, 0, none⟩ = some (.int .i64 v) := R0.cell 0
  have qR0_1 : w2.cell? ⟨w.heap.size, 1, none⟩ = some (.slice A1 n1 c1) := R0.cell 1
  have qR0_2 : w2.cell? ⟨w.heap.size, 2, none⟩ = some (.slice A2 n2 c2) := R0.cell 2
  have qR1_0 : w2.cell? ⟨(w.heap.size + 1), 0, none⟩ = some (.int .i64 u) := R1.cell 0
  have qR1_1 : w2.cell? ⟨(w.heap.size + 1), 1, none⟩ = some (.slice E1 m1 d1) := R1.cell 1
  have qR1_2 : w2.cell? ⟨(w.heap.size + 1), 2, none⟩ = some (.slice E2 m2 d2) := R1.cell 2
  clear ht0 ht1
  go_upto_region 8 with (fail)
  go_cut [6] (fun s6 wx => s6 = .bool (sameT v u L1 M1 L2 M2) ∧ Row wx w.heap.size 43 #[.int .i64 v, .slice A1 n1 c1, .slice A2 n2 c2] ∧ Row wx (w.heap.size + 1) 43 #[.int .i64 u, .slice E1 m1 d1, .slice E2 m2 d2] ∧ Below w.heap.size w wx)
  case first =>
    have D0 : Row w2.drew _ _ _ := R0
    have D1 : Row w2.drew _ _ _ := R1
    have HE : Below w.heap.size w w2.drew := below_drewN HB 1
    clear HB R0 R1
    go_region_with ((first
      | (go_at_call_of 35 (Value.slice A1 n1 c1)
         refine (toTable_any v A1 A2 n1 n2 c1 c2 L1 L2 _ (h1.below HE) (h2.below HE) b1 b2).mono ?_
         rintro e wa ⟨ga1, ga2, rfl, lga1, lga2, FA1, FA2, hb⟩
         have X0 := D0.below hb D0.lt
         have X1 := D1.below hb D1.lt
         have z0 : wa.cell? ⟨w.heap.size + 1, 0, none⟩ = some (.int .i64 u) := X1.cell 0
         have z1 : wa.cell? ⟨w.heap.size + 1, 1, none⟩ = some (.slice E1 m1 d1) := X1.cell 1
         have z2 : wa.cell? ⟨w.heap.size + 1, 2, none⟩ = some (.slice E2 m2 d2) := X1.cell 2
         replace FA1 := FA1.sl
         replace FA2 := FA2.sl
         have HC := HE.trans (hb.mono HE.size)
         clear hb lga1 lga2)
      | (go_at_call_of 35 (Value.slice E1 m1 d1)
         refine (toTable_any u E1 E2 m1 m2 d1 d2 M1 M2 _ (k1.below HC) (k2.below HC) e1 e2).mono ?_
         rintro e wb ⟨gb1, gb2, rfl, lgb1, lgb2, FB1, FB2, hb⟩
         replace X0 := X0.below hb X0.lt
         replace X1 := X1.below hb X1.lt
         replace FA1 := FA1.below hb
         replace FB1 := FB1.sl
         replace FA2 := FA2.below hb
         replace FB2 := FB2.sl
         replace HC := HC.trans (hb.mono HC.size)
         clear hb lgb1 lgb2)
      | (go_at_call 34
         refine (specSameTable_any v (some ⟨ga1, 0, none⟩) (some ⟨ga2, 0, none⟩) n1 n2 n1 n2 L1 L2 u (some ⟨gb1, 0, none⟩) (some ⟨gb2, 0, none⟩) m1 m2 m1 m2 M1 M2 _ FA1 FA2 b1 b2 FB1 FB2 e1 e2 s1 t1).mono ?_
         rintro e wc ⟨rfl, hb⟩
         replace X0 := X0.below hb X0.lt
         replace X1 := X1.below hb X1.lt
         replace HC := HC.trans (hb.mono HC.size)
         clear hb)))
    all_goals (go_wp2_with fail; go_meet; exact ⟨rfl, X0, X1, HC⟩)
  case rest =>
  clear HB R0 R1 qR0_0 qR0_1 qR0_2 qR1_0 qR1_1 qR1_2
  obtain ⟨rfl, R0, R1, HB⟩ := hcut
  have qR0_0 : wc.cell? ⟨w.heap.size, 0, none⟩ = some (.int .i64 v) := R0.cell 0
  have qR0_1 : wc.cell? ⟨w.heap.size, 1, none⟩ = some (.slice A1 n1 c1) := R0.cell 1
  have qR0_2 : wc.cell? ⟨w.heap.size, 2, none⟩ = some (.slice A2 n2 c2) := R0.cell 2
  have qR1_0 : wc.cell? ⟨(w.heap.size + 1), 0, none⟩ = some (.int .i64 u) := R1.cell 0
  have qR1_1 : wc.cell? ⟨(w.heap.size + 1), 1, none⟩ = some (.slice E1 m1 d1) := R1.cell 1
  have qR1_2 : wc.cell? ⟨(w.heap.size + 1), 2, none⟩ = some (.slice E2 m2 d2) := R1.cell 2
  go_wp2_with fail
  refine (toTable_any v A1 A2 n1 n2 c1 c2 L1 L2 _ (h1.below HB) (h2.below HB) b1 b2).mono ?_
  rintro e w3 ⟨g1, g2, rfl, lg1, lg2, FG1, FG2, hb⟩
  replace R0 := R0.below hb R0.lt
  replace R1 := R1.below hb R1.lt
  replace HB := HB.trans (hb.mono HB.size)
  clear hb qR0_0 qR0_1 qR0_2 qR1_0 qR1_1 qR1_2
  have qR0_0 : w3.cell? ⟨w.heap.size, 0, none⟩ = some (.int .i64 v) := R0.cell 0
  have qR0_1 : w3.cell? ⟨w.heap.size, 1, none⟩ = some (.slice A1 n1 c1) := R0.cell 1
  have qR0_2 : w3.cell? ⟨w.heap.size, 2, none⟩ = some (.slice A2 n2 c2) := R0.cell 2
  have qR1_0 : w3.cell? ⟨(w.heap.size + 1), 0, none⟩ = some (.int .i64 u) := R1.cell 0
  have qR1_1 : w3.cell? ⟨(w.heap.size + 1), 1, none⟩ = some (.slice E1 m1 d1) := R1.cell 1
  have qR1_2 : w3.cell? ⟨(w.heap.size + 1), 2, none⟩ = some (.slice E2 m2 d2) := R1.cell 2
  clear lg1 lg2
  replace FG1 := FG1.sl
  replace FG2 := FG2.sl
  have RX0 := Row.new w3 46 #[.int .i64 v, .slice (some ⟨g1, 0, none⟩) n1 n1, .slice (some ⟨g2, 0, none⟩) n2 n2]
  have hneR00 : ¬ w.heap.size = w3.heap.size := by have := R0.lt; omega
  replace R0 := R0.alloc (.cells #[.int .i64 v, .slice (some ⟨g1, 0, none⟩) n1 n1, .slice (some ⟨g2, 0, none⟩) n2 n2] 46)
  have hneR10 : ¬ (w.heap.size + 1) = w3.heap.size := by have := R1.lt; omega
  replace R1 := R1.alloc (.cells #[.int .i64 v, .slice (some ⟨g1, 0, none⟩) n1 n1, .slice (some ⟨g2, 0, none⟩) n2 n2] 46)
  replace HB := HB.alloc HB.size (.cells #[.int .i64 v, .slice (some ⟨g1, 0, none⟩) n1 n1, .slice (some ⟨g2, 0, none⟩) n2 n2] 46)
  replace FG1 := FG1.alloc (.cells #[.int .i64 v, .slice (some ⟨g1, 0, none⟩) n1 n1, .slice (some ⟨g2, 0, none⟩) n2 n2] 46)
  replace FG2 := FG2.alloc (.cells #[.int .i64 v, .slice (some ⟨g1, 0, none⟩) n1 n1, .slice (some ⟨g2, 0, none⟩) n2 n2] 46)
  clear qR0_0 qR0_1 qR0_2 qR1_0 qR1_1 qR1_2
  have qR0_0 : (w3.alloc (.cells #[.int .i64 v, .slice (some ⟨g1, 0, none⟩) n1 n1, .slice (some ⟨g2, 0, none⟩) n2 n2] 46)).cell? ⟨w.heap.size, 0, none⟩ = some (.int .i64 v) := R0.cell 0
  have qR0_1 : (w3.alloc (.cells #[.int .i64 v, .slice (some ⟨g1, 0, none⟩) n1 n1, .slice (some ⟨g2, 0, none⟩) n2 n2] 46)).cell? ⟨w.heap.size, 1, none⟩ = some (.slice A1 n1 c1) := R0.cell 1
  have qR0_2 : (w3.alloc (.cells #[.int .i64 v, .slice (some ⟨g1, 0, none⟩) n1 n1, .slice (some ⟨g2, 0, none⟩) n2 n2] 46)).cell? ⟨w.heap.size, 2, none⟩ = some (.slice A2 n2 c2) := R0.cell 2
  have qR1_0 : (w3.alloc (.cells #[.int .i64 v, .slice (some ⟨g1, 0, none⟩) n1 n1, .slice (some ⟨g2, 0, none⟩) n2 n2] 46)).cell? ⟨(w.heap.size + 1), 0, none⟩ = some (.int .i64 u) := R1.cell 0
  have qR1_1 : (w3.alloc (.cells #[.int .i64 v, .slice (some ⟨g1, 0, none⟩) n1 n1, .slice (some ⟨g2, 0, none⟩) n2 n2] 46)).cell? ⟨(w.heap.size + 1), 1, none⟩ = some (.slice E1 m1 d1) := R1.cell 1
  have qR1_2 : (w3.alloc (.cells #[.int .i64 v, .slice (some ⟨g1, 0, none⟩) n1 n1, .slice (some ⟨g2, 0, none⟩) n2 n2] 46)).cell? ⟨(w.heap.size + 1), 2, none⟩ = some (.slice E2 m2 d2) := R1.cell 2
  have qRX0_0 : (w3.alloc (.cells #[.int .i64 v, .slice (some ⟨g1, 0, none⟩) n1 n1, .slice (some ⟨g2, 0, none⟩) n2 n2] 46)).cell? ⟨w3.heap.size, 0, none⟩ = some (.int .i64 v) := RX0.cell 0
  have qRX0_1 : (w3.alloc (.cells #[.int .i64 v, .slice (some ⟨g1, 0, none⟩) n1 n1, .slice (some ⟨g2, 0, none⟩) n2 n2] 46)).cell? ⟨w3.heap.size, 1, none⟩ = some (.slice (some ⟨g1, 0, none⟩) n1 n1) := RX0.cell 1
  have qRX0_2 : (w3.alloc (.cells #[.int .i64 v, .slice (some ⟨g1, 0, none⟩) n1 n1, .slice (some ⟨g2, 0, none⟩) n2 n2] 46)).cell? ⟨w3.heap.size, 2, none⟩ = some (.slice (some ⟨g2, 0, none⟩) n2 n2) := RX0.cell 2
  go_wp2_with fail
  refine (toTable_any u E1 E2 m1 m2 d1 d2 M1 M2 _ (k1.below HB) (k2.below HB) e1 e2).mono ?_
  rintro e w4 ⟨p1, p2, rfl, lp1, lp2, FP1, FP2, hb⟩
  replace R0 := R0.below hb R0.lt
  replace R1 := R1.below hb R1.lt
  replace RX0 := RX0.below hb RX0.lt
  replace HB := HB.trans (hb.mono HB.size)
  replace FG1 := FG1.below hb
  replace FG2 := FG2.below hb
  clear hb qR0_0 qR0_1 qR0_2 qR1_0 qR1_1 qR1_2 qRX0_0 qRX0_1 qRX0_2
  have qR0_0 : w4.cell? ⟨w.heap.size, 0, none⟩ = some (.int .i64 v) := R0.cell 0
  have qR0_1 : w4.cell? ⟨w.heap.size, 1, none⟩ = some (.slice A1 n1 c1) := R0.cell 1
  have qR0_2 : w4.cell? ⟨w.heap.size, 2, none⟩ = some (.slice A2 n2 c2) := R0.cell 2
  have qR1_0 : w4.cell? ⟨(w.heap.size + 1), 0, none⟩ = some (.int .i64 u) := R1.cell 0
  have qR1_1 : w4.cell? ⟨(w.heap.size + 1), 1, none⟩ = some (.slice E1 m1 d1) := R1.cell 1
  have qR1_2 : w4.cell? ⟨(w.heap.size + 1), 2, none⟩ = some (.slice E2 m2 d2) := R1.cell 2
  have qRX0_0 : w4.cell? ⟨w3.heap.size, 0, none⟩ = some (.int .i64 v) := RX0.cell 0
  have qRX0_1 : w4.cell? ⟨w3.heap.size, 1, none⟩ = some (.slice (some ⟨g1, 0, none⟩) n1 n1) := RX0.cell 1
  have qRX0_2 : w4.cell? ⟨w3.heap.size, 2, none⟩ = some (.slice (some ⟨g2, 0, none⟩) n2 n2) := RX0.cell 2
  clear lp1 lp2
  replace FP1 := FP1.sl
  replace FP2 := FP2.sl
  have RX1 := Row.new w4 46 #[.int .i64 u, .slice (some ⟨p1, 0, none⟩) m1 m1, .slice (some ⟨p2, 0, none⟩) m2 m2]
  have hneR01 : ¬ w.heap.size = w4.heap.size := by have := R0.lt; omega
  replace R0 := R0.alloc (.cells #[.int .i64 u, .slice (some ⟨p1, 0, none⟩) m1 m1, .slice (some ⟨p2, 0, none⟩) m2 m2] 46)
  have hneR11 : ¬ (w.heap.size + 1) = w4.heap.size := by have := R1.lt; omega
  replace R1 := R1.alloc (.cells #[.int .i64 u, .slice (some ⟨p1, 0, none⟩) m1 m1, .slice (some ⟨p2, 0, none⟩) m2 m2] 46)
  have hneRX01 : ¬ w3.heap.size = w4.heap.size := by have := RX0.lt; omega
  replace RX0 := RX0.alloc (.cells #[.int .i64 u, .slice (some ⟨p1, 0, none⟩) m1 m1, .slice (some ⟨p2, 0, none⟩) m2 m2] 46)
  replace HB := HB.alloc HB.size (.cells #[.int .i64 u, .slice (some ⟨p1, 0, none⟩) m1 m1, .slice (some ⟨p2, 0, none⟩) m2 m2] 46)
  replace FG1 := FG1.alloc (.cells #[.int .i64 u, .slice (some ⟨p1, 0, none⟩) m1 m1, .slice (some ⟨p2, 0, none⟩) m2 m2] 46)
  replace FG2 := FG2.alloc (.cells #[.int .i64 u, .slice (some ⟨p1, 0, none⟩) m1 m1, .slice (some ⟨p2, 0, none⟩) m2 m2] 46)
  replace FP1 := FP1.alloc (.cells #[.int .i64 u, .slice (some ⟨p1, 0, none⟩) m1 m1, .slice (some ⟨p2, 0, none⟩) m2 m2] 46)
  replace FP2 := FP2.alloc (.cells #[.int .i64 u, .slice (some ⟨p1, 0, none⟩) m1 m1, .slice (some ⟨p2, 0, none⟩) m2 m2] 46)
  clear qR0_0 qR0_1 qR0_2 qR1_0 qR1_1 qR1_2 qRX0_0 qRX0_1 qRX0_2
  have qR0_0 : (w4.alloc (.cells #[.int .i64 u, .slice (some ⟨p1, 0, none⟩) m1 m1, .slice (some ⟨p2, 0, none⟩) m2 m2] 46)).cell? ⟨w.heap.size, 0, none⟩ = some (.int .i64 v) := R0.cell 0
  have qR0_1 : (w4.alloc (.cells #[.int .i64 u, .slice (some ⟨p1, 0, none⟩) m1 m1, .slice (some ⟨p2, 0, none⟩) m2 m2] 46)).cell? ⟨w.heap.size, 1, none⟩ = some (.slice A1 n1 c1) := R0.cell 1
  have qR0_2 : (w4.alloc (.cells #[.int .i64 u, .slice (some ⟨p1, 0, none⟩) m1 m1, .slice (some ⟨p2, 0, none⟩) m2 m2] 46)).cell? ⟨w.heap.size, 2, none⟩ = some (.slice A2 n2 c2) := R0.cell 2
  have qR1_0 : (w4.alloc (.cells #[.int .i64 u, .slice (some ⟨p1, 0, none⟩) m1 m1, .slice (some ⟨p2, 0, none⟩) m2 m2] 46)).cell? ⟨(w.heap.size + 1), 0, none⟩ = some (.int .i64 u) := R1.cell 0
  have qR1_1 : (w4.alloc (.cells #[.int .i64 u, .slice (some ⟨p1, 0, none⟩) m1 m1, .slice (some ⟨p2, 0, none⟩) m2 m2] 46)).cell? ⟨(w.heap.size + 1), 1, none⟩ = some (.slice E1 m1 d1) := R1.cell 1
  have qR1_2 : (w4.alloc (.cells #[.int .i64 u, .slice (some ⟨p1, 0, none⟩) m1 m1, .slice (some ⟨p2, 0, none⟩) m2 m2] 46)).cell? ⟨(w.heap.size + 1), 2, none⟩ = some (.slice E2 m2 d2) := R1.cell 2
  have qRX0_0 : (w4.alloc (.cells #[.int .i64 u, .slice (some ⟨p1, 0, none⟩) m1 m1, .slice (some ⟨p2, 0, none⟩) m2 m2] 46)).cell? ⟨w3.heap.size, 0, none⟩ = some (.int .i64 v) := RX0.cell 0
  have qRX0_1 : (w4.alloc (.cells #[.int .i64 u, .slice (some ⟨p1, 0, none⟩) m1 m1, .slice (some ⟨p2, 0, none⟩) m2 m2] 46)).cell? ⟨w3.heap.size, 1, none⟩ = some (.slice (some ⟨g1, 0, none⟩) n1 n1) := RX0.cell 1
  have qRX0_2 : (w4.alloc (.cells #[.int .i64 u, .slice (some ⟨p1, 0, none⟩) m1 m1, .slice (some ⟨p2, 0, none⟩) m2 m2] 46)).cell? ⟨w3.heap.size, 2, none⟩ = some (.slice (some ⟨g2, 0, none⟩) n2 n2) := RX0.cell 2
  have qRX1_0 : (w4.alloc (.cells #[.int .i64 u, .slice (some ⟨p1, 0, none⟩) m1 m1, .slice (some ⟨p2, 0, none⟩) m2 m2] 46)).cell? ⟨w4.heap.size, 0, none⟩ = some (.int .i64 u) := RX1.cell 0
  have qRX1_1 : (w4.alloc (.cells #[.int .i64 u, .slice (some ⟨p1, 0, none⟩) m1 m1, .slice (some ⟨p2, 0, none⟩) m2 m2] 46)).cell? ⟨w4.heap.size, 1, none⟩ = some (.slice (some ⟨p1, 0, none⟩) m1 m1) := RX1.cell 1
  have qRX1_2 : (w4.alloc (.cells #[.int .i64 u, .slice (some ⟨p1, 0, none⟩) m1 m1, .slice (some ⟨p2, 0, none⟩) m2 m2] 46)).cell? ⟨w4.heap.size, 2, none⟩ = some (.slice (some ⟨p2, 0, none⟩) m2 m2) := RX1.cell 2
  go_wp2_with fail
  refine (implSameTable_any v (some ⟨g1, 0, none⟩) (some ⟨g2, 0, none⟩) n1 n2 n1 n2 L1 L2 u (some ⟨p1, 0, none⟩) (some ⟨p2, 0, none⟩) m1 m2 m1 m2 M1 M2 _ FG1 FG2 b1 b2 FP1 FP2 e1 e2 s1 t1).mono ?_
  rintro e w5 ⟨rfl, hb⟩
  replace R0 := R0.below hb R0.lt
  replace R1 := R1.below hb R1.lt
  replace RX0 := RX0.below hb RX0.lt
  replace RX1 := RX1.below hb RX1.lt
  replace HB := HB.trans (hb.mono HB.size)
  replace FG1 := FG1.below hb
  replace FG2 := FG2.below hb
  replace FP1 := FP1.below hb
  replace FP2 := FP2.below hb
  clear hb qR0_0 qR0_1 qR0_2 qR1_0 qR1_1 qR1_2 qRX0_0 qRX0_1 qRX0_2 qRX1_0 qRX1_1 qRX1_2
  have qR0_0 : w5.cell? ⟨w.heap.size, 0, none⟩ = some (.int .i64 v) := R0.cell 0
  have qR0_1 : w5.cell? ⟨w.heap.size, 1, none⟩ = some (.slice A1 n1 c1) := R0.cell 1
  have qR0_2 : w5.cell? ⟨w.heap.size, 2, none⟩ = some (.slice A2 n2 c2) := R0.cell 2
  have qR1_0 : w5.cell? ⟨(w.heap.size + 1), 0, none⟩ = some (.int .i64 u) := R1.cell 0
  have qR1_1 : w5.cell? ⟨(w.heap.size + 1), 1, none⟩ = some (.slice E1 m1 d1) := R1.cell 1
  have qR1_2 : w5.cell? ⟨(w.heap.size + 1), 2, none⟩ = some (.slice E2 m2 d2) := R1.cell 2
  have qRX0_0 : w5.cell? ⟨w3.heap.size, 0, none⟩ = some (.int .i64 v) := RX0.cell 0
  have qRX0_1 : w5.cell? ⟨w3.heap.size, 1, none⟩ = some (.slice (some ⟨g1, 0, none⟩) n1 n1) := RX0.cell 1
  have qRX0_2 : w5.cell? ⟨w3.heap.size, 2, none⟩ = some (.slice (some ⟨g2, 0, none⟩) n2 n2) := RX0.cell 2
  have qRX1_0 : w5.cell? ⟨w4.heap.size, 0, none⟩ = some (.int .i64 u) := RX1.cell 0
  have qRX1_1 : w5.cell? ⟨w4.heap.size, 1, none⟩ = some (.slice (some ⟨p1, 0, none⟩) m1 m1) := RX1.cell 1
  have qRX1_2 : w5.cell? ⟨w4.heap.size, 2, none⟩ = some (.slice (some ⟨p2, 0, none⟩) m2 m2) := RX1.cell 2
  go_upto_region 14 with (fail)
  go_cut [39] (fun s39 wx => s39 = .bool false ∧ Below w5.heap.size w5 wx)
  case first =>
    have RD : Row w5.drew _ _ _ := RX0
    have HE : Below w.heap.size w w5.drew := below_drewN HB 1
    have HF : Below w5.heap.size w5 w5.drew := below_drewN (Below.refl _ _) 1
    have U1 : SL _ _ w5.drew _ _ _ := FG1
    have U2 : SL _ _ w5.drew _ _ _ := FG2
    clear HB R0 R1 RX0 RX1 FG1 FG2 FP1 FP2
    go_region_with ((first
      | (go_at_call 35
         refine (toTable_any v A1 A2 n1 n2 c1 c2 L1 L2 _ (h1.below HE) (h2.below HE) b1 b2).mono ?_
         rintro e wa ⟨ga1, ga2, rfl, lga1, lga2, FA1, FA2, hb⟩
         have RY := RD.below hb RD.lt
         have z0 : wa.cell? ⟨w3.heap.size, 0, none⟩ = some (.int .i64 v) := RY.cell 0
         have z1 : wa.cell? ⟨w3.heap.size, 1, none⟩ = some (.slice (some ⟨g1, 0, none⟩) n1 n1) := RY.cell 1
         have z2 : wa.cell? ⟨w3.heap.size, 2, none⟩ = some (.slice (some ⟨g2, 0, none⟩) n2 n2) := RY.cell 2
         have V1 := U1.below hb
         have V2 := U2.below hb
         have HG := HF.trans (hb.mono HF.size)
         clear hb RY lga1 lga2)
      | (go_at_call 37
         refine (eqTable_any v _ _ _ _ n1 n2 _ _ _ _ L1 L2 _ V1 V2 FA1.sl FA2.sl b1 b2).mono ?_
         rintro e wb ⟨rfl, hb⟩
         replace HG := HG.trans (hb.mono HG.size)
         clear hb)))
    all_goals (go_wp2_with fail; go_meet; exact ⟨rfl, HG⟩)
  case rest =>
  obtain ⟨rfl, hb⟩ := hcut
  skip
  replace R0 := R0.below hb R0.lt
  replace R1 := R1.below hb R1.lt
  replace RX0 := RX0.below hb RX0.lt
  replace RX1 := RX1.below hb RX1.lt
  replace HB := HB.trans (hb.mono HB.size)
  replace FG1 := FG1.below hb
  replace FG2 := FG2.below hb
  replace FP1 := FP1.below hb
  replace FP2 := FP2.below hb
  clear hb qR0_0 qR0_1 qR0_2 qR1_0 qR1_1 qR1_2 qRX0_0 qRX0_1 qRX0_2 qRX1_0 qRX1_1 qRX1_2
  have qR0_0 : wc.cell? ⟨w.heap.size, 0, none⟩ = some (.int .i64 v) := R0.cell 0
  have qR0_1 : wc.cell? ⟨w.heap.size, 1, none⟩ = some (.slice A1 n1 c1) := R0.cell 1
  have qR0_2 : wc.cell? ⟨w.heap.size, 2, none⟩ = some (.slice A2 n2 c2) := R0.cell 2
  have qR1_0 : wc.cell? ⟨(w.heap.size + 1), 0, none⟩ = some (.int .i64 u) := R1.cell 0
  have qR1_1 : wc.cell? ⟨(w.heap.size + 1), 1, none⟩ = some (.slice E1 m1 d1) := R1.cell 1
  have qR1_2 : wc.cell? ⟨(w.heap.size + 1), 2, none⟩ = some (.slice E2 m2 d2) := R1.cell 2
  have qRX0_0 : wc.cell? ⟨w3.heap.size, 0, none⟩ = some (.int .i64 v) := RX0.cell 0
  have qRX0_1 : wc.cell? ⟨w3.heap.size, 1, none⟩ = some (.slice (some ⟨g1, 0, none⟩) n1 n1) := RX0.cell 1
  have qRX0_2 : wc.cell? ⟨w3.heap.size, 2, none⟩ = some (.slice (some ⟨g2, 0, none⟩) n2 n2) := RX0.cell 2
  have qRX1_0 : wc.cell? ⟨w4.heap.size, 0, none⟩ = some (.int .i64 u) := RX1.cell 0
  have qRX1_1 : wc.cell? ⟨w4.heap.size, 1, none⟩ = some (.slice (some ⟨p1, 0, none⟩) m1 m1) := RX1.cell 1
  have qRX1_2 : wc.cell? ⟨w4.heap.size, 2, none⟩ = some (.slice (some ⟨p2, 0, none⟩) m2 m2) := RX1.cell 2
  go_upto_region 16 with (fail)
  go_cut [44] (fun s44 wx => s44 = .bool false ∧ Below wc.heap.size wc wx)
  case first =>
    have RD : Row wc.drew _ _ _ := RX1
    have HE : Below w.heap.size w wc.drew := below_drewN HB 1
    have HF : Below wc.heap.size wc wc.drew := below_drewN (Below.refl _ _) 1
    have U1 : SL _ _ wc.drew _ _ _ := FP1
    have U2 : SL _ _ wc.drew _ _ _ := FP2
    clear HB R0 R1 RX0 RX1 FG1 FG2 FP1 FP2
    go_region_with ((first
      | (go_at_call 35
         refine (toTable_any u E1 E2 m1 m2 d1 d2 M1 M2 _ (k1.below HE) (k2.below HE) e1 e2).mono ?_
         rintro e wa ⟨ga1, ga2, rfl, lga1, lga2, FA1, FA2, hb⟩
         have RY := RD.below hb RD.lt
         have z0 : wa.cell? ⟨w4.heap.size, 0, none⟩ = some (.int .i64 u) := RY.cell 0
         have z1 : wa.cell? ⟨w4.heap.size, 1, none⟩ = some (.slice (some ⟨p1, 0, none⟩) m1 m1) := RY.cell 1
         have z2 : wa.cell? ⟨w4.heap.size, 2, none⟩ = some (.slice (some ⟨p2, 0, none⟩) m2 m2) := RY.cell 2
         have V1 := U1.below hb
         have V2 := U2.below hb
         have HG := HF.trans (hb.mono HF.size)
         clear hb RY lga1 lga2)
      | (go_at_call 37
         refine (eqTable_any u _ _ _ _ m1 m2 _ _ _ _ M1 M2 _ V1 V2 FA1.sl FA2.sl e1 e2).mono ?_
         rintro e wb ⟨rfl, hb⟩
         replace HG := HG.trans (hb.mono HG.size)
         clear hb)))
    all_goals (go_wp2_with fail; go_meet; exact ⟨rfl, HG⟩)
  case rest =>
  obtain ⟨rfl, hb⟩ := hcut
  skip
  replace R0 := R0.below hb R0.lt
  replace R1 := R1.below hb R1.lt
  replace RX0 := RX0.below hb RX0.lt
  replace RX1 := RX1.below hb RX1.lt
  replace HB := HB.trans (hb.mono HB.size)
  replace FG1 := FG1.below hb
  replace FG2 := FG2.below hb
  replace FP1 := FP1.below hb
  replace FP2 := FP2.below hb
  clear hb qR0_0 qR0_1 qR0_2 qR1_0 qR1_1 qR1_2 qRX0_0 qRX0_1 qRX0_2 qRX1_0 qRX1_1 qRX1_2
  have qR0_0 : wc.cell? ⟨w.heap.size, 0, none⟩ = some (.int .i64 v) := R0.cell 0
  have qR0_1 : wc.cell? ⟨w.heap.size, 1, none⟩ = some (.slice A1 n1 c1) := R0.cell 1
  have qR0_2 : wc.cell? ⟨w.heap.size, 2, none⟩ = some (.slice A2 n2 c2) := R0.cell 2
  have qR1_0 : wc.cell? ⟨(w.heap.size + 1), 0, none⟩ = some (.int .i64 u) := R1.cell 0
  have qR1_1 : wc.cell? ⟨(w.heap.size + 1), 1, none⟩ = some (.slice E1 m1 d1) := R1.cell 1
  have qR1_2 : wc.cell? ⟨(w.heap.size + 1), 2, none⟩ = some (.slice E2 m2 d2) := R1.cell 2
  have qRX0_0 : wc.cell? ⟨w3.heap.size, 0, none⟩ = some (.int .i64 v) := RX0.cell 0
  have qRX0_1 : wc.cell? ⟨w3.heap.size, 1, none⟩ = some (.slice (some ⟨g1, 0, none⟩) n1 n1) := RX0.cell 1
  have qRX0_2 : wc.cell? ⟨w3.heap.size, 2, none⟩ = some (.slice (some ⟨g2, 0, none⟩) n2 n2) := RX0.cell 2
  have qRX1_0 : wc.cell? ⟨w4.heap.size, 0, none⟩ = some (.int .i64 u) := RX1.cell 0
  have qRX1_1 : wc.cell? ⟨w4.heap.size, 1, none⟩ = some (.slice (some ⟨p1, 0, none⟩) m1 m1) := RX1.cell 1
  have qRX1_2 : wc.cell? ⟨w4.heap.size, 2, none⟩ = some (.slice (some ⟨p2, 0, none⟩) m2 m2) := RX1.cell 2
  go_wp2_with fail
  go_ret
  exact ⟨rfl, HB⟩
end Go.Proofs.Yteodplednmeaaaa
