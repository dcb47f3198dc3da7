/- Laws of rows and tables whose result is a list. (written by gen/genW.py) -/
import Derived.Test.YteodplednmeaaaaTQ
import Derived.Test.YteodplednmeaaaaMT
import Derived.Test.YteodplednmeaaaaK
import Derived.Deep.RegionHeld3
import Derived.Deep.RegionWith
import Derived.Deep.DeepCutAuto
import Derived.Deep.CutRange
namespace Go.Proofs.Yteodplednmeaaaa
open Go.RowKit
set_option linter.unusedVariables false
set_option linter.unusedSimpArgs false
attribute [local go_sem] lo_value lo_enter run_store_float

set_option maxHeartbeats 8000000 in
set_option maxRecDepth 100000 in
theorem lawPlanOf (w : World) (v : Int) (A1 A2 : Option Addr) (n1 n2 c1 c2 : Nat) (L1 : List Nat) (L2 : List Int) (hv : (Lit.int .i64 v).wf = true) (f1 : FArg w A1 n1 L1) (f2 : IArg w A2 n2 L2) :
    Calls Try.prog 18 #[.agg #[.int .i64 v, .slice A1 n1 c1, .slice A2 n2 c2]] w fun e w' => e = .returned (.bool true) ∧ Below w.heap.size w w' := by
  have HB : Below w.heap.size w (w.alloc (.cells #[.int .i64 v, .slice A1 n1 c1, .slice A2 n2 c2] 43)) := (Below.refl _ _).alloc (Nat.le_refl _) _
  have R0 := Row.new w 43 #[.int .i64 v, .slice A1 n1 c1, .slice A2 n2 c2]
  obtain ⟨h1, ml1, wf1⟩ := f1
  obtain ⟨h2, ml2, wf2⟩ := f2
  by_cases ht : 0 ≤ (1048576 : Int) - n1 - n2
  rotate_left
  · have d0 : decide ((-1 : Int) < 0) = true := rfl
    go_enter Try.func18, Try.ntmps18
    go_wp2_with fail
    refine (szTable_out v A1 A2 n1 n2 c1 c2 _ _ (by omega) (by omega) ml1 ml2 (by omega)).mono ?_
    rintro e w1 ⟨rfl, hb⟩
    go_wp2_with fail
    go_ret
    exact ⟨rfl, HB.trans (hb.mono HB.size)⟩
  have d0 : decide ((1048576 : Int) - n1 - n2 < 0) = false := decide_eq_false (by omega)
  have b1 : n1 ≤ 1048576 := by omega
  have b2 : n2 ≤ 1048576 := by omega
  have HN : (planOfN v n1 n2 L1 L2) ≤ 1048576 := planOfN_le
  go_enter Try.func18, Try.ntmps18
  go_wp2_with fail
  refine (szTable_in v A1 A2 n1 n2 c1 c2 _ _ (by omega) ht).mono ?_
  rintro e w1 ⟨rfl, hb⟩
  replace R0 := R0.below hb R0.lt
  replace HB := HB.trans (hb.mono HB.size)
  clear hb
  have qR0_0 : w1.cell? ⟨w.heap.size, 0, none⟩ = some (.int .i64 v) := R0.cell 0
  have qR0_1 : w1.cell? ⟨w.heap.size, 1, none⟩ = some (.slice A1 n1 c1) := R0.cell 1
  have qR0_2 : w1.cell? ⟨w.heap.size, 2, none⟩ = some (.slice A2 n2 c2) := R0.cell 2
  go_wp2_with fail
  refine (toTable_any v A1 A2 n1 n2 c1 c2 L1 L2 _ (h1.below HB) (h2.below HB) b1 b2).mono ?_
  rintro e w2 ⟨s1, s2, rfl, ls1, ls2, Fs1, Fs2, hb⟩
  replace R0 := R0.below hb R0.lt
  replace HB := HB.trans (hb.mono HB.size)
  clear hb qR0_0 qR0_1 qR0_2
  have qR0_0 : w2.cell? ⟨w.heap.size, 0, none⟩ = some (.int .i64 v) := R0.cell 0
  have qR0_1 : w2.cell? ⟨w.heap.size, 1, none⟩ = some (.slice A1 n1 c1) := R0.cell 1
  have qR0_2 : w2.cell? ⟨w.heap.size, 2, none⟩ = some (.slice A2 n2 c2) := R0.cell 2
  clear ls1 ls2
  replace Fs1 := Fs1.sl
  replace Fs2 := Fs2.sl
  go_wp2_with fail
  refine (specPlanOf_own v (some ⟨s1, 0, none⟩) (some ⟨s2, 0, none⟩) n1 n2 n1 n2 L1 L2 _ Fs1 Fs2 b1 b2).mono ?_
  rintro e w3 ⟨su, rfl, ou, hb⟩
  replace R0 := R0.below hb R0.lt
  replace HB := HB.trans (hb.mono HB.size)
  replace Fs1 := Fs1.below hb
  replace Fs2 := Fs2.below hb
  clear hb qR0_0 qR0_1 qR0_2
  have qR0_0 : w3.cell? ⟨w.heap.size, 0, none⟩ = some (.int .i64 v) := R0.cell 0
  have qR0_1 : w3.cell? ⟨w.heap.size, 1, none⟩ = some (.slice A1 n1 c1) := R0.cell 1
  have qR0_2 : w3.cell? ⟨w.heap.size, 2, none⟩ = some (.slice A2 n2 c2) := R0.cell 2
  have hu0 : ∀ b, su.ownBlock = some b → b < w3.heap.size := fun b e => (ou.lt b e).2
  have hu := Lib.hid hu0
  clear hu0
  have e0 : w.heap.size < w3.heap.size := R0.lt
  clear Fs1 Fs2
  go_wp2_with fail
  refine (toTable_any v A1 A2 n1 n2 c1 c2 L1 L2 _ (h1.below HB) (h2.below HB) b1 b2).mono ?_
  rintro e w4 ⟨g1, g2, rfl, lg1, lg2, Fg1, Fg2, hb⟩
  replace R0 := R0.below hb R0.lt
  replace HB := HB.trans (hb.mono HB.size)
  replace ou := kept_below ou hb
  clear hb qR0_0 qR0_1 qR0_2
  have qR0_0 : w4.cell? ⟨w.heap.size, 0, none⟩ = some (.int .i64 v) := R0.cell 0
  have qR0_1 : w4.cell? ⟨w.heap.size, 1, none⟩ = some (.slice A1 n1 c1) := R0.cell 1
  have qR0_2 : w4.cell? ⟨w.heap.size, 2, none⟩ = some (.slice A2 n2 c2) := R0.cell 2
  have e3 : g2 < w4.heap.size := Fg2.lt
  have RX := Row.new w4 46 #[.int .i64 v, .slice (some ⟨g1, 0, none⟩) n1 n1, .slice (some ⟨g2, 0, none⟩) n2 n2]
  have hz0 := R0.lt
  have hne : ¬ w.heap.size = w4.heap.size := by omega
  have hb : Below w4.heap.size w4 (w4.alloc (.cells #[.int .i64 v, .slice (some ⟨g1, 0, none⟩) n1 n1, .slice (some ⟨g2, 0, none⟩) n2 n2] 46)) := (Below.refl _ _).alloc (Nat.le_refl _) _
  replace R0 := R0.alloc (.cells #[.int .i64 v, .slice (some ⟨g1, 0, none⟩) n1 n1, .slice (some ⟨g2, 0, none⟩) n2 n2] 46)
  replace HB := HB.trans (hb.mono HB.size)
  replace Fg1 := Fg1.below hb Fg1.lt
  replace Fg2 := Fg2.below hb Fg2.lt
  replace ou := kept_below ou hb
  clear hb
  have e4 : g2 < (w4.alloc (.cells #[.int .i64 v, .slice (some ⟨g1, 0, none⟩) n1 n1, .slice (some ⟨g2, 0, none⟩) n2 n2] 46)).heap.size := Fg2.lt
  go_wp2_with fail
  refine (implPlanOf_own v (some ⟨g1, 0, none⟩) (some ⟨g2, 0, none⟩) n1 n2 n1 n2 L1 L2 _ Fg1.sl Fg2.sl b1 b2).mono ?_
  rintro e w5 ⟨gu, rfl, og, hb⟩
  replace R0 := R0.below hb R0.lt
  replace RX := RX.below hb RX.lt
  replace HB := HB.trans (hb.mono HB.size)
  replace Fg1 := Fg1.below hb Fg1.lt
  replace Fg2 := Fg2.below hb Fg2.lt
  replace ou := kept_below ou hb
  clear hb qR0_0 qR0_1 qR0_2
  have qR0_0 : w5.cell? ⟨w.heap.size, 0, none⟩ = some (.int .i64 v) := R0.cell 0
  have qR0_1 : w5.cell? ⟨w.heap.size, 1, none⟩ = some (.slice A1 n1 c1) := R0.cell 1
  have qR0_2 : w5.cell? ⟨w.heap.size, 2, none⟩ = some (.slice A2 n2 c2) := R0.cell 2
  have qRX_0 : w5.cell? ⟨w4.heap.size, 0, none⟩ = some (.int .i64 v) := RX.cell 0
  have qRX_1 : w5.cell? ⟨w4.heap.size, 1, none⟩ = some (.slice (some ⟨g1, 0, none⟩) n1 n1) := RX.cell 1
  have qRX_2 : w5.cell? ⟨w4.heap.size, 2, none⟩ = some (.slice (some ⟨g2, 0, none⟩) n2 n2) := RX.cell 2
  clear hz0 hne
  go_wp2_with fail
  refine (eq_own _ _ (planOfN v n1 n2 L1 L2) gu su (planOfO v n1 n2 L1 L2) _ og ou HN).mono ?_
  rintro e w6 ⟨kq, rfl, hw⟩
  have hb : Below w5.heap.size w5 w6 := by rw [hw]; (repeat refine below_drewN ?_ _); exact Below.refl _ _
  clear hw
  replace R0 := R0.below hb R0.lt
  replace RX := RX.below hb RX.lt
  replace HB := HB.trans (hb.mono HB.size)
  replace Fg1 := Fg1.below hb Fg1.lt
  replace Fg2 := Fg2.below hb Fg2.lt
  replace ou := kept_below ou hb
  replace og := kept_below og hb
  clear hb qR0_0 qR0_1 qR0_2 qRX_0 qRX_1 qRX_2
  have qR0_0 : w6.cell? ⟨w.heap.size, 0, none⟩ = some (.int .i64 v) := R0.cell 0
  have qR0_1 : w6.cell? ⟨w.heap.size, 1, none⟩ = some (.slice A1 n1 c1) := R0.cell 1
  have qR0_2 : w6.cell? ⟨w.heap.size, 2, none⟩ = some (.slice A2 n2 c2) := R0.cell 2
  have qRX_0 : w6.cell? ⟨w4.heap.size, 0, none⟩ = some (.int .i64 v) := RX.cell 0
  have qRX_1 : w6.cell? ⟨w4.heap.size, 1, none⟩ = some (.slice (some ⟨g1, 0, none⟩) n1 n1) := RX.cell 1
  have qRX_2 : w6.cell? ⟨w4.heap.size, 2, none⟩ = some (.slice (some ⟨g2, 0, none⟩) n2 n2) := RX.cell 2
  go_upto_region 10 with (fail)
  go_cut [45] (fun sb wx => sb = .bool false ∧ Below w6.heap.size w6 wx)
  case first =>
    have RD : Row w6.drew _ _ _ := RX
    have HE : Below w.heap.size w w6.drew := below_drewN HB 1
    have HF : Below w6.heap.size w6 w6.drew := below_drewN (Below.refl _ _) 1
    have U1 : SL _ _ w6.drew _ _ _ := Fg1.sl
    have U2 : SL _ _ w6.drew _ _ _ := Fg2.sl
    clear RX HB R0 Fg1 Fg2 ou og
    go_region_with ((first
      | (go_at_call 35
         refine (toTable_any v A1 A2 n1 n2 c1 c2 L1 L2 _ (h1.below HE) (h2.below HE) b1 b2).mono ?_
         rintro e wa ⟨e1g, e2g, rfl, le1, le2, E1, E2, hb⟩
         have RY := RD.below hb RD.lt
         have z0 : wa.cell? ⟨w4.heap.size, 0, none⟩ = some (.int .i64 v) := RY.cell 0
         have z1 : wa.cell? ⟨w4.heap.size, 1, none⟩ = some (.slice (some ⟨g1, 0, none⟩) n1 n1) := RY.cell 1
         have z2 : wa.cell? ⟨w4.heap.size, 2, none⟩ = some (.slice (some ⟨g2, 0, none⟩) n2 n2) := RY.cell 2
         have V1 := U1.below hb
         have V2 := U2.below hb
         have HG := HF.trans (hb.mono HF.size)
         clear RY hb le1 le2)
      | (go_at_call 37
         refine (eqTable_any v _ _ _ _ n1 n2 _ _ _ _ L1 L2 _ V1 V2 E1.sl E2.sl b1 b2).mono ?_
         rintro e wb ⟨rfl, hb⟩
         replace HG := HG.trans (hb.mono HG.size)
         clear hb)))
    all_goals (go_wp2_with fail; go_meet; exact ⟨rfl, HG⟩)
  case rest =>
  obtain ⟨rfl, hb⟩ := hcut
  skip
  replace R0 := R0.below hb R0.lt
  replace RX := RX.below hb RX.lt
  replace HB := HB.trans (hb.mono HB.size)
  replace Fg1 := Fg1.below hb Fg1.lt
  replace Fg2 := Fg2.below hb Fg2.lt
  replace ou := kept_below ou hb
  replace og := kept_below og hb
  clear hb qR0_0 qR0_1 qR0_2 qRX_0 qRX_1 qRX_2
  have qR0_0 : wc.cell? ⟨w.heap.size, 0, none⟩ = some (.int .i64 v) := R0.cell 0
  have qR0_1 : wc.cell? ⟨w.heap.size, 1, none⟩ = some (.slice A1 n1 c1) := R0.cell 1
  have qR0_2 : wc.cell? ⟨w.heap.size, 2, none⟩ = some (.slice A2 n2 c2) := R0.cell 2
  have qRX_0 : wc.cell? ⟨w4.heap.size, 0, none⟩ = some (.int .i64 v) := RX.cell 0
  have qRX_1 : wc.cell? ⟨w4.heap.size, 1, none⟩ = some (.slice (some ⟨g1, 0, none⟩) n1 n1) := RX.cell 1
  have qRX_2 : wc.cell? ⟨w4.heap.size, 2, none⟩ = some (.slice (some ⟨g2, 0, none⟩) n2 n2) := RX.cell 2
  obtain ⟨xs1, o1⟩ := FR.own (base := w.heap.size) Fg1 (by omega) b1
  obtain ⟨xs2, o2⟩ := IR.own (base := w.heap.size) Fg2 (by omega) b2
  clear Fg1 Fg2
  go_wp2_with fail
  refine (markTable_any w.heap.size v g1 g2 n1 n2 n1 n2 1 xs1 xs2 _ o1 o2 (by omega) b1 b2 (by omega)).mono ?_
  rintro e w7 ⟨rfl, hW⟩
  clear RX
  replace R0 := hW.row R0 (by simp; omega)
  replace HB := hW.below HB HB.size (by simp; omega)
  replace ou := hW.owned ou (by intro b e; have q1 := hu.out b e; simp; omega)
  replace og := hW.owned og (by intro b e; have q1 := (og.lt b e).1; simp; omega)
  clear qR0_0 qR0_1 qR0_2 qRX_0 qRX_1 qRX_2
  clear hW o1 o2
  have hK0 : 1 + n1 + n2 ≤ 4194305 := by omega
  generalize 1 + n1 + n2 = K0 at hK0 ⊢
  have qR0_0 : w7.cell? ⟨w.heap.size, 0, none⟩ = some (.int .i64 v) := R0.cell 0
  have qR0_1 : w7.cell? ⟨w.heap.size, 1, none⟩ = some (.slice A1 n1 c1) := R0.cell 1
  have qR0_2 : w7.cell? ⟨w.heap.size, 2, none⟩ = some (.slice A2 n2 c2) := R0.cell 2
  have hK : decide ((K0 : Int) < 0) = false := decide_eq_false (by omega)
  go_wp2_with fail
  refine (eq_own _ _ (planOfN v n1 n2 L1 L2) gu su (planOfO v n1 n2 L1 L2) _ og ou HN).mono ?_
  rintro e w8 ⟨kq, rfl, hw⟩
  have hb : Below w7.heap.size w7 w8 := by rw [hw]; (repeat refine below_drewN ?_ _); exact Below.refl _ _
  clear hw
  replace R0 := R0.below hb R0.lt
  replace HB := HB.trans (hb.mono HB.size)
  replace ou := kept_below ou hb
  replace og := kept_below og hb
  clear hb qR0_0 qR0_1 qR0_2
  have qR0_0 : w8.cell? ⟨w.heap.size, 0, none⟩ = some (.int .i64 v) := R0.cell 0
  have qR0_1 : w8.cell? ⟨w.heap.size, 1, none⟩ = some (.slice A1 n1 c1) := R0.cell 1
  have qR0_2 : w8.cell? ⟨w.heap.size, 2, none⟩ = some (.slice A2 n2 c2) := R0.cell 2
  clear hK
  obtain ⟨Q, hQ⟩ : ∃ Q, Q = 1 + (planOfN v n1 n2 L1 L2) := ⟨_, rfl⟩
  have hQ0 : decide ((Q : Int) < 0) = false := decide_eq_false (by omega)
  have HQ := Lib.hid hQ
  clear hQ
  go_wp2_with fail
  refine (mark_own _ (planOfN v n1 n2 L1 L2) 1 gu _ _ og HN (by omega)).mono ?_
  rintro e w9 ⟨he, og2, hW⟩
  rw [← HQ.out] at he; subst he
  have e9 : ∀ k ∈ ownL gu, (w4.alloc (.cells #[.int .i64 v, .slice (some ⟨g1, 0, none⟩) n1 n1, .slice (some ⟨g2, 0, none⟩) n2 n2] 46)).heap.size ≤ k := fun k hk => (ownL_mem og hk).1
  replace R0 := hW.row R0 (fun h => by have q1 := e9 _ h; omega)
  replace HB := hW.below HB HB.size (fun k hk => by have q1 := e9 k hk; omega)
  replace ou := hW.owned ou (fun b e h => by have q1 := hu.out b e; have q2 := e9 b h; omega)
  clear og hW e9 qR0_0 qR0_1 qR0_2
  have qR0_0 : w9.cell? ⟨w.heap.size, 0, none⟩ = some (.int .i64 v) := R0.cell 0
  have qR0_1 : w9.cell? ⟨w.heap.size, 1, none⟩ = some (.slice A1 n1 c1) := R0.cell 1
  have qR0_2 : w9.cell? ⟨w.heap.size, 2, none⟩ = some (.slice A2 n2 c2) := R0.cell 2
  go_wp2_with fail
  refine (held_own _ (planOfN v n1 n2 L1 L2) 1 gu _ og2 HN (by omega)).mono ?_
  rintro e w10 ⟨he, hw⟩
  rw [← HQ.out] at he; subst he; subst hw
  go_wp2_with fail
  refine (toTable_any v A1 A2 n1 n2 c1 c2 L1 L2 _ (h1.below HB) (h2.below HB) b1 b2).mono ?_
  rintro e w11 ⟨h1, h2, rfl, lh1, lh2, Fh1, Fh2, hb⟩
  replace R0 := R0.below hb R0.lt
  replace HB := HB.trans (hb.mono HB.size)
  replace ou := kept_below ou hb
  replace og2 := kept_below og2 hb
  clear hb qR0_0 qR0_1 qR0_2
  have qR0_0 : w11.cell? ⟨w.heap.size, 0, none⟩ = some (.int .i64 v) := R0.cell 0
  have qR0_1 : w11.cell? ⟨w.heap.size, 1, none⟩ = some (.slice A1 n1 c1) := R0.cell 1
  have qR0_2 : w11.cell? ⟨w.heap.size, 2, none⟩ = some (.slice A2 n2 c2) := R0.cell 2
  clear lh1 lh2
  replace Fh1 := Fh1.sl
  replace Fh2 := Fh2.sl
  go_wp2_with fail
  refine (implPlanOf_own v (some ⟨h1, 0, none⟩) (some ⟨h2, 0, none⟩) n1 n2 n1 n2 L1 L2 _ Fh1 Fh2 b1 b2).mono ?_
  rintro e w12 ⟨hu2, rfl, oh, hb⟩
  replace R0 := R0.below hb R0.lt
  replace HB := HB.trans (hb.mono HB.size)
  replace Fh1 := Fh1.below hb
  replace Fh2 := Fh2.below hb
  replace ou := kept_below ou hb
  replace og2 := kept_below og2 hb
  clear hb qR0_0 qR0_1 qR0_2
  have qR0_0 : w12.cell? ⟨w.heap.size, 0, none⟩ = some (.int .i64 v) := R0.cell 0
  have qR0_1 : w12.cell? ⟨w.heap.size, 1, none⟩ = some (.slice A1 n1 c1) := R0.cell 1
  have qR0_2 : w12.cell? ⟨w.heap.size, 2, none⟩ = some (.slice A2 n2 c2) := R0.cell 2
  clear Fh1 Fh2
  go_wp2_with fail
  refine (eq_own _ _ (planOfN v n1 n2 L1 L2) hu2 su (planOfO v n1 n2 L1 L2) _ oh ou HN).mono ?_
  rintro e w13 ⟨kq, rfl, hw⟩
  have hb : Below w12.heap.size w12 w13 := by rw [hw]; (repeat refine below_drewN ?_ _); exact Below.refl _ _
  clear hw
  replace R0 := R0.below hb R0.lt
  replace HB := HB.trans (hb.mono HB.size)
  replace ou := kept_below ou hb
  replace og2 := kept_below og2 hb
  replace oh := kept_below oh hb
  clear hb qR0_0 qR0_1 qR0_2
  have qR0_0 : w13.cell? ⟨w.heap.size, 0, none⟩ = some (.int .i64 v) := R0.cell 0
  have qR0_1 : w13.cell? ⟨w.heap.size, 1, none⟩ = some (.slice A1 n1 c1) := R0.cell 1
  have qR0_2 : w13.cell? ⟨w.heap.size, 2, none⟩ = some (.slice A2 n2 c2) := R0.cell 2
  go_wp2_with fail
  refine (held_own _ (planOfN v n1 n2 L1 L2) 1 gu _ og2 HN (by omega)).mono ?_
  rintro e w14 ⟨he, hw⟩
  rw [← HQ.out] at he; subst he; subst hw
  go_wp2_with fail
  go_ret
  exact ⟨rfl, HB⟩
end Go.Proofs.Yteodplednmeaaaa
