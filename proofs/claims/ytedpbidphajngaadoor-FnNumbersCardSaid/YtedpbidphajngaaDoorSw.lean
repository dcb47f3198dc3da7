/- The sine of a number of turns: what the program and the model compute. -/
import Derived.Test.YtedpbidphajngaaDoorSq
import Derived.Deep.DeepCutAuto
import Derived.Deep.CutRange
import Derived.Deep.LoopGhost
namespace Go.Proofs.YtedpbidphajngaaDoor
open Go.RowKit
set_option linter.unusedVariables false
set_option linter.unusedSimpArgs false
theorem run_neg64 (P : Program) (k : FloatKind) (b : Nat) (w : World) : Sem.run P (Op.unary .neg (.float k b)) w = .ok (.float k (Op.negFloat k b)) w := rfl
theorem run_f64bits' (x : Nat) (w : World) : (callFunc 97 #[.float .f64 x]).run Tryd.prog w = .ok (.value (.int .u64 x)) w := by kernel_rfl
theorem run_f64frombits' (n : Int) (w : World) : (callFunc 96 #[.int .u64 n]).run Tryd.prog w = .ok (.value (.float .f64 n.toNat)) w := by kernel_rfl
theorem run_trunc_raw (x : Nat) (w : World) : (callFunc 132 #[.float .f64 x]).run Tryd.prog w = (Extern.MathFloor.toIntegral "math.archTrunc" .zero #[.float .f64 x] >>= fun v => pure (.value v)).run Tryd.prog w := by kernel_rfl
theorem run_trunc {x : Nat} {s : Bool} {m : Nat} {p : Int} (dx : FloatKind.f64.decode x = .number s m p) (w : World) : (callFunc 132 #[.float .f64 x]).run Tryd.prog w = .ok (.value (.float .f64 (FloatKind.f64.encode (.number s (wholeN m p) 0)))) w := by
  rw [run_trunc_raw]
  have : Extern.MathFloor.toIntegral "math.archTrunc" .zero #[.float .f64 x] = (pure (.float .f64 (FloatKind.f64.encode (.number s (wholeN m p) 0))) : Sem Value) := by
    show (match FloatKind.f64.decode x with | .nan s t => _ | d => _) = _
    rw [dx]
    show pure (Value.float .f64 (FloatKind.f64.encode ((Ieee.Datum.number s m p).integral .zero))) = _
    rw [integral_zero]
  rw [this]
  rfl
attribute [local go_sem] run_neg64 run_f64bits' run_f64frombits'
theorem trunc_any {x : Nat} {s : Bool} {m : Nat} {p : Int} (dx : FloatKind.f64.decode x = .number s m p) (w : World) : Calls Tryd.prog 115 #[.float .f64 x] w fun e w' => e = .returned (.float .f64 (FloatKind.f64.encode (.number s (wholeN m p) 0))) ∧ w = w' := by
  have h := fun w => run_trunc dx w
  clear dx
  go_enter Tryd.func115, Tryd.ntmps115
  go_wp2_with fail
  go_ret
  exact ⟨rfl, rfl⟩
theorem flt_raw64 (x y : Nat) : (FloatKind.f64.format.order x y == some .lt) = flt .f64 (av .f64 x) (av .f64 y) := by rw [order_ford]; rfl
theorem fgt_raw64 (x y : Nat) : (FloatKind.f64.format.order x y == some .gt) = fgt .f64 (av .f64 x) (av .f64 y) := by rw [order_ford]; rfl
theorem fge_raw64 (x y : Nat) : (FloatKind.f64.format.order x y == some .gt || FloatKind.f64.format.order x y == some .eq) = fge .f64 (av .f64 x) (av .f64 y) := by rw [order_ford]; rfl
theorem av_c1 : av .f64 c1 = some c1 := by decide
theorem av_c1n : av .f64 4607182418800017408 = some 4607182418800017408 := av_c1
theorem av_0 : av .f64 0 = some 0 := by decide
theorem av_ch : av .f64 ch = some ch := by decide
theorem av_cq : av .f64 cq = some cq := by decide
theorem av_ct : av .f64 ct = some ct := by decide
theorem av_num {x : Nat} {s : Bool} {m : Nat} {p : Int} (dx : FloatKind.f64.decode x = .number s m p) : av .f64 x = some x := av_of_not (by rw [dx]; rfl)
theorem av_whole (s : Bool) {m : Nat} {p : Int} (h : Low m p) : av .f64 (wholeF s m p) = some (wholeF s m p) := by
  by_cases h0 : wholeN m p = 0
  · rw [wholeF_zero h0]; decide
  · rw [wholeF_of h0]
    have := whole_lt h
    obtain ⟨m', p', d, _⟩ := exact64 s _ h0 (show wholeN m p < 2 ^ 53 by omega)
    exact av_of_not (by rw [d]; rfl)

theorem rfl4 {k : FloatKind} {r : Nat} {n : Nat} {X : Option Nat} {w w' : World} (hr : Hid (av k r = X)) (hw : w' = w.drewN n) : ∃ r' n', Ending.returned (Value.float k r) = Ending.returned (Value.float k r') ∧ Hid (av k r' = X) ∧ w' = w.drewN n' := ⟨r, n, rfl, hr, hw⟩
theorem rest_any {x : Nat} {s : Bool} {m : Nat} {p : Int} (dx : FloatKind.f64.decode x = .number s m p) (hl : Low m p) (w : World) :
    Calls Tryd.prog 100 #[.float .f64 x] w fun e w' => ∃ r n, e = .returned (.float .f64 r) ∧ Hid (av .f64 r = restF x s m p) ∧ w' = w.drewN n := by
  have HX := Lib.hid (av_num dx)
  have HW := Lib.hid (av_whole s hl)
  have hz := trunc_zero (s := s) hl
  have ht := fun w => trunc_any dx w
  have hw0 : wholeN m p = 0 → wholeF s m p = 0 := wholeF_zero
  have hw1 : wholeN m p ≠ 0 → wholeF s m p = FloatKind.f64.encode (.number s (wholeN m p) 0) := wholeF_of
  generalize FloatKind.f64.encode (.number s (wholeN m p) 0) = T at *
  clear dx hl
  by_cases h0 : wholeN m p = 0
  · rw [decide_eq_true h0] at hz
    have HE := Lib.hid (hw0 h0)
    clear hw0 hw1 h0
    go_enter Tryd.func100, Tryd.ntmps100
    go_wp2_with (first | ((with_reducible apply wpList_farith (op := .sub)); rfl; rfl; rfl; intro r1 n1 hr1) | ((with_reducible apply wpList_farith); rfl; rfl; rfl; intro r n hr) | (go_at_call 115; refine (ht _).mono ?_; rintro e w' ⟨rfl, rfl⟩))
    · rename_i hb
      have HR : Hid (av .f64 r1 = fop .sub .f64 (some x) (some (wholeF s m p))) := by show _ = _; rw [hr1.out, HX.out, HE.out, av_0]
      have HF : Hid (restF x s m p = fop .add .f64 (av .f64 r1) (some c1)) := by show _ = _; rw [flt_raw64, HR.out, av_0] at hb; rw [restF, hb, HR.out]; rfl
      go_ret
      exact rfl4 (by show _ = _; rw [HF.out, hr.out, av_c1n]; rfl) rfl
    · rename_i hb
      have HR : Hid (av .f64 r1 = fop .sub .f64 (some x) (some (wholeF s m p))) := by show _ = _; rw [hr1.out, HX.out, HE.out, av_0]
      have HF : Hid (restF x s m p = av .f64 r1) := by show _ = _; rw [flt_raw64, HR.out, av_0] at hb; rw [restF, hb, HR.out]; rfl
      go_ret
      exact rfl4 (by show _ = _; rw [HF.out]) rfl
  · rw [decide_eq_false h0] at hz
    have HE := Lib.hid (hw1 h0)
    clear hw0 hw1 h0
    go_enter Tryd.func100, Tryd.ntmps100
    go_wp2_with (first | ((with_reducible apply wpList_farith (op := .sub)); rfl; rfl; rfl; intro r1 n1 hr1) | ((with_reducible apply wpList_farith); rfl; rfl; rfl; intro r n hr) | (go_at_call 115; refine (ht _).mono ?_; rintro e w' ⟨rfl, rfl⟩))
    · rename_i hb
      have HR : Hid (av .f64 r1 = fop .sub .f64 (some x) (some (wholeF s m p))) := by show _ = _; rw [hr1.out, HX.out, ← HW.out, HE.out]
      have HF : Hid (restF x s m p = fop .add .f64 (av .f64 r1) (some c1)) := by show _ = _; rw [flt_raw64, HR.out, av_0] at hb; rw [restF, hb, HR.out]; rfl
      go_ret
      exact rfl4 (by show _ = _; rw [HF.out, hr.out, av_c1n]; rfl) rfl
    · rename_i hb
      have HR : Hid (av .f64 r1 = fop .sub .f64 (some x) (some (wholeF s m p))) := by show _ = _; rw [hr1.out, HX.out, ← HW.out, HE.out]
      have HF : Hid (restF x s m p = av .f64 r1) := by show _ = _; rw [flt_raw64, HR.out, av_0] at hb; rw [restF, hb, HR.out]; rfl
      go_ret
      exact rfl4 (by show _ = _; rw [HF.out]) rfl
theorem fge_yes {x y : Nat} (h : (FloatKind.f64.format.order x y == some .gt) = true ∨ (FloatKind.f64.format.order x y == some .eq) = true) : fge .f64 (av .f64 x) (av .f64 y) = true := by
  rw [← fge_raw64]; rcases h with h | h <;> simp [h]
theorem fge_no {x y : Nat} (h : (FloatKind.f64.format.order x y == some .gt) = false ∧ (FloatKind.f64.format.order x y == some .eq) = false) : fge .f64 (av .f64 x) (av .f64 y) = false := by
  rw [← fge_raw64, h.1, h.2]; rfl
theorem av_chn : av .f64 4602678819172646912 = some 4602678819172646912 := av_ch
theorem av_cqn : av .f64 4598175219545276416 = some 4598175219545276416 := av_cq
theorem av_ctn : av .f64 4618760256179416344 = some 4618760256179416344 := av_ct
/-- a float's bits -/
def fbits : Value → Nat
  | .float _ b => b
  | _ => 0
theorem kf_le : ∀ i : Fin 26, (FloatKind.f64.format.order (kf (i.val : Int)) 4607182418800017408 == some .gt || FloatKind.f64.format.order (kf (i.val : Int)) 4607182418800017408 == some .eq) = decide (1 ≤ i.val) := by decide +kernel
theorem kf_two : ∀ i : Fin 26, fop .mul .f64 (av .f64 4611686018427387904) (av .f64 (kf (i.val : Int))) = some (kf ((2 * i.val : Nat) : Int)) := by decide +kernel
theorem kf_two1 : ∀ i : Fin 26, fop .add .f64 (some (kf ((2 * i.val : Nat) : Int))) (av .f64 4607182418800017408) = some (kf ((2 * i.val + 1 : Nat) : Int)) := by decide +kernel
theorem kf_prod : ∀ i : Fin 26, fop .mul .f64 (some (kf ((2 * i.val : Nat) : Int))) (some (kf ((2 * i.val + 1 : Nat) : Int))) = some (kf ((2 * i.val * (2 * i.val + 1) : Nat) : Int)) := by decide +kernel
theorem kf_pred : ∀ i : Fin 26, fop .sub .f64 (av .f64 (kf ((i.val + 1 : Nat) : Int))) (av .f64 4607182418800017408) = some (kf (i.val : Int)) := by decide +kernel
theorem kf_mono : ∀ i : Fin 26, kf (i.val : Int) < kf ((i.val + 1 : Nat) : Int) := by decide +kernel
theorem fbits_float (k : FloatKind) (b : Nat) : fbits (.float k b) = b := rfl
theorem kf_lt {i : Nat} (h : i ≤ 25) : kf (i : Int) < kf ((i + 1 : Nat) : Int) := kf_mono ⟨i, by omega⟩
theorem kf_at {i : Nat} (hi : i ≤ 25) (h1 : 1 ≤ i) : (FloatKind.f64.format.order (kf (i : Int)) 4607182418800017408 == some .gt || FloatKind.f64.format.order (kf (i : Int)) 4607182418800017408 == some .eq) = true := by
  have := kf_le ⟨i, by omega⟩
  rw [this]; exact decide_eq_true h1
theorem polyS_succ (u : Option Nat) (n : Nat) : polyS u (n + 1) = fop .sub .f64 (some c1) (fop .quo .f64 (fop .mul .f64 u (polyS u n)) (some (kf ((2 * (8 - n) * (2 * (8 - n) + 1) : Nat) : Int)))) := rfl
set_option maxRecDepth 100000 in
theorem sine_any {x : Nat} {s : Bool} {m : Nat} {p : Int} (dx : FloatKind.f64.decode x = .number s m p) (hl : Low m p) (w : World) :
    Calls Tryd.prog 82 #[.float .f64 x] w fun e w' => ∃ r n, e = .returned (.float .f64 r) ∧ Hid (av .f64 r = sineV (restF x s m p)) ∧ w' = w.drewN n := by
  have hrest := fun w => rest_any dx hl w
  generalize hF : restF x s m p = F at *
  clear hF dx hl
  go_enter Tryd.func82, Tryd.ntmps82
  go_upto_if 13 with (go_at_call 100; refine (hrest _).mono ?_; rintro e w' ⟨r0, n0, rfl, h0, rfl⟩)
  go_cut [3, 4] (fun s3 s4 wx => ∃ r n, s3 = .float .f64 r ∧ s4 = .bool (sineT F) ∧ Hid (av .f64 r = sineG F) ∧ wx = w.drewN n)
  case first =>
    go_wp2_with ((with_reducible apply wpList_farith); rfl; rfl; rfl; intro r n hr)
    · rename_i hb
      go_meet
      replace hb := fge_yes hb
      rw [h0.out, av_chn] at hb
      refine ⟨_, _, rfl, ?_, ?_, rfl⟩
      · rw [fge_raw64, h0.out, av_chn]; rfl
      · show _ = _
        rw [hr.out, sineG, sineT]
        unfold ch
        rw [hb, h0.out, av_chn]; rfl
    · rename_i hb
      go_meet
      replace hb := fge_no hb
      rw [h0.out, av_chn] at hb
      refine ⟨_, _, rfl, ?_, ?_, rfl⟩
      · rw [fge_raw64, h0.out, av_chn]; rfl
      · show _ = _
        rw [sineG, sineT]
        unfold ch
        rw [hb, h0.out]; rfl
  case rest =>
    obtain ⟨r1, n1, rfl, rfl, h1, rfl⟩ := hcut
    clear h0
    go_upto_if 17 with fail
    go_cut [3] (fun s3 wx => ∃ r n, s3 = .float .f64 r ∧ Hid (av .f64 r = sineH F) ∧ wx = w.drewN n)
    case first =>
      go_wp2_with ((with_reducible apply wpList_farith); rfl; rfl; rfl; intro r n hr)
      · rename_i hb
        go_meet
        rw [fgt_raw64, h1.out, av_cqn] at hb
        refine ⟨_, _, rfl, ?_, rfl⟩
        show _ = _
        rw [hr.out, sineH]
        unfold cq
        rw [hb, h1.out, av_chn]; rfl
      · rename_i hb
        go_meet
        rw [fgt_raw64, h1.out, av_cqn] at hb
        refine ⟨_, _, rfl, ?_, rfl⟩
        show _ = _
        rw [sineH]
        unfold cq
        rw [hb, h1.out]; rfl
    case rest =>
      obtain ⟨r2, n2, rfl, h2, rfl⟩ := hcut
      clear h1
      go_upto_region 8 with ((with_reducible apply wpList_farith (op := .mul)); rfl; rfl; rfl; intro rz nz hz)
      go_upto_region 9 with ((with_reducible apply wpList_farith (op := .mul)); rfl; rfl; rfl; intro ru nu hu)
      have HZ : Hid (av .f64 rz = sineZ F) := by show _ = _; rw [hz.out, h2.out, av_ctn]; rfl
      have HU : Hid (av .f64 ru = sineU F) := by show _ = _; rw [hu.out, HZ.out]; rfl
      clear hz hu h2
      go_wp2_with fail
      go_loopw [7, 8] (fun p k wr => ∃ i j q rp : Nat, i + j = 8 ∧ k = .float .f64 (kf (i : Int)) ∧ p = .float .f64 rp ∧ Hid (av .f64 rp = polyS (sineU F) j) ∧ wr = w.drewN q) (fun _ k _ => fbits k)
      case atStart => exact ⟨8, 0, _, _, rfl, by kernel_rfl, rfl, by show _ = _; exact av_c1, rfl⟩
      case round =>
        obtain ⟨i, j, q, rp, hij, rfl, rfl, hp, rfl⟩ := hrel
        by_cases h1 : 1 ≤ i
        · have hge := kf_at (i := i) (by omega) h1
          go_wp2_with ((with_reducible apply wpList_farith); rfl; rfl; rfl; intro _ _ _)
          rename_i r31 m31 h31 r33 m33 h33 r35 m35 h35 r36 m36 h36 r37 m37 h37 r38 m38 h38 r39 m39 h39 r28 m28 h28
          obtain ⟨i', rfl⟩ : ∃ i', i = i' + 1 := ⟨i - 1, by omega⟩
          have e28 := h28.out.trans (kf_pred ⟨i', by omega⟩)
          obtain rfl := (av_some e28).1
          have e33 := h33.out.trans (kf_two ⟨i' + 1, by omega⟩)
          have e35 := h35.out.trans (kf_two ⟨i' + 1, by omega⟩)
          have e36 := h36.out
          rw [e35] at e36
          replace e36 := e36.trans (kf_two1 ⟨i' + 1, by omega⟩)
          have e37 := h37.out
          rw [e33, e36] at e37
          replace e37 := e37.trans (kf_prod ⟨i' + 1, by omega⟩)
          refine ⟨⟨i', j + 1, _, r39, by omega, rfl, rfl, ?_, rfl⟩, by rw [fbits_float, fbits_float]; exact kf_lt (by omega)⟩
          show _ = _
          rw [h39.out, h38.out, e37, h31.out, HU.out, hp.out, polyS_succ, show 8 - j = i' + 1 by omega, av_c1n]
          rfl
        · obtain rfl : i = 0 := by omega
          have hge : (FloatKind.f64.format.order (kf ((0 : Nat) : Int)) 4607182418800017408 == some .gt || FloatKind.f64.format.order (kf ((0 : Nat) : Int)) 4607182418800017408 == some .eq) = false := by decide +kernel
          obtain rfl : j = 8 := by omega
          have HR : Hid (fop .mul .f64 (av .f64 rz) (av .f64 rp) = sineR F) := by show _ = _; rw [HZ.out, hp.out]; rfl
          cases hT : sineT F
          · have HV : Hid (sineV F = sineR F) := by show _ = _; rw [sineV, hT]; rfl
            go_wp2_with ((with_reducible apply wpList_farith); rfl; rfl; rfl; intro r n hr)
            go_ret
            refine ⟨_, rfl, ?_, _, rfl⟩
            show _ = _
            rw [HV.out, ← HR.out, hr.out]
          · have HV : Hid (sineV F = fneg .f64 (sineR F)) := by show _ = _; rw [sineV, hT]; rfl
            go_wp2_with ((with_reducible apply wpList_farith); rfl; rfl; rfl; intro r n hr)
            go_ret
            refine ⟨_, rfl, ?_, _, rfl⟩
            show _ = _
            rw [HV.out, ← HR.out, av_neg, hr.out]
end Go.Proofs.YtedpbidphajngaaDoor
