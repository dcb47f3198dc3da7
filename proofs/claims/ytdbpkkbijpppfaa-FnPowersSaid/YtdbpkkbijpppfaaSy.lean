/- The sine of a number of turns: the model's, and the law. -/
import Derived.Test.YtdbpkkbijpppfaaSx
namespace Go.Proofs.Ytdbpkkbijpppfaa
open Go.RowKit
set_option linter.unusedVariables false
set_option linter.unusedSimpArgs false
attribute [local go_sem] run_neg64 run_f64bits' run_f64frombits'
theorem conv_int {x : Nat} {s : Bool} {m : Nat} {p : Int} (dx : FloatKind.f64.decode x = .number s m p) (hl : Low m p) (W : World) : Sem.run Try.prog (convert 34 2 (.float .f64 x)) W = .ok (.int .i64 (Ieee.signed s (wholeN m p) 0)) W :=
  run_convert_float_int W _ _ .f64 .i64 x _ (by rw [Try.underlying34]; rfl) Try.underlying2 (toInt_val dx hl)
theorem kf_av {n : Nat} (h0 : n ≠ 0) (h : n < 2 ^ 53) : av .f64 (kf (n : Int)) = some (kf (n : Int)) := by
  obtain ⟨m', p', d, _⟩ := exact64 false n h0 h
  exact av_of_not (by rw [kf_pos h0, d]; rfl)
set_option maxRecDepth 100000 in
theorem sineWide_in {x : Nat} {s : Bool} {m : Nat} {p : Int} (dx : FloatKind.f64.decode x = .number s m p) (hf : farB m p = false) (w : World) :
    Calls Try.prog 87 #[.float .f64 x] w fun e w' => ∃ r n, e = .returned (.float .f64 r) ∧ Hid (av .f64 r = sineV (restF x s m p)) ∧ w' = w.drewN n := by
  have hl := far_not hf
  have hc := conv_int dx hl
  have hsub : Hid (fop .sub .f64 (av .f64 x) (av .f64 x) = some 0) := by show _ = _; rw [av_num dx]; exact sub_self64 dx
  have hfar := far_two dx
  rw [hf, Bool.or_eq_false_iff] at hfar
  obtain ⟨hfA, hfB⟩ := hfar
  have hF : Hid (restF x s m p = bif flt .f64 (fop .sub .f64 (some x) (some (wholeF s m p))) (some 0) then fop .add .f64 (fop .sub .f64 (some x) (some (wholeF s m p))) (some c1) else fop .sub .f64 (some x) (some (wholeF s m p))) := rfl
  have HX := Lib.hid (av_num dx)
  have HW := Lib.hid (av_whole s hl)
  have hn : Hid (FloatKind.f64.nearest (Ieee.signed s (wholeN m p) 0) = wholeF s m p) := rfl
  generalize Ieee.signed s (wholeN m p) 0 = N at *
  generalize restF x s m p = F at *
  clear dx hl hf
  go_enter Try.func87, Try.ntmps87
  go_upto_if 12 with ((with_reducible apply wpList_farith (op := .sub)); rfl; rfl; rfl; intro ra na ha)
  obtain ⟨rfl, _⟩ := av_some (ha.out.trans hsub.out)
  clear ha hsub
  go_upto_if 26 with ((with_reducible apply wpList_farith (op := .sub)); rfl; rfl; rfl; intro r1 n1 hr1)
  have HR : Hid (av .f64 r1 = fop .sub .f64 (some x) (some (wholeF s m p))) := by show _ = _; rw [hr1.out, HX.out, show floatOfInt .f64 N = wholeF s m p from hn.out, HW.out]
  clear hr1 HX HW hfA hfB hc
  go_cut [3] (fun s3 wx => ∃ r n, s3 = .float .f64 r ∧ Hid (av .f64 r = F) ∧ wx = w.drewN n)
  case first =>
    go_wp2_with ((with_reducible apply wpList_farith); rfl; rfl; rfl; intro r n hr)
    · rename_i hb
      go_meet
      refine ⟨_, _, rfl, ?_, rfl⟩
      rw [flt_raw64, HR.out, av_0] at hb
      show _ = _
      rw [hF.out, hb, hr.out, HR.out, av_c1n]; rfl
    · rename_i hb
      go_meet
      refine ⟨_, _, rfl, ?_, rfl⟩
      rw [flt_raw64, HR.out, av_0] at hb
      show _ = _
      rw [hF.out, hb, HR.out]; rfl
  case rest =>
  obtain ⟨r0, n0, rfl, h0, rfl⟩ := hcut
  clear HR hF
  go_upto_if 31 with fail
  go_cut [3, 4] (fun s3 s4 wx => ∃ r n, s3 = .float .f64 r ∧ s4 = .bool (sineT F) ∧ Hid (av .f64 r = sineG F) ∧ wx = w.drewN n)
  case first =>
    go_wp2_with ((with_reducible apply wpList_farith); rfl; rfl; rfl; intro r n hr)
    · rename_i hb
      go_meet
      replace hb := fge_yes hb
      rw [h0.out, av_chn] at hb
      refine ⟨_, _, rfl, ?_, ?_, rfl⟩
      · first | (rw [fge_raw64, h0.out, av_chn]; rfl) | rw [show sineT F = _ from hb]
      · show _ = _
        rw [hr.out, sineG, sineT]
        unfold ch
        rw [hb, h0.out, av_chn]; rfl
    · rename_i hb
      go_meet
      replace hb := fge_no hb
      rw [h0.out, av_chn] at hb
      refine ⟨_, _, rfl, ?_, ?_, rfl⟩
      · first | (rw [fge_raw64, h0.out, av_chn]; rfl) | rw [show sineT F = _ from hb]
      · show _ = _
        rw [sineG, sineT]
        unfold ch
        rw [hb, h0.out]; rfl
  case rest =>
    obtain ⟨r1, n1, rfl, rfl, h1, rfl⟩ := hcut
    clear h0
    go_upto_if 35 with fail
    go_cut [3] (fun s3 wx => ∃ r n, s3 = .float .f64 r ∧ Hid (av .f64 r = sineH F) ∧ wx = w.drewN n)
    case first =>
      go_wp2_with ((with_reducible apply wpList_farith); rfl; rfl; rfl; intro r n hr)
      · rename_i hb
        go_meet
        rw [fgt_raw64, h1.out, av_cqn] at hb
        refine ⟨_, _, rfl, ?_, rfl⟩
        show _ = _
        rw [hr.out, sineH]
        unfold cq
        rw [hb, h1.out, av_chn]; rfl
      · rename_i hb
        go_meet
        rw [fgt_raw64, h1.out, av_cqn] at hb
        refine ⟨_, _, rfl, ?_, rfl⟩
        show _ = _
        rw [sineH]
        unfold cq
        rw [hb, h1.out]; rfl
    case rest =>
      obtain ⟨r2, n2, rfl, h2, rfl⟩ := hcut
      clear h1
      go_upto_region 14 with ((with_reducible apply wpList_farith (op := .mul)); rfl; rfl; rfl; intro rz nz hz)
      go_upto_region 15 with ((with_reducible apply wpList_farith (op := .mul)); rfl; rfl; rfl; intro ru nu hu)
      have HZ : Hid (av .f64 rz = sineZ F) := by show _ = _; rw [hz.out, h2.out, av_ctn]; rfl
      have HU : Hid (av .f64 ru = sineU F) := by show _ = _; rw [hu.out, HZ.out]; rfl
      clear hz hu h2
      go_wp2_with fail
      go_loopw [7, 8] (fun p k wr => ∃ i j q rp : Nat, i + j = 8 ∧ k = .int .i64 (i : Int) ∧ p = .float .f64 rp ∧ Hid (av .f64 rp = polyS (sineU F) j) ∧ wr = w.drewN q) (fun _ k _ => (intOf k).toNat)
      case atStart => exact ⟨8, 0, _, _, rfl, rfl, rfl, by show _ = _; exact av_c1, rfl⟩
      case round =>
        obtain ⟨i, j, q, rp, hij, rfl, rfl, hp, rfl⟩ := hrel
        by_cases h1 : 1 ≤ i
        · have hpr : (2 * (i : Int)) * (2 * (i : Int) + 1) = ((2 * i * (2 * i + 1) : Nat) : Int) := by simp only [Int.natCast_mul, Int.natCast_add]; rfl
          have hp1 : 0 ≤ (2 * (i : Int)) * (2 * (i : Int) + 1) := Int.mul_nonneg (by omega) (by omega)
          have hp2 : (2 * (i : Int)) * (2 * (i : Int) + 1) ≤ 16 * 17 := Int.mul_le_mul (by omega) (by omega) (by omega) (by omega)
          have HPR := Lib.hid hpr
          clear hpr
          go_wp2_with ((with_reducible apply wpList_farith); rfl; rfl; rfl; intro _ _ _)
          rename_i r49 m49 h49 r57 m57 h57 r58 m58 h58
          obtain ⟨i', rfl⟩ : ∃ i', i = i' + 1 := ⟨i - 1, by omega⟩
          have e57 := h57.out
          rw [show floatOfInt .f64 (2 * ((i' + 1 : Nat) : Int) * (2 * ((i' + 1 : Nat) : Int) + 1)) = kf ((2 * (i' + 1) * (2 * (i' + 1) + 1) : Nat) : Int) by rw [HPR.out]; rfl] at e57
          refine ⟨⟨i', j + 1, _, r58, by omega, by go_num, rfl, ?_, rfl⟩, by simp [intOf]⟩
          show _ = _
          rw [h58.out, e57, h49.out, HU.out, hp.out, polyS_succ, show 8 - j = i' + 1 by omega, av_c1n, kf_av (Nat.mul_ne_zero (by omega) (by omega)) (by have := Nat.mul_le_mul (show 2 * (i' + 1) ≤ 16 by omega) (show 2 * (i' + 1) + 1 ≤ 17 by omega); omega)]
          rfl
        · obtain rfl : i = 0 := by omega
          obtain rfl : j = 8 := by omega
          have HR : Hid (fop .mul .f64 (av .f64 rz) (av .f64 rp) = sineR F) := by show _ = _; rw [HZ.out, hp.out]; rfl
          cases hT : sineT F
          · have HV : Hid (sineV F = sineR F) := by show _ = _; rw [sineV, hT]; rfl
            go_wp2_with ((with_reducible apply wpList_farith); rfl; rfl; rfl; intro r n hr)
            go_ret
            refine ⟨_, rfl, ?_, _, rfl⟩
            show _ = _
            rw [HV.out, ← HR.out, hr.out]
          · have HV : Hid (sineV F = fneg .f64 (sineR F)) := by show _ = _; rw [sineV, hT]; rfl
            go_wp2_with ((with_reducible apply wpList_farith); rfl; rfl; rfl; intro r n hr)
            go_ret
            refine ⟨_, rfl, ?_, _, rfl⟩
            show _ = _
            rw [HV.out, ← HR.out, av_neg, hr.out]
theorem sineWide_far {x : Nat} {s : Bool} {m : Nat} {p : Int} (dx : FloatKind.f64.decode x = .number s m p) (hf : farB m p = true) (w : World) :
    Calls Try.prog 87 #[.float .f64 x] w fun e w' => ∃ n, e = .returned (.float .f64 0) ∧ w' = w.drewN n := by
  have hsub : Hid (fop .sub .f64 (av .f64 x) (av .f64 x) = some 0) := by show _ = _; rw [av_num dx]; exact sub_self64 dx
  have hfar := far_two dx
  rw [hf] at hfar
  cases hA : (FloatKind.f64.format.order x 4841369599423283200 == some .gt || FloatKind.f64.format.order x 4841369599423283200 == some .eq)
  · rw [hA, Bool.false_or] at hfar
    clear dx hf
    go_enter Try.func87, Try.ntmps87
    go_upto_if 12 with ((with_reducible apply wpList_farith (op := .sub)); rfl; rfl; rfl; intro ra na ha)
    obtain ⟨rfl, _⟩ := av_some (ha.out.trans hsub.out)
    clear ha hsub
    go_wp2_with fail
    go_ret
    exact ⟨_, rfl, rfl⟩
  · clear dx hf hfar
    go_enter Try.func87, Try.ntmps87
    go_upto_if 12 with ((with_reducible apply wpList_farith (op := .sub)); rfl; rfl; rfl; intro ra na ha)
    obtain ⟨rfl, _⟩ := av_some (ha.out.trans hsub.out)
    clear ha hsub
    go_wp2_with fail
    go_ret
    exact ⟨_, rfl, rfl⟩
theorem sineWide_not {x : Nat} (h : ∀ s m p, FloatKind.f64.decode x ≠ .number s m p) (w : World) :
    Calls Try.prog 87 #[.float .f64 x] w fun e w' => ∃ n, e = .returned (.float .f64 9221120237041090561) ∧ w' = w.drewN n := by
  have hsub := Lib.hid (fin64_not h)
  clear h
  go_enter Try.func87, Try.ntmps87
  go_upto_if 12 with ((with_reducible apply wpList_farith (op := .sub)); rfl; rfl; rfl; intro ra na ha)
  have hne2 : (FloatKind.f64.format.order ra 0 != some .eq) = true := by
    have hne : (FloatKind.f64.format.order ra 0 == some .eq) = false := by rw [order_ford, ha.out, av_0]; exact hsub.out
    rw [bne, hne]; rfl
  rw [hne2]
  go_wp2_with (go_at_call 68; refine (nan_any _).mono ?_; rintro e w' ⟨rfl, rfl⟩)
  go_ret
  exact ⟨_, rfl, rfl⟩
theorem sineWide_any (x : Nat) (w : World) :
    Calls Try.prog 87 #[.float .f64 x] w fun e w' => ∃ r n, e = .returned (.float .f64 r) ∧ Hid (av .f64 r = sineW (av .f64 x)) ∧ w' = w.drewN n := by
  rcases num_or x with ⟨s, m, p, dx⟩ | hno
  · cases hf : farB m p
    · refine (sineWide_in dx hf w).mono ?_
      rintro e w' ⟨r, n, he, hr, hw⟩
      exact ⟨r, n, he, by show _ = _; rw [sineW_num dx, hf]; exact hr.out, hw⟩
    · refine (sineWide_far dx hf w).mono ?_
      rintro e w' ⟨n, he, hw⟩
      exact ⟨0, n, he, by show _ = _; rw [sineW_num dx, hf]; exact av_0, hw⟩
  · refine (sineWide_not hno w).mono ?_
    rintro e w' ⟨n, he, hw⟩
    exact ⟨_, n, he, by show _ = _; rw [sineW_not hno]; exact av_nan, hw⟩
theorem specl01Sine_any (x : Nat) (w : World) : Calls Try.prog 71 #[.float .f32 x] w fun e w' => ∃ r n, e = .returned (.float .f32 r) ∧ Hid (av .f32 r = fconv .f64 .f32 (sineW (fconv .f32 .f64 (av .f32 x)))) ∧ w' = w.drewN n := by
  have hfit := sineW_fits (fconv .f32 .f64 (av .f32 x))
  go_enter Try.func71, Try.ntmps71
  go_wp2_with (first | ((with_reducible apply wpList_fconv); (show FloatKind.f32 ≠ .f64; decide); exact Try.underlying23; exact Try.underlying34; rfl; exact fits_wide _; intro rr qq hrr) | (go_at_call 87; refine (sineWide_any _ _).mono ?_; rintro e w' ⟨r2, n2, rfl, hr2, rfl⟩) | (go_at_call 84; refine (l01Narrow_any (X := sineW (fconv .f32 .f64 (av .f32 x))) (by show _ = _; rw [hr2.out, hrr.out]) hfit _).mono ?_; rintro e w' ⟨r3, n3, rfl, hr3, rfl⟩))
  go_ret
  exact rfl3 hr3 rfl
theorem specSine_any (x : Nat) (w : World) : Calls Try.prog 40 #[.float .f32 x] w fun e w' => ∃ r n, e = .returned (.float .f32 r) ∧ Hid (av .f32 r = fconv .f64 .f32 (sineW (fconv .f32 .f64 (av .f32 x)))) ∧ w' = w.drewN n := by
  go_enter Try.func40, Try.ntmps40
  go_wp2_with (go_at_call 71; refine (specl01Sine_any _ _).mono ?_; rintro e w' ⟨r3, n3, rfl, hr3, rfl⟩)
  go_ret
  exact rfl3 hr3 rfl
theorem lawSineTurns (x : Nat) (hx : (Lit.float .f32 x).wf = true) (w : World) :
    Calls Try.prog 14 #[.float .f32 x] w fun e w' => e = .returned (.bool true) ∧ Below w.heap.size w w' := by
  go_enter Try.func14, Try.ntmps14
  go_wp2_with (first | (go_at_call 40; refine (specSine_any _ _).mono ?_; rintro e w' ⟨ra, na, rfl, ha, rfl⟩) | (go_at_call 41; refine (implSine_any _ hx _).mono ?_; rintro e w' ⟨rb, nb, rfl, hb, rfl⟩) | ((with_reducible apply wpList_fconv); (show FloatKind.f32 ≠ .f64; decide); exact Try.underlying23; exact Try.underlying34; rfl; exact fits_wide _; intro r n hr) | (go_at_call 33; refine (sameFloat_alike _ _ (by simp only [Hid] at *; simp [*]) _).mono ?_; rintro e w' ⟨n, rfl, rfl⟩))
  go_ret
  exact ⟨rfl, below_drewN (Below.refl _ _) _⟩
end Go.Proofs.Ytdbpkkbijpppfaa
