/- The natural logarithm: the program's and the model's, and the law. -/
import Derived.Test.YtdbpkkbijpppfaaLx
namespace Go.Proofs.Ytdbpkkbijpppfaa
open Go.RowKit
open FT (Le2 Has)
set_option linter.unusedVariables false
set_option linter.unusedSimpArgs false
attribute [local go_sem] run_neg64 run_f64bits' run_f64frombits'
theorem not_gt_max {y m : Nat} {s : Bool} {p : Int} (d : FloatKind.f64.decode y = .number s m p) (h : s = true ∨ Le2 m p 1 128) : (FloatKind.f64.format.order y 9218868437227405311 == some .gt) = false := by
  have dm : FloatKind.f64.decode 9218868437227405311 = .number false 9007199254740991 971 := by decide
  rw [ord_num d dm]
  simp only [Option.some_beq_some, cmp_gt, Ieee.signed, Nat.shiftLeft_eq, Bool.false_eq_true, if_false]
  apply decide_eq_false
  rcases h with rfl | h
  · simp only [if_true]
    omega
  · have h2 : Le2 1 128 9007199254740991 971 := (Le2.pow (show (128 : Int) ≤ 971 by omega)).trans (fun B _ _ => Nat.mul_le_mul_right _ (by omega))
    have h3 := (h.trans h2) (min p 971) (by omega) (by omega)
    cases s
    · simp only [Bool.false_eq_true, if_false]
      omega
    · simp only [if_true]
      omega
theorem fin32_yes {x : Nat} {s : Bool} {m : Nat} {p : Int} (h : FloatKind.f32.decode x = .number s m p) : finA .f32 (av .f32 x) = true := by
  have hr : FloatKind.f32.format.read x = .number s m p := h
  rw [av_of_not (by rw [h]; rfl)]
  unfold finA fop floatBits
  simp only [Ieee.Format.sub, hr, Ieee.Datum.opposite, Ieee.Datum.sum]
  have e : Ieee.signed s m (p - min p p).toNat + Ieee.signed (!s) m (p - min p p).toNat = 0 := by
    simp only [Ieee.signed]
    cases s <;> simp <;> omega
  rw [e]
  have hw : FloatKind.f32.format.write (.number false 0 (min p p)) = 0 := by
    unfold Ieee.Format.write Ieee.Format.nearest
    simp only [if_true]
    rfl
  cases s <;> (show feq .f32 (some (FloatKind.f32.format.write (.number false 0 (min p p)))) (some 0) = true; rw [hw]; decide)
theorem logWide_nan {x : Nat} (hN : (FloatKind.f64.format.order x x != some .eq) = true) (w : World) :
    Calls Try.prog 86 #[.float .f64 x] w fun e w' => e = .returned (.float .f64 9221120237041090561) ∧ w = w' := by
  go_enter Try.func86, Try.ntmps86
  go_wp2_with (go_at_call 68; refine (nan_any2 _).mono ?_; rintro e w' ⟨rfl, rfl⟩)
  go_ret
  exact ⟨rfl, rfl⟩
theorem logWide_neg {x : Nat} (hN : (FloatKind.f64.format.order x x != some .eq) = false) (hL : (FloatKind.f64.format.order x 0 == some .lt) = true) (w : World) :
    Calls Try.prog 86 #[.float .f64 x] w fun e w' => e = .returned (.float .f64 9221120237041090561) ∧ w = w' := by
  go_enter Try.func86, Try.ntmps86
  go_wp2_with (go_at_call 68; refine (nan_any2 _).mono ?_; rintro e w' ⟨rfl, rfl⟩)
  go_ret
  exact ⟨rfl, rfl⟩
theorem logWide_zero {x : Nat} (hN : (FloatKind.f64.format.order x x != some .eq) = false) (hL : (FloatKind.f64.format.order x 0 == some .lt) = false) (hE : (FloatKind.f64.format.order x 0 == some .eq) = true) (w : World) :
    Calls Try.prog 86 #[.float .f64 x] w fun e w' => e = .returned (.float .f64 18442240474082181120) ∧ w = w' := by
  go_enter Try.func86, Try.ntmps86
  go_wp2_with (go_at_call 69; refine (inf_any _).mono ?_; rintro e w' ⟨rfl, rfl⟩)
  go_ret
  exact ⟨rfl, rfl⟩
theorem logWide_inf {x : Nat} (hN : (FloatKind.f64.format.order x x != some .eq) = false) (hL : (FloatKind.f64.format.order x 0 == some .lt) = false) (hE : (FloatKind.f64.format.order x 0 == some .eq) = false) (hI : (FloatKind.f64.format.order x 9218868437227405311 == some .gt) = true) (w : World) :
    Calls Try.prog 86 #[.float .f64 x] w fun e w' => e = .returned (.float .f64 x) ∧ w = w' := by
  go_enter Try.func86, Try.ntmps86
  go_wp2_with (go_at_call 92; refine (isInf_any _ _).mono ?_; rintro e w' ⟨rfl, rfl⟩; rw [hI])
  go_ret
  exact ⟨rfl, rfl⟩
theorem logWide_any {x y : Nat} (hy : av .f64 y = fconv .f32 .f64 (av .f32 x)) (w : World) :
    Calls Try.prog 86 #[.float .f64 y] w fun e w' => ∃ r n, e = .returned (.float .f64 r) ∧ Hid (av .f64 r = logW (fconv .f32 .f64 (av .f32 x))) ∧ w' = w.drewN n := by
  have hN := ne_self .f64 y
  cases hd : FloatKind.f32.decode x with
  | nan s t =>
    have ha : av .f32 x = none := by unfold av; rw [hd]; rfl
    rw [ha] at hy ⊢
    rw [hy] at hN
    refine (logWide_nan hN w).mono ?_
    rintro e w' ⟨rfl, rfl⟩
    exact ⟨_, 0, rfl, by show _ = _; exact av_nan, rfl⟩
  | infinity s =>
    have hv : fconv .f32 .f64 (av .f32 x) = some (FloatKind.f64.encode (.infinity s)) := by
      rw [av_of_not (by rw [hd]; rfl)]
      show floatToFloatBits .f32 x .f64 = _
      unfold floatToFloatBits
      rw [if_neg (by decide), hd]
    rw [hv] at hy ⊢
    obtain ⟨rfl, _⟩ := av_some hy
    rw [hy] at hN
    cases s
    · refine (logWide_inf hN (by decide) (by decide) (by decide) w).mono ?_
      rintro e w' ⟨rfl, rfl⟩
      exact ⟨_, 0, rfl, by show _ = _; rw [hy]; rfl, rfl⟩
    · refine (logWide_neg hN (by decide) w).mono ?_
      rintro e w' ⟨rfl, rfl⟩
      exact ⟨_, 0, rfl, by show _ = _; rw [av_nan]; rfl, rfl⟩
  | number s m p =>
    obtain ⟨y', m', p', hy', dy, h0, h1⟩ := wide_num hd
    rw [hy'] at hy ⊢
    obtain ⟨rfl, _⟩ := av_some hy
    rw [hy] at hN
    have ho := ord0_num dy
    by_cases hm : m = 0
    · rw [if_pos (h0 hm)] at ho
      refine (logWide_zero hN (by rw [ho]; rfl) (by rw [ho]; rfl) w).mono ?_
      rintro e w' ⟨rfl, rfl⟩
      refine ⟨_, 0, rfl, ?_, rfl⟩
      show _ = _
      unfold logW
      rw [Option.bind_some, dy]
      dsimp only
      rw [if_pos (h0 hm)]
      decide
    · obtain ⟨h2, h3, h4⟩ := h1 hm
      rw [if_neg h2] at ho
      cases s
      · have hP : Pb .f64 128 (av .f64 y') := ⟨y', m', p', av_num dy, dy, h3⟩
        have hG : Ge .f64 (-149) (av .f64 y') := ⟨y', m', p', av_num dy, dy, h4⟩
        refine (logWide_in hP hG hN (by rw [ho]; rfl) (by rw [ho]; rfl) (not_gt_max dy (.inr h3)) w).mono ?_
        rintro e w' ⟨r, n, he, hr, hw⟩
        refine ⟨r, n, he, ?_, hw⟩
        show _ = _
        unfold logW
        rw [Option.bind_some, dy]
        dsimp only
        rw [if_neg h2, hr.out, hy]
        rfl
      · refine (logWide_neg hN (by rw [ho]; rfl) w).mono ?_
        rintro e w' ⟨rfl, rfl⟩
        refine ⟨_, 0, rfl, ?_, rfl⟩
        show _ = _
        unfold logW
        rw [Option.bind_some, dy]
        dsimp only
        rw [if_neg h2, av_nan]
        rfl
theorem specl01Log_any (x : Nat) (w : World) : Calls Try.prog 67 #[.float .f32 x] w fun e w' => ∃ r n, e = .returned (.float .f32 r) ∧ Hid (av .f32 r = fconv .f64 .f32 (logW (fconv .f32 .f64 (av .f32 x)))) ∧ w' = w.drewN n := by
  have hfit := logW_fits x
  go_enter Try.func67, Try.ntmps67
  go_wp2_with (first | ((with_reducible apply wpList_fconv); (show FloatKind.f32 ≠ .f64; decide); exact Try.underlying23; exact Try.underlying34; rfl; exact fits_wide _; intro rr qq hrr) | (go_at_call 86; refine (logWide_any hrr.out _).mono ?_; rintro e w' ⟨r2, n2, rfl, hr2, rfl⟩) | (go_at_call 84; refine (l01Narrow_any hr2 hfit _).mono ?_; rintro e w' ⟨r3, n3, rfl, hr3, rfl⟩))
  go_ret
  exact rfl3 hr3 rfl
theorem specLog_any (x : Nat) (w : World) : Calls Try.prog 38 #[.float .f32 x] w fun e w' => ∃ r n, e = .returned (.float .f32 r) ∧ Hid (av .f32 r = fconv .f64 .f32 (logW (fconv .f32 .f64 (av .f32 x)))) ∧ w' = w.drewN n := by
  go_enter Try.func38, Try.ntmps38
  go_wp2_with (go_at_call 67; refine (specl01Log_any _ _).mono ?_; rintro e w' ⟨r3, n3, rfl, hr3, rfl⟩)
  go_ret
  exact rfl3 hr3 rfl
set_option maxRecDepth 100000 in
theorem implLog_any (x : Nat) (hx : (Lit.float .f32 x).wf = true) (w : World) : Calls Try.prog 39 #[.float .f32 x] w fun e w' => ∃ r n, e = .returned (.float .f32 r) ∧ Hid (av .f32 r = fconv .f64 .f32 (logW (fconv .f32 .f64 (av .f32 x)))) ∧ w' = w.drewN n := by
  have hN := ne_self .f32 x
  cases hd : FloatKind.f32.decode x with
  | nan s t =>
    have ha : av .f32 x = none := by unfold av; rw [hd]; rfl
    rw [ha] at hN ⊢
    have hN' : (FloatKind.f32.format.order x x != some .eq) = true := hN
    clear hN hd ha
    go_enter Try.func39, Try.ntmps39
    go_wp2_with (first | (go_at_call 68; refine (nan_any2 _).mono ?_; rintro e w' ⟨rfl, rfl⟩) | ((with_reducible apply wpList_fconv); (show FloatKind.f64 ≠ .f32; decide); exact Try.underlying34; exact Try.underlying23; rfl; exact (by rw [av_nan]; exact fits_none _ _); intro r n hr))
    go_ret
    refine ⟨_, _, rfl, ?_, rfl⟩
    show _ = _
    rw [hr.out, av_nan]; rfl
  | infinity s =>
    have hav : av .f32 x = some x := av_of_not (by rw [hd]; rfl)
    have hv : fconv .f32 .f64 (av .f32 x) = some (FloatKind.f64.encode (.infinity s)) := by
      rw [hav]
      show floatToFloatBits .f32 x .f64 = _
      unfold floatToFloatBits
      rw [if_neg (by decide), hd]
    rw [hv]
    rw [hav] at hN
    have hN' : (FloatKind.f32.format.order x x != some .eq) = false := hN
    have ho := ord0_inf hd
    cases s
    · obtain rfl := inf32 (wf32 hx) hd
      have hfin : finA .f32 (av .f32 2139095040) = false := by decide
      have hL : (FloatKind.f32.format.order 2139095040 0 == some .lt) = false := by decide
      have hE : (FloatKind.f32.format.order 2139095040 0 == some .eq) = false := by decide
      have HV := Lib.hid hav
      clear hN hd hav hv ho
      go_enter Try.func39, Try.ntmps39
      go_wp2_with (go_at_call 20; refine (implIsFinite_any _ _).mono ?_; rintro e w' ⟨n1, rfl, rfl⟩; rw [hfin])
      go_ret
      refine ⟨_, _, rfl, ?_, rfl⟩
      show _ = _
      rw [HV.out]; rfl
    · have hL : (FloatKind.f32.format.order x 0 == some .lt) = true := by rw [ho]; rfl
      clear hN hd hav hv ho
      go_enter Try.func39, Try.ntmps39
      go_wp2_with (first | (go_at_call 68; refine (nan_any2 _).mono ?_; rintro e w' ⟨rfl, rfl⟩) | ((with_reducible apply wpList_fconv); (show FloatKind.f64 ≠ .f32; decide); exact Try.underlying34; exact Try.underlying23; rfl; exact (by rw [av_nan]; exact fits_none _ _); intro r n hr))
      go_ret
      refine ⟨_, _, rfl, ?_, rfl⟩
      show _ = _
      rw [hr.out, av_nan]; rfl
  | number s m p =>
    have hav : av .f32 x = some x := av_of_not (by rw [hd]; rfl)
    have hfit := logW_fits x
    obtain ⟨y, m', p', hy, dy, h0, h1⟩ := wide_num hd
    rw [hav] at hN
    have hN' : (FloatKind.f32.format.order x x != some .eq) = false := hN
    have ho := ord0_num hd
    by_cases hm : m = 0
    · rw [if_pos hm] at ho
      have hL : (FloatKind.f32.format.order x 0 == some .lt) = false := by rw [ho]; rfl
      have hE : (FloatKind.f32.format.order x 0 == some .eq) = true := by rw [ho]; rfl
      have hW : Hid (logW (fconv .f32 .f64 (av .f32 x)) = some 18442240474082181120) := by
        show _ = _
        rw [hy]
        unfold logW
        rw [Option.bind_some, dy]
        dsimp only
        rw [if_pos (h0 hm)]
      have ha : av .f64 18442240474082181120 = some 18442240474082181120 := by decide
      have HA := Lib.hid ha
      have hf : Fits .f64 .f32 (some 18442240474082181120) := by rw [← hW.out]; exact hfit
      clear hN hd hav ho hm hy dy h0 h1 ha hfit
      go_enter Try.func39, Try.ntmps39
      go_wp2_with (first | (go_at_call 69; refine (inf_any _).mono ?_; rintro e w' ⟨rfl, rfl⟩) | ((with_reducible apply wpList_fconv); (show FloatKind.f64 ≠ .f32; decide); exact Try.underlying34; exact Try.underlying23; rfl; exact (by rw [HA.out]; exact hf); intro r n hr))
      go_ret
      refine ⟨_, _, rfl, ?_, rfl⟩
      show _ = _
      rw [hr.out, HA.out, hW.out]
    · obtain ⟨h2, h3, h4⟩ := h1 hm
      rw [if_neg hm] at ho
      cases s
      · have hL : (FloatKind.f32.format.order x 0 == some .lt) = false := by rw [ho]; rfl
        have hE : (FloatKind.f32.format.order x 0 == some .eq) = false := by rw [ho]; rfl
        have hfin : finA .f32 (av .f32 x) = true := fin32_yes hd
        have hlog := fun (z : Nat) (hz : av .f64 z = fconv .f32 .f64 (av .f32 x)) (w : World) => logarithm_any (x := z) (by rw [hz, hy]; exact ⟨y, m', p', rfl, dy, h3⟩) (by rw [hz, hy]; exact ⟨y, m', p', rfl, dy, h4⟩) w
        have hW : Hid (logW (fconv .f32 .f64 (av .f32 x)) = logZ (fconv .f32 .f64 (av .f32 x))) := by
          show _ = _
          rw [hy]
          unfold logW
          rw [Option.bind_some, dy]
          dsimp only
          rw [if_neg h2]
          rfl
        have hf : Fits .f64 .f32 (logZ (fconv .f32 .f64 (av .f32 x))) := by rw [← hW.out]; exact hfit
        clear hN hd hav ho hm hy dy h0 h1 h2 h3 h4 hfit
        go_enter Try.func39, Try.ntmps39
        go_wp2_with (first
          | (go_at_call 20; refine (implIsFinite_any _ _).mono ?_; rintro e w' ⟨n1, rfl, rfl⟩; rw [hfin])
          | ((with_reducible apply wpList_fconv); (show FloatKind.f32 ≠ .f64; decide); exact Try.underlying23; exact Try.underlying34; rfl; exact fits_wide _; intro rr qq hrr)
          | (go_at_call 70; refine (hlog _ hrr.out _).mono ?_; rintro e w' ⟨r2, n2, rfl, hr2, rfl⟩)
          | ((with_reducible apply wpList_fconv); (show FloatKind.f64 ≠ .f32; decide); exact Try.underlying34; exact Try.underlying23; rfl; exact (by rw [hr2.out, hrr.out]; exact hf); intro r n hr))
        go_ret
        refine ⟨_, _, rfl, ?_, rfl⟩
        show _ = _
        rw [hr.out, hr2.out, hrr.out, hW.out]
      · have hL : (FloatKind.f32.format.order x 0 == some .lt) = true := by rw [ho]; rfl
        have hW : Hid (logW (fconv .f32 .f64 (av .f32 x)) = none) := by
          show _ = _
          rw [hy]
          unfold logW
          rw [Option.bind_some, dy]
          dsimp only
          rw [if_neg h2]
          rfl
        clear hN hd hav ho hm hy dy h0 h1 h2 h3 h4 hfit
        go_enter Try.func39, Try.ntmps39
        go_wp2_with (first | (go_at_call 68; refine (nan_any2 _).mono ?_; rintro e w' ⟨rfl, rfl⟩) | ((with_reducible apply wpList_fconv); (show FloatKind.f64 ≠ .f32; decide); exact Try.underlying34; exact Try.underlying23; rfl; exact (by rw [av_nan]; exact fits_none _ _); intro r n hr))
        go_ret
        refine ⟨_, _, rfl, ?_, rfl⟩
        show _ = _
        rw [hr.out, av_nan, hW.out]
theorem lawLogNumber (x : Nat) (hx : (Lit.float .f32 x).wf = true) (w : World) :
    Calls Try.prog 13 #[.float .f32 x] w fun e w' => e = .returned (.bool true) ∧ Below w.heap.size w w' := by
  go_enter Try.func13, Try.ntmps13
  go_wp2_with (first | (go_at_call 38; refine (specLog_any _ _).mono ?_; rintro e w' ⟨ra, na, rfl, ha, rfl⟩) | (go_at_call 39; refine (implLog_any _ hx _).mono ?_; rintro e w' ⟨rb, nb, rfl, hb, rfl⟩) | ((with_reducible apply wpList_fconv); (show FloatKind.f32 ≠ .f64; decide); exact Try.underlying23; exact Try.underlying34; rfl; exact fits_wide _; intro r n hr) | (go_at_call 33; refine (sameFloat_alike _ _ (by simp only [Hid] at *; simp [*]) _).mono ?_; rintro e w' ⟨n, rfl, rfl⟩))
  go_ret
  exact ⟨rfl, below_drewN (Below.refl _ _) _⟩
end Go.Proofs.Ytdbpkkbijpppfaa
