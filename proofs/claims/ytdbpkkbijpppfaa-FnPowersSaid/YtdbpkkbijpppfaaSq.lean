/- Square roots: the program's and the model's. -/
import Derived.Test.YtdbpkkbijpppfaaB
import Derived.Test.YtdbpkkbijpppfaaLg
namespace Go.Proofs.Ytdbpkkbijpppfaa
open Go.RowKit
set_option linter.unusedVariables false
set_option linter.unusedSimpArgs false

theorem run_sqrt_raw (x : Nat) (w : World) : (callFunc 85 #[.float .f64 x]).run Try.prog w = ((match FloatKind.f64.format.sqrt x with | some r => pure (.float .f64 r) | none => do pure (.float .f64 (← choose (.nanBits .f64 x x))) : Sem Value) >>= fun v => pure (.value v)).run Try.prog w := by kernel_rfl
theorem fsqrt_av (x : Nat) : fsqrt (av .f64 x) = FloatKind.f64.format.sqrt x := by
  unfold av
  cases hn : (FloatKind.f64.decode x).isNaN
  · rfl
  · unfold FloatKind.decode at hn
    simp only [if_true, fsqrt, Option.bind_none]
    unfold Ieee.Format.sqrt
    cases hd : FloatKind.f64.format.read x with
    | nan s t => simp [Ieee.Datum.root]
    | number s m p => rw [hd] at hn; cases hn
    | infinity s => rw [hd] at hn; cases hn
theorem run_sqrt (x : Nat) (w : World) : ∃ r n, (callFunc 85 #[.float .f64 x]).run Try.prog w = .ok (.value (.float .f64 r)) (w.drewN n) ∧ av .f64 r = fsqrt (av .f64 x) := by
  rw [fsqrt_av]
  cases h : FloatKind.f64.format.sqrt x with
  | some r =>
    refine ⟨r, 0, ?_, av_of_not (sqrt_notNaN h)⟩
    rw [run_sqrt_raw]
    simp [h]
    rfl
  | none =>
    refine ⟨Question.cut (.nanBits .f64 x x) (w.tape w.drawn (.nanBits .f64 x x)), 1, ?_, av_cut .f64 x x _⟩
    rw [run_sqrt_raw]
    simp [h, choose, Sem.run, Question.forced]
    rfl
theorem sqrt_any (x : Nat) (w : World) : Calls Try.prog 66 #[.float .f64 x] w fun e w' => ∃ r n, e = .returned (.float .f64 r) ∧ Hid (av .f64 r = fsqrt (av .f64 x)) ∧ w' = w.drewN n := by
  obtain ⟨r, n, hr, he⟩ := run_sqrt x w
  have HE := Lib.hid he
  clear he
  go_enter Try.func66, Try.ntmps66
  go_wp2_with fail
  go_ret
  exact ⟨r, n, rfl, HE, rfl⟩
theorem rfl3 {r : Nat} {n : Nat} {X : Option Nat} {w w' : World} (hr : Hid (av .f32 r = X)) (hw : w' = w.drewN n) : ∃ r' n', Ending.returned (Value.float .f32 r) = Ending.returned (Value.float .f32 r') ∧ Hid (av .f32 r' = X) ∧ w' = w.drewN n' := ⟨r, n, rfl, hr, hw⟩
/-- what both give -/
def rootV (x : Nat) : Option Nat := fconv .f64 .f32 (fsqrt (fconv .f32 .f64 (av .f32 x)))
theorem implRoot_any (x : Nat) (w : World) : Calls Try.prog 37 #[.float .f32 x] w fun e w' => ∃ r n, e = .returned (.float .f32 r) ∧ Hid (av .f32 r = rootV x) ∧ w' = w.drewN n := by
  have hf := fits_root x
  go_enter Try.func37, Try.ntmps37
  go_wp2_with (first | ((with_reducible apply wpList_fconv); (show FloatKind.f32 ≠ .f64; decide); exact Try.underlying23; exact Try.underlying34; rfl; exact fits_wide _; intro rr qq hrr) | (go_at_call 66; refine (sqrt_any _ _).mono ?_; rintro e w' ⟨r2, n2, rfl, hr2, rfl⟩) | ((with_reducible apply wpList_fconv); (show FloatKind.f64 ≠ .f32; decide); exact Try.underlying34; exact Try.underlying23; rfl; exact (by rw [hr2.out, hrr.out]; exact hf); intro r n hr))
  go_ret
  refine rfl3 ?_ rfl
  show _ = _
  rw [hr.out, hr2.out, hrr.out]; rfl
theorem l01Narrow_any {x : Nat} {X : Option Nat} (hx : Hid (av .f64 x = X)) (hf : Fits .f64 .f32 X) (w : World) : Calls Try.prog 84 #[.float .f64 x] w fun e w' => ∃ r n, e = .returned (.float .f32 r) ∧ Hid (av .f32 r = fconv .f64 .f32 X) ∧ w' = w.drewN n := by
  go_enter Try.func84, Try.ntmps84
  go_wp2_with ((with_reducible apply wpList_fconv); (show FloatKind.f64 ≠ .f32; decide); exact Try.underlying34; exact Try.underlying23; rfl; exact (by rw [hx.out]; exact hf); intro r n hr)
  go_ret
  refine rfl3 ?_ rfl
  show _ = _
  rw [hr.out, hx.out]
theorem l01Sqrt_any (x : Nat) (w : World) : Calls Try.prog 65 #[.float .f32 x] w fun e w' => ∃ r n, e = .returned (.float .f32 r) ∧ Hid (av .f32 r = rootV x) ∧ w' = w.drewN n := by
  have hf := fits_root x
  go_enter Try.func65, Try.ntmps65
  go_wp2_with (first | ((with_reducible apply wpList_fconv); (show FloatKind.f32 ≠ .f64; decide); exact Try.underlying23; exact Try.underlying34; rfl; exact fits_wide _; intro r n hr) | (go_at_call 66; refine (sqrt_any _ _).mono ?_; rintro e w' ⟨r2, n2, rfl, hr2, rfl⟩) | (go_at_call 84; refine (l01Narrow_any (X := fsqrt (fconv .f32 .f64 (av .f32 x))) (by show _ = _; rw [hr2.out, hr.out]) hf _).mono ?_; rintro e w' ⟨r3, n3, rfl, hr3, rfl⟩))
  go_ret
  exact rfl3 hr3 rfl
theorem specRoot_any (x : Nat) (w : World) : Calls Try.prog 36 #[.float .f32 x] w fun e w' => ∃ r n, e = .returned (.float .f32 r) ∧ Hid (av .f32 r = rootV x) ∧ w' = w.drewN n := by
  go_enter Try.func36, Try.ntmps36
  go_wp2_with (go_at_call 65; refine (l01Sqrt_any _ _).mono ?_; rintro e w' ⟨r3, n3, rfl, hr3, rfl⟩)
  go_ret
  exact rfl3 hr3 rfl
theorem lawRootNumber (x : Nat) (hx : (Lit.float .f32 x).wf = true) (w : World) :
    Calls Try.prog 12 #[.float .f32 x] w fun e w' => e = .returned (.bool true) ∧ Below w.heap.size w w' := by
  go_enter Try.func12, Try.ntmps12
  go_wp2_with (first | (go_at_call 36; refine (specRoot_any _ _).mono ?_; rintro e w' ⟨ra, na, rfl, ha, rfl⟩) | (go_at_call 37; refine (implRoot_any _ _).mono ?_; rintro e w' ⟨rb, nb, rfl, hb, rfl⟩) | ((with_reducible apply wpList_fconv); (show FloatKind.f32 ≠ .f64; decide); exact Try.underlying23; exact Try.underlying34; rfl; exact fits_wide _; intro r n hr) | (go_at_call 33; refine (sameFloat_alike _ _ (by simp only [Hid] at *; simp [*]) _).mono ?_; rintro e w' ⟨n, rfl, rfl⟩))
  go_ret
  exact ⟨rfl, below_drewN (Below.refl _ _) _⟩
end Go.Proofs.Ytdbpkkbijpppfaa
