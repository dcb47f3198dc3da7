/- The sine of a number of turns: the program's and the model's. -/
import Derived.Test.YtedpbidphajngaaDoorSw
import Derived.Test.YtedpbidphajngaaDoorFn
namespace Go.Proofs.YtedpbidphajngaaDoor
open Go.RowKit
set_option linter.unusedVariables false
set_option linter.unusedSimpArgs false
attribute [local go_sem] run_neg64 run_f64bits' run_f64frombits'
theorem ret_bool' {a b : Bool} (h : a = b) : Ending.returned (.bool a) = Ending.returned (.bool b) := by rw [h]
theorem isFinite_any (x : Nat) (w : World) : Calls Tryd.prog 80 #[.float .f64 x] w fun e w' => ∃ n, e = .returned (.bool (feq .f64 (fop .sub .f64 (av .f64 x) (av .f64 x)) (some 0))) ∧ w' = w.drewN n := by
  go_enter Tryd.func80, Tryd.ntmps80
  go_wp2_with ((with_reducible apply wpList_farith); rfl; rfl; rfl; intro r n hr)
  go_ret
  refine ⟨n, ?_, rfl⟩
  rw [order_ford, hr.out, av_0]
  rfl
theorem nan_any (w : World) : Calls Tryd.prog 77 #[] w fun e w' => e = .returned (.float .f64 9221120237041090561) ∧ w' = w := by
  go_enter Tryd.func77, Tryd.ntmps77
  go_wp2_with fail
  go_ret
  exact ⟨rfl, rfl⟩
theorem av_nan : av .f64 9221120237041090561 = none := by decide
theorem bits_abs (x : Nat) (hx : x < 18446744073709551616) : (bits .andNot .u64 (x : Int) 9223372036854775808).toNat = x % 9223372036854775808 := by
  have e2 : (BitVec.ofInt 64 (9223372036854775808 : Int)) = 9223372036854775808#64 := by decide
  have e1 : (BitVec.ofInt 64 (x : Int)) = BitVec.ofNat 64 x := BitVec.ofInt_natCast ..
  have h : bits .andNot .u64 (x : Int) 9223372036854775808 = IntKind.u64.wrap ((BitVec.ofInt 64 (x : Int) &&& ~~~ BitVec.ofInt 64 (9223372036854775808 : Int)).toNat : Int) := rfl
  rw [h, e1, e2]
  have e3 : (BitVec.ofNat 64 x &&& ~~~ 9223372036854775808#64).toNat = x % 9223372036854775808 := by
    rw [BitVec.toNat_and]
    have e4 : (~~~ 9223372036854775808#64).toNat = 2 ^ 63 - 1 := by decide
    rw [e4, BitVec.toNat_ofNat, Nat.mod_eq_of_lt (by omega), Nat.and_two_pow_sub_one_eq_mod]
  rw [e3]
  have : x % 9223372036854775808 < 9223372036854775808 := Nat.mod_lt _ (by omega)
  generalize x % 9223372036854775808 = y at *
  have : IntKind.u64.wrap (y : Int) = (y : Int) := by
    unfold IntKind.wrap
    simp [IntKind.signed, IntKind.bits]
    omega
  rw [this]; rfl
theorem abs_any (x : Nat) (hx : x < 18446744073709551616) (w : World) : Calls Tryd.prog 78 #[.float .f64 x] w fun e w' => e = .returned (.float .f64 (x % 9223372036854775808)) ∧ w' = w := by
  go_enter Tryd.func78, Tryd.ntmps78
  go_wp2_with fail
  go_ret
  exact ⟨by rw [← bits_abs x hx]; rfl, rfl⟩
theorem isFar_any {x : Nat} (hx : x < 18446744073709551616) {s : Bool} {m : Nat} {p : Int} (dx : FloatKind.f64.decode x = .number s m p) (w : World) : Calls Tryd.prog 81 #[.float .f64 x] w fun e w' => e = .returned (.bool (farB m p)) ∧ w' = w := by
  have H := Lib.hid (far_abs dx)
  go_enter Tryd.func81, Tryd.ntmps81
  go_wp2_with (go_at_call 78; refine (abs_any x hx _).mono ?_; rintro e w' ⟨rfl, rfl⟩)
  go_ret
  exact ⟨ret_bool' (by rw [← H.out]), rfl⟩
/-- the sine of a number of turns, whichever it is -/
def sineW (X : Option Nat) : Option Nat := X.bind fun x => match FloatKind.f64.decode x with
  | .number s m p => bif farB m p then some 0 else sineV (restF x s m p)
  | _ => none
theorem fits_zero : Fits .f64 .f32 (some 0) := fun b h => by injection h with h; subst h; decide
theorem sineW_fits (X : Option Nat) : Fits .f64 .f32 (sineW X) := by
  cases X with
  | none => exact fits_none _ _
  | some x =>
    unfold sineW
    rw [Option.bind_some]
    cases hd : FloatKind.f64.decode x with
    | nan s t => exact fits_none _ _
    | infinity s => exact fits_none _ _
    | number s m p =>
      dsimp only
      cases hf : farB m p
      · exact sineV_fits (restF_bd hd (far_not hf))
      · exact fits_zero
theorem sineW_num {x : Nat} {s : Bool} {m : Nat} {p : Int} (dx : FloatKind.f64.decode x = .number s m p) : sineW (av .f64 x) = bif farB m p then some 0 else sineV (restF x s m p) := by
  rw [av_num dx]
  unfold sineW
  rw [Option.bind_some, dx]
theorem sineW_not {x : Nat} (h : ∀ s m p, FloatKind.f64.decode x ≠ .number s m p) : sineW (av .f64 x) = none := by
  unfold av
  cases hd : FloatKind.f64.decode x with
  | number s m p => exact absurd hd (h s m p)
  | nan s t => rfl
  | infinity s =>
    unfold sineW
    simp only [Ieee.Datum.isNaN, Bool.false_eq_true, if_false, Option.bind_some, hd]
theorem num_or (x : Nat) : (∃ s m p, FloatKind.f64.decode x = .number s m p) ∨ ∀ s m p, FloatKind.f64.decode x ≠ .number s m p := by
  cases hd : FloatKind.f64.decode x with
  | number s m p => exact .inl ⟨s, m, p, rfl⟩
  | nan s t => exact .inr (fun _ _ _ h => by cases h)
  | infinity s => exact .inr (fun _ _ _ h => by cases h)
theorem wide_lt {b r : Nat} (hb : (Lit.float .f32 b).wf = true) (h : av .f64 r = fconv .f32 .f64 (av .f32 b)) (hn : ∃ s m p, FloatKind.f64.decode r = .number s m p) : r < 18446744073709551616 := by
  obtain ⟨s, m, p, d⟩ := hn
  rw [av_num d] at h
  cases ha : av .f32 b with
  | none => rw [ha] at h; cases h
  | some c =>
    rw [ha] at h
    obtain ⟨rfl, _⟩ := av_some ha
    have h2 : floatToFloatBits .f32 c .f64 = some r := h.symm
    have := floatToFloatBits_wf hb h2
    simpa [Lit.wf] using this
set_option maxRecDepth 100000 in
theorem implSine_any (x : Nat) (hx : (Lit.float .f32 x).wf = true) (w : World) : Calls Tryd.prog 46 #[.float .f32 x] w fun e w' => ∃ r n, e = .returned (.float .f32 r) ∧ Hid (av .f32 r = fconv .f64 .f32 (sineW (fconv .f32 .f64 (av .f32 x)))) ∧ w' = w.drewN n := by
  have hfit := sineW_fits (fconv .f32 .f64 (av .f32 x))
  go_enter Tryd.func46, Tryd.ntmps46
  go_upto_region 2 with ((with_reducible apply wpList_fconv); (show FloatKind.f32 ≠ .f64; decide); exact Tryd.underlying48; exact Tryd.underlying64; rfl; exact fits_wide _; intro rr qq hrr)
  rcases num_or rr with ⟨s, m, p, dx⟩ | hno
  · have hlt := wide_lt hx hrr.out ⟨s, m, p, dx⟩
    have hfin := fin64_yes dx
    have hW := sineW_num dx
    rw [hrr.out] at hW
    have HW := Lib.hid hW
    clear hW
    have HF := Lib.hid hfin
    clear hfin
    cases hfar : farB m p
    · have hsine := fun w => sine_any dx (far_not hfar) w
      have hV : Hid (sineW (fconv .f32 .f64 (av .f32 x)) = sineV (restF rr s m p)) := by show _ = _; rw [HW.out, hfar]; rfl
      go_wp2_with (first
        | (go_at_call 80; refine (isFinite_any _ _).mono ?_; rintro e w' ⟨n1, rfl, rfl⟩; rw [HF.out])
        | (go_at_call 81; refine (isFar_any hlt dx _).mono ?_; rintro e w' ⟨rfl, rfl⟩; rw [hfar])
        | (go_at_call 82; refine (hsine _).mono ?_; rintro e w' ⟨rs, n2, rfl, hrs, rfl⟩)
        | ((with_reducible apply wpList_fconv); (show FloatKind.f64 ≠ .f32; decide); exact Tryd.underlying64; exact Tryd.underlying48; rfl; exact (by rw [hrs.out, ← hV.out]; exact hfit); intro r n hr))
      go_ret
      refine ⟨_, _, rfl, ?_, rfl⟩
      show _ = _
      rw [hV.out, ← hrs.out, hr.out]
    · have hV : Hid (fconv .f64 .f32 (sineW (fconv .f32 .f64 (av .f32 x))) = some 0) := by show _ = _; rw [HW.out, hfar]; rfl
      go_wp2_with (first
        | (go_at_call 80; refine (isFinite_any _ _).mono ?_; rintro e w' ⟨n1, rfl, rfl⟩; rw [HF.out])
        | (go_at_call 81; refine (isFar_any hlt dx _).mono ?_; rintro e w' ⟨rfl, rfl⟩; rw [hfar]))
      go_ret
      refine ⟨_, _, rfl, ?_, rfl⟩
      show _ = _
      rw [hV.out, av_zero]
  · have HF := Lib.hid (fin64_not hno)
    have hV : Hid (sineW (fconv .f32 .f64 (av .f32 x)) = none) := by show _ = _; rw [← hrr.out]; exact sineW_not hno
    go_wp2_with (first
      | (go_at_call 80; refine (isFinite_any _ _).mono ?_; rintro e w' ⟨n1, rfl, rfl⟩; rw [HF.out])
      | (go_at_call 77; refine (nan_any _).mono ?_; rintro e w' ⟨rfl, rfl⟩)
      | ((with_reducible apply wpList_fconv); (show FloatKind.f64 ≠ .f32; decide); exact Tryd.underlying64; exact Tryd.underlying48; rfl; exact (by rw [av_nan]; exact fits_none _ _); intro r n hr))
    go_ret
    refine ⟨_, _, rfl, ?_, rfl⟩
    show _ = _
    rw [hV.out, hr.out, av_nan]
end Go.Proofs.YtedpbidphajngaaDoor
