/- The angle of a point in turns: the law. -/
import Derived.Test.YtedpbidphajngaaDoorAw
namespace Go.Proofs.YtedpbidphajngaaDoor
open Go.RowKit
open FT (Le2 Has)
set_option linter.unusedVariables false
set_option linter.unusedSimpArgs false
attribute [local go_sem] run_neg64 run_f64bits' run_f64frombits'
theorem fin32_num {x : Nat} (h : finA .f32 (av .f32 x) = true) : ∃ s m p, FloatKind.f32.decode x = .number s m p := by
  cases hd : FloatKind.f32.decode x with
  | number s m p => exact ⟨s, m, p, rfl⟩
  | nan s t =>
    have : av .f32 x = none := by unfold av; rw [hd]; rfl
    rw [this] at h; cases h
  | infinity s =>
    exfalso
    have ha : av .f32 x = some x := av_of_not (by rw [hd]; rfl)
    have hr : FloatKind.f32.format.read x = .infinity s := hd
    rw [ha] at h
    unfold finA fop floatBits at h
    simp only [Ieee.Format.sub, hr] at h
    cases s <;> simp [Ieee.Datum.sum, Ieee.Datum.opposite, feq, ford] at h
theorem wide_not {y r : Nat} (h : finA .f32 (av .f32 y) = false) (hr : av .f64 r = fconv .f32 .f64 (av .f32 y)) : ∀ s m p, FloatKind.f64.decode r ≠ .number s m p := by
  intro s m p d
  rw [av_num d] at hr
  cases hd : FloatKind.f32.decode y with
  | number s m p => rw [fin32_yes hd] at h; cases h
  | nan s t =>
    have : av .f32 y = none := by unfold av; rw [hd]; rfl
    rw [this] at hr; cases hr
  | infinity t =>
    have hv : fconv .f32 .f64 (av .f32 y) = some (FloatKind.f64.encode (.infinity t)) := by
      rw [av_of_not (by rw [hd]; rfl)]
      show floatToFloatBits .f32 y .f64 = _
      unfold floatToFloatBits
      rw [if_neg (by decide), hd]
    rw [hv] at hr
    injection hr with hr
    subst hr
    have : FloatKind.f64.decode (FloatKind.f64.encode (.infinity t)) = .infinity t := by cases t <;> decide
    rw [this] at d; cases d
theorem upon_farith {P : Program} {o : Oper} {a : Act} {K : Act → World → Prop} {Q : Exit → Act → World → Prop} {op : BinOp} {t : TypeId} {k : FloatKind} {bx bz : Nat} {w : World} (hop : arithOp op = true)
    (h : ∀ r n, Hid (av k r = fop op k (av k bx) (av k bz)) → Oper.upon P o a K Q (Result.ok (Next.value (.float k r)) (w.drewN n))) :
    Oper.upon P o a K Q ((Sem.run P (binOp op t (.float k bx) (.float k bz)) w).andThen fun a w' => Result.ok (Next.value a) w') := by
  obtain ⟨r, n, hr, he⟩ := run_farith (P := P) w op hop t k bx bz
  rw [hr]
  exact h r n he
theorem ne_of_not {x r : Nat} (h : ∀ s m p, FloatKind.f64.decode x ≠ .number s m p) (hr : av .f64 r = fop .sub .f64 (av .f64 x) (av .f64 x)) : (FloatKind.f64.format.order r 0 != some .eq) = true := by
  have hne : (FloatKind.f64.format.order r 0 == some .eq) = false := by rw [order_ford, hr, av_0]; exact fin64_not h
  rw [bne, hne]; rfl
theorem implAngle_nan {y x : Nat} (h : finA .f32 (av .f32 x) = false ∨ (finA .f32 (av .f32 x) = true ∧ finA .f32 (av .f32 y) = false)) (w : World) :
    Calls Tryd.prog 43 #[.float .f32 y, .float .f32 x] w fun e w' => ∃ r n, e = .returned (.float .f32 r) ∧ Hid (av .f32 r = fconv .f64 .f32 none) ∧ w' = w.drewN n := by
  rcases h with fx | ⟨fx, fy⟩
  · go_enter Tryd.func43, Tryd.ntmps43
    go_wp2_with (first
      | (go_at_call 76; refine (implIsFinite_any _ _).mono ?_; rintro e w' ⟨n1, rfl, rfl⟩; rw [fx])
      | (go_at_call 77; refine (nan_any2 _).mono ?_; rintro e w' ⟨rfl, rfl⟩)
      | ((with_reducible apply wpList_fconv); (show FloatKind.f64 ≠ .f32; decide); exact Tryd.underlying64; exact Tryd.underlying48; rfl; exact (by rw [av_nan]; exact fits_none _ _); intro r n hr))
    go_ret
    refine ⟨_, _, rfl, ?_, rfl⟩
    show _ = _
    rw [hr.out, av_nan]
  · go_enter Tryd.func43, Tryd.ntmps43
    go_wp2_with (first
      | (go_at_call 76; refine (implIsFinite_any _ _).mono ?_; rintro e w' ⟨n1, rfl, rfl⟩; first | rw [fx] | rw [fy])
      | (go_at_call 77; refine (nan_any2 _).mono ?_; rintro e w' ⟨rfl, rfl⟩)
      | ((with_reducible apply wpList_fconv); (show FloatKind.f64 ≠ .f32; decide); exact Tryd.underlying64; exact Tryd.underlying48; rfl; exact (by rw [av_nan]; exact fits_none _ _); intro r n hr))
    go_ret
    refine ⟨_, _, rfl, ?_, rfl⟩
    show _ = _
    rw [hr.out, av_nan]
theorem implAngle_zero {y x : Nat} (fx : finA .f32 (av .f32 x) = true) (fy : finA .f32 (av .f32 y) = true) (hz1 : (FloatKind.f32.format.order x 0 == some .eq) = true) (hz : (FloatKind.f32.format.order y 0 == some .eq) = true) (w : World) :
    Calls Tryd.prog 43 #[.float .f32 y, .float .f32 x] w fun e w' => ∃ r n, e = .returned (.float .f32 r) ∧ Hid (av .f32 r = fconv .f64 .f32 (some 0)) ∧ w' = w.drewN n := by
  go_enter Tryd.func43, Tryd.ntmps43
  go_wp2_with (go_at_call 76; refine (implIsFinite_any _ _).mono ?_; rintro e w' ⟨n1, rfl, rfl⟩; first | rw [fx] | rw [fy])
  go_ret
  refine ⟨_, _, rfl, ?_, rfl⟩
  show _ = _
  decide
theorem zero_same {x xw m m' : Nat} {s : Bool} {p p' : Int} (d : FloatKind.f32.decode x = .number s m p) (d' : FloatKind.f64.decode xw = .number s m' p') (h0 : m = 0 → m' = 0) (h1 : m ≠ 0 → m' ≠ 0) :
    FloatKind.f64.format.order xw 0 = FloatKind.f32.format.order x 0 := by
  rw [ord0_num d, ord0_num d']
  by_cases hm : m = 0
  · rw [if_pos hm, if_pos (h0 hm)]
  · rw [if_neg hm, if_neg (h1 hm)]
theorem eq_zero {x m : Nat} {s : Bool} {p : Int} (d : FloatKind.f32.decode x = .number s m p) : (FloatKind.f32.format.order x 0 == some .eq) = decide (m = 0) := by
  rw [ord0_num d]
  by_cases hm : m = 0
  · rw [if_pos hm, decide_eq_true hm]; rfl
  · rw [if_neg hm, decide_eq_false hm]; cases s <;> rfl
end Go.Proofs.YtedpbidphajngaaDoor
