/- The angle of a point in turns: the law. -/
import Derived.Test.YtdbpkkbijpppfaaAw
namespace Go.Proofs.Ytdbpkkbijpppfaa
open Go.RowKit
open FT (Le2 Has)
set_option linter.unusedVariables false
set_option linter.unusedSimpArgs false
attribute [local go_sem] run_neg64 run_f64bits' run_f64frombits'
theorem fin32_num {x : Nat} (h : finA .f32 (av .f32 x) = true) : ∃ s m p, FloatKind.f32.decode x = .number s m p := by
  cases hd : FloatKind.f32.decode x with
  | number s m p => exact ⟨s, m, p, rfl⟩
  | nan s t =>
    have : av .f32 x = none := by unfold av; rw [hd]; rfl
    rw [this] at h; cases h
  | infinity s =>
    exfalso
    have ha : av .f32 x = some x := av_of_not (by rw [hd]; rfl)
    have hr : FloatKind.f32.format.read x = .infinity s := hd
    rw [ha] at h
    unfold finA fop floatBits at h
    simp only [Ieee.Format.sub, hr] at h
    cases s <;> simp [Ieee.Datum.sum, Ieee.Datum.opposite, feq, ford] at h
theorem wide_not {y r : Nat} (h : finA .f32 (av .f32 y) = false) (hr : av .f64 r = fconv .f32 .f64 (av .f32 y)) : ∀ s m p, FloatKind.f64.decode r ≠ .number s m p := by
  intro s m p d
  rw [av_num d] at hr
  cases hd : FloatKind.f32.decode y with
  | number s m p => rw [fin32_yes hd] at h; cases h
  | nan s t =>
    have : av .f32 y = none := by unfold av; rw [hd]; rfl
    rw [this] at hr; cases hr
  | infinity t =>
    have hv : fconv .f32 .f64 (av .f32 y) = some (FloatKind.f64.encode (.infinity t)) := by
      rw [av_of_not (by rw [hd]; rfl)]
      show floatToFloatBits .f32 y .f64 = _
      unfold floatToFloatBits
      rw [if_neg (by decide), hd]
    rw [hv] at hr
    injection hr with hr
    subst hr
    have : FloatKind.f64.decode (FloatKind.f64.encode (.infinity t)) = .infinity t := by cases t <;> decide
    rw [this] at d; cases d
theorem upon_farith {P : Program} {o : Oper} {a : Act} {K : Act → World → Prop} {Q : Exit → Act → World → Prop} {op : BinOp} {t : TypeId} {k : FloatKind} {bx bz : Nat} {w : World} (hop : arithOp op = true)
    (h : ∀ r n, Hid (av k r = fop op k (av k bx) (av k bz)) → Oper.upon P o a K Q (Result.ok (Next.value (.float k r)) (w.drewN n))) :
    Oper.upon P o a K Q ((Sem.run P (binOp op t (.float k bx) (.float k bz)) w).andThen fun a w' => Result.ok (Next.value a) w') := by
  obtain ⟨r, n, hr, he⟩ := run_farith (P := P) w op hop t k bx bz
  rw [hr]
  exact h r n he
theorem ne_of_not {x r : Nat} (h : ∀ s m p, FloatKind.f64.decode x ≠ .number s m p) (hr : av .f64 r = fop .sub .f64 (av .f64 x) (av .f64 x)) : (FloatKind.f64.format.order r 0 != some .eq) = true := by
  have hne : (FloatKind.f64.format.order r 0 == some .eq) = false := by rw [order_ford, hr, av_0]; exact fin64_not h
  rw [bne, hne]; rfl
theorem angleWide_nan1 {yw xw : Nat} (h : ∀ s m p, FloatKind.f64.decode yw ≠ .number s m p) (w : World) :
    Calls Try.prog 90 #[.float .f64 yw, .float .f64 xw] w fun e w' => ∃ r n, e = .returned (.float .f64 r) ∧ Hid (av .f64 r = none) ∧ w' = w.drewN n := by
  have hn := fun r => ne_of_not (r := r) h
  clear h
  go_enter Try.func90, Try.ntmps90
  go_wp2_with (first
    | (((with_reducible apply wpList_farith (op := .sub)); rfl; rfl; rfl; intro ra na ha); have hne := hn _ ha.out)
    | (go_at_call 68; refine (nan_any2 _).mono ?_; rintro e w' ⟨rfl, rfl⟩))
  go_ret
  refine ⟨_, _, rfl, ?_, rfl⟩
  show _ = _
  exact av_nan
theorem angleWide_nan2 {yw xw : Nat} (sy : fop .sub .f64 (av .f64 yw) (av .f64 yw) = some 0) (h : ∀ s m p, FloatKind.f64.decode xw ≠ .number s m p) (w : World) :
    Calls Try.prog 90 #[.float .f64 yw, .float .f64 xw] w fun e w' => ∃ r n, e = .returned (.float .f64 r) ∧ Hid (av .f64 r = none) ∧ w' = w.drewN n := by
  have hsy := fun (W : World) => run_float_arith (P := Try.prog) W .sub 34 .f64 yw yw 0 (by rw [floatBits_fop]; exact sy)
  have hn := fun r => ne_of_not (r := r) h
  clear h sy
  go_enter Try.func90, Try.ntmps90
  go_wp2_with (first
    | (refine upon_farith rfl (fun ra na ha => ?_); have hne := hn _ ha.out)
    | (go_at_call 68; refine (nan_any2 _).mono ?_; rintro e w' ⟨rfl, rfl⟩))
  go_ret
  refine ⟨_, _, rfl, ?_, rfl⟩
  show _ = _
  exact av_nan
theorem angleWide_zero {yw xw : Nat} (sy : fop .sub .f64 (av .f64 yw) (av .f64 yw) = some 0) (sx : fop .sub .f64 (av .f64 xw) (av .f64 xw) = some 0)
    (hz1 : (FloatKind.f64.format.order xw 0 == some .eq) = true) (hz : (FloatKind.f64.format.order yw 0 == some .eq) = true) (w : World) :
    Calls Try.prog 90 #[.float .f64 yw, .float .f64 xw] w fun e w' => ∃ r n, e = .returned (.float .f64 r) ∧ Hid (av .f64 r = some 0) ∧ w' = w.drewN n := by
  have hsy := fun (W : World) => run_float_arith (P := Try.prog) W .sub 34 .f64 yw yw 0 (by rw [floatBits_fop]; exact sy)
  have hsx := fun (W : World) => run_float_arith (P := Try.prog) W .sub 34 .f64 xw xw 0 (by rw [floatBits_fop]; exact sx)
  clear sy sx
  go_enter Try.func90, Try.ntmps90
  go_wp2_with fail
  go_ret
  exact ⟨_, 0, rfl, by show _ = _; exact av_0, rfl⟩
theorem implAngle_nan {y x : Nat} (h : finA .f32 (av .f32 x) = false ∨ (finA .f32 (av .f32 x) = true ∧ finA .f32 (av .f32 y) = false)) (w : World) :
    Calls Try.prog 45 #[.float .f32 y, .float .f32 x] w fun e w' => ∃ r n, e = .returned (.float .f32 r) ∧ Hid (av .f32 r = fconv .f64 .f32 none) ∧ w' = w.drewN n := by
  rcases h with fx | ⟨fx, fy⟩
  · go_enter Try.func45, Try.ntmps45
    go_wp2_with (first
      | (go_at_call 20; refine (implIsFinite_any _ _).mono ?_; rintro e w' ⟨n1, rfl, rfl⟩; rw [fx])
      | (go_at_call 68; refine (nan_any2 _).mono ?_; rintro e w' ⟨rfl, rfl⟩)
      | ((with_reducible apply wpList_fconv); (show FloatKind.f64 ≠ .f32; decide); exact Try.underlying34; exact Try.underlying23; rfl; exact (by rw [av_nan]; exact fits_none _ _); intro r n hr))
    go_ret
    refine ⟨_, _, rfl, ?_, rfl⟩
    show _ = _
    rw [hr.out, av_nan]
  · go_enter Try.func45, Try.ntmps45
    go_wp2_with (first
      | (go_at_call 20; refine (implIsFinite_any _ _).mono ?_; rintro e w' ⟨n1, rfl, rfl⟩; first | rw [fx] | rw [fy])
      | (go_at_call 68; refine (nan_any2 _).mono ?_; rintro e w' ⟨rfl, rfl⟩)
      | ((with_reducible apply wpList_fconv); (show FloatKind.f64 ≠ .f32; decide); exact Try.underlying34; exact Try.underlying23; rfl; exact (by rw [av_nan]; exact fits_none _ _); intro r n hr))
    go_ret
    refine ⟨_, _, rfl, ?_, rfl⟩
    show _ = _
    rw [hr.out, av_nan]
theorem implAngle_zero {y x : Nat} (fx : finA .f32 (av .f32 x) = true) (fy : finA .f32 (av .f32 y) = true) (hz1 : (FloatKind.f32.format.order x 0 == some .eq) = true) (hz : (FloatKind.f32.format.order y 0 == some .eq) = true) (w : World) :
    Calls Try.prog 45 #[.float .f32 y, .float .f32 x] w fun e w' => ∃ r n, e = .returned (.float .f32 r) ∧ Hid (av .f32 r = fconv .f64 .f32 (some 0)) ∧ w' = w.drewN n := by
  go_enter Try.func45, Try.ntmps45
  go_wp2_with (go_at_call 20; refine (implIsFinite_any _ _).mono ?_; rintro e w' ⟨n1, rfl, rfl⟩; first | rw [fx] | rw [fy])
  go_ret
  refine ⟨_, _, rfl, ?_, rfl⟩
  show _ = _
  decide
theorem specAngle_of {y x : Nat} {R : Option Nat} (hf : Fits .f64 .f32 R) (HW : ∀ yw xw, av .f64 yw = fconv .f32 .f64 (av .f32 y) → av .f64 xw = fconv .f32 .f64 (av .f32 x) → ∀ w, Calls Try.prog 90 #[.float .f64 yw, .float .f64 xw] w fun e w' => ∃ r n, e = .returned (.float .f64 r) ∧ Hid (av .f64 r = R) ∧ w' = w.drewN n) (w : World) :
    Calls Try.prog 44 #[.float .f32 y, .float .f32 x] w fun e w' => ∃ r n, e = .returned (.float .f32 r) ∧ Hid (av .f32 r = fconv .f64 .f32 R) ∧ w' = w.drewN n := by
  have h2 : ∀ w, Calls Try.prog 77 #[.float .f32 y, .float .f32 x] w fun e w' => ∃ r n, e = .returned (.float .f32 r) ∧ Hid (av .f32 r = fconv .f64 .f32 R) ∧ w' = w.drewN n := by
    intro w
    go_enter Try.func77, Try.ntmps77
    go_upto_region 1 with fail
    go_wp2_with (first
      | ((with_reducible apply wpList_fconv); (show FloatKind.f32 ≠ .f64; decide); exact Try.underlying23; exact Try.underlying34; rfl; exact fits_wide _; intro _ _ _)
      | (go_at_call 90; rename_i ry ny hy rx nx hx _ _; refine (HW _ _ hy.out hx.out _).mono ?_; rintro e w' ⟨r2, n2, rfl, hr2, rfl⟩)
      | (go_at_call 84; refine (l01Narrow_any hr2 hf _).mono ?_; rintro e w' ⟨r3, n3, rfl, hr3, rfl⟩))
    go_ret
    exact ⟨_, _, rfl, hr3, rfl⟩
  go_enter Try.func44, Try.ntmps44
  go_wp2_with (go_at_call 77; refine (h2 _).mono ?_; rintro e w' ⟨r3, n3, rfl, hr3, rfl⟩)
  go_ret
  exact rfl3 hr3 rfl
theorem zero_same {x xw m m' : Nat} {s : Bool} {p p' : Int} (d : FloatKind.f32.decode x = .number s m p) (d' : FloatKind.f64.decode xw = .number s m' p') (h0 : m = 0 → m' = 0) (h1 : m ≠ 0 → m' ≠ 0) :
    FloatKind.f64.format.order xw 0 = FloatKind.f32.format.order x 0 := by
  rw [ord0_num d, ord0_num d']
  by_cases hm : m = 0
  · rw [if_pos hm, if_pos (h0 hm)]
  · rw [if_neg hm, if_neg (h1 hm)]
theorem eq_zero {x m : Nat} {s : Bool} {p : Int} (d : FloatKind.f32.decode x = .number s m p) : (FloatKind.f32.format.order x 0 == some .eq) = decide (m = 0) := by
  rw [ord0_num d]
  by_cases hm : m = 0
  · rw [if_pos hm, decide_eq_true hm]; rfl
  · rw [if_neg hm, decide_eq_false hm]; cases s <;> rfl
/-- both give one number -/
theorem angle_both {y x : Nat} (hy : (Lit.float .f32 y).wf = true) (hx : (Lit.float .f32 x).wf = true) : ∃ V : Option Nat,
    (∀ w, Calls Try.prog 45 #[.float .f32 y, .float .f32 x] w fun e w' => ∃ r n, e = .returned (.float .f32 r) ∧ Hid (av .f32 r = V) ∧ w' = w.drewN n) ∧
    (∀ w, Calls Try.prog 44 #[.float .f32 y, .float .f32 x] w fun e w' => ∃ r n, e = .returned (.float .f32 r) ∧ Hid (av .f32 r = V) ∧ w' = w.drewN n) := by
  cases fy : finA .f32 (av .f32 y)
  · refine ⟨fconv .f64 .f32 none, implAngle_nan ?_, specAngle_of (fits_none _ _) fun yw xw h1 h2 w => angleWide_nan1 (wide_not fy h1) w⟩
    cases fx : finA .f32 (av .f32 x)
    · exact .inl rfl
    · exact .inr ⟨rfl, fy⟩
  obtain ⟨s, m, p, dy⟩ := fin32_num fy
  obtain ⟨yw, my, py, ey, dyw, y0, y1⟩ := wide_num dy
  have hys : ∀ z, av .f64 z = fconv .f32 .f64 (av .f32 y) → z = yw := fun z hz => (av_some (hz.trans ey)).1.symm
  have sy : fop .sub .f64 (av .f64 yw) (av .f64 yw) = some 0 := by rw [av_num dyw]; exact sub_self64 dyw
  cases fx : finA .f32 (av .f32 x)
  · refine ⟨fconv .f64 .f32 none, implAngle_nan (.inl fx), specAngle_of (fits_none _ _) fun zw xw h1 h2 w => ?_⟩
    obtain rfl := hys _ h1
    exact angleWide_nan2 sy (wide_not fx h2) w
  obtain ⟨t, n, q, dx⟩ := fin32_num fx
  obtain ⟨xw, mx, px, ex, dxw, x0, x1⟩ := wide_num dx
  have hxs : ∀ z, av .f64 z = fconv .f32 .f64 (av .f32 x) → z = xw := fun z hz => (av_some (hz.trans ex)).1.symm
  have sx : fop .sub .f64 (av .f64 xw) (av .f64 xw) = some 0 := by rw [av_num dxw]; exact sub_self64 dxw
  have oy := zero_same dy dyw y0 fun h => (y1 h).1
  have ox := zero_same dx dxw x0 fun h => (x1 h).1
  have ly : yw < 18446744073709551616 := wide_lt hy ((av_num dyw).trans ey.symm) ⟨_, _, _, dyw⟩
  have lx : xw < 18446744073709551616 := wide_lt hx ((av_num dxw).trans ex.symm) ⟨_, _, _, dxw⟩
  have day := dec_abs dyw
  have dax := dec_abs dxw
  have aya := av_num day
  have axa := av_num dax
  by_cases hnx : n = 0
  · have ez1 : (FloatKind.f32.format.order x 0 == some .eq) = true := by rw [eq_zero dx, decide_eq_true hnx]
    by_cases hny : m = 0
    · have ez : (FloatKind.f32.format.order y 0 == some .eq) = true := by rw [eq_zero dy, decide_eq_true hny]
      refine ⟨fconv .f64 .f32 (some 0), implAngle_zero fx fy ez1 ez, specAngle_of fits_zero fun zy zx h1 h2 w => ?_⟩
      obtain rfl := hys _ h1
      obtain rfl := hxs _ h2
      exact angleWide_zero sy sx (by rw [ox]; exact ez1) (by rw [oy]; exact ez) w
    · have ez : (FloatKind.f32.format.order y 0 == some .eq) = false := by rw [eq_zero dy, decide_eq_false hny]
      have hf := angQ_pb day dax (.inl (y1 hny).1)
      refine ⟨_, implAngle_y fy fx ey ex ly lx aya axa rfl rfl hf rfl rfl ez1 ez, specAngle_of (angV_fits _ _ _ hf) fun zy zx h1 h2 w => ?_⟩
      obtain rfl := hys _ h1
      obtain rfl := hxs _ h2
      exact angleWide_y sy sx ly lx aya axa rfl rfl (by rw [ox]) (by rw [oy]) (by rw [ox]; exact ez1) (by rw [oy]; exact ez) w
  · have ez : (FloatKind.f32.format.order x 0 == some .eq) = false := by rw [eq_zero dx, decide_eq_false hnx]
    have hf := angQ_pb day dax (.inr (x1 hnx).1)
    refine ⟨_, implAngle_x fy fx ey ex ly lx aya axa rfl rfl hf rfl rfl ez, specAngle_of (angV_fits _ _ _ hf) fun zy zx h1 h2 w => ?_⟩
    obtain rfl := hys _ h1
    obtain rfl := hxs _ h2
    exact angleWide_x sy sx ly lx aya axa rfl rfl (by rw [ox]) (by rw [oy]) (by rw [ox]; exact ez) w
theorem lawAngleTurns (y : Nat) (hy : (Lit.float .f32 y).wf = true) (x : Nat) (hx : (Lit.float .f32 x).wf = true) (w : World) :
    Calls Try.prog 16 #[.float .f32 y, .float .f32 x] w fun e w' => e = .returned (.bool true) ∧ Below w.heap.size w w' := by
  obtain ⟨V, hi, hs⟩ := angle_both hy hx
  go_enter Try.func16, Try.ntmps16
  go_wp2_with (first | (go_at_call 44; refine (hs _).mono ?_; rintro e w' ⟨ra, na, rfl, ha, rfl⟩) | (go_at_call 45; refine (hi _).mono ?_; rintro e w' ⟨rb, nb, rfl, hb, rfl⟩) | ((with_reducible apply wpList_fconv); (show FloatKind.f32 ≠ .f64; decide); exact Try.underlying23; exact Try.underlying34; rfl; exact fits_wide _; intro r n hr) | (go_at_call 33; refine (sameFloat_alike _ _ (by simp only [Hid] at *; simp [*]) _).mono ?_; rintro e w' ⟨n, rfl, rfl⟩))
  go_ret
  exact ⟨rfl, below_drewN (Below.refl _ _) _⟩
end Go.Proofs.Ytdbpkkbijpppfaa
