/- The point of the unit circle at a number of turns: the law. -/
import Derived.Test.YtdbpkkbijpppfaaPw
import Derived.Test.YtdbpkkbijpppfaaA3
import Derived.Test.YtdbpkkbijpppfaaLx
import Derived.Laws.ComplexArith
namespace Go.Proofs.Ytdbpkkbijpppfaa
open Go.RowKit
open FT (Le2 Has)
set_option linter.unusedVariables false
set_option linter.unusedSimpArgs false
attribute [local go_sem] run_neg64 run_f64bits' run_f64frombits' run_f32frombits
/-- a float of the one kind, as one of the other: as what matters of it -/
theorem run_fconv0 {P : Program} (w : World) (s k : FloatKind) (b : Nat) (hne : s ≠ k) (hf : Fits s k (av s b)) : ∃ r n, (Conv.floatToFloat s b k).run P w = .ok (.float k r) (w.drewN n) ∧ av k r = fconv s k (av s b) := by
  cases hn : (s.decode b).isNaN
  · rw [av_of_not hn] at hf ⊢
    obtain ⟨r, hr⟩ := Option.isSome_iff_exists.1 (hf b rfl)
    refine ⟨r, 0, run_floatToFloat w hr, ?_⟩
    rw [av_of_not (floatToFloat_notNaN hn hr)]
    simp [fconv, hr]
  · have ha : av s b = none := by simp [av, hn]
    rw [ha]
    cases hd' : s.decode b with
    | nan sg fr =>
      refine ⟨Question.cut (.nanConv k b) (w.tape w.drawn (.nanConv k b)), 1, ?_, av_cutc k b _⟩
      simp [Conv.floatToFloat, hne, hd', choose, Sem.run, Question.forced]
      rfl
    | number a b c => rw [hd'] at hn; cases hn
    | infinity a => rw [hd'] at hn; cases hn
theorem run_cconv {P : Program} (w : World) (src dst : TypeId) (s k : FloatKind) (a b : Nat) (hne : s ≠ k) (hs : P.underlying src = some (.complex s)) (hd : P.underlying dst = some (.complex k)) (fa : Fits s k (av s a)) (fb : Fits s k (av s b)) :
    ∃ ra rb n, (convert src dst (.complex s a b)).run P w = .ok (.complex k ra rb) (w.drewN n) ∧ av k ra = fconv s k (av s a) ∧ av k rb = fconv s k (av s b) := by
  obtain ⟨ra, n1, h1, e1⟩ := run_fconv0 (P := P) w s k a hne fa
  obtain ⟨rb, n2, h2, e2⟩ := run_fconv0 (P := P) (w.drewN n1) s k b hne fb
  refine ⟨ra, rb, n1 + n2, ?_, e1, e2⟩
  simp [convert, run_underlying hs, run_underlying hd, Conv.complexToComplex, h1, h2]
theorem wpList_cconv {P : Program} {ops : Array Oper} {rest : List Oper} {Q : Exit → Act → World → Prop} {d : Tmp} {T src dst : TypeId} {pos : String} {after : Array Edge} {x : Operand} {a : Act} {w : World} {s k : FloatKind} {b c : Nat}
    (hne : s ≠ k) (hs : P.underlying src = some (.complex s)) (hd : P.underlying dst = some (.complex k)) (hx : a.eval x = .complex s b c) (fb : Fits s k (av s b)) (fc : Fits s k (av s c))
    (h : ∀ r1 r2 n, Hid (av k r1 = fconv s k (av s b)) → Hid (av k r2 = fconv s k (av s c)) → wpList P ops Q rest (a.put (some d) (.complex k r1 r2)) (w.drewN n)) :
    wpList P ops Q (⟨some d, .convert src dst x, T, pos, after, none⟩ :: rest) a w := by
  refine wpList_plain rfl fun K hK => ?_
  obtain ⟨r1, r2, n, hr, e1, e2⟩ := run_cconv (P := P) w src dst s k b c hne hs hd fb fc
  unfold Oper.wp execOp
  simp only [hx, Sem.run_bind, hr, Result.andThen_ok, Sem.run_pure]
  exact hK _ _ (h r1 r2 n e1 e2)
theorem sameComplex_alike {a b c d : Nat} (h1 : av .f64 a = av .f64 c) (h2 : av .f64 b = av .f64 d) (w : World) :
    Calls Try.prog 48 #[.complex .f64 a b, .complex .f64 c d] w fun e w' => ∃ n, e = .returned (.bool true) ∧ w' = w.drewN n := by
  have H1 := Lib.hid h1
  have H2 := Lib.hid h2
  clear h1 h2
  go_enter Try.func48, Try.ntmps48
  go_wp2_with (first
    | (go_at_call_of 33 (Value.float FloatKind.f64 a); refine (sameFloat_alike _ _ H1.out _).mono ?_; rintro e w' ⟨n1, rfl, rfl⟩)
    | (go_at_call_of 33 (Value.float FloatKind.f64 b); refine (sameFloat_alike _ _ H2.out _).mono ?_; rintro e w' ⟨n2, rfl, rfl⟩))
  go_ret
  exact ⟨_, rfl, rfl⟩
theorem implPhasor_far {x : Nat} (hx : x < 18446744073709551616) {s : Bool} {m : Nat} {p : Int} (dx : FloatKind.f64.decode x = .number s m p) (hfar : farB m p = true) (w : World) :
    Calls Try.prog 47 #[.float .f64 x] w fun e w' => ∃ n, e = .returned (.complex .f32 1065353216 0) ∧ w' = w.drewN n := by
  have hF := Lib.hid (fin64_yes dx)
  have hfr := fun w => isFar_any hx dx w
  rw [hfar] at hfr
  clear dx hfar
  go_enter Try.func47, Try.ntmps47
  go_wp2_with (first
    | (go_at_call 72; refine (isFinite_any _ _).mono ?_; rintro e w' ⟨n1, rfl, rfl⟩; rw [hF.out])
    | (go_at_call 73; refine (hfr _).mono ?_; rintro e w' ⟨rfl, rfl⟩))
  go_ret
  exact ⟨_, rfl, rfl⟩
theorem implPhasor_nan {x : Nat} (h : ∀ s m p, FloatKind.f64.decode x ≠ .number s m p) (w : World) :
    Calls Try.prog 47 #[.float .f64 x] w fun e w' => ∃ ra rb n, e = .returned (.complex .f32 ra rb) ∧ Hid (av .f32 ra = none) ∧ Hid (av .f32 rb = none) ∧ w' = w.drewN n := by
  have hF := Lib.hid (fin64_not h)
  clear h
  go_enter Try.func47, Try.ntmps47
  go_wp2_with (first
    | (go_at_call 72; refine (isFinite_any _ _).mono ?_; rintro e w' ⟨n1, rfl, rfl⟩; rw [hF.out])
    | (go_at_call 68; refine (nan_any2 _).mono ?_; rintro e w' ⟨rfl, rfl⟩)
    | (go_at_call 80; refine (narrowed_any (A := none) (B := none) av_nan av_nan (fits_none _ _) (fits_none _ _) _).mono ?_; rintro e w' ⟨ra, rb, nn, rfl, ha, hb, rfl⟩))
  go_ret
  exact ⟨_, _, _, rfl, ha, hb, rfl⟩
theorem l01From_nan (w : World) : Calls Try.prog 61 #[.int .i64 2143289344] w fun e w' => e = .returned (.float .f32 2143289344) ∧ w = w' := by
  go_enter Try.func61, Try.ntmps61
  go_wp2_with fail
  go_ret
  exact ⟨rfl, rfl⟩
theorem specPhasor_far {x : Nat} {s : Bool} {m : Nat} {p : Int} (dx : FloatKind.f64.decode x = .number s m p) (hf : farB m p = true) (w : World) :
    Calls Try.prog 79 #[.float .f64 x] w fun e w' => ∃ n, e = .returned (.complex .f32 1065353216 0) ∧ w' = w.drewN n := by
  have hsub : Hid (fop .sub .f64 (av .f64 x) (av .f64 x) = some 0) := by show _ = _; rw [av_num dx]; exact sub_self64 dx
  have hfar := far_two dx
  rw [hf] at hfar
  cases hA : (FloatKind.f64.format.order x 4841369599423283200 == some .gt || FloatKind.f64.format.order x 4841369599423283200 == some .eq)
  · rw [hA, Bool.false_or] at hfar
    clear dx hf
    go_enter Try.func79, Try.ntmps79
    go_upto_if 10 with ((with_reducible apply wpList_farith (op := .sub)); rfl; rfl; rfl; intro ra na ha)
    obtain ⟨rfl, _⟩ := av_some (ha.out.trans hsub.out)
    clear ha hsub
    go_wp2_with fail
    go_ret
    exact ⟨_, rfl, rfl⟩
  · clear dx hf hfar
    go_enter Try.func79, Try.ntmps79
    go_upto_if 10 with ((with_reducible apply wpList_farith (op := .sub)); rfl; rfl; rfl; intro ra na ha)
    obtain ⟨rfl, _⟩ := av_some (ha.out.trans hsub.out)
    clear ha hsub
    go_wp2_with fail
    go_ret
    exact ⟨_, rfl, rfl⟩
theorem specPhasor_nan {x : Nat} (h : ∀ s m p, FloatKind.f64.decode x ≠ .number s m p) (w : World) :
    Calls Try.prog 79 #[.float .f64 x] w fun e w' => ∃ n, e = .returned (.complex .f32 2143289344 2143289344) ∧ w' = w.drewN n := by
  have hsub := Lib.hid (fin64_not h)
  clear h
  go_enter Try.func79, Try.ntmps79
  go_upto_if 10 with ((with_reducible apply wpList_farith (op := .sub)); rfl; rfl; rfl; intro ra na ha)
  have hne2 : (FloatKind.f64.format.order ra 0 != some .eq) = true := by
    have hne : (FloatKind.f64.format.order ra 0 == some .eq) = false := by rw [order_ford, ha.out, av_0]; exact hsub.out
    rw [bne, hne]; rfl
  rw [hne2]
  go_wp2_with (go_at_call 61; refine (l01From_nan _).mono ?_; rintro e w' ⟨rfl, rfl⟩)
  go_ret
  exact ⟨_, rfl, rfl⟩
theorem specPhasorOf_of {x : Nat} {A B : Option Nat} (h : ∀ w, Calls Try.prog 79 #[.float .f64 x] w fun e w' => ∃ ra rb n, e = .returned (.complex .f32 ra rb) ∧ Hid (av .f32 ra = A) ∧ Hid (av .f32 rb = B) ∧ w' = w.drewN n) (w : World) :
    Calls Try.prog 46 #[.float .f64 x] w fun e w' => ∃ ra rb n, e = .returned (.complex .f32 ra rb) ∧ Hid (av .f32 ra = A) ∧ Hid (av .f32 rb = B) ∧ w' = w.drewN n := by
  go_enter Try.func46, Try.ntmps46
  go_wp2_with (go_at_call 79; refine (h _).mono ?_; rintro e w' ⟨ra, rb, n, rfl, ha, hb, rfl⟩)
  go_ret
  exact ⟨_, _, _, rfl, ha, hb, rfl⟩
theorem phasor_both {x : Nat} (hx : x < 18446744073709551616) : ∃ A B : Option Nat,
    (∀ w, Calls Try.prog 47 #[.float .f64 x] w fun e w' => ∃ ra rb n, e = .returned (.complex .f32 ra rb) ∧ Hid (av .f32 ra = A) ∧ Hid (av .f32 rb = B) ∧ w' = w.drewN n) ∧
    (∀ w, Calls Try.prog 46 #[.float .f64 x] w fun e w' => ∃ ra rb n, e = .returned (.complex .f32 ra rb) ∧ Hid (av .f32 ra = A) ∧ Hid (av .f32 rb = B) ∧ w' = w.drewN n) := by
  have a1 : av .f32 1065353216 = some 1065353216 := by decide
  have a2 : av .f32 2143289344 = none := by decide
  rcases num_or x with ⟨s, m, p, dx⟩ | hno
  · cases hf : farB m p
    · exact ⟨_, _, fun w => implPhasor_in hx dx hf w, specPhasorOf_of fun w => specPhasor_in dx hf w⟩
    · refine ⟨some 1065353216, some 0, fun w => (implPhasor_far hx dx hf w).mono ?_, specPhasorOf_of fun w => (specPhasor_far dx hf w).mono ?_⟩
      · rintro e w' ⟨n, rfl, rfl⟩
        exact ⟨_, _, n, rfl, by show _ = _; exact a1, by show _ = _; exact av_zero _, rfl⟩
      · rintro e w' ⟨n, rfl, rfl⟩
        exact ⟨_, _, n, rfl, by show _ = _; exact a1, by show _ = _; exact av_zero _, rfl⟩
  · refine ⟨none, none, fun w => implPhasor_nan hno w, specPhasorOf_of fun w => (specPhasor_nan hno w).mono ?_⟩
    rintro e w' ⟨n, rfl, rfl⟩
    exact ⟨_, _, n, rfl, by show _ = _; exact a2, by show _ = _; exact a2, rfl⟩
theorem lawPhasorOf (x : Nat) (hx : (Lit.float .f64 x).wf = true) (w : World) :
    Calls Try.prog 17 #[.float .f64 x] w fun e w' => e = .returned (.bool true) ∧ Below w.heap.size w w' := by
  have hlt : x < 18446744073709551616 := by simpa [Lit.wf] using hx
  obtain ⟨A, B, hi, hs⟩ := phasor_both hlt
  go_enter Try.func17, Try.ntmps17
  go_wp2_with (first
    | (go_at_call 46; refine (hs _).mono ?_; rintro e w' ⟨ra, rb, n1, rfl, ha, hb, rfl⟩)
    | (go_at_call 47; refine (hi _).mono ?_; rintro e w' ⟨rc, rd, n2, rfl, hc, hd, rfl⟩)
    | ((with_reducible apply wpList_cconv); (show FloatKind.f32 ≠ .f64; decide); exact Try.underlying39; exact Try.underlying42; rfl; exact fits_wide _; exact fits_wide _; intro r1 r2 n hr1 hr2)
    | (go_at_call 48; refine (sameComplex_alike (by simp only [Hid] at *; simp [*]) (by simp only [Hid] at *; simp [*]) _).mono ?_; rintro e w' ⟨n9, rfl, rfl⟩))
  go_ret
  exact ⟨rfl, below_drewN (Below.refl _ _) _⟩
end Go.Proofs.Ytdbpkkbijpppfaa
