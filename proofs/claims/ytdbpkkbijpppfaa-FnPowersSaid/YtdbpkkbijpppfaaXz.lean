/- Powers and logarithms lead to one another, nearly: the law. -/
import Derived.Test.YtdbpkkbijpppfaaXw
import Derived.Deep.RegionWith
namespace Go.Proofs.Ytdbpkkbijpppfaa
open Go.RowKit
set_option linter.unusedVariables false
set_option linter.unusedSimpArgs false
attribute [local go_sem] run_neg64 run_f64bits' run_f64frombits'
theorem e_parts {j : Nat} (h : j < 129) : av .f32 (eX j) = some (eX j) ∧ av .f32 (eE j) = some (eE j) ∧ floatToFloatBits .f32 (eX j) .f64 = some (wd (eX j)) ∧ floatToFloatBits .f32 (eE j) .f64 = some (wd (eE j)) ∧
    (FloatKind.f32.format.order (eX j) 1128792064 == some .gt) = false ∧ (FloatKind.f32.format.order (eX j) 3276275712 == some .lt) = false ∧ fconv .f64 .f32 (expW (some (wd (eX j)))) = some (eE j) ∧ (FloatKind.f32.format.order (eE j) 0 == some .gt) = true ∧ eE j < 4294967296 := by
  have := okE_all ⟨j, h⟩
  unfold okE at this
  simp only [Bool.and_eq_true, Bool.not_eq_true', beq_iff_eq, decide_eq_true_eq] at this
  obtain ⟨a, b, c, d, e, f, g, i, k⟩ := this
  exact ⟨a, b, c, d, e, f, g, by rw [i]; rfl, k⟩
theorem fits_of {X : Option Nat} {r : Nat} (h : fconv .f64 .f32 X = some r) : Fits .f64 .f32 X := by
  intro b hb
  rw [hb] at h
  have h2 : floatToFloatBits .f64 b .f32 = some r := h
  rw [h2]; rfl
theorem exp_at {j : Nat} (h : j < 129) (w : World) : Calls Try.prog 51 #[.float .f32 (eX j)] w fun e w' => ∃ n, e = .returned (.float .f32 (eE j)) ∧ w' = w.drewN n := by
  obtain ⟨a, b, c, d, e, f, g, _⟩ := e_parts h
  refine (exp_any (x := eX j) (Y := some (wd (eX j))) (by rw [a]; exact c) e f (fits_of g) w).mono ?_
  rintro e' w' ⟨r, n, he, hr, hw⟩
  have h2 := hr.out.trans g
  obtain ⟨rfl, _⟩ := av_some h2
  exact ⟨n, he, hw⟩
theorem l_parts {n : Nat} (h : n < 65) : fconv .f64 .f32 (logW (some (wd (eE (n + 32))))) = some (eL n) ∧ floatToFloatBits .f32 (eL n) .f64 = some (wd (eL n)) ∧ ∃ g, gapB (wd (eL n)) (wd (eX (n + 32))) = some g ∧ (FloatKind.f64.format.order g 4562254508917369340 == some .lt) = true := by
  have := okL_all ⟨n, h⟩
  unfold okL at this
  simp only [Bool.and_eq_true, beq_iff_eq] at this
  obtain ⟨a, b, c⟩ := this
  refine ⟨a, b, ?_⟩
  cases hg : gapB (wd (eL n)) (wd (eX (n + 32))) with
  | none => rw [hg] at c; cases c
  | some g => rw [hg] at c; exact ⟨g, rfl, c⟩
theorem log_at {n : Nat} (h : n < 65) (w : World) : Calls Try.prog 39 #[.float .f32 (eE (n + 32))] w fun e w' => ∃ k, e = .returned (.float .f32 (eL n)) ∧ w' = w.drewN k := by
  obtain ⟨_, b, _, d, _, _, _, _, k⟩ := e_parts (show n + 32 < 129 by omega)
  obtain ⟨a, _⟩ := l_parts h
  refine (implLog_any (eE (n + 32)) (by simp [Lit.wf, k]) w).mono ?_
  rintro e' w' ⟨r, q, he, hr, hw⟩
  have h2 : fconv .f32 .f64 (av .f32 (eE (n + 32))) = some (wd (eE (n + 32))) := by rw [b]; exact d
  rw [h2] at hr
  have h3 := hr.out.trans a
  obtain ⟨rfl, _⟩ := av_some h3
  exact ⟨q, he, hw⟩
theorem log_one (w : World) : Calls Try.prog 39 #[.float .f32 1065353216] w fun e w' => ∃ k, e = .returned (.float .f32 0) ∧ w' = w.drewN k := by
  refine (implLog_any 1065353216 (by decide) w).mono ?_
  rintro e' w' ⟨r, q, he, hr, hw⟩
  have h3 := hr.out.trans log1
  obtain ⟨rfl, _⟩ := av_some h3
  exact ⟨q, he, hw⟩
theorem exp_zero (w : World) : Calls Try.prog 51 #[.float .f32 0] w fun e w' => ∃ k, e = .returned (.float .f32 1065353216) ∧ w' = w.drewN k := by
  have := exp_at (j := 64) (by omega) w
  rw [exp0.1, exp0.2] at this
  exact this
theorem gap_any {x y g : Nat} (h : gapB x y = some g) (w : World) : Calls Try.prog 52 #[.float .f64 x, .float .f64 y] w fun e w' => e = .returned (.float .f64 g) ∧ w = w' := by
  unfold gapB at h
  cases hc : (FloatKind.f64.format.order x y == some .lt)
  · rw [hc] at h
    have hs := fun (W : World) => run_float_arith (P := Try.prog) W .sub 34 .f64 x y g h
    clear h
    go_enter Try.func52, Try.ntmps52
    go_wp2_with fail
    go_ret
    exact ⟨rfl, rfl⟩
  · rw [hc] at h
    have hs := fun (W : World) => run_float_arith (P := Try.prog) W .sub 34 .f64 y x g h
    clear h
    go_enter Try.func52, Try.ntmps52
    go_wp2_with fail
    go_ret
    exact ⟨rfl, rfl⟩
theorem b10At_any {A : Option Addr} {n c : Nat} {L : List Int} {w : World} (h : SL (Value.int .u8) 0 w A n L) (hw : ∀ x ∈ L, (Lit.int .u8 x).wf = true) (hn : n ≤ 1048576) :
    Calls Try.prog 50 #[.slice A n c, .int .i64 0, .int .i64 65] w fun e w' => (∃ v : Nat, v < 65 ∧ e = .returned (.int .i64 v)) ∧ w = w' := by
  by_cases h0 : 0 < n
  · obtain ⟨b, off, x, rfl, hb, hc, hx, _⟩ := h.at_ h0
    have hwx := hw x (List.mem_of_getElem? hx)
    have hr : 0 ≤ x ∧ x ≤ 255 := by
      simp only [Lit.wf, Bool.and_eq_true, decide_eq_true_eq] at hwx
      have e1 : IntKind.u8.min = 0 := by decide
      have e2 : IntKind.u8.max = 255 := by decide
      rw [e1, e2] at hwx
      exact hwx
    obtain ⟨r1, r2⟩ := hr
    have hlt : (0 : Int) < (n : Int) := by omega
    rw [Nat.add_zero] at hc
    clear h hw hx hwx
    go_enter Try.func50, Try.ntmps50
    go_wp2_with fail
    go_ret
    refine ⟨⟨(x % 65).toNat, by omega, ?_⟩, rfl⟩
    exact ret_int (by omega)
  · obtain rfl : n = 0 := by omega
    clear h hw
    go_enter Try.func50, Try.ntmps50
    go_wp2_with fail
    go_ret
    exact ⟨⟨11, by omega, rfl⟩, rfl⟩
theorem b10Long_any {A B : Option Addr} {n c m d : Nat} (hn : n ≤ maxLen) (hm : m ≤ maxLen) (w : World) : Calls Try.prog 49 #[.slice A n c, .slice B m d] w fun e w' => e = .returned (.bool (!decide (n ≤ 1048576 ∧ m ≤ 1048576))) ∧ w = w' := by
  have hmx : maxLen = 9223372036854775807 := by decide
  rw [hmx] at hn hm
  by_cases h1 : n ≤ 1048576
  · have e1 : decide ((1048576 : Int) < (n : Int)) = false := decide_eq_false (by omega)
    by_cases h2 : m ≤ 1048576
    · have e2 : decide ((1048576 : Int) < (m : Int)) = false := decide_eq_false (by omega)
      have H := Lib.hid (decide_eq_true (p := n ≤ 1048576 ∧ m ≤ 1048576) ⟨h1, h2⟩)
      go_enter Try.func49, Try.ntmps49
      go_wp2_with fail
      go_ret
      exact ⟨by rw [H.out]; rfl, rfl⟩
    · have e2 : decide ((1048576 : Int) < (m : Int)) = true := decide_eq_true (by omega)
      have H := Lib.hid (decide_eq_false (p := n ≤ 1048576 ∧ m ≤ 1048576) (fun h => h2 h.2))
      go_enter Try.func49, Try.ntmps49
      go_wp2_with fail
      go_ret
      exact ⟨by rw [H.out]; rfl, rfl⟩
  · have e1 : decide ((1048576 : Int) < (n : Int)) = true := decide_eq_true (by omega)
    have H := Lib.hid (decide_eq_false (p := n ≤ 1048576 ∧ m ≤ 1048576) (fun h => h1 h.1))
    go_enter Try.func49, Try.ntmps49
    go_wp2_with fail
    go_ret
    exact ⟨by rw [H.out]; rfl, rfl⟩
theorem m_parts {n m : Nat} (hn : n < 65) (hm : m < 65) : ∃ ab c g, FloatKind.f64.format.mul (wd (eE (n + 32))) (wd (eE (m + 32))) = some ab ∧ FloatKind.f64.format.mul 4562254508917369340 (wd (eE (n + m))) = some c ∧ gapB ab (wd (eE (n + m))) = some g ∧ (FloatKind.f64.format.order g c == some .lt) = true := by
  have := okM_all ⟨n, hn⟩ ⟨m, hm⟩
  unfold okM c001 at this
  dsimp only at this
  cases h1 : FloatKind.f64.format.mul (wd (eE (n + 32))) (wd (eE (m + 32))) with
  | none => rw [h1] at this; cases this
  | some ab =>
    rw [h1] at this
    dsimp only at this
    cases h2 : FloatKind.f64.format.mul 4562254508917369340 (wd (eE (n + m))) with
    | none => rw [h2] at this; cases this
    | some c =>
      rw [h2] at this
      dsimp only at this
      cases h3 : gapB ab (wd (eE (n + m))) with
      | none => rw [h3] at this; cases this
      | some g => rw [h3] at this; exact ⟨ab, c, g, rfl, rfl, h3, this⟩
theorem x_parts {n : Nat} (hn : n < 65) : floatBits .quo .f32 (floatOfInt .f32 ((n : Int) - 32)) 1090519040 = some (eX (n + 32)) := by
  have := okX_all ⟨n, hn⟩
  unfold okX at this
  simp only [Bool.and_eq_true, beq_iff_eq] at this
  obtain ⟨a, b⟩ := this
  rw [floatBits_fop]
  show fop .quo .f32 (av .f32 (FloatKind.f32.nearest ((n : Int) - 32))) (av .f32 1090519040) = _
  rw [b, show av .f32 1090519040 = some 1090519040 by decide]
  exact a
theorem s_parts {n m : Nat} (hn : n < 65) (hm : m < 65) : floatBits .add .f32 (eX (n + 32)) (eX (m + 32)) = some (eX (n + m)) := by
  have := okS_all ⟨n, hn⟩ ⟨m, hm⟩
  unfold okS at this
  rw [floatBits_fop, (e_parts (show n + 32 < 129 by omega)).1, (e_parts (show m + 32 < 129 by omega)).1]
  exact beq_iff_eq.1 this
set_option maxHeartbeats 1000000 in
set_option maxRecDepth 100000 in
theorem lawFnPowers (w : World) (A : Option Addr) (n c : Nat) (L : List Int) (ha : BArg w A n L) (B : Option Addr) (m d : Nat) (M : List Int) (hb : BArg w B m M) :
    Calls Try.prog 18 #[.slice A n c, .slice B m d] w fun e w' => e = .returned (.bool true) ∧ Below w.heap.size w w' := by
  obtain ⟨ha, ln, wa⟩ := ha
  obtain ⟨hb, lm, wb⟩ := hb
  by_cases hs : n ≤ 1048576 ∧ m ≤ 1048576
  rotate_left
  · have hl := fun w => b10Long_any (A := A) (B := B) (c := c) (d := d) ln lm w
    rw [decide_eq_false hs] at hl
    clear ha hb wa wb ln lm hs
    go_enter Try.func18, Try.ntmps18
    go_wp2_with (go_at_call 49; refine (hl _).mono ?_; rintro e w' ⟨rfl, rfl⟩)
    go_ret
    exact ⟨rfl, Below.refl _ _⟩
  have hl := fun w => b10Long_any (A := A) (B := B) (c := c) (d := d) ln lm w
  rw [decide_eq_true hs] at hl
  have bn := hs.1
  have bm := hs.2
  clear hs
  go_enter Try.func18, Try.ntmps18
  go_upto_region 3 with (go_at_call 49; refine (hl _).mono ?_; rintro e w' ⟨rfl, rfl⟩)
  go_wp2_with fail
  refine (b10At_any ha wa bn).mono ?_
  rintro e w' ⟨⟨i, hi, rfl⟩, rfl⟩
  have hq1 := fun (W : World) => run_float_arith (P := Try.prog) W .quo 23 .f32 (floatOfInt .f32 ((i : Int) - 32)) 1090519040 _ (x_parts hi)
  go_wp2_with fail
  refine (b10At_any hb wb bm).mono ?_
  rintro e w' ⟨⟨j, hj, rfl⟩, rfl⟩
  have hq2 := fun (W : World) => run_float_arith (P := Try.prog) W .quo 23 .f32 (floatOfInt .f32 ((j : Int) - 32)) 1090519040 _ (x_parts hj)
  have hadd := fun (W : World) => run_float_arith (P := Try.prog) W .add 23 .f32 (eX (i + 32)) (eX (j + 32)) _ (s_parts hi hj)
  clear ha hb wa wb hl
  have E1 := fun w => exp_at (j := i + 32) (by omega) w
  have E2 := fun w => exp_at (j := j + 32) (by omega) w
  have E3 := fun w => exp_at (j := i + j) (by omega) w
  have G1 := fun w => log_at hi w
  obtain ⟨_, l2, g, l3, l4⟩ := l_parts hi
  obtain ⟨ab, cc, g2, q1, q2, q3, q4⟩ := m_parts hi hj
  obtain ⟨_, _, x3, x4, _, _, _, x8, _⟩ := e_parts (show i + 32 < 129 by omega)
  obtain ⟨_, _, _, y4, _, _, _, _, _⟩ := e_parts (show j + 32 < 129 by omega)
  obtain ⟨_, _, _, z4, _, _, _, _, _⟩ := e_parts (show i + j < 129 by omega)
  have conv := fun (b r : Nat) (h : floatToFloatBits .f32 b .f64 = some r) (W : World) => run_convert_float_float (P := Try.prog) W 23 34 .f32 .f64 b r (by rw [Try.underlying23]; rfl) Try.underlying34 h
  have c1' := conv _ _ l2
  have c2' := conv _ _ x3
  have c3' := conv _ _ x4
  have c4' := conv _ _ y4
  have c5' := conv _ _ z4
  have m1 := fun (W : World) => run_float_arith (P := Try.prog) W .mul 34 .f64 (wd (eE (i + 32))) (wd (eE (j + 32))) ab q1
  have m2 := fun (W : World) => run_float_arith (P := Try.prog) W .mul 34 .f64 4562254508917369340 (wd (eE (i + j))) cc q2
  have P1 := fun w => gap_any l3 w
  have P2 := fun w => gap_any q3 w
  have o1 : (FloatKind.f32.format.order 1065353216 1065353216 == some .eq) = true := by decide
  have o2 : (FloatKind.f32.format.order 0 0 == some .eq) = true := by decide
  clear l2 l3 q1 q2 q3 x3 x4 y4 z4 conv
  generalize eX (i + 32) = X1 at *
  generalize eX (j + 32) = X2 at *
  generalize eX (i + j) = X3 at *
  generalize eE (i + 32) = A1 at *
  generalize eE (j + 32) = A2 at *
  generalize eE (i + j) = A3 at *
  generalize eL i = L1 at *
  generalize wd L1 = W1 at *
  go_wp2_with (first
    | (go_at_call_of 51 (Value.float FloatKind.f32 X1); refine (E1 _).mono ?_; rintro e w' ⟨k1, rfl, rfl⟩)
    | (go_at_call_of 51 (Value.float FloatKind.f32 X2); refine (E2 _).mono ?_; rintro e w' ⟨k2, rfl, rfl⟩)
    | (go_at_call_of 51 (Value.float FloatKind.f32 X3); refine (E3 _).mono ?_; rintro e w' ⟨k3, rfl, rfl⟩)
    | (go_at_call_of 51 (Value.float FloatKind.f32 0); refine (exp_zero _).mono ?_; rintro e w' ⟨k4, rfl, rfl⟩)
    | (go_at_call_of 39 (Value.float FloatKind.f32 A1); refine (G1 _).mono ?_; rintro e w' ⟨k5, rfl, rfl⟩)
    | (go_at_call_of 39 (Value.float FloatKind.f32 1065353216); refine (log_one _).mono ?_; rintro e w' ⟨k6, rfl, rfl⟩)
    | (go_at_call_of 52 (Value.float FloatKind.f64 W1); refine (P1 _).mono ?_; rintro e w' ⟨rfl, rfl⟩)
    | (go_at_call_of 52 (Value.float FloatKind.f64 ab); refine (P2 _).mono ?_; rintro e w' ⟨rfl, rfl⟩))
  go_ret
  exact ⟨rfl, below_drewN (Below.refl _ _) _⟩
end Go.Proofs.Ytdbpkkbijpppfaa
