/- Tenths of decibels: the program's and the model's, and the law. -/
import Derived.Test.YtdbpkkbijpppfaaLz
namespace Go.Proofs.Ytdbpkkbijpppfaa
open Go.RowKit
open FT (Le2 Has)
set_option linter.unusedVariables false
set_option linter.unusedSimpArgs false
attribute [local go_sem] run_neg64 run_f64bits' run_f64frombits'
/-- the whole number that is not above a float, as a float -/
def floorB (t : Nat) : Nat := FloatKind.f64.encode ((FloatKind.f64.decode t).integral .down)
theorem run_floor_raw (x : Nat) (w : World) : (callFunc 88 #[.float .f64 x]).run Try.prog w = (Extern.MathFloor.toIntegral "math.archFloor" .down #[.float .f64 x] >>= fun v => pure (.value v)).run Try.prog w := by kernel_rfl
theorem run_floor {x : Nat} {s : Bool} {m : Nat} {p : Int} (dx : FloatKind.f64.decode x = .number s m p) (w : World) : (callFunc 88 #[.float .f64 x]).run Try.prog w = .ok (.value (.float .f64 (floorB x))) w := by
  rw [run_floor_raw]
  have : Extern.MathFloor.toIntegral "math.archFloor" .down #[.float .f64 x] = (pure (.float .f64 (floorB x)) : Sem Value) := by
    unfold floorB
    show (match FloatKind.f64.decode x with | .nan s t => _ | d => _) = _
    rw [dx]
  rw [this]
  rfl
theorem floor_any {t : Nat} (h : Bd .f64 47 (av .f64 t)) (w : World) : Calls Try.prog 76 #[.float .f64 t] w fun e w' => e = .returned (.float .f64 (floorB t)) ∧ w = w' := by
  obtain ⟨b, s, m, p, h1, d, l⟩ := h
  obtain ⟨rfl, _⟩ := av_some h1
  have h := fun w => run_floor d w
  clear d l h1
  go_enter Try.func76, Try.ntmps76
  go_wp2_with fail
  go_ret
  exact ⟨rfl, rfl⟩
theorem down_cut (s : Bool) (n drop K : Nat) (h : n ≤ K * 2 ^ drop) : Ieee.Toward.down.cut s n drop ≤ K + 1 := by
  unfold Ieee.Toward.cut
  dsimp only
  rw [Nat.shiftLeft_eq, Nat.one_mul]
  have hb := Bool.toNat_le (s && n % 2 ^ min drop (n.log2 + 2) != 0)
  have hq : n / 2 ^ min drop (n.log2 + 2) ≤ K := by
    rcases Nat.lt_or_ge (n.log2 + 2) drop with hd | hd
    · rw [Nat.min_eq_right (by omega)]
      have hlt : n < 2 ^ (n.log2 + 1) := Nat.lt_log2_self
      have h1 : 2 ^ (n.log2 + 1) ≤ 2 ^ (n.log2 + 2) := Nat.pow_le_pow_right (by omega) (by omega)
      rw [Nat.div_eq_of_lt (by omega)]; omega
    · rw [Nat.min_eq_left hd, Nat.div_le_iff_le_mul (Nat.two_pow_pos _)]
      have := Nat.two_pow_pos drop
      omega
  omega
theorem floor_val {t : Nat} (h : Bd .f64 47 (some t)) : ∃ n, floatToIntVal .f64 (floorB t) .i64 = some n := by
  obtain ⟨b, s, m, p, h1, d, l⟩ := h
  injection h1 with h1
  subst h1
  have hi : (FloatKind.f64.decode t).integral .down = .number s (Ieee.Toward.down.cut s (m <<< p.toNat) (-p).toNat) 0 := by rw [d]; rfl
  have hk : Ieee.Toward.down.cut s (m <<< p.toNat) (-p).toNat ≤ 2 ^ 47 + 1 := by
    apply down_cut
    rw [Nat.shiftLeft_eq]
    rcases Int.le_total 0 p with h | h
    · have := l 0 h (by omega)
      rw [show (-p).toNat = 0 by omega]
      simpa using this
    · have := l p (Int.le_refl _) (by omega)
      rw [show (p - p).toNat = 0 by omega, Nat.pow_zero, Nat.mul_one, Nat.one_mul, show (47 - p).toNat = 47 + (-p).toNat by omega, Nat.pow_add] at this
      rw [show p.toNat = 0 by omega, Nat.pow_zero, Nat.mul_one]
      exact this
  generalize Ieee.Toward.down.cut s (m <<< p.toNat) (-p).toNat = c at *
  have hc : Le2 c 0 1 48 := Le2.of (B := 0) (by omega) (by omega) (by
    rw [show ((0 : Int) - 0).toNat = 0 by omega, Nat.pow_zero, Nat.mul_one, Nat.one_mul]
    have : (2 : Nat) ^ ((48 : Int) - 0).toNat = 2 ^ 48 := rfl
    rw [this]; omega)
  obtain ⟨m', p', h2, h3⟩ := write_bd (k := .f64) (s := s) (has64 (by omega) (by omega)) hc
  have h4 : FloatKind.f64.decode (floorB t) = .number s m' p' := by unfold floorB; rw [hi]; exact h2
  exact ⟨_, toInt_val h4 (show Low m' p' from h3.mono (by omega))⟩
/-- the tenths -/
def tenT (V : Option Nat) : Option Nat := fop .add .f64 (fop .mul .f64 V (some 4631308968768463603)) (some ch)
def tenI (V : Option Nat) : Int := match tenT V with
  | some t => (floatToIntVal .f64 (floorB t) .i64).getD 0
  | none => 0
theorem av_43 : av .f64 4631308968768463603 = some 4631308968768463603 := by decide
theorem pb_43 : Pb .f64 6 (some 4631308968768463603) := pb_num (m := 6112151458964211) (p := -47) (by decide) (by omega) (by decide)
theorem tenT_bd {V : Option Nat} (h : Bd .f64 40 V) : Bd .f64 47 (tenT V) :=
  (bd_add (a := 40 + 6) (b := -1) (has64 (by omega) (by omega)) (bd_mul (has64 (by omega) (by omega)) h pb_43.bd) pb_ch.bd).mono (by omega)
theorem conv_ten {t : Nat} {V : Option Nat} (h : av .f64 t = tenT V) (hb : Bd .f64 40 V) (W : World) : Sem.run Try.prog (convert 34 2 (.float .f64 (floorB t))) W = .ok (.int .i64 (tenI V)) W := by
  have h1 := tenT_bd hb
  rw [← h] at h1
  obtain ⟨b, s, m, p, e, d, l⟩ := h1
  obtain ⟨rfl, _⟩ := av_some e
  obtain ⟨n, hn⟩ := floor_val (t := b) ⟨b, s, m, p, rfl, d, l⟩
  have hv : tenI V = n := by unfold tenI; rw [← h, e]; simp only; rw [hn]; rfl
  rw [hv]
  exact run_convert_float_int W _ _ .f64 .i64 _ n (by rw [Try.underlying34]; rfl) Try.underlying2 hn
set_option maxRecDepth 100000 in
theorem implTenths_in {x : Nat} (hfin : finA .f32 (av .f32 x) = true) (hL : (FloatKind.f32.format.order x 0 == some .lt || FloatKind.f32.format.order x 0 == some .eq) = false)
    (hP : Pb .f64 128 (fconv .f32 .f64 (av .f32 x))) (hG : Ge .f64 (-149) (fconv .f32 .f64 (av .f32 x))) (w : World) :
    Calls Try.prog 43 #[.float .f32 x] w fun e w' => ∃ n, e = .returned (.tuple #[.int .i64 (tenI (logZ (fconv .f32 .f64 (av .f32 x)))), .bool true]) ∧ w' = w.drewN n := by
  have hb := logZ_bd hP hG
  have HP := fun (z : Nat) (hz : av .f64 z = fconv .f32 .f64 (av .f32 x)) (w : World) => logarithm_any (x := z) (by rw [hz]; exact hP) (by rw [hz]; exact hG) w
  generalize hY : fconv .f32 .f64 (av .f32 x) = Y at *
  have HY := Lib.hid hY
  clear hP hG hY
  go_enter Try.func43, Try.ntmps43
  go_wp2_with (first
    | (go_at_call 20; refine (implIsFinite_any _ _).mono ?_; rintro e w' ⟨n1, rfl, rfl⟩; rw [hfin])
    | ((with_reducible apply wpList_fconv); (show FloatKind.f32 ≠ .f64; decide); exact Try.underlying23; exact Try.underlying34; rfl; exact fits_wide _; intro rr qq hrr)
    | (go_at_call 70; refine (HP _ (hrr.out.trans HY.out) _).mono ?_; rintro e w' ⟨r2, n2, rfl, hr2, rfl⟩)
    | ((with_reducible apply wpList_farith (op := .mul)); rfl; rfl; rfl; intro r14 m14 h14)
    | ((with_reducible apply wpList_farith (op := .add)); rfl; rfl; rfl; intro r15 m15 h15)
    | (go_at_call 76
       have hT : av .f64 r15 = tenT (logZ Y) := by rw [h15.out, h14.out, hr2.out, hrr.out, HY.out, av_43, av_chn]; rfl
       refine (floor_any (by rw [hT]; exact tenT_bd hb) _).mono ?_
       rintro e w' ⟨rfl, rfl⟩
       have hc := conv_ten hT hb))
  go_ret2
  exact ⟨_, rfl, rfl⟩
/-- whether a power has tenths -/
def tenB (x : Nat) : Bool := finA .f32 (av .f32 x) && !(FloatKind.f32.format.order x 0 == some .lt || FloatKind.f32.format.order x 0 == some .eq)
theorem implTenths_out {x : Nat} (h : tenB x = false) (w : World) :
    Calls Try.prog 43 #[.float .f32 x] w fun e w' => ∃ n, e = .returned (.tuple #[.int .i64 0, .bool false]) ∧ w' = w.drewN n := by
  unfold tenB at h
  cases hfin : finA .f32 (av .f32 x)
  · clear h
    go_enter Try.func43, Try.ntmps43
    go_wp2_with (go_at_call 20; refine (implIsFinite_any _ _).mono ?_; rintro e w' ⟨n1, rfl, rfl⟩; rw [hfin])
    go_ret2
    exact ⟨_, rfl, rfl⟩
  · have hL : (FloatKind.f32.format.order x 0 == some .lt || FloatKind.f32.format.order x 0 == some .eq) = true := by
      rw [hfin, Bool.true_and, Bool.not_eq_false'] at h; exact h
    clear h
    go_enter Try.func43, Try.ntmps43
    go_wp2_with (go_at_call 20; refine (implIsFinite_any _ _).mono ?_; rintro e w' ⟨n1, rfl, rfl⟩; rw [hfin])
    go_ret2
    exact ⟨_, rfl, rfl⟩
theorem specTenths_out {x : Nat} (h : tenB x = false) (w : World) :
    Calls Try.prog 42 #[.float .f32 x] w fun e w' => ∃ n, e = .returned (.tuple #[.int .i64 0, .bool false]) ∧ w' = w.drewN n := by
  unfold tenB at h
  cases hfin : finA .f32 (av .f32 x)
  · clear h
    go_enter Try.func42, Try.ntmps42
    go_wp2_with (go_at_call 53; refine (specl01Finite_any _ _).mono ?_; rintro e w' ⟨n1, rfl, rfl⟩; rw [hfin])
    go_ret2
    exact ⟨_, rfl, rfl⟩
  · have hL : (FloatKind.f32.format.order x 0 == some .lt || FloatKind.f32.format.order x 0 == some .eq) = true := by
      rw [hfin, Bool.true_and, Bool.not_eq_false'] at h; exact h
    clear h
    go_enter Try.func42, Try.ntmps42
    go_wp2_with (go_at_call 53; refine (specl01Finite_any _ _).mono ?_; rintro e w' ⟨n1, rfl, rfl⟩; rw [hfin])
    go_ret2
    exact ⟨_, rfl, rfl⟩
theorem l01Tenths_in {x : Nat} (hW : logW (fconv .f32 .f64 (av .f32 x)) = logZ (fconv .f32 .f64 (av .f32 x)))
    (hP : Pb .f64 128 (fconv .f32 .f64 (av .f32 x))) (hG : Ge .f64 (-149) (fconv .f32 .f64 (av .f32 x))) (w : World) :
    Calls Try.prog 75 #[.float .f32 x] w fun e w' => ∃ n, e = .returned (.int .i64 (tenI (logZ (fconv .f32 .f64 (av .f32 x))))) ∧ w' = w.drewN n := by
  have hb := logZ_bd hP hG
  have HP := fun (z : Nat) (hz : av .f64 z = fconv .f32 .f64 (av .f32 x)) (w : World) => logWide_any hz w
  generalize hY : fconv .f32 .f64 (av .f32 x) = Y at *
  have HY := Lib.hid hY
  have HW := Lib.hid hW
  clear hP hG hY hW
  go_enter Try.func75, Try.ntmps75
  go_wp2_with (first
    | ((with_reducible apply wpList_fconv); (show FloatKind.f32 ≠ .f64; decide); exact Try.underlying23; exact Try.underlying34; rfl; exact fits_wide _; intro rr qq hrr)
    | (go_at_call 86; refine (HP _ (hrr.out.trans HY.out) _).mono ?_; rintro e w' ⟨r2, n2, rfl, hr2, rfl⟩)
    | ((with_reducible apply wpList_farith (op := .mul)); rfl; rfl; rfl; intro r14 m14 h14)
    | ((with_reducible apply wpList_farith (op := .add)); rfl; rfl; rfl; intro r15 m15 h15)
    | (go_at_call 76
       have hT : av .f64 r15 = tenT (logZ Y) := by rw [h15.out, h14.out, hr2.out, HW.out, av_43, av_chn]; rfl
       refine (floor_any (by rw [hT]; exact tenT_bd hb) _).mono ?_
       rintro e w' ⟨rfl, rfl⟩
       have hc := conv_ten hT hb))
  go_ret
  exact ⟨_, rfl, rfl⟩
theorem specTenths_in {x : Nat} (hfin : finA .f32 (av .f32 x) = true) (hL : (FloatKind.f32.format.order x 0 == some .lt || FloatKind.f32.format.order x 0 == some .eq) = false) (hW : logW (fconv .f32 .f64 (av .f32 x)) = logZ (fconv .f32 .f64 (av .f32 x)))
    (hP : Pb .f64 128 (fconv .f32 .f64 (av .f32 x))) (hG : Ge .f64 (-149) (fconv .f32 .f64 (av .f32 x))) (w : World) :
    Calls Try.prog 42 #[.float .f32 x] w fun e w' => ∃ n, e = .returned (.tuple #[.int .i64 (tenI (logZ (fconv .f32 .f64 (av .f32 x)))), .bool true]) ∧ w' = w.drewN n := by
  have HP := fun (w : World) => l01Tenths_in hW hP hG w
  clear hW hP hG
  go_enter Try.func42, Try.ntmps42
  go_wp2_with (first
    | (go_at_call 53; refine (specl01Finite_any _ _).mono ?_; rintro e w' ⟨n1, rfl, rfl⟩; rw [hfin])
    | (go_at_call 75; refine (HP _).mono ?_; rintro e w' ⟨n2, rfl, rfl⟩))
  go_ret2
  exact ⟨_, rfl, rfl⟩
theorem ten_parts {x : Nat} (h : tenB x = true) : finA .f32 (av .f32 x) = true ∧ (FloatKind.f32.format.order x 0 == some .lt || FloatKind.f32.format.order x 0 == some .eq) = false ∧ logW (fconv .f32 .f64 (av .f32 x)) = logZ (fconv .f32 .f64 (av .f32 x)) ∧ Pb .f64 128 (fconv .f32 .f64 (av .f32 x)) ∧ Ge .f64 (-149) (fconv .f32 .f64 (av .f32 x)) := by
  unfold tenB at h
  rw [Bool.and_eq_true, Bool.not_eq_true'] at h
  obtain ⟨hf, hL⟩ := h
  refine ⟨hf, hL, ?_⟩
  cases hd : FloatKind.f32.decode x with
  | nan s t =>
    have : av .f32 x = none := by unfold av; rw [hd]; rfl
    rw [this] at hf; cases hf
  | infinity s =>
    exfalso
    have ha : av .f32 x = some x := av_of_not (by rw [hd]; rfl)
    have hr : FloatKind.f32.format.read x = .infinity s := hd
    rw [ha] at hf
    unfold finA fop floatBits at hf
    simp only [Ieee.Format.sub, hr] at hf
    cases s <;> simp [Ieee.Datum.sum, Ieee.Datum.opposite, feq, ford] at hf
  | number s m p =>
    obtain ⟨y, m', p', hy, dy, h0, h1⟩ := wide_num hd
    rw [ord0_num hd] at hL
    by_cases hm : m = 0
    · rw [if_pos hm] at hL; cases hL
    · rw [if_neg hm] at hL
      cases s
      · obtain ⟨h2, h3, h4⟩ := h1 hm
        rw [hy]
        refine ⟨?_, ⟨y, m', p', rfl, dy, h3⟩, ⟨y, m', p', rfl, dy, h4⟩⟩
        unfold logW
        rw [Option.bind_some, dy]
        dsimp only
        rw [if_neg h2]
        rfl
      · cases hL
theorem lawTenthsOf (x : Nat) (hx : (Lit.float .f32 x).wf = true) (w : World) :
    Calls Try.prog 15 #[.float .f32 x] w fun e w' => e = .returned (.bool true) ∧ Below w.heap.size w w' := by
  cases h : tenB x
  · go_enter Try.func15, Try.ntmps15
    go_wp2_with (first | (go_at_call 42; refine (specTenths_out h _).mono ?_; rintro e w' ⟨n1, rfl, rfl⟩) | (go_at_call 43; refine (implTenths_out h _).mono ?_; rintro e w' ⟨n2, rfl, rfl⟩))
    go_ret
    exact ⟨rfl, below_drewN (Below.refl _ _) _⟩
  · obtain ⟨a1, a2, a3, a4, a5⟩ := ten_parts h
    have hs := fun w => specTenths_in a1 a2 a3 a4 a5 w
    have hi := fun w => implTenths_in a1 a2 a4 a5 w
    clear a1 a2 a3 a4 a5 h
    generalize tenI (logZ (fconv .f32 .f64 (av .f32 x))) = I at *
    go_enter Try.func15, Try.ntmps15
    go_wp2_with (first | (go_at_call 42; refine (hs _).mono ?_; rintro e w' ⟨n1, rfl, rfl⟩) | (go_at_call 43; refine (hi _).mono ?_; rintro e w' ⟨n2, rfl, rfl⟩))
    go_ret
    exact ⟨rfl, below_drewN (Below.refl _ _) _⟩
end Go.Proofs.Ytdbpkkbijpppfaa
