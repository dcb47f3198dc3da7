/- The angle of a point in turns: what the program and the model compute. (written by gen/genA.py) -/
import Derived.Test.YtedpbidphajngaaDoorLz
import Derived.Test.YtedpbidphajngaaDoorAn
namespace Go.Proofs.YtedpbidphajngaaDoor
open Go.RowKit
set_option linter.unusedVariables false
set_option linter.unusedSimpArgs false
attribute [local go_sem] run_neg64 run_f64bits' run_f64frombits'
theorem k15_all : ∀ n : Fin 8, (FloatKind.f64.format.order (kf (15 - 2 * (n.val : Int))) 4607182418800017408 == some .gt || FloatKind.f64.format.order (kf (15 - 2 * (n.val : Int))) 4607182418800017408 == some .eq) = true := by decide +kernel
theorem k15_step_all : ∀ n : Fin 8, fop .sub .f64 (av .f64 (kf (15 - 2 * (n.val : Int)))) (av .f64 4611686018427387904) = some (kf (15 - 2 * ((n.val + 1 : Nat) : Int))) := by decide +kernel
theorem k15_av_all : ∀ n : Fin 8, av .f64 (kf (15 - 2 * (n.val : Int))) = some (kf ((15 - 2 * n.val : Nat) : Int)) := by decide +kernel
theorem k15_end : (FloatKind.f64.format.order (kf (15 - 2 * ((8 : Nat) : Int))) 4607182418800017408 == some .gt || FloatKind.f64.format.order (kf (15 - 2 * ((8 : Nat) : Int))) 4607182418800017408 == some .eq) = false := by decide +kernel
theorem angP_succ (u : Option Nat) (n : Nat) : angP u (n + 1) = fop .sub .f64 (fop .quo .f64 (some c1) (some (kf ((15 - 2 * n : Nat) : Int)))) (fop .mul .f64 u (angP u n)) := rfl
theorem abs_any2 (x : Nat) (hx : x < 18446744073709551616) (w : World) : Calls Tryd.prog 78 #[.float .f64 x] w fun e w' => e = .returned (.float .f64 (x % 9223372036854775808)) ∧ w = w' := (abs_any x hx w).mono fun _ _ h => ⟨h.1, h.2.symm⟩
theorem av_c8n : av .f64 4620693217682128896 = some c8 := by decide

set_option maxRecDepth 100000 in
theorem implAngle_x {y x yw xw : Nat} {over xneg yneg : Bool} {T : Option Nat} (fy : finA .f32 (av .f32 y) = true) (fx : finA .f32 (av .f32 x) = true)
    (wy : fconv .f32 .f64 (av .f32 y) = some yw) (wx : fconv .f32 .f64 (av .f32 x) = some xw) (ly : yw < 18446744073709551616) (lx : xw < 18446744073709551616)
    (aya : av .f64 (yw % 9223372036854775808) = some (yw % 9223372036854775808)) (axa : av .f64 (xw % 9223372036854775808) = some (xw % 9223372036854775808))
    (hov : (FloatKind.f64.format.order (yw % 9223372036854775808) (xw % 9223372036854775808) == some .gt) = over)
    (hT : angQ over (yw % 9223372036854775808) (xw % 9223372036854775808) = T) (hf : Pb .f64 0 T)
    (nx : (FloatKind.f32.format.order x 0 == some .lt) = xneg) (ny : (FloatKind.f32.format.order y 0 == some .lt) = yneg) (hz : (FloatKind.f32.format.order x 0 == some .eq) = false) (w : World) :
    Calls Tryd.prog 43 #[.float .f32 y, .float .f32 x] w fun e w' => ∃ r n, e = .returned (.float .f32 r) ∧ Hid (av .f32 r = fconv .f64 .f32 (angV over xneg yneg T)) ∧ w' = w.drewN n := by
  have HY := Lib.hid wy
  have HX := Lib.hid wx
  have AY := Lib.hid aya
  have AX := Lib.hid axa
  have HTq := Lib.hid hT
  have hfit := angV_fits over xneg yneg hf
  clear wy wx aya axa hT hf
  go_enter Tryd.func43, Tryd.ntmps43
  go_upto_region 6 with (first
    | (go_at_call 76; refine (implIsFinite_any _ _).mono ?_; rintro e w' ⟨n1, rfl, rfl⟩; first | rw [fx] | rw [fy])
    | ((with_reducible apply wpList_fconv); (show FloatKind.f32 ≠ .f64; decide); exact Tryd.underlying48; exact Tryd.underlying64; rfl; exact fits_wide _; intro r n hr; first | (obtain rfl := (av_some (hr.out.trans HY.out)).1; clear hr) | (obtain rfl := (av_some (hr.out.trans HX.out)).1; clear hr))
    | (go_at_call 78; refine (abs_any _ (by assumption) _).mono ?_; rintro e w' ⟨rfl, rfl⟩))
  clear HY HX ly lx
  generalize yw % 9223372036854775808 = ya at *
  generalize xw % 9223372036854775808 = xa at *
  go_upto_if 42 with ((with_reducible apply wpList_farith (op := .quo)); rfl; rfl; rfl; intro r39 m39 h39)
  go_cut [7] (fun s wx => ∃ r n, s = .float .f64 r ∧ Hid (av .f64 r = T) ∧ wx = w.drewN n)
  case first =>
    cases over
    · go_wp2_with ((with_reducible apply wpList_farith); rfl; rfl; rfl; intro r n hr)
      go_meet
      exact ⟨_, _, rfl, by show _ = _; rw [h39.out, AY.out, AX.out, ← HTq.out]; rfl, rfl⟩
    · go_wp2_with ((with_reducible apply wpList_farith); rfl; rfl; rfl; intro r n hr)
      go_meet
      exact ⟨_, _, rfl, by show _ = _; rw [hr.out, AY.out, AX.out, ← HTq.out]; rfl, rfl⟩
  case rest =>
  obtain ⟨rT, nT, rfl, hT0, rfl⟩ := hcut
  clear h39 AY AX HTq
  go_wp2_with fail
  go_loopg [7, 8] 3 (fun gk s7 s8 wr => ∃ (q rt j : Nat), j + gk = 3 ∧ s7 = .float .f64 rt ∧ s8 = .int .i64 (j : Int) ∧ Hid (av .f64 rt = angT T j) ∧ wr = w.drewN q)
  case atStart => exact ⟨_, _, 0, rfl, rfl, rfl, hT0, rfl⟩
  case round =>
    obtain ⟨q, rt, j, hj, rfl, rfl, ht, rfl⟩ := hrel
    by_cases hlt : j < 3
    · go_wp2_with (first | ((with_reducible apply wpList_farith); rfl; rfl; rfl; intro _ _ _) | (go_at_call 79; refine (sqrt_any _ _).mono ?_; rintro e w' ⟨r55, m55, rfl, h55, rfl⟩))
      rename_i r53 m53 h53 r54 m54 h54 r56 m56 h56 r57 m57 h57
      go_roundg (2 - j)
      case measure => omega
      case rel =>
        refine ⟨_, r57, j + 1, by omega, rfl, by go_num, ?_, rfl⟩
        show _ = _
        rw [h57.out, h56.out, h55.out, h54.out, h53.out, ht.out, av_c1n]
        rfl
    · obtain rfl : j = 3 := by omega
      go_upto_region 14 with ((with_reducible apply wpList_farith (op := .mul)); rfl; rfl; rfl; intro ru mu hu)
      have hU : Hid (av .f64 ru = angU T) := by show _ = _; rw [hu.out, ht.out]; rfl
      clear hu
      go_wp2_with fail
      go_loopg [10, 11] 8 (fun gk s6 s7 wr => ∃ (q rq n : Nat), n + gk = 8 ∧ s6 = .float .f64 rq ∧ s7 = .float .f64 (kf (15 - 2 * (n : Int))) ∧ Hid (av .f64 rq = angP (angU T) n) ∧ wr = w.drewN q)
      case atStart => exact ⟨_, 0, 0, rfl, rfl, by kernel_rfl, by show _ = _; exact av_0, rfl⟩
      case round =>
        obtain ⟨q3, rq, n, hn, rfl, rfl, hQ, rfl⟩ := hrel
        by_cases hlt : n < 8
        · have hk := k15_all ⟨n, hlt⟩
          dsimp only at hk
          go_wp2_with ((with_reducible apply wpList_farith); rfl; rfl; rfl; intro _ _ _)
          rename_i r66 m66 h66 r69 m69 h69 r70 m70 h70 r64 m64 h64
          have e64 := h64.out.trans (k15_step_all ⟨n, hlt⟩)
          obtain rfl := (av_some e64).1
          go_roundg (7 - n)
          case measure => omega
          case rel =>
            refine ⟨_, r70, n + 1, by omega, rfl, rfl, ?_, rfl⟩
            show _ = _
            rw [h70.out, h66.out, h69.out, hU.out, hQ.out, angP_succ, ← k15_av_all ⟨n, hlt⟩, av_c1n]
            rfl
        · obtain rfl : n = 8 := by omega
          have hk := k15_end
          go_upto_if 78 with ((with_reducible apply wpList_farith); rfl; rfl; rfl; intro _ _ _)
          rename_i r73 m73 h73 r74 m74 h74 r75 m75 h75 _ _
          have hA : Hid (av .f64 r75 = angA T) := by show _ = _; rw [h75.out, h74.out, h73.out, ht.out, hQ.out, av_c8n, av_ctn]; rfl
          clear h73 h74 h75 ht hQ hU
          go_cut [12] (fun s wx => ∃ r n, s = .float .f64 r ∧ Hid (av .f64 r = angB over T) ∧ wx = w.drewN n)
          case first =>
            cases over
            · go_wp2_with ((with_reducible apply wpList_farith); rfl; rfl; rfl; intro r n hr)
              go_meet
              exact ⟨_, _, rfl, hA, rfl⟩
            · go_wp2_with ((with_reducible apply wpList_farith); rfl; rfl; rfl; intro r n hr)
              go_meet
              exact ⟨_, _, rfl, by show _ = _; rw [hr.out, hA.out, av_cqn]; rfl, rfl⟩
          case rest =>
          obtain ⟨r1, n1, rfl, hB, rfl⟩ := hcut
          clear hA
          go_upto_if 82 with fail
          go_cut [12] (fun s wx => ∃ r n, s = .float .f64 r ∧ Hid (av .f64 r = angC over xneg T) ∧ wx = w.drewN n)
          case first =>
            cases xneg
            · go_wp2_with ((with_reducible apply wpList_farith); rfl; rfl; rfl; intro r n hr)
              go_meet
              exact ⟨_, _, rfl, hB, rfl⟩
            · go_wp2_with ((with_reducible apply wpList_farith); rfl; rfl; rfl; intro r n hr)
              go_meet
              exact ⟨_, _, rfl, by show _ = _; rw [hr.out, hB.out, av_chn]; rfl, rfl⟩
          case rest =>
          obtain ⟨r2, n2, rfl, hC, rfl⟩ := hcut
          clear hB
          go_upto_if 86 with fail
          go_cut [12] (fun s wx => ∃ r n, s = .float .f64 r ∧ Hid (av .f64 r = angV over xneg yneg T) ∧ wx = w.drewN n)
          case first =>
            cases yneg
            · go_wp2_with ((with_reducible apply wpList_farith); rfl; rfl; rfl; intro r n hr)
              go_meet
              exact ⟨_, _, rfl, hC, rfl⟩
            · go_wp2_with ((with_reducible apply wpList_farith); rfl; rfl; rfl; intro r n hr)
              go_meet
              exact ⟨_, _, rfl, by show _ = _; rw [av_neg, hC.out]; rfl, rfl⟩
          case rest =>
          obtain ⟨r3, n3, rfl, hV, rfl⟩ := hcut
          go_wp2_with ((with_reducible apply wpList_fconv); (show FloatKind.f64 ≠ .f32; decide); exact Tryd.underlying64; exact Tryd.underlying48; rfl; exact (by rw [hV.out]; exact hfit); intro r n hr)
          go_ret
          refine ⟨_, _, rfl, ?_, rfl⟩
          show _ = _
          rw [hr.out, hV.out]
set_option maxRecDepth 100000 in
theorem implAngle_y {y x yw xw : Nat} {over xneg yneg : Bool} {T : Option Nat} (fy : finA .f32 (av .f32 y) = true) (fx : finA .f32 (av .f32 x) = true)
    (wy : fconv .f32 .f64 (av .f32 y) = some yw) (wx : fconv .f32 .f64 (av .f32 x) = some xw) (ly : yw < 18446744073709551616) (lx : xw < 18446744073709551616)
    (aya : av .f64 (yw % 9223372036854775808) = some (yw % 9223372036854775808)) (axa : av .f64 (xw % 9223372036854775808) = some (xw % 9223372036854775808))
    (hov : (FloatKind.f64.format.order (yw % 9223372036854775808) (xw % 9223372036854775808) == some .gt) = over)
    (hT : angQ over (yw % 9223372036854775808) (xw % 9223372036854775808) = T) (hf : Pb .f64 0 T)
    (nx : (FloatKind.f32.format.order x 0 == some .lt) = xneg) (ny : (FloatKind.f32.format.order y 0 == some .lt) = yneg) (hz1 : (FloatKind.f32.format.order x 0 == some .eq) = true) (hz : (FloatKind.f32.format.order y 0 == some .eq) = false) (w : World) :
    Calls Tryd.prog 43 #[.float .f32 y, .float .f32 x] w fun e w' => ∃ r n, e = .returned (.float .f32 r) ∧ Hid (av .f32 r = fconv .f64 .f32 (angV over xneg yneg T)) ∧ w' = w.drewN n := by
  have HY := Lib.hid wy
  have HX := Lib.hid wx
  have AY := Lib.hid aya
  have AX := Lib.hid axa
  have HTq := Lib.hid hT
  have hfit := angV_fits over xneg yneg hf
  clear wy wx aya axa hT hf
  go_enter Tryd.func43, Tryd.ntmps43
  go_upto_region 6 with (first
    | (go_at_call 76; refine (implIsFinite_any _ _).mono ?_; rintro e w' ⟨n1, rfl, rfl⟩; first | rw [fx] | rw [fy])
    | ((with_reducible apply wpList_fconv); (show FloatKind.f32 ≠ .f64; decide); exact Tryd.underlying48; exact Tryd.underlying64; rfl; exact fits_wide _; intro r n hr; first | (obtain rfl := (av_some (hr.out.trans HY.out)).1; clear hr) | (obtain rfl := (av_some (hr.out.trans HX.out)).1; clear hr))
    | (go_at_call 78; refine (abs_any _ (by assumption) _).mono ?_; rintro e w' ⟨rfl, rfl⟩))
  clear HY HX ly lx
  generalize yw % 9223372036854775808 = ya at *
  generalize xw % 9223372036854775808 = xa at *
  go_upto_if 42 with ((with_reducible apply wpList_farith (op := .quo)); rfl; rfl; rfl; intro r39 m39 h39)
  go_cut [7] (fun s wx => ∃ r n, s = .float .f64 r ∧ Hid (av .f64 r = T) ∧ wx = w.drewN n)
  case first =>
    cases over
    · go_wp2_with ((with_reducible apply wpList_farith); rfl; rfl; rfl; intro r n hr)
      go_meet
      exact ⟨_, _, rfl, by show _ = _; rw [h39.out, AY.out, AX.out, ← HTq.out]; rfl, rfl⟩
    · go_wp2_with ((with_reducible apply wpList_farith); rfl; rfl; rfl; intro r n hr)
      go_meet
      exact ⟨_, _, rfl, by show _ = _; rw [hr.out, AY.out, AX.out, ← HTq.out]; rfl, rfl⟩
  case rest =>
  obtain ⟨rT, nT, rfl, hT0, rfl⟩ := hcut
  clear h39 AY AX HTq
  go_wp2_with fail
  go_loopg [7, 8] 3 (fun gk s7 s8 wr => ∃ (q rt j : Nat), j + gk = 3 ∧ s7 = .float .f64 rt ∧ s8 = .int .i64 (j : Int) ∧ Hid (av .f64 rt = angT T j) ∧ wr = w.drewN q)
  case atStart => exact ⟨_, _, 0, rfl, rfl, rfl, hT0, rfl⟩
  case round =>
    obtain ⟨q, rt, j, hj, rfl, rfl, ht, rfl⟩ := hrel
    by_cases hlt : j < 3
    · go_wp2_with (first | ((with_reducible apply wpList_farith); rfl; rfl; rfl; intro _ _ _) | (go_at_call 79; refine (sqrt_any _ _).mono ?_; rintro e w' ⟨r55, m55, rfl, h55, rfl⟩))
      rename_i r53 m53 h53 r54 m54 h54 r56 m56 h56 r57 m57 h57
      go_roundg (2 - j)
      case measure => omega
      case rel =>
        refine ⟨_, r57, j + 1, by omega, rfl, by go_num, ?_, rfl⟩
        show _ = _
        rw [h57.out, h56.out, h55.out, h54.out, h53.out, ht.out, av_c1n]
        rfl
    · obtain rfl : j = 3 := by omega
      go_upto_region 14 with ((with_reducible apply wpList_farith (op := .mul)); rfl; rfl; rfl; intro ru mu hu)
      have hU : Hid (av .f64 ru = angU T) := by show _ = _; rw [hu.out, ht.out]; rfl
      clear hu
      go_wp2_with fail
      go_loopg [10, 11] 8 (fun gk s6 s7 wr => ∃ (q rq n : Nat), n + gk = 8 ∧ s6 = .float .f64 rq ∧ s7 = .float .f64 (kf (15 - 2 * (n : Int))) ∧ Hid (av .f64 rq = angP (angU T) n) ∧ wr = w.drewN q)
      case atStart => exact ⟨_, 0, 0, rfl, rfl, by kernel_rfl, by show _ = _; exact av_0, rfl⟩
      case round =>
        obtain ⟨q3, rq, n, hn, rfl, rfl, hQ, rfl⟩ := hrel
        by_cases hlt : n < 8
        · have hk := k15_all ⟨n, hlt⟩
          dsimp only at hk
          go_wp2_with ((with_reducible apply wpList_farith); rfl; rfl; rfl; intro _ _ _)
          rename_i r66 m66 h66 r69 m69 h69 r70 m70 h70 r64 m64 h64
          have e64 := h64.out.trans (k15_step_all ⟨n, hlt⟩)
          obtain rfl := (av_some e64).1
          go_roundg (7 - n)
          case measure => omega
          case rel =>
            refine ⟨_, r70, n + 1, by omega, rfl, rfl, ?_, rfl⟩
            show _ = _
            rw [h70.out, h66.out, h69.out, hU.out, hQ.out, angP_succ, ← k15_av_all ⟨n, hlt⟩, av_c1n]
            rfl
        · obtain rfl : n = 8 := by omega
          have hk := k15_end
          go_upto_if 78 with ((with_reducible apply wpList_farith); rfl; rfl; rfl; intro _ _ _)
          rename_i r73 m73 h73 r74 m74 h74 r75 m75 h75 _ _
          have hA : Hid (av .f64 r75 = angA T) := by show _ = _; rw [h75.out, h74.out, h73.out, ht.out, hQ.out, av_c8n, av_ctn]; rfl
          clear h73 h74 h75 ht hQ hU
          go_cut [12] (fun s wx => ∃ r n, s = .float .f64 r ∧ Hid (av .f64 r = angB over T) ∧ wx = w.drewN n)
          case first =>
            cases over
            · go_wp2_with ((with_reducible apply wpList_farith); rfl; rfl; rfl; intro r n hr)
              go_meet
              exact ⟨_, _, rfl, hA, rfl⟩
            · go_wp2_with ((with_reducible apply wpList_farith); rfl; rfl; rfl; intro r n hr)
              go_meet
              exact ⟨_, _, rfl, by show _ = _; rw [hr.out, hA.out, av_cqn]; rfl, rfl⟩
          case rest =>
          obtain ⟨r1, n1, rfl, hB, rfl⟩ := hcut
          clear hA
          go_upto_if 82 with fail
          go_cut [12] (fun s wx => ∃ r n, s = .float .f64 r ∧ Hid (av .f64 r = angC over xneg T) ∧ wx = w.drewN n)
          case first =>
            cases xneg
            · go_wp2_with ((with_reducible apply wpList_farith); rfl; rfl; rfl; intro r n hr)
              go_meet
              exact ⟨_, _, rfl, hB, rfl⟩
            · go_wp2_with ((with_reducible apply wpList_farith); rfl; rfl; rfl; intro r n hr)
              go_meet
              exact ⟨_, _, rfl, by show _ = _; rw [hr.out, hB.out, av_chn]; rfl, rfl⟩
          case rest =>
          obtain ⟨r2, n2, rfl, hC, rfl⟩ := hcut
          clear hB
          go_upto_if 86 with fail
          go_cut [12] (fun s wx => ∃ r n, s = .float .f64 r ∧ Hid (av .f64 r = angV over xneg yneg T) ∧ wx = w.drewN n)
          case first =>
            cases yneg
            · go_wp2_with ((with_reducible apply wpList_farith); rfl; rfl; rfl; intro r n hr)
              go_meet
              exact ⟨_, _, rfl, hC, rfl⟩
            · go_wp2_with ((with_reducible apply wpList_farith); rfl; rfl; rfl; intro r n hr)
              go_meet
              exact ⟨_, _, rfl, by show _ = _; rw [av_neg, hC.out]; rfl, rfl⟩
          case rest =>
          obtain ⟨r3, n3, rfl, hV, rfl⟩ := hcut
          go_wp2_with ((with_reducible apply wpList_fconv); (show FloatKind.f64 ≠ .f32; decide); exact Tryd.underlying64; exact Tryd.underlying48; rfl; exact (by rw [hV.out]; exact hfit); intro r n hr)
          go_ret
          refine ⟨_, _, rfl, ?_, rfl⟩
          show _ = _
          rw [hr.out, hV.out]
end Go.Proofs.YtedpbidphajngaaDoor
