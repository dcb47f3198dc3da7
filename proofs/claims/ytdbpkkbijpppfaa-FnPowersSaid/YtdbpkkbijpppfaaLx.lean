/- The natural logarithm: what the model computes. -/
import Derived.Test.YtdbpkkbijpppfaaLw
import Derived.Test.YtdbpkkbijpppfaaLv
namespace Go.Proofs.Ytdbpkkbijpppfaa
open Go.RowKit
set_option linter.unusedVariables false
set_option linter.unusedSimpArgs false
attribute [local go_sem] run_neg64 run_f64bits' run_f64frombits'
theorem kf_of (n : Int) : floatOfInt .f64 n = kf n := rfl
theorem nan_any2 (w : World) : Calls Try.prog 68 #[] w fun e w' => e = .returned (.float .f64 9221120237041090561) ∧ w = w' := by
  go_enter Try.func68, Try.ntmps68
  go_wp2_with fail
  go_ret
  exact ⟨rfl, rfl⟩
theorem inf_any (w : World) : Calls Try.prog 69 #[.int .i64 (-1)] w fun e w' => e = .returned (.float .f64 18442240474082181120) ∧ w = w' := by
  go_enter Try.func69, Try.ntmps69
  go_wp2_with fail
  go_ret
  exact ⟨rfl, rfl⟩
theorem isInf_any (y : Nat) (w : World) : Calls Try.prog 92 #[.float .f64 y, .int .i64 1] w fun e w' => e = .returned (.bool (FloatKind.f64.format.order y 9218868437227405311 == some .gt)) ∧ w = w' := by
  go_enter Try.func92, Try.ntmps92
  go_wp2_with fail
  go_ret
  exact ⟨rfl, rfl⟩
set_option maxRecDepth 100000 in
theorem logWide_in {x : Nat} (hp : Pb .f64 128 (av .f64 x)) (hg : Ge .f64 (-149) (av .f64 x)) (hN : (FloatKind.f64.format.order x x != some .eq) = false) (hL : (FloatKind.f64.format.order x 0 == some .lt) = false) (hE : (FloatKind.f64.format.order x 0 == some .eq) = false) (hI : (FloatKind.f64.format.order x 9218868437227405311 == some .gt) = false) (w : World) :
    Calls Try.prog 86 #[.float .f64 x] w fun e w' => ∃ r n, e = .returned (.float .f64 r) ∧ Hid (av .f64 r = logZ (av .f64 x)) ∧ w' = w.drewN n := by
  go_enter Try.func86, Try.ntmps86
  go_wp2_with (go_at_call 92; refine (isInf_any _ _).mono ?_; rintro e w' ⟨rfl, rfl⟩; rw [hI])
  clear hN hL hE hI
  go_loopg [0, 3] 140 (fun gk s0 s3 wr => ∃ (q rx : Nat) (E : Int), s0 = .float .f64 rx ∧ s3 = .int .i64 E ∧ Hid (Pb .f64 (gk : Int) (av .f64 rx)) ∧ Hid (Ge .f64 (-149) (av .f64 rx)) ∧ 0 ≤ E ∧ E + gk ≤ 140 ∧ Hid (down gk (av .f64 rx) E = down 140 (av .f64 x) 0) ∧ wr = w.drewN q)
  case atStart => exact ⟨0, x, 0, rfl, rfl, by show Pb _ _ _; exact hp.mono (by omega), by show Ge _ _ _; exact hg, by omega, by omega, by show _ = _; rfl, rfl⟩
  case round =>
    obtain ⟨q, rx, E, rfl, rfl, hPb, hGe, hE0, hE1, hD, rfl⟩ := hrel
    cases hc : (FloatKind.f64.format.order rx 4609434218613702656 == some .gt || FloatKind.f64.format.order rx 4609434218613702656 == some .eq)
    · have hF : Hid (fge .f64 (av .f64 rx) (some c15) = false) := by show _ = _; rw [← av_c15n, ← fge_raw64, hc]
      have hP1 : Hid (Pb .f64 1 (av .f64 rx)) := by show Pb _ _ _; exact of_not15 hPb.out hF.out
      have hDs : Hid (down 140 (av .f64 x) 0 = (av .f64 rx, E)) := by show _ = _; rw [← hD.out]; exact down_stop hF.out
      have hZ : Hid (logZ (av .f64 x) = logY (up 160 (av .f64 rx) E).1 (up 160 (av .f64 rx) E).2) := by show _ = _; rw [logZ, hDs.out]
      clear hPb hD hDs hF
      go_wp2_with fail
      go_loopg [0, 3] 160 (fun gk s0 s3 wr => ∃ (q ry : Nat) (F : Int), s0 = .float .f64 ry ∧ s3 = .int .i64 F ∧ Hid (Ge .f64 (-(gk : Int)) (av .f64 ry)) ∧ Hid (Pb .f64 1 (av .f64 ry)) ∧ F ≤ 140 ∧ (gk : Int) - 160 ≤ F ∧ Hid (up gk (av .f64 ry) F = up 160 (av .f64 rx) E) ∧ wr = w.drewN q)
      case atStart => exact ⟨_, rx, E, rfl, rfl, by show Ge _ _ _; exact hGe.out.mono (by omega), hP1, by omega, by omega, by show _ = _; rfl, rfl⟩
      case round =>
        obtain ⟨q2, ry, F, rfl, rfl, hG2, hP2, hF0, hF1, hU, rfl⟩ := hrel
        cases hc2 : (FloatKind.f64.format.order ry 4604930618986332160 == some .lt)
        · have hL : Hid (flt .f64 (av .f64 ry) (some c75) = false) := by show _ = _; rw [← av_c75n, ← flt_raw64, hc2]
          have hDs : Hid (up 160 (av .f64 rx) E = (av .f64 ry, F)) := by show _ = _; rw [← hU.out]; exact up_stop hL.out
          have hZ2 : Hid (logZ (av .f64 x) = logY (av .f64 ry) F) := by show _ = _; rw [hZ.out, hDs.out]
          clear hZ hDs hU hL hG2 hP1 hGe
          go_upto_region 15 with (first | ((with_reducible apply wpList_farith (op := .sub)); rfl; rfl; rfl; intro r21 m21 h21) | ((with_reducible apply wpList_farith (op := .add)); rfl; rfl; rfl; intro r23 m23 h23) | ((with_reducible apply wpList_farith (op := .quo)); rfl; rfl; rfl; intro r24 m24 h24))
          have hS : Hid (av .f64 r24 = logS (av .f64 ry)) := by show _ = _; rw [h24.out, h21.out, h23.out, av_c1n]; rfl
          clear h21 h23 h24
          go_upto_region 16 with ((with_reducible apply wpList_farith (op := .mul)); rfl; rfl; rfl; intro ru mu hu)
          have hUu : Hid (av .f64 ru = logU (av .f64 ry)) := by show _ = _; rw [hu.out, hS.out]; rfl
          clear hu
          go_wp2_with fail
          go_loopg [6, 7] 13 (fun gk s6 s7 wr => ∃ (q rq n : Nat), n + gk = 13 ∧ s6 = .float .f64 rq ∧ s7 = .int .i64 (25 - 2 * (n : Int)) ∧ Hid (av .f64 rq = logQ (logU (av .f64 ry)) n) ∧ wr = w.drewN q)
          case atStart => exact ⟨_, 0, 0, rfl, rfl, rfl, by show _ = _; exact av_0, rfl⟩
          case round =>
            obtain ⟨q3, rq, n, hn, rfl, rfl, hQ, rfl⟩ := hrel
            by_cases hlt : n < 13
            · go_wp2_with ((with_reducible apply wpList_farith); rfl; rfl; rfl; intro _ _ _)
              rename_i r33 m33 h33 r36 m36 h36 r37 m37 h37
              go_roundg (12 - n)
              case measure => omega
              case rel =>
                refine ⟨_, r37, n + 1, by omega, rfl, by go_num, ?_, rfl⟩
                show _ = _
                rw [h37.out, h33.out, h36.out, hUu.out, hQ.out, logQ_succ, ← k25_av_all ⟨n, hlt⟩, av_c1n, kf_of]
                rfl
            · obtain rfl : n = 13 := by omega
              go_wp2_with ((with_reducible apply wpList_farith); rfl; rfl; rfl; intro _ _ _)
              rename_i r40 m40 h40 r41 m41 h41 r43 m43 h43 r44 m44 h44
              go_ret
              refine ⟨_, _, rfl, ?_, rfl⟩
              show _ = _
              rw [h44.out, h41.out, h43.out, h40.out, hS.out, hQ.out, av_c2n, av_cln, kf_of, kf_avI (by omega), hZ2.out]
              rfl
        · have hL : Hid (flt .f64 (av .f64 ry) (some c75) = true) := by show _ = _; rw [← av_c75n, ← flt_raw64, hc2]
          go_wp2_with ((with_reducible apply wpList_farith); rfl; rfl; rfl; intro _ _ _)
          rename_i r17 m17 h17
          obtain ⟨g0, g1⟩ := of_75 hG2.out hL.out
          have e17 : av .f64 r17 = twice (av .f64 ry) := by rw [h17.out, av_c2n]; rfl
          obtain ⟨g', rfl⟩ : ∃ g', gk = g' + 1 := ⟨gk - 1, by omega⟩
          go_roundg g'
          case measure => omega
          case rel =>
            refine ⟨_, r17, F - 1, rfl, by go_num, ?_, ?_, by omega, by omega, ?_, rfl⟩
            · show Ge _ _ _
              rw [e17]
              exact (twice_ge hG2.out hP2.out (by omega) (by omega)).mono (by omega)
            · show Pb _ _ _
              rw [e17]
              exact twice_pb g0 (by omega) (by omega)
            · show _ = _
              rw [e17, ← up_go hL.out]; exact hU.out
    · have hF : Hid (fge .f64 (av .f64 rx) (some c15) = true) := by show _ = _; rw [← av_c15n, ← fge_raw64, hc]
      go_wp2_with ((with_reducible apply wpList_farith); rfl; rfl; rfl; intro _ _ _)
      rename_i r11 m11 h11
      obtain ⟨g0, g1⟩ := of_15 hPb.out hF.out
      have e11 : av .f64 r11 = halve (av .f64 rx) := by rw [h11.out, av_c2n]; rfl
      obtain ⟨g', rfl⟩ : ∃ g', gk = g' + 1 := ⟨gk - 1, by omega⟩
      go_roundg g'
      case measure => omega
      case rel =>
        refine ⟨_, r11, E + 1, rfl, by go_num, ?_, ?_, by omega, by omega, ?_, rfl⟩
        · show Pb _ _ _
          rw [e11]
          exact (halve_pb hPb.out (by omega) (by omega)).mono (by omega)
        · show Ge _ _ _
          rw [e11]
          exact (halve_ge g0 hPb.out (by omega) (by omega)).mono (by omega)
        · show _ = _
          rw [e11, ← down_go hF.out]; exact hD.out
end Go.Proofs.Ytdbpkkbijpppfaa
