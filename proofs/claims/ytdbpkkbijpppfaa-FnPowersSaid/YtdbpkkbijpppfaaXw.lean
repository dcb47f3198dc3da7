/- Powers: what the program's ExpNumber computes, and the law. -/
import Derived.Test.YtdbpkkbijpppfaaXt
import Derived.Test.YtdbpkkbijpppfaaLz
import Derived.Test.YtdbpkkbijpppfaaO
namespace Go.Proofs.Ytdbpkkbijpppfaa
open Go.RowKit
set_option linter.unusedVariables false
set_option linter.unusedSimpArgs false
attribute [local go_sem] run_neg64 run_f64bits' run_f64frombits'
theorem k12_all : ∀ n : Fin 12, (FloatKind.f64.format.order (kf (12 - (n.val : Int))) 4607182418800017408 == some .gt || FloatKind.f64.format.order (kf (12 - (n.val : Int))) 4607182418800017408 == some .eq) = true := by decide +kernel
theorem k12_step_all : ∀ n : Fin 12, fop .sub .f64 (av .f64 (kf (12 - (n.val : Int)))) (av .f64 4607182418800017408) = some (kf (12 - ((n.val + 1 : Nat) : Int))) := by decide +kernel
theorem k12_av_all : ∀ n : Fin 12, av .f64 (kf (12 - (n.val : Int))) = some (kf ((12 - n.val : Nat) : Int)) := by decide +kernel
theorem k12_end : (FloatKind.f64.format.order (kf (12 - ((12 : Nat) : Int))) 4607182418800017408 == some .gt || FloatKind.f64.format.order (kf (12 - ((12 : Nat) : Int))) 4607182418800017408 == some .eq) = false := by decide +kernel
theorem expP_succ (t : Option Nat) (n : Nat) : expP t (n + 1) = fop .add .f64 (some c1) (fop .quo .f64 (fop .mul .f64 t (expP t n)) (some (kf ((12 - n : Nat) : Int)))) := rfl
theorem av_256n : av .f64 4643211215818981376 = some 4643211215818981376 := by decide
set_option maxRecDepth 100000 in
theorem exp_any {x : Nat} {Y : Option Nat} (hY : fconv .f32 .f64 (av .f32 x) = Y) (h1 : (FloatKind.f32.format.order x 1128792064 == some .gt) = false) (h2 : (FloatKind.f32.format.order x 3276275712 == some .lt) = false) (hf : Fits .f64 .f32 (expW Y)) (w : World) :
    Calls Try.prog 51 #[.float .f32 x] w fun e w' => ∃ r n, e = .returned (.float .f32 r) ∧ Hid (av .f32 r = fconv .f64 .f32 (expW Y)) ∧ w' = w.drewN n := by
  have HY := Lib.hid hY
  clear hY
  go_enter Try.func51, Try.ntmps51
  go_upto_region 6 with (first | ((with_reducible apply wpList_fconv); (show FloatKind.f32 ≠ .f64; decide); exact Try.underlying23; exact Try.underlying34; rfl; exact fits_wide _; intro rr qq hrr) | ((with_reducible apply wpList_farith (op := .quo)); rfl; rfl; rfl; intro rt mt ht))
  have hT : Hid (av .f64 rt = fop .quo .f64 Y (some 4643211215818981376)) := by show _ = _; rw [ht.out, hrr.out, HY.out, av_256n]
  have hW : Hid (expW Y = expQ (expP (av .f64 rt) 12) 8) := by show _ = _; rw [hT.out]; rfl
  clear ht hrr h1 h2 hT
  go_wp2_with fail
  go_loopg [4, 5] 12 (fun gk s4 s5 wr => ∃ (q rp n : Nat), n + gk = 12 ∧ s4 = .float .f64 rp ∧ s5 = .float .f64 (kf (12 - (n : Int))) ∧ Hid (av .f64 rp = expP (av .f64 rt) n) ∧ wr = w.drewN q)
  case atStart => exact ⟨_, _, 0, rfl, rfl, by kernel_rfl, by show _ = _; exact av_c1, rfl⟩
  case round =>
    obtain ⟨q3, rp, n, hn, rfl, rfl, hP, rfl⟩ := hrel
    by_cases hlt : n < 12
    · have hk := k12_all ⟨n, hlt⟩
      dsimp only at hk
      go_wp2_with ((with_reducible apply wpList_farith); rfl; rfl; rfl; intro _ _ _)
      rename_i r24 m24 h24 r26 m26 h26 r27 m27 h27 r21 m21 h21
      have e21 := h21.out.trans (k12_step_all ⟨n, hlt⟩)
      obtain rfl := (av_some e21).1
      go_roundg (11 - n)
      case measure => omega
      case rel =>
        refine ⟨_, r27, n + 1, by omega, rfl, rfl, ?_, rfl⟩
        show _ = _
        rw [h27.out, h26.out, h24.out, hP.out, expP_succ, ← k12_av_all ⟨n, hlt⟩, av_c1n]
        rfl
    · obtain rfl : n = 12 := by omega
      have hk := k12_end
      go_wp2_with fail
      go_loopg [4, 6] 8 (fun gk s4 s6 wr => ∃ (q rp n : Nat), n + gk = 8 ∧ s4 = .float .f64 rp ∧ s6 = .int .i64 (n : Int) ∧ Hid (av .f64 rp = expQ (expP (av .f64 rt) 12) n) ∧ wr = w.drewN q)
      case atStart => exact ⟨_, rp, 0, rfl, rfl, rfl, hP, rfl⟩
      case round =>
        obtain ⟨q4, rq, n, hn, rfl, rfl, hQ, rfl⟩ := hrel
        by_cases hlt : n < 8
        · go_wp2_with ((with_reducible apply wpList_farith); rfl; rfl; rfl; intro _ _ _)
          rename_i r34 m34 h34
          go_roundg (7 - n)
          case measure => omega
          case rel =>
            refine ⟨_, r34, n + 1, by omega, rfl, by go_num, ?_, rfl⟩
            show _ = _
            rw [h34.out, hQ.out]
            rfl
        · obtain rfl : n = 8 := by omega
          go_wp2_with ((with_reducible apply wpList_fconv); (show FloatKind.f64 ≠ .f32; decide); exact Try.underlying34; exact Try.underlying23; rfl; exact (by rw [hQ.out, ← hW.out]; exact hf); intro r n hr)
          go_ret
          refine ⟨_, _, rfl, ?_, rfl⟩
          show _ = _
          rw [hr.out, hQ.out, hW.out]
end Go.Proofs.Ytdbpkkbijpppfaa
