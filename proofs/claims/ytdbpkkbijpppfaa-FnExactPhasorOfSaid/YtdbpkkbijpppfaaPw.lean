/- The point of the unit circle at a number of turns: what the program and the model compute. (written by gen/genP.py) -/
import Derived.Test.YtdbpkkbijpppfaaSy
import Derived.Test.YtdbpkkbijpppfaaPh
import Derived.Deep.RegionWith
namespace Go.Proofs.Ytdbpkkbijpppfaa
open Go.RowKit
open FT (Le2 Has)
set_option linter.unusedVariables false
set_option linter.unusedSimpArgs false
attribute [local go_sem] run_neg64 run_f64bits' run_f64frombits'
theorem av_cqc : av .f64 4598175219545276416 = some cq := av_cq
theorem low_of {m : Nat} {p e : Int} (h : Le2 m p 1 e) (he : e ≤ 51) : farB m p = false := by
  unfold farB
  apply decide_eq_false
  intro h1
  have h2 : Le2 4503599627370496 0 m p := Le2.of (B := min p 0) (by omega) (by omega) h1
  have h3 := FT.pow_le_of 52 51 (((FT.pow_eq 52 0).2.trans h2).trans (h.mono he))
  omega
theorem sineW_bd {X : Option Nat} (h : Bd .f64 1 X) : Bd .f64 110 (sineW X) := by
  obtain ⟨x, s, m, p, rfl, d, l⟩ := h
  have h1 := sineW_num d
  rw [av_num d, low_of l (by omega)] at h1
  rw [h1]
  exact sineV_bd (restF_bd d (far_not (low_of l (by omega))))
theorem sineB_any {x : Nat} {X : Option Nat} (hX : av .f64 x = X) (h : Bd .f64 1 X) (w : World) : Calls Try.prog 74 #[.float .f64 x] w fun e w' => ∃ r n, e = .returned (.float .f64 r) ∧ Hid (av .f64 r = sineW X) ∧ w' = w.drewN n := by
  rw [← hX] at h
  obtain ⟨y, s, m, p, e, d, l⟩ := h
  obtain ⟨rfl, _⟩ := av_some e
  refine (sine_any d (far_not (low_of l (by omega))) w).mono ?_
  rintro e w' ⟨r, n, he, hr, hw⟩
  exact ⟨r, n, he, by show _ = _; rw [hr.out, ← hX, sineW_num d, low_of l (by omega)]; rfl, hw⟩
def phRe (q : Int) (C S : Option Nat) : Option Nat := if q = 1 then fop .sub .f64 (some 0) S else if q = 2 then fop .sub .f64 (some 0) C else if q = 3 then S else C
def phIm (q : Int) (C S : Option Nat) : Option Nat := if q = 1 then C else if q = 2 then fop .sub .f64 (some 0) S else if q = 3 then fop .sub .f64 (some 0) C else S
theorem ph_fits (q : Int) {C S : Option Nat} (hC : Bd .f64 110 C) (hS : Bd .f64 110 S) : Fits .f64 .f32 (phRe q C S) ∧ Fits .f64 .f32 (phIm q C S) := by
  have f : ∀ {X : Option Nat}, Bd .f64 110 X → Fits .f64 .f32 X := fun h => (fits_bd (by decide) (has32 (by omega) (by omega)) h).1
  have g : ∀ {X : Option Nat}, Bd .f64 110 X → Fits .f64 .f32 (fop .sub .f64 (some 0) X) := fun h => (fits_bd (by decide) (has32 (by omega) (by omega)) (bd_sub (a := 0) (b := 110) (has64 (by omega) (by omega)) bd_zero h)).1
  unfold phRe phIm
  constructor
  · split
    · exact g hS
    · split
      · exact g hC
      · split
        · exact f hS
        · exact f hC
  · split
    · exact f hC
    · split
      · exact g hS
      · split
        · exact g hC
        · exact f hS
theorem narrowed_any {a b : Nat} {A B : Option Nat} (ha : av .f64 a = A) (hb : av .f64 b = B) (fa : Fits .f64 .f32 A) (fb : Fits .f64 .f32 B) (w : World) : Calls Try.prog 80 #[.float .f64 a, .float .f64 b] w fun e w' => ∃ ra rb n, e = .returned (.complex .f32 ra rb) ∧ Hid (av .f32 ra = fconv .f64 .f32 A) ∧ Hid (av .f32 rb = fconv .f64 .f32 B) ∧ w' = w.drewN n := by
  rw [← ha] at fa ⊢
  rw [← hb] at fb ⊢
  clear ha hb
  go_enter Try.func80, Try.ntmps80
  go_wp2_with ((with_reducible apply wpList_fconv); (show FloatKind.f64 ≠ .f32; decide); exact Try.underlying34; exact Try.underlying23; rfl; (first | exact fa | exact fb); intro _ _ _)
  rename_i r1 m1 h1 r2 m2 h2
  go_ret
  exact ⟨_, _, _, rfl, h1, h2, rfl⟩
set_option maxHeartbeats 1000000 in
set_option maxRecDepth 100000 in
theorem implPhasor_in {x : Nat} (hx : x < 18446744073709551616) {s : Bool} {m : Nat} {p : Int} (dx : FloatKind.f64.decode x = .number s m p) (hfar : farB m p = false) (w : World) :
    Calls Try.prog 47 #[.float .f64 x] w fun e w' => ∃ ra rb n, e = .returned (.complex .f32 ra rb) ∧
      Hid (av .f32 ra = fconv .f64 .f32 (phRe (quar 4 (restF x s m p) 0).2 (sineW (fop .sub .f64 (some cq) (quar 4 (restF x s m p) 0).1)) (sineW (quar 4 (restF x s m p) 0).1))) ∧
      Hid (av .f32 rb = fconv .f64 .f32 (phIm (quar 4 (restF x s m p) 0).2 (sineW (fop .sub .f64 (some cq) (quar 4 (restF x s m p) 0).1)) (sineW (quar 4 (restF x s m p) 0).1))) ∧ w' = w.drewN n := by
  have hfin := fin64_yes dx
  have hF := Lib.hid hfin
  have hfr := fun w => isFar_any hx dx w
  rw [hfar] at hfr
  have hrest := fun w => rest_any dx (far_not hfar) w
  have hq0 := restF_qb dx (far_not hfar)
  generalize restF x s m p = F at *
  clear hfin dx hfar
  go_enter Try.func47, Try.ntmps47
  go_upto_region 6 with (first
    | (go_at_call 72; refine (isFinite_any _ _).mono ?_; rintro e w' ⟨n1, rfl, rfl⟩; rw [hF.out])
    | (go_at_call 73; refine (hfr _).mono ?_; rintro e w' ⟨rfl, rfl⟩)
    | (go_at_call 81; refine (hrest _).mono ?_; rintro e w' ⟨r0, n0, rfl, h0, rfl⟩))
  clear hF hfr hrest
  go_wp2_with fail
  go_loopg [3, 4] 4 (fun gk s3 s4 wr => ∃ (q rf : Nat) (Q : Int), s3 = .float .f64 rf ∧ s4 = .int .i64 Q ∧ Hid (Qb gk (av .f64 rf)) ∧ gk ≤ 4 ∧ 0 ≤ Q ∧ Q + gk = 4 ∧ Hid (quar gk (av .f64 rf) Q = quar 4 F 0) ∧ wr = w.drewN q)
  case atStart => exact ⟨_, r0, 0, rfl, rfl, by show Qb _ _; rw [h0.out]; exact hq0, by omega, by omega, by omega, by show _ = _; rw [h0.out], rfl⟩
  case round =>
    obtain ⟨q, rf, Q, rfl, rfl, hQ, hg4, hQ0, hQ4, hR, rfl⟩ := hrel
    cases hc : (FloatKind.f64.format.order rf 4598175219545276416 == some .gt || FloatKind.f64.format.order rf 4598175219545276416 == some .eq)
    · have hge : fge .f64 (av .f64 rf) (some cq) = false := by rw [← av_cqc, ← fge_raw64, hc]
      have hR2 : Hid (quar 4 F 0 = (av .f64 rf, Q)) := by show _ = _; rw [← hR.out]; exact quar_stop hge
      have hB := hQ.out.bd hg4
      have hb2 : Bd .f64 1 (fop .sub .f64 (some cq) (av .f64 rf)) := (bd_sub (a := -2) (b := 0) (has64 (by omega) (by omega)) pb_cq.bd hB).mono (by omega)
      have hfits := ph_fits Q (sineW_bd hb2) (sineW_bd (hB.mono (by omega)))
      have HB := Lib.hid (hB.mono (show (0 : Int) ≤ 1 by omega))
      clear hR hQ hq0 hge hB h0
      go_upto_region 11 with (first
        | ((with_reducible apply wpList_farith (op := .sub)); rfl; rfl; rfl; intro r26 m26 h26)
        | (go_at_call_of 74 (Value.float FloatKind.f64 r26); refine (sineB_any (h26.out.trans (by rw [av_cqc])) hb2 _).mono ?_; rintro e w' ⟨rc, nc, rfl, hC, rfl⟩)
        | (go_at_call_of 74 (Value.float FloatKind.f64 rf); refine (sineB_any rfl HB.out _).mono ?_; rintro e w' ⟨rs, ns, rfl, hS, rfl⟩))
      clear hb2 HB h26
      generalize hCC0 : sineW (fop .sub .f64 (some cq) (av .f64 rf)) = C at *
      have hCC := Lib.hid hCC0
      clear hCC0
      generalize hSS : sineW (av .f64 rf) = S at *
      have HSS := Lib.hid hSS
      clear hSS
      obtain rfl | rfl | rfl | hd : Q = 1 ∨ Q = 2 ∨ Q = 3 ∨ (Q ≠ 1 ∧ Q ≠ 2 ∧ Q ≠ 3) := by omega
      · have e1 : Hid (phRe 1 C S = fop .sub .f64 (some 0) S) := by show _ = _; rfl
        have e2 : Hid (phIm 1 C S = C) := by show _ = _; rfl
        rw [e1.out, e2.out] at hfits
        have hG : Hid (phRe (quar 4 F 0).2 (sineW (fop .sub .f64 (some cq) (quar 4 F 0).1)) (sineW (quar 4 F 0).1) = phRe 1 C S) := by show _ = _; rw [hR2.out]; simp only [hCC.out, HSS.out]
        have hG2 : Hid (phIm (quar 4 F 0).2 (sineW (fop .sub .f64 (some cq) (quar 4 F 0).1)) (sineW (quar 4 F 0).1) = phIm 1 C S) := by show _ = _; rw [hR2.out]; simp only [hCC.out, HSS.out]
        go_wp2_with (first
          | ((with_reducible apply wpList_farith (op := .sub)); rfl; rfl; rfl; intro r34 m34 h34)
          | (go_at_call 80; refine (narrowed_any (h34.out.trans (by rw [hS.out, av_0])) hC.out hfits.1 hfits.2 _).mono ?_; rintro e w' ⟨ra, rb, nn, rfl, ha, hb, rfl⟩))
        go_ret
        refine ⟨_, _, _, rfl, ?_, ?_, rfl⟩
        · show _ = _
          rw [hG.out, e1.out, ha.out]
        · show _ = _
          rw [hG2.out, e2.out, hb.out]
      · have e1 : Hid (phRe 2 C S = fop .sub .f64 (some 0) C) := by show _ = _; rfl
        have e2 : Hid (phIm 2 C S = fop .sub .f64 (some 0) S) := by show _ = _; rfl
        rw [e1.out, e2.out] at hfits
        have hG : Hid (phRe (quar 4 F 0).2 (sineW (fop .sub .f64 (some cq) (quar 4 F 0).1)) (sineW (quar 4 F 0).1) = phRe 2 C S) := by show _ = _; rw [hR2.out]; simp only [hCC.out, HSS.out]
        have hG2 : Hid (phIm (quar 4 F 0).2 (sineW (fop .sub .f64 (some cq) (quar 4 F 0).1)) (sineW (quar 4 F 0).1) = phIm 2 C S) := by show _ = _; rw [hR2.out]; simp only [hCC.out, HSS.out]
        go_wp2_with (first
          | ((with_reducible apply wpList_farith); rfl; rfl; rfl; intro _ _ _)
          | (go_at_call 80; rename_i r40 m40 h40 r42 m42 h42 _ _; refine (narrowed_any (h40.out.trans (by rw [hC.out, av_0])) (h42.out.trans (by rw [hS.out, av_0])) hfits.1 hfits.2 _).mono ?_; rintro e w' ⟨ra, rb, nn, rfl, ha, hb, rfl⟩))
        go_ret
        refine ⟨_, _, _, rfl, ?_, ?_, rfl⟩
        · show _ = _
          rw [hG.out, e1.out, ha.out]
        · show _ = _
          rw [hG2.out, e2.out, hb.out]
      · have e1 : Hid (phRe 3 C S = S) := by show _ = _; rfl
        have e2 : Hid (phIm 3 C S = fop .sub .f64 (some 0) C) := by show _ = _; rfl
        rw [e1.out, e2.out] at hfits
        have hG : Hid (phRe (quar 4 F 0).2 (sineW (fop .sub .f64 (some cq) (quar 4 F 0).1)) (sineW (quar 4 F 0).1) = phRe 3 C S) := by show _ = _; rw [hR2.out]; simp only [hCC.out, HSS.out]
        have hG2 : Hid (phIm (quar 4 F 0).2 (sineW (fop .sub .f64 (some cq) (quar 4 F 0).1)) (sineW (quar 4 F 0).1) = phIm 3 C S) := by show _ = _; rw [hR2.out]; simp only [hCC.out, HSS.out]
        go_wp2_with (first
          | ((with_reducible apply wpList_farith (op := .sub)); rfl; rfl; rfl; intro r34 m34 h34)
          | (go_at_call 80; refine (narrowed_any hS.out (h34.out.trans (by rw [hC.out, av_0])) hfits.1 hfits.2 _).mono ?_; rintro e w' ⟨ra, rb, nn, rfl, ha, hb, rfl⟩))
        go_ret
        refine ⟨_, _, _, rfl, ?_, ?_, rfl⟩
        · show _ = _
          rw [hG.out, e1.out, ha.out]
        · show _ = _
          rw [hG2.out, e2.out, hb.out]
      · have e1 : Hid (phRe Q C S = C) := by show _ = _; unfold phRe; rw [if_neg hd.1, if_neg hd.2.1, if_neg hd.2.2]
        have e2 : Hid (phIm Q C S = S) := by show _ = _; unfold phIm; rw [if_neg hd.1, if_neg hd.2.1, if_neg hd.2.2]
        rw [e1.out, e2.out] at hfits
        have hG : Hid (phRe (quar 4 F 0).2 (sineW (fop .sub .f64 (some cq) (quar 4 F 0).1)) (sineW (quar 4 F 0).1) = phRe Q C S) := by show _ = _; rw [hR2.out]; simp only [hCC.out, HSS.out]
        have hG2 : Hid (phIm (quar 4 F 0).2 (sineW (fop .sub .f64 (some cq) (quar 4 F 0).1)) (sineW (quar 4 F 0).1) = phIm Q C S) := by show _ = _; rw [hR2.out]; simp only [hCC.out, HSS.out]
        go_wp2_with (first
          | fail
          | (go_at_call 80; refine (narrowed_any hC.out hS.out hfits.1 hfits.2 _).mono ?_; rintro e w' ⟨ra, rb, nn, rfl, ha, hb, rfl⟩))
        go_ret
        refine ⟨_, _, _, rfl, ?_, ?_, rfl⟩
        · show _ = _
          rw [hG.out, e1.out, ha.out]
        · show _ = _
          rw [hG2.out, e2.out, hb.out]
    · have hge : fge .f64 (av .f64 rf) (some cq) = true := by rw [← av_cqc, ← fge_raw64, hc]
      have hF := Lib.hid hge
      clear hge
      go_wp2_with ((with_reducible apply wpList_farith); rfl; rfl; rfl; intro _ _ _)
      rename_i r24 m24 h24
      obtain ⟨g1, g2⟩ := quart hg4 hQ.out hF.out
      have e24 : av .f64 r24 = fop .sub .f64 (av .f64 rf) (some cq) := by rw [h24.out, av_cqc]
      obtain ⟨g', rfl⟩ : ∃ g', gk = g' + 1 := ⟨gk - 1, by omega⟩
      go_roundg g'
      case measure => omega
      case rel =>
        refine ⟨_, r24, Q + 1, rfl, by go_num, ?_, by omega, by omega, by omega, ?_, rfl⟩
        · show Qb _ _
          rw [e24]; exact g2
        · show _ = _
          rw [e24, ← quar_go hF.out]; exact hR.out
set_option maxHeartbeats 1000000 in
set_option maxRecDepth 100000 in
theorem specPhasor_in {x : Nat} {s : Bool} {m : Nat} {p : Int} (dx : FloatKind.f64.decode x = .number s m p) (hf : farB m p = false) (w : World) :
    Calls Try.prog 79 #[.float .f64 x] w fun e w' => ∃ ra rb n, e = .returned (.complex .f32 ra rb) ∧
      Hid (av .f32 ra = fconv .f64 .f32 (phRe (quar 4 (restF x s m p) 0).2 (sineW (fop .sub .f64 (some cq) (quar 4 (restF x s m p) 0).1)) (sineW (quar 4 (restF x s m p) 0).1))) ∧
      Hid (av .f32 rb = fconv .f64 .f32 (phIm (quar 4 (restF x s m p) 0).2 (sineW (fop .sub .f64 (some cq) (quar 4 (restF x s m p) 0).1)) (sineW (quar 4 (restF x s m p) 0).1))) ∧ w' = w.drewN n := by
  have hl := far_not hf
  have hq0 := restF_qb dx hl
  have hc := conv_int dx hl
  have hsub : Hid (fop .sub .f64 (av .f64 x) (av .f64 x) = some 0) := by show _ = _; rw [av_num dx]; exact sub_self64 dx
  have hfar := far_two dx
  rw [hf, Bool.or_eq_false_iff] at hfar
  obtain ⟨hfA, hfB⟩ := hfar
  have hF : Hid (restF x s m p = bif flt .f64 (fop .sub .f64 (some x) (some (wholeF s m p))) (some 0) then fop .add .f64 (fop .sub .f64 (some x) (some (wholeF s m p))) (some c1) else fop .sub .f64 (some x) (some (wholeF s m p))) := rfl
  have HX := Lib.hid (av_num dx)
  have HW := Lib.hid (av_whole s hl)
  have hn : Hid (FloatKind.f64.nearest (Ieee.signed s (wholeN m p) 0) = wholeF s m p) := rfl
  generalize Ieee.signed s (wholeN m p) 0 = N at *
  generalize restF x s m p = F at *
  clear dx hl hf
  go_enter Try.func79, Try.ntmps79
  go_upto_if 10 with ((with_reducible apply wpList_farith (op := .sub)); rfl; rfl; rfl; intro ra na ha)
  obtain ⟨rfl, _⟩ := av_some (ha.out.trans hsub.out)
  clear ha hsub
  go_upto_if 26 with ((with_reducible apply wpList_farith (op := .sub)); rfl; rfl; rfl; intro r1 n1 hr1)
  have HR : Hid (av .f64 r1 = fop .sub .f64 (some x) (some (wholeF s m p))) := by show _ = _; rw [hr1.out, HX.out, show floatOfInt .f64 N = wholeF s m p from hn.out, HW.out]
  clear hr1 HX HW hfA hfB hc
  go_cut [3] (fun s3 wx => ∃ r n, s3 = .float .f64 r ∧ Hid (av .f64 r = F) ∧ wx = w.drewN n)
  case first =>
    go_wp2_with ((with_reducible apply wpList_farith); rfl; rfl; rfl; intro r n hr)
    · rename_i hb
      go_meet
      refine ⟨_, _, rfl, ?_, rfl⟩
      rw [flt_raw64, HR.out, av_0] at hb
      show _ = _
      rw [hF.out, hb, hr.out, HR.out, av_c1n]; rfl
    · rename_i hb
      go_meet
      refine ⟨_, _, rfl, ?_, rfl⟩
      rw [flt_raw64, HR.out, av_0] at hb
      show _ = _
      rw [hF.out, hb, HR.out]; rfl
  case rest =>
  obtain ⟨r0, n0, rfl, h0, rfl⟩ := hcut
  clear HR hF
  go_wp2_with fail
  go_loopg [3, 4] 4 (fun gk s3 s4 wr => ∃ (q rf : Nat) (Q : Int), s3 = .float .f64 rf ∧ s4 = .int .i64 Q ∧ Hid (Qb gk (av .f64 rf)) ∧ gk ≤ 4 ∧ 0 ≤ Q ∧ Q + gk = 4 ∧ Hid (quar gk (av .f64 rf) Q = quar 4 F 0) ∧ wr = w.drewN q)
  case atStart => exact ⟨_, r0, 0, rfl, rfl, by show Qb _ _; rw [h0.out]; exact hq0, by omega, by omega, by omega, by show _ = _; rw [h0.out], rfl⟩
  case round =>
    obtain ⟨q, rf, Q, rfl, rfl, hQ, hg4, hQ0, hQ4, hR, rfl⟩ := hrel
    cases hc : (FloatKind.f64.format.order rf 4598175219545276416 == some .gt || FloatKind.f64.format.order rf 4598175219545276416 == some .eq)
    · have hge : fge .f64 (av .f64 rf) (some cq) = false := by rw [← av_cqc, ← fge_raw64, hc]
      have hR2 : Hid (quar 4 F 0 = (av .f64 rf, Q)) := by show _ = _; rw [← hR.out]; exact quar_stop hge
      have hB := hQ.out.bd hg4
      have hb2 : Bd .f64 1 (fop .sub .f64 (some cq) (av .f64 rf)) := (bd_sub (a := -2) (b := 0) (has64 (by omega) (by omega)) pb_cq.bd hB).mono (by omega)
      have hfits := ph_fits Q (sineW_bd hb2) (sineW_bd (hB.mono (by omega)))
      clear hR hQ hq0 hge hB h0 hb2
      go_upto_region 13 with (first
        | ((with_reducible apply wpList_farith (op := .sub)); rfl; rfl; rfl; intro r26 m26 h26)
        | (go_at_call 87; refine (sineWide_any _ _).mono ?_; rintro e w' ⟨rc, nc, rfl, hC0, rfl⟩))
      have hC : Hid (av .f64 rc = sineW (fop .sub .f64 (some cq) (av .f64 rf))) := by show _ = _; rw [hC0.out, h26.out, av_cqc]
      clear hC0 h26
      go_upto_region 14 with (go_at_call 87; refine (sineWide_any _ _).mono ?_; rintro e w' ⟨rs, ns, rfl, hS, rfl⟩)
      generalize hCC0 : sineW (fop .sub .f64 (some cq) (av .f64 rf)) = C at *
      have hCC := Lib.hid hCC0
      clear hCC0
      generalize hSS : sineW (av .f64 rf) = S at *
      have HSS := Lib.hid hSS
      clear hSS
      obtain rfl | rfl | rfl | hd : Q = 1 ∨ Q = 2 ∨ Q = 3 ∨ (Q ≠ 1 ∧ Q ≠ 2 ∧ Q ≠ 3) := by omega
      · have e1 : Hid (phRe 1 C S = fop .sub .f64 (some 0) S) := by show _ = _; rfl
        have e2 : Hid (phIm 1 C S = C) := by show _ = _; rfl
        rw [e1.out, e2.out] at hfits
        have hG : Hid (phRe (quar 4 F 0).2 (sineW (fop .sub .f64 (some cq) (quar 4 F 0).1)) (sineW (quar 4 F 0).1) = phRe 1 C S) := by show _ = _; rw [hR2.out]; simp only [hCC.out, HSS.out]
        have hG2 : Hid (phIm (quar 4 F 0).2 (sineW (fop .sub .f64 (some cq) (quar 4 F 0).1)) (sineW (quar 4 F 0).1) = phIm 1 C S) := by show _ = _; rw [hR2.out]; simp only [hCC.out, HSS.out]
        go_wp2_with (first
          | ((with_reducible apply wpList_farith (op := .sub)); rfl; rfl; rfl; intro r34 m34 h34)
          | (go_at_call_of 84 (Value.float FloatKind.f64 r34); refine (l01Narrow_any (by show _ = _; exact (h34.out.trans (by rw [hS.out, av_0]))) hfits.1 _).mono ?_; rintro e w' ⟨ra, n1, rfl, ha, rfl⟩)
          | (go_at_call_of 84 (Value.float FloatKind.f64 rc); refine (l01Narrow_any (by show _ = _; exact hC.out) hfits.2 _).mono ?_; rintro e w' ⟨rb, n2, rfl, hb, rfl⟩))
        go_ret
        refine ⟨_, _, _, rfl, ?_, ?_, rfl⟩
        · show _ = _
          rw [hG.out, e1.out, ha.out]
        · show _ = _
          rw [hG2.out, e2.out, hb.out]
      · have e1 : Hid (phRe 2 C S = fop .sub .f64 (some 0) C) := by show _ = _; rfl
        have e2 : Hid (phIm 2 C S = fop .sub .f64 (some 0) S) := by show _ = _; rfl
        rw [e1.out, e2.out] at hfits
        have hG : Hid (phRe (quar 4 F 0).2 (sineW (fop .sub .f64 (some cq) (quar 4 F 0).1)) (sineW (quar 4 F 0).1) = phRe 2 C S) := by show _ = _; rw [hR2.out]; simp only [hCC.out, HSS.out]
        have hG2 : Hid (phIm (quar 4 F 0).2 (sineW (fop .sub .f64 (some cq) (quar 4 F 0).1)) (sineW (quar 4 F 0).1) = phIm 2 C S) := by show _ = _; rw [hR2.out]; simp only [hCC.out, HSS.out]
        go_wp2_with (first
          | (((with_reducible apply wpList_farith (op := .sub) (bz := rc)); rfl; rfl; rfl; intro r40 m40 h40)) | (((with_reducible apply wpList_farith (op := .sub) (bz := rs)); rfl; rfl; rfl; intro r42 m42 h42))
          | (go_at_call_of 84 (Value.float FloatKind.f64 r40); refine (l01Narrow_any (by show _ = _; exact (h40.out.trans (by rw [hC.out, av_0]))) hfits.1 _).mono ?_; rintro e w' ⟨ra, n1, rfl, ha, rfl⟩)
          | (go_at_call_of 84 (Value.float FloatKind.f64 r42); refine (l01Narrow_any (by show _ = _; exact (h42.out.trans (by rw [hS.out, av_0]))) hfits.2 _).mono ?_; rintro e w' ⟨rb, n2, rfl, hb, rfl⟩))
        go_ret
        refine ⟨_, _, _, rfl, ?_, ?_, rfl⟩
        · show _ = _
          rw [hG.out, e1.out, ha.out]
        · show _ = _
          rw [hG2.out, e2.out, hb.out]
      · have e1 : Hid (phRe 3 C S = S) := by show _ = _; rfl
        have e2 : Hid (phIm 3 C S = fop .sub .f64 (some 0) C) := by show _ = _; rfl
        rw [e1.out, e2.out] at hfits
        have hG : Hid (phRe (quar 4 F 0).2 (sineW (fop .sub .f64 (some cq) (quar 4 F 0).1)) (sineW (quar 4 F 0).1) = phRe 3 C S) := by show _ = _; rw [hR2.out]; simp only [hCC.out, HSS.out]
        have hG2 : Hid (phIm (quar 4 F 0).2 (sineW (fop .sub .f64 (some cq) (quar 4 F 0).1)) (sineW (quar 4 F 0).1) = phIm 3 C S) := by show _ = _; rw [hR2.out]; simp only [hCC.out, HSS.out]
        go_wp2_with (first
          | ((with_reducible apply wpList_farith (op := .sub)); rfl; rfl; rfl; intro r34 m34 h34)
          | (go_at_call_of 84 (Value.float FloatKind.f64 rs); refine (l01Narrow_any (by show _ = _; exact hS.out) hfits.1 _).mono ?_; rintro e w' ⟨ra, n1, rfl, ha, rfl⟩)
          | (go_at_call_of 84 (Value.float FloatKind.f64 r34); refine (l01Narrow_any (by show _ = _; exact (h34.out.trans (by rw [hC.out, av_0]))) hfits.2 _).mono ?_; rintro e w' ⟨rb, n2, rfl, hb, rfl⟩))
        go_ret
        refine ⟨_, _, _, rfl, ?_, ?_, rfl⟩
        · show _ = _
          rw [hG.out, e1.out, ha.out]
        · show _ = _
          rw [hG2.out, e2.out, hb.out]
      · have e1 : Hid (phRe Q C S = C) := by show _ = _; unfold phRe; rw [if_neg hd.1, if_neg hd.2.1, if_neg hd.2.2]
        have e2 : Hid (phIm Q C S = S) := by show _ = _; unfold phIm; rw [if_neg hd.1, if_neg hd.2.1, if_neg hd.2.2]
        rw [e1.out, e2.out] at hfits
        have hG : Hid (phRe (quar 4 F 0).2 (sineW (fop .sub .f64 (some cq) (quar 4 F 0).1)) (sineW (quar 4 F 0).1) = phRe Q C S) := by show _ = _; rw [hR2.out]; simp only [hCC.out, HSS.out]
        have hG2 : Hid (phIm (quar 4 F 0).2 (sineW (fop .sub .f64 (some cq) (quar 4 F 0).1)) (sineW (quar 4 F 0).1) = phIm Q C S) := by show _ = _; rw [hR2.out]; simp only [hCC.out, HSS.out]
        go_wp2_with (first
          | fail
          | (go_at_call_of 84 (Value.float FloatKind.f64 rc); refine (l01Narrow_any (by show _ = _; exact hC.out) hfits.1 _).mono ?_; rintro e w' ⟨ra, n1, rfl, ha, rfl⟩)
          | (go_at_call_of 84 (Value.float FloatKind.f64 rs); refine (l01Narrow_any (by show _ = _; exact hS.out) hfits.2 _).mono ?_; rintro e w' ⟨rb, n2, rfl, hb, rfl⟩))
        go_ret
        refine ⟨_, _, _, rfl, ?_, ?_, rfl⟩
        · show _ = _
          rw [hG.out, e1.out, ha.out]
        · show _ = _
          rw [hG2.out, e2.out, hb.out]
    · have hge : fge .f64 (av .f64 rf) (some cq) = true := by rw [← av_cqc, ← fge_raw64, hc]
      have hF := Lib.hid hge
      clear hge
      go_wp2_with ((with_reducible apply wpList_farith); rfl; rfl; rfl; intro _ _ _)
      rename_i r24 m24 h24
      obtain ⟨g1, g2⟩ := quart hg4 hQ.out hF.out
      have e24 : av .f64 r24 = fop .sub .f64 (av .f64 rf) (some cq) := by rw [h24.out, av_cqc]
      obtain ⟨g', rfl⟩ : ∃ g', gk = g' + 1 := ⟨gk - 1, by omega⟩
      go_roundg g'
      case measure => omega
      case rel =>
        refine ⟨_, r24, Q + 1, rfl, by go_num, ?_, by omega, by omega, by omega, ?_, rfl⟩
        · show Qb _ _
          rw [e24]; exact g2
        · show _ = _
          rw [e24, ← quar_go hF.out]; exact hR.out
end Go.Proofs.Ytdbpkkbijpppfaa
