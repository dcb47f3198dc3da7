/- Prices: what the program computes. -/
import Derived.Test.YteodplednmeaaaaAP
namespace Go.Proofs.Yteodplednmeaaaa
open Go.RowKit
set_option linter.unusedVariables false
set_option linter.unusedSimpArgs false
attribute [local go_sem] lo_value lo_enter run_store_float run_neg LC.lc_value LC.lc_enter
set_option maxHeartbeats 4000000 in
set_option maxRecDepth 100000 in
theorem implArePrices_any (v : Int) (A1 A2 A3 : Option Addr) (n1 n2 n3 c1 c2 c3 : Nat) (N B G : List Nat) (X : Option Addr) (m d : Nat) (M : List Nat) (near : Nat) (w : World) (h1 : FS w A1 n1 N) (h2 : FS w A2 n2 B) (h3 : FS w A3 n3 G) (b1 : n1 ≤ 1048576) (b2 : n2 ≤ 1048576) (b3 : n3 ≤ 1048576) (hx : FS w X m M) (bm : m ≤ 1048576) (hn : (Lit.float .f32 near).wf = true) (hcap : n1 = c1 := by rfl) :
    Calls Try.prog 43 #[.agg #[.int .i64 v, .slice A1 n1 c1, .slice A2 n2 c2, .slice A3 n3 c3], .slice X m d, .float .f32 near] w fun e w' => e = .returned (.bool (pricesV v n1 n2 n3 N B G m M near)) ∧ Below w.heap.size w w' := by
  have HB : Below w.heap.size w (w.alloc (.cells #[.int .i64 v, .slice A1 n1 c1, .slice A2 n2 c2, .slice A3 n3 c3] 36)) := (Below.refl _ _).alloc (Nat.le_refl _) _
  have HR := Row.new w 36 #[.int .i64 v, .slice A1 n1 c1, .slice A2 n2 c2, .slice A3 n3 c3]
  have k1 := h1.below HB
  have k2 := h2.below HB
  have k3 := h3.below HB
  have kx := hx.below HB
  clear h1 h2 h3 hx
  cases hV : validV v n1 n2 n3 N B G
  · have H : Hid (pricesV v n1 n2 n3 N B G m M near = false) := by show _ = _; rw [pricesV, pricedV, hV]; rfl
    clear hcap
    go_enter Try.func43, Try.ntmps43
    go_wp2_with fail
    refine (implValidRows_any v A1 A2 A3 n1 n2 n3 c1 c2 c3 N B G _ k1 k2 k3 b1 b2 b3).mono ?_
    rintro e w1 ⟨rfl, hb⟩
    rw [hV]
    go_wp2_with fail
    go_ret
    exact ⟨by rw [H.out]; rfl, HB.trans (hb.mono HB.size)⟩
  cases hl : asLong n2 m M
  · have H : Hid (pricesV v n1 n2 n3 N B G m M near = false) := by show _ = _; rw [pricesV, pricedV, hV, hl]; rfl
    clear hcap
    go_enter Try.func43, Try.ntmps43
    go_wp2_with fail
    refine (implValidRows_any v A1 A2 A3 n1 n2 n3 c1 c2 c3 N B G _ k1 k2 k3 b1 b2 b3).mono ?_
    rintro e w1 ⟨rfl, hb⟩
    rw [hV]
    replace HR := HR.below hb HR.lt
    replace HB := HB.trans (hb.mono HB.size)
    replace kx := kx.below hb
    clear hb k1 k2 k3
    have q0 : w1.cell? ⟨w.heap.size, 0, none⟩ = some (.int .i64 v) := HR.cell 0
    have q1 : w1.cell? ⟨w.heap.size, 1, none⟩ = some (.slice A1 n1 c1) := HR.cell 1
    have q2 : w1.cell? ⟨w.heap.size, 2, none⟩ = some (.slice A2 n2 c2) := HR.cell 2
    have q3 : w1.cell? ⟨w.heap.size, 3, none⟩ = some (.slice A3 n3 c3) := HR.cell 3
    go_wp2_with fail
    refine (isY_any v A1 A2 A3 n1 n2 n3 c1 c2 c3 X m d M _ kx bm).mono ?_
    rintro e w2 ⟨rfl, hb⟩
    rw [hl]
    go_wp2_with fail
    go_ret
    exact ⟨by rw [H.out]; rfl, HB.trans (hb.mono HB.size)⟩
  have hf : pricedV v n1 n2 n3 N B G m M = true := by rw [pricedV, hV, hl]; rfl
  cases hne : leastA (av .f32 near)
  · have H : Hid (pricesV v n1 n2 n3 N B G m M near = false) := by show _ = _; rw [pricesV, hf, hne]; rfl
    clear hcap hf
    go_enter Try.func43, Try.ntmps43
    go_wp2_with fail
    refine (implValidRows_any v A1 A2 A3 n1 n2 n3 c1 c2 c3 N B G _ k1 k2 k3 b1 b2 b3).mono ?_
    rintro e w1 ⟨rfl, hb⟩
    rw [hV]
    replace HR := HR.below hb HR.lt
    replace HB := HB.trans (hb.mono HB.size)
    replace kx := kx.below hb
    clear hb k1 k2 k3
    have q0 : w1.cell? ⟨w.heap.size, 0, none⟩ = some (.int .i64 v) := HR.cell 0
    have q1 : w1.cell? ⟨w.heap.size, 1, none⟩ = some (.slice A1 n1 c1) := HR.cell 1
    have q2 : w1.cell? ⟨w.heap.size, 2, none⟩ = some (.slice A2 n2 c2) := HR.cell 2
    have q3 : w1.cell? ⟨w.heap.size, 3, none⟩ = some (.slice A3 n3 c3) := HR.cell 3
    go_wp2_with fail
    refine (isY_any v A1 A2 A3 n1 n2 n3 c1 c2 c3 X m d M _ kx bm).mono ?_
    rintro e w2 ⟨rfl, hb⟩
    rw [hl]
    replace HB := HB.trans (hb.mono HB.size)
    clear hb q0 q1 q2 q3
    go_wp2_with fail
    refine (isNear_any _ _).mono ?_
    rintro e wx ⟨q, rfl, rfl⟩
    rw [hne]
    go_wp2_with fail
    go_ret
    exact ⟨by rw [H.out]; rfl, below_drewN HB _⟩
  cases hls : leastL near M
  · have H : Hid (pricesV v n1 n2 n3 N B G m M near = false) := by show _ = _; rw [pricesV, hf, hne, hls]; rfl
    clear hcap hf
    go_enter Try.func43, Try.ntmps43
    go_wp2_with fail
    refine (implValidRows_any v A1 A2 A3 n1 n2 n3 c1 c2 c3 N B G _ k1 k2 k3 b1 b2 b3).mono ?_
    rintro e w1 ⟨rfl, hb⟩
    rw [hV]
    replace HR := HR.below hb HR.lt
    replace HB := HB.trans (hb.mono HB.size)
    replace kx := kx.below hb
    clear hb k1 k2 k3
    have q0 : w1.cell? ⟨w.heap.size, 0, none⟩ = some (.int .i64 v) := HR.cell 0
    have q1 : w1.cell? ⟨w.heap.size, 1, none⟩ = some (.slice A1 n1 c1) := HR.cell 1
    have q2 : w1.cell? ⟨w.heap.size, 2, none⟩ = some (.slice A2 n2 c2) := HR.cell 2
    have q3 : w1.cell? ⟨w.heap.size, 3, none⟩ = some (.slice A3 n3 c3) := HR.cell 3
    go_wp2_with fail
    refine (isY_any v A1 A2 A3 n1 n2 n3 c1 c2 c3 X m d M _ kx bm).mono ?_
    rintro e w2 ⟨rfl, hb⟩
    rw [hl]
    replace HB := HB.trans (hb.mono HB.size)
    replace kx := kx.below hb
    clear hb q0 q1 q2 q3
    go_wp2_with fail
    refine (isNear_any _ _).mono ?_
    rintro e wx ⟨q, rfl, rfl⟩
    rw [hne]
    go_wp2_with fail
    refine (areAtLeast_any X m d M near _ (kx.drewN _) bm).mono ?_
    rintro e wx ⟨rfl, rfl⟩
    rw [hls]
    go_wp2_with fail
    go_ret
    exact ⟨by rw [H.out]; rfl, below_drewN HB _⟩
  have H0 : Hid (pricesV v n1 n2 n3 N B G m M near = priceAll near N M G n3 n2 n3) := by show _ = _; rw [pricesV, hf, hne, hls]; rfl
  obtain ⟨hnan, hav⟩ := least_nan (wf32 hn) hne
  have hnf := least_fin hne
  obtain ⟨hl0, ⟨s1, s2, s3, s4, s5, s6⟩, hfin, hfinG⟩ := priced_parts hf
  have hn1 : n1 = n2 * n3 := by
    have : (n1 : Int) = ((n2 * n3 : Nat) : Int) := by rw [s6, ← s5, Int.natCast_mul, Int.mul_comm]
    exact Int.ofNat.inj this
  have hlen : n2 ≤ m := Nat.le_of_eq hl0.symm
  have hlen' : m ≤ n2 := Nat.le_of_eq hl0
  clear hl0 s6 hf hnan hfin
  subst s5
  subst hcap
  subst hn1
  obtain ⟨b, off, rfl, hb0, hcells⟩ := k1.2 (Nat.mul_pos (by omega) (by omega))
  clear hcells hb0
  go_enter Try.func43, Try.ntmps43
  go_wp2_with fail
  refine (implValidRows_any (↑n3) (some ⟨b, off, none⟩) A2 A3 (n2 * n3) n2 n3 (n2 * n3) c2 c3 N B G _ k1 k2 k3 b1 b2 b3).mono ?_
  rintro e w1 ⟨rfl, hb⟩
  rw [hV]
  replace HR := HR.below hb HR.lt
  replace HB := HB.trans (hb.mono HB.size)
  replace kx := kx.below hb
  replace k1 := k1.below hb
  replace k3 := k3.below hb
  clear hb k2
  have q0 : w1.cell? ⟨w.heap.size, 0, none⟩ = some (.int .i64 (n3 : Int)) := HR.cell 0
  have q1 : w1.cell? ⟨w.heap.size, 1, none⟩ = some (.slice (some ⟨b, off, none⟩) (n2 * n3) (n2 * n3)) := HR.cell 1
  have q2 : w1.cell? ⟨w.heap.size, 2, none⟩ = some (.slice A2 n2 c2) := HR.cell 2
  have q3 : w1.cell? ⟨w.heap.size, 3, none⟩ = some (.slice A3 n3 c3) := HR.cell 3
  go_wp2_with fail
  refine (isY_any (↑n3) (some ⟨b, off, none⟩) A2 A3 (n2 * n3) n2 n3 (n2 * n3) c2 c3 X m d M _ kx bm).mono ?_
  rintro e w2 ⟨rfl, hb⟩
  rw [hl]
  replace HR := HR.below hb HR.lt
  replace HB := HB.trans (hb.mono HB.size)
  replace kx := kx.below hb
  replace k1 := k1.below hb
  replace k3 := k3.below hb
  clear hb q0 q1 q2 q3
  go_wp2_with fail
  refine (isNear_any _ _).mono ?_
  rintro e wx ⟨q, rfl, rfl⟩
  rw [hne]
  go_wp2_with fail
  refine (areAtLeast_any X m d M near _ (kx.drewN _) bm).mono ?_
  rintro e wx ⟨rfl, rfl⟩
  rw [hls]
  have q3 : w2.cell? ⟨w.heap.size, 3, none⟩ = some (.slice A3 n3 c3) := HR.cell 3
  clear hV hl hne hls
  go_wp2_with fail
  clear q3
  go_loopw [34] (fun i wr => ∃ j : Nat, j ≤ n3 ∧ i = .int .i64 j ∧ Below w2.heap.size w2 wr ∧ priceAll near N M G n3 n2 j = true) (fun i _ => n3 - (intOf i).toNat)
  case atStart => exact ⟨0, Nat.zero_le _, rfl, below_drewN (Below.refl _ _) _, rfl⟩
  case round =>
    obtain ⟨j, hj, rfl, hbel, hrel⟩ := hrel
    have HRL := Lib.hid hrel
    clear hrel
    have HR' := HR.below hbel HR.lt
    have HB' := HB.trans (hbel.mono HB.size)
    have k3' := k3.below hbel
    by_cases hlt2 : j < n3
    · obtain ⟨b5, off5, g, rfl, hb5, hc5, hx5, hs5⟩ := k3'.at_ hlt2
      have hfg := fin_of_all hfinG hx5
      have HG := Lib.hid (getD_of (z := 0) hx5)
      obtain ⟨c, hrun, hcv, hcs⟩ := sub_run hfg hnf
      have HCV := Lib.hid hcv
      have q2 : wr.cell? ⟨w.heap.size, 2, none⟩ = some (.slice A2 n2 c2) := HR'.cell 2
      have hlt4 : (j : Int) < (n3 : Int) := by omega
      clear hx5 hs5 hcv
      go_wp2_with fail
      clear q2
      go_loopw [9, 42] (fun s i wq => ∃ i' rs : Nat, i' ≤ n2 ∧ i = .int .i64 i' ∧ s = .float .f32 rs ∧ Below w2.heap.size w2 wq ∧ Hid (av .f32 rs = priceS N M n3 j i')) (fun _ i _ => n2 - (intOf i).toNat)
      case atStart => exact ⟨0, 0, Nat.zero_le _, rfl, rfl, hbel, by show _ = _; exact av_zero _⟩
      case round =>
        obtain ⟨i', rs, hi', rfl, rfl, hbq, hS⟩ := hrel
        have HR3 := HR.below hbq HR.lt
        have HB3 := HB.trans (hbq.mono HB.size)
        have k1' := k1.below hbq
        have kx' := kx.below hbq
        by_cases hlt3 : i' < n2
        · obtain ⟨b6, off6, x, e6, hb6, hc6, hx6, hs6⟩ := k1'.at_ (col_fits hlt3 hlt2)
          injection e6 with e6
          injection e6 with e6 e7
          subst e6; subst e7
          obtain ⟨b7, off7, y, rfl, hb7, hc7, hx7, hs7⟩ := kx'.at_ (show i' < m by omega)
          have HX := Lib.hid (getD_of (z := 0) hx6)
          have HY := Lib.hid (getD_of (z := 0) hx7)
          have HU := Lib.hid (show priceS N M n3 j (i' + 1) = fop .add .f32 (priceS N M n3 j i') (fop .mul .f32 (av .f32 (N.getD (i' * n3 + j) 0)) (av .f32 (M.getD i' 0))) from rfl)
          have hc6' : wr.cell? ⟨b, off + i' * n3 + j, none⟩ = some (.float .f32 x) := by rw [Nat.add_assoc]; exact hc6
          have l3 : (i' : Int) < (m : Int) := by omega
          have hs8 : n3 ≤ 8 := by omega
          have hs1 : 1 ≤ n3 := by omega
          clear hx6 hs6 hx7 hs7 hc6
          go_wp2_with fail
          refine LC.wp_region wr (fun _ _ => .slice (some ⟨b, off + i' * n3, none⟩) n3 (n2 * n3 - i' * n3)) (Below.refl _ _) (by kernel_rfl) (by kernel_rfl) ?_
          refine LC.plain rfl (fun K hK w' hw' => ?_)
          go_simp
          first | refine ⟨hw', hK _ ?_⟩ | refine hK _ ?_
          clear hK K
          clear hw' w'
          refine LC.plain rfl (fun K hK w' hw' => ?_)
          have hz : Below wr.heap.size wr w' := hw'
          have q0 : w'.cell? ⟨w.heap.size, 0, none⟩ = some (.int .i64 (n3 : Int)) := (HR3.below hw' HR3.lt).cell 0
          have q1 : w'.cell? ⟨w.heap.size, 1, none⟩ = some (.slice (some ⟨b, off, none⟩) (n2 * n3) (n2 * n3)) := (HR3.below hw' HR3.lt).cell 1
          have q2 : w'.cell? ⟨w.heap.size, 2, none⟩ = some (.slice A2 n2 c2) := (HR3.below hw' HR3.lt).cell 2
          have q3 : w'.cell? ⟨w.heap.size, 3, none⟩ = some (.slice (some ⟨b5, off5, none⟩) n3 c3) := (HR3.below hw' HR3.lt).cell 3
          have q4 := (hz.cell (p := ⟨b, off + i' * n3 + j, none⟩) hb6).trans hc6'
          have q5 := (hz.cell (p := ⟨b7, off7 + i', none⟩) hb7).trans hc7
          go_simp
          first | refine ⟨hw', hK _ ?_⟩ | refine hK _ ?_
          clear hK K
          clear q5 q4 q3 q2 q1 q0 hz
          clear hw' w'
          refine LC.plain rfl (fun K hK w' hw' => ?_)
          go_simp
          first | refine ⟨hw', hK _ ?_⟩ | refine hK _ ?_
          clear hK K
          clear hw' w'
          refine LC.plain rfl (fun K hK w' hw' => ?_)
          go_simp
          refine ⟨LC.call_gr hw' ?_, hK _ ?_⟩
          · first | (exact row_any i' n3 b off A2 _ n2 n3 (n2 * n3) c2 c3 w' hlt3 hs1 hs8 s4 (Nat.le_refl _) b1)
          clear hK K
          clear hw' w'
          refine LC.plain rfl (fun K hK w' hw' => ?_)
          go_simp
          first | refine ⟨hw', hK _ ?_⟩ | refine hK _ ?_
          clear hK K
          clear hw' w'
          refine LC.plain rfl (fun K hK w' hw' => ?_)
          go_simp
          first | refine ⟨hw', hK _ ?_⟩ | refine hK _ ?_
          clear hK K
          clear hw' w'
          refine LC.plain rfl (fun K hK w' hw' => ?_)
          have hz : Below wr.heap.size wr w' := hw'
          have q0 : w'.cell? ⟨w.heap.size, 0, none⟩ = some (.int .i64 (n3 : Int)) := (HR3.below hw' HR3.lt).cell 0
          have q1 : w'.cell? ⟨w.heap.size, 1, none⟩ = some (.slice (some ⟨b, off, none⟩) (n2 * n3) (n2 * n3)) := (HR3.below hw' HR3.lt).cell 1
          have q2 : w'.cell? ⟨w.heap.size, 2, none⟩ = some (.slice A2 n2 c2) := (HR3.below hw' HR3.lt).cell 2
          have q3 : w'.cell? ⟨w.heap.size, 3, none⟩ = some (.slice (some ⟨b5, off5, none⟩) n3 c3) := (HR3.below hw' HR3.lt).cell 3
          have q4 := (hz.cell (p := ⟨b, off + i' * n3 + j, none⟩) hb6).trans hc6'
          have q5 := (hz.cell (p := ⟨b7, off7 + i', none⟩) hb7).trans hc7
          go_simp
          first | refine ⟨hw', hK _ ?_⟩ | refine hK _ ?_
          clear hK K
          clear q5 q4 q3 q2 q1 q0 hz
          clear hw' w'
          refine LC.plain rfl (fun K hK w' hw' => ?_)
          go_simp
          first | refine ⟨hw', hK _ ?_⟩ | refine hK _ ?_
          clear hK K
          clear hw' w'
          refine LC.plain rfl (fun K hK w' hw' => ?_)
          go_simp
          first | refine ⟨hw', hK _ ?_⟩ | refine hK _ ?_
          clear hK K
          clear hw' w'
          refine LC.plain rfl (fun K hK w' hw' => ?_)
          go_simp
          first | refine ⟨hw', hK _ ?_⟩ | refine hK _ ?_
          clear hK K
          clear hw' w'
          refine LC.plain rfl (fun K hK w' hw' => ?_)
          have hz : Below wr.heap.size wr w' := hw'
          have q0 : w'.cell? ⟨w.heap.size, 0, none⟩ = some (.int .i64 (n3 : Int)) := (HR3.below hw' HR3.lt).cell 0
          have q1 : w'.cell? ⟨w.heap.size, 1, none⟩ = some (.slice (some ⟨b, off, none⟩) (n2 * n3) (n2 * n3)) := (HR3.below hw' HR3.lt).cell 1
          have q2 : w'.cell? ⟨w.heap.size, 2, none⟩ = some (.slice A2 n2 c2) := (HR3.below hw' HR3.lt).cell 2
          have q3 : w'.cell? ⟨w.heap.size, 3, none⟩ = some (.slice (some ⟨b5, off5, none⟩) n3 c3) := (HR3.below hw' HR3.lt).cell 3
          have q4 := (hz.cell (p := ⟨b, off + i' * n3 + j, none⟩) hb6).trans hc6'
          have q5 := (hz.cell (p := ⟨b7, off7 + i', none⟩) hb7).trans hc7
          go_simp
          first | refine ⟨hw', hK _ ?_⟩ | refine hK _ ?_
          clear hK K
          clear q5 q4 q3 q2 q1 q0 hz
          clear hw' w'
          with_reducible apply LC.farith
          · rfl
          · rfl
          · rfl
          intro r hr
          with_reducible apply LC.farith
          · rfl
          · rfl
          · rfl
          intro r hr
          refine LC.plain rfl (fun K hK w' hw' => ?_)
          go_simp
          first | refine ⟨hw', hK _ ?_⟩ | refine hK _ ?_
          clear hK K
          clear hw' w'
          refine LC.nil ?_
          intro wq hwq
          have hW : Below wr.heap.size wr wq := hwq
          have hbw : Below w2.heap.size w2 wq := hbq.trans (hW.mono hbq.size)
          clear hwq hW
          go_wp2_with fail
          go_roundw
          case rel => exact ⟨i' + 1, _, by omega, by go_num, rfl, hbw, by show _ = _; rw [HU.out, HX.out, HY.out]; simp only [Hid] at *; simp [*]⟩
          case measure => simp [intOf]; omega
        · obtain rfl : i' = n2 := by omega
          have HK : Hid (priceOk near N M G n3 i' j = (finA .f32 (av .f32 rs) && fge .f32 (av .f32 rs) (av .f32 c))) := by show _ = _; rw [priceOk, HG.out, hS.out, HCV.out]
          cases hfr : finA .f32 (av .f32 rs)
          · have HF : Hid (priceOk near N M G n3 i' j = false) := by show _ = _; rw [HK.out, hfr]; rfl
            go_wp2_with (go_at_call 89; refine (implIsFinite_any _ _).mono ?_; rintro e w' ⟨m1, rfl, rfl⟩; rw [hfr])
            go_ret
            exact ⟨ret_bool (by rw [H0.out, priceAll_false hlt2 HF.out]), below_drewN HB3 _⟩
          · have hsome : ∃ d, av .f32 rs = some d := by
              cases ha : av .f32 rs with
              | none => rw [ha] at hfr; cases hfr
              | some d => exact ⟨d, rfl⟩
            have hlg := lt_ge hsome hcs
            cases hge : (FloatKind.f32.format.order rs c == some .lt)
            · have HF : Hid (priceOk near N M G n3 i' j = true) := by show _ = _; rw [HK.out, hfr, hlg, ← flt_raw2, hge]; rfl
              clear hlg hsome hcs
              go_wp2_with (go_at_call 89; refine (implIsFinite_any _ _).mono ?_; rintro e w' ⟨m1, rfl, rfl⟩; rw [hfr])
              go_roundw
              case rel => exact ⟨j + 1, by omega, by go_num, below_drewN hbq _, by rw [priceAll_succ, HRL.out, HF.out]; rfl⟩
              case measure => simp [intOf]; omega
            · have HF : Hid (priceOk near N M G n3 i' j = false) := by show _ = _; rw [HK.out, hfr, hlg, ← flt_raw2, hge]; rfl
              clear hlg hsome hcs
              go_wp2_with (go_at_call 89; refine (implIsFinite_any _ _).mono ?_; rintro e w' ⟨m1, rfl, rfl⟩; rw [hfr])
              go_ret
              exact ⟨ret_bool (by rw [H0.out, priceAll_false hlt2 HF.out]), below_drewN HB3 _⟩
    · obtain rfl : j = n3 := by omega
      go_wp2_with fail
      go_ret
      exact ⟨ret_bool (by rw [H0.out, HRL.out]), HB'⟩
end Go.Proofs.Yteodplednmeaaaa
