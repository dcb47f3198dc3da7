/- Rays: what the program computes. -/
import Derived.Test.YteodplednmeaaaaY
namespace Go.Proofs.Yteodplednmeaaaa
open Go.RowKit
set_option linter.unusedVariables false
set_option linter.unusedSimpArgs false
attribute [local go_sem] lo_value lo_enter run_store_float run_neg

set_option maxHeartbeats 4000000 in
set_option maxRecDepth 100000 in
theorem implIsRay_any (v : Int) (A1 A2 A3 : Option Addr) (n1 n2 n3 c1 c2 c3 : Nat) (N B G : List Nat) (X : Option Addr) (m d : Nat) (M : List Nat) (near : Nat) (w : World) (h1 : FS w A1 n1 N) (h2 : FS w A2 n2 B) (h3 : FS w A3 n3 G) (b1 : n1 ≤ 1048576) (b2 : n2 ≤ 1048576) (b3 : n3 ≤ 1048576) (hx : FS w X m M) (bm : m ≤ 1048576) (hn : (Lit.float .f32 near).wf = true) (hcap : n1 = c1 := by rfl) :
    Calls Try.prog 45 #[.agg #[.int .i64 v, .slice A1 n1 c1, .slice A2 n2 c2, .slice A3 n3 c3], .slice X m d, .float .f32 near] w fun e w' => e = .returned (.bool (rayV v n1 n2 n3 N B G m M near)) ∧ Below w.heap.size w w' := by
  have HB : Below w.heap.size w (w.alloc (.cells #[.int .i64 v, .slice A1 n1 c1, .slice A2 n2 c2, .slice A3 n3 c3] 36)) := (Below.refl _ _).alloc (Nat.le_refl _) _
  have HR := Row.new w 36 #[.int .i64 v, .slice A1 n1 c1, .slice A2 n2 c2, .slice A3 n3 c3]
  have k1 := h1.below HB
  have k2 := h2.below HB
  have k3 := h3.below HB
  have kx := hx.below HB
  clear h1 h2 h3 hx
  cases hV : validV v n1 n2 n3 N B G
  · have H : Hid (rayV v n1 n2 n3 N B G m M near = false) := by show _ = _; rw [rayV, fitV, hV]; rfl
    clear hcap
    go_enter Try.func45, Try.ntmps45
    go_wp2_with fail
    refine (implValidRows_any v A1 A2 A3 n1 n2 n3 c1 c2 c3 N B G _ k1 k2 k3 b1 b2 b3).mono ?_
    rintro e w1 ⟨rfl, hb⟩
    rw [hV]
    go_wp2_with fail
    go_ret
    exact ⟨by rw [H.out]; rfl, HB.trans (hb.mono HB.size)⟩
  cases hl : asLong v m M
  · have H : Hid (rayV v n1 n2 n3 N B G m M near = false) := by show _ = _; rw [rayV, fitV, hV, hl]; rfl
    clear hcap
    go_enter Try.func45, Try.ntmps45
    go_wp2_with fail
    refine (implValidRows_any v A1 A2 A3 n1 n2 n3 c1 c2 c3 N B G _ k1 k2 k3 b1 b2 b3).mono ?_
    rintro e w1 ⟨rfl, hb⟩
    rw [hV]
    replace HR := HR.below hb HR.lt
    replace HB := HB.trans (hb.mono HB.size)
    replace kx := kx.below hb
    clear hb k1 k2 k3
    have q0 : w1.cell? ⟨w.heap.size, 0, none⟩ = some (.int .i64 v) := HR.cell 0
    have q1 : w1.cell? ⟨w.heap.size, 1, none⟩ = some (.slice A1 n1 c1) := HR.cell 1
    have q2 : w1.cell? ⟨w.heap.size, 2, none⟩ = some (.slice A2 n2 c2) := HR.cell 2
    have q3 : w1.cell? ⟨w.heap.size, 3, none⟩ = some (.slice A3 n3 c3) := HR.cell 3
    go_wp2_with fail
    refine (isX_any v A1 A2 A3 n1 n2 n3 c1 c2 c3 X m d M _ kx bm).mono ?_
    rintro e w2 ⟨rfl, hb⟩
    rw [hl]
    go_wp2_with fail
    go_ret
    exact ⟨by rw [H.out]; rfl, HB.trans (hb.mono HB.size)⟩
  have hf : fitV v n1 n2 n3 N B G m M = true := by rw [fitV, hV, hl]; rfl
  cases hne : leastA (av .f32 near)
  · have H : Hid (rayV v n1 n2 n3 N B G m M near = false) := by show _ = _; rw [rayV, hf, hne]; rfl
    clear hcap hf
    go_enter Try.func45, Try.ntmps45
    go_wp2_with fail
    refine (implValidRows_any v A1 A2 A3 n1 n2 n3 c1 c2 c3 N B G _ k1 k2 k3 b1 b2 b3).mono ?_
    rintro e w1 ⟨rfl, hb⟩
    rw [hV]
    replace HR := HR.below hb HR.lt
    replace HB := HB.trans (hb.mono HB.size)
    replace kx := kx.below hb
    clear hb k1 k2 k3
    have q0 : w1.cell? ⟨w.heap.size, 0, none⟩ = some (.int .i64 v) := HR.cell 0
    have q1 : w1.cell? ⟨w.heap.size, 1, none⟩ = some (.slice A1 n1 c1) := HR.cell 1
    have q2 : w1.cell? ⟨w.heap.size, 2, none⟩ = some (.slice A2 n2 c2) := HR.cell 2
    have q3 : w1.cell? ⟨w.heap.size, 3, none⟩ = some (.slice A3 n3 c3) := HR.cell 3
    go_wp2_with fail
    refine (isX_any v A1 A2 A3 n1 n2 n3 c1 c2 c3 X m d M _ kx bm).mono ?_
    rintro e w2 ⟨rfl, hb⟩
    rw [hl]
    replace HB := HB.trans (hb.mono HB.size)
    clear hb q0 q1 q2 q3
    go_wp2_with fail
    refine (isNear_any _ _).mono ?_
    rintro e wx ⟨q, rfl, rfl⟩
    rw [hne]
    go_wp2_with fail
    go_ret
    exact ⟨by rw [H.out]; rfl, below_drewN HB _⟩
  cases hls : leastL near M
  · have H : Hid (rayV v n1 n2 n3 N B G m M near = false) := by show _ = _; rw [rayV, hf, hne, hls]; rfl
    clear hcap hf
    go_enter Try.func45, Try.ntmps45
    go_wp2_with fail
    refine (implValidRows_any v A1 A2 A3 n1 n2 n3 c1 c2 c3 N B G _ k1 k2 k3 b1 b2 b3).mono ?_
    rintro e w1 ⟨rfl, hb⟩
    rw [hV]
    replace HR := HR.below hb HR.lt
    replace HB := HB.trans (hb.mono HB.size)
    replace kx := kx.below hb
    clear hb k1 k2 k3
    have q0 : w1.cell? ⟨w.heap.size, 0, none⟩ = some (.int .i64 v) := HR.cell 0
    have q1 : w1.cell? ⟨w.heap.size, 1, none⟩ = some (.slice A1 n1 c1) := HR.cell 1
    have q2 : w1.cell? ⟨w.heap.size, 2, none⟩ = some (.slice A2 n2 c2) := HR.cell 2
    have q3 : w1.cell? ⟨w.heap.size, 3, none⟩ = some (.slice A3 n3 c3) := HR.cell 3
    go_wp2_with fail
    refine (isX_any v A1 A2 A3 n1 n2 n3 c1 c2 c3 X m d M _ kx bm).mono ?_
    rintro e w2 ⟨rfl, hb⟩
    rw [hl]
    replace HB := HB.trans (hb.mono HB.size)
    replace kx := kx.below hb
    clear hb q0 q1 q2 q3
    go_wp2_with fail
    refine (isNear_any _ _).mono ?_
    rintro e wx ⟨q, rfl, rfl⟩
    rw [hne]
    go_wp2_with fail
    refine (areAtLeast_any X m d M near _ (kx.drewN _) bm).mono ?_
    rintro e wx ⟨rfl, rfl⟩
    rw [hls]
    go_wp2_with fail
    go_ret
    exact ⟨by rw [H.out]; rfl, below_drewN HB _⟩
  have H0 : Hid (rayV v n1 n2 n3 N B G m M near = (rayAll near N M n3 n2 && rayEnd near G M)) := by show _ = _; rw [rayV, hf, hne, hls]; rfl
  obtain ⟨hnan, hav⟩ := least_nan (wf32 hn) hne
  obtain ⟨hl0, s1, s2, s3, s4, s5, s6⟩ := fit_len hf
  have hn1 : n1 = n2 * n3 := by
    have : (n1 : Int) = ((n2 * n3 : Nat) : Int) := by rw [s6, ← s5, Int.natCast_mul, Int.mul_comm]
    exact Int.ofNat.inj this
  have hlen : n3 ≤ m := Nat.le_of_eq hl0
  clear hl0 s6 hf hnan
  subst s5
  subst hcap
  subst hn1
  obtain ⟨b, off, rfl, hb0, hcells⟩ := k1.2 (Nat.mul_pos (by omega) (by omega))
  clear hcells hb0
  go_enter Try.func45, Try.ntmps45
  go_wp2_with fail
  refine (implValidRows_any (↑n3) (some ⟨b, off, none⟩) A2 A3 (n2 * n3) n2 n3 (n2 * n3) c2 c3 N B G _ k1 k2 k3 b1 b2 b3).mono ?_
  rintro e w1 ⟨rfl, hb⟩
  rw [hV]
  replace HR := HR.below hb HR.lt
  replace HB := HB.trans (hb.mono HB.size)
  replace kx := kx.below hb
  replace k1 := k1.below hb
  replace k3 := k3.below hb
  clear hb k2
  have q0 : w1.cell? ⟨w.heap.size, 0, none⟩ = some (.int .i64 (n3 : Int)) := HR.cell 0
  have q1 : w1.cell? ⟨w.heap.size, 1, none⟩ = some (.slice (some ⟨b, off, none⟩) (n2 * n3) (n2 * n3)) := HR.cell 1
  have q2 : w1.cell? ⟨w.heap.size, 2, none⟩ = some (.slice A2 n2 c2) := HR.cell 2
  have q3 : w1.cell? ⟨w.heap.size, 3, none⟩ = some (.slice A3 n3 c3) := HR.cell 3
  go_wp2_with fail
  refine (isX_any (↑n3) (some ⟨b, off, none⟩) A2 A3 (n2 * n3) n2 n3 (n2 * n3) c2 c3 X m d M _ kx bm).mono ?_
  rintro e w2 ⟨rfl, hb⟩
  rw [hl]
  replace HR := HR.below hb HR.lt
  replace HB := HB.trans (hb.mono HB.size)
  replace kx := kx.below hb
  replace k1 := k1.below hb
  replace k3 := k3.below hb
  clear hb q0 q1 q2 q3
  go_wp2_with fail
  refine (isNear_any _ _).mono ?_
  rintro e wx ⟨q, rfl, rfl⟩
  rw [hne]
  go_wp2_with fail
  refine (areAtLeast_any X m d M near _ (kx.drewN _) bm).mono ?_
  rintro e wx ⟨rfl, rfl⟩
  rw [hls]
  have q2 : w2.cell? ⟨w.heap.size, 2, none⟩ = some (.slice A2 n2 c2) := HR.cell 2
  clear hV hl hne hls
  go_wp2_with fail
  clear q2
  go_loopw [33] (fun i wr => ∃ j : Nat, j ≤ n2 ∧ i = .int .i64 j ∧ Below w2.heap.size w2 wr ∧ rayAll near N M n3 j = true) (fun i _ => n2 - (intOf i).toNat)
  case atStart => exact ⟨0, Nat.zero_le _, rfl, below_drewN (Below.refl _ _) _, rfl⟩
  case round =>
    obtain ⟨j, hj, rfl, hbel, hrel⟩ := hrel
    have HRL := Lib.hid hrel
    clear hrel
    have HR' := HR.below hbel HR.lt
    have HB' := HB.trans (hbel.mono HB.size)
    have kx' := kx.below hbel
    have k1' := k1.below hbel
    have k3' := k3.below hbel
    by_cases hlt2 : j < n2
    · have q0 : wr.cell? ⟨w.heap.size, 0, none⟩ = some (.int .i64 (n3 : Int)) := HR'.cell 0
      have q1 : wr.cell? ⟨w.heap.size, 1, none⟩ = some (.slice (some ⟨b, off, none⟩) (n2 * n3) (n2 * n3)) := HR'.cell 1
      have q2 : wr.cell? ⟨w.heap.size, 2, none⟩ = some (.slice A2 n2 c2) := HR'.cell 2
      have q3 : wr.cell? ⟨w.heap.size, 3, none⟩ = some (.slice A3 n3 c3) := HR'.cell 3
      go_wp2_with fail
      refine (row_any j n3 b off A2 A3 n2 n3 (n2 * n3) c2 c3 _ hlt2 (by omega) (by omega) (by omega) (Nat.le_refl _) b1).mono ?_
      rintro e w3 ⟨rfl, hb⟩
      have hpart := (k1'.below hb).part (row_fits (m := n3) hlt2)
      have kx3 := kx'.below hb
      have HB3 := HB'.trans (hb.mono HB'.size)
      have HC3 := hbel.trans (hb.mono hbel.size)
      clear q0 q1 q2 q3 hb k1' k3' kx' HR'
      go_wp2_with fail
      refine (impldot_any _ _ n3 m _ d _ M _ hpart kx3 b3 hlen bm).mono ?_
      rintro e wx ⟨r, q4, rfl, hr, rfl⟩
      have HE : Hid (av .f32 r = rayS N M n3 j) := by show _ = _; rw [hr.out]; rfl
      have HK : Hid (rayOk near N M n3 j = (finA .f32 (av .f32 r) && fle .f32 (av .f32 r) (av .f32 near))) := by show _ = _; rw [HE.out]; rfl
      clear hpart
      cases hfr : finA .f32 (av .f32 r)
      · have HF : Hid (rayOk near N M n3 j = false) := by show _ = _; rw [HK.out, hfr]; rfl
        go_wp2_with fail
        refine (implIsFinite_any _ _).mono ?_
        rintro e wx ⟨q5, rfl, rfl⟩
        rw [hfr]
        go_wp2_with fail
        go_ret
        exact ⟨ret_bool (by rw [H0.out, rayAll_false hlt2 HF.out]; rfl), below_drewN HB3 _⟩
      · have HGL := Lib.hid (gt_le hfr hav)
        cases hle : (FloatKind.f32.format.order r near == some .gt)
        · have HF : Hid (rayOk near N M n3 j = true) := by show _ = _; rw [HK.out, hfr, HGL.out, ← fgt_raw, hle]; rfl
          go_wp2_with fail
          refine (implIsFinite_any _ _).mono ?_
          rintro e wx ⟨q5, rfl, rfl⟩
          rw [hfr]
          go_wp2_with fail
          go_roundw
          case rel => exact ⟨j + 1, by omega, by go_num, below_drewN HC3 _, by rw [rayAll_succ, HRL.out, HF.out]; rfl⟩
          case measure => simp [intOf]; omega
        · have HF : Hid (rayOk near N M n3 j = false) := by show _ = _; rw [HK.out, hfr, HGL.out, ← fgt_raw, hle]; rfl
          go_wp2_with fail
          refine (implIsFinite_any _ _).mono ?_
          rintro e wx ⟨q5, rfl, rfl⟩
          rw [hfr]
          go_wp2_with fail
          go_ret
          exact ⟨ret_bool (by rw [H0.out, rayAll_false hlt2 HF.out]; rfl), below_drewN HB3 _⟩
    · obtain rfl : j = n2 := by omega
      have H2 : Hid (rayV (↑n3) (j * n3) j n3 N B G m M near = rayEnd near G M) := by show _ = _; rw [H0.out, HRL.out]; rfl
      have q3 : wr.cell? ⟨w.heap.size, 3, none⟩ = some (.slice A3 n3 c3) := HR'.cell 3
      go_wp2_with fail
      refine (impldot_any A3 X n3 m c3 d G M _ k3' kx' b3 hlen bm).mono ?_
      rintro e wx ⟨r, q4, rfl, hr, rfl⟩
      cases hfr : finA .f32 (av .f32 r)
      · have HF : Hid (rayEnd near G M = false) := by show _ = _; rw [rayEnd, ← hr.out, hfr]; rfl
        go_wp2_with fail
        refine (implIsFinite_any _ _).mono ?_
        rintro e wx ⟨q5, rfl, rfl⟩
        rw [hfr]
        go_wp2_with fail
        go_ret
        exact ⟨ret_bool (by rw [H2.out, HF.out]), below_drewN HB' _⟩
      · have HF : Hid (rayEnd near G M = (FloatKind.f32.format.order r near == some .gt)) := by show _ = _; rw [rayEnd, ← hr.out, hfr, fgt_raw]; rfl
        go_wp2_with fail
        refine (implIsFinite_any _ _).mono ?_
        rintro e wx ⟨q5, rfl, rfl⟩
        rw [hfr]
        go_wp2_with fail
        go_ret
        exact ⟨ret_bool (by rw [H2.out, HF.out]), below_drewN HB' _⟩
end Go.Proofs.Yteodplednmeaaaa
