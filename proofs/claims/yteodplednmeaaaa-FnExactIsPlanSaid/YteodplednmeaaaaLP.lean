/- Plans that are plans: the walks. -/
import Derived.Test.YteodplednmeaaaaLU
namespace Go.Proofs.Yteodplednmeaaaa
open Go.RowKit
set_option linter.unusedVariables false
set_option linter.unusedSimpArgs false
attribute [local go_sem] lo_value lo_enter run_store_float run_neg LC.lc_value LC.lc_enter

theorem LeftRes.drewN {v : Int} {n1 n2 n3 : Nat} {N B G : List Nat} {m : Nat} {M : List Nat} {w' : World} {base : Nat} {u : Value} (h : LeftRes v n1 n2 n3 N B G m M w' base u) (k : Nat) : LeftRes v n1 n2 n3 N B G m M (w'.drewN k) base u := by
  cases h with
  | no h => exact .no h
  | yes g cap h hm => exact .yes g cap h (hm.drewN k)
/-- the list, where there is one -/
theorem LeftRes.list {v : Int} {n1 n2 n3 : Nat} {N B G : List Nat} {m : Nat} {M : List Nat} {w' : World} {base : Nat} {u : Value} (h : LeftRes v n1 n2 n3 N B G m M w' base u) (hv : leftV v n1 n2 n3 N B G m M = true) :
    ∃ g cap, u = .slice (some ⟨g, 0, none⟩) n2 cap ∧ FS w' (some ⟨g, 0, none⟩) n2 (leftL N B n3 M n2) := by
  cases h with
  | no h => rw [h] at hv; cases hv
  | yes g cap h hm => exact ⟨g, cap, rfl, hm.sl⟩
theorem left_fin {v : Int} {n1 n2 n3 : Nat} {N B G : List Nat} {m : Nat} {M : List Nat} {w' : World} {base : Nat} {u : Value} (h : LeftRes v n1 n2 n3 N B G m M w' base u) (hv : leftV v n1 n2 n3 N B G m M = true) : allA (finA .f32) (leftL N B n3 M n2) = true := by
  cases h with
  | no h => rw [h] at hv; cases hv
  | yes g cap h hm => rw [hm.all]; rw [leftV, Bool.and_eq_true] at hv; exact hv.2
set_option maxHeartbeats 2000000 in
set_option maxRecDepth 100000 in
theorem specIsPlan_any (v : Int) (A1 A2 A3 : Option Addr) (n1 n2 n3 c1 c2 c3 : Nat) (N B G : List Nat) (X : Option Addr) (m d : Nat) (M : List Nat) (near : Nat) (w : World) (h1 : FS w A1 n1 N) (h2 : FS w A2 n2 B) (h3 : FS w A3 n3 G) (b1 : n1 ≤ 1048576) (b2 : n2 ≤ 1048576) (b3 : n3 ≤ 1048576) (hx : FS w X m M) (bm : m ≤ 1048576) (hn : (Lit.float .f32 near).wf = true) (hcap : n1 = c1 := by rfl) :
    Calls Try.prog 55 #[.agg #[.int .i64 v, .slice A1 n1 c1, .slice A2 n2 c2, .slice A3 n3 c3], .slice X m d, .float .f32 near] w fun e w' => e = .returned (.bool (planV v n1 n2 n3 N B G m M near)) ∧ Below w.heap.size w w' := by
  have HB : Below w.heap.size w (w.alloc (.cells #[.int .i64 v, .slice A1 n1 c1, .slice A2 n2 c2, .slice A3 n3 c3] 36)) := (Below.refl _ _).alloc (Nat.le_refl _) _
  have HR := Row.new w 36 #[.int .i64 v, .slice A1 n1 c1, .slice A2 n2 c2, .slice A3 n3 c3]
  have hleft := specLeftOf_any v A1 A2 A3 n1 n2 n3 c1 c2 c3 N B G X m d M _ (h1.below HB) (h2.below HB) (h3.below HB) b1 b2 b3 (hx.below HB) bm hcap
  have kx := hx.below HB
  clear h1 h2 h3 hx hcap
  obtain ⟨W1, hW1⟩ : ∃ W1, W1 = w.alloc (.cells #[.int .i64 v, .slice A1 n1 c1, .slice A2 n2 c2, .slice A3 n3 c3] 36) := ⟨_, rfl⟩
  rw [← hW1] at HB HR hleft kx
  have HW1 := Lib.hid hW1
  clear hW1
  have q0 : W1.cell? ⟨w.heap.size, 0, none⟩ = some (.int .i64 v) := HR.cell 0
  have q1 : W1.cell? ⟨w.heap.size, 1, none⟩ = some (.slice A1 n1 c1) := HR.cell 1
  have q2 : W1.cell? ⟨w.heap.size, 2, none⟩ = some (.slice A2 n2 c2) := HR.cell 2
  have q3 : W1.cell? ⟨w.heap.size, 3, none⟩ = some (.slice A3 n3 c3) := HR.cell 3
  cases hv : leftV v n1 n2 n3 N B G m M
  · have H : Hid (planV v n1 n2 n3 N B G m M near = false) := by show _ = _; rw [planV, hv]; rfl
    rw [hv] at hleft
    go_enter Try.func55, Try.ntmps55
    go_wp2_with fail
    rw [← HW1.out]
    go_wp2_with fail
    refine (hleft).mono ?_
    rintro e w2 ⟨u, rfl, hu, hb⟩
    go_wp2_with fail
    go_ret
    exact ⟨by rw [H.out]; rfl, HB.trans (hb.mono HB.size)⟩
  cases hne : leastA (av .f32 near)
  · have H : Hid (planV v n1 n2 n3 N B G m M near = false) := by show _ = _; rw [planV, hv, hne]; rfl
    rw [hv] at hleft
    go_enter Try.func55, Try.ntmps55
    go_wp2_with fail
    rw [← HW1.out]
    go_wp2_with fail
    refine (hleft).mono ?_
    rintro e w2 ⟨u, rfl, hu, hb⟩
    go_wp2_with fail
    refine (l02Least_any _ _).mono ?_
    rintro e wx ⟨m2, rfl, rfl⟩
    rw [hne]
    go_wp2_with fail
    go_ret
    exact ⟨by rw [H.out]; rfl, below_drewN (HB.trans (hb.mono HB.size)) _⟩
  have H0 : Hid (planV v n1 n2 n3 N B G m M near = (leastL near M && leastL near (leftL N B n3 M n2))) := by show _ = _; rw [planV, hv, hne]; rfl
  obtain ⟨hnan, hav⟩ := least_nan (wf32 hn) hne
  have hfit : fitV v n1 n2 n3 N B G m M = true := by have h := hv; rw [leftV, Bool.and_eq_true] at h; exact h.1
  have hfin := fit_all hfit
  have hHV := Lib.hid hv
  rw [hv] at hleft
  have hL := kx.1
  clear hfit hv
  go_enter Try.func55, Try.ntmps55
  go_wp2_with fail
  rw [← HW1.out]
  go_wp2_with fail
  refine (hleft).mono ?_
  rintro e w2 ⟨u, rfl, hu, hb⟩
  obtain ⟨g, cap, rfl, hF⟩ := hu.list hHV.out
  have hfL := left_fin hu hHV.out
  have hLL := hF.1
  have b2' := b2
  replace HB := HB.trans (hb.mono HB.size)
  replace kx := kx.below hb
  clear hb hu q0 q1 q2 q3 HR
  go_wp2_with fail
  refine (l02Least_any _ _).mono ?_
  rintro e wx ⟨m2, rfl, rfl⟩
  rw [hne]
  clear hne
  go_wp2_with fail
  go_loopw [9] (fun i wr => ∃ k q : Nat, k ≤ m ∧ i = .int .i64 k ∧ wr = w2.drewN q ∧ (M.take k).all (notLt (Op.negFloat .f32 near)) = true) (fun i _ => m - (intOf i).toNat)
  case atStart => exact ⟨0, _, Nat.zero_le _, rfl, rfl, rfl⟩
  case round =>
    obtain ⟨k, q, hk, rfl, rfl, hrel⟩ := hrel
    have HRL := Lib.hid hrel
    clear hrel
    by_cases hlt : k < m
    · obtain ⟨b4, off4, x, rfl, hb4, hc4, hx4, hs4⟩ := kx.at_ hlt
      have HG := Lib.hid (ge_notLt hnan (fin_of_all hfin hx4))
      have HX := Lib.hid hx4
      have HS := Lib.hid hs4
      clear hx4 hs4 hL hfin hnan hav hLL
      cases hgt : (FloatKind.f32.format.order x (Op.negFloat .f32 near) == some .gt || FloatKind.f32.format.order x (Op.negFloat .f32 near) == some .eq)
      · have HF : Hid (notLt (Op.negFloat .f32 near) x = false) := by show _ = _; rw [← HG.out, geRaw, hgt]
        go_wp2_with fail
        go_ret
        exact ⟨ret_bool (by rw [H0.out, leastL, all_false HX.out HF.out]; rfl), below_drewN HB _⟩
      · have HF : Hid (notLt (Op.negFloat .f32 near) x = true) := by show _ = _; rw [← HG.out, geRaw, hgt]
        go_wp2_with fail
        go_roundw
        case rel => exact ⟨k + 1, q, by omega, by go_num, rfl, by rw [HS.out, all_snoc, HRL.out, HF.out]; rfl⟩
        case measure => simp [intOf]; omega
    · obtain rfl : k = m := by omega
      rw [← hL, List.take_length] at HRL
      have H1 : Hid (planV v n1 n2 n3 N B G k M near = leastL near (leftL N B n3 M n2)) := by show _ = _; rw [H0.out, leastL, HRL.out]; rfl
      clear HRL H0 hfin hL
      go_wp2_with fail
      go_loopw [10] (fun i wr => ∃ j q : Nat, j ≤ n2 ∧ i = .int .i64 j ∧ wr = w2.drewN q ∧ ((leftL N B n3 M n2).take j).all (notLt (Op.negFloat .f32 near)) = true) (fun i _ => n2 - (intOf i).toNat)
      case atStart => exact ⟨0, _, Nat.zero_le _, rfl, rfl, rfl⟩
      case round =>
        obtain ⟨j, q2, hj, rfl, rfl, hrel⟩ := hrel
        have HRL := Lib.hid hrel
        clear hrel
        by_cases hlt2 : j < n2
        · obtain ⟨b4, off4, x, e4, hb4, hc4, hx4, hs4⟩ := hF.at_ hlt2
          injection e4 with e4
          injection e4 with e4 e5
          subst e4; subst e5
          rw [Nat.zero_add] at hc4
          have HG := Lib.hid (ge_notLt hnan (fin_of_all hfL hx4))
          have HX := Lib.hid hx4
          have HS := Lib.hid hs4
          clear hx4 hs4 hLL hfL hnan hav
          cases hgt : (FloatKind.f32.format.order x (Op.negFloat .f32 near) == some .gt || FloatKind.f32.format.order x (Op.negFloat .f32 near) == some .eq)
          · have HF : Hid (notLt (Op.negFloat .f32 near) x = false) := by show _ = _; rw [← HG.out, geRaw, hgt]
            go_wp2_with fail
            go_ret
            exact ⟨ret_bool (by rw [H1.out, leastL, all_false HX.out HF.out]), below_drewN HB _⟩
          · have HF : Hid (notLt (Op.negFloat .f32 near) x = true) := by show _ = _; rw [← HG.out, geRaw, hgt]
            go_wp2_with fail
            go_roundw
            case rel => exact ⟨j + 1, q2, by omega, by go_num, rfl, by rw [HS.out, all_snoc, HRL.out, HF.out]; rfl⟩
            case measure => simp [intOf]; omega
        · obtain rfl : j = n2 := by omega
          have HT : Hid (leastL near (leftL N B n3 M j) = true) := by
            show _ = _
            have h := HRL.out
            rw [List.take_of_length_le (Nat.le_of_eq hLL)] at h
            exact h
          go_wp2_with fail
          go_ret
          exact ⟨ret_bool (by rw [H1.out, HT.out]), below_drewN HB _⟩
set_option maxHeartbeats 2000000 in
set_option maxRecDepth 100000 in
theorem implIsPlan_any (v : Int) (A1 A2 A3 : Option Addr) (n1 n2 n3 c1 c2 c3 : Nat) (N B G : List Nat) (X : Option Addr) (m d : Nat) (M : List Nat) (near : Nat) (w : World) (h1 : FS w A1 n1 N) (h2 : FS w A2 n2 B) (h3 : FS w A3 n3 G) (b1 : n1 ≤ 1048576) (b2 : n2 ≤ 1048576) (b3 : n3 ≤ 1048576) (hx : FS w X m M) (bm : m ≤ 1048576) (hn : (Lit.float .f32 near).wf = true) (hcap : n1 = c1 := by rfl) :
    Calls Try.prog 56 #[.agg #[.int .i64 v, .slice A1 n1 c1, .slice A2 n2 c2, .slice A3 n3 c3], .slice X m d, .float .f32 near] w fun e w' => e = .returned (.bool (planV v n1 n2 n3 N B G m M near)) ∧ Below w.heap.size w w' := by
  have HB : Below w.heap.size w (w.alloc (.cells #[.int .i64 v, .slice A1 n1 c1, .slice A2 n2 c2, .slice A3 n3 c3] 36)) := (Below.refl _ _).alloc (Nat.le_refl _) _
  have HR := Row.new w 36 #[.int .i64 v, .slice A1 n1 c1, .slice A2 n2 c2, .slice A3 n3 c3]
  have hleft := implLeftOf_any v A1 A2 A3 n1 n2 n3 c1 c2 c3 N B G X m d M _ (h1.below HB) (h2.below HB) (h3.below HB) b1 b2 b3 (hx.below HB) bm hcap
  have kx := hx.below HB
  clear h1 h2 h3 hx hcap
  obtain ⟨W1, hW1⟩ : ∃ W1, W1 = w.alloc (.cells #[.int .i64 v, .slice A1 n1 c1, .slice A2 n2 c2, .slice A3 n3 c3] 36) := ⟨_, rfl⟩
  rw [← hW1] at HB HR hleft kx
  have HW1 := Lib.hid hW1
  clear hW1
  have q0 : W1.cell? ⟨w.heap.size, 0, none⟩ = some (.int .i64 v) := HR.cell 0
  have q1 : W1.cell? ⟨w.heap.size, 1, none⟩ = some (.slice A1 n1 c1) := HR.cell 1
  have q2 : W1.cell? ⟨w.heap.size, 2, none⟩ = some (.slice A2 n2 c2) := HR.cell 2
  have q3 : W1.cell? ⟨w.heap.size, 3, none⟩ = some (.slice A3 n3 c3) := HR.cell 3
  cases hv : leftV v n1 n2 n3 N B G m M
  · have H : Hid (planV v n1 n2 n3 N B G m M near = false) := by show _ = _; rw [planV, hv]; rfl
    rw [hv] at hleft
    go_enter Try.func56, Try.ntmps56
    go_wp2_with fail
    rw [← HW1.out]
    go_wp2_with fail
    refine (hleft).mono ?_
    rintro e w2 ⟨u, rfl, hu, hb⟩
    go_wp2_with fail
    go_ret
    exact ⟨by rw [H.out]; rfl, HB.trans (hb.mono HB.size)⟩
  cases hne : leastA (av .f32 near)
  · have H : Hid (planV v n1 n2 n3 N B G m M near = false) := by show _ = _; rw [planV, hv, hne]; rfl
    rw [hv] at hleft
    go_enter Try.func56, Try.ntmps56
    go_wp2_with fail
    rw [← HW1.out]
    go_wp2_with fail
    refine (hleft).mono ?_
    rintro e w2 ⟨u, rfl, hu, hb⟩
    go_wp2_with fail
    refine (isNear_any _ _).mono ?_
    rintro e wx ⟨m2, rfl, rfl⟩
    rw [hne]
    go_wp2_with fail
    go_ret
    exact ⟨by rw [H.out]; rfl, below_drewN (HB.trans (hb.mono HB.size)) _⟩
  have hHV := Lib.hid hv
  rw [hv] at hleft
  cases hl1 : leastL near M
  · have H : Hid (planV v n1 n2 n3 N B G m M near = false) := by show _ = _; rw [planV, hv, hne, hl1]; rfl
    clear hv
    go_enter Try.func56, Try.ntmps56
    go_wp2_with fail
    rw [← HW1.out]
    go_wp2_with fail
    refine (hleft).mono ?_
    rintro e w2 ⟨u, rfl, hu, hb⟩
    replace kx := kx.below hb
    go_wp2_with fail
    refine (isNear_any _ _).mono ?_
    rintro e wx ⟨m2, rfl, rfl⟩
    rw [hne]
    go_wp2_with fail
    refine (areAtLeast_any X m d M near _ (kx.drewN _) bm).mono ?_
    rintro e wx ⟨rfl, rfl⟩
    rw [hl1]
    go_wp2_with fail
    go_ret
    exact ⟨by rw [H.out]; rfl, below_drewN (HB.trans (hb.mono HB.size)) _⟩
  have H : Hid (planV v n1 n2 n3 N B G m M near = leastL near (leftL N B n3 M n2)) := by show _ = _; rw [planV, hv, hne, hl1]; rfl
  clear hv
  go_enter Try.func56, Try.ntmps56
  go_wp2_with fail
  rw [← HW1.out]
  go_wp2_with fail
  refine (hleft).mono ?_
  rintro e w2 ⟨u, rfl, hu, hb⟩
  obtain ⟨g, cap, rfl, hF⟩ := hu.list hHV.out
  replace kx := kx.below hb
  go_wp2_with fail
  refine (isNear_any _ _).mono ?_
  rintro e wx ⟨m2, rfl, rfl⟩
  rw [hne]
  go_wp2_with fail
  refine (areAtLeast_any X m d M near _ (kx.drewN _) bm).mono ?_
  rintro e wx ⟨rfl, rfl⟩
  rw [hl1]
  go_wp2_with fail
  refine (areAtLeast_any _ n2 cap _ near _ (hF.drewN _) b2).mono ?_
  rintro e wx ⟨rfl, rfl⟩
  go_wp2_with fail
  go_ret
  exact ⟨by rw [H.out]; rfl, below_drewN (HB.trans (hb.mono HB.size)) _⟩
end Go.Proofs.Yteodplednmeaaaa
