/- Prices: what the program and the model compute. -/
import Derived.Test.YteodplednmeaaaaZ
import Derived.Test.YteodplednmeaaaaLc
namespace Go.Proofs.Yteodplednmeaaaa
open Go.RowKit
set_option linter.unusedVariables false
set_option linter.unusedSimpArgs false
attribute [local go_sem] lo_value lo_enter run_store_float run_neg

theorem fin_number {x : Nat} (h : finA .f32 (av .f32 x) = true) : ∃ s m p, FloatKind.f32.decode x = .number s m p := by
  cases hd : FloatKind.f32.decode x with
  | number s m p => exact ⟨s, m, p, rfl⟩
  | infinity s =>
    exfalso
    have ha : av .f32 x = some x := av_of_not (by rw [hd]; rfl)
    have hr : FloatKind.f32.format.read x = .infinity s := hd
    rw [ha] at h
    unfold finA fop floatBits at h
    simp only [Ieee.Format.sub, hr] at h
    cases s <;> simp [Ieee.Datum.sum, Ieee.Datum.opposite, feq, ford] at h
  | nan s t =>
    exfalso
    have ha : av .f32 x = none := by unfold av; rw [hd]; rfl
    rw [ha] at h; cases h
theorem sub_some {x y : Nat} (hx : finA .f32 (av .f32 x) = true) (hy : finA .f32 (av .f32 y) = true) : ∃ c, fop .sub .f32 (av .f32 x) (av .f32 y) = some c := by
  obtain ⟨s, m, p, h1⟩ := fin_number hx
  obtain ⟨s2, m2, p2, h2⟩ := fin_number hy
  have ha : av .f32 x = some x := av_of_not (by rw [h1]; rfl)
  have hb : av .f32 y = some y := av_of_not (by rw [h2]; rfl)
  have hr : FloatKind.f32.format.read x = .number s m p := h1
  have hr2 : FloatKind.f32.format.read y = .number s2 m2 p2 := h2
  rw [ha, hb]
  unfold fop floatBits
  simp only [Ieee.Format.sub, hr, hr2, Ieee.Datum.opposite, Ieee.Datum.sum]
  exact ⟨_, rfl⟩
/-- of numbers that are some, 'not less' is 'at least' -/
theorem lt_ge {x y : Nat} (hx : ∃ c, av .f32 x = some c) (hy : ∃ c, av .f32 y = some c) : fge .f32 (av .f32 x) (av .f32 y) = !flt .f32 (av .f32 x) (av .f32 y) := by
  obtain ⟨d, hd⟩ := hx
  obtain ⟨c, hc⟩ := hy
  have h1 := (av_some hd).2
  have h2 := (av_some hc).2
  rw [hd, hc]
  obtain ⟨rfl, _⟩ := av_some hd
  obtain ⟨rfl, _⟩ := av_some hc
  unfold fge flt ford
  cases ho : FloatKind.f32.format.order d c with
  | none =>
    exfalso
    unfold FloatKind.decode at h1 h2
    rcases FT.order_none.1 ho with h | h
    · rw [h] at h1; cases h1
    · rw [h] at h2; cases h2
  | some o => cases o <;> simp [ho]
/-- the sum of a column with prices -/
def priceS (N Y : List Nat) (m k : Nat) : Nat → Option Nat
  | 0 => some 0
  | i + 1 => fop .add .f32 (priceS N Y m k i) (fop .mul .f32 (av .f32 (N.getD (i * m + k) 0)) (av .f32 (Y.getD i 0)))
def priceOk (near : Nat) (N Y G : List Nat) (m n2 k : Nat) : Bool := finA .f32 (priceS N Y m k n2) && fge .f32 (priceS N Y m k n2) (fop .sub .f32 (av .f32 (G.getD k 0)) (av .f32 near))
def priceAll (near : Nat) (N Y G : List Nat) (m n2 k : Nat) : Bool := (List.range k).all (priceOk near N Y G m n2)
theorem priceAll_succ (near : Nat) (N Y G : List Nat) (m n2 k : Nat) : priceAll near N Y G m n2 (k + 1) = (priceAll near N Y G m n2 k && priceOk near N Y G m n2 k) := by
  unfold priceAll; rw [List.range_succ, all_snoc]
theorem priceAll_false {near : Nat} {N Y G : List Nat} {m n2 k n : Nat} (h : k < n) (hf : priceOk near N Y G m n2 k = false) : priceAll near N Y G m n2 n = false := by
  unfold priceAll; rw [List.all_eq_false]; exact ⟨k, List.mem_range.2 h, by simp [hf]⟩
def pricesV (v : Int) (n1 n2 n3 : Nat) (N B G : List Nat) (m : Nat) (Y : List Nat) (near : Nat) : Bool := pricedV v n1 n2 n3 N B G m Y && (leastA (av .f32 near) && (leastL near Y && priceAll near N Y G n3 n2 n3))
theorem priced_parts {v : Int} {n1 n2 n3 : Nat} {N B G : List Nat} {m : Nat} {Y : List Nat} (h : pricedV v n1 n2 n3 N B G m Y = true) : m = n2 ∧ Shape v n1 n2 n3 ∧ allA (finA .f32) Y = true ∧ allA (finA .f32) G = true := by
  simp only [pricedV, validV, validB, asLong, Bool.and_eq_true, decide_eq_true_eq, beq_iff_eq] at h
  obtain ⟨⟨h1, h2⟩, h3, h4⟩ := h
  exact ⟨by omega, h1, h4, h2.2.1.2⟩
theorem col_fits {i k n2 m : Nat} (h : i < n2) (hk : k < m) : i * m + k < n2 * m := by
  have := row_fits (m := m) h
  omega

theorem sub_run {x y : Nat} (hx : finA .f32 (av .f32 x) = true) (hy : finA .f32 (av .f32 y) = true) : ∃ c, (∀ W, Sem.run Try.prog (binOp .sub 23 (.float .f32 x) (.float .f32 y)) W = .ok (.float .f32 c) W) ∧ fop .sub .f32 (av .f32 x) (av .f32 y) = av .f32 c ∧ ∃ d, av .f32 c = some d := by
  obtain ⟨c, hc⟩ := sub_some hx hy
  have hf : floatBits .sub .f32 x y = some c := by rw [floatBits_fop]; exact hc
  have ha : av .f32 c = some c := av_of_not (floatBits_notNaN hf)
  exact ⟨c, fun W => run_float_arith W .sub 23 .f32 x y c hf, by rw [hc, ha], c, ha⟩
theorem fge_raw2 (x y : Nat) : (FloatKind.f32.format.order x y == some .gt || FloatKind.f32.format.order x y == some .eq) = fge .f32 (av .f32 x) (av .f32 y) := by rw [order_ford]; rfl
theorem flt_raw2 (x y : Nat) : (FloatKind.f32.format.order x y == some .lt) = flt .f32 (av .f32 x) (av .f32 y) := by rw [order_ford]; rfl
theorem least_fin {x : Nat} (h : leastA (av .f32 x) = true) : finA .f32 (av .f32 x) = true := by
  unfold leastA at h; rw [Bool.and_eq_true] at h; exact h.1
set_option maxHeartbeats 4000000 in
set_option maxRecDepth 100000 in
theorem specArePrices_any (v : Int) (A1 A2 A3 : Option Addr) (n1 n2 n3 c1 c2 c3 : Nat) (N B G : List Nat) (X : Option Addr) (m d : Nat) (M : List Nat) (near : Nat) (w : World) (h1 : FS w A1 n1 N) (h2 : FS w A2 n2 B) (h3 : FS w A3 n3 G) (b1 : n1 ≤ 1048576) (b2 : n2 ≤ 1048576) (b3 : n3 ≤ 1048576) (hx : FS w X m M) (bm : m ≤ 1048576) (hn : (Lit.float .f32 near).wf = true) (hcap : n1 = c1 := by rfl) :
    Calls Try.prog 42 #[.agg #[.int .i64 v, .slice A1 n1 c1, .slice A2 n2 c2, .slice A3 n3 c3], .slice X m d, .float .f32 near] w fun e w' => e = .returned (.bool (pricesV v n1 n2 n3 N B G m M near)) ∧ Below w.heap.size w w' := by
  have HB : Below w.heap.size w (w.alloc (.cells #[.int .i64 v, .slice A1 n1 c1, .slice A2 n2 c2, .slice A3 n3 c3] 36)) := (Below.refl _ _).alloc (Nat.le_refl _) _
  have HR := Row.new w 36 #[.int .i64 v, .slice A1 n1 c1, .slice A2 n2 c2, .slice A3 n3 c3]
  have k1 := h1.below HB
  have k2 := h2.below HB
  have k3 := h3.below HB
  have kx := hx.below HB
  clear h1 h2 h3 hx
  cases hf : pricedV v n1 n2 n3 N B G m M
  · have H : Hid (pricesV v n1 n2 n3 N B G m M near = false) := by show _ = _; rw [pricesV, hf]; rfl
    clear hcap
    go_enter Try.func42, Try.ntmps42
    go_wp2_with fail
    refine (l02Priced_any w.heap.size v A1 A2 A3 n1 n2 n3 c1 c2 c3 N B G X m d M _ HR k1 k2 k3 b1 b2 b3 kx bm).mono ?_
    rintro e wx ⟨q1, rfl, rfl⟩
    rw [hf]
    go_wp2_with fail
    go_ret
    exact ⟨by rw [H.out]; rfl, below_drewN HB _⟩
  cases hne : leastA (av .f32 near)
  · have H : Hid (pricesV v n1 n2 n3 N B G m M near = false) := by show _ = _; rw [pricesV, hf, hne]; rfl
    clear hcap
    go_enter Try.func42, Try.ntmps42
    go_wp2_with fail
    refine (l02Priced_any w.heap.size v A1 A2 A3 n1 n2 n3 c1 c2 c3 N B G X m d M _ HR k1 k2 k3 b1 b2 b3 kx bm).mono ?_
    rintro e wx ⟨q1, rfl, rfl⟩
    rw [hf]
    go_wp2_with fail
    refine (l02Least_any _ _).mono ?_
    rintro e wx ⟨q2, rfl, rfl⟩
    rw [hne]
    go_wp2_with fail
    go_ret
    exact ⟨by rw [H.out]; rfl, below_drewN HB _⟩
  have H0 : Hid (pricesV v n1 n2 n3 N B G m M near = (leastL near M && priceAll near N M G n3 n2 n3)) := by show _ = _; rw [pricesV, hf, hne]; rfl
  obtain ⟨hnan, hav⟩ := least_nan (wf32 hn) hne
  have hnf := least_fin hne
  obtain ⟨hl0, ⟨s1, s2, s3, s4, s5, s6⟩, hfin, hfinG⟩ := priced_parts hf
  have hn1 : n1 = n2 * n3 := by
    have : (n1 : Int) = ((n2 * n3 : Nat) : Int) := by rw [s6, ← s5, Int.natCast_mul, Int.mul_comm]
    exact Int.ofNat.inj this
  have hl : n2 ≤ m := Nat.le_of_eq hl0.symm
  have hl' : m ≤ n2 := Nat.le_of_eq hl0
  have hL := kx.1
  clear hl0 s6
  subst s5
  subst hcap
  subst hn1
  obtain ⟨b, off, rfl, hb0, hcells⟩ := k1.2 (Nat.mul_pos (by omega) (by omega))
  clear hb0
  go_enter Try.func42, Try.ntmps42
  go_wp2_with fail
  refine (l02Priced_any w.heap.size (↑n3) (some ⟨b, off, none⟩) A2 A3 (n2 * n3) n2 n3 (n2 * n3) c2 c3 N B G X m d M _ HR k1 k2 k3 b1 b2 b3 kx bm).mono ?_
  rintro e wx ⟨q1, rfl, rfl⟩
  rw [hf]
  go_wp2_with fail
  refine (l02Least_any _ _).mono ?_
  rintro e wx ⟨q2, rfl, rfl⟩
  rw [hne]
  clear hf hne k2
  go_wp2_with fail
  go_loopw [7] (fun i wr => ∃ k q : Nat, k ≤ m ∧ i = .int .i64 k ∧ wr = ((w.alloc (.cells #[.int .i64 (n3 : Int), .slice (some ⟨b, off, none⟩) (n2 * n3) (n2 * n3), .slice A2 n2 c2, .slice A3 n3 c3] 36))).drewN q ∧ (M.take k).all (notLt (Op.negFloat .f32 near)) = true) (fun i _ => m - (intOf i).toNat)
  case atStart => exact ⟨0, _, Nat.zero_le _, rfl, rfl, rfl⟩
  case round =>
    obtain ⟨k, q, hk, rfl, rfl, hrel⟩ := hrel
    have HRL := Lib.hid hrel
    clear hrel
    by_cases hlt : k < m
    · obtain ⟨b4, off4, x, rfl, hb4, hc4, hx4, hs4⟩ := kx.at_ hlt
      have HG := Lib.hid (ge_notLt hnan (fin_of_all hfin hx4))
      have HX := Lib.hid hx4
      have HS := Lib.hid hs4
      clear hx4 hs4 hL hfin hnan hav
      cases hgt : (FloatKind.f32.format.order x (Op.negFloat .f32 near) == some .gt || FloatKind.f32.format.order x (Op.negFloat .f32 near) == some .eq)
      · have HF : Hid (notLt (Op.negFloat .f32 near) x = false) := by show _ = _; rw [← HG.out, geRaw, hgt]
        go_wp2_with fail
        go_ret
        exact ⟨ret_bool (by rw [H0.out, leastL, all_false HX.out HF.out]; rfl), below_drewN HB _⟩
      · have HF : Hid (notLt (Op.negFloat .f32 near) x = true) := by show _ = _; rw [← HG.out, geRaw, hgt]
        go_wp2_with fail
        go_roundw
        case rel => exact ⟨k + 1, q, by omega, by go_num, rfl, by rw [HS.out, all_snoc, HRL.out, HF.out]; rfl⟩
        case measure => simp [intOf]; omega
    · obtain rfl : k = m := by omega
      rw [← hL, List.take_length] at HRL
      have H1 : Hid (pricesV (↑n3) (n2 * n3) n2 n3 N B G k M near = priceAll near N M G n3 n2 n3) := by show _ = _; rw [H0.out, leastL, HRL.out]; rfl
      clear HRL H0 hfin hnan
      go_wp2_with fail
      go_loopw [8] (fun i wr => ∃ j q : Nat, j ≤ n3 ∧ i = .int .i64 j ∧ wr = ((w.alloc (.cells #[.int .i64 (n3 : Int), .slice (some ⟨b, off, none⟩) (n2 * n3) (n2 * n3), .slice A2 n2 c2, .slice A3 n3 c3] 36))).drewN q ∧ priceAll near N M G n3 n2 j = true) (fun i _ => n3 - (intOf i).toNat)
      case atStart => exact ⟨0, _, Nat.zero_le _, rfl, rfl, rfl⟩
      case round =>
        obtain ⟨j, q2, hj, rfl, rfl, hrel⟩ := hrel
        have HRL := Lib.hid hrel
        clear hrel
        by_cases hlt2 : j < n3
        · go_wp2_with fail
          go_loopw [9, 10] (fun s i wr => ∃ i' q r : Nat, i' ≤ k ∧ i = .int .i64 i' ∧ s = .float .f32 r ∧ wr = ((w.alloc (.cells #[.int .i64 (n3 : Int), .slice (some ⟨b, off, none⟩) (n2 * n3) (n2 * n3), .slice A2 n2 c2, .slice A3 n3 c3] 36))).drewN q ∧ Hid (av .f32 r = priceS N M n3 j i')) (fun _ i _ => k - (intOf i).toNat)
          case atStart => exact ⟨0, q2, 0, Nat.zero_le _, rfl, rfl, rfl, by show _ = _; exact av_zero _⟩
          case round =>
            obtain ⟨i', q3, rs, hi', rfl, rfl, rfl, hS⟩ := hrel
            by_cases hlt3 : i' < k
            · obtain ⟨b5, off5, x, e5, hb5, hc5, hx5, hs5⟩ := k1.at_ (col_fits (show i' < n2 by omega) hlt2)
              injection e5 with e5
              injection e5 with e5 e6
              subst e5; subst e6
              obtain ⟨b7, off7, y, rfl, hb7, hc7, hx7, hs7⟩ := kx.at_ hlt3
              have HX := Lib.hid (getD_of (z := 0) hx5)
              have HY := Lib.hid (getD_of (z := 0) hx7)
              have hcf := col_fits (show i' < n2 by omega) hlt2
              have HU := Lib.hid (show priceS N M n3 j (i' + 1) = fop .add .f32 (priceS N M n3 j i') (fop .mul .f32 (av .f32 (N.getD (i' * n3 + j) 0)) (av .f32 (M.getD i' 0))) from rfl)
              have q0 := HR.cell 0
              have q1 := HR.cell 1
              clear hx5 hs5 hx7 hs7 hcells k1 kx k3
              go_wp2_with fail
              have e1 : IntKind.i64.wrap ((i' : Int) * (n3 : Int)) = ((i' * n3 : Nat) : Int) := by rw [← Int.natCast_mul]; exact IntWalk.i64_in _ (by omega)
              have e2 : IntKind.i64.wrap (((i' * n3 : Nat) : Int) + (j : Int)) = ((i' * n3 + j : Nat) : Int) := by rw [← Int.natCast_add]; exact IntWalk.i64_in _ (by omega)
              have l1 : ((i' * n3 + j : Nat) : Int) < (n2 : Int) * (n3 : Int) := by rw [← Int.natCast_mul]; exact Int.ofNat_lt.2 hcf
              have l2 : (i' : Int) < (k : Int) := by omega
              clear hcf
              generalize i' * n3 = Xm at *
              generalize Xm + j = Xk at *
              refine wp_region_lo q3 undef (by kernel_rfl) (by kernel_rfl) ?_; (repeat (first | ((with_reducible apply wpLo_farith); rfl; rfl; rfl; intro r hr) | ((with_reducible apply wpLo_fconv); (show FloatKind.f32 ≠ .f64; decide); exact Try.underlying23; exact Try.underlying28; rfl; exact fits_wide _; intro r hr) | (refine wpLo_plain rfl (fun K hK n => ?_); go_simp; first | (refine hK _ ?_; clear hK K n) | (refine ⟨?_, hK _ ?_⟩; rotate_left; clear hK K n; rotate_left; (fail))))); refine wpLo_nil ?_; intro nq
              clear e1 e2 l1 l2
              go_wp2_with fail
              go_roundw
              case rel => exact ⟨i' + 1, nq, _, by omega, by go_num, rfl, rfl, by show _ = _; rw [HU.out, HX.out, HY.out]; simp only [Hid] at *; simp [*]⟩
              case measure => simp [intOf]; omega
            · obtain rfl : i' = k := by omega
              have HP : Hid (av .f32 rs = priceS N M n3 j n2) := by show _ = _; rw [hS.out, show i' = n2 by omega]
              obtain ⟨b5, off5, g, rfl, hb5, hc5, hx5, hs5⟩ := k3.at_ hlt2
              have hfg := fin_of_all hfinG hx5
              have HG := Lib.hid (getD_of (z := 0) hx5)
              obtain ⟨c, hrun, hcv, hcs⟩ := sub_run hfg hnf
              have HK : Hid (priceOk near N M G n3 n2 j = (finA .f32 (av .f32 rs) && fge .f32 (av .f32 rs) (av .f32 c))) := by show _ = _; rw [priceOk, HG.out, HP.out, ← hcv]
              clear hcv hcs
              have hlt4 : (j : Int) < (n3 : Int) := by omega
              have q3' := HR.cell 3
              clear hx5 hs5 hcells
              cases hfr : finA .f32 (av .f32 rs)
              · have HF : Hid (priceOk near N M G n3 n2 j = false) := by show _ = _; rw [HK.out, hfr]; rfl
                go_wp2_with fail
                refine (specl01Finite_any _ _).mono ?_
                rintro e wx ⟨q5, rfl, rfl⟩
                rw [hfr]
                go_wp2_with fail
                go_ret
                exact ⟨ret_bool (by rw [H1.out, priceAll_false hlt2 HF.out]), below_drewN HB _⟩
              · cases hge : (FloatKind.f32.format.order rs c == some .gt || FloatKind.f32.format.order rs c == some .eq)
                · have HF : Hid (priceOk near N M G n3 n2 j = false) := by show _ = _; rw [HK.out, hfr, ← fge_raw2, hge]; rfl
                  go_wp2_with fail
                  refine (specl01Finite_any _ _).mono ?_
                  rintro e wx ⟨q5, rfl, rfl⟩
                  rw [hfr]
                  go_wp2_with fail
                  go_ret
                  exact ⟨ret_bool (by rw [H1.out, priceAll_false hlt2 HF.out]), below_drewN HB _⟩
                · have HF : Hid (priceOk near N M G n3 n2 j = true) := by show _ = _; rw [HK.out, hfr, ← fge_raw2, hge]; rfl
                  go_wp2_with fail
                  refine (specl01Finite_any _ _).mono ?_
                  rintro e wx ⟨q5, rfl, rfl⟩
                  rw [hfr]
                  go_wp2_with fail
                  go_roundw
                  case rel => exact ⟨j + 1, _, by omega, by go_num, rfl, by rw [priceAll_succ, HRL.out, HF.out]; rfl⟩
                  case measure => simp [intOf]; omega
        · obtain rfl : j = n3 := by omega
          go_wp2_with fail
          go_ret
          exact ⟨ret_bool (by rw [H1.out, HRL.out]), below_drewN HB _⟩
end Go.Proofs.Yteodplednmeaaaa
