/- Tables: entries; the column that enters. -/
import Derived.Test.YteodplednmeaaaaTC
namespace Go.Proofs.Yteodplednmeaaaa
open Go.RowKit
set_option linter.unusedVariables false
set_option linter.unusedSimpArgs false
attribute [local go_sem] lo_value lo_enter run_store_float run_neg LC.lc_value LC.lc_enter

/-- the first column, from c on, whose entry is less than nb -/
def enterF (nb : Nat) (N : List Nat) (base : Nat) : Nat → Nat → Int
  | 0, _ => -1
  | f + 1, c => bif FloatKind.f32.format.order (N.getD (base + c) 0) nb == some .lt then (c : Int) else enterF nb N base f (c + 1)
def enterV (v : Int) (n1 n2 : Nat) (N : List Nat) (S : List Int) (near : Nat) : Bool := tableV v n1 n2 N S && leastA (av .f32 near)
def enterI (v : Int) (n1 n2 : Nat) (N : List Nat) (S : List Int) (near : Nat) : Int :=
  bif enterV v n1 n2 N S near then enterF (Op.negFloat .f32 near) N (n2 * (v + n2 + 1).toNat) (v + n2).toNat 0 else 0
theorem tableV_shape {v : Int} {n1 n2 : Nat} {N : List Nat} {S : List Int} (h : tableV v n1 n2 N S = true) : ShapeT v n1 n2 ∧ allA (finA .f32) N = true ∧ baseAll v n2 S n2 = true := by
  simp only [tableV, Bool.and_eq_true, decide_eq_true_eq] at h
  exact ⟨h.1, h.2.1, h.2.2⟩
/-- a table's sizes in naturals -/
theorem shape_nat {v : Int} {n1 n2 : Nat} (h : ShapeT v n1 n2) : ∃ M : Nat, v + n2 = (M : Int) ∧ v + n2 + 1 = ((M + 1 : Nat) : Int) ∧ (v + n2 + 1).toNat = M + 1 ∧ (v + n2).toNat = M ∧ n1 = (n2 + 1) * (M + 1) ∧ M ≤ 16 ∧ 1 ≤ M := by
  obtain ⟨h1, h2, h3, h4, h5⟩ := h
  refine ⟨(v + n2).toNat, by omega, by omega, by omega, rfl, ?_, by omega, by omega⟩
  have e : v + (n2 : Int) + 1 = (((v + n2).toNat + 1 : Nat) : Int) := by omega
  have e2 : (n2 : Int) + 1 = ((n2 + 1 : Nat) : Int) := by omega
  rw [e, e2, ← Int.natCast_mul] at h5
  exact Int.ofNat.inj h5
theorem entry_fits {n2 M r c n1 : Nat} (e : n1 = (n2 + 1) * (M + 1)) (hr : r ≤ n2) (hc : c ≤ M) : r * (M + 1) + c < n1 := by
  rw [e]; exact col_fits (by omega) (by omega)

set_option maxHeartbeats 1000000 in
set_option maxRecDepth 100000 in
theorem at_any (v : Int) (A1 A2 : Option Addr) (n1 n2 c1 c2 : Nat) (N : List Nat) (S : List Int) (M r c x : Nat) (w : World) (h1 : FS w A1 n1 N) (hM : v + n2 + 1 = ((M + 1 : Nat) : Int)) (v1 : 1 ≤ v) (v2 : v ≤ 8) (b1 : n1 ≤ 1048576) (b2 : n2 ≤ 8) (hk : r * (M + 1) + c < n1) (hx : N[r * (M + 1) + c]? = some x) :
    Calls Try.prog 116 #[.agg #[.int .i64 v, .slice A1 n1 c1, .slice A2 n2 c2], .int .i64 (r : Int), .int .i64 (c : Int)] w fun e w' => e = .returned (.float .f32 x) ∧ Below w.heap.size w w' := by
  have HB : Below w.heap.size w (w.alloc (.cells #[.int .i64 v, .slice A1 n1 c1, .slice A2 n2 c2] 46)) := (Below.refl _ _).alloc (Nat.le_refl _) _
  have HR := Row.new w 46 #[.int .i64 v, .slice A1 n1 c1, .slice A2 n2 c2]
  have k1 := h1.below HB
  clear h1
  obtain ⟨W1, hW1⟩ : ∃ W1, W1 = w.alloc (.cells #[.int .i64 v, .slice A1 n1 c1, .slice A2 n2 c2] 46) := ⟨_, rfl⟩
  rw [← hW1] at HB HR k1
  have HW1 := Lib.hid hW1
  clear hW1
  obtain ⟨b, off, y, rfl, hb, hc, hy, hs⟩ := k1.at_ hk
  obtain rfl : x = y := Option.some.inj (hx.symm.trans hy)
  clear hx hy hs k1
  have hwide : ∀ w, Calls Try.prog 82 #[.agg #[.int .i64 v, .slice (some ⟨b, off, none⟩) n1 c1, .slice A2 n2 c2]] w fun e w' => e = .returned (.int .i64 ((M + 1 : Nat) : Int)) ∧ Below w.heap.size w w' := fun w => by
    rw [← hM]; exact wide_any v _ A2 n1 n2 c1 c2 w (by omega) (by omega) (by omega)
  clear hM v1 v2 b2
  generalize M + 1 = W at *
  have e1 : IntKind.i64.wrap ((r : Int) * (W : Int)) = ((r * W : Nat) : Int) := by rw [← Int.natCast_mul]; exact IntWalk.i64_in _ (by omega)
  have e2 : IntKind.i64.wrap (((r * W : Nat) : Int) + (c : Int)) = ((r * W + c : Nat) : Int) := by rw [← Int.natCast_add]; exact IntWalk.i64_in _ (by omega)
  have l1 : ((r * W + c : Nat) : Int) < (n1 : Int) := Int.ofNat_lt.2 hk
  clear hk
  generalize r * W = Xm at *
  generalize Xm + c = Xk at *
  go_enter Try.func116, Try.ntmps116
  go_wp2_with fail
  rw [← HW1.out]
  refine LC.wp_region W1 (fun _ _ => .int .i64 (W : Int)) (Below.refl _ _) (by kernel_rfl) (by kernel_rfl) ?_
  refine LC.plain rfl (fun K hK w' hw' => ?_)
  go_simp
  first | refine ⟨hw', hK _ ?_⟩ | refine hK _ ?_
  clear hK K
  clear hw' w'
  refine LC.plain rfl (fun K hK w' hw' => ?_)
  have hz : Below W1.heap.size W1 w' := hw'
  have q0 : w'.cell? ⟨w.heap.size, 0, none⟩ = some (.int .i64 v) := (HR.below hw' HR.lt).cell 0
  have q1 : w'.cell? ⟨w.heap.size, 1, none⟩ = some (.slice (some ⟨b, off, none⟩) n1 c1) := (HR.below hw' HR.lt).cell 1
  have q2 : w'.cell? ⟨w.heap.size, 2, none⟩ = some (.slice A2 n2 c2) := (HR.below hw' HR.lt).cell 2
  have q4 := (hz.cell (p := ⟨b, off + Xk, none⟩) hb).trans hc
  go_simp
  first | refine ⟨hw', hK _ ?_⟩ | refine hK _ ?_
  clear hK K
  clear q4 q2 q1 q0 hz
  clear hw' w'
  refine LC.plain rfl (fun K hK w' hw' => ?_)
  go_simp
  first | refine ⟨hw', hK _ ?_⟩ | refine hK _ ?_
  clear hK K
  clear hw' w'
  refine LC.plain rfl (fun K hK w' hw' => ?_)
  have hz : Below W1.heap.size W1 w' := hw'
  have q0 : w'.cell? ⟨w.heap.size, 0, none⟩ = some (.int .i64 v) := (HR.below hw' HR.lt).cell 0
  have q1 : w'.cell? ⟨w.heap.size, 1, none⟩ = some (.slice (some ⟨b, off, none⟩) n1 c1) := (HR.below hw' HR.lt).cell 1
  have q2 : w'.cell? ⟨w.heap.size, 2, none⟩ = some (.slice A2 n2 c2) := (HR.below hw' HR.lt).cell 2
  have q4 := (hz.cell (p := ⟨b, off + Xk, none⟩) hb).trans hc
  go_simp
  first | refine ⟨hw', hK _ ?_⟩ | refine hK _ ?_
  clear hK K
  clear q4 q2 q1 q0 hz
  clear hw' w'
  refine LC.plain rfl (fun K hK w' hw' => ?_)
  go_simp
  refine ⟨LC.call_gr hw' ?_, hK _ ?_⟩
  · first | (exact hwide _)
  clear hK K
  clear hw' w'
  refine LC.plain rfl (fun K hK w' hw' => ?_)
  go_simp
  first | refine ⟨hw', hK _ ?_⟩ | refine hK _ ?_
  clear hK K
  clear hw' w'
  refine LC.plain rfl (fun K hK w' hw' => ?_)
  go_simp
  first | refine ⟨hw', hK _ ?_⟩ | refine hK _ ?_
  clear hK K
  clear hw' w'
  refine LC.plain rfl (fun K hK w' hw' => ?_)
  go_simp
  first | refine ⟨hw', hK _ ?_⟩ | refine hK _ ?_
  clear hK K
  clear hw' w'
  refine LC.plain rfl (fun K hK w' hw' => ?_)
  go_simp
  first | refine ⟨hw', hK _ ?_⟩ | refine hK _ ?_
  clear hK K
  clear hw' w'
  refine LC.plain rfl (fun K hK w' hw' => ?_)
  have hz : Below W1.heap.size W1 w' := hw'
  have q0 : w'.cell? ⟨w.heap.size, 0, none⟩ = some (.int .i64 v) := (HR.below hw' HR.lt).cell 0
  have q1 : w'.cell? ⟨w.heap.size, 1, none⟩ = some (.slice (some ⟨b, off, none⟩) n1 c1) := (HR.below hw' HR.lt).cell 1
  have q2 : w'.cell? ⟨w.heap.size, 2, none⟩ = some (.slice A2 n2 c2) := (HR.below hw' HR.lt).cell 2
  have q4 := (hz.cell (p := ⟨b, off + Xk, none⟩) hb).trans hc
  go_simp
  first | refine ⟨hw', hK _ ?_⟩ | refine hK _ ?_
  clear hK K
  clear q4 q2 q1 q0 hz
  clear hw' w'
  refine LC.plain rfl (fun K hK w' hw' => ?_)
  go_simp
  first | refine ⟨hw', hK _ ?_⟩ | refine hK _ ?_
  clear hK K
  clear hw' w'
  refine LC.nil ?_
  intro wq hwq
  have hG : Below W1.heap.size W1 wq := hwq
  clear hwq
  go_wp2_with fail
  go_ret
  exact ⟨rfl, HB.trans (hG.mono HB.size)⟩
set_option maxHeartbeats 1000000 in
set_option maxRecDepth 100000 in
theorem l02At_any (p : Nat) (v : Int) (A1 A2 : Option Addr) (n1 n2 c1 c2 : Nat) (N : List Nat) (S : List Int) (M r c x : Nat) (w : World) (hr : Row w p 46 #[.int .i64 v, .slice A1 n1 c1, .slice A2 n2 c2]) (h1 : FS w A1 n1 N) (hM : v + n2 + 1 = ((M + 1 : Nat) : Int)) (v1 : 1 ≤ v) (v2 : v ≤ 8) (b1 : n1 ≤ 1048576) (b2 : n2 ≤ 8) (hk : r * (M + 1) + c < n1) (hx : N[r * (M + 1) + c]? = some x) :
    Calls Try.prog 115 #[.pointer (some ⟨p, 0, none⟩), .int .i64 (r : Int), .int .i64 (c : Int)] w fun e w' => ∃ k, e = .returned (.float .f32 x) ∧ w' = w.drewN k := by
  obtain ⟨b, off, y, rfl, hb, hc, hy, hs⟩ := h1.at_ hk
  obtain rfl : x = y := Option.some.inj (hx.symm.trans hy)
  clear hx hy hs h1
  have q1 : w.cell? ⟨p, 1, none⟩ = some (.slice (some ⟨b, off, none⟩) n1 c1) := hr.cell 1
  have hq : ∀ k, Calls Try.prog 113 #[.pointer (some ⟨p, 0, none⟩)] (w.drewN k) fun e w'' => e = .returned (.int .i64 ((M + 1 : Nat) : Int)) ∧ ∃ m, w'' = w.drewN m := fun k => by
    rw [← hM]; exact l02Wide_q p v _ A2 n1 n2 c1 c2 w hr (by omega) (by omega) (by omega) k
  clear hM v1 v2 b2 hr
  generalize M + 1 = W at *
  have e1 : IntKind.i64.wrap ((r : Int) * (W : Int)) = ((r * W : Nat) : Int) := by rw [← Int.natCast_mul]; exact IntWalk.i64_in _ (by omega)
  have e2 : IntKind.i64.wrap (((r * W : Nat) : Int) + (c : Int)) = ((r * W + c : Nat) : Int) := by rw [← Int.natCast_add]; exact IntWalk.i64_in _ (by omega)
  have l1 : ((r * W + c : Nat) : Int) < (n1 : Int) := Int.ofNat_lt.2 hk
  clear hk
  generalize r * W = Xm at *
  generalize Xm + c = Xk at *
  go_enter Try.func115, Try.ntmps115
  go_wp2_with fail
  go_big_quiet ((go_at_call 113; with_reducible exact hq _))
  go_wp2_with fail
  go_ret
  exact ⟨_, rfl, rfl⟩
set_option maxHeartbeats 1000000 in
set_option maxRecDepth 100000 in
theorem l02Enter_any (p : Nat) (v : Int) (A1 A2 : Option Addr) (n1 n2 c1 c2 : Nat) (N : List Nat) (S : List Int) (M near : Nat) (w : World) (hr : Row w p 46 #[.int .i64 v, .slice A1 n1 c1, .slice A2 n2 c2]) (h1 : FS w A1 n1 N) (hM : v + n2 + 1 = ((M + 1 : Nat) : Int)) (v1 : 1 ≤ v) (v2 : v ≤ 8) (b1 : n1 ≤ 1048576) (b2 : n2 ≤ 8) (hM16 : M ≤ 16) (hn1 : n1 = (n2 + 1) * (M + 1)) :
    Calls Try.prog 98 #[.pointer (some ⟨p, 0, none⟩), .float .f32 near] w fun e w' => ∃ k, e = .returned (.int .i64 (enterF (Op.negFloat .f32 near) N (n2 * (M + 1)) M 0)) ∧ w' = w.drewN k := by
  have hq : ∀ q, Calls Try.prog 113 #[.pointer (some ⟨p, 0, none⟩)] (w.drewN q) fun e w'' => ∃ k, e = .returned (.int .i64 ((M : Int) + 1)) ∧ w'' = (w.drewN q).drewN k := fun q => by
    have := l02Wide_any p v A1 A2 n1 n2 c1 c2 (w.drewN q) (hr.drewN q) (by omega) (by omega) (by omega)
    rw [show v + (n2 : Int) + 1 = (M : Int) + 1 by omega] at this
    exact this
  have hat := fun c x q hk hx => l02At_any p v A1 A2 n1 n2 c1 c2 N S M n2 c x (w.drewN q) (hr.drewN q) (h1.drewN q) hM v1 v2 b1 b2 hk hx
  have q2 := fun q => (hr.drewN q).cell 2
  have HN := Lib.hid hn1
  clear hn1 hM
  go_enter Try.func98, Try.ntmps98
  go_wp2_with fail
  go_loopw [5] (fun i wr => ∃ k q : Nat, k ≤ M ∧ i = .int .i64 k ∧ wr = w.drewN q ∧ enterF (Op.negFloat .f32 near) N (n2 * (M + 1)) (M - k) k = enterF (Op.negFloat .f32 near) N (n2 * (M + 1)) M 0) (fun i _ => M - (intOf i).toNat)
  case atStart => exact ⟨0, 0, Nat.zero_le _, rfl, rfl, rfl⟩
  case round =>
    obtain ⟨k, q, hk, rfl, rfl, hrel⟩ := hrel
    have HRL := Lib.hid hrel
    clear hrel
    by_cases hlt : k < M
    · obtain ⟨b, off, x, rfl, hb, hc, hx, hs⟩ := h1.at_ (entry_fits HN.out (Nat.le_refl n2) hk)
      have HX := Lib.hid (getD_of (z := 0) hx)
      have hlt2 : (k : Int) < (M : Int) := by omega
      have hat' := fun q' => hat k x q' (entry_fits HN.out (Nat.le_refl n2) hk) hx
      have q2' : (w.drewN q).cell? ⟨p, 2, none⟩ = some (.slice A2 n2 c2) := q2 q
      clear hx hs hat
      have HE : Hid (enterF (Op.negFloat .f32 near) N (n2 * (M + 1)) (M - k) k = bif FloatKind.f32.format.order x (Op.negFloat .f32 near) == some .lt then (k : Int) else enterF (Op.negFloat .f32 near) N (n2 * (M + 1)) (M - (k + 1)) (k + 1)) := by
        show _ = _
        rw [show M - k = (M - (k + 1)) + 1 by omega, enterF, HX.out]
      cases hf : (FloatKind.f32.format.order x (Op.negFloat .f32 near) == some .lt)
      · have HE2 : Hid (enterF (Op.negFloat .f32 near) N (n2 * (M + 1)) (M - (k + 1)) (k + 1) = enterF (Op.negFloat .f32 near) N (n2 * (M + 1)) M 0) := by show _ = _; rw [← HRL.out, HE.out, hf]; rfl
        clear HE HRL
        go_wp2_with fail
        refine (hq _).mono ?_
        rintro e wx ⟨m1, rfl, rfl⟩
        rw [World.drewN_drewN]
        have q2'' : (w.drewN (q + m1)).cell? ⟨p, 2, none⟩ = some (.slice A2 n2 c2) := q2 _
        go_wp2_with fail
        refine (hat' _).mono ?_
        rintro e wx ⟨m2, rfl, rfl⟩
        go_wp2_with fail
        go_roundw
        case rel => exact ⟨k + 1, _, by omega, by go_num, rfl, HE2.out⟩
        case measure => simp [intOf]; omega
      · have HE2 : Hid (enterF (Op.negFloat .f32 near) N (n2 * (M + 1)) M 0 = (k : Int)) := by show _ = _; rw [← HRL.out, HE.out, hf]; rfl
        clear HE HRL
        go_wp2_with fail
        refine (hq _).mono ?_
        rintro e wx ⟨m1, rfl, rfl⟩
        rw [World.drewN_drewN]
        have q2'' : (w.drewN (q + m1)).cell? ⟨p, 2, none⟩ = some (.slice A2 n2 c2) := q2 _
        go_wp2_with fail
        refine (hat' _).mono ?_
        rintro e wx ⟨m2, rfl, rfl⟩
        go_wp2_with fail
        go_ret
        exact ⟨_, by rw [HE2.out]; rfl, rfl⟩
    · obtain rfl : k = M := by omega
      have HE2 : Hid (enterF (Op.negFloat .f32 near) N (n2 * (k + 1)) k 0 = -1) := by show _ = _; rw [← HRL.out, Nat.sub_self]; rfl
      clear HRL
      go_wp2_with fail
      refine (hq _).mono ?_
      rintro e wx ⟨m1, rfl, rfl⟩
      go_wp2_with fail
      go_ret
      exact ⟨_, by rw [HE2.out]; rfl, rfl⟩
theorem specEnterOf_any (v : Int) (A1 A2 : Option Addr) (n1 n2 c1 c2 : Nat) (N : List Nat) (S : List Int) (near : Nat) (w : World) (h1 : FS w A1 n1 N) (h2 : IS w A2 n2 S) (b1 : n1 ≤ 1048576) (b2 : n2 ≤ 1048576) (hx : (Lit.float .f32 near).wf = true) :
    Calls Try.prog 48 #[.agg #[.int .i64 v, .slice A1 n1 c1, .slice A2 n2 c2], .float .f32 near] w fun e w' => e = .returned (.tuple #[.int .i64 (enterI v n1 n2 N S near), .bool (enterV v n1 n2 N S near)]) ∧ Below w.heap.size w w' := by
  have HB : Below w.heap.size w (w.alloc (.cells #[.int .i64 v, .slice A1 n1 c1, .slice A2 n2 c2] 46)) := (Below.refl _ _).alloc (Nat.le_refl _) _
  have HR := Row.new w 46 #[.int .i64 v, .slice A1 n1 c1, .slice A2 n2 c2]
  have k1 := h1.below HB
  have k2 := h2.below HB
  clear h1 h2
  cases hT : tableV v n1 n2 N S
  · have H : Hid (enterV v n1 n2 N S near = false) := by show _ = _; rw [enterV, hT]; rfl
    have HI : Hid (enterI v n1 n2 N S near = 0) := by show _ = _; rw [enterI, H.out]; rfl
    go_enter Try.func48, Try.ntmps48
    go_wp2_with fail
    refine (l02Table_any w.heap.size v A1 A2 n1 n2 c1 c2 N S _ HR k1 k2 b1 b2).mono ?_
    rintro e wx ⟨m1, rfl, rfl⟩
    rw [hT]
    go_wp2_with fail
    go_ret2
    exact ⟨by rw [H.out, HI.out]; rfl, below_drewN HB _⟩
  cases hne : leastA (av .f32 near)
  · have H : Hid (enterV v n1 n2 N S near = false) := by show _ = _; rw [enterV, hT, hne]; rfl
    have HI : Hid (enterI v n1 n2 N S near = 0) := by show _ = _; rw [enterI, H.out]; rfl
    go_enter Try.func48, Try.ntmps48
    go_wp2_with fail
    refine (l02Table_any w.heap.size v A1 A2 n1 n2 c1 c2 N S _ HR k1 k2 b1 b2).mono ?_
    rintro e wx ⟨m1, rfl, rfl⟩
    rw [hT]
    go_wp2_with fail
    refine (l02Least_any _ _).mono ?_
    rintro e wx ⟨m2, rfl, rfl⟩
    rw [hne]
    go_wp2_with fail
    go_ret2
    exact ⟨by rw [H.out, HI.out]; rfl, below_drewN HB _⟩
  obtain ⟨hsh, _, _⟩ := tableV_shape hT
  obtain ⟨M, e1, e2, e3, e4, e5, e6, e7⟩ := shape_nat hsh
  have H : Hid (enterV v n1 n2 N S near = true) := by show _ = _; rw [enterV, hT, hne]; rfl
  have HI : Hid (enterI v n1 n2 N S near = enterF (Op.negFloat .f32 near) N (n2 * (M + 1)) M 0) := by show _ = _; rw [enterI, H.out, e3, e4]; rfl
  have hc := fun q => l02Enter_any w.heap.size v A1 A2 n1 n2 c1 c2 N S M near _ (HR.drewN q) (k1.drewN q) e2 hsh.1 hsh.2.1 b1 hsh.2.2.2.1 e6 e5
  clear e1 e2 e3 e4 e5 e6 e7 hsh
  go_enter Try.func48, Try.ntmps48
  go_wp2_with fail
  refine (l02Table_any w.heap.size v A1 A2 n1 n2 c1 c2 N S _ HR k1 k2 b1 b2).mono ?_
  rintro e wx ⟨m1, rfl, rfl⟩
  rw [hT]
  go_wp2_with fail
  refine (l02Least_any _ _).mono ?_
  rintro e wx ⟨m2, rfl, rfl⟩
  rw [hne]
  rw [World.drewN_drewN]
  go_wp2_with fail
  refine (hc _).mono ?_
  rintro e wx ⟨m3, rfl, rfl⟩
  go_wp2_with fail
  go_ret2
  exact ⟨by rw [H.out, HI.out]; rfl, below_drewN HB _⟩
set_option maxHeartbeats 1000000 in
set_option maxRecDepth 100000 in
theorem enter_any (v : Int) (A1 A2 : Option Addr) (n1 n2 c1 c2 : Nat) (N : List Nat) (S : List Int) (M near : Nat) (w : World) (h1 : FS w A1 n1 N) (hM : v + n2 + 1 = ((M + 1 : Nat) : Int)) (v1 : 1 ≤ v) (v2 : v ≤ 8) (b1 : n1 ≤ 1048576) (b2 : n2 ≤ 8) (hM16 : M ≤ 16) (hn1 : n1 = (n2 + 1) * (M + 1)) :
    Calls Try.prog 99 #[.agg #[.int .i64 v, .slice A1 n1 c1, .slice A2 n2 c2], .float .f32 near] w fun e w' => e = .returned (.int .i64 (enterF (Op.negFloat .f32 near) N (n2 * (M + 1)) M 0)) ∧ Below w.heap.size w w' := by
  have HB : Below w.heap.size w (w.alloc (.cells #[.int .i64 v, .slice A1 n1 c1, .slice A2 n2 c2] 46)) := (Below.refl _ _).alloc (Nat.le_refl _) _
  have HR := Row.new w 46 #[.int .i64 v, .slice A1 n1 c1, .slice A2 n2 c2]
  have k1 := h1.below HB
  clear h1
  obtain ⟨W1, hW1⟩ : ∃ W1, W1 = w.alloc (.cells #[.int .i64 v, .slice A1 n1 c1, .slice A2 n2 c2] 46) := ⟨_, rfl⟩
  rw [← hW1] at HB HR k1
  have HW1 := Lib.hid hW1
  clear hW1
  have hq : ∀ w, Calls Try.prog 82 #[.agg #[.int .i64 v, .slice A1 n1 c1, .slice A2 n2 c2]] w fun e w'' => e = .returned (.int .i64 ((M : Int) + 1)) ∧ Below w.heap.size w w'' := fun w => by
    have := wide_any v A1 A2 n1 n2 c1 c2 w (by omega) (by omega) (by omega)
    rw [show v + (n2 : Int) + 1 = (M : Int) + 1 by omega] at this
    exact this
  have hat := fun c x wq hb hk hx => at_any v A1 A2 n1 n2 c1 c2 N S M n2 c x wq (k1.below hb) hM v1 v2 b1 b2 hk hx
  have HN := Lib.hid hn1
  clear hn1 hM
  go_enter Try.func99, Try.ntmps99
  go_wp2_with fail
  rw [← HW1.out]
  go_loopw [5] (fun i wr => ∃ k : Nat, k ≤ M ∧ i = .int .i64 k ∧ Below W1.heap.size W1 wr ∧ enterF (Op.negFloat .f32 near) N (n2 * (M + 1)) (M - k) k = enterF (Op.negFloat .f32 near) N (n2 * (M + 1)) M 0) (fun i _ => M - (intOf i).toNat)
  case atStart => exact ⟨0, Nat.zero_le _, rfl, Below.refl _ _, rfl⟩
  case round =>
    obtain ⟨k, hk, rfl, hbel, hrel⟩ := hrel
    have HRL := Lib.hid hrel
    clear hrel
    have HR0 := HR.below hbel HR.lt
    have q0 : wr.cell? ⟨w.heap.size, 0, none⟩ = some (.int .i64 v) := HR0.cell 0
    have q1 : wr.cell? ⟨w.heap.size, 1, none⟩ = some (.slice A1 n1 c1) := HR0.cell 1
    have q2 : wr.cell? ⟨w.heap.size, 2, none⟩ = some (.slice A2 n2 c2) := HR0.cell 2
    by_cases hlt : k < M
    · obtain ⟨b, off, x, rfl, hb, hc, hx, hs⟩ := k1.at_ (entry_fits HN.out (Nat.le_refl n2) hk)
      have HX := Lib.hid (getD_of (z := 0) hx)
      have hlt2 : (k : Int) < (M : Int) := by omega
      have hat' := fun wq hb => hat k x wq hb (entry_fits HN.out (Nat.le_refl n2) hk) hx
      clear hx hs hat
      have HE : Hid (enterF (Op.negFloat .f32 near) N (n2 * (M + 1)) (M - k) k = bif FloatKind.f32.format.order x (Op.negFloat .f32 near) == some .lt then (k : Int) else enterF (Op.negFloat .f32 near) N (n2 * (M + 1)) (M - (k + 1)) (k + 1)) := by
        show _ = _
        rw [show M - k = (M - (k + 1)) + 1 by omega, enterF, HX.out]
      go_wp2_with fail
      refine (hq _).mono ?_
      rintro e w2 ⟨rfl, hb2⟩
      have hbel2 := hbel.trans (hb2.mono hbel.size)
      have HR2 := HR.below hbel2 HR.lt
      clear q0 q1 q2
      have q0 : w2.cell? ⟨w.heap.size, 0, none⟩ = some (.int .i64 v) := HR2.cell 0
      have q1 : w2.cell? ⟨w.heap.size, 1, none⟩ = some (.slice (some ⟨b, off, none⟩) n1 c1) := HR2.cell 1
      have q2 : w2.cell? ⟨w.heap.size, 2, none⟩ = some (.slice A2 n2 c2) := HR2.cell 2
      go_wp2_with fail
      refine (hat' _ hbel2).mono ?_
      rintro e w3 ⟨rfl, hb3⟩
      have hbel3 := hbel2.trans (hb3.mono hbel2.size)
      clear q0 q1 q2 hb2 hb3
      cases hf : (FloatKind.f32.format.order x (Op.negFloat .f32 near) == some .lt)
      · have HE2 : Hid (enterF (Op.negFloat .f32 near) N (n2 * (M + 1)) (M - (k + 1)) (k + 1) = enterF (Op.negFloat .f32 near) N (n2 * (M + 1)) M 0) := by show _ = _; rw [← HRL.out, HE.out, hf]; rfl
        clear HE HRL
        go_wp2_with fail
        go_roundw
        case rel => exact ⟨k + 1, by omega, by go_num, hbel3, HE2.out⟩
        case measure => simp [intOf]; omega
      · have HE2 : Hid (enterF (Op.negFloat .f32 near) N (n2 * (M + 1)) M 0 = (k : Int)) := by show _ = _; rw [← HRL.out, HE.out, hf]; rfl
        clear HE HRL
        go_wp2_with fail
        go_ret
        exact ⟨by rw [HE2.out]; rfl, HB.trans (hbel3.mono HB.size)⟩
    · obtain rfl : k = M := by omega
      have HE2 : Hid (enterF (Op.negFloat .f32 near) N (n2 * (k + 1)) k 0 = -1) := by show _ = _; rw [← HRL.out, Nat.sub_self]; rfl
      clear HRL
      go_wp2_with fail
      refine (hq _).mono ?_
      rintro e w2 ⟨rfl, hb2⟩
      have hbel2 := hbel.trans (hb2.mono hbel.size)
      go_wp2_with fail
      go_ret
      exact ⟨by rw [HE2.out]; rfl, HB.trans (hbel2.mono HB.size)⟩
theorem implEnterOf_any (v : Int) (A1 A2 : Option Addr) (n1 n2 c1 c2 : Nat) (N : List Nat) (S : List Int) (near : Nat) (w : World) (h1 : FS w A1 n1 N) (h2 : IS w A2 n2 S) (b1 : n1 ≤ 1048576) (b2 : n2 ≤ 1048576) (hx : (Lit.float .f32 near).wf = true) (hcap : n2 = c2 := by rfl) :
    Calls Try.prog 49 #[.agg #[.int .i64 v, .slice A1 n1 c1, .slice A2 n2 c2], .float .f32 near] w fun e w' => e = .returned (.tuple #[.int .i64 (enterI v n1 n2 N S near), .bool (enterV v n1 n2 N S near)]) ∧ Below w.heap.size w w' := by
  have HB : Below w.heap.size w (w.alloc (.cells #[.int .i64 v, .slice A1 n1 c1, .slice A2 n2 c2] 46)) := (Below.refl _ _).alloc (Nat.le_refl _) _
  have HR := Row.new w 46 #[.int .i64 v, .slice A1 n1 c1, .slice A2 n2 c2]
  have k1 := h1.below HB
  have k2 := h2.below HB
  clear h1 h2
  have HT := fun w' f1 f2 => implValidTable_any v A1 A2 n1 n2 c1 c2 N S w' f1 f2 b1 b2 hcap
  clear hcap
  cases hT : tableV v n1 n2 N S
  · have H : Hid (enterV v n1 n2 N S near = false) := by show _ = _; rw [enterV, hT]; rfl
    have HI : Hid (enterI v n1 n2 N S near = 0) := by show _ = _; rw [enterI, H.out]; rfl
    go_enter Try.func49, Try.ntmps49
    go_wp2_with fail
    refine (HT _ k1 k2).mono ?_
    rintro e w1 ⟨rfl, hb⟩
    rw [hT]
    go_wp2_with fail
    go_ret2
    exact ⟨by rw [H.out, HI.out]; rfl, HB.trans (hb.mono HB.size)⟩
  cases hne : leastA (av .f32 near)
  · have H : Hid (enterV v n1 n2 N S near = false) := by show _ = _; rw [enterV, hT, hne]; rfl
    have HI : Hid (enterI v n1 n2 N S near = 0) := by show _ = _; rw [enterI, H.out]; rfl
    go_enter Try.func49, Try.ntmps49
    go_wp2_with fail
    refine (HT _ k1 k2).mono ?_
    rintro e w1 ⟨rfl, hb⟩
    rw [hT]
    go_wp2_with fail
    refine (isNear_any _ _).mono ?_
    rintro e wx ⟨m2, rfl, rfl⟩
    rw [hne]
    go_wp2_with fail
    go_ret2
    exact ⟨by rw [H.out, HI.out]; rfl, below_drewN (HB.trans (hb.mono HB.size)) _⟩
  obtain ⟨hsh, _, _⟩ := tableV_shape hT
  obtain ⟨M, e1, e2, e3, e4, e5, e6, e7⟩ := shape_nat hsh
  have H : Hid (enterV v n1 n2 N S near = true) := by show _ = _; rw [enterV, hT, hne]; rfl
  have HI : Hid (enterI v n1 n2 N S near = enterF (Op.negFloat .f32 near) N (n2 * (M + 1)) M 0) := by show _ = _; rw [enterI, H.out, e3, e4]; rfl
  have hc := fun wq f => enter_any v A1 A2 n1 n2 c1 c2 N S M near wq f e2 hsh.1 hsh.2.1 b1 hsh.2.2.2.1 e6 e5
  clear e1 e2 e3 e4 e5 e6 e7 hsh
  go_enter Try.func49, Try.ntmps49
  go_wp2_with fail
  refine (HT _ k1 k2).mono ?_
  rintro e w1 ⟨rfl, hb⟩
  rw [hT]
  replace HR := HR.below hb HR.lt
  replace HB := HB.trans (hb.mono HB.size)
  replace k1 := k1.below hb
  clear hb k2 HT
  go_wp2_with fail
  refine (isNear_any _ _).mono ?_
  rintro e wx ⟨m2, rfl, rfl⟩
  rw [hne]
  have HR2 := HR.drewN m2
  have q0 : (w1.drewN m2).cell? ⟨w.heap.size, 0, none⟩ = some (.int .i64 v) := HR2.cell 0
  have q1 : (w1.drewN m2).cell? ⟨w.heap.size, 1, none⟩ = some (.slice A1 n1 c1) := HR2.cell 1
  have q2 : (w1.drewN m2).cell? ⟨w.heap.size, 2, none⟩ = some (.slice A2 n2 c2) := HR2.cell 2
  go_wp2_with fail
  refine (hc _ (k1.drewN _)).mono ?_
  rintro e w3 ⟨rfl, hb⟩
  go_wp2_with fail
  go_ret2
  exact ⟨by rw [H.out, HI.out]; rfl, (below_drewN HB m2).trans (hb.mono (below_drewN HB m2).size)⟩
end Go.Proofs.Yteodplednmeaaaa
