/- Tables: the row that leaves. -/
import Derived.Test.YteodplednmeaaaaTE
import Derived.Deep.RegionHeld3
import Derived.Deep.RegionWith
import Derived.Deep.DeepCutAuto
import Derived.Deep.CutRange
namespace Go.Proofs.Yteodplednmeaaaa
open Go.RowKit
set_option linter.unusedVariables false
set_option linter.unusedSimpArgs false
attribute [local go_sem] lo_value lo_enter run_store_float run_neg LC.lc_value LC.lc_enter

def leaveQ (N : List Nat) (M col i : Nat) : Option Nat := fop .quo .f32 (av .f32 (N.getD (i * (M + 1) + M) 0)) (av .f32 (N.getD (i * (M + 1) + col) 0))
def leaveB (N : List Nat) (S : List Int) (M col near i : Nat) (s : Int × Option Nat) : Bool :=
  (FloatKind.f32.format.order (N.getD (i * (M + 1) + col) 0) near == some .gt) &&
    (decide (s.1 < 0) || flt .f32 (leaveQ N M col i) s.2 || (feq .f32 (leaveQ N M col i) s.2 && decide (S.getD i 0 < S.getD s.1.toNat 0)))
def leaveS (N : List Nat) (S : List Int) (M col near : Nat) : Nat → Int × Option Nat
  | 0 => (-1, some 0)
  | i + 1 => bif leaveB N S M col near i (leaveS N S M col near i) then ((i : Int), leaveQ N M col i) else leaveS N S M col near i
theorem leave_yes {N : List Nat} {S : List Int} {M col near i : Nat} (h : leaveB N S M col near i (leaveS N S M col near i) = true) : leaveS N S M col near (i + 1) = ((i : Int), leaveQ N M col i) := by rw [leaveS, h]; rfl
theorem leave_no {N : List Nat} {S : List Int} {M col near i : Nat} (h : leaveB N S M col near i (leaveS N S M col near i) = false) : leaveS N S M col near (i + 1) = leaveS N S M col near i := by rw [leaveS, h]; rfl
def columnV (v : Int) (n1 n2 : Nat) (N : List Nat) (S : List Int) (col : Int) : Bool := tableV v n1 n2 N S && inR col 0 (v + n2 - 1)
def leaveV (v : Int) (n1 n2 : Nat) (N : List Nat) (S : List Int) (col : Int) (near : Nat) : Bool := columnV v n1 n2 N S col && leastA (av .f32 near)
def leaveI (v : Int) (n1 n2 : Nat) (N : List Nat) (S : List Int) (col : Int) (near : Nat) : Int :=
  bif leaveV v n1 n2 N S col near then (leaveS N S (v + n2).toNat col.toNat near n2).1 else 0
theorem column_parts {v : Int} {n1 n2 : Nat} {N : List Nat} {S : List Int} {col : Int} (h : columnV v n1 n2 N S col = true) : tableV v n1 n2 N S = true ∧ inR col 0 (v + n2 - 1) = true := by
  rw [columnV, Bool.and_eq_true] at h; exact h
/-- what holds ahead of a round: which row is best, and its quotient -/
structure LeaveAt (N : List Nat) (S : List Int) (M col near k : Nat) (g : Int) (rl : Nat) : Prop where
  eq : leaveS N S M col near k = (g, av .f32 rl)
  lo : -1 ≤ g
  hi : g < k
theorem LeaveAt.zero (N : List Nat) (S : List Int) (M col near : Nat) : LeaveAt N S M col near 0 (-1) 0 := ⟨by rw [leaveS, av_zero], by omega, by omega⟩
theorem feq_raw2 (x y : Nat) : (FloatKind.f32.format.order x y == some .eq) = feq .f32 (av .f32 x) (av .f32 y) := by rw [order_ford]; rfl

section
variable {N : List Nat} {S : List Int} {M col near k rl x y r j : Nat} {g s t : Int}
/-- a round that passes the row by: its entry is not greater than near -/
theorem LeaveAt.pass (h : LeaveAt N S M col near k g rl) (hx : N.getD (k * (M + 1) + col) 0 = x) (hg : (FloatKind.f32.format.order x near == some .gt) = false) : LeaveAt N S M col near (k + 1) g rl :=
  ⟨by rw [leave_no, h.eq]; rw [leaveB, hx, hg, Bool.false_and], h.lo, by have := h.hi; omega⟩
/-- what is asked of a row whose entry is greater -/
theorem LeaveAt.ask (h : LeaveAt N S M col near k g rl) (hx : N.getD (k * (M + 1) + col) 0 = x) (hy : N.getD (k * (M + 1) + M) 0 = y) (hg : (FloatKind.f32.format.order x near == some .gt) = true) (hr : av .f32 r = fop .quo .f32 (av .f32 y) (av .f32 x)) :
    leaveB N S M col near k (leaveS N S M col near k) = (decide (g < 0) || (FloatKind.f32.format.order r rl == some .lt) || ((FloatKind.f32.format.order r rl == some .eq) && decide (S.getD k 0 < S.getD g.toNat 0))) ∧ leaveQ N M col k = av .f32 r := by
  have e : leaveQ N M col k = av .f32 r := by rw [leaveQ, hx, hy, hr]
  refine ⟨?_, e⟩
  rw [leaveB, h.eq, hx, hg, Bool.true_and, e, flt_raw2, feq_raw2]
theorem LeaveAt.take (h : LeaveAt N S M col near k g rl) (hb : leaveB N S M col near k (leaveS N S M col near k) = true) (hq : leaveQ N M col k = av .f32 r) : LeaveAt N S M col near (k + 1) k r :=
  ⟨by rw [leave_yes hb, hq], by omega, by omega⟩
theorem LeaveAt.leave (h : LeaveAt N S M col near k g rl) (hb : leaveB N S M col near k (leaveS N S M col near k) = false) : LeaveAt N S M col near (k + 1) g rl :=
  ⟨by rw [leave_no hb, h.eq], h.lo, by have := h.hi; omega⟩
end

set_option maxHeartbeats 1000000 in
set_option maxRecDepth 100000 in
theorem last_any (v : Int) (A1 A2 : Option Addr) (n1 n2 c1 c2 : Nat) (N : List Nat) (S : List Int) (M r x : Nat) (w : World) (h1 : FS w A1 n1 N) (hM : v + n2 + 1 = ((M + 1 : Nat) : Int)) (v1 : 1 ≤ v) (v2 : v ≤ 8) (b1 : n1 ≤ 1048576) (b2 : n2 ≤ 8) (hM16 : M ≤ 16) (hk : r * (M + 1) + M < n1) (hx : N[r * (M + 1) + M]? = some x) :
    Calls Try.prog 117 #[.agg #[.int .i64 v, .slice A1 n1 c1, .slice A2 n2 c2], .int .i64 (r : Int)] w fun e w' => e = .returned (.float .f32 x) ∧ Below w.heap.size w w' := by
  have HB : Below w.heap.size w (w.alloc (.cells #[.int .i64 v, .slice A1 n1 c1, .slice A2 n2 c2] 46)) := (Below.refl _ _).alloc (Nat.le_refl _) _
  have HR := Row.new w 46 #[.int .i64 v, .slice A1 n1 c1, .slice A2 n2 c2]
  have k1 := h1.below HB
  clear h1
  obtain ⟨W1, hW1⟩ : ∃ W1, W1 = w.alloc (.cells #[.int .i64 v, .slice A1 n1 c1, .slice A2 n2 c2] 46) := ⟨_, rfl⟩
  rw [← hW1] at HB HR k1
  have HW1 := Lib.hid hW1
  clear hW1
  have hwide : ∀ w, Calls Try.prog 82 #[.agg #[.int .i64 v, .slice A1 n1 c1, .slice A2 n2 c2]] w fun e w' => e = .returned (.int .i64 ((M : Int) + 1)) ∧ Below w.heap.size w w' := fun w => by
    have := wide_any v A1 A2 n1 n2 c1 c2 w (by omega) (by omega) (by omega)
    rw [show v + (n2 : Int) + 1 = (M : Int) + 1 by omega] at this
    exact this
  have hat : ∀ wq, LC.Gr W1 wq → Calls Try.prog 116 #[.agg #[.int .i64 v, .slice A1 n1 c1, .slice A2 n2 c2], .int .i64 (r : Int), .int .i64 (M : Int)] wq fun e w' => e = .returned (.float .f32 x) ∧ Below wq.heap.size wq w' := fun wq hg =>
    at_any v A1 A2 n1 n2 c1 c2 N S M r M x wq (k1.below (LC.gr hg)) hM v1 v2 b1 b2 hk hx
  clear hM v1 v2 b2 hk hx
  have hwM : IntKind.i64.wrap (M : Int) = (M : Int) := IntWalk.i64_in _ (by omega)
  obtain ⟨U, uw, ua⟩ : ∃ U : FuncId → Array Value → Value, U 82 #[.agg #[.int .i64 v, .slice A1 n1 c1, .slice A2 n2 c2]] = .int .i64 ((M : Int) + 1) ∧ U 116 #[.agg #[.int .i64 v, .slice A1 n1 c1, .slice A2 n2 c2], .int .i64 (r : Int), .int .i64 (M : Int)] = .float .f32 x :=
    ⟨fun f args => if f = 82 then .int .i64 ((M : Int) + 1) else .float .f32 x, rfl, rfl⟩
  go_enter Try.func117, Try.ntmps117
  go_wp2_with fail
  rw [← HW1.out]
  refine LC.wp_region W1 U (Below.refl _ _) (by kernel_rfl) (by kernel_rfl) ?_
  refine LC.plain rfl (fun K hK w' hw' => ?_)
  have q0 : w'.cell? ⟨w.heap.size, 0, none⟩ = some (.int .i64 v) := (HR.below hw' HR.lt).cell 0
  have q1 : w'.cell? ⟨w.heap.size, 1, none⟩ = some (.slice A1 n1 c1) := (HR.below hw' HR.lt).cell 1
  have q2 : w'.cell? ⟨w.heap.size, 2, none⟩ = some (.slice A2 n2 c2) := (HR.below hw' HR.lt).cell 2
  go_simp
  first | refine ⟨hw', hK _ ?_⟩ | refine hK _ ?_
  clear hK K
  clear q2 q1 q0
  clear hw' w'
  refine LC.plain rfl (fun K hK w' hw' => ?_)
  go_simp
  first | refine ⟨hw', hK _ ?_⟩ | refine hK _ ?_
  clear hK K
  clear hw' w'
  refine LC.plain rfl (fun K hK w' hw' => ?_)
  have q0 : w'.cell? ⟨w.heap.size, 0, none⟩ = some (.int .i64 v) := (HR.below hw' HR.lt).cell 0
  have q1 : w'.cell? ⟨w.heap.size, 1, none⟩ = some (.slice A1 n1 c1) := (HR.below hw' HR.lt).cell 1
  have q2 : w'.cell? ⟨w.heap.size, 2, none⟩ = some (.slice A2 n2 c2) := (HR.below hw' HR.lt).cell 2
  go_simp
  first | refine ⟨hw', hK _ ?_⟩ | refine hK _ ?_
  clear hK K
  clear q2 q1 q0
  clear hw' w'
  refine LC.plain rfl (fun K hK w' hw' => ?_)
  go_simp
  refine ⟨LC.call_gr hw' ?_, hK _ ?_⟩
  · first | (with_reducible exact hwide _) | (with_reducible exact hat _ hw')
  clear hK K
  clear hw' w'
  refine LC.plain rfl (fun K hK w' hw' => ?_)
  go_simp
  first | refine ⟨hw', hK _ ?_⟩ | refine hK _ ?_
  clear hK K
  clear hw' w'
  refine LC.plain rfl (fun K hK w' hw' => ?_)
  go_simp
  refine ⟨LC.call_gr hw' ?_, hK _ ?_⟩
  · first | (with_reducible exact hwide _) | (with_reducible exact hat _ hw')
  clear hK K
  clear hw' w'
  refine LC.plain rfl (fun K hK w' hw' => ?_)
  go_simp
  first | refine ⟨hw', hK _ ?_⟩ | refine hK _ ?_
  clear hK K
  clear hw' w'
  refine LC.nil ?_
  intro wq hwq
  have hG : Below W1.heap.size W1 wq := hwq
  clear hwq
  go_wp2_with fail
  go_ret
  exact ⟨rfl, HB.trans (hG.mono HB.size)⟩
set_option maxHeartbeats 1000000 in
set_option maxRecDepth 100000 in
theorem l02Column_any (p : Nat) (v : Int) (A1 A2 : Option Addr) (n1 n2 c1 c2 : Nat) (N : List Nat) (S : List Int) (col : Int) (w : World) (hr : Row w p 46 #[.int .i64 v, .slice A1 n1 c1, .slice A2 n2 c2]) (h1 : FS w A1 n1 N) (h2 : IS w A2 n2 S) (b1 : n1 ≤ 1048576) (b2 : n2 ≤ 1048576) :
    Calls Try.prog 101 #[.pointer (some ⟨p, 0, none⟩), .int .i64 col] w fun e w' => ∃ k, e = .returned (.bool (columnV v n1 n2 N S col)) ∧ w' = w.drewN k := by
  cases hT : tableV v n1 n2 N S
  · have H : Hid (columnV v n1 n2 N S col = false) := by show _ = _; rw [columnV, hT]; rfl
    go_enter Try.func101, Try.ntmps101
    go_wp2_with fail
    refine (l02Table_any p v A1 A2 n1 n2 c1 c2 N S _ hr h1 h2 b1 b2).mono ?_
    rintro e wx ⟨m1, rfl, rfl⟩
    rw [hT]
    go_wp2_with fail
    go_ret
    exact ⟨_, by rw [H.out]; rfl, rfl⟩
  · have H : Hid (columnV v n1 n2 N S col = inR col 0 (v + n2 - 1)) := by show _ = _; rw [columnV, hT]; rfl
    obtain ⟨hsh, _, _⟩ := tableV_shape hT
    obtain ⟨s1, s2, s3, s4, s5⟩ := hsh
    clear s5
    go_enter Try.func101, Try.ntmps101
    go_wp2_with fail
    refine (l02Table_any p v A1 A2 n1 n2 c1 c2 N S _ hr h1 h2 b1 b2).mono ?_
    rintro e wx ⟨m1, rfl, rfl⟩
    rw [hT]
    go_wp2_with fail
    refine (l02Wide_any p v A1 A2 n1 n2 c1 c2 _ (hr.drewN m1) (by omega) (by omega) b2).mono ?_
    rintro e wx ⟨m2, rfl, rfl⟩
    go_wp2_with fail
    refine (l00In_any _ _ _ _).mono ?_
    rintro e wx ⟨rfl, rfl⟩
    go_wp2_with fail
    go_ret
    exact ⟨_, by rw [H.out, show v + (n2 : Int) + 1 - 2 = v + n2 - 1 by omega]; rfl, rfl⟩
set_option maxHeartbeats 4000000 in
set_option maxRecDepth 100000 in
theorem l02Leave_any (p : Nat) (v : Int) (A1 A2 : Option Addr) (n1 n2 c1 c2 : Nat) (N : List Nat) (S : List Int) (M col near : Nat) (w : World) (hr : Row w p 46 #[.int .i64 v, .slice A1 n1 c1, .slice A2 n2 c2]) (h1 : FS w A1 n1 N) (h2 : IS w A2 n2 S) (hM : v + n2 + 1 = ((M + 1 : Nat) : Int)) (v1 : 1 ≤ v) (v2 : v ≤ 8) (b1 : n1 ≤ 1048576) (b2 : n2 ≤ 8) (hM16 : M ≤ 16) (hcol : col ≤ M) (hn1 : n1 = (n2 + 1) * (M + 1)) :
    Calls Try.prog 102 #[.pointer (some ⟨p, 0, none⟩), .int .i64 (col : Int), .float .f32 near] w fun e w' => ∃ k, e = .returned (.int .i64 (leaveS N S M col near n2).1) ∧ w' = w.drewN k := by
  have hq : ∀ q, Calls Try.prog 113 #[.pointer (some ⟨p, 0, none⟩)] (w.drewN q) fun e w'' => ∃ k, e = .returned (.int .i64 ((M : Int) + 1)) ∧ w'' = (w.drewN q).drewN k := fun q => by
    have := l02Wide_any p v A1 A2 n1 n2 c1 c2 (w.drewN q) (hr.drewN q) (by omega) (by omega) (by omega)
    rw [show v + (n2 : Int) + 1 = (M : Int) + 1 by omega] at this
    exact this
  have hat := fun r c x q hk hx => l02At_any p v A1 A2 n1 n2 c1 c2 N S M r c x (w.drewN q) (hr.drewN q) (h1.drewN q) hM v1 v2 b1 b2 hk hx
  have q2 := fun q => (hr.drewN q).cell 2
  have HN := Lib.hid hn1
  clear hn1 hM
  go_enter Try.func102, Try.ntmps102
  go_wp2_with fail
  go_loopw [7, 8, 9] (fun bs ls i wr => ∃ (k q rl : Nat) (g : Int), k ≤ n2 ∧ i = .int .i64 k ∧ bs = .int .i64 g ∧ ls = .float .f32 rl ∧ wr = w.drewN q ∧ LeaveAt N S M col near k g rl) (fun _ _ i _ => n2 - (intOf i).toNat)
  case atStart => exact ⟨0, 0, 0, -1, Nat.zero_le _, rfl, rfl, rfl, rfl, LeaveAt.zero _ _ _ _ _⟩
  case round =>
    obtain ⟨k, q, rl, g, hk, rfl, rfl, rfl, rfl, hL⟩ := hrel
    have q2' : (w.drewN q).cell? ⟨p, 2, none⟩ = some (.slice A2 n2 c2) := q2 q
    by_cases hlt : k < n2
    · have f1 := entry_fits HN.out (Nat.le_of_lt hlt) hcol
      have f2 := entry_fits HN.out (Nat.le_of_lt hlt) (Nat.le_refl M)
      obtain ⟨b, off, x, rfl, hb, hc, hx, hs⟩ := h1.at_ f1
      obtain ⟨b', off', y, e', hb', hc', hy, hs'⟩ := h1.at_ f2
      obtain ⟨b3, off3, z, rfl, hb3, hc3, hz, hs3⟩ := h2.at_ hlt
      have HX := Lib.hid (getD_of (z := 0) hx)
      have HY := Lib.hid (getD_of (z := 0) hy)
      have HZ := Lib.hid (getD_of (z := 0) hz)
      have hatx := fun q' => hat k col x q' f1 hx
      have haty := fun q' => hat k M y q' f2 hy
      have hlt2 : (k : Int) < (n2 : Int) := by omega
      clear hx hs hy hs' hz hs3 hat f1 f2 e' hc hc'
      cases hg : (FloatKind.f32.format.order x near == some .gt)
      · have HG := Lib.hid hg
        go_wp2_with fail
        refine (hatx _).mono ?_
        rintro e wx ⟨m1, rfl, rfl⟩
        go_wp2_with fail
        go_roundw
        case rel => exact ⟨k + 1, _, rl, g, by omega, by go_num, rfl, rfl, rfl, hL.pass HX.out HG.out⟩
        case measure => simp [intOf]; omega
      · have HG := Lib.hid hg
        go_wp2_with fail
        refine (hatx _).mono ?_
        rintro e wx ⟨m1, rfl, rfl⟩
        rw [World.drewN_drewN]
        go_wp2_with fail
        refine (hq _).mono ?_
        rintro e wx ⟨m2, rfl, rfl⟩
        rw [World.drewN_drewN]
        go_wp2_with fail
        refine (haty _).mono ?_
        rintro e wx ⟨m3, rfl, rfl⟩
        go_upto_region 9 with ((with_reducible apply wpList_farith (op := .quo)); rfl; rfl; rfl; intro r nq hqr)
        obtain ⟨HA, HQ⟩ := hL.ask HX.out HY.out HG.out hqr.out
        have HAH := Lib.hid HA
        have HQH := Lib.hid HQ
        clear HA HQ hg HX HY hatx haty
        by_cases hg1 : g < 0
        · obtain rfl : g = -1 := by have := hL.lo; omega
          have HT : Hid (leaveB N S M col near k (leaveS N S M col near k) = true) := by show _ = _; rw [HAH.out]; rfl
          clear HAH
          go_wp2_with fail
          go_big_quiet (fail)
          go_wp2_with fail
          go_roundw
          case rel => exact ⟨k + 1, _, r, (k : Int), by omega, by go_num, rfl, rfl, rfl, hL.take HT.out HQH.out⟩
          case measure => simp [intOf]; omega
        · obtain ⟨j, rfl⟩ : ∃ j : Nat, g = (j : Int) := ⟨g.toNat, by omega⟩
          have hjk : j < k := by have := hL.hi; omega
          have hd0 : decide ((j : Int) < 0) = false := decide_eq_false hg1
          cases ho : (FloatKind.f32.format.order r rl == some .lt)
          rotate_left
          · have HT : Hid (leaveB N S M col near k (leaveS N S M col near k) = true) := by show _ = _; rw [HAH.out, hd0, ho]; rfl
            clear HAH
            go_wp2_with fail
            go_big_quiet (fail)
            go_wp2_with fail
            go_roundw
            case rel => exact ⟨k + 1, _, r, (k : Int), by omega, by go_num, rfl, rfl, rfl, hL.take HT.out HQH.out⟩
            case measure => simp [intOf]; omega
          cases hp : (FloatKind.f32.format.order r rl == some .eq)
          · have HT : Hid (leaveB N S M col near k (leaveS N S M col near k) = false) := by show _ = _; rw [HAH.out, hd0, ho, hp]; rfl
            clear HAH
            go_wp2_with fail
            go_big_quiet (fail)
            go_wp2_with fail
            go_roundw
            case rel => exact ⟨k + 1, _, rl, _, by omega, by go_num, rfl, rfl, rfl, hL.leave HT.out⟩
            case measure => simp [intOf]; omega
          obtain ⟨b4, off4, t, e4, hb4, hc4, ht, hs4⟩ := h2.at_ (show j < n2 by omega)
          injection e4 with e4
          injection e4 with e4 e5
          subst e4; subst e5
          have HU := Lib.hid (getD_of (z := 0) ht)
          have hlt5 : (j : Int) < (n2 : Int) := by omega
          clear ht hs4
          cases hs5 : decide (z < t)
          · have HT : Hid (leaveB N S M col near k (leaveS N S M col near k) = false) := by show _ = _; rw [HAH.out, hd0, ho, hp, HZ.out, Int.toNat_natCast, HU.out, hs5]; rfl
            clear HAH
            go_wp2_with fail
            go_big_quiet (fail)
            go_wp2_with fail
            go_roundw
            case rel => exact ⟨k + 1, _, rl, _, by omega, by go_num, rfl, rfl, rfl, hL.leave HT.out⟩
            case measure => simp [intOf]; omega
          · have HT : Hid (leaveB N S M col near k (leaveS N S M col near k) = true) := by show _ = _; rw [HAH.out, hd0, ho, hp, HZ.out, Int.toNat_natCast, HU.out, hs5]; rfl
            clear HAH
            go_wp2_with fail
            go_big_quiet (fail)
            go_wp2_with fail
            go_roundw
            case rel => exact ⟨k + 1, _, r, (k : Int), by omega, by go_num, rfl, rfl, rfl, hL.take HT.out HQH.out⟩
            case measure => simp [intOf]; omega
    · obtain rfl : k = n2 := by omega
      have HE := Lib.hid hL.eq
      clear hL
      go_wp2_with fail
      go_ret
      exact ⟨_, by rw [HE.out]; rfl, rfl⟩
theorem specLeaveOf_any (v : Int) (A1 A2 : Option Addr) (n1 n2 c1 c2 : Nat) (N : List Nat) (S : List Int) (col : Int) (near : Nat) (w : World) (h1 : FS w A1 n1 N) (h2 : IS w A2 n2 S) (b1 : n1 ≤ 1048576) (b2 : n2 ≤ 1048576) (hy : (Lit.int .i64 col).wf = true) (hx : (Lit.float .f32 near).wf = true) :
    Calls Try.prog 57 #[.agg #[.int .i64 v, .slice A1 n1 c1, .slice A2 n2 c2], .int .i64 col, .float .f32 near] w fun e w' => e = .returned (.tuple #[.int .i64 (leaveI v n1 n2 N S col near), .bool (leaveV v n1 n2 N S col near)]) ∧ Below w.heap.size w w' := by
  have HB : Below w.heap.size w (w.alloc (.cells #[.int .i64 v, .slice A1 n1 c1, .slice A2 n2 c2] 46)) := (Below.refl _ _).alloc (Nat.le_refl _) _
  have HR := Row.new w 46 #[.int .i64 v, .slice A1 n1 c1, .slice A2 n2 c2]
  have k1 := h1.below HB
  have k2 := h2.below HB
  clear h1 h2
  cases hT : columnV v n1 n2 N S col
  · have H : Hid (leaveV v n1 n2 N S col near = false) := by show _ = _; rw [leaveV, hT]; rfl
    have HI : Hid (leaveI v n1 n2 N S col near = 0) := by show _ = _; rw [leaveI, H.out]; rfl
    go_enter Try.func57, Try.ntmps57
    go_wp2_with fail
    refine (l02Column_any w.heap.size v A1 A2 n1 n2 c1 c2 N S col _ HR k1 k2 b1 b2).mono ?_
    rintro e wx ⟨m1, rfl, rfl⟩
    rw [hT]
    go_wp2_with fail
    go_ret2
    exact ⟨by rw [H.out, HI.out]; rfl, below_drewN HB _⟩
  cases hne : leastA (av .f32 near)
  · have H : Hid (leaveV v n1 n2 N S col near = false) := by show _ = _; rw [leaveV, hT, hne]; rfl
    have HI : Hid (leaveI v n1 n2 N S col near = 0) := by show _ = _; rw [leaveI, H.out]; rfl
    go_enter Try.func57, Try.ntmps57
    go_wp2_with fail
    refine (l02Column_any w.heap.size v A1 A2 n1 n2 c1 c2 N S col _ HR k1 k2 b1 b2).mono ?_
    rintro e wx ⟨m1, rfl, rfl⟩
    rw [hT]
    go_wp2_with fail
    refine (l02Least_any _ _).mono ?_
    rintro e wx ⟨m2, rfl, rfl⟩
    rw [hne]
    go_wp2_with fail
    go_ret2
    exact ⟨by rw [H.out, HI.out]; rfl, below_drewN HB _⟩
  obtain ⟨hTt, hcin⟩ := column_parts hT
  obtain ⟨hsh, _, _⟩ := tableV_shape hTt
  obtain ⟨M, e1, e2, e3, e4, e5, e6, e7⟩ := shape_nat hsh
  obtain ⟨c, rfl⟩ : ∃ c : Nat, col = (c : Int) := ⟨col.toNat, by have := inR_of hcin; omega⟩
  have hcM : c ≤ M := by have := inR_of hcin; omega
  have H : Hid (leaveV v n1 n2 N S (c : Int) near = true) := by show _ = _; rw [leaveV, hT, hne]; rfl
  have HI : Hid (leaveI v n1 n2 N S (c : Int) near = (leaveS N S M c near n2).1) := by show _ = _; rw [leaveI, H.out, e4, Int.toNat_natCast]; rfl
  have hc := fun q => l02Leave_any w.heap.size v A1 A2 n1 n2 c1 c2 N S M c near _ (HR.drewN q) (k1.drewN q) (k2.drewN q) e2 hsh.1 hsh.2.1 b1 hsh.2.2.2.1 e6 hcM e5
  clear e1 e2 e3 e4 e5 e6 e7 hsh hcin hcM hTt
  go_enter Try.func57, Try.ntmps57
  go_wp2_with fail
  refine (l02Column_any w.heap.size v A1 A2 n1 n2 c1 c2 N S (c : Int) _ HR k1 k2 b1 b2).mono ?_
  rintro e wx ⟨m1, rfl, rfl⟩
  rw [hT]
  go_wp2_with fail
  refine (l02Least_any _ _).mono ?_
  rintro e wx ⟨m2, rfl, rfl⟩
  rw [hne]
  rw [World.drewN_drewN]
  go_wp2_with fail
  refine (hc _).mono ?_
  rintro e wx ⟨m3, rfl, rfl⟩
  go_wp2_with fail
  go_ret2
  exact ⟨by rw [H.out, HI.out]; rfl, below_drewN HB _⟩
set_option maxHeartbeats 1000000 in
set_option maxRecDepth 100000 in
theorem leave_any (v : Int) (A1 A2 : Option Addr) (n1 n2 c1 c2 : Nat) (N : List Nat) (S : List Int) (M col near : Nat) (w : World) (h1 : FS w A1 n1 N) (h2 : IS w A2 n2 S) (hM : v + n2 + 1 = ((M + 1 : Nat) : Int)) (v1 : 1 ≤ v) (v2 : v ≤ 8) (b1 : n1 ≤ 1048576) (b2 : n2 ≤ 8) (hM16 : M ≤ 16) (hcol : col ≤ M) (hn1 : n1 = (n2 + 1) * (M + 1)) :
    Calls Try.prog 103 #[.agg #[.int .i64 v, .slice A1 n1 c1, .slice A2 n2 c2], .int .i64 (col : Int), .float .f32 near] w fun e w' => e = .returned (.int .i64 (leaveS N S M col near n2).1) ∧ Below w.heap.size w w' := by
  have HB : Below w.heap.size w (w.alloc (.cells #[.int .i64 v, .slice A1 n1 c1, .slice A2 n2 c2] 46)) := (Below.refl _ _).alloc (Nat.le_refl _) _
  have HR := Row.new w 46 #[.int .i64 v, .slice A1 n1 c1, .slice A2 n2 c2]
  have k1 := h1.below HB
  have k2 := h2.below HB
  clear h1 h2
  obtain ⟨W1, hW1⟩ : ∃ W1, W1 = w.alloc (.cells #[.int .i64 v, .slice A1 n1 c1, .slice A2 n2 c2] 46) := ⟨_, rfl⟩
  rw [← hW1] at HB HR k1 k2
  have HW1 := Lib.hid hW1
  clear hW1
  have hat := fun r c x wq hb hk hx => at_any v A1 A2 n1 n2 c1 c2 N S M r c x wq (k1.below hb) hM v1 v2 b1 b2 hk hx
  have hla := fun r x wq hb hk hx => last_any v A1 A2 n1 n2 c1 c2 N S M r x wq (k1.below hb) hM v1 v2 b1 b2 hM16 hk hx
  have HN := Lib.hid hn1
  clear hn1 hM
  go_enter Try.func103, Try.ntmps103
  go_wp2_with fail
  rw [← HW1.out]
  have q2 : W1.cell? ⟨w.heap.size, 2, none⟩ = some (.slice A2 n2 c2) := HR.cell 2
  go_wp2_with fail
  clear q2
  go_loopw [7, 8, 15] (fun bs ls i wr => ∃ (k rl : Nat) (g : Int), k ≤ n2 ∧ i = .int .i64 k ∧ bs = .int .i64 g ∧ ls = .float .f32 rl ∧ Below W1.heap.size W1 wr ∧ LeaveAt N S M col near k g rl) (fun _ _ i _ => n2 - (intOf i).toNat)
  case atStart => exact ⟨0, 0, -1, Nat.zero_le _, rfl, rfl, rfl, Below.refl _ _, LeaveAt.zero _ _ _ _ _⟩
  case round =>
    obtain ⟨k, rl, g, hk, rfl, rfl, rfl, hbel, hL⟩ := hrel
    have HR0 := HR.below hbel HR.lt
    by_cases hlt : k < n2
    · have f1 := entry_fits HN.out (Nat.le_of_lt hlt) hcol
      have f2 := entry_fits HN.out (Nat.le_of_lt hlt) (Nat.le_refl M)
      obtain ⟨b, off, x, rfl, hb, hc, hx, hs⟩ := k1.at_ f1
      obtain ⟨b', off', y, e', hb', hc', hy, hs'⟩ := k1.at_ f2
      have HX := Lib.hid (getD_of (z := 0) hx)
      have HY := Lib.hid (getD_of (z := 0) hy)
      have hatx := fun wq hb => hat k col x wq hb f1 hx
      have haty := fun wq hb => hla k y wq hb f2 hy
      have hlt2 : (k : Int) < (n2 : Int) := by omega
      clear hx hs hy hs' hat hla f1 f2 e' hc hc'
      have q0 : wr.cell? ⟨w.heap.size, 0, none⟩ = some (.int .i64 v) := HR0.cell 0
      have q1 : wr.cell? ⟨w.heap.size, 1, none⟩ = some (.slice (some ⟨b, off, none⟩) n1 c1) := HR0.cell 1
      have q2 : wr.cell? ⟨w.heap.size, 2, none⟩ = some (.slice A2 n2 c2) := HR0.cell 2
      cases hg : (FloatKind.f32.format.order x near == some .gt)
      · have HG := Lib.hid hg
        go_wp2_with fail
        refine (hatx _ hbel).mono ?_
        rintro e w2 ⟨rfl, hb2⟩
        have hbel2 := hbel.trans (hb2.mono hbel.size)
        go_wp2_with fail
        go_roundw
        case rel => exact ⟨k + 1, rl, g, by omega, by go_num, rfl, rfl, hbel2, hL.pass HX.out HG.out⟩
        case measure => simp [intOf]; omega
      · have HG := Lib.hid hg
        go_wp2_with fail
        refine (hatx _ hbel).mono ?_
        rintro e w2 ⟨rfl, hb2⟩
        have hbel2 := hbel.trans (hb2.mono hbel.size)
        have HR2 := HR.below hbel2 HR.lt
        clear q0 q1 q2 hb2
        have q0 : w2.cell? ⟨w.heap.size, 0, none⟩ = some (.int .i64 v) := HR2.cell 0
        have q1 : w2.cell? ⟨w.heap.size, 1, none⟩ = some (.slice (some ⟨b, off, none⟩) n1 c1) := HR2.cell 1
        have q2 : w2.cell? ⟨w.heap.size, 2, none⟩ = some (.slice A2 n2 c2) := HR2.cell 2
        go_wp2_with fail
        refine (haty _ hbel2).mono ?_
        rintro e w3 ⟨rfl, hb3⟩
        have hbel3 := hbel2.trans (hb3.mono hbel2.size)
        have HR3 := HR.below hbel3 HR.lt
        have k3 := k2.below hbel3
        clear q0 q1 q2 hb3
        obtain ⟨b3, off3, z, rfl, hb3, hc3, hz, hs3⟩ := k3.at_ hlt
        have HZ := Lib.hid (getD_of (z := 0) hz)
        clear hz hs3
        go_upto_region 9 with ((with_reducible apply wpList_farith (op := .quo)); rfl; rfl; rfl; intro r nq hqr)
        obtain ⟨HA, HQ⟩ := hL.ask HX.out HY.out HG.out hqr.out
        have HAH := Lib.hid HA
        have HQH := Lib.hid HQ
        clear HA HQ hg HX HY hatx haty
        have q2 : w3.cell? ⟨w.heap.size, 2, none⟩ = some (.slice (some ⟨b3, off3, none⟩) n2 c2) := HR3.cell 2
        by_cases hg1 : g < 0
        · obtain rfl : g = -1 := by have := hL.lo; omega
          have HT : Hid (leaveB N S M col near k (leaveS N S M col near k) = true) := by show _ = _; rw [HAH.out]; rfl
          clear HAH
          go_wp2_with fail
          go_big_quiet (fail)
          go_wp2_with fail
          go_roundw
          case rel => exact ⟨k + 1, r, (k : Int), by omega, by go_num, rfl, rfl, below_drewN hbel3 _, hL.take HT.out HQH.out⟩
          case measure => simp [intOf]; omega
        · obtain ⟨j, rfl⟩ : ∃ j : Nat, g = (j : Int) := ⟨g.toNat, by omega⟩
          have hjk : j < k := by have := hL.hi; omega
          have hd0 : decide ((j : Int) < 0) = false := decide_eq_false hg1
          cases ho : (FloatKind.f32.format.order r rl == some .lt)
          rotate_left
          · have HT : Hid (leaveB N S M col near k (leaveS N S M col near k) = true) := by show _ = _; rw [HAH.out, hd0, ho]; rfl
            clear HAH
            go_wp2_with fail
            go_big_quiet (fail)
            go_wp2_with fail
            go_roundw
            case rel => exact ⟨k + 1, r, (k : Int), by omega, by go_num, rfl, rfl, below_drewN hbel3 _, hL.take HT.out HQH.out⟩
            case measure => simp [intOf]; omega
          cases hp : (FloatKind.f32.format.order r rl == some .eq)
          · have HT : Hid (leaveB N S M col near k (leaveS N S M col near k) = false) := by show _ = _; rw [HAH.out, hd0, ho, hp]; rfl
            clear HAH
            go_wp2_with fail
            go_big_quiet (fail)
            go_wp2_with fail
            go_roundw
            case rel => exact ⟨k + 1, rl, _, by omega, by go_num, rfl, rfl, below_drewN hbel3 _, hL.leave HT.out⟩
            case measure => simp [intOf]; omega
          obtain ⟨b4, off4, t, e4, hb4, hc4, ht, hs4⟩ := k3.at_ (show j < n2 by omega)
          injection e4 with e4
          injection e4 with e4 e5
          subst e4; subst e5
          have HU := Lib.hid (getD_of (z := 0) ht)
          have hlt5 : (j : Int) < (n2 : Int) := by omega
          clear ht hs4
          cases hs5 : decide (z < t)
          · have HT : Hid (leaveB N S M col near k (leaveS N S M col near k) = false) := by show _ = _; rw [HAH.out, hd0, ho, hp, HZ.out, Int.toNat_natCast, HU.out, hs5]; rfl
            clear HAH
            go_wp2_with fail
            go_big_quiet (fail)
            go_wp2_with fail
            go_roundw
            case rel => exact ⟨k + 1, rl, _, by omega, by go_num, rfl, rfl, below_drewN hbel3 _, hL.leave HT.out⟩
            case measure => simp [intOf]; omega
          · have HT : Hid (leaveB N S M col near k (leaveS N S M col near k) = true) := by show _ = _; rw [HAH.out, hd0, ho, hp, HZ.out, Int.toNat_natCast, HU.out, hs5]; rfl
            clear HAH
            go_wp2_with fail
            go_big_quiet (fail)
            go_wp2_with fail
            go_roundw
            case rel => exact ⟨k + 1, r, (k : Int), by omega, by go_num, rfl, rfl, below_drewN hbel3 _, hL.take HT.out HQH.out⟩
            case measure => simp [intOf]; omega
    · obtain rfl : k = n2 := by omega
      have HE := Lib.hid hL.eq
      clear hL
      go_wp2_with fail
      go_ret
      exact ⟨by rw [HE.out]; rfl, HB.trans (hbel.mono HB.size)⟩
theorem implLeaveOf_any (v : Int) (A1 A2 : Option Addr) (n1 n2 c1 c2 : Nat) (N : List Nat) (S : List Int) (col : Int) (near : Nat) (w : World) (h1 : FS w A1 n1 N) (h2 : IS w A2 n2 S) (b1 : n1 ≤ 1048576) (b2 : n2 ≤ 1048576) (hy : (Lit.int .i64 col).wf = true) (hx : (Lit.float .f32 near).wf = true) (hcap : n2 = c2 := by rfl) :
    Calls Try.prog 58 #[.agg #[.int .i64 v, .slice A1 n1 c1, .slice A2 n2 c2], .int .i64 col, .float .f32 near] w fun e w' => e = .returned (.tuple #[.int .i64 (leaveI v n1 n2 N S col near), .bool (leaveV v n1 n2 N S col near)]) ∧ Below w.heap.size w w' := by
  have HB : Below w.heap.size w (w.alloc (.cells #[.int .i64 v, .slice A1 n1 c1, .slice A2 n2 c2] 46)) := (Below.refl _ _).alloc (Nat.le_refl _) _
  have HR := Row.new w 46 #[.int .i64 v, .slice A1 n1 c1, .slice A2 n2 c2]
  have k1 := h1.below HB
  have k2 := h2.below HB
  clear h1 h2
  have HT := fun w' f1 f2 => implValidTable_any v A1 A2 n1 n2 c1 c2 N S w' f1 f2 b1 b2 hcap
  clear hcap
  cases hT : tableV v n1 n2 N S
  · have H : Hid (leaveV v n1 n2 N S col near = false) := by show _ = _; rw [leaveV, columnV, hT]; rfl
    have HI : Hid (leaveI v n1 n2 N S col near = 0) := by show _ = _; rw [leaveI, H.out]; rfl
    go_enter Try.func58, Try.ntmps58
    go_wp2_with fail
    refine (HT _ k1 k2).mono ?_
    rintro e w1 ⟨rfl, hb⟩
    rw [hT]
    go_wp2_with fail
    go_ret2
    exact ⟨by rw [H.out, HI.out]; rfl, HB.trans (hb.mono HB.size)⟩
  obtain ⟨hsh, _, _⟩ := tableV_shape hT
  have hcol := fun w' => isColumn_any v A1 A2 n1 n2 c1 c2 col w' hsh.1 hsh.2.1 b2
  cases hC : inR col 0 (v + n2 - 1)
  · have H : Hid (leaveV v n1 n2 N S col near = false) := by show _ = _; rw [leaveV, columnV, hT, hC]; rfl
    have HI : Hid (leaveI v n1 n2 N S col near = 0) := by show _ = _; rw [leaveI, H.out]; rfl
    clear hsh
    go_enter Try.func58, Try.ntmps58
    go_wp2_with fail
    refine (HT _ k1 k2).mono ?_
    rintro e w1 ⟨rfl, hb⟩
    rw [hT]
    replace HR := HR.below hb HR.lt
    replace HB := HB.trans (hb.mono HB.size)
    clear hb k2 HT
    have q0 : w1.cell? ⟨w.heap.size, 0, none⟩ = some (.int .i64 v) := HR.cell 0
    have q1 : w1.cell? ⟨w.heap.size, 1, none⟩ = some (.slice A1 n1 c1) := HR.cell 1
    have q2 : w1.cell? ⟨w.heap.size, 2, none⟩ = some (.slice A2 n2 c2) := HR.cell 2
    go_wp2_with fail
    refine (hcol _).mono ?_
    rintro e w2 ⟨rfl, hb⟩
    rw [hC]
    go_wp2_with fail
    go_ret2
    exact ⟨by rw [H.out, HI.out]; rfl, HB.trans (hb.mono HB.size)⟩
  cases hne : leastA (av .f32 near)
  · have H : Hid (leaveV v n1 n2 N S col near = false) := by show _ = _; rw [leaveV, columnV, hT, hC, hne]; rfl
    have HI : Hid (leaveI v n1 n2 N S col near = 0) := by show _ = _; rw [leaveI, H.out]; rfl
    clear hsh
    go_enter Try.func58, Try.ntmps58
    go_wp2_with fail
    refine (HT _ k1 k2).mono ?_
    rintro e w1 ⟨rfl, hb⟩
    rw [hT]
    replace HR := HR.below hb HR.lt
    replace HB := HB.trans (hb.mono HB.size)
    clear hb k2 HT
    have q0 : w1.cell? ⟨w.heap.size, 0, none⟩ = some (.int .i64 v) := HR.cell 0
    have q1 : w1.cell? ⟨w.heap.size, 1, none⟩ = some (.slice A1 n1 c1) := HR.cell 1
    have q2 : w1.cell? ⟨w.heap.size, 2, none⟩ = some (.slice A2 n2 c2) := HR.cell 2
    go_wp2_with fail
    refine (hcol _).mono ?_
    rintro e w2 ⟨rfl, hb⟩
    rw [hC]
    replace HB := HB.trans (hb.mono HB.size)
    clear hb q0 q1 q2
    go_wp2_with fail
    refine (isNear_any _ _).mono ?_
    rintro e wx ⟨m2, rfl, rfl⟩
    rw [hne]
    go_wp2_with fail
    go_ret2
    exact ⟨by rw [H.out, HI.out]; rfl, below_drewN HB _⟩
  obtain ⟨M, e1, e2, e3, e4, e5, e6, e7⟩ := shape_nat hsh
  obtain ⟨c, rfl⟩ : ∃ c : Nat, col = (c : Int) := ⟨col.toNat, by have := inR_of hC; omega⟩
  have hcM : c ≤ M := by have := inR_of hC; omega
  have H : Hid (leaveV v n1 n2 N S (c : Int) near = true) := by show _ = _; rw [leaveV, columnV, hT, hC, hne]; rfl
  have HI : Hid (leaveI v n1 n2 N S (c : Int) near = (leaveS N S M c near n2).1) := by show _ = _; rw [leaveI, H.out, e4, Int.toNat_natCast]; rfl
  have hc := fun wq f f2 => leave_any v A1 A2 n1 n2 c1 c2 N S M c near wq f f2 e2 hsh.1 hsh.2.1 b1 hsh.2.2.2.1 e6 hcM e5
  clear e1 e2 e3 e4 e5 e6 e7 hsh hcM
  go_enter Try.func58, Try.ntmps58
  go_wp2_with fail
  refine (HT _ k1 k2).mono ?_
  rintro e w1 ⟨rfl, hb⟩
  rw [hT]
  replace HR := HR.below hb HR.lt
  replace HB := HB.trans (hb.mono HB.size)
  replace k1 := k1.below hb
  replace k2 := k2.below hb
  clear hb HT
  have q0 : w1.cell? ⟨w.heap.size, 0, none⟩ = some (.int .i64 v) := HR.cell 0
  have q1 : w1.cell? ⟨w.heap.size, 1, none⟩ = some (.slice A1 n1 c1) := HR.cell 1
  have q2 : w1.cell? ⟨w.heap.size, 2, none⟩ = some (.slice A2 n2 c2) := HR.cell 2
  go_wp2_with fail
  refine (hcol _).mono ?_
  rintro e w2 ⟨rfl, hb⟩
  rw [hC]
  replace HR := HR.below hb HR.lt
  replace HB := HB.trans (hb.mono HB.size)
  replace k1 := k1.below hb
  replace k2 := k2.below hb
  clear hb q0 q1 q2 hcol
  go_wp2_with fail
  refine (isNear_any _ _).mono ?_
  rintro e wx ⟨m2, rfl, rfl⟩
  rw [hne]
  have HR2 := HR.drewN m2
  have q0 : (w2.drewN m2).cell? ⟨w.heap.size, 0, none⟩ = some (.int .i64 v) := HR2.cell 0
  have q1 : (w2.drewN m2).cell? ⟨w.heap.size, 1, none⟩ = some (.slice A1 n1 c1) := HR2.cell 1
  have q2 : (w2.drewN m2).cell? ⟨w.heap.size, 2, none⟩ = some (.slice A2 n2 c2) := HR2.cell 2
  go_wp2_with fail
  refine (hc _ (k1.drewN _) (k2.drewN _)).mono ?_
  rintro e w3 ⟨rfl, hb⟩
  go_wp2_with fail
  go_ret2
  exact ⟨by rw [H.out, HI.out]; rfl, (below_drewN HB m2).trans (hb.mono (below_drewN HB m2).size)⟩
end Go.Proofs.Yteodplednmeaaaa
