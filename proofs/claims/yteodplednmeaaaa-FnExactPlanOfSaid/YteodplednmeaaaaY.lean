/- Rows of rows, and lists that are at least something: what the program and the model compute. -/
import Derived.Test.YteodplednmeaaaaGP
namespace Go.Proofs.Yteodplednmeaaaa
open Go.RowKit
set_option linter.unusedVariables false
set_option linter.unusedSimpArgs false
theorem run_neg (P : Program) (k : FloatKind) (b : Nat) (w : World) : Sem.run P (Op.unary .neg (.float k b)) w = .ok (.float k (Op.negFloat k b)) w := rfl
attribute [local go_sem] lo_value lo_enter run_store_float run_neg

theorem neg_nan {y : Nat} (hy : y < 4294967296) : (FloatKind.f32.decode (Op.negFloat .f32 y)).isNaN = (FloatKind.f32.decode y).isNaN := by
  have e : Op.negFloat .f32 y = y ^^^ 2 ^ 31 := rfl
  have h1 : y ^^^ 2 ^ 31 < 2 ^ 32 := Nat.xor_lt_two_pow (by omega) (by decide)
  have h2 : (y ^^^ 2 ^ 31) % 2 ^ 31 = y % 2 ^ 31 := by rw [Nat.xor_mod_two_pow, Nat.mod_self, Nat.xor_zero]
  have e2 : (2 : Nat) ^ 31 = 2147483648 := rfl
  have e3 : (2 : Nat) ^ 32 = 4294967296 := rfl
  rw [e, read32 _ (by omega), read32 _ hy, show (y ^^^ 2 ^ 31) % 2147483648 = y % 2147483648 by rw [← e2]; exact h2]
  unfold FT.D
  split
  · rfl
  · split
    · rfl
    · split <;> rfl

/-- not below a bound -/
def notLt (nb x : Nat) : Bool := !(FloatKind.f32.format.order x nb == some .lt)
def geRaw (nb x : Nat) : Bool := FloatKind.f32.format.order x nb == some .gt || FloatKind.f32.format.order x nb == some .eq
theorem ge_notLt {nb x : Nat} (h1 : (FloatKind.f32.decode nb).isNaN = false) (h2 : finA .f32 (av .f32 x) = true) : geRaw nb x = notLt nb x := by
  unfold geRaw notLt
  cases hx : av .f32 x with
  | none => rw [hx] at h2; cases h2
  | some c =>
    obtain ⟨_, hn⟩ := av_some hx
    cases ho : FloatKind.f32.format.order x nb with
    | none =>
      exfalso
      unfold FloatKind.decode at hn h1
      rcases FT.order_none.1 ho with h | h
      · rw [h] at hn; cases hn
      · rw [h] at h1; cases h1
    | some o => cases o <;> rfl
theorem all_snoc {α : Type} (f : α → Bool) (l : List α) (x : α) : (l ++ [x]).all f = (l.all f && f x) := by simp
theorem all_false {α : Type} {f : α → Bool} {L : List α} {k : Nat} {x : α} (h : L[k]? = some x) (hf : f x = false) : L.all f = false := by
  rw [List.all_eq_false]; exact ⟨x, List.mem_of_getElem? h, by simp [hf]⟩
/-- all are at least the opposite of a number -/
def leastL (y : Nat) (L : List Nat) : Bool := L.all (notLt (Op.negFloat .f32 y))
theorem fin_of_all {L : List Nat} {k x : Nat} (h : allA (finA .f32) L = true) (hx : L[k]? = some x) : finA .f32 (av .f32 x) = true := by
  unfold allA at h
  rw [List.all_eq_true] at h
  exact h x (List.mem_of_getElem? hx)

set_option maxRecDepth 100000 in
theorem areAtLeast_any (A : Option Addr) (n c : Nat) (L : List Nat) (y : Nat) (w : World) (h : FS w A n L) (hn : n ≤ 1048576) :
    Calls Try.prog 95 #[.slice A n c, .float .f32 y] w fun e w' => e = .returned (.bool (leastL y L)) ∧ w' = w := by
  have hL := h.1
  go_enter Try.func95, Try.ntmps95
  go_wp2
  go_loopw [9] (fun i wr => ∃ k : Nat, k ≤ n ∧ i = .int .i64 k ∧ wr = w ∧ (L.take k).all (notLt (Op.negFloat .f32 y)) = true) (fun i _ => n - (intOf i).toNat)
  case atStart => exact ⟨0, Nat.zero_le _, rfl, rfl, rfl⟩
  case round =>
    obtain ⟨k, hk, rfl, rfl, hrel⟩ := hrel
    have HR := Lib.hid hrel
    clear hrel
    by_cases hlt : k < n
    · obtain ⟨b, off, x, rfl, hb, hc, hx, hs⟩ := h.at_ hlt
      have HX := Lib.hid hx
      have HS := Lib.hid hs
      clear hx hs h hL
      cases hf : (FloatKind.f32.format.order x (Op.negFloat .f32 y) == some .lt)
      · have HF : Hid (notLt (Op.negFloat .f32 y) x = true) := by show _ = _; rw [notLt, hf]; rfl
        go_wp2
        go_roundw
        case rel => exact ⟨k + 1, by omega, by go_num, (by first | rfl | trivial), by rw [HS.out, all_snoc, HR.out, HF.out]; rfl⟩
        case measure => simp [intOf]; omega
      · have HF : Hid (notLt (Op.negFloat .f32 y) x = false) := by show _ = _; rw [notLt, hf]; rfl
        go_wp2
        go_ret
        exact ⟨ret_bool (by unfold leastL; rw [all_false HX.out HF.out]), by first | rfl | trivial⟩
    · obtain rfl : k = n := by omega
      rw [← hL, List.take_length] at HR
      go_wp2
      go_ret
      exact ⟨ret_bool (by unfold leastL; rw [HR.out]), by first | rfl | trivial⟩
theorem isNear_any (x : Nat) (w : World) : Calls Try.prog 94 #[.float .f32 x] w fun e w' => ∃ m, e = .returned (.bool (leastA (av .f32 x))) ∧ w' = w.drewN m := by
  cases hf : finA .f32 (av .f32 x)
  · have H : Hid (leastA (av .f32 x) = false) := by show _ = _; unfold leastA; rw [hf]; rfl
    go_enter Try.func94, Try.ntmps94
    go_wp2_with fail
    refine (implIsFinite_any _ _).mono ?_
    rintro e wx ⟨m1, rfl, rfl⟩
    rw [hf]
    go_wp2_with fail
    go_ret
    exact ⟨_, by rw [H.out]; rfl, rfl⟩
  · have H : Hid (leastA (av .f32 x) = (FloatKind.f32.format.order x 0 == some .gt || FloatKind.f32.format.order x 0 == some .eq)) := by show _ = _; unfold leastA; rw [hf, fge_raw]; rfl
    go_enter Try.func94, Try.ntmps94
    go_wp2_with fail
    refine (implIsFinite_any _ _).mono ?_
    rintro e wx ⟨m1, rfl, rfl⟩
    rw [hf]
    go_wp2_with fail
    go_ret
    exact ⟨_, by rw [H.out]; rfl, rfl⟩
/-- a part of a slice -/
theorem SL.part {α : Type} {f : α → Value} {z : α} {w : World} {n b off : Nat} {L : List α} (h : SL f z w (some ⟨b, off, none⟩) n L) {lo k : Nat} (hk : lo + k ≤ n) : SL f z w (some ⟨b, off + lo, none⟩) k ((L.drop lo).take k) :=
  ⟨by rw [List.length_take, List.length_drop, h.1]; omega, fun h0 => by
    obtain ⟨b', off', e, hlt, hc⟩ := h.2 (by omega)
    injection e with e
    injection e with e1 e2
    subst e1; subst e2
    refine ⟨b, off + lo, rfl, hlt, fun j hj => ?_⟩
    rw [Nat.add_assoc, hc (lo + j) (by omega)]
    congr 1
    rw [List.getD_eq_getElem?_getD, List.getD_eq_getElem?_getD, List.getElem?_take_of_lt hj, List.getElem?_drop]⟩
/-- row number i -/
def rowL (m : Nat) (N : List Nat) (i : Nat) : List Nat := (N.drop (i * m)).take m
theorem row_fits {i n2 m : Nat} (h : i < n2) : i * m + m ≤ n2 * m := by
  have := Nat.mul_le_mul_right m (show i + 1 ≤ n2 from h)
  rwa [Nat.succ_mul] at this

set_option maxRecDepth 100000 in
theorem l02Row_any (p i m : Nat) (b off : Nat) (A2 A3 : Option Addr) (n2 n3 c1 c2 c3 : Nat) (w : World) (hr : Row w p 36 #[.int .i64 m, .slice (some ⟨b, off, none⟩) (n2 * m) c1, .slice A2 n2 c2, .slice A3 n3 c3]) (hi : i < n2) (hm0 : 1 ≤ m) (hm : m ≤ 8) (hn : n2 ≤ 8) (hc : n2 * m ≤ c1) (hc2 : c1 ≤ 1048576) :
    Calls Try.prog 97 #[.pointer (some ⟨p, 0, none⟩), .int .i64 i] w fun e w' => ∃ k, e = .returned (.slice (some ⟨b, off + i * m, none⟩) m (c1 - i * m)) ∧ w' = w.drewN k := by
  have q0 : w.cell? ⟨p, 0, none⟩ = some (.int .i64 m) := hr.cell 0
  have q1 : w.cell? ⟨p, 1, none⟩ = some (.slice (some ⟨b, off, none⟩) (n2 * m) c1) := hr.cell 1
  have hf := row_fits (m := m) hi
  have e1 : IntKind.i64.wrap ((i : Int) * (m : Int)) = ((i * m : Nat) : Int) := by rw [← Int.natCast_mul]; exact IntWalk.i64_in _ (by omega)
  have e3 : IntKind.i64.wrap (((i : Int) + 1) * (m : Int)) = ((i * m + m : Nat) : Int) := by rw [show ((i : Int) + 1) * (m : Int) = ((i * m + m : Nat) : Int) by rw [← Nat.succ_mul, Int.natCast_mul]; rfl]; exact IntWalk.i64_in _ (by omega)
  have e4 : RowKit.wrap64 (((i : Int) + 1) * (m : Int)) = ((i * m + m : Nat) : Int) := by rw [← IntWalk.i64_left]; exact e3
  have hne : ¬ c1 = i * m := by omega
  have l1 : ((i * m : Nat) : Int) ≤ ((i * m + m : Nat) : Int) := by omega
  have l2 : ((i * m + m : Nat) : Int) ≤ (c1 : Int) := by omega
  clear hr hf
  generalize hX : i * m = X at *
  go_enter Try.func97, Try.ntmps97
  go_wp2_with fail
  go_big_quiet (fail)
  go_wp2_with fail
  go_ret
  exact ⟨_, by simp, rfl⟩
set_option maxRecDepth 100000 in
theorem row_any (i m : Nat) (b off : Nat) (A2 A3 : Option Addr) (n2 n3 c1 c2 c3 : Nat) (w : World) (hi : i < n2) (hm0 : 1 ≤ m) (hm : m ≤ 8) (hn : n2 ≤ 8) (hc : n2 * m ≤ c1) (hc2 : c1 ≤ 1048576) :
    Calls Try.prog 96 #[.agg #[.int .i64 m, .slice (some ⟨b, off, none⟩) (n2 * m) c1, .slice A2 n2 c2, .slice A3 n3 c3], .int .i64 i] w fun e w' => e = .returned (.slice (some ⟨b, off + i * m, none⟩) m (c1 - i * m)) ∧ Below w.heap.size w w' := by
  have HB : Below w.heap.size w (w.alloc (.cells #[.int .i64 m, .slice (some ⟨b, off, none⟩) (n2 * m) c1, .slice A2 n2 c2, .slice A3 n3 c3] 36)) := (Below.refl _ _).alloc (Nat.le_refl _) _
  have hf := row_fits (m := m) hi
  have p1 : (i : Int) * (m : Int) = ((i * m : Nat) : Int) := by rw [Int.natCast_mul]
  have p2 : ((i : Int) + 1) * (m : Int) = ((i * m + m : Nat) : Int) := by rw [← Nat.succ_mul, Int.natCast_mul]; rfl
  have t1 : ((i : Int) * (m : Int)).toNat = i * m := by rw [p1]; rfl
  have t2 : (((i : Int) + 1) * (m : Int)).toNat = i * m + m := by rw [p2]; rfl
  have g1 : 0 ≤ (i : Int) * (m : Int) := by rw [p1]; omega
  have g2 : (i : Int) * (m : Int) ≤ 1048576 := by rw [p1]; omega
  have g3 : 0 ≤ ((i : Int) + 1) * (m : Int) := by rw [p2]; omega
  have g4 : ((i : Int) + 1) * (m : Int) ≤ c1 := by rw [p2]; omega
  have g5 : (i : Int) * (m : Int) ≤ ((i : Int) + 1) * (m : Int) := by rw [p1, p2]; omega
  have hne : ¬ c1 = i * m := by omega
  have hle : i * m ≤ i * m + m := by omega
  clear hf p1 p2
  go_enter Try.func96, Try.ntmps96
  go_wp2_with fail
  go_ret
  exact ⟨rfl, HB⟩

/-- what a row of rows comes to -/
def rayS (N M : List Nat) (m i : Nat) : Option Nat := dotA (some 0) (rowL m N i) M
def rayOk (near : Nat) (N M : List Nat) (m i : Nat) : Bool := finA .f32 (rayS N M m i) && fle .f32 (rayS N M m i) (av .f32 near)
def rayAll (near : Nat) (N M : List Nat) (m k : Nat) : Bool := (List.range k).all (rayOk near N M m)
theorem rayAll_succ (near : Nat) (N M : List Nat) (m k : Nat) : rayAll near N M m (k + 1) = (rayAll near N M m k && rayOk near N M m k) := by
  unfold rayAll; rw [List.range_succ, all_snoc]
theorem rayAll_false {near : Nat} {N M : List Nat} {m k n : Nat} (h : k < n) (hf : rayOk near N M m k = false) : rayAll near N M m n = false := by
  unfold rayAll; rw [List.all_eq_false]; exact ⟨k, List.mem_range.2 h, by simp [hf]⟩
def rayEnd (near : Nat) (G M : List Nat) : Bool := finA .f32 (dotA (some 0) G M) && fgt .f32 (dotA (some 0) G M) (av .f32 near)
def rayV (v : Int) (n1 n2 n3 : Nat) (N B G : List Nat) (m : Nat) (M : List Nat) (near : Nat) : Bool := fitV v n1 n2 n3 N B G m M && (leastA (av .f32 near) && (leastL near M && (rayAll near N M n3 n2 && rayEnd near G M)))
theorem fit_all {v : Int} {n1 n2 n3 : Nat} {N B G : List Nat} {m : Nat} {M : List Nat} (h : fitV v n1 n2 n3 N B G m M = true) : allA (finA .f32) M = true := by
  simp only [fitV, asLong, Bool.and_eq_true] at h
  exact h.2.2
theorem least_nan {near : Nat} (hx : near < 4294967296) (h : leastA (av .f32 near) = true) : (FloatKind.f32.decode (Op.negFloat .f32 near)).isNaN = false ∧ ∃ c, av .f32 near = some c := by
  rw [neg_nan hx]
  cases ha : av .f32 near with
  | none => rw [ha] at h; cases h
  | some c => exact ⟨(av_some ha).2, c, rfl⟩
theorem fle_raw (x y : Nat) : (FloatKind.f32.format.order x y == some .lt || FloatKind.f32.format.order x y == some .eq) = fle .f32 (av .f32 x) (av .f32 y) := by rw [order_ford]; rfl
theorem fgt_raw (x y : Nat) : (FloatKind.f32.format.order x y == some .gt) = fgt .f32 (av .f32 x) (av .f32 y) := by rw [order_ford]; rfl
/-- of numbers that are finite, 'not more' is 'at most' -/
theorem gt_le {x y : Nat} (hx : finA .f32 (av .f32 x) = true) (hy : ∃ c, av .f32 y = some c) : fle .f32 (av .f32 x) (av .f32 y) = !fgt .f32 (av .f32 x) (av .f32 y) := by
  obtain ⟨c, hc⟩ := hy
  cases hx' : av .f32 x with
  | none => rw [hx'] at hx; cases hx
  | some d =>
    have h1 := (av_some hx').2
    have h2 := (av_some hc).2
    obtain ⟨rfl, _⟩ := av_some hx'
    obtain ⟨rfl, _⟩ := av_some hc
    rw [hc]
    unfold fle fgt ford
    cases ho : FloatKind.f32.format.order d c with
    | none =>
      exfalso
      unfold FloatKind.decode at h1 h2
      rcases FT.order_none.1 ho with h | h
      · rw [h] at h1; cases h1
      · rw [h] at h2; cases h2
    | some o => cases o <;> simp [ho]

set_option maxHeartbeats 2000000 in
set_option maxRecDepth 100000 in
theorem specIsRay_any (v : Int) (A1 A2 A3 : Option Addr) (n1 n2 n3 c1 c2 c3 : Nat) (N B G : List Nat) (X : Option Addr) (m d : Nat) (M : List Nat) (near : Nat) (w : World) (h1 : FS w A1 n1 N) (h2 : FS w A2 n2 B) (h3 : FS w A3 n3 G) (b1 : n1 ≤ 1048576) (b2 : n2 ≤ 1048576) (b3 : n3 ≤ 1048576) (hx : FS w X m M) (bm : m ≤ 1048576) (hn : (Lit.float .f32 near).wf = true) (hcap : n1 = c1 := by rfl) :
    Calls Try.prog 44 #[.agg #[.int .i64 v, .slice A1 n1 c1, .slice A2 n2 c2, .slice A3 n3 c3], .slice X m d, .float .f32 near] w fun e w' => e = .returned (.bool (rayV v n1 n2 n3 N B G m M near)) ∧ Below w.heap.size w w' := by
  have HB : Below w.heap.size w (w.alloc (.cells #[.int .i64 v, .slice A1 n1 c1, .slice A2 n2 c2, .slice A3 n3 c3] 36)) := (Below.refl _ _).alloc (Nat.le_refl _) _
  have HR := Row.new w 36 #[.int .i64 v, .slice A1 n1 c1, .slice A2 n2 c2, .slice A3 n3 c3]
  have k1 := h1.below HB
  have k2 := h2.below HB
  have k3 := h3.below HB
  have kx := hx.below HB
  clear h1 h2 h3 hx
  cases hf : fitV v n1 n2 n3 N B G m M
  · have H : Hid (rayV v n1 n2 n3 N B G m M near = false) := by show _ = _; rw [rayV, hf]; rfl
    clear hcap
    go_enter Try.func44, Try.ntmps44
    go_wp2_with fail
    refine (l02Fit_any w.heap.size v A1 A2 A3 n1 n2 n3 c1 c2 c3 N B G X m d M _ HR k1 k2 k3 b1 b2 b3 kx bm).mono ?_
    rintro e wx ⟨q1, rfl, rfl⟩
    rw [hf]
    go_wp2_with fail
    go_ret
    exact ⟨by rw [H.out]; rfl, below_drewN HB _⟩
  cases hne : leastA (av .f32 near)
  · have H : Hid (rayV v n1 n2 n3 N B G m M near = false) := by show _ = _; rw [rayV, hf, hne]; rfl
    clear hcap
    go_enter Try.func44, Try.ntmps44
    go_wp2_with fail
    refine (l02Fit_any w.heap.size v A1 A2 A3 n1 n2 n3 c1 c2 c3 N B G X m d M _ HR k1 k2 k3 b1 b2 b3 kx bm).mono ?_
    rintro e wx ⟨q1, rfl, rfl⟩
    rw [hf]
    go_wp2_with fail
    refine (l02Least_any _ _).mono ?_
    rintro e wx ⟨q2, rfl, rfl⟩
    rw [hne]
    go_wp2_with fail
    go_ret
    exact ⟨by rw [H.out]; rfl, below_drewN HB _⟩
  have H0 : Hid (rayV v n1 n2 n3 N B G m M near = (leastL near M && (rayAll near N M n3 n2 && rayEnd near G M))) := by show _ = _; rw [rayV, hf, hne]; rfl
  obtain ⟨hnan, hav⟩ := least_nan (wf32 hn) hne
  have hfin := fit_all hf
  obtain ⟨hl0, s1, s2, s3, s4, s5, s6⟩ := fit_len hf
  have hn1 : n1 = n2 * n3 := by
    have : (n1 : Int) = ((n2 * n3 : Nat) : Int) := by rw [s6, ← s5, Int.natCast_mul, Int.mul_comm]
    exact Int.ofNat.inj this
  have hl : n3 ≤ m := Nat.le_of_eq hl0
  have hl' : m ≤ n3 := Nat.le_of_eq hl0.symm
  have hL := kx.1
  clear hl0 s6
  subst s5
  subst hcap
  subst hn1
  obtain ⟨b, off, rfl, hb0, hcells⟩ := k1.2 (Nat.mul_pos (by omega) (by omega))
  clear hcells
  have Hf := Lib.hid hf
  have Hne := Lib.hid hne
  go_enter Try.func44, Try.ntmps44
  go_wp2_with fail
  refine (l02Fit_any w.heap.size (↑n3) (some ⟨b, off, none⟩) A2 A3 (n2 * n3) n2 n3 (n2 * n3) c2 c3 N B G X m d M _ HR k1 k2 k3 b1 b2 b3 kx bm).mono ?_
  rintro e wx ⟨q1, rfl, rfl⟩
  rw [hf]
  go_wp2_with fail
  refine (l02Least_any _ _).mono ?_
  rintro e wx ⟨q2, rfl, rfl⟩
  rw [hne]
  clear hf hne
  have hq : ∀ q : Nat, ∃ W : World, W = w.drewN q := fun q => ⟨_, rfl⟩
  clear hq k2
  go_wp2_with fail
  go_loopw [7] (fun i wr => ∃ k q : Nat, k ≤ m ∧ i = .int .i64 k ∧ wr = ((w.alloc (.cells #[.int .i64 (n3 : Int), .slice (some ⟨b, off, none⟩) (n2 * n3) (n2 * n3), .slice A2 n2 c2, .slice A3 n3 c3] 36))).drewN q ∧ (M.take k).all (notLt (Op.negFloat .f32 near)) = true) (fun i _ => m - (intOf i).toNat)
  case atStart => exact ⟨0, _, Nat.zero_le _, rfl, rfl, rfl⟩
  case round =>
    obtain ⟨k, q, hk, rfl, rfl, hrel⟩ := hrel
    have HRL := Lib.hid hrel
    clear hrel
    by_cases hlt : k < m
    · obtain ⟨b4, off4, x, rfl, hb4, hc4, hx4, hs4⟩ := kx.at_ hlt
      have HG := Lib.hid (ge_notLt hnan (fin_of_all hfin hx4))
      have HX := Lib.hid hx4
      have HS := Lib.hid hs4
      clear hx4 hs4 hL hfin hnan hav
      cases hgt : (FloatKind.f32.format.order x (Op.negFloat .f32 near) == some .gt || FloatKind.f32.format.order x (Op.negFloat .f32 near) == some .eq)
      · have HF : Hid (notLt (Op.negFloat .f32 near) x = false) := by show _ = _; rw [← HG.out, geRaw, hgt]
        go_wp2_with fail
        go_ret
        exact ⟨ret_bool (by rw [H0.out, leastL, all_false HX.out HF.out]; rfl), below_drewN HB _⟩
      · have HF : Hid (notLt (Op.negFloat .f32 near) x = true) := by show _ = _; rw [← HG.out, geRaw, hgt]
        go_wp2_with fail
        go_roundw
        case rel => exact ⟨k + 1, q, by omega, by go_num, rfl, by rw [HS.out, all_snoc, HRL.out, HF.out]; rfl⟩
        case measure => simp [intOf]; omega
    · obtain rfl : k = m := by omega
      rw [← hL, List.take_length] at HRL
      have H1 : Hid (rayV (↑n3) (n2 * n3) n2 n3 N B G k M near = (rayAll near N M n3 n2 && rayEnd near G M)) := by show _ = _; rw [H0.out, leastL, HRL.out]; rfl
      clear HRL H0 hfin hnan
      go_wp2_with fail
      go_loopw [8] (fun i wr => ∃ j q : Nat, j ≤ n2 ∧ i = .int .i64 j ∧ wr = ((w.alloc (.cells #[.int .i64 (n3 : Int), .slice (some ⟨b, off, none⟩) (n2 * n3) (n2 * n3), .slice A2 n2 c2, .slice A3 n3 c3] 36))).drewN q ∧ rayAll near N M n3 j = true) (fun i _ => n2 - (intOf i).toNat)
      case atStart => exact ⟨0, _, Nat.zero_le _, rfl, rfl, rfl⟩
      case round =>
        obtain ⟨j, q2, hj, rfl, rfl, hrel⟩ := hrel
        have HRL := Lib.hid hrel
        clear hrel
        by_cases hlt2 : j < n2
        · have hpart := k1.part (row_fits (m := n3) hlt2)
          go_wp2_with fail
          refine (l02Row_any w.heap.size j n3 b off A2 A3 n2 n3 (n2 * n3) c2 c3 _ (HR.drewN _) hlt2 (by omega) (by omega) (by omega) (Nat.le_refl _) b1).mono ?_
          rintro e wx ⟨q3, rfl, rfl⟩
          go_wp2_with fail
          refine (specl02Dot_any _ _ n3 k _ d _ M _ (hpart.drewN _) (kx.drewN _) b3 hl bm).mono ?_
          rintro e wx ⟨r, q4, rfl, hr, rfl⟩
          have HE : Hid (av .f32 r = rayS N M n3 j) := by show _ = _; rw [hr.out]; rfl
          have HK : Hid (rayOk near N M n3 j = (finA .f32 (av .f32 r) && fle .f32 (av .f32 r) (av .f32 near))) := by show _ = _; rw [HE.out]; rfl
          clear hpart
          cases hfr : finA .f32 (av .f32 r)
          · have HF : Hid (rayOk near N M n3 j = false) := by show _ = _; rw [HK.out, hfr]; rfl
            go_wp2_with fail
            refine (specl01Finite_any _ _).mono ?_
            rintro e wx ⟨q5, rfl, rfl⟩
            rw [hfr]
            go_wp2_with fail
            go_ret
            exact ⟨ret_bool (by rw [H1.out, rayAll_false hlt2 HF.out]; rfl), below_drewN HB _⟩
          · cases hle : (FloatKind.f32.format.order r near == some .lt || FloatKind.f32.format.order r near == some .eq)
            · have HF : Hid (rayOk near N M n3 j = false) := by show _ = _; rw [HK.out, hfr, ← fle_raw, hle]; rfl
              go_wp2_with fail
              refine (specl01Finite_any _ _).mono ?_
              rintro e wx ⟨q5, rfl, rfl⟩
              rw [hfr]
              go_wp2_with fail
              go_ret
              exact ⟨ret_bool (by rw [H1.out, rayAll_false hlt2 HF.out]; rfl), below_drewN HB _⟩
            · have HF : Hid (rayOk near N M n3 j = true) := by show _ = _; rw [HK.out, hfr, ← fle_raw, hle]; rfl
              go_wp2_with fail
              refine (specl01Finite_any _ _).mono ?_
              rintro e wx ⟨q5, rfl, rfl⟩
              rw [hfr]
              go_wp2_with fail
              go_roundw
              case rel => exact ⟨j + 1, _, by omega, by go_num, rfl, by rw [rayAll_succ, HRL.out, HF.out]; rfl⟩
              case measure => simp [intOf]; omega
        · obtain rfl : j = n2 := by omega
          have H2 : Hid (rayV (↑n3) (j * n3) j n3 N B G k M near = rayEnd near G M) := by show _ = _; rw [H1.out, HRL.out]; rfl
          go_wp2_with fail
          refine (specl02Dot_any A3 X n3 k c3 d G M _ (k3.drewN _) (kx.drewN _) b3 hl bm).mono ?_
          rintro e wx ⟨r, q4, rfl, hr, rfl⟩
          cases hfr : finA .f32 (av .f32 r)
          · have HF : Hid (rayEnd near G M = false) := by show _ = _; rw [rayEnd, ← hr.out, hfr]; rfl
            go_wp2_with fail
            refine (specl01Finite_any _ _).mono ?_
            rintro e wx ⟨q5, rfl, rfl⟩
            rw [hfr]
            go_wp2_with fail
            go_ret
            exact ⟨ret_bool (by rw [H2.out, HF.out]), below_drewN HB _⟩
          · have HF : Hid (rayEnd near G M = (FloatKind.f32.format.order r near == some .gt)) := by show _ = _; rw [rayEnd, ← hr.out, hfr, fgt_raw]; rfl
            go_wp2_with fail
            refine (specl01Finite_any _ _).mono ?_
            rintro e wx ⟨q5, rfl, rfl⟩
            rw [hfr]
            go_wp2_with fail
            go_ret
            exact ⟨ret_bool (by rw [H2.out, HF.out]), below_drewN HB _⟩
end Go.Proofs.Yteodplednmeaaaa
