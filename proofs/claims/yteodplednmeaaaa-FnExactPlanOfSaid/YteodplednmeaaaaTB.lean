/- Tables: sizes, columns, which are valid: what the program and the model compute. -/
import Derived.Test.YteodplednmeaaaaAQ
namespace Go.Proofs.Yteodplednmeaaaa
open Go.RowKit
set_option linter.unusedVariables false
set_option linter.unusedSimpArgs false
attribute [local go_sem] lo_value lo_enter run_store_float run_neg LC.lc_value LC.lc_enter

/-- lengths of a table that fit -/
def ShapeT (v : Int) (n1 n2 : Nat) : Prop := 1 ≤ v ∧ v ≤ 8 ∧ 1 ≤ n2 ∧ n2 ≤ 8 ∧ (n1 : Int) = ((n2 : Int) + 1) * (v + n2 + 1)
instance (v : Int) (n1 n2 : Nat) : Decidable (ShapeT v n1 n2) := by unfold ShapeT; infer_instance
def hasL (L : List Int) (x : Int) : Bool := L.any (· == x)
theorem hasL_snoc (l : List Int) (y x : Int) : hasL (l ++ [y]) x = (hasL l x || (y == x)) := by simp [hasL]
theorem hasL_true {L : List Int} {k : Nat} {y x : Int} (h : L[k]? = some y) (e : (y == x) = true) : hasL L x = true := by
  unfold hasL; rw [List.any_eq_true]; exact ⟨y, List.mem_of_getElem? h, e⟩
/-- a base that fits: each is a column, and none comes twice -/
def baseOk (v : Int) (n2 : Nat) (S : List Int) (i : Nat) : Bool := inR (S.getD i 0) 0 (v + n2 - 1) && !hasL (S.take i) (S.getD i 0)
def baseAll (v : Int) (n2 : Nat) (S : List Int) (k : Nat) : Bool := (List.range k).all (baseOk v n2 S)
theorem baseAll_succ (v : Int) (n2 : Nat) (S : List Int) (k : Nat) : baseAll v n2 S (k + 1) = (baseAll v n2 S k && baseOk v n2 S k) := by
  unfold baseAll; rw [List.range_succ, all_snoc]
theorem baseAll_false {v : Int} {n2 : Nat} {S : List Int} {k n : Nat} (h : k < n) (hf : baseOk v n2 S k = false) : baseAll v n2 S n = false := by
  unfold baseAll; rw [List.all_eq_false]; exact ⟨k, List.mem_range.2 h, by simp [hf]⟩
def tableV (v : Int) (n1 n2 : Nat) (N : List Nat) (S : List Int) : Bool := decide (ShapeT v n1 n2) && (allA (finA .f32) N && baseAll v n2 S n2)

theorem wide_any (v : Int) (A1 A2 : Option Addr) (n1 n2 c1 c2 : Nat) (w : World) (h1 : -1048576 ≤ v) (h2 : v ≤ 1048576) (b2 : n2 ≤ 1048576) :
    Calls Try.prog 82 #[.agg #[.int .i64 v, .slice A1 n1 c1, .slice A2 n2 c2]] w fun e w' => e = .returned (.int .i64 (v + n2 + 1)) ∧ Below w.heap.size w w' := by
  have HB : Below w.heap.size w (w.alloc (.cells #[.int .i64 v, .slice A1 n1 c1, .slice A2 n2 c2] 46)) := (Below.refl _ _).alloc (Nat.le_refl _) _
  go_enter Try.func82, Try.ntmps82
  go_wp2_with fail
  go_ret
  exact ⟨rfl, HB⟩
theorem isIndex_any (i n : Int) (w : World) (h1 : -2097152 ≤ n) (h2 : n ≤ 2097152) : Calls Try.prog 114 #[.int .i64 i, .int .i64 n] w fun e w' => e = .returned (.bool (inR i 0 (n - 1))) ∧ w = w' := by
  go_enter Try.func114, Try.ntmps114
  go_wp2_with (go_at_call 73; refine (within_any _ _ _ _).mono ?_; rintro e w' ⟨rfl, rfl⟩)
  go_ret
  exact ⟨rfl, rfl⟩
theorem isColumn_any (v : Int) (A1 A2 : Option Addr) (n1 n2 c1 c2 : Nat) (c : Int) (w : World) (h1 : 1 ≤ v) (h2 : v ≤ 8) (b2 : n2 ≤ 1048576) :
    Calls Try.prog 83 #[.agg #[.int .i64 v, .slice A1 n1 c1, .slice A2 n2 c2], .int .i64 c] w fun e w' => e = .returned (.bool (inR c 0 (v + n2 - 1))) ∧ Below w.heap.size w w' := by
  have HB : Below w.heap.size w (w.alloc (.cells #[.int .i64 v, .slice A1 n1 c1, .slice A2 n2 c2] 46)) := (Below.refl _ _).alloc (Nat.le_refl _) _
  have HR := Row.new w 46 #[.int .i64 v, .slice A1 n1 c1, .slice A2 n2 c2]
  go_enter Try.func83, Try.ntmps83
  go_wp2_with fail
  refine (wide_any v A1 A2 n1 n2 c1 c2 _ (by omega) (by omega) b2).mono ?_
  rintro e w2 ⟨rfl, hb⟩
  replace HB := HB.trans (hb.mono HB.size)
  clear hb
  go_wp2_with fail
  refine (isIndex_any _ _ _ (by omega) (by omega)).mono ?_
  rintro e w' ⟨rfl, rfl⟩
  go_wp2_with fail
  go_ret
  exact ⟨rfl, HB⟩
set_option maxRecDepth 100000 in
theorem has_any (A : Option Addr) (n c : Nat) (L : List Int) (x : Int) (w : World) (h : IS w A n L) (hn : n ≤ 1048576) :
    Calls Try.prog 84 #[.slice A n c, .int .i64 x] w fun e w' => e = .returned (.bool (hasL L x)) ∧ w' = w := by
  have hL := h.1
  go_enter Try.func84, Try.ntmps84
  go_wp2
  go_loopw [9] (fun i wr => ∃ k : Nat, k ≤ n ∧ i = .int .i64 k ∧ wr = w ∧ hasL (L.take k) x = false) (fun i _ => n - (intOf i).toNat)
  case atStart => exact ⟨0, Nat.zero_le _, rfl, rfl, rfl⟩
  case round =>
    obtain ⟨k, hk, rfl, rfl, hrel⟩ := hrel
    have HR := Lib.hid hrel
    clear hrel
    by_cases hlt : k < n
    · obtain ⟨b, off, y, rfl, hb, hc, hx, hs⟩ := h.at_ hlt
      have HX := Lib.hid hx
      have HS := Lib.hid hs
      clear hx hs h hL
      cases hf : (y == x)
      · have HF := Lib.hid hf
        go_wp2
        go_roundw
        case rel => exact ⟨k + 1, by omega, by go_num, (by first | rfl | trivial), by rw [HS.out, hasL_snoc, HR.out, HF.out]; rfl⟩
        case measure => simp [intOf]; omega
      · have HF := Lib.hid hf
        go_wp2
        go_ret
        exact ⟨ret_bool (by rw [hasL_true HX.out HF.out]), by first | rfl | trivial⟩
    · obtain rfl : k = n := by omega
      rw [← hL, List.take_length] at HR
      go_wp2
      go_ret
      exact ⟨ret_bool (by rw [HR.out]), by first | rfl | trivial⟩
theorem l02Wide_any (p : Nat) (v : Int) (A1 A2 : Option Addr) (n1 n2 c1 c2 : Nat) (w : World) (hr : Row w p 46 #[.int .i64 v, .slice A1 n1 c1, .slice A2 n2 c2]) (h1 : -1048576 ≤ v) (h2 : v ≤ 1048576) (b2 : n2 ≤ 1048576) :
    Calls Try.prog 113 #[.pointer (some ⟨p, 0, none⟩)] w fun e w' => ∃ k, e = .returned (.int .i64 (v + n2 + 1)) ∧ w' = w.drewN k := by
  have q0 : w.cell? ⟨p, 0, none⟩ = some (.int .i64 v) := hr.cell 0
  have q1 : w.cell? ⟨p, 1, none⟩ = some (.slice A1 n1 c1) := hr.cell 1
  have q2 : w.cell? ⟨p, 2, none⟩ = some (.slice A2 n2 c2) := hr.cell 2
  clear hr
  go_enter Try.func113, Try.ntmps113
  go_wp2_with fail
  go_big_quiet (fail)
  go_wp2_with fail
  go_ret
  exact ⟨_, rfl, rfl⟩
theorem l02Wide_q (p : Nat) (v : Int) (A1 A2 : Option Addr) (n1 n2 c1 c2 : Nat) (w : World) (hr : Row w p 46 #[.int .i64 v, .slice A1 n1 c1, .slice A2 n2 c2]) (h1 : -1048576 ≤ v) (h2 : v ≤ 1048576) (b2 : n2 ≤ 1048576) (k : Nat) :
    Calls Try.prog 113 #[.pointer (some ⟨p, 0, none⟩)] (w.drewN k) fun e w'' => e = .returned (.int .i64 (v + n2 + 1)) ∧ ∃ m, w'' = w.drewN m :=
  quietD (l02Wide_any p v A1 A2 n1 n2 c1 c2 _ (hr.drewN k) h1 h2 b2)
theorem prod9 {v : Int} {n : Nat} (h1 : 1 ≤ v) (h2 : v ≤ 8) (h4 : n ≤ 8) : 0 ≤ ((n : Int) + 1) * (v + n + 1) ∧ ((n : Int) + 1) * (v + n + 1) ≤ 9 * 17 :=
  ⟨Int.mul_nonneg (by omega) (by omega), Int.mul_le_mul (by omega) (by omega) (by omega) (by omega)⟩
set_option maxHeartbeats 1000000 in
set_option maxRecDepth 100000 in
theorem l02Table_out (p : Nat) (v : Int) (A1 A2 : Option Addr) (n1 n2 c1 c2 : Nat) (N : List Nat) (S : List Int) (w : World) (hr : Row w p 46 #[.int .i64 v, .slice A1 n1 c1, .slice A2 n2 c2]) (h1 : FS w A1 n1 N) (b1 : n1 ≤ 1048576) (b2 : n2 ≤ 1048576) (h : ¬ (ShapeT v n1 n2 ∧ allA (finA .f32) N = true)) :
    Calls Try.prog 81 #[.pointer (some ⟨p, 0, none⟩)] w fun e w' => ∃ k, e = .returned (.bool false) ∧ w' = w.drewN k := by
  have q0 : w.cell? ⟨p, 0, none⟩ = some (.int .i64 v) := hr.cell 0
  have q1 : w.cell? ⟨p, 1, none⟩ = some (.slice A1 n1 c1) := hr.cell 1
  have q2 : w.cell? ⟨p, 2, none⟩ = some (.slice A2 n2 c2) := hr.cell 2
  cases hv : inR v 1 8
  · clear h
    go_enter Try.func81, Try.ntmps81
    go_wp2_with fail
    go_big_quiet ((first | (go_at_call 110; with_reducible exact l00In_q hv _ _)))
    go_wp2_with fail
    go_ret
    exact ⟨_, rfl, rfl⟩
  cases hn : inR n2 1 8
  · clear h
    go_enter Try.func81, Try.ntmps81
    go_wp2_with fail
    go_big_quiet ((first | (go_at_call 110; (first | with_reducible exact l00In_q hv _ _ | with_reducible exact l00In_q hn _ _))))
    go_wp2_with fail
    go_ret
    exact ⟨_, rfl, rfl⟩
  have v1 := inR_of hv
  have v2 := inR_of hn
  have hw : IntKind.i64.wrap (((n2 : Int) + 1) * (v + n2 + 1)) = ((n2 : Int) + 1) * (v + n2 + 1) := IntWalk.i64_in _ (by have := prod9 (n := n2) v1.1 v1.2 (by omega); omega)
  have hq := fun k => l02Wide_q p v A1 A2 n1 n2 c1 c2 w hr (by omega) (by omega) b2 k
  by_cases e : (n1 : Int) = ((n2 : Int) + 1) * (v + n2 + 1)
  · have hd : ((n1 : Int) != ((n2 : Int) + 1) * (v + n2 + 1)) = false := by simpa using e
    have hN : allA (finA .f32) N = false := by
      cases hN : allA (finA .f32) N
      · rfl
      · exact absurd ⟨⟨v1.1, v1.2, by omega, by omega, e⟩, hN⟩ h
    clear h e v1 v2
    go_enter Try.func81, Try.ntmps81
    go_wp2_with fail
    go_big_quiet ((first | (go_at_call 110; (first | with_reducible exact l00In_q hv _ _ | with_reducible exact l00In_q hn _ _)) | (go_at_call 113; with_reducible exact hq _) | (go_at_call 111; with_reducible exact l02Finite_q h1 b1 hN _)))
    go_wp2_with fail
    go_ret
    exact ⟨_, rfl, rfl⟩
  · have hd : ((n1 : Int) != ((n2 : Int) + 1) * (v + n2 + 1)) = true := by simpa using e
    clear h e v1 v2
    go_enter Try.func81, Try.ntmps81
    go_wp2_with fail
    go_big_quiet ((first | (go_at_call 110; (first | with_reducible exact l00In_q hv _ _ | with_reducible exact l00In_q hn _ _)) | (go_at_call 113; with_reducible exact hq _)))
    go_wp2_with fail
    go_ret
    exact ⟨_, rfl, rfl⟩
theorem l02Wide_q2 (p : Nat) (v : Int) (A1 A2 : Option Addr) (n1 n2 c1 c2 : Nat) (w : World) (hr : Row w p 46 #[.int .i64 v, .slice A1 n1 c1, .slice A2 n2 c2]) (h1 : -1048576 ≤ v) (h2 : v ≤ 1048576) (b2 : n2 ≤ 1048576) (a k : Nat) :
    Calls Try.prog 113 #[.pointer (some ⟨p, 0, none⟩)] (w.drewN (a + k)) fun e w'' => e = .returned (.int .i64 (v + n2 + 1)) ∧ ∃ m, w'' = w.drewN (a + m) :=
  quietD2 (l02Wide_any p v A1 A2 n1 n2 c1 c2 _ (hr.drewN (a + k)) h1 h2 b2)
theorem l00In_q2 {n lo hi : Int} {b : Bool} (h : inR n lo hi = b) (w : World) (a k : Nat) : Calls Try.prog 110 #[.int .i64 n, .int .i64 lo, .int .i64 hi] (w.drewN (a + k)) fun e w'' => e = .returned (.bool b) ∧ ∃ m, w'' = w.drewN (a + m) :=
  (l00In_any n lo hi (w.drewN (a + k))).mono fun _ _ ⟨he, hw⟩ => ⟨by rw [he, h], k, hw.symm⟩
set_option maxHeartbeats 1000000 in
set_option maxRecDepth 100000 in
theorem l02Table_in (p : Nat) (v : Int) (A1 A2 : Option Addr) (n1 n2 c1 c2 : Nat) (N : List Nat) (S : List Int) (w : World) (hr : Row w p 46 #[.int .i64 v, .slice A1 n1 c1, .slice A2 n2 c2]) (h1 : FS w A1 n1 N) (h2 : IS w A2 n2 S) (b1 : n1 ≤ 1048576) (b2 : n2 ≤ 1048576) (h : ShapeT v n1 n2) (hN : allA (finA .f32) N = true) :
    Calls Try.prog 81 #[.pointer (some ⟨p, 0, none⟩)] w fun e w' => ∃ k, e = .returned (.bool (baseAll v n2 S n2)) ∧ w' = w.drewN k := by
  have q0 : w.cell? ⟨p, 0, none⟩ = some (.int .i64 v) := hr.cell 0
  have q1 : w.cell? ⟨p, 1, none⟩ = some (.slice A1 n1 c1) := hr.cell 1
  have q2 : w.cell? ⟨p, 2, none⟩ = some (.slice A2 n2 c2) := hr.cell 2
  obtain ⟨v1, v2, v3, v4, e⟩ := h
  have hv := inR_true v1 v2
  have hn : inR n2 1 8 = true := inR_true (by omega) (by omega)
  have hw : IntKind.i64.wrap (((n2 : Int) + 1) * (v + n2 + 1)) = ((n2 : Int) + 1) * (v + n2 + 1) := IntWalk.i64_in _ (by have := prod9 (n := n2) v1 v2 (by omega); omega)
  have hq := fun k => l02Wide_q p v A1 A2 n1 n2 c1 c2 w hr (by omega) (by omega) b2 k
  have hq2 := fun a k => l02Wide_q2 p v A1 A2 n1 n2 c1 c2 w hr (by omega) (by omega) b2 a k
  have hd : ((n1 : Int) != ((n2 : Int) + 1) * (v + n2 + 1)) = false := by simpa using e
  have hL := h2.1
  clear e
  go_enter Try.func81, Try.ntmps81
  go_wp2_with fail
  go_big_quiet ((first | (go_at_call 110; (first | with_reducible exact l00In_q hv _ _ | with_reducible exact l00In_q hn _ _)) | (go_at_call 113; with_reducible exact hq _) | (go_at_call 111; with_reducible exact l02Finite_q h1 b1 hN _)))
  clear hw hd hv hn h1 hN
  go_wp2_with fail
  go_loopw [4] (fun i wr => ∃ k q : Nat, k ≤ n2 ∧ i = .int .i64 k ∧ wr = w.drewN q ∧ baseAll v n2 S k = true) (fun i _ => n2 - (intOf i).toNat)
  case atStart => exact ⟨0, _, Nat.zero_le _, rfl, rfl, rfl⟩
  case round =>
    obtain ⟨k, q, hk, rfl, rfl, hrel⟩ := hrel
    have HR := Lib.hid hrel
    clear hrel
    by_cases hlt : k < n2
    · obtain ⟨b, off, x, rfl, hb, hc, hx, hs⟩ := h2.at_ hlt
      have HX := Lib.hid (getD_of (z := 0) hx)
      have HB : Hid (baseOk v n2 S k = (inR x 0 (v + n2 - 1) && !hasL (S.take k) x)) := by show _ = _; rw [baseOk, HX.out]
      have hlt2 : (k : Int) < (n2 : Int) := by omega
      have e2 : v + (n2 : Int) + 1 - 2 = v + n2 - 1 := by omega
      cases hi : inR x 0 (v + n2 - 1)
      · have HF : Hid (baseOk v n2 S k = false) := by show _ = _; rw [HB.out, hi]; rfl
        clear hx hs h2
        go_wp2_with fail
        go_big_quiet ((first | (go_at_call 113; with_reducible exact hq2 _ _) | (go_at_call 110; with_reducible exact l00In_q2 hi _ _ _)))
        go_wp2_with fail
        go_ret
        exact ⟨_, ret_bool (by rw [baseAll_false hlt HF.out]), World.drewN_drewN _ _ _⟩
      · go_wp2_with fail
        go_big_quiet ((first | (go_at_call 113; with_reducible exact hq2 _ _) | (go_at_call 110; with_reducible exact l00In_q2 hi _ _ _)))
        have HB2 : Hid (baseOk v n2 S k = !hasL (S.take k) x) := by show _ = _; rw [HB.out, hi]; rfl
        clear hx hs hi HB
        go_wp2_with fail
        go_loopw [5] (fun i wr => ∃ j q : Nat, j ≤ k ∧ i = .int .i64 j ∧ wr = w.drewN q ∧ hasL (S.take j) x = false) (fun i _ => k - (intOf i).toNat)
        case atStart => exact ⟨0, _, Nat.zero_le _, rfl, World.drewN_drewN _ _ _, rfl⟩
        case round =>
          obtain ⟨j, q2', hj, rfl, rfl, hrel⟩ := hrel
          have HR2 := Lib.hid hrel
          clear hrel
          by_cases hlt3 : j < k
          · obtain ⟨b2', off2, y, e3, hb2', hc2, hx2, hs2⟩ := h2.at_ (show j < n2 by omega)
            injection e3 with e3
            injection e3 with e3 e4
            subst e3; subst e4
            have HY : Hid ((S.take k)[j]? = some y) := by show _ = _; rw [List.getElem?_take_of_lt hlt3]; exact hx2
            have HS2 := Lib.hid hs2
            have hlt4 : (j : Int) < (n2 : Int) := by omega
            have q2 : w.cell? ⟨p, 2, none⟩ = some (.slice (some ⟨b, off, none⟩) n2 c2) := hr.cell 2
            clear hx2 hs2 h2 hq hq2
            cases hf : (y == x)
            · have HF := Lib.hid hf
              go_wp2_with fail
              go_big_quiet (fail)
              go_wp2_with fail
              go_roundw
              case rel => exact ⟨j + 1, _, by omega, by go_num, rfl, by rw [HS2.out, hasL_snoc, HR2.out, HF.out]; rfl⟩
              case measure => simp [intOf]; omega
            · have HF := Lib.hid hf
              have HFk : Hid (baseOk v n2 S k = false) := by show _ = _; rw [HB2.out, hasL_true HY.out HF.out]; rfl
              go_wp2_with fail
              go_big_quiet (fail)
              go_wp2_with fail
              go_ret
              exact ⟨_, ret_bool (by rw [baseAll_false hlt HFk.out]), World.drewN_drewN _ _ _⟩
          · obtain rfl : j = k := by omega
            have HFk : Hid (baseOk v n2 S j = true) := by show _ = _; rw [HB2.out, HR2.out]; rfl
            go_wp2_with fail
            go_roundw
            case rel => exact ⟨j + 1, _, by omega, by go_num, rfl, by rw [baseAll_succ, HR.out, HFk.out]; rfl⟩
            case measure => simp [intOf]; omega
    · obtain rfl : k = n2 := by omega
      go_wp2_with fail
      go_ret
      exact ⟨_, ret_bool (by rw [HR.out]), rfl⟩
end Go.Proofs.Yteodplednmeaaaa
