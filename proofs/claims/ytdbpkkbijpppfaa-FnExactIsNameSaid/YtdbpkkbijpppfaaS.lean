/- Laws over a text: names, check numbers. -/
import Derived.Test.YtdbpkkbijpppfaaA
import Derived.Test.YtdbpkkbijpppfaaW
namespace Go.Proofs.Ytdbpkkbijpppfaa
open Go.RowKit
set_option linter.unusedVariables false
set_option linter.unusedSimpArgs false

theorem ret_bool {a b : Bool} (h : a = b) : Ending.returned (.bool a) = Ending.returned (.bool b) := by rw [h]
theorem ret_int {k : IntKind} {a b : Int} (h : a = b) : Ending.returned (.int k a) = Ending.returned (.int k b) := by rw [h]

/-- a byte's value -/
def isLow (c : Nat) : Bool := decide (97 ≤ c ∧ c ≤ 122)
def allLow (l : List UInt8) : Bool := l.all fun c => isLow c.toNat
theorem take_snoc (s : ByteArray) (k : Nat) (h : k < s.size) : s.data.toList.take (k + 1) = s.data.toList.take k ++ [s[k]] := by
  rw [List.take_succ_eq_append_getElem (by simpa using h)]; rfl
theorem allLow_snoc (s : ByteArray) (k : Nat) (h : k < s.size) : allLow (s.data.toList.take (k + 1)) = (allLow (s.data.toList.take k) && isLow s[k].toNat) := by
  rw [take_snoc s k h]; simp [allLow]
theorem allLow_whole (s : ByteArray) (k : Nat) (h : k < s.size) (hl : isLow s[k].toNat = false) : allLow s.data.toList = false := by
  unfold allLow
  rw [List.all_eq_false]
  refine ⟨s[k], ?_, by simp [hl]⟩
  show s.data[k] ∈ s.data.toList
  rw [Array.mem_toList_iff]
  exact Array.getElem_mem _
theorem all_end (s : ByteArray) : s.data.toList.take s.size = s.data.toList := List.take_of_length_le (by simp)
def nameA (s : ByteArray) : Bool := allLow s.data.toList && decide (1 ≤ s.size ∧ s.size ≤ 8)

theorem specIsName_any (s : ByteArray) (hs : s.size ≤ 1048576) (w : World) :
    Calls Try.prog 27 #[.string s] w fun e w' => e = .returned (.bool (nameA s)) ∧ w = w' := by
  go_enter Try.func27, Try.ntmps27
  go_wp2
  go_loop [3] (fun i => ∃ k : Nat, k ≤ s.size ∧ i = .int .i64 k ∧ allLow (s.data.toList.take k) = true) (fun i => s.size - (intOf i).toNat)
  case atStart => exact ⟨0, Nat.zero_le _, rfl, rfl⟩
  case round =>
    obtain ⟨k, hk, rfl, hrel⟩ := hrel
    have HR := Lib.hid hrel
    clear hrel
    by_cases hlt : k < s.size
    · have HS := Lib.hid (allLow_snoc s k hlt)
      have HW := Lib.hid (allLow_whole s k hlt)
      go_wp2
      all_goals first
        | (go_round
           case rel => exact ⟨k + 1, by omega, by go_num, by rw [HS.out, HR.out]; simp [isLow]; omega⟩
           case measure => simp [intOf]; omega)
        | (go_ret
           refine ⟨?_, rfl⟩
           rw [nameA, HW.out (by simp [isLow]; omega)]
           rfl)
    · obtain rfl : k = s.size := by omega
      rw [all_end] at HR
      go_wp2
      all_goals
        go_ret
        refine ⟨ret_bool ?_, rfl⟩
        rw [nameA, HR.out, Bool.eq_iff_iff]
        simp
        omega
theorem implIsName_any (s : ByteArray) (hs : s.size ≤ 1048576) (w : World) :
    Calls Try.prog 28 #[.string s] w fun e w' => e = .returned (.bool (nameA s)) ∧ w = w' := by
  cases hr : inR s.size 1 8
  · have hn : nameA s = false := by
      have := inR_not hr
      simp [nameA]; omega
    have HN := Lib.hid hn
    clear hn
    go_enter Try.func28, Try.ntmps28
    go_wp2_with (first | (go_at_call 58; refine (size_any _ _).mono ?_; rintro e w' ⟨rfl, rfl⟩) | (go_at_call 57; refine (within_any _ _ _ _).mono ?_; rintro e w' ⟨rfl, rfl⟩))
    go_ret
    exact ⟨by rw [HN.out]; rfl, rfl⟩
  · have hb := inR_of hr
    have hn : nameA s = allLow s.data.toList := by
      have : (1 ≤ s.size ∧ s.size ≤ 8) := by omega
      simp [nameA, this]
    have HN := Lib.hid hn
    clear hn
    go_enter Try.func28, Try.ntmps28
    go_wp2_with (first | (go_at_call 58; refine (size_any _ _).mono ?_; rintro e w' ⟨rfl, rfl⟩) | (go_at_call 57; refine (within_any _ _ _ _).mono ?_; rintro e w' ⟨rfl, rfl⟩))
    go_loop [3] (fun i => ∃ k : Nat, k ≤ s.size ∧ i = .int .i64 k ∧ allLow (s.data.toList.take k) = true) (fun i => s.size - (intOf i).toNat)
    case atStart => exact ⟨0, Nat.zero_le _, rfl, rfl⟩
    case round =>
      obtain ⟨k, hk, rfl, hrel⟩ := hrel
      have HR := Lib.hid hrel
      clear hrel
      by_cases hlt : k < s.size
      · have HS := Lib.hid (allLow_snoc s k hlt)
        have HW := Lib.hid (allLow_whole s k hlt)
        go_wp2
        all_goals first
          | (go_round
             case rel => exact ⟨k + 1, by omega, by go_num, by rw [HS.out, HR.out]; simp [isLow]; omega⟩
             case measure => simp [intOf]; omega)
          | (go_ret
             refine ⟨?_, rfl⟩
             rw [HN.out, HW.out (by simp [isLow]; omega)]
             rfl)
      · obtain rfl : k = s.size := by omega
        rw [all_end] at HR
        go_wp2
        go_ret
        exact ⟨by rw [HN.out, HR.out]; rfl, rfl⟩

theorem lawIsName (s : ByteArray) (hs : s.size ≤ maxLen) (w : World) :
    Calls Try.prog 8 #[.string s] w fun e w' => e = .returned (.bool true) ∧ Below w.heap.size w w' := by
  unfold maxLen at hs
  by_cases hlt : s.size ≤ 1048576
  · have h1 : decide ((1048576 : Int) < (s.size : Int)) = false := decide_eq_false (by omega)
    go_enter Try.func8, Try.ntmps8
    go_wp2_with (first | (go_at_call 27; refine (specIsName_any _ hlt _).mono ?_; rintro e w' ⟨rfl, rfl⟩) | (go_at_call 28; refine (implIsName_any _ hlt _).mono ?_; rintro e w' ⟨rfl, rfl⟩))
    go_ret
    exact ⟨rfl, Below.refl _ _⟩
  · have h1 : decide ((1048576 : Int) < (s.size : Int)) = true := decide_eq_true (by omega)
    go_enter Try.func8, Try.ntmps8
    go_wp2_with fail
    go_ret
    exact ⟨rfl, Below.refl _ _⟩

/-- the check number of a list of bytes -/
def chk (n : Int) (l : List UInt8) : Int := l.foldl (fun n c => (907 * n + (c.toNat : Int) + 179) % 65003) n
theorem chk_snoc (n : Int) (s : ByteArray) (k : Nat) (h : k < s.size) : chk n (s.data.toList.take (k + 1)) = (907 * chk n (s.data.toList.take k) + (s[k].toNat : Int) + 179) % 65003 := by
  rw [take_snoc s k h]; simp [chk]
theorem chk_bd (n : Int) (l : List UInt8) (h0 : 0 ≤ n) (h1 : n ≤ 65002) : 0 ≤ chk n l ∧ chk n l ≤ 65002 := by
  unfold chk
  induction l generalizing n with
  | nil => exact ⟨h0, h1⟩
  | cons c l ih => exact ih _ (by dsimp only; omega) (by dsimp only; omega)

theorem specl01Check_any (n : Int) (h0 : 0 ≤ n) (h1 : n ≤ 65002) (s : ByteArray) (hs : s.size ≤ 1048576) (w : World) :
    Calls Try.prog 60 #[.int .i64 n, .string s] w fun e w' => e = .returned (.int .i64 (chk n s.data.toList)) ∧ w = w' := by
  go_enter Try.func60, Try.ntmps60
  go_wp2
  go_loop [0, 5] (fun m i => ∃ k : Nat, k ≤ s.size ∧ i = .int .i64 k ∧ m = .int .i64 (chk n (s.data.toList.take k))) (fun _ i => s.size - (intOf i).toNat)
  case atStart => exact ⟨0, Nat.zero_le _, rfl, rfl⟩
  case round =>
    obtain ⟨k, hk, rfl, rfl⟩ := hrel
    obtain ⟨b0, b1⟩ := chk_bd n (s.data.toList.take k) h0 h1
    by_cases hlt : k < s.size
    · have HS := Lib.hid (chk_snoc n s k hlt)
      generalize chk n (s.data.toList.take k) = m at *
      have hc : (s[k].toNat : Int) ≤ 255 := by have := s[k].toNat_lt; omega
      go_wp2
      go_round
      case rel => exact ⟨k + 1, by omega, by go_num, by rw [HS.out]⟩
      case measure => simp [intOf]; omega
    · obtain rfl : k = s.size := by omega
      go_wp2
      go_ret
      exact ⟨ret_int (by rw [all_end]), rfl⟩
theorem specCheckOf_in (n : Int) (h0 : 0 ≤ n) (h1 : n ≤ 65002) (s : ByteArray) (hs : s.size ≤ 1048576) (w : World) :
    Calls Try.prog 29 #[.int .i64 n, .string s] w fun e w' => e = .returned (.tuple #[.int .i64 (chk n s.data.toList), .bool true]) ∧ w = w' := by
  have hr := inR_true h0 h1
  go_enter Try.func29, Try.ntmps29
  go_wp2_with (first | (go_at_call 59; refine (l00In_any _ _ _ _).mono ?_; rintro e w' ⟨rfl, rfl⟩) | (go_at_call 60; refine (specl01Check_any n h0 h1 s hs _).mono ?_; rintro e w' ⟨rfl, rfl⟩))
  go_ret2
  exact ⟨rfl, rfl⟩
theorem specCheckOf_out (n : Int) (h : inR n 0 65002 = false) (s : ByteArray) (hs : s.size ≤ 1048576) (w : World) :
    Calls Try.prog 29 #[.int .i64 n, .string s] w fun e w' => e = .returned (.tuple #[.int .i64 0, .bool false]) ∧ w = w' := by
  go_enter Try.func29, Try.ntmps29
  go_wp2_with (go_at_call 59; refine (l00In_any _ _ _ _).mono ?_; rintro e w' ⟨rfl, rfl⟩)
  go_ret2
  exact ⟨rfl, rfl⟩
theorem implCheckOf_out (n : Int) (h : inR n 0 65002 = false) (s : ByteArray) (hs : s.size ≤ 1048576) (w : World) :
    Calls Try.prog 30 #[.int .i64 n, .string s] w fun e w' => e = .returned (.tuple #[.int .i64 0, .bool false]) ∧ w = w' := by
  go_enter Try.func30, Try.ntmps30
  go_wp2_with (go_at_call 57; refine (within_any _ _ _ _).mono ?_; rintro e w' ⟨rfl, rfl⟩)
  go_ret2
  exact ⟨rfl, rfl⟩
theorem implCheckOf_in (n : Int) (h0 : 0 ≤ n) (h1 : n ≤ 65002) (s : ByteArray) (hs : s.size ≤ 1048576) (w : World) :
    Calls Try.prog 30 #[.int .i64 n, .string s] w fun e w' => e = .returned (.tuple #[.int .i64 (chk n s.data.toList), .bool true]) ∧ w = w' := by
  have hr := inR_true h0 h1
  go_enter Try.func30, Try.ntmps30
  go_wp2_with (go_at_call 57; refine (within_any _ _ _ _).mono ?_; rintro e w' ⟨rfl, rfl⟩)
  go_loop [0, 6] (fun m i => ∃ k : Nat, k ≤ s.size ∧ i = .int .i64 k ∧ m = .int .i64 (chk n (s.data.toList.take k))) (fun _ i => s.size - (intOf i).toNat)
  case atStart => exact ⟨0, Nat.zero_le _, rfl, rfl⟩
  case round =>
    obtain ⟨k, hk, rfl, rfl⟩ := hrel
    obtain ⟨b0, b1⟩ := chk_bd n (s.data.toList.take k) h0 h1
    by_cases hlt : k < s.size
    · have HS := Lib.hid (chk_snoc n s k hlt)
      generalize chk n (s.data.toList.take k) = m at *
      have hc : (s[k].toNat : Int) ≤ 255 := by have := s[k].toNat_lt; omega
      go_wp2
      go_round
      case rel => exact ⟨k + 1, by omega, by go_num, by rw [HS.out]⟩
      case measure => simp [intOf]; omega
    · obtain rfl : k = s.size := by omega
      rw [all_end]
      go_wp2
      go_ret2
      exact ⟨rfl, rfl⟩
theorem lawCheckOf (n : Int) (hn : (Lit.int .i64 n).wf = true) (s : ByteArray) (hs : s.size ≤ maxLen) (w : World) :
    Calls Try.prog 9 #[.int .i64 n, .string s] w fun e w' => e = .returned (.bool true) ∧ Below w.heap.size w w' := by
  unfold maxLen at hs
  by_cases hlt : s.size ≤ 1048576
  · have h1 : decide ((1048576 : Int) < (s.size : Int)) = false := decide_eq_false (by omega)
    cases hr : inR n 0 65002
    · go_enter Try.func9, Try.ntmps9
      go_wp2_with (first | (go_at_call 29; refine (specCheckOf_out _ hr _ hlt _).mono ?_; rintro e w' ⟨rfl, rfl⟩) | (go_at_call 30; refine (implCheckOf_out _ hr _ hlt _).mono ?_; rintro e w' ⟨rfl, rfl⟩))
      go_ret
      exact ⟨rfl, Below.refl _ _⟩
    · obtain ⟨b0, b1⟩ := inR_of hr
      go_enter Try.func9, Try.ntmps9
      go_wp2_with (first | (go_at_call 29; refine (specCheckOf_in _ b0 b1 _ hlt _).mono ?_; rintro e w' ⟨rfl, rfl⟩) | (go_at_call 30; refine (implCheckOf_in _ b0 b1 _ hlt _).mono ?_; rintro e w' ⟨rfl, rfl⟩))
      go_ret
      exact ⟨rfl, Below.refl _ _⟩
  · have h1 : decide ((1048576 : Int) < (s.size : Int)) = true := decide_eq_true (by omega)
    go_enter Try.func9, Try.ntmps9
    go_wp2_with fail
    go_ret
    exact ⟨rfl, Below.refl _ _⟩
end Go.Proofs.Ytdbpkkbijpppfaa
