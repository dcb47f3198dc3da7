/- Marks written into lists, and read again. -/
import Derived.Test.YteodplednmeaaaaLU
namespace Go.Proofs.Yteodplednmeaaaa
open Go.RowKit
set_option linter.unusedVariables false
set_option linter.unusedSimpArgs false
attribute [local go_sem] lo_value lo_enter run_store_float run_neg LC.lc_value LC.lc_enter

/-- the marks k, k + 1, .. as floats -/
def markL (k n : Nat) : List Nat := (List.range n).map fun (j : Nat) => floatOfInt .f32 ((k : Int) + (j : Int))
theorem markL_succ (k n : Nat) : markL k (n + 1) = markL k n ++ [floatOfInt .f32 ((k : Int) + (n : Int))] := by unfold markL; rw [List.range_succ, List.map_append]; rfl
theorem markL_length (k n : Nat) : (markL k n).length = n := by simp [markL]
theorem mark_set (k j : Nat) (xs : List Value) (h : j < xs.length) : ((markL k j).map (Value.float .f32) ++ xs.drop j).set j (.float .f32 (floatOfInt .f32 ((k : Int) + (j : Int)))) = (markL k (j + 1)).map (Value.float .f32) ++ xs.drop (j + 1) := by
  have hl : ((markL k j).map (Value.float .f32)).length = j := by rw [List.length_map, markL_length]
  rw [List.set_append_right _ _ (by omega), hl, Nat.sub_self, List.drop_eq_getElem_cons h, List.set_cons_zero, markL_succ, List.map_append, List.append_assoc]
  rfl
theorem grown_trans {w w' w'' : World} {row : Option Nat} (h : w.grownBy w' row) (h' : w'.grownBy w'' row) : w.grownBy w'' row :=
  ⟨h'.os.trans h.os, h'.tape.trans h.tape, h'.output.trans h.output, Nat.le_trans h.size h'.size, fun k hk hr => (h'.block k (Nat.lt_of_lt_of_le hk h.size) hr).trans (h.block k hk hr)⟩
set_option maxHeartbeats 1000000 in
set_option maxRecDepth 100000 in
theorem mark_any (base g n cap k : Nat) (xs : List Value) (w : World) (h : w.ownsRow base 23 1 (.slice (some ⟨g, 0, none⟩) n cap) n xs) (hn : n ≤ 1048576) (hk : k ≤ 16777216) :
    Calls Try.prog 53 #[.slice (some ⟨g, 0, none⟩) n cap, .int .i64 (k : Int)] w fun e w' => e = .returned (.int .i64 ((k + n : Nat) : Int)) ∧ w'.ownsRow base 23 1 (.slice (some ⟨g, 0, none⟩) n cap) n ((markL k n).map (Value.float .f32)) ∧ w.grownBy w' (some g) := by
  have hxl : xs.length = n := by have := h.1; omega
  have HXL := Lib.hid hxl
  clear hxl
  go_enter Try.func53, Try.ntmps53
  go_wp2_with fail
  go_loopw [1, 5] (fun kv i wr => ∃ (j : Nat), j ≤ n ∧ i = .int .i64 j ∧ kv = .int .i64 ((k + j : Nat) : Int) ∧ wr.ownsRow base 23 1 (.slice (some ⟨g, 0, none⟩) n cap) n ((markL k j).map (Value.float .f32) ++ xs.drop j) ∧ w.grownBy wr (some g)) (fun _ i _ => n - (intOf i).toNat)
  case atStart => exact ⟨0, Nat.zero_le _, rfl, rfl, h, ⟨rfl, rfl, rfl, Nat.le_refl _, fun _ _ _ => rfl⟩⟩
  case round =>
    obtain ⟨j, hj, rfl, rfl, ho, hg⟩ := hrel
    by_cases hlt : j < n
    · have hlt2 : (j : Int) < (n : Int) := by omega
      obtain ⟨u, hc⟩ : ∃ u, wr.cell? ⟨g, j, none⟩ = some u := by
        rw [ho.cellAt j (by omega)]
        exact ⟨_, List.getElem?_eq_getElem (by have := ho.1; omega)⟩
      have hz := ho.frozenAt j
      go_wp2_with fail
      go_roundw
      case rel => exact ⟨j + 1, by omega, by go_num, by go_num, by rw [← mark_set k j xs (by have := HXL.out; omega)]; exact (ho.stored j _).1, grown_trans hg (ho.stored j _).2⟩
      case measure => simp [intOf]; omega
    · obtain rfl : j = n := by omega
      go_wp2_with fail
      go_ret
      exact ⟨by first | rfl | simp, by rw [List.drop_of_length_le (Nat.le_of_eq HXL.out), List.append_nil] at ho; exact ho, hg⟩
theorem order_self {x : Nat} (h : (FloatKind.f32.decode x).isNaN = false) : FloatKind.f32.format.order x x = some .eq := by
  cases hd : FloatKind.f32.decode x with
  | number s m p =>
    have hr : FloatKind.f32.format.read x = .number s m p := hd
    unfold Ieee.Format.order
    rw [hr]
    unfold Ieee.Datum.order
    simp [compare, compareOfLessAndEq]
  | infinity s =>
    have hr : FloatKind.f32.format.read x = .infinity s := hd
    unfold Ieee.Format.order
    rw [hr]
    cases s <;> rfl
  | nan s t => rw [hd] at h; cases h
theorem mark_self (z : Int) : (FloatKind.f32.format.order (floatOfInt .f32 z) (floatOfInt .f32 z) != some .eq) = false := by
  have h : (FloatKind.f32.decode (floatOfInt .f32 z)).isNaN = false := by
    show (Ieee.Format.read FloatKind.f32.format (Ieee.Format.write FloatKind.f32.format (.number (decide (z < 0)) z.natAbs 0))).isNaN = false
    exact FT.write_notNaN _ _ rfl
  rw [order_self h]; rfl
set_option maxHeartbeats 1000000 in
set_option maxRecDepth 100000 in
theorem held_any (base g n cap k : Nat) (w : World) (h : w.ownsRow base 23 1 (.slice (some ⟨g, 0, none⟩) n cap) n ((markL k n).map (Value.float .f32))) (hn : n ≤ 1048576) (hk : k ≤ 16777216) :
    Calls Try.prog 54 #[.slice (some ⟨g, 0, none⟩) n cap, .int .i64 (k : Int)] w fun e w' => e = .returned (.int .i64 ((k + n : Nat) : Int)) ∧ w' = w := by
  go_enter Try.func54, Try.ntmps54
  go_wp2_with fail
  go_loopw [1, 5] (fun kv i wr => ∃ (j : Nat), j ≤ n ∧ i = .int .i64 j ∧ kv = .int .i64 ((k + j : Nat) : Int) ∧ wr = w) (fun _ i _ => n - (intOf i).toNat)
  case atStart => exact ⟨0, Nat.zero_le _, rfl, rfl, rfl⟩
  case round =>
    obtain ⟨j, hj, rfl, rfl, rfl⟩ := hrel
    by_cases hlt : j < n
    · have hlt2 : (j : Int) < (n : Int) := by omega
      have hc : wr.cell? ⟨g, j, none⟩ = some (.float .f32 (floatOfInt .f32 ((k : Int) + (j : Int)))) := by
        rw [h.cellAt j (by omega), List.getElem?_map, markL, List.getElem?_map, List.getElem?_range hlt]; rfl
      have hms := mark_self ((k : Int) + (j : Int))
      go_wp2_with fail
      go_roundw
      case rel => exact ⟨j + 1, by omega, by go_num, by go_num, by first | rfl | trivial⟩
      case measure => simp [intOf]; omega
    · obtain rfl : j = n := by omega
      go_wp2_with fail
      go_ret
      exact ⟨by first | rfl | simp, rfl⟩
end Go.Proofs.Yteodplednmeaaaa
