/- Marks written into lists, and read again; lists that two calls made. -/
import Derived.Test.YtedpbidphajngaaDoorT
import Derived.Test.YtedpbidphajngaaDoorJN
namespace Go.Proofs.YtedpbidphajngaaDoor
open Go.RowKit
set_option linter.unusedVariables false
set_option linter.unusedSimpArgs false
attribute [local go_sem] lo_value lo_enter run_store_float

theorem grown_trans {w w' w'' : World} {row : Option Nat} (h : w.grownBy w' row) (h' : w'.grownBy w'' row) : w.grownBy w'' row :=
  ⟨h'.os.trans h.os, h'.tape.trans h.tape, h'.output.trans h.output, Nat.le_trans h.size h'.size, fun k hk hr => (h'.block k (Nat.lt_of_lt_of_le hk h.size) hr).trans (h.block k hk hr)⟩
theorem grown_refl (w : World) (row : Option Nat) : w.grownBy w row := ⟨rfl, rfl, rfl, Nat.le_refl _, fun _ _ _ => rfl⟩
theorem own_drew {w : World} {base n : Nat} {e : TypeId} {v : Value} {xs : List Value} (h : w.ownsRow base e 1 v n xs) (k : Nat) : (w.drewN k).ownsRow base e 1 v n xs := h
/-- what one call made lies apart from what a later one made -/
theorem own_later {w w1 : World} {b1 b2 n m : Nat} {e1 e2 : TypeId} {u v : Value} {xs ys : List Value} (h : w1.ownsRow b1 e1 1 u n xs) (h' : w.ownsRow b2 e2 1 v m ys) (hb : w1.heap.size ≤ b2) : u.ownBlock = none ∨ u.ownBlock ≠ v.ownBlock := by
  cases hu : u.ownBlock with
  | none => exact .inl rfl
  | some k =>
    right
    intro e
    have h1 := (h.lt k hu).2
    have h2 := (h'.lt k e.symm).1
    omega

/-- the marks k, k + 1, .. -/
def markI (k n : Nat) : List Int := (List.range n).map fun (j : Nat) => ((k : Int) + (j : Int))
theorem markI_succ (k n : Nat) : markI k (n + 1) = markI k n ++ [((k : Int) + (n : Int))] := by unfold markI; rw [List.range_succ, List.map_append]; rfl
theorem markI_length (k n : Nat) : (markI k n).length = n := by simp [markI]
theorem markI_set (k j : Nat) (xs : List Value) (h : j < xs.length) : ((markI k j).map (Value.int .i64) ++ xs.drop j).set j (.int .i64 ((k : Int) + (j : Int))) = (markI k (j + 1)).map (Value.int .i64) ++ xs.drop (j + 1) := by
  have hl : ((markI k j).map (Value.int .i64)).length = j := by rw [List.length_map, markI_length]
  rw [List.set_append_right _ _ (by omega), hl, Nat.sub_self, List.drop_eq_getElem_cons h, List.set_cons_zero, markI_succ, List.map_append, List.append_assoc]
  rfl
set_option maxHeartbeats 1000000 in
set_option maxRecDepth 100000 in
theorem markI_any (base n k : Nat) (u : Value) (xs : List Value) (w : World) (h : w.ownsRow base 2 1 u n xs) (hn : n ≤ 1048576) (hk : k ≤ 16777216) :
    Calls Tryd.prog 15 #[u, .int .i64 (k : Int)] w fun e w' => e = .returned (.int .i64 ((k + n : Nat) : Int)) ∧ w'.ownsRow base 2 1 u n ((markI k n).map (Value.int .i64)) ∧ w.grownBy w' u.ownBlock := by
  have hxl : xs.length = n := by have := h.1; omega
  rcases h.2 with ⟨rfl, rfl⟩ | ⟨g, cap, cur, rfl, _⟩
  · clear hxl h
    go_enter Tryd.func15, Tryd.ntmps15
    go_wp2_with fail
    go_loopw [1, 5] (fun kv i wr => i = .int .i64 0 ∧ kv = .int .i64 (k : Int) ∧ wr = w) (fun _ _ _ => 0)
    case atStart => exact ⟨rfl, rfl, rfl⟩
    case round =>
      obtain ⟨rfl, rfl, rfl⟩ := hrel
      go_wp2_with fail
      go_ret
      exact ⟨by first | rfl | simp, World.ownsRow_nil _ _ _ _, grown_refl _ _⟩
  · have HXL := Lib.hid hxl
    clear hxl
    show Calls _ _ _ _ fun e w' => e = .returned (.int .i64 ((k + n : Nat) : Int)) ∧ w'.ownsRow base 2 1 (.slice (some ⟨g, 0, none⟩) n cap) n ((markI k n).map (Value.int .i64)) ∧ w.grownBy w' (some g)
    go_enter Tryd.func15, Tryd.ntmps15
    go_wp2_with fail
    go_loopw [1, 5] (fun kv i wr => ∃ (j : Nat), j ≤ n ∧ i = .int .i64 j ∧ kv = .int .i64 ((k + j : Nat) : Int) ∧ wr.ownsRow base 2 1 (.slice (some ⟨g, 0, none⟩) n cap) n ((markI k j).map (Value.int .i64) ++ xs.drop j) ∧ w.grownBy wr (some g)) (fun _ i _ => n - (intOf i).toNat)
    case atStart => exact ⟨0, Nat.zero_le _, rfl, rfl, h, grown_refl _ _⟩
    case round =>
      obtain ⟨j, hj, rfl, rfl, ho, hg⟩ := hrel
      by_cases hlt : j < n
      · have hlt2 : (j : Int) < (n : Int) := by omega
        obtain ⟨z, hc⟩ : ∃ z, wr.cell? ⟨g, j, none⟩ = some z := by
          rw [ho.cellAt j (by omega)]
          exact ⟨_, List.getElem?_eq_getElem (by have := ho.1; omega)⟩
        have hz := ho.frozenAt j
        go_wp2_with fail
        go_roundw
        case rel => exact ⟨j + 1, by omega, by go_num, by go_num, by rw [← markI_set k j xs (by have := HXL.out; omega)]; exact (ho.stored j _).1, grown_trans hg (ho.stored j _).2⟩
        case measure => simp [intOf]; omega
      · obtain rfl : j = n := by omega
        go_wp2_with fail
        go_ret
        exact ⟨by first | rfl | simp, by rw [List.drop_of_length_le (Nat.le_of_eq HXL.out), List.append_nil] at ho; exact ho, hg⟩
set_option maxHeartbeats 1000000 in
set_option maxRecDepth 100000 in
theorem heldI_any (base n k : Nat) (u : Value) (w : World) (h : w.ownsRow base 2 1 u n ((markI k n).map (Value.int .i64))) (hn : n ≤ 1048576) (hk : k ≤ 16777216) :
    Calls Tryd.prog 16 #[u, .int .i64 (k : Int)] w fun e w' => e = .returned (.int .i64 ((k + n : Nat) : Int)) ∧ w' = w := by
  rcases h.2 with ⟨rfl, rfl⟩ | ⟨g, cap, cur, rfl, _⟩
  · clear h
    go_enter Tryd.func16, Tryd.ntmps16
    go_wp2_with fail
    go_loopw [1, 5] (fun kv i wr => i = .int .i64 0 ∧ kv = .int .i64 (k : Int) ∧ wr = w) (fun _ _ _ => 0)
    case atStart => exact ⟨rfl, rfl, rfl⟩
    case round =>
      obtain ⟨rfl, rfl, rfl⟩ := hrel
      go_wp2_with fail
      go_ret
      exact ⟨by first | rfl | simp, by first | rfl | trivial⟩
  · go_enter Tryd.func16, Tryd.ntmps16
    go_wp2_with fail
    go_loopw [1, 5] (fun kv i wr => ∃ (j : Nat), j ≤ n ∧ i = .int .i64 j ∧ kv = .int .i64 ((k + j : Nat) : Int) ∧ wr = w) (fun _ i _ => n - (intOf i).toNat)
    case atStart => exact ⟨0, Nat.zero_le _, rfl, rfl, rfl⟩
    case round =>
      obtain ⟨j, hj, rfl, rfl, rfl⟩ := hrel
      by_cases hlt : j < n
      · have hlt2 : (j : Int) < (n : Int) := by omega
        have hc : wr.cell? ⟨g, j, none⟩ = some (.int .i64 ((k : Int) + (j : Int))) := by
          rw [h.cellAt j (by omega), List.getElem?_map, markI, List.getElem?_map, List.getElem?_range hlt]; rfl
        skip
        go_wp2_with fail
        go_roundw
        case rel => exact ⟨j + 1, by omega, by go_num, by go_num, by first | rfl | trivial⟩
        case measure => simp [intOf]; omega
      · obtain rfl : j = n := by omega
        go_wp2_with fail
        go_ret
        exact ⟨by first | rfl | simp, by first | rfl | trivial⟩
theorem order_self {x : Nat} (h : (FloatKind.f32.decode x).isNaN = false) : FloatKind.f32.format.order x x = some .eq := by
  cases hd : FloatKind.f32.decode x with
  | number s m p =>
    have hr : FloatKind.f32.format.read x = .number s m p := hd
    unfold Ieee.Format.order
    rw [hr]
    unfold Ieee.Datum.order
    simp [compare, compareOfLessAndEq]
  | infinity s =>
    have hr : FloatKind.f32.format.read x = .infinity s := hd
    unfold Ieee.Format.order
    rw [hr]
    cases s <;> rfl
  | nan s t => rw [hd] at h; cases h
theorem mark_self (z : Int) : (FloatKind.f32.format.order (floatOfInt .f32 z) (floatOfInt .f32 z) != some .eq) = false := by
  have h : (FloatKind.f32.decode (floatOfInt .f32 z)).isNaN = false := by
    show (Ieee.Format.read FloatKind.f32.format (Ieee.Format.write FloatKind.f32.format (.number (decide (z < 0)) z.natAbs 0))).isNaN = false
    exact FT.write_notNaN _ _ rfl
  rw [order_self h]; rfl

/-- the marks k, k + 1, .. -/
def markF (k n : Nat) : List Nat := (List.range n).map fun (j : Nat) => (floatOfInt .f32 ((k : Int) + (j : Int)))
theorem markF_succ (k n : Nat) : markF k (n + 1) = markF k n ++ [(floatOfInt .f32 ((k : Int) + (n : Int)))] := by unfold markF; rw [List.range_succ, List.map_append]; rfl
theorem markF_length (k n : Nat) : (markF k n).length = n := by simp [markF]
theorem markF_set (k j : Nat) (xs : List Value) (h : j < xs.length) : ((markF k j).map (Value.float .f32) ++ xs.drop j).set j (.float .f32 (floatOfInt .f32 ((k : Int) + (j : Int)))) = (markF k (j + 1)).map (Value.float .f32) ++ xs.drop (j + 1) := by
  have hl : ((markF k j).map (Value.float .f32)).length = j := by rw [List.length_map, markF_length]
  rw [List.set_append_right _ _ (by omega), hl, Nat.sub_self, List.drop_eq_getElem_cons h, List.set_cons_zero, markF_succ, List.map_append, List.append_assoc]
  rfl
set_option maxHeartbeats 1000000 in
set_option maxRecDepth 100000 in
theorem markF_any (base n k : Nat) (u : Value) (xs : List Value) (w : World) (h : w.ownsRow base 48 1 u n xs) (hn : n ≤ 1048576) (hk : k ≤ 16777216) :
    Calls Tryd.prog 25 #[u, .int .i64 (k : Int)] w fun e w' => e = .returned (.int .i64 ((k + n : Nat) : Int)) ∧ w'.ownsRow base 48 1 u n ((markF k n).map (Value.float .f32)) ∧ w.grownBy w' u.ownBlock := by
  have hxl : xs.length = n := by have := h.1; omega
  rcases h.2 with ⟨rfl, rfl⟩ | ⟨g, cap, cur, rfl, _⟩
  · clear hxl h
    go_enter Tryd.func25, Tryd.ntmps25
    go_wp2_with fail
    go_loopw [1, 5] (fun kv i wr => i = .int .i64 0 ∧ kv = .int .i64 (k : Int) ∧ wr = w) (fun _ _ _ => 0)
    case atStart => exact ⟨rfl, rfl, rfl⟩
    case round =>
      obtain ⟨rfl, rfl, rfl⟩ := hrel
      go_wp2_with fail
      go_ret
      exact ⟨by first | rfl | simp, World.ownsRow_nil _ _ _ _, grown_refl _ _⟩
  · have HXL := Lib.hid hxl
    clear hxl
    show Calls _ _ _ _ fun e w' => e = .returned (.int .i64 ((k + n : Nat) : Int)) ∧ w'.ownsRow base 48 1 (.slice (some ⟨g, 0, none⟩) n cap) n ((markF k n).map (Value.float .f32)) ∧ w.grownBy w' (some g)
    go_enter Tryd.func25, Tryd.ntmps25
    go_wp2_with fail
    go_loopw [1, 5] (fun kv i wr => ∃ (j : Nat), j ≤ n ∧ i = .int .i64 j ∧ kv = .int .i64 ((k + j : Nat) : Int) ∧ wr.ownsRow base 48 1 (.slice (some ⟨g, 0, none⟩) n cap) n ((markF k j).map (Value.float .f32) ++ xs.drop j) ∧ w.grownBy wr (some g)) (fun _ i _ => n - (intOf i).toNat)
    case atStart => exact ⟨0, Nat.zero_le _, rfl, rfl, h, grown_refl _ _⟩
    case round =>
      obtain ⟨j, hj, rfl, rfl, ho, hg⟩ := hrel
      by_cases hlt : j < n
      · have hlt2 : (j : Int) < (n : Int) := by omega
        obtain ⟨z, hc⟩ : ∃ z, wr.cell? ⟨g, j, none⟩ = some z := by
          rw [ho.cellAt j (by omega)]
          exact ⟨_, List.getElem?_eq_getElem (by have := ho.1; omega)⟩
        have hz := ho.frozenAt j
        go_wp2_with fail
        go_roundw
        case rel => exact ⟨j + 1, by omega, by go_num, by go_num, by rw [← markF_set k j xs (by have := HXL.out; omega)]; exact (ho.stored j _).1, grown_trans hg (ho.stored j _).2⟩
        case measure => simp [intOf]; omega
      · obtain rfl : j = n := by omega
        go_wp2_with fail
        go_ret
        exact ⟨by first | rfl | simp, by rw [List.drop_of_length_le (Nat.le_of_eq HXL.out), List.append_nil] at ho; exact ho, hg⟩
set_option maxHeartbeats 1000000 in
set_option maxRecDepth 100000 in
theorem heldF_any (base n k : Nat) (u : Value) (w : World) (h : w.ownsRow base 48 1 u n ((markF k n).map (Value.float .f32))) (hn : n ≤ 1048576) (hk : k ≤ 16777216) :
    Calls Tryd.prog 26 #[u, .int .i64 (k : Int)] w fun e w' => e = .returned (.int .i64 ((k + n : Nat) : Int)) ∧ w' = w := by
  rcases h.2 with ⟨rfl, rfl⟩ | ⟨g, cap, cur, rfl, _⟩
  · clear h
    go_enter Tryd.func26, Tryd.ntmps26
    go_wp2_with fail
    go_loopw [1, 5] (fun kv i wr => i = .int .i64 0 ∧ kv = .int .i64 (k : Int) ∧ wr = w) (fun _ _ _ => 0)
    case atStart => exact ⟨rfl, rfl, rfl⟩
    case round =>
      obtain ⟨rfl, rfl, rfl⟩ := hrel
      go_wp2_with fail
      go_ret
      exact ⟨by first | rfl | simp, by first | rfl | trivial⟩
  · go_enter Tryd.func26, Tryd.ntmps26
    go_wp2_with fail
    go_loopw [1, 5] (fun kv i wr => ∃ (j : Nat), j ≤ n ∧ i = .int .i64 j ∧ kv = .int .i64 ((k + j : Nat) : Int) ∧ wr = w) (fun _ i _ => n - (intOf i).toNat)
    case atStart => exact ⟨0, Nat.zero_le _, rfl, rfl, rfl⟩
    case round =>
      obtain ⟨j, hj, rfl, rfl, rfl⟩ := hrel
      by_cases hlt : j < n
      · have hlt2 : (j : Int) < (n : Int) := by omega
        have hc : wr.cell? ⟨g, j, none⟩ = some (.float .f32 (floatOfInt .f32 ((k : Int) + (j : Int)))) := by
          rw [h.cellAt j (by omega), List.getElem?_map, markF, List.getElem?_map, List.getElem?_range hlt]; rfl
        have hms := mark_self ((k : Int) + (j : Int))
        go_wp2_with fail
        go_roundw
        case rel => exact ⟨j + 1, by omega, by go_num, by go_num, by first | rfl | trivial⟩
        case measure => simp [intOf]; omega
      · obtain rfl : j = n := by omega
        go_wp2_with fail
        go_ret
        exact ⟨by first | rfl | simp, by first | rfl | trivial⟩
end Go.Proofs.YtedpbidphajngaaDoor
