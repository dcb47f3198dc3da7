/- Marks written into lists of integers, and into tables. -/
import Derived.Test.YteodplednmeaaaaOW
namespace Go.Proofs.Yteodplednmeaaaa
open Go.RowKit
set_option linter.unusedVariables false
set_option linter.unusedSimpArgs false
attribute [local go_sem] lo_value lo_enter run_store_float run_neg LC.lc_value LC.lc_enter

/-- the marks k, k + 1, .. as integers -/
def markIL (k n : Nat) : List Int := (List.range n).map fun (j : Nat) => ((k : Int) + (j : Int))
theorem markIL_succ (k n : Nat) : markIL k (n + 1) = markIL k n ++ [((k : Int) + (n : Int))] := by unfold markIL; rw [List.range_succ, List.map_append]; rfl
theorem markIL_length (k n : Nat) : (markIL k n).length = n := by simp [markIL]
theorem markI_set (k j : Nat) (xs : List Value) (h : j < xs.length) : ((markIL k j).map (Value.int .i64) ++ xs.drop j).set j (.int .i64 ((k : Int) + (j : Int))) = (markIL k (j + 1)).map (Value.int .i64) ++ xs.drop (j + 1) := by
  have hl : ((markIL k j).map (Value.int .i64)).length = j := by rw [List.length_map, markIL_length]
  rw [List.set_append_right _ _ (by omega), hl, Nat.sub_self, List.drop_eq_getElem_cons h, List.set_cons_zero, markIL_succ, List.map_append, List.append_assoc]
  rfl
set_option maxHeartbeats 1000000 in
set_option maxRecDepth 100000 in
theorem markI_any (base g n cap k : Nat) (xs : List Value) (w : World) (h : w.ownsRow base 2 1 (.slice (some ⟨g, 0, none⟩) n cap) n xs) (hn : n ≤ 1048576) (hk : k ≤ 16777216) :
    Calls Try.prog 106 #[.slice (some ⟨g, 0, none⟩) n cap, .int .i64 (k : Int)] w fun e w' => e = .returned (.int .i64 ((k + n : Nat) : Int)) ∧ w'.ownsRow base 2 1 (.slice (some ⟨g, 0, none⟩) n cap) n ((markIL k n).map (Value.int .i64)) ∧ w.grownBy w' (some g) := by
  have hxl : xs.length = n := by have := h.1; omega
  have HXL := Lib.hid hxl
  clear hxl
  go_enter Try.func106, Try.ntmps106
  go_wp2_with fail
  go_loopw [1, 5] (fun kv i wr => ∃ (j : Nat), j ≤ n ∧ i = .int .i64 j ∧ kv = .int .i64 ((k + j : Nat) : Int) ∧ wr.ownsRow base 2 1 (.slice (some ⟨g, 0, none⟩) n cap) n ((markIL k j).map (Value.int .i64) ++ xs.drop j) ∧ w.grownBy wr (some g)) (fun _ i _ => n - (intOf i).toNat)
  case atStart => exact ⟨0, Nat.zero_le _, rfl, rfl, h, ⟨rfl, rfl, rfl, Nat.le_refl _, fun _ _ _ => rfl⟩⟩
  case round =>
    obtain ⟨j, hj, rfl, rfl, ho, hg⟩ := hrel
    by_cases hlt : j < n
    · have hlt2 : (j : Int) < (n : Int) := by omega
      obtain ⟨u, hc⟩ : ∃ u, wr.cell? ⟨g, j, none⟩ = some u := by
        rw [ho.cellAt j (by omega)]
        exact ⟨_, List.getElem?_eq_getElem (by have := ho.1; omega)⟩
      have hz := ho.frozenAt j
      go_wp2_with fail
      go_roundw
      case rel => exact ⟨j + 1, by omega, by go_num, by go_num, by rw [← markI_set k j xs (by have := HXL.out; omega)]; exact (ho.stored j _).1, grown_trans hg (ho.stored j _).2⟩
      case measure => simp [intOf]; omega
    · obtain rfl : j = n := by omega
      go_wp2_with fail
      go_ret
      exact ⟨by first | rfl | simp, by rw [List.drop_of_length_le (Nat.le_of_eq HXL.out), List.append_nil] at ho; exact ho, hg⟩
/-- a row laid by a copy is owned -/
theorem IR.own {w : World} {g n base : Nat} {L : List Int} (h : IR w g n L) (hb : base ≤ g) (hn : n ≤ 1048576) : ∃ xs, w.ownsRow base 2 1 (.slice (some ⟨g, 0, none⟩) n n) n xs := by
  obtain ⟨vs, hr, hs, _⟩ := h
  refine ⟨vs.toList, by simpa using hs, .inr ⟨g, n, vs, rfl, hb, hr, Nat.le_refl _, by unfold maxLen; omega, by omega, List.take_of_length_le (by simp; omega)⟩⟩
set_option maxHeartbeats 1000000 in
set_option maxRecDepth 100000 in
theorem markTable_any (base : Nat) (v : Int) (g1 g2 n1 n2 c1 c2 k : Nat) (xs1 xs2 : List Value) (w : World)
    (o1 : w.ownsRow base 23 1 (.slice (some ⟨g1, 0, none⟩) n1 c1) n1 xs1) (o2 : w.ownsRow base 2 1 (.slice (some ⟨g2, 0, none⟩) n2 c2) n2 xs2)
    (e12 : g1 ≠ g2) (b1 : n1 ≤ 1048576) (b2 : n2 ≤ 1048576) (hk : k ≤ 1048576) :
    Calls Try.prog 61 #[.agg #[.int .i64 v, .slice (some ⟨g1, 0, none⟩) n1 c1, .slice (some ⟨g2, 0, none⟩) n2 c2], .int .i64 (k : Int)] w fun e w' =>
      e = .returned (.int .i64 ((k + n1 + n2 : Nat) : Int)) ∧ Wrote [g1, g2] w w' := by
  have l1 := (o1.lt g1 rfl).2
  have l2 := (o2.lt g2 rfl).2
  have HW : Wrote [] w (w.alloc (.cells #[.int .i64 v, .slice (some ⟨g1, 0, none⟩) n1 c1, .slice (some ⟨g2, 0, none⟩) n2 c2] 46)) := by
    have hb : Below w.heap.size w (w.alloc (.cells #[.int .i64 v, .slice (some ⟨g1, 0, none⟩) n1 c1, .slice (some ⟨g2, 0, none⟩) n2 c2] 46)) := (Below.refl _ _).alloc (Nat.le_refl _) _
    exact ⟨hb.os, hb.tape, hb.output, hb.size, fun j hj _ => hb.block j hj⟩
  have HR := Row.new w 46 #[.int .i64 v, .slice (some ⟨g1, 0, none⟩) n1 c1, .slice (some ⟨g2, 0, none⟩) n2 c2]
  replace o1 := HW.own o1 (by simp)
  replace o2 := HW.own o2 (by simp)
  go_enter Try.func61, Try.ntmps61
  go_wp2_with fail
  refine (mark_any base g1 n1 c1 k xs1 _ o1 b1 (by omega)).mono ?_
  rintro e w1 ⟨rfl, o1', hg1⟩
  have W1 := Wrote.of_grown hg1
  replace HR := W1.row HR (by simp; omega)
  replace o2 := W1.own o2 (by simp; omega)
  have q2 : w1.cell? ⟨w.heap.size, 2, none⟩ = some (.slice (some ⟨g2, 0, none⟩) n2 c2) := HR.cell 2
  go_wp2_with fail
  refine (markI_any base g2 n2 c2 (k + n1) xs2 _ o2 b2 (by omega)).mono ?_
  rintro e w2 ⟨rfl, o2', hg2⟩
  have W2 := Wrote.of_grown hg2
  go_wp2_with fail
  go_ret
  exact ⟨by first | rfl | simp, (HW.trans W1).trans W2⟩
end Go.Proofs.Yteodplednmeaaaa
