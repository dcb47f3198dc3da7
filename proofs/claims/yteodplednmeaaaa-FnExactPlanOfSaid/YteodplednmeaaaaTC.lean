/- Tables that are valid: the program's walk. (written by gen/genTC.py) -/
import Derived.Test.YteodplednmeaaaaTB
namespace Go.Proofs.Yteodplednmeaaaa
open Go.RowKit
set_option linter.unusedVariables false
set_option linter.unusedSimpArgs false
attribute [local go_sem] lo_value lo_enter run_store_float run_neg LC.lc_value LC.lc_enter
theorem l02Table_any (p : Nat) (v : Int) (A1 A2 : Option Addr) (n1 n2 c1 c2 : Nat) (N : List Nat) (S : List Int) (w : World) (hr : Row w p 46 #[.int .i64 v, .slice A1 n1 c1, .slice A2 n2 c2]) (h1 : FS w A1 n1 N) (h2 : IS w A2 n2 S) (b1 : n1 ≤ 1048576) (b2 : n2 ≤ 1048576) :
    Calls Try.prog 81 #[.pointer (some ⟨p, 0, none⟩)] w fun e w' => ∃ k, e = .returned (.bool (tableV v n1 n2 N S)) ∧ w' = w.drewN k := by
  by_cases h : ShapeT v n1 n2 ∧ allA (finA .f32) N = true
  · unfold tableV
    rw [decide_eq_true h.1, h.2, Bool.true_and, Bool.true_and]
    exact l02Table_in p v A1 A2 n1 n2 c1 c2 N S w hr h1 h2 b1 b2 h.1 h.2
  · have : tableV v n1 n2 N S = false := by
      unfold tableV
      by_cases hs : ShapeT v n1 n2
      · cases hN : allA (finA .f32) N
        · simp
        · exact absurd ⟨hs, hN⟩ h
      · rw [decide_eq_false hs]; rfl
    rw [this]
    exact l02Table_out p v A1 A2 n1 n2 c1 c2 N S w hr h1 b1 b2 h
theorem specValidTable_any (v : Int) (A1 A2 : Option Addr) (n1 n2 c1 c2 : Nat) (N : List Nat) (S : List Int) (w : World) (h1 : FS w A1 n1 N) (h2 : IS w A2 n2 S) (b1 : n1 ≤ 1048576) (b2 : n2 ≤ 1048576) :
    Calls Try.prog 38 #[.agg #[.int .i64 v, .slice A1 n1 c1, .slice A2 n2 c2]] w fun e w' => e = .returned (.bool (tableV v n1 n2 N S)) ∧ Below w.heap.size w w' := by
  have HB : Below w.heap.size w (w.alloc (.cells #[.int .i64 v, .slice A1 n1 c1, .slice A2 n2 c2] 46)) := (Below.refl _ _).alloc (Nat.le_refl _) _
  have HR := Row.new w 46 #[.int .i64 v, .slice A1 n1 c1, .slice A2 n2 c2]
  go_enter Try.func38, Try.ntmps38
  go_wp2_with fail
  refine (l02Table_any w.heap.size v A1 A2 n1 n2 c1 c2 N S _ HR (h1.below HB) (h2.below HB) b1 b2).mono ?_
  rintro e wx ⟨m1, rfl, rfl⟩
  go_wp2_with fail
  go_ret
  exact ⟨rfl, below_drewN HB _⟩
def inArgs : Array Value → Bool
  | #[.int _ n, .int _ lo, .int _ hi] => inR n lo hi
  | _ => false
theorem within_b {n lo hi : Int} {b : Bool} (h : inR n lo hi = b) (w : World) : Calls Try.prog 73 #[.int .i64 n, .int .i64 lo, .int .i64 hi] w fun e w' => e = .returned (.bool b) ∧ Below w.heap.size w w' :=
  (within_any n lo hi w).mono fun e w' ⟨he, hw⟩ => ⟨by rw [he, h], by subst hw; exact Below.refl _ _⟩
theorem size_b (n : Int) (w : World) : Calls Try.prog 74 #[.int .i64 n] w fun e w' => e = .returned (.int .i64 n) ∧ Below w.heap.size w w' :=
  (size_any n w).mono fun e w' ⟨he, hw⟩ => ⟨he, by subst hw; exact Below.refl _ _⟩
theorem areFinite_b {A : Option Addr} {n c : Nat} {L : List Nat} {w : World} {b : Bool} (h : FS w A n L) (hn : n ≤ 1048576) (hb : allA (finA .f32) L = b) : Calls Try.prog 75 #[.slice A n c] w fun e w' => e = .returned (.bool b) ∧ Below w.heap.size w w' :=
  (implareFinite_any A n c L w h hn).mono fun e w' ⟨m, he, hw⟩ => ⟨by rw [he, hb], by subst hw; exact below_drewN (Below.refl _ _) _⟩

set_option maxHeartbeats 4000000 in
set_option maxRecDepth 100000 in
theorem implValidTable_any (v : Int) (A1 A2 : Option Addr) (n1 n2 c1 c2 : Nat) (N : List Nat) (S : List Int) (w : World) (h1 : FS w A1 n1 N) (h2 : IS w A2 n2 S) (b1 : n1 ≤ 1048576) (b2 : n2 ≤ 1048576) (hcap : n2 = c2 := by rfl) :
    Calls Try.prog 39 #[.agg #[.int .i64 v, .slice A1 n1 c1, .slice A2 n2 c2]] w fun e w' => e = .returned (.bool (tableV v n1 n2 N S)) ∧ Below w.heap.size w w' := by
  have HB : Below w.heap.size w (w.alloc (.cells #[.int .i64 v, .slice A1 n1 c1, .slice A2 n2 c2] 46)) := (Below.refl _ _).alloc (Nat.le_refl _) _
  have HR := Row.new w 46 #[.int .i64 v, .slice A1 n1 c1, .slice A2 n2 c2]
  have k1 := h1.below HB
  have k2 := h2.below HB
  clear h1 h2
  have hcl : n2 ≤ c2 := Nat.le_of_eq hcap
  clear hcap
  obtain ⟨W1, hW1⟩ : ∃ W1, W1 = w.alloc (.cells #[.int .i64 v, .slice A1 n1 c1, .slice A2 n2 c2] 46) := ⟨_, rfl⟩
  rw [← hW1] at HB HR k1 k2
  have HW1 := Lib.hid hW1
  clear hW1
  cases hv : inR v 1 8
  · have H : Hid (tableV v n1 n2 N S = false) := by
      show _ = _
      unfold tableV
      rw [decide_eq_false (fun h => by rw [inR_true h.1 h.2.1] at hv; cases hv)]; rfl
    obtain ⟨U, uvu⟩ : ∃ U : FuncId → Array Value → Value, U 73 #[.int .i64 v, .int .i64 1, .int .i64 8] = .bool false := ⟨fun f args => if f = 73 then .bool (inArgs args) else if f = 74 then args.getD 0 undef else if f = 82 then .int .i64 (v + n2 + 1) else .bool (allA (finA .f32) N), congrArg Value.bool hv⟩
    go_enter Try.func39, Try.ntmps39
    go_wp2_with fail
    rw [← HW1.out]
    refine LC.wp_region W1 U (Below.refl _ _) (by kernel_rfl) (by kernel_rfl) ?_
    refine LC.plain rfl (fun K hK w' hw' => ?_)
    go_simp
    first | refine ⟨hw', hK _ ?_⟩ | refine hK _ ?_
    clear hK K
    clear hw' w'
    refine LC.plain rfl (fun K hK w' hw' => ?_)
    have q0 : w'.cell? ⟨w.heap.size, 0, none⟩ = some (.int .i64 v) := (HR.below hw' HR.lt).cell 0
    have q1 : w'.cell? ⟨w.heap.size, 1, none⟩ = some (.slice A1 n1 c1) := (HR.below hw' HR.lt).cell 1
    have q2 : w'.cell? ⟨w.heap.size, 2, none⟩ = some (.slice A2 n2 c2) := (HR.below hw' HR.lt).cell 2
    go_simp
    first | refine ⟨hw', hK _ ?_⟩ | refine hK _ ?_
    clear hK K
    clear q2 q1 q0
    clear hw' w'
    refine LC.plain rfl (fun K hK w' hw' => ?_)
    go_simp
    refine ⟨LC.call_gr hw' ?_, hK _ ?_⟩
    · first | (with_reducible exact within_b hv _)
    clear hK K
    clear hw' w'
    refine LC.plain rfl (fun K hK w' hw' => ?_)
    go_simp
    first | refine ⟨hw', hK _ ?_⟩ | refine hK _ ?_
    clear hK K
    clear hw' w'
    refine LC.plain rfl (fun K hK w' hw' => ?_)
    go_simp
    first | refine ⟨hw', hK _ ?_⟩ | refine hK _ ?_
    clear hK K
    clear hw' w'
    refine LC.skipK (by kernel_rfl) (fun K hK => ?_)
    go_simp
    refine hK _ ?_
    clear hK K
    refine LC.skipK (by kernel_rfl) (fun K hK => ?_)
    go_simp
    refine hK _ ?_
    clear hK K
    refine LC.skipK (by kernel_rfl) (fun K hK => ?_)
    go_simp
    refine hK _ ?_
    clear hK K
    refine LC.skipK (by kernel_rfl) (fun K hK => ?_)
    go_simp
    refine hK _ ?_
    clear hK K
    refine LC.skipK (by kernel_rfl) (fun K hK => ?_)
    go_simp
    refine hK _ ?_
    clear hK K
    refine LC.skipK (by kernel_rfl) (fun K hK => ?_)
    go_simp
    refine hK _ ?_
    clear hK K
    refine LC.plain rfl (fun K hK w' hw' => ?_)
    go_simp
    first | refine ⟨hw', hK _ ?_⟩ | refine hK _ ?_
    clear hK K
    clear hw' w'
    refine LC.plain rfl (fun K hK w' hw' => ?_)
    go_simp
    first | refine ⟨hw', hK _ ?_⟩ | refine hK _ ?_
    clear hK K
    clear hw' w'
    refine LC.skipK (by kernel_rfl) (fun K hK => ?_)
    go_simp
    refine hK _ ?_
    clear hK K
    refine LC.skipK (by kernel_rfl) (fun K hK => ?_)
    go_simp
    refine hK _ ?_
    clear hK K
    refine LC.skipK (by kernel_rfl) (fun K hK => ?_)
    go_simp
    refine hK _ ?_
    clear hK K
    refine LC.skipK (by kernel_rfl) (fun K hK => ?_)
    go_simp
    refine hK _ ?_
    clear hK K
    refine LC.skipK (by kernel_rfl) (fun K hK => ?_)
    go_simp
    refine hK _ ?_
    clear hK K
    refine LC.skipK (by kernel_rfl) (fun K hK => ?_)
    go_simp
    refine hK _ ?_
    clear hK K
    refine LC.skipK (by kernel_rfl) (fun K hK => ?_)
    go_simp
    refine hK _ ?_
    clear hK K
    refine LC.skipK (by kernel_rfl) (fun K hK => ?_)
    go_simp
    refine hK _ ?_
    clear hK K
    refine LC.skipK (by kernel_rfl) (fun K hK => ?_)
    go_simp
    refine hK _ ?_
    clear hK K
    refine LC.skipK (by kernel_rfl) (fun K hK => ?_)
    go_simp
    refine hK _ ?_
    clear hK K
    refine LC.skipK (by kernel_rfl) (fun K hK => ?_)
    go_simp
    refine hK _ ?_
    clear hK K
    refine LC.plain rfl (fun K hK w' hw' => ?_)
    go_simp
    first | refine ⟨hw', hK _ ?_⟩ | refine hK _ ?_
    clear hK K
    clear hw' w'
    refine LC.plain rfl (fun K hK w' hw' => ?_)
    go_simp
    first | refine ⟨hw', hK _ ?_⟩ | refine hK _ ?_
    clear hK K
    clear hw' w'
    refine LC.skipK (by kernel_rfl) (fun K hK => ?_)
    go_simp
    refine hK _ ?_
    clear hK K
    refine LC.skipK (by kernel_rfl) (fun K hK => ?_)
    go_simp
    refine hK _ ?_
    clear hK K
    refine LC.skipK (by kernel_rfl) (fun K hK => ?_)
    go_simp
    refine hK _ ?_
    clear hK K
    refine LC.skipK (by kernel_rfl) (fun K hK => ?_)
    go_simp
    refine hK _ ?_
    clear hK K
    refine LC.plain rfl (fun K hK w' hw' => ?_)
    go_simp
    first | refine ⟨hw', hK _ ?_⟩ | refine hK _ ?_
    clear hK K
    clear hw' w'
    refine LC.nil ?_
    intro wq hwq
    replace HB := HB.trans (show Below _ _ _ from hwq.mono HB.size)
    go_wp2_with fail
    go_ret
    exact ⟨by rw [H.out]; rfl, HB⟩
  have v1 := inR_of hv
  cases hn : inR n2 1 8
  · have H : Hid (tableV v n1 n2 N S = false) := by
      show _ = _
      unfold tableV
      rw [decide_eq_false (fun h => by rw [inR_true (by have := h.2.2.1; omega) (by have := h.2.2.2.1; omega)] at hn; cases hn)]; rfl
    obtain ⟨U, uvu, unu, usu⟩ : ∃ U : FuncId → Array Value → Value, U 73 #[.int .i64 v, .int .i64 1, .int .i64 8] = .bool true ∧ U 73 #[.int .i64 (n2 : Int), .int .i64 1, .int .i64 8] = .bool false ∧ U 74 #[.int .i64 (n2 : Int)] = .int .i64 (n2 : Int) := ⟨fun f args => if f = 73 then .bool (inArgs args) else if f = 74 then args.getD 0 undef else if f = 82 then .int .i64 (v + n2 + 1) else .bool (allA (finA .f32) N), congrArg Value.bool hv, congrArg Value.bool hn, rfl⟩
    clear v1
    go_enter Try.func39, Try.ntmps39
    go_wp2_with fail
    rw [← HW1.out]
    refine LC.wp_region W1 U (Below.refl _ _) (by kernel_rfl) (by kernel_rfl) ?_
    refine LC.plain rfl (fun K hK w' hw' => ?_)
    go_simp
    first | refine ⟨hw', hK _ ?_⟩ | refine hK _ ?_
    clear hK K
    clear hw' w'
    refine LC.plain rfl (fun K hK w' hw' => ?_)
    have q0 : w'.cell? ⟨w.heap.size, 0, none⟩ = some (.int .i64 v) := (HR.below hw' HR.lt).cell 0
    have q1 : w'.cell? ⟨w.heap.size, 1, none⟩ = some (.slice A1 n1 c1) := (HR.below hw' HR.lt).cell 1
    have q2 : w'.cell? ⟨w.heap.size, 2, none⟩ = some (.slice A2 n2 c2) := (HR.below hw' HR.lt).cell 2
    go_simp
    first | refine ⟨hw', hK _ ?_⟩ | refine hK _ ?_
    clear hK K
    clear q2 q1 q0
    clear hw' w'
    refine LC.plain rfl (fun K hK w' hw' => ?_)
    go_simp
    refine ⟨LC.call_gr hw' ?_, hK _ ?_⟩
    · first | (with_reducible exact within_b hv _) | (with_reducible exact within_b hn _) | (with_reducible exact size_b _ _)
    clear hK K
    clear hw' w'
    refine LC.plain rfl (fun K hK w' hw' => ?_)
    go_simp
    first | refine ⟨hw', hK _ ?_⟩ | refine hK _ ?_
    clear hK K
    clear hw' w'
    refine LC.plain rfl (fun K hK w' hw' => ?_)
    go_simp
    first | refine ⟨hw', hK _ ?_⟩ | refine hK _ ?_
    clear hK K
    clear hw' w'
    refine LC.want (by kernel_rfl) (fun K hK w' hw' => ?_)
    go_simp
    first | refine ⟨hw', hK _ ?_⟩ | refine hK _ ?_
    clear hK K
    clear hw' w'
    refine LC.want (by kernel_rfl) (fun K hK w' hw' => ?_)
    have q0 : w'.cell? ⟨w.heap.size, 0, none⟩ = some (.int .i64 v) := (HR.below hw' HR.lt).cell 0
    have q1 : w'.cell? ⟨w.heap.size, 1, none⟩ = some (.slice A1 n1 c1) := (HR.below hw' HR.lt).cell 1
    have q2 : w'.cell? ⟨w.heap.size, 2, none⟩ = some (.slice A2 n2 c2) := (HR.below hw' HR.lt).cell 2
    go_simp
    first | refine ⟨hw', hK _ ?_⟩ | refine hK _ ?_
    clear hK K
    clear q2 q1 q0
    clear hw' w'
    refine LC.want (by kernel_rfl) (fun K hK w' hw' => ?_)
    go_simp
    first | refine ⟨hw', hK _ ?_⟩ | refine hK _ ?_
    clear hK K
    clear hw' w'
    refine LC.want (by kernel_rfl) (fun K hK w' hw' => ?_)
    go_simp
    refine ⟨LC.call_gr hw' ?_, hK _ ?_⟩
    · first | (with_reducible exact within_b hv _) | (with_reducible exact within_b hn _) | (with_reducible exact size_b _ _)
    clear hK K
    clear hw' w'
    refine LC.want (by kernel_rfl) (fun K hK w' hw' => ?_)
    go_simp
    refine ⟨LC.call_gr hw' ?_, hK _ ?_⟩
    · first | (with_reducible exact within_b hv _) | (with_reducible exact within_b hn _) | (with_reducible exact size_b _ _)
    clear hK K
    clear hw' w'
    refine LC.want (by kernel_rfl) (fun K hK w' hw' => ?_)
    go_simp
    first | refine ⟨hw', hK _ ?_⟩ | refine hK _ ?_
    clear hK K
    clear hw' w'
    refine LC.plain rfl (fun K hK w' hw' => ?_)
    go_simp
    first | refine ⟨hw', hK _ ?_⟩ | refine hK _ ?_
    clear hK K
    clear hw' w'
    refine LC.plain rfl (fun K hK w' hw' => ?_)
    go_simp
    first | refine ⟨hw', hK _ ?_⟩ | refine hK _ ?_
    clear hK K
    clear hw' w'
    refine LC.skipK (by kernel_rfl) (fun K hK => ?_)
    go_simp
    refine hK _ ?_
    clear hK K
    refine LC.skipK (by kernel_rfl) (fun K hK => ?_)
    go_simp
    refine hK _ ?_
    clear hK K
    refine LC.skipK (by kernel_rfl) (fun K hK => ?_)
    go_simp
    refine hK _ ?_
    clear hK K
    refine LC.skipK (by kernel_rfl) (fun K hK => ?_)
    go_simp
    refine hK _ ?_
    clear hK K
    refine LC.skipK (by kernel_rfl) (fun K hK => ?_)
    go_simp
    refine hK _ ?_
    clear hK K
    refine LC.skipK (by kernel_rfl) (fun K hK => ?_)
    go_simp
    refine hK _ ?_
    clear hK K
    refine LC.skipK (by kernel_rfl) (fun K hK => ?_)
    go_simp
    refine hK _ ?_
    clear hK K
    refine LC.skipK (by kernel_rfl) (fun K hK => ?_)
    go_simp
    refine hK _ ?_
    clear hK K
    refine LC.skipK (by kernel_rfl) (fun K hK => ?_)
    go_simp
    refine hK _ ?_
    clear hK K
    refine LC.skipK (by kernel_rfl) (fun K hK => ?_)
    go_simp
    refine hK _ ?_
    clear hK K
    refine LC.skipK (by kernel_rfl) (fun K hK => ?_)
    go_simp
    refine hK _ ?_
    clear hK K
    refine LC.plain rfl (fun K hK w' hw' => ?_)
    go_simp
    first | refine ⟨hw', hK _ ?_⟩ | refine hK _ ?_
    clear hK K
    clear hw' w'
    refine LC.plain rfl (fun K hK w' hw' => ?_)
    go_simp
    first | refine ⟨hw', hK _ ?_⟩ | refine hK _ ?_
    clear hK K
    clear hw' w'
    refine LC.skipK (by kernel_rfl) (fun K hK => ?_)
    go_simp
    refine hK _ ?_
    clear hK K
    refine LC.skipK (by kernel_rfl) (fun K hK => ?_)
    go_simp
    refine hK _ ?_
    clear hK K
    refine LC.skipK (by kernel_rfl) (fun K hK => ?_)
    go_simp
    refine hK _ ?_
    clear hK K
    refine LC.skipK (by kernel_rfl) (fun K hK => ?_)
    go_simp
    refine hK _ ?_
    clear hK K
    refine LC.plain rfl (fun K hK w' hw' => ?_)
    go_simp
    first | refine ⟨hw', hK _ ?_⟩ | refine hK _ ?_
    clear hK K
    clear hw' w'
    refine LC.nil ?_
    intro wq hwq
    replace HB := HB.trans (show Below _ _ _ from hwq.mono HB.size)
    go_wp2_with fail
    go_ret
    exact ⟨by rw [H.out]; rfl, HB⟩
  have v2 := inR_of hn
  have hp := prod9 (n := n2) v1.1 v1.2 (by omega)
  have hpc : (v + (n2 : Int) + 1) * ((n2 : Int) + 1) = ((n2 : Int) + 1) * (v + n2 + 1) := Int.mul_comm _ _
  rw [← hpc] at hp
  obtain ⟨hp1, hp2⟩ := hp
  have hw1 : IntKind.i64.wrap ((n2 : Int) + 1) = (n2 : Int) + 1 := IntWalk.i64_in _ (by omega)
  have hw2 : IntKind.i64.wrap ((v + (n2 : Int) + 1) * ((n2 : Int) + 1)) = (v + (n2 : Int) + 1) * ((n2 : Int) + 1) := IntWalk.i64_in _ (by omega)
  by_cases he : (n1 : Int) = ((n2 : Int) + 1) * (v + n2 + 1)
  rotate_left
  · have H : Hid (tableV v n1 n2 N S = false) := by
      show _ = _
      unfold tableV
      rw [decide_eq_false (fun h => he h.2.2.2.2)]; rfl
    have hd : ((n1 : Int) != (v + (n2 : Int) + 1) * ((n2 : Int) + 1)) = true := by rw [hpc]; simpa using he
    obtain ⟨U, uvu, unu, usu, uwu⟩ : ∃ U : FuncId → Array Value → Value, U 73 #[.int .i64 v, .int .i64 1, .int .i64 8] = .bool true ∧ U 73 #[.int .i64 (n2 : Int), .int .i64 1, .int .i64 8] = .bool true ∧ U 74 #[.int .i64 (n2 : Int)] = .int .i64 (n2 : Int) ∧ U 82 #[.agg #[.int .i64 v, .slice A1 n1 c1, .slice A2 n2 c2]] = .int .i64 (v + n2 + 1) := ⟨fun f args => if f = 73 then .bool (inArgs args) else if f = 74 then args.getD 0 undef else if f = 82 then .int .i64 (v + n2 + 1) else .bool (allA (finA .f32) N), congrArg Value.bool hv, congrArg Value.bool hn, rfl, rfl⟩
    clear hpc he
    obtain ⟨v1, v1'⟩ := v1
    go_enter Try.func39, Try.ntmps39
    go_wp2_with fail
    rw [← HW1.out]
    refine LC.wp_region W1 U (Below.refl _ _) (by kernel_rfl) (by kernel_rfl) ?_
    refine LC.plain rfl (fun K hK w' hw' => ?_)
    go_simp
    first | refine ⟨hw', hK _ ?_⟩ | refine hK _ ?_
    clear hK K
    clear hw' w'
    refine LC.plain rfl (fun K hK w' hw' => ?_)
    have q0 : w'.cell? ⟨w.heap.size, 0, none⟩ = some (.int .i64 v) := (HR.below hw' HR.lt).cell 0
    have q1 : w'.cell? ⟨w.heap.size, 1, none⟩ = some (.slice A1 n1 c1) := (HR.below hw' HR.lt).cell 1
    have q2 : w'.cell? ⟨w.heap.size, 2, none⟩ = some (.slice A2 n2 c2) := (HR.below hw' HR.lt).cell 2
    go_simp
    first | refine ⟨hw', hK _ ?_⟩ | refine hK _ ?_
    clear hK K
    clear q2 q1 q0
    clear hw' w'
    refine LC.plain rfl (fun K hK w' hw' => ?_)
    go_simp
    refine ⟨LC.call_gr hw' ?_, hK _ ?_⟩
    · first | (with_reducible exact within_b hv _) | (with_reducible exact within_b hn _) | (with_reducible exact size_b _ _) | (with_reducible exact wide_any v A1 A2 n1 n2 c1 c2 _ (by omega) (by omega) b2)
    clear hK K
    clear hw' w'
    refine LC.plain rfl (fun K hK w' hw' => ?_)
    go_simp
    first | refine ⟨hw', hK _ ?_⟩ | refine hK _ ?_
    clear hK K
    clear hw' w'
    refine LC.plain rfl (fun K hK w' hw' => ?_)
    go_simp
    first | refine ⟨hw', hK _ ?_⟩ | refine hK _ ?_
    clear hK K
    clear hw' w'
    refine LC.want (by kernel_rfl) (fun K hK w' hw' => ?_)
    go_simp
    first | refine ⟨hw', hK _ ?_⟩ | refine hK _ ?_
    clear hK K
    clear hw' w'
    refine LC.want (by kernel_rfl) (fun K hK w' hw' => ?_)
    have q0 : w'.cell? ⟨w.heap.size, 0, none⟩ = some (.int .i64 v) := (HR.below hw' HR.lt).cell 0
    have q1 : w'.cell? ⟨w.heap.size, 1, none⟩ = some (.slice A1 n1 c1) := (HR.below hw' HR.lt).cell 1
    have q2 : w'.cell? ⟨w.heap.size, 2, none⟩ = some (.slice A2 n2 c2) := (HR.below hw' HR.lt).cell 2
    go_simp
    first | refine ⟨hw', hK _ ?_⟩ | refine hK _ ?_
    clear hK K
    clear q2 q1 q0
    clear hw' w'
    refine LC.want (by kernel_rfl) (fun K hK w' hw' => ?_)
    go_simp
    first | refine ⟨hw', hK _ ?_⟩ | refine hK _ ?_
    clear hK K
    clear hw' w'
    refine LC.want (by kernel_rfl) (fun K hK w' hw' => ?_)
    go_simp
    refine ⟨LC.call_gr hw' ?_, hK _ ?_⟩
    · first | (with_reducible exact within_b hv _) | (with_reducible exact within_b hn _) | (with_reducible exact size_b _ _) | (with_reducible exact wide_any v A1 A2 n1 n2 c1 c2 _ (by omega) (by omega) b2)
    clear hK K
    clear hw' w'
    refine LC.want (by kernel_rfl) (fun K hK w' hw' => ?_)
    go_simp
    refine ⟨LC.call_gr hw' ?_, hK _ ?_⟩
    · first | (with_reducible exact within_b hv _) | (with_reducible exact within_b hn _) | (with_reducible exact size_b _ _) | (with_reducible exact wide_any v A1 A2 n1 n2 c1 c2 _ (by omega) (by omega) b2)
    clear hK K
    clear hw' w'
    refine LC.want (by kernel_rfl) (fun K hK w' hw' => ?_)
    go_simp
    first | refine ⟨hw', hK _ ?_⟩ | refine hK _ ?_
    clear hK K
    clear hw' w'
    refine LC.plain rfl (fun K hK w' hw' => ?_)
    go_simp
    first | refine ⟨hw', hK _ ?_⟩ | refine hK _ ?_
    clear hK K
    clear hw' w'
    refine LC.plain rfl (fun K hK w' hw' => ?_)
    go_simp
    first | refine ⟨hw', hK _ ?_⟩ | refine hK _ ?_
    clear hK K
    clear hw' w'
    refine LC.want (by kernel_rfl) (fun K hK w' hw' => ?_)
    go_simp
    first | refine ⟨hw', hK _ ?_⟩ | refine hK _ ?_
    clear hK K
    clear hw' w'
    refine LC.want (by kernel_rfl) (fun K hK w' hw' => ?_)
    have q0 : w'.cell? ⟨w.heap.size, 0, none⟩ = some (.int .i64 v) := (HR.below hw' HR.lt).cell 0
    have q1 : w'.cell? ⟨w.heap.size, 1, none⟩ = some (.slice A1 n1 c1) := (HR.below hw' HR.lt).cell 1
    have q2 : w'.cell? ⟨w.heap.size, 2, none⟩ = some (.slice A2 n2 c2) := (HR.below hw' HR.lt).cell 2
    go_simp
    first | refine ⟨hw', hK _ ?_⟩ | refine hK _ ?_
    clear hK K
    clear q2 q1 q0
    clear hw' w'
    refine LC.want (by kernel_rfl) (fun K hK w' hw' => ?_)
    go_simp
    first | refine ⟨hw', hK _ ?_⟩ | refine hK _ ?_
    clear hK K
    clear hw' w'
    refine LC.want (by kernel_rfl) (fun K hK w' hw' => ?_)
    have q0 : w'.cell? ⟨w.heap.size, 0, none⟩ = some (.int .i64 v) := (HR.below hw' HR.lt).cell 0
    have q1 : w'.cell? ⟨w.heap.size, 1, none⟩ = some (.slice A1 n1 c1) := (HR.below hw' HR.lt).cell 1
    have q2 : w'.cell? ⟨w.heap.size, 2, none⟩ = some (.slice A2 n2 c2) := (HR.below hw' HR.lt).cell 2
    go_simp
    first | refine ⟨hw', hK _ ?_⟩ | refine hK _ ?_
    clear hK K
    clear q2 q1 q0
    clear hw' w'
    refine LC.want (by kernel_rfl) (fun K hK w' hw' => ?_)
    go_simp
    refine ⟨LC.call_gr hw' ?_, hK _ ?_⟩
    · first | (with_reducible exact within_b hv _) | (with_reducible exact within_b hn _) | (with_reducible exact size_b _ _) | (with_reducible exact wide_any v A1 A2 n1 n2 c1 c2 _ (by omega) (by omega) b2)
    clear hK K
    clear hw' w'
    refine LC.want (by kernel_rfl) (fun K hK w' hw' => ?_)
    go_simp
    first | refine ⟨hw', hK _ ?_⟩ | refine hK _ ?_
    clear hK K
    clear hw' w'
    refine LC.want (by kernel_rfl) (fun K hK w' hw' => ?_)
    have q0 : w'.cell? ⟨w.heap.size, 0, none⟩ = some (.int .i64 v) := (HR.below hw' HR.lt).cell 0
    have q1 : w'.cell? ⟨w.heap.size, 1, none⟩ = some (.slice A1 n1 c1) := (HR.below hw' HR.lt).cell 1
    have q2 : w'.cell? ⟨w.heap.size, 2, none⟩ = some (.slice A2 n2 c2) := (HR.below hw' HR.lt).cell 2
    go_simp
    first | refine ⟨hw', hK _ ?_⟩ | refine hK _ ?_
    clear hK K
    clear q2 q1 q0
    clear hw' w'
    refine LC.want (by kernel_rfl) (fun K hK w' hw' => ?_)
    go_simp
    first | refine ⟨hw', hK _ ?_⟩ | refine hK _ ?_
    clear hK K
    clear hw' w'
    refine LC.want (by kernel_rfl) (fun K hK w' hw' => ?_)
    go_simp
    first | refine ⟨hw', hK _ ?_⟩ | refine hK _ ?_
    clear hK K
    clear hw' w'
    refine LC.want (by kernel_rfl) (fun K hK w' hw' => ?_)
    go_simp
    first | refine ⟨hw', hK _ ?_⟩ | refine hK _ ?_
    clear hK K
    clear hw' w'
    refine LC.want (by kernel_rfl) (fun K hK w' hw' => ?_)
    go_simp
    first | refine ⟨hw', hK _ ?_⟩ | refine hK _ ?_
    clear hK K
    clear hw' w'
    refine LC.plain rfl (fun K hK w' hw' => ?_)
    go_simp
    first | refine ⟨hw', hK _ ?_⟩ | refine hK _ ?_
    clear hK K
    clear hw' w'
    refine LC.plain rfl (fun K hK w' hw' => ?_)
    go_simp
    first | refine ⟨hw', hK _ ?_⟩ | refine hK _ ?_
    clear hK K
    clear hw' w'
    refine LC.skipK (by kernel_rfl) (fun K hK => ?_)
    go_simp
    refine hK _ ?_
    clear hK K
    refine LC.skipK (by kernel_rfl) (fun K hK => ?_)
    go_simp
    refine hK _ ?_
    clear hK K
    refine LC.skipK (by kernel_rfl) (fun K hK => ?_)
    go_simp
    refine hK _ ?_
    clear hK K
    refine LC.skipK (by kernel_rfl) (fun K hK => ?_)
    go_simp
    refine hK _ ?_
    clear hK K
    refine LC.plain rfl (fun K hK w' hw' => ?_)
    go_simp
    first | refine ⟨hw', hK _ ?_⟩ | refine hK _ ?_
    clear hK K
    clear hw' w'
    refine LC.nil ?_
    intro wq hwq
    replace HB := HB.trans (show Below _ _ _ from hwq.mono HB.size)
    go_wp2_with fail
    go_ret
    exact ⟨by rw [H.out]; rfl, HB⟩
  have hd : ((n1 : Int) != (v + (n2 : Int) + 1) * ((n2 : Int) + 1)) = false := by rw [hpc]; simpa using he
  cases hN : allA (finA .f32) N
  · have H : Hid (tableV v n1 n2 N S = false) := by
      show _ = _
      unfold tableV
      rw [hN, Bool.false_and, Bool.and_false]
    obtain ⟨U, uvu, unu, usu, uwu, ufu⟩ : ∃ U : FuncId → Array Value → Value, U 73 #[.int .i64 v, .int .i64 1, .int .i64 8] = .bool true ∧ U 73 #[.int .i64 (n2 : Int), .int .i64 1, .int .i64 8] = .bool true ∧ U 74 #[.int .i64 (n2 : Int)] = .int .i64 (n2 : Int) ∧ U 82 #[.agg #[.int .i64 v, .slice A1 n1 c1, .slice A2 n2 c2]] = .int .i64 (v + n2 + 1) ∧ U 75 #[.slice A1 n1 c1] = .bool false := ⟨fun f args => if f = 73 then .bool (inArgs args) else if f = 74 then args.getD 0 undef else if f = 82 then .int .i64 (v + n2 + 1) else .bool (allA (finA .f32) N), congrArg Value.bool hv, congrArg Value.bool hn, rfl, rfl, congrArg Value.bool hN⟩
    clear hpc he
    obtain ⟨v1, v1'⟩ := v1
    go_enter Try.func39, Try.ntmps39
    go_wp2_with fail
    rw [← HW1.out]
    refine LC.wp_region W1 U (Below.refl _ _) (by kernel_rfl) (by kernel_rfl) ?_
    refine LC.plain rfl (fun K hK w' hw' => ?_)
    go_simp
    first | refine ⟨hw', hK _ ?_⟩ | refine hK _ ?_
    clear hK K
    clear hw' w'
    refine LC.plain rfl (fun K hK w' hw' => ?_)
    have q0 : w'.cell? ⟨w.heap.size, 0, none⟩ = some (.int .i64 v) := (HR.below hw' HR.lt).cell 0
    have q1 : w'.cell? ⟨w.heap.size, 1, none⟩ = some (.slice A1 n1 c1) := (HR.below hw' HR.lt).cell 1
    have q2 : w'.cell? ⟨w.heap.size, 2, none⟩ = some (.slice A2 n2 c2) := (HR.below hw' HR.lt).cell 2
    go_simp
    first | refine ⟨hw', hK _ ?_⟩ | refine hK _ ?_
    clear hK K
    clear q2 q1 q0
    clear hw' w'
    refine LC.plain rfl (fun K hK w' hw' => ?_)
    go_simp
    refine ⟨LC.call_gr hw' ?_, hK _ ?_⟩
    · first | (with_reducible exact within_b hv _) | (with_reducible exact within_b hn _) | (with_reducible exact size_b _ _) | (with_reducible exact wide_any v A1 A2 n1 n2 c1 c2 _ (by omega) (by omega) b2) | (with_reducible exact areFinite_b (k1.below (LC.gr hw')) b1 hN)
    clear hK K
    clear hw' w'
    refine LC.plain rfl (fun K hK w' hw' => ?_)
    go_simp
    first | refine ⟨hw', hK _ ?_⟩ | refine hK _ ?_
    clear hK K
    clear hw' w'
    refine LC.plain rfl (fun K hK w' hw' => ?_)
    go_simp
    first | refine ⟨hw', hK _ ?_⟩ | refine hK _ ?_
    clear hK K
    clear hw' w'
    refine LC.want (by kernel_rfl) (fun K hK w' hw' => ?_)
    go_simp
    first | refine ⟨hw', hK _ ?_⟩ | refine hK _ ?_
    clear hK K
    clear hw' w'
    refine LC.want (by kernel_rfl) (fun K hK w' hw' => ?_)
    have q0 : w'.cell? ⟨w.heap.size, 0, none⟩ = some (.int .i64 v) := (HR.below hw' HR.lt).cell 0
    have q1 : w'.cell? ⟨w.heap.size, 1, none⟩ = some (.slice A1 n1 c1) := (HR.below hw' HR.lt).cell 1
    have q2 : w'.cell? ⟨w.heap.size, 2, none⟩ = some (.slice A2 n2 c2) := (HR.below hw' HR.lt).cell 2
    go_simp
    first | refine ⟨hw', hK _ ?_⟩ | refine hK _ ?_
    clear hK K
    clear q2 q1 q0
    clear hw' w'
    refine LC.want (by kernel_rfl) (fun K hK w' hw' => ?_)
    go_simp
    first | refine ⟨hw', hK _ ?_⟩ | refine hK _ ?_
    clear hK K
    clear hw' w'
    refine LC.want (by kernel_rfl) (fun K hK w' hw' => ?_)
    go_simp
    refine ⟨LC.call_gr hw' ?_, hK _ ?_⟩
    · first | (with_reducible exact within_b hv _) | (with_reducible exact within_b hn _) | (with_reducible exact size_b _ _) | (with_reducible exact wide_any v A1 A2 n1 n2 c1 c2 _ (by omega) (by omega) b2) | (with_reducible exact areFinite_b (k1.below (LC.gr hw')) b1 hN)
    clear hK K
    clear hw' w'
    refine LC.want (by kernel_rfl) (fun K hK w' hw' => ?_)
    go_simp
    refine ⟨LC.call_gr hw' ?_, hK _ ?_⟩
    · first | (with_reducible exact within_b hv _) | (with_reducible exact within_b hn _) | (with_reducible exact size_b _ _) | (with_reducible exact wide_any v A1 A2 n1 n2 c1 c2 _ (by omega) (by omega) b2) | (with_reducible exact areFinite_b (k1.below (LC.gr hw')) b1 hN)
    clear hK K
    clear hw' w'
    refine LC.want (by kernel_rfl) (fun K hK w' hw' => ?_)
    go_simp
    first | refine ⟨hw', hK _ ?_⟩ | refine hK _ ?_
    clear hK K
    clear hw' w'
    refine LC.plain rfl (fun K hK w' hw' => ?_)
    go_simp
    first | refine ⟨hw', hK _ ?_⟩ | refine hK _ ?_
    clear hK K
    clear hw' w'
    refine LC.plain rfl (fun K hK w' hw' => ?_)
    go_simp
    first | refine ⟨hw', hK _ ?_⟩ | refine hK _ ?_
    clear hK K
    clear hw' w'
    refine LC.want (by kernel_rfl) (fun K hK w' hw' => ?_)
    go_simp
    first | refine ⟨hw', hK _ ?_⟩ | refine hK _ ?_
    clear hK K
    clear hw' w'
    refine LC.want (by kernel_rfl) (fun K hK w' hw' => ?_)
    have q0 : w'.cell? ⟨w.heap.size, 0, none⟩ = some (.int .i64 v) := (HR.below hw' HR.lt).cell 0
    have q1 : w'.cell? ⟨w.heap.size, 1, none⟩ = some (.slice A1 n1 c1) := (HR.below hw' HR.lt).cell 1
    have q2 : w'.cell? ⟨w.heap.size, 2, none⟩ = some (.slice A2 n2 c2) := (HR.below hw' HR.lt).cell 2
    go_simp
    first | refine ⟨hw', hK _ ?_⟩ | refine hK _ ?_
    clear hK K
    clear q2 q1 q0
    clear hw' w'
    refine LC.want (by kernel_rfl) (fun K hK w' hw' => ?_)
    go_simp
    first | refine ⟨hw', hK _ ?_⟩ | refine hK _ ?_
    clear hK K
    clear hw' w'
    refine LC.want (by kernel_rfl) (fun K hK w' hw' => ?_)
    have q0 : w'.cell? ⟨w.heap.size, 0, none⟩ = some (.int .i64 v) := (HR.below hw' HR.lt).cell 0
    have q1 : w'.cell? ⟨w.heap.size, 1, none⟩ = some (.slice A1 n1 c1) := (HR.below hw' HR.lt).cell 1
    have q2 : w'.cell? ⟨w.heap.size, 2, none⟩ = some (.slice A2 n2 c2) := (HR.below hw' HR.lt).cell 2
    go_simp
    first | refine ⟨hw', hK _ ?_⟩ | refine hK _ ?_
    clear hK K
    clear q2 q1 q0
    clear hw' w'
    refine LC.want (by kernel_rfl) (fun K hK w' hw' => ?_)
    go_simp
    refine ⟨LC.call_gr hw' ?_, hK _ ?_⟩
    · first | (with_reducible exact within_b hv _) | (with_reducible exact within_b hn _) | (with_reducible exact size_b _ _) | (with_reducible exact wide_any v A1 A2 n1 n2 c1 c2 _ (by omega) (by omega) b2) | (with_reducible exact areFinite_b (k1.below (LC.gr hw')) b1 hN)
    clear hK K
    clear hw' w'
    refine LC.want (by kernel_rfl) (fun K hK w' hw' => ?_)
    go_simp
    first | refine ⟨hw', hK _ ?_⟩ | refine hK _ ?_
    clear hK K
    clear hw' w'
    refine LC.want (by kernel_rfl) (fun K hK w' hw' => ?_)
    have q0 : w'.cell? ⟨w.heap.size, 0, none⟩ = some (.int .i64 v) := (HR.below hw' HR.lt).cell 0
    have q1 : w'.cell? ⟨w.heap.size, 1, none⟩ = some (.slice A1 n1 c1) := (HR.below hw' HR.lt).cell 1
    have q2 : w'.cell? ⟨w.heap.size, 2, none⟩ = some (.slice A2 n2 c2) := (HR.below hw' HR.lt).cell 2
    go_simp
    first | refine ⟨hw', hK _ ?_⟩ | refine hK _ ?_
    clear hK K
    clear q2 q1 q0
    clear hw' w'
    refine LC.want (by kernel_rfl) (fun K hK w' hw' => ?_)
    go_simp
    first | refine ⟨hw', hK _ ?_⟩ | refine hK _ ?_
    clear hK K
    clear hw' w'
    refine LC.want (by kernel_rfl) (fun K hK w' hw' => ?_)
    go_simp
    first | refine ⟨hw', hK _ ?_⟩ | refine hK _ ?_
    clear hK K
    clear hw' w'
    refine LC.want (by kernel_rfl) (fun K hK w' hw' => ?_)
    go_simp
    first | refine ⟨hw', hK _ ?_⟩ | refine hK _ ?_
    clear hK K
    clear hw' w'
    refine LC.want (by kernel_rfl) (fun K hK w' hw' => ?_)
    go_simp
    first | refine ⟨hw', hK _ ?_⟩ | refine hK _ ?_
    clear hK K
    clear hw' w'
    refine LC.plain rfl (fun K hK w' hw' => ?_)
    go_simp
    first | refine ⟨hw', hK _ ?_⟩ | refine hK _ ?_
    clear hK K
    clear hw' w'
    refine LC.plain rfl (fun K hK w' hw' => ?_)
    go_simp
    first | refine ⟨hw', hK _ ?_⟩ | refine hK _ ?_
    clear hK K
    clear hw' w'
    refine LC.want (by kernel_rfl) (fun K hK w' hw' => ?_)
    go_simp
    first | refine ⟨hw', hK _ ?_⟩ | refine hK _ ?_
    clear hK K
    clear hw' w'
    refine LC.want (by kernel_rfl) (fun K hK w' hw' => ?_)
    have q0 : w'.cell? ⟨w.heap.size, 0, none⟩ = some (.int .i64 v) := (HR.below hw' HR.lt).cell 0
    have q1 : w'.cell? ⟨w.heap.size, 1, none⟩ = some (.slice A1 n1 c1) := (HR.below hw' HR.lt).cell 1
    have q2 : w'.cell? ⟨w.heap.size, 2, none⟩ = some (.slice A2 n2 c2) := (HR.below hw' HR.lt).cell 2
    go_simp
    first | refine ⟨hw', hK _ ?_⟩ | refine hK _ ?_
    clear hK K
    clear q2 q1 q0
    clear hw' w'
    refine LC.want (by kernel_rfl) (fun K hK w' hw' => ?_)
    go_simp
    refine ⟨LC.call_gr hw' ?_, hK _ ?_⟩
    · first | (with_reducible exact within_b hv _) | (with_reducible exact within_b hn _) | (with_reducible exact size_b _ _) | (with_reducible exact wide_any v A1 A2 n1 n2 c1 c2 _ (by omega) (by omega) b2) | (with_reducible exact areFinite_b (k1.below (LC.gr hw')) b1 hN)
    clear hK K
    clear hw' w'
    refine LC.want (by kernel_rfl) (fun K hK w' hw' => ?_)
    go_simp
    first | refine ⟨hw', hK _ ?_⟩ | refine hK _ ?_
    clear hK K
    clear hw' w'
    refine LC.plain rfl (fun K hK w' hw' => ?_)
    go_simp
    first | refine ⟨hw', hK _ ?_⟩ | refine hK _ ?_
    clear hK K
    clear hw' w'
    refine LC.nil ?_
    intro wq hwq
    replace HB := HB.trans (show Below _ _ _ from hwq.mono HB.size)
    go_wp2_with fail
    go_ret
    exact ⟨by rw [H.out]; rfl, HB⟩
  have H : Hid (tableV v n1 n2 N S = baseAll v n2 S n2) := by
    show _ = _
    unfold tableV
    rw [decide_eq_true (show ShapeT v n1 n2 from ⟨v1.1, v1.2, by omega, by omega, he⟩), hN, Bool.true_and, Bool.true_and]
  obtain ⟨U, uvu, unu, usu, uwu, ufu⟩ : ∃ U : FuncId → Array Value → Value, U 73 #[.int .i64 v, .int .i64 1, .int .i64 8] = .bool true ∧ U 73 #[.int .i64 (n2 : Int), .int .i64 1, .int .i64 8] = .bool true ∧ U 74 #[.int .i64 (n2 : Int)] = .int .i64 (n2 : Int) ∧ U 82 #[.agg #[.int .i64 v, .slice A1 n1 c1, .slice A2 n2 c2]] = .int .i64 (v + n2 + 1) ∧ U 75 #[.slice A1 n1 c1] = .bool true := ⟨fun f args => if f = 73 then .bool (inArgs args) else if f = 74 then args.getD 0 undef else if f = 82 then .int .i64 (v + n2 + 1) else .bool (allA (finA .f32) N), congrArg Value.bool hv, congrArg Value.bool hn, rfl, rfl, congrArg Value.bool hN⟩
  clear hpc he
  obtain ⟨v1, v1'⟩ := v1
  have hL := k2.1
  go_enter Try.func39, Try.ntmps39
  go_wp2_with fail
  rw [← HW1.out]
  refine LC.wp_region W1 U (Below.refl _ _) (by kernel_rfl) (by kernel_rfl) ?_
  refine LC.plain rfl (fun K hK w' hw' => ?_)
  go_simp
  first | refine ⟨hw', hK _ ?_⟩ | refine hK _ ?_
  clear hK K
  clear hw' w'
  refine LC.plain rfl (fun K hK w' hw' => ?_)
  have q0 : w'.cell? ⟨w.heap.size, 0, none⟩ = some (.int .i64 v) := (HR.below hw' HR.lt).cell 0
  have q1 : w'.cell? ⟨w.heap.size, 1, none⟩ = some (.slice A1 n1 c1) := (HR.below hw' HR.lt).cell 1
  have q2 : w'.cell? ⟨w.heap.size, 2, none⟩ = some (.slice A2 n2 c2) := (HR.below hw' HR.lt).cell 2
  go_simp
  first | refine ⟨hw', hK _ ?_⟩ | refine hK _ ?_
  clear hK K
  clear q2 q1 q0
  clear hw' w'
  refine LC.plain rfl (fun K hK w' hw' => ?_)
  go_simp
  refine ⟨LC.call_gr hw' ?_, hK _ ?_⟩
  · first | (with_reducible exact within_b hv _) | (with_reducible exact within_b hn _) | (with_reducible exact size_b _ _) | (with_reducible exact wide_any v A1 A2 n1 n2 c1 c2 _ (by omega) (by omega) b2) | (with_reducible exact areFinite_b (k1.below (LC.gr hw')) b1 hN)
  clear hK K
  clear hw' w'
  refine LC.plain rfl (fun K hK w' hw' => ?_)
  go_simp
  first | refine ⟨hw', hK _ ?_⟩ | refine hK _ ?_
  clear hK K
  clear hw' w'
  refine LC.plain rfl (fun K hK w' hw' => ?_)
  go_simp
  first | refine ⟨hw', hK _ ?_⟩ | refine hK _ ?_
  clear hK K
  clear hw' w'
  refine LC.want (by kernel_rfl) (fun K hK w' hw' => ?_)
  go_simp
  first | refine ⟨hw', hK _ ?_⟩ | refine hK _ ?_
  clear hK K
  clear hw' w'
  refine LC.want (by kernel_rfl) (fun K hK w' hw' => ?_)
  have q0 : w'.cell? ⟨w.heap.size, 0, none⟩ = some (.int .i64 v) := (HR.below hw' HR.lt).cell 0
  have q1 : w'.cell? ⟨w.heap.size, 1, none⟩ = some (.slice A1 n1 c1) := (HR.below hw' HR.lt).cell 1
  have q2 : w'.cell? ⟨w.heap.size, 2, none⟩ = some (.slice A2 n2 c2) := (HR.below hw' HR.lt).cell 2
  go_simp
  first | refine ⟨hw', hK _ ?_⟩ | refine hK _ ?_
  clear hK K
  clear q2 q1 q0
  clear hw' w'
  refine LC.want (by kernel_rfl) (fun K hK w' hw' => ?_)
  go_simp
  first | refine ⟨hw', hK _ ?_⟩ | refine hK _ ?_
  clear hK K
  clear hw' w'
  refine LC.want (by kernel_rfl) (fun K hK w' hw' => ?_)
  go_simp
  refine ⟨LC.call_gr hw' ?_, hK _ ?_⟩
  · first | (with_reducible exact within_b hv _) | (with_reducible exact within_b hn _) | (with_reducible exact size_b _ _) | (with_reducible exact wide_any v A1 A2 n1 n2 c1 c2 _ (by omega) (by omega) b2) | (with_reducible exact areFinite_b (k1.below (LC.gr hw')) b1 hN)
  clear hK K
  clear hw' w'
  refine LC.want (by kernel_rfl) (fun K hK w' hw' => ?_)
  go_simp
  refine ⟨LC.call_gr hw' ?_, hK _ ?_⟩
  · first | (with_reducible exact within_b hv _) | (with_reducible exact within_b hn _) | (with_reducible exact size_b _ _) | (with_reducible exact wide_any v A1 A2 n1 n2 c1 c2 _ (by omega) (by omega) b2) | (with_reducible exact areFinite_b (k1.below (LC.gr hw')) b1 hN)
  clear hK K
  clear hw' w'
  refine LC.want (by kernel_rfl) (fun K hK w' hw' => ?_)
  go_simp
  first | refine ⟨hw', hK _ ?_⟩ | refine hK _ ?_
  clear hK K
  clear hw' w'
  refine LC.plain rfl (fun K hK w' hw' => ?_)
  go_simp
  first | refine ⟨hw', hK _ ?_⟩ | refine hK _ ?_
  clear hK K
  clear hw' w'
  refine LC.plain rfl (fun K hK w' hw' => ?_)
  go_simp
  first | refine ⟨hw', hK _ ?_⟩ | refine hK _ ?_
  clear hK K
  clear hw' w'
  refine LC.want (by kernel_rfl) (fun K hK w' hw' => ?_)
  go_simp
  first | refine ⟨hw', hK _ ?_⟩ | refine hK _ ?_
  clear hK K
  clear hw' w'
  refine LC.want (by kernel_rfl) (fun K hK w' hw' => ?_)
  have q0 : w'.cell? ⟨w.heap.size, 0, none⟩ = some (.int .i64 v) := (HR.below hw' HR.lt).cell 0
  have q1 : w'.cell? ⟨w.heap.size, 1, none⟩ = some (.slice A1 n1 c1) := (HR.below hw' HR.lt).cell 1
  have q2 : w'.cell? ⟨w.heap.size, 2, none⟩ = some (.slice A2 n2 c2) := (HR.below hw' HR.lt).cell 2
  go_simp
  first | refine ⟨hw', hK _ ?_⟩ | refine hK _ ?_
  clear hK K
  clear q2 q1 q0
  clear hw' w'
  refine LC.want (by kernel_rfl) (fun K hK w' hw' => ?_)
  go_simp
  first | refine ⟨hw', hK _ ?_⟩ | refine hK _ ?_
  clear hK K
  clear hw' w'
  refine LC.want (by kernel_rfl) (fun K hK w' hw' => ?_)
  have q0 : w'.cell? ⟨w.heap.size, 0, none⟩ = some (.int .i64 v) := (HR.below hw' HR.lt).cell 0
  have q1 : w'.cell? ⟨w.heap.size, 1, none⟩ = some (.slice A1 n1 c1) := (HR.below hw' HR.lt).cell 1
  have q2 : w'.cell? ⟨w.heap.size, 2, none⟩ = some (.slice A2 n2 c2) := (HR.below hw' HR.lt).cell 2
  go_simp
  first | refine ⟨hw', hK _ ?_⟩ | refine hK _ ?_
  clear hK K
  clear q2 q1 q0
  clear hw' w'
  refine LC.want (by kernel_rfl) (fun K hK w' hw' => ?_)
  go_simp
  refine ⟨LC.call_gr hw' ?_, hK _ ?_⟩
  · first | (with_reducible exact within_b hv _) | (with_reducible exact within_b hn _) | (with_reducible exact size_b _ _) | (with_reducible exact wide_any v A1 A2 n1 n2 c1 c2 _ (by omega) (by omega) b2) | (with_reducible exact areFinite_b (k1.below (LC.gr hw')) b1 hN)
  clear hK K
  clear hw' w'
  refine LC.want (by kernel_rfl) (fun K hK w' hw' => ?_)
  go_simp
  first | refine ⟨hw', hK _ ?_⟩ | refine hK _ ?_
  clear hK K
  clear hw' w'
  refine LC.want (by kernel_rfl) (fun K hK w' hw' => ?_)
  have q0 : w'.cell? ⟨w.heap.size, 0, none⟩ = some (.int .i64 v) := (HR.below hw' HR.lt).cell 0
  have q1 : w'.cell? ⟨w.heap.size, 1, none⟩ = some (.slice A1 n1 c1) := (HR.below hw' HR.lt).cell 1
  have q2 : w'.cell? ⟨w.heap.size, 2, none⟩ = some (.slice A2 n2 c2) := (HR.below hw' HR.lt).cell 2
  go_simp
  first | refine ⟨hw', hK _ ?_⟩ | refine hK _ ?_
  clear hK K
  clear q2 q1 q0
  clear hw' w'
  refine LC.want (by kernel_rfl) (fun K hK w' hw' => ?_)
  go_simp
  first | refine ⟨hw', hK _ ?_⟩ | refine hK _ ?_
  clear hK K
  clear hw' w'
  refine LC.want (by kernel_rfl) (fun K hK w' hw' => ?_)
  go_simp
  first | refine ⟨hw', hK _ ?_⟩ | refine hK _ ?_
  clear hK K
  clear hw' w'
  refine LC.want (by kernel_rfl) (fun K hK w' hw' => ?_)
  go_simp
  first | refine ⟨hw', hK _ ?_⟩ | refine hK _ ?_
  clear hK K
  clear hw' w'
  refine LC.want (by kernel_rfl) (fun K hK w' hw' => ?_)
  go_simp
  first | refine ⟨hw', hK _ ?_⟩ | refine hK _ ?_
  clear hK K
  clear hw' w'
  refine LC.plain rfl (fun K hK w' hw' => ?_)
  go_simp
  first | refine ⟨hw', hK _ ?_⟩ | refine hK _ ?_
  clear hK K
  clear hw' w'
  refine LC.plain rfl (fun K hK w' hw' => ?_)
  go_simp
  first | refine ⟨hw', hK _ ?_⟩ | refine hK _ ?_
  clear hK K
  clear hw' w'
  refine LC.want (by kernel_rfl) (fun K hK w' hw' => ?_)
  go_simp
  first | refine ⟨hw', hK _ ?_⟩ | refine hK _ ?_
  clear hK K
  clear hw' w'
  refine LC.want (by kernel_rfl) (fun K hK w' hw' => ?_)
  have q0 : w'.cell? ⟨w.heap.size, 0, none⟩ = some (.int .i64 v) := (HR.below hw' HR.lt).cell 0
  have q1 : w'.cell? ⟨w.heap.size, 1, none⟩ = some (.slice A1 n1 c1) := (HR.below hw' HR.lt).cell 1
  have q2 : w'.cell? ⟨w.heap.size, 2, none⟩ = some (.slice A2 n2 c2) := (HR.below hw' HR.lt).cell 2
  go_simp
  first | refine ⟨hw', hK _ ?_⟩ | refine hK _ ?_
  clear hK K
  clear q2 q1 q0
  clear hw' w'
  refine LC.want (by kernel_rfl) (fun K hK w' hw' => ?_)
  go_simp
  refine ⟨LC.call_gr hw' ?_, hK _ ?_⟩
  · first | (with_reducible exact within_b hv _) | (with_reducible exact within_b hn _) | (with_reducible exact size_b _ _) | (with_reducible exact wide_any v A1 A2 n1 n2 c1 c2 _ (by omega) (by omega) b2) | (with_reducible exact areFinite_b (k1.below (LC.gr hw')) b1 hN)
  clear hK K
  clear hw' w'
  refine LC.want (by kernel_rfl) (fun K hK w' hw' => ?_)
  go_simp
  first | refine ⟨hw', hK _ ?_⟩ | refine hK _ ?_
  clear hK K
  clear hw' w'
  refine LC.plain rfl (fun K hK w' hw' => ?_)
  go_simp
  first | refine ⟨hw', hK _ ?_⟩ | refine hK _ ?_
  clear hK K
  clear hw' w'
  refine LC.nil ?_
  intro wq hwq
  have hG : Below W1.heap.size W1 wq := hwq
  replace HB := HB.trans (hG.mono HB.size)
  replace HR := HR.below hG HR.lt
  replace k2 := k2.below hG
  clear hG hwq uvu unu usu uwu ufu hp1 hp2 hw1 hw2 hd hN hn hv k1 HW1
  have q2 : wq.cell? ⟨w.heap.size, 2, none⟩ = some (.slice A2 n2 c2) := HR.cell 2
  go_wp2_with fail
  clear q2
  go_loopw [39] (fun i wr => ∃ k : Nat, k ≤ n2 ∧ i = .int .i64 k ∧ Below wq.heap.size wq wr ∧ baseAll v n2 S k = true) (fun i _ => n2 - (intOf i).toNat)
  case atStart => exact ⟨0, Nat.zero_le _, rfl, Below.refl _ _, rfl⟩
  case round =>
    obtain ⟨k, hk, rfl, hbel, hrel⟩ := hrel
    have HRL := Lib.hid hrel
    clear hrel
    have HR' := HR.below hbel HR.lt
    have HB' := HB.trans (hbel.mono HB.size)
    by_cases hlt : k < n2
    · obtain ⟨b, off, x, rfl, hb, hc, hx, hs⟩ := (k2.below hbel).at_ hlt
      have HX := Lib.hid (getD_of (z := 0) hx)
      have HBk : Hid (baseOk v n2 S k = (inR x 0 (v + n2 - 1) && !hasL (S.take k) x)) := by show _ = _; rw [baseOk, HX.out]
      have hlt4 : (k : Int) < (n2 : Int) := by omega
      have hpart : IS wr (some ⟨b, off, none⟩) k (S.take k) := by
        have := (k2.below hbel).part (lo := 0) (k := k) (by omega)
        simpa using this
      have q0 : wr.cell? ⟨w.heap.size, 0, none⟩ = some (.int .i64 v) := HR'.cell 0
      have q1 : wr.cell? ⟨w.heap.size, 1, none⟩ = some (.slice A1 n1 c1) := HR'.cell 1
      have q2 : wr.cell? ⟨w.heap.size, 2, none⟩ = some (.slice (some ⟨b, off, none⟩) n2 c2) := HR'.cell 2
      clear hx hs k2
      go_wp2_with fail
      refine (isColumn_any v A1 (some ⟨b, off, none⟩) n1 n2 c1 c2 x _ v1 v1' b2).mono ?_
      rintro e w5 ⟨rfl, hb5⟩
      cases hi : inR x 0 (v + n2 - 1)
      · have HF : Hid (baseOk v n2 S k = false) := by show _ = _; rw [HBk.out, hi]; rfl
        go_wp2_with fail
        go_ret
        exact ⟨ret_bool (by rw [H.out, baseAll_false hlt HF.out]), HB'.trans (hb5.mono HB'.size)⟩
      · have HF : Hid (baseOk v n2 S k = !hasL (S.take k) x) := by show _ = _; rw [HBk.out, hi]; rfl
        have q2' : w5.cell? ⟨w.heap.size, 2, none⟩ = some (.slice (some ⟨b, off, none⟩) n2 c2) := (HR'.below hb5 HR'.lt).cell 2
        replace hpart := hpart.below hb5
        have hb6 := hbel.trans (hb5.mono hbel.size)
        replace HB' := HB'.trans (hb5.mono HB'.size)
        have hkc : (k : Int) ≤ (c2 : Int) := by omega
        clear hb5 q0 q1 q2
        go_wp2_with fail
        refine (has_any (some ⟨b, off, none⟩) k c2 _ x _ hpart (by omega)).mono ?_
        rintro e w6 ⟨rfl, rfl⟩
        cases hh : hasL (S.take k) x
        · have HF2 : Hid (baseOk v n2 S k = true) := by show _ = _; rw [HF.out, hh]; rfl
          go_wp2_with fail
          go_roundw
          case rel => exact ⟨k + 1, by omega, by go_num, hb6, by rw [baseAll_succ, HRL.out, HF2.out]; rfl⟩
          case measure => simp [intOf]; omega
        · have HF2 : Hid (baseOk v n2 S k = false) := by show _ = _; rw [HF.out, hh]; rfl
          go_wp2_with fail
          go_ret
          exact ⟨ret_bool (by rw [H.out, baseAll_false hlt HF2.out]), HB'⟩
    · obtain rfl : k = n2 := by omega
      go_wp2_with fail
      go_ret
      exact ⟨ret_bool (by rw [H.out, HRL.out]), HB'⟩
end Go.Proofs.Yteodplednmeaaaa
