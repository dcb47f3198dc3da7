/- Marks written into rows. -/
import Derived.Test.YteodplednmeaaaaMK
namespace Go.Proofs.Yteodplednmeaaaa
open Go.RowKit
set_option linter.unusedVariables false
set_option linter.unusedSimpArgs false
attribute [local go_sem] lo_value lo_enter run_store_float run_neg LC.lc_value LC.lc_enter

/-- only blocks of S were written -/
structure Wrote (S : List Nat) (w w' : World) : Prop where
  os : w'.os = w.os
  tape : w'.tape = w.tape
  output : w'.output = w.output
  size : w.heap.size ≤ w'.heap.size
  block : ∀ k, k < w.heap.size → k ∉ S → w'.heap[k]? = w.heap[k]?
theorem Wrote.of_grown {w w' : World} {g : Nat} (h : w.grownBy w' (some g)) : Wrote [g] w w' :=
  ⟨h.os, h.tape, h.output, h.size, fun k hk hs => h.block k hk (fun e => hs (by injection e with e; subst e; exact List.mem_cons_self))⟩
theorem Wrote.trans {S T : List Nat} {a b c : World} (h : Wrote S a b) (h' : Wrote T b c) : Wrote (S ++ T) a c :=
  ⟨h'.os.trans h.os, h'.tape.trans h.tape, h'.output.trans h.output, Nat.le_trans h.size h'.size, fun k hk hs =>
    (h'.block k (Nat.lt_of_lt_of_le hk h.size) (fun h2 => hs (List.mem_append_right _ h2))).trans (h.block k hk (fun h2 => hs (List.mem_append_left _ h2)))⟩
theorem Wrote.below {S : List Nat} {a w w' : World} {B : Nat} (h : Wrote S w w') (hb : Below B a w) (hB : B ≤ w.heap.size) (hS : ∀ k ∈ S, B ≤ k) : Below B a w' :=
  ⟨h.os.trans hb.os, h.tape.trans hb.tape, h.output.trans hb.output, Nat.le_trans hb.size h.size, fun k hk =>
    (h.block k (Nat.lt_of_lt_of_le hk hB) (fun h2 => by have := hS k h2; omega)).trans (hb.block k hk)⟩
theorem Wrote.own {S : List Nat} {w w' : World} {base size n cap g : Nat} {e : TypeId} {xs : List Value} (h : Wrote S w w') (ho : w.ownsRow base e size (.slice (some ⟨g, 0, none⟩) n cap) n xs) (hg : g ∉ S) : w'.ownsRow base e size (.slice (some ⟨g, 0, none⟩) n cap) n xs := by
  have hlt := (ho.lt g rfl).2
  refine ⟨ho.1, ?_⟩
  rcases ho.2 with h0 | ⟨g', cap', cur, e1, e2, e3, e4⟩
  · exact .inl h0
  · refine .inr ⟨g', cap', cur, e1, e2, ?_, e4⟩
    simp only [Value.slice.injEq, Option.some.injEq, Addr.mk.injEq, and_true, true_and] at e1
    obtain ⟨rfl, rfl⟩ := e1
    rw [h.block g hlt hg]; exact e3
theorem Wrote.row {S : List Nat} {w w' : World} {p : Nat} {t : TypeId} {vs : Array Value} (h : Wrote S w w') (hr : Row w p t vs) (hp : p ∉ S) : Row w' p t vs := by
  have hlt := hr.lt
  unfold Row at *
  rw [h.block p hlt hp]; exact hr
/-- a row laid by a copy is owned -/
theorem FR.own {w : World} {g n base : Nat} {L : List Nat} (h : FR w g n L) (hb : base ≤ g) (hn : n ≤ 1048576) : ∃ xs, w.ownsRow base 23 1 (.slice (some ⟨g, 0, none⟩) n n) n xs := by
  obtain ⟨vs, hr, hs, _⟩ := h
  refine ⟨vs.toList, by simpa using hs, .inr ⟨g, n, vs, rfl, hb, hr, Nat.le_refl _, by unfold maxLen; omega, by omega, List.take_of_length_le (by simp; omega)⟩⟩
set_option maxHeartbeats 1000000 in
set_option maxRecDepth 100000 in
theorem markRows_any (base : Nat) (v : Int) (g1 g2 g3 n1 n2 n3 c1 c2 c3 k : Nat) (xs1 xs2 xs3 : List Value) (w : World)
    (o1 : w.ownsRow base 23 1 (.slice (some ⟨g1, 0, none⟩) n1 c1) n1 xs1) (o2 : w.ownsRow base 23 1 (.slice (some ⟨g2, 0, none⟩) n2 c2) n2 xs2) (o3 : w.ownsRow base 23 1 (.slice (some ⟨g3, 0, none⟩) n3 c3) n3 xs3)
    (e12 : g1 ≠ g2) (e13 : g1 ≠ g3) (e23 : g2 ≠ g3) (b1 : n1 ≤ 1048576) (b2 : n2 ≤ 1048576) (b3 : n3 ≤ 1048576) (hk : k ≤ 1048576) :
    Calls Try.prog 52 #[.agg #[.int .i64 v, .slice (some ⟨g1, 0, none⟩) n1 c1, .slice (some ⟨g2, 0, none⟩) n2 c2, .slice (some ⟨g3, 0, none⟩) n3 c3], .int .i64 (k : Int)] w fun e w' =>
      e = .returned (.int .i64 ((k + n1 + n2 + n3 : Nat) : Int)) ∧ Wrote [g1, g2, g3] w w' := by
  have l1 := (o1.lt g1 rfl).2
  have l2 := (o2.lt g2 rfl).2
  have l3 := (o3.lt g3 rfl).2
  have HW : Wrote [] w (w.alloc (.cells #[.int .i64 v, .slice (some ⟨g1, 0, none⟩) n1 c1, .slice (some ⟨g2, 0, none⟩) n2 c2, .slice (some ⟨g3, 0, none⟩) n3 c3] 36)) := by
    have hb : Below w.heap.size w (w.alloc (.cells #[.int .i64 v, .slice (some ⟨g1, 0, none⟩) n1 c1, .slice (some ⟨g2, 0, none⟩) n2 c2, .slice (some ⟨g3, 0, none⟩) n3 c3] 36)) := (Below.refl _ _).alloc (Nat.le_refl _) _
    exact ⟨hb.os, hb.tape, hb.output, hb.size, fun j hj _ => hb.block j hj⟩
  have HR := Row.new w 36 #[.int .i64 v, .slice (some ⟨g1, 0, none⟩) n1 c1, .slice (some ⟨g2, 0, none⟩) n2 c2, .slice (some ⟨g3, 0, none⟩) n3 c3]
  replace o1 := HW.own o1 (by simp)
  replace o2 := HW.own o2 (by simp)
  replace o3 := HW.own o3 (by simp)
  go_enter Try.func52, Try.ntmps52
  go_wp2_with fail
  refine (mark_any base g1 n1 c1 k xs1 _ o1 b1 (by omega)).mono ?_
  rintro e w1 ⟨rfl, o1', hg1⟩
  have W1 := Wrote.of_grown hg1
  replace HR := W1.row HR (by simp; omega)
  replace o2 := W1.own o2 (by simp; omega)
  replace o3 := W1.own o3 (by simp; omega)
  have q2 : w1.cell? ⟨w.heap.size, 2, none⟩ = some (.slice (some ⟨g2, 0, none⟩) n2 c2) := HR.cell 2
  go_wp2_with fail
  refine (mark_any base g2 n2 c2 (k + n1) xs2 _ o2 b2 (by omega)).mono ?_
  rintro e w2 ⟨rfl, o2', hg2⟩
  have W2 := Wrote.of_grown hg2
  replace HR := W2.row HR (by simp; omega)
  replace o3 := W2.own o3 (by simp; omega)
  clear q2
  have q3 : w2.cell? ⟨w.heap.size, 3, none⟩ = some (.slice (some ⟨g3, 0, none⟩) n3 c3) := HR.cell 3
  go_wp2_with fail
  refine (mark_any base g3 n3 c3 (k + n1 + n2) xs3 _ o3 b3 (by omega)).mono ?_
  rintro e w3 ⟨rfl, o3', hg3⟩
  have W3 := Wrote.of_grown hg3
  go_wp2_with fail
  go_ret
  exact ⟨by first | rfl | simp, ((HW.trans W1).trans W2).trans W3⟩
set_option maxRecDepth 100000 in
theorem mark_none (k : Nat) (w : World) (hk : k ≤ 16777216) : Calls Try.prog 53 #[.slice none 0 0, .int .i64 (k : Int)] w fun e w' => e = .returned (.int .i64 (k : Int)) ∧ w' = w := by
  go_enter Try.func53, Try.ntmps53
  go_wp2_with fail
  go_loopw [1, 5] (fun kv i wr => i = .int .i64 0 ∧ kv = .int .i64 (k : Int) ∧ wr = w) (fun _ _ _ => 0)
  case atStart => exact ⟨rfl, rfl, rfl⟩
  case round =>
    obtain ⟨rfl, rfl, rfl⟩ := hrel
    go_wp2_with fail
    go_ret
    exact ⟨by first | rfl | simp, by first | rfl | trivial⟩
set_option maxRecDepth 100000 in
theorem held_none (k : Nat) (w : World) (hk : k ≤ 16777216) : Calls Try.prog 54 #[.slice none 0 0, .int .i64 (k : Int)] w fun e w' => e = .returned (.int .i64 (k : Int)) ∧ w' = w := by
  go_enter Try.func54, Try.ntmps54
  go_wp2_with fail
  go_loopw [1, 5] (fun kv i wr => i = .int .i64 0 ∧ kv = .int .i64 (k : Int) ∧ wr = w) (fun _ _ _ => 0)
  case atStart => exact ⟨rfl, rfl, rfl⟩
  case round =>
    obtain ⟨rfl, rfl, rfl⟩ := hrel
    go_wp2_with fail
    go_ret
    exact ⟨by first | rfl | simp, by first | rfl | trivial⟩
end Go.Proofs.Yteodplednmeaaaa
