/- What is left of the bounds: the contracts whose result is a list that the call owns. -/
import Derived.Test.YteodplednmeaaaaOW
namespace Go.Proofs.Yteodplednmeaaaa
open Go.RowKit
set_option linter.unusedVariables false
set_option linter.unusedSimpArgs false

def leftOfV (v : Int) (n1 n2 n3 : Nat) (N B G : List Nat) (m : Nat) (M : List Nat) : Bool := leftV v n1 n2 n3 N B G m M
def leftOfN (v : Int) (n1 n2 n3 : Nat) (N B G : List Nat) (m : Nat) (M : List Nat) : Nat := bif leftV v n1 n2 n3 N B G m M then n2 else 0
def leftOfO (v : Int) (n1 n2 n3 : Nat) (N B G : List Nat) (m : Nat) (M : List Nat) : List Nat := bif leftV v n1 n2 n3 N B G m M then leftL N B n3 M n2 else []
theorem leftOfN_le {v : Int} {n1 n2 n3 : Nat} {N B G : List Nat} {m : Nat} {M : List Nat} (h : n2 ≤ 1048576) : leftOfN v n1 n2 n3 N B G m M ≤ 1048576 := by
  unfold leftOfN; cases leftV v n1 n2 n3 N B G m M
  · exact Nat.zero_le _
  · exact h
theorem LeftRes.own {v : Int} {n1 n2 n3 : Nat} {N B G : List Nat} {m : Nat} {M : List Nat} {w' : World} {base : Nat} {u : Value} (h : LeftRes v n1 n2 n3 N B G m M w' base u) :
    w'.ownsRow base 23 1 u (leftOfN v n1 n2 n3 N B G m M) ((leftOfO v n1 n2 n3 N B G m M).map (Value.float .f32)) := by
  cases h with
  | no h => unfold leftOfN leftOfO; rw [h]; exact World.ownsRow_nil _ _ _ _
  | yes g cap h hm => unfold leftOfN leftOfO; rw [h]; exact hm.own
theorem specLeftOf_own (v : Int) (A1 A2 A3 : Option Addr) (n1 n2 n3 c1 c2 c3 : Nat) (N B G : List Nat) (X : Option Addr) (m d : Nat) (M : List Nat) (w : World) (h1 : FS w A1 n1 N) (h2 : FS w A2 n2 B) (h3 : FS w A3 n3 G) (b1 : n1 ≤ 1048576) (b2 : n2 ≤ 1048576) (b3 : n3 ≤ 1048576) (hx : FS w X m M) (bm : m ≤ 1048576) (hcap : n1 = c1 := by rfl) :
    Calls Try.prog 50 #[.agg #[.int .i64 v, .slice A1 n1 c1, .slice A2 n2 c2, .slice A3 n3 c3], .slice X m d] w fun e w' => ∃ u, e = .returned (.tuple #[u, .bool (leftOfV v n1 n2 n3 N B G m M)]) ∧ w'.ownsRow w.heap.size 23 1 u (leftOfN v n1 n2 n3 N B G m M) ((leftOfO v n1 n2 n3 N B G m M).map (Value.float .f32)) ∧ Below w.heap.size w w' :=
  (specLeftOf_any v A1 A2 A3 n1 n2 n3 c1 c2 c3 N B G X m d M w h1 h2 h3 b1 b2 b3 hx bm hcap).mono fun e w' ⟨u, h1, h2, h3⟩ => ⟨u, h1, h2.own, h3⟩
theorem implLeftOf_own (v : Int) (A1 A2 A3 : Option Addr) (n1 n2 n3 c1 c2 c3 : Nat) (N B G : List Nat) (X : Option Addr) (m d : Nat) (M : List Nat) (w : World) (h1 : FS w A1 n1 N) (h2 : FS w A2 n2 B) (h3 : FS w A3 n3 G) (b1 : n1 ≤ 1048576) (b2 : n2 ≤ 1048576) (b3 : n3 ≤ 1048576) (hx : FS w X m M) (bm : m ≤ 1048576) (hcap : n1 = c1 := by rfl) :
    Calls Try.prog 51 #[.agg #[.int .i64 v, .slice A1 n1 c1, .slice A2 n2 c2, .slice A3 n3 c3], .slice X m d] w fun e w' => ∃ u, e = .returned (.tuple #[u, .bool (leftOfV v n1 n2 n3 N B G m M)]) ∧ w'.ownsRow w.heap.size 23 1 u (leftOfN v n1 n2 n3 N B G m M) ((leftOfO v n1 n2 n3 N B G m M).map (Value.float .f32)) ∧ Below w.heap.size w w' :=
  (implLeftOf_any v A1 A2 A3 n1 n2 n3 c1 c2 c3 N B G X m d M w h1 h2 h3 b1 b2 b3 hx bm hcap).mono fun e w' ⟨u, h1, h2, h3⟩ => ⟨u, h1, h2.own, h3⟩
end Go.Proofs.Yteodplednmeaaaa
