/- Slices of single floats that read as lists of bits; what the small functions on them compute. -/
import Derived.Test.YtedpbidphajngaaDoorA2
import Derived.Test.YtedpbidphajngaaDoorW
import Derived.Deep.LoopGhost
namespace Go.Proofs.YtedpbidphajngaaDoor
open Go.RowKit
set_option linter.unusedVariables false
set_option linter.unusedSimpArgs false

/-- the n elements of the slice '.slice A n c' are the cells 'f (L.getD j z)' -/
def SL {α : Type} (f : α → Value) (z : α) (w : World) (A : Option Addr) (n : Nat) (L : List α) : Prop :=
  L.length = n ∧ (0 < n → ∃ b off, A = some ⟨b, off, none⟩ ∧ b < w.heap.size ∧ ∀ j, j < n → w.cell? ⟨b, off + j, none⟩ = some (f (L.getD j z)))

section
variable {α : Type} {f : α → Value} {z : α} {w w' : World} {n : Nat} {A : Option Addr} {L : List α}
theorem SL.below (h : SL f z w A n L) (hb : Below w.heap.size w w') : SL f z w' A n L :=
  ⟨h.1, fun hn => by
    obtain ⟨b, off, e, hlt, hc⟩ := h.2 hn
    exact ⟨b, off, e, Nat.lt_of_lt_of_le hlt hb.size, fun j hj => (hb.cell (p := ⟨b, off + j, none⟩) hlt).trans (hc j hj)⟩⟩
theorem SL.drewN (h : SL f z w A n L) (k : Nat) : SL f z (w.drewN k) A n L := h
theorem SL.alloc (h : SL f z w A n L) (o : Obj) : SL f z (w.alloc o) A n L := h.below ((Below.refl _ _).alloc (Nat.le_refl _) o)
theorem SL.nil (w : World) (A : Option Addr) : SL f z w A 0 [] := ⟨rfl, fun h => by omega⟩
theorem SL.at_ (h : SL f z w A n L) {k : Nat} (hk : k < n) :
    ∃ b off x, A = some ⟨b, off, none⟩ ∧ b < w.heap.size ∧ w.cell? ⟨b, off + k, none⟩ = some (f x) ∧ L[k]? = some x ∧ L.take (k + 1) = L.take k ++ [x] := by
  obtain ⟨b, off, e, hb, hc⟩ := h.2 (by omega)
  have hl : k < L.length := by have := h.1; omega
  refine ⟨b, off, L[k], e, hb, ?_, List.getElem?_eq_getElem hl, ?_⟩
  · rw [hc k hk, List.getD_eq_getElem?_getD, List.getElem?_eq_getElem hl]; rfl
  · rw [List.take_succ_eq_append_getElem hl]
end
/-- a slice of single floats -/
abbrev FS := SL (Value.float .f32) 0
/-- a slice of integers -/
abbrev IS := SL (Value.int .i64) 0

def allA (f : Option Nat → Bool) (L : List Nat) : Bool := L.all fun x => f (av .f32 x)
theorem allA_snoc (f : Option Nat → Bool) (l : List Nat) (x : Nat) : allA f (l ++ [x]) = (allA f l && f (av .f32 x)) := by simp [allA]
theorem allA_false {f : Option Nat → Bool} {L : List Nat} {k x : Nat} (h : L[k]? = some x) (hf : f (av .f32 x) = false) : allA f L = false := by
  unfold allA
  rw [List.all_eq_false]
  exact ⟨x, List.mem_of_getElem? h, by simp [hf]⟩
theorem ret_bool {a b : Bool} (h : a = b) : Ending.returned (.bool a) = Ending.returned (.bool b) := by rw [h]
theorem ret_int {k : IntKind} {a b : Int} (h : a = b) : Ending.returned (.int k a) = Ending.returned (.int k b) := by rw [h]

end Go.Proofs.YtedpbidphajngaaDoor
