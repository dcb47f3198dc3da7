/- Rows and tables: copies, comparisons, sizes. (written by gen/genR.py) -/
import Derived.Test.YtedpbidphajngaaV
import Derived.Handy
namespace Go.Proofs.Ytedpbidphajngaa
open Go.RowKit
set_option linter.unusedVariables false
set_option linter.unusedSimpArgs false
attribute [local go_sem] lo_value lo_enter run_store_float

/-- block g is a row of n cells that read as a list -/
def PR {α : Type} (f : α → Value) (z : α) (t : TypeId) (w : World) (g n : Nat) (L : List α) : Prop := ∃ vs, Row w g t vs ∧ vs.size = n ∧ L.length = n ∧ ∀ j, j < n → vs[j]? = some (f (L.getD j z))
section
variable {α : Type} {f : α → Value} {z : α} {t : TypeId} {w w' : World} {g n : Nat} {L : List α}
theorem PR.lt (h : PR f z t w g n L) : g < w.heap.size := by obtain ⟨vs, h, _⟩ := h; exact h.lt
theorem PR.sl (h : PR f z t w g n L) : SL f z w (some ⟨g, 0, none⟩) n L := by obtain ⟨vs, h1, h2, h3, h4⟩ := h; exact SL.of_row h3 h1 h4
theorem PR.below (h : PR f z t w g n L) {B : Nat} (hb : Below B w w') (hg : g < B) : PR f z t w' g n L := by obtain ⟨vs, h1, h2⟩ := h; exact ⟨vs, h1.below hb hg, h2⟩
theorem PR.drewN (h : PR f z t w g n L) (k : Nat) : PR f z t (w.drewN k) g n L := h
theorem PR.far (h : PR f z t w g n L) {p : Addr} (hp : p.block ≠ g) (u : Value) : PR f z t (w.setCell p u) g n L := by obtain ⟨vs, h1, h2⟩ := h; exact ⟨vs, h1.far hp u, h2⟩
theorem PR.of (h : ∃ vs, Row w g t vs ∧ vs.size = n ∧ SL f z w (some ⟨g, 0, none⟩) n L) : PR f z t w g n L := by
  obtain ⟨vs, h1, h2, h3, h4⟩ := h
  refine ⟨vs, h1, h2, h3, fun j hj => ?_⟩
  obtain ⟨b, off, e, hlt, hc⟩ := h4 (by omega)
  injection e with e
  injection e with e1 e2
  subst e1; subst e2
  have := hc j hj
  rwa [Nat.zero_add, h1.cell j] at this
end
abbrev FR := PR (Value.float .f32) 0 29
theorem toFloat32S_new (A : Option Addr) (n c : Nat) (L : List Nat) (w : World) (h : FS w A n L) (hn : n ≤ 1048576) :
    Calls Try.prog 5 #[.slice A n c] w fun e w' => ∃ g, e = .returned (.slice (some ⟨g, 0, none⟩) n n) ∧ w.heap.size ≤ g ∧ FR w' g n L ∧ Below w.heap.size w w' :=
  (toFloat32S_any A n c L w h hn).mono fun e w' ⟨g, vs, he, hg, hr, hs, hf, hb⟩ => ⟨g, he, hg, PR.of ⟨vs, hr, hs, hf⟩, hb⟩
theorem ne_block {a b o p : Nat} (h : a ≠ b) : (⟨a, o, none⟩ : Addr) ≠ ⟨b, p, none⟩ := by intro e; injection e with e; exact h e
theorem ne_off {a o p : Nat} (h : o ≠ p) : (⟨a, o, none⟩ : Addr) ≠ ⟨a, p, none⟩ := by intro e; injection e with _ e; exact h e

end Go.Proofs.Ytedpbidphajngaa
