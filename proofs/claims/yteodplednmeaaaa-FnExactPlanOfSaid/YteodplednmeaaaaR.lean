/- Rows and tables: copies, comparisons, sizes. (written by gen/genR.py) -/
import Derived.Test.YteodplednmeaaaaV
import Derived.Handy
namespace Go.Proofs.Yteodplednmeaaaa
open Go.RowKit
set_option linter.unusedVariables false
set_option linter.unusedSimpArgs false
attribute [local go_sem] lo_value lo_enter run_store_float

/-- block g is a row of n cells that read as a list -/
def PR {α : Type} (f : α → Value) (z : α) (t : TypeId) (w : World) (g n : Nat) (L : List α) : Prop := ∃ vs, Row w g t vs ∧ vs.size = n ∧ L.length = n ∧ ∀ j, j < n → vs[j]? = some (f (L.getD j z))
section
variable {α : Type} {f : α → Value} {z : α} {t : TypeId} {w w' : World} {g n : Nat} {L : List α}
theorem PR.lt (h : PR f z t w g n L) : g < w.heap.size := by obtain ⟨vs, h, _⟩ := h; exact h.lt
theorem PR.sl (h : PR f z t w g n L) : SL f z w (some ⟨g, 0, none⟩) n L := by obtain ⟨vs, h1, h2, h3, h4⟩ := h; exact SL.of_row h3 h1 h4
theorem PR.below (h : PR f z t w g n L) {B : Nat} (hb : Below B w w') (hg : g < B) : PR f z t w' g n L := by obtain ⟨vs, h1, h2⟩ := h; exact ⟨vs, h1.below hb hg, h2⟩
theorem PR.drewN (h : PR f z t w g n L) (k : Nat) : PR f z t (w.drewN k) g n L := h
theorem PR.far (h : PR f z t w g n L) {p : Addr} (hp : p.block ≠ g) (u : Value) : PR f z t (w.setCell p u) g n L := by obtain ⟨vs, h1, h2⟩ := h; exact ⟨vs, h1.far hp u, h2⟩
theorem PR.of (h : ∃ vs, Row w g t vs ∧ vs.size = n ∧ SL f z w (some ⟨g, 0, none⟩) n L) : PR f z t w g n L := by
  obtain ⟨vs, h1, h2, h3, h4⟩ := h
  refine ⟨vs, h1, h2, h3, fun j hj => ?_⟩
  obtain ⟨b, off, e, hlt, hc⟩ := h4 (by omega)
  injection e with e
  injection e with e1 e2
  subst e1; subst e2
  have := hc j hj
  rwa [Nat.zero_add, h1.cell j] at this
end
abbrev FR := PR (Value.float .f32) 0 23
theorem toFloat32S_new (A : Option Addr) (n c : Nat) (L : List Nat) (w : World) (h : FS w A n L) (hn : n ≤ 1048576) :
    Calls Try.prog 20 #[.slice A n c] w fun e w' => ∃ g, e = .returned (.slice (some ⟨g, 0, none⟩) n n) ∧ w.heap.size ≤ g ∧ FR w' g n L ∧ Below w.heap.size w w' :=
  (toFloat32S_any A n c L w h hn).mono fun e w' ⟨g, vs, he, hg, hr, hs, hf, hb⟩ => ⟨g, he, hg, PR.of ⟨vs, hr, hs, hf⟩, hb⟩
abbrev IR := PR (Value.int .i64) 0 2
theorem toInt64S_new (A : Option Addr) (n c : Nat) (L : List Int) (w : World) (h : IS w A n L) (hn : n ≤ 1048576) :
    Calls Try.prog 79 #[.slice A n c] w fun e w' => ∃ g, e = .returned (.slice (some ⟨g, 0, none⟩) n n) ∧ w.heap.size ≤ g ∧ IR w' g n L ∧ Below w.heap.size w w' :=
  (toInt64S_any A n c L w h hn).mono fun e w' ⟨g, vs, he, hg, hr, hs, hf, hb⟩ => ⟨g, he, hg, PR.of ⟨vs, hr, hs, hf⟩, hb⟩
theorem ne_block {a b o p : Nat} (h : a ≠ b) : (⟨a, o, none⟩ : Addr) ≠ ⟨b, p, none⟩ := by intro e; injection e with e; exact h e
theorem szFloat32S_in (A : Option Addr) (n c : Nat) (l : Int) (w : World) (hl : l ≤ 1048576) (h : n ≤ l) :
    Calls Try.prog 69 #[.slice A n c, .int .i64 l] w fun e w' => e = .returned (.int .i64 (l - n)) ∧ w' = w := by
  have h1 : decide (l - (n : Int) < 0) = false := decide_eq_false (by omega)
  go_enter Try.func69, Try.ntmps69
  go_wp2_with fail
  go_ret
  exact ⟨rfl, rfl⟩
theorem szFloat32S_out (A : Option Addr) (n c : Nat) (l : Int) (w : World) (hn : n ≤ maxLen) (h0 : 0 ≤ l) (hl : l ≤ 1048576) (h : l < n) :
    Calls Try.prog 69 #[.slice A n c, .int .i64 l] w fun e w' => e = .returned (.int .i64 (-1)) ∧ w' = w := by
  have hm : maxLen = 9223372036854775807 := by decide
  rw [hm] at hn
  have h1 : decide (l - (n : Int) < 0) = true := decide_eq_true (by omega)
  go_enter Try.func69, Try.ntmps69
  go_wp2_with fail
  go_ret
  exact ⟨rfl, rfl⟩
theorem szInt64S_in (A : Option Addr) (n c : Nat) (l : Int) (w : World) (hl : l ≤ 1048576) (h : n ≤ l) :
    Calls Try.prog 76 #[.slice A n c, .int .i64 l] w fun e w' => e = .returned (.int .i64 (l - n)) ∧ w' = w := by
  have h1 : decide (l - (n : Int) < 0) = false := decide_eq_false (by omega)
  go_enter Try.func76, Try.ntmps76
  go_wp2_with fail
  go_ret
  exact ⟨rfl, rfl⟩
theorem szInt64S_out (A : Option Addr) (n c : Nat) (l : Int) (w : World) (hn : n ≤ maxLen) (h0 : 0 ≤ l) (hl : l ≤ 1048576) (h : l < n) :
    Calls Try.prog 76 #[.slice A n c, .int .i64 l] w fun e w' => e = .returned (.int .i64 (-1)) ∧ w' = w := by
  have hm : maxLen = 9223372036854775807 := by decide
  rw [hm] at hn
  have h1 : decide (l - (n : Int) < 0) = true := decide_eq_true (by omega)
  go_enter Try.func76, Try.ntmps76
  go_wp2_with fail
  go_ret
  exact ⟨rfl, rfl⟩
theorem ne_off {a o p : Nat} (h : o ≠ p) : (⟨a, o, none⟩ : Addr) ≠ ⟨a, p, none⟩ := by intro e; injection e with _ e; exact h e

set_option maxRecDepth 100000 in
theorem toRows_any (v : Int) (A1 A2 A3 : Option Addr) (n1 n2 n3 c1 c2 c3 : Nat) (L1 : List Nat) (L2 : List Nat) (L3 : List Nat) (w : World) (h1 : FS w A1 n1 L1) (h2 : FS w A2 n2 L2) (h3 : FS w A3 n3 L3) (b1 : n1 ≤ 1048576) (b2 : n2 ≤ 1048576) (b3 : n3 ≤ 1048576) :
    Calls Try.prog 28 #[.agg #[.int .i64 v, .slice A1 n1 c1, .slice A2 n2 c2, .slice A3 n3 c3]] w fun e w' => ∃ g1 g2 g3 : Nat, e = .returned (.agg #[.int .i64 v, .slice (some ⟨g1, 0, none⟩) n1 n1, .slice (some ⟨g2, 0, none⟩) n2 n2, .slice (some ⟨g3, 0, none⟩) n3 n3]) ∧ w.heap.size ≤ g1 ∧ g1 < g2 ∧ g2 < g3 ∧ FR w' g1 n1 L1 ∧ FR w' g2 n2 L2 ∧ FR w' g3 n3 L3 ∧ Below w.heap.size w w' := by
  have s1 : (w.alloc (.cells #[.int .i64 v, .slice A1 n1 c1, .slice A2 n2 c2, .slice A3 n3 c3] 33)).heap.size = w.heap.size + 1 := by simp
  have s2 : ((w.alloc (.cells #[.int .i64 v, .slice A1 n1 c1, .slice A2 n2 c2, .slice A3 n3 c3] 33)).alloc (.cells #[.int .i64 0, .slice none 0 0, .slice none 0 0, .slice none 0 0] 36)).heap.size = w.heap.size + 1 + 1 := by simp
  have s3 : (((w.alloc (.cells #[.int .i64 v, .slice A1 n1 c1, .slice A2 n2 c2, .slice A3 n3 c3] 33)).alloc (.cells #[.int .i64 0, .slice none 0 0, .slice none 0 0, .slice none 0 0] 36)).alloc (.cells #[.int .i64 v, .slice none 0 0, .slice none 0 0, .slice none 0 0] 36)).heap.size = w.heap.size + 1 + 1 + 1 := by simp
  have HB : Below w.heap.size w (((w.alloc (.cells #[.int .i64 v, .slice A1 n1 c1, .slice A2 n2 c2, .slice A3 n3 c3] 33)).alloc (.cells #[.int .i64 0, .slice none 0 0, .slice none 0 0, .slice none 0 0] 36)).alloc (.cells #[.int .i64 v, .slice none 0 0, .slice none 0 0, .slice none 0 0] 36)) := (((Below.refl w.heap.size w).alloc (Nat.le_refl _) _).alloc (by simp) _).alloc (by simp; omega) _
  have R0 : Row (((w.alloc (.cells #[.int .i64 v, .slice A1 n1 c1, .slice A2 n2 c2, .slice A3 n3 c3] 33)).alloc (.cells #[.int .i64 0, .slice none 0 0, .slice none 0 0, .slice none 0 0] 36)).alloc (.cells #[.int .i64 v, .slice none 0 0, .slice none 0 0, .slice none 0 0] 36)) w.heap.size 33 #[.int .i64 v, .slice A1 n1 c1, .slice A2 n2 c2, .slice A3 n3 c3] := ((Row.new w 33 #[.int .i64 v, .slice A1 n1 c1, .slice A2 n2 c2, .slice A3 n3 c3]).alloc _).alloc _
  have R1 : Row (((w.alloc (.cells #[.int .i64 v, .slice A1 n1 c1, .slice A2 n2 c2, .slice A3 n3 c3] 33)).alloc (.cells #[.int .i64 0, .slice none 0 0, .slice none 0 0, .slice none 0 0] 36)).alloc (.cells #[.int .i64 v, .slice none 0 0, .slice none 0 0, .slice none 0 0] 36)) (w.heap.size + 1) 36 #[.int .i64 0, .slice none 0 0, .slice none 0 0, .slice none 0 0] := by have := (Row.new (w.alloc (.cells #[.int .i64 v, .slice A1 n1 c1, .slice A2 n2 c2, .slice A3 n3 c3] 33)) 36 #[.int .i64 0, .slice none 0 0, .slice none 0 0, .slice none 0 0]).alloc (.cells #[.int .i64 v, .slice none 0 0, .slice none 0 0, .slice none 0 0] 36); rwa [s1] at this
  have R2 : Row (((w.alloc (.cells #[.int .i64 v, .slice A1 n1 c1, .slice A2 n2 c2, .slice A3 n3 c3] 33)).alloc (.cells #[.int .i64 0, .slice none 0 0, .slice none 0 0, .slice none 0 0] 36)).alloc (.cells #[.int .i64 v, .slice none 0 0, .slice none 0 0, .slice none 0 0] 36)) (w.heap.size + 1 + 1) 36 #[.int .i64 v, .slice none 0 0, .slice none 0 0, .slice none 0 0] := by have := Row.new ((w.alloc (.cells #[.int .i64 v, .slice A1 n1 c1, .slice A2 n2 c2, .slice A3 n3 c3] 33)).alloc (.cells #[.int .i64 0, .slice none 0 0, .slice none 0 0, .slice none 0 0] 36)) 36 #[.int .i64 v, .slice none 0 0, .slice none 0 0, .slice none 0 0]; rwa [s2] at this
  clear s1 s2
  go_enter Try.func28, Try.ntmps28
  go_wp2_with fail
  refine (toFloat32S_new A1 n1 c1 L1 _ (h1.below HB) b1).mono ?_
  rintro e w1 ⟨g1, rfl, hg1, F1, hb⟩
  rw [s3] at hg1 hb
  replace R0 := R0.below hb (by omega)
  replace R1 := R1.below hb (by omega)
  replace R2 := R2.below hb (by omega)
  replace HB := HB.trans (hb.mono (by omega))
  have lt1 := F1.lt
  have hz1 := hb.size
  clear hb s3
  have ks : w1.cell? ⟨w.heap.size + 1 + 1, 1, none⟩ = some (.slice none 0 0) := R2.cell 1
  have kf : w1.frozen? ⟨w.heap.size + 1 + 1, 1, none⟩ = false := R2.frozen 1
  have sz : (w1.setCell ⟨w.heap.size + 1 + 1, 1, none⟩ (.slice (some ⟨g1, 0, none⟩) n1 n1)).heap.size = w1.heap.size := by simp [World.setCell]
  have hz0 : w.heap.size + 1 + 1 < w1.heap.size := R2.lt
  replace R0 := R0.far (p := ⟨w.heap.size + 1 + 1, 1, none⟩) (by show w.heap.size + 1 + 1 ≠ _; omega) (.slice (some ⟨g1, 0, none⟩) n1 n1)
  replace R1 := R1.far (p := ⟨w.heap.size + 1 + 1, 1, none⟩) (by show w.heap.size + 1 + 1 ≠ _; omega) (.slice (some ⟨g1, 0, none⟩) n1 n1)
  replace R2 : Row (w1.setCell ⟨w.heap.size + 1 + 1, 1, none⟩ (.slice (some ⟨g1, 0, none⟩) n1 n1)) _ _ #[.int .i64 v, .slice (some ⟨g1, 0, none⟩) n1 n1, .slice none 0 0, .slice none 0 0] := R2.set 1 (.slice (some ⟨g1, 0, none⟩) n1 n1)
  replace HB := HB.setCell (p := ⟨w.heap.size + 1 + 1, 1, none⟩) (by show w.heap.size ≤ w.heap.size + 1 + 1; omega) (.slice (some ⟨g1, 0, none⟩) n1 n1)
  replace F1 := F1.far (p := ⟨w.heap.size + 1 + 1, 1, none⟩) (by show w.heap.size + 1 + 1 ≠ _; omega) (.slice (some ⟨g1, 0, none⟩) n1 n1)
  have kl : w1.cell? ⟨w.heap.size, 2, none⟩ = some (.slice A2 n2 c2) := by have := R0.cell 2; rw [World.cell?_setCell_other _ _ _ _ (ne_block (by omega))] at this; exact this
  go_wp2_with fail
  refine (toFloat32S_new A2 n2 c2 L2 _ (h2.below HB) b2).mono ?_
  rintro e w2 ⟨g2, rfl, hg2, F2, hb⟩
  rw [sz] at hg2 hb
  replace R0 := R0.below hb (by omega)
  replace R1 := R1.below hb (by omega)
  replace R2 := R2.below hb (by omega)
  replace F1 := F1.below hb (by omega)
  replace HB := HB.trans (hb.mono (by omega))
  have lt2 := F2.lt
  have hz2 := hb.size
  clear hb sz
  clear ks kf kl
  have ks : w2.cell? ⟨w.heap.size + 1 + 1, 2, none⟩ = some (.slice none 0 0) := R2.cell 2
  have kf : w2.frozen? ⟨w.heap.size + 1 + 1, 2, none⟩ = false := R2.frozen 2
  have sz : (w2.setCell ⟨w.heap.size + 1 + 1, 2, none⟩ (.slice (some ⟨g2, 0, none⟩) n2 n2)).heap.size = w2.heap.size := by simp [World.setCell]
  have hz0 : w.heap.size + 1 + 1 < w2.heap.size := R2.lt
  replace R0 := R0.far (p := ⟨w.heap.size + 1 + 1, 2, none⟩) (by show w.heap.size + 1 + 1 ≠ _; omega) (.slice (some ⟨g2, 0, none⟩) n2 n2)
  replace R1 := R1.far (p := ⟨w.heap.size + 1 + 1, 2, none⟩) (by show w.heap.size + 1 + 1 ≠ _; omega) (.slice (some ⟨g2, 0, none⟩) n2 n2)
  replace R2 : Row (w2.setCell ⟨w.heap.size + 1 + 1, 2, none⟩ (.slice (some ⟨g2, 0, none⟩) n2 n2)) _ _ #[.int .i64 v, .slice (some ⟨g1, 0, none⟩) n1 n1, .slice (some ⟨g2, 0, none⟩) n2 n2, .slice none 0 0] := R2.set 2 (.slice (some ⟨g2, 0, none⟩) n2 n2)
  replace HB := HB.setCell (p := ⟨w.heap.size + 1 + 1, 2, none⟩) (by show w.heap.size ≤ w.heap.size + 1 + 1; omega) (.slice (some ⟨g2, 0, none⟩) n2 n2)
  replace F1 := F1.far (p := ⟨w.heap.size + 1 + 1, 2, none⟩) (by show w.heap.size + 1 + 1 ≠ _; omega) (.slice (some ⟨g2, 0, none⟩) n2 n2)
  replace F2 := F2.far (p := ⟨w.heap.size + 1 + 1, 2, none⟩) (by show w.heap.size + 1 + 1 ≠ _; omega) (.slice (some ⟨g2, 0, none⟩) n2 n2)
  have kl : w2.cell? ⟨w.heap.size, 3, none⟩ = some (.slice A3 n3 c3) := by have := R0.cell 3; rw [World.cell?_setCell_other _ _ _ _ (ne_block (by omega))] at this; exact this
  go_wp2_with fail
  refine (toFloat32S_new A3 n3 c3 L3 _ (h3.below HB) b3).mono ?_
  rintro e w3 ⟨g3, rfl, hg3, F3, hb⟩
  rw [sz] at hg3 hb
  replace R0 := R0.below hb (by omega)
  replace R1 := R1.below hb (by omega)
  replace R2 := R2.below hb (by omega)
  replace F1 := F1.below hb (by omega)
  replace F2 := F2.below hb (by omega)
  replace HB := HB.trans (hb.mono (by omega))
  have lt3 := F3.lt
  have hz3 := hb.size
  clear hb sz
  clear ks kf kl
  have ks : w3.cell? ⟨w.heap.size + 1 + 1, 3, none⟩ = some (.slice none 0 0) := R2.cell 3
  have kf : w3.frozen? ⟨w.heap.size + 1 + 1, 3, none⟩ = false := R2.frozen 3
  have u0 : w3.cell? ⟨w.heap.size + 1, 0, none⟩ = some (.int .i64 0) := R1.cell 0
  have v0 : w3.frozen? ⟨w.heap.size + 1, 0, none⟩ = false := R1.frozen 0
  have x0 : w3.cell? ⟨w.heap.size + 1 + 1, 0, none⟩ = some (.int .i64 v) := R2.cell 0
  have u1 : w3.cell? ⟨w.heap.size + 1, 1, none⟩ = some (.slice none 0 0) := R1.cell 1
  have v1 : w3.frozen? ⟨w.heap.size + 1, 1, none⟩ = false := R1.frozen 1
  have x1 : w3.cell? ⟨w.heap.size + 1 + 1, 1, none⟩ = some (.slice (some ⟨g1, 0, none⟩) n1 n1) := R2.cell 1
  have u2 : w3.cell? ⟨w.heap.size + 1, 2, none⟩ = some (.slice none 0 0) := R1.cell 2
  have v2 : w3.frozen? ⟨w.heap.size + 1, 2, none⟩ = false := R1.frozen 2
  have x2 : w3.cell? ⟨w.heap.size + 1 + 1, 2, none⟩ = some (.slice (some ⟨g2, 0, none⟩) n2 n2) := R2.cell 2
  have u3 : w3.cell? ⟨w.heap.size + 1, 3, none⟩ = some (.slice none 0 0) := R1.cell 3
  have v3 : w3.frozen? ⟨w.heap.size + 1, 3, none⟩ = false := R1.frozen 3
  have sz : (w3.setCell ⟨w.heap.size + 1 + 1, 3, none⟩ (.slice (some ⟨g3, 0, none⟩) n3 n3)).heap.size = w3.heap.size := by simp [World.setCell]
  have hz0 : w.heap.size + 1 + 1 < w3.heap.size := R2.lt
  replace R0 := R0.far (p := ⟨w.heap.size + 1 + 1, 3, none⟩) (by show w.heap.size + 1 + 1 ≠ _; omega) (.slice (some ⟨g3, 0, none⟩) n3 n3)
  replace R1 := R1.far (p := ⟨w.heap.size + 1 + 1, 3, none⟩) (by show w.heap.size + 1 + 1 ≠ _; omega) (.slice (some ⟨g3, 0, none⟩) n3 n3)
  replace R2 : Row (w3.setCell ⟨w.heap.size + 1 + 1, 3, none⟩ (.slice (some ⟨g3, 0, none⟩) n3 n3)) _ _ #[.int .i64 v, .slice (some ⟨g1, 0, none⟩) n1 n1, .slice (some ⟨g2, 0, none⟩) n2 n2, .slice (some ⟨g3, 0, none⟩) n3 n3] := R2.set 3 (.slice (some ⟨g3, 0, none⟩) n3 n3)
  replace HB := HB.setCell (p := ⟨w.heap.size + 1 + 1, 3, none⟩) (by show w.heap.size ≤ w.heap.size + 1 + 1; omega) (.slice (some ⟨g3, 0, none⟩) n3 n3)
  replace F1 := F1.far (p := ⟨w.heap.size + 1 + 1, 3, none⟩) (by show w.heap.size + 1 + 1 ≠ _; omega) (.slice (some ⟨g3, 0, none⟩) n3 n3)
  replace F2 := F2.far (p := ⟨w.heap.size + 1 + 1, 3, none⟩) (by show w.heap.size + 1 + 1 ≠ _; omega) (.slice (some ⟨g3, 0, none⟩) n3 n3)
  replace F3 := F3.far (p := ⟨w.heap.size + 1 + 1, 3, none⟩) (by show w.heap.size + 1 + 1 ≠ _; omega) (.slice (some ⟨g3, 0, none⟩) n3 n3)
  go_wp2_with fail
  replace F1 := F1.far (p := ⟨w.heap.size + 1, 0, none⟩) (by show w.heap.size + 1 ≠ _; omega) (.int .i64 v)
  replace F2 := F2.far (p := ⟨w.heap.size + 1, 0, none⟩) (by show w.heap.size + 1 ≠ _; omega) (.int .i64 v)
  replace F3 := F3.far (p := ⟨w.heap.size + 1, 0, none⟩) (by show w.heap.size + 1 ≠ _; omega) (.int .i64 v)
  replace HB := HB.setCell (p := ⟨w.heap.size + 1, 0, none⟩) (by show w.heap.size ≤ w.heap.size + 1; omega) (.int .i64 v)
  replace F1 := F1.far (p := ⟨w.heap.size + 1, 1, none⟩) (by show w.heap.size + 1 ≠ _; omega) (.slice (some ⟨g1, 0, none⟩) n1 n1)
  replace F2 := F2.far (p := ⟨w.heap.size + 1, 1, none⟩) (by show w.heap.size + 1 ≠ _; omega) (.slice (some ⟨g1, 0, none⟩) n1 n1)
  replace F3 := F3.far (p := ⟨w.heap.size + 1, 1, none⟩) (by show w.heap.size + 1 ≠ _; omega) (.slice (some ⟨g1, 0, none⟩) n1 n1)
  replace HB := HB.setCell (p := ⟨w.heap.size + 1, 1, none⟩) (by show w.heap.size ≤ w.heap.size + 1; omega) (.slice (some ⟨g1, 0, none⟩) n1 n1)
  replace F1 := F1.far (p := ⟨w.heap.size + 1, 2, none⟩) (by show w.heap.size + 1 ≠ _; omega) (.slice (some ⟨g2, 0, none⟩) n2 n2)
  replace F2 := F2.far (p := ⟨w.heap.size + 1, 2, none⟩) (by show w.heap.size + 1 ≠ _; omega) (.slice (some ⟨g2, 0, none⟩) n2 n2)
  replace F3 := F3.far (p := ⟨w.heap.size + 1, 2, none⟩) (by show w.heap.size + 1 ≠ _; omega) (.slice (some ⟨g2, 0, none⟩) n2 n2)
  replace HB := HB.setCell (p := ⟨w.heap.size + 1, 2, none⟩) (by show w.heap.size ≤ w.heap.size + 1; omega) (.slice (some ⟨g2, 0, none⟩) n2 n2)
  replace F1 := F1.far (p := ⟨w.heap.size + 1, 3, none⟩) (by show w.heap.size + 1 ≠ _; omega) (.slice (some ⟨g3, 0, none⟩) n3 n3)
  replace F2 := F2.far (p := ⟨w.heap.size + 1, 3, none⟩) (by show w.heap.size + 1 ≠ _; omega) (.slice (some ⟨g3, 0, none⟩) n3 n3)
  replace F3 := F3.far (p := ⟨w.heap.size + 1, 3, none⟩) (by show w.heap.size + 1 ≠ _; omega) (.slice (some ⟨g3, 0, none⟩) n3 n3)
  replace HB := HB.setCell (p := ⟨w.heap.size + 1, 3, none⟩) (by show w.heap.size ≤ w.heap.size + 1; omega) (.slice (some ⟨g3, 0, none⟩) n3 n3)
  refine bodyPost_ret (v := .agg #[.int .i64 v, .slice (some ⟨g1, 0, none⟩) n1 n1, .slice (some ⟨g2, 0, none⟩) n2 n2, .slice (some ⟨g3, 0, none⟩) n3 n3]) ?_ rfl ⟨g1, g2, g3, rfl, by omega, by omega, by omega, F1, F2, F3, HB⟩
  clear HB R0 R1 R2 F1 F2 F3
  simp [results, Try.results28, *, go_sem]
set_option maxRecDepth 100000 in
theorem szRows_in (v : Int) (A1 A2 A3 : Option Addr) (n1 n2 n3 c1 c2 c3 : Nat) (l : Int) (w : World) (hl : l ≤ 1048576) (h : 0 ≤ l - n1 - n2 - n3) :
    Calls Try.prog 26 #[.agg #[.int .i64 v, .slice A1 n1 c1, .slice A2 n2 c2, .slice A3 n3 c3], .int .i64 l] w fun e w' => e = .returned (.int .i64 (l - n1 - n2 - n3)) ∧ Below w.heap.size w w' := by
  have d1 : decide (l - (n1 : Int) < 0) = false := decide_eq_false (by omega)
  have d2 : decide (l - (n1 : Int) - (n2 : Int) < 0) = false := decide_eq_false (by omega)
  have d3 : decide (l - (n1 : Int) - (n2 : Int) - (n3 : Int) < 0) = false := decide_eq_false (by omega)
  go_enter Try.func26, Try.ntmps26
  go_wp2_with fail
  refine (szFloat32S_in A1 n1 c1 (l) _ (by omega) (by omega)).mono ?_
  rintro e wx ⟨rfl, rfl⟩
  go_wp2_with fail
  refine (szFloat32S_in A2 n2 c2 (l - n1) _ (by omega) (by omega)).mono ?_
  rintro e wx ⟨rfl, rfl⟩
  go_wp2_with fail
  refine (szFloat32S_in A3 n3 c3 (l - n1 - n2) _ (by omega) (by omega)).mono ?_
  rintro e wx ⟨rfl, rfl⟩
  go_wp2_with fail
  go_ret
  exact ⟨rfl, (Below.refl _ _).alloc (Nat.le_refl _) _⟩
set_option maxRecDepth 100000 in
theorem szRows_out (v : Int) (A1 A2 A3 : Option Addr) (n1 n2 n3 c1 c2 c3 : Nat) (l : Int) (w : World) (h0 : 0 ≤ l) (hl : l ≤ 1048576) (m1 : n1 ≤ maxLen) (m2 : n2 ≤ maxLen) (m3 : n3 ≤ maxLen) (h : l - n1 - n2 - n3 < 0) :
    Calls Try.prog 26 #[.agg #[.int .i64 v, .slice A1 n1 c1, .slice A2 n2 c2, .slice A3 n3 c3], .int .i64 l] w fun e w' => e = .returned (.int .i64 (-1)) ∧ Below w.heap.size w w' := by
  by_cases e1 : l - (n1 : Int) < 0
  · have d1 : decide ((-1 : Int) < 0) = true := rfl
    go_enter Try.func26, Try.ntmps26
    go_wp2_with fail
    refine (szFloat32S_out A1 n1 c1 (l) _ m1 (by omega) (by omega) (by omega)).mono ?_
    rintro e wx ⟨rfl, rfl⟩
    go_wp2_with fail
    go_ret
    exact ⟨rfl, (Below.refl _ _).alloc (Nat.le_refl _) _⟩
  by_cases e2 : l - (n1 : Int) - (n2 : Int) < 0
  · have d1 : decide (l - (n1 : Int) < 0) = false := decide_eq_false (by omega)
    have d2 : decide ((-1 : Int) < 0) = true := rfl
    go_enter Try.func26, Try.ntmps26
    go_wp2_with fail
    refine (szFloat32S_in A1 n1 c1 (l) _ (by omega) (by omega)).mono ?_
    rintro e wx ⟨rfl, rfl⟩
    go_wp2_with fail
    refine (szFloat32S_out A2 n2 c2 (l - n1) _ m2 (by omega) (by omega) (by omega)).mono ?_
    rintro e wx ⟨rfl, rfl⟩
    go_wp2_with fail
    go_ret
    exact ⟨rfl, (Below.refl _ _).alloc (Nat.le_refl _) _⟩
  have d1 : decide (l - (n1 : Int) < 0) = false := decide_eq_false (by omega)
  have d2 : decide (l - (n1 : Int) - (n2 : Int) < 0) = false := decide_eq_false (by omega)
  have d3 : decide ((-1 : Int) < 0) = true := rfl
  go_enter Try.func26, Try.ntmps26
  go_wp2_with fail
  refine (szFloat32S_in A1 n1 c1 (l) _ (by omega) (by omega)).mono ?_
  rintro e wx ⟨rfl, rfl⟩
  go_wp2_with fail
  refine (szFloat32S_in A2 n2 c2 (l - n1) _ (by omega) (by omega)).mono ?_
  rintro e wx ⟨rfl, rfl⟩
  go_wp2_with fail
  refine (szFloat32S_out A3 n3 c3 (l - n1 - n2) _ m3 (by omega) (by omega) (by omega)).mono ?_
  rintro e wx ⟨rfl, rfl⟩
  go_wp2_with fail
  go_ret
  exact ⟨rfl, (Below.refl _ _).alloc (Nat.le_refl _) _⟩
set_option maxRecDepth 100000 in
theorem eqRows_any (v : Int) (A1 A2 A3 B1 B2 B3 : Option Addr) (n1 n2 n3 c1 c2 c3 d1 d2 d3 : Nat) (L1 : List Nat) (L2 : List Nat) (L3 : List Nat) (w : World) (h1 : FS w A1 n1 L1) (h2 : FS w A2 n2 L2) (h3 : FS w A3 n3 L3) (k1 : FS w B1 n1 L1) (k2 : FS w B2 n2 L2) (k3 : FS w B3 n3 L3) (b1 : n1 ≤ 1048576) (b2 : n2 ≤ 1048576) (b3 : n3 ≤ 1048576) :
    Calls Try.prog 30 #[.agg #[.int .i64 v, .slice A1 n1 c1, .slice A2 n2 c2, .slice A3 n3 c3], .agg #[.int .i64 v, .slice B1 n1 d1, .slice B2 n2 d2, .slice B3 n3 d3]] w fun e w' => e = .returned (.bool true) ∧ Below w.heap.size w w' := by
  have hb : Below w.heap.size w ((w.alloc (.cells #[.int .i64 v, .slice A1 n1 c1, .slice A2 n2 c2, .slice A3 n3 c3] 36)).alloc (.cells #[.int .i64 v, .slice B1 n1 d1, .slice B2 n2 d2, .slice B3 n3 d3] 36)) := ((Below.refl _ _).alloc (Nat.le_refl _) _).alloc (by simp) _
  go_enter Try.func30, Try.ntmps30
  go_wp2_with fail
  refine (eqFloat32S_alike A1 B1 n1 c1 d1 L1 L1 _ (h1.below hb) (k1.below hb) b1 rfl).mono ?_
  rintro e wx ⟨q1, rfl, rfl⟩
  go_wp2_with fail
  refine (eqFloat32S_alike A2 B2 n2 c2 d2 L2 L2 _ ((h2.below hb).drewN _) ((k2.below hb).drewN _) b2 rfl).mono ?_
  rintro e wx ⟨q2, rfl, rfl⟩
  go_wp2_with fail
  refine (eqFloat32S_alike A3 B3 n3 c3 d3 L3 L3 _ ((h3.below hb).drewN _) ((k3.below hb).drewN _) b3 rfl).mono ?_
  rintro e wx ⟨q3, rfl, rfl⟩
  go_wp2_with fail
  go_ret
  exact ⟨rfl, below_drewN hb _⟩
set_option maxRecDepth 100000 in
theorem toTable_any (v : Int) (A1 A2 : Option Addr) (n1 n2 c1 c2 : Nat) (L1 : List Nat) (L2 : List Int) (w : World) (h1 : FS w A1 n1 L1) (h2 : IS w A2 n2 L2) (b1 : n1 ≤ 1048576) (b2 : n2 ≤ 1048576) :
    Calls Try.prog 35 #[.agg #[.int .i64 v, .slice A1 n1 c1, .slice A2 n2 c2]] w fun e w' => ∃ g1 g2 : Nat, e = .returned (.agg #[.int .i64 v, .slice (some ⟨g1, 0, none⟩) n1 n1, .slice (some ⟨g2, 0, none⟩) n2 n2]) ∧ w.heap.size ≤ g1 ∧ g1 < g2 ∧ FR w' g1 n1 L1 ∧ IR w' g2 n2 L2 ∧ Below w.heap.size w w' := by
  have s1 : (w.alloc (.cells #[.int .i64 v, .slice A1 n1 c1, .slice A2 n2 c2] 43)).heap.size = w.heap.size + 1 := by simp
  have s2 : ((w.alloc (.cells #[.int .i64 v, .slice A1 n1 c1, .slice A2 n2 c2] 43)).alloc (.cells #[.int .i64 0, .slice none 0 0, .slice none 0 0] 46)).heap.size = w.heap.size + 1 + 1 := by simp
  have s3 : (((w.alloc (.cells #[.int .i64 v, .slice A1 n1 c1, .slice A2 n2 c2] 43)).alloc (.cells #[.int .i64 0, .slice none 0 0, .slice none 0 0] 46)).alloc (.cells #[.int .i64 v, .slice none 0 0, .slice none 0 0] 46)).heap.size = w.heap.size + 1 + 1 + 1 := by simp
  have HB : Below w.heap.size w (((w.alloc (.cells #[.int .i64 v, .slice A1 n1 c1, .slice A2 n2 c2] 43)).alloc (.cells #[.int .i64 0, .slice none 0 0, .slice none 0 0] 46)).alloc (.cells #[.int .i64 v, .slice none 0 0, .slice none 0 0] 46)) := (((Below.refl w.heap.size w).alloc (Nat.le_refl _) _).alloc (by simp) _).alloc (by simp; omega) _
  have R0 : Row (((w.alloc (.cells #[.int .i64 v, .slice A1 n1 c1, .slice A2 n2 c2] 43)).alloc (.cells #[.int .i64 0, .slice none 0 0, .slice none 0 0] 46)).alloc (.cells #[.int .i64 v, .slice none 0 0, .slice none 0 0] 46)) w.heap.size 43 #[.int .i64 v, .slice A1 n1 c1, .slice A2 n2 c2] := ((Row.new w 43 #[.int .i64 v, .slice A1 n1 c1, .slice A2 n2 c2]).alloc _).alloc _
  have R1 : Row (((w.alloc (.cells #[.int .i64 v, .slice A1 n1 c1, .slice A2 n2 c2] 43)).alloc (.cells #[.int .i64 0, .slice none 0 0, .slice none 0 0] 46)).alloc (.cells #[.int .i64 v, .slice none 0 0, .slice none 0 0] 46)) (w.heap.size + 1) 46 #[.int .i64 0, .slice none 0 0, .slice none 0 0] := by have := (Row.new (w.alloc (.cells #[.int .i64 v, .slice A1 n1 c1, .slice A2 n2 c2] 43)) 46 #[.int .i64 0, .slice none 0 0, .slice none 0 0]).alloc (.cells #[.int .i64 v, .slice none 0 0, .slice none 0 0] 46); rwa [s1] at this
  have R2 : Row (((w.alloc (.cells #[.int .i64 v, .slice A1 n1 c1, .slice A2 n2 c2] 43)).alloc (.cells #[.int .i64 0, .slice none 0 0, .slice none 0 0] 46)).alloc (.cells #[.int .i64 v, .slice none 0 0, .slice none 0 0] 46)) (w.heap.size + 1 + 1) 46 #[.int .i64 v, .slice none 0 0, .slice none 0 0] := by have := Row.new ((w.alloc (.cells #[.int .i64 v, .slice A1 n1 c1, .slice A2 n2 c2] 43)).alloc (.cells #[.int .i64 0, .slice none 0 0, .slice none 0 0] 46)) 46 #[.int .i64 v, .slice none 0 0, .slice none 0 0]; rwa [s2] at this
  clear s1 s2
  go_enter Try.func35, Try.ntmps35
  go_wp2_with fail
  refine (toFloat32S_new A1 n1 c1 L1 _ (h1.below HB) b1).mono ?_
  rintro e w1 ⟨g1, rfl, hg1, F1, hb⟩
  rw [s3] at hg1 hb
  replace R0 := R0.below hb (by omega)
  replace R1 := R1.below hb (by omega)
  replace R2 := R2.below hb (by omega)
  replace HB := HB.trans (hb.mono (by omega))
  have lt1 := F1.lt
  have hz1 := hb.size
  clear hb s3
  have ks : w1.cell? ⟨w.heap.size + 1 + 1, 1, none⟩ = some (.slice none 0 0) := R2.cell 1
  have kf : w1.frozen? ⟨w.heap.size + 1 + 1, 1, none⟩ = false := R2.frozen 1
  have sz : (w1.setCell ⟨w.heap.size + 1 + 1, 1, none⟩ (.slice (some ⟨g1, 0, none⟩) n1 n1)).heap.size = w1.heap.size := by simp [World.setCell]
  have hz0 : w.heap.size + 1 + 1 < w1.heap.size := R2.lt
  replace R0 := R0.far (p := ⟨w.heap.size + 1 + 1, 1, none⟩) (by show w.heap.size + 1 + 1 ≠ _; omega) (.slice (some ⟨g1, 0, none⟩) n1 n1)
  replace R1 := R1.far (p := ⟨w.heap.size + 1 + 1, 1, none⟩) (by show w.heap.size + 1 + 1 ≠ _; omega) (.slice (some ⟨g1, 0, none⟩) n1 n1)
  replace R2 : Row (w1.setCell ⟨w.heap.size + 1 + 1, 1, none⟩ (.slice (some ⟨g1, 0, none⟩) n1 n1)) _ _ #[.int .i64 v, .slice (some ⟨g1, 0, none⟩) n1 n1, .slice none 0 0] := R2.set 1 (.slice (some ⟨g1, 0, none⟩) n1 n1)
  replace HB := HB.setCell (p := ⟨w.heap.size + 1 + 1, 1, none⟩) (by show w.heap.size ≤ w.heap.size + 1 + 1; omega) (.slice (some ⟨g1, 0, none⟩) n1 n1)
  replace F1 := F1.far (p := ⟨w.heap.size + 1 + 1, 1, none⟩) (by show w.heap.size + 1 + 1 ≠ _; omega) (.slice (some ⟨g1, 0, none⟩) n1 n1)
  have kl : w1.cell? ⟨w.heap.size, 2, none⟩ = some (.slice A2 n2 c2) := by have := R0.cell 2; rw [World.cell?_setCell_other _ _ _ _ (ne_block (by omega))] at this; exact this
  go_wp2_with fail
  refine (toInt64S_new A2 n2 c2 L2 _ (h2.below HB) b2).mono ?_
  rintro e w2 ⟨g2, rfl, hg2, F2, hb⟩
  rw [sz] at hg2 hb
  replace R0 := R0.below hb (by omega)
  replace R1 := R1.below hb (by omega)
  replace R2 := R2.below hb (by omega)
  replace F1 := F1.below hb (by omega)
  replace HB := HB.trans (hb.mono (by omega))
  have lt2 := F2.lt
  have hz2 := hb.size
  clear hb sz
  clear ks kf kl
  have ks : w2.cell? ⟨w.heap.size + 1 + 1, 2, none⟩ = some (.slice none 0 0) := R2.cell 2
  have kf : w2.frozen? ⟨w.heap.size + 1 + 1, 2, none⟩ = false := R2.frozen 2
  have u0 : w2.cell? ⟨w.heap.size + 1, 0, none⟩ = some (.int .i64 0) := R1.cell 0
  have v0 : w2.frozen? ⟨w.heap.size + 1, 0, none⟩ = false := R1.frozen 0
  have x0 : w2.cell? ⟨w.heap.size + 1 + 1, 0, none⟩ = some (.int .i64 v) := R2.cell 0
  have u1 : w2.cell? ⟨w.heap.size + 1, 1, none⟩ = some (.slice none 0 0) := R1.cell 1
  have v1 : w2.frozen? ⟨w.heap.size + 1, 1, none⟩ = false := R1.frozen 1
  have x1 : w2.cell? ⟨w.heap.size + 1 + 1, 1, none⟩ = some (.slice (some ⟨g1, 0, none⟩) n1 n1) := R2.cell 1
  have u2 : w2.cell? ⟨w.heap.size + 1, 2, none⟩ = some (.slice none 0 0) := R1.cell 2
  have v2 : w2.frozen? ⟨w.heap.size + 1, 2, none⟩ = false := R1.frozen 2
  have sz : (w2.setCell ⟨w.heap.size + 1 + 1, 2, none⟩ (.slice (some ⟨g2, 0, none⟩) n2 n2)).heap.size = w2.heap.size := by simp [World.setCell]
  have hz0 : w.heap.size + 1 + 1 < w2.heap.size := R2.lt
  replace R0 := R0.far (p := ⟨w.heap.size + 1 + 1, 2, none⟩) (by show w.heap.size + 1 + 1 ≠ _; omega) (.slice (some ⟨g2, 0, none⟩) n2 n2)
  replace R1 := R1.far (p := ⟨w.heap.size + 1 + 1, 2, none⟩) (by show w.heap.size + 1 + 1 ≠ _; omega) (.slice (some ⟨g2, 0, none⟩) n2 n2)
  replace R2 : Row (w2.setCell ⟨w.heap.size + 1 + 1, 2, none⟩ (.slice (some ⟨g2, 0, none⟩) n2 n2)) _ _ #[.int .i64 v, .slice (some ⟨g1, 0, none⟩) n1 n1, .slice (some ⟨g2, 0, none⟩) n2 n2] := R2.set 2 (.slice (some ⟨g2, 0, none⟩) n2 n2)
  replace HB := HB.setCell (p := ⟨w.heap.size + 1 + 1, 2, none⟩) (by show w.heap.size ≤ w.heap.size + 1 + 1; omega) (.slice (some ⟨g2, 0, none⟩) n2 n2)
  replace F1 := F1.far (p := ⟨w.heap.size + 1 + 1, 2, none⟩) (by show w.heap.size + 1 + 1 ≠ _; omega) (.slice (some ⟨g2, 0, none⟩) n2 n2)
  replace F2 := F2.far (p := ⟨w.heap.size + 1 + 1, 2, none⟩) (by show w.heap.size + 1 + 1 ≠ _; omega) (.slice (some ⟨g2, 0, none⟩) n2 n2)
  go_wp2_with fail
  replace F1 := F1.far (p := ⟨w.heap.size + 1, 0, none⟩) (by show w.heap.size + 1 ≠ _; omega) (.int .i64 v)
  replace F2 := F2.far (p := ⟨w.heap.size + 1, 0, none⟩) (by show w.heap.size + 1 ≠ _; omega) (.int .i64 v)
  replace HB := HB.setCell (p := ⟨w.heap.size + 1, 0, none⟩) (by show w.heap.size ≤ w.heap.size + 1; omega) (.int .i64 v)
  replace F1 := F1.far (p := ⟨w.heap.size + 1, 1, none⟩) (by show w.heap.size + 1 ≠ _; omega) (.slice (some ⟨g1, 0, none⟩) n1 n1)
  replace F2 := F2.far (p := ⟨w.heap.size + 1, 1, none⟩) (by show w.heap.size + 1 ≠ _; omega) (.slice (some ⟨g1, 0, none⟩) n1 n1)
  replace HB := HB.setCell (p := ⟨w.heap.size + 1, 1, none⟩) (by show w.heap.size ≤ w.heap.size + 1; omega) (.slice (some ⟨g1, 0, none⟩) n1 n1)
  replace F1 := F1.far (p := ⟨w.heap.size + 1, 2, none⟩) (by show w.heap.size + 1 ≠ _; omega) (.slice (some ⟨g2, 0, none⟩) n2 n2)
  replace F2 := F2.far (p := ⟨w.heap.size + 1, 2, none⟩) (by show w.heap.size + 1 ≠ _; omega) (.slice (some ⟨g2, 0, none⟩) n2 n2)
  replace HB := HB.setCell (p := ⟨w.heap.size + 1, 2, none⟩) (by show w.heap.size ≤ w.heap.size + 1; omega) (.slice (some ⟨g2, 0, none⟩) n2 n2)
  refine bodyPost_ret (v := .agg #[.int .i64 v, .slice (some ⟨g1, 0, none⟩) n1 n1, .slice (some ⟨g2, 0, none⟩) n2 n2]) ?_ rfl ⟨g1, g2, rfl, by omega, by omega, F1, F2, HB⟩
  clear HB R0 R1 R2 F1 F2
  simp [results, Try.results35, *, go_sem]
set_option maxRecDepth 100000 in
theorem szTable_in (v : Int) (A1 A2 : Option Addr) (n1 n2 c1 c2 : Nat) (l : Int) (w : World) (hl : l ≤ 1048576) (h : 0 ≤ l - n1 - n2) :
    Calls Try.prog 33 #[.agg #[.int .i64 v, .slice A1 n1 c1, .slice A2 n2 c2], .int .i64 l] w fun e w' => e = .returned (.int .i64 (l - n1 - n2)) ∧ Below w.heap.size w w' := by
  have d1 : decide (l - (n1 : Int) < 0) = false := decide_eq_false (by omega)
  have d2 : decide (l - (n1 : Int) - (n2 : Int) < 0) = false := decide_eq_false (by omega)
  go_enter Try.func33, Try.ntmps33
  go_wp2_with fail
  refine (szFloat32S_in A1 n1 c1 (l) _ (by omega) (by omega)).mono ?_
  rintro e wx ⟨rfl, rfl⟩
  go_wp2_with fail
  refine (szInt64S_in A2 n2 c2 (l - n1) _ (by omega) (by omega)).mono ?_
  rintro e wx ⟨rfl, rfl⟩
  go_wp2_with fail
  go_ret
  exact ⟨rfl, (Below.refl _ _).alloc (Nat.le_refl _) _⟩
set_option maxRecDepth 100000 in
theorem szTable_out (v : Int) (A1 A2 : Option Addr) (n1 n2 c1 c2 : Nat) (l : Int) (w : World) (h0 : 0 ≤ l) (hl : l ≤ 1048576) (m1 : n1 ≤ maxLen) (m2 : n2 ≤ maxLen) (h : l - n1 - n2 < 0) :
    Calls Try.prog 33 #[.agg #[.int .i64 v, .slice A1 n1 c1, .slice A2 n2 c2], .int .i64 l] w fun e w' => e = .returned (.int .i64 (-1)) ∧ Below w.heap.size w w' := by
  by_cases e1 : l - (n1 : Int) < 0
  · have d1 : decide ((-1 : Int) < 0) = true := rfl
    go_enter Try.func33, Try.ntmps33
    go_wp2_with fail
    refine (szFloat32S_out A1 n1 c1 (l) _ m1 (by omega) (by omega) (by omega)).mono ?_
    rintro e wx ⟨rfl, rfl⟩
    go_wp2_with fail
    go_ret
    exact ⟨rfl, (Below.refl _ _).alloc (Nat.le_refl _) _⟩
  have d1 : decide (l - (n1 : Int) < 0) = false := decide_eq_false (by omega)
  have d2 : decide ((-1 : Int) < 0) = true := rfl
  go_enter Try.func33, Try.ntmps33
  go_wp2_with fail
  refine (szFloat32S_in A1 n1 c1 (l) _ (by omega) (by omega)).mono ?_
  rintro e wx ⟨rfl, rfl⟩
  go_wp2_with fail
  refine (szInt64S_out A2 n2 c2 (l - n1) _ m2 (by omega) (by omega) (by omega)).mono ?_
  rintro e wx ⟨rfl, rfl⟩
  go_wp2_with fail
  go_ret
  exact ⟨rfl, (Below.refl _ _).alloc (Nat.le_refl _) _⟩
set_option maxRecDepth 100000 in
theorem eqTable_any (v : Int) (A1 A2 B1 B2 : Option Addr) (n1 n2 c1 c2 d1 d2 : Nat) (L1 : List Nat) (L2 : List Int) (w : World) (h1 : FS w A1 n1 L1) (h2 : IS w A2 n2 L2) (k1 : FS w B1 n1 L1) (k2 : IS w B2 n2 L2) (b1 : n1 ≤ 1048576) (b2 : n2 ≤ 1048576) :
    Calls Try.prog 37 #[.agg #[.int .i64 v, .slice A1 n1 c1, .slice A2 n2 c2], .agg #[.int .i64 v, .slice B1 n1 d1, .slice B2 n2 d2]] w fun e w' => e = .returned (.bool true) ∧ Below w.heap.size w w' := by
  have hb : Below w.heap.size w ((w.alloc (.cells #[.int .i64 v, .slice A1 n1 c1, .slice A2 n2 c2] 46)).alloc (.cells #[.int .i64 v, .slice B1 n1 d1, .slice B2 n2 d2] 46)) := ((Below.refl _ _).alloc (Nat.le_refl _) _).alloc (by simp) _
  go_enter Try.func37, Try.ntmps37
  go_wp2_with fail
  refine (eqFloat32S_alike A1 B1 n1 c1 d1 L1 L1 _ (h1.below hb) (k1.below hb) b1 rfl).mono ?_
  rintro e wx ⟨q1, rfl, rfl⟩
  go_wp2_with fail
  refine (eqInt64S_same A2 B2 n2 c2 d2 L2 _ ((h2.below hb).drewN _) ((k2.below hb).drewN _) b2).mono ?_
  rintro e wx ⟨q2, rfl, rfl⟩
  go_wp2_with fail
  go_ret
  exact ⟨rfl, below_drewN hb _⟩
end Go.Proofs.Yteodplednmeaaaa
