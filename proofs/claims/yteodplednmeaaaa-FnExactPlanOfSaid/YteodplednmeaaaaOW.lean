/- Lists that the call owns: compared, marked, and read again; a list may be nil. -/
import Derived.Test.YteodplednmeaaaaMR
namespace Go.Proofs.Yteodplednmeaaaa
open Go.RowKit
set_option linter.unusedVariables false
set_option linter.unusedSimpArgs false

theorem own_form {w : World} {base n : Nat} {e : TypeId} {u : Value} {xs : List Value} (h : w.ownsRow base e 1 u n xs) :
    (u = .slice none 0 0 ∧ n = 0 ∧ xs = []) ∨ ∃ g c, u = .slice (some ⟨g, 0, none⟩) n c := by
  rcases h.2 with ⟨h1, h2⟩ | ⟨g, c, cur, h1, _⟩
  · exact .inl ⟨h1, h2, by have := h.1; rw [h2] at this; exact List.eq_nil_of_length_eq_zero (by omega)⟩
  · exact .inr ⟨g, c, h1⟩
theorem own_float {w : World} {base n : Nat} {u : Value} {L : List Nat} (h : w.ownsRow base 23 1 u n (L.map (Value.float .f32))) :
    ∃ A c, u = .slice A n c ∧ FS w A n L := by
  have hl : L.length = n := by have := h.1; simpa using this
  rcases own_form h with ⟨rfl, rfl, h3⟩ | ⟨g, c, rfl⟩
  · exact ⟨none, 0, rfl, hl, fun h0 => absurd h0 (Nat.lt_irrefl 0)⟩
  · refine ⟨_, c, rfl, hl, fun hn => ⟨g, 0, rfl, (h.lt g rfl).2, fun j hj => ?_⟩⟩
    rw [Nat.zero_add, h.cellAt j (by omega), List.getElem?_map, List.getD_eq_getElem?_getD, List.getElem?_eq_getElem (by omega)]
    rfl
theorem Wrote.owned {S : List Nat} {w w' : World} {base size n : Nat} {u : Value} {e : TypeId} {xs : List Value} (h : Wrote S w w') (ho : w.ownsRow base e size u n xs) (hg : ∀ g, u.ownBlock = some g → g ∉ S) : w'.ownsRow base e size u n xs := by
  refine ⟨ho.1, ?_⟩
  rcases ho.2 with h0 | ⟨g', cap', cur, rfl, e2, e3, e4⟩
  · exact .inl h0
  · exact .inr ⟨g', cap', cur, rfl, e2, by rw [h.block g' (ho.lt g' rfl).2 (hg g' rfl)]; exact e3, e4⟩
theorem Wrote.nil (w : World) : Wrote [] w w := ⟨rfl, rfl, rfl, Nat.le_refl _, fun _ _ _ => rfl⟩
def ownL (u : Value) : List Nat := u.ownBlock.toList
theorem ownL_mem {w : World} {base n size : Nat} {u : Value} {e : TypeId} {xs : List Value} (h : w.ownsRow base e size u n xs) {k : Nat} (hk : k ∈ ownL u) : base ≤ k ∧ k < w.heap.size :=
  h.lt k (by simpa [ownL] using hk)
theorem eq_own (b1 b2 n : Nat) (u v : Value) (L : List Nat) (w : World) (h : w.ownsRow b1 23 1 u n (L.map (Value.float .f32))) (h' : w.ownsRow b2 23 1 v n (L.map (Value.float .f32))) (hn : n ≤ 1048576) :
    Calls Try.prog 23 #[u, v] w fun e w' => ∃ k, e = .returned (.bool true) ∧ w' = w.drewN k := by
  obtain ⟨A, c, rfl, f1⟩ := own_float h
  obtain ⟨B, d, rfl, f2⟩ := own_float h'
  exact eqFloat32S_alike A B n c d L L w f1 f2 hn rfl
theorem mark_own (base n k : Nat) (u : Value) (xs : List Value) (w : World) (h : w.ownsRow base 23 1 u n xs) (hn : n ≤ 1048576) (hk : k ≤ 16777216) :
    Calls Try.prog 53 #[u, .int .i64 (k : Int)] w fun e w' => e = .returned (.int .i64 ((k + n : Nat) : Int)) ∧ w'.ownsRow base 23 1 u n ((markL k n).map (Value.float .f32)) ∧ Wrote (ownL u) w w' := by
  rcases own_form h with ⟨rfl, rfl, rfl⟩ | ⟨g, c, rfl⟩
  · refine (mark_none k w hk).mono ?_
    rintro e w' ⟨rfl, rfl⟩
    exact ⟨rfl, h, Wrote.nil _⟩
  · refine (mark_any base g n c k xs w h hn hk).mono ?_
    rintro e w' ⟨rfl, ho, hg⟩
    exact ⟨rfl, ho, Wrote.of_grown hg⟩
theorem held_own (base n k : Nat) (u : Value) (w : World) (h : w.ownsRow base 23 1 u n ((markL k n).map (Value.float .f32))) (hn : n ≤ 1048576) (hk : k ≤ 16777216) :
    Calls Try.prog 54 #[u, .int .i64 (k : Int)] w fun e w' => e = .returned (.int .i64 ((k + n : Nat) : Int)) ∧ w' = w := by
  rcases own_form h with ⟨rfl, rfl, _⟩ | ⟨g, c, rfl⟩
  · exact held_none k w hk
  · exact held_any base g n c k w h hn hk
end Go.Proofs.Yteodplednmeaaaa
