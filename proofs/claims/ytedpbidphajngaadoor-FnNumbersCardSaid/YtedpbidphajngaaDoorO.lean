/- Arguments that came in, opened: slices of single floats, slices of integers, structs of them. -/
import Derived.Test.YtedpbidphajngaaDoorM
import Derived.ProofKit
import Derived.OpenShut
import Derived.ChangeSame
import Derived.Deep.Slices
import Derived.Lib.SmallJoins
import Derived.Laws.Cover2
namespace Go.Proofs.YtedpbidphajngaaDoor
open Go.ChangeShapes Go.WideShapes Go.RowKit Go.Joins Go.Deep
set_option linter.unusedVariables false
set_option linter.unusedSimpArgs false

section
variable {H : Type} {enc : TypeId × Value → H} {P : Program} {w : World} {base : Nat} {spare : Nat → Bool} {held : Bool}
theorem list_of {α : Type} (z : α) (Q : Nat → α → Prop) : ∀ n : Nat, (∀ i, i < n → ∃ a, Q i a) → ∃ L : List α, L.length = n ∧ ∀ i, i < n → Q i (L.getD i z)
  | 0, _ => ⟨[], rfl, fun i hi => by omega⟩
  | n + 1, h => by
    obtain ⟨L, hl, hL⟩ := list_of z Q n (fun i hi => h i (by omega))
    obtain ⟨a, ha⟩ := h n (by omega)
    refine ⟨L ++ [a], by simp [hl], fun i hi => ?_⟩
    rw [List.getD_eq_getElem?_getD]
    by_cases e : i < n
    · rw [List.getElem?_append_left (by omega), ← List.getD_eq_getElem?_getD]; exact hL i e
    · have : i = L.length := by omega
      subst this
      rw [List.getElem?_append_right (Nat.le_refl _), Nat.sub_self]
      rw [hl]; exact ha
theorem cell_lt {w : World} {a : Addr} {v : Value} (h : w.cell? a = some v) : a.block < w.heap.size := by
  rcases Nat.lt_or_ge a.block w.heap.size with hlt | hge
  · exact hlt
  · simp [World.cell?, Array.getElem?_eq_none hge] at h

theorem open_list {α : Type} {f : α → Value} {z : α} {good : α → Prop} {t e : TypeId} {fuel : Nat} {v : Value} {x : DataW H × List MemPlace} (ht : P.underlying t = some (.slice e)) (hc : P.cellsOf e = 1)
    (hdec : ∀ n v x, DataW.trod enc P w base spare held n e [v] = some x → ∃ a, v = f a ∧ good a) (h : DataW.trod enc P w base spare held fuel t [v] = some x) :
    ∃ A n c L, v = .slice A n c ∧ SL f z w A n L ∧ n ≤ maxLen ∧ ∀ a ∈ L, good a := by
  rcases open_slice1 ht hc h with ⟨hcs, _⟩ | ⟨a, len, cap, m, n, V, D, Pl, hcs, hb, hl, hm, hmm, hx, hv⟩
  · simp only [List.cons.injEq, and_true] at hcs
    exact ⟨none, 0, 0, [], hcs, ⟨rfl, fun h => by omega⟩, Nat.zero_le _, fun a ha => by cases ha⟩
  · simp only [List.cons.injEq, and_true] at hcs
    have hlm : len ≤ m := by rw [hmm]; split <;> omega
    obtain ⟨L, hL, hQ⟩ := list_of z (fun i b => w.cell? (a.add i) = some (f b) ∧ good b) len (fun i hi => by
      obtain ⟨h1, h2⟩ := hv i (by omega)
      obtain ⟨b, hb1, hb2⟩ := hdec _ _ _ h2
      exact ⟨b, by rw [h1, hb1], hb2⟩)
    refine ⟨some a, len, cap, L, hcs, ⟨hL, fun hp => ?_⟩, Nat.le_trans hl hm, fun b hb => ?_⟩
    · obtain ⟨b, off, spot⟩ := a
      have h0 := (hQ 0 hp).1
      have hs : spot = none := by simpa [Addr.add] using World.cell?_spot h0
      subst hs
      refine ⟨b, off, rfl, ?_, fun j hj => ?_⟩
      · have := cell_lt h0
        simpa [Addr.add] using this
      · have := (hQ j hj).1
        unfold Addr.add at this
        by_cases e : j = 0
        · subst e; simpa using this
        · simpa [e] using this
    · obtain ⟨i, hi⟩ := List.getElem?_of_mem hb
      have hlt : i < L.length := (List.getElem?_eq_some_iff.1 hi).1
      have := (hQ i (by omega)).2
      rw [List.getD_eq_getElem?_getD, hi] at this
      exact this
theorem dec_float {k : FloatKind} {e : TypeId} (he : P.underlying e = some (.float k)) (n : Nat) (v : Value) (x : DataW H × List MemPlace) (h : DataW.trod enc P w base spare held n e [v] = some x) :
    ∃ b, v = .float k b ∧ (Lit.float k b).wf = true := by
  cases n with
  | zero => simp [DataW.trod] at h
  | succ m =>
    unfold DataW.trod at h
    rw [he] at h
    simp only at h
    split at h <;> simp_all
theorem dec_int {k : IntKind} {e : TypeId} (he : P.underlying e = some (.int k)) (n : Nat) (v : Value) (x : DataW H × List MemPlace) (h : DataW.trod enc P w base spare held n e [v] = some x) :
    ∃ b, v = .int k b ∧ (Lit.int k b).wf = true := by
  obtain ⟨b, h1, _, h3⟩ := DataW.trod_int he h
  simp only [List.cons.injEq, and_true] at h1
  exact ⟨b, h1, h3⟩
end

/-- a slice of single floats that came in -/
def FArg (w : World) (A : Option Addr) (n : Nat) (L : List Nat) : Prop := FS w A n L ∧ n ≤ maxLen ∧ ∀ x ∈ L, (Lit.float .f32 x).wf = true
/-- a slice of bytes that came in -/
def BArg (w : World) (A : Option Addr) (n : Nat) (L : List Int) : Prop := SL (Value.int .u8) 0 w A n L ∧ n ≤ maxLen ∧ ∀ x ∈ L, (Lit.int .u8 x).wf = true
/-- a slice of integers that came in -/
def IArg (w : World) (A : Option Addr) (n : Nat) (L : List Int) : Prop := IS w A n L ∧ n ≤ maxLen ∧ ∀ x ∈ L, (Lit.int .i64 x).wf = true

section
variable {H : Type} {enc : TypeId × Value → H} {w : World} {base : Nat} {spare : Nat → Bool} {held : Bool}
theorem byte_cells : Tryd.prog.cellsOf 5 = 1 := by kernel_rfl
theorem open_bytes_trod {fuel : Nat} {v : Value} {x : DataW H × List MemPlace} (h : DataW.trod enc Tryd.prog w base spare held fuel 46 [v] = some x) : ∃ A n c L, v = .slice A n c ∧ BArg w A n L := by
  obtain ⟨A, n, c, L, h1, h2, h3, h4⟩ := open_list (z := 0) Tryd.underlying46 byte_cells (fun n v x hx => dec_int Tryd.underlying5 n v x hx) h
  exact ⟨A, n, c, L, h1, h2, h3, h4⟩
set_option maxRecDepth 100000 in
theorem open_bytes_arg {r : Reach} {b0 : Nat} {v : Value} {d : DataW H} {p : List MemPlace} (hv : Value.okWide Tryd.prog w r b0 46 v) (h : DataW.Trod enc Tryd.prog w base spare held 46 v d p) : ∃ A n c L, v = .slice A n c ∧ BArg w A n L := by
  obtain ⟨fuel, hf⟩ := h
  obtain ⟨a0, len, cap, rfl⟩ := okWide_slice Tryd.underlying46 hv
  exact open_bytes_trod (by simpa [Value.cells] using hf)
end
end Go.Proofs.YtedpbidphajngaaDoor
