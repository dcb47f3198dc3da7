/- Copies, comparisons and marks of slices. -/
import Derived.Test.YtedpbidphajngaaDoorM
import Derived.Test.YtedpbidphajngaaDoorB
import Derived.Test.YtedpbidphajngaaDoorLo
import Derived.Laws.MakeOwn
import Derived.OwnWalk
namespace Go.Proofs.YtedpbidphajngaaDoor
open Go.RowKit
set_option linter.unusedVariables false
set_option linter.unusedSimpArgs false

theorem run_store_float (P : Program) (w : World) (a : Addr) (m : Mode) (k : FloatKind) (b : Nat) : (store a (.float k b) m).run P w = stored P w a (.float k b) m := run_store P w a _ m rfl
attribute [local go_sem] lo_value lo_enter run_store_float

/-- block g is just these cells of this element type, none of them frozen -/
def Row (w : World) (g : Nat) (t : TypeId) (vs : Array Value) : Prop := w.heap[g]? = some (.cells vs t (0, 0))
theorem Row.below {w w' : World} {g B : Nat} {t : TypeId} {vs : Array Value} (h : Row w g t vs) (hb : Below B w w') (hg : g < B) : Row w' g t vs := (hb.block g hg).trans h
theorem Row.lt {w : World} {g : Nat} {t : TypeId} {vs : Array Value} (h : Row w g t vs) : g < w.heap.size := by
  rcases Nat.lt_or_ge g w.heap.size with hlt | hge
  · exact hlt
  · unfold Row at h; rw [Array.getElem?_eq_none hge] at h; cases h
theorem Row.cell {w : World} {g : Nat} {t : TypeId} {vs : Array Value} (h : Row w g t vs) (j : Nat) : w.cell? ⟨g, j, none⟩ = vs[j]? := by
  unfold Row at h
  simp [World.cell?, h]
theorem Row.frozen {w : World} {g : Nat} {t : TypeId} {vs : Array Value} (h : Row w g t vs) (j : Nat) : w.frozen? ⟨g, j, none⟩ = false := by
  unfold Row at h
  simp [World.frozen?, h]
theorem Row.set {w : World} {g : Nat} {t : TypeId} {vs : Array Value} (h : Row w g t vs) (j : Nat) (v : Value) : Row (w.setCell ⟨g, j, none⟩ v) g t (vs.setIfInBounds j v) := by
  unfold Row at h ⊢
  simp [World.setCell, Array.getElem?_modify, h]
theorem Row.alloc {w : World} {g : Nat} {t : TypeId} {vs : Array Value} (h : Row w g t vs) (o : Obj) : Row (w.alloc o) g t vs := (Below.heap_alloc w o g h.lt).trans h
theorem Row.new (w : World) (t : TypeId) (vs : Array Value) : Row (w.alloc (.cells vs t)) w.heap.size t vs := heap_alloc_new w _
theorem Row.far {w : World} {g : Nat} {t : TypeId} {vs : Array Value} (h : Row w g t vs) {p : Addr} (hp : p.block ≠ g) (u : Value) : Row (w.setCell p u) g t vs := (Below.heap_setCell w p u g (fun e => hp e.symm)).trans h
theorem Row.drewN {w : World} {g : Nat} {t : TypeId} {vs : Array Value} (h : Row w g t vs) (n : Nat) : Row (w.drewN n) g t vs := h

/-- what a row holds reads as a list -/
theorem SL.of_row {α : Type} {f : α → Value} {z : α} {w : World} {g : Nat} {t : TypeId} {vs : Array Value} {L : List α} {n : Nat} (hn : L.length = n) (h : Row w g t vs)
    (hv : ∀ j, j < n → vs[j]? = some (f (L.getD j z))) : SL f z w (some ⟨g, 0, none⟩) n L :=
  ⟨hn, fun _ => ⟨g, 0, rfl, h.lt, fun j hj => by rw [Nat.zero_add, h.cell j]; exact hv j hj⟩⟩

theorem getD_of {α : Type} {L : List α} {k : Nat} {x z : α} (h : L[k]? = some x) : L.getD k z = x := by
  rw [List.getD_eq_getElem?_getD, h]; rfl

/-- 'make([]T, n)' of a number -/
theorem make_row {P : Program} (t e : TypeId) (i : TypeInfo) (z : Value) (ht : P.underlying t = some (.slice e)) (hi : P.info? e = some i) (hz : i.zero = some z) (h1 : i.size = 1) (n : Nat) (hb : i.bytes * n ≤ 281474976710656) (h63 : n ≤ 9223372036854775807) (w : World) :
    (Instr.makeSlice t (.int .i64 (n : Int)) (.int .i64 (n : Int))).run P w = .ok (.slice (some ⟨w.heap.size, 0, none⟩) n n) (w.alloc (.cells (madeCells z.cells n) e)) := by
  have hb' : (i.bytes : Int) * (n : Int) ≤ 281474976710656 := by
    have h : ((i.bytes * n : Nat) : Int) ≤ 281474976710656 := by omega
    rwa [Int.natCast_mul] at h
  have hr := run_make (P := P) w t e i z ht hi hz .i64 .i64 n n (by omega) (by omega) hb' (by omega)
  simp only [Int.toNat_natCast, h1, Nat.mul_one] at hr
  exact hr
theorem made_some (z : Array Value) (n j : Nat) (hj : j < n) : ∃ u, (madeCells z n)[j]? = some u := ⟨_, Array.getElem?_eq_getElem (by rw [size_madeCells]; exact hj)⟩


theorem toInt64Sinfo : (Tryd.prog.info? 2).map (fun i => (i.zero, i.size, i.bytes)) = some (some (Value.int .i64 0), 1, 8) := by kernel_rfl
set_option maxRecDepth 100000 in
theorem toInt64S_raw (A : Option Addr) (n c : Nat) (L : List Int) (w : World) (h : SL (Value.int .i64) 0 w A n L) (hn : n ≤ 1048576) :
    Calls Tryd.prog 20 #[.slice A n c] w fun e w' => ∃ vs : Array Value, e = .returned (.slice (some ⟨w.heap.size, 0, none⟩) n n) ∧ w' = w.alloc (.cells vs 2) ∧ (vs.size = n ∧ ∀ j, j < n → vs[j]? = some (Value.int .i64 (L.getD j 0))) := by
  have hL := h.1
  obtain ⟨i0, hi, hz0, hz1, hz2⟩ := info_parts toInt64Sinfo
  have hmk := fun W => make_row (P := Tryd.prog) 25 2 i0 _ Tryd.underlying25 hi hz0 hz1 n (by rw [hz2]; omega) (by omega) W
  have Hs := Lib.hid (size_madeCells (Value.int .i64 0).cells n)
  have Hm := Lib.hid (made_some (Value.int .i64 0).cells n)
  generalize madeCells (Value.int .i64 0).cells n = v0 at *
  clear hi hz0 hz1 hz2
  go_enter Tryd.func20, Tryd.ntmps20
  go_wp2
  go_loopw [4] (fun i wr => ∃ (k : Nat) (vs : Array Value), k ≤ n ∧ i = .int .i64 k ∧ wr = w.alloc (.cells vs 2) ∧ Hid (vs.size = n ∧ (∀ j, j < n → ∃ u, vs[j]? = some u) ∧ ∀ j, j < k → vs[j]? = some (Value.int .i64 (L.getD j 0)))) (fun i _ => n - (intOf i).toNat)
  case atStart => exact ⟨0, v0, Nat.zero_le _, rfl, rfl, Hs.out, Hm.out, fun j hj => by omega⟩
  case round =>
    obtain ⟨k, vs, hk, rfl, rfl, hrel⟩ := hrel
    by_cases hlt : k < n
    · obtain ⟨b, off, x, rfl, hb, hc, hx, hs⟩ := h.at_ hlt
      obtain ⟨u, hu⟩ := hrel.out.2.1 k hlt
      have hc' : (w.alloc (.cells vs 2)).cell? ⟨b, off + k, none⟩ = some (Value.int .i64 x) := (World.cell?_alloc_lt w _ _ hb).trans hc
      have hne : ¬ b = w.heap.size := by omega
      have HX := Lib.hid hx
      clear hx hs h hL hmk
      go_wp2
      go_roundw
      case rel =>
        refine ⟨k + 1, _, by omega, by go_num, rfl, ?_⟩
        refine ⟨by rw [Array.size_setIfInBounds]; exact hrel.out.1, fun j hj => ?_, fun j hj => ?_⟩
        · obtain ⟨u', hu'⟩ := hrel.out.2.1 j hj
          by_cases e : k = j
          · subst e; exact ⟨_, Array.getElem?_setIfInBounds_self_of_lt (by rw [hrel.out.1]; omega)⟩
          · exact ⟨u', by rw [Array.getElem?_setIfInBounds_ne e]; exact hu'⟩
        · by_cases e : k = j
          · subst e
            rw [Array.getElem?_setIfInBounds_self_of_lt (by rw [hrel.out.1]; omega), getD_of HX.out]
          · rw [Array.getElem?_setIfInBounds_ne e]; exact hrel.out.2.2 j (by omega)
      case measure => simp [intOf]; omega
    · obtain rfl : k = n := by omega
      go_wp2
      go_ret
      exact ⟨vs, rfl, rfl, hrel.out.1, hrel.out.2.2⟩
/-- a copy in a new block -/
theorem toInt64S_any (A : Option Addr) (n c : Nat) (L : List Int) (w : World) (h : SL (Value.int .i64) 0 w A n L) (hn : n ≤ 1048576) :
    Calls Tryd.prog 20 #[.slice A n c] w fun e w' => ∃ (g : Nat) (vs : Array Value), e = .returned (.slice (some ⟨g, 0, none⟩) n n) ∧ w.heap.size ≤ g ∧ Row w' g 2 vs ∧ vs.size = n ∧ SL (Value.int .i64) 0 w' (some ⟨g, 0, none⟩) n L ∧ Below w.heap.size w w' :=
  (toInt64S_raw A n c L w h hn).mono fun e w' ⟨vs, he, hw, hs, hv⟩ => by
    subst hw
    have hr : Row (w.alloc (.cells vs 2)) w.heap.size 2 vs := heap_alloc_new w _
    exact ⟨w.heap.size, vs, he, Nat.le_refl _, hr, hs, SL.of_row h.1 hr hv, (Below.refl _ _).alloc (Nat.le_refl _) _⟩

set_option maxRecDepth 100000 in
/-- two slices that are alike in what matters -/
theorem eqFloat32S_alike (A B : Option Addr) (n c d : Nat) (L M : List Nat) (w : World) (h : FS w A n L) (h' : FS w B n M) (hn : n ≤ 1048576) (hLM : L.map (av .f32) = M.map (av .f32)) :
    Calls Tryd.prog 24 #[.slice A n c, .slice B n d] w fun e w' => ∃ k, e = .returned (.bool true) ∧ w' = w.drewN k := by
  have HLM := Lib.hid hLM
  clear hLM
  go_enter Tryd.func24, Tryd.ntmps24
  go_wp2
  go_loopw [5] (fun i wr => ∃ k q : Nat, k ≤ n ∧ i = .int .i64 k ∧ wr = w.drewN q) (fun i _ => n - (intOf i).toNat)
  case atStart => exact ⟨0, 0, Nat.zero_le _, rfl, rfl⟩
  case round =>
    obtain ⟨k, q, hk, rfl, rfl⟩ := hrel
    by_cases hlt : k < n
    · obtain ⟨b, off, x, rfl, hb, hc, hx, hs⟩ := h.at_ hlt
      obtain ⟨b2, off2, y, rfl, hb2, hc2, hx2, hs2⟩ := h'.at_ hlt
      have hxy : Hid (av .f32 x = av .f32 y) := by
        have h1 := congrArg (·[k]?) HLM.out
        simp only [List.getElem?_map, hx, hx2, Option.map_some, Option.some.injEq] at h1
        exact h1
      clear hx hs hx2 hs2 h h'
      go_wp2
      refine wp_region_lo q (.bool true) (by kernel_rfl) (by kernel_rfl) ?_; (repeat (first | ((with_reducible apply wpLo_farith); rfl; rfl; rfl; intro r hr) | ((with_reducible apply wpLo_fconv); (show FloatKind.f32 ≠ .f64; decide); exact Tryd.underlying48; exact Tryd.underlying64; rfl; exact fits_wide _; intro r hr) | (refine wpLo_plain rfl (fun K hK n => ?_); go_simp; first | (refine hK _ ?_; clear hK K n) | (refine ⟨?_, hK _ ?_⟩; rotate_left; clear hK K n; rotate_left; (exact lo_call (sameFloat_alike _ _ (by simp only [Hid] at *; simp [*]) _)))))); refine wpLo_nil ?_; intro nq
      go_wp2
      go_roundw
      case rel => exact ⟨k + 1, _, by omega, by go_num, rfl⟩
      case measure => simp [intOf]; omega
    · obtain rfl : k = n := by omega
      go_wp2
      go_ret
      exact ⟨_, rfl, rfl⟩
set_option maxRecDepth 100000 in
theorem eqInt64S_same (A B : Option Addr) (n c d : Nat) (L : List Int) (w : World) (h : IS w A n L) (h' : IS w B n L) (hn : n ≤ 1048576) :
    Calls Tryd.prog 14 #[.slice A n c, .slice B n d] w fun e w' => ∃ k, e = .returned (.bool true) ∧ w' = w.drewN k := by
  go_enter Tryd.func14, Tryd.ntmps14
  go_wp2
  go_loopw [5] (fun i wr => ∃ k q : Nat, k ≤ n ∧ i = .int .i64 k ∧ wr = w.drewN q) (fun i _ => n - (intOf i).toNat)
  case atStart => exact ⟨0, 0, Nat.zero_le _, rfl, rfl⟩
  case round =>
    obtain ⟨k, q, hk, rfl, rfl⟩ := hrel
    by_cases hlt : k < n
    · obtain ⟨b, off, x, rfl, hb, hc, hx, hs⟩ := h.at_ hlt
      obtain ⟨b2, off2, y, rfl, hb2, hc2, hx2, hs2⟩ := h'.at_ hlt
      have hxy : y = x := by rw [hx] at hx2; injection hx2 with e; exact e.symm
      subst hxy
      clear hx hs hx2 hs2 h h'
      go_wp2
      refine wp_region_lo q undef (by kernel_rfl) (by kernel_rfl) ?_; (repeat (first | ((with_reducible apply wpLo_farith); rfl; rfl; rfl; intro r hr) | ((with_reducible apply wpLo_fconv); (show FloatKind.f32 ≠ .f64; decide); exact Tryd.underlying48; exact Tryd.underlying64; rfl; exact fits_wide _; intro r hr) | (refine wpLo_plain rfl (fun K hK n => ?_); go_simp; first | (refine hK _ ?_; clear hK K n) | (refine ⟨?_, hK _ ?_⟩; rotate_left; clear hK K n; rotate_left; (fail))))); refine wpLo_nil ?_; intro nq
      go_wp2
      go_roundw
      case rel => exact ⟨k + 1, _, by omega, by go_num, rfl⟩
      case measure => simp [intOf]; omega
    · obtain rfl : k = n := by omega
      go_wp2
      go_ret
      exact ⟨_, rfl, rfl⟩
end Go.Proofs.YtedpbidphajngaaDoor
