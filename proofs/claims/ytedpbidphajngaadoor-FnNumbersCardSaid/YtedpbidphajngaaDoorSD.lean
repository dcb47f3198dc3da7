/- Numbers and lists of numbers drawn from bytes. -/
import Derived.Test.YtedpbidphajngaaDoorSR
namespace Go.Proofs.YtedpbidphajngaaDoor
open Go.RowKit
set_option linter.unusedVariables false
set_option linter.unusedSimpArgs false
attribute [local go_sem] lo_value lo_enter run_f32bits run_f32frombits

theorem grown_alloc (w : World) (o : Obj) (r : Option Nat) : w.grownBy (w.alloc o) r := by
  have hb : Below w.heap.size w (w.alloc o) := (Below.refl _ _).alloc (Nat.le_refl _) o
  exact ⟨hb.os, hb.tape, hb.output, hb.size, fun k hk _ => hb.block k hk⟩
theorem Src.alloc {w : World} {g : Nat} {A : Option Addr} {n c : Nat} {L : List Int} {M : Nat} (h : Src w g A n c L M) (o : Obj) : Src (w.alloc o) g A n c L M :=
  h.kept (grown_alloc w o none) (by simp) (fun _ _ _ _ _ => by simp)
/-- a list of integers laid by a literal -/
theorem lit_is (w : World) (K : List Int) (m : Nat) (hm : K.length = m) : IS (w.alloc (.cells (K.map (Value.int .i64)).toArray 2)) (some ⟨w.heap.size, 0, none⟩) m K :=
  SL.of_row hm (Row.new w 2 (K.map (Value.int .i64)).toArray) (fun j hj => by
    rw [List.getElem?_toArray, List.getElem?_map, List.getElem?_eq_getElem (by omega), List.getD_eq_getElem?_getD, List.getElem?_eq_getElem (by omega)]; rfl)
theorem among_lit (K : List Int) (m : Nat) (hk : K.length = m) (hm : 2 ≤ m) (hm2 : m ≤ 65536) (g : Nat) (A : Option Addr) (n c : Nat) (L : List Int) (M : Nat) (w : World) (h : Src w g A n c L M) (hM : M ≤ 990000) :
    Calls Tryd.prog 95 #[.pointer (some ⟨g, 0, none⟩), .slice (some ⟨w.heap.size, 0, none⟩) m m] (w.alloc (.cells (K.map (Value.int .i64)).toArray 2)) fun e w' => ∃ r : Int, e = .returned (.int .i64 r) ∧ Src w' g A n c L (M + 2) ∧ w.grownBy w' (some g) :=
  (among_any _ m K hm hm2 g A n c L M _ (h.alloc _) hM (lit_is w K m hk) (fun _ a e => by injection e with e; subst e; have := h.lt; show w.heap.size ≠ g; omega)).mono fun e w' ⟨r, he, hs, hg⟩ => ⟨r, he, hs, grown_trans (grown_alloc _ _ _) hg⟩
theorem grown_over {w w1 w2 : World} {g : Nat} {row : Option Nat} (h : w.grownBy w1 (some g)) (h' : w1.grownBy w2 row) (hr : ∀ k, row = some k → w.heap.size ≤ k) : w.grownBy w2 (some g) :=
  ⟨h'.os.trans h.os, h'.tape.trans h.tape, h'.output.trans h.output, Nat.le_trans h.size h'.size, fun k hk hne => (h'.block k (Nat.lt_of_lt_of_le hk h.size) (fun e => by have := hr k e.symm; omega)).trans (h.block k hk hne)⟩
set_option maxHeartbeats 1000000 in
set_option maxRecDepth 100000 in
theorem drawFloat_any (g : Nat) (A : Option Addr) (n c : Nat) (L : List Int) (M : Nat) (w : World) (h : Src w g A n c L M) (hM : M ≤ 900000) :
    Calls Tryd.prog 68 #[.pointer (some ⟨g, 0, none⟩)] w fun e w' => ∃ r : Nat, e = .returned (.float .f32 r) ∧ r < 4294967296 ∧ Src w' g A n c L (M + 16) ∧ w.grownBy w' (some g) := by
  go_enter Tryd.func68, Tryd.ntmps68
  go_wp2_with fail
  refine (one_any 12 (by omega) (by omega) g A n c L M _ h (by omega)).mono ?_
  rintro e w1 ⟨y, rfl, s1, b1⟩
  cases y
  · go_wp2_with fail
    refine (drawPlain_any g A n c L (M + 2) _ s1 (by omega)).mono ?_
    rintro e w2 ⟨r, rfl, hr, s2, b2⟩
    go_wp2_with fail
    go_ret
    exact ⟨_, rfl, hr, s2.more (by omega), grown_trans b1 b2⟩
  · go_wp2_with fail
    refine (pick_any 4 (by omega) (by omega) g A n c L (M + 2) _ s1 (by omega)).mono ?_
    rintro e w2 ⟨x, rfl, x0, x1, s2, b2⟩
    have b12 := grown_trans b1 b2
    rcases (show x = 0 ∨ x = 1 ∨ x = 2 ∨ x = 3 by omega) with rfl | rfl | rfl | rfl
    · go_wp2_with fail
      refine (among_lit [0, 2147483648, 2139095040, 4286578688, 2143289344, 1, 2139095039, 8388608, 8388607, 2147483649] 10 rfl (by omega) (by omega) g A n c L (M + 2 + 2) w2 s2 (by omega)).mono ?_
      rintro e w3 ⟨y, rfl, s3, b3⟩
      go_wp2_with fail
      refine (l01FromZ_any _ _).mono ?_
      rintro e w4 ⟨⟨r, rfl, hr⟩, rfl⟩
      go_wp2_with fail
      go_ret
      exact ⟨_, rfl, hr, s3.more (by omega), grown_trans b12 b3⟩
    · go_wp2_with fail
      refine (pick_any 65536 (by omega) (by omega) g A n c L (M + 2 + 2) _ s2 (by omega)).mono ?_
      rintro e w3 ⟨y, rfl, y0, y1, s3, b3⟩
      go_wp2_with fail
      refine (pick_any 65536 (by omega) (by omega) g A n c L (M + 2 + 2 + 2) _ s3 (by omega)).mono ?_
      rintro e w4 ⟨z, rfl, z0, z1, s4, b4⟩
      go_wp2_with fail
      refine (l01FromZ_any _ _).mono ?_
      rintro e w5 ⟨⟨r, rfl, hr⟩, rfl⟩
      go_wp2_with fail
      go_ret
      exact ⟨_, rfl, hr, s4.more (by omega), grown_trans b12 (grown_trans b3 b4)⟩
    · go_wp2_with fail
      refine (pick_any 65536 (by omega) (by omega) g A n c L (M + 2 + 2) _ s2 (by omega)).mono ?_
      rintro e w3 ⟨y, rfl, y0, y1, s3, b3⟩
      go_wp2_with fail
      refine (l01FromZ_any _ _).mono ?_
      rintro e w5 ⟨⟨r, rfl, hr⟩, rfl⟩
      go_wp2_with fail
      go_ret
      exact ⟨_, rfl, hr, s3.more (by omega), grown_trans b12 b3⟩
    · go_wp2_with fail
      refine (drawPlain_any g A n c L (M + 2 + 2) _ s2 (by omega)).mono ?_
      rintro e w3 ⟨r, rfl, hr, s3, b3⟩
      go_wp2_with fail
      refine (among_lit [8388608, 2130706432, 1610612736, 536870912] 4 rfl (by omega) (by omega) g A n c L (M + 2 + 2 + 4) w3 s3 (by omega)).mono ?_
      rintro e w4 ⟨y, rfl, s4, b4⟩
      go_wp2_with fail
      refine (l01FromZ_any _ _).mono ?_
      rintro e w5 ⟨⟨q, rfl, hq⟩, rfl⟩
      go_wp2_with ((with_reducible apply wpList_farithB); rfl; rfl; rfl; intro z m hz hzb)
      go_ret
      exact ⟨_, rfl, hzb, (s4.drewN _).more (by omega), grown_drewN (grown_trans b12 (grown_trans b3 b4)) _⟩
theorem info_f32d : (Tryd.prog.info? 48).map (fun i => (i.zero, i.size, i.bytes)) = some (some (.float .f32 0), 1, 4) := by kernel_rfl
set_option maxHeartbeats 2000000 in
set_option maxRecDepth 100000 in
theorem drawFloats_any (N : Nat) (hN : N ≤ 16) (g : Nat) (A : Option Addr) (n c : Nat) (L : List Int) (M : Nat) (w : World) (h : Src w g A n c L M) (hM : M ≤ 800000) :
    Calls Tryd.prog 72 #[.pointer (some ⟨g, 0, none⟩), .int .i64 N] w fun e w' => ∃ (u : Value) (X : List Nat), e = .returned u ∧ X.length = N ∧ (∀ x ∈ X, x < 4294967296) ∧ w'.ownsRow w.heap.size 48 1 u N (X.map (Value.float .f32)) ∧ w.grownBy w' (some g) := by
  obtain ⟨i0, hi0, hz0, hz1, hz2⟩ := info_parts info_f32d
  have HOwn := World.ownsRow_lit (base := w.heap.size) (e := 48) (size := 1) w #[] 0 (Nat.le_refl _) (by unfold maxLen; omega) rfl
  have hlt0 := h.lt
  have hA0 : ∀ b off, 0 < n → A = some ⟨b, off, none⟩ → b < w.heap.size := fun b off hn e => by
    obtain ⟨b', off', e', hb', _⟩ := h.bytes.2 hn
    rw [e'] at e
    simp only [Option.some.injEq, Addr.mk.injEq] at e
    omega
  have h1 := h.alloc (.cells #[] 48)
  have G0 := grown_alloc w (.cells #[] 48) (some g)
  go_enter Tryd.func72, Tryd.ntmps72
  go_wp2_with fail
  refine (one_any 4 (by omega) (by omega) g A n c L M _ h1 (by omega)).mono ?_
  rintro e w1 ⟨y, rfl, s1, b1⟩
  have HOwn1 := HOwn.kept b1 (.inr (by show some w.heap.size ≠ some g; simp; omega))
  have G1 := grown_trans G0 b1
  clear HOwn h1 G0 b1
  go_wp2_with fail
  go_loopw [1, 5] (fun sn o wr => ∃ (k : Nat) (X : List Nat), k + X.length = N ∧ sn = .int .i64 (k : Int) ∧ (∀ x ∈ X, x < 4294967296) ∧ Src wr g A n c L (M + 2 + 16 * X.length) ∧ wr.ownsRow w.heap.size 48 1 o X.length (X.map (Value.float .f32)) ∧ w.grownBy wr (some g)) (fun sn _ _ => (intOf sn).toNat)
  case atStart => exact ⟨N, [], by simp, rfl, by simp, s1, HOwn1, G1⟩
  case round =>
    clear s1 HOwn1 G1
    obtain ⟨k, X, hk, rfl, hX, hs, hown, hgr⟩ := hrel
    by_cases h0 : 0 < k
    · have h0' : (0 : Int) < (k : Int) := by omega
      have hsz := hgr.size
      cases y
      · go_wp2_with fail
        refine (drawPlain_any g A n c L _ _ hs (by omega)).mono ?_
        rintro e w2 ⟨r, rfl, hr, s2, b2⟩
        have hown2 := hown.kept b2 (by
          cases hu : u5.ownBlock with
          | none => exact .inl rfl
          | some q => exact .inr (by have := (hown.lt q hu).1; simp; omega))
        have hg2 := grown_trans hgr b2
        have hsz2 := hg2.size
        go_wp2_with (first
          | (at_builtin; refine wpList_append_own _ rfl _ _ 36 rfl w.heap.size 48 i0 _ 1 4 Tryd.underlying36 hi0 hz0 hz1 hz2 rfl (by omega) _ X.length (X.map (Value.float .f32)) rfl (by exact World.ownsRow.alloc (by exact hown2) _) ⟨w2.heap.size, 0, none⟩ 1 1 [.float .f32 r] rfl rfl (by exact World.news_of_block (cs := #[.float .f32 r]) (t := 48) (fr := (0, 0)) (heap_alloc_new w2 _)) (by simp [Value.oneCell']) (by unfold maxLen; omega) (by omega) (by simp; omega) ?_; intro v' w3 hown3 hgrow _))
        go_roundw
        case rel => exact ⟨k - 1, X ++ [r], by simp; omega, by go_num, fun x hx => by rcases List.mem_append.1 hx with hx | hx; exact hX x hx; simp at hx; omega, ((s2.alloc _).kept hgrow (fun e => by have := (hown2.lt g e).1; omega) (fun b off hn e _ e2 => by have := (hown2.lt b e2).1; have := hA0 b off hn e; omega)).more (by simp; omega), by rw [List.map_append, List.length_append]; exact hown3, grown_over hg2 (grown_trans (grown_alloc w2 _ _) hgrow) (fun q e => (hown2.lt q e).1)⟩
        case measure => simp [intOf]; omega
      · go_wp2_with fail
        refine (drawFloat_any g A n c L _ _ hs (by omega)).mono ?_
        rintro e w2 ⟨r, rfl, hr, s2, b2⟩
        have hown2 := hown.kept b2 (by
          cases hu : u5.ownBlock with
          | none => exact .inl rfl
          | some q => exact .inr (by have := (hown.lt q hu).1; simp; omega))
        have hg2 := grown_trans hgr b2
        have hsz2 := hg2.size
        go_wp2_with (first
          | (at_builtin; refine wpList_append_own _ rfl _ _ 36 rfl w.heap.size 48 i0 _ 1 4 Tryd.underlying36 hi0 hz0 hz1 hz2 rfl (by omega) _ X.length (X.map (Value.float .f32)) rfl (by exact World.ownsRow.alloc (by exact hown2) _) ⟨w2.heap.size, 0, none⟩ 1 1 [.float .f32 r] rfl rfl (by exact World.news_of_block (cs := #[.float .f32 r]) (t := 48) (fr := (0, 0)) (heap_alloc_new w2 _)) (by simp [Value.oneCell']) (by unfold maxLen; omega) (by omega) (by simp; omega) ?_; intro v' w3 hown3 hgrow _))
        go_roundw
        case rel => exact ⟨k - 1, X ++ [r], by simp; omega, by go_num, fun x hx => by rcases List.mem_append.1 hx with hx | hx; exact hX x hx; simp at hx; omega, ((s2.alloc _).kept hgrow (fun e => by have := (hown2.lt g e).1; omega) (fun b off hn e _ e2 => by have := (hown2.lt b e2).1; have := hA0 b off hn e; omega)).more (by simp; omega), by rw [List.map_append, List.length_append]; exact hown3, grown_over hg2 (grown_trans (grown_alloc w2 _ _) hgrow) (fun q e => (hown2.lt q e).1)⟩
        case measure => simp [intOf]; omega
    · obtain rfl : k = 0 := by omega
      obtain rfl : X.length = N := by omega
      go_wp2_with fail
      go_ret
      exact ⟨_, X, rfl, rfl, hX, hown, hgr⟩
theorem src_new (w : World) (A : Option Addr) (n c : Nat) (L : List Int) (h : SL (Value.int .u8) 0 w A n L) (hs : ∀ x ∈ L, 0 ≤ x ∧ x ≤ 255) (hn : n ≤ 1048576) :
    Src (w.alloc (.cells #[.slice A n c, .int .i64 0, .int .u64 0] 102)) w.heap.size A n c L 0 :=
  ⟨⟨0, 0, Nat.le_refl _, Row.new w _ _⟩, h.alloc _, fun h0 a e => by
    obtain ⟨b, off, e', hb, _⟩ := h.2 h0
    rw [e'] at e
    injection e with e
    subst e
    show b ≠ w.heap.size
    omega, hs, hn⟩
theorem below_new {w w' : World} {o : Obj} (h : (w.alloc o).grownBy w' (some w.heap.size)) : Below w.heap.size w w' := by
  have hb : Below w.heap.size w (w.alloc o) := (Below.refl _ _).alloc (Nat.le_refl _) o
  exact below_grown_h hb h hb.size (fun k e => by injection e with e; omega)
theorem l00From_any (A : Option Addr) (n c : Nat) (w : World) :
    Calls Tryd.prog 64 #[.slice A n c] w fun e w' => e = .returned (.pointer (some ⟨w.heap.size, 0, none⟩)) ∧ w' = w.alloc (.cells #[.slice A n c, .int .i64 0, .int .u64 0] 102) := by
  go_enter Tryd.func64, Tryd.ntmps64
  go_wp2_with fail
  go_ret
  exact ⟨rfl, rfl⟩
set_option maxRecDepth 100000 in
theorem b10Number_any (A : Option Addr) (n c : Nat) (L : List Int) (w : World) (h : SL (Value.int .u8) 0 w A n L) (hs : ∀ x ∈ L, 0 ≤ x ∧ x ≤ 255) (hn : n ≤ 1048576) :
    Calls Tryd.prog 33 #[.slice A n c] w fun e w' => ∃ r : Nat, e = .returned (.float .f32 r) ∧ r < 4294967296 ∧ Below w.heap.size w w' := by
  have s0 := src_new w A n c L h hs hn
  go_enter Tryd.func33, Tryd.ntmps33
  go_wp2_with fail
  refine (l00From_any A n c _).mono ?_
  rintro e w0 ⟨rfl, hw0⟩
  rw [← hw0] at s0
  have HB : ∀ w', w0.grownBy w' (some w.heap.size) → Below w.heap.size w w' := fun w' hg => by rw [hw0] at hg; exact below_new hg
  clear hw0
  go_wp2_with fail
  refine (one_any 2 (by omega) (by omega) _ A n c L 0 _ s0 (by omega)).mono ?_
  rintro e w1 ⟨y, rfl, s1, b1⟩
  cases y
  · go_wp2_with fail
    refine (drawFloat_any _ A n c L _ _ s1 (by omega)).mono ?_
    rintro e w2 ⟨r, rfl, hr, s2, b2⟩
    go_wp2_with fail
    go_ret
    exact ⟨_, rfl, hr, HB _ (grown_trans b1 b2)⟩
  · go_wp2_with fail
    refine (pick_any 65536 (by omega) (by omega) _ A n c L _ _ s1 (by omega)).mono ?_
    rintro e w2 ⟨x, rfl, x0, x1, s2, b2⟩
    go_wp2_with fail
    refine (pick_any 65536 (by omega) (by omega) _ A n c L _ _ s2 (by omega)).mono ?_
    rintro e w3 ⟨z, rfl, z0, z1, s3, b3⟩
    go_wp2_with fail
    refine (l01FromZ_any _ _).mono ?_
    rintro e w4 ⟨⟨r, rfl, hr⟩, rfl⟩
    go_wp2_with fail
    go_ret
    exact ⟨_, rfl, hr, HB _ (grown_trans b1 (grown_trans b2 b3))⟩
set_option maxRecDepth 100000 in
theorem b10Numbers_any (N : Nat) (hN : N ≤ 16) (A : Option Addr) (n c : Nat) (L : List Int) (w : World) (h : SL (Value.int .u8) 0 w A n L) (hs : ∀ x ∈ L, 0 ≤ x ∧ x ≤ 255) (hn : n ≤ 1048576) :
    Calls Tryd.prog 37 #[.slice A n c, .int .i64 N] w fun e w' => ∃ (u : Value) (X : List Nat), e = .returned u ∧ X.length = N ∧ (∀ x ∈ X, x < 4294967296) ∧ w'.ownsRow w.heap.size 48 1 u N (X.map (Value.float .f32)) ∧ Below w.heap.size w w' := by
  have s0 := src_new w A n c L h hs hn
  go_enter Tryd.func37, Tryd.ntmps37
  go_wp2_with fail
  refine (l00From_any A n c _).mono ?_
  rintro e w0 ⟨rfl, hw0⟩
  rw [← hw0] at s0
  have hz : w.heap.size ≤ w0.heap.size := by rw [hw0]; simp
  have HB : ∀ w', w0.grownBy w' (some w.heap.size) → Below w.heap.size w w' := fun w' hg => by rw [hw0] at hg; exact below_new hg
  clear hw0
  go_wp2_with fail
  refine (drawFloats_any N hN _ A n c L 0 _ s0 (by omega)).mono ?_
  rintro e w1 ⟨u, X, rfl, hl, hX, hown, b1⟩
  go_wp2_with fail
  go_ret
  exact ⟨_, X, rfl, hl, hX, hown.mono hz, HB _ b1⟩
end Go.Proofs.YtedpbidphajngaaDoor
