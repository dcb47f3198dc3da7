/- Tables: the prices. -/
import Derived.Test.YteodplednmeaaaaTE
import Derived.Test.YteodplednmeaaaaLT
namespace Go.Proofs.Yteodplednmeaaaa
open Go.RowKit
set_option linter.unusedVariables false
set_option linter.unusedSimpArgs false
attribute [local go_sem] lo_value lo_enter run_store_float run_neg LC.lc_value LC.lc_enter
attribute [local go_sem ↓] append_held

/-- the last row's numbers from column V on -/
def pricesA (N : List Nat) (b V j : Nat) : List Nat := (List.range j).map fun i => N.getD (b + (V + i)) 0
theorem pricesA_succ (N : List Nat) (b V j : Nat) : pricesA N b V (j + 1) = pricesA N b V j ++ [N.getD (b + (V + j)) 0] := by unfold pricesA; rw [List.range_succ, List.map_append]; rfl
def pricesOfV (v : Int) (n1 n2 : Nat) (N : List Nat) (S : List Int) : Bool := tableV v n1 n2 N S
def pricesOfN (v : Int) (n1 n2 : Nat) (N : List Nat) (S : List Int) : Nat := bif tableV v n1 n2 N S then n2 else 0
def pricesOfO (v : Int) (n1 n2 : Nat) (N : List Nat) (S : List Int) : List Nat := bif tableV v n1 n2 N S then pricesA N (n2 * (v + n2 + 1).toNat) v.toNat n2 else []
theorem pricesOfN_le {v : Int} {n1 n2 : Nat} {N : List Nat} {S : List Int} (h : n2 ≤ 1048576) : pricesOfN v n1 n2 N S ≤ 1048576 := by
  unfold pricesOfN; cases tableV v n1 n2 N S
  · exact Nat.zero_le _
  · exact h
theorem snoc_own {w : World} {base j : Nat} {u : Value} {N : List Nat} {b V x : Nat} (h : w.ownsRow base 23 1 u (j + 1) ((pricesA N b V j).map (Value.float .f32) ++ [.float .f32 x])) (hx : x = N.getD (b + (V + j)) 0) :
    w.ownsRow base 23 1 u (j + 1) ((pricesA N b V (j + 1)).map (Value.float .f32)) := by
  rw [pricesA_succ, List.map_append, ← hx]; exact h
set_option maxHeartbeats 1000000 in
set_option maxRecDepth 100000 in
theorem l02Prices_any (p V : Nat) (v : Int) (A1 A2 : Option Addr) (n1 n2 c1 c2 : Nat) (N : List Nat) (S : List Int) (M : Nat) (w : World) (hr : Row w p 46 #[.int .i64 v, .slice A1 n1 c1, .slice A2 n2 c2]) (h1 : FS w A1 n1 N) (hV : v = (V : Int)) (hM : v + n2 + 1 = ((M + 1 : Nat) : Int)) (v1 : 1 ≤ v) (v2 : v ≤ 8) (b1 : n1 ≤ 1048576) (b2 : n2 ≤ 8) (hM16 : M ≤ 16) (hn1 : n1 = (n2 + 1) * (M + 1)) :
    Calls Try.prog 104 #[.pointer (some ⟨p, 0, none⟩)] w fun e w' => ∃ u, e = .returned u ∧ w'.ownsRow w.heap.size 23 1 u n2 ((pricesA N (n2 * (M + 1)) V n2).map (Value.float .f32)) ∧ Below w.heap.size w w' := by
  obtain ⟨i0, hi0, hz0, hz1, hz2⟩ := info_parts info_f32
  have hMV : M = V + n2 := by omega
  have hq : ∀ wq, Below w.heap.size w wq → Calls Try.prog 113 #[.pointer (some ⟨p, 0, none⟩)] wq fun e w'' => ∃ k, e = .returned (.int .i64 ((M : Int) + 1)) ∧ w'' = wq.drewN k := fun wq hb => by
    have := l02Wide_any p v A1 A2 n1 n2 c1 c2 wq (hr.below hb hr.lt) (by omega) (by omega) (by omega)
    rw [show v + (n2 : Int) + 1 = (M : Int) + 1 by omega] at this
    exact this
  have hat := fun c x wq hb hk hx => l02At_any p v A1 A2 n1 n2 c1 c2 N S M n2 c x wq (hr.below hb hr.lt) (h1.below hb) hM v1 v2 b1 b2 hk hx
  have HN := Lib.hid hn1
  have HMV := Lib.hid hMV
  subst hV
  clear hn1 hM hMV
  have q0 : w.cell? ⟨p, 0, none⟩ = some (.int .i64 (V : Int)) := hr.cell 0
  have hw0 := hr.lt
  have HOwn := World.ownsRow_lit (base := w.heap.size) (e := 23) (size := 1) w #[] 0 (Nat.le_refl _) (by unfold maxLen; omega) rfl
  have HB0 : Below w.heap.size w (w.alloc (.cells #[] 23)) := (Below.refl _ _).alloc (Nat.le_refl _) _
  have hVM : V ≤ M := by have := HMV.out; omega
  go_enter Try.func104, Try.ntmps104
  go_wp2_with fail
  go_loopw [3, 4] (fun o i wr => ∃ (c : Nat), V ≤ c ∧ c ≤ M ∧ i = .int .i64 c ∧ Below w.heap.size w wr ∧ wr.ownsRow w.heap.size 23 1 o (c - V) ((pricesA N (n2 * (M + 1)) V (c - V)).map (Value.float .f32))) (fun _ i _ => M - (intOf i).toNat)
  case atStart => exact ⟨V, Nat.le_refl _, hVM, rfl, HB0, by rw [Nat.sub_self]; exact HOwn⟩
  case round =>
    obtain ⟨c, hc1, hc2, rfl, hbel, hown⟩ := hrel
    have HRr := hr.below hbel hr.lt
    clear q0
    by_cases hlt : c < M
    · obtain ⟨b, off, x, rfl, hb, hc, hx, hs⟩ := h1.at_ (entry_fits HN.out (Nat.le_refl n2) hc2)
      have HX := Lib.hid (getD_of (z := 0) hx)
      have hlt2 : (c : Int) < (M : Int) := by omega
      have hat' := fun wq hb => hat c x wq hb (entry_fits HN.out (Nat.le_refl n2) hc2) hx
      clear hx hs hat
      go_wp2_with fail
      refine (hq _ hbel).mono ?_
      rintro e wx ⟨m1, rfl, rfl⟩
      have q2 : (wr.drewN m1).cell? ⟨p, 2, none⟩ = some (.slice A2 n2 c2) := HRr.cell 2
      have hown2 : (wr.drewN m1).ownsRow w.heap.size _ _ _ _ _ := hown
      go_wp2_with fail
      refine (hat' _ (below_drewN hbel _)).mono ?_
      rintro e wx ⟨m2, rfl, rfl⟩
      clear q2
      have hown3 : ((wr.drewN m1).drewN m2).ownsRow w.heap.size _ _ _ _ _ := hown
      go_wp2_with (first
        | (refine upon_append 22 _ w.heap.size 23 i0 _ 1 4 Try.underlying22 hi0 hz0 hz1 hz2 rfl (by omega) _ (c - V) ((pricesA N (n2 * (M + 1)) V (c - V)).map (Value.float .f32)) (by exact World.ownsRow.alloc (by exact hown3) _)
            ⟨wr.heap.size, 0, none⟩ 1 1 [.float .f32 x] (by rfl) (World.news_of_block (cs := #[.float .f32 x]) (t := 23) (fr := (0, 0)) (heap_alloc_new (wr.drewN (m1 + m2)) _)) (by simp [Value.oneCell'])
            (by omega) (by unfold maxLen; omega) (by omega) (by have := hbel.size; simp; omega) (fun gg cap2 w6 hown1 hgrow => ?_)))
      go_roundw
      case rel => exact ⟨c + 1, by omega, by omega, by go_num, below_grown (Below.alloc (below_drewN hbel (m1 + m2)) hbel.size _) hgrow (by have := hbel.size; simp; omega) (fun j e => (hown.lt j e).1), by rw [show c + 1 - V = (c - V) + 1 by omega]; exact snoc_own hown1 (by rw [← HX.out, show V + (c - V) = c by omega])⟩
      case measure => simp [intOf]; omega
    · obtain rfl : c = M := by omega
      have e2 : c - V = n2 := by have := HMV.out; omega
      rw [e2] at hown
      clear e2
      go_wp2_with fail
      refine (hq _ hbel).mono ?_
      rintro e wx ⟨m1, rfl, rfl⟩
      go_wp2_with fail
      go_ret
      exact ⟨_, rfl, hown, below_drewN hbel _⟩
theorem specPricesOf_own (v : Int) (A1 A2 : Option Addr) (n1 n2 c1 c2 : Nat) (N : List Nat) (S : List Int) (w : World) (h1 : FS w A1 n1 N) (h2 : IS w A2 n2 S) (b1 : n1 ≤ 1048576) (b2 : n2 ≤ 1048576) :
    Calls Try.prog 59 #[.agg #[.int .i64 v, .slice A1 n1 c1, .slice A2 n2 c2]] w fun e w' => ∃ u, e = .returned (.tuple #[u, .bool (pricesOfV v n1 n2 N S)]) ∧ w'.ownsRow w.heap.size 23 1 u (pricesOfN v n1 n2 N S) ((pricesOfO v n1 n2 N S).map (Value.float .f32)) ∧ Below w.heap.size w w' := by
  have HB : Below w.heap.size w (w.alloc (.cells #[.int .i64 v, .slice A1 n1 c1, .slice A2 n2 c2] 46)) := (Below.refl _ _).alloc (Nat.le_refl _) _
  have HR := Row.new w 46 #[.int .i64 v, .slice A1 n1 c1, .slice A2 n2 c2]
  have k1 := h1.below HB
  have k2 := h2.below HB
  clear h1 h2
  cases hT : tableV v n1 n2 N S
  · have H : Hid (pricesOfV v n1 n2 N S = false) := by show _ = _; rw [pricesOfV, hT]
    have HN : Hid (pricesOfN v n1 n2 N S = 0) := by show _ = _; rw [pricesOfN, hT]; rfl
    have HO : Hid (pricesOfO v n1 n2 N S = []) := by show _ = _; rw [pricesOfO, hT]; rfl
    go_enter Try.func59, Try.ntmps59
    go_wp2_with fail
    refine (l02Table_any w.heap.size v A1 A2 n1 n2 c1 c2 N S _ HR k1 k2 b1 b2).mono ?_
    rintro e wx ⟨m1, rfl, rfl⟩
    rw [hT]
    go_wp2_with fail
    go_ret2
    exact ⟨_, by rw [H.out]; rfl, by rw [HN.out, HO.out]; exact World.ownsRow_nil _ _ _ _, below_drewN HB _⟩
  obtain ⟨hsh, _, _⟩ := tableV_shape hT
  obtain ⟨M, e1, e2, e3, e4, e5, e6, e7⟩ := shape_nat hsh
  have H : Hid (pricesOfV v n1 n2 N S = true) := by show _ = _; rw [pricesOfV, hT]
  have HN : Hid (pricesOfN v n1 n2 N S = n2) := by show _ = _; rw [pricesOfN, hT]; rfl
  have HO : Hid (pricesOfO v n1 n2 N S = pricesA N (n2 * (M + 1)) v.toNat n2) := by show _ = _; rw [pricesOfO, hT, e3]; rfl
  have hc := fun q => l02Prices_any w.heap.size v.toNat v A1 A2 n1 n2 c1 c2 N S M _ (HR.drewN q) (k1.drewN q) (by have := hsh.1; omega) e2 hsh.1 hsh.2.1 b1 hsh.2.2.2.1 e6 e5
  clear e1 e2 e3 e4 e5 e6 e7 hsh
  go_enter Try.func59, Try.ntmps59
  go_wp2_with fail
  refine (l02Table_any w.heap.size v A1 A2 n1 n2 c1 c2 N S _ HR k1 k2 b1 b2).mono ?_
  rintro e wx ⟨m1, rfl, rfl⟩
  rw [hT]
  go_wp2_with fail
  refine (hc _).mono ?_
  rintro e w2 ⟨u, rfl, ho, hb⟩
  go_wp2_with fail
  go_ret2
  exact ⟨_, by rw [H.out]; rfl, by rw [HN.out, HO.out]; exact ho.mono HB.size, (below_drewN HB m1).trans (hb.mono (below_drewN HB m1).size)⟩
set_option maxHeartbeats 1000000 in
set_option maxRecDepth 100000 in
theorem prices_any (V : Nat) (v : Int) (A1 A2 : Option Addr) (n1 n2 c1 c2 : Nat) (N : List Nat) (S : List Int) (M : Nat) (w : World) (h1 : FS w A1 n1 N) (hV : v = (V : Int)) (hM : v + n2 + 1 = ((M + 1 : Nat) : Int)) (v1 : 1 ≤ v) (v2 : v ≤ 8) (b1 : n1 ≤ 1048576) (b2 : n2 ≤ 8) (hM16 : M ≤ 16) (hn1 : n1 = (n2 + 1) * (M + 1)) :
    Calls Try.prog 105 #[.agg #[.int .i64 v, .slice A1 n1 c1, .slice A2 n2 c2]] w fun e w' => ∃ u, e = .returned u ∧ w'.ownsRow w.heap.size 23 1 u n2 ((pricesA N (n2 * (M + 1)) V n2).map (Value.float .f32)) ∧ Below w.heap.size w w' := by
  obtain ⟨i0, hi0, hz0, hz1, hz2⟩ := info_parts info_f32
  have HB : Below w.heap.size w (w.alloc (.cells #[.int .i64 v, .slice A1 n1 c1, .slice A2 n2 c2] 46)) := (Below.refl _ _).alloc (Nat.le_refl _) _
  have HR := Row.new w 46 #[.int .i64 v, .slice A1 n1 c1, .slice A2 n2 c2]
  have k1 := h1.below HB
  clear h1
  obtain ⟨W1, hW1⟩ : ∃ W1, W1 = w.alloc (.cells #[.int .i64 v, .slice A1 n1 c1, .slice A2 n2 c2] 46) := ⟨_, rfl⟩
  rw [← hW1] at HB HR k1
  have HW1 := Lib.hid hW1
  clear hW1
  have hMV : M = V + n2 := by omega
  have hq : ∀ w, Calls Try.prog 82 #[.agg #[.int .i64 v, .slice A1 n1 c1, .slice A2 n2 c2]] w fun e w'' => e = .returned (.int .i64 ((M : Int) + 1)) ∧ Below w.heap.size w w'' := fun w => by
    have := wide_any v A1 A2 n1 n2 c1 c2 w (by omega) (by omega) (by omega)
    rw [show v + (n2 : Int) + 1 = (M : Int) + 1 by omega] at this
    exact this
  have hat := fun c x wq hb hk hx => at_any v A1 A2 n1 n2 c1 c2 N S M n2 c x wq (k1.below hb) hM v1 v2 b1 b2 hk hx
  have HN := Lib.hid hn1
  have HMV := Lib.hid hMV
  subst hV
  clear hn1 hM hMV
  have q0 : W1.cell? ⟨w.heap.size, 0, none⟩ = some (.int .i64 (V : Int)) := HR.cell 0
  have hVM : V ≤ M := by have := HMV.out; omega
  go_enter Try.func105, Try.ntmps105
  go_wp2_with fail
  rw [← HW1.out]
  go_wp2_with fail
  go_loopw [3, 4] (fun o i wr => ∃ (c : Nat), V ≤ c ∧ c ≤ M ∧ i = .int .i64 c ∧ Below W1.heap.size W1 wr ∧ wr.ownsRow W1.heap.size 23 1 o (c - V) ((pricesA N (n2 * (M + 1)) V (c - V)).map (Value.float .f32))) (fun _ i _ => M - (intOf i).toNat)
  case atStart => exact ⟨V, Nat.le_refl _, hVM, rfl, Below.refl _ _, by rw [Nat.sub_self]; exact World.ownsRow_nil _ _ _ _⟩
  case round =>
    obtain ⟨c, hc1, hc2, rfl, hbel, hown⟩ := hrel
    have HR0 := HR.below hbel HR.lt
    clear q0
    have q0 : wr.cell? ⟨w.heap.size, 0, none⟩ = some (.int .i64 (V : Int)) := HR0.cell 0
    have q1 : wr.cell? ⟨w.heap.size, 1, none⟩ = some (.slice A1 n1 c1) := HR0.cell 1
    have q2 : wr.cell? ⟨w.heap.size, 2, none⟩ = some (.slice A2 n2 c2) := HR0.cell 2
    by_cases hlt : c < M
    · obtain ⟨b, off, x, rfl, hb, hc, hx, hs⟩ := k1.at_ (entry_fits HN.out (Nat.le_refl n2) hc2)
      have HX := Lib.hid (getD_of (z := 0) hx)
      have hlt2 : (c : Int) < (M : Int) := by omega
      have hat' := fun wq hb => hat c x wq hb (entry_fits HN.out (Nat.le_refl n2) hc2) hx
      clear hx hs hat
      go_wp2_with fail
      refine (hq _).mono ?_
      rintro e w2 ⟨rfl, hb2⟩
      have hbel2 := hbel.trans (hb2.mono hbel.size)
      have hown2 := kept_below hown hb2
      have HR2 := HR.below hbel2 HR.lt
      clear q0 q1 q2
      have q0 : w2.cell? ⟨w.heap.size, 0, none⟩ = some (.int .i64 (V : Int)) := HR2.cell 0
      have q1 : w2.cell? ⟨w.heap.size, 1, none⟩ = some (.slice (some ⟨b, off, none⟩) n1 c1) := HR2.cell 1
      have q2 : w2.cell? ⟨w.heap.size, 2, none⟩ = some (.slice A2 n2 c2) := HR2.cell 2
      go_wp2_with fail
      refine (hat' _ hbel2).mono ?_
      rintro e w3 ⟨rfl, hb3⟩
      have hbel3 := hbel2.trans (hb3.mono hbel2.size)
      have hown3 := kept_below hown2 hb3
      clear q0 q1 q2 hb2 hb3
      go_wp2_with (first
        | (refine upon_append 22 _ W1.heap.size 23 i0 _ 1 4 Try.underlying22 hi0 hz0 hz1 hz2 rfl (by omega) _ (c - V) ((pricesA N (n2 * (M + 1)) V (c - V)).map (Value.float .f32)) (by exact World.ownsRow.alloc (by exact hown3) _)
            ⟨w3.heap.size, 0, none⟩ 1 1 [.float .f32 x] (by rfl) (World.news_of_block (cs := #[.float .f32 x]) (t := 23) (fr := (0, 0)) (heap_alloc_new w3 _)) (by simp [Value.oneCell'])
            (by omega) (by unfold maxLen; omega) (by omega) (by have := hbel3.size; simp; omega) (fun gg cap2 w6 hown1 hgrow => ?_)))
      go_roundw
      case rel => exact ⟨c + 1, by omega, by omega, by go_num, below_grown (Below.alloc hbel3 hbel3.size _) hgrow (by have := hbel3.size; simp; omega) (fun j e => (hown.lt j e).1), by rw [show c + 1 - V = (c - V) + 1 by omega]; exact snoc_own hown1 (by rw [← HX.out, show V + (c - V) = c by omega])⟩
      case measure => simp [intOf]; omega
    · obtain rfl : c = M := by omega
      have e2 : c - V = n2 := by have := HMV.out; omega
      rw [e2] at hown
      clear e2
      go_wp2_with fail
      refine (hq _).mono ?_
      rintro e w2 ⟨rfl, hb2⟩
      have hbel2 := hbel.trans (hb2.mono hbel.size)
      go_wp2_with fail
      go_ret
      exact ⟨_, rfl, (kept_below hown hb2).mono HB.size, HB.trans (hbel2.mono HB.size)⟩
theorem implPricesOf_own (v : Int) (A1 A2 : Option Addr) (n1 n2 c1 c2 : Nat) (N : List Nat) (S : List Int) (w : World) (h1 : FS w A1 n1 N) (h2 : IS w A2 n2 S) (b1 : n1 ≤ 1048576) (b2 : n2 ≤ 1048576) (hcap : n2 = c2 := by rfl) :
    Calls Try.prog 60 #[.agg #[.int .i64 v, .slice A1 n1 c1, .slice A2 n2 c2]] w fun e w' => ∃ u, e = .returned (.tuple #[u, .bool (pricesOfV v n1 n2 N S)]) ∧ w'.ownsRow w.heap.size 23 1 u (pricesOfN v n1 n2 N S) ((pricesOfO v n1 n2 N S).map (Value.float .f32)) ∧ Below w.heap.size w w' := by
  have HB : Below w.heap.size w (w.alloc (.cells #[.int .i64 v, .slice A1 n1 c1, .slice A2 n2 c2] 46)) := (Below.refl _ _).alloc (Nat.le_refl _) _
  have HR := Row.new w 46 #[.int .i64 v, .slice A1 n1 c1, .slice A2 n2 c2]
  have k1 := h1.below HB
  have k2 := h2.below HB
  clear h1 h2
  have HT := fun w' f1 f2 => implValidTable_any v A1 A2 n1 n2 c1 c2 N S w' f1 f2 b1 b2 hcap
  clear hcap
  cases hT : tableV v n1 n2 N S
  · have H : Hid (pricesOfV v n1 n2 N S = false) := by show _ = _; rw [pricesOfV, hT]
    have HN : Hid (pricesOfN v n1 n2 N S = 0) := by show _ = _; rw [pricesOfN, hT]; rfl
    have HO : Hid (pricesOfO v n1 n2 N S = []) := by show _ = _; rw [pricesOfO, hT]; rfl
    go_enter Try.func60, Try.ntmps60
    go_wp2_with fail
    refine (HT _ k1 k2).mono ?_
    rintro e w1 ⟨rfl, hb⟩
    rw [hT]
    go_wp2_with fail
    go_ret2
    exact ⟨_, by rw [H.out]; rfl, by rw [HN.out, HO.out]; exact World.ownsRow_nil _ _ _ _, HB.trans (hb.mono HB.size)⟩
  obtain ⟨hsh, _, _⟩ := tableV_shape hT
  obtain ⟨M, e1, e2, e3, e4, e5, e6, e7⟩ := shape_nat hsh
  have H : Hid (pricesOfV v n1 n2 N S = true) := by show _ = _; rw [pricesOfV, hT]
  have HN : Hid (pricesOfN v n1 n2 N S = n2) := by show _ = _; rw [pricesOfN, hT]; rfl
  have HO : Hid (pricesOfO v n1 n2 N S = pricesA N (n2 * (M + 1)) v.toNat n2) := by show _ = _; rw [pricesOfO, hT, e3]; rfl
  have hc := fun wq f => prices_any v.toNat v A1 A2 n1 n2 c1 c2 N S M wq f (by have := hsh.1; omega) e2 hsh.1 hsh.2.1 b1 hsh.2.2.2.1 e6 e5
  clear e1 e2 e3 e4 e5 e6 e7 hsh
  go_enter Try.func60, Try.ntmps60
  go_wp2_with fail
  refine (HT _ k1 k2).mono ?_
  rintro e w1 ⟨rfl, hb⟩
  rw [hT]
  replace HR := HR.below hb HR.lt
  replace HB := HB.trans (hb.mono HB.size)
  replace k1 := k1.below hb
  clear hb k2 HT
  have q0 : w1.cell? ⟨w.heap.size, 0, none⟩ = some (.int .i64 v) := HR.cell 0
  have q1 : w1.cell? ⟨w.heap.size, 1, none⟩ = some (.slice A1 n1 c1) := HR.cell 1
  have q2 : w1.cell? ⟨w.heap.size, 2, none⟩ = some (.slice A2 n2 c2) := HR.cell 2
  go_wp2_with fail
  refine (hc _ k1).mono ?_
  rintro e w3 ⟨u, rfl, ho, hb⟩
  go_wp2_with fail
  go_ret2
  exact ⟨_, by rw [H.out]; rfl, by rw [HN.out, HO.out]; exact ho.mono HB.size, HB.trans (hb.mono HB.size)⟩
end Go.Proofs.Yteodplednmeaaaa
