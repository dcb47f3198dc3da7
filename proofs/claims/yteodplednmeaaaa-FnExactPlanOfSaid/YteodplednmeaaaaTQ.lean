/- Tables: the plan. -/
import Derived.Test.YteodplednmeaaaaTL
import Derived.Test.YteodplednmeaaaaTP
namespace Go.Proofs.Yteodplednmeaaaa
open Go.RowKit
set_option linter.unusedVariables false
set_option linter.unusedSimpArgs false
attribute [local go_sem] lo_value lo_enter run_store_float run_neg LC.lc_value LC.lc_enter
attribute [local go_sem ↓] append_held

/-- the plan behind i rows: the last number of each row whose base is a variable -/
def planA (N : List Nat) (S : List Int) (M V : Nat) : Nat → List Nat
  | 0 => List.replicate V 0
  | i + 1 => bif decide (S.getD i 0 < (V : Int)) then (planA N S M V i).set (S.getD i 0).toNat (N.getD (i * (M + 1) + M) 0) else planA N S M V i
theorem planA_length (N : List Nat) (S : List Int) (M V i : Nat) : (planA N S M V i).length = V := by
  induction i with
  | zero => simp [planA]
  | succ i ih => rw [planA]; cases decide (S.getD i 0 < (V : Int)) <;> simp [ih]
theorem planA_in {N : List Nat} {S : List Int} {M V i x : Nat} {s : Nat} (hs : S.getD i 0 = (s : Int)) (hx : N.getD (i * (M + 1) + M) 0 = x) (h : decide ((s : Int) < (V : Int)) = true) : (planA N S M V (i + 1)).map (Value.float .f32) = ((planA N S M V i).map (Value.float .f32)).set s (.float .f32 x) := by
  rw [planA, hs, h, hx, Int.toNat_natCast]; simp [List.map_set]
theorem planA_out {N : List Nat} {S : List Int} {M V i : Nat} {s : Nat} (hs : S.getD i 0 = (s : Int)) (h : decide ((s : Int) < (V : Int)) = false) : planA N S M V (i + 1) = planA N S M V i := by
  rw [planA, hs, h]; rfl
theorem planA_start (V : Nat) : (madeCells (Value.float .f32 0).cells V).toList = (List.replicate V 0).map (Value.float .f32) := by
  rw [show (Value.float .f32 0).cells = #[Value.float .f32 0] from rfl, toList_madeCells_one]; simp
def planOfV (v : Int) (n1 n2 : Nat) (N : List Nat) (S : List Int) : Bool := tableV v n1 n2 N S
def planOfN (v : Int) (n1 n2 : Nat) (N : List Nat) (S : List Int) : Nat := bif tableV v n1 n2 N S then v.toNat else 0
def planOfO (v : Int) (n1 n2 : Nat) (N : List Nat) (S : List Int) : List Nat := bif tableV v n1 n2 N S then planA N S ((v + n2).toNat) v.toNat n2 else []
theorem planOfN_le {v : Int} {n1 n2 : Nat} {N : List Nat} {S : List Int} : planOfN v n1 n2 N S ≤ 1048576 := by
  unfold planOfN; cases h : tableV v n1 n2 N S
  · exact Nat.zero_le _
  · have := (tableV_shape h).1; show v.toNat ≤ _; have := this.2.1; omega
theorem base_at {v : Int} {n2 : Nat} {S : List Int} {i : Nat} (h : baseAll v n2 S n2 = true) (hi : i < n2) : 0 ≤ S.getD i 0 := by
  unfold baseAll at h
  rw [List.all_eq_true] at h
  have := h i (List.mem_range.2 hi)
  unfold baseOk at this
  rw [Bool.and_eq_true] at this
  exact (inR_of this.1).1
set_option maxHeartbeats 2000000 in
set_option maxRecDepth 100000 in
theorem l02Plan_any (p V : Nat) (v : Int) (A1 A2 : Option Addr) (n1 n2 c1 c2 : Nat) (N : List Nat) (S : List Int) (M : Nat) (w : World) (hr : Row w p 46 #[.int .i64 v, .slice A1 n1 c1, .slice A2 n2 c2]) (h1 : FS w A1 n1 N) (h2 : IS w A2 n2 S) (hV : v = (V : Int)) (hM : v + n2 + 1 = ((M + 1 : Nat) : Int)) (v1 : 1 ≤ v) (v2 : v ≤ 8) (b1 : n1 ≤ 1048576) (b2 : n2 ≤ 8) (hM16 : M ≤ 16) (hn1 : n1 = (n2 + 1) * (M + 1)) (hS : ∀ i, i < n2 → 0 ≤ S.getD i 0) :
    Calls Try.prog 107 #[.pointer (some ⟨p, 0, none⟩)] w fun e w' => ∃ u, e = .returned u ∧ w'.ownsRow w.heap.size 23 1 u V ((planA N S M V n2).map (Value.float .f32)) ∧ Below w.heap.size w w' := by
  obtain ⟨i0, hi0, hz0, hz1, hz2⟩ := info_parts info_f32
  have hmk := fun W => make_row (P := Try.prog) 22 23 i0 _ Try.underlying22 hi0 hz0 hz1 V (by rw [hz2]; omega) (by omega) W
  have hq : ∀ wq, Below w.heap.size w wq → Calls Try.prog 113 #[.pointer (some ⟨p, 0, none⟩)] wq fun e w'' => ∃ k, e = .returned (.int .i64 ((M : Int) + 1)) ∧ w'' = wq.drewN k := fun wq hb => by
    have := l02Wide_any p v A1 A2 n1 n2 c1 c2 wq (hr.below hb hr.lt) (by omega) (by omega) (by omega)
    rw [show v + (n2 : Int) + 1 = (M : Int) + 1 by omega] at this
    exact this
  have hat := fun r x wq hb hk hx => l02At_any p v A1 A2 n1 n2 c1 c2 N S M r M x wq (hr.below hb hr.lt) (h1.below hb) hM v1 v2 b1 b2 hk hx
  have HN := Lib.hid hn1
  subst hV
  clear hn1 hM
  have q0 : w.cell? ⟨p, 0, none⟩ = some (.int .i64 (V : Int)) := hr.cell 0
  have hw0 := hr.lt
  have HOwn := World.ownsRow_lit (base := w.heap.size) (e := 23) (size := 1) w (madeCells (Value.float .f32 0).cells V) V (Nat.le_refl _) (by unfold maxLen; omega) (by rw [size_madeCells]; omega)
  rw [planA_start] at HOwn
  have HB0 : Below w.heap.size w (w.alloc (.cells (madeCells (Value.float .f32 0).cells V) 23)) := (Below.refl _ _).alloc (Nat.le_refl _) _
  generalize madeCells (Value.float .f32 0).cells V = v0 at *
  clear hi0 hz0 hz1 hz2
  go_enter Try.func107, Try.ntmps107
  go_wp2_with fail
  clear hmk
  go_loopw [4] (fun i wr => ∃ (k : Nat), k ≤ n2 ∧ i = .int .i64 k ∧ Below w.heap.size w wr ∧ wr.ownsRow w.heap.size 23 1 (.slice (some ⟨w.heap.size, 0, none⟩) V V) V ((planA N S M V k).map (Value.float .f32))) (fun i _ => n2 - (intOf i).toNat)
  case atStart => exact ⟨0, Nat.zero_le _, rfl, HB0, HOwn⟩
  case round =>
    clear HOwn HB0 q0
    obtain ⟨k, hk, rfl, hbel, hown⟩ := hrel
    have HRr := hr.below hbel hr.lt
    have q0 : wr.cell? ⟨p, 0, none⟩ = some (.int .i64 (V : Int)) := HRr.cell 0
    have q2 : wr.cell? ⟨p, 2, none⟩ = some (.slice A2 n2 c2) := HRr.cell 2
    by_cases hlt : k < n2
    · have f2 := entry_fits HN.out (Nat.le_of_lt hlt) (Nat.le_refl M)
      obtain ⟨b', off', y, e', hb', hc', hy, hs'⟩ := h1.at_ f2
      obtain ⟨b3, off3, z, rfl, hb3, hc3, hz, hs3⟩ := (h2.below hbel).at_ hlt
      have HY := Lib.hid (getD_of (z := 0) hy)
      have HZ := Lib.hid (getD_of (z := 0) hz)
      have hz0 : 0 ≤ z := by have := hS k hlt; rw [HZ.out] at this; exact this
      obtain ⟨s, rfl⟩ : ∃ s : Nat, z = (s : Int) := ⟨z.toNat, by omega⟩
      have haty := fun wq hb => hat k y wq hb f2 hy
      have hlt2 : (k : Int) < (n2 : Int) := by omega
      clear hy hs' hz hs3 hat f2 e' hc' hb' hz0 hS
      cases hsv : decide ((s : Int) < (V : Int))
      · have HSV := Lib.hid hsv
        have hle : V ≤ s := by have := of_decide_eq_false hsv; omega
        have hns : ¬ (s : Int) < (V : Int) := by omega
        have hns2 : (V : Int) ≤ (s : Int) := by omega
        go_wp2_with fail
        go_big_quiet (fail)
        go_wp2_with fail
        go_roundw
        case rel => exact ⟨k + 1, by omega, by go_num, below_drewN hbel _, by rw [planA_out HZ.out HSV.out]; exact hown⟩
        case measure => simp [intOf]; omega
      · have HSV := Lib.hid hsv
        have hsV : s < V := by have := of_decide_eq_true hsv; omega
        have hsV2 : (s : Int) < (V : Int) := by omega
        go_wp2_with fail
        go_big_quiet (fail)
        obtain ⟨u, hcu⟩ : ∃ u, wr.cell? ⟨w.heap.size, s, none⟩ = some u := by
          rw [hown.cellAt s (by omega)]
          exact ⟨_, List.getElem?_eq_getElem (by have := hown.1; omega)⟩
        have hzu := hown.frozenAt s
        have hwM : IntKind.i64.wrap ((M : Int) + 1 - 1) = (M : Int) := by rw [show (M : Int) + 1 - 1 = (M : Int) by omega]; exact IntWalk.i64_in _ (by omega)
        have hwM1 : IntKind.i64.wrap (M : Int) = (M : Int) := IntWalk.i64_in _ (by omega)
        go_wp2_with fail
        go_region_with ((first
          | (go_at_call 113; with_reducible refine (hq _ (by exact below_drewN hbel _)).mono ?_; rintro e wa ⟨ma, rfl, rfl⟩)
          | (go_at_call 115; with_reducible refine (haty _ (by exact below_drewN hbel _)).mono ?_; rintro e wa ⟨mb, rfl, rfl⟩)))
        all_goals (
          go_wp2_with fail
          have hown3 : (wr.drewN (nq + 1 + ma + mb)).ownsRow w.heap.size 23 1 (.slice (some ⟨w.heap.size, 0, none⟩) V V) V ((planA N S M V k).map (Value.float .f32)) := hown
          go_roundw
          case rel => exact ⟨k + 1, by omega, by go_num, below_grown (below_drewN hbel (nq + 1 + ma + mb)) (hown3.stored s _).2 hbel.size (fun j e => by injection e with e; omega), by rw [planA_in HZ.out HY.out HSV.out]; exact (hown3.stored s _).1⟩
          case measure => simp [intOf]; omega)
    · obtain rfl : k = n2 := by omega
      go_wp2_with fail
      go_ret
      exact ⟨_, rfl, hown, hbel⟩
theorem specPlanOf_own (v : Int) (A1 A2 : Option Addr) (n1 n2 c1 c2 : Nat) (N : List Nat) (S : List Int) (w : World) (h1 : FS w A1 n1 N) (h2 : IS w A2 n2 S) (b1 : n1 ≤ 1048576) (b2 : n2 ≤ 1048576) :
    Calls Try.prog 62 #[.agg #[.int .i64 v, .slice A1 n1 c1, .slice A2 n2 c2]] w fun e w' => ∃ u, e = .returned (.tuple #[u, .bool (planOfV v n1 n2 N S)]) ∧ w'.ownsRow w.heap.size 23 1 u (planOfN v n1 n2 N S) ((planOfO v n1 n2 N S).map (Value.float .f32)) ∧ Below w.heap.size w w' := by
  have HB : Below w.heap.size w (w.alloc (.cells #[.int .i64 v, .slice A1 n1 c1, .slice A2 n2 c2] 46)) := (Below.refl _ _).alloc (Nat.le_refl _) _
  have HR := Row.new w 46 #[.int .i64 v, .slice A1 n1 c1, .slice A2 n2 c2]
  have k1 := h1.below HB
  have k2 := h2.below HB
  clear h1 h2
  cases hT : tableV v n1 n2 N S
  · have H : Hid (planOfV v n1 n2 N S = false) := by show _ = _; rw [planOfV, hT]
    have HN : Hid (planOfN v n1 n2 N S = 0) := by show _ = _; rw [planOfN, hT]; rfl
    have HO : Hid (planOfO v n1 n2 N S = []) := by show _ = _; rw [planOfO, hT]; rfl
    go_enter Try.func62, Try.ntmps62
    go_wp2_with fail
    refine (l02Table_any w.heap.size v A1 A2 n1 n2 c1 c2 N S _ HR k1 k2 b1 b2).mono ?_
    rintro e wx ⟨m1, rfl, rfl⟩
    rw [hT]
    go_wp2_with fail
    go_ret2
    exact ⟨_, by rw [H.out]; rfl, by rw [HN.out, HO.out]; exact World.ownsRow_nil _ _ _ _, below_drewN HB _⟩
  obtain ⟨hsh, _, hba⟩ := tableV_shape hT
  obtain ⟨M, e1, e2, e3, e4, e5, e6, e7⟩ := shape_nat hsh
  have H : Hid (planOfV v n1 n2 N S = true) := by show _ = _; rw [planOfV, hT]
  have HN : Hid (planOfN v n1 n2 N S = v.toNat) := by show _ = _; rw [planOfN, hT]; rfl
  have HO : Hid (planOfO v n1 n2 N S = planA N S M v.toNat n2) := by show _ = _; rw [planOfO, hT, e4]; rfl
  have hc := fun q => l02Plan_any w.heap.size v.toNat v A1 A2 n1 n2 c1 c2 N S M _ (HR.drewN q) (k1.drewN q) (k2.drewN q) (by have := hsh.1; omega) e2 hsh.1 hsh.2.1 b1 hsh.2.2.2.1 e6 e5 (fun i hi => base_at hba hi)
  clear e1 e2 e3 e4 e5 e6 e7 hsh hba
  go_enter Try.func62, Try.ntmps62
  go_wp2_with fail
  refine (l02Table_any w.heap.size v A1 A2 n1 n2 c1 c2 N S _ HR k1 k2 b1 b2).mono ?_
  rintro e wx ⟨m1, rfl, rfl⟩
  rw [hT]
  go_wp2_with fail
  refine (hc _).mono ?_
  rintro e w2 ⟨u, rfl, ho, hb⟩
  go_wp2_with fail
  go_ret2
  exact ⟨_, by rw [H.out]; rfl, by rw [HN.out, HO.out]; exact ho.mono HB.size, (below_drewN HB m1).trans (hb.mono (below_drewN HB m1).size)⟩
set_option maxHeartbeats 2000000 in
set_option maxRecDepth 100000 in
theorem plan_any (V : Nat) (v : Int) (A1 A2 : Option Addr) (n1 n2 c1 c2 : Nat) (N : List Nat) (S : List Int) (M : Nat) (w : World) (h1 : FS w A1 n1 N) (h2 : IS w A2 n2 S) (hV : v = (V : Int)) (hM : v + n2 + 1 = ((M + 1 : Nat) : Int)) (v1 : 1 ≤ v) (v2 : v ≤ 8) (b1 : n1 ≤ 1048576) (b2 : n2 ≤ 8) (hM16 : M ≤ 16) (hn1 : n1 = (n2 + 1) * (M + 1)) (hS : ∀ i, i < n2 → 0 ≤ S.getD i 0) :
    Calls Try.prog 108 #[.agg #[.int .i64 v, .slice A1 n1 c1, .slice A2 n2 c2]] w fun e w' => ∃ u, e = .returned u ∧ w'.ownsRow w.heap.size 23 1 u V ((planA N S M V n2).map (Value.float .f32)) ∧ Below w.heap.size w w' := by
  obtain ⟨i0, hi0, hz0, hz1, hz2⟩ := info_parts info_f32
  have hmk := fun W => make_row (P := Try.prog) 22 23 i0 _ Try.underlying22 hi0 hz0 hz1 V (by rw [hz2]; omega) (by omega) W
  have HB : Below w.heap.size w (w.alloc (.cells #[.int .i64 v, .slice A1 n1 c1, .slice A2 n2 c2] 46)) := (Below.refl _ _).alloc (Nat.le_refl _) _
  have HR := Row.new w 46 #[.int .i64 v, .slice A1 n1 c1, .slice A2 n2 c2]
  have k1 := h1.below HB
  have k2 := h2.below HB
  clear h1 h2
  obtain ⟨W1, hW1⟩ : ∃ W1, W1 = w.alloc (.cells #[.int .i64 v, .slice A1 n1 c1, .slice A2 n2 c2] 46) := ⟨_, rfl⟩
  rw [← hW1] at HB HR k1 k2
  have HS : W1.heap.size = w.heap.size + 1 := by rw [hW1]; simp
  have HW1 := Lib.hid hW1
  clear hW1
  have hla := fun r x wq hb hk hx => last_any v A1 A2 n1 n2 c1 c2 N S M r x wq (k1.below hb) hM v1 v2 b1 b2 hM16 hk hx
  have HN := Lib.hid hn1
  subst hV
  clear hn1 hM
  have q0 : W1.cell? ⟨w.heap.size, 0, none⟩ = some (.int .i64 (V : Int)) := HR.cell 0
  have q2 : W1.cell? ⟨w.heap.size, 2, none⟩ = some (.slice A2 n2 c2) := HR.cell 2
  have hw0 := HR.lt
  have HOwn := World.ownsRow_lit (base := W1.heap.size) (e := 23) (size := 1) W1 (madeCells (Value.float .f32 0).cells V) V (Nat.le_refl _) (by unfold maxLen; omega) (by rw [size_madeCells]; omega)
  rw [planA_start, HS] at HOwn
  have HSH := Lib.hid HS
  clear HS
  have HB0 : Below W1.heap.size W1 (W1.alloc (.cells (madeCells (Value.float .f32 0).cells V) 23)) := (Below.refl _ _).alloc (Nat.le_refl _) _
  generalize madeCells (Value.float .f32 0).cells V = v0 at *
  clear hi0 hz0 hz1 hz2
  go_enter Try.func108, Try.ntmps108
  go_wp2_with fail
  rw [← HW1.out]
  go_wp2_with fail
  clear hmk
  go_loopw [12] (fun i wr => ∃ (k : Nat), k ≤ n2 ∧ i = .int .i64 k ∧ Below W1.heap.size W1 wr ∧ wr.ownsRow (w.heap.size + 1) 23 1 (.slice (some ⟨w.heap.size + 1, 0, none⟩) V V) V ((planA N S M V k).map (Value.float .f32))) (fun i _ => n2 - (intOf i).toNat)
  case atStart => exact ⟨0, Nat.zero_le _, rfl, HB0, HOwn⟩
  case round =>
    clear HOwn HB0 q0 q2
    obtain ⟨k, hk, rfl, hbel, hown⟩ := hrel
    have HR0 := HR.below hbel HR.lt
    have q0 : wr.cell? ⟨w.heap.size, 0, none⟩ = some (.int .i64 (V : Int)) := HR0.cell 0
    have q1 : wr.cell? ⟨w.heap.size, 1, none⟩ = some (.slice A1 n1 c1) := HR0.cell 1
    by_cases hlt : k < n2
    · have f2 := entry_fits HN.out (Nat.le_of_lt hlt) (Nat.le_refl M)
      obtain ⟨b', off', y, e', hb', hc', hy, hs'⟩ := k1.at_ f2
      obtain ⟨b3, off3, z, rfl, hb3, hc3, hz, hs3⟩ := (k2.below hbel).at_ hlt
      have q2 : wr.cell? ⟨w.heap.size, 2, none⟩ = some (.slice (some ⟨b3, off3, none⟩) n2 c2) := HR0.cell 2
      have HY := Lib.hid (getD_of (z := 0) hy)
      have HZ := Lib.hid (getD_of (z := 0) hz)
      have hz0 : 0 ≤ z := by have := hS k hlt; rw [HZ.out] at this; exact this
      obtain ⟨s, rfl⟩ : ∃ s : Nat, z = (s : Int) := ⟨z.toNat, by omega⟩
      have haty := fun wq hb => hla k y wq hb f2 hy
      have hlt2 : (k : Int) < (n2 : Int) := by omega
      clear hy hs' hz hs3 hla f2 e' hc' hb' hz0 hS
      cases hsv : decide ((s : Int) < (V : Int))
      · have HSV := Lib.hid hsv
        have hle : V ≤ s := by have := of_decide_eq_false hsv; omega
        have hns : ¬ (s : Int) < (V : Int) := by omega
        have hns2 : (V : Int) ≤ (s : Int) := by omega
        go_wp2_with fail
        go_roundw
        case rel => exact ⟨k + 1, by omega, by go_num, hbel, by rw [planA_out HZ.out HSV.out]; exact hown⟩
        case measure => simp [intOf]; omega
      · have HSV := Lib.hid hsv
        have hsV : s < V := by have := of_decide_eq_true hsv; omega
        have hsV2 : (s : Int) < (V : Int) := by omega
        go_wp2_with fail
        refine (haty _ hbel).mono ?_
        rintro e w2 ⟨rfl, hb2⟩
        have hbel2 := hbel.trans (hb2.mono hbel.size)
        have hown2 := kept_below hown hb2
        obtain ⟨u, hcu⟩ : ∃ u, w2.cell? ⟨w.heap.size + 1, s, none⟩ = some u := by
          rw [hown2.cellAt s (by omega)]
          exact ⟨_, List.getElem?_eq_getElem (by have := hown2.1; omega)⟩
        have hzu := hown2.frozenAt s
        clear q0 q1 q2 hb2
        go_wp2_with fail
        go_roundw
        case rel => exact ⟨k + 1, by omega, by go_num, below_grown hbel2 (hown2.stored s _).2 hbel2.size (fun j e => by injection e with e; have := HSH.out; omega), by rw [planA_in HZ.out HY.out HSV.out]; exact (hown2.stored s _).1⟩
        case measure => simp [intOf]; omega
    · obtain rfl : k = n2 := by omega
      go_wp2_with fail
      go_ret
      exact ⟨_, rfl, hown.mono (Nat.le_succ _), HB.trans (hbel.mono HB.size)⟩
theorem implPlanOf_own (v : Int) (A1 A2 : Option Addr) (n1 n2 c1 c2 : Nat) (N : List Nat) (S : List Int) (w : World) (h1 : FS w A1 n1 N) (h2 : IS w A2 n2 S) (b1 : n1 ≤ 1048576) (b2 : n2 ≤ 1048576) (hcap : n2 = c2 := by rfl) :
    Calls Try.prog 63 #[.agg #[.int .i64 v, .slice A1 n1 c1, .slice A2 n2 c2]] w fun e w' => ∃ u, e = .returned (.tuple #[u, .bool (planOfV v n1 n2 N S)]) ∧ w'.ownsRow w.heap.size 23 1 u (planOfN v n1 n2 N S) ((planOfO v n1 n2 N S).map (Value.float .f32)) ∧ Below w.heap.size w w' := by
  have HB : Below w.heap.size w (w.alloc (.cells #[.int .i64 v, .slice A1 n1 c1, .slice A2 n2 c2] 46)) := (Below.refl _ _).alloc (Nat.le_refl _) _
  have HR := Row.new w 46 #[.int .i64 v, .slice A1 n1 c1, .slice A2 n2 c2]
  have k1 := h1.below HB
  have k2 := h2.below HB
  clear h1 h2
  have HT := fun w' f1 f2 => implValidTable_any v A1 A2 n1 n2 c1 c2 N S w' f1 f2 b1 b2 hcap
  clear hcap
  cases hT : tableV v n1 n2 N S
  · have H : Hid (planOfV v n1 n2 N S = false) := by show _ = _; rw [planOfV, hT]
    have HN : Hid (planOfN v n1 n2 N S = 0) := by show _ = _; rw [planOfN, hT]; rfl
    have HO : Hid (planOfO v n1 n2 N S = []) := by show _ = _; rw [planOfO, hT]; rfl
    go_enter Try.func63, Try.ntmps63
    go_wp2_with fail
    refine (HT _ k1 k2).mono ?_
    rintro e w1 ⟨rfl, hb⟩
    rw [hT]
    go_wp2_with fail
    go_ret2
    exact ⟨_, by rw [H.out]; rfl, by rw [HN.out, HO.out]; exact World.ownsRow_nil _ _ _ _, HB.trans (hb.mono HB.size)⟩
  obtain ⟨hsh, _, hba⟩ := tableV_shape hT
  obtain ⟨M, e1, e2, e3, e4, e5, e6, e7⟩ := shape_nat hsh
  have H : Hid (planOfV v n1 n2 N S = true) := by show _ = _; rw [planOfV, hT]
  have HN : Hid (planOfN v n1 n2 N S = v.toNat) := by show _ = _; rw [planOfN, hT]; rfl
  have HO : Hid (planOfO v n1 n2 N S = planA N S M v.toNat n2) := by show _ = _; rw [planOfO, hT, e4]; rfl
  have hc := fun wq f f2 => plan_any v.toNat v A1 A2 n1 n2 c1 c2 N S M wq f f2 (by have := hsh.1; omega) e2 hsh.1 hsh.2.1 b1 hsh.2.2.2.1 e6 e5 (fun i hi => base_at hba hi)
  clear e1 e2 e3 e4 e5 e6 e7 hsh hba
  go_enter Try.func63, Try.ntmps63
  go_wp2_with fail
  refine (HT _ k1 k2).mono ?_
  rintro e w1 ⟨rfl, hb⟩
  rw [hT]
  replace HR := HR.below hb HR.lt
  replace HB := HB.trans (hb.mono HB.size)
  replace k1 := k1.below hb
  replace k2 := k2.below hb
  clear hb HT
  have q0 : w1.cell? ⟨w.heap.size, 0, none⟩ = some (.int .i64 v) := HR.cell 0
  have q1 : w1.cell? ⟨w.heap.size, 1, none⟩ = some (.slice A1 n1 c1) := HR.cell 1
  have q2 : w1.cell? ⟨w.heap.size, 2, none⟩ = some (.slice A2 n2 c2) := HR.cell 2
  go_wp2_with fail
  refine (hc _ k1 k2).mono ?_
  rintro e w3 ⟨u, rfl, ho, hb⟩
  go_wp2_with fail
  go_ret2
  exact ⟨_, by rw [H.out]; rfl, by rw [HN.out, HO.out]; exact ho.mono HB.size, HB.trans (hb.mono HB.size)⟩
end Go.Proofs.Yteodplednmeaaaa
