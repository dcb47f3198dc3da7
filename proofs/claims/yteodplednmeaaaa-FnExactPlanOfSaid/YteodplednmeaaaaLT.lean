/- What a plan leaves of each row: lists made by append. -/
import Derived.Test.YteodplednmeaaaaAQ
import Derived.Deep.RegionHeld3
import Derived.Deep.RegionWith
import Derived.Deep.AppendLies
import Derived.Deep.DrawnRows
import Derived.WalkKit
import Derived.StillTactics
import Derived.OwnWalk
import Derived.Laws.OwnMore
import Derived.Deep.Onto
namespace Go.Proofs.Yteodplednmeaaaa
open Go.RowKit
set_option linter.unusedVariables false
set_option linter.unusedSimpArgs false
attribute [local go_sem] lo_value lo_enter run_store_float run_neg LC.lc_value LC.lc_enter

theorem upon_farith {P : Program} {o : Oper} {a : Act} {K : Act → World → Prop} {Q : Exit → Act → World → Prop} {op : BinOp} {t : TypeId} {k : FloatKind} {bx bz : Nat} {w : World} (hop : arithOp op = true)
    (h : ∀ r n, Hid (av k r = fop op k (av k bx) (av k bz)) → Oper.upon P o a K Q (Result.ok (Next.value (.float k r)) (w.drewN n))) :
    Oper.upon P o a K Q ((Sem.run P (binOp op t (.float k bx) (.float k bz)) w).andThen fun a w' => Result.ok (Next.value a) w') := by
  obtain ⟨r, n, hr, he⟩ := run_farith (P := P) w op hop t k bx bz
  rw [hr]
  exact h r n he
theorem below_grown {B : Nat} {a w w' : World} {row : Option Nat} (h : Below B a w) (hg : w.grownBy w' row) (hB : B ≤ w.heap.size) (hr : ∀ k, row = some k → B ≤ k) : Below B a w' :=
  ⟨hg.os.trans h.os, hg.tape.trans h.tape, hg.output.trans h.output, Nat.le_trans h.size hg.size, fun k hk => (hg.block k (Nat.lt_of_lt_of_le hk hB) (fun e => by have := hr k e.symm; omega)).trans (h.block k hk)⟩
theorem info_f32 : (Try.prog.info? 23).map (fun i => (i.zero, i.size, i.bytes)) = some (some (.float .f32 0), 1, 4) := by kernel_rfl
/-- append, kept from being laid open -/
def heldAppend (ts : Array TypeId) (ty : TypeId) (args : Array Value) := Builtin.append_ ts ty args
theorem append_held (ts : Array TypeId) (ty : TypeId) (args : Array Value) : Builtin.append_ ts ty args = heldAppend ts ty args := rfl
attribute [local go_sem ↓] append_held
theorem upon_append {P : Program} {o : Oper} {a : Act} {K : Act → World → Prop} {Q : Exit → Act → World → Prop} {w : World} (t ty : TypeId) (base : Nat) (e : TypeId) (i : TypeInfo) (z : Value) (size bytes : Nat) (ht : P.underlying t = some (.slice e)) (hi : P.info? e = some i) (hz : i.zero = some z)
    (hsize : i.size = size) (hby : i.bytes = bytes) (hzs : z.cells.size = size) (hsz : 0 < size)
    (v : Value) (n : Nat) (xs : List Value) (hown : w.ownsRow base e size v n xs)
    (ad : Addr) (m c : Nat) (news : List Value) (hl : news.length = m * size) (hnews : ∀ j u, news[j]? = some u → w.cell? (ad.add j) = some u) (h1 : ∀ u ∈ news, u.oneCell' = true)
    (hm : 0 < m) (h63 : n + m ≤ maxLen) (hbytes : (n + m) * bytes ≤ 140737488355328) (hbase : base ≤ w.heap.size)
    (h : ∀ g cap w', w'.ownsRow base e size (.slice (some ⟨g, 0, none⟩) (n + m) cap) (n + m) (xs ++ news) → w.grownBy w' v.ownBlock → Oper.upon P o a K Q (Result.ok (Next.value (.slice (some ⟨g, 0, none⟩) (n + m) cap)) w')) :
    Oper.upon P o a K Q ((Sem.run P (heldAppend #[t, t] ty #[v, .slice (some ad) m c]) w).andThen fun a w' => Result.ok (Next.value a) w') := by
  obtain ⟨g, cap, w', hr, h2, h3, _⟩ := run_append_lies (P := P) w t ty base e i z size bytes ht hi hz hsize hby hzs hsz v n xs hown ad m c news hl hnews h1 hm h63 hbytes hbase _ rfl
  unfold heldAppend
  rw [hr]
  exact h g cap w' h2 h3
/-- what is left of row i -/
def leftA (N B : List Nat) (m : Nat) (Y : List Nat) (i : Nat) : Option Nat := fop .sub .f32 (av .f32 (B.getD i 0)) (dotA (some 0) (rowL m N i) Y)
def leftV (v : Int) (n1 n2 n3 : Nat) (N B G : List Nat) (m : Nat) (Y : List Nat) : Bool := fitV v n1 n2 n3 N B G m Y && (List.range n2).all fun i => finA .f32 (leftA N B n3 Y i)
/-- a list made: the numbers it holds are what X says -/
structure Made (X : Nat → Option Nat) (w : World) (base : Nat) (v : Value) (k : Nat) (L : List Nat) : Prop where
  own : w.ownsRow base 23 1 v k (L.map (Value.float .f32))
  val : L.map (av .f32) = (List.range k).map X
theorem Made.sl {X : Nat → Option Nat} {w : World} {base g cap n : Nat} {L : List Nat} (h : Made X w base (.slice (some ⟨g, 0, none⟩) n cap) n L) : FS w (some ⟨g, 0, none⟩) n L := by
  have hl : L.length = n := by have := h.own.1; simpa using this
  refine ⟨hl, fun hn => ⟨g, 0, rfl, (h.own.lt g rfl).2, fun j hj => ?_⟩⟩
  rw [Nat.zero_add, h.own.cellAt j (by omega), List.getElem?_map, List.getD_eq_getElem?_getD, List.getElem?_eq_getElem (by omega)]
  rfl
theorem Made.drewN {X : Nat → Option Nat} {w : World} {base k : Nat} {v : Value} {L : List Nat} (h : Made X w base v k L) (m : Nat) : Made X (w.drewN m) base v k L := ⟨h.own, h.val⟩
theorem Made.less {X : Nat → Option Nat} {w : World} {base base' k : Nat} {v : Value} {L : List Nat} (h : Made X w base v k L) (hb : base' ≤ base) : Made X w base' v k L := ⟨h.own.mono hb, h.val⟩
theorem Made.all {X : Nat → Option Nat} {w : World} {base k : Nat} {v : Value} {L : List Nat} (h : Made X w base v k L) : allA (finA .f32) L = (List.range k).all fun i => finA .f32 (X i) := by
  have e : allA (finA .f32) L = (L.map (av .f32)).all (finA .f32) := by unfold allA; rw [List.all_map]; rfl
  rw [e, h.val, List.all_map]; rfl
/-- of a world that came by an append to what was laid above B -/
theorem below_append {B : Nat} {a X w' : World} {o : Obj} {g : Nat} (h : Below B a X) (hB : B ≤ X.heap.size) (hg : (X.alloc o).grownBy w' (some g)) (hr : B ≤ g) : Below B a w' :=
  below_grown (h.alloc hB o) hg (by simp; omega) (fun k e => by injection e with e; omega)
theorem Made.snoc {X : Nat → Option Nat} {w w' : World} {base : Nat} {v v' : Value} {k : Nat} {L : List Nat} {r : Nat} (h : Made X w base v k L) (ho : w'.ownsRow base 23 1 v' (k + 1) (L.map (Value.float .f32) ++ [.float .f32 r])) (hr : av .f32 r = X k) : Made X w' base v' (k + 1) (L ++ [r]) :=
  ⟨by rw [List.map_append]; exact ho, by rw [List.map_append, h.val, List.range_succ, List.map_append]; simp [hr]⟩
theorem l02List_any (A : Option Addr) (n c : Nat) (L : List Nat) (w : World) (h : FS w A n L) (hn : n ≤ 1048576) :
    Calls Try.prog 100 #[.slice A n c] w fun e w' => ∃ k, e = .returned (.tuple #[bif allA (finA .f32) L then .slice A n c else .slice none 0 0, .bool (allA (finA .f32) L)]) ∧ w' = w.drewN k := by
  cases hf : allA (finA .f32) L
  · go_enter Try.func100, Try.ntmps100
    go_wp2_with fail
    refine (specl02Finite_any A n c L _ h hn).mono ?_
    rintro e wx ⟨m1, rfl, rfl⟩
    rw [hf]
    go_wp2_with fail
    go_ret2
    exact ⟨_, rfl, rfl⟩
  · go_enter Try.func100, Try.ntmps100
    go_wp2_with fail
    refine (specl02Finite_any A n c L _ h hn).mono ?_
    rintro e wx ⟨m1, rfl, rfl⟩
    rw [hf]
    go_wp2_with fail
    go_ret2
    exact ⟨_, rfl, rfl⟩
set_option maxHeartbeats 1000000 in
set_option maxRecDepth 100000 in
theorem specLeftOf_fit (v : Int) (A1 A2 A3 : Option Addr) (n1 n2 n3 c1 c2 c3 : Nat) (N B G : List Nat) (X : Option Addr) (m d : Nat) (M : List Nat) (w : World) (h1 : FS w A1 n1 N) (h2 : FS w A2 n2 B) (h3 : FS w A3 n3 G) (b1 : n1 ≤ 1048576) (b2 : n2 ≤ 1048576) (b3 : n3 ≤ 1048576) (hx : FS w X m M) (bm : m ≤ 1048576) (hf : fitV v n1 n2 n3 N B G m M = true) (hcap : n1 = c1 := by rfl) :
    Calls Try.prog 50 #[.agg #[.int .i64 v, .slice A1 n1 c1, .slice A2 n2 c2, .slice A3 n3 c3], .slice X m d] w fun e w' => ∃ (L : List Nat) (g cap : Nat), Made (leftA N B n3 M) w' w.heap.size (.slice (some ⟨g, 0, none⟩) n2 cap) n2 L ∧ e = .returned (.tuple #[bif allA (finA .f32) L then .slice (some ⟨g, 0, none⟩) n2 cap else .slice none 0 0, .bool (allA (finA .f32) L)]) ∧ Below w.heap.size w w' := by
  have HB : Below w.heap.size w (w.alloc (.cells #[.int .i64 v, .slice A1 n1 c1, .slice A2 n2 c2, .slice A3 n3 c3] 36)) := (Below.refl _ _).alloc (Nat.le_refl _) _
  have HR := Row.new w 36 #[.int .i64 v, .slice A1 n1 c1, .slice A2 n2 c2, .slice A3 n3 c3]
  have k1 := h1.below HB
  have k2 := h2.below HB
  have k3 := h3.below HB
  have kx := hx.below HB
  clear h1 h2 h3 hx
  obtain ⟨i0, hi0, hz0, hz1, hz2⟩ := info_parts info_f32
  obtain ⟨hl0, s1, s2, s3, s4, s5, s6⟩ := fit_len hf
  have hn1 : n1 = n2 * n3 := by
    have : (n1 : Int) = ((n2 * n3 : Nat) : Int) := by rw [s6, ← s5, Int.natCast_mul, Int.mul_comm]
    exact Int.ofNat.inj this
  have hl : n3 ≤ m := Nat.le_of_eq hl0
  have hl' : m ≤ n3 := Nat.le_of_eq hl0.symm
  clear hl0 s6
  subst s5
  subst hcap
  subst hn1
  obtain ⟨b, off, rfl, hb0, hcells⟩ := k1.2 (Nat.mul_pos (by omega) (by omega))
  clear hcells
  have hfit := fun w' hr f1 f2 f3 fx => l02Fit_any w.heap.size (↑n3) (some ⟨b, off, none⟩) A2 A3 (n2 * n3) n2 n3 (n2 * n3) c2 c3 N B G X m d M w' hr f1 f2 f3 b1 b2 b3 fx bm
  obtain ⟨W1, hW1⟩ : ∃ W1, W1 = w.alloc (.cells #[.int .i64 (n3 : Int), .slice (some ⟨b, off, none⟩) (n2 * n3) (n2 * n3), .slice A2 n2 c2, .slice A3 n3 c3] 36) := ⟨_, rfl⟩
  rw [← hW1] at HB HR k1 k2 k3 kx hb0
  have HW1 := Lib.hid hW1
  clear hW1
  go_enter Try.func50, Try.ntmps50
  go_wp2_with fail
  rw [← HW1.out]
  refine (hfit _ HR k1 k2 k3 kx).mono ?_
  rintro e w2 ⟨q1, rfl, rfl⟩
  rw [hf]
  clear hfit hf
  have HOwn := World.ownsRow_lit (base := W1.heap.size) (e := 23) (size := 1) (W1.drewN q1) #[] 0 (Nat.le_refl _) (by unfold maxLen; omega) rfl
  go_wp2_with fail
  go_loopw [6, 7] (fun o i wr => ∃ (k : Nat) (L : List Nat) (g cap : Nat), k ≤ n2 ∧ i = .int .i64 k ∧ o = .slice (some ⟨g, 0, none⟩) k cap ∧ Below W1.heap.size W1 wr ∧ Made (leftA N B n3 M) wr W1.heap.size (.slice (some ⟨g, 0, none⟩) k cap) k L) (fun _ i _ => n2 - (intOf i).toNat)
  case atStart => exact ⟨0, [], _, _, Nat.zero_le _, rfl, rfl, (below_drewN (Below.refl _ _) _).alloc (Nat.le_refl _) _, ⟨HOwn, rfl⟩⟩
  case round =>
    obtain ⟨k, L, g, cap, hk, rfl, rfl, hbel, hmd⟩ := hrel
    have HRr := HR.below hbel HR.lt
    have HBr := HB.trans (hbel.mono HB.size)
    have q2 : wr.cell? ⟨w.heap.size, 2, none⟩ = some (.slice A2 n2 c2) := HRr.cell 2
    by_cases hlt : k < n2
    · obtain ⟨b5, off5, x, rfl, hb5, hc5, hx5, hs5⟩ := (k2.below hbel).at_ hlt
      have HX := Lib.hid (getD_of (z := 0) hx5)
      have hpart := (k1.below hbel).part (row_fits (m := n3) hlt)
      have kxr := kx.below hbel
      have hown := hmd.own
      have hg0 := hown.lt g rfl
      have hlt2 : (k : Int) < (n2 : Int) := by omega
      have hk0 : (0 : Int) ≤ (k : Int) := Int.natCast_nonneg _
      have hp0 := HR.lt
      clear hx5 hs5
      go_wp2_with fail
      go_region_with ((first
          | (go_at_call 97; refine (l02Row_any w.heap.size k n3 b off (some ⟨b5, off5, none⟩) A3 n2 n3 (n2 * n3) c2 c3 _ (by exact HRr) hlt (by omega) (by omega) (by omega) (Nat.le_refl _) b1).mono ?_; rintro e w' ⟨m1, rfl, rfl⟩)
          | (go_at_call 87; refine (specl02Dot_any _ _ n3 m _ d _ M _ (by exact hpart) (by exact kxr) b3 hl bm).mono ?_; rintro e w' ⟨r, m2, rfl, hr, rfl⟩)
          | (refine upon_farith rfl (fun r2 m3 hr2 => ?_))
          | (refine upon_append 22 _ W1.heap.size 23 i0 _ 1 4 Try.underlying22 hi0 hz0 hz1 hz2 rfl (by omega) (.slice (some ⟨g, 0, none⟩) k cap) k (L.map (Value.float .f32)) (by exact World.ownsRow.alloc (by exact hown) _)
              ⟨wr.heap.size, 0, none⟩ 1 1 [.float .f32 r2] (by rfl) (World.news_of_block (cs := #[.float .f32 r2]) (t := 23) (fr := (0, 0)) (heap_alloc_new (wr.drewN (1 + m1 + m2 + m3)) _)) (by simp [Value.oneCell'])
              (by omega) (by unfold maxLen; omega) (by have := b2; omega) (by have := hbel.size; simp; omega) (fun gg cap2 w3 hown1 hgrow => ?_))))
      all_goals (
        go_wp2_with fail
        go_roundw
        case rel => exact ⟨k + 1, L ++ [r2], gg, cap2, by omega, by go_num, rfl, below_append (g := g) (X := wr.drewN (1 + m1 + m2 + m3)) (below_drewN hbel _) hbel.size hgrow hg0.1, hmd.snoc hown1 (by rw [hr2.out, hr.out, leftA, HX.out]; rfl)⟩
        case measure => simp [intOf]; omega)
    · obtain rfl : k = n2 := by omega
      go_wp2_with fail
      refine (l02List_any _ k cap L _ hmd.sl (by have := b2; omega)).mono ?_
      rintro e wx ⟨m4, rfl, rfl⟩
      cases hV : allA (finA .f32) L
      · go_wp2_with fail
        go_ret2
        exact ⟨L, g, cap, (hmd.drewN _).less HB.size, by rw [hV]; rfl, below_drewN HBr _⟩
      · go_wp2_with fail
        go_ret2
        exact ⟨L, g, cap, (hmd.drewN _).less HB.size, by rw [hV]; rfl, below_drewN HBr _⟩
theorem grown_below {w w' : World} (h : Below w.heap.size w w') : w.grownBy w' none := ⟨h.os, h.tape, h.output, h.size, fun k hk _ => h.block k hk⟩
theorem kept_below {w w' : World} {base size n : Nat} {e : TypeId} {v : Value} {xs : List Value} (h : w.ownsRow base e size v n xs) (hb : Below w.heap.size w w') : w'.ownsRow base e size v n xs :=
  h.kept (grown_below hb) (by cases v.ownBlock <;> simp)
set_option maxHeartbeats 2000000 in
set_option maxRecDepth 100000 in
theorem implLeftOf_fit (v : Int) (A1 A2 A3 : Option Addr) (n1 n2 n3 c1 c2 c3 : Nat) (N B G : List Nat) (X : Option Addr) (m d : Nat) (M : List Nat) (w : World) (h1 : FS w A1 n1 N) (h2 : FS w A2 n2 B) (h3 : FS w A3 n3 G) (b1 : n1 ≤ 1048576) (b2 : n2 ≤ 1048576) (b3 : n3 ≤ 1048576) (hx : FS w X m M) (bm : m ≤ 1048576) (hf : fitV v n1 n2 n3 N B G m M = true) (hcap : n1 = c1 := by rfl) :
    Calls Try.prog 51 #[.agg #[.int .i64 v, .slice A1 n1 c1, .slice A2 n2 c2, .slice A3 n3 c3], .slice X m d] w fun e w' => ∃ (L : List Nat) (g cap : Nat), Made (leftA N B n3 M) w' w.heap.size (.slice (some ⟨g, 0, none⟩) n2 cap) n2 L ∧ e = .returned (.tuple #[bif allA (finA .f32) L then .slice (some ⟨g, 0, none⟩) n2 cap else .slice none 0 0, .bool (allA (finA .f32) L)]) ∧ Below w.heap.size w w' := by
  have HB : Below w.heap.size w (w.alloc (.cells #[.int .i64 v, .slice A1 n1 c1, .slice A2 n2 c2, .slice A3 n3 c3] 36)) := (Below.refl _ _).alloc (Nat.le_refl _) _
  have HR := Row.new w 36 #[.int .i64 v, .slice A1 n1 c1, .slice A2 n2 c2, .slice A3 n3 c3]
  have k1 := h1.below HB
  have k2 := h2.below HB
  have k3 := h3.below HB
  have kx := hx.below HB
  clear h1 h2 h3 hx
  obtain ⟨i0, hi0, hz0, hz1, hz2⟩ := info_parts info_f32
  obtain ⟨hl0, s1, s2, s3, s4, s5, s6⟩ := fit_len hf
  have hfp := hf
  rw [fitV, Bool.and_eq_true] at hfp
  obtain ⟨hV, hlong⟩ := hfp
  have hn1 : n1 = n2 * n3 := by
    have : (n1 : Int) = ((n2 * n3 : Nat) : Int) := by rw [s6, ← s5, Int.natCast_mul, Int.mul_comm]
    exact Int.ofNat.inj this
  have hl : n3 ≤ m := Nat.le_of_eq hl0
  have hl' : m ≤ n3 := Nat.le_of_eq hl0.symm
  clear hl0 s6 hf
  subst s5
  subst hcap
  subst hn1
  obtain ⟨b, off, rfl, hb0, hcells⟩ := k1.2 (Nat.mul_pos (by omega) (by omega))
  clear hcells
  have hval := fun w' f1 f2 f3 => implValidRows_any (↑n3) (some ⟨b, off, none⟩) A2 A3 (n2 * n3) n2 n3 (n2 * n3) c2 c3 N B G w' f1 f2 f3 b1 b2 b3
  obtain ⟨W1, hW1⟩ : ∃ W1, W1 = w.alloc (.cells #[.int .i64 (n3 : Int), .slice (some ⟨b, off, none⟩) (n2 * n3) (n2 * n3), .slice A2 n2 c2, .slice A3 n3 c3] 36) := ⟨_, rfl⟩
  rw [← hW1] at HB HR k1 k2 k3 kx hb0
  have HW1 := Lib.hid hW1
  clear hW1
  have q0 : W1.cell? ⟨w.heap.size, 0, none⟩ = some (.int .i64 (n3 : Int)) := HR.cell 0
  have q1 : W1.cell? ⟨w.heap.size, 1, none⟩ = some (.slice (some ⟨b, off, none⟩) (n2 * n3) (n2 * n3)) := HR.cell 1
  have q2 : W1.cell? ⟨w.heap.size, 2, none⟩ = some (.slice A2 n2 c2) := HR.cell 2
  have q3 : W1.cell? ⟨w.heap.size, 3, none⟩ = some (.slice A3 n3 c3) := HR.cell 3
  go_enter Try.func51, Try.ntmps51
  go_wp2_with fail
  rw [← HW1.out]
  go_wp2_with fail
  refine (hval _ k1 k2 k3).mono ?_
  rintro e w2 ⟨rfl, hb⟩
  rw [hV]
  replace HR := HR.below hb HR.lt
  replace HB := HB.trans (hb.mono HB.size)
  replace k1 := k1.below hb
  replace k2 := k2.below hb
  replace kx := kx.below hb
  clear hb hval k3 q0 q1 q2 q3
  have q0 : w2.cell? ⟨w.heap.size, 0, none⟩ = some (.int .i64 (n3 : Int)) := HR.cell 0
  have q1 : w2.cell? ⟨w.heap.size, 1, none⟩ = some (.slice (some ⟨b, off, none⟩) (n2 * n3) (n2 * n3)) := HR.cell 1
  have q2 : w2.cell? ⟨w.heap.size, 2, none⟩ = some (.slice A2 n2 c2) := HR.cell 2
  have q3 : w2.cell? ⟨w.heap.size, 3, none⟩ = some (.slice A3 n3 c3) := HR.cell 3
  go_wp2_with fail
  refine (isX_any (↑n3) (some ⟨b, off, none⟩) A2 A3 (n2 * n3) n2 n3 (n2 * n3) c2 c3 X m d M _ kx bm).mono ?_
  rintro e w3 ⟨rfl, hb⟩
  rw [hlong]
  replace HR := HR.below hb HR.lt
  replace HB := HB.trans (hb.mono HB.size)
  replace k1 := k1.below hb
  replace k2 := k2.below hb
  replace kx := kx.below hb
  clear hb q0 q1 q2 q3 HW1 hV hlong hb0
  have q2 : w3.cell? ⟨w.heap.size, 2, none⟩ = some (.slice A2 n2 c2) := HR.cell 2
  go_wp2_with fail
  clear q2
  go_loopw [6, 21] (fun o i wr => ∃ (k : Nat) (L : List Nat), k ≤ n2 ∧ i = .int .i64 k ∧ Below w3.heap.size w3 wr ∧ Made (leftA N B n3 M) wr w3.heap.size o k L) (fun _ i _ => n2 - (intOf i).toNat)
  case atStart => exact ⟨0, [], Nat.zero_le _, rfl, Below.refl _ _, ⟨World.ownsRow_nil _ _ _ _, rfl⟩⟩
  case round =>
    obtain ⟨k, L, hk, rfl, hbel, hmd⟩ := hrel
    have HRr := HR.below hbel HR.lt
    have HBr := HB.trans (hbel.mono HB.size)
    by_cases hlt : k < n2
    · obtain ⟨b5, off5, x, rfl, hb5, hc5, hx5, hs5⟩ := (k2.below hbel).at_ hlt
      have HX := Lib.hid (getD_of (z := 0) hx5)
      have hpart := (k1.below hbel).part (row_fits (m := n3) hlt)
      have kxr := kx.below hbel
      have hown := hmd.own
      have hlt2 : (k : Int) < (n2 : Int) := by omega
      have q0 : wr.cell? ⟨w.heap.size, 0, none⟩ = some (.int .i64 (n3 : Int)) := HRr.cell 0
      have q1 : wr.cell? ⟨w.heap.size, 1, none⟩ = some (.slice (some ⟨b, off, none⟩) (n2 * n3) (n2 * n3)) := HRr.cell 1
      have q2 : wr.cell? ⟨w.heap.size, 2, none⟩ = some (.slice (some ⟨b5, off5, none⟩) n2 c2) := HRr.cell 2
      have q3 : wr.cell? ⟨w.heap.size, 3, none⟩ = some (.slice A3 n3 c3) := HRr.cell 3
      clear hx5 hs5
      go_wp2_with fail
      refine (row_any k n3 b off (some ⟨b5, off5, none⟩) A3 n2 n3 (n2 * n3) c2 c3 _ hlt (by omega) (by omega) (by omega) (Nat.le_refl _) b1).mono ?_
      rintro e w4 ⟨rfl, hb4⟩
      have hbel4 := hbel.trans (hb4.mono hbel.size)
      have hown4 := kept_below hown hb4
      clear q0 q1 q2 q3
      go_wp2_with fail
      refine (impldot_any _ _ n3 m _ d _ M _ (hpart.below hb4) (kxr.below hb4) b3 hl bm).mono ?_
      rintro e w5 ⟨r, m2, rfl, hr, hw5⟩
      subst hw5
      go_wp2_with (first
        | (refine upon_farith rfl (fun r2 m3 hr2 => ?_))
        | ((with_reducible apply wpList_farith (op := .sub)); rfl; rfl; rfl; intro r2 m3 hr2)
        | (refine upon_append 22 _ w3.heap.size 23 i0 _ 1 4 Try.underlying22 hi0 hz0 hz1 hz2 rfl (by omega) _ k (L.map (Value.float .f32)) (by exact World.ownsRow.alloc (by exact hown4) _)
            ⟨w4.heap.size, 0, none⟩ 1 1 [.float .f32 r2] (by rfl) (World.news_of_block (cs := #[.float .f32 r2]) (t := 23) (fr := (0, 0)) (heap_alloc_new (w4.drewN (m2 + m3)) _)) (by simp [Value.oneCell'])
            (by omega) (by unfold maxLen; omega) (by have := b2; omega) (by have := hbel4.size; simp; omega) (fun gg cap2 w6 hown1 hgrow => ?_)))
      go_roundw
      case rel => exact ⟨k + 1, L ++ [r2], by omega, by go_num, below_grown (Below.alloc (below_drewN hbel4 (m2 + m3)) hbel4.size _) hgrow (by have := hbel4.size; simp; omega) (fun j e => (hown.lt j e).1), hmd.snoc hown1 (by rw [hr2.out, hr.out, leftA, HX.out]; rfl)⟩
      case measure => simp [intOf]; omega
    · obtain rfl : k = n2 := by omega
      obtain ⟨g, cap, rfl, _⟩ := hmd.own.form (by omega)
      cases hV : allA (finA .f32) L
      · go_wp2_with fail
        refine (implareFinite_any _ k cap L _ hmd.sl (by have := b2; omega)).mono ?_
        rintro e wx ⟨m4, rfl, rfl⟩
        rw [hV]
        go_wp2_with fail
        go_ret2
        exact ⟨L, g, cap, (hmd.drewN _).less HB.size, by rw [hV]; rfl, below_drewN HBr _⟩
      · go_wp2_with fail
        refine (implareFinite_any _ k cap L _ hmd.sl (by have := b2; omega)).mono ?_
        rintro e wx ⟨m4, rfl, rfl⟩
        rw [hV]
        go_wp2_with fail
        go_ret2
        exact ⟨L, g, cap, (hmd.drewN _).less HB.size, by rw [hV]; rfl, below_drewN HBr _⟩
end Go.Proofs.Yteodplednmeaaaa
