/- Draws from bytes: the model's source of choices. -/
import Derived.Test.YtedpbidphajngaaDoorMX
import Derived.Test.YtedpbidphajngaaDoorCT
import Derived.Test.YtedpbidphajngaaDoorA3
import Derived.Deep.QuietTactic
import Derived.BigQuiet
namespace Go.Proofs.YtedpbidphajngaaDoor
open Go.RowKit
set_option linter.unusedVariables false
set_option linter.unusedSimpArgs false
attribute [local go_sem] lo_value lo_enter run_f32bits run_f32frombits

theorem run_store_int' (P : Program) (w : World) (a : Addr) (m : Mode) (k : IntKind) (b : Int) : (store a (.int k b) m).run P w = stored P w a (.int k b) m := run_store P w a _ m rfl
theorem SL.grown {α : Type} {f : α → Value} {z : α} {w w' : World} {A : Option Addr} {n g : Nat} {L : List α} (h : SL f z w A n L) (hg : w.grownBy w' (some g)) (ha : 0 < n → ∀ a, A = some a → a.block ≠ g) : SL f z w' A n L :=
  ⟨h.1, fun hn => by
    obtain ⟨b, off, e, hb, hc⟩ := h.2 hn
    refine ⟨b, off, e, Nat.lt_of_lt_of_le hb hg.size, fun j hj => ?_⟩
    rw [World.cell?_of_block (w := w) (hg.block b hb (fun e2 => ha hn _ e (by injection e2)))]
    exact hc j hj⟩
theorem grown_set (w : World) (g j : Nat) (v : Value) : w.grownBy (w.setCell ⟨g, j, none⟩ v) (some g) := by
  refine ⟨rfl, rfl, rfl, by simp [World.setCell], fun k hk hr => ?_⟩
  exact Below.heap_setCell w ⟨g, j, none⟩ v k (fun e => hr (by rw [e]))
theorem grown_drewN {w w' : World} {r : Option Nat} (h : w.grownBy w' r) (k : Nat) : w.grownBy (w'.drewN k) r := ⟨h.os, h.tape, h.output, h.size, h.block⟩
theorem grown_drewN0 {w w' : World} {r : Option Nat} {k : Nat} (h : (w.drewN k).grownBy w' r) : w.grownBy w' r := ⟨h.os, h.tape, h.output, h.size, h.block⟩
theorem and255 (a : Int) : 0 ≤ bits .and .u64 a 255 ∧ bits .and .u64 a 255 ≤ 255 := by
  have h : (BitVec.ofInt 64 a &&& BitVec.ofInt 64 255).toNat ≤ 255 := by
    rw [BitVec.toNat_and]
    exact Nat.and_le_right
  show 0 ≤ IntKind.u64.wrap ((BitVec.ofInt 64 a &&& BitVec.ofInt 64 255).toNat : Int) ∧ IntKind.u64.wrap ((BitVec.ofInt 64 a &&& BitVec.ofInt 64 255).toNat : Int) ≤ 255
  generalize (BitVec.ofInt 64 a &&& BitVec.ofInt 64 255).toNat = z at *
  have e : IntKind.u64.wrap (z : Int) = (z : Int) := by
    simp [IntKind.wrap, IntKind.signed, IntKind.bits]; omega
  rw [e]; omega
theorem and255w (a : Int) : 0 ≤ wrap64 (bits .and .u64 a 255) ∧ wrap64 (bits .and .u64 a 255) ≤ 255 := by
  obtain ⟨h0, h1⟩ := and255 a
  unfold wrap64
  omega
/-- a source of choices in block g, M bytes at most taken, over the bytes L -/
structure Src (w : World) (g : Nat) (A : Option Addr) (n c : Nat) (L : List Int) (M : Nat) : Prop where
  row : ∃ (p : Nat) (seed : Int), p ≤ M ∧ Row w g 102 #[.slice A n c, .int .i64 p, .int .u64 seed]
  bytes : SL (Value.int .u8) 0 w A n L
  apart : 0 < n → ∀ a, A = some a → a.block ≠ g
  small : ∀ x ∈ L, 0 ≤ x ∧ x ≤ 255
  len : n ≤ 1048576
theorem Src.lt {w : World} {g : Nat} {A : Option Addr} {n c : Nat} {L : List Int} {M : Nat} (h : Src w g A n c L M) : g < w.heap.size := by
  obtain ⟨p, s, _, hr⟩ := h.row
  exact hr.lt
theorem Src.drewN {w : World} {g : Nat} {A : Option Addr} {n c : Nat} {L : List Int} {M : Nat} (h : Src w g A n c L M) (k : Nat) : Src (w.drewN k) g A n c L M := ⟨h.row, h.bytes, h.apart, h.small, h.len⟩
theorem Src.more {w : World} {g : Nat} {A : Option Addr} {n c : Nat} {L : List Int} {M M' : Nat} (h : Src w g A n c L M) (hm : M ≤ M') : Src w g A n c L M' := by
  obtain ⟨p, s, hp, hr⟩ := h.row
  exact ⟨⟨p, s, by omega, hr⟩, h.bytes, h.apart, h.small, h.len⟩
/-- what is kept where others' blocks grow -/
theorem Src.kept {w w' : World} {g : Nat} {A : Option Addr} {n c : Nat} {L : List Int} {M : Nat} {r : Option Nat} (h : Src w g A n c L M) (hg : w.grownBy w' r) (h1 : r ≠ some g) (h2 : ∀ b off, 0 < n → A = some ⟨b, off, none⟩ → b < w.heap.size → r ≠ some b) : Src w' g A n c L M := by
  obtain ⟨p, s, hp, hr⟩ := h.row
  refine ⟨⟨p, s, hp, (hg.block g hr.lt (fun e => h1 e.symm)).trans hr⟩, ⟨h.bytes.1, fun hn => ?_⟩, h.apart, h.small, h.len⟩
  obtain ⟨b, off, e, hb, hc⟩ := h.bytes.2 hn
  refine ⟨b, off, e, Nat.lt_of_lt_of_le hb hg.size, fun j hj => ?_⟩
  rw [World.cell?_of_block (w := w) (hg.block b hb (fun e2 => h2 _ _ hn e hb e2.symm))]
  exact hc j hj
theorem grown_next (w : World) (g a b : Nat) (u v : Value) : w.grownBy ((((w.drewN a).setCell ⟨g, 1, none⟩ u).setCell ⟨g, 2, none⟩ v).drewN b) (some g) :=
  grown_drewN (grown_trans (grown_trans (grown_drewN (grown_refl w (some g)) a) (grown_set _ g 1 u)) (grown_set _ g 2 v)) b
theorem src_next {w : World} {g : Nat} {A : Option Addr} {n c : Nat} {L : List Int} {M p : Nat} {seed : Int} (h : Src w g A n c L M) (hp : p ≤ M) (hr : Row w g 102 #[.slice A n c, .int .i64 p, .int .u64 seed]) (a b : Nat) (s : Int) :
    Src ((((w.drewN a).setCell ⟨g, 1, none⟩ (.int .i64 ((p : Int) + 1))).setCell ⟨g, 2, none⟩ (.int .u64 s)).drewN b) g A n c L (M + 1) :=
  ⟨⟨p + 1, s, by omega, (((hr.drewN a).set 1 (.int .i64 ((p : Int) + 1))).set 2 (.int .u64 s)).drewN b⟩, h.bytes.grown (grown_next w g a b _ _) h.apart, h.apart, h.small, h.len⟩
attribute [local go_sem] run_store_int'
set_option maxHeartbeats 1000000 in
set_option maxRecDepth 100000 in
theorem next_any (g : Nat) (A : Option Addr) (n c : Nat) (L : List Int) (M : Nat) (w : World) (h : Src w g A n c L M) (hM : M ≤ 1000000) :
    Calls Tryd.prog 93 #[.pointer (some ⟨g, 0, none⟩)] w fun e w' => ∃ r : Int, e = .returned (.int .i64 r) ∧ 0 ≤ r ∧ r ≤ 255 ∧ Src w' g A n c L (M + 1) ∧ w.grownBy w' (some g) := by
  obtain ⟨p, seed, hp, hr⟩ := h.row
  have q0 : w.cell? ⟨g, 0, none⟩ = some (.slice A n c) := hr.cell 0
  have q1 : w.cell? ⟨g, 1, none⟩ = some (.int .i64 p) := hr.cell 1
  have q2 : w.cell? ⟨g, 2, none⟩ = some (.int .u64 seed) := hr.cell 2
  have z1 : w.frozen? ⟨g, 1, none⟩ = false := hr.frozen 1
  have z2 : w.frozen? ⟨g, 2, none⟩ = false := hr.frozen 2
  have hn := h.len
  by_cases hlt : p < n
  · obtain ⟨b, off, x, rfl, hb, hc, hx, hs⟩ := h.bytes.at_ hlt
    obtain ⟨x0, x1⟩ := h.small x (List.mem_of_getElem? hx)
    have hlt2 : (p : Int) < (n : Int) := by omega
    have hle2 : ((p : Int) + 1) ≤ (n : Int) := by omega
    have hp0 : (0 : Int) ≤ (p : Int) := Int.natCast_nonneg _
    clear hx hs
    go_enter Tryd.func93, Tryd.ntmps93
    go_wp2_with fail
    go_quiet (fail)
    go_wp2_with fail
    go_quiet (fail)
    go_wp2_with fail
    go_quiet (fail)
    go_wp2_with fail
    go_ret
    exact ⟨x, rfl, x0, x1, src_next h hp hr _ _ _, grown_next _ _ _ _ _ _⟩
  · have hlt2 : ¬ (p : Int) < (n : Int) := by omega
    have hle2 : ¬ ((p : Int) + 1) ≤ (n : Int) := by omega
    have hp0 : (0 : Int) ≤ (p : Int) := Int.natCast_nonneg _
    go_enter Tryd.func93, Tryd.ntmps93
    go_wp2_with fail
    go_quiet (fail)
    go_wp2_with fail
    go_quiet (fail)
    go_wp2_with fail
    go_ret
    exact ⟨_, rfl, (and255w _).1, (and255w _).2, src_next h hp hr _ _ _, grown_next _ _ _ _ _ _⟩
set_option maxHeartbeats 1000000 in
set_option maxRecDepth 100000 in
theorem pick_any (k : Int) (hk : 2 ≤ k) (hk2 : k ≤ 65536) (g : Nat) (A : Option Addr) (n c : Nat) (L : List Int) (M : Nat) (w : World) (h : Src w g A n c L M) (hM : M ≤ 990000) :
    Calls Tryd.prog 66 #[.pointer (some ⟨g, 0, none⟩), .int .i64 k] w fun e w' => ∃ r : Int, e = .returned (.int .i64 r) ∧ 0 ≤ r ∧ r < k ∧ Src w' g A n c L (M + 2) ∧ w.grownBy w' (some g) := by
  have g1 : ¬ k ≤ 1 := by omega
  by_cases h2 : 200 < k
  · go_enter Tryd.func66, Tryd.ntmps66
    go_wp2_with fail
    refine (next_any g A n c L M _ h (by omega)).mono ?_
    rintro e w1 ⟨x, rfl, x0, x1, s1, b1⟩
    go_wp2_with fail
    refine (next_any g A n c L (M + 1) _ s1 (by omega)).mono ?_
    rintro e w2 ⟨y, rfl, y0, y1, s2, b2⟩
    go_wp2_with fail
    go_ret
    exact ⟨_, rfl, Int.emod_nonneg _ (by omega), Int.emod_lt_of_pos _ (by omega), s2, grown_trans b1 b2⟩
  · go_enter Tryd.func66, Tryd.ntmps66
    go_wp2_with fail
    refine (next_any g A n c L M _ h (by omega)).mono ?_
    rintro e w1 ⟨x, rfl, x0, x1, s1, b1⟩
    go_wp2_with fail
    go_ret
    exact ⟨_, rfl, Int.emod_nonneg _ (by omega), Int.emod_lt_of_pos _ (by omega), s1.more (by omega), b1⟩
theorem one_any (k : Int) (hk : 2 ≤ k) (hk2 : k ≤ 65536) (g : Nat) (A : Option Addr) (n c : Nat) (L : List Int) (M : Nat) (w : World) (h : Src w g A n c L M) (hM : M ≤ 990000) :
    Calls Tryd.prog 65 #[.pointer (some ⟨g, 0, none⟩), .int .i64 k] w fun e w' => ∃ r : Bool, e = .returned (.bool r) ∧ Src w' g A n c L (M + 2) ∧ w.grownBy w' (some g) := by
  go_enter Tryd.func65, Tryd.ntmps65
  go_wp2_with fail
  refine (pick_any k hk hk2 g A n c L M _ h hM).mono ?_
  rintro e w1 ⟨x, rfl, x0, x1, s1, b1⟩
  go_wp2_with fail
  go_ret
  exact ⟨_, rfl, s1, b1⟩
set_option maxRecDepth 100000 in
theorem among_any (B : Option Addr) (m : Nat) (K : List Int) (hm : 2 ≤ m) (hm2 : m ≤ 65536) (g : Nat) (A : Option Addr) (n c : Nat) (L : List Int) (M : Nat) (w : World) (h : Src w g A n c L M) (hM : M ≤ 990000) (hK : IS w B m K) (ha : 0 < m → ∀ a, B = some a → a.block ≠ g) :
    Calls Tryd.prog 95 #[.pointer (some ⟨g, 0, none⟩), .slice B m m] w fun e w' => ∃ r : Int, e = .returned (.int .i64 r) ∧ Src w' g A n c L (M + 2) ∧ w.grownBy w' (some g) := by
  go_enter Tryd.func95, Tryd.ntmps95
  go_wp2_with fail
  refine (pick_any (m : Int) (by omega) (by omega) g A n c L M _ h hM).mono ?_
  rintro e w1 ⟨x, rfl, x0, x1, s1, b1⟩
  obtain ⟨j, rfl⟩ : ∃ j : Nat, x = (j : Int) := ⟨x.toNat, by omega⟩
  obtain ⟨b, off, y, rfl, hb, hc, hy, _⟩ := (hK.grown b1 ha).at_ (show j < m by omega)
  have hlt2 : (j : Int) < (m : Int) := by omega
  clear hy
  go_wp2_with fail
  go_ret
  exact ⟨_, rfl, s1, b1⟩
set_option maxRecDepth 100000 in
theorem l01FromZ_any (n : Int) (w : World) :
    Calls Tryd.prog 67 #[.int .i64 n] w fun e w' => (∃ x, e = .returned (.float .f32 x) ∧ x < 4294967296) ∧ w = w' := by
  have hb : (n % 4294967296).toNat < 4294967296 := by omega
  go_enter Tryd.func67, Tryd.ntmps67
  go_wp2
  go_ret
  exact ⟨⟨_, rfl, hb⟩, rfl⟩
section
variable {P : Program} (w : World)
theorem nan_bound (t : Nat) : (t % 2) * 2 ^ 31 + 0x7f800000 + 1 + (t / 2) % (2 ^ 23 - 1) < 4294967296 := by
  have h1 : (t / 2) % (2 ^ 23 - 1) < 2 ^ 23 - 1 := Nat.mod_lt _ (by decide)
  have h2 : t % 2 < 2 := Nat.mod_lt _ (by decide)
  generalize (t / 2) % (2 ^ 23 - 1) = u at *
  generalize t % 2 = s at *
  omega
theorem cut_bound32 (x y t : Nat) : Question.cut (.nanBits .f32 x y) t < 4294967296 := nan_bound t
/-- an operation on single floats: what matters of its value, and its bound -/
theorem run_farithB (op : BinOp) (hop : arithOp op = true) (t : TypeId) (x y : Nat) :
    ∃ r n, (binOp op t (.float .f32 x) (.float .f32 y)).run P w = .ok (.float .f32 r) (w.drewN n) ∧ av .f32 r = fop op .f32 (av .f32 x) (av .f32 y) ∧ r < 4294967296 := by
  rw [← floatBits_fop]
  cases h : floatBits op .f32 x y with
  | some r => exact ⟨r, 0, run_float_arith w op t .f32 x y r h, av_of_not (floatBits_notNaN h), wf32 (floatBits_wf h)⟩
  | none =>
    refine ⟨Question.cut (.nanBits .f32 x y) (w.tape w.drawn (.nanBits .f32 x y)), 1, ?_, av_cut .f32 x y _, cut_bound32 _ _ _⟩
    unfold floatBits at h
    cases op <;> simp [arithOp] at hop <;> simp only at h
    all_goals
      simp [binOp, Op.floatArith, h, choose, Sem.run, Question.forced]
      rfl
end
theorem wpList_farithB {P : Program} {ops : Array Oper} {rest : List Oper} {Q : Exit → Act → World → Prop} {d : Tmp} {T t ty : TypeId} {pos : String} {after : Array Edge} {op : BinOp} {x y : Operand} {a : Act} {w : World} {bx bz : Nat}
    (hop : arithOp op = true) (hx : a.eval x = .float .f32 bx) (hy : a.eval y = .float .f32 bz)
    (h : ∀ r n, Hid (av .f32 r = fop op .f32 (av .f32 bx) (av .f32 bz)) → r < 4294967296 → wpList P ops Q rest (a.put (some d) (.float .f32 r)) (w.drewN n)) :
    wpList P ops Q (⟨some d, .binOp op t x y ty, T, pos, after, none⟩ :: rest) a w := by
  refine wpList_plain rfl fun K hK => ?_
  obtain ⟨r, n, hr, he, hb⟩ := run_farithB (P := P) w op hop t bx bz
  have hg : (eqGuard op t x y (.float .f32 bx) (.float .f32 bz)) = pure () := by cases op <;> rfl
  unfold Oper.wp execOp
  simp only [hx, hy, hg, Sem.run_bind, hr, Result.andThen_ok, Sem.run_pure]
  exact hK _ _ (h r n he hb)
set_option maxRecDepth 100000 in
theorem drawPlain_any (g : Nat) (A : Option Addr) (n c : Nat) (L : List Int) (M : Nat) (w : World) (h : Src w g A n c L M) (hM : M ≤ 980000) :
    Calls Tryd.prog 94 #[.pointer (some ⟨g, 0, none⟩)] w fun e w' => ∃ r : Nat, e = .returned (.float .f32 r) ∧ r < 4294967296 ∧ Src w' g A n c L (M + 4) ∧ w.grownBy w' (some g) := by
  go_enter Tryd.func94, Tryd.ntmps94
  go_wp2_with fail
  refine (pick_any 129 (by omega) (by omega) g A n c L M _ h (by omega)).mono ?_
  rintro e w1 ⟨x, rfl, x0, x1, s1, b1⟩
  go_wp2_with fail
  refine (one_any 4 (by omega) (by omega) g A n c L (M + 2) _ s1 (by omega)).mono ?_
  rintro e w2 ⟨y, rfl, s2, b2⟩
  cases y
  · go_wp2_with ((with_reducible apply wpList_farithB); rfl; rfl; rfl; intro r n hr hb)
    go_ret
    exact ⟨_, rfl, hb, s2.drewN _, grown_drewN (grown_trans b1 b2) _⟩
  · go_wp2_with ((with_reducible apply wpList_farithB); rfl; rfl; rfl; intro r n hr hb)
    go_ret
    exact ⟨_, rfl, hb, s2.drewN _, grown_drewN (grown_trans b1 b2) _⟩

end Go.Proofs.YtedpbidphajngaaDoor
