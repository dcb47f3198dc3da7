/- Complex numbers of single floats: conversion, comparison, marks. -/
import Derived.Test.YtedpbidphajngaaDoorMX
import Derived.Laws.ComplexArith
namespace Go.Proofs.YtedpbidphajngaaDoor
open Go.RowKit
set_option linter.unusedVariables false
set_option linter.unusedSimpArgs false

section
variable {P : Program} (w : World)
theorem run_f2f (src dst : TypeId) (s k : FloatKind) (b : Nat) (hne : s ≠ k) (hs : P.underlying src = some (.float s)) (hd : P.underlying dst = some (.float k)) (hf : Fits s k (av s b)) :
    ∃ r n, (Conv.floatToFloat s b k).run P w = .ok (.float k r) (w.drewN n) ∧ av k r = fconv s k (av s b) := by
  obtain ⟨r, n, h, he⟩ := run_fconv (P := P) w src dst s k b hne hs hd hf
  refine ⟨r, n, ?_, he⟩
  rw [← h]
  simp [convert, run_underlying hs, run_underlying hd]
theorem run_cconv (src dst sc dc : TypeId) (s k : FloatKind) (a b : Nat) (hne : s ≠ k) (hs : P.underlying src = some (.float s)) (hd : P.underlying dst = some (.float k))
    (hsc : P.underlying sc = some (.complex s)) (hdc : P.underlying dc = some (.complex k)) (hf : Fits s k (av s a)) (hg : Fits s k (av s b)) :
    ∃ r q n, (convert sc dc (.complex s a b)).run P w = .ok (.complex k r q) (w.drewN n) ∧ av k r = fconv s k (av s a) ∧ av k q = fconv s k (av s b) := by
  obtain ⟨r, n, h1, e1⟩ := run_f2f (P := P) w src dst s k a hne hs hd hf
  obtain ⟨q, m, h2, e2⟩ := run_f2f (P := P) (w.drewN n) src dst s k b hne hs hd hg
  refine ⟨r, q, n + m, ?_, e1, e2⟩
  simp [convert, run_underlying hsc, run_underlying hdc, Conv.complexToComplex, h1, h2, World.drewN_drewN]
end
section
variable {P : Program} {ops : Array Oper} {U : Value} {Q : Act → Prop} {a : Act} {o : Oper} {rest : List Oper} {w : World}
/-- a conversion between the two kinds of complex numbers -/
theorem wpLo_cconv {d : Tmp} {T sc dc : TypeId} {pos : String} {after : Array Edge} {x : Operand} {s k : FloatKind} {b c : Nat} (src dst : TypeId)
    (hx : a.eval x = .complex s b c) (hne : s ≠ k) (hs : P.underlying src = some (.float s)) (hd : P.underlying dst = some (.float k)) (hsc : P.underlying sc = some (.complex s)) (hdc : P.underlying dc = some (.complex k)) (hf : Fits s k (av s b)) (hg : Fits s k (av s c))
    (h : ∀ r q, Hid (av k r = fconv s k (av s b)) → Hid (av k q = fconv s k (av s c)) → wpLo P ops (Cls w) U Q rest (a.put (some d) (.complex k r q))) :
    wpLo P ops (Cls w) U Q (⟨some d, .convert sc dc x, T, pos, after, none⟩ :: rest) a := by
  refine wpLo_plain rfl fun K hK n => ?_
  obtain ⟨r, q, m, hr, he, hi⟩ := run_cconv (P := P) (w.drewN n) src dst sc dc s k b c hne hs hd hsc hdc hf hg
  unfold execOp
  simp only [hx, Sem.run_bind, hr, Result.andThen_ok, Sem.run_pure]
  exact ⟨⟨n + m, World.drewN_drewN w n m⟩, hK _ (h r q he hi)⟩
end
/-- a complex number's cell -/
def cpx (p : Nat × Nat) : Value := .complex .f32 p.1 p.2
abbrev CS := SL cpx (0, 0)
attribute [local go_sem] lo_value lo_enter run_store_float
set_option maxRecDepth 100000 in
theorem sameComplex_alike (a b c d : Nat) (h1 : av .f64 a = av .f64 c) (h2 : av .f64 b = av .f64 d) (w : World) :
    Calls Tryd.prog 63 #[.complex .f64 a b, .complex .f64 c d] w fun e w' => ∃ m, e = .returned (.bool true) ∧ w' = w.drewN m := by
  have H1 := Lib.hid h1
  have H2 := Lib.hid h2
  clear h1 h2
  go_enter Tryd.func63, Tryd.ntmps63
  go_wp2_with (go_at_call 61; refine (sameFloat_alike _ _ (by first | exact H1.out | exact H2.out) _).mono ?_; rintro e w' ⟨n, rfl, rfl⟩)
  go_ret
  exact ⟨_, rfl, rfl⟩
set_option maxHeartbeats 1000000 in
set_option maxRecDepth 100000 in
theorem eqComplex64S_same (A B : Option Addr) (n c d : Nat) (L : List (Nat × Nat)) (w : World) (h : CS w A n L) (h' : CS w B n L) (hn : n ≤ 1048576) :
    Calls Tryd.prog 29 #[.slice A n c, .slice B n d] w fun e w' => ∃ k, e = .returned (.bool true) ∧ w' = w.drewN k := by
  go_enter Tryd.func29, Tryd.ntmps29
  go_wp2
  go_loopw [5] (fun i wr => ∃ k q : Nat, k ≤ n ∧ i = .int .i64 k ∧ wr = w.drewN q) (fun i _ => n - (intOf i).toNat)
  case atStart => exact ⟨0, 0, Nat.zero_le _, rfl, rfl⟩
  case round =>
    obtain ⟨k, q, hk, rfl, rfl⟩ := hrel
    by_cases hlt : k < n
    · obtain ⟨b, off, x, rfl, hb, hc, hx, hs⟩ := h.at_ hlt
      obtain ⟨b2, off2, y, rfl, hb2, hc2, hx2, hs2⟩ := h'.at_ hlt
      have hxy : y = x := by rw [hx] at hx2; injection hx2 with e; exact e.symm
      subst hxy
      obtain ⟨y1, y2⟩ := y
      unfold cpx at hc hc2
      clear hx hs hx2 hs2 h h'
      go_wp2
      refine wp_region_lo q (.bool true) (by kernel_rfl) (by kernel_rfl) ?_; (repeat (first | (refine wpLo_cconv 48 64 rfl (by decide) Tryd.underlying48 Tryd.underlying64 Tryd.underlying62 Tryd.underlying78 (fits_wide _) (fits_wide _) (fun r1 r2 h1 h2 => ?_)) | (refine wpLo_plain rfl (fun K hK n => ?_); go_simp; first | (refine hK _ ?_; clear hK K n) | (refine ⟨?_, hK _ ?_⟩; rotate_left; clear hK K n; rotate_left; (exact lo_call (sameComplex_alike _ _ _ _ (by simp only [Hid] at *; simp [*]) (by simp only [Hid] at *; simp [*]) _)))))); refine wpLo_nil ?_; intro nq
      go_wp2
      go_roundw
      case rel => exact ⟨k + 1, _, by omega, by go_num, rfl⟩
      case measure => simp [intOf]; omega
    · obtain rfl : k = n := by omega
      go_wp2
      go_ret
      exact ⟨_, rfl, rfl⟩
/-- the mark k as a single float -/
def cmk (k : Nat) : Nat := (floatToFloatBits .f64 (floatOfInt .f64 (k : Int)) .f32).getD 0
theorem cmk_all : ((List.range 1024).all fun k => floatToFloatBits .f64 (floatOfInt .f64 (k : Int)) .f32 == some (cmk k) && (FloatKind.f32.format.order (cmk k) (cmk k) == some .eq)) = true := by kernel_rfl
theorem cmk_at {k : Nat} (hk : k < 1024) : floatToFloatBits .f64 (floatOfInt .f64 (k : Int)) .f32 = some (cmk k) ∧ FloatKind.f32.format.order (cmk k) (cmk k) = some .eq := by
  have h := List.all_eq_true.1 cmk_all k (List.mem_range.2 hk)
  rw [Bool.and_eq_true] at h
  exact ⟨eq_of_beq h.1, eq_of_beq h.2⟩
theorem run_f2f_some {P : Program} (w : World) (src dst : TypeId) (s k : FloatKind) (b r : Nat) (hs : P.underlying src = some (.float s)) (hd : P.underlying dst = some (.float k)) (hr : floatToFloatBits s b k = some r) : (Conv.floatToFloat s b k).run P w = .ok (.float k r) w := by
  have h := run_convert_float_float (P := P) w src dst s k b r (by rw [hs]; rfl) hd hr
  rw [← h]
  simp [convert, run_underlying hs, run_underlying hd]
theorem cmk_run {k : Nat} (hk : k < 1024) (w : World) : Sem.run Tryd.prog (convert 78 62 (.complex .f64 (floatOfInt .f64 (k : Int)) 4607182418800017408)) w = .ok (.complex .f32 (cmk k) 1065353216) w := by
  have h1 := run_f2f_some (P := Tryd.prog) w 64 48 .f64 .f32 _ _ Tryd.underlying64 Tryd.underlying48 (cmk_at hk).1
  have h2 := run_f2f_some (P := Tryd.prog) w 64 48 .f64 .f32 4607182418800017408 1065353216 Tryd.underlying64 Tryd.underlying48 (by kernel_rfl)
  simp [convert, run_underlying Tryd.underlying78, run_underlying Tryd.underlying62, Conv.complexToComplex, h1, h2]
theorem cmk_neq {k : Nat} (hk : k < 1024) (w : World) : Sem.run Tryd.prog (binOp .neq 62 (.complex .f32 (cmk k) 1065353216) (.complex .f32 (cmk k) 1065353216)) w = .ok (.bool false) w := by
  have h1 := (cmk_at hk).2
  have h2 : FloatKind.f32.format.order 1065353216 1065353216 = some .eq := by kernel_rfl
  simp [binOp, Op.complexOp, Op.Complex.cmp, Op.floatCmp, asBool, h1, h2]
theorem cmk_run' {k j : Nat} (h : k + j < 1024) (w : World) : Sem.run Tryd.prog (convert 78 62 (.complex .f64 (floatOfInt .f64 ((k : Int) + (j : Int))) 4607182418800017408)) w = .ok (.complex .f32 (cmk (k + j)) 1065353216) w := by
  have := cmk_run h w
  rwa [Int.natCast_add] at this
/-- the marks k, k + 1, .. -/
def markC (k n : Nat) : List (Nat × Nat) := (List.range n).map fun (j : Nat) => (cmk (k + j), 1065353216)
theorem markC_succ (k n : Nat) : markC k (n + 1) = markC k n ++ [(cmk (k + n), 1065353216)] := by unfold markC; rw [List.range_succ, List.map_append]; rfl
theorem markC_length (k n : Nat) : (markC k n).length = n := by simp [markC]
theorem markC_set (k j : Nat) (xs : List Value) (h : j < xs.length) : ((markC k j).map cpx ++ xs.drop j).set j (.complex .f32 (cmk (k + j)) 1065353216) = (markC k (j + 1)).map cpx ++ xs.drop (j + 1) := by
  have hl : ((markC k j).map cpx).length = j := by rw [List.length_map, markC_length]
  rw [List.set_append_right _ _ (by omega), hl, Nat.sub_self, List.drop_eq_getElem_cons h, List.set_cons_zero, markC_succ, List.map_append, List.append_assoc]
  rfl
theorem run_store_complex (P : Program) (w : World) (a : Addr) (m : Mode) (k : FloatKind) (b c : Nat) : (store a (.complex k b c) m).run P w = stored P w a (.complex k b c) m := run_store P w a _ m rfl
attribute [local go_sem] run_store_complex
set_option maxHeartbeats 1000000 in
set_option maxRecDepth 100000 in
theorem markC_any (base n k : Nat) (u : Value) (xs : List Value) (w : World) (h : w.ownsRow base 62 1 u n xs) (hn : n ≤ 256) (hk : k ≤ 256) :
    Calls Tryd.prog 30 #[u, .int .i64 (k : Int)] w fun e w' => e = .returned (.int .i64 ((k + n : Nat) : Int)) ∧ w'.ownsRow base 62 1 u n ((markC k n).map cpx) ∧ w.grownBy w' u.ownBlock := by
  have hxl : xs.length = n := by have := h.1; omega
  rcases h.2 with ⟨rfl, rfl⟩ | ⟨g, cap, cur, rfl, _⟩
  · clear hxl h
    go_enter Tryd.func30, Tryd.ntmps30
    go_wp2_with fail
    go_loopw [1, 5] (fun kv i wr => i = .int .i64 0 ∧ kv = .int .i64 (k : Int) ∧ wr = w) (fun _ _ _ => 0)
    case atStart => exact ⟨rfl, rfl, rfl⟩
    case round =>
      obtain ⟨rfl, rfl, rfl⟩ := hrel
      go_wp2_with fail
      go_ret
      exact ⟨by first | rfl | simp, World.ownsRow_nil _ _ _ _, grown_refl _ _⟩
  · have HXL := Lib.hid hxl
    clear hxl
    show Calls _ _ _ _ fun e w' => e = .returned (.int .i64 ((k + n : Nat) : Int)) ∧ w'.ownsRow base 62 1 (.slice (some ⟨g, 0, none⟩) n cap) n ((markC k n).map cpx) ∧ w.grownBy w' (some g)
    go_enter Tryd.func30, Tryd.ntmps30
    go_wp2_with fail
    go_loopw [1, 5] (fun kv i wr => ∃ (j : Nat), j ≤ n ∧ i = .int .i64 j ∧ kv = .int .i64 ((k + j : Nat) : Int) ∧ wr.ownsRow base 62 1 (.slice (some ⟨g, 0, none⟩) n cap) n ((markC k j).map cpx ++ xs.drop j) ∧ w.grownBy wr (some g)) (fun _ i _ => n - (intOf i).toNat)
    case atStart => exact ⟨0, Nat.zero_le _, rfl, rfl, h, grown_refl _ _⟩
    case round =>
      obtain ⟨j, hj, rfl, rfl, ho, hg⟩ := hrel
      by_cases hlt : j < n
      · have hlt2 : (j : Int) < (n : Int) := by omega
        obtain ⟨z, hc⟩ : ∃ z, wr.cell? ⟨g, j, none⟩ = some z := by
          rw [ho.cellAt j (by omega)]
          exact ⟨_, List.getElem?_eq_getElem (by have := ho.1; omega)⟩
        have hz := ho.frozenAt j
        have hrun := fun W => cmk_run' (k := k) (j := j) (by omega) W
        go_wp2_with fail
        go_roundw
        case rel => exact ⟨j + 1, by omega, by go_num, by go_num, by rw [← markC_set k j xs (by have := HXL.out; omega)]; exact (ho.stored j _).1, grown_trans hg (ho.stored j _).2⟩
        case measure => simp [intOf]; omega
      · obtain rfl : j = n := by omega
        go_wp2_with fail
        go_ret
        exact ⟨by first | rfl | simp, by rw [List.drop_of_length_le (Nat.le_of_eq HXL.out), List.append_nil] at ho; exact ho, hg⟩
set_option maxHeartbeats 1000000 in
set_option maxRecDepth 100000 in
theorem heldC_any (base n k : Nat) (u : Value) (w : World) (h : w.ownsRow base 62 1 u n ((markC k n).map cpx)) (hn : n ≤ 256) (hk : k ≤ 256) :
    Calls Tryd.prog 31 #[u, .int .i64 (k : Int)] w fun e w' => e = .returned (.int .i64 ((k + n : Nat) : Int)) ∧ w' = w := by
  rcases h.2 with ⟨rfl, rfl⟩ | ⟨g, cap, cur, rfl, _⟩
  · clear h
    go_enter Tryd.func31, Tryd.ntmps31
    go_wp2_with fail
    go_loopw [1, 5] (fun kv i wr => i = .int .i64 0 ∧ kv = .int .i64 (k : Int) ∧ wr = w) (fun _ _ _ => 0)
    case atStart => exact ⟨rfl, rfl, rfl⟩
    case round =>
      obtain ⟨rfl, rfl, rfl⟩ := hrel
      go_wp2_with fail
      go_ret
      exact ⟨by first | rfl | simp, by first | rfl | trivial⟩
  · go_enter Tryd.func31, Tryd.ntmps31
    go_wp2_with fail
    go_loopw [1, 5] (fun kv i wr => ∃ (j : Nat), j ≤ n ∧ i = .int .i64 j ∧ kv = .int .i64 ((k + j : Nat) : Int) ∧ wr = w) (fun _ i _ => n - (intOf i).toNat)
    case atStart => exact ⟨0, Nat.zero_le _, rfl, rfl, rfl⟩
    case round =>
      obtain ⟨j, hj, rfl, rfl, rfl⟩ := hrel
      by_cases hlt : j < n
      · have hlt2 : (j : Int) < (n : Int) := by omega
        have hc : wr.cell? ⟨g, j, none⟩ = some (.complex .f32 (cmk (k + j)) 1065353216) := by
          rw [h.cellAt j (by omega), List.getElem?_map, markC, List.getElem?_map, List.getElem?_range hlt]; rfl
        have hrun := fun W => cmk_run' (k := k) (j := j) (by omega) W
        have hneq := fun W => cmk_neq (k := k + j) (by omega) W
        go_wp2_with fail
        go_roundw
        case rel => exact ⟨j + 1, by omega, by go_num, by go_num, by first | rfl | trivial⟩
        case measure => simp [intOf]; omega
      · obtain rfl : j = n := by omega
        go_wp2_with fail
        go_ret
        exact ⟨by first | rfl | simp, by first | rfl | trivial⟩
end Go.Proofs.YtedpbidphajngaaDoor
