/- Single floats in FnNumbers: comparison, subnormal, angle, narrow, sine; texts of numbers read back. -/
import Derived.Test.YtedpbidphajngaaDoorAz
import Derived.Test.YtedpbidphajngaaDoorB2
import Derived.Test.YtedpbidphajngaaDoorNW
import Derived.Test.YtedpbidphajngaaDoorRN
namespace Go.Proofs.YtedpbidphajngaaDoor
open Go.RowKit
set_option linter.unusedVariables false
set_option linter.unusedSimpArgs false
attribute [local go_sem] run_f32bits run_f32frombits run_f64bits run_f64frombits lo_value lo_enter

theorem bits_same' (x y : Nat) : (bitsA (av .f32 x) == bitsA (av .f32 y)) = sameA (av .f32 x) (av .f32 y) := by
  have hn : ∀ z, av .f32 z = some 2143289344 → False := by
    intro z hz
    obtain ⟨e, h⟩ := av_some hz
    rw [← e] at h
    exact absurd h (by decide)
  unfold sameA
  cases ha : av .f32 x with
  | none =>
    cases hb : av .f32 y with
    | none => rfl
    | some c =>
      have : c ≠ 2143289344 := fun e => hn y (by rw [hb, e])
      simp [bitsA]; omega
  | some b =>
    cases hb : av .f32 y with
    | none =>
      have : b ≠ 2143289344 := fun e => hn x (by rw [ha, e])
      simp [bitsA]; omega
    | some c =>
      rw [Bool.eq_iff_iff]
      simp only [bitsA, beq_iff_eq, Option.some.injEq]
      omega
/-- whatever is no not-a-number lies in 32 bits -/
def Bnd (X : Option Nat) : Prop := ∀ c, X = some c → c < 4294967296
theorem bnd_of {x : Nat} (h : x < 4294967296) : Bnd (av .f32 x) := fun c hc => by rw [(av_some hc).1]; exact h
theorem nan_order {x : Nat} (h : av .f32 x = none) (y : Nat) : FloatKind.f32.format.order x y = none := by
  rw [order_ford, h]; rfl
theorem l01Bits_av (x : Nat) (hb : Bnd (av .f32 x)) (w : World) :
    Calls Tryd.prog 90 #[.float .f32 x] w fun e w' => e = .returned (.int .i64 (bitsA (av .f32 x))) ∧ w = w' := by
  cases hv : av .f32 x with
  | none =>
    have h : (FloatKind.f32.format.order x x != some .eq) = true := by rw [ne_self, hv]; rfl
    clear hv hb
    go_enter Tryd.func90, Tryd.ntmps90
    go_wp2
    go_ret
    exact ⟨rfl, rfl⟩
  | some c =>
    have h := specl01Bits_any x (by rw [← (av_some hv).1]; exact hb c hv) w
    rw [hv] at h
    exact h
theorem same_av (x y : Nat) (hx : Bnd (av .f32 x)) (hy : Bnd (av .f32 y)) (w : World) :
    Calls Tryd.prog 41 #[.float .f32 x, .float .f32 y] w fun e w' => e = .returned (.bool (sameA (av .f32 x) (av .f32 y))) ∧ w = w' := by
  have H := Lib.hid (bits_same' x y)
  have hs : ∀ w, Calls Tryd.prog 75 #[.float .f32 x, .float .f32 y] w fun e w' => e = .returned (.bool (sameA (av .f32 x) (av .f32 y))) ∧ w = w' := by
    intro w
    go_enter Tryd.func75, Tryd.ntmps75
    go_wp2_with fail
    refine (l01Bits_av x hx _).mono ?_
    rintro e w' ⟨rfl, rfl⟩
    go_wp2_with fail
    refine (l01Bits_av y hy _).mono ?_
    rintro e w' ⟨rfl, rfl⟩
    go_wp2_with fail
    go_ret
    exact ⟨by rw [← H.out]; rfl, rfl⟩
  go_enter Tryd.func41, Tryd.ntmps41
  go_wp2_with (go_at_call 75; refine (hs _).mono ?_; rintro e w' ⟨rfl, rfl⟩)
  go_ret
  exact ⟨rfl, rfl⟩
def subA : Option Nat → Bool
  | none => false
  | some c => subB c
theorem sub_av (x : Nat) (hb : Bnd (av .f32 x)) (w : World) :
    Calls Tryd.prog 42 #[.float .f32 x] w fun e w' => e = .returned (.bool (subA (av .f32 x))) ∧ w = w' := by
  cases hv : av .f32 x with
  | none =>
    have h := nan_order hv
    clear hv hb
    go_enter Tryd.func42, Tryd.ntmps42
    go_wp2
    go_ret
    exact ⟨rfl, rfl⟩
  | some c =>
    have h := implIsSubnormal_any x (by rw [← (av_some hv).1]; exact hb c hv) w
    rw [← (av_some hv).1] at h
    rw [← (av_some hv).1]
    exact h
theorem sub_not {x : Nat} (hx : x < 4294967296) (h : subB x = true) : av .f32 x = some x := by
  refine av_of_not ?_
  rw [read32 x hx]
  unfold subB at h
  have h2 := of_decide_eq_true h
  exact FT.D_notNaN _ _ _ (by have e2 : Ieee.single.infRung = 2139095040 := by decide
                              rw [e2]; omega)
theorem flush_cases (x : Nat) (hx : x < 4294967296) : (subB x = false ∧ flushB x = x) ∨ (subB x = true ∧ (flushB x = 0 ∨ flushB x = 2147483648)) := by
  unfold flushB
  cases h : subB x
  · exact .inl ⟨rfl, rfl⟩
  · refine .inr ⟨rfl, ?_⟩
    rw [if_pos rfl]
    have : x / 2147483648 < 2 := by omega
    omega
theorem flush_lt (x : Nat) (hx : x < 4294967296) : flushB x < 4294967296 := by
  rcases flush_cases x hx with ⟨_, e⟩ | ⟨_, e | e⟩ <;> omega
theorem flush_sub (x : Nat) (hx : x < 4294967296) : subA (av .f32 (flushB x)) = false := by
  rcases flush_cases x hx with ⟨h, e⟩ | ⟨_, e | e⟩
  · rw [e]
    cases hv : av .f32 x with
    | none => rfl
    | some c => rw [(av_some hv).1]; exact h
  · rw [e]; decide
  · rw [e]; decide
theorem flush_same (x : Nat) (hx : x < 4294967296) : sameA (av .f32 x) (av .f32 (flushB x)) = !subB x := by
  rcases flush_cases x hx with ⟨h, e⟩ | ⟨h, e⟩
  · rw [e, h]; simp [sameA]
  · rw [h, sub_not hx h]
    have h2 : x % 2147483648 ≠ 0 := by unfold subB at h; exact (of_decide_eq_true h).1
    rcases e with e | e
    · rw [e, show av .f32 0 = some 0 by decide]
      simp [sameA]; omega
    · rw [e, show av .f32 2147483648 = some 2147483648 by decide]
      simp [sameA]; omega
theorem back_same (X : Option Nat) (x : Nat) (h : av .f32 x = X) : sameA (av .f32 (bitsN X)) X = true := by
  cases X with
  | none => decide
  | some c =>
    have e := (av_some h).1
    subst e
    show sameA (av .f32 c) (some c) = true
    rw [h]; simp [sameA]
theorem canon_back (x : Nat) : canonB (bitsN (av .f32 x)) = true := by
  unfold canonB
  cases h : av .f32 x with
  | none => decide
  | some c =>
    have e := (av_some h).1
    subst e
    show (bitsN (av .f32 c) == c) = true
    rw [h]; simp [bitsN]
theorem sum_bnd : ∀ (L : List Nat) (s : Option Nat), Bnd s → Bnd (sumA s L)
  | [], s, h => h
  | x :: L, s, h => by
    refine sum_bnd L (fop .add .f32 s (av .f32 x)) (fun c hc => ?_)
    cases s with
    | none => cases hc
    | some a =>
      cases hx : av .f32 x with
      | none => rw [hx] at hc; cases hc
      | some b =>
        rw [hx] at hc
        exact wf32 (floatBits_wf (show floatBits .add .f32 a b = some c from hc))
/-- the angle is one number, whatever the world -/
theorem implAngle_any {y x : Nat} (hy : (Lit.float .f32 y).wf = true) (hx : (Lit.float .f32 x).wf = true) : ∃ V : Option Nat, (∀ c, V = some c → c < 4294967296) ∧
    (∀ w, Calls Tryd.prog 43 #[.float .f32 y, .float .f32 x] w fun e w' => ∃ r n, e = .returned (.float .f32 r) ∧ Hid (av .f32 r = V) ∧ w' = w.drewN n) := by
  cases fy : finA .f32 (av .f32 y)
  · refine ⟨fconv .f64 .f32 none, fun c h => fconv_bnd h, implAngle_nan ?_⟩
    cases fx : finA .f32 (av .f32 x)
    · exact .inl rfl
    · exact .inr ⟨rfl, fy⟩
  obtain ⟨s, m, p, dy⟩ := fin32_num fy
  obtain ⟨yw, my, py, ey, dyw, y0, y1⟩ := wide_num dy
  cases fx : finA .f32 (av .f32 x)
  · exact ⟨fconv .f64 .f32 none, fun c h => fconv_bnd h, implAngle_nan (.inl fx)⟩
  obtain ⟨t, n, q, dx⟩ := fin32_num fx
  obtain ⟨xw, mx, px, ex, dxw, x0, x1⟩ := wide_num dx
  have ly : yw < 18446744073709551616 := wide_lt hy ((av_num dyw).trans ey.symm) ⟨_, _, _, dyw⟩
  have lx : xw < 18446744073709551616 := wide_lt hx ((av_num dxw).trans ex.symm) ⟨_, _, _, dxw⟩
  have day := dec_abs dyw
  have dax := dec_abs dxw
  have aya := av_num day
  have axa := av_num dax
  by_cases hnx : n = 0
  · have ez1 : (FloatKind.f32.format.order x 0 == some .eq) = true := by rw [eq_zero dx, decide_eq_true hnx]
    by_cases hny : m = 0
    · have ez : (FloatKind.f32.format.order y 0 == some .eq) = true := by rw [eq_zero dy, decide_eq_true hny]
      exact ⟨fconv .f64 .f32 (some 0), fun c h => fconv_bnd h, implAngle_zero fx fy ez1 ez⟩
    · have ez : (FloatKind.f32.format.order y 0 == some .eq) = false := by rw [eq_zero dy, decide_eq_false hny]
      have hf := angQ_pb day dax (.inl (y1 hny).1)
      exact ⟨_, fun c h => fconv_bnd h, implAngle_y fy fx ey ex ly lx aya axa rfl rfl hf rfl rfl ez1 ez⟩
  · have ez : (FloatKind.f32.format.order x 0 == some .eq) = false := by rw [eq_zero dx, decide_eq_false hnx]
    have hf := angQ_pb day dax (.inr (x1 hnx).1)
    exact ⟨_, fun c h => fconv_bnd h, implAngle_x fy fx ey ex ly lx aya axa rfl rfl hf rfl rfl ez⟩
theorem angleOf_any {y x : Nat} {V : Option Nat} (h : ∀ w, Calls Tryd.prog 43 #[.float .f32 y, .float .f32 x] w fun e w' => ∃ r n, e = .returned (.float .f32 r) ∧ Hid (av .f32 r = V) ∧ w' = w.drewN n) (w : World) :
    Calls Tryd.prog 44 #[.complex .f32 x y] w fun e w' => ∃ r n, e = .returned (.float .f32 r) ∧ Hid (av .f32 r = V) ∧ w' = w.drewN n := by
  go_enter Tryd.func44, Tryd.ntmps44
  go_wp2_with (go_at_call 43; refine (h _).mono ?_; rintro e w' ⟨r, n, rfl, hr, rfl⟩)
  go_ret
  exact ⟨_, _, rfl, hr, rfl⟩
theorem fits_back (x : Nat) (hx : x < 4294967296) : Fits .f64 .f32 (fconv .f32 .f64 (av .f32 x)) := by
  intro b hb
  have h := narrow_wide x hx
  rw [hb] at h
  have h2 : floatToFloatBits .f64 b .f32 = av .f32 x := h
  rw [h2]
  cases hv : av .f32 x with
  | none => rw [hv] at hb; cases hb
  | some c => rfl
theorem narrow_any (x r : Nat) (hx : x < 4294967296) (hr : Hid (av .f64 r = fconv .f32 .f64 (av .f32 x))) (w : World) :
    Calls Tryd.prog 45 #[.float .f64 r] w fun e w' => ∃ q n, e = .returned (.float .f32 q) ∧ Hid (av .f32 q = av .f32 x) ∧ w' = w.drewN n := by
  have hf := fits_back x hx
  go_enter Tryd.func45, Tryd.ntmps45
  go_wp2_with ((with_reducible apply wpList_fconv); (show FloatKind.f64 ≠ .f32; decide); exact Tryd.underlying64; exact Tryd.underlying48; rfl; (rw [hr.out]; exact hf); intro q n hq)
  go_ret
  exact ⟨_, _, rfl, by show _ = _; rw [hq.out, hr.out, narrow_wide x hx], rfl⟩
theorem sine_val : fconv .f64 .f32 (sineW (fconv .f32 .f64 (av .f32 1048576000))) = some 1065353216 := by kernel_rfl
theorem sine_quarter (w : World) : Calls Tryd.prog 46 #[.float .f32 1048576000] w fun e w' => ∃ n, e = .returned (.float .f32 1065353216) ∧ w' = w.drewN n :=
  (implSine_any 1048576000 (by decide) w).mono fun e w' ⟨r, n, he, hr, hw⟩ => by
    have h := hr.out
    rw [sine_val] at h
    obtain rfl := (av_some h).1
    exact ⟨n, he, hw⟩
/-! ### texts of numbers, read back -/
theorem hex_no_comma (n k : Nat) : (44 : UInt8) ∉ hexL n k := by
  intro h
  unfold hexL at h
  obtain ⟨j, _, h2⟩ := List.mem_map.1 h
  have h3 : n / 16 ^ (7 - j) % 16 < 16 := Nat.mod_lt _ (by omega)
  have h4 := hexV_hexD h3
  rw [h2, show hexV 44 = none by decide] at h4
  cases h4
theorem cut_join : ∀ (x : List UInt8) (l : List (List UInt8)), (∀ y ∈ x :: l, (44 : UInt8) ∉ y) → cutF [] (Lib.join (x :: l) [44]) = x :: l
  | x, [], h => by rw [join_one, cutF_none x [] (h x (by simp))]; rfl
  | x, y :: l, h => by
    rw [join_two, List.append_assoc, List.singleton_append, cutF_hit x _ [] (h x (by simp)), cut_join y l (fun z hz => h z (List.mem_cons_of_mem _ hz))]
    rfl
theorem join_long (x : List UInt8) (l : List (List UInt8)) : x.length ≤ (Lib.join (x :: l) [44]).length := by
  cases l with
  | nil => rw [join_one]; exact Nat.le_refl _
  | cons y l => rw [join_two]; simp
theorem text_div (L : List Nat) : divL (textL (hexes L)) = hexes L := by
  cases L with
  | nil => rfl
  | cons a L =>
    have e : textL (hexes (a :: L)) = Lib.join (hexes (a :: L)) [44] := rfl
    have hc : ∀ y ∈ hexes (a :: L), (44 : UInt8) ∉ y := fun y hy => by
      unfold hexes at hy
      obtain ⟨z, _, rfl⟩ := List.mem_map.1 hy
      exact hex_no_comma _ _
    have h8 : 8 ≤ (Lib.join (hexes (a :: L)) [44]).length := by
      have := join_long (hexL (bitsN (av .f32 a)) 8) (hexes L)
      rw [hexL_length] at this
      exact this
    rw [e, divL_not (fun h => by rw [h] at h8; simp at h8)]
    exact cut_join _ _ hc
theorem ok_back {x : Nat} (hx : x < 4294967296) : okH (hexL (bitsN (av .f32 x)) 8) = true ∧ valH (hexL (bitsN (av .f32 x)) 8) = bitsN (av .f32 x) := by
  obtain ⟨h1, h2⟩ := okH_some (hexL_length _ _) (hexN_hexL (bitsN_lt hx))
  exact ⟨by rw [h1]; exact canon_back x, h2⟩
theorem numsV_text (L : List Nat) (hl : L.length ≤ 256) (hb : ∀ x ∈ L, x < 4294967296) : numsV (textL (hexes L)) = true := by
  unfold numsV
  rw [text_div, Bool.and_eq_true]
  refine ⟨decide_eq_true (by unfold hexes; rw [List.length_map]; exact hl), List.all_eq_true.2 fun y hy => ?_⟩
  unfold hexes at hy
  obtain ⟨z, hz, rfl⟩ := List.mem_map.1 hy
  exact (ok_back (hb z hz)).1
theorem numsL_text (L : List Nat) (hl : L.length ≤ 256) (hb : ∀ x ∈ L, x < 4294967296) : numsL (textL (hexes L)) = L.map fun x => bitsN (av .f32 x) := by
  unfold numsL
  rw [numsV_text L hl hb, text_div]
  show (hexes L).map valH = _
  unfold hexes
  rw [List.map_map]
  apply List.map_congr_left
  intro x hx
  exact (ok_back (hb x hx)).2
theorem text_size (L : List Nat) (hl : L.length ≤ 256) : (⟨(textL (hexes L)).toArray⟩ : ByteArray).size ≤ 1048576 := by
  rw [strB_size]
  cases L with
  | nil => decide
  | cons a L =>
    have := hexes_join (a :: L) hl
    have e : textL (hexes (a :: L)) = Lib.join (hexes (a :: L)) [44] := rfl
    rw [e]; omega
end Go.Proofs.YtedpbidphajngaaDoor
