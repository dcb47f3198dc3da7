/- The laws on sums and sums of products of lists of single floats. -/
import Derived.Test.YteodplednmeaaaaN
import Derived.Test.YteodplednmeaaaaT
import Derived.Test.YteodplednmeaaaaO
namespace Go.Proofs.Yteodplednmeaaaa
open Go.RowKit
set_option linter.unusedVariables false
set_option linter.unusedSimpArgs false

theorem specSum_in (A : Option Addr) (n c : Nat) (L : List Nat) (w : World) (h : FS w A n L) (hn : n ≤ 256) :
    Calls Try.prog 19 #[.slice A n c] w fun e w' => ∃ r k, e = .returned (.tuple #[.float .f32 r, .bool true]) ∧ Hid (av .f32 r = sumA (some 0) L) ∧ w' = w.drewN k := by
  have hd : decide ((n : Int) ≤ 256) = true := decide_eq_true (by omega)
  go_enter Try.func19, Try.ntmps19
  go_wp2_with (first | (go_at_call 65; refine (specl01Sum_any A n c L _ h (by omega)).mono ?_; rintro e w' ⟨r, k, rfl, hr, rfl⟩) | go_in)
  go_ret2
  exact ⟨r, k, rfl, hr, rfl⟩
theorem specSum_out (A : Option Addr) (n c : Nat) (w : World) (hn : 256 < n) (hn2 : n ≤ 1048576) :
    Calls Try.prog 19 #[.slice A n c] w fun e w' => e = .returned (.tuple #[.float .f32 0, .bool false]) ∧ w = w' := by
  have hd : decide ((n : Int) ≤ 256) = false := decide_eq_false (by omega)
  go_enter Try.func19, Try.ntmps19
  go_wp2
  go_ret2
  exact ⟨rfl, rfl⟩
theorem bt {w w1 w2 : World} (h : Below w.heap.size w w1) (k : Nat) (h2 : Below (w1.drewN k).heap.size (w1.drewN k) w2) : Below w.heap.size w w2 :=
  (below_drewN h k).trans (h2.mono h.size)
theorem bd {w w1 : World} (h : Below w.heap.size w w1) (k : Nat) : Below w.heap.size w (w1.drewN k) := below_drewN h k

set_option maxRecDepth 100000 in
theorem lawSumNumbers (A : Option Addr) (n c : Nat) (L : List Nat) (w : World) (h : FArg w A n L) :
    Calls Try.prog 3 #[.slice A n c] w fun e w' => e = .returned (.bool true) ∧ Below w.heap.size w w' := by
  have hm := h.2.1
  have h0 := h.1
  unfold maxLen at hm
  clear h
  by_cases hlt : n ≤ 1048576
  · have h1 : decide ((1048576 : Int) < (n : Int)) = false := decide_eq_false (by omega)
    by_cases h256 : n ≤ 256
    · go_enter Try.func3, Try.ntmps3
      go_wp2_with fail
      refine (toFloat32S_any A n c L _ h0 hlt).mono ?_
      rintro e wx ⟨g1, v1, rfl, hg1, -, -, hf1, hb1⟩
      go_wp2_with fail
      refine (specSum_in _ n n L _ hf1 h256).mono ?_
      rintro e wx ⟨r1, k1, rfl, hr1, rfl⟩
      go_wp2_with fail
      refine (toFloat32S_any A n c L _ ((h0.below hb1).drewN k1) hlt).mono ?_
      rintro e wx ⟨g2, v2, rfl, hg2, -, -, hf2, hb2⟩
      go_wp2_with fail
      refine (implSum_in _ n n L _ hf2 h256).mono ?_
      rintro e wx ⟨r2, k2, rfl, hr2, rfl⟩
      go_wp2_with (first | ((with_reducible apply wpList_fconv); (show FloatKind.f32 ≠ .f64; decide); exact Try.underlying23; exact Try.underlying28; rfl; exact fits_wide _; intro rr qq hrr) | fail)
      refine (sameFloat_alike _ _ (by simp only [Hid] at *; simp [*]) _).mono ?_
      rintro e wx ⟨k3, rfl, rfl⟩
      have hb3 := bt hb1 k1 hb2
      go_wp2_with fail
      refine (toFloat32S_any A n c L _ ((h0.below hb3).drewN _) hlt).mono ?_
      rintro e wx ⟨g3, v3, rfl, hg3, -, -, hf3, hb4⟩
      have hb5 := bt hb3 _ hb4
      go_wp2_with fail
      refine (eqFloat32S_alike _ _ n n n L L _ ((hf2.drewN _).below hb4) hf3 hlt rfl).mono ?_
      rintro e wx ⟨k4, rfl, rfl⟩
      go_wp2_with fail
      go_ret
      exact ⟨rfl, bd hb5 _⟩
    · go_enter Try.func3, Try.ntmps3
      go_wp2_with fail
      refine (toFloat32S_any A n c L _ h0 hlt).mono ?_
      rintro e wx ⟨g1, v1, rfl, hg1, -, -, hf1, hb1⟩
      go_wp2_with fail
      refine (specSum_out _ n n _ (by omega) hlt).mono ?_
      rintro e wx ⟨rfl, rfl⟩
      go_wp2_with fail
      refine (toFloat32S_any A n c L _ (h0.below hb1) hlt).mono ?_
      rintro e wx ⟨g2, v2, rfl, hg2, -, -, hf2, hb2⟩
      go_wp2_with fail
      refine (implSum_out _ n n _ (by omega) hlt).mono ?_
      rintro e wx ⟨rfl, rfl⟩
      go_wp2_with (first | ((with_reducible apply wpList_fconv); (show FloatKind.f32 ≠ .f64; decide); exact Try.underlying23; exact Try.underlying28; rfl; exact fits_wide _; intro rr qq hrr) | fail)
      refine (sameFloat_alike _ _ (by simp only [Hid] at *; simp [*]) _).mono ?_
      rintro e wx ⟨k3, rfl, rfl⟩
      have hb3 := bt hb1 0 hb2
      go_wp2_with fail
      refine (toFloat32S_any A n c L _ ((h0.below hb3).drewN _) hlt).mono ?_
      rintro e wx ⟨g3, v3, rfl, hg3, -, -, hf3, hb4⟩
      have hb5 := bt hb3 _ hb4
      go_wp2_with fail
      refine (eqFloat32S_alike _ _ n n n L L _ ((hf2.drewN _).below hb4) hf3 hlt rfl).mono ?_
      rintro e wx ⟨k4, rfl, rfl⟩
      go_wp2_with fail
      go_ret
      exact ⟨rfl, bd hb5 _⟩
  · have h1 : decide ((1048576 : Int) < (n : Int)) = true := decide_eq_true (by omega)
    go_enter Try.func3, Try.ntmps3
    go_wp2_with fail
    go_ret
    exact ⟨rfl, Below.refl _ _⟩

theorem specDot_in (A B : Option Addr) (n c d : Nat) (L M : List Nat) (w : World) (h : FS w A n L) (h' : FS w B n M) (hn : n ≤ 256) :
    Calls Try.prog 24 #[.slice A n c, .slice B n d] w fun e w' => ∃ r k, e = .returned (.tuple #[.float .f32 r, .bool true]) ∧ Hid (av .f32 r = dotA (some 0) L M) ∧ w' = w.drewN k := by
  have hd : decide ((n : Int) ≤ 256) = true := decide_eq_true (by omega)
  have hne : ((n : Int) != (n : Int)) = false := by simp
  go_enter Try.func24, Try.ntmps24
  go_wp2_with (first | (go_at_call 67; refine (specl01Dot_any A B n n c d L M _ h h' (by omega) (Nat.le_refl _) (by omega)).mono ?_; rintro e w' ⟨r, k, rfl, hr, rfl⟩) | go_in)
  go_ret2
  exact ⟨r, k, rfl, hr, rfl⟩
theorem specDot_out (A B : Option Addr) (n m c d : Nat) (w : World) (hn : 256 < n ∨ n ≠ m) (hn2 : n ≤ 1048576) (hm2 : m ≤ 1048576) :
    Calls Try.prog 24 #[.slice A n c, .slice B m d] w fun e w' => e = .returned (.tuple #[.float .f32 0, .bool false]) ∧ w = w' := by
  by_cases h : 256 < n
  · have hd : decide ((n : Int) ≤ 256) = false := decide_eq_false (by omega)
    go_enter Try.func24, Try.ntmps24
    go_wp2
    go_ret2
    exact ⟨rfl, rfl⟩
  · have hd : decide ((n : Int) ≤ 256) = true := decide_eq_true (by omega)
    have hne : ((n : Int) != (m : Int)) = true := by simp; omega
    go_enter Try.func24, Try.ntmps24
    go_wp2
    go_ret2
    exact ⟨rfl, rfl⟩
theorem implDot_in (A B : Option Addr) (n c d : Nat) (L M : List Nat) (w : World) (h : FS w A n L) (h' : FS w B n M) (hn : n ≤ 256) :
    Calls Try.prog 25 #[.slice A n c, .slice B n d] w fun e w' => ∃ r k, e = .returned (.tuple #[.float .f32 r, .bool true]) ∧ Hid (av .f32 r = dotA (some 0) L M) ∧ w' = w.drewN k := by
  have hd : decide ((n : Int) ≤ 256) = true := decide_eq_true (by omega)
  have hne : ((n : Int) != (n : Int)) = false := by simp
  go_enter Try.func25, Try.ntmps25
  go_wp2_with (first | (go_at_call 68; refine (impldot_any A B n n c d L M _ h h' (by omega) (Nat.le_refl _) (by omega)).mono ?_; rintro e w' ⟨r, k, rfl, hr, rfl⟩) | (go_at_call 66; refine (areNumbers_any _ _).mono ?_; rintro e w' ⟨rfl, rfl⟩))
  go_ret2
  exact ⟨r, k, rfl, hr, rfl⟩
theorem implDot_out (A B : Option Addr) (n m c d : Nat) (w : World) (hn : 256 < n ∨ n ≠ m) (hn2 : n ≤ 1048576) (hm2 : m ≤ 1048576) :
    Calls Try.prog 25 #[.slice A n c, .slice B m d] w fun e w' => e = .returned (.tuple #[.float .f32 0, .bool false]) ∧ w = w' := by
  by_cases h : 256 < n
  · have hd : decide ((n : Int) ≤ 256) = false := decide_eq_false (by omega)
    go_enter Try.func25, Try.ntmps25
    go_wp2_with (go_at_call 66; refine (areNumbers_any _ _).mono ?_; rintro e w' ⟨rfl, rfl⟩)
    go_ret2
    exact ⟨rfl, rfl⟩
  · have hd : decide ((n : Int) ≤ 256) = true := decide_eq_true (by omega)
    have hne : ((n : Int) != (m : Int)) = true := by simp; omega
    go_enter Try.func25, Try.ntmps25
    go_wp2_with (go_at_call 66; refine (areNumbers_any _ _).mono ?_; rintro e w' ⟨rfl, rfl⟩)
    go_ret2
    exact ⟨rfl, rfl⟩
set_option maxRecDepth 100000 in
theorem lawDotNumbers (w : World) (A : Option Addr) (n c : Nat) (L : List Nat) (h : FArg w A n L) (B : Option Addr) (m d : Nat) (M : List Nat) (h' : FArg w B m M) :
    Calls Try.prog 4 #[.slice A n c, .slice B m d] w fun e w' => e = .returned (.bool true) ∧ Below w.heap.size w w' := by
  have hm := h.2.1
  have hm' := h'.2.1
  have h0 := h.1
  have h0' := h'.1
  unfold maxLen at hm hm'
  clear h h'
  by_cases hlt : n ≤ 1048576
  · have h1 : decide ((1048576 : Int) < (n : Int)) = false := decide_eq_false (by omega)
    by_cases hlt' : m ≤ 1048576
    · have h2 : decide ((1048576 : Int) < (m : Int)) = false := decide_eq_false (by omega)
      by_cases hin : n ≤ 256 ∧ n = m
      · obtain ⟨h256, rfl⟩ := hin
        go_enter Try.func4, Try.ntmps4
        go_wp2_with fail
        refine (toFloat32S_any A n c L _ h0 hlt).mono ?_
        rintro e wx ⟨g1, v1, rfl, hg1, -, -, hf1, hb1⟩
        go_wp2_with fail
        refine (toFloat32S_any B n d M _ (h0'.below hb1) hlt).mono ?_
        rintro e wx ⟨g2, v2, rfl, hg2, -, -, hf2, hb2⟩
        have hb := bt hb1 0 hb2
        go_wp2_with fail
        refine (specDot_in _ _ n n n L M _ (hf1.below hb2) hf2 h256).mono ?_
        rintro e wx ⟨r1, k1, rfl, hr1, rfl⟩
        go_wp2_with fail
        refine (toFloat32S_any A n c L _ ((h0.below hb).drewN k1) hlt).mono ?_
        rintro e wx ⟨g3, v3, rfl, hg3, -, -, hf3, hb3⟩
        have hc := bt hb _ hb3
        go_wp2_with fail
        refine (toFloat32S_any B n d M _ (h0'.below hc) hlt).mono ?_
        rintro e wx ⟨g4, v4, rfl, hg4, -, -, hf4, hb4⟩
        have hd := bt hc 0 hb4
        have hf3' := hf3.below hb4
        go_wp2_with fail
        refine (implDot_in _ _ n n n L M _ hf3' hf4 h256).mono ?_
        rintro e wx ⟨r2, k2, rfl, hr2, rfl⟩
        go_wp2_with (first | ((with_reducible apply wpList_fconv); (show FloatKind.f32 ≠ .f64; decide); exact Try.underlying23; exact Try.underlying28; rfl; exact fits_wide _; intro rr qq hrr) | fail)
        refine (sameFloat_alike _ _ (by simp only [Hid] at *; simp [*]) _).mono ?_
        rintro e wx ⟨k3, rfl, rfl⟩
        go_wp2_with fail
        refine (toFloat32S_any A n c L _ ((h0.below hd).drewN _) hlt).mono ?_
        rintro e wx ⟨g5, v5, rfl, hg5, -, -, hf5, hb5⟩
        have he := bt hd _ hb5
        go_wp2_with fail
        refine (eqFloat32S_alike _ _ n n n L L _ ((hf3'.drewN _).below hb5) hf5 hlt rfl).mono ?_
        rintro e wx ⟨k4, rfl, rfl⟩
        go_wp2_with fail
        refine (toFloat32S_any B n d M _ ((h0'.below he).drewN _) hlt).mono ?_
        rintro e wx ⟨g6, v6, rfl, hg6, -, -, hf6, hb6⟩
        have hf := bt he _ hb6
        go_wp2_with fail
        refine (eqFloat32S_alike _ _ n n n M M _ ((((hf4.drewN _).below hb5).drewN _).below hb6) hf6 hlt rfl).mono ?_
        rintro e wx ⟨k5, rfl, rfl⟩
        go_wp2_with fail
        go_ret
        exact ⟨rfl, bd hf _⟩
      · have ho : 256 < n ∨ n ≠ m := by omega
        clear hin
        go_enter Try.func4, Try.ntmps4
        go_wp2_with fail
        refine (toFloat32S_any A n c L _ h0 hlt).mono ?_
        rintro e wx ⟨g1, v1, rfl, hg1, -, -, hf1, hb1⟩
        go_wp2_with fail
        refine (toFloat32S_any B m d M _ (h0'.below hb1) hlt').mono ?_
        rintro e wx ⟨g2, v2, rfl, hg2, -, -, hf2, hb2⟩
        have hb := bt hb1 0 hb2
        go_wp2_with fail
        refine (specDot_out _ _ n m n m _ ho hlt hlt').mono ?_
        rintro e wx ⟨rfl, rfl⟩
        go_wp2_with fail
        refine (toFloat32S_any A n c L _ (h0.below hb) hlt).mono ?_
        rintro e wx ⟨g3, v3, rfl, hg3, -, -, hf3, hb3⟩
        have hc := bt hb 0 hb3
        go_wp2_with fail
        refine (toFloat32S_any B m d M _ (h0'.below hc) hlt').mono ?_
        rintro e wx ⟨g4, v4, rfl, hg4, -, -, hf4, hb4⟩
        have hd := bt hc 0 hb4
        have hf3' := hf3.below hb4
        go_wp2_with fail
        refine (implDot_out _ _ n m n m _ ho hlt hlt').mono ?_
        rintro e wx ⟨rfl, rfl⟩
        go_wp2_with (first | ((with_reducible apply wpList_fconv); (show FloatKind.f32 ≠ .f64; decide); exact Try.underlying23; exact Try.underlying28; rfl; exact fits_wide _; intro rr qq hrr) | fail)
        refine (sameFloat_alike _ _ (by simp only [Hid] at *; simp [*]) _).mono ?_
        rintro e wx ⟨k3, rfl, rfl⟩
        go_wp2_with fail
        refine (toFloat32S_any A n c L _ ((h0.below hd).drewN _) hlt).mono ?_
        rintro e wx ⟨g5, v5, rfl, hg5, -, -, hf5, hb5⟩
        have he := bt hd _ hb5
        go_wp2_with fail
        refine (eqFloat32S_alike _ _ n n n L L _ ((hf3'.drewN _).below hb5) hf5 hlt rfl).mono ?_
        rintro e wx ⟨k4, rfl, rfl⟩
        go_wp2_with fail
        refine (toFloat32S_any B m d M _ ((h0'.below he).drewN _) hlt').mono ?_
        rintro e wx ⟨g6, v6, rfl, hg6, -, -, hf6, hb6⟩
        have hf := bt he _ hb6
        go_wp2_with fail
        refine (eqFloat32S_alike _ _ m m m M M _ ((((hf4.drewN _).below hb5).drewN _).below hb6) hf6 hlt' rfl).mono ?_
        rintro e wx ⟨k5, rfl, rfl⟩
        go_wp2_with fail
        go_ret
        exact ⟨rfl, bd hf _⟩
    · have h2 : decide ((1048576 : Int) < (m : Int)) = true := decide_eq_true (by omega)
      go_enter Try.func4, Try.ntmps4
      go_wp2_with fail
      go_ret
      exact ⟨rfl, Below.refl _ _⟩
  · have h1 : decide ((1048576 : Int) < (n : Int)) = true := decide_eq_true (by omega)
    go_enter Try.func4, Try.ntmps4
    go_wp2_with fail
    go_ret
    exact ⟨rfl, Below.refl _ _⟩
end Go.Proofs.Yteodplednmeaaaa
