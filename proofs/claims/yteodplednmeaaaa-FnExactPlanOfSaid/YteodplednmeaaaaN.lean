/- Sums of products of lists of single floats, and lists that have the same numbers. -/
import Derived.Test.YteodplednmeaaaaM
import Derived.Test.YteodplednmeaaaaLo
namespace Go.Proofs.Yteodplednmeaaaa
open Go.RowKit
set_option linter.unusedVariables false
set_option linter.unusedSimpArgs false
attribute [local go_sem] lo_value lo_enter

/-- the sum of products from left to right -/
def dotA : Option Nat → List Nat → List Nat → Option Nat
  | s, x :: l, y :: m => dotA (fop .add .f32 s (fop .mul .f32 (av .f32 x) (av .f32 y))) l m
  | s, _, _ => s
theorem dotA_snoc (s : Option Nat) (l m : List Nat) (x y : Nat) (h : l.length = m.length) :
    dotA s (l ++ [x]) (m ++ [y]) = fop .add .f32 (dotA s l m) (fop .mul .f32 (av .f32 x) (av .f32 y)) := by
  induction l generalizing s m with
  | nil => cases m <;> simp [dotA] at h ⊢
  | cons a l ih => cases m with
    | nil => simp at h
    | cons b m => simp [dotA]; exact ih _ _ (by simpa using h)
theorem dotA_take (s : Option Nat) (l m : List Nat) (h : l.length ≤ m.length) : dotA s l (m.take l.length) = dotA s l m := by
  induction l generalizing s m with
  | nil => cases m <;> simp [dotA]
  | cons a l ih => cases m with
    | nil => simp at h
    | cons b m => simp [dotA]; exact ih _ _ (by simpa using h)
/-- the sum from left to right -/
def sumA (s : Option Nat) (l : List Nat) : Option Nat := l.foldl (fun s x => fop .add .f32 s (av .f32 x)) s
theorem sumA_snoc (s : Option Nat) (l : List Nat) (x : Nat) : sumA s (l ++ [x]) = fop .add .f32 (sumA s l) (av .f32 x) := by simp [sumA]
/-- the same numbers -/
def sameL : List Nat → List Nat → Bool
  | [], [] => true
  | x :: l, y :: m => sameA (av .f32 x) (av .f32 y) && sameL l m
  | _, _ => false
theorem sameL_snoc (l m : List Nat) (x y : Nat) (h : l.length = m.length) : sameL (l ++ [x]) (m ++ [y]) = (sameL l m && sameA (av .f32 x) (av .f32 y)) := by
  induction l generalizing m with
  | nil => cases m <;> simp [sameL] at h ⊢
  | cons a l ih => cases m with
    | nil => simp at h
    | cons b m => simp only [List.cons_append, sameL]; rw [ih _ (by simpa using h), Bool.and_assoc]
theorem sameL_len {l m : List Nat} (h : l.length ≠ m.length) : sameL l m = false := by
  induction l generalizing m with
  | nil => cases m <;> simp [sameL] at h ⊢
  | cons a l ih => cases m with
    | nil => rfl
    | cons b m => simp only [sameL]; rw [ih (by simpa using h), Bool.and_false]
theorem sameL_false {l m : List Nat} {k x y : Nat} (hx : l[k]? = some x) (hy : m[k]? = some y) (h : sameA (av .f32 x) (av .f32 y) = false) : sameL l m = false := by
  induction k generalizing l m with
  | zero =>
    cases l <;> cases m <;> simp at hx hy
    subst hx; subst hy
    simp [sameL, h]
  | succ k ih =>
    cases l <;> cases m <;> simp at hx hy
    simp only [sameL]
    rw [ih hx hy, Bool.and_false]

set_option maxRecDepth 100000 in
theorem impldot_any (A B : Option Addr) (n m c d : Nat) (L M : List Nat) (w : World) (h : FS w A n L) (h' : FS w B m M) (hn : n ≤ 1048576) (hm : n ≤ m) (hm2 : m ≤ 1048576) :
    Calls Try.prog 68 #[.slice A n c, .slice B m d] w fun e w' => ∃ r k, e = .returned (.float .f32 r) ∧ Hid (av .f32 r = dotA (some 0) L M) ∧ w' = w.drewN k := by
  have hL := h.1
  have hM := h'.1
  have HT := Lib.hid (dotA_take (some 0) L M (by omega))
  go_enter Try.func68, Try.ntmps68
  go_wp2
  go_loopw [5, 9] (fun s i wr => ∃ k q r : Nat, k ≤ n ∧ i = .int .i64 k ∧ s = .float .f32 r ∧ wr = w.drewN q ∧ Hid (av .f32 r = dotA (some 0) (L.take k) (M.take k))) (fun _ i _ => n - (intOf i).toNat)
  case atStart => exact ⟨0, 0, 0, Nat.zero_le _, rfl, rfl, rfl, by show _ = _; rfl⟩
  case round =>
    obtain ⟨k, q, r, hk, rfl, rfl, rfl, hrel⟩ := hrel
    by_cases hlt : k < n
    · obtain ⟨b, off, x, rfl, hb, hc, hx, hs⟩ := h.at_ hlt
      obtain ⟨b2, off2, y, rfl, hb2, hc2, hx2, hs2⟩ := h'.at_ (show k < m by omega)
      have HX := Lib.hid hx
      have HS := Lib.hid hs
      have HX2 := Lib.hid hx2
      have HS2 := Lib.hid hs2
      have hlt2 : (k : Int) < (m : Int) := by omega
      have HL := Lib.hid hL
      have HM := Lib.hid hM
      clear hx hs hx2 hs2 h h' hL hM HT
      go_wp2
      refine wp_region_lo q undef (by kernel_rfl) (by kernel_rfl) ?_; (repeat (first | ((with_reducible apply wpLo_farith); rfl; rfl; rfl; intro r hr) | ((with_reducible apply wpLo_fconv); (show FloatKind.f32 ≠ .f64; decide); exact Try.underlying23; exact Try.underlying28; rfl; exact fits_wide _; intro r hr) | (refine wpLo_plain rfl (fun K hK n => ?_); go_simp; first | (refine hK _ ?_; clear hK K n) | (refine ⟨?_, hK _ ?_⟩; rotate_left; clear hK K n; rotate_left; (fail))))); refine wpLo_nil ?_; intro nq
      go_wp2
      go_roundw
      case rel => exact ⟨k + 1, _, _, by omega, by go_num, rfl, rfl, by show _ = _; rw [HS.out, HS2.out, dotA_snoc _ _ _ _ _ (by rw [List.length_take, List.length_take, HL.out, HM.out]; omega)]; simp only [Hid] at *; simp [*]⟩
      case measure => simp [intOf]; omega
    · obtain rfl : k = n := by omega
      go_wp2
      go_ret
      refine ⟨r, _, rfl, ?_, rfl⟩
      show _ = _
      rw [hrel.out, ← HT.out, hL]
      rw [show L.take k = L by rw [← hL, List.take_length]]

set_option maxRecDepth 100000 in
theorem specl01Dot_any (A B : Option Addr) (n m c d : Nat) (L M : List Nat) (w : World) (h : FS w A n L) (h' : FS w B m M) (hn : n ≤ 1048576) (hm : n ≤ m) (hm2 : m ≤ 1048576) :
    Calls Try.prog 67 #[.slice A n c, .slice B m d] w fun e w' => ∃ r k, e = .returned (.float .f32 r) ∧ Hid (av .f32 r = dotA (some 0) L M) ∧ w' = w.drewN k := by
  have hL := h.1
  have hM := h'.1
  have HT := Lib.hid (dotA_take (some 0) L M (by omega))
  go_enter Try.func67, Try.ntmps67
  go_wp2
  go_loopw [5, 6] (fun s i wr => ∃ k q r : Nat, k ≤ n ∧ i = .int .i64 k ∧ s = .float .f32 r ∧ wr = w.drewN q ∧ Hid (av .f32 r = dotA (some 0) (L.take k) (M.take k))) (fun _ i _ => n - (intOf i).toNat)
  case atStart => exact ⟨0, 0, 0, Nat.zero_le _, rfl, rfl, rfl, by show _ = _; rfl⟩
  case round =>
    obtain ⟨k, q, r, hk, rfl, rfl, rfl, hrel⟩ := hrel
    by_cases hlt : k < n
    · obtain ⟨b, off, x, rfl, hb, hc, hx, hs⟩ := h.at_ hlt
      obtain ⟨b2, off2, y, rfl, hb2, hc2, hx2, hs2⟩ := h'.at_ (show k < m by omega)
      have HX := Lib.hid hx
      have HS := Lib.hid hs
      have HX2 := Lib.hid hx2
      have HS2 := Lib.hid hs2
      have hlt2 : (k : Int) < (m : Int) := by omega
      have HL := Lib.hid hL
      have HM := Lib.hid hM
      clear hx hs hx2 hs2 h h' hL hM HT
      go_wp2
      refine wp_region_lo q undef (by kernel_rfl) (by kernel_rfl) ?_; (repeat (first | ((with_reducible apply wpLo_farith); rfl; rfl; rfl; intro r hr) | ((with_reducible apply wpLo_fconv); (show FloatKind.f32 ≠ .f64; decide); exact Try.underlying23; exact Try.underlying28; rfl; exact fits_wide _; intro r hr) | (refine wpLo_plain rfl (fun K hK n => ?_); go_simp; first | (refine hK _ ?_; clear hK K n) | (refine ⟨?_, hK _ ?_⟩; rotate_left; clear hK K n; rotate_left; (fail))))); refine wpLo_nil ?_; intro nq
      go_wp2
      go_roundw
      case rel => exact ⟨k + 1, _, _, by omega, by go_num, rfl, rfl, by show _ = _; rw [HS.out, HS2.out, dotA_snoc _ _ _ _ _ (by rw [List.length_take, List.length_take, HL.out, HM.out]; omega)]; simp only [Hid] at *; simp [*]⟩
      case measure => simp [intOf]; omega
    · obtain rfl : k = n := by omega
      go_wp2
      go_ret
      refine ⟨r, _, rfl, ?_, rfl⟩
      show _ = _
      rw [hrel.out, ← HT.out, hL]
      rw [show L.take k = L by rw [← hL, List.take_length]]

set_option maxRecDepth 100000 in
theorem specl02Dot_any (A B : Option Addr) (n m c d : Nat) (L M : List Nat) (w : World) (h : FS w A n L) (h' : FS w B m M) (hn : n ≤ 1048576) (hm : n ≤ m) (hm2 : m ≤ 1048576) :
    Calls Try.prog 87 #[.slice A n c, .slice B m d] w fun e w' => ∃ r k, e = .returned (.float .f32 r) ∧ Hid (av .f32 r = dotA (some 0) L M) ∧ w' = w.drewN k := by
  have hL := h.1
  have hM := h'.1
  have HT := Lib.hid (dotA_take (some 0) L M (by omega))
  go_enter Try.func87, Try.ntmps87
  go_wp2
  go_loopw [5, 6] (fun s i wr => ∃ k q r : Nat, k ≤ n ∧ i = .int .i64 k ∧ s = .float .f32 r ∧ wr = w.drewN q ∧ Hid (av .f32 r = dotA (some 0) (L.take k) (M.take k))) (fun _ i _ => n - (intOf i).toNat)
  case atStart => exact ⟨0, 0, 0, Nat.zero_le _, rfl, rfl, rfl, by show _ = _; rfl⟩
  case round =>
    obtain ⟨k, q, r, hk, rfl, rfl, rfl, hrel⟩ := hrel
    by_cases hlt : k < n
    · obtain ⟨b, off, x, rfl, hb, hc, hx, hs⟩ := h.at_ hlt
      obtain ⟨b2, off2, y, rfl, hb2, hc2, hx2, hs2⟩ := h'.at_ (show k < m by omega)
      have HX := Lib.hid hx
      have HS := Lib.hid hs
      have HX2 := Lib.hid hx2
      have HS2 := Lib.hid hs2
      have hlt2 : (k : Int) < (m : Int) := by omega
      have HL := Lib.hid hL
      have HM := Lib.hid hM
      clear hx hs hx2 hs2 h h' hL hM HT
      go_wp2
      refine wp_region_lo q undef (by kernel_rfl) (by kernel_rfl) ?_; (repeat (first | ((with_reducible apply wpLo_farith); rfl; rfl; rfl; intro r hr) | ((with_reducible apply wpLo_fconv); (show FloatKind.f32 ≠ .f64; decide); exact Try.underlying23; exact Try.underlying28; rfl; exact fits_wide _; intro r hr) | (refine wpLo_plain rfl (fun K hK n => ?_); go_simp; first | (refine hK _ ?_; clear hK K n) | (refine ⟨?_, hK _ ?_⟩; rotate_left; clear hK K n; rotate_left; (fail))))); refine wpLo_nil ?_; intro nq
      go_wp2
      go_roundw
      case rel => exact ⟨k + 1, _, _, by omega, by go_num, rfl, rfl, by show _ = _; rw [HS.out, HS2.out, dotA_snoc _ _ _ _ _ (by rw [List.length_take, List.length_take, HL.out, HM.out]; omega)]; simp only [Hid] at *; simp [*]⟩
      case measure => simp [intOf]; omega
    · obtain rfl : k = n := by omega
      go_wp2
      go_ret
      refine ⟨r, _, rfl, ?_, rfl⟩
      show _ = _
      rw [hrel.out, ← HT.out, hL]
      rw [show L.take k = L by rw [← hL, List.take_length]]

set_option maxRecDepth 100000 in
theorem implsameNumbers_any (A B : Option Addr) (n m c d : Nat) (L M : List Nat) (w : World) (h : FS w A n L) (h' : FS w B m M) (hn : n ≤ 1048576) (hm2 : m ≤ 1048576)
    (bL : ∀ x ∈ L, x < 4294967296) (bM : ∀ x ∈ M, x < 4294967296) :
    Calls Try.prog 71 #[.slice A n c, .slice B m d] w fun e w' => ∃ k, e = .returned (.bool (sameL L M)) ∧ w' = w.drewN k := by
  have hL := h.1
  have hM := h'.1
  by_cases hnm : n = m
  · subst hnm
    go_enter Try.func71, Try.ntmps71
    go_wp2
    go_loopw [13] (fun i wr => ∃ k q : Nat, k ≤ n ∧ i = .int .i64 k ∧ wr = w.drewN q ∧ sameL (L.take k) (M.take k) = true) (fun i _ => n - (intOf i).toNat)
    case atStart => exact ⟨0, 0, Nat.zero_le _, rfl, rfl, rfl⟩
    case round =>
      obtain ⟨k, q, hk, rfl, rfl, hrel⟩ := hrel
      have HR := Lib.hid hrel
      clear hrel
      by_cases hlt : k < n
      · obtain ⟨b, off, x, rfl, hb, hc, hx, hs⟩ := h.at_ hlt
        obtain ⟨b2, off2, y, rfl, hb2, hc2, hx2, hs2⟩ := h'.at_ hlt
        have hbx := bL x (List.mem_of_getElem? hx)
        have hby := bM y (List.mem_of_getElem? hx2)
        have HX := Lib.hid hx
        have HS := Lib.hid hs
        have HX2 := Lib.hid hx2
        have HS2 := Lib.hid hs2
        have HL := Lib.hid hL
        have HM := Lib.hid hM
        clear hx hs hx2 hs2 h h' hL hM bL bM
        cases hf : sameA (av .f32 x) (av .f32 y)
        · go_wp2
          refine wp_region_lo q (.bool false) (by kernel_rfl) (by kernel_rfl) ?_; (repeat (first | ((with_reducible apply wpLo_farith); rfl; rfl; rfl; intro r hr) | ((with_reducible apply wpLo_fconv); (show FloatKind.f32 ≠ .f64; decide); exact Try.underlying23; exact Try.underlying28; rfl; exact fits_wide _; intro r hr) | (refine wpLo_plain rfl (fun K hK n => ?_); go_simp; first | (refine hK _ ?_; clear hK K n) | (refine ⟨?_, hK _ ?_⟩; rotate_left; clear hK K n; rotate_left; (exact lo_call_same ((implSameNumber_any _ _ hbx hby _).mono fun e w' ⟨he, hw⟩ => ⟨by rw [he, hf], hw⟩)))))); refine wpLo_nil ?_; intro nq
          go_wp2
          go_ret
          exact ⟨_, by rw [sameL_false HX.out HX2.out hf]; rfl, rfl⟩
        · go_wp2
          refine wp_region_lo q (.bool true) (by kernel_rfl) (by kernel_rfl) ?_; (repeat (first | ((with_reducible apply wpLo_farith); rfl; rfl; rfl; intro r hr) | ((with_reducible apply wpLo_fconv); (show FloatKind.f32 ≠ .f64; decide); exact Try.underlying23; exact Try.underlying28; rfl; exact fits_wide _; intro r hr) | (refine wpLo_plain rfl (fun K hK n => ?_); go_simp; first | (refine hK _ ?_; clear hK K n) | (refine ⟨?_, hK _ ?_⟩; rotate_left; clear hK K n; rotate_left; (exact lo_call_same ((implSameNumber_any _ _ hbx hby _).mono fun e w' ⟨he, hw⟩ => ⟨by rw [he, hf], hw⟩)))))); refine wpLo_nil ?_; intro nq
          go_wp2
          go_roundw
          case rel => exact ⟨k + 1, _, by omega, by go_num, rfl, by rw [HS.out, HS2.out, sameL_snoc _ _ _ _ (by rw [List.length_take, List.length_take, HL.out, HM.out]), HR.out, hf]; rfl⟩
          case measure => simp [intOf]; omega
      · obtain rfl : k = n := by omega
        have e1 : L.take k = L := by rw [← hL, List.take_length]
        have e2 : M.take k = M := by rw [← hM, List.take_length]
        rw [e1, e2] at HR
        clear e1 e2
        go_wp2
        go_ret
        exact ⟨_, by rw [HR.out]; rfl, rfl⟩
  · have hf := sameL_len (l := L) (m := M) (by omega)
    have HF := Lib.hid hf
    have hne : ((n : Int) != (m : Int)) = true := by simp; omega
    clear hf
    go_enter Try.func71, Try.ntmps71
    go_wp2
    go_ret
    exact ⟨0, by rw [HF.out]; rfl, rfl⟩

set_option maxRecDepth 100000 in
theorem specl01SameAll_any (A B : Option Addr) (n m c d : Nat) (L M : List Nat) (w : World) (h : FS w A n L) (h' : FS w B m M) (hn : n ≤ 1048576) (hm2 : m ≤ 1048576)
    (bL : ∀ x ∈ L, x < 4294967296) (bM : ∀ x ∈ M, x < 4294967296) :
    Calls Try.prog 78 #[.slice A n c, .slice B m d] w fun e w' => ∃ k, e = .returned (.bool (sameL L M)) ∧ w' = w.drewN k := by
  have hL := h.1
  have hM := h'.1
  by_cases hnm : n = m
  · subst hnm
    go_enter Try.func78, Try.ntmps78
    go_wp2
    go_loopw [5] (fun i wr => ∃ k q : Nat, k ≤ n ∧ i = .int .i64 k ∧ wr = w.drewN q ∧ sameL (L.take k) (M.take k) = true) (fun i _ => n - (intOf i).toNat)
    case atStart => exact ⟨0, 0, Nat.zero_le _, rfl, rfl, rfl⟩
    case round =>
      obtain ⟨k, q, hk, rfl, rfl, hrel⟩ := hrel
      have HR := Lib.hid hrel
      clear hrel
      by_cases hlt : k < n
      · obtain ⟨b, off, x, rfl, hb, hc, hx, hs⟩ := h.at_ hlt
        obtain ⟨b2, off2, y, rfl, hb2, hc2, hx2, hs2⟩ := h'.at_ hlt
        have hbx := bL x (List.mem_of_getElem? hx)
        have hby := bM y (List.mem_of_getElem? hx2)
        have HX := Lib.hid hx
        have HS := Lib.hid hs
        have HX2 := Lib.hid hx2
        have HS2 := Lib.hid hs2
        have HL := Lib.hid hL
        have HM := Lib.hid hM
        clear hx hs hx2 hs2 h h' hL hM bL bM
        cases hf : sameA (av .f32 x) (av .f32 y)
        · go_wp2
          refine wp_region_lo q (.bool false) (by kernel_rfl) (by kernel_rfl) ?_; (repeat (first | ((with_reducible apply wpLo_farith); rfl; rfl; rfl; intro r hr) | ((with_reducible apply wpLo_fconv); (show FloatKind.f32 ≠ .f64; decide); exact Try.underlying23; exact Try.underlying28; rfl; exact fits_wide _; intro r hr) | (refine wpLo_plain rfl (fun K hK n => ?_); go_simp; first | (refine hK _ ?_; clear hK K n) | (refine ⟨?_, hK _ ?_⟩; rotate_left; clear hK K n; rotate_left; (exact lo_call_same ((specl01Same_any _ _ hbx hby _).mono fun e w' ⟨he, hw⟩ => ⟨by rw [he, hf], hw⟩)))))); refine wpLo_nil ?_; intro nq
          go_wp2
          go_ret
          exact ⟨_, by rw [sameL_false HX.out HX2.out hf]; rfl, rfl⟩
        · go_wp2
          refine wp_region_lo q (.bool true) (by kernel_rfl) (by kernel_rfl) ?_; (repeat (first | ((with_reducible apply wpLo_farith); rfl; rfl; rfl; intro r hr) | ((with_reducible apply wpLo_fconv); (show FloatKind.f32 ≠ .f64; decide); exact Try.underlying23; exact Try.underlying28; rfl; exact fits_wide _; intro r hr) | (refine wpLo_plain rfl (fun K hK n => ?_); go_simp; first | (refine hK _ ?_; clear hK K n) | (refine ⟨?_, hK _ ?_⟩; rotate_left; clear hK K n; rotate_left; (exact lo_call_same ((specl01Same_any _ _ hbx hby _).mono fun e w' ⟨he, hw⟩ => ⟨by rw [he, hf], hw⟩)))))); refine wpLo_nil ?_; intro nq
          go_wp2
          go_roundw
          case rel => exact ⟨k + 1, _, by omega, by go_num, rfl, by rw [HS.out, HS2.out, sameL_snoc _ _ _ _ (by rw [List.length_take, List.length_take, HL.out, HM.out]), HR.out, hf]; rfl⟩
          case measure => simp [intOf]; omega
      · obtain rfl : k = n := by omega
        have e1 : L.take k = L := by rw [← hL, List.take_length]
        have e2 : M.take k = M := by rw [← hM, List.take_length]
        rw [e1, e2] at HR
        clear e1 e2
        go_wp2
        go_ret
        exact ⟨_, by rw [HR.out]; rfl, rfl⟩
  · have hf := sameL_len (l := L) (m := M) (by omega)
    have HF := Lib.hid hf
    have hne : ((n : Int) != (m : Int)) = true := by simp; omega
    clear hf
    go_enter Try.func78, Try.ntmps78
    go_wp2
    go_ret
    exact ⟨0, by rw [HF.out]; rfl, rfl⟩

theorem specl01Sum_any (A : Option Addr) (n c : Nat) (L : List Nat) (w : World) (h : FS w A n L) (hn : n ≤ 1048576) :
    Calls Try.prog 65 #[.slice A n c] w fun e w' => ∃ r k, e = .returned (.float .f32 r) ∧ Hid (av .f32 r = sumA (some 0) L) ∧ w' = w.drewN k := by
  have hL := h.1
  go_enter Try.func65, Try.ntmps65
  go_wp2
  go_loopw [3, 4] (fun s i wr => ∃ k q r : Nat, k ≤ n ∧ i = .int .i64 k ∧ s = .float .f32 r ∧ wr = w.drewN q ∧ Hid (av .f32 r = sumA (some 0) (L.take k))) (fun _ i _ => n - (intOf i).toNat)
  case atStart => exact ⟨0, 0, 0, Nat.zero_le _, rfl, rfl, rfl, by show _ = _; rfl⟩
  case round =>
    obtain ⟨k, q, r, hk, rfl, rfl, rfl, hrel⟩ := hrel
    by_cases hlt : k < n
    · obtain ⟨b, off, x, rfl, hb, hc, hx, hs⟩ := h.at_ hlt
      have HX := Lib.hid hx
      have HS := Lib.hid hs
      clear hx hs h hL
      go_wp2_with ((with_reducible apply wpList_farith); rfl; rfl; rfl; intro r n hr)
      go_roundw
      case rel => exact ⟨k + 1, _, _, by omega, by go_num, rfl, rfl, by show _ = _; rw [HS.out, sumA_snoc]; simp only [Hid] at *; simp [*]⟩
      case measure => simp [intOf]; omega
    · obtain rfl : k = n := by omega
      go_wp2
      go_ret
      refine ⟨r, _, rfl, ?_, rfl⟩
      show _ = _
      rw [hrel.out, ← hL, List.take_length]
theorem areNumbers_any (n : Int) (w : World) : Calls Try.prog 66 #[.int .i64 n] w fun e w' => e = .returned (.bool (decide (n ≤ 256))) ∧ w = w' := by
  go_enter Try.func66, Try.ntmps66
  go_wp2
  go_ret
  exact ⟨rfl, rfl⟩
theorem implSum_in (A : Option Addr) (n c : Nat) (L : List Nat) (w : World) (h : FS w A n L) (hn : n ≤ 256) :
    Calls Try.prog 21 #[.slice A n c] w fun e w' => ∃ r k, e = .returned (.tuple #[.float .f32 r, .bool true]) ∧ Hid (av .f32 r = sumA (some 0) L) ∧ w' = w.drewN k := by
  have hL := h.1
  have hd : decide ((n : Int) ≤ 256) = true := decide_eq_true (by omega)
  go_enter Try.func21, Try.ntmps21
  go_wp2_with (go_at_call 66; refine (areNumbers_any _ _).mono ?_; rintro e w' ⟨rfl, rfl⟩)
  go_loopw [4, 13] (fun s i wr => ∃ k q r : Nat, k ≤ n ∧ i = .int .i64 k ∧ s = .float .f32 r ∧ wr = w.drewN q ∧ Hid (av .f32 r = sumA (some 0) (L.take k))) (fun _ i _ => n - (intOf i).toNat)
  case atStart => exact ⟨0, 0, 0, Nat.zero_le _, rfl, rfl, rfl, by show _ = _; rfl⟩
  case round =>
    obtain ⟨k, q, r, hk, rfl, rfl, rfl, hrel⟩ := hrel
    by_cases hlt : k < n
    · obtain ⟨b, off, x, rfl, hb, hc, hx, hs⟩ := h.at_ hlt
      have HX := Lib.hid hx
      have HS := Lib.hid hs
      clear hx hs h hL
      go_wp2_with ((with_reducible apply wpList_farith); rfl; rfl; rfl; intro r n hr)
      go_roundw
      case rel => exact ⟨k + 1, _, _, by omega, by go_num, rfl, rfl, by show _ = _; rw [HS.out, sumA_snoc]; simp only [Hid] at *; simp [*]⟩
      case measure => simp [intOf]; omega
    · obtain rfl : k = n := by omega
      go_wp2
      go_ret2
      refine ⟨r, _, rfl, ?_, rfl⟩
      show _ = _
      rw [hrel.out, ← hL, List.take_length]
theorem implSum_out (A : Option Addr) (n c : Nat) (w : World) (hn : 256 < n) (hn2 : n ≤ 1048576) :
    Calls Try.prog 21 #[.slice A n c] w fun e w' => e = .returned (.tuple #[.float .f32 0, .bool false]) ∧ w = w' := by
  have hd : decide ((n : Int) ≤ 256) = false := decide_eq_false (by omega)
  go_enter Try.func21, Try.ntmps21
  go_wp2_with (go_at_call 66; refine (areNumbers_any _ _).mono ?_; rintro e w' ⟨rfl, rfl⟩)
  go_ret2
  exact ⟨rfl, rfl⟩
end Go.Proofs.Yteodplednmeaaaa
