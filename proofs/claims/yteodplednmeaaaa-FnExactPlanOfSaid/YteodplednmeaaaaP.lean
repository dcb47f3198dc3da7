/- Rows that are valid: what the program's test and the model's compute. -/
import Derived.Test.YteodplednmeaaaaR
import Derived.BigQuiet
import Derived.IntWalk
namespace Go.Proofs.Yteodplednmeaaaa
open Go.RowKit
set_option linter.unusedVariables false
set_option linter.unusedSimpArgs false
attribute [local go_sem] lo_value lo_enter run_store_float

theorem quietD {P : Program} {f : FuncId} {args : Array Value} {w : World} {n : Nat} {v : Value} (h : Calls P f args (w.drewN n) fun e w' => ∃ m, e = .returned v ∧ w' = (w.drewN n).drewN m) : Calls P f args (w.drewN n) fun e w'' => e = .returned v ∧ ∃ m, w'' = w.drewN m :=
  h.mono fun _ _ ⟨m, he, hm⟩ => ⟨he, n + m, by rw [hm, World.drewN_drewN]⟩
theorem quietS {P : Program} {f : FuncId} {args : Array Value} {w : World} {n : Nat} {v : Value} (h : Calls P f args (w.drewN n) fun e w' => e = .returned v ∧ w.drewN n = w') : Calls P f args (w.drewN n) fun e w'' => e = .returned v ∧ ∃ m, w'' = w.drewN m :=
  h.mono fun _ _ ⟨he, hm⟩ => ⟨he, n, hm.symm⟩
theorem quietD2 {P : Program} {f : FuncId} {args : Array Value} {w : World} {a n : Nat} {v : Value} (h : Calls P f args (w.drewN (a + n)) fun e w' => ∃ m, e = .returned v ∧ w' = (w.drewN (a + n)).drewN m) : Calls P f args (w.drewN (a + n)) fun e w'' => e = .returned v ∧ ∃ m, w'' = w.drewN (a + m) :=
  h.mono fun _ _ ⟨m, he, hm⟩ => ⟨he, n + m, by rw [hm, World.drewN_drewN, Nat.add_assoc]⟩

/-- lengths that fit -/
def Shape (v : Int) (n1 n2 n3 : Nat) : Prop := 1 ≤ v ∧ v ≤ 8 ∧ 1 ≤ n2 ∧ n2 ≤ 8 ∧ (n3 : Int) = v ∧ (n1 : Int) = v * n2
instance (v : Int) (n1 n2 n3 : Nat) : Decidable (Shape v n1 n2 n3) := by unfold Shape; infer_instance

theorem within_q {n lo hi : Int} {b : Bool} (h : inR n lo hi = b) (w : World) (k : Nat) : Calls Try.prog 73 #[.int .i64 n, .int .i64 lo, .int .i64 hi] (w.drewN k) fun e w'' => e = .returned (.bool b) ∧ ∃ m, w'' = w.drewN m :=
  quietS (by subst h; exact within_any _ _ _ _)
theorem size_q (n : Int) (w : World) (k : Nat) : Calls Try.prog 74 #[.int .i64 n] (w.drewN k) fun e w'' => e = .returned (.int .i64 n) ∧ ∃ m, w'' = w.drewN m := quietS (size_any _ _)
theorem l00In_q {n lo hi : Int} {b : Bool} (h : inR n lo hi = b) (w : World) (k : Nat) : Calls Try.prog 110 #[.int .i64 n, .int .i64 lo, .int .i64 hi] (w.drewN k) fun e w'' => e = .returned (.bool b) ∧ ∃ m, w'' = w.drewN m :=
  quietS (by subst h; exact l00In_any _ _ _ _)

set_option maxRecDepth 100000 in
theorem implValidRows_out (v : Int) (A1 A2 A3 : Option Addr) (n1 n2 n3 c1 c2 c3 : Nat) (w : World) (b1 : n1 ≤ 1048576) (b2 : n2 ≤ 1048576) (b3 : n3 ≤ 1048576) (h : ¬ Shape v n1 n2 n3) :
    Calls Try.prog 32 #[.agg #[.int .i64 v, .slice A1 n1 c1, .slice A2 n2 c2, .slice A3 n3 c3]] w fun e w' => e = .returned (.bool false) ∧ Below w.heap.size w w' := by
  have HB : Below w.heap.size w (w.alloc (.cells #[.int .i64 v, .slice A1 n1 c1, .slice A2 n2 c2, .slice A3 n3 c3] 36)) := (Below.refl _ _).alloc (Nat.le_refl _) _
  cases hv : inR v 1 8
  · clear h
    go_enter Try.func32, Try.ntmps32
    go_wp2_with fail
    go_big_quiet ((first | (go_at_call 73; exact within_q hv _ _)))
    go_wp2_with fail
    go_ret
    exact ⟨rfl, below_drewN HB _⟩
  · cases hn : inR n2 1 8
    · clear h
      go_enter Try.func32, Try.ntmps32
      go_wp2_with fail
      go_big_quiet ((first | (go_at_call 73; (first | with_reducible exact within_q hv _ _ | with_reducible exact within_q hn _ _)) | (go_at_call 74; with_reducible exact size_q _ _ _)))
      go_wp2_with fail
      go_ret
      exact ⟨rfl, below_drewN HB _⟩
    · have v1 := inR_of hv
      have v2 := inR_of hn
      by_cases e : (n3 : Int) = v
      · have h4 : ¬ (n1 : Int) = v * n2 := fun h4 => h ⟨v1.1, v1.2, by omega, by omega, e, h4⟩
        have hm : v * (n2 : Int) ≤ 8 * 8 := Int.mul_le_mul v1.2 v2.2 (by omega) (by omega)
        have hm0 : 0 ≤ v * (n2 : Int) := Int.mul_nonneg (by omega) (by omega)
        have hw : IntKind.i64.wrap (v * (n2 : Int)) = v * n2 := IntWalk.i64_in _ (by omega)
        have hd : ((n1 : Int) != v * n2) = true := by simpa using h4
        have he : ((n3 : Int) != v) = false := by simpa using e
        clear h e h4 hm hm0
        go_enter Try.func32, Try.ntmps32
        go_wp2_with fail
        go_big_quiet ((first | (go_at_call 73; (first | with_reducible exact within_q hv _ _ | with_reducible exact within_q hn _ _)) | (go_at_call 74; with_reducible exact size_q _ _ _)))
        go_wp2_with fail
        go_ret
        exact ⟨rfl, below_drewN HB _⟩
      · have he : ((n3 : Int) != v) = true := by simpa using e
        clear h e
        go_enter Try.func32, Try.ntmps32
        go_wp2_with fail
        go_big_quiet ((first | (go_at_call 73; (first | with_reducible exact within_q hv _ _ | with_reducible exact within_q hn _ _)) | (go_at_call 74; with_reducible exact size_q _ _ _)))
        go_wp2_with fail
        go_ret
        exact ⟨rfl, below_drewN HB _⟩
/-- not below 0 -/
def posA (a : Option Nat) : Bool := !flt .f32 a (some 0)
/-- at least 0, and finite -/
def leastA (a : Option Nat) : Bool := finA .f32 a && fge .f32 a (some 0)
theorem posA_raw (x : Nat) : posA (av .f32 x) = !(FloatKind.f32.format.order x 0 == some .lt) := by rw [order_ford, av_zero]; rfl
theorem fge_raw (x : Nat) : fge .f32 (av .f32 x) (some 0) = (FloatKind.f32.format.order x 0 == some .gt || FloatKind.f32.format.order x 0 == some .eq) := by rw [order_ford, av_zero]; rfl
theorem leastA_eq (x : Nat) : leastA (av .f32 x) = (finA .f32 (av .f32 x) && posA (av .f32 x)) := by
  unfold leastA
  cases hf : finA .f32 (av .f32 x)
  · rfl
  · rw [fge_raw, posA_raw]
    cases hx : av .f32 x with
    | none => rw [hx] at hf; cases hf
    | some c =>
      obtain ⟨_, hn⟩ := av_some hx
      cases ho : FloatKind.f32.format.order x 0 with
      | none =>
        exfalso
        rcases FT.order_none.1 ho with h | h
        · unfold FloatKind.decode at hn; rw [h] at hn; cases hn
        · revert h; decide
      | some o => cases o <;> rfl
/-- the numbers of rows are good -/
def validB (N B G : List Nat) : Bool := allA posA B && (allA (finA .f32) B && allA (finA .f32) G && allA (finA .f32) N)
theorem allA_and (f g : Option Nat → Bool) (L : List Nat) : allA (fun a => f a && g a) L = (allA f L && allA g L) := by
  unfold allA
  induction L with
  | nil => rfl
  | cons x l ih => simp only [List.all_cons, ih]; cases f (av .f32 x) <;> cases g (av .f32 x) <;> simp
theorem allA_least (L : List Nat) : allA leastA L = (allA (finA .f32) L && allA posA L) := by
  rw [← allA_and]
  unfold allA
  congr 1
  funext x
  exact leastA_eq x

theorem mul8 {v : Int} {n : Nat} (h1 : 1 ≤ v) (h2 : v ≤ 8) (h3 : 1 ≤ n) (h4 : n ≤ 8) : IntKind.i64.wrap (v * (n : Int)) = v * n := by
  have hm : v * (n : Int) ≤ 8 * 8 := Int.mul_le_mul h2 (by omega) (by omega) (by omega)
  have hm0 : 0 ≤ v * (n : Int) := Int.mul_nonneg (by omega) (by omega)
  exact IntWalk.i64_in _ (by omega)
set_option maxRecDepth 100000 in
theorem implValidRows_in (v : Int) (A1 A2 A3 : Option Addr) (n1 n2 n3 c1 c2 c3 : Nat) (N B G : List Nat) (w : World) (h1 : FS w A1 n1 N) (h2 : FS w A2 n2 B) (h3 : FS w A3 n3 G) (b1 : n1 ≤ 1048576) (b2 : n2 ≤ 1048576) (b3 : n3 ≤ 1048576) (h : Shape v n1 n2 n3) :
    Calls Try.prog 32 #[.agg #[.int .i64 v, .slice A1 n1 c1, .slice A2 n2 c2, .slice A3 n3 c3]] w fun e w' => e = .returned (.bool (validB N B G)) ∧ Below w.heap.size w w' := by
  have HB : Below w.heap.size w (w.alloc (.cells #[.int .i64 v, .slice A1 n1 c1, .slice A2 n2 c2, .slice A3 n3 c3] 36)) := (Below.refl _ _).alloc (Nat.le_refl _) _
  obtain ⟨s1, s2, s3, s4, s5, s6⟩ := h
  have hv : inR v 1 8 = true := inR_true s1 s2
  have hn : inR n2 1 8 = true := inR_true (by omega) (by omega)
  have hw := mul8 s1 s2 s3 s4
  have hd : ((n1 : Int) != v * n2) = false := by simpa using s6
  have he : ((n3 : Int) != v) = false := by simpa using s5
  have k1 := h1.below HB
  have k2 := h2.below HB
  have k3 := h3.below HB
  have hL := h2.1
  clear s1 s2 s5 s6
  go_enter Try.func32, Try.ntmps32
  go_wp2_with fail
  go_big_quiet ((first | (go_at_call 73; (first | with_reducible exact within_q hv _ _ | with_reducible exact within_q hn _ _)) | (go_at_call 74; with_reducible exact size_q _ _ _)))
  clear hv hn hw hd he
  go_wp2_with fail
  go_loopw [43] (fun i wr => ∃ k m : Nat, k ≤ n2 ∧ i = .int .i64 k ∧ wr = (w.alloc (.cells #[.int .i64 v, .slice A1 n1 c1, .slice A2 n2 c2, .slice A3 n3 c3] 36)).drewN m ∧ allA posA (B.take k) = true) (fun i _ => n2 - (intOf i).toNat)
  case atStart => exact ⟨0, _, Nat.zero_le _, rfl, rfl, rfl⟩
  case round =>
    obtain ⟨k, m, hk, rfl, rfl, hrel⟩ := hrel
    have HR := Lib.hid hrel
    clear hrel
    by_cases hlt : k < n2
    · obtain ⟨b, off, x, rfl, hb, hc, hx, hs⟩ := k2.at_ hlt
      have HX := Lib.hid hx
      have HS := Lib.hid hs
      clear hx hs h2 hL k1 k3 h1 h3
      cases hf : (FloatKind.f32.format.order x 0 == some .lt)
      · have HF : Hid (posA (av .f32 x) = true) := by show _ = _; rw [posA_raw, hf]; rfl
        go_wp2_with fail
        go_roundw
        case rel => exact ⟨k + 1, _, by omega, by go_num, rfl, by rw [HS.out, allA_snoc, HR.out, HF.out]; rfl⟩
        case measure => simp [intOf]; omega
      · have HF : Hid (posA (av .f32 x) = false) := by show _ = _; rw [posA_raw, hf]; rfl
        go_wp2_with fail
        go_ret
        exact ⟨ret_bool (by unfold validB; rw [allA_false HX.out HF.out]; rfl), below_drewN HB _⟩
    · obtain rfl : k = n2 := by omega
      rw [← hL, List.take_length] at HR
      have HV : Hid (validB N B G = (allA (finA .f32) B && allA (finA .f32) G && allA (finA .f32) N)) := by show _ = _; unfold validB; rw [HR.out]; rfl
      clear HR
      cases hB : allA (finA .f32) B
      · go_wp2_with fail
        refine (implareFinite_any A2 k c2 B _ (k2.drewN _) b2).mono ?_
        rintro e wx ⟨m1, rfl, rfl⟩
        rw [hB]
        go_wp2_with fail
        go_ret
        exact ⟨ret_bool (by rw [HV.out, hB]; rfl), below_drewN HB _⟩
      · cases hG : allA (finA .f32) G
        · go_wp2_with fail
          refine (implareFinite_any A2 k c2 B _ (k2.drewN _) b2).mono ?_
          rintro e wx ⟨m1, rfl, rfl⟩
          rw [hB]
          go_wp2_with fail
          refine (implareFinite_any A3 n3 c3 G _ (k3.drewN _) b3).mono ?_
          rintro e wx ⟨m2, rfl, rfl⟩
          rw [hG]
          go_wp2_with fail
          go_ret
          exact ⟨ret_bool (by rw [HV.out, hB, hG]; rfl), below_drewN HB _⟩
        · go_wp2_with fail
          refine (implareFinite_any A2 k c2 B _ (k2.drewN _) b2).mono ?_
          rintro e wx ⟨m1, rfl, rfl⟩
          rw [hB]
          go_wp2_with fail
          refine (implareFinite_any A3 n3 c3 G _ (k3.drewN _) b3).mono ?_
          rintro e wx ⟨m2, rfl, rfl⟩
          rw [hG]
          go_wp2_with fail
          refine (implareFinite_any A1 n1 c1 N _ (k1.drewN _) b1).mono ?_
          rintro e wx ⟨m3, rfl, rfl⟩
          go_wp2_with fail
          go_ret
          exact ⟨ret_bool (by rw [HV.out, hB, hG]; rfl), below_drewN HB _⟩
theorem l02Least_any (x : Nat) (w : World) : Calls Try.prog 91 #[.float .f32 x] w fun e w' => ∃ m, e = .returned (.bool (leastA (av .f32 x))) ∧ w' = w.drewN m := by
  cases hf : finA .f32 (av .f32 x)
  · have H : Hid (leastA (av .f32 x) = false) := by show _ = _; unfold leastA; rw [hf]; rfl
    go_enter Try.func91, Try.ntmps91
    go_wp2_with fail
    refine (specl01Finite_any _ _).mono ?_
    rintro e wx ⟨m1, rfl, rfl⟩
    rw [hf]
    go_wp2_with fail
    go_ret
    exact ⟨_, by rw [H.out]; rfl, rfl⟩
  · have H : Hid (leastA (av .f32 x) = (FloatKind.f32.format.order x 0 == some .gt || FloatKind.f32.format.order x 0 == some .eq)) := by show _ = _; unfold leastA; rw [hf, fge_raw]; rfl
    go_enter Try.func91, Try.ntmps91
    go_wp2_with fail
    refine (specl01Finite_any _ _).mono ?_
    rintro e wx ⟨m1, rfl, rfl⟩
    rw [hf]
    go_wp2_with fail
    go_ret
    exact ⟨_, by rw [H.out]; rfl, rfl⟩
theorem l02Finite_q {A : Option Addr} {n c : Nat} {L : List Nat} {b : Bool} {w : World} (h : FS w A n L) (hn : n ≤ 1048576) (hb : allA (finA .f32) L = b) (k : Nat) : Calls Try.prog 111 #[.slice A n c] (w.drewN k) fun e w'' => e = .returned (.bool b) ∧ ∃ m, w'' = w.drewN m :=
  quietD (by subst hb; exact specl02Finite_any _ _ _ _ _ (h.drewN k) hn)
theorem l02Finite_q2 {A : Option Addr} {n c : Nat} {L : List Nat} {b : Bool} {w : World} (h : FS w A n L) (hn : n ≤ 1048576) (hb : allA (finA .f32) L = b) (a k : Nat) : Calls Try.prog 111 #[.slice A n c] (w.drewN (a + k)) fun e w'' => e = .returned (.bool b) ∧ ∃ m, w'' = w.drewN (a + m) :=
  quietD2 (by subst hb; exact specl02Finite_any _ _ _ _ _ (h.drewN (a + k)) hn)
set_option maxRecDepth 100000 in
theorem l02Is_out (p : Nat) (v : Int) (A1 A2 A3 : Option Addr) (n1 n2 n3 c1 c2 c3 : Nat) (w : World) (hr : Row w p 36 #[.int .i64 v, .slice A1 n1 c1, .slice A2 n2 c2, .slice A3 n3 c3]) (b1 : n1 ≤ 1048576) (b2 : n2 ≤ 1048576) (b3 : n3 ≤ 1048576) (h : ¬ Shape v n1 n2 n3) :
    Calls Try.prog 72 #[.pointer (some ⟨p, 0, none⟩)] w fun e w' => ∃ m, e = .returned (.bool false) ∧ w' = w.drewN m := by
  have q0 : w.cell? ⟨p, 0, none⟩ = some (.int .i64 v) := hr.cell 0
  have q1 : w.cell? ⟨p, 1, none⟩ = some (.slice A1 n1 c1) := hr.cell 1
  have q2 : w.cell? ⟨p, 2, none⟩ = some (.slice A2 n2 c2) := hr.cell 2
  have q3 : w.cell? ⟨p, 3, none⟩ = some (.slice A3 n3 c3) := hr.cell 3
  clear hr
  cases hv : inR v 1 8
  · clear h
    go_enter Try.func72, Try.ntmps72
    go_wp2_with fail
    go_big_quiet ((first | (go_at_call 110; with_reducible exact l00In_q hv _ _)))
    go_wp2_with fail
    go_ret
    exact ⟨_, rfl, rfl⟩
  have v1 := inR_of hv
  by_cases g1 : (n2 : Int) < 1
  · have hd := decide_eq_true g1
    clear h g1
    go_enter Try.func72, Try.ntmps72
    go_wp2_with fail
    go_big_quiet ((first | (go_at_call 110; with_reducible exact l00In_q hv _ _)))
    go_wp2_with fail
    go_ret
    exact ⟨_, rfl, rfl⟩
  have d1 := decide_eq_false g1
  by_cases g2 : (8 : Int) < n2
  · have hd := decide_eq_true g2
    clear h g1 g2
    go_enter Try.func72, Try.ntmps72
    go_wp2_with fail
    go_big_quiet ((first | (go_at_call 110; with_reducible exact l00In_q hv _ _)))
    go_wp2_with fail
    go_ret
    exact ⟨_, rfl, rfl⟩
  have d2 := decide_eq_false g2
  by_cases g3 : (n3 : Int) = v
  · have h4 : ¬ (n1 : Int) = v * n2 := fun h4 => h ⟨v1.1, v1.2, by omega, by omega, g3, h4⟩
    have hw := mul8 v1.1 v1.2 (n := n2) (by omega) (by omega)
    have hd : ((n1 : Int) != v * n2) = true := by simpa using h4
    have he : ((n3 : Int) != v) = false := by simpa using g3
    clear h g1 g2 g3 h4 v1
    go_enter Try.func72, Try.ntmps72
    go_wp2_with fail
    go_big_quiet ((first | (go_at_call 110; with_reducible exact l00In_q hv _ _)))
    go_wp2_with fail
    go_big_quiet (fail)
    go_wp2_with fail
    go_ret
    exact ⟨_, rfl, World.drewN_drewN _ _ _⟩
  · have he : ((n3 : Int) != v) = true := by simpa using g3
    clear h g1 g2 g3 v1
    go_enter Try.func72, Try.ntmps72
    go_wp2_with fail
    go_big_quiet ((first | (go_at_call 110; with_reducible exact l00In_q hv _ _)))
    go_wp2_with fail
    go_ret
    exact ⟨_, rfl, rfl⟩

set_option maxRecDepth 100000 in
theorem l02Is_in (p : Nat) (v : Int) (A1 A2 A3 : Option Addr) (n1 n2 n3 c1 c2 c3 : Nat) (N B G : List Nat) (w : World) (hr : Row w p 36 #[.int .i64 v, .slice A1 n1 c1, .slice A2 n2 c2, .slice A3 n3 c3]) (h1 : FS w A1 n1 N) (h2 : FS w A2 n2 B) (h3 : FS w A3 n3 G) (b1 : n1 ≤ 1048576) (b2 : n2 ≤ 1048576) (b3 : n3 ≤ 1048576) (h : Shape v n1 n2 n3) :
    Calls Try.prog 72 #[.pointer (some ⟨p, 0, none⟩)] w fun e w' => ∃ m, e = .returned (.bool (validB N B G)) ∧ w' = w.drewN m := by
  have q0 : w.cell? ⟨p, 0, none⟩ = some (.int .i64 v) := hr.cell 0
  have q1 : w.cell? ⟨p, 1, none⟩ = some (.slice A1 n1 c1) := hr.cell 1
  have q2 : w.cell? ⟨p, 2, none⟩ = some (.slice A2 n2 c2) := hr.cell 2
  have q3 : w.cell? ⟨p, 3, none⟩ = some (.slice A3 n3 c3) := hr.cell 3
  clear hr
  obtain ⟨s1, s2, s3, s4, s5, s6⟩ := h
  have hL := h2.1
  have hv : inR v 1 8 = true := inR_true s1 s2
  have d1 : decide ((n2 : Int) < 1) = false := decide_eq_false (by omega)
  have d2 : decide ((8 : Int) < n2) = false := decide_eq_false (by omega)
  have hw := mul8 s1 s2 s3 s4
  have hd : ((n1 : Int) != v * n2) = false := by simpa using s6
  have he : ((n3 : Int) != v) = false := by simpa using s5
  clear s1 s2 s5 s6
  have HV : Hid (validB N B G = (allA (finA .f32) N && allA (finA .f32) G && allA leastA B)) := by
    show _ = _
    rw [allA_least]
    unfold validB
    cases allA posA B <;> cases allA (finA .f32) B <;> cases allA (finA .f32) G <;> cases allA (finA .f32) N <;> rfl
  cases hN : allA (finA .f32) N
  · go_enter Try.func72, Try.ntmps72
    go_wp2_with fail
    go_big_quiet ((first | (go_at_call 110; with_reducible exact l00In_q hv _ _)))
    go_wp2_with fail
    go_big_quiet ((go_at_call 111; with_reducible exact l02Finite_q2 h1 b1 hN _ _))
    go_wp2_with fail
    go_ret
    exact ⟨_, by rw [HV.out, hN]; rfl, World.drewN_drewN _ _ _⟩
  cases hG : allA (finA .f32) G
  · go_enter Try.func72, Try.ntmps72
    go_wp2_with fail
    go_big_quiet ((first | (go_at_call 110; with_reducible exact l00In_q hv _ _)))
    go_wp2_with fail
    go_big_quiet ((go_at_call 111; (first | with_reducible exact l02Finite_q2 h1 b1 hN _ _ | with_reducible exact l02Finite_q2 h3 b3 hG _ _)))
    go_wp2_with fail
    go_ret
    exact ⟨_, by rw [HV.out, hN, hG]; rfl, World.drewN_drewN _ _ _⟩
  rw [hN, hG] at HV
  go_enter Try.func72, Try.ntmps72
  go_wp2_with fail
  go_big_quiet ((first | (go_at_call 110; with_reducible exact l00In_q hv _ _)))
  go_wp2_with fail
  go_big_quiet ((go_at_call 111; (first | with_reducible exact l02Finite_q2 h1 b1 hN _ _ | with_reducible exact l02Finite_q2 h3 b3 hG _ _)))
  clear hv d1 d2 hw hd he hN hG
  go_wp2_with fail
  go_loopw [3] (fun i wr => ∃ k m : Nat, k ≤ n2 ∧ i = .int .i64 k ∧ wr = w.drewN m ∧ allA leastA (B.take k) = true) (fun i _ => n2 - (intOf i).toNat)
  case atStart => exact ⟨0, _, Nat.zero_le _, rfl, World.drewN_drewN _ _ _, rfl⟩
  case round =>
    obtain ⟨k, m, hk, rfl, rfl, hrel⟩ := hrel
    have HR := Lib.hid hrel
    clear hrel
    by_cases hlt : k < n2
    · obtain ⟨b, off, x, rfl, hb, hc, hx, hs⟩ := h2.at_ hlt
      have HX := Lib.hid hx
      have HS := Lib.hid hs
      clear hx hs hL h1 h3
      cases hf : leastA (av .f32 x)
      · go_wp2_with fail
        refine (l02Least_any _ _).mono ?_
        rintro e wx ⟨m1, rfl, rfl⟩
        rw [hf]
        go_wp2_with fail
        go_ret
        exact ⟨_, by rw [HV.out, allA_false HX.out hf]; rfl, rfl⟩
      · go_wp2_with fail
        refine (l02Least_any _ _).mono ?_
        rintro e wx ⟨m1, rfl, rfl⟩
        rw [hf]
        go_wp2_with fail
        go_roundw
        case rel => exact ⟨k + 1, _, by omega, by go_num, rfl, by rw [HS.out, allA_snoc, HR.out, hf]; rfl⟩
        case measure => simp [intOf]; omega
    · obtain rfl : k = n2 := by omega
      rw [← hL, List.take_length] at HR
      go_wp2_with fail
      go_ret
      exact ⟨_, by rw [HV.out, HR.out]; rfl, rfl⟩
/-- rows that are valid -/
def validV (v : Int) (n1 n2 n3 : Nat) (N B G : List Nat) : Bool := decide (Shape v n1 n2 n3) && validB N B G
theorem implValidRows_any (v : Int) (A1 A2 A3 : Option Addr) (n1 n2 n3 c1 c2 c3 : Nat) (N B G : List Nat) (w : World) (h1 : FS w A1 n1 N) (h2 : FS w A2 n2 B) (h3 : FS w A3 n3 G) (b1 : n1 ≤ 1048576) (b2 : n2 ≤ 1048576) (b3 : n3 ≤ 1048576) :
    Calls Try.prog 32 #[.agg #[.int .i64 v, .slice A1 n1 c1, .slice A2 n2 c2, .slice A3 n3 c3]] w fun e w' => e = .returned (.bool (validV v n1 n2 n3 N B G)) ∧ Below w.heap.size w w' := by
  unfold validV
  by_cases h : Shape v n1 n2 n3
  · rw [decide_eq_true h, Bool.true_and]; exact implValidRows_in v A1 A2 A3 n1 n2 n3 c1 c2 c3 N B G w h1 h2 h3 b1 b2 b3 h
  · rw [decide_eq_false h, Bool.false_and]; exact implValidRows_out v A1 A2 A3 n1 n2 n3 c1 c2 c3 w b1 b2 b3 h
theorem l02Is_any (p : Nat) (v : Int) (A1 A2 A3 : Option Addr) (n1 n2 n3 c1 c2 c3 : Nat) (N B G : List Nat) (w : World) (hr : Row w p 36 #[.int .i64 v, .slice A1 n1 c1, .slice A2 n2 c2, .slice A3 n3 c3]) (h1 : FS w A1 n1 N) (h2 : FS w A2 n2 B) (h3 : FS w A3 n3 G) (b1 : n1 ≤ 1048576) (b2 : n2 ≤ 1048576) (b3 : n3 ≤ 1048576) :
    Calls Try.prog 72 #[.pointer (some ⟨p, 0, none⟩)] w fun e w' => ∃ m, e = .returned (.bool (validV v n1 n2 n3 N B G)) ∧ w' = w.drewN m := by
  unfold validV
  by_cases h : Shape v n1 n2 n3
  · rw [decide_eq_true h, Bool.true_and]; exact l02Is_in p v A1 A2 A3 n1 n2 n3 c1 c2 c3 N B G w hr h1 h2 h3 b1 b2 b3 h
  · rw [decide_eq_false h, Bool.false_and]; exact l02Is_out p v A1 A2 A3 n1 n2 n3 c1 c2 c3 w hr b1 b2 b3 h
theorem specValidRows_any (v : Int) (A1 A2 A3 : Option Addr) (n1 n2 n3 c1 c2 c3 : Nat) (N B G : List Nat) (w : World) (h1 : FS w A1 n1 N) (h2 : FS w A2 n2 B) (h3 : FS w A3 n3 G) (b1 : n1 ≤ 1048576) (b2 : n2 ≤ 1048576) (b3 : n3 ≤ 1048576) :
    Calls Try.prog 31 #[.agg #[.int .i64 v, .slice A1 n1 c1, .slice A2 n2 c2, .slice A3 n3 c3]] w fun e w' => e = .returned (.bool (validV v n1 n2 n3 N B G)) ∧ Below w.heap.size w w' := by
  have HB : Below w.heap.size w (w.alloc (.cells #[.int .i64 v, .slice A1 n1 c1, .slice A2 n2 c2, .slice A3 n3 c3] 36)) := (Below.refl _ _).alloc (Nat.le_refl _) _
  have HR := Row.new w 36 #[.int .i64 v, .slice A1 n1 c1, .slice A2 n2 c2, .slice A3 n3 c3]
  go_enter Try.func31, Try.ntmps31
  go_wp2_with fail
  refine (l02Is_any w.heap.size v A1 A2 A3 n1 n2 n3 c1 c2 c3 N B G _ HR (h1.below HB) (h2.below HB) (h3.below HB) b1 b2 b3).mono ?_
  rintro e wx ⟨m1, rfl, rfl⟩
  go_wp2_with fail
  go_ret
  exact ⟨rfl, below_drewN HB _⟩
end Go.Proofs.Yteodplednmeaaaa
