/- Gains of plans: what the program and the model compute. -/
import Derived.Test.YteodplednmeaaaaP
namespace Go.Proofs.Yteodplednmeaaaa
open Go.RowKit
set_option linter.unusedVariables false
set_option linter.unusedSimpArgs false
attribute [local go_sem] lo_value lo_enter run_store_float

/-- a list that is as long, and finite -/
def asLong (v : Int) (m : Nat) (M : List Nat) : Bool := ((m : Int) == v) && allA (finA .f32) M
/-- rows that are valid, and a plan of them -/
def fitV (v : Int) (n1 n2 n3 : Nat) (N B G : List Nat) (m : Nat) (M : List Nat) : Bool := validV v n1 n2 n3 N B G && asLong v m M
def gainV (v : Int) (n1 n2 n3 : Nat) (N B G : List Nat) (m : Nat) (M : List Nat) : Bool := fitV v n1 n2 n3 N B G m M && finA .f32 (dotA (some 0) G M)
def gainA (v : Int) (n1 n2 n3 : Nat) (N B G : List Nat) (m : Nat) (M : List Nat) : Option Nat := bif gainV v n1 n2 n3 N B G m M then dotA (some 0) G M else some 0

theorem fit_len {v : Int} {n1 n2 n3 : Nat} {N B G : List Nat} {m : Nat} {M : List Nat} (h : fitV v n1 n2 n3 N B G m M = true) : n3 = m ∧ Shape v n1 n2 n3 := by
  simp only [fitV, validV, asLong, Bool.and_eq_true, decide_eq_true_eq, beq_iff_eq] at h
  obtain ⟨⟨h1, _⟩, h2, _⟩ := h
  have := h1.2.2.2.2.1
  exact ⟨by omega, h1⟩

set_option maxRecDepth 100000 in
theorem l02Fit_any (p : Nat) (v : Int) (A1 A2 A3 : Option Addr) (n1 n2 n3 c1 c2 c3 : Nat) (N B G : List Nat) (X : Option Addr) (m d : Nat) (M : List Nat) (w : World) (hr : Row w p 36 #[.int .i64 v, .slice A1 n1 c1, .slice A2 n2 c2, .slice A3 n3 c3]) (h1 : FS w A1 n1 N) (h2 : FS w A2 n2 B) (h3 : FS w A3 n3 G) (b1 : n1 ≤ 1048576) (b2 : n2 ≤ 1048576) (b3 : n3 ≤ 1048576) (hx : FS w X m M) (bm : m ≤ 1048576) :
    Calls Try.prog 85 #[.pointer (some ⟨p, 0, none⟩), .slice X m d] w fun e w' => ∃ k, e = .returned (.bool (fitV v n1 n2 n3 N B G m M)) ∧ w' = w.drewN k := by
  have q0 : w.cell? ⟨p, 0, none⟩ = some (.int .i64 v) := hr.cell 0
  have q1 : w.cell? ⟨p, 1, none⟩ = some (.slice A1 n1 c1) := hr.cell 1
  have q2 : w.cell? ⟨p, 2, none⟩ = some (.slice A2 n2 c2) := hr.cell 2
  have q3 : w.cell? ⟨p, 3, none⟩ = some (.slice A3 n3 c3) := hr.cell 3
  cases hv : validV v n1 n2 n3 N B G
  · have H : Hid (fitV v n1 n2 n3 N B G m M = false) := by show _ = _; rw [fitV, hv]; rfl
    go_enter Try.func85, Try.ntmps85
    go_wp2_with fail
    refine (l02Is_any p v A1 A2 A3 n1 n2 n3 c1 c2 c3 N B G _ hr h1 h2 h3 b1 b2 b3).mono ?_
    rintro e wx ⟨m1, rfl, rfl⟩
    rw [hv]
    go_wp2_with fail
    go_ret
    exact ⟨_, by rw [H.out]; rfl, rfl⟩
  cases hm : ((m : Int) == v)
  · have H : Hid (fitV v n1 n2 n3 N B G m M = false) := by show _ = _; rw [fitV, hv, asLong, hm]; rfl
    go_enter Try.func85, Try.ntmps85
    go_wp2_with fail
    refine (l02Is_any p v A1 A2 A3 n1 n2 n3 c1 c2 c3 N B G _ hr h1 h2 h3 b1 b2 b3).mono ?_
    rintro e wx ⟨m1, rfl, rfl⟩
    rw [hv]
    go_wp2_with fail
    go_ret
    exact ⟨_, by rw [H.out]; rfl, rfl⟩
  · have H : Hid (fitV v n1 n2 n3 N B G m M = allA (finA .f32) M) := by show _ = _; rw [fitV, hv, asLong, hm]; rfl
    go_enter Try.func85, Try.ntmps85
    go_wp2_with fail
    refine (l02Is_any p v A1 A2 A3 n1 n2 n3 c1 c2 c3 N B G _ hr h1 h2 h3 b1 b2 b3).mono ?_
    rintro e wx ⟨m1, rfl, rfl⟩
    rw [hv]
    go_wp2_with fail
    refine (specl02Finite_any X m d M _ (hx.drewN _) bm).mono ?_
    rintro e wx ⟨m2, rfl, rfl⟩
    go_wp2_with fail
    go_ret
    exact ⟨_, by rw [H.out]; rfl, rfl⟩
theorem l02Number_fin (x : Nat) (w : World) (h : finA .f32 (av .f32 x) = true) : Calls Try.prog 86 #[.float .f32 x] w fun e w' => ∃ k, e = .returned (.tuple #[.float .f32 x, .bool true]) ∧ w' = w.drewN k := by
  go_enter Try.func86, Try.ntmps86
  go_wp2_with fail
  refine (specl01Finite_any _ _).mono ?_
  rintro e wx ⟨m1, rfl, rfl⟩
  rw [h]
  go_wp2_with fail
  go_ret2
  exact ⟨_, rfl, rfl⟩
theorem l02Number_not (x : Nat) (w : World) (h : finA .f32 (av .f32 x) = false) : Calls Try.prog 86 #[.float .f32 x] w fun e w' => ∃ k, e = .returned (.tuple #[.float .f32 0, .bool false]) ∧ w' = w.drewN k := by
  go_enter Try.func86, Try.ntmps86
  go_wp2_with fail
  refine (specl01Finite_any _ _).mono ?_
  rintro e wx ⟨m1, rfl, rfl⟩
  rw [h]
  go_wp2_with fail
  go_ret2
  exact ⟨_, rfl, rfl⟩
set_option maxRecDepth 100000 in
theorem specGainOf_any (v : Int) (A1 A2 A3 : Option Addr) (n1 n2 n3 c1 c2 c3 : Nat) (N B G : List Nat) (X : Option Addr) (m d : Nat) (M : List Nat) (w : World) (h1 : FS w A1 n1 N) (h2 : FS w A2 n2 B) (h3 : FS w A3 n3 G) (b1 : n1 ≤ 1048576) (b2 : n2 ≤ 1048576) (b3 : n3 ≤ 1048576) (hx : FS w X m M) (bm : m ≤ 1048576) :
    Calls Try.prog 40 #[.agg #[.int .i64 v, .slice A1 n1 c1, .slice A2 n2 c2, .slice A3 n3 c3], .slice X m d] w fun e w' => ∃ r, e = .returned (.tuple #[.float .f32 r, .bool (gainV v n1 n2 n3 N B G m M)]) ∧ Hid (av .f32 r = gainA v n1 n2 n3 N B G m M) ∧ Below w.heap.size w w' := by
  have HB : Below w.heap.size w (w.alloc (.cells #[.int .i64 v, .slice A1 n1 c1, .slice A2 n2 c2, .slice A3 n3 c3] 36)) := (Below.refl _ _).alloc (Nat.le_refl _) _
  have HR := Row.new w 36 #[.int .i64 v, .slice A1 n1 c1, .slice A2 n2 c2, .slice A3 n3 c3]
  have k1 := h1.below HB
  have k2 := h2.below HB
  have k3 := h3.below HB
  have kx := hx.below HB
  have hfl := @fit_len v n1 n2 n3 N B G m M
  cases hf : fitV v n1 n2 n3 N B G m M
  · have H : Hid (gainV v n1 n2 n3 N B G m M = false) := by show _ = _; rw [gainV, hf]; rfl
    clear hfl
    go_enter Try.func40, Try.ntmps40
    go_wp2_with fail
    refine (l02Fit_any w.heap.size v A1 A2 A3 n1 n2 n3 c1 c2 c3 N B G X m d M _ HR k1 k2 k3 b1 b2 b3 kx bm).mono ?_
    rintro e wx ⟨q1, rfl, rfl⟩
    rw [hf]
    go_wp2_with fail
    go_ret2
    exact ⟨0, by rw [H.out]; rfl, by show _ = _; rw [gainA, H.out, av_zero]; rfl, below_drewN HB _⟩
  · have hl : n3 ≤ m := Nat.le_of_eq (hfl hf).1
    clear hfl
    cases hd : finA .f32 (dotA (some 0) G M)
    · have H : Hid (gainV v n1 n2 n3 N B G m M = false) := by show _ = _; rw [gainV, hf, hd]; rfl
      go_enter Try.func40, Try.ntmps40
      go_wp2_with fail
      refine (l02Fit_any w.heap.size v A1 A2 A3 n1 n2 n3 c1 c2 c3 N B G X m d M _ HR k1 k2 k3 b1 b2 b3 kx bm).mono ?_
      rintro e wx ⟨q1, rfl, rfl⟩
      rw [hf]
      go_wp2_with fail
      refine (specl02Dot_any A3 X n3 m c3 d G M _ (k3.drewN _) (kx.drewN _) b3 hl bm).mono ?_
      rintro e wx ⟨r, q2, rfl, hr, rfl⟩
      go_wp2_with fail
      refine (l02Number_not r _ (by rw [hr.out]; exact hd)).mono ?_
      rintro e wx ⟨q3, rfl, rfl⟩
      go_wp2_with fail
      go_ret2
      exact ⟨0, by rw [H.out]; rfl, by show _ = _; rw [gainA, H.out, av_zero]; rfl, below_drewN HB _⟩
    · have H : Hid (gainV v n1 n2 n3 N B G m M = true) := by show _ = _; rw [gainV, hf, hd]; rfl
      go_enter Try.func40, Try.ntmps40
      go_wp2_with fail
      refine (l02Fit_any w.heap.size v A1 A2 A3 n1 n2 n3 c1 c2 c3 N B G X m d M _ HR k1 k2 k3 b1 b2 b3 kx bm).mono ?_
      rintro e wx ⟨q1, rfl, rfl⟩
      rw [hf]
      go_wp2_with fail
      refine (specl02Dot_any A3 X n3 m c3 d G M _ (k3.drewN _) (kx.drewN _) b3 hl bm).mono ?_
      rintro e wx ⟨r, q2, rfl, hr, rfl⟩
      go_wp2_with fail
      refine (l02Number_fin r _ (by rw [hr.out]; exact hd)).mono ?_
      rintro e wx ⟨q3, rfl, rfl⟩
      go_wp2_with fail
      go_ret2
      exact ⟨r, by rw [H.out]; rfl, by show _ = _; rw [gainA, H.out, hr.out]; rfl, below_drewN HB _⟩

theorem areFinite_q {A : Option Addr} {n c : Nat} {L : List Nat} {b : Bool} {w : World} (h : FS w A n L) (hn : n ≤ 1048576) (hb : allA (finA .f32) L = b) (k : Nat) : Calls Try.prog 75 #[.slice A n c] (w.drewN k) fun e w'' => e = .returned (.bool b) ∧ ∃ m, w'' = w.drewN m :=
  quietD (by subst hb; exact implareFinite_any _ _ _ _ _ (h.drewN k) hn)
set_option maxRecDepth 100000 in
theorem isX_any (v : Int) (A1 A2 A3 : Option Addr) (n1 n2 n3 c1 c2 c3 : Nat) (X : Option Addr) (m d : Nat) (M : List Nat) (w : World) (hx : FS w X m M) (bm : m ≤ 1048576) :
    Calls Try.prog 88 #[.agg #[.int .i64 v, .slice A1 n1 c1, .slice A2 n2 c2, .slice A3 n3 c3], .slice X m d] w fun e w' => e = .returned (.bool (asLong v m M)) ∧ Below w.heap.size w w' := by
  have HB : Below w.heap.size w (w.alloc (.cells #[.int .i64 v, .slice A1 n1 c1, .slice A2 n2 c2, .slice A3 n3 c3] 36)) := (Below.refl _ _).alloc (Nat.le_refl _) _
  have kx := hx.below HB
  cases hm : ((m : Int) == v)
  · have H : Hid (asLong v m M = false) := by show _ = _; rw [asLong, hm]; rfl
    go_enter Try.func88, Try.ntmps88
    go_wp2_with fail
    go_big_quiet ((go_at_call 74; with_reducible exact size_q _ _ _))
    go_wp2_with fail
    go_ret
    exact ⟨by rw [H.out]; rfl, below_drewN HB _⟩
  · cases ha : allA (finA .f32) M
    · have H : Hid (asLong v m M = false) := by show _ = _; rw [asLong, hm, ha]; rfl
      go_enter Try.func88, Try.ntmps88
      go_wp2_with fail
      go_big_quiet ((first | (go_at_call 74; with_reducible exact size_q _ _ _) | (go_at_call 75; with_reducible exact areFinite_q kx bm ha _)))
      go_wp2_with fail
      go_ret
      exact ⟨by rw [H.out]; rfl, below_drewN HB _⟩
    · have H : Hid (asLong v m M = true) := by show _ = _; rw [asLong, hm, ha]; rfl
      go_enter Try.func88, Try.ntmps88
      go_wp2_with fail
      go_big_quiet ((first | (go_at_call 74; with_reducible exact size_q _ _ _) | (go_at_call 75; with_reducible exact areFinite_q kx bm ha _)))
      go_wp2_with fail
      go_ret
      exact ⟨by rw [H.out]; rfl, below_drewN HB _⟩
set_option maxHeartbeats 1000000 in
set_option maxRecDepth 100000 in
theorem implGainOf_any (v : Int) (A1 A2 A3 : Option Addr) (n1 n2 n3 c1 c2 c3 : Nat) (N B G : List Nat) (X : Option Addr) (m d : Nat) (M : List Nat) (w : World) (h1 : FS w A1 n1 N) (h2 : FS w A2 n2 B) (h3 : FS w A3 n3 G) (b1 : n1 ≤ 1048576) (b2 : n2 ≤ 1048576) (b3 : n3 ≤ 1048576) (hx : FS w X m M) (bm : m ≤ 1048576) :
    Calls Try.prog 41 #[.agg #[.int .i64 v, .slice A1 n1 c1, .slice A2 n2 c2, .slice A3 n3 c3], .slice X m d] w fun e w' => ∃ r, e = .returned (.tuple #[.float .f32 r, .bool (gainV v n1 n2 n3 N B G m M)]) ∧ Hid (av .f32 r = gainA v n1 n2 n3 N B G m M) ∧ Below w.heap.size w w' := by
  have HB : Below w.heap.size w (w.alloc (.cells #[.int .i64 v, .slice A1 n1 c1, .slice A2 n2 c2, .slice A3 n3 c3] 36)) := (Below.refl _ _).alloc (Nat.le_refl _) _
  have HR := Row.new w 36 #[.int .i64 v, .slice A1 n1 c1, .slice A2 n2 c2, .slice A3 n3 c3]
  have k1 := h1.below HB
  have k2 := h2.below HB
  have k3 := h3.below HB
  have kx := hx.below HB
  have hfl := @fit_len v n1 n2 n3 N B G m M
  cases hV : validV v n1 n2 n3 N B G
  · have H : Hid (gainV v n1 n2 n3 N B G m M = false) := by show _ = _; rw [gainV, fitV, hV]; rfl
    clear hfl
    go_enter Try.func41, Try.ntmps41
    go_wp2_with fail
    refine (implValidRows_any v A1 A2 A3 n1 n2 n3 c1 c2 c3 N B G _ k1 k2 k3 b1 b2 b3).mono ?_
    rintro e w1 ⟨rfl, hb⟩
    rw [hV]
    go_wp2_with fail
    go_ret2
    exact ⟨0, by rw [H.out]; rfl, by show _ = _; rw [gainA, H.out, av_zero]; rfl, HB.trans (hb.mono HB.size)⟩
  · cases hl : asLong v m M
    · have H : Hid (gainV v n1 n2 n3 N B G m M = false) := by show _ = _; rw [gainV, fitV, hV, hl]; rfl
      clear hfl
      go_enter Try.func41, Try.ntmps41
      go_wp2_with fail
      refine (implValidRows_any v A1 A2 A3 n1 n2 n3 c1 c2 c3 N B G _ k1 k2 k3 b1 b2 b3).mono ?_
      rintro e w1 ⟨rfl, hb⟩
      rw [hV]
      replace HR := HR.below hb HR.lt
      have q0 : w1.cell? ⟨w.heap.size, 0, none⟩ = some (.int .i64 v) := HR.cell 0
      have q1 : w1.cell? ⟨w.heap.size, 1, none⟩ = some (.slice A1 n1 c1) := HR.cell 1
      have q2 : w1.cell? ⟨w.heap.size, 2, none⟩ = some (.slice A2 n2 c2) := HR.cell 2
      have q3 : w1.cell? ⟨w.heap.size, 3, none⟩ = some (.slice A3 n3 c3) := HR.cell 3
      go_wp2_with fail
      refine (isX_any v A1 A2 A3 n1 n2 n3 c1 c2 c3 X m d M _ (kx.below hb) bm).mono ?_
      rintro e w2 ⟨rfl, hb2⟩
      rw [hl]
      go_wp2_with fail
      go_ret2
      exact ⟨0, by rw [H.out]; rfl, by show _ = _; rw [gainA, H.out, av_zero]; rfl, (HB.trans (hb.mono HB.size)).trans (hb2.mono (Nat.le_trans HB.size hb.size))⟩
    · have hfit : fitV v n1 n2 n3 N B G m M = true := by rw [fitV, hV, hl]; rfl
      have hl3 : n3 ≤ m := Nat.le_of_eq (hfl hfit).1
      clear hfl
      go_enter Try.func41, Try.ntmps41
      go_wp2_with fail
      refine (implValidRows_any v A1 A2 A3 n1 n2 n3 c1 c2 c3 N B G _ k1 k2 k3 b1 b2 b3).mono ?_
      rintro e w1 ⟨rfl, hb⟩
      rw [hV]
      replace HR := HR.below hb HR.lt
      replace k3 := k3.below hb
      replace kx := kx.below hb
      replace HB := HB.trans (hb.mono HB.size)
      clear hb
      have q0 : w1.cell? ⟨w.heap.size, 0, none⟩ = some (.int .i64 v) := HR.cell 0
      have q1 : w1.cell? ⟨w.heap.size, 1, none⟩ = some (.slice A1 n1 c1) := HR.cell 1
      have q2 : w1.cell? ⟨w.heap.size, 2, none⟩ = some (.slice A2 n2 c2) := HR.cell 2
      have q3 : w1.cell? ⟨w.heap.size, 3, none⟩ = some (.slice A3 n3 c3) := HR.cell 3
      go_wp2_with fail
      refine (isX_any v A1 A2 A3 n1 n2 n3 c1 c2 c3 X m d M _ kx bm).mono ?_
      rintro e w2 ⟨rfl, hb⟩
      rw [hl]
      clear q0 q1 q2 q3
      replace HR := HR.below hb HR.lt
      replace k3 := k3.below hb
      replace kx := kx.below hb
      replace HB := HB.trans (hb.mono HB.size)
      clear hb
      have q0 : w2.cell? ⟨w.heap.size, 0, none⟩ = some (.int .i64 v) := HR.cell 0
      have q1 : w2.cell? ⟨w.heap.size, 1, none⟩ = some (.slice A1 n1 c1) := HR.cell 1
      have q2 : w2.cell? ⟨w.heap.size, 2, none⟩ = some (.slice A2 n2 c2) := HR.cell 2
      have q3 : w2.cell? ⟨w.heap.size, 3, none⟩ = some (.slice A3 n3 c3) := HR.cell 3
      go_wp2_with fail
      refine (impldot_any A3 X n3 m c3 d G M _ k3 kx b3 hl3 bm).mono ?_
      rintro e wx ⟨r, q, rfl, hr, rfl⟩
      cases hd : finA .f32 (dotA (some 0) G M)
      · have H : Hid (gainV v n1 n2 n3 N B G m M = false) := by show _ = _; rw [gainV, hfit, hd]; rfl
        go_wp2_with fail
        refine (implIsFinite_any _ _).mono ?_
        rintro e wx ⟨m1, rfl, rfl⟩
        rw [hr.out, hd]
        go_wp2_with fail
        go_ret2
        exact ⟨0, by rw [H.out]; rfl, by show _ = _; rw [gainA, H.out, av_zero]; rfl, below_drewN HB _⟩
      · have H : Hid (gainV v n1 n2 n3 N B G m M = true) := by show _ = _; rw [gainV, hfit, hd]; rfl
        go_wp2_with fail
        refine (implIsFinite_any _ _).mono ?_
        rintro e wx ⟨m1, rfl, rfl⟩
        rw [hr.out, hd]
        go_wp2_with fail
        go_ret2
        exact ⟨r, by rw [H.out]; rfl, by show _ = _; rw [gainA, H.out, hr.out]; rfl, below_drewN HB _⟩
end Go.Proofs.Yteodplednmeaaaa
