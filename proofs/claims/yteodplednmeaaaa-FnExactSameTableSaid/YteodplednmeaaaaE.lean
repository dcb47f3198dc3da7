/- Rows that are the same: what the program and the model compute. -/
import Derived.Test.YteodplednmeaaaaP
namespace Go.Proofs.Yteodplednmeaaaa
open Go.RowKit
set_option linter.unusedVariables false
set_option linter.unusedSimpArgs false
attribute [local go_sem] lo_value lo_enter run_store_float

def sameR (v u : Int) (N N2 B B2 G G2 : List Nat) : Bool := (v == u) && (sameL N N2 && (sameL B B2 && sameL G G2))
def small (L : List Nat) : Prop := ∀ x ∈ L, x < 4294967296
theorem sameAll_q {A B : Option Addr} {n m c d : Nat} {L M : List Nat} {b : Bool} {w : World} (h : FS w A n L) (h' : FS w B m M) (hn : n ≤ 1048576) (hm2 : m ≤ 1048576) (bL : small L) (bM : small M) (hb : sameL L M = b) (k : Nat) :
    Calls Try.prog 78 #[.slice A n c, .slice B m d] (w.drewN k) fun e w'' => e = .returned (.bool b) ∧ ∃ m, w'' = w.drewN m :=
  quietD (by subst hb; exact specl01SameAll_any _ _ _ _ _ _ _ _ _ (h.drewN k) (h'.drewN k) hn hm2 bL bM)
set_option maxHeartbeats 1000000 in
set_option maxRecDepth 100000 in
theorem l02Same_any (p p2 : Nat) (v : Int) (A1 A2 A3 : Option Addr) (n1 n2 n3 c1 c2 c3 : Nat) (N B G : List Nat) (u : Int) (E1 E2 E3 : Option Addr) (m1 m2 m3 d1 d2 d3 : Nat) (N2 B2 G2 : List Nat) (w : World) (hr : Row w p 36 #[.int .i64 v, .slice A1 n1 c1, .slice A2 n2 c2, .slice A3 n3 c3]) (hr2 : Row w p2 36 #[.int .i64 u, .slice E1 m1 d1, .slice E2 m2 d2, .slice E3 m3 d3]) (h1 : FS w A1 n1 N) (h2 : FS w A2 n2 B) (h3 : FS w A3 n3 G) (b1 : n1 ≤ 1048576) (b2 : n2 ≤ 1048576) (b3 : n3 ≤ 1048576)
    (k1 : FS w E1 m1 N2) (k2 : FS w E2 m2 B2) (k3 : FS w E3 m3 G2) (e1 : m1 ≤ 1048576) (e2 : m2 ≤ 1048576) (e3 : m3 ≤ 1048576) (s1 : small N) (s2 : small B) (s3 : small G) (t1 : small N2) (t2 : small B2) (t3 : small G2) :
    Calls Try.prog 70 #[.pointer (some ⟨p, 0, none⟩), .pointer (some ⟨p2, 0, none⟩)] w fun e w' => ∃ k, e = .returned (.bool (sameR v u N N2 B B2 G G2)) ∧ w' = w.drewN k := by
  have q0 : w.cell? ⟨p, 0, none⟩ = some (.int .i64 v) := hr.cell 0
  have q1 : w.cell? ⟨p, 1, none⟩ = some (.slice A1 n1 c1) := hr.cell 1
  have q2 : w.cell? ⟨p, 2, none⟩ = some (.slice A2 n2 c2) := hr.cell 2
  have q3 : w.cell? ⟨p, 3, none⟩ = some (.slice A3 n3 c3) := hr.cell 3
  have z0 : w.cell? ⟨p2, 0, none⟩ = some (.int .i64 u) := hr2.cell 0
  have z1 : w.cell? ⟨p2, 1, none⟩ = some (.slice E1 m1 d1) := hr2.cell 1
  have z2 : w.cell? ⟨p2, 2, none⟩ = some (.slice E2 m2 d2) := hr2.cell 2
  have z3 : w.cell? ⟨p2, 3, none⟩ = some (.slice E3 m3 d3) := hr2.cell 3
  cases hv : (v == u)
  · have H : Hid (sameR v u N N2 B B2 G G2 = false) := by show _ = _; rw [sameR, hv]; rfl
    go_enter Try.func70, Try.ntmps70
    go_wp2_with fail
    go_big_quiet (fail)
    go_wp2_with fail
    go_ret
    exact ⟨_, by rw [H.out]; rfl, rfl⟩
  cases hN : sameL N N2
  · have H : Hid (sameR v u N N2 B B2 G G2 = false) := by show _ = _; rw [sameR, hv, hN]; rfl
    go_enter Try.func70, Try.ntmps70
    go_wp2_with fail
    go_big_quiet ((go_at_call 78; with_reducible exact sameAll_q h1 k1 b1 e1 s1 t1 hN _))
    go_wp2_with fail
    go_ret
    exact ⟨_, by rw [H.out]; rfl, rfl⟩
  cases hB : sameL B B2
  · have H : Hid (sameR v u N N2 B B2 G G2 = false) := by show _ = _; rw [sameR, hv, hN, hB]; rfl
    go_enter Try.func70, Try.ntmps70
    go_wp2_with fail
    go_big_quiet ((go_at_call 78; first | with_reducible exact sameAll_q h1 k1 b1 e1 s1 t1 hN _ | with_reducible exact sameAll_q h2 k2 b2 e2 s2 t2 hB _))
    go_wp2_with fail
    go_ret
    exact ⟨_, by rw [H.out]; rfl, rfl⟩
  cases hG : sameL G G2
  · have H : Hid (sameR v u N N2 B B2 G G2 = false) := by show _ = _; rw [sameR, hv, hN, hB, hG]; rfl
    go_enter Try.func70, Try.ntmps70
    go_wp2_with fail
    go_big_quiet ((go_at_call 78; first | with_reducible exact sameAll_q h1 k1 b1 e1 s1 t1 hN _ | with_reducible exact sameAll_q h2 k2 b2 e2 s2 t2 hB _ | with_reducible exact sameAll_q h3 k3 b3 e3 s3 t3 hG _))
    go_wp2_with fail
    go_ret
    exact ⟨_, by rw [H.out]; rfl, rfl⟩
  · have H : Hid (sameR v u N N2 B B2 G G2 = true) := by show _ = _; rw [sameR, hv, hN, hB, hG]; rfl
    go_enter Try.func70, Try.ntmps70
    go_wp2_with fail
    go_big_quiet ((go_at_call 78; first | with_reducible exact sameAll_q h1 k1 b1 e1 s1 t1 hN _ | with_reducible exact sameAll_q h2 k2 b2 e2 s2 t2 hB _ | with_reducible exact sameAll_q h3 k3 b3 e3 s3 t3 hG _))
    go_wp2_with fail
    go_ret
    exact ⟨_, by rw [H.out]; rfl, rfl⟩
set_option maxHeartbeats 1000000 in
set_option maxRecDepth 100000 in
theorem specSameRows_any (v : Int) (A1 A2 A3 : Option Addr) (n1 n2 n3 c1 c2 c3 : Nat) (N B G : List Nat) (u : Int) (E1 E2 E3 : Option Addr) (m1 m2 m3 d1 d2 d3 : Nat) (N2 B2 G2 : List Nat) (w : World) (h1 : FS w A1 n1 N) (h2 : FS w A2 n2 B) (h3 : FS w A3 n3 G) (b1 : n1 ≤ 1048576) (b2 : n2 ≤ 1048576) (b3 : n3 ≤ 1048576)
    (k1 : FS w E1 m1 N2) (k2 : FS w E2 m2 B2) (k3 : FS w E3 m3 G2) (e1 : m1 ≤ 1048576) (e2 : m2 ≤ 1048576) (e3 : m3 ≤ 1048576) (s1 : small N) (s2 : small B) (s3 : small G) (t1 : small N2) (t2 : small B2) (t3 : small G2) :
    Calls Try.prog 27 #[.agg #[.int .i64 v, .slice A1 n1 c1, .slice A2 n2 c2, .slice A3 n3 c3], .agg #[.int .i64 u, .slice E1 m1 d1, .slice E2 m2 d2, .slice E3 m3 d3]] w fun e w' => e = .returned (.bool (sameR v u N N2 B B2 G G2)) ∧ Below w.heap.size w w' := by
  have HB : Below w.heap.size w ((w.alloc (.cells #[.int .i64 v, .slice A1 n1 c1, .slice A2 n2 c2, .slice A3 n3 c3] 36)).alloc (.cells #[.int .i64 u, .slice E1 m1 d1, .slice E2 m2 d2, .slice E3 m3 d3] 36)) := ((Below.refl _ _).alloc (Nat.le_refl _) _).alloc (by simp) _
  have HR := (Row.new w 36 #[.int .i64 v, .slice A1 n1 c1, .slice A2 n2 c2, .slice A3 n3 c3]).alloc (.cells #[.int .i64 u, .slice E1 m1 d1, .slice E2 m2 d2, .slice E3 m3 d3] 36)
  have hs : (w.alloc (.cells #[.int .i64 v, .slice A1 n1 c1, .slice A2 n2 c2, .slice A3 n3 c3] 36)).heap.size = w.heap.size + 1 := by simp
  have HR2 := Row.new (w.alloc (.cells #[.int .i64 v, .slice A1 n1 c1, .slice A2 n2 c2, .slice A3 n3 c3] 36)) 36 #[.int .i64 u, .slice E1 m1 d1, .slice E2 m2 d2, .slice E3 m3 d3]
  rw [hs] at HR2
  clear hs
  go_enter Try.func27, Try.ntmps27
  go_wp2_with fail
  refine (l02Same_any w.heap.size (w.heap.size + 1) v A1 A2 A3 n1 n2 n3 c1 c2 c3 N B G u E1 E2 E3 m1 m2 m3 d1 d2 d3 N2 B2 G2 _ HR HR2 (h1.below HB) (h2.below HB) (h3.below HB) b1 b2 b3 (k1.below HB) (k2.below HB) (k3.below HB) e1 e2 e3 s1 s2 s3 t1 t2 t3).mono ?_
  rintro e wx ⟨q1, rfl, rfl⟩
  go_wp2_with fail
  go_ret
  exact ⟨rfl, below_drewN HB _⟩
set_option maxHeartbeats 1000000 in
set_option maxRecDepth 100000 in
theorem implSameRows_any (v : Int) (A1 A2 A3 : Option Addr) (n1 n2 n3 c1 c2 c3 : Nat) (N B G : List Nat) (u : Int) (E1 E2 E3 : Option Addr) (m1 m2 m3 d1 d2 d3 : Nat) (N2 B2 G2 : List Nat) (w : World) (h1 : FS w A1 n1 N) (h2 : FS w A2 n2 B) (h3 : FS w A3 n3 G) (b1 : n1 ≤ 1048576) (b2 : n2 ≤ 1048576) (b3 : n3 ≤ 1048576)
    (k1 : FS w E1 m1 N2) (k2 : FS w E2 m2 B2) (k3 : FS w E3 m3 G2) (e1 : m1 ≤ 1048576) (e2 : m2 ≤ 1048576) (e3 : m3 ≤ 1048576) (s1 : small N) (s2 : small B) (s3 : small G) (t1 : small N2) (t2 : small B2) (t3 : small G2) :
    Calls Try.prog 29 #[.agg #[.int .i64 v, .slice A1 n1 c1, .slice A2 n2 c2, .slice A3 n3 c3], .agg #[.int .i64 u, .slice E1 m1 d1, .slice E2 m2 d2, .slice E3 m3 d3]] w fun e w' => e = .returned (.bool (sameR v u N N2 B B2 G G2)) ∧ Below w.heap.size w w' := by
  have HB : Below w.heap.size w ((w.alloc (.cells #[.int .i64 v, .slice A1 n1 c1, .slice A2 n2 c2, .slice A3 n3 c3] 36)).alloc (.cells #[.int .i64 u, .slice E1 m1 d1, .slice E2 m2 d2, .slice E3 m3 d3] 36)) := ((Below.refl _ _).alloc (Nat.le_refl _) _).alloc (by simp) _
  have g1 := h1.below HB
  have g2 := h2.below HB
  have g3 := h3.below HB
  have l1 := k1.below HB
  have l2 := k2.below HB
  have l3 := k3.below HB
  clear h1 h2 h3 k1 k2 k3
  cases hv : (v == u)
  · have H : Hid (sameR v u N N2 B B2 G G2 = false) := by show _ = _; rw [sameR, hv]; rfl
    go_enter Try.func29, Try.ntmps29
    go_wp2_with fail
    go_ret
    exact ⟨by rw [H.out]; rfl, HB⟩
  cases hN : sameL N N2
  · have H : Hid (sameR v u N N2 B B2 G G2 = false) := by show _ = _; rw [sameR, hv, hN]; rfl
    go_enter Try.func29, Try.ntmps29
    go_wp2_with fail
    refine (implsameNumbers_any A1 E1 n1 m1 c1 d1 N N2 _ g1 l1 b1 e1 s1 t1).mono ?_
    rintro e wx ⟨q1, rfl, rfl⟩
    rw [hN]
    go_wp2_with fail
    go_ret
    exact ⟨by rw [H.out]; rfl, below_drewN HB _⟩
  cases hB : sameL B B2
  · have H : Hid (sameR v u N N2 B B2 G G2 = false) := by show _ = _; rw [sameR, hv, hN, hB]; rfl
    go_enter Try.func29, Try.ntmps29
    go_wp2_with fail
    refine (implsameNumbers_any A1 E1 n1 m1 c1 d1 N N2 _ g1 l1 b1 e1 s1 t1).mono ?_
    rintro e wx ⟨q1, rfl, rfl⟩
    rw [hN]
    go_wp2_with fail
    refine (implsameNumbers_any A2 E2 n2 m2 c2 d2 B B2 _ (g2.drewN _) (l2.drewN _) b2 e2 s2 t2).mono ?_
    rintro e wx ⟨q2, rfl, rfl⟩
    rw [hB]
    go_wp2_with fail
    go_ret
    exact ⟨by rw [H.out]; rfl, below_drewN HB _⟩
  · have H : Hid (sameR v u N N2 B B2 G G2 = sameL G G2) := by show _ = _; rw [sameR, hv, hN, hB]; rfl
    go_enter Try.func29, Try.ntmps29
    go_wp2_with fail
    refine (implsameNumbers_any A1 E1 n1 m1 c1 d1 N N2 _ g1 l1 b1 e1 s1 t1).mono ?_
    rintro e wx ⟨q1, rfl, rfl⟩
    rw [hN]
    go_wp2_with fail
    refine (implsameNumbers_any A2 E2 n2 m2 c2 d2 B B2 _ (g2.drewN _) (l2.drewN _) b2 e2 s2 t2).mono ?_
    rintro e wx ⟨q2, rfl, rfl⟩
    rw [hB]
    go_wp2_with fail
    refine (implsameNumbers_any A3 E3 n3 m3 c3 d3 G G2 _ (g3.drewN _) (l3.drewN _) b3 e3 s3 t3).mono ?_
    rintro e wx ⟨q3, rfl, rfl⟩
    go_wp2_with fail
    go_ret
    exact ⟨by rw [H.out]; rfl, below_drewN HB _⟩
end Go.Proofs.Yteodplednmeaaaa
