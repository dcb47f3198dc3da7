/- The natural logarithm of any number: what both give. No program is in sight. -/
import Derived.Test.YtedpbidphajngaaDoorFn
namespace Go.Proofs.YtedpbidphajngaaDoor
open Ieee Go.RowKit
open FT (Le2 Has)
set_option linter.unusedVariables false
set_option linter.unusedSimpArgs false

theorem down_spec : ∀ (f : Nat) (X : Option Nat) (E : Int), Pb .f64 f X → Ge .f64 (-149) X → 0 ≤ E → E + f ≤ 140 → Pb .f64 1 (down f X E).1 ∧ Ge .f64 (-149) (down f X E).1 ∧ 0 ≤ (down f X E).2 ∧ (down f X E).2 ≤ 140
  | 0, X, E, h, g, h0, h1 => ⟨h.mono (by omega), g, h0, by show E ≤ 140; omega⟩
  | f + 1, X, E, h, g, h0, h1 => by
    cases hc : fge .f64 X (some c15)
    · rw [down_stop hc]
      exact ⟨of_not15 h hc, g, h0, by show E ≤ 140; omega⟩
    · rw [down_go hc]
      obtain ⟨g0, _⟩ := of_15 h hc
      exact down_spec f _ _ ((halve_pb h (by omega) (by omega)).mono (by omega)) ((halve_ge g0 h (by omega) (by omega)).mono (by omega)) (by omega) (by omega)
theorem up_spec : ∀ (f : Nat) (X : Option Nat) (E : Int), Ge .f64 (-(f : Int)) X → Pb .f64 1 X → E ≤ 140 → (f : Int) - 160 ≤ E → Pb .f64 1 (up f X E).1 ∧ (up f X E).2 ≤ 140 ∧ -160 ≤ (up f X E).2
  | 0, X, E, g, h, h0, h1 => ⟨h, h0, by show -160 ≤ E; omega⟩
  | f + 1, X, E, g, h, h0, h1 => by
    cases hc : flt .f64 X (some c75)
    · rw [up_stop hc]
      exact ⟨h, h0, by show -160 ≤ E; omega⟩
    · rw [up_go hc]
      obtain ⟨g0, _⟩ := of_75 g hc
      exact up_spec f _ _ ((twice_ge g h (by omega) (by omega)).mono (by omega)) (twice_pb g0 (by omega) (by omega)) (by omega) (by omega)
theorem logZ_bd {X : Option Nat} (h : Pb .f64 128 X) (g : Ge .f64 (-149) X) : Bd .f64 40 (logZ X) := by
  obtain ⟨a, b, c, d⟩ := down_spec 140 X 0 (h.mono (by omega)) g (by omega) (by omega)
  obtain ⟨a2, c2, d2⟩ := up_spec 160 _ _ (b.mono (by omega)) a d (by omega)
  exact logY_bd a2 (by omega)

/-- the logarithm of any number -/
def logW (Y : Option Nat) : Option Nat := Y.bind fun y => match FloatKind.f64.decode y with
  | .number s m _ => if m = 0 then some 18442240474082181120 else if s then none else logZ (some y)
  | .infinity s => if s then none else some y
  | .nan _ _ => none

theorem dec0 (k : FloatKind) : k.decode 0 = .number false 0 k.format.leastPlace := by cases k <;> decide
theorem ord0_num {k : FloatKind} {x m : Nat} {s : Bool} {p : Int} (d : k.decode x = .number s m p) : k.format.order x 0 = some (if m = 0 then .eq else if s then .lt else .gt) := by
  have h0 := dec0 k
  unfold FloatKind.decode at d h0
  unfold Format.order
  rw [d, h0]
  unfold Datum.order
  dsimp only
  have e0 : signed false 0 (k.format.leastPlace - min p k.format.leastPlace).toNat = 0 := by simp [signed]
  rw [e0]
  congr 1
  have hk : 0 < 2 ^ (p - min p k.format.leastPlace).toNat := Nat.two_pow_pos _
  by_cases hm : m = 0
  · subst hm
    rw [if_pos rfl]
    have : signed s 0 (p - min p k.format.leastPlace).toNat = 0 := by cases s <;> simp [signed]
    rw [this]; rfl
  · rw [if_neg hm]
    have hp := Nat.mul_pos (Nat.pos_of_ne_zero hm) hk
    cases s
    · simp only [signed, Nat.shiftLeft_eq, Bool.false_eq_true, if_false]
      exact Int.compare_eq_gt.2 (by omega)
    · simp only [signed, Nat.shiftLeft_eq, if_true]
      exact Int.compare_eq_lt.2 (by omega)
theorem ord0_inf {k : FloatKind} {x : Nat} {s : Bool} (d : k.decode x = .infinity s) : k.format.order x 0 = some (if s then .lt else .gt) := by
  have h0 := dec0 k
  unfold FloatKind.decode at d h0
  unfold Format.order
  rw [d, h0]
  rfl
theorem ord0_nan {k : FloatKind} {x t : Nat} {s : Bool} (d : k.decode x = .nan s t) : k.format.order x 0 = none := by
  unfold FloatKind.decode at d
  unfold Format.order
  rw [d]
  rfl
theorem place32 {b : Nat} {s : Bool} {m : Nat} {p : Int} (h : FloatKind.f32.decode b = .number s m p) : -149 ≤ p := by
  have e3 : single.leastPlace = -149 := by decide
  unfold FloatKind.decode FloatKind.format Format.read at h
  simp only [] at h
  rw [e3] at h
  generalize b % single.signWeight = r at h
  split at h
  · injection h with _ h1 h2
    omega
  · split at h
    · injection h with _ h1 h2
      omega
    · split at h <;> cases h
theorem inf32 {x : Nat} (hx : x < 4294967296) (d : FloatKind.f32.decode x = .infinity false) : x = 2139095040 := by
  rw [read32 x hx] at d
  have e1 : single.binade = 8388608 := by decide
  have e2 : single.infRung = 2139095040 := by decide
  unfold FT.D at d
  rw [e1, e2] at d
  split at d
  · cases d
  · split at d
    · cases d
    · split at d
      · injection d with d
        simp at d
        omega
      · cases d

/-- what becomes of a number that is widened: its sign stays, a zero stays one -/
theorem wide_num {x m : Nat} {s : Bool} {p : Int} (d : FloatKind.f32.decode x = .number s m p) : ∃ y m' p', fconv .f32 .f64 (av .f32 x) = some y ∧ FloatKind.f64.decode y = .number s m' p' ∧ (m = 0 → m' = 0) ∧ (m ≠ 0 → m' ≠ 0 ∧ Le2 m' p' 1 128 ∧ Le2 1 (-149) m' p') := by
  have hl := read32_le d
  have hn := decode_write_notInf (k := .f64) (s := s) (has64 (by omega) (by omega) : Has FloatKind.f64.format 128) hl
  have hv : fconv .f32 .f64 (av .f32 x) = some (FloatKind.f64.encode (.number s m p)) := by
    rw [av_of_not (by rw [d]; rfl)]
    show floatToFloatBits .f32 x .f64 = _
    unfold floatToFloatBits
    rw [if_neg (by decide), d]
    simp only [hn]
    rfl
  by_cases hm : m = 0
  · subst hm
    refine ⟨_, 0, -1074, hv, ?_, fun _ => rfl, fun h => absurd rfl h⟩
    have : FloatKind.f64.encode (.number s 0 p) = FloatKind.f64.encode (.number s 0 0) := by
      unfold FloatKind.encode Format.write Format.nearest
      simp only [if_true]
    rw [this]; exact exact64_zero s
  · have hg : Le2 1 (-149) m p := by
      have h1 : Le2 1 p m p := fun B _ _ => Nat.mul_le_mul_right _ (by omega)
      exact h1.anti (place32 d)
    obtain ⟨m', p', h1, h2, h3⟩ := write_ge (k := .f64) (s := s) (has64 (by omega) (by omega)) hl (least64 (by omega)) hg
    exact ⟨_, m', p', hv, h1, fun h => absurd h hm, fun _ => ⟨ge_ne (X := none) (b := 0) h3, h2, h3⟩⟩
theorem logW_fits (x : Nat) : Fits .f64 .f32 (logW (fconv .f32 .f64 (av .f32 x))) := by
  cases hd : FloatKind.f32.decode x with
  | nan s t =>
    have : av .f32 x = none := by unfold av; rw [hd]; rfl
    rw [this]; exact fits_none _ _
  | infinity s =>
    have : fconv .f32 .f64 (av .f32 x) = some (FloatKind.f64.encode (.infinity s)) := by
      rw [av_of_not (by rw [hd]; rfl)]
      show floatToFloatBits .f32 x .f64 = _
      unfold floatToFloatBits
      rw [if_neg (by decide), hd]
    rw [this]
    cases s
    · have e : logW (some (FloatKind.f64.encode (.infinity false))) = some (FloatKind.f64.encode (.infinity false)) := by rfl
      rw [e]; exact fits_inf _
    · have e : logW (some (FloatKind.f64.encode (.infinity true))) = none := by rfl
      rw [e]; exact fits_none _ _
  | number s m p =>
    obtain ⟨y, m', p', hy, dy, h0, h1⟩ := wide_num hd
    rw [hy]
    unfold logW
    rw [Option.bind_some, dy]
    dsimp only
    by_cases hm : m = 0
    · rw [if_pos (h0 hm)]
      intro c hc; injection hc with hc; subst hc; decide
    · obtain ⟨h2, h3, h4⟩ := h1 hm
      rw [if_neg h2]
      cases s
      · exact (fits_bd (by decide) (has32 (by omega) (by omega)) (logZ_bd ⟨y, m', p', rfl, dy, h3⟩ ⟨y, m', p', rfl, dy, h4⟩)).1
      · exact fits_none _ _
end Go.Proofs.YtedpbidphajngaaDoor
