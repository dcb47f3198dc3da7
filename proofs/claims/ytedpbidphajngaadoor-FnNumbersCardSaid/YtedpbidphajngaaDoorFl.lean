/- Floats as a walk meets them: of a float's bits only 'av' matters (which not-a-number it is does not), and each operation acts on that. -/
import Derived.Test.YtedpbidphajngaaDoorFt
import Derived.WalkKit
import Derived.ProofKit
import Derived.WalkLawsBesides
import Derived.Deep.Draws
import Derived.Deep.QuietTactic
import Derived.BigQuiet
import Derived.Lib.Hide
import Derived.Below
namespace Go.Proofs.YtedpbidphajngaaDoor
open Go.RowKit
set_option linter.unusedVariables false
set_option linter.unusedSimpArgs false

/-- what of a float's bits matters: 'none': a not-a-number, whichever -/
def av (k : FloatKind) (b : Nat) : Option Nat := if (k.decode b).isNaN then none else some b

/-- an arithmetic operation on what matters -/
def fop (op : BinOp) (k : FloatKind) : Option Nat → Option Nat → Option Nat
  | some x, some y => floatBits op k x y
  | _, _ => none
/-- how two floats stand -/
def ford (k : FloatKind) : Option Nat → Option Nat → Option Ordering
  | some x, some y => k.format.order x y
  | _, _ => none
def feq (k : FloatKind) (x y : Option Nat) : Bool := ford k x y == some .eq
def flt (k : FloatKind) (x y : Option Nat) : Bool := ford k x y == some .lt
def fgt (k : FloatKind) (x y : Option Nat) : Bool := ford k x y == some .gt
def fge (k : FloatKind) (x y : Option Nat) : Bool := ford k x y == some .gt || ford k x y == some .eq
def fle (k : FloatKind) (x y : Option Nat) : Bool := ford k x y == some .lt || ford k x y == some .eq

def arithOp : BinOp → Bool
  | .add | .sub | .mul | .quo => true
  | _ => false

theorem av_some {k : FloatKind} {b c : Nat} (h : av k b = some c) : c = b ∧ (k.decode b).isNaN = false := by
  unfold av at h
  split at h
  · cases h
  · rename_i hn
    injection h with h
    exact ⟨h.symm, by simpa using hn⟩
theorem av_of_not {k : FloatKind} {b : Nat} (h : (k.decode b).isNaN = false) : av k b = some b := by simp [av, h]

theorem floatBits_notNaN {op : BinOp} {k : FloatKind} {x y r : Nat} (h : floatBits op k x y = some r) : (k.decode r).isNaN = false := by
  unfold floatBits at h
  unfold FloatKind.decode
  split at h
  · simp only [Ieee.Format.add, Option.map_eq_some_iff] at h
    obtain ⟨d, hd, rfl⟩ := h
    exact FT.write_notNaN _ _ (FT.sum_notNaN hd)
  · simp only [Ieee.Format.sub, Option.map_eq_some_iff] at h
    obtain ⟨d, hd, rfl⟩ := h
    exact FT.write_notNaN _ _ (FT.sum_notNaN hd)
  · simp only [Ieee.Format.mul, Option.map_eq_some_iff] at h
    obtain ⟨d, hd, rfl⟩ := h
    exact FT.write_notNaN _ _ (FT.product_notNaN hd)
  · simp only [Ieee.Format.div, Option.map_eq_some_iff] at h
    obtain ⟨d, hd, rfl⟩ := h
    exact FT.write_notNaN _ _ (FT.quotient_notNaN hd)
  · cases h

theorem opposite_nan (d : Ieee.Datum) : d.opposite.isNaN = d.isNaN := by cases d <;> rfl

theorem floatBits_nan {op : BinOp} {k : FloatKind} {x y : Nat} (h : (k.decode x).isNaN = true ∨ (k.decode y).isNaN = true) : floatBits op k x y = none := by
  unfold FloatKind.decode at h
  have hs : ∀ a b : Ieee.Datum, (a.isNaN = true ∨ b.isNaN = true) → a.sum b = none := by
    intro a b h; cases a <;> cases b <;> simp_all [Ieee.Datum.isNaN, Ieee.Datum.sum]
  have hp : ∀ a b : Ieee.Datum, (a.isNaN = true ∨ b.isNaN = true) → a.product b = none := by
    intro a b h; cases a <;> cases b <;> simp_all [Ieee.Datum.isNaN, Ieee.Datum.product]
  have hq : ∀ (g : Nat) (a b : Ieee.Datum), (a.isNaN = true ∨ b.isNaN = true) → a.quotient g b = none := by
    intro g a b h; cases a <;> cases b <;> simp_all [Ieee.Datum.isNaN, Ieee.Datum.quotient]
  unfold floatBits
  split
  · simp [Ieee.Format.add, hs _ _ h]
  · simp only [Ieee.Format.sub]; rw [hs _ _ (by rw [opposite_nan]; exact h)]; rfl
  · simp [Ieee.Format.mul, hp _ _ h]
  · simp [Ieee.Format.div, hq _ _ _ h]
  · rfl

theorem floatBits_fop (op : BinOp) (k : FloatKind) (x y : Nat) : floatBits op k x y = fop op k (av k x) (av k y) := by
  cases hx : (k.decode x).isNaN
  · cases hy : (k.decode y).isNaN
    · rw [av_of_not hx, av_of_not hy]; rfl
    · rw [floatBits_nan (.inr hy)]; simp [av, hy, fop]
  · rw [floatBits_nan (.inl hx)]; simp [av, hx, fop]

theorem order_ford (k : FloatKind) (x y : Nat) : k.format.order x y = ford k (av k x) (av k y) := by
  unfold ford av FloatKind.decode Ieee.Format.order
  cases hx : (k.format.read x).isNaN
  · cases hy : (k.format.read y).isNaN
    · rfl
    · simpa using FT.order_none.2 (.inr hy)
  · simpa using FT.order_none.2 (.inl hx)

/-- the bits that the tape gives for a not-a-number are one's -/
theorem cut_nan32 (t : Nat) : av .f32 ((t % 2) * 2 ^ 31 + 0x7f800000 + 1 + (t / 2) % (2 ^ 23 - 1)) = none := by
  have h1 : (t / 2) % (2 ^ 23 - 1) < 2 ^ 23 - 1 := Nat.mod_lt _ (by decide)
  have h2 : t % 2 < 2 := Nat.mod_lt _ (by decide)
  generalize (t / 2) % (2 ^ 23 - 1) = u at *
  generalize t % 2 = s at *
  have hw : s * 2 ^ 31 + 0x7f800000 + 1 + u = Ieee.single.word (s == 1) (0x7f800000 + 1 + u) := by
    have : s = 0 ∨ s = 1 := by omega
    rcases this with rfl | rfl <;> simp [Ieee.Format.word, Ieee.single, Ieee.Format.signWeight] <;> omega
  rw [hw]
  unfold av FloatKind.decode FloatKind.format
  have e1 : Ieee.single.signWeight = 2147483648 := by decide
  have e2 : Ieee.single.infRung = 2139095040 := by decide
  have e3 : Ieee.single.binade = 8388608 := by decide
  simp only []
  rw [FT.read_word _ _ _ (by rw [e1]; omega), FT.D_isNaN _ _ _ (by rw [e2]; omega) (by rw [e2, e3]; omega)]
  rfl
theorem cut_nan64 (t : Nat) : av .f64 ((t % 2) * 2 ^ 63 + 0x7ff0000000000000 + 1 + (t / 2) % (2 ^ 52 - 1)) = none := by
  have h1 : (t / 2) % (2 ^ 52 - 1) < 2 ^ 52 - 1 := Nat.mod_lt _ (by decide)
  have h2 : t % 2 < 2 := Nat.mod_lt _ (by decide)
  generalize (t / 2) % (2 ^ 52 - 1) = u at *
  generalize t % 2 = s at *
  have hw : s * 2 ^ 63 + 0x7ff0000000000000 + 1 + u = Ieee.double.word (s == 1) (0x7ff0000000000000 + 1 + u) := by
    have : s = 0 ∨ s = 1 := by omega
    rcases this with rfl | rfl <;> simp [Ieee.Format.word, Ieee.double, Ieee.Format.signWeight] <;> omega
  rw [hw]
  unfold av FloatKind.decode FloatKind.format
  have e1 : Ieee.double.signWeight = 9223372036854775808 := by decide
  have e2 : Ieee.double.infRung = 9218868437227405312 := by decide
  have e3 : Ieee.double.binade = 4503599627370496 := by decide
  simp only []
  rw [FT.read_word _ _ _ (by rw [e1]; omega), FT.D_isNaN _ _ _ (by rw [e2]; omega) (by rw [e2, e3]; omega)]
  rfl

theorem av_cut (k : FloatKind) (x y t : Nat) : av k (Question.cut (.nanBits k x y) t) = none := by
  cases k
  · exact cut_nan32 t
  · exact cut_nan64 t

section
variable {P : Program} (w : World)

theorem drewN_zero : w.drewN 0 = w := rfl

/-- '+', '-', '*', '/' on floats -/
theorem run_farith (op : BinOp) (hop : arithOp op = true) (t : TypeId) (k : FloatKind) (x y : Nat) :
    ∃ r n, (binOp op t (.float k x) (.float k y)).run P w = .ok (.float k r) (w.drewN n) ∧ av k r = fop op k (av k x) (av k y) := by
  rw [← floatBits_fop]
  cases h : floatBits op k x y with
  | some r => exact ⟨r, 0, run_float_arith w op t k x y r h, av_of_not (floatBits_notNaN h)⟩
  | none =>
    refine ⟨Question.cut (.nanBits k x y) (w.tape w.drawn (.nanBits k x y)), 1, ?_, av_cut k x y _⟩
    unfold floatBits at h
    cases op <;> simp [arithOp] at hop <;> simp only at h
    all_goals
      simp [binOp, Op.floatArith, h, choose, Sem.run, Question.forced]
      rfl

/-- 'float32(x)', 'float64(x)' of a float of the other kind, as what matters of it -/
def fconv (src dst : FloatKind) (X : Option Nat) : Option Nat := X.bind fun b => floatToFloatBits src b dst
/-- the conversion's value is not left open -/
def Fits (src dst : FloatKind) (X : Option Nat) : Prop := ∀ b, X = some b → (floatToFloatBits src b dst).isSome = true

theorem av_cutc (k : FloatKind) (b t : Nat) : av k (Question.cut (.nanConv k b) t) = none := by
  cases k
  · exact cut_nan32 t
  · exact cut_nan64 t

theorem floatToFloat_notNaN {src dst : FloatKind} {b r : Nat} (hb : (src.decode b).isNaN = false) (h : floatToFloatBits src b dst = some r) : (dst.decode r).isNaN = false := by
  unfold floatToFloatBits at h
  split at h
  · rename_i e; injection h with h; subst h; subst e; exact hb
  · split at h
    · cases h
    · injection h with h; subst h; exact FT.write_notNaN _ _ rfl
    · split at h
      · cases h
      · injection h with h; subst h; exact FT.write_notNaN _ _ rfl

theorem run_fconv (src dst : TypeId) (s k : FloatKind) (b : Nat) (hne : s ≠ k) (hs : P.underlying src = some (.float s)) (hd : P.underlying dst = some (.float k)) (hf : Fits s k (av s b)) :
    ∃ r n, (convert src dst (.float s b)).run P w = .ok (.float k r) (w.drewN n) ∧ av k r = fconv s k (av s b) := by
  cases hn : (s.decode b).isNaN
  · rw [av_of_not hn] at hf ⊢
    obtain ⟨r, hr⟩ := Option.isSome_iff_exists.1 (hf b rfl)
    refine ⟨r, 0, run_convert_float_float w src dst s k b r (by rw [hs]; rfl) hd hr, ?_⟩
    rw [av_of_not (floatToFloat_notNaN hn hr)]
    simp [fconv, hr]
  · have ha : av s b = none := by simp [av, hn]
    rw [ha]
    cases hd' : s.decode b with
    | nan sg fr =>
      refine ⟨Question.cut (.nanConv k b) (w.tape w.drawn (.nanConv k b)), 1, ?_, av_cutc k b _⟩
      simp [convert, run_underlying hs, run_underlying hd, Conv.floatToFloat, hne, hd', choose, Sem.run, Question.forced]
      rfl
    | number a b c => rw [hd'] at hn; cases hn
    | infinity a => rw [hd'] at hn; cases hn

/-- 'math.Sqrt' -/
def fsqrt (X : Option Nat) : Option Nat := X.bind fun b => FloatKind.f64.format.sqrt b

theorem sqrt_notNaN {b r : Nat} (h : FloatKind.f64.format.sqrt b = some r) : (FloatKind.f64.decode r).isNaN = false := by
  simp only [Ieee.Format.sqrt, Option.map_eq_some_iff] at h
  obtain ⟨d, hd, rfl⟩ := h
  exact FT.write_notNaN _ _ (FT.root_notNaN hd)

/-- '-x': the sign bit turned -/
def fneg (k : FloatKind) (X : Option Nat) : Option Nat := X.map (Op.negFloat k)
end

/-- THE WALK's LAW. -/
theorem wpList_farith {P : Program} {ops : Array Oper} {rest : List Oper} {Q : Exit → Act → World → Prop} {d : Tmp} {T t ty : TypeId} {pos : String} {after : Array Edge} {op : BinOp} {x y : Operand} {a : Act} {w : World} {k : FloatKind} {bx bz : Nat}
    (hop : arithOp op = true) (hx : a.eval x = .float k bx) (hy : a.eval y = .float k bz)
    (h : ∀ r n, Hid (av k r = fop op k (av k bx) (av k bz)) → wpList P ops Q rest (a.put (some d) (.float k r)) (w.drewN n)) :
    wpList P ops Q (⟨some d, .binOp op t x y ty, T, pos, after, none⟩ :: rest) a w := by
  refine wpList_plain rfl fun K hK => ?_
  obtain ⟨r, n, hr, he⟩ := run_farith (P := P) w op hop t k bx bz
  have hg : (eqGuard op t x y (.float k bx) (.float k bz)) = pure () := by cases op <;> rfl
  unfold Oper.wp execOp
  simp only [hx, hy, hg, Sem.run_bind, hr, Result.andThen_ok, Sem.run_pure]
  exact hK _ _ (h r n he)

/-- THE WALK's LAW at a conversion between the two kinds. -/
theorem wpList_fconv {P : Program} {ops : Array Oper} {rest : List Oper} {Q : Exit → Act → World → Prop} {d : Tmp} {T src dst : TypeId} {pos : String} {after : Array Edge} {x : Operand} {a : Act} {w : World} {s k : FloatKind} {b : Nat}
    (hne : s ≠ k) (hs : P.underlying src = some (.float s)) (hd : P.underlying dst = some (.float k)) (hx : a.eval x = .float s b) (hf : Fits s k (av s b))
    (h : ∀ r n, Hid (av k r = fconv s k (av s b)) → wpList P ops Q rest (a.put (some d) (.float k r)) (w.drewN n)) :
    wpList P ops Q (⟨some d, .convert src dst x, T, pos, after, none⟩ :: rest) a w := by
  refine wpList_plain rfl fun K hK => ?_
  obtain ⟨r, n, hr, he⟩ := run_fconv (P := P) w src dst s k b hne hs hd hf
  unfold Oper.wp execOp
  simp only [hx, Sem.run_bind, hr, Result.andThen_ok, Sem.run_pure]
  exact hK _ _ (h r n he)

end Go.Proofs.YtedpbidphajngaaDoor
