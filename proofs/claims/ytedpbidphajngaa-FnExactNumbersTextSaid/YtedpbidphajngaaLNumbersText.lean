/- The law FnExactNumbersText, proved for every input: the call returns true and what was handed in reads as before. No condition. -/
import Derived.Test.YtedpbidphajngaaRows
import Derived.Test.YtedpbidphajngaaJ
import Derived.Test.YtedpbidphajngaaQNumbersText
import Derived.WalkKit
import Derived.ProofKit
import Derived.OpenShut
import Derived.ShutString
import Derived.ChangeOld
import Derived.Below
import Derived.Laws.Cover2
import Derived.Lib.SmallJoins
namespace Go.Proofs.Ytedpbidphajngaa.lawFnExactNumbersText
open Go.ChangeShapes Go.WideShapes Go.ChangeAt Go.RowKit Go.Joins
open Go.ChangeMaps (open_string shut_string)
set_option linter.unusedVariables false
set_option linter.unusedSimpArgs false

theorem own : ownKnob Try.prog.godebug = none := by kernel_rfl
theorem laidOut : laidOutB Try.prog = true := by kernel_rfl

set_option maxRecDepth 100000 in
theorem lifted (os : Os) (started : os.Started) (H : Type) (enc : TypeId × Value → H) :
    ReturnsInHanded {} Try.checked os 3 .any (Rows.fnExactNumbersTextSpec.pre6 enc Try.prog Try.f3 Rows.fnExactNumbersTextRow.domain false) (Rows.fnExactNumbersTextSpec.post enc Try.prog Try.f3 false true false false) := by
  refine returnsInHanded_of_change (C := Try.checked) own started (by kernel_rfl) Try.func3
    (ChangeSpec.witness6 (enc := enc) (C := Try.checked) false ⟨#[], #[.slice none 0 0], []⟩ 8 (by kernel_rfl) (by kernel_rfl) (by kernel_rfl) (by kernel_rfl)) ?_
  intro W base args ds gs before hval0 hW hcnd _
  have hval : ∀ (j : Nat) t v, Try.f3.params[j]? = some t → args[j]? = some v → Value.okWide Try.prog W .any base t v := hval0
  have hW' := hW
  obtain ⟨p, q, hA0, hV, rfl, hfz, hnd⟩ := hW
  have hA : DataW.TrodAll enc Try.prog W 0 (fun _ => true) true Try.f3.params.toList args.toList ds p := hA0
  rw [Try.params3] at hA hval
  obtain ⟨v0, vs0, d0, ds0, p0, q0, hargs, rfl, rfl, h0, r0⟩ := trodAll_cons hA
  obtain ⟨rfl, rfl, rfl⟩ := trodAll_nil r0
  obtain rfl : args = #[v0] := by cases args; simp_all
  obtain ⟨rfl, rfl⟩ := trodVars_none hV
  have k0 := h0
  have lt0 : ∀ x ∈ p0, x.block < W.heap.size := by obtain ⟨m, hm⟩ := k0; exact DataW.trod_lt m _ _ _ hm
  obtain ⟨A_0_, n_0_, c_0_, L_0_, rfl, w_0_⟩ := open_floats_arg (hval 0 22 v0 rfl rfl) h0
  clear hA0 hval0
  refine (lawNumbersText (w := W) A_0_ n_0_ c_0_ L_0_ w_0_).mono fun e W' ⟨he, bel⟩ => ?_
  subst he
  exact ⟨_, rfl, _, _, _, [], _, [], hW', trodAll_mk1 (shut_bool Try.underlying4 _), (trodAll_cons_mk (Below.trod laidOut (by kernel_rfl) (of_decide_eq_true (by kernel_rfl)) k0 bel lt0) trodAll_mk0), rfl, bel.frame _, fun h => by cases h⟩

theorem g4 : Try.f3.params.all (Try.prog.readableRec ·) = true := by kernel_rfl
theorem g5 : namedTie Try.prog Rows.fnExactNumbersTextRow.named Rows.fnExactNumbersTextSpec.vars = true := by kernel_rfl
theorem g10 : (Rows.fnExactNumbersTextRow.inPlace == Try.prog.inPlace 3) = true := by kernel_rfl
theorem g11 : (Rows.fnExactNumbersTextRow.unfollowed == Try.prog.unfollowed 3) = true := by kernel_rfl
theorem g12 : (Rows.fnExactNumbersTextRow.recurses == Try.prog.recurses 3) = true := by kernel_rfl
theorem g13 : (Rows.fnExactNumbersTextRow.named == Try.prog.varsNamed 3) = true := by kernel_rfl
theorem g17 : (Rows.fnExactNumbersTextRow.loops == (Try.f3.params.toList ++ Rows.fnExactNumbersTextSpec.plain.varTypes Try.prog).any (Try.prog.loopsFrom ·)) = true := by kernel_rfl
theorem g18 : (Rows.fnExactNumbersTextRow.wideKeys == (Try.f3.params.toList ++ Rows.fnExactNumbersTextSpec.plain.varTypes Try.prog ++ Try.f3.resultTypes.toList).any (Try.prog.wideKeysFrom ·)) = true := by kernel_rfl
theorem closed : joinedFacts Try.prog 3 Try.f3 Rows.fnExactNumbersTextSpec Rows.fnExactNumbersTextRow = true :=
  joined_mk (by kernel_rfl) j2 j3 g4 g5 (by kernel_rfl) j7 (by kernel_rfl) j9 g10 g11 g12 g13 (by kernel_rfl) (by kernel_rfl) (by kernel_rfl) g17 g18 (by kernel_rfl) (by kernel_rfl) (by kernel_rfl) (by kernel_rfl) j23 (by kernel_rfl) j25 j26 j27 j28 (by kernel_rfl) (by kernel_rfl) (by kernel_rfl) (by kernel_rfl)

theorem over : Rows.fnExactNumbersTextRow.holds Try.pinned (OpenSpec.ofChange Rows.fnExactNumbersTextSpec) :=
  OpenClaim.holds_of_wide 3 Try.f3 rfl rfl rfl rfl rfl rfl rfl ⟨rfl, rfl, rfl, rfl, rfl⟩ rfl rfl rfl rfl rfl (by kernel_rfl) Try.func3 closed
    (of_decide_eq_true (by kernel_rfl)) (by unfold Func.isWrapper; first | (rw [if_pos (by decide +kernel)]; kernel_rfl) | (rw [if_neg (by decide +kernel)]; exact ⟨rfl, rfl⟩))
    (fun os started H enc _ => lifted os started H enc)

theorem proved : Rows.FnExactNumbersTextSaid := over
#print axioms proved
end Go.Proofs.Ytedpbidphajngaa.lawFnExactNumbersText
