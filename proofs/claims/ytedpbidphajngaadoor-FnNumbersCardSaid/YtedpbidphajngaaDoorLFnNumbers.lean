/- The law FnNumbers, proved for every input, and its card: the call returns true and what was handed in reads as before. No condition of ours; the listed variables are tied to the program text by the given tie. -/
import Derived.Test.YtedpbidphajngaaDoorCards
import Derived.Test.YtedpbidphajngaaDoorTie
import Derived.Test.YtedpbidphajngaaDoorJ
import Derived.Test.YtedpbidphajngaaDoorLD
import Derived.Test.YtedpbidphajngaaDoorQNumbers
import Derived.Test.YtedpbidphajngaaDoorLM
import Derived.WalkKit
import Derived.ProofKit
import Derived.OpenShut
import Derived.ShutString
import Derived.ChangeOld
import Derived.Below
import Derived.Laws.Cover2
import Derived.Lib.SmallJoins
import Derived.JoinedCond
import Derived.Stop.Joined
import Derived.SevenTiedAt
import Derived.Lay
import Derived.MakeChecks
import Derived.Deep.DeepWitnessRowRef
import Derived.PinnedBridge
namespace Go.Proofs.YtedpbidphajngaaDoor.lawFnNumbers
open Go.ChangeShapes Go.WideShapes Go.ChangeAt Go.RowKit Go.Joins
open Go.ChangeMaps (open_string shut_string)
set_option linter.unusedVariables false
set_option linter.unusedSimpArgs false

theorem own : ownKnob Tryd.prog.godebug = none := by kernel_rfl
theorem laidOut : laidOutB Tryd.prog = true := by kernel_rfl
theorem plainL : (Rows.fnNumbersRow.laid.all fun x => x.2.handleName?.isNone) = true := by kernel_rfl

noncomputable def laidW (os : Os) : World := World.laidAll Tryd.prog os Rows.fnNumbersRow.laid
theorem laid_met (os : Os) : laidMetH Tryd.prog Rows.fnNumbersRow.laid ((laidW os).forCall (fun _ _ => 0) ⟨#[], #[.slice none 0 0, .slice none 0 0], []⟩).memory := by
  rw [MakeChecks.laidMetH_plain _ _ _ plainL]
  exact laidMet_laidAll _ (by kernel_rfl) (by kernel_rfl)
theorem reads (os : Os) {H : Type} (enc : TypeId × Value → H) : ∃ places, DataW.whole enc Tryd.prog ((laidW os).forCall (fun _ _ => 0) ⟨#[], #[.slice none 0 0, .slice none 0 0], []⟩).memory Tryd.f9.params.toList Rows.fnNumbersSpec.vars false (#[.slice none 0 0, .slice none 0 0] : Array Value).toList 8 = some ([.nil, .nil], [], places) :=
  ⟨[], by kernel_rfl⟩
set_option maxRecDepth 100000 in
theorem contract (H : Type) (enc : TypeId × Value → H) (W : World) (base : Nat) (args : Array Value) (ds gs : List (DataW H)) (before : List MemPlace)
    (hval0 : ∀ (j : Nat) t v, Tryd.f9.params[j]? = some t → args[j]? = some v → Value.okWide Tryd.prog W .any base t v)
    (hW : DataW.Whole enc Tryd.prog Tryd.f9.params.toList Rows.fnNumbersSpec.vars false W args.toList ds gs before) (hL0 : laidMetH Tryd.prog Rows.fnNumbersRow.laid W) (hS : W.ShapedOpen Tryd.prog) :
    Calls Tryd.prog 9 args W fun e W' => ∃ v, e = .returned v ∧ Rows.fnNumbersSpec.post enc Tryd.prog Tryd.f9 false true false false W args v W' := by
  rw [MakeChecks.laidMetH_plain _ _ _ plainL] at hL0
  have hL : laidMet Tryd.prog Rows.fnNumbersRow.laid W := hL0
  have hval : ∀ (j : Nat) t v, Tryd.f9.params[j]? = some t → args[j]? = some v → Value.okWide Tryd.prog W .any base t v := hval0
  have hW' := hW
  obtain ⟨p, q, hA0, hV, rfl, hfz, hnd⟩ := hW
  have hA : DataW.TrodAll enc Tryd.prog W 0 (fun _ => true) true Tryd.f9.params.toList args.toList ds p := hA0
  rw [Tryd.params9] at hA hval
  obtain ⟨v0, vs0, d0, ds0, p0, q0, hargs, rfl, rfl, h0, r0⟩ := trodAll_cons hA
  obtain ⟨v1, vs1, d1, ds1, p1, q1, rfl, rfl, rfl, h1, r1⟩ := trodAll_cons r0
  obtain ⟨rfl, rfl, rfl⟩ := trodAll_nil r1
  obtain rfl : args = #[v0, v1] := by cases args; simp_all
  obtain ⟨rfl, rfl⟩ := trodVars_none hV
  have k0 := h0
  have lt0 : ∀ x ∈ p0, x.block < W.heap.size := by obtain ⟨m, hm⟩ := k0; exact DataW.trod_lt m _ _ _ hm
  obtain ⟨A_0_, n_0_, c_0_, L_0_, rfl, w_0_⟩ := open_bytes_arg (hval 0 46 v0 rfl rfl) h0
  have k1 := h1
  have lt1 : ∀ x ∈ p1, x.block < W.heap.size := by obtain ⟨m, hm⟩ := k1; exact DataW.trod_lt m _ _ _ hm
  obtain ⟨A_1_, n_1_, c_1_, L_1_, rfl, w_1_⟩ := open_bytes_arg (hval 1 46 v1 rfl rfl) h1
  clear hA0 hval0
  refine (lawFnNumbers (w := W) A_0_ n_0_ c_0_ L_0_ w_0_ A_1_ n_1_ c_1_ L_1_ w_1_ (max_shaped hS)).mono fun e W' ⟨he, bel⟩ => ?_
  subst he
  exact ⟨_, rfl, _, _, _, [], _, [], hW', trodAll_mk1 (shut_bool Tryd.underlying4 _), (trodAll_cons_mk (Below.trod laidOut (by kernel_rfl) (of_decide_eq_true (by kernel_rfl)) k0 bel lt0) (trodAll_cons_mk (Below.trod laidOut (by kernel_rfl) (of_decide_eq_true (by kernel_rfl)) k1 bel lt1) trodAll_mk0)), rfl, bel.frame _, fun h => by cases h⟩

set_option maxRecDepth 100000 in
theorem lifted (os : Os) (started : os.Started) (H : Type) (enc : TypeId × Value → H) (F : Stop.Interp) :
    ReturnsInHanded {} Tryd.checked os 9 .any ((OpenSpec.ofChange Rows.fnNumbersSpec).preRow enc Tryd.prog Tryd.f9 Rows.fnNumbersRow.domain false Rows.fnNumbersRow.laid) (((OpenSpec.ofChange Rows.fnNumbersSpec).at F).post enc Tryd.prog Tryd.f9 false true false false) := by
  obtain ⟨places, hx⟩ := reads os enc
  refine returnsInHanded_of_row (C := Tryd.checked) (s := OpenSpec.ofChange Rows.fnNumbersSpec) own started (by kernel_rfl) Tryd.func9
    (witness_row_atRef (enc := enc) (C := Tryd.checked) false (laidW os) #[.slice none 0 0, .slice none 0 0] rfl (by kernel_rfl) (by kernel_rfl) (by kernel_rfl)
      (OpenSpec.preRow_of_cond 8 hx (by kernel_rfl) (fun k hk => by cases hk) (by kernel_rfl) (laid_met os))) ?_
  intro W base args ds gs before hval hW _ _ _ hL hS _
  exact contract H enc W base args ds gs before hval hW hL hS

theorem g4 : Tryd.f9.params.all (Tryd.prog.readableRec ·) = true := by kernel_rfl
theorem g5 : namedTie Tryd.prog Rows.fnNumbersRow.named Rows.fnNumbersSpec.vars = true := by kernel_rfl
theorem g10 : (Rows.fnNumbersRow.inPlace == Tryd.prog.inPlace 9) = true := by kernel_rfl
theorem g11 : (Rows.fnNumbersRow.unfollowed == Tryd.prog.unfollowed 9) = true := by kernel_rfl
theorem g12 : (Rows.fnNumbersRow.recurses == Tryd.prog.recurses 9) = true := by kernel_rfl
theorem g13 : (Rows.fnNumbersRow.named == Tryd.prog.varsNamed 9) = true := by kernel_rfl
theorem g17 : (Rows.fnNumbersRow.loops == (Tryd.f9.params.toList ++ Rows.fnNumbersSpec.plain.varTypes Tryd.prog).any (Tryd.prog.loopsFrom ·)) = true := by kernel_rfl
theorem g18 : (Rows.fnNumbersRow.wideKeys == (Tryd.f9.params.toList ++ Rows.fnNumbersSpec.plain.varTypes Tryd.prog ++ Tryd.f9.resultTypes.toList).any (Tryd.prog.wideKeysFrom ·)) = true := by kernel_rfl
theorem closed : joinedFacts Tryd.prog 9 Tryd.f9 Rows.fnNumbersSpec Rows.fnNumbersRow = true :=
  joined_mk (by kernel_rfl) j2 j3 g4 g5 (by kernel_rfl) j7 (by kernel_rfl) j9 g10 g11 g12 g13 (by kernel_rfl) (by kernel_rfl) (by kernel_rfl) g17 g18 (by kernel_rfl) (by kernel_rfl) (by kernel_rfl) (by kernel_rfl) j23 (by kernel_rfl) j25 j26 j27 j28 (by kernel_rfl) (by kernel_rfl) (by kernel_rfl) (by kernel_rfl)

set_option maxRecDepth 100000 in
theorem said : Rows.FnNumbersSaid :=
  OpenClaim.holds_of_cond 9 Tryd.f9 rfl rfl rfl rfl rfl rfl rfl ⟨rfl, rfl, rfl, rfl, rfl⟩ rfl rfl rfl rfl rfl (by kernel_rfl) Tryd.func9 closed
    (of_decide_eq_true (by kernel_rfl)) (by unfold Func.isWrapper; first | (rw [if_pos (by decide +kernel)]; kernel_rfl) | (rw [if_neg (by decide +kernel)]; exact ⟨rfl, rfl⟩))
    (fun os started H enc _ F => by rw [OpenClaim.pre_eq_preRow]; exact lifted os started H enc F)

theorem named : Tryd.prog.funcNamed Rows.fnNumbersRow.func = some 9 := by kernel_rfl
theorem looks : true = Tryd.prog.looks [] := by kernel_rfl
theorem stands : (Tryd.f9.params.toList.all fun t => !Tryd.prog.wantsStandIn t) = true := by kernel_rfl
theorem plain (f : FuncId) (fn : Func) (hf : Tryd.pinned.checked.prog.funcNamed Rows.fnNumbersRow.func = some f) (hfn : Tryd.pinned.checked.prog.funcs[f]? = some fn) :
    true = Tryd.pinned.checked.prog.looks [] ∧ ∀ (j : Nat) t, fn.params[j]? = some t → Tryd.pinned.checked.prog.wantsStandIn t = false := by
  obtain rfl : f = 9 := (Option.some.inj (named.symm.trans hf)).symm
  obtain rfl : fn = Tryd.f9 := (Option.some.inj (Tryd.func9.symm.trans hfn)).symm
  refine ⟨looks, fun j t ht => ?_⟩
  have h1 := List.all_eq_true.1 stands t (by have := Array.mem_of_getElem? ht; simpa using this)
  show Tryd.prog.wantsStandIn t = false
  simpa using h1

theorem proved : Rows.FnNumbersCardSaid :=
  Claim7.holds_tied_plain_at .later [] _ _ _ _ said (fun _ h => by cases h) (by kernel_rfl) (fun _ h => by cases h) fnNumbers_row_tie rfl ⟨rfl, rfl⟩ (by kernel_rfl) rfl plain (by kernel_rfl)
#print axioms proved
end Go.Proofs.YtedpbidphajngaaDoor.lawFnNumbers
