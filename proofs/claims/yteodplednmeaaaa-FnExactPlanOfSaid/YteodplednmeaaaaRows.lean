/-
  No cell of these rows narrows 'for every input' (looked for: loops, veiled, ifaces, maps, wideKeys, modest, calm, conditions, laid).
  DERIVED. THE GIVEN ROWS OF THIS SEAT. 16 by the template 'for every input the law returns true; each argument reads behind the call as it read before'; 0 by the template 'total and deterministic' (their statements: YteodplednmeaaaaTotals.lean).
  GIVEN WITH THE SEED: the statements are not yours to turn. If you find one false, say at which input.
  Laid BY PROGRAM, IN A SANDBOX (cutbox-rows.mjs): the forced cells as the released guide's own fill.sh prints them over the translation 518251de34f66262… (all of the seat's roots in one cut). By AI agents, Wed Nov 11 2026. No macro, syntax, notation, axiom, sorry.
-/
import Derived.Test.YteodplednmeaaaaChecked
import GoSem.Claim
import GoSem.ClaimJoined
import GoSem.ClaimMapViews
import Derived.JoinedTies
import Derived.KernelRfl
namespace Go.Proofs.Yteodplednmeaaaa
/- THE CELL 'sum', in the pinned program and in every row, IS THE sha256 OF THE DUMP (.gsa) THAT YteodplednmeaaaaProg.lean LOADS. Nothing in Lean hashes anything: it is a label: what it is worth is what the hold of that sum in a sandbox is worth. -/
noncomputable def Try.pinned : Pinned := { name := "yteodplednmeaaaa", sum := "518251de34f6626292c4c7ab5d18e9f5d2d6d40341599e6e278226b6576fd9a2", checked := Try.checked }
namespace Rows
def none {H : Type} : Left H := { results := [], args := [] }

/-- 'laws.FnExactSumNumbers': WHATEVER THE INPUT: true; the input reads as it did. -/
def fnExactSumNumbersSpec : ChangeSpec := { name := "fnExactSumNumbers", fn := fun _ => fun
  | [d] => { results := [.lit (.bool true)], args := [d] }
  | _ => none }
def fnExactSumNumbersRow : OpenClaim := { program := "yteodplednmeaaaa", sum := "518251de34f6626292c4c7ab5d18e9f5d2d6d40341599e6e278226b6576fd9a2", func := "loop.example/g01346/laws.FnExactSumNumbers", spec := "fnExactSumNumbers", apart := false }
def FnExactSumNumbersSaid : Prop := fnExactSumNumbersRow.holds Try.pinned (OpenSpec.ofChange fnExactSumNumbersSpec)

/-- ITS FALSE NEIGHBOUR: 'it returns false'. Refute it at one input. -/
def fnExactSumNumbersWrong : ChangeSpec := { name := "fnExactSumNumbers", fn := fun _ => fun
  | [d] => { results := [.lit (.bool false)], args := [d] }
  | _ => none }
def FnExactSumNumbersWrongFalsely : Prop := fnExactSumNumbersRow.holds Try.pinned (OpenSpec.ofChange fnExactSumNumbersWrong)

/-- 'laws.FnExactDotNumbers': WHATEVER THE INPUT: true; the input reads as it did. -/
def fnExactDotNumbersSpec : ChangeSpec := { name := "fnExactDotNumbers", fn := fun _ => fun
  | [d1, d2] => { results := [.lit (.bool true)], args := [d1, d2] }
  | _ => none }
def fnExactDotNumbersRow : OpenClaim := { program := "yteodplednmeaaaa", sum := "518251de34f6626292c4c7ab5d18e9f5d2d6d40341599e6e278226b6576fd9a2", func := "loop.example/g01346/laws.FnExactDotNumbers", spec := "fnExactDotNumbers", apart := false }
def FnExactDotNumbersSaid : Prop := fnExactDotNumbersRow.holds Try.pinned (OpenSpec.ofChange fnExactDotNumbersSpec)

/-- ITS FALSE NEIGHBOUR: 'it returns false'. Refute it at one input. -/
def fnExactDotNumbersWrong : ChangeSpec := { name := "fnExactDotNumbers", fn := fun _ => fun
  | [d1, d2] => { results := [.lit (.bool false)], args := [d1, d2] }
  | _ => none }
def FnExactDotNumbersWrongFalsely : Prop := fnExactDotNumbersRow.holds Try.pinned (OpenSpec.ofChange fnExactDotNumbersWrong)

/-- 'laws.FnExactSameRows': WHATEVER THE INPUT: true; the input reads as it did. -/
def fnExactSameRowsSpec : ChangeSpec := { name := "fnExactSameRows", fn := fun _ => fun
  | [d1, d2] => { results := [.lit (.bool true)], args := [d1, d2] }
  | _ => none }
def fnExactSameRowsRow : OpenClaim := { program := "yteodplednmeaaaa", sum := "518251de34f6626292c4c7ab5d18e9f5d2d6d40341599e6e278226b6576fd9a2", func := "loop.example/g01346/laws.FnExactSameRows", spec := "fnExactSameRows", inPlace := ["math.Float32bits"], apart := false }
def FnExactSameRowsSaid : Prop := fnExactSameRowsRow.holds Try.pinned (OpenSpec.ofChange fnExactSameRowsSpec)

/-- ITS FALSE NEIGHBOUR: 'it returns false'. Refute it at one input. -/
def fnExactSameRowsWrong : ChangeSpec := { name := "fnExactSameRows", fn := fun _ => fun
  | [d1, d2] => { results := [.lit (.bool false)], args := [d1, d2] }
  | _ => none }
def FnExactSameRowsWrongFalsely : Prop := fnExactSameRowsRow.holds Try.pinned (OpenSpec.ofChange fnExactSameRowsWrong)

/-- 'laws.FnExactValidRows': WHATEVER THE INPUT: true; the input reads as it did. -/
def fnExactValidRowsSpec : ChangeSpec := { name := "fnExactValidRows", fn := fun _ => fun
  | [d] => { results := [.lit (.bool true)], args := [d] }
  | _ => none }
def fnExactValidRowsRow : OpenClaim := { program := "yteodplednmeaaaa", sum := "518251de34f6626292c4c7ab5d18e9f5d2d6d40341599e6e278226b6576fd9a2", func := "loop.example/g01346/laws.FnExactValidRows", spec := "fnExactValidRows", apart := false }
def FnExactValidRowsSaid : Prop := fnExactValidRowsRow.holds Try.pinned (OpenSpec.ofChange fnExactValidRowsSpec)

/-- ITS FALSE NEIGHBOUR: 'it returns false'. Refute it at one input. -/
def fnExactValidRowsWrong : ChangeSpec := { name := "fnExactValidRows", fn := fun _ => fun
  | [d] => { results := [.lit (.bool false)], args := [d] }
  | _ => none }
def FnExactValidRowsWrongFalsely : Prop := fnExactValidRowsRow.holds Try.pinned (OpenSpec.ofChange fnExactValidRowsWrong)

/-- 'laws.FnExactSameTable': WHATEVER THE INPUT: true; the input reads as it did. -/
def fnExactSameTableSpec : ChangeSpec := { name := "fnExactSameTable", fn := fun _ => fun
  | [d1, d2] => { results := [.lit (.bool true)], args := [d1, d2] }
  | _ => none }
def fnExactSameTableRow : OpenClaim := { program := "yteodplednmeaaaa", sum := "518251de34f6626292c4c7ab5d18e9f5d2d6d40341599e6e278226b6576fd9a2", func := "loop.example/g01346/laws.FnExactSameTable", spec := "fnExactSameTable", inPlace := ["math.Float32bits"], apart := false }
def FnExactSameTableSaid : Prop := fnExactSameTableRow.holds Try.pinned (OpenSpec.ofChange fnExactSameTableSpec)

/-- ITS FALSE NEIGHBOUR: 'it returns false'. Refute it at one input. -/
def fnExactSameTableWrong : ChangeSpec := { name := "fnExactSameTable", fn := fun _ => fun
  | [d1, d2] => { results := [.lit (.bool false)], args := [d1, d2] }
  | _ => none }
def FnExactSameTableWrongFalsely : Prop := fnExactSameTableRow.holds Try.pinned (OpenSpec.ofChange fnExactSameTableWrong)

/-- 'laws.FnExactValidTable': WHATEVER THE INPUT: true; the input reads as it did. -/
def fnExactValidTableSpec : ChangeSpec := { name := "fnExactValidTable", fn := fun _ => fun
  | [d] => { results := [.lit (.bool true)], args := [d] }
  | _ => none }
def fnExactValidTableRow : OpenClaim := { program := "yteodplednmeaaaa", sum := "518251de34f6626292c4c7ab5d18e9f5d2d6d40341599e6e278226b6576fd9a2", func := "loop.example/g01346/laws.FnExactValidTable", spec := "fnExactValidTable", apart := false }
def FnExactValidTableSaid : Prop := fnExactValidTableRow.holds Try.pinned (OpenSpec.ofChange fnExactValidTableSpec)

/-- ITS FALSE NEIGHBOUR: 'it returns false'. Refute it at one input. -/
def fnExactValidTableWrong : ChangeSpec := { name := "fnExactValidTable", fn := fun _ => fun
  | [d] => { results := [.lit (.bool false)], args := [d] }
  | _ => none }
def FnExactValidTableWrongFalsely : Prop := fnExactValidTableRow.holds Try.pinned (OpenSpec.ofChange fnExactValidTableWrong)

/-- 'laws.FnExactGainOf': WHATEVER THE INPUT: true; the input reads as it did. -/
def fnExactGainOfSpec : ChangeSpec := { name := "fnExactGainOf", fn := fun _ => fun
  | [d1, d2] => { results := [.lit (.bool true)], args := [d1, d2] }
  | _ => none }
def fnExactGainOfRow : OpenClaim := { program := "yteodplednmeaaaa", sum := "518251de34f6626292c4c7ab5d18e9f5d2d6d40341599e6e278226b6576fd9a2", func := "loop.example/g01346/laws.FnExactGainOf", spec := "fnExactGainOf", apart := false }
def FnExactGainOfSaid : Prop := fnExactGainOfRow.holds Try.pinned (OpenSpec.ofChange fnExactGainOfSpec)

/-- ITS FALSE NEIGHBOUR: 'it returns false'. Refute it at one input. -/
def fnExactGainOfWrong : ChangeSpec := { name := "fnExactGainOf", fn := fun _ => fun
  | [d1, d2] => { results := [.lit (.bool false)], args := [d1, d2] }
  | _ => none }
def FnExactGainOfWrongFalsely : Prop := fnExactGainOfRow.holds Try.pinned (OpenSpec.ofChange fnExactGainOfWrong)

/-- 'laws.FnExactArePrices': WHATEVER THE INPUT: true; the input reads as it did. -/
def fnExactArePricesSpec : ChangeSpec := { name := "fnExactArePrices", fn := fun _ => fun
  | [d1, d2, d3] => { results := [.lit (.bool true)], args := [d1, d2, d3] }
  | _ => none }
def fnExactArePricesRow : OpenClaim := { program := "yteodplednmeaaaa", sum := "518251de34f6626292c4c7ab5d18e9f5d2d6d40341599e6e278226b6576fd9a2", func := "loop.example/g01346/laws.FnExactArePrices", spec := "fnExactArePrices", apart := false }
def FnExactArePricesSaid : Prop := fnExactArePricesRow.holds Try.pinned (OpenSpec.ofChange fnExactArePricesSpec)

/-- ITS FALSE NEIGHBOUR: 'it returns false'. Refute it at one input. -/
def fnExactArePricesWrong : ChangeSpec := { name := "fnExactArePrices", fn := fun _ => fun
  | [d1, d2, d3] => { results := [.lit (.bool false)], args := [d1, d2, d3] }
  | _ => none }
def FnExactArePricesWrongFalsely : Prop := fnExactArePricesRow.holds Try.pinned (OpenSpec.ofChange fnExactArePricesWrong)

/-- 'laws.FnExactIsRay': WHATEVER THE INPUT: true; the input reads as it did. -/
def fnExactIsRaySpec : ChangeSpec := { name := "fnExactIsRay", fn := fun _ => fun
  | [d1, d2, d3] => { results := [.lit (.bool true)], args := [d1, d2, d3] }
  | _ => none }
def fnExactIsRayRow : OpenClaim := { program := "yteodplednmeaaaa", sum := "518251de34f6626292c4c7ab5d18e9f5d2d6d40341599e6e278226b6576fd9a2", func := "loop.example/g01346/laws.FnExactIsRay", spec := "fnExactIsRay", apart := false }
def FnExactIsRaySaid : Prop := fnExactIsRayRow.holds Try.pinned (OpenSpec.ofChange fnExactIsRaySpec)

/-- ITS FALSE NEIGHBOUR: 'it returns false'. Refute it at one input. -/
def fnExactIsRayWrong : ChangeSpec := { name := "fnExactIsRay", fn := fun _ => fun
  | [d1, d2, d3] => { results := [.lit (.bool false)], args := [d1, d2, d3] }
  | _ => none }
def FnExactIsRayWrongFalsely : Prop := fnExactIsRayRow.holds Try.pinned (OpenSpec.ofChange fnExactIsRayWrong)

/-- 'laws.FnExactPriceGap': WHATEVER THE INPUT: true; the input reads as it did. -/
def fnExactPriceGapSpec : ChangeSpec := { name := "fnExactPriceGap", fn := fun _ => fun
  | [d1, d2, d3] => { results := [.lit (.bool true)], args := [d1, d2, d3] }
  | _ => none }
def fnExactPriceGapRow : OpenClaim := { program := "yteodplednmeaaaa", sum := "518251de34f6626292c4c7ab5d18e9f5d2d6d40341599e6e278226b6576fd9a2", func := "loop.example/g01346/laws.FnExactPriceGap", spec := "fnExactPriceGap", apart := false }
def FnExactPriceGapSaid : Prop := fnExactPriceGapRow.holds Try.pinned (OpenSpec.ofChange fnExactPriceGapSpec)

/-- ITS FALSE NEIGHBOUR: 'it returns false'. Refute it at one input. -/
def fnExactPriceGapWrong : ChangeSpec := { name := "fnExactPriceGap", fn := fun _ => fun
  | [d1, d2, d3] => { results := [.lit (.bool false)], args := [d1, d2, d3] }
  | _ => none }
def FnExactPriceGapWrongFalsely : Prop := fnExactPriceGapRow.holds Try.pinned (OpenSpec.ofChange fnExactPriceGapWrong)

/-- 'laws.FnExactEnterOf': WHATEVER THE INPUT: true; the input reads as it did. -/
def fnExactEnterOfSpec : ChangeSpec := { name := "fnExactEnterOf", fn := fun _ => fun
  | [d1, d2] => { results := [.lit (.bool true)], args := [d1, d2] }
  | _ => none }
def fnExactEnterOfRow : OpenClaim := { program := "yteodplednmeaaaa", sum := "518251de34f6626292c4c7ab5d18e9f5d2d6d40341599e6e278226b6576fd9a2", func := "loop.example/g01346/laws.FnExactEnterOf", spec := "fnExactEnterOf", apart := false }
def FnExactEnterOfSaid : Prop := fnExactEnterOfRow.holds Try.pinned (OpenSpec.ofChange fnExactEnterOfSpec)

/-- ITS FALSE NEIGHBOUR: 'it returns false'. Refute it at one input. -/
def fnExactEnterOfWrong : ChangeSpec := { name := "fnExactEnterOf", fn := fun _ => fun
  | [d1, d2] => { results := [.lit (.bool false)], args := [d1, d2] }
  | _ => none }
def FnExactEnterOfWrongFalsely : Prop := fnExactEnterOfRow.holds Try.pinned (OpenSpec.ofChange fnExactEnterOfWrong)

/-- 'laws.FnExactLeftOf': WHATEVER THE INPUT: true; the input reads as it did. -/
def fnExactLeftOfSpec : ChangeSpec := { name := "fnExactLeftOf", fn := fun _ => fun
  | [d1, d2] => { results := [.lit (.bool true)], args := [d1, d2] }
  | _ => none }
def fnExactLeftOfRow : OpenClaim := { program := "yteodplednmeaaaa", sum := "518251de34f6626292c4c7ab5d18e9f5d2d6d40341599e6e278226b6576fd9a2", func := "loop.example/g01346/laws.FnExactLeftOf", spec := "fnExactLeftOf", apart := false }
def FnExactLeftOfSaid : Prop := fnExactLeftOfRow.holds Try.pinned (OpenSpec.ofChange fnExactLeftOfSpec)

/-- ITS FALSE NEIGHBOUR: 'it returns false'. Refute it at one input. -/
def fnExactLeftOfWrong : ChangeSpec := { name := "fnExactLeftOf", fn := fun _ => fun
  | [d1, d2] => { results := [.lit (.bool false)], args := [d1, d2] }
  | _ => none }
def FnExactLeftOfWrongFalsely : Prop := fnExactLeftOfRow.holds Try.pinned (OpenSpec.ofChange fnExactLeftOfWrong)

/-- 'laws.FnExactIsPlan': WHATEVER THE INPUT: true; the input reads as it did. -/
def fnExactIsPlanSpec : ChangeSpec := { name := "fnExactIsPlan", fn := fun _ => fun
  | [d1, d2, d3] => { results := [.lit (.bool true)], args := [d1, d2, d3] }
  | _ => none }
def fnExactIsPlanRow : OpenClaim := { program := "yteodplednmeaaaa", sum := "518251de34f6626292c4c7ab5d18e9f5d2d6d40341599e6e278226b6576fd9a2", func := "loop.example/g01346/laws.FnExactIsPlan", spec := "fnExactIsPlan", apart := false }
def FnExactIsPlanSaid : Prop := fnExactIsPlanRow.holds Try.pinned (OpenSpec.ofChange fnExactIsPlanSpec)

/-- ITS FALSE NEIGHBOUR: 'it returns false'. Refute it at one input. -/
def fnExactIsPlanWrong : ChangeSpec := { name := "fnExactIsPlan", fn := fun _ => fun
  | [d1, d2, d3] => { results := [.lit (.bool false)], args := [d1, d2, d3] }
  | _ => none }
def FnExactIsPlanWrongFalsely : Prop := fnExactIsPlanRow.holds Try.pinned (OpenSpec.ofChange fnExactIsPlanWrong)

/-- 'laws.FnExactLeaveOf': WHATEVER THE INPUT: true; the input reads as it did. -/
def fnExactLeaveOfSpec : ChangeSpec := { name := "fnExactLeaveOf", fn := fun _ => fun
  | [d1, d2, d3] => { results := [.lit (.bool true)], args := [d1, d2, d3] }
  | _ => none }
def fnExactLeaveOfRow : OpenClaim := { program := "yteodplednmeaaaa", sum := "518251de34f6626292c4c7ab5d18e9f5d2d6d40341599e6e278226b6576fd9a2", func := "loop.example/g01346/laws.FnExactLeaveOf", spec := "fnExactLeaveOf", apart := false }
def FnExactLeaveOfSaid : Prop := fnExactLeaveOfRow.holds Try.pinned (OpenSpec.ofChange fnExactLeaveOfSpec)

/-- ITS FALSE NEIGHBOUR: 'it returns false'. Refute it at one input. -/
def fnExactLeaveOfWrong : ChangeSpec := { name := "fnExactLeaveOf", fn := fun _ => fun
  | [d1, d2, d3] => { results := [.lit (.bool false)], args := [d1, d2, d3] }
  | _ => none }
def FnExactLeaveOfWrongFalsely : Prop := fnExactLeaveOfRow.holds Try.pinned (OpenSpec.ofChange fnExactLeaveOfWrong)

/-- 'laws.FnExactPricesOf': WHATEVER THE INPUT: true; the input reads as it did. -/
def fnExactPricesOfSpec : ChangeSpec := { name := "fnExactPricesOf", fn := fun _ => fun
  | [d] => { results := [.lit (.bool true)], args := [d] }
  | _ => none }
def fnExactPricesOfRow : OpenClaim := { program := "yteodplednmeaaaa", sum := "518251de34f6626292c4c7ab5d18e9f5d2d6d40341599e6e278226b6576fd9a2", func := "loop.example/g01346/laws.FnExactPricesOf", spec := "fnExactPricesOf", apart := false }
def FnExactPricesOfSaid : Prop := fnExactPricesOfRow.holds Try.pinned (OpenSpec.ofChange fnExactPricesOfSpec)

/-- ITS FALSE NEIGHBOUR: 'it returns false'. Refute it at one input. -/
def fnExactPricesOfWrong : ChangeSpec := { name := "fnExactPricesOf", fn := fun _ => fun
  | [d] => { results := [.lit (.bool false)], args := [d] }
  | _ => none }
def FnExactPricesOfWrongFalsely : Prop := fnExactPricesOfRow.holds Try.pinned (OpenSpec.ofChange fnExactPricesOfWrong)

/-- 'laws.FnExactPlanOf': WHATEVER THE INPUT: true; the input reads as it did. -/
def fnExactPlanOfSpec : ChangeSpec := { name := "fnExactPlanOf", fn := fun _ => fun
  | [d] => { results := [.lit (.bool true)], args := [d] }
  | _ => none }
def fnExactPlanOfRow : OpenClaim := { program := "yteodplednmeaaaa", sum := "518251de34f6626292c4c7ab5d18e9f5d2d6d40341599e6e278226b6576fd9a2", func := "loop.example/g01346/laws.FnExactPlanOf", spec := "fnExactPlanOf", apart := false }
def FnExactPlanOfSaid : Prop := fnExactPlanOfRow.holds Try.pinned (OpenSpec.ofChange fnExactPlanOfSpec)

/-- ITS FALSE NEIGHBOUR: 'it returns false'. Refute it at one input. -/
def fnExactPlanOfWrong : ChangeSpec := { name := "fnExactPlanOf", fn := fun _ => fun
  | [d] => { results := [.lit (.bool false)], args := [d] }
  | _ => none }
def FnExactPlanOfWrongFalsely : Prop := fnExactPlanOfRow.holds Try.pinned (OpenSpec.ofChange fnExactPlanOfWrong)

/- THE SECOND FORM. 'bulk': how many values and letters a reading holds, each counted each time it is reached (what is shared counts as often as it is met; a slice's spare places count too). A statement '..UptoSaid' is the law's where the arguments, and the package variables that the reading takes, are together of bulk at most 1048576: NARROWER than '..Said'. Prove '..Said' where nothing that the law and all that it calls make is longer than what came in: it says more and counts as full. Else prove '..UptoSaid'. A law counts once. -/
mutual
def uptoBulk {H : Type} : DataW H → Nat
  | .lit (.string bytes) => bytes.length + 1
  | .lit _ => 1
  | .nil => 1
  | .ptr d => uptoBulk d + 1
  | .slice elems spare => uptoBulkAll elems + uptoBulkAll spare + 1
  | .agg parts => uptoBulkAll parts + 1
  | .iface _ d => uptoBulk d + 1
  | .map entries => uptoBulkEntries entries + 1
  | .held _ => 1
def uptoBulkAll {H : Type} : List (DataW H) → Nat
  | [] => 0
  | d :: r => uptoBulk d + uptoBulkAll r
def uptoBulkEntries {H : Type} : List (Lit × DataW H) → Nat
  | [] => 0
  | x :: r => uptoBulkEntry x + uptoBulkEntries r
def uptoBulkEntry {H : Type} : Lit × DataW H → Nat
  | (.string bytes, d) => bytes.length + uptoBulk d + 1
  | (_, d) => uptoBulk d + 1
 end
def uptoSmall : (H : Type) → List (DataW H) → Bool := fun _ ds => decide (uptoBulkAll ds ≤ 1048576)
def OpenSpec.upto (s : _root_.Go.ChangeSpec) : _root_.Go.OpenSpec := { _root_.Go.OpenSpec.ofChange s with cond := some uptoSmall }

/-- 'laws.FnExactSumNumbers', WHERE WHAT IT READS IS OF BULK AT MOST 1048576: true; the input reads as it did. -/
def fnExactSumNumbersUptoRow : OpenClaim := { program := "yteodplednmeaaaa", sum := "518251de34f6626292c4c7ab5d18e9f5d2d6d40341599e6e278226b6576fd9a2", func := "loop.example/g01346/laws.FnExactSumNumbers", spec := "fnExactSumNumbers", apart := false, narrowed := true }
def FnExactSumNumbersUptoSaid : Prop := fnExactSumNumbersUptoRow.holds Try.pinned (OpenSpec.upto fnExactSumNumbersSpec)

/-- 'laws.FnExactDotNumbers', WHERE WHAT IT READS IS OF BULK AT MOST 1048576: true; the input reads as it did. -/
def fnExactDotNumbersUptoRow : OpenClaim := { program := "yteodplednmeaaaa", sum := "518251de34f6626292c4c7ab5d18e9f5d2d6d40341599e6e278226b6576fd9a2", func := "loop.example/g01346/laws.FnExactDotNumbers", spec := "fnExactDotNumbers", apart := false, narrowed := true }
def FnExactDotNumbersUptoSaid : Prop := fnExactDotNumbersUptoRow.holds Try.pinned (OpenSpec.upto fnExactDotNumbersSpec)

/-- 'laws.FnExactSameRows', WHERE WHAT IT READS IS OF BULK AT MOST 1048576: true; the input reads as it did. -/
def fnExactSameRowsUptoRow : OpenClaim := { program := "yteodplednmeaaaa", sum := "518251de34f6626292c4c7ab5d18e9f5d2d6d40341599e6e278226b6576fd9a2", func := "loop.example/g01346/laws.FnExactSameRows", spec := "fnExactSameRows", inPlace := ["math.Float32bits"], apart := false, narrowed := true }
def FnExactSameRowsUptoSaid : Prop := fnExactSameRowsUptoRow.holds Try.pinned (OpenSpec.upto fnExactSameRowsSpec)

/-- 'laws.FnExactValidRows', WHERE WHAT IT READS IS OF BULK AT MOST 1048576: true; the input reads as it did. -/
def fnExactValidRowsUptoRow : OpenClaim := { program := "yteodplednmeaaaa", sum := "518251de34f6626292c4c7ab5d18e9f5d2d6d40341599e6e278226b6576fd9a2", func := "loop.example/g01346/laws.FnExactValidRows", spec := "fnExactValidRows", apart := false, narrowed := true }
def FnExactValidRowsUptoSaid : Prop := fnExactValidRowsUptoRow.holds Try.pinned (OpenSpec.upto fnExactValidRowsSpec)

/-- 'laws.FnExactSameTable', WHERE WHAT IT READS IS OF BULK AT MOST 1048576: true; the input reads as it did. -/
def fnExactSameTableUptoRow : OpenClaim := { program := "yteodplednmeaaaa", sum := "518251de34f6626292c4c7ab5d18e9f5d2d6d40341599e6e278226b6576fd9a2", func := "loop.example/g01346/laws.FnExactSameTable", spec := "fnExactSameTable", inPlace := ["math.Float32bits"], apart := false, narrowed := true }
def FnExactSameTableUptoSaid : Prop := fnExactSameTableUptoRow.holds Try.pinned (OpenSpec.upto fnExactSameTableSpec)

/-- 'laws.FnExactValidTable', WHERE WHAT IT READS IS OF BULK AT MOST 1048576: true; the input reads as it did. -/
def fnExactValidTableUptoRow : OpenClaim := { program := "yteodplednmeaaaa", sum := "518251de34f6626292c4c7ab5d18e9f5d2d6d40341599e6e278226b6576fd9a2", func := "loop.example/g01346/laws.FnExactValidTable", spec := "fnExactValidTable", apart := false, narrowed := true }
def FnExactValidTableUptoSaid : Prop := fnExactValidTableUptoRow.holds Try.pinned (OpenSpec.upto fnExactValidTableSpec)

/-- 'laws.FnExactGainOf', WHERE WHAT IT READS IS OF BULK AT MOST 1048576: true; the input reads as it did. -/
def fnExactGainOfUptoRow : OpenClaim := { program := "yteodplednmeaaaa", sum := "518251de34f6626292c4c7ab5d18e9f5d2d6d40341599e6e278226b6576fd9a2", func := "loop.example/g01346/laws.FnExactGainOf", spec := "fnExactGainOf", apart := false, narrowed := true }
def FnExactGainOfUptoSaid : Prop := fnExactGainOfUptoRow.holds Try.pinned (OpenSpec.upto fnExactGainOfSpec)

/-- 'laws.FnExactArePrices', WHERE WHAT IT READS IS OF BULK AT MOST 1048576: true; the input reads as it did. -/
def fnExactArePricesUptoRow : OpenClaim := { program := "yteodplednmeaaaa", sum := "518251de34f6626292c4c7ab5d18e9f5d2d6d40341599e6e278226b6576fd9a2", func := "loop.example/g01346/laws.FnExactArePrices", spec := "fnExactArePrices", apart := false, narrowed := true }
def FnExactArePricesUptoSaid : Prop := fnExactArePricesUptoRow.holds Try.pinned (OpenSpec.upto fnExactArePricesSpec)

/-- 'laws.FnExactIsRay', WHERE WHAT IT READS IS OF BULK AT MOST 1048576: true; the input reads as it did. -/
def fnExactIsRayUptoRow : OpenClaim := { program := "yteodplednmeaaaa", sum := "518251de34f6626292c4c7ab5d18e9f5d2d6d40341599e6e278226b6576fd9a2", func := "loop.example/g01346/laws.FnExactIsRay", spec := "fnExactIsRay", apart := false, narrowed := true }
def FnExactIsRayUptoSaid : Prop := fnExactIsRayUptoRow.holds Try.pinned (OpenSpec.upto fnExactIsRaySpec)

/-- 'laws.FnExactPriceGap', WHERE WHAT IT READS IS OF BULK AT MOST 1048576: true; the input reads as it did. -/
def fnExactPriceGapUptoRow : OpenClaim := { program := "yteodplednmeaaaa", sum := "518251de34f6626292c4c7ab5d18e9f5d2d6d40341599e6e278226b6576fd9a2", func := "loop.example/g01346/laws.FnExactPriceGap", spec := "fnExactPriceGap", apart := false, narrowed := true }
def FnExactPriceGapUptoSaid : Prop := fnExactPriceGapUptoRow.holds Try.pinned (OpenSpec.upto fnExactPriceGapSpec)

/-- 'laws.FnExactEnterOf', WHERE WHAT IT READS IS OF BULK AT MOST 1048576: true; the input reads as it did. -/
def fnExactEnterOfUptoRow : OpenClaim := { program := "yteodplednmeaaaa", sum := "518251de34f6626292c4c7ab5d18e9f5d2d6d40341599e6e278226b6576fd9a2", func := "loop.example/g01346/laws.FnExactEnterOf", spec := "fnExactEnterOf", apart := false, narrowed := true }
def FnExactEnterOfUptoSaid : Prop := fnExactEnterOfUptoRow.holds Try.pinned (OpenSpec.upto fnExactEnterOfSpec)

/-- 'laws.FnExactLeftOf', WHERE WHAT IT READS IS OF BULK AT MOST 1048576: true; the input reads as it did. -/
def fnExactLeftOfUptoRow : OpenClaim := { program := "yteodplednmeaaaa", sum := "518251de34f6626292c4c7ab5d18e9f5d2d6d40341599e6e278226b6576fd9a2", func := "loop.example/g01346/laws.FnExactLeftOf", spec := "fnExactLeftOf", apart := false, narrowed := true }
def FnExactLeftOfUptoSaid : Prop := fnExactLeftOfUptoRow.holds Try.pinned (OpenSpec.upto fnExactLeftOfSpec)

/-- 'laws.FnExactIsPlan', WHERE WHAT IT READS IS OF BULK AT MOST 1048576: true; the input reads as it did. -/
def fnExactIsPlanUptoRow : OpenClaim := { program := "yteodplednmeaaaa", sum := "518251de34f6626292c4c7ab5d18e9f5d2d6d40341599e6e278226b6576fd9a2", func := "loop.example/g01346/laws.FnExactIsPlan", spec := "fnExactIsPlan", apart := false, narrowed := true }
def FnExactIsPlanUptoSaid : Prop := fnExactIsPlanUptoRow.holds Try.pinned (OpenSpec.upto fnExactIsPlanSpec)

/-- 'laws.FnExactLeaveOf', WHERE WHAT IT READS IS OF BULK AT MOST 1048576: true; the input reads as it did. -/
def fnExactLeaveOfUptoRow : OpenClaim := { program := "yteodplednmeaaaa", sum := "518251de34f6626292c4c7ab5d18e9f5d2d6d40341599e6e278226b6576fd9a2", func := "loop.example/g01346/laws.FnExactLeaveOf", spec := "fnExactLeaveOf", apart := false, narrowed := true }
def FnExactLeaveOfUptoSaid : Prop := fnExactLeaveOfUptoRow.holds Try.pinned (OpenSpec.upto fnExactLeaveOfSpec)

/-- 'laws.FnExactPricesOf', WHERE WHAT IT READS IS OF BULK AT MOST 1048576: true; the input reads as it did. -/
def fnExactPricesOfUptoRow : OpenClaim := { program := "yteodplednmeaaaa", sum := "518251de34f6626292c4c7ab5d18e9f5d2d6d40341599e6e278226b6576fd9a2", func := "loop.example/g01346/laws.FnExactPricesOf", spec := "fnExactPricesOf", apart := false, narrowed := true }
def FnExactPricesOfUptoSaid : Prop := fnExactPricesOfUptoRow.holds Try.pinned (OpenSpec.upto fnExactPricesOfSpec)

/-- 'laws.FnExactPlanOf', WHERE WHAT IT READS IS OF BULK AT MOST 1048576: true; the input reads as it did. -/
def fnExactPlanOfUptoRow : OpenClaim := { program := "yteodplednmeaaaa", sum := "518251de34f6626292c4c7ab5d18e9f5d2d6d40341599e6e278226b6576fd9a2", func := "loop.example/g01346/laws.FnExactPlanOf", spec := "fnExactPlanOf", apart := false, narrowed := true }
def FnExactPlanOfUptoSaid : Prop := fnExactPlanOfUptoRow.holds Try.pinned (OpenSpec.upto fnExactPlanOfSpec)

end Rows
end Go.Proofs.Yteodplednmeaaaa
