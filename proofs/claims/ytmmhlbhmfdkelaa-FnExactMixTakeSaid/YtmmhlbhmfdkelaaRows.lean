/-
  No cell of these rows narrows 'for every input' (looked for: loops, veiled, ifaces, maps, wideKeys, modest, calm, conditions, laid).
  DERIVED. THE GIVEN ROWS OF THIS SEAT. 12 by the template 'for every input the law returns true; each argument reads behind the call as it read before'; 0 by the template 'total and deterministic' (their statements: YtmmhlbhmfdkelaaTotals.lean).
  GIVEN WITH THE SEED: the statements are not yours to turn. If you find one false, say at which input.
  Laid BY PROGRAM, IN A SANDBOX (cutbox-rows.mjs): the forced cells as the released guide's own fill.sh prints them over the translation d273e60cbe34b69d… (all of the seat's roots in one cut). By AI agents, Wed Nov 11 2026. No macro, syntax, notation, axiom, sorry.
-/
import Derived.Test.YtmmhlbhmfdkelaaChecked
import GoSem.Claim
import GoSem.ClaimJoined
import GoSem.ClaimMapViews
import Derived.JoinedTies
import Derived.KernelRfl
namespace Go.Proofs.Ytmmhlbhmfdkelaa
/- THE CELL 'sum', in the pinned program and in every row, IS THE sha256 OF THE DUMP (.gsa) THAT YtmmhlbhmfdkelaaProg.lean LOADS. Nothing in Lean hashes anything: it is a label: what it is worth is what the hold of that sum in a sandbox is worth. -/
noncomputable def Try.pinned : Pinned := { name := "ytmmhlbhmfdkelaa", sum := "d273e60cbe34b69d8a4b3b9584b2bbe71420f2ec36be76df166b0607bebcde6d", checked := Try.checked }
namespace Rows
def none {H : Type} : Left H := { results := [], args := [] }

/-- 'laws.FnExactConstants': WHATEVER THE INPUT: true; the input reads as it did. -/
def fnExactConstantsSpec : ChangeSpec := { name := "fnExactConstants", fn := fun _ => fun
  | [] => { results := [.lit (.bool true)], args := [] }
  | _ => none }
def fnExactConstantsRow : OpenClaim := { program := "ytmmhlbhmfdkelaa", sum := "d273e60cbe34b69d8a4b3b9584b2bbe71420f2ec36be76df166b0607bebcde6d", func := "loop.example/steelmill/laws.FnExactConstants", spec := "fnExactConstants", apart := false }
def FnExactConstantsSaid : Prop := fnExactConstantsRow.holds Try.pinned (OpenSpec.ofChange fnExactConstantsSpec)

/-- ITS FALSE NEIGHBOUR: 'it returns false'. Refute it at one input. -/
def fnExactConstantsWrong : ChangeSpec := { name := "fnExactConstants", fn := fun _ => fun
  | [] => { results := [.lit (.bool false)], args := [] }
  | _ => none }
def FnExactConstantsWrongFalsely : Prop := fnExactConstantsRow.holds Try.pinned (OpenSpec.ofChange fnExactConstantsWrong)

/-- 'laws.FnExactStuffValid': WHATEVER THE INPUT: true; the input reads as it did. -/
def fnExactStuffValidSpec : ChangeSpec := { name := "fnExactStuffValid", fn := fun _ => fun
  | [d] => { results := [.lit (.bool true)], args := [d] }
  | _ => none }
def fnExactStuffValidRow : OpenClaim := { program := "ytmmhlbhmfdkelaa", sum := "d273e60cbe34b69d8a4b3b9584b2bbe71420f2ec36be76df166b0607bebcde6d", func := "loop.example/steelmill/laws.FnExactStuffValid", spec := "fnExactStuffValid", apart := false }
def FnExactStuffValidSaid : Prop := fnExactStuffValidRow.holds Try.pinned (OpenSpec.ofChange fnExactStuffValidSpec)

/-- ITS FALSE NEIGHBOUR: 'it returns false'. Refute it at one input. -/
def fnExactStuffValidWrong : ChangeSpec := { name := "fnExactStuffValid", fn := fun _ => fun
  | [d] => { results := [.lit (.bool false)], args := [d] }
  | _ => none }
def FnExactStuffValidWrongFalsely : Prop := fnExactStuffValidRow.holds Try.pinned (OpenSpec.ofChange fnExactStuffValidWrong)

/-- 'laws.FnExactGradeValid': WHATEVER THE INPUT: true; the input reads as it did. -/
def fnExactGradeValidSpec : ChangeSpec := { name := "fnExactGradeValid", fn := fun _ => fun
  | [d] => { results := [.lit (.bool true)], args := [d] }
  | _ => none }
def fnExactGradeValidRow : OpenClaim := { program := "ytmmhlbhmfdkelaa", sum := "d273e60cbe34b69d8a4b3b9584b2bbe71420f2ec36be76df166b0607bebcde6d", func := "loop.example/steelmill/laws.FnExactGradeValid", spec := "fnExactGradeValid", apart := false }
def FnExactGradeValidSaid : Prop := fnExactGradeValidRow.holds Try.pinned (OpenSpec.ofChange fnExactGradeValidSpec)

/-- ITS FALSE NEIGHBOUR: 'it returns false'. Refute it at one input. -/
def fnExactGradeValidWrong : ChangeSpec := { name := "fnExactGradeValid", fn := fun _ => fun
  | [d] => { results := [.lit (.bool false)], args := [d] }
  | _ => none }
def FnExactGradeValidWrongFalsely : Prop := fnExactGradeValidRow.holds Try.pinned (OpenSpec.ofChange fnExactGradeValidWrong)

/-- 'laws.FnExactMixTons': WHATEVER THE INPUT: true; the input reads as it did. -/
def fnExactMixTonsSpec : ChangeSpec := { name := "fnExactMixTons", fn := fun _ => fun
  | [d] => { results := [.lit (.bool true)], args := [d] }
  | _ => none }
def fnExactMixTonsRow : OpenClaim := { program := "ytmmhlbhmfdkelaa", sum := "d273e60cbe34b69d8a4b3b9584b2bbe71420f2ec36be76df166b0607bebcde6d", func := "loop.example/steelmill/laws.FnExactMixTons", spec := "fnExactMixTons", apart := false }
def FnExactMixTonsSaid : Prop := fnExactMixTonsRow.holds Try.pinned (OpenSpec.ofChange fnExactMixTonsSpec)

/-- ITS FALSE NEIGHBOUR: 'it returns false'. Refute it at one input. -/
def fnExactMixTonsWrong : ChangeSpec := { name := "fnExactMixTons", fn := fun _ => fun
  | [d] => { results := [.lit (.bool false)], args := [d] }
  | _ => none }
def FnExactMixTonsWrongFalsely : Prop := fnExactMixTonsRow.holds Try.pinned (OpenSpec.ofChange fnExactMixTonsWrong)

/-- 'laws.FnExactGradeWithin': WHATEVER THE INPUT: true; the input reads as it did. -/
def fnExactGradeWithinSpec : ChangeSpec := { name := "fnExactGradeWithin", fn := fun _ => fun
  | [d1, d2] => { results := [.lit (.bool true)], args := [d1, d2] }
  | _ => none }
def fnExactGradeWithinRow : OpenClaim := { program := "ytmmhlbhmfdkelaa", sum := "d273e60cbe34b69d8a4b3b9584b2bbe71420f2ec36be76df166b0607bebcde6d", func := "loop.example/steelmill/laws.FnExactGradeWithin", spec := "fnExactGradeWithin", apart := false }
def FnExactGradeWithinSaid : Prop := fnExactGradeWithinRow.holds Try.pinned (OpenSpec.ofChange fnExactGradeWithinSpec)

/-- ITS FALSE NEIGHBOUR: 'it returns false'. Refute it at one input. -/
def fnExactGradeWithinWrong : ChangeSpec := { name := "fnExactGradeWithin", fn := fun _ => fun
  | [d1, d2] => { results := [.lit (.bool false)], args := [d1, d2] }
  | _ => none }
def FnExactGradeWithinWrongFalsely : Prop := fnExactGradeWithinRow.holds Try.pinned (OpenSpec.ofChange fnExactGradeWithinWrong)

/-- 'laws.FnExactGradeMeet': WHATEVER THE INPUT: true; the input reads as it did. -/
def fnExactGradeMeetSpec : ChangeSpec := { name := "fnExactGradeMeet", fn := fun _ => fun
  | [d1, d2] => { results := [.lit (.bool true)], args := [d1, d2] }
  | _ => none }
def fnExactGradeMeetRow : OpenClaim := { program := "ytmmhlbhmfdkelaa", sum := "d273e60cbe34b69d8a4b3b9584b2bbe71420f2ec36be76df166b0607bebcde6d", func := "loop.example/steelmill/laws.FnExactGradeMeet", spec := "fnExactGradeMeet", apart := false }
def FnExactGradeMeetSaid : Prop := fnExactGradeMeetRow.holds Try.pinned (OpenSpec.ofChange fnExactGradeMeetSpec)

/-- ITS FALSE NEIGHBOUR: 'it returns false'. Refute it at one input. -/
def fnExactGradeMeetWrong : ChangeSpec := { name := "fnExactGradeMeet", fn := fun _ => fun
  | [d1, d2] => { results := [.lit (.bool false)], args := [d1, d2] }
  | _ => none }
def FnExactGradeMeetWrongFalsely : Prop := fnExactGradeMeetRow.holds Try.pinned (OpenSpec.ofChange fnExactGradeMeetWrong)

/-- 'laws.FnExactStuffsValid': WHATEVER THE INPUT: true; the input reads as it did. -/
def fnExactStuffsValidSpec : ChangeSpec := { name := "fnExactStuffsValid", fn := fun _ => fun
  | [d] => { results := [.lit (.bool true)], args := [d] }
  | _ => none }
def fnExactStuffsValidRow : OpenClaim := { program := "ytmmhlbhmfdkelaa", sum := "d273e60cbe34b69d8a4b3b9584b2bbe71420f2ec36be76df166b0607bebcde6d", func := "loop.example/steelmill/laws.FnExactStuffsValid", spec := "fnExactStuffsValid", apart := false }
def FnExactStuffsValidSaid : Prop := fnExactStuffsValidRow.holds Try.pinned (OpenSpec.ofChange fnExactStuffsValidSpec)

/-- ITS FALSE NEIGHBOUR: 'it returns false'. Refute it at one input. -/
def fnExactStuffsValidWrong : ChangeSpec := { name := "fnExactStuffsValid", fn := fun _ => fun
  | [d] => { results := [.lit (.bool false)], args := [d] }
  | _ => none }
def FnExactStuffsValidWrongFalsely : Prop := fnExactStuffsValidRow.holds Try.pinned (OpenSpec.ofChange fnExactStuffsValidWrong)

/-- 'laws.FnExactMixValid': WHATEVER THE INPUT: true; the input reads as it did. -/
def fnExactMixValidSpec : ChangeSpec := { name := "fnExactMixValid", fn := fun _ => fun
  | [d1, d2] => { results := [.lit (.bool true)], args := [d1, d2] }
  | _ => none }
def fnExactMixValidRow : OpenClaim := { program := "ytmmhlbhmfdkelaa", sum := "d273e60cbe34b69d8a4b3b9584b2bbe71420f2ec36be76df166b0607bebcde6d", func := "loop.example/steelmill/laws.FnExactMixValid", spec := "fnExactMixValid", apart := false }
def FnExactMixValidSaid : Prop := fnExactMixValidRow.holds Try.pinned (OpenSpec.ofChange fnExactMixValidSpec)

/-- ITS FALSE NEIGHBOUR: 'it returns false'. Refute it at one input. -/
def fnExactMixValidWrong : ChangeSpec := { name := "fnExactMixValid", fn := fun _ => fun
  | [d1, d2] => { results := [.lit (.bool false)], args := [d1, d2] }
  | _ => none }
def FnExactMixValidWrongFalsely : Prop := fnExactMixValidRow.holds Try.pinned (OpenSpec.ofChange fnExactMixValidWrong)

/-- 'laws.FnExactMixCost': WHATEVER THE INPUT: true; the input reads as it did. -/
def fnExactMixCostSpec : ChangeSpec := { name := "fnExactMixCost", fn := fun _ => fun
  | [d1, d2] => { results := [.lit (.bool true)], args := [d1, d2] }
  | _ => none }
def fnExactMixCostRow : OpenClaim := { program := "ytmmhlbhmfdkelaa", sum := "d273e60cbe34b69d8a4b3b9584b2bbe71420f2ec36be76df166b0607bebcde6d", func := "loop.example/steelmill/laws.FnExactMixCost", spec := "fnExactMixCost", apart := false }
def FnExactMixCostSaid : Prop := fnExactMixCostRow.holds Try.pinned (OpenSpec.ofChange fnExactMixCostSpec)

/-- ITS FALSE NEIGHBOUR: 'it returns false'. Refute it at one input. -/
def fnExactMixCostWrong : ChangeSpec := { name := "fnExactMixCost", fn := fun _ => fun
  | [d1, d2] => { results := [.lit (.bool false)], args := [d1, d2] }
  | _ => none }
def FnExactMixCostWrongFalsely : Prop := fnExactMixCostRow.holds Try.pinned (OpenSpec.ofChange fnExactMixCostWrong)

/-- 'laws.FnExactMixSums': WHATEVER THE INPUT: true; the input reads as it did. -/
def fnExactMixSumsSpec : ChangeSpec := { name := "fnExactMixSums", fn := fun _ => fun
  | [d1, d2] => { results := [.lit (.bool true)], args := [d1, d2] }
  | _ => none }
def fnExactMixSumsRow : OpenClaim := { program := "ytmmhlbhmfdkelaa", sum := "d273e60cbe34b69d8a4b3b9584b2bbe71420f2ec36be76df166b0607bebcde6d", func := "loop.example/steelmill/laws.FnExactMixSums", spec := "fnExactMixSums", apart := false }
def FnExactMixSumsSaid : Prop := fnExactMixSumsRow.holds Try.pinned (OpenSpec.ofChange fnExactMixSumsSpec)

/-- ITS FALSE NEIGHBOUR: 'it returns false'. Refute it at one input. -/
def fnExactMixSumsWrong : ChangeSpec := { name := "fnExactMixSums", fn := fun _ => fun
  | [d1, d2] => { results := [.lit (.bool false)], args := [d1, d2] }
  | _ => none }
def FnExactMixSumsWrongFalsely : Prop := fnExactMixSumsRow.holds Try.pinned (OpenSpec.ofChange fnExactMixSumsWrong)

/-- 'laws.FnExactMixTake': WHATEVER THE INPUT: true; the input reads as it did. -/
def fnExactMixTakeSpec : ChangeSpec := { name := "fnExactMixTake", fn := fun _ => fun
  | [d1, d2] => { results := [.lit (.bool true)], args := [d1, d2] }
  | _ => none }
def fnExactMixTakeRow : OpenClaim := { program := "ytmmhlbhmfdkelaa", sum := "d273e60cbe34b69d8a4b3b9584b2bbe71420f2ec36be76df166b0607bebcde6d", func := "loop.example/steelmill/laws.FnExactMixTake", spec := "fnExactMixTake", apart := false }
def FnExactMixTakeSaid : Prop := fnExactMixTakeRow.holds Try.pinned (OpenSpec.ofChange fnExactMixTakeSpec)

/-- ITS FALSE NEIGHBOUR: 'it returns false'. Refute it at one input. -/
def fnExactMixTakeWrong : ChangeSpec := { name := "fnExactMixTake", fn := fun _ => fun
  | [d1, d2] => { results := [.lit (.bool false)], args := [d1, d2] }
  | _ => none }
def FnExactMixTakeWrongFalsely : Prop := fnExactMixTakeRow.holds Try.pinned (OpenSpec.ofChange fnExactMixTakeWrong)

/-- 'laws.FnExactMixMeets': WHATEVER THE INPUT: true; the input reads as it did. -/
def fnExactMixMeetsSpec : ChangeSpec := { name := "fnExactMixMeets", fn := fun _ => fun
  | [d1, d2, d3] => { results := [.lit (.bool true)], args := [d1, d2, d3] }
  | _ => none }
def fnExactMixMeetsRow : OpenClaim := { program := "ytmmhlbhmfdkelaa", sum := "d273e60cbe34b69d8a4b3b9584b2bbe71420f2ec36be76df166b0607bebcde6d", func := "loop.example/steelmill/laws.FnExactMixMeets", spec := "fnExactMixMeets", apart := false }
def FnExactMixMeetsSaid : Prop := fnExactMixMeetsRow.holds Try.pinned (OpenSpec.ofChange fnExactMixMeetsSpec)

/-- ITS FALSE NEIGHBOUR: 'it returns false'. Refute it at one input. -/
def fnExactMixMeetsWrong : ChangeSpec := { name := "fnExactMixMeets", fn := fun _ => fun
  | [d1, d2, d3] => { results := [.lit (.bool false)], args := [d1, d2, d3] }
  | _ => none }
def FnExactMixMeetsWrongFalsely : Prop := fnExactMixMeetsRow.holds Try.pinned (OpenSpec.ofChange fnExactMixMeetsWrong)

/- THE SECOND FORM. 'bulk': how many values and letters a reading holds, each counted each time it is reached (what is shared counts as often as it is met; a slice's spare places count too). A statement '..UptoSaid' is the law's where the arguments, and the package variables that the reading takes, are together of bulk at most 1048576: NARROWER than '..Said'. Prove '..Said' where nothing that the law and all that it calls make is longer than what came in: it says more and counts as full. Else prove '..UptoSaid'. A law counts once. -/
mutual
def uptoBulk {H : Type} : DataW H → Nat
  | .lit (.string bytes) => bytes.length + 1
  | .lit _ => 1
  | .nil => 1
  | .ptr d => uptoBulk d + 1
  | .slice elems spare => uptoBulkAll elems + uptoBulkAll spare + 1
  | .agg parts => uptoBulkAll parts + 1
  | .iface _ d => uptoBulk d + 1
  | .map entries => uptoBulkEntries entries + 1
  | .held _ => 1
def uptoBulkAll {H : Type} : List (DataW H) → Nat
  | [] => 0
  | d :: r => uptoBulk d + uptoBulkAll r
def uptoBulkEntries {H : Type} : List (Lit × DataW H) → Nat
  | [] => 0
  | x :: r => uptoBulkEntry x + uptoBulkEntries r
def uptoBulkEntry {H : Type} : Lit × DataW H → Nat
  | (.string bytes, d) => bytes.length + uptoBulk d + 1
  | (_, d) => uptoBulk d + 1
 end
def uptoSmall : (H : Type) → List (DataW H) → Bool := fun _ ds => decide (uptoBulkAll ds ≤ 1048576)
def OpenSpec.upto (s : _root_.Go.ChangeSpec) : _root_.Go.OpenSpec := { _root_.Go.OpenSpec.ofChange s with cond := some uptoSmall }

/-- 'laws.FnExactConstants', WHERE WHAT IT READS IS OF BULK AT MOST 1048576: true; the input reads as it did. -/
def fnExactConstantsUptoRow : OpenClaim := { program := "ytmmhlbhmfdkelaa", sum := "d273e60cbe34b69d8a4b3b9584b2bbe71420f2ec36be76df166b0607bebcde6d", func := "loop.example/steelmill/laws.FnExactConstants", spec := "fnExactConstants", apart := false, narrowed := true }
def FnExactConstantsUptoSaid : Prop := fnExactConstantsUptoRow.holds Try.pinned (OpenSpec.upto fnExactConstantsSpec)

/-- 'laws.FnExactStuffValid', WHERE WHAT IT READS IS OF BULK AT MOST 1048576: true; the input reads as it did. -/
def fnExactStuffValidUptoRow : OpenClaim := { program := "ytmmhlbhmfdkelaa", sum := "d273e60cbe34b69d8a4b3b9584b2bbe71420f2ec36be76df166b0607bebcde6d", func := "loop.example/steelmill/laws.FnExactStuffValid", spec := "fnExactStuffValid", apart := false, narrowed := true }
def FnExactStuffValidUptoSaid : Prop := fnExactStuffValidUptoRow.holds Try.pinned (OpenSpec.upto fnExactStuffValidSpec)

/-- 'laws.FnExactGradeValid', WHERE WHAT IT READS IS OF BULK AT MOST 1048576: true; the input reads as it did. -/
def fnExactGradeValidUptoRow : OpenClaim := { program := "ytmmhlbhmfdkelaa", sum := "d273e60cbe34b69d8a4b3b9584b2bbe71420f2ec36be76df166b0607bebcde6d", func := "loop.example/steelmill/laws.FnExactGradeValid", spec := "fnExactGradeValid", apart := false, narrowed := true }
def FnExactGradeValidUptoSaid : Prop := fnExactGradeValidUptoRow.holds Try.pinned (OpenSpec.upto fnExactGradeValidSpec)

/-- 'laws.FnExactMixTons', WHERE WHAT IT READS IS OF BULK AT MOST 1048576: true; the input reads as it did. -/
def fnExactMixTonsUptoRow : OpenClaim := { program := "ytmmhlbhmfdkelaa", sum := "d273e60cbe34b69d8a4b3b9584b2bbe71420f2ec36be76df166b0607bebcde6d", func := "loop.example/steelmill/laws.FnExactMixTons", spec := "fnExactMixTons", apart := false, narrowed := true }
def FnExactMixTonsUptoSaid : Prop := fnExactMixTonsUptoRow.holds Try.pinned (OpenSpec.upto fnExactMixTonsSpec)

/-- 'laws.FnExactGradeWithin', WHERE WHAT IT READS IS OF BULK AT MOST 1048576: true; the input reads as it did. -/
def fnExactGradeWithinUptoRow : OpenClaim := { program := "ytmmhlbhmfdkelaa", sum := "d273e60cbe34b69d8a4b3b9584b2bbe71420f2ec36be76df166b0607bebcde6d", func := "loop.example/steelmill/laws.FnExactGradeWithin", spec := "fnExactGradeWithin", apart := false, narrowed := true }
def FnExactGradeWithinUptoSaid : Prop := fnExactGradeWithinUptoRow.holds Try.pinned (OpenSpec.upto fnExactGradeWithinSpec)

/-- 'laws.FnExactGradeMeet', WHERE WHAT IT READS IS OF BULK AT MOST 1048576: true; the input reads as it did. -/
def fnExactGradeMeetUptoRow : OpenClaim := { program := "ytmmhlbhmfdkelaa", sum := "d273e60cbe34b69d8a4b3b9584b2bbe71420f2ec36be76df166b0607bebcde6d", func := "loop.example/steelmill/laws.FnExactGradeMeet", spec := "fnExactGradeMeet", apart := false, narrowed := true }
def FnExactGradeMeetUptoSaid : Prop := fnExactGradeMeetUptoRow.holds Try.pinned (OpenSpec.upto fnExactGradeMeetSpec)

/-- 'laws.FnExactStuffsValid', WHERE WHAT IT READS IS OF BULK AT MOST 1048576: true; the input reads as it did. -/
def fnExactStuffsValidUptoRow : OpenClaim := { program := "ytmmhlbhmfdkelaa", sum := "d273e60cbe34b69d8a4b3b9584b2bbe71420f2ec36be76df166b0607bebcde6d", func := "loop.example/steelmill/laws.FnExactStuffsValid", spec := "fnExactStuffsValid", apart := false, narrowed := true }
def FnExactStuffsValidUptoSaid : Prop := fnExactStuffsValidUptoRow.holds Try.pinned (OpenSpec.upto fnExactStuffsValidSpec)

/-- 'laws.FnExactMixValid', WHERE WHAT IT READS IS OF BULK AT MOST 1048576: true; the input reads as it did. -/
def fnExactMixValidUptoRow : OpenClaim := { program := "ytmmhlbhmfdkelaa", sum := "d273e60cbe34b69d8a4b3b9584b2bbe71420f2ec36be76df166b0607bebcde6d", func := "loop.example/steelmill/laws.FnExactMixValid", spec := "fnExactMixValid", apart := false, narrowed := true }
def FnExactMixValidUptoSaid : Prop := fnExactMixValidUptoRow.holds Try.pinned (OpenSpec.upto fnExactMixValidSpec)

/-- 'laws.FnExactMixCost', WHERE WHAT IT READS IS OF BULK AT MOST 1048576: true; the input reads as it did. -/
def fnExactMixCostUptoRow : OpenClaim := { program := "ytmmhlbhmfdkelaa", sum := "d273e60cbe34b69d8a4b3b9584b2bbe71420f2ec36be76df166b0607bebcde6d", func := "loop.example/steelmill/laws.FnExactMixCost", spec := "fnExactMixCost", apart := false, narrowed := true }
def FnExactMixCostUptoSaid : Prop := fnExactMixCostUptoRow.holds Try.pinned (OpenSpec.upto fnExactMixCostSpec)

/-- 'laws.FnExactMixSums', WHERE WHAT IT READS IS OF BULK AT MOST 1048576: true; the input reads as it did. -/
def fnExactMixSumsUptoRow : OpenClaim := { program := "ytmmhlbhmfdkelaa", sum := "d273e60cbe34b69d8a4b3b9584b2bbe71420f2ec36be76df166b0607bebcde6d", func := "loop.example/steelmill/laws.FnExactMixSums", spec := "fnExactMixSums", apart := false, narrowed := true }
def FnExactMixSumsUptoSaid : Prop := fnExactMixSumsUptoRow.holds Try.pinned (OpenSpec.upto fnExactMixSumsSpec)

/-- 'laws.FnExactMixTake', WHERE WHAT IT READS IS OF BULK AT MOST 1048576: true; the input reads as it did. -/
def fnExactMixTakeUptoRow : OpenClaim := { program := "ytmmhlbhmfdkelaa", sum := "d273e60cbe34b69d8a4b3b9584b2bbe71420f2ec36be76df166b0607bebcde6d", func := "loop.example/steelmill/laws.FnExactMixTake", spec := "fnExactMixTake", apart := false, narrowed := true }
def FnExactMixTakeUptoSaid : Prop := fnExactMixTakeUptoRow.holds Try.pinned (OpenSpec.upto fnExactMixTakeSpec)

/-- 'laws.FnExactMixMeets', WHERE WHAT IT READS IS OF BULK AT MOST 1048576: true; the input reads as it did. -/
def fnExactMixMeetsUptoRow : OpenClaim := { program := "ytmmhlbhmfdkelaa", sum := "d273e60cbe34b69d8a4b3b9584b2bbe71420f2ec36be76df166b0607bebcde6d", func := "loop.example/steelmill/laws.FnExactMixMeets", spec := "fnExactMixMeets", apart := false, narrowed := true }
def FnExactMixMeetsUptoSaid : Prop := fnExactMixMeetsUptoRow.holds Try.pinned (OpenSpec.upto fnExactMixMeetsSpec)

end Rows
end Go.Proofs.Ytmmhlbhmfdkelaa
