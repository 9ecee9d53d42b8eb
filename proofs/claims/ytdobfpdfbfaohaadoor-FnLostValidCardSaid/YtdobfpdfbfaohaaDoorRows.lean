/-
  NARROWER THAN 'FOR EVERY INPUT', by the rows' own cells (each row's printed sentence says how): FnCasterValid: laid · FnHeatValid: laid · FnHeatsValid: laid · FnLostValid: laid · FnCastEnd: laid · FnCastTimes: laid · FnCastOk: laid · FnCastLate: laid · FnLadlesAt: laid · FnHeatWaits: laid · FnLadlesMost: laid.
  DERIVED. THE GIVEN ROWS OF THIS SEAT. 11 by the template 'for every input the law returns true; each argument reads behind the call as it read before'; 0 by the template 'total and deterministic' (their statements: YtdobfpdfbfaohaaDoorTotals.lean).
  GIVEN WITH THE SEED: the statements are not yours to turn. If you find one false, say at which input.
  Laid BY PROGRAM, IN A SANDBOX (cutbox-rows.mjs): the forced cells as the released guide's own fill.sh prints them over the translation ffaf531016aeb73c… (all of the seat's roots in one cut). By AI agents, Wed Nov 11 2026. No macro, syntax, notation, axiom, sorry.
-/
import Derived.Test.YtdobfpdfbfaohaaDoorChecked
import GoSem.Claim
import GoSem.ClaimJoined
import GoSem.ClaimMapViews
import Derived.JoinedTies
import Derived.KernelRfl
namespace Go.Proofs.YtdobfpdfbfaohaaDoor
/- THE CELL 'sum', in the pinned program and in every row, IS THE sha256 OF THE DUMP (.gsa) THAT YtdobfpdfbfaohaaDoorProg.lean LOADS. Nothing in Lean hashes anything: it is a label: what it is worth is what the hold of that sum in a sandbox is worth. -/
noncomputable def Tryd.pinned : Pinned := { name := "ytdobfpdfbfaohaadoor", sum := "ffaf531016aeb73c84f6cf573f7b09f7ba8e15afe9e598e0a010fedfa0050d83", checked := Tryd.checked }
namespace Rows
def none {H : Type} : Left H := { results := [], args := [] }

/- WHAT THE LISTED PACKAGE-LEVEL VARIABLES READ AS WHEN THE CALL BEGINS. Each datum BY PROGRAM (the guide's laid-datum.mjs) off the statement by which the dump's own 'gosem.cut.vars' lays the variable. In a bare row this is a premise. The card (YtdobfpdfbfaohaaDoorCards.lean) ties it to the program's text. -/
def laid_math_bits_deBruijn32tab {H : Type} : DataW H := .agg [.lit (.int .u8 0), .lit (.int .u8 1), .lit (.int .u8 28), .lit (.int .u8 2), .lit (.int .u8 29), .lit (.int .u8 14), .lit (.int .u8 24), .lit (.int .u8 3), .lit (.int .u8 30), .lit (.int .u8 22), .lit (.int .u8 20), .lit (.int .u8 15), .lit (.int .u8 25), .lit (.int .u8 17), .lit (.int .u8 4), .lit (.int .u8 8), .lit (.int .u8 31), .lit (.int .u8 27), .lit (.int .u8 13), .lit (.int .u8 23), .lit (.int .u8 21), .lit (.int .u8 19), .lit (.int .u8 16), .lit (.int .u8 7), .lit (.int .u8 26), .lit (.int .u8 12), .lit (.int .u8 18), .lit (.int .u8 6), .lit (.int .u8 11), .lit (.int .u8 5), .lit (.int .u8 10), .lit (.int .u8 9)]
def laid_math_bits_deBruijn64tab {H : Type} : DataW H := .agg [.lit (.int .u8 0), .lit (.int .u8 1), .lit (.int .u8 56), .lit (.int .u8 2), .lit (.int .u8 57), .lit (.int .u8 49), .lit (.int .u8 28), .lit (.int .u8 3), .lit (.int .u8 61), .lit (.int .u8 58), .lit (.int .u8 42), .lit (.int .u8 50), .lit (.int .u8 38), .lit (.int .u8 29), .lit (.int .u8 17), .lit (.int .u8 4), .lit (.int .u8 62), .lit (.int .u8 47), .lit (.int .u8 59), .lit (.int .u8 36), .lit (.int .u8 45), .lit (.int .u8 43), .lit (.int .u8 51), .lit (.int .u8 22), .lit (.int .u8 53), .lit (.int .u8 39), .lit (.int .u8 33), .lit (.int .u8 30), .lit (.int .u8 24), .lit (.int .u8 18), .lit (.int .u8 12), .lit (.int .u8 5), .lit (.int .u8 63), .lit (.int .u8 55), .lit (.int .u8 48), .lit (.int .u8 27), .lit (.int .u8 60), .lit (.int .u8 41), .lit (.int .u8 37), .lit (.int .u8 16), .lit (.int .u8 46), .lit (.int .u8 35), .lit (.int .u8 44), .lit (.int .u8 21), .lit (.int .u8 52), .lit (.int .u8 32), .lit (.int .u8 23), .lit (.int .u8 11), .lit (.int .u8 54), .lit (.int .u8 26), .lit (.int .u8 40), .lit (.int .u8 15), .lit (.int .u8 34), .lit (.int .u8 20), .lit (.int .u8 31), .lit (.int .u8 10), .lit (.int .u8 25), .lit (.int .u8 14), .lit (.int .u8 19), .lit (.int .u8 9), .lit (.int .u8 13), .lit (.int .u8 8), .lit (.int .u8 7), .lit (.int .u8 6)]
def laid_internal_strconv_uint64pow10 {H : Type} : DataW H := .agg [.lit (.int .u64 1), .lit (.int .u64 10), .lit (.int .u64 100), .lit (.int .u64 1000), .lit (.int .u64 10000), .lit (.int .u64 100000), .lit (.int .u64 1000000), .lit (.int .u64 10000000), .lit (.int .u64 100000000), .lit (.int .u64 1000000000), .lit (.int .u64 10000000000), .lit (.int .u64 100000000000), .lit (.int .u64 1000000000000), .lit (.int .u64 10000000000000), .lit (.int .u64 100000000000000), .lit (.int .u64 1000000000000000), .lit (.int .u64 10000000000000000), .lit (.int .u64 100000000000000000), .lit (.int .u64 1000000000000000000), .lit (.int .u64 10000000000000000000)]

/-- 'laws.FnCasterValid': WHATEVER THE INPUT: true; the input reads as it did. -/
def fnCasterValidSpec : ChangeSpec := { name := "fnCasterValid", fn := fun _ => fun
  | [d] => { results := [.lit (.bool true)], args := [d] }
  | _ => none }
def fnCasterValidRow : OpenClaim := { program := "ytdobfpdfbfaohaadoor", sum := "ffaf531016aeb73c84f6cf573f7b09f7ba8e15afe9e598e0a010fedfa0050d83", func := "loop.example/steelmill/laws.FnCasterValid", spec := "fnCasterValid", named := ["internal/strconv.uint64pow10", "math/bits.deBruijn32tab", "math/bits.deBruijn64tab"], apart := false, laid := [("math/bits.deBruijn32tab", laid_math_bits_deBruijn32tab), ("math/bits.deBruijn64tab", laid_math_bits_deBruijn64tab), ("internal/strconv.uint64pow10", laid_internal_strconv_uint64pow10)] }
def FnCasterValidSaid : Prop := fnCasterValidRow.holds Tryd.pinned (OpenSpec.ofChange fnCasterValidSpec)

/-- ITS FALSE NEIGHBOUR: 'it returns false'. Refute it at one input. -/
def fnCasterValidWrong : ChangeSpec := { name := "fnCasterValid", fn := fun _ => fun
  | [d] => { results := [.lit (.bool false)], args := [d] }
  | _ => none }
def FnCasterValidWrongFalsely : Prop := fnCasterValidRow.holds Tryd.pinned (OpenSpec.ofChange fnCasterValidWrong)

/-- 'laws.FnHeatValid': WHATEVER THE INPUT: true; the input reads as it did. -/
def fnHeatValidSpec : ChangeSpec := { name := "fnHeatValid", fn := fun _ => fun
  | [d] => { results := [.lit (.bool true)], args := [d] }
  | _ => none }
def fnHeatValidRow : OpenClaim := { program := "ytdobfpdfbfaohaadoor", sum := "ffaf531016aeb73c84f6cf573f7b09f7ba8e15afe9e598e0a010fedfa0050d83", func := "loop.example/steelmill/laws.FnHeatValid", spec := "fnHeatValid", named := ["internal/strconv.uint64pow10", "math/bits.deBruijn32tab", "math/bits.deBruijn64tab"], apart := false, laid := [("math/bits.deBruijn32tab", laid_math_bits_deBruijn32tab), ("math/bits.deBruijn64tab", laid_math_bits_deBruijn64tab), ("internal/strconv.uint64pow10", laid_internal_strconv_uint64pow10)] }
def FnHeatValidSaid : Prop := fnHeatValidRow.holds Tryd.pinned (OpenSpec.ofChange fnHeatValidSpec)

/-- ITS FALSE NEIGHBOUR: 'it returns false'. Refute it at one input. -/
def fnHeatValidWrong : ChangeSpec := { name := "fnHeatValid", fn := fun _ => fun
  | [d] => { results := [.lit (.bool false)], args := [d] }
  | _ => none }
def FnHeatValidWrongFalsely : Prop := fnHeatValidRow.holds Tryd.pinned (OpenSpec.ofChange fnHeatValidWrong)

/-- 'laws.FnHeatsValid': WHATEVER THE INPUT: true; the input reads as it did. -/
def fnHeatsValidSpec : ChangeSpec := { name := "fnHeatsValid", fn := fun _ => fun
  | [d] => { results := [.lit (.bool true)], args := [d] }
  | _ => none }
def fnHeatsValidRow : OpenClaim := { program := "ytdobfpdfbfaohaadoor", sum := "ffaf531016aeb73c84f6cf573f7b09f7ba8e15afe9e598e0a010fedfa0050d83", func := "loop.example/steelmill/laws.FnHeatsValid", spec := "fnHeatsValid", named := ["internal/strconv.uint64pow10", "math/bits.deBruijn32tab", "math/bits.deBruijn64tab"], apart := false, laid := [("math/bits.deBruijn32tab", laid_math_bits_deBruijn32tab), ("math/bits.deBruijn64tab", laid_math_bits_deBruijn64tab), ("internal/strconv.uint64pow10", laid_internal_strconv_uint64pow10)] }
def FnHeatsValidSaid : Prop := fnHeatsValidRow.holds Tryd.pinned (OpenSpec.ofChange fnHeatsValidSpec)

/-- ITS FALSE NEIGHBOUR: 'it returns false'. Refute it at one input. -/
def fnHeatsValidWrong : ChangeSpec := { name := "fnHeatsValid", fn := fun _ => fun
  | [d] => { results := [.lit (.bool false)], args := [d] }
  | _ => none }
def FnHeatsValidWrongFalsely : Prop := fnHeatsValidRow.holds Tryd.pinned (OpenSpec.ofChange fnHeatsValidWrong)

/-- 'laws.FnLostValid': WHATEVER THE INPUT: true; the input reads as it did. -/
def fnLostValidSpec : ChangeSpec := { name := "fnLostValid", fn := fun _ => fun
  | [d] => { results := [.lit (.bool true)], args := [d] }
  | _ => none }
def fnLostValidRow : OpenClaim := { program := "ytdobfpdfbfaohaadoor", sum := "ffaf531016aeb73c84f6cf573f7b09f7ba8e15afe9e598e0a010fedfa0050d83", func := "loop.example/steelmill/laws.FnLostValid", spec := "fnLostValid", named := ["internal/strconv.uint64pow10", "math/bits.deBruijn32tab", "math/bits.deBruijn64tab"], apart := false, laid := [("math/bits.deBruijn32tab", laid_math_bits_deBruijn32tab), ("math/bits.deBruijn64tab", laid_math_bits_deBruijn64tab), ("internal/strconv.uint64pow10", laid_internal_strconv_uint64pow10)] }
def FnLostValidSaid : Prop := fnLostValidRow.holds Tryd.pinned (OpenSpec.ofChange fnLostValidSpec)

/-- ITS FALSE NEIGHBOUR: 'it returns false'. Refute it at one input. -/
def fnLostValidWrong : ChangeSpec := { name := "fnLostValid", fn := fun _ => fun
  | [d] => { results := [.lit (.bool false)], args := [d] }
  | _ => none }
def FnLostValidWrongFalsely : Prop := fnLostValidRow.holds Tryd.pinned (OpenSpec.ofChange fnLostValidWrong)

/-- 'laws.FnCastEnd': WHATEVER THE INPUT: true; the input reads as it did. -/
def fnCastEndSpec : ChangeSpec := { name := "fnCastEnd", fn := fun _ => fun
  | [d] => { results := [.lit (.bool true)], args := [d] }
  | _ => none }
def fnCastEndRow : OpenClaim := { program := "ytdobfpdfbfaohaadoor", sum := "ffaf531016aeb73c84f6cf573f7b09f7ba8e15afe9e598e0a010fedfa0050d83", func := "loop.example/steelmill/laws.FnCastEnd", spec := "fnCastEnd", named := ["internal/strconv.uint64pow10", "math/bits.deBruijn32tab", "math/bits.deBruijn64tab"], apart := false, laid := [("math/bits.deBruijn32tab", laid_math_bits_deBruijn32tab), ("math/bits.deBruijn64tab", laid_math_bits_deBruijn64tab), ("internal/strconv.uint64pow10", laid_internal_strconv_uint64pow10)] }
def FnCastEndSaid : Prop := fnCastEndRow.holds Tryd.pinned (OpenSpec.ofChange fnCastEndSpec)

/-- ITS FALSE NEIGHBOUR: 'it returns false'. Refute it at one input. -/
def fnCastEndWrong : ChangeSpec := { name := "fnCastEnd", fn := fun _ => fun
  | [d] => { results := [.lit (.bool false)], args := [d] }
  | _ => none }
def FnCastEndWrongFalsely : Prop := fnCastEndRow.holds Tryd.pinned (OpenSpec.ofChange fnCastEndWrong)

/-- 'laws.FnCastTimes': WHATEVER THE INPUT: true; the input reads as it did. -/
def fnCastTimesSpec : ChangeSpec := { name := "fnCastTimes", fn := fun _ => fun
  | [d] => { results := [.lit (.bool true)], args := [d] }
  | _ => none }
def fnCastTimesRow : OpenClaim := { program := "ytdobfpdfbfaohaadoor", sum := "ffaf531016aeb73c84f6cf573f7b09f7ba8e15afe9e598e0a010fedfa0050d83", func := "loop.example/steelmill/laws.FnCastTimes", spec := "fnCastTimes", named := ["internal/strconv.uint64pow10", "math/bits.deBruijn32tab", "math/bits.deBruijn64tab"], apart := false, laid := [("math/bits.deBruijn32tab", laid_math_bits_deBruijn32tab), ("math/bits.deBruijn64tab", laid_math_bits_deBruijn64tab), ("internal/strconv.uint64pow10", laid_internal_strconv_uint64pow10)] }
def FnCastTimesSaid : Prop := fnCastTimesRow.holds Tryd.pinned (OpenSpec.ofChange fnCastTimesSpec)

/-- ITS FALSE NEIGHBOUR: 'it returns false'. Refute it at one input. -/
def fnCastTimesWrong : ChangeSpec := { name := "fnCastTimes", fn := fun _ => fun
  | [d] => { results := [.lit (.bool false)], args := [d] }
  | _ => none }
def FnCastTimesWrongFalsely : Prop := fnCastTimesRow.holds Tryd.pinned (OpenSpec.ofChange fnCastTimesWrong)

/-- 'laws.FnCastOk': WHATEVER THE INPUT: true; the input reads as it did. -/
def fnCastOkSpec : ChangeSpec := { name := "fnCastOk", fn := fun _ => fun
  | [d] => { results := [.lit (.bool true)], args := [d] }
  | _ => none }
def fnCastOkRow : OpenClaim := { program := "ytdobfpdfbfaohaadoor", sum := "ffaf531016aeb73c84f6cf573f7b09f7ba8e15afe9e598e0a010fedfa0050d83", func := "loop.example/steelmill/laws.FnCastOk", spec := "fnCastOk", named := ["internal/strconv.uint64pow10", "math/bits.deBruijn32tab", "math/bits.deBruijn64tab"], apart := false, laid := [("math/bits.deBruijn32tab", laid_math_bits_deBruijn32tab), ("math/bits.deBruijn64tab", laid_math_bits_deBruijn64tab), ("internal/strconv.uint64pow10", laid_internal_strconv_uint64pow10)] }
def FnCastOkSaid : Prop := fnCastOkRow.holds Tryd.pinned (OpenSpec.ofChange fnCastOkSpec)

/-- ITS FALSE NEIGHBOUR: 'it returns false'. Refute it at one input. -/
def fnCastOkWrong : ChangeSpec := { name := "fnCastOk", fn := fun _ => fun
  | [d] => { results := [.lit (.bool false)], args := [d] }
  | _ => none }
def FnCastOkWrongFalsely : Prop := fnCastOkRow.holds Tryd.pinned (OpenSpec.ofChange fnCastOkWrong)

/-- 'laws.FnCastLate': WHATEVER THE INPUT: true; the input reads as it did. -/
def fnCastLateSpec : ChangeSpec := { name := "fnCastLate", fn := fun _ => fun
  | [d] => { results := [.lit (.bool true)], args := [d] }
  | _ => none }
def fnCastLateRow : OpenClaim := { program := "ytdobfpdfbfaohaadoor", sum := "ffaf531016aeb73c84f6cf573f7b09f7ba8e15afe9e598e0a010fedfa0050d83", func := "loop.example/steelmill/laws.FnCastLate", spec := "fnCastLate", named := ["internal/strconv.uint64pow10", "math/bits.deBruijn32tab", "math/bits.deBruijn64tab"], apart := false, laid := [("math/bits.deBruijn32tab", laid_math_bits_deBruijn32tab), ("math/bits.deBruijn64tab", laid_math_bits_deBruijn64tab), ("internal/strconv.uint64pow10", laid_internal_strconv_uint64pow10)] }
def FnCastLateSaid : Prop := fnCastLateRow.holds Tryd.pinned (OpenSpec.ofChange fnCastLateSpec)

/-- ITS FALSE NEIGHBOUR: 'it returns false'. Refute it at one input. -/
def fnCastLateWrong : ChangeSpec := { name := "fnCastLate", fn := fun _ => fun
  | [d] => { results := [.lit (.bool false)], args := [d] }
  | _ => none }
def FnCastLateWrongFalsely : Prop := fnCastLateRow.holds Tryd.pinned (OpenSpec.ofChange fnCastLateWrong)

/-- 'laws.FnLadlesAt': WHATEVER THE INPUT: true; the input reads as it did. -/
def fnLadlesAtSpec : ChangeSpec := { name := "fnLadlesAt", fn := fun _ => fun
  | [d] => { results := [.lit (.bool true)], args := [d] }
  | _ => none }
def fnLadlesAtRow : OpenClaim := { program := "ytdobfpdfbfaohaadoor", sum := "ffaf531016aeb73c84f6cf573f7b09f7ba8e15afe9e598e0a010fedfa0050d83", func := "loop.example/steelmill/laws.FnLadlesAt", spec := "fnLadlesAt", named := ["internal/strconv.uint64pow10", "math/bits.deBruijn32tab", "math/bits.deBruijn64tab"], apart := false, laid := [("math/bits.deBruijn32tab", laid_math_bits_deBruijn32tab), ("math/bits.deBruijn64tab", laid_math_bits_deBruijn64tab), ("internal/strconv.uint64pow10", laid_internal_strconv_uint64pow10)] }
def FnLadlesAtSaid : Prop := fnLadlesAtRow.holds Tryd.pinned (OpenSpec.ofChange fnLadlesAtSpec)

/-- ITS FALSE NEIGHBOUR: 'it returns false'. Refute it at one input. -/
def fnLadlesAtWrong : ChangeSpec := { name := "fnLadlesAt", fn := fun _ => fun
  | [d] => { results := [.lit (.bool false)], args := [d] }
  | _ => none }
def FnLadlesAtWrongFalsely : Prop := fnLadlesAtRow.holds Tryd.pinned (OpenSpec.ofChange fnLadlesAtWrong)

/-- 'laws.FnHeatWaits': WHATEVER THE INPUT: true; the input reads as it did. -/
def fnHeatWaitsSpec : ChangeSpec := { name := "fnHeatWaits", fn := fun _ => fun
  | [d] => { results := [.lit (.bool true)], args := [d] }
  | _ => none }
def fnHeatWaitsRow : OpenClaim := { program := "ytdobfpdfbfaohaadoor", sum := "ffaf531016aeb73c84f6cf573f7b09f7ba8e15afe9e598e0a010fedfa0050d83", func := "loop.example/steelmill/laws.FnHeatWaits", spec := "fnHeatWaits", named := ["internal/strconv.uint64pow10", "math/bits.deBruijn32tab", "math/bits.deBruijn64tab"], apart := false, laid := [("math/bits.deBruijn32tab", laid_math_bits_deBruijn32tab), ("math/bits.deBruijn64tab", laid_math_bits_deBruijn64tab), ("internal/strconv.uint64pow10", laid_internal_strconv_uint64pow10)] }
def FnHeatWaitsSaid : Prop := fnHeatWaitsRow.holds Tryd.pinned (OpenSpec.ofChange fnHeatWaitsSpec)

/-- ITS FALSE NEIGHBOUR: 'it returns false'. Refute it at one input. -/
def fnHeatWaitsWrong : ChangeSpec := { name := "fnHeatWaits", fn := fun _ => fun
  | [d] => { results := [.lit (.bool false)], args := [d] }
  | _ => none }
def FnHeatWaitsWrongFalsely : Prop := fnHeatWaitsRow.holds Tryd.pinned (OpenSpec.ofChange fnHeatWaitsWrong)

/-- 'laws.FnLadlesMost': WHATEVER THE INPUT: true; the input reads as it did. -/
def fnLadlesMostSpec : ChangeSpec := { name := "fnLadlesMost", fn := fun _ => fun
  | [d] => { results := [.lit (.bool true)], args := [d] }
  | _ => none }
def fnLadlesMostRow : OpenClaim := { program := "ytdobfpdfbfaohaadoor", sum := "ffaf531016aeb73c84f6cf573f7b09f7ba8e15afe9e598e0a010fedfa0050d83", func := "loop.example/steelmill/laws.FnLadlesMost", spec := "fnLadlesMost", named := ["internal/strconv.uint64pow10", "math/bits.deBruijn32tab", "math/bits.deBruijn64tab"], apart := false, laid := [("math/bits.deBruijn32tab", laid_math_bits_deBruijn32tab), ("math/bits.deBruijn64tab", laid_math_bits_deBruijn64tab), ("internal/strconv.uint64pow10", laid_internal_strconv_uint64pow10)] }
def FnLadlesMostSaid : Prop := fnLadlesMostRow.holds Tryd.pinned (OpenSpec.ofChange fnLadlesMostSpec)

/-- ITS FALSE NEIGHBOUR: 'it returns false'. Refute it at one input. -/
def fnLadlesMostWrong : ChangeSpec := { name := "fnLadlesMost", fn := fun _ => fun
  | [d] => { results := [.lit (.bool false)], args := [d] }
  | _ => none }
def FnLadlesMostWrongFalsely : Prop := fnLadlesMostRow.holds Tryd.pinned (OpenSpec.ofChange fnLadlesMostWrong)

/- THE SECOND FORM. 'bulk': how many values and letters a reading holds, each counted each time it is reached (what is shared counts as often as it is met; a slice's spare places count too). A statement '..UptoSaid' is the law's where the arguments, and the package variables that the reading takes, are together of bulk at most 1048576: NARROWER than '..Said'. Prove '..Said' where nothing that the law and all that it calls make is longer than what came in: it says more and counts as full. Else prove '..UptoSaid'. A law counts once. -/
mutual
def uptoBulk {H : Type} : DataW H → Nat
  | .lit (.string bytes) => bytes.length + 1
  | .lit _ => 1
  | .nil => 1
  | .ptr d => uptoBulk d + 1
  | .slice elems spare => uptoBulkAll elems + uptoBulkAll spare + 1
  | .agg parts => uptoBulkAll parts + 1
  | .iface _ d => uptoBulk d + 1
  | .map entries => uptoBulkEntries entries + 1
  | .held _ => 1
def uptoBulkAll {H : Type} : List (DataW H) → Nat
  | [] => 0
  | d :: r => uptoBulk d + uptoBulkAll r
def uptoBulkEntries {H : Type} : List (Lit × DataW H) → Nat
  | [] => 0
  | x :: r => uptoBulkEntry x + uptoBulkEntries r
def uptoBulkEntry {H : Type} : Lit × DataW H → Nat
  | (.string bytes, d) => bytes.length + uptoBulk d + 1
  | (_, d) => uptoBulk d + 1
 end
def uptoSmall : (H : Type) → List (DataW H) → Bool := fun _ ds => decide (uptoBulkAll ds ≤ 1048576)
def OpenSpec.upto (s : _root_.Go.ChangeSpec) : _root_.Go.OpenSpec := { _root_.Go.OpenSpec.ofChange s with cond := some uptoSmall }

/-- 'laws.FnCasterValid', WHERE WHAT IT READS IS OF BULK AT MOST 1048576: true; the input reads as it did. -/
def fnCasterValidUptoRow : OpenClaim := { program := "ytdobfpdfbfaohaadoor", sum := "ffaf531016aeb73c84f6cf573f7b09f7ba8e15afe9e598e0a010fedfa0050d83", func := "loop.example/steelmill/laws.FnCasterValid", spec := "fnCasterValid", named := ["internal/strconv.uint64pow10", "math/bits.deBruijn32tab", "math/bits.deBruijn64tab"], apart := false, laid := [("math/bits.deBruijn32tab", laid_math_bits_deBruijn32tab), ("math/bits.deBruijn64tab", laid_math_bits_deBruijn64tab), ("internal/strconv.uint64pow10", laid_internal_strconv_uint64pow10)], narrowed := true }
def FnCasterValidUptoSaid : Prop := fnCasterValidUptoRow.holds Tryd.pinned (OpenSpec.upto fnCasterValidSpec)

/-- 'laws.FnHeatValid', WHERE WHAT IT READS IS OF BULK AT MOST 1048576: true; the input reads as it did. -/
def fnHeatValidUptoRow : OpenClaim := { program := "ytdobfpdfbfaohaadoor", sum := "ffaf531016aeb73c84f6cf573f7b09f7ba8e15afe9e598e0a010fedfa0050d83", func := "loop.example/steelmill/laws.FnHeatValid", spec := "fnHeatValid", named := ["internal/strconv.uint64pow10", "math/bits.deBruijn32tab", "math/bits.deBruijn64tab"], apart := false, laid := [("math/bits.deBruijn32tab", laid_math_bits_deBruijn32tab), ("math/bits.deBruijn64tab", laid_math_bits_deBruijn64tab), ("internal/strconv.uint64pow10", laid_internal_strconv_uint64pow10)], narrowed := true }
def FnHeatValidUptoSaid : Prop := fnHeatValidUptoRow.holds Tryd.pinned (OpenSpec.upto fnHeatValidSpec)

/-- 'laws.FnHeatsValid', WHERE WHAT IT READS IS OF BULK AT MOST 1048576: true; the input reads as it did. -/
def fnHeatsValidUptoRow : OpenClaim := { program := "ytdobfpdfbfaohaadoor", sum := "ffaf531016aeb73c84f6cf573f7b09f7ba8e15afe9e598e0a010fedfa0050d83", func := "loop.example/steelmill/laws.FnHeatsValid", spec := "fnHeatsValid", named := ["internal/strconv.uint64pow10", "math/bits.deBruijn32tab", "math/bits.deBruijn64tab"], apart := false, laid := [("math/bits.deBruijn32tab", laid_math_bits_deBruijn32tab), ("math/bits.deBruijn64tab", laid_math_bits_deBruijn64tab), ("internal/strconv.uint64pow10", laid_internal_strconv_uint64pow10)], narrowed := true }
def FnHeatsValidUptoSaid : Prop := fnHeatsValidUptoRow.holds Tryd.pinned (OpenSpec.upto fnHeatsValidSpec)

/-- 'laws.FnLostValid', WHERE WHAT IT READS IS OF BULK AT MOST 1048576: true; the input reads as it did. -/
def fnLostValidUptoRow : OpenClaim := { program := "ytdobfpdfbfaohaadoor", sum := "ffaf531016aeb73c84f6cf573f7b09f7ba8e15afe9e598e0a010fedfa0050d83", func := "loop.example/steelmill/laws.FnLostValid", spec := "fnLostValid", named := ["internal/strconv.uint64pow10", "math/bits.deBruijn32tab", "math/bits.deBruijn64tab"], apart := false, laid := [("math/bits.deBruijn32tab", laid_math_bits_deBruijn32tab), ("math/bits.deBruijn64tab", laid_math_bits_deBruijn64tab), ("internal/strconv.uint64pow10", laid_internal_strconv_uint64pow10)], narrowed := true }
def FnLostValidUptoSaid : Prop := fnLostValidUptoRow.holds Tryd.pinned (OpenSpec.upto fnLostValidSpec)

/-- 'laws.FnCastEnd', WHERE WHAT IT READS IS OF BULK AT MOST 1048576: true; the input reads as it did. -/
def fnCastEndUptoRow : OpenClaim := { program := "ytdobfpdfbfaohaadoor", sum := "ffaf531016aeb73c84f6cf573f7b09f7ba8e15afe9e598e0a010fedfa0050d83", func := "loop.example/steelmill/laws.FnCastEnd", spec := "fnCastEnd", named := ["internal/strconv.uint64pow10", "math/bits.deBruijn32tab", "math/bits.deBruijn64tab"], apart := false, laid := [("math/bits.deBruijn32tab", laid_math_bits_deBruijn32tab), ("math/bits.deBruijn64tab", laid_math_bits_deBruijn64tab), ("internal/strconv.uint64pow10", laid_internal_strconv_uint64pow10)], narrowed := true }
def FnCastEndUptoSaid : Prop := fnCastEndUptoRow.holds Tryd.pinned (OpenSpec.upto fnCastEndSpec)

/-- 'laws.FnCastTimes', WHERE WHAT IT READS IS OF BULK AT MOST 1048576: true; the input reads as it did. -/
def fnCastTimesUptoRow : OpenClaim := { program := "ytdobfpdfbfaohaadoor", sum := "ffaf531016aeb73c84f6cf573f7b09f7ba8e15afe9e598e0a010fedfa0050d83", func := "loop.example/steelmill/laws.FnCastTimes", spec := "fnCastTimes", named := ["internal/strconv.uint64pow10", "math/bits.deBruijn32tab", "math/bits.deBruijn64tab"], apart := false, laid := [("math/bits.deBruijn32tab", laid_math_bits_deBruijn32tab), ("math/bits.deBruijn64tab", laid_math_bits_deBruijn64tab), ("internal/strconv.uint64pow10", laid_internal_strconv_uint64pow10)], narrowed := true }
def FnCastTimesUptoSaid : Prop := fnCastTimesUptoRow.holds Tryd.pinned (OpenSpec.upto fnCastTimesSpec)

/-- 'laws.FnCastOk', WHERE WHAT IT READS IS OF BULK AT MOST 1048576: true; the input reads as it did. -/
def fnCastOkUptoRow : OpenClaim := { program := "ytdobfpdfbfaohaadoor", sum := "ffaf531016aeb73c84f6cf573f7b09f7ba8e15afe9e598e0a010fedfa0050d83", func := "loop.example/steelmill/laws.FnCastOk", spec := "fnCastOk", named := ["internal/strconv.uint64pow10", "math/bits.deBruijn32tab", "math/bits.deBruijn64tab"], apart := false, laid := [("math/bits.deBruijn32tab", laid_math_bits_deBruijn32tab), ("math/bits.deBruijn64tab", laid_math_bits_deBruijn64tab), ("internal/strconv.uint64pow10", laid_internal_strconv_uint64pow10)], narrowed := true }
def FnCastOkUptoSaid : Prop := fnCastOkUptoRow.holds Tryd.pinned (OpenSpec.upto fnCastOkSpec)

/-- 'laws.FnCastLate', WHERE WHAT IT READS IS OF BULK AT MOST 1048576: true; the input reads as it did. -/
def fnCastLateUptoRow : OpenClaim := { program := "ytdobfpdfbfaohaadoor", sum := "ffaf531016aeb73c84f6cf573f7b09f7ba8e15afe9e598e0a010fedfa0050d83", func := "loop.example/steelmill/laws.FnCastLate", spec := "fnCastLate", named := ["internal/strconv.uint64pow10", "math/bits.deBruijn32tab", "math/bits.deBruijn64tab"], apart := false, laid := [("math/bits.deBruijn32tab", laid_math_bits_deBruijn32tab), ("math/bits.deBruijn64tab", laid_math_bits_deBruijn64tab), ("internal/strconv.uint64pow10", laid_internal_strconv_uint64pow10)], narrowed := true }
def FnCastLateUptoSaid : Prop := fnCastLateUptoRow.holds Tryd.pinned (OpenSpec.upto fnCastLateSpec)

/-- 'laws.FnLadlesAt', WHERE WHAT IT READS IS OF BULK AT MOST 1048576: true; the input reads as it did. -/
def fnLadlesAtUptoRow : OpenClaim := { program := "ytdobfpdfbfaohaadoor", sum := "ffaf531016aeb73c84f6cf573f7b09f7ba8e15afe9e598e0a010fedfa0050d83", func := "loop.example/steelmill/laws.FnLadlesAt", spec := "fnLadlesAt", named := ["internal/strconv.uint64pow10", "math/bits.deBruijn32tab", "math/bits.deBruijn64tab"], apart := false, laid := [("math/bits.deBruijn32tab", laid_math_bits_deBruijn32tab), ("math/bits.deBruijn64tab", laid_math_bits_deBruijn64tab), ("internal/strconv.uint64pow10", laid_internal_strconv_uint64pow10)], narrowed := true }
def FnLadlesAtUptoSaid : Prop := fnLadlesAtUptoRow.holds Tryd.pinned (OpenSpec.upto fnLadlesAtSpec)

/-- 'laws.FnHeatWaits', WHERE WHAT IT READS IS OF BULK AT MOST 1048576: true; the input reads as it did. -/
def fnHeatWaitsUptoRow : OpenClaim := { program := "ytdobfpdfbfaohaadoor", sum := "ffaf531016aeb73c84f6cf573f7b09f7ba8e15afe9e598e0a010fedfa0050d83", func := "loop.example/steelmill/laws.FnHeatWaits", spec := "fnHeatWaits", named := ["internal/strconv.uint64pow10", "math/bits.deBruijn32tab", "math/bits.deBruijn64tab"], apart := false, laid := [("math/bits.deBruijn32tab", laid_math_bits_deBruijn32tab), ("math/bits.deBruijn64tab", laid_math_bits_deBruijn64tab), ("internal/strconv.uint64pow10", laid_internal_strconv_uint64pow10)], narrowed := true }
def FnHeatWaitsUptoSaid : Prop := fnHeatWaitsUptoRow.holds Tryd.pinned (OpenSpec.upto fnHeatWaitsSpec)

/-- 'laws.FnLadlesMost', WHERE WHAT IT READS IS OF BULK AT MOST 1048576: true; the input reads as it did. -/
def fnLadlesMostUptoRow : OpenClaim := { program := "ytdobfpdfbfaohaadoor", sum := "ffaf531016aeb73c84f6cf573f7b09f7ba8e15afe9e598e0a010fedfa0050d83", func := "loop.example/steelmill/laws.FnLadlesMost", spec := "fnLadlesMost", named := ["internal/strconv.uint64pow10", "math/bits.deBruijn32tab", "math/bits.deBruijn64tab"], apart := false, laid := [("math/bits.deBruijn32tab", laid_math_bits_deBruijn32tab), ("math/bits.deBruijn64tab", laid_math_bits_deBruijn64tab), ("internal/strconv.uint64pow10", laid_internal_strconv_uint64pow10)], narrowed := true }
def FnLadlesMostUptoSaid : Prop := fnLadlesMostUptoRow.holds Tryd.pinned (OpenSpec.upto fnLadlesMostSpec)

end Rows
end Go.Proofs.YtdobfpdfbfaohaaDoor
