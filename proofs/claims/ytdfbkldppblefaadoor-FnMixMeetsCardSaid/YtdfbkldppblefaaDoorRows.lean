/-
  NARROWER THAN 'FOR EVERY INPUT', by the rows' own cells (each row's printed sentence says how): FnStuffValid: laid · FnGradeValid: laid · FnMixTons: laid · FnGradeWithin: laid · FnStuffsValid: laid · FnGradeMeet: laid · FnMixValid: laid · FnMixCost: laid · FnMixSums: laid · FnMixTake: laid · FnMixMeets: laid.
  DERIVED. THE GIVEN ROWS OF THIS SEAT. 11 by the template 'for every input the law returns true; each argument reads behind the call as it read before'; 0 by the template 'total and deterministic' (their statements: YtdfbkldppblefaaDoorTotals.lean).
  GIVEN WITH THE SEED: the statements are not yours to turn. If you find one false, say at which input.
  Laid BY PROGRAM, IN A SANDBOX (cutbox-rows.mjs): the forced cells as the released guide's own fill.sh prints them over the translation 79ab56c95bf61737… (all of the seat's roots in one cut). By AI agents, Wed Nov 11 2026. No macro, syntax, notation, axiom, sorry.
-/
import Derived.Test.YtdfbkldppblefaaDoorChecked
import GoSem.Claim
import GoSem.ClaimJoined
import GoSem.ClaimMapViews
import Derived.JoinedTies
import Derived.KernelRfl
namespace Go.Proofs.YtdfbkldppblefaaDoor
/- THE CELL 'sum', in the pinned program and in every row, IS THE sha256 OF THE DUMP (.gsa) THAT YtdfbkldppblefaaDoorProg.lean LOADS. Nothing in Lean hashes anything: it is a label: what it is worth is what the hold of that sum in a sandbox is worth. -/
noncomputable def Tryd.pinned : Pinned := { name := "ytdfbkldppblefaadoor", sum := "79ab56c95bf617374d1d00ccefbe35726bcc89c1d8827ad4d59b84af9703a8ff", checked := Tryd.checked }
namespace Rows
def none {H : Type} : Left H := { results := [], args := [] }

/- WHAT THE LISTED PACKAGE-LEVEL VARIABLES READ AS WHEN THE CALL BEGINS. Each datum BY PROGRAM (the guide's laid-datum.mjs) off the statement by which the dump's own 'gosem.cut.vars' lays the variable. In a bare row this is a premise. The card (YtdfbkldppblefaaDoorCards.lean) ties it to the program's text. -/
def laid_math_bits_deBruijn32tab {H : Type} : DataW H := .agg [.lit (.int .u8 0), .lit (.int .u8 1), .lit (.int .u8 28), .lit (.int .u8 2), .lit (.int .u8 29), .lit (.int .u8 14), .lit (.int .u8 24), .lit (.int .u8 3), .lit (.int .u8 30), .lit (.int .u8 22), .lit (.int .u8 20), .lit (.int .u8 15), .lit (.int .u8 25), .lit (.int .u8 17), .lit (.int .u8 4), .lit (.int .u8 8), .lit (.int .u8 31), .lit (.int .u8 27), .lit (.int .u8 13), .lit (.int .u8 23), .lit (.int .u8 21), .lit (.int .u8 19), .lit (.int .u8 16), .lit (.int .u8 7), .lit (.int .u8 26), .lit (.int .u8 12), .lit (.int .u8 18), .lit (.int .u8 6), .lit (.int .u8 11), .lit (.int .u8 5), .lit (.int .u8 10), .lit (.int .u8 9)]
def laid_math_bits_deBruijn64tab {H : Type} : DataW H := .agg [.lit (.int .u8 0), .lit (.int .u8 1), .lit (.int .u8 56), .lit (.int .u8 2), .lit (.int .u8 57), .lit (.int .u8 49), .lit (.int .u8 28), .lit (.int .u8 3), .lit (.int .u8 61), .lit (.int .u8 58), .lit (.int .u8 42), .lit (.int .u8 50), .lit (.int .u8 38), .lit (.int .u8 29), .lit (.int .u8 17), .lit (.int .u8 4), .lit (.int .u8 62), .lit (.int .u8 47), .lit (.int .u8 59), .lit (.int .u8 36), .lit (.int .u8 45), .lit (.int .u8 43), .lit (.int .u8 51), .lit (.int .u8 22), .lit (.int .u8 53), .lit (.int .u8 39), .lit (.int .u8 33), .lit (.int .u8 30), .lit (.int .u8 24), .lit (.int .u8 18), .lit (.int .u8 12), .lit (.int .u8 5), .lit (.int .u8 63), .lit (.int .u8 55), .lit (.int .u8 48), .lit (.int .u8 27), .lit (.int .u8 60), .lit (.int .u8 41), .lit (.int .u8 37), .lit (.int .u8 16), .lit (.int .u8 46), .lit (.int .u8 35), .lit (.int .u8 44), .lit (.int .u8 21), .lit (.int .u8 52), .lit (.int .u8 32), .lit (.int .u8 23), .lit (.int .u8 11), .lit (.int .u8 54), .lit (.int .u8 26), .lit (.int .u8 40), .lit (.int .u8 15), .lit (.int .u8 34), .lit (.int .u8 20), .lit (.int .u8 31), .lit (.int .u8 10), .lit (.int .u8 25), .lit (.int .u8 14), .lit (.int .u8 19), .lit (.int .u8 9), .lit (.int .u8 13), .lit (.int .u8 8), .lit (.int .u8 7), .lit (.int .u8 6)]
def laid_internal_strconv_uint64pow10 {H : Type} : DataW H := .agg [.lit (.int .u64 1), .lit (.int .u64 10), .lit (.int .u64 100), .lit (.int .u64 1000), .lit (.int .u64 10000), .lit (.int .u64 100000), .lit (.int .u64 1000000), .lit (.int .u64 10000000), .lit (.int .u64 100000000), .lit (.int .u64 1000000000), .lit (.int .u64 10000000000), .lit (.int .u64 100000000000), .lit (.int .u64 1000000000000), .lit (.int .u64 10000000000000), .lit (.int .u64 100000000000000), .lit (.int .u64 1000000000000000), .lit (.int .u64 10000000000000000), .lit (.int .u64 100000000000000000), .lit (.int .u64 1000000000000000000), .lit (.int .u64 10000000000000000000)]

/-- 'laws.FnStuffValid': WHATEVER THE INPUT: true; the input reads as it did. -/
def fnStuffValidSpec : ChangeSpec := { name := "fnStuffValid", fn := fun _ => fun
  | [d] => { results := [.lit (.bool true)], args := [d] }
  | _ => none }
def fnStuffValidRow : OpenClaim := { program := "ytdfbkldppblefaadoor", sum := "79ab56c95bf617374d1d00ccefbe35726bcc89c1d8827ad4d59b84af9703a8ff", func := "loop.example/steelmill/laws.FnStuffValid", spec := "fnStuffValid", named := ["internal/strconv.uint64pow10", "math/bits.deBruijn32tab", "math/bits.deBruijn64tab"], apart := false, laid := [("math/bits.deBruijn32tab", laid_math_bits_deBruijn32tab), ("math/bits.deBruijn64tab", laid_math_bits_deBruijn64tab), ("internal/strconv.uint64pow10", laid_internal_strconv_uint64pow10)] }
def FnStuffValidSaid : Prop := fnStuffValidRow.holds Tryd.pinned (OpenSpec.ofChange fnStuffValidSpec)

/-- ITS FALSE NEIGHBOUR: 'it returns false'. Refute it at one input. -/
def fnStuffValidWrong : ChangeSpec := { name := "fnStuffValid", fn := fun _ => fun
  | [d] => { results := [.lit (.bool false)], args := [d] }
  | _ => none }
def FnStuffValidWrongFalsely : Prop := fnStuffValidRow.holds Tryd.pinned (OpenSpec.ofChange fnStuffValidWrong)

/-- 'laws.FnGradeValid': WHATEVER THE INPUT: true; the input reads as it did. -/
def fnGradeValidSpec : ChangeSpec := { name := "fnGradeValid", fn := fun _ => fun
  | [d] => { results := [.lit (.bool true)], args := [d] }
  | _ => none }
def fnGradeValidRow : OpenClaim := { program := "ytdfbkldppblefaadoor", sum := "79ab56c95bf617374d1d00ccefbe35726bcc89c1d8827ad4d59b84af9703a8ff", func := "loop.example/steelmill/laws.FnGradeValid", spec := "fnGradeValid", named := ["internal/strconv.uint64pow10", "math/bits.deBruijn32tab", "math/bits.deBruijn64tab"], apart := false, laid := [("math/bits.deBruijn32tab", laid_math_bits_deBruijn32tab), ("math/bits.deBruijn64tab", laid_math_bits_deBruijn64tab), ("internal/strconv.uint64pow10", laid_internal_strconv_uint64pow10)] }
def FnGradeValidSaid : Prop := fnGradeValidRow.holds Tryd.pinned (OpenSpec.ofChange fnGradeValidSpec)

/-- ITS FALSE NEIGHBOUR: 'it returns false'. Refute it at one input. -/
def fnGradeValidWrong : ChangeSpec := { name := "fnGradeValid", fn := fun _ => fun
  | [d] => { results := [.lit (.bool false)], args := [d] }
  | _ => none }
def FnGradeValidWrongFalsely : Prop := fnGradeValidRow.holds Tryd.pinned (OpenSpec.ofChange fnGradeValidWrong)

/-- 'laws.FnMixTons': WHATEVER THE INPUT: true; the input reads as it did. -/
def fnMixTonsSpec : ChangeSpec := { name := "fnMixTons", fn := fun _ => fun
  | [d] => { results := [.lit (.bool true)], args := [d] }
  | _ => none }
def fnMixTonsRow : OpenClaim := { program := "ytdfbkldppblefaadoor", sum := "79ab56c95bf617374d1d00ccefbe35726bcc89c1d8827ad4d59b84af9703a8ff", func := "loop.example/steelmill/laws.FnMixTons", spec := "fnMixTons", named := ["internal/strconv.uint64pow10", "math/bits.deBruijn32tab", "math/bits.deBruijn64tab"], apart := false, laid := [("math/bits.deBruijn32tab", laid_math_bits_deBruijn32tab), ("math/bits.deBruijn64tab", laid_math_bits_deBruijn64tab), ("internal/strconv.uint64pow10", laid_internal_strconv_uint64pow10)] }
def FnMixTonsSaid : Prop := fnMixTonsRow.holds Tryd.pinned (OpenSpec.ofChange fnMixTonsSpec)

/-- ITS FALSE NEIGHBOUR: 'it returns false'. Refute it at one input. -/
def fnMixTonsWrong : ChangeSpec := { name := "fnMixTons", fn := fun _ => fun
  | [d] => { results := [.lit (.bool false)], args := [d] }
  | _ => none }
def FnMixTonsWrongFalsely : Prop := fnMixTonsRow.holds Tryd.pinned (OpenSpec.ofChange fnMixTonsWrong)

/-- 'laws.FnGradeWithin': WHATEVER THE INPUT: true; the input reads as it did. -/
def fnGradeWithinSpec : ChangeSpec := { name := "fnGradeWithin", fn := fun _ => fun
  | [d] => { results := [.lit (.bool true)], args := [d] }
  | _ => none }
def fnGradeWithinRow : OpenClaim := { program := "ytdfbkldppblefaadoor", sum := "79ab56c95bf617374d1d00ccefbe35726bcc89c1d8827ad4d59b84af9703a8ff", func := "loop.example/steelmill/laws.FnGradeWithin", spec := "fnGradeWithin", named := ["internal/strconv.uint64pow10", "math/bits.deBruijn32tab", "math/bits.deBruijn64tab"], apart := false, laid := [("math/bits.deBruijn32tab", laid_math_bits_deBruijn32tab), ("math/bits.deBruijn64tab", laid_math_bits_deBruijn64tab), ("internal/strconv.uint64pow10", laid_internal_strconv_uint64pow10)] }
def FnGradeWithinSaid : Prop := fnGradeWithinRow.holds Tryd.pinned (OpenSpec.ofChange fnGradeWithinSpec)

/-- ITS FALSE NEIGHBOUR: 'it returns false'. Refute it at one input. -/
def fnGradeWithinWrong : ChangeSpec := { name := "fnGradeWithin", fn := fun _ => fun
  | [d] => { results := [.lit (.bool false)], args := [d] }
  | _ => none }
def FnGradeWithinWrongFalsely : Prop := fnGradeWithinRow.holds Tryd.pinned (OpenSpec.ofChange fnGradeWithinWrong)

/-- 'laws.FnStuffsValid': WHATEVER THE INPUT: true; the input reads as it did. -/
def fnStuffsValidSpec : ChangeSpec := { name := "fnStuffsValid", fn := fun _ => fun
  | [d] => { results := [.lit (.bool true)], args := [d] }
  | _ => none }
def fnStuffsValidRow : OpenClaim := { program := "ytdfbkldppblefaadoor", sum := "79ab56c95bf617374d1d00ccefbe35726bcc89c1d8827ad4d59b84af9703a8ff", func := "loop.example/steelmill/laws.FnStuffsValid", spec := "fnStuffsValid", named := ["internal/strconv.uint64pow10", "math/bits.deBruijn32tab", "math/bits.deBruijn64tab"], apart := false, laid := [("math/bits.deBruijn32tab", laid_math_bits_deBruijn32tab), ("math/bits.deBruijn64tab", laid_math_bits_deBruijn64tab), ("internal/strconv.uint64pow10", laid_internal_strconv_uint64pow10)] }
def FnStuffsValidSaid : Prop := fnStuffsValidRow.holds Tryd.pinned (OpenSpec.ofChange fnStuffsValidSpec)

/-- ITS FALSE NEIGHBOUR: 'it returns false'. Refute it at one input. -/
def fnStuffsValidWrong : ChangeSpec := { name := "fnStuffsValid", fn := fun _ => fun
  | [d] => { results := [.lit (.bool false)], args := [d] }
  | _ => none }
def FnStuffsValidWrongFalsely : Prop := fnStuffsValidRow.holds Tryd.pinned (OpenSpec.ofChange fnStuffsValidWrong)

/-- 'laws.FnGradeMeet': WHATEVER THE INPUT: true; the input reads as it did. -/
def fnGradeMeetSpec : ChangeSpec := { name := "fnGradeMeet", fn := fun _ => fun
  | [d] => { results := [.lit (.bool true)], args := [d] }
  | _ => none }
def fnGradeMeetRow : OpenClaim := { program := "ytdfbkldppblefaadoor", sum := "79ab56c95bf617374d1d00ccefbe35726bcc89c1d8827ad4d59b84af9703a8ff", func := "loop.example/steelmill/laws.FnGradeMeet", spec := "fnGradeMeet", named := ["internal/strconv.uint64pow10", "math/bits.deBruijn32tab", "math/bits.deBruijn64tab"], apart := false, laid := [("math/bits.deBruijn32tab", laid_math_bits_deBruijn32tab), ("math/bits.deBruijn64tab", laid_math_bits_deBruijn64tab), ("internal/strconv.uint64pow10", laid_internal_strconv_uint64pow10)] }
def FnGradeMeetSaid : Prop := fnGradeMeetRow.holds Tryd.pinned (OpenSpec.ofChange fnGradeMeetSpec)

/-- ITS FALSE NEIGHBOUR: 'it returns false'. Refute it at one input. -/
def fnGradeMeetWrong : ChangeSpec := { name := "fnGradeMeet", fn := fun _ => fun
  | [d] => { results := [.lit (.bool false)], args := [d] }
  | _ => none }
def FnGradeMeetWrongFalsely : Prop := fnGradeMeetRow.holds Tryd.pinned (OpenSpec.ofChange fnGradeMeetWrong)

/-- 'laws.FnMixValid': WHATEVER THE INPUT: true; the input reads as it did. -/
def fnMixValidSpec : ChangeSpec := { name := "fnMixValid", fn := fun _ => fun
  | [d] => { results := [.lit (.bool true)], args := [d] }
  | _ => none }
def fnMixValidRow : OpenClaim := { program := "ytdfbkldppblefaadoor", sum := "79ab56c95bf617374d1d00ccefbe35726bcc89c1d8827ad4d59b84af9703a8ff", func := "loop.example/steelmill/laws.FnMixValid", spec := "fnMixValid", named := ["internal/strconv.uint64pow10", "math/bits.deBruijn32tab", "math/bits.deBruijn64tab"], apart := false, laid := [("math/bits.deBruijn32tab", laid_math_bits_deBruijn32tab), ("math/bits.deBruijn64tab", laid_math_bits_deBruijn64tab), ("internal/strconv.uint64pow10", laid_internal_strconv_uint64pow10)] }
def FnMixValidSaid : Prop := fnMixValidRow.holds Tryd.pinned (OpenSpec.ofChange fnMixValidSpec)

/-- ITS FALSE NEIGHBOUR: 'it returns false'. Refute it at one input. -/
def fnMixValidWrong : ChangeSpec := { name := "fnMixValid", fn := fun _ => fun
  | [d] => { results := [.lit (.bool false)], args := [d] }
  | _ => none }
def FnMixValidWrongFalsely : Prop := fnMixValidRow.holds Tryd.pinned (OpenSpec.ofChange fnMixValidWrong)

/-- 'laws.FnMixCost': WHATEVER THE INPUT: true; the input reads as it did. -/
def fnMixCostSpec : ChangeSpec := { name := "fnMixCost", fn := fun _ => fun
  | [d] => { results := [.lit (.bool true)], args := [d] }
  | _ => none }
def fnMixCostRow : OpenClaim := { program := "ytdfbkldppblefaadoor", sum := "79ab56c95bf617374d1d00ccefbe35726bcc89c1d8827ad4d59b84af9703a8ff", func := "loop.example/steelmill/laws.FnMixCost", spec := "fnMixCost", named := ["internal/strconv.uint64pow10", "math/bits.deBruijn32tab", "math/bits.deBruijn64tab"], apart := false, laid := [("math/bits.deBruijn32tab", laid_math_bits_deBruijn32tab), ("math/bits.deBruijn64tab", laid_math_bits_deBruijn64tab), ("internal/strconv.uint64pow10", laid_internal_strconv_uint64pow10)] }
def FnMixCostSaid : Prop := fnMixCostRow.holds Tryd.pinned (OpenSpec.ofChange fnMixCostSpec)

/-- ITS FALSE NEIGHBOUR: 'it returns false'. Refute it at one input. -/
def fnMixCostWrong : ChangeSpec := { name := "fnMixCost", fn := fun _ => fun
  | [d] => { results := [.lit (.bool false)], args := [d] }
  | _ => none }
def FnMixCostWrongFalsely : Prop := fnMixCostRow.holds Tryd.pinned (OpenSpec.ofChange fnMixCostWrong)

/-- 'laws.FnMixSums': WHATEVER THE INPUT: true; the input reads as it did. -/
def fnMixSumsSpec : ChangeSpec := { name := "fnMixSums", fn := fun _ => fun
  | [d] => { results := [.lit (.bool true)], args := [d] }
  | _ => none }
def fnMixSumsRow : OpenClaim := { program := "ytdfbkldppblefaadoor", sum := "79ab56c95bf617374d1d00ccefbe35726bcc89c1d8827ad4d59b84af9703a8ff", func := "loop.example/steelmill/laws.FnMixSums", spec := "fnMixSums", named := ["internal/strconv.uint64pow10", "math/bits.deBruijn32tab", "math/bits.deBruijn64tab"], apart := false, laid := [("math/bits.deBruijn32tab", laid_math_bits_deBruijn32tab), ("math/bits.deBruijn64tab", laid_math_bits_deBruijn64tab), ("internal/strconv.uint64pow10", laid_internal_strconv_uint64pow10)] }
def FnMixSumsSaid : Prop := fnMixSumsRow.holds Tryd.pinned (OpenSpec.ofChange fnMixSumsSpec)

/-- ITS FALSE NEIGHBOUR: 'it returns false'. Refute it at one input. -/
def fnMixSumsWrong : ChangeSpec := { name := "fnMixSums", fn := fun _ => fun
  | [d] => { results := [.lit (.bool false)], args := [d] }
  | _ => none }
def FnMixSumsWrongFalsely : Prop := fnMixSumsRow.holds Tryd.pinned (OpenSpec.ofChange fnMixSumsWrong)

/-- 'laws.FnMixTake': WHATEVER THE INPUT: true; the input reads as it did. -/
def fnMixTakeSpec : ChangeSpec := { name := "fnMixTake", fn := fun _ => fun
  | [d] => { results := [.lit (.bool true)], args := [d] }
  | _ => none }
def fnMixTakeRow : OpenClaim := { program := "ytdfbkldppblefaadoor", sum := "79ab56c95bf617374d1d00ccefbe35726bcc89c1d8827ad4d59b84af9703a8ff", func := "loop.example/steelmill/laws.FnMixTake", spec := "fnMixTake", named := ["internal/strconv.uint64pow10", "math/bits.deBruijn32tab", "math/bits.deBruijn64tab"], apart := false, laid := [("math/bits.deBruijn32tab", laid_math_bits_deBruijn32tab), ("math/bits.deBruijn64tab", laid_math_bits_deBruijn64tab), ("internal/strconv.uint64pow10", laid_internal_strconv_uint64pow10)] }
def FnMixTakeSaid : Prop := fnMixTakeRow.holds Tryd.pinned (OpenSpec.ofChange fnMixTakeSpec)

/-- ITS FALSE NEIGHBOUR: 'it returns false'. Refute it at one input. -/
def fnMixTakeWrong : ChangeSpec := { name := "fnMixTake", fn := fun _ => fun
  | [d] => { results := [.lit (.bool false)], args := [d] }
  | _ => none }
def FnMixTakeWrongFalsely : Prop := fnMixTakeRow.holds Tryd.pinned (OpenSpec.ofChange fnMixTakeWrong)

/-- 'laws.FnMixMeets': WHATEVER THE INPUT: true; the input reads as it did. -/
def fnMixMeetsSpec : ChangeSpec := { name := "fnMixMeets", fn := fun _ => fun
  | [d1, d2] => { results := [.lit (.bool true)], args := [d1, d2] }
  | _ => none }
def fnMixMeetsRow : OpenClaim := { program := "ytdfbkldppblefaadoor", sum := "79ab56c95bf617374d1d00ccefbe35726bcc89c1d8827ad4d59b84af9703a8ff", func := "loop.example/steelmill/laws.FnMixMeets", spec := "fnMixMeets", named := ["internal/strconv.uint64pow10", "math/bits.deBruijn32tab", "math/bits.deBruijn64tab"], apart := false, laid := [("math/bits.deBruijn32tab", laid_math_bits_deBruijn32tab), ("math/bits.deBruijn64tab", laid_math_bits_deBruijn64tab), ("internal/strconv.uint64pow10", laid_internal_strconv_uint64pow10)] }
def FnMixMeetsSaid : Prop := fnMixMeetsRow.holds Tryd.pinned (OpenSpec.ofChange fnMixMeetsSpec)

/-- ITS FALSE NEIGHBOUR: 'it returns false'. Refute it at one input. -/
def fnMixMeetsWrong : ChangeSpec := { name := "fnMixMeets", fn := fun _ => fun
  | [d1, d2] => { results := [.lit (.bool false)], args := [d1, d2] }
  | _ => none }
def FnMixMeetsWrongFalsely : Prop := fnMixMeetsRow.holds Tryd.pinned (OpenSpec.ofChange fnMixMeetsWrong)

/- THE SECOND FORM. 'bulk': how many values and letters a reading holds, each counted each time it is reached (what is shared counts as often as it is met; a slice's spare places count too). A statement '..UptoSaid' is the law's where the arguments, and the package variables that the reading takes, are together of bulk at most 1048576: NARROWER than '..Said'. Prove '..Said' where nothing that the law and all that it calls make is longer than what came in: it says more and counts as full. Else prove '..UptoSaid'. A law counts once. -/
mutual
def uptoBulk {H : Type} : DataW H → Nat
  | .lit (.string bytes) => bytes.length + 1
  | .lit _ => 1
  | .nil => 1
  | .ptr d => uptoBulk d + 1
  | .slice elems spare => uptoBulkAll elems + uptoBulkAll spare + 1
  | .agg parts => uptoBulkAll parts + 1
  | .iface _ d => uptoBulk d + 1
  | .map entries => uptoBulkEntries entries + 1
  | .held _ => 1
def uptoBulkAll {H : Type} : List (DataW H) → Nat
  | [] => 0
  | d :: r => uptoBulk d + uptoBulkAll r
def uptoBulkEntries {H : Type} : List (Lit × DataW H) → Nat
  | [] => 0
  | x :: r => uptoBulkEntry x + uptoBulkEntries r
def uptoBulkEntry {H : Type} : Lit × DataW H → Nat
  | (.string bytes, d) => bytes.length + uptoBulk d + 1
  | (_, d) => uptoBulk d + 1
 end
def uptoSmall : (H : Type) → List (DataW H) → Bool := fun _ ds => decide (uptoBulkAll ds ≤ 1048576)
def OpenSpec.upto (s : _root_.Go.ChangeSpec) : _root_.Go.OpenSpec := { _root_.Go.OpenSpec.ofChange s with cond := some uptoSmall }

/-- 'laws.FnStuffValid', WHERE WHAT IT READS IS OF BULK AT MOST 1048576: true; the input reads as it did. -/
def fnStuffValidUptoRow : OpenClaim := { program := "ytdfbkldppblefaadoor", sum := "79ab56c95bf617374d1d00ccefbe35726bcc89c1d8827ad4d59b84af9703a8ff", func := "loop.example/steelmill/laws.FnStuffValid", spec := "fnStuffValid", named := ["internal/strconv.uint64pow10", "math/bits.deBruijn32tab", "math/bits.deBruijn64tab"], apart := false, laid := [("math/bits.deBruijn32tab", laid_math_bits_deBruijn32tab), ("math/bits.deBruijn64tab", laid_math_bits_deBruijn64tab), ("internal/strconv.uint64pow10", laid_internal_strconv_uint64pow10)], narrowed := true }
def FnStuffValidUptoSaid : Prop := fnStuffValidUptoRow.holds Tryd.pinned (OpenSpec.upto fnStuffValidSpec)

/-- 'laws.FnGradeValid', WHERE WHAT IT READS IS OF BULK AT MOST 1048576: true; the input reads as it did. -/
def fnGradeValidUptoRow : OpenClaim := { program := "ytdfbkldppblefaadoor", sum := "79ab56c95bf617374d1d00ccefbe35726bcc89c1d8827ad4d59b84af9703a8ff", func := "loop.example/steelmill/laws.FnGradeValid", spec := "fnGradeValid", named := ["internal/strconv.uint64pow10", "math/bits.deBruijn32tab", "math/bits.deBruijn64tab"], apart := false, laid := [("math/bits.deBruijn32tab", laid_math_bits_deBruijn32tab), ("math/bits.deBruijn64tab", laid_math_bits_deBruijn64tab), ("internal/strconv.uint64pow10", laid_internal_strconv_uint64pow10)], narrowed := true }
def FnGradeValidUptoSaid : Prop := fnGradeValidUptoRow.holds Tryd.pinned (OpenSpec.upto fnGradeValidSpec)

/-- 'laws.FnMixTons', WHERE WHAT IT READS IS OF BULK AT MOST 1048576: true; the input reads as it did. -/
def fnMixTonsUptoRow : OpenClaim := { program := "ytdfbkldppblefaadoor", sum := "79ab56c95bf617374d1d00ccefbe35726bcc89c1d8827ad4d59b84af9703a8ff", func := "loop.example/steelmill/laws.FnMixTons", spec := "fnMixTons", named := ["internal/strconv.uint64pow10", "math/bits.deBruijn32tab", "math/bits.deBruijn64tab"], apart := false, laid := [("math/bits.deBruijn32tab", laid_math_bits_deBruijn32tab), ("math/bits.deBruijn64tab", laid_math_bits_deBruijn64tab), ("internal/strconv.uint64pow10", laid_internal_strconv_uint64pow10)], narrowed := true }
def FnMixTonsUptoSaid : Prop := fnMixTonsUptoRow.holds Tryd.pinned (OpenSpec.upto fnMixTonsSpec)

/-- 'laws.FnGradeWithin', WHERE WHAT IT READS IS OF BULK AT MOST 1048576: true; the input reads as it did. -/
def fnGradeWithinUptoRow : OpenClaim := { program := "ytdfbkldppblefaadoor", sum := "79ab56c95bf617374d1d00ccefbe35726bcc89c1d8827ad4d59b84af9703a8ff", func := "loop.example/steelmill/laws.FnGradeWithin", spec := "fnGradeWithin", named := ["internal/strconv.uint64pow10", "math/bits.deBruijn32tab", "math/bits.deBruijn64tab"], apart := false, laid := [("math/bits.deBruijn32tab", laid_math_bits_deBruijn32tab), ("math/bits.deBruijn64tab", laid_math_bits_deBruijn64tab), ("internal/strconv.uint64pow10", laid_internal_strconv_uint64pow10)], narrowed := true }
def FnGradeWithinUptoSaid : Prop := fnGradeWithinUptoRow.holds Tryd.pinned (OpenSpec.upto fnGradeWithinSpec)

/-- 'laws.FnStuffsValid', WHERE WHAT IT READS IS OF BULK AT MOST 1048576: true; the input reads as it did. -/
def fnStuffsValidUptoRow : OpenClaim := { program := "ytdfbkldppblefaadoor", sum := "79ab56c95bf617374d1d00ccefbe35726bcc89c1d8827ad4d59b84af9703a8ff", func := "loop.example/steelmill/laws.FnStuffsValid", spec := "fnStuffsValid", named := ["internal/strconv.uint64pow10", "math/bits.deBruijn32tab", "math/bits.deBruijn64tab"], apart := false, laid := [("math/bits.deBruijn32tab", laid_math_bits_deBruijn32tab), ("math/bits.deBruijn64tab", laid_math_bits_deBruijn64tab), ("internal/strconv.uint64pow10", laid_internal_strconv_uint64pow10)], narrowed := true }
def FnStuffsValidUptoSaid : Prop := fnStuffsValidUptoRow.holds Tryd.pinned (OpenSpec.upto fnStuffsValidSpec)

/-- 'laws.FnGradeMeet', WHERE WHAT IT READS IS OF BULK AT MOST 1048576: true; the input reads as it did. -/
def fnGradeMeetUptoRow : OpenClaim := { program := "ytdfbkldppblefaadoor", sum := "79ab56c95bf617374d1d00ccefbe35726bcc89c1d8827ad4d59b84af9703a8ff", func := "loop.example/steelmill/laws.FnGradeMeet", spec := "fnGradeMeet", named := ["internal/strconv.uint64pow10", "math/bits.deBruijn32tab", "math/bits.deBruijn64tab"], apart := false, laid := [("math/bits.deBruijn32tab", laid_math_bits_deBruijn32tab), ("math/bits.deBruijn64tab", laid_math_bits_deBruijn64tab), ("internal/strconv.uint64pow10", laid_internal_strconv_uint64pow10)], narrowed := true }
def FnGradeMeetUptoSaid : Prop := fnGradeMeetUptoRow.holds Tryd.pinned (OpenSpec.upto fnGradeMeetSpec)

/-- 'laws.FnMixValid', WHERE WHAT IT READS IS OF BULK AT MOST 1048576: true; the input reads as it did. -/
def fnMixValidUptoRow : OpenClaim := { program := "ytdfbkldppblefaadoor", sum := "79ab56c95bf617374d1d00ccefbe35726bcc89c1d8827ad4d59b84af9703a8ff", func := "loop.example/steelmill/laws.FnMixValid", spec := "fnMixValid", named := ["internal/strconv.uint64pow10", "math/bits.deBruijn32tab", "math/bits.deBruijn64tab"], apart := false, laid := [("math/bits.deBruijn32tab", laid_math_bits_deBruijn32tab), ("math/bits.deBruijn64tab", laid_math_bits_deBruijn64tab), ("internal/strconv.uint64pow10", laid_internal_strconv_uint64pow10)], narrowed := true }
def FnMixValidUptoSaid : Prop := fnMixValidUptoRow.holds Tryd.pinned (OpenSpec.upto fnMixValidSpec)

/-- 'laws.FnMixCost', WHERE WHAT IT READS IS OF BULK AT MOST 1048576: true; the input reads as it did. -/
def fnMixCostUptoRow : OpenClaim := { program := "ytdfbkldppblefaadoor", sum := "79ab56c95bf617374d1d00ccefbe35726bcc89c1d8827ad4d59b84af9703a8ff", func := "loop.example/steelmill/laws.FnMixCost", spec := "fnMixCost", named := ["internal/strconv.uint64pow10", "math/bits.deBruijn32tab", "math/bits.deBruijn64tab"], apart := false, laid := [("math/bits.deBruijn32tab", laid_math_bits_deBruijn32tab), ("math/bits.deBruijn64tab", laid_math_bits_deBruijn64tab), ("internal/strconv.uint64pow10", laid_internal_strconv_uint64pow10)], narrowed := true }
def FnMixCostUptoSaid : Prop := fnMixCostUptoRow.holds Tryd.pinned (OpenSpec.upto fnMixCostSpec)

/-- 'laws.FnMixSums', WHERE WHAT IT READS IS OF BULK AT MOST 1048576: true; the input reads as it did. -/
def fnMixSumsUptoRow : OpenClaim := { program := "ytdfbkldppblefaadoor", sum := "79ab56c95bf617374d1d00ccefbe35726bcc89c1d8827ad4d59b84af9703a8ff", func := "loop.example/steelmill/laws.FnMixSums", spec := "fnMixSums", named := ["internal/strconv.uint64pow10", "math/bits.deBruijn32tab", "math/bits.deBruijn64tab"], apart := false, laid := [("math/bits.deBruijn32tab", laid_math_bits_deBruijn32tab), ("math/bits.deBruijn64tab", laid_math_bits_deBruijn64tab), ("internal/strconv.uint64pow10", laid_internal_strconv_uint64pow10)], narrowed := true }
def FnMixSumsUptoSaid : Prop := fnMixSumsUptoRow.holds Tryd.pinned (OpenSpec.upto fnMixSumsSpec)

/-- 'laws.FnMixTake', WHERE WHAT IT READS IS OF BULK AT MOST 1048576: true; the input reads as it did. -/
def fnMixTakeUptoRow : OpenClaim := { program := "ytdfbkldppblefaadoor", sum := "79ab56c95bf617374d1d00ccefbe35726bcc89c1d8827ad4d59b84af9703a8ff", func := "loop.example/steelmill/laws.FnMixTake", spec := "fnMixTake", named := ["internal/strconv.uint64pow10", "math/bits.deBruijn32tab", "math/bits.deBruijn64tab"], apart := false, laid := [("math/bits.deBruijn32tab", laid_math_bits_deBruijn32tab), ("math/bits.deBruijn64tab", laid_math_bits_deBruijn64tab), ("internal/strconv.uint64pow10", laid_internal_strconv_uint64pow10)], narrowed := true }
def FnMixTakeUptoSaid : Prop := fnMixTakeUptoRow.holds Tryd.pinned (OpenSpec.upto fnMixTakeSpec)

/-- 'laws.FnMixMeets', WHERE WHAT IT READS IS OF BULK AT MOST 1048576: true; the input reads as it did. -/
def fnMixMeetsUptoRow : OpenClaim := { program := "ytdfbkldppblefaadoor", sum := "79ab56c95bf617374d1d00ccefbe35726bcc89c1d8827ad4d59b84af9703a8ff", func := "loop.example/steelmill/laws.FnMixMeets", spec := "fnMixMeets", named := ["internal/strconv.uint64pow10", "math/bits.deBruijn32tab", "math/bits.deBruijn64tab"], apart := false, laid := [("math/bits.deBruijn32tab", laid_math_bits_deBruijn32tab), ("math/bits.deBruijn64tab", laid_math_bits_deBruijn64tab), ("internal/strconv.uint64pow10", laid_internal_strconv_uint64pow10)], narrowed := true }
def FnMixMeetsUptoSaid : Prop := fnMixMeetsUptoRow.holds Tryd.pinned (OpenSpec.upto fnMixMeetsSpec)

end Rows
end Go.Proofs.YtdfbkldppblefaaDoor
