/-
  No cell of these rows narrows 'for every input' (looked for: loops, veiled, ifaces, maps, wideKeys, modest, calm, conditions, laid).
  DERIVED. THE GIVEN ROWS OF THIS SEAT. 12 by the template 'for every input the law returns true; each argument reads behind the call as it read before'; 0 by the template 'total and deterministic' (their statements: YtgedcmdhmikbnaaTotals.lean).
  GIVEN WITH THE SEED: the statements are not yours to turn. If you find one false, say at which input.
  Laid BY PROGRAM, IN A SANDBOX (cutbox-rows.mjs): the forced cells as the released guide's own fill.sh prints them over the translation f8e56e5829aed447… (all of the seat's roots in one cut). By AI agents, Wed Nov 11 2026. No macro, syntax, notation, axiom, sorry.
-/
import Derived.Test.YtgedcmdhmikbnaaChecked
import GoSem.Claim
import GoSem.ClaimJoined
import GoSem.ClaimMapViews
import Derived.JoinedTies
import Derived.KernelRfl
namespace Go.Proofs.Ytgedcmdhmikbnaa
/- THE CELL 'sum', in the pinned program and in every row, IS THE sha256 OF THE DUMP (.gsa) THAT YtgedcmdhmikbnaaProg.lean LOADS. Nothing in Lean hashes anything: it is a label: what it is worth is what the hold of that sum in a sandbox is worth. -/
noncomputable def Try.pinned : Pinned := { name := "ytgedcmdhmikbnaa", sum := "f8e56e5829aed447c6a7d034f881b15fc715ce536435dfc2c8d2291486e48184", checked := Try.checked }
namespace Rows
def none {H : Type} : Left H := { results := [], args := [] }

/-- 'laws.FnExactCasterValid': WHATEVER THE INPUT: true; the input reads as it did. -/
def fnExactCasterValidSpec : ChangeSpec := { name := "fnExactCasterValid", fn := fun _ => fun
  | [d] => { results := [.lit (.bool true)], args := [d] }
  | _ => none }
def fnExactCasterValidRow : OpenClaim := { program := "ytgedcmdhmikbnaa", sum := "f8e56e5829aed447c6a7d034f881b15fc715ce536435dfc2c8d2291486e48184", func := "loop.example/steelmill/laws.FnExactCasterValid", spec := "fnExactCasterValid", apart := false }
def FnExactCasterValidSaid : Prop := fnExactCasterValidRow.holds Try.pinned (OpenSpec.ofChange fnExactCasterValidSpec)

/-- ITS FALSE NEIGHBOUR: 'it returns false'. Refute it at one input. -/
def fnExactCasterValidWrong : ChangeSpec := { name := "fnExactCasterValid", fn := fun _ => fun
  | [d] => { results := [.lit (.bool false)], args := [d] }
  | _ => none }
def FnExactCasterValidWrongFalsely : Prop := fnExactCasterValidRow.holds Try.pinned (OpenSpec.ofChange fnExactCasterValidWrong)

/-- 'laws.FnExactHeatValid': WHATEVER THE INPUT: true; the input reads as it did. -/
def fnExactHeatValidSpec : ChangeSpec := { name := "fnExactHeatValid", fn := fun _ => fun
  | [d] => { results := [.lit (.bool true)], args := [d] }
  | _ => none }
def fnExactHeatValidRow : OpenClaim := { program := "ytgedcmdhmikbnaa", sum := "f8e56e5829aed447c6a7d034f881b15fc715ce536435dfc2c8d2291486e48184", func := "loop.example/steelmill/laws.FnExactHeatValid", spec := "fnExactHeatValid", apart := false }
def FnExactHeatValidSaid : Prop := fnExactHeatValidRow.holds Try.pinned (OpenSpec.ofChange fnExactHeatValidSpec)

/-- ITS FALSE NEIGHBOUR: 'it returns false'. Refute it at one input. -/
def fnExactHeatValidWrong : ChangeSpec := { name := "fnExactHeatValid", fn := fun _ => fun
  | [d] => { results := [.lit (.bool false)], args := [d] }
  | _ => none }
def FnExactHeatValidWrongFalsely : Prop := fnExactHeatValidRow.holds Try.pinned (OpenSpec.ofChange fnExactHeatValidWrong)

/-- 'laws.FnExactHeatsValid': WHATEVER THE INPUT: true; the input reads as it did. -/
def fnExactHeatsValidSpec : ChangeSpec := { name := "fnExactHeatsValid", fn := fun _ => fun
  | [d] => { results := [.lit (.bool true)], args := [d] }
  | _ => none }
def fnExactHeatsValidRow : OpenClaim := { program := "ytgedcmdhmikbnaa", sum := "f8e56e5829aed447c6a7d034f881b15fc715ce536435dfc2c8d2291486e48184", func := "loop.example/steelmill/laws.FnExactHeatsValid", spec := "fnExactHeatsValid", apart := false }
def FnExactHeatsValidSaid : Prop := fnExactHeatsValidRow.holds Try.pinned (OpenSpec.ofChange fnExactHeatsValidSpec)

/-- ITS FALSE NEIGHBOUR: 'it returns false'. Refute it at one input. -/
def fnExactHeatsValidWrong : ChangeSpec := { name := "fnExactHeatsValid", fn := fun _ => fun
  | [d] => { results := [.lit (.bool false)], args := [d] }
  | _ => none }
def FnExactHeatsValidWrongFalsely : Prop := fnExactHeatsValidRow.holds Try.pinned (OpenSpec.ofChange fnExactHeatsValidWrong)

/-- 'laws.FnExactLostValid': WHATEVER THE INPUT: true; the input reads as it did. -/
def fnExactLostValidSpec : ChangeSpec := { name := "fnExactLostValid", fn := fun _ => fun
  | [d] => { results := [.lit (.bool true)], args := [d] }
  | _ => none }
def fnExactLostValidRow : OpenClaim := { program := "ytgedcmdhmikbnaa", sum := "f8e56e5829aed447c6a7d034f881b15fc715ce536435dfc2c8d2291486e48184", func := "loop.example/steelmill/laws.FnExactLostValid", spec := "fnExactLostValid", apart := false }
def FnExactLostValidSaid : Prop := fnExactLostValidRow.holds Try.pinned (OpenSpec.ofChange fnExactLostValidSpec)

/-- ITS FALSE NEIGHBOUR: 'it returns false'. Refute it at one input. -/
def fnExactLostValidWrong : ChangeSpec := { name := "fnExactLostValid", fn := fun _ => fun
  | [d] => { results := [.lit (.bool false)], args := [d] }
  | _ => none }
def FnExactLostValidWrongFalsely : Prop := fnExactLostValidRow.holds Try.pinned (OpenSpec.ofChange fnExactLostValidWrong)

/-- 'laws.FnExactCastOk': WHATEVER THE INPUT: true; the input reads as it did. -/
def fnExactCastOkSpec : ChangeSpec := { name := "fnExactCastOk", fn := fun _ => fun
  | [d1, d2, d3] => { results := [.lit (.bool true)], args := [d1, d2, d3] }
  | _ => none }
def fnExactCastOkRow : OpenClaim := { program := "ytgedcmdhmikbnaa", sum := "f8e56e5829aed447c6a7d034f881b15fc715ce536435dfc2c8d2291486e48184", func := "loop.example/steelmill/laws.FnExactCastOk", spec := "fnExactCastOk", apart := false }
def FnExactCastOkSaid : Prop := fnExactCastOkRow.holds Try.pinned (OpenSpec.ofChange fnExactCastOkSpec)

/-- ITS FALSE NEIGHBOUR: 'it returns false'. Refute it at one input. -/
def fnExactCastOkWrong : ChangeSpec := { name := "fnExactCastOk", fn := fun _ => fun
  | [d1, d2, d3] => { results := [.lit (.bool false)], args := [d1, d2, d3] }
  | _ => none }
def FnExactCastOkWrongFalsely : Prop := fnExactCastOkRow.holds Try.pinned (OpenSpec.ofChange fnExactCastOkWrong)

/-- 'laws.FnExactCastEnd': WHATEVER THE INPUT: true; the input reads as it did. -/
def fnExactCastEndSpec : ChangeSpec := { name := "fnExactCastEnd", fn := fun _ => fun
  | [d1, d2] => { results := [.lit (.bool true)], args := [d1, d2] }
  | _ => none }
def fnExactCastEndRow : OpenClaim := { program := "ytgedcmdhmikbnaa", sum := "f8e56e5829aed447c6a7d034f881b15fc715ce536435dfc2c8d2291486e48184", func := "loop.example/steelmill/laws.FnExactCastEnd", spec := "fnExactCastEnd", apart := false }
def FnExactCastEndSaid : Prop := fnExactCastEndRow.holds Try.pinned (OpenSpec.ofChange fnExactCastEndSpec)

/-- ITS FALSE NEIGHBOUR: 'it returns false'. Refute it at one input. -/
def fnExactCastEndWrong : ChangeSpec := { name := "fnExactCastEnd", fn := fun _ => fun
  | [d1, d2] => { results := [.lit (.bool false)], args := [d1, d2] }
  | _ => none }
def FnExactCastEndWrongFalsely : Prop := fnExactCastEndRow.holds Try.pinned (OpenSpec.ofChange fnExactCastEndWrong)

/-- 'laws.FnExactHeatWaits': WHATEVER THE INPUT: true; the input reads as it did. -/
def fnExactHeatWaitsSpec : ChangeSpec := { name := "fnExactHeatWaits", fn := fun _ => fun
  | [d1, d2, d3] => { results := [.lit (.bool true)], args := [d1, d2, d3] }
  | _ => none }
def fnExactHeatWaitsRow : OpenClaim := { program := "ytgedcmdhmikbnaa", sum := "f8e56e5829aed447c6a7d034f881b15fc715ce536435dfc2c8d2291486e48184", func := "loop.example/steelmill/laws.FnExactHeatWaits", spec := "fnExactHeatWaits", apart := false }
def FnExactHeatWaitsSaid : Prop := fnExactHeatWaitsRow.holds Try.pinned (OpenSpec.ofChange fnExactHeatWaitsSpec)

/-- ITS FALSE NEIGHBOUR: 'it returns false'. Refute it at one input. -/
def fnExactHeatWaitsWrong : ChangeSpec := { name := "fnExactHeatWaits", fn := fun _ => fun
  | [d1, d2, d3] => { results := [.lit (.bool false)], args := [d1, d2, d3] }
  | _ => none }
def FnExactHeatWaitsWrongFalsely : Prop := fnExactHeatWaitsRow.holds Try.pinned (OpenSpec.ofChange fnExactHeatWaitsWrong)

/-- 'laws.FnExactLadlesAt': WHATEVER THE INPUT: true; the input reads as it did. -/
def fnExactLadlesAtSpec : ChangeSpec := { name := "fnExactLadlesAt", fn := fun _ => fun
  | [d1, d2, d3, d4] => { results := [.lit (.bool true)], args := [d1, d2, d3, d4] }
  | _ => none }
def fnExactLadlesAtRow : OpenClaim := { program := "ytgedcmdhmikbnaa", sum := "f8e56e5829aed447c6a7d034f881b15fc715ce536435dfc2c8d2291486e48184", func := "loop.example/steelmill/laws.FnExactLadlesAt", spec := "fnExactLadlesAt", apart := false }
def FnExactLadlesAtSaid : Prop := fnExactLadlesAtRow.holds Try.pinned (OpenSpec.ofChange fnExactLadlesAtSpec)

/-- ITS FALSE NEIGHBOUR: 'it returns false'. Refute it at one input. -/
def fnExactLadlesAtWrong : ChangeSpec := { name := "fnExactLadlesAt", fn := fun _ => fun
  | [d1, d2, d3, d4] => { results := [.lit (.bool false)], args := [d1, d2, d3, d4] }
  | _ => none }
def FnExactLadlesAtWrongFalsely : Prop := fnExactLadlesAtRow.holds Try.pinned (OpenSpec.ofChange fnExactLadlesAtWrong)

/-- 'laws.FnExactCastTimes': WHATEVER THE INPUT: true; the input reads as it did. -/
def fnExactCastTimesSpec : ChangeSpec := { name := "fnExactCastTimes", fn := fun _ => fun
  | [d1, d2] => { results := [.lit (.bool true)], args := [d1, d2] }
  | _ => none }
def fnExactCastTimesRow : OpenClaim := { program := "ytgedcmdhmikbnaa", sum := "f8e56e5829aed447c6a7d034f881b15fc715ce536435dfc2c8d2291486e48184", func := "loop.example/steelmill/laws.FnExactCastTimes", spec := "fnExactCastTimes", apart := false }
def FnExactCastTimesSaid : Prop := fnExactCastTimesRow.holds Try.pinned (OpenSpec.ofChange fnExactCastTimesSpec)

/-- ITS FALSE NEIGHBOUR: 'it returns false'. Refute it at one input. -/
def fnExactCastTimesWrong : ChangeSpec := { name := "fnExactCastTimes", fn := fun _ => fun
  | [d1, d2] => { results := [.lit (.bool false)], args := [d1, d2] }
  | _ => none }
def FnExactCastTimesWrongFalsely : Prop := fnExactCastTimesRow.holds Try.pinned (OpenSpec.ofChange fnExactCastTimesWrong)

/-- 'laws.FnExactLadlesMost': WHATEVER THE INPUT: true; the input reads as it did. -/
def fnExactLadlesMostSpec : ChangeSpec := { name := "fnExactLadlesMost", fn := fun _ => fun
  | [d1, d2, d3] => { results := [.lit (.bool true)], args := [d1, d2, d3] }
  | _ => none }
def fnExactLadlesMostRow : OpenClaim := { program := "ytgedcmdhmikbnaa", sum := "f8e56e5829aed447c6a7d034f881b15fc715ce536435dfc2c8d2291486e48184", func := "loop.example/steelmill/laws.FnExactLadlesMost", spec := "fnExactLadlesMost", apart := false }
def FnExactLadlesMostSaid : Prop := fnExactLadlesMostRow.holds Try.pinned (OpenSpec.ofChange fnExactLadlesMostSpec)

/-- ITS FALSE NEIGHBOUR: 'it returns false'. Refute it at one input. -/
def fnExactLadlesMostWrong : ChangeSpec := { name := "fnExactLadlesMost", fn := fun _ => fun
  | [d1, d2, d3] => { results := [.lit (.bool false)], args := [d1, d2, d3] }
  | _ => none }
def FnExactLadlesMostWrongFalsely : Prop := fnExactLadlesMostRow.holds Try.pinned (OpenSpec.ofChange fnExactLadlesMostWrong)

/-- 'laws.FnExactCastLate': WHATEVER THE INPUT: true; the input reads as it did. -/
def fnExactCastLateSpec : ChangeSpec := { name := "fnExactCastLate", fn := fun _ => fun
  | [d1, d2] => { results := [.lit (.bool true)], args := [d1, d2] }
  | _ => none }
def fnExactCastLateRow : OpenClaim := { program := "ytgedcmdhmikbnaa", sum := "f8e56e5829aed447c6a7d034f881b15fc715ce536435dfc2c8d2291486e48184", func := "loop.example/steelmill/laws.FnExactCastLate", spec := "fnExactCastLate", apart := false }
def FnExactCastLateSaid : Prop := fnExactCastLateRow.holds Try.pinned (OpenSpec.ofChange fnExactCastLateSpec)

/-- ITS FALSE NEIGHBOUR: 'it returns false'. Refute it at one input. -/
def fnExactCastLateWrong : ChangeSpec := { name := "fnExactCastLate", fn := fun _ => fun
  | [d1, d2] => { results := [.lit (.bool false)], args := [d1, d2] }
  | _ => none }
def FnExactCastLateWrongFalsely : Prop := fnExactCastLateRow.holds Try.pinned (OpenSpec.ofChange fnExactCastLateWrong)

/-- 'laws.FnExactOrderLost': WHATEVER THE INPUT: true; the input reads as it did. -/
def fnExactOrderLostSpec : ChangeSpec := { name := "fnExactOrderLost", fn := fun _ => fun
  | [d1, d2, d3] => { results := [.lit (.bool true)], args := [d1, d2, d3] }
  | _ => none }
def fnExactOrderLostRow : OpenClaim := { program := "ytgedcmdhmikbnaa", sum := "f8e56e5829aed447c6a7d034f881b15fc715ce536435dfc2c8d2291486e48184", func := "loop.example/steelmill/laws.FnExactOrderLost", spec := "fnExactOrderLost", apart := false }
def FnExactOrderLostSaid : Prop := fnExactOrderLostRow.holds Try.pinned (OpenSpec.ofChange fnExactOrderLostSpec)

/-- ITS FALSE NEIGHBOUR: 'it returns false'. Refute it at one input. -/
def fnExactOrderLostWrong : ChangeSpec := { name := "fnExactOrderLost", fn := fun _ => fun
  | [d1, d2, d3] => { results := [.lit (.bool false)], args := [d1, d2, d3] }
  | _ => none }
def FnExactOrderLostWrongFalsely : Prop := fnExactOrderLostRow.holds Try.pinned (OpenSpec.ofChange fnExactOrderLostWrong)

/- THE SECOND FORM. 'bulk': how many values and letters a reading holds, each counted each time it is reached (what is shared counts as often as it is met; a slice's spare places count too). A statement '..UptoSaid' is the law's where the arguments, and the package variables that the reading takes, are together of bulk at most 1048576: NARROWER than '..Said'. Prove '..Said' where nothing that the law and all that it calls make is longer than what came in: it says more and counts as full. Else prove '..UptoSaid'. A law counts once. -/
mutual
def uptoBulk {H : Type} : DataW H → Nat
  | .lit (.string bytes) => bytes.length + 1
  | .lit _ => 1
  | .nil => 1
  | .ptr d => uptoBulk d + 1
  | .slice elems spare => uptoBulkAll elems + uptoBulkAll spare + 1
  | .agg parts => uptoBulkAll parts + 1
  | .iface _ d => uptoBulk d + 1
  | .map entries => uptoBulkEntries entries + 1
  | .held _ => 1
def uptoBulkAll {H : Type} : List (DataW H) → Nat
  | [] => 0
  | d :: r => uptoBulk d + uptoBulkAll r
def uptoBulkEntries {H : Type} : List (Lit × DataW H) → Nat
  | [] => 0
  | x :: r => uptoBulkEntry x + uptoBulkEntries r
def uptoBulkEntry {H : Type} : Lit × DataW H → Nat
  | (.string bytes, d) => bytes.length + uptoBulk d + 1
  | (_, d) => uptoBulk d + 1
 end
def uptoSmall : (H : Type) → List (DataW H) → Bool := fun _ ds => decide (uptoBulkAll ds ≤ 1048576)
def OpenSpec.upto (s : _root_.Go.ChangeSpec) : _root_.Go.OpenSpec := { _root_.Go.OpenSpec.ofChange s with cond := some uptoSmall }

/-- 'laws.FnExactCasterValid', WHERE WHAT IT READS IS OF BULK AT MOST 1048576: true; the input reads as it did. -/
def fnExactCasterValidUptoRow : OpenClaim := { program := "ytgedcmdhmikbnaa", sum := "f8e56e5829aed447c6a7d034f881b15fc715ce536435dfc2c8d2291486e48184", func := "loop.example/steelmill/laws.FnExactCasterValid", spec := "fnExactCasterValid", apart := false, narrowed := true }
def FnExactCasterValidUptoSaid : Prop := fnExactCasterValidUptoRow.holds Try.pinned (OpenSpec.upto fnExactCasterValidSpec)

/-- 'laws.FnExactHeatValid', WHERE WHAT IT READS IS OF BULK AT MOST 1048576: true; the input reads as it did. -/
def fnExactHeatValidUptoRow : OpenClaim := { program := "ytgedcmdhmikbnaa", sum := "f8e56e5829aed447c6a7d034f881b15fc715ce536435dfc2c8d2291486e48184", func := "loop.example/steelmill/laws.FnExactHeatValid", spec := "fnExactHeatValid", apart := false, narrowed := true }
def FnExactHeatValidUptoSaid : Prop := fnExactHeatValidUptoRow.holds Try.pinned (OpenSpec.upto fnExactHeatValidSpec)

/-- 'laws.FnExactHeatsValid', WHERE WHAT IT READS IS OF BULK AT MOST 1048576: true; the input reads as it did. -/
def fnExactHeatsValidUptoRow : OpenClaim := { program := "ytgedcmdhmikbnaa", sum := "f8e56e5829aed447c6a7d034f881b15fc715ce536435dfc2c8d2291486e48184", func := "loop.example/steelmill/laws.FnExactHeatsValid", spec := "fnExactHeatsValid", apart := false, narrowed := true }
def FnExactHeatsValidUptoSaid : Prop := fnExactHeatsValidUptoRow.holds Try.pinned (OpenSpec.upto fnExactHeatsValidSpec)

/-- 'laws.FnExactLostValid', WHERE WHAT IT READS IS OF BULK AT MOST 1048576: true; the input reads as it did. -/
def fnExactLostValidUptoRow : OpenClaim := { program := "ytgedcmdhmikbnaa", sum := "f8e56e5829aed447c6a7d034f881b15fc715ce536435dfc2c8d2291486e48184", func := "loop.example/steelmill/laws.FnExactLostValid", spec := "fnExactLostValid", apart := false, narrowed := true }
def FnExactLostValidUptoSaid : Prop := fnExactLostValidUptoRow.holds Try.pinned (OpenSpec.upto fnExactLostValidSpec)

/-- 'laws.FnExactCastOk', WHERE WHAT IT READS IS OF BULK AT MOST 1048576: true; the input reads as it did. -/
def fnExactCastOkUptoRow : OpenClaim := { program := "ytgedcmdhmikbnaa", sum := "f8e56e5829aed447c6a7d034f881b15fc715ce536435dfc2c8d2291486e48184", func := "loop.example/steelmill/laws.FnExactCastOk", spec := "fnExactCastOk", apart := false, narrowed := true }
def FnExactCastOkUptoSaid : Prop := fnExactCastOkUptoRow.holds Try.pinned (OpenSpec.upto fnExactCastOkSpec)

/-- 'laws.FnExactCastEnd', WHERE WHAT IT READS IS OF BULK AT MOST 1048576: true; the input reads as it did. -/
def fnExactCastEndUptoRow : OpenClaim := { program := "ytgedcmdhmikbnaa", sum := "f8e56e5829aed447c6a7d034f881b15fc715ce536435dfc2c8d2291486e48184", func := "loop.example/steelmill/laws.FnExactCastEnd", spec := "fnExactCastEnd", apart := false, narrowed := true }
def FnExactCastEndUptoSaid : Prop := fnExactCastEndUptoRow.holds Try.pinned (OpenSpec.upto fnExactCastEndSpec)

/-- 'laws.FnExactHeatWaits', WHERE WHAT IT READS IS OF BULK AT MOST 1048576: true; the input reads as it did. -/
def fnExactHeatWaitsUptoRow : OpenClaim := { program := "ytgedcmdhmikbnaa", sum := "f8e56e5829aed447c6a7d034f881b15fc715ce536435dfc2c8d2291486e48184", func := "loop.example/steelmill/laws.FnExactHeatWaits", spec := "fnExactHeatWaits", apart := false, narrowed := true }
def FnExactHeatWaitsUptoSaid : Prop := fnExactHeatWaitsUptoRow.holds Try.pinned (OpenSpec.upto fnExactHeatWaitsSpec)

/-- 'laws.FnExactLadlesAt', WHERE WHAT IT READS IS OF BULK AT MOST 1048576: true; the input reads as it did. -/
def fnExactLadlesAtUptoRow : OpenClaim := { program := "ytgedcmdhmikbnaa", sum := "f8e56e5829aed447c6a7d034f881b15fc715ce536435dfc2c8d2291486e48184", func := "loop.example/steelmill/laws.FnExactLadlesAt", spec := "fnExactLadlesAt", apart := false, narrowed := true }
def FnExactLadlesAtUptoSaid : Prop := fnExactLadlesAtUptoRow.holds Try.pinned (OpenSpec.upto fnExactLadlesAtSpec)

/-- 'laws.FnExactCastTimes', WHERE WHAT IT READS IS OF BULK AT MOST 1048576: true; the input reads as it did. -/
def fnExactCastTimesUptoRow : OpenClaim := { program := "ytgedcmdhmikbnaa", sum := "f8e56e5829aed447c6a7d034f881b15fc715ce536435dfc2c8d2291486e48184", func := "loop.example/steelmill/laws.FnExactCastTimes", spec := "fnExactCastTimes", apart := false, narrowed := true }
def FnExactCastTimesUptoSaid : Prop := fnExactCastTimesUptoRow.holds Try.pinned (OpenSpec.upto fnExactCastTimesSpec)

/-- 'laws.FnExactLadlesMost', WHERE WHAT IT READS IS OF BULK AT MOST 1048576: true; the input reads as it did. -/
def fnExactLadlesMostUptoRow : OpenClaim := { program := "ytgedcmdhmikbnaa", sum := "f8e56e5829aed447c6a7d034f881b15fc715ce536435dfc2c8d2291486e48184", func := "loop.example/steelmill/laws.FnExactLadlesMost", spec := "fnExactLadlesMost", apart := false, narrowed := true }
def FnExactLadlesMostUptoSaid : Prop := fnExactLadlesMostUptoRow.holds Try.pinned (OpenSpec.upto fnExactLadlesMostSpec)

/-- 'laws.FnExactCastLate', WHERE WHAT IT READS IS OF BULK AT MOST 1048576: true; the input reads as it did. -/
def fnExactCastLateUptoRow : OpenClaim := { program := "ytgedcmdhmikbnaa", sum := "f8e56e5829aed447c6a7d034f881b15fc715ce536435dfc2c8d2291486e48184", func := "loop.example/steelmill/laws.FnExactCastLate", spec := "fnExactCastLate", apart := false, narrowed := true }
def FnExactCastLateUptoSaid : Prop := fnExactCastLateUptoRow.holds Try.pinned (OpenSpec.upto fnExactCastLateSpec)

/-- 'laws.FnExactOrderLost', WHERE WHAT IT READS IS OF BULK AT MOST 1048576: true; the input reads as it did. -/
def fnExactOrderLostUptoRow : OpenClaim := { program := "ytgedcmdhmikbnaa", sum := "f8e56e5829aed447c6a7d034f881b15fc715ce536435dfc2c8d2291486e48184", func := "loop.example/steelmill/laws.FnExactOrderLost", spec := "fnExactOrderLost", apart := false, narrowed := true }
def FnExactOrderLostUptoSaid : Prop := fnExactOrderLostUptoRow.holds Try.pinned (OpenSpec.upto fnExactOrderLostSpec)

end Rows
end Go.Proofs.Ytgedcmdhmikbnaa
