/-
  No cell of these rows narrows 'for every input' (looked for: loops, veiled, ifaces, maps, wideKeys, modest, calm, conditions, laid).
  DERIVED. THE GIVEN ROWS OF THIS SEAT. 7 by the template 'for every input the law returns true; each argument reads behind the call as it read before'; 0 by the template 'total and deterministic' (their statements: YtblfbllhkmcbbaaTotals.lean).
  GIVEN WITH THE SEED: the statements are not yours to turn. If you find one false, say at which input.
  Laid BY PROGRAM, IN A SANDBOX (cutbox-rows.mjs): the forced cells as the released guide's own fill.sh prints them over the translation 5d0c30af31feaf15… (all of the seat's roots in one cut). By AI agents, Wed Nov 11 2026. No macro, syntax, notation, axiom, sorry.
-/
import Derived.Test.YtblfbllhkmcbbaaChecked
import GoSem.Claim
import GoSem.ClaimJoined
import GoSem.ClaimMapViews
import Derived.JoinedTies
import Derived.KernelRfl
namespace Go.Proofs.Ytblfbllhkmcbbaa
/- THE CELL 'sum', in the pinned program and in every row, IS THE sha256 OF THE DUMP (.gsa) THAT YtblfbllhkmcbbaaProg.lean LOADS. Nothing in Lean hashes anything: it is a label: what it is worth is what the hold of that sum in a sandbox is worth. -/
noncomputable def Try.pinned : Pinned := { name := "ytblfbllhkmcbbaa", sum := "5d0c30af31feaf15f51d2f529e08ad8d463d2c5262fe42b699180bb1c47bcf52", checked := Try.checked }
namespace Rows
def none {H : Type} : Left H := { results := [], args := [] }

/-- 'laws.FnExactGradeMeet': WHATEVER THE INPUT: true; the input reads as it did. -/
def fnExactGradeMeetSpec : ChangeSpec := { name := "fnExactGradeMeet", fn := fun _ => fun
  | [d1, d2] => { results := [.lit (.bool true)], args := [d1, d2] }
  | _ => none }
def fnExactGradeMeetRow : OpenClaim := { program := "ytblfbllhkmcbbaa", sum := "5d0c30af31feaf15f51d2f529e08ad8d463d2c5262fe42b699180bb1c47bcf52", func := "loop.example/steelmill/laws.FnExactGradeMeet", spec := "fnExactGradeMeet", apart := false }
def FnExactGradeMeetSaid : Prop := fnExactGradeMeetRow.holds Try.pinned (OpenSpec.ofChange fnExactGradeMeetSpec)

/-- ITS FALSE NEIGHBOUR: 'it returns false'. Refute it at one input. -/
def fnExactGradeMeetWrong : ChangeSpec := { name := "fnExactGradeMeet", fn := fun _ => fun
  | [d1, d2] => { results := [.lit (.bool false)], args := [d1, d2] }
  | _ => none }
def FnExactGradeMeetWrongFalsely : Prop := fnExactGradeMeetRow.holds Try.pinned (OpenSpec.ofChange fnExactGradeMeetWrong)

/-- 'laws.FnExactMixBest': WHATEVER THE INPUT: true; the input reads as it did. -/
def fnExactMixBestSpec : ChangeSpec := { name := "fnExactMixBest", fn := fun _ => fun
  | [d1, d2, d3] => { results := [.lit (.bool true)], args := [d1, d2, d3] }
  | _ => none }
def fnExactMixBestRow : OpenClaim := { program := "ytblfbllhkmcbbaa", sum := "5d0c30af31feaf15f51d2f529e08ad8d463d2c5262fe42b699180bb1c47bcf52", func := "loop.example/steelmill/laws.FnExactMixBest", spec := "fnExactMixBest", recurses := true, apart := false }
def FnExactMixBestSaid : Prop := fnExactMixBestRow.holds Try.pinned (OpenSpec.ofChange fnExactMixBestSpec)

/-- ITS FALSE NEIGHBOUR: 'it returns false'. Refute it at one input. -/
def fnExactMixBestWrong : ChangeSpec := { name := "fnExactMixBest", fn := fun _ => fun
  | [d1, d2, d3] => { results := [.lit (.bool false)], args := [d1, d2, d3] }
  | _ => none }
def FnExactMixBestWrongFalsely : Prop := fnExactMixBestRow.holds Try.pinned (OpenSpec.ofChange fnExactMixBestWrong)

/-- 'laws.FnExactMixLeast': WHATEVER THE INPUT: true; the input reads as it did. -/
def fnExactMixLeastSpec : ChangeSpec := { name := "fnExactMixLeast", fn := fun _ => fun
  | [d1, d2, d3] => { results := [.lit (.bool true)], args := [d1, d2, d3] }
  | _ => none }
def fnExactMixLeastRow : OpenClaim := { program := "ytblfbllhkmcbbaa", sum := "5d0c30af31feaf15f51d2f529e08ad8d463d2c5262fe42b699180bb1c47bcf52", func := "loop.example/steelmill/laws.FnExactMixLeast", spec := "fnExactMixLeast", recurses := true, apart := false }
def FnExactMixLeastSaid : Prop := fnExactMixLeastRow.holds Try.pinned (OpenSpec.ofChange fnExactMixLeastSpec)

/-- ITS FALSE NEIGHBOUR: 'it returns false'. Refute it at one input. -/
def fnExactMixLeastWrong : ChangeSpec := { name := "fnExactMixLeast", fn := fun _ => fun
  | [d1, d2, d3] => { results := [.lit (.bool false)], args := [d1, d2, d3] }
  | _ => none }
def FnExactMixLeastWrongFalsely : Prop := fnExactMixLeastRow.holds Try.pinned (OpenSpec.ofChange fnExactMixLeastWrong)

/-- 'laws.FnExactMixMost': WHATEVER THE INPUT: true; the input reads as it did. -/
def fnExactMixMostSpec : ChangeSpec := { name := "fnExactMixMost", fn := fun _ => fun
  | [d1, d2] => { results := [.lit (.bool true)], args := [d1, d2] }
  | _ => none }
def fnExactMixMostRow : OpenClaim := { program := "ytblfbllhkmcbbaa", sum := "5d0c30af31feaf15f51d2f529e08ad8d463d2c5262fe42b699180bb1c47bcf52", func := "loop.example/steelmill/laws.FnExactMixMost", spec := "fnExactMixMost", recurses := true, apart := false }
def FnExactMixMostSaid : Prop := fnExactMixMostRow.holds Try.pinned (OpenSpec.ofChange fnExactMixMostSpec)

/-- ITS FALSE NEIGHBOUR: 'it returns false'. Refute it at one input. -/
def fnExactMixMostWrong : ChangeSpec := { name := "fnExactMixMost", fn := fun _ => fun
  | [d1, d2] => { results := [.lit (.bool false)], args := [d1, d2] }
  | _ => none }
def FnExactMixMostWrongFalsely : Prop := fnExactMixMostRow.holds Try.pinned (OpenSpec.ofChange fnExactMixMostWrong)

/-- 'laws.FnExactBestOrder': WHATEVER THE INPUT: true; the input reads as it did. -/
def fnExactBestOrderSpec : ChangeSpec := { name := "fnExactBestOrder", fn := fun _ => fun
  | [d1, d2] => { results := [.lit (.bool true)], args := [d1, d2] }
  | _ => none }
def fnExactBestOrderRow : OpenClaim := { program := "ytblfbllhkmcbbaa", sum := "5d0c30af31feaf15f51d2f529e08ad8d463d2c5262fe42b699180bb1c47bcf52", func := "loop.example/steelmill/laws.FnExactBestOrder", spec := "fnExactBestOrder", apart := false }
def FnExactBestOrderSaid : Prop := fnExactBestOrderRow.holds Try.pinned (OpenSpec.ofChange fnExactBestOrderSpec)

/-- ITS FALSE NEIGHBOUR: 'it returns false'. Refute it at one input. -/
def fnExactBestOrderWrong : ChangeSpec := { name := "fnExactBestOrder", fn := fun _ => fun
  | [d1, d2] => { results := [.lit (.bool false)], args := [d1, d2] }
  | _ => none }
def FnExactBestOrderWrongFalsely : Prop := fnExactBestOrderRow.holds Try.pinned (OpenSpec.ofChange fnExactBestOrderWrong)

/-- 'laws.FnExactLeastLost': WHATEVER THE INPUT: true; the input reads as it did. -/
def fnExactLeastLostSpec : ChangeSpec := { name := "fnExactLeastLost", fn := fun _ => fun
  | [d1, d2] => { results := [.lit (.bool true)], args := [d1, d2] }
  | _ => none }
def fnExactLeastLostRow : OpenClaim := { program := "ytblfbllhkmcbbaa", sum := "5d0c30af31feaf15f51d2f529e08ad8d463d2c5262fe42b699180bb1c47bcf52", func := "loop.example/steelmill/laws.FnExactLeastLost", spec := "fnExactLeastLost", apart := false }
def FnExactLeastLostSaid : Prop := fnExactLeastLostRow.holds Try.pinned (OpenSpec.ofChange fnExactLeastLostSpec)

/-- ITS FALSE NEIGHBOUR: 'it returns false'. Refute it at one input. -/
def fnExactLeastLostWrong : ChangeSpec := { name := "fnExactLeastLost", fn := fun _ => fun
  | [d1, d2] => { results := [.lit (.bool false)], args := [d1, d2] }
  | _ => none }
def FnExactLeastLostWrongFalsely : Prop := fnExactLeastLostRow.holds Try.pinned (OpenSpec.ofChange fnExactLeastLostWrong)

/-- 'laws.FnExactLadleOf': WHATEVER THE INPUT: true; the input reads as it did. -/
def fnExactLadleOfSpec : ChangeSpec := { name := "fnExactLadleOf", fn := fun _ => fun
  | [d1, d2, d3] => { results := [.lit (.bool true)], args := [d1, d2, d3] }
  | _ => none }
def fnExactLadleOfRow : OpenClaim := { program := "ytblfbllhkmcbbaa", sum := "5d0c30af31feaf15f51d2f529e08ad8d463d2c5262fe42b699180bb1c47bcf52", func := "loop.example/steelmill/laws.FnExactLadleOf", spec := "fnExactLadleOf", unfollowed := true, recurses := true, apart := false }
def FnExactLadleOfSaid : Prop := fnExactLadleOfRow.holds Try.pinned (OpenSpec.ofChange fnExactLadleOfSpec)

/-- ITS FALSE NEIGHBOUR: 'it returns false'. Refute it at one input. -/
def fnExactLadleOfWrong : ChangeSpec := { name := "fnExactLadleOf", fn := fun _ => fun
  | [d1, d2, d3] => { results := [.lit (.bool false)], args := [d1, d2, d3] }
  | _ => none }
def FnExactLadleOfWrongFalsely : Prop := fnExactLadleOfRow.holds Try.pinned (OpenSpec.ofChange fnExactLadleOfWrong)

/- THE SECOND FORM. 'bulk': how many values and letters a reading holds, each counted each time it is reached (what is shared counts as often as it is met; a slice's spare places count too). A statement '..UptoSaid' is the law's where the arguments, and the package variables that the reading takes, are together of bulk at most 1048576: NARROWER than '..Said'. Prove '..Said' where nothing that the law and all that it calls make is longer than what came in: it says more and counts as full. Else prove '..UptoSaid'. A law counts once. -/
mutual
def uptoBulk {H : Type} : DataW H → Nat
  | .lit (.string bytes) => bytes.length + 1
  | .lit _ => 1
  | .nil => 1
  | .ptr d => uptoBulk d + 1
  | .slice elems spare => uptoBulkAll elems + uptoBulkAll spare + 1
  | .agg parts => uptoBulkAll parts + 1
  | .iface _ d => uptoBulk d + 1
  | .map entries => uptoBulkEntries entries + 1
  | .held _ => 1
def uptoBulkAll {H : Type} : List (DataW H) → Nat
  | [] => 0
  | d :: r => uptoBulk d + uptoBulkAll r
def uptoBulkEntries {H : Type} : List (Lit × DataW H) → Nat
  | [] => 0
  | x :: r => uptoBulkEntry x + uptoBulkEntries r
def uptoBulkEntry {H : Type} : Lit × DataW H → Nat
  | (.string bytes, d) => bytes.length + uptoBulk d + 1
  | (_, d) => uptoBulk d + 1
 end
def uptoSmall : (H : Type) → List (DataW H) → Bool := fun _ ds => decide (uptoBulkAll ds ≤ 1048576)
def OpenSpec.upto (s : _root_.Go.ChangeSpec) : _root_.Go.OpenSpec := { _root_.Go.OpenSpec.ofChange s with cond := some uptoSmall }

/-- 'laws.FnExactGradeMeet', WHERE WHAT IT READS IS OF BULK AT MOST 1048576: true; the input reads as it did. -/
def fnExactGradeMeetUptoRow : OpenClaim := { program := "ytblfbllhkmcbbaa", sum := "5d0c30af31feaf15f51d2f529e08ad8d463d2c5262fe42b699180bb1c47bcf52", func := "loop.example/steelmill/laws.FnExactGradeMeet", spec := "fnExactGradeMeet", apart := false, narrowed := true }
def FnExactGradeMeetUptoSaid : Prop := fnExactGradeMeetUptoRow.holds Try.pinned (OpenSpec.upto fnExactGradeMeetSpec)

/-- 'laws.FnExactMixBest', WHERE WHAT IT READS IS OF BULK AT MOST 1048576: true; the input reads as it did. -/
def fnExactMixBestUptoRow : OpenClaim := { program := "ytblfbllhkmcbbaa", sum := "5d0c30af31feaf15f51d2f529e08ad8d463d2c5262fe42b699180bb1c47bcf52", func := "loop.example/steelmill/laws.FnExactMixBest", spec := "fnExactMixBest", recurses := true, apart := false, narrowed := true }
def FnExactMixBestUptoSaid : Prop := fnExactMixBestUptoRow.holds Try.pinned (OpenSpec.upto fnExactMixBestSpec)

/-- 'laws.FnExactMixLeast', WHERE WHAT IT READS IS OF BULK AT MOST 1048576: true; the input reads as it did. -/
def fnExactMixLeastUptoRow : OpenClaim := { program := "ytblfbllhkmcbbaa", sum := "5d0c30af31feaf15f51d2f529e08ad8d463d2c5262fe42b699180bb1c47bcf52", func := "loop.example/steelmill/laws.FnExactMixLeast", spec := "fnExactMixLeast", recurses := true, apart := false, narrowed := true }
def FnExactMixLeastUptoSaid : Prop := fnExactMixLeastUptoRow.holds Try.pinned (OpenSpec.upto fnExactMixLeastSpec)

/-- 'laws.FnExactMixMost', WHERE WHAT IT READS IS OF BULK AT MOST 1048576: true; the input reads as it did. -/
def fnExactMixMostUptoRow : OpenClaim := { program := "ytblfbllhkmcbbaa", sum := "5d0c30af31feaf15f51d2f529e08ad8d463d2c5262fe42b699180bb1c47bcf52", func := "loop.example/steelmill/laws.FnExactMixMost", spec := "fnExactMixMost", recurses := true, apart := false, narrowed := true }
def FnExactMixMostUptoSaid : Prop := fnExactMixMostUptoRow.holds Try.pinned (OpenSpec.upto fnExactMixMostSpec)

/-- 'laws.FnExactBestOrder', WHERE WHAT IT READS IS OF BULK AT MOST 1048576: true; the input reads as it did. -/
def fnExactBestOrderUptoRow : OpenClaim := { program := "ytblfbllhkmcbbaa", sum := "5d0c30af31feaf15f51d2f529e08ad8d463d2c5262fe42b699180bb1c47bcf52", func := "loop.example/steelmill/laws.FnExactBestOrder", spec := "fnExactBestOrder", apart := false, narrowed := true }
def FnExactBestOrderUptoSaid : Prop := fnExactBestOrderUptoRow.holds Try.pinned (OpenSpec.upto fnExactBestOrderSpec)

/-- 'laws.FnExactLeastLost', WHERE WHAT IT READS IS OF BULK AT MOST 1048576: true; the input reads as it did. -/
def fnExactLeastLostUptoRow : OpenClaim := { program := "ytblfbllhkmcbbaa", sum := "5d0c30af31feaf15f51d2f529e08ad8d463d2c5262fe42b699180bb1c47bcf52", func := "loop.example/steelmill/laws.FnExactLeastLost", spec := "fnExactLeastLost", apart := false, narrowed := true }
def FnExactLeastLostUptoSaid : Prop := fnExactLeastLostUptoRow.holds Try.pinned (OpenSpec.upto fnExactLeastLostSpec)

/-- 'laws.FnExactLadleOf', WHERE WHAT IT READS IS OF BULK AT MOST 1048576: true; the input reads as it did. -/
def fnExactLadleOfUptoRow : OpenClaim := { program := "ytblfbllhkmcbbaa", sum := "5d0c30af31feaf15f51d2f529e08ad8d463d2c5262fe42b699180bb1c47bcf52", func := "loop.example/steelmill/laws.FnExactLadleOf", spec := "fnExactLadleOf", unfollowed := true, recurses := true, apart := false, narrowed := true }
def FnExactLadleOfUptoSaid : Prop := fnExactLadleOfUptoRow.holds Try.pinned (OpenSpec.upto fnExactLadleOfSpec)

end Rows
end Go.Proofs.Ytblfbllhkmcbbaa
