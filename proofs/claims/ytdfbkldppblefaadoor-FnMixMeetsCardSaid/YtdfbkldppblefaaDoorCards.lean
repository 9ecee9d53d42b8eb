/-
  DERIVED. GIVEN WITH THE SEED: THE CARDS: each row of YtdfbkldppblefaaDoorRows.lean that lists a variable, with what it lists TIED to the program's text (the seventh form; the later family's looks); each row that meets fmt, with fmt's text TOLD by the authors' own Lean function (tested against real Go, not proved from fmt's source: count such statements apart). THE CARD IS WHAT COUNTS. Prove the row's statement (the work); the ties are given (YtdfbkldppblefaaDoorTie.lean); close each card by the builder's one call (the guide's Derived/Test/ToyasCard.lean, 'card_holds'). Laid BY PROGRAM, IN A SANDBOX (cutbox-door.mjs). By AI agents, Wed Nov 11 2026. No macro, syntax, notation, axiom, sorry.
-/
import Derived.Test.YtdfbkldppblefaaDoorRows
import GoSem.ClaimSeven
namespace Go.Proofs.YtdfbkldppblefaaDoor
namespace Rows

/-- THE TIED CARD OF 'laws.FnStuffValid'. -/
def fnStuffValidCard : Claim7 := { stood := { row := fnStuffValidRow, standIns := [], harness := (true, "241ec3a7672e05f1798b8a8d54c94413fef8b78e2ffaea2730efed914508c86f"), looks := false }, kinds := [], alts := [], laidByText := true, laidKinds := [.data, .data, .data], laidTests := true, laidLooks := .later }
def FnStuffValidCardSaid : Prop := Claim7.holds Tryd.pinned (.plain (OpenSpec.ofChange fnStuffValidSpec)) fnStuffValidCard

/-- THE TIED CARD OF 'laws.FnGradeValid'. -/
def fnGradeValidCard : Claim7 := { stood := { row := fnGradeValidRow, standIns := [], harness := (true, "241ec3a7672e05f1798b8a8d54c94413fef8b78e2ffaea2730efed914508c86f"), looks := false }, kinds := [], alts := [], laidByText := true, laidKinds := [.data, .data, .data], laidTests := true, laidLooks := .later }
def FnGradeValidCardSaid : Prop := Claim7.holds Tryd.pinned (.plain (OpenSpec.ofChange fnGradeValidSpec)) fnGradeValidCard

/-- THE TIED CARD OF 'laws.FnMixTons'. -/
def fnMixTonsCard : Claim7 := { stood := { row := fnMixTonsRow, standIns := [], harness := (true, "241ec3a7672e05f1798b8a8d54c94413fef8b78e2ffaea2730efed914508c86f"), looks := false }, kinds := [], alts := [], laidByText := true, laidKinds := [.data, .data, .data], laidTests := true, laidLooks := .later }
def FnMixTonsCardSaid : Prop := Claim7.holds Tryd.pinned (.plain (OpenSpec.ofChange fnMixTonsSpec)) fnMixTonsCard

/-- THE TIED CARD OF 'laws.FnGradeWithin'. -/
def fnGradeWithinCard : Claim7 := { stood := { row := fnGradeWithinRow, standIns := [], harness := (true, "241ec3a7672e05f1798b8a8d54c94413fef8b78e2ffaea2730efed914508c86f"), looks := false }, kinds := [], alts := [], laidByText := true, laidKinds := [.data, .data, .data], laidTests := true, laidLooks := .later }
def FnGradeWithinCardSaid : Prop := Claim7.holds Tryd.pinned (.plain (OpenSpec.ofChange fnGradeWithinSpec)) fnGradeWithinCard

/-- THE TIED CARD OF 'laws.FnStuffsValid'. -/
def fnStuffsValidCard : Claim7 := { stood := { row := fnStuffsValidRow, standIns := [], harness := (true, "241ec3a7672e05f1798b8a8d54c94413fef8b78e2ffaea2730efed914508c86f"), looks := false }, kinds := [], alts := [], laidByText := true, laidKinds := [.data, .data, .data], laidTests := true, laidLooks := .later }
def FnStuffsValidCardSaid : Prop := Claim7.holds Tryd.pinned (.plain (OpenSpec.ofChange fnStuffsValidSpec)) fnStuffsValidCard

/-- THE TIED CARD OF 'laws.FnGradeMeet'. -/
def fnGradeMeetCard : Claim7 := { stood := { row := fnGradeMeetRow, standIns := [], harness := (true, "241ec3a7672e05f1798b8a8d54c94413fef8b78e2ffaea2730efed914508c86f"), looks := false }, kinds := [], alts := [], laidByText := true, laidKinds := [.data, .data, .data], laidTests := true, laidLooks := .later }
def FnGradeMeetCardSaid : Prop := Claim7.holds Tryd.pinned (.plain (OpenSpec.ofChange fnGradeMeetSpec)) fnGradeMeetCard

/-- THE TIED CARD OF 'laws.FnMixValid'. -/
def fnMixValidCard : Claim7 := { stood := { row := fnMixValidRow, standIns := [], harness := (true, "241ec3a7672e05f1798b8a8d54c94413fef8b78e2ffaea2730efed914508c86f"), looks := false }, kinds := [], alts := [], laidByText := true, laidKinds := [.data, .data, .data], laidTests := true, laidLooks := .later }
def FnMixValidCardSaid : Prop := Claim7.holds Tryd.pinned (.plain (OpenSpec.ofChange fnMixValidSpec)) fnMixValidCard

/-- THE TIED CARD OF 'laws.FnMixCost'. -/
def fnMixCostCard : Claim7 := { stood := { row := fnMixCostRow, standIns := [], harness := (true, "241ec3a7672e05f1798b8a8d54c94413fef8b78e2ffaea2730efed914508c86f"), looks := false }, kinds := [], alts := [], laidByText := true, laidKinds := [.data, .data, .data], laidTests := true, laidLooks := .later }
def FnMixCostCardSaid : Prop := Claim7.holds Tryd.pinned (.plain (OpenSpec.ofChange fnMixCostSpec)) fnMixCostCard

/-- THE TIED CARD OF 'laws.FnMixSums'. -/
def fnMixSumsCard : Claim7 := { stood := { row := fnMixSumsRow, standIns := [], harness := (true, "241ec3a7672e05f1798b8a8d54c94413fef8b78e2ffaea2730efed914508c86f"), looks := false }, kinds := [], alts := [], laidByText := true, laidKinds := [.data, .data, .data], laidTests := true, laidLooks := .later }
def FnMixSumsCardSaid : Prop := Claim7.holds Tryd.pinned (.plain (OpenSpec.ofChange fnMixSumsSpec)) fnMixSumsCard

/-- THE TIED CARD OF 'laws.FnMixTake'. -/
def fnMixTakeCard : Claim7 := { stood := { row := fnMixTakeRow, standIns := [], harness := (true, "241ec3a7672e05f1798b8a8d54c94413fef8b78e2ffaea2730efed914508c86f"), looks := false }, kinds := [], alts := [], laidByText := true, laidKinds := [.data, .data, .data], laidTests := true, laidLooks := .later }
def FnMixTakeCardSaid : Prop := Claim7.holds Tryd.pinned (.plain (OpenSpec.ofChange fnMixTakeSpec)) fnMixTakeCard

/-- THE TIED CARD OF 'laws.FnMixMeets'. -/
def fnMixMeetsCard : Claim7 := { stood := { row := fnMixMeetsRow, standIns := [], harness := (true, "241ec3a7672e05f1798b8a8d54c94413fef8b78e2ffaea2730efed914508c86f"), looks := false }, kinds := [], alts := [], laidByText := true, laidKinds := [.data, .data, .data], laidTests := true, laidLooks := .later }
def FnMixMeetsCardSaid : Prop := Claim7.holds Tryd.pinned (.plain (OpenSpec.ofChange fnMixMeetsSpec)) fnMixMeetsCard

/-- THE SECOND FORM's CARD OF 'laws.FnStuffValid'. -/
def fnStuffValidUptoCard : Claim7 := { stood := { row := fnStuffValidUptoRow, standIns := [], harness := (true, "241ec3a7672e05f1798b8a8d54c94413fef8b78e2ffaea2730efed914508c86f"), looks := false }, kinds := [], alts := [], laidByText := true, laidKinds := [.data, .data, .data], laidTests := true, laidLooks := .later }
def FnStuffValidUptoCardSaid : Prop := Claim7.holds Tryd.pinned (.plain (OpenSpec.upto fnStuffValidSpec)) fnStuffValidUptoCard

/-- THE SECOND FORM's CARD OF 'laws.FnGradeValid'. -/
def fnGradeValidUptoCard : Claim7 := { stood := { row := fnGradeValidUptoRow, standIns := [], harness := (true, "241ec3a7672e05f1798b8a8d54c94413fef8b78e2ffaea2730efed914508c86f"), looks := false }, kinds := [], alts := [], laidByText := true, laidKinds := [.data, .data, .data], laidTests := true, laidLooks := .later }
def FnGradeValidUptoCardSaid : Prop := Claim7.holds Tryd.pinned (.plain (OpenSpec.upto fnGradeValidSpec)) fnGradeValidUptoCard

/-- THE SECOND FORM's CARD OF 'laws.FnMixTons'. -/
def fnMixTonsUptoCard : Claim7 := { stood := { row := fnMixTonsUptoRow, standIns := [], harness := (true, "241ec3a7672e05f1798b8a8d54c94413fef8b78e2ffaea2730efed914508c86f"), looks := false }, kinds := [], alts := [], laidByText := true, laidKinds := [.data, .data, .data], laidTests := true, laidLooks := .later }
def FnMixTonsUptoCardSaid : Prop := Claim7.holds Tryd.pinned (.plain (OpenSpec.upto fnMixTonsSpec)) fnMixTonsUptoCard

/-- THE SECOND FORM's CARD OF 'laws.FnGradeWithin'. -/
def fnGradeWithinUptoCard : Claim7 := { stood := { row := fnGradeWithinUptoRow, standIns := [], harness := (true, "241ec3a7672e05f1798b8a8d54c94413fef8b78e2ffaea2730efed914508c86f"), looks := false }, kinds := [], alts := [], laidByText := true, laidKinds := [.data, .data, .data], laidTests := true, laidLooks := .later }
def FnGradeWithinUptoCardSaid : Prop := Claim7.holds Tryd.pinned (.plain (OpenSpec.upto fnGradeWithinSpec)) fnGradeWithinUptoCard

/-- THE SECOND FORM's CARD OF 'laws.FnStuffsValid'. -/
def fnStuffsValidUptoCard : Claim7 := { stood := { row := fnStuffsValidUptoRow, standIns := [], harness := (true, "241ec3a7672e05f1798b8a8d54c94413fef8b78e2ffaea2730efed914508c86f"), looks := false }, kinds := [], alts := [], laidByText := true, laidKinds := [.data, .data, .data], laidTests := true, laidLooks := .later }
def FnStuffsValidUptoCardSaid : Prop := Claim7.holds Tryd.pinned (.plain (OpenSpec.upto fnStuffsValidSpec)) fnStuffsValidUptoCard

/-- THE SECOND FORM's CARD OF 'laws.FnGradeMeet'. -/
def fnGradeMeetUptoCard : Claim7 := { stood := { row := fnGradeMeetUptoRow, standIns := [], harness := (true, "241ec3a7672e05f1798b8a8d54c94413fef8b78e2ffaea2730efed914508c86f"), looks := false }, kinds := [], alts := [], laidByText := true, laidKinds := [.data, .data, .data], laidTests := true, laidLooks := .later }
def FnGradeMeetUptoCardSaid : Prop := Claim7.holds Tryd.pinned (.plain (OpenSpec.upto fnGradeMeetSpec)) fnGradeMeetUptoCard

/-- THE SECOND FORM's CARD OF 'laws.FnMixValid'. -/
def fnMixValidUptoCard : Claim7 := { stood := { row := fnMixValidUptoRow, standIns := [], harness := (true, "241ec3a7672e05f1798b8a8d54c94413fef8b78e2ffaea2730efed914508c86f"), looks := false }, kinds := [], alts := [], laidByText := true, laidKinds := [.data, .data, .data], laidTests := true, laidLooks := .later }
def FnMixValidUptoCardSaid : Prop := Claim7.holds Tryd.pinned (.plain (OpenSpec.upto fnMixValidSpec)) fnMixValidUptoCard

/-- THE SECOND FORM's CARD OF 'laws.FnMixCost'. -/
def fnMixCostUptoCard : Claim7 := { stood := { row := fnMixCostUptoRow, standIns := [], harness := (true, "241ec3a7672e05f1798b8a8d54c94413fef8b78e2ffaea2730efed914508c86f"), looks := false }, kinds := [], alts := [], laidByText := true, laidKinds := [.data, .data, .data], laidTests := true, laidLooks := .later }
def FnMixCostUptoCardSaid : Prop := Claim7.holds Tryd.pinned (.plain (OpenSpec.upto fnMixCostSpec)) fnMixCostUptoCard

/-- THE SECOND FORM's CARD OF 'laws.FnMixSums'. -/
def fnMixSumsUptoCard : Claim7 := { stood := { row := fnMixSumsUptoRow, standIns := [], harness := (true, "241ec3a7672e05f1798b8a8d54c94413fef8b78e2ffaea2730efed914508c86f"), looks := false }, kinds := [], alts := [], laidByText := true, laidKinds := [.data, .data, .data], laidTests := true, laidLooks := .later }
def FnMixSumsUptoCardSaid : Prop := Claim7.holds Tryd.pinned (.plain (OpenSpec.upto fnMixSumsSpec)) fnMixSumsUptoCard

/-- THE SECOND FORM's CARD OF 'laws.FnMixTake'. -/
def fnMixTakeUptoCard : Claim7 := { stood := { row := fnMixTakeUptoRow, standIns := [], harness := (true, "241ec3a7672e05f1798b8a8d54c94413fef8b78e2ffaea2730efed914508c86f"), looks := false }, kinds := [], alts := [], laidByText := true, laidKinds := [.data, .data, .data], laidTests := true, laidLooks := .later }
def FnMixTakeUptoCardSaid : Prop := Claim7.holds Tryd.pinned (.plain (OpenSpec.upto fnMixTakeSpec)) fnMixTakeUptoCard

/-- THE SECOND FORM's CARD OF 'laws.FnMixMeets'. -/
def fnMixMeetsUptoCard : Claim7 := { stood := { row := fnMixMeetsUptoRow, standIns := [], harness := (true, "241ec3a7672e05f1798b8a8d54c94413fef8b78e2ffaea2730efed914508c86f"), looks := false }, kinds := [], alts := [], laidByText := true, laidKinds := [.data, .data, .data], laidTests := true, laidLooks := .later }
def FnMixMeetsUptoCardSaid : Prop := Claim7.holds Tryd.pinned (.plain (OpenSpec.upto fnMixMeetsSpec)) fnMixMeetsUptoCard
end Rows
end Go.Proofs.YtdfbkldppblefaaDoor
