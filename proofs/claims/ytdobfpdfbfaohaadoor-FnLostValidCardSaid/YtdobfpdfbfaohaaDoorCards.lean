/-
  DERIVED. GIVEN WITH THE SEED: THE CARDS: each row of YtdobfpdfbfaohaaDoorRows.lean that lists a variable, with what it lists TIED to the program's text (the seventh form; the later family's looks); each row that meets fmt, with fmt's text TOLD by the authors' own Lean function (tested against real Go, not proved from fmt's source: count such statements apart). THE CARD IS WHAT COUNTS. Prove the row's statement (the work); the ties are given (YtdobfpdfbfaohaaDoorTie.lean); close each card by the builder's one call (the guide's Derived/Test/ToyasCard.lean, 'card_holds'). Laid BY PROGRAM, IN A SANDBOX (cutbox-door.mjs). By AI agents, Wed Nov 11 2026. No macro, syntax, notation, axiom, sorry.
-/
import Derived.Test.YtdobfpdfbfaohaaDoorRows
import GoSem.ClaimSeven
namespace Go.Proofs.YtdobfpdfbfaohaaDoor
namespace Rows

/-- THE TIED CARD OF 'laws.FnCasterValid'. -/
def fnCasterValidCard : Claim7 := { stood := { row := fnCasterValidRow, standIns := [], harness := (true, "f5327c5372a3de4717848a977fcac10f4a95ad79964b7f05b62ecf4b6fe163d1"), looks := false }, kinds := [], alts := [], laidByText := true, laidKinds := [.data, .data, .data], laidTests := true, laidLooks := .later }
def FnCasterValidCardSaid : Prop := Claim7.holds Tryd.pinned (.plain (OpenSpec.ofChange fnCasterValidSpec)) fnCasterValidCard

/-- THE TIED CARD OF 'laws.FnHeatValid'. -/
def fnHeatValidCard : Claim7 := { stood := { row := fnHeatValidRow, standIns := [], harness := (true, "f5327c5372a3de4717848a977fcac10f4a95ad79964b7f05b62ecf4b6fe163d1"), looks := false }, kinds := [], alts := [], laidByText := true, laidKinds := [.data, .data, .data], laidTests := true, laidLooks := .later }
def FnHeatValidCardSaid : Prop := Claim7.holds Tryd.pinned (.plain (OpenSpec.ofChange fnHeatValidSpec)) fnHeatValidCard

/-- THE TIED CARD OF 'laws.FnHeatsValid'. -/
def fnHeatsValidCard : Claim7 := { stood := { row := fnHeatsValidRow, standIns := [], harness := (true, "f5327c5372a3de4717848a977fcac10f4a95ad79964b7f05b62ecf4b6fe163d1"), looks := false }, kinds := [], alts := [], laidByText := true, laidKinds := [.data, .data, .data], laidTests := true, laidLooks := .later }
def FnHeatsValidCardSaid : Prop := Claim7.holds Tryd.pinned (.plain (OpenSpec.ofChange fnHeatsValidSpec)) fnHeatsValidCard

/-- THE TIED CARD OF 'laws.FnLostValid'. -/
def fnLostValidCard : Claim7 := { stood := { row := fnLostValidRow, standIns := [], harness := (true, "f5327c5372a3de4717848a977fcac10f4a95ad79964b7f05b62ecf4b6fe163d1"), looks := false }, kinds := [], alts := [], laidByText := true, laidKinds := [.data, .data, .data], laidTests := true, laidLooks := .later }
def FnLostValidCardSaid : Prop := Claim7.holds Tryd.pinned (.plain (OpenSpec.ofChange fnLostValidSpec)) fnLostValidCard

/-- THE TIED CARD OF 'laws.FnCastEnd'. -/
def fnCastEndCard : Claim7 := { stood := { row := fnCastEndRow, standIns := [], harness := (true, "f5327c5372a3de4717848a977fcac10f4a95ad79964b7f05b62ecf4b6fe163d1"), looks := false }, kinds := [], alts := [], laidByText := true, laidKinds := [.data, .data, .data], laidTests := true, laidLooks := .later }
def FnCastEndCardSaid : Prop := Claim7.holds Tryd.pinned (.plain (OpenSpec.ofChange fnCastEndSpec)) fnCastEndCard

/-- THE TIED CARD OF 'laws.FnCastTimes'. -/
def fnCastTimesCard : Claim7 := { stood := { row := fnCastTimesRow, standIns := [], harness := (true, "f5327c5372a3de4717848a977fcac10f4a95ad79964b7f05b62ecf4b6fe163d1"), looks := false }, kinds := [], alts := [], laidByText := true, laidKinds := [.data, .data, .data], laidTests := true, laidLooks := .later }
def FnCastTimesCardSaid : Prop := Claim7.holds Tryd.pinned (.plain (OpenSpec.ofChange fnCastTimesSpec)) fnCastTimesCard

/-- THE TIED CARD OF 'laws.FnCastOk'. -/
def fnCastOkCard : Claim7 := { stood := { row := fnCastOkRow, standIns := [], harness := (true, "f5327c5372a3de4717848a977fcac10f4a95ad79964b7f05b62ecf4b6fe163d1"), looks := false }, kinds := [], alts := [], laidByText := true, laidKinds := [.data, .data, .data], laidTests := true, laidLooks := .later }
def FnCastOkCardSaid : Prop := Claim7.holds Tryd.pinned (.plain (OpenSpec.ofChange fnCastOkSpec)) fnCastOkCard

/-- THE TIED CARD OF 'laws.FnCastLate'. -/
def fnCastLateCard : Claim7 := { stood := { row := fnCastLateRow, standIns := [], harness := (true, "f5327c5372a3de4717848a977fcac10f4a95ad79964b7f05b62ecf4b6fe163d1"), looks := false }, kinds := [], alts := [], laidByText := true, laidKinds := [.data, .data, .data], laidTests := true, laidLooks := .later }
def FnCastLateCardSaid : Prop := Claim7.holds Tryd.pinned (.plain (OpenSpec.ofChange fnCastLateSpec)) fnCastLateCard

/-- THE TIED CARD OF 'laws.FnLadlesAt'. -/
def fnLadlesAtCard : Claim7 := { stood := { row := fnLadlesAtRow, standIns := [], harness := (true, "f5327c5372a3de4717848a977fcac10f4a95ad79964b7f05b62ecf4b6fe163d1"), looks := false }, kinds := [], alts := [], laidByText := true, laidKinds := [.data, .data, .data], laidTests := true, laidLooks := .later }
def FnLadlesAtCardSaid : Prop := Claim7.holds Tryd.pinned (.plain (OpenSpec.ofChange fnLadlesAtSpec)) fnLadlesAtCard

/-- THE TIED CARD OF 'laws.FnHeatWaits'. -/
def fnHeatWaitsCard : Claim7 := { stood := { row := fnHeatWaitsRow, standIns := [], harness := (true, "f5327c5372a3de4717848a977fcac10f4a95ad79964b7f05b62ecf4b6fe163d1"), looks := false }, kinds := [], alts := [], laidByText := true, laidKinds := [.data, .data, .data], laidTests := true, laidLooks := .later }
def FnHeatWaitsCardSaid : Prop := Claim7.holds Tryd.pinned (.plain (OpenSpec.ofChange fnHeatWaitsSpec)) fnHeatWaitsCard

/-- THE TIED CARD OF 'laws.FnLadlesMost'. -/
def fnLadlesMostCard : Claim7 := { stood := { row := fnLadlesMostRow, standIns := [], harness := (true, "f5327c5372a3de4717848a977fcac10f4a95ad79964b7f05b62ecf4b6fe163d1"), looks := false }, kinds := [], alts := [], laidByText := true, laidKinds := [.data, .data, .data], laidTests := true, laidLooks := .later }
def FnLadlesMostCardSaid : Prop := Claim7.holds Tryd.pinned (.plain (OpenSpec.ofChange fnLadlesMostSpec)) fnLadlesMostCard

/-- THE SECOND FORM's CARD OF 'laws.FnCasterValid'. -/
def fnCasterValidUptoCard : Claim7 := { stood := { row := fnCasterValidUptoRow, standIns := [], harness := (true, "f5327c5372a3de4717848a977fcac10f4a95ad79964b7f05b62ecf4b6fe163d1"), looks := false }, kinds := [], alts := [], laidByText := true, laidKinds := [.data, .data, .data], laidTests := true, laidLooks := .later }
def FnCasterValidUptoCardSaid : Prop := Claim7.holds Tryd.pinned (.plain (OpenSpec.upto fnCasterValidSpec)) fnCasterValidUptoCard

/-- THE SECOND FORM's CARD OF 'laws.FnHeatValid'. -/
def fnHeatValidUptoCard : Claim7 := { stood := { row := fnHeatValidUptoRow, standIns := [], harness := (true, "f5327c5372a3de4717848a977fcac10f4a95ad79964b7f05b62ecf4b6fe163d1"), looks := false }, kinds := [], alts := [], laidByText := true, laidKinds := [.data, .data, .data], laidTests := true, laidLooks := .later }
def FnHeatValidUptoCardSaid : Prop := Claim7.holds Tryd.pinned (.plain (OpenSpec.upto fnHeatValidSpec)) fnHeatValidUptoCard

/-- THE SECOND FORM's CARD OF 'laws.FnHeatsValid'. -/
def fnHeatsValidUptoCard : Claim7 := { stood := { row := fnHeatsValidUptoRow, standIns := [], harness := (true, "f5327c5372a3de4717848a977fcac10f4a95ad79964b7f05b62ecf4b6fe163d1"), looks := false }, kinds := [], alts := [], laidByText := true, laidKinds := [.data, .data, .data], laidTests := true, laidLooks := .later }
def FnHeatsValidUptoCardSaid : Prop := Claim7.holds Tryd.pinned (.plain (OpenSpec.upto fnHeatsValidSpec)) fnHeatsValidUptoCard

/-- THE SECOND FORM's CARD OF 'laws.FnLostValid'. -/
def fnLostValidUptoCard : Claim7 := { stood := { row := fnLostValidUptoRow, standIns := [], harness := (true, "f5327c5372a3de4717848a977fcac10f4a95ad79964b7f05b62ecf4b6fe163d1"), looks := false }, kinds := [], alts := [], laidByText := true, laidKinds := [.data, .data, .data], laidTests := true, laidLooks := .later }
def FnLostValidUptoCardSaid : Prop := Claim7.holds Tryd.pinned (.plain (OpenSpec.upto fnLostValidSpec)) fnLostValidUptoCard

/-- THE SECOND FORM's CARD OF 'laws.FnCastEnd'. -/
def fnCastEndUptoCard : Claim7 := { stood := { row := fnCastEndUptoRow, standIns := [], harness := (true, "f5327c5372a3de4717848a977fcac10f4a95ad79964b7f05b62ecf4b6fe163d1"), looks := false }, kinds := [], alts := [], laidByText := true, laidKinds := [.data, .data, .data], laidTests := true, laidLooks := .later }
def FnCastEndUptoCardSaid : Prop := Claim7.holds Tryd.pinned (.plain (OpenSpec.upto fnCastEndSpec)) fnCastEndUptoCard

/-- THE SECOND FORM's CARD OF 'laws.FnCastTimes'. -/
def fnCastTimesUptoCard : Claim7 := { stood := { row := fnCastTimesUptoRow, standIns := [], harness := (true, "f5327c5372a3de4717848a977fcac10f4a95ad79964b7f05b62ecf4b6fe163d1"), looks := false }, kinds := [], alts := [], laidByText := true, laidKinds := [.data, .data, .data], laidTests := true, laidLooks := .later }
def FnCastTimesUptoCardSaid : Prop := Claim7.holds Tryd.pinned (.plain (OpenSpec.upto fnCastTimesSpec)) fnCastTimesUptoCard

/-- THE SECOND FORM's CARD OF 'laws.FnCastOk'. -/
def fnCastOkUptoCard : Claim7 := { stood := { row := fnCastOkUptoRow, standIns := [], harness := (true, "f5327c5372a3de4717848a977fcac10f4a95ad79964b7f05b62ecf4b6fe163d1"), looks := false }, kinds := [], alts := [], laidByText := true, laidKinds := [.data, .data, .data], laidTests := true, laidLooks := .later }
def FnCastOkUptoCardSaid : Prop := Claim7.holds Tryd.pinned (.plain (OpenSpec.upto fnCastOkSpec)) fnCastOkUptoCard

/-- THE SECOND FORM's CARD OF 'laws.FnCastLate'. -/
def fnCastLateUptoCard : Claim7 := { stood := { row := fnCastLateUptoRow, standIns := [], harness := (true, "f5327c5372a3de4717848a977fcac10f4a95ad79964b7f05b62ecf4b6fe163d1"), looks := false }, kinds := [], alts := [], laidByText := true, laidKinds := [.data, .data, .data], laidTests := true, laidLooks := .later }
def FnCastLateUptoCardSaid : Prop := Claim7.holds Tryd.pinned (.plain (OpenSpec.upto fnCastLateSpec)) fnCastLateUptoCard

/-- THE SECOND FORM's CARD OF 'laws.FnLadlesAt'. -/
def fnLadlesAtUptoCard : Claim7 := { stood := { row := fnLadlesAtUptoRow, standIns := [], harness := (true, "f5327c5372a3de4717848a977fcac10f4a95ad79964b7f05b62ecf4b6fe163d1"), looks := false }, kinds := [], alts := [], laidByText := true, laidKinds := [.data, .data, .data], laidTests := true, laidLooks := .later }
def FnLadlesAtUptoCardSaid : Prop := Claim7.holds Tryd.pinned (.plain (OpenSpec.upto fnLadlesAtSpec)) fnLadlesAtUptoCard

/-- THE SECOND FORM's CARD OF 'laws.FnHeatWaits'. -/
def fnHeatWaitsUptoCard : Claim7 := { stood := { row := fnHeatWaitsUptoRow, standIns := [], harness := (true, "f5327c5372a3de4717848a977fcac10f4a95ad79964b7f05b62ecf4b6fe163d1"), looks := false }, kinds := [], alts := [], laidByText := true, laidKinds := [.data, .data, .data], laidTests := true, laidLooks := .later }
def FnHeatWaitsUptoCardSaid : Prop := Claim7.holds Tryd.pinned (.plain (OpenSpec.upto fnHeatWaitsSpec)) fnHeatWaitsUptoCard

/-- THE SECOND FORM's CARD OF 'laws.FnLadlesMost'. -/
def fnLadlesMostUptoCard : Claim7 := { stood := { row := fnLadlesMostUptoRow, standIns := [], harness := (true, "f5327c5372a3de4717848a977fcac10f4a95ad79964b7f05b62ecf4b6fe163d1"), looks := false }, kinds := [], alts := [], laidByText := true, laidKinds := [.data, .data, .data], laidTests := true, laidLooks := .later }
def FnLadlesMostUptoCardSaid : Prop := Claim7.holds Tryd.pinned (.plain (OpenSpec.upto fnLadlesMostSpec)) fnLadlesMostUptoCard
end Rows
end Go.Proofs.YtdobfpdfbfaohaaDoor
