/-
  DERIVED. GIVEN WITH THE SEED: THE CARDS: each row of YtlhjncefckidjaaDoorRows.lean that lists a variable, with what it lists TIED to the program's text (the seventh form; the later family's looks); each row that meets fmt, with fmt's text TOLD by the authors' own Lean function (tested against real Go, not proved from fmt's source: count such statements apart). THE CARD IS WHAT COUNTS. Prove the row's statement (the work); the ties are given (YtlhjncefckidjaaDoorTie.lean); close each card by the builder's one call (the guide's Derived/Test/ToyasCard.lean, 'card_holds'). Laid BY PROGRAM, IN A SANDBOX (cutbox-door.mjs). By AI agents, Wed Nov 11 2026. No macro, syntax, notation, axiom, sorry.
-/
import Derived.Test.YtlhjncefckidjaaDoorRows
import GoSem.ClaimSeven
namespace Go.Proofs.YtlhjncefckidjaaDoor
namespace Rows

/-- THE TIED CARD OF 'laws.FnMixBest'. -/
def fnMixBestCard : Claim7 := { stood := { row := fnMixBestRow, standIns := [], harness := (true, "f79aa0ce8210057d05d25ac4e122424490c975464f360e30f96fe313bec910ac"), looks := false }, kinds := [], alts := [], laidByText := true, laidKinds := [.data, .data, .data], laidTests := true, laidLooks := .later }
def FnMixBestCardSaid : Prop := Claim7.holds Tryd.pinned (.plain (OpenSpec.ofChange fnMixBestSpec)) fnMixBestCard

/-- THE TIED CARD OF 'laws.FnMixLeast'. -/
def fnMixLeastCard : Claim7 := { stood := { row := fnMixLeastRow, standIns := [], harness := (true, "f79aa0ce8210057d05d25ac4e122424490c975464f360e30f96fe313bec910ac"), looks := false }, kinds := [], alts := [], laidByText := true, laidKinds := [.data, .data, .data], laidTests := true, laidLooks := .later }
def FnMixLeastCardSaid : Prop := Claim7.holds Tryd.pinned (.plain (OpenSpec.ofChange fnMixLeastSpec)) fnMixLeastCard

/-- THE TIED CARD OF 'laws.FnMixMost'. -/
def fnMixMostCard : Claim7 := { stood := { row := fnMixMostRow, standIns := [], harness := (true, "f79aa0ce8210057d05d25ac4e122424490c975464f360e30f96fe313bec910ac"), looks := false }, kinds := [], alts := [], laidByText := true, laidKinds := [.data, .data, .data], laidTests := true, laidLooks := .later }
def FnMixMostCardSaid : Prop := Claim7.holds Tryd.pinned (.plain (OpenSpec.ofChange fnMixMostSpec)) fnMixMostCard

/-- THE TIED CARD OF 'laws.FnGradeText'. -/
def fnGradeTextCard : Claim7 := { stood := { row := fnGradeTextRow, standIns := [], harness := (true, "f79aa0ce8210057d05d25ac4e122424490c975464f360e30f96fe313bec910ac"), looks := false }, kinds := [], alts := [], laidByText := true, laidKinds := [.data, .data, .data, .data, .pinned], laidTests := true, laidLooks := .later }
def FnGradeTextCardSaid : Prop := Claim7.holds Tryd.pinned (.plain (OpenSpec.ofChange fnGradeTextSpec)) fnGradeTextCard

/-- THE TIED CARD OF 'laws.FnReadGrade'. -/
def fnReadGradeCard : Claim7 := { stood := { row := fnReadGradeRow, standIns := [], harness := (true, "f79aa0ce8210057d05d25ac4e122424490c975464f360e30f96fe313bec910ac"), looks := false }, kinds := [], alts := [], laidByText := true, laidKinds := [.data, .data, .data, .data, .pinned], laidTests := true, laidLooks := .later }
def FnReadGradeCardSaid : Prop := Claim7.holds Tryd.pinned (.plain (OpenSpec.ofChange fnReadGradeSpec)) fnReadGradeCard

/-- THE TIED CARD OF 'laws.FnExactGradeText'. -/
def fnExactGradeTextCard : Claim7 := { stood := { row := fnExactGradeTextRow, standIns := [], harness := (true, "f79aa0ce8210057d05d25ac4e122424490c975464f360e30f96fe313bec910ac"), looks := false }, kinds := [], alts := [], laidByText := true, laidKinds := [.data, .data, .data], laidTests := true, laidLooks := .later }
def FnExactGradeTextCardSaid : Prop := Claim7.holds Tryd.pinned (.plain (OpenSpec.ofChange fnExactGradeTextSpec)) fnExactGradeTextCard

/-- THE TIED CARD OF 'laws.FnExactReadGrade'. -/
def fnExactReadGradeCard : Claim7 := { stood := { row := fnExactReadGradeRow, standIns := [], harness := (true, "f79aa0ce8210057d05d25ac4e122424490c975464f360e30f96fe313bec910ac"), looks := false }, kinds := [], alts := [], laidByText := true, laidKinds := [.data, .pinned], laidTests := true, laidLooks := .later }
def FnExactReadGradeCardSaid : Prop := Claim7.holds Tryd.pinned (.plain (OpenSpec.ofChange fnExactReadGradeSpec)) fnExactReadGradeCard

/-- THE SECOND FORM's CARD OF 'laws.FnMixBest'. -/
def fnMixBestUptoCard : Claim7 := { stood := { row := fnMixBestUptoRow, standIns := [], harness := (true, "f79aa0ce8210057d05d25ac4e122424490c975464f360e30f96fe313bec910ac"), looks := false }, kinds := [], alts := [], laidByText := true, laidKinds := [.data, .data, .data], laidTests := true, laidLooks := .later }
def FnMixBestUptoCardSaid : Prop := Claim7.holds Tryd.pinned (.plain (OpenSpec.upto fnMixBestSpec)) fnMixBestUptoCard

/-- THE SECOND FORM's CARD OF 'laws.FnMixLeast'. -/
def fnMixLeastUptoCard : Claim7 := { stood := { row := fnMixLeastUptoRow, standIns := [], harness := (true, "f79aa0ce8210057d05d25ac4e122424490c975464f360e30f96fe313bec910ac"), looks := false }, kinds := [], alts := [], laidByText := true, laidKinds := [.data, .data, .data], laidTests := true, laidLooks := .later }
def FnMixLeastUptoCardSaid : Prop := Claim7.holds Tryd.pinned (.plain (OpenSpec.upto fnMixLeastSpec)) fnMixLeastUptoCard

/-- THE SECOND FORM's CARD OF 'laws.FnMixMost'. -/
def fnMixMostUptoCard : Claim7 := { stood := { row := fnMixMostUptoRow, standIns := [], harness := (true, "f79aa0ce8210057d05d25ac4e122424490c975464f360e30f96fe313bec910ac"), looks := false }, kinds := [], alts := [], laidByText := true, laidKinds := [.data, .data, .data], laidTests := true, laidLooks := .later }
def FnMixMostUptoCardSaid : Prop := Claim7.holds Tryd.pinned (.plain (OpenSpec.upto fnMixMostSpec)) fnMixMostUptoCard

/-- THE SECOND FORM's CARD OF 'laws.FnGradeText'. -/
def fnGradeTextUptoCard : Claim7 := { stood := { row := fnGradeTextUptoRow, standIns := [], harness := (true, "f79aa0ce8210057d05d25ac4e122424490c975464f360e30f96fe313bec910ac"), looks := false }, kinds := [], alts := [], laidByText := true, laidKinds := [.data, .data, .data, .data, .pinned], laidTests := true, laidLooks := .later }
def FnGradeTextUptoCardSaid : Prop := Claim7.holds Tryd.pinned (.plain (OpenSpec.upto fnGradeTextSpec)) fnGradeTextUptoCard

/-- THE SECOND FORM's CARD OF 'laws.FnReadGrade'. -/
def fnReadGradeUptoCard : Claim7 := { stood := { row := fnReadGradeUptoRow, standIns := [], harness := (true, "f79aa0ce8210057d05d25ac4e122424490c975464f360e30f96fe313bec910ac"), looks := false }, kinds := [], alts := [], laidByText := true, laidKinds := [.data, .data, .data, .data, .pinned], laidTests := true, laidLooks := .later }
def FnReadGradeUptoCardSaid : Prop := Claim7.holds Tryd.pinned (.plain (OpenSpec.upto fnReadGradeSpec)) fnReadGradeUptoCard

/-- THE SECOND FORM's CARD OF 'laws.FnExactGradeText'. -/
def fnExactGradeTextUptoCard : Claim7 := { stood := { row := fnExactGradeTextUptoRow, standIns := [], harness := (true, "f79aa0ce8210057d05d25ac4e122424490c975464f360e30f96fe313bec910ac"), looks := false }, kinds := [], alts := [], laidByText := true, laidKinds := [.data, .data, .data], laidTests := true, laidLooks := .later }
def FnExactGradeTextUptoCardSaid : Prop := Claim7.holds Tryd.pinned (.plain (OpenSpec.upto fnExactGradeTextSpec)) fnExactGradeTextUptoCard

/-- THE SECOND FORM's CARD OF 'laws.FnExactReadGrade'. -/
def fnExactReadGradeUptoCard : Claim7 := { stood := { row := fnExactReadGradeUptoRow, standIns := [], harness := (true, "f79aa0ce8210057d05d25ac4e122424490c975464f360e30f96fe313bec910ac"), looks := false }, kinds := [], alts := [], laidByText := true, laidKinds := [.data, .pinned], laidTests := true, laidLooks := .later }
def FnExactReadGradeUptoCardSaid : Prop := Claim7.holds Tryd.pinned (.plain (OpenSpec.upto fnExactReadGradeSpec)) fnExactReadGradeUptoCard
end Rows
end Go.Proofs.YtlhjncefckidjaaDoor
