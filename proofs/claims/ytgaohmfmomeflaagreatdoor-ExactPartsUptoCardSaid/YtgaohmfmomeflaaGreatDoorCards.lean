/-
  DERIVED. GIVEN WITH THE SEED: THE CARDS: each row of YtgaohmfmomeflaaGreatDoorRows.lean that lists a variable, with what it lists TIED to the program's text (the seventh form; the later family's looks); each row that meets fmt, with fmt's text TOLD by the authors' own Lean function (tested against real Go, not proved from fmt's source: count such statements apart). THE CARD IS WHAT COUNTS. Prove the row's statement (the work); the ties are given (YtgaohmfmomeflaaGreatDoorTie.lean); close each card by the builder's one call (the guide's Derived/Test/ToyasCard.lean, 'card_holds'). Laid BY PROGRAM, IN A SANDBOX (cutbox-door.mjs). By AI agents, Wed Nov 11 2026. No macro, syntax, notation, axiom, sorry.
-/
import Derived.Test.YtgaohmfmomeflaaGreatDoorRows
import GoSem.ClaimSeven
namespace Go.Proofs.YtgaohmfmomeflaaGreatDoor
namespace Rows

/-- THE TIED CARD OF 'cribblelaw35.ModelTells'. -/
def modelTellsCard : Claim7 := { stood := { row := modelTellsRow, standIns := [], harness := (true, "2e083bdb58afb722cf181f490f4fa71982f4c538485c4b5965d5335e059aeb24"), looks := false }, kinds := [], alts := [], laidByText := true, laidKinds := [.data, .pinned], laidTests := true, laidLooks := .later }
def ModelTellsCardSaid : Prop := Claim7.holds Tryz.pinned (.plain (OpenSpec.ofChange modelTellsSpec)) modelTellsCard

/-- THE TIED CARD OF 'cribblelaw35.ModelSums'. -/
def modelSumsCard : Claim7 := { stood := { row := modelSumsRow, standIns := [], harness := (true, "2e083bdb58afb722cf181f490f4fa71982f4c538485c4b5965d5335e059aeb24"), looks := false }, kinds := [], alts := [], laidByText := true, laidKinds := [.data, .pinned], laidTests := true, laidLooks := .later }
def ModelSumsCardSaid : Prop := Claim7.holds Tryz.pinned (.plain (OpenSpec.ofChange modelSumsSpec)) modelSumsCard

/-- THE TIED CARD OF 'cribblelaw35.ModelOrder'. -/
def modelOrderCard : Claim7 := { stood := { row := modelOrderRow, standIns := [], harness := (true, "2e083bdb58afb722cf181f490f4fa71982f4c538485c4b5965d5335e059aeb24"), looks := false }, kinds := [], alts := [], laidByText := true, laidKinds := [.data, .pinned], laidTests := true, laidLooks := .later }
def ModelOrderCardSaid : Prop := Claim7.holds Tryz.pinned (.plain (OpenSpec.ofChange modelOrderSpec)) modelOrderCard

/-- THE TIED CARD OF 'cribblelaw35.ModelCross'. -/
def modelCrossCard : Claim7 := { stood := { row := modelCrossRow, standIns := [], harness := (true, "2e083bdb58afb722cf181f490f4fa71982f4c538485c4b5965d5335e059aeb24"), looks := false }, kinds := [], alts := [], laidByText := true, laidKinds := [.data, .pinned], laidTests := true, laidLooks := .later }
def ModelCrossCardSaid : Prop := Claim7.holds Tryz.pinned (.plain (OpenSpec.ofChange modelCrossSpec)) modelCrossCard

/-- THE TIED CARD OF 'cribblelaw36.ExactFine'. -/
def exactFineCard : Claim7 := { stood := { row := exactFineRow, standIns := [], harness := (true, "2e083bdb58afb722cf181f490f4fa71982f4c538485c4b5965d5335e059aeb24"), looks := false }, kinds := [], alts := [], laidByText := true, laidKinds := [.data, .pinned], laidTests := true, laidLooks := .later }
def ExactFineCardSaid : Prop := Claim7.holds Tryz.pinned (.plain (OpenSpec.ofChange exactFineSpec)) exactFineCard

/-- THE TIED CARD OF 'cribblelaw36.ExactOne'. -/
def exactOneCard : Claim7 := { stood := { row := exactOneRow, standIns := [], harness := (true, "2e083bdb58afb722cf181f490f4fa71982f4c538485c4b5965d5335e059aeb24"), looks := false }, kinds := [], alts := [], laidByText := true, laidKinds := [.data, .pinned], laidTests := true, laidLooks := .later }
def ExactOneCardSaid : Prop := Claim7.holds Tryz.pinned (.plain (OpenSpec.ofChange exactOneSpec)) exactOneCard

/-- THE TIED CARD OF 'cribblelaw36.ExactParts'. -/
def exactPartsCard : Claim7 := { stood := { row := exactPartsRow, standIns := [], harness := (true, "2e083bdb58afb722cf181f490f4fa71982f4c538485c4b5965d5335e059aeb24"), looks := false }, kinds := [], alts := [], laidByText := true, laidKinds := [.data, .pinned], laidTests := true, laidLooks := .later }
def ExactPartsCardSaid : Prop := Claim7.holds Tryz.pinned (.plain (OpenSpec.ofChange exactPartsSpec)) exactPartsCard

/-- THE SECOND FORM's CARD OF 'cribblelaw35.ModelTells'. -/
def modelTellsUptoCard : Claim7 := { stood := { row := modelTellsUptoRow, standIns := [], harness := (true, "2e083bdb58afb722cf181f490f4fa71982f4c538485c4b5965d5335e059aeb24"), looks := false }, kinds := [], alts := [], laidByText := true, laidKinds := [.data, .pinned], laidTests := true, laidLooks := .later }
def ModelTellsUptoCardSaid : Prop := Claim7.holds Tryz.pinned (.plain (OpenSpec.upto modelTellsSpec)) modelTellsUptoCard

/-- THE SECOND FORM's CARD OF 'cribblelaw35.ModelSums'. -/
def modelSumsUptoCard : Claim7 := { stood := { row := modelSumsUptoRow, standIns := [], harness := (true, "2e083bdb58afb722cf181f490f4fa71982f4c538485c4b5965d5335e059aeb24"), looks := false }, kinds := [], alts := [], laidByText := true, laidKinds := [.data, .pinned], laidTests := true, laidLooks := .later }
def ModelSumsUptoCardSaid : Prop := Claim7.holds Tryz.pinned (.plain (OpenSpec.upto modelSumsSpec)) modelSumsUptoCard

/-- THE SECOND FORM's CARD OF 'cribblelaw35.ModelOrder'. -/
def modelOrderUptoCard : Claim7 := { stood := { row := modelOrderUptoRow, standIns := [], harness := (true, "2e083bdb58afb722cf181f490f4fa71982f4c538485c4b5965d5335e059aeb24"), looks := false }, kinds := [], alts := [], laidByText := true, laidKinds := [.data, .pinned], laidTests := true, laidLooks := .later }
def ModelOrderUptoCardSaid : Prop := Claim7.holds Tryz.pinned (.plain (OpenSpec.upto modelOrderSpec)) modelOrderUptoCard

/-- THE SECOND FORM's CARD OF 'cribblelaw35.ModelCross'. -/
def modelCrossUptoCard : Claim7 := { stood := { row := modelCrossUptoRow, standIns := [], harness := (true, "2e083bdb58afb722cf181f490f4fa71982f4c538485c4b5965d5335e059aeb24"), looks := false }, kinds := [], alts := [], laidByText := true, laidKinds := [.data, .pinned], laidTests := true, laidLooks := .later }
def ModelCrossUptoCardSaid : Prop := Claim7.holds Tryz.pinned (.plain (OpenSpec.upto modelCrossSpec)) modelCrossUptoCard

/-- THE SECOND FORM's CARD OF 'cribblelaw36.ExactFine'. -/
def exactFineUptoCard : Claim7 := { stood := { row := exactFineUptoRow, standIns := [], harness := (true, "2e083bdb58afb722cf181f490f4fa71982f4c538485c4b5965d5335e059aeb24"), looks := false }, kinds := [], alts := [], laidByText := true, laidKinds := [.data, .pinned], laidTests := true, laidLooks := .later }
def ExactFineUptoCardSaid : Prop := Claim7.holds Tryz.pinned (.plain (OpenSpec.upto exactFineSpec)) exactFineUptoCard

/-- THE SECOND FORM's CARD OF 'cribblelaw36.ExactOne'. -/
def exactOneUptoCard : Claim7 := { stood := { row := exactOneUptoRow, standIns := [], harness := (true, "2e083bdb58afb722cf181f490f4fa71982f4c538485c4b5965d5335e059aeb24"), looks := false }, kinds := [], alts := [], laidByText := true, laidKinds := [.data, .pinned], laidTests := true, laidLooks := .later }
def ExactOneUptoCardSaid : Prop := Claim7.holds Tryz.pinned (.plain (OpenSpec.upto exactOneSpec)) exactOneUptoCard

/-- THE SECOND FORM's CARD OF 'cribblelaw36.ExactParts'. -/
def exactPartsUptoCard : Claim7 := { stood := { row := exactPartsUptoRow, standIns := [], harness := (true, "2e083bdb58afb722cf181f490f4fa71982f4c538485c4b5965d5335e059aeb24"), looks := false }, kinds := [], alts := [], laidByText := true, laidKinds := [.data, .pinned], laidTests := true, laidLooks := .later }
def ExactPartsUptoCardSaid : Prop := Claim7.holds Tryz.pinned (.plain (OpenSpec.upto exactPartsSpec)) exactPartsUptoCard
end Rows
end Go.Proofs.YtgaohmfmomeflaaGreatDoor
