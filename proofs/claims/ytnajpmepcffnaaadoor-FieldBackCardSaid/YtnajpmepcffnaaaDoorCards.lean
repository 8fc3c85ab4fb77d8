/-
  DERIVED. GIVEN WITH THE SEED: THE CARDS: each row of YtnajpmepcffnaaaDoorRows.lean that lists a variable, with what it lists TIED to the program's text (the seventh form; the later family's looks); each row that meets fmt, with fmt's text TOLD by the authors' own Lean function (tested against real Go, not proved from fmt's source: count such statements apart). THE CARD IS WHAT COUNTS. Prove the row's statement (the work); the ties are given (YtnajpmepcffnaaaDoorTie.lean); close each card by the builder's one call (the guide's Derived/Test/ToyasCard.lean, 'card_holds'). Laid BY PROGRAM, IN A SANDBOX (cutbox-door.mjs). By AI agents, Wed Nov 11 2026. No macro, syntax, notation, axiom, sorry.
-/
import Derived.Test.YtnajpmepcffnaaaDoorRows
import GoSem.ClaimSeven
namespace Go.Proofs.YtnajpmepcffnaaaDoor
namespace Rows

/-- THE TIED CARD OF 'cribblelaw15.FieldSpecs'. -/
def fieldSpecsCard : Claim7 := { stood := { row := fieldSpecsRow, standIns := [], harness := (true, "0f360db02070c86e50faf275bf2133dd6654cf77bfdac8c6226302ca0203ff81"), looks := false }, kinds := [], alts := [], laidByText := true, laidKinds := [.data, .pinned], laidTests := true, laidLooks := .later }
def FieldSpecsCardSaid : Prop := Claim7.holds Tryd.pinned (.plain (OpenSpec.ofChange fieldSpecsSpec)) fieldSpecsCard

/-- THE TIED CARD OF 'cribblelaw15.FieldValues'. -/
def fieldValuesCard : Claim7 := { stood := { row := fieldValuesRow, standIns := [], harness := (true, "0f360db02070c86e50faf275bf2133dd6654cf77bfdac8c6226302ca0203ff81"), looks := false }, kinds := [], alts := [], laidByText := true, laidKinds := [.data, .pinned], laidTests := true, laidLooks := .later }
def FieldValuesCardSaid : Prop := Claim7.holds Tryd.pinned (.plain (OpenSpec.ofChange fieldValuesSpec)) fieldValuesCard

/-- THE TIED CARD OF 'cribblelaw15.FieldBack'. -/
def fieldBackCard : Claim7 := { stood := { row := fieldBackRow, standIns := [], harness := (true, "0f360db02070c86e50faf275bf2133dd6654cf77bfdac8c6226302ca0203ff81"), looks := false }, kinds := [], alts := [], laidByText := true, laidKinds := [.data, .pinned], laidTests := true, laidLooks := .later }
def FieldBackCardSaid : Prop := Claim7.holds Tryd.pinned (.plain (OpenSpec.ofChange fieldBackSpec)) fieldBackCard

/-- THE TIED CARD OF 'cribblelaw15.FieldAlone'. -/
def fieldAloneCard : Claim7 := { stood := { row := fieldAloneRow, standIns := [], harness := (true, "0f360db02070c86e50faf275bf2133dd6654cf77bfdac8c6226302ca0203ff81"), looks := false }, kinds := [], alts := [], laidByText := true, laidKinds := [.data, .pinned], laidTests := true, laidLooks := .later }
def FieldAloneCardSaid : Prop := Claim7.holds Tryd.pinned (.plain (OpenSpec.ofChange fieldAloneSpec)) fieldAloneCard

/-- THE TIED CARD OF 'cribblelaw15.FieldCopies'. -/
def fieldCopiesCard : Claim7 := { stood := { row := fieldCopiesRow, standIns := [], harness := (true, "0f360db02070c86e50faf275bf2133dd6654cf77bfdac8c6226302ca0203ff81"), looks := false }, kinds := [], alts := [], laidByText := true, laidKinds := [.data, .pinned], laidTests := true, laidLooks := .later }
def FieldCopiesCardSaid : Prop := Claim7.holds Tryd.pinned (.plain (OpenSpec.ofChange fieldCopiesSpec)) fieldCopiesCard

/-- THE SECOND FORM's CARD OF 'cribblelaw15.FieldSpecs'. -/
def fieldSpecsUptoCard : Claim7 := { stood := { row := fieldSpecsUptoRow, standIns := [], harness := (true, "0f360db02070c86e50faf275bf2133dd6654cf77bfdac8c6226302ca0203ff81"), looks := false }, kinds := [], alts := [], laidByText := true, laidKinds := [.data, .pinned], laidTests := true, laidLooks := .later }
def FieldSpecsUptoCardSaid : Prop := Claim7.holds Tryd.pinned (.plain (OpenSpec.upto fieldSpecsSpec)) fieldSpecsUptoCard

/-- THE SECOND FORM's CARD OF 'cribblelaw15.FieldValues'. -/
def fieldValuesUptoCard : Claim7 := { stood := { row := fieldValuesUptoRow, standIns := [], harness := (true, "0f360db02070c86e50faf275bf2133dd6654cf77bfdac8c6226302ca0203ff81"), looks := false }, kinds := [], alts := [], laidByText := true, laidKinds := [.data, .pinned], laidTests := true, laidLooks := .later }
def FieldValuesUptoCardSaid : Prop := Claim7.holds Tryd.pinned (.plain (OpenSpec.upto fieldValuesSpec)) fieldValuesUptoCard

/-- THE SECOND FORM's CARD OF 'cribblelaw15.FieldBack'. -/
def fieldBackUptoCard : Claim7 := { stood := { row := fieldBackUptoRow, standIns := [], harness := (true, "0f360db02070c86e50faf275bf2133dd6654cf77bfdac8c6226302ca0203ff81"), looks := false }, kinds := [], alts := [], laidByText := true, laidKinds := [.data, .pinned], laidTests := true, laidLooks := .later }
def FieldBackUptoCardSaid : Prop := Claim7.holds Tryd.pinned (.plain (OpenSpec.upto fieldBackSpec)) fieldBackUptoCard

/-- THE SECOND FORM's CARD OF 'cribblelaw15.FieldAlone'. -/
def fieldAloneUptoCard : Claim7 := { stood := { row := fieldAloneUptoRow, standIns := [], harness := (true, "0f360db02070c86e50faf275bf2133dd6654cf77bfdac8c6226302ca0203ff81"), looks := false }, kinds := [], alts := [], laidByText := true, laidKinds := [.data, .pinned], laidTests := true, laidLooks := .later }
def FieldAloneUptoCardSaid : Prop := Claim7.holds Tryd.pinned (.plain (OpenSpec.upto fieldAloneSpec)) fieldAloneUptoCard

/-- THE SECOND FORM's CARD OF 'cribblelaw15.FieldCopies'. -/
def fieldCopiesUptoCard : Claim7 := { stood := { row := fieldCopiesUptoRow, standIns := [], harness := (true, "0f360db02070c86e50faf275bf2133dd6654cf77bfdac8c6226302ca0203ff81"), looks := false }, kinds := [], alts := [], laidByText := true, laidKinds := [.data, .pinned], laidTests := true, laidLooks := .later }
def FieldCopiesUptoCardSaid : Prop := Claim7.holds Tryd.pinned (.plain (OpenSpec.upto fieldCopiesSpec)) fieldCopiesUptoCard
end Rows
end Go.Proofs.YtnajpmepcffnaaaDoor
