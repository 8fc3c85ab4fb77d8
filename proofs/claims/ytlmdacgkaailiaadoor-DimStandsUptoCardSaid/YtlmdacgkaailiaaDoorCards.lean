/-
  DERIVED. GIVEN WITH THE SEED: THE CARDS: each row of YtlmdacgkaailiaaDoorRows.lean that lists a variable, with what it lists TIED to the program's text (the seventh form; the later family's looks); each row that meets fmt, with fmt's text TOLD by the authors' own Lean function (tested against real Go, not proved from fmt's source: count such statements apart). THE CARD IS WHAT COUNTS. Prove the row's statement (the work); the ties are given (YtlmdacgkaailiaaDoorTie.lean); close each card by the builder's one call (the guide's Derived/Test/ToyasCard.lean, 'card_holds'). Laid BY PROGRAM, IN A SANDBOX (cutbox-door.mjs). By AI agents, Wed Nov 11 2026. No macro, syntax, notation, axiom, sorry.
-/
import Derived.Test.YtlmdacgkaailiaaDoorRows
import GoSem.ClaimSeven
namespace Go.Proofs.YtlmdacgkaailiaaDoor
namespace Rows

/-- THE TIED CARD OF 'cribblelaw05.LabelTells'. -/
def labelTellsCard : Claim7 := { stood := { row := labelTellsRow, standIns := [], harness := (true, "87d9e1d016e4825dfebbc05a15a467da88c8224291ed191753c79fb1eec8191f"), looks := false }, kinds := [], alts := [], laidByText := true, laidKinds := [.data, .pinned], laidTests := true, laidLooks := .later }
def LabelTellsCardSaid : Prop := Claim7.holds Tryd.pinned (.plain (OpenSpec.ofChange labelTellsSpec)) labelTellsCard

/-- THE TIED CARD OF 'cribblelaw05.LabelJoins'. -/
def labelJoinsCard : Claim7 := { stood := { row := labelJoinsRow, standIns := [], harness := (true, "87d9e1d016e4825dfebbc05a15a467da88c8224291ed191753c79fb1eec8191f"), looks := false }, kinds := [], alts := [], laidByText := true, laidKinds := [.data, .pinned], laidTests := true, laidLooks := .later }
def LabelJoinsCardSaid : Prop := Claim7.holds Tryd.pinned (.plain (OpenSpec.ofChange labelJoinsSpec)) labelJoinsCard

/-- THE TIED CARD OF 'cribblelaw05.LabelBack'. -/
def labelBackCard : Claim7 := { stood := { row := labelBackRow, standIns := [], harness := (true, "87d9e1d016e4825dfebbc05a15a467da88c8224291ed191753c79fb1eec8191f"), looks := false }, kinds := [], alts := [], laidByText := true, laidKinds := [.data, .pinned], laidTests := true, laidLooks := .later }
def LabelBackCardSaid : Prop := Claim7.holds Tryd.pinned (.plain (OpenSpec.ofChange labelBackSpec)) labelBackCard

/-- THE TIED CARD OF 'cribblelaw08.DimTells'. -/
def dimTellsCard : Claim7 := { stood := { row := dimTellsRow, standIns := [], harness := (true, "87d9e1d016e4825dfebbc05a15a467da88c8224291ed191753c79fb1eec8191f"), looks := false }, kinds := [], alts := [], laidByText := true, laidKinds := [.data, .pinned], laidTests := true, laidLooks := .later }
def DimTellsCardSaid : Prop := Claim7.holds Tryd.pinned (.plain (OpenSpec.ofChange dimTellsSpec)) dimTellsCard

/-- THE TIED CARD OF 'cribblelaw08.DimCuts'. -/
def dimCutsCard : Claim7 := { stood := { row := dimCutsRow, standIns := [], harness := (true, "87d9e1d016e4825dfebbc05a15a467da88c8224291ed191753c79fb1eec8191f"), looks := false }, kinds := [], alts := [], laidByText := true, laidKinds := [.data, .pinned], laidTests := true, laidLooks := .later }
def DimCutsCardSaid : Prop := Claim7.holds Tryd.pinned (.plain (OpenSpec.ofChange dimCutsSpec)) dimCutsCard

/-- THE TIED CARD OF 'cribblelaw08.DimSteps'. -/
def dimStepsCard : Claim7 := { stood := { row := dimStepsRow, standIns := [], harness := (true, "87d9e1d016e4825dfebbc05a15a467da88c8224291ed191753c79fb1eec8191f"), looks := false }, kinds := [], alts := [], laidByText := true, laidKinds := [.data, .pinned], laidTests := true, laidLooks := .later }
def DimStepsCardSaid : Prop := Claim7.holds Tryd.pinned (.plain (OpenSpec.ofChange dimStepsSpec)) dimStepsCard

/-- THE TIED CARD OF 'cribblelaw08.DimStands'. -/
def dimStandsCard : Claim7 := { stood := { row := dimStandsRow, standIns := [], harness := (true, "87d9e1d016e4825dfebbc05a15a467da88c8224291ed191753c79fb1eec8191f"), looks := false }, kinds := [], alts := [], laidByText := true, laidKinds := [.data, .pinned], laidTests := true, laidLooks := .later }
def DimStandsCardSaid : Prop := Claim7.holds Tryd.pinned (.plain (OpenSpec.ofChange dimStandsSpec)) dimStandsCard

/-- THE TIED CARD OF 'cribblelaw08.DimOver'. -/
def dimOverCard : Claim7 := { stood := { row := dimOverRow, standIns := [], harness := (true, "87d9e1d016e4825dfebbc05a15a467da88c8224291ed191753c79fb1eec8191f"), looks := false }, kinds := [], alts := [], laidByText := true, laidKinds := [.data, .pinned], laidTests := true, laidLooks := .later }
def DimOverCardSaid : Prop := Claim7.holds Tryd.pinned (.plain (OpenSpec.ofChange dimOverSpec)) dimOverCard

/-- THE TIED CARD OF 'cribblelaw07.KeyTells'. -/
def keyTellsCard : Claim7 := { stood := { row := keyTellsRow, standIns := [], harness := (true, "87d9e1d016e4825dfebbc05a15a467da88c8224291ed191753c79fb1eec8191f"), looks := false }, kinds := [], alts := [], laidByText := true, laidKinds := [.data, .pinned], laidTests := true, laidLooks := .later }
def KeyTellsCardSaid : Prop := Claim7.holds Tryd.pinned (.plain (OpenSpec.ofChange keyTellsSpec)) keyTellsCard

/-- THE SECOND FORM's CARD OF 'cribblelaw05.LabelTells'. -/
def labelTellsUptoCard : Claim7 := { stood := { row := labelTellsUptoRow, standIns := [], harness := (true, "87d9e1d016e4825dfebbc05a15a467da88c8224291ed191753c79fb1eec8191f"), looks := false }, kinds := [], alts := [], laidByText := true, laidKinds := [.data, .pinned], laidTests := true, laidLooks := .later }
def LabelTellsUptoCardSaid : Prop := Claim7.holds Tryd.pinned (.plain (OpenSpec.upto labelTellsSpec)) labelTellsUptoCard

/-- THE SECOND FORM's CARD OF 'cribblelaw05.LabelJoins'. -/
def labelJoinsUptoCard : Claim7 := { stood := { row := labelJoinsUptoRow, standIns := [], harness := (true, "87d9e1d016e4825dfebbc05a15a467da88c8224291ed191753c79fb1eec8191f"), looks := false }, kinds := [], alts := [], laidByText := true, laidKinds := [.data, .pinned], laidTests := true, laidLooks := .later }
def LabelJoinsUptoCardSaid : Prop := Claim7.holds Tryd.pinned (.plain (OpenSpec.upto labelJoinsSpec)) labelJoinsUptoCard

/-- THE SECOND FORM's CARD OF 'cribblelaw05.LabelBack'. -/
def labelBackUptoCard : Claim7 := { stood := { row := labelBackUptoRow, standIns := [], harness := (true, "87d9e1d016e4825dfebbc05a15a467da88c8224291ed191753c79fb1eec8191f"), looks := false }, kinds := [], alts := [], laidByText := true, laidKinds := [.data, .pinned], laidTests := true, laidLooks := .later }
def LabelBackUptoCardSaid : Prop := Claim7.holds Tryd.pinned (.plain (OpenSpec.upto labelBackSpec)) labelBackUptoCard

/-- THE SECOND FORM's CARD OF 'cribblelaw08.DimTells'. -/
def dimTellsUptoCard : Claim7 := { stood := { row := dimTellsUptoRow, standIns := [], harness := (true, "87d9e1d016e4825dfebbc05a15a467da88c8224291ed191753c79fb1eec8191f"), looks := false }, kinds := [], alts := [], laidByText := true, laidKinds := [.data, .pinned], laidTests := true, laidLooks := .later }
def DimTellsUptoCardSaid : Prop := Claim7.holds Tryd.pinned (.plain (OpenSpec.upto dimTellsSpec)) dimTellsUptoCard

/-- THE SECOND FORM's CARD OF 'cribblelaw08.DimCuts'. -/
def dimCutsUptoCard : Claim7 := { stood := { row := dimCutsUptoRow, standIns := [], harness := (true, "87d9e1d016e4825dfebbc05a15a467da88c8224291ed191753c79fb1eec8191f"), looks := false }, kinds := [], alts := [], laidByText := true, laidKinds := [.data, .pinned], laidTests := true, laidLooks := .later }
def DimCutsUptoCardSaid : Prop := Claim7.holds Tryd.pinned (.plain (OpenSpec.upto dimCutsSpec)) dimCutsUptoCard

/-- THE SECOND FORM's CARD OF 'cribblelaw08.DimSteps'. -/
def dimStepsUptoCard : Claim7 := { stood := { row := dimStepsUptoRow, standIns := [], harness := (true, "87d9e1d016e4825dfebbc05a15a467da88c8224291ed191753c79fb1eec8191f"), looks := false }, kinds := [], alts := [], laidByText := true, laidKinds := [.data, .pinned], laidTests := true, laidLooks := .later }
def DimStepsUptoCardSaid : Prop := Claim7.holds Tryd.pinned (.plain (OpenSpec.upto dimStepsSpec)) dimStepsUptoCard

/-- THE SECOND FORM's CARD OF 'cribblelaw08.DimStands'. -/
def dimStandsUptoCard : Claim7 := { stood := { row := dimStandsUptoRow, standIns := [], harness := (true, "87d9e1d016e4825dfebbc05a15a467da88c8224291ed191753c79fb1eec8191f"), looks := false }, kinds := [], alts := [], laidByText := true, laidKinds := [.data, .pinned], laidTests := true, laidLooks := .later }
def DimStandsUptoCardSaid : Prop := Claim7.holds Tryd.pinned (.plain (OpenSpec.upto dimStandsSpec)) dimStandsUptoCard

/-- THE SECOND FORM's CARD OF 'cribblelaw08.DimOver'. -/
def dimOverUptoCard : Claim7 := { stood := { row := dimOverUptoRow, standIns := [], harness := (true, "87d9e1d016e4825dfebbc05a15a467da88c8224291ed191753c79fb1eec8191f"), looks := false }, kinds := [], alts := [], laidByText := true, laidKinds := [.data, .pinned], laidTests := true, laidLooks := .later }
def DimOverUptoCardSaid : Prop := Claim7.holds Tryd.pinned (.plain (OpenSpec.upto dimOverSpec)) dimOverUptoCard

/-- THE SECOND FORM's CARD OF 'cribblelaw07.KeyTells'. -/
def keyTellsUptoCard : Claim7 := { stood := { row := keyTellsUptoRow, standIns := [], harness := (true, "87d9e1d016e4825dfebbc05a15a467da88c8224291ed191753c79fb1eec8191f"), looks := false }, kinds := [], alts := [], laidByText := true, laidKinds := [.data, .pinned], laidTests := true, laidLooks := .later }
def KeyTellsUptoCardSaid : Prop := Claim7.holds Tryd.pinned (.plain (OpenSpec.upto keyTellsSpec)) keyTellsUptoCard
end Rows
end Go.Proofs.YtlmdacgkaailiaaDoor
