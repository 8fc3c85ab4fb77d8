/-
  DERIVED. GIVEN WITH THE SEED: THE CARDS: each row of YtgdonjndgjiocaaDoorRows.lean that lists a variable, with what it lists TIED to the program's text (the seventh form; the later family's looks); each row that meets fmt, with fmt's text TOLD by the authors' own Lean function (tested against real Go, not proved from fmt's source: count such statements apart). THE CARD IS WHAT COUNTS. Prove the row's statement (the work); the ties are given (YtgdonjndgjiocaaDoorTie.lean); close each card by the builder's one call (the guide's Derived/Test/ToyasCard.lean, 'card_holds'). Laid BY PROGRAM, IN A SANDBOX (cutbox-door.mjs). By AI agents, Wed Nov 11 2026. No macro, syntax, notation, axiom, sorry.
-/
import Derived.Test.YtgdonjndgjiocaaDoorRows
import GoSem.ClaimSeven
namespace Go.Proofs.YtgdonjndgjiocaaDoor
namespace Rows

/-- THE TIED CARD OF 'cribblelaw09.PrefixMeets'. -/
def prefixMeetsCard : Claim7 := { stood := { row := prefixMeetsRow, standIns := [], harness := (true, "ee5f1882a914b3151ca5c378cb1dec33d99b6a62167bedd8a36365c4f6561d01"), looks := false }, kinds := [], alts := [], laidByText := true, laidKinds := [.data, .pinned], laidTests := true, laidLooks := .later }
def PrefixMeetsCardSaid : Prop := Claim7.holds Tryd.pinned (.plain (OpenSpec.ofChange prefixMeetsSpec)) prefixMeetsCard

/-- THE TIED CARD OF 'cribblelaw09.PrefixOrders'. -/
def prefixOrdersCard : Claim7 := { stood := { row := prefixOrdersRow, standIns := [], harness := (true, "ee5f1882a914b3151ca5c378cb1dec33d99b6a62167bedd8a36365c4f6561d01"), looks := false }, kinds := [], alts := [], laidByText := true, laidKinds := [.data, .pinned], laidTests := true, laidLooks := .later }
def PrefixOrdersCardSaid : Prop := Claim7.holds Tryd.pinned (.plain (OpenSpec.ofChange prefixOrdersSpec)) prefixOrdersCard

/-- THE TIED CARD OF 'cribblelaw10.GridTells'. -/
def gridTellsCard : Claim7 := { stood := { row := gridTellsRow, standIns := [], harness := (true, "ee5f1882a914b3151ca5c378cb1dec33d99b6a62167bedd8a36365c4f6561d01"), looks := false }, kinds := [], alts := [], laidByText := true, laidKinds := [.data, .pinned], laidTests := true, laidLooks := .later }
def GridTellsCardSaid : Prop := Claim7.holds Tryd.pinned (.plain (OpenSpec.ofChange gridTellsSpec)) gridTellsCard

/-- THE TIED CARD OF 'cribblelaw10.GridWalks'. -/
def gridWalksCard : Claim7 := { stood := { row := gridWalksRow, standIns := [], harness := (true, "ee5f1882a914b3151ca5c378cb1dec33d99b6a62167bedd8a36365c4f6561d01"), looks := false }, kinds := [], alts := [], laidByText := true, laidKinds := [.data, .pinned], laidTests := true, laidLooks := .later }
def GridWalksCardSaid : Prop := Claim7.holds Tryd.pinned (.plain (OpenSpec.ofChange gridWalksSpec)) gridWalksCard

/-- THE TIED CARD OF 'cribblelaw10.GridClimbs'. -/
def gridClimbsCard : Claim7 := { stood := { row := gridClimbsRow, standIns := [], harness := (true, "ee5f1882a914b3151ca5c378cb1dec33d99b6a62167bedd8a36365c4f6561d01"), looks := false }, kinds := [], alts := [], laidByText := true, laidKinds := [.data, .pinned], laidTests := true, laidLooks := .later }
def GridClimbsCardSaid : Prop := Claim7.holds Tryd.pinned (.plain (OpenSpec.ofChange gridClimbsSpec)) gridClimbsCard

/-- THE TIED CARD OF 'cribblelaw10.GridPlaces'. -/
def gridPlacesCard : Claim7 := { stood := { row := gridPlacesRow, standIns := [], harness := (true, "ee5f1882a914b3151ca5c378cb1dec33d99b6a62167bedd8a36365c4f6561d01"), looks := false }, kinds := [], alts := [], laidByText := true, laidKinds := [.data, .pinned], laidTests := true, laidLooks := .later }
def GridPlacesCardSaid : Prop := Claim7.holds Tryd.pinned (.plain (OpenSpec.ofChange gridPlacesSpec)) gridPlacesCard

/-- THE TIED CARD OF 'cribblelaw10.GridOver'. -/
def gridOverCard : Claim7 := { stood := { row := gridOverRow, standIns := [], harness := (true, "ee5f1882a914b3151ca5c378cb1dec33d99b6a62167bedd8a36365c4f6561d01"), looks := false }, kinds := [], alts := [], laidByText := true, laidKinds := [.data, .pinned], laidTests := true, laidLooks := .later }
def GridOverCardSaid : Prop := Claim7.holds Tryd.pinned (.plain (OpenSpec.ofChange gridOverSpec)) gridOverCard

/-- THE TIED CARD OF 'cribblelaw10.GridParents'. -/
def gridParentsCard : Claim7 := { stood := { row := gridParentsRow, standIns := [], harness := (true, "ee5f1882a914b3151ca5c378cb1dec33d99b6a62167bedd8a36365c4f6561d01"), looks := false }, kinds := [], alts := [], laidByText := true, laidKinds := [.data, .pinned], laidTests := true, laidLooks := .later }
def GridParentsCardSaid : Prop := Claim7.holds Tryd.pinned (.plain (OpenSpec.ofChange gridParentsSpec)) gridParentsCard

/-- THE SECOND FORM's CARD OF 'cribblelaw09.PrefixMeets'. -/
def prefixMeetsUptoCard : Claim7 := { stood := { row := prefixMeetsUptoRow, standIns := [], harness := (true, "ee5f1882a914b3151ca5c378cb1dec33d99b6a62167bedd8a36365c4f6561d01"), looks := false }, kinds := [], alts := [], laidByText := true, laidKinds := [.data, .pinned], laidTests := true, laidLooks := .later }
def PrefixMeetsUptoCardSaid : Prop := Claim7.holds Tryd.pinned (.plain (OpenSpec.upto prefixMeetsSpec)) prefixMeetsUptoCard

/-- THE SECOND FORM's CARD OF 'cribblelaw09.PrefixOrders'. -/
def prefixOrdersUptoCard : Claim7 := { stood := { row := prefixOrdersUptoRow, standIns := [], harness := (true, "ee5f1882a914b3151ca5c378cb1dec33d99b6a62167bedd8a36365c4f6561d01"), looks := false }, kinds := [], alts := [], laidByText := true, laidKinds := [.data, .pinned], laidTests := true, laidLooks := .later }
def PrefixOrdersUptoCardSaid : Prop := Claim7.holds Tryd.pinned (.plain (OpenSpec.upto prefixOrdersSpec)) prefixOrdersUptoCard

/-- THE SECOND FORM's CARD OF 'cribblelaw10.GridTells'. -/
def gridTellsUptoCard : Claim7 := { stood := { row := gridTellsUptoRow, standIns := [], harness := (true, "ee5f1882a914b3151ca5c378cb1dec33d99b6a62167bedd8a36365c4f6561d01"), looks := false }, kinds := [], alts := [], laidByText := true, laidKinds := [.data, .pinned], laidTests := true, laidLooks := .later }
def GridTellsUptoCardSaid : Prop := Claim7.holds Tryd.pinned (.plain (OpenSpec.upto gridTellsSpec)) gridTellsUptoCard

/-- THE SECOND FORM's CARD OF 'cribblelaw10.GridWalks'. -/
def gridWalksUptoCard : Claim7 := { stood := { row := gridWalksUptoRow, standIns := [], harness := (true, "ee5f1882a914b3151ca5c378cb1dec33d99b6a62167bedd8a36365c4f6561d01"), looks := false }, kinds := [], alts := [], laidByText := true, laidKinds := [.data, .pinned], laidTests := true, laidLooks := .later }
def GridWalksUptoCardSaid : Prop := Claim7.holds Tryd.pinned (.plain (OpenSpec.upto gridWalksSpec)) gridWalksUptoCard

/-- THE SECOND FORM's CARD OF 'cribblelaw10.GridClimbs'. -/
def gridClimbsUptoCard : Claim7 := { stood := { row := gridClimbsUptoRow, standIns := [], harness := (true, "ee5f1882a914b3151ca5c378cb1dec33d99b6a62167bedd8a36365c4f6561d01"), looks := false }, kinds := [], alts := [], laidByText := true, laidKinds := [.data, .pinned], laidTests := true, laidLooks := .later }
def GridClimbsUptoCardSaid : Prop := Claim7.holds Tryd.pinned (.plain (OpenSpec.upto gridClimbsSpec)) gridClimbsUptoCard

/-- THE SECOND FORM's CARD OF 'cribblelaw10.GridPlaces'. -/
def gridPlacesUptoCard : Claim7 := { stood := { row := gridPlacesUptoRow, standIns := [], harness := (true, "ee5f1882a914b3151ca5c378cb1dec33d99b6a62167bedd8a36365c4f6561d01"), looks := false }, kinds := [], alts := [], laidByText := true, laidKinds := [.data, .pinned], laidTests := true, laidLooks := .later }
def GridPlacesUptoCardSaid : Prop := Claim7.holds Tryd.pinned (.plain (OpenSpec.upto gridPlacesSpec)) gridPlacesUptoCard

/-- THE SECOND FORM's CARD OF 'cribblelaw10.GridOver'. -/
def gridOverUptoCard : Claim7 := { stood := { row := gridOverUptoRow, standIns := [], harness := (true, "ee5f1882a914b3151ca5c378cb1dec33d99b6a62167bedd8a36365c4f6561d01"), looks := false }, kinds := [], alts := [], laidByText := true, laidKinds := [.data, .pinned], laidTests := true, laidLooks := .later }
def GridOverUptoCardSaid : Prop := Claim7.holds Tryd.pinned (.plain (OpenSpec.upto gridOverSpec)) gridOverUptoCard

/-- THE SECOND FORM's CARD OF 'cribblelaw10.GridParents'. -/
def gridParentsUptoCard : Claim7 := { stood := { row := gridParentsUptoRow, standIns := [], harness := (true, "ee5f1882a914b3151ca5c378cb1dec33d99b6a62167bedd8a36365c4f6561d01"), looks := false }, kinds := [], alts := [], laidByText := true, laidKinds := [.data, .pinned], laidTests := true, laidLooks := .later }
def GridParentsUptoCardSaid : Prop := Claim7.holds Tryd.pinned (.plain (OpenSpec.upto gridParentsSpec)) gridParentsUptoCard
end Rows
end Go.Proofs.YtgdonjndgjiocaaDoor
