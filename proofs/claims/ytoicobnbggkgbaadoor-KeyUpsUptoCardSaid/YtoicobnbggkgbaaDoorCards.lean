/-
  DERIVED. GIVEN WITH THE SEED: THE CARDS: each row of YtoicobnbggkgbaaDoorRows.lean that lists a variable, with what it lists TIED to the program's text (the seventh form; the later family's looks); each row that meets fmt, with fmt's text TOLD by the authors' own Lean function (tested against real Go, not proved from fmt's source: count such statements apart). THE CARD IS WHAT COUNTS. Prove the row's statement (the work); the ties are given (YtoicobnbggkgbaaDoorTie.lean); close each card by the builder's one call (the guide's Derived/Test/ToyasCard.lean, 'card_holds'). Laid BY PROGRAM, IN A SANDBOX (cutbox-door.mjs). By AI agents, Wed Nov 11 2026. No macro, syntax, notation, axiom, sorry.
-/
import Derived.Test.YtoicobnbggkgbaaDoorRows
import GoSem.ClaimSeven
namespace Go.Proofs.YtoicobnbggkgbaaDoor
namespace Rows

/-- THE TIED CARD OF 'cribblelaw07.KeyCuts'. -/
def keyCutsCard : Claim7 := { stood := { row := keyCutsRow, standIns := [], harness := (true, "7dc1288e9a950970b59005f79be3c81ec8a84e2074fd2ab281cb2e34fc8e4dc7"), looks := false }, kinds := [], alts := [], laidByText := true, laidKinds := [.data, .pinned], laidTests := true, laidLooks := .later }
def KeyCutsCardSaid : Prop := Claim7.holds Tryd.pinned (.plain (OpenSpec.ofChange keyCutsSpec)) keyCutsCard

/-- THE TIED CARD OF 'cribblelaw07.KeyOrders'. -/
def keyOrdersCard : Claim7 := { stood := { row := keyOrdersRow, standIns := [], harness := (true, "7dc1288e9a950970b59005f79be3c81ec8a84e2074fd2ab281cb2e34fc8e4dc7"), looks := false }, kinds := [], alts := [], laidByText := true, laidKinds := [.data, .pinned], laidTests := true, laidLooks := .later }
def KeyOrdersCardSaid : Prop := Claim7.holds Tryd.pinned (.plain (OpenSpec.ofChange keyOrdersSpec)) keyOrdersCard

/-- THE TIED CARD OF 'cribblelaw07.KeyChain'. -/
def keyChainCard : Claim7 := { stood := { row := keyChainRow, standIns := [], harness := (true, "7dc1288e9a950970b59005f79be3c81ec8a84e2074fd2ab281cb2e34fc8e4dc7"), looks := false }, kinds := [], alts := [], laidByText := true, laidKinds := [.data, .pinned], laidTests := true, laidLooks := .later }
def KeyChainCardSaid : Prop := Claim7.holds Tryd.pinned (.plain (OpenSpec.ofChange keyChainSpec)) keyChainCard

/-- THE TIED CARD OF 'cribblelaw07.KeyCutBack'. -/
def keyCutBackCard : Claim7 := { stood := { row := keyCutBackRow, standIns := [], harness := (true, "7dc1288e9a950970b59005f79be3c81ec8a84e2074fd2ab281cb2e34fc8e4dc7"), looks := false }, kinds := [], alts := [], laidByText := true, laidKinds := [.data, .pinned], laidTests := true, laidLooks := .later }
def KeyCutBackCardSaid : Prop := Claim7.holds Tryd.pinned (.plain (OpenSpec.ofChange keyCutBackSpec)) keyCutBackCard

/-- THE TIED CARD OF 'cribblelaw07.KeyMeets'. -/
def keyMeetsCard : Claim7 := { stood := { row := keyMeetsRow, standIns := [], harness := (true, "7dc1288e9a950970b59005f79be3c81ec8a84e2074fd2ab281cb2e34fc8e4dc7"), looks := false }, kinds := [], alts := [], laidByText := true, laidKinds := [.data, .pinned], laidTests := true, laidLooks := .later }
def KeyMeetsCardSaid : Prop := Claim7.holds Tryd.pinned (.plain (OpenSpec.ofChange keyMeetsSpec)) keyMeetsCard

/-- THE TIED CARD OF 'cribblelaw07.KeyBlock'. -/
def keyBlockCard : Claim7 := { stood := { row := keyBlockRow, standIns := [], harness := (true, "7dc1288e9a950970b59005f79be3c81ec8a84e2074fd2ab281cb2e34fc8e4dc7"), looks := false }, kinds := [], alts := [], laidByText := true, laidKinds := [.data, .pinned], laidTests := true, laidLooks := .later }
def KeyBlockCardSaid : Prop := Claim7.holds Tryd.pinned (.plain (OpenSpec.ofChange keyBlockSpec)) keyBlockCard

/-- THE TIED CARD OF 'cribblelaw07.KeyUps'. -/
def keyUpsCard : Claim7 := { stood := { row := keyUpsRow, standIns := [], harness := (true, "7dc1288e9a950970b59005f79be3c81ec8a84e2074fd2ab281cb2e34fc8e4dc7"), looks := false }, kinds := [], alts := [], laidByText := true, laidKinds := [.data, .pinned], laidTests := true, laidLooks := .later }
def KeyUpsCardSaid : Prop := Claim7.holds Tryd.pinned (.plain (OpenSpec.ofChange keyUpsSpec)) keyUpsCard

/-- THE TIED CARD OF 'cribblelaw09.PrefixTells'. -/
def prefixTellsCard : Claim7 := { stood := { row := prefixTellsRow, standIns := [], harness := (true, "7dc1288e9a950970b59005f79be3c81ec8a84e2074fd2ab281cb2e34fc8e4dc7"), looks := false }, kinds := [], alts := [], laidByText := true, laidKinds := [.data, .pinned], laidTests := true, laidLooks := .later }
def PrefixTellsCardSaid : Prop := Claim7.holds Tryd.pinned (.plain (OpenSpec.ofChange prefixTellsSpec)) prefixTellsCard

/-- THE TIED CARD OF 'cribblelaw09.PrefixUps'. -/
def prefixUpsCard : Claim7 := { stood := { row := prefixUpsRow, standIns := [], harness := (true, "7dc1288e9a950970b59005f79be3c81ec8a84e2074fd2ab281cb2e34fc8e4dc7"), looks := false }, kinds := [], alts := [], laidByText := true, laidKinds := [.data, .pinned], laidTests := true, laidLooks := .later }
def PrefixUpsCardSaid : Prop := Claim7.holds Tryd.pinned (.plain (OpenSpec.ofChange prefixUpsSpec)) prefixUpsCard

/-- THE TIED CARD OF 'cribblelaw09.PrefixCrosses'. -/
def prefixCrossesCard : Claim7 := { stood := { row := prefixCrossesRow, standIns := [], harness := (true, "7dc1288e9a950970b59005f79be3c81ec8a84e2074fd2ab281cb2e34fc8e4dc7"), looks := false }, kinds := [], alts := [], laidByText := true, laidKinds := [.data, .pinned], laidTests := true, laidLooks := .later }
def PrefixCrossesCardSaid : Prop := Claim7.holds Tryd.pinned (.plain (OpenSpec.ofChange prefixCrossesSpec)) prefixCrossesCard

/-- THE TIED CARD OF 'cribblelaw09.PrefixChain'. -/
def prefixChainCard : Claim7 := { stood := { row := prefixChainRow, standIns := [], harness := (true, "7dc1288e9a950970b59005f79be3c81ec8a84e2074fd2ab281cb2e34fc8e4dc7"), looks := false }, kinds := [], alts := [], laidByText := true, laidKinds := [.data, .pinned], laidTests := true, laidLooks := .later }
def PrefixChainCardSaid : Prop := Claim7.holds Tryd.pinned (.plain (OpenSpec.ofChange prefixChainSpec)) prefixChainCard

/-- THE TIED CARD OF 'cribblelaw09.PrefixOne'. -/
def prefixOneCard : Claim7 := { stood := { row := prefixOneRow, standIns := [], harness := (true, "7dc1288e9a950970b59005f79be3c81ec8a84e2074fd2ab281cb2e34fc8e4dc7"), looks := false }, kinds := [], alts := [], laidByText := true, laidKinds := [.data, .pinned], laidTests := true, laidLooks := .later }
def PrefixOneCardSaid : Prop := Claim7.holds Tryd.pinned (.plain (OpenSpec.ofChange prefixOneSpec)) prefixOneCard

/-- THE SECOND FORM's CARD OF 'cribblelaw07.KeyCuts'. -/
def keyCutsUptoCard : Claim7 := { stood := { row := keyCutsUptoRow, standIns := [], harness := (true, "7dc1288e9a950970b59005f79be3c81ec8a84e2074fd2ab281cb2e34fc8e4dc7"), looks := false }, kinds := [], alts := [], laidByText := true, laidKinds := [.data, .pinned], laidTests := true, laidLooks := .later }
def KeyCutsUptoCardSaid : Prop := Claim7.holds Tryd.pinned (.plain (OpenSpec.upto keyCutsSpec)) keyCutsUptoCard

/-- THE SECOND FORM's CARD OF 'cribblelaw07.KeyOrders'. -/
def keyOrdersUptoCard : Claim7 := { stood := { row := keyOrdersUptoRow, standIns := [], harness := (true, "7dc1288e9a950970b59005f79be3c81ec8a84e2074fd2ab281cb2e34fc8e4dc7"), looks := false }, kinds := [], alts := [], laidByText := true, laidKinds := [.data, .pinned], laidTests := true, laidLooks := .later }
def KeyOrdersUptoCardSaid : Prop := Claim7.holds Tryd.pinned (.plain (OpenSpec.upto keyOrdersSpec)) keyOrdersUptoCard

/-- THE SECOND FORM's CARD OF 'cribblelaw07.KeyChain'. -/
def keyChainUptoCard : Claim7 := { stood := { row := keyChainUptoRow, standIns := [], harness := (true, "7dc1288e9a950970b59005f79be3c81ec8a84e2074fd2ab281cb2e34fc8e4dc7"), looks := false }, kinds := [], alts := [], laidByText := true, laidKinds := [.data, .pinned], laidTests := true, laidLooks := .later }
def KeyChainUptoCardSaid : Prop := Claim7.holds Tryd.pinned (.plain (OpenSpec.upto keyChainSpec)) keyChainUptoCard

/-- THE SECOND FORM's CARD OF 'cribblelaw07.KeyCutBack'. -/
def keyCutBackUptoCard : Claim7 := { stood := { row := keyCutBackUptoRow, standIns := [], harness := (true, "7dc1288e9a950970b59005f79be3c81ec8a84e2074fd2ab281cb2e34fc8e4dc7"), looks := false }, kinds := [], alts := [], laidByText := true, laidKinds := [.data, .pinned], laidTests := true, laidLooks := .later }
def KeyCutBackUptoCardSaid : Prop := Claim7.holds Tryd.pinned (.plain (OpenSpec.upto keyCutBackSpec)) keyCutBackUptoCard

/-- THE SECOND FORM's CARD OF 'cribblelaw07.KeyMeets'. -/
def keyMeetsUptoCard : Claim7 := { stood := { row := keyMeetsUptoRow, standIns := [], harness := (true, "7dc1288e9a950970b59005f79be3c81ec8a84e2074fd2ab281cb2e34fc8e4dc7"), looks := false }, kinds := [], alts := [], laidByText := true, laidKinds := [.data, .pinned], laidTests := true, laidLooks := .later }
def KeyMeetsUptoCardSaid : Prop := Claim7.holds Tryd.pinned (.plain (OpenSpec.upto keyMeetsSpec)) keyMeetsUptoCard

/-- THE SECOND FORM's CARD OF 'cribblelaw07.KeyBlock'. -/
def keyBlockUptoCard : Claim7 := { stood := { row := keyBlockUptoRow, standIns := [], harness := (true, "7dc1288e9a950970b59005f79be3c81ec8a84e2074fd2ab281cb2e34fc8e4dc7"), looks := false }, kinds := [], alts := [], laidByText := true, laidKinds := [.data, .pinned], laidTests := true, laidLooks := .later }
def KeyBlockUptoCardSaid : Prop := Claim7.holds Tryd.pinned (.plain (OpenSpec.upto keyBlockSpec)) keyBlockUptoCard

/-- THE SECOND FORM's CARD OF 'cribblelaw07.KeyUps'. -/
def keyUpsUptoCard : Claim7 := { stood := { row := keyUpsUptoRow, standIns := [], harness := (true, "7dc1288e9a950970b59005f79be3c81ec8a84e2074fd2ab281cb2e34fc8e4dc7"), looks := false }, kinds := [], alts := [], laidByText := true, laidKinds := [.data, .pinned], laidTests := true, laidLooks := .later }
def KeyUpsUptoCardSaid : Prop := Claim7.holds Tryd.pinned (.plain (OpenSpec.upto keyUpsSpec)) keyUpsUptoCard

/-- THE SECOND FORM's CARD OF 'cribblelaw09.PrefixTells'. -/
def prefixTellsUptoCard : Claim7 := { stood := { row := prefixTellsUptoRow, standIns := [], harness := (true, "7dc1288e9a950970b59005f79be3c81ec8a84e2074fd2ab281cb2e34fc8e4dc7"), looks := false }, kinds := [], alts := [], laidByText := true, laidKinds := [.data, .pinned], laidTests := true, laidLooks := .later }
def PrefixTellsUptoCardSaid : Prop := Claim7.holds Tryd.pinned (.plain (OpenSpec.upto prefixTellsSpec)) prefixTellsUptoCard

/-- THE SECOND FORM's CARD OF 'cribblelaw09.PrefixUps'. -/
def prefixUpsUptoCard : Claim7 := { stood := { row := prefixUpsUptoRow, standIns := [], harness := (true, "7dc1288e9a950970b59005f79be3c81ec8a84e2074fd2ab281cb2e34fc8e4dc7"), looks := false }, kinds := [], alts := [], laidByText := true, laidKinds := [.data, .pinned], laidTests := true, laidLooks := .later }
def PrefixUpsUptoCardSaid : Prop := Claim7.holds Tryd.pinned (.plain (OpenSpec.upto prefixUpsSpec)) prefixUpsUptoCard

/-- THE SECOND FORM's CARD OF 'cribblelaw09.PrefixCrosses'. -/
def prefixCrossesUptoCard : Claim7 := { stood := { row := prefixCrossesUptoRow, standIns := [], harness := (true, "7dc1288e9a950970b59005f79be3c81ec8a84e2074fd2ab281cb2e34fc8e4dc7"), looks := false }, kinds := [], alts := [], laidByText := true, laidKinds := [.data, .pinned], laidTests := true, laidLooks := .later }
def PrefixCrossesUptoCardSaid : Prop := Claim7.holds Tryd.pinned (.plain (OpenSpec.upto prefixCrossesSpec)) prefixCrossesUptoCard

/-- THE SECOND FORM's CARD OF 'cribblelaw09.PrefixChain'. -/
def prefixChainUptoCard : Claim7 := { stood := { row := prefixChainUptoRow, standIns := [], harness := (true, "7dc1288e9a950970b59005f79be3c81ec8a84e2074fd2ab281cb2e34fc8e4dc7"), looks := false }, kinds := [], alts := [], laidByText := true, laidKinds := [.data, .pinned], laidTests := true, laidLooks := .later }
def PrefixChainUptoCardSaid : Prop := Claim7.holds Tryd.pinned (.plain (OpenSpec.upto prefixChainSpec)) prefixChainUptoCard

/-- THE SECOND FORM's CARD OF 'cribblelaw09.PrefixOne'. -/
def prefixOneUptoCard : Claim7 := { stood := { row := prefixOneUptoRow, standIns := [], harness := (true, "7dc1288e9a950970b59005f79be3c81ec8a84e2074fd2ab281cb2e34fc8e4dc7"), looks := false }, kinds := [], alts := [], laidByText := true, laidKinds := [.data, .pinned], laidTests := true, laidLooks := .later }
def PrefixOneUptoCardSaid : Prop := Claim7.holds Tryd.pinned (.plain (OpenSpec.upto prefixOneSpec)) prefixOneUptoCard
end Rows
end Go.Proofs.YtoicobnbggkgbaaDoor
