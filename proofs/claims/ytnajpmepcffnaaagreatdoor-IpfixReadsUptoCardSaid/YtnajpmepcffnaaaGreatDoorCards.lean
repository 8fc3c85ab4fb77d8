/-
  DERIVED. GIVEN WITH THE SEED: THE CARDS: each row of YtnajpmepcffnaaaGreatDoorRows.lean that lists a variable, with what it lists TIED to the program's text (the seventh form; the later family's looks); each row that meets fmt, with fmt's text TOLD by the authors' own Lean function (tested against real Go, not proved from fmt's source: count such statements apart). THE CARD IS WHAT COUNTS. Prove the row's statement (the work); the ties are given (YtnajpmepcffnaaaGreatDoorTie.lean); close each card by the builder's one call (the guide's Derived/Test/ToyasCard.lean, 'card_holds'). Laid BY PROGRAM, IN A SANDBOX (cutbox-door.mjs). By AI agents, Wed Nov 11 2026. No macro, syntax, notation, axiom, sorry.
-/
import Derived.Test.YtnajpmepcffnaaaGreatDoorRows
import GoSem.ClaimSeven
namespace Go.Proofs.YtnajpmepcffnaaaGreatDoor
namespace Rows

/-- THE TIED CARD OF 'cribblelaw17.IpfixReads'. -/
def ipfixReadsCard : Claim7 := { stood := { row := ipfixReadsRow, standIns := [], harness := (true, "05ff3f31766aacfe52226daa8af92f1e344ccff6c3bf0f830ed5179630688740"), looks := false }, kinds := [], alts := [], laidByText := true, laidKinds := [.data, .pinned], laidTests := true, laidLooks := .later }
def IpfixReadsCardSaid : Prop := Claim7.holds Tryz.pinned (.plain (OpenSpec.ofChange ipfixReadsSpec)) ipfixReadsCard

/-- THE TIED CARD OF 'cribblelaw17.IpfixMessages'. -/
def ipfixMessagesCard : Claim7 := { stood := { row := ipfixMessagesRow, standIns := [], harness := (true, "05ff3f31766aacfe52226daa8af92f1e344ccff6c3bf0f830ed5179630688740"), looks := false }, kinds := [], alts := [], laidByText := true, laidKinds := [.data, .pinned], laidTests := true, laidLooks := .later }
def IpfixMessagesCardSaid : Prop := Claim7.holds Tryz.pinned (.plain (OpenSpec.ofChange ipfixMessagesSpec)) ipfixMessagesCard

/-- THE TIED CARD OF 'cribblelaw17.IpfixSplits'. -/
def ipfixSplitsCard : Claim7 := { stood := { row := ipfixSplitsRow, standIns := [], harness := (true, "05ff3f31766aacfe52226daa8af92f1e344ccff6c3bf0f830ed5179630688740"), looks := false }, kinds := [], alts := [], laidByText := true, laidKinds := [.data, .pinned], laidTests := true, laidLooks := .later }
def IpfixSplitsCardSaid : Prop := Claim7.holds Tryz.pinned (.plain (OpenSpec.ofChange ipfixSplitsSpec)) ipfixSplitsCard

/-- THE TIED CARD OF 'cribblelaw17.IpfixApart'. -/
def ipfixApartCard : Claim7 := { stood := { row := ipfixApartRow, standIns := [], harness := (true, "05ff3f31766aacfe52226daa8af92f1e344ccff6c3bf0f830ed5179630688740"), looks := false }, kinds := [], alts := [], laidByText := true, laidKinds := [.data, .pinned], laidTests := true, laidLooks := .later }
def IpfixApartCardSaid : Prop := Claim7.holds Tryz.pinned (.plain (OpenSpec.ofChange ipfixApartSpec)) ipfixApartCard

/-- THE SECOND FORM's CARD OF 'cribblelaw17.IpfixReads'. -/
def ipfixReadsUptoCard : Claim7 := { stood := { row := ipfixReadsUptoRow, standIns := [], harness := (true, "05ff3f31766aacfe52226daa8af92f1e344ccff6c3bf0f830ed5179630688740"), looks := false }, kinds := [], alts := [], laidByText := true, laidKinds := [.data, .pinned], laidTests := true, laidLooks := .later }
def IpfixReadsUptoCardSaid : Prop := Claim7.holds Tryz.pinned (.plain (OpenSpec.upto ipfixReadsSpec)) ipfixReadsUptoCard

/-- THE SECOND FORM's CARD OF 'cribblelaw17.IpfixMessages'. -/
def ipfixMessagesUptoCard : Claim7 := { stood := { row := ipfixMessagesUptoRow, standIns := [], harness := (true, "05ff3f31766aacfe52226daa8af92f1e344ccff6c3bf0f830ed5179630688740"), looks := false }, kinds := [], alts := [], laidByText := true, laidKinds := [.data, .pinned], laidTests := true, laidLooks := .later }
def IpfixMessagesUptoCardSaid : Prop := Claim7.holds Tryz.pinned (.plain (OpenSpec.upto ipfixMessagesSpec)) ipfixMessagesUptoCard

/-- THE SECOND FORM's CARD OF 'cribblelaw17.IpfixSplits'. -/
def ipfixSplitsUptoCard : Claim7 := { stood := { row := ipfixSplitsUptoRow, standIns := [], harness := (true, "05ff3f31766aacfe52226daa8af92f1e344ccff6c3bf0f830ed5179630688740"), looks := false }, kinds := [], alts := [], laidByText := true, laidKinds := [.data, .pinned], laidTests := true, laidLooks := .later }
def IpfixSplitsUptoCardSaid : Prop := Claim7.holds Tryz.pinned (.plain (OpenSpec.upto ipfixSplitsSpec)) ipfixSplitsUptoCard

/-- THE SECOND FORM's CARD OF 'cribblelaw17.IpfixApart'. -/
def ipfixApartUptoCard : Claim7 := { stood := { row := ipfixApartUptoRow, standIns := [], harness := (true, "05ff3f31766aacfe52226daa8af92f1e344ccff6c3bf0f830ed5179630688740"), looks := false }, kinds := [], alts := [], laidByText := true, laidKinds := [.data, .pinned], laidTests := true, laidLooks := .later }
def IpfixApartUptoCardSaid : Prop := Claim7.holds Tryz.pinned (.plain (OpenSpec.upto ipfixApartSpec)) ipfixApartUptoCard
end Rows
end Go.Proofs.YtnajpmepcffnaaaGreatDoor
