/-
  NARROWER THAN 'FOR EVERY INPUT', by the rows' own cells (each row's printed sentence says how): PrefixMeets: laid · PrefixOrders: laid · GridTells: laid · GridWalks: laid · GridClimbs: laid · GridPlaces: laid · GridOver: laid · GridParents: laid.
  DERIVED. THE GIVEN ROWS OF THIS SEAT. 8 by the template 'for every input the law returns true; each argument reads behind the call as it read before'; 0 by the template 'total and deterministic' (their statements: YtgdonjndgjiocaaDoorTotals.lean).
  GIVEN WITH THE SEED: the statements are not yours to turn. If you find one false, say at which input.
  Laid BY PROGRAM, IN A SANDBOX (cutbox-rows.mjs): the forced cells as the released guide's own fill.sh prints them over the translation 89f7da3238023be6… (all of the seat's roots in one cut). By AI agents, Wed Nov 11 2026. No macro, syntax, notation, axiom, sorry.
-/
import Derived.Test.YtgdonjndgjiocaaDoorChecked
import GoSem.PinnedTables
import GoSem.Claim
import GoSem.ClaimJoined
import GoSem.ClaimMapViews
import Derived.JoinedTies
import Derived.KernelRfl
namespace Go.Proofs.YtgdonjndgjiocaaDoor
/- THE CELL 'sum', in the pinned program and in every row, IS THE sha256 OF THE DUMP (.gsa) THAT YtgdonjndgjiocaaDoorProg.lean LOADS. Nothing in Lean hashes anything: it is a label: what it is worth is what the hold of that sum in a sandbox is worth. -/
noncomputable def Tryd.pinned : Pinned := { name := "ytgdonjndgjiocaadoor", sum := "89f7da3238023be6c28e36055329cf7b967ace2eb02c1130076414367f6030b3", checked := Tryd.checked }
namespace Rows
def none {H : Type} : Left H := { results := [], args := [] }

/- WHAT THE LISTED PACKAGE-LEVEL VARIABLES READ AS WHEN THE CALL BEGINS. Each datum BY PROGRAM (the guide's laid-datum.mjs) off the statement by which the dump's own 'gosem.cut.vars' lays the variable. In a bare row this is a premise. The card (YtgdonjndgjiocaaDoorCards.lean) ties it to the program's text. -/
def laid_unicode_utf8_acceptRanges {H : Type} : DataW H := .agg [.agg [.lit (.int .u8 128), .lit (.int .u8 191)], .agg [.lit (.int .u8 160), .lit (.int .u8 191)], .agg [.lit (.int .u8 128), .lit (.int .u8 159)], .agg [.lit (.int .u8 144), .lit (.int .u8 191)], .agg [.lit (.int .u8 128), .lit (.int .u8 143)], .agg [.lit (.int .u8 0), .lit (.int .u8 0)], .agg [.lit (.int .u8 0), .lit (.int .u8 0)], .agg [.lit (.int .u8 0), .lit (.int .u8 0)], .agg [.lit (.int .u8 0), .lit (.int .u8 0)], .agg [.lit (.int .u8 0), .lit (.int .u8 0)], .agg [.lit (.int .u8 0), .lit (.int .u8 0)], .agg [.lit (.int .u8 0), .lit (.int .u8 0)], .agg [.lit (.int .u8 0), .lit (.int .u8 0)], .agg [.lit (.int .u8 0), .lit (.int .u8 0)], .agg [.lit (.int .u8 0), .lit (.int .u8 0)], .agg [.lit (.int .u8 0), .lit (.int .u8 0)]]
/-- One of Go's own tables, pinned by name: the form's constant. -/
def laid_unicode_utf8_first : DataW Unit := Go.Pinned.utf8First

/-- 'cribblelaw09.PrefixMeets': WHATEVER THE INPUT: true; the input reads as it did. -/
def prefixMeetsSpec : ChangeSpec := { name := "prefixMeets", fn := fun _ => fun
  | [d1, d2, d3, d4] => { results := [.lit (.bool true)], args := [d1, d2, d3, d4] }
  | _ => none }
def prefixMeetsRow : OpenClaim := { program := "ytgdonjndgjiocaadoor", sum := "89f7da3238023be6c28e36055329cf7b967ace2eb02c1130076414367f6030b3", func := "cribble/cribblelaw09.PrefixMeets", spec := "prefixMeets", inPlace := ["internal/bytealg.CountString", "internal/bytealg.IndexByteString", "internal/bytealg.IndexString", "internal/abi.NoEscape", "internal/bytealg.MakeNoZero", "internal/bytealg.abigen_runtime_cmpstring"], unfollowed := true, recurses := true, named := ["unicode/utf8.first", "unicode/utf8.acceptRanges", "internal/bytealg.MaxLen"], apart := false, laid := [("unicode/utf8.acceptRanges", laid_unicode_utf8_acceptRanges), ("unicode/utf8.first", laid_unicode_utf8_first)] }
def PrefixMeetsSaid : Prop := prefixMeetsRow.holds Tryd.pinned (OpenSpec.ofChange prefixMeetsSpec)

/-- ITS FALSE NEIGHBOUR: 'it returns false'. Refute it at one input. -/
def prefixMeetsWrong : ChangeSpec := { name := "prefixMeets", fn := fun _ => fun
  | [d1, d2, d3, d4] => { results := [.lit (.bool false)], args := [d1, d2, d3, d4] }
  | _ => none }
def PrefixMeetsWrongFalsely : Prop := prefixMeetsRow.holds Tryd.pinned (OpenSpec.ofChange prefixMeetsWrong)

/-- 'cribblelaw09.PrefixOrders': WHATEVER THE INPUT: true; the input reads as it did. -/
def prefixOrdersSpec : ChangeSpec := { name := "prefixOrders", fn := fun _ => fun
  | [d1, d2, d3] => { results := [.lit (.bool true)], args := [d1, d2, d3] }
  | _ => none }
def prefixOrdersRow : OpenClaim := { program := "ytgdonjndgjiocaadoor", sum := "89f7da3238023be6c28e36055329cf7b967ace2eb02c1130076414367f6030b3", func := "cribble/cribblelaw09.PrefixOrders", spec := "prefixOrders", inPlace := ["internal/bytealg.abigen_runtime_cmpstring", "internal/bytealg.CountString", "internal/bytealg.IndexByteString", "internal/bytealg.IndexString", "internal/abi.NoEscape", "internal/bytealg.MakeNoZero"], unfollowed := true, recurses := true, named := ["unicode/utf8.first", "unicode/utf8.acceptRanges", "internal/bytealg.MaxLen"], apart := false, laid := [("unicode/utf8.acceptRanges", laid_unicode_utf8_acceptRanges), ("unicode/utf8.first", laid_unicode_utf8_first)] }
def PrefixOrdersSaid : Prop := prefixOrdersRow.holds Tryd.pinned (OpenSpec.ofChange prefixOrdersSpec)

/-- ITS FALSE NEIGHBOUR: 'it returns false'. Refute it at one input. -/
def prefixOrdersWrong : ChangeSpec := { name := "prefixOrders", fn := fun _ => fun
  | [d1, d2, d3] => { results := [.lit (.bool false)], args := [d1, d2, d3] }
  | _ => none }
def PrefixOrdersWrongFalsely : Prop := prefixOrdersRow.holds Tryd.pinned (OpenSpec.ofChange prefixOrdersWrong)

/-- 'cribblelaw10.GridTells': WHATEVER THE INPUT: true; the input reads as it did. -/
def gridTellsSpec : ChangeSpec := { name := "gridTells", fn := fun _ => fun
  | [d1, d2, d3, d4] => { results := [.lit (.bool true)], args := [d1, d2, d3, d4] }
  | _ => none }
def gridTellsRow : OpenClaim := { program := "ytgdonjndgjiocaadoor", sum := "89f7da3238023be6c28e36055329cf7b967ace2eb02c1130076414367f6030b3", func := "cribble/cribblelaw10.GridTells", spec := "gridTells", inPlace := ["internal/bytealg.CountString", "internal/bytealg.IndexByteString", "internal/bytealg.IndexString", "internal/abi.NoEscape", "internal/bytealg.MakeNoZero"], unfollowed := true, recurses := true, named := ["unicode/utf8.first", "unicode/utf8.acceptRanges", "internal/bytealg.MaxLen"], apart := false, laid := [("unicode/utf8.acceptRanges", laid_unicode_utf8_acceptRanges), ("unicode/utf8.first", laid_unicode_utf8_first)] }
def GridTellsSaid : Prop := gridTellsRow.holds Tryd.pinned (OpenSpec.ofChange gridTellsSpec)

/-- ITS FALSE NEIGHBOUR: 'it returns false'. Refute it at one input. -/
def gridTellsWrong : ChangeSpec := { name := "gridTells", fn := fun _ => fun
  | [d1, d2, d3, d4] => { results := [.lit (.bool false)], args := [d1, d2, d3, d4] }
  | _ => none }
def GridTellsWrongFalsely : Prop := gridTellsRow.holds Tryd.pinned (OpenSpec.ofChange gridTellsWrong)

/-- 'cribblelaw10.GridWalks': WHATEVER THE INPUT: true; the input reads as it did. -/
def gridWalksSpec : ChangeSpec := { name := "gridWalks", fn := fun _ => fun
  | [d1, d2] => { results := [.lit (.bool true)], args := [d1, d2] }
  | _ => none }
def gridWalksRow : OpenClaim := { program := "ytgdonjndgjiocaadoor", sum := "89f7da3238023be6c28e36055329cf7b967ace2eb02c1130076414367f6030b3", func := "cribble/cribblelaw10.GridWalks", spec := "gridWalks", inPlace := ["internal/bytealg.CountString", "internal/bytealg.IndexByteString", "internal/bytealg.IndexString", "internal/abi.NoEscape", "internal/bytealg.MakeNoZero"], unfollowed := true, recurses := true, named := ["unicode/utf8.first", "unicode/utf8.acceptRanges", "internal/bytealg.MaxLen"], apart := false, laid := [("unicode/utf8.acceptRanges", laid_unicode_utf8_acceptRanges), ("unicode/utf8.first", laid_unicode_utf8_first)] }
def GridWalksSaid : Prop := gridWalksRow.holds Tryd.pinned (OpenSpec.ofChange gridWalksSpec)

/-- ITS FALSE NEIGHBOUR: 'it returns false'. Refute it at one input. -/
def gridWalksWrong : ChangeSpec := { name := "gridWalks", fn := fun _ => fun
  | [d1, d2] => { results := [.lit (.bool false)], args := [d1, d2] }
  | _ => none }
def GridWalksWrongFalsely : Prop := gridWalksRow.holds Tryd.pinned (OpenSpec.ofChange gridWalksWrong)

/-- 'cribblelaw10.GridClimbs': WHATEVER THE INPUT: true; the input reads as it did. -/
def gridClimbsSpec : ChangeSpec := { name := "gridClimbs", fn := fun _ => fun
  | [d1, d2] => { results := [.lit (.bool true)], args := [d1, d2] }
  | _ => none }
def gridClimbsRow : OpenClaim := { program := "ytgdonjndgjiocaadoor", sum := "89f7da3238023be6c28e36055329cf7b967ace2eb02c1130076414367f6030b3", func := "cribble/cribblelaw10.GridClimbs", spec := "gridClimbs", inPlace := ["internal/bytealg.CountString", "internal/bytealg.IndexByteString", "internal/bytealg.IndexString", "internal/abi.NoEscape", "internal/bytealg.MakeNoZero"], unfollowed := true, recurses := true, named := ["unicode/utf8.first", "unicode/utf8.acceptRanges", "internal/bytealg.MaxLen"], apart := false, laid := [("unicode/utf8.acceptRanges", laid_unicode_utf8_acceptRanges), ("unicode/utf8.first", laid_unicode_utf8_first)] }
def GridClimbsSaid : Prop := gridClimbsRow.holds Tryd.pinned (OpenSpec.ofChange gridClimbsSpec)

/-- ITS FALSE NEIGHBOUR: 'it returns false'. Refute it at one input. -/
def gridClimbsWrong : ChangeSpec := { name := "gridClimbs", fn := fun _ => fun
  | [d1, d2] => { results := [.lit (.bool false)], args := [d1, d2] }
  | _ => none }
def GridClimbsWrongFalsely : Prop := gridClimbsRow.holds Tryd.pinned (OpenSpec.ofChange gridClimbsWrong)

/-- 'cribblelaw10.GridPlaces': WHATEVER THE INPUT: true; the input reads as it did. -/
def gridPlacesSpec : ChangeSpec := { name := "gridPlaces", fn := fun _ => fun
  | [d1, d2, d3, d4] => { results := [.lit (.bool true)], args := [d1, d2, d3, d4] }
  | _ => none }
def gridPlacesRow : OpenClaim := { program := "ytgdonjndgjiocaadoor", sum := "89f7da3238023be6c28e36055329cf7b967ace2eb02c1130076414367f6030b3", func := "cribble/cribblelaw10.GridPlaces", spec := "gridPlaces", inPlace := ["internal/bytealg.CountString", "internal/bytealg.IndexByteString", "internal/bytealg.IndexString", "internal/abi.NoEscape", "internal/bytealg.MakeNoZero"], unfollowed := true, recurses := true, named := ["unicode/utf8.first", "unicode/utf8.acceptRanges", "internal/bytealg.MaxLen"], apart := false, laid := [("unicode/utf8.acceptRanges", laid_unicode_utf8_acceptRanges), ("unicode/utf8.first", laid_unicode_utf8_first)] }
def GridPlacesSaid : Prop := gridPlacesRow.holds Tryd.pinned (OpenSpec.ofChange gridPlacesSpec)

/-- ITS FALSE NEIGHBOUR: 'it returns false'. Refute it at one input. -/
def gridPlacesWrong : ChangeSpec := { name := "gridPlaces", fn := fun _ => fun
  | [d1, d2, d3, d4] => { results := [.lit (.bool false)], args := [d1, d2, d3, d4] }
  | _ => none }
def GridPlacesWrongFalsely : Prop := gridPlacesRow.holds Tryd.pinned (OpenSpec.ofChange gridPlacesWrong)

/-- 'cribblelaw10.GridOver': WHATEVER THE INPUT: true; the input reads as it did. -/
def gridOverSpec : ChangeSpec := { name := "gridOver", fn := fun _ => fun
  | [d1, d2, d3] => { results := [.lit (.bool true)], args := [d1, d2, d3] }
  | _ => none }
def gridOverRow : OpenClaim := { program := "ytgdonjndgjiocaadoor", sum := "89f7da3238023be6c28e36055329cf7b967ace2eb02c1130076414367f6030b3", func := "cribble/cribblelaw10.GridOver", spec := "gridOver", inPlace := ["internal/bytealg.CountString", "internal/bytealg.IndexByteString", "internal/bytealg.IndexString", "internal/abi.NoEscape", "internal/bytealg.MakeNoZero"], unfollowed := true, recurses := true, named := ["unicode/utf8.first", "unicode/utf8.acceptRanges", "internal/bytealg.MaxLen"], apart := false, laid := [("unicode/utf8.acceptRanges", laid_unicode_utf8_acceptRanges), ("unicode/utf8.first", laid_unicode_utf8_first)] }
def GridOverSaid : Prop := gridOverRow.holds Tryd.pinned (OpenSpec.ofChange gridOverSpec)

/-- ITS FALSE NEIGHBOUR: 'it returns false'. Refute it at one input. -/
def gridOverWrong : ChangeSpec := { name := "gridOver", fn := fun _ => fun
  | [d1, d2, d3] => { results := [.lit (.bool false)], args := [d1, d2, d3] }
  | _ => none }
def GridOverWrongFalsely : Prop := gridOverRow.holds Tryd.pinned (OpenSpec.ofChange gridOverWrong)

/-- 'cribblelaw10.GridParents': WHATEVER THE INPUT: true; the input reads as it did. -/
def gridParentsSpec : ChangeSpec := { name := "gridParents", fn := fun _ => fun
  | [d1, d2, d3] => { results := [.lit (.bool true)], args := [d1, d2, d3] }
  | _ => none }
def gridParentsRow : OpenClaim := { program := "ytgdonjndgjiocaadoor", sum := "89f7da3238023be6c28e36055329cf7b967ace2eb02c1130076414367f6030b3", func := "cribble/cribblelaw10.GridParents", spec := "gridParents", inPlace := ["internal/bytealg.CountString", "internal/bytealg.IndexByteString", "internal/bytealg.IndexString", "internal/abi.NoEscape", "internal/bytealg.MakeNoZero"], unfollowed := true, recurses := true, named := ["unicode/utf8.first", "unicode/utf8.acceptRanges", "internal/bytealg.MaxLen"], apart := false, laid := [("unicode/utf8.acceptRanges", laid_unicode_utf8_acceptRanges), ("unicode/utf8.first", laid_unicode_utf8_first)] }
def GridParentsSaid : Prop := gridParentsRow.holds Tryd.pinned (OpenSpec.ofChange gridParentsSpec)

/-- ITS FALSE NEIGHBOUR: 'it returns false'. Refute it at one input. -/
def gridParentsWrong : ChangeSpec := { name := "gridParents", fn := fun _ => fun
  | [d1, d2, d3] => { results := [.lit (.bool false)], args := [d1, d2, d3] }
  | _ => none }
def GridParentsWrongFalsely : Prop := gridParentsRow.holds Tryd.pinned (OpenSpec.ofChange gridParentsWrong)

/- THE SECOND FORM. 'bulk': how many values and letters a reading holds, each counted each time it is reached (what is shared counts as often as it is met; a slice's spare places count too). A statement '..UptoSaid' is the law's where the arguments, and the package variables that the reading takes, are together of bulk at most 1048576: NARROWER than '..Said'. Prove '..Said' where nothing that the law and all that it calls make is longer than what came in: it says more and counts as full. Else prove '..UptoSaid'. A law counts once. -/
mutual
def uptoBulk {H : Type} : DataW H → Nat
  | .lit (.string bytes) => bytes.length + 1
  | .lit _ => 1
  | .nil => 1
  | .ptr d => uptoBulk d + 1
  | .slice elems spare => uptoBulkAll elems + uptoBulkAll spare + 1
  | .agg parts => uptoBulkAll parts + 1
  | .iface _ d => uptoBulk d + 1
  | .map entries => uptoBulkEntries entries + 1
  | .held _ => 1
def uptoBulkAll {H : Type} : List (DataW H) → Nat
  | [] => 0
  | d :: r => uptoBulk d + uptoBulkAll r
def uptoBulkEntries {H : Type} : List (Lit × DataW H) → Nat
  | [] => 0
  | x :: r => uptoBulkEntry x + uptoBulkEntries r
def uptoBulkEntry {H : Type} : Lit × DataW H → Nat
  | (.string bytes, d) => bytes.length + uptoBulk d + 1
  | (_, d) => uptoBulk d + 1
 end
def uptoSmall : (H : Type) → List (DataW H) → Bool := fun _ ds => decide (uptoBulkAll ds ≤ 1048576)
def OpenSpec.upto (s : _root_.Go.ChangeSpec) : _root_.Go.OpenSpec := { _root_.Go.OpenSpec.ofChange s with cond := some uptoSmall }

/-- 'cribblelaw09.PrefixMeets', WHERE WHAT IT READS IS OF BULK AT MOST 1048576: true; the input reads as it did. -/
def prefixMeetsUptoRow : OpenClaim := { program := "ytgdonjndgjiocaadoor", sum := "89f7da3238023be6c28e36055329cf7b967ace2eb02c1130076414367f6030b3", func := "cribble/cribblelaw09.PrefixMeets", spec := "prefixMeets", inPlace := ["internal/bytealg.CountString", "internal/bytealg.IndexByteString", "internal/bytealg.IndexString", "internal/abi.NoEscape", "internal/bytealg.MakeNoZero", "internal/bytealg.abigen_runtime_cmpstring"], unfollowed := true, recurses := true, named := ["unicode/utf8.first", "unicode/utf8.acceptRanges", "internal/bytealg.MaxLen"], apart := false, laid := [("unicode/utf8.acceptRanges", laid_unicode_utf8_acceptRanges), ("unicode/utf8.first", laid_unicode_utf8_first)], narrowed := true }
def PrefixMeetsUptoSaid : Prop := prefixMeetsUptoRow.holds Tryd.pinned (OpenSpec.upto prefixMeetsSpec)

/-- 'cribblelaw09.PrefixOrders', WHERE WHAT IT READS IS OF BULK AT MOST 1048576: true; the input reads as it did. -/
def prefixOrdersUptoRow : OpenClaim := { program := "ytgdonjndgjiocaadoor", sum := "89f7da3238023be6c28e36055329cf7b967ace2eb02c1130076414367f6030b3", func := "cribble/cribblelaw09.PrefixOrders", spec := "prefixOrders", inPlace := ["internal/bytealg.abigen_runtime_cmpstring", "internal/bytealg.CountString", "internal/bytealg.IndexByteString", "internal/bytealg.IndexString", "internal/abi.NoEscape", "internal/bytealg.MakeNoZero"], unfollowed := true, recurses := true, named := ["unicode/utf8.first", "unicode/utf8.acceptRanges", "internal/bytealg.MaxLen"], apart := false, laid := [("unicode/utf8.acceptRanges", laid_unicode_utf8_acceptRanges), ("unicode/utf8.first", laid_unicode_utf8_first)], narrowed := true }
def PrefixOrdersUptoSaid : Prop := prefixOrdersUptoRow.holds Tryd.pinned (OpenSpec.upto prefixOrdersSpec)

/-- 'cribblelaw10.GridTells', WHERE WHAT IT READS IS OF BULK AT MOST 1048576: true; the input reads as it did. -/
def gridTellsUptoRow : OpenClaim := { program := "ytgdonjndgjiocaadoor", sum := "89f7da3238023be6c28e36055329cf7b967ace2eb02c1130076414367f6030b3", func := "cribble/cribblelaw10.GridTells", spec := "gridTells", inPlace := ["internal/bytealg.CountString", "internal/bytealg.IndexByteString", "internal/bytealg.IndexString", "internal/abi.NoEscape", "internal/bytealg.MakeNoZero"], unfollowed := true, recurses := true, named := ["unicode/utf8.first", "unicode/utf8.acceptRanges", "internal/bytealg.MaxLen"], apart := false, laid := [("unicode/utf8.acceptRanges", laid_unicode_utf8_acceptRanges), ("unicode/utf8.first", laid_unicode_utf8_first)], narrowed := true }
def GridTellsUptoSaid : Prop := gridTellsUptoRow.holds Tryd.pinned (OpenSpec.upto gridTellsSpec)

/-- 'cribblelaw10.GridWalks', WHERE WHAT IT READS IS OF BULK AT MOST 1048576: true; the input reads as it did. -/
def gridWalksUptoRow : OpenClaim := { program := "ytgdonjndgjiocaadoor", sum := "89f7da3238023be6c28e36055329cf7b967ace2eb02c1130076414367f6030b3", func := "cribble/cribblelaw10.GridWalks", spec := "gridWalks", inPlace := ["internal/bytealg.CountString", "internal/bytealg.IndexByteString", "internal/bytealg.IndexString", "internal/abi.NoEscape", "internal/bytealg.MakeNoZero"], unfollowed := true, recurses := true, named := ["unicode/utf8.first", "unicode/utf8.acceptRanges", "internal/bytealg.MaxLen"], apart := false, laid := [("unicode/utf8.acceptRanges", laid_unicode_utf8_acceptRanges), ("unicode/utf8.first", laid_unicode_utf8_first)], narrowed := true }
def GridWalksUptoSaid : Prop := gridWalksUptoRow.holds Tryd.pinned (OpenSpec.upto gridWalksSpec)

/-- 'cribblelaw10.GridClimbs', WHERE WHAT IT READS IS OF BULK AT MOST 1048576: true; the input reads as it did. -/
def gridClimbsUptoRow : OpenClaim := { program := "ytgdonjndgjiocaadoor", sum := "89f7da3238023be6c28e36055329cf7b967ace2eb02c1130076414367f6030b3", func := "cribble/cribblelaw10.GridClimbs", spec := "gridClimbs", inPlace := ["internal/bytealg.CountString", "internal/bytealg.IndexByteString", "internal/bytealg.IndexString", "internal/abi.NoEscape", "internal/bytealg.MakeNoZero"], unfollowed := true, recurses := true, named := ["unicode/utf8.first", "unicode/utf8.acceptRanges", "internal/bytealg.MaxLen"], apart := false, laid := [("unicode/utf8.acceptRanges", laid_unicode_utf8_acceptRanges), ("unicode/utf8.first", laid_unicode_utf8_first)], narrowed := true }
def GridClimbsUptoSaid : Prop := gridClimbsUptoRow.holds Tryd.pinned (OpenSpec.upto gridClimbsSpec)

/-- 'cribblelaw10.GridPlaces', WHERE WHAT IT READS IS OF BULK AT MOST 1048576: true; the input reads as it did. -/
def gridPlacesUptoRow : OpenClaim := { program := "ytgdonjndgjiocaadoor", sum := "89f7da3238023be6c28e36055329cf7b967ace2eb02c1130076414367f6030b3", func := "cribble/cribblelaw10.GridPlaces", spec := "gridPlaces", inPlace := ["internal/bytealg.CountString", "internal/bytealg.IndexByteString", "internal/bytealg.IndexString", "internal/abi.NoEscape", "internal/bytealg.MakeNoZero"], unfollowed := true, recurses := true, named := ["unicode/utf8.first", "unicode/utf8.acceptRanges", "internal/bytealg.MaxLen"], apart := false, laid := [("unicode/utf8.acceptRanges", laid_unicode_utf8_acceptRanges), ("unicode/utf8.first", laid_unicode_utf8_first)], narrowed := true }
def GridPlacesUptoSaid : Prop := gridPlacesUptoRow.holds Tryd.pinned (OpenSpec.upto gridPlacesSpec)

/-- 'cribblelaw10.GridOver', WHERE WHAT IT READS IS OF BULK AT MOST 1048576: true; the input reads as it did. -/
def gridOverUptoRow : OpenClaim := { program := "ytgdonjndgjiocaadoor", sum := "89f7da3238023be6c28e36055329cf7b967ace2eb02c1130076414367f6030b3", func := "cribble/cribblelaw10.GridOver", spec := "gridOver", inPlace := ["internal/bytealg.CountString", "internal/bytealg.IndexByteString", "internal/bytealg.IndexString", "internal/abi.NoEscape", "internal/bytealg.MakeNoZero"], unfollowed := true, recurses := true, named := ["unicode/utf8.first", "unicode/utf8.acceptRanges", "internal/bytealg.MaxLen"], apart := false, laid := [("unicode/utf8.acceptRanges", laid_unicode_utf8_acceptRanges), ("unicode/utf8.first", laid_unicode_utf8_first)], narrowed := true }
def GridOverUptoSaid : Prop := gridOverUptoRow.holds Tryd.pinned (OpenSpec.upto gridOverSpec)

/-- 'cribblelaw10.GridParents', WHERE WHAT IT READS IS OF BULK AT MOST 1048576: true; the input reads as it did. -/
def gridParentsUptoRow : OpenClaim := { program := "ytgdonjndgjiocaadoor", sum := "89f7da3238023be6c28e36055329cf7b967ace2eb02c1130076414367f6030b3", func := "cribble/cribblelaw10.GridParents", spec := "gridParents", inPlace := ["internal/bytealg.CountString", "internal/bytealg.IndexByteString", "internal/bytealg.IndexString", "internal/abi.NoEscape", "internal/bytealg.MakeNoZero"], unfollowed := true, recurses := true, named := ["unicode/utf8.first", "unicode/utf8.acceptRanges", "internal/bytealg.MaxLen"], apart := false, laid := [("unicode/utf8.acceptRanges", laid_unicode_utf8_acceptRanges), ("unicode/utf8.first", laid_unicode_utf8_first)], narrowed := true }
def GridParentsUptoSaid : Prop := gridParentsUptoRow.holds Tryd.pinned (OpenSpec.upto gridParentsSpec)

end Rows
end Go.Proofs.YtgdonjndgjiocaaDoor
