/-
  NARROWER THAN 'FOR EVERY INPUT', by the rows' own cells (each row's printed sentence says how): KeyCuts: laid · KeyOrders: laid · KeyChain: laid · KeyCutBack: laid · KeyMeets: laid · KeyBlock: laid · KeyUps: laid · PrefixTells: laid · PrefixUps: laid · PrefixCrosses: laid · PrefixChain: laid · PrefixOne: laid.
  DERIVED. THE GIVEN ROWS OF THIS SEAT. 12 by the template 'for every input the law returns true; each argument reads behind the call as it read before'; 0 by the template 'total and deterministic' (their statements: YtoicobnbggkgbaaDoorTotals.lean).
  GIVEN WITH THE SEED: the statements are not yours to turn. If you find one false, say at which input.
  Laid BY PROGRAM, IN A SANDBOX (cutbox-rows.mjs): the forced cells as the released guide's own fill.sh prints them over the translation e8dab7b69cd37362… (all of the seat's roots in one cut). By AI agents, Wed Nov 11 2026. No macro, syntax, notation, axiom, sorry.
-/
import Derived.Test.YtoicobnbggkgbaaDoorChecked
import GoSem.PinnedTables
import GoSem.Claim
import GoSem.ClaimJoined
import GoSem.ClaimMapViews
import Derived.JoinedTies
import Derived.KernelRfl
namespace Go.Proofs.YtoicobnbggkgbaaDoor
/- THE CELL 'sum', in the pinned program and in every row, IS THE sha256 OF THE DUMP (.gsa) THAT YtoicobnbggkgbaaDoorProg.lean LOADS. Nothing in Lean hashes anything: it is a label: what it is worth is what the hold of that sum in a sandbox is worth. -/
noncomputable def Tryd.pinned : Pinned := { name := "ytoicobnbggkgbaadoor", sum := "e8dab7b69cd37362b0c08329b06d1f6f81b1fb708818aeb714221cbdfd844449", checked := Tryd.checked }
namespace Rows
def none {H : Type} : Left H := { results := [], args := [] }

/- WHAT THE LISTED PACKAGE-LEVEL VARIABLES READ AS WHEN THE CALL BEGINS. Each datum BY PROGRAM (the guide's laid-datum.mjs) off the statement by which the dump's own 'gosem.cut.vars' lays the variable. In a bare row this is a premise. The card (YtoicobnbggkgbaaDoorCards.lean) ties it to the program's text. -/
def laid_unicode_utf8_acceptRanges {H : Type} : DataW H := .agg [.agg [.lit (.int .u8 128), .lit (.int .u8 191)], .agg [.lit (.int .u8 160), .lit (.int .u8 191)], .agg [.lit (.int .u8 128), .lit (.int .u8 159)], .agg [.lit (.int .u8 144), .lit (.int .u8 191)], .agg [.lit (.int .u8 128), .lit (.int .u8 143)], .agg [.lit (.int .u8 0), .lit (.int .u8 0)], .agg [.lit (.int .u8 0), .lit (.int .u8 0)], .agg [.lit (.int .u8 0), .lit (.int .u8 0)], .agg [.lit (.int .u8 0), .lit (.int .u8 0)], .agg [.lit (.int .u8 0), .lit (.int .u8 0)], .agg [.lit (.int .u8 0), .lit (.int .u8 0)], .agg [.lit (.int .u8 0), .lit (.int .u8 0)], .agg [.lit (.int .u8 0), .lit (.int .u8 0)], .agg [.lit (.int .u8 0), .lit (.int .u8 0)], .agg [.lit (.int .u8 0), .lit (.int .u8 0)], .agg [.lit (.int .u8 0), .lit (.int .u8 0)]]
/-- One of Go's own tables, pinned by name: the form's constant. -/
def laid_unicode_utf8_first : DataW Unit := Go.Pinned.utf8First

/-- 'cribblelaw07.KeyCuts': WHATEVER THE INPUT: true; the input reads as it did. -/
def keyCutsSpec : ChangeSpec := { name := "keyCuts", fn := fun _ => fun
  | [d1, d2, d3] => { results := [.lit (.bool true)], args := [d1, d2, d3] }
  | _ => none }
def keyCutsRow : OpenClaim := { program := "ytoicobnbggkgbaadoor", sum := "e8dab7b69cd37362b0c08329b06d1f6f81b1fb708818aeb714221cbdfd844449", func := "cribble/cribblelaw07.KeyCuts", spec := "keyCuts", inPlace := ["internal/bytealg.CountString", "internal/bytealg.IndexByteString", "internal/bytealg.IndexString", "internal/abi.NoEscape", "internal/bytealg.MakeNoZero", "internal/bytealg.abigen_runtime_cmpstring"], unfollowed := true, recurses := true, named := ["unicode/utf8.first", "unicode/utf8.acceptRanges", "internal/bytealg.MaxLen"], apart := false, laid := [("unicode/utf8.acceptRanges", laid_unicode_utf8_acceptRanges), ("unicode/utf8.first", laid_unicode_utf8_first)] }
def KeyCutsSaid : Prop := keyCutsRow.holds Tryd.pinned (OpenSpec.ofChange keyCutsSpec)

/-- ITS FALSE NEIGHBOUR: 'it returns false'. Refute it at one input. -/
def keyCutsWrong : ChangeSpec := { name := "keyCuts", fn := fun _ => fun
  | [d1, d2, d3] => { results := [.lit (.bool false)], args := [d1, d2, d3] }
  | _ => none }
def KeyCutsWrongFalsely : Prop := keyCutsRow.holds Tryd.pinned (OpenSpec.ofChange keyCutsWrong)

/-- 'cribblelaw07.KeyOrders': WHATEVER THE INPUT: true; the input reads as it did. -/
def keyOrdersSpec : ChangeSpec := { name := "keyOrders", fn := fun _ => fun
  | [d1, d2] => { results := [.lit (.bool true)], args := [d1, d2] }
  | _ => none }
def keyOrdersRow : OpenClaim := { program := "ytoicobnbggkgbaadoor", sum := "e8dab7b69cd37362b0c08329b06d1f6f81b1fb708818aeb714221cbdfd844449", func := "cribble/cribblelaw07.KeyOrders", spec := "keyOrders", inPlace := ["internal/bytealg.CountString", "internal/bytealg.IndexByteString", "internal/bytealg.IndexString", "internal/abi.NoEscape", "internal/bytealg.MakeNoZero", "internal/bytealg.abigen_runtime_cmpstring"], unfollowed := true, recurses := true, named := ["unicode/utf8.first", "unicode/utf8.acceptRanges", "internal/bytealg.MaxLen"], apart := false, laid := [("unicode/utf8.acceptRanges", laid_unicode_utf8_acceptRanges), ("unicode/utf8.first", laid_unicode_utf8_first)] }
def KeyOrdersSaid : Prop := keyOrdersRow.holds Tryd.pinned (OpenSpec.ofChange keyOrdersSpec)

/-- ITS FALSE NEIGHBOUR: 'it returns false'. Refute it at one input. -/
def keyOrdersWrong : ChangeSpec := { name := "keyOrders", fn := fun _ => fun
  | [d1, d2] => { results := [.lit (.bool false)], args := [d1, d2] }
  | _ => none }
def KeyOrdersWrongFalsely : Prop := keyOrdersRow.holds Tryd.pinned (OpenSpec.ofChange keyOrdersWrong)

/-- 'cribblelaw07.KeyChain': WHATEVER THE INPUT: true; the input reads as it did. -/
def keyChainSpec : ChangeSpec := { name := "keyChain", fn := fun _ => fun
  | [d1, d2, d3] => { results := [.lit (.bool true)], args := [d1, d2, d3] }
  | _ => none }
def keyChainRow : OpenClaim := { program := "ytoicobnbggkgbaadoor", sum := "e8dab7b69cd37362b0c08329b06d1f6f81b1fb708818aeb714221cbdfd844449", func := "cribble/cribblelaw07.KeyChain", spec := "keyChain", inPlace := ["internal/bytealg.CountString", "internal/bytealg.IndexByteString", "internal/bytealg.IndexString", "internal/abi.NoEscape", "internal/bytealg.MakeNoZero", "internal/bytealg.abigen_runtime_cmpstring"], unfollowed := true, recurses := true, named := ["unicode/utf8.first", "unicode/utf8.acceptRanges", "internal/bytealg.MaxLen"], apart := false, laid := [("unicode/utf8.acceptRanges", laid_unicode_utf8_acceptRanges), ("unicode/utf8.first", laid_unicode_utf8_first)] }
def KeyChainSaid : Prop := keyChainRow.holds Tryd.pinned (OpenSpec.ofChange keyChainSpec)

/-- ITS FALSE NEIGHBOUR: 'it returns false'. Refute it at one input. -/
def keyChainWrong : ChangeSpec := { name := "keyChain", fn := fun _ => fun
  | [d1, d2, d3] => { results := [.lit (.bool false)], args := [d1, d2, d3] }
  | _ => none }
def KeyChainWrongFalsely : Prop := keyChainRow.holds Tryd.pinned (OpenSpec.ofChange keyChainWrong)

/-- 'cribblelaw07.KeyCutBack': WHATEVER THE INPUT: true; the input reads as it did. -/
def keyCutBackSpec : ChangeSpec := { name := "keyCutBack", fn := fun _ => fun
  | [d1, d2, d3, d4] => { results := [.lit (.bool true)], args := [d1, d2, d3, d4] }
  | _ => none }
def keyCutBackRow : OpenClaim := { program := "ytoicobnbggkgbaadoor", sum := "e8dab7b69cd37362b0c08329b06d1f6f81b1fb708818aeb714221cbdfd844449", func := "cribble/cribblelaw07.KeyCutBack", spec := "keyCutBack", inPlace := ["internal/bytealg.CountString", "internal/bytealg.IndexByteString", "internal/bytealg.IndexString", "internal/abi.NoEscape", "internal/bytealg.MakeNoZero", "internal/bytealg.abigen_runtime_cmpstring"], unfollowed := true, recurses := true, named := ["unicode/utf8.first", "unicode/utf8.acceptRanges", "internal/bytealg.MaxLen"], apart := false, laid := [("unicode/utf8.acceptRanges", laid_unicode_utf8_acceptRanges), ("unicode/utf8.first", laid_unicode_utf8_first)] }
def KeyCutBackSaid : Prop := keyCutBackRow.holds Tryd.pinned (OpenSpec.ofChange keyCutBackSpec)

/-- ITS FALSE NEIGHBOUR: 'it returns false'. Refute it at one input. -/
def keyCutBackWrong : ChangeSpec := { name := "keyCutBack", fn := fun _ => fun
  | [d1, d2, d3, d4] => { results := [.lit (.bool false)], args := [d1, d2, d3, d4] }
  | _ => none }
def KeyCutBackWrongFalsely : Prop := keyCutBackRow.holds Tryd.pinned (OpenSpec.ofChange keyCutBackWrong)

/-- 'cribblelaw07.KeyMeets': WHATEVER THE INPUT: true; the input reads as it did. -/
def keyMeetsSpec : ChangeSpec := { name := "keyMeets", fn := fun _ => fun
  | [d1, d2, d3] => { results := [.lit (.bool true)], args := [d1, d2, d3] }
  | _ => none }
def keyMeetsRow : OpenClaim := { program := "ytoicobnbggkgbaadoor", sum := "e8dab7b69cd37362b0c08329b06d1f6f81b1fb708818aeb714221cbdfd844449", func := "cribble/cribblelaw07.KeyMeets", spec := "keyMeets", inPlace := ["internal/bytealg.CountString", "internal/bytealg.IndexByteString", "internal/bytealg.IndexString", "internal/abi.NoEscape", "internal/bytealg.MakeNoZero", "internal/bytealg.abigen_runtime_cmpstring"], unfollowed := true, recurses := true, named := ["unicode/utf8.first", "unicode/utf8.acceptRanges", "internal/bytealg.MaxLen"], apart := false, laid := [("unicode/utf8.acceptRanges", laid_unicode_utf8_acceptRanges), ("unicode/utf8.first", laid_unicode_utf8_first)] }
def KeyMeetsSaid : Prop := keyMeetsRow.holds Tryd.pinned (OpenSpec.ofChange keyMeetsSpec)

/-- ITS FALSE NEIGHBOUR: 'it returns false'. Refute it at one input. -/
def keyMeetsWrong : ChangeSpec := { name := "keyMeets", fn := fun _ => fun
  | [d1, d2, d3] => { results := [.lit (.bool false)], args := [d1, d2, d3] }
  | _ => none }
def KeyMeetsWrongFalsely : Prop := keyMeetsRow.holds Tryd.pinned (OpenSpec.ofChange keyMeetsWrong)

/-- 'cribblelaw07.KeyBlock': WHATEVER THE INPUT: true; the input reads as it did. -/
def keyBlockSpec : ChangeSpec := { name := "keyBlock", fn := fun _ => fun
  | [d1, d2, d3] => { results := [.lit (.bool true)], args := [d1, d2, d3] }
  | _ => none }
def keyBlockRow : OpenClaim := { program := "ytoicobnbggkgbaadoor", sum := "e8dab7b69cd37362b0c08329b06d1f6f81b1fb708818aeb714221cbdfd844449", func := "cribble/cribblelaw07.KeyBlock", spec := "keyBlock", inPlace := ["internal/bytealg.CountString", "internal/bytealg.IndexByteString", "internal/bytealg.IndexString", "internal/abi.NoEscape", "internal/bytealg.MakeNoZero", "internal/bytealg.abigen_runtime_cmpstring"], unfollowed := true, recurses := true, named := ["unicode/utf8.first", "unicode/utf8.acceptRanges", "internal/bytealg.MaxLen"], apart := false, laid := [("unicode/utf8.acceptRanges", laid_unicode_utf8_acceptRanges), ("unicode/utf8.first", laid_unicode_utf8_first)] }
def KeyBlockSaid : Prop := keyBlockRow.holds Tryd.pinned (OpenSpec.ofChange keyBlockSpec)

/-- ITS FALSE NEIGHBOUR: 'it returns false'. Refute it at one input. -/
def keyBlockWrong : ChangeSpec := { name := "keyBlock", fn := fun _ => fun
  | [d1, d2, d3] => { results := [.lit (.bool false)], args := [d1, d2, d3] }
  | _ => none }
def KeyBlockWrongFalsely : Prop := keyBlockRow.holds Tryd.pinned (OpenSpec.ofChange keyBlockWrong)

/-- 'cribblelaw07.KeyUps': WHATEVER THE INPUT: true; the input reads as it did. -/
def keyUpsSpec : ChangeSpec := { name := "keyUps", fn := fun _ => fun
  | [d1, d2] => { results := [.lit (.bool true)], args := [d1, d2] }
  | _ => none }
def keyUpsRow : OpenClaim := { program := "ytoicobnbggkgbaadoor", sum := "e8dab7b69cd37362b0c08329b06d1f6f81b1fb708818aeb714221cbdfd844449", func := "cribble/cribblelaw07.KeyUps", spec := "keyUps", inPlace := ["internal/bytealg.CountString", "internal/bytealg.IndexByteString", "internal/bytealg.IndexString", "internal/abi.NoEscape", "internal/bytealg.MakeNoZero", "internal/bytealg.abigen_runtime_cmpstring"], unfollowed := true, recurses := true, named := ["unicode/utf8.first", "unicode/utf8.acceptRanges", "internal/bytealg.MaxLen"], apart := false, laid := [("unicode/utf8.acceptRanges", laid_unicode_utf8_acceptRanges), ("unicode/utf8.first", laid_unicode_utf8_first)] }
def KeyUpsSaid : Prop := keyUpsRow.holds Tryd.pinned (OpenSpec.ofChange keyUpsSpec)

/-- ITS FALSE NEIGHBOUR: 'it returns false'. Refute it at one input. -/
def keyUpsWrong : ChangeSpec := { name := "keyUps", fn := fun _ => fun
  | [d1, d2] => { results := [.lit (.bool false)], args := [d1, d2] }
  | _ => none }
def KeyUpsWrongFalsely : Prop := keyUpsRow.holds Tryd.pinned (OpenSpec.ofChange keyUpsWrong)

/-- 'cribblelaw09.PrefixTells': WHATEVER THE INPUT: true; the input reads as it did. -/
def prefixTellsSpec : ChangeSpec := { name := "prefixTells", fn := fun _ => fun
  | [d1, d2] => { results := [.lit (.bool true)], args := [d1, d2] }
  | _ => none }
def prefixTellsRow : OpenClaim := { program := "ytoicobnbggkgbaadoor", sum := "e8dab7b69cd37362b0c08329b06d1f6f81b1fb708818aeb714221cbdfd844449", func := "cribble/cribblelaw09.PrefixTells", spec := "prefixTells", inPlace := ["internal/bytealg.CountString", "internal/bytealg.IndexByteString", "internal/bytealg.IndexString", "internal/abi.NoEscape", "internal/bytealg.MakeNoZero", "internal/bytealg.abigen_runtime_cmpstring"], unfollowed := true, recurses := true, named := ["unicode/utf8.first", "unicode/utf8.acceptRanges", "internal/bytealg.MaxLen"], apart := false, laid := [("unicode/utf8.acceptRanges", laid_unicode_utf8_acceptRanges), ("unicode/utf8.first", laid_unicode_utf8_first)] }
def PrefixTellsSaid : Prop := prefixTellsRow.holds Tryd.pinned (OpenSpec.ofChange prefixTellsSpec)

/-- ITS FALSE NEIGHBOUR: 'it returns false'. Refute it at one input. -/
def prefixTellsWrong : ChangeSpec := { name := "prefixTells", fn := fun _ => fun
  | [d1, d2] => { results := [.lit (.bool false)], args := [d1, d2] }
  | _ => none }
def PrefixTellsWrongFalsely : Prop := prefixTellsRow.holds Tryd.pinned (OpenSpec.ofChange prefixTellsWrong)

/-- 'cribblelaw09.PrefixUps': WHATEVER THE INPUT: true; the input reads as it did. -/
def prefixUpsSpec : ChangeSpec := { name := "prefixUps", fn := fun _ => fun
  | [d1, d2, d3, d4, d5] => { results := [.lit (.bool true)], args := [d1, d2, d3, d4, d5] }
  | _ => none }
def prefixUpsRow : OpenClaim := { program := "ytoicobnbggkgbaadoor", sum := "e8dab7b69cd37362b0c08329b06d1f6f81b1fb708818aeb714221cbdfd844449", func := "cribble/cribblelaw09.PrefixUps", spec := "prefixUps", inPlace := ["internal/bytealg.CountString", "internal/bytealg.IndexByteString", "internal/bytealg.IndexString", "internal/abi.NoEscape", "internal/bytealg.MakeNoZero", "internal/bytealg.abigen_runtime_cmpstring"], unfollowed := true, recurses := true, named := ["unicode/utf8.first", "unicode/utf8.acceptRanges", "internal/bytealg.MaxLen"], apart := false, laid := [("unicode/utf8.acceptRanges", laid_unicode_utf8_acceptRanges), ("unicode/utf8.first", laid_unicode_utf8_first)] }
def PrefixUpsSaid : Prop := prefixUpsRow.holds Tryd.pinned (OpenSpec.ofChange prefixUpsSpec)

/-- ITS FALSE NEIGHBOUR: 'it returns false'. Refute it at one input. -/
def prefixUpsWrong : ChangeSpec := { name := "prefixUps", fn := fun _ => fun
  | [d1, d2, d3, d4, d5] => { results := [.lit (.bool false)], args := [d1, d2, d3, d4, d5] }
  | _ => none }
def PrefixUpsWrongFalsely : Prop := prefixUpsRow.holds Tryd.pinned (OpenSpec.ofChange prefixUpsWrong)

/-- 'cribblelaw09.PrefixCrosses': WHATEVER THE INPUT: true; the input reads as it did. -/
def prefixCrossesSpec : ChangeSpec := { name := "prefixCrosses", fn := fun _ => fun
  | [d1, d2, d3] => { results := [.lit (.bool true)], args := [d1, d2, d3] }
  | _ => none }
def prefixCrossesRow : OpenClaim := { program := "ytoicobnbggkgbaadoor", sum := "e8dab7b69cd37362b0c08329b06d1f6f81b1fb708818aeb714221cbdfd844449", func := "cribble/cribblelaw09.PrefixCrosses", spec := "prefixCrosses", inPlace := ["internal/bytealg.CountString", "internal/bytealg.IndexByteString", "internal/bytealg.IndexString", "internal/abi.NoEscape", "internal/bytealg.MakeNoZero", "internal/bytealg.abigen_runtime_cmpstring"], unfollowed := true, recurses := true, named := ["unicode/utf8.first", "unicode/utf8.acceptRanges", "internal/bytealg.MaxLen"], apart := false, laid := [("unicode/utf8.acceptRanges", laid_unicode_utf8_acceptRanges), ("unicode/utf8.first", laid_unicode_utf8_first)] }
def PrefixCrossesSaid : Prop := prefixCrossesRow.holds Tryd.pinned (OpenSpec.ofChange prefixCrossesSpec)

/-- ITS FALSE NEIGHBOUR: 'it returns false'. Refute it at one input. -/
def prefixCrossesWrong : ChangeSpec := { name := "prefixCrosses", fn := fun _ => fun
  | [d1, d2, d3] => { results := [.lit (.bool false)], args := [d1, d2, d3] }
  | _ => none }
def PrefixCrossesWrongFalsely : Prop := prefixCrossesRow.holds Tryd.pinned (OpenSpec.ofChange prefixCrossesWrong)

/-- 'cribblelaw09.PrefixChain': WHATEVER THE INPUT: true; the input reads as it did. -/
def prefixChainSpec : ChangeSpec := { name := "prefixChain", fn := fun _ => fun
  | [d1, d2, d3, d4] => { results := [.lit (.bool true)], args := [d1, d2, d3, d4] }
  | _ => none }
def prefixChainRow : OpenClaim := { program := "ytoicobnbggkgbaadoor", sum := "e8dab7b69cd37362b0c08329b06d1f6f81b1fb708818aeb714221cbdfd844449", func := "cribble/cribblelaw09.PrefixChain", spec := "prefixChain", inPlace := ["internal/bytealg.CountString", "internal/bytealg.IndexByteString", "internal/bytealg.IndexString", "internal/abi.NoEscape", "internal/bytealg.MakeNoZero", "internal/bytealg.abigen_runtime_cmpstring"], unfollowed := true, recurses := true, named := ["unicode/utf8.first", "unicode/utf8.acceptRanges", "internal/bytealg.MaxLen"], apart := false, laid := [("unicode/utf8.acceptRanges", laid_unicode_utf8_acceptRanges), ("unicode/utf8.first", laid_unicode_utf8_first)] }
def PrefixChainSaid : Prop := prefixChainRow.holds Tryd.pinned (OpenSpec.ofChange prefixChainSpec)

/-- ITS FALSE NEIGHBOUR: 'it returns false'. Refute it at one input. -/
def prefixChainWrong : ChangeSpec := { name := "prefixChain", fn := fun _ => fun
  | [d1, d2, d3, d4] => { results := [.lit (.bool false)], args := [d1, d2, d3, d4] }
  | _ => none }
def PrefixChainWrongFalsely : Prop := prefixChainRow.holds Tryd.pinned (OpenSpec.ofChange prefixChainWrong)

/-- 'cribblelaw09.PrefixOne': WHATEVER THE INPUT: true; the input reads as it did. -/
def prefixOneSpec : ChangeSpec := { name := "prefixOne", fn := fun _ => fun
  | [d1, d2, d3, d4, d5] => { results := [.lit (.bool true)], args := [d1, d2, d3, d4, d5] }
  | _ => none }
def prefixOneRow : OpenClaim := { program := "ytoicobnbggkgbaadoor", sum := "e8dab7b69cd37362b0c08329b06d1f6f81b1fb708818aeb714221cbdfd844449", func := "cribble/cribblelaw09.PrefixOne", spec := "prefixOne", inPlace := ["internal/bytealg.CountString", "internal/bytealg.IndexByteString", "internal/bytealg.IndexString", "internal/abi.NoEscape", "internal/bytealg.MakeNoZero", "internal/bytealg.abigen_runtime_cmpstring"], unfollowed := true, recurses := true, named := ["unicode/utf8.first", "unicode/utf8.acceptRanges", "internal/bytealg.MaxLen"], apart := false, laid := [("unicode/utf8.acceptRanges", laid_unicode_utf8_acceptRanges), ("unicode/utf8.first", laid_unicode_utf8_first)] }
def PrefixOneSaid : Prop := prefixOneRow.holds Tryd.pinned (OpenSpec.ofChange prefixOneSpec)

/-- ITS FALSE NEIGHBOUR: 'it returns false'. Refute it at one input. -/
def prefixOneWrong : ChangeSpec := { name := "prefixOne", fn := fun _ => fun
  | [d1, d2, d3, d4, d5] => { results := [.lit (.bool false)], args := [d1, d2, d3, d4, d5] }
  | _ => none }
def PrefixOneWrongFalsely : Prop := prefixOneRow.holds Tryd.pinned (OpenSpec.ofChange prefixOneWrong)

/- THE SECOND FORM. 'bulk': how many values and letters a reading holds, each counted each time it is reached (what is shared counts as often as it is met; a slice's spare places count too). A statement '..UptoSaid' is the law's where the arguments, and the package variables that the reading takes, are together of bulk at most 1048576: NARROWER than '..Said'. Prove '..Said' where nothing that the law and all that it calls make is longer than what came in: it says more and counts as full. Else prove '..UptoSaid'. A law counts once. -/
mutual
def uptoBulk {H : Type} : DataW H → Nat
  | .lit (.string bytes) => bytes.length + 1
  | .lit _ => 1
  | .nil => 1
  | .ptr d => uptoBulk d + 1
  | .slice elems spare => uptoBulkAll elems + uptoBulkAll spare + 1
  | .agg parts => uptoBulkAll parts + 1
  | .iface _ d => uptoBulk d + 1
  | .map entries => uptoBulkEntries entries + 1
  | .held _ => 1
def uptoBulkAll {H : Type} : List (DataW H) → Nat
  | [] => 0
  | d :: r => uptoBulk d + uptoBulkAll r
def uptoBulkEntries {H : Type} : List (Lit × DataW H) → Nat
  | [] => 0
  | x :: r => uptoBulkEntry x + uptoBulkEntries r
def uptoBulkEntry {H : Type} : Lit × DataW H → Nat
  | (.string bytes, d) => bytes.length + uptoBulk d + 1
  | (_, d) => uptoBulk d + 1
 end
def uptoSmall : (H : Type) → List (DataW H) → Bool := fun _ ds => decide (uptoBulkAll ds ≤ 1048576)
def OpenSpec.upto (s : _root_.Go.ChangeSpec) : _root_.Go.OpenSpec := { _root_.Go.OpenSpec.ofChange s with cond := some uptoSmall }

/-- 'cribblelaw07.KeyCuts', WHERE WHAT IT READS IS OF BULK AT MOST 1048576: true; the input reads as it did. -/
def keyCutsUptoRow : OpenClaim := { program := "ytoicobnbggkgbaadoor", sum := "e8dab7b69cd37362b0c08329b06d1f6f81b1fb708818aeb714221cbdfd844449", func := "cribble/cribblelaw07.KeyCuts", spec := "keyCuts", inPlace := ["internal/bytealg.CountString", "internal/bytealg.IndexByteString", "internal/bytealg.IndexString", "internal/abi.NoEscape", "internal/bytealg.MakeNoZero", "internal/bytealg.abigen_runtime_cmpstring"], unfollowed := true, recurses := true, named := ["unicode/utf8.first", "unicode/utf8.acceptRanges", "internal/bytealg.MaxLen"], apart := false, laid := [("unicode/utf8.acceptRanges", laid_unicode_utf8_acceptRanges), ("unicode/utf8.first", laid_unicode_utf8_first)], narrowed := true }
def KeyCutsUptoSaid : Prop := keyCutsUptoRow.holds Tryd.pinned (OpenSpec.upto keyCutsSpec)

/-- 'cribblelaw07.KeyOrders', WHERE WHAT IT READS IS OF BULK AT MOST 1048576: true; the input reads as it did. -/
def keyOrdersUptoRow : OpenClaim := { program := "ytoicobnbggkgbaadoor", sum := "e8dab7b69cd37362b0c08329b06d1f6f81b1fb708818aeb714221cbdfd844449", func := "cribble/cribblelaw07.KeyOrders", spec := "keyOrders", inPlace := ["internal/bytealg.CountString", "internal/bytealg.IndexByteString", "internal/bytealg.IndexString", "internal/abi.NoEscape", "internal/bytealg.MakeNoZero", "internal/bytealg.abigen_runtime_cmpstring"], unfollowed := true, recurses := true, named := ["unicode/utf8.first", "unicode/utf8.acceptRanges", "internal/bytealg.MaxLen"], apart := false, laid := [("unicode/utf8.acceptRanges", laid_unicode_utf8_acceptRanges), ("unicode/utf8.first", laid_unicode_utf8_first)], narrowed := true }
def KeyOrdersUptoSaid : Prop := keyOrdersUptoRow.holds Tryd.pinned (OpenSpec.upto keyOrdersSpec)

/-- 'cribblelaw07.KeyChain', WHERE WHAT IT READS IS OF BULK AT MOST 1048576: true; the input reads as it did. -/
def keyChainUptoRow : OpenClaim := { program := "ytoicobnbggkgbaadoor", sum := "e8dab7b69cd37362b0c08329b06d1f6f81b1fb708818aeb714221cbdfd844449", func := "cribble/cribblelaw07.KeyChain", spec := "keyChain", inPlace := ["internal/bytealg.CountString", "internal/bytealg.IndexByteString", "internal/bytealg.IndexString", "internal/abi.NoEscape", "internal/bytealg.MakeNoZero", "internal/bytealg.abigen_runtime_cmpstring"], unfollowed := true, recurses := true, named := ["unicode/utf8.first", "unicode/utf8.acceptRanges", "internal/bytealg.MaxLen"], apart := false, laid := [("unicode/utf8.acceptRanges", laid_unicode_utf8_acceptRanges), ("unicode/utf8.first", laid_unicode_utf8_first)], narrowed := true }
def KeyChainUptoSaid : Prop := keyChainUptoRow.holds Tryd.pinned (OpenSpec.upto keyChainSpec)

/-- 'cribblelaw07.KeyCutBack', WHERE WHAT IT READS IS OF BULK AT MOST 1048576: true; the input reads as it did. -/
def keyCutBackUptoRow : OpenClaim := { program := "ytoicobnbggkgbaadoor", sum := "e8dab7b69cd37362b0c08329b06d1f6f81b1fb708818aeb714221cbdfd844449", func := "cribble/cribblelaw07.KeyCutBack", spec := "keyCutBack", inPlace := ["internal/bytealg.CountString", "internal/bytealg.IndexByteString", "internal/bytealg.IndexString", "internal/abi.NoEscape", "internal/bytealg.MakeNoZero", "internal/bytealg.abigen_runtime_cmpstring"], unfollowed := true, recurses := true, named := ["unicode/utf8.first", "unicode/utf8.acceptRanges", "internal/bytealg.MaxLen"], apart := false, laid := [("unicode/utf8.acceptRanges", laid_unicode_utf8_acceptRanges), ("unicode/utf8.first", laid_unicode_utf8_first)], narrowed := true }
def KeyCutBackUptoSaid : Prop := keyCutBackUptoRow.holds Tryd.pinned (OpenSpec.upto keyCutBackSpec)

/-- 'cribblelaw07.KeyMeets', WHERE WHAT IT READS IS OF BULK AT MOST 1048576: true; the input reads as it did. -/
def keyMeetsUptoRow : OpenClaim := { program := "ytoicobnbggkgbaadoor", sum := "e8dab7b69cd37362b0c08329b06d1f6f81b1fb708818aeb714221cbdfd844449", func := "cribble/cribblelaw07.KeyMeets", spec := "keyMeets", inPlace := ["internal/bytealg.CountString", "internal/bytealg.IndexByteString", "internal/bytealg.IndexString", "internal/abi.NoEscape", "internal/bytealg.MakeNoZero", "internal/bytealg.abigen_runtime_cmpstring"], unfollowed := true, recurses := true, named := ["unicode/utf8.first", "unicode/utf8.acceptRanges", "internal/bytealg.MaxLen"], apart := false, laid := [("unicode/utf8.acceptRanges", laid_unicode_utf8_acceptRanges), ("unicode/utf8.first", laid_unicode_utf8_first)], narrowed := true }
def KeyMeetsUptoSaid : Prop := keyMeetsUptoRow.holds Tryd.pinned (OpenSpec.upto keyMeetsSpec)

/-- 'cribblelaw07.KeyBlock', WHERE WHAT IT READS IS OF BULK AT MOST 1048576: true; the input reads as it did. -/
def keyBlockUptoRow : OpenClaim := { program := "ytoicobnbggkgbaadoor", sum := "e8dab7b69cd37362b0c08329b06d1f6f81b1fb708818aeb714221cbdfd844449", func := "cribble/cribblelaw07.KeyBlock", spec := "keyBlock", inPlace := ["internal/bytealg.CountString", "internal/bytealg.IndexByteString", "internal/bytealg.IndexString", "internal/abi.NoEscape", "internal/bytealg.MakeNoZero", "internal/bytealg.abigen_runtime_cmpstring"], unfollowed := true, recurses := true, named := ["unicode/utf8.first", "unicode/utf8.acceptRanges", "internal/bytealg.MaxLen"], apart := false, laid := [("unicode/utf8.acceptRanges", laid_unicode_utf8_acceptRanges), ("unicode/utf8.first", laid_unicode_utf8_first)], narrowed := true }
def KeyBlockUptoSaid : Prop := keyBlockUptoRow.holds Tryd.pinned (OpenSpec.upto keyBlockSpec)

/-- 'cribblelaw07.KeyUps', WHERE WHAT IT READS IS OF BULK AT MOST 1048576: true; the input reads as it did. -/
def keyUpsUptoRow : OpenClaim := { program := "ytoicobnbggkgbaadoor", sum := "e8dab7b69cd37362b0c08329b06d1f6f81b1fb708818aeb714221cbdfd844449", func := "cribble/cribblelaw07.KeyUps", spec := "keyUps", inPlace := ["internal/bytealg.CountString", "internal/bytealg.IndexByteString", "internal/bytealg.IndexString", "internal/abi.NoEscape", "internal/bytealg.MakeNoZero", "internal/bytealg.abigen_runtime_cmpstring"], unfollowed := true, recurses := true, named := ["unicode/utf8.first", "unicode/utf8.acceptRanges", "internal/bytealg.MaxLen"], apart := false, laid := [("unicode/utf8.acceptRanges", laid_unicode_utf8_acceptRanges), ("unicode/utf8.first", laid_unicode_utf8_first)], narrowed := true }
def KeyUpsUptoSaid : Prop := keyUpsUptoRow.holds Tryd.pinned (OpenSpec.upto keyUpsSpec)

/-- 'cribblelaw09.PrefixTells', WHERE WHAT IT READS IS OF BULK AT MOST 1048576: true; the input reads as it did. -/
def prefixTellsUptoRow : OpenClaim := { program := "ytoicobnbggkgbaadoor", sum := "e8dab7b69cd37362b0c08329b06d1f6f81b1fb708818aeb714221cbdfd844449", func := "cribble/cribblelaw09.PrefixTells", spec := "prefixTells", inPlace := ["internal/bytealg.CountString", "internal/bytealg.IndexByteString", "internal/bytealg.IndexString", "internal/abi.NoEscape", "internal/bytealg.MakeNoZero", "internal/bytealg.abigen_runtime_cmpstring"], unfollowed := true, recurses := true, named := ["unicode/utf8.first", "unicode/utf8.acceptRanges", "internal/bytealg.MaxLen"], apart := false, laid := [("unicode/utf8.acceptRanges", laid_unicode_utf8_acceptRanges), ("unicode/utf8.first", laid_unicode_utf8_first)], narrowed := true }
def PrefixTellsUptoSaid : Prop := prefixTellsUptoRow.holds Tryd.pinned (OpenSpec.upto prefixTellsSpec)

/-- 'cribblelaw09.PrefixUps', WHERE WHAT IT READS IS OF BULK AT MOST 1048576: true; the input reads as it did. -/
def prefixUpsUptoRow : OpenClaim := { program := "ytoicobnbggkgbaadoor", sum := "e8dab7b69cd37362b0c08329b06d1f6f81b1fb708818aeb714221cbdfd844449", func := "cribble/cribblelaw09.PrefixUps", spec := "prefixUps", inPlace := ["internal/bytealg.CountString", "internal/bytealg.IndexByteString", "internal/bytealg.IndexString", "internal/abi.NoEscape", "internal/bytealg.MakeNoZero", "internal/bytealg.abigen_runtime_cmpstring"], unfollowed := true, recurses := true, named := ["unicode/utf8.first", "unicode/utf8.acceptRanges", "internal/bytealg.MaxLen"], apart := false, laid := [("unicode/utf8.acceptRanges", laid_unicode_utf8_acceptRanges), ("unicode/utf8.first", laid_unicode_utf8_first)], narrowed := true }
def PrefixUpsUptoSaid : Prop := prefixUpsUptoRow.holds Tryd.pinned (OpenSpec.upto prefixUpsSpec)

/-- 'cribblelaw09.PrefixCrosses', WHERE WHAT IT READS IS OF BULK AT MOST 1048576: true; the input reads as it did. -/
def prefixCrossesUptoRow : OpenClaim := { program := "ytoicobnbggkgbaadoor", sum := "e8dab7b69cd37362b0c08329b06d1f6f81b1fb708818aeb714221cbdfd844449", func := "cribble/cribblelaw09.PrefixCrosses", spec := "prefixCrosses", inPlace := ["internal/bytealg.CountString", "internal/bytealg.IndexByteString", "internal/bytealg.IndexString", "internal/abi.NoEscape", "internal/bytealg.MakeNoZero", "internal/bytealg.abigen_runtime_cmpstring"], unfollowed := true, recurses := true, named := ["unicode/utf8.first", "unicode/utf8.acceptRanges", "internal/bytealg.MaxLen"], apart := false, laid := [("unicode/utf8.acceptRanges", laid_unicode_utf8_acceptRanges), ("unicode/utf8.first", laid_unicode_utf8_first)], narrowed := true }
def PrefixCrossesUptoSaid : Prop := prefixCrossesUptoRow.holds Tryd.pinned (OpenSpec.upto prefixCrossesSpec)

/-- 'cribblelaw09.PrefixChain', WHERE WHAT IT READS IS OF BULK AT MOST 1048576: true; the input reads as it did. -/
def prefixChainUptoRow : OpenClaim := { program := "ytoicobnbggkgbaadoor", sum := "e8dab7b69cd37362b0c08329b06d1f6f81b1fb708818aeb714221cbdfd844449", func := "cribble/cribblelaw09.PrefixChain", spec := "prefixChain", inPlace := ["internal/bytealg.CountString", "internal/bytealg.IndexByteString", "internal/bytealg.IndexString", "internal/abi.NoEscape", "internal/bytealg.MakeNoZero", "internal/bytealg.abigen_runtime_cmpstring"], unfollowed := true, recurses := true, named := ["unicode/utf8.first", "unicode/utf8.acceptRanges", "internal/bytealg.MaxLen"], apart := false, laid := [("unicode/utf8.acceptRanges", laid_unicode_utf8_acceptRanges), ("unicode/utf8.first", laid_unicode_utf8_first)], narrowed := true }
def PrefixChainUptoSaid : Prop := prefixChainUptoRow.holds Tryd.pinned (OpenSpec.upto prefixChainSpec)

/-- 'cribblelaw09.PrefixOne', WHERE WHAT IT READS IS OF BULK AT MOST 1048576: true; the input reads as it did. -/
def prefixOneUptoRow : OpenClaim := { program := "ytoicobnbggkgbaadoor", sum := "e8dab7b69cd37362b0c08329b06d1f6f81b1fb708818aeb714221cbdfd844449", func := "cribble/cribblelaw09.PrefixOne", spec := "prefixOne", inPlace := ["internal/bytealg.CountString", "internal/bytealg.IndexByteString", "internal/bytealg.IndexString", "internal/abi.NoEscape", "internal/bytealg.MakeNoZero", "internal/bytealg.abigen_runtime_cmpstring"], unfollowed := true, recurses := true, named := ["unicode/utf8.first", "unicode/utf8.acceptRanges", "internal/bytealg.MaxLen"], apart := false, laid := [("unicode/utf8.acceptRanges", laid_unicode_utf8_acceptRanges), ("unicode/utf8.first", laid_unicode_utf8_first)], narrowed := true }
def PrefixOneUptoSaid : Prop := prefixOneUptoRow.holds Tryd.pinned (OpenSpec.upto prefixOneSpec)

end Rows
end Go.Proofs.YtoicobnbggkgbaaDoor
