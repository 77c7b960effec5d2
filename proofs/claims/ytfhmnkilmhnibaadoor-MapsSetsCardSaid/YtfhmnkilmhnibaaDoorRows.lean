/-
  NARROWER THAN 'FOR EVERY INPUT', by the rows' own cells (each row's printed sentence says how): MapsBack: laid · MapsRound: laid · MapsTurn: laid · MapsAsk: laid · MapsSets: laid.
  DERIVED. THE GIVEN ROWS OF THIS SEAT. 5 by the template 'for every input the law returns true; each argument reads behind the call as it read before'; 0 by the template 'total and deterministic' (their statements: YtfhmnkilmhnibaaDoorTotals.lean).
  GIVEN WITH THE SEED: the statements are not yours to turn. If you find one false, say at which input.
  Laid BY PROGRAM, IN A SANDBOX (cutbox-rows.mjs): the forced cells as the released guide's own fill.sh prints them over the translation 91b42d6414c35da4… (all of the seat's roots in one cut). By AI agents, Wed Nov 11 2026. No macro, syntax, notation, axiom, sorry.
-/
import Derived.Test.YtfhmnkilmhnibaaDoorChecked
import GoSem.PinnedTables
import GoSem.Claim
import GoSem.ClaimJoined
import GoSem.ClaimMapViews
import Derived.JoinedTies
import Derived.KernelRfl
namespace Go.Proofs.YtfhmnkilmhnibaaDoor
/- THE CELL 'sum', in the pinned program and in every row, IS THE sha256 OF THE DUMP (.gsa) THAT YtfhmnkilmhnibaaDoorProg.lean LOADS. Nothing in Lean hashes anything: it is a label: what it is worth is what the hold of that sum in a sandbox is worth. -/
noncomputable def Tryd.pinned : Pinned := { name := "ytfhmnkilmhnibaadoor", sum := "91b42d6414c35da458124f208f519be5f07f9bf5b26f11dd12d036e169dc7844", checked := Tryd.checked }
namespace Rows
def none {H : Type} : Left H := { results := [], args := [] }

/- WHAT THE LISTED PACKAGE-LEVEL VARIABLES READ AS WHEN THE CALL BEGINS. Each datum BY PROGRAM (the guide's laid-datum.mjs) off the statement by which the dump's own 'gosem.cut.vars' lays the variable. In a bare row this is a premise. The card (YtfhmnkilmhnibaaDoorCards.lean) ties it to the program's text. -/
def laid_unicode_utf8_acceptRanges {H : Type} : DataW H := .agg [.agg [.lit (.int .u8 128), .lit (.int .u8 191)], .agg [.lit (.int .u8 160), .lit (.int .u8 191)], .agg [.lit (.int .u8 128), .lit (.int .u8 159)], .agg [.lit (.int .u8 144), .lit (.int .u8 191)], .agg [.lit (.int .u8 128), .lit (.int .u8 143)], .agg [.lit (.int .u8 0), .lit (.int .u8 0)], .agg [.lit (.int .u8 0), .lit (.int .u8 0)], .agg [.lit (.int .u8 0), .lit (.int .u8 0)], .agg [.lit (.int .u8 0), .lit (.int .u8 0)], .agg [.lit (.int .u8 0), .lit (.int .u8 0)], .agg [.lit (.int .u8 0), .lit (.int .u8 0)], .agg [.lit (.int .u8 0), .lit (.int .u8 0)], .agg [.lit (.int .u8 0), .lit (.int .u8 0)], .agg [.lit (.int .u8 0), .lit (.int .u8 0)], .agg [.lit (.int .u8 0), .lit (.int .u8 0)], .agg [.lit (.int .u8 0), .lit (.int .u8 0)]]
/-- One of Go's own tables, pinned by name: the form's constant. -/
def laid_unicode_utf8_first : DataW Unit := Go.Pinned.utf8First

/-- 'cutwaterlaw05.MapsBack': WHATEVER THE INPUT: true; the input reads as it did. -/
def mapsBackSpec : ChangeSpec := { name := "mapsBack", fn := fun _ => fun
  | [d1, d2] => { results := [.lit (.bool true)], args := [d1, d2] }
  | _ => none }
def mapsBackRow : OpenClaim := { program := "ytfhmnkilmhnibaadoor", sum := "91b42d6414c35da458124f208f519be5f07f9bf5b26f11dd12d036e169dc7844", func := "cutwater/cutwaterlaw05.MapsBack", spec := "mapsBack", inPlace := ["internal/bytealg.IndexByteString", "internal/bytealg.IndexString"], named := ["unicode/utf8.first", "unicode/utf8.acceptRanges", "internal/bytealg.MaxLen"], apart := false, laid := [("unicode/utf8.acceptRanges", laid_unicode_utf8_acceptRanges), ("unicode/utf8.first", laid_unicode_utf8_first)] }
def MapsBackSaid : Prop := mapsBackRow.holds Tryd.pinned (OpenSpec.ofChange mapsBackSpec)

/-- ITS FALSE NEIGHBOUR: 'it returns false'. Refute it at one input. -/
def mapsBackWrong : ChangeSpec := { name := "mapsBack", fn := fun _ => fun
  | [d1, d2] => { results := [.lit (.bool false)], args := [d1, d2] }
  | _ => none }
def MapsBackWrongFalsely : Prop := mapsBackRow.holds Tryd.pinned (OpenSpec.ofChange mapsBackWrong)

/-- 'cutwaterlaw05.MapsRound': WHATEVER THE INPUT: true; the input reads as it did. -/
def mapsRoundSpec : ChangeSpec := { name := "mapsRound", fn := fun _ => fun
  | [d1, d2] => { results := [.lit (.bool true)], args := [d1, d2] }
  | _ => none }
def mapsRoundRow : OpenClaim := { program := "ytfhmnkilmhnibaadoor", sum := "91b42d6414c35da458124f208f519be5f07f9bf5b26f11dd12d036e169dc7844", func := "cutwater/cutwaterlaw05.MapsRound", spec := "mapsRound", inPlace := ["internal/bytealg.IndexByteString", "internal/bytealg.IndexString"], named := ["unicode/utf8.first", "unicode/utf8.acceptRanges", "internal/bytealg.MaxLen"], apart := false, laid := [("unicode/utf8.acceptRanges", laid_unicode_utf8_acceptRanges), ("unicode/utf8.first", laid_unicode_utf8_first)] }
def MapsRoundSaid : Prop := mapsRoundRow.holds Tryd.pinned (OpenSpec.ofChange mapsRoundSpec)

/-- ITS FALSE NEIGHBOUR: 'it returns false'. Refute it at one input. -/
def mapsRoundWrong : ChangeSpec := { name := "mapsRound", fn := fun _ => fun
  | [d1, d2] => { results := [.lit (.bool false)], args := [d1, d2] }
  | _ => none }
def MapsRoundWrongFalsely : Prop := mapsRoundRow.holds Tryd.pinned (OpenSpec.ofChange mapsRoundWrong)

/-- 'cutwaterlaw05.MapsTurn': WHATEVER THE INPUT: true; the input reads as it did. -/
def mapsTurnSpec : ChangeSpec := { name := "mapsTurn", fn := fun _ => fun
  | [d1, d2, d3] => { results := [.lit (.bool true)], args := [d1, d2, d3] }
  | _ => none }
def mapsTurnRow : OpenClaim := { program := "ytfhmnkilmhnibaadoor", sum := "91b42d6414c35da458124f208f519be5f07f9bf5b26f11dd12d036e169dc7844", func := "cutwater/cutwaterlaw05.MapsTurn", spec := "mapsTurn", inPlace := ["internal/bytealg.IndexByteString", "internal/bytealg.IndexString", "internal/bytealg.CountString"], named := ["unicode/utf8.first", "unicode/utf8.acceptRanges", "internal/bytealg.MaxLen"], apart := false, laid := [("unicode/utf8.acceptRanges", laid_unicode_utf8_acceptRanges), ("unicode/utf8.first", laid_unicode_utf8_first)] }
def MapsTurnSaid : Prop := mapsTurnRow.holds Tryd.pinned (OpenSpec.ofChange mapsTurnSpec)

/-- ITS FALSE NEIGHBOUR: 'it returns false'. Refute it at one input. -/
def mapsTurnWrong : ChangeSpec := { name := "mapsTurn", fn := fun _ => fun
  | [d1, d2, d3] => { results := [.lit (.bool false)], args := [d1, d2, d3] }
  | _ => none }
def MapsTurnWrongFalsely : Prop := mapsTurnRow.holds Tryd.pinned (OpenSpec.ofChange mapsTurnWrong)

/-- 'cutwaterlaw05.MapsAsk': WHATEVER THE INPUT: true; the input reads as it did. -/
def mapsAskSpec : ChangeSpec := { name := "mapsAsk", fn := fun _ => fun
  | [d1, d2, d3] => { results := [.lit (.bool true)], args := [d1, d2, d3] }
  | _ => none }
def mapsAskRow : OpenClaim := { program := "ytfhmnkilmhnibaadoor", sum := "91b42d6414c35da458124f208f519be5f07f9bf5b26f11dd12d036e169dc7844", func := "cutwater/cutwaterlaw05.MapsAsk", spec := "mapsAsk", inPlace := ["internal/bytealg.IndexByteString", "internal/bytealg.IndexString", "internal/bytealg.CountString"], named := ["unicode/utf8.first", "unicode/utf8.acceptRanges", "internal/bytealg.MaxLen"], apart := false, laid := [("unicode/utf8.acceptRanges", laid_unicode_utf8_acceptRanges), ("unicode/utf8.first", laid_unicode_utf8_first)] }
def MapsAskSaid : Prop := mapsAskRow.holds Tryd.pinned (OpenSpec.ofChange mapsAskSpec)

/-- ITS FALSE NEIGHBOUR: 'it returns false'. Refute it at one input. -/
def mapsAskWrong : ChangeSpec := { name := "mapsAsk", fn := fun _ => fun
  | [d1, d2, d3] => { results := [.lit (.bool false)], args := [d1, d2, d3] }
  | _ => none }
def MapsAskWrongFalsely : Prop := mapsAskRow.holds Tryd.pinned (OpenSpec.ofChange mapsAskWrong)

/-- 'cutwaterlaw05.MapsSets': WHATEVER THE INPUT: true; the input reads as it did. -/
def mapsSetsSpec : ChangeSpec := { name := "mapsSets", fn := fun _ => fun
  | [d1, d2, d3] => { results := [.lit (.bool true)], args := [d1, d2, d3] }
  | _ => none }
def mapsSetsRow : OpenClaim := { program := "ytfhmnkilmhnibaadoor", sum := "91b42d6414c35da458124f208f519be5f07f9bf5b26f11dd12d036e169dc7844", func := "cutwater/cutwaterlaw05.MapsSets", spec := "mapsSets", inPlace := ["internal/bytealg.IndexByteString", "internal/bytealg.IndexString", "internal/abi.NoEscape", "internal/bytealg.MakeNoZero", "internal/bytealg.CountString"], named := ["unicode/utf8.first", "unicode/utf8.acceptRanges", "internal/bytealg.MaxLen"], apart := false, laid := [("unicode/utf8.acceptRanges", laid_unicode_utf8_acceptRanges), ("unicode/utf8.first", laid_unicode_utf8_first)] }
def MapsSetsSaid : Prop := mapsSetsRow.holds Tryd.pinned (OpenSpec.ofChange mapsSetsSpec)

/-- ITS FALSE NEIGHBOUR: 'it returns false'. Refute it at one input. -/
def mapsSetsWrong : ChangeSpec := { name := "mapsSets", fn := fun _ => fun
  | [d1, d2, d3] => { results := [.lit (.bool false)], args := [d1, d2, d3] }
  | _ => none }
def MapsSetsWrongFalsely : Prop := mapsSetsRow.holds Tryd.pinned (OpenSpec.ofChange mapsSetsWrong)

/- THE SECOND FORM. 'bulk': how many values and letters a reading holds, each counted each time it is reached (what is shared counts as often as it is met; a slice's spare places count too). A statement '..UptoSaid' is the law's where the arguments, and the package variables that the reading takes, are together of bulk at most 1048576: NARROWER than '..Said'. Prove '..Said' where nothing that the law and all that it calls make is longer than what came in: it says more and counts as full. Else prove '..UptoSaid'. A law counts once. -/
mutual
def uptoBulk {H : Type} : DataW H → Nat
  | .lit (.string bytes) => bytes.length + 1
  | .lit _ => 1
  | .nil => 1
  | .ptr d => uptoBulk d + 1
  | .slice elems spare => uptoBulkAll elems + uptoBulkAll spare + 1
  | .agg parts => uptoBulkAll parts + 1
  | .iface _ d => uptoBulk d + 1
  | .map entries => uptoBulkEntries entries + 1
  | .held _ => 1
def uptoBulkAll {H : Type} : List (DataW H) → Nat
  | [] => 0
  | d :: r => uptoBulk d + uptoBulkAll r
def uptoBulkEntries {H : Type} : List (Lit × DataW H) → Nat
  | [] => 0
  | x :: r => uptoBulkEntry x + uptoBulkEntries r
def uptoBulkEntry {H : Type} : Lit × DataW H → Nat
  | (.string bytes, d) => bytes.length + uptoBulk d + 1
  | (_, d) => uptoBulk d + 1
 end
def uptoSmall : (H : Type) → List (DataW H) → Bool := fun _ ds => decide (uptoBulkAll ds ≤ 1048576)
def OpenSpec.upto (s : _root_.Go.ChangeSpec) : _root_.Go.OpenSpec := { _root_.Go.OpenSpec.ofChange s with cond := some uptoSmall }

/-- 'cutwaterlaw05.MapsBack', WHERE WHAT IT READS IS OF BULK AT MOST 1048576: true; the input reads as it did. -/
def mapsBackUptoRow : OpenClaim := { program := "ytfhmnkilmhnibaadoor", sum := "91b42d6414c35da458124f208f519be5f07f9bf5b26f11dd12d036e169dc7844", func := "cutwater/cutwaterlaw05.MapsBack", spec := "mapsBack", inPlace := ["internal/bytealg.IndexByteString", "internal/bytealg.IndexString"], named := ["unicode/utf8.first", "unicode/utf8.acceptRanges", "internal/bytealg.MaxLen"], apart := false, laid := [("unicode/utf8.acceptRanges", laid_unicode_utf8_acceptRanges), ("unicode/utf8.first", laid_unicode_utf8_first)], narrowed := true }
def MapsBackUptoSaid : Prop := mapsBackUptoRow.holds Tryd.pinned (OpenSpec.upto mapsBackSpec)

/-- 'cutwaterlaw05.MapsRound', WHERE WHAT IT READS IS OF BULK AT MOST 1048576: true; the input reads as it did. -/
def mapsRoundUptoRow : OpenClaim := { program := "ytfhmnkilmhnibaadoor", sum := "91b42d6414c35da458124f208f519be5f07f9bf5b26f11dd12d036e169dc7844", func := "cutwater/cutwaterlaw05.MapsRound", spec := "mapsRound", inPlace := ["internal/bytealg.IndexByteString", "internal/bytealg.IndexString"], named := ["unicode/utf8.first", "unicode/utf8.acceptRanges", "internal/bytealg.MaxLen"], apart := false, laid := [("unicode/utf8.acceptRanges", laid_unicode_utf8_acceptRanges), ("unicode/utf8.first", laid_unicode_utf8_first)], narrowed := true }
def MapsRoundUptoSaid : Prop := mapsRoundUptoRow.holds Tryd.pinned (OpenSpec.upto mapsRoundSpec)

/-- 'cutwaterlaw05.MapsTurn', WHERE WHAT IT READS IS OF BULK AT MOST 1048576: true; the input reads as it did. -/
def mapsTurnUptoRow : OpenClaim := { program := "ytfhmnkilmhnibaadoor", sum := "91b42d6414c35da458124f208f519be5f07f9bf5b26f11dd12d036e169dc7844", func := "cutwater/cutwaterlaw05.MapsTurn", spec := "mapsTurn", inPlace := ["internal/bytealg.IndexByteString", "internal/bytealg.IndexString", "internal/bytealg.CountString"], named := ["unicode/utf8.first", "unicode/utf8.acceptRanges", "internal/bytealg.MaxLen"], apart := false, laid := [("unicode/utf8.acceptRanges", laid_unicode_utf8_acceptRanges), ("unicode/utf8.first", laid_unicode_utf8_first)], narrowed := true }
def MapsTurnUptoSaid : Prop := mapsTurnUptoRow.holds Tryd.pinned (OpenSpec.upto mapsTurnSpec)

/-- 'cutwaterlaw05.MapsAsk', WHERE WHAT IT READS IS OF BULK AT MOST 1048576: true; the input reads as it did. -/
def mapsAskUptoRow : OpenClaim := { program := "ytfhmnkilmhnibaadoor", sum := "91b42d6414c35da458124f208f519be5f07f9bf5b26f11dd12d036e169dc7844", func := "cutwater/cutwaterlaw05.MapsAsk", spec := "mapsAsk", inPlace := ["internal/bytealg.IndexByteString", "internal/bytealg.IndexString", "internal/bytealg.CountString"], named := ["unicode/utf8.first", "unicode/utf8.acceptRanges", "internal/bytealg.MaxLen"], apart := false, laid := [("unicode/utf8.acceptRanges", laid_unicode_utf8_acceptRanges), ("unicode/utf8.first", laid_unicode_utf8_first)], narrowed := true }
def MapsAskUptoSaid : Prop := mapsAskUptoRow.holds Tryd.pinned (OpenSpec.upto mapsAskSpec)

/-- 'cutwaterlaw05.MapsSets', WHERE WHAT IT READS IS OF BULK AT MOST 1048576: true; the input reads as it did. -/
def mapsSetsUptoRow : OpenClaim := { program := "ytfhmnkilmhnibaadoor", sum := "91b42d6414c35da458124f208f519be5f07f9bf5b26f11dd12d036e169dc7844", func := "cutwater/cutwaterlaw05.MapsSets", spec := "mapsSets", inPlace := ["internal/bytealg.IndexByteString", "internal/bytealg.IndexString", "internal/abi.NoEscape", "internal/bytealg.MakeNoZero", "internal/bytealg.CountString"], named := ["unicode/utf8.first", "unicode/utf8.acceptRanges", "internal/bytealg.MaxLen"], apart := false, laid := [("unicode/utf8.acceptRanges", laid_unicode_utf8_acceptRanges), ("unicode/utf8.first", laid_unicode_utf8_first)], narrowed := true }
def MapsSetsUptoSaid : Prop := mapsSetsUptoRow.holds Tryd.pinned (OpenSpec.upto mapsSetsSpec)

end Rows
end Go.Proofs.YtfhmnkilmhnibaaDoor
