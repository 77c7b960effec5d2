/-
  DERIVED. GIVEN WITH THE SEED: THE CARDS: each row of YtfhmnkilmhnibaaDoorRows.lean that lists a variable, with what it lists TIED to the program's text (the seventh form; the later family's looks); each row that meets fmt, with fmt's text TOLD by the authors' own Lean function (tested against real Go, not proved from fmt's source: count such statements apart). THE CARD IS WHAT COUNTS. Prove the row's statement (the work); the ties are given (YtfhmnkilmhnibaaDoorTie.lean); close each card by the builder's one call (the guide's Derived/Test/ToyasCard.lean, 'card_holds'). Laid BY PROGRAM, IN A SANDBOX (cutbox-door.mjs). By AI agents, Wed Nov 11 2026. No macro, syntax, notation, axiom, sorry.
-/
import Derived.Test.YtfhmnkilmhnibaaDoorRows
import GoSem.ClaimSeven
namespace Go.Proofs.YtfhmnkilmhnibaaDoor
namespace Rows

/-- THE TIED CARD OF 'cutwaterlaw05.MapsBack'. -/
def mapsBackCard : Claim7 := { stood := { row := mapsBackRow, standIns := [], harness := (true, "b72866069f16156b57aba4b7584ad2064f5ccbe048e81512befbd6b4f25ac788"), looks := false }, kinds := [], alts := [], laidByText := true, laidKinds := [.data, .pinned], laidTests := true, laidLooks := .later }
def MapsBackCardSaid : Prop := Claim7.holds Tryd.pinned (.plain (OpenSpec.ofChange mapsBackSpec)) mapsBackCard

/-- THE TIED CARD OF 'cutwaterlaw05.MapsRound'. -/
def mapsRoundCard : Claim7 := { stood := { row := mapsRoundRow, standIns := [], harness := (true, "b72866069f16156b57aba4b7584ad2064f5ccbe048e81512befbd6b4f25ac788"), looks := false }, kinds := [], alts := [], laidByText := true, laidKinds := [.data, .pinned], laidTests := true, laidLooks := .later }
def MapsRoundCardSaid : Prop := Claim7.holds Tryd.pinned (.plain (OpenSpec.ofChange mapsRoundSpec)) mapsRoundCard

/-- THE TIED CARD OF 'cutwaterlaw05.MapsTurn'. -/
def mapsTurnCard : Claim7 := { stood := { row := mapsTurnRow, standIns := [], harness := (true, "b72866069f16156b57aba4b7584ad2064f5ccbe048e81512befbd6b4f25ac788"), looks := false }, kinds := [], alts := [], laidByText := true, laidKinds := [.data, .pinned], laidTests := true, laidLooks := .later }
def MapsTurnCardSaid : Prop := Claim7.holds Tryd.pinned (.plain (OpenSpec.ofChange mapsTurnSpec)) mapsTurnCard

/-- THE TIED CARD OF 'cutwaterlaw05.MapsAsk'. -/
def mapsAskCard : Claim7 := { stood := { row := mapsAskRow, standIns := [], harness := (true, "b72866069f16156b57aba4b7584ad2064f5ccbe048e81512befbd6b4f25ac788"), looks := false }, kinds := [], alts := [], laidByText := true, laidKinds := [.data, .pinned], laidTests := true, laidLooks := .later }
def MapsAskCardSaid : Prop := Claim7.holds Tryd.pinned (.plain (OpenSpec.ofChange mapsAskSpec)) mapsAskCard

/-- THE TIED CARD OF 'cutwaterlaw05.MapsSets'. -/
def mapsSetsCard : Claim7 := { stood := { row := mapsSetsRow, standIns := [], harness := (true, "b72866069f16156b57aba4b7584ad2064f5ccbe048e81512befbd6b4f25ac788"), looks := false }, kinds := [], alts := [], laidByText := true, laidKinds := [.data, .pinned], laidTests := true, laidLooks := .later }
def MapsSetsCardSaid : Prop := Claim7.holds Tryd.pinned (.plain (OpenSpec.ofChange mapsSetsSpec)) mapsSetsCard

/-- THE SECOND FORM's CARD OF 'cutwaterlaw05.MapsBack'. -/
def mapsBackUptoCard : Claim7 := { stood := { row := mapsBackUptoRow, standIns := [], harness := (true, "b72866069f16156b57aba4b7584ad2064f5ccbe048e81512befbd6b4f25ac788"), looks := false }, kinds := [], alts := [], laidByText := true, laidKinds := [.data, .pinned], laidTests := true, laidLooks := .later }
def MapsBackUptoCardSaid : Prop := Claim7.holds Tryd.pinned (.plain (OpenSpec.upto mapsBackSpec)) mapsBackUptoCard

/-- THE SECOND FORM's CARD OF 'cutwaterlaw05.MapsRound'. -/
def mapsRoundUptoCard : Claim7 := { stood := { row := mapsRoundUptoRow, standIns := [], harness := (true, "b72866069f16156b57aba4b7584ad2064f5ccbe048e81512befbd6b4f25ac788"), looks := false }, kinds := [], alts := [], laidByText := true, laidKinds := [.data, .pinned], laidTests := true, laidLooks := .later }
def MapsRoundUptoCardSaid : Prop := Claim7.holds Tryd.pinned (.plain (OpenSpec.upto mapsRoundSpec)) mapsRoundUptoCard

/-- THE SECOND FORM's CARD OF 'cutwaterlaw05.MapsTurn'. -/
def mapsTurnUptoCard : Claim7 := { stood := { row := mapsTurnUptoRow, standIns := [], harness := (true, "b72866069f16156b57aba4b7584ad2064f5ccbe048e81512befbd6b4f25ac788"), looks := false }, kinds := [], alts := [], laidByText := true, laidKinds := [.data, .pinned], laidTests := true, laidLooks := .later }
def MapsTurnUptoCardSaid : Prop := Claim7.holds Tryd.pinned (.plain (OpenSpec.upto mapsTurnSpec)) mapsTurnUptoCard

/-- THE SECOND FORM's CARD OF 'cutwaterlaw05.MapsAsk'. -/
def mapsAskUptoCard : Claim7 := { stood := { row := mapsAskUptoRow, standIns := [], harness := (true, "b72866069f16156b57aba4b7584ad2064f5ccbe048e81512befbd6b4f25ac788"), looks := false }, kinds := [], alts := [], laidByText := true, laidKinds := [.data, .pinned], laidTests := true, laidLooks := .later }
def MapsAskUptoCardSaid : Prop := Claim7.holds Tryd.pinned (.plain (OpenSpec.upto mapsAskSpec)) mapsAskUptoCard

/-- THE SECOND FORM's CARD OF 'cutwaterlaw05.MapsSets'. -/
def mapsSetsUptoCard : Claim7 := { stood := { row := mapsSetsUptoRow, standIns := [], harness := (true, "b72866069f16156b57aba4b7584ad2064f5ccbe048e81512befbd6b4f25ac788"), looks := false }, kinds := [], alts := [], laidByText := true, laidKinds := [.data, .pinned], laidTests := true, laidLooks := .later }
def MapsSetsUptoCardSaid : Prop := Claim7.holds Tryd.pinned (.plain (OpenSpec.upto mapsSetsSpec)) mapsSetsUptoCard
end Rows
end Go.Proofs.YtfhmnkilmhnibaaDoor
