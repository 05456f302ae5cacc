/-
  DERIVED. GIVEN WITH THE SEED: THE CARDS: each row of YtpicenopiigfpaaDoorRows.lean that lists a variable, with what it lists TIED to the program's text (the seventh form; the later family's looks); each row that meets fmt, with fmt's text TOLD by the authors' own Lean function (tested against real Go, not proved from fmt's source: count such statements apart). THE CARD IS WHAT COUNTS. Prove the row's statement (the work); the ties are given (YtpicenopiigfpaaDoorTie.lean); close each card by the builder's one call (the guide's Derived/Test/ToyasCard.lean, 'card_holds'). Laid BY PROGRAM, IN A SANDBOX (cutbox-door.mjs). By AI agents, Wed Nov 11 2026. No macro, syntax, notation, axiom, sorry.
-/
import Derived.Test.YtpicenopiigfpaaDoorRows
import GoSem.ClaimSeven
namespace Go.Proofs.YtpicenopiigfpaaDoor
namespace Rows

/-- THE TIED CARD OF 'waypostlaw04.RowReads'. -/
def rowReadsCard : Claim7 := { stood := { row := rowReadsRow, standIns := [], harness := (true, "902e68a3bd4d4687d0d5f74bc2083c416e862a4994af0cea735df14673e3918c"), looks := true }, kinds := [], alts := [], laidByText := true, laidKinds := [.data, .data, .data, .data, .sentinel, .sentinel, .pinned], laidTests := true, laidLooks := .later }
def RowReadsCardSaid : Prop := Claim7.holds Tryd.pinned (.plain (OpenSpec.ofChange rowReadsSpec)) rowReadsCard

/-- THE TIED CARD OF 'waypostlaw04.RowBlanks'. -/
def rowBlanksCard : Claim7 := { stood := { row := rowBlanksRow, standIns := [], harness := (true, "902e68a3bd4d4687d0d5f74bc2083c416e862a4994af0cea735df14673e3918c"), looks := true }, kinds := [], alts := [], laidByText := true, laidKinds := [.data, .data, .data, .data, .sentinel, .sentinel, .pinned], laidTests := true, laidLooks := .later }
def RowBlanksCardSaid : Prop := Claim7.holds Tryd.pinned (.plain (OpenSpec.ofChange rowBlanksSpec)) rowBlanksCard

/-- THE TIED CARD OF 'waypostlaw04.RowWritten'. -/
def rowWrittenCard : Claim7 := { stood := { row := rowWrittenRow, standIns := [], harness := (true, "902e68a3bd4d4687d0d5f74bc2083c416e862a4994af0cea735df14673e3918c"), looks := true }, kinds := [], alts := [], laidByText := true, laidKinds := [.data, .data, .data, .data, .sentinel, .sentinel, .pinned], laidTests := true, laidLooks := .later }
def RowWrittenCardSaid : Prop := Claim7.holds Tryd.pinned (.plain (OpenSpec.ofChange rowWrittenSpec)) rowWrittenCard

/-- THE TIED CARD OF 'waypostlaw04.RowWrites'. -/
def rowWritesCard : Claim7 := { stood := { row := rowWritesRow, standIns := [], harness := (true, "902e68a3bd4d4687d0d5f74bc2083c416e862a4994af0cea735df14673e3918c"), looks := true }, kinds := [], alts := [], laidByText := true, laidKinds := [.data, .data, .data, .data, .sentinel, .sentinel, .pinned], laidTests := true, laidLooks := .later }
def RowWritesCardSaid : Prop := Claim7.holds Tryd.pinned (.plain (OpenSpec.ofChange rowWritesSpec)) rowWritesCard

/-- THE TIED CARD OF 'waypostlaw04.RowBack'. -/
def rowBackCard : Claim7 := { stood := { row := rowBackRow, standIns := [], harness := (true, "902e68a3bd4d4687d0d5f74bc2083c416e862a4994af0cea735df14673e3918c"), looks := true }, kinds := [], alts := [], laidByText := true, laidKinds := [.data, .data, .data, .data, .sentinel, .sentinel, .pinned], laidTests := true, laidLooks := .later }
def RowBackCardSaid : Prop := Claim7.holds Tryd.pinned (.plain (OpenSpec.ofChange rowBackSpec)) rowBackCard

/-- THE TIED CARD OF 'waypostlaw04.RowWords'. -/
def rowWordsCard : Claim7 := { stood := { row := rowWordsRow, standIns := [], harness := (true, "902e68a3bd4d4687d0d5f74bc2083c416e862a4994af0cea735df14673e3918c"), looks := true }, kinds := [], alts := [], laidByText := true, laidKinds := [.data, .data, .data, .data, .sentinel, .sentinel, .pinned], laidTests := true, laidLooks := .later }
def RowWordsCardSaid : Prop := Claim7.holds Tryd.pinned (.plain (OpenSpec.ofChange rowWordsSpec)) rowWordsCard

/-- THE TIED CARD OF 'waypostlaw04.RowKnown'. -/
def rowKnownCard : Claim7 := { stood := { row := rowKnownRow, standIns := [], harness := (true, "902e68a3bd4d4687d0d5f74bc2083c416e862a4994af0cea735df14673e3918c"), looks := true }, kinds := [], alts := [], laidByText := true, laidKinds := [.data, .data, .data, .data, .sentinel, .sentinel, .pinned], laidTests := true, laidLooks := .later }
def RowKnownCardSaid : Prop := Claim7.holds Tryd.pinned (.plain (OpenSpec.ofChange rowKnownSpec)) rowKnownCard

/-- THE SECOND FORM's CARD OF 'waypostlaw04.RowReads'. -/
def rowReadsUptoCard : Claim7 := { stood := { row := rowReadsUptoRow, standIns := [], harness := (true, "902e68a3bd4d4687d0d5f74bc2083c416e862a4994af0cea735df14673e3918c"), looks := true }, kinds := [], alts := [], laidByText := true, laidKinds := [.data, .data, .data, .data, .sentinel, .sentinel, .pinned], laidTests := true, laidLooks := .later }
def RowReadsUptoCardSaid : Prop := Claim7.holds Tryd.pinned (.plain (OpenSpec.upto rowReadsSpec)) rowReadsUptoCard

/-- THE SECOND FORM's CARD OF 'waypostlaw04.RowBlanks'. -/
def rowBlanksUptoCard : Claim7 := { stood := { row := rowBlanksUptoRow, standIns := [], harness := (true, "902e68a3bd4d4687d0d5f74bc2083c416e862a4994af0cea735df14673e3918c"), looks := true }, kinds := [], alts := [], laidByText := true, laidKinds := [.data, .data, .data, .data, .sentinel, .sentinel, .pinned], laidTests := true, laidLooks := .later }
def RowBlanksUptoCardSaid : Prop := Claim7.holds Tryd.pinned (.plain (OpenSpec.upto rowBlanksSpec)) rowBlanksUptoCard

/-- THE SECOND FORM's CARD OF 'waypostlaw04.RowWritten'. -/
def rowWrittenUptoCard : Claim7 := { stood := { row := rowWrittenUptoRow, standIns := [], harness := (true, "902e68a3bd4d4687d0d5f74bc2083c416e862a4994af0cea735df14673e3918c"), looks := true }, kinds := [], alts := [], laidByText := true, laidKinds := [.data, .data, .data, .data, .sentinel, .sentinel, .pinned], laidTests := true, laidLooks := .later }
def RowWrittenUptoCardSaid : Prop := Claim7.holds Tryd.pinned (.plain (OpenSpec.upto rowWrittenSpec)) rowWrittenUptoCard

/-- THE SECOND FORM's CARD OF 'waypostlaw04.RowWrites'. -/
def rowWritesUptoCard : Claim7 := { stood := { row := rowWritesUptoRow, standIns := [], harness := (true, "902e68a3bd4d4687d0d5f74bc2083c416e862a4994af0cea735df14673e3918c"), looks := true }, kinds := [], alts := [], laidByText := true, laidKinds := [.data, .data, .data, .data, .sentinel, .sentinel, .pinned], laidTests := true, laidLooks := .later }
def RowWritesUptoCardSaid : Prop := Claim7.holds Tryd.pinned (.plain (OpenSpec.upto rowWritesSpec)) rowWritesUptoCard

/-- THE SECOND FORM's CARD OF 'waypostlaw04.RowBack'. -/
def rowBackUptoCard : Claim7 := { stood := { row := rowBackUptoRow, standIns := [], harness := (true, "902e68a3bd4d4687d0d5f74bc2083c416e862a4994af0cea735df14673e3918c"), looks := true }, kinds := [], alts := [], laidByText := true, laidKinds := [.data, .data, .data, .data, .sentinel, .sentinel, .pinned], laidTests := true, laidLooks := .later }
def RowBackUptoCardSaid : Prop := Claim7.holds Tryd.pinned (.plain (OpenSpec.upto rowBackSpec)) rowBackUptoCard

/-- THE SECOND FORM's CARD OF 'waypostlaw04.RowWords'. -/
def rowWordsUptoCard : Claim7 := { stood := { row := rowWordsUptoRow, standIns := [], harness := (true, "902e68a3bd4d4687d0d5f74bc2083c416e862a4994af0cea735df14673e3918c"), looks := true }, kinds := [], alts := [], laidByText := true, laidKinds := [.data, .data, .data, .data, .sentinel, .sentinel, .pinned], laidTests := true, laidLooks := .later }
def RowWordsUptoCardSaid : Prop := Claim7.holds Tryd.pinned (.plain (OpenSpec.upto rowWordsSpec)) rowWordsUptoCard

/-- THE SECOND FORM's CARD OF 'waypostlaw04.RowKnown'. -/
def rowKnownUptoCard : Claim7 := { stood := { row := rowKnownUptoRow, standIns := [], harness := (true, "902e68a3bd4d4687d0d5f74bc2083c416e862a4994af0cea735df14673e3918c"), looks := true }, kinds := [], alts := [], laidByText := true, laidKinds := [.data, .data, .data, .data, .sentinel, .sentinel, .pinned], laidTests := true, laidLooks := .later }
def RowKnownUptoCardSaid : Prop := Claim7.holds Tryd.pinned (.plain (OpenSpec.upto rowKnownSpec)) rowKnownUptoCard
end Rows
end Go.Proofs.YtpicenopiigfpaaDoor
