/-
  DERIVED. GIVEN WITH THE SEED: THE CARDS: each row of YtfbkbnojbbpopaaDoorRows.lean that lists a variable, with what it lists TIED to the program's text (the seventh form; the later family's looks); each row that meets fmt, with fmt's text TOLD by the authors' own Lean function (tested against real Go, not proved from fmt's source: count such statements apart). THE CARD IS WHAT COUNTS. Prove the row's statement (the work); the ties are given (YtfbkbnojbbpopaaDoorTie.lean); close each card by the builder's one call (the guide's Derived/Test/ToyasCard.lean, 'card_holds'). Laid BY PROGRAM, IN A SANDBOX (cutbox-door.mjs). By AI agents, Wed Nov 11 2026. No macro, syntax, notation, axiom, sorry.
-/
import Derived.Test.YtfbkbnojbbpopaaDoorRows
import GoSem.ClaimSeven
namespace Go.Proofs.YtfbkbnojbbpopaaDoor
namespace Rows

/-- THE TIED CARD OF 'waypostlaw16.QueryAppends'. -/
def queryAppendsCard : Claim7 := { stood := { row := queryAppendsRow, standIns := [], harness := (true, "b8db8d5bec37236be54f0563564ee74fb23111d35b0b0387ab3b62eeb07250cb"), looks := false }, kinds := [], alts := [], laidByText := true, laidKinds := [.data, .pinned], laidTests := true, laidLooks := .later }
def QueryAppendsCardSaid : Prop := Claim7.holds Tryd.pinned (.plain (OpenSpec.ofChange queryAppendsSpec)) queryAppendsCard

/-- THE TIED CARD OF 'waypostlaw16.QueryCodes'. -/
def queryCodesCard : Claim7 := { stood := { row := queryCodesRow, standIns := [], harness := (true, "b8db8d5bec37236be54f0563564ee74fb23111d35b0b0387ab3b62eeb07250cb"), looks := false }, kinds := [], alts := [], laidByText := true, laidKinds := [.data, .pinned], laidTests := true, laidLooks := .later }
def QueryCodesCardSaid : Prop := Claim7.holds Tryd.pinned (.plain (OpenSpec.ofChange queryCodesSpec)) queryCodesCard

/-- THE TIED CARD OF 'waypostlaw16.QueryEncodes'. -/
def queryEncodesCard : Claim7 := { stood := { row := queryEncodesRow, standIns := [], harness := (true, "b8db8d5bec37236be54f0563564ee74fb23111d35b0b0387ab3b62eeb07250cb"), looks := false }, kinds := [], alts := [], laidByText := true, laidKinds := [.data, .pinned], laidTests := true, laidLooks := .later }
def QueryEncodesCardSaid : Prop := Claim7.holds Tryd.pinned (.plain (OpenSpec.ofChange queryEncodesSpec)) queryEncodesCard

/-- THE TIED CARD OF 'waypostlaw16.QueryJoins'. -/
def queryJoinsCard : Claim7 := { stood := { row := queryJoinsRow, standIns := [], harness := (true, "b8db8d5bec37236be54f0563564ee74fb23111d35b0b0387ab3b62eeb07250cb"), looks := false }, kinds := [], alts := [], laidByText := true, laidKinds := [.data, .pinned], laidTests := true, laidLooks := .later }
def QueryJoinsCardSaid : Prop := Claim7.holds Tryd.pinned (.plain (OpenSpec.ofChange queryJoinsSpec)) queryJoinsCard

/-- THE TIED CARD OF 'waypostlaw16.QueryBack'. -/
def queryBackCard : Claim7 := { stood := { row := queryBackRow, standIns := [], harness := (true, "b8db8d5bec37236be54f0563564ee74fb23111d35b0b0387ab3b62eeb07250cb"), looks := false }, kinds := [], alts := [], laidByText := true, laidKinds := [.data, .pinned], laidTests := true, laidLooks := .later }
def QueryBackCardSaid : Prop := Claim7.holds Tryd.pinned (.plain (OpenSpec.ofChange queryBackSpec)) queryBackCard

/-- THE TIED CARD OF 'waypostlaw16.QueryPairs'. -/
def queryPairsCard : Claim7 := { stood := { row := queryPairsRow, standIns := [], harness := (true, "b8db8d5bec37236be54f0563564ee74fb23111d35b0b0387ab3b62eeb07250cb"), looks := false }, kinds := [], alts := [], laidByText := true, laidKinds := [.data, .pinned], laidTests := true, laidLooks := .later }
def QueryPairsCardSaid : Prop := Claim7.holds Tryd.pinned (.plain (OpenSpec.ofChange queryPairsSpec)) queryPairsCard

/-- THE TIED CARD OF 'waypostlaw16.QueryKnown'. -/
def queryKnownCard : Claim7 := { stood := { row := queryKnownRow, standIns := [], harness := (true, "b8db8d5bec37236be54f0563564ee74fb23111d35b0b0387ab3b62eeb07250cb"), looks := false }, kinds := [], alts := [], laidByText := true, laidKinds := [.data, .pinned], laidTests := true, laidLooks := .later }
def QueryKnownCardSaid : Prop := Claim7.holds Tryd.pinned (.plain (OpenSpec.ofChange queryKnownSpec)) queryKnownCard

/-- THE SECOND FORM's CARD OF 'waypostlaw16.QueryAppends'. -/
def queryAppendsUptoCard : Claim7 := { stood := { row := queryAppendsUptoRow, standIns := [], harness := (true, "b8db8d5bec37236be54f0563564ee74fb23111d35b0b0387ab3b62eeb07250cb"), looks := false }, kinds := [], alts := [], laidByText := true, laidKinds := [.data, .pinned], laidTests := true, laidLooks := .later }
def QueryAppendsUptoCardSaid : Prop := Claim7.holds Tryd.pinned (.plain (OpenSpec.upto queryAppendsSpec)) queryAppendsUptoCard

/-- THE SECOND FORM's CARD OF 'waypostlaw16.QueryCodes'. -/
def queryCodesUptoCard : Claim7 := { stood := { row := queryCodesUptoRow, standIns := [], harness := (true, "b8db8d5bec37236be54f0563564ee74fb23111d35b0b0387ab3b62eeb07250cb"), looks := false }, kinds := [], alts := [], laidByText := true, laidKinds := [.data, .pinned], laidTests := true, laidLooks := .later }
def QueryCodesUptoCardSaid : Prop := Claim7.holds Tryd.pinned (.plain (OpenSpec.upto queryCodesSpec)) queryCodesUptoCard

/-- THE SECOND FORM's CARD OF 'waypostlaw16.QueryEncodes'. -/
def queryEncodesUptoCard : Claim7 := { stood := { row := queryEncodesUptoRow, standIns := [], harness := (true, "b8db8d5bec37236be54f0563564ee74fb23111d35b0b0387ab3b62eeb07250cb"), looks := false }, kinds := [], alts := [], laidByText := true, laidKinds := [.data, .pinned], laidTests := true, laidLooks := .later }
def QueryEncodesUptoCardSaid : Prop := Claim7.holds Tryd.pinned (.plain (OpenSpec.upto queryEncodesSpec)) queryEncodesUptoCard

/-- THE SECOND FORM's CARD OF 'waypostlaw16.QueryJoins'. -/
def queryJoinsUptoCard : Claim7 := { stood := { row := queryJoinsUptoRow, standIns := [], harness := (true, "b8db8d5bec37236be54f0563564ee74fb23111d35b0b0387ab3b62eeb07250cb"), looks := false }, kinds := [], alts := [], laidByText := true, laidKinds := [.data, .pinned], laidTests := true, laidLooks := .later }
def QueryJoinsUptoCardSaid : Prop := Claim7.holds Tryd.pinned (.plain (OpenSpec.upto queryJoinsSpec)) queryJoinsUptoCard

/-- THE SECOND FORM's CARD OF 'waypostlaw16.QueryBack'. -/
def queryBackUptoCard : Claim7 := { stood := { row := queryBackUptoRow, standIns := [], harness := (true, "b8db8d5bec37236be54f0563564ee74fb23111d35b0b0387ab3b62eeb07250cb"), looks := false }, kinds := [], alts := [], laidByText := true, laidKinds := [.data, .pinned], laidTests := true, laidLooks := .later }
def QueryBackUptoCardSaid : Prop := Claim7.holds Tryd.pinned (.plain (OpenSpec.upto queryBackSpec)) queryBackUptoCard

/-- THE SECOND FORM's CARD OF 'waypostlaw16.QueryPairs'. -/
def queryPairsUptoCard : Claim7 := { stood := { row := queryPairsUptoRow, standIns := [], harness := (true, "b8db8d5bec37236be54f0563564ee74fb23111d35b0b0387ab3b62eeb07250cb"), looks := false }, kinds := [], alts := [], laidByText := true, laidKinds := [.data, .pinned], laidTests := true, laidLooks := .later }
def QueryPairsUptoCardSaid : Prop := Claim7.holds Tryd.pinned (.plain (OpenSpec.upto queryPairsSpec)) queryPairsUptoCard

/-- THE SECOND FORM's CARD OF 'waypostlaw16.QueryKnown'. -/
def queryKnownUptoCard : Claim7 := { stood := { row := queryKnownUptoRow, standIns := [], harness := (true, "b8db8d5bec37236be54f0563564ee74fb23111d35b0b0387ab3b62eeb07250cb"), looks := false }, kinds := [], alts := [], laidByText := true, laidKinds := [.data, .pinned], laidTests := true, laidLooks := .later }
def QueryKnownUptoCardSaid : Prop := Claim7.holds Tryd.pinned (.plain (OpenSpec.upto queryKnownSpec)) queryKnownUptoCard
end Rows
end Go.Proofs.YtfbkbnojbbpopaaDoor
