/-
  DERIVED. GIVEN WITH THE SEED: THE CARDS: each row of YthpcbaamkeiffaaGreatDoorRows.lean that lists a variable, with what it lists TIED to the program's text (the seventh form; the later family's looks); each row that meets fmt, with fmt's text TOLD by the authors' own Lean function (tested against real Go, not proved from fmt's source: count such statements apart). THE CARD IS WHAT COUNTS. Prove the row's statement (the work); the ties are given (YthpcbaamkeiffaaGreatDoorTie.lean); close each card by the builder's one call (the guide's Derived/Test/ToyasCard.lean, 'card_holds'). Laid BY PROGRAM, IN A SANDBOX (cutbox-door.mjs). By AI agents, Wed Nov 11 2026. No macro, syntax, notation, axiom, sorry.
-/
import Derived.Test.YthpcbaamkeiffaaGreatDoorRows
import GoSem.ClaimSeven
namespace Go.Proofs.YthpcbaamkeiffaaGreatDoor
namespace Rows

/-- THE TIED CARD OF 'waypostlaw29.ConfigRound'. -/
def configRoundCard : Claim7 := { stood := { row := configRoundRow, standIns := [], harness := (true, "a65a1f83e9fce8ff9c44d2c946150a512b9e867f4a1f11afd67e52ceed057604"), looks := true }, kinds := [], alts := [], laidByText := true, laidKinds := [.data, .data, .data, .data, .sentinel, .sentinel, .widerDeep, .pinned], laidTests := true, laidLooks := .later }
def ConfigRoundCardSaid : Prop := Claim7.holds Tryz.pinned (.plain (OpenSpec.ofChange configRoundSpec)) configRoundCard

/-- THE TIED CARD OF 'waypostlaw29.ConfigParts'. -/
def configPartsCard : Claim7 := { stood := { row := configPartsRow, standIns := [], harness := (true, "a65a1f83e9fce8ff9c44d2c946150a512b9e867f4a1f11afd67e52ceed057604"), looks := true }, kinds := [], alts := [], laidByText := true, laidKinds := [.data, .data, .data, .data, .sentinel, .sentinel, .widerDeep, .pinned], laidTests := true, laidLooks := .later }
def ConfigPartsCardSaid : Prop := Claim7.holds Tryz.pinned (.plain (OpenSpec.ofChange configPartsSpec)) configPartsCard

/-- THE TIED CARD OF 'waypostlaw29.ConfigParses'. -/
def configParsesCard : Claim7 := { stood := { row := configParsesRow, standIns := [], harness := (true, "a65a1f83e9fce8ff9c44d2c946150a512b9e867f4a1f11afd67e52ceed057604"), looks := true }, kinds := [], alts := [], laidByText := true, laidKinds := [.data, .data, .data, .data, .sentinel, .sentinel, .widerDeep, .pinned], laidTests := true, laidLooks := .later }
def ConfigParsesCardSaid : Prop := Claim7.holds Tryz.pinned (.plain (OpenSpec.ofChange configParsesSpec)) configParsesCard

/-- THE TIED CARD OF 'waypostlaw29.ConfigCuts'. -/
def configCutsCard : Claim7 := { stood := { row := configCutsRow, standIns := [], harness := (true, "a65a1f83e9fce8ff9c44d2c946150a512b9e867f4a1f11afd67e52ceed057604"), looks := true }, kinds := [], alts := [], laidByText := true, laidKinds := [.data, .data, .data, .data, .sentinel, .sentinel, .widerDeep, .pinned], laidTests := true, laidLooks := .later }
def ConfigCutsCardSaid : Prop := Claim7.holds Tryz.pinned (.plain (OpenSpec.ofChange configCutsSpec)) configCutsCard

/-- THE TIED CARD OF 'waypostlaw29.ConfigKnown'. -/
def configKnownCard : Claim7 := { stood := { row := configKnownRow, standIns := [], harness := (true, "a65a1f83e9fce8ff9c44d2c946150a512b9e867f4a1f11afd67e52ceed057604"), looks := true }, kinds := [], alts := [], laidByText := true, laidKinds := [.data, .data, .data, .data, .sentinel, .sentinel, .widerDeep, .pinned], laidTests := true, laidLooks := .later }
def ConfigKnownCardSaid : Prop := Claim7.holds Tryz.pinned (.plain (OpenSpec.ofChange configKnownSpec)) configKnownCard

/-- THE TIED CARD OF 'waypostlaw29.ConfigAgain'. -/
def configAgainCard : Claim7 := { stood := { row := configAgainRow, standIns := [], harness := (true, "a65a1f83e9fce8ff9c44d2c946150a512b9e867f4a1f11afd67e52ceed057604"), looks := true }, kinds := [], alts := [], laidByText := true, laidKinds := [.data, .data, .data, .data, .sentinel, .sentinel, .widerDeep, .pinned], laidTests := true, laidLooks := .later }
def ConfigAgainCardSaid : Prop := Claim7.holds Tryz.pinned (.plain (OpenSpec.ofChange configAgainSpec)) configAgainCard

/-- THE SECOND FORM's CARD OF 'waypostlaw29.ConfigRound'. -/
def configRoundUptoCard : Claim7 := { stood := { row := configRoundUptoRow, standIns := [], harness := (true, "a65a1f83e9fce8ff9c44d2c946150a512b9e867f4a1f11afd67e52ceed057604"), looks := true }, kinds := [], alts := [], laidByText := true, laidKinds := [.data, .data, .data, .data, .sentinel, .sentinel, .widerDeep, .pinned], laidTests := true, laidLooks := .later }
def ConfigRoundUptoCardSaid : Prop := Claim7.holds Tryz.pinned (.plain (OpenSpec.upto configRoundSpec)) configRoundUptoCard

/-- THE SECOND FORM's CARD OF 'waypostlaw29.ConfigParts'. -/
def configPartsUptoCard : Claim7 := { stood := { row := configPartsUptoRow, standIns := [], harness := (true, "a65a1f83e9fce8ff9c44d2c946150a512b9e867f4a1f11afd67e52ceed057604"), looks := true }, kinds := [], alts := [], laidByText := true, laidKinds := [.data, .data, .data, .data, .sentinel, .sentinel, .widerDeep, .pinned], laidTests := true, laidLooks := .later }
def ConfigPartsUptoCardSaid : Prop := Claim7.holds Tryz.pinned (.plain (OpenSpec.upto configPartsSpec)) configPartsUptoCard

/-- THE SECOND FORM's CARD OF 'waypostlaw29.ConfigParses'. -/
def configParsesUptoCard : Claim7 := { stood := { row := configParsesUptoRow, standIns := [], harness := (true, "a65a1f83e9fce8ff9c44d2c946150a512b9e867f4a1f11afd67e52ceed057604"), looks := true }, kinds := [], alts := [], laidByText := true, laidKinds := [.data, .data, .data, .data, .sentinel, .sentinel, .widerDeep, .pinned], laidTests := true, laidLooks := .later }
def ConfigParsesUptoCardSaid : Prop := Claim7.holds Tryz.pinned (.plain (OpenSpec.upto configParsesSpec)) configParsesUptoCard

/-- THE SECOND FORM's CARD OF 'waypostlaw29.ConfigCuts'. -/
def configCutsUptoCard : Claim7 := { stood := { row := configCutsUptoRow, standIns := [], harness := (true, "a65a1f83e9fce8ff9c44d2c946150a512b9e867f4a1f11afd67e52ceed057604"), looks := true }, kinds := [], alts := [], laidByText := true, laidKinds := [.data, .data, .data, .data, .sentinel, .sentinel, .widerDeep, .pinned], laidTests := true, laidLooks := .later }
def ConfigCutsUptoCardSaid : Prop := Claim7.holds Tryz.pinned (.plain (OpenSpec.upto configCutsSpec)) configCutsUptoCard

/-- THE SECOND FORM's CARD OF 'waypostlaw29.ConfigKnown'. -/
def configKnownUptoCard : Claim7 := { stood := { row := configKnownUptoRow, standIns := [], harness := (true, "a65a1f83e9fce8ff9c44d2c946150a512b9e867f4a1f11afd67e52ceed057604"), looks := true }, kinds := [], alts := [], laidByText := true, laidKinds := [.data, .data, .data, .data, .sentinel, .sentinel, .widerDeep, .pinned], laidTests := true, laidLooks := .later }
def ConfigKnownUptoCardSaid : Prop := Claim7.holds Tryz.pinned (.plain (OpenSpec.upto configKnownSpec)) configKnownUptoCard

/-- THE SECOND FORM's CARD OF 'waypostlaw29.ConfigAgain'. -/
def configAgainUptoCard : Claim7 := { stood := { row := configAgainUptoRow, standIns := [], harness := (true, "a65a1f83e9fce8ff9c44d2c946150a512b9e867f4a1f11afd67e52ceed057604"), looks := true }, kinds := [], alts := [], laidByText := true, laidKinds := [.data, .data, .data, .data, .sentinel, .sentinel, .widerDeep, .pinned], laidTests := true, laidLooks := .later }
def ConfigAgainUptoCardSaid : Prop := Claim7.holds Tryz.pinned (.plain (OpenSpec.upto configAgainSpec)) configAgainUptoCard
end Rows
end Go.Proofs.YthpcbaamkeiffaaGreatDoor
