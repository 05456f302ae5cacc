/-
  DERIVED. GIVEN WITH THE SEED: THE CARDS: each row of YtjkmkpehnnkpiaaDoorRows.lean that lists a variable, with what it lists TIED to the program's text (the seventh form; the later family's looks); each row that meets fmt, with fmt's text TOLD by the authors' own Lean function (tested against real Go, not proved from fmt's source: count such statements apart). THE CARD IS WHAT COUNTS. Prove the row's statement (the work); the ties are given (YtjkmkpehnnkpiaaDoorTie.lean); close each card by the builder's one call (the guide's Derived/Test/ToyasCard.lean, 'card_holds'). Laid BY PROGRAM, IN A SANDBOX (cutbox-door.mjs). By AI agents, Wed Nov 11 2026. No macro, syntax, notation, axiom, sorry.
-/
import Derived.Test.YtjkmkpehnnkpiaaDoorRows
import GoSem.ClaimSeven
namespace Go.Proofs.YtjkmkpehnnkpiaaDoor
namespace Rows

/-- THE TIED CARD OF 'waypostlaw32.PassAfter'. -/
def passAfterCard : Claim7 := { stood := { row := passAfterRow, standIns := [], harness := (true, "e3ed390e512827d1e1b1c76f82bf27e33d00f2589980af1fc5d978b4789fe0c9"), looks := false }, kinds := [], alts := [], laidByText := true, laidKinds := [.data, .data, .data, .widerDeep], laidTests := true, laidLooks := .later }
def PassAfterCardSaid : Prop := Claim7.holds Tryd.pinned (.plain (OpenSpec.ofChange passAfterSpec)) passAfterCard

/-- THE TIED CARD OF 'waypostlaw32.PassSteps'. -/
def passStepsCard : Claim7 := { stood := { row := passStepsRow, standIns := [], harness := (true, "e3ed390e512827d1e1b1c76f82bf27e33d00f2589980af1fc5d978b4789fe0c9"), looks := false }, kinds := [], alts := [], laidByText := true, laidKinds := [.data, .data, .data, .widerDeep], laidTests := true, laidLooks := .later }
def PassStepsCardSaid : Prop := Claim7.holds Tryd.pinned (.plain (OpenSpec.ofChange passStepsSpec)) passStepsCard

/-- THE TIED CARD OF 'waypostlaw32.PassParts'. -/
def passPartsCard : Claim7 := { stood := { row := passPartsRow, standIns := [], harness := (true, "e3ed390e512827d1e1b1c76f82bf27e33d00f2589980af1fc5d978b4789fe0c9"), looks := false }, kinds := [], alts := [], laidByText := true, laidKinds := [.data, .data, .data, .widerDeep], laidTests := true, laidLooks := .later }
def PassPartsCardSaid : Prop := Claim7.holds Tryd.pinned (.plain (OpenSpec.ofChange passPartsSpec)) passPartsCard

/-- THE TIED CARD OF 'waypostlaw32.PassChains'. -/
def passChainsCard : Claim7 := { stood := { row := passChainsRow, standIns := [], harness := (true, "e3ed390e512827d1e1b1c76f82bf27e33d00f2589980af1fc5d978b4789fe0c9"), looks := false }, kinds := [], alts := [], laidByText := true, laidKinds := [.data, .data, .data, .widerDeep], laidTests := true, laidLooks := .later }
def PassChainsCardSaid : Prop := Claim7.holds Tryd.pinned (.plain (OpenSpec.ofChange passChainsSpec)) passChainsCard

/-- THE TIED CARD OF 'waypostlaw32.PassFixed'. -/
def passFixedCard : Claim7 := { stood := { row := passFixedRow, standIns := [], harness := (true, "e3ed390e512827d1e1b1c76f82bf27e33d00f2589980af1fc5d978b4789fe0c9"), looks := false }, kinds := [], alts := [], laidByText := true, laidKinds := [.data, .data, .data, .widerDeep], laidTests := true, laidLooks := .later }
def PassFixedCardSaid : Prop := Claim7.holds Tryd.pinned (.plain (OpenSpec.ofChange passFixedSpec)) passFixedCard

/-- THE TIED CARD OF 'waypostlaw32.PassEnds'. -/
def passEndsCard : Claim7 := { stood := { row := passEndsRow, standIns := [], harness := (true, "e3ed390e512827d1e1b1c76f82bf27e33d00f2589980af1fc5d978b4789fe0c9"), looks := false }, kinds := [], alts := [], laidByText := true, laidKinds := [.data, .data, .data, .widerDeep], laidTests := true, laidLooks := .later }
def PassEndsCardSaid : Prop := Claim7.holds Tryd.pinned (.plain (OpenSpec.ofChange passEndsSpec)) passEndsCard

/-- THE TIED CARD OF 'waypostlaw32.PassKnown'. -/
def passKnownCard : Claim7 := { stood := { row := passKnownRow, standIns := [], harness := (true, "e3ed390e512827d1e1b1c76f82bf27e33d00f2589980af1fc5d978b4789fe0c9"), looks := false }, kinds := [], alts := [], laidByText := true, laidKinds := [.data, .data, .data, .widerDeep], laidTests := true, laidLooks := .later }
def PassKnownCardSaid : Prop := Claim7.holds Tryd.pinned (.plain (OpenSpec.ofChange passKnownSpec)) passKnownCard

/-- THE SECOND FORM's CARD OF 'waypostlaw32.PassAfter'. -/
def passAfterUptoCard : Claim7 := { stood := { row := passAfterUptoRow, standIns := [], harness := (true, "e3ed390e512827d1e1b1c76f82bf27e33d00f2589980af1fc5d978b4789fe0c9"), looks := false }, kinds := [], alts := [], laidByText := true, laidKinds := [.data, .data, .data, .widerDeep], laidTests := true, laidLooks := .later }
def PassAfterUptoCardSaid : Prop := Claim7.holds Tryd.pinned (.plain (OpenSpec.upto passAfterSpec)) passAfterUptoCard

/-- THE SECOND FORM's CARD OF 'waypostlaw32.PassSteps'. -/
def passStepsUptoCard : Claim7 := { stood := { row := passStepsUptoRow, standIns := [], harness := (true, "e3ed390e512827d1e1b1c76f82bf27e33d00f2589980af1fc5d978b4789fe0c9"), looks := false }, kinds := [], alts := [], laidByText := true, laidKinds := [.data, .data, .data, .widerDeep], laidTests := true, laidLooks := .later }
def PassStepsUptoCardSaid : Prop := Claim7.holds Tryd.pinned (.plain (OpenSpec.upto passStepsSpec)) passStepsUptoCard

/-- THE SECOND FORM's CARD OF 'waypostlaw32.PassParts'. -/
def passPartsUptoCard : Claim7 := { stood := { row := passPartsUptoRow, standIns := [], harness := (true, "e3ed390e512827d1e1b1c76f82bf27e33d00f2589980af1fc5d978b4789fe0c9"), looks := false }, kinds := [], alts := [], laidByText := true, laidKinds := [.data, .data, .data, .widerDeep], laidTests := true, laidLooks := .later }
def PassPartsUptoCardSaid : Prop := Claim7.holds Tryd.pinned (.plain (OpenSpec.upto passPartsSpec)) passPartsUptoCard

/-- THE SECOND FORM's CARD OF 'waypostlaw32.PassChains'. -/
def passChainsUptoCard : Claim7 := { stood := { row := passChainsUptoRow, standIns := [], harness := (true, "e3ed390e512827d1e1b1c76f82bf27e33d00f2589980af1fc5d978b4789fe0c9"), looks := false }, kinds := [], alts := [], laidByText := true, laidKinds := [.data, .data, .data, .widerDeep], laidTests := true, laidLooks := .later }
def PassChainsUptoCardSaid : Prop := Claim7.holds Tryd.pinned (.plain (OpenSpec.upto passChainsSpec)) passChainsUptoCard

/-- THE SECOND FORM's CARD OF 'waypostlaw32.PassFixed'. -/
def passFixedUptoCard : Claim7 := { stood := { row := passFixedUptoRow, standIns := [], harness := (true, "e3ed390e512827d1e1b1c76f82bf27e33d00f2589980af1fc5d978b4789fe0c9"), looks := false }, kinds := [], alts := [], laidByText := true, laidKinds := [.data, .data, .data, .widerDeep], laidTests := true, laidLooks := .later }
def PassFixedUptoCardSaid : Prop := Claim7.holds Tryd.pinned (.plain (OpenSpec.upto passFixedSpec)) passFixedUptoCard

/-- THE SECOND FORM's CARD OF 'waypostlaw32.PassEnds'. -/
def passEndsUptoCard : Claim7 := { stood := { row := passEndsUptoRow, standIns := [], harness := (true, "e3ed390e512827d1e1b1c76f82bf27e33d00f2589980af1fc5d978b4789fe0c9"), looks := false }, kinds := [], alts := [], laidByText := true, laidKinds := [.data, .data, .data, .widerDeep], laidTests := true, laidLooks := .later }
def PassEndsUptoCardSaid : Prop := Claim7.holds Tryd.pinned (.plain (OpenSpec.upto passEndsSpec)) passEndsUptoCard

/-- THE SECOND FORM's CARD OF 'waypostlaw32.PassKnown'. -/
def passKnownUptoCard : Claim7 := { stood := { row := passKnownUptoRow, standIns := [], harness := (true, "e3ed390e512827d1e1b1c76f82bf27e33d00f2589980af1fc5d978b4789fe0c9"), looks := false }, kinds := [], alts := [], laidByText := true, laidKinds := [.data, .data, .data, .widerDeep], laidTests := true, laidLooks := .later }
def PassKnownUptoCardSaid : Prop := Claim7.holds Tryd.pinned (.plain (OpenSpec.upto passKnownSpec)) passKnownUptoCard
end Rows
end Go.Proofs.YtjkmkpehnnkpiaaDoor
