/-
  DERIVED. GIVEN WITH THE SEED: THE CARDS: each row of YtlipjagdlpkjpaaDoorRows.lean that lists a variable, with what it lists TIED to the program's text (the seventh form; the later family's looks); each row that meets fmt, with fmt's text TOLD by the authors' own Lean function (tested against real Go, not proved from fmt's source: count such statements apart). THE CARD IS WHAT COUNTS. Prove the row's statement (the work); the ties are given (YtlipjagdlpkjpaaDoorTie.lean); close each card by the builder's one call (the guide's Derived/Test/ToyasCard.lean, 'card_holds'). Laid BY PROGRAM, IN A SANDBOX (cutbox-door.mjs). By AI agents, Wed Nov 11 2026. No macro, syntax, notation, axiom, sorry.
-/
import Derived.Test.YtlipjagdlpkjpaaDoorRows
import GoSem.ClaimSeven
namespace Go.Proofs.YtlipjagdlpkjpaaDoor
namespace Rows

/-- THE TIED CARD OF 'waypostlaw26.FlagReads'. -/
def flagReadsCard : Claim7 := { stood := { row := flagReadsRow, standIns := [], harness := (true, "ff61117f1f0972c3e3a164d9e2979c8c960c366ff53462515477f5e17f764e86"), looks := false }, kinds := [], alts := [], laidByText := true, laidKinds := [.data, .data, .data, .data, .widerDeep, .pinned], laidTests := true, laidLooks := .later }
def FlagReadsCardSaid : Prop := Claim7.holds Tryd.pinned (.plain (OpenSpec.ofChange flagReadsSpec)) flagReadsCard

/-- THE TIED CARD OF 'waypostlaw26.FlagChecks'. -/
def flagChecksCard : Claim7 := { stood := { row := flagChecksRow, standIns := [], harness := (true, "ff61117f1f0972c3e3a164d9e2979c8c960c366ff53462515477f5e17f764e86"), looks := false }, kinds := [], alts := [], laidByText := true, laidKinds := [.data, .data, .data, .data, .widerDeep, .pinned], laidTests := true, laidLooks := .later }
def FlagChecksCardSaid : Prop := Claim7.holds Tryd.pinned (.plain (OpenSpec.ofChange flagChecksSpec)) flagChecksCard

/-- THE TIED CARD OF 'waypostlaw26.FlagAdds'. -/
def flagAddsCard : Claim7 := { stood := { row := flagAddsRow, standIns := [], harness := (true, "ff61117f1f0972c3e3a164d9e2979c8c960c366ff53462515477f5e17f764e86"), looks := false }, kinds := [], alts := [], laidByText := true, laidKinds := [.data, .data, .data, .data, .widerDeep, .pinned], laidTests := true, laidLooks := .later }
def FlagAddsCardSaid : Prop := Claim7.holds Tryd.pinned (.plain (OpenSpec.ofChange flagAddsSpec)) flagAddsCard

/-- THE TIED CARD OF 'waypostlaw26.FlagKnown'. -/
def flagKnownCard : Claim7 := { stood := { row := flagKnownRow, standIns := [], harness := (true, "ff61117f1f0972c3e3a164d9e2979c8c960c366ff53462515477f5e17f764e86"), looks := false }, kinds := [], alts := [], laidByText := true, laidKinds := [.data, .data, .data, .data, .widerDeep, .pinned], laidTests := true, laidLooks := .later }
def FlagKnownCardSaid : Prop := Claim7.holds Tryd.pinned (.plain (OpenSpec.ofChange flagKnownSpec)) flagKnownCard

/-- THE TIED CARD OF 'waypostlaw26.FlagBack'. -/
def flagBackCard : Claim7 := { stood := { row := flagBackRow, standIns := [], harness := (true, "ff61117f1f0972c3e3a164d9e2979c8c960c366ff53462515477f5e17f764e86"), looks := false }, kinds := [], alts := [], laidByText := true, laidKinds := [.data, .data, .data, .data, .widerDeep, .pinned], laidTests := true, laidLooks := .later }
def FlagBackCardSaid : Prop := Claim7.holds Tryd.pinned (.plain (OpenSpec.ofChange flagBackSpec)) flagBackCard

/-- THE TIED CARD OF 'waypostlaw26.FlagNames'. -/
def flagNamesCard : Claim7 := { stood := { row := flagNamesRow, standIns := [], harness := (true, "ff61117f1f0972c3e3a164d9e2979c8c960c366ff53462515477f5e17f764e86"), looks := false }, kinds := [], alts := [], laidByText := true, laidKinds := [.data, .data, .data, .data, .widerDeep, .pinned], laidTests := true, laidLooks := .later }
def FlagNamesCardSaid : Prop := Claim7.holds Tryd.pinned (.plain (OpenSpec.ofChange flagNamesSpec)) flagNamesCard

/-- THE SECOND FORM's CARD OF 'waypostlaw26.FlagReads'. -/
def flagReadsUptoCard : Claim7 := { stood := { row := flagReadsUptoRow, standIns := [], harness := (true, "ff61117f1f0972c3e3a164d9e2979c8c960c366ff53462515477f5e17f764e86"), looks := false }, kinds := [], alts := [], laidByText := true, laidKinds := [.data, .data, .data, .data, .widerDeep, .pinned], laidTests := true, laidLooks := .later }
def FlagReadsUptoCardSaid : Prop := Claim7.holds Tryd.pinned (.plain (OpenSpec.upto flagReadsSpec)) flagReadsUptoCard

/-- THE SECOND FORM's CARD OF 'waypostlaw26.FlagChecks'. -/
def flagChecksUptoCard : Claim7 := { stood := { row := flagChecksUptoRow, standIns := [], harness := (true, "ff61117f1f0972c3e3a164d9e2979c8c960c366ff53462515477f5e17f764e86"), looks := false }, kinds := [], alts := [], laidByText := true, laidKinds := [.data, .data, .data, .data, .widerDeep, .pinned], laidTests := true, laidLooks := .later }
def FlagChecksUptoCardSaid : Prop := Claim7.holds Tryd.pinned (.plain (OpenSpec.upto flagChecksSpec)) flagChecksUptoCard

/-- THE SECOND FORM's CARD OF 'waypostlaw26.FlagAdds'. -/
def flagAddsUptoCard : Claim7 := { stood := { row := flagAddsUptoRow, standIns := [], harness := (true, "ff61117f1f0972c3e3a164d9e2979c8c960c366ff53462515477f5e17f764e86"), looks := false }, kinds := [], alts := [], laidByText := true, laidKinds := [.data, .data, .data, .data, .widerDeep, .pinned], laidTests := true, laidLooks := .later }
def FlagAddsUptoCardSaid : Prop := Claim7.holds Tryd.pinned (.plain (OpenSpec.upto flagAddsSpec)) flagAddsUptoCard

/-- THE SECOND FORM's CARD OF 'waypostlaw26.FlagKnown'. -/
def flagKnownUptoCard : Claim7 := { stood := { row := flagKnownUptoRow, standIns := [], harness := (true, "ff61117f1f0972c3e3a164d9e2979c8c960c366ff53462515477f5e17f764e86"), looks := false }, kinds := [], alts := [], laidByText := true, laidKinds := [.data, .data, .data, .data, .widerDeep, .pinned], laidTests := true, laidLooks := .later }
def FlagKnownUptoCardSaid : Prop := Claim7.holds Tryd.pinned (.plain (OpenSpec.upto flagKnownSpec)) flagKnownUptoCard

/-- THE SECOND FORM's CARD OF 'waypostlaw26.FlagBack'. -/
def flagBackUptoCard : Claim7 := { stood := { row := flagBackUptoRow, standIns := [], harness := (true, "ff61117f1f0972c3e3a164d9e2979c8c960c366ff53462515477f5e17f764e86"), looks := false }, kinds := [], alts := [], laidByText := true, laidKinds := [.data, .data, .data, .data, .widerDeep, .pinned], laidTests := true, laidLooks := .later }
def FlagBackUptoCardSaid : Prop := Claim7.holds Tryd.pinned (.plain (OpenSpec.upto flagBackSpec)) flagBackUptoCard

/-- THE SECOND FORM's CARD OF 'waypostlaw26.FlagNames'. -/
def flagNamesUptoCard : Claim7 := { stood := { row := flagNamesUptoRow, standIns := [], harness := (true, "ff61117f1f0972c3e3a164d9e2979c8c960c366ff53462515477f5e17f764e86"), looks := false }, kinds := [], alts := [], laidByText := true, laidKinds := [.data, .data, .data, .data, .widerDeep, .pinned], laidTests := true, laidLooks := .later }
def FlagNamesUptoCardSaid : Prop := Claim7.holds Tryd.pinned (.plain (OpenSpec.upto flagNamesSpec)) flagNamesUptoCard
end Rows
end Go.Proofs.YtlipjagdlpkjpaaDoor
