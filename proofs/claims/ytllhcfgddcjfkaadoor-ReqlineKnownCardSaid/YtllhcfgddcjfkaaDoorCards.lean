/-
  DERIVED. GIVEN WITH THE SEED: THE CARDS: each row of YtllhcfgddcjfkaaDoorRows.lean that lists a variable, with what it lists TIED to the program's text (the seventh form; the later family's looks); each row that meets fmt, with fmt's text TOLD by the authors' own Lean function (tested against real Go, not proved from fmt's source: count such statements apart). THE CARD IS WHAT COUNTS. Prove the row's statement (the work); the ties are given (YtllhcfgddcjfkaaDoorTie.lean); close each card by the builder's one call (the guide's Derived/Test/ToyasCard.lean, 'card_holds'). Laid BY PROGRAM, IN A SANDBOX (cutbox-door.mjs). By AI agents, Wed Nov 11 2026. No macro, syntax, notation, axiom, sorry.
-/
import Derived.Test.YtllhcfgddcjfkaaDoorRows
import GoSem.ClaimSeven
namespace Go.Proofs.YtllhcfgddcjfkaaDoor
namespace Rows

/-- THE TIED CARD OF 'waypostlaw08.ReqlineParts'. -/
def reqlinePartsCard : Claim7 := { stood := { row := reqlinePartsRow, standIns := [], harness := (true, "208c6c55a8fd72b2164ab60d209d69aed18e1e09a41776a48bda8164f03bec83"), looks := false }, kinds := [], alts := [], laidByText := true, laidKinds := [.data, .pinned], laidTests := true, laidLooks := .later }
def ReqlinePartsCardSaid : Prop := Claim7.holds Tryd.pinned (.plain (OpenSpec.ofChange reqlinePartsSpec)) reqlinePartsCard

/-- THE TIED CARD OF 'waypostlaw08.ReqlineParses'. -/
def reqlineParsesCard : Claim7 := { stood := { row := reqlineParsesRow, standIns := [], harness := (true, "208c6c55a8fd72b2164ab60d209d69aed18e1e09a41776a48bda8164f03bec83"), looks := false }, kinds := [], alts := [], laidByText := true, laidKinds := [.data, .pinned], laidTests := true, laidLooks := .later }
def ReqlineParsesCardSaid : Prop := Claim7.holds Tryd.pinned (.plain (OpenSpec.ofChange reqlineParsesSpec)) reqlineParsesCard

/-- THE TIED CARD OF 'waypostlaw08.ReqlineLong'. -/
def reqlineLongCard : Claim7 := { stood := { row := reqlineLongRow, standIns := [], harness := (true, "208c6c55a8fd72b2164ab60d209d69aed18e1e09a41776a48bda8164f03bec83"), looks := false }, kinds := [], alts := [], laidByText := true, laidKinds := [.data, .pinned], laidTests := true, laidLooks := .later }
def ReqlineLongCardSaid : Prop := Claim7.holds Tryd.pinned (.plain (OpenSpec.ofChange reqlineLongSpec)) reqlineLongCard

/-- THE TIED CARD OF 'waypostlaw08.ReqlinePlaces'. -/
def reqlinePlacesCard : Claim7 := { stood := { row := reqlinePlacesRow, standIns := [], harness := (true, "208c6c55a8fd72b2164ab60d209d69aed18e1e09a41776a48bda8164f03bec83"), looks := false }, kinds := [], alts := [], laidByText := true, laidKinds := [.data, .pinned], laidTests := true, laidLooks := .later }
def ReqlinePlacesCardSaid : Prop := Claim7.holds Tryd.pinned (.plain (OpenSpec.ofChange reqlinePlacesSpec)) reqlinePlacesCard

/-- THE TIED CARD OF 'waypostlaw08.ReqlineKnown'. -/
def reqlineKnownCard : Claim7 := { stood := { row := reqlineKnownRow, standIns := [], harness := (true, "208c6c55a8fd72b2164ab60d209d69aed18e1e09a41776a48bda8164f03bec83"), looks := false }, kinds := [], alts := [], laidByText := true, laidKinds := [.data, .pinned], laidTests := true, laidLooks := .later }
def ReqlineKnownCardSaid : Prop := Claim7.holds Tryd.pinned (.plain (OpenSpec.ofChange reqlineKnownSpec)) reqlineKnownCard

/-- THE TIED CARD OF 'waypostlaw08.ReqlineBack'. -/
def reqlineBackCard : Claim7 := { stood := { row := reqlineBackRow, standIns := [], harness := (true, "208c6c55a8fd72b2164ab60d209d69aed18e1e09a41776a48bda8164f03bec83"), looks := false }, kinds := [], alts := [], laidByText := true, laidKinds := [.data, .pinned], laidTests := true, laidLooks := .later }
def ReqlineBackCardSaid : Prop := Claim7.holds Tryd.pinned (.plain (OpenSpec.ofChange reqlineBackSpec)) reqlineBackCard

/-- THE TIED CARD OF 'waypostlaw08.ReqlineTexts'. -/
def reqlineTextsCard : Claim7 := { stood := { row := reqlineTextsRow, standIns := [], harness := (true, "208c6c55a8fd72b2164ab60d209d69aed18e1e09a41776a48bda8164f03bec83"), looks := false }, kinds := [], alts := [], laidByText := true, laidKinds := [.data, .pinned], laidTests := true, laidLooks := .later }
def ReqlineTextsCardSaid : Prop := Claim7.holds Tryd.pinned (.plain (OpenSpec.ofChange reqlineTextsSpec)) reqlineTextsCard

/-- THE SECOND FORM's CARD OF 'waypostlaw08.ReqlineParts'. -/
def reqlinePartsUptoCard : Claim7 := { stood := { row := reqlinePartsUptoRow, standIns := [], harness := (true, "208c6c55a8fd72b2164ab60d209d69aed18e1e09a41776a48bda8164f03bec83"), looks := false }, kinds := [], alts := [], laidByText := true, laidKinds := [.data, .pinned], laidTests := true, laidLooks := .later }
def ReqlinePartsUptoCardSaid : Prop := Claim7.holds Tryd.pinned (.plain (OpenSpec.upto reqlinePartsSpec)) reqlinePartsUptoCard

/-- THE SECOND FORM's CARD OF 'waypostlaw08.ReqlineParses'. -/
def reqlineParsesUptoCard : Claim7 := { stood := { row := reqlineParsesUptoRow, standIns := [], harness := (true, "208c6c55a8fd72b2164ab60d209d69aed18e1e09a41776a48bda8164f03bec83"), looks := false }, kinds := [], alts := [], laidByText := true, laidKinds := [.data, .pinned], laidTests := true, laidLooks := .later }
def ReqlineParsesUptoCardSaid : Prop := Claim7.holds Tryd.pinned (.plain (OpenSpec.upto reqlineParsesSpec)) reqlineParsesUptoCard

/-- THE SECOND FORM's CARD OF 'waypostlaw08.ReqlineLong'. -/
def reqlineLongUptoCard : Claim7 := { stood := { row := reqlineLongUptoRow, standIns := [], harness := (true, "208c6c55a8fd72b2164ab60d209d69aed18e1e09a41776a48bda8164f03bec83"), looks := false }, kinds := [], alts := [], laidByText := true, laidKinds := [.data, .pinned], laidTests := true, laidLooks := .later }
def ReqlineLongUptoCardSaid : Prop := Claim7.holds Tryd.pinned (.plain (OpenSpec.upto reqlineLongSpec)) reqlineLongUptoCard

/-- THE SECOND FORM's CARD OF 'waypostlaw08.ReqlinePlaces'. -/
def reqlinePlacesUptoCard : Claim7 := { stood := { row := reqlinePlacesUptoRow, standIns := [], harness := (true, "208c6c55a8fd72b2164ab60d209d69aed18e1e09a41776a48bda8164f03bec83"), looks := false }, kinds := [], alts := [], laidByText := true, laidKinds := [.data, .pinned], laidTests := true, laidLooks := .later }
def ReqlinePlacesUptoCardSaid : Prop := Claim7.holds Tryd.pinned (.plain (OpenSpec.upto reqlinePlacesSpec)) reqlinePlacesUptoCard

/-- THE SECOND FORM's CARD OF 'waypostlaw08.ReqlineKnown'. -/
def reqlineKnownUptoCard : Claim7 := { stood := { row := reqlineKnownUptoRow, standIns := [], harness := (true, "208c6c55a8fd72b2164ab60d209d69aed18e1e09a41776a48bda8164f03bec83"), looks := false }, kinds := [], alts := [], laidByText := true, laidKinds := [.data, .pinned], laidTests := true, laidLooks := .later }
def ReqlineKnownUptoCardSaid : Prop := Claim7.holds Tryd.pinned (.plain (OpenSpec.upto reqlineKnownSpec)) reqlineKnownUptoCard

/-- THE SECOND FORM's CARD OF 'waypostlaw08.ReqlineBack'. -/
def reqlineBackUptoCard : Claim7 := { stood := { row := reqlineBackUptoRow, standIns := [], harness := (true, "208c6c55a8fd72b2164ab60d209d69aed18e1e09a41776a48bda8164f03bec83"), looks := false }, kinds := [], alts := [], laidByText := true, laidKinds := [.data, .pinned], laidTests := true, laidLooks := .later }
def ReqlineBackUptoCardSaid : Prop := Claim7.holds Tryd.pinned (.plain (OpenSpec.upto reqlineBackSpec)) reqlineBackUptoCard

/-- THE SECOND FORM's CARD OF 'waypostlaw08.ReqlineTexts'. -/
def reqlineTextsUptoCard : Claim7 := { stood := { row := reqlineTextsUptoRow, standIns := [], harness := (true, "208c6c55a8fd72b2164ab60d209d69aed18e1e09a41776a48bda8164f03bec83"), looks := false }, kinds := [], alts := [], laidByText := true, laidKinds := [.data, .pinned], laidTests := true, laidLooks := .later }
def ReqlineTextsUptoCardSaid : Prop := Claim7.holds Tryd.pinned (.plain (OpenSpec.upto reqlineTextsSpec)) reqlineTextsUptoCard
end Rows
end Go.Proofs.YtllhcfgddcjfkaaDoor
