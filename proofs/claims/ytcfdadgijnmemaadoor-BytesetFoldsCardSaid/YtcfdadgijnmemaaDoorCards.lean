/-
  DERIVED. GIVEN WITH THE SEED: THE CARDS: each row of YtcfdadgijnmemaaDoorRows.lean that lists a variable, with what it lists TIED to the program's text (the seventh form; the later family's looks); each row that meets fmt, with fmt's text TOLD by the authors' own Lean function (tested against real Go, not proved from fmt's source: count such statements apart). THE CARD IS WHAT COUNTS. Prove the row's statement (the work); the ties are given (YtcfdadgijnmemaaDoorTie.lean); close each card by the builder's one call (the guide's Derived/Test/ToyasCard.lean, 'card_holds'). Laid BY PROGRAM, IN A SANDBOX (cutbox-door.mjs). By AI agents, Wed Nov 11 2026. No macro, syntax, notation, axiom, sorry.
-/
import Derived.Test.YtcfdadgijnmemaaDoorRows
import GoSem.ClaimSeven
namespace Go.Proofs.YtcfdadgijnmemaaDoor
namespace Rows

/-- THE TIED CARD OF 'waypostlaw01.BytesetMakes'. -/
def bytesetMakesCard : Claim7 := { stood := { row := bytesetMakesRow, standIns := [], harness := (true, "efd8c81b16641e30dfbb37d01147a7a489c10acf3f202de3a56076b3e4ab621a"), looks := false }, kinds := [], alts := [], laidByText := true, laidKinds := [.data], laidTests := true, laidLooks := .later }
def BytesetMakesCardSaid : Prop := Claim7.holds Tryd.pinned (.plain (OpenSpec.ofChange bytesetMakesSpec)) bytesetMakesCard

/-- THE TIED CARD OF 'waypostlaw01.BytesetTexts'. -/
def bytesetTextsCard : Claim7 := { stood := { row := bytesetTextsRow, standIns := [], harness := (true, "efd8c81b16641e30dfbb37d01147a7a489c10acf3f202de3a56076b3e4ab621a"), looks := false }, kinds := [], alts := [], laidByText := true, laidKinds := [.data], laidTests := true, laidLooks := .later }
def BytesetTextsCardSaid : Prop := Claim7.holds Tryd.pinned (.plain (OpenSpec.ofChange bytesetTextsSpec)) bytesetTextsCard

/-- THE TIED CARD OF 'waypostlaw01.BytesetOnes'. -/
def bytesetOnesCard : Claim7 := { stood := { row := bytesetOnesRow, standIns := [], harness := (true, "efd8c81b16641e30dfbb37d01147a7a489c10acf3f202de3a56076b3e4ab621a"), looks := false }, kinds := [], alts := [], laidByText := true, laidKinds := [.data], laidTests := true, laidLooks := .later }
def BytesetOnesCardSaid : Prop := Claim7.holds Tryd.pinned (.plain (OpenSpec.ofChange bytesetOnesSpec)) bytesetOnesCard

/-- THE TIED CARD OF 'waypostlaw01.BytesetKnown'. -/
def bytesetKnownCard : Claim7 := { stood := { row := bytesetKnownRow, standIns := [], harness := (true, "efd8c81b16641e30dfbb37d01147a7a489c10acf3f202de3a56076b3e4ab621a"), looks := false }, kinds := [], alts := [], laidByText := true, laidKinds := [.data], laidTests := true, laidLooks := .later }
def BytesetKnownCardSaid : Prop := Claim7.holds Tryd.pinned (.plain (OpenSpec.ofChange bytesetKnownSpec)) bytesetKnownCard

/-- THE TIED CARD OF 'waypostlaw01.BytesetLogic'. -/
def bytesetLogicCard : Claim7 := { stood := { row := bytesetLogicRow, standIns := [], harness := (true, "efd8c81b16641e30dfbb37d01147a7a489c10acf3f202de3a56076b3e4ab621a"), looks := false }, kinds := [], alts := [], laidByText := true, laidKinds := [.data], laidTests := true, laidLooks := .later }
def BytesetLogicCardSaid : Prop := Claim7.holds Tryd.pinned (.plain (OpenSpec.ofChange bytesetLogicSpec)) bytesetLogicCard

/-- THE TIED CARD OF 'waypostlaw01.BytesetBack'. -/
def bytesetBackCard : Claim7 := { stood := { row := bytesetBackRow, standIns := [], harness := (true, "efd8c81b16641e30dfbb37d01147a7a489c10acf3f202de3a56076b3e4ab621a"), looks := false }, kinds := [], alts := [], laidByText := true, laidKinds := [.data], laidTests := true, laidLooks := .later }
def BytesetBackCardSaid : Prop := Claim7.holds Tryd.pinned (.plain (OpenSpec.ofChange bytesetBackSpec)) bytesetBackCard

/-- THE TIED CARD OF 'waypostlaw01.BytesetFolds'. -/
def bytesetFoldsCard : Claim7 := { stood := { row := bytesetFoldsRow, standIns := [], harness := (true, "efd8c81b16641e30dfbb37d01147a7a489c10acf3f202de3a56076b3e4ab621a"), looks := false }, kinds := [], alts := [], laidByText := true, laidKinds := [.data], laidTests := true, laidLooks := .later }
def BytesetFoldsCardSaid : Prop := Claim7.holds Tryd.pinned (.plain (OpenSpec.ofChange bytesetFoldsSpec)) bytesetFoldsCard

/-- THE SECOND FORM's CARD OF 'waypostlaw01.BytesetMakes'. -/
def bytesetMakesUptoCard : Claim7 := { stood := { row := bytesetMakesUptoRow, standIns := [], harness := (true, "efd8c81b16641e30dfbb37d01147a7a489c10acf3f202de3a56076b3e4ab621a"), looks := false }, kinds := [], alts := [], laidByText := true, laidKinds := [.data], laidTests := true, laidLooks := .later }
def BytesetMakesUptoCardSaid : Prop := Claim7.holds Tryd.pinned (.plain (OpenSpec.upto bytesetMakesSpec)) bytesetMakesUptoCard

/-- THE SECOND FORM's CARD OF 'waypostlaw01.BytesetTexts'. -/
def bytesetTextsUptoCard : Claim7 := { stood := { row := bytesetTextsUptoRow, standIns := [], harness := (true, "efd8c81b16641e30dfbb37d01147a7a489c10acf3f202de3a56076b3e4ab621a"), looks := false }, kinds := [], alts := [], laidByText := true, laidKinds := [.data], laidTests := true, laidLooks := .later }
def BytesetTextsUptoCardSaid : Prop := Claim7.holds Tryd.pinned (.plain (OpenSpec.upto bytesetTextsSpec)) bytesetTextsUptoCard

/-- THE SECOND FORM's CARD OF 'waypostlaw01.BytesetOnes'. -/
def bytesetOnesUptoCard : Claim7 := { stood := { row := bytesetOnesUptoRow, standIns := [], harness := (true, "efd8c81b16641e30dfbb37d01147a7a489c10acf3f202de3a56076b3e4ab621a"), looks := false }, kinds := [], alts := [], laidByText := true, laidKinds := [.data], laidTests := true, laidLooks := .later }
def BytesetOnesUptoCardSaid : Prop := Claim7.holds Tryd.pinned (.plain (OpenSpec.upto bytesetOnesSpec)) bytesetOnesUptoCard

/-- THE SECOND FORM's CARD OF 'waypostlaw01.BytesetKnown'. -/
def bytesetKnownUptoCard : Claim7 := { stood := { row := bytesetKnownUptoRow, standIns := [], harness := (true, "efd8c81b16641e30dfbb37d01147a7a489c10acf3f202de3a56076b3e4ab621a"), looks := false }, kinds := [], alts := [], laidByText := true, laidKinds := [.data], laidTests := true, laidLooks := .later }
def BytesetKnownUptoCardSaid : Prop := Claim7.holds Tryd.pinned (.plain (OpenSpec.upto bytesetKnownSpec)) bytesetKnownUptoCard

/-- THE SECOND FORM's CARD OF 'waypostlaw01.BytesetLogic'. -/
def bytesetLogicUptoCard : Claim7 := { stood := { row := bytesetLogicUptoRow, standIns := [], harness := (true, "efd8c81b16641e30dfbb37d01147a7a489c10acf3f202de3a56076b3e4ab621a"), looks := false }, kinds := [], alts := [], laidByText := true, laidKinds := [.data], laidTests := true, laidLooks := .later }
def BytesetLogicUptoCardSaid : Prop := Claim7.holds Tryd.pinned (.plain (OpenSpec.upto bytesetLogicSpec)) bytesetLogicUptoCard

/-- THE SECOND FORM's CARD OF 'waypostlaw01.BytesetBack'. -/
def bytesetBackUptoCard : Claim7 := { stood := { row := bytesetBackUptoRow, standIns := [], harness := (true, "efd8c81b16641e30dfbb37d01147a7a489c10acf3f202de3a56076b3e4ab621a"), looks := false }, kinds := [], alts := [], laidByText := true, laidKinds := [.data], laidTests := true, laidLooks := .later }
def BytesetBackUptoCardSaid : Prop := Claim7.holds Tryd.pinned (.plain (OpenSpec.upto bytesetBackSpec)) bytesetBackUptoCard

/-- THE SECOND FORM's CARD OF 'waypostlaw01.BytesetFolds'. -/
def bytesetFoldsUptoCard : Claim7 := { stood := { row := bytesetFoldsUptoRow, standIns := [], harness := (true, "efd8c81b16641e30dfbb37d01147a7a489c10acf3f202de3a56076b3e4ab621a"), looks := false }, kinds := [], alts := [], laidByText := true, laidKinds := [.data], laidTests := true, laidLooks := .later }
def BytesetFoldsUptoCardSaid : Prop := Claim7.holds Tryd.pinned (.plain (OpenSpec.upto bytesetFoldsSpec)) bytesetFoldsUptoCard
end Rows
end Go.Proofs.YtcfdadgijnmemaaDoor
