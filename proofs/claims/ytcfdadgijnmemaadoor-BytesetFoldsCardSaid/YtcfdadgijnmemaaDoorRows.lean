/-
  NARROWER THAN 'FOR EVERY INPUT', by the rows' own cells (each row's printed sentence says how): BytesetMakes: laid · BytesetTexts: laid · BytesetOnes: laid · BytesetKnown: laid · BytesetLogic: laid · BytesetBack: laid · BytesetFolds: laid.
  DERIVED. THE GIVEN ROWS OF THIS SEAT. 7 by the template 'for every input the law returns true; each argument reads behind the call as it read before'; 0 by the template 'total and deterministic' (their statements: YtcfdadgijnmemaaDoorTotals.lean).
  GIVEN WITH THE SEED: the statements are not yours to turn. If you find one false, say at which input.
  Laid BY PROGRAM, IN A SANDBOX (cutbox-rows.mjs): the forced cells as the released guide's own fill.sh prints them over the translation 22b7fc95adea01a7… (all of the seat's roots in one cut). By AI agents, Wed Nov 11 2026. No macro, syntax, notation, axiom, sorry.
-/
import Derived.Test.YtcfdadgijnmemaaDoorChecked
import GoSem.Claim
import GoSem.ClaimJoined
import GoSem.ClaimMapViews
import Derived.JoinedTies
import Derived.KernelRfl
namespace Go.Proofs.YtcfdadgijnmemaaDoor
/- THE CELL 'sum', in the pinned program and in every row, IS THE sha256 OF THE DUMP (.gsa) THAT YtcfdadgijnmemaaDoorProg.lean LOADS. Nothing in Lean hashes anything: it is a label: what it is worth is what the hold of that sum in a sandbox is worth. -/
noncomputable def Tryd.pinned : Pinned := { name := "ytcfdadgijnmemaadoor", sum := "22b7fc95adea01a7a23dd6a8025f7f5026205c415f8bd2d1704e9392fedde0f9", checked := Tryd.checked }
namespace Rows
def none {H : Type} : Left H := { results := [], args := [] }

/- WHAT THE LISTED PACKAGE-LEVEL VARIABLES READ AS WHEN THE CALL BEGINS. Each datum BY PROGRAM (the guide's laid-datum.mjs) off the statement by which the dump's own 'gosem.cut.vars' lays the variable. In a bare row this is a premise. The card (YtcfdadgijnmemaaDoorCards.lean) ties it to the program's text. -/
def laid_math_bits_deBruijn64tab {H : Type} : DataW H := .agg [.lit (.int .u8 0), .lit (.int .u8 1), .lit (.int .u8 56), .lit (.int .u8 2), .lit (.int .u8 57), .lit (.int .u8 49), .lit (.int .u8 28), .lit (.int .u8 3), .lit (.int .u8 61), .lit (.int .u8 58), .lit (.int .u8 42), .lit (.int .u8 50), .lit (.int .u8 38), .lit (.int .u8 29), .lit (.int .u8 17), .lit (.int .u8 4), .lit (.int .u8 62), .lit (.int .u8 47), .lit (.int .u8 59), .lit (.int .u8 36), .lit (.int .u8 45), .lit (.int .u8 43), .lit (.int .u8 51), .lit (.int .u8 22), .lit (.int .u8 53), .lit (.int .u8 39), .lit (.int .u8 33), .lit (.int .u8 30), .lit (.int .u8 24), .lit (.int .u8 18), .lit (.int .u8 12), .lit (.int .u8 5), .lit (.int .u8 63), .lit (.int .u8 55), .lit (.int .u8 48), .lit (.int .u8 27), .lit (.int .u8 60), .lit (.int .u8 41), .lit (.int .u8 37), .lit (.int .u8 16), .lit (.int .u8 46), .lit (.int .u8 35), .lit (.int .u8 44), .lit (.int .u8 21), .lit (.int .u8 52), .lit (.int .u8 32), .lit (.int .u8 23), .lit (.int .u8 11), .lit (.int .u8 54), .lit (.int .u8 26), .lit (.int .u8 40), .lit (.int .u8 15), .lit (.int .u8 34), .lit (.int .u8 20), .lit (.int .u8 31), .lit (.int .u8 10), .lit (.int .u8 25), .lit (.int .u8 14), .lit (.int .u8 19), .lit (.int .u8 9), .lit (.int .u8 13), .lit (.int .u8 8), .lit (.int .u8 7), .lit (.int .u8 6)]

/-- 'waypostlaw01.BytesetMakes': WHATEVER THE INPUT: true; the input reads as it did. -/
def bytesetMakesSpec : ChangeSpec := { name := "bytesetMakes", fn := fun _ => fun
  | [d1, d2, d3] => { results := [.lit (.bool true)], args := [d1, d2, d3] }
  | _ => none }
def bytesetMakesRow : OpenClaim := { program := "ytcfdadgijnmemaadoor", sum := "22b7fc95adea01a7a23dd6a8025f7f5026205c415f8bd2d1704e9392fedde0f9", func := "waypost/waypostlaw01.BytesetMakes", spec := "bytesetMakes", unfollowed := true, recurses := true, named := ["math/bits.deBruijn64tab"], apart := false, laid := [("math/bits.deBruijn64tab", laid_math_bits_deBruijn64tab)] }
def BytesetMakesSaid : Prop := bytesetMakesRow.holds Tryd.pinned (OpenSpec.ofChange bytesetMakesSpec)

/-- ITS FALSE NEIGHBOUR: 'it returns false'. Refute it at one input. -/
def bytesetMakesWrong : ChangeSpec := { name := "bytesetMakes", fn := fun _ => fun
  | [d1, d2, d3] => { results := [.lit (.bool false)], args := [d1, d2, d3] }
  | _ => none }
def BytesetMakesWrongFalsely : Prop := bytesetMakesRow.holds Tryd.pinned (OpenSpec.ofChange bytesetMakesWrong)

/-- 'waypostlaw01.BytesetTexts': WHATEVER THE INPUT: true; the input reads as it did. -/
def bytesetTextsSpec : ChangeSpec := { name := "bytesetTexts", fn := fun _ => fun
  | [d1, d2, d3] => { results := [.lit (.bool true)], args := [d1, d2, d3] }
  | _ => none }
def bytesetTextsRow : OpenClaim := { program := "ytcfdadgijnmemaadoor", sum := "22b7fc95adea01a7a23dd6a8025f7f5026205c415f8bd2d1704e9392fedde0f9", func := "waypost/waypostlaw01.BytesetTexts", spec := "bytesetTexts", unfollowed := true, recurses := true, named := ["math/bits.deBruijn64tab"], apart := false, laid := [("math/bits.deBruijn64tab", laid_math_bits_deBruijn64tab)] }
def BytesetTextsSaid : Prop := bytesetTextsRow.holds Tryd.pinned (OpenSpec.ofChange bytesetTextsSpec)

/-- ITS FALSE NEIGHBOUR: 'it returns false'. Refute it at one input. -/
def bytesetTextsWrong : ChangeSpec := { name := "bytesetTexts", fn := fun _ => fun
  | [d1, d2, d3] => { results := [.lit (.bool false)], args := [d1, d2, d3] }
  | _ => none }
def BytesetTextsWrongFalsely : Prop := bytesetTextsRow.holds Tryd.pinned (OpenSpec.ofChange bytesetTextsWrong)

/-- 'waypostlaw01.BytesetOnes': WHATEVER THE INPUT: true; the input reads as it did. -/
def bytesetOnesSpec : ChangeSpec := { name := "bytesetOnes", fn := fun _ => fun
  | [d1, d2, d3] => { results := [.lit (.bool true)], args := [d1, d2, d3] }
  | _ => none }
def bytesetOnesRow : OpenClaim := { program := "ytcfdadgijnmemaadoor", sum := "22b7fc95adea01a7a23dd6a8025f7f5026205c415f8bd2d1704e9392fedde0f9", func := "waypost/waypostlaw01.BytesetOnes", spec := "bytesetOnes", unfollowed := true, recurses := true, named := ["math/bits.deBruijn64tab"], apart := false, laid := [("math/bits.deBruijn64tab", laid_math_bits_deBruijn64tab)] }
def BytesetOnesSaid : Prop := bytesetOnesRow.holds Tryd.pinned (OpenSpec.ofChange bytesetOnesSpec)

/-- ITS FALSE NEIGHBOUR: 'it returns false'. Refute it at one input. -/
def bytesetOnesWrong : ChangeSpec := { name := "bytesetOnes", fn := fun _ => fun
  | [d1, d2, d3] => { results := [.lit (.bool false)], args := [d1, d2, d3] }
  | _ => none }
def BytesetOnesWrongFalsely : Prop := bytesetOnesRow.holds Tryd.pinned (OpenSpec.ofChange bytesetOnesWrong)

/-- 'waypostlaw01.BytesetKnown': WHATEVER THE INPUT: true; the input reads as it did. -/
def bytesetKnownSpec : ChangeSpec := { name := "bytesetKnown", fn := fun _ => fun
  | [] => { results := [.lit (.bool true)], args := [] }
  | _ => none }
def bytesetKnownRow : OpenClaim := { program := "ytcfdadgijnmemaadoor", sum := "22b7fc95adea01a7a23dd6a8025f7f5026205c415f8bd2d1704e9392fedde0f9", func := "waypost/waypostlaw01.BytesetKnown", spec := "bytesetKnown", unfollowed := true, recurses := true, named := ["math/bits.deBruijn64tab"], apart := false, laid := [("math/bits.deBruijn64tab", laid_math_bits_deBruijn64tab)] }
def BytesetKnownSaid : Prop := bytesetKnownRow.holds Tryd.pinned (OpenSpec.ofChange bytesetKnownSpec)

/-- ITS FALSE NEIGHBOUR: 'it returns false'. Refute it at one input. -/
def bytesetKnownWrong : ChangeSpec := { name := "bytesetKnown", fn := fun _ => fun
  | [] => { results := [.lit (.bool false)], args := [] }
  | _ => none }
def BytesetKnownWrongFalsely : Prop := bytesetKnownRow.holds Tryd.pinned (OpenSpec.ofChange bytesetKnownWrong)

/-- 'waypostlaw01.BytesetLogic': WHATEVER THE INPUT: true; the input reads as it did. -/
def bytesetLogicSpec : ChangeSpec := { name := "bytesetLogic", fn := fun _ => fun
  | [d1, d2] => { results := [.lit (.bool true)], args := [d1, d2] }
  | _ => none }
def bytesetLogicRow : OpenClaim := { program := "ytcfdadgijnmemaadoor", sum := "22b7fc95adea01a7a23dd6a8025f7f5026205c415f8bd2d1704e9392fedde0f9", func := "waypost/waypostlaw01.BytesetLogic", spec := "bytesetLogic", unfollowed := true, recurses := true, named := ["math/bits.deBruijn64tab"], apart := false, laid := [("math/bits.deBruijn64tab", laid_math_bits_deBruijn64tab)] }
def BytesetLogicSaid : Prop := bytesetLogicRow.holds Tryd.pinned (OpenSpec.ofChange bytesetLogicSpec)

/-- ITS FALSE NEIGHBOUR: 'it returns false'. Refute it at one input. -/
def bytesetLogicWrong : ChangeSpec := { name := "bytesetLogic", fn := fun _ => fun
  | [d1, d2] => { results := [.lit (.bool false)], args := [d1, d2] }
  | _ => none }
def BytesetLogicWrongFalsely : Prop := bytesetLogicRow.holds Tryd.pinned (OpenSpec.ofChange bytesetLogicWrong)

/-- 'waypostlaw01.BytesetBack': WHATEVER THE INPUT: true; the input reads as it did. -/
def bytesetBackSpec : ChangeSpec := { name := "bytesetBack", fn := fun _ => fun
  | [d1, d2] => { results := [.lit (.bool true)], args := [d1, d2] }
  | _ => none }
def bytesetBackRow : OpenClaim := { program := "ytcfdadgijnmemaadoor", sum := "22b7fc95adea01a7a23dd6a8025f7f5026205c415f8bd2d1704e9392fedde0f9", func := "waypost/waypostlaw01.BytesetBack", spec := "bytesetBack", unfollowed := true, recurses := true, named := ["math/bits.deBruijn64tab"], apart := false, laid := [("math/bits.deBruijn64tab", laid_math_bits_deBruijn64tab)] }
def BytesetBackSaid : Prop := bytesetBackRow.holds Tryd.pinned (OpenSpec.ofChange bytesetBackSpec)

/-- ITS FALSE NEIGHBOUR: 'it returns false'. Refute it at one input. -/
def bytesetBackWrong : ChangeSpec := { name := "bytesetBack", fn := fun _ => fun
  | [d1, d2] => { results := [.lit (.bool false)], args := [d1, d2] }
  | _ => none }
def BytesetBackWrongFalsely : Prop := bytesetBackRow.holds Tryd.pinned (OpenSpec.ofChange bytesetBackWrong)

/-- 'waypostlaw01.BytesetFolds': WHATEVER THE INPUT: true; the input reads as it did. -/
def bytesetFoldsSpec : ChangeSpec := { name := "bytesetFolds", fn := fun _ => fun
  | [d1, d2, d3] => { results := [.lit (.bool true)], args := [d1, d2, d3] }
  | _ => none }
def bytesetFoldsRow : OpenClaim := { program := "ytcfdadgijnmemaadoor", sum := "22b7fc95adea01a7a23dd6a8025f7f5026205c415f8bd2d1704e9392fedde0f9", func := "waypost/waypostlaw01.BytesetFolds", spec := "bytesetFolds", unfollowed := true, recurses := true, named := ["math/bits.deBruijn64tab"], apart := false, laid := [("math/bits.deBruijn64tab", laid_math_bits_deBruijn64tab)] }
def BytesetFoldsSaid : Prop := bytesetFoldsRow.holds Tryd.pinned (OpenSpec.ofChange bytesetFoldsSpec)

/-- ITS FALSE NEIGHBOUR: 'it returns false'. Refute it at one input. -/
def bytesetFoldsWrong : ChangeSpec := { name := "bytesetFolds", fn := fun _ => fun
  | [d1, d2, d3] => { results := [.lit (.bool false)], args := [d1, d2, d3] }
  | _ => none }
def BytesetFoldsWrongFalsely : Prop := bytesetFoldsRow.holds Tryd.pinned (OpenSpec.ofChange bytesetFoldsWrong)

/- THE SECOND FORM. 'bulk': how many values and letters a reading holds, each counted each time it is reached (what is shared counts as often as it is met; a slice's spare places count too). A statement '..UptoSaid' is the law's where the arguments, and the package variables that the reading takes, are together of bulk at most 1048576: NARROWER than '..Said'. Prove '..Said' where nothing that the law and all that it calls make is longer than what came in: it says more and counts as full. Else prove '..UptoSaid'. A law counts once. -/
mutual
def uptoBulk {H : Type} : DataW H → Nat
  | .lit (.string bytes) => bytes.length + 1
  | .lit _ => 1
  | .nil => 1
  | .ptr d => uptoBulk d + 1
  | .slice elems spare => uptoBulkAll elems + uptoBulkAll spare + 1
  | .agg parts => uptoBulkAll parts + 1
  | .iface _ d => uptoBulk d + 1
  | .map entries => uptoBulkEntries entries + 1
  | .held _ => 1
def uptoBulkAll {H : Type} : List (DataW H) → Nat
  | [] => 0
  | d :: r => uptoBulk d + uptoBulkAll r
def uptoBulkEntries {H : Type} : List (Lit × DataW H) → Nat
  | [] => 0
  | x :: r => uptoBulkEntry x + uptoBulkEntries r
def uptoBulkEntry {H : Type} : Lit × DataW H → Nat
  | (.string bytes, d) => bytes.length + uptoBulk d + 1
  | (_, d) => uptoBulk d + 1
 end
def uptoSmall : (H : Type) → List (DataW H) → Bool := fun _ ds => decide (uptoBulkAll ds ≤ 1048576)
def OpenSpec.upto (s : _root_.Go.ChangeSpec) : _root_.Go.OpenSpec := { _root_.Go.OpenSpec.ofChange s with cond := some uptoSmall }

/-- 'waypostlaw01.BytesetMakes', WHERE WHAT IT READS IS OF BULK AT MOST 1048576: true; the input reads as it did. -/
def bytesetMakesUptoRow : OpenClaim := { program := "ytcfdadgijnmemaadoor", sum := "22b7fc95adea01a7a23dd6a8025f7f5026205c415f8bd2d1704e9392fedde0f9", func := "waypost/waypostlaw01.BytesetMakes", spec := "bytesetMakes", unfollowed := true, recurses := true, named := ["math/bits.deBruijn64tab"], apart := false, laid := [("math/bits.deBruijn64tab", laid_math_bits_deBruijn64tab)], narrowed := true }
def BytesetMakesUptoSaid : Prop := bytesetMakesUptoRow.holds Tryd.pinned (OpenSpec.upto bytesetMakesSpec)

/-- 'waypostlaw01.BytesetTexts', WHERE WHAT IT READS IS OF BULK AT MOST 1048576: true; the input reads as it did. -/
def bytesetTextsUptoRow : OpenClaim := { program := "ytcfdadgijnmemaadoor", sum := "22b7fc95adea01a7a23dd6a8025f7f5026205c415f8bd2d1704e9392fedde0f9", func := "waypost/waypostlaw01.BytesetTexts", spec := "bytesetTexts", unfollowed := true, recurses := true, named := ["math/bits.deBruijn64tab"], apart := false, laid := [("math/bits.deBruijn64tab", laid_math_bits_deBruijn64tab)], narrowed := true }
def BytesetTextsUptoSaid : Prop := bytesetTextsUptoRow.holds Tryd.pinned (OpenSpec.upto bytesetTextsSpec)

/-- 'waypostlaw01.BytesetOnes', WHERE WHAT IT READS IS OF BULK AT MOST 1048576: true; the input reads as it did. -/
def bytesetOnesUptoRow : OpenClaim := { program := "ytcfdadgijnmemaadoor", sum := "22b7fc95adea01a7a23dd6a8025f7f5026205c415f8bd2d1704e9392fedde0f9", func := "waypost/waypostlaw01.BytesetOnes", spec := "bytesetOnes", unfollowed := true, recurses := true, named := ["math/bits.deBruijn64tab"], apart := false, laid := [("math/bits.deBruijn64tab", laid_math_bits_deBruijn64tab)], narrowed := true }
def BytesetOnesUptoSaid : Prop := bytesetOnesUptoRow.holds Tryd.pinned (OpenSpec.upto bytesetOnesSpec)

/-- 'waypostlaw01.BytesetKnown', WHERE WHAT IT READS IS OF BULK AT MOST 1048576: true; the input reads as it did. -/
def bytesetKnownUptoRow : OpenClaim := { program := "ytcfdadgijnmemaadoor", sum := "22b7fc95adea01a7a23dd6a8025f7f5026205c415f8bd2d1704e9392fedde0f9", func := "waypost/waypostlaw01.BytesetKnown", spec := "bytesetKnown", unfollowed := true, recurses := true, named := ["math/bits.deBruijn64tab"], apart := false, laid := [("math/bits.deBruijn64tab", laid_math_bits_deBruijn64tab)], narrowed := true }
def BytesetKnownUptoSaid : Prop := bytesetKnownUptoRow.holds Tryd.pinned (OpenSpec.upto bytesetKnownSpec)

/-- 'waypostlaw01.BytesetLogic', WHERE WHAT IT READS IS OF BULK AT MOST 1048576: true; the input reads as it did. -/
def bytesetLogicUptoRow : OpenClaim := { program := "ytcfdadgijnmemaadoor", sum := "22b7fc95adea01a7a23dd6a8025f7f5026205c415f8bd2d1704e9392fedde0f9", func := "waypost/waypostlaw01.BytesetLogic", spec := "bytesetLogic", unfollowed := true, recurses := true, named := ["math/bits.deBruijn64tab"], apart := false, laid := [("math/bits.deBruijn64tab", laid_math_bits_deBruijn64tab)], narrowed := true }
def BytesetLogicUptoSaid : Prop := bytesetLogicUptoRow.holds Tryd.pinned (OpenSpec.upto bytesetLogicSpec)

/-- 'waypostlaw01.BytesetBack', WHERE WHAT IT READS IS OF BULK AT MOST 1048576: true; the input reads as it did. -/
def bytesetBackUptoRow : OpenClaim := { program := "ytcfdadgijnmemaadoor", sum := "22b7fc95adea01a7a23dd6a8025f7f5026205c415f8bd2d1704e9392fedde0f9", func := "waypost/waypostlaw01.BytesetBack", spec := "bytesetBack", unfollowed := true, recurses := true, named := ["math/bits.deBruijn64tab"], apart := false, laid := [("math/bits.deBruijn64tab", laid_math_bits_deBruijn64tab)], narrowed := true }
def BytesetBackUptoSaid : Prop := bytesetBackUptoRow.holds Tryd.pinned (OpenSpec.upto bytesetBackSpec)

/-- 'waypostlaw01.BytesetFolds', WHERE WHAT IT READS IS OF BULK AT MOST 1048576: true; the input reads as it did. -/
def bytesetFoldsUptoRow : OpenClaim := { program := "ytcfdadgijnmemaadoor", sum := "22b7fc95adea01a7a23dd6a8025f7f5026205c415f8bd2d1704e9392fedde0f9", func := "waypost/waypostlaw01.BytesetFolds", spec := "bytesetFolds", unfollowed := true, recurses := true, named := ["math/bits.deBruijn64tab"], apart := false, laid := [("math/bits.deBruijn64tab", laid_math_bits_deBruijn64tab)], narrowed := true }
def BytesetFoldsUptoSaid : Prop := bytesetFoldsUptoRow.holds Tryd.pinned (OpenSpec.upto bytesetFoldsSpec)

end Rows
end Go.Proofs.YtcfdadgijnmemaaDoor
