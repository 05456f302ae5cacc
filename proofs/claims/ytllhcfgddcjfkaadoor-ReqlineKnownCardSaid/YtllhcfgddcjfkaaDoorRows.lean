/-
  NARROWER THAN 'FOR EVERY INPUT', by the rows' own cells (each row's printed sentence says how): ReqlineParts: laid · ReqlineParses: laid · ReqlineLong: laid · ReqlinePlaces: laid · ReqlineKnown: laid · ReqlineBack: laid · ReqlineTexts: laid.
  DERIVED. THE GIVEN ROWS OF THIS SEAT. 7 by the template 'for every input the law returns true; each argument reads behind the call as it read before'; 0 by the template 'total and deterministic' (their statements: YtllhcfgddcjfkaaDoorTotals.lean).
  GIVEN WITH THE SEED: the statements are not yours to turn. If you find one false, say at which input.
  Laid BY PROGRAM, IN A SANDBOX (cutbox-rows.mjs): the forced cells as the released guide's own fill.sh prints them over the translation 80b800e63061633d… (all of the seat's roots in one cut). By AI agents, Wed Nov 11 2026. No macro, syntax, notation, axiom, sorry.
-/
import Derived.Test.YtllhcfgddcjfkaaDoorChecked
import GoSem.PinnedTables
import GoSem.Claim
import GoSem.ClaimJoined
import GoSem.ClaimMapViews
import Derived.JoinedTies
import Derived.KernelRfl
namespace Go.Proofs.YtllhcfgddcjfkaaDoor
/- THE CELL 'sum', in the pinned program and in every row, IS THE sha256 OF THE DUMP (.gsa) THAT YtllhcfgddcjfkaaDoorProg.lean LOADS. Nothing in Lean hashes anything: it is a label: what it is worth is what the hold of that sum in a sandbox is worth. -/
noncomputable def Tryd.pinned : Pinned := { name := "ytllhcfgddcjfkaadoor", sum := "80b800e63061633dd4f4376616b2ae4aa0bf73cb5b7526c6eade9f6466d4a85d", checked := Tryd.checked }
namespace Rows
def none {H : Type} : Left H := { results := [], args := [] }

/- WHAT THE LISTED PACKAGE-LEVEL VARIABLES READ AS WHEN THE CALL BEGINS. Each datum BY PROGRAM (the guide's laid-datum.mjs) off the statement by which the dump's own 'gosem.cut.vars' lays the variable. In a bare row this is a premise. The card (YtllhcfgddcjfkaaDoorCards.lean) ties it to the program's text. -/
def laid_unicode_utf8_acceptRanges {H : Type} : DataW H := .agg [.agg [.lit (.int .u8 128), .lit (.int .u8 191)], .agg [.lit (.int .u8 160), .lit (.int .u8 191)], .agg [.lit (.int .u8 128), .lit (.int .u8 159)], .agg [.lit (.int .u8 144), .lit (.int .u8 191)], .agg [.lit (.int .u8 128), .lit (.int .u8 143)], .agg [.lit (.int .u8 0), .lit (.int .u8 0)], .agg [.lit (.int .u8 0), .lit (.int .u8 0)], .agg [.lit (.int .u8 0), .lit (.int .u8 0)], .agg [.lit (.int .u8 0), .lit (.int .u8 0)], .agg [.lit (.int .u8 0), .lit (.int .u8 0)], .agg [.lit (.int .u8 0), .lit (.int .u8 0)], .agg [.lit (.int .u8 0), .lit (.int .u8 0)], .agg [.lit (.int .u8 0), .lit (.int .u8 0)], .agg [.lit (.int .u8 0), .lit (.int .u8 0)], .agg [.lit (.int .u8 0), .lit (.int .u8 0)], .agg [.lit (.int .u8 0), .lit (.int .u8 0)]]
/-- One of Go's own tables, pinned by name: the form's constant. -/
def laid_unicode_utf8_first : DataW Unit := Go.Pinned.utf8First

/-- 'waypostlaw08.ReqlineParts': WHATEVER THE INPUT: true; the input reads as it did. -/
def reqlinePartsSpec : ChangeSpec := { name := "reqlineParts", fn := fun _ => fun
  | [d] => { results := [.lit (.bool true)], args := [d] }
  | _ => none }
def reqlinePartsRow : OpenClaim := { program := "ytllhcfgddcjfkaadoor", sum := "80b800e63061633dd4f4376616b2ae4aa0bf73cb5b7526c6eade9f6466d4a85d", func := "waypost/waypostlaw08.ReqlineParts", spec := "reqlineParts", inPlace := ["internal/bytealg.CountString", "internal/bytealg.IndexByteString", "internal/bytealg.IndexString"], unfollowed := true, recurses := true, named := ["unicode/utf8.first", "unicode/utf8.acceptRanges", "internal/bytealg.MaxLen"], apart := false, laid := [("unicode/utf8.acceptRanges", laid_unicode_utf8_acceptRanges), ("unicode/utf8.first", laid_unicode_utf8_first)] }
def ReqlinePartsSaid : Prop := reqlinePartsRow.holds Tryd.pinned (OpenSpec.ofChange reqlinePartsSpec)

/-- ITS FALSE NEIGHBOUR: 'it returns false'. Refute it at one input. -/
def reqlinePartsWrong : ChangeSpec := { name := "reqlineParts", fn := fun _ => fun
  | [d] => { results := [.lit (.bool false)], args := [d] }
  | _ => none }
def ReqlinePartsWrongFalsely : Prop := reqlinePartsRow.holds Tryd.pinned (OpenSpec.ofChange reqlinePartsWrong)

/-- 'waypostlaw08.ReqlineParses': WHATEVER THE INPUT: true; the input reads as it did. -/
def reqlineParsesSpec : ChangeSpec := { name := "reqlineParses", fn := fun _ => fun
  | [d] => { results := [.lit (.bool true)], args := [d] }
  | _ => none }
def reqlineParsesRow : OpenClaim := { program := "ytllhcfgddcjfkaadoor", sum := "80b800e63061633dd4f4376616b2ae4aa0bf73cb5b7526c6eade9f6466d4a85d", func := "waypost/waypostlaw08.ReqlineParses", spec := "reqlineParses", inPlace := ["internal/bytealg.CountString", "internal/bytealg.IndexByteString", "internal/bytealg.IndexString"], unfollowed := true, recurses := true, named := ["unicode/utf8.first", "unicode/utf8.acceptRanges", "internal/bytealg.MaxLen"], apart := false, laid := [("unicode/utf8.acceptRanges", laid_unicode_utf8_acceptRanges), ("unicode/utf8.first", laid_unicode_utf8_first)] }
def ReqlineParsesSaid : Prop := reqlineParsesRow.holds Tryd.pinned (OpenSpec.ofChange reqlineParsesSpec)

/-- ITS FALSE NEIGHBOUR: 'it returns false'. Refute it at one input. -/
def reqlineParsesWrong : ChangeSpec := { name := "reqlineParses", fn := fun _ => fun
  | [d] => { results := [.lit (.bool false)], args := [d] }
  | _ => none }
def ReqlineParsesWrongFalsely : Prop := reqlineParsesRow.holds Tryd.pinned (OpenSpec.ofChange reqlineParsesWrong)

/-- 'waypostlaw08.ReqlineLong': WHATEVER THE INPUT: true; the input reads as it did. -/
def reqlineLongSpec : ChangeSpec := { name := "reqlineLong", fn := fun _ => fun
  | [d1, d2, d3] => { results := [.lit (.bool true)], args := [d1, d2, d3] }
  | _ => none }
def reqlineLongRow : OpenClaim := { program := "ytllhcfgddcjfkaadoor", sum := "80b800e63061633dd4f4376616b2ae4aa0bf73cb5b7526c6eade9f6466d4a85d", func := "waypost/waypostlaw08.ReqlineLong", spec := "reqlineLong", inPlace := ["internal/bytealg.CountString", "internal/bytealg.IndexByteString", "internal/bytealg.IndexString"], unfollowed := true, recurses := true, named := ["unicode/utf8.first", "unicode/utf8.acceptRanges", "internal/bytealg.MaxLen"], apart := false, laid := [("unicode/utf8.acceptRanges", laid_unicode_utf8_acceptRanges), ("unicode/utf8.first", laid_unicode_utf8_first)] }
def ReqlineLongSaid : Prop := reqlineLongRow.holds Tryd.pinned (OpenSpec.ofChange reqlineLongSpec)

/-- ITS FALSE NEIGHBOUR: 'it returns false'. Refute it at one input. -/
def reqlineLongWrong : ChangeSpec := { name := "reqlineLong", fn := fun _ => fun
  | [d1, d2, d3] => { results := [.lit (.bool false)], args := [d1, d2, d3] }
  | _ => none }
def ReqlineLongWrongFalsely : Prop := reqlineLongRow.holds Tryd.pinned (OpenSpec.ofChange reqlineLongWrong)

/-- 'waypostlaw08.ReqlinePlaces': WHATEVER THE INPUT: true; the input reads as it did. -/
def reqlinePlacesSpec : ChangeSpec := { name := "reqlinePlaces", fn := fun _ => fun
  | [d1, d2] => { results := [.lit (.bool true)], args := [d1, d2] }
  | _ => none }
def reqlinePlacesRow : OpenClaim := { program := "ytllhcfgddcjfkaadoor", sum := "80b800e63061633dd4f4376616b2ae4aa0bf73cb5b7526c6eade9f6466d4a85d", func := "waypost/waypostlaw08.ReqlinePlaces", spec := "reqlinePlaces", inPlace := ["internal/bytealg.CountString", "internal/bytealg.IndexByteString", "internal/bytealg.IndexString"], unfollowed := true, recurses := true, named := ["unicode/utf8.first", "unicode/utf8.acceptRanges", "internal/bytealg.MaxLen"], apart := false, laid := [("unicode/utf8.acceptRanges", laid_unicode_utf8_acceptRanges), ("unicode/utf8.first", laid_unicode_utf8_first)] }
def ReqlinePlacesSaid : Prop := reqlinePlacesRow.holds Tryd.pinned (OpenSpec.ofChange reqlinePlacesSpec)

/-- ITS FALSE NEIGHBOUR: 'it returns false'. Refute it at one input. -/
def reqlinePlacesWrong : ChangeSpec := { name := "reqlinePlaces", fn := fun _ => fun
  | [d1, d2] => { results := [.lit (.bool false)], args := [d1, d2] }
  | _ => none }
def ReqlinePlacesWrongFalsely : Prop := reqlinePlacesRow.holds Tryd.pinned (OpenSpec.ofChange reqlinePlacesWrong)

/-- 'waypostlaw08.ReqlineKnown': WHATEVER THE INPUT: true; the input reads as it did. -/
def reqlineKnownSpec : ChangeSpec := { name := "reqlineKnown", fn := fun _ => fun
  | [] => { results := [.lit (.bool true)], args := [] }
  | _ => none }
def reqlineKnownRow : OpenClaim := { program := "ytllhcfgddcjfkaadoor", sum := "80b800e63061633dd4f4376616b2ae4aa0bf73cb5b7526c6eade9f6466d4a85d", func := "waypost/waypostlaw08.ReqlineKnown", spec := "reqlineKnown", inPlace := ["internal/bytealg.CountString", "internal/bytealg.IndexByteString", "internal/bytealg.IndexString"], unfollowed := true, recurses := true, named := ["unicode/utf8.first", "unicode/utf8.acceptRanges", "internal/bytealg.MaxLen"], apart := false, laid := [("unicode/utf8.acceptRanges", laid_unicode_utf8_acceptRanges), ("unicode/utf8.first", laid_unicode_utf8_first)] }
def ReqlineKnownSaid : Prop := reqlineKnownRow.holds Tryd.pinned (OpenSpec.ofChange reqlineKnownSpec)

/-- ITS FALSE NEIGHBOUR: 'it returns false'. Refute it at one input. -/
def reqlineKnownWrong : ChangeSpec := { name := "reqlineKnown", fn := fun _ => fun
  | [] => { results := [.lit (.bool false)], args := [] }
  | _ => none }
def ReqlineKnownWrongFalsely : Prop := reqlineKnownRow.holds Tryd.pinned (OpenSpec.ofChange reqlineKnownWrong)

/-- 'waypostlaw08.ReqlineBack': WHATEVER THE INPUT: true; the input reads as it did. -/
def reqlineBackSpec : ChangeSpec := { name := "reqlineBack", fn := fun _ => fun
  | [d1, d2] => { results := [.lit (.bool true)], args := [d1, d2] }
  | _ => none }
def reqlineBackRow : OpenClaim := { program := "ytllhcfgddcjfkaadoor", sum := "80b800e63061633dd4f4376616b2ae4aa0bf73cb5b7526c6eade9f6466d4a85d", func := "waypost/waypostlaw08.ReqlineBack", spec := "reqlineBack", inPlace := ["internal/bytealg.CountString", "internal/bytealg.IndexByteString", "internal/bytealg.IndexString"], unfollowed := true, recurses := true, named := ["unicode/utf8.first", "unicode/utf8.acceptRanges", "internal/bytealg.MaxLen"], apart := false, laid := [("unicode/utf8.acceptRanges", laid_unicode_utf8_acceptRanges), ("unicode/utf8.first", laid_unicode_utf8_first)] }
def ReqlineBackSaid : Prop := reqlineBackRow.holds Tryd.pinned (OpenSpec.ofChange reqlineBackSpec)

/-- ITS FALSE NEIGHBOUR: 'it returns false'. Refute it at one input. -/
def reqlineBackWrong : ChangeSpec := { name := "reqlineBack", fn := fun _ => fun
  | [d1, d2] => { results := [.lit (.bool false)], args := [d1, d2] }
  | _ => none }
def ReqlineBackWrongFalsely : Prop := reqlineBackRow.holds Tryd.pinned (OpenSpec.ofChange reqlineBackWrong)

/-- 'waypostlaw08.ReqlineTexts': WHATEVER THE INPUT: true; the input reads as it did. -/
def reqlineTextsSpec : ChangeSpec := { name := "reqlineTexts", fn := fun _ => fun
  | [d] => { results := [.lit (.bool true)], args := [d] }
  | _ => none }
def reqlineTextsRow : OpenClaim := { program := "ytllhcfgddcjfkaadoor", sum := "80b800e63061633dd4f4376616b2ae4aa0bf73cb5b7526c6eade9f6466d4a85d", func := "waypost/waypostlaw08.ReqlineTexts", spec := "reqlineTexts", inPlace := ["internal/bytealg.CountString", "internal/bytealg.IndexByteString", "internal/bytealg.IndexString"], unfollowed := true, recurses := true, named := ["unicode/utf8.first", "unicode/utf8.acceptRanges", "internal/bytealg.MaxLen"], apart := false, laid := [("unicode/utf8.acceptRanges", laid_unicode_utf8_acceptRanges), ("unicode/utf8.first", laid_unicode_utf8_first)] }
def ReqlineTextsSaid : Prop := reqlineTextsRow.holds Tryd.pinned (OpenSpec.ofChange reqlineTextsSpec)

/-- ITS FALSE NEIGHBOUR: 'it returns false'. Refute it at one input. -/
def reqlineTextsWrong : ChangeSpec := { name := "reqlineTexts", fn := fun _ => fun
  | [d] => { results := [.lit (.bool false)], args := [d] }
  | _ => none }
def ReqlineTextsWrongFalsely : Prop := reqlineTextsRow.holds Tryd.pinned (OpenSpec.ofChange reqlineTextsWrong)

/- THE SECOND FORM. 'bulk': how many values and letters a reading holds, each counted each time it is reached (what is shared counts as often as it is met; a slice's spare places count too). A statement '..UptoSaid' is the law's where the arguments, and the package variables that the reading takes, are together of bulk at most 1048576: NARROWER than '..Said'. Prove '..Said' where nothing that the law and all that it calls make is longer than what came in: it says more and counts as full. Else prove '..UptoSaid'. A law counts once. -/
mutual
def uptoBulk {H : Type} : DataW H → Nat
  | .lit (.string bytes) => bytes.length + 1
  | .lit _ => 1
  | .nil => 1
  | .ptr d => uptoBulk d + 1
  | .slice elems spare => uptoBulkAll elems + uptoBulkAll spare + 1
  | .agg parts => uptoBulkAll parts + 1
  | .iface _ d => uptoBulk d + 1
  | .map entries => uptoBulkEntries entries + 1
  | .held _ => 1
def uptoBulkAll {H : Type} : List (DataW H) → Nat
  | [] => 0
  | d :: r => uptoBulk d + uptoBulkAll r
def uptoBulkEntries {H : Type} : List (Lit × DataW H) → Nat
  | [] => 0
  | x :: r => uptoBulkEntry x + uptoBulkEntries r
def uptoBulkEntry {H : Type} : Lit × DataW H → Nat
  | (.string bytes, d) => bytes.length + uptoBulk d + 1
  | (_, d) => uptoBulk d + 1
 end
def uptoSmall : (H : Type) → List (DataW H) → Bool := fun _ ds => decide (uptoBulkAll ds ≤ 1048576)
def OpenSpec.upto (s : _root_.Go.ChangeSpec) : _root_.Go.OpenSpec := { _root_.Go.OpenSpec.ofChange s with cond := some uptoSmall }

/-- 'waypostlaw08.ReqlineParts', WHERE WHAT IT READS IS OF BULK AT MOST 1048576: true; the input reads as it did. -/
def reqlinePartsUptoRow : OpenClaim := { program := "ytllhcfgddcjfkaadoor", sum := "80b800e63061633dd4f4376616b2ae4aa0bf73cb5b7526c6eade9f6466d4a85d", func := "waypost/waypostlaw08.ReqlineParts", spec := "reqlineParts", inPlace := ["internal/bytealg.CountString", "internal/bytealg.IndexByteString", "internal/bytealg.IndexString"], unfollowed := true, recurses := true, named := ["unicode/utf8.first", "unicode/utf8.acceptRanges", "internal/bytealg.MaxLen"], apart := false, laid := [("unicode/utf8.acceptRanges", laid_unicode_utf8_acceptRanges), ("unicode/utf8.first", laid_unicode_utf8_first)], narrowed := true }
def ReqlinePartsUptoSaid : Prop := reqlinePartsUptoRow.holds Tryd.pinned (OpenSpec.upto reqlinePartsSpec)

/-- 'waypostlaw08.ReqlineParses', WHERE WHAT IT READS IS OF BULK AT MOST 1048576: true; the input reads as it did. -/
def reqlineParsesUptoRow : OpenClaim := { program := "ytllhcfgddcjfkaadoor", sum := "80b800e63061633dd4f4376616b2ae4aa0bf73cb5b7526c6eade9f6466d4a85d", func := "waypost/waypostlaw08.ReqlineParses", spec := "reqlineParses", inPlace := ["internal/bytealg.CountString", "internal/bytealg.IndexByteString", "internal/bytealg.IndexString"], unfollowed := true, recurses := true, named := ["unicode/utf8.first", "unicode/utf8.acceptRanges", "internal/bytealg.MaxLen"], apart := false, laid := [("unicode/utf8.acceptRanges", laid_unicode_utf8_acceptRanges), ("unicode/utf8.first", laid_unicode_utf8_first)], narrowed := true }
def ReqlineParsesUptoSaid : Prop := reqlineParsesUptoRow.holds Tryd.pinned (OpenSpec.upto reqlineParsesSpec)

/-- 'waypostlaw08.ReqlineLong', WHERE WHAT IT READS IS OF BULK AT MOST 1048576: true; the input reads as it did. -/
def reqlineLongUptoRow : OpenClaim := { program := "ytllhcfgddcjfkaadoor", sum := "80b800e63061633dd4f4376616b2ae4aa0bf73cb5b7526c6eade9f6466d4a85d", func := "waypost/waypostlaw08.ReqlineLong", spec := "reqlineLong", inPlace := ["internal/bytealg.CountString", "internal/bytealg.IndexByteString", "internal/bytealg.IndexString"], unfollowed := true, recurses := true, named := ["unicode/utf8.first", "unicode/utf8.acceptRanges", "internal/bytealg.MaxLen"], apart := false, laid := [("unicode/utf8.acceptRanges", laid_unicode_utf8_acceptRanges), ("unicode/utf8.first", laid_unicode_utf8_first)], narrowed := true }
def ReqlineLongUptoSaid : Prop := reqlineLongUptoRow.holds Tryd.pinned (OpenSpec.upto reqlineLongSpec)

/-- 'waypostlaw08.ReqlinePlaces', WHERE WHAT IT READS IS OF BULK AT MOST 1048576: true; the input reads as it did. -/
def reqlinePlacesUptoRow : OpenClaim := { program := "ytllhcfgddcjfkaadoor", sum := "80b800e63061633dd4f4376616b2ae4aa0bf73cb5b7526c6eade9f6466d4a85d", func := "waypost/waypostlaw08.ReqlinePlaces", spec := "reqlinePlaces", inPlace := ["internal/bytealg.CountString", "internal/bytealg.IndexByteString", "internal/bytealg.IndexString"], unfollowed := true, recurses := true, named := ["unicode/utf8.first", "unicode/utf8.acceptRanges", "internal/bytealg.MaxLen"], apart := false, laid := [("unicode/utf8.acceptRanges", laid_unicode_utf8_acceptRanges), ("unicode/utf8.first", laid_unicode_utf8_first)], narrowed := true }
def ReqlinePlacesUptoSaid : Prop := reqlinePlacesUptoRow.holds Tryd.pinned (OpenSpec.upto reqlinePlacesSpec)

/-- 'waypostlaw08.ReqlineKnown', WHERE WHAT IT READS IS OF BULK AT MOST 1048576: true; the input reads as it did. -/
def reqlineKnownUptoRow : OpenClaim := { program := "ytllhcfgddcjfkaadoor", sum := "80b800e63061633dd4f4376616b2ae4aa0bf73cb5b7526c6eade9f6466d4a85d", func := "waypost/waypostlaw08.ReqlineKnown", spec := "reqlineKnown", inPlace := ["internal/bytealg.CountString", "internal/bytealg.IndexByteString", "internal/bytealg.IndexString"], unfollowed := true, recurses := true, named := ["unicode/utf8.first", "unicode/utf8.acceptRanges", "internal/bytealg.MaxLen"], apart := false, laid := [("unicode/utf8.acceptRanges", laid_unicode_utf8_acceptRanges), ("unicode/utf8.first", laid_unicode_utf8_first)], narrowed := true }
def ReqlineKnownUptoSaid : Prop := reqlineKnownUptoRow.holds Tryd.pinned (OpenSpec.upto reqlineKnownSpec)

/-- 'waypostlaw08.ReqlineBack', WHERE WHAT IT READS IS OF BULK AT MOST 1048576: true; the input reads as it did. -/
def reqlineBackUptoRow : OpenClaim := { program := "ytllhcfgddcjfkaadoor", sum := "80b800e63061633dd4f4376616b2ae4aa0bf73cb5b7526c6eade9f6466d4a85d", func := "waypost/waypostlaw08.ReqlineBack", spec := "reqlineBack", inPlace := ["internal/bytealg.CountString", "internal/bytealg.IndexByteString", "internal/bytealg.IndexString"], unfollowed := true, recurses := true, named := ["unicode/utf8.first", "unicode/utf8.acceptRanges", "internal/bytealg.MaxLen"], apart := false, laid := [("unicode/utf8.acceptRanges", laid_unicode_utf8_acceptRanges), ("unicode/utf8.first", laid_unicode_utf8_first)], narrowed := true }
def ReqlineBackUptoSaid : Prop := reqlineBackUptoRow.holds Tryd.pinned (OpenSpec.upto reqlineBackSpec)

/-- 'waypostlaw08.ReqlineTexts', WHERE WHAT IT READS IS OF BULK AT MOST 1048576: true; the input reads as it did. -/
def reqlineTextsUptoRow : OpenClaim := { program := "ytllhcfgddcjfkaadoor", sum := "80b800e63061633dd4f4376616b2ae4aa0bf73cb5b7526c6eade9f6466d4a85d", func := "waypost/waypostlaw08.ReqlineTexts", spec := "reqlineTexts", inPlace := ["internal/bytealg.CountString", "internal/bytealg.IndexByteString", "internal/bytealg.IndexString"], unfollowed := true, recurses := true, named := ["unicode/utf8.first", "unicode/utf8.acceptRanges", "internal/bytealg.MaxLen"], apart := false, laid := [("unicode/utf8.acceptRanges", laid_unicode_utf8_acceptRanges), ("unicode/utf8.first", laid_unicode_utf8_first)], narrowed := true }
def ReqlineTextsUptoSaid : Prop := reqlineTextsUptoRow.holds Tryd.pinned (OpenSpec.upto reqlineTextsSpec)

end Rows
end Go.Proofs.YtllhcfgddcjfkaaDoor
