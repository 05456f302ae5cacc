/-
  No cell of these rows narrows 'for every input' (looked for: loops, veiled, ifaces, maps, wideKeys, modest, calm, conditions, laid).
  DERIVED. THE GIVEN ROWS OF THIS SEAT. 7 by the template 'for every input the law returns true; each argument reads behind the call as it read before'; 0 by the template 'total and deterministic' (their statements: YtgbnppdcolednaaTotals.lean).
  GIVEN WITH THE SEED: the statements are not yours to turn. If you find one false, say at which input.
  Laid BY PROGRAM, IN A SANDBOX (cutbox-rows.mjs): the forced cells as the released guide's own fill.sh prints them over the translation 74e3e3bb2fff8b6d… (all of the seat's roots in one cut). By AI agents, Wed Nov 11 2026. No macro, syntax, notation, axiom, sorry.
-/
import Derived.Test.YtgbnppdcolednaaChecked
import GoSem.Claim
import GoSem.ClaimJoined
import GoSem.ClaimMapViews
import Derived.JoinedTies
import Derived.KernelRfl
namespace Go.Proofs.Ytgbnppdcolednaa
/- THE CELL 'sum', in the pinned program and in every row, IS THE sha256 OF THE DUMP (.gsa) THAT YtgbnppdcolednaaProg.lean LOADS. Nothing in Lean hashes anything: it is a label: what it is worth is what the hold of that sum in a sandbox is worth. -/
noncomputable def Try.pinned : Pinned := { name := "ytgbnppdcolednaa", sum := "74e3e3bb2fff8b6dddc5cbcc43fd38b7f7520079fc2bc57ca4a1da63efe4cfcc", checked := Try.checked }
namespace Rows
def none {H : Type} : Left H := { results := [], args := [] }

/-- 'waypostlaw02.PercentCuts': WHATEVER THE INPUT: true; the input reads as it did. -/
def percentCutsSpec : ChangeSpec := { name := "percentCuts", fn := fun _ => fun
  | [d1, d2] => { results := [.lit (.bool true)], args := [d1, d2] }
  | _ => none }
def percentCutsRow : OpenClaim := { program := "ytgbnppdcolednaa", sum := "74e3e3bb2fff8b6dddc5cbcc43fd38b7f7520079fc2bc57ca4a1da63efe4cfcc", func := "waypost/waypostlaw02.PercentCuts", spec := "percentCuts", inPlace := ["internal/bytealg.IndexByteString", "internal/abi.NoEscape"], apart := false }
def PercentCutsSaid : Prop := percentCutsRow.holds Try.pinned (OpenSpec.ofChange percentCutsSpec)

/-- ITS FALSE NEIGHBOUR: 'it returns false'. Refute it at one input. -/
def percentCutsWrong : ChangeSpec := { name := "percentCuts", fn := fun _ => fun
  | [d1, d2] => { results := [.lit (.bool false)], args := [d1, d2] }
  | _ => none }
def PercentCutsWrongFalsely : Prop := percentCutsRow.holds Try.pinned (OpenSpec.ofChange percentCutsWrong)

/-- 'waypostlaw02.PercentReads': WHATEVER THE INPUT: true; the input reads as it did. -/
def percentReadsSpec : ChangeSpec := { name := "percentReads", fn := fun _ => fun
  | [d1, d2] => { results := [.lit (.bool true)], args := [d1, d2] }
  | _ => none }
def percentReadsRow : OpenClaim := { program := "ytgbnppdcolednaa", sum := "74e3e3bb2fff8b6dddc5cbcc43fd38b7f7520079fc2bc57ca4a1da63efe4cfcc", func := "waypost/waypostlaw02.PercentReads", spec := "percentReads", inPlace := ["internal/bytealg.IndexByteString", "internal/abi.NoEscape"], apart := false }
def PercentReadsSaid : Prop := percentReadsRow.holds Try.pinned (OpenSpec.ofChange percentReadsSpec)

/-- ITS FALSE NEIGHBOUR: 'it returns false'. Refute it at one input. -/
def percentReadsWrong : ChangeSpec := { name := "percentReads", fn := fun _ => fun
  | [d1, d2] => { results := [.lit (.bool false)], args := [d1, d2] }
  | _ => none }
def PercentReadsWrongFalsely : Prop := percentReadsRow.holds Try.pinned (OpenSpec.ofChange percentReadsWrong)

/-- 'waypostlaw02.PercentWrites': WHATEVER THE INPUT: true; the input reads as it did. -/
def percentWritesSpec : ChangeSpec := { name := "percentWrites", fn := fun _ => fun
  | [d1, d2] => { results := [.lit (.bool true)], args := [d1, d2] }
  | _ => none }
def percentWritesRow : OpenClaim := { program := "ytgbnppdcolednaa", sum := "74e3e3bb2fff8b6dddc5cbcc43fd38b7f7520079fc2bc57ca4a1da63efe4cfcc", func := "waypost/waypostlaw02.PercentWrites", spec := "percentWrites", inPlace := ["internal/bytealg.IndexByteString", "internal/abi.NoEscape"], apart := false }
def PercentWritesSaid : Prop := percentWritesRow.holds Try.pinned (OpenSpec.ofChange percentWritesSpec)

/-- ITS FALSE NEIGHBOUR: 'it returns false'. Refute it at one input. -/
def percentWritesWrong : ChangeSpec := { name := "percentWrites", fn := fun _ => fun
  | [d1, d2] => { results := [.lit (.bool false)], args := [d1, d2] }
  | _ => none }
def PercentWritesWrongFalsely : Prop := percentWritesRow.holds Try.pinned (OpenSpec.ofChange percentWritesWrong)

/-- 'waypostlaw02.PercentKnown': WHATEVER THE INPUT: true; the input reads as it did. -/
def percentKnownSpec : ChangeSpec := { name := "percentKnown", fn := fun _ => fun
  | [] => { results := [.lit (.bool true)], args := [] }
  | _ => none }
def percentKnownRow : OpenClaim := { program := "ytgbnppdcolednaa", sum := "74e3e3bb2fff8b6dddc5cbcc43fd38b7f7520079fc2bc57ca4a1da63efe4cfcc", func := "waypost/waypostlaw02.PercentKnown", spec := "percentKnown", inPlace := ["internal/bytealg.IndexByteString", "internal/abi.NoEscape"], apart := false }
def PercentKnownSaid : Prop := percentKnownRow.holds Try.pinned (OpenSpec.ofChange percentKnownSpec)

/-- ITS FALSE NEIGHBOUR: 'it returns false'. Refute it at one input. -/
def percentKnownWrong : ChangeSpec := { name := "percentKnown", fn := fun _ => fun
  | [] => { results := [.lit (.bool false)], args := [] }
  | _ => none }
def PercentKnownWrongFalsely : Prop := percentKnownRow.holds Try.pinned (OpenSpec.ofChange percentKnownWrong)

/-- 'waypostlaw02.PercentBack': WHATEVER THE INPUT: true; the input reads as it did. -/
def percentBackSpec : ChangeSpec := { name := "percentBack", fn := fun _ => fun
  | [d1, d2] => { results := [.lit (.bool true)], args := [d1, d2] }
  | _ => none }
def percentBackRow : OpenClaim := { program := "ytgbnppdcolednaa", sum := "74e3e3bb2fff8b6dddc5cbcc43fd38b7f7520079fc2bc57ca4a1da63efe4cfcc", func := "waypost/waypostlaw02.PercentBack", spec := "percentBack", inPlace := ["internal/bytealg.IndexByteString", "internal/abi.NoEscape"], apart := false }
def PercentBackSaid : Prop := percentBackRow.holds Try.pinned (OpenSpec.ofChange percentBackSpec)

/-- ITS FALSE NEIGHBOUR: 'it returns false'. Refute it at one input. -/
def percentBackWrong : ChangeSpec := { name := "percentBack", fn := fun _ => fun
  | [d1, d2] => { results := [.lit (.bool false)], args := [d1, d2] }
  | _ => none }
def PercentBackWrongFalsely : Prop := percentBackRow.holds Try.pinned (OpenSpec.ofChange percentBackWrong)

/-- 'waypostlaw02.PercentJoins': WHATEVER THE INPUT: true; the input reads as it did. -/
def percentJoinsSpec : ChangeSpec := { name := "percentJoins", fn := fun _ => fun
  | [d1, d2, d3] => { results := [.lit (.bool true)], args := [d1, d2, d3] }
  | _ => none }
def percentJoinsRow : OpenClaim := { program := "ytgbnppdcolednaa", sum := "74e3e3bb2fff8b6dddc5cbcc43fd38b7f7520079fc2bc57ca4a1da63efe4cfcc", func := "waypost/waypostlaw02.PercentJoins", spec := "percentJoins", inPlace := ["internal/bytealg.IndexByteString", "internal/abi.NoEscape"], apart := false }
def PercentJoinsSaid : Prop := percentJoinsRow.holds Try.pinned (OpenSpec.ofChange percentJoinsSpec)

/-- ITS FALSE NEIGHBOUR: 'it returns false'. Refute it at one input. -/
def percentJoinsWrong : ChangeSpec := { name := "percentJoins", fn := fun _ => fun
  | [d1, d2, d3] => { results := [.lit (.bool false)], args := [d1, d2, d3] }
  | _ => none }
def PercentJoinsWrongFalsely : Prop := percentJoinsRow.holds Try.pinned (OpenSpec.ofChange percentJoinsWrong)

/-- 'waypostlaw02.PercentParts': WHATEVER THE INPUT: true; the input reads as it did. -/
def percentPartsSpec : ChangeSpec := { name := "percentParts", fn := fun _ => fun
  | [d1, d2] => { results := [.lit (.bool true)], args := [d1, d2] }
  | _ => none }
def percentPartsRow : OpenClaim := { program := "ytgbnppdcolednaa", sum := "74e3e3bb2fff8b6dddc5cbcc43fd38b7f7520079fc2bc57ca4a1da63efe4cfcc", func := "waypost/waypostlaw02.PercentParts", spec := "percentParts", inPlace := ["internal/bytealg.IndexByteString", "internal/abi.NoEscape"], apart := false }
def PercentPartsSaid : Prop := percentPartsRow.holds Try.pinned (OpenSpec.ofChange percentPartsSpec)

/-- ITS FALSE NEIGHBOUR: 'it returns false'. Refute it at one input. -/
def percentPartsWrong : ChangeSpec := { name := "percentParts", fn := fun _ => fun
  | [d1, d2] => { results := [.lit (.bool false)], args := [d1, d2] }
  | _ => none }
def PercentPartsWrongFalsely : Prop := percentPartsRow.holds Try.pinned (OpenSpec.ofChange percentPartsWrong)

/- THE SECOND FORM. 'bulk': how many values and letters a reading holds, each counted each time it is reached (what is shared counts as often as it is met; a slice's spare places count too). A statement '..UptoSaid' is the law's where the arguments, and the package variables that the reading takes, are together of bulk at most 1048576: NARROWER than '..Said'. Prove '..Said' where nothing that the law and all that it calls make is longer than what came in: it says more and counts as full. Else prove '..UptoSaid'. A law counts once. -/
mutual
def uptoBulk {H : Type} : DataW H → Nat
  | .lit (.string bytes) => bytes.length + 1
  | .lit _ => 1
  | .nil => 1
  | .ptr d => uptoBulk d + 1
  | .slice elems spare => uptoBulkAll elems + uptoBulkAll spare + 1
  | .agg parts => uptoBulkAll parts + 1
  | .iface _ d => uptoBulk d + 1
  | .map entries => uptoBulkEntries entries + 1
  | .held _ => 1
def uptoBulkAll {H : Type} : List (DataW H) → Nat
  | [] => 0
  | d :: r => uptoBulk d + uptoBulkAll r
def uptoBulkEntries {H : Type} : List (Lit × DataW H) → Nat
  | [] => 0
  | x :: r => uptoBulkEntry x + uptoBulkEntries r
def uptoBulkEntry {H : Type} : Lit × DataW H → Nat
  | (.string bytes, d) => bytes.length + uptoBulk d + 1
  | (_, d) => uptoBulk d + 1
 end
def uptoSmall : (H : Type) → List (DataW H) → Bool := fun _ ds => decide (uptoBulkAll ds ≤ 1048576)
def OpenSpec.upto (s : _root_.Go.ChangeSpec) : _root_.Go.OpenSpec := { _root_.Go.OpenSpec.ofChange s with cond := some uptoSmall }

/-- 'waypostlaw02.PercentCuts', WHERE WHAT IT READS IS OF BULK AT MOST 1048576: true; the input reads as it did. -/
def percentCutsUptoRow : OpenClaim := { program := "ytgbnppdcolednaa", sum := "74e3e3bb2fff8b6dddc5cbcc43fd38b7f7520079fc2bc57ca4a1da63efe4cfcc", func := "waypost/waypostlaw02.PercentCuts", spec := "percentCuts", inPlace := ["internal/bytealg.IndexByteString", "internal/abi.NoEscape"], apart := false, narrowed := true }
def PercentCutsUptoSaid : Prop := percentCutsUptoRow.holds Try.pinned (OpenSpec.upto percentCutsSpec)

/-- 'waypostlaw02.PercentReads', WHERE WHAT IT READS IS OF BULK AT MOST 1048576: true; the input reads as it did. -/
def percentReadsUptoRow : OpenClaim := { program := "ytgbnppdcolednaa", sum := "74e3e3bb2fff8b6dddc5cbcc43fd38b7f7520079fc2bc57ca4a1da63efe4cfcc", func := "waypost/waypostlaw02.PercentReads", spec := "percentReads", inPlace := ["internal/bytealg.IndexByteString", "internal/abi.NoEscape"], apart := false, narrowed := true }
def PercentReadsUptoSaid : Prop := percentReadsUptoRow.holds Try.pinned (OpenSpec.upto percentReadsSpec)

/-- 'waypostlaw02.PercentWrites', WHERE WHAT IT READS IS OF BULK AT MOST 1048576: true; the input reads as it did. -/
def percentWritesUptoRow : OpenClaim := { program := "ytgbnppdcolednaa", sum := "74e3e3bb2fff8b6dddc5cbcc43fd38b7f7520079fc2bc57ca4a1da63efe4cfcc", func := "waypost/waypostlaw02.PercentWrites", spec := "percentWrites", inPlace := ["internal/bytealg.IndexByteString", "internal/abi.NoEscape"], apart := false, narrowed := true }
def PercentWritesUptoSaid : Prop := percentWritesUptoRow.holds Try.pinned (OpenSpec.upto percentWritesSpec)

/-- 'waypostlaw02.PercentKnown', WHERE WHAT IT READS IS OF BULK AT MOST 1048576: true; the input reads as it did. -/
def percentKnownUptoRow : OpenClaim := { program := "ytgbnppdcolednaa", sum := "74e3e3bb2fff8b6dddc5cbcc43fd38b7f7520079fc2bc57ca4a1da63efe4cfcc", func := "waypost/waypostlaw02.PercentKnown", spec := "percentKnown", inPlace := ["internal/bytealg.IndexByteString", "internal/abi.NoEscape"], apart := false, narrowed := true }
def PercentKnownUptoSaid : Prop := percentKnownUptoRow.holds Try.pinned (OpenSpec.upto percentKnownSpec)

/-- 'waypostlaw02.PercentBack', WHERE WHAT IT READS IS OF BULK AT MOST 1048576: true; the input reads as it did. -/
def percentBackUptoRow : OpenClaim := { program := "ytgbnppdcolednaa", sum := "74e3e3bb2fff8b6dddc5cbcc43fd38b7f7520079fc2bc57ca4a1da63efe4cfcc", func := "waypost/waypostlaw02.PercentBack", spec := "percentBack", inPlace := ["internal/bytealg.IndexByteString", "internal/abi.NoEscape"], apart := false, narrowed := true }
def PercentBackUptoSaid : Prop := percentBackUptoRow.holds Try.pinned (OpenSpec.upto percentBackSpec)

/-- 'waypostlaw02.PercentJoins', WHERE WHAT IT READS IS OF BULK AT MOST 1048576: true; the input reads as it did. -/
def percentJoinsUptoRow : OpenClaim := { program := "ytgbnppdcolednaa", sum := "74e3e3bb2fff8b6dddc5cbcc43fd38b7f7520079fc2bc57ca4a1da63efe4cfcc", func := "waypost/waypostlaw02.PercentJoins", spec := "percentJoins", inPlace := ["internal/bytealg.IndexByteString", "internal/abi.NoEscape"], apart := false, narrowed := true }
def PercentJoinsUptoSaid : Prop := percentJoinsUptoRow.holds Try.pinned (OpenSpec.upto percentJoinsSpec)

/-- 'waypostlaw02.PercentParts', WHERE WHAT IT READS IS OF BULK AT MOST 1048576: true; the input reads as it did. -/
def percentPartsUptoRow : OpenClaim := { program := "ytgbnppdcolednaa", sum := "74e3e3bb2fff8b6dddc5cbcc43fd38b7f7520079fc2bc57ca4a1da63efe4cfcc", func := "waypost/waypostlaw02.PercentParts", spec := "percentParts", inPlace := ["internal/bytealg.IndexByteString", "internal/abi.NoEscape"], apart := false, narrowed := true }
def PercentPartsUptoSaid : Prop := percentPartsUptoRow.holds Try.pinned (OpenSpec.upto percentPartsSpec)

end Rows
end Go.Proofs.Ytgbnppdcolednaa
