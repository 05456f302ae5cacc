/-
  No cell of these rows narrows 'for every input' (looked for: loops, veiled, ifaces, maps, wideKeys, modest, calm, conditions, laid).
  DERIVED. THE GIVEN ROWS OF THIS SEAT. 6 by the template 'for every input the law returns true; each argument reads behind the call as it read before'; 0 by the template 'total and deterministic' (their statements: YtjgkiiohbceocaaTotals.lean).
  GIVEN WITH THE SEED: the statements are not yours to turn. If you find one false, say at which input.
  Laid BY PROGRAM, IN A SANDBOX (cutbox-rows.mjs): the forced cells as the released guide's own fill.sh prints them over the translation ed5b3ac8e12e03c8… (all of the seat's roots in one cut). By AI agents, Wed Nov 11 2026. No macro, syntax, notation, axiom, sorry.
-/
import Derived.Test.YtjgkiiohbceocaaChecked
import GoSem.Claim
import GoSem.ClaimJoined
import GoSem.ClaimMapViews
import Derived.JoinedTies
import Derived.KernelRfl
namespace Go.Proofs.Ytjgkiiohbceocaa
/- THE CELL 'sum', in the pinned program and in every row, IS THE sha256 OF THE DUMP (.gsa) THAT YtjgkiiohbceocaaProg.lean LOADS. Nothing in Lean hashes anything: it is a label: what it is worth is what the hold of that sum in a sandbox is worth. -/
noncomputable def Try.pinned : Pinned := { name := "ytjgkiiohbceocaa", sum := "ed5b3ac8e12e03c845f88b4efa6d0976bd27733131f895e5aae235ef82ebb64b", checked := Try.checked }
namespace Rows
def none {H : Type} : Left H := { results := [], args := [] }

/-- 'waypostlaw37.SccWays': WHATEVER THE INPUT: true; the input reads as it did. -/
def sccWaysSpec : ChangeSpec := { name := "sccWays", fn := fun _ => fun
  | [d1, d2, d3, d4] => { results := [.lit (.bool true)], args := [d1, d2, d3, d4] }
  | _ => none }
def sccWaysRow : OpenClaim := { program := "ytjgkiiohbceocaa", sum := "ed5b3ac8e12e03c845f88b4efa6d0976bd27733131f895e5aae235ef82ebb64b", func := "waypost/waypostlaw37.SccWays", spec := "sccWays", unfollowed := true, recurses := true, apart := false }
def SccWaysSaid : Prop := sccWaysRow.holds Try.pinned (OpenSpec.ofChange sccWaysSpec)

/-- ITS FALSE NEIGHBOUR: 'it returns false'. Refute it at one input. -/
def sccWaysWrong : ChangeSpec := { name := "sccWays", fn := fun _ => fun
  | [d1, d2, d3, d4] => { results := [.lit (.bool false)], args := [d1, d2, d3, d4] }
  | _ => none }
def SccWaysWrongFalsely : Prop := sccWaysRow.holds Try.pinned (OpenSpec.ofChange sccWaysWrong)

/-- 'waypostlaw37.SccParts': WHATEVER THE INPUT: true; the input reads as it did. -/
def sccPartsSpec : ChangeSpec := { name := "sccParts", fn := fun _ => fun
  | [d] => { results := [.lit (.bool true)], args := [d] }
  | _ => none }
def sccPartsRow : OpenClaim := { program := "ytjgkiiohbceocaa", sum := "ed5b3ac8e12e03c845f88b4efa6d0976bd27733131f895e5aae235ef82ebb64b", func := "waypost/waypostlaw37.SccParts", spec := "sccParts", unfollowed := true, recurses := true, apart := false }
def SccPartsSaid : Prop := sccPartsRow.holds Try.pinned (OpenSpec.ofChange sccPartsSpec)

/-- ITS FALSE NEIGHBOUR: 'it returns false'. Refute it at one input. -/
def sccPartsWrong : ChangeSpec := { name := "sccParts", fn := fun _ => fun
  | [d] => { results := [.lit (.bool false)], args := [d] }
  | _ => none }
def SccPartsWrongFalsely : Prop := sccPartsRow.holds Try.pinned (OpenSpec.ofChange sccPartsWrong)

/-- 'waypostlaw37.SccKnown': WHATEVER THE INPUT: true; the input reads as it did. -/
def sccKnownSpec : ChangeSpec := { name := "sccKnown", fn := fun _ => fun
  | [] => { results := [.lit (.bool true)], args := [] }
  | _ => none }
def sccKnownRow : OpenClaim := { program := "ytjgkiiohbceocaa", sum := "ed5b3ac8e12e03c845f88b4efa6d0976bd27733131f895e5aae235ef82ebb64b", func := "waypost/waypostlaw37.SccKnown", spec := "sccKnown", unfollowed := true, recurses := true, apart := false }
def SccKnownSaid : Prop := sccKnownRow.holds Try.pinned (OpenSpec.ofChange sccKnownSpec)

/-- ITS FALSE NEIGHBOUR: 'it returns false'. Refute it at one input. -/
def sccKnownWrong : ChangeSpec := { name := "sccKnown", fn := fun _ => fun
  | [] => { results := [.lit (.bool false)], args := [] }
  | _ => none }
def SccKnownWrongFalsely : Prop := sccKnownRow.holds Try.pinned (OpenSpec.ofChange sccKnownWrong)

/-- 'waypostlaw37.SccOnce': WHATEVER THE INPUT: true; the input reads as it did. -/
def sccOnceSpec : ChangeSpec := { name := "sccOnce", fn := fun _ => fun
  | [d1, d2] => { results := [.lit (.bool true)], args := [d1, d2] }
  | _ => none }
def sccOnceRow : OpenClaim := { program := "ytjgkiiohbceocaa", sum := "ed5b3ac8e12e03c845f88b4efa6d0976bd27733131f895e5aae235ef82ebb64b", func := "waypost/waypostlaw37.SccOnce", spec := "sccOnce", unfollowed := true, recurses := true, apart := false }
def SccOnceSaid : Prop := sccOnceRow.holds Try.pinned (OpenSpec.ofChange sccOnceSpec)

/-- ITS FALSE NEIGHBOUR: 'it returns false'. Refute it at one input. -/
def sccOnceWrong : ChangeSpec := { name := "sccOnce", fn := fun _ => fun
  | [d1, d2] => { results := [.lit (.bool false)], args := [d1, d2] }
  | _ => none }
def SccOnceWrongFalsely : Prop := sccOnceRow.holds Try.pinned (OpenSpec.ofChange sccOnceWrong)

/-- 'waypostlaw37.SccReaches': WHATEVER THE INPUT: true; the input reads as it did. -/
def sccReachesSpec : ChangeSpec := { name := "sccReaches", fn := fun _ => fun
  | [d1, d2, d3, d4] => { results := [.lit (.bool true)], args := [d1, d2, d3, d4] }
  | _ => none }
def sccReachesRow : OpenClaim := { program := "ytjgkiiohbceocaa", sum := "ed5b3ac8e12e03c845f88b4efa6d0976bd27733131f895e5aae235ef82ebb64b", func := "waypost/waypostlaw37.SccReaches", spec := "sccReaches", unfollowed := true, recurses := true, apart := false }
def SccReachesSaid : Prop := sccReachesRow.holds Try.pinned (OpenSpec.ofChange sccReachesSpec)

/-- ITS FALSE NEIGHBOUR: 'it returns false'. Refute it at one input. -/
def sccReachesWrong : ChangeSpec := { name := "sccReaches", fn := fun _ => fun
  | [d1, d2, d3, d4] => { results := [.lit (.bool false)], args := [d1, d2, d3, d4] }
  | _ => none }
def SccReachesWrongFalsely : Prop := sccReachesRow.holds Try.pinned (OpenSpec.ofChange sccReachesWrong)

/-- 'waypostlaw37.SccWeighs': WHATEVER THE INPUT: true; the input reads as it did. -/
def sccWeighsSpec : ChangeSpec := { name := "sccWeighs", fn := fun _ => fun
  | [d1, d2] => { results := [.lit (.bool true)], args := [d1, d2] }
  | _ => none }
def sccWeighsRow : OpenClaim := { program := "ytjgkiiohbceocaa", sum := "ed5b3ac8e12e03c845f88b4efa6d0976bd27733131f895e5aae235ef82ebb64b", func := "waypost/waypostlaw37.SccWeighs", spec := "sccWeighs", unfollowed := true, recurses := true, apart := false }
def SccWeighsSaid : Prop := sccWeighsRow.holds Try.pinned (OpenSpec.ofChange sccWeighsSpec)

/-- ITS FALSE NEIGHBOUR: 'it returns false'. Refute it at one input. -/
def sccWeighsWrong : ChangeSpec := { name := "sccWeighs", fn := fun _ => fun
  | [d1, d2] => { results := [.lit (.bool false)], args := [d1, d2] }
  | _ => none }
def SccWeighsWrongFalsely : Prop := sccWeighsRow.holds Try.pinned (OpenSpec.ofChange sccWeighsWrong)

/- THE SECOND FORM. 'bulk': how many values and letters a reading holds, each counted each time it is reached (what is shared counts as often as it is met; a slice's spare places count too). A statement '..UptoSaid' is the law's where the arguments, and the package variables that the reading takes, are together of bulk at most 1048576: NARROWER than '..Said'. Prove '..Said' where nothing that the law and all that it calls make is longer than what came in: it says more and counts as full. Else prove '..UptoSaid'. A law counts once. -/
mutual
def uptoBulk {H : Type} : DataW H → Nat
  | .lit (.string bytes) => bytes.length + 1
  | .lit _ => 1
  | .nil => 1
  | .ptr d => uptoBulk d + 1
  | .slice elems spare => uptoBulkAll elems + uptoBulkAll spare + 1
  | .agg parts => uptoBulkAll parts + 1
  | .iface _ d => uptoBulk d + 1
  | .map entries => uptoBulkEntries entries + 1
  | .held _ => 1
def uptoBulkAll {H : Type} : List (DataW H) → Nat
  | [] => 0
  | d :: r => uptoBulk d + uptoBulkAll r
def uptoBulkEntries {H : Type} : List (Lit × DataW H) → Nat
  | [] => 0
  | x :: r => uptoBulkEntry x + uptoBulkEntries r
def uptoBulkEntry {H : Type} : Lit × DataW H → Nat
  | (.string bytes, d) => bytes.length + uptoBulk d + 1
  | (_, d) => uptoBulk d + 1
 end
def uptoSmall : (H : Type) → List (DataW H) → Bool := fun _ ds => decide (uptoBulkAll ds ≤ 1048576)
def OpenSpec.upto (s : _root_.Go.ChangeSpec) : _root_.Go.OpenSpec := { _root_.Go.OpenSpec.ofChange s with cond := some uptoSmall }

/-- 'waypostlaw37.SccWays', WHERE WHAT IT READS IS OF BULK AT MOST 1048576: true; the input reads as it did. -/
def sccWaysUptoRow : OpenClaim := { program := "ytjgkiiohbceocaa", sum := "ed5b3ac8e12e03c845f88b4efa6d0976bd27733131f895e5aae235ef82ebb64b", func := "waypost/waypostlaw37.SccWays", spec := "sccWays", unfollowed := true, recurses := true, apart := false, narrowed := true }
def SccWaysUptoSaid : Prop := sccWaysUptoRow.holds Try.pinned (OpenSpec.upto sccWaysSpec)

/-- 'waypostlaw37.SccParts', WHERE WHAT IT READS IS OF BULK AT MOST 1048576: true; the input reads as it did. -/
def sccPartsUptoRow : OpenClaim := { program := "ytjgkiiohbceocaa", sum := "ed5b3ac8e12e03c845f88b4efa6d0976bd27733131f895e5aae235ef82ebb64b", func := "waypost/waypostlaw37.SccParts", spec := "sccParts", unfollowed := true, recurses := true, apart := false, narrowed := true }
def SccPartsUptoSaid : Prop := sccPartsUptoRow.holds Try.pinned (OpenSpec.upto sccPartsSpec)

/-- 'waypostlaw37.SccKnown', WHERE WHAT IT READS IS OF BULK AT MOST 1048576: true; the input reads as it did. -/
def sccKnownUptoRow : OpenClaim := { program := "ytjgkiiohbceocaa", sum := "ed5b3ac8e12e03c845f88b4efa6d0976bd27733131f895e5aae235ef82ebb64b", func := "waypost/waypostlaw37.SccKnown", spec := "sccKnown", unfollowed := true, recurses := true, apart := false, narrowed := true }
def SccKnownUptoSaid : Prop := sccKnownUptoRow.holds Try.pinned (OpenSpec.upto sccKnownSpec)

/-- 'waypostlaw37.SccOnce', WHERE WHAT IT READS IS OF BULK AT MOST 1048576: true; the input reads as it did. -/
def sccOnceUptoRow : OpenClaim := { program := "ytjgkiiohbceocaa", sum := "ed5b3ac8e12e03c845f88b4efa6d0976bd27733131f895e5aae235ef82ebb64b", func := "waypost/waypostlaw37.SccOnce", spec := "sccOnce", unfollowed := true, recurses := true, apart := false, narrowed := true }
def SccOnceUptoSaid : Prop := sccOnceUptoRow.holds Try.pinned (OpenSpec.upto sccOnceSpec)

/-- 'waypostlaw37.SccReaches', WHERE WHAT IT READS IS OF BULK AT MOST 1048576: true; the input reads as it did. -/
def sccReachesUptoRow : OpenClaim := { program := "ytjgkiiohbceocaa", sum := "ed5b3ac8e12e03c845f88b4efa6d0976bd27733131f895e5aae235ef82ebb64b", func := "waypost/waypostlaw37.SccReaches", spec := "sccReaches", unfollowed := true, recurses := true, apart := false, narrowed := true }
def SccReachesUptoSaid : Prop := sccReachesUptoRow.holds Try.pinned (OpenSpec.upto sccReachesSpec)

/-- 'waypostlaw37.SccWeighs', WHERE WHAT IT READS IS OF BULK AT MOST 1048576: true; the input reads as it did. -/
def sccWeighsUptoRow : OpenClaim := { program := "ytjgkiiohbceocaa", sum := "ed5b3ac8e12e03c845f88b4efa6d0976bd27733131f895e5aae235ef82ebb64b", func := "waypost/waypostlaw37.SccWeighs", spec := "sccWeighs", unfollowed := true, recurses := true, apart := false, narrowed := true }
def SccWeighsUptoSaid : Prop := sccWeighsUptoRow.holds Try.pinned (OpenSpec.upto sccWeighsSpec)

end Rows
end Go.Proofs.Ytjgkiiohbceocaa
