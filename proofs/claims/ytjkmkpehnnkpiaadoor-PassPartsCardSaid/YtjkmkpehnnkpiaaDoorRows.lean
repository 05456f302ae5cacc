/-
  NARROWER THAN 'FOR EVERY INPUT', by the rows' own cells (each row's printed sentence says how): PassAfter: laid · PassSteps: laid · PassParts: laid · PassChains: laid · PassFixed: laid · PassEnds: laid · PassKnown: laid.
  DERIVED. THE GIVEN ROWS OF THIS SEAT. 7 by the template 'for every input the law returns true; each argument reads behind the call as it read before'; 0 by the template 'total and deterministic' (their statements: YtjkmkpehnnkpiaaDoorTotals.lean).
  GIVEN WITH THE SEED: the statements are not yours to turn. If you find one false, say at which input.
  Laid BY PROGRAM, IN A SANDBOX (cutbox-rows.mjs): the forced cells as the released guide's own fill.sh prints them over the translation 5cfd762c038f32bb… (all of the seat's roots in one cut). By AI agents, Wed Nov 11 2026. No macro, syntax, notation, axiom, sorry.
-/
import Derived.Test.YtjkmkpehnnkpiaaDoorChecked
import GoSem.Claim
import GoSem.ClaimJoined
import GoSem.ClaimMapViews
import Derived.JoinedTies
import Derived.KernelRfl
namespace Go.Proofs.YtjkmkpehnnkpiaaDoor
/- THE CELL 'sum', in the pinned program and in every row, IS THE sha256 OF THE DUMP (.gsa) THAT YtjkmkpehnnkpiaaDoorProg.lean LOADS. Nothing in Lean hashes anything: it is a label: what it is worth is what the hold of that sum in a sandbox is worth. -/
noncomputable def Tryd.pinned : Pinned := { name := "ytjkmkpehnnkpiaadoor", sum := "5cfd762c038f32bb65dd3a95b6129e5cd89038af88ecd7c926d9d0c9994032aa", checked := Tryd.checked }
namespace Rows
def none {H : Type} : Left H := { results := [], args := [] }

/- WHAT THE LISTED PACKAGE-LEVEL VARIABLES READ AS WHEN THE CALL BEGINS. Each datum BY PROGRAM (the guide's laid-datum.mjs) off the statement by which the dump's own 'gosem.cut.vars' lays the variable. In a bare row this is a premise. The card (YtjkmkpehnnkpiaaDoorCards.lean) ties it to the program's text. -/
def laid_math_bits_deBruijn32tab {H : Type} : DataW H := .agg [.lit (.int .u8 0), .lit (.int .u8 1), .lit (.int .u8 28), .lit (.int .u8 2), .lit (.int .u8 29), .lit (.int .u8 14), .lit (.int .u8 24), .lit (.int .u8 3), .lit (.int .u8 30), .lit (.int .u8 22), .lit (.int .u8 20), .lit (.int .u8 15), .lit (.int .u8 25), .lit (.int .u8 17), .lit (.int .u8 4), .lit (.int .u8 8), .lit (.int .u8 31), .lit (.int .u8 27), .lit (.int .u8 13), .lit (.int .u8 23), .lit (.int .u8 21), .lit (.int .u8 19), .lit (.int .u8 16), .lit (.int .u8 7), .lit (.int .u8 26), .lit (.int .u8 12), .lit (.int .u8 18), .lit (.int .u8 6), .lit (.int .u8 11), .lit (.int .u8 5), .lit (.int .u8 10), .lit (.int .u8 9)]
def laid_math_bits_deBruijn64tab {H : Type} : DataW H := .agg [.lit (.int .u8 0), .lit (.int .u8 1), .lit (.int .u8 56), .lit (.int .u8 2), .lit (.int .u8 57), .lit (.int .u8 49), .lit (.int .u8 28), .lit (.int .u8 3), .lit (.int .u8 61), .lit (.int .u8 58), .lit (.int .u8 42), .lit (.int .u8 50), .lit (.int .u8 38), .lit (.int .u8 29), .lit (.int .u8 17), .lit (.int .u8 4), .lit (.int .u8 62), .lit (.int .u8 47), .lit (.int .u8 59), .lit (.int .u8 36), .lit (.int .u8 45), .lit (.int .u8 43), .lit (.int .u8 51), .lit (.int .u8 22), .lit (.int .u8 53), .lit (.int .u8 39), .lit (.int .u8 33), .lit (.int .u8 30), .lit (.int .u8 24), .lit (.int .u8 18), .lit (.int .u8 12), .lit (.int .u8 5), .lit (.int .u8 63), .lit (.int .u8 55), .lit (.int .u8 48), .lit (.int .u8 27), .lit (.int .u8 60), .lit (.int .u8 41), .lit (.int .u8 37), .lit (.int .u8 16), .lit (.int .u8 46), .lit (.int .u8 35), .lit (.int .u8 44), .lit (.int .u8 21), .lit (.int .u8 52), .lit (.int .u8 32), .lit (.int .u8 23), .lit (.int .u8 11), .lit (.int .u8 54), .lit (.int .u8 26), .lit (.int .u8 40), .lit (.int .u8 15), .lit (.int .u8 34), .lit (.int .u8 20), .lit (.int .u8 31), .lit (.int .u8 10), .lit (.int .u8 25), .lit (.int .u8 14), .lit (.int .u8 19), .lit (.int .u8 9), .lit (.int .u8 13), .lit (.int .u8 8), .lit (.int .u8 7), .lit (.int .u8 6)]
def laid_internal_strconv_uint64pow10 {H : Type} : DataW H := .agg [.lit (.int .u64 1), .lit (.int .u64 10), .lit (.int .u64 100), .lit (.int .u64 1000), .lit (.int .u64 10000), .lit (.int .u64 100000), .lit (.int .u64 1000000), .lit (.int .u64 10000000), .lit (.int .u64 100000000), .lit (.int .u64 1000000000), .lit (.int .u64 10000000000), .lit (.int .u64 100000000000), .lit (.int .u64 1000000000000), .lit (.int .u64 10000000000000), .lit (.int .u64 100000000000000), .lit (.int .u64 1000000000000000), .lit (.int .u64 10000000000000000), .lit (.int .u64 100000000000000000), .lit (.int .u64 1000000000000000000), .lit (.int .u64 10000000000000000000)]
def laid_waypost_flag_codes {H : Type} : DataW H := .agg [.lit (.int .i64 301), .lit (.int .i64 302), .lit (.int .i64 303), .lit (.int .i64 307), .lit (.int .i64 308)]

/-- 'waypostlaw32.PassAfter': WHATEVER THE INPUT: true; the input reads as it did. -/
def passAfterSpec : ChangeSpec := { name := "passAfter", fn := fun _ => fun
  | [d1, d2, d3] => { results := [.lit (.bool true)], args := [d1, d2, d3] }
  | _ => none }
def passAfterRow : OpenClaim := { program := "ytjkmkpehnnkpiaadoor", sum := "5cfd762c038f32bb65dd3a95b6129e5cd89038af88ecd7c926d9d0c9994032aa", func := "waypost/waypostlaw32.PassAfter", spec := "passAfter", unfollowed := true, recurses := true, named := ["waypost/flag.codes", "internal/strconv.uint64pow10", "math/bits.deBruijn32tab", "math/bits.deBruijn64tab"], apart := false, laid := [("math/bits.deBruijn32tab", laid_math_bits_deBruijn32tab), ("math/bits.deBruijn64tab", laid_math_bits_deBruijn64tab), ("internal/strconv.uint64pow10", laid_internal_strconv_uint64pow10), ("waypost/flag.codes", laid_waypost_flag_codes)] }
def PassAfterSaid : Prop := passAfterRow.holds Tryd.pinned (OpenSpec.ofChange passAfterSpec)

/-- ITS FALSE NEIGHBOUR: 'it returns false'. Refute it at one input. -/
def passAfterWrong : ChangeSpec := { name := "passAfter", fn := fun _ => fun
  | [d1, d2, d3] => { results := [.lit (.bool false)], args := [d1, d2, d3] }
  | _ => none }
def PassAfterWrongFalsely : Prop := passAfterRow.holds Tryd.pinned (OpenSpec.ofChange passAfterWrong)

/-- 'waypostlaw32.PassSteps': WHATEVER THE INPUT: true; the input reads as it did. -/
def passStepsSpec : ChangeSpec := { name := "passSteps", fn := fun _ => fun
  | [d1, d2, d3] => { results := [.lit (.bool true)], args := [d1, d2, d3] }
  | _ => none }
def passStepsRow : OpenClaim := { program := "ytjkmkpehnnkpiaadoor", sum := "5cfd762c038f32bb65dd3a95b6129e5cd89038af88ecd7c926d9d0c9994032aa", func := "waypost/waypostlaw32.PassSteps", spec := "passSteps", unfollowed := true, recurses := true, named := ["waypost/flag.codes", "internal/strconv.uint64pow10", "math/bits.deBruijn32tab", "math/bits.deBruijn64tab"], apart := false, laid := [("math/bits.deBruijn32tab", laid_math_bits_deBruijn32tab), ("math/bits.deBruijn64tab", laid_math_bits_deBruijn64tab), ("internal/strconv.uint64pow10", laid_internal_strconv_uint64pow10), ("waypost/flag.codes", laid_waypost_flag_codes)] }
def PassStepsSaid : Prop := passStepsRow.holds Tryd.pinned (OpenSpec.ofChange passStepsSpec)

/-- ITS FALSE NEIGHBOUR: 'it returns false'. Refute it at one input. -/
def passStepsWrong : ChangeSpec := { name := "passSteps", fn := fun _ => fun
  | [d1, d2, d3] => { results := [.lit (.bool false)], args := [d1, d2, d3] }
  | _ => none }
def PassStepsWrongFalsely : Prop := passStepsRow.holds Tryd.pinned (OpenSpec.ofChange passStepsWrong)

/-- 'waypostlaw32.PassParts': WHATEVER THE INPUT: true; the input reads as it did. -/
def passPartsSpec : ChangeSpec := { name := "passParts", fn := fun _ => fun
  | [d1, d2, d3] => { results := [.lit (.bool true)], args := [d1, d2, d3] }
  | _ => none }
def passPartsRow : OpenClaim := { program := "ytjkmkpehnnkpiaadoor", sum := "5cfd762c038f32bb65dd3a95b6129e5cd89038af88ecd7c926d9d0c9994032aa", func := "waypost/waypostlaw32.PassParts", spec := "passParts", unfollowed := true, recurses := true, named := ["waypost/flag.codes", "internal/strconv.uint64pow10", "math/bits.deBruijn32tab", "math/bits.deBruijn64tab"], apart := false, laid := [("math/bits.deBruijn32tab", laid_math_bits_deBruijn32tab), ("math/bits.deBruijn64tab", laid_math_bits_deBruijn64tab), ("internal/strconv.uint64pow10", laid_internal_strconv_uint64pow10), ("waypost/flag.codes", laid_waypost_flag_codes)] }
def PassPartsSaid : Prop := passPartsRow.holds Tryd.pinned (OpenSpec.ofChange passPartsSpec)

/-- ITS FALSE NEIGHBOUR: 'it returns false'. Refute it at one input. -/
def passPartsWrong : ChangeSpec := { name := "passParts", fn := fun _ => fun
  | [d1, d2, d3] => { results := [.lit (.bool false)], args := [d1, d2, d3] }
  | _ => none }
def PassPartsWrongFalsely : Prop := passPartsRow.holds Tryd.pinned (OpenSpec.ofChange passPartsWrong)

/-- 'waypostlaw32.PassChains': WHATEVER THE INPUT: true; the input reads as it did. -/
def passChainsSpec : ChangeSpec := { name := "passChains", fn := fun _ => fun
  | [d1, d2] => { results := [.lit (.bool true)], args := [d1, d2] }
  | _ => none }
def passChainsRow : OpenClaim := { program := "ytjkmkpehnnkpiaadoor", sum := "5cfd762c038f32bb65dd3a95b6129e5cd89038af88ecd7c926d9d0c9994032aa", func := "waypost/waypostlaw32.PassChains", spec := "passChains", unfollowed := true, recurses := true, named := ["waypost/flag.codes", "internal/strconv.uint64pow10", "math/bits.deBruijn32tab", "math/bits.deBruijn64tab"], apart := false, laid := [("math/bits.deBruijn32tab", laid_math_bits_deBruijn32tab), ("math/bits.deBruijn64tab", laid_math_bits_deBruijn64tab), ("internal/strconv.uint64pow10", laid_internal_strconv_uint64pow10), ("waypost/flag.codes", laid_waypost_flag_codes)] }
def PassChainsSaid : Prop := passChainsRow.holds Tryd.pinned (OpenSpec.ofChange passChainsSpec)

/-- ITS FALSE NEIGHBOUR: 'it returns false'. Refute it at one input. -/
def passChainsWrong : ChangeSpec := { name := "passChains", fn := fun _ => fun
  | [d1, d2] => { results := [.lit (.bool false)], args := [d1, d2] }
  | _ => none }
def PassChainsWrongFalsely : Prop := passChainsRow.holds Tryd.pinned (OpenSpec.ofChange passChainsWrong)

/-- 'waypostlaw32.PassFixed': WHATEVER THE INPUT: true; the input reads as it did. -/
def passFixedSpec : ChangeSpec := { name := "passFixed", fn := fun _ => fun
  | [d1, d2, d3] => { results := [.lit (.bool true)], args := [d1, d2, d3] }
  | _ => none }
def passFixedRow : OpenClaim := { program := "ytjkmkpehnnkpiaadoor", sum := "5cfd762c038f32bb65dd3a95b6129e5cd89038af88ecd7c926d9d0c9994032aa", func := "waypost/waypostlaw32.PassFixed", spec := "passFixed", unfollowed := true, recurses := true, named := ["waypost/flag.codes", "internal/strconv.uint64pow10", "math/bits.deBruijn32tab", "math/bits.deBruijn64tab"], apart := false, laid := [("math/bits.deBruijn32tab", laid_math_bits_deBruijn32tab), ("math/bits.deBruijn64tab", laid_math_bits_deBruijn64tab), ("internal/strconv.uint64pow10", laid_internal_strconv_uint64pow10), ("waypost/flag.codes", laid_waypost_flag_codes)] }
def PassFixedSaid : Prop := passFixedRow.holds Tryd.pinned (OpenSpec.ofChange passFixedSpec)

/-- ITS FALSE NEIGHBOUR: 'it returns false'. Refute it at one input. -/
def passFixedWrong : ChangeSpec := { name := "passFixed", fn := fun _ => fun
  | [d1, d2, d3] => { results := [.lit (.bool false)], args := [d1, d2, d3] }
  | _ => none }
def PassFixedWrongFalsely : Prop := passFixedRow.holds Tryd.pinned (OpenSpec.ofChange passFixedWrong)

/-- 'waypostlaw32.PassEnds': WHATEVER THE INPUT: true; the input reads as it did. -/
def passEndsSpec : ChangeSpec := { name := "passEnds", fn := fun _ => fun
  | [d1, d2, d3] => { results := [.lit (.bool true)], args := [d1, d2, d3] }
  | _ => none }
def passEndsRow : OpenClaim := { program := "ytjkmkpehnnkpiaadoor", sum := "5cfd762c038f32bb65dd3a95b6129e5cd89038af88ecd7c926d9d0c9994032aa", func := "waypost/waypostlaw32.PassEnds", spec := "passEnds", unfollowed := true, recurses := true, named := ["waypost/flag.codes", "internal/strconv.uint64pow10", "math/bits.deBruijn32tab", "math/bits.deBruijn64tab"], apart := false, laid := [("math/bits.deBruijn32tab", laid_math_bits_deBruijn32tab), ("math/bits.deBruijn64tab", laid_math_bits_deBruijn64tab), ("internal/strconv.uint64pow10", laid_internal_strconv_uint64pow10), ("waypost/flag.codes", laid_waypost_flag_codes)] }
def PassEndsSaid : Prop := passEndsRow.holds Tryd.pinned (OpenSpec.ofChange passEndsSpec)

/-- ITS FALSE NEIGHBOUR: 'it returns false'. Refute it at one input. -/
def passEndsWrong : ChangeSpec := { name := "passEnds", fn := fun _ => fun
  | [d1, d2, d3] => { results := [.lit (.bool false)], args := [d1, d2, d3] }
  | _ => none }
def PassEndsWrongFalsely : Prop := passEndsRow.holds Tryd.pinned (OpenSpec.ofChange passEndsWrong)

/-- 'waypostlaw32.PassKnown': WHATEVER THE INPUT: true; the input reads as it did. -/
def passKnownSpec : ChangeSpec := { name := "passKnown", fn := fun _ => fun
  | [] => { results := [.lit (.bool true)], args := [] }
  | _ => none }
def passKnownRow : OpenClaim := { program := "ytjkmkpehnnkpiaadoor", sum := "5cfd762c038f32bb65dd3a95b6129e5cd89038af88ecd7c926d9d0c9994032aa", func := "waypost/waypostlaw32.PassKnown", spec := "passKnown", unfollowed := true, recurses := true, named := ["waypost/flag.codes", "internal/strconv.uint64pow10", "math/bits.deBruijn32tab", "math/bits.deBruijn64tab"], apart := false, laid := [("math/bits.deBruijn32tab", laid_math_bits_deBruijn32tab), ("math/bits.deBruijn64tab", laid_math_bits_deBruijn64tab), ("internal/strconv.uint64pow10", laid_internal_strconv_uint64pow10), ("waypost/flag.codes", laid_waypost_flag_codes)] }
def PassKnownSaid : Prop := passKnownRow.holds Tryd.pinned (OpenSpec.ofChange passKnownSpec)

/-- ITS FALSE NEIGHBOUR: 'it returns false'. Refute it at one input. -/
def passKnownWrong : ChangeSpec := { name := "passKnown", fn := fun _ => fun
  | [] => { results := [.lit (.bool false)], args := [] }
  | _ => none }
def PassKnownWrongFalsely : Prop := passKnownRow.holds Tryd.pinned (OpenSpec.ofChange passKnownWrong)

/- THE SECOND FORM. 'bulk': how many values and letters a reading holds, each counted each time it is reached (what is shared counts as often as it is met; a slice's spare places count too). A statement '..UptoSaid' is the law's where the arguments, and the package variables that the reading takes, are together of bulk at most 1048576: NARROWER than '..Said'. Prove '..Said' where nothing that the law and all that it calls make is longer than what came in: it says more and counts as full. Else prove '..UptoSaid'. A law counts once. -/
mutual
def uptoBulk {H : Type} : DataW H → Nat
  | .lit (.string bytes) => bytes.length + 1
  | .lit _ => 1
  | .nil => 1
  | .ptr d => uptoBulk d + 1
  | .slice elems spare => uptoBulkAll elems + uptoBulkAll spare + 1
  | .agg parts => uptoBulkAll parts + 1
  | .iface _ d => uptoBulk d + 1
  | .map entries => uptoBulkEntries entries + 1
  | .held _ => 1
def uptoBulkAll {H : Type} : List (DataW H) → Nat
  | [] => 0
  | d :: r => uptoBulk d + uptoBulkAll r
def uptoBulkEntries {H : Type} : List (Lit × DataW H) → Nat
  | [] => 0
  | x :: r => uptoBulkEntry x + uptoBulkEntries r
def uptoBulkEntry {H : Type} : Lit × DataW H → Nat
  | (.string bytes, d) => bytes.length + uptoBulk d + 1
  | (_, d) => uptoBulk d + 1
 end
def uptoSmall : (H : Type) → List (DataW H) → Bool := fun _ ds => decide (uptoBulkAll ds ≤ 1048576)
def OpenSpec.upto (s : _root_.Go.ChangeSpec) : _root_.Go.OpenSpec := { _root_.Go.OpenSpec.ofChange s with cond := some uptoSmall }

/-- 'waypostlaw32.PassAfter', WHERE WHAT IT READS IS OF BULK AT MOST 1048576: true; the input reads as it did. -/
def passAfterUptoRow : OpenClaim := { program := "ytjkmkpehnnkpiaadoor", sum := "5cfd762c038f32bb65dd3a95b6129e5cd89038af88ecd7c926d9d0c9994032aa", func := "waypost/waypostlaw32.PassAfter", spec := "passAfter", unfollowed := true, recurses := true, named := ["waypost/flag.codes", "internal/strconv.uint64pow10", "math/bits.deBruijn32tab", "math/bits.deBruijn64tab"], apart := false, laid := [("math/bits.deBruijn32tab", laid_math_bits_deBruijn32tab), ("math/bits.deBruijn64tab", laid_math_bits_deBruijn64tab), ("internal/strconv.uint64pow10", laid_internal_strconv_uint64pow10), ("waypost/flag.codes", laid_waypost_flag_codes)], narrowed := true }
def PassAfterUptoSaid : Prop := passAfterUptoRow.holds Tryd.pinned (OpenSpec.upto passAfterSpec)

/-- 'waypostlaw32.PassSteps', WHERE WHAT IT READS IS OF BULK AT MOST 1048576: true; the input reads as it did. -/
def passStepsUptoRow : OpenClaim := { program := "ytjkmkpehnnkpiaadoor", sum := "5cfd762c038f32bb65dd3a95b6129e5cd89038af88ecd7c926d9d0c9994032aa", func := "waypost/waypostlaw32.PassSteps", spec := "passSteps", unfollowed := true, recurses := true, named := ["waypost/flag.codes", "internal/strconv.uint64pow10", "math/bits.deBruijn32tab", "math/bits.deBruijn64tab"], apart := false, laid := [("math/bits.deBruijn32tab", laid_math_bits_deBruijn32tab), ("math/bits.deBruijn64tab", laid_math_bits_deBruijn64tab), ("internal/strconv.uint64pow10", laid_internal_strconv_uint64pow10), ("waypost/flag.codes", laid_waypost_flag_codes)], narrowed := true }
def PassStepsUptoSaid : Prop := passStepsUptoRow.holds Tryd.pinned (OpenSpec.upto passStepsSpec)

/-- 'waypostlaw32.PassParts', WHERE WHAT IT READS IS OF BULK AT MOST 1048576: true; the input reads as it did. -/
def passPartsUptoRow : OpenClaim := { program := "ytjkmkpehnnkpiaadoor", sum := "5cfd762c038f32bb65dd3a95b6129e5cd89038af88ecd7c926d9d0c9994032aa", func := "waypost/waypostlaw32.PassParts", spec := "passParts", unfollowed := true, recurses := true, named := ["waypost/flag.codes", "internal/strconv.uint64pow10", "math/bits.deBruijn32tab", "math/bits.deBruijn64tab"], apart := false, laid := [("math/bits.deBruijn32tab", laid_math_bits_deBruijn32tab), ("math/bits.deBruijn64tab", laid_math_bits_deBruijn64tab), ("internal/strconv.uint64pow10", laid_internal_strconv_uint64pow10), ("waypost/flag.codes", laid_waypost_flag_codes)], narrowed := true }
def PassPartsUptoSaid : Prop := passPartsUptoRow.holds Tryd.pinned (OpenSpec.upto passPartsSpec)

/-- 'waypostlaw32.PassChains', WHERE WHAT IT READS IS OF BULK AT MOST 1048576: true; the input reads as it did. -/
def passChainsUptoRow : OpenClaim := { program := "ytjkmkpehnnkpiaadoor", sum := "5cfd762c038f32bb65dd3a95b6129e5cd89038af88ecd7c926d9d0c9994032aa", func := "waypost/waypostlaw32.PassChains", spec := "passChains", unfollowed := true, recurses := true, named := ["waypost/flag.codes", "internal/strconv.uint64pow10", "math/bits.deBruijn32tab", "math/bits.deBruijn64tab"], apart := false, laid := [("math/bits.deBruijn32tab", laid_math_bits_deBruijn32tab), ("math/bits.deBruijn64tab", laid_math_bits_deBruijn64tab), ("internal/strconv.uint64pow10", laid_internal_strconv_uint64pow10), ("waypost/flag.codes", laid_waypost_flag_codes)], narrowed := true }
def PassChainsUptoSaid : Prop := passChainsUptoRow.holds Tryd.pinned (OpenSpec.upto passChainsSpec)

/-- 'waypostlaw32.PassFixed', WHERE WHAT IT READS IS OF BULK AT MOST 1048576: true; the input reads as it did. -/
def passFixedUptoRow : OpenClaim := { program := "ytjkmkpehnnkpiaadoor", sum := "5cfd762c038f32bb65dd3a95b6129e5cd89038af88ecd7c926d9d0c9994032aa", func := "waypost/waypostlaw32.PassFixed", spec := "passFixed", unfollowed := true, recurses := true, named := ["waypost/flag.codes", "internal/strconv.uint64pow10", "math/bits.deBruijn32tab", "math/bits.deBruijn64tab"], apart := false, laid := [("math/bits.deBruijn32tab", laid_math_bits_deBruijn32tab), ("math/bits.deBruijn64tab", laid_math_bits_deBruijn64tab), ("internal/strconv.uint64pow10", laid_internal_strconv_uint64pow10), ("waypost/flag.codes", laid_waypost_flag_codes)], narrowed := true }
def PassFixedUptoSaid : Prop := passFixedUptoRow.holds Tryd.pinned (OpenSpec.upto passFixedSpec)

/-- 'waypostlaw32.PassEnds', WHERE WHAT IT READS IS OF BULK AT MOST 1048576: true; the input reads as it did. -/
def passEndsUptoRow : OpenClaim := { program := "ytjkmkpehnnkpiaadoor", sum := "5cfd762c038f32bb65dd3a95b6129e5cd89038af88ecd7c926d9d0c9994032aa", func := "waypost/waypostlaw32.PassEnds", spec := "passEnds", unfollowed := true, recurses := true, named := ["waypost/flag.codes", "internal/strconv.uint64pow10", "math/bits.deBruijn32tab", "math/bits.deBruijn64tab"], apart := false, laid := [("math/bits.deBruijn32tab", laid_math_bits_deBruijn32tab), ("math/bits.deBruijn64tab", laid_math_bits_deBruijn64tab), ("internal/strconv.uint64pow10", laid_internal_strconv_uint64pow10), ("waypost/flag.codes", laid_waypost_flag_codes)], narrowed := true }
def PassEndsUptoSaid : Prop := passEndsUptoRow.holds Tryd.pinned (OpenSpec.upto passEndsSpec)

/-- 'waypostlaw32.PassKnown', WHERE WHAT IT READS IS OF BULK AT MOST 1048576: true; the input reads as it did. -/
def passKnownUptoRow : OpenClaim := { program := "ytjkmkpehnnkpiaadoor", sum := "5cfd762c038f32bb65dd3a95b6129e5cd89038af88ecd7c926d9d0c9994032aa", func := "waypost/waypostlaw32.PassKnown", spec := "passKnown", unfollowed := true, recurses := true, named := ["waypost/flag.codes", "internal/strconv.uint64pow10", "math/bits.deBruijn32tab", "math/bits.deBruijn64tab"], apart := false, laid := [("math/bits.deBruijn32tab", laid_math_bits_deBruijn32tab), ("math/bits.deBruijn64tab", laid_math_bits_deBruijn64tab), ("internal/strconv.uint64pow10", laid_internal_strconv_uint64pow10), ("waypost/flag.codes", laid_waypost_flag_codes)], narrowed := true }
def PassKnownUptoSaid : Prop := passKnownUptoRow.holds Tryd.pinned (OpenSpec.upto passKnownSpec)

end Rows
end Go.Proofs.YtjkmkpehnnkpiaaDoor
