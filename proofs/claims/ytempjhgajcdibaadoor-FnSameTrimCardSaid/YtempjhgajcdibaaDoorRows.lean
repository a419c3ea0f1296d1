/-
  NARROWER THAN 'FOR EVERY INPUT', by the rows' own cells (each row's printed sentence says how): FnSameTraces: laid · FnTraceTurned: laid · FnTraceFewer: laid · FnTraceOfParts: laid · FnTraceMerge: laid · FnTraceLeast: laid · FnTracesFewer: laid · FnTraceOutside: laid · FnIsDeterministic: laid · FnSameTrim: laid · FnExactDeadlockOf: laid · FnDeadlockOf: laid.
  DERIVED. THE GIVEN ROWS OF THIS SEAT. 12 by the template 'for every input the law returns true; each argument reads behind the call as it read before'; 0 by the template 'total and deterministic' (their statements: YtempjhgajcdibaaDoorTotals.lean).
  GIVEN WITH THE SEED: the statements are not yours to turn. If you find one false, say at which input.
  Laid BY PROGRAM, IN A SANDBOX (cutbox-rows.mjs): the forced cells as the released guide's own fill.sh prints them over the translation b5fee693c18cf47d… (all of the seat's roots in one cut). By AI agents, Wed Nov 11 2026. No macro, syntax, notation, axiom, sorry.
-/
import Derived.Test.YtempjhgajcdibaaDoorChecked
import GoSem.Claim
import GoSem.ClaimJoined
import GoSem.ClaimMapViews
import Derived.JoinedTies
import Derived.KernelRfl
namespace Go.Proofs.YtempjhgajcdibaaDoor
/- THE CELL 'sum', in the pinned program and in every row, IS THE sha256 OF THE DUMP (.gsa) THAT YtempjhgajcdibaaDoorProg.lean LOADS. Nothing in Lean hashes anything: it is a label: what it is worth is what the hold of that sum in a sandbox is worth. -/
noncomputable def Tryd.pinned : Pinned := { name := "ytempjhgajcdibaadoor", sum := "b5fee693c18cf47db7785b90f152a987db1b3299328f1130c37afee8583f789d", checked := Tryd.checked }
namespace Rows
def none {H : Type} : Left H := { results := [], args := [] }

/- WHAT THE LISTED PACKAGE-LEVEL VARIABLES READ AS WHEN THE CALL BEGINS. Each datum BY PROGRAM (the guide's laid-datum.mjs) off the statement by which the dump's own 'gosem.cut.vars' lays the variable. In a bare row this is a premise. The card (YtempjhgajcdibaaDoorCards.lean) ties it to the program's text. -/
def laid_math_bits_deBruijn32tab {H : Type} : DataW H := .agg [.lit (.int .u8 0), .lit (.int .u8 1), .lit (.int .u8 28), .lit (.int .u8 2), .lit (.int .u8 29), .lit (.int .u8 14), .lit (.int .u8 24), .lit (.int .u8 3), .lit (.int .u8 30), .lit (.int .u8 22), .lit (.int .u8 20), .lit (.int .u8 15), .lit (.int .u8 25), .lit (.int .u8 17), .lit (.int .u8 4), .lit (.int .u8 8), .lit (.int .u8 31), .lit (.int .u8 27), .lit (.int .u8 13), .lit (.int .u8 23), .lit (.int .u8 21), .lit (.int .u8 19), .lit (.int .u8 16), .lit (.int .u8 7), .lit (.int .u8 26), .lit (.int .u8 12), .lit (.int .u8 18), .lit (.int .u8 6), .lit (.int .u8 11), .lit (.int .u8 5), .lit (.int .u8 10), .lit (.int .u8 9)]
def laid_math_bits_deBruijn64tab {H : Type} : DataW H := .agg [.lit (.int .u8 0), .lit (.int .u8 1), .lit (.int .u8 56), .lit (.int .u8 2), .lit (.int .u8 57), .lit (.int .u8 49), .lit (.int .u8 28), .lit (.int .u8 3), .lit (.int .u8 61), .lit (.int .u8 58), .lit (.int .u8 42), .lit (.int .u8 50), .lit (.int .u8 38), .lit (.int .u8 29), .lit (.int .u8 17), .lit (.int .u8 4), .lit (.int .u8 62), .lit (.int .u8 47), .lit (.int .u8 59), .lit (.int .u8 36), .lit (.int .u8 45), .lit (.int .u8 43), .lit (.int .u8 51), .lit (.int .u8 22), .lit (.int .u8 53), .lit (.int .u8 39), .lit (.int .u8 33), .lit (.int .u8 30), .lit (.int .u8 24), .lit (.int .u8 18), .lit (.int .u8 12), .lit (.int .u8 5), .lit (.int .u8 63), .lit (.int .u8 55), .lit (.int .u8 48), .lit (.int .u8 27), .lit (.int .u8 60), .lit (.int .u8 41), .lit (.int .u8 37), .lit (.int .u8 16), .lit (.int .u8 46), .lit (.int .u8 35), .lit (.int .u8 44), .lit (.int .u8 21), .lit (.int .u8 52), .lit (.int .u8 32), .lit (.int .u8 23), .lit (.int .u8 11), .lit (.int .u8 54), .lit (.int .u8 26), .lit (.int .u8 40), .lit (.int .u8 15), .lit (.int .u8 34), .lit (.int .u8 20), .lit (.int .u8 31), .lit (.int .u8 10), .lit (.int .u8 25), .lit (.int .u8 14), .lit (.int .u8 19), .lit (.int .u8 9), .lit (.int .u8 13), .lit (.int .u8 8), .lit (.int .u8 7), .lit (.int .u8 6)]

/-- 'laws.FnSameTraces': WHATEVER THE INPUT: true; the input reads as it did. -/
def fnSameTracesSpec : ChangeSpec := { name := "fnSameTraces", fn := fun _ => fun
  | [d] => { results := [.lit (.bool true)], args := [d] }
  | _ => none }
def fnSameTracesRow : OpenClaim := { program := "ytempjhgajcdibaadoor", sum := "b5fee693c18cf47db7785b90f152a987db1b3299328f1130c37afee8583f789d", func := "loop.example/assumeguarantee/laws.FnSameTraces", spec := "fnSameTraces", unfollowed := true, recurses := true, named := ["math/bits.deBruijn32tab", "math/bits.deBruijn64tab"], apart := false, laid := [("math/bits.deBruijn32tab", laid_math_bits_deBruijn32tab), ("math/bits.deBruijn64tab", laid_math_bits_deBruijn64tab)] }
def FnSameTracesSaid : Prop := fnSameTracesRow.holds Tryd.pinned (OpenSpec.ofChange fnSameTracesSpec)

/-- ITS FALSE NEIGHBOUR: 'it returns false'. Refute it at one input. -/
def fnSameTracesWrong : ChangeSpec := { name := "fnSameTraces", fn := fun _ => fun
  | [d] => { results := [.lit (.bool false)], args := [d] }
  | _ => none }
def FnSameTracesWrongFalsely : Prop := fnSameTracesRow.holds Tryd.pinned (OpenSpec.ofChange fnSameTracesWrong)

/-- 'laws.FnTraceTurned': WHATEVER THE INPUT: true; the input reads as it did. -/
def fnTraceTurnedSpec : ChangeSpec := { name := "fnTraceTurned", fn := fun _ => fun
  | [d] => { results := [.lit (.bool true)], args := [d] }
  | _ => none }
def fnTraceTurnedRow : OpenClaim := { program := "ytempjhgajcdibaadoor", sum := "b5fee693c18cf47db7785b90f152a987db1b3299328f1130c37afee8583f789d", func := "loop.example/assumeguarantee/laws.FnTraceTurned", spec := "fnTraceTurned", unfollowed := true, recurses := true, named := ["math/bits.deBruijn32tab", "math/bits.deBruijn64tab"], apart := false, laid := [("math/bits.deBruijn32tab", laid_math_bits_deBruijn32tab), ("math/bits.deBruijn64tab", laid_math_bits_deBruijn64tab)] }
def FnTraceTurnedSaid : Prop := fnTraceTurnedRow.holds Tryd.pinned (OpenSpec.ofChange fnTraceTurnedSpec)

/-- ITS FALSE NEIGHBOUR: 'it returns false'. Refute it at one input. -/
def fnTraceTurnedWrong : ChangeSpec := { name := "fnTraceTurned", fn := fun _ => fun
  | [d] => { results := [.lit (.bool false)], args := [d] }
  | _ => none }
def FnTraceTurnedWrongFalsely : Prop := fnTraceTurnedRow.holds Tryd.pinned (OpenSpec.ofChange fnTraceTurnedWrong)

/-- 'laws.FnTraceFewer': WHATEVER THE INPUT: true; the input reads as it did. -/
def fnTraceFewerSpec : ChangeSpec := { name := "fnTraceFewer", fn := fun _ => fun
  | [d] => { results := [.lit (.bool true)], args := [d] }
  | _ => none }
def fnTraceFewerRow : OpenClaim := { program := "ytempjhgajcdibaadoor", sum := "b5fee693c18cf47db7785b90f152a987db1b3299328f1130c37afee8583f789d", func := "loop.example/assumeguarantee/laws.FnTraceFewer", spec := "fnTraceFewer", unfollowed := true, recurses := true, named := ["math/bits.deBruijn32tab", "math/bits.deBruijn64tab"], apart := false, laid := [("math/bits.deBruijn32tab", laid_math_bits_deBruijn32tab), ("math/bits.deBruijn64tab", laid_math_bits_deBruijn64tab)] }
def FnTraceFewerSaid : Prop := fnTraceFewerRow.holds Tryd.pinned (OpenSpec.ofChange fnTraceFewerSpec)

/-- ITS FALSE NEIGHBOUR: 'it returns false'. Refute it at one input. -/
def fnTraceFewerWrong : ChangeSpec := { name := "fnTraceFewer", fn := fun _ => fun
  | [d] => { results := [.lit (.bool false)], args := [d] }
  | _ => none }
def FnTraceFewerWrongFalsely : Prop := fnTraceFewerRow.holds Tryd.pinned (OpenSpec.ofChange fnTraceFewerWrong)

/-- 'laws.FnTraceOfParts': WHATEVER THE INPUT: true; the input reads as it did. -/
def fnTraceOfPartsSpec : ChangeSpec := { name := "fnTraceOfParts", fn := fun _ => fun
  | [d] => { results := [.lit (.bool true)], args := [d] }
  | _ => none }
def fnTraceOfPartsRow : OpenClaim := { program := "ytempjhgajcdibaadoor", sum := "b5fee693c18cf47db7785b90f152a987db1b3299328f1130c37afee8583f789d", func := "loop.example/assumeguarantee/laws.FnTraceOfParts", spec := "fnTraceOfParts", unfollowed := true, recurses := true, named := ["math/bits.deBruijn32tab", "math/bits.deBruijn64tab"], apart := false, laid := [("math/bits.deBruijn32tab", laid_math_bits_deBruijn32tab), ("math/bits.deBruijn64tab", laid_math_bits_deBruijn64tab)] }
def FnTraceOfPartsSaid : Prop := fnTraceOfPartsRow.holds Tryd.pinned (OpenSpec.ofChange fnTraceOfPartsSpec)

/-- ITS FALSE NEIGHBOUR: 'it returns false'. Refute it at one input. -/
def fnTraceOfPartsWrong : ChangeSpec := { name := "fnTraceOfParts", fn := fun _ => fun
  | [d] => { results := [.lit (.bool false)], args := [d] }
  | _ => none }
def FnTraceOfPartsWrongFalsely : Prop := fnTraceOfPartsRow.holds Tryd.pinned (OpenSpec.ofChange fnTraceOfPartsWrong)

/-- 'laws.FnTraceMerge': WHATEVER THE INPUT: true; the input reads as it did. -/
def fnTraceMergeSpec : ChangeSpec := { name := "fnTraceMerge", fn := fun _ => fun
  | [d1, d2] => { results := [.lit (.bool true)], args := [d1, d2] }
  | _ => none }
def fnTraceMergeRow : OpenClaim := { program := "ytempjhgajcdibaadoor", sum := "b5fee693c18cf47db7785b90f152a987db1b3299328f1130c37afee8583f789d", func := "loop.example/assumeguarantee/laws.FnTraceMerge", spec := "fnTraceMerge", unfollowed := true, recurses := true, named := ["math/bits.deBruijn32tab", "math/bits.deBruijn64tab"], apart := false, laid := [("math/bits.deBruijn32tab", laid_math_bits_deBruijn32tab), ("math/bits.deBruijn64tab", laid_math_bits_deBruijn64tab)] }
def FnTraceMergeSaid : Prop := fnTraceMergeRow.holds Tryd.pinned (OpenSpec.ofChange fnTraceMergeSpec)

/-- ITS FALSE NEIGHBOUR: 'it returns false'. Refute it at one input. -/
def fnTraceMergeWrong : ChangeSpec := { name := "fnTraceMerge", fn := fun _ => fun
  | [d1, d2] => { results := [.lit (.bool false)], args := [d1, d2] }
  | _ => none }
def FnTraceMergeWrongFalsely : Prop := fnTraceMergeRow.holds Tryd.pinned (OpenSpec.ofChange fnTraceMergeWrong)

/-- 'laws.FnTraceLeast': WHATEVER THE INPUT: true; the input reads as it did. -/
def fnTraceLeastSpec : ChangeSpec := { name := "fnTraceLeast", fn := fun _ => fun
  | [d] => { results := [.lit (.bool true)], args := [d] }
  | _ => none }
def fnTraceLeastRow : OpenClaim := { program := "ytempjhgajcdibaadoor", sum := "b5fee693c18cf47db7785b90f152a987db1b3299328f1130c37afee8583f789d", func := "loop.example/assumeguarantee/laws.FnTraceLeast", spec := "fnTraceLeast", unfollowed := true, recurses := true, named := ["math/bits.deBruijn32tab", "math/bits.deBruijn64tab"], apart := false, laid := [("math/bits.deBruijn32tab", laid_math_bits_deBruijn32tab), ("math/bits.deBruijn64tab", laid_math_bits_deBruijn64tab)] }
def FnTraceLeastSaid : Prop := fnTraceLeastRow.holds Tryd.pinned (OpenSpec.ofChange fnTraceLeastSpec)

/-- ITS FALSE NEIGHBOUR: 'it returns false'. Refute it at one input. -/
def fnTraceLeastWrong : ChangeSpec := { name := "fnTraceLeast", fn := fun _ => fun
  | [d] => { results := [.lit (.bool false)], args := [d] }
  | _ => none }
def FnTraceLeastWrongFalsely : Prop := fnTraceLeastRow.holds Tryd.pinned (OpenSpec.ofChange fnTraceLeastWrong)

/-- 'laws.FnTracesFewer': WHATEVER THE INPUT: true; the input reads as it did. -/
def fnTracesFewerSpec : ChangeSpec := { name := "fnTracesFewer", fn := fun _ => fun
  | [d] => { results := [.lit (.bool true)], args := [d] }
  | _ => none }
def fnTracesFewerRow : OpenClaim := { program := "ytempjhgajcdibaadoor", sum := "b5fee693c18cf47db7785b90f152a987db1b3299328f1130c37afee8583f789d", func := "loop.example/assumeguarantee/laws.FnTracesFewer", spec := "fnTracesFewer", unfollowed := true, recurses := true, named := ["math/bits.deBruijn32tab", "math/bits.deBruijn64tab"], apart := false, laid := [("math/bits.deBruijn32tab", laid_math_bits_deBruijn32tab), ("math/bits.deBruijn64tab", laid_math_bits_deBruijn64tab)] }
def FnTracesFewerSaid : Prop := fnTracesFewerRow.holds Tryd.pinned (OpenSpec.ofChange fnTracesFewerSpec)

/-- ITS FALSE NEIGHBOUR: 'it returns false'. Refute it at one input. -/
def fnTracesFewerWrong : ChangeSpec := { name := "fnTracesFewer", fn := fun _ => fun
  | [d] => { results := [.lit (.bool false)], args := [d] }
  | _ => none }
def FnTracesFewerWrongFalsely : Prop := fnTracesFewerRow.holds Tryd.pinned (OpenSpec.ofChange fnTracesFewerWrong)

/-- 'laws.FnTraceOutside': WHATEVER THE INPUT: true; the input reads as it did. -/
def fnTraceOutsideSpec : ChangeSpec := { name := "fnTraceOutside", fn := fun _ => fun
  | [d] => { results := [.lit (.bool true)], args := [d] }
  | _ => none }
def fnTraceOutsideRow : OpenClaim := { program := "ytempjhgajcdibaadoor", sum := "b5fee693c18cf47db7785b90f152a987db1b3299328f1130c37afee8583f789d", func := "loop.example/assumeguarantee/laws.FnTraceOutside", spec := "fnTraceOutside", unfollowed := true, recurses := true, named := ["math/bits.deBruijn32tab", "math/bits.deBruijn64tab"], apart := false, laid := [("math/bits.deBruijn32tab", laid_math_bits_deBruijn32tab), ("math/bits.deBruijn64tab", laid_math_bits_deBruijn64tab)] }
def FnTraceOutsideSaid : Prop := fnTraceOutsideRow.holds Tryd.pinned (OpenSpec.ofChange fnTraceOutsideSpec)

/-- ITS FALSE NEIGHBOUR: 'it returns false'. Refute it at one input. -/
def fnTraceOutsideWrong : ChangeSpec := { name := "fnTraceOutside", fn := fun _ => fun
  | [d] => { results := [.lit (.bool false)], args := [d] }
  | _ => none }
def FnTraceOutsideWrongFalsely : Prop := fnTraceOutsideRow.holds Tryd.pinned (OpenSpec.ofChange fnTraceOutsideWrong)

/-- 'laws.FnIsDeterministic': WHATEVER THE INPUT: true; the input reads as it did. -/
def fnIsDeterministicSpec : ChangeSpec := { name := "fnIsDeterministic", fn := fun _ => fun
  | [d] => { results := [.lit (.bool true)], args := [d] }
  | _ => none }
def fnIsDeterministicRow : OpenClaim := { program := "ytempjhgajcdibaadoor", sum := "b5fee693c18cf47db7785b90f152a987db1b3299328f1130c37afee8583f789d", func := "loop.example/assumeguarantee/laws.FnIsDeterministic", spec := "fnIsDeterministic", recurses := true, named := ["math/bits.deBruijn32tab", "math/bits.deBruijn64tab"], apart := false, laid := [("math/bits.deBruijn32tab", laid_math_bits_deBruijn32tab), ("math/bits.deBruijn64tab", laid_math_bits_deBruijn64tab)] }
def FnIsDeterministicSaid : Prop := fnIsDeterministicRow.holds Tryd.pinned (OpenSpec.ofChange fnIsDeterministicSpec)

/-- ITS FALSE NEIGHBOUR: 'it returns false'. Refute it at one input. -/
def fnIsDeterministicWrong : ChangeSpec := { name := "fnIsDeterministic", fn := fun _ => fun
  | [d] => { results := [.lit (.bool false)], args := [d] }
  | _ => none }
def FnIsDeterministicWrongFalsely : Prop := fnIsDeterministicRow.holds Tryd.pinned (OpenSpec.ofChange fnIsDeterministicWrong)

/-- 'laws.FnSameTrim': WHATEVER THE INPUT: true; the input reads as it did. -/
def fnSameTrimSpec : ChangeSpec := { name := "fnSameTrim", fn := fun _ => fun
  | [d] => { results := [.lit (.bool true)], args := [d] }
  | _ => none }
def fnSameTrimRow : OpenClaim := { program := "ytempjhgajcdibaadoor", sum := "b5fee693c18cf47db7785b90f152a987db1b3299328f1130c37afee8583f789d", func := "loop.example/assumeguarantee/laws.FnSameTrim", spec := "fnSameTrim", unfollowed := true, recurses := true, named := ["math/bits.deBruijn32tab", "math/bits.deBruijn64tab"], apart := false, laid := [("math/bits.deBruijn32tab", laid_math_bits_deBruijn32tab), ("math/bits.deBruijn64tab", laid_math_bits_deBruijn64tab)] }
def FnSameTrimSaid : Prop := fnSameTrimRow.holds Tryd.pinned (OpenSpec.ofChange fnSameTrimSpec)

/-- ITS FALSE NEIGHBOUR: 'it returns false'. Refute it at one input. -/
def fnSameTrimWrong : ChangeSpec := { name := "fnSameTrim", fn := fun _ => fun
  | [d] => { results := [.lit (.bool false)], args := [d] }
  | _ => none }
def FnSameTrimWrongFalsely : Prop := fnSameTrimRow.holds Tryd.pinned (OpenSpec.ofChange fnSameTrimWrong)

/-- 'laws.FnExactDeadlockOf': WHATEVER THE INPUT: true; the input reads as it did. -/
def fnExactDeadlockOfSpec : ChangeSpec := { name := "fnExactDeadlockOf", fn := fun _ => fun
  | [d] => { results := [.lit (.bool true)], args := [d] }
  | _ => none }
def fnExactDeadlockOfRow : OpenClaim := { program := "ytempjhgajcdibaadoor", sum := "b5fee693c18cf47db7785b90f152a987db1b3299328f1130c37afee8583f789d", func := "loop.example/assumeguarantee/laws.FnExactDeadlockOf", spec := "fnExactDeadlockOf", unfollowed := true, recurses := true, named := ["math/bits.deBruijn32tab", "math/bits.deBruijn64tab"], apart := false, laid := [("math/bits.deBruijn32tab", laid_math_bits_deBruijn32tab), ("math/bits.deBruijn64tab", laid_math_bits_deBruijn64tab)] }
def FnExactDeadlockOfSaid : Prop := fnExactDeadlockOfRow.holds Tryd.pinned (OpenSpec.ofChange fnExactDeadlockOfSpec)

/-- ITS FALSE NEIGHBOUR: 'it returns false'. Refute it at one input. -/
def fnExactDeadlockOfWrong : ChangeSpec := { name := "fnExactDeadlockOf", fn := fun _ => fun
  | [d] => { results := [.lit (.bool false)], args := [d] }
  | _ => none }
def FnExactDeadlockOfWrongFalsely : Prop := fnExactDeadlockOfRow.holds Tryd.pinned (OpenSpec.ofChange fnExactDeadlockOfWrong)

/-- 'laws.FnDeadlockOf': WHATEVER THE INPUT: true; the input reads as it did. -/
def fnDeadlockOfSpec : ChangeSpec := { name := "fnDeadlockOf", fn := fun _ => fun
  | [d] => { results := [.lit (.bool true)], args := [d] }
  | _ => none }
def fnDeadlockOfRow : OpenClaim := { program := "ytempjhgajcdibaadoor", sum := "b5fee693c18cf47db7785b90f152a987db1b3299328f1130c37afee8583f789d", func := "loop.example/assumeguarantee/laws.FnDeadlockOf", spec := "fnDeadlockOf", unfollowed := true, recurses := true, named := ["math/bits.deBruijn32tab", "math/bits.deBruijn64tab"], apart := false, laid := [("math/bits.deBruijn32tab", laid_math_bits_deBruijn32tab), ("math/bits.deBruijn64tab", laid_math_bits_deBruijn64tab)] }
def FnDeadlockOfSaid : Prop := fnDeadlockOfRow.holds Tryd.pinned (OpenSpec.ofChange fnDeadlockOfSpec)

/-- ITS FALSE NEIGHBOUR: 'it returns false'. Refute it at one input. -/
def fnDeadlockOfWrong : ChangeSpec := { name := "fnDeadlockOf", fn := fun _ => fun
  | [d] => { results := [.lit (.bool false)], args := [d] }
  | _ => none }
def FnDeadlockOfWrongFalsely : Prop := fnDeadlockOfRow.holds Tryd.pinned (OpenSpec.ofChange fnDeadlockOfWrong)

/- THE SECOND FORM. 'bulk': how many values and letters a reading holds, each counted each time it is reached (what is shared counts as often as it is met; a slice's spare places count too). A statement '..UptoSaid' is the law's where the arguments, and the package variables that the reading takes, are together of bulk at most 1048576: NARROWER than '..Said'. Prove '..Said' where nothing that the law and all that it calls make is longer than what came in: it says more and counts as full. Else prove '..UptoSaid'. A law counts once. -/
mutual
def uptoBulk {H : Type} : DataW H → Nat
  | .lit (.string bytes) => bytes.length + 1
  | .lit _ => 1
  | .nil => 1
  | .ptr d => uptoBulk d + 1
  | .slice elems spare => uptoBulkAll elems + uptoBulkAll spare + 1
  | .agg parts => uptoBulkAll parts + 1
  | .iface _ d => uptoBulk d + 1
  | .map entries => uptoBulkEntries entries + 1
  | .held _ => 1
def uptoBulkAll {H : Type} : List (DataW H) → Nat
  | [] => 0
  | d :: r => uptoBulk d + uptoBulkAll r
def uptoBulkEntries {H : Type} : List (Lit × DataW H) → Nat
  | [] => 0
  | x :: r => uptoBulkEntry x + uptoBulkEntries r
def uptoBulkEntry {H : Type} : Lit × DataW H → Nat
  | (.string bytes, d) => bytes.length + uptoBulk d + 1
  | (_, d) => uptoBulk d + 1
 end
def uptoSmall : (H : Type) → List (DataW H) → Bool := fun _ ds => decide (uptoBulkAll ds ≤ 1048576)
def OpenSpec.upto (s : _root_.Go.ChangeSpec) : _root_.Go.OpenSpec := { _root_.Go.OpenSpec.ofChange s with cond := some uptoSmall }

/-- 'laws.FnSameTraces', WHERE WHAT IT READS IS OF BULK AT MOST 1048576: true; the input reads as it did. -/
def fnSameTracesUptoRow : OpenClaim := { program := "ytempjhgajcdibaadoor", sum := "b5fee693c18cf47db7785b90f152a987db1b3299328f1130c37afee8583f789d", func := "loop.example/assumeguarantee/laws.FnSameTraces", spec := "fnSameTraces", unfollowed := true, recurses := true, named := ["math/bits.deBruijn32tab", "math/bits.deBruijn64tab"], apart := false, laid := [("math/bits.deBruijn32tab", laid_math_bits_deBruijn32tab), ("math/bits.deBruijn64tab", laid_math_bits_deBruijn64tab)], narrowed := true }
def FnSameTracesUptoSaid : Prop := fnSameTracesUptoRow.holds Tryd.pinned (OpenSpec.upto fnSameTracesSpec)

/-- 'laws.FnTraceTurned', WHERE WHAT IT READS IS OF BULK AT MOST 1048576: true; the input reads as it did. -/
def fnTraceTurnedUptoRow : OpenClaim := { program := "ytempjhgajcdibaadoor", sum := "b5fee693c18cf47db7785b90f152a987db1b3299328f1130c37afee8583f789d", func := "loop.example/assumeguarantee/laws.FnTraceTurned", spec := "fnTraceTurned", unfollowed := true, recurses := true, named := ["math/bits.deBruijn32tab", "math/bits.deBruijn64tab"], apart := false, laid := [("math/bits.deBruijn32tab", laid_math_bits_deBruijn32tab), ("math/bits.deBruijn64tab", laid_math_bits_deBruijn64tab)], narrowed := true }
def FnTraceTurnedUptoSaid : Prop := fnTraceTurnedUptoRow.holds Tryd.pinned (OpenSpec.upto fnTraceTurnedSpec)

/-- 'laws.FnTraceFewer', WHERE WHAT IT READS IS OF BULK AT MOST 1048576: true; the input reads as it did. -/
def fnTraceFewerUptoRow : OpenClaim := { program := "ytempjhgajcdibaadoor", sum := "b5fee693c18cf47db7785b90f152a987db1b3299328f1130c37afee8583f789d", func := "loop.example/assumeguarantee/laws.FnTraceFewer", spec := "fnTraceFewer", unfollowed := true, recurses := true, named := ["math/bits.deBruijn32tab", "math/bits.deBruijn64tab"], apart := false, laid := [("math/bits.deBruijn32tab", laid_math_bits_deBruijn32tab), ("math/bits.deBruijn64tab", laid_math_bits_deBruijn64tab)], narrowed := true }
def FnTraceFewerUptoSaid : Prop := fnTraceFewerUptoRow.holds Tryd.pinned (OpenSpec.upto fnTraceFewerSpec)

/-- 'laws.FnTraceOfParts', WHERE WHAT IT READS IS OF BULK AT MOST 1048576: true; the input reads as it did. -/
def fnTraceOfPartsUptoRow : OpenClaim := { program := "ytempjhgajcdibaadoor", sum := "b5fee693c18cf47db7785b90f152a987db1b3299328f1130c37afee8583f789d", func := "loop.example/assumeguarantee/laws.FnTraceOfParts", spec := "fnTraceOfParts", unfollowed := true, recurses := true, named := ["math/bits.deBruijn32tab", "math/bits.deBruijn64tab"], apart := false, laid := [("math/bits.deBruijn32tab", laid_math_bits_deBruijn32tab), ("math/bits.deBruijn64tab", laid_math_bits_deBruijn64tab)], narrowed := true }
def FnTraceOfPartsUptoSaid : Prop := fnTraceOfPartsUptoRow.holds Tryd.pinned (OpenSpec.upto fnTraceOfPartsSpec)

/-- 'laws.FnTraceMerge', WHERE WHAT IT READS IS OF BULK AT MOST 1048576: true; the input reads as it did. -/
def fnTraceMergeUptoRow : OpenClaim := { program := "ytempjhgajcdibaadoor", sum := "b5fee693c18cf47db7785b90f152a987db1b3299328f1130c37afee8583f789d", func := "loop.example/assumeguarantee/laws.FnTraceMerge", spec := "fnTraceMerge", unfollowed := true, recurses := true, named := ["math/bits.deBruijn32tab", "math/bits.deBruijn64tab"], apart := false, laid := [("math/bits.deBruijn32tab", laid_math_bits_deBruijn32tab), ("math/bits.deBruijn64tab", laid_math_bits_deBruijn64tab)], narrowed := true }
def FnTraceMergeUptoSaid : Prop := fnTraceMergeUptoRow.holds Tryd.pinned (OpenSpec.upto fnTraceMergeSpec)

/-- 'laws.FnTraceLeast', WHERE WHAT IT READS IS OF BULK AT MOST 1048576: true; the input reads as it did. -/
def fnTraceLeastUptoRow : OpenClaim := { program := "ytempjhgajcdibaadoor", sum := "b5fee693c18cf47db7785b90f152a987db1b3299328f1130c37afee8583f789d", func := "loop.example/assumeguarantee/laws.FnTraceLeast", spec := "fnTraceLeast", unfollowed := true, recurses := true, named := ["math/bits.deBruijn32tab", "math/bits.deBruijn64tab"], apart := false, laid := [("math/bits.deBruijn32tab", laid_math_bits_deBruijn32tab), ("math/bits.deBruijn64tab", laid_math_bits_deBruijn64tab)], narrowed := true }
def FnTraceLeastUptoSaid : Prop := fnTraceLeastUptoRow.holds Tryd.pinned (OpenSpec.upto fnTraceLeastSpec)

/-- 'laws.FnTracesFewer', WHERE WHAT IT READS IS OF BULK AT MOST 1048576: true; the input reads as it did. -/
def fnTracesFewerUptoRow : OpenClaim := { program := "ytempjhgajcdibaadoor", sum := "b5fee693c18cf47db7785b90f152a987db1b3299328f1130c37afee8583f789d", func := "loop.example/assumeguarantee/laws.FnTracesFewer", spec := "fnTracesFewer", unfollowed := true, recurses := true, named := ["math/bits.deBruijn32tab", "math/bits.deBruijn64tab"], apart := false, laid := [("math/bits.deBruijn32tab", laid_math_bits_deBruijn32tab), ("math/bits.deBruijn64tab", laid_math_bits_deBruijn64tab)], narrowed := true }
def FnTracesFewerUptoSaid : Prop := fnTracesFewerUptoRow.holds Tryd.pinned (OpenSpec.upto fnTracesFewerSpec)

/-- 'laws.FnTraceOutside', WHERE WHAT IT READS IS OF BULK AT MOST 1048576: true; the input reads as it did. -/
def fnTraceOutsideUptoRow : OpenClaim := { program := "ytempjhgajcdibaadoor", sum := "b5fee693c18cf47db7785b90f152a987db1b3299328f1130c37afee8583f789d", func := "loop.example/assumeguarantee/laws.FnTraceOutside", spec := "fnTraceOutside", unfollowed := true, recurses := true, named := ["math/bits.deBruijn32tab", "math/bits.deBruijn64tab"], apart := false, laid := [("math/bits.deBruijn32tab", laid_math_bits_deBruijn32tab), ("math/bits.deBruijn64tab", laid_math_bits_deBruijn64tab)], narrowed := true }
def FnTraceOutsideUptoSaid : Prop := fnTraceOutsideUptoRow.holds Tryd.pinned (OpenSpec.upto fnTraceOutsideSpec)

/-- 'laws.FnIsDeterministic', WHERE WHAT IT READS IS OF BULK AT MOST 1048576: true; the input reads as it did. -/
def fnIsDeterministicUptoRow : OpenClaim := { program := "ytempjhgajcdibaadoor", sum := "b5fee693c18cf47db7785b90f152a987db1b3299328f1130c37afee8583f789d", func := "loop.example/assumeguarantee/laws.FnIsDeterministic", spec := "fnIsDeterministic", recurses := true, named := ["math/bits.deBruijn32tab", "math/bits.deBruijn64tab"], apart := false, laid := [("math/bits.deBruijn32tab", laid_math_bits_deBruijn32tab), ("math/bits.deBruijn64tab", laid_math_bits_deBruijn64tab)], narrowed := true }
def FnIsDeterministicUptoSaid : Prop := fnIsDeterministicUptoRow.holds Tryd.pinned (OpenSpec.upto fnIsDeterministicSpec)

/-- 'laws.FnSameTrim', WHERE WHAT IT READS IS OF BULK AT MOST 1048576: true; the input reads as it did. -/
def fnSameTrimUptoRow : OpenClaim := { program := "ytempjhgajcdibaadoor", sum := "b5fee693c18cf47db7785b90f152a987db1b3299328f1130c37afee8583f789d", func := "loop.example/assumeguarantee/laws.FnSameTrim", spec := "fnSameTrim", unfollowed := true, recurses := true, named := ["math/bits.deBruijn32tab", "math/bits.deBruijn64tab"], apart := false, laid := [("math/bits.deBruijn32tab", laid_math_bits_deBruijn32tab), ("math/bits.deBruijn64tab", laid_math_bits_deBruijn64tab)], narrowed := true }
def FnSameTrimUptoSaid : Prop := fnSameTrimUptoRow.holds Tryd.pinned (OpenSpec.upto fnSameTrimSpec)

/-- 'laws.FnExactDeadlockOf', WHERE WHAT IT READS IS OF BULK AT MOST 1048576: true; the input reads as it did. -/
def fnExactDeadlockOfUptoRow : OpenClaim := { program := "ytempjhgajcdibaadoor", sum := "b5fee693c18cf47db7785b90f152a987db1b3299328f1130c37afee8583f789d", func := "loop.example/assumeguarantee/laws.FnExactDeadlockOf", spec := "fnExactDeadlockOf", unfollowed := true, recurses := true, named := ["math/bits.deBruijn32tab", "math/bits.deBruijn64tab"], apart := false, laid := [("math/bits.deBruijn32tab", laid_math_bits_deBruijn32tab), ("math/bits.deBruijn64tab", laid_math_bits_deBruijn64tab)], narrowed := true }
def FnExactDeadlockOfUptoSaid : Prop := fnExactDeadlockOfUptoRow.holds Tryd.pinned (OpenSpec.upto fnExactDeadlockOfSpec)

/-- 'laws.FnDeadlockOf', WHERE WHAT IT READS IS OF BULK AT MOST 1048576: true; the input reads as it did. -/
def fnDeadlockOfUptoRow : OpenClaim := { program := "ytempjhgajcdibaadoor", sum := "b5fee693c18cf47db7785b90f152a987db1b3299328f1130c37afee8583f789d", func := "loop.example/assumeguarantee/laws.FnDeadlockOf", spec := "fnDeadlockOf", unfollowed := true, recurses := true, named := ["math/bits.deBruijn32tab", "math/bits.deBruijn64tab"], apart := false, laid := [("math/bits.deBruijn32tab", laid_math_bits_deBruijn32tab), ("math/bits.deBruijn64tab", laid_math_bits_deBruijn64tab)], narrowed := true }
def FnDeadlockOfUptoSaid : Prop := fnDeadlockOfUptoRow.holds Tryd.pinned (OpenSpec.upto fnDeadlockOfSpec)

end Rows
end Go.Proofs.YtempjhgajcdibaaDoor
