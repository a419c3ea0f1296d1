/-
  NARROWER THAN 'FOR EVERY INPUT', by the rows' own cells (each row's printed sentence says how): FnMinimalLeast: laid · FnMinimalUnique: laid · FnExactSystemOf: laid · FnExactDeadlockOf: laid · FnDeadlockOf: laid · FnDeadlockLeast: laid · FnDeadlockStill: laid · FnTraceOutside: laid.
  DERIVED. THE GIVEN ROWS OF THIS SEAT. 8 by the template 'for every input the law returns true; each argument reads behind the call as it read before'; 0 by the template 'total and deterministic' (their statements: YtjhlbeamfngebaaDoorTotals.lean).
  GIVEN WITH THE SEED: the statements are not yours to turn. If you find one false, say at which input.
  Laid BY PROGRAM, IN A SANDBOX (cutbox-rows.mjs): the forced cells as the released guide's own fill.sh prints them over the translation 9c131026b1e9bb98… (all of the seat's roots in one cut). By AI agents, Wed Nov 11 2026. No macro, syntax, notation, axiom, sorry.
-/
import Derived.Test.YtjhlbeamfngebaaDoorChecked
import GoSem.Claim
import GoSem.ClaimJoined
import GoSem.ClaimMapViews
import Derived.JoinedTies
import Derived.KernelRfl
namespace Go.Proofs.YtjhlbeamfngebaaDoor
/- THE CELL 'sum', in the pinned program and in every row, IS THE sha256 OF THE DUMP (.gsa) THAT YtjhlbeamfngebaaDoorProg.lean LOADS. Nothing in Lean hashes anything: it is a label: what it is worth is what the hold of that sum in a sandbox is worth. -/
noncomputable def Tryd.pinned : Pinned := { name := "ytjhlbeamfngebaadoor", sum := "9c131026b1e9bb98396840e028caf50d4e4d7462398d30223d0daeeba800d96e", checked := Tryd.checked }
namespace Rows
def none {H : Type} : Left H := { results := [], args := [] }

/- WHAT THE LISTED PACKAGE-LEVEL VARIABLES READ AS WHEN THE CALL BEGINS. Each datum BY PROGRAM (the guide's laid-datum.mjs) off the statement by which the dump's own 'gosem.cut.vars' lays the variable. In a bare row this is a premise. The card (YtjhlbeamfngebaaDoorCards.lean) ties it to the program's text. -/
def laid_math_bits_deBruijn32tab {H : Type} : DataW H := .agg [.lit (.int .u8 0), .lit (.int .u8 1), .lit (.int .u8 28), .lit (.int .u8 2), .lit (.int .u8 29), .lit (.int .u8 14), .lit (.int .u8 24), .lit (.int .u8 3), .lit (.int .u8 30), .lit (.int .u8 22), .lit (.int .u8 20), .lit (.int .u8 15), .lit (.int .u8 25), .lit (.int .u8 17), .lit (.int .u8 4), .lit (.int .u8 8), .lit (.int .u8 31), .lit (.int .u8 27), .lit (.int .u8 13), .lit (.int .u8 23), .lit (.int .u8 21), .lit (.int .u8 19), .lit (.int .u8 16), .lit (.int .u8 7), .lit (.int .u8 26), .lit (.int .u8 12), .lit (.int .u8 18), .lit (.int .u8 6), .lit (.int .u8 11), .lit (.int .u8 5), .lit (.int .u8 10), .lit (.int .u8 9)]
def laid_math_bits_deBruijn64tab {H : Type} : DataW H := .agg [.lit (.int .u8 0), .lit (.int .u8 1), .lit (.int .u8 56), .lit (.int .u8 2), .lit (.int .u8 57), .lit (.int .u8 49), .lit (.int .u8 28), .lit (.int .u8 3), .lit (.int .u8 61), .lit (.int .u8 58), .lit (.int .u8 42), .lit (.int .u8 50), .lit (.int .u8 38), .lit (.int .u8 29), .lit (.int .u8 17), .lit (.int .u8 4), .lit (.int .u8 62), .lit (.int .u8 47), .lit (.int .u8 59), .lit (.int .u8 36), .lit (.int .u8 45), .lit (.int .u8 43), .lit (.int .u8 51), .lit (.int .u8 22), .lit (.int .u8 53), .lit (.int .u8 39), .lit (.int .u8 33), .lit (.int .u8 30), .lit (.int .u8 24), .lit (.int .u8 18), .lit (.int .u8 12), .lit (.int .u8 5), .lit (.int .u8 63), .lit (.int .u8 55), .lit (.int .u8 48), .lit (.int .u8 27), .lit (.int .u8 60), .lit (.int .u8 41), .lit (.int .u8 37), .lit (.int .u8 16), .lit (.int .u8 46), .lit (.int .u8 35), .lit (.int .u8 44), .lit (.int .u8 21), .lit (.int .u8 52), .lit (.int .u8 32), .lit (.int .u8 23), .lit (.int .u8 11), .lit (.int .u8 54), .lit (.int .u8 26), .lit (.int .u8 40), .lit (.int .u8 15), .lit (.int .u8 34), .lit (.int .u8 20), .lit (.int .u8 31), .lit (.int .u8 10), .lit (.int .u8 25), .lit (.int .u8 14), .lit (.int .u8 19), .lit (.int .u8 9), .lit (.int .u8 13), .lit (.int .u8 8), .lit (.int .u8 7), .lit (.int .u8 6)]
def laid_internal_strconv_uint64pow10 {H : Type} : DataW H := .agg [.lit (.int .u64 1), .lit (.int .u64 10), .lit (.int .u64 100), .lit (.int .u64 1000), .lit (.int .u64 10000), .lit (.int .u64 100000), .lit (.int .u64 1000000), .lit (.int .u64 10000000), .lit (.int .u64 100000000), .lit (.int .u64 1000000000), .lit (.int .u64 10000000000), .lit (.int .u64 100000000000), .lit (.int .u64 1000000000000), .lit (.int .u64 10000000000000), .lit (.int .u64 100000000000000), .lit (.int .u64 1000000000000000), .lit (.int .u64 10000000000000000), .lit (.int .u64 100000000000000000), .lit (.int .u64 1000000000000000000), .lit (.int .u64 10000000000000000000)]

/-- 'laws.FnMinimalLeast': WHATEVER THE INPUT: true; the input reads as it did. -/
def fnMinimalLeastSpec : ChangeSpec := { name := "fnMinimalLeast", fn := fun _ => fun
  | [d] => { results := [.lit (.bool true)], args := [d] }
  | _ => none }
def fnMinimalLeastRow : OpenClaim := { program := "ytjhlbeamfngebaadoor", sum := "9c131026b1e9bb98396840e028caf50d4e4d7462398d30223d0daeeba800d96e", func := "loop.example/assumeguarantee/laws.FnMinimalLeast", spec := "fnMinimalLeast", unfollowed := true, recurses := true, named := ["internal/strconv.uint64pow10", "math/bits.deBruijn32tab", "math/bits.deBruijn64tab"], apart := false, laid := [("math/bits.deBruijn32tab", laid_math_bits_deBruijn32tab), ("math/bits.deBruijn64tab", laid_math_bits_deBruijn64tab), ("internal/strconv.uint64pow10", laid_internal_strconv_uint64pow10)] }
def FnMinimalLeastSaid : Prop := fnMinimalLeastRow.holds Tryd.pinned (OpenSpec.ofChange fnMinimalLeastSpec)

/-- ITS FALSE NEIGHBOUR: 'it returns false'. Refute it at one input. -/
def fnMinimalLeastWrong : ChangeSpec := { name := "fnMinimalLeast", fn := fun _ => fun
  | [d] => { results := [.lit (.bool false)], args := [d] }
  | _ => none }
def FnMinimalLeastWrongFalsely : Prop := fnMinimalLeastRow.holds Tryd.pinned (OpenSpec.ofChange fnMinimalLeastWrong)

/-- 'laws.FnMinimalUnique': WHATEVER THE INPUT: true; the input reads as it did. -/
def fnMinimalUniqueSpec : ChangeSpec := { name := "fnMinimalUnique", fn := fun _ => fun
  | [d] => { results := [.lit (.bool true)], args := [d] }
  | _ => none }
def fnMinimalUniqueRow : OpenClaim := { program := "ytjhlbeamfngebaadoor", sum := "9c131026b1e9bb98396840e028caf50d4e4d7462398d30223d0daeeba800d96e", func := "loop.example/assumeguarantee/laws.FnMinimalUnique", spec := "fnMinimalUnique", unfollowed := true, recurses := true, named := ["internal/strconv.uint64pow10", "math/bits.deBruijn32tab", "math/bits.deBruijn64tab"], apart := false, laid := [("math/bits.deBruijn32tab", laid_math_bits_deBruijn32tab), ("math/bits.deBruijn64tab", laid_math_bits_deBruijn64tab), ("internal/strconv.uint64pow10", laid_internal_strconv_uint64pow10)] }
def FnMinimalUniqueSaid : Prop := fnMinimalUniqueRow.holds Tryd.pinned (OpenSpec.ofChange fnMinimalUniqueSpec)

/-- ITS FALSE NEIGHBOUR: 'it returns false'. Refute it at one input. -/
def fnMinimalUniqueWrong : ChangeSpec := { name := "fnMinimalUnique", fn := fun _ => fun
  | [d] => { results := [.lit (.bool false)], args := [d] }
  | _ => none }
def FnMinimalUniqueWrongFalsely : Prop := fnMinimalUniqueRow.holds Tryd.pinned (OpenSpec.ofChange fnMinimalUniqueWrong)

/-- 'laws.FnExactSystemOf': WHATEVER THE INPUT: true; the input reads as it did. -/
def fnExactSystemOfSpec : ChangeSpec := { name := "fnExactSystemOf", fn := fun _ => fun
  | [d] => { results := [.lit (.bool true)], args := [d] }
  | _ => none }
def fnExactSystemOfRow : OpenClaim := { program := "ytjhlbeamfngebaadoor", sum := "9c131026b1e9bb98396840e028caf50d4e4d7462398d30223d0daeeba800d96e", func := "loop.example/assumeguarantee/laws.FnExactSystemOf", spec := "fnExactSystemOf", named := ["math/bits.deBruijn32tab", "math/bits.deBruijn64tab"], apart := false, laid := [("math/bits.deBruijn32tab", laid_math_bits_deBruijn32tab), ("math/bits.deBruijn64tab", laid_math_bits_deBruijn64tab)] }
def FnExactSystemOfSaid : Prop := fnExactSystemOfRow.holds Tryd.pinned (OpenSpec.ofChange fnExactSystemOfSpec)

/-- ITS FALSE NEIGHBOUR: 'it returns false'. Refute it at one input. -/
def fnExactSystemOfWrong : ChangeSpec := { name := "fnExactSystemOf", fn := fun _ => fun
  | [d] => { results := [.lit (.bool false)], args := [d] }
  | _ => none }
def FnExactSystemOfWrongFalsely : Prop := fnExactSystemOfRow.holds Tryd.pinned (OpenSpec.ofChange fnExactSystemOfWrong)

/-- 'laws.FnExactDeadlockOf': WHATEVER THE INPUT: true; the input reads as it did. -/
def fnExactDeadlockOfSpec : ChangeSpec := { name := "fnExactDeadlockOf", fn := fun _ => fun
  | [d] => { results := [.lit (.bool true)], args := [d] }
  | _ => none }
def fnExactDeadlockOfRow : OpenClaim := { program := "ytjhlbeamfngebaadoor", sum := "9c131026b1e9bb98396840e028caf50d4e4d7462398d30223d0daeeba800d96e", func := "loop.example/assumeguarantee/laws.FnExactDeadlockOf", spec := "fnExactDeadlockOf", unfollowed := true, recurses := true, named := ["math/bits.deBruijn32tab", "math/bits.deBruijn64tab"], apart := false, laid := [("math/bits.deBruijn32tab", laid_math_bits_deBruijn32tab), ("math/bits.deBruijn64tab", laid_math_bits_deBruijn64tab)] }
def FnExactDeadlockOfSaid : Prop := fnExactDeadlockOfRow.holds Tryd.pinned (OpenSpec.ofChange fnExactDeadlockOfSpec)

/-- ITS FALSE NEIGHBOUR: 'it returns false'. Refute it at one input. -/
def fnExactDeadlockOfWrong : ChangeSpec := { name := "fnExactDeadlockOf", fn := fun _ => fun
  | [d] => { results := [.lit (.bool false)], args := [d] }
  | _ => none }
def FnExactDeadlockOfWrongFalsely : Prop := fnExactDeadlockOfRow.holds Tryd.pinned (OpenSpec.ofChange fnExactDeadlockOfWrong)

/-- 'laws.FnDeadlockOf': WHATEVER THE INPUT: true; the input reads as it did. -/
def fnDeadlockOfSpec : ChangeSpec := { name := "fnDeadlockOf", fn := fun _ => fun
  | [d] => { results := [.lit (.bool true)], args := [d] }
  | _ => none }
def fnDeadlockOfRow : OpenClaim := { program := "ytjhlbeamfngebaadoor", sum := "9c131026b1e9bb98396840e028caf50d4e4d7462398d30223d0daeeba800d96e", func := "loop.example/assumeguarantee/laws.FnDeadlockOf", spec := "fnDeadlockOf", unfollowed := true, recurses := true, named := ["math/bits.deBruijn32tab", "math/bits.deBruijn64tab"], apart := false, laid := [("math/bits.deBruijn32tab", laid_math_bits_deBruijn32tab), ("math/bits.deBruijn64tab", laid_math_bits_deBruijn64tab)] }
def FnDeadlockOfSaid : Prop := fnDeadlockOfRow.holds Tryd.pinned (OpenSpec.ofChange fnDeadlockOfSpec)

/-- ITS FALSE NEIGHBOUR: 'it returns false'. Refute it at one input. -/
def fnDeadlockOfWrong : ChangeSpec := { name := "fnDeadlockOf", fn := fun _ => fun
  | [d] => { results := [.lit (.bool false)], args := [d] }
  | _ => none }
def FnDeadlockOfWrongFalsely : Prop := fnDeadlockOfRow.holds Tryd.pinned (OpenSpec.ofChange fnDeadlockOfWrong)

/-- 'laws.FnDeadlockLeast': WHATEVER THE INPUT: true; the input reads as it did. -/
def fnDeadlockLeastSpec : ChangeSpec := { name := "fnDeadlockLeast", fn := fun _ => fun
  | [d] => { results := [.lit (.bool true)], args := [d] }
  | _ => none }
def fnDeadlockLeastRow : OpenClaim := { program := "ytjhlbeamfngebaadoor", sum := "9c131026b1e9bb98396840e028caf50d4e4d7462398d30223d0daeeba800d96e", func := "loop.example/assumeguarantee/laws.FnDeadlockLeast", spec := "fnDeadlockLeast", unfollowed := true, recurses := true, named := ["math/bits.deBruijn32tab", "math/bits.deBruijn64tab"], apart := false, laid := [("math/bits.deBruijn32tab", laid_math_bits_deBruijn32tab), ("math/bits.deBruijn64tab", laid_math_bits_deBruijn64tab)] }
def FnDeadlockLeastSaid : Prop := fnDeadlockLeastRow.holds Tryd.pinned (OpenSpec.ofChange fnDeadlockLeastSpec)

/-- ITS FALSE NEIGHBOUR: 'it returns false'. Refute it at one input. -/
def fnDeadlockLeastWrong : ChangeSpec := { name := "fnDeadlockLeast", fn := fun _ => fun
  | [d] => { results := [.lit (.bool false)], args := [d] }
  | _ => none }
def FnDeadlockLeastWrongFalsely : Prop := fnDeadlockLeastRow.holds Tryd.pinned (OpenSpec.ofChange fnDeadlockLeastWrong)

/-- 'laws.FnDeadlockStill': WHATEVER THE INPUT: true; the input reads as it did. -/
def fnDeadlockStillSpec : ChangeSpec := { name := "fnDeadlockStill", fn := fun _ => fun
  | [d] => { results := [.lit (.bool true)], args := [d] }
  | _ => none }
def fnDeadlockStillRow : OpenClaim := { program := "ytjhlbeamfngebaadoor", sum := "9c131026b1e9bb98396840e028caf50d4e4d7462398d30223d0daeeba800d96e", func := "loop.example/assumeguarantee/laws.FnDeadlockStill", spec := "fnDeadlockStill", unfollowed := true, recurses := true, named := ["math/bits.deBruijn32tab", "math/bits.deBruijn64tab"], apart := false, laid := [("math/bits.deBruijn32tab", laid_math_bits_deBruijn32tab), ("math/bits.deBruijn64tab", laid_math_bits_deBruijn64tab)] }
def FnDeadlockStillSaid : Prop := fnDeadlockStillRow.holds Tryd.pinned (OpenSpec.ofChange fnDeadlockStillSpec)

/-- ITS FALSE NEIGHBOUR: 'it returns false'. Refute it at one input. -/
def fnDeadlockStillWrong : ChangeSpec := { name := "fnDeadlockStill", fn := fun _ => fun
  | [d] => { results := [.lit (.bool false)], args := [d] }
  | _ => none }
def FnDeadlockStillWrongFalsely : Prop := fnDeadlockStillRow.holds Tryd.pinned (OpenSpec.ofChange fnDeadlockStillWrong)

/-- 'laws.FnTraceOutside': WHATEVER THE INPUT: true; the input reads as it did. -/
def fnTraceOutsideSpec : ChangeSpec := { name := "fnTraceOutside", fn := fun _ => fun
  | [d] => { results := [.lit (.bool true)], args := [d] }
  | _ => none }
def fnTraceOutsideRow : OpenClaim := { program := "ytjhlbeamfngebaadoor", sum := "9c131026b1e9bb98396840e028caf50d4e4d7462398d30223d0daeeba800d96e", func := "loop.example/assumeguarantee/laws.FnTraceOutside", spec := "fnTraceOutside", unfollowed := true, recurses := true, named := ["math/bits.deBruijn32tab", "math/bits.deBruijn64tab"], apart := false, laid := [("math/bits.deBruijn32tab", laid_math_bits_deBruijn32tab), ("math/bits.deBruijn64tab", laid_math_bits_deBruijn64tab)] }
def FnTraceOutsideSaid : Prop := fnTraceOutsideRow.holds Tryd.pinned (OpenSpec.ofChange fnTraceOutsideSpec)

/-- ITS FALSE NEIGHBOUR: 'it returns false'. Refute it at one input. -/
def fnTraceOutsideWrong : ChangeSpec := { name := "fnTraceOutside", fn := fun _ => fun
  | [d] => { results := [.lit (.bool false)], args := [d] }
  | _ => none }
def FnTraceOutsideWrongFalsely : Prop := fnTraceOutsideRow.holds Tryd.pinned (OpenSpec.ofChange fnTraceOutsideWrong)

/- THE SECOND FORM. 'bulk': how many values and letters a reading holds, each counted each time it is reached (what is shared counts as often as it is met; a slice's spare places count too). A statement '..UptoSaid' is the law's where the arguments, and the package variables that the reading takes, are together of bulk at most 1048576: NARROWER than '..Said'. Prove '..Said' where nothing that the law and all that it calls make is longer than what came in: it says more and counts as full. Else prove '..UptoSaid'. A law counts once. -/
mutual
def uptoBulk {H : Type} : DataW H → Nat
  | .lit (.string bytes) => bytes.length + 1
  | .lit _ => 1
  | .nil => 1
  | .ptr d => uptoBulk d + 1
  | .slice elems spare => uptoBulkAll elems + uptoBulkAll spare + 1
  | .agg parts => uptoBulkAll parts + 1
  | .iface _ d => uptoBulk d + 1
  | .map entries => uptoBulkEntries entries + 1
  | .held _ => 1
def uptoBulkAll {H : Type} : List (DataW H) → Nat
  | [] => 0
  | d :: r => uptoBulk d + uptoBulkAll r
def uptoBulkEntries {H : Type} : List (Lit × DataW H) → Nat
  | [] => 0
  | x :: r => uptoBulkEntry x + uptoBulkEntries r
def uptoBulkEntry {H : Type} : Lit × DataW H → Nat
  | (.string bytes, d) => bytes.length + uptoBulk d + 1
  | (_, d) => uptoBulk d + 1
 end
def uptoSmall : (H : Type) → List (DataW H) → Bool := fun _ ds => decide (uptoBulkAll ds ≤ 1048576)
def OpenSpec.upto (s : _root_.Go.ChangeSpec) : _root_.Go.OpenSpec := { _root_.Go.OpenSpec.ofChange s with cond := some uptoSmall }

/-- 'laws.FnMinimalLeast', WHERE WHAT IT READS IS OF BULK AT MOST 1048576: true; the input reads as it did. -/
def fnMinimalLeastUptoRow : OpenClaim := { program := "ytjhlbeamfngebaadoor", sum := "9c131026b1e9bb98396840e028caf50d4e4d7462398d30223d0daeeba800d96e", func := "loop.example/assumeguarantee/laws.FnMinimalLeast", spec := "fnMinimalLeast", unfollowed := true, recurses := true, named := ["internal/strconv.uint64pow10", "math/bits.deBruijn32tab", "math/bits.deBruijn64tab"], apart := false, laid := [("math/bits.deBruijn32tab", laid_math_bits_deBruijn32tab), ("math/bits.deBruijn64tab", laid_math_bits_deBruijn64tab), ("internal/strconv.uint64pow10", laid_internal_strconv_uint64pow10)], narrowed := true }
def FnMinimalLeastUptoSaid : Prop := fnMinimalLeastUptoRow.holds Tryd.pinned (OpenSpec.upto fnMinimalLeastSpec)

/-- 'laws.FnMinimalUnique', WHERE WHAT IT READS IS OF BULK AT MOST 1048576: true; the input reads as it did. -/
def fnMinimalUniqueUptoRow : OpenClaim := { program := "ytjhlbeamfngebaadoor", sum := "9c131026b1e9bb98396840e028caf50d4e4d7462398d30223d0daeeba800d96e", func := "loop.example/assumeguarantee/laws.FnMinimalUnique", spec := "fnMinimalUnique", unfollowed := true, recurses := true, named := ["internal/strconv.uint64pow10", "math/bits.deBruijn32tab", "math/bits.deBruijn64tab"], apart := false, laid := [("math/bits.deBruijn32tab", laid_math_bits_deBruijn32tab), ("math/bits.deBruijn64tab", laid_math_bits_deBruijn64tab), ("internal/strconv.uint64pow10", laid_internal_strconv_uint64pow10)], narrowed := true }
def FnMinimalUniqueUptoSaid : Prop := fnMinimalUniqueUptoRow.holds Tryd.pinned (OpenSpec.upto fnMinimalUniqueSpec)

/-- 'laws.FnExactSystemOf', WHERE WHAT IT READS IS OF BULK AT MOST 1048576: true; the input reads as it did. -/
def fnExactSystemOfUptoRow : OpenClaim := { program := "ytjhlbeamfngebaadoor", sum := "9c131026b1e9bb98396840e028caf50d4e4d7462398d30223d0daeeba800d96e", func := "loop.example/assumeguarantee/laws.FnExactSystemOf", spec := "fnExactSystemOf", named := ["math/bits.deBruijn32tab", "math/bits.deBruijn64tab"], apart := false, laid := [("math/bits.deBruijn32tab", laid_math_bits_deBruijn32tab), ("math/bits.deBruijn64tab", laid_math_bits_deBruijn64tab)], narrowed := true }
def FnExactSystemOfUptoSaid : Prop := fnExactSystemOfUptoRow.holds Tryd.pinned (OpenSpec.upto fnExactSystemOfSpec)

/-- 'laws.FnExactDeadlockOf', WHERE WHAT IT READS IS OF BULK AT MOST 1048576: true; the input reads as it did. -/
def fnExactDeadlockOfUptoRow : OpenClaim := { program := "ytjhlbeamfngebaadoor", sum := "9c131026b1e9bb98396840e028caf50d4e4d7462398d30223d0daeeba800d96e", func := "loop.example/assumeguarantee/laws.FnExactDeadlockOf", spec := "fnExactDeadlockOf", unfollowed := true, recurses := true, named := ["math/bits.deBruijn32tab", "math/bits.deBruijn64tab"], apart := false, laid := [("math/bits.deBruijn32tab", laid_math_bits_deBruijn32tab), ("math/bits.deBruijn64tab", laid_math_bits_deBruijn64tab)], narrowed := true }
def FnExactDeadlockOfUptoSaid : Prop := fnExactDeadlockOfUptoRow.holds Tryd.pinned (OpenSpec.upto fnExactDeadlockOfSpec)

/-- 'laws.FnDeadlockOf', WHERE WHAT IT READS IS OF BULK AT MOST 1048576: true; the input reads as it did. -/
def fnDeadlockOfUptoRow : OpenClaim := { program := "ytjhlbeamfngebaadoor", sum := "9c131026b1e9bb98396840e028caf50d4e4d7462398d30223d0daeeba800d96e", func := "loop.example/assumeguarantee/laws.FnDeadlockOf", spec := "fnDeadlockOf", unfollowed := true, recurses := true, named := ["math/bits.deBruijn32tab", "math/bits.deBruijn64tab"], apart := false, laid := [("math/bits.deBruijn32tab", laid_math_bits_deBruijn32tab), ("math/bits.deBruijn64tab", laid_math_bits_deBruijn64tab)], narrowed := true }
def FnDeadlockOfUptoSaid : Prop := fnDeadlockOfUptoRow.holds Tryd.pinned (OpenSpec.upto fnDeadlockOfSpec)

/-- 'laws.FnDeadlockLeast', WHERE WHAT IT READS IS OF BULK AT MOST 1048576: true; the input reads as it did. -/
def fnDeadlockLeastUptoRow : OpenClaim := { program := "ytjhlbeamfngebaadoor", sum := "9c131026b1e9bb98396840e028caf50d4e4d7462398d30223d0daeeba800d96e", func := "loop.example/assumeguarantee/laws.FnDeadlockLeast", spec := "fnDeadlockLeast", unfollowed := true, recurses := true, named := ["math/bits.deBruijn32tab", "math/bits.deBruijn64tab"], apart := false, laid := [("math/bits.deBruijn32tab", laid_math_bits_deBruijn32tab), ("math/bits.deBruijn64tab", laid_math_bits_deBruijn64tab)], narrowed := true }
def FnDeadlockLeastUptoSaid : Prop := fnDeadlockLeastUptoRow.holds Tryd.pinned (OpenSpec.upto fnDeadlockLeastSpec)

/-- 'laws.FnDeadlockStill', WHERE WHAT IT READS IS OF BULK AT MOST 1048576: true; the input reads as it did. -/
def fnDeadlockStillUptoRow : OpenClaim := { program := "ytjhlbeamfngebaadoor", sum := "9c131026b1e9bb98396840e028caf50d4e4d7462398d30223d0daeeba800d96e", func := "loop.example/assumeguarantee/laws.FnDeadlockStill", spec := "fnDeadlockStill", unfollowed := true, recurses := true, named := ["math/bits.deBruijn32tab", "math/bits.deBruijn64tab"], apart := false, laid := [("math/bits.deBruijn32tab", laid_math_bits_deBruijn32tab), ("math/bits.deBruijn64tab", laid_math_bits_deBruijn64tab)], narrowed := true }
def FnDeadlockStillUptoSaid : Prop := fnDeadlockStillUptoRow.holds Tryd.pinned (OpenSpec.upto fnDeadlockStillSpec)

/-- 'laws.FnTraceOutside', WHERE WHAT IT READS IS OF BULK AT MOST 1048576: true; the input reads as it did. -/
def fnTraceOutsideUptoRow : OpenClaim := { program := "ytjhlbeamfngebaadoor", sum := "9c131026b1e9bb98396840e028caf50d4e4d7462398d30223d0daeeba800d96e", func := "loop.example/assumeguarantee/laws.FnTraceOutside", spec := "fnTraceOutside", unfollowed := true, recurses := true, named := ["math/bits.deBruijn32tab", "math/bits.deBruijn64tab"], apart := false, laid := [("math/bits.deBruijn32tab", laid_math_bits_deBruijn32tab), ("math/bits.deBruijn64tab", laid_math_bits_deBruijn64tab)], narrowed := true }
def FnTraceOutsideUptoSaid : Prop := fnTraceOutsideUptoRow.holds Tryd.pinned (OpenSpec.upto fnTraceOutsideSpec)

end Rows
end Go.Proofs.YtjhlbeamfngebaaDoor
