/-
  NARROWER THAN 'FOR EVERY INPUT', by the rows' own cells (each row's printed sentence says how): FnSystemBack: laid · FnSystemOf: laid · FnExactSystemOf: laid · FnSystemRound: laid · FnMinimalOrder: laid · FnMinimalOther: laid · FnIsMinimal: laid · FnMinimalSplit: laid · FnMinimize: laid · FnSameMinimal: laid · FnMinimalLeast: laid · FnMinimalUnique: laid.
  DERIVED. THE GIVEN ROWS OF THIS SEAT. 12 by the template 'for every input the law returns true; each argument reads behind the call as it read before'; 0 by the template 'total and deterministic' (their statements: YtkoganldcmhopaaDoorTotals.lean).
  GIVEN WITH THE SEED: the statements are not yours to turn. If you find one false, say at which input.
  Laid BY PROGRAM, IN A SANDBOX (cutbox-rows.mjs): the forced cells as the released guide's own fill.sh prints them over the translation ef7ea9220968d843… (all of the seat's roots in one cut). By AI agents, Wed Nov 11 2026. No macro, syntax, notation, axiom, sorry.
-/
import Derived.Test.YtkoganldcmhopaaDoorChecked
import GoSem.Claim
import GoSem.ClaimJoined
import GoSem.ClaimMapViews
import Derived.JoinedTies
import Derived.KernelRfl
namespace Go.Proofs.YtkoganldcmhopaaDoor
/- THE CELL 'sum', in the pinned program and in every row, IS THE sha256 OF THE DUMP (.gsa) THAT YtkoganldcmhopaaDoorProg.lean LOADS. Nothing in Lean hashes anything: it is a label: what it is worth is what the hold of that sum in a sandbox is worth. -/
noncomputable def Tryd.pinned : Pinned := { name := "ytkoganldcmhopaadoor", sum := "ef7ea9220968d8433864b78db67894f37afd2e6cf9027b3ecd4522c133564546", checked := Tryd.checked }
namespace Rows
def none {H : Type} : Left H := { results := [], args := [] }

/- WHAT THE LISTED PACKAGE-LEVEL VARIABLES READ AS WHEN THE CALL BEGINS. Each datum BY PROGRAM (the guide's laid-datum.mjs) off the statement by which the dump's own 'gosem.cut.vars' lays the variable. In a bare row this is a premise. The card (YtkoganldcmhopaaDoorCards.lean) ties it to the program's text. -/
def laid_math_bits_deBruijn32tab {H : Type} : DataW H := .agg [.lit (.int .u8 0), .lit (.int .u8 1), .lit (.int .u8 28), .lit (.int .u8 2), .lit (.int .u8 29), .lit (.int .u8 14), .lit (.int .u8 24), .lit (.int .u8 3), .lit (.int .u8 30), .lit (.int .u8 22), .lit (.int .u8 20), .lit (.int .u8 15), .lit (.int .u8 25), .lit (.int .u8 17), .lit (.int .u8 4), .lit (.int .u8 8), .lit (.int .u8 31), .lit (.int .u8 27), .lit (.int .u8 13), .lit (.int .u8 23), .lit (.int .u8 21), .lit (.int .u8 19), .lit (.int .u8 16), .lit (.int .u8 7), .lit (.int .u8 26), .lit (.int .u8 12), .lit (.int .u8 18), .lit (.int .u8 6), .lit (.int .u8 11), .lit (.int .u8 5), .lit (.int .u8 10), .lit (.int .u8 9)]
def laid_math_bits_deBruijn64tab {H : Type} : DataW H := .agg [.lit (.int .u8 0), .lit (.int .u8 1), .lit (.int .u8 56), .lit (.int .u8 2), .lit (.int .u8 57), .lit (.int .u8 49), .lit (.int .u8 28), .lit (.int .u8 3), .lit (.int .u8 61), .lit (.int .u8 58), .lit (.int .u8 42), .lit (.int .u8 50), .lit (.int .u8 38), .lit (.int .u8 29), .lit (.int .u8 17), .lit (.int .u8 4), .lit (.int .u8 62), .lit (.int .u8 47), .lit (.int .u8 59), .lit (.int .u8 36), .lit (.int .u8 45), .lit (.int .u8 43), .lit (.int .u8 51), .lit (.int .u8 22), .lit (.int .u8 53), .lit (.int .u8 39), .lit (.int .u8 33), .lit (.int .u8 30), .lit (.int .u8 24), .lit (.int .u8 18), .lit (.int .u8 12), .lit (.int .u8 5), .lit (.int .u8 63), .lit (.int .u8 55), .lit (.int .u8 48), .lit (.int .u8 27), .lit (.int .u8 60), .lit (.int .u8 41), .lit (.int .u8 37), .lit (.int .u8 16), .lit (.int .u8 46), .lit (.int .u8 35), .lit (.int .u8 44), .lit (.int .u8 21), .lit (.int .u8 52), .lit (.int .u8 32), .lit (.int .u8 23), .lit (.int .u8 11), .lit (.int .u8 54), .lit (.int .u8 26), .lit (.int .u8 40), .lit (.int .u8 15), .lit (.int .u8 34), .lit (.int .u8 20), .lit (.int .u8 31), .lit (.int .u8 10), .lit (.int .u8 25), .lit (.int .u8 14), .lit (.int .u8 19), .lit (.int .u8 9), .lit (.int .u8 13), .lit (.int .u8 8), .lit (.int .u8 7), .lit (.int .u8 6)]
def laid_internal_strconv_uint64pow10 {H : Type} : DataW H := .agg [.lit (.int .u64 1), .lit (.int .u64 10), .lit (.int .u64 100), .lit (.int .u64 1000), .lit (.int .u64 10000), .lit (.int .u64 100000), .lit (.int .u64 1000000), .lit (.int .u64 10000000), .lit (.int .u64 100000000), .lit (.int .u64 1000000000), .lit (.int .u64 10000000000), .lit (.int .u64 100000000000), .lit (.int .u64 1000000000000), .lit (.int .u64 10000000000000), .lit (.int .u64 100000000000000), .lit (.int .u64 1000000000000000), .lit (.int .u64 10000000000000000), .lit (.int .u64 100000000000000000), .lit (.int .u64 1000000000000000000), .lit (.int .u64 10000000000000000000)]

/-- 'laws.FnSystemBack': WHATEVER THE INPUT: true; the input reads as it did. -/
def fnSystemBackSpec : ChangeSpec := { name := "fnSystemBack", fn := fun _ => fun
  | [d] => { results := [.lit (.bool true)], args := [d] }
  | _ => none }
def fnSystemBackRow : OpenClaim := { program := "ytkoganldcmhopaadoor", sum := "ef7ea9220968d8433864b78db67894f37afd2e6cf9027b3ecd4522c133564546", func := "loop.example/assumeguarantee/laws.FnSystemBack", spec := "fnSystemBack", unfollowed := true, recurses := true, named := ["math/bits.deBruijn32tab", "math/bits.deBruijn64tab"], apart := false, laid := [("math/bits.deBruijn32tab", laid_math_bits_deBruijn32tab), ("math/bits.deBruijn64tab", laid_math_bits_deBruijn64tab)] }
def FnSystemBackSaid : Prop := fnSystemBackRow.holds Tryd.pinned (OpenSpec.ofChange fnSystemBackSpec)

/-- ITS FALSE NEIGHBOUR: 'it returns false'. Refute it at one input. -/
def fnSystemBackWrong : ChangeSpec := { name := "fnSystemBack", fn := fun _ => fun
  | [d] => { results := [.lit (.bool false)], args := [d] }
  | _ => none }
def FnSystemBackWrongFalsely : Prop := fnSystemBackRow.holds Tryd.pinned (OpenSpec.ofChange fnSystemBackWrong)

/-- 'laws.FnSystemOf': WHATEVER THE INPUT: true; the input reads as it did. -/
def fnSystemOfSpec : ChangeSpec := { name := "fnSystemOf", fn := fun _ => fun
  | [d] => { results := [.lit (.bool true)], args := [d] }
  | _ => none }
def fnSystemOfRow : OpenClaim := { program := "ytkoganldcmhopaadoor", sum := "ef7ea9220968d8433864b78db67894f37afd2e6cf9027b3ecd4522c133564546", func := "loop.example/assumeguarantee/laws.FnSystemOf", spec := "fnSystemOf", recurses := true, named := ["math/bits.deBruijn32tab", "math/bits.deBruijn64tab"], apart := false, laid := [("math/bits.deBruijn32tab", laid_math_bits_deBruijn32tab), ("math/bits.deBruijn64tab", laid_math_bits_deBruijn64tab)] }
def FnSystemOfSaid : Prop := fnSystemOfRow.holds Tryd.pinned (OpenSpec.ofChange fnSystemOfSpec)

/-- ITS FALSE NEIGHBOUR: 'it returns false'. Refute it at one input. -/
def fnSystemOfWrong : ChangeSpec := { name := "fnSystemOf", fn := fun _ => fun
  | [d] => { results := [.lit (.bool false)], args := [d] }
  | _ => none }
def FnSystemOfWrongFalsely : Prop := fnSystemOfRow.holds Tryd.pinned (OpenSpec.ofChange fnSystemOfWrong)

/-- 'laws.FnExactSystemOf': WHATEVER THE INPUT: true; the input reads as it did. -/
def fnExactSystemOfSpec : ChangeSpec := { name := "fnExactSystemOf", fn := fun _ => fun
  | [d] => { results := [.lit (.bool true)], args := [d] }
  | _ => none }
def fnExactSystemOfRow : OpenClaim := { program := "ytkoganldcmhopaadoor", sum := "ef7ea9220968d8433864b78db67894f37afd2e6cf9027b3ecd4522c133564546", func := "loop.example/assumeguarantee/laws.FnExactSystemOf", spec := "fnExactSystemOf", named := ["math/bits.deBruijn32tab", "math/bits.deBruijn64tab"], apart := false, laid := [("math/bits.deBruijn32tab", laid_math_bits_deBruijn32tab), ("math/bits.deBruijn64tab", laid_math_bits_deBruijn64tab)] }
def FnExactSystemOfSaid : Prop := fnExactSystemOfRow.holds Tryd.pinned (OpenSpec.ofChange fnExactSystemOfSpec)

/-- ITS FALSE NEIGHBOUR: 'it returns false'. Refute it at one input. -/
def fnExactSystemOfWrong : ChangeSpec := { name := "fnExactSystemOf", fn := fun _ => fun
  | [d] => { results := [.lit (.bool false)], args := [d] }
  | _ => none }
def FnExactSystemOfWrongFalsely : Prop := fnExactSystemOfRow.holds Tryd.pinned (OpenSpec.ofChange fnExactSystemOfWrong)

/-- 'laws.FnSystemRound': WHATEVER THE INPUT: true; the input reads as it did. -/
def fnSystemRoundSpec : ChangeSpec := { name := "fnSystemRound", fn := fun _ => fun
  | [d] => { results := [.lit (.bool true)], args := [d] }
  | _ => none }
def fnSystemRoundRow : OpenClaim := { program := "ytkoganldcmhopaadoor", sum := "ef7ea9220968d8433864b78db67894f37afd2e6cf9027b3ecd4522c133564546", func := "loop.example/assumeguarantee/laws.FnSystemRound", spec := "fnSystemRound", unfollowed := true, recurses := true, named := ["math/bits.deBruijn32tab", "math/bits.deBruijn64tab", "internal/strconv.uint64pow10"], apart := false, laid := [("math/bits.deBruijn32tab", laid_math_bits_deBruijn32tab), ("math/bits.deBruijn64tab", laid_math_bits_deBruijn64tab), ("internal/strconv.uint64pow10", laid_internal_strconv_uint64pow10)] }
def FnSystemRoundSaid : Prop := fnSystemRoundRow.holds Tryd.pinned (OpenSpec.ofChange fnSystemRoundSpec)

/-- ITS FALSE NEIGHBOUR: 'it returns false'. Refute it at one input. -/
def fnSystemRoundWrong : ChangeSpec := { name := "fnSystemRound", fn := fun _ => fun
  | [d] => { results := [.lit (.bool false)], args := [d] }
  | _ => none }
def FnSystemRoundWrongFalsely : Prop := fnSystemRoundRow.holds Tryd.pinned (OpenSpec.ofChange fnSystemRoundWrong)

/-- 'laws.FnMinimalOrder': WHATEVER THE INPUT: true; the input reads as it did. -/
def fnMinimalOrderSpec : ChangeSpec := { name := "fnMinimalOrder", fn := fun _ => fun
  | [d] => { results := [.lit (.bool true)], args := [d] }
  | _ => none }
def fnMinimalOrderRow : OpenClaim := { program := "ytkoganldcmhopaadoor", sum := "ef7ea9220968d8433864b78db67894f37afd2e6cf9027b3ecd4522c133564546", func := "loop.example/assumeguarantee/laws.FnMinimalOrder", spec := "fnMinimalOrder", unfollowed := true, recurses := true, named := ["internal/strconv.uint64pow10", "math/bits.deBruijn32tab", "math/bits.deBruijn64tab"], apart := false, laid := [("math/bits.deBruijn32tab", laid_math_bits_deBruijn32tab), ("math/bits.deBruijn64tab", laid_math_bits_deBruijn64tab), ("internal/strconv.uint64pow10", laid_internal_strconv_uint64pow10)] }
def FnMinimalOrderSaid : Prop := fnMinimalOrderRow.holds Tryd.pinned (OpenSpec.ofChange fnMinimalOrderSpec)

/-- ITS FALSE NEIGHBOUR: 'it returns false'. Refute it at one input. -/
def fnMinimalOrderWrong : ChangeSpec := { name := "fnMinimalOrder", fn := fun _ => fun
  | [d] => { results := [.lit (.bool false)], args := [d] }
  | _ => none }
def FnMinimalOrderWrongFalsely : Prop := fnMinimalOrderRow.holds Tryd.pinned (OpenSpec.ofChange fnMinimalOrderWrong)

/-- 'laws.FnMinimalOther': WHATEVER THE INPUT: true; the input reads as it did. -/
def fnMinimalOtherSpec : ChangeSpec := { name := "fnMinimalOther", fn := fun _ => fun
  | [d] => { results := [.lit (.bool true)], args := [d] }
  | _ => none }
def fnMinimalOtherRow : OpenClaim := { program := "ytkoganldcmhopaadoor", sum := "ef7ea9220968d8433864b78db67894f37afd2e6cf9027b3ecd4522c133564546", func := "loop.example/assumeguarantee/laws.FnMinimalOther", spec := "fnMinimalOther", unfollowed := true, recurses := true, named := ["internal/strconv.uint64pow10", "math/bits.deBruijn32tab", "math/bits.deBruijn64tab"], apart := false, laid := [("math/bits.deBruijn32tab", laid_math_bits_deBruijn32tab), ("math/bits.deBruijn64tab", laid_math_bits_deBruijn64tab), ("internal/strconv.uint64pow10", laid_internal_strconv_uint64pow10)] }
def FnMinimalOtherSaid : Prop := fnMinimalOtherRow.holds Tryd.pinned (OpenSpec.ofChange fnMinimalOtherSpec)

/-- ITS FALSE NEIGHBOUR: 'it returns false'. Refute it at one input. -/
def fnMinimalOtherWrong : ChangeSpec := { name := "fnMinimalOther", fn := fun _ => fun
  | [d] => { results := [.lit (.bool false)], args := [d] }
  | _ => none }
def FnMinimalOtherWrongFalsely : Prop := fnMinimalOtherRow.holds Tryd.pinned (OpenSpec.ofChange fnMinimalOtherWrong)

/-- 'laws.FnIsMinimal': WHATEVER THE INPUT: true; the input reads as it did. -/
def fnIsMinimalSpec : ChangeSpec := { name := "fnIsMinimal", fn := fun _ => fun
  | [d] => { results := [.lit (.bool true)], args := [d] }
  | _ => none }
def fnIsMinimalRow : OpenClaim := { program := "ytkoganldcmhopaadoor", sum := "ef7ea9220968d8433864b78db67894f37afd2e6cf9027b3ecd4522c133564546", func := "loop.example/assumeguarantee/laws.FnIsMinimal", spec := "fnIsMinimal", unfollowed := true, recurses := true, named := ["internal/strconv.uint64pow10", "math/bits.deBruijn32tab", "math/bits.deBruijn64tab"], apart := false, laid := [("math/bits.deBruijn32tab", laid_math_bits_deBruijn32tab), ("math/bits.deBruijn64tab", laid_math_bits_deBruijn64tab), ("internal/strconv.uint64pow10", laid_internal_strconv_uint64pow10)] }
def FnIsMinimalSaid : Prop := fnIsMinimalRow.holds Tryd.pinned (OpenSpec.ofChange fnIsMinimalSpec)

/-- ITS FALSE NEIGHBOUR: 'it returns false'. Refute it at one input. -/
def fnIsMinimalWrong : ChangeSpec := { name := "fnIsMinimal", fn := fun _ => fun
  | [d] => { results := [.lit (.bool false)], args := [d] }
  | _ => none }
def FnIsMinimalWrongFalsely : Prop := fnIsMinimalRow.holds Tryd.pinned (OpenSpec.ofChange fnIsMinimalWrong)

/-- 'laws.FnMinimalSplit': WHATEVER THE INPUT: true; the input reads as it did. -/
def fnMinimalSplitSpec : ChangeSpec := { name := "fnMinimalSplit", fn := fun _ => fun
  | [d] => { results := [.lit (.bool true)], args := [d] }
  | _ => none }
def fnMinimalSplitRow : OpenClaim := { program := "ytkoganldcmhopaadoor", sum := "ef7ea9220968d8433864b78db67894f37afd2e6cf9027b3ecd4522c133564546", func := "loop.example/assumeguarantee/laws.FnMinimalSplit", spec := "fnMinimalSplit", unfollowed := true, recurses := true, named := ["internal/strconv.uint64pow10", "math/bits.deBruijn32tab", "math/bits.deBruijn64tab"], apart := false, laid := [("math/bits.deBruijn32tab", laid_math_bits_deBruijn32tab), ("math/bits.deBruijn64tab", laid_math_bits_deBruijn64tab), ("internal/strconv.uint64pow10", laid_internal_strconv_uint64pow10)] }
def FnMinimalSplitSaid : Prop := fnMinimalSplitRow.holds Tryd.pinned (OpenSpec.ofChange fnMinimalSplitSpec)

/-- ITS FALSE NEIGHBOUR: 'it returns false'. Refute it at one input. -/
def fnMinimalSplitWrong : ChangeSpec := { name := "fnMinimalSplit", fn := fun _ => fun
  | [d] => { results := [.lit (.bool false)], args := [d] }
  | _ => none }
def FnMinimalSplitWrongFalsely : Prop := fnMinimalSplitRow.holds Tryd.pinned (OpenSpec.ofChange fnMinimalSplitWrong)

/-- 'laws.FnMinimize': WHATEVER THE INPUT: true; the input reads as it did. -/
def fnMinimizeSpec : ChangeSpec := { name := "fnMinimize", fn := fun _ => fun
  | [d] => { results := [.lit (.bool true)], args := [d] }
  | _ => none }
def fnMinimizeRow : OpenClaim := { program := "ytkoganldcmhopaadoor", sum := "ef7ea9220968d8433864b78db67894f37afd2e6cf9027b3ecd4522c133564546", func := "loop.example/assumeguarantee/laws.FnMinimize", spec := "fnMinimize", unfollowed := true, recurses := true, named := ["internal/strconv.uint64pow10", "math/bits.deBruijn32tab", "math/bits.deBruijn64tab"], apart := false, laid := [("math/bits.deBruijn32tab", laid_math_bits_deBruijn32tab), ("math/bits.deBruijn64tab", laid_math_bits_deBruijn64tab), ("internal/strconv.uint64pow10", laid_internal_strconv_uint64pow10)] }
def FnMinimizeSaid : Prop := fnMinimizeRow.holds Tryd.pinned (OpenSpec.ofChange fnMinimizeSpec)

/-- ITS FALSE NEIGHBOUR: 'it returns false'. Refute it at one input. -/
def fnMinimizeWrong : ChangeSpec := { name := "fnMinimize", fn := fun _ => fun
  | [d] => { results := [.lit (.bool false)], args := [d] }
  | _ => none }
def FnMinimizeWrongFalsely : Prop := fnMinimizeRow.holds Tryd.pinned (OpenSpec.ofChange fnMinimizeWrong)

/-- 'laws.FnSameMinimal': WHATEVER THE INPUT: true; the input reads as it did. -/
def fnSameMinimalSpec : ChangeSpec := { name := "fnSameMinimal", fn := fun _ => fun
  | [d] => { results := [.lit (.bool true)], args := [d] }
  | _ => none }
def fnSameMinimalRow : OpenClaim := { program := "ytkoganldcmhopaadoor", sum := "ef7ea9220968d8433864b78db67894f37afd2e6cf9027b3ecd4522c133564546", func := "loop.example/assumeguarantee/laws.FnSameMinimal", spec := "fnSameMinimal", unfollowed := true, recurses := true, named := ["math/bits.deBruijn32tab", "math/bits.deBruijn64tab", "internal/strconv.uint64pow10"], apart := false, laid := [("math/bits.deBruijn32tab", laid_math_bits_deBruijn32tab), ("math/bits.deBruijn64tab", laid_math_bits_deBruijn64tab), ("internal/strconv.uint64pow10", laid_internal_strconv_uint64pow10)] }
def FnSameMinimalSaid : Prop := fnSameMinimalRow.holds Tryd.pinned (OpenSpec.ofChange fnSameMinimalSpec)

/-- ITS FALSE NEIGHBOUR: 'it returns false'. Refute it at one input. -/
def fnSameMinimalWrong : ChangeSpec := { name := "fnSameMinimal", fn := fun _ => fun
  | [d] => { results := [.lit (.bool false)], args := [d] }
  | _ => none }
def FnSameMinimalWrongFalsely : Prop := fnSameMinimalRow.holds Tryd.pinned (OpenSpec.ofChange fnSameMinimalWrong)

/-- 'laws.FnMinimalLeast': WHATEVER THE INPUT: true; the input reads as it did. -/
def fnMinimalLeastSpec : ChangeSpec := { name := "fnMinimalLeast", fn := fun _ => fun
  | [d] => { results := [.lit (.bool true)], args := [d] }
  | _ => none }
def fnMinimalLeastRow : OpenClaim := { program := "ytkoganldcmhopaadoor", sum := "ef7ea9220968d8433864b78db67894f37afd2e6cf9027b3ecd4522c133564546", func := "loop.example/assumeguarantee/laws.FnMinimalLeast", spec := "fnMinimalLeast", unfollowed := true, recurses := true, named := ["internal/strconv.uint64pow10", "math/bits.deBruijn32tab", "math/bits.deBruijn64tab"], apart := false, laid := [("math/bits.deBruijn32tab", laid_math_bits_deBruijn32tab), ("math/bits.deBruijn64tab", laid_math_bits_deBruijn64tab), ("internal/strconv.uint64pow10", laid_internal_strconv_uint64pow10)] }
def FnMinimalLeastSaid : Prop := fnMinimalLeastRow.holds Tryd.pinned (OpenSpec.ofChange fnMinimalLeastSpec)

/-- ITS FALSE NEIGHBOUR: 'it returns false'. Refute it at one input. -/
def fnMinimalLeastWrong : ChangeSpec := { name := "fnMinimalLeast", fn := fun _ => fun
  | [d] => { results := [.lit (.bool false)], args := [d] }
  | _ => none }
def FnMinimalLeastWrongFalsely : Prop := fnMinimalLeastRow.holds Tryd.pinned (OpenSpec.ofChange fnMinimalLeastWrong)

/-- 'laws.FnMinimalUnique': WHATEVER THE INPUT: true; the input reads as it did. -/
def fnMinimalUniqueSpec : ChangeSpec := { name := "fnMinimalUnique", fn := fun _ => fun
  | [d] => { results := [.lit (.bool true)], args := [d] }
  | _ => none }
def fnMinimalUniqueRow : OpenClaim := { program := "ytkoganldcmhopaadoor", sum := "ef7ea9220968d8433864b78db67894f37afd2e6cf9027b3ecd4522c133564546", func := "loop.example/assumeguarantee/laws.FnMinimalUnique", spec := "fnMinimalUnique", unfollowed := true, recurses := true, named := ["internal/strconv.uint64pow10", "math/bits.deBruijn32tab", "math/bits.deBruijn64tab"], apart := false, laid := [("math/bits.deBruijn32tab", laid_math_bits_deBruijn32tab), ("math/bits.deBruijn64tab", laid_math_bits_deBruijn64tab), ("internal/strconv.uint64pow10", laid_internal_strconv_uint64pow10)] }
def FnMinimalUniqueSaid : Prop := fnMinimalUniqueRow.holds Tryd.pinned (OpenSpec.ofChange fnMinimalUniqueSpec)

/-- ITS FALSE NEIGHBOUR: 'it returns false'. Refute it at one input. -/
def fnMinimalUniqueWrong : ChangeSpec := { name := "fnMinimalUnique", fn := fun _ => fun
  | [d] => { results := [.lit (.bool false)], args := [d] }
  | _ => none }
def FnMinimalUniqueWrongFalsely : Prop := fnMinimalUniqueRow.holds Tryd.pinned (OpenSpec.ofChange fnMinimalUniqueWrong)

/- THE SECOND FORM. 'bulk': how many values and letters a reading holds, each counted each time it is reached (what is shared counts as often as it is met; a slice's spare places count too). A statement '..UptoSaid' is the law's where the arguments, and the package variables that the reading takes, are together of bulk at most 1048576: NARROWER than '..Said'. Prove '..Said' where nothing that the law and all that it calls make is longer than what came in: it says more and counts as full. Else prove '..UptoSaid'. A law counts once. -/
mutual
def uptoBulk {H : Type} : DataW H → Nat
  | .lit (.string bytes) => bytes.length + 1
  | .lit _ => 1
  | .nil => 1
  | .ptr d => uptoBulk d + 1
  | .slice elems spare => uptoBulkAll elems + uptoBulkAll spare + 1
  | .agg parts => uptoBulkAll parts + 1
  | .iface _ d => uptoBulk d + 1
  | .map entries => uptoBulkEntries entries + 1
  | .held _ => 1
def uptoBulkAll {H : Type} : List (DataW H) → Nat
  | [] => 0
  | d :: r => uptoBulk d + uptoBulkAll r
def uptoBulkEntries {H : Type} : List (Lit × DataW H) → Nat
  | [] => 0
  | x :: r => uptoBulkEntry x + uptoBulkEntries r
def uptoBulkEntry {H : Type} : Lit × DataW H → Nat
  | (.string bytes, d) => bytes.length + uptoBulk d + 1
  | (_, d) => uptoBulk d + 1
 end
def uptoSmall : (H : Type) → List (DataW H) → Bool := fun _ ds => decide (uptoBulkAll ds ≤ 1048576)
def OpenSpec.upto (s : _root_.Go.ChangeSpec) : _root_.Go.OpenSpec := { _root_.Go.OpenSpec.ofChange s with cond := some uptoSmall }

/-- 'laws.FnSystemBack', WHERE WHAT IT READS IS OF BULK AT MOST 1048576: true; the input reads as it did. -/
def fnSystemBackUptoRow : OpenClaim := { program := "ytkoganldcmhopaadoor", sum := "ef7ea9220968d8433864b78db67894f37afd2e6cf9027b3ecd4522c133564546", func := "loop.example/assumeguarantee/laws.FnSystemBack", spec := "fnSystemBack", unfollowed := true, recurses := true, named := ["math/bits.deBruijn32tab", "math/bits.deBruijn64tab"], apart := false, laid := [("math/bits.deBruijn32tab", laid_math_bits_deBruijn32tab), ("math/bits.deBruijn64tab", laid_math_bits_deBruijn64tab)], narrowed := true }
def FnSystemBackUptoSaid : Prop := fnSystemBackUptoRow.holds Tryd.pinned (OpenSpec.upto fnSystemBackSpec)

/-- 'laws.FnSystemOf', WHERE WHAT IT READS IS OF BULK AT MOST 1048576: true; the input reads as it did. -/
def fnSystemOfUptoRow : OpenClaim := { program := "ytkoganldcmhopaadoor", sum := "ef7ea9220968d8433864b78db67894f37afd2e6cf9027b3ecd4522c133564546", func := "loop.example/assumeguarantee/laws.FnSystemOf", spec := "fnSystemOf", recurses := true, named := ["math/bits.deBruijn32tab", "math/bits.deBruijn64tab"], apart := false, laid := [("math/bits.deBruijn32tab", laid_math_bits_deBruijn32tab), ("math/bits.deBruijn64tab", laid_math_bits_deBruijn64tab)], narrowed := true }
def FnSystemOfUptoSaid : Prop := fnSystemOfUptoRow.holds Tryd.pinned (OpenSpec.upto fnSystemOfSpec)

/-- 'laws.FnExactSystemOf', WHERE WHAT IT READS IS OF BULK AT MOST 1048576: true; the input reads as it did. -/
def fnExactSystemOfUptoRow : OpenClaim := { program := "ytkoganldcmhopaadoor", sum := "ef7ea9220968d8433864b78db67894f37afd2e6cf9027b3ecd4522c133564546", func := "loop.example/assumeguarantee/laws.FnExactSystemOf", spec := "fnExactSystemOf", named := ["math/bits.deBruijn32tab", "math/bits.deBruijn64tab"], apart := false, laid := [("math/bits.deBruijn32tab", laid_math_bits_deBruijn32tab), ("math/bits.deBruijn64tab", laid_math_bits_deBruijn64tab)], narrowed := true }
def FnExactSystemOfUptoSaid : Prop := fnExactSystemOfUptoRow.holds Tryd.pinned (OpenSpec.upto fnExactSystemOfSpec)

/-- 'laws.FnSystemRound', WHERE WHAT IT READS IS OF BULK AT MOST 1048576: true; the input reads as it did. -/
def fnSystemRoundUptoRow : OpenClaim := { program := "ytkoganldcmhopaadoor", sum := "ef7ea9220968d8433864b78db67894f37afd2e6cf9027b3ecd4522c133564546", func := "loop.example/assumeguarantee/laws.FnSystemRound", spec := "fnSystemRound", unfollowed := true, recurses := true, named := ["math/bits.deBruijn32tab", "math/bits.deBruijn64tab", "internal/strconv.uint64pow10"], apart := false, laid := [("math/bits.deBruijn32tab", laid_math_bits_deBruijn32tab), ("math/bits.deBruijn64tab", laid_math_bits_deBruijn64tab), ("internal/strconv.uint64pow10", laid_internal_strconv_uint64pow10)], narrowed := true }
def FnSystemRoundUptoSaid : Prop := fnSystemRoundUptoRow.holds Tryd.pinned (OpenSpec.upto fnSystemRoundSpec)

/-- 'laws.FnMinimalOrder', WHERE WHAT IT READS IS OF BULK AT MOST 1048576: true; the input reads as it did. -/
def fnMinimalOrderUptoRow : OpenClaim := { program := "ytkoganldcmhopaadoor", sum := "ef7ea9220968d8433864b78db67894f37afd2e6cf9027b3ecd4522c133564546", func := "loop.example/assumeguarantee/laws.FnMinimalOrder", spec := "fnMinimalOrder", unfollowed := true, recurses := true, named := ["internal/strconv.uint64pow10", "math/bits.deBruijn32tab", "math/bits.deBruijn64tab"], apart := false, laid := [("math/bits.deBruijn32tab", laid_math_bits_deBruijn32tab), ("math/bits.deBruijn64tab", laid_math_bits_deBruijn64tab), ("internal/strconv.uint64pow10", laid_internal_strconv_uint64pow10)], narrowed := true }
def FnMinimalOrderUptoSaid : Prop := fnMinimalOrderUptoRow.holds Tryd.pinned (OpenSpec.upto fnMinimalOrderSpec)

/-- 'laws.FnMinimalOther', WHERE WHAT IT READS IS OF BULK AT MOST 1048576: true; the input reads as it did. -/
def fnMinimalOtherUptoRow : OpenClaim := { program := "ytkoganldcmhopaadoor", sum := "ef7ea9220968d8433864b78db67894f37afd2e6cf9027b3ecd4522c133564546", func := "loop.example/assumeguarantee/laws.FnMinimalOther", spec := "fnMinimalOther", unfollowed := true, recurses := true, named := ["internal/strconv.uint64pow10", "math/bits.deBruijn32tab", "math/bits.deBruijn64tab"], apart := false, laid := [("math/bits.deBruijn32tab", laid_math_bits_deBruijn32tab), ("math/bits.deBruijn64tab", laid_math_bits_deBruijn64tab), ("internal/strconv.uint64pow10", laid_internal_strconv_uint64pow10)], narrowed := true }
def FnMinimalOtherUptoSaid : Prop := fnMinimalOtherUptoRow.holds Tryd.pinned (OpenSpec.upto fnMinimalOtherSpec)

/-- 'laws.FnIsMinimal', WHERE WHAT IT READS IS OF BULK AT MOST 1048576: true; the input reads as it did. -/
def fnIsMinimalUptoRow : OpenClaim := { program := "ytkoganldcmhopaadoor", sum := "ef7ea9220968d8433864b78db67894f37afd2e6cf9027b3ecd4522c133564546", func := "loop.example/assumeguarantee/laws.FnIsMinimal", spec := "fnIsMinimal", unfollowed := true, recurses := true, named := ["internal/strconv.uint64pow10", "math/bits.deBruijn32tab", "math/bits.deBruijn64tab"], apart := false, laid := [("math/bits.deBruijn32tab", laid_math_bits_deBruijn32tab), ("math/bits.deBruijn64tab", laid_math_bits_deBruijn64tab), ("internal/strconv.uint64pow10", laid_internal_strconv_uint64pow10)], narrowed := true }
def FnIsMinimalUptoSaid : Prop := fnIsMinimalUptoRow.holds Tryd.pinned (OpenSpec.upto fnIsMinimalSpec)

/-- 'laws.FnMinimalSplit', WHERE WHAT IT READS IS OF BULK AT MOST 1048576: true; the input reads as it did. -/
def fnMinimalSplitUptoRow : OpenClaim := { program := "ytkoganldcmhopaadoor", sum := "ef7ea9220968d8433864b78db67894f37afd2e6cf9027b3ecd4522c133564546", func := "loop.example/assumeguarantee/laws.FnMinimalSplit", spec := "fnMinimalSplit", unfollowed := true, recurses := true, named := ["internal/strconv.uint64pow10", "math/bits.deBruijn32tab", "math/bits.deBruijn64tab"], apart := false, laid := [("math/bits.deBruijn32tab", laid_math_bits_deBruijn32tab), ("math/bits.deBruijn64tab", laid_math_bits_deBruijn64tab), ("internal/strconv.uint64pow10", laid_internal_strconv_uint64pow10)], narrowed := true }
def FnMinimalSplitUptoSaid : Prop := fnMinimalSplitUptoRow.holds Tryd.pinned (OpenSpec.upto fnMinimalSplitSpec)

/-- 'laws.FnMinimize', WHERE WHAT IT READS IS OF BULK AT MOST 1048576: true; the input reads as it did. -/
def fnMinimizeUptoRow : OpenClaim := { program := "ytkoganldcmhopaadoor", sum := "ef7ea9220968d8433864b78db67894f37afd2e6cf9027b3ecd4522c133564546", func := "loop.example/assumeguarantee/laws.FnMinimize", spec := "fnMinimize", unfollowed := true, recurses := true, named := ["internal/strconv.uint64pow10", "math/bits.deBruijn32tab", "math/bits.deBruijn64tab"], apart := false, laid := [("math/bits.deBruijn32tab", laid_math_bits_deBruijn32tab), ("math/bits.deBruijn64tab", laid_math_bits_deBruijn64tab), ("internal/strconv.uint64pow10", laid_internal_strconv_uint64pow10)], narrowed := true }
def FnMinimizeUptoSaid : Prop := fnMinimizeUptoRow.holds Tryd.pinned (OpenSpec.upto fnMinimizeSpec)

/-- 'laws.FnSameMinimal', WHERE WHAT IT READS IS OF BULK AT MOST 1048576: true; the input reads as it did. -/
def fnSameMinimalUptoRow : OpenClaim := { program := "ytkoganldcmhopaadoor", sum := "ef7ea9220968d8433864b78db67894f37afd2e6cf9027b3ecd4522c133564546", func := "loop.example/assumeguarantee/laws.FnSameMinimal", spec := "fnSameMinimal", unfollowed := true, recurses := true, named := ["math/bits.deBruijn32tab", "math/bits.deBruijn64tab", "internal/strconv.uint64pow10"], apart := false, laid := [("math/bits.deBruijn32tab", laid_math_bits_deBruijn32tab), ("math/bits.deBruijn64tab", laid_math_bits_deBruijn64tab), ("internal/strconv.uint64pow10", laid_internal_strconv_uint64pow10)], narrowed := true }
def FnSameMinimalUptoSaid : Prop := fnSameMinimalUptoRow.holds Tryd.pinned (OpenSpec.upto fnSameMinimalSpec)

/-- 'laws.FnMinimalLeast', WHERE WHAT IT READS IS OF BULK AT MOST 1048576: true; the input reads as it did. -/
def fnMinimalLeastUptoRow : OpenClaim := { program := "ytkoganldcmhopaadoor", sum := "ef7ea9220968d8433864b78db67894f37afd2e6cf9027b3ecd4522c133564546", func := "loop.example/assumeguarantee/laws.FnMinimalLeast", spec := "fnMinimalLeast", unfollowed := true, recurses := true, named := ["internal/strconv.uint64pow10", "math/bits.deBruijn32tab", "math/bits.deBruijn64tab"], apart := false, laid := [("math/bits.deBruijn32tab", laid_math_bits_deBruijn32tab), ("math/bits.deBruijn64tab", laid_math_bits_deBruijn64tab), ("internal/strconv.uint64pow10", laid_internal_strconv_uint64pow10)], narrowed := true }
def FnMinimalLeastUptoSaid : Prop := fnMinimalLeastUptoRow.holds Tryd.pinned (OpenSpec.upto fnMinimalLeastSpec)

/-- 'laws.FnMinimalUnique', WHERE WHAT IT READS IS OF BULK AT MOST 1048576: true; the input reads as it did. -/
def fnMinimalUniqueUptoRow : OpenClaim := { program := "ytkoganldcmhopaadoor", sum := "ef7ea9220968d8433864b78db67894f37afd2e6cf9027b3ecd4522c133564546", func := "loop.example/assumeguarantee/laws.FnMinimalUnique", spec := "fnMinimalUnique", unfollowed := true, recurses := true, named := ["internal/strconv.uint64pow10", "math/bits.deBruijn32tab", "math/bits.deBruijn64tab"], apart := false, laid := [("math/bits.deBruijn32tab", laid_math_bits_deBruijn32tab), ("math/bits.deBruijn64tab", laid_math_bits_deBruijn64tab), ("internal/strconv.uint64pow10", laid_internal_strconv_uint64pow10)], narrowed := true }
def FnMinimalUniqueUptoSaid : Prop := fnMinimalUniqueUptoRow.holds Tryd.pinned (OpenSpec.upto fnMinimalUniqueSpec)

end Rows
end Go.Proofs.YtkoganldcmhopaaDoor
