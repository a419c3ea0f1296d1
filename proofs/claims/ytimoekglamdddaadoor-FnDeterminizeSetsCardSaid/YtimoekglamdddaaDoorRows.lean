/-
  NARROWER THAN 'FOR EVERY INPUT', by the rows' own cells (each row's printed sentence says how): FnExactDeterminize: laid · FnExactProjectSystem: laid · FnProjectAll: laid · FnProjectNone: laid · FnDeterminize: laid · FnProjectTrace: laid · FnDeterminizeSafe: laid · FnProjectSafe: laid · FnDeterminizeCount: laid · FnDeterminizeTrim: laid · FnDeterminizeSets: laid · FnTracesWithin: laid.
  DERIVED. THE GIVEN ROWS OF THIS SEAT. 12 by the template 'for every input the law returns true; each argument reads behind the call as it read before'; 0 by the template 'total and deterministic' (their statements: YtimoekglamdddaaDoorTotals.lean).
  GIVEN WITH THE SEED: the statements are not yours to turn. If you find one false, say at which input.
  Laid BY PROGRAM, IN A SANDBOX (cutbox-rows.mjs): the forced cells as the released guide's own fill.sh prints them over the translation 4db0d71ae51a28f0… (all of the seat's roots in one cut). By AI agents, Wed Nov 11 2026. No macro, syntax, notation, axiom, sorry.
-/
import Derived.Test.YtimoekglamdddaaDoorChecked
import GoSem.Claim
import GoSem.ClaimJoined
import GoSem.ClaimMapViews
import Derived.JoinedTies
import Derived.KernelRfl
namespace Go.Proofs.YtimoekglamdddaaDoor
/- THE CELL 'sum', in the pinned program and in every row, IS THE sha256 OF THE DUMP (.gsa) THAT YtimoekglamdddaaDoorProg.lean LOADS. Nothing in Lean hashes anything: it is a label: what it is worth is what the hold of that sum in a sandbox is worth. -/
noncomputable def Tryd.pinned : Pinned := { name := "ytimoekglamdddaadoor", sum := "4db0d71ae51a28f07c2dd671261922adb849fa8bdad01fe0525c8209476650d7", checked := Tryd.checked }
namespace Rows
def none {H : Type} : Left H := { results := [], args := [] }

/- WHAT THE LISTED PACKAGE-LEVEL VARIABLES READ AS WHEN THE CALL BEGINS. Each datum BY PROGRAM (the guide's laid-datum.mjs) off the statement by which the dump's own 'gosem.cut.vars' lays the variable. In a bare row this is a premise. The card (YtimoekglamdddaaDoorCards.lean) ties it to the program's text. -/
def laid_math_bits_deBruijn32tab {H : Type} : DataW H := .agg [.lit (.int .u8 0), .lit (.int .u8 1), .lit (.int .u8 28), .lit (.int .u8 2), .lit (.int .u8 29), .lit (.int .u8 14), .lit (.int .u8 24), .lit (.int .u8 3), .lit (.int .u8 30), .lit (.int .u8 22), .lit (.int .u8 20), .lit (.int .u8 15), .lit (.int .u8 25), .lit (.int .u8 17), .lit (.int .u8 4), .lit (.int .u8 8), .lit (.int .u8 31), .lit (.int .u8 27), .lit (.int .u8 13), .lit (.int .u8 23), .lit (.int .u8 21), .lit (.int .u8 19), .lit (.int .u8 16), .lit (.int .u8 7), .lit (.int .u8 26), .lit (.int .u8 12), .lit (.int .u8 18), .lit (.int .u8 6), .lit (.int .u8 11), .lit (.int .u8 5), .lit (.int .u8 10), .lit (.int .u8 9)]
def laid_math_bits_deBruijn64tab {H : Type} : DataW H := .agg [.lit (.int .u8 0), .lit (.int .u8 1), .lit (.int .u8 56), .lit (.int .u8 2), .lit (.int .u8 57), .lit (.int .u8 49), .lit (.int .u8 28), .lit (.int .u8 3), .lit (.int .u8 61), .lit (.int .u8 58), .lit (.int .u8 42), .lit (.int .u8 50), .lit (.int .u8 38), .lit (.int .u8 29), .lit (.int .u8 17), .lit (.int .u8 4), .lit (.int .u8 62), .lit (.int .u8 47), .lit (.int .u8 59), .lit (.int .u8 36), .lit (.int .u8 45), .lit (.int .u8 43), .lit (.int .u8 51), .lit (.int .u8 22), .lit (.int .u8 53), .lit (.int .u8 39), .lit (.int .u8 33), .lit (.int .u8 30), .lit (.int .u8 24), .lit (.int .u8 18), .lit (.int .u8 12), .lit (.int .u8 5), .lit (.int .u8 63), .lit (.int .u8 55), .lit (.int .u8 48), .lit (.int .u8 27), .lit (.int .u8 60), .lit (.int .u8 41), .lit (.int .u8 37), .lit (.int .u8 16), .lit (.int .u8 46), .lit (.int .u8 35), .lit (.int .u8 44), .lit (.int .u8 21), .lit (.int .u8 52), .lit (.int .u8 32), .lit (.int .u8 23), .lit (.int .u8 11), .lit (.int .u8 54), .lit (.int .u8 26), .lit (.int .u8 40), .lit (.int .u8 15), .lit (.int .u8 34), .lit (.int .u8 20), .lit (.int .u8 31), .lit (.int .u8 10), .lit (.int .u8 25), .lit (.int .u8 14), .lit (.int .u8 19), .lit (.int .u8 9), .lit (.int .u8 13), .lit (.int .u8 8), .lit (.int .u8 7), .lit (.int .u8 6)]

/-- 'laws.FnExactDeterminize': WHATEVER THE INPUT: true; the input reads as it did. -/
def fnExactDeterminizeSpec : ChangeSpec := { name := "fnExactDeterminize", fn := fun _ => fun
  | [d] => { results := [.lit (.bool true)], args := [d] }
  | _ => none }
def fnExactDeterminizeRow : OpenClaim := { program := "ytimoekglamdddaadoor", sum := "4db0d71ae51a28f07c2dd671261922adb849fa8bdad01fe0525c8209476650d7", func := "loop.example/assumeguarantee/laws.FnExactDeterminize", spec := "fnExactDeterminize", unfollowed := true, recurses := true, named := ["math/bits.deBruijn32tab", "math/bits.deBruijn64tab"], apart := false, laid := [("math/bits.deBruijn32tab", laid_math_bits_deBruijn32tab), ("math/bits.deBruijn64tab", laid_math_bits_deBruijn64tab)] }
def FnExactDeterminizeSaid : Prop := fnExactDeterminizeRow.holds Tryd.pinned (OpenSpec.ofChange fnExactDeterminizeSpec)

/-- ITS FALSE NEIGHBOUR: 'it returns false'. Refute it at one input. -/
def fnExactDeterminizeWrong : ChangeSpec := { name := "fnExactDeterminize", fn := fun _ => fun
  | [d] => { results := [.lit (.bool false)], args := [d] }
  | _ => none }
def FnExactDeterminizeWrongFalsely : Prop := fnExactDeterminizeRow.holds Tryd.pinned (OpenSpec.ofChange fnExactDeterminizeWrong)

/-- 'laws.FnExactProjectSystem': WHATEVER THE INPUT: true; the input reads as it did. -/
def fnExactProjectSystemSpec : ChangeSpec := { name := "fnExactProjectSystem", fn := fun _ => fun
  | [d1, d2] => { results := [.lit (.bool true)], args := [d1, d2] }
  | _ => none }
def fnExactProjectSystemRow : OpenClaim := { program := "ytimoekglamdddaadoor", sum := "4db0d71ae51a28f07c2dd671261922adb849fa8bdad01fe0525c8209476650d7", func := "loop.example/assumeguarantee/laws.FnExactProjectSystem", spec := "fnExactProjectSystem", unfollowed := true, recurses := true, named := ["math/bits.deBruijn32tab", "math/bits.deBruijn64tab"], apart := false, laid := [("math/bits.deBruijn32tab", laid_math_bits_deBruijn32tab), ("math/bits.deBruijn64tab", laid_math_bits_deBruijn64tab)] }
def FnExactProjectSystemSaid : Prop := fnExactProjectSystemRow.holds Tryd.pinned (OpenSpec.ofChange fnExactProjectSystemSpec)

/-- ITS FALSE NEIGHBOUR: 'it returns false'. Refute it at one input. -/
def fnExactProjectSystemWrong : ChangeSpec := { name := "fnExactProjectSystem", fn := fun _ => fun
  | [d1, d2] => { results := [.lit (.bool false)], args := [d1, d2] }
  | _ => none }
def FnExactProjectSystemWrongFalsely : Prop := fnExactProjectSystemRow.holds Tryd.pinned (OpenSpec.ofChange fnExactProjectSystemWrong)

/-- 'laws.FnProjectAll': WHATEVER THE INPUT: true; the input reads as it did. -/
def fnProjectAllSpec : ChangeSpec := { name := "fnProjectAll", fn := fun _ => fun
  | [d] => { results := [.lit (.bool true)], args := [d] }
  | _ => none }
def fnProjectAllRow : OpenClaim := { program := "ytimoekglamdddaadoor", sum := "4db0d71ae51a28f07c2dd671261922adb849fa8bdad01fe0525c8209476650d7", func := "loop.example/assumeguarantee/laws.FnProjectAll", spec := "fnProjectAll", unfollowed := true, recurses := true, named := ["math/bits.deBruijn32tab", "math/bits.deBruijn64tab"], apart := false, laid := [("math/bits.deBruijn32tab", laid_math_bits_deBruijn32tab), ("math/bits.deBruijn64tab", laid_math_bits_deBruijn64tab)] }
def FnProjectAllSaid : Prop := fnProjectAllRow.holds Tryd.pinned (OpenSpec.ofChange fnProjectAllSpec)

/-- ITS FALSE NEIGHBOUR: 'it returns false'. Refute it at one input. -/
def fnProjectAllWrong : ChangeSpec := { name := "fnProjectAll", fn := fun _ => fun
  | [d] => { results := [.lit (.bool false)], args := [d] }
  | _ => none }
def FnProjectAllWrongFalsely : Prop := fnProjectAllRow.holds Tryd.pinned (OpenSpec.ofChange fnProjectAllWrong)

/-- 'laws.FnProjectNone': WHATEVER THE INPUT: true; the input reads as it did. -/
def fnProjectNoneSpec : ChangeSpec := { name := "fnProjectNone", fn := fun _ => fun
  | [d] => { results := [.lit (.bool true)], args := [d] }
  | _ => none }
def fnProjectNoneRow : OpenClaim := { program := "ytimoekglamdddaadoor", sum := "4db0d71ae51a28f07c2dd671261922adb849fa8bdad01fe0525c8209476650d7", func := "loop.example/assumeguarantee/laws.FnProjectNone", spec := "fnProjectNone", unfollowed := true, recurses := true, named := ["math/bits.deBruijn32tab", "math/bits.deBruijn64tab"], apart := false, laid := [("math/bits.deBruijn32tab", laid_math_bits_deBruijn32tab), ("math/bits.deBruijn64tab", laid_math_bits_deBruijn64tab)] }
def FnProjectNoneSaid : Prop := fnProjectNoneRow.holds Tryd.pinned (OpenSpec.ofChange fnProjectNoneSpec)

/-- ITS FALSE NEIGHBOUR: 'it returns false'. Refute it at one input. -/
def fnProjectNoneWrong : ChangeSpec := { name := "fnProjectNone", fn := fun _ => fun
  | [d] => { results := [.lit (.bool false)], args := [d] }
  | _ => none }
def FnProjectNoneWrongFalsely : Prop := fnProjectNoneRow.holds Tryd.pinned (OpenSpec.ofChange fnProjectNoneWrong)

/-- 'laws.FnDeterminize': WHATEVER THE INPUT: true; the input reads as it did. -/
def fnDeterminizeSpec : ChangeSpec := { name := "fnDeterminize", fn := fun _ => fun
  | [d] => { results := [.lit (.bool true)], args := [d] }
  | _ => none }
def fnDeterminizeRow : OpenClaim := { program := "ytimoekglamdddaadoor", sum := "4db0d71ae51a28f07c2dd671261922adb849fa8bdad01fe0525c8209476650d7", func := "loop.example/assumeguarantee/laws.FnDeterminize", spec := "fnDeterminize", unfollowed := true, recurses := true, named := ["math/bits.deBruijn32tab", "math/bits.deBruijn64tab"], apart := false, laid := [("math/bits.deBruijn32tab", laid_math_bits_deBruijn32tab), ("math/bits.deBruijn64tab", laid_math_bits_deBruijn64tab)] }
def FnDeterminizeSaid : Prop := fnDeterminizeRow.holds Tryd.pinned (OpenSpec.ofChange fnDeterminizeSpec)

/-- ITS FALSE NEIGHBOUR: 'it returns false'. Refute it at one input. -/
def fnDeterminizeWrong : ChangeSpec := { name := "fnDeterminize", fn := fun _ => fun
  | [d] => { results := [.lit (.bool false)], args := [d] }
  | _ => none }
def FnDeterminizeWrongFalsely : Prop := fnDeterminizeRow.holds Tryd.pinned (OpenSpec.ofChange fnDeterminizeWrong)

/-- 'laws.FnProjectTrace': WHATEVER THE INPUT: true; the input reads as it did. -/
def fnProjectTraceSpec : ChangeSpec := { name := "fnProjectTrace", fn := fun _ => fun
  | [d1, d2] => { results := [.lit (.bool true)], args := [d1, d2] }
  | _ => none }
def fnProjectTraceRow : OpenClaim := { program := "ytimoekglamdddaadoor", sum := "4db0d71ae51a28f07c2dd671261922adb849fa8bdad01fe0525c8209476650d7", func := "loop.example/assumeguarantee/laws.FnProjectTrace", spec := "fnProjectTrace", unfollowed := true, recurses := true, named := ["math/bits.deBruijn32tab", "math/bits.deBruijn64tab"], apart := false, laid := [("math/bits.deBruijn32tab", laid_math_bits_deBruijn32tab), ("math/bits.deBruijn64tab", laid_math_bits_deBruijn64tab)] }
def FnProjectTraceSaid : Prop := fnProjectTraceRow.holds Tryd.pinned (OpenSpec.ofChange fnProjectTraceSpec)

/-- ITS FALSE NEIGHBOUR: 'it returns false'. Refute it at one input. -/
def fnProjectTraceWrong : ChangeSpec := { name := "fnProjectTrace", fn := fun _ => fun
  | [d1, d2] => { results := [.lit (.bool false)], args := [d1, d2] }
  | _ => none }
def FnProjectTraceWrongFalsely : Prop := fnProjectTraceRow.holds Tryd.pinned (OpenSpec.ofChange fnProjectTraceWrong)

/-- 'laws.FnDeterminizeSafe': WHATEVER THE INPUT: true; the input reads as it did. -/
def fnDeterminizeSafeSpec : ChangeSpec := { name := "fnDeterminizeSafe", fn := fun _ => fun
  | [d] => { results := [.lit (.bool true)], args := [d] }
  | _ => none }
def fnDeterminizeSafeRow : OpenClaim := { program := "ytimoekglamdddaadoor", sum := "4db0d71ae51a28f07c2dd671261922adb849fa8bdad01fe0525c8209476650d7", func := "loop.example/assumeguarantee/laws.FnDeterminizeSafe", spec := "fnDeterminizeSafe", unfollowed := true, recurses := true, named := ["math/bits.deBruijn32tab", "math/bits.deBruijn64tab"], apart := false, laid := [("math/bits.deBruijn32tab", laid_math_bits_deBruijn32tab), ("math/bits.deBruijn64tab", laid_math_bits_deBruijn64tab)] }
def FnDeterminizeSafeSaid : Prop := fnDeterminizeSafeRow.holds Tryd.pinned (OpenSpec.ofChange fnDeterminizeSafeSpec)

/-- ITS FALSE NEIGHBOUR: 'it returns false'. Refute it at one input. -/
def fnDeterminizeSafeWrong : ChangeSpec := { name := "fnDeterminizeSafe", fn := fun _ => fun
  | [d] => { results := [.lit (.bool false)], args := [d] }
  | _ => none }
def FnDeterminizeSafeWrongFalsely : Prop := fnDeterminizeSafeRow.holds Tryd.pinned (OpenSpec.ofChange fnDeterminizeSafeWrong)

/-- 'laws.FnProjectSafe': WHATEVER THE INPUT: true; the input reads as it did. -/
def fnProjectSafeSpec : ChangeSpec := { name := "fnProjectSafe", fn := fun _ => fun
  | [d] => { results := [.lit (.bool true)], args := [d] }
  | _ => none }
def fnProjectSafeRow : OpenClaim := { program := "ytimoekglamdddaadoor", sum := "4db0d71ae51a28f07c2dd671261922adb849fa8bdad01fe0525c8209476650d7", func := "loop.example/assumeguarantee/laws.FnProjectSafe", spec := "fnProjectSafe", unfollowed := true, recurses := true, named := ["math/bits.deBruijn32tab", "math/bits.deBruijn64tab"], apart := false, laid := [("math/bits.deBruijn32tab", laid_math_bits_deBruijn32tab), ("math/bits.deBruijn64tab", laid_math_bits_deBruijn64tab)] }
def FnProjectSafeSaid : Prop := fnProjectSafeRow.holds Tryd.pinned (OpenSpec.ofChange fnProjectSafeSpec)

/-- ITS FALSE NEIGHBOUR: 'it returns false'. Refute it at one input. -/
def fnProjectSafeWrong : ChangeSpec := { name := "fnProjectSafe", fn := fun _ => fun
  | [d] => { results := [.lit (.bool false)], args := [d] }
  | _ => none }
def FnProjectSafeWrongFalsely : Prop := fnProjectSafeRow.holds Tryd.pinned (OpenSpec.ofChange fnProjectSafeWrong)

/-- 'laws.FnDeterminizeCount': WHATEVER THE INPUT: true; the input reads as it did. -/
def fnDeterminizeCountSpec : ChangeSpec := { name := "fnDeterminizeCount", fn := fun _ => fun
  | [d] => { results := [.lit (.bool true)], args := [d] }
  | _ => none }
def fnDeterminizeCountRow : OpenClaim := { program := "ytimoekglamdddaadoor", sum := "4db0d71ae51a28f07c2dd671261922adb849fa8bdad01fe0525c8209476650d7", func := "loop.example/assumeguarantee/laws.FnDeterminizeCount", spec := "fnDeterminizeCount", unfollowed := true, recurses := true, named := ["math/bits.deBruijn32tab", "math/bits.deBruijn64tab"], apart := false, laid := [("math/bits.deBruijn32tab", laid_math_bits_deBruijn32tab), ("math/bits.deBruijn64tab", laid_math_bits_deBruijn64tab)] }
def FnDeterminizeCountSaid : Prop := fnDeterminizeCountRow.holds Tryd.pinned (OpenSpec.ofChange fnDeterminizeCountSpec)

/-- ITS FALSE NEIGHBOUR: 'it returns false'. Refute it at one input. -/
def fnDeterminizeCountWrong : ChangeSpec := { name := "fnDeterminizeCount", fn := fun _ => fun
  | [d] => { results := [.lit (.bool false)], args := [d] }
  | _ => none }
def FnDeterminizeCountWrongFalsely : Prop := fnDeterminizeCountRow.holds Tryd.pinned (OpenSpec.ofChange fnDeterminizeCountWrong)

/-- 'laws.FnDeterminizeTrim': WHATEVER THE INPUT: true; the input reads as it did. -/
def fnDeterminizeTrimSpec : ChangeSpec := { name := "fnDeterminizeTrim", fn := fun _ => fun
  | [d] => { results := [.lit (.bool true)], args := [d] }
  | _ => none }
def fnDeterminizeTrimRow : OpenClaim := { program := "ytimoekglamdddaadoor", sum := "4db0d71ae51a28f07c2dd671261922adb849fa8bdad01fe0525c8209476650d7", func := "loop.example/assumeguarantee/laws.FnDeterminizeTrim", spec := "fnDeterminizeTrim", unfollowed := true, recurses := true, named := ["math/bits.deBruijn32tab", "math/bits.deBruijn64tab"], apart := false, laid := [("math/bits.deBruijn32tab", laid_math_bits_deBruijn32tab), ("math/bits.deBruijn64tab", laid_math_bits_deBruijn64tab)] }
def FnDeterminizeTrimSaid : Prop := fnDeterminizeTrimRow.holds Tryd.pinned (OpenSpec.ofChange fnDeterminizeTrimSpec)

/-- ITS FALSE NEIGHBOUR: 'it returns false'. Refute it at one input. -/
def fnDeterminizeTrimWrong : ChangeSpec := { name := "fnDeterminizeTrim", fn := fun _ => fun
  | [d] => { results := [.lit (.bool false)], args := [d] }
  | _ => none }
def FnDeterminizeTrimWrongFalsely : Prop := fnDeterminizeTrimRow.holds Tryd.pinned (OpenSpec.ofChange fnDeterminizeTrimWrong)

/-- 'laws.FnDeterminizeSets': WHATEVER THE INPUT: true; the input reads as it did. -/
def fnDeterminizeSetsSpec : ChangeSpec := { name := "fnDeterminizeSets", fn := fun _ => fun
  | [d] => { results := [.lit (.bool true)], args := [d] }
  | _ => none }
def fnDeterminizeSetsRow : OpenClaim := { program := "ytimoekglamdddaadoor", sum := "4db0d71ae51a28f07c2dd671261922adb849fa8bdad01fe0525c8209476650d7", func := "loop.example/assumeguarantee/laws.FnDeterminizeSets", spec := "fnDeterminizeSets", unfollowed := true, recurses := true, named := ["math/bits.deBruijn32tab", "math/bits.deBruijn64tab"], apart := false, laid := [("math/bits.deBruijn32tab", laid_math_bits_deBruijn32tab), ("math/bits.deBruijn64tab", laid_math_bits_deBruijn64tab)] }
def FnDeterminizeSetsSaid : Prop := fnDeterminizeSetsRow.holds Tryd.pinned (OpenSpec.ofChange fnDeterminizeSetsSpec)

/-- ITS FALSE NEIGHBOUR: 'it returns false'. Refute it at one input. -/
def fnDeterminizeSetsWrong : ChangeSpec := { name := "fnDeterminizeSets", fn := fun _ => fun
  | [d] => { results := [.lit (.bool false)], args := [d] }
  | _ => none }
def FnDeterminizeSetsWrongFalsely : Prop := fnDeterminizeSetsRow.holds Tryd.pinned (OpenSpec.ofChange fnDeterminizeSetsWrong)

/-- 'laws.FnTracesWithin': WHATEVER THE INPUT: true; the input reads as it did. -/
def fnTracesWithinSpec : ChangeSpec := { name := "fnTracesWithin", fn := fun _ => fun
  | [d] => { results := [.lit (.bool true)], args := [d] }
  | _ => none }
def fnTracesWithinRow : OpenClaim := { program := "ytimoekglamdddaadoor", sum := "4db0d71ae51a28f07c2dd671261922adb849fa8bdad01fe0525c8209476650d7", func := "loop.example/assumeguarantee/laws.FnTracesWithin", spec := "fnTracesWithin", unfollowed := true, recurses := true, named := ["math/bits.deBruijn32tab", "math/bits.deBruijn64tab"], apart := false, laid := [("math/bits.deBruijn32tab", laid_math_bits_deBruijn32tab), ("math/bits.deBruijn64tab", laid_math_bits_deBruijn64tab)] }
def FnTracesWithinSaid : Prop := fnTracesWithinRow.holds Tryd.pinned (OpenSpec.ofChange fnTracesWithinSpec)

/-- ITS FALSE NEIGHBOUR: 'it returns false'. Refute it at one input. -/
def fnTracesWithinWrong : ChangeSpec := { name := "fnTracesWithin", fn := fun _ => fun
  | [d] => { results := [.lit (.bool false)], args := [d] }
  | _ => none }
def FnTracesWithinWrongFalsely : Prop := fnTracesWithinRow.holds Tryd.pinned (OpenSpec.ofChange fnTracesWithinWrong)

/- THE SECOND FORM. 'bulk': how many values and letters a reading holds, each counted each time it is reached (what is shared counts as often as it is met; a slice's spare places count too). A statement '..UptoSaid' is the law's where the arguments, and the package variables that the reading takes, are together of bulk at most 1048576: NARROWER than '..Said'. Prove '..Said' where nothing that the law and all that it calls make is longer than what came in: it says more and counts as full. Else prove '..UptoSaid'. A law counts once. -/
mutual
def uptoBulk {H : Type} : DataW H → Nat
  | .lit (.string bytes) => bytes.length + 1
  | .lit _ => 1
  | .nil => 1
  | .ptr d => uptoBulk d + 1
  | .slice elems spare => uptoBulkAll elems + uptoBulkAll spare + 1
  | .agg parts => uptoBulkAll parts + 1
  | .iface _ d => uptoBulk d + 1
  | .map entries => uptoBulkEntries entries + 1
  | .held _ => 1
def uptoBulkAll {H : Type} : List (DataW H) → Nat
  | [] => 0
  | d :: r => uptoBulk d + uptoBulkAll r
def uptoBulkEntries {H : Type} : List (Lit × DataW H) → Nat
  | [] => 0
  | x :: r => uptoBulkEntry x + uptoBulkEntries r
def uptoBulkEntry {H : Type} : Lit × DataW H → Nat
  | (.string bytes, d) => bytes.length + uptoBulk d + 1
  | (_, d) => uptoBulk d + 1
 end
def uptoSmall : (H : Type) → List (DataW H) → Bool := fun _ ds => decide (uptoBulkAll ds ≤ 1048576)
def OpenSpec.upto (s : _root_.Go.ChangeSpec) : _root_.Go.OpenSpec := { _root_.Go.OpenSpec.ofChange s with cond := some uptoSmall }

/-- 'laws.FnExactDeterminize', WHERE WHAT IT READS IS OF BULK AT MOST 1048576: true; the input reads as it did. -/
def fnExactDeterminizeUptoRow : OpenClaim := { program := "ytimoekglamdddaadoor", sum := "4db0d71ae51a28f07c2dd671261922adb849fa8bdad01fe0525c8209476650d7", func := "loop.example/assumeguarantee/laws.FnExactDeterminize", spec := "fnExactDeterminize", unfollowed := true, recurses := true, named := ["math/bits.deBruijn32tab", "math/bits.deBruijn64tab"], apart := false, laid := [("math/bits.deBruijn32tab", laid_math_bits_deBruijn32tab), ("math/bits.deBruijn64tab", laid_math_bits_deBruijn64tab)], narrowed := true }
def FnExactDeterminizeUptoSaid : Prop := fnExactDeterminizeUptoRow.holds Tryd.pinned (OpenSpec.upto fnExactDeterminizeSpec)

/-- 'laws.FnExactProjectSystem', WHERE WHAT IT READS IS OF BULK AT MOST 1048576: true; the input reads as it did. -/
def fnExactProjectSystemUptoRow : OpenClaim := { program := "ytimoekglamdddaadoor", sum := "4db0d71ae51a28f07c2dd671261922adb849fa8bdad01fe0525c8209476650d7", func := "loop.example/assumeguarantee/laws.FnExactProjectSystem", spec := "fnExactProjectSystem", unfollowed := true, recurses := true, named := ["math/bits.deBruijn32tab", "math/bits.deBruijn64tab"], apart := false, laid := [("math/bits.deBruijn32tab", laid_math_bits_deBruijn32tab), ("math/bits.deBruijn64tab", laid_math_bits_deBruijn64tab)], narrowed := true }
def FnExactProjectSystemUptoSaid : Prop := fnExactProjectSystemUptoRow.holds Tryd.pinned (OpenSpec.upto fnExactProjectSystemSpec)

/-- 'laws.FnProjectAll', WHERE WHAT IT READS IS OF BULK AT MOST 1048576: true; the input reads as it did. -/
def fnProjectAllUptoRow : OpenClaim := { program := "ytimoekglamdddaadoor", sum := "4db0d71ae51a28f07c2dd671261922adb849fa8bdad01fe0525c8209476650d7", func := "loop.example/assumeguarantee/laws.FnProjectAll", spec := "fnProjectAll", unfollowed := true, recurses := true, named := ["math/bits.deBruijn32tab", "math/bits.deBruijn64tab"], apart := false, laid := [("math/bits.deBruijn32tab", laid_math_bits_deBruijn32tab), ("math/bits.deBruijn64tab", laid_math_bits_deBruijn64tab)], narrowed := true }
def FnProjectAllUptoSaid : Prop := fnProjectAllUptoRow.holds Tryd.pinned (OpenSpec.upto fnProjectAllSpec)

/-- 'laws.FnProjectNone', WHERE WHAT IT READS IS OF BULK AT MOST 1048576: true; the input reads as it did. -/
def fnProjectNoneUptoRow : OpenClaim := { program := "ytimoekglamdddaadoor", sum := "4db0d71ae51a28f07c2dd671261922adb849fa8bdad01fe0525c8209476650d7", func := "loop.example/assumeguarantee/laws.FnProjectNone", spec := "fnProjectNone", unfollowed := true, recurses := true, named := ["math/bits.deBruijn32tab", "math/bits.deBruijn64tab"], apart := false, laid := [("math/bits.deBruijn32tab", laid_math_bits_deBruijn32tab), ("math/bits.deBruijn64tab", laid_math_bits_deBruijn64tab)], narrowed := true }
def FnProjectNoneUptoSaid : Prop := fnProjectNoneUptoRow.holds Tryd.pinned (OpenSpec.upto fnProjectNoneSpec)

/-- 'laws.FnDeterminize', WHERE WHAT IT READS IS OF BULK AT MOST 1048576: true; the input reads as it did. -/
def fnDeterminizeUptoRow : OpenClaim := { program := "ytimoekglamdddaadoor", sum := "4db0d71ae51a28f07c2dd671261922adb849fa8bdad01fe0525c8209476650d7", func := "loop.example/assumeguarantee/laws.FnDeterminize", spec := "fnDeterminize", unfollowed := true, recurses := true, named := ["math/bits.deBruijn32tab", "math/bits.deBruijn64tab"], apart := false, laid := [("math/bits.deBruijn32tab", laid_math_bits_deBruijn32tab), ("math/bits.deBruijn64tab", laid_math_bits_deBruijn64tab)], narrowed := true }
def FnDeterminizeUptoSaid : Prop := fnDeterminizeUptoRow.holds Tryd.pinned (OpenSpec.upto fnDeterminizeSpec)

/-- 'laws.FnProjectTrace', WHERE WHAT IT READS IS OF BULK AT MOST 1048576: true; the input reads as it did. -/
def fnProjectTraceUptoRow : OpenClaim := { program := "ytimoekglamdddaadoor", sum := "4db0d71ae51a28f07c2dd671261922adb849fa8bdad01fe0525c8209476650d7", func := "loop.example/assumeguarantee/laws.FnProjectTrace", spec := "fnProjectTrace", unfollowed := true, recurses := true, named := ["math/bits.deBruijn32tab", "math/bits.deBruijn64tab"], apart := false, laid := [("math/bits.deBruijn32tab", laid_math_bits_deBruijn32tab), ("math/bits.deBruijn64tab", laid_math_bits_deBruijn64tab)], narrowed := true }
def FnProjectTraceUptoSaid : Prop := fnProjectTraceUptoRow.holds Tryd.pinned (OpenSpec.upto fnProjectTraceSpec)

/-- 'laws.FnDeterminizeSafe', WHERE WHAT IT READS IS OF BULK AT MOST 1048576: true; the input reads as it did. -/
def fnDeterminizeSafeUptoRow : OpenClaim := { program := "ytimoekglamdddaadoor", sum := "4db0d71ae51a28f07c2dd671261922adb849fa8bdad01fe0525c8209476650d7", func := "loop.example/assumeguarantee/laws.FnDeterminizeSafe", spec := "fnDeterminizeSafe", unfollowed := true, recurses := true, named := ["math/bits.deBruijn32tab", "math/bits.deBruijn64tab"], apart := false, laid := [("math/bits.deBruijn32tab", laid_math_bits_deBruijn32tab), ("math/bits.deBruijn64tab", laid_math_bits_deBruijn64tab)], narrowed := true }
def FnDeterminizeSafeUptoSaid : Prop := fnDeterminizeSafeUptoRow.holds Tryd.pinned (OpenSpec.upto fnDeterminizeSafeSpec)

/-- 'laws.FnProjectSafe', WHERE WHAT IT READS IS OF BULK AT MOST 1048576: true; the input reads as it did. -/
def fnProjectSafeUptoRow : OpenClaim := { program := "ytimoekglamdddaadoor", sum := "4db0d71ae51a28f07c2dd671261922adb849fa8bdad01fe0525c8209476650d7", func := "loop.example/assumeguarantee/laws.FnProjectSafe", spec := "fnProjectSafe", unfollowed := true, recurses := true, named := ["math/bits.deBruijn32tab", "math/bits.deBruijn64tab"], apart := false, laid := [("math/bits.deBruijn32tab", laid_math_bits_deBruijn32tab), ("math/bits.deBruijn64tab", laid_math_bits_deBruijn64tab)], narrowed := true }
def FnProjectSafeUptoSaid : Prop := fnProjectSafeUptoRow.holds Tryd.pinned (OpenSpec.upto fnProjectSafeSpec)

/-- 'laws.FnDeterminizeCount', WHERE WHAT IT READS IS OF BULK AT MOST 1048576: true; the input reads as it did. -/
def fnDeterminizeCountUptoRow : OpenClaim := { program := "ytimoekglamdddaadoor", sum := "4db0d71ae51a28f07c2dd671261922adb849fa8bdad01fe0525c8209476650d7", func := "loop.example/assumeguarantee/laws.FnDeterminizeCount", spec := "fnDeterminizeCount", unfollowed := true, recurses := true, named := ["math/bits.deBruijn32tab", "math/bits.deBruijn64tab"], apart := false, laid := [("math/bits.deBruijn32tab", laid_math_bits_deBruijn32tab), ("math/bits.deBruijn64tab", laid_math_bits_deBruijn64tab)], narrowed := true }
def FnDeterminizeCountUptoSaid : Prop := fnDeterminizeCountUptoRow.holds Tryd.pinned (OpenSpec.upto fnDeterminizeCountSpec)

/-- 'laws.FnDeterminizeTrim', WHERE WHAT IT READS IS OF BULK AT MOST 1048576: true; the input reads as it did. -/
def fnDeterminizeTrimUptoRow : OpenClaim := { program := "ytimoekglamdddaadoor", sum := "4db0d71ae51a28f07c2dd671261922adb849fa8bdad01fe0525c8209476650d7", func := "loop.example/assumeguarantee/laws.FnDeterminizeTrim", spec := "fnDeterminizeTrim", unfollowed := true, recurses := true, named := ["math/bits.deBruijn32tab", "math/bits.deBruijn64tab"], apart := false, laid := [("math/bits.deBruijn32tab", laid_math_bits_deBruijn32tab), ("math/bits.deBruijn64tab", laid_math_bits_deBruijn64tab)], narrowed := true }
def FnDeterminizeTrimUptoSaid : Prop := fnDeterminizeTrimUptoRow.holds Tryd.pinned (OpenSpec.upto fnDeterminizeTrimSpec)

/-- 'laws.FnDeterminizeSets', WHERE WHAT IT READS IS OF BULK AT MOST 1048576: true; the input reads as it did. -/
def fnDeterminizeSetsUptoRow : OpenClaim := { program := "ytimoekglamdddaadoor", sum := "4db0d71ae51a28f07c2dd671261922adb849fa8bdad01fe0525c8209476650d7", func := "loop.example/assumeguarantee/laws.FnDeterminizeSets", spec := "fnDeterminizeSets", unfollowed := true, recurses := true, named := ["math/bits.deBruijn32tab", "math/bits.deBruijn64tab"], apart := false, laid := [("math/bits.deBruijn32tab", laid_math_bits_deBruijn32tab), ("math/bits.deBruijn64tab", laid_math_bits_deBruijn64tab)], narrowed := true }
def FnDeterminizeSetsUptoSaid : Prop := fnDeterminizeSetsUptoRow.holds Tryd.pinned (OpenSpec.upto fnDeterminizeSetsSpec)

/-- 'laws.FnTracesWithin', WHERE WHAT IT READS IS OF BULK AT MOST 1048576: true; the input reads as it did. -/
def fnTracesWithinUptoRow : OpenClaim := { program := "ytimoekglamdddaadoor", sum := "4db0d71ae51a28f07c2dd671261922adb849fa8bdad01fe0525c8209476650d7", func := "loop.example/assumeguarantee/laws.FnTracesWithin", spec := "fnTracesWithin", unfollowed := true, recurses := true, named := ["math/bits.deBruijn32tab", "math/bits.deBruijn64tab"], apart := false, laid := [("math/bits.deBruijn32tab", laid_math_bits_deBruijn32tab), ("math/bits.deBruijn64tab", laid_math_bits_deBruijn64tab)], narrowed := true }
def FnTracesWithinUptoSaid : Prop := fnTracesWithinUptoRow.holds Tryd.pinned (OpenSpec.upto fnTracesWithinSpec)

end Rows
end Go.Proofs.YtimoekglamdddaaDoor
