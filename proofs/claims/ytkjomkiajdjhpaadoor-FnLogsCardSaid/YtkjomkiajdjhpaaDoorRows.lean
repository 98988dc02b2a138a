/-
  NARROWER THAN 'FOR EVERY INPUT', by the rows' own cells (each row's printed sentence says how): FnExactStampOf: laid · FnExactLogOf: laid · FnExactCheckLog: laid · FnExactRecoverLog: laid · FnExactSumOfWhat: laid · FnLogSums: laid · FnExactAddEntry: laid · FnExactValuesOf: laid · FnExactNamesIn: laid · FnExactEntriesOf: laid · FnLogs: laid.
  DERIVED. THE GIVEN ROWS OF THIS SEAT. 11 by the template 'for every input the law returns true; each argument reads behind the call as it read before'; 0 by the template 'total and deterministic' (their statements: YtkjomkiajdjhpaaDoorTotals.lean).
  GIVEN WITH THE SEED: the statements are not yours to turn. If you find one false, say at which input.
  Laid BY PROGRAM, IN A SANDBOX (cutbox-rows.mjs): the forced cells as the released guide's own fill.sh prints them over the translation 52608a31a144f097… (all of the seat's roots in one cut). By AI agents, Wed Nov 11 2026. No macro, syntax, notation, axiom, sorry.
-/
import Derived.Test.YtkjomkiajdjhpaaDoorChecked
import GoSem.Claim
import GoSem.ClaimJoined
import GoSem.ClaimMapViews
import Derived.JoinedTies
import Derived.KernelRfl
namespace Go.Proofs.YtkjomkiajdjhpaaDoor
/- THE CELL 'sum', in the pinned program and in every row, IS THE sha256 OF THE DUMP (.gsa) THAT YtkjomkiajdjhpaaDoorProg.lean LOADS. Nothing in Lean hashes anything: it is a label: what it is worth is what the hold of that sum in a sandbox is worth. -/
noncomputable def Tryd.pinned : Pinned := { name := "ytkjomkiajdjhpaadoor", sum := "52608a31a144f097ac9fc9e865642dd2887090f088dac3a09152bc046bd300a2", checked := Tryd.checked }
namespace Rows
def none {H : Type} : Left H := { results := [], args := [] }

/- WHAT THE LISTED PACKAGE-LEVEL VARIABLES READ AS WHEN THE CALL BEGINS. Each datum BY PROGRAM (the guide's laid-datum.mjs) off the statement by which the dump's own 'gosem.cut.vars' lays the variable. In a bare row this is a premise. The card (YtkjomkiajdjhpaaDoorCards.lean) ties it to the program's text. -/
def laid_math_bits_deBruijn32tab {H : Type} : DataW H := .agg [.lit (.int .u8 0), .lit (.int .u8 1), .lit (.int .u8 28), .lit (.int .u8 2), .lit (.int .u8 29), .lit (.int .u8 14), .lit (.int .u8 24), .lit (.int .u8 3), .lit (.int .u8 30), .lit (.int .u8 22), .lit (.int .u8 20), .lit (.int .u8 15), .lit (.int .u8 25), .lit (.int .u8 17), .lit (.int .u8 4), .lit (.int .u8 8), .lit (.int .u8 31), .lit (.int .u8 27), .lit (.int .u8 13), .lit (.int .u8 23), .lit (.int .u8 21), .lit (.int .u8 19), .lit (.int .u8 16), .lit (.int .u8 7), .lit (.int .u8 26), .lit (.int .u8 12), .lit (.int .u8 18), .lit (.int .u8 6), .lit (.int .u8 11), .lit (.int .u8 5), .lit (.int .u8 10), .lit (.int .u8 9)]
def laid_math_bits_deBruijn64tab {H : Type} : DataW H := .agg [.lit (.int .u8 0), .lit (.int .u8 1), .lit (.int .u8 56), .lit (.int .u8 2), .lit (.int .u8 57), .lit (.int .u8 49), .lit (.int .u8 28), .lit (.int .u8 3), .lit (.int .u8 61), .lit (.int .u8 58), .lit (.int .u8 42), .lit (.int .u8 50), .lit (.int .u8 38), .lit (.int .u8 29), .lit (.int .u8 17), .lit (.int .u8 4), .lit (.int .u8 62), .lit (.int .u8 47), .lit (.int .u8 59), .lit (.int .u8 36), .lit (.int .u8 45), .lit (.int .u8 43), .lit (.int .u8 51), .lit (.int .u8 22), .lit (.int .u8 53), .lit (.int .u8 39), .lit (.int .u8 33), .lit (.int .u8 30), .lit (.int .u8 24), .lit (.int .u8 18), .lit (.int .u8 12), .lit (.int .u8 5), .lit (.int .u8 63), .lit (.int .u8 55), .lit (.int .u8 48), .lit (.int .u8 27), .lit (.int .u8 60), .lit (.int .u8 41), .lit (.int .u8 37), .lit (.int .u8 16), .lit (.int .u8 46), .lit (.int .u8 35), .lit (.int .u8 44), .lit (.int .u8 21), .lit (.int .u8 52), .lit (.int .u8 32), .lit (.int .u8 23), .lit (.int .u8 11), .lit (.int .u8 54), .lit (.int .u8 26), .lit (.int .u8 40), .lit (.int .u8 15), .lit (.int .u8 34), .lit (.int .u8 20), .lit (.int .u8 31), .lit (.int .u8 10), .lit (.int .u8 25), .lit (.int .u8 14), .lit (.int .u8 19), .lit (.int .u8 9), .lit (.int .u8 13), .lit (.int .u8 8), .lit (.int .u8 7), .lit (.int .u8 6)]
def laid_internal_strconv_uint64pow10 {H : Type} : DataW H := .agg [.lit (.int .u64 1), .lit (.int .u64 10), .lit (.int .u64 100), .lit (.int .u64 1000), .lit (.int .u64 10000), .lit (.int .u64 100000), .lit (.int .u64 1000000), .lit (.int .u64 10000000), .lit (.int .u64 100000000), .lit (.int .u64 1000000000), .lit (.int .u64 10000000000), .lit (.int .u64 100000000000), .lit (.int .u64 1000000000000), .lit (.int .u64 10000000000000), .lit (.int .u64 100000000000000), .lit (.int .u64 1000000000000000), .lit (.int .u64 10000000000000000), .lit (.int .u64 100000000000000000), .lit (.int .u64 1000000000000000000), .lit (.int .u64 10000000000000000000)]

/-- 'laws.FnExactStampOf': WHATEVER THE INPUT: true; the input reads as it did. -/
def fnExactStampOfSpec : ChangeSpec := { name := "fnExactStampOf", fn := fun _ => fun
  | [d1, d2] => { results := [.lit (.bool true)], args := [d1, d2] }
  | _ => none }
def fnExactStampOfRow : OpenClaim := { program := "ytkjomkiajdjhpaadoor", sum := "52608a31a144f097ac9fc9e865642dd2887090f088dac3a09152bc046bd300a2", func := "loop.example/g01045/laws.FnExactStampOf", spec := "fnExactStampOf", named := ["internal/strconv.uint64pow10", "math/bits.deBruijn32tab", "math/bits.deBruijn64tab"], apart := false, laid := [("math/bits.deBruijn32tab", laid_math_bits_deBruijn32tab), ("math/bits.deBruijn64tab", laid_math_bits_deBruijn64tab), ("internal/strconv.uint64pow10", laid_internal_strconv_uint64pow10)] }
def FnExactStampOfSaid : Prop := fnExactStampOfRow.holds Tryd.pinned (OpenSpec.ofChange fnExactStampOfSpec)

/-- ITS FALSE NEIGHBOUR: 'it returns false'. Refute it at one input. -/
def fnExactStampOfWrong : ChangeSpec := { name := "fnExactStampOf", fn := fun _ => fun
  | [d1, d2] => { results := [.lit (.bool false)], args := [d1, d2] }
  | _ => none }
def FnExactStampOfWrongFalsely : Prop := fnExactStampOfRow.holds Tryd.pinned (OpenSpec.ofChange fnExactStampOfWrong)

/-- 'laws.FnExactLogOf': WHATEVER THE INPUT: true; the input reads as it did. -/
def fnExactLogOfSpec : ChangeSpec := { name := "fnExactLogOf", fn := fun _ => fun
  | [d] => { results := [.lit (.bool true)], args := [d] }
  | _ => none }
def fnExactLogOfRow : OpenClaim := { program := "ytkjomkiajdjhpaadoor", sum := "52608a31a144f097ac9fc9e865642dd2887090f088dac3a09152bc046bd300a2", func := "loop.example/g01045/laws.FnExactLogOf", spec := "fnExactLogOf", named := ["internal/strconv.uint64pow10", "math/bits.deBruijn32tab", "math/bits.deBruijn64tab"], apart := false, laid := [("math/bits.deBruijn32tab", laid_math_bits_deBruijn32tab), ("math/bits.deBruijn64tab", laid_math_bits_deBruijn64tab), ("internal/strconv.uint64pow10", laid_internal_strconv_uint64pow10)] }
def FnExactLogOfSaid : Prop := fnExactLogOfRow.holds Tryd.pinned (OpenSpec.ofChange fnExactLogOfSpec)

/-- ITS FALSE NEIGHBOUR: 'it returns false'. Refute it at one input. -/
def fnExactLogOfWrong : ChangeSpec := { name := "fnExactLogOf", fn := fun _ => fun
  | [d] => { results := [.lit (.bool false)], args := [d] }
  | _ => none }
def FnExactLogOfWrongFalsely : Prop := fnExactLogOfRow.holds Tryd.pinned (OpenSpec.ofChange fnExactLogOfWrong)

/-- 'laws.FnExactCheckLog': WHATEVER THE INPUT: true; the input reads as it did. -/
def fnExactCheckLogSpec : ChangeSpec := { name := "fnExactCheckLog", fn := fun _ => fun
  | [d] => { results := [.lit (.bool true)], args := [d] }
  | _ => none }
def fnExactCheckLogRow : OpenClaim := { program := "ytkjomkiajdjhpaadoor", sum := "52608a31a144f097ac9fc9e865642dd2887090f088dac3a09152bc046bd300a2", func := "loop.example/g01045/laws.FnExactCheckLog", spec := "fnExactCheckLog", named := ["internal/strconv.uint64pow10", "math/bits.deBruijn32tab", "math/bits.deBruijn64tab"], apart := false, laid := [("math/bits.deBruijn32tab", laid_math_bits_deBruijn32tab), ("math/bits.deBruijn64tab", laid_math_bits_deBruijn64tab), ("internal/strconv.uint64pow10", laid_internal_strconv_uint64pow10)] }
def FnExactCheckLogSaid : Prop := fnExactCheckLogRow.holds Tryd.pinned (OpenSpec.ofChange fnExactCheckLogSpec)

/-- ITS FALSE NEIGHBOUR: 'it returns false'. Refute it at one input. -/
def fnExactCheckLogWrong : ChangeSpec := { name := "fnExactCheckLog", fn := fun _ => fun
  | [d] => { results := [.lit (.bool false)], args := [d] }
  | _ => none }
def FnExactCheckLogWrongFalsely : Prop := fnExactCheckLogRow.holds Tryd.pinned (OpenSpec.ofChange fnExactCheckLogWrong)

/-- 'laws.FnExactRecoverLog': WHATEVER THE INPUT: true; the input reads as it did. -/
def fnExactRecoverLogSpec : ChangeSpec := { name := "fnExactRecoverLog", fn := fun _ => fun
  | [d] => { results := [.lit (.bool true)], args := [d] }
  | _ => none }
def fnExactRecoverLogRow : OpenClaim := { program := "ytkjomkiajdjhpaadoor", sum := "52608a31a144f097ac9fc9e865642dd2887090f088dac3a09152bc046bd300a2", func := "loop.example/g01045/laws.FnExactRecoverLog", spec := "fnExactRecoverLog", named := ["internal/strconv.uint64pow10", "math/bits.deBruijn32tab", "math/bits.deBruijn64tab"], apart := false, laid := [("math/bits.deBruijn32tab", laid_math_bits_deBruijn32tab), ("math/bits.deBruijn64tab", laid_math_bits_deBruijn64tab), ("internal/strconv.uint64pow10", laid_internal_strconv_uint64pow10)] }
def FnExactRecoverLogSaid : Prop := fnExactRecoverLogRow.holds Tryd.pinned (OpenSpec.ofChange fnExactRecoverLogSpec)

/-- ITS FALSE NEIGHBOUR: 'it returns false'. Refute it at one input. -/
def fnExactRecoverLogWrong : ChangeSpec := { name := "fnExactRecoverLog", fn := fun _ => fun
  | [d] => { results := [.lit (.bool false)], args := [d] }
  | _ => none }
def FnExactRecoverLogWrongFalsely : Prop := fnExactRecoverLogRow.holds Tryd.pinned (OpenSpec.ofChange fnExactRecoverLogWrong)

/-- 'laws.FnExactSumOfWhat': WHATEVER THE INPUT: true; the input reads as it did. -/
def fnExactSumOfWhatSpec : ChangeSpec := { name := "fnExactSumOfWhat", fn := fun _ => fun
  | [d1, d2, d3, d4] => { results := [.lit (.bool true)], args := [d1, d2, d3, d4] }
  | _ => none }
def fnExactSumOfWhatRow : OpenClaim := { program := "ytkjomkiajdjhpaadoor", sum := "52608a31a144f097ac9fc9e865642dd2887090f088dac3a09152bc046bd300a2", func := "loop.example/g01045/laws.FnExactSumOfWhat", spec := "fnExactSumOfWhat", named := ["internal/strconv.uint64pow10", "math/bits.deBruijn32tab", "math/bits.deBruijn64tab"], apart := false, laid := [("math/bits.deBruijn32tab", laid_math_bits_deBruijn32tab), ("math/bits.deBruijn64tab", laid_math_bits_deBruijn64tab), ("internal/strconv.uint64pow10", laid_internal_strconv_uint64pow10)] }
def FnExactSumOfWhatSaid : Prop := fnExactSumOfWhatRow.holds Tryd.pinned (OpenSpec.ofChange fnExactSumOfWhatSpec)

/-- ITS FALSE NEIGHBOUR: 'it returns false'. Refute it at one input. -/
def fnExactSumOfWhatWrong : ChangeSpec := { name := "fnExactSumOfWhat", fn := fun _ => fun
  | [d1, d2, d3, d4] => { results := [.lit (.bool false)], args := [d1, d2, d3, d4] }
  | _ => none }
def FnExactSumOfWhatWrongFalsely : Prop := fnExactSumOfWhatRow.holds Tryd.pinned (OpenSpec.ofChange fnExactSumOfWhatWrong)

/-- 'laws.FnLogSums': WHATEVER THE INPUT: true; the input reads as it did. -/
def fnLogSumsSpec : ChangeSpec := { name := "fnLogSums", fn := fun _ => fun
  | [d] => { results := [.lit (.bool true)], args := [d] }
  | _ => none }
def fnLogSumsRow : OpenClaim := { program := "ytkjomkiajdjhpaadoor", sum := "52608a31a144f097ac9fc9e865642dd2887090f088dac3a09152bc046bd300a2", func := "loop.example/g01045/laws.FnLogSums", spec := "fnLogSums", named := ["internal/strconv.uint64pow10", "math/bits.deBruijn32tab", "math/bits.deBruijn64tab"], apart := false, laid := [("math/bits.deBruijn32tab", laid_math_bits_deBruijn32tab), ("math/bits.deBruijn64tab", laid_math_bits_deBruijn64tab), ("internal/strconv.uint64pow10", laid_internal_strconv_uint64pow10)] }
def FnLogSumsSaid : Prop := fnLogSumsRow.holds Tryd.pinned (OpenSpec.ofChange fnLogSumsSpec)

/-- ITS FALSE NEIGHBOUR: 'it returns false'. Refute it at one input. -/
def fnLogSumsWrong : ChangeSpec := { name := "fnLogSums", fn := fun _ => fun
  | [d] => { results := [.lit (.bool false)], args := [d] }
  | _ => none }
def FnLogSumsWrongFalsely : Prop := fnLogSumsRow.holds Tryd.pinned (OpenSpec.ofChange fnLogSumsWrong)

/-- 'laws.FnExactAddEntry': WHATEVER THE INPUT: true; the input reads as it did. -/
def fnExactAddEntrySpec : ChangeSpec := { name := "fnExactAddEntry", fn := fun _ => fun
  | [d1, d2] => { results := [.lit (.bool true)], args := [d1, d2] }
  | _ => none }
def fnExactAddEntryRow : OpenClaim := { program := "ytkjomkiajdjhpaadoor", sum := "52608a31a144f097ac9fc9e865642dd2887090f088dac3a09152bc046bd300a2", func := "loop.example/g01045/laws.FnExactAddEntry", spec := "fnExactAddEntry", named := ["internal/strconv.uint64pow10", "math/bits.deBruijn32tab", "math/bits.deBruijn64tab"], apart := false, laid := [("math/bits.deBruijn32tab", laid_math_bits_deBruijn32tab), ("math/bits.deBruijn64tab", laid_math_bits_deBruijn64tab), ("internal/strconv.uint64pow10", laid_internal_strconv_uint64pow10)] }
def FnExactAddEntrySaid : Prop := fnExactAddEntryRow.holds Tryd.pinned (OpenSpec.ofChange fnExactAddEntrySpec)

/-- ITS FALSE NEIGHBOUR: 'it returns false'. Refute it at one input. -/
def fnExactAddEntryWrong : ChangeSpec := { name := "fnExactAddEntry", fn := fun _ => fun
  | [d1, d2] => { results := [.lit (.bool false)], args := [d1, d2] }
  | _ => none }
def FnExactAddEntryWrongFalsely : Prop := fnExactAddEntryRow.holds Tryd.pinned (OpenSpec.ofChange fnExactAddEntryWrong)

/-- 'laws.FnExactValuesOf': WHATEVER THE INPUT: true; the input reads as it did. -/
def fnExactValuesOfSpec : ChangeSpec := { name := "fnExactValuesOf", fn := fun _ => fun
  | [d1, d2] => { results := [.lit (.bool true)], args := [d1, d2] }
  | _ => none }
def fnExactValuesOfRow : OpenClaim := { program := "ytkjomkiajdjhpaadoor", sum := "52608a31a144f097ac9fc9e865642dd2887090f088dac3a09152bc046bd300a2", func := "loop.example/g01045/laws.FnExactValuesOf", spec := "fnExactValuesOf", named := ["internal/strconv.uint64pow10", "math/bits.deBruijn32tab", "math/bits.deBruijn64tab"], apart := false, laid := [("math/bits.deBruijn32tab", laid_math_bits_deBruijn32tab), ("math/bits.deBruijn64tab", laid_math_bits_deBruijn64tab), ("internal/strconv.uint64pow10", laid_internal_strconv_uint64pow10)] }
def FnExactValuesOfSaid : Prop := fnExactValuesOfRow.holds Tryd.pinned (OpenSpec.ofChange fnExactValuesOfSpec)

/-- ITS FALSE NEIGHBOUR: 'it returns false'. Refute it at one input. -/
def fnExactValuesOfWrong : ChangeSpec := { name := "fnExactValuesOf", fn := fun _ => fun
  | [d1, d2] => { results := [.lit (.bool false)], args := [d1, d2] }
  | _ => none }
def FnExactValuesOfWrongFalsely : Prop := fnExactValuesOfRow.holds Tryd.pinned (OpenSpec.ofChange fnExactValuesOfWrong)

/-- 'laws.FnExactNamesIn': WHATEVER THE INPUT: true; the input reads as it did. -/
def fnExactNamesInSpec : ChangeSpec := { name := "fnExactNamesIn", fn := fun _ => fun
  | [d] => { results := [.lit (.bool true)], args := [d] }
  | _ => none }
def fnExactNamesInRow : OpenClaim := { program := "ytkjomkiajdjhpaadoor", sum := "52608a31a144f097ac9fc9e865642dd2887090f088dac3a09152bc046bd300a2", func := "loop.example/g01045/laws.FnExactNamesIn", spec := "fnExactNamesIn", named := ["internal/strconv.uint64pow10", "math/bits.deBruijn32tab", "math/bits.deBruijn64tab"], apart := false, laid := [("math/bits.deBruijn32tab", laid_math_bits_deBruijn32tab), ("math/bits.deBruijn64tab", laid_math_bits_deBruijn64tab), ("internal/strconv.uint64pow10", laid_internal_strconv_uint64pow10)] }
def FnExactNamesInSaid : Prop := fnExactNamesInRow.holds Tryd.pinned (OpenSpec.ofChange fnExactNamesInSpec)

/-- ITS FALSE NEIGHBOUR: 'it returns false'. Refute it at one input. -/
def fnExactNamesInWrong : ChangeSpec := { name := "fnExactNamesIn", fn := fun _ => fun
  | [d] => { results := [.lit (.bool false)], args := [d] }
  | _ => none }
def FnExactNamesInWrongFalsely : Prop := fnExactNamesInRow.holds Tryd.pinned (OpenSpec.ofChange fnExactNamesInWrong)

/-- 'laws.FnExactEntriesOf': WHATEVER THE INPUT: true; the input reads as it did. -/
def fnExactEntriesOfSpec : ChangeSpec := { name := "fnExactEntriesOf", fn := fun _ => fun
  | [d] => { results := [.lit (.bool true)], args := [d] }
  | _ => none }
def fnExactEntriesOfRow : OpenClaim := { program := "ytkjomkiajdjhpaadoor", sum := "52608a31a144f097ac9fc9e865642dd2887090f088dac3a09152bc046bd300a2", func := "loop.example/g01045/laws.FnExactEntriesOf", spec := "fnExactEntriesOf", named := ["internal/strconv.uint64pow10", "math/bits.deBruijn32tab", "math/bits.deBruijn64tab"], apart := false, laid := [("math/bits.deBruijn32tab", laid_math_bits_deBruijn32tab), ("math/bits.deBruijn64tab", laid_math_bits_deBruijn64tab), ("internal/strconv.uint64pow10", laid_internal_strconv_uint64pow10)] }
def FnExactEntriesOfSaid : Prop := fnExactEntriesOfRow.holds Tryd.pinned (OpenSpec.ofChange fnExactEntriesOfSpec)

/-- ITS FALSE NEIGHBOUR: 'it returns false'. Refute it at one input. -/
def fnExactEntriesOfWrong : ChangeSpec := { name := "fnExactEntriesOf", fn := fun _ => fun
  | [d] => { results := [.lit (.bool false)], args := [d] }
  | _ => none }
def FnExactEntriesOfWrongFalsely : Prop := fnExactEntriesOfRow.holds Tryd.pinned (OpenSpec.ofChange fnExactEntriesOfWrong)

/-- 'laws.FnLogs': WHATEVER THE INPUT: true; the input reads as it did. -/
def fnLogsSpec : ChangeSpec := { name := "fnLogs", fn := fun _ => fun
  | [d1, d2] => { results := [.lit (.bool true)], args := [d1, d2] }
  | _ => none }
def fnLogsRow : OpenClaim := { program := "ytkjomkiajdjhpaadoor", sum := "52608a31a144f097ac9fc9e865642dd2887090f088dac3a09152bc046bd300a2", func := "loop.example/g01045/laws.FnLogs", spec := "fnLogs", named := ["internal/strconv.uint64pow10", "math/bits.deBruijn32tab", "math/bits.deBruijn64tab"], apart := false, laid := [("math/bits.deBruijn32tab", laid_math_bits_deBruijn32tab), ("math/bits.deBruijn64tab", laid_math_bits_deBruijn64tab), ("internal/strconv.uint64pow10", laid_internal_strconv_uint64pow10)] }
def FnLogsSaid : Prop := fnLogsRow.holds Tryd.pinned (OpenSpec.ofChange fnLogsSpec)

/-- ITS FALSE NEIGHBOUR: 'it returns false'. Refute it at one input. -/
def fnLogsWrong : ChangeSpec := { name := "fnLogs", fn := fun _ => fun
  | [d1, d2] => { results := [.lit (.bool false)], args := [d1, d2] }
  | _ => none }
def FnLogsWrongFalsely : Prop := fnLogsRow.holds Tryd.pinned (OpenSpec.ofChange fnLogsWrong)

/- THE SECOND FORM. 'bulk': how many values and letters a reading holds, each counted each time it is reached (what is shared counts as often as it is met; a slice's spare places count too). A statement '..UptoSaid' is the law's where the arguments, and the package variables that the reading takes, are together of bulk at most 1048576: NARROWER than '..Said'. Prove '..Said' where nothing that the law and all that it calls make is longer than what came in: it says more and counts as full. Else prove '..UptoSaid'. A law counts once. -/
mutual
def uptoBulk {H : Type} : DataW H → Nat
  | .lit (.string bytes) => bytes.length + 1
  | .lit _ => 1
  | .nil => 1
  | .ptr d => uptoBulk d + 1
  | .slice elems spare => uptoBulkAll elems + uptoBulkAll spare + 1
  | .agg parts => uptoBulkAll parts + 1
  | .iface _ d => uptoBulk d + 1
  | .map entries => uptoBulkEntries entries + 1
  | .held _ => 1
def uptoBulkAll {H : Type} : List (DataW H) → Nat
  | [] => 0
  | d :: r => uptoBulk d + uptoBulkAll r
def uptoBulkEntries {H : Type} : List (Lit × DataW H) → Nat
  | [] => 0
  | x :: r => uptoBulkEntry x + uptoBulkEntries r
def uptoBulkEntry {H : Type} : Lit × DataW H → Nat
  | (.string bytes, d) => bytes.length + uptoBulk d + 1
  | (_, d) => uptoBulk d + 1
 end
def uptoSmall : (H : Type) → List (DataW H) → Bool := fun _ ds => decide (uptoBulkAll ds ≤ 1048576)
def OpenSpec.upto (s : _root_.Go.ChangeSpec) : _root_.Go.OpenSpec := { _root_.Go.OpenSpec.ofChange s with cond := some uptoSmall }

/-- 'laws.FnExactStampOf', WHERE WHAT IT READS IS OF BULK AT MOST 1048576: true; the input reads as it did. -/
def fnExactStampOfUptoRow : OpenClaim := { program := "ytkjomkiajdjhpaadoor", sum := "52608a31a144f097ac9fc9e865642dd2887090f088dac3a09152bc046bd300a2", func := "loop.example/g01045/laws.FnExactStampOf", spec := "fnExactStampOf", named := ["internal/strconv.uint64pow10", "math/bits.deBruijn32tab", "math/bits.deBruijn64tab"], apart := false, laid := [("math/bits.deBruijn32tab", laid_math_bits_deBruijn32tab), ("math/bits.deBruijn64tab", laid_math_bits_deBruijn64tab), ("internal/strconv.uint64pow10", laid_internal_strconv_uint64pow10)], narrowed := true }
def FnExactStampOfUptoSaid : Prop := fnExactStampOfUptoRow.holds Tryd.pinned (OpenSpec.upto fnExactStampOfSpec)

/-- 'laws.FnExactLogOf', WHERE WHAT IT READS IS OF BULK AT MOST 1048576: true; the input reads as it did. -/
def fnExactLogOfUptoRow : OpenClaim := { program := "ytkjomkiajdjhpaadoor", sum := "52608a31a144f097ac9fc9e865642dd2887090f088dac3a09152bc046bd300a2", func := "loop.example/g01045/laws.FnExactLogOf", spec := "fnExactLogOf", named := ["internal/strconv.uint64pow10", "math/bits.deBruijn32tab", "math/bits.deBruijn64tab"], apart := false, laid := [("math/bits.deBruijn32tab", laid_math_bits_deBruijn32tab), ("math/bits.deBruijn64tab", laid_math_bits_deBruijn64tab), ("internal/strconv.uint64pow10", laid_internal_strconv_uint64pow10)], narrowed := true }
def FnExactLogOfUptoSaid : Prop := fnExactLogOfUptoRow.holds Tryd.pinned (OpenSpec.upto fnExactLogOfSpec)

/-- 'laws.FnExactCheckLog', WHERE WHAT IT READS IS OF BULK AT MOST 1048576: true; the input reads as it did. -/
def fnExactCheckLogUptoRow : OpenClaim := { program := "ytkjomkiajdjhpaadoor", sum := "52608a31a144f097ac9fc9e865642dd2887090f088dac3a09152bc046bd300a2", func := "loop.example/g01045/laws.FnExactCheckLog", spec := "fnExactCheckLog", named := ["internal/strconv.uint64pow10", "math/bits.deBruijn32tab", "math/bits.deBruijn64tab"], apart := false, laid := [("math/bits.deBruijn32tab", laid_math_bits_deBruijn32tab), ("math/bits.deBruijn64tab", laid_math_bits_deBruijn64tab), ("internal/strconv.uint64pow10", laid_internal_strconv_uint64pow10)], narrowed := true }
def FnExactCheckLogUptoSaid : Prop := fnExactCheckLogUptoRow.holds Tryd.pinned (OpenSpec.upto fnExactCheckLogSpec)

/-- 'laws.FnExactRecoverLog', WHERE WHAT IT READS IS OF BULK AT MOST 1048576: true; the input reads as it did. -/
def fnExactRecoverLogUptoRow : OpenClaim := { program := "ytkjomkiajdjhpaadoor", sum := "52608a31a144f097ac9fc9e865642dd2887090f088dac3a09152bc046bd300a2", func := "loop.example/g01045/laws.FnExactRecoverLog", spec := "fnExactRecoverLog", named := ["internal/strconv.uint64pow10", "math/bits.deBruijn32tab", "math/bits.deBruijn64tab"], apart := false, laid := [("math/bits.deBruijn32tab", laid_math_bits_deBruijn32tab), ("math/bits.deBruijn64tab", laid_math_bits_deBruijn64tab), ("internal/strconv.uint64pow10", laid_internal_strconv_uint64pow10)], narrowed := true }
def FnExactRecoverLogUptoSaid : Prop := fnExactRecoverLogUptoRow.holds Tryd.pinned (OpenSpec.upto fnExactRecoverLogSpec)

/-- 'laws.FnExactSumOfWhat', WHERE WHAT IT READS IS OF BULK AT MOST 1048576: true; the input reads as it did. -/
def fnExactSumOfWhatUptoRow : OpenClaim := { program := "ytkjomkiajdjhpaadoor", sum := "52608a31a144f097ac9fc9e865642dd2887090f088dac3a09152bc046bd300a2", func := "loop.example/g01045/laws.FnExactSumOfWhat", spec := "fnExactSumOfWhat", named := ["internal/strconv.uint64pow10", "math/bits.deBruijn32tab", "math/bits.deBruijn64tab"], apart := false, laid := [("math/bits.deBruijn32tab", laid_math_bits_deBruijn32tab), ("math/bits.deBruijn64tab", laid_math_bits_deBruijn64tab), ("internal/strconv.uint64pow10", laid_internal_strconv_uint64pow10)], narrowed := true }
def FnExactSumOfWhatUptoSaid : Prop := fnExactSumOfWhatUptoRow.holds Tryd.pinned (OpenSpec.upto fnExactSumOfWhatSpec)

/-- 'laws.FnLogSums', WHERE WHAT IT READS IS OF BULK AT MOST 1048576: true; the input reads as it did. -/
def fnLogSumsUptoRow : OpenClaim := { program := "ytkjomkiajdjhpaadoor", sum := "52608a31a144f097ac9fc9e865642dd2887090f088dac3a09152bc046bd300a2", func := "loop.example/g01045/laws.FnLogSums", spec := "fnLogSums", named := ["internal/strconv.uint64pow10", "math/bits.deBruijn32tab", "math/bits.deBruijn64tab"], apart := false, laid := [("math/bits.deBruijn32tab", laid_math_bits_deBruijn32tab), ("math/bits.deBruijn64tab", laid_math_bits_deBruijn64tab), ("internal/strconv.uint64pow10", laid_internal_strconv_uint64pow10)], narrowed := true }
def FnLogSumsUptoSaid : Prop := fnLogSumsUptoRow.holds Tryd.pinned (OpenSpec.upto fnLogSumsSpec)

/-- 'laws.FnExactAddEntry', WHERE WHAT IT READS IS OF BULK AT MOST 1048576: true; the input reads as it did. -/
def fnExactAddEntryUptoRow : OpenClaim := { program := "ytkjomkiajdjhpaadoor", sum := "52608a31a144f097ac9fc9e865642dd2887090f088dac3a09152bc046bd300a2", func := "loop.example/g01045/laws.FnExactAddEntry", spec := "fnExactAddEntry", named := ["internal/strconv.uint64pow10", "math/bits.deBruijn32tab", "math/bits.deBruijn64tab"], apart := false, laid := [("math/bits.deBruijn32tab", laid_math_bits_deBruijn32tab), ("math/bits.deBruijn64tab", laid_math_bits_deBruijn64tab), ("internal/strconv.uint64pow10", laid_internal_strconv_uint64pow10)], narrowed := true }
def FnExactAddEntryUptoSaid : Prop := fnExactAddEntryUptoRow.holds Tryd.pinned (OpenSpec.upto fnExactAddEntrySpec)

/-- 'laws.FnExactValuesOf', WHERE WHAT IT READS IS OF BULK AT MOST 1048576: true; the input reads as it did. -/
def fnExactValuesOfUptoRow : OpenClaim := { program := "ytkjomkiajdjhpaadoor", sum := "52608a31a144f097ac9fc9e865642dd2887090f088dac3a09152bc046bd300a2", func := "loop.example/g01045/laws.FnExactValuesOf", spec := "fnExactValuesOf", named := ["internal/strconv.uint64pow10", "math/bits.deBruijn32tab", "math/bits.deBruijn64tab"], apart := false, laid := [("math/bits.deBruijn32tab", laid_math_bits_deBruijn32tab), ("math/bits.deBruijn64tab", laid_math_bits_deBruijn64tab), ("internal/strconv.uint64pow10", laid_internal_strconv_uint64pow10)], narrowed := true }
def FnExactValuesOfUptoSaid : Prop := fnExactValuesOfUptoRow.holds Tryd.pinned (OpenSpec.upto fnExactValuesOfSpec)

/-- 'laws.FnExactNamesIn', WHERE WHAT IT READS IS OF BULK AT MOST 1048576: true; the input reads as it did. -/
def fnExactNamesInUptoRow : OpenClaim := { program := "ytkjomkiajdjhpaadoor", sum := "52608a31a144f097ac9fc9e865642dd2887090f088dac3a09152bc046bd300a2", func := "loop.example/g01045/laws.FnExactNamesIn", spec := "fnExactNamesIn", named := ["internal/strconv.uint64pow10", "math/bits.deBruijn32tab", "math/bits.deBruijn64tab"], apart := false, laid := [("math/bits.deBruijn32tab", laid_math_bits_deBruijn32tab), ("math/bits.deBruijn64tab", laid_math_bits_deBruijn64tab), ("internal/strconv.uint64pow10", laid_internal_strconv_uint64pow10)], narrowed := true }
def FnExactNamesInUptoSaid : Prop := fnExactNamesInUptoRow.holds Tryd.pinned (OpenSpec.upto fnExactNamesInSpec)

/-- 'laws.FnExactEntriesOf', WHERE WHAT IT READS IS OF BULK AT MOST 1048576: true; the input reads as it did. -/
def fnExactEntriesOfUptoRow : OpenClaim := { program := "ytkjomkiajdjhpaadoor", sum := "52608a31a144f097ac9fc9e865642dd2887090f088dac3a09152bc046bd300a2", func := "loop.example/g01045/laws.FnExactEntriesOf", spec := "fnExactEntriesOf", named := ["internal/strconv.uint64pow10", "math/bits.deBruijn32tab", "math/bits.deBruijn64tab"], apart := false, laid := [("math/bits.deBruijn32tab", laid_math_bits_deBruijn32tab), ("math/bits.deBruijn64tab", laid_math_bits_deBruijn64tab), ("internal/strconv.uint64pow10", laid_internal_strconv_uint64pow10)], narrowed := true }
def FnExactEntriesOfUptoSaid : Prop := fnExactEntriesOfUptoRow.holds Tryd.pinned (OpenSpec.upto fnExactEntriesOfSpec)

/-- 'laws.FnLogs', WHERE WHAT IT READS IS OF BULK AT MOST 1048576: true; the input reads as it did. -/
def fnLogsUptoRow : OpenClaim := { program := "ytkjomkiajdjhpaadoor", sum := "52608a31a144f097ac9fc9e865642dd2887090f088dac3a09152bc046bd300a2", func := "loop.example/g01045/laws.FnLogs", spec := "fnLogs", named := ["internal/strconv.uint64pow10", "math/bits.deBruijn32tab", "math/bits.deBruijn64tab"], apart := false, laid := [("math/bits.deBruijn32tab", laid_math_bits_deBruijn32tab), ("math/bits.deBruijn64tab", laid_math_bits_deBruijn64tab), ("internal/strconv.uint64pow10", laid_internal_strconv_uint64pow10)], narrowed := true }
def FnLogsUptoSaid : Prop := fnLogsUptoRow.holds Tryd.pinned (OpenSpec.upto fnLogsSpec)

end Rows
end Go.Proofs.YtkjomkiajdjhpaaDoor
