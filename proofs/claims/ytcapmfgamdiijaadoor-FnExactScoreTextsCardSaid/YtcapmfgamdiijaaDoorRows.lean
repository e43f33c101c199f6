/-
  NARROWER THAN 'FOR EVERY INPUT', by the rows' own cells (each row's printed sentence says how): FnExactScoreTexts: laid · FnExactCommitFault: laid · FnExactFilesFault: laid · FnExactMovesText: laid · FnExactTreeFault: laid · FnExactIndexFault: laid · FnExactEncodeCommit: laid · FnExactEncodeTree: laid · FnExactDecodeTree: laid · FnExactFilesIndex: laid · FnExactClashesIn: laid · FnExactStageFiles: laid.
  DERIVED. THE GIVEN ROWS OF THIS SEAT. 12 by the template 'for every input the law returns true; each argument reads behind the call as it read before'; 0 by the template 'total and deterministic' (their statements: YtcapmfgamdiijaaDoorTotals.lean).
  GIVEN WITH THE SEED: the statements are not yours to turn. If you find one false, say at which input.
  Laid BY PROGRAM, IN A SANDBOX (cutbox-rows.mjs): the forced cells as the released guide's own fill.sh prints them over the translation 10364b1ffdeedf5f… (all of the seat's roots in one cut). By AI agents, Wed Nov 11 2026. No macro, syntax, notation, axiom, sorry.
-/
import Derived.Test.YtcapmfgamdiijaaDoorChecked
import GoSem.PinnedTables
import GoSem.Claim
import GoSem.ClaimJoined
import GoSem.ClaimMapViews
import Derived.JoinedTies
import Derived.KernelRfl
namespace Go.Proofs.YtcapmfgamdiijaaDoor
/- THE CELL 'sum', in the pinned program and in every row, IS THE sha256 OF THE DUMP (.gsa) THAT YtcapmfgamdiijaaDoorProg.lean LOADS. Nothing in Lean hashes anything: it is a label: what it is worth is what the hold of that sum in a sandbox is worth. -/
noncomputable def Tryd.pinned : Pinned := { name := "ytcapmfgamdiijaadoor", sum := "10364b1ffdeedf5f3a40c38014a1e96e49a20716b4f7d394720839607762395d", checked := Tryd.checked }
namespace Rows
def none {H : Type} : Left H := { results := [], args := [] }

/- WHAT THE LISTED PACKAGE-LEVEL VARIABLES READ AS WHEN THE CALL BEGINS. Each datum BY PROGRAM (the guide's laid-datum.mjs) off the statement by which the dump's own 'gosem.cut.vars' lays the variable. In a bare row this is a premise. The card (YtcapmfgamdiijaaDoorCards.lean) ties it to the program's text. -/
def laid_unicode_utf8_acceptRanges {H : Type} : DataW H := .agg [.agg [.lit (.int .u8 128), .lit (.int .u8 191)], .agg [.lit (.int .u8 160), .lit (.int .u8 191)], .agg [.lit (.int .u8 128), .lit (.int .u8 159)], .agg [.lit (.int .u8 144), .lit (.int .u8 191)], .agg [.lit (.int .u8 128), .lit (.int .u8 143)], .agg [.lit (.int .u8 0), .lit (.int .u8 0)], .agg [.lit (.int .u8 0), .lit (.int .u8 0)], .agg [.lit (.int .u8 0), .lit (.int .u8 0)], .agg [.lit (.int .u8 0), .lit (.int .u8 0)], .agg [.lit (.int .u8 0), .lit (.int .u8 0)], .agg [.lit (.int .u8 0), .lit (.int .u8 0)], .agg [.lit (.int .u8 0), .lit (.int .u8 0)], .agg [.lit (.int .u8 0), .lit (.int .u8 0)], .agg [.lit (.int .u8 0), .lit (.int .u8 0)], .agg [.lit (.int .u8 0), .lit (.int .u8 0)], .agg [.lit (.int .u8 0), .lit (.int .u8 0)]]
/-- One of Go's own tables, pinned by name: the form's constant. -/
def laid_unicode_utf8_first : DataW Unit := Go.Pinned.utf8First
def laid_math_bits_deBruijn32tab {H : Type} : DataW H := .agg [.lit (.int .u8 0), .lit (.int .u8 1), .lit (.int .u8 28), .lit (.int .u8 2), .lit (.int .u8 29), .lit (.int .u8 14), .lit (.int .u8 24), .lit (.int .u8 3), .lit (.int .u8 30), .lit (.int .u8 22), .lit (.int .u8 20), .lit (.int .u8 15), .lit (.int .u8 25), .lit (.int .u8 17), .lit (.int .u8 4), .lit (.int .u8 8), .lit (.int .u8 31), .lit (.int .u8 27), .lit (.int .u8 13), .lit (.int .u8 23), .lit (.int .u8 21), .lit (.int .u8 19), .lit (.int .u8 16), .lit (.int .u8 7), .lit (.int .u8 26), .lit (.int .u8 12), .lit (.int .u8 18), .lit (.int .u8 6), .lit (.int .u8 11), .lit (.int .u8 5), .lit (.int .u8 10), .lit (.int .u8 9)]
def laid_math_bits_deBruijn64tab {H : Type} : DataW H := .agg [.lit (.int .u8 0), .lit (.int .u8 1), .lit (.int .u8 56), .lit (.int .u8 2), .lit (.int .u8 57), .lit (.int .u8 49), .lit (.int .u8 28), .lit (.int .u8 3), .lit (.int .u8 61), .lit (.int .u8 58), .lit (.int .u8 42), .lit (.int .u8 50), .lit (.int .u8 38), .lit (.int .u8 29), .lit (.int .u8 17), .lit (.int .u8 4), .lit (.int .u8 62), .lit (.int .u8 47), .lit (.int .u8 59), .lit (.int .u8 36), .lit (.int .u8 45), .lit (.int .u8 43), .lit (.int .u8 51), .lit (.int .u8 22), .lit (.int .u8 53), .lit (.int .u8 39), .lit (.int .u8 33), .lit (.int .u8 30), .lit (.int .u8 24), .lit (.int .u8 18), .lit (.int .u8 12), .lit (.int .u8 5), .lit (.int .u8 63), .lit (.int .u8 55), .lit (.int .u8 48), .lit (.int .u8 27), .lit (.int .u8 60), .lit (.int .u8 41), .lit (.int .u8 37), .lit (.int .u8 16), .lit (.int .u8 46), .lit (.int .u8 35), .lit (.int .u8 44), .lit (.int .u8 21), .lit (.int .u8 52), .lit (.int .u8 32), .lit (.int .u8 23), .lit (.int .u8 11), .lit (.int .u8 54), .lit (.int .u8 26), .lit (.int .u8 40), .lit (.int .u8 15), .lit (.int .u8 34), .lit (.int .u8 20), .lit (.int .u8 31), .lit (.int .u8 10), .lit (.int .u8 25), .lit (.int .u8 14), .lit (.int .u8 19), .lit (.int .u8 9), .lit (.int .u8 13), .lit (.int .u8 8), .lit (.int .u8 7), .lit (.int .u8 6)]
def laid_internal_strconv_uint64pow10 {H : Type} : DataW H := .agg [.lit (.int .u64 1), .lit (.int .u64 10), .lit (.int .u64 100), .lit (.int .u64 1000), .lit (.int .u64 10000), .lit (.int .u64 100000), .lit (.int .u64 1000000), .lit (.int .u64 10000000), .lit (.int .u64 100000000), .lit (.int .u64 1000000000), .lit (.int .u64 10000000000), .lit (.int .u64 100000000000), .lit (.int .u64 1000000000000), .lit (.int .u64 10000000000000), .lit (.int .u64 100000000000000), .lit (.int .u64 1000000000000000), .lit (.int .u64 10000000000000000), .lit (.int .u64 100000000000000000), .lit (.int .u64 1000000000000000000), .lit (.int .u64 10000000000000000000)]

/-- 'laws.FnExactScoreTexts': WHATEVER THE INPUT: true; the input reads as it did. -/
def fnExactScoreTextsSpec : ChangeSpec := { name := "fnExactScoreTexts", fn := fun _ => fun
  | [d1, d2] => { results := [.lit (.bool true)], args := [d1, d2] }
  | _ => none }
def fnExactScoreTextsRow : OpenClaim := { program := "ytcapmfgamdiijaadoor", sum := "10364b1ffdeedf5f3a40c38014a1e96e49a20716b4f7d394720839607762395d", func := "loop.example/g00172/laws.FnExactScoreTexts", spec := "fnExactScoreTexts", inPlace := ["internal/bytealg.CountString", "internal/bytealg.IndexByteString", "internal/bytealg.IndexString"], named := ["unicode/utf8.first", "unicode/utf8.acceptRanges", "internal/bytealg.MaxLen"], apart := false, laid := [("unicode/utf8.acceptRanges", laid_unicode_utf8_acceptRanges), ("unicode/utf8.first", laid_unicode_utf8_first)] }
def FnExactScoreTextsSaid : Prop := fnExactScoreTextsRow.holds Tryd.pinned (OpenSpec.ofChange fnExactScoreTextsSpec)

/-- ITS FALSE NEIGHBOUR: 'it returns false'. Refute it at one input. -/
def fnExactScoreTextsWrong : ChangeSpec := { name := "fnExactScoreTexts", fn := fun _ => fun
  | [d1, d2] => { results := [.lit (.bool false)], args := [d1, d2] }
  | _ => none }
def FnExactScoreTextsWrongFalsely : Prop := fnExactScoreTextsRow.holds Tryd.pinned (OpenSpec.ofChange fnExactScoreTextsWrong)

/-- 'laws.FnExactCommitFault': WHATEVER THE INPUT: true; the input reads as it did. -/
def fnExactCommitFaultSpec : ChangeSpec := { name := "fnExactCommitFault", fn := fun _ => fun
  | [d] => { results := [.lit (.bool true)], args := [d] }
  | _ => none }
def fnExactCommitFaultRow : OpenClaim := { program := "ytcapmfgamdiijaadoor", sum := "10364b1ffdeedf5f3a40c38014a1e96e49a20716b4f7d394720839607762395d", func := "loop.example/g00172/laws.FnExactCommitFault", spec := "fnExactCommitFault", inPlace := ["internal/bytealg.IndexByteString", "internal/bytealg.IndexString"], named := ["unicode/utf8.first", "unicode/utf8.acceptRanges", "internal/bytealg.MaxLen"], apart := false, laid := [("unicode/utf8.acceptRanges", laid_unicode_utf8_acceptRanges), ("unicode/utf8.first", laid_unicode_utf8_first)] }
def FnExactCommitFaultSaid : Prop := fnExactCommitFaultRow.holds Tryd.pinned (OpenSpec.ofChange fnExactCommitFaultSpec)

/-- ITS FALSE NEIGHBOUR: 'it returns false'. Refute it at one input. -/
def fnExactCommitFaultWrong : ChangeSpec := { name := "fnExactCommitFault", fn := fun _ => fun
  | [d] => { results := [.lit (.bool false)], args := [d] }
  | _ => none }
def FnExactCommitFaultWrongFalsely : Prop := fnExactCommitFaultRow.holds Tryd.pinned (OpenSpec.ofChange fnExactCommitFaultWrong)

/-- 'laws.FnExactFilesFault': WHATEVER THE INPUT: true; the input reads as it did. -/
def fnExactFilesFaultSpec : ChangeSpec := { name := "fnExactFilesFault", fn := fun _ => fun
  | [d] => { results := [.lit (.bool true)], args := [d] }
  | _ => none }
def fnExactFilesFaultRow : OpenClaim := { program := "ytcapmfgamdiijaadoor", sum := "10364b1ffdeedf5f3a40c38014a1e96e49a20716b4f7d394720839607762395d", func := "loop.example/g00172/laws.FnExactFilesFault", spec := "fnExactFilesFault", inPlace := ["internal/bytealg.CountString", "internal/bytealg.IndexByteString", "internal/bytealg.IndexString"], unfollowed := true, recurses := true, named := ["unicode/utf8.first", "unicode/utf8.acceptRanges", "internal/bytealg.MaxLen"], apart := false, laid := [("unicode/utf8.acceptRanges", laid_unicode_utf8_acceptRanges), ("unicode/utf8.first", laid_unicode_utf8_first)] }
def FnExactFilesFaultSaid : Prop := fnExactFilesFaultRow.holds Tryd.pinned (OpenSpec.ofChange fnExactFilesFaultSpec)

/-- ITS FALSE NEIGHBOUR: 'it returns false'. Refute it at one input. -/
def fnExactFilesFaultWrong : ChangeSpec := { name := "fnExactFilesFault", fn := fun _ => fun
  | [d] => { results := [.lit (.bool false)], args := [d] }
  | _ => none }
def FnExactFilesFaultWrongFalsely : Prop := fnExactFilesFaultRow.holds Tryd.pinned (OpenSpec.ofChange fnExactFilesFaultWrong)

/-- 'laws.FnExactMovesText': WHATEVER THE INPUT: true; the input reads as it did. -/
def fnExactMovesTextSpec : ChangeSpec := { name := "fnExactMovesText", fn := fun _ => fun
  | [d] => { results := [.lit (.bool true)], args := [d] }
  | _ => none }
def fnExactMovesTextRow : OpenClaim := { program := "ytcapmfgamdiijaadoor", sum := "10364b1ffdeedf5f3a40c38014a1e96e49a20716b4f7d394720839607762395d", func := "loop.example/g00172/laws.FnExactMovesText", spec := "fnExactMovesText", inPlace := ["internal/bytealg.CountString", "internal/bytealg.IndexByteString", "internal/bytealg.IndexString", "internal/abi.NoEscape"], unfollowed := true, recurses := true, named := ["unicode/utf8.first", "unicode/utf8.acceptRanges", "internal/bytealg.MaxLen", "internal/strconv.uint64pow10", "math/bits.deBruijn32tab", "math/bits.deBruijn64tab"], apart := false, laid := [("math/bits.deBruijn32tab", laid_math_bits_deBruijn32tab), ("math/bits.deBruijn64tab", laid_math_bits_deBruijn64tab), ("internal/strconv.uint64pow10", laid_internal_strconv_uint64pow10), ("unicode/utf8.acceptRanges", laid_unicode_utf8_acceptRanges), ("unicode/utf8.first", laid_unicode_utf8_first)] }
def FnExactMovesTextSaid : Prop := fnExactMovesTextRow.holds Tryd.pinned (OpenSpec.ofChange fnExactMovesTextSpec)

/-- ITS FALSE NEIGHBOUR: 'it returns false'. Refute it at one input. -/
def fnExactMovesTextWrong : ChangeSpec := { name := "fnExactMovesText", fn := fun _ => fun
  | [d] => { results := [.lit (.bool false)], args := [d] }
  | _ => none }
def FnExactMovesTextWrongFalsely : Prop := fnExactMovesTextRow.holds Tryd.pinned (OpenSpec.ofChange fnExactMovesTextWrong)

/-- 'laws.FnExactTreeFault': WHATEVER THE INPUT: true; the input reads as it did. -/
def fnExactTreeFaultSpec : ChangeSpec := { name := "fnExactTreeFault", fn := fun _ => fun
  | [d] => { results := [.lit (.bool true)], args := [d] }
  | _ => none }
def fnExactTreeFaultRow : OpenClaim := { program := "ytcapmfgamdiijaadoor", sum := "10364b1ffdeedf5f3a40c38014a1e96e49a20716b4f7d394720839607762395d", func := "loop.example/g00172/laws.FnExactTreeFault", spec := "fnExactTreeFault", inPlace := ["internal/bytealg.IndexByteString", "internal/bytealg.IndexString", "internal/abi.NoEscape", "internal/bytealg.CountString"], named := ["unicode/utf8.first", "unicode/utf8.acceptRanges", "internal/bytealg.MaxLen"], apart := false, laid := [("unicode/utf8.acceptRanges", laid_unicode_utf8_acceptRanges), ("unicode/utf8.first", laid_unicode_utf8_first)] }
def FnExactTreeFaultSaid : Prop := fnExactTreeFaultRow.holds Tryd.pinned (OpenSpec.ofChange fnExactTreeFaultSpec)

/-- ITS FALSE NEIGHBOUR: 'it returns false'. Refute it at one input. -/
def fnExactTreeFaultWrong : ChangeSpec := { name := "fnExactTreeFault", fn := fun _ => fun
  | [d] => { results := [.lit (.bool false)], args := [d] }
  | _ => none }
def FnExactTreeFaultWrongFalsely : Prop := fnExactTreeFaultRow.holds Tryd.pinned (OpenSpec.ofChange fnExactTreeFaultWrong)

/-- 'laws.FnExactIndexFault': WHATEVER THE INPUT: true; the input reads as it did. -/
def fnExactIndexFaultSpec : ChangeSpec := { name := "fnExactIndexFault", fn := fun _ => fun
  | [d] => { results := [.lit (.bool true)], args := [d] }
  | _ => none }
def fnExactIndexFaultRow : OpenClaim := { program := "ytcapmfgamdiijaadoor", sum := "10364b1ffdeedf5f3a40c38014a1e96e49a20716b4f7d394720839607762395d", func := "loop.example/g00172/laws.FnExactIndexFault", spec := "fnExactIndexFault", inPlace := ["internal/bytealg.CountString", "internal/bytealg.IndexByteString", "internal/bytealg.IndexString", "internal/bytealg.abigen_runtime_cmpstring"], unfollowed := true, recurses := true, named := ["unicode/utf8.first", "unicode/utf8.acceptRanges", "internal/bytealg.MaxLen"], apart := false, laid := [("unicode/utf8.acceptRanges", laid_unicode_utf8_acceptRanges), ("unicode/utf8.first", laid_unicode_utf8_first)] }
def FnExactIndexFaultSaid : Prop := fnExactIndexFaultRow.holds Tryd.pinned (OpenSpec.ofChange fnExactIndexFaultSpec)

/-- ITS FALSE NEIGHBOUR: 'it returns false'. Refute it at one input. -/
def fnExactIndexFaultWrong : ChangeSpec := { name := "fnExactIndexFault", fn := fun _ => fun
  | [d] => { results := [.lit (.bool false)], args := [d] }
  | _ => none }
def FnExactIndexFaultWrongFalsely : Prop := fnExactIndexFaultRow.holds Tryd.pinned (OpenSpec.ofChange fnExactIndexFaultWrong)

/-- 'laws.FnExactEncodeCommit': WHATEVER THE INPUT: true; the input reads as it did. -/
def fnExactEncodeCommitSpec : ChangeSpec := { name := "fnExactEncodeCommit", fn := fun _ => fun
  | [d] => { results := [.lit (.bool true)], args := [d] }
  | _ => none }
def fnExactEncodeCommitRow : OpenClaim := { program := "ytcapmfgamdiijaadoor", sum := "10364b1ffdeedf5f3a40c38014a1e96e49a20716b4f7d394720839607762395d", func := "loop.example/g00172/laws.FnExactEncodeCommit", spec := "fnExactEncodeCommit", inPlace := ["internal/bytealg.IndexByteString", "internal/bytealg.IndexString"], recurses := true, named := ["unicode/utf8.first", "unicode/utf8.acceptRanges", "internal/strconv.uint64pow10", "math/bits.deBruijn32tab", "math/bits.deBruijn64tab", "internal/bytealg.MaxLen"], apart := false, laid := [("math/bits.deBruijn32tab", laid_math_bits_deBruijn32tab), ("math/bits.deBruijn64tab", laid_math_bits_deBruijn64tab), ("internal/strconv.uint64pow10", laid_internal_strconv_uint64pow10), ("unicode/utf8.acceptRanges", laid_unicode_utf8_acceptRanges), ("unicode/utf8.first", laid_unicode_utf8_first)] }
def FnExactEncodeCommitSaid : Prop := fnExactEncodeCommitRow.holds Tryd.pinned (OpenSpec.ofChange fnExactEncodeCommitSpec)

/-- ITS FALSE NEIGHBOUR: 'it returns false'. Refute it at one input. -/
def fnExactEncodeCommitWrong : ChangeSpec := { name := "fnExactEncodeCommit", fn := fun _ => fun
  | [d] => { results := [.lit (.bool false)], args := [d] }
  | _ => none }
def FnExactEncodeCommitWrongFalsely : Prop := fnExactEncodeCommitRow.holds Tryd.pinned (OpenSpec.ofChange fnExactEncodeCommitWrong)

/-- 'laws.FnExactEncodeTree': WHATEVER THE INPUT: true; the input reads as it did. -/
def fnExactEncodeTreeSpec : ChangeSpec := { name := "fnExactEncodeTree", fn := fun _ => fun
  | [d] => { results := [.lit (.bool true)], args := [d] }
  | _ => none }
def fnExactEncodeTreeRow : OpenClaim := { program := "ytcapmfgamdiijaadoor", sum := "10364b1ffdeedf5f3a40c38014a1e96e49a20716b4f7d394720839607762395d", func := "loop.example/g00172/laws.FnExactEncodeTree", spec := "fnExactEncodeTree", inPlace := ["internal/bytealg.IndexByteString", "internal/bytealg.IndexString", "internal/abi.NoEscape", "internal/bytealg.CountString"], named := ["unicode/utf8.first", "unicode/utf8.acceptRanges", "internal/bytealg.MaxLen"], apart := false, laid := [("unicode/utf8.acceptRanges", laid_unicode_utf8_acceptRanges), ("unicode/utf8.first", laid_unicode_utf8_first)] }
def FnExactEncodeTreeSaid : Prop := fnExactEncodeTreeRow.holds Tryd.pinned (OpenSpec.ofChange fnExactEncodeTreeSpec)

/-- ITS FALSE NEIGHBOUR: 'it returns false'. Refute it at one input. -/
def fnExactEncodeTreeWrong : ChangeSpec := { name := "fnExactEncodeTree", fn := fun _ => fun
  | [d] => { results := [.lit (.bool false)], args := [d] }
  | _ => none }
def FnExactEncodeTreeWrongFalsely : Prop := fnExactEncodeTreeRow.holds Tryd.pinned (OpenSpec.ofChange fnExactEncodeTreeWrong)

/-- 'laws.FnExactDecodeTree': WHATEVER THE INPUT: true; the input reads as it did. -/
def fnExactDecodeTreeSpec : ChangeSpec := { name := "fnExactDecodeTree", fn := fun _ => fun
  | [d] => { results := [.lit (.bool true)], args := [d] }
  | _ => none }
def fnExactDecodeTreeRow : OpenClaim := { program := "ytcapmfgamdiijaadoor", sum := "10364b1ffdeedf5f3a40c38014a1e96e49a20716b4f7d394720839607762395d", func := "loop.example/g00172/laws.FnExactDecodeTree", spec := "fnExactDecodeTree", inPlace := ["internal/bytealg.CountString", "internal/bytealg.IndexByteString", "internal/bytealg.IndexString", "internal/abi.NoEscape"], named := ["unicode/utf8.first", "unicode/utf8.acceptRanges", "internal/bytealg.MaxLen"], apart := false, laid := [("unicode/utf8.acceptRanges", laid_unicode_utf8_acceptRanges), ("unicode/utf8.first", laid_unicode_utf8_first)] }
def FnExactDecodeTreeSaid : Prop := fnExactDecodeTreeRow.holds Tryd.pinned (OpenSpec.ofChange fnExactDecodeTreeSpec)

/-- ITS FALSE NEIGHBOUR: 'it returns false'. Refute it at one input. -/
def fnExactDecodeTreeWrong : ChangeSpec := { name := "fnExactDecodeTree", fn := fun _ => fun
  | [d] => { results := [.lit (.bool false)], args := [d] }
  | _ => none }
def FnExactDecodeTreeWrongFalsely : Prop := fnExactDecodeTreeRow.holds Tryd.pinned (OpenSpec.ofChange fnExactDecodeTreeWrong)

/-- 'laws.FnExactFilesIndex': WHATEVER THE INPUT: true; the input reads as it did. -/
def fnExactFilesIndexSpec : ChangeSpec := { name := "fnExactFilesIndex", fn := fun _ => fun
  | [d] => { results := [.lit (.bool true)], args := [d] }
  | _ => none }
def fnExactFilesIndexRow : OpenClaim := { program := "ytcapmfgamdiijaadoor", sum := "10364b1ffdeedf5f3a40c38014a1e96e49a20716b4f7d394720839607762395d", func := "loop.example/g00172/laws.FnExactFilesIndex", spec := "fnExactFilesIndex", inPlace := ["internal/bytealg.CountString", "internal/bytealg.IndexByteString", "internal/bytealg.IndexString"], unfollowed := true, recurses := true, named := ["unicode/utf8.first", "unicode/utf8.acceptRanges", "internal/bytealg.MaxLen"], apart := false, laid := [("unicode/utf8.acceptRanges", laid_unicode_utf8_acceptRanges), ("unicode/utf8.first", laid_unicode_utf8_first)] }
def FnExactFilesIndexSaid : Prop := fnExactFilesIndexRow.holds Tryd.pinned (OpenSpec.ofChange fnExactFilesIndexSpec)

/-- ITS FALSE NEIGHBOUR: 'it returns false'. Refute it at one input. -/
def fnExactFilesIndexWrong : ChangeSpec := { name := "fnExactFilesIndex", fn := fun _ => fun
  | [d] => { results := [.lit (.bool false)], args := [d] }
  | _ => none }
def FnExactFilesIndexWrongFalsely : Prop := fnExactFilesIndexRow.holds Tryd.pinned (OpenSpec.ofChange fnExactFilesIndexWrong)

/-- 'laws.FnExactClashesIn': WHATEVER THE INPUT: true; the input reads as it did. -/
def fnExactClashesInSpec : ChangeSpec := { name := "fnExactClashesIn", fn := fun _ => fun
  | [d] => { results := [.lit (.bool true)], args := [d] }
  | _ => none }
def fnExactClashesInRow : OpenClaim := { program := "ytcapmfgamdiijaadoor", sum := "10364b1ffdeedf5f3a40c38014a1e96e49a20716b4f7d394720839607762395d", func := "loop.example/g00172/laws.FnExactClashesIn", spec := "fnExactClashesIn", inPlace := ["internal/bytealg.CountString", "internal/bytealg.IndexByteString", "internal/bytealg.IndexString", "internal/bytealg.abigen_runtime_cmpstring"], unfollowed := true, recurses := true, named := ["unicode/utf8.first", "unicode/utf8.acceptRanges", "internal/bytealg.MaxLen"], apart := false, laid := [("unicode/utf8.acceptRanges", laid_unicode_utf8_acceptRanges), ("unicode/utf8.first", laid_unicode_utf8_first)] }
def FnExactClashesInSaid : Prop := fnExactClashesInRow.holds Tryd.pinned (OpenSpec.ofChange fnExactClashesInSpec)

/-- ITS FALSE NEIGHBOUR: 'it returns false'. Refute it at one input. -/
def fnExactClashesInWrong : ChangeSpec := { name := "fnExactClashesIn", fn := fun _ => fun
  | [d] => { results := [.lit (.bool false)], args := [d] }
  | _ => none }
def FnExactClashesInWrongFalsely : Prop := fnExactClashesInRow.holds Tryd.pinned (OpenSpec.ofChange fnExactClashesInWrong)

/-- 'laws.FnExactStageFiles': WHATEVER THE INPUT: true; the input reads as it did. -/
def fnExactStageFilesSpec : ChangeSpec := { name := "fnExactStageFiles", fn := fun _ => fun
  | [d1, d2] => { results := [.lit (.bool true)], args := [d1, d2] }
  | _ => none }
def fnExactStageFilesRow : OpenClaim := { program := "ytcapmfgamdiijaadoor", sum := "10364b1ffdeedf5f3a40c38014a1e96e49a20716b4f7d394720839607762395d", func := "loop.example/g00172/laws.FnExactStageFiles", spec := "fnExactStageFiles", inPlace := ["internal/bytealg.CountString", "internal/bytealg.IndexByteString", "internal/bytealg.IndexString", "internal/bytealg.abigen_runtime_cmpstring"], unfollowed := true, recurses := true, named := ["unicode/utf8.first", "unicode/utf8.acceptRanges", "internal/bytealg.MaxLen"], apart := false, laid := [("unicode/utf8.acceptRanges", laid_unicode_utf8_acceptRanges), ("unicode/utf8.first", laid_unicode_utf8_first)] }
def FnExactStageFilesSaid : Prop := fnExactStageFilesRow.holds Tryd.pinned (OpenSpec.ofChange fnExactStageFilesSpec)

/-- ITS FALSE NEIGHBOUR: 'it returns false'. Refute it at one input. -/
def fnExactStageFilesWrong : ChangeSpec := { name := "fnExactStageFiles", fn := fun _ => fun
  | [d1, d2] => { results := [.lit (.bool false)], args := [d1, d2] }
  | _ => none }
def FnExactStageFilesWrongFalsely : Prop := fnExactStageFilesRow.holds Tryd.pinned (OpenSpec.ofChange fnExactStageFilesWrong)

/- THE SECOND FORM. 'bulk': how many values and letters a reading holds, each counted each time it is reached (what is shared counts as often as it is met; a slice's spare places count too). A statement '..UptoSaid' is the law's where the arguments, and the package variables that the reading takes, are together of bulk at most 1048576: NARROWER than '..Said'. Prove '..Said' where nothing that the law and all that it calls make is longer than what came in: it says more and counts as full. Else prove '..UptoSaid'. A law counts once. -/
mutual
def uptoBulk {H : Type} : DataW H → Nat
  | .lit (.string bytes) => bytes.length + 1
  | .lit _ => 1
  | .nil => 1
  | .ptr d => uptoBulk d + 1
  | .slice elems spare => uptoBulkAll elems + uptoBulkAll spare + 1
  | .agg parts => uptoBulkAll parts + 1
  | .iface _ d => uptoBulk d + 1
  | .map entries => uptoBulkEntries entries + 1
  | .held _ => 1
def uptoBulkAll {H : Type} : List (DataW H) → Nat
  | [] => 0
  | d :: r => uptoBulk d + uptoBulkAll r
def uptoBulkEntries {H : Type} : List (Lit × DataW H) → Nat
  | [] => 0
  | x :: r => uptoBulkEntry x + uptoBulkEntries r
def uptoBulkEntry {H : Type} : Lit × DataW H → Nat
  | (.string bytes, d) => bytes.length + uptoBulk d + 1
  | (_, d) => uptoBulk d + 1
 end
def uptoSmall : (H : Type) → List (DataW H) → Bool := fun _ ds => decide (uptoBulkAll ds ≤ 1048576)
def OpenSpec.upto (s : _root_.Go.ChangeSpec) : _root_.Go.OpenSpec := { _root_.Go.OpenSpec.ofChange s with cond := some uptoSmall }

/-- 'laws.FnExactScoreTexts', WHERE WHAT IT READS IS OF BULK AT MOST 1048576: true; the input reads as it did. -/
def fnExactScoreTextsUptoRow : OpenClaim := { program := "ytcapmfgamdiijaadoor", sum := "10364b1ffdeedf5f3a40c38014a1e96e49a20716b4f7d394720839607762395d", func := "loop.example/g00172/laws.FnExactScoreTexts", spec := "fnExactScoreTexts", inPlace := ["internal/bytealg.CountString", "internal/bytealg.IndexByteString", "internal/bytealg.IndexString"], named := ["unicode/utf8.first", "unicode/utf8.acceptRanges", "internal/bytealg.MaxLen"], apart := false, laid := [("unicode/utf8.acceptRanges", laid_unicode_utf8_acceptRanges), ("unicode/utf8.first", laid_unicode_utf8_first)], narrowed := true }
def FnExactScoreTextsUptoSaid : Prop := fnExactScoreTextsUptoRow.holds Tryd.pinned (OpenSpec.upto fnExactScoreTextsSpec)

/-- 'laws.FnExactCommitFault', WHERE WHAT IT READS IS OF BULK AT MOST 1048576: true; the input reads as it did. -/
def fnExactCommitFaultUptoRow : OpenClaim := { program := "ytcapmfgamdiijaadoor", sum := "10364b1ffdeedf5f3a40c38014a1e96e49a20716b4f7d394720839607762395d", func := "loop.example/g00172/laws.FnExactCommitFault", spec := "fnExactCommitFault", inPlace := ["internal/bytealg.IndexByteString", "internal/bytealg.IndexString"], named := ["unicode/utf8.first", "unicode/utf8.acceptRanges", "internal/bytealg.MaxLen"], apart := false, laid := [("unicode/utf8.acceptRanges", laid_unicode_utf8_acceptRanges), ("unicode/utf8.first", laid_unicode_utf8_first)], narrowed := true }
def FnExactCommitFaultUptoSaid : Prop := fnExactCommitFaultUptoRow.holds Tryd.pinned (OpenSpec.upto fnExactCommitFaultSpec)

/-- 'laws.FnExactFilesFault', WHERE WHAT IT READS IS OF BULK AT MOST 1048576: true; the input reads as it did. -/
def fnExactFilesFaultUptoRow : OpenClaim := { program := "ytcapmfgamdiijaadoor", sum := "10364b1ffdeedf5f3a40c38014a1e96e49a20716b4f7d394720839607762395d", func := "loop.example/g00172/laws.FnExactFilesFault", spec := "fnExactFilesFault", inPlace := ["internal/bytealg.CountString", "internal/bytealg.IndexByteString", "internal/bytealg.IndexString"], unfollowed := true, recurses := true, named := ["unicode/utf8.first", "unicode/utf8.acceptRanges", "internal/bytealg.MaxLen"], apart := false, laid := [("unicode/utf8.acceptRanges", laid_unicode_utf8_acceptRanges), ("unicode/utf8.first", laid_unicode_utf8_first)], narrowed := true }
def FnExactFilesFaultUptoSaid : Prop := fnExactFilesFaultUptoRow.holds Tryd.pinned (OpenSpec.upto fnExactFilesFaultSpec)

/-- 'laws.FnExactMovesText', WHERE WHAT IT READS IS OF BULK AT MOST 1048576: true; the input reads as it did. -/
def fnExactMovesTextUptoRow : OpenClaim := { program := "ytcapmfgamdiijaadoor", sum := "10364b1ffdeedf5f3a40c38014a1e96e49a20716b4f7d394720839607762395d", func := "loop.example/g00172/laws.FnExactMovesText", spec := "fnExactMovesText", inPlace := ["internal/bytealg.CountString", "internal/bytealg.IndexByteString", "internal/bytealg.IndexString", "internal/abi.NoEscape"], unfollowed := true, recurses := true, named := ["unicode/utf8.first", "unicode/utf8.acceptRanges", "internal/bytealg.MaxLen", "internal/strconv.uint64pow10", "math/bits.deBruijn32tab", "math/bits.deBruijn64tab"], apart := false, laid := [("math/bits.deBruijn32tab", laid_math_bits_deBruijn32tab), ("math/bits.deBruijn64tab", laid_math_bits_deBruijn64tab), ("internal/strconv.uint64pow10", laid_internal_strconv_uint64pow10), ("unicode/utf8.acceptRanges", laid_unicode_utf8_acceptRanges), ("unicode/utf8.first", laid_unicode_utf8_first)], narrowed := true }
def FnExactMovesTextUptoSaid : Prop := fnExactMovesTextUptoRow.holds Tryd.pinned (OpenSpec.upto fnExactMovesTextSpec)

/-- 'laws.FnExactTreeFault', WHERE WHAT IT READS IS OF BULK AT MOST 1048576: true; the input reads as it did. -/
def fnExactTreeFaultUptoRow : OpenClaim := { program := "ytcapmfgamdiijaadoor", sum := "10364b1ffdeedf5f3a40c38014a1e96e49a20716b4f7d394720839607762395d", func := "loop.example/g00172/laws.FnExactTreeFault", spec := "fnExactTreeFault", inPlace := ["internal/bytealg.IndexByteString", "internal/bytealg.IndexString", "internal/abi.NoEscape", "internal/bytealg.CountString"], named := ["unicode/utf8.first", "unicode/utf8.acceptRanges", "internal/bytealg.MaxLen"], apart := false, laid := [("unicode/utf8.acceptRanges", laid_unicode_utf8_acceptRanges), ("unicode/utf8.first", laid_unicode_utf8_first)], narrowed := true }
def FnExactTreeFaultUptoSaid : Prop := fnExactTreeFaultUptoRow.holds Tryd.pinned (OpenSpec.upto fnExactTreeFaultSpec)

/-- 'laws.FnExactIndexFault', WHERE WHAT IT READS IS OF BULK AT MOST 1048576: true; the input reads as it did. -/
def fnExactIndexFaultUptoRow : OpenClaim := { program := "ytcapmfgamdiijaadoor", sum := "10364b1ffdeedf5f3a40c38014a1e96e49a20716b4f7d394720839607762395d", func := "loop.example/g00172/laws.FnExactIndexFault", spec := "fnExactIndexFault", inPlace := ["internal/bytealg.CountString", "internal/bytealg.IndexByteString", "internal/bytealg.IndexString", "internal/bytealg.abigen_runtime_cmpstring"], unfollowed := true, recurses := true, named := ["unicode/utf8.first", "unicode/utf8.acceptRanges", "internal/bytealg.MaxLen"], apart := false, laid := [("unicode/utf8.acceptRanges", laid_unicode_utf8_acceptRanges), ("unicode/utf8.first", laid_unicode_utf8_first)], narrowed := true }
def FnExactIndexFaultUptoSaid : Prop := fnExactIndexFaultUptoRow.holds Tryd.pinned (OpenSpec.upto fnExactIndexFaultSpec)

/-- 'laws.FnExactEncodeCommit', WHERE WHAT IT READS IS OF BULK AT MOST 1048576: true; the input reads as it did. -/
def fnExactEncodeCommitUptoRow : OpenClaim := { program := "ytcapmfgamdiijaadoor", sum := "10364b1ffdeedf5f3a40c38014a1e96e49a20716b4f7d394720839607762395d", func := "loop.example/g00172/laws.FnExactEncodeCommit", spec := "fnExactEncodeCommit", inPlace := ["internal/bytealg.IndexByteString", "internal/bytealg.IndexString"], recurses := true, named := ["unicode/utf8.first", "unicode/utf8.acceptRanges", "internal/strconv.uint64pow10", "math/bits.deBruijn32tab", "math/bits.deBruijn64tab", "internal/bytealg.MaxLen"], apart := false, laid := [("math/bits.deBruijn32tab", laid_math_bits_deBruijn32tab), ("math/bits.deBruijn64tab", laid_math_bits_deBruijn64tab), ("internal/strconv.uint64pow10", laid_internal_strconv_uint64pow10), ("unicode/utf8.acceptRanges", laid_unicode_utf8_acceptRanges), ("unicode/utf8.first", laid_unicode_utf8_first)], narrowed := true }
def FnExactEncodeCommitUptoSaid : Prop := fnExactEncodeCommitUptoRow.holds Tryd.pinned (OpenSpec.upto fnExactEncodeCommitSpec)

/-- 'laws.FnExactEncodeTree', WHERE WHAT IT READS IS OF BULK AT MOST 1048576: true; the input reads as it did. -/
def fnExactEncodeTreeUptoRow : OpenClaim := { program := "ytcapmfgamdiijaadoor", sum := "10364b1ffdeedf5f3a40c38014a1e96e49a20716b4f7d394720839607762395d", func := "loop.example/g00172/laws.FnExactEncodeTree", spec := "fnExactEncodeTree", inPlace := ["internal/bytealg.IndexByteString", "internal/bytealg.IndexString", "internal/abi.NoEscape", "internal/bytealg.CountString"], named := ["unicode/utf8.first", "unicode/utf8.acceptRanges", "internal/bytealg.MaxLen"], apart := false, laid := [("unicode/utf8.acceptRanges", laid_unicode_utf8_acceptRanges), ("unicode/utf8.first", laid_unicode_utf8_first)], narrowed := true }
def FnExactEncodeTreeUptoSaid : Prop := fnExactEncodeTreeUptoRow.holds Tryd.pinned (OpenSpec.upto fnExactEncodeTreeSpec)

/-- 'laws.FnExactDecodeTree', WHERE WHAT IT READS IS OF BULK AT MOST 1048576: true; the input reads as it did. -/
def fnExactDecodeTreeUptoRow : OpenClaim := { program := "ytcapmfgamdiijaadoor", sum := "10364b1ffdeedf5f3a40c38014a1e96e49a20716b4f7d394720839607762395d", func := "loop.example/g00172/laws.FnExactDecodeTree", spec := "fnExactDecodeTree", inPlace := ["internal/bytealg.CountString", "internal/bytealg.IndexByteString", "internal/bytealg.IndexString", "internal/abi.NoEscape"], named := ["unicode/utf8.first", "unicode/utf8.acceptRanges", "internal/bytealg.MaxLen"], apart := false, laid := [("unicode/utf8.acceptRanges", laid_unicode_utf8_acceptRanges), ("unicode/utf8.first", laid_unicode_utf8_first)], narrowed := true }
def FnExactDecodeTreeUptoSaid : Prop := fnExactDecodeTreeUptoRow.holds Tryd.pinned (OpenSpec.upto fnExactDecodeTreeSpec)

/-- 'laws.FnExactFilesIndex', WHERE WHAT IT READS IS OF BULK AT MOST 1048576: true; the input reads as it did. -/
def fnExactFilesIndexUptoRow : OpenClaim := { program := "ytcapmfgamdiijaadoor", sum := "10364b1ffdeedf5f3a40c38014a1e96e49a20716b4f7d394720839607762395d", func := "loop.example/g00172/laws.FnExactFilesIndex", spec := "fnExactFilesIndex", inPlace := ["internal/bytealg.CountString", "internal/bytealg.IndexByteString", "internal/bytealg.IndexString"], unfollowed := true, recurses := true, named := ["unicode/utf8.first", "unicode/utf8.acceptRanges", "internal/bytealg.MaxLen"], apart := false, laid := [("unicode/utf8.acceptRanges", laid_unicode_utf8_acceptRanges), ("unicode/utf8.first", laid_unicode_utf8_first)], narrowed := true }
def FnExactFilesIndexUptoSaid : Prop := fnExactFilesIndexUptoRow.holds Tryd.pinned (OpenSpec.upto fnExactFilesIndexSpec)

/-- 'laws.FnExactClashesIn', WHERE WHAT IT READS IS OF BULK AT MOST 1048576: true; the input reads as it did. -/
def fnExactClashesInUptoRow : OpenClaim := { program := "ytcapmfgamdiijaadoor", sum := "10364b1ffdeedf5f3a40c38014a1e96e49a20716b4f7d394720839607762395d", func := "loop.example/g00172/laws.FnExactClashesIn", spec := "fnExactClashesIn", inPlace := ["internal/bytealg.CountString", "internal/bytealg.IndexByteString", "internal/bytealg.IndexString", "internal/bytealg.abigen_runtime_cmpstring"], unfollowed := true, recurses := true, named := ["unicode/utf8.first", "unicode/utf8.acceptRanges", "internal/bytealg.MaxLen"], apart := false, laid := [("unicode/utf8.acceptRanges", laid_unicode_utf8_acceptRanges), ("unicode/utf8.first", laid_unicode_utf8_first)], narrowed := true }
def FnExactClashesInUptoSaid : Prop := fnExactClashesInUptoRow.holds Tryd.pinned (OpenSpec.upto fnExactClashesInSpec)

/-- 'laws.FnExactStageFiles', WHERE WHAT IT READS IS OF BULK AT MOST 1048576: true; the input reads as it did. -/
def fnExactStageFilesUptoRow : OpenClaim := { program := "ytcapmfgamdiijaadoor", sum := "10364b1ffdeedf5f3a40c38014a1e96e49a20716b4f7d394720839607762395d", func := "loop.example/g00172/laws.FnExactStageFiles", spec := "fnExactStageFiles", inPlace := ["internal/bytealg.CountString", "internal/bytealg.IndexByteString", "internal/bytealg.IndexString", "internal/bytealg.abigen_runtime_cmpstring"], unfollowed := true, recurses := true, named := ["unicode/utf8.first", "unicode/utf8.acceptRanges", "internal/bytealg.MaxLen"], apart := false, laid := [("unicode/utf8.acceptRanges", laid_unicode_utf8_acceptRanges), ("unicode/utf8.first", laid_unicode_utf8_first)], narrowed := true }
def FnExactStageFilesUptoSaid : Prop := fnExactStageFilesUptoRow.holds Tryd.pinned (OpenSpec.upto fnExactStageFilesSpec)

end Rows
end Go.Proofs.YtcapmfgamdiijaaDoor
