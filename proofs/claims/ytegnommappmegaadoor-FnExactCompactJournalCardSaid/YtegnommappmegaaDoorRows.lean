/-
  NARROWER THAN 'FOR EVERY INPUT', by the rows' own cells (each row's printed sentence says how): FnExactSealRecord: laid · FnExactCatalogueText: laid · FnExactReportsText: laid · FnExactTaskText: laid · FnExactRecoverJournal: laid · FnExactIsJournal: laid · FnExactCrashJournal: laid · FnExactSyncJournal: laid · FnExactAppendRecord: laid · FnExactJournalRecords: laid · FnExactCompactJournal: laid · FnExactBoundsIn: laid.
  DERIVED. THE GIVEN ROWS OF THIS SEAT. 12 by the template 'for every input the law returns true; each argument reads behind the call as it read before'; 0 by the template 'total and deterministic' (their statements: YtegnommappmegaaDoorTotals.lean).
  GIVEN WITH THE SEED: the statements are not yours to turn. If you find one false, say at which input.
  Laid BY PROGRAM, IN A SANDBOX (cutbox-rows.mjs): the forced cells as the released guide's own fill.sh prints them over the translation d54d61edee8cef7a… (all of the seat's roots in one cut). By AI agents, Wed Nov 11 2026. No macro, syntax, notation, axiom, sorry.
-/
import Derived.Test.YtegnommappmegaaDoorChecked
import GoSem.PinnedTables
import GoSem.Claim
import GoSem.ClaimJoined
import GoSem.ClaimMapViews
import Derived.JoinedTies
import Derived.KernelRfl
namespace Go.Proofs.YtegnommappmegaaDoor
/- THE CELL 'sum', in the pinned program and in every row, IS THE sha256 OF THE DUMP (.gsa) THAT YtegnommappmegaaDoorProg.lean LOADS. Nothing in Lean hashes anything: it is a label: what it is worth is what the hold of that sum in a sandbox is worth. -/
noncomputable def Tryd.pinned : Pinned := { name := "ytegnommappmegaadoor", sum := "d54d61edee8cef7a6cf981d2d0d930aa2ce1d0cb2193f2a6f20ffa69ce687a3a", checked := Tryd.checked }
namespace Rows
def none {H : Type} : Left H := { results := [], args := [] }

/- WHAT THE LISTED PACKAGE-LEVEL VARIABLES READ AS WHEN THE CALL BEGINS. Each datum BY PROGRAM (the guide's laid-datum.mjs) off the statement by which the dump's own 'gosem.cut.vars' lays the variable. In a bare row this is a premise. The card (YtegnommappmegaaDoorCards.lean) ties it to the program's text. -/
def laid_math_bits_deBruijn32tab {H : Type} : DataW H := .agg [.lit (.int .u8 0), .lit (.int .u8 1), .lit (.int .u8 28), .lit (.int .u8 2), .lit (.int .u8 29), .lit (.int .u8 14), .lit (.int .u8 24), .lit (.int .u8 3), .lit (.int .u8 30), .lit (.int .u8 22), .lit (.int .u8 20), .lit (.int .u8 15), .lit (.int .u8 25), .lit (.int .u8 17), .lit (.int .u8 4), .lit (.int .u8 8), .lit (.int .u8 31), .lit (.int .u8 27), .lit (.int .u8 13), .lit (.int .u8 23), .lit (.int .u8 21), .lit (.int .u8 19), .lit (.int .u8 16), .lit (.int .u8 7), .lit (.int .u8 26), .lit (.int .u8 12), .lit (.int .u8 18), .lit (.int .u8 6), .lit (.int .u8 11), .lit (.int .u8 5), .lit (.int .u8 10), .lit (.int .u8 9)]
def laid_math_bits_deBruijn64tab {H : Type} : DataW H := .agg [.lit (.int .u8 0), .lit (.int .u8 1), .lit (.int .u8 56), .lit (.int .u8 2), .lit (.int .u8 57), .lit (.int .u8 49), .lit (.int .u8 28), .lit (.int .u8 3), .lit (.int .u8 61), .lit (.int .u8 58), .lit (.int .u8 42), .lit (.int .u8 50), .lit (.int .u8 38), .lit (.int .u8 29), .lit (.int .u8 17), .lit (.int .u8 4), .lit (.int .u8 62), .lit (.int .u8 47), .lit (.int .u8 59), .lit (.int .u8 36), .lit (.int .u8 45), .lit (.int .u8 43), .lit (.int .u8 51), .lit (.int .u8 22), .lit (.int .u8 53), .lit (.int .u8 39), .lit (.int .u8 33), .lit (.int .u8 30), .lit (.int .u8 24), .lit (.int .u8 18), .lit (.int .u8 12), .lit (.int .u8 5), .lit (.int .u8 63), .lit (.int .u8 55), .lit (.int .u8 48), .lit (.int .u8 27), .lit (.int .u8 60), .lit (.int .u8 41), .lit (.int .u8 37), .lit (.int .u8 16), .lit (.int .u8 46), .lit (.int .u8 35), .lit (.int .u8 44), .lit (.int .u8 21), .lit (.int .u8 52), .lit (.int .u8 32), .lit (.int .u8 23), .lit (.int .u8 11), .lit (.int .u8 54), .lit (.int .u8 26), .lit (.int .u8 40), .lit (.int .u8 15), .lit (.int .u8 34), .lit (.int .u8 20), .lit (.int .u8 31), .lit (.int .u8 10), .lit (.int .u8 25), .lit (.int .u8 14), .lit (.int .u8 19), .lit (.int .u8 9), .lit (.int .u8 13), .lit (.int .u8 8), .lit (.int .u8 7), .lit (.int .u8 6)]
def laid_internal_strconv_uint64pow10 {H : Type} : DataW H := .agg [.lit (.int .u64 1), .lit (.int .u64 10), .lit (.int .u64 100), .lit (.int .u64 1000), .lit (.int .u64 10000), .lit (.int .u64 100000), .lit (.int .u64 1000000), .lit (.int .u64 10000000), .lit (.int .u64 100000000), .lit (.int .u64 1000000000), .lit (.int .u64 10000000000), .lit (.int .u64 100000000000), .lit (.int .u64 1000000000000), .lit (.int .u64 10000000000000), .lit (.int .u64 100000000000000), .lit (.int .u64 1000000000000000), .lit (.int .u64 10000000000000000), .lit (.int .u64 100000000000000000), .lit (.int .u64 1000000000000000000), .lit (.int .u64 10000000000000000000)]
def laid_unicode_utf8_acceptRanges {H : Type} : DataW H := .agg [.agg [.lit (.int .u8 128), .lit (.int .u8 191)], .agg [.lit (.int .u8 160), .lit (.int .u8 191)], .agg [.lit (.int .u8 128), .lit (.int .u8 159)], .agg [.lit (.int .u8 144), .lit (.int .u8 191)], .agg [.lit (.int .u8 128), .lit (.int .u8 143)], .agg [.lit (.int .u8 0), .lit (.int .u8 0)], .agg [.lit (.int .u8 0), .lit (.int .u8 0)], .agg [.lit (.int .u8 0), .lit (.int .u8 0)], .agg [.lit (.int .u8 0), .lit (.int .u8 0)], .agg [.lit (.int .u8 0), .lit (.int .u8 0)], .agg [.lit (.int .u8 0), .lit (.int .u8 0)], .agg [.lit (.int .u8 0), .lit (.int .u8 0)], .agg [.lit (.int .u8 0), .lit (.int .u8 0)], .agg [.lit (.int .u8 0), .lit (.int .u8 0)], .agg [.lit (.int .u8 0), .lit (.int .u8 0)], .agg [.lit (.int .u8 0), .lit (.int .u8 0)]]
def laid_strconv_ErrRange {H : Type} : DataW H := .iface "*errors.errorString" (.ptr (.agg [.lit (.string [118, 97, 108, 117, 101, 32, 111, 117, 116, 32, 111, 102, 32, 114, 97, 110, 103, 101])]))
def laid_strconv_ErrSyntax {H : Type} : DataW H := .iface "*errors.errorString" (.ptr (.agg [.lit (.string [105, 110, 118, 97, 108, 105, 100, 32, 115, 121, 110, 116, 97, 120])]))
/-- One of Go's own tables, pinned by name: the form's constant. -/
def laid_unicode_utf8_first : DataW Unit := Go.Pinned.utf8First

/-- 'laws.FnExactSealRecord': WHATEVER THE INPUT: true; the input reads as it did. -/
def fnExactSealRecordSpec : ChangeSpec := { name := "fnExactSealRecord", fn := fun _ => fun
  | [d1, d2] => { results := [.lit (.bool true)], args := [d1, d2] }
  | _ => none }
def fnExactSealRecordRow : OpenClaim := { program := "ytegnommappmegaadoor", sum := "d54d61edee8cef7a6cf981d2d0d930aa2ce1d0cb2193f2a6f20ffa69ce687a3a", func := "loop.example/g01004/laws.FnExactSealRecord", spec := "fnExactSealRecord", inPlace := ["internal/abi.NoEscape", "internal/bytealg.MakeNoZero"], recurses := true, named := ["internal/strconv.uint64pow10", "math/bits.deBruijn32tab", "math/bits.deBruijn64tab"], apart := false, laid := [("math/bits.deBruijn32tab", laid_math_bits_deBruijn32tab), ("math/bits.deBruijn64tab", laid_math_bits_deBruijn64tab), ("internal/strconv.uint64pow10", laid_internal_strconv_uint64pow10)] }
def FnExactSealRecordSaid : Prop := fnExactSealRecordRow.holds Tryd.pinned (OpenSpec.ofChange fnExactSealRecordSpec)

/-- ITS FALSE NEIGHBOUR: 'it returns false'. Refute it at one input. -/
def fnExactSealRecordWrong : ChangeSpec := { name := "fnExactSealRecord", fn := fun _ => fun
  | [d1, d2] => { results := [.lit (.bool false)], args := [d1, d2] }
  | _ => none }
def FnExactSealRecordWrongFalsely : Prop := fnExactSealRecordRow.holds Tryd.pinned (OpenSpec.ofChange fnExactSealRecordWrong)

/-- 'laws.FnExactCatalogueText': WHATEVER THE INPUT: true; the input reads as it did. -/
def fnExactCatalogueTextSpec : ChangeSpec := { name := "fnExactCatalogueText", fn := fun _ => fun
  | [d] => { results := [.lit (.bool true)], args := [d] }
  | _ => none }
def fnExactCatalogueTextRow : OpenClaim := { program := "ytegnommappmegaadoor", sum := "d54d61edee8cef7a6cf981d2d0d930aa2ce1d0cb2193f2a6f20ffa69ce687a3a", func := "loop.example/g01004/laws.FnExactCatalogueText", spec := "fnExactCatalogueText", inPlace := ["internal/abi.NoEscape", "internal/bytealg.MakeNoZero"], recurses := true, named := ["internal/strconv.uint64pow10", "math/bits.deBruijn32tab", "math/bits.deBruijn64tab"], apart := false, laid := [("math/bits.deBruijn32tab", laid_math_bits_deBruijn32tab), ("math/bits.deBruijn64tab", laid_math_bits_deBruijn64tab), ("internal/strconv.uint64pow10", laid_internal_strconv_uint64pow10)] }
def FnExactCatalogueTextSaid : Prop := fnExactCatalogueTextRow.holds Tryd.pinned (OpenSpec.ofChange fnExactCatalogueTextSpec)

/-- ITS FALSE NEIGHBOUR: 'it returns false'. Refute it at one input. -/
def fnExactCatalogueTextWrong : ChangeSpec := { name := "fnExactCatalogueText", fn := fun _ => fun
  | [d] => { results := [.lit (.bool false)], args := [d] }
  | _ => none }
def FnExactCatalogueTextWrongFalsely : Prop := fnExactCatalogueTextRow.holds Tryd.pinned (OpenSpec.ofChange fnExactCatalogueTextWrong)

/-- 'laws.FnExactReportsText': WHATEVER THE INPUT: true; the input reads as it did. -/
def fnExactReportsTextSpec : ChangeSpec := { name := "fnExactReportsText", fn := fun _ => fun
  | [d] => { results := [.lit (.bool true)], args := [d] }
  | _ => none }
def fnExactReportsTextRow : OpenClaim := { program := "ytegnommappmegaadoor", sum := "d54d61edee8cef7a6cf981d2d0d930aa2ce1d0cb2193f2a6f20ffa69ce687a3a", func := "loop.example/g01004/laws.FnExactReportsText", spec := "fnExactReportsText", inPlace := ["internal/abi.NoEscape", "internal/bytealg.MakeNoZero"], recurses := true, named := ["internal/strconv.uint64pow10", "math/bits.deBruijn32tab", "math/bits.deBruijn64tab"], apart := false, laid := [("math/bits.deBruijn32tab", laid_math_bits_deBruijn32tab), ("math/bits.deBruijn64tab", laid_math_bits_deBruijn64tab), ("internal/strconv.uint64pow10", laid_internal_strconv_uint64pow10)] }
def FnExactReportsTextSaid : Prop := fnExactReportsTextRow.holds Tryd.pinned (OpenSpec.ofChange fnExactReportsTextSpec)

/-- ITS FALSE NEIGHBOUR: 'it returns false'. Refute it at one input. -/
def fnExactReportsTextWrong : ChangeSpec := { name := "fnExactReportsText", fn := fun _ => fun
  | [d] => { results := [.lit (.bool false)], args := [d] }
  | _ => none }
def FnExactReportsTextWrongFalsely : Prop := fnExactReportsTextRow.holds Tryd.pinned (OpenSpec.ofChange fnExactReportsTextWrong)

/-- 'laws.FnExactTaskText': WHATEVER THE INPUT: true; the input reads as it did. -/
def fnExactTaskTextSpec : ChangeSpec := { name := "fnExactTaskText", fn := fun _ => fun
  | [d] => { results := [.lit (.bool true)], args := [d] }
  | _ => none }
def fnExactTaskTextRow : OpenClaim := { program := "ytegnommappmegaadoor", sum := "d54d61edee8cef7a6cf981d2d0d930aa2ce1d0cb2193f2a6f20ffa69ce687a3a", func := "loop.example/g01004/laws.FnExactTaskText", spec := "fnExactTaskText", inPlace := ["math.sqrt", "internal/abi.NoEscape", "internal/bytealg.MakeNoZero"], recurses := true, named := ["internal/strconv.uint64pow10", "math/bits.deBruijn32tab", "math/bits.deBruijn64tab"], apart := false, laid := [("math/bits.deBruijn32tab", laid_math_bits_deBruijn32tab), ("math/bits.deBruijn64tab", laid_math_bits_deBruijn64tab), ("internal/strconv.uint64pow10", laid_internal_strconv_uint64pow10)] }
def FnExactTaskTextSaid : Prop := fnExactTaskTextRow.holds Tryd.pinned (OpenSpec.ofChange fnExactTaskTextSpec)

/-- ITS FALSE NEIGHBOUR: 'it returns false'. Refute it at one input. -/
def fnExactTaskTextWrong : ChangeSpec := { name := "fnExactTaskText", fn := fun _ => fun
  | [d] => { results := [.lit (.bool false)], args := [d] }
  | _ => none }
def FnExactTaskTextWrongFalsely : Prop := fnExactTaskTextRow.holds Tryd.pinned (OpenSpec.ofChange fnExactTaskTextWrong)

/-- 'laws.FnExactRecoverJournal': WHATEVER THE INPUT: true; the input reads as it did. -/
def fnExactRecoverJournalSpec : ChangeSpec := { name := "fnExactRecoverJournal", fn := fun _ => fun
  | [d] => { results := [.lit (.bool true)], args := [d] }
  | _ => none }
def fnExactRecoverJournalRow : OpenClaim := { program := "ytegnommappmegaadoor", sum := "d54d61edee8cef7a6cf981d2d0d930aa2ce1d0cb2193f2a6f20ffa69ce687a3a", func := "loop.example/g01004/laws.FnExactRecoverJournal", spec := "fnExactRecoverJournal", inPlace := ["internal/bytealg.IndexByteString", "internal/bytealg.IndexString", "internal/bytealg.CountString", "internal/abi.NoEscape", "internal/bytealg.MakeNoZero"], recurses := true, named := ["internal/bytealg.MaxLen", "unicode/utf8.first", "unicode/utf8.acceptRanges", "strconv.ErrSyntax", "strconv.ErrRange", "internal/strconv.uint64pow10", "math/bits.deBruijn32tab", "math/bits.deBruijn64tab"], apart := false, laid := [("math/bits.deBruijn32tab", laid_math_bits_deBruijn32tab), ("math/bits.deBruijn64tab", laid_math_bits_deBruijn64tab), ("internal/strconv.uint64pow10", laid_internal_strconv_uint64pow10), ("unicode/utf8.acceptRanges", laid_unicode_utf8_acceptRanges), ("strconv.ErrRange", laid_strconv_ErrRange), ("strconv.ErrSyntax", laid_strconv_ErrSyntax), ("unicode/utf8.first", laid_unicode_utf8_first)] }
def FnExactRecoverJournalSaid : Prop := fnExactRecoverJournalRow.holds Tryd.pinned (OpenSpec.ofChange fnExactRecoverJournalSpec)

/-- ITS FALSE NEIGHBOUR: 'it returns false'. Refute it at one input. -/
def fnExactRecoverJournalWrong : ChangeSpec := { name := "fnExactRecoverJournal", fn := fun _ => fun
  | [d] => { results := [.lit (.bool false)], args := [d] }
  | _ => none }
def FnExactRecoverJournalWrongFalsely : Prop := fnExactRecoverJournalRow.holds Tryd.pinned (OpenSpec.ofChange fnExactRecoverJournalWrong)

/-- 'laws.FnExactIsJournal': WHATEVER THE INPUT: true; the input reads as it did. -/
def fnExactIsJournalSpec : ChangeSpec := { name := "fnExactIsJournal", fn := fun _ => fun
  | [d] => { results := [.lit (.bool true)], args := [d] }
  | _ => none }
def fnExactIsJournalRow : OpenClaim := { program := "ytegnommappmegaadoor", sum := "d54d61edee8cef7a6cf981d2d0d930aa2ce1d0cb2193f2a6f20ffa69ce687a3a", func := "loop.example/g01004/laws.FnExactIsJournal", spec := "fnExactIsJournal", inPlace := ["internal/bytealg.IndexByteString", "internal/bytealg.IndexString", "internal/bytealg.CountString", "internal/abi.NoEscape", "internal/bytealg.MakeNoZero"], recurses := true, named := ["internal/bytealg.MaxLen", "unicode/utf8.first", "unicode/utf8.acceptRanges", "strconv.ErrSyntax", "strconv.ErrRange", "internal/strconv.uint64pow10", "math/bits.deBruijn32tab", "math/bits.deBruijn64tab"], apart := false, laid := [("math/bits.deBruijn32tab", laid_math_bits_deBruijn32tab), ("math/bits.deBruijn64tab", laid_math_bits_deBruijn64tab), ("internal/strconv.uint64pow10", laid_internal_strconv_uint64pow10), ("unicode/utf8.acceptRanges", laid_unicode_utf8_acceptRanges), ("strconv.ErrRange", laid_strconv_ErrRange), ("strconv.ErrSyntax", laid_strconv_ErrSyntax), ("unicode/utf8.first", laid_unicode_utf8_first)] }
def FnExactIsJournalSaid : Prop := fnExactIsJournalRow.holds Tryd.pinned (OpenSpec.ofChange fnExactIsJournalSpec)

/-- ITS FALSE NEIGHBOUR: 'it returns false'. Refute it at one input. -/
def fnExactIsJournalWrong : ChangeSpec := { name := "fnExactIsJournal", fn := fun _ => fun
  | [d] => { results := [.lit (.bool false)], args := [d] }
  | _ => none }
def FnExactIsJournalWrongFalsely : Prop := fnExactIsJournalRow.holds Tryd.pinned (OpenSpec.ofChange fnExactIsJournalWrong)

/-- 'laws.FnExactCrashJournal': WHATEVER THE INPUT: true; the input reads as it did. -/
def fnExactCrashJournalSpec : ChangeSpec := { name := "fnExactCrashJournal", fn := fun _ => fun
  | [d1, d2, d3] => { results := [.lit (.bool true)], args := [d1, d2, d3] }
  | _ => none }
def fnExactCrashJournalRow : OpenClaim := { program := "ytegnommappmegaadoor", sum := "d54d61edee8cef7a6cf981d2d0d930aa2ce1d0cb2193f2a6f20ffa69ce687a3a", func := "loop.example/g01004/laws.FnExactCrashJournal", spec := "fnExactCrashJournal", inPlace := ["internal/bytealg.IndexByteString", "internal/bytealg.IndexString", "internal/bytealg.CountString", "internal/abi.NoEscape", "internal/bytealg.MakeNoZero"], recurses := true, named := ["internal/bytealg.MaxLen", "unicode/utf8.first", "unicode/utf8.acceptRanges", "strconv.ErrSyntax", "strconv.ErrRange", "internal/strconv.uint64pow10", "math/bits.deBruijn32tab", "math/bits.deBruijn64tab"], apart := false, laid := [("math/bits.deBruijn32tab", laid_math_bits_deBruijn32tab), ("math/bits.deBruijn64tab", laid_math_bits_deBruijn64tab), ("internal/strconv.uint64pow10", laid_internal_strconv_uint64pow10), ("unicode/utf8.acceptRanges", laid_unicode_utf8_acceptRanges), ("strconv.ErrRange", laid_strconv_ErrRange), ("strconv.ErrSyntax", laid_strconv_ErrSyntax), ("unicode/utf8.first", laid_unicode_utf8_first)] }
def FnExactCrashJournalSaid : Prop := fnExactCrashJournalRow.holds Tryd.pinned (OpenSpec.ofChange fnExactCrashJournalSpec)

/-- ITS FALSE NEIGHBOUR: 'it returns false'. Refute it at one input. -/
def fnExactCrashJournalWrong : ChangeSpec := { name := "fnExactCrashJournal", fn := fun _ => fun
  | [d1, d2, d3] => { results := [.lit (.bool false)], args := [d1, d2, d3] }
  | _ => none }
def FnExactCrashJournalWrongFalsely : Prop := fnExactCrashJournalRow.holds Tryd.pinned (OpenSpec.ofChange fnExactCrashJournalWrong)

/-- 'laws.FnExactSyncJournal': WHATEVER THE INPUT: true; the input reads as it did. -/
def fnExactSyncJournalSpec : ChangeSpec := { name := "fnExactSyncJournal", fn := fun _ => fun
  | [d] => { results := [.lit (.bool true)], args := [d] }
  | _ => none }
def fnExactSyncJournalRow : OpenClaim := { program := "ytegnommappmegaadoor", sum := "d54d61edee8cef7a6cf981d2d0d930aa2ce1d0cb2193f2a6f20ffa69ce687a3a", func := "loop.example/g01004/laws.FnExactSyncJournal", spec := "fnExactSyncJournal", inPlace := ["internal/bytealg.IndexByteString", "internal/bytealg.IndexString", "internal/bytealg.CountString", "internal/abi.NoEscape", "internal/bytealg.MakeNoZero"], recurses := true, named := ["internal/bytealg.MaxLen", "unicode/utf8.first", "unicode/utf8.acceptRanges", "strconv.ErrSyntax", "strconv.ErrRange", "internal/strconv.uint64pow10", "math/bits.deBruijn32tab", "math/bits.deBruijn64tab"], apart := false, laid := [("math/bits.deBruijn32tab", laid_math_bits_deBruijn32tab), ("math/bits.deBruijn64tab", laid_math_bits_deBruijn64tab), ("internal/strconv.uint64pow10", laid_internal_strconv_uint64pow10), ("unicode/utf8.acceptRanges", laid_unicode_utf8_acceptRanges), ("strconv.ErrRange", laid_strconv_ErrRange), ("strconv.ErrSyntax", laid_strconv_ErrSyntax), ("unicode/utf8.first", laid_unicode_utf8_first)] }
def FnExactSyncJournalSaid : Prop := fnExactSyncJournalRow.holds Tryd.pinned (OpenSpec.ofChange fnExactSyncJournalSpec)

/-- ITS FALSE NEIGHBOUR: 'it returns false'. Refute it at one input. -/
def fnExactSyncJournalWrong : ChangeSpec := { name := "fnExactSyncJournal", fn := fun _ => fun
  | [d] => { results := [.lit (.bool false)], args := [d] }
  | _ => none }
def FnExactSyncJournalWrongFalsely : Prop := fnExactSyncJournalRow.holds Tryd.pinned (OpenSpec.ofChange fnExactSyncJournalWrong)

/-- 'laws.FnExactAppendRecord': WHATEVER THE INPUT: true; the input reads as it did. -/
def fnExactAppendRecordSpec : ChangeSpec := { name := "fnExactAppendRecord", fn := fun _ => fun
  | [d1, d2] => { results := [.lit (.bool true)], args := [d1, d2] }
  | _ => none }
def fnExactAppendRecordRow : OpenClaim := { program := "ytegnommappmegaadoor", sum := "d54d61edee8cef7a6cf981d2d0d930aa2ce1d0cb2193f2a6f20ffa69ce687a3a", func := "loop.example/g01004/laws.FnExactAppendRecord", spec := "fnExactAppendRecord", inPlace := ["internal/bytealg.IndexByteString", "internal/bytealg.IndexString", "internal/bytealg.CountString", "internal/abi.NoEscape", "internal/bytealg.MakeNoZero"], recurses := true, named := ["internal/bytealg.MaxLen", "unicode/utf8.first", "unicode/utf8.acceptRanges", "strconv.ErrSyntax", "strconv.ErrRange", "internal/strconv.uint64pow10", "math/bits.deBruijn32tab", "math/bits.deBruijn64tab"], apart := false, laid := [("math/bits.deBruijn32tab", laid_math_bits_deBruijn32tab), ("math/bits.deBruijn64tab", laid_math_bits_deBruijn64tab), ("internal/strconv.uint64pow10", laid_internal_strconv_uint64pow10), ("unicode/utf8.acceptRanges", laid_unicode_utf8_acceptRanges), ("strconv.ErrRange", laid_strconv_ErrRange), ("strconv.ErrSyntax", laid_strconv_ErrSyntax), ("unicode/utf8.first", laid_unicode_utf8_first)] }
def FnExactAppendRecordSaid : Prop := fnExactAppendRecordRow.holds Tryd.pinned (OpenSpec.ofChange fnExactAppendRecordSpec)

/-- ITS FALSE NEIGHBOUR: 'it returns false'. Refute it at one input. -/
def fnExactAppendRecordWrong : ChangeSpec := { name := "fnExactAppendRecord", fn := fun _ => fun
  | [d1, d2] => { results := [.lit (.bool false)], args := [d1, d2] }
  | _ => none }
def FnExactAppendRecordWrongFalsely : Prop := fnExactAppendRecordRow.holds Tryd.pinned (OpenSpec.ofChange fnExactAppendRecordWrong)

/-- 'laws.FnExactJournalRecords': WHATEVER THE INPUT: true; the input reads as it did. -/
def fnExactJournalRecordsSpec : ChangeSpec := { name := "fnExactJournalRecords", fn := fun _ => fun
  | [d] => { results := [.lit (.bool true)], args := [d] }
  | _ => none }
def fnExactJournalRecordsRow : OpenClaim := { program := "ytegnommappmegaadoor", sum := "d54d61edee8cef7a6cf981d2d0d930aa2ce1d0cb2193f2a6f20ffa69ce687a3a", func := "loop.example/g01004/laws.FnExactJournalRecords", spec := "fnExactJournalRecords", inPlace := ["internal/bytealg.IndexByteString", "internal/bytealg.IndexString", "internal/bytealg.CountString", "internal/abi.NoEscape", "internal/bytealg.MakeNoZero"], recurses := true, named := ["internal/bytealg.MaxLen", "unicode/utf8.first", "unicode/utf8.acceptRanges", "strconv.ErrSyntax", "strconv.ErrRange", "internal/strconv.uint64pow10", "math/bits.deBruijn32tab", "math/bits.deBruijn64tab"], apart := false, laid := [("math/bits.deBruijn32tab", laid_math_bits_deBruijn32tab), ("math/bits.deBruijn64tab", laid_math_bits_deBruijn64tab), ("internal/strconv.uint64pow10", laid_internal_strconv_uint64pow10), ("unicode/utf8.acceptRanges", laid_unicode_utf8_acceptRanges), ("strconv.ErrRange", laid_strconv_ErrRange), ("strconv.ErrSyntax", laid_strconv_ErrSyntax), ("unicode/utf8.first", laid_unicode_utf8_first)] }
def FnExactJournalRecordsSaid : Prop := fnExactJournalRecordsRow.holds Tryd.pinned (OpenSpec.ofChange fnExactJournalRecordsSpec)

/-- ITS FALSE NEIGHBOUR: 'it returns false'. Refute it at one input. -/
def fnExactJournalRecordsWrong : ChangeSpec := { name := "fnExactJournalRecords", fn := fun _ => fun
  | [d] => { results := [.lit (.bool false)], args := [d] }
  | _ => none }
def FnExactJournalRecordsWrongFalsely : Prop := fnExactJournalRecordsRow.holds Tryd.pinned (OpenSpec.ofChange fnExactJournalRecordsWrong)

/-- 'laws.FnExactCompactJournal': WHATEVER THE INPUT: true; the input reads as it did. -/
def fnExactCompactJournalSpec : ChangeSpec := { name := "fnExactCompactJournal", fn := fun _ => fun
  | [d] => { results := [.lit (.bool true)], args := [d] }
  | _ => none }
def fnExactCompactJournalRow : OpenClaim := { program := "ytegnommappmegaadoor", sum := "d54d61edee8cef7a6cf981d2d0d930aa2ce1d0cb2193f2a6f20ffa69ce687a3a", func := "loop.example/g01004/laws.FnExactCompactJournal", spec := "fnExactCompactJournal", inPlace := ["internal/bytealg.IndexByteString", "internal/bytealg.IndexString", "internal/bytealg.CountString", "internal/abi.NoEscape", "internal/bytealg.MakeNoZero"], unfollowed := true, recurses := true, named := ["internal/bytealg.MaxLen", "unicode/utf8.first", "unicode/utf8.acceptRanges", "strconv.ErrSyntax", "strconv.ErrRange", "internal/strconv.uint64pow10", "math/bits.deBruijn32tab", "math/bits.deBruijn64tab"], apart := false, laid := [("math/bits.deBruijn32tab", laid_math_bits_deBruijn32tab), ("math/bits.deBruijn64tab", laid_math_bits_deBruijn64tab), ("internal/strconv.uint64pow10", laid_internal_strconv_uint64pow10), ("unicode/utf8.acceptRanges", laid_unicode_utf8_acceptRanges), ("strconv.ErrRange", laid_strconv_ErrRange), ("strconv.ErrSyntax", laid_strconv_ErrSyntax), ("unicode/utf8.first", laid_unicode_utf8_first)] }
def FnExactCompactJournalSaid : Prop := fnExactCompactJournalRow.holds Tryd.pinned (OpenSpec.ofChange fnExactCompactJournalSpec)

/-- ITS FALSE NEIGHBOUR: 'it returns false'. Refute it at one input. -/
def fnExactCompactJournalWrong : ChangeSpec := { name := "fnExactCompactJournal", fn := fun _ => fun
  | [d] => { results := [.lit (.bool false)], args := [d] }
  | _ => none }
def FnExactCompactJournalWrongFalsely : Prop := fnExactCompactJournalRow.holds Tryd.pinned (OpenSpec.ofChange fnExactCompactJournalWrong)

/-- 'laws.FnExactBoundsIn': WHATEVER THE INPUT: true; the input reads as it did. -/
def fnExactBoundsInSpec : ChangeSpec := { name := "fnExactBoundsIn", fn := fun _ => fun
  | [d1, d2] => { results := [.lit (.bool true)], args := [d1, d2] }
  | _ => none }
def fnExactBoundsInRow : OpenClaim := { program := "ytegnommappmegaadoor", sum := "d54d61edee8cef7a6cf981d2d0d930aa2ce1d0cb2193f2a6f20ffa69ce687a3a", func := "loop.example/g01004/laws.FnExactBoundsIn", spec := "fnExactBoundsIn", inPlace := ["internal/bytealg.IndexByteString", "internal/bytealg.IndexString", "internal/bytealg.CountString", "internal/abi.NoEscape", "internal/bytealg.MakeNoZero"], recurses := true, named := ["internal/bytealg.MaxLen", "unicode/utf8.first", "unicode/utf8.acceptRanges", "strconv.ErrSyntax", "strconv.ErrRange", "internal/strconv.uint64pow10", "math/bits.deBruijn32tab", "math/bits.deBruijn64tab"], apart := false, laid := [("math/bits.deBruijn32tab", laid_math_bits_deBruijn32tab), ("math/bits.deBruijn64tab", laid_math_bits_deBruijn64tab), ("internal/strconv.uint64pow10", laid_internal_strconv_uint64pow10), ("unicode/utf8.acceptRanges", laid_unicode_utf8_acceptRanges), ("strconv.ErrRange", laid_strconv_ErrRange), ("strconv.ErrSyntax", laid_strconv_ErrSyntax), ("unicode/utf8.first", laid_unicode_utf8_first)] }
def FnExactBoundsInSaid : Prop := fnExactBoundsInRow.holds Tryd.pinned (OpenSpec.ofChange fnExactBoundsInSpec)

/-- ITS FALSE NEIGHBOUR: 'it returns false'. Refute it at one input. -/
def fnExactBoundsInWrong : ChangeSpec := { name := "fnExactBoundsIn", fn := fun _ => fun
  | [d1, d2] => { results := [.lit (.bool false)], args := [d1, d2] }
  | _ => none }
def FnExactBoundsInWrongFalsely : Prop := fnExactBoundsInRow.holds Tryd.pinned (OpenSpec.ofChange fnExactBoundsInWrong)

/- THE SECOND FORM. 'bulk': how many values and letters a reading holds, each counted each time it is reached (what is shared counts as often as it is met; a slice's spare places count too). A statement '..UptoSaid' is the law's where the arguments, and the package variables that the reading takes, are together of bulk at most 1048576: NARROWER than '..Said'. Prove '..Said' where nothing that the law and all that it calls make is longer than what came in: it says more and counts as full. Else prove '..UptoSaid'. A law counts once. -/
mutual
def uptoBulk {H : Type} : DataW H → Nat
  | .lit (.string bytes) => bytes.length + 1
  | .lit _ => 1
  | .nil => 1
  | .ptr d => uptoBulk d + 1
  | .slice elems spare => uptoBulkAll elems + uptoBulkAll spare + 1
  | .agg parts => uptoBulkAll parts + 1
  | .iface _ d => uptoBulk d + 1
  | .map entries => uptoBulkEntries entries + 1
  | .held _ => 1
def uptoBulkAll {H : Type} : List (DataW H) → Nat
  | [] => 0
  | d :: r => uptoBulk d + uptoBulkAll r
def uptoBulkEntries {H : Type} : List (Lit × DataW H) → Nat
  | [] => 0
  | x :: r => uptoBulkEntry x + uptoBulkEntries r
def uptoBulkEntry {H : Type} : Lit × DataW H → Nat
  | (.string bytes, d) => bytes.length + uptoBulk d + 1
  | (_, d) => uptoBulk d + 1
 end
def uptoSmall : (H : Type) → List (DataW H) → Bool := fun _ ds => decide (uptoBulkAll ds ≤ 1048576)
def OpenSpec.upto (s : _root_.Go.ChangeSpec) : _root_.Go.OpenSpec := { _root_.Go.OpenSpec.ofChange s with cond := some uptoSmall }

/-- 'laws.FnExactSealRecord', WHERE WHAT IT READS IS OF BULK AT MOST 1048576: true; the input reads as it did. -/
def fnExactSealRecordUptoRow : OpenClaim := { program := "ytegnommappmegaadoor", sum := "d54d61edee8cef7a6cf981d2d0d930aa2ce1d0cb2193f2a6f20ffa69ce687a3a", func := "loop.example/g01004/laws.FnExactSealRecord", spec := "fnExactSealRecord", inPlace := ["internal/abi.NoEscape", "internal/bytealg.MakeNoZero"], recurses := true, named := ["internal/strconv.uint64pow10", "math/bits.deBruijn32tab", "math/bits.deBruijn64tab"], apart := false, laid := [("math/bits.deBruijn32tab", laid_math_bits_deBruijn32tab), ("math/bits.deBruijn64tab", laid_math_bits_deBruijn64tab), ("internal/strconv.uint64pow10", laid_internal_strconv_uint64pow10)], narrowed := true }
def FnExactSealRecordUptoSaid : Prop := fnExactSealRecordUptoRow.holds Tryd.pinned (OpenSpec.upto fnExactSealRecordSpec)

/-- 'laws.FnExactCatalogueText', WHERE WHAT IT READS IS OF BULK AT MOST 1048576: true; the input reads as it did. -/
def fnExactCatalogueTextUptoRow : OpenClaim := { program := "ytegnommappmegaadoor", sum := "d54d61edee8cef7a6cf981d2d0d930aa2ce1d0cb2193f2a6f20ffa69ce687a3a", func := "loop.example/g01004/laws.FnExactCatalogueText", spec := "fnExactCatalogueText", inPlace := ["internal/abi.NoEscape", "internal/bytealg.MakeNoZero"], recurses := true, named := ["internal/strconv.uint64pow10", "math/bits.deBruijn32tab", "math/bits.deBruijn64tab"], apart := false, laid := [("math/bits.deBruijn32tab", laid_math_bits_deBruijn32tab), ("math/bits.deBruijn64tab", laid_math_bits_deBruijn64tab), ("internal/strconv.uint64pow10", laid_internal_strconv_uint64pow10)], narrowed := true }
def FnExactCatalogueTextUptoSaid : Prop := fnExactCatalogueTextUptoRow.holds Tryd.pinned (OpenSpec.upto fnExactCatalogueTextSpec)

/-- 'laws.FnExactReportsText', WHERE WHAT IT READS IS OF BULK AT MOST 1048576: true; the input reads as it did. -/
def fnExactReportsTextUptoRow : OpenClaim := { program := "ytegnommappmegaadoor", sum := "d54d61edee8cef7a6cf981d2d0d930aa2ce1d0cb2193f2a6f20ffa69ce687a3a", func := "loop.example/g01004/laws.FnExactReportsText", spec := "fnExactReportsText", inPlace := ["internal/abi.NoEscape", "internal/bytealg.MakeNoZero"], recurses := true, named := ["internal/strconv.uint64pow10", "math/bits.deBruijn32tab", "math/bits.deBruijn64tab"], apart := false, laid := [("math/bits.deBruijn32tab", laid_math_bits_deBruijn32tab), ("math/bits.deBruijn64tab", laid_math_bits_deBruijn64tab), ("internal/strconv.uint64pow10", laid_internal_strconv_uint64pow10)], narrowed := true }
def FnExactReportsTextUptoSaid : Prop := fnExactReportsTextUptoRow.holds Tryd.pinned (OpenSpec.upto fnExactReportsTextSpec)

/-- 'laws.FnExactTaskText', WHERE WHAT IT READS IS OF BULK AT MOST 1048576: true; the input reads as it did. -/
def fnExactTaskTextUptoRow : OpenClaim := { program := "ytegnommappmegaadoor", sum := "d54d61edee8cef7a6cf981d2d0d930aa2ce1d0cb2193f2a6f20ffa69ce687a3a", func := "loop.example/g01004/laws.FnExactTaskText", spec := "fnExactTaskText", inPlace := ["math.sqrt", "internal/abi.NoEscape", "internal/bytealg.MakeNoZero"], recurses := true, named := ["internal/strconv.uint64pow10", "math/bits.deBruijn32tab", "math/bits.deBruijn64tab"], apart := false, laid := [("math/bits.deBruijn32tab", laid_math_bits_deBruijn32tab), ("math/bits.deBruijn64tab", laid_math_bits_deBruijn64tab), ("internal/strconv.uint64pow10", laid_internal_strconv_uint64pow10)], narrowed := true }
def FnExactTaskTextUptoSaid : Prop := fnExactTaskTextUptoRow.holds Tryd.pinned (OpenSpec.upto fnExactTaskTextSpec)

/-- 'laws.FnExactRecoverJournal', WHERE WHAT IT READS IS OF BULK AT MOST 1048576: true; the input reads as it did. -/
def fnExactRecoverJournalUptoRow : OpenClaim := { program := "ytegnommappmegaadoor", sum := "d54d61edee8cef7a6cf981d2d0d930aa2ce1d0cb2193f2a6f20ffa69ce687a3a", func := "loop.example/g01004/laws.FnExactRecoverJournal", spec := "fnExactRecoverJournal", inPlace := ["internal/bytealg.IndexByteString", "internal/bytealg.IndexString", "internal/bytealg.CountString", "internal/abi.NoEscape", "internal/bytealg.MakeNoZero"], recurses := true, named := ["internal/bytealg.MaxLen", "unicode/utf8.first", "unicode/utf8.acceptRanges", "strconv.ErrSyntax", "strconv.ErrRange", "internal/strconv.uint64pow10", "math/bits.deBruijn32tab", "math/bits.deBruijn64tab"], apart := false, laid := [("math/bits.deBruijn32tab", laid_math_bits_deBruijn32tab), ("math/bits.deBruijn64tab", laid_math_bits_deBruijn64tab), ("internal/strconv.uint64pow10", laid_internal_strconv_uint64pow10), ("unicode/utf8.acceptRanges", laid_unicode_utf8_acceptRanges), ("strconv.ErrRange", laid_strconv_ErrRange), ("strconv.ErrSyntax", laid_strconv_ErrSyntax), ("unicode/utf8.first", laid_unicode_utf8_first)], narrowed := true }
def FnExactRecoverJournalUptoSaid : Prop := fnExactRecoverJournalUptoRow.holds Tryd.pinned (OpenSpec.upto fnExactRecoverJournalSpec)

/-- 'laws.FnExactIsJournal', WHERE WHAT IT READS IS OF BULK AT MOST 1048576: true; the input reads as it did. -/
def fnExactIsJournalUptoRow : OpenClaim := { program := "ytegnommappmegaadoor", sum := "d54d61edee8cef7a6cf981d2d0d930aa2ce1d0cb2193f2a6f20ffa69ce687a3a", func := "loop.example/g01004/laws.FnExactIsJournal", spec := "fnExactIsJournal", inPlace := ["internal/bytealg.IndexByteString", "internal/bytealg.IndexString", "internal/bytealg.CountString", "internal/abi.NoEscape", "internal/bytealg.MakeNoZero"], recurses := true, named := ["internal/bytealg.MaxLen", "unicode/utf8.first", "unicode/utf8.acceptRanges", "strconv.ErrSyntax", "strconv.ErrRange", "internal/strconv.uint64pow10", "math/bits.deBruijn32tab", "math/bits.deBruijn64tab"], apart := false, laid := [("math/bits.deBruijn32tab", laid_math_bits_deBruijn32tab), ("math/bits.deBruijn64tab", laid_math_bits_deBruijn64tab), ("internal/strconv.uint64pow10", laid_internal_strconv_uint64pow10), ("unicode/utf8.acceptRanges", laid_unicode_utf8_acceptRanges), ("strconv.ErrRange", laid_strconv_ErrRange), ("strconv.ErrSyntax", laid_strconv_ErrSyntax), ("unicode/utf8.first", laid_unicode_utf8_first)], narrowed := true }
def FnExactIsJournalUptoSaid : Prop := fnExactIsJournalUptoRow.holds Tryd.pinned (OpenSpec.upto fnExactIsJournalSpec)

/-- 'laws.FnExactCrashJournal', WHERE WHAT IT READS IS OF BULK AT MOST 1048576: true; the input reads as it did. -/
def fnExactCrashJournalUptoRow : OpenClaim := { program := "ytegnommappmegaadoor", sum := "d54d61edee8cef7a6cf981d2d0d930aa2ce1d0cb2193f2a6f20ffa69ce687a3a", func := "loop.example/g01004/laws.FnExactCrashJournal", spec := "fnExactCrashJournal", inPlace := ["internal/bytealg.IndexByteString", "internal/bytealg.IndexString", "internal/bytealg.CountString", "internal/abi.NoEscape", "internal/bytealg.MakeNoZero"], recurses := true, named := ["internal/bytealg.MaxLen", "unicode/utf8.first", "unicode/utf8.acceptRanges", "strconv.ErrSyntax", "strconv.ErrRange", "internal/strconv.uint64pow10", "math/bits.deBruijn32tab", "math/bits.deBruijn64tab"], apart := false, laid := [("math/bits.deBruijn32tab", laid_math_bits_deBruijn32tab), ("math/bits.deBruijn64tab", laid_math_bits_deBruijn64tab), ("internal/strconv.uint64pow10", laid_internal_strconv_uint64pow10), ("unicode/utf8.acceptRanges", laid_unicode_utf8_acceptRanges), ("strconv.ErrRange", laid_strconv_ErrRange), ("strconv.ErrSyntax", laid_strconv_ErrSyntax), ("unicode/utf8.first", laid_unicode_utf8_first)], narrowed := true }
def FnExactCrashJournalUptoSaid : Prop := fnExactCrashJournalUptoRow.holds Tryd.pinned (OpenSpec.upto fnExactCrashJournalSpec)

/-- 'laws.FnExactSyncJournal', WHERE WHAT IT READS IS OF BULK AT MOST 1048576: true; the input reads as it did. -/
def fnExactSyncJournalUptoRow : OpenClaim := { program := "ytegnommappmegaadoor", sum := "d54d61edee8cef7a6cf981d2d0d930aa2ce1d0cb2193f2a6f20ffa69ce687a3a", func := "loop.example/g01004/laws.FnExactSyncJournal", spec := "fnExactSyncJournal", inPlace := ["internal/bytealg.IndexByteString", "internal/bytealg.IndexString", "internal/bytealg.CountString", "internal/abi.NoEscape", "internal/bytealg.MakeNoZero"], recurses := true, named := ["internal/bytealg.MaxLen", "unicode/utf8.first", "unicode/utf8.acceptRanges", "strconv.ErrSyntax", "strconv.ErrRange", "internal/strconv.uint64pow10", "math/bits.deBruijn32tab", "math/bits.deBruijn64tab"], apart := false, laid := [("math/bits.deBruijn32tab", laid_math_bits_deBruijn32tab), ("math/bits.deBruijn64tab", laid_math_bits_deBruijn64tab), ("internal/strconv.uint64pow10", laid_internal_strconv_uint64pow10), ("unicode/utf8.acceptRanges", laid_unicode_utf8_acceptRanges), ("strconv.ErrRange", laid_strconv_ErrRange), ("strconv.ErrSyntax", laid_strconv_ErrSyntax), ("unicode/utf8.first", laid_unicode_utf8_first)], narrowed := true }
def FnExactSyncJournalUptoSaid : Prop := fnExactSyncJournalUptoRow.holds Tryd.pinned (OpenSpec.upto fnExactSyncJournalSpec)

/-- 'laws.FnExactAppendRecord', WHERE WHAT IT READS IS OF BULK AT MOST 1048576: true; the input reads as it did. -/
def fnExactAppendRecordUptoRow : OpenClaim := { program := "ytegnommappmegaadoor", sum := "d54d61edee8cef7a6cf981d2d0d930aa2ce1d0cb2193f2a6f20ffa69ce687a3a", func := "loop.example/g01004/laws.FnExactAppendRecord", spec := "fnExactAppendRecord", inPlace := ["internal/bytealg.IndexByteString", "internal/bytealg.IndexString", "internal/bytealg.CountString", "internal/abi.NoEscape", "internal/bytealg.MakeNoZero"], recurses := true, named := ["internal/bytealg.MaxLen", "unicode/utf8.first", "unicode/utf8.acceptRanges", "strconv.ErrSyntax", "strconv.ErrRange", "internal/strconv.uint64pow10", "math/bits.deBruijn32tab", "math/bits.deBruijn64tab"], apart := false, laid := [("math/bits.deBruijn32tab", laid_math_bits_deBruijn32tab), ("math/bits.deBruijn64tab", laid_math_bits_deBruijn64tab), ("internal/strconv.uint64pow10", laid_internal_strconv_uint64pow10), ("unicode/utf8.acceptRanges", laid_unicode_utf8_acceptRanges), ("strconv.ErrRange", laid_strconv_ErrRange), ("strconv.ErrSyntax", laid_strconv_ErrSyntax), ("unicode/utf8.first", laid_unicode_utf8_first)], narrowed := true }
def FnExactAppendRecordUptoSaid : Prop := fnExactAppendRecordUptoRow.holds Tryd.pinned (OpenSpec.upto fnExactAppendRecordSpec)

/-- 'laws.FnExactJournalRecords', WHERE WHAT IT READS IS OF BULK AT MOST 1048576: true; the input reads as it did. -/
def fnExactJournalRecordsUptoRow : OpenClaim := { program := "ytegnommappmegaadoor", sum := "d54d61edee8cef7a6cf981d2d0d930aa2ce1d0cb2193f2a6f20ffa69ce687a3a", func := "loop.example/g01004/laws.FnExactJournalRecords", spec := "fnExactJournalRecords", inPlace := ["internal/bytealg.IndexByteString", "internal/bytealg.IndexString", "internal/bytealg.CountString", "internal/abi.NoEscape", "internal/bytealg.MakeNoZero"], recurses := true, named := ["internal/bytealg.MaxLen", "unicode/utf8.first", "unicode/utf8.acceptRanges", "strconv.ErrSyntax", "strconv.ErrRange", "internal/strconv.uint64pow10", "math/bits.deBruijn32tab", "math/bits.deBruijn64tab"], apart := false, laid := [("math/bits.deBruijn32tab", laid_math_bits_deBruijn32tab), ("math/bits.deBruijn64tab", laid_math_bits_deBruijn64tab), ("internal/strconv.uint64pow10", laid_internal_strconv_uint64pow10), ("unicode/utf8.acceptRanges", laid_unicode_utf8_acceptRanges), ("strconv.ErrRange", laid_strconv_ErrRange), ("strconv.ErrSyntax", laid_strconv_ErrSyntax), ("unicode/utf8.first", laid_unicode_utf8_first)], narrowed := true }
def FnExactJournalRecordsUptoSaid : Prop := fnExactJournalRecordsUptoRow.holds Tryd.pinned (OpenSpec.upto fnExactJournalRecordsSpec)

/-- 'laws.FnExactCompactJournal', WHERE WHAT IT READS IS OF BULK AT MOST 1048576: true; the input reads as it did. -/
def fnExactCompactJournalUptoRow : OpenClaim := { program := "ytegnommappmegaadoor", sum := "d54d61edee8cef7a6cf981d2d0d930aa2ce1d0cb2193f2a6f20ffa69ce687a3a", func := "loop.example/g01004/laws.FnExactCompactJournal", spec := "fnExactCompactJournal", inPlace := ["internal/bytealg.IndexByteString", "internal/bytealg.IndexString", "internal/bytealg.CountString", "internal/abi.NoEscape", "internal/bytealg.MakeNoZero"], unfollowed := true, recurses := true, named := ["internal/bytealg.MaxLen", "unicode/utf8.first", "unicode/utf8.acceptRanges", "strconv.ErrSyntax", "strconv.ErrRange", "internal/strconv.uint64pow10", "math/bits.deBruijn32tab", "math/bits.deBruijn64tab"], apart := false, laid := [("math/bits.deBruijn32tab", laid_math_bits_deBruijn32tab), ("math/bits.deBruijn64tab", laid_math_bits_deBruijn64tab), ("internal/strconv.uint64pow10", laid_internal_strconv_uint64pow10), ("unicode/utf8.acceptRanges", laid_unicode_utf8_acceptRanges), ("strconv.ErrRange", laid_strconv_ErrRange), ("strconv.ErrSyntax", laid_strconv_ErrSyntax), ("unicode/utf8.first", laid_unicode_utf8_first)], narrowed := true }
def FnExactCompactJournalUptoSaid : Prop := fnExactCompactJournalUptoRow.holds Tryd.pinned (OpenSpec.upto fnExactCompactJournalSpec)

/-- 'laws.FnExactBoundsIn', WHERE WHAT IT READS IS OF BULK AT MOST 1048576: true; the input reads as it did. -/
def fnExactBoundsInUptoRow : OpenClaim := { program := "ytegnommappmegaadoor", sum := "d54d61edee8cef7a6cf981d2d0d930aa2ce1d0cb2193f2a6f20ffa69ce687a3a", func := "loop.example/g01004/laws.FnExactBoundsIn", spec := "fnExactBoundsIn", inPlace := ["internal/bytealg.IndexByteString", "internal/bytealg.IndexString", "internal/bytealg.CountString", "internal/abi.NoEscape", "internal/bytealg.MakeNoZero"], recurses := true, named := ["internal/bytealg.MaxLen", "unicode/utf8.first", "unicode/utf8.acceptRanges", "strconv.ErrSyntax", "strconv.ErrRange", "internal/strconv.uint64pow10", "math/bits.deBruijn32tab", "math/bits.deBruijn64tab"], apart := false, laid := [("math/bits.deBruijn32tab", laid_math_bits_deBruijn32tab), ("math/bits.deBruijn64tab", laid_math_bits_deBruijn64tab), ("internal/strconv.uint64pow10", laid_internal_strconv_uint64pow10), ("unicode/utf8.acceptRanges", laid_unicode_utf8_acceptRanges), ("strconv.ErrRange", laid_strconv_ErrRange), ("strconv.ErrSyntax", laid_strconv_ErrSyntax), ("unicode/utf8.first", laid_unicode_utf8_first)], narrowed := true }
def FnExactBoundsInUptoSaid : Prop := fnExactBoundsInUptoRow.holds Tryd.pinned (OpenSpec.upto fnExactBoundsInSpec)

end Rows
end Go.Proofs.YtegnommappmegaaDoor
