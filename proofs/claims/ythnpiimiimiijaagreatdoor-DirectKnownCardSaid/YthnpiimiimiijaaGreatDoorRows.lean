/-
  NARROWER THAN 'FOR EVERY INPUT', by the rows' own cells (each row's printed sentence says how): DirectNever: laid · DirectLater: laid · DirectSpends: laid · DirectCounts: laid · DirectApplies: laid · DirectAgain: laid · DirectChecks: laid · DirectParses: laid · DirectBack: laid · DirectKnown: laid.
  DERIVED. THE GIVEN ROWS OF THIS SEAT. 10 by the template 'for every input the law returns true; each argument reads behind the call as it read before'; 0 by the template 'total and deterministic' (their statements: YthnpiimiimiijaaGreatDoorTotals.lean).
  GIVEN WITH THE SEED: the statements are not yours to turn. If you find one false, say at which input.
  Laid BY PROGRAM, IN A SANDBOX (cutbox-rows.mjs): the forced cells as the released guide's own fill.sh prints them over the translation 1bbdd6bd92ddfc5c… (all of the seat's roots in one cut). By AI agents, Wed Nov 11 2026. No macro, syntax, notation, axiom, sorry.
-/
import Derived.Test.YthnpiimiimiijaaGreatDoorChecked
import GoSem.PinnedTables
import GoSem.Claim
import GoSem.ClaimJoined
import GoSem.ClaimMapViews
import Derived.JoinedTies
import Derived.KernelRfl
namespace Go.Proofs.YthnpiimiimiijaaGreatDoor
/- THE CELL 'sum', in the pinned program and in every row, IS THE sha256 OF THE DUMP (.gsa) THAT YthnpiimiimiijaaGreatDoorProg.lean LOADS. Nothing in Lean hashes anything: it is a label: what it is worth is what the hold of that sum in a sandbox is worth. -/
noncomputable def Tryz.pinned : Pinned := { name := "ythnpiimiimiijaagreatdoor", sum := "1bbdd6bd92ddfc5c708eee6135d15d0390b2f08ca749244f4f3d0ab2b77b4ace", checked := Tryz.checked }
namespace Rows
def none {H : Type} : Left H := { results := [], args := [] }

/- WHAT THE LISTED PACKAGE-LEVEL VARIABLES READ AS WHEN THE CALL BEGINS. Each datum BY PROGRAM (the guide's laid-datum.mjs) off the statement by which the dump's own 'gosem.cut.vars' lays the variable. In a bare row this is a premise. The card (YthnpiimiimiijaaGreatDoorCards.lean) ties it to the program's text. -/
def laid_math_bits_deBruijn32tab {H : Type} : DataW H := .agg [.lit (.int .u8 0), .lit (.int .u8 1), .lit (.int .u8 28), .lit (.int .u8 2), .lit (.int .u8 29), .lit (.int .u8 14), .lit (.int .u8 24), .lit (.int .u8 3), .lit (.int .u8 30), .lit (.int .u8 22), .lit (.int .u8 20), .lit (.int .u8 15), .lit (.int .u8 25), .lit (.int .u8 17), .lit (.int .u8 4), .lit (.int .u8 8), .lit (.int .u8 31), .lit (.int .u8 27), .lit (.int .u8 13), .lit (.int .u8 23), .lit (.int .u8 21), .lit (.int .u8 19), .lit (.int .u8 16), .lit (.int .u8 7), .lit (.int .u8 26), .lit (.int .u8 12), .lit (.int .u8 18), .lit (.int .u8 6), .lit (.int .u8 11), .lit (.int .u8 5), .lit (.int .u8 10), .lit (.int .u8 9)]
def laid_math_bits_deBruijn64tab {H : Type} : DataW H := .agg [.lit (.int .u8 0), .lit (.int .u8 1), .lit (.int .u8 56), .lit (.int .u8 2), .lit (.int .u8 57), .lit (.int .u8 49), .lit (.int .u8 28), .lit (.int .u8 3), .lit (.int .u8 61), .lit (.int .u8 58), .lit (.int .u8 42), .lit (.int .u8 50), .lit (.int .u8 38), .lit (.int .u8 29), .lit (.int .u8 17), .lit (.int .u8 4), .lit (.int .u8 62), .lit (.int .u8 47), .lit (.int .u8 59), .lit (.int .u8 36), .lit (.int .u8 45), .lit (.int .u8 43), .lit (.int .u8 51), .lit (.int .u8 22), .lit (.int .u8 53), .lit (.int .u8 39), .lit (.int .u8 33), .lit (.int .u8 30), .lit (.int .u8 24), .lit (.int .u8 18), .lit (.int .u8 12), .lit (.int .u8 5), .lit (.int .u8 63), .lit (.int .u8 55), .lit (.int .u8 48), .lit (.int .u8 27), .lit (.int .u8 60), .lit (.int .u8 41), .lit (.int .u8 37), .lit (.int .u8 16), .lit (.int .u8 46), .lit (.int .u8 35), .lit (.int .u8 44), .lit (.int .u8 21), .lit (.int .u8 52), .lit (.int .u8 32), .lit (.int .u8 23), .lit (.int .u8 11), .lit (.int .u8 54), .lit (.int .u8 26), .lit (.int .u8 40), .lit (.int .u8 15), .lit (.int .u8 34), .lit (.int .u8 20), .lit (.int .u8 31), .lit (.int .u8 10), .lit (.int .u8 25), .lit (.int .u8 14), .lit (.int .u8 19), .lit (.int .u8 9), .lit (.int .u8 13), .lit (.int .u8 8), .lit (.int .u8 7), .lit (.int .u8 6)]
def laid_internal_strconv_uint64pow10 {H : Type} : DataW H := .agg [.lit (.int .u64 1), .lit (.int .u64 10), .lit (.int .u64 100), .lit (.int .u64 1000), .lit (.int .u64 10000), .lit (.int .u64 100000), .lit (.int .u64 1000000), .lit (.int .u64 10000000), .lit (.int .u64 100000000), .lit (.int .u64 1000000000), .lit (.int .u64 10000000000), .lit (.int .u64 100000000000), .lit (.int .u64 1000000000000), .lit (.int .u64 10000000000000), .lit (.int .u64 100000000000000), .lit (.int .u64 1000000000000000), .lit (.int .u64 10000000000000000), .lit (.int .u64 100000000000000000), .lit (.int .u64 1000000000000000000), .lit (.int .u64 10000000000000000000)]
def laid_unicode_utf8_acceptRanges {H : Type} : DataW H := .agg [.agg [.lit (.int .u8 128), .lit (.int .u8 191)], .agg [.lit (.int .u8 160), .lit (.int .u8 191)], .agg [.lit (.int .u8 128), .lit (.int .u8 159)], .agg [.lit (.int .u8 144), .lit (.int .u8 191)], .agg [.lit (.int .u8 128), .lit (.int .u8 143)], .agg [.lit (.int .u8 0), .lit (.int .u8 0)], .agg [.lit (.int .u8 0), .lit (.int .u8 0)], .agg [.lit (.int .u8 0), .lit (.int .u8 0)], .agg [.lit (.int .u8 0), .lit (.int .u8 0)], .agg [.lit (.int .u8 0), .lit (.int .u8 0)], .agg [.lit (.int .u8 0), .lit (.int .u8 0)], .agg [.lit (.int .u8 0), .lit (.int .u8 0)], .agg [.lit (.int .u8 0), .lit (.int .u8 0)], .agg [.lit (.int .u8 0), .lit (.int .u8 0)], .agg [.lit (.int .u8 0), .lit (.int .u8 0)], .agg [.lit (.int .u8 0), .lit (.int .u8 0)]]
def laid_strconv_ErrRange {H : Type} : DataW H := .iface "*errors.errorString" (.ptr (.agg [.lit (.string [118, 97, 108, 117, 101, 32, 111, 117, 116, 32, 111, 102, 32, 114, 97, 110, 103, 101])]))
def laid_strconv_ErrSyntax {H : Type} : DataW H := .iface "*errors.errorString" (.ptr (.agg [.lit (.string [105, 110, 118, 97, 108, 105, 100, 32, 115, 121, 110, 116, 97, 120])]))
/-- One of Go's own tables, pinned by name: the form's constant. -/
def laid_unicode_utf8_first : DataW Unit := Go.Pinned.utf8First

/-- 'causewaylaw21.DirectNever': WHATEVER THE INPUT: true; the input reads as it did. -/
def directNeverSpec : ChangeSpec := { name := "directNever", fn := fun _ => fun
  | [d] => { results := [.lit (.bool true)], args := [d] }
  | _ => none }
def directNeverRow : OpenClaim := { program := "ythnpiimiimiijaagreatdoor", sum := "1bbdd6bd92ddfc5c708eee6135d15d0390b2f08ca749244f4f3d0ab2b77b4ace", func := "causeway/causewaylaw21.DirectNever", spec := "directNever", inPlace := ["internal/bytealg.Compare", "slices.overlaps[causeway/api.Key]", "slices.overlaps[causeway/api.Device]", "internal/bytealg.IndexByteString", "internal/bytealg.IndexString"], unfollowed := true, recurses := true, named := ["unicode/utf8.first", "unicode/utf8.acceptRanges", "internal/bytealg.MaxLen", "strconv.ErrSyntax", "strconv.ErrRange", "internal/strconv.uint64pow10", "math/bits.deBruijn32tab", "math/bits.deBruijn64tab"], apart := false, laid := [("math/bits.deBruijn32tab", laid_math_bits_deBruijn32tab), ("math/bits.deBruijn64tab", laid_math_bits_deBruijn64tab), ("internal/strconv.uint64pow10", laid_internal_strconv_uint64pow10), ("unicode/utf8.acceptRanges", laid_unicode_utf8_acceptRanges), ("strconv.ErrRange", laid_strconv_ErrRange), ("strconv.ErrSyntax", laid_strconv_ErrSyntax), ("unicode/utf8.first", laid_unicode_utf8_first)] }
def DirectNeverSaid : Prop := directNeverRow.holds Tryz.pinned (OpenSpec.ofChange directNeverSpec)

/-- ITS FALSE NEIGHBOUR: 'it returns false'. Refute it at one input. -/
def directNeverWrong : ChangeSpec := { name := "directNever", fn := fun _ => fun
  | [d] => { results := [.lit (.bool false)], args := [d] }
  | _ => none }
def DirectNeverWrongFalsely : Prop := directNeverRow.holds Tryz.pinned (OpenSpec.ofChange directNeverWrong)

/-- 'causewaylaw21.DirectLater': WHATEVER THE INPUT: true; the input reads as it did. -/
def directLaterSpec : ChangeSpec := { name := "directLater", fn := fun _ => fun
  | [d1, d2, d3] => { results := [.lit (.bool true)], args := [d1, d2, d3] }
  | _ => none }
def directLaterRow : OpenClaim := { program := "ythnpiimiimiijaagreatdoor", sum := "1bbdd6bd92ddfc5c708eee6135d15d0390b2f08ca749244f4f3d0ab2b77b4ace", func := "causeway/causewaylaw21.DirectLater", spec := "directLater", inPlace := ["internal/bytealg.Compare", "slices.overlaps[causeway/api.Key]", "slices.overlaps[causeway/api.Device]", "internal/bytealg.IndexByteString", "internal/bytealg.IndexString"], unfollowed := true, recurses := true, named := ["unicode/utf8.first", "unicode/utf8.acceptRanges", "internal/bytealg.MaxLen", "strconv.ErrSyntax", "strconv.ErrRange", "internal/strconv.uint64pow10", "math/bits.deBruijn32tab", "math/bits.deBruijn64tab"], apart := false, laid := [("math/bits.deBruijn32tab", laid_math_bits_deBruijn32tab), ("math/bits.deBruijn64tab", laid_math_bits_deBruijn64tab), ("internal/strconv.uint64pow10", laid_internal_strconv_uint64pow10), ("unicode/utf8.acceptRanges", laid_unicode_utf8_acceptRanges), ("strconv.ErrRange", laid_strconv_ErrRange), ("strconv.ErrSyntax", laid_strconv_ErrSyntax), ("unicode/utf8.first", laid_unicode_utf8_first)] }
def DirectLaterSaid : Prop := directLaterRow.holds Tryz.pinned (OpenSpec.ofChange directLaterSpec)

/-- ITS FALSE NEIGHBOUR: 'it returns false'. Refute it at one input. -/
def directLaterWrong : ChangeSpec := { name := "directLater", fn := fun _ => fun
  | [d1, d2, d3] => { results := [.lit (.bool false)], args := [d1, d2, d3] }
  | _ => none }
def DirectLaterWrongFalsely : Prop := directLaterRow.holds Tryz.pinned (OpenSpec.ofChange directLaterWrong)

/-- 'causewaylaw21.DirectSpends': WHATEVER THE INPUT: true; the input reads as it did. -/
def directSpendsSpec : ChangeSpec := { name := "directSpends", fn := fun _ => fun
  | [d] => { results := [.lit (.bool true)], args := [d] }
  | _ => none }
def directSpendsRow : OpenClaim := { program := "ythnpiimiimiijaagreatdoor", sum := "1bbdd6bd92ddfc5c708eee6135d15d0390b2f08ca749244f4f3d0ab2b77b4ace", func := "causeway/causewaylaw21.DirectSpends", spec := "directSpends", inPlace := ["internal/bytealg.Compare", "slices.overlaps[causeway/api.Key]", "slices.overlaps[causeway/api.Device]", "internal/bytealg.IndexByteString", "internal/bytealg.IndexString"], unfollowed := true, recurses := true, named := ["unicode/utf8.first", "unicode/utf8.acceptRanges", "internal/bytealg.MaxLen", "strconv.ErrSyntax", "strconv.ErrRange", "internal/strconv.uint64pow10", "math/bits.deBruijn32tab", "math/bits.deBruijn64tab"], apart := false, laid := [("math/bits.deBruijn32tab", laid_math_bits_deBruijn32tab), ("math/bits.deBruijn64tab", laid_math_bits_deBruijn64tab), ("internal/strconv.uint64pow10", laid_internal_strconv_uint64pow10), ("unicode/utf8.acceptRanges", laid_unicode_utf8_acceptRanges), ("strconv.ErrRange", laid_strconv_ErrRange), ("strconv.ErrSyntax", laid_strconv_ErrSyntax), ("unicode/utf8.first", laid_unicode_utf8_first)] }
def DirectSpendsSaid : Prop := directSpendsRow.holds Tryz.pinned (OpenSpec.ofChange directSpendsSpec)

/-- ITS FALSE NEIGHBOUR: 'it returns false'. Refute it at one input. -/
def directSpendsWrong : ChangeSpec := { name := "directSpends", fn := fun _ => fun
  | [d] => { results := [.lit (.bool false)], args := [d] }
  | _ => none }
def DirectSpendsWrongFalsely : Prop := directSpendsRow.holds Tryz.pinned (OpenSpec.ofChange directSpendsWrong)

/-- 'causewaylaw21.DirectCounts': WHATEVER THE INPUT: true; the input reads as it did. -/
def directCountsSpec : ChangeSpec := { name := "directCounts", fn := fun _ => fun
  | [d] => { results := [.lit (.bool true)], args := [d] }
  | _ => none }
def directCountsRow : OpenClaim := { program := "ythnpiimiimiijaagreatdoor", sum := "1bbdd6bd92ddfc5c708eee6135d15d0390b2f08ca749244f4f3d0ab2b77b4ace", func := "causeway/causewaylaw21.DirectCounts", spec := "directCounts", inPlace := ["internal/bytealg.Compare", "slices.overlaps[causeway/api.Key]", "slices.overlaps[causeway/api.Device]", "internal/bytealg.IndexByteString", "internal/bytealg.IndexString"], unfollowed := true, recurses := true, named := ["unicode/utf8.first", "unicode/utf8.acceptRanges", "internal/bytealg.MaxLen", "strconv.ErrSyntax", "strconv.ErrRange", "internal/strconv.uint64pow10", "math/bits.deBruijn32tab", "math/bits.deBruijn64tab"], apart := false, laid := [("math/bits.deBruijn32tab", laid_math_bits_deBruijn32tab), ("math/bits.deBruijn64tab", laid_math_bits_deBruijn64tab), ("internal/strconv.uint64pow10", laid_internal_strconv_uint64pow10), ("unicode/utf8.acceptRanges", laid_unicode_utf8_acceptRanges), ("strconv.ErrRange", laid_strconv_ErrRange), ("strconv.ErrSyntax", laid_strconv_ErrSyntax), ("unicode/utf8.first", laid_unicode_utf8_first)] }
def DirectCountsSaid : Prop := directCountsRow.holds Tryz.pinned (OpenSpec.ofChange directCountsSpec)

/-- ITS FALSE NEIGHBOUR: 'it returns false'. Refute it at one input. -/
def directCountsWrong : ChangeSpec := { name := "directCounts", fn := fun _ => fun
  | [d] => { results := [.lit (.bool false)], args := [d] }
  | _ => none }
def DirectCountsWrongFalsely : Prop := directCountsRow.holds Tryz.pinned (OpenSpec.ofChange directCountsWrong)

/-- 'causewaylaw21.DirectApplies': WHATEVER THE INPUT: true; the input reads as it did. -/
def directAppliesSpec : ChangeSpec := { name := "directApplies", fn := fun _ => fun
  | [d1, d2] => { results := [.lit (.bool true)], args := [d1, d2] }
  | _ => none }
def directAppliesRow : OpenClaim := { program := "ythnpiimiimiijaagreatdoor", sum := "1bbdd6bd92ddfc5c708eee6135d15d0390b2f08ca749244f4f3d0ab2b77b4ace", func := "causeway/causewaylaw21.DirectApplies", spec := "directApplies", inPlace := ["internal/bytealg.Compare", "internal/bytealg.IndexByteString", "internal/bytealg.IndexString", "slices.overlaps[causeway/api.Key]", "slices.overlaps[causeway/api.Device]"], unfollowed := true, recurses := true, named := ["unicode/utf8.first", "unicode/utf8.acceptRanges", "internal/bytealg.MaxLen", "strconv.ErrSyntax", "strconv.ErrRange", "internal/strconv.uint64pow10", "math/bits.deBruijn32tab", "math/bits.deBruijn64tab"], apart := false, laid := [("math/bits.deBruijn32tab", laid_math_bits_deBruijn32tab), ("math/bits.deBruijn64tab", laid_math_bits_deBruijn64tab), ("internal/strconv.uint64pow10", laid_internal_strconv_uint64pow10), ("unicode/utf8.acceptRanges", laid_unicode_utf8_acceptRanges), ("strconv.ErrRange", laid_strconv_ErrRange), ("strconv.ErrSyntax", laid_strconv_ErrSyntax), ("unicode/utf8.first", laid_unicode_utf8_first)] }
def DirectAppliesSaid : Prop := directAppliesRow.holds Tryz.pinned (OpenSpec.ofChange directAppliesSpec)

/-- ITS FALSE NEIGHBOUR: 'it returns false'. Refute it at one input. -/
def directAppliesWrong : ChangeSpec := { name := "directApplies", fn := fun _ => fun
  | [d1, d2] => { results := [.lit (.bool false)], args := [d1, d2] }
  | _ => none }
def DirectAppliesWrongFalsely : Prop := directAppliesRow.holds Tryz.pinned (OpenSpec.ofChange directAppliesWrong)

/-- 'causewaylaw21.DirectAgain': WHATEVER THE INPUT: true; the input reads as it did. -/
def directAgainSpec : ChangeSpec := { name := "directAgain", fn := fun _ => fun
  | [d1, d2] => { results := [.lit (.bool true)], args := [d1, d2] }
  | _ => none }
def directAgainRow : OpenClaim := { program := "ythnpiimiimiijaagreatdoor", sum := "1bbdd6bd92ddfc5c708eee6135d15d0390b2f08ca749244f4f3d0ab2b77b4ace", func := "causeway/causewaylaw21.DirectAgain", spec := "directAgain", inPlace := ["internal/bytealg.Compare", "slices.overlaps[causeway/api.Key]", "slices.overlaps[causeway/api.Device]", "internal/bytealg.IndexByteString", "internal/bytealg.IndexString"], unfollowed := true, recurses := true, named := ["unicode/utf8.first", "unicode/utf8.acceptRanges", "internal/bytealg.MaxLen", "strconv.ErrSyntax", "strconv.ErrRange", "internal/strconv.uint64pow10", "math/bits.deBruijn32tab", "math/bits.deBruijn64tab"], apart := false, laid := [("math/bits.deBruijn32tab", laid_math_bits_deBruijn32tab), ("math/bits.deBruijn64tab", laid_math_bits_deBruijn64tab), ("internal/strconv.uint64pow10", laid_internal_strconv_uint64pow10), ("unicode/utf8.acceptRanges", laid_unicode_utf8_acceptRanges), ("strconv.ErrRange", laid_strconv_ErrRange), ("strconv.ErrSyntax", laid_strconv_ErrSyntax), ("unicode/utf8.first", laid_unicode_utf8_first)] }
def DirectAgainSaid : Prop := directAgainRow.holds Tryz.pinned (OpenSpec.ofChange directAgainSpec)

/-- ITS FALSE NEIGHBOUR: 'it returns false'. Refute it at one input. -/
def directAgainWrong : ChangeSpec := { name := "directAgain", fn := fun _ => fun
  | [d1, d2] => { results := [.lit (.bool false)], args := [d1, d2] }
  | _ => none }
def DirectAgainWrongFalsely : Prop := directAgainRow.holds Tryz.pinned (OpenSpec.ofChange directAgainWrong)

/-- 'causewaylaw21.DirectChecks': WHATEVER THE INPUT: true; the input reads as it did. -/
def directChecksSpec : ChangeSpec := { name := "directChecks", fn := fun _ => fun
  | [d1, d2, d3] => { results := [.lit (.bool true)], args := [d1, d2, d3] }
  | _ => none }
def directChecksRow : OpenClaim := { program := "ythnpiimiimiijaagreatdoor", sum := "1bbdd6bd92ddfc5c708eee6135d15d0390b2f08ca749244f4f3d0ab2b77b4ace", func := "causeway/causewaylaw21.DirectChecks", spec := "directChecks", inPlace := ["internal/bytealg.Compare", "internal/bytealg.IndexByteString", "internal/bytealg.IndexString", "slices.overlaps[causeway/api.Key]", "slices.overlaps[causeway/api.Device]"], unfollowed := true, recurses := true, named := ["unicode/utf8.first", "unicode/utf8.acceptRanges", "internal/bytealg.MaxLen", "strconv.ErrSyntax", "strconv.ErrRange", "internal/strconv.uint64pow10", "math/bits.deBruijn32tab", "math/bits.deBruijn64tab"], apart := false, laid := [("math/bits.deBruijn32tab", laid_math_bits_deBruijn32tab), ("math/bits.deBruijn64tab", laid_math_bits_deBruijn64tab), ("internal/strconv.uint64pow10", laid_internal_strconv_uint64pow10), ("unicode/utf8.acceptRanges", laid_unicode_utf8_acceptRanges), ("strconv.ErrRange", laid_strconv_ErrRange), ("strconv.ErrSyntax", laid_strconv_ErrSyntax), ("unicode/utf8.first", laid_unicode_utf8_first)] }
def DirectChecksSaid : Prop := directChecksRow.holds Tryz.pinned (OpenSpec.ofChange directChecksSpec)

/-- ITS FALSE NEIGHBOUR: 'it returns false'. Refute it at one input. -/
def directChecksWrong : ChangeSpec := { name := "directChecks", fn := fun _ => fun
  | [d1, d2, d3] => { results := [.lit (.bool false)], args := [d1, d2, d3] }
  | _ => none }
def DirectChecksWrongFalsely : Prop := directChecksRow.holds Tryz.pinned (OpenSpec.ofChange directChecksWrong)

/-- 'causewaylaw21.DirectParses': WHATEVER THE INPUT: true; the input reads as it did. -/
def directParsesSpec : ChangeSpec := { name := "directParses", fn := fun _ => fun
  | [d] => { results := [.lit (.bool true)], args := [d] }
  | _ => none }
def directParsesRow : OpenClaim := { program := "ythnpiimiimiijaagreatdoor", sum := "1bbdd6bd92ddfc5c708eee6135d15d0390b2f08ca749244f4f3d0ab2b77b4ace", func := "causeway/causewaylaw21.DirectParses", spec := "directParses", inPlace := ["internal/bytealg.Compare", "internal/bytealg.IndexByteString", "internal/bytealg.IndexString", "slices.overlaps[causeway/api.Key]", "slices.overlaps[causeway/api.Device]"], unfollowed := true, recurses := true, named := ["unicode/utf8.first", "unicode/utf8.acceptRanges", "internal/bytealg.MaxLen", "strconv.ErrSyntax", "strconv.ErrRange", "internal/strconv.uint64pow10", "math/bits.deBruijn32tab", "math/bits.deBruijn64tab"], apart := false, laid := [("math/bits.deBruijn32tab", laid_math_bits_deBruijn32tab), ("math/bits.deBruijn64tab", laid_math_bits_deBruijn64tab), ("internal/strconv.uint64pow10", laid_internal_strconv_uint64pow10), ("unicode/utf8.acceptRanges", laid_unicode_utf8_acceptRanges), ("strconv.ErrRange", laid_strconv_ErrRange), ("strconv.ErrSyntax", laid_strconv_ErrSyntax), ("unicode/utf8.first", laid_unicode_utf8_first)] }
def DirectParsesSaid : Prop := directParsesRow.holds Tryz.pinned (OpenSpec.ofChange directParsesSpec)

/-- ITS FALSE NEIGHBOUR: 'it returns false'. Refute it at one input. -/
def directParsesWrong : ChangeSpec := { name := "directParses", fn := fun _ => fun
  | [d] => { results := [.lit (.bool false)], args := [d] }
  | _ => none }
def DirectParsesWrongFalsely : Prop := directParsesRow.holds Tryz.pinned (OpenSpec.ofChange directParsesWrong)

/-- 'causewaylaw21.DirectBack': WHATEVER THE INPUT: true; the input reads as it did. -/
def directBackSpec : ChangeSpec := { name := "directBack", fn := fun _ => fun
  | [d1, d2] => { results := [.lit (.bool true)], args := [d1, d2] }
  | _ => none }
def directBackRow : OpenClaim := { program := "ythnpiimiimiijaagreatdoor", sum := "1bbdd6bd92ddfc5c708eee6135d15d0390b2f08ca749244f4f3d0ab2b77b4ace", func := "causeway/causewaylaw21.DirectBack", spec := "directBack", inPlace := ["internal/bytealg.Compare", "slices.overlaps[causeway/api.Key]", "slices.overlaps[causeway/api.Device]", "internal/bytealg.IndexByteString", "internal/bytealg.IndexString"], unfollowed := true, recurses := true, named := ["unicode/utf8.first", "unicode/utf8.acceptRanges", "internal/bytealg.MaxLen", "strconv.ErrSyntax", "strconv.ErrRange", "internal/strconv.uint64pow10", "math/bits.deBruijn32tab", "math/bits.deBruijn64tab"], apart := false, laid := [("math/bits.deBruijn32tab", laid_math_bits_deBruijn32tab), ("math/bits.deBruijn64tab", laid_math_bits_deBruijn64tab), ("internal/strconv.uint64pow10", laid_internal_strconv_uint64pow10), ("unicode/utf8.acceptRanges", laid_unicode_utf8_acceptRanges), ("strconv.ErrRange", laid_strconv_ErrRange), ("strconv.ErrSyntax", laid_strconv_ErrSyntax), ("unicode/utf8.first", laid_unicode_utf8_first)] }
def DirectBackSaid : Prop := directBackRow.holds Tryz.pinned (OpenSpec.ofChange directBackSpec)

/-- ITS FALSE NEIGHBOUR: 'it returns false'. Refute it at one input. -/
def directBackWrong : ChangeSpec := { name := "directBack", fn := fun _ => fun
  | [d1, d2] => { results := [.lit (.bool false)], args := [d1, d2] }
  | _ => none }
def DirectBackWrongFalsely : Prop := directBackRow.holds Tryz.pinned (OpenSpec.ofChange directBackWrong)

/-- 'causewaylaw21.DirectKnown': WHATEVER THE INPUT: true; the input reads as it did. -/
def directKnownSpec : ChangeSpec := { name := "directKnown", fn := fun _ => fun
  | [] => { results := [.lit (.bool true)], args := [] }
  | _ => none }
def directKnownRow : OpenClaim := { program := "ythnpiimiimiijaagreatdoor", sum := "1bbdd6bd92ddfc5c708eee6135d15d0390b2f08ca749244f4f3d0ab2b77b4ace", func := "causeway/causewaylaw21.DirectKnown", spec := "directKnown", inPlace := ["internal/bytealg.Compare", "slices.overlaps[causeway/api.Key]", "slices.overlaps[causeway/api.Device]", "internal/bytealg.IndexByteString", "internal/bytealg.IndexString"], unfollowed := true, recurses := true, named := ["unicode/utf8.first", "unicode/utf8.acceptRanges", "internal/bytealg.MaxLen", "strconv.ErrSyntax", "strconv.ErrRange", "internal/strconv.uint64pow10", "math/bits.deBruijn32tab", "math/bits.deBruijn64tab"], apart := false, laid := [("math/bits.deBruijn32tab", laid_math_bits_deBruijn32tab), ("math/bits.deBruijn64tab", laid_math_bits_deBruijn64tab), ("internal/strconv.uint64pow10", laid_internal_strconv_uint64pow10), ("unicode/utf8.acceptRanges", laid_unicode_utf8_acceptRanges), ("strconv.ErrRange", laid_strconv_ErrRange), ("strconv.ErrSyntax", laid_strconv_ErrSyntax), ("unicode/utf8.first", laid_unicode_utf8_first)] }
def DirectKnownSaid : Prop := directKnownRow.holds Tryz.pinned (OpenSpec.ofChange directKnownSpec)

/-- ITS FALSE NEIGHBOUR: 'it returns false'. Refute it at one input. -/
def directKnownWrong : ChangeSpec := { name := "directKnown", fn := fun _ => fun
  | [] => { results := [.lit (.bool false)], args := [] }
  | _ => none }
def DirectKnownWrongFalsely : Prop := directKnownRow.holds Tryz.pinned (OpenSpec.ofChange directKnownWrong)

/- THE SECOND FORM. 'bulk': how many values and letters a reading holds, each counted each time it is reached (what is shared counts as often as it is met; a slice's spare places count too). A statement '..UptoSaid' is the law's where the arguments, and the package variables that the reading takes, are together of bulk at most 1048576: NARROWER than '..Said'. Prove '..Said' where nothing that the law and all that it calls make is longer than what came in: it says more and counts as full. Else prove '..UptoSaid'. A law counts once. -/
mutual
def uptoBulk {H : Type} : DataW H → Nat
  | .lit (.string bytes) => bytes.length + 1
  | .lit _ => 1
  | .nil => 1
  | .ptr d => uptoBulk d + 1
  | .slice elems spare => uptoBulkAll elems + uptoBulkAll spare + 1
  | .agg parts => uptoBulkAll parts + 1
  | .iface _ d => uptoBulk d + 1
  | .map entries => uptoBulkEntries entries + 1
  | .held _ => 1
def uptoBulkAll {H : Type} : List (DataW H) → Nat
  | [] => 0
  | d :: r => uptoBulk d + uptoBulkAll r
def uptoBulkEntries {H : Type} : List (Lit × DataW H) → Nat
  | [] => 0
  | x :: r => uptoBulkEntry x + uptoBulkEntries r
def uptoBulkEntry {H : Type} : Lit × DataW H → Nat
  | (.string bytes, d) => bytes.length + uptoBulk d + 1
  | (_, d) => uptoBulk d + 1
 end
def uptoSmall : (H : Type) → List (DataW H) → Bool := fun _ ds => decide (uptoBulkAll ds ≤ 1048576)
def OpenSpec.upto (s : _root_.Go.ChangeSpec) : _root_.Go.OpenSpec := { _root_.Go.OpenSpec.ofChange s with cond := some uptoSmall }

/-- 'causewaylaw21.DirectNever', WHERE WHAT IT READS IS OF BULK AT MOST 1048576: true; the input reads as it did. -/
def directNeverUptoRow : OpenClaim := { program := "ythnpiimiimiijaagreatdoor", sum := "1bbdd6bd92ddfc5c708eee6135d15d0390b2f08ca749244f4f3d0ab2b77b4ace", func := "causeway/causewaylaw21.DirectNever", spec := "directNever", inPlace := ["internal/bytealg.Compare", "slices.overlaps[causeway/api.Key]", "slices.overlaps[causeway/api.Device]", "internal/bytealg.IndexByteString", "internal/bytealg.IndexString"], unfollowed := true, recurses := true, named := ["unicode/utf8.first", "unicode/utf8.acceptRanges", "internal/bytealg.MaxLen", "strconv.ErrSyntax", "strconv.ErrRange", "internal/strconv.uint64pow10", "math/bits.deBruijn32tab", "math/bits.deBruijn64tab"], apart := false, laid := [("math/bits.deBruijn32tab", laid_math_bits_deBruijn32tab), ("math/bits.deBruijn64tab", laid_math_bits_deBruijn64tab), ("internal/strconv.uint64pow10", laid_internal_strconv_uint64pow10), ("unicode/utf8.acceptRanges", laid_unicode_utf8_acceptRanges), ("strconv.ErrRange", laid_strconv_ErrRange), ("strconv.ErrSyntax", laid_strconv_ErrSyntax), ("unicode/utf8.first", laid_unicode_utf8_first)], narrowed := true }
def DirectNeverUptoSaid : Prop := directNeverUptoRow.holds Tryz.pinned (OpenSpec.upto directNeverSpec)

/-- 'causewaylaw21.DirectLater', WHERE WHAT IT READS IS OF BULK AT MOST 1048576: true; the input reads as it did. -/
def directLaterUptoRow : OpenClaim := { program := "ythnpiimiimiijaagreatdoor", sum := "1bbdd6bd92ddfc5c708eee6135d15d0390b2f08ca749244f4f3d0ab2b77b4ace", func := "causeway/causewaylaw21.DirectLater", spec := "directLater", inPlace := ["internal/bytealg.Compare", "slices.overlaps[causeway/api.Key]", "slices.overlaps[causeway/api.Device]", "internal/bytealg.IndexByteString", "internal/bytealg.IndexString"], unfollowed := true, recurses := true, named := ["unicode/utf8.first", "unicode/utf8.acceptRanges", "internal/bytealg.MaxLen", "strconv.ErrSyntax", "strconv.ErrRange", "internal/strconv.uint64pow10", "math/bits.deBruijn32tab", "math/bits.deBruijn64tab"], apart := false, laid := [("math/bits.deBruijn32tab", laid_math_bits_deBruijn32tab), ("math/bits.deBruijn64tab", laid_math_bits_deBruijn64tab), ("internal/strconv.uint64pow10", laid_internal_strconv_uint64pow10), ("unicode/utf8.acceptRanges", laid_unicode_utf8_acceptRanges), ("strconv.ErrRange", laid_strconv_ErrRange), ("strconv.ErrSyntax", laid_strconv_ErrSyntax), ("unicode/utf8.first", laid_unicode_utf8_first)], narrowed := true }
def DirectLaterUptoSaid : Prop := directLaterUptoRow.holds Tryz.pinned (OpenSpec.upto directLaterSpec)

/-- 'causewaylaw21.DirectSpends', WHERE WHAT IT READS IS OF BULK AT MOST 1048576: true; the input reads as it did. -/
def directSpendsUptoRow : OpenClaim := { program := "ythnpiimiimiijaagreatdoor", sum := "1bbdd6bd92ddfc5c708eee6135d15d0390b2f08ca749244f4f3d0ab2b77b4ace", func := "causeway/causewaylaw21.DirectSpends", spec := "directSpends", inPlace := ["internal/bytealg.Compare", "slices.overlaps[causeway/api.Key]", "slices.overlaps[causeway/api.Device]", "internal/bytealg.IndexByteString", "internal/bytealg.IndexString"], unfollowed := true, recurses := true, named := ["unicode/utf8.first", "unicode/utf8.acceptRanges", "internal/bytealg.MaxLen", "strconv.ErrSyntax", "strconv.ErrRange", "internal/strconv.uint64pow10", "math/bits.deBruijn32tab", "math/bits.deBruijn64tab"], apart := false, laid := [("math/bits.deBruijn32tab", laid_math_bits_deBruijn32tab), ("math/bits.deBruijn64tab", laid_math_bits_deBruijn64tab), ("internal/strconv.uint64pow10", laid_internal_strconv_uint64pow10), ("unicode/utf8.acceptRanges", laid_unicode_utf8_acceptRanges), ("strconv.ErrRange", laid_strconv_ErrRange), ("strconv.ErrSyntax", laid_strconv_ErrSyntax), ("unicode/utf8.first", laid_unicode_utf8_first)], narrowed := true }
def DirectSpendsUptoSaid : Prop := directSpendsUptoRow.holds Tryz.pinned (OpenSpec.upto directSpendsSpec)

/-- 'causewaylaw21.DirectCounts', WHERE WHAT IT READS IS OF BULK AT MOST 1048576: true; the input reads as it did. -/
def directCountsUptoRow : OpenClaim := { program := "ythnpiimiimiijaagreatdoor", sum := "1bbdd6bd92ddfc5c708eee6135d15d0390b2f08ca749244f4f3d0ab2b77b4ace", func := "causeway/causewaylaw21.DirectCounts", spec := "directCounts", inPlace := ["internal/bytealg.Compare", "slices.overlaps[causeway/api.Key]", "slices.overlaps[causeway/api.Device]", "internal/bytealg.IndexByteString", "internal/bytealg.IndexString"], unfollowed := true, recurses := true, named := ["unicode/utf8.first", "unicode/utf8.acceptRanges", "internal/bytealg.MaxLen", "strconv.ErrSyntax", "strconv.ErrRange", "internal/strconv.uint64pow10", "math/bits.deBruijn32tab", "math/bits.deBruijn64tab"], apart := false, laid := [("math/bits.deBruijn32tab", laid_math_bits_deBruijn32tab), ("math/bits.deBruijn64tab", laid_math_bits_deBruijn64tab), ("internal/strconv.uint64pow10", laid_internal_strconv_uint64pow10), ("unicode/utf8.acceptRanges", laid_unicode_utf8_acceptRanges), ("strconv.ErrRange", laid_strconv_ErrRange), ("strconv.ErrSyntax", laid_strconv_ErrSyntax), ("unicode/utf8.first", laid_unicode_utf8_first)], narrowed := true }
def DirectCountsUptoSaid : Prop := directCountsUptoRow.holds Tryz.pinned (OpenSpec.upto directCountsSpec)

/-- 'causewaylaw21.DirectApplies', WHERE WHAT IT READS IS OF BULK AT MOST 1048576: true; the input reads as it did. -/
def directAppliesUptoRow : OpenClaim := { program := "ythnpiimiimiijaagreatdoor", sum := "1bbdd6bd92ddfc5c708eee6135d15d0390b2f08ca749244f4f3d0ab2b77b4ace", func := "causeway/causewaylaw21.DirectApplies", spec := "directApplies", inPlace := ["internal/bytealg.Compare", "internal/bytealg.IndexByteString", "internal/bytealg.IndexString", "slices.overlaps[causeway/api.Key]", "slices.overlaps[causeway/api.Device]"], unfollowed := true, recurses := true, named := ["unicode/utf8.first", "unicode/utf8.acceptRanges", "internal/bytealg.MaxLen", "strconv.ErrSyntax", "strconv.ErrRange", "internal/strconv.uint64pow10", "math/bits.deBruijn32tab", "math/bits.deBruijn64tab"], apart := false, laid := [("math/bits.deBruijn32tab", laid_math_bits_deBruijn32tab), ("math/bits.deBruijn64tab", laid_math_bits_deBruijn64tab), ("internal/strconv.uint64pow10", laid_internal_strconv_uint64pow10), ("unicode/utf8.acceptRanges", laid_unicode_utf8_acceptRanges), ("strconv.ErrRange", laid_strconv_ErrRange), ("strconv.ErrSyntax", laid_strconv_ErrSyntax), ("unicode/utf8.first", laid_unicode_utf8_first)], narrowed := true }
def DirectAppliesUptoSaid : Prop := directAppliesUptoRow.holds Tryz.pinned (OpenSpec.upto directAppliesSpec)

/-- 'causewaylaw21.DirectAgain', WHERE WHAT IT READS IS OF BULK AT MOST 1048576: true; the input reads as it did. -/
def directAgainUptoRow : OpenClaim := { program := "ythnpiimiimiijaagreatdoor", sum := "1bbdd6bd92ddfc5c708eee6135d15d0390b2f08ca749244f4f3d0ab2b77b4ace", func := "causeway/causewaylaw21.DirectAgain", spec := "directAgain", inPlace := ["internal/bytealg.Compare", "slices.overlaps[causeway/api.Key]", "slices.overlaps[causeway/api.Device]", "internal/bytealg.IndexByteString", "internal/bytealg.IndexString"], unfollowed := true, recurses := true, named := ["unicode/utf8.first", "unicode/utf8.acceptRanges", "internal/bytealg.MaxLen", "strconv.ErrSyntax", "strconv.ErrRange", "internal/strconv.uint64pow10", "math/bits.deBruijn32tab", "math/bits.deBruijn64tab"], apart := false, laid := [("math/bits.deBruijn32tab", laid_math_bits_deBruijn32tab), ("math/bits.deBruijn64tab", laid_math_bits_deBruijn64tab), ("internal/strconv.uint64pow10", laid_internal_strconv_uint64pow10), ("unicode/utf8.acceptRanges", laid_unicode_utf8_acceptRanges), ("strconv.ErrRange", laid_strconv_ErrRange), ("strconv.ErrSyntax", laid_strconv_ErrSyntax), ("unicode/utf8.first", laid_unicode_utf8_first)], narrowed := true }
def DirectAgainUptoSaid : Prop := directAgainUptoRow.holds Tryz.pinned (OpenSpec.upto directAgainSpec)

/-- 'causewaylaw21.DirectChecks', WHERE WHAT IT READS IS OF BULK AT MOST 1048576: true; the input reads as it did. -/
def directChecksUptoRow : OpenClaim := { program := "ythnpiimiimiijaagreatdoor", sum := "1bbdd6bd92ddfc5c708eee6135d15d0390b2f08ca749244f4f3d0ab2b77b4ace", func := "causeway/causewaylaw21.DirectChecks", spec := "directChecks", inPlace := ["internal/bytealg.Compare", "internal/bytealg.IndexByteString", "internal/bytealg.IndexString", "slices.overlaps[causeway/api.Key]", "slices.overlaps[causeway/api.Device]"], unfollowed := true, recurses := true, named := ["unicode/utf8.first", "unicode/utf8.acceptRanges", "internal/bytealg.MaxLen", "strconv.ErrSyntax", "strconv.ErrRange", "internal/strconv.uint64pow10", "math/bits.deBruijn32tab", "math/bits.deBruijn64tab"], apart := false, laid := [("math/bits.deBruijn32tab", laid_math_bits_deBruijn32tab), ("math/bits.deBruijn64tab", laid_math_bits_deBruijn64tab), ("internal/strconv.uint64pow10", laid_internal_strconv_uint64pow10), ("unicode/utf8.acceptRanges", laid_unicode_utf8_acceptRanges), ("strconv.ErrRange", laid_strconv_ErrRange), ("strconv.ErrSyntax", laid_strconv_ErrSyntax), ("unicode/utf8.first", laid_unicode_utf8_first)], narrowed := true }
def DirectChecksUptoSaid : Prop := directChecksUptoRow.holds Tryz.pinned (OpenSpec.upto directChecksSpec)

/-- 'causewaylaw21.DirectParses', WHERE WHAT IT READS IS OF BULK AT MOST 1048576: true; the input reads as it did. -/
def directParsesUptoRow : OpenClaim := { program := "ythnpiimiimiijaagreatdoor", sum := "1bbdd6bd92ddfc5c708eee6135d15d0390b2f08ca749244f4f3d0ab2b77b4ace", func := "causeway/causewaylaw21.DirectParses", spec := "directParses", inPlace := ["internal/bytealg.Compare", "internal/bytealg.IndexByteString", "internal/bytealg.IndexString", "slices.overlaps[causeway/api.Key]", "slices.overlaps[causeway/api.Device]"], unfollowed := true, recurses := true, named := ["unicode/utf8.first", "unicode/utf8.acceptRanges", "internal/bytealg.MaxLen", "strconv.ErrSyntax", "strconv.ErrRange", "internal/strconv.uint64pow10", "math/bits.deBruijn32tab", "math/bits.deBruijn64tab"], apart := false, laid := [("math/bits.deBruijn32tab", laid_math_bits_deBruijn32tab), ("math/bits.deBruijn64tab", laid_math_bits_deBruijn64tab), ("internal/strconv.uint64pow10", laid_internal_strconv_uint64pow10), ("unicode/utf8.acceptRanges", laid_unicode_utf8_acceptRanges), ("strconv.ErrRange", laid_strconv_ErrRange), ("strconv.ErrSyntax", laid_strconv_ErrSyntax), ("unicode/utf8.first", laid_unicode_utf8_first)], narrowed := true }
def DirectParsesUptoSaid : Prop := directParsesUptoRow.holds Tryz.pinned (OpenSpec.upto directParsesSpec)

/-- 'causewaylaw21.DirectBack', WHERE WHAT IT READS IS OF BULK AT MOST 1048576: true; the input reads as it did. -/
def directBackUptoRow : OpenClaim := { program := "ythnpiimiimiijaagreatdoor", sum := "1bbdd6bd92ddfc5c708eee6135d15d0390b2f08ca749244f4f3d0ab2b77b4ace", func := "causeway/causewaylaw21.DirectBack", spec := "directBack", inPlace := ["internal/bytealg.Compare", "slices.overlaps[causeway/api.Key]", "slices.overlaps[causeway/api.Device]", "internal/bytealg.IndexByteString", "internal/bytealg.IndexString"], unfollowed := true, recurses := true, named := ["unicode/utf8.first", "unicode/utf8.acceptRanges", "internal/bytealg.MaxLen", "strconv.ErrSyntax", "strconv.ErrRange", "internal/strconv.uint64pow10", "math/bits.deBruijn32tab", "math/bits.deBruijn64tab"], apart := false, laid := [("math/bits.deBruijn32tab", laid_math_bits_deBruijn32tab), ("math/bits.deBruijn64tab", laid_math_bits_deBruijn64tab), ("internal/strconv.uint64pow10", laid_internal_strconv_uint64pow10), ("unicode/utf8.acceptRanges", laid_unicode_utf8_acceptRanges), ("strconv.ErrRange", laid_strconv_ErrRange), ("strconv.ErrSyntax", laid_strconv_ErrSyntax), ("unicode/utf8.first", laid_unicode_utf8_first)], narrowed := true }
def DirectBackUptoSaid : Prop := directBackUptoRow.holds Tryz.pinned (OpenSpec.upto directBackSpec)

/-- 'causewaylaw21.DirectKnown', WHERE WHAT IT READS IS OF BULK AT MOST 1048576: true; the input reads as it did. -/
def directKnownUptoRow : OpenClaim := { program := "ythnpiimiimiijaagreatdoor", sum := "1bbdd6bd92ddfc5c708eee6135d15d0390b2f08ca749244f4f3d0ab2b77b4ace", func := "causeway/causewaylaw21.DirectKnown", spec := "directKnown", inPlace := ["internal/bytealg.Compare", "slices.overlaps[causeway/api.Key]", "slices.overlaps[causeway/api.Device]", "internal/bytealg.IndexByteString", "internal/bytealg.IndexString"], unfollowed := true, recurses := true, named := ["unicode/utf8.first", "unicode/utf8.acceptRanges", "internal/bytealg.MaxLen", "strconv.ErrSyntax", "strconv.ErrRange", "internal/strconv.uint64pow10", "math/bits.deBruijn32tab", "math/bits.deBruijn64tab"], apart := false, laid := [("math/bits.deBruijn32tab", laid_math_bits_deBruijn32tab), ("math/bits.deBruijn64tab", laid_math_bits_deBruijn64tab), ("internal/strconv.uint64pow10", laid_internal_strconv_uint64pow10), ("unicode/utf8.acceptRanges", laid_unicode_utf8_acceptRanges), ("strconv.ErrRange", laid_strconv_ErrRange), ("strconv.ErrSyntax", laid_strconv_ErrSyntax), ("unicode/utf8.first", laid_unicode_utf8_first)], narrowed := true }
def DirectKnownUptoSaid : Prop := directKnownUptoRow.holds Tryz.pinned (OpenSpec.upto directKnownSpec)

end Rows
end Go.Proofs.YthnpiimiimiijaaGreatDoor
