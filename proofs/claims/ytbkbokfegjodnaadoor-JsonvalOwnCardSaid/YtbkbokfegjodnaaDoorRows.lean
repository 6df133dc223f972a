/-
  NARROWER THAN 'FOR EVERY INPUT', by the rows' own cells (each row's printed sentence says how): JsonvalNames: laid · JsonvalParses: laid · JsonvalBack: loops, laid · JsonvalForm: laid · JsonvalFirst: laid · JsonvalOwn: laid · JsonvalPrints: loops, laid · JsonvalMakes: loops, laid · JsonvalUnlike: loops, laid · JsonvalAsks: loops, laid · JsonvalEquals: loops, laid.
  DERIVED. THE GIVEN ROWS OF THIS SEAT. 11 by the template 'for every input the law returns true; each argument reads behind the call as it read before'; 0 by the template 'total and deterministic' (their statements: YtbkbokfegjodnaaDoorTotals.lean).
  GIVEN WITH THE SEED: the statements are not yours to turn. If you find one false, say at which input.
  Laid BY PROGRAM, IN A SANDBOX (cutbox-rows.mjs): the forced cells as the released guide's own fill.sh prints them over the translation a188d7aef21766cc… (all of the seat's roots in one cut). By AI agents, Wed Nov 11 2026. No macro, syntax, notation, axiom, sorry.
-/
import Derived.Test.YtbkbokfegjodnaaDoorChecked
import GoSem.PinnedTables
import GoSem.Claim
import GoSem.ClaimJoined
import GoSem.ClaimMapViews
import Derived.JoinedTies
import Derived.KernelRfl
namespace Go.Proofs.YtbkbokfegjodnaaDoor
/- THE CELL 'sum', in the pinned program and in every row, IS THE sha256 OF THE DUMP (.gsa) THAT YtbkbokfegjodnaaDoorProg.lean LOADS. Nothing in Lean hashes anything: it is a label: what it is worth is what the hold of that sum in a sandbox is worth. -/
noncomputable def Tryd.pinned : Pinned := { name := "ytbkbokfegjodnaadoor", sum := "a188d7aef21766cc8d455d7b94490b2cda4fe50a009c7ff408ae1b8337d9ad10", checked := Tryd.checked }
namespace Rows
def none {H : Type} : Left H := { results := [], args := [] }

/- WHAT THE LISTED PACKAGE-LEVEL VARIABLES READ AS WHEN THE CALL BEGINS. Each datum BY PROGRAM (the guide's laid-datum.mjs) off the statement by which the dump's own 'gosem.cut.vars' lays the variable. In a bare row this is a premise. The card (YtbkbokfegjodnaaDoorCards.lean) ties it to the program's text. -/
def laid_math_bits_deBruijn32tab {H : Type} : DataW H := .agg [.lit (.int .u8 0), .lit (.int .u8 1), .lit (.int .u8 28), .lit (.int .u8 2), .lit (.int .u8 29), .lit (.int .u8 14), .lit (.int .u8 24), .lit (.int .u8 3), .lit (.int .u8 30), .lit (.int .u8 22), .lit (.int .u8 20), .lit (.int .u8 15), .lit (.int .u8 25), .lit (.int .u8 17), .lit (.int .u8 4), .lit (.int .u8 8), .lit (.int .u8 31), .lit (.int .u8 27), .lit (.int .u8 13), .lit (.int .u8 23), .lit (.int .u8 21), .lit (.int .u8 19), .lit (.int .u8 16), .lit (.int .u8 7), .lit (.int .u8 26), .lit (.int .u8 12), .lit (.int .u8 18), .lit (.int .u8 6), .lit (.int .u8 11), .lit (.int .u8 5), .lit (.int .u8 10), .lit (.int .u8 9)]
def laid_math_bits_deBruijn64tab {H : Type} : DataW H := .agg [.lit (.int .u8 0), .lit (.int .u8 1), .lit (.int .u8 56), .lit (.int .u8 2), .lit (.int .u8 57), .lit (.int .u8 49), .lit (.int .u8 28), .lit (.int .u8 3), .lit (.int .u8 61), .lit (.int .u8 58), .lit (.int .u8 42), .lit (.int .u8 50), .lit (.int .u8 38), .lit (.int .u8 29), .lit (.int .u8 17), .lit (.int .u8 4), .lit (.int .u8 62), .lit (.int .u8 47), .lit (.int .u8 59), .lit (.int .u8 36), .lit (.int .u8 45), .lit (.int .u8 43), .lit (.int .u8 51), .lit (.int .u8 22), .lit (.int .u8 53), .lit (.int .u8 39), .lit (.int .u8 33), .lit (.int .u8 30), .lit (.int .u8 24), .lit (.int .u8 18), .lit (.int .u8 12), .lit (.int .u8 5), .lit (.int .u8 63), .lit (.int .u8 55), .lit (.int .u8 48), .lit (.int .u8 27), .lit (.int .u8 60), .lit (.int .u8 41), .lit (.int .u8 37), .lit (.int .u8 16), .lit (.int .u8 46), .lit (.int .u8 35), .lit (.int .u8 44), .lit (.int .u8 21), .lit (.int .u8 52), .lit (.int .u8 32), .lit (.int .u8 23), .lit (.int .u8 11), .lit (.int .u8 54), .lit (.int .u8 26), .lit (.int .u8 40), .lit (.int .u8 15), .lit (.int .u8 34), .lit (.int .u8 20), .lit (.int .u8 31), .lit (.int .u8 10), .lit (.int .u8 25), .lit (.int .u8 14), .lit (.int .u8 19), .lit (.int .u8 9), .lit (.int .u8 13), .lit (.int .u8 8), .lit (.int .u8 7), .lit (.int .u8 6)]
def laid_internal_strconv_uint64pow10 {H : Type} : DataW H := .agg [.lit (.int .u64 1), .lit (.int .u64 10), .lit (.int .u64 100), .lit (.int .u64 1000), .lit (.int .u64 10000), .lit (.int .u64 100000), .lit (.int .u64 1000000), .lit (.int .u64 10000000), .lit (.int .u64 100000000), .lit (.int .u64 1000000000), .lit (.int .u64 10000000000), .lit (.int .u64 100000000000), .lit (.int .u64 1000000000000), .lit (.int .u64 10000000000000), .lit (.int .u64 100000000000000), .lit (.int .u64 1000000000000000), .lit (.int .u64 10000000000000000), .lit (.int .u64 100000000000000000), .lit (.int .u64 1000000000000000000), .lit (.int .u64 10000000000000000000)]
def laid_unicode_utf8_acceptRanges {H : Type} : DataW H := .agg [.agg [.lit (.int .u8 128), .lit (.int .u8 191)], .agg [.lit (.int .u8 160), .lit (.int .u8 191)], .agg [.lit (.int .u8 128), .lit (.int .u8 159)], .agg [.lit (.int .u8 144), .lit (.int .u8 191)], .agg [.lit (.int .u8 128), .lit (.int .u8 143)], .agg [.lit (.int .u8 0), .lit (.int .u8 0)], .agg [.lit (.int .u8 0), .lit (.int .u8 0)], .agg [.lit (.int .u8 0), .lit (.int .u8 0)], .agg [.lit (.int .u8 0), .lit (.int .u8 0)], .agg [.lit (.int .u8 0), .lit (.int .u8 0)], .agg [.lit (.int .u8 0), .lit (.int .u8 0)], .agg [.lit (.int .u8 0), .lit (.int .u8 0)], .agg [.lit (.int .u8 0), .lit (.int .u8 0)], .agg [.lit (.int .u8 0), .lit (.int .u8 0)], .agg [.lit (.int .u8 0), .lit (.int .u8 0)], .agg [.lit (.int .u8 0), .lit (.int .u8 0)]]
def laid_strconv_ErrRange {H : Type} : DataW H := .iface "*errors.errorString" (.ptr (.agg [.lit (.string [118, 97, 108, 117, 101, 32, 111, 117, 116, 32, 111, 102, 32, 114, 97, 110, 103, 101])]))
def laid_strconv_ErrSyntax {H : Type} : DataW H := .iface "*errors.errorString" (.ptr (.agg [.lit (.string [105, 110, 118, 97, 108, 105, 100, 32, 115, 121, 110, 116, 97, 120])]))
/-- One of Go's own tables, pinned by name: the form's constant. -/
def laid_unicode_utf8_first : DataW Unit := Go.Pinned.utf8First

/-- 'docketlaw01.JsonvalNames': WHATEVER THE INPUT: true; the input reads as it did. -/
def jsonvalNamesSpec : ChangeSpec := { name := "jsonvalNames", fn := fun _ => fun
  | [] => { results := [.lit (.bool true)], args := [] }
  | _ => none }
def jsonvalNamesRow : OpenClaim := { program := "ytbkbokfegjodnaadoor", sum := "a188d7aef21766cc8d455d7b94490b2cda4fe50a009c7ff408ae1b8337d9ad10", func := "docket/docketlaw01.JsonvalNames", spec := "jsonvalNames", unfollowed := true, recurses := true, named := ["strconv.ErrSyntax", "strconv.ErrRange", "internal/strconv.uint64pow10", "math/bits.deBruijn32tab", "math/bits.deBruijn64tab", "unicode/utf8.first", "unicode/utf8.acceptRanges"], apart := false, laid := [("math/bits.deBruijn32tab", laid_math_bits_deBruijn32tab), ("math/bits.deBruijn64tab", laid_math_bits_deBruijn64tab), ("internal/strconv.uint64pow10", laid_internal_strconv_uint64pow10), ("unicode/utf8.acceptRanges", laid_unicode_utf8_acceptRanges), ("strconv.ErrRange", laid_strconv_ErrRange), ("strconv.ErrSyntax", laid_strconv_ErrSyntax), ("unicode/utf8.first", laid_unicode_utf8_first)] }
def JsonvalNamesSaid : Prop := jsonvalNamesRow.holds Tryd.pinned (OpenSpec.ofChange jsonvalNamesSpec)

/-- ITS FALSE NEIGHBOUR: 'it returns false'. Refute it at one input. -/
def jsonvalNamesWrong : ChangeSpec := { name := "jsonvalNames", fn := fun _ => fun
  | [] => { results := [.lit (.bool false)], args := [] }
  | _ => none }
def JsonvalNamesWrongFalsely : Prop := jsonvalNamesRow.holds Tryd.pinned (OpenSpec.ofChange jsonvalNamesWrong)

/-- 'docketlaw01.JsonvalParses': WHATEVER THE INPUT: true; the input reads as it did. -/
def jsonvalParsesSpec : ChangeSpec := { name := "jsonvalParses", fn := fun _ => fun
  | [d] => { results := [.lit (.bool true)], args := [d] }
  | _ => none }
def jsonvalParsesRow : OpenClaim := { program := "ytbkbokfegjodnaadoor", sum := "a188d7aef21766cc8d455d7b94490b2cda4fe50a009c7ff408ae1b8337d9ad10", func := "docket/docketlaw01.JsonvalParses", spec := "jsonvalParses", unfollowed := true, recurses := true, named := ["strconv.ErrSyntax", "strconv.ErrRange", "internal/strconv.uint64pow10", "math/bits.deBruijn32tab", "math/bits.deBruijn64tab", "unicode/utf8.first", "unicode/utf8.acceptRanges"], apart := false, laid := [("math/bits.deBruijn32tab", laid_math_bits_deBruijn32tab), ("math/bits.deBruijn64tab", laid_math_bits_deBruijn64tab), ("internal/strconv.uint64pow10", laid_internal_strconv_uint64pow10), ("unicode/utf8.acceptRanges", laid_unicode_utf8_acceptRanges), ("strconv.ErrRange", laid_strconv_ErrRange), ("strconv.ErrSyntax", laid_strconv_ErrSyntax), ("unicode/utf8.first", laid_unicode_utf8_first)] }
def JsonvalParsesSaid : Prop := jsonvalParsesRow.holds Tryd.pinned (OpenSpec.ofChange jsonvalParsesSpec)

/-- ITS FALSE NEIGHBOUR: 'it returns false'. Refute it at one input. -/
def jsonvalParsesWrong : ChangeSpec := { name := "jsonvalParses", fn := fun _ => fun
  | [d] => { results := [.lit (.bool false)], args := [d] }
  | _ => none }
def JsonvalParsesWrongFalsely : Prop := jsonvalParsesRow.holds Tryd.pinned (OpenSpec.ofChange jsonvalParsesWrong)

/-- 'docketlaw01.JsonvalBack': WHATEVER THE INPUT: true; the input reads as it did. -/
def jsonvalBackSpec : ChangeSpec := { name := "jsonvalBack", fn := fun _ => fun
  | [d] => { results := [.lit (.bool true)], args := [d] }
  | _ => none }
def jsonvalBackRow : OpenClaim := { program := "ytbkbokfegjodnaadoor", sum := "a188d7aef21766cc8d455d7b94490b2cda4fe50a009c7ff408ae1b8337d9ad10", func := "docket/docketlaw01.JsonvalBack", spec := "jsonvalBack", unfollowed := true, recurses := true, named := ["unicode/utf8.first", "unicode/utf8.acceptRanges", "internal/strconv.uint64pow10", "math/bits.deBruijn32tab", "math/bits.deBruijn64tab", "strconv.ErrSyntax", "strconv.ErrRange"], loops := true, apart := false, laid := [("math/bits.deBruijn32tab", laid_math_bits_deBruijn32tab), ("math/bits.deBruijn64tab", laid_math_bits_deBruijn64tab), ("internal/strconv.uint64pow10", laid_internal_strconv_uint64pow10), ("unicode/utf8.acceptRanges", laid_unicode_utf8_acceptRanges), ("strconv.ErrRange", laid_strconv_ErrRange), ("strconv.ErrSyntax", laid_strconv_ErrSyntax), ("unicode/utf8.first", laid_unicode_utf8_first)] }
def JsonvalBackSaid : Prop := jsonvalBackRow.holds Tryd.pinned (OpenSpec.ofChange jsonvalBackSpec)

/-- ITS FALSE NEIGHBOUR: 'it returns false'. Refute it at one input. -/
def jsonvalBackWrong : ChangeSpec := { name := "jsonvalBack", fn := fun _ => fun
  | [d] => { results := [.lit (.bool false)], args := [d] }
  | _ => none }
def JsonvalBackWrongFalsely : Prop := jsonvalBackRow.holds Tryd.pinned (OpenSpec.ofChange jsonvalBackWrong)

/-- 'docketlaw01.JsonvalForm': WHATEVER THE INPUT: true; the input reads as it did. -/
def jsonvalFormSpec : ChangeSpec := { name := "jsonvalForm", fn := fun _ => fun
  | [d] => { results := [.lit (.bool true)], args := [d] }
  | _ => none }
def jsonvalFormRow : OpenClaim := { program := "ytbkbokfegjodnaadoor", sum := "a188d7aef21766cc8d455d7b94490b2cda4fe50a009c7ff408ae1b8337d9ad10", func := "docket/docketlaw01.JsonvalForm", spec := "jsonvalForm", unfollowed := true, recurses := true, named := ["strconv.ErrSyntax", "strconv.ErrRange", "internal/strconv.uint64pow10", "math/bits.deBruijn32tab", "math/bits.deBruijn64tab", "unicode/utf8.first", "unicode/utf8.acceptRanges"], apart := false, laid := [("math/bits.deBruijn32tab", laid_math_bits_deBruijn32tab), ("math/bits.deBruijn64tab", laid_math_bits_deBruijn64tab), ("internal/strconv.uint64pow10", laid_internal_strconv_uint64pow10), ("unicode/utf8.acceptRanges", laid_unicode_utf8_acceptRanges), ("strconv.ErrRange", laid_strconv_ErrRange), ("strconv.ErrSyntax", laid_strconv_ErrSyntax), ("unicode/utf8.first", laid_unicode_utf8_first)] }
def JsonvalFormSaid : Prop := jsonvalFormRow.holds Tryd.pinned (OpenSpec.ofChange jsonvalFormSpec)

/-- ITS FALSE NEIGHBOUR: 'it returns false'. Refute it at one input. -/
def jsonvalFormWrong : ChangeSpec := { name := "jsonvalForm", fn := fun _ => fun
  | [d] => { results := [.lit (.bool false)], args := [d] }
  | _ => none }
def JsonvalFormWrongFalsely : Prop := jsonvalFormRow.holds Tryd.pinned (OpenSpec.ofChange jsonvalFormWrong)

/-- 'docketlaw01.JsonvalFirst': WHATEVER THE INPUT: true; the input reads as it did. -/
def jsonvalFirstSpec : ChangeSpec := { name := "jsonvalFirst", fn := fun _ => fun
  | [d] => { results := [.lit (.bool true)], args := [d] }
  | _ => none }
def jsonvalFirstRow : OpenClaim := { program := "ytbkbokfegjodnaadoor", sum := "a188d7aef21766cc8d455d7b94490b2cda4fe50a009c7ff408ae1b8337d9ad10", func := "docket/docketlaw01.JsonvalFirst", spec := "jsonvalFirst", unfollowed := true, recurses := true, named := ["strconv.ErrSyntax", "strconv.ErrRange", "internal/strconv.uint64pow10", "math/bits.deBruijn32tab", "math/bits.deBruijn64tab", "unicode/utf8.first", "unicode/utf8.acceptRanges"], apart := false, laid := [("math/bits.deBruijn32tab", laid_math_bits_deBruijn32tab), ("math/bits.deBruijn64tab", laid_math_bits_deBruijn64tab), ("internal/strconv.uint64pow10", laid_internal_strconv_uint64pow10), ("unicode/utf8.acceptRanges", laid_unicode_utf8_acceptRanges), ("strconv.ErrRange", laid_strconv_ErrRange), ("strconv.ErrSyntax", laid_strconv_ErrSyntax), ("unicode/utf8.first", laid_unicode_utf8_first)] }
def JsonvalFirstSaid : Prop := jsonvalFirstRow.holds Tryd.pinned (OpenSpec.ofChange jsonvalFirstSpec)

/-- ITS FALSE NEIGHBOUR: 'it returns false'. Refute it at one input. -/
def jsonvalFirstWrong : ChangeSpec := { name := "jsonvalFirst", fn := fun _ => fun
  | [d] => { results := [.lit (.bool false)], args := [d] }
  | _ => none }
def JsonvalFirstWrongFalsely : Prop := jsonvalFirstRow.holds Tryd.pinned (OpenSpec.ofChange jsonvalFirstWrong)

/-- 'docketlaw01.JsonvalOwn': WHATEVER THE INPUT: true; the input reads as it did. -/
def jsonvalOwnSpec : ChangeSpec := { name := "jsonvalOwn", fn := fun _ => fun
  | [d] => { results := [.lit (.bool true)], args := [d] }
  | _ => none }
def jsonvalOwnRow : OpenClaim := { program := "ytbkbokfegjodnaadoor", sum := "a188d7aef21766cc8d455d7b94490b2cda4fe50a009c7ff408ae1b8337d9ad10", func := "docket/docketlaw01.JsonvalOwn", spec := "jsonvalOwn", unfollowed := true, recurses := true, named := ["strconv.ErrSyntax", "strconv.ErrRange", "internal/strconv.uint64pow10", "math/bits.deBruijn32tab", "math/bits.deBruijn64tab", "unicode/utf8.first", "unicode/utf8.acceptRanges"], apart := false, laid := [("math/bits.deBruijn32tab", laid_math_bits_deBruijn32tab), ("math/bits.deBruijn64tab", laid_math_bits_deBruijn64tab), ("internal/strconv.uint64pow10", laid_internal_strconv_uint64pow10), ("unicode/utf8.acceptRanges", laid_unicode_utf8_acceptRanges), ("strconv.ErrRange", laid_strconv_ErrRange), ("strconv.ErrSyntax", laid_strconv_ErrSyntax), ("unicode/utf8.first", laid_unicode_utf8_first)] }
def JsonvalOwnSaid : Prop := jsonvalOwnRow.holds Tryd.pinned (OpenSpec.ofChange jsonvalOwnSpec)

/-- ITS FALSE NEIGHBOUR: 'it returns false'. Refute it at one input. -/
def jsonvalOwnWrong : ChangeSpec := { name := "jsonvalOwn", fn := fun _ => fun
  | [d] => { results := [.lit (.bool false)], args := [d] }
  | _ => none }
def JsonvalOwnWrongFalsely : Prop := jsonvalOwnRow.holds Tryd.pinned (OpenSpec.ofChange jsonvalOwnWrong)

/-- 'docketlaw01.JsonvalPrints': WHATEVER THE INPUT: true; the input reads as it did. -/
def jsonvalPrintsSpec : ChangeSpec := { name := "jsonvalPrints", fn := fun _ => fun
  | [d] => { results := [.lit (.bool true)], args := [d] }
  | _ => none }
def jsonvalPrintsRow : OpenClaim := { program := "ytbkbokfegjodnaadoor", sum := "a188d7aef21766cc8d455d7b94490b2cda4fe50a009c7ff408ae1b8337d9ad10", func := "docket/docketlaw01.JsonvalPrints", spec := "jsonvalPrints", unfollowed := true, recurses := true, named := ["unicode/utf8.first", "unicode/utf8.acceptRanges", "internal/strconv.uint64pow10", "math/bits.deBruijn32tab", "math/bits.deBruijn64tab", "strconv.ErrSyntax", "strconv.ErrRange"], loops := true, apart := false, laid := [("math/bits.deBruijn32tab", laid_math_bits_deBruijn32tab), ("math/bits.deBruijn64tab", laid_math_bits_deBruijn64tab), ("internal/strconv.uint64pow10", laid_internal_strconv_uint64pow10), ("unicode/utf8.acceptRanges", laid_unicode_utf8_acceptRanges), ("strconv.ErrRange", laid_strconv_ErrRange), ("strconv.ErrSyntax", laid_strconv_ErrSyntax), ("unicode/utf8.first", laid_unicode_utf8_first)] }
def JsonvalPrintsSaid : Prop := jsonvalPrintsRow.holds Tryd.pinned (OpenSpec.ofChange jsonvalPrintsSpec)

/-- ITS FALSE NEIGHBOUR: 'it returns false'. Refute it at one input. -/
def jsonvalPrintsWrong : ChangeSpec := { name := "jsonvalPrints", fn := fun _ => fun
  | [d] => { results := [.lit (.bool false)], args := [d] }
  | _ => none }
def JsonvalPrintsWrongFalsely : Prop := jsonvalPrintsRow.holds Tryd.pinned (OpenSpec.ofChange jsonvalPrintsWrong)

/-- 'docketlaw01.JsonvalMakes': WHATEVER THE INPUT: true; the input reads as it did. -/
def jsonvalMakesSpec : ChangeSpec := { name := "jsonvalMakes", fn := fun _ => fun
  | [d1, d2, d3, d4] => { results := [.lit (.bool true)], args := [d1, d2, d3, d4] }
  | _ => none }
def jsonvalMakesRow : OpenClaim := { program := "ytbkbokfegjodnaadoor", sum := "a188d7aef21766cc8d455d7b94490b2cda4fe50a009c7ff408ae1b8337d9ad10", func := "docket/docketlaw01.JsonvalMakes", spec := "jsonvalMakes", unfollowed := true, recurses := true, named := ["strconv.ErrSyntax", "strconv.ErrRange", "internal/strconv.uint64pow10", "math/bits.deBruijn32tab", "math/bits.deBruijn64tab", "unicode/utf8.first", "unicode/utf8.acceptRanges"], loops := true, apart := false, laid := [("math/bits.deBruijn32tab", laid_math_bits_deBruijn32tab), ("math/bits.deBruijn64tab", laid_math_bits_deBruijn64tab), ("internal/strconv.uint64pow10", laid_internal_strconv_uint64pow10), ("unicode/utf8.acceptRanges", laid_unicode_utf8_acceptRanges), ("strconv.ErrRange", laid_strconv_ErrRange), ("strconv.ErrSyntax", laid_strconv_ErrSyntax), ("unicode/utf8.first", laid_unicode_utf8_first)] }
def JsonvalMakesSaid : Prop := jsonvalMakesRow.holds Tryd.pinned (OpenSpec.ofChange jsonvalMakesSpec)

/-- ITS FALSE NEIGHBOUR: 'it returns false'. Refute it at one input. -/
def jsonvalMakesWrong : ChangeSpec := { name := "jsonvalMakes", fn := fun _ => fun
  | [d1, d2, d3, d4] => { results := [.lit (.bool false)], args := [d1, d2, d3, d4] }
  | _ => none }
def JsonvalMakesWrongFalsely : Prop := jsonvalMakesRow.holds Tryd.pinned (OpenSpec.ofChange jsonvalMakesWrong)

/-- 'docketlaw01.JsonvalUnlike': WHATEVER THE INPUT: true; the input reads as it did. -/
def jsonvalUnlikeSpec : ChangeSpec := { name := "jsonvalUnlike", fn := fun _ => fun
  | [d1, d2] => { results := [.lit (.bool true)], args := [d1, d2] }
  | _ => none }
def jsonvalUnlikeRow : OpenClaim := { program := "ytbkbokfegjodnaadoor", sum := "a188d7aef21766cc8d455d7b94490b2cda4fe50a009c7ff408ae1b8337d9ad10", func := "docket/docketlaw01.JsonvalUnlike", spec := "jsonvalUnlike", unfollowed := true, recurses := true, named := ["unicode/utf8.first", "unicode/utf8.acceptRanges", "internal/strconv.uint64pow10", "math/bits.deBruijn32tab", "math/bits.deBruijn64tab", "strconv.ErrSyntax", "strconv.ErrRange"], loops := true, apart := false, laid := [("math/bits.deBruijn32tab", laid_math_bits_deBruijn32tab), ("math/bits.deBruijn64tab", laid_math_bits_deBruijn64tab), ("internal/strconv.uint64pow10", laid_internal_strconv_uint64pow10), ("unicode/utf8.acceptRanges", laid_unicode_utf8_acceptRanges), ("strconv.ErrRange", laid_strconv_ErrRange), ("strconv.ErrSyntax", laid_strconv_ErrSyntax), ("unicode/utf8.first", laid_unicode_utf8_first)] }
def JsonvalUnlikeSaid : Prop := jsonvalUnlikeRow.holds Tryd.pinned (OpenSpec.ofChange jsonvalUnlikeSpec)

/-- ITS FALSE NEIGHBOUR: 'it returns false'. Refute it at one input. -/
def jsonvalUnlikeWrong : ChangeSpec := { name := "jsonvalUnlike", fn := fun _ => fun
  | [d1, d2] => { results := [.lit (.bool false)], args := [d1, d2] }
  | _ => none }
def JsonvalUnlikeWrongFalsely : Prop := jsonvalUnlikeRow.holds Tryd.pinned (OpenSpec.ofChange jsonvalUnlikeWrong)

/-- 'docketlaw01.JsonvalAsks': WHATEVER THE INPUT: true; the input reads as it did. -/
def jsonvalAsksSpec : ChangeSpec := { name := "jsonvalAsks", fn := fun _ => fun
  | [d1, d2] => { results := [.lit (.bool true)], args := [d1, d2] }
  | _ => none }
def jsonvalAsksRow : OpenClaim := { program := "ytbkbokfegjodnaadoor", sum := "a188d7aef21766cc8d455d7b94490b2cda4fe50a009c7ff408ae1b8337d9ad10", func := "docket/docketlaw01.JsonvalAsks", spec := "jsonvalAsks", unfollowed := true, recurses := true, named := ["strconv.ErrSyntax", "strconv.ErrRange", "internal/strconv.uint64pow10", "math/bits.deBruijn32tab", "math/bits.deBruijn64tab", "unicode/utf8.first", "unicode/utf8.acceptRanges"], loops := true, apart := false, laid := [("math/bits.deBruijn32tab", laid_math_bits_deBruijn32tab), ("math/bits.deBruijn64tab", laid_math_bits_deBruijn64tab), ("internal/strconv.uint64pow10", laid_internal_strconv_uint64pow10), ("unicode/utf8.acceptRanges", laid_unicode_utf8_acceptRanges), ("strconv.ErrRange", laid_strconv_ErrRange), ("strconv.ErrSyntax", laid_strconv_ErrSyntax), ("unicode/utf8.first", laid_unicode_utf8_first)] }
def JsonvalAsksSaid : Prop := jsonvalAsksRow.holds Tryd.pinned (OpenSpec.ofChange jsonvalAsksSpec)

/-- ITS FALSE NEIGHBOUR: 'it returns false'. Refute it at one input. -/
def jsonvalAsksWrong : ChangeSpec := { name := "jsonvalAsks", fn := fun _ => fun
  | [d1, d2] => { results := [.lit (.bool false)], args := [d1, d2] }
  | _ => none }
def JsonvalAsksWrongFalsely : Prop := jsonvalAsksRow.holds Tryd.pinned (OpenSpec.ofChange jsonvalAsksWrong)

/-- 'docketlaw01.JsonvalEquals': WHATEVER THE INPUT: true; the input reads as it did. -/
def jsonvalEqualsSpec : ChangeSpec := { name := "jsonvalEquals", fn := fun _ => fun
  | [d1, d2] => { results := [.lit (.bool true)], args := [d1, d2] }
  | _ => none }
def jsonvalEqualsRow : OpenClaim := { program := "ytbkbokfegjodnaadoor", sum := "a188d7aef21766cc8d455d7b94490b2cda4fe50a009c7ff408ae1b8337d9ad10", func := "docket/docketlaw01.JsonvalEquals", spec := "jsonvalEquals", unfollowed := true, recurses := true, named := ["strconv.ErrSyntax", "strconv.ErrRange", "internal/strconv.uint64pow10", "math/bits.deBruijn32tab", "math/bits.deBruijn64tab", "unicode/utf8.first", "unicode/utf8.acceptRanges"], loops := true, apart := false, laid := [("math/bits.deBruijn32tab", laid_math_bits_deBruijn32tab), ("math/bits.deBruijn64tab", laid_math_bits_deBruijn64tab), ("internal/strconv.uint64pow10", laid_internal_strconv_uint64pow10), ("unicode/utf8.acceptRanges", laid_unicode_utf8_acceptRanges), ("strconv.ErrRange", laid_strconv_ErrRange), ("strconv.ErrSyntax", laid_strconv_ErrSyntax), ("unicode/utf8.first", laid_unicode_utf8_first)] }
def JsonvalEqualsSaid : Prop := jsonvalEqualsRow.holds Tryd.pinned (OpenSpec.ofChange jsonvalEqualsSpec)

/-- ITS FALSE NEIGHBOUR: 'it returns false'. Refute it at one input. -/
def jsonvalEqualsWrong : ChangeSpec := { name := "jsonvalEquals", fn := fun _ => fun
  | [d1, d2] => { results := [.lit (.bool false)], args := [d1, d2] }
  | _ => none }
def JsonvalEqualsWrongFalsely : Prop := jsonvalEqualsRow.holds Tryd.pinned (OpenSpec.ofChange jsonvalEqualsWrong)

/- THE SECOND FORM. 'bulk': how many values and letters a reading holds, each counted each time it is reached (what is shared counts as often as it is met; a slice's spare places count too). A statement '..UptoSaid' is the law's where the arguments, and the package variables that the reading takes, are together of bulk at most 1048576: NARROWER than '..Said'. Prove '..Said' where nothing that the law and all that it calls make is longer than what came in: it says more and counts as full. Else prove '..UptoSaid'. A law counts once. -/
mutual
def uptoBulk {H : Type} : DataW H → Nat
  | .lit (.string bytes) => bytes.length + 1
  | .lit _ => 1
  | .nil => 1
  | .ptr d => uptoBulk d + 1
  | .slice elems spare => uptoBulkAll elems + uptoBulkAll spare + 1
  | .agg parts => uptoBulkAll parts + 1
  | .iface _ d => uptoBulk d + 1
  | .map entries => uptoBulkEntries entries + 1
  | .held _ => 1
def uptoBulkAll {H : Type} : List (DataW H) → Nat
  | [] => 0
  | d :: r => uptoBulk d + uptoBulkAll r
def uptoBulkEntries {H : Type} : List (Lit × DataW H) → Nat
  | [] => 0
  | x :: r => uptoBulkEntry x + uptoBulkEntries r
def uptoBulkEntry {H : Type} : Lit × DataW H → Nat
  | (.string bytes, d) => bytes.length + uptoBulk d + 1
  | (_, d) => uptoBulk d + 1
 end
def uptoSmall : (H : Type) → List (DataW H) → Bool := fun _ ds => decide (uptoBulkAll ds ≤ 1048576)
def OpenSpec.upto (s : _root_.Go.ChangeSpec) : _root_.Go.OpenSpec := { _root_.Go.OpenSpec.ofChange s with cond := some uptoSmall }

/-- 'docketlaw01.JsonvalNames', WHERE WHAT IT READS IS OF BULK AT MOST 1048576: true; the input reads as it did. -/
def jsonvalNamesUptoRow : OpenClaim := { program := "ytbkbokfegjodnaadoor", sum := "a188d7aef21766cc8d455d7b94490b2cda4fe50a009c7ff408ae1b8337d9ad10", func := "docket/docketlaw01.JsonvalNames", spec := "jsonvalNames", unfollowed := true, recurses := true, named := ["strconv.ErrSyntax", "strconv.ErrRange", "internal/strconv.uint64pow10", "math/bits.deBruijn32tab", "math/bits.deBruijn64tab", "unicode/utf8.first", "unicode/utf8.acceptRanges"], apart := false, laid := [("math/bits.deBruijn32tab", laid_math_bits_deBruijn32tab), ("math/bits.deBruijn64tab", laid_math_bits_deBruijn64tab), ("internal/strconv.uint64pow10", laid_internal_strconv_uint64pow10), ("unicode/utf8.acceptRanges", laid_unicode_utf8_acceptRanges), ("strconv.ErrRange", laid_strconv_ErrRange), ("strconv.ErrSyntax", laid_strconv_ErrSyntax), ("unicode/utf8.first", laid_unicode_utf8_first)], narrowed := true }
def JsonvalNamesUptoSaid : Prop := jsonvalNamesUptoRow.holds Tryd.pinned (OpenSpec.upto jsonvalNamesSpec)

/-- 'docketlaw01.JsonvalParses', WHERE WHAT IT READS IS OF BULK AT MOST 1048576: true; the input reads as it did. -/
def jsonvalParsesUptoRow : OpenClaim := { program := "ytbkbokfegjodnaadoor", sum := "a188d7aef21766cc8d455d7b94490b2cda4fe50a009c7ff408ae1b8337d9ad10", func := "docket/docketlaw01.JsonvalParses", spec := "jsonvalParses", unfollowed := true, recurses := true, named := ["strconv.ErrSyntax", "strconv.ErrRange", "internal/strconv.uint64pow10", "math/bits.deBruijn32tab", "math/bits.deBruijn64tab", "unicode/utf8.first", "unicode/utf8.acceptRanges"], apart := false, laid := [("math/bits.deBruijn32tab", laid_math_bits_deBruijn32tab), ("math/bits.deBruijn64tab", laid_math_bits_deBruijn64tab), ("internal/strconv.uint64pow10", laid_internal_strconv_uint64pow10), ("unicode/utf8.acceptRanges", laid_unicode_utf8_acceptRanges), ("strconv.ErrRange", laid_strconv_ErrRange), ("strconv.ErrSyntax", laid_strconv_ErrSyntax), ("unicode/utf8.first", laid_unicode_utf8_first)], narrowed := true }
def JsonvalParsesUptoSaid : Prop := jsonvalParsesUptoRow.holds Tryd.pinned (OpenSpec.upto jsonvalParsesSpec)

/-- 'docketlaw01.JsonvalBack', WHERE WHAT IT READS IS OF BULK AT MOST 1048576: true; the input reads as it did. -/
def jsonvalBackUptoRow : OpenClaim := { program := "ytbkbokfegjodnaadoor", sum := "a188d7aef21766cc8d455d7b94490b2cda4fe50a009c7ff408ae1b8337d9ad10", func := "docket/docketlaw01.JsonvalBack", spec := "jsonvalBack", unfollowed := true, recurses := true, named := ["unicode/utf8.first", "unicode/utf8.acceptRanges", "internal/strconv.uint64pow10", "math/bits.deBruijn32tab", "math/bits.deBruijn64tab", "strconv.ErrSyntax", "strconv.ErrRange"], loops := true, apart := false, laid := [("math/bits.deBruijn32tab", laid_math_bits_deBruijn32tab), ("math/bits.deBruijn64tab", laid_math_bits_deBruijn64tab), ("internal/strconv.uint64pow10", laid_internal_strconv_uint64pow10), ("unicode/utf8.acceptRanges", laid_unicode_utf8_acceptRanges), ("strconv.ErrRange", laid_strconv_ErrRange), ("strconv.ErrSyntax", laid_strconv_ErrSyntax), ("unicode/utf8.first", laid_unicode_utf8_first)], narrowed := true }
def JsonvalBackUptoSaid : Prop := jsonvalBackUptoRow.holds Tryd.pinned (OpenSpec.upto jsonvalBackSpec)

/-- 'docketlaw01.JsonvalForm', WHERE WHAT IT READS IS OF BULK AT MOST 1048576: true; the input reads as it did. -/
def jsonvalFormUptoRow : OpenClaim := { program := "ytbkbokfegjodnaadoor", sum := "a188d7aef21766cc8d455d7b94490b2cda4fe50a009c7ff408ae1b8337d9ad10", func := "docket/docketlaw01.JsonvalForm", spec := "jsonvalForm", unfollowed := true, recurses := true, named := ["strconv.ErrSyntax", "strconv.ErrRange", "internal/strconv.uint64pow10", "math/bits.deBruijn32tab", "math/bits.deBruijn64tab", "unicode/utf8.first", "unicode/utf8.acceptRanges"], apart := false, laid := [("math/bits.deBruijn32tab", laid_math_bits_deBruijn32tab), ("math/bits.deBruijn64tab", laid_math_bits_deBruijn64tab), ("internal/strconv.uint64pow10", laid_internal_strconv_uint64pow10), ("unicode/utf8.acceptRanges", laid_unicode_utf8_acceptRanges), ("strconv.ErrRange", laid_strconv_ErrRange), ("strconv.ErrSyntax", laid_strconv_ErrSyntax), ("unicode/utf8.first", laid_unicode_utf8_first)], narrowed := true }
def JsonvalFormUptoSaid : Prop := jsonvalFormUptoRow.holds Tryd.pinned (OpenSpec.upto jsonvalFormSpec)

/-- 'docketlaw01.JsonvalFirst', WHERE WHAT IT READS IS OF BULK AT MOST 1048576: true; the input reads as it did. -/
def jsonvalFirstUptoRow : OpenClaim := { program := "ytbkbokfegjodnaadoor", sum := "a188d7aef21766cc8d455d7b94490b2cda4fe50a009c7ff408ae1b8337d9ad10", func := "docket/docketlaw01.JsonvalFirst", spec := "jsonvalFirst", unfollowed := true, recurses := true, named := ["strconv.ErrSyntax", "strconv.ErrRange", "internal/strconv.uint64pow10", "math/bits.deBruijn32tab", "math/bits.deBruijn64tab", "unicode/utf8.first", "unicode/utf8.acceptRanges"], apart := false, laid := [("math/bits.deBruijn32tab", laid_math_bits_deBruijn32tab), ("math/bits.deBruijn64tab", laid_math_bits_deBruijn64tab), ("internal/strconv.uint64pow10", laid_internal_strconv_uint64pow10), ("unicode/utf8.acceptRanges", laid_unicode_utf8_acceptRanges), ("strconv.ErrRange", laid_strconv_ErrRange), ("strconv.ErrSyntax", laid_strconv_ErrSyntax), ("unicode/utf8.first", laid_unicode_utf8_first)], narrowed := true }
def JsonvalFirstUptoSaid : Prop := jsonvalFirstUptoRow.holds Tryd.pinned (OpenSpec.upto jsonvalFirstSpec)

/-- 'docketlaw01.JsonvalOwn', WHERE WHAT IT READS IS OF BULK AT MOST 1048576: true; the input reads as it did. -/
def jsonvalOwnUptoRow : OpenClaim := { program := "ytbkbokfegjodnaadoor", sum := "a188d7aef21766cc8d455d7b94490b2cda4fe50a009c7ff408ae1b8337d9ad10", func := "docket/docketlaw01.JsonvalOwn", spec := "jsonvalOwn", unfollowed := true, recurses := true, named := ["strconv.ErrSyntax", "strconv.ErrRange", "internal/strconv.uint64pow10", "math/bits.deBruijn32tab", "math/bits.deBruijn64tab", "unicode/utf8.first", "unicode/utf8.acceptRanges"], apart := false, laid := [("math/bits.deBruijn32tab", laid_math_bits_deBruijn32tab), ("math/bits.deBruijn64tab", laid_math_bits_deBruijn64tab), ("internal/strconv.uint64pow10", laid_internal_strconv_uint64pow10), ("unicode/utf8.acceptRanges", laid_unicode_utf8_acceptRanges), ("strconv.ErrRange", laid_strconv_ErrRange), ("strconv.ErrSyntax", laid_strconv_ErrSyntax), ("unicode/utf8.first", laid_unicode_utf8_first)], narrowed := true }
def JsonvalOwnUptoSaid : Prop := jsonvalOwnUptoRow.holds Tryd.pinned (OpenSpec.upto jsonvalOwnSpec)

/-- 'docketlaw01.JsonvalPrints', WHERE WHAT IT READS IS OF BULK AT MOST 1048576: true; the input reads as it did. -/
def jsonvalPrintsUptoRow : OpenClaim := { program := "ytbkbokfegjodnaadoor", sum := "a188d7aef21766cc8d455d7b94490b2cda4fe50a009c7ff408ae1b8337d9ad10", func := "docket/docketlaw01.JsonvalPrints", spec := "jsonvalPrints", unfollowed := true, recurses := true, named := ["unicode/utf8.first", "unicode/utf8.acceptRanges", "internal/strconv.uint64pow10", "math/bits.deBruijn32tab", "math/bits.deBruijn64tab", "strconv.ErrSyntax", "strconv.ErrRange"], loops := true, apart := false, laid := [("math/bits.deBruijn32tab", laid_math_bits_deBruijn32tab), ("math/bits.deBruijn64tab", laid_math_bits_deBruijn64tab), ("internal/strconv.uint64pow10", laid_internal_strconv_uint64pow10), ("unicode/utf8.acceptRanges", laid_unicode_utf8_acceptRanges), ("strconv.ErrRange", laid_strconv_ErrRange), ("strconv.ErrSyntax", laid_strconv_ErrSyntax), ("unicode/utf8.first", laid_unicode_utf8_first)], narrowed := true }
def JsonvalPrintsUptoSaid : Prop := jsonvalPrintsUptoRow.holds Tryd.pinned (OpenSpec.upto jsonvalPrintsSpec)

/-- 'docketlaw01.JsonvalMakes', WHERE WHAT IT READS IS OF BULK AT MOST 1048576: true; the input reads as it did. -/
def jsonvalMakesUptoRow : OpenClaim := { program := "ytbkbokfegjodnaadoor", sum := "a188d7aef21766cc8d455d7b94490b2cda4fe50a009c7ff408ae1b8337d9ad10", func := "docket/docketlaw01.JsonvalMakes", spec := "jsonvalMakes", unfollowed := true, recurses := true, named := ["strconv.ErrSyntax", "strconv.ErrRange", "internal/strconv.uint64pow10", "math/bits.deBruijn32tab", "math/bits.deBruijn64tab", "unicode/utf8.first", "unicode/utf8.acceptRanges"], loops := true, apart := false, laid := [("math/bits.deBruijn32tab", laid_math_bits_deBruijn32tab), ("math/bits.deBruijn64tab", laid_math_bits_deBruijn64tab), ("internal/strconv.uint64pow10", laid_internal_strconv_uint64pow10), ("unicode/utf8.acceptRanges", laid_unicode_utf8_acceptRanges), ("strconv.ErrRange", laid_strconv_ErrRange), ("strconv.ErrSyntax", laid_strconv_ErrSyntax), ("unicode/utf8.first", laid_unicode_utf8_first)], narrowed := true }
def JsonvalMakesUptoSaid : Prop := jsonvalMakesUptoRow.holds Tryd.pinned (OpenSpec.upto jsonvalMakesSpec)

/-- 'docketlaw01.JsonvalUnlike', WHERE WHAT IT READS IS OF BULK AT MOST 1048576: true; the input reads as it did. -/
def jsonvalUnlikeUptoRow : OpenClaim := { program := "ytbkbokfegjodnaadoor", sum := "a188d7aef21766cc8d455d7b94490b2cda4fe50a009c7ff408ae1b8337d9ad10", func := "docket/docketlaw01.JsonvalUnlike", spec := "jsonvalUnlike", unfollowed := true, recurses := true, named := ["unicode/utf8.first", "unicode/utf8.acceptRanges", "internal/strconv.uint64pow10", "math/bits.deBruijn32tab", "math/bits.deBruijn64tab", "strconv.ErrSyntax", "strconv.ErrRange"], loops := true, apart := false, laid := [("math/bits.deBruijn32tab", laid_math_bits_deBruijn32tab), ("math/bits.deBruijn64tab", laid_math_bits_deBruijn64tab), ("internal/strconv.uint64pow10", laid_internal_strconv_uint64pow10), ("unicode/utf8.acceptRanges", laid_unicode_utf8_acceptRanges), ("strconv.ErrRange", laid_strconv_ErrRange), ("strconv.ErrSyntax", laid_strconv_ErrSyntax), ("unicode/utf8.first", laid_unicode_utf8_first)], narrowed := true }
def JsonvalUnlikeUptoSaid : Prop := jsonvalUnlikeUptoRow.holds Tryd.pinned (OpenSpec.upto jsonvalUnlikeSpec)

/-- 'docketlaw01.JsonvalAsks', WHERE WHAT IT READS IS OF BULK AT MOST 1048576: true; the input reads as it did. -/
def jsonvalAsksUptoRow : OpenClaim := { program := "ytbkbokfegjodnaadoor", sum := "a188d7aef21766cc8d455d7b94490b2cda4fe50a009c7ff408ae1b8337d9ad10", func := "docket/docketlaw01.JsonvalAsks", spec := "jsonvalAsks", unfollowed := true, recurses := true, named := ["strconv.ErrSyntax", "strconv.ErrRange", "internal/strconv.uint64pow10", "math/bits.deBruijn32tab", "math/bits.deBruijn64tab", "unicode/utf8.first", "unicode/utf8.acceptRanges"], loops := true, apart := false, laid := [("math/bits.deBruijn32tab", laid_math_bits_deBruijn32tab), ("math/bits.deBruijn64tab", laid_math_bits_deBruijn64tab), ("internal/strconv.uint64pow10", laid_internal_strconv_uint64pow10), ("unicode/utf8.acceptRanges", laid_unicode_utf8_acceptRanges), ("strconv.ErrRange", laid_strconv_ErrRange), ("strconv.ErrSyntax", laid_strconv_ErrSyntax), ("unicode/utf8.first", laid_unicode_utf8_first)], narrowed := true }
def JsonvalAsksUptoSaid : Prop := jsonvalAsksUptoRow.holds Tryd.pinned (OpenSpec.upto jsonvalAsksSpec)

/-- 'docketlaw01.JsonvalEquals', WHERE WHAT IT READS IS OF BULK AT MOST 1048576: true; the input reads as it did. -/
def jsonvalEqualsUptoRow : OpenClaim := { program := "ytbkbokfegjodnaadoor", sum := "a188d7aef21766cc8d455d7b94490b2cda4fe50a009c7ff408ae1b8337d9ad10", func := "docket/docketlaw01.JsonvalEquals", spec := "jsonvalEquals", unfollowed := true, recurses := true, named := ["strconv.ErrSyntax", "strconv.ErrRange", "internal/strconv.uint64pow10", "math/bits.deBruijn32tab", "math/bits.deBruijn64tab", "unicode/utf8.first", "unicode/utf8.acceptRanges"], loops := true, apart := false, laid := [("math/bits.deBruijn32tab", laid_math_bits_deBruijn32tab), ("math/bits.deBruijn64tab", laid_math_bits_deBruijn64tab), ("internal/strconv.uint64pow10", laid_internal_strconv_uint64pow10), ("unicode/utf8.acceptRanges", laid_unicode_utf8_acceptRanges), ("strconv.ErrRange", laid_strconv_ErrRange), ("strconv.ErrSyntax", laid_strconv_ErrSyntax), ("unicode/utf8.first", laid_unicode_utf8_first)], narrowed := true }
def JsonvalEqualsUptoSaid : Prop := jsonvalEqualsUptoRow.holds Tryd.pinned (OpenSpec.upto jsonvalEqualsSpec)

end Rows
end Go.Proofs.YtbkbokfegjodnaaDoor
