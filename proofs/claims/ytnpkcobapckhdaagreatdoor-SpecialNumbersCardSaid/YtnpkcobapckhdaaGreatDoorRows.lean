/-
  NARROWER THAN 'FOR EVERY INPUT', by the rows' own cells (each row's printed sentence says how): SpecialLists: laid · SpecialTable: laid · SpecialOnce: laid · SpecialNumbers: laid · SpecialDays: laid · SpecialKana: laid · SpecialKnown: laid · CaldateParses: laid · CaldateUnique: laid · CaldateKnown: laid.
  DERIVED. THE GIVEN ROWS OF THIS SEAT. 10 by the template 'for every input the law returns true; each argument reads behind the call as it read before'; 0 by the template 'total and deterministic' (their statements: YtnpkcobapckhdaaGreatDoorTotals.lean).
  GIVEN WITH THE SEED: the statements are not yours to turn. If you find one false, say at which input.
  Laid BY PROGRAM, IN A SANDBOX (cutbox-rows.mjs): the forced cells as the released guide's own fill.sh prints them over the translation 6c25ab982650e5e8… (all of the seat's roots in one cut). By AI agents, Wed Nov 11 2026. No macro, syntax, notation, axiom, sorry.
-/
import Derived.Test.YtnpkcobapckhdaaGreatDoorChecked
import GoSem.PinnedTables
import GoSem.Claim
import GoSem.ClaimJoined
import GoSem.ClaimMapViews
import Derived.JoinedTies
import Derived.KernelRfl
namespace Go.Proofs.YtnpkcobapckhdaaGreatDoor
/- THE CELL 'sum', in the pinned program and in every row, IS THE sha256 OF THE DUMP (.gsa) THAT YtnpkcobapckhdaaGreatDoorProg.lean LOADS. Nothing in Lean hashes anything: it is a label: what it is worth is what the hold of that sum in a sandbox is worth. -/
noncomputable def Tryz.pinned : Pinned := { name := "ytnpkcobapckhdaagreatdoor", sum := "6c25ab982650e5e8516831f7f8f0265886fb36d3e2e8bfdee9cd0640ff113ce2", checked := Tryz.checked }
namespace Rows
def none {H : Type} : Left H := { results := [], args := [] }

/- WHAT THE LISTED PACKAGE-LEVEL VARIABLES READ AS WHEN THE CALL BEGINS. Each datum BY PROGRAM (the guide's laid-datum.mjs) off the statement by which the dump's own 'gosem.cut.vars' lays the variable. In a bare row this is a premise. The card (YtnpkcobapckhdaaGreatDoorCards.lean) ties it to the program's text. -/
def laid_math_bits_deBruijn32tab {H : Type} : DataW H := .agg [.lit (.int .u8 0), .lit (.int .u8 1), .lit (.int .u8 28), .lit (.int .u8 2), .lit (.int .u8 29), .lit (.int .u8 14), .lit (.int .u8 24), .lit (.int .u8 3), .lit (.int .u8 30), .lit (.int .u8 22), .lit (.int .u8 20), .lit (.int .u8 15), .lit (.int .u8 25), .lit (.int .u8 17), .lit (.int .u8 4), .lit (.int .u8 8), .lit (.int .u8 31), .lit (.int .u8 27), .lit (.int .u8 13), .lit (.int .u8 23), .lit (.int .u8 21), .lit (.int .u8 19), .lit (.int .u8 16), .lit (.int .u8 7), .lit (.int .u8 26), .lit (.int .u8 12), .lit (.int .u8 18), .lit (.int .u8 6), .lit (.int .u8 11), .lit (.int .u8 5), .lit (.int .u8 10), .lit (.int .u8 9)]
def laid_math_bits_deBruijn64tab {H : Type} : DataW H := .agg [.lit (.int .u8 0), .lit (.int .u8 1), .lit (.int .u8 56), .lit (.int .u8 2), .lit (.int .u8 57), .lit (.int .u8 49), .lit (.int .u8 28), .lit (.int .u8 3), .lit (.int .u8 61), .lit (.int .u8 58), .lit (.int .u8 42), .lit (.int .u8 50), .lit (.int .u8 38), .lit (.int .u8 29), .lit (.int .u8 17), .lit (.int .u8 4), .lit (.int .u8 62), .lit (.int .u8 47), .lit (.int .u8 59), .lit (.int .u8 36), .lit (.int .u8 45), .lit (.int .u8 43), .lit (.int .u8 51), .lit (.int .u8 22), .lit (.int .u8 53), .lit (.int .u8 39), .lit (.int .u8 33), .lit (.int .u8 30), .lit (.int .u8 24), .lit (.int .u8 18), .lit (.int .u8 12), .lit (.int .u8 5), .lit (.int .u8 63), .lit (.int .u8 55), .lit (.int .u8 48), .lit (.int .u8 27), .lit (.int .u8 60), .lit (.int .u8 41), .lit (.int .u8 37), .lit (.int .u8 16), .lit (.int .u8 46), .lit (.int .u8 35), .lit (.int .u8 44), .lit (.int .u8 21), .lit (.int .u8 52), .lit (.int .u8 32), .lit (.int .u8 23), .lit (.int .u8 11), .lit (.int .u8 54), .lit (.int .u8 26), .lit (.int .u8 40), .lit (.int .u8 15), .lit (.int .u8 34), .lit (.int .u8 20), .lit (.int .u8 31), .lit (.int .u8 10), .lit (.int .u8 25), .lit (.int .u8 14), .lit (.int .u8 19), .lit (.int .u8 9), .lit (.int .u8 13), .lit (.int .u8 8), .lit (.int .u8 7), .lit (.int .u8 6)]
def laid_internal_strconv_uint64pow10 {H : Type} : DataW H := .agg [.lit (.int .u64 1), .lit (.int .u64 10), .lit (.int .u64 100), .lit (.int .u64 1000), .lit (.int .u64 10000), .lit (.int .u64 100000), .lit (.int .u64 1000000), .lit (.int .u64 10000000), .lit (.int .u64 100000000), .lit (.int .u64 1000000000), .lit (.int .u64 10000000000), .lit (.int .u64 100000000000), .lit (.int .u64 1000000000000), .lit (.int .u64 10000000000000), .lit (.int .u64 100000000000000), .lit (.int .u64 1000000000000000), .lit (.int .u64 10000000000000000), .lit (.int .u64 100000000000000000), .lit (.int .u64 1000000000000000000), .lit (.int .u64 10000000000000000000)]
def laid_unicode_utf8_acceptRanges {H : Type} : DataW H := .agg [.agg [.lit (.int .u8 128), .lit (.int .u8 191)], .agg [.lit (.int .u8 160), .lit (.int .u8 191)], .agg [.lit (.int .u8 128), .lit (.int .u8 159)], .agg [.lit (.int .u8 144), .lit (.int .u8 191)], .agg [.lit (.int .u8 128), .lit (.int .u8 143)], .agg [.lit (.int .u8 0), .lit (.int .u8 0)], .agg [.lit (.int .u8 0), .lit (.int .u8 0)], .agg [.lit (.int .u8 0), .lit (.int .u8 0)], .agg [.lit (.int .u8 0), .lit (.int .u8 0)], .agg [.lit (.int .u8 0), .lit (.int .u8 0)], .agg [.lit (.int .u8 0), .lit (.int .u8 0)], .agg [.lit (.int .u8 0), .lit (.int .u8 0)], .agg [.lit (.int .u8 0), .lit (.int .u8 0)], .agg [.lit (.int .u8 0), .lit (.int .u8 0)], .agg [.lit (.int .u8 0), .lit (.int .u8 0)], .agg [.lit (.int .u8 0), .lit (.int .u8 0)]]
def laid_henkan_numeral_plain {H : Type} : DataW H := .agg [.agg [.lit (.string [227, 128, 135]), .lit (.string [228, 184, 128]), .lit (.string [228, 186, 140]), .lit (.string [228, 184, 137]), .lit (.string [229, 155, 155]), .lit (.string [228, 186, 148]), .lit (.string [229, 133, 173]), .lit (.string [228, 184, 131]), .lit (.string [229, 133, 171]), .lit (.string [228, 185, 157])], .agg [.lit (.string []), .lit (.string [229, 141, 129]), .lit (.string [231, 153, 190]), .lit (.string [229, 141, 131])], .lit (.bool false)]
def laid_henkan_numeral_formal {H : Type} : DataW H := .agg [.agg [.lit (.string [233, 155, 182]), .lit (.string [229, 163, 177]), .lit (.string [229, 188, 144]), .lit (.string [229, 143, 130]), .lit (.string [229, 155, 155]), .lit (.string [228, 186, 148]), .lit (.string [229, 133, 173]), .lit (.string [228, 184, 131]), .lit (.string [229, 133, 171]), .lit (.string [228, 185, 157])], .agg [.lit (.string []), .lit (.string [230, 139, 190]), .lit (.string [231, 153, 190]), .lit (.string [229, 141, 131])], .lit (.bool true)]
def laid_henkan_numeral_groups {H : Type} : DataW H := .agg [.lit (.string []), .lit (.string [228, 184, 135]), .lit (.string [229, 132, 132]), .lit (.string [229, 133, 134]), .lit (.string [228, 186, 172])]
/-- One of Go's own tables, pinned by name: the form's constant. -/
def laid_unicode_utf8_first : DataW Unit := Go.Pinned.utf8First
def laid_strconv_ErrRange {H : Type} : DataW H := .iface "*errors.errorString" (.ptr (.agg [.lit (.string [118, 97, 108, 117, 101, 32, 111, 117, 116, 32, 111, 102, 32, 114, 97, 110, 103, 101])]))
def laid_strconv_ErrSyntax {H : Type} : DataW H := .iface "*errors.errorString" (.ptr (.agg [.lit (.string [105, 110, 118, 97, 108, 105, 100, 32, 115, 121, 110, 116, 97, 120])]))

/-- 'henkanlaw20.SpecialLists': WHATEVER THE INPUT: true; the input reads as it did. -/
def specialListsSpec : ChangeSpec := { name := "specialLists", fn := fun _ => fun
  | [d1, d2] => { results := [.lit (.bool true)], args := [d1, d2] }
  | _ => none }
def specialListsRow : OpenClaim := { program := "ytnpkcobapckhdaagreatdoor", sum := "6c25ab982650e5e8516831f7f8f0265886fb36d3e2e8bfdee9cd0640ff113ce2", func := "henkan/henkanlaw20.SpecialLists", spec := "specialLists", inPlace := ["internal/abi.NoEscape", "internal/bytealg.IndexByteString", "internal/bytealg.IndexString", "internal/bytealg.MakeNoZero", "internal/bytealg.CountString"], unfollowed := true, recurses := true, named := ["unicode/utf8.first", "unicode/utf8.acceptRanges", "henkan/numeral.plain", "henkan/numeral.groups", "henkan/numeral.formal", "internal/strconv.uint64pow10", "math/bits.deBruijn32tab", "math/bits.deBruijn64tab", "internal/bytealg.MaxLen"], apart := false, laid := [("math/bits.deBruijn32tab", laid_math_bits_deBruijn32tab), ("math/bits.deBruijn64tab", laid_math_bits_deBruijn64tab), ("internal/strconv.uint64pow10", laid_internal_strconv_uint64pow10), ("unicode/utf8.acceptRanges", laid_unicode_utf8_acceptRanges), ("henkan/numeral.plain", laid_henkan_numeral_plain), ("henkan/numeral.formal", laid_henkan_numeral_formal), ("henkan/numeral.groups", laid_henkan_numeral_groups), ("unicode/utf8.first", laid_unicode_utf8_first)] }
def SpecialListsSaid : Prop := specialListsRow.holds Tryz.pinned (OpenSpec.ofChange specialListsSpec)

/-- ITS FALSE NEIGHBOUR: 'it returns false'. Refute it at one input. -/
def specialListsWrong : ChangeSpec := { name := "specialLists", fn := fun _ => fun
  | [d1, d2] => { results := [.lit (.bool false)], args := [d1, d2] }
  | _ => none }
def SpecialListsWrongFalsely : Prop := specialListsRow.holds Tryz.pinned (OpenSpec.ofChange specialListsWrong)

/-- 'henkanlaw20.SpecialTable': WHATEVER THE INPUT: true; the input reads as it did. -/
def specialTableSpec : ChangeSpec := { name := "specialTable", fn := fun _ => fun
  | [d1, d2] => { results := [.lit (.bool true)], args := [d1, d2] }
  | _ => none }
def specialTableRow : OpenClaim := { program := "ytnpkcobapckhdaagreatdoor", sum := "6c25ab982650e5e8516831f7f8f0265886fb36d3e2e8bfdee9cd0640ff113ce2", func := "henkan/henkanlaw20.SpecialTable", spec := "specialTable", inPlace := ["internal/abi.NoEscape", "internal/bytealg.IndexByteString", "internal/bytealg.IndexString", "internal/bytealg.MakeNoZero", "internal/bytealg.CountString"], unfollowed := true, recurses := true, named := ["unicode/utf8.first", "unicode/utf8.acceptRanges", "henkan/numeral.plain", "henkan/numeral.groups", "henkan/numeral.formal", "internal/strconv.uint64pow10", "math/bits.deBruijn32tab", "math/bits.deBruijn64tab", "internal/bytealg.MaxLen"], apart := false, laid := [("math/bits.deBruijn32tab", laid_math_bits_deBruijn32tab), ("math/bits.deBruijn64tab", laid_math_bits_deBruijn64tab), ("internal/strconv.uint64pow10", laid_internal_strconv_uint64pow10), ("unicode/utf8.acceptRanges", laid_unicode_utf8_acceptRanges), ("henkan/numeral.plain", laid_henkan_numeral_plain), ("henkan/numeral.formal", laid_henkan_numeral_formal), ("henkan/numeral.groups", laid_henkan_numeral_groups), ("unicode/utf8.first", laid_unicode_utf8_first)] }
def SpecialTableSaid : Prop := specialTableRow.holds Tryz.pinned (OpenSpec.ofChange specialTableSpec)

/-- ITS FALSE NEIGHBOUR: 'it returns false'. Refute it at one input. -/
def specialTableWrong : ChangeSpec := { name := "specialTable", fn := fun _ => fun
  | [d1, d2] => { results := [.lit (.bool false)], args := [d1, d2] }
  | _ => none }
def SpecialTableWrongFalsely : Prop := specialTableRow.holds Tryz.pinned (OpenSpec.ofChange specialTableWrong)

/-- 'henkanlaw20.SpecialOnce': WHATEVER THE INPUT: true; the input reads as it did. -/
def specialOnceSpec : ChangeSpec := { name := "specialOnce", fn := fun _ => fun
  | [d1, d2] => { results := [.lit (.bool true)], args := [d1, d2] }
  | _ => none }
def specialOnceRow : OpenClaim := { program := "ytnpkcobapckhdaagreatdoor", sum := "6c25ab982650e5e8516831f7f8f0265886fb36d3e2e8bfdee9cd0640ff113ce2", func := "henkan/henkanlaw20.SpecialOnce", spec := "specialOnce", inPlace := ["internal/abi.NoEscape", "internal/bytealg.IndexByteString", "internal/bytealg.IndexString", "internal/bytealg.MakeNoZero", "internal/bytealg.CountString"], unfollowed := true, recurses := true, named := ["unicode/utf8.first", "unicode/utf8.acceptRanges", "henkan/numeral.plain", "henkan/numeral.groups", "henkan/numeral.formal", "internal/strconv.uint64pow10", "math/bits.deBruijn32tab", "math/bits.deBruijn64tab", "internal/bytealg.MaxLen"], apart := false, laid := [("math/bits.deBruijn32tab", laid_math_bits_deBruijn32tab), ("math/bits.deBruijn64tab", laid_math_bits_deBruijn64tab), ("internal/strconv.uint64pow10", laid_internal_strconv_uint64pow10), ("unicode/utf8.acceptRanges", laid_unicode_utf8_acceptRanges), ("henkan/numeral.plain", laid_henkan_numeral_plain), ("henkan/numeral.formal", laid_henkan_numeral_formal), ("henkan/numeral.groups", laid_henkan_numeral_groups), ("unicode/utf8.first", laid_unicode_utf8_first)] }
def SpecialOnceSaid : Prop := specialOnceRow.holds Tryz.pinned (OpenSpec.ofChange specialOnceSpec)

/-- ITS FALSE NEIGHBOUR: 'it returns false'. Refute it at one input. -/
def specialOnceWrong : ChangeSpec := { name := "specialOnce", fn := fun _ => fun
  | [d1, d2] => { results := [.lit (.bool false)], args := [d1, d2] }
  | _ => none }
def SpecialOnceWrongFalsely : Prop := specialOnceRow.holds Tryz.pinned (OpenSpec.ofChange specialOnceWrong)

/-- 'henkanlaw20.SpecialNumbers': WHATEVER THE INPUT: true; the input reads as it did. -/
def specialNumbersSpec : ChangeSpec := { name := "specialNumbers", fn := fun _ => fun
  | [d1, d2] => { results := [.lit (.bool true)], args := [d1, d2] }
  | _ => none }
def specialNumbersRow : OpenClaim := { program := "ytnpkcobapckhdaagreatdoor", sum := "6c25ab982650e5e8516831f7f8f0265886fb36d3e2e8bfdee9cd0640ff113ce2", func := "henkan/henkanlaw20.SpecialNumbers", spec := "specialNumbers", inPlace := ["internal/abi.NoEscape", "internal/bytealg.IndexByteString", "internal/bytealg.IndexString", "internal/bytealg.MakeNoZero", "internal/bytealg.CountString"], unfollowed := true, recurses := true, named := ["unicode/utf8.first", "unicode/utf8.acceptRanges", "henkan/numeral.plain", "henkan/numeral.groups", "henkan/numeral.formal", "internal/strconv.uint64pow10", "math/bits.deBruijn32tab", "math/bits.deBruijn64tab", "internal/bytealg.MaxLen"], apart := false, laid := [("math/bits.deBruijn32tab", laid_math_bits_deBruijn32tab), ("math/bits.deBruijn64tab", laid_math_bits_deBruijn64tab), ("internal/strconv.uint64pow10", laid_internal_strconv_uint64pow10), ("unicode/utf8.acceptRanges", laid_unicode_utf8_acceptRanges), ("henkan/numeral.plain", laid_henkan_numeral_plain), ("henkan/numeral.formal", laid_henkan_numeral_formal), ("henkan/numeral.groups", laid_henkan_numeral_groups), ("unicode/utf8.first", laid_unicode_utf8_first)] }
def SpecialNumbersSaid : Prop := specialNumbersRow.holds Tryz.pinned (OpenSpec.ofChange specialNumbersSpec)

/-- ITS FALSE NEIGHBOUR: 'it returns false'. Refute it at one input. -/
def specialNumbersWrong : ChangeSpec := { name := "specialNumbers", fn := fun _ => fun
  | [d1, d2] => { results := [.lit (.bool false)], args := [d1, d2] }
  | _ => none }
def SpecialNumbersWrongFalsely : Prop := specialNumbersRow.holds Tryz.pinned (OpenSpec.ofChange specialNumbersWrong)

/-- 'henkanlaw20.SpecialDays': WHATEVER THE INPUT: true; the input reads as it did. -/
def specialDaysSpec : ChangeSpec := { name := "specialDays", fn := fun _ => fun
  | [d] => { results := [.lit (.bool true)], args := [d] }
  | _ => none }
def specialDaysRow : OpenClaim := { program := "ytnpkcobapckhdaagreatdoor", sum := "6c25ab982650e5e8516831f7f8f0265886fb36d3e2e8bfdee9cd0640ff113ce2", func := "henkan/henkanlaw20.SpecialDays", spec := "specialDays", inPlace := ["internal/abi.NoEscape", "internal/bytealg.IndexByteString", "internal/bytealg.IndexString", "internal/bytealg.MakeNoZero", "internal/bytealg.CountString"], unfollowed := true, recurses := true, named := ["unicode/utf8.first", "unicode/utf8.acceptRanges", "henkan/numeral.plain", "henkan/numeral.groups", "henkan/numeral.formal", "internal/strconv.uint64pow10", "math/bits.deBruijn32tab", "math/bits.deBruijn64tab", "internal/bytealg.MaxLen"], apart := false, laid := [("math/bits.deBruijn32tab", laid_math_bits_deBruijn32tab), ("math/bits.deBruijn64tab", laid_math_bits_deBruijn64tab), ("internal/strconv.uint64pow10", laid_internal_strconv_uint64pow10), ("unicode/utf8.acceptRanges", laid_unicode_utf8_acceptRanges), ("henkan/numeral.plain", laid_henkan_numeral_plain), ("henkan/numeral.formal", laid_henkan_numeral_formal), ("henkan/numeral.groups", laid_henkan_numeral_groups), ("unicode/utf8.first", laid_unicode_utf8_first)] }
def SpecialDaysSaid : Prop := specialDaysRow.holds Tryz.pinned (OpenSpec.ofChange specialDaysSpec)

/-- ITS FALSE NEIGHBOUR: 'it returns false'. Refute it at one input. -/
def specialDaysWrong : ChangeSpec := { name := "specialDays", fn := fun _ => fun
  | [d] => { results := [.lit (.bool false)], args := [d] }
  | _ => none }
def SpecialDaysWrongFalsely : Prop := specialDaysRow.holds Tryz.pinned (OpenSpec.ofChange specialDaysWrong)

/-- 'henkanlaw20.SpecialKana': WHATEVER THE INPUT: true; the input reads as it did. -/
def specialKanaSpec : ChangeSpec := { name := "specialKana", fn := fun _ => fun
  | [d1, d2] => { results := [.lit (.bool true)], args := [d1, d2] }
  | _ => none }
def specialKanaRow : OpenClaim := { program := "ytnpkcobapckhdaagreatdoor", sum := "6c25ab982650e5e8516831f7f8f0265886fb36d3e2e8bfdee9cd0640ff113ce2", func := "henkan/henkanlaw20.SpecialKana", spec := "specialKana", inPlace := ["internal/abi.NoEscape", "internal/bytealg.IndexByteString", "internal/bytealg.IndexString", "internal/bytealg.MakeNoZero", "internal/bytealg.CountString"], unfollowed := true, recurses := true, named := ["unicode/utf8.first", "unicode/utf8.acceptRanges", "henkan/numeral.plain", "henkan/numeral.groups", "henkan/numeral.formal", "internal/strconv.uint64pow10", "math/bits.deBruijn32tab", "math/bits.deBruijn64tab", "internal/bytealg.MaxLen"], apart := false, laid := [("math/bits.deBruijn32tab", laid_math_bits_deBruijn32tab), ("math/bits.deBruijn64tab", laid_math_bits_deBruijn64tab), ("internal/strconv.uint64pow10", laid_internal_strconv_uint64pow10), ("unicode/utf8.acceptRanges", laid_unicode_utf8_acceptRanges), ("henkan/numeral.plain", laid_henkan_numeral_plain), ("henkan/numeral.formal", laid_henkan_numeral_formal), ("henkan/numeral.groups", laid_henkan_numeral_groups), ("unicode/utf8.first", laid_unicode_utf8_first)] }
def SpecialKanaSaid : Prop := specialKanaRow.holds Tryz.pinned (OpenSpec.ofChange specialKanaSpec)

/-- ITS FALSE NEIGHBOUR: 'it returns false'. Refute it at one input. -/
def specialKanaWrong : ChangeSpec := { name := "specialKana", fn := fun _ => fun
  | [d1, d2] => { results := [.lit (.bool false)], args := [d1, d2] }
  | _ => none }
def SpecialKanaWrongFalsely : Prop := specialKanaRow.holds Tryz.pinned (OpenSpec.ofChange specialKanaWrong)

/-- 'henkanlaw20.SpecialKnown': WHATEVER THE INPUT: true; the input reads as it did. -/
def specialKnownSpec : ChangeSpec := { name := "specialKnown", fn := fun _ => fun
  | [] => { results := [.lit (.bool true)], args := [] }
  | _ => none }
def specialKnownRow : OpenClaim := { program := "ytnpkcobapckhdaagreatdoor", sum := "6c25ab982650e5e8516831f7f8f0265886fb36d3e2e8bfdee9cd0640ff113ce2", func := "henkan/henkanlaw20.SpecialKnown", spec := "specialKnown", inPlace := ["internal/abi.NoEscape", "internal/bytealg.IndexByteString", "internal/bytealg.IndexString", "internal/bytealg.MakeNoZero", "internal/bytealg.CountString"], unfollowed := true, recurses := true, named := ["unicode/utf8.first", "unicode/utf8.acceptRanges", "henkan/numeral.plain", "henkan/numeral.groups", "henkan/numeral.formal", "internal/strconv.uint64pow10", "math/bits.deBruijn32tab", "math/bits.deBruijn64tab", "internal/bytealg.MaxLen"], apart := false, laid := [("math/bits.deBruijn32tab", laid_math_bits_deBruijn32tab), ("math/bits.deBruijn64tab", laid_math_bits_deBruijn64tab), ("internal/strconv.uint64pow10", laid_internal_strconv_uint64pow10), ("unicode/utf8.acceptRanges", laid_unicode_utf8_acceptRanges), ("henkan/numeral.plain", laid_henkan_numeral_plain), ("henkan/numeral.formal", laid_henkan_numeral_formal), ("henkan/numeral.groups", laid_henkan_numeral_groups), ("unicode/utf8.first", laid_unicode_utf8_first)] }
def SpecialKnownSaid : Prop := specialKnownRow.holds Tryz.pinned (OpenSpec.ofChange specialKnownSpec)

/-- ITS FALSE NEIGHBOUR: 'it returns false'. Refute it at one input. -/
def specialKnownWrong : ChangeSpec := { name := "specialKnown", fn := fun _ => fun
  | [] => { results := [.lit (.bool false)], args := [] }
  | _ => none }
def SpecialKnownWrongFalsely : Prop := specialKnownRow.holds Tryz.pinned (OpenSpec.ofChange specialKnownWrong)

/-- 'henkanlaw04.CaldateParses': WHATEVER THE INPUT: true; the input reads as it did. -/
def caldateParsesSpec : ChangeSpec := { name := "caldateParses", fn := fun _ => fun
  | [d] => { results := [.lit (.bool true)], args := [d] }
  | _ => none }
def caldateParsesRow : OpenClaim := { program := "ytnpkcobapckhdaagreatdoor", sum := "6c25ab982650e5e8516831f7f8f0265886fb36d3e2e8bfdee9cd0640ff113ce2", func := "henkan/henkanlaw04.CaldateParses", spec := "caldateParses", inPlace := ["internal/bytealg.IndexByteString", "internal/bytealg.IndexString", "internal/abi.NoEscape", "internal/bytealg.MakeNoZero"], unfollowed := true, recurses := true, named := ["internal/bytealg.MaxLen", "henkan/numeral.plain", "henkan/numeral.formal", "unicode/utf8.first", "unicode/utf8.acceptRanges", "henkan/numeral.groups", "strconv.ErrSyntax", "strconv.ErrRange", "internal/strconv.uint64pow10", "math/bits.deBruijn32tab", "math/bits.deBruijn64tab"], apart := false, laid := [("math/bits.deBruijn32tab", laid_math_bits_deBruijn32tab), ("math/bits.deBruijn64tab", laid_math_bits_deBruijn64tab), ("internal/strconv.uint64pow10", laid_internal_strconv_uint64pow10), ("unicode/utf8.acceptRanges", laid_unicode_utf8_acceptRanges), ("strconv.ErrRange", laid_strconv_ErrRange), ("strconv.ErrSyntax", laid_strconv_ErrSyntax), ("henkan/numeral.plain", laid_henkan_numeral_plain), ("henkan/numeral.formal", laid_henkan_numeral_formal), ("henkan/numeral.groups", laid_henkan_numeral_groups), ("unicode/utf8.first", laid_unicode_utf8_first)] }
def CaldateParsesSaid : Prop := caldateParsesRow.holds Tryz.pinned (OpenSpec.ofChange caldateParsesSpec)

/-- ITS FALSE NEIGHBOUR: 'it returns false'. Refute it at one input. -/
def caldateParsesWrong : ChangeSpec := { name := "caldateParses", fn := fun _ => fun
  | [d] => { results := [.lit (.bool false)], args := [d] }
  | _ => none }
def CaldateParsesWrongFalsely : Prop := caldateParsesRow.holds Tryz.pinned (OpenSpec.ofChange caldateParsesWrong)

/-- 'henkanlaw04.CaldateUnique': WHATEVER THE INPUT: true; the input reads as it did. -/
def caldateUniqueSpec : ChangeSpec := { name := "caldateUnique", fn := fun _ => fun
  | [d] => { results := [.lit (.bool true)], args := [d] }
  | _ => none }
def caldateUniqueRow : OpenClaim := { program := "ytnpkcobapckhdaagreatdoor", sum := "6c25ab982650e5e8516831f7f8f0265886fb36d3e2e8bfdee9cd0640ff113ce2", func := "henkan/henkanlaw04.CaldateUnique", spec := "caldateUnique", inPlace := ["internal/abi.NoEscape", "internal/bytealg.MakeNoZero", "internal/bytealg.IndexByteString", "internal/bytealg.IndexString"], unfollowed := true, recurses := true, named := ["internal/strconv.uint64pow10", "math/bits.deBruijn32tab", "math/bits.deBruijn64tab", "henkan/numeral.plain", "henkan/numeral.groups", "unicode/utf8.first", "unicode/utf8.acceptRanges", "internal/bytealg.MaxLen", "henkan/numeral.formal", "strconv.ErrSyntax", "strconv.ErrRange"], apart := false, laid := [("math/bits.deBruijn32tab", laid_math_bits_deBruijn32tab), ("math/bits.deBruijn64tab", laid_math_bits_deBruijn64tab), ("internal/strconv.uint64pow10", laid_internal_strconv_uint64pow10), ("unicode/utf8.acceptRanges", laid_unicode_utf8_acceptRanges), ("strconv.ErrRange", laid_strconv_ErrRange), ("strconv.ErrSyntax", laid_strconv_ErrSyntax), ("henkan/numeral.plain", laid_henkan_numeral_plain), ("henkan/numeral.formal", laid_henkan_numeral_formal), ("henkan/numeral.groups", laid_henkan_numeral_groups), ("unicode/utf8.first", laid_unicode_utf8_first)] }
def CaldateUniqueSaid : Prop := caldateUniqueRow.holds Tryz.pinned (OpenSpec.ofChange caldateUniqueSpec)

/-- ITS FALSE NEIGHBOUR: 'it returns false'. Refute it at one input. -/
def caldateUniqueWrong : ChangeSpec := { name := "caldateUnique", fn := fun _ => fun
  | [d] => { results := [.lit (.bool false)], args := [d] }
  | _ => none }
def CaldateUniqueWrongFalsely : Prop := caldateUniqueRow.holds Tryz.pinned (OpenSpec.ofChange caldateUniqueWrong)

/-- 'henkanlaw04.CaldateKnown': WHATEVER THE INPUT: true; the input reads as it did. -/
def caldateKnownSpec : ChangeSpec := { name := "caldateKnown", fn := fun _ => fun
  | [] => { results := [.lit (.bool true)], args := [] }
  | _ => none }
def caldateKnownRow : OpenClaim := { program := "ytnpkcobapckhdaagreatdoor", sum := "6c25ab982650e5e8516831f7f8f0265886fb36d3e2e8bfdee9cd0640ff113ce2", func := "henkan/henkanlaw04.CaldateKnown", spec := "caldateKnown", inPlace := ["internal/bytealg.IndexByteString", "internal/bytealg.IndexString", "internal/abi.NoEscape", "internal/bytealg.MakeNoZero"], unfollowed := true, recurses := true, named := ["internal/bytealg.MaxLen", "henkan/numeral.plain", "henkan/numeral.formal", "unicode/utf8.first", "unicode/utf8.acceptRanges", "henkan/numeral.groups", "strconv.ErrSyntax", "strconv.ErrRange", "internal/strconv.uint64pow10", "math/bits.deBruijn32tab", "math/bits.deBruijn64tab"], apart := false, laid := [("math/bits.deBruijn32tab", laid_math_bits_deBruijn32tab), ("math/bits.deBruijn64tab", laid_math_bits_deBruijn64tab), ("internal/strconv.uint64pow10", laid_internal_strconv_uint64pow10), ("unicode/utf8.acceptRanges", laid_unicode_utf8_acceptRanges), ("strconv.ErrRange", laid_strconv_ErrRange), ("strconv.ErrSyntax", laid_strconv_ErrSyntax), ("henkan/numeral.plain", laid_henkan_numeral_plain), ("henkan/numeral.formal", laid_henkan_numeral_formal), ("henkan/numeral.groups", laid_henkan_numeral_groups), ("unicode/utf8.first", laid_unicode_utf8_first)] }
def CaldateKnownSaid : Prop := caldateKnownRow.holds Tryz.pinned (OpenSpec.ofChange caldateKnownSpec)

/-- ITS FALSE NEIGHBOUR: 'it returns false'. Refute it at one input. -/
def caldateKnownWrong : ChangeSpec := { name := "caldateKnown", fn := fun _ => fun
  | [] => { results := [.lit (.bool false)], args := [] }
  | _ => none }
def CaldateKnownWrongFalsely : Prop := caldateKnownRow.holds Tryz.pinned (OpenSpec.ofChange caldateKnownWrong)

/- THE SECOND FORM. 'bulk': how many values and letters a reading holds, each counted each time it is reached (what is shared counts as often as it is met; a slice's spare places count too). A statement '..UptoSaid' is the law's where the arguments, and the package variables that the reading takes, are together of bulk at most 1048576: NARROWER than '..Said'. Prove '..Said' where nothing that the law and all that it calls make is longer than what came in: it says more and counts as full. Else prove '..UptoSaid'. A law counts once. -/
mutual
def uptoBulk {H : Type} : DataW H → Nat
  | .lit (.string bytes) => bytes.length + 1
  | .lit _ => 1
  | .nil => 1
  | .ptr d => uptoBulk d + 1
  | .slice elems spare => uptoBulkAll elems + uptoBulkAll spare + 1
  | .agg parts => uptoBulkAll parts + 1
  | .iface _ d => uptoBulk d + 1
  | .map entries => uptoBulkEntries entries + 1
  | .held _ => 1
def uptoBulkAll {H : Type} : List (DataW H) → Nat
  | [] => 0
  | d :: r => uptoBulk d + uptoBulkAll r
def uptoBulkEntries {H : Type} : List (Lit × DataW H) → Nat
  | [] => 0
  | x :: r => uptoBulkEntry x + uptoBulkEntries r
def uptoBulkEntry {H : Type} : Lit × DataW H → Nat
  | (.string bytes, d) => bytes.length + uptoBulk d + 1
  | (_, d) => uptoBulk d + 1
 end
def uptoSmall : (H : Type) → List (DataW H) → Bool := fun _ ds => decide (uptoBulkAll ds ≤ 1048576)
def OpenSpec.upto (s : _root_.Go.ChangeSpec) : _root_.Go.OpenSpec := { _root_.Go.OpenSpec.ofChange s with cond := some uptoSmall }

/-- 'henkanlaw20.SpecialLists', WHERE WHAT IT READS IS OF BULK AT MOST 1048576: true; the input reads as it did. -/
def specialListsUptoRow : OpenClaim := { program := "ytnpkcobapckhdaagreatdoor", sum := "6c25ab982650e5e8516831f7f8f0265886fb36d3e2e8bfdee9cd0640ff113ce2", func := "henkan/henkanlaw20.SpecialLists", spec := "specialLists", inPlace := ["internal/abi.NoEscape", "internal/bytealg.IndexByteString", "internal/bytealg.IndexString", "internal/bytealg.MakeNoZero", "internal/bytealg.CountString"], unfollowed := true, recurses := true, named := ["unicode/utf8.first", "unicode/utf8.acceptRanges", "henkan/numeral.plain", "henkan/numeral.groups", "henkan/numeral.formal", "internal/strconv.uint64pow10", "math/bits.deBruijn32tab", "math/bits.deBruijn64tab", "internal/bytealg.MaxLen"], apart := false, laid := [("math/bits.deBruijn32tab", laid_math_bits_deBruijn32tab), ("math/bits.deBruijn64tab", laid_math_bits_deBruijn64tab), ("internal/strconv.uint64pow10", laid_internal_strconv_uint64pow10), ("unicode/utf8.acceptRanges", laid_unicode_utf8_acceptRanges), ("henkan/numeral.plain", laid_henkan_numeral_plain), ("henkan/numeral.formal", laid_henkan_numeral_formal), ("henkan/numeral.groups", laid_henkan_numeral_groups), ("unicode/utf8.first", laid_unicode_utf8_first)], narrowed := true }
def SpecialListsUptoSaid : Prop := specialListsUptoRow.holds Tryz.pinned (OpenSpec.upto specialListsSpec)

/-- 'henkanlaw20.SpecialTable', WHERE WHAT IT READS IS OF BULK AT MOST 1048576: true; the input reads as it did. -/
def specialTableUptoRow : OpenClaim := { program := "ytnpkcobapckhdaagreatdoor", sum := "6c25ab982650e5e8516831f7f8f0265886fb36d3e2e8bfdee9cd0640ff113ce2", func := "henkan/henkanlaw20.SpecialTable", spec := "specialTable", inPlace := ["internal/abi.NoEscape", "internal/bytealg.IndexByteString", "internal/bytealg.IndexString", "internal/bytealg.MakeNoZero", "internal/bytealg.CountString"], unfollowed := true, recurses := true, named := ["unicode/utf8.first", "unicode/utf8.acceptRanges", "henkan/numeral.plain", "henkan/numeral.groups", "henkan/numeral.formal", "internal/strconv.uint64pow10", "math/bits.deBruijn32tab", "math/bits.deBruijn64tab", "internal/bytealg.MaxLen"], apart := false, laid := [("math/bits.deBruijn32tab", laid_math_bits_deBruijn32tab), ("math/bits.deBruijn64tab", laid_math_bits_deBruijn64tab), ("internal/strconv.uint64pow10", laid_internal_strconv_uint64pow10), ("unicode/utf8.acceptRanges", laid_unicode_utf8_acceptRanges), ("henkan/numeral.plain", laid_henkan_numeral_plain), ("henkan/numeral.formal", laid_henkan_numeral_formal), ("henkan/numeral.groups", laid_henkan_numeral_groups), ("unicode/utf8.first", laid_unicode_utf8_first)], narrowed := true }
def SpecialTableUptoSaid : Prop := specialTableUptoRow.holds Tryz.pinned (OpenSpec.upto specialTableSpec)

/-- 'henkanlaw20.SpecialOnce', WHERE WHAT IT READS IS OF BULK AT MOST 1048576: true; the input reads as it did. -/
def specialOnceUptoRow : OpenClaim := { program := "ytnpkcobapckhdaagreatdoor", sum := "6c25ab982650e5e8516831f7f8f0265886fb36d3e2e8bfdee9cd0640ff113ce2", func := "henkan/henkanlaw20.SpecialOnce", spec := "specialOnce", inPlace := ["internal/abi.NoEscape", "internal/bytealg.IndexByteString", "internal/bytealg.IndexString", "internal/bytealg.MakeNoZero", "internal/bytealg.CountString"], unfollowed := true, recurses := true, named := ["unicode/utf8.first", "unicode/utf8.acceptRanges", "henkan/numeral.plain", "henkan/numeral.groups", "henkan/numeral.formal", "internal/strconv.uint64pow10", "math/bits.deBruijn32tab", "math/bits.deBruijn64tab", "internal/bytealg.MaxLen"], apart := false, laid := [("math/bits.deBruijn32tab", laid_math_bits_deBruijn32tab), ("math/bits.deBruijn64tab", laid_math_bits_deBruijn64tab), ("internal/strconv.uint64pow10", laid_internal_strconv_uint64pow10), ("unicode/utf8.acceptRanges", laid_unicode_utf8_acceptRanges), ("henkan/numeral.plain", laid_henkan_numeral_plain), ("henkan/numeral.formal", laid_henkan_numeral_formal), ("henkan/numeral.groups", laid_henkan_numeral_groups), ("unicode/utf8.first", laid_unicode_utf8_first)], narrowed := true }
def SpecialOnceUptoSaid : Prop := specialOnceUptoRow.holds Tryz.pinned (OpenSpec.upto specialOnceSpec)

/-- 'henkanlaw20.SpecialNumbers', WHERE WHAT IT READS IS OF BULK AT MOST 1048576: true; the input reads as it did. -/
def specialNumbersUptoRow : OpenClaim := { program := "ytnpkcobapckhdaagreatdoor", sum := "6c25ab982650e5e8516831f7f8f0265886fb36d3e2e8bfdee9cd0640ff113ce2", func := "henkan/henkanlaw20.SpecialNumbers", spec := "specialNumbers", inPlace := ["internal/abi.NoEscape", "internal/bytealg.IndexByteString", "internal/bytealg.IndexString", "internal/bytealg.MakeNoZero", "internal/bytealg.CountString"], unfollowed := true, recurses := true, named := ["unicode/utf8.first", "unicode/utf8.acceptRanges", "henkan/numeral.plain", "henkan/numeral.groups", "henkan/numeral.formal", "internal/strconv.uint64pow10", "math/bits.deBruijn32tab", "math/bits.deBruijn64tab", "internal/bytealg.MaxLen"], apart := false, laid := [("math/bits.deBruijn32tab", laid_math_bits_deBruijn32tab), ("math/bits.deBruijn64tab", laid_math_bits_deBruijn64tab), ("internal/strconv.uint64pow10", laid_internal_strconv_uint64pow10), ("unicode/utf8.acceptRanges", laid_unicode_utf8_acceptRanges), ("henkan/numeral.plain", laid_henkan_numeral_plain), ("henkan/numeral.formal", laid_henkan_numeral_formal), ("henkan/numeral.groups", laid_henkan_numeral_groups), ("unicode/utf8.first", laid_unicode_utf8_first)], narrowed := true }
def SpecialNumbersUptoSaid : Prop := specialNumbersUptoRow.holds Tryz.pinned (OpenSpec.upto specialNumbersSpec)

/-- 'henkanlaw20.SpecialDays', WHERE WHAT IT READS IS OF BULK AT MOST 1048576: true; the input reads as it did. -/
def specialDaysUptoRow : OpenClaim := { program := "ytnpkcobapckhdaagreatdoor", sum := "6c25ab982650e5e8516831f7f8f0265886fb36d3e2e8bfdee9cd0640ff113ce2", func := "henkan/henkanlaw20.SpecialDays", spec := "specialDays", inPlace := ["internal/abi.NoEscape", "internal/bytealg.IndexByteString", "internal/bytealg.IndexString", "internal/bytealg.MakeNoZero", "internal/bytealg.CountString"], unfollowed := true, recurses := true, named := ["unicode/utf8.first", "unicode/utf8.acceptRanges", "henkan/numeral.plain", "henkan/numeral.groups", "henkan/numeral.formal", "internal/strconv.uint64pow10", "math/bits.deBruijn32tab", "math/bits.deBruijn64tab", "internal/bytealg.MaxLen"], apart := false, laid := [("math/bits.deBruijn32tab", laid_math_bits_deBruijn32tab), ("math/bits.deBruijn64tab", laid_math_bits_deBruijn64tab), ("internal/strconv.uint64pow10", laid_internal_strconv_uint64pow10), ("unicode/utf8.acceptRanges", laid_unicode_utf8_acceptRanges), ("henkan/numeral.plain", laid_henkan_numeral_plain), ("henkan/numeral.formal", laid_henkan_numeral_formal), ("henkan/numeral.groups", laid_henkan_numeral_groups), ("unicode/utf8.first", laid_unicode_utf8_first)], narrowed := true }
def SpecialDaysUptoSaid : Prop := specialDaysUptoRow.holds Tryz.pinned (OpenSpec.upto specialDaysSpec)

/-- 'henkanlaw20.SpecialKana', WHERE WHAT IT READS IS OF BULK AT MOST 1048576: true; the input reads as it did. -/
def specialKanaUptoRow : OpenClaim := { program := "ytnpkcobapckhdaagreatdoor", sum := "6c25ab982650e5e8516831f7f8f0265886fb36d3e2e8bfdee9cd0640ff113ce2", func := "henkan/henkanlaw20.SpecialKana", spec := "specialKana", inPlace := ["internal/abi.NoEscape", "internal/bytealg.IndexByteString", "internal/bytealg.IndexString", "internal/bytealg.MakeNoZero", "internal/bytealg.CountString"], unfollowed := true, recurses := true, named := ["unicode/utf8.first", "unicode/utf8.acceptRanges", "henkan/numeral.plain", "henkan/numeral.groups", "henkan/numeral.formal", "internal/strconv.uint64pow10", "math/bits.deBruijn32tab", "math/bits.deBruijn64tab", "internal/bytealg.MaxLen"], apart := false, laid := [("math/bits.deBruijn32tab", laid_math_bits_deBruijn32tab), ("math/bits.deBruijn64tab", laid_math_bits_deBruijn64tab), ("internal/strconv.uint64pow10", laid_internal_strconv_uint64pow10), ("unicode/utf8.acceptRanges", laid_unicode_utf8_acceptRanges), ("henkan/numeral.plain", laid_henkan_numeral_plain), ("henkan/numeral.formal", laid_henkan_numeral_formal), ("henkan/numeral.groups", laid_henkan_numeral_groups), ("unicode/utf8.first", laid_unicode_utf8_first)], narrowed := true }
def SpecialKanaUptoSaid : Prop := specialKanaUptoRow.holds Tryz.pinned (OpenSpec.upto specialKanaSpec)

/-- 'henkanlaw20.SpecialKnown', WHERE WHAT IT READS IS OF BULK AT MOST 1048576: true; the input reads as it did. -/
def specialKnownUptoRow : OpenClaim := { program := "ytnpkcobapckhdaagreatdoor", sum := "6c25ab982650e5e8516831f7f8f0265886fb36d3e2e8bfdee9cd0640ff113ce2", func := "henkan/henkanlaw20.SpecialKnown", spec := "specialKnown", inPlace := ["internal/abi.NoEscape", "internal/bytealg.IndexByteString", "internal/bytealg.IndexString", "internal/bytealg.MakeNoZero", "internal/bytealg.CountString"], unfollowed := true, recurses := true, named := ["unicode/utf8.first", "unicode/utf8.acceptRanges", "henkan/numeral.plain", "henkan/numeral.groups", "henkan/numeral.formal", "internal/strconv.uint64pow10", "math/bits.deBruijn32tab", "math/bits.deBruijn64tab", "internal/bytealg.MaxLen"], apart := false, laid := [("math/bits.deBruijn32tab", laid_math_bits_deBruijn32tab), ("math/bits.deBruijn64tab", laid_math_bits_deBruijn64tab), ("internal/strconv.uint64pow10", laid_internal_strconv_uint64pow10), ("unicode/utf8.acceptRanges", laid_unicode_utf8_acceptRanges), ("henkan/numeral.plain", laid_henkan_numeral_plain), ("henkan/numeral.formal", laid_henkan_numeral_formal), ("henkan/numeral.groups", laid_henkan_numeral_groups), ("unicode/utf8.first", laid_unicode_utf8_first)], narrowed := true }
def SpecialKnownUptoSaid : Prop := specialKnownUptoRow.holds Tryz.pinned (OpenSpec.upto specialKnownSpec)

/-- 'henkanlaw04.CaldateParses', WHERE WHAT IT READS IS OF BULK AT MOST 1048576: true; the input reads as it did. -/
def caldateParsesUptoRow : OpenClaim := { program := "ytnpkcobapckhdaagreatdoor", sum := "6c25ab982650e5e8516831f7f8f0265886fb36d3e2e8bfdee9cd0640ff113ce2", func := "henkan/henkanlaw04.CaldateParses", spec := "caldateParses", inPlace := ["internal/bytealg.IndexByteString", "internal/bytealg.IndexString", "internal/abi.NoEscape", "internal/bytealg.MakeNoZero"], unfollowed := true, recurses := true, named := ["internal/bytealg.MaxLen", "henkan/numeral.plain", "henkan/numeral.formal", "unicode/utf8.first", "unicode/utf8.acceptRanges", "henkan/numeral.groups", "strconv.ErrSyntax", "strconv.ErrRange", "internal/strconv.uint64pow10", "math/bits.deBruijn32tab", "math/bits.deBruijn64tab"], apart := false, laid := [("math/bits.deBruijn32tab", laid_math_bits_deBruijn32tab), ("math/bits.deBruijn64tab", laid_math_bits_deBruijn64tab), ("internal/strconv.uint64pow10", laid_internal_strconv_uint64pow10), ("unicode/utf8.acceptRanges", laid_unicode_utf8_acceptRanges), ("strconv.ErrRange", laid_strconv_ErrRange), ("strconv.ErrSyntax", laid_strconv_ErrSyntax), ("henkan/numeral.plain", laid_henkan_numeral_plain), ("henkan/numeral.formal", laid_henkan_numeral_formal), ("henkan/numeral.groups", laid_henkan_numeral_groups), ("unicode/utf8.first", laid_unicode_utf8_first)], narrowed := true }
def CaldateParsesUptoSaid : Prop := caldateParsesUptoRow.holds Tryz.pinned (OpenSpec.upto caldateParsesSpec)

/-- 'henkanlaw04.CaldateUnique', WHERE WHAT IT READS IS OF BULK AT MOST 1048576: true; the input reads as it did. -/
def caldateUniqueUptoRow : OpenClaim := { program := "ytnpkcobapckhdaagreatdoor", sum := "6c25ab982650e5e8516831f7f8f0265886fb36d3e2e8bfdee9cd0640ff113ce2", func := "henkan/henkanlaw04.CaldateUnique", spec := "caldateUnique", inPlace := ["internal/abi.NoEscape", "internal/bytealg.MakeNoZero", "internal/bytealg.IndexByteString", "internal/bytealg.IndexString"], unfollowed := true, recurses := true, named := ["internal/strconv.uint64pow10", "math/bits.deBruijn32tab", "math/bits.deBruijn64tab", "henkan/numeral.plain", "henkan/numeral.groups", "unicode/utf8.first", "unicode/utf8.acceptRanges", "internal/bytealg.MaxLen", "henkan/numeral.formal", "strconv.ErrSyntax", "strconv.ErrRange"], apart := false, laid := [("math/bits.deBruijn32tab", laid_math_bits_deBruijn32tab), ("math/bits.deBruijn64tab", laid_math_bits_deBruijn64tab), ("internal/strconv.uint64pow10", laid_internal_strconv_uint64pow10), ("unicode/utf8.acceptRanges", laid_unicode_utf8_acceptRanges), ("strconv.ErrRange", laid_strconv_ErrRange), ("strconv.ErrSyntax", laid_strconv_ErrSyntax), ("henkan/numeral.plain", laid_henkan_numeral_plain), ("henkan/numeral.formal", laid_henkan_numeral_formal), ("henkan/numeral.groups", laid_henkan_numeral_groups), ("unicode/utf8.first", laid_unicode_utf8_first)], narrowed := true }
def CaldateUniqueUptoSaid : Prop := caldateUniqueUptoRow.holds Tryz.pinned (OpenSpec.upto caldateUniqueSpec)

/-- 'henkanlaw04.CaldateKnown', WHERE WHAT IT READS IS OF BULK AT MOST 1048576: true; the input reads as it did. -/
def caldateKnownUptoRow : OpenClaim := { program := "ytnpkcobapckhdaagreatdoor", sum := "6c25ab982650e5e8516831f7f8f0265886fb36d3e2e8bfdee9cd0640ff113ce2", func := "henkan/henkanlaw04.CaldateKnown", spec := "caldateKnown", inPlace := ["internal/bytealg.IndexByteString", "internal/bytealg.IndexString", "internal/abi.NoEscape", "internal/bytealg.MakeNoZero"], unfollowed := true, recurses := true, named := ["internal/bytealg.MaxLen", "henkan/numeral.plain", "henkan/numeral.formal", "unicode/utf8.first", "unicode/utf8.acceptRanges", "henkan/numeral.groups", "strconv.ErrSyntax", "strconv.ErrRange", "internal/strconv.uint64pow10", "math/bits.deBruijn32tab", "math/bits.deBruijn64tab"], apart := false, laid := [("math/bits.deBruijn32tab", laid_math_bits_deBruijn32tab), ("math/bits.deBruijn64tab", laid_math_bits_deBruijn64tab), ("internal/strconv.uint64pow10", laid_internal_strconv_uint64pow10), ("unicode/utf8.acceptRanges", laid_unicode_utf8_acceptRanges), ("strconv.ErrRange", laid_strconv_ErrRange), ("strconv.ErrSyntax", laid_strconv_ErrSyntax), ("henkan/numeral.plain", laid_henkan_numeral_plain), ("henkan/numeral.formal", laid_henkan_numeral_formal), ("henkan/numeral.groups", laid_henkan_numeral_groups), ("unicode/utf8.first", laid_unicode_utf8_first)], narrowed := true }
def CaldateKnownUptoSaid : Prop := caldateKnownUptoRow.holds Tryz.pinned (OpenSpec.upto caldateKnownSpec)

end Rows
end Go.Proofs.YtnpkcobapckhdaaGreatDoor
