/-
  NARROWER THAN 'FOR EVERY INPUT', by the rows' own cells (each row's printed sentence says how): NumeralWrites: laid · NumeralParses: laid · NumeralBack: laid · NumeralApart: laid · NumeralGroups: laid · NumeralCommas: laid · NumeralForms: laid · NumeralOwn: laid · NumeralKnown: laid.
  DERIVED. THE GIVEN ROWS OF THIS SEAT. 9 by the template 'for every input the law returns true; each argument reads behind the call as it read before'; 0 by the template 'total and deterministic' (their statements: YtcgfcedlllmbhaaDoorTotals.lean).
  GIVEN WITH THE SEED: the statements are not yours to turn. If you find one false, say at which input.
  Laid BY PROGRAM, IN A SANDBOX (cutbox-rows.mjs): the forced cells as the released guide's own fill.sh prints them over the translation d09e3a272c9c496c… (all of the seat's roots in one cut). By AI agents, Wed Nov 11 2026. No macro, syntax, notation, axiom, sorry.
-/
import Derived.Test.YtcgfcedlllmbhaaDoorChecked
import GoSem.PinnedTables
import GoSem.Claim
import GoSem.ClaimJoined
import GoSem.ClaimMapViews
import Derived.JoinedTies
import Derived.KernelRfl
namespace Go.Proofs.YtcgfcedlllmbhaaDoor
/- THE CELL 'sum', in the pinned program and in every row, IS THE sha256 OF THE DUMP (.gsa) THAT YtcgfcedlllmbhaaDoorProg.lean LOADS. Nothing in Lean hashes anything: it is a label: what it is worth is what the hold of that sum in a sandbox is worth. -/
noncomputable def Tryd.pinned : Pinned := { name := "ytcgfcedlllmbhaadoor", sum := "d09e3a272c9c496cd236d7c58b935435f9cff5ec9aab5c6ca38bbed1c5075739", checked := Tryd.checked }
namespace Rows
def none {H : Type} : Left H := { results := [], args := [] }

/- WHAT THE LISTED PACKAGE-LEVEL VARIABLES READ AS WHEN THE CALL BEGINS. Each datum BY PROGRAM (the guide's laid-datum.mjs) off the statement by which the dump's own 'gosem.cut.vars' lays the variable. In a bare row this is a premise. The card (YtcgfcedlllmbhaaDoorCards.lean) ties it to the program's text. -/
def laid_unicode_utf8_acceptRanges {H : Type} : DataW H := .agg [.agg [.lit (.int .u8 128), .lit (.int .u8 191)], .agg [.lit (.int .u8 160), .lit (.int .u8 191)], .agg [.lit (.int .u8 128), .lit (.int .u8 159)], .agg [.lit (.int .u8 144), .lit (.int .u8 191)], .agg [.lit (.int .u8 128), .lit (.int .u8 143)], .agg [.lit (.int .u8 0), .lit (.int .u8 0)], .agg [.lit (.int .u8 0), .lit (.int .u8 0)], .agg [.lit (.int .u8 0), .lit (.int .u8 0)], .agg [.lit (.int .u8 0), .lit (.int .u8 0)], .agg [.lit (.int .u8 0), .lit (.int .u8 0)], .agg [.lit (.int .u8 0), .lit (.int .u8 0)], .agg [.lit (.int .u8 0), .lit (.int .u8 0)], .agg [.lit (.int .u8 0), .lit (.int .u8 0)], .agg [.lit (.int .u8 0), .lit (.int .u8 0)], .agg [.lit (.int .u8 0), .lit (.int .u8 0)], .agg [.lit (.int .u8 0), .lit (.int .u8 0)]]
def laid_henkan_numeral_plain {H : Type} : DataW H := .agg [.agg [.lit (.string [227, 128, 135]), .lit (.string [228, 184, 128]), .lit (.string [228, 186, 140]), .lit (.string [228, 184, 137]), .lit (.string [229, 155, 155]), .lit (.string [228, 186, 148]), .lit (.string [229, 133, 173]), .lit (.string [228, 184, 131]), .lit (.string [229, 133, 171]), .lit (.string [228, 185, 157])], .agg [.lit (.string []), .lit (.string [229, 141, 129]), .lit (.string [231, 153, 190]), .lit (.string [229, 141, 131])], .lit (.bool false)]
def laid_henkan_numeral_formal {H : Type} : DataW H := .agg [.agg [.lit (.string [233, 155, 182]), .lit (.string [229, 163, 177]), .lit (.string [229, 188, 144]), .lit (.string [229, 143, 130]), .lit (.string [229, 155, 155]), .lit (.string [228, 186, 148]), .lit (.string [229, 133, 173]), .lit (.string [228, 184, 131]), .lit (.string [229, 133, 171]), .lit (.string [228, 185, 157])], .agg [.lit (.string []), .lit (.string [230, 139, 190]), .lit (.string [231, 153, 190]), .lit (.string [229, 141, 131])], .lit (.bool true)]
def laid_henkan_numeral_groups {H : Type} : DataW H := .agg [.lit (.string []), .lit (.string [228, 184, 135]), .lit (.string [229, 132, 132]), .lit (.string [229, 133, 134]), .lit (.string [228, 186, 172])]
/-- One of Go's own tables, pinned by name: the form's constant. -/
def laid_unicode_utf8_first : DataW Unit := Go.Pinned.utf8First

/-- 'henkanlaw03.NumeralWrites': WHATEVER THE INPUT: true; the input reads as it did. -/
def numeralWritesSpec : ChangeSpec := { name := "numeralWrites", fn := fun _ => fun
  | [d] => { results := [.lit (.bool true)], args := [d] }
  | _ => none }
def numeralWritesRow : OpenClaim := { program := "ytcgfcedlllmbhaadoor", sum := "d09e3a272c9c496cd236d7c58b935435f9cff5ec9aab5c6ca38bbed1c5075739", func := "henkan/henkanlaw03.NumeralWrites", spec := "numeralWrites", inPlace := ["internal/bytealg.IndexByteString", "internal/bytealg.IndexString", "internal/abi.NoEscape", "internal/bytealg.MakeNoZero"], unfollowed := true, recurses := true, named := ["henkan/numeral.plain", "henkan/numeral.groups", "unicode/utf8.first", "unicode/utf8.acceptRanges", "henkan/numeral.formal", "internal/bytealg.MaxLen"], apart := false, laid := [("unicode/utf8.acceptRanges", laid_unicode_utf8_acceptRanges), ("henkan/numeral.plain", laid_henkan_numeral_plain), ("henkan/numeral.formal", laid_henkan_numeral_formal), ("henkan/numeral.groups", laid_henkan_numeral_groups), ("unicode/utf8.first", laid_unicode_utf8_first)] }
def NumeralWritesSaid : Prop := numeralWritesRow.holds Tryd.pinned (OpenSpec.ofChange numeralWritesSpec)

/-- ITS FALSE NEIGHBOUR: 'it returns false'. Refute it at one input. -/
def numeralWritesWrong : ChangeSpec := { name := "numeralWrites", fn := fun _ => fun
  | [d] => { results := [.lit (.bool false)], args := [d] }
  | _ => none }
def NumeralWritesWrongFalsely : Prop := numeralWritesRow.holds Tryd.pinned (OpenSpec.ofChange numeralWritesWrong)

/-- 'henkanlaw03.NumeralParses': WHATEVER THE INPUT: true; the input reads as it did. -/
def numeralParsesSpec : ChangeSpec := { name := "numeralParses", fn := fun _ => fun
  | [d] => { results := [.lit (.bool true)], args := [d] }
  | _ => none }
def numeralParsesRow : OpenClaim := { program := "ytcgfcedlllmbhaadoor", sum := "d09e3a272c9c496cd236d7c58b935435f9cff5ec9aab5c6ca38bbed1c5075739", func := "henkan/henkanlaw03.NumeralParses", spec := "numeralParses", inPlace := ["internal/abi.NoEscape", "internal/bytealg.IndexByteString", "internal/bytealg.IndexString", "internal/bytealg.MakeNoZero"], unfollowed := true, recurses := true, named := ["henkan/numeral.plain", "henkan/numeral.formal", "unicode/utf8.first", "unicode/utf8.acceptRanges", "henkan/numeral.groups", "internal/bytealg.MaxLen"], apart := false, laid := [("unicode/utf8.acceptRanges", laid_unicode_utf8_acceptRanges), ("henkan/numeral.plain", laid_henkan_numeral_plain), ("henkan/numeral.formal", laid_henkan_numeral_formal), ("henkan/numeral.groups", laid_henkan_numeral_groups), ("unicode/utf8.first", laid_unicode_utf8_first)] }
def NumeralParsesSaid : Prop := numeralParsesRow.holds Tryd.pinned (OpenSpec.ofChange numeralParsesSpec)

/-- ITS FALSE NEIGHBOUR: 'it returns false'. Refute it at one input. -/
def numeralParsesWrong : ChangeSpec := { name := "numeralParses", fn := fun _ => fun
  | [d] => { results := [.lit (.bool false)], args := [d] }
  | _ => none }
def NumeralParsesWrongFalsely : Prop := numeralParsesRow.holds Tryd.pinned (OpenSpec.ofChange numeralParsesWrong)

/-- 'henkanlaw03.NumeralBack': WHATEVER THE INPUT: true; the input reads as it did. -/
def numeralBackSpec : ChangeSpec := { name := "numeralBack", fn := fun _ => fun
  | [d] => { results := [.lit (.bool true)], args := [d] }
  | _ => none }
def numeralBackRow : OpenClaim := { program := "ytcgfcedlllmbhaadoor", sum := "d09e3a272c9c496cd236d7c58b935435f9cff5ec9aab5c6ca38bbed1c5075739", func := "henkan/henkanlaw03.NumeralBack", spec := "numeralBack", inPlace := ["internal/bytealg.IndexByteString", "internal/bytealg.IndexString", "internal/abi.NoEscape", "internal/bytealg.MakeNoZero"], unfollowed := true, recurses := true, named := ["henkan/numeral.plain", "henkan/numeral.groups", "unicode/utf8.first", "unicode/utf8.acceptRanges", "henkan/numeral.formal", "internal/bytealg.MaxLen"], apart := false, laid := [("unicode/utf8.acceptRanges", laid_unicode_utf8_acceptRanges), ("henkan/numeral.plain", laid_henkan_numeral_plain), ("henkan/numeral.formal", laid_henkan_numeral_formal), ("henkan/numeral.groups", laid_henkan_numeral_groups), ("unicode/utf8.first", laid_unicode_utf8_first)] }
def NumeralBackSaid : Prop := numeralBackRow.holds Tryd.pinned (OpenSpec.ofChange numeralBackSpec)

/-- ITS FALSE NEIGHBOUR: 'it returns false'. Refute it at one input. -/
def numeralBackWrong : ChangeSpec := { name := "numeralBack", fn := fun _ => fun
  | [d] => { results := [.lit (.bool false)], args := [d] }
  | _ => none }
def NumeralBackWrongFalsely : Prop := numeralBackRow.holds Tryd.pinned (OpenSpec.ofChange numeralBackWrong)

/-- 'henkanlaw03.NumeralApart': WHATEVER THE INPUT: true; the input reads as it did. -/
def numeralApartSpec : ChangeSpec := { name := "numeralApart", fn := fun _ => fun
  | [d1, d2] => { results := [.lit (.bool true)], args := [d1, d2] }
  | _ => none }
def numeralApartRow : OpenClaim := { program := "ytcgfcedlllmbhaadoor", sum := "d09e3a272c9c496cd236d7c58b935435f9cff5ec9aab5c6ca38bbed1c5075739", func := "henkan/henkanlaw03.NumeralApart", spec := "numeralApart", inPlace := ["internal/bytealg.IndexByteString", "internal/bytealg.IndexString", "internal/abi.NoEscape", "internal/bytealg.MakeNoZero"], unfollowed := true, recurses := true, named := ["henkan/numeral.plain", "henkan/numeral.groups", "unicode/utf8.first", "unicode/utf8.acceptRanges", "henkan/numeral.formal", "internal/bytealg.MaxLen"], apart := false, laid := [("unicode/utf8.acceptRanges", laid_unicode_utf8_acceptRanges), ("henkan/numeral.plain", laid_henkan_numeral_plain), ("henkan/numeral.formal", laid_henkan_numeral_formal), ("henkan/numeral.groups", laid_henkan_numeral_groups), ("unicode/utf8.first", laid_unicode_utf8_first)] }
def NumeralApartSaid : Prop := numeralApartRow.holds Tryd.pinned (OpenSpec.ofChange numeralApartSpec)

/-- ITS FALSE NEIGHBOUR: 'it returns false'. Refute it at one input. -/
def numeralApartWrong : ChangeSpec := { name := "numeralApart", fn := fun _ => fun
  | [d1, d2] => { results := [.lit (.bool false)], args := [d1, d2] }
  | _ => none }
def NumeralApartWrongFalsely : Prop := numeralApartRow.holds Tryd.pinned (OpenSpec.ofChange numeralApartWrong)

/-- 'henkanlaw03.NumeralGroups': WHATEVER THE INPUT: true; the input reads as it did. -/
def numeralGroupsSpec : ChangeSpec := { name := "numeralGroups", fn := fun _ => fun
  | [d1, d2, d3] => { results := [.lit (.bool true)], args := [d1, d2, d3] }
  | _ => none }
def numeralGroupsRow : OpenClaim := { program := "ytcgfcedlllmbhaadoor", sum := "d09e3a272c9c496cd236d7c58b935435f9cff5ec9aab5c6ca38bbed1c5075739", func := "henkan/henkanlaw03.NumeralGroups", spec := "numeralGroups", inPlace := ["internal/bytealg.IndexByteString", "internal/bytealg.IndexString", "internal/abi.NoEscape", "internal/bytealg.MakeNoZero"], unfollowed := true, recurses := true, named := ["henkan/numeral.plain", "henkan/numeral.groups", "unicode/utf8.first", "unicode/utf8.acceptRanges", "henkan/numeral.formal", "internal/bytealg.MaxLen"], apart := false, laid := [("unicode/utf8.acceptRanges", laid_unicode_utf8_acceptRanges), ("henkan/numeral.plain", laid_henkan_numeral_plain), ("henkan/numeral.formal", laid_henkan_numeral_formal), ("henkan/numeral.groups", laid_henkan_numeral_groups), ("unicode/utf8.first", laid_unicode_utf8_first)] }
def NumeralGroupsSaid : Prop := numeralGroupsRow.holds Tryd.pinned (OpenSpec.ofChange numeralGroupsSpec)

/-- ITS FALSE NEIGHBOUR: 'it returns false'. Refute it at one input. -/
def numeralGroupsWrong : ChangeSpec := { name := "numeralGroups", fn := fun _ => fun
  | [d1, d2, d3] => { results := [.lit (.bool false)], args := [d1, d2, d3] }
  | _ => none }
def NumeralGroupsWrongFalsely : Prop := numeralGroupsRow.holds Tryd.pinned (OpenSpec.ofChange numeralGroupsWrong)

/-- 'henkanlaw03.NumeralCommas': WHATEVER THE INPUT: true; the input reads as it did. -/
def numeralCommasSpec : ChangeSpec := { name := "numeralCommas", fn := fun _ => fun
  | [d] => { results := [.lit (.bool true)], args := [d] }
  | _ => none }
def numeralCommasRow : OpenClaim := { program := "ytcgfcedlllmbhaadoor", sum := "d09e3a272c9c496cd236d7c58b935435f9cff5ec9aab5c6ca38bbed1c5075739", func := "henkan/henkanlaw03.NumeralCommas", spec := "numeralCommas", inPlace := ["internal/bytealg.IndexByteString", "internal/bytealg.IndexString", "internal/abi.NoEscape", "internal/bytealg.MakeNoZero"], unfollowed := true, recurses := true, named := ["unicode/utf8.first", "unicode/utf8.acceptRanges", "henkan/numeral.plain", "henkan/numeral.groups", "henkan/numeral.formal", "internal/bytealg.MaxLen"], apart := false, laid := [("unicode/utf8.acceptRanges", laid_unicode_utf8_acceptRanges), ("henkan/numeral.plain", laid_henkan_numeral_plain), ("henkan/numeral.formal", laid_henkan_numeral_formal), ("henkan/numeral.groups", laid_henkan_numeral_groups), ("unicode/utf8.first", laid_unicode_utf8_first)] }
def NumeralCommasSaid : Prop := numeralCommasRow.holds Tryd.pinned (OpenSpec.ofChange numeralCommasSpec)

/-- ITS FALSE NEIGHBOUR: 'it returns false'. Refute it at one input. -/
def numeralCommasWrong : ChangeSpec := { name := "numeralCommas", fn := fun _ => fun
  | [d] => { results := [.lit (.bool false)], args := [d] }
  | _ => none }
def NumeralCommasWrongFalsely : Prop := numeralCommasRow.holds Tryd.pinned (OpenSpec.ofChange numeralCommasWrong)

/-- 'henkanlaw03.NumeralForms': WHATEVER THE INPUT: true; the input reads as it did. -/
def numeralFormsSpec : ChangeSpec := { name := "numeralForms", fn := fun _ => fun
  | [d] => { results := [.lit (.bool true)], args := [d] }
  | _ => none }
def numeralFormsRow : OpenClaim := { program := "ytcgfcedlllmbhaadoor", sum := "d09e3a272c9c496cd236d7c58b935435f9cff5ec9aab5c6ca38bbed1c5075739", func := "henkan/henkanlaw03.NumeralForms", spec := "numeralForms", inPlace := ["internal/abi.NoEscape", "internal/bytealg.IndexByteString", "internal/bytealg.IndexString", "internal/bytealg.MakeNoZero"], unfollowed := true, recurses := true, named := ["unicode/utf8.first", "unicode/utf8.acceptRanges", "henkan/numeral.plain", "henkan/numeral.groups", "henkan/numeral.formal", "internal/bytealg.MaxLen"], apart := false, laid := [("unicode/utf8.acceptRanges", laid_unicode_utf8_acceptRanges), ("henkan/numeral.plain", laid_henkan_numeral_plain), ("henkan/numeral.formal", laid_henkan_numeral_formal), ("henkan/numeral.groups", laid_henkan_numeral_groups), ("unicode/utf8.first", laid_unicode_utf8_first)] }
def NumeralFormsSaid : Prop := numeralFormsRow.holds Tryd.pinned (OpenSpec.ofChange numeralFormsSpec)

/-- ITS FALSE NEIGHBOUR: 'it returns false'. Refute it at one input. -/
def numeralFormsWrong : ChangeSpec := { name := "numeralForms", fn := fun _ => fun
  | [d] => { results := [.lit (.bool false)], args := [d] }
  | _ => none }
def NumeralFormsWrongFalsely : Prop := numeralFormsRow.holds Tryd.pinned (OpenSpec.ofChange numeralFormsWrong)

/-- 'henkanlaw03.NumeralOwn': WHATEVER THE INPUT: true; the input reads as it did. -/
def numeralOwnSpec : ChangeSpec := { name := "numeralOwn", fn := fun _ => fun
  | [d] => { results := [.lit (.bool true)], args := [d] }
  | _ => none }
def numeralOwnRow : OpenClaim := { program := "ytcgfcedlllmbhaadoor", sum := "d09e3a272c9c496cd236d7c58b935435f9cff5ec9aab5c6ca38bbed1c5075739", func := "henkan/henkanlaw03.NumeralOwn", spec := "numeralOwn", inPlace := ["internal/abi.NoEscape", "internal/bytealg.IndexByteString", "internal/bytealg.IndexString", "internal/bytealg.MakeNoZero"], unfollowed := true, recurses := true, named := ["unicode/utf8.first", "unicode/utf8.acceptRanges", "henkan/numeral.plain", "henkan/numeral.groups", "henkan/numeral.formal", "internal/bytealg.MaxLen"], apart := false, laid := [("unicode/utf8.acceptRanges", laid_unicode_utf8_acceptRanges), ("henkan/numeral.plain", laid_henkan_numeral_plain), ("henkan/numeral.formal", laid_henkan_numeral_formal), ("henkan/numeral.groups", laid_henkan_numeral_groups), ("unicode/utf8.first", laid_unicode_utf8_first)] }
def NumeralOwnSaid : Prop := numeralOwnRow.holds Tryd.pinned (OpenSpec.ofChange numeralOwnSpec)

/-- ITS FALSE NEIGHBOUR: 'it returns false'. Refute it at one input. -/
def numeralOwnWrong : ChangeSpec := { name := "numeralOwn", fn := fun _ => fun
  | [d] => { results := [.lit (.bool false)], args := [d] }
  | _ => none }
def NumeralOwnWrongFalsely : Prop := numeralOwnRow.holds Tryd.pinned (OpenSpec.ofChange numeralOwnWrong)

/-- 'henkanlaw03.NumeralKnown': WHATEVER THE INPUT: true; the input reads as it did. -/
def numeralKnownSpec : ChangeSpec := { name := "numeralKnown", fn := fun _ => fun
  | [] => { results := [.lit (.bool true)], args := [] }
  | _ => none }
def numeralKnownRow : OpenClaim := { program := "ytcgfcedlllmbhaadoor", sum := "d09e3a272c9c496cd236d7c58b935435f9cff5ec9aab5c6ca38bbed1c5075739", func := "henkan/henkanlaw03.NumeralKnown", spec := "numeralKnown", inPlace := ["internal/bytealg.IndexByteString", "internal/bytealg.IndexString", "internal/abi.NoEscape", "internal/bytealg.MakeNoZero"], unfollowed := true, recurses := true, named := ["henkan/numeral.plain", "henkan/numeral.groups", "unicode/utf8.first", "unicode/utf8.acceptRanges", "henkan/numeral.formal", "internal/bytealg.MaxLen"], apart := false, laid := [("unicode/utf8.acceptRanges", laid_unicode_utf8_acceptRanges), ("henkan/numeral.plain", laid_henkan_numeral_plain), ("henkan/numeral.formal", laid_henkan_numeral_formal), ("henkan/numeral.groups", laid_henkan_numeral_groups), ("unicode/utf8.first", laid_unicode_utf8_first)] }
def NumeralKnownSaid : Prop := numeralKnownRow.holds Tryd.pinned (OpenSpec.ofChange numeralKnownSpec)

/-- ITS FALSE NEIGHBOUR: 'it returns false'. Refute it at one input. -/
def numeralKnownWrong : ChangeSpec := { name := "numeralKnown", fn := fun _ => fun
  | [] => { results := [.lit (.bool false)], args := [] }
  | _ => none }
def NumeralKnownWrongFalsely : Prop := numeralKnownRow.holds Tryd.pinned (OpenSpec.ofChange numeralKnownWrong)

/- THE SECOND FORM. 'bulk': how many values and letters a reading holds, each counted each time it is reached (what is shared counts as often as it is met; a slice's spare places count too). A statement '..UptoSaid' is the law's where the arguments, and the package variables that the reading takes, are together of bulk at most 1048576: NARROWER than '..Said'. Prove '..Said' where nothing that the law and all that it calls make is longer than what came in: it says more and counts as full. Else prove '..UptoSaid'. A law counts once. -/
mutual
def uptoBulk {H : Type} : DataW H → Nat
  | .lit (.string bytes) => bytes.length + 1
  | .lit _ => 1
  | .nil => 1
  | .ptr d => uptoBulk d + 1
  | .slice elems spare => uptoBulkAll elems + uptoBulkAll spare + 1
  | .agg parts => uptoBulkAll parts + 1
  | .iface _ d => uptoBulk d + 1
  | .map entries => uptoBulkEntries entries + 1
  | .held _ => 1
def uptoBulkAll {H : Type} : List (DataW H) → Nat
  | [] => 0
  | d :: r => uptoBulk d + uptoBulkAll r
def uptoBulkEntries {H : Type} : List (Lit × DataW H) → Nat
  | [] => 0
  | x :: r => uptoBulkEntry x + uptoBulkEntries r
def uptoBulkEntry {H : Type} : Lit × DataW H → Nat
  | (.string bytes, d) => bytes.length + uptoBulk d + 1
  | (_, d) => uptoBulk d + 1
 end
def uptoSmall : (H : Type) → List (DataW H) → Bool := fun _ ds => decide (uptoBulkAll ds ≤ 1048576)
def OpenSpec.upto (s : _root_.Go.ChangeSpec) : _root_.Go.OpenSpec := { _root_.Go.OpenSpec.ofChange s with cond := some uptoSmall }

/-- 'henkanlaw03.NumeralWrites', WHERE WHAT IT READS IS OF BULK AT MOST 1048576: true; the input reads as it did. -/
def numeralWritesUptoRow : OpenClaim := { program := "ytcgfcedlllmbhaadoor", sum := "d09e3a272c9c496cd236d7c58b935435f9cff5ec9aab5c6ca38bbed1c5075739", func := "henkan/henkanlaw03.NumeralWrites", spec := "numeralWrites", inPlace := ["internal/bytealg.IndexByteString", "internal/bytealg.IndexString", "internal/abi.NoEscape", "internal/bytealg.MakeNoZero"], unfollowed := true, recurses := true, named := ["henkan/numeral.plain", "henkan/numeral.groups", "unicode/utf8.first", "unicode/utf8.acceptRanges", "henkan/numeral.formal", "internal/bytealg.MaxLen"], apart := false, laid := [("unicode/utf8.acceptRanges", laid_unicode_utf8_acceptRanges), ("henkan/numeral.plain", laid_henkan_numeral_plain), ("henkan/numeral.formal", laid_henkan_numeral_formal), ("henkan/numeral.groups", laid_henkan_numeral_groups), ("unicode/utf8.first", laid_unicode_utf8_first)], narrowed := true }
def NumeralWritesUptoSaid : Prop := numeralWritesUptoRow.holds Tryd.pinned (OpenSpec.upto numeralWritesSpec)

/-- 'henkanlaw03.NumeralParses', WHERE WHAT IT READS IS OF BULK AT MOST 1048576: true; the input reads as it did. -/
def numeralParsesUptoRow : OpenClaim := { program := "ytcgfcedlllmbhaadoor", sum := "d09e3a272c9c496cd236d7c58b935435f9cff5ec9aab5c6ca38bbed1c5075739", func := "henkan/henkanlaw03.NumeralParses", spec := "numeralParses", inPlace := ["internal/abi.NoEscape", "internal/bytealg.IndexByteString", "internal/bytealg.IndexString", "internal/bytealg.MakeNoZero"], unfollowed := true, recurses := true, named := ["henkan/numeral.plain", "henkan/numeral.formal", "unicode/utf8.first", "unicode/utf8.acceptRanges", "henkan/numeral.groups", "internal/bytealg.MaxLen"], apart := false, laid := [("unicode/utf8.acceptRanges", laid_unicode_utf8_acceptRanges), ("henkan/numeral.plain", laid_henkan_numeral_plain), ("henkan/numeral.formal", laid_henkan_numeral_formal), ("henkan/numeral.groups", laid_henkan_numeral_groups), ("unicode/utf8.first", laid_unicode_utf8_first)], narrowed := true }
def NumeralParsesUptoSaid : Prop := numeralParsesUptoRow.holds Tryd.pinned (OpenSpec.upto numeralParsesSpec)

/-- 'henkanlaw03.NumeralBack', WHERE WHAT IT READS IS OF BULK AT MOST 1048576: true; the input reads as it did. -/
def numeralBackUptoRow : OpenClaim := { program := "ytcgfcedlllmbhaadoor", sum := "d09e3a272c9c496cd236d7c58b935435f9cff5ec9aab5c6ca38bbed1c5075739", func := "henkan/henkanlaw03.NumeralBack", spec := "numeralBack", inPlace := ["internal/bytealg.IndexByteString", "internal/bytealg.IndexString", "internal/abi.NoEscape", "internal/bytealg.MakeNoZero"], unfollowed := true, recurses := true, named := ["henkan/numeral.plain", "henkan/numeral.groups", "unicode/utf8.first", "unicode/utf8.acceptRanges", "henkan/numeral.formal", "internal/bytealg.MaxLen"], apart := false, laid := [("unicode/utf8.acceptRanges", laid_unicode_utf8_acceptRanges), ("henkan/numeral.plain", laid_henkan_numeral_plain), ("henkan/numeral.formal", laid_henkan_numeral_formal), ("henkan/numeral.groups", laid_henkan_numeral_groups), ("unicode/utf8.first", laid_unicode_utf8_first)], narrowed := true }
def NumeralBackUptoSaid : Prop := numeralBackUptoRow.holds Tryd.pinned (OpenSpec.upto numeralBackSpec)

/-- 'henkanlaw03.NumeralApart', WHERE WHAT IT READS IS OF BULK AT MOST 1048576: true; the input reads as it did. -/
def numeralApartUptoRow : OpenClaim := { program := "ytcgfcedlllmbhaadoor", sum := "d09e3a272c9c496cd236d7c58b935435f9cff5ec9aab5c6ca38bbed1c5075739", func := "henkan/henkanlaw03.NumeralApart", spec := "numeralApart", inPlace := ["internal/bytealg.IndexByteString", "internal/bytealg.IndexString", "internal/abi.NoEscape", "internal/bytealg.MakeNoZero"], unfollowed := true, recurses := true, named := ["henkan/numeral.plain", "henkan/numeral.groups", "unicode/utf8.first", "unicode/utf8.acceptRanges", "henkan/numeral.formal", "internal/bytealg.MaxLen"], apart := false, laid := [("unicode/utf8.acceptRanges", laid_unicode_utf8_acceptRanges), ("henkan/numeral.plain", laid_henkan_numeral_plain), ("henkan/numeral.formal", laid_henkan_numeral_formal), ("henkan/numeral.groups", laid_henkan_numeral_groups), ("unicode/utf8.first", laid_unicode_utf8_first)], narrowed := true }
def NumeralApartUptoSaid : Prop := numeralApartUptoRow.holds Tryd.pinned (OpenSpec.upto numeralApartSpec)

/-- 'henkanlaw03.NumeralGroups', WHERE WHAT IT READS IS OF BULK AT MOST 1048576: true; the input reads as it did. -/
def numeralGroupsUptoRow : OpenClaim := { program := "ytcgfcedlllmbhaadoor", sum := "d09e3a272c9c496cd236d7c58b935435f9cff5ec9aab5c6ca38bbed1c5075739", func := "henkan/henkanlaw03.NumeralGroups", spec := "numeralGroups", inPlace := ["internal/bytealg.IndexByteString", "internal/bytealg.IndexString", "internal/abi.NoEscape", "internal/bytealg.MakeNoZero"], unfollowed := true, recurses := true, named := ["henkan/numeral.plain", "henkan/numeral.groups", "unicode/utf8.first", "unicode/utf8.acceptRanges", "henkan/numeral.formal", "internal/bytealg.MaxLen"], apart := false, laid := [("unicode/utf8.acceptRanges", laid_unicode_utf8_acceptRanges), ("henkan/numeral.plain", laid_henkan_numeral_plain), ("henkan/numeral.formal", laid_henkan_numeral_formal), ("henkan/numeral.groups", laid_henkan_numeral_groups), ("unicode/utf8.first", laid_unicode_utf8_first)], narrowed := true }
def NumeralGroupsUptoSaid : Prop := numeralGroupsUptoRow.holds Tryd.pinned (OpenSpec.upto numeralGroupsSpec)

/-- 'henkanlaw03.NumeralCommas', WHERE WHAT IT READS IS OF BULK AT MOST 1048576: true; the input reads as it did. -/
def numeralCommasUptoRow : OpenClaim := { program := "ytcgfcedlllmbhaadoor", sum := "d09e3a272c9c496cd236d7c58b935435f9cff5ec9aab5c6ca38bbed1c5075739", func := "henkan/henkanlaw03.NumeralCommas", spec := "numeralCommas", inPlace := ["internal/bytealg.IndexByteString", "internal/bytealg.IndexString", "internal/abi.NoEscape", "internal/bytealg.MakeNoZero"], unfollowed := true, recurses := true, named := ["unicode/utf8.first", "unicode/utf8.acceptRanges", "henkan/numeral.plain", "henkan/numeral.groups", "henkan/numeral.formal", "internal/bytealg.MaxLen"], apart := false, laid := [("unicode/utf8.acceptRanges", laid_unicode_utf8_acceptRanges), ("henkan/numeral.plain", laid_henkan_numeral_plain), ("henkan/numeral.formal", laid_henkan_numeral_formal), ("henkan/numeral.groups", laid_henkan_numeral_groups), ("unicode/utf8.first", laid_unicode_utf8_first)], narrowed := true }
def NumeralCommasUptoSaid : Prop := numeralCommasUptoRow.holds Tryd.pinned (OpenSpec.upto numeralCommasSpec)

/-- 'henkanlaw03.NumeralForms', WHERE WHAT IT READS IS OF BULK AT MOST 1048576: true; the input reads as it did. -/
def numeralFormsUptoRow : OpenClaim := { program := "ytcgfcedlllmbhaadoor", sum := "d09e3a272c9c496cd236d7c58b935435f9cff5ec9aab5c6ca38bbed1c5075739", func := "henkan/henkanlaw03.NumeralForms", spec := "numeralForms", inPlace := ["internal/abi.NoEscape", "internal/bytealg.IndexByteString", "internal/bytealg.IndexString", "internal/bytealg.MakeNoZero"], unfollowed := true, recurses := true, named := ["unicode/utf8.first", "unicode/utf8.acceptRanges", "henkan/numeral.plain", "henkan/numeral.groups", "henkan/numeral.formal", "internal/bytealg.MaxLen"], apart := false, laid := [("unicode/utf8.acceptRanges", laid_unicode_utf8_acceptRanges), ("henkan/numeral.plain", laid_henkan_numeral_plain), ("henkan/numeral.formal", laid_henkan_numeral_formal), ("henkan/numeral.groups", laid_henkan_numeral_groups), ("unicode/utf8.first", laid_unicode_utf8_first)], narrowed := true }
def NumeralFormsUptoSaid : Prop := numeralFormsUptoRow.holds Tryd.pinned (OpenSpec.upto numeralFormsSpec)

/-- 'henkanlaw03.NumeralOwn', WHERE WHAT IT READS IS OF BULK AT MOST 1048576: true; the input reads as it did. -/
def numeralOwnUptoRow : OpenClaim := { program := "ytcgfcedlllmbhaadoor", sum := "d09e3a272c9c496cd236d7c58b935435f9cff5ec9aab5c6ca38bbed1c5075739", func := "henkan/henkanlaw03.NumeralOwn", spec := "numeralOwn", inPlace := ["internal/abi.NoEscape", "internal/bytealg.IndexByteString", "internal/bytealg.IndexString", "internal/bytealg.MakeNoZero"], unfollowed := true, recurses := true, named := ["unicode/utf8.first", "unicode/utf8.acceptRanges", "henkan/numeral.plain", "henkan/numeral.groups", "henkan/numeral.formal", "internal/bytealg.MaxLen"], apart := false, laid := [("unicode/utf8.acceptRanges", laid_unicode_utf8_acceptRanges), ("henkan/numeral.plain", laid_henkan_numeral_plain), ("henkan/numeral.formal", laid_henkan_numeral_formal), ("henkan/numeral.groups", laid_henkan_numeral_groups), ("unicode/utf8.first", laid_unicode_utf8_first)], narrowed := true }
def NumeralOwnUptoSaid : Prop := numeralOwnUptoRow.holds Tryd.pinned (OpenSpec.upto numeralOwnSpec)

/-- 'henkanlaw03.NumeralKnown', WHERE WHAT IT READS IS OF BULK AT MOST 1048576: true; the input reads as it did. -/
def numeralKnownUptoRow : OpenClaim := { program := "ytcgfcedlllmbhaadoor", sum := "d09e3a272c9c496cd236d7c58b935435f9cff5ec9aab5c6ca38bbed1c5075739", func := "henkan/henkanlaw03.NumeralKnown", spec := "numeralKnown", inPlace := ["internal/bytealg.IndexByteString", "internal/bytealg.IndexString", "internal/abi.NoEscape", "internal/bytealg.MakeNoZero"], unfollowed := true, recurses := true, named := ["henkan/numeral.plain", "henkan/numeral.groups", "unicode/utf8.first", "unicode/utf8.acceptRanges", "henkan/numeral.formal", "internal/bytealg.MaxLen"], apart := false, laid := [("unicode/utf8.acceptRanges", laid_unicode_utf8_acceptRanges), ("henkan/numeral.plain", laid_henkan_numeral_plain), ("henkan/numeral.formal", laid_henkan_numeral_formal), ("henkan/numeral.groups", laid_henkan_numeral_groups), ("unicode/utf8.first", laid_unicode_utf8_first)], narrowed := true }
def NumeralKnownUptoSaid : Prop := numeralKnownUptoRow.holds Tryd.pinned (OpenSpec.upto numeralKnownSpec)

end Rows
end Go.Proofs.YtcgfcedlllmbhaaDoor
