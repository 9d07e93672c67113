/-
  NARROWER THAN 'FOR EVERY INPUT', by the rows' own cells (each row's printed sentence says how): RomanParses: laid · RomanPrints: laid · RomanReturns: laid · RomanLines: laid · RomanOrders: laid · RomanFinds: laid · RomanDefault: laid · RomanKnown: laid.
  DERIVED. THE GIVEN ROWS OF THIS SEAT. 8 by the template 'for every input the law returns true; each argument reads behind the call as it read before'; 0 by the template 'total and deterministic' (their statements: YtbdekjfimojkbaaDoorTotals.lean).
  GIVEN WITH THE SEED: the statements are not yours to turn. If you find one false, say at which input.
  Laid BY PROGRAM, IN A SANDBOX (cutbox-rows.mjs): the forced cells as the released guide's own fill.sh prints them over the translation 0f3a0abd3f8decd3… (all of the seat's roots in one cut). By AI agents, Wed Nov 11 2026. No macro, syntax, notation, axiom, sorry.
-/
import Derived.Test.YtbdekjfimojkbaaDoorChecked
import GoSem.PinnedTables
import GoSem.Claim
import GoSem.ClaimJoined
import GoSem.ClaimMapViews
import Derived.JoinedTies
import Derived.KernelRfl
namespace Go.Proofs.YtbdekjfimojkbaaDoor
/- THE CELL 'sum', in the pinned program and in every row, IS THE sha256 OF THE DUMP (.gsa) THAT YtbdekjfimojkbaaDoorProg.lean LOADS. Nothing in Lean hashes anything: it is a label: what it is worth is what the hold of that sum in a sandbox is worth. -/
noncomputable def Tryd.pinned : Pinned := { name := "ytbdekjfimojkbaadoor", sum := "0f3a0abd3f8decd3b1958eb861e5fe308b783b2096115c2749bff84248f9eac5", checked := Tryd.checked }
namespace Rows
def none {H : Type} : Left H := { results := [], args := [] }

/- WHAT THE LISTED PACKAGE-LEVEL VARIABLES READ AS WHEN THE CALL BEGINS. Each datum BY PROGRAM (the guide's laid-datum.mjs) off the statement by which the dump's own 'gosem.cut.vars' lays the variable. In a bare row this is a premise. The card (YtbdekjfimojkbaaDoorCards.lean) ties it to the program's text. -/
def laid_unicode_utf8_acceptRanges {H : Type} : DataW H := .agg [.agg [.lit (.int .u8 128), .lit (.int .u8 191)], .agg [.lit (.int .u8 160), .lit (.int .u8 191)], .agg [.lit (.int .u8 128), .lit (.int .u8 159)], .agg [.lit (.int .u8 144), .lit (.int .u8 191)], .agg [.lit (.int .u8 128), .lit (.int .u8 143)], .agg [.lit (.int .u8 0), .lit (.int .u8 0)], .agg [.lit (.int .u8 0), .lit (.int .u8 0)], .agg [.lit (.int .u8 0), .lit (.int .u8 0)], .agg [.lit (.int .u8 0), .lit (.int .u8 0)], .agg [.lit (.int .u8 0), .lit (.int .u8 0)], .agg [.lit (.int .u8 0), .lit (.int .u8 0)], .agg [.lit (.int .u8 0), .lit (.int .u8 0)], .agg [.lit (.int .u8 0), .lit (.int .u8 0)], .agg [.lit (.int .u8 0), .lit (.int .u8 0)], .agg [.lit (.int .u8 0), .lit (.int .u8 0)], .agg [.lit (.int .u8 0), .lit (.int .u8 0)]]
/-- One of Go's own tables, pinned by name: the form's constant. -/
def laid_unicode_utf8_first : DataW Unit := Go.Pinned.utf8First

/-- 'henkanlaw05.RomanParses': WHATEVER THE INPUT: true; the input reads as it did. -/
def romanParsesSpec : ChangeSpec := { name := "romanParses", fn := fun _ => fun
  | [d] => { results := [.lit (.bool true)], args := [d] }
  | _ => none }
def romanParsesRow : OpenClaim := { program := "ytbdekjfimojkbaadoor", sum := "0f3a0abd3f8decd3b1958eb861e5fe308b783b2096115c2749bff84248f9eac5", func := "henkan/henkanlaw05.RomanParses", spec := "romanParses", inPlace := ["internal/bytealg.CountString", "internal/bytealg.IndexByteString", "internal/bytealg.IndexString", "internal/abi.NoEscape"], unfollowed := true, recurses := true, named := ["unicode/utf8.first", "unicode/utf8.acceptRanges", "internal/bytealg.MaxLen"], apart := false, laid := [("unicode/utf8.acceptRanges", laid_unicode_utf8_acceptRanges), ("unicode/utf8.first", laid_unicode_utf8_first)] }
def RomanParsesSaid : Prop := romanParsesRow.holds Tryd.pinned (OpenSpec.ofChange romanParsesSpec)

/-- ITS FALSE NEIGHBOUR: 'it returns false'. Refute it at one input. -/
def romanParsesWrong : ChangeSpec := { name := "romanParses", fn := fun _ => fun
  | [d] => { results := [.lit (.bool false)], args := [d] }
  | _ => none }
def RomanParsesWrongFalsely : Prop := romanParsesRow.holds Tryd.pinned (OpenSpec.ofChange romanParsesWrong)

/-- 'henkanlaw05.RomanPrints': WHATEVER THE INPUT: true; the input reads as it did. -/
def romanPrintsSpec : ChangeSpec := { name := "romanPrints", fn := fun _ => fun
  | [d] => { results := [.lit (.bool true)], args := [d] }
  | _ => none }
def romanPrintsRow : OpenClaim := { program := "ytbdekjfimojkbaadoor", sum := "0f3a0abd3f8decd3b1958eb861e5fe308b783b2096115c2749bff84248f9eac5", func := "henkan/henkanlaw05.RomanPrints", spec := "romanPrints", inPlace := ["internal/bytealg.IndexByteString", "internal/bytealg.IndexString", "internal/abi.NoEscape", "internal/bytealg.CountString"], unfollowed := true, recurses := true, named := ["unicode/utf8.first", "unicode/utf8.acceptRanges", "internal/bytealg.MaxLen"], apart := false, laid := [("unicode/utf8.acceptRanges", laid_unicode_utf8_acceptRanges), ("unicode/utf8.first", laid_unicode_utf8_first)] }
def RomanPrintsSaid : Prop := romanPrintsRow.holds Tryd.pinned (OpenSpec.ofChange romanPrintsSpec)

/-- ITS FALSE NEIGHBOUR: 'it returns false'. Refute it at one input. -/
def romanPrintsWrong : ChangeSpec := { name := "romanPrints", fn := fun _ => fun
  | [d] => { results := [.lit (.bool false)], args := [d] }
  | _ => none }
def RomanPrintsWrongFalsely : Prop := romanPrintsRow.holds Tryd.pinned (OpenSpec.ofChange romanPrintsWrong)

/-- 'henkanlaw05.RomanReturns': WHATEVER THE INPUT: true; the input reads as it did. -/
def romanReturnsSpec : ChangeSpec := { name := "romanReturns", fn := fun _ => fun
  | [d1, d2] => { results := [.lit (.bool true)], args := [d1, d2] }
  | _ => none }
def romanReturnsRow : OpenClaim := { program := "ytbdekjfimojkbaadoor", sum := "0f3a0abd3f8decd3b1958eb861e5fe308b783b2096115c2749bff84248f9eac5", func := "henkan/henkanlaw05.RomanReturns", spec := "romanReturns", inPlace := ["internal/bytealg.IndexByteString", "internal/bytealg.IndexString", "internal/abi.NoEscape", "internal/bytealg.CountString"], unfollowed := true, recurses := true, named := ["unicode/utf8.first", "unicode/utf8.acceptRanges", "internal/bytealg.MaxLen"], apart := false, laid := [("unicode/utf8.acceptRanges", laid_unicode_utf8_acceptRanges), ("unicode/utf8.first", laid_unicode_utf8_first)] }
def RomanReturnsSaid : Prop := romanReturnsRow.holds Tryd.pinned (OpenSpec.ofChange romanReturnsSpec)

/-- ITS FALSE NEIGHBOUR: 'it returns false'. Refute it at one input. -/
def romanReturnsWrong : ChangeSpec := { name := "romanReturns", fn := fun _ => fun
  | [d1, d2] => { results := [.lit (.bool false)], args := [d1, d2] }
  | _ => none }
def RomanReturnsWrongFalsely : Prop := romanReturnsRow.holds Tryd.pinned (OpenSpec.ofChange romanReturnsWrong)

/-- 'henkanlaw05.RomanLines': WHATEVER THE INPUT: true; the input reads as it did. -/
def romanLinesSpec : ChangeSpec := { name := "romanLines", fn := fun _ => fun
  | [d1, d2, d3] => { results := [.lit (.bool true)], args := [d1, d2, d3] }
  | _ => none }
def romanLinesRow : OpenClaim := { program := "ytbdekjfimojkbaadoor", sum := "0f3a0abd3f8decd3b1958eb861e5fe308b783b2096115c2749bff84248f9eac5", func := "henkan/henkanlaw05.RomanLines", spec := "romanLines", inPlace := ["internal/bytealg.CountString", "internal/bytealg.IndexByteString", "internal/bytealg.IndexString", "internal/abi.NoEscape"], unfollowed := true, recurses := true, named := ["unicode/utf8.first", "unicode/utf8.acceptRanges", "internal/bytealg.MaxLen"], apart := false, laid := [("unicode/utf8.acceptRanges", laid_unicode_utf8_acceptRanges), ("unicode/utf8.first", laid_unicode_utf8_first)] }
def RomanLinesSaid : Prop := romanLinesRow.holds Tryd.pinned (OpenSpec.ofChange romanLinesSpec)

/-- ITS FALSE NEIGHBOUR: 'it returns false'. Refute it at one input. -/
def romanLinesWrong : ChangeSpec := { name := "romanLines", fn := fun _ => fun
  | [d1, d2, d3] => { results := [.lit (.bool false)], args := [d1, d2, d3] }
  | _ => none }
def RomanLinesWrongFalsely : Prop := romanLinesRow.holds Tryd.pinned (OpenSpec.ofChange romanLinesWrong)

/-- 'henkanlaw05.RomanOrders': WHATEVER THE INPUT: true; the input reads as it did. -/
def romanOrdersSpec : ChangeSpec := { name := "romanOrders", fn := fun _ => fun
  | [d1, d2] => { results := [.lit (.bool true)], args := [d1, d2] }
  | _ => none }
def romanOrdersRow : OpenClaim := { program := "ytbdekjfimojkbaadoor", sum := "0f3a0abd3f8decd3b1958eb861e5fe308b783b2096115c2749bff84248f9eac5", func := "henkan/henkanlaw05.RomanOrders", spec := "romanOrders", inPlace := ["internal/bytealg.IndexByteString", "internal/bytealg.IndexString", "internal/bytealg.CountString", "internal/abi.NoEscape"], unfollowed := true, recurses := true, named := ["unicode/utf8.first", "unicode/utf8.acceptRanges", "internal/bytealg.MaxLen"], apart := false, laid := [("unicode/utf8.acceptRanges", laid_unicode_utf8_acceptRanges), ("unicode/utf8.first", laid_unicode_utf8_first)] }
def RomanOrdersSaid : Prop := romanOrdersRow.holds Tryd.pinned (OpenSpec.ofChange romanOrdersSpec)

/-- ITS FALSE NEIGHBOUR: 'it returns false'. Refute it at one input. -/
def romanOrdersWrong : ChangeSpec := { name := "romanOrders", fn := fun _ => fun
  | [d1, d2] => { results := [.lit (.bool false)], args := [d1, d2] }
  | _ => none }
def RomanOrdersWrongFalsely : Prop := romanOrdersRow.holds Tryd.pinned (OpenSpec.ofChange romanOrdersWrong)

/-- 'henkanlaw05.RomanFinds': WHATEVER THE INPUT: true; the input reads as it did. -/
def romanFindsSpec : ChangeSpec := { name := "romanFinds", fn := fun _ => fun
  | [d1, d2] => { results := [.lit (.bool true)], args := [d1, d2] }
  | _ => none }
def romanFindsRow : OpenClaim := { program := "ytbdekjfimojkbaadoor", sum := "0f3a0abd3f8decd3b1958eb861e5fe308b783b2096115c2749bff84248f9eac5", func := "henkan/henkanlaw05.RomanFinds", spec := "romanFinds", inPlace := ["internal/bytealg.CountString", "internal/bytealg.IndexByteString", "internal/bytealg.IndexString", "internal/abi.NoEscape"], unfollowed := true, recurses := true, named := ["unicode/utf8.first", "unicode/utf8.acceptRanges", "internal/bytealg.MaxLen"], apart := false, laid := [("unicode/utf8.acceptRanges", laid_unicode_utf8_acceptRanges), ("unicode/utf8.first", laid_unicode_utf8_first)] }
def RomanFindsSaid : Prop := romanFindsRow.holds Tryd.pinned (OpenSpec.ofChange romanFindsSpec)

/-- ITS FALSE NEIGHBOUR: 'it returns false'. Refute it at one input. -/
def romanFindsWrong : ChangeSpec := { name := "romanFinds", fn := fun _ => fun
  | [d1, d2] => { results := [.lit (.bool false)], args := [d1, d2] }
  | _ => none }
def RomanFindsWrongFalsely : Prop := romanFindsRow.holds Tryd.pinned (OpenSpec.ofChange romanFindsWrong)

/-- 'henkanlaw05.RomanDefault': WHATEVER THE INPUT: true; the input reads as it did. -/
def romanDefaultSpec : ChangeSpec := { name := "romanDefault", fn := fun _ => fun
  | [] => { results := [.lit (.bool true)], args := [] }
  | _ => none }
def romanDefaultRow : OpenClaim := { program := "ytbdekjfimojkbaadoor", sum := "0f3a0abd3f8decd3b1958eb861e5fe308b783b2096115c2749bff84248f9eac5", func := "henkan/henkanlaw05.RomanDefault", spec := "romanDefault", inPlace := ["internal/bytealg.CountString", "internal/bytealg.IndexByteString", "internal/bytealg.IndexString", "internal/abi.NoEscape"], unfollowed := true, recurses := true, named := ["unicode/utf8.first", "unicode/utf8.acceptRanges", "internal/bytealg.MaxLen"], apart := false, laid := [("unicode/utf8.acceptRanges", laid_unicode_utf8_acceptRanges), ("unicode/utf8.first", laid_unicode_utf8_first)] }
def RomanDefaultSaid : Prop := romanDefaultRow.holds Tryd.pinned (OpenSpec.ofChange romanDefaultSpec)

/-- ITS FALSE NEIGHBOUR: 'it returns false'. Refute it at one input. -/
def romanDefaultWrong : ChangeSpec := { name := "romanDefault", fn := fun _ => fun
  | [] => { results := [.lit (.bool false)], args := [] }
  | _ => none }
def RomanDefaultWrongFalsely : Prop := romanDefaultRow.holds Tryd.pinned (OpenSpec.ofChange romanDefaultWrong)

/-- 'henkanlaw05.RomanKnown': WHATEVER THE INPUT: true; the input reads as it did. -/
def romanKnownSpec : ChangeSpec := { name := "romanKnown", fn := fun _ => fun
  | [] => { results := [.lit (.bool true)], args := [] }
  | _ => none }
def romanKnownRow : OpenClaim := { program := "ytbdekjfimojkbaadoor", sum := "0f3a0abd3f8decd3b1958eb861e5fe308b783b2096115c2749bff84248f9eac5", func := "henkan/henkanlaw05.RomanKnown", spec := "romanKnown", inPlace := ["internal/bytealg.CountString", "internal/bytealg.IndexByteString", "internal/bytealg.IndexString", "internal/abi.NoEscape"], unfollowed := true, recurses := true, named := ["unicode/utf8.first", "unicode/utf8.acceptRanges", "internal/bytealg.MaxLen"], apart := false, laid := [("unicode/utf8.acceptRanges", laid_unicode_utf8_acceptRanges), ("unicode/utf8.first", laid_unicode_utf8_first)] }
def RomanKnownSaid : Prop := romanKnownRow.holds Tryd.pinned (OpenSpec.ofChange romanKnownSpec)

/-- ITS FALSE NEIGHBOUR: 'it returns false'. Refute it at one input. -/
def romanKnownWrong : ChangeSpec := { name := "romanKnown", fn := fun _ => fun
  | [] => { results := [.lit (.bool false)], args := [] }
  | _ => none }
def RomanKnownWrongFalsely : Prop := romanKnownRow.holds Tryd.pinned (OpenSpec.ofChange romanKnownWrong)

/- THE SECOND FORM. 'bulk': how many values and letters a reading holds, each counted each time it is reached (what is shared counts as often as it is met; a slice's spare places count too). A statement '..UptoSaid' is the law's where the arguments, and the package variables that the reading takes, are together of bulk at most 1048576: NARROWER than '..Said'. Prove '..Said' where nothing that the law and all that it calls make is longer than what came in: it says more and counts as full. Else prove '..UptoSaid'. A law counts once. -/
mutual
def uptoBulk {H : Type} : DataW H → Nat
  | .lit (.string bytes) => bytes.length + 1
  | .lit _ => 1
  | .nil => 1
  | .ptr d => uptoBulk d + 1
  | .slice elems spare => uptoBulkAll elems + uptoBulkAll spare + 1
  | .agg parts => uptoBulkAll parts + 1
  | .iface _ d => uptoBulk d + 1
  | .map entries => uptoBulkEntries entries + 1
  | .held _ => 1
def uptoBulkAll {H : Type} : List (DataW H) → Nat
  | [] => 0
  | d :: r => uptoBulk d + uptoBulkAll r
def uptoBulkEntries {H : Type} : List (Lit × DataW H) → Nat
  | [] => 0
  | x :: r => uptoBulkEntry x + uptoBulkEntries r
def uptoBulkEntry {H : Type} : Lit × DataW H → Nat
  | (.string bytes, d) => bytes.length + uptoBulk d + 1
  | (_, d) => uptoBulk d + 1
 end
def uptoSmall : (H : Type) → List (DataW H) → Bool := fun _ ds => decide (uptoBulkAll ds ≤ 1048576)
def OpenSpec.upto (s : _root_.Go.ChangeSpec) : _root_.Go.OpenSpec := { _root_.Go.OpenSpec.ofChange s with cond := some uptoSmall }

/-- 'henkanlaw05.RomanParses', WHERE WHAT IT READS IS OF BULK AT MOST 1048576: true; the input reads as it did. -/
def romanParsesUptoRow : OpenClaim := { program := "ytbdekjfimojkbaadoor", sum := "0f3a0abd3f8decd3b1958eb861e5fe308b783b2096115c2749bff84248f9eac5", func := "henkan/henkanlaw05.RomanParses", spec := "romanParses", inPlace := ["internal/bytealg.CountString", "internal/bytealg.IndexByteString", "internal/bytealg.IndexString", "internal/abi.NoEscape"], unfollowed := true, recurses := true, named := ["unicode/utf8.first", "unicode/utf8.acceptRanges", "internal/bytealg.MaxLen"], apart := false, laid := [("unicode/utf8.acceptRanges", laid_unicode_utf8_acceptRanges), ("unicode/utf8.first", laid_unicode_utf8_first)], narrowed := true }
def RomanParsesUptoSaid : Prop := romanParsesUptoRow.holds Tryd.pinned (OpenSpec.upto romanParsesSpec)

/-- 'henkanlaw05.RomanPrints', WHERE WHAT IT READS IS OF BULK AT MOST 1048576: true; the input reads as it did. -/
def romanPrintsUptoRow : OpenClaim := { program := "ytbdekjfimojkbaadoor", sum := "0f3a0abd3f8decd3b1958eb861e5fe308b783b2096115c2749bff84248f9eac5", func := "henkan/henkanlaw05.RomanPrints", spec := "romanPrints", inPlace := ["internal/bytealg.IndexByteString", "internal/bytealg.IndexString", "internal/abi.NoEscape", "internal/bytealg.CountString"], unfollowed := true, recurses := true, named := ["unicode/utf8.first", "unicode/utf8.acceptRanges", "internal/bytealg.MaxLen"], apart := false, laid := [("unicode/utf8.acceptRanges", laid_unicode_utf8_acceptRanges), ("unicode/utf8.first", laid_unicode_utf8_first)], narrowed := true }
def RomanPrintsUptoSaid : Prop := romanPrintsUptoRow.holds Tryd.pinned (OpenSpec.upto romanPrintsSpec)

/-- 'henkanlaw05.RomanReturns', WHERE WHAT IT READS IS OF BULK AT MOST 1048576: true; the input reads as it did. -/
def romanReturnsUptoRow : OpenClaim := { program := "ytbdekjfimojkbaadoor", sum := "0f3a0abd3f8decd3b1958eb861e5fe308b783b2096115c2749bff84248f9eac5", func := "henkan/henkanlaw05.RomanReturns", spec := "romanReturns", inPlace := ["internal/bytealg.IndexByteString", "internal/bytealg.IndexString", "internal/abi.NoEscape", "internal/bytealg.CountString"], unfollowed := true, recurses := true, named := ["unicode/utf8.first", "unicode/utf8.acceptRanges", "internal/bytealg.MaxLen"], apart := false, laid := [("unicode/utf8.acceptRanges", laid_unicode_utf8_acceptRanges), ("unicode/utf8.first", laid_unicode_utf8_first)], narrowed := true }
def RomanReturnsUptoSaid : Prop := romanReturnsUptoRow.holds Tryd.pinned (OpenSpec.upto romanReturnsSpec)

/-- 'henkanlaw05.RomanLines', WHERE WHAT IT READS IS OF BULK AT MOST 1048576: true; the input reads as it did. -/
def romanLinesUptoRow : OpenClaim := { program := "ytbdekjfimojkbaadoor", sum := "0f3a0abd3f8decd3b1958eb861e5fe308b783b2096115c2749bff84248f9eac5", func := "henkan/henkanlaw05.RomanLines", spec := "romanLines", inPlace := ["internal/bytealg.CountString", "internal/bytealg.IndexByteString", "internal/bytealg.IndexString", "internal/abi.NoEscape"], unfollowed := true, recurses := true, named := ["unicode/utf8.first", "unicode/utf8.acceptRanges", "internal/bytealg.MaxLen"], apart := false, laid := [("unicode/utf8.acceptRanges", laid_unicode_utf8_acceptRanges), ("unicode/utf8.first", laid_unicode_utf8_first)], narrowed := true }
def RomanLinesUptoSaid : Prop := romanLinesUptoRow.holds Tryd.pinned (OpenSpec.upto romanLinesSpec)

/-- 'henkanlaw05.RomanOrders', WHERE WHAT IT READS IS OF BULK AT MOST 1048576: true; the input reads as it did. -/
def romanOrdersUptoRow : OpenClaim := { program := "ytbdekjfimojkbaadoor", sum := "0f3a0abd3f8decd3b1958eb861e5fe308b783b2096115c2749bff84248f9eac5", func := "henkan/henkanlaw05.RomanOrders", spec := "romanOrders", inPlace := ["internal/bytealg.IndexByteString", "internal/bytealg.IndexString", "internal/bytealg.CountString", "internal/abi.NoEscape"], unfollowed := true, recurses := true, named := ["unicode/utf8.first", "unicode/utf8.acceptRanges", "internal/bytealg.MaxLen"], apart := false, laid := [("unicode/utf8.acceptRanges", laid_unicode_utf8_acceptRanges), ("unicode/utf8.first", laid_unicode_utf8_first)], narrowed := true }
def RomanOrdersUptoSaid : Prop := romanOrdersUptoRow.holds Tryd.pinned (OpenSpec.upto romanOrdersSpec)

/-- 'henkanlaw05.RomanFinds', WHERE WHAT IT READS IS OF BULK AT MOST 1048576: true; the input reads as it did. -/
def romanFindsUptoRow : OpenClaim := { program := "ytbdekjfimojkbaadoor", sum := "0f3a0abd3f8decd3b1958eb861e5fe308b783b2096115c2749bff84248f9eac5", func := "henkan/henkanlaw05.RomanFinds", spec := "romanFinds", inPlace := ["internal/bytealg.CountString", "internal/bytealg.IndexByteString", "internal/bytealg.IndexString", "internal/abi.NoEscape"], unfollowed := true, recurses := true, named := ["unicode/utf8.first", "unicode/utf8.acceptRanges", "internal/bytealg.MaxLen"], apart := false, laid := [("unicode/utf8.acceptRanges", laid_unicode_utf8_acceptRanges), ("unicode/utf8.first", laid_unicode_utf8_first)], narrowed := true }
def RomanFindsUptoSaid : Prop := romanFindsUptoRow.holds Tryd.pinned (OpenSpec.upto romanFindsSpec)

/-- 'henkanlaw05.RomanDefault', WHERE WHAT IT READS IS OF BULK AT MOST 1048576: true; the input reads as it did. -/
def romanDefaultUptoRow : OpenClaim := { program := "ytbdekjfimojkbaadoor", sum := "0f3a0abd3f8decd3b1958eb861e5fe308b783b2096115c2749bff84248f9eac5", func := "henkan/henkanlaw05.RomanDefault", spec := "romanDefault", inPlace := ["internal/bytealg.CountString", "internal/bytealg.IndexByteString", "internal/bytealg.IndexString", "internal/abi.NoEscape"], unfollowed := true, recurses := true, named := ["unicode/utf8.first", "unicode/utf8.acceptRanges", "internal/bytealg.MaxLen"], apart := false, laid := [("unicode/utf8.acceptRanges", laid_unicode_utf8_acceptRanges), ("unicode/utf8.first", laid_unicode_utf8_first)], narrowed := true }
def RomanDefaultUptoSaid : Prop := romanDefaultUptoRow.holds Tryd.pinned (OpenSpec.upto romanDefaultSpec)

/-- 'henkanlaw05.RomanKnown', WHERE WHAT IT READS IS OF BULK AT MOST 1048576: true; the input reads as it did. -/
def romanKnownUptoRow : OpenClaim := { program := "ytbdekjfimojkbaadoor", sum := "0f3a0abd3f8decd3b1958eb861e5fe308b783b2096115c2749bff84248f9eac5", func := "henkan/henkanlaw05.RomanKnown", spec := "romanKnown", inPlace := ["internal/bytealg.CountString", "internal/bytealg.IndexByteString", "internal/bytealg.IndexString", "internal/abi.NoEscape"], unfollowed := true, recurses := true, named := ["unicode/utf8.first", "unicode/utf8.acceptRanges", "internal/bytealg.MaxLen"], apart := false, laid := [("unicode/utf8.acceptRanges", laid_unicode_utf8_acceptRanges), ("unicode/utf8.first", laid_unicode_utf8_first)], narrowed := true }
def RomanKnownUptoSaid : Prop := romanKnownUptoRow.holds Tryd.pinned (OpenSpec.upto romanKnownSpec)

end Rows
end Go.Proofs.YtbdekjfimojkbaaDoor
